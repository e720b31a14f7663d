/- The functions of the program as functions of Lean, and that the program computes them; printed by a program of mine. Conditions: none. -/
import Derived.KernelRfl
import Derived.Test.YtibiblkamaajeaaGreatProg
import Derived.Test.YtibiblkamaajeaaGreatTsE
import Derived.Test.YtibiblkamaajeaaGreatTtB
import Derived.Test.YtibiblkamaajeaaGreatLay41
import Derived.Test.YtibiblkamaajeaaGreatUse41
open Tr Go Go.Proofs
namespace Q
noncomputable section
abbrev Y3:Ty:= .int .i64
abbrev Y4:Ty:= .bool
abbrev Y9:Ty:= .str
abbrev Y83:Ty:= .prod Y9 (.prod Y3 (.prod Y4 (.prod Y3 .unit)))
abbrev Y22:Ty:= .sl Y83
abbrev Y85:Ty:= .prod Y9 (.prod Y3 (.prod Y4 .unit))
abbrev Y23:Ty:= .sl Y85
abbrev Y87:Ty:= .prod Y3 (.prod Y3 (.prod Y3 (.prod Y4 (.prod Y4 .unit))))
abbrev Y58:Ty:= .sl Y87
abbrev Y60:Ty:= .prod Y3 (.prod Y3 (.prod Y3 (.prod Y9 (.prod Y3 (.prod Y4 (.prod Y4 (.prod Y58 .unit)))))))
abbrev Y24:Ty:= .sl Y60
abbrev Y63:Ty:= .prod Y3 (.prod Y3 (.prod Y3 (.prod Y3 (.prod Y4 .unit))))
abbrev Y25:Ty:= .sl Y63
abbrev Y79:Ty:= .prod Y3 (.prod Y3 (.prod Y3 (.prod Y4 .unit)))
abbrev Y26:Ty:= .sl Y79
abbrev Zpb:Ty:= .prod Y9 (.prod Y3 (.prod Y3 (.prod Y3 (.prod Y3 (.prod Y3 .unit)))))
abbrev Y27:Ty:= .sl Zpb
abbrev Y29:Ty:= .prod Y27 (.prod Y3 (.prod Y3 (.prod Y3 .unit)))
abbrev Y31:Ty:= .prod Y22 (.prod Y23 (.prod Y24 (.prod Y25 (.prod Y26 (.prod Y29 .unit)))))
abbrev Y33:Ty:= .prod Y3 (.prod Y3 (.prod Y3 (.prod Y4 (.prod Y3 (.prod Y3 (.prod Y4 (.prod Y4 (.prod Y3 (.prod Y4 .unit)))))))))
abbrev Y36:Ty:= .int .i64
abbrev Y52:Ty:= .sl Y3
abbrev Y38:Ty:= .sl Y52
abbrev Y66:Ty:= .prod Y4 (.prod Y3 (.prod Y3 (.prod Y3 (.prod Y3 (.prod Y3 (.prod Y3 (.prod Y3 (.prod Y4 .unit))))))))
abbrev Y41:Ty:= .sl Y66
abbrev Y43:Ty:= .prod Y41 .unit
abbrev Y50:Ty:= .sl Y43
abbrev Y74:Ty:= .prod Y3 (.prod Y3 (.prod Y3 (.prod Y3 (.prod Y3 (.prod Y3 .unit)))))
abbrev Y72:Ty:= .sl Y74
abbrev Y69:Ty:= .sl Y72
abbrev Zg1:Ty:= .prod Y3 (.prod Y3 (.prod Y4 .unit))
abbrev Y95:Ty:= .sl Zg1
abbrev ZtL:Ty:= .prod Y66 (.prod Y3 .unit)
abbrev Y97:Ty:= .sl ZtL
abbrev Y99:Ty:= .prod Y31 (.prod Y97 (.prod Y72 (.prod Y95 (.prod Y95 (.prod Y52 (.prod Y38 .unit))))))
abbrev Zt2:Ty:= .prod Y3 (.prod Y3 (.prod Y3 (.prod Y3 (.prod Y3 .unit))))
abbrev ZuE:Ty:= .prod Y3 (.prod Y3 (.prod Y3 (.prod Y3 .unit)))
abbrev Zrt:Ty:= .sl ZuE
abbrev ZuX:Ty:= .prod Y3 (.prod Y3 (.prod Y3 (.prod Y3 .unit)))
abbrev Zks:Ty:= .sl ZuX
abbrev ZcD:Ty:= .prod Y3 (.prod Y3 (.prod Y36 .unit))
abbrev ZsY:Ty:= .prod Y4 (.prod Y3 (.prod Zrt .unit))
abbrev ZvC:Ty:= .sl ZsY
abbrev Zvu:Ty:= .ref
abbrev Zur:Ty:= .sl ZcD
abbrev Zru:Ty:= .prod Y9 (.prod Y3 (.prod Y3 .unit))
abbrev ZvB:Ty:= .ref
abbrev Zvr:Ty:= .ref
abbrev ZvA:Ty:= .ref
abbrev Zkn:Ty:= .arr 4 Y3
abbrev ZvD:Ty:= .ref
abbrev Zvs:Ty:= .ref
abbrev Zvp:Ty:= .int .u64
abbrev Zlm:Ty:= .prod Y3 (.prod Y3 (.prod Y4 .unit))
abbrev Zvo:Ty:= .ref
abbrev ZvE:Ty:= .ref
abbrev Zi3:Ty:= .prod Y3 (.prod Y3 (.prod Y3 .unit))
abbrev Znw:Ty:= .sl Zi3
abbrev Zvl:Ty:= .ref
abbrev Zhl:Ty:= .prod Y3 (.prod Y3 (.prod Y3 .unit))
abbrev ZrC:Ty:= .sl Zhl
abbrev Zvh:Ty:= .ref
abbrev ZuO:Ty:= .prod Zhl (.prod Y3 .unit)
abbrev Zve:Ty:= .sl ZuO
abbrev Zu2:Ty:= .prod Zvh (.prod Zve (.prod Y3 .unit))
def tyTab:List (Nat×Ty):=[(3,Y3),(4,Y4),(9,Y9),(83,Y83),(22,Y22),(85,Y85),(23,Y23),(87,Y87),(58,Y58),(60,Y60),(24,Y24),(63,Y63),(25,Y25),(79,Y79),(26,Y26),(109,Zpb),(27,Y27),(29,Y29),(31,Y31),(33,Y33),(36,Y36),(52,Y52),(38,Y38),(66,Y66),(41,Y41),(43,Y43),(50,Y50),(74,Y74),(72,Y72),(69,Y69),(122,Zg1),(95,Y95),(104,ZtL),(97,Y97),(99,Y99),(133,Zt2),(177,ZuE),(134,Zrt),(169,ZuX),(155,Zks),(163,ZcD),(173,ZsY),(171,ZvC),(178,Zvu),(179,Zur),(183,Zru),(180,ZvB),(184,Zvr),(185,ZvA),(188,Zkn),(186,ZvD),(190,Zvs),(195,Zvp),(198,Zlm),(196,Zvo),(203,ZvE),(206,Zi3),(204,Znw),(212,Zvl),(228,Zhl),(215,ZrC),(231,Zvh),(245,ZuO),(241,Zve),(243,Zu2)]
def mapTab:List (Nat×Ty×Ty):=[(178,Y9,Y4),(180,Zru,Y4),(184,Y3,Y3),(185,Y3,Y4),(186,Zkn,Y4),(190,Y79,Y4),(196,Zlm,Y4),(203,Zlm,Y3),(212,Y3,Znw)]
def pkTab:List (Nat×Nat):=[(229,1),(231,2)]
def bdTab:List (Nat×Nat):=[]
theorem Za2:Tryz.prog.follows .mixedOrders=true:=by kernel_rfl
theorem tab_ok:Zsw Tryz.prog tyTab mapTab pkTab bdTab=true:=by kernel_rfl
abbrev Zvt:Pat:= .agg (.cons (.fn 160 .nil) (.cons (.own ZuO true) (.cons (.pd Y3) .nil)))
abbrev Zvw:Pat:= .agg (.cons (.fn 160 .nil) (.cons (.own ZuO false) (.cons (.pd Y3) .nil)))
abbrev Pz9:Pat:= .var Zu2 Zvt
abbrev Pz8:Pat:= .var Zu2 Zvw
abbrev Pz7:Pat:= .agg (.cons (.pd Y22) (.cons (.pd Y23) (.cons (.own Y60 false) (.cons (.pd Y25) (.cons (.pd Y26) (.cons (.pd Y29) .nil))))))
abbrev Pz6:Pat:= .var Y31 Pz7
abbrev Pz5:Pat:= .agg (.cons (.pd Y31) (.cons (.own ZtL false) (.cons (.pd Y72) (.cons (.own Zg1 false) (.cons (.own Zg1 false) (.cons (.own Y3 false) (.cons (.pd Y38) .nil)))))))
abbrev Pz4:Pat:= .agg (.cons (.pd Y31) (.cons (.own ZtL false) (.cons (.own Y74 false) (.cons (.own Zg1 false) (.cons (.own Zg1 false) (.cons (.own Y3 false) (.cons (.pd Y38) .nil)))))))
abbrev Pz3:Pat:= .var Y99 Pz5
abbrev Pz2:Pat:= .agg (.cons (.pd Y31) (.cons (.own ZtL false) (.cons (.own Y74 false) (.cons (.own Zg1 false) (.cons (.own Zg1 false) (.cons (.own Y3 false) (.cons (.rows Y3 false) .nil)))))))
abbrev Pz1:Pat:= .var Y99 Pz4
abbrev Pz0:Pat:= .var Y99 Pz2
abbrev Tz4:=Unit×List (El ZuO) ×El Y3×Unit
abbrev Tz3:=Tz4×El Zhl×El Y4
abbrev Tz2:=El Y22×El Y23×List (El Y60) ×El Y25×El Y26×El Y29×Unit
abbrev Tz1:=El Y31×List (El ZtL) ×El Y72×List (El Zg1) ×List (El Zg1) ×List (El Y3) ×El Y38×Unit
abbrev Tz0:=El Y31×List (El ZtL) ×List (El Y74) ×List (El Zg1) ×List (El Zg1) ×List (El Y3) ×El Y38×Unit
def F25: (El Y9)→Option (El Y4):=fun a0=>
 Option.bind
 (run
 (fun s0=>
 bif decide (s0< (↑(List.length a0):Int)) then
 (idx a0 s0).bind fun x1=>
 Option.bind (bif decide ((97:Int)≤(↑(UInt8.toNat x1):Int)) then some (decide ((↑(UInt8.toNat x1):Int)≤(122:Int))) else some false)
 fun x2=>
 Option.bind
 (bif x2 then some x2
 else
 Option.bind (bif decide ((65:Int)≤(↑(UInt8.toNat x1):Int)) then some (decide ((↑(UInt8.toNat x1):Int)≤(90:Int))) else some false)
 fun x3=>
 Option.bind
 (bif x3 then some x3
 else
 Option.bind
 (bif decide ((48:Int)≤(↑(UInt8.toNat x1):Int)) then some (decide ((↑(UInt8.toNat x1):Int)≤(57:Int))) else some false)
 fun x4=>some x4)
 fun x5=>some x5)
 fun x6=>
 bif x6 then some (.inl (IntKind.wrap .i64 (s0+(1:Int))))
 else
 Option.bind
 (bif decide ((↑(UInt8.toNat x1):Int)=(45:Int)) then some (decide ((↑(UInt8.toNat x1):Int)=(45:Int)))
 else
 Option.bind
 (bif decide ((↑(UInt8.toNat x1):Int)=(95:Int)) then some (decide ((↑(UInt8.toNat x1):Int)=(95:Int)))
 else some (decide ((↑(UInt8.toNat x1):Int)=(46:Int))))
 fun x7=>some x7)
 fun x8=>bif x8 then some (.inl (IntKind.wrap .i64 (s0+(1:Int)))) else some (.inr (.inr false))
 else some (.inr (.inl ())))
 (0:Int))
 fun x9=>
 Sum.elim
 (fun _=>
 Option.bind (bif decide ((0:Int)< (↑(List.length a0):Int)) then some (decide ((↑(List.length a0):Int)≤(32:Int))) else some false) fun x11=>
 some x11)
 (fun y12=>some y12) x9
abbrev F25A:Zam:=(.cons (.pd Y9) .nil)
abbrev F25R:Zam:=(.cons (.pd Y4) .nil)
def F25S:Tr.Spec:= {args:=F25A,res:=F25R,fns:=[],α:=El Y4,f:=fun x=>F25 x.1,unp:=fun z=>(((),()),(z,())) }
def F25M:List (Nat×List Tr.Spec):=[]
def F25H:ZaW:=(.seq .leaf (.seq (.seq .leaf (.lp ⟨[(3,(.pd Y3))],[],[0],[],[],[]⟩ [((.exit 0),⟨[],[],[0],[],[],[]⟩),(.ret,⟨[(2,(.pd Y4))],[],[],[],[],[]⟩)] (.seq .leaf (.seq (.seq .leaf (.seq (.seq (.reg [(14,Y4)]) (.cnd (some (⟨[],[],[0,3,4],[],[],[]⟩,[(.normal,⟨[(14,(.pd Y4))],[],[0,3,4],[],[],[]⟩)])) .leaf (.seq (.reg [(14,Y4)]) (.cnd (some (⟨[],[],[0,3,4],[],[],[]⟩,[(.normal,⟨[(14,(.pd Y4))],[],[0,3,4],[],[],[]⟩)])) .leaf (.reg [(14,Y4)]))))) (.cnd none .leaf (.seq (.seq .leaf (.cnd (some (⟨[],[],[0,3],[],[],[]⟩,[(.normal,⟨[(33,(.pd Y4))],[],[0,3],[],[],[]⟩)])) .leaf (.seq .leaf (.cnd (some (⟨[],[],[0,3],[],[],[]⟩,[(.normal,⟨[(33,(.pd Y4))],[],[0,3],[],[],[]⟩)])) .leaf .leaf)))) .leaf)))) .leaf)))) (.seq (.reg [(2,Y4)]) .leaf)))
def F25V (a0:El Y9):Option (El Y4):=Zau (mkE tyTab mapTab pkTab [] [] F25M 48 bdTab) (Zai Tryz.f122) Tryz.f122.results F25H F25A F25R (fun y=>y.2.1) (a0,())
theorem F25_eq (a0:El Y9):F25V a0=F25 a0:=by kernel_rfl
theorem F25_ok:ZaU Tryz.prog 122 F25S:=Zac (m:=F25M) (fn:=Tryz.f122) (hint:=F25H) (pack:=fun y=>y.2.1) Za2 tab_ok trivial fun x z h=>(F25_eq x.1).trans h
def F124: (El Y22)→Option (El Y3×El Y36):=fun a0=>
 bif decide ((64:Int)< (↑(List.length a0):Int)) then some ((0:Int),(5:Int))
 else
 Option.bind
 (run
 (fun s0=>
 bif decide (s0.2< (↑(List.length a0):Int)) then
 (idx a0 s0.2).bind fun x1=>
 (F25 x1.1).bind fun x2=>
 bif !x2 then some (.inr (.inr (s0.2,(12:Int))))
 else
 bif Option.getD (ZaM (Zao Y9) x1.1 s0.1) (false) then some (.inr (.inr (s0.2,(6:Int))))
 else
 Option.bind
 (bif decide (x1.2.1< (0:Int)) then some true
 else
 bif decide ((16:Int)≤x1.2.1) then some true
 else bif decide (x1.2.2.2.1< (0:Int)) then some true else some (decide ((3600:Int)<x1.2.2.2.1)))
 fun x3=>
 bif x3 then some (.inr (.inr (s0.2,(2:Int))))
 else some (.inl (Zbb (Zao Y9) x1.1 true s0.1,IntKind.wrap .i64 (s0.2+(1:Int))))
 else some (.inr (.inl ())))
 ([],(0:Int)))
 fun x4=>Sum.elim (fun _=>some ((0:Int),(0:Int))) (fun y6=>some (y6.1,y6.2)) x4
abbrev F124A:Zam:=(.cons (.pd Y22) .nil)
abbrev F124R:Zam:=(.cons (.pd Y3) (.cons (.pd Y36) .nil))
def F124S:Tr.Spec:= {args:=F124A,res:=F124R,fns:=[],α:=El Y3×El Y36,f:=fun x=>F124 x.1,unp:=fun z=>(((),()),(z.1,z.2,())) }
def F124M:List (Nat×List Tr.Spec):=[(122,[F25S])]
def F124H:ZaW:=(.seq .leaf (.seq .leaf (.seq .leaf (.seq (.seq .leaf (.lp ⟨[(4,(.map Y9 Y4)),(13,(.pd Y3))],[],[11,12],[],[],[]⟩ [((.exit 0),⟨[],[],[],[],[],[]⟩),(.ret,⟨[(2,(.pd Y3)),(3,(.pd Y36))],[],[],[],[],[]⟩)] (.seq .leaf (.seq .leaf (.seq (.seq .leaf (.seq (.seq .leaf (.cnd none .leaf (.seq .leaf (.cnd none .leaf (.seq (.reg [(30,Y4)]) .leaf))))) .leaf)) .leaf))))) .leaf))))
def F124V (a0:El Y22):Option (El Y3×El Y36):=Zau (mkE tyTab mapTab pkTab [] [] F124M 54 bdTab) (Zai Tryz.f111) Tryz.f111.results F124H F124A F124R (fun y=>(y.2.1,y.2.2.1)) (a0,())
theorem F124_eq (a0:El Y22):F124V a0=F124 a0:=by kernel_rfl
theorem F124_ok:ZaU Tryz.prog 111 F124S:=Zac (m:=F124M) (fn:=Tryz.f111) (hint:=F124H) (pack:=fun y=>(y.2.1,y.2.2.1)) Za2 tab_ok ⟨⟨F25_ok,trivial⟩,trivial⟩ fun x z h=>(F124_eq x.1).trans h
def F115: (El Y3)→Option (El Y4):=fun a0=>Option.bind (bif decide ((0:Int)≤a0) then some (decide (a0< (8:Int))) else some false) fun x0=>some x0
abbrev F115A:Zam:=(.cons (.pd Y3) .nil)
abbrev F115R:Zam:=(.cons (.pd Y4) .nil)
def F115S:Tr.Spec:= {args:=F115A,res:=F115R,fns:=[],α:=El Y4,f:=fun x=>F115 x.1,unp:=fun z=>(((),()),(z,())) }
def F115M:List (Nat×List Tr.Spec):=[]
def F115H:ZaW:=(.seq .leaf (.seq (.reg [(2,Y4)]) .leaf))
def F115V (a0:El Y3):Option (El Y4):=Zau (mkE tyTab mapTab pkTab [] [] F115M 9 bdTab) (Zai Tryz.f123) Tryz.f123.results F115H F115A F115R (fun y=>y.2.1) (a0,())
theorem F115_eq (a0:El Y3):F115V a0=F115 a0:=by kernel_rfl
theorem F115_ok:ZaU Tryz.prog 123 F115S:=Zac (m:=F115M) (fn:=Tryz.f123) (hint:=F115H) (pack:=fun y=>y.2.1) Za2 tab_ok trivial fun x z h=>(F115_eq x.1).trans h
def F114: (El Y23)→Option (El Y3×El Y36):=fun a0=>
 bif decide ((64:Int)< (↑(List.length a0):Int)) then some ((0:Int),(5:Int))
 else
 Option.bind
 (run
 (fun s0=>
 bif decide (s0.2< (↑(List.length a0):Int)) then
 (idx a0 s0.2).bind fun x1=>
 (F25 x1.1).bind fun x2=>
 bif !x2 then some (.inr (.inr (s0.2,(12:Int))))
 else
 bif Option.getD (ZaM (Zao Y9) x1.1 s0.1) (false) then some (.inr (.inr (s0.2,(6:Int))))
 else
 (F115 x1.2.1).bind fun x3=>
 bif !x3 then some (.inr (.inr (s0.2,(2:Int))))
 else some (.inl (Zbb (Zao Y9) x1.1 true s0.1,IntKind.wrap .i64 (s0.2+(1:Int))))
 else some (.inr (.inl ())))
 ([],(0:Int)))
 fun x4=>Sum.elim (fun _=>some ((0:Int),(0:Int))) (fun y6=>some (y6.1,y6.2)) x4
abbrev F114A:Zam:=(.cons (.pd Y23) .nil)
abbrev F114R:Zam:=(.cons (.pd Y3) (.cons (.pd Y36) .nil))
def F114S:Tr.Spec:= {args:=F114A,res:=F114R,fns:=[],α:=El Y3×El Y36,f:=fun x=>F114 x.1,unp:=fun z=>(((),()),(z.1,z.2,())) }
def F114M:List (Nat×List Tr.Spec):=[(122,[F25S]),(123,[F115S])]
def F114H:ZaW:=(.seq .leaf (.seq .leaf (.seq .leaf (.seq (.seq .leaf (.lp ⟨[(4,(.map Y9 Y4)),(13,(.pd Y3))],[],[11,12],[],[],[]⟩ [((.exit 0),⟨[],[],[],[],[],[]⟩),(.ret,⟨[(2,(.pd Y3)),(3,(.pd Y36))],[],[],[],[],[]⟩)] .leaf)) .leaf))))
def F114V (a0:El Y23):Option (El Y3×El Y36):=Zau (mkE tyTab mapTab pkTab [] [] F114M 37 bdTab) (Zai Tryz.f112) Tryz.f112.results F114H F114A F114R (fun y=>(y.2.1,y.2.2.1)) (a0,())
theorem F114_eq (a0:El Y23):F114V a0=F114 a0:=by kernel_rfl
theorem F114_ok:ZaU Tryz.prog 112 F114S:=Zac (m:=F114M) (fn:=Tryz.f112) (hint:=F114H) (pack:=fun y=>(y.2.1,y.2.2.1)) Za2 tab_ok ⟨⟨F25_ok,trivial⟩,⟨F115_ok,trivial⟩,trivial⟩ fun x z h=>(F114_eq x.1).trans h
def F44: (El Zur)→Option (El ZcD):=fun a0=>
 Option.bind
 (run
 (fun s0=>
 bif decide (s0.2< (↑(List.length a0):Int)) then
 (idx a0 s0.2).bind fun x1=>
 bif !decide (x1.2.2.1=(0:Int)) then some (.inr (.inr x1)) else some (.inl (s0.1,IntKind.wrap .i64 (s0.2+(1:Int))))
 else some (.inr (.inl s0.1)))
 (((0:Int),(0:Int),(0:Int),()),(0:Int)))
 fun x2=>Sum.elim (fun _=>some ((0:Int),(0:Int),(0:Int),())) (fun y4=>some y4) x2
abbrev F44A:Zam:=(.cons (.pd Zur) .nil)
abbrev F44R:Zam:=(.cons (.pd ZcD) .nil)
def F44S:Tr.Spec:= {args:=F44A,res:=F44R,fns:=[],α:=El ZcD,f:=fun x=>F44 x.1,unp:=fun z=>(((),()),(z,())) }
def F44M:List (Nat×List Tr.Spec):=[]
def F44H:ZaW:=(.seq .leaf (.seq (.seq .leaf (.lp ⟨[(2,(.var ZcD (.pd ZcD))),(7,(.pd Y3))],[],[5,6],[],[],[]⟩ [((.exit 0),⟨[(2,(.var ZcD (.pd ZcD)))],[],[],[],[],[]⟩),(.ret,⟨[(2,(.var ZcD (.pd ZcD)))],[],[],[],[],[]⟩)] .leaf)) .leaf))
def F44V (a0:El Zur):Option (El ZcD):=Zau (mkE tyTab mapTab pkTab [] [] F44M 17 bdTab) (Zai Tryz.f113) Tryz.f113.results F44H F44A F44R (fun y=>y.2.1) (a0,())
theorem F44_eq (a0:El Zur):F44V a0=F44 a0:=by kernel_rfl
theorem F44_ok:ZaU Tryz.prog 113 F44S:=Zac (m:=F44M) (fn:=Tryz.f113) (hint:=F44H) (pack:=fun y=>y.2.1) Za2 tab_ok trivial fun x z h=>(F44_eq x.1).trans h
def F53: (El Y3)→(El Y3)→(El Y36)→Option (El ZcD):=fun a0 a1 a2=>some (a0,a1,a2,())
abbrev F53A:Zam:=(.cons (.pd Y3) (.cons (.pd Y3) (.cons (.pd Y36) .nil)))
abbrev F53R:Zam:=(.cons (.pd ZcD) .nil)
def F53S:Tr.Spec:= {args:=F53A,res:=F53R,fns:=[],α:=El ZcD,f:=fun x=>F53 x.1 x.2.1 x.2.2.1,unp:=fun z=>(((),(),(),()),(z,())) }
def F53M:List (Nat×List Tr.Spec):=[]
def F53H:ZaW:= .leaf
def F53V (a0:El Y3) (a1:El Y3) (a2:El Y36):Option (El ZcD):=Zau (mkE tyTab mapTab pkTab [] [] F53M 11 bdTab) (Zai Tryz.f114) Tryz.f114.results F53H F53A F53R (fun y=>y.2.1) (a0,a1,a2,())
theorem F53_eq (a0:El Y3) (a1:El Y3) (a2:El Y36):F53V a0 a1 a2=F53 a0 a1 a2:=by kernel_rfl
theorem F53_ok:ZaU Tryz.prog 114 F53S:=Zac (m:=F53M) (fn:=Tryz.f114) (hint:=F53H) (pack:=fun y=>y.2.1) Za2 tab_ok trivial fun x z h=>(F53_eq x.1 x.2.1 x.2.2.1).trans h
def F1: (El Y58)→(El Y3)→(El Y3)→(El Y3)→(El Y3)→Option (El Y36):=fun a0 a1 a2 a3 a4=>
 (idx a0 a1).bind fun x0=>
 Option.bind (bif decide (x0.1< (0:Int)) then some true else some (decide (a2≤x0.1))) fun x1=>
 bif x1 then some (9:Int)
 else
 Option.bind
 (bif decide ((0:Int)<a1) then (idx a0 (IntKind.wrap .i64 (a1 - (1:Int)))).bind fun x2=>some (decide (x2.1=x0.1))
 else some false)
 fun x3=>
 bif x3 then some (13:Int)
 else
 Option.bind
 (bif decide (x0.2.1<a3) then some true
 else
 bif decide (x0.2.2.1<x0.2.1) then some true
 else
 bif decide (a4<x0.2.2.1) then some true
 else
 bif decide ((0:Int)<a1) then
 (idx a0 (IntKind.wrap .i64 (a1 - (1:Int)))).bind fun x4=>some (decide (x0.2.1<x4.2.2.1))
 else some false)
 fun x5=>bif x5 then some (10:Int) else some (0:Int)
abbrev F1A:Zam:=(.cons (.pd Y58) (.cons (.pd Y3) (.cons (.pd Y3) (.cons (.pd Y3) (.cons (.pd Y3) .nil)))))
abbrev F1R:Zam:=(.cons (.pd Y36) .nil)
def F1S:Tr.Spec:= {args:=F1A,res:=F1R,fns:=[],α:=El Y36,f:=fun x=>F1 x.1 x.2.1 x.2.2.1 x.2.2.2.1 x.2.2.2.2.1,unp:=fun z=>(((),(),(),(),(),()),(z,())) }
def F1M:List (Nat×List Tr.Spec):=[]
def F1H:ZaW:=(.seq .leaf (.seq .leaf (.seq (.seq (.reg [(24,Y4)]) .leaf) (.seq (.seq (.reg [(37,Y4)]) .leaf) (.seq (.seq (.reg [(69,Y4)]) .leaf) .leaf)))))
def F1V (a0:El Y58) (a1:El Y3) (a2:El Y3) (a3:El Y3) (a4:El Y3):Option (El Y36):=Zau (mkE tyTab mapTab pkTab [] [] F1M 70 bdTab) (Zai Tryz.f131) Tryz.f131.results F1H F1A F1R (fun y=>y.2.1) (a0,a1,a2,a3,a4,())
theorem F1_eq (a0:El Y58) (a1:El Y3) (a2:El Y3) (a3:El Y3) (a4:El Y3):F1V a0 a1 a2 a3 a4=F1 a0 a1 a2 a3 a4:=by kernel_rfl
theorem F1_ok:ZaU Tryz.prog 131 F1S:=Zac (m:=F1M) (fn:=Tryz.f131) (hint:=F1H) (pack:=fun y=>y.2.1) Za2 tab_ok trivial fun x z h=>(F1_eq x.1 x.2.1 x.2.2.1 x.2.2.2.1 x.2.2.2.2.1).trans h
def F0: (El Y58)→(El Y3)→(El Y3)→(El Y3)→Option (El Y3×El Y36):=fun a0 a1 a2 a3=>
 Option.bind (bif decide ((↑(List.length a0):Int)< (2:Int)) then some true else some (decide ((32:Int)< (↑(List.length a0):Int)))) fun x0=>
 bif x0 then some ((0:Int),(5:Int))
 else
 Option.bind
 (run
 (fun s1=>
 bif decide (s1< (↑(List.length a0):Int)) then
 (F1 a0 s1 a1 a2 a3).bind fun x2=>
 bif !decide (x2=(0:Int)) then some (.inr (.inr (s1,x2))) else some (.inl (IntKind.wrap .i64 (s1+(1:Int))))
 else some (.inr (.inl ())))
 (0:Int))
 fun x3=>Sum.elim (fun _=>some ((0:Int),(0:Int))) (fun y5=>some (y5.1,y5.2)) x3
abbrev F0A:Zam:=(.cons (.pd Y58) (.cons (.pd Y3) (.cons (.pd Y3) (.cons (.pd Y3) .nil))))
abbrev F0R:Zam:=(.cons (.pd Y3) (.cons (.pd Y36) .nil))
def F0S:Tr.Spec:= {args:=F0A,res:=F0R,fns:=[],α:=El Y3×El Y36,f:=fun x=>F0 x.1 x.2.1 x.2.2.1 x.2.2.2.1,unp:=fun z=>(((),(),(),(),()),(z.1,z.2,())) }
def F0M:List (Nat×List Tr.Spec):=[(131,[F1S])]
def F0H:ZaW:=(.seq .leaf (.seq (.seq (.reg [(19,Y4)]) .leaf) (.seq (.seq .leaf (.lp ⟨[(22,(.pd Y3))],[],[0,1,2,3,21],[],[],[]⟩ [((.exit 0),⟨[],[],[],[],[],[]⟩),(.ret,⟨[(8,(.pd Y3)),(9,(.pd Y36))],[],[],[],[],[]⟩)] .leaf)) .leaf)))
def F0V (a0:El Y58) (a1:El Y3) (a2:El Y3) (a3:El Y3):Option (El Y3×El Y36):=Zau (mkE tyTab mapTab pkTab [] [] F0M 36 bdTab) (Zai Tryz.f124) Tryz.f124.results F0H F0A F0R (fun y=>(y.2.1,y.2.2.1)) (a0,a1,a2,a3,())
theorem F0_eq (a0:El Y58) (a1:El Y3) (a2:El Y3) (a3:El Y3):F0V a0 a1 a2 a3=F0 a0 a1 a2 a3:=by kernel_rfl
theorem F0_ok:ZaU Tryz.prog 124 F0S:=Zac (m:=F0M) (fn:=Tryz.f124) (hint:=F0H) (pack:=fun y=>(y.2.1,y.2.2.1)) Za2 tab_ok ⟨⟨F1_ok,trivial⟩,trivial⟩ fun x z h=>(F0_eq x.1 x.2.1 x.2.2.1 x.2.2.2.1).trans h
def F43: (El Y31)→Option (El ZcD):=fun a0=>
 bif decide ((1024:Int)< (↑(List.length a0.2.2.1):Int)) then (F53 (2:Int) (0:Int) (5:Int)).bind fun x0=>some x0
 else
 Option.bind
 (run
 (fun s1=>
 bif decide (s1.2.2< (↑(List.length a0.2.2.1):Int)) then
 (idx a0.2.2.1 s1.2.2).bind fun x2=>
 (F25 x2.2.2.2.1).bind fun x3=>
 bif !x3 then (F53 (2:Int) s1.2.2 (12:Int)).bind fun x4=>some (.inr (.inr x4))
 else
 Option.bind (bif decide (x2.1< (-1:Int)) then some true else some (decide (x2.2.2.1< (0:Int)))) fun x5=>
 bif x5 then (F53 (2:Int) s1.2.2 (2:Int)).bind fun x6=>some (.inr (.inr x6))
 else
 Option.bind (bif decide (x2.2.1< (0:Int)) then some true else some (decide ((36524:Int)<x2.2.1))) fun x7=>
 bif x7 then (F53 (2:Int) s1.2.2 (11:Int)).bind fun x8=>some (.inr (.inr x8))
 else
 Option.bind
 (bif decide (x2.2.2.2.2.1< (0:Int)) then some true
 else some (decide ((↑(List.length a0.2.1):Int)≤x2.2.2.2.2.1)))
 fun x9=>
 bif x9 then (F53 (2:Int) s1.2.2 (9:Int)).bind fun x10=>some (.inr (.inr x10))
 else
 (F0 x2.2.2.2.2.2.2.2.1 (↑(List.length a0.1):Int) (0:Int) (3155932800:Int)).bind fun x11=>
 bif !decide (x11.2=(0:Int)) then (F53 (2:Int) s1.2.2 x11.2).bind fun x12=>some (.inr (.inr x12))
 else
 bif Option.getD (ZaM (Zao Zru) (x2.2.2.2.1,x2.2.1,x2.2.2.1,()) s1.2.1) (false) then
 (F53 (2:Int) s1.2.2 (6:Int)).bind fun x13=>some (.inr (.inr x13))
 else
 some
 (.inl
 (s1.1,Zbb (Zao Zru) (x2.2.2.2.1,x2.2.1,x2.2.2.1,()) true s1.2.1,
 IntKind.wrap .i64 (s1.2.2+(1:Int))))
 else some (.inr (.inl s1.1)))
 (((0:Int),(0:Int),(0:Int),()),[],(0:Int)))
 fun x14=>Sum.elim (fun _=>some ((0:Int),(0:Int),(0:Int),())) (fun y16=>some y16) x14
abbrev F43A:Zam:=(.cons (.pd Y31) .nil)
abbrev F43R:Zam:=(.cons (.pd ZcD) .nil)
def F43S:Tr.Spec:= {args:=F43A,res:=F43R,fns:=[],α:=El ZcD,f:=fun x=>F43 x.1,unp:=fun z=>(((),()),(z,())) }
def F43M:List (Nat×List Tr.Spec):=[(114,[F53S]),(122,[F25S]),(124,[F0S])]
def F43H:ZaW:=(.seq .leaf (.seq .leaf (.seq .leaf (.seq (.seq .leaf (.lp ⟨[(2,(.var ZcD (.pd ZcD))),(3,(.map Zru Y4)),(18,(.pd Y3))],[],[1,16,17],[],[],[]⟩ [((.exit 0),⟨[(2,(.var ZcD (.pd ZcD)))],[],[],[],[],[]⟩),(.ret,⟨[(2,(.var ZcD (.pd ZcD)))],[],[],[],[],[]⟩)] (.seq .leaf (.seq .leaf (.seq (.seq .leaf (.seq (.seq .leaf (.cnd none .leaf (.seq (.reg [(30,Y4)]) (.cnd none .leaf (.seq (.reg [(41,Y4)]) (.cnd none .leaf (.seq (.reg [(52,Y4)]) .leaf))))))) .leaf)) .leaf))))) .leaf))))
def F43V (a0:El Y31):Option (El ZcD):=Zau (mkE tyTab mapTab pkTab [] [] F43M 96 bdTab) (Zai Tryz.f115) Tryz.f115.results F43H F43A F43R (fun y=>y.2.1) (a0,())
theorem F43_eq (a0:El Y31):F43V a0=F43 a0:=by kernel_rfl
theorem F43_ok:ZaU Tryz.prog 115 F43S:=Zac (m:=F43M) (fn:=Tryz.f115) (hint:=F43H) (pack:=fun y=>y.2.1) Za2 tab_ok ⟨⟨F53_ok,trivial⟩,⟨F25_ok,trivial⟩,⟨F0_ok,trivial⟩,trivial⟩ fun x z h=>(F43_eq x.1).trans h
def F54: (El Y3)→(El Y3)→Option (El Y4):=fun a0 a1=>Option.bind (bif decide ((0:Int)≤a0) then some (decide (a0<a1)) else some false) fun x0=>some x0
abbrev F54A:Zam:=(.cons (.pd Y3) (.cons (.pd Y3) .nil))
abbrev F54R:Zam:=(.cons (.pd Y4) .nil)
def F54S:Tr.Spec:= {args:=F54A,res:=F54R,fns:=[],α:=El Y4,f:=fun x=>F54 x.1 x.2.1,unp:=fun z=>(((),(),()),(z,())) }
def F54M:List (Nat×List Tr.Spec):=[]
def F54H:ZaW:=(.seq .leaf (.seq (.reg [(4,Y4)]) .leaf))
def F54V (a0:El Y3) (a1:El Y3):Option (El Y4):=Zau (mkE tyTab mapTab pkTab [] [] F54M 12 bdTab) (Zai Tryz.f125) Tryz.f125.results F54H F54A F54R (fun y=>y.2.1) (a0,a1,())
theorem F54_eq (a0:El Y3) (a1:El Y3):F54V a0 a1=F54 a0 a1:=by kernel_rfl
theorem F54_ok:ZaU Tryz.prog 125 F54S:=Zac (m:=F54M) (fn:=Tryz.f125) (hint:=F54H) (pack:=fun y=>y.2.1) Za2 tab_ok trivial fun x z h=>(F54_eq x.1 x.2.1).trans h
def F52: (List (El Y3×El Y3))→(El Y3)→(El Y3)→Option (List (El Y3×El Y3) ×El Y4):=fun a0 a1 a2=>
 Option.bind
 (run
 (fun s0=>
 bif s0.2 then
 bif decide (s0.1=a2) then some (.inr (.inr true))
 else some (.inl (Option.getD (ZaM (Zao Y3) s0.1 a0) ((0:Int)),Option.isSome (ZaM (Zao Y3) s0.1 a0)))
 else some (.inr (.inl ())))
 (Option.getD (ZaM (Zao Y3) a1 a0) ((0:Int)),Option.isSome (ZaM (Zao Y3) a1 a0)))
 fun x1=>Sum.elim (fun _=>some (a0,false)) (fun y3=>some (a0,y3)) x1
abbrev F52A:Zam:=(.cons (.map Y3 Y3) (.cons (.pd Y3) (.cons (.pd Y3) .nil)))
abbrev F52R:Zam:=(.cons (.pd Y4) .nil)
def F52S:Tr.Spec:= {args:=F52A,res:=F52R,fns:=[],α:=List (El Y3×El Y3) ×El Y4,f:=fun x=>F52 x.1 x.2.1 x.2.2.1,unp:=fun z=>((z.1,(),(),()),(z.2,())) }
def F52M:List (Nat×List Tr.Spec):=[]
def F52H:ZaW:=(.seq .leaf (.seq (.seq .leaf (.lp ⟨[(7,(.pd Y3)),(8,(.pd Y4))],[],[0,2],[],[],[]⟩ [((.exit 0),⟨[],[],[0],[],[],[]⟩),(.ret,⟨[(6,(.pd Y4))],[],[0],[],[],[]⟩)] .leaf)) .leaf))
def F52V (a0:List (El Y3×El Y3)) (a1:El Y3) (a2:El Y3):Option (List (El Y3×El Y3) ×El Y4):=Zau (mkE tyTab mapTab pkTab [] [] F52M 25 bdTab) (Zai Tryz.f126) Tryz.f126.results F52H F52A F52R (fun y=>(y.1.1,y.2.1)) (a0,a1,a2,())
theorem F52_eq (a0:List (El Y3×El Y3)) (a1:El Y3) (a2:El Y3):F52V a0 a1 a2=F52 a0 a1 a2:=by kernel_rfl
theorem F52_ok:ZaU Tryz.prog 126 F52S:=Zac (m:=F52M) (fn:=Tryz.f126) (hint:=F52H) (pack:=fun y=>(y.1.1,y.2.1)) Za2 tab_ok trivial fun x z h=>(F52_eq x.1 x.2.1 x.2.2.1).trans h
def F41: (El Y31)→Option (El ZcD):=fun a0=>
 bif decide ((1024:Int)< (↑(List.length a0.2.2.2.1):Int)) then (F53 (3:Int) (0:Int) (5:Int)).bind fun x0=>some x0
 else
 Option.bind
 (run
 (fun s1=>
 bif decide (s1.2.2.2.2< (↑(List.length a0.2.2.2.1):Int)) then
 (idx a0.2.2.2.1 s1.2.2.2.2).bind fun x2=>
 Option.bind
 ((F54 x2.1 (↑(List.length a0.2.2.1):Int)).bind fun x3=>
 bif !x3 then some true
 else
 (F54 x2.2.2.1 (↑(List.length a0.2.2.1):Int)).bind fun x4=>
 bif !x4 then some true else some (decide (x2.1=x2.2.2.1)))
 fun x5=>
 bif x5 then (F53 (3:Int) s1.2.2.2.2 (9:Int)).bind fun x6=>some (.inr (.inr x6))
 else
 (idx a0.2.2.1 x2.1).bind fun x7=>
 (idx a0.2.2.1 x2.2.2.1).bind fun x8=>
 Option.bind
 ((F54 x2.2.1 (↑(List.length x7.2.2.2.2.2.2.2.1):Int)).bind fun x9=>
 bif !x9 then some true
 else (F54 x2.2.2.2.1 (↑(List.length x8.2.2.2.2.2.2.2.1):Int)).bind fun x10=>some !x10)
 fun x11=>
 bif x11 then (F53 (3:Int) s1.2.2.2.2 (9:Int)).bind fun x12=>some (.inr (.inr x12))
 else
 (idx x7.2.2.2.2.2.2.2.1 x2.2.1).bind fun x13=>
 (idx x8.2.2.2.2.2.2.2.1 x2.2.2.2.1).bind fun x14=>
 bif !decide (x13.1=x14.1) then (F53 (3:Int) s1.2.2.2.2 (13:Int)).bind fun x15=>some (.inr (.inr x15))
 else
 bif x2.2.2.2.2.1 then
 bif !decide (IntKind.wrap .i64 (x2.2.1+(1:Int))=(↑(List.length x7.2.2.2.2.2.2.2.1):Int)) then
 (F53 (3:Int) s1.2.2.2.2 (19:Int)).bind fun x16=>some (.inr (.inr x16))
 else
 bif !decide (x2.2.2.2.1=(0:Int)) then
 (F53 (3:Int) s1.2.2.2.2 (19:Int)).bind fun x17=>some (.inr (.inr x17))
 else
 bif Option.isSome (ZaM (Zao Y3) x2.1 s1.2.1) then
 (F53 (3:Int) s1.2.2.2.2 (19:Int)).bind fun x18=>some (.inr (.inr x18))
 else
 bif Option.getD (ZaM (Zao Y3) x2.2.2.1 s1.2.2.1) (false) then
 (F53 (3:Int) s1.2.2.2.2 (19:Int)).bind fun x19=>some (.inr (.inr x19))
 else
 (F52 s1.2.1 x2.2.2.1 x2.1).bind fun x20=>
 bif x20.2 then (F53 (3:Int) s1.2.2.2.2 (19:Int)).bind fun x21=>some (.inr (.inr x21))
 else
 bif Option.getD (ZaM (Zao Zkn) [x2.1,x2.2.1,x2.2.2.1,x2.2.2.2.1] s1.2.2.2.1) (false) then
 (F53 (3:Int) s1.2.2.2.2 (6:Int)).bind fun x22=>some (.inr (.inr x22))
 else
 bif x2.2.2.2.2.1 then
 some
 (.inl
 (s1.1,Zbb (Zao Y3) x2.1 x2.2.2.1 x20.1,Zbb (Zao Y3) x2.2.2.1 true s1.2.2.1,
 Zbb (Zao Zkn) [x2.1,x2.2.1,x2.2.2.1,x2.2.2.2.1] true s1.2.2.2.1,
 IntKind.wrap .i64 (s1.2.2.2.2+(1:Int))))
 else
 some
 (.inl
 (s1.1,x20.1,s1.2.2.1,Zbb (Zao Zkn) [x2.1,x2.2.1,x2.2.2.1,x2.2.2.2.1] true s1.2.2.2.1,
 IntKind.wrap .i64 (s1.2.2.2.2+(1:Int))))
 else
 bif Option.getD (ZaM (Zao Zkn) [x2.1,x2.2.1,x2.2.2.1,x2.2.2.2.1] s1.2.2.2.1) (false) then
 (F53 (3:Int) s1.2.2.2.2 (6:Int)).bind fun x23=>some (.inr (.inr x23))
 else
 bif x2.2.2.2.2.1 then
 some
 (.inl
 (s1.1,Zbb (Zao Y3) x2.1 x2.2.2.1 s1.2.1,Zbb (Zao Y3) x2.2.2.1 true s1.2.2.1,
 Zbb (Zao Zkn) [x2.1,x2.2.1,x2.2.2.1,x2.2.2.2.1] true s1.2.2.2.1,
 IntKind.wrap .i64 (s1.2.2.2.2+(1:Int))))
 else
 some
 (.inl
 (s1.1,s1.2.1,s1.2.2.1,Zbb (Zao Zkn) [x2.1,x2.2.1,x2.2.2.1,x2.2.2.2.1] true s1.2.2.2.1,
 IntKind.wrap .i64 (s1.2.2.2.2+(1:Int))))
 else some (.inr (.inl s1.1)))
 (((0:Int),(0:Int),(0:Int),()),[],[],[],(0:Int)))
 fun x24=>Sum.elim (fun _=>some ((0:Int),(0:Int),(0:Int),())) (fun y26=>some y26) x24
abbrev F41A:Zam:=(.cons (.pd Y31) .nil)
abbrev F41R:Zam:=(.cons (.pd ZcD) .nil)
def F41S:Tr.Spec:= {args:=F41A,res:=F41R,fns:=[],α:=El ZcD,f:=fun x=>F41 x.1,unp:=fun z=>(((),()),(z,())) }
def F41M:List (Nat×List Tr.Spec):=[(114,[F53S]),(125,[F54S]),(126,[F52S])]
def F41H:ZaW:=(.seq .leaf (.seq .leaf (.seq .leaf (.seq .leaf (.seq (.seq .leaf (.lp ⟨[(2,(.var ZcD (.pd ZcD))),(3,(.map Y3 Y3)),(4,(.map Y3 Y4)),(5,(.map Zkn Y4)),(24,(.pd Y3))],[],[1,22,23],[],[],[]⟩ [((.exit 0),⟨[(2,(.var ZcD (.pd ZcD)))],[],[],[],[],[]⟩),(.ret,⟨[(2,(.var ZcD (.pd ZcD)))],[],[],[],[],[]⟩)] (.seq .leaf (.seq .leaf (.seq (.seq .leaf (.seq (.seq (.reg [(51,Y4)]) .leaf) (.seq .leaf (.seq (.seq (.reg [(81,Y4)]) .leaf) .leaf)))) .leaf))))) .leaf)))))
def F41V (a0:El Y31):Option (El ZcD):=Zau (mkE tyTab mapTab pkTab [] [] F41M 171 bdTab) (Zai Tryz.f116) Tryz.f116.results F41H F41A F41R (fun y=>y.2.1) (a0,())
theorem F41_eq (a0:El Y31):F41V a0=F41 a0:=by kernel_rfl
theorem F41_ok:ZaU Tryz.prog 116 F41S:=Zac (m:=F41M) (fn:=Tryz.f116) (hint:=F41H) (pack:=fun y=>y.2.1) Za2 tab_ok ⟨⟨F53_ok,trivial⟩,⟨F54_ok,trivial⟩,⟨F52_ok,trivial⟩,trivial⟩ fun x z h=>(F41_eq x.1).trans h
def F56: (El Y3)→(El Y3)→(El Y3)→Option (El Y4):=fun a0 a1 a2=>Option.bind (bif decide (a1≤a0) then some (decide (a0≤a2)) else some false) fun x0=>some x0
abbrev F56A:Zam:=(.cons (.pd Y3) (.cons (.pd Y3) (.cons (.pd Y3) .nil)))
abbrev F56R:Zam:=(.cons (.pd Y4) .nil)
def F56S:Tr.Spec:= {args:=F56A,res:=F56R,fns:=[],α:=El Y4,f:=fun x=>F56 x.1 x.2.1 x.2.2.1,unp:=fun z=>(((),(),(),()),(z,())) }
def F56M:List (Nat×List Tr.Spec):=[]
def F56H:ZaW:=(.seq .leaf (.seq (.reg [(6,Y4)]) .leaf))
def F56V (a0:El Y3) (a1:El Y3) (a2:El Y3):Option (El Y4):=Zau (mkE tyTab mapTab pkTab [] [] F56M 15 bdTab) (Zai Tryz.f127) Tryz.f127.results F56H F56A F56R (fun y=>y.2.1) (a0,a1,a2,())
theorem F56_eq (a0:El Y3) (a1:El Y3) (a2:El Y3):F56V a0 a1 a2=F56 a0 a1 a2:=by kernel_rfl
theorem F56_ok:ZaU Tryz.prog 127 F56S:=Zac (m:=F56M) (fn:=Tryz.f127) (hint:=F56H) (pack:=fun y=>y.2.1) Za2 tab_ok trivial fun x z h=>(F56_eq x.1 x.2.1 x.2.2.1).trans h
def F55: (El Y29)→Option (El Y3×El Y36):=fun a0=>
 Option.bind
 ((F56 a0.2.1 (0:Int) (1000000:Int)).bind fun x0=>
 bif !x0 then some true
 else
 (F56 a0.2.2.1 (0:Int) (86400:Int)).bind fun x1=>
 bif !x1 then some true else (F56 a0.2.2.2.1 (0:Int) (1000000:Int)).bind fun x2=>some !x2)
 fun x3=>
 bif x3 then some ((-1:Int),(2:Int))
 else
 bif decide ((16:Int)< (↑(List.length a0.1):Int)) then some ((0:Int),(5:Int))
 else
 Option.bind
 (run
 (fun s4=>
 bif decide (s4.2< (↑(List.length a0.1):Int)) then
 (idx a0.1 s4.2).bind fun x5=>
 (F25 x5.1).bind fun x6=>
 bif !x6 then some (.inr (.inr (s4.2,(12:Int))))
 else
 bif Option.getD (ZaM (Zao Y9) x5.1 s4.1) (false) then some (.inr (.inr (s4.2,(6:Int))))
 else
 Option.bind
 ((F56 x5.2.1 (0:Int) (1000000:Int)).bind fun x7=>
 bif !x7 then some true
 else
 (F56 x5.2.2.1 (1:Int) (8:Int)).bind fun x8=>
 bif !x8 then some true
 else
 (F56 x5.2.2.2.1 (1:Int) (16:Int)).bind fun x9=>
 bif !x9 then some true
 else
 (F56 x5.2.2.2.2.1 (0:Int) (86400:Int)).bind fun x10=>
 bif !x10 then some true else (F56 x5.2.2.2.2.2.1 (1:Int) (255:Int)).bind fun x11=>some !x11)
 fun x12=>
 bif x12 then some (.inr (.inr (s4.2,(2:Int))))
 else some (.inl (Zbb (Zao Y9) x5.1 true s4.1,IntKind.wrap .i64 (s4.2+(1:Int))))
 else some (.inr (.inl ())))
 ([],(0:Int)))
 fun x13=>Sum.elim (fun _=>some ((0:Int),(0:Int))) (fun y15=>some (y15.1,y15.2)) x13
abbrev F55A:Zam:=(.cons (.pd Y29) .nil)
abbrev F55R:Zam:=(.cons (.pd Y3) (.cons (.pd Y36) .nil))
def F55S:Tr.Spec:= {args:=F55A,res:=F55R,fns:=[],α:=El Y3×El Y36,f:=fun x=>F55 x.1,unp:=fun z=>(((),()),(z.1,z.2,())) }
def F55M:List (Nat×List Tr.Spec):=[(122,[F25S]),(127,[F56S])]
def F55H:ZaW:=(.seq .leaf (.seq (.seq (.reg [(22,Y4)]) .leaf) (.seq .leaf (.seq .leaf (.seq (.seq .leaf (.lp ⟨[(4,(.map Y9 Y4)),(31,(.pd Y3))],[],[29,30],[],[],[]⟩ [((.exit 0),⟨[],[],[],[],[],[]⟩),(.ret,⟨[(2,(.pd Y3)),(3,(.pd Y36))],[],[],[],[],[]⟩)] (.seq .leaf (.seq .leaf (.seq (.seq .leaf (.seq .leaf (.seq .leaf (.seq (.seq (.reg [(73,Y4)]) .leaf) .leaf)))) .leaf))))) .leaf)))))
def F55V (a0:El Y29):Option (El Y3×El Y36):=Zau (mkE tyTab mapTab pkTab [] [] F55M 79 bdTab) (Zai Tryz.f117) Tryz.f117.results F55H F55A F55R (fun y=>(y.2.1,y.2.2.1)) (a0,())
theorem F55_eq (a0:El Y29):F55V a0=F55 a0:=by kernel_rfl
theorem F55_ok:ZaU Tryz.prog 117 F55S:=Zac (m:=F55M) (fn:=Tryz.f117) (hint:=F55H) (pack:=fun y=>(y.2.1,y.2.2.1)) Za2 tab_ok ⟨⟨F25_ok,trivial⟩,⟨F56_ok,trivial⟩,trivial⟩ fun x z h=>(F55_eq x.1).trans h
def F16: (El Y26)→(El Y3)→Option (El Y3×El Y36):=fun a0 a1=>
 Option.bind
 (run
 (fun s0=>
 bif decide (s0.2< (↑(List.length a0):Int)) then
 (idx a0 s0.2).bind fun x1=>
 Option.bind
 (bif decide (x1.1< (0:Int)) then some (decide (x1.1< (0:Int)))
 else
 Option.bind
 (bif decide (a1≤x1.1) then some (decide (a1≤x1.1))
 else
 Option.bind
 (bif decide (x1.2.1< (0:Int)) then some (decide (x1.2.1< (0:Int)))
 else
 Option.bind (bif decide (a1≤x1.2.1) then some (decide (a1≤x1.2.1)) else some (decide (x1.1=x1.2.1))) fun x2=>
 some x2)
 fun x3=>some x3)
 fun x4=>some x4)
 fun x5=>
 bif x5 then some (.inr (.inr (s0.2,(9:Int))))
 else
 Option.bind
 (bif decide (x1.2.2.1< (1:Int)) then some (decide (x1.2.2.1< (1:Int)))
 else some (decide ((14400:Int)<x1.2.2.1)))
 fun x6=>
 bif x6 then some (.inr (.inr (s0.2,(2:Int))))
 else
 bif Option.getD (ZaM (Zao Zlm) (x1.1,x1.2.1,x1.2.2.2.1,()) s0.1) (false) then some (.inr (.inr (s0.2,(6:Int))))
 else some (.inl (Zbb (Zao Zlm) (x1.1,x1.2.1,x1.2.2.2.1,()) true s0.1,IntKind.wrap .i64 (s0.2+(1:Int))))
 else some (.inr (.inl ())))
 ([],(0:Int)))
 fun x7=>Sum.elim (fun _=>some ((0:Int),(0:Int))) (fun y9=>some (y9.1,y9.2)) x7
abbrev F16A:Zam:=(.cons (.pd Y26) (.cons (.pd Y3) .nil))
abbrev F16R:Zam:=(.cons (.pd Y3) (.cons (.pd Y36) .nil))
def F16S:Tr.Spec:= {args:=F16A,res:=F16R,fns:=[],α:=El Y3×El Y36,f:=fun x=>F16 x.1 x.2.1,unp:=fun z=>(((),(),()),(z.1,z.2,())) }
def F16M:List (Nat×List Tr.Spec):=[]
def F16H:ZaW:=(.seq .leaf (.seq .leaf (.seq (.seq .leaf (.lp ⟨[(6,(.map Zlm Y4)),(13,(.pd Y3))],[],[1,11,12],[],[],[]⟩ [((.exit 0),⟨[],[],[],[],[],[]⟩),(.ret,⟨[(4,(.pd Y3)),(5,(.pd Y36))],[],[],[],[],[]⟩)] (.seq .leaf (.seq .leaf (.seq (.seq .leaf (.seq .leaf (.seq (.seq (.seq .leaf (.cnd (some (⟨[],[],[1,6,7,8,9,11,12,13],[],[],[]⟩,[(.normal,⟨[(25,(.pd Y4))],[],[1,6,7,8,9,11,12,13],[],[],[]⟩)])) .leaf (.seq .leaf (.cnd (some (⟨[],[],[1,6,7,8,9,11,12,13],[],[],[]⟩,[(.normal,⟨[(25,(.pd Y4))],[],[1,6,7,8,9,11,12,13],[],[],[]⟩)])) .leaf (.seq .leaf (.cnd (some (⟨[],[],[1,6,7,8,9,11,12,13],[],[],[]⟩,[(.normal,⟨[(25,(.pd Y4))],[],[1,6,7,8,9,11,12,13],[],[],[]⟩)])) .leaf (.seq .leaf (.cnd (some (⟨[],[],[1,6,7,8,9,11,12,13],[],[],[]⟩,[(.normal,⟨[(25,(.pd Y4))],[],[1,6,7,8,9,11,12,13],[],[],[]⟩)])) .leaf .leaf)))))))) (.cnd none .leaf (.seq (.seq .leaf (.cnd (some (⟨[],[],[1,6,7,9,11,12,13],[],[],[]⟩,[(.normal,⟨[(46,(.pd Y4))],[],[1,6,7,9,11,12,13],[],[],[]⟩)])) .leaf .leaf)) .leaf))) .leaf))) .leaf))))) .leaf)))
def F16V (a0:El Y26) (a1:El Y3):Option (El Y3×El Y36):=Zau (mkE tyTab mapTab pkTab [] [] F16M 62 bdTab) (Zai Tryz.f132) Tryz.f132.results F16H F16A F16R (fun y=>(y.2.1,y.2.2.1)) (a0,a1,())
theorem F16_eq (a0:El Y26) (a1:El Y3):F16V a0 a1=F16 a0 a1:=by kernel_rfl
theorem F16_ok:ZaU Tryz.prog 132 F16S:=Zac (m:=F16M) (fn:=Tryz.f132) (hint:=F16H) (pack:=fun y=>(y.2.1,y.2.2.1)) Za2 tab_ok trivial fun x z h=>(F16_eq x.1 x.2.1).trans h
def F118: (El Y3)→(El Y3)→Option (El Y4):=fun a0 a1=>Option.bind (bif decide (a0< (0:Int)) then some true else some (decide (a1≤a0))) fun x0=>some x0
abbrev F118A:Zam:=(.cons (.pd Y3) (.cons (.ro Y3) .nil))
abbrev F118R:Zam:=(.cons (.pd Y4) .nil)
def F118S:Tr.Spec:= {args:=F118A,res:=F118R,fns:=[],α:=El Y4,f:=fun x=>F118 x.1 x.2.1,unp:=fun z=>(((),(),()),(z,())) }
def F118M:List (Nat×List Tr.Spec):=[]
def F118H:ZaW:=(.seq .leaf (.seq (.reg [(3,Y4)]) .leaf))
def F118V (a0:El Y3) (a1:El Y3):Option (El Y4):=Zau (mkE tyTab mapTab pkTab [] [] F118M 11 bdTab) (Zai Tryz.f158) Tryz.f158.results F118H F118A F118R (fun y=>y.2.1) (a0,a1,())
theorem F118_eq (a0:El Y3) (a1:El Y3):F118V a0 a1=F118 a0 a1:=by kernel_rfl
theorem F118_ok:ZaU Tryz.prog 158 F118S:=Zac (m:=F118M) (fn:=Tryz.f158) (hint:=F118H) (pack:=fun y=>y.2.1) Za2 tab_ok trivial fun x z h=>(F118_eq x.1 x.2.1).trans h
def F117: (El Y3)→(El Znw)→(El Y52)→Option (El Y36):=fun a0 a1 a2=>
 Option.bind (bif decide (a0< (0:Int)) then some true else some (decide ((64:Int)<a0))) fun x0=>
 bif x0 then some (2:Int)
 else
 bif decide ((4096:Int)< (↑(List.length a1):Int)) then some (5:Int)
 else
 Option.bind
 (run
 (fun s1=>
 bif decide (s1< (↑(List.length a1):Int)) then
 (idx a1 s1).bind fun x2=>
 (F118 x2.1 a0).bind fun x3=>
 bif x3 then some (.inr (.inr (9:Int)))
 else
 (F118 x2.2.1 a0).bind fun x4=>
 bif x4 then some (.inr (.inr (9:Int)))
 else
 Option.bind (bif decide (x2.2.2.1< (0:Int)) then some true else some (decide ((1073741824:Int)<x2.2.2.1))) fun x5=>
 bif x5 then some (.inr (.inr (2:Int))) else some (.inl (IntKind.wrap .i64 (s1+(1:Int))))
 else some (.inr (.inl ())))
 (0:Int))
 fun x6=>
 Sum.elim
 (fun _=>
 Option.bind
 (run
 (fun s8=>
 bif decide (s8< (↑(List.length a2):Int)) then
 (idx a2 s8).bind fun x9=>
 (F118 x9 a0).bind fun x10=>
 bif x10 then some (.inr (.inr (9:Int))) else some (.inl (IntKind.wrap .i64 (s8+(1:Int))))
 else some (.inr (.inl ())))
 (0:Int))
 fun x11=>Sum.elim (fun _=>some (0:Int)) (fun y13=>some y13) x11)
 (fun y14=>some y14) x6
abbrev F117A:Zam:=(.cons (.pd Y3) (.cons (.pd Znw) (.cons (.pd Y52) .nil)))
abbrev F117R:Zam:=(.cons (.pd Y36) .nil)
def F117S:Tr.Spec:= {args:=F117A,res:=F117R,fns:=[],α:=El Y36,f:=fun x=>F117 x.1 x.2.1 x.2.2.1,unp:=fun z=>(((),(),(),()),(z,())) }
def F117M:List (Nat×List Tr.Spec):=[(158,[F118S])]
def F117H:ZaW:=(.seq .leaf (.seq (.seq (.reg [(17,Y4)]) .leaf) (.seq .leaf (.seq .leaf (.seq (.seq .leaf (.lp ⟨[(24,(.pd Y3))],[],[2,7,22,23],[],[],[]⟩ [((.exit 0),⟨[],[],[2,7],[],[],[]⟩),(.ret,⟨[(6,(.pd Y36))],[],[],[],[],[]⟩)] (.seq .leaf (.seq .leaf (.seq (.seq .leaf (.seq .leaf (.seq (.reg [(45,Y4)]) .leaf))) .leaf))))) (.seq (.seq .leaf (.lp ⟨[(49,(.pd Y3))],[],[7,47,48],[],[],[]⟩ [((.exit 2),⟨[],[],[],[],[],[]⟩),(.ret,⟨[(6,(.pd Y36))],[],[],[],[],[]⟩)] .leaf)) .leaf))))))
def F117V (a0:El Y3) (a1:El Znw) (a2:El Y52):Option (El Y36):=Zau (mkE tyTab mapTab pkTab [] [] F117M 57 bdTab) (Zai Tryz.f144) Tryz.f144.results F117H F117A F117R (fun y=>y.2.1) (a0,a1,a2,())
theorem F117_eq (a0:El Y3) (a1:El Znw) (a2:El Y52):F117V a0 a1 a2=F117 a0 a1 a2:=by kernel_rfl
theorem F117_ok:ZaU Tryz.prog 144 F117S:=Zac (m:=F117M) (fn:=Tryz.f144) (hint:=F117H) (pack:=fun y=>y.2.1) Za2 tab_ok ⟨⟨F118_ok,trivial⟩,trivial⟩ fun x z h=>(F117_eq x.1 x.2.1 x.2.2.1).trans h
def F122: (El Znw)→(El Y4)→Option (List (El Y3×List (El Zi3))):=fun a0 a1=>
 Option.bind
 (run
 (fun s0=>
 bif decide (s0.2< (↑(List.length a0):Int)) then
 (idx a0 s0.2).bind fun x1=>
 Option.bind (bif a1 then some (x1.2.1,x1.1,x1.2.2) else some x1) fun x2=>
 Option.bind (Zap (decide (List.length (Option.getD (ZaM (Zao Y3) x2.1 s0.1) [])+List.length [x2]≤Zaq))) fun _=>
 Option.bind (Zap (Tr.holeK Y3 (some x2.1) x2.1)) fun _=>
 some (.inl (Zbb (Zao Y3) x2.1 (Option.getD (ZaM (Zao Y3) x2.1 s0.1) []++[x2]) s0.1,IntKind.wrap .i64 (s0.2+(1:Int))))
 else some (.inr s0.1))
 ([],(0:Int)))
 fun x5=>some x5
abbrev F122A:Zam:=(.cons (.pd Znw) (.cons (.pd Y4) .nil))
abbrev F122R:Zam:=(.cons (.mrows Y3 Zi3) .nil)
def F122S:Tr.Spec:= {args:=F122A,res:=F122R,fns:=[],α:=List (El Y3×List (El Zi3)),f:=fun x=>F122 x.1 x.2.1,unp:=fun z=>(((),(),()),(z,())) }
def F122M:List (Nat×List Tr.Spec):=[]
def F122H:ZaW:=(.seq .leaf (.seq .leaf (.seq (.seq .leaf (.lp ⟨[(5,(.mrows Y3 Zi3)),(11,(.pd Y3))],[],[1,9,10],[],[],[]⟩ [((.exit 0),⟨[(5,(.mrows Y3 Zi3))],[],[],[],[],[]⟩)] (.seq .leaf (.seq .leaf (.seq (.seq .leaf (.seq (.seq .leaf (.cnd (some (⟨[],[],[1,5,9,10,11],[],[],[]⟩,[(.normal,⟨[(7,(.var Zi3 (.pd Zi3)))],[],[1,5,9,10,11],[],[],[]⟩)])) .leaf .leaf)) .leaf)) .leaf))))) .leaf)))
def F122V (a0:El Znw) (a1:El Y4):Option (List (El Y3×List (El Zi3))):=Zau (mkE tyTab mapTab pkTab [212] [] F122M 34 bdTab) (Zai Tryz.f145) Tryz.f145.results F122H F122A F122R (fun y=>y.2.1) (a0,a1,())
theorem F122_eq (a0:El Znw) (a1:El Y4):F122V a0 a1=F122 a0 a1:=by kernel_rfl
theorem F122_ok:ZaU Tryz.prog 145 F122S:=Zac (m:=F122M) (fn:=Tryz.f145) (hint:=F122H) (pack:=fun y=>y.2.1) Za2 tab_ok trivial fun x z h=>(F122_eq x.1 x.2.1).trans h
def F120: (El ZrC)→Option (El Y52):=fun a0=>
 Option.bind
 (Zap
 (decide
 ((0:El (Tr.Ty.int .i64))≤(↑(List.length a0):Int)∧
 (↑(List.length a0):Int)≤(↑(List.length a0):Int)∧(↑(List.length a0):Int)≤(↑Zaq:El (Tr.Ty.int .i64)))))
 fun _=>
 Option.bind
 (run
 (fun s1=>
 bif decide (s1.2< (↑(List.length a0):Int)) then
 (idx a0 s1.2).bind fun x2=>
 (inb s1.2 (List.length s1.1)).bind fun x3=>
 Option.bind s1.1[x3]? fun _=>some (.inl (List.set s1.1 x3 x2.2.1,IntKind.wrap .i64 (s1.2+(1:Int))))
 else some (.inr s1.1))
 (List.replicate (Int.toNat (↑(List.length a0):Int)) ((0:Int)),(0:Int)))
 fun x5=>some x5
abbrev F120A:Zam:=(.cons (.pd ZrC) .nil)
abbrev F120R:Zam:=(.cons (.pd Y52) .nil)
def F120S:Tr.Spec:= {args:=F120A,res:=F120R,fns:=[],α:=El Y52,f:=fun x=>F120 x.1,unp:=fun z=>(((),()),(z,())) }
def F120M:List (Nat×List Tr.Spec):=[]
def F120H:ZaW:=(.seq .leaf (.seq .leaf (.seq (.seq .leaf (.lp ⟨[(3,(.own Y3 false)),(11,(.pd Y3))],[],[9,10],[],[],[]⟩ [((.exit 0),⟨[(3,(.own Y3 false))],[],[],[],[],[]⟩)] .leaf)) .leaf)))
def F120V (a0:El ZrC):Option (El Y52):=Zau (mkE tyTab mapTab pkTab [] [] F120M 23 bdTab) (Zai Tryz.f146) Tryz.f146.results F120H F120A F120R (fun y=>y.2.1) (a0,())
theorem F120_eq (a0:El ZrC):F120V a0=F120 a0:=by kernel_rfl
theorem F120_ok:ZaU Tryz.prog 146 F120S:=Zac (m:=F120M) (fn:=Tryz.f146) (hint:=F120H) (pack:=fun y=>y.2.1) Za2 tab_ok trivial fun x z h=>(F120_eq x.1).trans h
def F121: (El Zhl)→(El Zhl)→Option (El Y4):=fun a0 a1=>
 Option.bind
 (bif decide (a0.2.1<a1.2.1) then some true
 else bif decide (a0.2.1=a1.2.1) then some (decide (a0.2.2.1<a1.2.2.1)) else some false)
 fun x0=>some x0
abbrev F121A:Zam:=(.cons (.pd Zhl) (.cons (.pd Zhl) .nil))
abbrev F121R:Zam:=(.cons (.pd Y4) .nil)
def F121S:Tr.Spec:= {args:=F121A,res:=F121R,fns:=[],α:=El Y4,f:=fun x=>F121 x.1 x.2.1,unp:=fun z=>(((),(),()),(z,())) }
def F121M:List (Nat×List Tr.Spec):=[]
def F121H:ZaW:=(.seq .leaf (.seq (.reg [(4,Y4)]) .leaf))
def F121V (a0:El Zhl) (a1:El Zhl):Option (El Y4):=Zau (mkE tyTab mapTab pkTab [] [] F121M 24 bdTab) (Zai Tryz.f160) Tryz.f160.results F121H F121A F121R (fun y=>y.2.1) (a0,a1,())
theorem F121_eq (a0:El Zhl) (a1:El Zhl):F121V a0 a1=F121 a0 a1:=by kernel_rfl
theorem F121_ok:ZaU Tryz.prog 160 F121S:=Zac (m:=F121M) (fn:=Tryz.f160) (hint:=F121H) (pack:=fun y=>y.2.1) Za2 tab_ok trivial fun x z h=>(F121_eq x.1 x.2.1).trans h
def F21: (Tz4)→(El Y3)→(El Y3)→Option (Tz4×El Y4):=fun a0 a1 a2=>
 (inb a1 (List.length a0.2.1)).bind fun x0=>
 Option.bind a0.2.1[x0]? fun x1=>
 (inb a2 (List.length a0.2.1)).bind fun x2=>
 Option.bind a0.2.1[x2]? fun x3=>
 (F121 x1.1 x3.1).bind fun x4=>
 bif x4 then some (((),a0.2.1,a0.2.2.1,()),true)
 else
 (F121 x3.1 x1.1).bind fun x5=>
 bif x5 then some (((),a0.2.1,a0.2.2.1,()),false) else some (((),a0.2.1,a0.2.2.1,()),decide (x1.2.1<x3.2.1))
abbrev F21A:Zam:=(.cons Pz9 (.cons (.pd Y3) (.cons (.pd Y3) .nil)))
abbrev F21R:Zam:=(.cons (.pd Y4) .nil)
def F21S:Tr.Spec:= {args:=F21A,res:=F21R,fns:=[],α:=Tz4×El Y4,f:=fun x=>F21 x.1 x.2.1 x.2.2.1,unp:=fun z=>((z.1,(),(),()),(z.2,())) }
def F21M:List (Nat×List Tr.Spec):=[(160,[F121S])]
def F21H:ZaW:= .leaf
def F21V (a0:Tz4) (a1:El Y3) (a2:El Y3):Option (Tz4×El Y4):=Zau (mkE tyTab mapTab pkTab [] [] F21M 46 bdTab) (Zai Tryz.f168) Tryz.f168.results F21H F21A F21R (fun y=>(y.1.1,y.2.1)) (a0,a1,a2,())
theorem F21_eq (a0:Tz4) (a1:El Y3) (a2:El Y3):F21V a0 a1 a2=F21 a0 a1 a2:=by kernel_rfl
theorem F21_ok:ZaU Tryz.prog 168 F21S:=Zac (m:=F21M) (fn:=Tryz.f168) (hint:=F21H) (pack:=fun y=>(y.1.1,y.2.1)) Za2 tab_ok ⟨⟨F121_ok,trivial⟩,trivial⟩ fun x z h=>(F21_eq x.1 x.2.1 x.2.2.1).trans h
def F23: (Tz4)→(El Y3)→(El Y3)→Option (Tz4):=fun a0 a1 a2=>
 (inb a2 (List.length a0.2.1)).bind fun x0=>
 Option.bind a0.2.1[x0]? fun x1=>
 (inb a1 (List.length a0.2.1)).bind fun x2=>
 Option.bind a0.2.1[x2]? fun x3=>
 (inb a1 (List.length a0.2.1)).bind fun x4=>
 Option.bind a0.2.1[x4]? fun _=>
 (inb a2 (List.length (List.set a0.2.1 x4 x1))).bind fun x6=>
 Option.bind (List.set a0.2.1 x4 x1)[x6]? fun _=>some ((),List.set (List.set a0.2.1 x4 x1) x6 x3,a0.2.2.1,())
abbrev F23A:Zam:=(.cons Pz9 (.cons (.pd Y3) (.cons (.pd Y3) .nil)))
abbrev F23R:Zam:= .nil
def F23S:Tr.Spec:= {args:=F23A,res:=F23R,fns:=[],α:=Tz4,f:=fun x=>F23 x.1 x.2.1 x.2.2.1,unp:=fun z=>((z,(),(),()),()) }
def F23M:List (Nat×List Tr.Spec):=[(160,[F121S])]
def F23H:ZaW:= .leaf
def F23V (a0:Tz4) (a1:El Y3) (a2:El Y3):Option (Tz4):=Zau (mkE tyTab mapTab pkTab [] [] F23M 32 bdTab) (Zai Tryz.f169) Tryz.f169.results F23H F23A F23R (fun y=>y.1.1) (a0,a1,a2,())
theorem F23_eq (a0:Tz4) (a1:El Y3) (a2:El Y3):F23V a0 a1 a2=F23 a0 a1 a2:=by kernel_rfl
theorem F23_ok:ZaU Tryz.prog 169 F23S:=Zac (m:=F23M) (fn:=Tryz.f169) (hint:=F23H) (pack:=fun y=>y.1.1) Za2 tab_ok ⟨⟨F121_ok,trivial⟩,trivial⟩ fun x z h=>(F23_eq x.1 x.2.1 x.2.2.1).trans h
def F20: (Tz4)→(El Zhl)→Option (Tz4):=fun a0 a1=>
 Option.bind (Zap (decide (List.length a0.2.1+List.length [(a1,a0.2.2.1,())]≤Zaq))) fun _=>
 Option.bind
 (run
 (fun s1=>
 bif decide ((0:Int)<s1.2) then
 Option.bind
 (F21 ((),s1.1.2.1,s1.1.2.2.1,()) s1.2
 (IntKind.wrap .i64 (Int.tdiv (IntKind.wrap .i64 (s1.2 - (1:Int))) (2:Int))))
 fun x2=>
 bif x2.2 then
 Option.bind
 (F23 ((),x2.1.2.1,x2.1.2.2.1,()) s1.2
 (IntKind.wrap .i64 (Int.tdiv (IntKind.wrap .i64 (s1.2 - (1:Int))) (2:Int))))
 fun x3=>some (.inl (((),x3.2.1,x3.2.2.1,()),IntKind.wrap .i64 (Int.tdiv (IntKind.wrap .i64 (s1.2 - (1:Int))) (2:Int))))
 else some (.inr ((),x2.1.2.1,x2.1.2.2.1,()))
 else some (.inr ((),s1.1.2.1,s1.1.2.2.1,())))
 (((),a0.2.1++[(a1,a0.2.2.1,())],IntKind.wrap .i64 (a0.2.2.1+(1:Int)),()),
 IntKind.wrap .i64 ((↑(List.length (a0.2.1++[(a1,a0.2.2.1,())])):Int) - (1:Int))))
 fun x4=>some ((),x4.2.1,x4.2.2.1,())
abbrev F20A:Zam:=(.cons Pz9 (.cons (.pd Zhl) .nil))
abbrev F20R:Zam:= .nil
def F20S:Tr.Spec:= {args:=F20A,res:=F20R,fns:=[],α:=Tz4,f:=fun x=>F20 x.1 x.2.1,unp:=fun z=>((z,(),()),()) }
def F20M:List (Nat×List Tr.Spec):=[(160,[F121S]),(168,[F21S]),(169,[F23S])]
def F20H:ZaW:=(.seq .leaf (.seq .leaf (.seq .leaf (.seq .leaf (.seq .leaf (.lp ⟨[(0,Pz8),(4,(.pd Y3))],[],[],[],[],[]⟩ [((.exit 0),⟨[(0,Pz8)],[],[],[],[],[]⟩)] .leaf))))))
def F20V (a0:Tz4) (a1:El Zhl):Option (Tz4):=Zau (mkE tyTab mapTab pkTab [] [] F20M 54 bdTab) (Zai Tryz.f161) Tryz.f161.results F20H F20A F20R (fun y=>y.1.1) (a0,a1,())
theorem F20_eq (a0:Tz4) (a1:El Zhl):F20V a0 a1=F20 a0 a1:=by kernel_rfl
theorem F20_ok:ZaU Tryz.prog 161 F20S:=Zac (m:=F20M) (fn:=Tryz.f161) (hint:=F20H) (pack:=fun y=>y.1.1) Za2 tab_ok ⟨⟨F121_ok,trivial⟩,⟨F21_ok,trivial⟩,⟨F23_ok,trivial⟩,trivial⟩ fun x z h=>(F20_eq x.1 x.2.1).trans h
def F17: (Tz4)→Option (Tz4×El Y3):=fun a0=>some (((),a0.2.1,a0.2.2.1,()),(↑(List.length a0.2.1):Int))
abbrev F17A:Zam:=(.cons Pz9 .nil)
abbrev F17R:Zam:=(.cons (.pd Y3) .nil)
def F17S:Tr.Spec:= {args:=F17A,res:=F17R,fns:=[],α:=Tz4×El Y3,f:=fun x=>F17 x.1,unp:=fun z=>((z.1,()),(z.2,())) }
def F17M:List (Nat×List Tr.Spec):=[(160,[F121S])]
def F17H:ZaW:= .leaf
def F17V (a0:Tz4):Option (Tz4×El Y3):=Zau (mkE tyTab mapTab pkTab [] [] F17M 10 bdTab) (Zai Tryz.f173) Tryz.f173.results F17H F17A F17R (fun y=>(y.1.1,y.2.1)) (a0,())
theorem F17_eq (a0:Tz4):F17V a0=F17 a0:=by kernel_rfl
theorem F17_ok:ZaU Tryz.prog 173 F17S:=Zac (m:=F17M) (fn:=Tryz.f173) (hint:=F17H) (pack:=fun y=>(y.1.1,y.2.1)) Za2 tab_ok ⟨⟨F121_ok,trivial⟩,trivial⟩ fun x z h=>(F17_eq x.1).trans h
def F18: (Tz4)→Option Tz3:=fun a0=>
 (F17 ((),a0.2.1,a0.2.2.1,())).bind fun x0=>
 bif decide (x0.2=(0:Int)) then some (((),x0.1.2.1,x0.1.2.2.1,()),((0:Int),(0:Int),(0:Int),()),false)
 else (inb (0:Int) (List.length x0.1.2.1)).bind fun x1=>Option.bind x0.1.2.1[x1]? fun x2=>some (((),x0.1.2.1,x0.1.2.2.1,()),x2.1,true)
abbrev F18A:Zam:=(.cons Pz9 .nil)
abbrev F18R:Zam:=(.cons (.pd Zhl) (.cons (.pd Y4) .nil))
def F18S:Tr.Spec:= {args:=F18A,res:=F18R,fns:=[],α:=Tz4×El Zhl×El Y4,f:=fun x=>F18 x.1,unp:=fun z=>((z.1,()),(z.2.1,z.2.2,())) }
def F18M:List (Nat×List Tr.Spec):=[(160,[F121S]),(173,[F17S])]
def F18H:ZaW:= .leaf
def F18V (a0:Tz4):Option Tz3:=Zau (mkE tyTab mapTab pkTab [] [] F18M 16 bdTab) (Zai Tryz.f170) Tryz.f170.results F18H F18A F18R (fun y=>(y.1.1,y.2.1,y.2.2.1)) (a0,())
theorem F18_eq (a0:Tz4):F18V a0=F18 a0:=by kernel_rfl
theorem F18_ok:ZaU Tryz.prog 170 F18S:=Zac (m:=F18M) (fn:=Tryz.f170) (hint:=F18H) (pack:=fun y=>(y.1.1,y.2.1,y.2.2.1)) Za2 tab_ok ⟨⟨F121_ok,trivial⟩,⟨F17_ok,trivial⟩,trivial⟩ fun x z h=>(F18_eq x.1).trans h
def F22: (Tz4)→Option (Tz4):=fun a0=>
 Option.bind
 (run
 (fun s0=>
 bif decide ((↑(List.length s0.1.2.1):Int)≤IntKind.wrap .i64 (IntKind.wrap .i64 ((2:Int) *s0.2)+(1:Int))) then
 some (.inr ((),s0.1.2.1,s0.1.2.2.1,()))
 else
 bif
 decide
 (IntKind.wrap .i64 (IntKind.wrap .i64 (IntKind.wrap .i64 ((2:Int) *s0.2)+(1:Int))+(1:Int))<
 (↑(List.length s0.1.2.1):Int)) then
 Option.bind
 (F21 ((),s0.1.2.1,s0.1.2.2.1,())
 (IntKind.wrap .i64 (IntKind.wrap .i64 (IntKind.wrap .i64 ((2:Int) *s0.2)+(1:Int))+(1:Int)))
 (IntKind.wrap .i64 (IntKind.wrap .i64 ((2:Int) *s0.2)+(1:Int))))
 fun x1=>
 Option.bind
 (bif x1.2 then
 some
 (((),x1.1.2.1,x1.1.2.2.1,()),
 IntKind.wrap .i64 (IntKind.wrap .i64 (IntKind.wrap .i64 ((2:Int) *s0.2)+(1:Int))+(1:Int)))
 else some (((),x1.1.2.1,x1.1.2.2.1,()),IntKind.wrap .i64 (IntKind.wrap .i64 ((2:Int) *s0.2)+(1:Int))))
 fun x2=>
 (F21 ((),x2.1.2.1,x2.1.2.2.1,()) x2.2 s0.2).bind fun x3=>
 bif !x3.2 then some (.inr ((),x3.1.2.1,x3.1.2.2.1,()))
 else
 (F23 ((),x3.1.2.1,x3.1.2.2.1,()) s0.2 x2.2).bind fun x4=>
 some (.inl (((),x4.2.1,x4.2.2.1,()),x2.2))
 else
 Option.bind
 (F21 ((),s0.1.2.1,s0.1.2.2.1,()) (IntKind.wrap .i64 (IntKind.wrap .i64 ((2:Int) *s0.2)+(1:Int))) s0.2)
 fun x5=>
 bif !x5.2 then some (.inr ((),x5.1.2.1,x5.1.2.2.1,()))
 else
 Option.bind
 (F23 ((),x5.1.2.1,x5.1.2.2.1,()) s0.2
 (IntKind.wrap .i64 (IntKind.wrap .i64 ((2:Int) *s0.2)+(1:Int))))
 fun x6=>some (.inl (((),x6.2.1,x6.2.2.1,()),IntKind.wrap .i64 (IntKind.wrap .i64 ((2:Int) *s0.2)+(1:Int)))))
 (((),a0.2.1,a0.2.2.1,()),(0:Int)))
 fun x7=>some ((),x7.2.1,x7.2.2.1,())
abbrev F22A:Zam:=(.cons Pz9 .nil)
abbrev F22R:Zam:= .nil
def F22S:Tr.Spec:= {args:=F22A,res:=F22R,fns:=[],α:=Tz4,f:=fun x=>F22 x.1,unp:=fun z=>((z,()),()) }
def F22M:List (Nat×List Tr.Spec):=[(160,[F121S]),(168,[F21S]),(169,[F23S])]
def F22H:ZaW:=(.seq .leaf (.lp ⟨[(0,Pz8),(2,(.pd Y3))],[],[],[],[],[]⟩ [(.ret,⟨[(0,Pz8)],[],[],[],[],[]⟩)] (.seq .leaf (.seq .leaf (.seq (.seq .leaf (.cnd (some (⟨[],[],[2],[],[],[]⟩,[(.normal,⟨[(0,Pz8),(3,(.pd Y3))],[],[2],[],[],[]⟩)])) .leaf .leaf)) .leaf)))))
def F22V (a0:Tz4):Option (Tz4):=Zau (mkE tyTab mapTab pkTab [] [] F22M 41 bdTab) (Zai Tryz.f171) Tryz.f171.results F22H F22A F22R (fun y=>y.1.1) (a0,())
theorem F22_eq (a0:Tz4):F22V a0=F22 a0:=by kernel_rfl
theorem F22_ok:ZaU Tryz.prog 171 F22S:=Zac (m:=F22M) (fn:=Tryz.f171) (hint:=F22H) (pack:=fun y=>y.1.1) Za2 tab_ok ⟨⟨F121_ok,trivial⟩,⟨F21_ok,trivial⟩,⟨F23_ok,trivial⟩,trivial⟩ fun x z h=>(F22_eq x.1).trans h
def F19: (Tz4)→Option Tz3:=fun a0=>
 (F18 ((),a0.2.1,a0.2.2.1,())).bind fun x0=>
 bif !x0.2.2 then some (((),x0.1.2.1,x0.1.2.2.1,()),x0.2.1,false)
 else
 Option.bind (F23 ((),x0.1.2.1,x0.1.2.2.1,()) (0:Int) (IntKind.wrap .i64 ((↑(List.length x0.1.2.1):Int) - (1:Int))))
 fun x1=>
 Option.bind (sliceB (List.length x1.2.1) (List.length x1.2.1) none (some (IntKind.wrap .i64 ((↑(List.length x0.1.2.1):Int) - (1:Int)))))
 fun x2=>
 (F22 ((),List.take x2.2 x1.2.1,x1.2.2.1,())).bind fun x3=>some (((),x3.2.1,x3.2.2.1,()),x0.2.1,true)
abbrev F19A:Zam:=(.cons Pz9 .nil)
abbrev F19R:Zam:=(.cons (.pd Zhl) (.cons (.pd Y4) .nil))
def F19S:Tr.Spec:= {args:=F19A,res:=F19R,fns:=[],α:=Tz4×El Zhl×El Y4,f:=fun x=>F19 x.1,unp:=fun z=>((z.1,()),(z.2.1,z.2.2,())) }
def F19M:List (Nat×List Tr.Spec):=[(160,[F121S]),(169,[F23S]),(170,[F18S]),(171,[F22S])]
def F19H:ZaW:= .leaf
def F19V (a0:Tz4):Option Tz3:=Zau (mkE tyTab mapTab pkTab [] [] F19M 36 bdTab) (Zai Tryz.f162) Tryz.f162.results F19H F19A F19R (fun y=>(y.1.1,y.2.1,y.2.2.1)) (a0,())
theorem F19_eq (a0:Tz4):F19V a0=F19 a0:=by kernel_rfl
theorem F19_ok:ZaU Tryz.prog 162 F19S:=Zac (m:=F19M) (fn:=Tryz.f162) (hint:=F19H) (pack:=fun y=>(y.1.1,y.2.1,y.2.2.1)) Za2 tab_ok ⟨⟨F121_ok,trivial⟩,⟨F23_ok,trivial⟩,⟨F18_ok,trivial⟩,⟨F22_ok,trivial⟩,trivial⟩ fun x z h=>(F19_eq x.1).trans h
def F24: (Unit)→Option (Tz4):=fun _=>some ((),[],(0:Int),())
abbrev F24A:Zam:=(.cons (.fn 160 .nil) .nil)
abbrev F24R:Zam:=(.cons Pz9 .nil)
def F24S:Tr.Spec:= {args:=F24A,res:=F24R,fns:=[160],α:=Tz4,f:=fun x=>F24 x.1,unp:=fun z=>(((),()),(z,())) }
def F24M:List (Nat×List Tr.Spec):=[(160,[F121S])]
def F24H:ZaW:= .leaf
def F24V (a0:Unit):Option (Tz4):=Zau (mkE tyTab mapTab pkTab [] [] F24M 8 bdTab) (Zai Tryz.f159) Tryz.f159.results F24H F24A F24R (fun y=>y.2.1) (a0,())
theorem F24_eq (a0:Unit):F24V a0=F24 a0:=by kernel_rfl
theorem F24_ok:ZaU Tryz.prog 159 F24S:=Zac (m:=F24M) (fn:=Tryz.f159) (hint:=F24H) (pack:=fun y=>y.2.1) Za2 tab_ok ⟨⟨F121_ok,trivial⟩,trivial⟩ fun x z h=>(F24_eq x.1).trans h
def F119: (El Y3)→(List (El Y3×List (El Zi3)))→(El Y3)→Option (List (El Y3×List (El Zi3)) ×El ZrC):=fun a0 a1 a2=>
 Option.bind (Zap (decide ((0:El (Tr.Ty.int .i64))≤a0∧a0≤a0∧a0≤(↑Zaq:El (Tr.Ty.int .i64))))) fun _=>
 Option.bind
 (run
 (fun s1=>
 bif decide (s1.2< (↑(List.length (List.replicate (Int.toNat a0) (((0:Int),(0:Int),(0:Int),())))):Int)) then
 (inb s1.2 (List.length s1.1)).bind fun x2=>
 Option.bind s1.1[x2]? fun _=>some (.inl (List.set s1.1 x2 (s1.2,(-1:Int),(-1:Int),()),IntKind.wrap .i64 (s1.2+(1:Int))))
 else some (.inr s1.1))
 (List.replicate (Int.toNat a0) (((0:Int),(0:Int),(0:Int),())),(0:Int)))
 fun x4=>
 (F24 ()).bind fun x5=>
 (F20 ((),x5.2.1,x5.2.2.1,()) (a2,(0:Int),(0:Int),())).bind fun x6=>
 Option.bind
 (run
 (fun s7=>
 (F19 ((),s7.2.2.1,s7.2.2.2.1,())).bind fun x8=>
 bif !x8.2.2 then some (.inr s7.1)
 else
 (inb x8.2.1.1 (List.length s7.1)).bind fun x9=>
 Option.bind s7.1[x9]? fun x10=>
 bif decide ((0:Int)≤x10.2.2.1) then some (.inl (s7.1,(),x8.1.2.1,x8.1.2.2.1,()))
 else
 (inb x8.2.1.1 (List.length s7.1)).bind fun x11=>
 Option.bind s7.1[x11]? fun _=>
 Option.bind
 (run
 (fun s13=>
 bif decide (s13.2< (↑(List.length (Option.getD (ZaM (Zao Y3) x8.2.1.1 a1) [])):Int)) then
 (inb s13.2 (List.length (Option.getD (ZaM (Zao Y3) x8.2.1.1 a1) []))).bind fun x14=>
 Option.bind (Option.getD (ZaM (Zao Y3) x8.2.1.1 a1) [])[x14]? fun x15=>
 (inb x15.2.1 (List.length (List.set s7.1 x11 x8.2.1))).bind fun x16=>
 Option.bind (List.set s7.1 x11 x8.2.1)[x16]? fun x17=>
 bif decide (x17.2.2.1< (0:Int)) then
 Option.bind
 (F20 ((),s13.1.2.1,s13.1.2.2.1,())
 (x15.2.1,IntKind.wrap .i64 (x8.2.1.2.1+x15.2.2.1),
 IntKind.wrap .i64 (x8.2.1.2.2.1+(1:Int)),()))
 fun x18=>some (.inl (((),x18.2.1,x18.2.2.1,()),IntKind.wrap .i64 (s13.2+(1:Int))))
 else some (.inl (((),s13.1.2.1,s13.1.2.2.1,()),IntKind.wrap .i64 (s13.2+(1:Int))))
 else some (.inr ((),s13.1.2.1,s13.1.2.2.1,())))
 (((),x8.1.2.1,x8.1.2.2.1,()),(0:Int)))
 fun x19=>some (.inl (List.set s7.1 x11 x8.2.1,(),x19.2.1,x19.2.2.1,())))
 (x4,(),x6.2.1,x6.2.2.1,()))
 fun x20=>some (a1,x20)
abbrev F119A:Zam:=(.cons (.pd Y3) (.cons (.mrows Y3 Zi3) (.cons (.pd Y3) .nil)))
abbrev F119R:Zam:=(.cons (.pd ZrC) .nil)
def F119S:Tr.Spec:= {args:=F119A,res:=F119R,fns:=[],α:=List (El Y3×List (El Zi3)) ×El ZrC,f:=fun x=>F119 x.1 x.2.1 x.2.2.1,unp:=fun z=>(((),z.1,(),()),(z.2,())) }
def F119M:List (Nat×List Tr.Spec):=[(159,[F24S]),(160,[F121S]),(161,[F20S]),(162,[F19S])]
def F119H:ZaW:=(.seq .leaf (.seq .leaf (.seq (.seq .leaf (.lp ⟨[(7,(.own Zhl false)),(18,(.pd Y3))],[],[1,2,17],[],[],[]⟩ [((.exit 0),⟨[(7,(.own Zhl false))],[],[1,2],[],[],[]⟩)] .leaf)) (.seq .leaf (.seq .leaf (.lp ⟨[(7,(.own Zhl false)),(9,Pz8)],[],[1],[],[],[]⟩ [(.ret,⟨[(6,(.own Zhl false))],[],[1],[],[],[]⟩)] (.seq .leaf (.seq .leaf (.seq .leaf (.seq .leaf (.seq .leaf (.lp ⟨[(9,Pz8),(57,(.pd Y3))],[],[1,7,10,55,56],[],[],[]⟩ [((.exit 4),⟨[(9,Pz8)],[],[1,7],[],[],[]⟩)] .leaf))))))))))))
def F119V (a0:El Y3) (a1:List (El Y3×List (El Zi3))) (a2:El Y3):Option (List (El Y3×List (El Zi3)) ×El ZrC):=Zau (mkE tyTab mapTab pkTab [] [] F119M 82 bdTab) (Zai Tryz.f147) Tryz.f147.results F119H F119A F119R (fun y=>(y.1.2.1,y.2.1)) (a0,a1,a2,())
theorem F119_eq (a0:El Y3) (a1:List (El Y3×List (El Zi3))) (a2:El Y3):F119V a0 a1 a2=F119 a0 a1 a2:=by kernel_rfl
theorem F119_ok:ZaU Tryz.prog 147 F119S:=Zac (m:=F119M) (fn:=Tryz.f147) (hint:=F119H) (pack:=fun y=>(y.1.2.1,y.2.1)) Za2 tab_ok ⟨⟨F24_ok,trivial⟩,⟨F121_ok,trivial⟩,⟨F20_ok,trivial⟩,⟨F19_ok,trivial⟩,trivial⟩ fun x z h=>(F119_eq x.1 x.2.1 x.2.2.1).trans h
def F116: (El Y3)→(El Znw)→Option (El Y38×El Y36):=fun a0 a1=>
 (F117 a0 a1 []).bind fun x0=>
 bif !decide (x0=(0:Int)) then some ([],x0)
 else
 (F122 a1 false).bind fun x1=>
 Option.bind (Zap (decide ((0:El (Tr.Ty.int .i64))≤a0∧a0≤a0∧a0≤(↑Zaq:El (Tr.Ty.int .i64))))) fun _=>
 Option.bind
 (run
 (fun s3=>
 bif decide (s3.2.2< (↑(List.length (List.replicate (Int.toNat a0) (([]:List (El Y3))))):Int)) then
 (F119 a0 s3.1 s3.2.2).bind fun x4=>
 (F120 x4.2).bind fun x5=>
 (inb s3.2.2 (List.length s3.2.1)).bind fun x6=>
 Option.bind s3.2.1[x6]? fun _=>some (.inl (x4.1,List.set s3.2.1 x6 x5,IntKind.wrap .i64 (s3.2.2+(1:Int))))
 else some (.inr s3.2.1))
 (x1,List.replicate (Int.toNat a0) (([]:List (El Y3))),(0:Int)))
 fun x8=>some (x8,(0:Int))
abbrev F116A:Zam:=(.cons (.pd Y3) (.cons (.pd Znw) .nil))
abbrev F116R:Zam:=(.cons (.pd Y38) (.cons (.pd Y36) .nil))
def F116S:Tr.Spec:= {args:=F116A,res:=F116R,fns:=[],α:=El Y38×El Y36,f:=fun x=>F116 x.1 x.2.1,unp:=fun z=>(((),(),()),(z.1,z.2,())) }
def F116M:List (Nat×List Tr.Spec):=[(144,[F117S]),(145,[F122S]),(146,[F120S]),(147,[F119S])]
def F116H:ZaW:=(.seq .leaf (.seq .leaf (.seq .leaf (.seq .leaf (.seq .leaf (.seq (.seq .leaf (.lp ⟨[(7,(.mrows Y3 Zi3)),(8,(.own Y52 false)),(22,(.pd Y3))],[],[0,21],[],[],[]⟩ [((.exit 0),⟨[(8,(.own Y52 false))],[],[],[],[],[]⟩)] .leaf)) .leaf))))))
def F116V (a0:El Y3) (a1:El Znw):Option (El Y38×El Y36):=Zau (mkE tyTab mapTab pkTab [] [] F116M 35 bdTab) (Zai Tryz.f140) Tryz.f140.results F116H F116A F116R (fun y=>(y.2.1,y.2.2.1)) (a0,a1,())
theorem F116_eq (a0:El Y3) (a1:El Znw):F116V a0 a1=F116 a0 a1:=by kernel_rfl
theorem F116_ok:ZaU Tryz.prog 140 F116S:=Zac (m:=F116M) (fn:=Tryz.f140) (hint:=F116H) (pack:=fun y=>(y.2.1,y.2.2.1)) Za2 tab_ok ⟨⟨F117_ok,trivial⟩,⟨F122_ok,trivial⟩,⟨F120_ok,trivial⟩,⟨F119_ok,trivial⟩,trivial⟩ fun x z h=>(F116_eq x.1 x.2.1).trans h
def F15: (El Y26)→(El Y3)→(El Y4)→Option (El Y38):=fun a0 a1 a2=>
 Option.bind
 (run
 (fun s0=>
 bif decide (s0.2< (↑(List.length a0):Int)) then
 (idx a0 s0.2).bind fun x1=>
 Option.bind (bif a2 then some !x1.2.2.2.1 else some false) fun x2=>
 bif x2 then some (.inl (s0.1,IntKind.wrap .i64 (s0.2+(1:Int))))
 else
 Option.bind
 (bif !Option.isSome (ZaM (Zao Zlm) (x1.1,x1.2.1,false,()) s0.1) then some true
 else some (decide (x1.2.2.1<Option.getD (ZaM (Zao Zlm) (x1.1,x1.2.1,false,()) s0.1) ((0:Int)))))
 fun x3=>
 bif x3 then some (.inl (Zbb (Zao Zlm) (x1.1,x1.2.1,false,()) x1.2.2.1 s0.1,IntKind.wrap .i64 (s0.2+(1:Int))))
 else some (.inl (s0.1,IntKind.wrap .i64 (s0.2+(1:Int))))
 else some (.inr s0.1))
 ([],(0:Int)))
 fun x4=>
 Option.bind
 (Zap
 (decide ((0:El (Tr.Ty.int .i64))≤(0:Int)∧(0:Int)≤(↑(List.length x4):Int)∧(↑(List.length x4):Int)≤(↑Zaq:El (Tr.Ty.int .i64)))))
 fun _=>
 Tr.drun (fun s6=>bif List.isEmpty s6.2 then(1:Nat) else List.length s6.2)
 (fun s6 i7=>
 bif List.isEmpty s6.2 then some (.inr s6.1)
 else
 Option.bind s6.2[i7]? fun x8=>
 Option.bind (Zap (decide (List.length s6.1+List.length [(x8.1.1,x8.1.2.1,x8.2,())]≤Zaq))) fun _=>
 some (.inl (s6.1++[(x8.1.1,x8.1.2.1,x8.2,())],List.eraseIdx s6.2 i7)))
 (fun o10=>(F116 a1 o10).bind fun x11=>some x11.1) (List.replicate (Int.toNat (0:Int)) (((0:Int),(0:Int),(0:Int),())),x4)
abbrev F15A:Zam:=(.cons (.pd Y26) (.cons (.pd Y3) (.cons (.pd Y4) .nil)))
abbrev F15R:Zam:=(.cons (.pd Y38) .nil)
def F15S:Tr.Spec:= {args:=F15A,res:=F15R,fns:=[],α:=El Y38,f:=fun x=>F15 x.1 x.2.1 x.2.2.1,unp:=fun z=>(((),(),(),()),(z,())) }
def F15M:List (Nat×List Tr.Spec):=[(140,[F116S])]
def F15H:ZaW:=(.seq .leaf (.seq .leaf (.seq (.seq .leaf (.lp ⟨[(7,(.map Zlm Y3)),(21,(.pd Y3))],[],[1,2,19,20],[],[],[]⟩ [((.exit 0),⟨[(7,(.map Zlm Y3))],[],[1],[],[],[]⟩)] (.seq .leaf (.seq .leaf (.seq (.seq .leaf (.seq (.seq (.reg [(30,Y4)]) .leaf) (.seq .leaf (.seq .leaf (.seq (.reg [(49,Y4)]) .leaf))))) .leaf))))) (.seq .leaf (.seq (.seq .leaf (.lpd 59 ⟨[(13,(.own Zi3 false)),(59,(.it Zlm Y3))],[],[1],[],[],[]⟩ [((.exit 2),⟨[(13,(.own Zi3 false))],[],[1],[],[],[]⟩)] .leaf)) .leaf)))))
def F15V (a0:El Y26) (a1:El Y3) (a2:El Y4):Option (El Y38):=Zau (mkE tyTab mapTab pkTab [] [] F15M 81 bdTab) (Zai Tryz.f134) Tryz.f134.results F15H F15A F15R (fun y=>y.2.1) (a0,a1,a2,())
theorem F15_eq (a0:El Y26) (a1:El Y3) (a2:El Y4):F15V a0 a1 a2=F15 a0 a1 a2:=by kernel_rfl
theorem F15_ok:ZaU Tryz.prog 134 F15S:=Zac (m:=F15M) (fn:=Tryz.f134) (hint:=F15H) (pack:=fun y=>y.2.1) Za2 tab_ok ⟨⟨F116_ok,trivial⟩,trivial⟩ fun x z h=>(F15_eq x.1 x.2.1 x.2.2.1).trans h
def F3: (El Y52)→Option (El Y3):=fun a0=>
 Option.bind
 (run
 (fun s0=>
 bif decide (s0< (↑(List.length a0):Int)) then
 (idx a0 s0).bind fun x1=>
 bif !decide (x1=(0:Int)) then some (.inr (.inr x1)) else some (.inl (IntKind.wrap .i64 (s0+(1:Int))))
 else some (.inr (.inl ())))
 (0:Int))
 fun x2=>Sum.elim (fun _=>some (0:Int)) (fun y4=>some y4) x2
abbrev F3A:Zam:=(.cons (.pd Y52) .nil)
abbrev F3R:Zam:=(.cons (.pd Y3) .nil)
def F3S:Tr.Spec:= {args:=F3A,res:=F3R,fns:=[],α:=El Y3,f:=fun x=>F3 x.1,unp:=fun z=>(((),()),(z,())) }
def F3M:List (Nat×List Tr.Spec):=[]
def F3H:ZaW:=(.seq .leaf (.seq .leaf (.seq (.seq .leaf (.lp ⟨[(8,(.pd Y3))],[],[3,6,7],[],[],[]⟩ [((.exit 0),⟨[],[],[3],[],[],[]⟩),(.ret,⟨[(2,(.pd Y3))],[],[],[],[],[]⟩)] .leaf)) .leaf)))
def F3V (a0:El Y52):Option (El Y3):=Zau (mkE tyTab mapTab pkTab [] [] F3M 18 bdTab) (Zai Tryz.f138) Tryz.f138.results F3H F3A F3R (fun y=>y.2.1) (a0,())
theorem F3_eq (a0:El Y52):F3V a0=F3 a0:=by kernel_rfl
theorem F3_ok:ZaU Tryz.prog 138 F3S:=Zac (m:=F3M) (fn:=Tryz.f138) (hint:=F3H) (pack:=fun y=>y.2.1) Za2 tab_ok trivial fun x z h=>(F3_eq x.1).trans h
def F4: (El Y3)→Option (El Y4):=fun a0=>some !decide (a0=a0)
abbrev F4A:Zam:=(.cons (.pd Y3) .nil)
abbrev F4R:Zam:=(.cons (.pd Y4) .nil)
def F4S:Tr.Spec:= {args:=F4A,res:=F4R,fns:=[],α:=El Y4,f:=fun x=>F4 x.1,unp:=fun z=>(((),()),(z,())) }
def F4M:List (Nat×List Tr.Spec):=[]
def F4H:ZaW:= .leaf
def F4V (a0:El Y3):Option (El Y4):=Zau (mkE tyTab mapTab pkTab [] [] F4M 6 bdTab) (Zai Tryz.f143) Tryz.f143.results F4H F4A F4R (fun y=>y.2.1) (a0,())
theorem F4_eq (a0:El Y3):F4V a0=F4 a0:=by kernel_rfl
theorem F4_ok:ZaU Tryz.prog 143 F4S:=Zac (m:=F4M) (fn:=Tryz.f143) (hint:=F4H) (pack:=fun y=>y.2.1) Za2 tab_ok trivial fun x z h=>(F4_eq x.1).trans h
def F2: (El Y3)→(El Y3)→Option (El Y3):=fun a0 a1=>
 (F4 a0).bind fun x0=>
 (F4 a1).bind fun x1=>
 bif x0 then bif x1 then some (0:Int) else some (-1:Int)
 else bif x1 then some (1:Int) else bif decide (a0<a1) then some (-1:Int) else bif decide (a1<a0) then some (1:Int) else some (0:Int)
abbrev F2A:Zam:=(.cons (.pd Y3) (.cons (.pd Y3) .nil))
abbrev F2R:Zam:=(.cons (.pd Y3) .nil)
def F2S:Tr.Spec:= {args:=F2A,res:=F2R,fns:=[],α:=El Y3,f:=fun x=>F2 x.1 x.2.1,unp:=fun z=>(((),(),()),(z,())) }
def F2M:List (Nat×List Tr.Spec):=[(143,[F4S])]
def F2H:ZaW:= .leaf
def F2V (a0:El Y3) (a1:El Y3):Option (El Y3):=Zau (mkE tyTab mapTab pkTab [] [] F2M 20 bdTab) (Zai Tryz.f139) Tryz.f139.results F2H F2A F2R (fun y=>y.2.1) (a0,a1,())
theorem F2_eq (a0:El Y3) (a1:El Y3):F2V a0 a1=F2 a0 a1:=by kernel_rfl
theorem F2_ok:ZaU Tryz.prog 139 F2S:=Zac (m:=F2M) (fn:=Tryz.f139) (hint:=F2H) (pack:=fun y=>y.2.1) Za2 tab_ok ⟨⟨F4_ok,trivial⟩,trivial⟩ fun x z h=>(F2_eq x.1 x.2.1).trans h
def F14: (El Y79)→(El Y79)→Option (El Y3):=fun a0 a1=>
 (F2 a0.1 a1.1).bind fun x0=>
 (F2 a0.2.1 a1.2.1).bind fun x1=>
 (F2 a0.2.2.1 a1.2.2.1).bind fun x2=>(F3 [x0,x1,x2]).bind fun x3=>some x3
abbrev F14A:Zam:=(.cons (.pd Y79) (.cons (.pd Y79) .nil))
abbrev F14R:Zam:=(.cons (.pd Y3) .nil)
def F14S:Tr.Spec:= {args:=F14A,res:=F14R,fns:=[],α:=El Y3,f:=fun x=>F14 x.1 x.2.1,unp:=fun z=>(((),(),()),(z,())) }
def F14M:List (Nat×List Tr.Spec):=[(138,[F3S]),(139,[F2S])]
def F14H:ZaW:= .leaf
def F14V (a0:El Y79) (a1:El Y79):Option (El Y3):=Zau (mkE tyTab mapTab pkTab [] [] F14M 22 bdTab) (Zai Tryz.f137) Tryz.f137.results F14H F14A F14R (fun y=>y.2.1) (a0,a1,())
theorem F14_eq (a0:El Y79) (a1:El Y79):F14V a0 a1=F14 a0 a1:=by kernel_rfl
theorem F14_ok:ZaU Tryz.prog 137 F14S:=Zac (m:=F14M) (fn:=Tryz.f137) (hint:=F14H) (pack:=fun y=>y.2.1) Za2 tab_ok ⟨⟨F3_ok,trivial⟩,⟨F2_ok,trivial⟩,trivial⟩ fun x z h=>(F14_eq x.1 x.2.1).trans h
def F13: (El Y3)→(El Y3)→(El Y3)→(El Y4)→(List (El Y79))→Option (List (El Y79)):=fun a0 a1 a2 a3 a4=>
 Option.bind (bif decide ((0:Int)<a2) then some (decide (a2≤(14400:Int))) else some false) fun x0=>
 bif x0 then Option.bind (Zap (decide (List.length a4+List.length [(a0,a1,a2,a3,())]≤Zaq))) fun _=>some (a4++[(a0,a1,a2,a3,())]) else some a4
abbrev F13A:Zam:=(.cons (.pd Y3) (.cons (.pd Y3) (.cons (.pd Y3) (.cons (.pd Y4) (.cons (.var Y26 (.own Y79 false)) .nil)))))
abbrev F13R:Zam:= .nil
def F13S:Tr.Spec:= {args:=F13A,res:=F13R,fns:=[],α:=List (El Y79),f:=fun x=>F13 x.1 x.2.1 x.2.2.1 x.2.2.2.1 x.2.2.2.2.1,unp:=fun z=>(((),(),(),(),z,()),()) }
def F13M:List (Nat×List Tr.Spec):=[]
def F13H:ZaW:=(.seq (.reg [(14,Y4)]) .leaf)
def F13V (a0:El Y3) (a1:El Y3) (a2:El Y3) (a3:El Y4) (a4:List (El Y79)):Option (List (El Y79)):=Zau (mkE tyTab mapTab pkTab [] [] F13M 23 bdTab) (Zai Tryz.f135) Tryz.f135.results F13H F13A F13R (fun y=>y.1.2.2.2.2.1) (a0,a1,a2,a3,a4,())
theorem F13_eq (a0:El Y3) (a1:El Y3) (a2:El Y3) (a3:El Y4) (a4:List (El Y79)):F13V a0 a1 a2 a3 a4=F13 a0 a1 a2 a3 a4:=by kernel_rfl
theorem F13_ok:ZaU Tryz.prog 135 F13S:=Zac (m:=F13M) (fn:=Tryz.f135) (hint:=F13H) (pack:=fun y=>y.1.2.2.2.2.1) Za2 tab_ok trivial fun x z h=>(F13_eq x.1 x.2.1 x.2.2.1 x.2.2.2.1 x.2.2.2.2.1).trans h
def F123 (a0:List (El Y79)) (_:Unit):Option (List (El Y79)):=Tr.sortF F14 a0
abbrev F123A:Zam:=(.cons (.own Y79 true) (.cons (.fn 137 .nil) .nil))
abbrev F123R:Zam:= .nil
def F123S:Tr.Spec:= {args:=F123A,res:=F123R,fns:=[137],α:=List (El Y79),f:=fun x=>F123 x.1 x.2.1,unp:=fun z=>((z,(),()),()) }
theorem F123_ok:ZaU Tryz.prog 136 F123S:=Tr.sortFunc_ok (ρ:=Tryz.sort136_ren) Tryz.sort136 rfl Tryz.isAgg79 Tryz.sizeOf79 F14_ok
def F12: (El Y26)→(El Y3)→Option (El Y26):=fun a0 a1=>
 (F15 a0 a1 false).bind fun x0=>
 (F15 a0 a1 true).bind fun x1=>
 Option.bind
 (run
 (fun s2=>
 bif decide (s2.2< (↑(List.length x0):Int)) then
 (idx x0 s2.2).bind fun x3=>
 Option.bind
 (run
 (fun s4=>
 bif decide (s4.2< (↑(List.length x3):Int)) then
 (idx x3 s4.2).bind fun x5=>
 bif decide (s2.2=s4.2) then some (.inl (s4.1,IntKind.wrap .i64 (s4.2+(1:Int))))
 else
 (idx x1 s2.2).bind fun x6=>
 (idx x6 s4.2).bind fun x7=>
 (F13 s2.2 s4.2 x5 (decide (x7=x5)) s4.1).bind fun x8=>
 bif !decide (x7=x5) then
 (F13 s2.2 s4.2 x7 true x8).bind fun x9=>some (.inl (x9,IntKind.wrap .i64 (s4.2+(1:Int))))
 else some (.inl (x8,IntKind.wrap .i64 (s4.2+(1:Int))))
 else some (.inr s4.1))
 (s2.1,(0:Int)))
 fun x10=>some (.inl (x10,IntKind.wrap .i64 (s2.2+(1:Int))))
 else some (.inr s2.1))
 ([],(0:Int)))
 fun x11=>(F123 x11 ()).bind fun x12=>some x12
abbrev F12A:Zam:=(.cons (.pd Y26) (.cons (.pd Y3) .nil))
abbrev F12R:Zam:=(.cons (.pd Y26) .nil)
def F12S:Tr.Spec:= {args:=F12A,res:=F12R,fns:=[],α:=El Y26,f:=fun x=>F12 x.1 x.2.1,unp:=fun z=>(((),(),()),(z,())) }
def F12M:List (Nat×List Tr.Spec):=[(134,[F15S]),(135,[F13S]),(136,[F123S]),(137,[F14S])]
def F12H:ZaW:=(.seq .leaf (.seq .leaf (.seq .leaf (.seq .leaf (.seq (.seq .leaf (.lp ⟨[(7,(.var Y26 (.own Y79 false))),(22,(.pd Y3))],[(8,135,[7])],[5,6,21],[],[],[]⟩ [((.exit 0),⟨[(7,(.var Y26 (.own Y79 false)))],[],[],[],[],[]⟩)] (.seq .leaf (.seq .leaf (.seq (.seq .leaf (.seq .leaf (.lp ⟨[(7,(.var Y26 (.own Y79 false))),(30,(.pd Y3))],[(8,135,[7])],[5,6,9,21,22,28,29],[],[],[]⟩ [((.exit 2),⟨[(7,(.var Y26 (.own Y79 false)))],[(8,135,[7])],[5,6,21,22],[],[],[]⟩)] .leaf))) .leaf))))) .leaf)))))
def F12V (a0:El Y26) (a1:El Y3):Option (El Y26):=Zau (mkE tyTab mapTab pkTab [] [] F12M 66 bdTab) (Zai Tryz.f133) Tryz.f133.results F12H F12A F12R (fun y=>y.2.1) (a0,a1,())
theorem F12_eq (a0:El Y26) (a1:El Y3):F12V a0 a1=F12 a0 a1:=by kernel_rfl
theorem F12_ok:ZaU Tryz.prog 133 F12S:=Zac (m:=F12M) (fn:=Tryz.f133) (hint:=F12H) (pack:=fun y=>y.2.1) Za2 tab_ok ⟨⟨F15_ok,trivial⟩,⟨F13_ok,trivial⟩,⟨F123_ok,trivial⟩,⟨F14_ok,trivial⟩,trivial⟩ fun x z h=>(F12_eq x.1 x.2.1).trans h
def F11: (El Y26)→(El Y3)→Option (El Y4):=fun a0 a1=>
 bif decide ((64:Int)<a1) then some false
 else
 (F16 a0 a1).bind fun x0=>
 bif !decide (x0.2=(0:Int)) then some false
 else
 (F12 a0 (Tr.imax a1 (0:Int))).bind fun x1=>
 bif !decide ((↑(List.length x1):Int)=(↑(List.length a0):Int)) then some false
 else
 Option.bind
 (run
 (fun s2=>
 bif decide (s2< (↑(List.length x1):Int)) then
 (idx x1 s2).bind fun x3=>
 (idx a0 s2).bind fun x4=>
 bif
 !(decide (x3.1=x4.1) &&
 (decide (x3.2.1=x4.2.1) && (decide (x3.2.2.1=x4.2.2.1) &&x3.2.2.2.1==x4.2.2.2.1))) then
 some (.inr (.inr false))
 else some (.inl (IntKind.wrap .i64 (s2+(1:Int))))
 else some (.inr (.inl ())))
 (0:Int))
 fun x5=>Sum.elim (fun _=>some true) (fun y7=>some y7) x5
abbrev F11A:Zam:=(.cons (.pd Y26) (.cons (.pd Y3) .nil))
abbrev F11R:Zam:=(.cons (.pd Y4) .nil)
def F11S:Tr.Spec:= {args:=F11A,res:=F11R,fns:=[],α:=El Y4,f:=fun x=>F11 x.1 x.2.1,unp:=fun z=>(((),(),()),(z,())) }
def F11M:List (Nat×List Tr.Spec):=[(132,[F16S]),(133,[F12S])]
def F11H:ZaW:=(.seq .leaf (.seq .leaf (.seq .leaf (.seq .leaf (.seq .leaf (.seq (.seq .leaf (.lp ⟨[(30,(.pd Y3))],[],[0,7,29],[],[],[]⟩ [((.exit 0),⟨[],[],[],[],[],[]⟩),(.ret,⟨[(4,(.pd Y4))],[],[],[],[],[]⟩)] .leaf)) .leaf))))))
def F11V (a0:El Y26) (a1:El Y3):Option (El Y4):=Zau (mkE tyTab mapTab pkTab [] [] F11M 43 bdTab) (Zai Tryz.f128) Tryz.f128.results F11H F11A F11R (fun y=>y.2.1) (a0,a1,())
theorem F11_eq (a0:El Y26) (a1:El Y3):F11V a0 a1=F11 a0 a1:=by kernel_rfl
theorem F11_ok:ZaU Tryz.prog 128 F11S:=Zac (m:=F11M) (fn:=Tryz.f128) (hint:=F11H) (pack:=fun y=>y.2.1) Za2 tab_ok ⟨⟨F16_ok,trivial⟩,⟨F12_ok,trivial⟩,trivial⟩ fun x z h=>(F11_eq x.1 x.2.1).trans h
def F42: (El Y31)→Option (El ZcD):=fun a0=>
 Option.bind
 (run
 (fun s0=>
 bif decide (s0.2.2< (↑(List.length a0.2.2.2.2.1):Int)) then
 (idx a0.2.2.2.2.1 s0.2.2).bind fun x1=>
 Option.bind
 ((F54 x1.1 (↑(List.length a0.1):Int)).bind fun x2=>
 bif !x2 then some true
 else (F54 x1.2.1 (↑(List.length a0.1):Int)).bind fun x3=>bif !x3 then some true else some (decide (x1.1=x1.2.1)))
 fun x4=>
 bif x4 then (F53 (4:Int) s0.2.2 (9:Int)).bind fun x5=>some (.inr (.inr x5))
 else
 Option.bind (bif decide (x1.2.2.1< (1:Int)) then some true else some (decide ((14400:Int)<x1.2.2.1))) fun x6=>
 bif x6 then (F53 (4:Int) s0.2.2 (2:Int)).bind fun x7=>some (.inr (.inr x7))
 else
 bif Option.getD (ZaM (Zao Y79) (x1.1,x1.2.1,(0:Int),x1.2.2.2.1,()) s0.2.1) (false) then
 (F53 (4:Int) s0.2.2 (6:Int)).bind fun x8=>some (.inr (.inr x8))
 else
 some
 (.inl
 (s0.1,Zbb (Zao Y79) (x1.1,x1.2.1,(0:Int),x1.2.2.2.1,()) true s0.2.1,IntKind.wrap .i64 (s0.2.2+(1:Int))))
 else some (.inr (.inl s0.1)))
 (((0:Int),(0:Int),(0:Int),()),[],(0:Int)))
 fun x9=>
 Sum.elim
 (fun _=>
 (F11 a0.2.2.2.2.1 (↑(List.length a0.1):Int)).bind fun x11=>
 bif !x11 then (F53 (4:Int) (0:Int) (18:Int)).bind fun x12=>some x12 else some ((0:Int),(0:Int),(0:Int),()))
 (fun y13=>some y13) x9
abbrev F42A:Zam:=(.cons (.pd Y31) .nil)
abbrev F42R:Zam:=(.cons (.pd ZcD) .nil)
def F42S:Tr.Spec:= {args:=F42A,res:=F42R,fns:=[],α:=El ZcD,f:=fun x=>F42 x.1,unp:=fun z=>(((),()),(z,())) }
def F42M:List (Nat×List Tr.Spec):=[(114,[F53S]),(125,[F54S]),(128,[F11S])]
def F42H:ZaW:=(.seq .leaf (.seq .leaf (.seq (.seq .leaf (.lp ⟨[(2,(.var ZcD (.pd ZcD))),(3,(.map Y79 Y4)),(11,(.pd Y3))],[],[1,9,10],[],[],[]⟩ [((.exit 0),⟨[(2,(.var ZcD (.pd ZcD)))],[],[1],[],[],[]⟩),(.ret,⟨[(2,(.var ZcD (.pd ZcD)))],[],[],[],[],[]⟩)] (.seq .leaf (.seq .leaf (.seq (.seq .leaf (.seq .leaf (.seq (.seq (.reg [(23,Y4)]) (.cnd none .leaf (.seq (.reg [(49,Y4)]) .leaf))) .leaf))) .leaf))))) .leaf)))
def F42V (a0:El Y31):Option (El ZcD):=Zau (mkE tyTab mapTab pkTab [] [] F42M 78 bdTab) (Zai Tryz.f118) Tryz.f118.results F42H F42A F42R (fun y=>y.2.1) (a0,())
theorem F42_eq (a0:El Y31):F42V a0=F42 a0:=by kernel_rfl
theorem F42_ok:ZaU Tryz.prog 118 F42S:=Zac (m:=F42M) (fn:=Tryz.f118) (hint:=F42H) (pack:=fun y=>y.2.1) Za2 tab_ok ⟨⟨F53_ok,trivial⟩,⟨F54_ok,trivial⟩,⟨F11_ok,trivial⟩,trivial⟩ fun x z h=>(F42_eq x.1).trans h
def F39: (El Y31)→Option (El Y3×El Y3×El Y36):=fun a0=>
 (F124 a0.1).bind fun x0=>
 (F114 a0.2.1).bind fun x1=>
 (F53 (0:Int) x0.1 x0.2).bind fun x2=>
 (F53 (1:Int) x1.1 x1.2).bind fun x3=>
 (F44 [x2,x3]).bind fun x4=>
 Option.bind (bif decide (x4.2.2.1=(0:Int)) then (F43 a0).bind fun x5=>some x5 else some x4) fun x6=>
 Option.bind (bif decide (x6.2.2.1=(0:Int)) then (F41 a0).bind fun x7=>some x7 else some x6) fun x8=>
 Option.bind
 (bif decide (x8.2.2.1=(0:Int)) then
 (F55 a0.2.2.2.2.2.1).bind fun x9=>
 (F42 a0).bind fun x10=>(F53 (5:Int) x9.1 x9.2).bind fun x11=>(F44 [x10,x11]).bind fun x12=>some x12
 else some x8)
 fun x13=>some (x13.1,x13.2.1,x13.2.2.1)
abbrev F39A:Zam:=(.cons (.pd Y31) .nil)
abbrev F39R:Zam:=(.cons (.pd Y3) (.cons (.pd Y3) (.cons (.pd Y36) .nil)))
def F39S:Tr.Spec:= {args:=F39A,res:=F39R,fns:=[],α:=El Y3×El Y3×El Y36,f:=fun x=>F39 x.1,unp:=fun z=>(((),()),(z.1,z.2.1,z.2.2,())) }
def F39M:List (Nat×List Tr.Spec):=[(111,[F124S]),(112,[F114S]),(113,[F44S]),(114,[F53S]),(115,[F43S]),(116,[F41S]),(117,[F55S]),(118,[F42S])]
def F39H:ZaW:=(.seq .leaf (.seq .leaf (.seq .leaf (.seq .leaf (.seq (.seq .leaf (.cnd (some (⟨[],[],[1],[],[],[]⟩,[(.normal,⟨[(9,(.var ZcD (.pd ZcD)))],[],[1],[],[],[]⟩)])) .leaf .leaf)) (.seq (.seq .leaf (.cnd (some (⟨[],[],[1],[],[],[]⟩,[(.normal,⟨[(9,(.var ZcD (.pd ZcD)))],[],[1],[],[],[]⟩)])) .leaf .leaf)) (.seq (.seq .leaf (.cnd (some (⟨[],[],[],[],[],[]⟩,[(.normal,⟨[(9,(.var ZcD (.pd ZcD)))],[],[],[],[],[]⟩)])) .leaf .leaf)) .leaf)))))))
def F39V (a0:El Y31):Option (El Y3×El Y3×El Y36):=Zau (mkE tyTab mapTab pkTab [] [] F39M 64 bdTab) (Zai Tryz.f84) Tryz.f84.results F39H F39A F39R (fun y=>(y.2.1,y.2.2.1,y.2.2.2.1)) (a0,())
theorem F39_eq (a0:El Y31):F39V a0=F39 a0:=by kernel_rfl
theorem F39_ok:ZaU Tryz.prog 84 F39S:=Zac (m:=F39M) (fn:=Tryz.f84) (hint:=F39H) (pack:=fun y=>(y.2.1,y.2.2.1,y.2.2.2.1)) Za2 tab_ok ⟨⟨F124_ok,trivial⟩,⟨F114_ok,trivial⟩,⟨F44_ok,trivial⟩,⟨F53_ok,trivial⟩,⟨F43_ok,trivial⟩,⟨F41_ok,trivial⟩,⟨F55_ok,trivial⟩,⟨F42_ok,trivial⟩,trivial⟩ fun x z h=>(F39_eq x.1).trans h
def F6: (El Y3)→(El Y3)→(El Y3)→Option (El Y4):=fun a0 a1 a2=>Option.bind (bif decide (a1≤a0) then some (decide (a0≤a2)) else some false) fun x0=>some x0
abbrev F6A:Zam:=(.cons (.pd Y3) (.cons (.pd Y3) (.cons (.pd Y3) .nil)))
abbrev F6R:Zam:=(.cons (.pd Y4) .nil)
def F6S:Tr.Spec:= {args:=F6A,res:=F6R,fns:=[],α:=El Y4,f:=fun x=>F6 x.1 x.2.1 x.2.2.1,unp:=fun z=>(((),(),(),()),(z,())) }
def F6M:List (Nat×List Tr.Spec):=[]
def F6H:ZaW:=(.seq .leaf (.seq (.reg [(6,Y4)]) .leaf))
def F6V (a0:El Y3) (a1:El Y3) (a2:El Y3):Option (El Y4):=Zau (mkE tyTab mapTab pkTab [] [] F6M 15 bdTab) (Zai Tryz.f85) Tryz.f85.results F6H F6A F6R (fun y=>y.2.1) (a0,a1,a2,())
theorem F6_eq (a0:El Y3) (a1:El Y3) (a2:El Y3):F6V a0 a1 a2=F6 a0 a1 a2:=by kernel_rfl
theorem F6_ok:ZaU Tryz.prog 85 F6S:=Zac (m:=F6M) (fn:=Tryz.f85) (hint:=F6H) (pack:=fun y=>y.2.1) Za2 tab_ok trivial fun x z h=>(F6_eq x.1 x.2.1 x.2.2.1).trans h
def F5: (El Y31)→(El Y33)→Option (El Y36):=fun a0 a1=>
 (F39 a0).bind fun x0=>
 bif !decide (x0.2.2=(0:Int)) then some (21:Int)
 else
 Option.bind
 ((F6 a1.1 (0:Int) (IntKind.wrap .i64 ((↑(List.length a0.1):Int) - (1:Int)))).bind fun x1=>
 bif !x1 then some true
 else
 (F6 a1.2.1 (0:Int) (IntKind.wrap .i64 ((↑(List.length a0.1):Int) - (1:Int)))).bind fun x2=>
 bif !x2 then some true
 else
 (F6 a1.2.2.1 (0:Int) (3155932800:Int)).bind fun x3=>
 bif !x3 then some true
 else
 (F6 a1.2.2.2.2.1 (0:Int) (8:Int)).bind fun x4=>
 bif !x4 then some true
 else
 (F6 a1.2.2.2.2.2.1 (0:Int) (86400:Int)).bind fun x5=>
 bif !x5 then some true
 else
 (F6 a1.2.2.2.2.2.2.2.2.1 (0:Int) (255:Int)).bind fun x6=>
 bif !x6 then some true else bif a1.2.2.2.2.2.2.2.2.2.1 then some a1.2.2.2.1 else some false)
 fun x7=>bif x7 then some (22:Int) else some (0:Int)
abbrev F5A:Zam:=(.cons (.pd Y31) (.cons (.pd Y33) .nil))
abbrev F5R:Zam:=(.cons (.pd Y36) .nil)
def F5S:Tr.Spec:= {args:=F5A,res:=F5R,fns:=[],α:=El Y36,f:=fun x=>F5 x.1 x.2.1,unp:=fun z=>(((),(),()),(z,())) }
def F5M:List (Nat×List Tr.Spec):=[(84,[F39S]),(85,[F6S])]
def F5H:ZaW:=(.seq .leaf (.seq .leaf (.seq .leaf (.seq .leaf (.seq (.seq (.reg [(64,Y4)]) .leaf) .leaf)))))
def F5V (a0:El Y31) (a1:El Y33):Option (El Y36):=Zau (mkE tyTab mapTab pkTab [] [] F5M 65 bdTab) (Zai Tryz.f59) Tryz.f59.results F5H F5A F5R (fun y=>y.2.1) (a0,a1,())
theorem F5_eq (a0:El Y31) (a1:El Y33):F5V a0 a1=F5 a0 a1:=by kernel_rfl
theorem F5_ok:ZaU Tryz.prog 59 F5S:=Zac (m:=F5M) (fn:=Tryz.f59) (hint:=F5H) (pack:=fun y=>y.2.1) Za2 tab_ok ⟨⟨F39_ok,trivial⟩,⟨F6_ok,trivial⟩,trivial⟩ fun x z h=>(F5_eq x.1 x.2.1).trans h
def F102: (El Y31)→(El Y33)→Option (El Y36):=fun a0 a1=>
 (F5 a0 a1).bind fun x0=>bif !decide (x0=(0:Int)) then some x0 else bif a1.2.2.2.1 then some (22:Int) else some (0:Int)
abbrev F102A:Zam:=(.cons (.pd Y31) (.cons (.pd Y33) .nil))
abbrev F102R:Zam:=(.cons (.pd Y36) .nil)
def F102S:Tr.Spec:= {args:=F102A,res:=F102R,fns:=[],α:=El Y36,f:=fun x=>F102 x.1 x.2.1,unp:=fun z=>(((),(),()),(z,())) }
def F102M:List (Nat×List Tr.Spec):=[(59,[F5S])]
def F102H:ZaW:= .leaf
def F102V (a0:El Y31) (a1:El Y33):Option (El Y36):=Zau (mkE tyTab mapTab pkTab [] [] F102M 14 bdTab) (Zai Tryz.f40) Tryz.f40.results F102H F102A F102R (fun y=>y.2.1) (a0,a1,())
theorem F102_eq (a0:El Y31) (a1:El Y33):F102V a0 a1=F102 a0 a1:=by kernel_rfl
theorem F102_ok:ZaU Tryz.prog 40 F102S:=Zac (m:=F102M) (fn:=Tryz.f40) (hint:=F102H) (pack:=fun y=>y.2.1) Za2 tab_ok ⟨⟨F5_ok,trivial⟩,trivial⟩ fun x z h=>(F102_eq x.1 x.2.1).trans h
def F51: (El Y22)→Option (El Y22):=fun a0=>
 Option.bind (Zap (decide (List.length ([]:List Unit)+List.length a0≤Zaq))) fun _=>
 (inb (↑(List.length ([]++a0)):Int) (List.length ([]++a0)+(1:Nat))).bind fun x1=>
 Option.bind (sliceB (List.length ([]++a0)) x1 none (some (↑(List.length ([]++a0)):Int))) fun x2=>some (List.take x2.2 (List.drop (0:Nat) ([]++a0)))
abbrev F51A:Zam:=(.cons (.pd Y22) .nil)
abbrev F51R:Zam:=(.cons (.pd Y22) .nil)
def F51S:Tr.Spec:= {args:=F51A,res:=F51R,fns:=[],α:=El Y22,f:=fun x=>F51 x.1,unp:=fun z=>(((),()),(z,())) }
def F51M:List (Nat×List Tr.Spec):=[]
def F51H:ZaW:= .leaf
def F51V (a0:El Y22):Option (El Y22):=Zau (mkE tyTab mapTab pkTab [] [] F51M 13 bdTab) (Zai Tryz.f86) Tryz.f86.results F51H F51A F51R (fun y=>y.2.1) (a0,())
theorem F51_eq (a0:El Y22):F51V a0=F51 a0:=by kernel_rfl
theorem F51_ok:ZaU Tryz.prog 86 F51S:=Zac (m:=F51M) (fn:=Tryz.f86) (hint:=F51H) (pack:=fun y=>y.2.1) Za2 tab_ok trivial fun x z h=>(F51_eq x.1).trans h
def F49: (El Y23)→Option (El Y23):=fun a0=>
 Option.bind (Zap (decide (List.length ([]:List Unit)+List.length a0≤Zaq))) fun _=>
 (inb (↑(List.length ([]++a0)):Int) (List.length ([]++a0)+(1:Nat))).bind fun x1=>
 Option.bind (sliceB (List.length ([]++a0)) x1 none (some (↑(List.length ([]++a0)):Int))) fun x2=>some (List.take x2.2 (List.drop (0:Nat) ([]++a0)))
abbrev F49A:Zam:=(.cons (.pd Y23) .nil)
abbrev F49R:Zam:=(.cons (.pd Y23) .nil)
def F49S:Tr.Spec:= {args:=F49A,res:=F49R,fns:=[],α:=El Y23,f:=fun x=>F49 x.1,unp:=fun z=>(((),()),(z,())) }
def F49M:List (Nat×List Tr.Spec):=[]
def F49H:ZaW:= .leaf
def F49V (a0:El Y23):Option (El Y23):=Zau (mkE tyTab mapTab pkTab [] [] F49M 13 bdTab) (Zai Tryz.f87) Tryz.f87.results F49H F49A F49R (fun y=>y.2.1) (a0,())
theorem F49_eq (a0:El Y23):F49V a0=F49 a0:=by kernel_rfl
theorem F49_ok:ZaU Tryz.prog 87 F49S:=Zac (m:=F49M) (fn:=Tryz.f87) (hint:=F49H) (pack:=fun y=>y.2.1) Za2 tab_ok trivial fun x z h=>(F49_eq x.1).trans h
def F50: (El Y24)→Option (List (El Y60)):=fun a0=>
 Option.bind (Zap (decide (List.length ([]:List Unit)+List.length a0≤Zaq))) fun _=>
 (inb (↑(List.length ([]++a0)):Int) (List.length ([]++a0)+(1:Nat))).bind fun x1=>
 Option.bind (sliceB (List.length ([]++a0)) x1 none (some (↑(List.length ([]++a0)):Int))) fun x2=>some (List.take x2.2 ([]++a0))
abbrev F50A:Zam:=(.cons (.pd Y24) .nil)
abbrev F50R:Zam:=(.cons (.own Y60 false) .nil)
def F50S:Tr.Spec:= {args:=F50A,res:=F50R,fns:=[],α:=List (El Y60),f:=fun x=>F50 x.1,unp:=fun z=>(((),()),(z,())) }
def F50M:List (Nat×List Tr.Spec):=[]
def F50H:ZaW:= .leaf
def F50V (a0:El Y24):Option (List (El Y60)):=Zau (mkE tyTab mapTab pkTab [] [] F50M 13 bdTab) (Zai Tryz.f88) Tryz.f88.results F50H F50A F50R (fun y=>y.2.1) (a0,())
theorem F50_eq (a0:El Y24):F50V a0=F50 a0:=by kernel_rfl
theorem F50_ok:ZaU Tryz.prog 88 F50S:=Zac (m:=F50M) (fn:=Tryz.f88) (hint:=F50H) (pack:=fun y=>y.2.1) Za2 tab_ok trivial fun x z h=>(F50_eq x.1).trans h
def F47: (El Y25)→Option (El Y25):=fun a0=>
 Option.bind (Zap (decide (List.length ([]:List Unit)+List.length a0≤Zaq))) fun _=>
 (inb (↑(List.length ([]++a0)):Int) (List.length ([]++a0)+(1:Nat))).bind fun x1=>
 Option.bind (sliceB (List.length ([]++a0)) x1 none (some (↑(List.length ([]++a0)):Int))) fun x2=>some (List.take x2.2 (List.drop (0:Nat) ([]++a0)))
abbrev F47A:Zam:=(.cons (.pd Y25) .nil)
abbrev F47R:Zam:=(.cons (.pd Y25) .nil)
def F47S:Tr.Spec:= {args:=F47A,res:=F47R,fns:=[],α:=El Y25,f:=fun x=>F47 x.1,unp:=fun z=>(((),()),(z,())) }
def F47M:List (Nat×List Tr.Spec):=[]
def F47H:ZaW:= .leaf
def F47V (a0:El Y25):Option (El Y25):=Zau (mkE tyTab mapTab pkTab [] [] F47M 13 bdTab) (Zai Tryz.f89) Tryz.f89.results F47H F47A F47R (fun y=>y.2.1) (a0,())
theorem F47_eq (a0:El Y25):F47V a0=F47 a0:=by kernel_rfl
theorem F47_ok:ZaU Tryz.prog 89 F47S:=Zac (m:=F47M) (fn:=Tryz.f89) (hint:=F47H) (pack:=fun y=>y.2.1) Za2 tab_ok trivial fun x z h=>(F47_eq x.1).trans h
def F46: (El Y26)→Option (El Y26):=fun a0=>
 Option.bind (Zap (decide (List.length ([]:List Unit)+List.length a0≤Zaq))) fun _=>
 (inb (↑(List.length ([]++a0)):Int) (List.length ([]++a0)+(1:Nat))).bind fun x1=>
 Option.bind (sliceB (List.length ([]++a0)) x1 none (some (↑(List.length ([]++a0)):Int))) fun x2=>some (List.take x2.2 (List.drop (0:Nat) ([]++a0)))
abbrev F46A:Zam:=(.cons (.pd Y26) .nil)
abbrev F46R:Zam:=(.cons (.pd Y26) .nil)
def F46S:Tr.Spec:= {args:=F46A,res:=F46R,fns:=[],α:=El Y26,f:=fun x=>F46 x.1,unp:=fun z=>(((),()),(z,())) }
def F46M:List (Nat×List Tr.Spec):=[]
def F46H:ZaW:= .leaf
def F46V (a0:El Y26):Option (El Y26):=Zau (mkE tyTab mapTab pkTab [] [] F46M 13 bdTab) (Zai Tryz.f90) Tryz.f90.results F46H F46A F46R (fun y=>y.2.1) (a0,())
theorem F46_eq (a0:El Y26):F46V a0=F46 a0:=by kernel_rfl
theorem F46_ok:ZaU Tryz.prog 90 F46S:=Zac (m:=F46M) (fn:=Tryz.f90) (hint:=F46H) (pack:=fun y=>y.2.1) Za2 tab_ok trivial fun x z h=>(F46_eq x.1).trans h
def F45: (El Y58)→Option (El Y58):=fun a0=>
 Option.bind (Zap (decide (List.length ([]:List Unit)+List.length a0≤Zaq))) fun _=>
 (inb (↑(List.length ([]++a0)):Int) (List.length ([]++a0)+(1:Nat))).bind fun x1=>
 Option.bind (sliceB (List.length ([]++a0)) x1 none (some (↑(List.length ([]++a0)):Int))) fun x2=>some (List.take x2.2 (List.drop (0:Nat) ([]++a0)))
abbrev F45A:Zam:=(.cons (.pd Y58) .nil)
abbrev F45R:Zam:=(.cons (.pd Y58) .nil)
def F45S:Tr.Spec:= {args:=F45A,res:=F45R,fns:=[],α:=El Y58,f:=fun x=>F45 x.1,unp:=fun z=>(((),()),(z,())) }
def F45M:List (Nat×List Tr.Spec):=[]
def F45H:ZaW:= .leaf
def F45V (a0:El Y58):Option (El Y58):=Zau (mkE tyTab mapTab pkTab [] [] F45M 13 bdTab) (Zai Tryz.f91) Tryz.f91.results F45H F45A F45R (fun y=>y.2.1) (a0,())
theorem F45_eq (a0:El Y58):F45V a0=F45 a0:=by kernel_rfl
theorem F45_ok:ZaU Tryz.prog 91 F45S:=Zac (m:=F45M) (fn:=Tryz.f91) (hint:=F45H) (pack:=fun y=>y.2.1) Za2 tab_ok trivial fun x z h=>(F45_eq x.1).trans h
def F48: (El Y27)→Option (El Y27):=fun a0=>
 Option.bind (Zap (decide (List.length ([]:List Unit)+List.length a0≤Zaq))) fun _=>
 (inb (↑(List.length ([]++a0)):Int) (List.length ([]++a0)+(1:Nat))).bind fun x1=>
 Option.bind (sliceB (List.length ([]++a0)) x1 none (some (↑(List.length ([]++a0)):Int))) fun x2=>some (List.take x2.2 (List.drop (0:Nat) ([]++a0)))
abbrev F48A:Zam:=(.cons (.pd Y27) .nil)
abbrev F48R:Zam:=(.cons (.pd Y27) .nil)
def F48S:Tr.Spec:= {args:=F48A,res:=F48R,fns:=[],α:=El Y27,f:=fun x=>F48 x.1,unp:=fun z=>(((),()),(z,())) }
def F48M:List (Nat×List Tr.Spec):=[]
def F48H:ZaW:= .leaf
def F48V (a0:El Y27):Option (El Y27):=Zau (mkE tyTab mapTab pkTab [] [] F48M 13 bdTab) (Zai Tryz.f92) Tryz.f92.results F48H F48A F48R (fun y=>y.2.1) (a0,())
theorem F48_eq (a0:El Y27):F48V a0=F48 a0:=by kernel_rfl
theorem F48_ok:ZaU Tryz.prog 92 F48S:=Zac (m:=F48M) (fn:=Tryz.f92) (hint:=F48H) (pack:=fun y=>y.2.1) Za2 tab_ok trivial fun x z h=>(F48_eq x.1).trans h
def F40: (El Y31)→Option (Tz2):=fun a0=>
 (F51 a0.1).bind fun x0=>
 (F49 a0.2.1).bind fun x1=>
 (F50 a0.2.2.1).bind fun x2=>
 (F47 a0.2.2.2.1).bind fun x3=>
 (F46 a0.2.2.2.2.1).bind fun x4=>
 Option.bind
 (run
 (fun s5=>
 bif decide (s5.2< (↑(List.length x2):Int)) then
 (inb s5.2 (List.length s5.1.2.2.1)).bind fun x6=>
 Option.bind s5.1.2.2.1[x6]? fun x7=>
 (F45 x7.2.2.2.2.2.2.2.1).bind fun x8=>
 (inb s5.2 (List.length s5.1.2.2.1)).bind fun x9=>
 Option.bind s5.1.2.2.1[x9]? fun x10=>
 some
 (.inl
 ((s5.1.1,s5.1.2.1,
 List.set s5.1.2.2.1 x9
 (x10.1,x10.2.1,x10.2.2.1,x10.2.2.2.1,x10.2.2.2.2.1,x10.2.2.2.2.2.1,x10.2.2.2.2.2.2.1,x8,
 x10.2.2.2.2.2.2.2.2),
 s5.1.2.2.2.1,s5.1.2.2.2.2.1,s5.1.2.2.2.2.2.1,()),
 IntKind.wrap .i64 (s5.2+(1:Int))))
 else some (.inr s5.1))
 ((x0,x1,x2,x3,x4,a0.2.2.2.2.2.1,()),(0:Int)))
 fun x11=>
 (F48 a0.2.2.2.2.2.1.1).bind fun x12=>
 some (x11.1,x11.2.1,x11.2.2.1,x11.2.2.2.1,x11.2.2.2.2.1,(x12,x11.2.2.2.2.2.1.2),())
abbrev F40A:Zam:=(.cons (.pd Y31) .nil)
abbrev F40R:Zam:=(.cons Pz7 .nil)
def F40S:Tr.Spec:= {args:=F40A,res:=F40R,fns:=[],α:=Tz2,f:=fun x=>F40 x.1,unp:=fun z=>(((),()),(z,())) }
def F40M:List (Nat×List Tr.Spec):=[(86,[F51S]),(87,[F49S]),(88,[F50S]),(89,[F47S]),(90,[F46S]),(91,[F45S]),(92,[F48S])]
def F40H:ZaW:=(.seq .leaf (.seq .leaf (.seq (.seq .leaf (.lp ⟨[(3,Pz6),(26,(.pd Y3))],[],[1,2,25],[],[],[]⟩ [((.exit 0),⟨[(3,Pz6)],[],[1,2],[],[],[]⟩)] .leaf)) .leaf)))
def F40V (a0:El Y31):Option (Tz2):=Zau (mkE tyTab mapTab pkTab [] [] F40M 49 bdTab) (Zai Tryz.f60) Tryz.f60.results F40H F40A F40R (fun y=>y.2.1) (a0,())
theorem F40_eq (a0:El Y31):F40V a0=F40 a0:=by kernel_rfl
theorem F40_ok:ZaU Tryz.prog 60 F40S:=Zac (m:=F40M) (fn:=Tryz.f60) (hint:=F40H) (pack:=fun y=>y.2.1) Za2 tab_ok ⟨⟨F51_ok,trivial⟩,⟨F49_ok,trivial⟩,⟨F50_ok,trivial⟩,⟨F47_ok,trivial⟩,⟨F46_ok,trivial⟩,⟨F45_ok,trivial⟩,⟨F48_ok,trivial⟩,trivial⟩ fun x z h=>(F40_eq x.1).trans h
def F10 (a0:El Y31) (a1:El Y33) (a2:El Y60):Option Bool:=Tr.useF a0 a1 a2
abbrev F10A:Zam:=(.cons (.pd Y31) (.cons (.pd Y33) (.cons (.pd Y60) .nil)))
abbrev F10R:Zam:=(.cons (.pd Y4) .nil)
def F10S:Tr.Spec:= {args:=F10A,res:=F10R,fns:=[],α:=El Y4,f:=fun x=>F10 x.1 x.2.1 x.2.2.1,unp:=fun z=>(((),(),(),()),(z,())) }
theorem F10_ok:ZaU Tryz.prog 61 F10S:=Tr.use_ok
def F9: (El Y31)→(El Y33)→(El Y3)→Option (El Y4):=fun a0 a1 a2=>Option.bind ((idx a0.1 a2).bind fun x0=>bif x0.2.2.1 then some true else some !a1.2.2.2.2.2.2.1) fun x1=>some x1
abbrev F9A:Zam:=(.cons (.pd Y31) (.cons (.pd Y33) (.cons (.pd Y3) .nil)))
abbrev F9R:Zam:=(.cons (.pd Y4) .nil)
def F9S:Tr.Spec:= {args:=F9A,res:=F9R,fns:=[],α:=El Y4,f:=fun x=>F9 x.1 x.2.1 x.2.2.1,unp:=fun z=>(((),(),(),()),(z,())) }
def F9M:List (Nat×List Tr.Spec):=[]
def F9H:ZaW:=(.seq .leaf (.seq (.reg [(6,Y4)]) .leaf))
def F9V (a0:El Y31) (a1:El Y33) (a2:El Y3):Option (El Y4):=Zau (mkE tyTab mapTab pkTab [] [] F9M 18 bdTab) (Zai Tryz.f98) Tryz.f98.results F9H F9A F9R (fun y=>y.2.1) (a0,a1,a2,())
theorem F9_eq (a0:El Y31) (a1:El Y33) (a2:El Y3):F9V a0 a1 a2=F9 a0 a1 a2:=by kernel_rfl
theorem F9_ok:ZaU Tryz.prog 98 F9S:=Zac (m:=F9M) (fn:=Tryz.f98) (hint:=F9H) (pack:=fun y=>y.2.1) Za2 tab_ok trivial fun x z h=>(F9_eq x.1 x.2.1 x.2.2.1).trans h
def F8: (El Y31)→(El Y33)→(El Y58)→Option (El Y58):=fun a0 a1 a2=>
 Option.bind
 (run
 (fun s0=>
 bif decide (s0.2< (↑(List.length a2):Int)) then
 (idx a2 s0.2).bind fun x1=>
 (F9 a0 a1 x1.1).bind fun x2=>
 Option.bind (bif !x2 then some (x1.1,x1.2.1,x1.2.2.1,false,false,x1.2.2.2.2.2) else some x1) fun x3=>
 Option.bind (Zap (decide (List.length s0.1+List.length [x3]≤Zaq))) fun _=>
 some (.inl (s0.1++[x3],IntKind.wrap .i64 (s0.2+(1:Int))))
 else some (.inr s0.1))
 ([],(0:Int)))
 fun x5=>
 (inb (↑(List.length x5):Int) (List.length x5+(1:Nat))).bind fun x6=>
 Option.bind (sliceB (List.length x5) x6 none (some (↑(List.length x5):Int))) fun x7=>some (List.take x7.2 (List.drop (0:Nat) x5))
abbrev F8A:Zam:=(.cons (.pd Y31) (.cons (.pd Y33) (.cons (.pd Y58) .nil)))
abbrev F8R:Zam:=(.cons (.pd Y58) .nil)
def F8S:Tr.Spec:= {args:=F8A,res:=F8R,fns:=[],α:=El Y58,f:=fun x=>F8 x.1 x.2.1 x.2.2.1,unp:=fun z=>(((),(),(),()),(z,())) }
def F8M:List (Nat×List Tr.Spec):=[(98,[F9S])]
def F8H:ZaW:=(.seq .leaf (.seq .leaf (.seq (.seq .leaf (.lp ⟨[(7,(.own Y87 false)),(12,(.pd Y3))],[],[3,4,10,11],[],[],[]⟩ [((.exit 0),⟨[(7,(.own Y87 false))],[],[],[],[],[]⟩)] (.seq .leaf (.seq .leaf (.seq (.seq .leaf (.seq (.seq .leaf (.cnd (some (⟨[],[],[3,4,7,10,11,12],[],[],[]⟩,[(.normal,⟨[(9,(.var Y87 (.pd Y87)))],[],[3,4,7,10,11,12],[],[],[]⟩)])) .leaf .leaf)) .leaf)) .leaf))))) .leaf)))
def F8V (a0:El Y31) (a1:El Y33) (a2:El Y58):Option (El Y58):=Zau (mkE tyTab mapTab pkTab [] [] F8M 35 bdTab) (Zai Tryz.f62) Tryz.f62.results F8H F8A F8R (fun y=>y.2.1) (a0,a1,a2,())
theorem F8_eq (a0:El Y31) (a1:El Y33) (a2:El Y58):F8V a0 a1 a2=F8 a0 a1 a2:=by kernel_rfl
theorem F8_ok:ZaU Tryz.prog 62 F8S:=Zac (m:=F8M) (fn:=Tryz.f62) (hint:=F8H) (pack:=fun y=>y.2.1) Za2 tab_ok ⟨⟨F9_ok,trivial⟩,trivial⟩ fun x z h=>(F8_eq x.1 x.2.1 x.2.2.1).trans h
def F7: (El Y31)→(El Y33)→Option (El Y31×El Y36):=fun a0 a1=>
 (F5 a0 a1).bind fun x0=>
 bif !decide (x0=(0:Int)) then some ((([]:List (El Y83)),([]:List (El Y85)),([]:List (El Y60)),([]:List (El Y63)),([]:List (El Y79)),(([]:List (El Zpb)),(0:Int),(0:Int),(0:Int),()),()),x0)
 else
 (F40 a0).bind fun x1=>
 Option.bind
 (run
 (fun s2=>
 bif decide (s2.2< (↑(List.length a0.2.2.1):Int)) then
 (idx a0.2.2.1 s2.2).bind fun x3=>
 (F10 a0 a1 x3).bind fun x4=>
 (inb s2.2 (List.length s2.1.2.2.1)).bind fun x5=>
 Option.bind s2.1.2.2.1[x5]? fun x6=>
 (F8 a0 a1 x3.2.2.2.2.2.2.2.1).bind fun x7=>
 Option.bind
 (inb s2.2
 (List.length
 (List.set s2.1.2.2.1 x5
 (x6.1,x6.2.1,x6.2.2.1,x6.2.2.2.1,x6.2.2.2.2.1,x6.2.2.2.2.2.1, !x4,x6.2.2.2.2.2.2.2))))
 fun x8=>
 Option.bind
 (List.set s2.1.2.2.1 x5
 (x6.1,x6.2.1,x6.2.2.1,x6.2.2.2.1,x6.2.2.2.2.1,x6.2.2.2.2.2.1, !x4,x6.2.2.2.2.2.2.2))[x8]?
 fun x9=>
 some
 (.inl
 ((s2.1.1,s2.1.2.1,
 List.set
 (List.set s2.1.2.2.1 x5
 (x6.1,x6.2.1,x6.2.2.1,x6.2.2.2.1,x6.2.2.2.2.1,x6.2.2.2.2.2.1, !x4,x6.2.2.2.2.2.2.2))
 x8
 (x9.1,x9.2.1,x9.2.2.1,x9.2.2.2.1,x9.2.2.2.2.1,x9.2.2.2.2.2.1,x9.2.2.2.2.2.2.1,x7,
 x9.2.2.2.2.2.2.2.2),
 s2.1.2.2.2.1,s2.1.2.2.2.2.1,s2.1.2.2.2.2.2.1,()),
 IntKind.wrap .i64 (s2.2+(1:Int))))
 else some (.inr s2.1))
 (x1,(0:Int)))
 fun x10=>
 bif a1.2.2.2.2.2.2.1 then
 Option.bind
 (run
 (fun s11=>
 bif decide (s11.2< (↑(List.length a0.2.2.2.2.1):Int)) then
 (idx a0.2.2.2.2.1 s11.2).bind fun x12=>
 bif x12.2.2.2.1 then
 Option.bind (Zap (decide (List.length s11.1.2.2.2.2.1+List.length [x12]≤Zaq))) fun _=>
 some
 (.inl
 ((s11.1.1,s11.1.2.1,s11.1.2.2.1,s11.1.2.2.2.1,s11.1.2.2.2.2.1++[x12],s11.1.2.2.2.2.2.1,()),
 IntKind.wrap .i64 (s11.2+(1:Int))))
 else
 some
 (.inl
 (s11.1,
 IntKind.wrap .i64 (s11.2+(1:Int))))
 else some (.inr s11.1))
 ((x10.1,x10.2.1,x10.2.2.1,x10.2.2.2.1,[],x10.2.2.2.2.2.1,()),(0:Int)))
 fun x14=>some (x14,(0:Int))
 else some (x10,(0:Int))
abbrev F7A:Zam:=(.cons (.pd Y31) (.cons (.pd Y33) .nil))
abbrev F7R:Zam:=(.cons (.pd Y31) (.cons (.pd Y36) .nil))
def F7S:Tr.Spec:= {args:=F7A,res:=F7R,fns:=[],α:=El Y31×El Y36,f:=fun x=>F7 x.1 x.2.1,unp:=fun z=>(((),(),()),(z.1,z.2,())) }
def F7M:List (Nat×List Tr.Spec):=[(59,[F5S]),(60,[F40S]),(61,[F10S]),(62,[F8S])]
def F7H:ZaW:=(.seq .leaf (.seq .leaf (.seq .leaf (.seq (.seq .leaf (.lp ⟨[(7,Pz6),(24,(.pd Y3))],[],[2,3,4,22,23],[],[],[]⟩ [((.exit 0),⟨[(7,Pz6)],[],[2,3,4],[],[],[]⟩)] .leaf)) (.seq (.seq .leaf (.cnd none (.seq .leaf (.seq .leaf (.lp ⟨[(7,(.var Y31 (.agg (.cons (.pd Y22) (.cons (.pd Y23) (.cons (.own Y60 false) (.cons (.pd Y25) (.cons (.own Y79 false) (.cons (.pd Y29) .nil))))))))),(56,(.pd Y3))],[],[4,54,55],[],[],[]⟩ [((.exit 2),⟨[(7,(.var Y31 (.agg (.cons (.pd Y22) (.cons (.pd Y23) (.cons (.own Y60 false) (.cons (.pd Y25) (.cons (.own Y79 false) (.cons (.pd Y29) .nil)))))))))],[],[4],[],[],[]⟩)] .leaf))) .leaf)) .leaf)))))
def F7V (a0:El Y31) (a1:El Y33):Option (El Y31×El Y36):=Zau (mkE tyTab mapTab pkTab [] [] F7M 70 bdTab) (Zai Tryz.f41) Tryz.f41.results F7H F7A F7R (fun y=>(y.2.1,y.2.2.1)) (a0,a1,())
theorem F7_eq (a0:El Y31) (a1:El Y33):F7V a0 a1=F7 a0 a1:=by kernel_rfl
theorem F7_ok:ZaU Tryz.prog 41 F7S:=Zac (m:=F7M) (fn:=Tryz.f41) (hint:=F7H) (pack:=fun y=>(y.2.1,y.2.2.1)) Za2 tab_ok ⟨⟨F5_ok,trivial⟩,⟨F40_ok,trivial⟩,⟨F10_ok,trivial⟩,⟨F8_ok,trivial⟩,trivial⟩ fun x z h=>(F7_eq x.1 x.2.1).trans h
def F38: (El Y31)→Option (El Y4):=fun a0=>(F39 a0).bind fun x0=>some (decide (x0.2.2=(0:Int)))
abbrev F38A:Zam:=(.cons (.pd Y31) .nil)
abbrev F38R:Zam:=(.cons (.pd Y4) .nil)
def F38S:Tr.Spec:= {args:=F38A,res:=F38R,fns:=[],α:=El Y4,f:=fun x=>F38 x.1,unp:=fun z=>(((),()),(z,())) }
def F38M:List (Nat×List Tr.Spec):=[(84,[F39S])]
def F38H:ZaW:= .leaf
def F38V (a0:El Y31):Option (El Y4):=Zau (mkE tyTab mapTab pkTab [] [] F38M 14 bdTab) (Zai Tryz.f63) Tryz.f63.results F38H F38A F38R (fun y=>y.2.1) (a0,())
theorem F38_eq (a0:El Y31):F38V a0=F38 a0:=by kernel_rfl
theorem F38_ok:ZaU Tryz.prog 63 F38S:=Zac (m:=F38M) (fn:=Tryz.f63) (hint:=F38H) (pack:=fun y=>y.2.1) Za2 tab_ok ⟨⟨F39_ok,trivial⟩,trivial⟩ fun x z h=>(F38_eq x.1).trans h
def F37: (El Y3)→(El Y31)→(El Y3)→Option (El Y4):=fun a0 a1 a2=>(idx a1.2.2.1 a0).bind fun x0=>(idx x0.2.2.2.2.2.2.2.1 (0:Int)).bind fun x1=>some (decide (x1.2.2.1≤a2))
abbrev F37A:Zam:=(.cons (.pd Y3) (.cons (.ro Y31) (.cons (.ro Y3) .nil)))
abbrev F37R:Zam:=(.cons (.pd Y4) .nil)
def F37S:Tr.Spec:= {args:=F37A,res:=F37R,fns:=[],α:=El Y4,f:=fun x=>F37 x.1 x.2.1 x.2.2.1,unp:=fun z=>(((),(),(),()),(z,())) }
def F37M:List (Nat×List Tr.Spec):=[]
def F37H:ZaW:= .leaf
def F37V (a0:El Y3) (a1:El Y31) (a2:El Y3):Option (El Y4):=Zau (mkE tyTab mapTab pkTab [] [] F37M 16 bdTab) (Zai Tryz.f100) Tryz.f100.results F37H F37A F37R (fun y=>y.2.1) (a0,a1,a2,())
theorem F37_eq (a0:El Y3) (a1:El Y31) (a2:El Y3):F37V a0 a1 a2=F37 a0 a1 a2:=by kernel_rfl
theorem F37_ok:ZaU Tryz.prog 100 F37S:=Zac (m:=F37M) (fn:=Tryz.f100) (hint:=F37H) (pack:=fun y=>y.2.1) Za2 tab_ok trivial fun x z h=>(F37_eq x.1 x.2.1 x.2.2.1).trans h
def F34: (El Y52)→((El Y31×El Y3×Unit))→Option (El Y3):=fun a0 a1=>
 Option.bind
 (run
 (fun s0=>
 bif decide (s0.1<s0.2) then
 (idx a0 (IntKind.wrap .i64 (s0.1+IntKind.wrap .i64 (Int.tdiv (IntKind.wrap .i64 (s0.2 - s0.1)) (2:Int))))).bind fun x1=>
 (F37 x1 a1.1 a1.2.1).bind fun x2=>
 bif x2 then
 some
 (.inl
 (IntKind.wrap .i64
 (IntKind.wrap .i64 (s0.1+IntKind.wrap .i64 (Int.tdiv (IntKind.wrap .i64 (s0.2 - s0.1)) (2:Int)))+(1:Int)),
 s0.2))
 else some (.inl (s0.1,IntKind.wrap .i64 (s0.1+IntKind.wrap .i64 (Int.tdiv (IntKind.wrap .i64 (s0.2 - s0.1)) (2:Int)))))
 else some (.inr s0.1))
 ((0:Int),(↑(List.length a0):Int)))
 fun x3=>some x3
abbrev F34A:Zam:=(.cons (.pd Y52) (.cons (.fn 100 (.cons (.ro Y31) (.cons (.ro Y3) .nil))) .nil))
abbrev F34R:Zam:=(.cons (.pd Y3) .nil)
def F34S:Tr.Spec:= {args:=F34A,res:=F34R,fns:=[100],α:=El Y3,f:=fun x=>F34 x.1 x.2.1,unp:=fun z=>(((),((),(),()),()),(z,())) }
def F34M:List (Nat×List Tr.Spec):=[(100,[F37S])]
def F34H:ZaW:=(.seq .leaf (.seq .leaf (.seq (.lp ⟨[(5,(.pd Y3)),(6,(.pd Y3))],[],[0,1],[],[],[]⟩ [((.exit 0),⟨[(5,(.pd Y3))],[],[1],[],[],[]⟩)] .leaf) .leaf)))
def F34V (a0:El Y52) (a1: (El Y31×El Y3×Unit)):Option (El Y3):=Zau (mkE tyTab mapTab pkTab [] [] F34M 29 bdTab) (Zai Tryz.f99) Tryz.f99.results F34H F34A F34R (fun y=>y.2.1) (a0,a1,())
theorem F34_eq (a0:El Y52) (a1: (El Y31×El Y3×Unit)):F34V a0 a1=F34 a0 a1:=by kernel_rfl
theorem F34_ok:ZaU Tryz.prog 99 F34S:=Zac (m:=F34M) (fn:=Tryz.f99) (hint:=F34H) (pack:=fun y=>y.2.1) Za2 tab_ok ⟨⟨F37_ok,trivial⟩,trivial⟩ fun x z h=>(F34_eq x.1 x.2.1).trans h
def F36: (El Y31)→Option (El Y52):=fun a0=>
 Option.bind
 (run
 (fun s0=>
 bif decide (s0.2< (↑(List.length a0.2.2.1):Int)) then
 (idx a0.2.2.1 s0.2).bind fun x1=>
 bif x1.2.2.2.2.2.2.1 then some (.inl (s0.1,IntKind.wrap .i64 (s0.2+(1:Int))))
 else
 (idx x1.2.2.2.2.2.2.2.1 (0:Int)).bind fun x2=>
 (F34 s0.1 (a0,x2.2.2.1,())).bind fun x3=>
 Option.bind (Zap (decide (List.length s0.1+List.length [(0:Int)]≤Zaq))) fun _=>
 Option.bind (sliceB (List.length (s0.1++[(0:Int)])) (List.length (s0.1++[(0:Int)])) (some (IntKind.wrap .i64 (x3+(1:Int)))) none)
 fun x5=>
 Option.bind (sliceB (List.length (s0.1++[(0:Int)])) (List.length (s0.1++[(0:Int)])) (some x3) none) fun x6=>
 Option.bind (Zap (Nat.ble (x5.1+(x5.2 - x5.1)) (List.length (s0.1++[(0:Int)])))) fun _=>
 Option.bind
 (inb x3
 (List.length
 (List.take x5.1 (s0.1++[(0:Int)])++
 List.take (Min.min (List.length (List.take (x6.2 - x6.1) (List.drop x6.1 (s0.1++[(0:Int)])))) (x5.2 - x5.1))
 (List.take (x6.2 - x6.1) (List.drop x6.1 (s0.1++[(0:Int)])))++
 List.drop (x5.1+Min.min (List.length (List.take (x6.2 - x6.1) (List.drop x6.1 (s0.1++[(0:Int)])))) (x5.2 - x5.1)) (s0.1++[(0:Int)]))))
 fun x8=>
 Option.bind
 (List.take x5.1 (s0.1++[(0:Int)])++
 List.take (Min.min (List.length (List.take (x6.2 - x6.1) (List.drop x6.1 (s0.1++[(0:Int)])))) (x5.2 - x5.1))
 (List.take (x6.2 - x6.1) (List.drop x6.1 (s0.1++[(0:Int)])))++
 List.drop (x5.1+Min.min (List.length (List.take (x6.2 - x6.1) (List.drop x6.1 (s0.1++[(0:Int)])))) (x5.2 - x5.1)) (s0.1++[(0:Int)]))[x8]?
 fun _=>
 some
 (.inl
 (List.set
 (List.take x5.1 (s0.1++[(0:Int)])++
 List.take (Min.min (List.length (List.take (x6.2 - x6.1) (List.drop x6.1 (s0.1++[(0:Int)])))) (x5.2 - x5.1))
 (List.take (x6.2 - x6.1) (List.drop x6.1 (s0.1++[(0:Int)])))++
 List.drop (x5.1+Min.min (List.length (List.take (x6.2 - x6.1) (List.drop x6.1 (s0.1++[(0:Int)])))) (x5.2 - x5.1)) (s0.1++[(0:Int)]))
 x8 s0.2,
 IntKind.wrap .i64 (s0.2+(1:Int))))
 else some (.inr s0.1))
 ([],(0:Int)))
 fun x10=>some x10
abbrev F36A:Zam:=(.cons (.pd Y31) .nil)
abbrev F36R:Zam:=(.cons (.pd Y52) .nil)
def F36S:Tr.Spec:= {args:=F36A,res:=F36R,fns:=[],α:=El Y52,f:=fun x=>F36 x.1,unp:=fun z=>(((),()),(z,())) }
def F36M:List (Nat×List Tr.Spec):=[(99,[F34S]),(100,[F37S])]
def F36H:ZaW:=(.seq .leaf (.seq .leaf (.seq (.seq .leaf (.lp ⟨[(3,(.own Y3 false)),(11,(.pd Y3))],[],[1,9,10],[],[],[]⟩ [((.exit 0),⟨[(3,(.own Y3 false))],[],[],[],[],[]⟩)] .leaf)) .leaf)))
def F36V (a0:El Y31):Option (El Y52):=Zau (mkE tyTab mapTab pkTab [] [] F36M 43 bdTab) (Zai Tryz.f64) Tryz.f64.results F36H F36A F36R (fun y=>y.2.1) (a0,())
theorem F36_eq (a0:El Y31):F36V a0=F36 a0:=by kernel_rfl
theorem F36_ok:ZaU Tryz.prog 64 F36S:=Zac (m:=F36M) (fn:=Tryz.f64) (hint:=F36H) (pack:=fun y=>y.2.1) Za2 tab_ok ⟨⟨F34_ok,trivial⟩,⟨F37_ok,trivial⟩,trivial⟩ fun x z h=>(F36_eq x.1).trans h
def F33: (El Y87)→(El Y87)→Option (El Y4):=fun a0 a1=>
 some
 (decide (a0.1=a1.1) &&
 (decide ((0:Int)=(0:Int)) && (decide ((0:Int)=(0:Int)) && (a0.2.2.2.1==a1.2.2.2.1&&a0.2.2.2.2.1==a1.2.2.2.2.1))))
abbrev F33A:Zam:=(.cons (.pd Y87) (.cons (.pd Y87) .nil))
abbrev F33R:Zam:=(.cons (.pd Y4) .nil)
def F33S:Tr.Spec:= {args:=F33A,res:=F33R,fns:=[],α:=El Y4,f:=fun x=>F33 x.1 x.2.1,unp:=fun z=>(((),(),()),(z,())) }
def F33M:List (Nat×List Tr.Spec):=[]
def F33H:ZaW:= .leaf
def F33V (a0:El Y87) (a1:El Y87):Option (El Y4):=Zau (mkE tyTab mapTab pkTab [] [] F33M 12 bdTab) (Zai Tryz.f101) Tryz.f101.results F33H F33A F33R (fun y=>y.2.1) (a0,a1,())
theorem F33_eq (a0:El Y87) (a1:El Y87):F33V a0 a1=F33 a0 a1:=by kernel_rfl
theorem F33_ok:ZaU Tryz.prog 101 F33S:=Zac (m:=F33M) (fn:=Tryz.f101) (hint:=F33H) (pack:=fun y=>y.2.1) Za2 tab_ok trivial fun x z h=>(F33_eq x.1 x.2.1).trans h
def F35: (El Y60)→(El Y60)→Option (El Y4):=fun a0 a1=>
 Option.bind
 (bif !decide (a0.2.2.2.2.1=a1.2.2.2.2.1) then some true
 else
 bif !a0.2.2.2.2.2.1==a1.2.2.2.2.2.1 then some true
 else some !decide ((↑(List.length a0.2.2.2.2.2.2.2.1):Int)=(↑(List.length a1.2.2.2.2.2.2.2.1):Int)))
 fun x0=>
 bif x0 then some false
 else
 Option.bind
 (run
 (fun s1=>
 bif decide (s1< (↑(List.length a0.2.2.2.2.2.2.2.1):Int)) then
 (idx a0.2.2.2.2.2.2.2.1 s1).bind fun x2=>
 (idx a1.2.2.2.2.2.2.2.1 s1).bind fun x3=>
 Option.bind
 ((F33 x2 x3).bind fun x4=>
 bif !x4 then some true
 else bif decide (x3.2.1<x2.2.1) then some true else some (decide (x3.2.2.1<x2.2.2.1)))
 fun x5=>bif x5 then some (.inr (.inr false)) else some (.inl (IntKind.wrap .i64 (s1+(1:Int))))
 else some (.inr (.inl ())))
 (0:Int))
 fun x6=>Sum.elim (fun _=>some true) (fun y8=>some y8) x6
abbrev F35A:Zam:=(.cons (.pd Y60) (.cons (.pd Y60) .nil))
abbrev F35R:Zam:=(.cons (.pd Y4) .nil)
def F35S:Tr.Spec:= {args:=F35A,res:=F35R,fns:=[],α:=El Y4,f:=fun x=>F35 x.1 x.2.1,unp:=fun z=>(((),(),()),(z,())) }
def F35M:List (Nat×List Tr.Spec):=[(101,[F33S])]
def F35H:ZaW:=(.seq .leaf (.seq (.seq (.reg [(28,Y4)]) .leaf) (.seq (.seq .leaf (.lp ⟨[(32,(.pd Y3))],[],[3,30,31],[],[],[]⟩ [((.exit 0),⟨[],[],[],[],[],[]⟩),(.ret,⟨[(4,(.pd Y4))],[],[],[],[],[]⟩)] (.seq .leaf (.seq .leaf (.seq (.seq .leaf (.seq .leaf (.seq (.reg [(59,Y4)]) .leaf))) .leaf))))) .leaf)))
def F35V (a0:El Y60) (a1:El Y60):Option (El Y4):=Zau (mkE tyTab mapTab pkTab [] [] F35M 61 bdTab) (Zai Tryz.f65) Tryz.f65.results F35H F35A F35R (fun y=>y.2.1) (a0,a1,())
theorem F35_eq (a0:El Y60) (a1:El Y60):F35V a0 a1=F35 a0 a1:=by kernel_rfl
theorem F35_ok:ZaU Tryz.prog 65 F35S:=Zac (m:=F35M) (fn:=Tryz.f65) (hint:=F35H) (pack:=fun y=>y.2.1) Za2 tab_ok ⟨⟨F33_ok,trivial⟩,trivial⟩ fun x z h=>(F35_eq x.1 x.2.1).trans h
def F32: (El Y31)→Option (El Y38×El Y36):=fun a0=>
 (F38 a0).bind fun x0=>
 bif !x0 then some ([],(21:Int))
 else
 (F36 a0).bind fun x1=>
 Option.bind
 (run
 (fun s2=>
 bif decide (s2.2< (↑(List.length x1):Int)) then
 (idx x1 s2.2).bind fun x3=>
 Option.bind
 (run
 (fun s4=>
 bif decide (s4.2.2< (↑(List.length s2.1):Int)) then
 (inb s4.2.2 (List.length s4.1)).bind fun x5=>
 Option.bind s4.1[x5]? fun _=>
 (idx s4.1 (↑x5:Int)).bind fun x7=>
 (idx s4.1 (↑x5:Int)).bind fun x8=>
 (inb (IntKind.wrap .i64 ((↑(List.length x7):Int) - (1:Int))) (List.length x8)).bind fun x9=>
 (idx s4.1 (↑x5:Int)).bind fun x10=>
 Option.bind x10[x9]? fun x11=>
 (idx a0.2.2.1 x11).bind fun x12=>
 (idx a0.2.2.1 x3).bind fun x13=>
 (F35 x12 x13).bind fun x14=>
 bif x14 then
 (idx s4.1 (↑x5:Int)).bind fun x15=>
 Option.bind (Zap (decide (List.length x15+List.length [x3]≤Zaq))) fun _=>
 (inb s4.2.2 (List.length s4.1)).bind fun x17=>
 Option.bind (Zap (Zhx (some (Int.toNat (↑x5:Int))) x17)) fun _=>
 Option.bind s4.1[x17]? fun _=>some (.inr (List.set s4.1 x17 (x15++[x3]),true))
 else some (.inl (s4.1,s4.2.1,IntKind.wrap .i64 (s4.2.2+(1:Int))))
 else some (.inr (s4.1,s4.2.1)))
 (s2.1,false,(0:Int)))
 fun x20=>
 bif !x20.2 then
 Option.bind (Zap (decide (List.length x20.1+List.length [[x3]]≤Zaq))) fun _=>
 some (.inl (x20.1++[[x3]],IntKind.wrap .i64 (s2.2+(1:Int))))
 else some (.inl (x20.1,IntKind.wrap .i64 (s2.2+(1:Int))))
 else some (.inr s2.1))
 ([],(0:Int)))
 fun x22=>some (x22,(0:Int))
abbrev F32A:Zam:=(.cons (.pd Y31) .nil)
abbrev F32R:Zam:=(.cons (.pd Y38) (.cons (.pd Y36) .nil))
def F32S:Tr.Spec:= {args:=F32A,res:=F32R,fns:=[],α:=El Y38×El Y36,f:=fun x=>F32 x.1,unp:=fun z=>(((),()),(z.1,z.2,())) }
def F32M:List (Nat×List Tr.Spec):=[(63,[F38S]),(64,[F36S]),(65,[F35S])]
def F32H:ZaW:=(.seq .leaf (.seq .leaf (.seq .leaf (.seq (.seq .leaf (.lp ⟨[(4,(.rows Y3 false)),(16,(.pd Y3))],[],[1,14,15],[],[],[]⟩ [((.exit 0),⟨[(4,(.rows Y3 false))],[],[],[],[],[]⟩)] (.seq .leaf (.seq .leaf (.seq (.seq .leaf (.seq .leaf (.seq (.seq .leaf (.lp ⟨[(4,(.rows Y3 false)),(7,(.pd Y4)),(22,(.pd Y3))],[],[1,6,14,15,16,21],[(20,4)],[],[]⟩ [((.exit 2),⟨[(4,(.rows Y3 false)),(7,(.pd Y4))],[],[1,6,14,15,16],[],[],[]⟩)] .leaf)) .leaf))) .leaf))))) .leaf))))
def F32V (a0:El Y31):Option (El Y38×El Y36):=Zau (mkE tyTab mapTab pkTab [38] [] F32M 60 bdTab) (Zai Tryz.f42) Tryz.f42.results F32H F32A F32R (fun y=>(y.2.1,y.2.2.1)) (a0,())
theorem F32_eq (a0:El Y31):F32V a0=F32 a0:=by kernel_rfl
theorem F32_ok:ZaU Tryz.prog 42 F32S:=Zac (m:=F32M) (fn:=Tryz.f42) (hint:=F32H) (pack:=fun y=>(y.2.1,y.2.2.1)) Za2 tab_ok ⟨⟨F38_ok,trivial⟩,⟨F36_ok,trivial⟩,⟨F35_ok,trivial⟩,trivial⟩ fun x z h=>(F32_eq x.1).trans h
def F113: (El Y3)→Option (List (El Zg1)):=fun a0=>
 Option.bind (Zap (decide ((0:El (Tr.Ty.int .i64))≤a0∧a0≤a0∧a0≤(↑Zaq:El (Tr.Ty.int .i64))))) fun _=>
 Option.bind
 (run
 (fun s1=>
 bif decide (s1.2< (↑(List.length (List.replicate (Int.toNat a0) (((0:Int),(0:Int),false,())))):Int)) then
 (inb s1.2 (List.length s1.1)).bind fun x2=>
 Option.bind s1.1[x2]? fun _=>some (.inl (List.set s1.1 x2 ((-1:Int),(-1:Int),false,()),IntKind.wrap .i64 (s1.2+(1:Int))))
 else some (.inr s1.1))
 (List.replicate (Int.toNat a0) (((0:Int),(0:Int),false,())),(0:Int)))
 fun x4=>some x4
abbrev F113A:Zam:=(.cons (.pd Y3) .nil)
abbrev F113R:Zam:=(.cons (.own Zg1 false) .nil)
def F113S:Tr.Spec:= {args:=F113A,res:=F113R,fns:=[],α:=List (El Zg1),f:=fun x=>F113 x.1,unp:=fun z=>(((),()),(z,())) }
def F113M:List (Nat×List Tr.Spec):=[]
def F113H:ZaW:=(.seq .leaf (.seq .leaf (.seq (.seq .leaf (.lp ⟨[(3,(.own Zg1 false)),(9,(.pd Y3))],[],[8],[],[],[]⟩ [((.exit 0),⟨[(3,(.own Zg1 false))],[],[],[],[],[]⟩)] .leaf)) .leaf)))
def F113V (a0:El Y3):Option (List (El Zg1)):=Zau (mkE tyTab mapTab pkTab [] [] F113M 18 bdTab) (Zai Tryz.f43) Tryz.f43.results F113H F113A F113R (fun y=>y.2.1) (a0,())
theorem F113_eq (a0:El Y3):F113V a0=F113 a0:=by kernel_rfl
theorem F113_ok:ZaU Tryz.prog 43 F113S:=Zac (m:=F113M) (fn:=Tryz.f43) (hint:=F113H) (pack:=fun y=>y.2.1) Za2 tab_ok trivial fun x z h=>(F113_eq x.1).trans h
def F108: (Tz0)→(El Y3)→(El Y3)→(El Y3)→(El Y3)→Option (Tz0):=fun a0 a1 a2 a3 a4=>
 (inb a1 (List.length a0.2.2.1)).bind fun x0=>
 Option.bind
 (Option.bind a0.2.2.1[x0]? fun x1=>
 bif decide (x1.1=(-1:Int)) then some true else Option.bind a0.2.2.1[x0]? fun x2=>some (decide (a2<x2.1)))
 fun x3=>
 bif x3 then
 Option.bind a0.2.2.1[x0]? fun x4=>
 Option.bind (List.set a0.2.2.1 x0 (a2,x4.2))[x0]? fun x5=>
 Option.bind
 (Option.bind (List.set (List.set a0.2.2.1 x0 (a2,x4.2)) x0 (x5.1,x5.2.1,x5.2.2.1,a4,x5.2.2.2.2))[x0]? fun x6=>
 bif decide (x6.2.2.1=(-1:Int)) then some true
 else
 Option.bind (List.set (List.set a0.2.2.1 x0 (a2,x4.2)) x0 (x5.1,x5.2.1,x5.2.2.1,a4,x5.2.2.2.2))[x0]? fun x7=>
 some (decide (a3<x7.2.2.1)))
 fun x8=>
 bif x8 then
 Option.bind (List.set (List.set a0.2.2.1 x0 (a2,x4.2)) x0 (x5.1,x5.2.1,x5.2.2.1,a4,x5.2.2.2.2))[x0]? fun x9=>
 Option.bind
 (List.set (List.set (List.set a0.2.2.1 x0 (a2,x4.2)) x0 (x5.1,x5.2.1,x5.2.2.1,a4,x5.2.2.2.2)) x0 (x9.1,x9.2.1,a3,x9.2.2.2))[x0]?
 fun x10=>
 some
 (a0.1,a0.2.1,
 List.set
 (List.set (List.set (List.set a0.2.2.1 x0 (a2,x4.2)) x0 (x5.1,x5.2.1,x5.2.2.1,a4,x5.2.2.2.2)) x0 (x9.1,x9.2.1,a3,x9.2.2.2)) x0
 (x10.1,x10.2.1,x10.2.2.1,x10.2.2.2.1,x10.2.2.2.2.1,a4,x10.2.2.2.2.2.2),
 a0.2.2.2.1,a0.2.2.2.2.1,a0.2.2.2.2.2.1,a0.2.2.2.2.2.2.1,())
 else
 some
 (a0.1,a0.2.1,List.set (List.set a0.2.2.1 x0 (a2,x4.2)) x0 (x5.1,x5.2.1,x5.2.2.1,a4,x5.2.2.2.2),a0.2.2.2.1,a0.2.2.2.2.1,
 a0.2.2.2.2.2.1,a0.2.2.2.2.2.2.1,())
 else
 Option.bind
 (Option.bind a0.2.2.1[x0]? fun x11=>
 bif decide (x11.2.2.1=(-1:Int)) then some true else Option.bind a0.2.2.1[x0]? fun x12=>some (decide (a3<x12.2.2.1)))
 fun x13=>
 bif x13 then
 Option.bind a0.2.2.1[x0]? fun x14=>
 Option.bind (List.set a0.2.2.1 x0 (x14.1,x14.2.1,a3,x14.2.2.2))[x0]? fun x15=>
 some
 (a0.1,a0.2.1,
 List.set (List.set a0.2.2.1 x0 (x14.1,x14.2.1,a3,x14.2.2.2)) x0
 (x15.1,x15.2.1,x15.2.2.1,x15.2.2.2.1,x15.2.2.2.2.1,a4,x15.2.2.2.2.2.2),
 a0.2.2.2.1,a0.2.2.2.2.1,a0.2.2.2.2.2.1,a0.2.2.2.2.2.2.1,())
 else some a0
abbrev F108A:Zam:=(.cons Pz1 (.cons (.pd Y3) (.cons (.pd Y3) (.cons (.pd Y3) (.cons (.pd Y3) .nil)))))
abbrev F108R:Zam:= .nil
def F108S:Tr.Spec:= {args:=F108A,res:=F108R,fns:=[],α:=Tz0,f:=fun x=>F108 x.1 x.2.1 x.2.2.1 x.2.2.2.1 x.2.2.2.2.1,unp:=fun z=>((z,(),(),(),(),()),()),kp:=[(0,2,10)] }
def F108M:List (Nat×List Tr.Spec):=[]
def F108H:ZaW:=(.seq .leaf (.seq (.seq (.reg [(29,Y4)]) .leaf) (.seq (.reg [(50,Y4)]) .leaf)))
def F108V (a0:Tz0) (a1:El Y3) (a2:El Y3) (a3:El Y3) (a4:El Y3):Option (Tz0):=Zau (mkE tyTab mapTab pkTab [] [] F108M 59 bdTab) (Zai Tryz.f44) Tryz.f44.results F108H F108A F108R (fun y=>y.1.1) (a0,a1,a2,a3,a4,()) [(0,2,10)]
theorem F108_eq (a0:Tz0) (a1:El Y3) (a2:El Y3) (a3:El Y3) (a4:El Y3):F108V a0 a1 a2 a3 a4=F108 a0 a1 a2 a3 a4:=by kernel_rfl
theorem F108_ok:ZaU Tryz.prog 44 F108S:=Zac (m:=F108M) (fn:=Tryz.f44) (hint:=F108H) (pack:=fun y=>y.1.1) Za2 tab_ok trivial fun x z h=>(F108_eq x.1 x.2.1 x.2.2.1 x.2.2.2.1 x.2.2.2.2.1).trans h
def F105: (Tz0)→(El Y66)→(El Y3)→Option (Tz0×El Y3):=fun a0 a1 a2=>
 Option.bind (Zap (decide (List.length a0.2.1+List.length [(a1,a2,())]≤Zaq))) fun _=>
 some
 ((a0.1,a0.2.1++[(a1,a2,())],a0.2.2.1,a0.2.2.2.1,a0.2.2.2.2.1,a0.2.2.2.2.2.1,a0.2.2.2.2.2.2.1,()),
 IntKind.wrap .i64 ((↑(List.length (a0.2.1++[(a1,a2,())])):Int) - (1:Int)))
abbrev F105A:Zam:=(.cons Pz1 (.cons (.pd Y66) (.cons (.pd Y3) .nil)))
abbrev F105R:Zam:=(.cons (.pd Y3) .nil)
def F105S:Tr.Spec:= {args:=F105A,res:=F105R,fns:=[],α:=Tz0×El Y3,f:=fun x=>F105 x.1 x.2.1 x.2.2.1,unp:=fun z=>((z.1,(),(),()),(z.2,())),kp:=[(0,2,10)] }
def F105M:List (Nat×List Tr.Spec):=[]
def F105H:ZaW:= .leaf
def F105V (a0:Tz0) (a1:El Y66) (a2:El Y3):Option (Tz0×El Y3):=Zau (mkE tyTab mapTab pkTab [] [] F105M 25 bdTab) (Zai Tryz.f66) Tryz.f66.results F105H F105A F105R (fun y=>(y.1.1,y.2.1)) (a0,a1,a2,()) [(0,2,10)]
theorem F105_eq (a0:Tz0) (a1:El Y66) (a2:El Y3):F105V a0 a1 a2=F105 a0 a1 a2:=by kernel_rfl
theorem F105_ok:ZaU Tryz.prog 66 F105S:=Zac (m:=F105M) (fn:=Tryz.f66) (hint:=F105H) (pack:=fun y=>(y.1.1,y.2.1)) Za2 tab_ok trivial fun x z h=>(F105_eq x.1 x.2.1 x.2.2.1).trans h
def F112: (Tz0)→(El Y3)→(El Y3)→(El Y3)→Option (Tz0):=fun a0 a1 a2 a3=>
 Option.bind
 (run
 (fun s0=>
 bif decide (s0.2< (↑(List.length a0.1.2.2.2.2.1):Int)) then
 (idx a0.1.2.2.2.2.1 s0.2).bind fun x1=>
 Option.bind (bif decide (x1.1=a1) then some (decide (IntKind.wrap .i64 (a2+x1.2.2.1)≤(3155932800:Int))) else some false)
 fun x2=>
 bif x2 then
 Option.bind
 (F105
 s0.1
 (false,(0:Int),(0:Int),(0:Int),a1,x1.2.1,a2,IntKind.wrap .i64 (a2+x1.2.2.1),false,()) a3)
 fun x3=>
 Option.bind
 (F108
 x3.1
 x1.2.1 (IntKind.wrap .i64 (a2+x1.2.2.1)) (IntKind.wrap .i64 (a2+x1.2.2.1)) x3.2)
 fun x4=>
 some
 (.inl
 (x4,
 IntKind.wrap .i64 (s0.2+(1:Int))))
 else
 some
 (.inl
 (s0.1,
 IntKind.wrap .i64 (s0.2+(1:Int))))
 else
 some
 (.inr s0.1))
 (a0,(0:Int)))
 fun x5=>some x5
abbrev F112A:Zam:=(.cons Pz1 (.cons (.pd Y3) (.cons (.pd Y3) (.cons (.pd Y3) .nil))))
abbrev F112R:Zam:= .nil
def F112S:Tr.Spec:= {args:=F112A,res:=F112R,fns:=[],α:=Tz0,f:=fun x=>F112 x.1 x.2.1 x.2.2.1 x.2.2.2.1,unp:=fun z=>((z,(),(),(),()),()),kp:=[(0,2,10)] }
def F112M:List (Nat×List Tr.Spec):=[(44,[F108S]),(66,[F105S])]
def F112H:ZaW:=(.seq .leaf (.lp ⟨[(0,Pz1),(17,(.pd Y3))],[],[1,2,3,15,16],[],[(0,2,10)],[]⟩ [((.exit 0),⟨[(0,Pz1)],[],[],[],[(0,2,10)],[]⟩)] (.seq .leaf (.seq .leaf (.seq (.seq .leaf (.seq .leaf (.seq (.reg [(32,Y4)]) .leaf))) .leaf)))))
def F112V (a0:Tz0) (a1:El Y3) (a2:El Y3) (a3:El Y3):Option (Tz0):=Zau (mkE tyTab mapTab pkTab [] [] F112M 49 bdTab) (Zai Tryz.f45) Tryz.f45.results F112H F112A F112R (fun y=>y.1.1) (a0,a1,a2,a3,()) [(0,2,10)]
theorem F112_eq (a0:Tz0) (a1:El Y3) (a2:El Y3) (a3:El Y3):F112V a0 a1 a2 a3=F112 a0 a1 a2 a3:=by kernel_rfl
theorem F112_ok:ZaU Tryz.prog 45 F112S:=Zac (m:=F112M) (fn:=Tryz.f45) (hint:=F112H) (pack:=fun y=>y.1.1) Za2 tab_ok ⟨⟨F108_ok,trivial⟩,⟨F105_ok,trivial⟩,trivial⟩ fun x z h=>(F112_eq x.1 x.2.1 x.2.2.1 x.2.2.2.1).trans h
def F101: (El Zg1)→(El Y3)→Option (El Y4):=fun a0 a1=>Option.bind (bif decide (a0.1=(-1:Int)) then some true else some (decide (a1<a0.1))) fun x0=>some x0
abbrev F101A:Zam:=(.cons (.pd Zg1) (.cons (.pd Y3) .nil))
abbrev F101R:Zam:=(.cons (.pd Y4) .nil)
def F101S:Tr.Spec:= {args:=F101A,res:=F101R,fns:=[],α:=El Y4,f:=fun x=>F101 x.1 x.2.1,unp:=fun z=>(((),(),()),(z,())) }
def F101M:List (Nat×List Tr.Spec):=[]
def F101H:ZaW:=(.seq .leaf (.seq (.reg [(4,Y4)]) .leaf))
def F101V (a0:El Zg1) (a1:El Y3):Option (El Y4):=Zau (mkE tyTab mapTab pkTab [] [] F101M 14 bdTab) (Zai Tryz.f68) Tryz.f68.results F101H F101A F101R (fun y=>y.2.1) (a0,a1,())
theorem F101_eq (a0:El Zg1) (a1:El Y3):F101V a0 a1=F101 a0 a1:=by kernel_rfl
theorem F101_ok:ZaU Tryz.prog 68 F101S:=Zac (m:=F101M) (fn:=Tryz.f68) (hint:=F101H) (pack:=fun y=>y.2.1) Za2 tab_ok trivial fun x z h=>(F101_eq x.1 x.2.1).trans h
def F106: (Tz0)→(El Y3)→(El Zg1)→Option (Tz0):=fun a0 a1 a2=>
 Option.bind
 ((idx a0.1.2.2.1 a1).bind fun x0=>
 bif !x0.2.2.2.2.2.2.1 then
 (inb a1 (List.length a0.2.2.2.2.1)).bind fun x1=>
 Option.bind a0.2.2.2.2.1[x1]? fun x2=>(F101 x2 a2.1).bind fun x3=>some x3
 else some false)
 fun x4=>
 bif x4 then
 (inb a1 (List.length a0.2.2.2.2.1)).bind fun x5=>
 Option.bind a0.2.2.2.2.1[x5]? fun _=>
 Option.bind (Zap (decide (List.length a0.2.2.2.2.2.1+List.length [a1]≤Zaq))) fun _=>
 some (a0.1,a0.2.1,a0.2.2.1,a0.2.2.2.1,List.set a0.2.2.2.2.1 x5 a2,a0.2.2.2.2.2.1++[a1],a0.2.2.2.2.2.2.1,())
 else some a0
abbrev F106A:Zam:=(.cons Pz1 (.cons (.pd Y3) (.cons (.pd Zg1) .nil)))
abbrev F106R:Zam:= .nil
def F106S:Tr.Spec:= {args:=F106A,res:=F106R,fns:=[],α:=Tz0,f:=fun x=>F106 x.1 x.2.1 x.2.2.1,unp:=fun z=>((z,(),(),()),()) }
def F106M:List (Nat×List Tr.Spec):=[(68,[F101S])]
def F106H:ZaW:=(.seq .leaf (.seq (.reg [(27,Y4)]) .leaf))
def F106V (a0:Tz0) (a1:El Y3) (a2:El Zg1):Option (Tz0):=Zau (mkE tyTab mapTab pkTab [] [] F106M 45 bdTab) (Zai Tryz.f67) Tryz.f67.results F106H F106A F106R (fun y=>y.1.1) (a0,a1,a2,())
theorem F106_eq (a0:Tz0) (a1:El Y3) (a2:El Zg1):F106V a0 a1 a2=F106 a0 a1 a2:=by kernel_rfl
theorem F106_ok:ZaU Tryz.prog 67 F106S:=Zac (m:=F106M) (fn:=Tryz.f67) (hint:=F106H) (pack:=fun y=>y.1.1) Za2 tab_ok ⟨⟨F101_ok,trivial⟩,trivial⟩ fun x z h=>(F106_eq x.1 x.2.1 x.2.2.1).trans h
def F107: (Tz0)→(El Y3)→(El Y3)→(El Y3)→(El Y4)→Option (Tz0):=fun a0 a1 a2 a3 a4=>
 (idx a0.1.2.2.1 a1).bind fun x0=>
 (idx x0.2.2.2.2.2.2.2.1 a2).bind fun x1=>
 (idx a0.2.2.2.2.2.2.1 a1).bind fun x2=>
 Option.bind
 (run
 (fun s3=>
 bif decide (s3.2< (↑(List.length x2):Int)) then
 (idx x2 s3.2).bind fun x4=>
 (idx s3.1.1.2.2.2.1 x4).bind fun x5=>
 (idx s3.1.1.2.2.1 x5.2.2.1).bind fun x6=>
 (idx x6.2.2.2.2.2.2.2.1 x5.2.2.2.1).bind fun x7=>
 Option.bind (bif !decide (x5.2.1=a2) then some true else some (decide (x7.2.2.1<x1.2.1))) fun x8=>
 bif x8 then
 some
 (.inl
 (s3.1,
 IntKind.wrap .i64 (s3.2+(1:Int))))
 else
 bif x5.2.2.2.2.1 then
 Option.bind
 (F106
 s3.1
 x5.2.2.1 (x5.2.2.2.1,a3,true,()))
 fun x9=>
 some
 (.inl
 (x9,
 IntKind.wrap .i64 (s3.2+(1:Int))))
 else
 Option.bind
 (bif a4 then
 bif x7.2.2.2.1 then
 (inb x5.2.2.1 (List.length s3.1.2.2.2.1)).bind fun x10=>
 Option.bind s3.1.2.2.2.1[x10]? fun x11=>(F101 x11 x5.2.2.2.1).bind fun x12=>some x12
 else some false
 else some false)
 fun x13=>
 bif x13 then
 (inb x5.2.2.1 (List.length s3.1.2.2.2.1)).bind fun x14=>
 Option.bind s3.1.2.2.2.1[x14]? fun _=>
 some
 (.inl
 ((s3.1.1,s3.1.2.1,s3.1.2.2.1,List.set s3.1.2.2.2.1 x14 (x5.2.2.2.1,a3,false,()),s3.1.2.2.2.2.1,
 s3.1.2.2.2.2.2.1,s3.1.2.2.2.2.2.2.1,()),
 IntKind.wrap .i64 (s3.2+(1:Int))))
 else
 some
 (.inl
 (s3.1,
 IntKind.wrap .i64 (s3.2+(1:Int))))
 else
 some
 (.inr
 s3.1))
 (a0,(0:Int)))
 fun x16=>some x16
abbrev F107A:Zam:=(.cons Pz1 (.cons (.pd Y3) (.cons (.pd Y3) (.cons (.pd Y3) (.cons (.pd Y4) .nil)))))
abbrev F107R:Zam:= .nil
def F107S:Tr.Spec:= {args:=F107A,res:=F107R,fns:=[],α:=Tz0,f:=fun x=>F107 x.1 x.2.1 x.2.2.1 x.2.2.2.1 x.2.2.2.2.1,unp:=fun z=>((z,(),(),(),(),()),()) }
def F107M:List (Nat×List Tr.Spec):=[(67,[F106S]),(68,[F101S])]
def F107H:ZaW:=(.seq .leaf (.seq .leaf (.lp ⟨[(0,Pz1),(36,(.pd Y3))],[],[2,3,4,10,34,35],[],[],[]⟩ [((.exit 0),⟨[(0,Pz1)],[],[],[],[],[]⟩)] (.seq .leaf (.seq .leaf (.seq (.seq .leaf (.seq .leaf (.seq .leaf (.seq (.reg [(62,Y4)]) (.cnd none .leaf (.seq .leaf (.cnd none .leaf (.seq (.reg [(84,Y4)]) .leaf)))))))) .leaf))))))
def F107V (a0:Tz0) (a1:El Y3) (a2:El Y3) (a3:El Y3) (a4:El Y4):Option (Tz0):=Zau (mkE tyTab mapTab pkTab [] [] F107M 115 bdTab) (Zai Tryz.f102) Tryz.f102.results F107H F107A F107R (fun y=>y.1.1) (a0,a1,a2,a3,a4,())
theorem F107_eq (a0:Tz0) (a1:El Y3) (a2:El Y3) (a3:El Y3) (a4:El Y4):F107V a0 a1 a2 a3 a4=F107 a0 a1 a2 a3 a4:=by kernel_rfl
theorem F107_ok:ZaU Tryz.prog 102 F107S:=Zac (m:=F107M) (fn:=Tryz.f102) (hint:=F107H) (pack:=fun y=>y.1.1) Za2 tab_ok ⟨⟨F106_ok,trivial⟩,⟨F101_ok,trivial⟩,trivial⟩ fun x z h=>(F107_eq x.1 x.2.1 x.2.2.1 x.2.2.2.1 x.2.2.2.2.1).trans h
end
end Q
