/- The functions of the program as functions of Lean, and that the program computes them; printed by a program of mine. Conditions: none. -/
import Derived.KernelRfl
import Derived.Test.YtckebckjnfcniaaGreatProg
import Derived.Test.YtckebckjnfcniaaGreatTsE
import Derived.Test.YtckebckjnfcniaaGreatTtB
import Derived.Test.YtckebckjnfcniaaGreatLay42
import Derived.Test.YtckebckjnfcniaaGreatUse42
open Tr Go Go.Proofs
namespace Q
noncomputable section
abbrev Y3:Ty:= .int .i64
abbrev Y4:Ty:= .bool
abbrev Y9:Ty:= .str
abbrev Y93:Ty:= .prod Y9 (.prod Y3 (.prod Y4 (.prod Y3 .unit)))
abbrev Y22:Ty:= .sl Y93
abbrev Y95:Ty:= .prod Y9 (.prod Y3 (.prod Y4 .unit))
abbrev Y23:Ty:= .sl Y95
abbrev Y86:Ty:= .prod Y3 (.prod Y3 (.prod Y3 (.prod Y4 (.prod Y4 .unit))))
abbrev Y82:Ty:= .sl Y86
abbrev Y84:Ty:= .prod Y3 (.prod Y3 (.prod Y3 (.prod Y9 (.prod Y3 (.prod Y4 (.prod Y4 (.prod Y82 .unit)))))))
abbrev Y24:Ty:= .sl Y84
abbrev ZuY:Ty:= .prod Y3 (.prod Y3 (.prod Y3 (.prod Y3 (.prod Y4 .unit))))
abbrev Y25:Ty:= .sl ZuY
abbrev Y59:Ty:= .prod Y3 (.prod Y3 (.prod Y3 (.prod Y4 .unit)))
abbrev Y26:Ty:= .sl Y59
abbrev Zo0:Ty:= .prod Y9 (.prod Y3 (.prod Y3 (.prod Y3 (.prod Y3 (.prod Y3 .unit)))))
abbrev Y27:Ty:= .sl Zo0
abbrev Y29:Ty:= .prod Y27 (.prod Y3 (.prod Y3 (.prod Y3 .unit)))
abbrev Y31:Ty:= .prod Y22 (.prod Y23 (.prod Y24 (.prod Y25 (.prod Y26 (.prod Y29 .unit)))))
abbrev Y33:Ty:= .prod Y3 (.prod Y3 (.prod Y3 (.prod Y4 (.prod Y3 (.prod Y3 (.prod Y4 (.prod Y4 (.prod Y3 (.prod Y4 .unit)))))))))
abbrev Y36:Ty:= .sl Y3
abbrev Y37:Ty:= .int .i64
abbrev Y51:Ty:= .prod Y4 (.prod Y3 (.prod Y3 (.prod Y3 (.prod Y3 (.prod Y3 (.prod Y3 (.prod Y3 (.prod Y4 .unit))))))))
abbrev Y43:Ty:= .sl Y51
abbrev Y45:Ty:= .prod Y43 .unit
abbrev Y56:Ty:= .sl Y45
abbrev ZuI:Ty:= .prod Y51 (.prod Y3 .unit)
abbrev Y66:Ty:= .sl ZuI
abbrev Y73:Ty:= .prod Y3 (.prod Y3 (.prod Y3 (.prod Y3 (.prod Y3 .unit))))
abbrev Y67:Ty:= .sl Y73
abbrev Zry:Ty:= .prod Y3 (.prod Y3 (.prod Y4 .unit))
abbrev Y68:Ty:= .sl Zry
abbrev Y69:Ty:= .sl Y36
abbrev Y71:Ty:= .prod Y31 (.prod Y33 (.prod Y66 (.prod Y67 (.prod Y68 (.prod Y69 (.prod Y4 .unit))))))
abbrev Y78:Ty:= .sl Y4
abbrev Y77:Ty:= .sl Y78
abbrev Y80:Ty:= .prod Y77 (.prod Y77 (.prod Y78 .unit))
abbrev Zih:Ty:= .prod Y3 (.prod Y3 (.prod Y3 (.prod Y3 (.prod Y3 (.prod Y3 .unit)))))
abbrev Y99:Ty:= .sl Zih
abbrev ZtA:Ty:= .prod Y3 (.prod Y3 (.prod Y3 (.prod Y3 (.prod Y3 .unit))))
abbrev ZuO:Ty:= .prod Y3 (.prod Y3 (.prod Y3 (.prod Y3 .unit)))
abbrev Zrl:Ty:= .sl ZuO
abbrev ZvK:Ty:= .int .u64
abbrev Zu1:Ty:= .prod Y3 (.prod Y3 (.prod Y3 (.prod Y3 .unit)))
abbrev Zj4:Ty:= .sl Zu1
abbrev Zct:Ty:= .prod Y3 (.prod Y3 (.prod Y37 .unit))
abbrev Zvn:Ty:= .arr 2 Y3
abbrev ZvJ:Ty:= .arr 4 Zvn
abbrev Zs3:Ty:= .prod Y4 (.prod Y3 (.prod Zrl .unit))
abbrev ZvD:Ty:= .sl Zs3
abbrev ZvL:Ty:= .ref
abbrev Zup:Ty:= .sl Zct
abbrev Zrn:Ty:= .prod Y9 (.prod Y3 (.prod Y3 .unit))
abbrev ZvH:Ty:= .ref
abbrev ZvE:Ty:= .ref
abbrev Zvq:Ty:= .ref
abbrev Zj6:Ty:= .arr 4 Y3
abbrev Zvy:Ty:= .ref
abbrev Zvx:Ty:= .ref
abbrev ZvC:Ty:= .int .u64
abbrev Zkb:Ty:= .prod Y3 (.prod Y3 (.prod Y4 .unit))
abbrev Zvr:Ty:= .ref
abbrev ZvM:Ty:= .ref
abbrev ZiF:Ty:= .prod Y3 (.prod Y3 (.prod Y3 .unit))
abbrev ZmI:Ty:= .sl ZiF
abbrev Zvp:Ty:= .ref
abbrev Zg5:Ty:= .prod Y3 (.prod Y3 (.prod Y3 .unit))
abbrev Zsk:Ty:= .sl Zg5
abbrev Zvk:Ty:= .ref
abbrev ZuK:Ty:= .prod Zg5 (.prod Y3 .unit)
abbrev Zvo:Ty:= .sl ZuK
abbrev Zvc:Ty:= .prod Zvk (.prod Zvo (.prod Y3 .unit))
def tyTab:List (Nat×Ty):=[(3,Y3),(4,Y4),(9,Y9),(93,Y93),(22,Y22),(95,Y95),(23,Y23),(86,Y86),(82,Y82),(84,Y84),(24,Y24),(132,ZuY),(25,Y25),(59,Y59),(26,Y26),(169,Zo0),(27,Y27),(29,Y29),(31,Y31),(33,Y33),(36,Y36),(37,Y37),(51,Y51),(43,Y43),(45,Y45),(56,Y56),(111,ZuI),(66,Y66),(73,Y73),(67,Y67),(130,Zry),(68,Y68),(69,Y69),(71,Y71),(78,Y78),(77,Y77),(80,Y80),(104,Zih),(99,Y99),(118,ZtA),(191,ZuO),(119,Zrl),(143,ZvK),(183,Zu1),(150,Zj4),(173,Zct),(179,Zvn),(180,ZvJ),(187,Zs3),(185,ZvD),(197,ZvL),(198,Zup),(202,Zrn),(199,ZvH),(203,ZvE),(204,Zvq),(207,Zj6),(205,Zvy),(209,Zvx),(221,ZvC),(234,Zkb),(232,Zvr),(241,ZvM),(244,ZiF),(242,ZmI),(249,Zvp),(260,Zg5),(252,Zsk),(263,Zvk),(273,ZuK),(269,Zvo),(271,Zvc)]
def mapTab:List (Nat×Ty×Ty):=[(197,Y9,Y4),(199,Zrn,Y4),(203,Y3,Y3),(204,Y3,Y4),(205,Zj6,Y4),(209,Y59,Y4),(232,Zkb,Y4),(241,Zkb,Y3),(249,Y3,ZmI)]
def pkTab:List (Nat×Nat):=[(261,1),(263,2)]
def bdTab:List (Nat×Nat):=[]
theorem Za2:Tryz.prog.follows .mixedOrders=true:=by kernel_rfl
theorem tab_ok:ZrY Tryz.prog tyTab mapTab pkTab bdTab=true:=by kernel_rfl
abbrev Zvv:Pat:= .agg (.cons (.fn 176 .nil) (.cons (.own ZuK true) (.cons (.pd Y3) .nil)))
abbrev Zvz:Pat:= .agg (.cons (.fn 176 .nil) (.cons (.own ZuK false) (.cons (.pd Y3) .nil)))
abbrev Pz9:Pat:= .agg (.cons (.rows Y4 false) (.cons (.rows Y4 false) (.cons (.own Y4 false) .nil)))
abbrev Pz8:Pat:= .var Zvc Zvv
abbrev Pz7:Pat:= .var Zvc Zvz
abbrev Pz6:Pat:= .var Y80 Pz9
abbrev Pz5:Pat:= .agg (.cons (.pd Y22) (.cons (.pd Y23) (.cons (.own Y84 false) (.cons (.pd Y25) (.cons (.pd Y26) (.cons (.pd Y29) .nil))))))
abbrev Pz4:Pat:= .var Y31 Pz5
abbrev Pz3:Pat:= .agg (.cons (.pd Y31) (.cons (.pd Y33) (.cons (.own ZuI false) (.cons (.own Y73 false) (.cons (.own Zry false) (.cons (.pd Y69) (.cons (.pd Y4) .nil)))))))
abbrev Pz2:Pat:= .agg (.cons (.pd Y31) (.cons (.pd Y33) (.cons (.own ZuI false) (.cons (.own Y73 false) (.cons (.own Zry false) (.cons (.rows Y3 false) (.cons (.pd Y4) .nil)))))))
abbrev Pz1:Pat:= .var Y71 Pz3
abbrev Pz0:Pat:= .var Y71 Pz2
abbrev Tz4:=Unit×List (El ZuK) ×El Y3×Unit
abbrev Tz3:=Tz4×El Zg5×El Y4
abbrev Tz2:=List (List (El Y4)) ×List (List (El Y4)) ×List (El Y4) ×Unit
abbrev Tz1:=El Y22×El Y23×List (El Y84) ×El Y25×El Y26×El Y29×Unit
abbrev Tz0:=El Y31×El Y33×List (El ZuI) ×List (El Y73) ×List (El Zry) ×El Y69×El Y4×Unit
def F32: (El Y31)->Option (El Y3):=fun a0=>
 Option.bind
 (run
 (fun s0=>
 Option.bind (bif decide (s0.2< (↑(List.length a0.2.2.1):Int)) then some (decide (s0.1<=(60:Int))) else some false) fun x1=>
 bif x1 then
 (idx a0.2.2.1 s0.2).bind fun x2=>
 some (.inl (IntKind.wrap .i64 (s0.1+(↑(List.length x2.2.2.2.2.2.2.2.1):Int)),IntKind.wrap .i64 (s0.2+(1:Int))))
 else some (.inr s0.1))
 ((0:Int),(0:Int)))
 fun x3=>some x3
abbrev F32A:Zam:=(.cons (.pd Y31) .nil)
abbrev F32R:Zam:=(.cons (.pd Y3) .nil)
def F32S:Tr.Spec:= {args:=F32A,res:=F32R,fns:=[],α:=El Y3,f:=fun x=>F32 x.1,unp:=fun z=>(((),()),(z,())) }
def F32M:List (Nat×List Tr.Spec):=[]
def F32H:ZaT:=(.seq .leaf (.seq .leaf (.seq (.seq .leaf (.lp ⟨[(3,(.pd Y3)),(4,(.pd Y3))],[],[1],[],[],[]⟩ [((.exit 0),⟨[(3,(.pd Y3))],[],[],[],[],[]⟩)] (.seq (.seq (.reg [(13,Y4)]) .leaf) .leaf))) .leaf)))
theorem F32_eq(a0:El Y31):(Zau (mkE tyTab mapTab pkTab [] [] F32M 26 bdTab) (Zai Tryz.f22) Tryz.f22.results F32H F32A F32R (fun y=>y.2.1) (a0,()):Option (El Y3))=F32 a0:=by kernel_rfl
theorem F32_ok:ZaQ Tryz.prog 22 F32S:=Zae (m:=F32M) (fn:=Tryz.f22) (hint:=F32H) (pack:=fun y=>y.2.1) Za2 tab_ok trivial fun x z h=>(F32_eq x.1).trans h
def F36: (El Y31)->Option (El Y4):=fun a0=>
 Option.bind
 (bif decide ((8:Int)< (↑(List.length a0.1):Int)) then some true
 else
 bif decide ((10:Int)< (↑(List.length a0.2.1):Int)) then some true
 else
 bif decide ((12:Int)< (↑(List.length a0.2.2.1):Int)) then some true
 else
 bif decide ((40:Int)< (↑(List.length a0.2.2.2.1):Int)) then some true
 else
 bif decide ((100:Int)< (↑(List.length a0.2.2.2.2.1):Int)) then some true
 else
 bif decide ((20:Int)< (↑(List.length a0.2.2.2.2.2.1.1):Int)) then some true
 else (F32 a0).bind fun x0=>some (decide ((60:Int)<x0)))
 fun x1=>some x1
abbrev F36A:Zam:=(.cons (.pd Y31) .nil)
abbrev F36R:Zam:=(.cons (.pd Y4) .nil)
def F36S:Tr.Spec:= {args:=F36A,res:=F36R,fns:=[],α:=El Y4,f:=fun x=>F36 x.1,unp:=fun z=>(((),()),(z,())) }
def F36M:List (Nat×List Tr.Spec):=[(22,[F32S])]
def F36H:ZaT:=(.seq .leaf (.seq (.reg [(2,Y4)]) .leaf))
theorem F36_eq(a0:El Y31):(Zau (mkE tyTab mapTab pkTab [] [] F36M 43 bdTab) (Zai Tryz.f8) Tryz.f8.results F36H F36A F36R (fun y=>y.2.1) (a0,()):Option (El Y4))=F36 a0:=by kernel_rfl
theorem F36_ok:ZaQ Tryz.prog 8 F36S:=Zae (m:=F36M) (fn:=Tryz.f8) (hint:=F36H) (pack:=fun y=>y.2.1) Za2 tab_ok ⟨⟨F32_ok,trivial⟩,trivial⟩ fun x z h=>(F36_eq x.1).trans h
def F30: (El Y9)->Option (El Y4):=fun a0=>
 Option.bind
 (run
 (fun s0=>
 bif decide (s0< (↑(List.length a0):Int)) then
 (idx a0 s0).bind fun x1=>
 Option.bind (bif decide ((97:Int)<=(↑(UInt8.toNat x1):Int)) then some (decide ((↑(UInt8.toNat x1):Int)<=(122:Int))) else some false)
 fun x2=>
 Option.bind
 (bif x2 then some x2
 else
 Option.bind (bif decide ((65:Int)<=(↑(UInt8.toNat x1):Int)) then some (decide ((↑(UInt8.toNat x1):Int)<=(90:Int))) else some false)
 fun x3=>
 Option.bind
 (bif x3 then some x3
 else
 Option.bind
 (bif decide ((48:Int)<=(↑(UInt8.toNat x1):Int)) then some (decide ((↑(UInt8.toNat x1):Int)<=(57:Int))) else some false)
 fun x4=>some x4)
 fun x5=>some x5)
 fun x6=>
 bif x6 then some (.inl (IntKind.wrap .i64 (s0+(1:Int))))
 else
 Option.bind
 (bif decide ((↑(UInt8.toNat x1):Int)=(45:Int)) then some (decide ((↑(UInt8.toNat x1):Int)=(45:Int)))
 else
 Option.bind
 (bif decide ((↑(UInt8.toNat x1):Int)=(95:Int)) then some (decide ((↑(UInt8.toNat x1):Int)=(95:Int)))
 else some (decide ((↑(UInt8.toNat x1):Int)=(46:Int))))
 fun x7=>some x7)
 fun x8=>bif x8 then some (.inl (IntKind.wrap .i64 (s0+(1:Int)))) else some (.inr (.inr false))
 else some (.inr (.inl ())))
 (0:Int))
 fun x9=>
 Sum.elim
 (fun _=>
 Option.bind (bif decide ((0:Int)< (↑(List.length a0):Int)) then some (decide ((↑(List.length a0):Int)<=(32:Int))) else some false) fun x11=>
 some x11)
 (fun y12=>some y12) x9
abbrev F30A:Zam:=(.cons (.pd Y9) .nil)
abbrev F30R:Zam:=(.cons (.pd Y4) .nil)
def F30S:Tr.Spec:= {args:=F30A,res:=F30R,fns:=[],α:=El Y4,f:=fun x=>F30 x.1,unp:=fun z=>(((),()),(z,())) }
def F30M:List (Nat×List Tr.Spec):=[]
def F30H:ZaT:=(.seq .leaf (.seq (.seq .leaf (.lp ⟨[(3,(.pd Y3))],[],[0],[],[],[]⟩ [((.exit 0),⟨[],[],[0],[],[],[]⟩),(.ret,⟨[(2,(.pd Y4))],[],[],[],[],[]⟩)] (.seq .leaf (.seq (.seq .leaf (.seq (.seq (.reg [(14,Y4)]) (.cnd (some (⟨[],[],[0,3,4],[],[],[]⟩,[(.normal,⟨[(14,(.pd Y4))],[],[0,3,4],[],[],[]⟩)])) .leaf (.seq (.reg [(14,Y4)]) (.cnd (some (⟨[],[],[0,3,4],[],[],[]⟩,[(.normal,⟨[(14,(.pd Y4))],[],[0,3,4],[],[],[]⟩)])) .leaf (.reg [(14,Y4)]))))) (.cnd none .leaf (.seq (.seq .leaf (.cnd (some (⟨[],[],[0,3],[],[],[]⟩,[(.normal,⟨[(33,(.pd Y4))],[],[0,3],[],[],[]⟩)])) .leaf (.seq .leaf (.cnd (some (⟨[],[],[0,3],[],[],[]⟩,[(.normal,⟨[(33,(.pd Y4))],[],[0,3],[],[],[]⟩)])) .leaf .leaf)))) .leaf)))) .leaf)))) (.seq (.reg [(2,Y4)]) .leaf)))
theorem F30_eq(a0:El Y9):(Zau (mkE tyTab mapTab pkTab [] [] F30M 48 bdTab) (Zai Tryz.f124) Tryz.f124.results F30H F30A F30R (fun y=>y.2.1) (a0,()):Option (El Y4))=F30 a0:=by kernel_rfl
theorem F30_ok:ZaQ Tryz.prog 124 F30S:=Zae (m:=F30M) (fn:=Tryz.f124) (hint:=F30H) (pack:=fun y=>y.2.1) Za2 tab_ok trivial fun x z h=>(F30_eq x.1).trans h
def F133: (El Y22)->Option (El Y3×El Y37):=fun a0=>
 bif decide ((64:Int)< (↑(List.length a0):Int)) then some ((0:Int),(5:Int))
 else
 Option.bind
 (run
 (fun s0=>
 bif decide (s0.2< (↑(List.length a0):Int)) then
 (idx a0 s0.2).bind fun x1=>
 (F30 x1.1).bind fun x2=>
 bif !x2 then some (.inr (.inr (s0.2,(12:Int))))
 else
 bif Option.getD (ZaL (Zap Y9) x1.1 s0.1) (false) then some (.inr (.inr (s0.2,(6:Int))))
 else
 Option.bind
 (bif decide (x1.2.1< (0:Int)) then some true
 else
 bif decide ((16:Int)<=x1.2.1) then some true
 else bif decide (x1.2.2.2.1< (0:Int)) then some true else some (decide ((3600:Int)<x1.2.2.2.1)))
 fun x3=>
 bif x3 then some (.inr (.inr (s0.2,(2:Int))))
 else some (.inl (Za9 (Zap Y9) x1.1 true s0.1,IntKind.wrap .i64 (s0.2+(1:Int))))
 else some (.inr (.inl ())))
 ([],(0:Int)))
 fun x4=>Sum.elim (fun _=>some ((0:Int),(0:Int))) (fun y6=>some (y6.1,y6.2)) x4
abbrev F133A:Zam:=(.cons (.pd Y22) .nil)
abbrev F133R:Zam:=(.cons (.pd Y3) (.cons (.pd Y37) .nil))
def F133S:Tr.Spec:= {args:=F133A,res:=F133R,fns:=[],α:=El Y3×El Y37,f:=fun x=>F133 x.1,unp:=fun z=>(((),()),(z.1,z.2,())) }
def F133M:List (Nat×List Tr.Spec):=[(124,[F30S])]
def F133H:ZaT:=(.seq .leaf (.seq .leaf (.seq .leaf (.seq (.seq .leaf (.lp ⟨[(4,(.map Y9 Y4)),(13,(.pd Y3))],[],[11,12],[],[],[]⟩ [((.exit 0),⟨[],[],[],[],[],[]⟩),(.ret,⟨[(2,(.pd Y3)),(3,(.pd Y37))],[],[],[],[],[]⟩)] (.seq .leaf (.seq .leaf (.seq (.seq .leaf (.seq (.seq .leaf (.cnd none .leaf (.seq .leaf (.cnd none .leaf (.seq (.reg [(30,Y4)]) .leaf))))) .leaf)) .leaf))))) .leaf))))
theorem F133_eq(a0:El Y22):(Zau (mkE tyTab mapTab pkTab [] [] F133M 54 bdTab) (Zai Tryz.f106) Tryz.f106.results F133H F133A F133R (fun y=>(y.2.1,y.2.2.1)) (a0,()):Option (El Y3×El Y37))=F133 a0:=by kernel_rfl
theorem F133_ok:ZaQ Tryz.prog 106 F133S:=Zae (m:=F133M) (fn:=Tryz.f106) (hint:=F133H) (pack:=fun y=>(y.2.1,y.2.2.1)) Za2 tab_ok ⟨⟨F30_ok,trivial⟩,trivial⟩ fun x z h=>(F133_eq x.1).trans h
def F109: (El Y3)->Option (El Y4):=fun a0=>Option.bind (bif decide ((0:Int)<=a0) then some (decide (a0< (8:Int))) else some false) fun x0=>some x0
abbrev F109A:Zam:=(.cons (.pd Y3) .nil)
abbrev F109R:Zam:=(.cons (.pd Y4) .nil)
def F109S:Tr.Spec:= {args:=F109A,res:=F109R,fns:=[],α:=El Y4,f:=fun x=>F109 x.1,unp:=fun z=>(((),()),(z,())) }
def F109M:List (Nat×List Tr.Spec):=[]
def F109H:ZaT:=(.seq .leaf (.seq (.reg [(2,Y4)]) .leaf))
theorem F109_eq(a0:El Y3):(Zau (mkE tyTab mapTab pkTab [] [] F109M 9 bdTab) (Zai Tryz.f125) Tryz.f125.results F109H F109A F109R (fun y=>y.2.1) (a0,()):Option (El Y4))=F109 a0:=by kernel_rfl
theorem F109_ok:ZaQ Tryz.prog 125 F109S:=Zae (m:=F109M) (fn:=Tryz.f125) (hint:=F109H) (pack:=fun y=>y.2.1) Za2 tab_ok trivial fun x z h=>(F109_eq x.1).trans h
def F108: (El Y23)->Option (El Y3×El Y37):=fun a0=>
 bif decide ((64:Int)< (↑(List.length a0):Int)) then some ((0:Int),(5:Int))
 else
 Option.bind
 (run
 (fun s0=>
 bif decide (s0.2< (↑(List.length a0):Int)) then
 (idx a0 s0.2).bind fun x1=>
 (F30 x1.1).bind fun x2=>
 bif !x2 then some (.inr (.inr (s0.2,(12:Int))))
 else
 bif Option.getD (ZaL (Zap Y9) x1.1 s0.1) (false) then some (.inr (.inr (s0.2,(6:Int))))
 else
 (F109 x1.2.1).bind fun x3=>
 bif !x3 then some (.inr (.inr (s0.2,(2:Int))))
 else some (.inl (Za9 (Zap Y9) x1.1 true s0.1,IntKind.wrap .i64 (s0.2+(1:Int))))
 else some (.inr (.inl ())))
 ([],(0:Int)))
 fun x4=>Sum.elim (fun _=>some ((0:Int),(0:Int))) (fun y6=>some (y6.1,y6.2)) x4
abbrev F108A:Zam:=(.cons (.pd Y23) .nil)
abbrev F108R:Zam:=(.cons (.pd Y3) (.cons (.pd Y37) .nil))
def F108S:Tr.Spec:= {args:=F108A,res:=F108R,fns:=[],α:=El Y3×El Y37,f:=fun x=>F108 x.1,unp:=fun z=>(((),()),(z.1,z.2,())) }
def F108M:List (Nat×List Tr.Spec):=[(124,[F30S]),(125,[F109S])]
def F108H:ZaT:=(.seq .leaf (.seq .leaf (.seq .leaf (.seq (.seq .leaf (.lp ⟨[(4,(.map Y9 Y4)),(13,(.pd Y3))],[],[11,12],[],[],[]⟩ [((.exit 0),⟨[],[],[],[],[],[]⟩),(.ret,⟨[(2,(.pd Y3)),(3,(.pd Y37))],[],[],[],[],[]⟩)] .leaf)) .leaf))))
theorem F108_eq(a0:El Y23):(Zau (mkE tyTab mapTab pkTab [] [] F108M 37 bdTab) (Zai Tryz.f107) Tryz.f107.results F108H F108A F108R (fun y=>(y.2.1,y.2.2.1)) (a0,()):Option (El Y3×El Y37))=F108 a0:=by kernel_rfl
theorem F108_ok:ZaQ Tryz.prog 107 F108S:=Zae (m:=F108M) (fn:=Tryz.f107) (hint:=F108H) (pack:=fun y=>(y.2.1,y.2.2.1)) Za2 tab_ok ⟨⟨F30_ok,trivial⟩,⟨F109_ok,trivial⟩,trivial⟩ fun x z h=>(F108_eq x.1).trans h
def F42: (El Zup)->Option (El Zct):=fun a0=>
 Option.bind
 (run
 (fun s0=>
 bif decide (s0.2< (↑(List.length a0):Int)) then
 (idx a0 s0.2).bind fun x1=>
 bif !decide (x1.2.2.1=(0:Int)) then some (.inr (.inr x1)) else some (.inl (s0.1,IntKind.wrap .i64 (s0.2+(1:Int))))
 else some (.inr (.inl s0.1)))
 (((0:Int),(0:Int),(0:Int),()),(0:Int)))
 fun x2=>Sum.elim (fun _=>some ((0:Int),(0:Int),(0:Int),())) (fun y4=>some y4) x2
abbrev F42A:Zam:=(.cons (.pd Zup) .nil)
abbrev F42R:Zam:=(.cons (.pd Zct) .nil)
def F42S:Tr.Spec:= {args:=F42A,res:=F42R,fns:=[],α:=El Zct,f:=fun x=>F42 x.1,unp:=fun z=>(((),()),(z,())) }
def F42M:List (Nat×List Tr.Spec):=[]
def F42H:ZaT:=(.seq .leaf (.seq (.seq .leaf (.lp ⟨[(2,(.var Zct (.pd Zct))),(7,(.pd Y3))],[],[5,6],[],[],[]⟩ [((.exit 0),⟨[(2,(.var Zct (.pd Zct)))],[],[],[],[],[]⟩),(.ret,⟨[(2,(.var Zct (.pd Zct)))],[],[],[],[],[]⟩)] .leaf)) .leaf))
theorem F42_eq(a0:El Zup):(Zau (mkE tyTab mapTab pkTab [] [] F42M 17 bdTab) (Zai Tryz.f108) Tryz.f108.results F42H F42A F42R (fun y=>y.2.1) (a0,()):Option (El Zct))=F42 a0:=by kernel_rfl
theorem F42_ok:ZaQ Tryz.prog 108 F42S:=Zae (m:=F42M) (fn:=Tryz.f108) (hint:=F42H) (pack:=fun y=>y.2.1) Za2 tab_ok trivial fun x z h=>(F42_eq x.1).trans h
def F51: (El Y3)->(El Y3)->(El Y37)->Option (El Zct):=fun a0 a1 a2=>some (a0,a1,a2,())
abbrev F51A:Zam:=(.cons (.pd Y3) (.cons (.pd Y3) (.cons (.pd Y37) .nil)))
abbrev F51R:Zam:=(.cons (.pd Zct) .nil)
def F51S:Tr.Spec:= {args:=F51A,res:=F51R,fns:=[],α:=El Zct,f:=fun x=>F51 x.1 x.2.1 x.2.2.1,unp:=fun z=>(((),(),(),()),(z,())) }
def F51M:List (Nat×List Tr.Spec):=[]
def F51H:ZaT:= .leaf
theorem F51_eq(a0:El Y3)(a1:El Y3)(a2:El Y37):(Zau (mkE tyTab mapTab pkTab [] [] F51M 11 bdTab) (Zai Tryz.f109) Tryz.f109.results F51H F51A F51R (fun y=>y.2.1) (a0,a1,a2,()):Option (El Zct))=F51 a0 a1 a2:=by kernel_rfl
theorem F51_ok:ZaQ Tryz.prog 109 F51S:=Zae (m:=F51M) (fn:=Tryz.f109) (hint:=F51H) (pack:=fun y=>y.2.1) Za2 tab_ok trivial fun x z h=>(F51_eq x.1 x.2.1 x.2.2.1).trans h
def F1: (El Y82)->(El Y3)->(El Y3)->(El Y3)->(El Y3)->Option (El Y37):=fun a0 a1 a2 a3 a4=>
 (idx a0 a1).bind fun x0=>
 Option.bind (bif decide (x0.1< (0:Int)) then some true else some (decide (a2<=x0.1))) fun x1=>
 bif x1 then some (9:Int)
 else
 Option.bind
 (bif decide ((0:Int)<a1) then (idx a0 (IntKind.wrap .i64 (a1 - (1:Int)))).bind fun x2=>some (decide (x2.1=x0.1))
 else some false)
 fun x3=>
 bif x3 then some (13:Int)
 else
 Option.bind
 (bif decide (x0.2.1<a3) then some true
 else
 bif decide (x0.2.2.1<x0.2.1) then some true
 else
 bif decide (a4<x0.2.2.1) then some true
 else
 bif decide ((0:Int)<a1) then
 (idx a0 (IntKind.wrap .i64 (a1 - (1:Int)))).bind fun x4=>some (decide (x0.2.1<x4.2.2.1))
 else some false)
 fun x5=>bif x5 then some (10:Int) else some (0:Int)
abbrev F1A:Zam:=(.cons (.pd Y82) (.cons (.pd Y3) (.cons (.pd Y3) (.cons (.pd Y3) (.cons (.pd Y3) .nil)))))
abbrev F1R:Zam:=(.cons (.pd Y37) .nil)
def F1S:Tr.Spec:= {args:=F1A,res:=F1R,fns:=[],α:=El Y37,f:=fun x=>F1 x.1 x.2.1 x.2.2.1 x.2.2.2.1 x.2.2.2.2.1,unp:=fun z=>(((),(),(),(),(),()),(z,())) }
def F1M:List (Nat×List Tr.Spec):=[]
def F1H:ZaT:=(.seq .leaf (.seq .leaf (.seq (.seq (.reg [(24,Y4)]) .leaf) (.seq (.seq (.reg [(37,Y4)]) .leaf) (.seq (.seq (.reg [(69,Y4)]) .leaf) .leaf)))))
theorem F1_eq(a0:El Y82)(a1:El Y3)(a2:El Y3)(a3:El Y3)(a4:El Y3):(Zau (mkE tyTab mapTab pkTab [] [] F1M 70 bdTab) (Zai Tryz.f144) Tryz.f144.results F1H F1A F1R (fun y=>y.2.1) (a0,a1,a2,a3,a4,()):Option (El Y37))=F1 a0 a1 a2 a3 a4:=by kernel_rfl
theorem F1_ok:ZaQ Tryz.prog 144 F1S:=Zae (m:=F1M) (fn:=Tryz.f144) (hint:=F1H) (pack:=fun y=>y.2.1) Za2 tab_ok trivial fun x z h=>(F1_eq x.1 x.2.1 x.2.2.1 x.2.2.2.1 x.2.2.2.2.1).trans h
def F0: (El Y82)->(El Y3)->(El Y3)->(El Y3)->Option (El Y3×El Y37):=fun a0 a1 a2 a3=>
 Option.bind (bif decide ((↑(List.length a0):Int)< (2:Int)) then some true else some (decide ((32:Int)< (↑(List.length a0):Int)))) fun x0=>
 bif x0 then some ((0:Int),(5:Int))
 else
 Option.bind
 (run
 (fun s1=>
 bif decide (s1< (↑(List.length a0):Int)) then
 (F1 a0 s1 a1 a2 a3).bind fun x2=>
 bif !decide (x2=(0:Int)) then some (.inr (.inr (s1,x2))) else some (.inl (IntKind.wrap .i64 (s1+(1:Int))))
 else some (.inr (.inl ())))
 (0:Int))
 fun x3=>Sum.elim (fun _=>some ((0:Int),(0:Int))) (fun y5=>some (y5.1,y5.2)) x3
abbrev F0A:Zam:=(.cons (.pd Y82) (.cons (.pd Y3) (.cons (.pd Y3) (.cons (.pd Y3) .nil))))
abbrev F0R:Zam:=(.cons (.pd Y3) (.cons (.pd Y37) .nil))
def F0S:Tr.Spec:= {args:=F0A,res:=F0R,fns:=[],α:=El Y3×El Y37,f:=fun x=>F0 x.1 x.2.1 x.2.2.1 x.2.2.2.1,unp:=fun z=>(((),(),(),(),()),(z.1,z.2,())) }
def F0M:List (Nat×List Tr.Spec):=[(144,[F1S])]
def F0H:ZaT:=(.seq .leaf (.seq (.seq (.reg [(19,Y4)]) .leaf) (.seq (.seq .leaf (.lp ⟨[(22,(.pd Y3))],[],[0,1,2,3,21],[],[],[]⟩ [((.exit 0),⟨[],[],[],[],[],[]⟩),(.ret,⟨[(8,(.pd Y3)),(9,(.pd Y37))],[],[],[],[],[]⟩)] .leaf)) .leaf)))
theorem F0_eq(a0:El Y82)(a1:El Y3)(a2:El Y3)(a3:El Y3):(Zau (mkE tyTab mapTab pkTab [] [] F0M 36 bdTab) (Zai Tryz.f126) Tryz.f126.results F0H F0A F0R (fun y=>(y.2.1,y.2.2.1)) (a0,a1,a2,a3,()):Option (El Y3×El Y37))=F0 a0 a1 a2 a3:=by kernel_rfl
theorem F0_ok:ZaQ Tryz.prog 126 F0S:=Zae (m:=F0M) (fn:=Tryz.f126) (hint:=F0H) (pack:=fun y=>(y.2.1,y.2.2.1)) Za2 tab_ok ⟨⟨F1_ok,trivial⟩,trivial⟩ fun x z h=>(F0_eq x.1 x.2.1 x.2.2.1 x.2.2.2.1).trans h
def F41: (El Y31)->Option (El Zct):=fun a0=>
 bif decide ((1024:Int)< (↑(List.length a0.2.2.1):Int)) then (F51 (2:Int) (0:Int) (5:Int)).bind fun x0=>some x0
 else
 Option.bind
 (run
 (fun s1=>
 bif decide (s1.2.2< (↑(List.length a0.2.2.1):Int)) then
 (idx a0.2.2.1 s1.2.2).bind fun x2=>
 (F30 x2.2.2.2.1).bind fun x3=>
 bif !x3 then (F51 (2:Int) s1.2.2 (12:Int)).bind fun x4=>some (.inr (.inr x4))
 else
 Option.bind (bif decide (x2.1< (-1:Int)) then some true else some (decide (x2.2.2.1< (0:Int)))) fun x5=>
 bif x5 then (F51 (2:Int) s1.2.2 (2:Int)).bind fun x6=>some (.inr (.inr x6))
 else
 Option.bind (bif decide (x2.2.1< (0:Int)) then some true else some (decide ((36524:Int)<x2.2.1))) fun x7=>
 bif x7 then (F51 (2:Int) s1.2.2 (11:Int)).bind fun x8=>some (.inr (.inr x8))
 else
 Option.bind
 (bif decide (x2.2.2.2.2.1< (0:Int)) then some true
 else some (decide ((↑(List.length a0.2.1):Int)<=x2.2.2.2.2.1)))
 fun x9=>
 bif x9 then (F51 (2:Int) s1.2.2 (9:Int)).bind fun x10=>some (.inr (.inr x10))
 else
 (F0 x2.2.2.2.2.2.2.2.1 (↑(List.length a0.1):Int) (0:Int) (3155932800:Int)).bind fun x11=>
 bif !decide (x11.2=(0:Int)) then (F51 (2:Int) s1.2.2 x11.2).bind fun x12=>some (.inr (.inr x12))
 else
 bif Option.getD (ZaL (Zap Zrn) (x2.2.2.2.1,x2.2.1,x2.2.2.1,()) s1.2.1) (false) then
 (F51 (2:Int) s1.2.2 (6:Int)).bind fun x13=>some (.inr (.inr x13))
 else
 some
 (.inl
 (s1.1,Za9 (Zap Zrn) (x2.2.2.2.1,x2.2.1,x2.2.2.1,()) true s1.2.1,
 IntKind.wrap .i64 (s1.2.2+(1:Int))))
 else some (.inr (.inl s1.1)))
 (((0:Int),(0:Int),(0:Int),()),[],(0:Int)))
 fun x14=>Sum.elim (fun _=>some ((0:Int),(0:Int),(0:Int),())) (fun y16=>some y16) x14
abbrev F41A:Zam:=(.cons (.pd Y31) .nil)
abbrev F41R:Zam:=(.cons (.pd Zct) .nil)
def F41S:Tr.Spec:= {args:=F41A,res:=F41R,fns:=[],α:=El Zct,f:=fun x=>F41 x.1,unp:=fun z=>(((),()),(z,())) }
def F41M:List (Nat×List Tr.Spec):=[(109,[F51S]),(124,[F30S]),(126,[F0S])]
def F41H:ZaT:=(.seq .leaf (.seq .leaf (.seq .leaf (.seq (.seq .leaf (.lp ⟨[(2,(.var Zct (.pd Zct))),(3,(.map Zrn Y4)),(18,(.pd Y3))],[],[1,16,17],[],[],[]⟩ [((.exit 0),⟨[(2,(.var Zct (.pd Zct)))],[],[],[],[],[]⟩),(.ret,⟨[(2,(.var Zct (.pd Zct)))],[],[],[],[],[]⟩)] (.seq .leaf (.seq .leaf (.seq (.seq .leaf (.seq (.seq .leaf (.cnd none .leaf (.seq (.reg [(30,Y4)]) (.cnd none .leaf (.seq (.reg [(41,Y4)]) (.cnd none .leaf (.seq (.reg [(52,Y4)]) .leaf))))))) .leaf)) .leaf))))) .leaf))))
theorem F41_eq(a0:El Y31):(Zau (mkE tyTab mapTab pkTab [] [] F41M 96 bdTab) (Zai Tryz.f110) Tryz.f110.results F41H F41A F41R (fun y=>y.2.1) (a0,()):Option (El Zct))=F41 a0:=by kernel_rfl
theorem F41_ok:ZaQ Tryz.prog 110 F41S:=Zae (m:=F41M) (fn:=Tryz.f110) (hint:=F41H) (pack:=fun y=>y.2.1) Za2 tab_ok ⟨⟨F51_ok,trivial⟩,⟨F30_ok,trivial⟩,⟨F0_ok,trivial⟩,trivial⟩ fun x z h=>(F41_eq x.1).trans h
def F52: (El Y3)->(El Y3)->Option (El Y4):=fun a0 a1=>Option.bind (bif decide ((0:Int)<=a0) then some (decide (a0<a1)) else some false) fun x0=>some x0
abbrev F52A:Zam:=(.cons (.pd Y3) (.cons (.pd Y3) .nil))
abbrev F52R:Zam:=(.cons (.pd Y4) .nil)
def F52S:Tr.Spec:= {args:=F52A,res:=F52R,fns:=[],α:=El Y4,f:=fun x=>F52 x.1 x.2.1,unp:=fun z=>(((),(),()),(z,())) }
def F52M:List (Nat×List Tr.Spec):=[]
def F52H:ZaT:=(.seq .leaf (.seq (.reg [(4,Y4)]) .leaf))
theorem F52_eq(a0:El Y3)(a1:El Y3):(Zau (mkE tyTab mapTab pkTab [] [] F52M 12 bdTab) (Zai Tryz.f127) Tryz.f127.results F52H F52A F52R (fun y=>y.2.1) (a0,a1,()):Option (El Y4))=F52 a0 a1:=by kernel_rfl
theorem F52_ok:ZaQ Tryz.prog 127 F52S:=Zae (m:=F52M) (fn:=Tryz.f127) (hint:=F52H) (pack:=fun y=>y.2.1) Za2 tab_ok trivial fun x z h=>(F52_eq x.1 x.2.1).trans h
def F50: (List (El Y3×El Y3))->(El Y3)->(El Y3)->Option (List (El Y3×El Y3) ×El Y4):=fun a0 a1 a2=>
 Option.bind
 (run
 (fun s0=>
 bif s0.2 then
 bif decide (s0.1=a2) then some (.inr (.inr true))
 else some (.inl (Option.getD (ZaL (Zap Y3) s0.1 a0) ((0:Int)),Option.isSome (ZaL (Zap Y3) s0.1 a0)))
 else some (.inr (.inl ())))
 (Option.getD (ZaL (Zap Y3) a1 a0) ((0:Int)),Option.isSome (ZaL (Zap Y3) a1 a0)))
 fun x1=>Sum.elim (fun _=>some (a0,false)) (fun y3=>some (a0,y3)) x1
abbrev F50A:Zam:=(.cons (.map Y3 Y3) (.cons (.pd Y3) (.cons (.pd Y3) .nil)))
abbrev F50R:Zam:=(.cons (.pd Y4) .nil)
def F50S:Tr.Spec:= {args:=F50A,res:=F50R,fns:=[],α:=List (El Y3×El Y3) ×El Y4,f:=fun x=>F50 x.1 x.2.1 x.2.2.1,unp:=fun z=>((z.1,(),(),()),(z.2,())) }
def F50M:List (Nat×List Tr.Spec):=[]
def F50H:ZaT:=(.seq .leaf (.seq (.seq .leaf (.lp ⟨[(7,(.pd Y3)),(8,(.pd Y4))],[],[0,2],[],[],[]⟩ [((.exit 0),⟨[],[],[0],[],[],[]⟩),(.ret,⟨[(6,(.pd Y4))],[],[0],[],[],[]⟩)] .leaf)) .leaf))
theorem F50_eq(a0:List (El Y3×El Y3))(a1:El Y3)(a2:El Y3):(Zau (mkE tyTab mapTab pkTab [] [] F50M 25 bdTab) (Zai Tryz.f128) Tryz.f128.results F50H F50A F50R (fun y=>(y.1.1,y.2.1)) (a0,a1,a2,()):Option (List (El Y3×El Y3) ×El Y4))=F50 a0 a1 a2:=by kernel_rfl
theorem F50_ok:ZaQ Tryz.prog 128 F50S:=Zae (m:=F50M) (fn:=Tryz.f128) (hint:=F50H) (pack:=fun y=>(y.1.1,y.2.1)) Za2 tab_ok trivial fun x z h=>(F50_eq x.1 x.2.1 x.2.2.1).trans h
def F39: (El Y31)->Option (El Zct):=fun a0=>
 bif decide ((1024:Int)< (↑(List.length a0.2.2.2.1):Int)) then (F51 (3:Int) (0:Int) (5:Int)).bind fun x0=>some x0
 else
 Option.bind
 (run
 (fun s1=>
 bif decide (s1.2.2.2.2< (↑(List.length a0.2.2.2.1):Int)) then
 (idx a0.2.2.2.1 s1.2.2.2.2).bind fun x2=>
 Option.bind
 ((F52 x2.1 (↑(List.length a0.2.2.1):Int)).bind fun x3=>
 bif !x3 then some true
 else
 (F52 x2.2.2.1 (↑(List.length a0.2.2.1):Int)).bind fun x4=>
 bif !x4 then some true else some (decide (x2.1=x2.2.2.1)))
 fun x5=>
 bif x5 then (F51 (3:Int) s1.2.2.2.2 (9:Int)).bind fun x6=>some (.inr (.inr x6))
 else
 (idx a0.2.2.1 x2.1).bind fun x7=>
 (idx a0.2.2.1 x2.2.2.1).bind fun x8=>
 Option.bind
 ((F52 x2.2.1 (↑(List.length x7.2.2.2.2.2.2.2.1):Int)).bind fun x9=>
 bif !x9 then some true
 else (F52 x2.2.2.2.1 (↑(List.length x8.2.2.2.2.2.2.2.1):Int)).bind fun x10=>some !x10)
 fun x11=>
 bif x11 then (F51 (3:Int) s1.2.2.2.2 (9:Int)).bind fun x12=>some (.inr (.inr x12))
 else
 (idx x7.2.2.2.2.2.2.2.1 x2.2.1).bind fun x13=>
 (idx x8.2.2.2.2.2.2.2.1 x2.2.2.2.1).bind fun x14=>
 bif !decide (x13.1=x14.1) then (F51 (3:Int) s1.2.2.2.2 (13:Int)).bind fun x15=>some (.inr (.inr x15))
 else
 bif x2.2.2.2.2.1 then
 bif !decide (IntKind.wrap .i64 (x2.2.1+(1:Int))=(↑(List.length x7.2.2.2.2.2.2.2.1):Int)) then
 (F51 (3:Int) s1.2.2.2.2 (19:Int)).bind fun x16=>some (.inr (.inr x16))
 else
 bif !decide (x2.2.2.2.1=(0:Int)) then
 (F51 (3:Int) s1.2.2.2.2 (19:Int)).bind fun x17=>some (.inr (.inr x17))
 else
 bif Option.isSome (ZaL (Zap Y3) x2.1 s1.2.1) then
 (F51 (3:Int) s1.2.2.2.2 (19:Int)).bind fun x18=>some (.inr (.inr x18))
 else
 bif Option.getD (ZaL (Zap Y3) x2.2.2.1 s1.2.2.1) (false) then
 (F51 (3:Int) s1.2.2.2.2 (19:Int)).bind fun x19=>some (.inr (.inr x19))
 else
 (F50 s1.2.1 x2.2.2.1 x2.1).bind fun x20=>
 bif x20.2 then (F51 (3:Int) s1.2.2.2.2 (19:Int)).bind fun x21=>some (.inr (.inr x21))
 else
 bif Option.getD (ZaL (Zap Zj6) [x2.1,x2.2.1,x2.2.2.1,x2.2.2.2.1] s1.2.2.2.1) (false) then
 (F51 (3:Int) s1.2.2.2.2 (6:Int)).bind fun x22=>some (.inr (.inr x22))
 else
 bif x2.2.2.2.2.1 then
 some
 (.inl
 (s1.1,Za9 (Zap Y3) x2.1 x2.2.2.1 x20.1,Za9 (Zap Y3) x2.2.2.1 true s1.2.2.1,
 Za9 (Zap Zj6) [x2.1,x2.2.1,x2.2.2.1,x2.2.2.2.1] true s1.2.2.2.1,
 IntKind.wrap .i64 (s1.2.2.2.2+(1:Int))))
 else
 some
 (.inl
 (s1.1,x20.1,s1.2.2.1,Za9 (Zap Zj6) [x2.1,x2.2.1,x2.2.2.1,x2.2.2.2.1] true s1.2.2.2.1,
 IntKind.wrap .i64 (s1.2.2.2.2+(1:Int))))
 else
 bif Option.getD (ZaL (Zap Zj6) [x2.1,x2.2.1,x2.2.2.1,x2.2.2.2.1] s1.2.2.2.1) (false) then
 (F51 (3:Int) s1.2.2.2.2 (6:Int)).bind fun x23=>some (.inr (.inr x23))
 else
 bif x2.2.2.2.2.1 then
 some
 (.inl
 (s1.1,Za9 (Zap Y3) x2.1 x2.2.2.1 s1.2.1,Za9 (Zap Y3) x2.2.2.1 true s1.2.2.1,
 Za9 (Zap Zj6) [x2.1,x2.2.1,x2.2.2.1,x2.2.2.2.1] true s1.2.2.2.1,
 IntKind.wrap .i64 (s1.2.2.2.2+(1:Int))))
 else
 some
 (.inl
 (s1.1,s1.2.1,s1.2.2.1,Za9 (Zap Zj6) [x2.1,x2.2.1,x2.2.2.1,x2.2.2.2.1] true s1.2.2.2.1,
 IntKind.wrap .i64 (s1.2.2.2.2+(1:Int))))
 else some (.inr (.inl s1.1)))
 (((0:Int),(0:Int),(0:Int),()),[],[],[],(0:Int)))
 fun x24=>Sum.elim (fun _=>some ((0:Int),(0:Int),(0:Int),())) (fun y26=>some y26) x24
abbrev F39A:Zam:=(.cons (.pd Y31) .nil)
abbrev F39R:Zam:=(.cons (.pd Zct) .nil)
def F39S:Tr.Spec:= {args:=F39A,res:=F39R,fns:=[],α:=El Zct,f:=fun x=>F39 x.1,unp:=fun z=>(((),()),(z,())) }
def F39M:List (Nat×List Tr.Spec):=[(109,[F51S]),(127,[F52S]),(128,[F50S])]
def F39H:ZaT:=(.seq .leaf (.seq .leaf (.seq .leaf (.seq .leaf (.seq (.seq .leaf (.lp ⟨[(2,(.var Zct (.pd Zct))),(3,(.map Y3 Y3)),(4,(.map Y3 Y4)),(5,(.map Zj6 Y4)),(24,(.pd Y3))],[],[1,22,23],[],[],[]⟩ [((.exit 0),⟨[(2,(.var Zct (.pd Zct)))],[],[],[],[],[]⟩),(.ret,⟨[(2,(.var Zct (.pd Zct)))],[],[],[],[],[]⟩)] (.seq .leaf (.seq .leaf (.seq (.seq .leaf (.seq (.seq (.reg [(51,Y4)]) .leaf) (.seq .leaf (.seq (.seq (.reg [(81,Y4)]) .leaf) .leaf)))) .leaf))))) .leaf)))))
theorem F39_eq(a0:El Y31):(Zau (mkE tyTab mapTab pkTab [] [] F39M 171 bdTab) (Zai Tryz.f111) Tryz.f111.results F39H F39A F39R (fun y=>y.2.1) (a0,()):Option (El Zct))=F39 a0:=by kernel_rfl
theorem F39_ok:ZaQ Tryz.prog 111 F39S:=Zae (m:=F39M) (fn:=Tryz.f111) (hint:=F39H) (pack:=fun y=>y.2.1) Za2 tab_ok ⟨⟨F51_ok,trivial⟩,⟨F52_ok,trivial⟩,⟨F50_ok,trivial⟩,trivial⟩ fun x z h=>(F39_eq x.1).trans h
def F54: (El Y3)->(El Y3)->(El Y3)->Option (El Y4):=fun a0 a1 a2=>Option.bind (bif decide (a1<=a0) then some (decide (a0<=a2)) else some false) fun x0=>some x0
abbrev F54A:Zam:=(.cons (.pd Y3) (.cons (.pd Y3) (.cons (.pd Y3) .nil)))
abbrev F54R:Zam:=(.cons (.pd Y4) .nil)
def F54S:Tr.Spec:= {args:=F54A,res:=F54R,fns:=[],α:=El Y4,f:=fun x=>F54 x.1 x.2.1 x.2.2.1,unp:=fun z=>(((),(),(),()),(z,())) }
def F54M:List (Nat×List Tr.Spec):=[]
def F54H:ZaT:=(.seq .leaf (.seq (.reg [(6,Y4)]) .leaf))
theorem F54_eq(a0:El Y3)(a1:El Y3)(a2:El Y3):(Zau (mkE tyTab mapTab pkTab [] [] F54M 15 bdTab) (Zai Tryz.f129) Tryz.f129.results F54H F54A F54R (fun y=>y.2.1) (a0,a1,a2,()):Option (El Y4))=F54 a0 a1 a2:=by kernel_rfl
theorem F54_ok:ZaQ Tryz.prog 129 F54S:=Zae (m:=F54M) (fn:=Tryz.f129) (hint:=F54H) (pack:=fun y=>y.2.1) Za2 tab_ok trivial fun x z h=>(F54_eq x.1 x.2.1 x.2.2.1).trans h
def F53: (El Y29)->Option (El Y3×El Y37):=fun a0=>
 Option.bind
 ((F54 a0.2.1 (0:Int) (1000000:Int)).bind fun x0=>
 bif !x0 then some true
 else
 (F54 a0.2.2.1 (0:Int) (86400:Int)).bind fun x1=>
 bif !x1 then some true else (F54 a0.2.2.2.1 (0:Int) (1000000:Int)).bind fun x2=>some !x2)
 fun x3=>
 bif x3 then some ((-1:Int),(2:Int))
 else
 bif decide ((16:Int)< (↑(List.length a0.1):Int)) then some ((0:Int),(5:Int))
 else
 Option.bind
 (run
 (fun s4=>
 bif decide (s4.2< (↑(List.length a0.1):Int)) then
 (idx a0.1 s4.2).bind fun x5=>
 (F30 x5.1).bind fun x6=>
 bif !x6 then some (.inr (.inr (s4.2,(12:Int))))
 else
 bif Option.getD (ZaL (Zap Y9) x5.1 s4.1) (false) then some (.inr (.inr (s4.2,(6:Int))))
 else
 Option.bind
 ((F54 x5.2.1 (0:Int) (1000000:Int)).bind fun x7=>
 bif !x7 then some true
 else
 (F54 x5.2.2.1 (1:Int) (8:Int)).bind fun x8=>
 bif !x8 then some true
 else
 (F54 x5.2.2.2.1 (1:Int) (16:Int)).bind fun x9=>
 bif !x9 then some true
 else
 (F54 x5.2.2.2.2.1 (0:Int) (86400:Int)).bind fun x10=>
 bif !x10 then some true else (F54 x5.2.2.2.2.2.1 (1:Int) (255:Int)).bind fun x11=>some !x11)
 fun x12=>
 bif x12 then some (.inr (.inr (s4.2,(2:Int))))
 else some (.inl (Za9 (Zap Y9) x5.1 true s4.1,IntKind.wrap .i64 (s4.2+(1:Int))))
 else some (.inr (.inl ())))
 ([],(0:Int)))
 fun x13=>Sum.elim (fun _=>some ((0:Int),(0:Int))) (fun y15=>some (y15.1,y15.2)) x13
abbrev F53A:Zam:=(.cons (.pd Y29) .nil)
abbrev F53R:Zam:=(.cons (.pd Y3) (.cons (.pd Y37) .nil))
def F53S:Tr.Spec:= {args:=F53A,res:=F53R,fns:=[],α:=El Y3×El Y37,f:=fun x=>F53 x.1,unp:=fun z=>(((),()),(z.1,z.2,())) }
def F53M:List (Nat×List Tr.Spec):=[(124,[F30S]),(129,[F54S])]
def F53H:ZaT:=(.seq .leaf (.seq (.seq (.reg [(22,Y4)]) .leaf) (.seq .leaf (.seq .leaf (.seq (.seq .leaf (.lp ⟨[(4,(.map Y9 Y4)),(31,(.pd Y3))],[],[29,30],[],[],[]⟩ [((.exit 0),⟨[],[],[],[],[],[]⟩),(.ret,⟨[(2,(.pd Y3)),(3,(.pd Y37))],[],[],[],[],[]⟩)] (.seq .leaf (.seq .leaf (.seq (.seq .leaf (.seq .leaf (.seq .leaf (.seq (.seq (.reg [(73,Y4)]) .leaf) .leaf)))) .leaf))))) .leaf)))))
theorem F53_eq(a0:El Y29):(Zau (mkE tyTab mapTab pkTab [] [] F53M 79 bdTab) (Zai Tryz.f112) Tryz.f112.results F53H F53A F53R (fun y=>(y.2.1,y.2.2.1)) (a0,()):Option (El Y3×El Y37))=F53 a0:=by kernel_rfl
theorem F53_ok:ZaQ Tryz.prog 112 F53S:=Zae (m:=F53M) (fn:=Tryz.f112) (hint:=F53H) (pack:=fun y=>(y.2.1,y.2.2.1)) Za2 tab_ok ⟨⟨F30_ok,trivial⟩,⟨F54_ok,trivial⟩,trivial⟩ fun x z h=>(F53_eq x.1).trans h
def F21: (El Y26)->(El Y3)->Option (El Y3×El Y37):=fun a0 a1=>
 Option.bind
 (run
 (fun s0=>
 bif decide (s0.2< (↑(List.length a0):Int)) then
 (idx a0 s0.2).bind fun x1=>
 Option.bind
 (bif decide (x1.1< (0:Int)) then some (decide (x1.1< (0:Int)))
 else
 Option.bind
 (bif decide (a1<=x1.1) then some (decide (a1<=x1.1))
 else
 Option.bind
 (bif decide (x1.2.1< (0:Int)) then some (decide (x1.2.1< (0:Int)))
 else
 Option.bind (bif decide (a1<=x1.2.1) then some (decide (a1<=x1.2.1)) else some (decide (x1.1=x1.2.1))) fun x2=>
 some x2)
 fun x3=>some x3)
 fun x4=>some x4)
 fun x5=>
 bif x5 then some (.inr (.inr (s0.2,(9:Int))))
 else
 Option.bind
 (bif decide (x1.2.2.1< (1:Int)) then some (decide (x1.2.2.1< (1:Int)))
 else some (decide ((14400:Int)<x1.2.2.1)))
 fun x6=>
 bif x6 then some (.inr (.inr (s0.2,(2:Int))))
 else
 bif Option.getD (ZaL (Zap Zkb) (x1.1,x1.2.1,x1.2.2.2.1,()) s0.1) (false) then some (.inr (.inr (s0.2,(6:Int))))
 else some (.inl (Za9 (Zap Zkb) (x1.1,x1.2.1,x1.2.2.2.1,()) true s0.1,IntKind.wrap .i64 (s0.2+(1:Int))))
 else some (.inr (.inl ())))
 ([],(0:Int)))
 fun x7=>Sum.elim (fun _=>some ((0:Int),(0:Int))) (fun y9=>some (y9.1,y9.2)) x7
abbrev F21A:Zam:=(.cons (.pd Y26) (.cons (.pd Y3) .nil))
abbrev F21R:Zam:=(.cons (.pd Y3) (.cons (.pd Y37) .nil))
def F21S:Tr.Spec:= {args:=F21A,res:=F21R,fns:=[],α:=El Y3×El Y37,f:=fun x=>F21 x.1 x.2.1,unp:=fun z=>(((),(),()),(z.1,z.2,())) }
def F21M:List (Nat×List Tr.Spec):=[]
def F21H:ZaT:=(.seq .leaf (.seq .leaf (.seq (.seq .leaf (.lp ⟨[(6,(.map Zkb Y4)),(13,(.pd Y3))],[],[1,11,12],[],[],[]⟩ [((.exit 0),⟨[],[],[],[],[],[]⟩),(.ret,⟨[(4,(.pd Y3)),(5,(.pd Y37))],[],[],[],[],[]⟩)] (.seq .leaf (.seq .leaf (.seq (.seq .leaf (.seq .leaf (.seq (.seq (.seq .leaf (.cnd (some (⟨[],[],[1,6,7,8,9,11,12,13],[],[],[]⟩,[(.normal,⟨[(25,(.pd Y4))],[],[1,6,7,8,9,11,12,13],[],[],[]⟩)])) .leaf (.seq .leaf (.cnd (some (⟨[],[],[1,6,7,8,9,11,12,13],[],[],[]⟩,[(.normal,⟨[(25,(.pd Y4))],[],[1,6,7,8,9,11,12,13],[],[],[]⟩)])) .leaf (.seq .leaf (.cnd (some (⟨[],[],[1,6,7,8,9,11,12,13],[],[],[]⟩,[(.normal,⟨[(25,(.pd Y4))],[],[1,6,7,8,9,11,12,13],[],[],[]⟩)])) .leaf (.seq .leaf (.cnd (some (⟨[],[],[1,6,7,8,9,11,12,13],[],[],[]⟩,[(.normal,⟨[(25,(.pd Y4))],[],[1,6,7,8,9,11,12,13],[],[],[]⟩)])) .leaf .leaf)))))))) (.cnd none .leaf (.seq (.seq .leaf (.cnd (some (⟨[],[],[1,6,7,9,11,12,13],[],[],[]⟩,[(.normal,⟨[(46,(.pd Y4))],[],[1,6,7,9,11,12,13],[],[],[]⟩)])) .leaf .leaf)) .leaf))) .leaf))) .leaf))))) .leaf)))
theorem F21_eq(a0:El Y26)(a1:El Y3):(Zau (mkE tyTab mapTab pkTab [] [] F21M 62 bdTab) (Zai Tryz.f145) Tryz.f145.results F21H F21A F21R (fun y=>(y.2.1,y.2.2.1)) (a0,a1,()):Option (El Y3×El Y37))=F21 a0 a1:=by kernel_rfl
theorem F21_ok:ZaQ Tryz.prog 145 F21S:=Zae (m:=F21M) (fn:=Tryz.f145) (hint:=F21H) (pack:=fun y=>(y.2.1,y.2.2.1)) Za2 tab_ok trivial fun x z h=>(F21_eq x.1 x.2.1).trans h
def F126: (El Y3)->(El Y3)->Option (El Y4):=fun a0 a1=>Option.bind (bif decide (a0< (0:Int)) then some true else some (decide (a1<=a0))) fun x0=>some x0
abbrev F126A:Zam:=(.cons (.pd Y3) (.cons (.ro Y3) .nil))
abbrev F126R:Zam:=(.cons (.pd Y4) .nil)
def F126S:Tr.Spec:= {args:=F126A,res:=F126R,fns:=[],α:=El Y4,f:=fun x=>F126 x.1 x.2.1,unp:=fun z=>(((),(),()),(z,())) }
def F126M:List (Nat×List Tr.Spec):=[]
def F126H:ZaT:=(.seq .leaf (.seq (.reg [(3,Y4)]) .leaf))
theorem F126_eq(a0:El Y3)(a1:El Y3):(Zau (mkE tyTab mapTab pkTab [] [] F126M 11 bdTab) (Zai Tryz.f174) Tryz.f174.results F126H F126A F126R (fun y=>y.2.1) (a0,a1,()):Option (El Y4))=F126 a0 a1:=by kernel_rfl
theorem F126_ok:ZaQ Tryz.prog 174 F126S:=Zae (m:=F126M) (fn:=Tryz.f174) (hint:=F126H) (pack:=fun y=>y.2.1) Za2 tab_ok trivial fun x z h=>(F126_eq x.1 x.2.1).trans h
def F125: (El Y3)->(El ZmI)->(El Y36)->Option (El Y37):=fun a0 a1 a2=>
 Option.bind (bif decide (a0< (0:Int)) then some true else some (decide ((64:Int)<a0))) fun x0=>
 bif x0 then some (2:Int)
 else
 bif decide ((4096:Int)< (↑(List.length a1):Int)) then some (5:Int)
 else
 Option.bind
 (run
 (fun s1=>
 bif decide (s1< (↑(List.length a1):Int)) then
 (idx a1 s1).bind fun x2=>
 (F126 x2.1 a0).bind fun x3=>
 bif x3 then some (.inr (.inr (9:Int)))
 else
 (F126 x2.2.1 a0).bind fun x4=>
 bif x4 then some (.inr (.inr (9:Int)))
 else
 Option.bind (bif decide (x2.2.2.1< (0:Int)) then some true else some (decide ((1073741824:Int)<x2.2.2.1))) fun x5=>
 bif x5 then some (.inr (.inr (2:Int))) else some (.inl (IntKind.wrap .i64 (s1+(1:Int))))
 else some (.inr (.inl ())))
 (0:Int))
 fun x6=>
 Sum.elim
 (fun _=>
 Option.bind
 (run
 (fun s8=>
 bif decide (s8< (↑(List.length a2):Int)) then
 (idx a2 s8).bind fun x9=>
 (F126 x9 a0).bind fun x10=>
 bif x10 then some (.inr (.inr (9:Int))) else some (.inl (IntKind.wrap .i64 (s8+(1:Int))))
 else some (.inr (.inl ())))
 (0:Int))
 fun x11=>Sum.elim (fun _=>some (0:Int)) (fun y13=>some y13) x11)
 (fun y14=>some y14) x6
abbrev F125A:Zam:=(.cons (.pd Y3) (.cons (.pd ZmI) (.cons (.pd Y36) .nil)))
abbrev F125R:Zam:=(.cons (.pd Y37) .nil)
def F125S:Tr.Spec:= {args:=F125A,res:=F125R,fns:=[],α:=El Y37,f:=fun x=>F125 x.1 x.2.1 x.2.2.1,unp:=fun z=>(((),(),(),()),(z,())) }
def F125M:List (Nat×List Tr.Spec):=[(174,[F126S])]
def F125H:ZaT:=(.seq .leaf (.seq (.seq (.reg [(17,Y4)]) .leaf) (.seq .leaf (.seq .leaf (.seq (.seq .leaf (.lp ⟨[(24,(.pd Y3))],[],[2,7,22,23],[],[],[]⟩ [((.exit 0),⟨[],[],[2,7],[],[],[]⟩),(.ret,⟨[(6,(.pd Y37))],[],[],[],[],[]⟩)] (.seq .leaf (.seq .leaf (.seq (.seq .leaf (.seq .leaf (.seq (.reg [(45,Y4)]) .leaf))) .leaf))))) (.seq (.seq .leaf (.lp ⟨[(49,(.pd Y3))],[],[7,47,48],[],[],[]⟩ [((.exit 2),⟨[],[],[],[],[],[]⟩),(.ret,⟨[(6,(.pd Y37))],[],[],[],[],[]⟩)] .leaf)) .leaf))))))
theorem F125_eq(a0:El Y3)(a1:El ZmI)(a2:El Y36):(Zau (mkE tyTab mapTab pkTab [] [] F125M 57 bdTab) (Zai Tryz.f162) Tryz.f162.results F125H F125A F125R (fun y=>y.2.1) (a0,a1,a2,()):Option (El Y37))=F125 a0 a1 a2:=by kernel_rfl
theorem F125_ok:ZaQ Tryz.prog 162 F125S:=Zae (m:=F125M) (fn:=Tryz.f162) (hint:=F125H) (pack:=fun y=>y.2.1) Za2 tab_ok ⟨⟨F126_ok,trivial⟩,trivial⟩ fun x z h=>(F125_eq x.1 x.2.1 x.2.2.1).trans h
def F130: (El ZmI)->(El Y4)->Option (List (El Y3×List (El ZiF))):=fun a0 a1=>
 Option.bind
 (run
 (fun s0=>
 bif decide (s0.2< (↑(List.length a0):Int)) then
 (idx a0 s0.2).bind fun x1=>
 Option.bind (bif a1 then some (x1.2.1,x1.1,x1.2.2) else some x1) fun x2=>
 Option.bind (Zar (decide (List.length (Option.getD (ZaL (Zap Y3) x2.1 s0.1) [])+List.length [x2]<=Zaq))) fun _=>
 Option.bind (Zar (Tr.holeK Y3 (some x2.1) x2.1)) fun _=>
 some (.inl (Za9 (Zap Y3) x2.1 (Option.getD (ZaL (Zap Y3) x2.1 s0.1) []++[x2]) s0.1,IntKind.wrap .i64 (s0.2+(1:Int))))
 else some (.inr s0.1))
 ([],(0:Int)))
 fun x5=>some x5
abbrev F130A:Zam:=(.cons (.pd ZmI) (.cons (.pd Y4) .nil))
abbrev F130R:Zam:=(.cons (.mrows Y3 ZiF) .nil)
def F130S:Tr.Spec:= {args:=F130A,res:=F130R,fns:=[],α:=List (El Y3×List (El ZiF)),f:=fun x=>F130 x.1 x.2.1,unp:=fun z=>(((),(),()),(z,())) }
def F130M:List (Nat×List Tr.Spec):=[]
def F130H:ZaT:=(.seq .leaf (.seq .leaf (.seq (.seq .leaf (.lp ⟨[(5,(.mrows Y3 ZiF)),(11,(.pd Y3))],[],[1,9,10],[],[],[]⟩ [((.exit 0),⟨[(5,(.mrows Y3 ZiF))],[],[],[],[],[]⟩)] (.seq .leaf (.seq .leaf (.seq (.seq .leaf (.seq (.seq .leaf (.cnd (some (⟨[],[],[1,5,9,10,11],[],[],[]⟩,[(.normal,⟨[(7,(.var ZiF (.pd ZiF)))],[],[1,5,9,10,11],[],[],[]⟩)])) .leaf .leaf)) .leaf)) .leaf))))) .leaf)))
theorem F130_eq(a0:El ZmI)(a1:El Y4):(Zau (mkE tyTab mapTab pkTab [249] [] F130M 34 bdTab) (Zai Tryz.f163) Tryz.f163.results F130H F130A F130R (fun y=>y.2.1) (a0,a1,()):Option (List (El Y3×List (El ZiF))))=F130 a0 a1:=by kernel_rfl
theorem F130_ok:ZaQ Tryz.prog 163 F130S:=Zae (m:=F130M) (fn:=Tryz.f163) (hint:=F130H) (pack:=fun y=>y.2.1) Za2 tab_ok trivial fun x z h=>(F130_eq x.1 x.2.1).trans h
def F128: (El Zsk)->Option (El Y36):=fun a0=>
 Option.bind
 (Zar
 (decide
 ((0:El (Tr.Ty.int .i64))<=(↑(List.length a0):Int)/\
 (↑(List.length a0):Int)<=(↑(List.length a0):Int)/\(↑(List.length a0):Int)<=(↑Zaq:El (Tr.Ty.int .i64)))))
 fun _=>
 Option.bind
 (run
 (fun s1=>
 bif decide (s1.2< (↑(List.length a0):Int)) then
 (idx a0 s1.2).bind fun x2=>
 (inb s1.2 (List.length s1.1)).bind fun x3=>
 Option.bind s1.1[x3]? fun _=>some (.inl (List.set s1.1 x3 x2.2.1,IntKind.wrap .i64 (s1.2+(1:Int))))
 else some (.inr s1.1))
 (List.replicate (Int.toNat (↑(List.length a0):Int)) ((0:Int)),(0:Int)))
 fun x5=>some x5
abbrev F128A:Zam:=(.cons (.pd Zsk) .nil)
abbrev F128R:Zam:=(.cons (.pd Y36) .nil)
def F128S:Tr.Spec:= {args:=F128A,res:=F128R,fns:=[],α:=El Y36,f:=fun x=>F128 x.1,unp:=fun z=>(((),()),(z,())) }
def F128M:List (Nat×List Tr.Spec):=[]
def F128H:ZaT:=(.seq .leaf (.seq .leaf (.seq (.seq .leaf (.lp ⟨[(3,(.own Y3 false)),(11,(.pd Y3))],[],[9,10],[],[],[]⟩ [((.exit 0),⟨[(3,(.own Y3 false))],[],[],[],[],[]⟩)] .leaf)) .leaf)))
theorem F128_eq(a0:El Zsk):(Zau (mkE tyTab mapTab pkTab [] [] F128M 23 bdTab) (Zai Tryz.f164) Tryz.f164.results F128H F128A F128R (fun y=>y.2.1) (a0,()):Option (El Y36))=F128 a0:=by kernel_rfl
theorem F128_ok:ZaQ Tryz.prog 164 F128S:=Zae (m:=F128M) (fn:=Tryz.f164) (hint:=F128H) (pack:=fun y=>y.2.1) Za2 tab_ok trivial fun x z h=>(F128_eq x.1).trans h
def F129: (El Zg5)->(El Zg5)->Option (El Y4):=fun a0 a1=>
 Option.bind
 (bif decide (a0.2.1<a1.2.1) then some true
 else bif decide (a0.2.1=a1.2.1) then some (decide (a0.2.2.1<a1.2.2.1)) else some false)
 fun x0=>some x0
abbrev F129A:Zam:=(.cons (.pd Zg5) (.cons (.pd Zg5) .nil))
abbrev F129R:Zam:=(.cons (.pd Y4) .nil)
def F129S:Tr.Spec:= {args:=F129A,res:=F129R,fns:=[],α:=El Y4,f:=fun x=>F129 x.1 x.2.1,unp:=fun z=>(((),(),()),(z,())) }
def F129M:List (Nat×List Tr.Spec):=[]
def F129H:ZaT:=(.seq .leaf (.seq (.reg [(4,Y4)]) .leaf))
theorem F129_eq(a0:El Zg5)(a1:El Zg5):(Zau (mkE tyTab mapTab pkTab [] [] F129M 24 bdTab) (Zai Tryz.f176) Tryz.f176.results F129H F129A F129R (fun y=>y.2.1) (a0,a1,()):Option (El Y4))=F129 a0 a1:=by kernel_rfl
theorem F129_ok:ZaQ Tryz.prog 176 F129S:=Zae (m:=F129M) (fn:=Tryz.f176) (hint:=F129H) (pack:=fun y=>y.2.1) Za2 tab_ok trivial fun x z h=>(F129_eq x.1 x.2.1).trans h
def F26: (Tz4)->(El Y3)->(El Y3)->Option (Tz4×El Y4):=fun a0 a1 a2=>
 (inb a1 (List.length a0.2.1)).bind fun x0=>
 Option.bind a0.2.1[x0]? fun x1=>
 (inb a2 (List.length a0.2.1)).bind fun x2=>
 Option.bind a0.2.1[x2]? fun x3=>
 (F129 x1.1 x3.1).bind fun x4=>
 bif x4 then some (((),a0.2.1,a0.2.2.1,()),true)
 else
 (F129 x3.1 x1.1).bind fun x5=>
 bif x5 then some (((),a0.2.1,a0.2.2.1,()),false) else some (((),a0.2.1,a0.2.2.1,()),decide (x1.2.1<x3.2.1))
abbrev F26A:Zam:=(.cons Pz8 (.cons (.pd Y3) (.cons (.pd Y3) .nil)))
abbrev F26R:Zam:=(.cons (.pd Y4) .nil)
def F26S:Tr.Spec:= {args:=F26A,res:=F26R,fns:=[],α:=Tz4×El Y4,f:=fun x=>F26 x.1 x.2.1 x.2.2.1,unp:=fun z=>((z.1,(),(),()),(z.2,())) }
def F26M:List (Nat×List Tr.Spec):=[(176,[F129S])]
def F26H:ZaT:= .leaf
theorem F26_eq(a0:Tz4)(a1:El Y3)(a2:El Y3):(Zau (mkE tyTab mapTab pkTab [] [] F26M 46 bdTab) (Zai Tryz.f182) Tryz.f182.results F26H F26A F26R (fun y=>(y.1.1,y.2.1)) (a0,a1,a2,()):Option (Tz4×El Y4))=F26 a0 a1 a2:=by kernel_rfl
theorem F26_ok:ZaQ Tryz.prog 182 F26S:=Zae (m:=F26M) (fn:=Tryz.f182) (hint:=F26H) (pack:=fun y=>(y.1.1,y.2.1)) Za2 tab_ok ⟨⟨F129_ok,trivial⟩,trivial⟩ fun x z h=>(F26_eq x.1 x.2.1 x.2.2.1).trans h
def F28: (Tz4)->(El Y3)->(El Y3)->Option (Tz4):=fun a0 a1 a2=>
 (inb a2 (List.length a0.2.1)).bind fun x0=>
 Option.bind a0.2.1[x0]? fun x1=>
 (inb a1 (List.length a0.2.1)).bind fun x2=>
 Option.bind a0.2.1[x2]? fun x3=>
 (inb a1 (List.length a0.2.1)).bind fun x4=>
 Option.bind a0.2.1[x4]? fun _=>
 (inb a2 (List.length (List.set a0.2.1 x4 x1))).bind fun x6=>
 Option.bind (List.set a0.2.1 x4 x1)[x6]? fun _=>some ((),List.set (List.set a0.2.1 x4 x1) x6 x3,a0.2.2.1,())
abbrev F28A:Zam:=(.cons Pz8 (.cons (.pd Y3) (.cons (.pd Y3) .nil)))
abbrev F28R:Zam:= .nil
def F28S:Tr.Spec:= {args:=F28A,res:=F28R,fns:=[],α:=Tz4,f:=fun x=>F28 x.1 x.2.1 x.2.2.1,unp:=fun z=>((z,(),(),()),()) }
def F28M:List (Nat×List Tr.Spec):=[(176,[F129S])]
def F28H:ZaT:= .leaf
theorem F28_eq(a0:Tz4)(a1:El Y3)(a2:El Y3):(Zau (mkE tyTab mapTab pkTab [] [] F28M 32 bdTab) (Zai Tryz.f183) Tryz.f183.results F28H F28A F28R (fun y=>y.1.1) (a0,a1,a2,()):Option (Tz4))=F28 a0 a1 a2:=by kernel_rfl
theorem F28_ok:ZaQ Tryz.prog 183 F28S:=Zae (m:=F28M) (fn:=Tryz.f183) (hint:=F28H) (pack:=fun y=>y.1.1) Za2 tab_ok ⟨⟨F129_ok,trivial⟩,trivial⟩ fun x z h=>(F28_eq x.1 x.2.1 x.2.2.1).trans h
def F25: (Tz4)->(El Zg5)->Option (Tz4):=fun a0 a1=>
 Option.bind (Zar (decide (List.length a0.2.1+List.length [(a1,a0.2.2.1,())]<=Zaq))) fun _=>
 Option.bind
 (run
 (fun s1=>
 bif decide ((0:Int)<s1.2) then
 Option.bind
 (F26 ((),s1.1.2.1,s1.1.2.2.1,()) s1.2
 (IntKind.wrap .i64 (Int.tdiv (IntKind.wrap .i64 (s1.2 - (1:Int))) (2:Int))))
 fun x2=>
 bif x2.2 then
 Option.bind
 (F28 ((),x2.1.2.1,x2.1.2.2.1,()) s1.2
 (IntKind.wrap .i64 (Int.tdiv (IntKind.wrap .i64 (s1.2 - (1:Int))) (2:Int))))
 fun x3=>some (.inl (((),x3.2.1,x3.2.2.1,()),IntKind.wrap .i64 (Int.tdiv (IntKind.wrap .i64 (s1.2 - (1:Int))) (2:Int))))
 else some (.inr ((),x2.1.2.1,x2.1.2.2.1,()))
 else some (.inr ((),s1.1.2.1,s1.1.2.2.1,())))
 (((),a0.2.1++[(a1,a0.2.2.1,())],IntKind.wrap .i64 (a0.2.2.1+(1:Int)),()),
 IntKind.wrap .i64 ((↑(List.length (a0.2.1++[(a1,a0.2.2.1,())])):Int) - (1:Int))))
 fun x4=>some ((),x4.2.1,x4.2.2.1,())
abbrev F25A:Zam:=(.cons Pz8 (.cons (.pd Zg5) .nil))
abbrev F25R:Zam:= .nil
def F25S:Tr.Spec:= {args:=F25A,res:=F25R,fns:=[],α:=Tz4,f:=fun x=>F25 x.1 x.2.1,unp:=fun z=>((z,(),()),()) }
def F25M:List (Nat×List Tr.Spec):=[(176,[F129S]),(182,[F26S]),(183,[F28S])]
def F25H:ZaT:=(.seq .leaf (.seq .leaf (.seq .leaf (.seq .leaf (.seq .leaf (.lp ⟨[(0,Pz7),(4,(.pd Y3))],[],[],[],[],[]⟩ [((.exit 0),⟨[(0,Pz7)],[],[],[],[],[]⟩)] .leaf))))))
theorem F25_eq(a0:Tz4)(a1:El Zg5):(Zau (mkE tyTab mapTab pkTab [] [] F25M 54 bdTab) (Zai Tryz.f177) Tryz.f177.results F25H F25A F25R (fun y=>y.1.1) (a0,a1,()):Option (Tz4))=F25 a0 a1:=by kernel_rfl
theorem F25_ok:ZaQ Tryz.prog 177 F25S:=Zae (m:=F25M) (fn:=Tryz.f177) (hint:=F25H) (pack:=fun y=>y.1.1) Za2 tab_ok ⟨⟨F129_ok,trivial⟩,⟨F26_ok,trivial⟩,⟨F28_ok,trivial⟩,trivial⟩ fun x z h=>(F25_eq x.1 x.2.1).trans h
def F22: (Tz4)->Option (Tz4×El Y3):=fun a0=>some (((),a0.2.1,a0.2.2.1,()),(↑(List.length a0.2.1):Int))
abbrev F22A:Zam:=(.cons Pz8 .nil)
abbrev F22R:Zam:=(.cons (.pd Y3) .nil)
def F22S:Tr.Spec:= {args:=F22A,res:=F22R,fns:=[],α:=Tz4×El Y3,f:=fun x=>F22 x.1,unp:=fun z=>((z.1,()),(z.2,())) }
def F22M:List (Nat×List Tr.Spec):=[(176,[F129S])]
def F22H:ZaT:= .leaf
theorem F22_eq(a0:Tz4):(Zau (mkE tyTab mapTab pkTab [] [] F22M 10 bdTab) (Zai Tryz.f187) Tryz.f187.results F22H F22A F22R (fun y=>(y.1.1,y.2.1)) (a0,()):Option (Tz4×El Y3))=F22 a0:=by kernel_rfl
theorem F22_ok:ZaQ Tryz.prog 187 F22S:=Zae (m:=F22M) (fn:=Tryz.f187) (hint:=F22H) (pack:=fun y=>(y.1.1,y.2.1)) Za2 tab_ok ⟨⟨F129_ok,trivial⟩,trivial⟩ fun x z h=>(F22_eq x.1).trans h
def F23: (Tz4)->Option Tz3:=fun a0=>
 (F22 ((),a0.2.1,a0.2.2.1,())).bind fun x0=>
 bif decide (x0.2=(0:Int)) then some (((),x0.1.2.1,x0.1.2.2.1,()),((0:Int),(0:Int),(0:Int),()),false)
 else (inb (0:Int) (List.length x0.1.2.1)).bind fun x1=>Option.bind x0.1.2.1[x1]? fun x2=>some (((),x0.1.2.1,x0.1.2.2.1,()),x2.1,true)
abbrev F23A:Zam:=(.cons Pz8 .nil)
abbrev F23R:Zam:=(.cons (.pd Zg5) (.cons (.pd Y4) .nil))
def F23S:Tr.Spec:= {args:=F23A,res:=F23R,fns:=[],α:=Tz4×El Zg5×El Y4,f:=fun x=>F23 x.1,unp:=fun z=>((z.1,()),(z.2.1,z.2.2,())) }
def F23M:List (Nat×List Tr.Spec):=[(176,[F129S]),(187,[F22S])]
def F23H:ZaT:= .leaf
theorem F23_eq(a0:Tz4):(Zau (mkE tyTab mapTab pkTab [] [] F23M 16 bdTab) (Zai Tryz.f184) Tryz.f184.results F23H F23A F23R (fun y=>(y.1.1,y.2.1,y.2.2.1)) (a0,()):Option Tz3)=F23 a0:=by kernel_rfl
theorem F23_ok:ZaQ Tryz.prog 184 F23S:=Zae (m:=F23M) (fn:=Tryz.f184) (hint:=F23H) (pack:=fun y=>(y.1.1,y.2.1,y.2.2.1)) Za2 tab_ok ⟨⟨F129_ok,trivial⟩,⟨F22_ok,trivial⟩,trivial⟩ fun x z h=>(F23_eq x.1).trans h
def F27: (Tz4)->Option (Tz4):=fun a0=>
 Option.bind
 (run
 (fun s0=>
 bif decide ((↑(List.length s0.1.2.1):Int)<=IntKind.wrap .i64 (IntKind.wrap .i64 ((2:Int) *s0.2)+(1:Int))) then
 some (.inr ((),s0.1.2.1,s0.1.2.2.1,()))
 else
 bif
 decide
 (IntKind.wrap .i64 (IntKind.wrap .i64 (IntKind.wrap .i64 ((2:Int) *s0.2)+(1:Int))+(1:Int))<
 (↑(List.length s0.1.2.1):Int)) then
 Option.bind
 (F26 ((),s0.1.2.1,s0.1.2.2.1,())
 (IntKind.wrap .i64 (IntKind.wrap .i64 (IntKind.wrap .i64 ((2:Int) *s0.2)+(1:Int))+(1:Int)))
 (IntKind.wrap .i64 (IntKind.wrap .i64 ((2:Int) *s0.2)+(1:Int))))
 fun x1=>
 Option.bind
 (bif x1.2 then
 some
 (((),x1.1.2.1,x1.1.2.2.1,()),
 IntKind.wrap .i64 (IntKind.wrap .i64 (IntKind.wrap .i64 ((2:Int) *s0.2)+(1:Int))+(1:Int)))
 else some (((),x1.1.2.1,x1.1.2.2.1,()),IntKind.wrap .i64 (IntKind.wrap .i64 ((2:Int) *s0.2)+(1:Int))))
 fun x2=>
 (F26 ((),x2.1.2.1,x2.1.2.2.1,()) x2.2 s0.2).bind fun x3=>
 bif !x3.2 then some (.inr ((),x3.1.2.1,x3.1.2.2.1,()))
 else
 (F28 ((),x3.1.2.1,x3.1.2.2.1,()) s0.2 x2.2).bind fun x4=>
 some (.inl (((),x4.2.1,x4.2.2.1,()),x2.2))
 else
 Option.bind
 (F26 ((),s0.1.2.1,s0.1.2.2.1,()) (IntKind.wrap .i64 (IntKind.wrap .i64 ((2:Int) *s0.2)+(1:Int))) s0.2)
 fun x5=>
 bif !x5.2 then some (.inr ((),x5.1.2.1,x5.1.2.2.1,()))
 else
 Option.bind
 (F28 ((),x5.1.2.1,x5.1.2.2.1,()) s0.2
 (IntKind.wrap .i64 (IntKind.wrap .i64 ((2:Int) *s0.2)+(1:Int))))
 fun x6=>some (.inl (((),x6.2.1,x6.2.2.1,()),IntKind.wrap .i64 (IntKind.wrap .i64 ((2:Int) *s0.2)+(1:Int)))))
 (((),a0.2.1,a0.2.2.1,()),(0:Int)))
 fun x7=>some ((),x7.2.1,x7.2.2.1,())
abbrev F27A:Zam:=(.cons Pz8 .nil)
abbrev F27R:Zam:= .nil
def F27S:Tr.Spec:= {args:=F27A,res:=F27R,fns:=[],α:=Tz4,f:=fun x=>F27 x.1,unp:=fun z=>((z,()),()) }
def F27M:List (Nat×List Tr.Spec):=[(176,[F129S]),(182,[F26S]),(183,[F28S])]
def F27H:ZaT:=(.seq .leaf (.lp ⟨[(0,Pz7),(2,(.pd Y3))],[],[],[],[],[]⟩ [(.ret,⟨[(0,Pz7)],[],[],[],[],[]⟩)] (.seq .leaf (.seq .leaf (.seq (.seq .leaf (.cnd (some (⟨[],[],[2],[],[],[]⟩,[(.normal,⟨[(0,Pz7),(3,(.pd Y3))],[],[2],[],[],[]⟩)])) .leaf .leaf)) .leaf)))))
theorem F27_eq(a0:Tz4):(Zau (mkE tyTab mapTab pkTab [] [] F27M 41 bdTab) (Zai Tryz.f185) Tryz.f185.results F27H F27A F27R (fun y=>y.1.1) (a0,()):Option (Tz4))=F27 a0:=by kernel_rfl
theorem F27_ok:ZaQ Tryz.prog 185 F27S:=Zae (m:=F27M) (fn:=Tryz.f185) (hint:=F27H) (pack:=fun y=>y.1.1) Za2 tab_ok ⟨⟨F129_ok,trivial⟩,⟨F26_ok,trivial⟩,⟨F28_ok,trivial⟩,trivial⟩ fun x z h=>(F27_eq x.1).trans h
def F24: (Tz4)->Option Tz3:=fun a0=>
 (F23 ((),a0.2.1,a0.2.2.1,())).bind fun x0=>
 bif !x0.2.2 then some (((),x0.1.2.1,x0.1.2.2.1,()),x0.2.1,false)
 else
 Option.bind (F28 ((),x0.1.2.1,x0.1.2.2.1,()) (0:Int) (IntKind.wrap .i64 ((↑(List.length x0.1.2.1):Int) - (1:Int))))
 fun x1=>
 Option.bind (sliceB (List.length x1.2.1) (List.length x1.2.1) none (some (IntKind.wrap .i64 ((↑(List.length x0.1.2.1):Int) - (1:Int)))))
 fun x2=>
 (F27 ((),List.take x2.2 x1.2.1,x1.2.2.1,())).bind fun x3=>some (((),x3.2.1,x3.2.2.1,()),x0.2.1,true)
abbrev F24A:Zam:=(.cons Pz8 .nil)
abbrev F24R:Zam:=(.cons (.pd Zg5) (.cons (.pd Y4) .nil))
def F24S:Tr.Spec:= {args:=F24A,res:=F24R,fns:=[],α:=Tz4×El Zg5×El Y4,f:=fun x=>F24 x.1,unp:=fun z=>((z.1,()),(z.2.1,z.2.2,())) }
def F24M:List (Nat×List Tr.Spec):=[(176,[F129S]),(183,[F28S]),(184,[F23S]),(185,[F27S])]
def F24H:ZaT:= .leaf
theorem F24_eq(a0:Tz4):(Zau (mkE tyTab mapTab pkTab [] [] F24M 36 bdTab) (Zai Tryz.f178) Tryz.f178.results F24H F24A F24R (fun y=>(y.1.1,y.2.1,y.2.2.1)) (a0,()):Option Tz3)=F24 a0:=by kernel_rfl
theorem F24_ok:ZaQ Tryz.prog 178 F24S:=Zae (m:=F24M) (fn:=Tryz.f178) (hint:=F24H) (pack:=fun y=>(y.1.1,y.2.1,y.2.2.1)) Za2 tab_ok ⟨⟨F129_ok,trivial⟩,⟨F28_ok,trivial⟩,⟨F23_ok,trivial⟩,⟨F27_ok,trivial⟩,trivial⟩ fun x z h=>(F24_eq x.1).trans h
def F29: (Unit)->Option (Tz4):=fun _=>some ((),[],(0:Int),())
abbrev F29A:Zam:=(.cons (.fn 176 .nil) .nil)
abbrev F29R:Zam:=(.cons Pz8 .nil)
def F29S:Tr.Spec:= {args:=F29A,res:=F29R,fns:=[176],α:=Tz4,f:=fun x=>F29 x.1,unp:=fun z=>(((),()),(z,())) }
def F29M:List (Nat×List Tr.Spec):=[(176,[F129S])]
def F29H:ZaT:= .leaf
theorem F29_eq(a0:Unit):(Zau (mkE tyTab mapTab pkTab [] [] F29M 8 bdTab) (Zai Tryz.f175) Tryz.f175.results F29H F29A F29R (fun y=>y.2.1) (a0,()):Option (Tz4))=F29 a0:=by kernel_rfl
theorem F29_ok:ZaQ Tryz.prog 175 F29S:=Zae (m:=F29M) (fn:=Tryz.f175) (hint:=F29H) (pack:=fun y=>y.2.1) Za2 tab_ok ⟨⟨F129_ok,trivial⟩,trivial⟩ fun x z h=>(F29_eq x.1).trans h
def F127: (El Y3)->(List (El Y3×List (El ZiF)))->(El Y3)->Option (List (El Y3×List (El ZiF)) ×El Zsk):=fun a0 a1 a2=>
 Option.bind (Zar (decide ((0:El (Tr.Ty.int .i64))<=a0/\a0<=a0/\a0<=(↑Zaq:El (Tr.Ty.int .i64))))) fun _=>
 Option.bind
 (run
 (fun s1=>
 bif decide (s1.2< (↑(List.length (List.replicate (Int.toNat a0) (((0:Int),(0:Int),(0:Int),())))):Int)) then
 (inb s1.2 (List.length s1.1)).bind fun x2=>
 Option.bind s1.1[x2]? fun _=>some (.inl (List.set s1.1 x2 (s1.2,(-1:Int),(-1:Int),()),IntKind.wrap .i64 (s1.2+(1:Int))))
 else some (.inr s1.1))
 (List.replicate (Int.toNat a0) (((0:Int),(0:Int),(0:Int),())),(0:Int)))
 fun x4=>
 (F29 ()).bind fun x5=>
 (F25 ((),x5.2.1,x5.2.2.1,()) (a2,(0:Int),(0:Int),())).bind fun x6=>
 Option.bind
 (run
 (fun s7=>
 (F24 ((),s7.2.2.1,s7.2.2.2.1,())).bind fun x8=>
 bif !x8.2.2 then some (.inr s7.1)
 else
 (inb x8.2.1.1 (List.length s7.1)).bind fun x9=>
 Option.bind s7.1[x9]? fun x10=>
 bif decide ((0:Int)<=x10.2.2.1) then some (.inl (s7.1,(),x8.1.2.1,x8.1.2.2.1,()))
 else
 (inb x8.2.1.1 (List.length s7.1)).bind fun x11=>
 Option.bind s7.1[x11]? fun _=>
 Option.bind
 (run
 (fun s13=>
 bif decide (s13.2< (↑(List.length (Option.getD (ZaL (Zap Y3) x8.2.1.1 a1) [])):Int)) then
 (inb s13.2 (List.length (Option.getD (ZaL (Zap Y3) x8.2.1.1 a1) []))).bind fun x14=>
 Option.bind (Option.getD (ZaL (Zap Y3) x8.2.1.1 a1) [])[x14]? fun x15=>
 (inb x15.2.1 (List.length (List.set s7.1 x11 x8.2.1))).bind fun x16=>
 Option.bind (List.set s7.1 x11 x8.2.1)[x16]? fun x17=>
 bif decide (x17.2.2.1< (0:Int)) then
 Option.bind
 (F25 ((),s13.1.2.1,s13.1.2.2.1,())
 (x15.2.1,IntKind.wrap .i64 (x8.2.1.2.1+x15.2.2.1),
 IntKind.wrap .i64 (x8.2.1.2.2.1+(1:Int)),()))
 fun x18=>some (.inl (((),x18.2.1,x18.2.2.1,()),IntKind.wrap .i64 (s13.2+(1:Int))))
 else some (.inl (((),s13.1.2.1,s13.1.2.2.1,()),IntKind.wrap .i64 (s13.2+(1:Int))))
 else some (.inr ((),s13.1.2.1,s13.1.2.2.1,())))
 (((),x8.1.2.1,x8.1.2.2.1,()),(0:Int)))
 fun x19=>some (.inl (List.set s7.1 x11 x8.2.1,(),x19.2.1,x19.2.2.1,())))
 (x4,(),x6.2.1,x6.2.2.1,()))
 fun x20=>some (a1,x20)
abbrev F127A:Zam:=(.cons (.pd Y3) (.cons (.mrows Y3 ZiF) (.cons (.pd Y3) .nil)))
abbrev F127R:Zam:=(.cons (.pd Zsk) .nil)
def F127S:Tr.Spec:= {args:=F127A,res:=F127R,fns:=[],α:=List (El Y3×List (El ZiF)) ×El Zsk,f:=fun x=>F127 x.1 x.2.1 x.2.2.1,unp:=fun z=>(((),z.1,(),()),(z.2,())) }
def F127M:List (Nat×List Tr.Spec):=[(175,[F29S]),(176,[F129S]),(177,[F25S]),(178,[F24S])]
def F127H:ZaT:=(.seq .leaf (.seq .leaf (.seq (.seq .leaf (.lp ⟨[(7,(.own Zg5 false)),(18,(.pd Y3))],[],[1,2,17],[],[],[]⟩ [((.exit 0),⟨[(7,(.own Zg5 false))],[],[1,2],[],[],[]⟩)] .leaf)) (.seq .leaf (.seq .leaf (.lp ⟨[(7,(.own Zg5 false)),(9,Pz7)],[],[1],[],[],[]⟩ [(.ret,⟨[(6,(.own Zg5 false))],[],[1],[],[],[]⟩)] (.seq .leaf (.seq .leaf (.seq .leaf (.seq .leaf (.seq .leaf (.lp ⟨[(9,Pz7),(57,(.pd Y3))],[],[1,7,10,55,56],[],[],[]⟩ [((.exit 4),⟨[(9,Pz7)],[],[1,7],[],[],[]⟩)] .leaf))))))))))))
theorem F127_eq(a0:El Y3)(a1:List (El Y3×List (El ZiF)))(a2:El Y3):(Zau (mkE tyTab mapTab pkTab [] [] F127M 82 bdTab) (Zai Tryz.f165) Tryz.f165.results F127H F127A F127R (fun y=>(y.1.2.1,y.2.1)) (a0,a1,a2,()):Option (List (El Y3×List (El ZiF)) ×El Zsk))=F127 a0 a1 a2:=by kernel_rfl
theorem F127_ok:ZaQ Tryz.prog 165 F127S:=Zae (m:=F127M) (fn:=Tryz.f165) (hint:=F127H) (pack:=fun y=>(y.1.2.1,y.2.1)) Za2 tab_ok ⟨⟨F29_ok,trivial⟩,⟨F129_ok,trivial⟩,⟨F25_ok,trivial⟩,⟨F24_ok,trivial⟩,trivial⟩ fun x z h=>(F127_eq x.1 x.2.1 x.2.2.1).trans h
def F124: (El Y3)->(El ZmI)->Option (El Y69×El Y37):=fun a0 a1=>
 (F125 a0 a1 []).bind fun x0=>
 bif !decide (x0=(0:Int)) then some ([],x0)
 else
 (F130 a1 false).bind fun x1=>
 Option.bind (Zar (decide ((0:El (Tr.Ty.int .i64))<=a0/\a0<=a0/\a0<=(↑Zaq:El (Tr.Ty.int .i64))))) fun _=>
 Option.bind
 (run
 (fun s3=>
 bif decide (s3.2.2< (↑(List.length (List.replicate (Int.toNat a0) (([]:List (El Y3))))):Int)) then
 (F127 a0 s3.1 s3.2.2).bind fun x4=>
 (F128 x4.2).bind fun x5=>
 (inb s3.2.2 (List.length s3.2.1)).bind fun x6=>
 Option.bind s3.2.1[x6]? fun _=>some (.inl (x4.1,List.set s3.2.1 x6 x5,IntKind.wrap .i64 (s3.2.2+(1:Int))))
 else some (.inr s3.2.1))
 (x1,List.replicate (Int.toNat a0) (([]:List (El Y3))),(0:Int)))
 fun x8=>some (x8,(0:Int))
abbrev F124A:Zam:=(.cons (.pd Y3) (.cons (.pd ZmI) .nil))
abbrev F124R:Zam:=(.cons (.pd Y69) (.cons (.pd Y37) .nil))
def F124S:Tr.Spec:= {args:=F124A,res:=F124R,fns:=[],α:=El Y69×El Y37,f:=fun x=>F124 x.1 x.2.1,unp:=fun z=>(((),(),()),(z.1,z.2,())) }
def F124M:List (Nat×List Tr.Spec):=[(162,[F125S]),(163,[F130S]),(164,[F128S]),(165,[F127S])]
def F124H:ZaT:=(.seq .leaf (.seq .leaf (.seq .leaf (.seq .leaf (.seq .leaf (.seq (.seq .leaf (.lp ⟨[(7,(.mrows Y3 ZiF)),(8,(.own Y36 false)),(22,(.pd Y3))],[],[0,21],[],[],[]⟩ [((.exit 0),⟨[(8,(.own Y36 false))],[],[],[],[],[]⟩)] .leaf)) .leaf))))))
theorem F124_eq(a0:El Y3)(a1:El ZmI):(Zau (mkE tyTab mapTab pkTab [] [] F124M 35 bdTab) (Zai Tryz.f159) Tryz.f159.results F124H F124A F124R (fun y=>(y.2.1,y.2.2.1)) (a0,a1,()):Option (El Y69×El Y37))=F124 a0 a1:=by kernel_rfl
theorem F124_ok:ZaQ Tryz.prog 159 F124S:=Zae (m:=F124M) (fn:=Tryz.f159) (hint:=F124H) (pack:=fun y=>(y.2.1,y.2.2.1)) Za2 tab_ok ⟨⟨F125_ok,trivial⟩,⟨F130_ok,trivial⟩,⟨F128_ok,trivial⟩,⟨F127_ok,trivial⟩,trivial⟩ fun x z h=>(F124_eq x.1 x.2.1).trans h
def F20: (El Y26)->(El Y3)->(El Y4)->Option (El Y69):=fun a0 a1 a2=>
 Option.bind
 (run
 (fun s0=>
 bif decide (s0.2< (↑(List.length a0):Int)) then
 (idx a0 s0.2).bind fun x1=>
 Option.bind (bif a2 then some !x1.2.2.2.1 else some false) fun x2=>
 bif x2 then some (.inl (s0.1,IntKind.wrap .i64 (s0.2+(1:Int))))
 else
 Option.bind
 (bif !Option.isSome (ZaL (Zap Zkb) (x1.1,x1.2.1,false,()) s0.1) then some true
 else some (decide (x1.2.2.1<Option.getD (ZaL (Zap Zkb) (x1.1,x1.2.1,false,()) s0.1) ((0:Int)))))
 fun x3=>
 bif x3 then some (.inl (Za9 (Zap Zkb) (x1.1,x1.2.1,false,()) x1.2.2.1 s0.1,IntKind.wrap .i64 (s0.2+(1:Int))))
 else some (.inl (s0.1,IntKind.wrap .i64 (s0.2+(1:Int))))
 else some (.inr s0.1))
 ([],(0:Int)))
 fun x4=>
 Option.bind
 (Zar
 (decide ((0:El (Tr.Ty.int .i64))<=(0:Int)/\(0:Int)<=(↑(List.length x4):Int)/\(↑(List.length x4):Int)<=(↑Zaq:El (Tr.Ty.int .i64)))))
 fun _=>
 Tr.drun (fun s6=>bif List.isEmpty s6.2 then(1:Nat) else List.length s6.2)
 (fun s6 i7=>
 bif List.isEmpty s6.2 then some (.inr s6.1)
 else
 Option.bind s6.2[i7]? fun x8=>
 Option.bind (Zar (decide (List.length s6.1+List.length [(x8.1.1,x8.1.2.1,x8.2,())]<=Zaq))) fun _=>
 some (.inl (s6.1++[(x8.1.1,x8.1.2.1,x8.2,())],List.eraseIdx s6.2 i7)))
 (fun o10=>(F124 a1 o10).bind fun x11=>some x11.1) (List.replicate (Int.toNat (0:Int)) (((0:Int),(0:Int),(0:Int),())),x4)
abbrev F20A:Zam:=(.cons (.pd Y26) (.cons (.pd Y3) (.cons (.pd Y4) .nil)))
abbrev F20R:Zam:=(.cons (.pd Y69) .nil)
def F20S:Tr.Spec:= {args:=F20A,res:=F20R,fns:=[],α:=El Y69,f:=fun x=>F20 x.1 x.2.1 x.2.2.1,unp:=fun z=>(((),(),(),()),(z,())) }
def F20M:List (Nat×List Tr.Spec):=[(159,[F124S])]
def F20H:ZaT:=(.seq .leaf (.seq .leaf (.seq (.seq .leaf (.lp ⟨[(7,(.map Zkb Y3)),(21,(.pd Y3))],[],[1,2,19,20],[],[],[]⟩ [((.exit 0),⟨[(7,(.map Zkb Y3))],[],[1],[],[],[]⟩)] (.seq .leaf (.seq .leaf (.seq (.seq .leaf (.seq (.seq (.reg [(30,Y4)]) .leaf) (.seq .leaf (.seq .leaf (.seq (.reg [(49,Y4)]) .leaf))))) .leaf))))) (.seq .leaf (.seq (.seq .leaf (.lpd 59 ⟨[(13,(.own ZiF false)),(59,(.it Zkb Y3))],[],[1],[],[],[]⟩ [((.exit 2),⟨[(13,(.own ZiF false))],[],[1],[],[],[]⟩)] .leaf)) .leaf)))))
theorem F20_eq(a0:El Y26)(a1:El Y3)(a2:El Y4):(Zau (mkE tyTab mapTab pkTab [] [] F20M 81 bdTab) (Zai Tryz.f152) Tryz.f152.results F20H F20A F20R (fun y=>y.2.1) (a0,a1,a2,()):Option (El Y69))=F20 a0 a1 a2:=by kernel_rfl
theorem F20_ok:ZaQ Tryz.prog 152 F20S:=Zae (m:=F20M) (fn:=Tryz.f152) (hint:=F20H) (pack:=fun y=>y.2.1) Za2 tab_ok ⟨⟨F124_ok,trivial⟩,trivial⟩ fun x z h=>(F20_eq x.1 x.2.1 x.2.2.1).trans h
def F3: (El Y36)->Option (El Y3):=fun a0=>
 Option.bind
 (run
 (fun s0=>
 bif decide (s0< (↑(List.length a0):Int)) then
 (idx a0 s0).bind fun x1=>
 bif !decide (x1=(0:Int)) then some (.inr (.inr x1)) else some (.inl (IntKind.wrap .i64 (s0+(1:Int))))
 else some (.inr (.inl ())))
 (0:Int))
 fun x2=>Sum.elim (fun _=>some (0:Int)) (fun y4=>some y4) x2
abbrev F3A:Zam:=(.cons (.pd Y36) .nil)
abbrev F3R:Zam:=(.cons (.pd Y3) .nil)
def F3S:Tr.Spec:= {args:=F3A,res:=F3R,fns:=[],α:=El Y3,f:=fun x=>F3 x.1,unp:=fun z=>(((),()),(z,())) }
def F3M:List (Nat×List Tr.Spec):=[]
def F3H:ZaT:=(.seq .leaf (.seq .leaf (.seq (.seq .leaf (.lp ⟨[(8,(.pd Y3))],[],[3,6,7],[],[],[]⟩ [((.exit 0),⟨[],[],[3],[],[],[]⟩),(.ret,⟨[(2,(.pd Y3))],[],[],[],[],[]⟩)] .leaf)) .leaf)))
theorem F3_eq(a0:El Y36):(Zau (mkE tyTab mapTab pkTab [] [] F3M 18 bdTab) (Zai Tryz.f156) Tryz.f156.results F3H F3A F3R (fun y=>y.2.1) (a0,()):Option (El Y3))=F3 a0:=by kernel_rfl
theorem F3_ok:ZaQ Tryz.prog 156 F3S:=Zae (m:=F3M) (fn:=Tryz.f156) (hint:=F3H) (pack:=fun y=>y.2.1) Za2 tab_ok trivial fun x z h=>(F3_eq x.1).trans h
def F4: (El Y3)->Option (El Y4):=fun a0=>some !decide (a0=a0)
abbrev F4A:Zam:=(.cons (.pd Y3) .nil)
abbrev F4R:Zam:=(.cons (.pd Y4) .nil)
def F4S:Tr.Spec:= {args:=F4A,res:=F4R,fns:=[],α:=El Y4,f:=fun x=>F4 x.1,unp:=fun z=>(((),()),(z,())) }
def F4M:List (Nat×List Tr.Spec):=[]
def F4H:ZaT:= .leaf
theorem F4_eq(a0:El Y3):(Zau (mkE tyTab mapTab pkTab [] [] F4M 6 bdTab) (Zai Tryz.f161) Tryz.f161.results F4H F4A F4R (fun y=>y.2.1) (a0,()):Option (El Y4))=F4 a0:=by kernel_rfl
theorem F4_ok:ZaQ Tryz.prog 161 F4S:=Zae (m:=F4M) (fn:=Tryz.f161) (hint:=F4H) (pack:=fun y=>y.2.1) Za2 tab_ok trivial fun x z h=>(F4_eq x.1).trans h
def F2: (El Y3)->(El Y3)->Option (El Y3):=fun a0 a1=>
 (F4 a0).bind fun x0=>
 (F4 a1).bind fun x1=>
 bif x0 then bif x1 then some (0:Int) else some (-1:Int)
 else bif x1 then some (1:Int) else bif decide (a0<a1) then some (-1:Int) else bif decide (a1<a0) then some (1:Int) else some (0:Int)
abbrev F2A:Zam:=(.cons (.pd Y3) (.cons (.pd Y3) .nil))
abbrev F2R:Zam:=(.cons (.pd Y3) .nil)
def F2S:Tr.Spec:= {args:=F2A,res:=F2R,fns:=[],α:=El Y3,f:=fun x=>F2 x.1 x.2.1,unp:=fun z=>(((),(),()),(z,())) }
def F2M:List (Nat×List Tr.Spec):=[(161,[F4S])]
def F2H:ZaT:= .leaf
theorem F2_eq(a0:El Y3)(a1:El Y3):(Zau (mkE tyTab mapTab pkTab [] [] F2M 20 bdTab) (Zai Tryz.f157) Tryz.f157.results F2H F2A F2R (fun y=>y.2.1) (a0,a1,()):Option (El Y3))=F2 a0 a1:=by kernel_rfl
theorem F2_ok:ZaQ Tryz.prog 157 F2S:=Zae (m:=F2M) (fn:=Tryz.f157) (hint:=F2H) (pack:=fun y=>y.2.1) Za2 tab_ok ⟨⟨F4_ok,trivial⟩,trivial⟩ fun x z h=>(F2_eq x.1 x.2.1).trans h
def F19: (El Y59)->(El Y59)->Option (El Y3):=fun a0 a1=>
 (F2 a0.1 a1.1).bind fun x0=>
 (F2 a0.2.1 a1.2.1).bind fun x1=>
 (F2 a0.2.2.1 a1.2.2.1).bind fun x2=>(F3 [x0,x1,x2]).bind fun x3=>some x3
abbrev F19A:Zam:=(.cons (.pd Y59) (.cons (.pd Y59) .nil))
abbrev F19R:Zam:=(.cons (.pd Y3) .nil)
def F19S:Tr.Spec:= {args:=F19A,res:=F19R,fns:=[],α:=El Y3,f:=fun x=>F19 x.1 x.2.1,unp:=fun z=>(((),(),()),(z,())) }
def F19M:List (Nat×List Tr.Spec):=[(156,[F3S]),(157,[F2S])]
def F19H:ZaT:= .leaf
theorem F19_eq(a0:El Y59)(a1:El Y59):(Zau (mkE tyTab mapTab pkTab [] [] F19M 22 bdTab) (Zai Tryz.f155) Tryz.f155.results F19H F19A F19R (fun y=>y.2.1) (a0,a1,()):Option (El Y3))=F19 a0 a1:=by kernel_rfl
theorem F19_ok:ZaQ Tryz.prog 155 F19S:=Zae (m:=F19M) (fn:=Tryz.f155) (hint:=F19H) (pack:=fun y=>y.2.1) Za2 tab_ok ⟨⟨F3_ok,trivial⟩,⟨F2_ok,trivial⟩,trivial⟩ fun x z h=>(F19_eq x.1 x.2.1).trans h
def F18: (El Y3)->(El Y3)->(El Y3)->(El Y4)->(List (El Y59))->Option (List (El Y59)):=fun a0 a1 a2 a3 a4=>
 Option.bind (bif decide ((0:Int)<a2) then some (decide (a2<=(14400:Int))) else some false) fun x0=>
 bif x0 then Option.bind (Zar (decide (List.length a4+List.length [(a0,a1,a2,a3,())]<=Zaq))) fun _=>some (a4++[(a0,a1,a2,a3,())]) else some a4
abbrev F18A:Zam:=(.cons (.pd Y3) (.cons (.pd Y3) (.cons (.pd Y3) (.cons (.pd Y4) (.cons (.var Y26 (.own Y59 false)) .nil)))))
abbrev F18R:Zam:= .nil
def F18S:Tr.Spec:= {args:=F18A,res:=F18R,fns:=[],α:=List (El Y59),f:=fun x=>F18 x.1 x.2.1 x.2.2.1 x.2.2.2.1 x.2.2.2.2.1,unp:=fun z=>(((),(),(),(),z,()),()) }
def F18M:List (Nat×List Tr.Spec):=[]
def F18H:ZaT:=(.seq (.reg [(14,Y4)]) .leaf)
theorem F18_eq(a0:El Y3)(a1:El Y3)(a2:El Y3)(a3:El Y4)(a4:List (El Y59)):(Zau (mkE tyTab mapTab pkTab [] [] F18M 23 bdTab) (Zai Tryz.f153) Tryz.f153.results F18H F18A F18R (fun y=>y.1.2.2.2.2.1) (a0,a1,a2,a3,a4,()):Option (List (El Y59)))=F18 a0 a1 a2 a3 a4:=by kernel_rfl
theorem F18_ok:ZaQ Tryz.prog 153 F18S:=Zae (m:=F18M) (fn:=Tryz.f153) (hint:=F18H) (pack:=fun y=>y.1.2.2.2.2.1) Za2 tab_ok trivial fun x z h=>(F18_eq x.1 x.2.1 x.2.2.1 x.2.2.2.1 x.2.2.2.2.1).trans h
def F132(a0:List (El Y59))(_:Unit):Option (List (El Y59)):=Tr.sortF F19 a0
abbrev F132A:Zam:=(.cons (.own Y59 true) (.cons (.fn 155 .nil) .nil))
abbrev F132R:Zam:= .nil
def F132S:Tr.Spec:= {args:=F132A,res:=F132R,fns:=[155],α:=List (El Y59),f:=fun x=>F132 x.1 x.2.1,unp:=fun z=>((z,(),()),()) }
theorem F132_ok:ZaQ Tryz.prog 154 F132S:=Tr.sortFunc_ok (ρ:=Tryz.sort154_ren) Tryz.sort154 rfl Tryz.isAgg59 Tryz.sizeOf59 F19_ok
def F17: (El Y26)->(El Y3)->Option (El Y26):=fun a0 a1=>
 (F20 a0 a1 false).bind fun x0=>
 (F20 a0 a1 true).bind fun x1=>
 Option.bind
 (run
 (fun s2=>
 bif decide (s2.2< (↑(List.length x0):Int)) then
 (idx x0 s2.2).bind fun x3=>
 Option.bind
 (run
 (fun s4=>
 bif decide (s4.2< (↑(List.length x3):Int)) then
 (idx x3 s4.2).bind fun x5=>
 bif decide (s2.2=s4.2) then some (.inl (s4.1,IntKind.wrap .i64 (s4.2+(1:Int))))
 else
 (idx x1 s2.2).bind fun x6=>
 (idx x6 s4.2).bind fun x7=>
 (F18 s2.2 s4.2 x5 (decide (x7=x5)) s4.1).bind fun x8=>
 bif !decide (x7=x5) then
 (F18 s2.2 s4.2 x7 true x8).bind fun x9=>some (.inl (x9,IntKind.wrap .i64 (s4.2+(1:Int))))
 else some (.inl (x8,IntKind.wrap .i64 (s4.2+(1:Int))))
 else some (.inr s4.1))
 (s2.1,(0:Int)))
 fun x10=>some (.inl (x10,IntKind.wrap .i64 (s2.2+(1:Int))))
 else some (.inr s2.1))
 ([],(0:Int)))
 fun x11=>(F132 x11 ()).bind fun x12=>some x12
abbrev F17A:Zam:=(.cons (.pd Y26) (.cons (.pd Y3) .nil))
abbrev F17R:Zam:=(.cons (.pd Y26) .nil)
def F17S:Tr.Spec:= {args:=F17A,res:=F17R,fns:=[],α:=El Y26,f:=fun x=>F17 x.1 x.2.1,unp:=fun z=>(((),(),()),(z,())) }
def F17M:List (Nat×List Tr.Spec):=[(152,[F20S]),(153,[F18S]),(154,[F132S]),(155,[F19S])]
def F17H:ZaT:=(.seq .leaf (.seq .leaf (.seq .leaf (.seq .leaf (.seq (.seq .leaf (.lp ⟨[(7,(.var Y26 (.own Y59 false))),(22,(.pd Y3))],[(8,153,[7])],[5,6,21],[],[],[]⟩ [((.exit 0),⟨[(7,(.var Y26 (.own Y59 false)))],[],[],[],[],[]⟩)] (.seq .leaf (.seq .leaf (.seq (.seq .leaf (.seq .leaf (.lp ⟨[(7,(.var Y26 (.own Y59 false))),(30,(.pd Y3))],[(8,153,[7])],[5,6,9,21,22,28,29],[],[],[]⟩ [((.exit 2),⟨[(7,(.var Y26 (.own Y59 false)))],[(8,153,[7])],[5,6,21,22],[],[],[]⟩)] .leaf))) .leaf))))) .leaf)))))
theorem F17_eq(a0:El Y26)(a1:El Y3):(Zau (mkE tyTab mapTab pkTab [] [] F17M 66 bdTab) (Zai Tryz.f146) Tryz.f146.results F17H F17A F17R (fun y=>y.2.1) (a0,a1,()):Option (El Y26))=F17 a0 a1:=by kernel_rfl
theorem F17_ok:ZaQ Tryz.prog 146 F17S:=Zae (m:=F17M) (fn:=Tryz.f146) (hint:=F17H) (pack:=fun y=>y.2.1) Za2 tab_ok ⟨⟨F20_ok,trivial⟩,⟨F18_ok,trivial⟩,⟨F132_ok,trivial⟩,⟨F19_ok,trivial⟩,trivial⟩ fun x z h=>(F17_eq x.1 x.2.1).trans h
def F16: (El Y26)->(El Y3)->Option (El Y4):=fun a0 a1=>
 bif decide ((64:Int)<a1) then some false
 else
 (F21 a0 a1).bind fun x0=>
 bif !decide (x0.2=(0:Int)) then some false
 else
 (F17 a0 (Tr.imax a1 (0:Int))).bind fun x1=>
 bif !decide ((↑(List.length x1):Int)=(↑(List.length a0):Int)) then some false
 else
 Option.bind
 (run
 (fun s2=>
 bif decide (s2< (↑(List.length x1):Int)) then
 (idx x1 s2).bind fun x3=>
 (idx a0 s2).bind fun x4=>
 bif
 !(decide (x3.1=x4.1) &&
 (decide (x3.2.1=x4.2.1) && (decide (x3.2.2.1=x4.2.2.1) &&x3.2.2.2.1==x4.2.2.2.1))) then
 some (.inr (.inr false))
 else some (.inl (IntKind.wrap .i64 (s2+(1:Int))))
 else some (.inr (.inl ())))
 (0:Int))
 fun x5=>Sum.elim (fun _=>some true) (fun y7=>some y7) x5
abbrev F16A:Zam:=(.cons (.pd Y26) (.cons (.pd Y3) .nil))
abbrev F16R:Zam:=(.cons (.pd Y4) .nil)
def F16S:Tr.Spec:= {args:=F16A,res:=F16R,fns:=[],α:=El Y4,f:=fun x=>F16 x.1 x.2.1,unp:=fun z=>(((),(),()),(z,())) }
def F16M:List (Nat×List Tr.Spec):=[(145,[F21S]),(146,[F17S])]
def F16H:ZaT:=(.seq .leaf (.seq .leaf (.seq .leaf (.seq .leaf (.seq .leaf (.seq (.seq .leaf (.lp ⟨[(30,(.pd Y3))],[],[0,7,29],[],[],[]⟩ [((.exit 0),⟨[],[],[],[],[],[]⟩),(.ret,⟨[(4,(.pd Y4))],[],[],[],[],[]⟩)] .leaf)) .leaf))))))
theorem F16_eq(a0:El Y26)(a1:El Y3):(Zau (mkE tyTab mapTab pkTab [] [] F16M 43 bdTab) (Zai Tryz.f130) Tryz.f130.results F16H F16A F16R (fun y=>y.2.1) (a0,a1,()):Option (El Y4))=F16 a0 a1:=by kernel_rfl
theorem F16_ok:ZaQ Tryz.prog 130 F16S:=Zae (m:=F16M) (fn:=Tryz.f130) (hint:=F16H) (pack:=fun y=>y.2.1) Za2 tab_ok ⟨⟨F21_ok,trivial⟩,⟨F17_ok,trivial⟩,trivial⟩ fun x z h=>(F16_eq x.1 x.2.1).trans h
def F40: (El Y31)->Option (El Zct):=fun a0=>
 Option.bind
 (run
 (fun s0=>
 bif decide (s0.2.2< (↑(List.length a0.2.2.2.2.1):Int)) then
 (idx a0.2.2.2.2.1 s0.2.2).bind fun x1=>
 Option.bind
 ((F52 x1.1 (↑(List.length a0.1):Int)).bind fun x2=>
 bif !x2 then some true
 else (F52 x1.2.1 (↑(List.length a0.1):Int)).bind fun x3=>bif !x3 then some true else some (decide (x1.1=x1.2.1)))
 fun x4=>
 bif x4 then (F51 (4:Int) s0.2.2 (9:Int)).bind fun x5=>some (.inr (.inr x5))
 else
 Option.bind (bif decide (x1.2.2.1< (1:Int)) then some true else some (decide ((14400:Int)<x1.2.2.1))) fun x6=>
 bif x6 then (F51 (4:Int) s0.2.2 (2:Int)).bind fun x7=>some (.inr (.inr x7))
 else
 bif Option.getD (ZaL (Zap Y59) (x1.1,x1.2.1,(0:Int),x1.2.2.2.1,()) s0.2.1) (false) then
 (F51 (4:Int) s0.2.2 (6:Int)).bind fun x8=>some (.inr (.inr x8))
 else
 some
 (.inl
 (s0.1,Za9 (Zap Y59) (x1.1,x1.2.1,(0:Int),x1.2.2.2.1,()) true s0.2.1,IntKind.wrap .i64 (s0.2.2+(1:Int))))
 else some (.inr (.inl s0.1)))
 (((0:Int),(0:Int),(0:Int),()),[],(0:Int)))
 fun x9=>
 Sum.elim
 (fun _=>
 (F16 a0.2.2.2.2.1 (↑(List.length a0.1):Int)).bind fun x11=>
 bif !x11 then (F51 (4:Int) (0:Int) (18:Int)).bind fun x12=>some x12 else some ((0:Int),(0:Int),(0:Int),()))
 (fun y13=>some y13) x9
abbrev F40A:Zam:=(.cons (.pd Y31) .nil)
abbrev F40R:Zam:=(.cons (.pd Zct) .nil)
def F40S:Tr.Spec:= {args:=F40A,res:=F40R,fns:=[],α:=El Zct,f:=fun x=>F40 x.1,unp:=fun z=>(((),()),(z,())) }
def F40M:List (Nat×List Tr.Spec):=[(109,[F51S]),(127,[F52S]),(130,[F16S])]
def F40H:ZaT:=(.seq .leaf (.seq .leaf (.seq (.seq .leaf (.lp ⟨[(2,(.var Zct (.pd Zct))),(3,(.map Y59 Y4)),(11,(.pd Y3))],[],[1,9,10],[],[],[]⟩ [((.exit 0),⟨[(2,(.var Zct (.pd Zct)))],[],[1],[],[],[]⟩),(.ret,⟨[(2,(.var Zct (.pd Zct)))],[],[],[],[],[]⟩)] (.seq .leaf (.seq .leaf (.seq (.seq .leaf (.seq .leaf (.seq (.seq (.reg [(23,Y4)]) (.cnd none .leaf (.seq (.reg [(49,Y4)]) .leaf))) .leaf))) .leaf))))) .leaf)))
theorem F40_eq(a0:El Y31):(Zau (mkE tyTab mapTab pkTab [] [] F40M 78 bdTab) (Zai Tryz.f113) Tryz.f113.results F40H F40A F40R (fun y=>y.2.1) (a0,()):Option (El Zct))=F40 a0:=by kernel_rfl
theorem F40_ok:ZaQ Tryz.prog 113 F40S:=Zae (m:=F40M) (fn:=Tryz.f113) (hint:=F40H) (pack:=fun y=>y.2.1) Za2 tab_ok ⟨⟨F51_ok,trivial⟩,⟨F52_ok,trivial⟩,⟨F16_ok,trivial⟩,trivial⟩ fun x z h=>(F40_eq x.1).trans h
def F37: (El Y31)->Option (El Y3×El Y3×El Y37):=fun a0=>
 (F133 a0.1).bind fun x0=>
 (F108 a0.2.1).bind fun x1=>
 (F51 (0:Int) x0.1 x0.2).bind fun x2=>
 (F51 (1:Int) x1.1 x1.2).bind fun x3=>
 (F42 [x2,x3]).bind fun x4=>
 Option.bind (bif decide (x4.2.2.1=(0:Int)) then (F41 a0).bind fun x5=>some x5 else some x4) fun x6=>
 Option.bind (bif decide (x6.2.2.1=(0:Int)) then (F39 a0).bind fun x7=>some x7 else some x6) fun x8=>
 Option.bind
 (bif decide (x8.2.2.1=(0:Int)) then
 (F53 a0.2.2.2.2.2.1).bind fun x9=>
 (F40 a0).bind fun x10=>(F51 (5:Int) x9.1 x9.2).bind fun x11=>(F42 [x10,x11]).bind fun x12=>some x12
 else some x8)
 fun x13=>some (x13.1,x13.2.1,x13.2.2.1)
abbrev F37A:Zam:=(.cons (.pd Y31) .nil)
abbrev F37R:Zam:=(.cons (.pd Y3) (.cons (.pd Y3) (.cons (.pd Y37) .nil)))
def F37S:Tr.Spec:= {args:=F37A,res:=F37R,fns:=[],α:=El Y3×El Y3×El Y37,f:=fun x=>F37 x.1,unp:=fun z=>(((),()),(z.1,z.2.1,z.2.2,())) }
def F37M:List (Nat×List Tr.Spec):=[(106,[F133S]),(107,[F108S]),(108,[F42S]),(109,[F51S]),(110,[F41S]),(111,[F39S]),(112,[F53S]),(113,[F40S])]
def F37H:ZaT:=(.seq .leaf (.seq .leaf (.seq .leaf (.seq .leaf (.seq (.seq .leaf (.cnd (some (⟨[],[],[1],[],[],[]⟩,[(.normal,⟨[(9,(.var Zct (.pd Zct)))],[],[1],[],[],[]⟩)])) .leaf .leaf)) (.seq (.seq .leaf (.cnd (some (⟨[],[],[1],[],[],[]⟩,[(.normal,⟨[(9,(.var Zct (.pd Zct)))],[],[1],[],[],[]⟩)])) .leaf .leaf)) (.seq (.seq .leaf (.cnd (some (⟨[],[],[],[],[],[]⟩,[(.normal,⟨[(9,(.var Zct (.pd Zct)))],[],[],[],[],[]⟩)])) .leaf .leaf)) .leaf)))))))
theorem F37_eq(a0:El Y31):(Zau (mkE tyTab mapTab pkTab [] [] F37M 64 bdTab) (Zai Tryz.f67) Tryz.f67.results F37H F37A F37R (fun y=>(y.2.1,y.2.2.1,y.2.2.2.1)) (a0,()):Option (El Y3×El Y3×El Y37))=F37 a0:=by kernel_rfl
theorem F37_ok:ZaQ Tryz.prog 67 F37S:=Zae (m:=F37M) (fn:=Tryz.f67) (hint:=F37H) (pack:=fun y=>(y.2.1,y.2.2.1,y.2.2.2.1)) Za2 tab_ok ⟨⟨F133_ok,trivial⟩,⟨F108_ok,trivial⟩,⟨F42_ok,trivial⟩,⟨F51_ok,trivial⟩,⟨F41_ok,trivial⟩,⟨F39_ok,trivial⟩,⟨F53_ok,trivial⟩,⟨F40_ok,trivial⟩,trivial⟩ fun x z h=>(F37_eq x.1).trans h
def F11: (El Y3)->(El Y3)->(El Y3)->Option (El Y4):=fun a0 a1 a2=>Option.bind (bif decide (a1<=a0) then some (decide (a0<=a2)) else some false) fun x0=>some x0
abbrev F11A:Zam:=(.cons (.pd Y3) (.cons (.pd Y3) (.cons (.pd Y3) .nil)))
abbrev F11R:Zam:=(.cons (.pd Y4) .nil)
def F11S:Tr.Spec:= {args:=F11A,res:=F11R,fns:=[],α:=El Y4,f:=fun x=>F11 x.1 x.2.1 x.2.2.1,unp:=fun z=>(((),(),(),()),(z,())) }
def F11M:List (Nat×List Tr.Spec):=[]
def F11H:ZaT:=(.seq .leaf (.seq (.reg [(6,Y4)]) .leaf))
theorem F11_eq(a0:El Y3)(a1:El Y3)(a2:El Y3):(Zau (mkE tyTab mapTab pkTab [] [] F11M 15 bdTab) (Zai Tryz.f92) Tryz.f92.results F11H F11A F11R (fun y=>y.2.1) (a0,a1,a2,()):Option (El Y4))=F11 a0 a1 a2:=by kernel_rfl
theorem F11_ok:ZaQ Tryz.prog 92 F11S:=Zae (m:=F11M) (fn:=Tryz.f92) (hint:=F11H) (pack:=fun y=>y.2.1) Za2 tab_ok trivial fun x z h=>(F11_eq x.1 x.2.1 x.2.2.1).trans h
def F10: (El Y31)->(El Y33)->Option (El Y37):=fun a0 a1=>
 (F37 a0).bind fun x0=>
 bif !decide (x0.2.2=(0:Int)) then some (21:Int)
 else
 Option.bind
 ((F11 a1.1 (0:Int) (IntKind.wrap .i64 ((↑(List.length a0.1):Int) - (1:Int)))).bind fun x1=>
 bif !x1 then some true
 else
 (F11 a1.2.1 (0:Int) (IntKind.wrap .i64 ((↑(List.length a0.1):Int) - (1:Int)))).bind fun x2=>
 bif !x2 then some true
 else
 (F11 a1.2.2.1 (0:Int) (3155932800:Int)).bind fun x3=>
 bif !x3 then some true
 else
 (F11 a1.2.2.2.2.1 (0:Int) (8:Int)).bind fun x4=>
 bif !x4 then some true
 else
 (F11 a1.2.2.2.2.2.1 (0:Int) (86400:Int)).bind fun x5=>
 bif !x5 then some true
 else
 (F11 a1.2.2.2.2.2.2.2.2.1 (0:Int) (255:Int)).bind fun x6=>
 bif !x6 then some true else bif a1.2.2.2.2.2.2.2.2.2.1 then some a1.2.2.2.1 else some false)
 fun x7=>bif x7 then some (22:Int) else some (0:Int)
abbrev F10A:Zam:=(.cons (.pd Y31) (.cons (.pd Y33) .nil))
abbrev F10R:Zam:=(.cons (.pd Y37) .nil)
def F10S:Tr.Spec:= {args:=F10A,res:=F10R,fns:=[],α:=El Y37,f:=fun x=>F10 x.1 x.2.1,unp:=fun z=>(((),(),()),(z,())) }
def F10M:List (Nat×List Tr.Spec):=[(67,[F37S]),(92,[F11S])]
def F10H:ZaT:=(.seq .leaf (.seq .leaf (.seq .leaf (.seq .leaf (.seq (.seq (.reg [(64,Y4)]) .leaf) .leaf)))))
theorem F10_eq(a0:El Y31)(a1:El Y33):(Zau (mkE tyTab mapTab pkTab [] [] F10M 65 bdTab) (Zai Tryz.f61) Tryz.f61.results F10H F10A F10R (fun y=>y.2.1) (a0,a1,()):Option (El Y37))=F10 a0 a1:=by kernel_rfl
theorem F10_ok:ZaQ Tryz.prog 61 F10S:=Zae (m:=F10M) (fn:=Tryz.f61) (hint:=F10H) (pack:=fun y=>y.2.1) Za2 tab_ok ⟨⟨F37_ok,trivial⟩,⟨F11_ok,trivial⟩,trivial⟩ fun x z h=>(F10_eq x.1 x.2.1).trans h
def F113: (El Y31)->(El Y33)->Option (El Y37):=fun a0 a1=>
 (F10 a0 a1).bind fun x0=>bif !decide (x0=(0:Int)) then some x0 else bif a1.2.2.2.1 then some (22:Int) else some (0:Int)
abbrev F113A:Zam:=(.cons (.pd Y31) (.cons (.pd Y33) .nil))
abbrev F113R:Zam:=(.cons (.pd Y37) .nil)
def F113S:Tr.Spec:= {args:=F113A,res:=F113R,fns:=[],α:=El Y37,f:=fun x=>F113 x.1 x.2.1,unp:=fun z=>(((),(),()),(z,())) }
def F113M:List (Nat×List Tr.Spec):=[(61,[F10S])]
def F113H:ZaT:= .leaf
theorem F113_eq(a0:El Y31)(a1:El Y33):(Zau (mkE tyTab mapTab pkTab [] [] F113M 14 bdTab) (Zai Tryz.f38) Tryz.f38.results F113H F113A F113R (fun y=>y.2.1) (a0,a1,()):Option (El Y37))=F113 a0 a1:=by kernel_rfl
theorem F113_ok:ZaQ Tryz.prog 38 F113S:=Zae (m:=F113M) (fn:=Tryz.f38) (hint:=F113H) (pack:=fun y=>y.2.1) Za2 tab_ok ⟨⟨F10_ok,trivial⟩,trivial⟩ fun x z h=>(F113_eq x.1 x.2.1).trans h
def F49: (El Y22)->Option (El Y22):=fun a0=>
 Option.bind (Zar (decide (List.length ([]:List Unit)+List.length a0<=Zaq))) fun _=>
 (inb (↑(List.length ([]++a0)):Int) (List.length ([]++a0)+(1:Nat))).bind fun x1=>
 Option.bind (sliceB (List.length ([]++a0)) x1 none (some (↑(List.length ([]++a0)):Int))) fun x2=>some (List.take x2.2 (List.drop (0:Nat) ([]++a0)))
abbrev F49A:Zam:=(.cons (.pd Y22) .nil)
abbrev F49R:Zam:=(.cons (.pd Y22) .nil)
def F49S:Tr.Spec:= {args:=F49A,res:=F49R,fns:=[],α:=El Y22,f:=fun x=>F49 x.1,unp:=fun z=>(((),()),(z,())) }
def F49M:List (Nat×List Tr.Spec):=[]
def F49H:ZaT:= .leaf
theorem F49_eq(a0:El Y22):(Zau (mkE tyTab mapTab pkTab [] [] F49M 13 bdTab) (Zai Tryz.f93) Tryz.f93.results F49H F49A F49R (fun y=>y.2.1) (a0,()):Option (El Y22))=F49 a0:=by kernel_rfl
theorem F49_ok:ZaQ Tryz.prog 93 F49S:=Zae (m:=F49M) (fn:=Tryz.f93) (hint:=F49H) (pack:=fun y=>y.2.1) Za2 tab_ok trivial fun x z h=>(F49_eq x.1).trans h
def F47: (El Y23)->Option (El Y23):=fun a0=>
 Option.bind (Zar (decide (List.length ([]:List Unit)+List.length a0<=Zaq))) fun _=>
 (inb (↑(List.length ([]++a0)):Int) (List.length ([]++a0)+(1:Nat))).bind fun x1=>
 Option.bind (sliceB (List.length ([]++a0)) x1 none (some (↑(List.length ([]++a0)):Int))) fun x2=>some (List.take x2.2 (List.drop (0:Nat) ([]++a0)))
abbrev F47A:Zam:=(.cons (.pd Y23) .nil)
abbrev F47R:Zam:=(.cons (.pd Y23) .nil)
def F47S:Tr.Spec:= {args:=F47A,res:=F47R,fns:=[],α:=El Y23,f:=fun x=>F47 x.1,unp:=fun z=>(((),()),(z,())) }
def F47M:List (Nat×List Tr.Spec):=[]
def F47H:ZaT:= .leaf
theorem F47_eq(a0:El Y23):(Zau (mkE tyTab mapTab pkTab [] [] F47M 13 bdTab) (Zai Tryz.f94) Tryz.f94.results F47H F47A F47R (fun y=>y.2.1) (a0,()):Option (El Y23))=F47 a0:=by kernel_rfl
theorem F47_ok:ZaQ Tryz.prog 94 F47S:=Zae (m:=F47M) (fn:=Tryz.f94) (hint:=F47H) (pack:=fun y=>y.2.1) Za2 tab_ok trivial fun x z h=>(F47_eq x.1).trans h
def F48: (El Y24)->Option (List (El Y84)):=fun a0=>
 Option.bind (Zar (decide (List.length ([]:List Unit)+List.length a0<=Zaq))) fun _=>
 (inb (↑(List.length ([]++a0)):Int) (List.length ([]++a0)+(1:Nat))).bind fun x1=>
 Option.bind (sliceB (List.length ([]++a0)) x1 none (some (↑(List.length ([]++a0)):Int))) fun x2=>some (List.take x2.2 ([]++a0))
abbrev F48A:Zam:=(.cons (.pd Y24) .nil)
abbrev F48R:Zam:=(.cons (.own Y84 false) .nil)
def F48S:Tr.Spec:= {args:=F48A,res:=F48R,fns:=[],α:=List (El Y84),f:=fun x=>F48 x.1,unp:=fun z=>(((),()),(z,())) }
def F48M:List (Nat×List Tr.Spec):=[]
def F48H:ZaT:= .leaf
theorem F48_eq(a0:El Y24):(Zau (mkE tyTab mapTab pkTab [] [] F48M 13 bdTab) (Zai Tryz.f95) Tryz.f95.results F48H F48A F48R (fun y=>y.2.1) (a0,()):Option (List (El Y84)))=F48 a0:=by kernel_rfl
theorem F48_ok:ZaQ Tryz.prog 95 F48S:=Zae (m:=F48M) (fn:=Tryz.f95) (hint:=F48H) (pack:=fun y=>y.2.1) Za2 tab_ok trivial fun x z h=>(F48_eq x.1).trans h
def F45: (El Y25)->Option (El Y25):=fun a0=>
 Option.bind (Zar (decide (List.length ([]:List Unit)+List.length a0<=Zaq))) fun _=>
 (inb (↑(List.length ([]++a0)):Int) (List.length ([]++a0)+(1:Nat))).bind fun x1=>
 Option.bind (sliceB (List.length ([]++a0)) x1 none (some (↑(List.length ([]++a0)):Int))) fun x2=>some (List.take x2.2 (List.drop (0:Nat) ([]++a0)))
abbrev F45A:Zam:=(.cons (.pd Y25) .nil)
abbrev F45R:Zam:=(.cons (.pd Y25) .nil)
def F45S:Tr.Spec:= {args:=F45A,res:=F45R,fns:=[],α:=El Y25,f:=fun x=>F45 x.1,unp:=fun z=>(((),()),(z,())) }
def F45M:List (Nat×List Tr.Spec):=[]
def F45H:ZaT:= .leaf
theorem F45_eq(a0:El Y25):(Zau (mkE tyTab mapTab pkTab [] [] F45M 13 bdTab) (Zai Tryz.f96) Tryz.f96.results F45H F45A F45R (fun y=>y.2.1) (a0,()):Option (El Y25))=F45 a0:=by kernel_rfl
theorem F45_ok:ZaQ Tryz.prog 96 F45S:=Zae (m:=F45M) (fn:=Tryz.f96) (hint:=F45H) (pack:=fun y=>y.2.1) Za2 tab_ok trivial fun x z h=>(F45_eq x.1).trans h
def F44: (El Y26)->Option (El Y26):=fun a0=>
 Option.bind (Zar (decide (List.length ([]:List Unit)+List.length a0<=Zaq))) fun _=>
 (inb (↑(List.length ([]++a0)):Int) (List.length ([]++a0)+(1:Nat))).bind fun x1=>
 Option.bind (sliceB (List.length ([]++a0)) x1 none (some (↑(List.length ([]++a0)):Int))) fun x2=>some (List.take x2.2 (List.drop (0:Nat) ([]++a0)))
abbrev F44A:Zam:=(.cons (.pd Y26) .nil)
abbrev F44R:Zam:=(.cons (.pd Y26) .nil)
def F44S:Tr.Spec:= {args:=F44A,res:=F44R,fns:=[],α:=El Y26,f:=fun x=>F44 x.1,unp:=fun z=>(((),()),(z,())) }
def F44M:List (Nat×List Tr.Spec):=[]
def F44H:ZaT:= .leaf
theorem F44_eq(a0:El Y26):(Zau (mkE tyTab mapTab pkTab [] [] F44M 13 bdTab) (Zai Tryz.f97) Tryz.f97.results F44H F44A F44R (fun y=>y.2.1) (a0,()):Option (El Y26))=F44 a0:=by kernel_rfl
theorem F44_ok:ZaQ Tryz.prog 97 F44S:=Zae (m:=F44M) (fn:=Tryz.f97) (hint:=F44H) (pack:=fun y=>y.2.1) Za2 tab_ok trivial fun x z h=>(F44_eq x.1).trans h
def F43: (El Y82)->Option (El Y82):=fun a0=>
 Option.bind (Zar (decide (List.length ([]:List Unit)+List.length a0<=Zaq))) fun _=>
 (inb (↑(List.length ([]++a0)):Int) (List.length ([]++a0)+(1:Nat))).bind fun x1=>
 Option.bind (sliceB (List.length ([]++a0)) x1 none (some (↑(List.length ([]++a0)):Int))) fun x2=>some (List.take x2.2 (List.drop (0:Nat) ([]++a0)))
abbrev F43A:Zam:=(.cons (.pd Y82) .nil)
abbrev F43R:Zam:=(.cons (.pd Y82) .nil)
def F43S:Tr.Spec:= {args:=F43A,res:=F43R,fns:=[],α:=El Y82,f:=fun x=>F43 x.1,unp:=fun z=>(((),()),(z,())) }
def F43M:List (Nat×List Tr.Spec):=[]
def F43H:ZaT:= .leaf
theorem F43_eq(a0:El Y82):(Zau (mkE tyTab mapTab pkTab [] [] F43M 13 bdTab) (Zai Tryz.f98) Tryz.f98.results F43H F43A F43R (fun y=>y.2.1) (a0,()):Option (El Y82))=F43 a0:=by kernel_rfl
theorem F43_ok:ZaQ Tryz.prog 98 F43S:=Zae (m:=F43M) (fn:=Tryz.f98) (hint:=F43H) (pack:=fun y=>y.2.1) Za2 tab_ok trivial fun x z h=>(F43_eq x.1).trans h
def F46: (El Y27)->Option (El Y27):=fun a0=>
 Option.bind (Zar (decide (List.length ([]:List Unit)+List.length a0<=Zaq))) fun _=>
 (inb (↑(List.length ([]++a0)):Int) (List.length ([]++a0)+(1:Nat))).bind fun x1=>
 Option.bind (sliceB (List.length ([]++a0)) x1 none (some (↑(List.length ([]++a0)):Int))) fun x2=>some (List.take x2.2 (List.drop (0:Nat) ([]++a0)))
abbrev F46A:Zam:=(.cons (.pd Y27) .nil)
abbrev F46R:Zam:=(.cons (.pd Y27) .nil)
def F46S:Tr.Spec:= {args:=F46A,res:=F46R,fns:=[],α:=El Y27,f:=fun x=>F46 x.1,unp:=fun z=>(((),()),(z,())) }
def F46M:List (Nat×List Tr.Spec):=[]
def F46H:ZaT:= .leaf
theorem F46_eq(a0:El Y27):(Zau (mkE tyTab mapTab pkTab [] [] F46M 13 bdTab) (Zai Tryz.f99) Tryz.f99.results F46H F46A F46R (fun y=>y.2.1) (a0,()):Option (El Y27))=F46 a0:=by kernel_rfl
theorem F46_ok:ZaQ Tryz.prog 99 F46S:=Zae (m:=F46M) (fn:=Tryz.f99) (hint:=F46H) (pack:=fun y=>y.2.1) Za2 tab_ok trivial fun x z h=>(F46_eq x.1).trans h
def F38: (El Y31)->Option (Tz1):=fun a0=>
 (F49 a0.1).bind fun x0=>
 (F47 a0.2.1).bind fun x1=>
 (F48 a0.2.2.1).bind fun x2=>
 (F45 a0.2.2.2.1).bind fun x3=>
 (F44 a0.2.2.2.2.1).bind fun x4=>
 Option.bind
 (run
 (fun s5=>
 bif decide (s5.2< (↑(List.length x2):Int)) then
 (inb s5.2 (List.length s5.1.2.2.1)).bind fun x6=>
 Option.bind s5.1.2.2.1[x6]? fun x7=>
 (F43 x7.2.2.2.2.2.2.2.1).bind fun x8=>
 (inb s5.2 (List.length s5.1.2.2.1)).bind fun x9=>
 Option.bind s5.1.2.2.1[x9]? fun x10=>
 some
 (.inl
 ((s5.1.1,s5.1.2.1,
 List.set s5.1.2.2.1 x9
 (x10.1,x10.2.1,x10.2.2.1,x10.2.2.2.1,x10.2.2.2.2.1,x10.2.2.2.2.2.1,x10.2.2.2.2.2.2.1,x8,
 x10.2.2.2.2.2.2.2.2),
 s5.1.2.2.2.1,s5.1.2.2.2.2.1,s5.1.2.2.2.2.2.1,()),
 IntKind.wrap .i64 (s5.2+(1:Int))))
 else some (.inr s5.1))
 ((x0,x1,x2,x3,x4,a0.2.2.2.2.2.1,()),(0:Int)))
 fun x11=>
 (F46 a0.2.2.2.2.2.1.1).bind fun x12=>
 some (x11.1,x11.2.1,x11.2.2.1,x11.2.2.2.1,x11.2.2.2.2.1,(x12,x11.2.2.2.2.2.1.2),())
abbrev F38A:Zam:=(.cons (.pd Y31) .nil)
abbrev F38R:Zam:=(.cons Pz5 .nil)
def F38S:Tr.Spec:= {args:=F38A,res:=F38R,fns:=[],α:=Tz1,f:=fun x=>F38 x.1,unp:=fun z=>(((),()),(z,())) }
def F38M:List (Nat×List Tr.Spec):=[(93,[F49S]),(94,[F47S]),(95,[F48S]),(96,[F45S]),(97,[F44S]),(98,[F43S]),(99,[F46S])]
def F38H:ZaT:=(.seq .leaf (.seq .leaf (.seq (.seq .leaf (.lp ⟨[(3,Pz4),(26,(.pd Y3))],[],[1,2,25],[],[],[]⟩ [((.exit 0),⟨[(3,Pz4)],[],[1,2],[],[],[]⟩)] .leaf)) .leaf)))
theorem F38_eq(a0:El Y31):(Zau (mkE tyTab mapTab pkTab [] [] F38M 49 bdTab) (Zai Tryz.f62) Tryz.f62.results F38H F38A F38R (fun y=>y.2.1) (a0,()):Option (Tz1))=F38 a0:=by kernel_rfl
theorem F38_ok:ZaQ Tryz.prog 62 F38S:=Zae (m:=F38M) (fn:=Tryz.f62) (hint:=F38H) (pack:=fun y=>y.2.1) Za2 tab_ok ⟨⟨F49_ok,trivial⟩,⟨F47_ok,trivial⟩,⟨F48_ok,trivial⟩,⟨F45_ok,trivial⟩,⟨F44_ok,trivial⟩,⟨F43_ok,trivial⟩,⟨F46_ok,trivial⟩,trivial⟩ fun x z h=>(F38_eq x.1).trans h
def F15(a0:El Y31)(a1:El Y33)(a2:El Y84):Option Bool:=Tr.useF a0 a1 a2
abbrev F15A:Zam:=(.cons (.pd Y31) (.cons (.pd Y33) (.cons (.pd Y84) .nil)))
abbrev F15R:Zam:=(.cons (.pd Y4) .nil)
def F15S:Tr.Spec:= {args:=F15A,res:=F15R,fns:=[],α:=El Y4,f:=fun x=>F15 x.1 x.2.1 x.2.2.1,unp:=fun z=>(((),(),(),()),(z,())) }
theorem F15_ok:ZaQ Tryz.prog 63 F15S:=Tr.use_ok
def F14: (El Y31)->(El Y33)->(El Y3)->Option (El Y4):=fun a0 a1 a2=>Option.bind ((idx a0.1 a2).bind fun x0=>bif x0.2.2.1 then some true else some !a1.2.2.2.2.2.2.1) fun x1=>some x1
abbrev F14A:Zam:=(.cons (.pd Y31) (.cons (.pd Y33) (.cons (.pd Y3) .nil)))
abbrev F14R:Zam:=(.cons (.pd Y4) .nil)
def F14S:Tr.Spec:= {args:=F14A,res:=F14R,fns:=[],α:=El Y4,f:=fun x=>F14 x.1 x.2.1 x.2.2.1,unp:=fun z=>(((),(),(),()),(z,())) }
def F14M:List (Nat×List Tr.Spec):=[]
def F14H:ZaT:=(.seq .leaf (.seq (.reg [(6,Y4)]) .leaf))
theorem F14_eq(a0:El Y31)(a1:El Y33)(a2:El Y3):(Zau (mkE tyTab mapTab pkTab [] [] F14M 18 bdTab) (Zai Tryz.f105) Tryz.f105.results F14H F14A F14R (fun y=>y.2.1) (a0,a1,a2,()):Option (El Y4))=F14 a0 a1 a2:=by kernel_rfl
theorem F14_ok:ZaQ Tryz.prog 105 F14S:=Zae (m:=F14M) (fn:=Tryz.f105) (hint:=F14H) (pack:=fun y=>y.2.1) Za2 tab_ok trivial fun x z h=>(F14_eq x.1 x.2.1 x.2.2.1).trans h
def F13: (El Y31)->(El Y33)->(El Y82)->Option (El Y82):=fun a0 a1 a2=>
 Option.bind
 (run
 (fun s0=>
 bif decide (s0.2< (↑(List.length a2):Int)) then
 (idx a2 s0.2).bind fun x1=>
 (F14 a0 a1 x1.1).bind fun x2=>
 Option.bind (bif !x2 then some (x1.1,x1.2.1,x1.2.2.1,false,false,x1.2.2.2.2.2) else some x1) fun x3=>
 Option.bind (Zar (decide (List.length s0.1+List.length [x3]<=Zaq))) fun _=>
 some (.inl (s0.1++[x3],IntKind.wrap .i64 (s0.2+(1:Int))))
 else some (.inr s0.1))
 ([],(0:Int)))
 fun x5=>
 (inb (↑(List.length x5):Int) (List.length x5+(1:Nat))).bind fun x6=>
 Option.bind (sliceB (List.length x5) x6 none (some (↑(List.length x5):Int))) fun x7=>some (List.take x7.2 (List.drop (0:Nat) x5))
abbrev F13A:Zam:=(.cons (.pd Y31) (.cons (.pd Y33) (.cons (.pd Y82) .nil)))
abbrev F13R:Zam:=(.cons (.pd Y82) .nil)
def F13S:Tr.Spec:= {args:=F13A,res:=F13R,fns:=[],α:=El Y82,f:=fun x=>F13 x.1 x.2.1 x.2.2.1,unp:=fun z=>(((),(),(),()),(z,())) }
def F13M:List (Nat×List Tr.Spec):=[(105,[F14S])]
def F13H:ZaT:=(.seq .leaf (.seq .leaf (.seq (.seq .leaf (.lp ⟨[(7,(.own Y86 false)),(12,(.pd Y3))],[],[3,4,10,11],[],[],[]⟩ [((.exit 0),⟨[(7,(.own Y86 false))],[],[],[],[],[]⟩)] (.seq .leaf (.seq .leaf (.seq (.seq .leaf (.seq (.seq .leaf (.cnd (some (⟨[],[],[3,4,7,10,11,12],[],[],[]⟩,[(.normal,⟨[(9,(.var Y86 (.pd Y86)))],[],[3,4,7,10,11,12],[],[],[]⟩)])) .leaf .leaf)) .leaf)) .leaf))))) .leaf)))
theorem F13_eq(a0:El Y31)(a1:El Y33)(a2:El Y82):(Zau (mkE tyTab mapTab pkTab [] [] F13M 35 bdTab) (Zai Tryz.f64) Tryz.f64.results F13H F13A F13R (fun y=>y.2.1) (a0,a1,a2,()):Option (El Y82))=F13 a0 a1 a2:=by kernel_rfl
theorem F13_ok:ZaQ Tryz.prog 64 F13S:=Zae (m:=F13M) (fn:=Tryz.f64) (hint:=F13H) (pack:=fun y=>y.2.1) Za2 tab_ok ⟨⟨F14_ok,trivial⟩,trivial⟩ fun x z h=>(F13_eq x.1 x.2.1 x.2.2.1).trans h
def F12: (El Y31)->(El Y33)->Option (El Y31×El Y37):=fun a0 a1=>
 (F10 a0 a1).bind fun x0=>
 bif !decide (x0=(0:Int)) then some ((([]:List (El Y93)),([]:List (El Y95)),([]:List (El Y84)),([]:List (El ZuY)),([]:List (El Y59)),(([]:List (El Zo0)),(0:Int),(0:Int),(0:Int),()),()),x0)
 else
 (F38 a0).bind fun x1=>
 Option.bind
 (run
 (fun s2=>
 bif decide (s2.2< (↑(List.length a0.2.2.1):Int)) then
 (idx a0.2.2.1 s2.2).bind fun x3=>
 (F15 a0 a1 x3).bind fun x4=>
 (inb s2.2 (List.length s2.1.2.2.1)).bind fun x5=>
 Option.bind s2.1.2.2.1[x5]? fun x6=>
 (F13 a0 a1 x3.2.2.2.2.2.2.2.1).bind fun x7=>
 Option.bind
 (inb s2.2
 (List.length
 (List.set s2.1.2.2.1 x5
 (x6.1,x6.2.1,x6.2.2.1,x6.2.2.2.1,x6.2.2.2.2.1,x6.2.2.2.2.2.1, !x4,x6.2.2.2.2.2.2.2))))
 fun x8=>
 Option.bind
 (List.set s2.1.2.2.1 x5
 (x6.1,x6.2.1,x6.2.2.1,x6.2.2.2.1,x6.2.2.2.2.1,x6.2.2.2.2.2.1, !x4,x6.2.2.2.2.2.2.2))[x8]?
 fun x9=>
 some
 (.inl
 ((s2.1.1,s2.1.2.1,
 List.set
 (List.set s2.1.2.2.1 x5
 (x6.1,x6.2.1,x6.2.2.1,x6.2.2.2.1,x6.2.2.2.2.1,x6.2.2.2.2.2.1, !x4,x6.2.2.2.2.2.2.2))
 x8
 (x9.1,x9.2.1,x9.2.2.1,x9.2.2.2.1,x9.2.2.2.2.1,x9.2.2.2.2.2.1,x9.2.2.2.2.2.2.1,x7,
 x9.2.2.2.2.2.2.2.2),
 s2.1.2.2.2.1,s2.1.2.2.2.2.1,s2.1.2.2.2.2.2.1,()),
 IntKind.wrap .i64 (s2.2+(1:Int))))
 else some (.inr s2.1))
 (x1,(0:Int)))
 fun x10=>
 bif a1.2.2.2.2.2.2.1 then
 Option.bind
 (run
 (fun s11=>
 bif decide (s11.2< (↑(List.length a0.2.2.2.2.1):Int)) then
 (idx a0.2.2.2.2.1 s11.2).bind fun x12=>
 bif x12.2.2.2.1 then
 Option.bind (Zar (decide (List.length s11.1.2.2.2.2.1+List.length [x12]<=Zaq))) fun _=>
 some
 (.inl
 ((s11.1.1,s11.1.2.1,s11.1.2.2.1,s11.1.2.2.2.1,s11.1.2.2.2.2.1++[x12],s11.1.2.2.2.2.2.1,()),
 IntKind.wrap .i64 (s11.2+(1:Int))))
 else
 some
 (.inl
 (s11.1,
 IntKind.wrap .i64 (s11.2+(1:Int))))
 else some (.inr s11.1))
 ((x10.1,x10.2.1,x10.2.2.1,x10.2.2.2.1,[],x10.2.2.2.2.2.1,()),(0:Int)))
 fun x14=>some (x14,(0:Int))
 else some (x10,(0:Int))
abbrev F12A:Zam:=(.cons (.pd Y31) (.cons (.pd Y33) .nil))
abbrev F12R:Zam:=(.cons (.pd Y31) (.cons (.pd Y37) .nil))
def F12S:Tr.Spec:= {args:=F12A,res:=F12R,fns:=[],α:=El Y31×El Y37,f:=fun x=>F12 x.1 x.2.1,unp:=fun z=>(((),(),()),(z.1,z.2,())) }
def F12M:List (Nat×List Tr.Spec):=[(61,[F10S]),(62,[F38S]),(63,[F15S]),(64,[F13S])]
def F12H:ZaT:=(.seq .leaf (.seq .leaf (.seq .leaf (.seq (.seq .leaf (.lp ⟨[(7,Pz4),(24,(.pd Y3))],[],[2,3,4,22,23],[],[],[]⟩ [((.exit 0),⟨[(7,Pz4)],[],[2,3,4],[],[],[]⟩)] .leaf)) (.seq (.seq .leaf (.cnd none (.seq .leaf (.seq .leaf (.lp ⟨[(7,(.var Y31 (.agg (.cons (.pd Y22) (.cons (.pd Y23) (.cons (.own Y84 false) (.cons (.pd Y25) (.cons (.own Y59 false) (.cons (.pd Y29) .nil))))))))),(56,(.pd Y3))],[],[4,54,55],[],[],[]⟩ [((.exit 2),⟨[(7,(.var Y31 (.agg (.cons (.pd Y22) (.cons (.pd Y23) (.cons (.own Y84 false) (.cons (.pd Y25) (.cons (.own Y59 false) (.cons (.pd Y29) .nil)))))))))],[],[4],[],[],[]⟩)] .leaf))) .leaf)) .leaf)))))
theorem F12_eq(a0:El Y31)(a1:El Y33):(Zau (mkE tyTab mapTab pkTab [] [] F12M 70 bdTab) (Zai Tryz.f39) Tryz.f39.results F12H F12A F12R (fun y=>(y.2.1,y.2.2.1)) (a0,a1,()):Option (El Y31×El Y37))=F12 a0 a1:=by kernel_rfl
theorem F12_ok:ZaQ Tryz.prog 39 F12S:=Zae (m:=F12M) (fn:=Tryz.f39) (hint:=F12H) (pack:=fun y=>(y.2.1,y.2.2.1)) Za2 tab_ok ⟨⟨F10_ok,trivial⟩,⟨F38_ok,trivial⟩,⟨F15_ok,trivial⟩,⟨F13_ok,trivial⟩,trivial⟩ fun x z h=>(F12_eq x.1 x.2.1).trans h
def F119: (Tz0)->(El Y3)->(El Y3)->(El Y3)->(El Y3)->Option (Tz0):=fun a0 a1 a2 a3 a4=>
 (inb a1 (List.length a0.2.2.2.1)).bind fun x0=>
 Option.bind
 (Option.bind a0.2.2.2.1[x0]? fun x1=>
 bif decide (x1.1=(-1:Int)) then some true else Option.bind a0.2.2.2.1[x0]? fun x2=>some (decide (a2<x2.1)))
 fun x3=>
 bif x3 then
 Option.bind a0.2.2.2.1[x0]? fun x4=>
 Option.bind (List.set a0.2.2.2.1 x0 (a2,x4.2))[x0]? fun x5=>
 Option.bind
 (Option.bind (List.set (List.set a0.2.2.2.1 x0 (a2,x4.2)) x0 (x5.1,x5.2.1,x5.2.2.1,a4,x5.2.2.2.2))[x0]? fun x6=>
 bif decide (x6.2.2.1=(-1:Int)) then some true
 else
 Option.bind (List.set (List.set a0.2.2.2.1 x0 (a2,x4.2)) x0 (x5.1,x5.2.1,x5.2.2.1,a4,x5.2.2.2.2))[x0]? fun x7=>
 some (decide (a3<x7.2.2.1)))
 fun x8=>
 bif x8 then
 Option.bind (List.set (List.set a0.2.2.2.1 x0 (a2,x4.2)) x0 (x5.1,x5.2.1,x5.2.2.1,a4,x5.2.2.2.2))[x0]? fun x9=>
 Option.bind
 (List.set (List.set (List.set a0.2.2.2.1 x0 (a2,x4.2)) x0 (x5.1,x5.2.1,x5.2.2.1,a4,x5.2.2.2.2)) x0 (x9.1,x9.2.1,a3,x9.2.2.2))[x0]?
 fun x10=>
 some
 (a0.1,a0.2.1,a0.2.2.1,
 List.set
 (List.set (List.set (List.set a0.2.2.2.1 x0 (a2,x4.2)) x0 (x5.1,x5.2.1,x5.2.2.1,a4,x5.2.2.2.2)) x0
 (x9.1,x9.2.1,a3,x9.2.2.2))
 x0 (x10.1,x10.2.1,x10.2.2.1,x10.2.2.2.1,a4,x10.2.2.2.2.2),
 a0.2.2.2.2.1,a0.2.2.2.2.2.1,true,())
 else
 some
 (a0.1,a0.2.1,a0.2.2.1,List.set (List.set a0.2.2.2.1 x0 (a2,x4.2)) x0 (x5.1,x5.2.1,x5.2.2.1,a4,x5.2.2.2.2),a0.2.2.2.2.1,
 a0.2.2.2.2.2.1,true,())
 else
 Option.bind
 (Option.bind a0.2.2.2.1[x0]? fun x11=>
 bif decide (x11.2.2.1=(-1:Int)) then some true else Option.bind a0.2.2.2.1[x0]? fun x12=>some (decide (a3<x12.2.2.1)))
 fun x13=>
 bif x13 then
 Option.bind a0.2.2.2.1[x0]? fun x14=>
 Option.bind (List.set a0.2.2.2.1 x0 (x14.1,x14.2.1,a3,x14.2.2.2))[x0]? fun x15=>
 some
 (a0.1,a0.2.1,a0.2.2.1,
 List.set (List.set a0.2.2.2.1 x0 (x14.1,x14.2.1,a3,x14.2.2.2)) x0 (x15.1,x15.2.1,x15.2.2.1,x15.2.2.2.1,a4,x15.2.2.2.2.2),
 a0.2.2.2.2.1,a0.2.2.2.2.2.1,true,())
 else some a0
abbrev F119A:Zam:=(.cons Pz1 (.cons (.pd Y3) (.cons (.pd Y3) (.cons (.pd Y3) (.cons (.pd Y3) .nil)))))
abbrev F119R:Zam:= .nil
def F119S:Tr.Spec:= {args:=F119A,res:=F119R,fns:=[],α:=Tz0,f:=fun x=>F119 x.1 x.2.1 x.2.2.1 x.2.2.2.1 x.2.2.2.2.1,unp:=fun z=>((z,(),(),(),(),()),()),kp:=[(0,3,20)] }
def F119M:List (Nat×List Tr.Spec):=[]
def F119H:ZaT:=(.seq .leaf (.seq (.seq (.reg [(29,Y4)]) .leaf) (.seq (.reg [(53,Y4)]) .leaf)))
theorem F119_eq(a0:Tz0)(a1:El Y3)(a2:El Y3)(a3:El Y3)(a4:El Y3):(Zau (mkE tyTab mapTab pkTab [] [] F119M 65 bdTab) (Zai Tryz.f66) Tryz.f66.results F119H F119A F119R (fun y=>y.1.1) (a0,a1,a2,a3,a4,()) [(0,3,20)]:Option (Tz0))=F119 a0 a1 a2 a3 a4:=by kernel_rfl
theorem F119_ok:ZaQ Tryz.prog 66 F119S:=Zae (m:=F119M) (fn:=Tryz.f66) (hint:=F119H) (pack:=fun y=>y.1.1) Za2 tab_ok trivial fun x z h=>(F119_eq x.1 x.2.1 x.2.2.1 x.2.2.2.1 x.2.2.2.2.1).trans h
def F116: (Tz0)->(El Y51)->(El Y3)->Option (Tz0×El Y3):=fun a0 a1 a2=>
 Option.bind (Zar (decide (List.length a0.2.2.1+List.length [(a1,a2,())]<=Zaq))) fun _=>
 some
 ((a0.1,a0.2.1,a0.2.2.1++[(a1,a2,())],a0.2.2.2.1,a0.2.2.2.2.1,a0.2.2.2.2.2.1,a0.2.2.2.2.2.2.1,()),
 IntKind.wrap .i64 ((↑(List.length (a0.2.2.1++[(a1,a2,())])):Int) - (1:Int)))
abbrev F116A:Zam:=(.cons Pz1 (.cons (.pd Y51) (.cons (.pd Y3) .nil)))
abbrev F116R:Zam:=(.cons (.pd Y3) .nil)
def F116S:Tr.Spec:= {args:=F116A,res:=F116R,fns:=[],α:=Tz0×El Y3,f:=fun x=>F116 x.1 x.2.1 x.2.2.1,unp:=fun z=>((z.1,(),(),()),(z.2,())) }
def F116M:List (Nat×List Tr.Spec):=[]
def F116H:ZaT:= .leaf
theorem F116_eq(a0:Tz0)(a1:El Y51)(a2:El Y3):(Zau (mkE tyTab mapTab pkTab [] [] F116M 25 bdTab) (Zai Tryz.f73) Tryz.f73.results F116H F116A F116R (fun y=>(y.1.1,y.2.1)) (a0,a1,a2,()):Option (Tz0×El Y3))=F116 a0 a1 a2:=by kernel_rfl
theorem F116_ok:ZaQ Tryz.prog 73 F116S:=Zae (m:=F116M) (fn:=Tryz.f73) (hint:=F116H) (pack:=fun y=>(y.1.1,y.2.1)) Za2 tab_ok trivial fun x z h=>(F116_eq x.1 x.2.1 x.2.2.1).trans h
def F122: (Tz0)->(El Y3)->(El Y3)->(El Y3)->Option (Tz0):=fun a0 a1 a2 a3=>
 Option.bind
 (run
 (fun s0=>
 bif decide (s0.2< (↑(List.length a0.1.2.2.2.2.1):Int)) then
 (idx a0.1.2.2.2.2.1 s0.2).bind fun x1=>
 Option.bind (bif decide (x1.1=a1) then some (decide (IntKind.wrap .i64 (a2+x1.2.2.1)<=(3155932800:Int))) else some false)
 fun x2=>
 bif x2 then
 Option.bind
 (F116
 s0.1
 (false,(0:Int),(0:Int),(0:Int),a1,x1.2.1,a2,IntKind.wrap .i64 (a2+x1.2.2.1),false,()) a3)
 fun x3=>
 Option.bind
 (F119
 x3.1
 x1.2.1 (IntKind.wrap .i64 (a2+x1.2.2.1)) (IntKind.wrap .i64 (a2+x1.2.2.1)) x3.2)
 fun x4=>
 some
 (.inl
 (x4,
 IntKind.wrap .i64 (s0.2+(1:Int))))
 else
 some
 (.inl
 (s0.1,
 IntKind.wrap .i64 (s0.2+(1:Int))))
 else
 some
 (.inr s0.1))
 (a0,(0:Int)))
 fun x5=>some x5
abbrev F122A:Zam:=(.cons Pz1 (.cons (.pd Y3) (.cons (.pd Y3) (.cons (.pd Y3) .nil))))
abbrev F122R:Zam:= .nil
def F122S:Tr.Spec:= {args:=F122A,res:=F122R,fns:=[],α:=Tz0,f:=fun x=>F122 x.1 x.2.1 x.2.2.1 x.2.2.2.1,unp:=fun z=>((z,(),(),(),()),()) }
def F122M:List (Nat×List Tr.Spec):=[(66,[F119S]),(73,[F116S])]
def F122H:ZaT:=(.seq .leaf (.lp ⟨[(0,Pz1),(17,(.pd Y3))],[],[1,2,3,15,16],[],[],[]⟩ [((.exit 0),⟨[(0,Pz1)],[],[],[],[],[]⟩)] (.seq .leaf (.seq .leaf (.seq (.seq .leaf (.seq (.reg [(31,Y4)]) .leaf)) .leaf)))))
theorem F122_eq(a0:Tz0)(a1:El Y3)(a2:El Y3)(a3:El Y3):(Zau (mkE tyTab mapTab pkTab [] [] F122M 58 bdTab) (Zai Tryz.f65) Tryz.f65.results F122H F122A F122R (fun y=>y.1.1) (a0,a1,a2,a3,()):Option (Tz0))=F122 a0 a1 a2 a3:=by kernel_rfl
theorem F122_ok:ZaQ Tryz.prog 65 F122S:=Zae (m:=F122M) (fn:=Tryz.f65) (hint:=F122H) (pack:=fun y=>y.1.1) Za2 tab_ok ⟨⟨F119_ok,trivial⟩,⟨F116_ok,trivial⟩,trivial⟩ fun x z h=>(F122_eq x.1 x.2.1 x.2.2.1 x.2.2.2.1).trans h
def F123: (El Y31)->(El Y33)->Option (Tz0):=fun a0 a1=>
 Option.bind
 (Zar
 (decide
 ((0:El (Tr.Ty.int .i64))<=(↑(List.length a0.2.2.1):Int)/\
 (↑(List.length a0.2.2.1):Int)<=(↑(List.length a0.2.2.1):Int)/\(↑(List.length a0.2.2.1):Int)<=(↑Zaq:El (Tr.Ty.int .i64)))))
 fun _=>
 Option.bind
 (run
 (fun s1=>
 bif decide (s1.2< (↑(List.length a0.1):Int)) then
 Option.bind (Zar (decide (List.length s1.1.2.2.2.1+List.length [((-1:Int),(-1:Int),(-1:Int),(-1:Int),(-1:Int),())]<=Zaq))) fun _=>
 some
 (.inl
 ((s1.1.1,s1.1.2.1,s1.1.2.2.1,s1.1.2.2.2.1++[((-1:Int),(-1:Int),(-1:Int),(-1:Int),(-1:Int),())],s1.1.2.2.2.2.1,
 s1.1.2.2.2.2.2.1,s1.1.2.2.2.2.2.2.1,()),
 IntKind.wrap .i64 (s1.2+(1:Int))))
 else
 some
 (.inr s1.1))
 ((a0,a1,[],[],[],List.replicate (Int.toNat (↑(List.length a0.2.2.1):Int)) [],false,()),(0:Int)))
 fun x3=>
 Option.bind
 (run
 (fun s4=>
 bif decide (s4.2< (↑(List.length a0.2.2.1):Int)) then
 Option.bind (Zar (decide (List.length s4.1.2.2.2.2.1+List.length [((-1:Int),(-1:Int),false,())]<=Zaq))) fun _=>
 some
 (.inl
 ((s4.1.1,s4.1.2.1,s4.1.2.2.1,s4.1.2.2.2.1,s4.1.2.2.2.2.1++[((-1:Int),(-1:Int),false,())],
 s4.1.2.2.2.2.2.1,s4.1.2.2.2.2.2.2.1,()),
 IntKind.wrap .i64 (s4.2+(1:Int))))
 else
 some
 (.inr s4.1))
 (x3,(0:Int)))
 fun x6=>
 Option.bind
 (run
 (fun s7=>
 bif decide (s7.2< (↑(List.length a0.2.2.2.1):Int)) then
 (idx a0.2.2.2.1 s7.2).bind fun x8=>
 (inb x8.1 (List.length s7.1.2.2.2.2.2.1)).bind fun x9=>
 Option.bind s7.1.2.2.2.2.2.1[x9]? fun _=>
 (idx s7.1.2.2.2.2.2.1 (↑x9:Int)).bind fun x11=>
 Option.bind (Zar (decide (List.length x11+List.length [s7.2]<=Zaq))) fun _=>
 (inb x8.1 (List.length s7.1.2.2.2.2.2.1)).bind fun x13=>
 Option.bind (Zar (Zkc (some (Int.toNat (↑x9:Int))) x13)) fun _=>
 Option.bind s7.1.2.2.2.2.2.1[x13]? fun _=>
 some
 (.inl
 ((s7.1.1,s7.1.2.1,s7.1.2.2.1,s7.1.2.2.2.1,s7.1.2.2.2.2.1,List.set s7.1.2.2.2.2.2.1 x13 (x11++[s7.2]),
 s7.1.2.2.2.2.2.2.1,()),
 IntKind.wrap .i64 (s7.2+(1:Int))))
 else
 some
 (.inr
 s7.1))
 (x6,(0:Int)))
 fun x16=>
 Option.bind
 (bif a1.2.2.2.2.2.2.2.2.2.1 then
 (idx a0.1 a1.1).bind fun x17=>
 some
 (x16,
 IntKind.wrap .i64 (a1.2.2.1+x17.2.2.2.1))
 else some (x16,a1.2.2.1))
 fun x18=>
 Option.bind
 (F122
 x18.1
 a1.1 a1.2.2.1 (-1:Int))
 fun x19=>
 Option.bind
 (F119 x19 a1.1
 a1.2.2.1 x18.2 (-1:Int))
 fun x20=>some x20
abbrev F123A:Zam:=(.cons (.pd Y31) (.cons (.pd Y33) .nil))
abbrev F123R:Zam:=(.cons Pz1 .nil)
def F123S:Tr.Spec:= {args:=F123A,res:=F123R,fns:=[],α:=Tz0,f:=fun x=>F123 x.1 x.2.1,unp:=fun z=>(((),(),()),(z,())) }
def F123M:List (Nat×List Tr.Spec):=[(65,[F122S]),(66,[F119S])]
def F123H:ZaT:=(.seq .leaf (.seq .leaf (.seq (.seq .leaf (.lp ⟨[(5,Pz0),(20,(.pd Y3))],[],[2,3,19],[],[],[]⟩ [((.exit 0),⟨[(5,Pz0)],[],[2,3],[],[],[]⟩)] .leaf)) (.seq (.seq .leaf (.lp ⟨[(5,Pz0),(36,(.pd Y3))],[],[2,3,35],[],[],[]⟩ [((.exit 2),⟨[(5,Pz0)],[],[2,3],[],[],[]⟩)] .leaf)) (.seq (.seq .leaf (.lp ⟨[(5,Pz0),(52,(.pd Y3))],[],[2,3,50,51],[],[],[]⟩ [((.exit 4),⟨[(5,Pz0)],[],[2,3],[],[],[]⟩)] .leaf)) (.seq .leaf (.seq (.seq .leaf (.cnd (some (⟨[],[],[3],[],[],[]⟩,[(.normal,⟨[(5,Pz0),(8,(.pd Y3))],[],[3],[],[],[]⟩)])) .leaf .leaf)) .leaf)))))))
theorem F123_eq(a0:El Y31)(a1:El Y33):(Zau (mkE tyTab mapTab pkTab [69] [71] F123M 103 bdTab) (Zai Tryz.f40) Tryz.f40.results F123H F123A F123R (fun y=>y.2.1) (a0,a1,()):Option (Tz0))=F123 a0 a1:=by kernel_rfl
theorem F123_ok:ZaQ Tryz.prog 40 F123S:=Zae (m:=F123M) (fn:=Tryz.f40) (hint:=F123H) (pack:=fun y=>y.2.1) Za2 tab_ok ⟨⟨F122_ok,trivial⟩,⟨F119_ok,trivial⟩,trivial⟩ fun x z h=>(F123_eq x.1 x.2.1).trans h
def F5: (El Zih)->(El Zih)->Option (El Y3):=fun a0 a1=>
 Option.bind
 (run
 (fun s0=>
 bif decide (s0< (4:Int)) then
 (idx [[a0.2.2.2.2.1,a1.2.2.2.2.1],[a0.2.2.2.2.2.1,a1.2.2.2.2.2.1],[a0.1,a1.1],[a0.2.1,a1.2.1]] s0).bind fun x1=>
 Option.bind x1[Int.toNat (0:Int)]? fun x2=>
 Option.bind x1[Int.toNat (1:Int)]? fun x3=>
 bif decide (x2<x3) then some (.inr (.inr (-1:Int)))
 else
 Option.bind x1[Int.toNat (0:Int)]? fun x4=>
 Option.bind x1[Int.toNat (1:Int)]? fun x5=>
 bif decide (x5<x4) then some (.inr (.inr (1:Int))) else some (.inl (IntKind.wrap .i64 (s0+(1:Int))))
 else some (.inr (.inl ())))
 (0:Int))
 fun x6=>Sum.elim (fun _=>some (0:Int)) (fun y8=>some y8) x6
abbrev F5A:Zam:=(.cons (.pd Zih) (.cons (.pd Zih) .nil))
abbrev F5R:Zam:=(.cons (.pd Y3) .nil)
def F5S:Tr.Spec:= {args:=F5A,res:=F5R,fns:=[],α:=El Y3,f:=fun x=>F5 x.1 x.2.1,unp:=fun z=>(((),(),()),(z,())) }
def F5M:List (Nat×List Tr.Spec):=[]
def F5H:ZaT:=(.seq .leaf (.seq (.seq .leaf (.lp ⟨[(28,(.pd Y3))],[],[27],[],[],[]⟩ [((.exit 0),⟨[],[],[],[],[],[]⟩),(.ret,⟨[(4,(.pd Y3))],[],[],[],[],[]⟩)] .leaf)) .leaf))
theorem F5_eq(a0:El Zih)(a1:El Zih):(Zau (mkE tyTab mapTab pkTab [] [] F5M 42 bdTab) (Zai Tryz.f69) Tryz.f69.results F5H F5A F5R (fun y=>y.2.1) (a0,a1,()):Option (El Y3))=F5 a0 a1:=by kernel_rfl
theorem F5_ok:ZaQ Tryz.prog 69 F5S:=Zae (m:=F5M) (fn:=Tryz.f69) (hint:=F5H) (pack:=fun y=>y.2.1) Za2 tab_ok trivial fun x z h=>(F5_eq x.1 x.2.1).trans h
def F131(a0:List (El Zih))(_:Unit):Option (List (El Zih)):=Tr.sortF F5 a0
abbrev F131A:Zam:=(.cons (.own Zih true) (.cons (.fn 69 .nil) .nil))
abbrev F131R:Zam:= .nil
def F131S:Tr.Spec:= {args:=F131A,res:=F131R,fns:=[69],α:=List (El Zih),f:=fun x=>F131 x.1 x.2.1,unp:=fun z=>((z,(),()),()) }
theorem F131_ok:ZaQ Tryz.prog 68 F131S:=Tr.sortFunc_ok (ρ:=Tryz.sort68_ren) Tryz.sort68 rfl Tryz.isAgg104 Tryz.sizeOf104 F5_ok
def F6: (El Y31)->Option (El Y99×El Y37):=fun a0=>
 (F37 a0).bind fun x0=>
 bif !decide (x0.2.2=(0:Int)) then some ([],(21:Int))
 else
 Option.bind
 (run
 (fun s1=>
 bif decide (s1.2< (↑(List.length a0.2.2.1):Int)) then
 (idx a0.2.2.1 s1.2).bind fun x2=>
 bif x2.2.2.2.2.2.2.1 then some (.inl (s1.1,IntKind.wrap .i64 (s1.2+(1:Int))))
 else
 Option.bind
 (run
 (fun s3=>
 bif decide (s3.2<IntKind.wrap .i64 ((↑(List.length x2.2.2.2.2.2.2.2.1):Int) - (1:Int))) then
 (idx x2.2.2.2.2.2.2.2.1 s3.2).bind fun x4=>
 (idx x2.2.2.2.2.2.2.2.1 (IntKind.wrap .i64 (s3.2+(1:Int)))).bind fun x5=>
 Option.bind (Zar (decide (List.length s3.1+List.length [(s1.2,s3.2,x4.1,x5.1,x4.2.2.1,x5.2.1,())]<=Zaq))) fun _=>
 some (.inl (s3.1++[(s1.2,s3.2,x4.1,x5.1,x4.2.2.1,x5.2.1,())],IntKind.wrap .i64 (s3.2+(1:Int))))
 else some (.inr s3.1))
 (s1.1,(0:Int)))
 fun x7=>some (.inl (x7,IntKind.wrap .i64 (s1.2+(1:Int))))
 else some (.inr s1.1))
 ([],(0:Int)))
 fun x8=>(F131 x8 ()).bind fun x9=>some (x9,(0:Int))
abbrev F6A:Zam:=(.cons (.pd Y31) .nil)
abbrev F6R:Zam:=(.cons (.pd Y99) (.cons (.pd Y37) .nil))
def F6S:Tr.Spec:= {args:=F6A,res:=F6R,fns:=[],α:=El Y99×El Y37,f:=fun x=>F6 x.1,unp:=fun z=>(((),()),(z.1,z.2,())) }
def F6M:List (Nat×List Tr.Spec):=[(67,[F37S]),(68,[F131S]),(69,[F5S])]
def F6H:ZaT:=(.seq .leaf (.seq .leaf (.seq .leaf (.seq .leaf (.seq .leaf (.seq (.seq .leaf (.lp ⟨[(7,(.own Zih false)),(24,(.pd Y3))],[],[22,23],[],[],[]⟩ [((.exit 0),⟨[(7,(.own Zih false))],[],[],[],[],[]⟩)] (.seq .leaf (.seq .leaf (.seq (.seq .leaf (.seq .leaf (.seq .leaf (.lp ⟨[(7,(.own Zih false)),(35,(.pd Y3))],[],[8,9,22,23,24,34],[],[],[]⟩ [((.exit 2),⟨[(7,(.own Zih false))],[],[22,23,24],[],[],[]⟩)] .leaf)))) .leaf))))) .leaf))))))
theorem F6_eq(a0:El Y31):(Zau (mkE tyTab mapTab pkTab [] [] F6M 68 bdTab) (Zai Tryz.f41) Tryz.f41.results F6H F6A F6R (fun y=>(y.2.1,y.2.2.1)) (a0,()):Option (El Y99×El Y37))=F6 a0:=by kernel_rfl
theorem F6_ok:ZaQ Tryz.prog 41 F6S:=Zae (m:=F6M) (fn:=Tryz.f41) (hint:=F6H) (pack:=fun y=>(y.2.1,y.2.2.1)) Za2 tab_ok ⟨⟨F37_ok,trivial⟩,⟨F131_ok,trivial⟩,⟨F5_ok,trivial⟩,trivial⟩ fun x z h=>(F6_eq x.1).trans h
def F8: (El Y3)->(El Y99)->(El Y3)->Option (El Y4):=fun a0 a1 a2=>(idx a1 a0).bind fun x0=>some (decide (a2<x0.2.2.2.2.1))
abbrev F8A:Zam:=(.cons (.pd Y3) (.cons (.ro Y99) (.cons (.ro Y3) .nil)))
abbrev F8R:Zam:=(.cons (.pd Y4) .nil)
def F8S:Tr.Spec:= {args:=F8A,res:=F8R,fns:=[],α:=El Y4,f:=fun x=>F8 x.1 x.2.1 x.2.2.1,unp:=fun z=>(((),(),(),()),(z,())) }
def F8M:List (Nat×List Tr.Spec):=[]
def F8H:ZaT:= .leaf
theorem F8_eq(a0:El Y3)(a1:El Y99)(a2:El Y3):(Zau (mkE tyTab mapTab pkTab [] [] F8M 12 bdTab) (Zai Tryz.f71) Tryz.f71.results F8H F8A F8R (fun y=>y.2.1) (a0,a1,a2,()):Option (El Y4))=F8 a0 a1 a2:=by kernel_rfl
theorem F8_ok:ZaQ Tryz.prog 71 F8S:=Zae (m:=F8M) (fn:=Tryz.f71) (hint:=F8H) (pack:=fun y=>y.2.1) Za2 tab_ok trivial fun x z h=>(F8_eq x.1 x.2.1 x.2.2.1).trans h
def F9: (El Y3)->((El Y99×El Y3×Unit))->Option (El Y3):=fun a0 a1=>
 Option.bind
 (run
 (fun s0=>
 bif decide (s0.1<s0.2) then
 (F8 (IntKind.wrap .i64 (Int.tdiv (IntKind.wrap .i64 (s0.1+s0.2)) (2:Int))) a1.1 a1.2.1).bind fun x1=>
 bif x1 then some (.inl (s0.1,IntKind.wrap .i64 (Int.tdiv (IntKind.wrap .i64 (s0.1+s0.2)) (2:Int))))
 else some (.inl (IntKind.wrap .i64 (IntKind.wrap .i64 (Int.tdiv (IntKind.wrap .i64 (s0.1+s0.2)) (2:Int))+(1:Int)),s0.2))
 else some (.inr s0.1))
 ((0:Int),a0))
 fun x2=>some x2
abbrev F9A:Zam:=(.cons (.pd Y3) (.cons (.fn 71 (.cons (.ro Y99) (.cons (.ro Y3) .nil))) .nil))
abbrev F9R:Zam:=(.cons (.pd Y3) .nil)
def F9S:Tr.Spec:= {args:=F9A,res:=F9R,fns:=[71],α:=El Y3,f:=fun x=>F9 x.1 x.2.1,unp:=fun z=>(((),((),(),()),()),(z,())) }
def F9M:List (Nat×List Tr.Spec):=[(71,[F8S])]
def F9H:ZaT:=(.seq .leaf (.seq .leaf (.seq (.lp ⟨[(5,(.pd Y3)),(6,(.pd Y3))],[],[1],[],[],[]⟩ [((.exit 0),⟨[(5,(.pd Y3))],[],[1],[],[],[]⟩)] .leaf) .leaf)))
theorem F9_eq(a0:El Y3)(a1: (El Y99×El Y3×Unit)):(Zau (mkE tyTab mapTab pkTab [] [] F9M 23 bdTab) (Zai Tryz.f70) Tryz.f70.results F9H F9A F9R (fun y=>y.2.1) (a0,a1,()):Option (El Y3))=F9 a0 a1:=by kernel_rfl
theorem F9_ok:ZaQ Tryz.prog 70 F9S:=Zae (m:=F9M) (fn:=Tryz.f70) (hint:=F9H) (pack:=fun y=>y.2.1) Za2 tab_ok ⟨⟨F8_ok,trivial⟩,trivial⟩ fun x z h=>(F9_eq x.1 x.2.1).trans h
def F7: (El Y99)->(El Y3)->Option (El Y3):=fun a0 a1=>(F9 (↑(List.length a0):Int) (a0,a1,())).bind fun x0=>some x0
abbrev F7A:Zam:=(.cons (.pd Y99) (.cons (.pd Y3) .nil))
abbrev F7R:Zam:=(.cons (.pd Y3) .nil)
def F7S:Tr.Spec:= {args:=F7A,res:=F7R,fns:=[],α:=El Y3,f:=fun x=>F7 x.1 x.2.1,unp:=fun z=>(((),(),()),(z,())) }
def F7M:List (Nat×List Tr.Spec):=[(70,[F9S]),(71,[F8S])]
def F7H:ZaT:= .leaf
theorem F7_eq(a0:El Y99)(a1:El Y3):(Zau (mkE tyTab mapTab pkTab [] [] F7M 9 bdTab) (Zai Tryz.f42) Tryz.f42.results F7H F7A F7R (fun y=>y.2.1) (a0,a1,()):Option (El Y3))=F7 a0 a1:=by kernel_rfl
theorem F7_ok:ZaQ Tryz.prog 42 F7S:=Zae (m:=F7M) (fn:=Tryz.f42) (hint:=F7H) (pack:=fun y=>y.2.1) Za2 tab_ok ⟨⟨F9_ok,trivial⟩,⟨F8_ok,trivial⟩,trivial⟩ fun x z h=>(F7_eq x.1 x.2.1).trans h
def F117: (Tz0)->(El Y3)->(El Zry)->Option (Tz0):=fun a0 a1 a2=>
 (inb a1 (List.length a0.2.2.2.2.1)).bind fun x0=>
 Option.bind
 ((idx a0.1.2.2.1 a1).bind fun x1=>
 bif x1.2.2.2.2.2.2.1 then some true
 else
 Option.bind a0.2.2.2.2.1[x0]? fun x2=>
 bif !decide (x2.1=(-1:Int)) then Option.bind a0.2.2.2.2.1[x0]? fun x3=>some (decide (x3.1<=a2.1)) else some false)
 fun x4=>
 bif x4 then some a0
 else
 Option.bind a0.2.2.2.2.1[x0]? fun _=>
 some (a0.1,a0.2.1,a0.2.2.1,a0.2.2.2.1,List.set a0.2.2.2.2.1 x0 a2,a0.2.2.2.2.2.1,true,())
abbrev F117A:Zam:=(.cons Pz1 (.cons (.pd Y3) (.cons (.pd Zry) .nil)))
abbrev F117R:Zam:= .nil
def F117S:Tr.Spec:= {args:=F117A,res:=F117R,fns:=[],α:=Tz0,f:=fun x=>F117 x.1 x.2.1 x.2.2.1,unp:=fun z=>((z,(),(),()),()) }
def F117M:List (Nat×List Tr.Spec):=[]
def F117H:ZaT:=(.seq .leaf (.seq .leaf (.seq (.seq (.reg [(37,Y4)]) .leaf) .leaf)))
theorem F117_eq(a0:Tz0)(a1:El Y3)(a2:El Zry):(Zau (mkE tyTab mapTab pkTab [] [] F117M 44 bdTab) (Zai Tryz.f72) Tryz.f72.results F117H F117A F117R (fun y=>y.1.1) (a0,a1,a2,()):Option (Tz0))=F117 a0 a1 a2:=by kernel_rfl
theorem F117_ok:ZaQ Tryz.prog 72 F117S:=Zae (m:=F117M) (fn:=Tryz.f72) (hint:=F117H) (pack:=fun y=>y.1.1) Za2 tab_ok trivial fun x z h=>(F117_eq x.1 x.2.1 x.2.2.1).trans h
def F118: (Tz0)->(El Y3)->(El Y3)->(El Y3)->(El Y4)->Option (Tz0):=fun a0 a1 a2 a3 a4=>
 (idx a0.1.2.2.1 a1).bind fun x0=>
 (idx x0.2.2.2.2.2.2.2.1 a2).bind fun x1=>
 (idx a0.2.2.2.2.2.1 a1).bind fun x2=>
 Option.bind
 (run
 (fun s3=>
 bif decide (s3.2< (↑(List.length x2):Int)) then
 (idx x2 s3.2).bind fun x4=>
 (idx s3.1.1.2.2.2.1 x4).bind fun x5=>
 (idx s3.1.1.2.2.1 x5.2.2.1).bind fun x6=>
 (idx x6.2.2.2.2.2.2.2.1 x5.2.2.2.1).bind fun x7=>
 Option.bind
 (bif decide (x5.2.1=a2) then
 bif decide (x1.2.1<=x7.2.2.1) then
 bif x5.2.2.2.2.1 then some true else bif a4 then some x7.2.2.2.1 else some false
 else some false
 else some false)
 fun x8=>
 bif x8 then
 Option.bind
 (F117
 s3.1
 x5.2.2.1 (x5.2.2.2.1,a3,x5.2.2.2.2.1,()))
 fun x9=>
 some
 (.inl
 (x9,
 IntKind.wrap .i64 (s3.2+(1:Int))))
 else
 some
 (.inl
 (s3.1,
 IntKind.wrap .i64 (s3.2+(1:Int))))
 else
 some
 (.inr
 s3.1))
 (a0,(0:Int)))
 fun x10=>some x10
abbrev F118A:Zam:=(.cons Pz1 (.cons (.pd Y3) (.cons (.pd Y3) (.cons (.pd Y3) (.cons (.pd Y4) .nil)))))
abbrev F118R:Zam:= .nil
def F118S:Tr.Spec:= {args:=F118A,res:=F118R,fns:=[],α:=Tz0,f:=fun x=>F118 x.1 x.2.1 x.2.2.1 x.2.2.2.1 x.2.2.2.2.1,unp:=fun z=>((z,(),(),(),(),()),()) }
def F118M:List (Nat×List Tr.Spec):=[(72,[F117S])]
def F118H:ZaT:=(.seq .leaf (.seq .leaf (.lp ⟨[(0,Pz1),(36,(.pd Y3))],[],[2,3,4,10,34,35],[],[],[]⟩ [((.exit 0),⟨[(0,Pz1)],[],[],[],[],[]⟩)] (.seq .leaf (.seq .leaf (.seq (.seq .leaf (.seq .leaf (.seq .leaf (.seq (.reg [(82,Y4)]) .leaf)))) .leaf))))))
theorem F118_eq(a0:Tz0)(a1:El Y3)(a2:El Y3)(a3:El Y3)(a4:El Y4):(Zau (mkE tyTab mapTab pkTab [] [] F118M 94 bdTab) (Zai Tryz.f74) Tryz.f74.results F118H F118A F118R (fun y=>y.1.1) (a0,a1,a2,a3,a4,()):Option (Tz0))=F118 a0 a1 a2 a3 a4:=by kernel_rfl
theorem F118_ok:ZaQ Tryz.prog 74 F118S:=Zae (m:=F118M) (fn:=Tryz.f74) (hint:=F118H) (pack:=fun y=>y.1.1) Za2 tab_ok ⟨⟨F117_ok,trivial⟩,trivial⟩ fun x z h=>(F118_eq x.1 x.2.1 x.2.2.1 x.2.2.2.1 x.2.2.2.2.1).trans h
end
end Q
