/- The functions of the program as functions of Lean, and that the program computes them; printed by a program of mine. Conditions: none. -/
import Derived.KernelRfl
import Derived.Test.YtibiblkamaajeaaGreatProg
import Derived.Test.YtibiblkamaajeaaGreatTsE
import Derived.Test.YtibiblkamaajeaaGreatTtB
import Derived.Test.YtibiblkamaajeaaGreatLay41
import Derived.Test.YtibiblkamaajeaaGreatUse41
open Tr Go Go.Proofs
open Int renaming toNat ->Vk,tdiv ->Vm
open Go.IntKind renaming wrap ->Vc
open List renaming length ->Vb,set ->Vd,take ->Ve,drop ->Vg,replicate ->Vj,isEmpty ->Vn
open Option renaming bind ->Va,getD ->Vf,isSome ->Vl
open Sum renaming elim ->Vh
open UInt8 renaming toNat ->Vi
namespace Q
noncomputable section
abbrev hS(h:Zif):Zif:= .seq .leaf h
abbrev Y3:Ty:= .int .i64
abbrev Y4:Ty:= .bool
abbrev Y9:Ty:= .str
abbrev Y83:Ty:= .prod Y9 (.prod Y3 (.prod Y4 (.prod Y3 .unit)))
abbrev Y22:Ty:= .sl Y83
abbrev Y85:Ty:= .prod Y9 (.prod Y3 (.prod Y4 .unit))
abbrev Y23:Ty:= .sl Y85
abbrev Y87:Ty:= .prod Y3 (.prod Y3 (.prod Y3 (.prod Y4 (.prod Y4 .unit))))
abbrev Y58:Ty:= .sl Y87
abbrev Y60:Ty:= .prod Y3 (.prod Y3 (.prod Y3 (.prod Y9 (.prod Y3 (.prod Y4 (.prod Y4 (.prod Y58 .unit)))))))
abbrev Y24:Ty:= .sl Y60
abbrev Y63:Ty:= .prod Y3 (.prod Y3 (.prod Y3 (.prod Y3 (.prod Y4 .unit))))
abbrev Y25:Ty:= .sl Y63
abbrev Y79:Ty:= .prod Y3 (.prod Y3 (.prod Y3 (.prod Y4 .unit)))
abbrev Y26:Ty:= .sl Y79
abbrev Zva:Ty:= .prod Y9 (.prod Y3 (.prod Y3 (.prod Y3 (.prod Y3 (.prod Y3 .unit)))))
abbrev Y27:Ty:= .sl Zva
abbrev Y29:Ty:= .prod Y27 (.prod Y3 (.prod Y3 (.prod Y3 .unit)))
abbrev Y31:Ty:= .prod Y22 (.prod Y23 (.prod Y24 (.prod Y25 (.prod Y26 (.prod Y29 .unit)))))
abbrev Y33:Ty:= .prod Y3 (.prod Y3 (.prod Y3 (.prod Y4 (.prod Y3 (.prod Y3 (.prod Y4 (.prod Y4 (.prod Y3 (.prod Y4 .unit)))))))))
abbrev Y36:Ty:= .int .i64
abbrev Y52:Ty:= .sl Y3
abbrev Y38:Ty:= .sl Y52
abbrev Y66:Ty:= .prod Y4 (.prod Y3 (.prod Y3 (.prod Y3 (.prod Y3 (.prod Y3 (.prod Y3 (.prod Y3 (.prod Y4 .unit))))))))
abbrev Y41:Ty:= .sl Y66
abbrev Y43:Ty:= .prod Y41 .unit
abbrev Y50:Ty:= .sl Y43
abbrev Y74:Ty:= .prod Y3 (.prod Y3 (.prod Y3 (.prod Y3 (.prod Y3 (.prod Y3 .unit)))))
abbrev Y72:Ty:= .sl Y74
abbrev Y69:Ty:= .sl Y72
abbrev ZjR:Ty:= .prod Y3 (.prod Y3 (.prod Y4 .unit))
abbrev Y95:Ty:= .sl ZjR
abbrev Zwo:Ty:= .prod Y66 (.prod Y3 .unit)
abbrev Y97:Ty:= .sl Zwo
abbrev Y99:Ty:= .prod Y31 (.prod Y97 (.prod Y72 (.prod Y95 (.prod Y95 (.prod Y52 (.prod Y38 .unit))))))
abbrev ZwF:Ty:= .prod Y3 (.prod Y3 (.prod Y3 (.prod Y3 (.prod Y3 .unit))))
abbrev ZwR:Ty:= .prod Y3 (.prod Y3 (.prod Y3 (.prod Y3 .unit)))
abbrev Zvi:Ty:= .sl ZwR
abbrev Zxz:Ty:= .prod Y3 (.prod Y3 (.prod Y3 (.prod Y3 .unit)))
abbrev ZrB:Ty:= .sl Zxz
abbrev Zdj:Ty:= .prod Y3 (.prod Y3 (.prod Y36 .unit))
abbrev Zvd:Ty:= .prod Y4 (.prod Y3 (.prod Zvi .unit))
abbrev Zye:Ty:= .sl Zvd
abbrev Zx9:Ty:= .ref
abbrev ZxR:Ty:= .sl Zdj
abbrev ZtH:Ty:= .prod Y9 (.prod Y3 (.prod Y3 .unit))
abbrev Zx5:Ty:= .ref
abbrev Zyf:Ty:= .ref
abbrev Zyb:Ty:= .ref
abbrev ZlT:Ty:= .arr 4 Y3
abbrev Zya:Ty:= .ref
abbrev Zyi:Ty:= .ref
abbrev Zx0:Ty:= .int .u64
abbrev Zmm:Ty:= .prod Y3 (.prod Y3 (.prod Y4 .unit))
abbrev Zyh:Ty:= .ref
abbrev Zx2:Ty:= .ref
abbrev Znt:Ty:= .prod Y3 (.prod Y3 (.prod Y3 .unit))
abbrev Zu4:Ty:= .sl Znt
abbrev Zx1:Ty:= .ref
abbrev ZlK:Ty:= .prod Y3 (.prod Y3 (.prod Y3 .unit))
abbrev ZwC:Ty:= .sl ZlK
abbrev ZxZ:Ty:= .ref
abbrev Zxp:Ty:= .prod ZlK (.prod Y3 .unit)
abbrev ZxV:Ty:= .sl Zxp
abbrev ZxI:Ty:= .prod ZxZ (.prod ZxV (.prod Y3 .unit))
def tyTab:List (Nat×Ty):=[(3,Y3),(4,Y4),(9,Y9),(83,Y83),(22,Y22),(85,Y85),(23,Y23),(87,Y87),(58,Y58),(60,Y60),(24,Y24),(63,Y63),(25,Y25),(79,Y79),(26,Y26),(109,Zva),(27,Y27),(29,Y29),(31,Y31),(33,Y33),(36,Y36),(52,Y52),(38,Y38),(66,Y66),(41,Y41),(43,Y43),(50,Y50),(74,Y74),(72,Y72),(69,Y69),(122,ZjR),(95,Y95),(104,Zwo),(97,Y97),(99,Y99),(133,ZwF),(177,ZwR),(134,Zvi),(169,Zxz),(155,ZrB),(163,Zdj),(173,Zvd),(171,Zye),(178,Zx9),(179,ZxR),(183,ZtH),(180,Zx5),(184,Zyf),(185,Zyb),(188,ZlT),(186,Zya),(190,Zyi),(195,Zx0),(198,Zmm),(196,Zyh),(203,Zx2),(206,Znt),(204,Zu4),(212,Zx1),(228,ZlK),(215,ZwC),(231,ZxZ),(245,Zxp),(241,ZxV),(243,ZxI)]
def mapTab:List (Nat×Ty×Ty):=[(178,Y9,Y4),(180,ZtH,Y4),(184,Y3,Y3),(185,Y3,Y4),(186,ZlT,Y4),(190,Y79,Y4),(196,Zmm,Y4),(203,Zmm,Y3),(212,Y3,Zu4)]
def pkTab:List (Nat×Nat):=[(229,1),(231,2)]
def bdTab:List (Nat×Nat):=[]
theorem Za1:Tryz.prog.follows .mixedOrders=true:=by kernel_rfl
theorem tab_ok:Zt1 Tryz.prog tyTab mapTab pkTab bdTab=true:=by kernel_rfl
abbrev Zyk:Pat:= .agg (.cons (.fn 160 .nil) (.cons (.own Zxp true) (.cons (.pd Y3) .nil)))
abbrev Zyc:Pat:= .agg (.cons (.fn 160 .nil) (.cons (.own Zxp false) (.cons (.pd Y3) .nil)))
abbrev Pz9:Pat:= .var ZxI Zyk
abbrev Pz8:Pat:= .var ZxI Zyc
abbrev Pz7:Pat:= .agg (.cons (.pd Y22) (.cons (.pd Y23) (.cons (.own Y60 false) (.cons (.pd Y25) (.cons (.pd Y26) (.cons (.pd Y29) .nil))))))
abbrev Pz6:Pat:= .var Y31 Pz7
abbrev Pz5:Pat:= .agg (.cons (.pd Y31) (.cons (.own Zwo false) (.cons (.pd Y72) (.cons (.own ZjR false) (.cons (.own ZjR false) (.cons (.own Y3 false) (.cons (.pd Y38) .nil)))))))
abbrev Pz4:Pat:= .agg (.cons (.pd Y31) (.cons (.own Zwo false) (.cons (.own Y74 false) (.cons (.own ZjR false) (.cons (.own ZjR false) (.cons (.own Y3 false) (.cons (.pd Y38) .nil)))))))
abbrev Pz3:Pat:= .var Y99 Pz5
abbrev Pz2:Pat:= .agg (.cons (.pd Y31) (.cons (.own Zwo false) (.cons (.own Y74 false) (.cons (.own ZjR false) (.cons (.own ZjR false) (.cons (.own Y3 false) (.cons (.rows Y3 false) .nil)))))))
abbrev Pz1:Pat:= .var Y99 Pz4
abbrev Pz0:Pat:= .var Y99 Pz2
abbrev Tz3:=Unit×List (El Zxp) ×El Y3×Unit
abbrev Tz2:=El Y22×El Y23×List (El Y60) ×El Y25×El Y26×El Y29×Unit
abbrev Tz1:=El Y31×List (El Zwo) ×El Y72×List (El ZjR) ×List (El ZjR) ×List (El Y3) ×El Y38×Unit
abbrev Tz0:=El Y31×List (El Zwo) ×List (El Y74) ×List (El ZjR) ×List (El ZjR) ×List (El Y3) ×El Y38×Unit
def F25: (El Y9)->Option (El Y4):=fun a0=>
 Va
 (run
 (fun s0=>
 bif decide (s0< (↑(Vb a0):Int)) then
 Va (idx a0 s0) fun x1=>
 Va (bif decide ((97:Int)<=(↑(Vi x1):Int)) then some (decide ((↑(Vi x1):Int)<=(122:Int))) else some false)
 fun x2=>
 Va
 (bif x2 then some x2
 else
 Va (bif decide ((65:Int)<=(↑(Vi x1):Int)) then some (decide ((↑(Vi x1):Int)<=(90:Int))) else some false)
 fun x3=>
 Va
 (bif x3 then some x3
 else
 Va
 (bif decide ((48:Int)<=(↑(Vi x1):Int)) then some (decide ((↑(Vi x1):Int)<=(57:Int))) else some false)
 fun x4=>some x4)
 fun x5=>some x5)
 fun x6=>
 bif x6 then some (.inl (Vc .i64 (s0+(1:Int))))
 else
 Va
 (bif decide ((↑(Vi x1):Int)=(45:Int)) then some (decide ((↑(Vi x1):Int)=(45:Int)))
 else
 Va
 (bif decide ((↑(Vi x1):Int)=(95:Int)) then some (decide ((↑(Vi x1):Int)=(95:Int)))
 else some (decide ((↑(Vi x1):Int)=(46:Int))))
 fun x7=>some x7)
 fun x8=>bif x8 then some (.inl (Vc .i64 (s0+(1:Int)))) else some (.inr (.inr false))
 else some (.inr (.inl ())))
 (0:Int))
 fun x9=>
 Vh
 (fun _=>
 Va (bif decide ((0:Int)< (↑(Vb a0):Int)) then some (decide ((↑(Vb a0):Int)<=(32:Int))) else some false) fun x11=>
 some x11)
 (fun y12=>some y12) x9
def F25S:Tr.Spec:= {args:=(.cons (.pd Y9) .nil),res:=(.cons (.pd Y4) .nil),fns:=[],α:=El Y4,f:=fun x=>F25 x.1,unp:=fun z=>(((),()),(z,())) }
theorem F25_ok:ZaS Tryz.prog 122 F25S:=Zad (rws:=[]) (zxs:=[]) (nt:=48) (m:=[]) (fn:=Tryz.f122) (hint:=(hS (.seq (hS (.lp ⟨[(3,(.pd Y3))],[],[0],[],[],[]⟩ [((.exit 0),⟨[],[],[0],[],[],[]⟩),(.ret,⟨[(2,(.pd Y4))],[],[],[],[],[]⟩)] (hS (.seq (hS (.seq (.seq (.reg [(14,Y4)]) (.cnd (some (⟨[],[],[0,3,4],[],[],[]⟩,[(.normal,⟨[(14,(.pd Y4))],[],[0,3,4],[],[],[]⟩)])) .leaf (.seq (.reg [(14,Y4)]) (.cnd (some (⟨[],[],[0,3,4],[],[],[]⟩,[(.normal,⟨[(14,(.pd Y4))],[],[0,3,4],[],[],[]⟩)])) .leaf (.reg [(14,Y4)]))))) (.cnd none .leaf (.seq (hS (.cnd (some (⟨[],[],[0,3],[],[],[]⟩,[(.normal,⟨[(33,(.pd Y4))],[],[0,3],[],[],[]⟩)])) .leaf (hS (.cnd (some (⟨[],[],[0,3],[],[],[]⟩,[(.normal,⟨[(33,(.pd Y4))],[],[0,3],[],[],[]⟩)])) .leaf .leaf)))) .leaf)))) .leaf)))) (.seq (.reg [(2,Y4)]) .leaf)))) (pack:=fun y=>y.2.1) Za1 tab_ok trivial fun x z h=> .trans (by kernel_rfl) h
def F137: (El Y22)->Option (El Y3×El Y36):=fun a0=>
 bif decide ((64:Int)< (↑(Vb a0):Int)) then some ((0:Int),(5:Int))
 else
 Va
 (run
 (fun s0=>
 bif decide (s0.2< (↑(Vb a0):Int)) then
 Va (idx a0 s0.2) fun x1=>
 Va (F25 x1.1) fun x2=>
 bif !x2 then some (.inr (.inr (s0.2,(12:Int))))
 else
 bif Vf (ZaK (Zaq Y9) x1.1 s0.1) (false) then some (.inr (.inr (s0.2,(6:Int))))
 else
 Va
 (bif decide (x1.2.1< (0:Int)) then some true
 else
 bif decide ((16:Int)<=x1.2.1) then some true
 else bif decide (x1.2.2.2.1< (0:Int)) then some true else some (decide ((3600:Int)<x1.2.2.2.1)))
 fun x3=>
 bif x3 then some (.inr (.inr (s0.2,(2:Int))))
 else some (.inl (Zbc (Zaq Y9) x1.1 true s0.1,Vc .i64 (s0.2+(1:Int))))
 else some (.inr (.inl ())))
 ([],(0:Int)))
 fun x4=>Vh (fun _=>some ((0:Int),(0:Int))) (fun y6=>some (y6.1,y6.2)) x4
def F137S:Tr.Spec:= {args:=(.cons (.pd Y22) .nil),res:=(.cons (.pd Y3) (.cons (.pd Y36) .nil)),fns:=[],α:=El Y3×El Y36,f:=fun x=>F137 x.1,unp:=fun z=>(((),()),(z.1,z.2,())) }
theorem F137_ok:ZaS Tryz.prog 111 F137S:=Zad (rws:=[]) (zxs:=[]) (nt:=54) (m:=[(122,[F25S])]) (fn:=Tryz.f111) (hint:=(hS (hS (hS (.seq (hS (.lp ⟨[(4,(.map Y9 Y4)),(13,(.pd Y3))],[],[11,12],[],[],[]⟩ [((.exit 0),⟨[],[],[],[],[],[]⟩),(.ret,⟨[(2,(.pd Y3)),(3,(.pd Y36))],[],[],[],[],[]⟩)] (hS (hS (.seq (hS (.seq (hS (.cnd none .leaf (hS (.cnd none .leaf (.seq (.reg [(30,Y4)]) .leaf))))) .leaf)) .leaf))))) .leaf))))) (pack:=fun y=>(y.2.1,y.2.2.1)) Za1 tab_ok ⟨⟨F25_ok,trivial⟩,trivial⟩ fun x z h=> .trans (by kernel_rfl) h
def F128: (El Y3)->Option (El Y4):=fun a0=>Va (bif decide ((0:Int)<=a0) then some (decide (a0< (8:Int))) else some false) fun x0=>some x0
def F128S:Tr.Spec:= {args:=(.cons (.pd Y3) .nil),res:=(.cons (.pd Y4) .nil),fns:=[],α:=El Y4,f:=fun x=>F128 x.1,unp:=fun z=>(((),()),(z,())) }
theorem F128_ok:ZaS Tryz.prog 123 F128S:=Zad (rws:=[]) (zxs:=[]) (nt:=9) (m:=[]) (fn:=Tryz.f123) (hint:=(hS (.seq (.reg [(2,Y4)]) .leaf))) (pack:=fun y=>y.2.1) Za1 tab_ok trivial fun x z h=> .trans (by kernel_rfl) h
def F127: (El Y23)->Option (El Y3×El Y36):=fun a0=>
 bif decide ((64:Int)< (↑(Vb a0):Int)) then some ((0:Int),(5:Int))
 else
 Va
 (run
 (fun s0=>
 bif decide (s0.2< (↑(Vb a0):Int)) then
 Va (idx a0 s0.2) fun x1=>
 Va (F25 x1.1) fun x2=>
 bif !x2 then some (.inr (.inr (s0.2,(12:Int))))
 else
 bif Vf (ZaK (Zaq Y9) x1.1 s0.1) (false) then some (.inr (.inr (s0.2,(6:Int))))
 else
 Va (F128 x1.2.1) fun x3=>
 bif !x3 then some (.inr (.inr (s0.2,(2:Int))))
 else some (.inl (Zbc (Zaq Y9) x1.1 true s0.1,Vc .i64 (s0.2+(1:Int))))
 else some (.inr (.inl ())))
 ([],(0:Int)))
 fun x4=>Vh (fun _=>some ((0:Int),(0:Int))) (fun y6=>some (y6.1,y6.2)) x4
def F127S:Tr.Spec:= {args:=(.cons (.pd Y23) .nil),res:=(.cons (.pd Y3) (.cons (.pd Y36) .nil)),fns:=[],α:=El Y3×El Y36,f:=fun x=>F127 x.1,unp:=fun z=>(((),()),(z.1,z.2,())) }
theorem F127_ok:ZaS Tryz.prog 112 F127S:=Zad (rws:=[]) (zxs:=[]) (nt:=37) (m:=[(122,[F25S]),(123,[F128S])]) (fn:=Tryz.f112) (hint:=(hS (hS (hS (.seq (hS (.lp ⟨[(4,(.map Y9 Y4)),(13,(.pd Y3))],[],[11,12],[],[],[]⟩ [((.exit 0),⟨[],[],[],[],[],[]⟩),(.ret,⟨[(2,(.pd Y3)),(3,(.pd Y36))],[],[],[],[],[]⟩)] .leaf)) .leaf))))) (pack:=fun y=>(y.2.1,y.2.2.1)) Za1 tab_ok ⟨⟨F25_ok,trivial⟩,⟨F128_ok,trivial⟩,trivial⟩ fun x z h=> .trans (by kernel_rfl) h
def F44: (El ZxR)->Option (El Zdj):=fun a0=>
 Va
 (run
 (fun s0=>
 bif decide (s0.2< (↑(Vb a0):Int)) then
 Va (idx a0 s0.2) fun x1=>
 bif !decide (x1.2.2.1=(0:Int)) then some (.inr (.inr x1)) else some (.inl (s0.1,Vc .i64 (s0.2+(1:Int))))
 else some (.inr (.inl s0.1)))
 (((0:Int),(0:Int),(0:Int),()),(0:Int)))
 fun x2=>Vh (fun _=>some ((0:Int),(0:Int),(0:Int),())) (fun y4=>some y4) x2
def F44S:Tr.Spec:= {args:=(.cons (.pd ZxR) .nil),res:=(.cons (.pd Zdj) .nil),fns:=[],α:=El Zdj,f:=fun x=>F44 x.1,unp:=fun z=>(((),()),(z,())) }
theorem F44_ok:ZaS Tryz.prog 113 F44S:=Zad (rws:=[]) (zxs:=[]) (nt:=17) (m:=[]) (fn:=Tryz.f113) (hint:=(hS (.seq (hS (.lp ⟨[(2,(.var Zdj (.pd Zdj))),(7,(.pd Y3))],[],[5,6],[],[],[]⟩ [((.exit 0),⟨[(2,(.var Zdj (.pd Zdj)))],[],[],[],[],[]⟩),(.ret,⟨[(2,(.var Zdj (.pd Zdj)))],[],[],[],[],[]⟩)] .leaf)) .leaf))) (pack:=fun y=>y.2.1) Za1 tab_ok trivial fun x z h=> .trans (by kernel_rfl) h
def F53: (El Y3)->(El Y3)->(El Y36)->Option (El Zdj):=fun a0 a1 a2=>some (a0,a1,a2,())
def F53S:Tr.Spec:= {args:=(.cons (.pd Y3) (.cons (.pd Y3) (.cons (.pd Y36) .nil))),res:=(.cons (.pd Zdj) .nil),fns:=[],α:=El Zdj,f:=fun x=>F53 x.1 x.2.1 x.2.2.1,unp:=fun z=>(((),(),(),()),(z,())) }
theorem F53_ok:ZaS Tryz.prog 114 F53S:=Zad (rws:=[]) (zxs:=[]) (nt:=11) (m:=[]) (fn:=Tryz.f114) (hint:= .leaf) (pack:=fun y=>y.2.1) Za1 tab_ok trivial fun x z h=> .trans (by kernel_rfl) h
def F1: (El Y58)->(El Y3)->(El Y3)->(El Y3)->(El Y3)->Option (El Y36):=fun a0 a1 a2 a3 a4=>
 Va (idx a0 a1) fun x0=>
 Va (bif decide (x0.1< (0:Int)) then some true else some (decide (a2<=x0.1))) fun x1=>
 bif x1 then some (9:Int)
 else
 Va
 (bif decide ((0:Int)<a1) then Va (idx a0 (Vc .i64 (a1 - (1:Int)))) fun x2=>some (decide (x2.1=x0.1))
 else some false)
 fun x3=>
 bif x3 then some (13:Int)
 else
 Va
 (bif decide (x0.2.1<a3) then some true
 else
 bif decide (x0.2.2.1<x0.2.1) then some true
 else
 bif decide (a4<x0.2.2.1) then some true
 else
 bif decide ((0:Int)<a1) then
 Va (idx a0 (Vc .i64 (a1 - (1:Int)))) fun x4=>some (decide (x0.2.1<x4.2.2.1))
 else some false)
 fun x5=>bif x5 then some (10:Int) else some (0:Int)
def F1S:Tr.Spec:= {args:=(.cons (.pd Y58) (.cons (.pd Y3) (.cons (.pd Y3) (.cons (.pd Y3) (.cons (.pd Y3) .nil))))),res:=(.cons (.pd Y36) .nil),fns:=[],α:=El Y36,f:=fun x=>F1 x.1 x.2.1 x.2.2.1 x.2.2.2.1 x.2.2.2.2.1,unp:=fun z=>(((),(),(),(),(),()),(z,())) }
theorem F1_ok:ZaS Tryz.prog 131 F1S:=Zad (rws:=[]) (zxs:=[]) (nt:=70) (m:=[]) (fn:=Tryz.f131) (hint:=(hS (hS (.seq (.seq (.reg [(24,Y4)]) .leaf) (.seq (.seq (.reg [(37,Y4)]) .leaf) (.seq (.seq (.reg [(69,Y4)]) .leaf) .leaf)))))) (pack:=fun y=>y.2.1) Za1 tab_ok trivial fun x z h=> .trans (by kernel_rfl) h
def F0: (El Y58)->(El Y3)->(El Y3)->(El Y3)->Option (El Y3×El Y36):=fun a0 a1 a2 a3=>
 Va (bif decide ((↑(Vb a0):Int)< (2:Int)) then some true else some (decide ((32:Int)< (↑(Vb a0):Int)))) fun x0=>
 bif x0 then some ((0:Int),(5:Int))
 else
 Va
 (run
 (fun s1=>
 bif decide (s1< (↑(Vb a0):Int)) then
 Va (F1 a0 s1 a1 a2 a3) fun x2=>
 bif !decide (x2=(0:Int)) then some (.inr (.inr (s1,x2))) else some (.inl (Vc .i64 (s1+(1:Int))))
 else some (.inr (.inl ())))
 (0:Int))
 fun x3=>Vh (fun _=>some ((0:Int),(0:Int))) (fun y5=>some (y5.1,y5.2)) x3
def F0S:Tr.Spec:= {args:=(.cons (.pd Y58) (.cons (.pd Y3) (.cons (.pd Y3) (.cons (.pd Y3) .nil)))),res:=(.cons (.pd Y3) (.cons (.pd Y36) .nil)),fns:=[],α:=El Y3×El Y36,f:=fun x=>F0 x.1 x.2.1 x.2.2.1 x.2.2.2.1,unp:=fun z=>(((),(),(),(),()),(z.1,z.2,())) }
theorem F0_ok:ZaS Tryz.prog 124 F0S:=Zad (rws:=[]) (zxs:=[]) (nt:=36) (m:=[(131,[F1S])]) (fn:=Tryz.f124) (hint:=(hS (.seq (.seq (.reg [(19,Y4)]) .leaf) (.seq (hS (.lp ⟨[(22,(.pd Y3))],[],[0,1,2,3,21],[],[],[]⟩ [((.exit 0),⟨[],[],[],[],[],[]⟩),(.ret,⟨[(8,(.pd Y3)),(9,(.pd Y36))],[],[],[],[],[]⟩)] .leaf)) .leaf)))) (pack:=fun y=>(y.2.1,y.2.2.1)) Za1 tab_ok ⟨⟨F1_ok,trivial⟩,trivial⟩ fun x z h=> .trans (by kernel_rfl) h
def F43: (El Y31)->Option (El Zdj):=fun a0=>
 bif decide ((1024:Int)< (↑(Vb a0.2.2.1):Int)) then Va (F53 (2:Int) (0:Int) (5:Int)) fun x0=>some x0
 else
 Va
 (run
 (fun s1=>
 bif decide (s1.2.2< (↑(Vb a0.2.2.1):Int)) then
 Va (idx a0.2.2.1 s1.2.2) fun x2=>
 Va (F25 x2.2.2.2.1) fun x3=>
 bif !x3 then Va (F53 (2:Int) s1.2.2 (12:Int)) fun x4=>some (.inr (.inr x4))
 else
 Va (bif decide (x2.1< (-1:Int)) then some true else some (decide (x2.2.2.1< (0:Int)))) fun x5=>
 bif x5 then Va (F53 (2:Int) s1.2.2 (2:Int)) fun x6=>some (.inr (.inr x6))
 else
 Va (bif decide (x2.2.1< (0:Int)) then some true else some (decide ((36524:Int)<x2.2.1))) fun x7=>
 bif x7 then Va (F53 (2:Int) s1.2.2 (11:Int)) fun x8=>some (.inr (.inr x8))
 else
 Va
 (bif decide (x2.2.2.2.2.1< (0:Int)) then some true
 else some (decide ((↑(Vb a0.2.1):Int)<=x2.2.2.2.2.1)))
 fun x9=>
 bif x9 then Va (F53 (2:Int) s1.2.2 (9:Int)) fun x10=>some (.inr (.inr x10))
 else
 Va (F0 x2.2.2.2.2.2.2.2.1 (↑(Vb a0.1):Int) (0:Int) (3155932800:Int)) fun x11=>
 bif !decide (x11.2=(0:Int)) then Va (F53 (2:Int) s1.2.2 x11.2) fun x12=>some (.inr (.inr x12))
 else
 bif Vf (ZaK (Zaq ZtH) (x2.2.2.2.1,x2.2.1,x2.2.2.1,()) s1.2.1) (false) then
 Va (F53 (2:Int) s1.2.2 (6:Int)) fun x13=>some (.inr (.inr x13))
 else
 some
 (.inl
 (s1.1,Zbc (Zaq ZtH) (x2.2.2.2.1,x2.2.1,x2.2.2.1,()) true s1.2.1,
 Vc .i64 (s1.2.2+(1:Int))))
 else some (.inr (.inl s1.1)))
 (((0:Int),(0:Int),(0:Int),()),[],(0:Int)))
 fun x14=>Vh (fun _=>some ((0:Int),(0:Int),(0:Int),())) (fun y16=>some y16) x14
def F43S:Tr.Spec:= {args:=(.cons (.pd Y31) .nil),res:=(.cons (.pd Zdj) .nil),fns:=[],α:=El Zdj,f:=fun x=>F43 x.1,unp:=fun z=>(((),()),(z,())) }
theorem F43_ok:ZaS Tryz.prog 115 F43S:=Zad (rws:=[]) (zxs:=[]) (nt:=96) (m:=[(114,[F53S]),(122,[F25S]),(124,[F0S])]) (fn:=Tryz.f115) (hint:=(hS (hS (hS (.seq (hS (.lp ⟨[(2,(.var Zdj (.pd Zdj))),(3,(.map ZtH Y4)),(18,(.pd Y3))],[],[1,16,17],[],[],[]⟩ [((.exit 0),⟨[(2,(.var Zdj (.pd Zdj)))],[],[],[],[],[]⟩),(.ret,⟨[(2,(.var Zdj (.pd Zdj)))],[],[],[],[],[]⟩)] (hS (hS (.seq (hS (.seq (hS (.cnd none .leaf (.seq (.reg [(30,Y4)]) (.cnd none .leaf (.seq (.reg [(41,Y4)]) (.cnd none .leaf (.seq (.reg [(52,Y4)]) .leaf))))))) .leaf)) .leaf))))) .leaf))))) (pack:=fun y=>y.2.1) Za1 tab_ok ⟨⟨F53_ok,trivial⟩,⟨F25_ok,trivial⟩,⟨F0_ok,trivial⟩,trivial⟩ fun x z h=> .trans (by kernel_rfl) h
def F54: (El Y3)->(El Y3)->Option (El Y4):=fun a0 a1=>Va (bif decide ((0:Int)<=a0) then some (decide (a0<a1)) else some false) fun x0=>some x0
def F54S:Tr.Spec:= {args:=(.cons (.pd Y3) (.cons (.pd Y3) .nil)),res:=(.cons (.pd Y4) .nil),fns:=[],α:=El Y4,f:=fun x=>F54 x.1 x.2.1,unp:=fun z=>(((),(),()),(z,())) }
theorem F54_ok:ZaS Tryz.prog 125 F54S:=Zad (rws:=[]) (zxs:=[]) (nt:=12) (m:=[]) (fn:=Tryz.f125) (hint:=(hS (.seq (.reg [(4,Y4)]) .leaf))) (pack:=fun y=>y.2.1) Za1 tab_ok trivial fun x z h=> .trans (by kernel_rfl) h
def F52: (List (El Y3×El Y3))->(El Y3)->(El Y3)->Option (List (El Y3×El Y3) ×El Y4):=fun a0 a1 a2=>
 Va
 (run
 (fun s0=>
 bif s0.2 then
 bif decide (s0.1=a2) then some (.inr (.inr true))
 else some (.inl (Vf (ZaK (Zaq Y3) s0.1 a0) ((0:Int)),Vl (ZaK (Zaq Y3) s0.1 a0)))
 else some (.inr (.inl ())))
 (Vf (ZaK (Zaq Y3) a1 a0) ((0:Int)),Vl (ZaK (Zaq Y3) a1 a0)))
 fun x1=>Vh (fun _=>some (a0,false)) (fun y3=>some (a0,y3)) x1
def F52S:Tr.Spec:= {args:=(.cons (.map Y3 Y3) (.cons (.pd Y3) (.cons (.pd Y3) .nil))),res:=(.cons (.pd Y4) .nil),fns:=[],α:=List (El Y3×El Y3) ×El Y4,f:=fun x=>F52 x.1 x.2.1 x.2.2.1,unp:=fun z=>((z.1,(),(),()),(z.2,())) }
theorem F52_ok:ZaS Tryz.prog 126 F52S:=Zad (rws:=[]) (zxs:=[]) (nt:=25) (m:=[]) (fn:=Tryz.f126) (hint:=(hS (.seq (hS (.lp ⟨[(7,(.pd Y3)),(8,(.pd Y4))],[],[0,2],[],[],[]⟩ [((.exit 0),⟨[],[],[0],[],[],[]⟩),(.ret,⟨[(6,(.pd Y4))],[],[0],[],[],[]⟩)] .leaf)) .leaf))) (pack:=fun y=>(y.1.1,y.2.1)) Za1 tab_ok trivial fun x z h=> .trans (by kernel_rfl) h
def F41: (El Y31)->Option (El Zdj):=fun a0=>
 bif decide ((1024:Int)< (↑(Vb a0.2.2.2.1):Int)) then Va (F53 (3:Int) (0:Int) (5:Int)) fun x0=>some x0
 else
 Va
 (run
 (fun s1=>
 bif decide (s1.2.2.2.2< (↑(Vb a0.2.2.2.1):Int)) then
 Va (idx a0.2.2.2.1 s1.2.2.2.2) fun x2=>
 Va
 (Va (F54 x2.1 (↑(Vb a0.2.2.1):Int)) fun x3=>
 bif !x3 then some true
 else
 Va (F54 x2.2.2.1 (↑(Vb a0.2.2.1):Int)) fun x4=>
 bif !x4 then some true else some (decide (x2.1=x2.2.2.1)))
 fun x5=>
 bif x5 then Va (F53 (3:Int) s1.2.2.2.2 (9:Int)) fun x6=>some (.inr (.inr x6))
 else
 Va (idx a0.2.2.1 x2.1) fun x7=>
 Va (idx a0.2.2.1 x2.2.2.1) fun x8=>
 Va
 (Va (F54 x2.2.1 (↑(Vb x7.2.2.2.2.2.2.2.1):Int)) fun x9=>
 bif !x9 then some true
 else Va (F54 x2.2.2.2.1 (↑(Vb x8.2.2.2.2.2.2.2.1):Int)) fun x10=>some !x10)
 fun x11=>
 bif x11 then Va (F53 (3:Int) s1.2.2.2.2 (9:Int)) fun x12=>some (.inr (.inr x12))
 else
 Va (idx x7.2.2.2.2.2.2.2.1 x2.2.1) fun x13=>
 Va (idx x8.2.2.2.2.2.2.2.1 x2.2.2.2.1) fun x14=>
 bif !decide (x13.1=x14.1) then Va (F53 (3:Int) s1.2.2.2.2 (13:Int)) fun x15=>some (.inr (.inr x15))
 else
 bif x2.2.2.2.2.1 then
 bif !decide (Vc .i64 (x2.2.1+(1:Int))=(↑(Vb x7.2.2.2.2.2.2.2.1):Int)) then
 Va (F53 (3:Int) s1.2.2.2.2 (19:Int)) fun x16=>some (.inr (.inr x16))
 else
 bif !decide (x2.2.2.2.1=(0:Int)) then
 Va (F53 (3:Int) s1.2.2.2.2 (19:Int)) fun x17=>some (.inr (.inr x17))
 else
 bif Vl (ZaK (Zaq Y3) x2.1 s1.2.1) then
 Va (F53 (3:Int) s1.2.2.2.2 (19:Int)) fun x18=>some (.inr (.inr x18))
 else
 bif Vf (ZaK (Zaq Y3) x2.2.2.1 s1.2.2.1) (false) then
 Va (F53 (3:Int) s1.2.2.2.2 (19:Int)) fun x19=>some (.inr (.inr x19))
 else
 Va (F52 s1.2.1 x2.2.2.1 x2.1) fun x20=>
 bif x20.2 then Va (F53 (3:Int) s1.2.2.2.2 (19:Int)) fun x21=>some (.inr (.inr x21))
 else
 bif Vf (ZaK (Zaq ZlT) [x2.1,x2.2.1,x2.2.2.1,x2.2.2.2.1] s1.2.2.2.1) (false) then
 Va (F53 (3:Int) s1.2.2.2.2 (6:Int)) fun x22=>some (.inr (.inr x22))
 else
 bif x2.2.2.2.2.1 then
 some
 (.inl
 (s1.1,Zbc (Zaq Y3) x2.1 x2.2.2.1 x20.1,Zbc (Zaq Y3) x2.2.2.1 true s1.2.2.1,
 Zbc (Zaq ZlT) [x2.1,x2.2.1,x2.2.2.1,x2.2.2.2.1] true s1.2.2.2.1,
 Vc .i64 (s1.2.2.2.2+(1:Int))))
 else
 some
 (.inl
 (s1.1,x20.1,s1.2.2.1,Zbc (Zaq ZlT) [x2.1,x2.2.1,x2.2.2.1,x2.2.2.2.1] true s1.2.2.2.1,
 Vc .i64 (s1.2.2.2.2+(1:Int))))
 else
 bif Vf (ZaK (Zaq ZlT) [x2.1,x2.2.1,x2.2.2.1,x2.2.2.2.1] s1.2.2.2.1) (false) then
 Va (F53 (3:Int) s1.2.2.2.2 (6:Int)) fun x23=>some (.inr (.inr x23))
 else
 bif x2.2.2.2.2.1 then
 some
 (.inl
 (s1.1,Zbc (Zaq Y3) x2.1 x2.2.2.1 s1.2.1,Zbc (Zaq Y3) x2.2.2.1 true s1.2.2.1,
 Zbc (Zaq ZlT) [x2.1,x2.2.1,x2.2.2.1,x2.2.2.2.1] true s1.2.2.2.1,
 Vc .i64 (s1.2.2.2.2+(1:Int))))
 else
 some
 (.inl
 (s1.1,s1.2.1,s1.2.2.1,Zbc (Zaq ZlT) [x2.1,x2.2.1,x2.2.2.1,x2.2.2.2.1] true s1.2.2.2.1,
 Vc .i64 (s1.2.2.2.2+(1:Int))))
 else some (.inr (.inl s1.1)))
 (((0:Int),(0:Int),(0:Int),()),[],[],[],(0:Int)))
 fun x24=>Vh (fun _=>some ((0:Int),(0:Int),(0:Int),())) (fun y26=>some y26) x24
def F41S:Tr.Spec:= {args:=(.cons (.pd Y31) .nil),res:=(.cons (.pd Zdj) .nil),fns:=[],α:=El Zdj,f:=fun x=>F41 x.1,unp:=fun z=>(((),()),(z,())) }
theorem F41_ok:ZaS Tryz.prog 116 F41S:=Zad (rws:=[]) (zxs:=[]) (nt:=171) (m:=[(114,[F53S]),(125,[F54S]),(126,[F52S])]) (fn:=Tryz.f116) (hint:=(hS (hS (hS (hS (.seq (hS (.lp ⟨[(2,(.var Zdj (.pd Zdj))),(3,(.map Y3 Y3)),(4,(.map Y3 Y4)),(5,(.map ZlT Y4)),(24,(.pd Y3))],[],[1,22,23],[],[],[]⟩ [((.exit 0),⟨[(2,(.var Zdj (.pd Zdj)))],[],[],[],[],[]⟩),(.ret,⟨[(2,(.var Zdj (.pd Zdj)))],[],[],[],[],[]⟩)] (hS (hS (.seq (hS (.seq (.seq (.reg [(51,Y4)]) .leaf) (hS (.seq (.seq (.reg [(81,Y4)]) .leaf) .leaf)))) .leaf))))) .leaf)))))) (pack:=fun y=>y.2.1) Za1 tab_ok ⟨⟨F53_ok,trivial⟩,⟨F54_ok,trivial⟩,⟨F52_ok,trivial⟩,trivial⟩ fun x z h=> .trans (by kernel_rfl) h
def F56: (El Y3)->(El Y3)->(El Y3)->Option (El Y4):=fun a0 a1 a2=>Va (bif decide (a1<=a0) then some (decide (a0<=a2)) else some false) fun x0=>some x0
def F56S:Tr.Spec:= {args:=(.cons (.pd Y3) (.cons (.pd Y3) (.cons (.pd Y3) .nil))),res:=(.cons (.pd Y4) .nil),fns:=[],α:=El Y4,f:=fun x=>F56 x.1 x.2.1 x.2.2.1,unp:=fun z=>(((),(),(),()),(z,())) }
theorem F56_ok:ZaS Tryz.prog 127 F56S:=Zad (rws:=[]) (zxs:=[]) (nt:=15) (m:=[]) (fn:=Tryz.f127) (hint:=(hS (.seq (.reg [(6,Y4)]) .leaf))) (pack:=fun y=>y.2.1) Za1 tab_ok trivial fun x z h=> .trans (by kernel_rfl) h
def F55: (El Y29)->Option (El Y3×El Y36):=fun a0=>
 Va
 (Va (F56 a0.2.1 (0:Int) (1000000:Int)) fun x0=>
 bif !x0 then some true
 else
 Va (F56 a0.2.2.1 (0:Int) (86400:Int)) fun x1=>
 bif !x1 then some true else Va (F56 a0.2.2.2.1 (0:Int) (1000000:Int)) fun x2=>some !x2)
 fun x3=>
 bif x3 then some ((-1:Int),(2:Int))
 else
 bif decide ((16:Int)< (↑(Vb a0.1):Int)) then some ((0:Int),(5:Int))
 else
 Va
 (run
 (fun s4=>
 bif decide (s4.2< (↑(Vb a0.1):Int)) then
 Va (idx a0.1 s4.2) fun x5=>
 Va (F25 x5.1) fun x6=>
 bif !x6 then some (.inr (.inr (s4.2,(12:Int))))
 else
 bif Vf (ZaK (Zaq Y9) x5.1 s4.1) (false) then some (.inr (.inr (s4.2,(6:Int))))
 else
 Va
 (Va (F56 x5.2.1 (0:Int) (1000000:Int)) fun x7=>
 bif !x7 then some true
 else
 Va (F56 x5.2.2.1 (1:Int) (8:Int)) fun x8=>
 bif !x8 then some true
 else
 Va (F56 x5.2.2.2.1 (1:Int) (16:Int)) fun x9=>
 bif !x9 then some true
 else
 Va (F56 x5.2.2.2.2.1 (0:Int) (86400:Int)) fun x10=>
 bif !x10 then some true else Va (F56 x5.2.2.2.2.2.1 (1:Int) (255:Int)) fun x11=>some !x11)
 fun x12=>
 bif x12 then some (.inr (.inr (s4.2,(2:Int))))
 else some (.inl (Zbc (Zaq Y9) x5.1 true s4.1,Vc .i64 (s4.2+(1:Int))))
 else some (.inr (.inl ())))
 ([],(0:Int)))
 fun x13=>Vh (fun _=>some ((0:Int),(0:Int))) (fun y15=>some (y15.1,y15.2)) x13
def F55S:Tr.Spec:= {args:=(.cons (.pd Y29) .nil),res:=(.cons (.pd Y3) (.cons (.pd Y36) .nil)),fns:=[],α:=El Y3×El Y36,f:=fun x=>F55 x.1,unp:=fun z=>(((),()),(z.1,z.2,())) }
theorem F55_ok:ZaS Tryz.prog 117 F55S:=Zad (rws:=[]) (zxs:=[]) (nt:=79) (m:=[(122,[F25S]),(127,[F56S])]) (fn:=Tryz.f117) (hint:=(hS (.seq (.seq (.reg [(22,Y4)]) .leaf) (hS (hS (.seq (hS (.lp ⟨[(4,(.map Y9 Y4)),(31,(.pd Y3))],[],[29,30],[],[],[]⟩ [((.exit 0),⟨[],[],[],[],[],[]⟩),(.ret,⟨[(2,(.pd Y3)),(3,(.pd Y36))],[],[],[],[],[]⟩)] (hS (hS (.seq (hS (hS (hS (.seq (.seq (.reg [(73,Y4)]) .leaf) .leaf)))) .leaf))))) .leaf)))))) (pack:=fun y=>(y.2.1,y.2.2.1)) Za1 tab_ok ⟨⟨F25_ok,trivial⟩,⟨F56_ok,trivial⟩,trivial⟩ fun x z h=> .trans (by kernel_rfl) h
def F16: (El Y26)->(El Y3)->Option (El Y3×El Y36):=fun a0 a1=>
 Va
 (run
 (fun s0=>
 bif decide (s0.2< (↑(Vb a0):Int)) then
 Va (idx a0 s0.2) fun x1=>
 Va
 (bif decide (x1.1< (0:Int)) then some (decide (x1.1< (0:Int)))
 else
 Va
 (bif decide (a1<=x1.1) then some (decide (a1<=x1.1))
 else
 Va
 (bif decide (x1.2.1< (0:Int)) then some (decide (x1.2.1< (0:Int)))
 else
 Va (bif decide (a1<=x1.2.1) then some (decide (a1<=x1.2.1)) else some (decide (x1.1=x1.2.1))) fun x2=>
 some x2)
 fun x3=>some x3)
 fun x4=>some x4)
 fun x5=>
 bif x5 then some (.inr (.inr (s0.2,(9:Int))))
 else
 Va
 (bif decide (x1.2.2.1< (1:Int)) then some (decide (x1.2.2.1< (1:Int)))
 else some (decide ((14400:Int)<x1.2.2.1)))
 fun x6=>
 bif x6 then some (.inr (.inr (s0.2,(2:Int))))
 else
 bif Vf (ZaK (Zaq Zmm) (x1.1,x1.2.1,x1.2.2.2.1,()) s0.1) (false) then some (.inr (.inr (s0.2,(6:Int))))
 else some (.inl (Zbc (Zaq Zmm) (x1.1,x1.2.1,x1.2.2.2.1,()) true s0.1,Vc .i64 (s0.2+(1:Int))))
 else some (.inr (.inl ())))
 ([],(0:Int)))
 fun x7=>Vh (fun _=>some ((0:Int),(0:Int))) (fun y9=>some (y9.1,y9.2)) x7
def F16S:Tr.Spec:= {args:=(.cons (.pd Y26) (.cons (.pd Y3) .nil)),res:=(.cons (.pd Y3) (.cons (.pd Y36) .nil)),fns:=[],α:=El Y3×El Y36,f:=fun x=>F16 x.1 x.2.1,unp:=fun z=>(((),(),()),(z.1,z.2,())) }
theorem F16_ok:ZaS Tryz.prog 132 F16S:=Zad (rws:=[]) (zxs:=[]) (nt:=62) (m:=[]) (fn:=Tryz.f132) (hint:=(hS (hS (.seq (hS (.lp ⟨[(6,(.map Zmm Y4)),(13,(.pd Y3))],[],[1,11,12],[],[],[]⟩ [((.exit 0),⟨[],[],[],[],[],[]⟩),(.ret,⟨[(4,(.pd Y3)),(5,(.pd Y36))],[],[],[],[],[]⟩)] (hS (hS (.seq (hS (hS (.seq (.seq (hS (.cnd (some (⟨[],[],[1,6,7,8,9,11,12,13],[],[],[]⟩,[(.normal,⟨[(25,(.pd Y4))],[],[1,6,7,8,9,11,12,13],[],[],[]⟩)])) .leaf (hS (.cnd (some (⟨[],[],[1,6,7,8,9,11,12,13],[],[],[]⟩,[(.normal,⟨[(25,(.pd Y4))],[],[1,6,7,8,9,11,12,13],[],[],[]⟩)])) .leaf (hS (.cnd (some (⟨[],[],[1,6,7,8,9,11,12,13],[],[],[]⟩,[(.normal,⟨[(25,(.pd Y4))],[],[1,6,7,8,9,11,12,13],[],[],[]⟩)])) .leaf (hS (.cnd (some (⟨[],[],[1,6,7,8,9,11,12,13],[],[],[]⟩,[(.normal,⟨[(25,(.pd Y4))],[],[1,6,7,8,9,11,12,13],[],[],[]⟩)])) .leaf .leaf)))))))) (.cnd none .leaf (.seq (hS (.cnd (some (⟨[],[],[1,6,7,9,11,12,13],[],[],[]⟩,[(.normal,⟨[(46,(.pd Y4))],[],[1,6,7,9,11,12,13],[],[],[]⟩)])) .leaf .leaf)) .leaf))) .leaf))) .leaf))))) .leaf)))) (pack:=fun y=>(y.2.1,y.2.2.1)) Za1 tab_ok trivial fun x z h=> .trans (by kernel_rfl) h
def F131: (El Y3)->(El Y3)->Option (El Y4):=fun a0 a1=>Va (bif decide (a0< (0:Int)) then some true else some (decide (a1<=a0))) fun x0=>some x0
def F131S:Tr.Spec:= {args:=(.cons (.pd Y3) (.cons (.ro Y3) .nil)),res:=(.cons (.pd Y4) .nil),fns:=[],α:=El Y4,f:=fun x=>F131 x.1 x.2.1,unp:=fun z=>(((),(),()),(z,())) }
theorem F131_ok:ZaS Tryz.prog 158 F131S:=Zad (rws:=[]) (zxs:=[]) (nt:=11) (m:=[]) (fn:=Tryz.f158) (hint:=(hS (.seq (.reg [(3,Y4)]) .leaf))) (pack:=fun y=>y.2.1) Za1 tab_ok trivial fun x z h=> .trans (by kernel_rfl) h
def F130: (El Y3)->(El Zu4)->(El Y52)->Option (El Y36):=fun a0 a1 a2=>
 Va (bif decide (a0< (0:Int)) then some true else some (decide ((64:Int)<a0))) fun x0=>
 bif x0 then some (2:Int)
 else
 bif decide ((4096:Int)< (↑(Vb a1):Int)) then some (5:Int)
 else
 Va
 (run
 (fun s1=>
 bif decide (s1< (↑(Vb a1):Int)) then
 Va (idx a1 s1) fun x2=>
 Va (F131 x2.1 a0) fun x3=>
 bif x3 then some (.inr (.inr (9:Int)))
 else
 Va (F131 x2.2.1 a0) fun x4=>
 bif x4 then some (.inr (.inr (9:Int)))
 else
 Va (bif decide (x2.2.2.1< (0:Int)) then some true else some (decide ((1073741824:Int)<x2.2.2.1))) fun x5=>
 bif x5 then some (.inr (.inr (2:Int))) else some (.inl (Vc .i64 (s1+(1:Int))))
 else some (.inr (.inl ())))
 (0:Int))
 fun x6=>
 Vh
 (fun _=>
 Va
 (run
 (fun s8=>
 bif decide (s8< (↑(Vb a2):Int)) then
 Va (idx a2 s8) fun x9=>
 Va (F131 x9 a0) fun x10=>
 bif x10 then some (.inr (.inr (9:Int))) else some (.inl (Vc .i64 (s8+(1:Int))))
 else some (.inr (.inl ())))
 (0:Int))
 fun x11=>Vh (fun _=>some (0:Int)) (fun y13=>some y13) x11)
 (fun y14=>some y14) x6
def F130S:Tr.Spec:= {args:=(.cons (.pd Y3) (.cons (.pd Zu4) (.cons (.pd Y52) .nil))),res:=(.cons (.pd Y36) .nil),fns:=[],α:=El Y36,f:=fun x=>F130 x.1 x.2.1 x.2.2.1,unp:=fun z=>(((),(),(),()),(z,())) }
theorem F130_ok:ZaS Tryz.prog 144 F130S:=Zad (rws:=[]) (zxs:=[]) (nt:=57) (m:=[(158,[F131S])]) (fn:=Tryz.f144) (hint:=(hS (.seq (.seq (.reg [(17,Y4)]) .leaf) (hS (hS (.seq (hS (.lp ⟨[(24,(.pd Y3))],[],[2,7,22,23],[],[],[]⟩ [((.exit 0),⟨[],[],[2,7],[],[],[]⟩),(.ret,⟨[(6,(.pd Y36))],[],[],[],[],[]⟩)] (hS (hS (.seq (hS (hS (.seq (.reg [(45,Y4)]) .leaf))) .leaf))))) (.seq (hS (.lp ⟨[(49,(.pd Y3))],[],[7,47,48],[],[],[]⟩ [((.exit 2),⟨[],[],[],[],[],[]⟩),(.ret,⟨[(6,(.pd Y36))],[],[],[],[],[]⟩)] .leaf)) .leaf))))))) (pack:=fun y=>y.2.1) Za1 tab_ok ⟨⟨F131_ok,trivial⟩,trivial⟩ fun x z h=> .trans (by kernel_rfl) h
def F135: (El Zu4)->(El Y4)->Option (List (El Y3×List (El Znt))):=fun a0 a1=>
 Va
 (run
 (fun s0=>
 bif decide (s0.2< (↑(Vb a0):Int)) then
 Va (idx a0 s0.2) fun x1=>
 Va (bif a1 then some (x1.2.1,x1.1,x1.2.2) else some x1) fun x2=>
 Va (Zam (decide (Vb (Vf (ZaK (Zaq Y3) x2.1 s0.1) [])+Vb [x2]<=Zan))) fun _=>
 Va (Zam (Tr.holeK Y3 (some x2.1) x2.1)) fun _=>
 some (.inl (Zbc (Zaq Y3) x2.1 (Vf (ZaK (Zaq Y3) x2.1 s0.1) []++[x2]) s0.1,Vc .i64 (s0.2+(1:Int))))
 else some (.inr s0.1))
 ([],(0:Int)))
 fun x5=>some x5
def F135S:Tr.Spec:= {args:=(.cons (.pd Zu4) (.cons (.pd Y4) .nil)),res:=(.cons (.mrows Y3 Znt) .nil),fns:=[],α:=List (El Y3×List (El Znt)),f:=fun x=>F135 x.1 x.2.1,unp:=fun z=>(((),(),()),(z,())) }
theorem F135_ok:ZaS Tryz.prog 145 F135S:=Zad (rws:=[212]) (zxs:=[]) (nt:=34) (m:=[]) (fn:=Tryz.f145) (hint:=(hS (hS (.seq (hS (.lp ⟨[(5,(.mrows Y3 Znt)),(11,(.pd Y3))],[],[1,9,10],[],[],[]⟩ [((.exit 0),⟨[(5,(.mrows Y3 Znt))],[],[],[],[],[]⟩)] (hS (hS (.seq (hS (.seq (hS (.cnd (some (⟨[],[],[1,5,9,10,11],[],[],[]⟩,[(.normal,⟨[(7,(.var Znt (.pd Znt)))],[],[1,5,9,10,11],[],[],[]⟩)])) .leaf .leaf)) .leaf)) .leaf))))) .leaf)))) (pack:=fun y=>y.2.1) Za1 tab_ok trivial fun x z h=> .trans (by kernel_rfl) h
def F133: (El ZwC)->Option (El Y52):=fun a0=>
 Va
 (Zam
 (decide
 ((0:El (Tr.Ty.int .i64))<=(↑(Vb a0):Int)/\
 (↑(Vb a0):Int)<=(↑(Vb a0):Int)/\(↑(Vb a0):Int)<=(↑Zan:El (Tr.Ty.int .i64)))))
 fun _=>
 Va
 (run
 (fun s1=>
 bif decide (s1.2< (↑(Vb a0):Int)) then
 Va (idx a0 s1.2) fun x2=>
 Va (inb s1.2 (Vb s1.1)) fun x3=>
 Va s1.1[x3]? fun _=>some (.inl (Vd s1.1 x3 x2.2.1,Vc .i64 (s1.2+(1:Int))))
 else some (.inr s1.1))
 (Vj (Vk (↑(Vb a0):Int)) ((0:Int)),(0:Int)))
 fun x5=>some x5
def F133S:Tr.Spec:= {args:=(.cons (.pd ZwC) .nil),res:=(.cons (.pd Y52) .nil),fns:=[],α:=El Y52,f:=fun x=>F133 x.1,unp:=fun z=>(((),()),(z,())) }
theorem F133_ok:ZaS Tryz.prog 146 F133S:=Zad (rws:=[]) (zxs:=[]) (nt:=23) (m:=[]) (fn:=Tryz.f146) (hint:=(hS (hS (.seq (hS (.lp ⟨[(3,(.own Y3 false)),(11,(.pd Y3))],[],[9,10],[],[],[]⟩ [((.exit 0),⟨[(3,(.own Y3 false))],[],[],[],[],[]⟩)] .leaf)) .leaf)))) (pack:=fun y=>y.2.1) Za1 tab_ok trivial fun x z h=> .trans (by kernel_rfl) h
def F134: (El ZlK)->(El ZlK)->Option (El Y4):=fun a0 a1=>
 Va
 (bif decide (a0.2.1<a1.2.1) then some true
 else bif decide (a0.2.1=a1.2.1) then some (decide (a0.2.2.1<a1.2.2.1)) else some false)
 fun x0=>some x0
def F134S:Tr.Spec:= {args:=(.cons (.pd ZlK) (.cons (.pd ZlK) .nil)),res:=(.cons (.pd Y4) .nil),fns:=[],α:=El Y4,f:=fun x=>F134 x.1 x.2.1,unp:=fun z=>(((),(),()),(z,())) }
theorem F134_ok:ZaS Tryz.prog 160 F134S:=Zad (rws:=[]) (zxs:=[]) (nt:=24) (m:=[]) (fn:=Tryz.f160) (hint:=(hS (.seq (.reg [(4,Y4)]) .leaf))) (pack:=fun y=>y.2.1) Za1 tab_ok trivial fun x z h=> .trans (by kernel_rfl) h
def F21: (Tz3)->(El Y3)->(El Y3)->Option (Tz3×El Y4):=fun a0 a1 a2=>
 Va (inb a1 (Vb a0.2.1)) fun x0=>
 Va a0.2.1[x0]? fun x1=>
 Va (inb a2 (Vb a0.2.1)) fun x2=>
 Va a0.2.1[x2]? fun x3=>
 Va (F134 x1.1 x3.1) fun x4=>
 bif x4 then some (((),a0.2.1,a0.2.2.1,()),true)
 else
 Va (F134 x3.1 x1.1) fun x5=>
 bif x5 then some (((),a0.2.1,a0.2.2.1,()),false) else some (((),a0.2.1,a0.2.2.1,()),decide (x1.2.1<x3.2.1))
def F21S:Tr.Spec:= {args:=(.cons Pz9 (.cons (.pd Y3) (.cons (.pd Y3) .nil))),res:=(.cons (.pd Y4) .nil),fns:=[],α:=Tz3×El Y4,f:=fun x=>F21 x.1 x.2.1 x.2.2.1,unp:=fun z=>((z.1,(),(),()),(z.2,())) }
theorem F21_ok:ZaS Tryz.prog 168 F21S:=Zad (rws:=[]) (zxs:=[]) (nt:=46) (m:=[(160,[F134S])]) (fn:=Tryz.f168) (hint:= .leaf) (pack:=fun y=>(y.1.1,y.2.1)) Za1 tab_ok ⟨⟨F134_ok,trivial⟩,trivial⟩ fun x z h=> .trans (by kernel_rfl) h
def F23: (Tz3)->(El Y3)->(El Y3)->Option (Tz3):=fun a0 a1 a2=>
 Va (inb a2 (Vb a0.2.1)) fun x0=>
 Va a0.2.1[x0]? fun x1=>
 Va (inb a1 (Vb a0.2.1)) fun x2=>
 Va a0.2.1[x2]? fun x3=>
 Va (inb a1 (Vb a0.2.1)) fun x4=>
 Va a0.2.1[x4]? fun _=>
 Va (inb a2 (Vb (Vd a0.2.1 x4 x1))) fun x6=>
 Va (Vd a0.2.1 x4 x1)[x6]? fun _=>some ((),Vd (Vd a0.2.1 x4 x1) x6 x3,a0.2.2.1,())
def F23S:Tr.Spec:= {args:=(.cons Pz9 (.cons (.pd Y3) (.cons (.pd Y3) .nil))),res:= .nil,fns:=[],α:=Tz3,f:=fun x=>F23 x.1 x.2.1 x.2.2.1,unp:=fun z=>((z,(),(),()),()) }
theorem F23_ok:ZaS Tryz.prog 169 F23S:=Zad (rws:=[]) (zxs:=[]) (nt:=32) (m:=[(160,[F134S])]) (fn:=Tryz.f169) (hint:= .leaf) (pack:=fun y=>y.1.1) Za1 tab_ok ⟨⟨F134_ok,trivial⟩,trivial⟩ fun x z h=> .trans (by kernel_rfl) h
def F20: (Tz3)->(El ZlK)->Option (Tz3):=fun a0 a1=>
 Va (Zam (decide (Vb a0.2.1+Vb [(a1,a0.2.2.1,())]<=Zan))) fun _=>
 Va
 (run
 (fun s1=>
 bif decide ((0:Int)<s1.2) then
 Va
 (F21 ((),s1.1.2.1,s1.1.2.2.1,()) s1.2
 (Vc .i64 (Vm (Vc .i64 (s1.2 - (1:Int))) (2:Int))))
 fun x2=>
 bif x2.2 then
 Va
 (F23 ((),x2.1.2.1,x2.1.2.2.1,()) s1.2
 (Vc .i64 (Vm (Vc .i64 (s1.2 - (1:Int))) (2:Int))))
 fun x3=>some (.inl (((),x3.2.1,x3.2.2.1,()),Vc .i64 (Vm (Vc .i64 (s1.2 - (1:Int))) (2:Int))))
 else some (.inr ((),x2.1.2.1,x2.1.2.2.1,()))
 else some (.inr ((),s1.1.2.1,s1.1.2.2.1,())))
 (((),a0.2.1++[(a1,a0.2.2.1,())],Vc .i64 (a0.2.2.1+(1:Int)),()),
 Vc .i64 ((↑(Vb (a0.2.1++[(a1,a0.2.2.1,())])):Int) - (1:Int))))
 fun x4=>some ((),x4.2.1,x4.2.2.1,())
def F20S:Tr.Spec:= {args:=(.cons Pz9 (.cons (.pd ZlK) .nil)),res:= .nil,fns:=[],α:=Tz3,f:=fun x=>F20 x.1 x.2.1,unp:=fun z=>((z,(),()),()) }
theorem F20_ok:ZaS Tryz.prog 161 F20S:=Zad (rws:=[]) (zxs:=[]) (nt:=54) (m:=[(160,[F134S]),(168,[F21S]),(169,[F23S])]) (fn:=Tryz.f161) (hint:=(hS (hS (hS (hS (hS (.lp ⟨[(0,Pz8),(4,(.pd Y3))],[],[],[],[],[]⟩ [((.exit 0),⟨[(0,Pz8)],[],[],[],[],[]⟩)] .leaf))))))) (pack:=fun y=>y.1.1) Za1 tab_ok ⟨⟨F134_ok,trivial⟩,⟨F21_ok,trivial⟩,⟨F23_ok,trivial⟩,trivial⟩ fun x z h=> .trans (by kernel_rfl) h
def F17: (Tz3)->Option (Tz3×El Y3):=fun a0=>some (((),a0.2.1,a0.2.2.1,()),(↑(Vb a0.2.1):Int))
def F17S:Tr.Spec:= {args:=(.cons Pz9 .nil),res:=(.cons (.pd Y3) .nil),fns:=[],α:=Tz3×El Y3,f:=fun x=>F17 x.1,unp:=fun z=>((z.1,()),(z.2,())) }
theorem F17_ok:ZaS Tryz.prog 173 F17S:=Zad (rws:=[]) (zxs:=[]) (nt:=10) (m:=[(160,[F134S])]) (fn:=Tryz.f173) (hint:= .leaf) (pack:=fun y=>(y.1.1,y.2.1)) Za1 tab_ok ⟨⟨F134_ok,trivial⟩,trivial⟩ fun x z h=> .trans (by kernel_rfl) h
def F18: (Tz3)->Option (Tz3×El ZlK×El Y4):=fun a0=>
 Va (F17 ((),a0.2.1,a0.2.2.1,())) fun x0=>
 bif decide (x0.2=(0:Int)) then some (((),x0.1.2.1,x0.1.2.2.1,()),((0:Int),(0:Int),(0:Int),()),false)
 else Va (inb (0:Int) (Vb x0.1.2.1)) fun x1=>Va x0.1.2.1[x1]? fun x2=>some (((),x0.1.2.1,x0.1.2.2.1,()),x2.1,true)
def F18S:Tr.Spec:= {args:=(.cons Pz9 .nil),res:=(.cons (.pd ZlK) (.cons (.pd Y4) .nil)),fns:=[],α:=Tz3×El ZlK×El Y4,f:=fun x=>F18 x.1,unp:=fun z=>((z.1,()),(z.2.1,z.2.2,())) }
theorem F18_ok:ZaS Tryz.prog 170 F18S:=Zad (rws:=[]) (zxs:=[]) (nt:=16) (m:=[(160,[F134S]),(173,[F17S])]) (fn:=Tryz.f170) (hint:= .leaf) (pack:=fun y=>(y.1.1,y.2.1,y.2.2.1)) Za1 tab_ok ⟨⟨F134_ok,trivial⟩,⟨F17_ok,trivial⟩,trivial⟩ fun x z h=> .trans (by kernel_rfl) h
def F22: (Tz3)->Option (Tz3):=fun a0=>
 Va
 (run
 (fun s0=>
 bif decide ((↑(Vb s0.1.2.1):Int)<=Vc .i64 (Vc .i64 ((2:Int) *s0.2)+(1:Int))) then
 some (.inr ((),s0.1.2.1,s0.1.2.2.1,()))
 else
 bif
 decide
 (Vc .i64 (Vc .i64 (Vc .i64 ((2:Int) *s0.2)+(1:Int))+(1:Int))<
 (↑(Vb s0.1.2.1):Int)) then
 Va
 (F21 ((),s0.1.2.1,s0.1.2.2.1,())
 (Vc .i64 (Vc .i64 (Vc .i64 ((2:Int) *s0.2)+(1:Int))+(1:Int)))
 (Vc .i64 (Vc .i64 ((2:Int) *s0.2)+(1:Int))))
 fun x1=>
 Va
 (bif x1.2 then
 some
 (((),x1.1.2.1,x1.1.2.2.1,()),
 Vc .i64 (Vc .i64 (Vc .i64 ((2:Int) *s0.2)+(1:Int))+(1:Int)))
 else some (((),x1.1.2.1,x1.1.2.2.1,()),Vc .i64 (Vc .i64 ((2:Int) *s0.2)+(1:Int))))
 fun x2=>
 Va (F21 ((),x2.1.2.1,x2.1.2.2.1,()) x2.2 s0.2) fun x3=>
 bif !x3.2 then some (.inr ((),x3.1.2.1,x3.1.2.2.1,()))
 else
 Va (F23 ((),x3.1.2.1,x3.1.2.2.1,()) s0.2 x2.2) fun x4=>
 some (.inl (((),x4.2.1,x4.2.2.1,()),x2.2))
 else
 Va
 (F21 ((),s0.1.2.1,s0.1.2.2.1,()) (Vc .i64 (Vc .i64 ((2:Int) *s0.2)+(1:Int))) s0.2)
 fun x5=>
 bif !x5.2 then some (.inr ((),x5.1.2.1,x5.1.2.2.1,()))
 else
 Va
 (F23 ((),x5.1.2.1,x5.1.2.2.1,()) s0.2
 (Vc .i64 (Vc .i64 ((2:Int) *s0.2)+(1:Int))))
 fun x6=>some (.inl (((),x6.2.1,x6.2.2.1,()),Vc .i64 (Vc .i64 ((2:Int) *s0.2)+(1:Int)))))
 (((),a0.2.1,a0.2.2.1,()),(0:Int)))
 fun x7=>some ((),x7.2.1,x7.2.2.1,())
def F22S:Tr.Spec:= {args:=(.cons Pz9 .nil),res:= .nil,fns:=[],α:=Tz3,f:=fun x=>F22 x.1,unp:=fun z=>((z,()),()) }
theorem F22_ok:ZaS Tryz.prog 171 F22S:=Zad (rws:=[]) (zxs:=[]) (nt:=41) (m:=[(160,[F134S]),(168,[F21S]),(169,[F23S])]) (fn:=Tryz.f171) (hint:=(hS (.lp ⟨[(0,Pz8),(2,(.pd Y3))],[],[],[],[],[]⟩ [(.ret,⟨[(0,Pz8)],[],[],[],[],[]⟩)] (hS (hS (.seq (hS (.cnd (some (⟨[],[],[2],[],[],[]⟩,[(.normal,⟨[(0,Pz8),(3,(.pd Y3))],[],[2],[],[],[]⟩)])) .leaf .leaf)) .leaf)))))) (pack:=fun y=>y.1.1) Za1 tab_ok ⟨⟨F134_ok,trivial⟩,⟨F21_ok,trivial⟩,⟨F23_ok,trivial⟩,trivial⟩ fun x z h=> .trans (by kernel_rfl) h
def F19: (Tz3)->Option (Tz3×El ZlK×El Y4):=fun a0=>
 Va (F18 ((),a0.2.1,a0.2.2.1,())) fun x0=>
 bif !x0.2.2 then some (((),x0.1.2.1,x0.1.2.2.1,()),x0.2.1,false)
 else
 Va (F23 ((),x0.1.2.1,x0.1.2.2.1,()) (0:Int) (Vc .i64 ((↑(Vb x0.1.2.1):Int) - (1:Int))))
 fun x1=>
 Va (sliceB (Vb x1.2.1) (Vb x1.2.1) none (some (Vc .i64 ((↑(Vb x0.1.2.1):Int) - (1:Int)))))
 fun x2=>
 Va (F22 ((),Ve x2.2 x1.2.1,x1.2.2.1,())) fun x3=>some (((),x3.2.1,x3.2.2.1,()),x0.2.1,true)
def F19S:Tr.Spec:= {args:=(.cons Pz9 .nil),res:=(.cons (.pd ZlK) (.cons (.pd Y4) .nil)),fns:=[],α:=Tz3×El ZlK×El Y4,f:=fun x=>F19 x.1,unp:=fun z=>((z.1,()),(z.2.1,z.2.2,())) }
theorem F19_ok:ZaS Tryz.prog 162 F19S:=Zad (rws:=[]) (zxs:=[]) (nt:=36) (m:=[(160,[F134S]),(169,[F23S]),(170,[F18S]),(171,[F22S])]) (fn:=Tryz.f162) (hint:= .leaf) (pack:=fun y=>(y.1.1,y.2.1,y.2.2.1)) Za1 tab_ok ⟨⟨F134_ok,trivial⟩,⟨F23_ok,trivial⟩,⟨F18_ok,trivial⟩,⟨F22_ok,trivial⟩,trivial⟩ fun x z h=> .trans (by kernel_rfl) h
def F24: (Unit)->Option (Tz3):=fun _=>some ((),[],(0:Int),())
def F24S:Tr.Spec:= {args:=(.cons (.fn 160 .nil) .nil),res:=(.cons Pz9 .nil),fns:=[160],α:=Tz3,f:=fun x=>F24 x.1,unp:=fun z=>(((),()),(z,())) }
theorem F24_ok:ZaS Tryz.prog 159 F24S:=Zad (rws:=[]) (zxs:=[]) (nt:=8) (m:=[(160,[F134S])]) (fn:=Tryz.f159) (hint:= .leaf) (pack:=fun y=>y.2.1) Za1 tab_ok ⟨⟨F134_ok,trivial⟩,trivial⟩ fun x z h=> .trans (by kernel_rfl) h
def F132: (El Y3)->(List (El Y3×List (El Znt)))->(El Y3)->Option (List (El Y3×List (El Znt)) ×El ZwC):=fun a0 a1 a2=>
 Va (Zam (decide ((0:El (Tr.Ty.int .i64))<=a0/\a0<=a0/\a0<=(↑Zan:El (Tr.Ty.int .i64))))) fun _=>
 Va
 (run
 (fun s1=>
 bif decide (s1.2< (↑(Vb (Vj (Vk a0) (((0:Int),(0:Int),(0:Int),())))):Int)) then
 Va (inb s1.2 (Vb s1.1)) fun x2=>
 Va s1.1[x2]? fun _=>some (.inl (Vd s1.1 x2 (s1.2,(-1:Int),(-1:Int),()),Vc .i64 (s1.2+(1:Int))))
 else some (.inr s1.1))
 (Vj (Vk a0) (((0:Int),(0:Int),(0:Int),())),(0:Int)))
 fun x4=>
 Va (F24 ()) fun x5=>
 Va (F20 ((),x5.2.1,x5.2.2.1,()) (a2,(0:Int),(0:Int),())) fun x6=>
 Va
 (run
 (fun s7=>
 Va (F19 ((),s7.2.2.1,s7.2.2.2.1,())) fun x8=>
 bif !x8.2.2 then some (.inr s7.1)
 else
 Va (inb x8.2.1.1 (Vb s7.1)) fun x9=>
 Va s7.1[x9]? fun x10=>
 bif decide ((0:Int)<=x10.2.2.1) then some (.inl (s7.1,(),x8.1.2.1,x8.1.2.2.1,()))
 else
 Va (inb x8.2.1.1 (Vb s7.1)) fun x11=>
 Va s7.1[x11]? fun _=>
 Va
 (run
 (fun s13=>
 bif decide (s13.2< (↑(Vb (Vf (ZaK (Zaq Y3) x8.2.1.1 a1) [])):Int)) then
 Va (inb s13.2 (Vb (Vf (ZaK (Zaq Y3) x8.2.1.1 a1) []))) fun x14=>
 Va (Vf (ZaK (Zaq Y3) x8.2.1.1 a1) [])[x14]? fun x15=>
 Va (inb x15.2.1 (Vb (Vd s7.1 x11 x8.2.1))) fun x16=>
 Va (Vd s7.1 x11 x8.2.1)[x16]? fun x17=>
 bif decide (x17.2.2.1< (0:Int)) then
 Va
 (F20 ((),s13.1.2.1,s13.1.2.2.1,())
 (x15.2.1,Vc .i64 (x8.2.1.2.1+x15.2.2.1),
 Vc .i64 (x8.2.1.2.2.1+(1:Int)),()))
 fun x18=>some (.inl (((),x18.2.1,x18.2.2.1,()),Vc .i64 (s13.2+(1:Int))))
 else some (.inl (((),s13.1.2.1,s13.1.2.2.1,()),Vc .i64 (s13.2+(1:Int))))
 else some (.inr ((),s13.1.2.1,s13.1.2.2.1,())))
 (((),x8.1.2.1,x8.1.2.2.1,()),(0:Int)))
 fun x19=>some (.inl (Vd s7.1 x11 x8.2.1,(),x19.2.1,x19.2.2.1,())))
 (x4,(),x6.2.1,x6.2.2.1,()))
 fun x20=>some (a1,x20)
def F132S:Tr.Spec:= {args:=(.cons (.pd Y3) (.cons (.mrows Y3 Znt) (.cons (.pd Y3) .nil))),res:=(.cons (.pd ZwC) .nil),fns:=[],α:=List (El Y3×List (El Znt)) ×El ZwC,f:=fun x=>F132 x.1 x.2.1 x.2.2.1,unp:=fun z=>(((),z.1,(),()),(z.2,())) }
theorem F132_ok:ZaS Tryz.prog 147 F132S:=Zad (rws:=[]) (zxs:=[]) (nt:=82) (m:=[(159,[F24S]),(160,[F134S]),(161,[F20S]),(162,[F19S])]) (fn:=Tryz.f147) (hint:=(hS (hS (.seq (hS (.lp ⟨[(7,(.own ZlK false)),(18,(.pd Y3))],[],[1,2,17],[],[],[]⟩ [((.exit 0),⟨[(7,(.own ZlK false))],[],[1,2],[],[],[]⟩)] .leaf)) (hS (hS (.lp ⟨[(7,(.own ZlK false)),(9,Pz8)],[],[1],[],[],[]⟩ [(.ret,⟨[(6,(.own ZlK false))],[],[1],[],[],[]⟩)] (hS (hS (hS (hS (hS (.lp ⟨[(9,Pz8),(57,(.pd Y3))],[],[1,7,10,55,56],[],[],[]⟩ [((.exit 4),⟨[(9,Pz8)],[],[1,7],[],[],[]⟩)] .leaf))))))))))))) (pack:=fun y=>(y.1.2.1,y.2.1)) Za1 tab_ok ⟨⟨F24_ok,trivial⟩,⟨F134_ok,trivial⟩,⟨F20_ok,trivial⟩,⟨F19_ok,trivial⟩,trivial⟩ fun x z h=> .trans (by kernel_rfl) h
def F129: (El Y3)->(El Zu4)->Option (El Y38×El Y36):=fun a0 a1=>
 Va (F130 a0 a1 []) fun x0=>
 bif !decide (x0=(0:Int)) then some ([],x0)
 else
 Va (F135 a1 false) fun x1=>
 Va (Zam (decide ((0:El (Tr.Ty.int .i64))<=a0/\a0<=a0/\a0<=(↑Zan:El (Tr.Ty.int .i64))))) fun _=>
 Va
 (run
 (fun s3=>
 bif decide (s3.2.2< (↑(Vb (Vj (Vk a0) (([]:List (El Y3))))):Int)) then
 Va (F132 a0 s3.1 s3.2.2) fun x4=>
 Va (F133 x4.2) fun x5=>
 Va (inb s3.2.2 (Vb s3.2.1)) fun x6=>
 Va s3.2.1[x6]? fun _=>some (.inl (x4.1,Vd s3.2.1 x6 x5,Vc .i64 (s3.2.2+(1:Int))))
 else some (.inr s3.2.1))
 (x1,Vj (Vk a0) (([]:List (El Y3))),(0:Int)))
 fun x8=>some (x8,(0:Int))
def F129S:Tr.Spec:= {args:=(.cons (.pd Y3) (.cons (.pd Zu4) .nil)),res:=(.cons (.pd Y38) (.cons (.pd Y36) .nil)),fns:=[],α:=El Y38×El Y36,f:=fun x=>F129 x.1 x.2.1,unp:=fun z=>(((),(),()),(z.1,z.2,())) }
theorem F129_ok:ZaS Tryz.prog 140 F129S:=Zad (rws:=[]) (zxs:=[]) (nt:=35) (m:=[(144,[F130S]),(145,[F135S]),(146,[F133S]),(147,[F132S])]) (fn:=Tryz.f140) (hint:=(hS (hS (hS (hS (hS (.seq (hS (.lp ⟨[(7,(.mrows Y3 Znt)),(8,(.own Y52 false)),(22,(.pd Y3))],[],[0,21],[],[],[]⟩ [((.exit 0),⟨[(8,(.own Y52 false))],[],[],[],[],[]⟩)] .leaf)) .leaf))))))) (pack:=fun y=>(y.2.1,y.2.2.1)) Za1 tab_ok ⟨⟨F130_ok,trivial⟩,⟨F135_ok,trivial⟩,⟨F133_ok,trivial⟩,⟨F132_ok,trivial⟩,trivial⟩ fun x z h=> .trans (by kernel_rfl) h
def F15: (El Y26)->(El Y3)->(El Y4)->Option (El Y38):=fun a0 a1 a2=>
 Va
 (run
 (fun s0=>
 bif decide (s0.2< (↑(Vb a0):Int)) then
 Va (idx a0 s0.2) fun x1=>
 Va (bif a2 then some !x1.2.2.2.1 else some false) fun x2=>
 bif x2 then some (.inl (s0.1,Vc .i64 (s0.2+(1:Int))))
 else
 Va
 (bif !Vl (ZaK (Zaq Zmm) (x1.1,x1.2.1,false,()) s0.1) then some true
 else some (decide (x1.2.2.1<Vf (ZaK (Zaq Zmm) (x1.1,x1.2.1,false,()) s0.1) ((0:Int)))))
 fun x3=>
 bif x3 then some (.inl (Zbc (Zaq Zmm) (x1.1,x1.2.1,false,()) x1.2.2.1 s0.1,Vc .i64 (s0.2+(1:Int))))
 else some (.inl (s0.1,Vc .i64 (s0.2+(1:Int))))
 else some (.inr s0.1))
 ([],(0:Int)))
 fun x4=>
 Va
 (Zam
 (decide ((0:El (Tr.Ty.int .i64))<=(0:Int)/\(0:Int)<=(↑(Vb x4):Int)/\(↑(Vb x4):Int)<=(↑Zan:El (Tr.Ty.int .i64)))))
 fun _=>
 Tr.drun (fun s6=>bif Vn s6.2 then(1:Nat) else Vb s6.2)
 (fun s6 i7=>
 bif Vn s6.2 then some (.inr s6.1)
 else
 Va s6.2[i7]? fun x8=>
 Va (Zam (decide (Vb s6.1+Vb [(x8.1.1,x8.1.2.1,x8.2,())]<=Zan))) fun _=>
 some (.inl (s6.1++[(x8.1.1,x8.1.2.1,x8.2,())],List.eraseIdx s6.2 i7)))
 (fun o10=>Va (F129 a1 o10) fun x11=>some x11.1) (Vj (Vk (0:Int)) (((0:Int),(0:Int),(0:Int),())),x4)
def F15S:Tr.Spec:= {args:=(.cons (.pd Y26) (.cons (.pd Y3) (.cons (.pd Y4) .nil))),res:=(.cons (.pd Y38) .nil),fns:=[],α:=El Y38,f:=fun x=>F15 x.1 x.2.1 x.2.2.1,unp:=fun z=>(((),(),(),()),(z,())) }
theorem F15_ok:ZaS Tryz.prog 134 F15S:=Zad (rws:=[]) (zxs:=[]) (nt:=81) (m:=[(140,[F129S])]) (fn:=Tryz.f134) (hint:=(hS (hS (.seq (hS (.lp ⟨[(7,(.map Zmm Y3)),(21,(.pd Y3))],[],[1,2,19,20],[],[],[]⟩ [((.exit 0),⟨[(7,(.map Zmm Y3))],[],[1],[],[],[]⟩)] (hS (hS (.seq (hS (.seq (.seq (.reg [(30,Y4)]) .leaf) (hS (hS (.seq (.reg [(49,Y4)]) .leaf))))) .leaf))))) (hS (.seq (hS (.lpd 59 ⟨[(13,(.own Znt false)),(59,(.it Zmm Y3))],[],[1],[],[],[]⟩ [((.exit 2),⟨[(13,(.own Znt false))],[],[1],[],[],[]⟩)] .leaf)) .leaf)))))) (pack:=fun y=>y.2.1) Za1 tab_ok ⟨⟨F129_ok,trivial⟩,trivial⟩ fun x z h=> .trans (by kernel_rfl) h
def F3: (El Y52)->Option (El Y3):=fun a0=>
 Va
 (run
 (fun s0=>
 bif decide (s0< (↑(Vb a0):Int)) then
 Va (idx a0 s0) fun x1=>
 bif !decide (x1=(0:Int)) then some (.inr (.inr x1)) else some (.inl (Vc .i64 (s0+(1:Int))))
 else some (.inr (.inl ())))
 (0:Int))
 fun x2=>Vh (fun _=>some (0:Int)) (fun y4=>some y4) x2
def F3S:Tr.Spec:= {args:=(.cons (.pd Y52) .nil),res:=(.cons (.pd Y3) .nil),fns:=[],α:=El Y3,f:=fun x=>F3 x.1,unp:=fun z=>(((),()),(z,())) }
theorem F3_ok:ZaS Tryz.prog 138 F3S:=Zad (rws:=[]) (zxs:=[]) (nt:=18) (m:=[]) (fn:=Tryz.f138) (hint:=(hS (hS (.seq (hS (.lp ⟨[(8,(.pd Y3))],[],[3,6,7],[],[],[]⟩ [((.exit 0),⟨[],[],[3],[],[],[]⟩),(.ret,⟨[(2,(.pd Y3))],[],[],[],[],[]⟩)] .leaf)) .leaf)))) (pack:=fun y=>y.2.1) Za1 tab_ok trivial fun x z h=> .trans (by kernel_rfl) h
def F4: (El Y3)->Option (El Y4):=fun a0=>some !decide (a0=a0)
def F4S:Tr.Spec:= {args:=(.cons (.pd Y3) .nil),res:=(.cons (.pd Y4) .nil),fns:=[],α:=El Y4,f:=fun x=>F4 x.1,unp:=fun z=>(((),()),(z,())) }
theorem F4_ok:ZaS Tryz.prog 143 F4S:=Zad (rws:=[]) (zxs:=[]) (nt:=6) (m:=[]) (fn:=Tryz.f143) (hint:= .leaf) (pack:=fun y=>y.2.1) Za1 tab_ok trivial fun x z h=> .trans (by kernel_rfl) h
def F2: (El Y3)->(El Y3)->Option (El Y3):=fun a0 a1=>
 Va (F4 a0) fun x0=>
 Va (F4 a1) fun x1=>
 bif x0 then bif x1 then some (0:Int) else some (-1:Int)
 else bif x1 then some (1:Int) else bif decide (a0<a1) then some (-1:Int) else bif decide (a1<a0) then some (1:Int) else some (0:Int)
def F2S:Tr.Spec:= {args:=(.cons (.pd Y3) (.cons (.pd Y3) .nil)),res:=(.cons (.pd Y3) .nil),fns:=[],α:=El Y3,f:=fun x=>F2 x.1 x.2.1,unp:=fun z=>(((),(),()),(z,())) }
theorem F2_ok:ZaS Tryz.prog 139 F2S:=Zad (rws:=[]) (zxs:=[]) (nt:=20) (m:=[(143,[F4S])]) (fn:=Tryz.f139) (hint:= .leaf) (pack:=fun y=>y.2.1) Za1 tab_ok ⟨⟨F4_ok,trivial⟩,trivial⟩ fun x z h=> .trans (by kernel_rfl) h
def F14: (El Y79)->(El Y79)->Option (El Y3):=fun a0 a1=>
 Va (F2 a0.1 a1.1) fun x0=>
 Va (F2 a0.2.1 a1.2.1) fun x1=>
 Va (F2 a0.2.2.1 a1.2.2.1) fun x2=>Va (F3 [x0,x1,x2]) fun x3=>some x3
def F14S:Tr.Spec:= {args:=(.cons (.pd Y79) (.cons (.pd Y79) .nil)),res:=(.cons (.pd Y3) .nil),fns:=[],α:=El Y3,f:=fun x=>F14 x.1 x.2.1,unp:=fun z=>(((),(),()),(z,())) }
theorem F14_ok:ZaS Tryz.prog 137 F14S:=Zad (rws:=[]) (zxs:=[]) (nt:=22) (m:=[(138,[F3S]),(139,[F2S])]) (fn:=Tryz.f137) (hint:= .leaf) (pack:=fun y=>y.2.1) Za1 tab_ok ⟨⟨F3_ok,trivial⟩,⟨F2_ok,trivial⟩,trivial⟩ fun x z h=> .trans (by kernel_rfl) h
def F13: (El Y3)->(El Y3)->(El Y3)->(El Y4)->(List (El Y79))->Option (List (El Y79)):=fun a0 a1 a2 a3 a4=>
 Va (bif decide ((0:Int)<a2) then some (decide (a2<=(14400:Int))) else some false) fun x0=>
 bif x0 then Va (Zam (decide (Vb a4+Vb [(a0,a1,a2,a3,())]<=Zan))) fun _=>some (a4++[(a0,a1,a2,a3,())]) else some a4
def F13S:Tr.Spec:= {args:=(.cons (.pd Y3) (.cons (.pd Y3) (.cons (.pd Y3) (.cons (.pd Y4) (.cons (.var Y26 (.own Y79 false)) .nil))))),res:= .nil,fns:=[],α:=List (El Y79),f:=fun x=>F13 x.1 x.2.1 x.2.2.1 x.2.2.2.1 x.2.2.2.2.1,unp:=fun z=>(((),(),(),(),z,()),()) }
theorem F13_ok:ZaS Tryz.prog 135 F13S:=Zad (rws:=[]) (zxs:=[]) (nt:=23) (m:=[]) (fn:=Tryz.f135) (hint:=(.seq (.reg [(14,Y4)]) .leaf)) (pack:=fun y=>y.1.2.2.2.2.1) Za1 tab_ok trivial fun x z h=> .trans (by kernel_rfl) h
def F136(a0:List (El Y79))(_:Unit):Option (List (El Y79)):=Tr.sortF F14 a0
def F136S:Tr.Spec:= {args:=(.cons (.own Y79 true) (.cons (.fn 137 .nil) .nil)),res:= .nil,fns:=[137],α:=List (El Y79),f:=fun x=>F136 x.1 x.2.1,unp:=fun z=>((z,(),()),()) }
theorem F136_ok:ZaS Tryz.prog 136 F136S:=Tr.sortFunc_ok (ρ:=Tryz.sort136_ren) Tryz.sort136 rfl Tryz.isAgg79 Tryz.sizeOf79 F14_ok
def F12: (El Y26)->(El Y3)->Option (El Y26):=fun a0 a1=>
 Va (F15 a0 a1 false) fun x0=>
 Va (F15 a0 a1 true) fun x1=>
 Va
 (run
 (fun s2=>
 bif decide (s2.2< (↑(Vb x0):Int)) then
 Va (idx x0 s2.2) fun x3=>
 Va
 (run
 (fun s4=>
 bif decide (s4.2< (↑(Vb x3):Int)) then
 Va (idx x3 s4.2) fun x5=>
 bif decide (s2.2=s4.2) then some (.inl (s4.1,Vc .i64 (s4.2+(1:Int))))
 else
 Va (idx x1 s2.2) fun x6=>
 Va (idx x6 s4.2) fun x7=>
 Va (F13 s2.2 s4.2 x5 (decide (x7=x5)) s4.1) fun x8=>
 bif !decide (x7=x5) then
 Va (F13 s2.2 s4.2 x7 true x8) fun x9=>some (.inl (x9,Vc .i64 (s4.2+(1:Int))))
 else some (.inl (x8,Vc .i64 (s4.2+(1:Int))))
 else some (.inr s4.1))
 (s2.1,(0:Int)))
 fun x10=>some (.inl (x10,Vc .i64 (s2.2+(1:Int))))
 else some (.inr s2.1))
 ([],(0:Int)))
 fun x11=>Va (F136 x11 ()) fun x12=>some x12
def F12S:Tr.Spec:= {args:=(.cons (.pd Y26) (.cons (.pd Y3) .nil)),res:=(.cons (.pd Y26) .nil),fns:=[],α:=El Y26,f:=fun x=>F12 x.1 x.2.1,unp:=fun z=>(((),(),()),(z,())) }
theorem F12_ok:ZaS Tryz.prog 133 F12S:=Zad (rws:=[]) (zxs:=[]) (nt:=66) (m:=[(134,[F15S]),(135,[F13S]),(136,[F136S]),(137,[F14S])]) (fn:=Tryz.f133) (hint:=(hS (hS (hS (hS (.seq (hS (.lp ⟨[(7,(.var Y26 (.own Y79 false))),(22,(.pd Y3))],[(8,135,[7])],[5,6,21],[],[],[]⟩ [((.exit 0),⟨[(7,(.var Y26 (.own Y79 false)))],[],[],[],[],[]⟩)] (hS (hS (.seq (hS (hS (.lp ⟨[(7,(.var Y26 (.own Y79 false))),(30,(.pd Y3))],[(8,135,[7])],[5,6,9,21,22,28,29],[],[],[]⟩ [((.exit 2),⟨[(7,(.var Y26 (.own Y79 false)))],[(8,135,[7])],[5,6,21,22],[],[],[]⟩)] .leaf))) .leaf))))) .leaf)))))) (pack:=fun y=>y.2.1) Za1 tab_ok ⟨⟨F15_ok,trivial⟩,⟨F13_ok,trivial⟩,⟨F136_ok,trivial⟩,⟨F14_ok,trivial⟩,trivial⟩ fun x z h=> .trans (by kernel_rfl) h
def F11: (El Y26)->(El Y3)->Option (El Y4):=fun a0 a1=>
 bif decide ((64:Int)<a1) then some false
 else
 Va (F16 a0 a1) fun x0=>
 bif !decide (x0.2=(0:Int)) then some false
 else
 Va (F12 a0 (Tr.imax a1 (0:Int))) fun x1=>
 bif !decide ((↑(Vb x1):Int)=(↑(Vb a0):Int)) then some false
 else
 Va
 (run
 (fun s2=>
 bif decide (s2< (↑(Vb x1):Int)) then
 Va (idx x1 s2) fun x3=>
 Va (idx a0 s2) fun x4=>
 bif
 !(decide (x3.1=x4.1) &&
 (decide (x3.2.1=x4.2.1) && (decide (x3.2.2.1=x4.2.2.1) &&x3.2.2.2.1==x4.2.2.2.1))) then
 some (.inr (.inr false))
 else some (.inl (Vc .i64 (s2+(1:Int))))
 else some (.inr (.inl ())))
 (0:Int))
 fun x5=>Vh (fun _=>some true) (fun y7=>some y7) x5
def F11S:Tr.Spec:= {args:=(.cons (.pd Y26) (.cons (.pd Y3) .nil)),res:=(.cons (.pd Y4) .nil),fns:=[],α:=El Y4,f:=fun x=>F11 x.1 x.2.1,unp:=fun z=>(((),(),()),(z,())) }
theorem F11_ok:ZaS Tryz.prog 128 F11S:=Zad (rws:=[]) (zxs:=[]) (nt:=43) (m:=[(132,[F16S]),(133,[F12S])]) (fn:=Tryz.f128) (hint:=(hS (hS (hS (hS (hS (.seq (hS (.lp ⟨[(30,(.pd Y3))],[],[0,7,29],[],[],[]⟩ [((.exit 0),⟨[],[],[],[],[],[]⟩),(.ret,⟨[(4,(.pd Y4))],[],[],[],[],[]⟩)] .leaf)) .leaf))))))) (pack:=fun y=>y.2.1) Za1 tab_ok ⟨⟨F16_ok,trivial⟩,⟨F12_ok,trivial⟩,trivial⟩ fun x z h=> .trans (by kernel_rfl) h
def F42: (El Y31)->Option (El Zdj):=fun a0=>
 Va
 (run
 (fun s0=>
 bif decide (s0.2.2< (↑(Vb a0.2.2.2.2.1):Int)) then
 Va (idx a0.2.2.2.2.1 s0.2.2) fun x1=>
 Va
 (Va (F54 x1.1 (↑(Vb a0.1):Int)) fun x2=>
 bif !x2 then some true
 else Va (F54 x1.2.1 (↑(Vb a0.1):Int)) fun x3=>bif !x3 then some true else some (decide (x1.1=x1.2.1)))
 fun x4=>
 bif x4 then Va (F53 (4:Int) s0.2.2 (9:Int)) fun x5=>some (.inr (.inr x5))
 else
 Va (bif decide (x1.2.2.1< (1:Int)) then some true else some (decide ((14400:Int)<x1.2.2.1))) fun x6=>
 bif x6 then Va (F53 (4:Int) s0.2.2 (2:Int)) fun x7=>some (.inr (.inr x7))
 else
 bif Vf (ZaK (Zaq Y79) (x1.1,x1.2.1,(0:Int),x1.2.2.2.1,()) s0.2.1) (false) then
 Va (F53 (4:Int) s0.2.2 (6:Int)) fun x8=>some (.inr (.inr x8))
 else
 some
 (.inl
 (s0.1,Zbc (Zaq Y79) (x1.1,x1.2.1,(0:Int),x1.2.2.2.1,()) true s0.2.1,Vc .i64 (s0.2.2+(1:Int))))
 else some (.inr (.inl s0.1)))
 (((0:Int),(0:Int),(0:Int),()),[],(0:Int)))
 fun x9=>
 Vh
 (fun _=>
 Va (F11 a0.2.2.2.2.1 (↑(Vb a0.1):Int)) fun x11=>
 bif !x11 then Va (F53 (4:Int) (0:Int) (18:Int)) fun x12=>some x12 else some ((0:Int),(0:Int),(0:Int),()))
 (fun y13=>some y13) x9
def F42S:Tr.Spec:= {args:=(.cons (.pd Y31) .nil),res:=(.cons (.pd Zdj) .nil),fns:=[],α:=El Zdj,f:=fun x=>F42 x.1,unp:=fun z=>(((),()),(z,())) }
theorem F42_ok:ZaS Tryz.prog 118 F42S:=Zad (rws:=[]) (zxs:=[]) (nt:=78) (m:=[(114,[F53S]),(125,[F54S]),(128,[F11S])]) (fn:=Tryz.f118) (hint:=(hS (hS (.seq (hS (.lp ⟨[(2,(.var Zdj (.pd Zdj))),(3,(.map Y79 Y4)),(11,(.pd Y3))],[],[1,9,10],[],[],[]⟩ [((.exit 0),⟨[(2,(.var Zdj (.pd Zdj)))],[],[1],[],[],[]⟩),(.ret,⟨[(2,(.var Zdj (.pd Zdj)))],[],[],[],[],[]⟩)] (hS (hS (.seq (hS (hS (.seq (.seq (.reg [(23,Y4)]) (.cnd none .leaf (.seq (.reg [(49,Y4)]) .leaf))) .leaf))) .leaf))))) .leaf)))) (pack:=fun y=>y.2.1) Za1 tab_ok ⟨⟨F53_ok,trivial⟩,⟨F54_ok,trivial⟩,⟨F11_ok,trivial⟩,trivial⟩ fun x z h=> .trans (by kernel_rfl) h
def F39: (El Y31)->Option (El Y3×El Y3×El Y36):=fun a0=>
 Va (F137 a0.1) fun x0=>
 Va (F127 a0.2.1) fun x1=>
 Va (F53 (0:Int) x0.1 x0.2) fun x2=>
 Va (F53 (1:Int) x1.1 x1.2) fun x3=>
 Va (F44 [x2,x3]) fun x4=>
 Va (bif decide (x4.2.2.1=(0:Int)) then Va (F43 a0) fun x5=>some x5 else some x4) fun x6=>
 Va (bif decide (x6.2.2.1=(0:Int)) then Va (F41 a0) fun x7=>some x7 else some x6) fun x8=>
 Va
 (bif decide (x8.2.2.1=(0:Int)) then
 Va (F55 a0.2.2.2.2.2.1) fun x9=>
 Va (F42 a0) fun x10=>Va (F53 (5:Int) x9.1 x9.2) fun x11=>Va (F44 [x10,x11]) fun x12=>some x12
 else some x8)
 fun x13=>some (x13.1,x13.2.1,x13.2.2.1)
def F39S:Tr.Spec:= {args:=(.cons (.pd Y31) .nil),res:=(.cons (.pd Y3) (.cons (.pd Y3) (.cons (.pd Y36) .nil))),fns:=[],α:=El Y3×El Y3×El Y36,f:=fun x=>F39 x.1,unp:=fun z=>(((),()),(z.1,z.2.1,z.2.2,())) }
theorem F39_ok:ZaS Tryz.prog 84 F39S:=Zad (rws:=[]) (zxs:=[]) (nt:=64) (m:=[(111,[F137S]),(112,[F127S]),(113,[F44S]),(114,[F53S]),(115,[F43S]),(116,[F41S]),(117,[F55S]),(118,[F42S])]) (fn:=Tryz.f84) (hint:=(hS (hS (hS (hS (.seq (hS (.cnd (some (⟨[],[],[1],[],[],[]⟩,[(.normal,⟨[(9,(.var Zdj (.pd Zdj)))],[],[1],[],[],[]⟩)])) .leaf .leaf)) (.seq (hS (.cnd (some (⟨[],[],[1],[],[],[]⟩,[(.normal,⟨[(9,(.var Zdj (.pd Zdj)))],[],[1],[],[],[]⟩)])) .leaf .leaf)) (.seq (hS (.cnd (some (⟨[],[],[],[],[],[]⟩,[(.normal,⟨[(9,(.var Zdj (.pd Zdj)))],[],[],[],[],[]⟩)])) .leaf .leaf)) .leaf)))))))) (pack:=fun y=>(y.2.1,y.2.2.1,y.2.2.2.1)) Za1 tab_ok ⟨⟨F137_ok,trivial⟩,⟨F127_ok,trivial⟩,⟨F44_ok,trivial⟩,⟨F53_ok,trivial⟩,⟨F43_ok,trivial⟩,⟨F41_ok,trivial⟩,⟨F55_ok,trivial⟩,⟨F42_ok,trivial⟩,trivial⟩ fun x z h=> .trans (by kernel_rfl) h
def F6: (El Y3)->(El Y3)->(El Y3)->Option (El Y4):=fun a0 a1 a2=>Va (bif decide (a1<=a0) then some (decide (a0<=a2)) else some false) fun x0=>some x0
def F6S:Tr.Spec:= {args:=(.cons (.pd Y3) (.cons (.pd Y3) (.cons (.pd Y3) .nil))),res:=(.cons (.pd Y4) .nil),fns:=[],α:=El Y4,f:=fun x=>F6 x.1 x.2.1 x.2.2.1,unp:=fun z=>(((),(),(),()),(z,())) }
theorem F6_ok:ZaS Tryz.prog 85 F6S:=Zad (rws:=[]) (zxs:=[]) (nt:=15) (m:=[]) (fn:=Tryz.f85) (hint:=(hS (.seq (.reg [(6,Y4)]) .leaf))) (pack:=fun y=>y.2.1) Za1 tab_ok trivial fun x z h=> .trans (by kernel_rfl) h
def F5: (El Y31)->(El Y33)->Option (El Y36):=fun a0 a1=>
 Va (F39 a0) fun x0=>
 bif !decide (x0.2.2=(0:Int)) then some (21:Int)
 else
 Va
 (Va (F6 a1.1 (0:Int) (Vc .i64 ((↑(Vb a0.1):Int) - (1:Int)))) fun x1=>
 bif !x1 then some true
 else
 Va (F6 a1.2.1 (0:Int) (Vc .i64 ((↑(Vb a0.1):Int) - (1:Int)))) fun x2=>
 bif !x2 then some true
 else
 Va (F6 a1.2.2.1 (0:Int) (3155932800:Int)) fun x3=>
 bif !x3 then some true
 else
 Va (F6 a1.2.2.2.2.1 (0:Int) (8:Int)) fun x4=>
 bif !x4 then some true
 else
 Va (F6 a1.2.2.2.2.2.1 (0:Int) (86400:Int)) fun x5=>
 bif !x5 then some true
 else
 Va (F6 a1.2.2.2.2.2.2.2.2.1 (0:Int) (255:Int)) fun x6=>
 bif !x6 then some true else bif a1.2.2.2.2.2.2.2.2.2.1 then some a1.2.2.2.1 else some false)
 fun x7=>bif x7 then some (22:Int) else some (0:Int)
def F5S:Tr.Spec:= {args:=(.cons (.pd Y31) (.cons (.pd Y33) .nil)),res:=(.cons (.pd Y36) .nil),fns:=[],α:=El Y36,f:=fun x=>F5 x.1 x.2.1,unp:=fun z=>(((),(),()),(z,())) }
theorem F5_ok:ZaS Tryz.prog 59 F5S:=Zad (rws:=[]) (zxs:=[]) (nt:=65) (m:=[(84,[F39S]),(85,[F6S])]) (fn:=Tryz.f59) (hint:=(hS (hS (hS (hS (.seq (.seq (.reg [(64,Y4)]) .leaf) .leaf)))))) (pack:=fun y=>y.2.1) Za1 tab_ok ⟨⟨F39_ok,trivial⟩,⟨F6_ok,trivial⟩,trivial⟩ fun x z h=> .trans (by kernel_rfl) h
def F115: (El Y31)->(El Y33)->Option (El Y36):=fun a0 a1=>
 Va (F5 a0 a1) fun x0=>bif !decide (x0=(0:Int)) then some x0 else bif a1.2.2.2.1 then some (22:Int) else some (0:Int)
def F115S:Tr.Spec:= {args:=(.cons (.pd Y31) (.cons (.pd Y33) .nil)),res:=(.cons (.pd Y36) .nil),fns:=[],α:=El Y36,f:=fun x=>F115 x.1 x.2.1,unp:=fun z=>(((),(),()),(z,())) }
theorem F115_ok:ZaS Tryz.prog 40 F115S:=Zad (rws:=[]) (zxs:=[]) (nt:=14) (m:=[(59,[F5S])]) (fn:=Tryz.f40) (hint:= .leaf) (pack:=fun y=>y.2.1) Za1 tab_ok ⟨⟨F5_ok,trivial⟩,trivial⟩ fun x z h=> .trans (by kernel_rfl) h
def F51: (El Y22)->Option (El Y22):=fun a0=>
 Va (Zam (decide (Vb ([]:List Unit)+Vb a0<=Zan))) fun _=>
 Va (inb (↑(Vb ([]++a0)):Int) (Vb ([]++a0)+(1:Nat))) fun x1=>
 Va (sliceB (Vb ([]++a0)) x1 none (some (↑(Vb ([]++a0)):Int))) fun x2=>some (Ve x2.2 (Vg (0:Nat) ([]++a0)))
def F51S:Tr.Spec:= {args:=(.cons (.pd Y22) .nil),res:=(.cons (.pd Y22) .nil),fns:=[],α:=El Y22,f:=fun x=>F51 x.1,unp:=fun z=>(((),()),(z,())) }
theorem F51_ok:ZaS Tryz.prog 86 F51S:=Zad (rws:=[]) (zxs:=[]) (nt:=13) (m:=[]) (fn:=Tryz.f86) (hint:= .leaf) (pack:=fun y=>y.2.1) Za1 tab_ok trivial fun x z h=> .trans (by kernel_rfl) h
def F49: (El Y23)->Option (El Y23):=fun a0=>
 Va (Zam (decide (Vb ([]:List Unit)+Vb a0<=Zan))) fun _=>
 Va (inb (↑(Vb ([]++a0)):Int) (Vb ([]++a0)+(1:Nat))) fun x1=>
 Va (sliceB (Vb ([]++a0)) x1 none (some (↑(Vb ([]++a0)):Int))) fun x2=>some (Ve x2.2 (Vg (0:Nat) ([]++a0)))
def F49S:Tr.Spec:= {args:=(.cons (.pd Y23) .nil),res:=(.cons (.pd Y23) .nil),fns:=[],α:=El Y23,f:=fun x=>F49 x.1,unp:=fun z=>(((),()),(z,())) }
theorem F49_ok:ZaS Tryz.prog 87 F49S:=Zad (rws:=[]) (zxs:=[]) (nt:=13) (m:=[]) (fn:=Tryz.f87) (hint:= .leaf) (pack:=fun y=>y.2.1) Za1 tab_ok trivial fun x z h=> .trans (by kernel_rfl) h
def F50: (El Y24)->Option (List (El Y60)):=fun a0=>
 Va (Zam (decide (Vb ([]:List Unit)+Vb a0<=Zan))) fun _=>
 Va (inb (↑(Vb ([]++a0)):Int) (Vb ([]++a0)+(1:Nat))) fun x1=>
 Va (sliceB (Vb ([]++a0)) x1 none (some (↑(Vb ([]++a0)):Int))) fun x2=>some (Ve x2.2 ([]++a0))
def F50S:Tr.Spec:= {args:=(.cons (.pd Y24) .nil),res:=(.cons (.own Y60 false) .nil),fns:=[],α:=List (El Y60),f:=fun x=>F50 x.1,unp:=fun z=>(((),()),(z,())) }
theorem F50_ok:ZaS Tryz.prog 88 F50S:=Zad (rws:=[]) (zxs:=[]) (nt:=13) (m:=[]) (fn:=Tryz.f88) (hint:= .leaf) (pack:=fun y=>y.2.1) Za1 tab_ok trivial fun x z h=> .trans (by kernel_rfl) h
def F47: (El Y25)->Option (El Y25):=fun a0=>
 Va (Zam (decide (Vb ([]:List Unit)+Vb a0<=Zan))) fun _=>
 Va (inb (↑(Vb ([]++a0)):Int) (Vb ([]++a0)+(1:Nat))) fun x1=>
 Va (sliceB (Vb ([]++a0)) x1 none (some (↑(Vb ([]++a0)):Int))) fun x2=>some (Ve x2.2 (Vg (0:Nat) ([]++a0)))
def F47S:Tr.Spec:= {args:=(.cons (.pd Y25) .nil),res:=(.cons (.pd Y25) .nil),fns:=[],α:=El Y25,f:=fun x=>F47 x.1,unp:=fun z=>(((),()),(z,())) }
theorem F47_ok:ZaS Tryz.prog 89 F47S:=Zad (rws:=[]) (zxs:=[]) (nt:=13) (m:=[]) (fn:=Tryz.f89) (hint:= .leaf) (pack:=fun y=>y.2.1) Za1 tab_ok trivial fun x z h=> .trans (by kernel_rfl) h
def F46: (El Y26)->Option (El Y26):=fun a0=>
 Va (Zam (decide (Vb ([]:List Unit)+Vb a0<=Zan))) fun _=>
 Va (inb (↑(Vb ([]++a0)):Int) (Vb ([]++a0)+(1:Nat))) fun x1=>
 Va (sliceB (Vb ([]++a0)) x1 none (some (↑(Vb ([]++a0)):Int))) fun x2=>some (Ve x2.2 (Vg (0:Nat) ([]++a0)))
def F46S:Tr.Spec:= {args:=(.cons (.pd Y26) .nil),res:=(.cons (.pd Y26) .nil),fns:=[],α:=El Y26,f:=fun x=>F46 x.1,unp:=fun z=>(((),()),(z,())) }
theorem F46_ok:ZaS Tryz.prog 90 F46S:=Zad (rws:=[]) (zxs:=[]) (nt:=13) (m:=[]) (fn:=Tryz.f90) (hint:= .leaf) (pack:=fun y=>y.2.1) Za1 tab_ok trivial fun x z h=> .trans (by kernel_rfl) h
def F45: (El Y58)->Option (El Y58):=fun a0=>
 Va (Zam (decide (Vb ([]:List Unit)+Vb a0<=Zan))) fun _=>
 Va (inb (↑(Vb ([]++a0)):Int) (Vb ([]++a0)+(1:Nat))) fun x1=>
 Va (sliceB (Vb ([]++a0)) x1 none (some (↑(Vb ([]++a0)):Int))) fun x2=>some (Ve x2.2 (Vg (0:Nat) ([]++a0)))
def F45S:Tr.Spec:= {args:=(.cons (.pd Y58) .nil),res:=(.cons (.pd Y58) .nil),fns:=[],α:=El Y58,f:=fun x=>F45 x.1,unp:=fun z=>(((),()),(z,())) }
theorem F45_ok:ZaS Tryz.prog 91 F45S:=Zad (rws:=[]) (zxs:=[]) (nt:=13) (m:=[]) (fn:=Tryz.f91) (hint:= .leaf) (pack:=fun y=>y.2.1) Za1 tab_ok trivial fun x z h=> .trans (by kernel_rfl) h
def F48: (El Y27)->Option (El Y27):=fun a0=>
 Va (Zam (decide (Vb ([]:List Unit)+Vb a0<=Zan))) fun _=>
 Va (inb (↑(Vb ([]++a0)):Int) (Vb ([]++a0)+(1:Nat))) fun x1=>
 Va (sliceB (Vb ([]++a0)) x1 none (some (↑(Vb ([]++a0)):Int))) fun x2=>some (Ve x2.2 (Vg (0:Nat) ([]++a0)))
def F48S:Tr.Spec:= {args:=(.cons (.pd Y27) .nil),res:=(.cons (.pd Y27) .nil),fns:=[],α:=El Y27,f:=fun x=>F48 x.1,unp:=fun z=>(((),()),(z,())) }
theorem F48_ok:ZaS Tryz.prog 92 F48S:=Zad (rws:=[]) (zxs:=[]) (nt:=13) (m:=[]) (fn:=Tryz.f92) (hint:= .leaf) (pack:=fun y=>y.2.1) Za1 tab_ok trivial fun x z h=> .trans (by kernel_rfl) h
def F40: (El Y31)->Option (Tz2):=fun a0=>
 Va (F51 a0.1) fun x0=>
 Va (F49 a0.2.1) fun x1=>
 Va (F50 a0.2.2.1) fun x2=>
 Va (F47 a0.2.2.2.1) fun x3=>
 Va (F46 a0.2.2.2.2.1) fun x4=>
 Va
 (run
 (fun s5=>
 bif decide (s5.2< (↑(Vb x2):Int)) then
 Va (inb s5.2 (Vb s5.1.2.2.1)) fun x6=>
 Va s5.1.2.2.1[x6]? fun x7=>
 Va (F45 x7.2.2.2.2.2.2.2.1) fun x8=>
 Va (inb s5.2 (Vb s5.1.2.2.1)) fun x9=>
 Va s5.1.2.2.1[x9]? fun x10=>
 some
 (.inl
 ((s5.1.1,s5.1.2.1,
 Vd s5.1.2.2.1 x9
 (x10.1,x10.2.1,x10.2.2.1,x10.2.2.2.1,x10.2.2.2.2.1,x10.2.2.2.2.2.1,x10.2.2.2.2.2.2.1,x8,
 x10.2.2.2.2.2.2.2.2),
 s5.1.2.2.2.1,s5.1.2.2.2.2.1,s5.1.2.2.2.2.2.1,()),
 Vc .i64 (s5.2+(1:Int))))
 else some (.inr s5.1))
 ((x0,x1,x2,x3,x4,a0.2.2.2.2.2.1,()),(0:Int)))
 fun x11=>
 Va (F48 a0.2.2.2.2.2.1.1) fun x12=>
 some (x11.1,x11.2.1,x11.2.2.1,x11.2.2.2.1,x11.2.2.2.2.1,(x12,x11.2.2.2.2.2.1.2),())
def F40S:Tr.Spec:= {args:=(.cons (.pd Y31) .nil),res:=(.cons Pz7 .nil),fns:=[],α:=Tz2,f:=fun x=>F40 x.1,unp:=fun z=>(((),()),(z,())) }
theorem F40_ok:ZaS Tryz.prog 60 F40S:=Zad (rws:=[]) (zxs:=[]) (nt:=49) (m:=[(86,[F51S]),(87,[F49S]),(88,[F50S]),(89,[F47S]),(90,[F46S]),(91,[F45S]),(92,[F48S])]) (fn:=Tryz.f60) (hint:=(hS (hS (.seq (hS (.lp ⟨[(3,Pz6),(26,(.pd Y3))],[],[1,2,25],[],[],[]⟩ [((.exit 0),⟨[(3,Pz6)],[],[1,2],[],[],[]⟩)] .leaf)) .leaf)))) (pack:=fun y=>y.2.1) Za1 tab_ok ⟨⟨F51_ok,trivial⟩,⟨F49_ok,trivial⟩,⟨F50_ok,trivial⟩,⟨F47_ok,trivial⟩,⟨F46_ok,trivial⟩,⟨F45_ok,trivial⟩,⟨F48_ok,trivial⟩,trivial⟩ fun x z h=> .trans (by kernel_rfl) h
def F10(a0:El Y31)(a1:El Y33)(a2:El Y60):Option Bool:=Tr.useF a0 a1 a2
def F10S:Tr.Spec:= {args:=(.cons (.pd Y31) (.cons (.pd Y33) (.cons (.pd Y60) .nil))),res:=(.cons (.pd Y4) .nil),fns:=[],α:=El Y4,f:=fun x=>F10 x.1 x.2.1 x.2.2.1,unp:=fun z=>(((),(),(),()),(z,())) }
theorem F10_ok:ZaS Tryz.prog 61 F10S:=Tr.use_ok
def F9: (El Y31)->(El Y33)->(El Y3)->Option (El Y4):=fun a0 a1 a2=>Va (Va (idx a0.1 a2) fun x0=>bif x0.2.2.1 then some true else some !a1.2.2.2.2.2.2.1) fun x1=>some x1
def F9S:Tr.Spec:= {args:=(.cons (.pd Y31) (.cons (.pd Y33) (.cons (.pd Y3) .nil))),res:=(.cons (.pd Y4) .nil),fns:=[],α:=El Y4,f:=fun x=>F9 x.1 x.2.1 x.2.2.1,unp:=fun z=>(((),(),(),()),(z,())) }
theorem F9_ok:ZaS Tryz.prog 98 F9S:=Zad (rws:=[]) (zxs:=[]) (nt:=18) (m:=[]) (fn:=Tryz.f98) (hint:=(hS (.seq (.reg [(6,Y4)]) .leaf))) (pack:=fun y=>y.2.1) Za1 tab_ok trivial fun x z h=> .trans (by kernel_rfl) h
def F8: (El Y31)->(El Y33)->(El Y58)->Option (El Y58):=fun a0 a1 a2=>
 Va
 (run
 (fun s0=>
 bif decide (s0.2< (↑(Vb a2):Int)) then
 Va (idx a2 s0.2) fun x1=>
 Va (F9 a0 a1 x1.1) fun x2=>
 Va (bif !x2 then some (x1.1,x1.2.1,x1.2.2.1,false,false,x1.2.2.2.2.2) else some x1) fun x3=>
 Va (Zam (decide (Vb s0.1+Vb [x3]<=Zan))) fun _=>
 some (.inl (s0.1++[x3],Vc .i64 (s0.2+(1:Int))))
 else some (.inr s0.1))
 ([],(0:Int)))
 fun x5=>
 Va (inb (↑(Vb x5):Int) (Vb x5+(1:Nat))) fun x6=>
 Va (sliceB (Vb x5) x6 none (some (↑(Vb x5):Int))) fun x7=>some (Ve x7.2 (Vg (0:Nat) x5))
def F8S:Tr.Spec:= {args:=(.cons (.pd Y31) (.cons (.pd Y33) (.cons (.pd Y58) .nil))),res:=(.cons (.pd Y58) .nil),fns:=[],α:=El Y58,f:=fun x=>F8 x.1 x.2.1 x.2.2.1,unp:=fun z=>(((),(),(),()),(z,())) }
theorem F8_ok:ZaS Tryz.prog 62 F8S:=Zad (rws:=[]) (zxs:=[]) (nt:=35) (m:=[(98,[F9S])]) (fn:=Tryz.f62) (hint:=(hS (hS (.seq (hS (.lp ⟨[(7,(.own Y87 false)),(12,(.pd Y3))],[],[3,4,10,11],[],[],[]⟩ [((.exit 0),⟨[(7,(.own Y87 false))],[],[],[],[],[]⟩)] (hS (hS (.seq (hS (.seq (hS (.cnd (some (⟨[],[],[3,4,7,10,11,12],[],[],[]⟩,[(.normal,⟨[(9,(.var Y87 (.pd Y87)))],[],[3,4,7,10,11,12],[],[],[]⟩)])) .leaf .leaf)) .leaf)) .leaf))))) .leaf)))) (pack:=fun y=>y.2.1) Za1 tab_ok ⟨⟨F9_ok,trivial⟩,trivial⟩ fun x z h=> .trans (by kernel_rfl) h
def F7: (El Y31)->(El Y33)->Option (El Y31×El Y36):=fun a0 a1=>
 Va (F5 a0 a1) fun x0=>
 bif !decide (x0=(0:Int)) then some ((([]:List (El Y83)),([]:List (El Y85)),([]:List (El Y60)),([]:List (El Y63)),([]:List (El Y79)),(([]:List (El Zva)),(0:Int),(0:Int),(0:Int),()),()),x0)
 else
 Va (F40 a0) fun x1=>
 Va
 (run
 (fun s2=>
 bif decide (s2.2< (↑(Vb a0.2.2.1):Int)) then
 Va (idx a0.2.2.1 s2.2) fun x3=>
 Va (F10 a0 a1 x3) fun x4=>
 Va (inb s2.2 (Vb s2.1.2.2.1)) fun x5=>
 Va s2.1.2.2.1[x5]? fun x6=>
 Va (F8 a0 a1 x3.2.2.2.2.2.2.2.1) fun x7=>
 Va
 (inb s2.2
 (Vb
 (Vd s2.1.2.2.1 x5
 (x6.1,x6.2.1,x6.2.2.1,x6.2.2.2.1,x6.2.2.2.2.1,x6.2.2.2.2.2.1, !x4,x6.2.2.2.2.2.2.2))))
 fun x8=>
 Va
 (Vd s2.1.2.2.1 x5
 (x6.1,x6.2.1,x6.2.2.1,x6.2.2.2.1,x6.2.2.2.2.1,x6.2.2.2.2.2.1, !x4,x6.2.2.2.2.2.2.2))[x8]?
 fun x9=>
 some
 (.inl
 ((s2.1.1,s2.1.2.1,
 Vd
 (Vd s2.1.2.2.1 x5
 (x6.1,x6.2.1,x6.2.2.1,x6.2.2.2.1,x6.2.2.2.2.1,x6.2.2.2.2.2.1, !x4,x6.2.2.2.2.2.2.2))
 x8
 (x9.1,x9.2.1,x9.2.2.1,x9.2.2.2.1,x9.2.2.2.2.1,x9.2.2.2.2.2.1,x9.2.2.2.2.2.2.1,x7,
 x9.2.2.2.2.2.2.2.2),
 s2.1.2.2.2.1,s2.1.2.2.2.2.1,s2.1.2.2.2.2.2.1,()),
 Vc .i64 (s2.2+(1:Int))))
 else some (.inr s2.1))
 (x1,(0:Int)))
 fun x10=>
 bif a1.2.2.2.2.2.2.1 then
 Va
 (run
 (fun s11=>
 bif decide (s11.2< (↑(Vb a0.2.2.2.2.1):Int)) then
 Va (idx a0.2.2.2.2.1 s11.2) fun x12=>
 bif x12.2.2.2.1 then
 Va (Zam (decide (Vb s11.1.2.2.2.2.1+Vb [x12]<=Zan))) fun _=>
 some
 (.inl
 ((s11.1.1,s11.1.2.1,s11.1.2.2.1,s11.1.2.2.2.1,s11.1.2.2.2.2.1++[x12],s11.1.2.2.2.2.2.1,()),
 Vc .i64 (s11.2+(1:Int))))
 else
 some
 (.inl
 (s11.1,
 Vc .i64 (s11.2+(1:Int))))
 else some (.inr s11.1))
 ((x10.1,x10.2.1,x10.2.2.1,x10.2.2.2.1,[],x10.2.2.2.2.2.1,()),(0:Int)))
 fun x14=>some (x14,(0:Int))
 else some (x10,(0:Int))
def F7S:Tr.Spec:= {args:=(.cons (.pd Y31) (.cons (.pd Y33) .nil)),res:=(.cons (.pd Y31) (.cons (.pd Y36) .nil)),fns:=[],α:=El Y31×El Y36,f:=fun x=>F7 x.1 x.2.1,unp:=fun z=>(((),(),()),(z.1,z.2,())) }
theorem F7_ok:ZaS Tryz.prog 41 F7S:=Zad (rws:=[]) (zxs:=[]) (nt:=70) (m:=[(59,[F5S]),(60,[F40S]),(61,[F10S]),(62,[F8S])]) (fn:=Tryz.f41) (hint:=(hS (hS (hS (.seq (hS (.lp ⟨[(7,Pz6),(24,(.pd Y3))],[],[2,3,4,22,23],[],[],[]⟩ [((.exit 0),⟨[(7,Pz6)],[],[2,3,4],[],[],[]⟩)] .leaf)) (.seq (hS (.cnd none (hS (hS (.lp ⟨[(7,(.var Y31 (.agg (.cons (.pd Y22) (.cons (.pd Y23) (.cons (.own Y60 false) (.cons (.pd Y25) (.cons (.own Y79 false) (.cons (.pd Y29) .nil))))))))),(56,(.pd Y3))],[],[4,54,55],[],[],[]⟩ [((.exit 2),⟨[(7,(.var Y31 (.agg (.cons (.pd Y22) (.cons (.pd Y23) (.cons (.own Y60 false) (.cons (.pd Y25) (.cons (.own Y79 false) (.cons (.pd Y29) .nil)))))))))],[],[4],[],[],[]⟩)] .leaf))) .leaf)) .leaf)))))) (pack:=fun y=>(y.2.1,y.2.2.1)) Za1 tab_ok ⟨⟨F5_ok,trivial⟩,⟨F40_ok,trivial⟩,⟨F10_ok,trivial⟩,⟨F8_ok,trivial⟩,trivial⟩ fun x z h=> .trans (by kernel_rfl) h
def F38: (El Y31)->Option (El Y4):=fun a0=>Va (F39 a0) fun x0=>some (decide (x0.2.2=(0:Int)))
def F38S:Tr.Spec:= {args:=(.cons (.pd Y31) .nil),res:=(.cons (.pd Y4) .nil),fns:=[],α:=El Y4,f:=fun x=>F38 x.1,unp:=fun z=>(((),()),(z,())) }
theorem F38_ok:ZaS Tryz.prog 63 F38S:=Zad (rws:=[]) (zxs:=[]) (nt:=14) (m:=[(84,[F39S])]) (fn:=Tryz.f63) (hint:= .leaf) (pack:=fun y=>y.2.1) Za1 tab_ok ⟨⟨F39_ok,trivial⟩,trivial⟩ fun x z h=> .trans (by kernel_rfl) h
def F37: (El Y3)->(El Y31)->(El Y3)->Option (El Y4):=fun a0 a1 a2=>Va (idx a1.2.2.1 a0) fun x0=>Va (idx x0.2.2.2.2.2.2.2.1 (0:Int)) fun x1=>some (decide (x1.2.2.1<=a2))
def F37S:Tr.Spec:= {args:=(.cons (.pd Y3) (.cons (.ro Y31) (.cons (.ro Y3) .nil))),res:=(.cons (.pd Y4) .nil),fns:=[],α:=El Y4,f:=fun x=>F37 x.1 x.2.1 x.2.2.1,unp:=fun z=>(((),(),(),()),(z,())) }
theorem F37_ok:ZaS Tryz.prog 100 F37S:=Zad (rws:=[]) (zxs:=[]) (nt:=16) (m:=[]) (fn:=Tryz.f100) (hint:= .leaf) (pack:=fun y=>y.2.1) Za1 tab_ok trivial fun x z h=> .trans (by kernel_rfl) h
def F34: (El Y52)->((El Y31×El Y3×Unit))->Option (El Y3):=fun a0 a1=>
 Va
 (run
 (fun s0=>
 bif decide (s0.1<s0.2) then
 Va (idx a0 (Vc .i64 (s0.1+Vc .i64 (Vm (Vc .i64 (s0.2 - s0.1)) (2:Int))))) fun x1=>
 Va (F37 x1 a1.1 a1.2.1) fun x2=>
 bif x2 then
 some
 (.inl
 (Vc .i64
 (Vc .i64 (s0.1+Vc .i64 (Vm (Vc .i64 (s0.2 - s0.1)) (2:Int)))+(1:Int)),
 s0.2))
 else some (.inl (s0.1,Vc .i64 (s0.1+Vc .i64 (Vm (Vc .i64 (s0.2 - s0.1)) (2:Int)))))
 else some (.inr s0.1))
 ((0:Int),(↑(Vb a0):Int)))
 fun x3=>some x3
def F34S:Tr.Spec:= {args:=(.cons (.pd Y52) (.cons (.fn 100 (.cons (.ro Y31) (.cons (.ro Y3) .nil))) .nil)),res:=(.cons (.pd Y3) .nil),fns:=[100],α:=El Y3,f:=fun x=>F34 x.1 x.2.1,unp:=fun z=>(((),((),(),()),()),(z,())) }
theorem F34_ok:ZaS Tryz.prog 99 F34S:=Zad (rws:=[]) (zxs:=[]) (nt:=29) (m:=[(100,[F37S])]) (fn:=Tryz.f99) (hint:=(hS (hS (.seq (.lp ⟨[(5,(.pd Y3)),(6,(.pd Y3))],[],[0,1],[],[],[]⟩ [((.exit 0),⟨[(5,(.pd Y3))],[],[1],[],[],[]⟩)] .leaf) .leaf)))) (pack:=fun y=>y.2.1) Za1 tab_ok ⟨⟨F37_ok,trivial⟩,trivial⟩ fun x z h=> .trans (by kernel_rfl) h
def F36: (El Y31)->Option (El Y52):=fun a0=>
 Va
 (run
 (fun s0=>
 bif decide (s0.2< (↑(Vb a0.2.2.1):Int)) then
 Va (idx a0.2.2.1 s0.2) fun x1=>
 bif x1.2.2.2.2.2.2.1 then some (.inl (s0.1,Vc .i64 (s0.2+(1:Int))))
 else
 Va (idx x1.2.2.2.2.2.2.2.1 (0:Int)) fun x2=>
 Va (F34 s0.1 (a0,x2.2.2.1,())) fun x3=>
 Va (Zam (decide (Vb s0.1+Vb [(0:Int)]<=Zan))) fun _=>
 Va (sliceB (Vb (s0.1++[(0:Int)])) (Vb (s0.1++[(0:Int)])) (some (Vc .i64 (x3+(1:Int)))) none)
 fun x5=>
 Va (sliceB (Vb (s0.1++[(0:Int)])) (Vb (s0.1++[(0:Int)])) (some x3) none) fun x6=>
 Va (Zam (Nat.ble (x5.1+(x5.2 - x5.1)) (Vb (s0.1++[(0:Int)])))) fun _=>
 Va
 (inb x3
 (Vb
 (Ve x5.1 (s0.1++[(0:Int)])++
 Ve (Min.min (Vb (Ve (x6.2 - x6.1) (Vg x6.1 (s0.1++[(0:Int)])))) (x5.2 - x5.1))
 (Ve (x6.2 - x6.1) (Vg x6.1 (s0.1++[(0:Int)])))++
 Vg (x5.1+Min.min (Vb (Ve (x6.2 - x6.1) (Vg x6.1 (s0.1++[(0:Int)])))) (x5.2 - x5.1)) (s0.1++[(0:Int)]))))
 fun x8=>
 Va
 (Ve x5.1 (s0.1++[(0:Int)])++
 Ve (Min.min (Vb (Ve (x6.2 - x6.1) (Vg x6.1 (s0.1++[(0:Int)])))) (x5.2 - x5.1))
 (Ve (x6.2 - x6.1) (Vg x6.1 (s0.1++[(0:Int)])))++
 Vg (x5.1+Min.min (Vb (Ve (x6.2 - x6.1) (Vg x6.1 (s0.1++[(0:Int)])))) (x5.2 - x5.1)) (s0.1++[(0:Int)]))[x8]?
 fun _=>
 some
 (.inl
 (Vd
 (Ve x5.1 (s0.1++[(0:Int)])++
 Ve (Min.min (Vb (Ve (x6.2 - x6.1) (Vg x6.1 (s0.1++[(0:Int)])))) (x5.2 - x5.1))
 (Ve (x6.2 - x6.1) (Vg x6.1 (s0.1++[(0:Int)])))++
 Vg (x5.1+Min.min (Vb (Ve (x6.2 - x6.1) (Vg x6.1 (s0.1++[(0:Int)])))) (x5.2 - x5.1)) (s0.1++[(0:Int)]))
 x8 s0.2,
 Vc .i64 (s0.2+(1:Int))))
 else some (.inr s0.1))
 ([],(0:Int)))
 fun x10=>some x10
def F36S:Tr.Spec:= {args:=(.cons (.pd Y31) .nil),res:=(.cons (.pd Y52) .nil),fns:=[],α:=El Y52,f:=fun x=>F36 x.1,unp:=fun z=>(((),()),(z,())) }
theorem F36_ok:ZaS Tryz.prog 64 F36S:=Zad (rws:=[]) (zxs:=[]) (nt:=43) (m:=[(99,[F34S]),(100,[F37S])]) (fn:=Tryz.f64) (hint:=(hS (hS (.seq (hS (.lp ⟨[(3,(.own Y3 false)),(11,(.pd Y3))],[],[1,9,10],[],[],[]⟩ [((.exit 0),⟨[(3,(.own Y3 false))],[],[],[],[],[]⟩)] .leaf)) .leaf)))) (pack:=fun y=>y.2.1) Za1 tab_ok ⟨⟨F34_ok,trivial⟩,⟨F37_ok,trivial⟩,trivial⟩ fun x z h=> .trans (by kernel_rfl) h
def F33: (El Y87)->(El Y87)->Option (El Y4):=fun a0 a1=>
 some
 (decide (a0.1=a1.1) &&
 (decide ((0:Int)=(0:Int)) && (decide ((0:Int)=(0:Int)) && (a0.2.2.2.1==a1.2.2.2.1&&a0.2.2.2.2.1==a1.2.2.2.2.1))))
def F33S:Tr.Spec:= {args:=(.cons (.pd Y87) (.cons (.pd Y87) .nil)),res:=(.cons (.pd Y4) .nil),fns:=[],α:=El Y4,f:=fun x=>F33 x.1 x.2.1,unp:=fun z=>(((),(),()),(z,())) }
theorem F33_ok:ZaS Tryz.prog 101 F33S:=Zad (rws:=[]) (zxs:=[]) (nt:=12) (m:=[]) (fn:=Tryz.f101) (hint:= .leaf) (pack:=fun y=>y.2.1) Za1 tab_ok trivial fun x z h=> .trans (by kernel_rfl) h
def F35: (El Y60)->(El Y60)->Option (El Y4):=fun a0 a1=>
 Va
 (bif !decide (a0.2.2.2.2.1=a1.2.2.2.2.1) then some true
 else
 bif !a0.2.2.2.2.2.1==a1.2.2.2.2.2.1 then some true
 else some !decide ((↑(Vb a0.2.2.2.2.2.2.2.1):Int)=(↑(Vb a1.2.2.2.2.2.2.2.1):Int)))
 fun x0=>
 bif x0 then some false
 else
 Va
 (run
 (fun s1=>
 bif decide (s1< (↑(Vb a0.2.2.2.2.2.2.2.1):Int)) then
 Va (idx a0.2.2.2.2.2.2.2.1 s1) fun x2=>
 Va (idx a1.2.2.2.2.2.2.2.1 s1) fun x3=>
 Va
 (Va (F33 x2 x3) fun x4=>
 bif !x4 then some true
 else bif decide (x3.2.1<x2.2.1) then some true else some (decide (x3.2.2.1<x2.2.2.1)))
 fun x5=>bif x5 then some (.inr (.inr false)) else some (.inl (Vc .i64 (s1+(1:Int))))
 else some (.inr (.inl ())))
 (0:Int))
 fun x6=>Vh (fun _=>some true) (fun y8=>some y8) x6
def F35S:Tr.Spec:= {args:=(.cons (.pd Y60) (.cons (.pd Y60) .nil)),res:=(.cons (.pd Y4) .nil),fns:=[],α:=El Y4,f:=fun x=>F35 x.1 x.2.1,unp:=fun z=>(((),(),()),(z,())) }
theorem F35_ok:ZaS Tryz.prog 65 F35S:=Zad (rws:=[]) (zxs:=[]) (nt:=61) (m:=[(101,[F33S])]) (fn:=Tryz.f65) (hint:=(hS (.seq (.seq (.reg [(28,Y4)]) .leaf) (.seq (hS (.lp ⟨[(32,(.pd Y3))],[],[3,30,31],[],[],[]⟩ [((.exit 0),⟨[],[],[],[],[],[]⟩),(.ret,⟨[(4,(.pd Y4))],[],[],[],[],[]⟩)] (hS (hS (.seq (hS (hS (.seq (.reg [(59,Y4)]) .leaf))) .leaf))))) .leaf)))) (pack:=fun y=>y.2.1) Za1 tab_ok ⟨⟨F33_ok,trivial⟩,trivial⟩ fun x z h=> .trans (by kernel_rfl) h
def F32: (El Y31)->Option (El Y38×El Y36):=fun a0=>
 Va (F38 a0) fun x0=>
 bif !x0 then some ([],(21:Int))
 else
 Va (F36 a0) fun x1=>
 Va
 (run
 (fun s2=>
 bif decide (s2.2< (↑(Vb x1):Int)) then
 Va (idx x1 s2.2) fun x3=>
 Va
 (run
 (fun s4=>
 bif decide (s4.2.2< (↑(Vb s2.1):Int)) then
 Va (inb s4.2.2 (Vb s4.1)) fun x5=>
 Va s4.1[x5]? fun _=>
 Va (idx s4.1 (↑x5:Int)) fun x7=>
 Va (idx s4.1 (↑x5:Int)) fun x8=>
 Va (inb (Vc .i64 ((↑(Vb x7):Int) - (1:Int))) (Vb x8)) fun x9=>
 Va (idx s4.1 (↑x5:Int)) fun x10=>
 Va x10[x9]? fun x11=>
 Va (idx a0.2.2.1 x11) fun x12=>
 Va (idx a0.2.2.1 x3) fun x13=>
 Va (F35 x12 x13) fun x14=>
 bif x14 then
 Va (idx s4.1 (↑x5:Int)) fun x15=>
 Va (Zam (decide (Vb x15+Vb [x3]<=Zan))) fun _=>
 Va (inb s4.2.2 (Vb s4.1)) fun x17=>
 Va (Zam (Zjk (some (Vk (↑x5:Int))) x17)) fun _=>
 Va s4.1[x17]? fun _=>some (.inr (Vd s4.1 x17 (x15++[x3]),true))
 else some (.inl (s4.1,s4.2.1,Vc .i64 (s4.2.2+(1:Int))))
 else some (.inr (s4.1,s4.2.1)))
 (s2.1,false,(0:Int)))
 fun x20=>
 bif !x20.2 then
 Va (Zam (decide (Vb x20.1+Vb [[x3]]<=Zan))) fun _=>
 some (.inl (x20.1++[[x3]],Vc .i64 (s2.2+(1:Int))))
 else some (.inl (x20.1,Vc .i64 (s2.2+(1:Int))))
 else some (.inr s2.1))
 ([],(0:Int)))
 fun x22=>some (x22,(0:Int))
def F32S:Tr.Spec:= {args:=(.cons (.pd Y31) .nil),res:=(.cons (.pd Y38) (.cons (.pd Y36) .nil)),fns:=[],α:=El Y38×El Y36,f:=fun x=>F32 x.1,unp:=fun z=>(((),()),(z.1,z.2,())) }
theorem F32_ok:ZaS Tryz.prog 42 F32S:=Zad (rws:=[38]) (zxs:=[]) (nt:=60) (m:=[(63,[F38S]),(64,[F36S]),(65,[F35S])]) (fn:=Tryz.f42) (hint:=(hS (hS (hS (.seq (hS (.lp ⟨[(4,(.rows Y3 false)),(16,(.pd Y3))],[],[1,14,15],[],[],[]⟩ [((.exit 0),⟨[(4,(.rows Y3 false))],[],[],[],[],[]⟩)] (hS (hS (.seq (hS (hS (.seq (hS (.lp ⟨[(4,(.rows Y3 false)),(7,(.pd Y4)),(22,(.pd Y3))],[],[1,6,14,15,16,21],[(20,4)],[],[]⟩ [((.exit 2),⟨[(4,(.rows Y3 false)),(7,(.pd Y4))],[],[1,6,14,15,16],[],[],[]⟩)] .leaf)) .leaf))) .leaf))))) .leaf))))) (pack:=fun y=>(y.2.1,y.2.2.1)) Za1 tab_ok ⟨⟨F38_ok,trivial⟩,⟨F36_ok,trivial⟩,⟨F35_ok,trivial⟩,trivial⟩ fun x z h=> .trans (by kernel_rfl) h
def F126: (El Y3)->Option (List (El ZjR)):=fun a0=>
 Va (Zam (decide ((0:El (Tr.Ty.int .i64))<=a0/\a0<=a0/\a0<=(↑Zan:El (Tr.Ty.int .i64))))) fun _=>
 Va
 (run
 (fun s1=>
 bif decide (s1.2< (↑(Vb (Vj (Vk a0) (((0:Int),(0:Int),false,())))):Int)) then
 Va (inb s1.2 (Vb s1.1)) fun x2=>
 Va s1.1[x2]? fun _=>some (.inl (Vd s1.1 x2 ((-1:Int),(-1:Int),false,()),Vc .i64 (s1.2+(1:Int))))
 else some (.inr s1.1))
 (Vj (Vk a0) (((0:Int),(0:Int),false,())),(0:Int)))
 fun x4=>some x4
def F126S:Tr.Spec:= {args:=(.cons (.pd Y3) .nil),res:=(.cons (.own ZjR false) .nil),fns:=[],α:=List (El ZjR),f:=fun x=>F126 x.1,unp:=fun z=>(((),()),(z,())) }
theorem F126_ok:ZaS Tryz.prog 43 F126S:=Zad (rws:=[]) (zxs:=[]) (nt:=18) (m:=[]) (fn:=Tryz.f43) (hint:=(hS (hS (.seq (hS (.lp ⟨[(3,(.own ZjR false)),(9,(.pd Y3))],[],[8],[],[],[]⟩ [((.exit 0),⟨[(3,(.own ZjR false))],[],[],[],[],[]⟩)] .leaf)) .leaf)))) (pack:=fun y=>y.2.1) Za1 tab_ok trivial fun x z h=> .trans (by kernel_rfl) h
def F121: (Tz0)->(El Y3)->(El Y3)->(El Y3)->(El Y3)->Option (Tz0):=fun a0 a1 a2 a3 a4=>
 Va (inb a1 (Vb a0.2.2.1)) fun x0=>
 Va
 (Va a0.2.2.1[x0]? fun x1=>
 bif decide (x1.1=(-1:Int)) then some true else Va a0.2.2.1[x0]? fun x2=>some (decide (a2<x2.1)))
 fun x3=>
 bif x3 then
 Va a0.2.2.1[x0]? fun x4=>
 Va (Vd a0.2.2.1 x0 (a2,x4.2))[x0]? fun x5=>
 Va
 (Va (Vd (Vd a0.2.2.1 x0 (a2,x4.2)) x0 (x5.1,x5.2.1,x5.2.2.1,a4,x5.2.2.2.2))[x0]? fun x6=>
 bif decide (x6.2.2.1=(-1:Int)) then some true
 else
 Va (Vd (Vd a0.2.2.1 x0 (a2,x4.2)) x0 (x5.1,x5.2.1,x5.2.2.1,a4,x5.2.2.2.2))[x0]? fun x7=>
 some (decide (a3<x7.2.2.1)))
 fun x8=>
 bif x8 then
 Va (Vd (Vd a0.2.2.1 x0 (a2,x4.2)) x0 (x5.1,x5.2.1,x5.2.2.1,a4,x5.2.2.2.2))[x0]? fun x9=>
 Va
 (Vd (Vd (Vd a0.2.2.1 x0 (a2,x4.2)) x0 (x5.1,x5.2.1,x5.2.2.1,a4,x5.2.2.2.2)) x0 (x9.1,x9.2.1,a3,x9.2.2.2))[x0]?
 fun x10=>
 some
 (a0.1,a0.2.1,
 Vd
 (Vd (Vd (Vd a0.2.2.1 x0 (a2,x4.2)) x0 (x5.1,x5.2.1,x5.2.2.1,a4,x5.2.2.2.2)) x0 (x9.1,x9.2.1,a3,x9.2.2.2)) x0
 (x10.1,x10.2.1,x10.2.2.1,x10.2.2.2.1,x10.2.2.2.2.1,a4,x10.2.2.2.2.2.2),
 a0.2.2.2.1,a0.2.2.2.2.1,a0.2.2.2.2.2.1,a0.2.2.2.2.2.2.1,())
 else
 some
 (a0.1,a0.2.1,Vd (Vd a0.2.2.1 x0 (a2,x4.2)) x0 (x5.1,x5.2.1,x5.2.2.1,a4,x5.2.2.2.2),a0.2.2.2.1,a0.2.2.2.2.1,
 a0.2.2.2.2.2.1,a0.2.2.2.2.2.2.1,())
 else
 Va
 (Va a0.2.2.1[x0]? fun x11=>
 bif decide (x11.2.2.1=(-1:Int)) then some true else Va a0.2.2.1[x0]? fun x12=>some (decide (a3<x12.2.2.1)))
 fun x13=>
 bif x13 then
 Va a0.2.2.1[x0]? fun x14=>
 Va (Vd a0.2.2.1 x0 (x14.1,x14.2.1,a3,x14.2.2.2))[x0]? fun x15=>
 some
 (a0.1,a0.2.1,
 Vd (Vd a0.2.2.1 x0 (x14.1,x14.2.1,a3,x14.2.2.2)) x0
 (x15.1,x15.2.1,x15.2.2.1,x15.2.2.2.1,x15.2.2.2.2.1,a4,x15.2.2.2.2.2.2),
 a0.2.2.2.1,a0.2.2.2.2.1,a0.2.2.2.2.2.1,a0.2.2.2.2.2.2.1,())
 else some a0
def F121S:Tr.Spec:= {args:=(.cons Pz1 (.cons (.pd Y3) (.cons (.pd Y3) (.cons (.pd Y3) (.cons (.pd Y3) .nil))))),res:= .nil,fns:=[],α:=Tz0,f:=fun x=>F121 x.1 x.2.1 x.2.2.1 x.2.2.2.1 x.2.2.2.2.1,unp:=fun z=>((z,(),(),(),(),()),()),kp:=[(0,2,10)] }
theorem F121_ok:ZaS Tryz.prog 44 F121S:=Zad (rws:=[]) (zxs:=[]) (nt:=59) (m:=[]) (fn:=Tryz.f44) (hint:=(hS (.seq (.seq (.reg [(29,Y4)]) .leaf) (.seq (.reg [(50,Y4)]) .leaf)))) (pack:=fun y=>y.1.1) Za1 tab_ok trivial fun x z h=> .trans (by kernel_rfl) h
def F118: (Tz0)->(El Y66)->(El Y3)->Option (Tz0×El Y3):=fun a0 a1 a2=>
 Va (Zam (decide (Vb a0.2.1+Vb [(a1,a2,())]<=Zan))) fun _=>
 some
 ((a0.1,a0.2.1++[(a1,a2,())],a0.2.2.1,a0.2.2.2.1,a0.2.2.2.2.1,a0.2.2.2.2.2.1,a0.2.2.2.2.2.2.1,()),
 Vc .i64 ((↑(Vb (a0.2.1++[(a1,a2,())])):Int) - (1:Int)))
def F118S:Tr.Spec:= {args:=(.cons Pz1 (.cons (.pd Y66) (.cons (.pd Y3) .nil))),res:=(.cons (.pd Y3) .nil),fns:=[],α:=Tz0×El Y3,f:=fun x=>F118 x.1 x.2.1 x.2.2.1,unp:=fun z=>((z.1,(),(),()),(z.2,())),kp:=[(0,2,10)] }
theorem F118_ok:ZaS Tryz.prog 66 F118S:=Zad (rws:=[]) (zxs:=[]) (nt:=25) (m:=[]) (fn:=Tryz.f66) (hint:= .leaf) (pack:=fun y=>(y.1.1,y.2.1)) Za1 tab_ok trivial fun x z h=> .trans (by kernel_rfl) h
def F125: (Tz0)->(El Y3)->(El Y3)->(El Y3)->Option (Tz0):=fun a0 a1 a2 a3=>
 Va
 (run
 (fun s0=>
 bif decide (s0.2< (↑(Vb a0.1.2.2.2.2.1):Int)) then
 Va (idx a0.1.2.2.2.2.1 s0.2) fun x1=>
 Va (bif decide (x1.1=a1) then some (decide (Vc .i64 (a2+x1.2.2.1)<=(3155932800:Int))) else some false)
 fun x2=>
 bif x2 then
 Va
 (F118
 s0.1
 (false,(0:Int),(0:Int),(0:Int),a1,x1.2.1,a2,Vc .i64 (a2+x1.2.2.1),false,()) a3)
 fun x3=>
 Va
 (F121
 x3.1
 x1.2.1 (Vc .i64 (a2+x1.2.2.1)) (Vc .i64 (a2+x1.2.2.1)) x3.2)
 fun x4=>
 some
 (.inl
 (x4,
 Vc .i64 (s0.2+(1:Int))))
 else
 some
 (.inl
 (s0.1,
 Vc .i64 (s0.2+(1:Int))))
 else
 some
 (.inr s0.1))
 (a0,(0:Int)))
 fun x5=>some x5
def F125S:Tr.Spec:= {args:=(.cons Pz1 (.cons (.pd Y3) (.cons (.pd Y3) (.cons (.pd Y3) .nil)))),res:= .nil,fns:=[],α:=Tz0,f:=fun x=>F125 x.1 x.2.1 x.2.2.1 x.2.2.2.1,unp:=fun z=>((z,(),(),(),()),()),kp:=[(0,2,10)] }
theorem F125_ok:ZaS Tryz.prog 45 F125S:=Zad (rws:=[]) (zxs:=[]) (nt:=49) (m:=[(44,[F121S]),(66,[F118S])]) (fn:=Tryz.f45) (hint:=(hS (.lp ⟨[(0,Pz1),(17,(.pd Y3))],[],[1,2,3,15,16],[],[(0,2,10)],[]⟩ [((.exit 0),⟨[(0,Pz1)],[],[],[],[(0,2,10)],[]⟩)] (hS (hS (.seq (hS (hS (.seq (.reg [(32,Y4)]) .leaf))) .leaf)))))) (pack:=fun y=>y.1.1) Za1 tab_ok ⟨⟨F121_ok,trivial⟩,⟨F118_ok,trivial⟩,trivial⟩ fun x z h=> .trans (by kernel_rfl) h
def F114: (El ZjR)->(El Y3)->Option (El Y4):=fun a0 a1=>Va (bif decide (a0.1=(-1:Int)) then some true else some (decide (a1<a0.1))) fun x0=>some x0
def F114S:Tr.Spec:= {args:=(.cons (.pd ZjR) (.cons (.pd Y3) .nil)),res:=(.cons (.pd Y4) .nil),fns:=[],α:=El Y4,f:=fun x=>F114 x.1 x.2.1,unp:=fun z=>(((),(),()),(z,())) }
theorem F114_ok:ZaS Tryz.prog 68 F114S:=Zad (rws:=[]) (zxs:=[]) (nt:=14) (m:=[]) (fn:=Tryz.f68) (hint:=(hS (.seq (.reg [(4,Y4)]) .leaf))) (pack:=fun y=>y.2.1) Za1 tab_ok trivial fun x z h=> .trans (by kernel_rfl) h
def F119: (Tz0)->(El Y3)->(El ZjR)->Option (Tz0):=fun a0 a1 a2=>
 Va
 (Va (idx a0.1.2.2.1 a1) fun x0=>
 bif !x0.2.2.2.2.2.2.1 then
 Va (inb a1 (Vb a0.2.2.2.2.1)) fun x1=>
 Va a0.2.2.2.2.1[x1]? fun x2=>Va (F114 x2 a2.1) fun x3=>some x3
 else some false)
 fun x4=>
 bif x4 then
 Va (inb a1 (Vb a0.2.2.2.2.1)) fun x5=>
 Va a0.2.2.2.2.1[x5]? fun _=>
 Va (Zam (decide (Vb a0.2.2.2.2.2.1+Vb [a1]<=Zan))) fun _=>
 some (a0.1,a0.2.1,a0.2.2.1,a0.2.2.2.1,Vd a0.2.2.2.2.1 x5 a2,a0.2.2.2.2.2.1++[a1],a0.2.2.2.2.2.2.1,())
 else some a0
def F119S:Tr.Spec:= {args:=(.cons Pz1 (.cons (.pd Y3) (.cons (.pd ZjR) .nil))),res:= .nil,fns:=[],α:=Tz0,f:=fun x=>F119 x.1 x.2.1 x.2.2.1,unp:=fun z=>((z,(),(),()),()) }
theorem F119_ok:ZaS Tryz.prog 67 F119S:=Zad (rws:=[]) (zxs:=[]) (nt:=45) (m:=[(68,[F114S])]) (fn:=Tryz.f67) (hint:=(hS (.seq (.reg [(27,Y4)]) .leaf))) (pack:=fun y=>y.1.1) Za1 tab_ok ⟨⟨F114_ok,trivial⟩,trivial⟩ fun x z h=> .trans (by kernel_rfl) h
def F120: (Tz0)->(El Y3)->(El Y3)->(El Y3)->(El Y4)->Option (Tz0):=fun a0 a1 a2 a3 a4=>
 Va (idx a0.1.2.2.1 a1) fun x0=>
 Va (idx x0.2.2.2.2.2.2.2.1 a2) fun x1=>
 Va (idx a0.2.2.2.2.2.2.1 a1) fun x2=>
 Va
 (run
 (fun s3=>
 bif decide (s3.2< (↑(Vb x2):Int)) then
 Va (idx x2 s3.2) fun x4=>
 Va (idx s3.1.1.2.2.2.1 x4) fun x5=>
 Va (idx s3.1.1.2.2.1 x5.2.2.1) fun x6=>
 Va (idx x6.2.2.2.2.2.2.2.1 x5.2.2.2.1) fun x7=>
 Va (bif !decide (x5.2.1=a2) then some true else some (decide (x7.2.2.1<x1.2.1))) fun x8=>
 bif x8 then
 some
 (.inl
 (s3.1,
 Vc .i64 (s3.2+(1:Int))))
 else
 bif x5.2.2.2.2.1 then
 Va
 (F119
 s3.1
 x5.2.2.1 (x5.2.2.2.1,a3,true,()))
 fun x9=>
 some
 (.inl
 (x9,
 Vc .i64 (s3.2+(1:Int))))
 else
 Va
 (bif a4 then
 bif x7.2.2.2.1 then
 Va (inb x5.2.2.1 (Vb s3.1.2.2.2.1)) fun x10=>
 Va s3.1.2.2.2.1[x10]? fun x11=>Va (F114 x11 x5.2.2.2.1) fun x12=>some x12
 else some false
 else some false)
 fun x13=>
 bif x13 then
 Va (inb x5.2.2.1 (Vb s3.1.2.2.2.1)) fun x14=>
 Va s3.1.2.2.2.1[x14]? fun _=>
 some
 (.inl
 ((s3.1.1,s3.1.2.1,s3.1.2.2.1,Vd s3.1.2.2.2.1 x14 (x5.2.2.2.1,a3,false,()),s3.1.2.2.2.2.1,
 s3.1.2.2.2.2.2.1,s3.1.2.2.2.2.2.2.1,()),
 Vc .i64 (s3.2+(1:Int))))
 else
 some
 (.inl
 (s3.1,
 Vc .i64 (s3.2+(1:Int))))
 else
 some
 (.inr
 s3.1))
 (a0,(0:Int)))
 fun x16=>some x16
def F120S:Tr.Spec:= {args:=(.cons Pz1 (.cons (.pd Y3) (.cons (.pd Y3) (.cons (.pd Y3) (.cons (.pd Y4) .nil))))),res:= .nil,fns:=[],α:=Tz0,f:=fun x=>F120 x.1 x.2.1 x.2.2.1 x.2.2.2.1 x.2.2.2.2.1,unp:=fun z=>((z,(),(),(),(),()),()) }
theorem F120_ok:ZaS Tryz.prog 102 F120S:=Zad (rws:=[]) (zxs:=[]) (nt:=115) (m:=[(67,[F119S]),(68,[F114S])]) (fn:=Tryz.f102) (hint:=(hS (hS (.lp ⟨[(0,Pz1),(36,(.pd Y3))],[],[2,3,4,10,34,35],[],[],[]⟩ [((.exit 0),⟨[(0,Pz1)],[],[],[],[],[]⟩)] (hS (hS (.seq (hS (hS (hS (.seq (.reg [(62,Y4)]) (.cnd none .leaf (hS (.cnd none .leaf (.seq (.reg [(84,Y4)]) .leaf)))))))) .leaf))))))) (pack:=fun y=>y.1.1) Za1 tab_ok ⟨⟨F119_ok,trivial⟩,⟨F114_ok,trivial⟩,trivial⟩ fun x z h=> .trans (by kernel_rfl) h
end
end Q
