/- The functions of the program as functions of Lean, and that the program computes them; printed by a program of mine. Conditions: none. -/
import Derived.KernelRfl
import Derived.Test.YtdpenljjnfmgiaaGreatProg
import Derived.Test.YtdpenljjnfmgiaaGreatTsE
import Derived.Test.YtdpenljjnfmgiaaGreatTsJ
import Derived.Test.YtdpenljjnfmgiaaGreatTtC
import Derived.Test.YtdpenljjnfmgiaaGreatLay45
import Derived.Test.YtdpenljjnfmgiaaGreatCmp45
import Derived.Test.YtdpenljjnfmgiaaGreatCln45
import Derived.Test.YtdpenljjnfmgiaaGreatFmt45
import Derived.Test.YtdpenljjnfmgiaaGreatUse45
import Derived.Test.YtdpenljjnfmgiaaGreatLen45
open Tr Go Go.Proofs
open Int renaming toNat ->Vl,tdiv ->Vn
open Go.IntKind renaming wrap ->Vc
open List renaming length ->Vb,set ->Vd,take ->Vh,drop ->Vi,replicate ->Vj,isEmpty ->Vm
open Option renaming bind ->Va,getD ->Ve,isSome ->Vk
open Sum renaming elim ->Vf
open UInt8 renaming toNat ->Vg
namespace Q
noncomputable section
abbrev hS(h:ZfT):ZfT:= .seq .leaf h
abbrev Y3:Ty:= .int .i64
abbrev Y4:Ty:= .bool
abbrev Y5:Ty:= .int .u8
abbrev Y9:Ty:= .str
abbrev Zq5:Ty:= .prod Y9 (.prod Y3 (.prod Y4 (.prod Y3 .unit)))
abbrev Y22:Ty:= .sl Zq5
abbrev ZqZ:Ty:= .prod Y9 (.prod Y3 (.prod Y4 .unit))
abbrev Y23:Ty:= .sl ZqZ
abbrev Zn7:Ty:= .prod Y3 (.prod Y3 (.prod Y3 (.prod Y4 (.prod Y4 .unit))))
abbrev Y76:Ty:= .sl Zn7
abbrev Y78:Ty:= .prod Y3 (.prod Y3 (.prod Y3 (.prod Y9 (.prod Y3 (.prod Y4 (.prod Y4 (.prod Y76 .unit)))))))
abbrev Y24:Ty:= .sl Y78
abbrev ZqX:Ty:= .prod Y3 (.prod Y3 (.prod Y3 (.prod Y3 (.prod Y4 .unit))))
abbrev Y25:Ty:= .sl ZqX
abbrev ZdC:Ty:= .prod Y3 (.prod Y3 (.prod Y3 (.prod Y4 .unit)))
abbrev Y26:Ty:= .sl ZdC
abbrev Zo1:Ty:= .prod Y9 (.prod Y3 (.prod Y3 (.prod Y3 (.prod Y3 (.prod Y3 .unit)))))
abbrev Y27:Ty:= .sl Zo1
abbrev Y29:Ty:= .prod Y27 (.prod Y3 (.prod Y3 (.prod Y3 .unit)))
abbrev Y31:Ty:= .prod Y22 (.prod Y23 (.prod Y24 (.prod Y25 (.prod Y26 (.prod Y29 .unit)))))
abbrev Y33:Ty:= .prod Y3 (.prod Y3 (.prod Y3 (.prod Y4 (.prod Y3 (.prod Y3 (.prod Y4 (.prod Y4 (.prod Y3 (.prod Y4 .unit)))))))))
abbrev Y35:Ty:= .int .i64
abbrev Y82:Ty:= .prod Y4 (.prod Y3 (.prod Y3 (.prod Y3 (.prod Y3 (.prod Y3 (.prod Y3 (.prod Y3 (.prod Y4 .unit))))))))
abbrev Y46:Ty:= .sl Y82
abbrev Y48:Ty:= .prod Y46 .unit
abbrev Y50:Ty:= .prod Y3 (.prod Y3 (.prod Y3 (.prod Y3 (.prod Y3 .unit))))
abbrev ZnT:Ty:= .prod Y3 (.prod Y3 (.prod Y3 (.prod Y3 .unit)))
abbrev Y51:Ty:= .sl ZnT
abbrev Y53:Ty:= .prod Y48 (.prod Y50 (.prod Y51 .unit))
abbrev Y38:Ty:= .sl Y53
abbrev Y43:Ty:= .sl Y50
abbrev Y65:Ty:= .arr 2 Y3
abbrev Y63:Ty:= .sl Y65
abbrev Zq1:Ty:= .prod Y3 (.prod Y3 .unit)
abbrev Y85:Ty:= .sl Zq1
abbrev Y87:Ty:= .sl Y3
abbrev Y98:Ty:= .arr 3 Y3
abbrev ZlP:Ty:= .prod Y3 (.prod Y3 (.prod Y3 (.prod Y3 .unit)))
abbrev ZgQ:Ty:= .sl ZlP
abbrev Zl3:Ty:= .sl Y87
abbrev Zif:Ty:= .arr 4 Y3
abbrev Zrt:Ty:= .int .u64
abbrev Zr5:Ty:= .sl Y5
abbrev Zcb:Ty:= .prod Y3 (.prod Y3 (.prod Y35 .unit))
abbrev Zb6:Ty:= .int .u64
abbrev Zq2:Ty:= .prod Y4 (.prod Y3 (.prod Y3 (.prod ZnT .unit)))
abbrev ZfZ:Ty:= .arr 9 Zq2
abbrev ZrO:Ty:= .ref
abbrev Zrd:Ty:= .sl Zcb
abbrev ZnU:Ty:= .prod Y9 (.prod Y3 (.prod Y3 .unit))
abbrev ZrX:Ty:= .ref
abbrev ZrW:Ty:= .ref
abbrev ZrJ:Ty:= .ref
abbrev ZrF:Ty:= .ref
abbrev ZrZ:Ty:= .ref
abbrev Zi9:Ty:= .prod Y3 (.prod Y3 (.prod Y4 .unit))
abbrev ZrL:Ty:= .ref
abbrev Zr6:Ty:= .ref
abbrev Zjj:Ty:= .prod Y3 (.prod Y3 (.prod Y3 .unit))
abbrev Zo6:Ty:= .sl Zjj
abbrev ZrH:Ty:= .ref
abbrev Zie:Ty:= .prod Y3 (.prod Y3 (.prod Y3 .unit))
abbrev Zqa:Ty:= .sl Zie
abbrev ZrA:Ty:= .ref
abbrev ZqP:Ty:= .prod Zie (.prod Y3 .unit)
abbrev Zrr:Ty:= .sl ZqP
abbrev Zrc:Ty:= .prod ZrA (.prod Zrr (.prod Y3 .unit))
def tyTab:List (Nat×Ty):=[(3,Y3),(4,Y4),(5,Y5),(9,Y9),(128,Zq5),(22,Y22),(130,ZqZ),(23,Y23),(145,Zn7),(76,Y76),(78,Y78),(24,Y24),(199,ZqX),(25,Y25),(141,ZdC),(26,Y26),(133,Zo1),(27,Y27),(29,Y29),(31,Y31),(33,Y33),(35,Y35),(82,Y82),(46,Y46),(48,Y48),(50,Y50),(118,ZnT),(51,Y51),(53,Y53),(38,Y38),(43,Y43),(65,Y65),(63,Y63),(143,Zq1),(85,Y85),(87,Y87),(98,Y98),(173,ZlP),(111,ZgQ),(153,Zl3),(180,Zif),(184,Zrt),(185,Zr5),(189,Zcb),(215,Zb6),(222,Zq2),(223,ZfZ),(249,ZrO),(251,Zrd),(255,ZnU),(252,ZrX),(256,ZrW),(257,ZrJ),(258,ZrF),(261,ZrZ),(309,Zi9),(307,ZrL),(324,Zr6),(327,Zjj),(325,Zo6),(332,ZrH),(343,Zie),(335,Zqa),(346,ZrA),(356,ZqP),(352,Zrr),(354,Zrc)]
def mapTab:List (Nat×Ty×Ty):=[(249,Y9,Y4),(252,ZnU,Y4),(256,Y3,Y3),(257,Y3,Y4),(258,Zif,Y4),(261,ZdC,Y4),(307,Zi9,Y4),(324,Zi9,Y3),(332,Y3,Zo6)]
def pkTab:List (Nat×Nat):=[(344,1),(346,2)]
def bdTab:List (Nat×Nat):=[]
theorem ZaX:Tryz.prog.follows .mixedOrders=true:=by kernel_rfl
theorem tab_ok:ZgM Tryz.prog tyTab mapTab pkTab bdTab=true:=by kernel_rfl
abbrev Pz5:Pat:= .agg (.cons (.fn 269 .nil) (.cons (.own ZqP true) (.cons (.pd Y3) .nil)))
abbrev Pz4:Pat:= .agg (.cons (.fn 269 .nil) (.cons (.own ZqP false) (.cons (.pd Y3) .nil)))
abbrev Pz3:Pat:= .var Zrc Pz5
abbrev Pz2:Pat:= .var Zrc Pz4
abbrev Pz1:Pat:= .agg (.cons (.pd Y22) (.cons (.pd Y23) (.cons (.own Y78 false) (.cons (.pd Y25) (.cons (.pd Y26) (.cons (.pd Y29) .nil))))))
abbrev Pz0:Pat:= .var Y31 Pz1
abbrev Tz1:=Unit×List (El ZqP) ×El Y3×Unit
abbrev Tz0:=El Y22×El Y23×List (El Y78) ×El Y25×El Y26×El Y29×Unit
def F40: (El Y9)->Option (El Y4):=fun a0=>
 Va
 (run
 (fun s0=>
 bif decide (s0< (↑(Vb a0):Int)) then
 Va (idx a0 s0) fun x1=>
 Va (bif decide ((97:Int)<=(↑(Vg x1):Int)) then some (decide ((↑(Vg x1):Int)<=(122:Int))) else some false)
 fun x2=>
 Va
 (bif x2 then some x2
 else
 Va (bif decide ((65:Int)<=(↑(Vg x1):Int)) then some (decide ((↑(Vg x1):Int)<=(90:Int))) else some false)
 fun x3=>
 Va
 (bif x3 then some x3
 else
 Va
 (bif decide ((48:Int)<=(↑(Vg x1):Int)) then some (decide ((↑(Vg x1):Int)<=(57:Int))) else some false)
 fun x4=>some x4)
 fun x5=>some x5)
 fun x6=>
 bif x6 then some (.inl (Vc .i64 (s0+(1:Int))))
 else
 Va
 (bif decide ((↑(Vg x1):Int)=(45:Int)) then some (decide ((↑(Vg x1):Int)=(45:Int)))
 else
 Va
 (bif decide ((↑(Vg x1):Int)=(95:Int)) then some (decide ((↑(Vg x1):Int)=(95:Int)))
 else some (decide ((↑(Vg x1):Int)=(46:Int))))
 fun x7=>some x7)
 fun x8=>bif x8 then some (.inl (Vc .i64 (s0+(1:Int)))) else some (.inr (.inr false))
 else some (.inr (.inl ())))
 (0:Int))
 fun x9=>
 Vf
 (fun _=>
 Va (bif decide ((0:Int)< (↑(Vb a0):Int)) then some (decide ((↑(Vb a0):Int)<=(32:Int))) else some false) fun x11=>
 some x11)
 (fun y12=>some y12) x9
def F40S:Tr.Spec:= {args:=(.cons (.pd Y9) .nil),res:=(.cons (.pd Y4) .nil),fns:=[],α:=El Y4,f:=fun x=>F40 x.1,unp:=fun z=>(((),()),(z,())) }
theorem F40_ok:ZaF Tryz.prog 175 F40S:=Zaf (rws:=[]) (zxs:=[]) (nt:=48) (m:=[]) (fn:=Tryz.f175) (hint:=(hS (.seq (hS (.lp ⟨[(3,(.pd Y3))],[],[0],[],[],[]⟩ [((.exit 0),⟨[],[],[0],[],[],[]⟩),(.ret,⟨[(2,(.pd Y4))],[],[],[],[],[]⟩)] (hS (.seq (hS (.seq (.seq (.reg [(14,Y4)]) (.cnd (some (⟨[],[],[0,3,4],[],[],[]⟩,[(.normal,⟨[(14,(.pd Y4))],[],[0,3,4],[],[],[]⟩)])) .leaf (.seq (.reg [(14,Y4)]) (.cnd (some (⟨[],[],[0,3,4],[],[],[]⟩,[(.normal,⟨[(14,(.pd Y4))],[],[0,3,4],[],[],[]⟩)])) .leaf (.reg [(14,Y4)]))))) (.cnd none .leaf (.seq (hS (.cnd (some (⟨[],[],[0,3],[],[],[]⟩,[(.normal,⟨[(33,(.pd Y4))],[],[0,3],[],[],[]⟩)])) .leaf (hS (.cnd (some (⟨[],[],[0,3],[],[],[]⟩,[(.normal,⟨[(33,(.pd Y4))],[],[0,3],[],[],[]⟩)])) .leaf .leaf)))) .leaf)))) .leaf)))) (.seq (.reg [(2,Y4)]) .leaf)))) (pack:=fun y=>y.2.1) ZaX tab_ok trivial fun x z h=> .trans (by kernel_rfl) h
def F113: (El Y22)->Option (El Y3×El Y35):=fun a0=>
 bif decide ((64:Int)< (↑(Vb a0):Int)) then some ((0:Int),(5:Int))
 else
 Va
 (run
 (fun s0=>
 bif decide (s0.2< (↑(Vb a0):Int)) then
 Va (idx a0 s0.2) fun x1=>
 Va (F40 x1.1) fun x2=>
 bif !x2 then some (.inr (.inr (s0.2,(12:Int))))
 else
 bif Ve (Zaw (Zai Y9) x1.1 s0.1) (false) then some (.inr (.inr (s0.2,(6:Int))))
 else
 Va
 (bif decide (x1.2.1< (0:Int)) then some true
 else
 bif decide ((16:Int)<=x1.2.1) then some true
 else bif decide (x1.2.2.2.1< (0:Int)) then some true else some (decide ((3600:Int)<x1.2.2.2.1)))
 fun x3=>
 bif x3 then some (.inr (.inr (s0.2,(2:Int))))
 else some (.inl (ZaS (Zai Y9) x1.1 true s0.1,Vc .i64 (s0.2+(1:Int))))
 else some (.inr (.inl ())))
 ([],(0:Int)))
 fun x4=>Vf (fun _=>some ((0:Int),(0:Int))) (fun y6=>some (y6.1,y6.2)) x4
def F113S:Tr.Spec:= {args:=(.cons (.pd Y22) .nil),res:=(.cons (.pd Y3) (.cons (.pd Y35) .nil)),fns:=[],α:=El Y3×El Y35,f:=fun x=>F113 x.1,unp:=fun z=>(((),()),(z.1,z.2,())) }
theorem F113_ok:ZaF Tryz.prog 107 F113S:=Zaf (rws:=[]) (zxs:=[]) (nt:=54) (m:=[(175,[F40S])]) (fn:=Tryz.f107) (hint:=(hS (hS (hS (.seq (hS (.lp ⟨[(4,(.map Y9 Y4)),(13,(.pd Y3))],[],[11,12],[],[],[]⟩ [((.exit 0),⟨[],[],[],[],[],[]⟩),(.ret,⟨[(2,(.pd Y3)),(3,(.pd Y35))],[],[],[],[],[]⟩)] (hS (hS (.seq (hS (.seq (hS (.cnd none .leaf (hS (.cnd none .leaf (.seq (.reg [(30,Y4)]) .leaf))))) .leaf)) .leaf))))) .leaf))))) (pack:=fun y=>(y.2.1,y.2.2.1)) ZaX tab_ok ⟨⟨F40_ok,trivial⟩,trivial⟩ fun x z h=> .trans (by kernel_rfl) h
def F100: (El Y3)->Option (El Y4):=fun a0=>Va (bif decide ((0:Int)<=a0) then some (decide (a0< (8:Int))) else some false) fun x0=>some x0
def F100S:Tr.Spec:= {args:=(.cons (.pd Y3) .nil),res:=(.cons (.pd Y4) .nil),fns:=[],α:=El Y4,f:=fun x=>F100 x.1,unp:=fun z=>(((),()),(z,())) }
theorem F100_ok:ZaF Tryz.prog 176 F100S:=Zaf (rws:=[]) (zxs:=[]) (nt:=9) (m:=[]) (fn:=Tryz.f176) (hint:=(hS (.seq (.reg [(2,Y4)]) .leaf))) (pack:=fun y=>y.2.1) ZaX tab_ok trivial fun x z h=> .trans (by kernel_rfl) h
def F99: (El Y23)->Option (El Y3×El Y35):=fun a0=>
 bif decide ((64:Int)< (↑(Vb a0):Int)) then some ((0:Int),(5:Int))
 else
 Va
 (run
 (fun s0=>
 bif decide (s0.2< (↑(Vb a0):Int)) then
 Va (idx a0 s0.2) fun x1=>
 Va (F40 x1.1) fun x2=>
 bif !x2 then some (.inr (.inr (s0.2,(12:Int))))
 else
 bif Ve (Zaw (Zai Y9) x1.1 s0.1) (false) then some (.inr (.inr (s0.2,(6:Int))))
 else
 Va (F100 x1.2.1) fun x3=>
 bif !x3 then some (.inr (.inr (s0.2,(2:Int))))
 else some (.inl (ZaS (Zai Y9) x1.1 true s0.1,Vc .i64 (s0.2+(1:Int))))
 else some (.inr (.inl ())))
 ([],(0:Int)))
 fun x4=>Vf (fun _=>some ((0:Int),(0:Int))) (fun y6=>some (y6.1,y6.2)) x4
def F99S:Tr.Spec:= {args:=(.cons (.pd Y23) .nil),res:=(.cons (.pd Y3) (.cons (.pd Y35) .nil)),fns:=[],α:=El Y3×El Y35,f:=fun x=>F99 x.1,unp:=fun z=>(((),()),(z.1,z.2,())) }
theorem F99_ok:ZaF Tryz.prog 108 F99S:=Zaf (rws:=[]) (zxs:=[]) (nt:=37) (m:=[(175,[F40S]),(176,[F100S])]) (fn:=Tryz.f108) (hint:=(hS (hS (hS (.seq (hS (.lp ⟨[(4,(.map Y9 Y4)),(13,(.pd Y3))],[],[11,12],[],[],[]⟩ [((.exit 0),⟨[],[],[],[],[],[]⟩),(.ret,⟨[(2,(.pd Y3)),(3,(.pd Y35))],[],[],[],[],[]⟩)] .leaf)) .leaf))))) (pack:=fun y=>(y.2.1,y.2.2.1)) ZaX tab_ok ⟨⟨F40_ok,trivial⟩,⟨F100_ok,trivial⟩,trivial⟩ fun x z h=> .trans (by kernel_rfl) h
def F56: (El Zrd)->Option (El Zcb):=fun a0=>
 Va
 (run
 (fun s0=>
 bif decide (s0.2< (↑(Vb a0):Int)) then
 Va (idx a0 s0.2) fun x1=>
 bif !decide (x1.2.2.1=(0:Int)) then some (.inr (.inr x1)) else some (.inl (s0.1,Vc .i64 (s0.2+(1:Int))))
 else some (.inr (.inl s0.1)))
 (((0:Int),(0:Int),(0:Int),()),(0:Int)))
 fun x2=>Vf (fun _=>some ((0:Int),(0:Int),(0:Int),())) (fun y4=>some y4) x2
def F56S:Tr.Spec:= {args:=(.cons (.pd Zrd) .nil),res:=(.cons (.pd Zcb) .nil),fns:=[],α:=El Zcb,f:=fun x=>F56 x.1,unp:=fun z=>(((),()),(z,())) }
theorem F56_ok:ZaF Tryz.prog 109 F56S:=Zaf (rws:=[]) (zxs:=[]) (nt:=17) (m:=[]) (fn:=Tryz.f109) (hint:=(hS (.seq (hS (.lp ⟨[(2,(.var Zcb (.pd Zcb))),(7,(.pd Y3))],[],[5,6],[],[],[]⟩ [((.exit 0),⟨[(2,(.var Zcb (.pd Zcb)))],[],[],[],[],[]⟩),(.ret,⟨[(2,(.var Zcb (.pd Zcb)))],[],[],[],[],[]⟩)] .leaf)) .leaf))) (pack:=fun y=>y.2.1) ZaX tab_ok trivial fun x z h=> .trans (by kernel_rfl) h
def F65: (El Y3)->(El Y3)->(El Y35)->Option (El Zcb):=fun a0 a1 a2=>some (a0,a1,a2,())
def F65S:Tr.Spec:= {args:=(.cons (.pd Y3) (.cons (.pd Y3) (.cons (.pd Y35) .nil))),res:=(.cons (.pd Zcb) .nil),fns:=[],α:=El Zcb,f:=fun x=>F65 x.1 x.2.1 x.2.2.1,unp:=fun z=>(((),(),(),()),(z,())) }
theorem F65_ok:ZaF Tryz.prog 110 F65S:=Zaf (rws:=[]) (zxs:=[]) (nt:=11) (m:=[]) (fn:=Tryz.f110) (hint:= .leaf) (pack:=fun y=>y.2.1) ZaX tab_ok trivial fun x z h=> .trans (by kernel_rfl) h
def F7: (El Y76)->(El Y3)->(El Y3)->(El Y3)->(El Y3)->Option (El Y35):=fun a0 a1 a2 a3 a4=>
 Va (idx a0 a1) fun x0=>
 Va (bif decide (x0.1< (0:Int)) then some true else some (decide (a2<=x0.1))) fun x1=>
 bif x1 then some (9:Int)
 else
 Va
 (bif decide ((0:Int)<a1) then Va (idx a0 (Vc .i64 (a1 - (1:Int)))) fun x2=>some (decide (x2.1=x0.1))
 else some false)
 fun x3=>
 bif x3 then some (13:Int)
 else
 Va
 (bif decide (x0.2.1<a3) then some true
 else
 bif decide (x0.2.2.1<x0.2.1) then some true
 else
 bif decide (a4<x0.2.2.1) then some true
 else
 bif decide ((0:Int)<a1) then
 Va (idx a0 (Vc .i64 (a1 - (1:Int)))) fun x4=>some (decide (x0.2.1<x4.2.2.1))
 else some false)
 fun x5=>bif x5 then some (10:Int) else some (0:Int)
def F7S:Tr.Spec:= {args:=(.cons (.pd Y76) (.cons (.pd Y3) (.cons (.pd Y3) (.cons (.pd Y3) (.cons (.pd Y3) .nil))))),res:=(.cons (.pd Y35) .nil),fns:=[],α:=El Y35,f:=fun x=>F7 x.1 x.2.1 x.2.2.1 x.2.2.2.1 x.2.2.2.2.1,unp:=fun z=>(((),(),(),(),(),()),(z,())) }
theorem F7_ok:ZaF Tryz.prog 219 F7S:=Zaf (rws:=[]) (zxs:=[]) (nt:=70) (m:=[]) (fn:=Tryz.f219) (hint:=(hS (hS (.seq (.seq (.reg [(24,Y4)]) .leaf) (.seq (.seq (.reg [(37,Y4)]) .leaf) (.seq (.seq (.reg [(69,Y4)]) .leaf) .leaf)))))) (pack:=fun y=>y.2.1) ZaX tab_ok trivial fun x z h=> .trans (by kernel_rfl) h
def F6: (El Y76)->(El Y3)->(El Y3)->(El Y3)->Option (El Y3×El Y35):=fun a0 a1 a2 a3=>
 Va (bif decide ((↑(Vb a0):Int)< (2:Int)) then some true else some (decide ((32:Int)< (↑(Vb a0):Int)))) fun x0=>
 bif x0 then some ((0:Int),(5:Int))
 else
 Va
 (run
 (fun s1=>
 bif decide (s1< (↑(Vb a0):Int)) then
 Va (F7 a0 s1 a1 a2 a3) fun x2=>
 bif !decide (x2=(0:Int)) then some (.inr (.inr (s1,x2))) else some (.inl (Vc .i64 (s1+(1:Int))))
 else some (.inr (.inl ())))
 (0:Int))
 fun x3=>Vf (fun _=>some ((0:Int),(0:Int))) (fun y5=>some (y5.1,y5.2)) x3
def F6S:Tr.Spec:= {args:=(.cons (.pd Y76) (.cons (.pd Y3) (.cons (.pd Y3) (.cons (.pd Y3) .nil)))),res:=(.cons (.pd Y3) (.cons (.pd Y35) .nil)),fns:=[],α:=El Y3×El Y35,f:=fun x=>F6 x.1 x.2.1 x.2.2.1 x.2.2.2.1,unp:=fun z=>(((),(),(),(),()),(z.1,z.2,())) }
theorem F6_ok:ZaF Tryz.prog 177 F6S:=Zaf (rws:=[]) (zxs:=[]) (nt:=36) (m:=[(219,[F7S])]) (fn:=Tryz.f177) (hint:=(hS (.seq (.seq (.reg [(19,Y4)]) .leaf) (.seq (hS (.lp ⟨[(22,(.pd Y3))],[],[0,1,2,3,21],[],[],[]⟩ [((.exit 0),⟨[],[],[],[],[],[]⟩),(.ret,⟨[(8,(.pd Y3)),(9,(.pd Y35))],[],[],[],[],[]⟩)] .leaf)) .leaf)))) (pack:=fun y=>(y.2.1,y.2.2.1)) ZaX tab_ok ⟨⟨F7_ok,trivial⟩,trivial⟩ fun x z h=> .trans (by kernel_rfl) h
def F55: (El Y31)->Option (El Zcb):=fun a0=>
 bif decide ((1024:Int)< (↑(Vb a0.2.2.1):Int)) then Va (F65 (2:Int) (0:Int) (5:Int)) fun x0=>some x0
 else
 Va
 (run
 (fun s1=>
 bif decide (s1.2.2< (↑(Vb a0.2.2.1):Int)) then
 Va (idx a0.2.2.1 s1.2.2) fun x2=>
 Va (F40 x2.2.2.2.1) fun x3=>
 bif !x3 then Va (F65 (2:Int) s1.2.2 (12:Int)) fun x4=>some (.inr (.inr x4))
 else
 Va (bif decide (x2.1< (-1:Int)) then some true else some (decide (x2.2.2.1< (0:Int)))) fun x5=>
 bif x5 then Va (F65 (2:Int) s1.2.2 (2:Int)) fun x6=>some (.inr (.inr x6))
 else
 Va (bif decide (x2.2.1< (0:Int)) then some true else some (decide ((36524:Int)<x2.2.1))) fun x7=>
 bif x7 then Va (F65 (2:Int) s1.2.2 (11:Int)) fun x8=>some (.inr (.inr x8))
 else
 Va
 (bif decide (x2.2.2.2.2.1< (0:Int)) then some true
 else some (decide ((↑(Vb a0.2.1):Int)<=x2.2.2.2.2.1)))
 fun x9=>
 bif x9 then Va (F65 (2:Int) s1.2.2 (9:Int)) fun x10=>some (.inr (.inr x10))
 else
 Va (F6 x2.2.2.2.2.2.2.2.1 (↑(Vb a0.1):Int) (0:Int) (3155932800:Int)) fun x11=>
 bif !decide (x11.2=(0:Int)) then Va (F65 (2:Int) s1.2.2 x11.2) fun x12=>some (.inr (.inr x12))
 else
 bif Ve (Zaw (Zai ZnU) (x2.2.2.2.1,x2.2.1,x2.2.2.1,()) s1.2.1) (false) then
 Va (F65 (2:Int) s1.2.2 (6:Int)) fun x13=>some (.inr (.inr x13))
 else
 some
 (.inl
 (s1.1,ZaS (Zai ZnU) (x2.2.2.2.1,x2.2.1,x2.2.2.1,()) true s1.2.1,
 Vc .i64 (s1.2.2+(1:Int))))
 else some (.inr (.inl s1.1)))
 (((0:Int),(0:Int),(0:Int),()),[],(0:Int)))
 fun x14=>Vf (fun _=>some ((0:Int),(0:Int),(0:Int),())) (fun y16=>some y16) x14
def F55S:Tr.Spec:= {args:=(.cons (.pd Y31) .nil),res:=(.cons (.pd Zcb) .nil),fns:=[],α:=El Zcb,f:=fun x=>F55 x.1,unp:=fun z=>(((),()),(z,())) }
theorem F55_ok:ZaF Tryz.prog 111 F55S:=Zaf (rws:=[]) (zxs:=[]) (nt:=96) (m:=[(110,[F65S]),(175,[F40S]),(177,[F6S])]) (fn:=Tryz.f111) (hint:=(hS (hS (hS (.seq (hS (.lp ⟨[(2,(.var Zcb (.pd Zcb))),(3,(.map ZnU Y4)),(18,(.pd Y3))],[],[1,16,17],[],[],[]⟩ [((.exit 0),⟨[(2,(.var Zcb (.pd Zcb)))],[],[],[],[],[]⟩),(.ret,⟨[(2,(.var Zcb (.pd Zcb)))],[],[],[],[],[]⟩)] (hS (hS (.seq (hS (.seq (hS (.cnd none .leaf (.seq (.reg [(30,Y4)]) (.cnd none .leaf (.seq (.reg [(41,Y4)]) (.cnd none .leaf (.seq (.reg [(52,Y4)]) .leaf))))))) .leaf)) .leaf))))) .leaf))))) (pack:=fun y=>y.2.1) ZaX tab_ok ⟨⟨F65_ok,trivial⟩,⟨F40_ok,trivial⟩,⟨F6_ok,trivial⟩,trivial⟩ fun x z h=> .trans (by kernel_rfl) h
def F66: (El Y3)->(El Y3)->Option (El Y4):=fun a0 a1=>Va (bif decide ((0:Int)<=a0) then some (decide (a0<a1)) else some false) fun x0=>some x0
def F66S:Tr.Spec:= {args:=(.cons (.pd Y3) (.cons (.pd Y3) .nil)),res:=(.cons (.pd Y4) .nil),fns:=[],α:=El Y4,f:=fun x=>F66 x.1 x.2.1,unp:=fun z=>(((),(),()),(z,())) }
theorem F66_ok:ZaF Tryz.prog 178 F66S:=Zaf (rws:=[]) (zxs:=[]) (nt:=12) (m:=[]) (fn:=Tryz.f178) (hint:=(hS (.seq (.reg [(4,Y4)]) .leaf))) (pack:=fun y=>y.2.1) ZaX tab_ok trivial fun x z h=> .trans (by kernel_rfl) h
def F64: (List (El Y3×El Y3))->(El Y3)->(El Y3)->Option (List (El Y3×El Y3) ×El Y4):=fun a0 a1 a2=>
 Va
 (run
 (fun s0=>
 bif s0.2 then
 bif decide (s0.1=a2) then some (.inr (.inr true))
 else some (.inl (Ve (Zaw (Zai Y3) s0.1 a0) ((0:Int)),Vk (Zaw (Zai Y3) s0.1 a0)))
 else some (.inr (.inl ())))
 (Ve (Zaw (Zai Y3) a1 a0) ((0:Int)),Vk (Zaw (Zai Y3) a1 a0)))
 fun x1=>Vf (fun _=>some (a0,false)) (fun y3=>some (a0,y3)) x1
def F64S:Tr.Spec:= {args:=(.cons (.map Y3 Y3) (.cons (.pd Y3) (.cons (.pd Y3) .nil))),res:=(.cons (.pd Y4) .nil),fns:=[],α:=List (El Y3×El Y3) ×El Y4,f:=fun x=>F64 x.1 x.2.1 x.2.2.1,unp:=fun z=>((z.1,(),(),()),(z.2,())) }
theorem F64_ok:ZaF Tryz.prog 179 F64S:=Zaf (rws:=[]) (zxs:=[]) (nt:=25) (m:=[]) (fn:=Tryz.f179) (hint:=(hS (.seq (hS (.lp ⟨[(7,(.pd Y3)),(8,(.pd Y4))],[],[0,2],[],[],[]⟩ [((.exit 0),⟨[],[],[0],[],[],[]⟩),(.ret,⟨[(6,(.pd Y4))],[],[0],[],[],[]⟩)] .leaf)) .leaf))) (pack:=fun y=>(y.1.1,y.2.1)) ZaX tab_ok trivial fun x z h=> .trans (by kernel_rfl) h
def F53: (El Y31)->Option (El Zcb):=fun a0=>
 bif decide ((1024:Int)< (↑(Vb a0.2.2.2.1):Int)) then Va (F65 (3:Int) (0:Int) (5:Int)) fun x0=>some x0
 else
 Va
 (run
 (fun s1=>
 bif decide (s1.2.2.2.2< (↑(Vb a0.2.2.2.1):Int)) then
 Va (idx a0.2.2.2.1 s1.2.2.2.2) fun x2=>
 Va
 (Va (F66 x2.1 (↑(Vb a0.2.2.1):Int)) fun x3=>
 bif !x3 then some true
 else
 Va (F66 x2.2.2.1 (↑(Vb a0.2.2.1):Int)) fun x4=>
 bif !x4 then some true else some (decide (x2.1=x2.2.2.1)))
 fun x5=>
 bif x5 then Va (F65 (3:Int) s1.2.2.2.2 (9:Int)) fun x6=>some (.inr (.inr x6))
 else
 Va (idx a0.2.2.1 x2.1) fun x7=>
 Va (idx a0.2.2.1 x2.2.2.1) fun x8=>
 Va
 (Va (F66 x2.2.1 (↑(Vb x7.2.2.2.2.2.2.2.1):Int)) fun x9=>
 bif !x9 then some true
 else Va (F66 x2.2.2.2.1 (↑(Vb x8.2.2.2.2.2.2.2.1):Int)) fun x10=>some !x10)
 fun x11=>
 bif x11 then Va (F65 (3:Int) s1.2.2.2.2 (9:Int)) fun x12=>some (.inr (.inr x12))
 else
 Va (idx x7.2.2.2.2.2.2.2.1 x2.2.1) fun x13=>
 Va (idx x8.2.2.2.2.2.2.2.1 x2.2.2.2.1) fun x14=>
 bif !decide (x13.1=x14.1) then Va (F65 (3:Int) s1.2.2.2.2 (13:Int)) fun x15=>some (.inr (.inr x15))
 else
 bif x2.2.2.2.2.1 then
 bif !decide (Vc .i64 (x2.2.1+(1:Int))=(↑(Vb x7.2.2.2.2.2.2.2.1):Int)) then
 Va (F65 (3:Int) s1.2.2.2.2 (19:Int)) fun x16=>some (.inr (.inr x16))
 else
 bif !decide (x2.2.2.2.1=(0:Int)) then
 Va (F65 (3:Int) s1.2.2.2.2 (19:Int)) fun x17=>some (.inr (.inr x17))
 else
 bif Vk (Zaw (Zai Y3) x2.1 s1.2.1) then
 Va (F65 (3:Int) s1.2.2.2.2 (19:Int)) fun x18=>some (.inr (.inr x18))
 else
 bif Ve (Zaw (Zai Y3) x2.2.2.1 s1.2.2.1) (false) then
 Va (F65 (3:Int) s1.2.2.2.2 (19:Int)) fun x19=>some (.inr (.inr x19))
 else
 Va (F64 s1.2.1 x2.2.2.1 x2.1) fun x20=>
 bif x20.2 then Va (F65 (3:Int) s1.2.2.2.2 (19:Int)) fun x21=>some (.inr (.inr x21))
 else
 bif Ve (Zaw (Zai Zif) [x2.1,x2.2.1,x2.2.2.1,x2.2.2.2.1] s1.2.2.2.1) (false) then
 Va (F65 (3:Int) s1.2.2.2.2 (6:Int)) fun x22=>some (.inr (.inr x22))
 else
 bif x2.2.2.2.2.1 then
 some
 (.inl
 (s1.1,ZaS (Zai Y3) x2.1 x2.2.2.1 x20.1,ZaS (Zai Y3) x2.2.2.1 true s1.2.2.1,
 ZaS (Zai Zif) [x2.1,x2.2.1,x2.2.2.1,x2.2.2.2.1] true s1.2.2.2.1,
 Vc .i64 (s1.2.2.2.2+(1:Int))))
 else
 some
 (.inl
 (s1.1,x20.1,s1.2.2.1,ZaS (Zai Zif) [x2.1,x2.2.1,x2.2.2.1,x2.2.2.2.1] true s1.2.2.2.1,
 Vc .i64 (s1.2.2.2.2+(1:Int))))
 else
 bif Ve (Zaw (Zai Zif) [x2.1,x2.2.1,x2.2.2.1,x2.2.2.2.1] s1.2.2.2.1) (false) then
 Va (F65 (3:Int) s1.2.2.2.2 (6:Int)) fun x23=>some (.inr (.inr x23))
 else
 bif x2.2.2.2.2.1 then
 some
 (.inl
 (s1.1,ZaS (Zai Y3) x2.1 x2.2.2.1 s1.2.1,ZaS (Zai Y3) x2.2.2.1 true s1.2.2.1,
 ZaS (Zai Zif) [x2.1,x2.2.1,x2.2.2.1,x2.2.2.2.1] true s1.2.2.2.1,
 Vc .i64 (s1.2.2.2.2+(1:Int))))
 else
 some
 (.inl
 (s1.1,s1.2.1,s1.2.2.1,ZaS (Zai Zif) [x2.1,x2.2.1,x2.2.2.1,x2.2.2.2.1] true s1.2.2.2.1,
 Vc .i64 (s1.2.2.2.2+(1:Int))))
 else some (.inr (.inl s1.1)))
 (((0:Int),(0:Int),(0:Int),()),[],[],[],(0:Int)))
 fun x24=>Vf (fun _=>some ((0:Int),(0:Int),(0:Int),())) (fun y26=>some y26) x24
def F53S:Tr.Spec:= {args:=(.cons (.pd Y31) .nil),res:=(.cons (.pd Zcb) .nil),fns:=[],α:=El Zcb,f:=fun x=>F53 x.1,unp:=fun z=>(((),()),(z,())) }
theorem F53_ok:ZaF Tryz.prog 112 F53S:=Zaf (rws:=[]) (zxs:=[]) (nt:=171) (m:=[(110,[F65S]),(178,[F66S]),(179,[F64S])]) (fn:=Tryz.f112) (hint:=(hS (hS (hS (hS (.seq (hS (.lp ⟨[(2,(.var Zcb (.pd Zcb))),(3,(.map Y3 Y3)),(4,(.map Y3 Y4)),(5,(.map Zif Y4)),(24,(.pd Y3))],[],[1,22,23],[],[],[]⟩ [((.exit 0),⟨[(2,(.var Zcb (.pd Zcb)))],[],[],[],[],[]⟩),(.ret,⟨[(2,(.var Zcb (.pd Zcb)))],[],[],[],[],[]⟩)] (hS (hS (.seq (hS (.seq (.seq (.reg [(51,Y4)]) .leaf) (hS (.seq (.seq (.reg [(81,Y4)]) .leaf) .leaf)))) .leaf))))) .leaf)))))) (pack:=fun y=>y.2.1) ZaX tab_ok ⟨⟨F65_ok,trivial⟩,⟨F66_ok,trivial⟩,⟨F64_ok,trivial⟩,trivial⟩ fun x z h=> .trans (by kernel_rfl) h
def F72: (El Y3)->(El Y3)->(El Y3)->Option (El Y4):=fun a0 a1 a2=>Va (bif decide (a1<=a0) then some (decide (a0<=a2)) else some false) fun x0=>some x0
def F72S:Tr.Spec:= {args:=(.cons (.pd Y3) (.cons (.pd Y3) (.cons (.pd Y3) .nil))),res:=(.cons (.pd Y4) .nil),fns:=[],α:=El Y4,f:=fun x=>F72 x.1 x.2.1 x.2.2.1,unp:=fun z=>(((),(),(),()),(z,())) }
theorem F72_ok:ZaF Tryz.prog 180 F72S:=Zaf (rws:=[]) (zxs:=[]) (nt:=15) (m:=[]) (fn:=Tryz.f180) (hint:=(hS (.seq (.reg [(6,Y4)]) .leaf))) (pack:=fun y=>y.2.1) ZaX tab_ok trivial fun x z h=> .trans (by kernel_rfl) h
def F68: (El Y29)->Option (El Y3×El Y35):=fun a0=>
 Va
 (Va (F72 a0.2.1 (0:Int) (1000000:Int)) fun x0=>
 bif !x0 then some true
 else
 Va (F72 a0.2.2.1 (0:Int) (86400:Int)) fun x1=>
 bif !x1 then some true else Va (F72 a0.2.2.2.1 (0:Int) (1000000:Int)) fun x2=>some !x2)
 fun x3=>
 bif x3 then some ((-1:Int),(2:Int))
 else
 bif decide ((16:Int)< (↑(Vb a0.1):Int)) then some ((0:Int),(5:Int))
 else
 Va
 (run
 (fun s4=>
 bif decide (s4.2< (↑(Vb a0.1):Int)) then
 Va (idx a0.1 s4.2) fun x5=>
 Va (F40 x5.1) fun x6=>
 bif !x6 then some (.inr (.inr (s4.2,(12:Int))))
 else
 bif Ve (Zaw (Zai Y9) x5.1 s4.1) (false) then some (.inr (.inr (s4.2,(6:Int))))
 else
 Va
 (Va (F72 x5.2.1 (0:Int) (1000000:Int)) fun x7=>
 bif !x7 then some true
 else
 Va (F72 x5.2.2.1 (1:Int) (8:Int)) fun x8=>
 bif !x8 then some true
 else
 Va (F72 x5.2.2.2.1 (1:Int) (16:Int)) fun x9=>
 bif !x9 then some true
 else
 Va (F72 x5.2.2.2.2.1 (0:Int) (86400:Int)) fun x10=>
 bif !x10 then some true else Va (F72 x5.2.2.2.2.2.1 (1:Int) (255:Int)) fun x11=>some !x11)
 fun x12=>
 bif x12 then some (.inr (.inr (s4.2,(2:Int))))
 else some (.inl (ZaS (Zai Y9) x5.1 true s4.1,Vc .i64 (s4.2+(1:Int))))
 else some (.inr (.inl ())))
 ([],(0:Int)))
 fun x13=>Vf (fun _=>some ((0:Int),(0:Int))) (fun y15=>some (y15.1,y15.2)) x13
def F68S:Tr.Spec:= {args:=(.cons (.pd Y29) .nil),res:=(.cons (.pd Y3) (.cons (.pd Y35) .nil)),fns:=[],α:=El Y3×El Y35,f:=fun x=>F68 x.1,unp:=fun z=>(((),()),(z.1,z.2,())) }
theorem F68_ok:ZaF Tryz.prog 113 F68S:=Zaf (rws:=[]) (zxs:=[]) (nt:=79) (m:=[(175,[F40S]),(180,[F72S])]) (fn:=Tryz.f113) (hint:=(hS (.seq (.seq (.reg [(22,Y4)]) .leaf) (hS (hS (.seq (hS (.lp ⟨[(4,(.map Y9 Y4)),(31,(.pd Y3))],[],[29,30],[],[],[]⟩ [((.exit 0),⟨[],[],[],[],[],[]⟩),(.ret,⟨[(2,(.pd Y3)),(3,(.pd Y35))],[],[],[],[],[]⟩)] (hS (hS (.seq (hS (hS (hS (.seq (.seq (.reg [(73,Y4)]) .leaf) .leaf)))) .leaf))))) .leaf)))))) (pack:=fun y=>(y.2.1,y.2.2.1)) ZaX tab_ok ⟨⟨F40_ok,trivial⟩,⟨F72_ok,trivial⟩,trivial⟩ fun x z h=> .trans (by kernel_rfl) h
def F31: (El Y26)->(El Y3)->Option (El Y3×El Y35):=fun a0 a1=>
 Va
 (run
 (fun s0=>
 bif decide (s0.2< (↑(Vb a0):Int)) then
 Va (idx a0 s0.2) fun x1=>
 Va
 (bif decide (x1.1< (0:Int)) then some (decide (x1.1< (0:Int)))
 else
 Va
 (bif decide (a1<=x1.1) then some (decide (a1<=x1.1))
 else
 Va
 (bif decide (x1.2.1< (0:Int)) then some (decide (x1.2.1< (0:Int)))
 else
 Va (bif decide (a1<=x1.2.1) then some (decide (a1<=x1.2.1)) else some (decide (x1.1=x1.2.1))) fun x2=>
 some x2)
 fun x3=>some x3)
 fun x4=>some x4)
 fun x5=>
 bif x5 then some (.inr (.inr (s0.2,(9:Int))))
 else
 Va
 (bif decide (x1.2.2.1< (1:Int)) then some (decide (x1.2.2.1< (1:Int)))
 else some (decide ((14400:Int)<x1.2.2.1)))
 fun x6=>
 bif x6 then some (.inr (.inr (s0.2,(2:Int))))
 else
 bif Ve (Zaw (Zai Zi9) (x1.1,x1.2.1,x1.2.2.2.1,()) s0.1) (false) then some (.inr (.inr (s0.2,(6:Int))))
 else some (.inl (ZaS (Zai Zi9) (x1.1,x1.2.1,x1.2.2.2.1,()) true s0.1,Vc .i64 (s0.2+(1:Int))))
 else some (.inr (.inl ())))
 ([],(0:Int)))
 fun x7=>Vf (fun _=>some ((0:Int),(0:Int))) (fun y9=>some (y9.1,y9.2)) x7
def F31S:Tr.Spec:= {args:=(.cons (.pd Y26) (.cons (.pd Y3) .nil)),res:=(.cons (.pd Y3) (.cons (.pd Y35) .nil)),fns:=[],α:=El Y3×El Y35,f:=fun x=>F31 x.1 x.2.1,unp:=fun z=>(((),(),()),(z.1,z.2,())) }
theorem F31_ok:ZaF Tryz.prog 220 F31S:=Zaf (rws:=[]) (zxs:=[]) (nt:=62) (m:=[]) (fn:=Tryz.f220) (hint:=(hS (hS (.seq (hS (.lp ⟨[(6,(.map Zi9 Y4)),(13,(.pd Y3))],[],[1,11,12],[],[],[]⟩ [((.exit 0),⟨[],[],[],[],[],[]⟩),(.ret,⟨[(4,(.pd Y3)),(5,(.pd Y35))],[],[],[],[],[]⟩)] (hS (hS (.seq (hS (hS (.seq (.seq (hS (.cnd (some (⟨[],[],[1,6,7,8,9,11,12,13],[],[],[]⟩,[(.normal,⟨[(25,(.pd Y4))],[],[1,6,7,8,9,11,12,13],[],[],[]⟩)])) .leaf (hS (.cnd (some (⟨[],[],[1,6,7,8,9,11,12,13],[],[],[]⟩,[(.normal,⟨[(25,(.pd Y4))],[],[1,6,7,8,9,11,12,13],[],[],[]⟩)])) .leaf (hS (.cnd (some (⟨[],[],[1,6,7,8,9,11,12,13],[],[],[]⟩,[(.normal,⟨[(25,(.pd Y4))],[],[1,6,7,8,9,11,12,13],[],[],[]⟩)])) .leaf (hS (.cnd (some (⟨[],[],[1,6,7,8,9,11,12,13],[],[],[]⟩,[(.normal,⟨[(25,(.pd Y4))],[],[1,6,7,8,9,11,12,13],[],[],[]⟩)])) .leaf .leaf)))))))) (.cnd none .leaf (.seq (hS (.cnd (some (⟨[],[],[1,6,7,9,11,12,13],[],[],[]⟩,[(.normal,⟨[(46,(.pd Y4))],[],[1,6,7,9,11,12,13],[],[],[]⟩)])) .leaf .leaf)) .leaf))) .leaf))) .leaf))))) .leaf)))) (pack:=fun y=>(y.2.1,y.2.2.1)) ZaX tab_ok trivial fun x z h=> .trans (by kernel_rfl) h
def F103: (El Y3)->(El Y3)->Option (El Y4):=fun a0 a1=>Va (bif decide (a0< (0:Int)) then some true else some (decide (a1<=a0))) fun x0=>some x0
def F103S:Tr.Spec:= {args:=(.cons (.pd Y3) (.cons (.ro Y3) .nil)),res:=(.cons (.pd Y4) .nil),fns:=[],α:=El Y4,f:=fun x=>F103 x.1 x.2.1,unp:=fun z=>(((),(),()),(z,())) }
theorem F103_ok:ZaF Tryz.prog 267 F103S:=Zaf (rws:=[]) (zxs:=[]) (nt:=11) (m:=[]) (fn:=Tryz.f267) (hint:=(hS (.seq (.reg [(3,Y4)]) .leaf))) (pack:=fun y=>y.2.1) ZaX tab_ok trivial fun x z h=> .trans (by kernel_rfl) h
def F102: (El Y3)->(El Zo6)->(El Y87)->Option (El Y35):=fun a0 a1 a2=>
 Va (bif decide (a0< (0:Int)) then some true else some (decide ((64:Int)<a0))) fun x0=>
 bif x0 then some (2:Int)
 else
 bif decide ((4096:Int)< (↑(Vb a1):Int)) then some (5:Int)
 else
 Va
 (run
 (fun s1=>
 bif decide (s1< (↑(Vb a1):Int)) then
 Va (idx a1 s1) fun x2=>
 Va (F103 x2.1 a0) fun x3=>
 bif x3 then some (.inr (.inr (9:Int)))
 else
 Va (F103 x2.2.1 a0) fun x4=>
 bif x4 then some (.inr (.inr (9:Int)))
 else
 Va (bif decide (x2.2.2.1< (0:Int)) then some true else some (decide ((1073741824:Int)<x2.2.2.1))) fun x5=>
 bif x5 then some (.inr (.inr (2:Int))) else some (.inl (Vc .i64 (s1+(1:Int))))
 else some (.inr (.inl ())))
 (0:Int))
 fun x6=>
 Vf
 (fun _=>
 Va
 (run
 (fun s8=>
 bif decide (s8< (↑(Vb a2):Int)) then
 Va (idx a2 s8) fun x9=>
 Va (F103 x9 a0) fun x10=>
 bif x10 then some (.inr (.inr (9:Int))) else some (.inl (Vc .i64 (s8+(1:Int))))
 else some (.inr (.inl ())))
 (0:Int))
 fun x11=>Vf (fun _=>some (0:Int)) (fun y13=>some y13) x11)
 (fun y14=>some y14) x6
def F102S:Tr.Spec:= {args:=(.cons (.pd Y3) (.cons (.pd Zo6) (.cons (.pd Y87) .nil))),res:=(.cons (.pd Y35) .nil),fns:=[],α:=El Y35,f:=fun x=>F102 x.1 x.2.1 x.2.2.1,unp:=fun z=>(((),(),(),()),(z,())) }
theorem F102_ok:ZaF Tryz.prog 255 F102S:=Zaf (rws:=[]) (zxs:=[]) (nt:=57) (m:=[(267,[F103S])]) (fn:=Tryz.f255) (hint:=(hS (.seq (.seq (.reg [(17,Y4)]) .leaf) (hS (hS (.seq (hS (.lp ⟨[(24,(.pd Y3))],[],[2,7,22,23],[],[],[]⟩ [((.exit 0),⟨[],[],[2,7],[],[],[]⟩),(.ret,⟨[(6,(.pd Y35))],[],[],[],[],[]⟩)] (hS (hS (.seq (hS (hS (.seq (.reg [(45,Y4)]) .leaf))) .leaf))))) (.seq (hS (.lp ⟨[(49,(.pd Y3))],[],[7,47,48],[],[],[]⟩ [((.exit 2),⟨[],[],[],[],[],[]⟩),(.ret,⟨[(6,(.pd Y35))],[],[],[],[],[]⟩)] .leaf)) .leaf))))))) (pack:=fun y=>y.2.1) ZaX tab_ok ⟨⟨F103_ok,trivial⟩,trivial⟩ fun x z h=> .trans (by kernel_rfl) h
def F107: (El Zo6)->(El Y4)->Option (List (El Y3×List (El Zjj))):=fun a0 a1=>
 Va
 (run
 (fun s0=>
 bif decide (s0.2< (↑(Vb a0):Int)) then
 Va (idx a0 s0.2) fun x1=>
 Va (bif a1 then some (x1.2.1,x1.1,x1.2.2) else some x1) fun x2=>
 Va (Zas (decide (Vb (Ve (Zaw (Zai Y3) x2.1 s0.1) [])+Vb [x2]<=Zax))) fun _=>
 Va (Zas (Tr.holeK Y3 (some x2.1) x2.1)) fun _=>
 some (.inl (ZaS (Zai Y3) x2.1 (Ve (Zaw (Zai Y3) x2.1 s0.1) []++[x2]) s0.1,Vc .i64 (s0.2+(1:Int))))
 else some (.inr s0.1))
 ([],(0:Int)))
 fun x5=>some x5
def F107S:Tr.Spec:= {args:=(.cons (.pd Zo6) (.cons (.pd Y4) .nil)),res:=(.cons (.mrows Y3 Zjj) .nil),fns:=[],α:=List (El Y3×List (El Zjj)),f:=fun x=>F107 x.1 x.2.1,unp:=fun z=>(((),(),()),(z,())) }
theorem F107_ok:ZaF Tryz.prog 256 F107S:=Zaf (rws:=[332]) (zxs:=[]) (nt:=34) (m:=[]) (fn:=Tryz.f256) (hint:=(hS (hS (.seq (hS (.lp ⟨[(5,(.mrows Y3 Zjj)),(11,(.pd Y3))],[],[1,9,10],[],[],[]⟩ [((.exit 0),⟨[(5,(.mrows Y3 Zjj))],[],[],[],[],[]⟩)] (hS (hS (.seq (hS (.seq (hS (.cnd (some (⟨[],[],[1,5,9,10,11],[],[],[]⟩,[(.normal,⟨[(7,(.var Zjj (.pd Zjj)))],[],[1,5,9,10,11],[],[],[]⟩)])) .leaf .leaf)) .leaf)) .leaf))))) .leaf)))) (pack:=fun y=>y.2.1) ZaX tab_ok trivial fun x z h=> .trans (by kernel_rfl) h
def F105: (El Zqa)->Option (El Y87):=fun a0=>
 Va
 (Zas
 (decide
 ((0:El (Tr.Ty.int .i64))<=(↑(Vb a0):Int)/\
 (↑(Vb a0):Int)<=(↑(Vb a0):Int)/\(↑(Vb a0):Int)<=(↑Zax:El (Tr.Ty.int .i64)))))
 fun _=>
 Va
 (run
 (fun s1=>
 bif decide (s1.2< (↑(Vb a0):Int)) then
 Va (idx a0 s1.2) fun x2=>
 Va (inb s1.2 (Vb s1.1)) fun x3=>
 Va s1.1[x3]? fun _=>some (.inl (Vd s1.1 x3 x2.2.1,Vc .i64 (s1.2+(1:Int))))
 else some (.inr s1.1))
 (Vj (Vl (↑(Vb a0):Int)) ((0:Int)),(0:Int)))
 fun x5=>some x5
def F105S:Tr.Spec:= {args:=(.cons (.pd Zqa) .nil),res:=(.cons (.pd Y87) .nil),fns:=[],α:=El Y87,f:=fun x=>F105 x.1,unp:=fun z=>(((),()),(z,())) }
theorem F105_ok:ZaF Tryz.prog 257 F105S:=Zaf (rws:=[]) (zxs:=[]) (nt:=23) (m:=[]) (fn:=Tryz.f257) (hint:=(hS (hS (.seq (hS (.lp ⟨[(3,(.own Y3 false)),(11,(.pd Y3))],[],[9,10],[],[],[]⟩ [((.exit 0),⟨[(3,(.own Y3 false))],[],[],[],[],[]⟩)] .leaf)) .leaf)))) (pack:=fun y=>y.2.1) ZaX tab_ok trivial fun x z h=> .trans (by kernel_rfl) h
def F106: (El Zie)->(El Zie)->Option (El Y4):=fun a0 a1=>
 Va
 (bif decide (a0.2.1<a1.2.1) then some true
 else bif decide (a0.2.1=a1.2.1) then some (decide (a0.2.2.1<a1.2.2.1)) else some false)
 fun x0=>some x0
def F106S:Tr.Spec:= {args:=(.cons (.pd Zie) (.cons (.pd Zie) .nil)),res:=(.cons (.pd Y4) .nil),fns:=[],α:=El Y4,f:=fun x=>F106 x.1 x.2.1,unp:=fun z=>(((),(),()),(z,())) }
theorem F106_ok:ZaF Tryz.prog 269 F106S:=Zaf (rws:=[]) (zxs:=[]) (nt:=24) (m:=[]) (fn:=Tryz.f269) (hint:=(hS (.seq (.reg [(4,Y4)]) .leaf))) (pack:=fun y=>y.2.1) ZaX tab_ok trivial fun x z h=> .trans (by kernel_rfl) h
def F36: (Tz1)->(El Y3)->(El Y3)->Option (Tz1×El Y4):=fun a0 a1 a2=>
 Va (inb a1 (Vb a0.2.1)) fun x0=>
 Va a0.2.1[x0]? fun x1=>
 Va (inb a2 (Vb a0.2.1)) fun x2=>
 Va a0.2.1[x2]? fun x3=>
 Va (F106 x1.1 x3.1) fun x4=>
 bif x4 then some (((),a0.2.1,a0.2.2.1,()),true)
 else
 Va (F106 x3.1 x1.1) fun x5=>
 bif x5 then some (((),a0.2.1,a0.2.2.1,()),false) else some (((),a0.2.1,a0.2.2.1,()),decide (x1.2.1<x3.2.1))
def F36S:Tr.Spec:= {args:=(.cons Pz3 (.cons (.pd Y3) (.cons (.pd Y3) .nil))),res:=(.cons (.pd Y4) .nil),fns:=[],α:=Tz1×El Y4,f:=fun x=>F36 x.1 x.2.1 x.2.2.1,unp:=fun z=>((z.1,(),(),()),(z.2,())) }
theorem F36_ok:ZaF Tryz.prog 275 F36S:=Zaf (rws:=[]) (zxs:=[]) (nt:=46) (m:=[(269,[F106S])]) (fn:=Tryz.f275) (hint:= .leaf) (pack:=fun y=>(y.1.1,y.2.1)) ZaX tab_ok ⟨⟨F106_ok,trivial⟩,trivial⟩ fun x z h=> .trans (by kernel_rfl) h
def F38: (Tz1)->(El Y3)->(El Y3)->Option (Tz1):=fun a0 a1 a2=>
 Va (inb a2 (Vb a0.2.1)) fun x0=>
 Va a0.2.1[x0]? fun x1=>
 Va (inb a1 (Vb a0.2.1)) fun x2=>
 Va a0.2.1[x2]? fun x3=>
 Va (inb a1 (Vb a0.2.1)) fun x4=>
 Va a0.2.1[x4]? fun _=>
 Va (inb a2 (Vb (Vd a0.2.1 x4 x1))) fun x6=>
 Va (Vd a0.2.1 x4 x1)[x6]? fun _=>some ((),Vd (Vd a0.2.1 x4 x1) x6 x3,a0.2.2.1,())
def F38S:Tr.Spec:= {args:=(.cons Pz3 (.cons (.pd Y3) (.cons (.pd Y3) .nil))),res:= .nil,fns:=[],α:=Tz1,f:=fun x=>F38 x.1 x.2.1 x.2.2.1,unp:=fun z=>((z,(),(),()),()) }
theorem F38_ok:ZaF Tryz.prog 276 F38S:=Zaf (rws:=[]) (zxs:=[]) (nt:=32) (m:=[(269,[F106S])]) (fn:=Tryz.f276) (hint:= .leaf) (pack:=fun y=>y.1.1) ZaX tab_ok ⟨⟨F106_ok,trivial⟩,trivial⟩ fun x z h=> .trans (by kernel_rfl) h
def F35: (Tz1)->(El Zie)->Option (Tz1):=fun a0 a1=>
 Va (Zas (decide (Vb a0.2.1+Vb [(a1,a0.2.2.1,())]<=Zax))) fun _=>
 Va
 (run
 (fun s1=>
 bif decide ((0:Int)<s1.2) then
 Va
 (F36 ((),s1.1.2.1,s1.1.2.2.1,()) s1.2
 (Vc .i64 (Vn (Vc .i64 (s1.2 - (1:Int))) (2:Int))))
 fun x2=>
 bif x2.2 then
 Va
 (F38 ((),x2.1.2.1,x2.1.2.2.1,()) s1.2
 (Vc .i64 (Vn (Vc .i64 (s1.2 - (1:Int))) (2:Int))))
 fun x3=>some (.inl (((),x3.2.1,x3.2.2.1,()),Vc .i64 (Vn (Vc .i64 (s1.2 - (1:Int))) (2:Int))))
 else some (.inr ((),x2.1.2.1,x2.1.2.2.1,()))
 else some (.inr ((),s1.1.2.1,s1.1.2.2.1,())))
 (((),a0.2.1++[(a1,a0.2.2.1,())],Vc .i64 (a0.2.2.1+(1:Int)),()),
 Vc .i64 ((↑(Vb (a0.2.1++[(a1,a0.2.2.1,())])):Int) - (1:Int))))
 fun x4=>some ((),x4.2.1,x4.2.2.1,())
def F35S:Tr.Spec:= {args:=(.cons Pz3 (.cons (.pd Zie) .nil)),res:= .nil,fns:=[],α:=Tz1,f:=fun x=>F35 x.1 x.2.1,unp:=fun z=>((z,(),()),()) }
theorem F35_ok:ZaF Tryz.prog 270 F35S:=Zaf (rws:=[]) (zxs:=[]) (nt:=54) (m:=[(269,[F106S]),(275,[F36S]),(276,[F38S])]) (fn:=Tryz.f270) (hint:=(hS (hS (hS (hS (hS (.lp ⟨[(0,Pz2),(4,(.pd Y3))],[],[],[],[],[]⟩ [((.exit 0),⟨[(0,Pz2)],[],[],[],[],[]⟩)] .leaf))))))) (pack:=fun y=>y.1.1) ZaX tab_ok ⟨⟨F106_ok,trivial⟩,⟨F36_ok,trivial⟩,⟨F38_ok,trivial⟩,trivial⟩ fun x z h=> .trans (by kernel_rfl) h
def F32: (Tz1)->Option (Tz1×El Y3):=fun a0=>some (((),a0.2.1,a0.2.2.1,()),(↑(Vb a0.2.1):Int))
def F32S:Tr.Spec:= {args:=(.cons Pz3 .nil),res:=(.cons (.pd Y3) .nil),fns:=[],α:=Tz1×El Y3,f:=fun x=>F32 x.1,unp:=fun z=>((z.1,()),(z.2,())) }
theorem F32_ok:ZaF Tryz.prog 280 F32S:=Zaf (rws:=[]) (zxs:=[]) (nt:=10) (m:=[(269,[F106S])]) (fn:=Tryz.f280) (hint:= .leaf) (pack:=fun y=>(y.1.1,y.2.1)) ZaX tab_ok ⟨⟨F106_ok,trivial⟩,trivial⟩ fun x z h=> .trans (by kernel_rfl) h
def F33: (Tz1)->Option (Tz1×El Zie×El Y4):=fun a0=>
 Va (F32 ((),a0.2.1,a0.2.2.1,())) fun x0=>
 bif decide (x0.2=(0:Int)) then some (((),x0.1.2.1,x0.1.2.2.1,()),((0:Int),(0:Int),(0:Int),()),false)
 else Va (inb (0:Int) (Vb x0.1.2.1)) fun x1=>Va x0.1.2.1[x1]? fun x2=>some (((),x0.1.2.1,x0.1.2.2.1,()),x2.1,true)
def F33S:Tr.Spec:= {args:=(.cons Pz3 .nil),res:=(.cons (.pd Zie) (.cons (.pd Y4) .nil)),fns:=[],α:=Tz1×El Zie×El Y4,f:=fun x=>F33 x.1,unp:=fun z=>((z.1,()),(z.2.1,z.2.2,())) }
theorem F33_ok:ZaF Tryz.prog 277 F33S:=Zaf (rws:=[]) (zxs:=[]) (nt:=16) (m:=[(269,[F106S]),(280,[F32S])]) (fn:=Tryz.f277) (hint:= .leaf) (pack:=fun y=>(y.1.1,y.2.1,y.2.2.1)) ZaX tab_ok ⟨⟨F106_ok,trivial⟩,⟨F32_ok,trivial⟩,trivial⟩ fun x z h=> .trans (by kernel_rfl) h
def F37: (Tz1)->Option (Tz1):=fun a0=>
 Va
 (run
 (fun s0=>
 bif decide ((↑(Vb s0.1.2.1):Int)<=Vc .i64 (Vc .i64 ((2:Int) *s0.2)+(1:Int))) then
 some (.inr ((),s0.1.2.1,s0.1.2.2.1,()))
 else
 bif
 decide
 (Vc .i64 (Vc .i64 (Vc .i64 ((2:Int) *s0.2)+(1:Int))+(1:Int))<
 (↑(Vb s0.1.2.1):Int)) then
 Va
 (F36 ((),s0.1.2.1,s0.1.2.2.1,())
 (Vc .i64 (Vc .i64 (Vc .i64 ((2:Int) *s0.2)+(1:Int))+(1:Int)))
 (Vc .i64 (Vc .i64 ((2:Int) *s0.2)+(1:Int))))
 fun x1=>
 Va
 (bif x1.2 then
 some
 (((),x1.1.2.1,x1.1.2.2.1,()),
 Vc .i64 (Vc .i64 (Vc .i64 ((2:Int) *s0.2)+(1:Int))+(1:Int)))
 else some (((),x1.1.2.1,x1.1.2.2.1,()),Vc .i64 (Vc .i64 ((2:Int) *s0.2)+(1:Int))))
 fun x2=>
 Va (F36 ((),x2.1.2.1,x2.1.2.2.1,()) x2.2 s0.2) fun x3=>
 bif !x3.2 then some (.inr ((),x3.1.2.1,x3.1.2.2.1,()))
 else
 Va (F38 ((),x3.1.2.1,x3.1.2.2.1,()) s0.2 x2.2) fun x4=>
 some (.inl (((),x4.2.1,x4.2.2.1,()),x2.2))
 else
 Va
 (F36 ((),s0.1.2.1,s0.1.2.2.1,()) (Vc .i64 (Vc .i64 ((2:Int) *s0.2)+(1:Int))) s0.2)
 fun x5=>
 bif !x5.2 then some (.inr ((),x5.1.2.1,x5.1.2.2.1,()))
 else
 Va
 (F38 ((),x5.1.2.1,x5.1.2.2.1,()) s0.2
 (Vc .i64 (Vc .i64 ((2:Int) *s0.2)+(1:Int))))
 fun x6=>some (.inl (((),x6.2.1,x6.2.2.1,()),Vc .i64 (Vc .i64 ((2:Int) *s0.2)+(1:Int)))))
 (((),a0.2.1,a0.2.2.1,()),(0:Int)))
 fun x7=>some ((),x7.2.1,x7.2.2.1,())
def F37S:Tr.Spec:= {args:=(.cons Pz3 .nil),res:= .nil,fns:=[],α:=Tz1,f:=fun x=>F37 x.1,unp:=fun z=>((z,()),()) }
theorem F37_ok:ZaF Tryz.prog 278 F37S:=Zaf (rws:=[]) (zxs:=[]) (nt:=41) (m:=[(269,[F106S]),(275,[F36S]),(276,[F38S])]) (fn:=Tryz.f278) (hint:=(hS (.lp ⟨[(0,Pz2),(2,(.pd Y3))],[],[],[],[],[]⟩ [(.ret,⟨[(0,Pz2)],[],[],[],[],[]⟩)] (hS (hS (.seq (hS (.cnd (some (⟨[],[],[2],[],[],[]⟩,[(.normal,⟨[(0,Pz2),(3,(.pd Y3))],[],[2],[],[],[]⟩)])) .leaf .leaf)) .leaf)))))) (pack:=fun y=>y.1.1) ZaX tab_ok ⟨⟨F106_ok,trivial⟩,⟨F36_ok,trivial⟩,⟨F38_ok,trivial⟩,trivial⟩ fun x z h=> .trans (by kernel_rfl) h
def F34: (Tz1)->Option (Tz1×El Zie×El Y4):=fun a0=>
 Va (F33 ((),a0.2.1,a0.2.2.1,())) fun x0=>
 bif !x0.2.2 then some (((),x0.1.2.1,x0.1.2.2.1,()),x0.2.1,false)
 else
 Va (F38 ((),x0.1.2.1,x0.1.2.2.1,()) (0:Int) (Vc .i64 ((↑(Vb x0.1.2.1):Int) - (1:Int))))
 fun x1=>
 Va (sliceB (Vb x1.2.1) (Vb x1.2.1) none (some (Vc .i64 ((↑(Vb x0.1.2.1):Int) - (1:Int)))))
 fun x2=>
 Va (F37 ((),Vh x2.2 x1.2.1,x1.2.2.1,())) fun x3=>some (((),x3.2.1,x3.2.2.1,()),x0.2.1,true)
def F34S:Tr.Spec:= {args:=(.cons Pz3 .nil),res:=(.cons (.pd Zie) (.cons (.pd Y4) .nil)),fns:=[],α:=Tz1×El Zie×El Y4,f:=fun x=>F34 x.1,unp:=fun z=>((z.1,()),(z.2.1,z.2.2,())) }
theorem F34_ok:ZaF Tryz.prog 271 F34S:=Zaf (rws:=[]) (zxs:=[]) (nt:=36) (m:=[(269,[F106S]),(276,[F38S]),(277,[F33S]),(278,[F37S])]) (fn:=Tryz.f271) (hint:= .leaf) (pack:=fun y=>(y.1.1,y.2.1,y.2.2.1)) ZaX tab_ok ⟨⟨F106_ok,trivial⟩,⟨F38_ok,trivial⟩,⟨F33_ok,trivial⟩,⟨F37_ok,trivial⟩,trivial⟩ fun x z h=> .trans (by kernel_rfl) h
def F39: (Unit)->Option (Tz1):=fun _=>some ((),[],(0:Int),())
def F39S:Tr.Spec:= {args:=(.cons (.fn 269 .nil) .nil),res:=(.cons Pz3 .nil),fns:=[269],α:=Tz1,f:=fun x=>F39 x.1,unp:=fun z=>(((),()),(z,())) }
theorem F39_ok:ZaF Tryz.prog 268 F39S:=Zaf (rws:=[]) (zxs:=[]) (nt:=8) (m:=[(269,[F106S])]) (fn:=Tryz.f268) (hint:= .leaf) (pack:=fun y=>y.2.1) ZaX tab_ok ⟨⟨F106_ok,trivial⟩,trivial⟩ fun x z h=> .trans (by kernel_rfl) h
def F104: (El Y3)->(List (El Y3×List (El Zjj)))->(El Y3)->Option (List (El Y3×List (El Zjj)) ×El Zqa):=fun a0 a1 a2=>
 Va (Zas (decide ((0:El (Tr.Ty.int .i64))<=a0/\a0<=a0/\a0<=(↑Zax:El (Tr.Ty.int .i64))))) fun _=>
 Va
 (run
 (fun s1=>
 bif decide (s1.2< (↑(Vb (Vj (Vl a0) (((0:Int),(0:Int),(0:Int),())))):Int)) then
 Va (inb s1.2 (Vb s1.1)) fun x2=>
 Va s1.1[x2]? fun _=>some (.inl (Vd s1.1 x2 (s1.2,(-1:Int),(-1:Int),()),Vc .i64 (s1.2+(1:Int))))
 else some (.inr s1.1))
 (Vj (Vl a0) (((0:Int),(0:Int),(0:Int),())),(0:Int)))
 fun x4=>
 Va (F39 ()) fun x5=>
 Va (F35 ((),x5.2.1,x5.2.2.1,()) (a2,(0:Int),(0:Int),())) fun x6=>
 Va
 (run
 (fun s7=>
 Va (F34 ((),s7.2.2.1,s7.2.2.2.1,())) fun x8=>
 bif !x8.2.2 then some (.inr s7.1)
 else
 Va (inb x8.2.1.1 (Vb s7.1)) fun x9=>
 Va s7.1[x9]? fun x10=>
 bif decide ((0:Int)<=x10.2.2.1) then some (.inl (s7.1,(),x8.1.2.1,x8.1.2.2.1,()))
 else
 Va (inb x8.2.1.1 (Vb s7.1)) fun x11=>
 Va s7.1[x11]? fun _=>
 Va
 (run
 (fun s13=>
 bif decide (s13.2< (↑(Vb (Ve (Zaw (Zai Y3) x8.2.1.1 a1) [])):Int)) then
 Va (inb s13.2 (Vb (Ve (Zaw (Zai Y3) x8.2.1.1 a1) []))) fun x14=>
 Va (Ve (Zaw (Zai Y3) x8.2.1.1 a1) [])[x14]? fun x15=>
 Va (inb x15.2.1 (Vb (Vd s7.1 x11 x8.2.1))) fun x16=>
 Va (Vd s7.1 x11 x8.2.1)[x16]? fun x17=>
 bif decide (x17.2.2.1< (0:Int)) then
 Va
 (F35 ((),s13.1.2.1,s13.1.2.2.1,())
 (x15.2.1,Vc .i64 (x8.2.1.2.1+x15.2.2.1),
 Vc .i64 (x8.2.1.2.2.1+(1:Int)),()))
 fun x18=>some (.inl (((),x18.2.1,x18.2.2.1,()),Vc .i64 (s13.2+(1:Int))))
 else some (.inl (((),s13.1.2.1,s13.1.2.2.1,()),Vc .i64 (s13.2+(1:Int))))
 else some (.inr ((),s13.1.2.1,s13.1.2.2.1,())))
 (((),x8.1.2.1,x8.1.2.2.1,()),(0:Int)))
 fun x19=>some (.inl (Vd s7.1 x11 x8.2.1,(),x19.2.1,x19.2.2.1,())))
 (x4,(),x6.2.1,x6.2.2.1,()))
 fun x20=>some (a1,x20)
def F104S:Tr.Spec:= {args:=(.cons (.pd Y3) (.cons (.mrows Y3 Zjj) (.cons (.pd Y3) .nil))),res:=(.cons (.pd Zqa) .nil),fns:=[],α:=List (El Y3×List (El Zjj)) ×El Zqa,f:=fun x=>F104 x.1 x.2.1 x.2.2.1,unp:=fun z=>(((),z.1,(),()),(z.2,())) }
theorem F104_ok:ZaF Tryz.prog 258 F104S:=Zaf (rws:=[]) (zxs:=[]) (nt:=82) (m:=[(268,[F39S]),(269,[F106S]),(270,[F35S]),(271,[F34S])]) (fn:=Tryz.f258) (hint:=(hS (hS (.seq (hS (.lp ⟨[(7,(.own Zie false)),(18,(.pd Y3))],[],[1,2,17],[],[],[]⟩ [((.exit 0),⟨[(7,(.own Zie false))],[],[1,2],[],[],[]⟩)] .leaf)) (hS (hS (.lp ⟨[(7,(.own Zie false)),(9,Pz2)],[],[1],[],[],[]⟩ [(.ret,⟨[(6,(.own Zie false))],[],[1],[],[],[]⟩)] (hS (hS (hS (hS (hS (.lp ⟨[(9,Pz2),(57,(.pd Y3))],[],[1,7,10,55,56],[],[],[]⟩ [((.exit 4),⟨[(9,Pz2)],[],[1,7],[],[],[]⟩)] .leaf))))))))))))) (pack:=fun y=>(y.1.2.1,y.2.1)) ZaX tab_ok ⟨⟨F39_ok,trivial⟩,⟨F106_ok,trivial⟩,⟨F35_ok,trivial⟩,⟨F34_ok,trivial⟩,trivial⟩ fun x z h=> .trans (by kernel_rfl) h
def F101: (El Y3)->(El Zo6)->Option (El Zl3×El Y35):=fun a0 a1=>
 Va (F102 a0 a1 []) fun x0=>
 bif !decide (x0=(0:Int)) then some ([],x0)
 else
 Va (F107 a1 false) fun x1=>
 Va (Zas (decide ((0:El (Tr.Ty.int .i64))<=a0/\a0<=a0/\a0<=(↑Zax:El (Tr.Ty.int .i64))))) fun _=>
 Va
 (run
 (fun s3=>
 bif decide (s3.2.2< (↑(Vb (Vj (Vl a0) (([]:List (El Y3))))):Int)) then
 Va (F104 a0 s3.1 s3.2.2) fun x4=>
 Va (F105 x4.2) fun x5=>
 Va (inb s3.2.2 (Vb s3.2.1)) fun x6=>
 Va s3.2.1[x6]? fun _=>some (.inl (x4.1,Vd s3.2.1 x6 x5,Vc .i64 (s3.2.2+(1:Int))))
 else some (.inr s3.2.1))
 (x1,Vj (Vl a0) (([]:List (El Y3))),(0:Int)))
 fun x8=>some (x8,(0:Int))
def F101S:Tr.Spec:= {args:=(.cons (.pd Y3) (.cons (.pd Zo6) .nil)),res:=(.cons (.pd Zl3) (.cons (.pd Y35) .nil)),fns:=[],α:=El Zl3×El Y35,f:=fun x=>F101 x.1 x.2.1,unp:=fun z=>(((),(),()),(z.1,z.2,())) }
theorem F101_ok:ZaF Tryz.prog 251 F101S:=Zaf (rws:=[]) (zxs:=[]) (nt:=35) (m:=[(255,[F102S]),(256,[F107S]),(257,[F105S]),(258,[F104S])]) (fn:=Tryz.f251) (hint:=(hS (hS (hS (hS (hS (.seq (hS (.lp ⟨[(7,(.mrows Y3 Zjj)),(8,(.own Y87 false)),(22,(.pd Y3))],[],[0,21],[],[],[]⟩ [((.exit 0),⟨[(8,(.own Y87 false))],[],[],[],[],[]⟩)] .leaf)) .leaf))))))) (pack:=fun y=>(y.2.1,y.2.2.1)) ZaX tab_ok ⟨⟨F102_ok,trivial⟩,⟨F107_ok,trivial⟩,⟨F105_ok,trivial⟩,⟨F104_ok,trivial⟩,trivial⟩ fun x z h=> .trans (by kernel_rfl) h
def F30: (El Y26)->(El Y3)->(El Y4)->Option (El Zl3):=fun a0 a1 a2=>
 Va
 (run
 (fun s0=>
 bif decide (s0.2< (↑(Vb a0):Int)) then
 Va (idx a0 s0.2) fun x1=>
 Va (bif a2 then some !x1.2.2.2.1 else some false) fun x2=>
 bif x2 then some (.inl (s0.1,Vc .i64 (s0.2+(1:Int))))
 else
 Va
 (bif !Vk (Zaw (Zai Zi9) (x1.1,x1.2.1,false,()) s0.1) then some true
 else some (decide (x1.2.2.1<Ve (Zaw (Zai Zi9) (x1.1,x1.2.1,false,()) s0.1) ((0:Int)))))
 fun x3=>
 bif x3 then some (.inl (ZaS (Zai Zi9) (x1.1,x1.2.1,false,()) x1.2.2.1 s0.1,Vc .i64 (s0.2+(1:Int))))
 else some (.inl (s0.1,Vc .i64 (s0.2+(1:Int))))
 else some (.inr s0.1))
 ([],(0:Int)))
 fun x4=>
 Va
 (Zas
 (decide ((0:El (Tr.Ty.int .i64))<=(0:Int)/\(0:Int)<=(↑(Vb x4):Int)/\(↑(Vb x4):Int)<=(↑Zax:El (Tr.Ty.int .i64)))))
 fun _=>
 Tr.drun (fun s6=>bif Vm s6.2 then(1:Nat) else Vb s6.2)
 (fun s6 i7=>
 bif Vm s6.2 then some (.inr s6.1)
 else
 Va s6.2[i7]? fun x8=>
 Va (Zas (decide (Vb s6.1+Vb [(x8.1.1,x8.1.2.1,x8.2,())]<=Zax))) fun _=>
 some (.inl (s6.1++[(x8.1.1,x8.1.2.1,x8.2,())],List.eraseIdx s6.2 i7)))
 (fun o10=>Va (F101 a1 o10) fun x11=>some x11.1) (Vj (Vl (0:Int)) (((0:Int),(0:Int),(0:Int),())),x4)
def F30S:Tr.Spec:= {args:=(.cons (.pd Y26) (.cons (.pd Y3) (.cons (.pd Y4) .nil))),res:=(.cons (.pd Zl3) .nil),fns:=[],α:=El Zl3,f:=fun x=>F30 x.1 x.2.1 x.2.2.1,unp:=fun z=>(((),(),(),()),(z,())) }
theorem F30_ok:ZaF Tryz.prog 239 F30S:=Zaf (rws:=[]) (zxs:=[]) (nt:=81) (m:=[(251,[F101S])]) (fn:=Tryz.f239) (hint:=(hS (hS (.seq (hS (.lp ⟨[(7,(.map Zi9 Y3)),(21,(.pd Y3))],[],[1,2,19,20],[],[],[]⟩ [((.exit 0),⟨[(7,(.map Zi9 Y3))],[],[1],[],[],[]⟩)] (hS (hS (.seq (hS (.seq (.seq (.reg [(30,Y4)]) .leaf) (hS (hS (.seq (.reg [(49,Y4)]) .leaf))))) .leaf))))) (hS (.seq (hS (.lpd 59 ⟨[(13,(.own Zjj false)),(59,(.it Zi9 Y3))],[],[1],[],[],[]⟩ [((.exit 2),⟨[(13,(.own Zjj false))],[],[1],[],[],[]⟩)] .leaf)) .leaf)))))) (pack:=fun y=>y.2.1) ZaX tab_ok ⟨⟨F101_ok,trivial⟩,trivial⟩ fun x z h=> .trans (by kernel_rfl) h
def F10: (El Y3)->Option (El Y4):=fun a0=>some !decide (a0=a0)
def F10S:Tr.Spec:= {args:=(.cons (.pd Y3) .nil),res:=(.cons (.pd Y4) .nil),fns:=[],α:=El Y4,f:=fun x=>F10 x.1,unp:=fun z=>(((),()),(z,())) }
theorem F10_ok:ZaF Tryz.prog 104 F10S:=Zaf (rws:=[]) (zxs:=[]) (nt:=6) (m:=[]) (fn:=Tryz.f104) (hint:= .leaf) (pack:=fun y=>y.2.1) ZaX tab_ok trivial fun x z h=> .trans (by kernel_rfl) h
def F8: (El Y3)->(El Y3)->Option (El Y3):=fun a0 a1=>
 Va (F10 a0) fun x0=>
 Va (F10 a1) fun x1=>
 bif x0 then bif x1 then some (0:Int) else some (-1:Int)
 else bif x1 then some (1:Int) else bif decide (a0<a1) then some (-1:Int) else bif decide (a1<a0) then some (1:Int) else some (0:Int)
def F8S:Tr.Spec:= {args:=(.cons (.pd Y3) (.cons (.pd Y3) .nil)),res:=(.cons (.pd Y3) .nil),fns:=[],α:=El Y3,f:=fun x=>F8 x.1 x.2.1,unp:=fun z=>(((),(),()),(z,())) }
theorem F8_ok:ZaF Tryz.prog 62 F8S:=Zaf (rws:=[]) (zxs:=[]) (nt:=20) (m:=[(104,[F10S])]) (fn:=Tryz.f62) (hint:= .leaf) (pack:=fun y=>y.2.1) ZaX tab_ok ⟨⟨F10_ok,trivial⟩,trivial⟩ fun x z h=> .trans (by kernel_rfl) h
def F9: (El Y87)->Option (El Y3):=fun a0=>
 Va
 (run
 (fun s0=>
 bif decide (s0< (↑(Vb a0):Int)) then
 Va (idx a0 s0) fun x1=>
 bif !decide (x1=(0:Int)) then some (.inr (.inr x1)) else some (.inl (Vc .i64 (s0+(1:Int))))
 else some (.inr (.inl ())))
 (0:Int))
 fun x2=>Vf (fun _=>some (0:Int)) (fun y4=>some y4) x2
def F9S:Tr.Spec:= {args:=(.cons (.pd Y87) .nil),res:=(.cons (.pd Y3) .nil),fns:=[],α:=El Y3,f:=fun x=>F9 x.1,unp:=fun z=>(((),()),(z,())) }
theorem F9_ok:ZaF Tryz.prog 243 F9S:=Zaf (rws:=[]) (zxs:=[]) (nt:=18) (m:=[]) (fn:=Tryz.f243) (hint:=(hS (hS (.seq (hS (.lp ⟨[(8,(.pd Y3))],[],[3,6,7],[],[],[]⟩ [((.exit 0),⟨[],[],[3],[],[],[]⟩),(.ret,⟨[(2,(.pd Y3))],[],[],[],[],[]⟩)] .leaf)) .leaf)))) (pack:=fun y=>y.2.1) ZaX tab_ok trivial fun x z h=> .trans (by kernel_rfl) h
def F29: (El ZdC)->(El ZdC)->Option (El Y3):=fun a0 a1=>
 Va (F8 a0.1 a1.1) fun x0=>
 Va (F8 a0.2.1 a1.2.1) fun x1=>
 Va (F8 a0.2.2.1 a1.2.2.1) fun x2=>Va (F9 [x0,x1,x2]) fun x3=>some x3
def F29S:Tr.Spec:= {args:=(.cons (.pd ZdC) (.cons (.pd ZdC) .nil)),res:=(.cons (.pd Y3) .nil),fns:=[],α:=El Y3,f:=fun x=>F29 x.1 x.2.1,unp:=fun z=>(((),(),()),(z,())) }
theorem F29_ok:ZaF Tryz.prog 242 F29S:=Zaf (rws:=[]) (zxs:=[]) (nt:=22) (m:=[(62,[F8S]),(243,[F9S])]) (fn:=Tryz.f242) (hint:= .leaf) (pack:=fun y=>y.2.1) ZaX tab_ok ⟨⟨F8_ok,trivial⟩,⟨F9_ok,trivial⟩,trivial⟩ fun x z h=> .trans (by kernel_rfl) h
def F28: (El Y3)->(El Y3)->(El Y3)->(El Y4)->(List (El ZdC))->Option (List (El ZdC)):=fun a0 a1 a2 a3 a4=>
 Va (bif decide ((0:Int)<a2) then some (decide (a2<=(14400:Int))) else some false) fun x0=>
 bif x0 then Va (Zas (decide (Vb a4+Vb [(a0,a1,a2,a3,())]<=Zax))) fun _=>some (a4++[(a0,a1,a2,a3,())]) else some a4
def F28S:Tr.Spec:= {args:=(.cons (.pd Y3) (.cons (.pd Y3) (.cons (.pd Y3) (.cons (.pd Y4) (.cons (.var Y26 (.own ZdC false)) .nil))))),res:= .nil,fns:=[],α:=List (El ZdC),f:=fun x=>F28 x.1 x.2.1 x.2.2.1 x.2.2.2.1 x.2.2.2.2.1,unp:=fun z=>(((),(),(),(),z,()),()) }
theorem F28_ok:ZaF Tryz.prog 240 F28S:=Zaf (rws:=[]) (zxs:=[]) (nt:=23) (m:=[]) (fn:=Tryz.f240) (hint:=(.seq (.reg [(14,Y4)]) .leaf)) (pack:=fun y=>y.1.2.2.2.2.1) ZaX tab_ok trivial fun x z h=> .trans (by kernel_rfl) h
def F111(a0:List (El ZdC))(_:Unit):Option (List (El ZdC)):=Tr.sortF F29 a0
def F111S:Tr.Spec:= {args:=(.cons (.own ZdC true) (.cons (.fn 242 .nil) .nil)),res:= .nil,fns:=[242],α:=List (El ZdC),f:=fun x=>F111 x.1 x.2.1,unp:=fun z=>((z,(),()),()) }
theorem F111_ok:ZaF Tryz.prog 241 F111S:=Tr.sortFunc_ok (ρ:=Tryz.sort241_ren) Tryz.sort241 rfl Tryz.isAgg141 Tryz.sizeOf141 F29_ok
def F27: (El Y26)->(El Y3)->Option (El Y26):=fun a0 a1=>
 Va (F30 a0 a1 false) fun x0=>
 Va (F30 a0 a1 true) fun x1=>
 Va
 (run
 (fun s2=>
 bif decide (s2.2< (↑(Vb x0):Int)) then
 Va (idx x0 s2.2) fun x3=>
 Va
 (run
 (fun s4=>
 bif decide (s4.2< (↑(Vb x3):Int)) then
 Va (idx x3 s4.2) fun x5=>
 bif decide (s2.2=s4.2) then some (.inl (s4.1,Vc .i64 (s4.2+(1:Int))))
 else
 Va (idx x1 s2.2) fun x6=>
 Va (idx x6 s4.2) fun x7=>
 Va (F28 s2.2 s4.2 x5 (decide (x7=x5)) s4.1) fun x8=>
 bif !decide (x7=x5) then
 Va (F28 s2.2 s4.2 x7 true x8) fun x9=>some (.inl (x9,Vc .i64 (s4.2+(1:Int))))
 else some (.inl (x8,Vc .i64 (s4.2+(1:Int))))
 else some (.inr s4.1))
 (s2.1,(0:Int)))
 fun x10=>some (.inl (x10,Vc .i64 (s2.2+(1:Int))))
 else some (.inr s2.1))
 ([],(0:Int)))
 fun x11=>Va (F111 x11 ()) fun x12=>some x12
def F27S:Tr.Spec:= {args:=(.cons (.pd Y26) (.cons (.pd Y3) .nil)),res:=(.cons (.pd Y26) .nil),fns:=[],α:=El Y26,f:=fun x=>F27 x.1 x.2.1,unp:=fun z=>(((),(),()),(z,())) }
theorem F27_ok:ZaF Tryz.prog 221 F27S:=Zaf (rws:=[]) (zxs:=[]) (nt:=66) (m:=[(239,[F30S]),(240,[F28S]),(241,[F111S]),(242,[F29S])]) (fn:=Tryz.f221) (hint:=(hS (hS (hS (hS (.seq (hS (.lp ⟨[(7,(.var Y26 (.own ZdC false))),(22,(.pd Y3))],[(8,240,[7])],[5,6,21],[],[],[]⟩ [((.exit 0),⟨[(7,(.var Y26 (.own ZdC false)))],[],[],[],[],[]⟩)] (hS (hS (.seq (hS (hS (.lp ⟨[(7,(.var Y26 (.own ZdC false))),(30,(.pd Y3))],[(8,240,[7])],[5,6,9,21,22,28,29],[],[],[]⟩ [((.exit 2),⟨[(7,(.var Y26 (.own ZdC false)))],[(8,240,[7])],[5,6,21,22],[],[],[]⟩)] .leaf))) .leaf))))) .leaf)))))) (pack:=fun y=>y.2.1) ZaX tab_ok ⟨⟨F30_ok,trivial⟩,⟨F28_ok,trivial⟩,⟨F111_ok,trivial⟩,⟨F29_ok,trivial⟩,trivial⟩ fun x z h=> .trans (by kernel_rfl) h
def F26: (El Y26)->(El Y3)->Option (El Y4):=fun a0 a1=>
 bif decide ((64:Int)<a1) then some false
 else
 Va (F31 a0 a1) fun x0=>
 bif !decide (x0.2=(0:Int)) then some false
 else
 Va (F27 a0 (Tr.imax a1 (0:Int))) fun x1=>
 bif !decide ((↑(Vb x1):Int)=(↑(Vb a0):Int)) then some false
 else
 Va
 (run
 (fun s2=>
 bif decide (s2< (↑(Vb x1):Int)) then
 Va (idx x1 s2) fun x3=>
 Va (idx a0 s2) fun x4=>
 bif
 !(decide (x3.1=x4.1) &&
 (decide (x3.2.1=x4.2.1) && (decide (x3.2.2.1=x4.2.2.1) &&x3.2.2.2.1==x4.2.2.2.1))) then
 some (.inr (.inr false))
 else some (.inl (Vc .i64 (s2+(1:Int))))
 else some (.inr (.inl ())))
 (0:Int))
 fun x5=>Vf (fun _=>some true) (fun y7=>some y7) x5
def F26S:Tr.Spec:= {args:=(.cons (.pd Y26) (.cons (.pd Y3) .nil)),res:=(.cons (.pd Y4) .nil),fns:=[],α:=El Y4,f:=fun x=>F26 x.1 x.2.1,unp:=fun z=>(((),(),()),(z,())) }
theorem F26_ok:ZaF Tryz.prog 181 F26S:=Zaf (rws:=[]) (zxs:=[]) (nt:=43) (m:=[(220,[F31S]),(221,[F27S])]) (fn:=Tryz.f181) (hint:=(hS (hS (hS (hS (hS (.seq (hS (.lp ⟨[(30,(.pd Y3))],[],[0,7,29],[],[],[]⟩ [((.exit 0),⟨[],[],[],[],[],[]⟩),(.ret,⟨[(4,(.pd Y4))],[],[],[],[],[]⟩)] .leaf)) .leaf))))))) (pack:=fun y=>y.2.1) ZaX tab_ok ⟨⟨F31_ok,trivial⟩,⟨F27_ok,trivial⟩,trivial⟩ fun x z h=> .trans (by kernel_rfl) h
def F54: (El Y31)->Option (El Zcb):=fun a0=>
 Va
 (run
 (fun s0=>
 bif decide (s0.2.2< (↑(Vb a0.2.2.2.2.1):Int)) then
 Va (idx a0.2.2.2.2.1 s0.2.2) fun x1=>
 Va
 (Va (F66 x1.1 (↑(Vb a0.1):Int)) fun x2=>
 bif !x2 then some true
 else Va (F66 x1.2.1 (↑(Vb a0.1):Int)) fun x3=>bif !x3 then some true else some (decide (x1.1=x1.2.1)))
 fun x4=>
 bif x4 then Va (F65 (4:Int) s0.2.2 (9:Int)) fun x5=>some (.inr (.inr x5))
 else
 Va (bif decide (x1.2.2.1< (1:Int)) then some true else some (decide ((14400:Int)<x1.2.2.1))) fun x6=>
 bif x6 then Va (F65 (4:Int) s0.2.2 (2:Int)) fun x7=>some (.inr (.inr x7))
 else
 bif Ve (Zaw (Zai ZdC) (x1.1,x1.2.1,(0:Int),x1.2.2.2.1,()) s0.2.1) (false) then
 Va (F65 (4:Int) s0.2.2 (6:Int)) fun x8=>some (.inr (.inr x8))
 else
 some
 (.inl
 (s0.1,ZaS (Zai ZdC) (x1.1,x1.2.1,(0:Int),x1.2.2.2.1,()) true s0.2.1,Vc .i64 (s0.2.2+(1:Int))))
 else some (.inr (.inl s0.1)))
 (((0:Int),(0:Int),(0:Int),()),[],(0:Int)))
 fun x9=>
 Vf
 (fun _=>
 Va (F26 a0.2.2.2.2.1 (↑(Vb a0.1):Int)) fun x11=>
 bif !x11 then Va (F65 (4:Int) (0:Int) (18:Int)) fun x12=>some x12 else some ((0:Int),(0:Int),(0:Int),()))
 (fun y13=>some y13) x9
def F54S:Tr.Spec:= {args:=(.cons (.pd Y31) .nil),res:=(.cons (.pd Zcb) .nil),fns:=[],α:=El Zcb,f:=fun x=>F54 x.1,unp:=fun z=>(((),()),(z,())) }
theorem F54_ok:ZaF Tryz.prog 114 F54S:=Zaf (rws:=[]) (zxs:=[]) (nt:=78) (m:=[(110,[F65S]),(178,[F66S]),(181,[F26S])]) (fn:=Tryz.f114) (hint:=(hS (hS (.seq (hS (.lp ⟨[(2,(.var Zcb (.pd Zcb))),(3,(.map ZdC Y4)),(11,(.pd Y3))],[],[1,9,10],[],[],[]⟩ [((.exit 0),⟨[(2,(.var Zcb (.pd Zcb)))],[],[1],[],[],[]⟩),(.ret,⟨[(2,(.var Zcb (.pd Zcb)))],[],[],[],[],[]⟩)] (hS (hS (.seq (hS (hS (.seq (.seq (.reg [(23,Y4)]) (.cnd none .leaf (.seq (.reg [(49,Y4)]) .leaf))) .leaf))) .leaf))))) .leaf)))) (pack:=fun y=>y.2.1) ZaX tab_ok ⟨⟨F65_ok,trivial⟩,⟨F66_ok,trivial⟩,⟨F26_ok,trivial⟩,trivial⟩ fun x z h=> .trans (by kernel_rfl) h
def F51: (El Y31)->Option (El Y3×El Y3×El Y35):=fun a0=>
 Va (F113 a0.1) fun x0=>
 Va (F99 a0.2.1) fun x1=>
 Va (F65 (0:Int) x0.1 x0.2) fun x2=>
 Va (F65 (1:Int) x1.1 x1.2) fun x3=>
 Va (F56 [x2,x3]) fun x4=>
 Va (bif decide (x4.2.2.1=(0:Int)) then Va (F55 a0) fun x5=>some x5 else some x4) fun x6=>
 Va (bif decide (x6.2.2.1=(0:Int)) then Va (F53 a0) fun x7=>some x7 else some x6) fun x8=>
 Va
 (bif decide (x8.2.2.1=(0:Int)) then
 Va (F68 a0.2.2.2.2.2.1) fun x9=>
 Va (F54 a0) fun x10=>Va (F65 (5:Int) x9.1 x9.2) fun x11=>Va (F56 [x10,x11]) fun x12=>some x12
 else some x8)
 fun x13=>some (x13.1,x13.2.1,x13.2.2.1)
def F51S:Tr.Spec:= {args:=(.cons (.pd Y31) .nil),res:=(.cons (.pd Y3) (.cons (.pd Y3) (.cons (.pd Y35) .nil))),fns:=[],α:=El Y3×El Y3×El Y35,f:=fun x=>F51 x.1,unp:=fun z=>(((),()),(z.1,z.2.1,z.2.2,())) }
theorem F51_ok:ZaF Tryz.prog 70 F51S:=Zaf (rws:=[]) (zxs:=[]) (nt:=64) (m:=[(107,[F113S]),(108,[F99S]),(109,[F56S]),(110,[F65S]),(111,[F55S]),(112,[F53S]),(113,[F68S]),(114,[F54S])]) (fn:=Tryz.f70) (hint:=(hS (hS (hS (hS (.seq (hS (.cnd (some (⟨[],[],[1],[],[],[]⟩,[(.normal,⟨[(9,(.var Zcb (.pd Zcb)))],[],[1],[],[],[]⟩)])) .leaf .leaf)) (.seq (hS (.cnd (some (⟨[],[],[1],[],[],[]⟩,[(.normal,⟨[(9,(.var Zcb (.pd Zcb)))],[],[1],[],[],[]⟩)])) .leaf .leaf)) (.seq (hS (.cnd (some (⟨[],[],[],[],[],[]⟩,[(.normal,⟨[(9,(.var Zcb (.pd Zcb)))],[],[],[],[],[]⟩)])) .leaf .leaf)) .leaf)))))))) (pack:=fun y=>(y.2.1,y.2.2.1,y.2.2.2.1)) ZaX tab_ok ⟨⟨F113_ok,trivial⟩,⟨F99_ok,trivial⟩,⟨F56_ok,trivial⟩,⟨F65_ok,trivial⟩,⟨F55_ok,trivial⟩,⟨F53_ok,trivial⟩,⟨F68_ok,trivial⟩,⟨F54_ok,trivial⟩,trivial⟩ fun x z h=> .trans (by kernel_rfl) h
def F21: (El Y3)->(El Y3)->(El Y3)->Option (El Y4):=fun a0 a1 a2=>Va (bif decide (a1<=a0) then some (decide (a0<=a2)) else some false) fun x0=>some x0
def F21S:Tr.Spec:= {args:=(.cons (.pd Y3) (.cons (.pd Y3) (.cons (.pd Y3) .nil))),res:=(.cons (.pd Y4) .nil),fns:=[],α:=El Y4,f:=fun x=>F21 x.1 x.2.1 x.2.2.1,unp:=fun z=>(((),(),(),()),(z,())) }
theorem F21_ok:ZaF Tryz.prog 71 F21S:=Zaf (rws:=[]) (zxs:=[]) (nt:=15) (m:=[]) (fn:=Tryz.f71) (hint:=(hS (.seq (.reg [(6,Y4)]) .leaf))) (pack:=fun y=>y.2.1) ZaX tab_ok trivial fun x z h=> .trans (by kernel_rfl) h
def F20: (El Y31)->(El Y33)->Option (El Y35):=fun a0 a1=>
 Va (F51 a0) fun x0=>
 bif !decide (x0.2.2=(0:Int)) then some (21:Int)
 else
 Va
 (Va (F21 a1.1 (0:Int) (Vc .i64 ((↑(Vb a0.1):Int) - (1:Int)))) fun x1=>
 bif !x1 then some true
 else
 Va (F21 a1.2.1 (0:Int) (Vc .i64 ((↑(Vb a0.1):Int) - (1:Int)))) fun x2=>
 bif !x2 then some true
 else
 Va (F21 a1.2.2.1 (0:Int) (3155932800:Int)) fun x3=>
 bif !x3 then some true
 else
 Va (F21 a1.2.2.2.2.1 (0:Int) (8:Int)) fun x4=>
 bif !x4 then some true
 else
 Va (F21 a1.2.2.2.2.2.1 (0:Int) (86400:Int)) fun x5=>
 bif !x5 then some true
 else
 Va (F21 a1.2.2.2.2.2.2.2.2.1 (0:Int) (255:Int)) fun x6=>
 bif !x6 then some true else bif a1.2.2.2.2.2.2.2.2.2.1 then some a1.2.2.2.1 else some false)
 fun x7=>bif x7 then some (22:Int) else some (0:Int)
def F20S:Tr.Spec:= {args:=(.cons (.pd Y31) (.cons (.pd Y33) .nil)),res:=(.cons (.pd Y35) .nil),fns:=[],α:=El Y35,f:=fun x=>F20 x.1 x.2.1,unp:=fun z=>(((),(),()),(z,())) }
theorem F20_ok:ZaF Tryz.prog 33 F20S:=Zaf (rws:=[]) (zxs:=[]) (nt:=65) (m:=[(70,[F51S]),(71,[F21S])]) (fn:=Tryz.f33) (hint:=(hS (hS (hS (hS (.seq (.seq (.reg [(64,Y4)]) .leaf) .leaf)))))) (pack:=fun y=>y.2.1) ZaX tab_ok ⟨⟨F51_ok,trivial⟩,⟨F21_ok,trivial⟩,trivial⟩ fun x z h=> .trans (by kernel_rfl) h
def F63: (El Y22)->Option (El Y22):=fun a0=>
 Va (Zas (decide (Vb ([]:List Unit)+Vb a0<=Zax))) fun _=>
 Va (inb (↑(Vb ([]++a0)):Int) (Vb ([]++a0)+(1:Nat))) fun x1=>
 Va (sliceB (Vb ([]++a0)) x1 none (some (↑(Vb ([]++a0)):Int))) fun x2=>some (Vh x2.2 (Vi (0:Nat) ([]++a0)))
def F63S:Tr.Spec:= {args:=(.cons (.pd Y22) .nil),res:=(.cons (.pd Y22) .nil),fns:=[],α:=El Y22,f:=fun x=>F63 x.1,unp:=fun z=>(((),()),(z,())) }
theorem F63_ok:ZaF Tryz.prog 115 F63S:=Zaf (rws:=[]) (zxs:=[]) (nt:=13) (m:=[]) (fn:=Tryz.f115) (hint:= .leaf) (pack:=fun y=>y.2.1) ZaX tab_ok trivial fun x z h=> .trans (by kernel_rfl) h
def F61: (El Y23)->Option (El Y23):=fun a0=>
 Va (Zas (decide (Vb ([]:List Unit)+Vb a0<=Zax))) fun _=>
 Va (inb (↑(Vb ([]++a0)):Int) (Vb ([]++a0)+(1:Nat))) fun x1=>
 Va (sliceB (Vb ([]++a0)) x1 none (some (↑(Vb ([]++a0)):Int))) fun x2=>some (Vh x2.2 (Vi (0:Nat) ([]++a0)))
def F61S:Tr.Spec:= {args:=(.cons (.pd Y23) .nil),res:=(.cons (.pd Y23) .nil),fns:=[],α:=El Y23,f:=fun x=>F61 x.1,unp:=fun z=>(((),()),(z,())) }
theorem F61_ok:ZaF Tryz.prog 116 F61S:=Zaf (rws:=[]) (zxs:=[]) (nt:=13) (m:=[]) (fn:=Tryz.f116) (hint:= .leaf) (pack:=fun y=>y.2.1) ZaX tab_ok trivial fun x z h=> .trans (by kernel_rfl) h
def F62: (El Y24)->Option (List (El Y78)):=fun a0=>
 Va (Zas (decide (Vb ([]:List Unit)+Vb a0<=Zax))) fun _=>
 Va (inb (↑(Vb ([]++a0)):Int) (Vb ([]++a0)+(1:Nat))) fun x1=>
 Va (sliceB (Vb ([]++a0)) x1 none (some (↑(Vb ([]++a0)):Int))) fun x2=>some (Vh x2.2 ([]++a0))
def F62S:Tr.Spec:= {args:=(.cons (.pd Y24) .nil),res:=(.cons (.own Y78 false) .nil),fns:=[],α:=List (El Y78),f:=fun x=>F62 x.1,unp:=fun z=>(((),()),(z,())) }
theorem F62_ok:ZaF Tryz.prog 117 F62S:=Zaf (rws:=[]) (zxs:=[]) (nt:=13) (m:=[]) (fn:=Tryz.f117) (hint:= .leaf) (pack:=fun y=>y.2.1) ZaX tab_ok trivial fun x z h=> .trans (by kernel_rfl) h
def F59: (El Y25)->Option (El Y25):=fun a0=>
 Va (Zas (decide (Vb ([]:List Unit)+Vb a0<=Zax))) fun _=>
 Va (inb (↑(Vb ([]++a0)):Int) (Vb ([]++a0)+(1:Nat))) fun x1=>
 Va (sliceB (Vb ([]++a0)) x1 none (some (↑(Vb ([]++a0)):Int))) fun x2=>some (Vh x2.2 (Vi (0:Nat) ([]++a0)))
def F59S:Tr.Spec:= {args:=(.cons (.pd Y25) .nil),res:=(.cons (.pd Y25) .nil),fns:=[],α:=El Y25,f:=fun x=>F59 x.1,unp:=fun z=>(((),()),(z,())) }
theorem F59_ok:ZaF Tryz.prog 118 F59S:=Zaf (rws:=[]) (zxs:=[]) (nt:=13) (m:=[]) (fn:=Tryz.f118) (hint:= .leaf) (pack:=fun y=>y.2.1) ZaX tab_ok trivial fun x z h=> .trans (by kernel_rfl) h
def F58: (El Y26)->Option (El Y26):=fun a0=>
 Va (Zas (decide (Vb ([]:List Unit)+Vb a0<=Zax))) fun _=>
 Va (inb (↑(Vb ([]++a0)):Int) (Vb ([]++a0)+(1:Nat))) fun x1=>
 Va (sliceB (Vb ([]++a0)) x1 none (some (↑(Vb ([]++a0)):Int))) fun x2=>some (Vh x2.2 (Vi (0:Nat) ([]++a0)))
def F58S:Tr.Spec:= {args:=(.cons (.pd Y26) .nil),res:=(.cons (.pd Y26) .nil),fns:=[],α:=El Y26,f:=fun x=>F58 x.1,unp:=fun z=>(((),()),(z,())) }
theorem F58_ok:ZaF Tryz.prog 119 F58S:=Zaf (rws:=[]) (zxs:=[]) (nt:=13) (m:=[]) (fn:=Tryz.f119) (hint:= .leaf) (pack:=fun y=>y.2.1) ZaX tab_ok trivial fun x z h=> .trans (by kernel_rfl) h
def F57: (El Y76)->Option (El Y76):=fun a0=>
 Va (Zas (decide (Vb ([]:List Unit)+Vb a0<=Zax))) fun _=>
 Va (inb (↑(Vb ([]++a0)):Int) (Vb ([]++a0)+(1:Nat))) fun x1=>
 Va (sliceB (Vb ([]++a0)) x1 none (some (↑(Vb ([]++a0)):Int))) fun x2=>some (Vh x2.2 (Vi (0:Nat) ([]++a0)))
def F57S:Tr.Spec:= {args:=(.cons (.pd Y76) .nil),res:=(.cons (.pd Y76) .nil),fns:=[],α:=El Y76,f:=fun x=>F57 x.1,unp:=fun z=>(((),()),(z,())) }
theorem F57_ok:ZaF Tryz.prog 120 F57S:=Zaf (rws:=[]) (zxs:=[]) (nt:=13) (m:=[]) (fn:=Tryz.f120) (hint:= .leaf) (pack:=fun y=>y.2.1) ZaX tab_ok trivial fun x z h=> .trans (by kernel_rfl) h
def F60: (El Y27)->Option (El Y27):=fun a0=>
 Va (Zas (decide (Vb ([]:List Unit)+Vb a0<=Zax))) fun _=>
 Va (inb (↑(Vb ([]++a0)):Int) (Vb ([]++a0)+(1:Nat))) fun x1=>
 Va (sliceB (Vb ([]++a0)) x1 none (some (↑(Vb ([]++a0)):Int))) fun x2=>some (Vh x2.2 (Vi (0:Nat) ([]++a0)))
def F60S:Tr.Spec:= {args:=(.cons (.pd Y27) .nil),res:=(.cons (.pd Y27) .nil),fns:=[],α:=El Y27,f:=fun x=>F60 x.1,unp:=fun z=>(((),()),(z,())) }
theorem F60_ok:ZaF Tryz.prog 121 F60S:=Zaf (rws:=[]) (zxs:=[]) (nt:=13) (m:=[]) (fn:=Tryz.f121) (hint:= .leaf) (pack:=fun y=>y.2.1) ZaX tab_ok trivial fun x z h=> .trans (by kernel_rfl) h
def F52: (El Y31)->Option (Tz0):=fun a0=>
 Va (F63 a0.1) fun x0=>
 Va (F61 a0.2.1) fun x1=>
 Va (F62 a0.2.2.1) fun x2=>
 Va (F59 a0.2.2.2.1) fun x3=>
 Va (F58 a0.2.2.2.2.1) fun x4=>
 Va
 (run
 (fun s5=>
 bif decide (s5.2< (↑(Vb x2):Int)) then
 Va (inb s5.2 (Vb s5.1.2.2.1)) fun x6=>
 Va s5.1.2.2.1[x6]? fun x7=>
 Va (F57 x7.2.2.2.2.2.2.2.1) fun x8=>
 Va (inb s5.2 (Vb s5.1.2.2.1)) fun x9=>
 Va s5.1.2.2.1[x9]? fun x10=>
 some
 (.inl
 ((s5.1.1,s5.1.2.1,
 Vd s5.1.2.2.1 x9
 (x10.1,x10.2.1,x10.2.2.1,x10.2.2.2.1,x10.2.2.2.2.1,x10.2.2.2.2.2.1,x10.2.2.2.2.2.2.1,x8,
 x10.2.2.2.2.2.2.2.2),
 s5.1.2.2.2.1,s5.1.2.2.2.2.1,s5.1.2.2.2.2.2.1,()),
 Vc .i64 (s5.2+(1:Int))))
 else some (.inr s5.1))
 ((x0,x1,x2,x3,x4,a0.2.2.2.2.2.1,()),(0:Int)))
 fun x11=>
 Va (F60 a0.2.2.2.2.2.1.1) fun x12=>
 some (x11.1,x11.2.1,x11.2.2.1,x11.2.2.2.1,x11.2.2.2.2.1,(x12,x11.2.2.2.2.2.1.2),())
def F52S:Tr.Spec:= {args:=(.cons (.pd Y31) .nil),res:=(.cons Pz1 .nil),fns:=[],α:=Tz0,f:=fun x=>F52 x.1,unp:=fun z=>(((),()),(z,())) }
theorem F52_ok:ZaF Tryz.prog 72 F52S:=Zaf (rws:=[]) (zxs:=[]) (nt:=49) (m:=[(115,[F63S]),(116,[F61S]),(117,[F62S]),(118,[F59S]),(119,[F58S]),(120,[F57S]),(121,[F60S])]) (fn:=Tryz.f72) (hint:=(hS (hS (.seq (hS (.lp ⟨[(3,Pz0),(26,(.pd Y3))],[],[1,2,25],[],[],[]⟩ [((.exit 0),⟨[(3,Pz0)],[],[1,2],[],[],[]⟩)] .leaf)) .leaf)))) (pack:=fun y=>y.2.1) ZaX tab_ok ⟨⟨F63_ok,trivial⟩,⟨F61_ok,trivial⟩,⟨F62_ok,trivial⟩,⟨F59_ok,trivial⟩,⟨F58_ok,trivial⟩,⟨F57_ok,trivial⟩,⟨F60_ok,trivial⟩,trivial⟩ fun x z h=> .trans (by kernel_rfl) h
def F25(a0:El Y31)(a1:El Y33)(a2:El Y78):Option Bool:=Tr.useF a0 a1 a2
def F25S:Tr.Spec:= {args:=(.cons (.pd Y31) (.cons (.pd Y33) (.cons (.pd Y78) .nil))),res:=(.cons (.pd Y4) .nil),fns:=[],α:=El Y4,f:=fun x=>F25 x.1 x.2.1 x.2.2.1,unp:=fun z=>(((),(),(),()),(z,())) }
theorem F25_ok:ZaF Tryz.prog 73 F25S:=Tr.use_ok
def F24: (El Y31)->(El Y33)->(El Y3)->Option (El Y4):=fun a0 a1 a2=>Va (Va (idx a0.1 a2) fun x0=>bif x0.2.2.1 then some true else some !a1.2.2.2.2.2.2.1) fun x1=>some x1
def F24S:Tr.Spec:= {args:=(.cons (.pd Y31) (.cons (.pd Y33) (.cons (.pd Y3) .nil))),res:=(.cons (.pd Y4) .nil),fns:=[],α:=El Y4,f:=fun x=>F24 x.1 x.2.1 x.2.2.1,unp:=fun z=>(((),(),(),()),(z,())) }
theorem F24_ok:ZaF Tryz.prog 127 F24S:=Zaf (rws:=[]) (zxs:=[]) (nt:=18) (m:=[]) (fn:=Tryz.f127) (hint:=(hS (.seq (.reg [(6,Y4)]) .leaf))) (pack:=fun y=>y.2.1) ZaX tab_ok trivial fun x z h=> .trans (by kernel_rfl) h
def F23: (El Y31)->(El Y33)->(El Y76)->Option (El Y76):=fun a0 a1 a2=>
 Va
 (run
 (fun s0=>
 bif decide (s0.2< (↑(Vb a2):Int)) then
 Va (idx a2 s0.2) fun x1=>
 Va (F24 a0 a1 x1.1) fun x2=>
 Va (bif !x2 then some (x1.1,x1.2.1,x1.2.2.1,false,false,x1.2.2.2.2.2) else some x1) fun x3=>
 Va (Zas (decide (Vb s0.1+Vb [x3]<=Zax))) fun _=>
 some (.inl (s0.1++[x3],Vc .i64 (s0.2+(1:Int))))
 else some (.inr s0.1))
 ([],(0:Int)))
 fun x5=>
 Va (inb (↑(Vb x5):Int) (Vb x5+(1:Nat))) fun x6=>
 Va (sliceB (Vb x5) x6 none (some (↑(Vb x5):Int))) fun x7=>some (Vh x7.2 (Vi (0:Nat) x5))
def F23S:Tr.Spec:= {args:=(.cons (.pd Y31) (.cons (.pd Y33) (.cons (.pd Y76) .nil))),res:=(.cons (.pd Y76) .nil),fns:=[],α:=El Y76,f:=fun x=>F23 x.1 x.2.1 x.2.2.1,unp:=fun z=>(((),(),(),()),(z,())) }
theorem F23_ok:ZaF Tryz.prog 74 F23S:=Zaf (rws:=[]) (zxs:=[]) (nt:=35) (m:=[(127,[F24S])]) (fn:=Tryz.f74) (hint:=(hS (hS (.seq (hS (.lp ⟨[(7,(.own Zn7 false)),(12,(.pd Y3))],[],[3,4,10,11],[],[],[]⟩ [((.exit 0),⟨[(7,(.own Zn7 false))],[],[],[],[],[]⟩)] (hS (hS (.seq (hS (.seq (hS (.cnd (some (⟨[],[],[3,4,7,10,11,12],[],[],[]⟩,[(.normal,⟨[(9,(.var Zn7 (.pd Zn7)))],[],[3,4,7,10,11,12],[],[],[]⟩)])) .leaf .leaf)) .leaf)) .leaf))))) .leaf)))) (pack:=fun y=>y.2.1) ZaX tab_ok ⟨⟨F24_ok,trivial⟩,trivial⟩ fun x z h=> .trans (by kernel_rfl) h
def F22: (El Y31)->(El Y33)->Option (El Y31×El Y35):=fun a0 a1=>
 Va (F20 a0 a1) fun x0=>
 bif !decide (x0=(0:Int)) then some ((([]:List (El Zq5)),([]:List (El ZqZ)),([]:List (El Y78)),([]:List (El ZqX)),([]:List (El ZdC)),(([]:List (El Zo1)),(0:Int),(0:Int),(0:Int),()),()),x0)
 else
 Va (F52 a0) fun x1=>
 Va
 (run
 (fun s2=>
 bif decide (s2.2< (↑(Vb a0.2.2.1):Int)) then
 Va (idx a0.2.2.1 s2.2) fun x3=>
 Va (F25 a0 a1 x3) fun x4=>
 Va (inb s2.2 (Vb s2.1.2.2.1)) fun x5=>
 Va s2.1.2.2.1[x5]? fun x6=>
 Va (F23 a0 a1 x3.2.2.2.2.2.2.2.1) fun x7=>
 Va
 (inb s2.2
 (Vb
 (Vd s2.1.2.2.1 x5
 (x6.1,x6.2.1,x6.2.2.1,x6.2.2.2.1,x6.2.2.2.2.1,x6.2.2.2.2.2.1, !x4,x6.2.2.2.2.2.2.2))))
 fun x8=>
 Va
 (Vd s2.1.2.2.1 x5
 (x6.1,x6.2.1,x6.2.2.1,x6.2.2.2.1,x6.2.2.2.2.1,x6.2.2.2.2.2.1, !x4,x6.2.2.2.2.2.2.2))[x8]?
 fun x9=>
 some
 (.inl
 ((s2.1.1,s2.1.2.1,
 Vd
 (Vd s2.1.2.2.1 x5
 (x6.1,x6.2.1,x6.2.2.1,x6.2.2.2.1,x6.2.2.2.2.1,x6.2.2.2.2.2.1, !x4,x6.2.2.2.2.2.2.2))
 x8
 (x9.1,x9.2.1,x9.2.2.1,x9.2.2.2.1,x9.2.2.2.2.1,x9.2.2.2.2.2.1,x9.2.2.2.2.2.2.1,x7,
 x9.2.2.2.2.2.2.2.2),
 s2.1.2.2.2.1,s2.1.2.2.2.2.1,s2.1.2.2.2.2.2.1,()),
 Vc .i64 (s2.2+(1:Int))))
 else some (.inr s2.1))
 (x1,(0:Int)))
 fun x10=>
 bif a1.2.2.2.2.2.2.1 then
 Va
 (run
 (fun s11=>
 bif decide (s11.2< (↑(Vb a0.2.2.2.2.1):Int)) then
 Va (idx a0.2.2.2.2.1 s11.2) fun x12=>
 bif x12.2.2.2.1 then
 Va (Zas (decide (Vb s11.1.2.2.2.2.1+Vb [x12]<=Zax))) fun _=>
 some
 (.inl
 ((s11.1.1,s11.1.2.1,s11.1.2.2.1,s11.1.2.2.2.1,s11.1.2.2.2.2.1++[x12],s11.1.2.2.2.2.2.1,()),
 Vc .i64 (s11.2+(1:Int))))
 else
 some
 (.inl
 (s11.1,
 Vc .i64 (s11.2+(1:Int))))
 else some (.inr s11.1))
 ((x10.1,x10.2.1,x10.2.2.1,x10.2.2.2.1,[],x10.2.2.2.2.2.1,()),(0:Int)))
 fun x14=>some (x14,(0:Int))
 else some (x10,(0:Int))
def F22S:Tr.Spec:= {args:=(.cons (.pd Y31) (.cons (.pd Y33) .nil)),res:=(.cons (.pd Y31) (.cons (.pd Y35) .nil)),fns:=[],α:=El Y31×El Y35,f:=fun x=>F22 x.1 x.2.1,unp:=fun z=>(((),(),()),(z.1,z.2,())) }
theorem F22_ok:ZaF Tryz.prog 34 F22S:=Zaf (rws:=[]) (zxs:=[]) (nt:=70) (m:=[(33,[F20S]),(72,[F52S]),(73,[F25S]),(74,[F23S])]) (fn:=Tryz.f34) (hint:=(hS (hS (hS (.seq (hS (.lp ⟨[(7,Pz0),(24,(.pd Y3))],[],[2,3,4,22,23],[],[],[]⟩ [((.exit 0),⟨[(7,Pz0)],[],[2,3,4],[],[],[]⟩)] .leaf)) (.seq (hS (.cnd none (hS (hS (.lp ⟨[(7,(.var Y31 (.agg (.cons (.pd Y22) (.cons (.pd Y23) (.cons (.own Y78 false) (.cons (.pd Y25) (.cons (.own ZdC false) (.cons (.pd Y29) .nil))))))))),(56,(.pd Y3))],[],[4,54,55],[],[],[]⟩ [((.exit 2),⟨[(7,(.var Y31 (.agg (.cons (.pd Y22) (.cons (.pd Y23) (.cons (.own Y78 false) (.cons (.pd Y25) (.cons (.own ZdC false) (.cons (.pd Y29) .nil)))))))))],[],[4],[],[],[]⟩)] .leaf))) .leaf)) .leaf)))))) (pack:=fun y=>(y.2.1,y.2.2.1)) ZaX tab_ok ⟨⟨F20_ok,trivial⟩,⟨F52_ok,trivial⟩,⟨F25_ok,trivial⟩,⟨F23_ok,trivial⟩,trivial⟩ fun x z h=> .trans (by kernel_rfl) h
def F77: (El Y31)->(El Y33)->Option (El Y85):=fun a0 a1=>
 Va
 (run
 (fun s0=>
 bif decide (s0.2< (↑(Vb a0.2.2.2.2.1):Int)) then
 Va (idx a0.2.2.2.2.1 s0.2) fun x1=>
 Va (bif decide (x1.1=a1.1) then some (decide (x1.2.2.1<=a1.2.2.2.2.2.1)) else some false) fun x2=>
 bif x2 then
 Va (Zas (decide (Vb s0.1+Vb [(x1.2.1,x1.2.2.1,())]<=Zax))) fun _=>
 some (.inl (s0.1++[(x1.2.1,x1.2.2.1,())],Vc .i64 (s0.2+(1:Int))))
 else some (.inl (s0.1,Vc .i64 (s0.2+(1:Int))))
 else some (.inr s0.1))
 ([(a1.1,(0:Int),())],(0:Int)))
 fun x4=>some x4
def F77S:Tr.Spec:= {args:=(.cons (.pd Y31) (.cons (.pd Y33) .nil)),res:=(.cons (.pd Y85) .nil),fns:=[],α:=El Y85,f:=fun x=>F77 x.1 x.2.1,unp:=fun z=>(((),(),()),(z,())) }
theorem F77_ok:ZaF Tryz.prog 35 F77S:=Zaf (rws:=[]) (zxs:=[]) (nt:=41) (m:=[]) (fn:=Tryz.f35) (hint:=(hS (hS (.seq (hS (.lp ⟨[(5,(.own Zq1 false)),(15,(.pd Y3))],[],[3,13,14],[],[],[]⟩ [((.exit 0),⟨[(5,(.own Zq1 false))],[],[],[],[],[]⟩)] (hS (hS (.seq (hS (.seq (.reg [(30,Y4)]) .leaf)) .leaf))))) .leaf)))) (pack:=fun y=>y.2.1) ZaX tab_ok trivial fun x z h=> .trans (by kernel_rfl) h
def F112(a0:List (El Y3)):Option (List (El Y3)):=Tr.sortI a0
def F112S:Tr.Spec:= {args:=(.cons (.own Y3 true) .nil),res:= .nil,fns:=[],α:=List (El Y3),f:=fun x=>F112 x.1,unp:=fun z=>((z,()),()) }
theorem F112_ok:ZaF Tryz.prog 75 F112S:=Tr.sortInt_ok (ρ:=Tryz.sort75_ren) Tryz.sort75 ⟨_,Tryz.func75,rfl,rfl⟩
def F110(a0:List (El Y3)):Option (List (El Y3)):=Tr.compactI a0
def F110S:Tr.Spec:= {args:=(.cons (.own Y3 false) .nil),res:=(.cons (.own Y3 false) .nil),fns:=[],α:=List (El Y3),f:=fun x=>F110 x.1,unp:=fun z=>(((),()),(z,())) }
theorem F110_ok:ZaF Tryz.prog 76 F110S:=Tr.compactInt_ok (ρ:=Tryz.comp76_ren) Tryz.comp76 ⟨_,Tryz.func76,rfl,rfl⟩
def F78: (El Y31)->(El Y33)->(El Y85)->(El Y3)->Option (El Y87):=fun a0 a1 a2 a3=>
 Va
 (run
 (fun s0=>
 bif decide (s0.2< (↑(Vb a0.2.2.1):Int)) then
 Va (idx a0.2.2.1 s0.2) fun x1=>
 Va
 (run
 (fun s2=>
 bif decide (s2.2< (↑(Vb x1.2.2.2.2.2.2.2.1):Int)) then
 Va (idx x1.2.2.2.2.2.2.2.1 s2.2) fun x3=>
 Va
 (run
 (fun s4=>
 bif decide (s4.2< (↑(Vb a2):Int)) then
 Va (idx a2 s4.2) fun x5=>
 Va
 (bif decide (x3.1=x5.1) then
 bif decide (a1.2.2.1<=Vc .i64 (x3.2.2.1 - x5.2.1)) then
 some (decide (Vc .i64 (x3.2.2.1 - x5.2.1)<=a3))
 else some false
 else some false)
 fun x6=>
 bif x6 then
 Va (Zas (decide (Vb s4.1+Vb [Vc .i64 (x3.2.2.1 - x5.2.1)]<=Zax))) fun _=>
 some (.inl (s4.1++[Vc .i64 (x3.2.2.1 - x5.2.1)],Vc .i64 (s4.2+(1:Int))))
 else some (.inl (s4.1,Vc .i64 (s4.2+(1:Int))))
 else some (.inr s4.1))
 (s2.1,(0:Int)))
 fun x8=>some (.inl (x8,Vc .i64 (s2.2+(1:Int))))
 else some (.inr s2.1))
 (s0.1,(0:Int)))
 fun x9=>some (.inl (x9,Vc .i64 (s0.2+(1:Int))))
 else some (.inr s0.1))
 ([],(0:Int)))
 fun x10=>Va (F112 x10) fun x11=>Va (F110 x11) fun x12=>some x12
def F78S:Tr.Spec:= {args:=(.cons (.pd Y31) (.cons (.pd Y33) (.cons (.pd Y85) (.cons (.pd Y3) .nil)))),res:=(.cons (.pd Y87) .nil),fns:=[],α:=El Y87,f:=fun x=>F78 x.1 x.2.1 x.2.2.1 x.2.2.2.1,unp:=fun z=>(((),(),(),(),()),(z,())) }
theorem F78_ok:ZaF Tryz.prog 36 F78S:=Zaf (rws:=[]) (zxs:=[]) (nt:=69) (m:=[(75,[F112S]),(76,[F110S])]) (fn:=Tryz.f36) (hint:=(hS (hS (.seq (hS (.lp ⟨[(9,(.own Y3 false)),(20,(.pd Y3))],[],[2,3,5,18,19],[],[],[]⟩ [((.exit 0),⟨[(9,(.own Y3 false))],[],[],[],[],[]⟩)] (hS (hS (.seq (hS (hS (.lp ⟨[(9,(.own Y3 false)),(27,(.pd Y3))],[],[2,3,5,18,19,20,25,26],[],[],[]⟩ [((.exit 2),⟨[(9,(.own Y3 false))],[],[2,3,5,18,19,20],[],[],[]⟩)] (hS (hS (.seq (hS (hS (.lp ⟨[(9,(.own Y3 false)),(33,(.pd Y3))],[],[2,3,5,13,18,19,20,25,26,27,31,32],[],[],[]⟩ [((.exit 4),⟨[(9,(.own Y3 false))],[],[2,3,5,18,19,20,25,26,27],[],[],[]⟩)] (hS (hS (.seq (hS (hS (.seq (.reg [(57,Y4)]) .leaf))) .leaf)))))) .leaf)))))) .leaf))))) .leaf)))) (pack:=fun y=>y.2.1) ZaX tab_ok ⟨⟨F112_ok,trivial⟩,⟨F110_ok,trivial⟩,trivial⟩ fun x z h=> .trans (by kernel_rfl) h
def F45: (El Y31)->(El Y82)->Option (El Y4):=fun a0 a1=>
 Va
 (bif decide ((0:Int)<=a1.2.1) then
 bif decide (a1.2.1< (↑(Vb a0.2.2.1):Int)) then
 bif decide ((0:Int)<=a1.2.2.1) then
 bif decide (a1.2.2.1<a1.2.2.2.1) then
 Va (idx a0.2.2.1 a1.2.1) fun x0=>some (decide (a1.2.2.2.1< (↑(Vb x0.2.2.2.2.2.2.2.1):Int)))
 else some false
 else some false
 else some false
 else some false)
 fun x1=>some x1
def F45S:Tr.Spec:= {args:=(.cons (.pd Y31) (.cons (.pd Y82) .nil)),res:=(.cons (.pd Y4) .nil),fns:=[],α:=El Y4,f:=fun x=>F45 x.1 x.2.1,unp:=fun z=>(((),(),()),(z,())) }
theorem F45_ok:ZaF Tryz.prog 136 F45S:=Zaf (rws:=[]) (zxs:=[]) (nt:=41) (m:=[]) (fn:=Tryz.f136) (hint:=(hS (.seq (.reg [(4,Y4)]) .leaf))) (pack:=fun y=>y.2.1) ZaX tab_ok trivial fun x z h=> .trans (by kernel_rfl) h
def F5: (El Y3)->Option (El Zb6):=fun a0=>
 Va (bif decide (a0< (0:Int)) then some true else some (decide ((63:Int)<a0))) fun x0=>
 bif x0 then some (0:Int) else Va (ZqS .u64 (1:Int) a0) fun x1=>some x1
def F5S:Tr.Spec:= {args:=(.cons (.pd Y3) .nil),res:=(.cons (.pd Zb6) .nil),fns:=[],α:=El Zb6,f:=fun x=>F5 x.1,unp:=fun z=>(((),()),(z,())) }
theorem F5_ok:ZaF Tryz.prog 198 F5S:=Zaf (rws:=[]) (zxs:=[]) (nt:=11) (m:=[]) (fn:=Tryz.f198) (hint:=(hS (.seq (.seq (.reg [(8,Y4)]) .leaf) .leaf))) (pack:=fun y=>y.2.1) ZaX tab_ok trivial fun x z h=> .trans (by kernel_rfl) h
def F3: (El Zb6)->(El Y3)->Option (El Zb6):=fun a0 a1=>Va (F5 a1) fun x0=>some (qor .u64 a0 x0)
def F3S:Tr.Spec:= {args:=(.cons (.pd Zb6) (.cons (.pd Y3) .nil)),res:=(.cons (.pd Zb6) .nil),fns:=[],α:=El Zb6,f:=fun x=>F3 x.1 x.2.1,unp:=fun z=>(((),(),()),(z,())) }
theorem F3_ok:ZaF Tryz.prog 197 F3S:=Zaf (rws:=[]) (zxs:=[]) (nt:=9) (m:=[(198,[F5S])]) (fn:=Tryz.f197) (hint:= .leaf) (pack:=fun y=>y.2.1) ZaX tab_ok ⟨⟨F5_ok,trivial⟩,trivial⟩ fun x z h=> .trans (by kernel_rfl) h
def F46: (El Y31)->(El Y82)->Option (El Zb6):=fun a0 a1=>
 Va (idx a0.2.2.1 a1.2.1) fun x0=>
 Va
 (sliceB (Vb x0.2.2.2.2.2.2.2.1) (Vb x0.2.2.2.2.2.2.2.1) (some a1.2.2.1)
 (some (Vc .i64 (a1.2.2.2.1+(1:Int)))))
 fun x1=>
 Va
 (run
 (fun s2=>
 bif decide (s2.2< (↑(Vb (Vh (x1.2 - x1.1) (Vi x1.1 x0.2.2.2.2.2.2.2.1))):Int)) then
 Va (idx (Vh (x1.2 - x1.1) (Vi x1.1 x0.2.2.2.2.2.2.2.1)) s2.2) fun x3=>
 Va (idx a0.1 x3.1) fun x4=>Va (F3 s2.1 x4.2.1) fun x5=>some (.inl (x5,Vc .i64 (s2.2+(1:Int))))
 else some (.inr s2.1))
 ((0:Int),(0:Int)))
 fun x6=>some x6
def F46S:Tr.Spec:= {args:=(.cons (.pd Y31) (.cons (.pd Y82) .nil)),res:=(.cons (.pd Zb6) .nil),fns:=[],α:=El Zb6,f:=fun x=>F46 x.1 x.2.1,unp:=fun z=>(((),(),()),(z,())) }
theorem F46_ok:ZaF Tryz.prog 134 F46S:=Zaf (rws:=[]) (zxs:=[]) (nt:=37) (m:=[(197,[F3S])]) (fn:=Tryz.f134) (hint:=(hS (hS (.seq (hS (.lp ⟨[(5,(.pd Zb6)),(22,(.pd Y3))],[],[2,20,21],[],[],[]⟩ [((.exit 0),⟨[(5,(.pd Zb6))],[],[],[],[],[]⟩)] .leaf)) .leaf)))) (pack:=fun y=>y.2.1) ZaX tab_ok ⟨⟨F3_ok,trivial⟩,trivial⟩ fun x z h=> .trans (by kernel_rfl) h
def F0: (El Y87)->Option (El Zb6):=fun a0=>
 Va
 (run
 (fun s0=>
 bif decide (s0.2< (↑(Vb a0):Int)) then
 Va (idx a0 s0.2) fun x1=>Va (F5 x1) fun x2=>some (.inl (qor .u64 s0.1 x2,Vc .i64 (s0.2+(1:Int))))
 else some (.inr s0.1))
 ((0:Int),(0:Int)))
 fun x3=>some x3
def F0S:Tr.Spec:= {args:=(.cons (.pd Y87) .nil),res:=(.cons (.pd Zb6) .nil),fns:=[],α:=El Zb6,f:=fun x=>F0 x.1,unp:=fun z=>(((),()),(z,())) }
theorem F0_ok:ZaF Tryz.prog 135 F0S:=Zaf (rws:=[]) (zxs:=[]) (nt:=18) (m:=[(198,[F5S])]) (fn:=Tryz.f135) (hint:=(hS (hS (.seq (hS (.lp ⟨[(3,(.pd Zb6)),(8,(.pd Y3))],[],[6,7],[],[],[]⟩ [((.exit 0),⟨[(3,(.pd Zb6))],[],[],[],[],[]⟩)] .leaf)) .leaf)))) (pack:=fun y=>y.2.1) ZaX tab_ok ⟨⟨F5_ok,trivial⟩,trivial⟩ fun x z h=> .trans (by kernel_rfl) h
def F43: (El Y82)->(El Y31)->(List (El ZlP))->Option (List (El ZlP)):=fun a0 a1 a2=>
 Va (F46 a1 a0) fun x0=>
 Va (idx a1.2.2.1 a0.2.1) fun x1=>
 Va (idx a1.2.1 x1.2.2.2.2.1) fun x2=>
 Va (F0 [x2.2.1]) fun x3=>
 bif !a0.2.2.2.2.2.2.2.2.1 then
 Va
 (Zas
 (decide
 (Vb a2+Vb [(a0.2.2.2.2.2.2.1,a0.2.2.2.2.2.2.2.1,Vc .i64 x0,Vc .i64 x3,())]<=
 Zax)))
 fun _=>some (a2++[(a0.2.2.2.2.2.2.1,a0.2.2.2.2.2.2.2.1,Vc .i64 x0,Vc .i64 x3,())])
 else
 Va (inb (Vc .i64 ((↑(Vb a2):Int) - (1:Int))) (Vb a2)) fun x5=>
 Va a2[x5]? fun x6=>
 Va (Vd a2 x5 (x6.1,a0.2.2.2.2.2.2.2.1,x6.2.2))[x5]? fun x7=>
 Va (Vd a2 x5 (x6.1,a0.2.2.2.2.2.2.2.1,x6.2.2))[x5]? fun x8=>
 Va
 (Vd (Vd a2 x5 (x6.1,a0.2.2.2.2.2.2.2.1,x6.2.2)) x5
 (x8.1,x8.2.1,qor .i64 x7.2.2.1 (Vc .i64 x0),x8.2.2.2))[x5]?
 fun x9=>
 Va
 (Vd (Vd a2 x5 (x6.1,a0.2.2.2.2.2.2.2.1,x6.2.2)) x5
 (x8.1,x8.2.1,qor .i64 x7.2.2.1 (Vc .i64 x0),x8.2.2.2))[x5]?
 fun x10=>
 some
 (Vd
 (Vd (Vd a2 x5 (x6.1,a0.2.2.2.2.2.2.2.1,x6.2.2)) x5
 (x8.1,x8.2.1,qor .i64 x7.2.2.1 (Vc .i64 x0),x8.2.2.2))
 x5 (x10.1,x10.2.1,x10.2.2.1,qor .i64 x9.2.2.2.1 (Vc .i64 x3),x10.2.2.2.2))
def F43S:Tr.Spec:= {args:=(.cons (.pd Y82) (.cons (.ro Y31) (.cons (.var ZgQ (.own ZlP false)) .nil))),res:= .nil,fns:=[],α:=List (El ZlP),f:=fun x=>F43 x.1 x.2.1 x.2.2.1,unp:=fun z=>(((),(),z,()),()) }
theorem F43_ok:ZaF Tryz.prog 133 F43S:=Zaf (rws:=[]) (zxs:=[]) (nt:=65) (m:=[(134,[F46S]),(135,[F0S])]) (fn:=Tryz.f133) (hint:= .leaf) (pack:=fun y=>y.1.2.2.1) ZaX tab_ok ⟨⟨F46_ok,trivial⟩,⟨F0_ok,trivial⟩,trivial⟩ fun x z h=> .trans (by kernel_rfl) h
def F42: (El Y31)->(El Y48)->Option (El ZgQ×El Y35):=fun a0 a1=>
 Va (F51 a0) fun x0=>
 bif !decide (x0.2.2=(0:Int)) then some ([],(21:Int))
 else
 Va
 (run
 (fun s1=>
 bif decide (s1.2.2< (↑(Vb a1.1):Int)) then
 Va (idx a1.1 s1.2.2) fun x2=>
 Va (bif x2.1 then Va (F45 a0 x2) fun x3=>some !x3 else some false) fun x4=>
 bif x4 then some (.inr (.inr ([],(9:Int))))
 else
 Va (bif x2.2.2.2.2.2.2.2.2.1 then bif !x2.1 then some true else some !s1.2.1 else some false) fun x5=>
 bif x5 then some (.inr (.inr ([],(19:Int))))
 else
 Va (bif x2.1 then Va (F43 x2 a0 s1.1) fun x6=>some x6 else some s1.1) fun x7=>
 some (.inl (x7,x2.1,Vc .i64 (s1.2.2+(1:Int))))
 else some (.inr (.inl s1.1)))
 ([],false,(0:Int)))
 fun x8=>Vf (fun y9=>some (y9,(0:Int))) (fun y10=>some (y10.1,y10.2)) x8
def F42S:Tr.Spec:= {args:=(.cons (.pd Y31) (.cons (.pd Y48) .nil)),res:=(.cons (.pd ZgQ) (.cons (.pd Y35) .nil)),fns:=[],α:=El ZgQ×El Y35,f:=fun x=>F42 x.1 x.2.1,unp:=fun z=>(((),(),()),(z.1,z.2,())) }
theorem F42_ok:ZaF Tryz.prog 82 F42S:=Zaf (rws:=[]) (zxs:=[]) (nt:=58) (m:=[(70,[F51S]),(133,[F43S]),(136,[F45S])]) (fn:=Tryz.f82) (hint:=(hS (hS (hS (hS (hS (.seq (hS (.lp ⟨[(9,(.var ZgQ (.own ZlP false))),(11,(.pd Y4)),(26,(.pd Y3))],[(10,133,[2,9])],[2,24,25],[],[],[]⟩ [((.exit 0),⟨[(9,(.var ZgQ (.own ZlP false)))],[],[],[],[],[]⟩),(.ret,⟨[(4,(.pd ZgQ)),(5,(.pd Y35))],[],[],[],[],[]⟩)] (hS (hS (.seq (hS (.seq (.seq (.reg [(37,Y4)]) .leaf) (.seq (.seq (.reg [(48,Y4)]) .leaf) (.seq (hS (.cnd (some (⟨[],[],[2,13,24,25,26],[],[],[]⟩,[(.normal,⟨[(9,(.var ZgQ (.own ZlP false)))],[(10,133,[2,9])],[2,13,24,25,26],[],[],[]⟩)])) .leaf .leaf)) .leaf)))) .leaf))))) .leaf))))))) (pack:=fun y=>(y.2.1,y.2.2.1)) ZaX tab_ok ⟨⟨F51_ok,trivial⟩,⟨F43_ok,trivial⟩,⟨F45_ok,trivial⟩,trivial⟩ fun x z h=> .trans (by kernel_rfl) h
def F17: (El Y29)->(El ZgQ)->Option (El Y35):=fun a0 a1=>
 Va (F68 a0) fun x0=>
 bif !decide (x0.2=(0:Int)) then some (20:Int) else bif decide ((8:Int)< (↑(Vb a1):Int)) then some (33:Int) else some (0:Int)
def F17S:Tr.Spec:= {args:=(.cons (.pd Y29) (.cons (.pd ZgQ) .nil)),res:=(.cons (.pd Y35) .nil),fns:=[],α:=El Y35,f:=fun x=>F17 x.1 x.2.1,unp:=fun z=>(((),(),()),(z,())) }
theorem F17_ok:ZaF Tryz.prog 137 F17S:=Zaf (rws:=[]) (zxs:=[]) (nt:=17) (m:=[(113,[F68S])]) (fn:=Tryz.f137) (hint:= .leaf) (pack:=fun y=>y.2.1) ZaX tab_ok ⟨⟨F68_ok,trivial⟩,trivial⟩ fun x z h=> .trans (by kernel_rfl) h
def F71: (El Y3)->(El Y3)->(El Y3)->Option (El Y4):=fun a0 a1 a2=>
 bif decide (a0<=a1) then
 Va
 (bif decide (a2< (0:Int)) then some true
 else some (decide (Vc .u64 a2<Vc .u64 (Vc .u64 a1 - Vc .u64 a0))))
 fun x0=>some x0
 else
 Va
 (bif decide (a2< (0:Int)) then
 some
 (decide
 (Vc .u64 (Vc .u64 a0 - Vc .u64 a1)<Vc .u64 ((0:Int) - Vc .u64 a2)))
 else some false)
 fun x1=>some x1
def F71S:Tr.Spec:= {args:=(.cons (.pd Y3) (.cons (.pd Y3) (.cons (.pd Y3) .nil))),res:=(.cons (.pd Y4) .nil),fns:=[],α:=El Y4,f:=fun x=>F71 x.1 x.2.1 x.2.2.1,unp:=fun z=>(((),(),(),()),(z,())) }
theorem F71_ok:ZaF Tryz.prog 230 F71S:=Zaf (rws:=[]) (zxs:=[]) (nt:=35) (m:=[]) (fn:=Tryz.f230) (hint:=(hS (.seq (hS (.cnd none (.seq (.reg [(6,Y4)]) .leaf) .leaf)) (.seq (.reg [(6,Y4)]) .leaf)))) (pack:=fun y=>y.2.1) ZaX tab_ok trivial fun x z h=> .trans (by kernel_rfl) h
def F1(a0:Int):Option Int:=Tr.lenF a0
def F1S:Tr.Spec:= {args:=(.cons (.pd Zb6) .nil),res:=(.cons (.pd Y3) .nil),fns:=[],α:=El Y3,f:=fun x=>F1 x.1,unp:=fun z=>(((),()),(z,())) }
theorem F1_ok:ZaF Tryz.prog 233 F1S:=Tr.len_ok
def F4: (El Zb6)->(El Zb6)->Option (El Y4):=fun a0 a1=>some (decide (Tr.qandNot .u64 a0 a1=(0:Int)))
def F4S:Tr.Spec:= {args:=(.cons (.pd Zb6) (.cons (.pd Zb6) .nil)),res:=(.cons (.pd Y4) .nil),fns:=[],α:=El Y4,f:=fun x=>F4 x.1 x.2.1,unp:=fun z=>(((),(),()),(z,())) }
theorem F4_ok:ZaF Tryz.prog 234 F4S:=Zaf (rws:=[]) (zxs:=[]) (nt:=9) (m:=[]) (fn:=Tryz.f234) (hint:= .leaf) (pack:=fun y=>y.2.1) ZaX tab_ok trivial fun x z h=> .trans (by kernel_rfl) h
def F2: (El Zb6)->(El Zb6)->Option (El Zb6):=fun a0 a1=>some (qor .u64 a0 a1)
def F2S:Tr.Spec:= {args:=(.cons (.pd Zb6) (.cons (.pd Zb6) .nil)),res:=(.cons (.pd Zb6) .nil),fns:=[],α:=El Zb6,f:=fun x=>F2 x.1 x.2.1,unp:=fun z=>(((),(),()),(z,())) }
theorem F2_ok:ZaF Tryz.prog 232 F2S:=Zaf (rws:=[]) (zxs:=[]) (nt:=8) (m:=[]) (fn:=Tryz.f232) (hint:= .leaf) (pack:=fun y=>y.2.1) ZaX tab_ok trivial fun x z h=> .trans (by kernel_rfl) h
def F70: (El ZlP)->(El Zb6)->(El Zb6)->Option (El Zb6×El Zb6):=fun a0 a1 a2=>
 Va (F2 a1 (Vc .u64 a0.2.2.1)) fun x0=>
 Va (F2 a2 (Vc .u64 a0.2.2.2.1)) fun x1=>some (x0,x1)
def F70S:Tr.Spec:= {args:=(.cons (.pd ZlP) (.cons (.var Zb6 (.pd Zb6)) (.cons (.var Zb6 (.pd Zb6)) .nil))),res:= .nil,fns:=[],α:=El Zb6×El Zb6,f:=fun x=>F70 x.1 x.2.1 x.2.2.1,unp:=fun z=>(((),z.1,z.2,()),()) }
theorem F70_ok:ZaF Tryz.prog 231 F70S:=Zaf (rws:=[]) (zxs:=[]) (nt:=14) (m:=[(232,[F2S])]) (fn:=Tryz.f231) (hint:= .leaf) (pack:=fun y=>(y.1.2.1,y.1.2.2.1)) ZaX tab_ok ⟨⟨F2_ok,trivial⟩,trivial⟩ fun x z h=> .trans (by kernel_rfl) h
def F69: (El Zo1)->(El ZgQ)->Option (El Y4):=fun a0 a1=>
 Va
 (bif decide ((↑(Vb a1):Int)=(0:Int)) then some true
 else
 bif decide (a0.2.2.1< (↑(Vb a1):Int)) then some true
 else
 Va (idx a1 (0:Int)) fun x0=>
 Va (idx a1 (Vc .i64 ((↑(Vb a1):Int) - (1:Int)))) fun x1=>
 Va (F71 x0.1 x1.1 a0.2.2.2.2.1) fun x2=>some x2)
 fun x3=>
 bif x3 then some false
 else
 Va
 (run
 (fun s4=>
 bif decide (s4.2.2< (↑(Vb a1):Int)) then
 Va (idx a1 s4.2.2) fun x5=>
 Va (F70 x5 s4.1 s4.2.1) fun x6=>some (.inl (x6.1,x6.2,Vc .i64 (s4.2.2+(1:Int))))
 else some (.inr (s4.1,s4.2.1)))
 ((0:Int),(0:Int),(0:Int)))
 fun x7=>
 Va
 (Va (F1 x7.1) fun x8=>
 bif decide (x8<=a0.2.2.2.1) then Va (F4 x7.2 (Vc .u64 a0.2.2.2.2.2.1)) fun x9=>some x9
 else some false)
 fun x10=>some x10
def F69S:Tr.Spec:= {args:=(.cons (.pd Zo1) (.cons (.pd ZgQ) .nil)),res:=(.cons (.pd Y4) .nil),fns:=[],α:=El Y4,f:=fun x=>F69 x.1 x.2.1,unp:=fun z=>(((),(),()),(z,())) }
theorem F69_ok:ZaF Tryz.prog 200 F69S:=Zaf (rws:=[]) (zxs:=[]) (nt:=59) (m:=[(230,[F71S]),(231,[F70S]),(233,[F1S]),(234,[F4S])]) (fn:=Tryz.f200) (hint:=(hS (hS (.seq (.seq (.reg [(35,Y4)]) .leaf) (hS (hS (.seq (hS (.lp ⟨[(6,(.var Zb6 (.pd Zb6))),(7,(.var Zb6 (.pd Zb6))),(39,(.pd Y3))],[(8,231,[6,7])],[2,37,38],[],[],[]⟩ [((.exit 0),⟨[(6,(.var Zb6 (.pd Zb6))),(7,(.var Zb6 (.pd Zb6)))],[],[2],[],[],[]⟩)] .leaf)) (.seq (.reg [(4,Y4)]) .leaf)))))))) (pack:=fun y=>y.2.1) ZaX tab_ok ⟨⟨F71_ok,trivial⟩,⟨F70_ok,trivial⟩,⟨F1_ok,trivial⟩,⟨F4_ok,trivial⟩,trivial⟩ fun x z h=> .trans (by kernel_rfl) h
def F18: (El Y3)->(El Y3)->(El Y3)->Option (El Y4):=fun a0 a1 a2=>
 Va
 (bif decide (a1<=a0) then some true
 else some (decide (Vc .u64 (Vc .u64 a1 - Vc .u64 a0)<=Vc .u64 a2)))
 fun x0=>some x0
def F18S:Tr.Spec:= {args:=(.cons (.pd Y3) (.cons (.pd Y3) (.cons (.pd Y3) .nil))),res:=(.cons (.pd Y4) .nil),fns:=[],α:=El Y4,f:=fun x=>F18 x.1 x.2.1 x.2.2.1,unp:=fun z=>(((),(),(),()),(z,())) }
theorem F18_ok:ZaF Tryz.prog 235 F18S:=Zaf (rws:=[]) (zxs:=[]) (nt:=20) (m:=[]) (fn:=Tryz.f235) (hint:=(hS (.seq (.reg [(6,Y4)]) .leaf))) (pack:=fun y=>y.2.1) ZaX tab_ok trivial fun x z h=> .trans (by kernel_rfl) h
def F16: (El Y29)->(El Zo1)->(El ZgQ)->(El Y3)->Option (El Y3):=fun a0 a1 a2 a3=>
 Va
 (bif decide ((0:Int)<a3) then
 Va (idx a2 (Vc .i64 (a3 - (1:Int)))) fun x0=>
 Va (idx a2 a3) fun x1=>Va (F18 x0.2.1 x1.1 a0.2.2.1) fun x2=>some x2
 else some false)
 fun x3=>bif x3 then some (Tr.imax (0:Int) (Vc .i64 (a1.2.1 - a0.2.1))) else some a1.2.1
def F16S:Tr.Spec:= {args:=(.cons (.pd Y29) (.cons (.pd Zo1) (.cons (.pd ZgQ) (.cons (.pd Y3) .nil)))),res:=(.cons (.pd Y3) .nil),fns:=[],α:=El Y3,f:=fun x=>F16 x.1 x.2.1 x.2.2.1 x.2.2.2.1,unp:=fun z=>(((),(),(),(),()),(z,())) }
theorem F16_ok:ZaF Tryz.prog 201 F16S:=Zaf (rws:=[]) (zxs:=[]) (nt:=35) (m:=[(235,[F18S])]) (fn:=Tryz.f201) (hint:=(hS (.seq (.seq (.reg [(26,Y4)]) .leaf) .leaf))) (pack:=fun y=>y.2.1) ZaX tab_ok ⟨⟨F18_ok,trivial⟩,trivial⟩ fun x z h=> .trans (by kernel_rfl) h
def F15: (El Zq2)->(El Y3)->(El Y3)->Option (El Y4):=fun a0 a1 a2=>
 Va
 (bif !a0.1 then some true
 else
 bif decide (a1<a0.2.1) then some true
 else bif decide (a1=a0.2.1) then some (decide (a2<a0.2.2.1)) else some false)
 fun x0=>some x0
def F15S:Tr.Spec:= {args:=(.cons (.pd Zq2) (.cons (.pd Y3) (.cons (.pd Y3) .nil))),res:=(.cons (.pd Y4) .nil),fns:=[],α:=El Y4,f:=fun x=>F15 x.1 x.2.1 x.2.2.1,unp:=fun z=>(((),(),(),()),(z,())) }
theorem F15_ok:ZaF Tryz.prog 202 F15S:=Zaf (rws:=[]) (zxs:=[]) (nt:=28) (m:=[]) (fn:=Tryz.f202) (hint:=(hS (.seq (.reg [(6,Y4)]) .leaf))) (pack:=fun y=>y.2.1) ZaX tab_ok trivial fun x z h=> .trans (by kernel_rfl) h
def F14: (El Y3)->(El Y3)->(El Y3)->(El Y29)->(El ZgQ)->(El ZfZ)->Option (El ZfZ):=fun a0 a1 a2 a3 a4 a5=>
 Va (idx a3.1 a2) fun x0=>
 Va (sliceB (Vb a4) (Vb a4) (some a0) (some (Vc .i64 (a1+(1:Int))))) fun x1=>
 Va (F69 x0 (Vh (x1.2 - x1.1) (Vi x1.1 a4))) fun x2=>
 bif !x2 then some a5
 else
 Va (idx a3.1 a2) fun x3=>
 Va (F16 a3 x3 a4 a0) fun x4=>
 Va (inb (Vc .i64 (a1+(1:Int))) (9:Nat)) fun x5=>
 Va a5[x5]? fun x6=>
 Va (inb (Vc .i64 (a1+(1:Int))) (9:Nat)) fun x7=>
 Va a5[x7]? fun x8=>
 Va (inb a0 (9:Nat)) fun x9=>
 Va a5[x9]? fun x10=>
 Va (F15 x10 (Vc .i64 (x4+x6.2.1)) (Vc .i64 (x8.2.2.1+(1:Int)))) fun x11=>
 bif x11 then
 Va (inb a0 (9:Nat)) fun x12=>
 Va a5[x12]? fun _=>
 some
 (Vd a5 x12
 (true,Vc .i64 (x4+x6.2.1),Vc .i64 (x8.2.2.1+(1:Int)),(a2,a0,a1,x4,()),()))
 else some a5
def F14S:Tr.Spec:= {args:=(.cons (.pd Y3) (.cons (.pd Y3) (.cons (.pd Y3) (.cons (.ro Y29) (.cons (.ro ZgQ) (.cons (.var ZfZ (.pd ZfZ)) .nil)))))),res:= .nil,fns:=[],α:=El ZfZ,f:=fun x=>F14 x.1 x.2.1 x.2.2.1 x.2.2.2.1 x.2.2.2.2.1 x.2.2.2.2.2.1,unp:=fun z=>(((),(),(),(),(),z,()),()) }
theorem F14_ok:ZaF Tryz.prog 199 F14S:=Zaf (rws:=[]) (zxs:=[]) (nt:=62) (m:=[(200,[F69S]),(201,[F16S]),(202,[F15S])]) (fn:=Tryz.f199) (hint:= .leaf) (pack:=fun y=>y.1.2.2.2.2.2.1) ZaX tab_ok ⟨⟨F69_ok,trivial⟩,⟨F16_ok,trivial⟩,⟨F15_ok,trivial⟩,trivial⟩ fun x z h=> .trans (by kernel_rfl) h
def F13: (El Y29)->(El ZgQ)->Option (El ZfZ):=fun a0 a1=>
 Va (inb (↑(Vb a1):Int) (9:Nat)) fun x0=>
 Va (Tr.zeroEl ZfZ)[x0]? fun x1=>
 Va
 (run
 (fun s2=>
 bif decide ((0:Int)<=s2.2) then
 Va
 (run
 (fun s3=>
 bif decide (s3.2< (↑(Vb a1):Int)) then
 Va
 (run
 (fun s4=>
 bif decide (s4.2< (↑(Vb a0.1):Int)) then
 Va (inb (Vc .i64 (s3.2+(1:Int))) (9:Nat)) fun x5=>
 Va s4.1[x5]? fun x6=>
 bif x6.1 then
 Va (F14 s2.2 s3.2 s4.2 a0 a1 s4.1) fun x7=>some (.inl (x7,Vc .i64 (s4.2+(1:Int))))
 else some (.inl (s4.1,Vc .i64 (s4.2+(1:Int))))
 else some (.inr s4.1))
 (s3.1,(0:Int)))
 fun x8=>some (.inl (x8,Vc .i64 (s3.2+(1:Int))))
 else some (.inr s3.1))
 (s2.1,s2.2))
 fun x9=>some (.inl (x9,Vc .i64 (s2.2 - (1:Int))))
 else some (.inr s2.1))
 (Vd (Tr.zeroEl ZfZ) x0 (true,x1.2),Vc .i64 ((↑(Vb a1):Int) - (1:Int))))
 fun x10=>some x10
def F13S:Tr.Spec:= {args:=(.cons (.pd Y29) (.cons (.pd ZgQ) .nil)),res:=(.cons (.pd ZfZ) .nil),fns:=[],α:=El ZfZ,f:=fun x=>F13 x.1 x.2.1,unp:=fun z=>(((),(),()),(z,())) }
theorem F13_ok:ZaF Tryz.prog 138 F13S:=Zaf (rws:=[]) (zxs:=[]) (nt:=47) (m:=[(199,[F14S])]) (fn:=Tryz.f138) (hint:=(hS (hS (hS (hS (hS (.seq (hS (.lp ⟨[(5,(.var ZfZ (.pd ZfZ))),(8,(.pd Y3))],[(7,199,[2,3,5])],[2,3,4,6],[],[],[]⟩ [((.exit 0),⟨[(5,(.var ZfZ (.pd ZfZ)))],[],[4],[],[],[]⟩)] (hS (.seq (hS (.lp ⟨[(5,(.var ZfZ (.pd ZfZ))),(9,(.pd Y3))],[(7,199,[2,3,5])],[2,3,4,6,8],[],[],[]⟩ [((.exit 2),⟨[(5,(.var ZfZ (.pd ZfZ)))],[(7,199,[2,3,5])],[2,3,4,6,8],[],[],[]⟩)] (hS (.seq (hS (.lp ⟨[(5,(.var ZfZ (.pd ZfZ))),(32,(.pd Y3))],[(7,199,[2,3,5])],[2,3,4,6,8,9,31],[],[],[]⟩ [((.exit 4),⟨[(5,(.var ZfZ (.pd ZfZ)))],[(7,199,[2,3,5])],[2,3,4,6,8,9],[],[],[]⟩)] .leaf)) .leaf)))) .leaf)))) .leaf))))))) (pack:=fun y=>y.2.1) ZaX tab_ok ⟨⟨F14_ok,trivial⟩,trivial⟩ fun x z h=> .trans (by kernel_rfl) h
def F12: (El Y29)->(El Y3)->Option (El Y3):=fun a0 a1=>
 Va (bif decide ((0:Int)<a0.2.2.2.1) then some (decide (a0.2.2.2.1<a1)) else some false) fun x0=>
 bif x0 then some a0.2.2.2.1 else some a1
def F12S:Tr.Spec:= {args:=(.cons (.pd Y29) (.cons (.pd Y3) .nil)),res:=(.cons (.pd Y3) .nil),fns:=[],α:=El Y3,f:=fun x=>F12 x.1 x.2.1,unp:=fun z=>(((),(),()),(z,())) }
theorem F12_ok:ZaF Tryz.prog 139 F12S:=Zaf (rws:=[]) (zxs:=[]) (nt:=17) (m:=[]) (fn:=Tryz.f139) (hint:=(hS (.seq (.seq (.reg [(13,Y4)]) .leaf) .leaf))) (pack:=fun y=>y.2.1) ZaX tab_ok trivial fun x z h=> .trans (by kernel_rfl) h
end
end Q
