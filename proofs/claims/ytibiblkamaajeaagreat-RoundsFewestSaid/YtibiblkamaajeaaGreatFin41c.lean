/- The functions of the program as functions of Lean, and that the program computes them; printed by a program of mine. Conditions: none. -/
import Derived.Test.YtibiblkamaajeaaGreatFin41b
open Tr Go Go.Proofs
open Go.IntKind renaming wrap ->Vc
open List renaming length ->Vb,set ->Vd
open Option renaming bind ->Va
namespace Q
noncomputable section
def F104: (El Y31)->(El Y3)->(El Y3)->Option (El Y41):=fun a0 a1 a2=>
 Va
 (run
 (fun s0=>
 bif decide (s0.2< (↑(Vb a0.2.2.2.2.1):Int)) then
 Va (idx a0.2.2.2.2.1 s0.2) fun x1=>
 bif decide (x1.1=a1) then
 Va
 (Zam
 (decide
 (Vb s0.1+
 Vb [(false,(0:Int),(0:Int),(0:Int),a1,x1.2.1,a2,Vc .i64 (a2+x1.2.2.1),false,())]<=
 Zan)))
 fun _=>
 some
 (.inl
 (s0.1++[(false,(0:Int),(0:Int),(0:Int),a1,x1.2.1,a2,Vc .i64 (a2+x1.2.2.1),false,())],
 Vc .i64 (s0.2+(1:Int))))
 else some (.inl (s0.1,Vc .i64 (s0.2+(1:Int))))
 else some (.inr s0.1))
 ([],(0:Int)))
 fun x3=>some x3
def F104S:Tr.Spec:= {args:=(.cons (.pd Y31) (.cons (.pd Y3) (.cons (.pd Y3) .nil))),res:=(.cons (.pd Y41) .nil),fns:=[],α:=El Y41,f:=fun x=>F104 x.1 x.2.1 x.2.2.1,unp:=fun z=>(((),(),(),()),(z,())) }
theorem F104_ok:ZaS Tryz.prog 47 F104S:=Zad (rws:=[43]) (zxs:=[]) (nt:=40) (m:=[]) (fn:=Tryz.f47) (hint:=(hS (hS (.seq (hS (.lp ⟨[(7,(.own Y66 false)),(8,(.pd Y3))],[],[1,2,3],[],[],[]⟩ [((.exit 0),⟨[(7,(.own Y66 false))],[],[],[],[],[]⟩)] .leaf)) .leaf)))) (pack:=fun y=>y.2.1) Za1 tab_ok trivial fun x z h=> .trans (by kernel_rfl) h
def F100: (El Y31)->(El Y3)->(El Y3)->Option (List (El Y66)):=fun a0 a1 a2=>
 Va
 (run
 (fun s0=>
 bif decide (s0.2< (↑(Vb a0.2.2.1):Int)) then
 Va (idx a0.2.2.1 s0.2) fun x1=>
 Va
 (run
 (fun s2=>
 bif decide (s2.2< (↑(Vb x1.2.2.2.2.2.2.2.1):Int)) then
 Va
 (Va (idx x1.2.2.2.2.2.2.2.1 s2.2) fun x3=>
 bif !decide (x3.1=a1) then some true
 else Va (idx x1.2.2.2.2.2.2.2.1 s2.2) fun x4=>some (decide (x4.2.2.1<a2)))
 fun x5=>
 bif x5 then some (.inl (s2.1,Vc .i64 (s2.2+(1:Int))))
 else
 Va
 (run
 (fun s6=>
 bif decide (s6.2< (↑(Vb x1.2.2.2.2.2.2.2.1):Int)) then
 Va (idx x1.2.2.2.2.2.2.2.1 s6.2) fun x7=>
 Va (idx x1.2.2.2.2.2.2.2.1 s2.2) fun x8=>
 Va (idx x1.2.2.2.2.2.2.2.1 s6.2) fun x9=>
 Va
 (Zam
 (decide
 (Vb s6.1+Vb [(true,s0.2,s2.2,s6.2,a1,x7.1,x8.2.2.1,x9.2.1,false,())]<=Zan)))
 fun _=>
 some
 (.inl
 (s6.1++[(true,s0.2,s2.2,s6.2,a1,x7.1,x8.2.2.1,x9.2.1,false,())],
 Vc .i64 (s6.2+(1:Int))))
 else some (.inr s6.1))
 (s2.1,Vc .i64 (s2.2+(1:Int))))
 fun x11=>some (.inl (x11,Vc .i64 (s2.2+(1:Int))))
 else some (.inr s2.1))
 (s0.1,(0:Int)))
 fun x12=>some (.inl (x12,Vc .i64 (s0.2+(1:Int))))
 else some (.inr s0.1))
 ([],(0:Int)))
 fun x13=>some x13
def F100S:Tr.Spec:= {args:=(.cons (.pd Y31) (.cons (.pd Y3) (.cons (.pd Y3) .nil))),res:=(.cons (.own Y66 false) .nil),fns:=[],α:=List (El Y66),f:=fun x=>F100 x.1 x.2.1 x.2.2.1,unp:=fun z=>(((),(),(),()),(z,())) }
theorem F100_ok:ZaS Tryz.prog 70 F100S:=Zad (rws:=[]) (zxs:=[]) (nt:=80) (m:=[]) (fn:=Tryz.f70) (hint:=(hS (hS (.seq (hS (.lp ⟨[(7,(.own Y66 false)),(8,(.pd Y3))],[],[1,2,3],[],[],[]⟩ [((.exit 0),⟨[(7,(.own Y66 false))],[],[],[],[],[]⟩)] (hS (.seq (hS (hS (.lp ⟨[(7,(.own Y66 false)),(10,(.pd Y3))],[],[1,2,3,8,9],[],[],[]⟩ [((.exit 2),⟨[(7,(.own Y66 false))],[],[1,2,3,8],[],[],[]⟩)] (hS (.seq (.seq (.seq (.reg [(47,Y4)]) .leaf) (hS (.lp ⟨[(7,(.own Y66 false)),(11,(.pd Y3))],[],[1,2,3,8,9,10],[],[],[]⟩ [((.exit 4),⟨[(7,(.own Y66 false))],[],[1,2,3,8,9,10],[],[],[]⟩)] .leaf))) .leaf))))) .leaf)))) .leaf)))) (pack:=fun y=>y.2.1) Za1 tab_ok trivial fun x z h=> .trans (by kernel_rfl) h
def F102: (El Y31)->(El Y33)->Option (El Y50):=fun a0 a1=>
 Va (bif a1.2.2.2.1 then some (0:Int) else some a1.2.2.1) fun x0=>
 Va (F100 a0 a1.1 x0) fun x1=>
 Va
 (run
 (fun s2=>
 bif decide (s2.2.2< (↑(Vb s2.2.1):Int)) then
 Va (inb s2.2.2 (Vb s2.2.1)) fun x3=>
 Va s2.2.1[x3]? fun x4=>
 Va (Zam (decide (Vb s2.1+Vb [([x4],())]<=Zan))) fun _=>
 some (.inl (s2.1++[([x4],())],s2.2.1,Vc .i64 (s2.2.2+(1:Int))))
 else some (.inr s2.1))
 ([],x1,(0:Int)))
 fun x6=>
 Va (F104 a0 a1.1 (0:Int)) fun x7=>
 Va
 (run
 (fun s8=>
 bif decide (s8.2< (↑(Vb x7):Int)) then
 Va (idx x7 s8.2) fun x9=>
 Va (F100 a0 x9.2.2.2.2.2.1 x0) fun x10=>
 Va
 (run
 (fun s11=>
 bif decide (s11.2.2< (↑(Vb s11.2.1):Int)) then
 Va (idx x7 s8.2) fun x12=>
 Va (inb s11.2.2 (Vb s11.2.1)) fun x13=>
 Va s11.2.1[x13]? fun x14=>
 Va (idx x7 s8.2) fun x15=>
 Va (inb s11.2.2 (Vb s11.2.1)) fun x16=>
 Va s11.2.1[x16]? fun x17=>
 Va (inb s11.2.2 (Vb s11.2.1)) fun x18=>
 Va s11.2.1[x18]? fun x19=>
 Va
 (Zam
 (decide
 (Vb s11.1+
 Vb
 [([(x12.1,x12.2.1,x12.2.2.1,x12.2.2.2.1,x12.2.2.2.2.1,x12.2.2.2.2.2.1,
 Vc .i64 (x14.2.2.2.2.2.2.1 - x15.2.2.2.2.2.2.2.1),
 x17.2.2.2.2.2.2.1,x12.2.2.2.2.2.2.2.2),
 x19],
 ())]<=
 Zan)))
 fun _=>
 some
 (.inl
 (s11.1++
 [([(x12.1,x12.2.1,x12.2.2.1,x12.2.2.2.1,x12.2.2.2.2.1,x12.2.2.2.2.2.1,
 Vc .i64 (x14.2.2.2.2.2.2.1 - x15.2.2.2.2.2.2.2.1),x17.2.2.2.2.2.2.1,
 x12.2.2.2.2.2.2.2.2),
 x19],
 ())],
 s11.2.1,Vc .i64 (s11.2.2+(1:Int))))
 else some (.inr s11.1))
 (s8.1,x10,(0:Int)))
 fun x21=>some (.inl (x21,Vc .i64 (s8.2+(1:Int))))
 else some (.inr s8.1))
 (x6,(0:Int)))
 fun x22=>some x22
def F102S:Tr.Spec:= {args:=(.cons (.pd Y31) (.cons (.pd Y33) .nil)),res:=(.cons (.pd Y50) .nil),fns:=[],α:=El Y50,f:=fun x=>F102 x.1 x.2.1,unp:=fun z=>(((),(),()),(z,())) }
theorem F102_ok:ZaS Tryz.prog 48 F102S:=Zad (rws:=[43]) (zxs:=[]) (nt:=95) (m:=[(47,[F104S]),(70,[F100S])]) (fn:=Tryz.f48) (hint:=(hS (hS (hS (.seq (hS (.cnd (some (⟨[],[],[2,3,5],[],[],[]⟩,[(.normal,⟨[(6,(.pd Y3))],[],[2,3,5],[],[],[]⟩)])) .leaf .leaf)) (hS (.seq (hS (.lp ⟨[(5,(.own Y43 false)),(7,(.own Y66 false)),(8,(.pd Y3))],[],[2,3,6],[],[],[]⟩ [((.exit 0),⟨[(5,(.own Y43 false))],[],[2,3,6],[],[],[]⟩)] .leaf)) (hS (.seq (hS (.lp ⟨[(5,(.own Y43 false)),(10,(.pd Y3))],[],[2,6,9],[],[],[]⟩ [((.exit 2),⟨[(5,(.own Y43 false))],[],[],[],[],[]⟩)] (hS (.seq (hS (hS (.lp ⟨[(5,(.own Y43 false)),(7,(.own Y66 false)),(11,(.pd Y3))],[],[2,6,9,10],[],[],[]⟩ [((.exit 4),⟨[(5,(.own Y43 false))],[],[2,6,9,10],[],[],[]⟩)] .leaf))) .leaf)))) .leaf))))))))) (pack:=fun y=>y.2.1) Za1 tab_ok ⟨⟨F104_ok,trivial⟩,⟨F100_ok,trivial⟩,trivial⟩ fun x z h=> .trans (by kernel_rfl) h
def F101: (El Y43)->Option (El Y3):=fun a0=>
 Va
 (run
 (fun s0=>
 bif decide (s0.2< (↑(Vb a0.1):Int)) then
 Va
 (Va (idx a0.1 s0.2) fun x1=>bif x1.1 then Va (idx a0.1 s0.2) fun x2=>some !x2.2.2.2.2.2.2.2.2.1 else some false)
 fun x3=>
 bif x3 then some (.inl (Vc .i64 (s0.1+(1:Int)),Vc .i64 (s0.2+(1:Int))))
 else some (.inl (s0.1,Vc .i64 (s0.2+(1:Int))))
 else some (.inr s0.1))
 ((0:Int),(0:Int)))
 fun x4=>some x4
def F101S:Tr.Spec:= {args:=(.cons (.pd Y43) .nil),res:=(.cons (.pd Y3) .nil),fns:=[],α:=El Y3,f:=fun x=>F101 x.1,unp:=fun z=>(((),()),(z,())) }
theorem F101_ok:ZaS Tryz.prog 71 F101S:=Zad (rws:=[43]) (zxs:=[]) (nt:=30) (m:=[]) (fn:=Tryz.f71) (hint:=(hS (hS (.seq (hS (.lp ⟨[(3,(.pd Y3)),(4,(.pd Y3))],[],[1],[],[],[]⟩ [((.exit 0),⟨[(3,(.pd Y3))],[],[],[],[],[]⟩)] (hS (.seq (.seq (.reg [(26,Y4)]) .leaf) .leaf)))) .leaf)))) (pack:=fun y=>y.2.1) Za1 tab_ok trivial fun x z h=> .trans (by kernel_rfl) h
def F95: (El Y31)->(El Y33)->(El Y43)->Option (El Y4):=fun a0 a1 a2=>
 Va
 (run
 (fun s0=>
 bif decide (s0< (↑(Vb a2.1):Int)) then
 Va (F90 a0 a1 a2 s0) fun x1=>
 Va
 (bif !decide (x1=(0:Int)) then
 bif decide (Vc .i64 (s0+(1:Int))< (↑(Vb a2.1):Int)) then some true
 else bif !decide (x1=(26:Int)) then some !decide (x1=(29:Int)) else some false
 else some false)
 fun x2=>bif x2 then some (.inr (.inr false)) else some (.inl (Vc .i64 (s0+(1:Int))))
 else some (.inr (.inl ())))
 (0:Int))
 fun x3=>
 Sum.elim
 (fun _=>
 Va
 (Va (F101 a2) fun x5=>
 bif decide (x5<=a1.2.2.2.2.1) then
 Va (F79 a2) fun x6=>
 bif decide (x6<=a1.2.2.2.2.2.1) then
 bif !a1.2.2.2.1 then some true
 else
 Va (idx a2.1 (Vc .i64 ((↑(Vb a2.1):Int) - (1:Int)))) fun x7=>
 some (decide (x7.2.2.2.2.2.2.2.1<=a1.2.2.1))
 else some false
 else some false)
 fun x8=>some x8)
 (fun y9=>some y9) x3
def F95S:Tr.Spec:= {args:=(.cons (.pd Y31) (.cons (.pd Y33) (.cons (.pd Y43) .nil))),res:=(.cons (.pd Y4) .nil),fns:=[],α:=El Y4,f:=fun x=>F95 x.1 x.2.1 x.2.2.1,unp:=fun z=>(((),(),(),()),(z,())) }
theorem F95_ok:ZaS Tryz.prog 49 F95S:=Zad (rws:=[43]) (zxs:=[]) (nt:=70) (m:=[(35,[F79S]),(51,[F90S]),(71,[F101S])]) (fn:=Tryz.f49) (hint:=(hS (.seq (hS (.lp ⟨[(7,(.pd Y3))],[],[3,4,5],[],[],[]⟩ [((.exit 0),⟨[],[],[4,5],[],[],[]⟩),(.ret,⟨[(6,(.pd Y4))],[],[],[],[],[]⟩)] (hS (.seq (hS (.seq (.reg [(38,Y4)]) .leaf)) .leaf)))) (.seq (.reg [(6,Y4)]) .leaf)))) (pack:=fun y=>y.2.1) Za1 tab_ok ⟨⟨F79_ok,trivial⟩,⟨F90_ok,trivial⟩,⟨F101_ok,trivial⟩,trivial⟩ fun x z h=> .trans (by kernel_rfl) h
def F105: (El Y43)->(El Y66)->Option (El Y43):=fun a0 a1=>
 Va (Zam (decide (Vb ([]:List Unit)+Vb a0.1<=Zan))) fun _=>
 Va (Zam (decide (Vb ([]++a0.1)+Vb [a1]<=Zan))) fun _=>some ([]++a0.1++[a1],())
def F105S:Tr.Spec:= {args:=(.cons (.pd Y43) (.cons (.pd Y66) .nil)),res:=(.cons (.pd Y43) .nil),fns:=[],α:=El Y43,f:=fun x=>F105 x.1 x.2.1,unp:=fun z=>(((),(),()),(z,())) }
theorem F105_ok:ZaS Tryz.prog 72 F105S:=Zad (rws:=[43]) (zxs:=[]) (nt:=17) (m:=[]) (fn:=Tryz.f72) (hint:= .leaf) (pack:=fun y=>y.2.1) Za1 tab_ok trivial fun x z h=> .trans (by kernel_rfl) h
def F89: (El Y43)->(El Y66)->Option (El Y4):=fun a0 a1=>
 Va
 (run
 (fun s0=>
 Va (bif decide ((0:Int)<=s0) then some a1.2.2.2.2.2.2.2.2.1 else some false) fun x1=>
 bif x1 then
 Va (idx a0.1 s0) fun x2=>
 bif decide (x2.2.1=a1.2.1) then some (.inr (.inr true))
 else
 Va (idx a0.1 s0) fun x3=>
 bif !x3.2.2.2.2.2.2.2.2.1 then some (.inr (.inr false)) else some (.inl (Vc .i64 (s0 - (1:Int))))
 else some (.inr (.inl ())))
 (Vc .i64 ((↑(Vb a0.1):Int) - (1:Int))))
 fun x4=>Sum.elim (fun _=>some false) (fun y6=>some y6) x4
def F89S:Tr.Spec:= {args:=(.cons (.pd Y43) (.cons (.pd Y66) .nil)),res:=(.cons (.pd Y4) .nil),fns:=[],α:=El Y4,f:=fun x=>F89 x.1 x.2.1,unp:=fun z=>(((),(),()),(z,())) }
theorem F89_ok:ZaS Tryz.prog 73 F89S:=Zad (rws:=[43]) (zxs:=[]) (nt:=34) (m:=[]) (fn:=Tryz.f73) (hint:=(hS (.seq (hS (.lp ⟨[(5,(.pd Y3))],[],[2,3],[],[],[]⟩ [((.exit 0),⟨[],[],[],[],[],[]⟩),(.ret,⟨[(4,(.pd Y4))],[],[],[],[],[]⟩)] (.seq (.seq (.reg [(15,Y4)]) .leaf) .leaf))) .leaf))) (pack:=fun y=>y.2.1) Za1 tab_ok trivial fun x z h=> .trans (by kernel_rfl) h
def F92: (El Y31)->(El Y33)->(El Y43)->Option (El Y50):=fun a0 a1 a2=>
 Va (idx a2.1 (Vc .i64 ((↑(Vb a2.1):Int) - (1:Int)))) fun x0=>
 Va (F100 a0 x0.2.2.2.2.2.1 x0.2.2.2.2.2.2.2.1) fun x1=>
 Va
 (bif x0.1 then
 Va (F104 a0 x0.2.2.2.2.2.1 x0.2.2.2.2.2.2.2.1) fun x2=>
 Va (Zam (decide (Vb x1+Vb x2<=Zan))) fun _=>some ([],x1++x2)
 else some ([],x1))
 fun x4=>
 Va
 (run
 (fun s5=>
 bif decide (s5.2.2< (↑(Vb s5.2.1):Int)) then
 Va (inb s5.2.2 (Vb s5.2.1)) fun x6=>
 Va s5.2.1[x6]? fun x7=>
 Va (F105 a2 x7) fun x8=>
 Va
 (Va (F90 a0 a1 x8 (Vc .i64 ((↑(Vb a2.1):Int) - (1:Int)))) fun x9=>
 bif decide (x9=(0:Int)) then Va (F90 a0 a1 x8 (↑(Vb a2.1):Int)) fun x10=>some !decide (x10=(28:Int))
 else some false)
 fun x11=>
 Va
 (bif x11 then Va (Zam (decide (Vb s5.1+Vb [x8]<=Zan))) fun _=>some (s5.1++[x8],s5.2.1)
 else some (s5.1,s5.2.1))
 fun x13=>
 Va
 (Va (inb s5.2.2 (Vb x13.2)) fun x14=>
 Va x13.2[x14]? fun x15=>
 bif x15.1 then
 Va (inb s5.2.2 (Vb x13.2)) fun x16=>
 Va x13.2[x16]? fun x17=>bif decide (x17.2.2.1=(0:Int)) then some x0.1 else some false
 else some false)
 fun x18=>
 bif x18 then
 Va (inb s5.2.2 (Vb x13.2)) fun x19=>
 Va x13.2[x19]? fun x20=>
 Va
 (inb s5.2.2
 (Vb
 (Vd x13.2 x19
 (x20.1,x20.2.1,x20.2.2.1,x20.2.2.2.1,x20.2.2.2.2.1,x20.2.2.2.2.2.1,x20.2.2.2.2.2.2.1,
 x20.2.2.2.2.2.2.2.1,true,x20.2.2.2.2.2.2.2.2.2))))
 fun x21=>
 Va
 (Vd x13.2 x19
 (x20.1,x20.2.1,x20.2.2.1,x20.2.2.2.1,x20.2.2.2.2.1,x20.2.2.2.2.2.1,x20.2.2.2.2.2.2.1,
 x20.2.2.2.2.2.2.2.1,true,x20.2.2.2.2.2.2.2.2.2))[x21]?
 fun x22=>
 Va (F105 a2 x22) fun x23=>
 Va
 (Va
 (inb s5.2.2
 (Vb
 (Vd x13.2 x19
 (x20.1,x20.2.1,x20.2.2.1,x20.2.2.2.1,x20.2.2.2.2.1,x20.2.2.2.2.2.1,x20.2.2.2.2.2.2.1,
 x20.2.2.2.2.2.2.2.1,true,x20.2.2.2.2.2.2.2.2.2))))
 fun x24=>
 Va
 (Vd x13.2 x19
 (x20.1,x20.2.1,x20.2.2.1,x20.2.2.2.1,x20.2.2.2.2.1,x20.2.2.2.2.2.1,x20.2.2.2.2.2.2.1,
 x20.2.2.2.2.2.2.2.1,true,x20.2.2.2.2.2.2.2.2.2))[x24]?
 fun x25=>
 Va (F89 a2 x25) fun x26=>
 bif !x26 then
 Va
 (inb s5.2.2
 (Vb
 (Vd x13.2 x19
 (x20.1,x20.2.1,x20.2.2.1,x20.2.2.2.1,x20.2.2.2.2.1,x20.2.2.2.2.2.1,
 x20.2.2.2.2.2.2.1,x20.2.2.2.2.2.2.2.1,true,x20.2.2.2.2.2.2.2.2.2))))
 fun x27=>
 Va
 (Vd x13.2 x19
 (x20.1,x20.2.1,x20.2.2.1,x20.2.2.2.1,x20.2.2.2.2.1,x20.2.2.2.2.2.1,
 x20.2.2.2.2.2.2.1,x20.2.2.2.2.2.2.2.1,true,x20.2.2.2.2.2.2.2.2.2))[x27]?
 fun x28=>Va (F94 a0 x0 x28) fun x29=>some (decide (x29=(0:Int)))
 else some false)
 fun x30=>
 bif x30 then
 Va (Zam (decide (Vb x13.1+Vb [x23]<=Zan))) fun _=>
 some
 (.inl
 (x13.1++[x23],
 Vd x13.2 x19
 (x20.1,x20.2.1,x20.2.2.1,x20.2.2.2.1,x20.2.2.2.2.1,x20.2.2.2.2.2.1,
 x20.2.2.2.2.2.2.1,x20.2.2.2.2.2.2.2.1,true,x20.2.2.2.2.2.2.2.2.2),
 Vc .i64 (s5.2.2+(1:Int))))
 else
 some
 (.inl
 (x13.1,
 Vd x13.2 x19
 (x20.1,x20.2.1,x20.2.2.1,x20.2.2.2.1,x20.2.2.2.2.1,x20.2.2.2.2.2.1,x20.2.2.2.2.2.2.1,
 x20.2.2.2.2.2.2.2.1,true,x20.2.2.2.2.2.2.2.2.2),
 Vc .i64 (s5.2.2+(1:Int))))
 else some (.inl (x13.1,x13.2,Vc .i64 (s5.2.2+(1:Int))))
 else some (.inr s5.1))
 (x4.1,x4.2,(0:Int)))
 fun x32=>some x32
def F92S:Tr.Spec:= {args:=(.cons (.pd Y31) (.cons (.pd Y33) (.cons (.pd Y43) .nil))),res:=(.cons (.pd Y50) .nil),fns:=[],α:=El Y50,f:=fun x=>F92 x.1 x.2.1 x.2.2.1,unp:=fun z=>(((),(),(),()),(z,())) }
theorem F92_ok:ZaS Tryz.prog 50 F92S:=Zad (rws:=[43]) (zxs:=[]) (nt:=121) (m:=[(47,[F104S]),(51,[F90S]),(70,[F100S]),(72,[F105S]),(73,[F89S]),(74,[F94S])]) (fn:=Tryz.f50) (hint:=(hS (hS (hS (hS (.seq (hS (.cnd (some (⟨[],[],[3,4,5,8],[],[],[]⟩,[(.normal,⟨[(7,(.own Y43 false)),(9,(.own Y66 false))],[],[3,4,5,8],[],[],[]⟩)])) .leaf .leaf)) (.seq (hS (.lp ⟨[(7,(.own Y43 false)),(9,(.own Y66 false)),(10,(.pd Y3))],[],[3,4,5,8],[],[],[]⟩ [((.exit 0),⟨[(7,(.own Y43 false))],[],[],[],[],[]⟩)] (hS (.seq (hS (.seq (.seq (.reg [(67,Y4)]) (.cnd (some (⟨[],[],[3,4,5,8,10,11],[],[],[]⟩,[(.normal,⟨[(7,(.own Y43 false)),(9,(.own Y66 false))],[],[3,4,5,8,10,11],[],[],[]⟩)])) .leaf .leaf)) (.seq (.reg [(88,Y4)]) (.cnd none (hS (hS (.seq (.reg [(115,Y4)]) .leaf))) .leaf)))) .leaf)))) .leaf))))))) (pack:=fun y=>y.2.1) Za1 tab_ok ⟨⟨F104_ok,trivial⟩,⟨F90_ok,trivial⟩,⟨F100_ok,trivial⟩,⟨F105_ok,trivial⟩,⟨F89_ok,trivial⟩,⟨F94_ok,trivial⟩,trivial⟩ fun x z h=> .trans (by kernel_rfl) h
def F83: (El Y31)->(El Y33)->Option (El Y50):=fun a0 a1=>
 Va (bif decide (a1.1=a1.2.1) then some ([]++[(([]:List (El Y66)),())]) else some []) fun x0=>
 Va (F104 a0 a1.1 a1.2.2.1) fun x1=>
 Va
 (run
 (fun s2=>
 bif decide (s2.2< (↑(Vb x1):Int)) then
 Va (idx x1 s2.2) fun x3=>
 Va
 (bif a1.2.2.2.1 then
 some
 (x3.1,x3.2.1,x3.2.2.1,x3.2.2.2.1,x3.2.2.2.2.1,x3.2.2.2.2.2.1,
 Vc .i64 (a1.2.2.1 - Vc .i64 (x3.2.2.2.2.2.2.2.1 - x3.2.2.2.2.2.2.1)),a1.2.2.1,
 x3.2.2.2.2.2.2.2.2)
 else some x3)
 fun x4=>
 Va (F86 a0 a1 ([x4],())) fun x5=>
 bif x5 then
 Va (Zam (decide (Vb s2.1+Vb [([x4],())]<=Zan))) fun _=>
 some (.inl (s2.1++[([x4],())],Vc .i64 (s2.2+(1:Int))))
 else some (.inl (s2.1,Vc .i64 (s2.2+(1:Int))))
 else some (.inr s2.1))
 (x0,(0:Int)))
 fun x7=>
 Va (F102 a0 a1) fun x8=>
 Va
 (run
 (fun s9=>
 bif decide ((0:Int)< (↑(Vb s9.2):Int)) then
 Va
 (run
 (fun s10=>
 bif decide (s10.2.2< (↑(Vb s9.2):Int)) then
 Va (idx s9.2 s10.2.2) fun x11=>
 Va (F95 a0 a1 x11) fun x12=>
 bif !x12 then some (.inl (s10.1,s10.2.1,Vc .i64 (s10.2.2+(1:Int))))
 else
 Va (idx s9.2 s10.2.2) fun x13=>
 Va (F86 a0 a1 x13) fun x14=>
 Va
 (bif x14 then
 Va (idx s9.2 s10.2.2) fun x15=>
 Va (Zam (decide (Vb s10.1+Vb [x15]<=Zan))) fun _=>some (s10.1++[x15],s10.2.1)
 else some (s10.1,s10.2.1))
 fun x17=>
 Va (idx s9.2 s10.2.2) fun x18=>
 Va (F92 a0 a1 x18) fun x19=>
 Va (Zam (decide (Vb x17.2+Vb x19<=Zan))) fun _=>
 some (.inl (x17.1,x17.2++x19,Vc .i64 (s10.2.2+(1:Int))))
 else some (.inr (s10.1,s10.2.1)))
 (s9.1,[],(0:Int)))
 fun x21=>some (.inl (x21.1,x21.2))
 else some (.inr s9.1))
 (x7,x8))
 fun x22=>some x22
def F83S:Tr.Spec:= {args:=(.cons (.pd Y31) (.cons (.pd Y33) .nil)),res:=(.cons (.pd Y50) .nil),fns:=[],α:=El Y50,f:=fun x=>F83 x.1 x.2.1,unp:=fun z=>(((),(),()),(z,())) }
theorem F83_ok:ZaS Tryz.prog 33 F83S:=Zad (rws:=[43]) (zxs:=[]) (nt:=110) (m:=[(25,[F86S]),(47,[F104S]),(48,[F102S]),(49,[F95S]),(50,[F92S])]) (fn:=Tryz.f33) (hint:=(hS (hS (.seq (hS (.cnd (some (⟨[],[],[2,3],[],[],[]⟩,[(.normal,⟨[(5,(.own Y43 false))],[],[2,3],[],[],[]⟩)])) .leaf .leaf)) (hS (.seq (hS (.lp ⟨[(5,(.own Y43 false)),(7,(.pd Y3))],[],[2,3,6],[],[],[]⟩ [((.exit 0),⟨[(5,(.own Y43 false))],[],[2,3],[],[],[]⟩)] (hS (.seq (hS (.seq (hS (.cnd (some (⟨[],[],[2,3,5,6,7],[],[],[]⟩,[(.normal,⟨[(8,(.var Y66 (.pd Y66)))],[],[2,3,5,6,7],[],[],[]⟩)])) .leaf .leaf)) .leaf)) .leaf)))) (hS (.seq (.lp ⟨[(5,(.own Y43 false)),(10,(.pd Y50))],[],[2,3],[],[],[]⟩ [((.exit 2),⟨[(5,(.own Y43 false))],[],[],[],[],[]⟩)] (hS (hS (.seq (hS (.lp ⟨[(5,(.own Y43 false)),(11,(.own Y43 false)),(12,(.pd Y3))],[],[2,3,10],[],[],[]⟩ [((.exit 4),⟨[(5,(.own Y43 false)),(11,(.own Y43 false))],[],[2,3],[],[],[]⟩)] (hS (.seq (hS (.seq (hS (.cnd (some (⟨[],[],[2,3,10,12],[],[],[]⟩,[(.normal,⟨[(5,(.own Y43 false)),(11,(.own Y43 false))],[],[2,3,10,12],[],[],[]⟩)])) .leaf .leaf)) .leaf)) .leaf)))) .leaf)))) .leaf)))))))) (pack:=fun y=>y.2.1) Za1 tab_ok ⟨⟨F86_ok,trivial⟩,⟨F104_ok,trivial⟩,⟨F102_ok,trivial⟩,⟨F95_ok,trivial⟩,⟨F92_ok,trivial⟩,trivial⟩ fun x z h=> .trans (by kernel_rfl) h
def F110: (El Y31)->Option (El Y31):=fun a0=>
 some
 (a0.1,a0.2.1,a0.2.2.1,a0.2.2.2.1,a0.2.2.2.2.1,
 ([([(102:UInt8),(114:UInt8),(101:UInt8),(101:UInt8)],(0:Int),(1:Int),(16:Int),(0:Int),(255:Int),())],(0:Int),(0:Int),(0:Int),()),())
def F110S:Tr.Spec:= {args:=(.cons (.pd Y31) .nil),res:=(.cons (.pd Y31) .nil),fns:=[],α:=El Y31,f:=fun x=>F110 x.1,unp:=fun z=>(((),()),(z,())) }
theorem F110_ok:ZaS Tryz.prog 34 F110S:=Zad (rws:=[]) (zxs:=[]) (nt:=8) (m:=[]) (fn:=Tryz.f34) (hint:= .leaf) (pack:=fun y=>y.2.1) Za1 tab_ok trivial fun x z h=> .trans (by kernel_rfl) h
def F108: (El Y31)->(El Y33)->(El Y3)->Option (El Y50):=fun a0 a1 a2=>
 Va (F110 a0) fun x0=>
 Va (F83 x0 (a1.1,a2,a1.2.2.1,a1.2.2.2.1,a1.2.2.2.2.1,(86400:Int),a1.2.2.2.2.2.2)) fun x1=>some x1
def F108S:Tr.Spec:= {args:=(.cons (.pd Y31) (.cons (.pd Y33) (.cons (.pd Y3) .nil))),res:=(.cons (.pd Y50) .nil),fns:=[],α:=El Y50,f:=fun x=>F108 x.1 x.2.1 x.2.2.1,unp:=fun z=>(((),(),(),()),(z,())) }
theorem F108_ok:ZaS Tryz.prog 18 F108S:=Zad (rws:=[]) (zxs:=[]) (nt:=14) (m:=[(33,[F83S]),(34,[F110S])]) (fn:=Tryz.f18) (hint:= .leaf) (pack:=fun y=>y.2.1) Za1 tab_ok ⟨⟨F83_ok,trivial⟩,⟨F110_ok,trivial⟩,trivial⟩ fun x z h=> .trans (by kernel_rfl) h
def F107: (El Y33)->(El Y50)->(El Y3)->Option (El Y3):=fun a0 a1 a2=>
 Va
 (run
 (fun s0=>
 bif decide (s0.2< (↑(Vb a1):Int)) then
 Va
 (Va (idx a1 s0.2) fun x1=>
 Va (F106 a0 x1) fun x2=>
 bif decide (x2<=a2) then
 bif decide (s0.1< (0:Int)) then some true
 else Va (idx a1 s0.2) fun x3=>Va (F109 x3) fun x4=>some (decide (x4<s0.1))
 else some false)
 fun x5=>
 bif x5 then Va (idx a1 s0.2) fun x6=>Va (F109 x6) fun x7=>some (.inl (x7,Vc .i64 (s0.2+(1:Int))))
 else some (.inl (s0.1,Vc .i64 (s0.2+(1:Int))))
 else some (.inr s0.1))
 ((-1:Int),(0:Int)))
 fun x8=>some x8
def F107S:Tr.Spec:= {args:=(.cons (.pd Y33) (.cons (.pd Y50) (.cons (.pd Y3) .nil))),res:=(.cons (.pd Y3) .nil),fns:=[],α:=El Y3,f:=fun x=>F107 x.1 x.2.1 x.2.2.1,unp:=fun z=>(((),(),(),()),(z,())) }
theorem F107_ok:ZaS Tryz.prog 23 F107S:=Zad (rws:=[]) (zxs:=[]) (nt:=42) (m:=[(21,[F106S]),(22,[F109S])]) (fn:=Tryz.f23) (hint:=(hS (hS (.seq (hS (.lp ⟨[(7,(.pd Y3)),(8,(.pd Y3))],[],[1,2,3],[],[],[]⟩ [((.exit 0),⟨[(7,(.pd Y3))],[],[],[],[],[]⟩)] (hS (.seq (.seq (.reg [(35,Y4)]) .leaf) .leaf)))) .leaf)))) (pack:=fun y=>y.2.1) Za1 tab_ok ⟨⟨F106_ok,trivial⟩,⟨F109_ok,trivial⟩,trivial⟩ fun x z h=> .trans (by kernel_rfl) h
def F26: (El Y31)->(El Y33)->(El Y3)->Option (El Y4):=fun a0 a1 a2=>
 Va (F31 a0 a1) fun x0=>
 bif !x0 then Va F29 fun x1=>some x1
 else
 Va (F113 a0 a1 a2) fun x2=>
 Va (F108 a0 a1 a1.2.1) fun x3=>
 Va (F107 a1 x3 a2) fun x4=>
 bif decide (x4< (0:Int)) then
 Va
 (bif decide (x2.1=(0:Int)) then bif !x2.2 then Va F29 fun x5=>some x5 else some false else some false)
 fun x6=>some x6
 else
 Va (bif decide (x2.1=x4) then bif x2.2 then Va F29 fun x7=>some x7 else some false else some false)
 fun x8=>some x8
abbrev F26A:Zbn:=(.cons (.pd Y31) (.cons (.pd Y33) (.cons (.pd Y3) .nil)))
def F26S:Tr.Spec:= {args:=F26A,res:=(.cons (.pd Y4) .nil),fns:=[],α:=El Y4,f:=fun x=>F26 x.1 x.2.1 x.2.2.1,unp:=fun z=>(((),(),(),()),(z,())) }
theorem F26_ok:ZaS Tryz.prog 6 F26S:=Zad (rws:=[]) (zxs:=[]) (nt:=50) (m:=[(12,[F29S]),(16,[F113S]),(17,[F31S]),(18,[F108S]),(23,[F107S])]) (fn:=Tryz.f6) (hint:=(hS (hS (hS (hS (.seq (hS (.cnd none (.seq (.reg [(6,Y4)]) .leaf) .leaf)) (.seq (.reg [(6,Y4)]) .leaf))))))) (pack:=fun y=>y.2.1) Za1 tab_ok ⟨⟨F29_ok,trivial⟩,⟨F113_ok,trivial⟩,⟨F31_ok,trivial⟩,⟨F108_ok,trivial⟩,⟨F107_ok,trivial⟩,trivial⟩ fun x z h=> .trans (by kernel_rfl) h
end
end Q
