/- The functions of the program as functions of Lean, and that the program computes them; printed by a program of mine. Conditions: none. -/
import Derived.Test.YtdpenljjnfmgiaaGreatFin45a
open Tr Go Go.Proofs
open Int renaming toNat ->Vd
open Go.IntKind renaming wrap ->Vb
open List renaming length ->Vc,take ->Ve,drop ->Vf
open Option renaming bind ->Va
open Sum renaming elim ->Vg
namespace Q
noncomputable section
def F11: (El Y29)->(El ZfE)->Option (El Y3×El Y51×El Y35):=fun a0 a1=>
 Va (F17 a0 a1) fun x0=>
 bif !decide (x0=(0:Int)) then some ((0:Int),[],x0)
 else
 Va (F13 a0 a1) fun x1=>
 Va x1[Vd (0:Int)]? fun x2=>
 bif !x2.1 then some ((0:Int),[],(34:Int))
 else
 Va
 (run
 (fun s3=>
 bif decide (s3.2< (↑(Vc a1):Int)) then
 Va (inb s3.2 (9:Nat)) fun x4=>
 Va x1[x4]? fun x5=>
 Va (Zar (decide (Vc s3.1+Vc [x5.2.2.2.1]<=Zaz))) fun _=>
 Va (inb s3.2 (9:Nat)) fun x7=>
 Va x1[x7]? fun x8=>some (.inl (s3.1++[x5.2.2.2.1],Vb .i64 (x8.2.2.2.1.2.2.1+(1:Int))))
 else some (.inr s3.1))
 ([],(0:Int)))
 fun x9=>Va x1[Vd (0:Int)]? fun x10=>Va (F12 a0 x10.2.1) fun x11=>some (x11,x9,(0:Int))
def F11S:Tr.Spec:= {args:=(.cons (.pd Y29) (.cons (.pd ZfE) .nil)),res:=(.cons (.pd Y3) (.cons (.pd Y51) (.cons (.pd Y35) .nil))),fns:=[],α:=El Y3×El Y51×El Y35,f:=fun x=>F11 x.1 x.2.1,unp:=fun z=>(((),(),()),(z.1,z.2.1,z.2.2,())) }
theorem F11_ok:ZaC Tryz.prog 83 F11S:=Zag (rws:=[]) (zxs:=[]) (nt:=47) (m:=[(137,[F17S]),(138,[F13S]),(139,[F12S])]) (fn:=Tryz.f83) (hint:=(hS (hS (hS (hS (hS (.seq (hS (.lp ⟨[(9,(.own ZjE false)),(10,(.pd Y3))],[],[1,2,8],[],[],[]⟩ [((.exit 0),⟨[(9,(.own ZjE false))],[],[2,8],[],[],[]⟩)] .leaf)) .leaf))))))) (pack:=fun y=>(y.2.1,y.2.2.1,y.2.2.2.1)) ZaV tab_ok ⟨⟨F17_ok,trivial⟩,⟨F13_ok,trivial⟩,⟨F12_ok,trivial⟩,trivial⟩ fun x z h=> .trans (by kernel_rfl) h
def F44: (El Y48)->Option (El Y3):=fun a0=>
 Va
 (run
 (fun s0=>
 bif decide (s0.2< (↑(Vc a0.1):Int)) then
 Va (idx a0.1 s0.2) fun x1=>
 Va
 (bif x1.1 then some true
 else
 bif decide (x1.2.2.2.2.2.2.1< (0:Int)) then some true
 else
 bif decide (x1.2.2.2.2.2.2.2.1<x1.2.2.2.2.2.2.1) then some true
 else some (decide ((14400:Int)<Vb .i64 (x1.2.2.2.2.2.2.2.1 - x1.2.2.2.2.2.2.1))))
 fun x2=>
 bif x2 then some (.inl (s0.1,Vb .i64 (s0.2+(1:Int))))
 else
 some
 (.inl
 (Vb .i64 (s0.1+Vb .i64 (x1.2.2.2.2.2.2.2.1 - x1.2.2.2.2.2.2.1)),
 Vb .i64 (s0.2+(1:Int))))
 else some (.inr s0.1))
 ((0:Int),(0:Int)))
 fun x3=>some x3
def F44S:Tr.Spec:= {args:=(.cons (.pd Y48) .nil),res:=(.cons (.pd Y3) .nil),fns:=[],α:=El Y3,f:=fun x=>F44 x.1,unp:=fun z=>(((),()),(z,())) }
theorem F44_ok:ZaC Tryz.prog 84 F44S:=Zag (rws:=[]) (zxs:=[]) (nt:=44) (m:=[]) (fn:=Tryz.f84) (hint:=(hS (hS (.seq (hS (.lp ⟨[(3,(.pd Y3)),(9,(.pd Y3))],[],[7,8],[],[],[]⟩ [((.exit 0),⟨[(3,(.pd Y3))],[],[],[],[],[]⟩)] (hS (hS (.seq (hS (.seq (.seq (.reg [(34,Y4)]) .leaf) .leaf)) .leaf))))) .leaf)))) (pack:=fun y=>y.2.1) ZaV tab_ok trivial fun x z h=> .trans (by kernel_rfl) h
def F41: (El Y31)->(El Y33)->(El Y48)->Option (El Y50×El Y51×El Y35):=fun a0 a1 a2=>
 Va (F42 a0 a2) fun x0=>
 bif !decide (x0.2=(0:Int)) then some (((0:Int),(0:Int),(0:Int),(0:Int),(0:Int),()),[],x0.2)
 else
 Va (F11 a0.2.2.2.2.2.1 x0.1) fun x1=>
 bif !decide (x1.2.2=(0:Int)) then some (((0:Int),(0:Int),(0:Int),(0:Int),(0:Int),()),[],x1.2.2)
 else
 Va (F44 a2) fun x2=>
 Va
 (bif decide ((0:Int)< (↑(Vc a2.1):Int)) then
 Va (idx a2.1 (0:Int)) fun x3=>
 Va (idx a2.1 (Vb .i64 ((↑(Vc a2.1):Int) - (1:Int)))) fun x4=>
 some (x3.2.2.2.2.2.2.1,x4.2.2.2.2.2.2.2.1,(↑(Vc x0.1):Int),x1.1,x2,())
 else some (a1.2.2.1,a1.2.2.1,(↑(Vc x0.1):Int),x1.1,x2,()))
 fun x5=>some (x5,x1.2.1,(0:Int))
def F41S:Tr.Spec:= {args:=(.cons (.pd Y31) (.cons (.pd Y33) (.cons (.pd Y48) .nil))),res:=(.cons (.pd Y50) (.cons (.pd Y51) (.cons (.pd Y35) .nil))),fns:=[],α:=El Y50×El Y51×El Y35,f:=fun x=>F41 x.1 x.2.1 x.2.2.1,unp:=fun z=>(((),(),(),()),(z.1,z.2.1,z.2.2,())) }
theorem F41_ok:ZaC Tryz.prog 38 F41S:=Zag (rws:=[]) (zxs:=[]) (nt:=68) (m:=[(82,[F42S]),(83,[F11S]),(84,[F44S])]) (fn:=Tryz.f38) (hint:=(hS (hS (hS (hS (hS (hS (.seq (hS (hS (.cnd (some (⟨[],[],[6,12],[],[],[]⟩,[(.normal,⟨[(13,(.var Y50 (.pd Y50)))],[],[6,12],[],[],[]⟩)])) .leaf .leaf))) .leaf)))))))) (pack:=fun y=>(y.2.1,y.2.2.1,y.2.2.2.1)) ZaV tab_ok ⟨⟨F42_ok,trivial⟩,⟨F11_ok,trivial⟩,⟨F44_ok,trivial⟩,trivial⟩ fun x z h=> .trans (by kernel_rfl) h
def F19: (El Y3)->(El Y3)->(El Y3)->Option (El Y4):=fun a0 a1 a2=>
 Va
 (bif decide (a1<=a0) then some true
 else some (decide (Vb .u64 (Vb .u64 a1 - Vb .u64 a0)<=Vb .u64 a2)))
 fun x0=>some x0
def F19S:Tr.Spec:= {args:=(.cons (.pd Y3) (.cons (.pd Y3) (.cons (.pd Y3) .nil))),res:=(.cons (.pd Y4) .nil),fns:=[],α:=El Y4,f:=fun x=>F19 x.1 x.2.1 x.2.2.1,unp:=fun z=>(((),(),(),()),(z,())) }
theorem F19_ok:ZaC Tryz.prog 253 F19S:=Zag (rws:=[]) (zxs:=[]) (nt:=20) (m:=[]) (fn:=Tryz.f253) (hint:=(hS (.seq (.reg [(6,Y4)]) .leaf))) (pack:=fun y=>y.2.1) ZaV tab_ok trivial fun x z h=> .trans (by kernel_rfl) h
abbrev Y91:Ty:= .ref
abbrev Y89:Ty:= .sl Y91
abbrev Y92:Ty:= .ref
abbrev Y94:Ty:= .prod Y3 (.prod Y3 (.prod Y3 (.prod Y3 (.prod Y3 (.prod Y4 (.prod Y92 (.prod Y46 .unit)))))))
abbrev Zo4:Ty:= .ref
abbrev Zpn:Ty:= .ref
abbrev ZoW:Ty:= .sl Y89
abbrev Zo6:Ty:= .prod Y31 (.prod Y33 (.prod Zmm (.prod ZoW (.prod Y89 (.prod Y89 .unit)))))
abbrev Zpd:Ty:= .ref
abbrev ZoN:Ty:= .int .u64
abbrev ZoG:Ty:= .ref
abbrev ZoI:Ty:= .arr 9 Y3
abbrev Zpk:Ty:= .prod ZoG (.prod Y92 (.prod ZjF (.prod Y3 (.prod ZoI .unit))))
abbrev Zpj:Ty:= .prod Y91 (.prod Y3 (.prod Y3 (.prod Y4 (.prod ZjF (.prod Y87 .unit)))))
abbrev ZoP:Ty:= .int .i64
abbrev ZoR:Ty:= .int .u32
abbrev Zpg:Ty:= .ref
abbrev ZoT:Ty:= .int .u64
abbrev ZoK:Ty:= .ref
abbrev ZoE:Ty:= .ref
abbrev ZoF:Ty:= .prod Y3 (.prod Y3 (.prod Y3 (.prod Y3 (.prod ZoS .unit))))
abbrev Zo5:Ty:= .sl ZoF
def tyW:List (Nat×Ty):=tyTab++[(91,Y91),(89,Y89),(92,Y92),(94,Y94),(101,Zo4),(148,Zpn),(154,ZoW),(156,Zo6),(163,Zpd),(166,ZoN),(206,ZoG),(207,ZoI),(209,Zpk),(212,Zpj),(227,ZoP),(235,ZoR),(272,Zpg),(277,ZoT),(281,ZoK),(302,ZoE),(322,ZoF),(319,Zo5)]
def pkW:List (Nat×Nat):=pkTab++[(91,1),(92,1),(101,2),(148,1),(163,2),(206,1),(272,2),(281,1),(302,1)]
theorem ZmC:ZeN Tryz.prog tyW mapTab pkW bdTab=true:=by kernel_rfl
theorem ZnA:Zod Tryz.prog [91]=true:=by kernel_rfl
def fnW:List (Nat×Func):=[(37,Tryz.f37),(39,Tryz.f39),(40,Tryz.f40),(41,Tryz.f41),(42,Tryz.f42),(43,Tryz.f43),(57,Tryz.f57),(77,Tryz.f77),(78,Tryz.f78),(79,Tryz.f79),(80,Tryz.f80),(81,Tryz.f81),(85,Tryz.f85),(86,Tryz.f86),(87,Tryz.f87),(88,Tryz.f88),(89,Tryz.f89),(90,Tryz.f90),(129,Tryz.f129),(130,Tryz.f130),(131,Tryz.f131),(132,Tryz.f132),(140,Tryz.f140),(141,Tryz.f141),(142,Tryz.f142),(143,Tryz.f143),(144,Tryz.f144),(145,Tryz.f145),(146,Tryz.f146),(147,Tryz.f147),(148,Tryz.f148),(149,Tryz.f149),(150,Tryz.f150),(191,Tryz.f191),(192,Tryz.f192),(193,Tryz.f193),(194,Tryz.f194),(195,Tryz.f195),(196,Tryz.f196),(203,Tryz.f203),(204,Tryz.f204),(205,Tryz.f205),(206,Tryz.f206),(207,Tryz.f207),(225,Tryz.f225),(226,Tryz.f226),(227,Tryz.f227),(228,Tryz.f228),(229,Tryz.f229),(236,Tryz.f236),(245,Tryz.f245),(246,Tryz.f246),(247,Tryz.f247),(248,Tryz.f248),(249,Tryz.f249),(250,Tryz.f250),(254,Tryz.f254)]
theorem ZnX:ZhQ Tryz.prog fnW:=⟨⟨Tryz.func37,by kernel_rfl,by kernel_rfl⟩,⟨Tryz.func39,by kernel_rfl,by kernel_rfl⟩,⟨Tryz.func40,by kernel_rfl,by kernel_rfl⟩,⟨Tryz.func41,by kernel_rfl,by kernel_rfl⟩,⟨Tryz.func42,by kernel_rfl,by kernel_rfl⟩,⟨Tryz.func43,by kernel_rfl,by kernel_rfl⟩,⟨Tryz.func57,by kernel_rfl,by kernel_rfl⟩,⟨Tryz.func77,by kernel_rfl,by kernel_rfl⟩,⟨Tryz.func78,by kernel_rfl,by kernel_rfl⟩,⟨Tryz.func79,by kernel_rfl,by kernel_rfl⟩,⟨Tryz.func80,by kernel_rfl,by kernel_rfl⟩,⟨Tryz.func81,by kernel_rfl,by kernel_rfl⟩,⟨Tryz.func85,by kernel_rfl,by kernel_rfl⟩,⟨Tryz.func86,by kernel_rfl,by kernel_rfl⟩,⟨Tryz.func87,by kernel_rfl,by kernel_rfl⟩,⟨Tryz.func88,by kernel_rfl,by kernel_rfl⟩,⟨Tryz.func89,by kernel_rfl,by kernel_rfl⟩,⟨Tryz.func90,by kernel_rfl,by kernel_rfl⟩,⟨Tryz.func129,by kernel_rfl,by kernel_rfl⟩,⟨Tryz.func130,by kernel_rfl,by kernel_rfl⟩,⟨Tryz.func131,by kernel_rfl,by kernel_rfl⟩,⟨Tryz.func132,by kernel_rfl,by kernel_rfl⟩,⟨Tryz.func140,by kernel_rfl,by kernel_rfl⟩,⟨Tryz.func141,by kernel_rfl,by kernel_rfl⟩,⟨Tryz.func142,by kernel_rfl,by kernel_rfl⟩,⟨Tryz.func143,by kernel_rfl,by kernel_rfl⟩,⟨Tryz.func144,by kernel_rfl,by kernel_rfl⟩,⟨Tryz.func145,by kernel_rfl,by kernel_rfl⟩,⟨Tryz.func146,by kernel_rfl,by kernel_rfl⟩,⟨Tryz.func147,by kernel_rfl,by kernel_rfl⟩,⟨Tryz.func148,by kernel_rfl,by kernel_rfl⟩,⟨Tryz.func149,by kernel_rfl,by kernel_rfl⟩,⟨Tryz.func150,by kernel_rfl,by kernel_rfl⟩,⟨Tryz.func191,by kernel_rfl,by kernel_rfl⟩,⟨Tryz.func192,by kernel_rfl,by kernel_rfl⟩,⟨Tryz.func193,by kernel_rfl,by kernel_rfl⟩,⟨Tryz.func194,by kernel_rfl,by kernel_rfl⟩,⟨Tryz.func195,by kernel_rfl,by kernel_rfl⟩,⟨Tryz.func196,by kernel_rfl,by kernel_rfl⟩,⟨Tryz.func203,by kernel_rfl,by kernel_rfl⟩,⟨Tryz.func204,by kernel_rfl,by kernel_rfl⟩,⟨Tryz.func205,by kernel_rfl,by kernel_rfl⟩,⟨Tryz.func206,by kernel_rfl,by kernel_rfl⟩,⟨Tryz.func207,by kernel_rfl,by kernel_rfl⟩,⟨Tryz.func225,by kernel_rfl,by kernel_rfl⟩,⟨Tryz.func226,by kernel_rfl,by kernel_rfl⟩,⟨Tryz.func227,by kernel_rfl,by kernel_rfl⟩,⟨Tryz.func228,by kernel_rfl,by kernel_rfl⟩,⟨Tryz.func229,by kernel_rfl,by kernel_rfl⟩,⟨Tryz.func236,by kernel_rfl,by kernel_rfl⟩,⟨Tryz.func245,by kernel_rfl,by kernel_rfl⟩,⟨Tryz.func246,by kernel_rfl,by kernel_rfl⟩,⟨Tryz.func247,by kernel_rfl,by kernel_rfl⟩,⟨Tryz.func248,by kernel_rfl,by kernel_rfl⟩,⟨Tryz.func249,by kernel_rfl,by kernel_rfl⟩,⟨Tryz.func250,by kernel_rfl,by kernel_rfl⟩,⟨Tryz.func254,by kernel_rfl,by kernel_rfl⟩,trivial⟩
def mW:List (Nat×List Tr.Spec):=[(33,[F20S]),(34,[F22S]),(35,[F77S]),(36,[F78S]),(38,[F41S]),(62,[F8S]),(113,[F67S]),(200,[F68S]),(253,[F19S])]
def ZoZ:Env:=ZlM {mkE tyW mapTab pkW [] [] mW 99 bdTab with pz:=fun n=>[91].contains n} 40 fnW 9
def exN:El Y31:=(([(([65]:List UInt8),(0:Int),false,(0:Int),()),(([66]:List UInt8),(0:Int),false,(0:Int),())]:List (El Zn6)),([(([82]:List UInt8),(0:Int),false,())]:List (El Zog)),([((0:Int),(0:Int),(0:Int),([114,48]:List UInt8),(0:Int),false,false,([((0:Int),(100:Int),(100:Int),true,false,()),((1:Int),(300:Int),(300:Int),false,true,())]:List (El ZlE)),()),((0:Int),(0:Int),(0:Int),([114,49]:List UInt8),(0:Int),false,false,([((0:Int),(200:Int),(200:Int),true,false,()),((1:Int),(350:Int),(350:Int),false,true,())]:List (El ZlE)),()),((0:Int),(0:Int),(0:Int),([114,50]:List UInt8),(0:Int),false,false,([((0:Int),(250:Int),(250:Int),true,false,()),((1:Int),(340:Int),(340:Int),false,true,())]:List (El ZlE)),())]:List (El Y78)),([]:List (El Zoh)),([]:List (El Zet)),(([(([112]:List UInt8),(150:Int),(1:Int),(16:Int),(0:Int),(255:Int),())]:List (El ZmA)),(0:Int),(0:Int),(0:Int),()),())
def exQ:El Y33:=((0:Int),(1:Int),(0:Int),false,(1:Int),(0:Int),false,false,(0:Int),false,())
def exA:El Y38:=([((([(true,(2:Int),(0:Int),(1:Int),(0:Int),(1:Int),(250:Int),(340:Int),false,())]:List (El Y82)),()),((250:Int),(340:Int),(1:Int),(150:Int),(0:Int),()),([((0:Int),(0:Int),(0:Int),(150:Int),())]:List (El ZjE)),()),((([(true,(0:Int),(0:Int),(1:Int),(0:Int),(1:Int),(100:Int),(300:Int),false,())]:List (El Y82)),()),((100:Int),(300:Int),(1:Int),(150:Int),(0:Int),()),([((0:Int),(0:Int),(0:Int),(150:Int),())]:List (El ZjE)),())]:List (El Y53))
def exB:El Y38:=([((([(true,(1:Int),(0:Int),(1:Int),(0:Int),(1:Int),(200:Int),(350:Int),false,())]:List (El Y82)),()),((200:Int),(350:Int),(1:Int),(150:Int),(0:Int),()),([((0:Int),(0:Int),(0:Int),(150:Int),())]:List (El ZjE)),()),((([(true,(0:Int),(0:Int),(1:Int),(0:Int),(1:Int),(100:Int),(300:Int),false,())]:List (El Y82)),()),((100:Int),(300:Int),(1:Int),(150:Int),(0:Int),()),([((0:Int),(0:Int),(0:Int),(150:Int),())]:List (El ZjE)),())]:List (El Y53))
def Zoj(n:El Y31)(q:El Y33)(u:El Y3):Option (El Y38×El Y35):=bif eqD Y31 n exN&&eqD Y33 q exQ then(bif eqD Y3 u (1000:Int) then some (exA,(0:Int)) else bif eqD Y3 u (200:Int) then some (exB,(0:Int)) else none) else none
abbrev Zn9:ZaS:= .cons (.pd Y31) (.cons (.pd Y33) (.cons (.pd Y3) .nil))
abbrev ZoV:ZaS:= .cons (.pd Y38) (.cons (.pd Y35) .nil)
def Zo8:Tr.Spec:= {args:=Zn9,res:=ZoV,fns:=[],α:=El Y38×El Y35,f:=fun x=>Zoj x.1 x.2.1 x.2.2.1,unp:=fun z=>(((),(),(),()),(z.1,z.2,())) }
def Zom(x:Zce Zn9):Option (El Y38×El Y35):=ZgO ZoZ (Zbc Tryz.f15) Tryz.f15.results (.all 40) Zn9 ZoV (fun y=>(y.2.1,y.2.2.1)) x
theorem ZnT:Zom (exN,exQ,(1000:Int),())=some (exA,(0:Int)):=by kernel_rfl
theorem ZnK:Zom (exN,exQ,(200:Int),())=some (exB,(0:Int)):=by kernel_rfl
theorem Zn0(x:Zce Zn9)(z:El Y38×El Y35)(h:Zoj x.1 x.2.1 x.2.2.1=some z):Zom x=some z:=by
 obtain⟨n,q,u,⟨⟩⟩:=x;simp only[Zoj]at h
 cases h1: (eqD Y31 n exN&&eqD Y33 q exQ) with
 |false=>rw[h1]at h;simp at h
 |true=>
  rw[h1]at h;simp only[Bool.and_eq_true]at h1;obtain rfl:=Zev _ _ _ h1.1;obtain rfl:=Zev _ _ _ h1.2;simp only[cond_true]at h
  cases h2:eqD Y3 u (1000:Int) with
  |true=>
   rw[h2]at h;obtain rfl:=Zev _ _ _ h2;simp only[cond_true,Option.some.injEq]at h;subst h
   exact ZnT
  |false=>
   rw[h2]at h;simp only[cond_false]at h
   cases h3:eqD Y3 u (200:Int) with
   |true=>
    rw[h3]at h;obtain rfl:=Zev _ _ _ h3;simp only[cond_true,Option.some.injEq]at h;subst h
    exact ZnK
   |false=>rw[h3]at h;simp at h
theorem ZnQ:ZaC Tryz.prog 15 Zo8:=ZiZ (m:=mW) (fns:=fnW) (n:=40) (d:=9) (pzs:=[91]) (fn:=Tryz.f15) (pack:=fun y=>(y.2.1,y.2.2.1)) ZaV ZmC ZnA ⟨⟨F20_ok,trivial⟩,⟨F22_ok,trivial⟩,⟨F77_ok,trivial⟩,⟨F78_ok,trivial⟩,⟨F41_ok,trivial⟩,⟨F8_ok,trivial⟩,⟨F67_ok,trivial⟩,⟨F68_ok,trivial⟩,⟨F19_ok,trivial⟩,trivial⟩ ZnX Zn0
def F76(a0:El Y31)(a1:El Y33)(a2:El Y3):Option (El Y38×El Y35):=Zoj a0 a1 a2
def F76S:Tr.Spec:= {args:=(.cons (.pd Y31) (.cons (.pd Y33) (.cons (.pd Y3) .nil))),res:=(.cons (.pd Y38) (.cons (.pd Y35) .nil)),fns:=[],α:=El Y38×El Y35,f:=fun x=>F76 x.1 x.2.1 x.2.2.1,unp:=fun z=>(((),(),(),()),(z.1,z.2,())) }
theorem F76_ok:ZaC Tryz.prog 15 F76S:=ZnQ
def F80: (El Y50)->(El Y50)->Option (El Y4):=fun a0 a1=>
 Va
 (run
 (fun s0=>
 bif decide (s0< (4:Int)) then
 Va (inb s0 (4:Nat)) fun x1=>
 Va [a0.2.1,a0.2.2.1,a0.2.2.2.1,a0.2.2.2.2.1][x1]? fun x2=>
 Va (inb s0 (4:Nat)) fun x3=>
 Va [a1.2.1,a1.2.2.1,a1.2.2.2.1,a1.2.2.2.2.1][x3]? fun x4=>
 bif !decide (x2=x4) then
 Va (inb s0 (4:Nat)) fun x5=>
 Va [a0.2.1,a0.2.2.1,a0.2.2.2.1,a0.2.2.2.2.1][x5]? fun x6=>
 Va (inb s0 (4:Nat)) fun x7=>
 Va [a1.2.1,a1.2.2.1,a1.2.2.2.1,a1.2.2.2.2.1][x7]? fun x8=>some (.inr (.inr (decide (x6<x8))))
 else some (.inl (Vb .i64 (s0+(1:Int))))
 else some (.inr (.inl ())))
 (0:Int))
 fun x9=>Vg (fun _=>some false) (fun y11=>some y11) x9
def F80S:Tr.Spec:= {args:=(.cons (.pd Y50) (.cons (.pd Y50) .nil)),res:=(.cons (.pd Y4) .nil),fns:=[],α:=El Y4,f:=fun x=>F80 x.1 x.2.1,unp:=fun z=>(((),(),()),(z,())) }
theorem F80_ok:ZaC Tryz.prog 56 F80S:=Zag (rws:=[]) (zxs:=[]) (nt:=44) (m:=[]) (fn:=Tryz.f56) (hint:=(hS (hS (.seq (hS (.lp ⟨[(26,(.pd Y3))],[],[5,6],[],[],[]⟩ [((.exit 0),⟨[],[],[],[],[],[]⟩),(.ret,⟨[(4,(.pd Y4))],[],[],[],[],[]⟩)] .leaf)) .leaf)))) (pack:=fun y=>y.2.1) ZaV tab_ok trivial fun x z h=> .trans (by kernel_rfl) h
def F91(a0:El Y46):Option (El Y46):=Tr.clnLegG a0
def F91S:Tr.Spec:= {args:=(.cons (.pd Y46) .nil),res:=(.cons (.pd Y46) .nil),fns:=[],α:=El Y46,f:=fun x=>F91 x.1,unp:=fun z=>(((),()),(z,())) }
theorem F91_ok:ZaC Tryz.prog 57 F91S:=Tr.clnLeg_ok
def F92(a0:El Y51):Option (El Y51):=Tr.clnTicG a0
def F92S:Tr.Spec:= {args:=(.cons (.pd Y51) .nil),res:=(.cons (.pd Y51) .nil),fns:=[],α:=El Y51,f:=fun x=>F92 x.1,unp:=fun z=>(((),()),(z,())) }
theorem F92_ok:ZaC Tryz.prog 58 F92S:=Tr.clnTic_ok
def F72: (El Y38)->(El Y3)->Option (El Y53×El Y4):=fun a0 a1=>
 Va
 (run
 (fun s0=>
 bif decide (s0.2< (↑(Vc a0):Int)) then
 Va (idx a0 s0.2) fun x1=>
 Va
 (bif decide (a1<=x1.2.1.1) then
 bif decide (s0.1< (0:Int)) then some true
 else Va (idx a0 s0.1) fun x2=>Va (F80 x1.2.1 x2.2.1) fun x3=>some x3
 else some false)
 fun x4=>
 bif x4 then some (.inl (s0.2,Vb .i64 (s0.2+(1:Int)))) else some (.inl (s0.1,Vb .i64 (s0.2+(1:Int))))
 else some (.inr s0.1))
 ((-1:Int),(0:Int)))
 fun x5=>
 bif decide (x5< (0:Int)) then some (((([]:List (El Y82)),()),((0:Int),(0:Int),(0:Int),(0:Int),(0:Int),()),([]:List (El ZjE)),()),false)
 else
 Va (idx a0 x5) fun x6=>
 Va (F91 x6.1.1) fun x7=>
 Va (F92 x6.2.2.1) fun x8=>some (((x7,x6.1.2),x6.2.1,x8,x6.2.2.2),true)
def F72S:Tr.Spec:= {args:=(.cons (.pd Y38) (.cons (.pd Y3) .nil)),res:=(.cons (.pd Y53) (.cons (.pd Y4) .nil)),fns:=[],α:=El Y53×El Y4,f:=fun x=>F72 x.1 x.2.1,unp:=fun z=>(((),(),()),(z.1,z.2,())) }
theorem F72_ok:ZaC Tryz.prog 23 F72S:=Zag (rws:=[]) (zxs:=[]) (nt:=56) (m:=[(56,[F80S]),(57,[F91S]),(58,[F92S])]) (fn:=Tryz.f23) (hint:=(hS (hS (.seq (hS (.lp ⟨[(6,(.pd Y3)),(12,(.pd Y3))],[],[0,1,4,10,11],[],[],[]⟩ [((.exit 0),⟨[(6,(.pd Y3))],[],[0,4],[],[],[]⟩)] (hS (hS (.seq (hS (.seq (.reg [(35,Y4)]) .leaf)) .leaf))))) .leaf)))) (pack:=fun y=>(y.2.1,y.2.2.1)) ZaV tab_ok ⟨⟨F80_ok,trivial⟩,⟨F91_ok,trivial⟩,⟨F92_ok,trivial⟩,trivial⟩ fun x z h=> .trans (by kernel_rfl) h
def F79: (El Y50)->Option (El Y98):=fun a0=>some [a0.1,a0.2.1,a0.2.2.1]
def F79S:Tr.Spec:= {args:=(.cons (.pd Y50) .nil),res:=(.cons (.pd Y98) .nil),fns:=[],α:=El Y98,f:=fun x=>F79 x.1,unp:=fun z=>(((),()),(z,())) }
theorem F79_ok:ZaC Tryz.prog 42 F79S:=Zag (rws:=[]) (zxs:=[]) (nt:=10) (m:=[]) (fn:=Tryz.f42) (hint:= .leaf) (pack:=fun y=>y.2.1) ZaV tab_ok trivial fun x z h=> .trans (by kernel_rfl) h
def F81: (El Y98)->(El Y98)->Option (El Y3):=fun a0 a1=>
 Va a0[Vd (0:Int)]? fun x0=>
 Va a1[Vd (0:Int)]? fun x1=>
 bif !decide (x0=x1) then Va a1[Vd (0:Int)]? fun x2=>Va a0[Vd (0:Int)]? fun x3=>Va (F8 x2 x3) fun x4=>some x4
 else
 Va a0[Vd (1:Int)]? fun x5=>
 Va a1[Vd (1:Int)]? fun x6=>
 bif !decide (x5=x6) then
 Va a0[Vd (1:Int)]? fun x7=>Va a1[Vd (1:Int)]? fun x8=>Va (F8 x7 x8) fun x9=>some x9
 else Va a0[Vd (2:Int)]? fun x10=>Va a1[Vd (2:Int)]? fun x11=>Va (F8 x10 x11) fun x12=>some x12
def F81S:Tr.Spec:= {args:=(.cons (.pd Y98) (.cons (.pd Y98) .nil)),res:=(.cons (.pd Y3) .nil),fns:=[],α:=El Y3,f:=fun x=>F81 x.1 x.2.1,unp:=fun z=>(((),(),()),(z,())) }
theorem F81_ok:ZaC Tryz.prog 43 F81S:=Zag (rws:=[]) (zxs:=[]) (nt:=30) (m:=[(62,[F8S])]) (fn:=Tryz.f43) (hint:= .leaf) (pack:=fun y=>y.2.1) ZaV tab_ok ⟨⟨F8_ok,trivial⟩,trivial⟩ fun x z h=> .trans (by kernel_rfl) h
def F66(a0:Int):Option (List UInt8):=Tr.fmtF a0
def F66S:Tr.Spec:= {args:=(.cons (.pd Y3) .nil),res:=(.cons (.pd Y9) .nil),fns:=[],α:=El Y9,f:=fun x=>F66 x.1,unp:=fun z=>(((),()),(z,())) }
theorem F66_ok:ZaC Tryz.prog 65 F66S:=Tr.fmt_ok
def F75: (El Y38)->Option (El Y9×El Y35):=fun a0=>
 Va
 (run
 (fun s0=>
 bif decide (s0.2< (↑(Vc a0):Int)) then
 Va (idx a0 s0.2) fun x1=>
 Va
 (bif decide ((0:Int)<s0.2) then
 Va (idx a0 (Vb .i64 (s0.2 - (1:Int)))) fun x2=>
 Va (F79 x2.2.1) fun x3=>
 Va (F79 x1.2.1) fun x4=>Va (F81 x3 x4) fun x5=>some (decide ((0:Int)<=x5))
 else some false)
 fun x6=>
 bif x6 then some (.inr (.inr ([],(8:Int))))
 else
 Va (F66 x1.2.1.1) fun x7=>
 Va (Tr.catStr x7 [(32:UInt8)]) fun x8=>
 Va (F66 x1.2.1.2.1) fun x9=>
 Va (Tr.catStr x8 x9) fun x10=>
 Va (Tr.catStr x10 [(32:UInt8)]) fun x11=>
 Va (F66 x1.2.1.2.2.1) fun x12=>
 Va (Tr.catStr x11 x12) fun x13=>
 Va (Tr.catStr x13 [(32:UInt8)]) fun x14=>
 Va (F66 x1.2.1.2.2.2.1) fun x15=>
 Va (Tr.catStr x14 x15) fun x16=>
 Va (Tr.catStr x16 [(32:UInt8)]) fun x17=>
 Va (F66 x1.2.1.2.2.2.2.1) fun x18=>
 Va (Tr.catStr x17 x18) fun x19=>
 Va (Tr.catStr x19 [(10:UInt8)]) fun x20=>
 Va (Tr.catStr s0.1 x20) fun x21=>some (.inl (x21,Vb .i64 (s0.2+(1:Int))))
 else some (.inr (.inl s0.1)))
 ([],(0:Int)))
 fun x22=>Vg (fun y23=>some (y23,(0:Int))) (fun y24=>some (y24.1,y24.2)) x22
def F75S:Tr.Spec:= {args:=(.cons (.pd Y38) .nil),res:=(.cons (.pd Y9) (.cons (.pd Y35) .nil)),fns:=[],α:=El Y9×El Y35,f:=fun x=>F75 x.1,unp:=fun z=>(((),()),(z.1,z.2,())) }
theorem F75_ok:ZaC Tryz.prog 27 F75S:=Zag (rws:=[]) (zxs:=[]) (nt:=61) (m:=[(42,[F79S]),(43,[F81S]),(65,[F66S])]) (fn:=Tryz.f27) (hint:=(hS (hS (.seq (hS (.lp ⟨[(4,(.pd Y9)),(10,(.pd Y3))],[],[0,8,9],[],[],[]⟩ [((.exit 0),⟨[(4,(.pd Y9))],[],[],[],[],[]⟩),(.ret,⟨[(2,(.pd Y9)),(3,(.pd Y35))],[],[],[],[],[]⟩)] (hS (hS (.seq (hS (.seq (.seq (.reg [(30,Y4)]) .leaf) .leaf)) .leaf))))) .leaf)))) (pack:=fun y=>(y.2.1,y.2.2.1)) ZaV tab_ok ⟨⟨F79_ok,trivial⟩,⟨F81_ok,trivial⟩,⟨F66_ok,trivial⟩,trivial⟩ fun x z h=> .trans (by kernel_rfl) h
abbrev Zpq:Ty:= .ref
def tyH:List (Nat×Ty):=tyTab++[(123,Zpq),(166,ZoN),(227,ZoP),(235,ZoR),(277,ZoT),(281,ZoK),(302,ZoE)]
def pkH:List (Nat×Nat):=pkTab++[(123,2),(281,1),(302,1)]
theorem Zm8:ZeN Tryz.prog tyH mapTab pkH bdTab=true:=by kernel_rfl
theorem Zny:Zod Tryz.prog [91]=true:=by kernel_rfl
def fnH:List (Nat×Func):=[(25,Tryz.f25),(32,Tryz.f32),(60,Tryz.f60),(61,Tryz.f61),(63,Tryz.f63),(69,Tryz.f69),(90,Tryz.f90),(103,Tryz.f103),(149,Tryz.f149),(150,Tryz.f150),(161,Tryz.f161),(162,Tryz.f162),(163,Tryz.f163),(164,Tryz.f164),(165,Tryz.f165),(166,Tryz.f166),(167,Tryz.f167),(168,Tryz.f168),(204,Tryz.f204),(205,Tryz.f205),(211,Tryz.f211),(212,Tryz.f212),(213,Tryz.f213),(237,Tryz.f237)]
theorem ZnD:ZhQ Tryz.prog fnH:=⟨⟨Tryz.func25,by kernel_rfl,by kernel_rfl⟩,⟨Tryz.func32,by kernel_rfl,by kernel_rfl⟩,⟨Tryz.func60,by kernel_rfl,by kernel_rfl⟩,⟨Tryz.func61,by kernel_rfl,by kernel_rfl⟩,⟨Tryz.func63,by kernel_rfl,by kernel_rfl⟩,⟨Tryz.func69,by kernel_rfl,by kernel_rfl⟩,⟨Tryz.func90,by kernel_rfl,by kernel_rfl⟩,⟨Tryz.func103,by kernel_rfl,by kernel_rfl⟩,⟨Tryz.func149,by kernel_rfl,by kernel_rfl⟩,⟨Tryz.func150,by kernel_rfl,by kernel_rfl⟩,⟨Tryz.func161,by kernel_rfl,by kernel_rfl⟩,⟨Tryz.func162,by kernel_rfl,by kernel_rfl⟩,⟨Tryz.func163,by kernel_rfl,by kernel_rfl⟩,⟨Tryz.func164,by kernel_rfl,by kernel_rfl⟩,⟨Tryz.func165,by kernel_rfl,by kernel_rfl⟩,⟨Tryz.func166,by kernel_rfl,by kernel_rfl⟩,⟨Tryz.func167,by kernel_rfl,by kernel_rfl⟩,⟨Tryz.func168,by kernel_rfl,by kernel_rfl⟩,⟨Tryz.func204,by kernel_rfl,by kernel_rfl⟩,⟨Tryz.func205,by kernel_rfl,by kernel_rfl⟩,⟨Tryz.func211,by kernel_rfl,by kernel_rfl⟩,⟨Tryz.func212,by kernel_rfl,by kernel_rfl⟩,⟨Tryz.func213,by kernel_rfl,by kernel_rfl⟩,⟨Tryz.func237,by kernel_rfl,by kernel_rfl⟩,trivial⟩
def mH:List (Nat×List Tr.Spec):=[(15,[F76S]),(23,[F72S]),(27,[F75S]),(62,[F8S])]
def Zo0:Env:=ZlM {mkE tyH mapTab pkH [] [] mH 158 bdTab with pz:=fun n=>[91].contains n} 40 fnH 12
def F48:Option Bool:=some true
def F48S:Tr.Spec:= {args:= .nil,res:=(.cons (.pd Y4) .nil),fns:=[],α:=El Y4,f:=fun _=>F48,unp:=fun z=>((),(z,())) }
theorem F_law45_exampleHolds_V:ZgO Zo0 (Zbc Tryz.f14) Tryz.f14.results (.all 40) .nil (.cons (.pd .bool) .nil) (fun y=>y.2.1) ()=some true:=by kernel_rfl
theorem F48_ok:ZaC Tryz.prog 14 F48S:=ZiZ (m:=mH) (fns:=fnH) (n:=40) (d:=12) (pzs:=[91]) (fn:=Tryz.f14) (pack:=fun y=>y.2.1) ZaV Zm8 Zny ⟨⟨F76_ok,trivial⟩,⟨F72_ok,trivial⟩,⟨F75_ok,trivial⟩,⟨F8_ok,trivial⟩,trivial⟩ ZnD fun _ z h=>(F_law45_exampleHolds_V).trans h
def F49: (El Y43)->Option (El Y38):=fun a0=>
 Va
 (run
 (fun s0=>
 bif decide (s0.2< (↑(Vc a0):Int)) then
 Va (idx a0 s0.2) fun x1=>
 Va (Zar (decide (Vc s0.1+Vc [((([]:List (El Y82)),()),x1,([]:List (El ZjE)),())]<=Zaz))) fun _=>
 some (.inl (s0.1++[((([]:List (El Y82)),()),x1,([]:List (El ZjE)),())],Vb .i64 (s0.2+(1:Int))))
 else some (.inr s0.1))
 ([],(0:Int)))
 fun x3=>some x3
def F49S:Tr.Spec:= {args:=(.cons (.pd Y43) .nil),res:=(.cons (.pd Y38) .nil),fns:=[],α:=El Y38,f:=fun x=>F49 x.1,unp:=fun z=>(((),()),(z,())) }
theorem F49_ok:ZaC Tryz.prog 22 F49S:=Zag (rws:=[]) (zxs:=[]) (nt:=20) (m:=[]) (fn:=Tryz.f22) (hint:=(hS (hS (.seq (hS (.lp ⟨[(3,(.own Y53 false)),(4,(.pd Y3))],[],[0],[],[],[]⟩ [((.exit 0),⟨[(3,(.own Y53 false))],[],[],[],[],[]⟩)] .leaf)) .leaf)))) (pack:=fun y=>y.2.1) ZaV tab_ok trivial fun x z h=> .trans (by kernel_rfl) h
def F74: (El Y65)->(El Y65)->Option (El Y3):=fun a0 a1=>
 Va a0[Vd (0:Int)]? fun x0=>
 Va a1[Vd (0:Int)]? fun x1=>
 bif !decide (x0=x1) then Va a0[Vd (0:Int)]? fun x2=>Va a1[Vd (0:Int)]? fun x3=>Va (F8 x2 x3) fun x4=>some x4
 else Va a0[Vd (1:Int)]? fun x5=>Va a1[Vd (1:Int)]? fun x6=>Va (F8 x5 x6) fun x7=>some x7
def F74S:Tr.Spec:= {args:=(.cons (.pd Y65) (.cons (.pd Y65) .nil)),res:=(.cons (.pd Y3) .nil),fns:=[],α:=El Y3,f:=fun x=>F74 x.1 x.2.1,unp:=fun z=>(((),(),()),(z,())) }
theorem F74_ok:ZaC Tryz.prog 61 F74S:=Zag (rws:=[]) (zxs:=[]) (nt:=20) (m:=[(62,[F8S])]) (fn:=Tryz.f61) (hint:= .leaf) (pack:=fun y=>y.2.1) ZaV tab_ok ⟨⟨F8_ok,trivial⟩,trivial⟩ fun x z h=> .trans (by kernel_rfl) h
def F93(a0:List (El Y65)):Option (El Y63):=Tr.cmF a0
def F93S:Tr.Spec:= {args:=(.cons (.own Y65 false) .nil),res:=(.cons (.pd Y63) .nil),fns:=[],α:=El Y63,f:=fun x=>F93 x.1,unp:=fun z=>(((),()),(z,())) }
theorem F93_ok:ZaC Tryz.prog 63 F93S:=Tr.cmp_ok
def F95(a0:List (El Y65))(_:Unit):Option (List (El Y65)):=Tr.sortX F74 a0
def F95S:Tr.Spec:= {args:=(.cons (.own Y65 true) (.cons (.fn 61 .nil) .nil)),res:= .nil,fns:=[61],α:=List (El Y65),f:=fun x=>F95 x.1 x.2.1,unp:=fun z=>((z,(),()),()) }
theorem F95_ok:ZaC Tryz.prog 60 F95S:=Tr.sortFuncX_ok (ρ:=Tryz.sort60_ren) Tryz.sort60 rfl Tryz.isAgg65 Tryz.sizeOf65 F74_ok
def F73: (El Y38)->Option (El Y63):=fun a0=>
 Va
 (run
 (fun s0=>
 bif decide (s0.2< (↑(Vc a0):Int)) then
 Va (idx a0 s0.2) fun x1=>
 Va (Zar (decide (Vc s0.1+Vc [[x1.2.1.1,x1.2.1.2.1]]<=Zaz))) fun _=>
 some (.inl (s0.1++[[x1.2.1.1,x1.2.1.2.1]],Vb .i64 (s0.2+(1:Int))))
 else some (.inr s0.1))
 ([],(0:Int)))
 fun x3=>
 Va (F95 x3 ()) fun x4=>
 Va (F93 x4) fun x5=>
 Va
 (run
 (fun s6=>
 bif decide (s6.2< (↑(Vc x5):Int)) then
 Va (idx x5 s6.2) fun x7=>
 Va (sliceB (Vc x5) (Vc x5) (some (Vb .i64 (s6.2+(1:Int)))) none) fun x8=>
 Va
 (run
 (fun s9=>
 bif decide (s9.2< (↑(Vc (Ve (x8.2 - x8.1) (Vf x8.1 x5))):Int)) then
 Va (idx (Ve (x8.2 - x8.1) (Vf x8.1 x5)) s9.2) fun x10=>
 Va
 (bif s9.1 then some true
 else
 Va x10[Vd (0:Int)]? fun x11=>
 Va x7[Vd (0:Int)]? fun x12=>
 bif decide (x12<=x11) then
 Va x10[Vd (1:Int)]? fun x13=>Va x7[Vd (1:Int)]? fun x14=>some (decide (x13<=x14))
 else some false)
 fun x15=>some (.inl (x15,Vb .i64 (s9.2+(1:Int))))
 else some (.inr s9.1))
 (false,(0:Int)))
 fun x16=>
 Va (sliceB (Vc x5) (Vc x5) none (some s6.2)) fun x17=>
 Va
 (run
 (fun s18=>
 bif decide (s18.2< (↑(Vc (Ve (x17.2 - x17.1) (Vf x17.1 x5))):Int)) then
 Va (idx (Ve (x17.2 - x17.1) (Vf x17.1 x5)) s18.2) fun x19=>
 Va
 (bif s18.1 then some true
 else
 Va x19[Vd (0:Int)]? fun x20=>
 Va x7[Vd (0:Int)]? fun x21=>
 bif decide (x21<=x20) then
 Va x19[Vd (1:Int)]? fun x22=>Va x7[Vd (1:Int)]? fun x23=>some (decide (x22<=x23))
 else some false)
 fun x24=>some (.inl (x24,Vb .i64 (s18.2+(1:Int))))
 else some (.inr s18.1))
 (x16,(0:Int)))
 fun x25=>
 bif !x25 then
 Va (Zar (decide (Vc s6.1+Vc [x7]<=Zaz))) fun _=>
 some (.inl (s6.1++[x7],Vb .i64 (s6.2+(1:Int))))
 else some (.inl (s6.1,Vb .i64 (s6.2+(1:Int))))
 else some (.inr s6.1))
 ([],(0:Int)))
 fun x27=>some x27
def F73S:Tr.Spec:= {args:=(.cons (.pd Y38) .nil),res:=(.cons (.pd Y63) .nil),fns:=[],α:=El Y63,f:=fun x=>F73 x.1,unp:=fun z=>(((),()),(z,())) }
theorem F73_ok:ZaC Tryz.prog 25 F73S:=Zag (rws:=[]) (zxs:=[]) (nt:=99) (m:=[(60,[F95S]),(61,[F74S]),(63,[F93S])]) (fn:=Tryz.f25) (hint:=(hS (hS (.seq (hS (.lp ⟨[(3,(.own Y65 false)),(16,(.pd Y3))],[],[14,15],[],[],[]⟩ [((.exit 0),⟨[(3,(.own Y65 false))],[],[],[],[],[]⟩)] .leaf)) (hS (hS (hS (.seq (hS (.lp ⟨[(6,(.own Y65 false)),(37,(.pd Y3))],[],[3,35,36],[],[],[]⟩ [((.exit 2),⟨[(6,(.own Y65 false))],[],[],[],[],[]⟩)] (hS (hS (.seq (hS (hS (.seq (hS (.lp ⟨[(9,(.pd Y4)),(47,(.pd Y3))],[],[3,6,7,8,35,36,37,45,46],[],[],[]⟩ [((.exit 4),⟨[(9,(.pd Y4))],[],[3,6,7,8,35,36,37],[],[],[]⟩)] (hS (hS (.seq (hS (.reg [(9,Y4)])) .leaf))))) (.seq (hS (.lp ⟨[(9,(.pd Y4)),(71,(.pd Y3))],[],[3,6,8,35,36,37,69,70],[],[],[]⟩ [((.exit 6),⟨[(9,(.pd Y4))],[],[3,6,8,35,36,37],[],[],[]⟩)] (hS (hS (.seq (hS (.reg [(9,Y4)])) .leaf))))) .leaf)))) .leaf))))) .leaf)))))))) (pack:=fun y=>y.2.1) ZaV tab_ok ⟨⟨F95_ok,trivial⟩,⟨F74_ok,trivial⟩,⟨F93_ok,trivial⟩,trivial⟩ fun x z h=> .trans (by kernel_rfl) h
def F47: (El Y43)->(El Y3)->Option (El Y4):=fun a0 a1=>
 bif decide ((20:Int)< (↑(Vc a0):Int)) then Va F48 fun x0=>some x0
 else
 Va (F49 a0) fun x1=>
 Va (F73 x1) fun x2=>
 Va (F49 a0) fun x3=>
 Va (F72 x3 a1) fun x4=>
 Va
 (run
 (fun s5=>
 bif decide (s5.2< (↑(Vc x2):Int)) then
 Va
 (bif decide ((0:Int)<s5.2) then
 Va (idx x2 s5.2) fun x6=>
 Va (idx x6 (0:Int)) fun x7=>
 Va (idx x2 (Vb .i64 (s5.2 - (1:Int)))) fun x8=>
 Va (idx x8 (0:Int)) fun x9=>
 bif decide (x7<=x9) then some true
 else
 Va (idx x2 s5.2) fun x10=>
 Va (idx x10 (1:Int)) fun x11=>
 Va (idx x2 (Vb .i64 (s5.2 - (1:Int)))) fun x12=>
 Va (idx x12 (1:Int)) fun x13=>some (decide (x11<=x13))
 else some false)
 fun x14=>
 bif x14 then some (.inr (.inr false))
 else
 Va
 (bif !s5.1 then Va (idx x2 s5.2) fun x15=>Va (idx x15 (0:Int)) fun x16=>some (decide (a1<=x16))
 else some false)
 fun x17=>
 bif x17 then
 Va
 (bif !x4.2 then some true
 else Va (idx x2 s5.2) fun x18=>Va (idx x18 (1:Int)) fun x19=>some !decide (x4.1.2.1.2.1=x19))
 fun x20=>bif x20 then some (.inr (.inr false)) else some (.inl (true,Vb .i64 (s5.2+(1:Int))))
 else some (.inl (s5.1,Vb .i64 (s5.2+(1:Int))))
 else some (.inr (.inl s5.1)))
 (false,(0:Int)))
 fun x21=>
 Vg (fun y22=>Va (bif y22==x4.2 then Va F48 fun x23=>some x23 else some false) fun x24=>some x24)
 (fun y25=>some y25) x21
abbrev F47A:ZaS:=(.cons (.pd Y43) (.cons (.pd Y3) .nil))
def F47S:Tr.Spec:= {args:=F47A,res:=(.cons (.pd Y4) .nil),fns:=[],α:=El Y4,f:=fun x=>F47 x.1 x.2.1,unp:=fun z=>(((),(),()),(z,())) }
theorem F47_ok:ZaC Tryz.prog 11 F47S:=Zag (rws:=[]) (zxs:=[]) (nt:=90) (m:=[(14,[F48S]),(22,[F49S]),(23,[F72S]),(25,[F73S])]) (fn:=Tryz.f11) (hint:=(hS (hS (hS (hS (hS (.seq (hS (.lp ⟨[(8,(.pd Y4)),(9,(.pd Y3))],[],[1,5,6,7],[],[],[]⟩ [((.exit 0),⟨[(8,(.pd Y4))],[],[7],[],[],[]⟩),(.ret,⟨[(4,(.pd Y4))],[],[],[],[],[]⟩)] (hS (.seq (.seq (.seq (.reg [(59,Y4)]) .leaf) (.seq (.reg [(70,Y4)]) (.cnd none (hS (.seq (.reg [(83,Y4)]) .leaf)) .leaf))) .leaf)))) (.seq (.reg [(4,Y4)]) .leaf)))))))) (pack:=fun y=>y.2.1) ZaV tab_ok ⟨⟨F48_ok,trivial⟩,⟨F49_ok,trivial⟩,⟨F72_ok,trivial⟩,⟨F73_ok,trivial⟩,trivial⟩ fun x z h=> .trans (by kernel_rfl) h
end
end Q
