/- The functions of the program as functions of Lean, and that the program computes them; printed by a program of mine. Conditions: none. -/
import Derived.Test.YtdpenljjnfmgiaaGreatFin45a
open Tr Go Go.Proofs
open Int renaming toNat ->Vf
open Go.IntKind renaming wrap ->Vc
open List renaming length ->Vb,set ->Vg
open Option renaming bind ->Va
open Sum renaming elim ->Ve
open UInt8 renaming toNat ->Vd
namespace Q
noncomputable section
def F11: (El Y29)->(El ZgQ)->Option (El Y3×El Y51×El Y35):=fun a0 a1=>
 Va (F17 a0 a1) fun x0=>
 bif !decide (x0=(0:Int)) then some ((0:Int),[],x0)
 else
 Va (F13 a0 a1) fun x1=>
 Va x1[Vf (0:Int)]? fun x2=>
 bif !x2.1 then some ((0:Int),[],(34:Int))
 else
 Va
 (run
 (fun s3=>
 bif decide (s3.2< (↑(Vb a1):Int)) then
 Va (inb s3.2 (9:Nat)) fun x4=>
 Va x1[x4]? fun x5=>
 Va (Zas (decide (Vb s3.1+Vb [x5.2.2.2.1]<=Zax))) fun _=>
 Va (inb s3.2 (9:Nat)) fun x7=>
 Va x1[x7]? fun x8=>some (.inl (s3.1++[x5.2.2.2.1],Vc .i64 (x8.2.2.2.1.2.2.1+(1:Int))))
 else some (.inr s3.1))
 ([],(0:Int)))
 fun x9=>Va x1[Vf (0:Int)]? fun x10=>Va (F12 a0 x10.2.1) fun x11=>some (x11,x9,(0:Int))
def F11S:Tr.Spec:= {args:=(.cons (.pd Y29) (.cons (.pd ZgQ) .nil)),res:=(.cons (.pd Y3) (.cons (.pd Y51) (.cons (.pd Y35) .nil))),fns:=[],α:=El Y3×El Y51×El Y35,f:=fun x=>F11 x.1 x.2.1,unp:=fun z=>(((),(),()),(z.1,z.2.1,z.2.2,())) }
theorem F11_ok:ZaF Tryz.prog 83 F11S:=Zaf (rws:=[]) (zxs:=[]) (nt:=47) (m:=[(137,[F17S]),(138,[F13S]),(139,[F12S])]) (fn:=Tryz.f83) (hint:=(hS (hS (hS (hS (hS (.seq (hS (.lp ⟨[(9,(.own ZnT false)),(10,(.pd Y3))],[],[1,2,8],[],[],[]⟩ [((.exit 0),⟨[(9,(.own ZnT false))],[],[2,8],[],[],[]⟩)] .leaf)) .leaf))))))) (pack:=fun y=>(y.2.1,y.2.2.1,y.2.2.2.1)) ZaX tab_ok ⟨⟨F17_ok,trivial⟩,⟨F13_ok,trivial⟩,⟨F12_ok,trivial⟩,trivial⟩ fun x z h=> .trans (by kernel_rfl) h
def F44: (El Y48)->Option (El Y3):=fun a0=>
 Va
 (run
 (fun s0=>
 bif decide (s0.2< (↑(Vb a0.1):Int)) then
 Va (idx a0.1 s0.2) fun x1=>
 Va
 (bif x1.1 then some true
 else
 bif decide (x1.2.2.2.2.2.2.1< (0:Int)) then some true
 else
 bif decide (x1.2.2.2.2.2.2.2.1<x1.2.2.2.2.2.2.1) then some true
 else some (decide ((14400:Int)<Vc .i64 (x1.2.2.2.2.2.2.2.1 - x1.2.2.2.2.2.2.1))))
 fun x2=>
 bif x2 then some (.inl (s0.1,Vc .i64 (s0.2+(1:Int))))
 else
 some
 (.inl
 (Vc .i64 (s0.1+Vc .i64 (x1.2.2.2.2.2.2.2.1 - x1.2.2.2.2.2.2.1)),
 Vc .i64 (s0.2+(1:Int))))
 else some (.inr s0.1))
 ((0:Int),(0:Int)))
 fun x3=>some x3
def F44S:Tr.Spec:= {args:=(.cons (.pd Y48) .nil),res:=(.cons (.pd Y3) .nil),fns:=[],α:=El Y3,f:=fun x=>F44 x.1,unp:=fun z=>(((),()),(z,())) }
theorem F44_ok:ZaF Tryz.prog 84 F44S:=Zaf (rws:=[]) (zxs:=[]) (nt:=44) (m:=[]) (fn:=Tryz.f84) (hint:=(hS (hS (.seq (hS (.lp ⟨[(3,(.pd Y3)),(9,(.pd Y3))],[],[7,8],[],[],[]⟩ [((.exit 0),⟨[(3,(.pd Y3))],[],[],[],[],[]⟩)] (hS (hS (.seq (hS (.seq (.seq (.reg [(34,Y4)]) .leaf) .leaf)) .leaf))))) .leaf)))) (pack:=fun y=>y.2.1) ZaX tab_ok trivial fun x z h=> .trans (by kernel_rfl) h
def F41: (El Y31)->(El Y33)->(El Y48)->Option (El Y50×El Y51×El Y35):=fun a0 a1 a2=>
 Va (F42 a0 a2) fun x0=>
 bif !decide (x0.2=(0:Int)) then some (((0:Int),(0:Int),(0:Int),(0:Int),(0:Int),()),[],x0.2)
 else
 Va (F11 a0.2.2.2.2.2.1 x0.1) fun x1=>
 bif !decide (x1.2.2=(0:Int)) then some (((0:Int),(0:Int),(0:Int),(0:Int),(0:Int),()),[],x1.2.2)
 else
 Va (F44 a2) fun x2=>
 Va
 (bif decide ((0:Int)< (↑(Vb a2.1):Int)) then
 Va (idx a2.1 (0:Int)) fun x3=>
 Va (idx a2.1 (Vc .i64 ((↑(Vb a2.1):Int) - (1:Int)))) fun x4=>
 some (x3.2.2.2.2.2.2.1,x4.2.2.2.2.2.2.2.1,(↑(Vb x0.1):Int),x1.1,x2,())
 else some (a1.2.2.1,a1.2.2.1,(↑(Vb x0.1):Int),x1.1,x2,()))
 fun x5=>some (x5,x1.2.1,(0:Int))
def F41S:Tr.Spec:= {args:=(.cons (.pd Y31) (.cons (.pd Y33) (.cons (.pd Y48) .nil))),res:=(.cons (.pd Y50) (.cons (.pd Y51) (.cons (.pd Y35) .nil))),fns:=[],α:=El Y50×El Y51×El Y35,f:=fun x=>F41 x.1 x.2.1 x.2.2.1,unp:=fun z=>(((),(),(),()),(z.1,z.2.1,z.2.2,())) }
theorem F41_ok:ZaF Tryz.prog 38 F41S:=Zaf (rws:=[]) (zxs:=[]) (nt:=68) (m:=[(82,[F42S]),(83,[F11S]),(84,[F44S])]) (fn:=Tryz.f38) (hint:=(hS (hS (hS (hS (hS (hS (.seq (hS (hS (.cnd (some (⟨[],[],[6,12],[],[],[]⟩,[(.normal,⟨[(13,(.var Y50 (.pd Y50)))],[],[6,12],[],[],[]⟩)])) .leaf .leaf))) .leaf)))))))) (pack:=fun y=>(y.2.1,y.2.2.1,y.2.2.2.1)) ZaX tab_ok ⟨⟨F42_ok,trivial⟩,⟨F11_ok,trivial⟩,⟨F44_ok,trivial⟩,trivial⟩ fun x z h=> .trans (by kernel_rfl) h
def F19: (El Y3)->(El Y3)->(El Y3)->Option (El Y4):=fun a0 a1 a2=>
 Va
 (bif decide (a1<=a0) then some true
 else some (decide (Vc .u64 (Vc .u64 a1 - Vc .u64 a0)<=Vc .u64 a2)))
 fun x0=>some x0
def F19S:Tr.Spec:= {args:=(.cons (.pd Y3) (.cons (.pd Y3) (.cons (.pd Y3) .nil))),res:=(.cons (.pd Y4) .nil),fns:=[],α:=El Y4,f:=fun x=>F19 x.1 x.2.1 x.2.2.1,unp:=fun z=>(((),(),(),()),(z,())) }
theorem F19_ok:ZaF Tryz.prog 253 F19S:=Zaf (rws:=[]) (zxs:=[]) (nt:=20) (m:=[]) (fn:=Tryz.f253) (hint:=(hS (.seq (.reg [(6,Y4)]) .leaf))) (pack:=fun y=>y.2.1) ZaX tab_ok trivial fun x z h=> .trans (by kernel_rfl) h
def F76(a0:El Y31)(a1:El Y33)(a2:El Y3):Option (El Y38×El Y35):=Va (F20 a0 a1) fun x0=>bif !decide (x0=(0:Int)) then some ([],x0) else bif a1.2.2.2.1 then some ([],(22:Int)) else bif a1.2.2.2.2.2.2.2.2.2.1 then some ([],(22:Int)) else bif decide (a2<a1.2.2.1) then some ([],(10:Int)) else bif decide ((3155932800:Int)<a2) then some ([],(10:Int)) else none
def F76S:Tr.Spec:= {args:=(.cons (.pd Y31) (.cons (.pd Y33) (.cons (.pd Y3) .nil))),res:=(.cons (.pd Y38) (.cons (.pd Y35) .nil)),fns:=[],α:=El Y38×El Y35,f:=fun x=>F76 x.1 x.2.1 x.2.2.1,unp:=fun z=>(((),(),(),()),(z.1,z.2,())) }
theorem F76_ok:ZaF Tryz.prog 15 F76S:=Zaf (m:=[(33,[F20S])]) (rws:=[]) (zxs:=[]) (nt:=99) (fn:=Tryz.f15) (hint:= .leaf) (pack:=fun y=>(y.2.1,y.2.2.1)) ZaX tab_ok ⟨⟨F20_ok,trivial⟩,trivial⟩ fun x z h=> .trans (by kernel_rfl) h
abbrev Y91:Ty:= .ref
abbrev Y89:Ty:= .sl Y91
abbrev Y92:Ty:= .ref
abbrev Y94:Ty:= .prod Y3 (.prod Y3 (.prod Y3 (.prod Y3 (.prod Y3 (.prod Y4 (.prod Y92 (.prod Y46 .unit)))))))
abbrev ZrI:Ty:= .ref
abbrev ZrK:Ty:= .ref
abbrev Zrs:Ty:= .sl Y89
abbrev Zr4:Ty:= .prod Y31 (.prod Y33 (.prod Zl3 (.prod Zrs (.prod Y89 (.prod Y89 .unit)))))
abbrev Zr7:Ty:= .ref
abbrev Zrw:Ty:= .int .u64
abbrev Zrn:Ty:= .ref
abbrev Zru:Ty:= .arr 9 Y3
abbrev ZrT:Ty:= .prod Zrn (.prod Y92 (.prod ZlP (.prod Y3 (.prod Zru .unit))))
abbrev ZrP:Ty:= .prod Y91 (.prod Y3 (.prod Y3 (.prod Y4 (.prod ZlP (.prod Y87 .unit)))))
abbrev Zrz:Ty:= .int .i64
abbrev ZrB:Ty:= .int .u32
abbrev ZrV:Ty:= .ref
abbrev Zro:Ty:= .int .u64
abbrev ZrD:Ty:= .ref
abbrev Zrx:Ty:= .ref
abbrev Zrl:Ty:= .prod Y3 (.prod Y3 (.prod Y3 (.prod Y3 (.prod Zrt .unit))))
abbrev Zr3:Ty:= .sl Zrl
def tyW:List (Nat×Ty):=tyTab++[(91,Y91),(89,Y89),(92,Y92),(94,Y94),(101,ZrI),(148,ZrK),(154,Zrs),(156,Zr4),(163,Zr7),(166,Zrw),(206,Zrn),(207,Zru),(209,ZrT),(212,ZrP),(227,Zrz),(235,ZrB),(272,ZrV),(277,Zro),(281,ZrD),(302,Zrx),(322,Zrl),(319,Zr3)]
def pkW:List (Nat×Nat):=pkTab++[(91,1),(92,1),(101,2),(148,1),(163,2),(206,1),(272,2),(281,1),(302,1)]
theorem Zps:ZgM Tryz.prog tyW mapTab pkW bdTab=true:=by kernel_rfl
theorem Zqh:Zq0 Tryz.prog [91]=true:=by kernel_rfl
def fnW:List (Nat×Func):=[(37,Tryz.f37),(39,Tryz.f39),(40,Tryz.f40),(41,Tryz.f41),(42,Tryz.f42),(43,Tryz.f43),(57,Tryz.f57),(77,Tryz.f77),(78,Tryz.f78),(79,Tryz.f79),(80,Tryz.f80),(81,Tryz.f81),(85,Tryz.f85),(86,Tryz.f86),(87,Tryz.f87),(88,Tryz.f88),(89,Tryz.f89),(90,Tryz.f90),(129,Tryz.f129),(130,Tryz.f130),(131,Tryz.f131),(132,Tryz.f132),(140,Tryz.f140),(141,Tryz.f141),(142,Tryz.f142),(143,Tryz.f143),(144,Tryz.f144),(145,Tryz.f145),(146,Tryz.f146),(147,Tryz.f147),(148,Tryz.f148),(149,Tryz.f149),(150,Tryz.f150),(191,Tryz.f191),(192,Tryz.f192),(193,Tryz.f193),(194,Tryz.f194),(195,Tryz.f195),(196,Tryz.f196),(203,Tryz.f203),(204,Tryz.f204),(205,Tryz.f205),(206,Tryz.f206),(207,Tryz.f207),(225,Tryz.f225),(226,Tryz.f226),(227,Tryz.f227),(228,Tryz.f228),(229,Tryz.f229),(236,Tryz.f236),(245,Tryz.f245),(246,Tryz.f246),(247,Tryz.f247),(248,Tryz.f248),(249,Tryz.f249),(250,Tryz.f250),(254,Tryz.f254)]
theorem ZqM:ZiG Tryz.prog fnW:=⟨⟨Tryz.func37,by kernel_rfl,by kernel_rfl⟩,⟨Tryz.func39,by kernel_rfl,by kernel_rfl⟩,⟨Tryz.func40,by kernel_rfl,by kernel_rfl⟩,⟨Tryz.func41,by kernel_rfl,by kernel_rfl⟩,⟨Tryz.func42,by kernel_rfl,by kernel_rfl⟩,⟨Tryz.func43,by kernel_rfl,by kernel_rfl⟩,⟨Tryz.func57,by kernel_rfl,by kernel_rfl⟩,⟨Tryz.func77,by kernel_rfl,by kernel_rfl⟩,⟨Tryz.func78,by kernel_rfl,by kernel_rfl⟩,⟨Tryz.func79,by kernel_rfl,by kernel_rfl⟩,⟨Tryz.func80,by kernel_rfl,by kernel_rfl⟩,⟨Tryz.func81,by kernel_rfl,by kernel_rfl⟩,⟨Tryz.func85,by kernel_rfl,by kernel_rfl⟩,⟨Tryz.func86,by kernel_rfl,by kernel_rfl⟩,⟨Tryz.func87,by kernel_rfl,by kernel_rfl⟩,⟨Tryz.func88,by kernel_rfl,by kernel_rfl⟩,⟨Tryz.func89,by kernel_rfl,by kernel_rfl⟩,⟨Tryz.func90,by kernel_rfl,by kernel_rfl⟩,⟨Tryz.func129,by kernel_rfl,by kernel_rfl⟩,⟨Tryz.func130,by kernel_rfl,by kernel_rfl⟩,⟨Tryz.func131,by kernel_rfl,by kernel_rfl⟩,⟨Tryz.func132,by kernel_rfl,by kernel_rfl⟩,⟨Tryz.func140,by kernel_rfl,by kernel_rfl⟩,⟨Tryz.func141,by kernel_rfl,by kernel_rfl⟩,⟨Tryz.func142,by kernel_rfl,by kernel_rfl⟩,⟨Tryz.func143,by kernel_rfl,by kernel_rfl⟩,⟨Tryz.func144,by kernel_rfl,by kernel_rfl⟩,⟨Tryz.func145,by kernel_rfl,by kernel_rfl⟩,⟨Tryz.func146,by kernel_rfl,by kernel_rfl⟩,⟨Tryz.func147,by kernel_rfl,by kernel_rfl⟩,⟨Tryz.func148,by kernel_rfl,by kernel_rfl⟩,⟨Tryz.func149,by kernel_rfl,by kernel_rfl⟩,⟨Tryz.func150,by kernel_rfl,by kernel_rfl⟩,⟨Tryz.func191,by kernel_rfl,by kernel_rfl⟩,⟨Tryz.func192,by kernel_rfl,by kernel_rfl⟩,⟨Tryz.func193,by kernel_rfl,by kernel_rfl⟩,⟨Tryz.func194,by kernel_rfl,by kernel_rfl⟩,⟨Tryz.func195,by kernel_rfl,by kernel_rfl⟩,⟨Tryz.func196,by kernel_rfl,by kernel_rfl⟩,⟨Tryz.func203,by kernel_rfl,by kernel_rfl⟩,⟨Tryz.func204,by kernel_rfl,by kernel_rfl⟩,⟨Tryz.func205,by kernel_rfl,by kernel_rfl⟩,⟨Tryz.func206,by kernel_rfl,by kernel_rfl⟩,⟨Tryz.func207,by kernel_rfl,by kernel_rfl⟩,⟨Tryz.func225,by kernel_rfl,by kernel_rfl⟩,⟨Tryz.func226,by kernel_rfl,by kernel_rfl⟩,⟨Tryz.func227,by kernel_rfl,by kernel_rfl⟩,⟨Tryz.func228,by kernel_rfl,by kernel_rfl⟩,⟨Tryz.func229,by kernel_rfl,by kernel_rfl⟩,⟨Tryz.func236,by kernel_rfl,by kernel_rfl⟩,⟨Tryz.func245,by kernel_rfl,by kernel_rfl⟩,⟨Tryz.func246,by kernel_rfl,by kernel_rfl⟩,⟨Tryz.func247,by kernel_rfl,by kernel_rfl⟩,⟨Tryz.func248,by kernel_rfl,by kernel_rfl⟩,⟨Tryz.func249,by kernel_rfl,by kernel_rfl⟩,⟨Tryz.func250,by kernel_rfl,by kernel_rfl⟩,⟨Tryz.func254,by kernel_rfl,by kernel_rfl⟩,trivial⟩
def mW:List (Nat×List Tr.Spec):=[(33,[F20S]),(34,[F22S]),(35,[F77S]),(36,[F78S]),(38,[F41S]),(62,[F8S]),(113,[F68S]),(200,[F69S]),(253,[F19S])]
def ZrY:Env:=ZoF {mkE tyW mapTab pkW [] [] mW 99 bdTab with pz:=fun n=>[91].contains n} 40 fnW 9
def exN:El Y31:=(([(([65]:List UInt8),(0:Int),false,(0:Int),()),(([66]:List UInt8),(0:Int),false,(0:Int),())]:List (El Zq5)),([(([82]:List UInt8),(0:Int),false,())]:List (El ZqZ)),([((0:Int),(0:Int),(0:Int),([114,48]:List UInt8),(0:Int),false,false,([((0:Int),(100:Int),(100:Int),true,false,()),((1:Int),(300:Int),(300:Int),false,true,())]:List (El Zn7)),()),((0:Int),(0:Int),(0:Int),([114,49]:List UInt8),(0:Int),false,false,([((0:Int),(200:Int),(200:Int),true,false,()),((1:Int),(350:Int),(350:Int),false,true,())]:List (El Zn7)),()),((0:Int),(0:Int),(0:Int),([114,50]:List UInt8),(0:Int),false,false,([((0:Int),(250:Int),(250:Int),true,false,()),((1:Int),(340:Int),(340:Int),false,true,())]:List (El Zn7)),())]:List (El Y78)),([]:List (El ZqX)),([]:List (El ZdC)),(([(([112]:List UInt8),(150:Int),(1:Int),(16:Int),(0:Int),(255:Int),())]:List (El Zo1)),(0:Int),(0:Int),(0:Int),()),())
def exQ:El Y33:=((0:Int),(1:Int),(0:Int),false,(1:Int),(0:Int),false,false,(0:Int),false,())
def exA:El Y38:=([((([(true,(2:Int),(0:Int),(1:Int),(0:Int),(1:Int),(250:Int),(340:Int),false,())]:List (El Y82)),()),((250:Int),(340:Int),(1:Int),(150:Int),(0:Int),()),([((0:Int),(0:Int),(0:Int),(150:Int),())]:List (El ZnT)),()),((([(true,(0:Int),(0:Int),(1:Int),(0:Int),(1:Int),(100:Int),(300:Int),false,())]:List (El Y82)),()),((100:Int),(300:Int),(1:Int),(150:Int),(0:Int),()),([((0:Int),(0:Int),(0:Int),(150:Int),())]:List (El ZnT)),())]:List (El Y53))
def exB:El Y38:=([((([(true,(1:Int),(0:Int),(1:Int),(0:Int),(1:Int),(200:Int),(350:Int),false,())]:List (El Y82)),()),((200:Int),(350:Int),(1:Int),(150:Int),(0:Int),()),([((0:Int),(0:Int),(0:Int),(150:Int),())]:List (El ZnT)),()),((([(true,(0:Int),(0:Int),(1:Int),(0:Int),(1:Int),(100:Int),(300:Int),false,())]:List (El Y82)),()),((100:Int),(300:Int),(1:Int),(150:Int),(0:Int),()),([((0:Int),(0:Int),(0:Int),(150:Int),())]:List (El ZnT)),())]:List (El Y53))
def Zq3(n:El Y31)(q:El Y33)(u:El Y3):Option (El Y38×El Y35):=bif eqD Y31 n exN&&eqD Y33 q exQ then(bif eqD Y3 u (1000:Int) then some (exA,(0:Int)) else bif eqD Y3 u (200:Int) then some (exB,(0:Int)) else none) else none
abbrev ZqW:Za5:= .cons (.pd Y31) (.cons (.pd Y33) (.cons (.pd Y3) .nil))
abbrev Zry:Za5:= .cons (.pd Y38) (.cons (.pd Y35) .nil)
def Zr0:Tr.Spec:= {args:=ZqW,res:=Zry,fns:=[],α:=El Y38×El Y35,f:=fun x=>Zq3 x.1 x.2.1 x.2.2.1,unp:=fun z=>(((),(),(),()),(z.1,z.2,())) }
def Zrb(x:ZcJ ZqW):Option (El Y38×El Y35):=Zh5 ZrY (Zcp Tryz.f15) Tryz.f15.results (.all 40) ZqW Zry (fun y=>(y.2.1,y.2.2.1)) x
theorem Zqi:Zrb (exN,exQ,(1000:Int),())=some (exA,(0:Int)):=by kernel_rfl
theorem Zqp:Zrb (exN,exQ,(200:Int),())=some (exB,(0:Int)):=by kernel_rfl
theorem Zqx(x:ZcJ ZqW)(z:El Y38×El Y35)(h:Zq3 x.1 x.2.1 x.2.2.1=some z):Zrb x=some z:=by
 obtain⟨n,q,u,⟨⟩⟩:=x;simp only[Zq3]at h
 cases h1: (eqD Y31 n exN&&eqD Y33 q exQ) with
 |false=>rw[h1]at h;simp at h
 |true=>
  rw[h1]at h;simp only[Bool.and_eq_true]at h1;obtain rfl:=Zfv _ _ _ h1.1;obtain rfl:=Zfv _ _ _ h1.2;simp only[cond_true]at h
  cases h2:eqD Y3 u (1000:Int) with
  |true=>
   rw[h2]at h;obtain rfl:=Zfv _ _ _ h2;simp only[cond_true,Option.some.injEq]at h;subst h
   exact Zqi
  |false=>
   rw[h2]at h;simp only[cond_false]at h
   cases h3:eqD Y3 u (200:Int) with
   |true=>
    rw[h3]at h;obtain rfl:=Zfv _ _ _ h3;simp only[cond_true,Option.some.injEq]at h;subst h
    exact Zqp
   |false=>rw[h3]at h;simp at h
theorem Zqo:ZaF Tryz.prog 15 Zr0:=ZkV (m:=mW) (fns:=fnW) (n:=40) (d:=9) (pzs:=[91]) (fn:=Tryz.f15) (pack:=fun y=>(y.2.1,y.2.2.1)) ZaX Zps Zqh ⟨⟨F20_ok,trivial⟩,⟨F22_ok,trivial⟩,⟨F77_ok,trivial⟩,⟨F78_ok,trivial⟩,⟨F41_ok,trivial⟩,⟨F8_ok,trivial⟩,⟨F68_ok,trivial⟩,⟨F69_ok,trivial⟩,⟨F19_ok,trivial⟩,trivial⟩ ZqM Zqx
def F75(a0:El Y31)(a1:El Y33)(a2:El Y3):Option (El Y38×El Y35):=Zq3 a0 a1 a2
def F75S:Tr.Spec:= {args:=(.cons (.pd Y31) (.cons (.pd Y33) (.cons (.pd Y3) .nil))),res:=(.cons (.pd Y38) (.cons (.pd Y35) .nil)),fns:=[],α:=El Y38×El Y35,f:=fun x=>F75 x.1 x.2.1 x.2.2.1,unp:=fun z=>(((),(),(),()),(z.1,z.2,())) }
theorem F75_ok:ZaF Tryz.prog 15 F75S:=Zqo
def F80: (El Y50)->(El Y50)->Option (El Y4):=fun a0 a1=>
 Va
 (run
 (fun s0=>
 bif decide (s0< (4:Int)) then
 Va (inb s0 (4:Nat)) fun x1=>
 Va [a0.2.1,a0.2.2.1,a0.2.2.2.1,a0.2.2.2.2.1][x1]? fun x2=>
 Va (inb s0 (4:Nat)) fun x3=>
 Va [a1.2.1,a1.2.2.1,a1.2.2.2.1,a1.2.2.2.2.1][x3]? fun x4=>
 bif !decide (x2=x4) then
 Va (inb s0 (4:Nat)) fun x5=>
 Va [a0.2.1,a0.2.2.1,a0.2.2.2.1,a0.2.2.2.2.1][x5]? fun x6=>
 Va (inb s0 (4:Nat)) fun x7=>
 Va [a1.2.1,a1.2.2.1,a1.2.2.2.1,a1.2.2.2.2.1][x7]? fun x8=>some (.inr (.inr (decide (x6<x8))))
 else some (.inl (Vc .i64 (s0+(1:Int))))
 else some (.inr (.inl ())))
 (0:Int))
 fun x9=>Ve (fun _=>some false) (fun y11=>some y11) x9
def F80S:Tr.Spec:= {args:=(.cons (.pd Y50) (.cons (.pd Y50) .nil)),res:=(.cons (.pd Y4) .nil),fns:=[],α:=El Y4,f:=fun x=>F80 x.1 x.2.1,unp:=fun z=>(((),(),()),(z,())) }
theorem F80_ok:ZaF Tryz.prog 56 F80S:=Zaf (rws:=[]) (zxs:=[]) (nt:=44) (m:=[]) (fn:=Tryz.f56) (hint:=(hS (hS (.seq (hS (.lp ⟨[(26,(.pd Y3))],[],[5,6],[],[],[]⟩ [((.exit 0),⟨[],[],[],[],[],[]⟩),(.ret,⟨[(4,(.pd Y4))],[],[],[],[],[]⟩)] .leaf)) .leaf)))) (pack:=fun y=>y.2.1) ZaX tab_ok trivial fun x z h=> .trans (by kernel_rfl) h
def F108(a0:El Y46):Option (El Y46):=Tr.clnLegG a0
def F108S:Tr.Spec:= {args:=(.cons (.pd Y46) .nil),res:=(.cons (.pd Y46) .nil),fns:=[],α:=El Y46,f:=fun x=>F108 x.1,unp:=fun z=>(((),()),(z,())) }
theorem F108_ok:ZaF Tryz.prog 57 F108S:=Tr.clnLeg_ok
def F109(a0:El Y51):Option (El Y51):=Tr.clnTicG a0
def F109S:Tr.Spec:= {args:=(.cons (.pd Y51) .nil),res:=(.cons (.pd Y51) .nil),fns:=[],α:=El Y51,f:=fun x=>F109 x.1,unp:=fun z=>(((),()),(z,())) }
theorem F109_ok:ZaF Tryz.prog 58 F109S:=Tr.clnTic_ok
def F73: (El Y38)->(El Y3)->Option (El Y53×El Y4):=fun a0 a1=>
 Va
 (run
 (fun s0=>
 bif decide (s0.2< (↑(Vb a0):Int)) then
 Va (idx a0 s0.2) fun x1=>
 Va
 (bif decide (a1<=x1.2.1.1) then
 bif decide (s0.1< (0:Int)) then some true
 else Va (idx a0 s0.1) fun x2=>Va (F80 x1.2.1 x2.2.1) fun x3=>some x3
 else some false)
 fun x4=>
 bif x4 then some (.inl (s0.2,Vc .i64 (s0.2+(1:Int)))) else some (.inl (s0.1,Vc .i64 (s0.2+(1:Int))))
 else some (.inr s0.1))
 ((-1:Int),(0:Int)))
 fun x5=>
 bif decide (x5< (0:Int)) then some (((([]:List (El Y82)),()),((0:Int),(0:Int),(0:Int),(0:Int),(0:Int),()),([]:List (El ZnT)),()),false)
 else
 Va (idx a0 x5) fun x6=>
 Va (F108 x6.1.1) fun x7=>
 Va (F109 x6.2.2.1) fun x8=>some (((x7,x6.1.2),x6.2.1,x8,x6.2.2.2),true)
def F73S:Tr.Spec:= {args:=(.cons (.pd Y38) (.cons (.pd Y3) .nil)),res:=(.cons (.pd Y53) (.cons (.pd Y4) .nil)),fns:=[],α:=El Y53×El Y4,f:=fun x=>F73 x.1 x.2.1,unp:=fun z=>(((),(),()),(z.1,z.2,())) }
theorem F73_ok:ZaF Tryz.prog 23 F73S:=Zaf (rws:=[]) (zxs:=[]) (nt:=56) (m:=[(56,[F80S]),(57,[F108S]),(58,[F109S])]) (fn:=Tryz.f23) (hint:=(hS (hS (.seq (hS (.lp ⟨[(6,(.pd Y3)),(12,(.pd Y3))],[],[0,1,4,10,11],[],[],[]⟩ [((.exit 0),⟨[(6,(.pd Y3))],[],[0,4],[],[],[]⟩)] (hS (hS (.seq (hS (.seq (.reg [(35,Y4)]) .leaf)) .leaf))))) .leaf)))) (pack:=fun y=>(y.2.1,y.2.2.1)) ZaX tab_ok ⟨⟨F80_ok,trivial⟩,⟨F108_ok,trivial⟩,⟨F109_ok,trivial⟩,trivial⟩ fun x z h=> .trans (by kernel_rfl) h
def F79: (El Y50)->Option (El Y98):=fun a0=>some [a0.1,a0.2.1,a0.2.2.1]
def F79S:Tr.Spec:= {args:=(.cons (.pd Y50) .nil),res:=(.cons (.pd Y98) .nil),fns:=[],α:=El Y98,f:=fun x=>F79 x.1,unp:=fun z=>(((),()),(z,())) }
theorem F79_ok:ZaF Tryz.prog 42 F79S:=Zaf (rws:=[]) (zxs:=[]) (nt:=10) (m:=[]) (fn:=Tryz.f42) (hint:= .leaf) (pack:=fun y=>y.2.1) ZaX tab_ok trivial fun x z h=> .trans (by kernel_rfl) h
def F81: (El Y98)->(El Y98)->Option (El Y3):=fun a0 a1=>
 Va a0[Vf (0:Int)]? fun x0=>
 Va a1[Vf (0:Int)]? fun x1=>
 bif !decide (x0=x1) then Va a1[Vf (0:Int)]? fun x2=>Va a0[Vf (0:Int)]? fun x3=>Va (F8 x2 x3) fun x4=>some x4
 else
 Va a0[Vf (1:Int)]? fun x5=>
 Va a1[Vf (1:Int)]? fun x6=>
 bif !decide (x5=x6) then
 Va a0[Vf (1:Int)]? fun x7=>Va a1[Vf (1:Int)]? fun x8=>Va (F8 x7 x8) fun x9=>some x9
 else Va a0[Vf (2:Int)]? fun x10=>Va a1[Vf (2:Int)]? fun x11=>Va (F8 x10 x11) fun x12=>some x12
def F81S:Tr.Spec:= {args:=(.cons (.pd Y98) (.cons (.pd Y98) .nil)),res:=(.cons (.pd Y3) .nil),fns:=[],α:=El Y3,f:=fun x=>F81 x.1 x.2.1,unp:=fun z=>(((),(),()),(z,())) }
theorem F81_ok:ZaF Tryz.prog 43 F81S:=Zaf (rws:=[]) (zxs:=[]) (nt:=30) (m:=[(62,[F8S])]) (fn:=Tryz.f43) (hint:= .leaf) (pack:=fun y=>y.2.1) ZaX tab_ok ⟨⟨F8_ok,trivial⟩,trivial⟩ fun x z h=> .trans (by kernel_rfl) h
def F67(a0:Int):Option (List UInt8):=Tr.fmtF a0
def F67S:Tr.Spec:= {args:=(.cons (.pd Y3) .nil),res:=(.cons (.pd Y9) .nil),fns:=[],α:=El Y9,f:=fun x=>F67 x.1,unp:=fun z=>(((),()),(z,())) }
theorem F67_ok:ZaF Tryz.prog 65 F67S:=Tr.fmt_ok
def F74: (El Y38)->Option (El Y9×El Y35):=fun a0=>
 Va
 (run
 (fun s0=>
 bif decide (s0.2< (↑(Vb a0):Int)) then
 Va (idx a0 s0.2) fun x1=>
 Va
 (bif decide ((0:Int)<s0.2) then
 Va (idx a0 (Vc .i64 (s0.2 - (1:Int)))) fun x2=>
 Va (F79 x2.2.1) fun x3=>
 Va (F79 x1.2.1) fun x4=>Va (F81 x3 x4) fun x5=>some (decide ((0:Int)<=x5))
 else some false)
 fun x6=>
 bif x6 then some (.inr (.inr ([],(8:Int))))
 else
 Va (F67 x1.2.1.1) fun x7=>
 Va (Tr.catStr x7 [(32:UInt8)]) fun x8=>
 Va (F67 x1.2.1.2.1) fun x9=>
 Va (Tr.catStr x8 x9) fun x10=>
 Va (Tr.catStr x10 [(32:UInt8)]) fun x11=>
 Va (F67 x1.2.1.2.2.1) fun x12=>
 Va (Tr.catStr x11 x12) fun x13=>
 Va (Tr.catStr x13 [(32:UInt8)]) fun x14=>
 Va (F67 x1.2.1.2.2.2.1) fun x15=>
 Va (Tr.catStr x14 x15) fun x16=>
 Va (Tr.catStr x16 [(32:UInt8)]) fun x17=>
 Va (F67 x1.2.1.2.2.2.2.1) fun x18=>
 Va (Tr.catStr x17 x18) fun x19=>
 Va (Tr.catStr x19 [(10:UInt8)]) fun x20=>
 Va (Tr.catStr s0.1 x20) fun x21=>some (.inl (x21,Vc .i64 (s0.2+(1:Int))))
 else some (.inr (.inl s0.1)))
 ([],(0:Int)))
 fun x22=>Ve (fun y23=>some (y23,(0:Int))) (fun y24=>some (y24.1,y24.2)) x22
def F74S:Tr.Spec:= {args:=(.cons (.pd Y38) .nil),res:=(.cons (.pd Y9) (.cons (.pd Y35) .nil)),fns:=[],α:=El Y9×El Y35,f:=fun x=>F74 x.1,unp:=fun z=>(((),()),(z.1,z.2,())) }
theorem F74_ok:ZaF Tryz.prog 27 F74S:=Zaf (rws:=[]) (zxs:=[]) (nt:=61) (m:=[(42,[F79S]),(43,[F81S]),(65,[F67S])]) (fn:=Tryz.f27) (hint:=(hS (hS (.seq (hS (.lp ⟨[(4,(.pd Y9)),(10,(.pd Y3))],[],[0,8,9],[],[],[]⟩ [((.exit 0),⟨[(4,(.pd Y9))],[],[],[],[],[]⟩),(.ret,⟨[(2,(.pd Y9)),(3,(.pd Y35))],[],[],[],[],[]⟩)] (hS (hS (.seq (hS (.seq (.seq (.reg [(30,Y4)]) .leaf) .leaf)) .leaf))))) .leaf)))) (pack:=fun y=>(y.2.1,y.2.2.1)) ZaX tab_ok ⟨⟨F79_ok,trivial⟩,⟨F81_ok,trivial⟩,⟨F67_ok,trivial⟩,trivial⟩ fun x z h=> .trans (by kernel_rfl) h
abbrev ZrU:Ty:= .ref
def tyH:List (Nat×Ty):=tyTab++[(123,ZrU),(166,Zrw),(227,Zrz),(235,ZrB),(277,Zro),(281,ZrD),(302,Zrx)]
def pkH:List (Nat×Nat):=pkTab++[(123,2),(281,1),(302,1)]
theorem Zpl:ZgM Tryz.prog tyH mapTab pkH bdTab=true:=by kernel_rfl
theorem Zqy:Zq0 Tryz.prog [91]=true:=by kernel_rfl
def fnH:List (Nat×Func):=[(25,Tryz.f25),(32,Tryz.f32),(60,Tryz.f60),(61,Tryz.f61),(63,Tryz.f63),(69,Tryz.f69),(90,Tryz.f90),(103,Tryz.f103),(149,Tryz.f149),(150,Tryz.f150),(161,Tryz.f161),(162,Tryz.f162),(163,Tryz.f163),(164,Tryz.f164),(165,Tryz.f165),(166,Tryz.f166),(167,Tryz.f167),(168,Tryz.f168),(204,Tryz.f204),(205,Tryz.f205),(211,Tryz.f211),(212,Tryz.f212),(213,Tryz.f213),(237,Tryz.f237)]
theorem Zqz:ZiG Tryz.prog fnH:=⟨⟨Tryz.func25,by kernel_rfl,by kernel_rfl⟩,⟨Tryz.func32,by kernel_rfl,by kernel_rfl⟩,⟨Tryz.func60,by kernel_rfl,by kernel_rfl⟩,⟨Tryz.func61,by kernel_rfl,by kernel_rfl⟩,⟨Tryz.func63,by kernel_rfl,by kernel_rfl⟩,⟨Tryz.func69,by kernel_rfl,by kernel_rfl⟩,⟨Tryz.func90,by kernel_rfl,by kernel_rfl⟩,⟨Tryz.func103,by kernel_rfl,by kernel_rfl⟩,⟨Tryz.func149,by kernel_rfl,by kernel_rfl⟩,⟨Tryz.func150,by kernel_rfl,by kernel_rfl⟩,⟨Tryz.func161,by kernel_rfl,by kernel_rfl⟩,⟨Tryz.func162,by kernel_rfl,by kernel_rfl⟩,⟨Tryz.func163,by kernel_rfl,by kernel_rfl⟩,⟨Tryz.func164,by kernel_rfl,by kernel_rfl⟩,⟨Tryz.func165,by kernel_rfl,by kernel_rfl⟩,⟨Tryz.func166,by kernel_rfl,by kernel_rfl⟩,⟨Tryz.func167,by kernel_rfl,by kernel_rfl⟩,⟨Tryz.func168,by kernel_rfl,by kernel_rfl⟩,⟨Tryz.func204,by kernel_rfl,by kernel_rfl⟩,⟨Tryz.func205,by kernel_rfl,by kernel_rfl⟩,⟨Tryz.func211,by kernel_rfl,by kernel_rfl⟩,⟨Tryz.func212,by kernel_rfl,by kernel_rfl⟩,⟨Tryz.func213,by kernel_rfl,by kernel_rfl⟩,⟨Tryz.func237,by kernel_rfl,by kernel_rfl⟩,trivial⟩
def mH:List (Nat×List Tr.Spec):=[(15,[F75S]),(23,[F73S]),(27,[F74S]),(62,[F8S])]
def ZrN:Env:=ZoF {mkE tyH mapTab pkH [] [] mH 158 bdTab with pz:=fun n=>[91].contains n} 40 fnH 12
def F48:Option Bool:=some true
def F48S:Tr.Spec:= {args:= .nil,res:=(.cons (.pd Y4) .nil),fns:=[],α:=El Y4,f:=fun _=>F48,unp:=fun z=>((),(z,())) }
theorem F_law45_exampleHolds_V:Zh5 ZrN (Zcp Tryz.f14) Tryz.f14.results (.all 40) .nil (.cons (.pd .bool) .nil) (fun y=>y.2.1) ()=some true:=by kernel_rfl
theorem F48_ok:ZaF Tryz.prog 14 F48S:=ZkV (m:=mH) (fns:=fnH) (n:=40) (d:=12) (pzs:=[91]) (fn:=Tryz.f14) (pack:=fun y=>y.2.1) ZaX Zpl Zqy ⟨⟨F75_ok,trivial⟩,⟨F73_ok,trivial⟩,⟨F74_ok,trivial⟩,⟨F8_ok,trivial⟩,trivial⟩ Zqz fun _ z h=>(F_law45_exampleHolds_V).trans h
def F50: (El Y31)->Option (El Y4):=fun a0=>
 Va
 (bif decide ((20:Int)< (↑(Vb a0.1):Int)) then some true
 else
 bif decide ((20:Int)< (↑(Vb a0.2.1):Int)) then some true
 else
 bif decide ((20:Int)< (↑(Vb a0.2.2.1):Int)) then some true
 else
 bif decide ((20:Int)< (↑(Vb a0.2.2.2.1):Int)) then some true
 else
 bif decide ((200:Int)< (↑(Vb a0.2.2.2.2.1):Int)) then some true
 else some (decide ((20:Int)< (↑(Vb a0.2.2.2.2.2.1.1):Int))))
 fun x0=>
 bif x0 then some false
 else
 Va
 (run
 (fun s1=>
 bif decide (s1< (↑(Vb a0.2.2.1):Int)) then
 Va (idx a0.2.2.1 s1) fun x2=>
 bif decide ((40:Int)< (↑(Vb x2.2.2.2.2.2.2.2.1):Int)) then some (.inr (.inr false))
 else some (.inl (Vc .i64 (s1+(1:Int))))
 else some (.inr (.inl ())))
 (0:Int))
 fun x3=>Ve (fun _=>some true) (fun y5=>some y5) x3
def F50S:Tr.Spec:= {args:=(.cons (.pd Y31) .nil),res:=(.cons (.pd Y4) .nil),fns:=[],α:=El Y4,f:=fun x=>F50 x.1,unp:=fun z=>(((),()),(z,())) }
theorem F50_ok:ZaF Tryz.prog 12 F50S:=Zaf (rws:=[]) (zxs:=[]) (nt:=54) (m:=[]) (fn:=Tryz.f12) (hint:=(hS (.seq (.seq (.reg [(38,Y4)]) .leaf) (.seq (hS (.lp ⟨[(3,(.pd Y3))],[],[1],[],[],[]⟩ [((.exit 0),⟨[],[],[],[],[],[]⟩),(.ret,⟨[(2,(.pd Y4))],[],[],[],[],[]⟩)] .leaf)) .leaf)))) (pack:=fun y=>y.2.1) ZaX tab_ok trivial fun x z h=> .trans (by kernel_rfl) h
def F98: (El Y3)->(El Y3)->(El Y3)->Option (El Y4):=fun a0 a1 a2=>Va (bif decide (a1<=a0) then some (decide (a0<=a2)) else some false) fun x0=>some x0
def F98S:Tr.Spec:= {args:=(.cons (.pd Y3) (.cons (.pd Y3) (.cons (.pd Y3) .nil))),res:=(.cons (.pd Y4) .nil),fns:=[],α:=El Y4,f:=fun x=>F98 x.1 x.2.1 x.2.2.1,unp:=fun z=>(((),(),(),()),(z,())) }
theorem F98_ok:ZaF Tryz.prog 91 F98S:=Zaf (rws:=[48]) (zxs:=[]) (nt:=15) (m:=[]) (fn:=Tryz.f91) (hint:=(hS (.seq (.reg [(6,Y4)]) .leaf))) (pack:=fun y=>y.2.1) ZaX tab_ok trivial fun x z h=> .trans (by kernel_rfl) h
def F97: (El Y3)->(El Y33)->Option (El Y4):=fun a0 a1=>
 Va
 (Va (F98 a1.1 (0:Int) (Vc .i64 (a0 - (1:Int)))) fun x0=>
 bif x0 then
 Va (F98 a1.2.1 (0:Int) (Vc .i64 (a0 - (1:Int)))) fun x1=>
 bif x1 then
 Va (F98 a1.2.2.1 (0:Int) (3155932800:Int)) fun x2=>
 bif x2 then
 Va (F98 a1.2.2.2.2.1 (0:Int) (8:Int)) fun x3=>
 bif x3 then
 Va (F98 a1.2.2.2.2.2.1 (0:Int) (86400:Int)) fun x4=>
 bif x4 then
 Va (F98 a1.2.2.2.2.2.2.2.2.1 (0:Int) (255:Int)) fun x5=>
 bif x5 then bif a1.2.2.2.2.2.2.2.2.2.1 then some !a1.2.2.2.1 else some !false else some false
 else some false
 else some false
 else some false
 else some false
 else some false)
 fun x6=>some x6
def F97S:Tr.Spec:= {args:=(.cons (.pd Y3) (.cons (.pd Y33) .nil)),res:=(.cons (.pd Y4) .nil),fns:=[],α:=El Y4,f:=fun x=>F97 x.1 x.2.1,unp:=fun z=>(((),(),()),(z,())) }
theorem F97_ok:ZaF Tryz.prog 45 F97S:=Zaf (rws:=[48]) (zxs:=[]) (nt:=46) (m:=[(91,[F98S])]) (fn:=Tryz.f45) (hint:=(hS (.seq (.reg [(4,Y4)]) .leaf))) (pack:=fun y=>y.2.1) ZaX tab_ok ⟨⟨F98_ok,trivial⟩,trivial⟩ fun x z h=> .trans (by kernel_rfl) h
def F88: (El Y9)->Option (El Y4):=fun a0=>
 Va (bif decide ((↑(Vb a0):Int)< (1:Int)) then some true else some (decide ((32:Int)< (↑(Vb a0):Int)))) fun x0=>
 bif x0 then some false
 else
 Va
 (run
 (fun s1=>
 bif decide (s1< (↑(Vb a0):Int)) then
 Va (idx a0 s1) fun x2=>
 Va
 (bif decide ((97:Int)<=(↑(Vd x2):Int)) then
 bif decide ((↑(Vd x2):Int)<=(122:Int)) then some true
 else
 bif decide ((65:Int)<=(↑(Vd x2):Int)) then
 bif decide ((↑(Vd x2):Int)<=(90:Int)) then some true
 else bif decide ((48:Int)<=(↑(Vd x2):Int)) then some (decide ((↑(Vd x2):Int)<=(57:Int))) else some false
 else bif decide ((48:Int)<=(↑(Vd x2):Int)) then some (decide ((↑(Vd x2):Int)<=(57:Int))) else some false
 else
 bif decide ((65:Int)<=(↑(Vd x2):Int)) then
 bif decide ((↑(Vd x2):Int)<=(90:Int)) then some true
 else bif decide ((48:Int)<=(↑(Vd x2):Int)) then some (decide ((↑(Vd x2):Int)<=(57:Int))) else some false
 else bif decide ((48:Int)<=(↑(Vd x2):Int)) then some (decide ((↑(Vd x2):Int)<=(57:Int))) else some false)
 fun x3=>
 Va
 (bif !x3 then
 bif !decide ((↑(Vd x2):Int)=(45:Int)) then
 bif !decide ((↑(Vd x2):Int)=(95:Int)) then some !decide ((↑(Vd x2):Int)=(46:Int)) else some false
 else some false
 else some false)
 fun x4=>bif x4 then some (.inr (.inr false)) else some (.inl (Vc .i64 (s1+(1:Int))))
 else some (.inr (.inl ())))
 (0:Int))
 fun x5=>Ve (fun _=>some true) (fun y7=>some y7) x5
def F88S:Tr.Spec:= {args:=(.cons (.pd Y9) .nil),res:=(.cons (.pd Y4) .nil),fns:=[],α:=El Y4,f:=fun x=>F88 x.1,unp:=fun z=>(((),()),(z,())) }
theorem F88_ok:ZaF Tryz.prog 214 F88S:=Zaf (rws:=[]) (zxs:=[]) (nt:=59) (m:=[]) (fn:=Tryz.f214) (hint:=(hS (.seq (.seq (.reg [(13,Y4)]) .leaf) (.seq (hS (.lp ⟨[(3,(.pd Y3))],[],[0],[],[],[]⟩ [((.exit 0),⟨[],[],[],[],[],[]⟩),(.ret,⟨[(2,(.pd Y4))],[],[],[],[],[]⟩)] (hS (.seq (hS (.seq (.reg [(5,Y4)]) (.seq (.reg [(58,Y4)]) .leaf))) .leaf)))) .leaf)))) (pack:=fun y=>y.2.1) ZaX tab_ok trivial fun x z h=> .trans (by kernel_rfl) h
def F89: (El Y3)->(El Y3)->(El Y3)->Option (El Y4):=fun a0 a1 a2=>Va (bif decide (a1<=a0) then some (decide (a0<=a2)) else some false) fun x0=>some x0
def F89S:Tr.Spec:= {args:=(.cons (.pd Y3) (.cons (.pd Y3) (.cons (.pd Y3) .nil))),res:=(.cons (.pd Y4) .nil),fns:=[],α:=El Y4,f:=fun x=>F89 x.1 x.2.1 x.2.2.1,unp:=fun z=>(((),(),(),()),(z,())) }
theorem F89_ok:ZaF Tryz.prog 215 F89S:=Zaf (rws:=[]) (zxs:=[]) (nt:=15) (m:=[]) (fn:=Tryz.f215) (hint:=(hS (.seq (.reg [(6,Y4)]) .leaf))) (pack:=fun y=>y.2.1) ZaX tab_ok trivial fun x z h=> .trans (by kernel_rfl) h
def F95: (El Y22)->Option (El Y3×El Y35):=fun a0=>
 bif decide ((64:Int)< (↑(Vb a0):Int)) then some ((0:Int),(5:Int))
 else
 Va
 (run
 (fun s0=>
 bif decide (s0< (↑(Vb a0):Int)) then
 Va (idx a0 s0) fun x1=>
 Va (F88 x1.1) fun x2=>
 bif !x2 then some (.inr (.inr (s0,(12:Int))))
 else
 Va
 (run
 (fun s3=>
 bif decide (s3<s0) then
 Va (idx a0 s3) fun x4=>
 Va (idx a0 s0) fun x5=>
 bif decide (x4.1=x5.1) then some (.inr (.inr (s0,(6:Int)))) else some (.inl (Vc .i64 (s3+(1:Int))))
 else some (.inr (.inl ())))
 (0:Int))
 fun x6=>
 Ve
 (fun _=>
 Va
 (Va (idx a0 s0) fun x8=>
 Va (F89 x8.2.1 (0:Int) (15:Int)) fun x9=>
 bif !x9 then some true
 else Va (idx a0 s0) fun x10=>Va (F89 x10.2.2.2.1 (0:Int) (3600:Int)) fun x11=>some !x11)
 fun x12=>bif x12 then some (.inr (.inr (s0,(2:Int)))) else some (.inl (Vc .i64 (s0+(1:Int)))))
 (fun y13=>some (.inr (.inr (y13.1,y13.2)))) x6
 else some (.inr (.inl ())))
 (0:Int))
 fun x14=>Ve (fun _=>some ((0:Int),(0:Int))) (fun y16=>some (y16.1,y16.2)) x14
def F95S:Tr.Spec:= {args:=(.cons (.pd Y22) .nil),res:=(.cons (.pd Y3) (.cons (.pd Y35) .nil)),fns:=[],α:=El Y3×El Y35,f:=fun x=>F95 x.1,unp:=fun z=>(((),()),(z.1,z.2,())) }
theorem F95_ok:ZaF Tryz.prog 169 F95S:=Zaf (rws:=[]) (zxs:=[]) (nt:=57) (m:=[(214,[F88S]),(215,[F89S])]) (fn:=Tryz.f169) (hint:=(hS (hS (.seq (hS (.lp ⟨[(4,(.pd Y3))],[],[0],[],[],[]⟩ [((.exit 0),⟨[],[],[],[],[],[]⟩),(.ret,⟨[(2,(.pd Y3)),(3,(.pd Y35))],[],[],[],[],[]⟩)] (hS (.seq (hS (.seq (hS (.lp ⟨[(5,(.pd Y3))],[],[0,4],[],[],[]⟩ [((.exit 2),⟨[],[],[0,4],[],[],[]⟩),(.ret,⟨[(2,(.pd Y3)),(3,(.pd Y35))],[],[],[],[],[]⟩)] .leaf)) (.seq (.reg [(55,Y4)]) .leaf))) .leaf)))) .leaf)))) (pack:=fun y=>(y.2.1,y.2.2.1)) ZaX tab_ok ⟨⟨F88_ok,trivial⟩,⟨F89_ok,trivial⟩,trivial⟩ fun x z h=> .trans (by kernel_rfl) h
def F93: (El Y23)->Option (El Y3×El Y35):=fun a0=>
 bif decide ((64:Int)< (↑(Vb a0):Int)) then some ((0:Int),(5:Int))
 else
 Va
 (run
 (fun s0=>
 bif decide (s0< (↑(Vb a0):Int)) then
 Va (idx a0 s0) fun x1=>
 Va (F88 x1.1) fun x2=>
 bif !x2 then some (.inr (.inr (s0,(12:Int))))
 else
 Va
 (run
 (fun s3=>
 bif decide (s3<s0) then
 Va (idx a0 s3) fun x4=>
 Va (idx a0 s0) fun x5=>
 bif decide (x4.1=x5.1) then some (.inr (.inr (s0,(6:Int)))) else some (.inl (Vc .i64 (s3+(1:Int))))
 else some (.inr (.inl ())))
 (0:Int))
 fun x6=>
 Ve
 (fun _=>
 Va (idx a0 s0) fun x8=>
 Va (F89 x8.2.1 (0:Int) (7:Int)) fun x9=>
 bif !x9 then some (.inr (.inr (s0,(2:Int)))) else some (.inl (Vc .i64 (s0+(1:Int)))))
 (fun y10=>some (.inr (.inr (y10.1,y10.2)))) x6
 else some (.inr (.inl ())))
 (0:Int))
 fun x11=>Ve (fun _=>some ((0:Int),(0:Int))) (fun y13=>some (y13.1,y13.2)) x11
def F93S:Tr.Spec:= {args:=(.cons (.pd Y23) .nil),res:=(.cons (.pd Y3) (.cons (.pd Y35) .nil)),fns:=[],α:=El Y3×El Y35,f:=fun x=>F93 x.1,unp:=fun z=>(((),()),(z.1,z.2,())) }
theorem F93_ok:ZaF Tryz.prog 170 F93S:=Zaf (rws:=[]) (zxs:=[]) (nt:=48) (m:=[(214,[F88S]),(215,[F89S])]) (fn:=Tryz.f170) (hint:=(hS (hS (.seq (hS (.lp ⟨[(4,(.pd Y3))],[],[0],[],[],[]⟩ [((.exit 0),⟨[],[],[],[],[],[]⟩),(.ret,⟨[(2,(.pd Y3)),(3,(.pd Y35))],[],[],[],[],[]⟩)] (hS (.seq (hS (.seq (hS (.lp ⟨[(5,(.pd Y3))],[],[0,4],[],[],[]⟩ [((.exit 2),⟨[],[],[0,4],[],[],[]⟩),(.ret,⟨[(2,(.pd Y3)),(3,(.pd Y35))],[],[],[],[],[]⟩)] .leaf)) .leaf)) .leaf)))) .leaf)))) (pack:=fun y=>(y.2.1,y.2.2.1)) ZaX tab_ok ⟨⟨F88_ok,trivial⟩,⟨F89_ok,trivial⟩,trivial⟩ fun x z h=> .trans (by kernel_rfl) h
def F82: (El Y76)->(El Y3)->(El Y3)->(El Y3)->Option (El Y35):=fun a0 a1 a2 a3=>
 Va (bif decide ((↑(Vb a0):Int)< (2:Int)) then some true else some (decide ((32:Int)< (↑(Vb a0):Int)))) fun x0=>
 bif x0 then some (5:Int)
 else
 Va
 (run
 (fun s1=>
 bif decide (s1< (↑(Vb a0):Int)) then
 Va (idx a0 s1) fun x2=>
 Va (bif decide (x2.1< (0:Int)) then some true else some (decide (a1<=x2.1))) fun x3=>
 bif x3 then some (.inr (.inr (9:Int)))
 else
 Va
 (bif decide ((0:Int)<s1) then Va (idx a0 (Vc .i64 (s1 - (1:Int)))) fun x4=>some (decide (x4.1=x2.1))
 else some false)
 fun x5=>
 bif x5 then some (.inr (.inr (13:Int)))
 else
 Va
 (bif decide (x2.2.1<a2) then some true
 else
 bif decide (x2.2.2.1<x2.2.1) then some true
 else
 bif decide (a3<x2.2.2.1) then some true
 else
 bif decide ((0:Int)<s1) then
 Va (idx a0 (Vc .i64 (s1 - (1:Int)))) fun x6=>some (decide (x2.2.1<x6.2.2.1))
 else some false)
 fun x7=>bif x7 then some (.inr (.inr (10:Int))) else some (.inl (Vc .i64 (s1+(1:Int))))
 else some (.inr (.inl ())))
 (0:Int))
 fun x8=>Ve (fun _=>some (0:Int)) (fun y10=>some y10) x8
def F82S:Tr.Spec:= {args:=(.cons (.pd Y76) (.cons (.pd Y3) (.cons (.pd Y3) (.cons (.pd Y3) .nil)))),res:=(.cons (.pd Y35) .nil),fns:=[],α:=El Y35,f:=fun x=>F82 x.1 x.2.1 x.2.2.1 x.2.2.2.1,unp:=fun z=>(((),(),(),(),()),(z,())) }
theorem F82_ok:ZaF Tryz.prog 216 F82S:=Zaf (rws:=[]) (zxs:=[]) (nt:=83) (m:=[]) (fn:=Tryz.f216) (hint:=(hS (.seq (.seq (.reg [(18,Y4)]) .leaf) (.seq (hS (.lp ⟨[(9,(.pd Y3))],[],[0,1,2,3],[],[],[]⟩ [((.exit 0),⟨[],[],[],[],[],[]⟩),(.ret,⟨[(8,(.pd Y35))],[],[],[],[],[]⟩)] (hS (.seq (hS (.seq (.seq (.reg [(37,Y4)]) .leaf) (.seq (.seq (.reg [(50,Y4)]) .leaf) (.seq (.reg [(82,Y4)]) .leaf)))) .leaf)))) .leaf)))) (pack:=fun y=>y.2.1) ZaX tab_ok trivial fun x z h=> .trans (by kernel_rfl) h
def F94: (El Y31)->(El Y3)->Option (El Y35):=fun a0 a1=>
 Va (idx a0.2.2.1 a1) fun x0=>
 Va (F88 x0.2.2.2.1) fun x1=>
 bif !x1 then some (12:Int)
 else
 Va (bif decide (x0.1< (-1:Int)) then some true else some (decide (x0.2.2.1< (0:Int)))) fun x2=>
 bif x2 then some (2:Int)
 else
 Va (F89 x0.2.1 (0:Int) (36524:Int)) fun x3=>
 bif !x3 then some (11:Int)
 else
 Va
 (bif decide (x0.2.2.2.2.1< (0:Int)) then some true
 else some (decide ((↑(Vb a0.2.1):Int)<=x0.2.2.2.2.1)))
 fun x4=>
 bif x4 then some (9:Int)
 else
 Va (F82 x0.2.2.2.2.2.2.2.1 (↑(Vb a0.1):Int) (0:Int) (3155932800:Int)) fun x5=>
 bif !decide (x5=(0:Int)) then some x5
 else
 Va
 (run
 (fun s6=>
 bif decide (s6<a1) then
 Va (idx a0.2.2.1 s6) fun x7=>
 Va
 (bif decide (x7.2.2.2.1=x0.2.2.2.1) then
 bif decide (x7.2.1=x0.2.1) then some (decide (x7.2.2.1=x0.2.2.1)) else some false
 else some false)
 fun x8=>bif x8 then some (.inr (.inr (6:Int))) else some (.inl (Vc .i64 (s6+(1:Int))))
 else some (.inr (.inl ())))
 (0:Int))
 fun x9=>Ve (fun _=>some (0:Int)) (fun y11=>some y11) x9
def F94S:Tr.Spec:= {args:=(.cons (.pd Y31) (.cons (.pd Y3) .nil)),res:=(.cons (.pd Y35) .nil),fns:=[],α:=El Y35,f:=fun x=>F94 x.1 x.2.1,unp:=fun z=>(((),(),()),(z,())) }
theorem F94_ok:ZaF Tryz.prog 171 F94S:=Zaf (rws:=[]) (zxs:=[]) (nt:=79) (m:=[(214,[F88S]),(215,[F89S]),(216,[F82S])]) (fn:=Tryz.f171) (hint:=(hS (hS (hS (.seq (.seq (.reg [(25,Y4)]) .leaf) (hS (.seq (.seq (.reg [(40,Y4)]) .leaf) (hS (hS (.seq (hS (.lp ⟨[(7,(.pd Y3))],[],[1,2,5],[],[],[]⟩ [((.exit 0),⟨[],[],[],[],[],[]⟩),(.ret,⟨[(4,(.pd Y35))],[],[],[],[],[]⟩)] (hS (.seq (hS (.seq (.reg [(78,Y4)]) .leaf)) .leaf)))) .leaf)))))))))) (pack:=fun y=>y.2.1) ZaX tab_ok ⟨⟨F88_ok,trivial⟩,⟨F89_ok,trivial⟩,⟨F82_ok,trivial⟩,trivial⟩ fun x z h=> .trans (by kernel_rfl) h
def F90: (El Y31)->(El Y3)->(El Y3)->(El Y3)->Option (El Y4):=fun a0 a1 a2 a3=>
 Va
 (run
 (fun s0=>
 bif decide (s0.2<=a1) then
 Va
 (run
 (fun s1=>
 bif decide (s1.2<a1) then
 Va
 (Va (idx a0.2.2.2.1 s1.2) fun x2=>
 bif x2.2.2.2.2.1 then Va (idx a0.2.2.2.1 s1.2) fun x3=>some (decide (x3.1=s0.1)) else some false)
 fun x4=>
 bif x4 then Va (idx a0.2.2.2.1 s1.2) fun x5=>some (.inl (x5.2.2.1,Vc .i64 (s1.2+(1:Int))))
 else some (.inl (s1.1,Vc .i64 (s1.2+(1:Int))))
 else some (.inr s1.1))
 ((-1:Int),(0:Int)))
 fun x6=>bif decide (x6=a3) then some (.inr (.inr true)) else some (.inl (x6,Vc .i64 (s0.2+(1:Int))))
 else some (.inr (.inl ())))
 (a2,(0:Int)))
 fun x7=>Ve (fun _=>some false) (fun y9=>some y9) x7
def F90S:Tr.Spec:= {args:=(.cons (.pd Y31) (.cons (.pd Y3) (.cons (.pd Y3) (.cons (.pd Y3) .nil)))),res:=(.cons (.pd Y4) .nil),fns:=[],α:=El Y4,f:=fun x=>F90 x.1 x.2.1 x.2.2.1 x.2.2.2.1,unp:=fun z=>(((),(),(),(),()),(z,())) }
theorem F90_ok:ZaF Tryz.prog 217 F90S:=Zaf (rws:=[]) (zxs:=[]) (nt:=48) (m:=[]) (fn:=Tryz.f217) (hint:=(hS (.seq (hS (.lp ⟨[(2,(.pd Y3)),(9,(.pd Y3))],[],[1,3,4],[],[],[]⟩ [((.exit 0),⟨[],[],[],[],[],[]⟩),(.ret,⟨[(8,(.pd Y4))],[],[],[],[],[]⟩)] (hS (.seq (hS (.seq (hS (.lp ⟨[(10,(.pd Y3)),(11,(.pd Y3))],[],[1,2,3,4,9],[],[],[]⟩ [((.exit 2),⟨[(10,(.pd Y3))],[],[1,3,4,9],[],[],[]⟩)] (hS (.seq (.seq (.reg [(37,Y4)]) .leaf) .leaf)))) .leaf)) .leaf)))) .leaf))) (pack:=fun y=>y.2.1) ZaX tab_ok trivial fun x z h=> .trans (by kernel_rfl) h
def F91: (El Y31)->(El Y3)->Option (El Y35):=fun a0 a1=>
 Va (idx a0.2.2.2.1 a1) fun x0=>
 Va
 (Va (F89 x0.1 (0:Int) (Vc .i64 ((↑(Vb a0.2.2.1):Int) - (1:Int)))) fun x1=>
 bif !x1 then some true
 else
 Va (F89 x0.2.2.1 (0:Int) (Vc .i64 ((↑(Vb a0.2.2.1):Int) - (1:Int)))) fun x2=>
 bif !x2 then some true else some (decide (x0.1=x0.2.2.1)))
 fun x3=>
 bif x3 then some (9:Int)
 else
 Va (idx a0.2.2.1 x0.1) fun x4=>
 Va (idx a0.2.2.1 x0.2.2.1) fun x5=>
 Va
 (Va (F89 x0.2.1 (0:Int) (Vc .i64 ((↑(Vb x4.2.2.2.2.2.2.2.1):Int) - (1:Int)))) fun x6=>
 bif !x6 then some true
 else
 Va (F89 x0.2.2.2.1 (0:Int) (Vc .i64 ((↑(Vb x5.2.2.2.2.2.2.2.1):Int) - (1:Int)))) fun x7=>
 some !x7)
 fun x8=>
 bif x8 then some (9:Int)
 else
 Va (idx x4.2.2.2.2.2.2.2.1 x0.2.1) fun x9=>
 Va (idx x5.2.2.2.2.2.2.2.1 x0.2.2.2.1) fun x10=>
 bif !decide (x9.1=x10.1) then some (13:Int)
 else
 Va
 (bif x0.2.2.2.2.1 then
 bif !decide (x0.2.1=Vc .i64 ((↑(Vb x4.2.2.2.2.2.2.2.1):Int) - (1:Int))) then some true
 else some !decide (x0.2.2.2.1=(0:Int))
 else some false)
 fun x11=>
 bif x11 then some (19:Int)
 else
 Va
 (run
 (fun s12=>
 bif decide (s12<a1) then
 Va (idx a0.2.2.2.1 s12) fun x13=>
 Va
 (bif x0.2.2.2.2.1 then
 bif x13.2.2.2.2.1 then
 bif decide (x13.1=x0.1) then some true else some (decide (x13.2.2.1=x0.2.2.1))
 else some false
 else some false)
 fun x14=>bif x14 then some (.inr (.inr (19:Int))) else some (.inl (Vc .i64 (s12+(1:Int))))
 else some (.inr (.inl ())))
 (0:Int))
 fun x15=>
 Ve
 (fun _=>
 Va (bif x0.2.2.2.2.1 then Va (F90 a0 a1 x0.2.2.1 x0.1) fun x17=>some x17 else some false) fun x18=>
 bif x18 then some (19:Int)
 else
 Va
 (run
 (fun s19=>
 bif decide (s19<a1) then
 Va (idx a0.2.2.2.1 s19) fun x20=>
 Va
 (bif decide (x20.1=x0.1) then
 bif decide (x20.2.1=x0.2.1) then
 bif decide (x20.2.2.1=x0.2.2.1) then some (decide (x20.2.2.2.1=x0.2.2.2.1))
 else some false
 else some false
 else some false)
 fun x21=>bif x21 then some (.inr (.inr (6:Int))) else some (.inl (Vc .i64 (s19+(1:Int))))
 else some (.inr (.inl ())))
 (0:Int))
 fun x22=>Ve (fun _=>some (0:Int)) (fun y24=>some y24) x22)
 (fun y25=>some y25) x15
def F91S:Tr.Spec:= {args:=(.cons (.pd Y31) (.cons (.pd Y3) .nil)),res:=(.cons (.pd Y35) .nil),fns:=[],α:=El Y35,f:=fun x=>F91 x.1 x.2.1,unp:=fun z=>(((),(),()),(z,())) }
theorem F91_ok:ZaF Tryz.prog 172 F91S:=Zaf (rws:=[]) (zxs:=[]) (nt:=177) (m:=[(215,[F89S]),(217,[F90S])]) (fn:=Tryz.f172) (hint:=(hS (hS (.seq (.seq (.reg [(41,Y4)]) .leaf) (hS (.seq (.seq (.reg [(71,Y4)]) .leaf) (hS (.seq (.seq (.reg [(99,Y4)]) .leaf) (.seq (hS (.lp ⟨[(8,(.pd Y3))],[],[1,2,5],[],[],[]⟩ [((.exit 0),⟨[],[],[1,2,5],[],[],[]⟩),(.ret,⟨[(4,(.pd Y35))],[],[],[],[],[]⟩)] (hS (.seq (hS (.seq (.reg [(129,Y4)]) .leaf)) .leaf)))) (.seq (.seq (.reg [(140,Y4)]) .leaf) (.seq (hS (.lp ⟨[(10,(.pd Y3))],[],[1,2,5],[],[],[]⟩ [((.exit 2),⟨[],[],[],[],[],[]⟩),(.ret,⟨[(4,(.pd Y35))],[],[],[],[],[]⟩)] (hS (.seq (hS (.seq (.reg [(176,Y4)]) .leaf)) .leaf)))) .leaf))))))))))) (pack:=fun y=>y.2.1) ZaX tab_ok ⟨⟨F89_ok,trivial⟩,⟨F90_ok,trivial⟩,trivial⟩ fun x z h=> .trans (by kernel_rfl) h
def F86: (El Y26)->(El Y3)->(El Y4)->Option (El Zl3):=fun a0 a1 a2=>
 Va
 (run
 (fun s0=>
 bif decide (s0.2<a1) then
 Va
 (run
 (fun s1=>
 bif decide (s1.2.2<a1) then
 Va (Zas (decide (Vb s1.2.1+Vb [(1099511627776:Int)]<=Zax))) fun _=>
 some (.inl (s1.1,s1.2.1++[(1099511627776:Int)],Vc .i64 (s1.2.2+(1:Int))))
 else some (.inr (s1.1,s1.2.1)))
 (s0.1,[],(0:Int)))
 fun x3=>
 Va (Zas (decide (Vb x3.1+Vb [x3.2]<=Zax))) fun _=>
 some (.inl (x3.1++[x3.2],Vc .i64 (s0.2+(1:Int))))
 else some (.inr s0.1))
 ([],(0:Int)))
 fun x5=>
 Va
 (run
 (fun s6=>
 bif decide (s6.2< (↑(Vb a0):Int)) then
 Va (idx a0 s6.2) fun x7=>
 Va (bif x7.2.2.2.1 then some true else some !a2) fun x8=>
 bif x8 then
 Va (inb x7.1 (Vb s6.1)) fun x9=>
 Va s6.1[x9]? fun _=>
 Va (inb x7.1 (Vb s6.1)) fun x11=>
 Va s6.1[x11]? fun _=>
 Va (idx s6.1 (↑x11:Int)) fun x13=>
 Va (inb x7.2.1 (Vb x13)) fun x14=>
 Va (idx s6.1 (↑x11:Int)) fun x15=>
 Va x15[x14]? fun x16=>
 Va (idx s6.1 (↑x9:Int)) fun x17=>
 Va (inb x7.2.1 (Vb x17)) fun x18=>
 Va (idx s6.1 (↑x9:Int)) fun x19=>
 Va x19[x18]? fun _=>
 some
 (.inl (Vg s6.1 (Vf (↑x9:Int)) (Vg x19 x18 (Tr.imin x16 x7.2.2.1)),Vc .i64 (s6.2+(1:Int))))
 else some (.inl (s6.1,Vc .i64 (s6.2+(1:Int))))
 else some (.inr s6.1))
 (x5,(0:Int)))
 fun x21=>
 Va
 (run
 (fun s22=>
 bif decide (s22.2<a1) then
 Va
 (run
 (fun s23=>
 bif decide (s23.2<a1) then
 Va
 (run
 (fun s24=>
 bif decide (s24.2<a1) then
 Va (inb s23.2 (Vb s24.1)) fun x25=>
 Va s24.1[x25]? fun _=>
 Va (inb s23.2 (Vb s24.1)) fun x27=>
 Va s24.1[x27]? fun _=>
 Va (idx s24.1 (↑x27:Int)) fun x29=>
 Va (inb s24.2 (Vb x29)) fun x30=>
 Va (idx s24.1 (↑x27:Int)) fun x31=>
 Va x31[x30]? fun x32=>
 Va (inb s23.2 (Vb s24.1)) fun x33=>
 Va s24.1[x33]? fun _=>
 Va (idx s24.1 (↑x33:Int)) fun x35=>
 Va (inb s22.2 (Vb x35)) fun x36=>
 Va (idx s24.1 (↑x33:Int)) fun x37=>
 Va x37[x36]? fun x38=>
 Va (inb s22.2 (Vb s24.1)) fun x39=>
 Va s24.1[x39]? fun _=>
 Va (idx s24.1 (↑x39:Int)) fun x41=>
 Va (inb s24.2 (Vb x41)) fun x42=>
 Va (idx s24.1 (↑x39:Int)) fun x43=>
 Va x43[x42]? fun x44=>
 Va (idx s24.1 (↑x25:Int)) fun x45=>
 Va (inb s24.2 (Vb x45)) fun x46=>
 Va (idx s24.1 (↑x25:Int)) fun x47=>
 Va x47[x46]? fun _=>
 some
 (.inl
 (Vg s24.1 (Vf (↑x25:Int))
 (Vg x47 x46 (Tr.imin x32 (Vc .i64 (x38+x44)))),
 Vc .i64 (s24.2+(1:Int))))
 else some (.inr s24.1))
 (s23.1,(0:Int)))
 fun x49=>some (.inl (x49,Vc .i64 (s23.2+(1:Int))))
 else some (.inr s23.1))
 (s22.1,(0:Int)))
 fun x50=>some (.inl (x50,Vc .i64 (s22.2+(1:Int))))
 else some (.inr s22.1))
 (x21,(0:Int)))
 fun x51=>some x51
def F86S:Tr.Spec:= {args:=(.cons (.pd Y26) (.cons (.pd Y3) (.cons (.pd Y4) .nil))),res:=(.cons (.pd Zl3) .nil),fns:=[],α:=El Zl3,f:=fun x=>F86 x.1 x.2.1 x.2.2.1,unp:=fun z=>(((),(),(),()),(z,())) }
theorem F86_ok:ZaF Tryz.prog 238 F86S:=Zaf (rws:=[153]) (zxs:=[]) (nt:=116) (m:=[]) (fn:=Tryz.f238) (hint:=(hS (hS (.seq (hS (.lp ⟨[(7,(.rows Y3 false)),(8,(.pd Y3))],[],[0,1,2],[],[],[]⟩ [((.exit 0),⟨[(7,(.rows Y3 false))],[],[0,1,2],[],[],[]⟩)] (hS (.seq (hS (.seq (hS (.lp ⟨[(7,(.rows Y3 false)),(9,(.own Y3 false)),(10,(.pd Y3))],[],[0,1,2,8],[],[],[]⟩ [((.exit 2),⟨[(7,(.rows Y3 false)),(9,(.own Y3 false))],[],[0,1,2,8],[],[],[]⟩)] .leaf)) .leaf)) .leaf)))) (.seq (hS (.lp ⟨[(7,(.rows Y3 false)),(11,(.pd Y3))],[],[0,1,2],[],[],[]⟩ [((.exit 4),⟨[(7,(.rows Y3 false))],[],[1],[],[],[]⟩)] (hS (.seq (hS (.seq (.reg [(50,Y4)]) .leaf)) .leaf)))) (.seq (hS (.lp ⟨[(7,(.rows Y3 false)),(13,(.pd Y3))],[],[1],[],[],[]⟩ [((.exit 6),⟨[(7,(.rows Y3 false))],[],[],[],[],[]⟩)] (hS (.seq (hS (.lp ⟨[(7,(.rows Y3 false)),(14,(.pd Y3))],[],[1,13],[],[],[]⟩ [((.exit 8),⟨[(7,(.rows Y3 false))],[],[1,13],[],[],[]⟩)] (hS (.seq (hS (.lp ⟨[(7,(.rows Y3 false)),(15,(.pd Y3))],[],[1,13,14],[],[],[]⟩ [((.exit 10),⟨[(7,(.rows Y3 false))],[],[1,13,14],[],[],[]⟩)] .leaf)) .leaf)))) .leaf)))) .leaf)))))) (pack:=fun y=>y.2.1) ZaX tab_ok trivial fun x z h=> .trans (by kernel_rfl) h
def F84: (El Y26)->(El Y3)->Option (El Y26):=fun a0 a1=>
 Va (F86 a0 a1 false) fun x0=>
 Va (F86 a0 a1 true) fun x1=>
 Va
 (run
 (fun s2=>
 bif decide (s2.2<a1) then
 Va
 (run
 (fun s3=>
 bif decide (s3.2<a1) then
 Va
 (bif decide (s2.2=s3.2) then some true
 else Va (idx x0 s2.2) fun x4=>Va (idx x4 s3.2) fun x5=>some (decide ((14400:Int)<x5)))
 fun x6=>
 bif x6 then some (.inl (s3.1,Vc .i64 (s3.2+(1:Int))))
 else
 Va (idx x0 s2.2) fun x7=>
 Va (idx x7 s3.2) fun x8=>
 Va (idx x1 s2.2) fun x9=>
 Va (idx x9 s3.2) fun x10=>
 Va (idx x0 s2.2) fun x11=>
 Va (idx x11 s3.2) fun x12=>
 Va (Zas (decide (Vb s3.1+Vb [(s2.2,s3.2,x8,decide (x10=x12),())]<=Zax))) fun _=>
 Va
 (Va (idx x1 s2.2) fun x14=>
 Va (idx x14 s3.2) fun x15=>
 Va (idx x0 s2.2) fun x16=>
 Va (idx x16 s3.2) fun x17=>
 bif decide (x17<x15) then
 Va (idx x1 s2.2) fun x18=>Va (idx x18 s3.2) fun x19=>some (decide (x19<=(14400:Int)))
 else some false)
 fun x20=>
 bif x20 then
 Va (idx x1 s2.2) fun x21=>
 Va (idx x21 s3.2) fun x22=>
 Va
 (Zas
 (decide
 (Vb (s3.1++[(s2.2,s3.2,x8,decide (x10=x12),())])+Vb [(s2.2,s3.2,x22,true,())]<=
 Zax)))
 fun _=>
 some
 (.inl
 (s3.1++[(s2.2,s3.2,x8,decide (x10=x12),())]++[(s2.2,s3.2,x22,true,())],
 Vc .i64 (s3.2+(1:Int))))
 else some (.inl (s3.1++[(s2.2,s3.2,x8,decide (x10=x12),())],Vc .i64 (s3.2+(1:Int))))
 else some (.inr s3.1))
 (s2.1,(0:Int)))
 fun x24=>some (.inl (x24,Vc .i64 (s2.2+(1:Int))))
 else some (.inr s2.1))
 ([],(0:Int)))
 fun x25=>some x25
def F84S:Tr.Spec:= {args:=(.cons (.pd Y26) (.cons (.pd Y3) .nil)),res:=(.cons (.pd Y26) .nil),fns:=[],α:=El Y26,f:=fun x=>F84 x.1 x.2.1,unp:=fun z=>(((),(),()),(z,())) }
theorem F84_ok:ZaF Tryz.prog 218 F84S:=Zaf (rws:=[]) (zxs:=[]) (nt:=107) (m:=[(238,[F86S])]) (fn:=Tryz.f218) (hint:=(hS (hS (hS (.seq (hS (.lp ⟨[(7,(.own ZdC false)),(8,(.pd Y3))],[],[1,5,6],[],[],[]⟩ [((.exit 0),⟨[(7,(.own ZdC false))],[],[],[],[],[]⟩)] (hS (.seq (hS (.lp ⟨[(7,(.own ZdC false)),(9,(.pd Y3))],[],[1,5,6,8],[],[],[]⟩ [((.exit 2),⟨[(7,(.own ZdC false))],[],[1,5,6,8],[],[],[]⟩)] (hS (.seq (.seq (.seq (.reg [(39,Y4)]) .leaf) (hS (.seq (.reg [(92,Y4)]) .leaf))) .leaf)))) .leaf)))) .leaf))))) (pack:=fun y=>y.2.1) ZaX tab_ok ⟨⟨F86_ok,trivial⟩,trivial⟩ fun x z h=> .trans (by kernel_rfl) h
def F92: (El Y31)->Option (El Y3×El Y35):=fun a0=>
 Va
 (run
 (fun s0=>
 bif decide (s0< (↑(Vb a0.2.2.2.2.1):Int)) then
 Va (idx a0.2.2.2.2.1 s0) fun x1=>
 Va
 (Va (F89 x1.1 (0:Int) (Vc .i64 ((↑(Vb a0.1):Int) - (1:Int)))) fun x2=>
 bif !x2 then some true
 else
 Va (F89 x1.2.1 (0:Int) (Vc .i64 ((↑(Vb a0.1):Int) - (1:Int)))) fun x3=>
 bif !x3 then some true else some (decide (x1.1=x1.2.1)))
 fun x4=>
 bif x4 then some (.inr (.inr (s0,(9:Int))))
 else
 Va (F89 x1.2.2.1 (1:Int) (14400:Int)) fun x5=>
 bif !x5 then some (.inr (.inr (s0,(2:Int))))
 else
 Va
 (run
 (fun s6=>
 bif decide (s6<s0) then
 Va (idx a0.2.2.2.2.1 s6) fun x7=>
 Va
 (bif decide (x7.1=x1.1) then
 bif decide (x7.2.1=x1.2.1) then some (x7.2.2.2.1==x1.2.2.2.1) else some false
 else some false)
 fun x8=>bif x8 then some (.inr (.inr (s0,(6:Int)))) else some (.inl (Vc .i64 (s6+(1:Int))))
 else some (.inr (.inl ())))
 (0:Int))
 fun x9=>Ve (fun _=>some (.inl (Vc .i64 (s0+(1:Int))))) (fun y11=>some (.inr (.inr (y11.1,y11.2)))) x9
 else some (.inr (.inl ())))
 (0:Int))
 fun x12=>
 Ve
 (fun _=>
 Va (F84 a0.2.2.2.2.1 (↑(Vb a0.1):Int)) fun x14=>
 bif !decide ((↑(Vb x14):Int)=(↑(Vb a0.2.2.2.2.1):Int)) then some ((0:Int),(18:Int))
 else
 Va
 (run
 (fun s15=>
 bif decide (s15< (↑(Vb x14):Int)) then
 Va (idx x14 s15) fun x16=>
 Va (idx a0.2.2.2.2.1 s15) fun x17=>
 bif
 !(decide (x16.1=x17.1) &&
 (decide (x16.2.1=x17.2.1) && (decide (x16.2.2.1=x17.2.2.1) &&x16.2.2.2.1==x17.2.2.2.1))) then
 some (.inr (.inr ((0:Int),(18:Int))))
 else some (.inl (Vc .i64 (s15+(1:Int))))
 else some (.inr (.inl ())))
 (0:Int))
 fun x18=>Ve (fun _=>some ((0:Int),(0:Int))) (fun y20=>some (y20.1,y20.2)) x18)
 (fun y21=>some (y21.1,y21.2)) x12
def F92S:Tr.Spec:= {args:=(.cons (.pd Y31) .nil),res:=(.cons (.pd Y3) (.cons (.pd Y35) .nil)),fns:=[],α:=El Y3×El Y35,f:=fun x=>F92 x.1,unp:=fun z=>(((),()),(z.1,z.2,())) }
theorem F92_ok:ZaF Tryz.prog 173 F92S:=Zaf (rws:=[]) (zxs:=[]) (nt:=111) (m:=[(215,[F89S]),(218,[F84S])]) (fn:=Tryz.f173) (hint:=(hS (.seq (hS (.lp ⟨[(4,(.pd Y3))],[],[1],[],[],[]⟩ [((.exit 0),⟨[],[],[1],[],[],[]⟩),(.ret,⟨[(2,(.pd Y3)),(3,(.pd Y35))],[],[],[],[],[]⟩)] (hS (.seq (hS (.seq (.seq (.reg [(46,Y4)]) .leaf) (hS (hS (.lp ⟨[(6,(.pd Y3))],[],[1,4,5],[],[],[]⟩ [((.exit 2),⟨[],[],[1,4],[],[],[]⟩),(.ret,⟨[(2,(.pd Y3)),(3,(.pd Y35))],[],[],[],[],[]⟩)] (hS (.seq (hS (.seq (.reg [(81,Y4)]) .leaf)) .leaf))))))) .leaf)))) (hS (hS (.seq (hS (.lp ⟨[(9,(.pd Y3))],[],[1,8],[],[],[]⟩ [((.exit 4),⟨[],[],[],[],[],[]⟩),(.ret,⟨[(2,(.pd Y3)),(3,(.pd Y35))],[],[],[],[],[]⟩)] .leaf)) .leaf)))))) (pack:=fun y=>(y.2.1,y.2.2.1)) ZaX tab_ok ⟨⟨F89_ok,trivial⟩,⟨F84_ok,trivial⟩,trivial⟩ fun x z h=> .trans (by kernel_rfl) h
def F85: (El Y29)->Option (El Y3×El Y35):=fun a0=>
 Va
 (Va (F89 a0.2.1 (0:Int) (1000000:Int)) fun x0=>
 bif !x0 then some true
 else
 Va (F89 a0.2.2.1 (0:Int) (86400:Int)) fun x1=>
 bif !x1 then some true else Va (F89 a0.2.2.2.1 (0:Int) (1000000:Int)) fun x2=>some !x2)
 fun x3=>
 bif x3 then some ((-1:Int),(2:Int))
 else
 bif decide ((16:Int)< (↑(Vb a0.1):Int)) then some ((0:Int),(5:Int))
 else
 Va
 (run
 (fun s4=>
 bif decide (s4< (↑(Vb a0.1):Int)) then
 Va (idx a0.1 s4) fun x5=>
 Va (F88 x5.1) fun x6=>
 bif !x6 then some (.inr (.inr (s4,(12:Int))))
 else
 Va
 (run
 (fun s7=>
 bif decide (s7<s4) then
 Va (idx a0.1 s7) fun x8=>
 bif decide (x8.1=x5.1) then some (.inr (.inr (s4,(6:Int)))) else some (.inl (Vc .i64 (s7+(1:Int))))
 else some (.inr (.inl ())))
 (0:Int))
 fun x9=>
 Ve
 (fun _=>
 Va
 (Va (F89 x5.2.1 (0:Int) (1000000:Int)) fun x11=>
 bif !x11 then some true
 else
 Va (F89 x5.2.2.1 (1:Int) (8:Int)) fun x12=>
 bif !x12 then some true
 else
 Va (F89 x5.2.2.2.1 (1:Int) (16:Int)) fun x13=>
 bif !x13 then some true
 else
 Va (F89 x5.2.2.2.2.1 (0:Int) (86400:Int)) fun x14=>
 bif !x14 then some true else Va (F89 x5.2.2.2.2.2.1 (1:Int) (255:Int)) fun x15=>some !x15)
 fun x16=>bif x16 then some (.inr (.inr (s4,(2:Int)))) else some (.inl (Vc .i64 (s4+(1:Int)))))
 (fun y17=>some (.inr (.inr (y17.1,y17.2)))) x9
 else some (.inr (.inl ())))
 (0:Int))
 fun x18=>Ve (fun _=>some ((0:Int),(0:Int))) (fun y20=>some (y20.1,y20.2)) x18
def F85S:Tr.Spec:= {args:=(.cons (.pd Y29) .nil),res:=(.cons (.pd Y3) (.cons (.pd Y35) .nil)),fns:=[],α:=El Y3×El Y35,f:=fun x=>F85 x.1,unp:=fun z=>(((),()),(z.1,z.2,())) }
theorem F85_ok:ZaF Tryz.prog 174 F85S:=Zaf (rws:=[]) (zxs:=[]) (nt:=88) (m:=[(214,[F88S]),(215,[F89S])]) (fn:=Tryz.f174) (hint:=(hS (.seq (.seq (.reg [(22,Y4)]) .leaf) (hS (.seq (hS (.lp ⟨[(4,(.pd Y3))],[],[1],[],[],[]⟩ [((.exit 0),⟨[],[],[],[],[],[]⟩),(.ret,⟨[(2,(.pd Y3)),(3,(.pd Y35))],[],[],[],[],[]⟩)] (hS (.seq (hS (hS (.seq (hS (.lp ⟨[(6,(.pd Y3))],[],[1,4,5],[],[],[]⟩ [((.exit 2),⟨[],[],[1,4,5],[],[],[]⟩),(.ret,⟨[(2,(.pd Y3)),(3,(.pd Y35))],[],[],[],[],[]⟩)] .leaf)) (.seq (.reg [(86,Y4)]) .leaf)))) .leaf)))) .leaf))))) (pack:=fun y=>(y.2.1,y.2.2.1)) ZaX tab_ok ⟨⟨F88_ok,trivial⟩,⟨F89_ok,trivial⟩,trivial⟩ fun x z h=> .trans (by kernel_rfl) h
def F83: (El Y31)->Option (El Y3×El Y3×El Y35):=fun a0=>
 Va (F95 a0.1) fun x0=>
 bif !decide (x0.2=(0:Int)) then some ((0:Int),x0.1,x0.2)
 else
 Va (F93 a0.2.1) fun x1=>
 bif !decide (x1.2=(0:Int)) then some ((1:Int),x1.1,x1.2)
 else
 bif decide ((1024:Int)< (↑(Vb a0.2.2.1):Int)) then some ((2:Int),(0:Int),(5:Int))
 else
 Va
 (run
 (fun s2=>
 bif decide (s2< (↑(Vb a0.2.2.1):Int)) then
 Va (F94 a0 s2) fun x3=>
 bif !decide (x3=(0:Int)) then some (.inr (.inr ((2:Int),s2,x3))) else some (.inl (Vc .i64 (s2+(1:Int))))
 else some (.inr (.inl ())))
 (0:Int))
 fun x4=>
 Ve
 (fun _=>
 bif decide ((1024:Int)< (↑(Vb a0.2.2.2.1):Int)) then some ((3:Int),(0:Int),(5:Int))
 else
 Va
 (run
 (fun s6=>
 bif decide (s6< (↑(Vb a0.2.2.2.1):Int)) then
 Va (F91 a0 s6) fun x7=>
 bif !decide (x7=(0:Int)) then some (.inr (.inr ((3:Int),s6,x7)))
 else some (.inl (Vc .i64 (s6+(1:Int))))
 else some (.inr (.inl ())))
 (0:Int))
 fun x8=>
 Ve
 (fun _=>
 Va (F92 a0) fun x10=>
 bif !decide (x10.2=(0:Int)) then some ((4:Int),x10.1,x10.2)
 else
 Va (F85 a0.2.2.2.2.2.1) fun x11=>
 bif !decide (x11.2=(0:Int)) then some ((5:Int),x11.1,x11.2) else some ((0:Int),(0:Int),(0:Int)))
 (fun y12=>some (y12.1,y12.2.1,y12.2.2)) x8)
 (fun y13=>some (y13.1,y13.2.1,y13.2.2)) x4
def F83S:Tr.Spec:= {args:=(.cons (.pd Y31) .nil),res:=(.cons (.pd Y3) (.cons (.pd Y3) (.cons (.pd Y35) .nil))),fns:=[],α:=El Y3×El Y3×El Y35,f:=fun x=>F83 x.1,unp:=fun z=>(((),()),(z.1,z.2.1,z.2.2,())) }
theorem F83_ok:ZaF Tryz.prog 106 F83S:=Zaf (rws:=[]) (zxs:=[]) (nt:=84) (m:=[(169,[F95S]),(170,[F93S]),(171,[F94S]),(172,[F91S]),(173,[F92S]),(174,[F85S])]) (fn:=Tryz.f106) (hint:=(hS (hS (hS (hS (hS (hS (.seq (hS (.lp ⟨[(7,(.pd Y3))],[],[1],[],[],[]⟩ [((.exit 0),⟨[],[],[1],[],[],[]⟩),(.ret,⟨[(2,(.pd Y3)),(3,(.pd Y3)),(4,(.pd Y35))],[],[],[],[],[]⟩)] .leaf)) (hS (.seq (hS (.lp ⟨[(8,(.pd Y3))],[],[1],[],[],[]⟩ [((.exit 2),⟨[],[],[1],[],[],[]⟩),(.ret,⟨[(2,(.pd Y3)),(3,(.pd Y3)),(4,(.pd Y35))],[],[],[],[],[]⟩)] .leaf)) .leaf)))))))))) (pack:=fun y=>(y.2.1,y.2.2.1,y.2.2.2.1)) ZaX tab_ok ⟨⟨F95_ok,trivial⟩,⟨F93_ok,trivial⟩,⟨F94_ok,trivial⟩,⟨F91_ok,trivial⟩,⟨F92_ok,trivial⟩,⟨F85_ok,trivial⟩,trivial⟩ fun x z h=> .trans (by kernel_rfl) h
def F87: (El Y31)->Option (El Y4):=fun a0=>Va (F83 a0) fun x0=>some (decide (x0.2.2=(0:Int)))
def F87S:Tr.Spec:= {args:=(.cons (.pd Y31) .nil),res:=(.cons (.pd Y4) .nil),fns:=[],α:=El Y4,f:=fun x=>F87 x.1,unp:=fun z=>(((),()),(z,())) }
theorem F87_ok:ZaF Tryz.prog 68 F87S:=Zaf (rws:=[]) (zxs:=[]) (nt:=14) (m:=[(106,[F83S])]) (fn:=Tryz.f68) (hint:= .leaf) (pack:=fun y=>y.2.1) ZaX tab_ok ⟨⟨F83_ok,trivial⟩,trivial⟩ fun x z h=> .trans (by kernel_rfl) h
def F96: (El Y31)->(El Y33)->Option (El Y35):=fun a0 a1=>
 Va (F87 a0) fun x0=>
 bif !x0 then some (21:Int) else Va (F97 (↑(Vb a0.1):Int) a1) fun x1=>bif !x1 then some (22:Int) else some (0:Int)
def F96S:Tr.Spec:= {args:=(.cons (.pd Y31) (.cons (.pd Y33) .nil)),res:=(.cons (.pd Y35) .nil),fns:=[],α:=El Y35,f:=fun x=>F96 x.1 x.2.1,unp:=fun z=>(((),(),()),(z,())) }
theorem F96_ok:ZaF Tryz.prog 31 F96S:=Zaf (rws:=[48]) (zxs:=[]) (nt:=14) (m:=[(45,[F97S]),(68,[F87S])]) (fn:=Tryz.f31) (hint:= .leaf) (pack:=fun y=>y.2.1) ZaX tab_ok ⟨⟨F97_ok,trivial⟩,⟨F87_ok,trivial⟩,trivial⟩ fun x z h=> .trans (by kernel_rfl) h
def F49: (El Y31)->(El Y33)->(El Y3)->Option (El Y35):=fun a0 a1 a2=>
 Va (F96 a0 a1) fun x0=>
 bif !decide (x0=(0:Int)) then some x0
 else
 Va (bif a1.2.2.2.1 then some true else some a1.2.2.2.2.2.2.2.2.2.1) fun x1=>
 bif x1 then some (22:Int)
 else
 Va (bif decide (a2<a1.2.2.1) then some true else some (decide ((3155932800:Int)<a2))) fun x2=>
 bif x2 then some (10:Int) else some (0:Int)
def F49S:Tr.Spec:= {args:=(.cons (.pd Y31) (.cons (.pd Y33) (.cons (.pd Y3) .nil))),res:=(.cons (.pd Y35) .nil),fns:=[],α:=El Y35,f:=fun x=>F49 x.1 x.2.1 x.2.2.1,unp:=fun z=>(((),(),(),()),(z,())) }
theorem F49_ok:ZaF Tryz.prog 13 F49S:=Zaf (rws:=[]) (zxs:=[]) (nt:=28) (m:=[(31,[F96S])]) (fn:=Tryz.f13) (hint:=(hS (hS (hS (.seq (.seq (.reg [(19,Y4)]) .leaf) (.seq (.seq (.reg [(27,Y4)]) .leaf) .leaf)))))) (pack:=fun y=>y.2.1) ZaX tab_ok ⟨⟨F96_ok,trivial⟩,trivial⟩ fun x z h=> .trans (by kernel_rfl) h
def F47: (El Y31)->(El Y33)->(El Y3)->Option (El Y4):=fun a0 a1 a2=>
 Va (Va (F50 a0) fun x0=>bif !x0 then some true else Va (F49 a0 a1 a2) fun x1=>some (decide (x1=(0:Int))))
 fun x2=>
 bif x2 then Va F48 fun x3=>some x3
 else
 bif Option.isSome (F76S.f (a0,a1,a2,())) then
 Va (F76 a0 a1 a2) fun x4=>
 Va
 (bif decide ((↑(Vb x4.1):Int)=(0:Int)) then
 Va (F49 a0 a1 a2) fun x5=>bif decide (x4.2=x5) then Va F48 fun x6=>some x6 else some false
 else some false)
 fun x7=>some x7
 else
 Va (F75 a0 a1 a2) fun x8=>
 Va
 (bif decide ((↑(Vb x8.1):Int)=(0:Int)) then
 Va (F49 a0 a1 a2) fun x9=>bif decide (x8.2=x9) then Va F48 fun x10=>some x10 else some false
 else some false)
 fun x11=>some x11
abbrev F47A:Za5:=(.cons (.pd Y31) (.cons (.pd Y33) (.cons (.pd Y3) .nil)))
def F47S:Tr.Spec:= {args:=F47A,res:=(.cons (.pd Y4) .nil),fns:=[],α:=El Y4,f:=fun x=>F47 x.1 x.2.1 x.2.2.1,unp:=fun z=>(((),(),(),()),(z,())) }
theorem F47_ok:ZaF Tryz.prog 3 F47S:=Zaf (rws:=[]) (zxs:=[]) (nt:=41) (m:=[(12,[F50S]),(13,[F49S]),(14,[F48S]),(15,[F76S,F75S])]) (fn:=Tryz.f3) (hint:=(hS (.seq (.seq (.reg [(18,Y4)]) .leaf) (hS (.seq (.reg [(6,Y4)]) .leaf))))) (pack:=fun y=>y.2.1) ZaX tab_ok ⟨⟨F50_ok,trivial⟩,⟨F49_ok,trivial⟩,⟨F48_ok,trivial⟩,⟨F76_ok,F75_ok,trivial⟩,trivial⟩ fun x z h=> .trans (by kernel_rfl) h
end
end Q
