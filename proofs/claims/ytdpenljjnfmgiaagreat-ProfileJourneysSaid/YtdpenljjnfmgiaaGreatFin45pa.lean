/- The functions of the finder as functions of Lean, and that the program computes them; printed by a program of mine. Conditions: none. -/
import Derived.Test.YtdpenljjnfmgiaaGreatFin45f
import Derived.Test.YtdpenljjnfmgiaaGreatKep45
open Tr Go Go.Proofs Tryz
open Go.IntKind renaming wrap ->Vb
open List renaming length ->Vc
open Option renaming bind ->C,isNone ->Vd
open Option renaming some ->J,none ->Ub
open Bool renaming true ->U,false ->Ud
open Decidable renaming decide ->R
namespace Q
noncomputable section
def F105(a:ZO Zh Zk ZC Y94)(b:El Y91):Option (ZO Zh Zk ZC Y94):=Tr.keepF a b
abbrev F105A:Pats:=(.cons (.fnd Zh Zk ZC Y94) (.cons (.pd Y91) .nil))
abbrev F105R:Pats:=.nil
def F105S:Tr.Spec:= {args:=F105A,res:=F105R,fns:=[],α:=ZO Zh Zk ZC Y94,f:=fun x=>F105 x.1 x.2.1,unp:=fun z=>((z,(),()),())}
theorem F105_ok:ZS Tryz.prog 131 F105S:=Tr.keep_ok
def F168(a:El Xa):Option (List (El KZ)):=Tr.cloLegG a
def F168S:Tr.Spec:= {args:=(.cons (.pd Xa) .nil),res:=(.cons (.own KZ Ud) .nil),fns:=[],α:=List (El KZ),f:=fun x=>F168 x.1,unp:=fun z=>(((),()),(z,()))}
theorem F168_ok:ZS Tryz.prog 57 F168S:=Tr.cloLeg_ok
def F168E:Zn:=⟨57,F168S,F168_ok⟩
def F98:(El Xa)->(El KZ)->Option (El Xa):=fun c a=>C (F168 c) fun b=>C (Zz (R (Vc b+Vc [a]<=ZD))) fun _=>J (b++[a])
def F98S:Tr.Spec:= {args:=(.cons (.pd Xa) (.cons (.pd KZ) .nil)),res:=(.cons (.pd Xa) .nil),fns:=[],α:=El Xa,f:=fun x=>F98 x.1 x.2.1,unp:=fun z=>(((),(),()),(z,()))}
theorem F98_ok:ZS Tryz.prog 132 F98S:=WZ (rws:=[]) (zxs:=[]) (nt:=10) (m:=[(57,[F168S])]) (fn:=f132) (hint:=.leaf) (pack:=fun y=>y.2.1) K9 tab_ok ⟨⟨F168_ok,trivial⟩,trivial⟩ fun x z h=>.trans (by kernel_rfl) h
def F179:(El Jl)->(El Y3)->Option (El Y3):=fun a b=>
 C
 (run
 (fun s0=>
 bif R (s0<(↑(Vc a):Int)) then
 C (idx a s0) fun c=>bif R (b=c) then J (.inr (.inr s0)) else J (.inl (Vb .i64 (s0+(1:Int))))
 else J (.inr (.inl ())))
 (0:Int))
 fun d=>Sum.elim (fun _=>J (-1:Int)) (fun e=>J e) d
def F179E:Zn:=Ys 225 f225 19 [] (hS (.seq (hS (.lp (en [pd 8 Y3] [0,1,7]) [(.exit 0,e0),(.ret,en [pd 4 Y3] [])] .leaf)) .leaf)) (.p Jl (.q Y3)) (.pd Y3) (u2 F179)
def F173:(El Jl)->(El Y3)->Option (El Y4):=fun a b=>C (F179 a b) fun c=>J (R ((0:Int)<=c))
def F173S:Tr.Spec:= {args:=(.cons (.pd Jl) (.cons (.pd Y3) .nil)),res:=(.cons (.pd Y4) .nil),fns:=[],α:=El Y4,f:=fun x=>F173 x.1 x.2.1,unp:=fun z=>(((),(),()),(z,()))}
theorem F173_ok:ZS Tryz.prog 191 F173S:=WZ (rws:=[]) (zxs:=[]) (nt:=9) (m:=[(225,[F179E.S])]) (fn:=f191) (hint:=.leaf) (pack:=fun y=>y.2.1) K9 tab_ok ⟨⟨F179E.ok,trivial⟩,trivial⟩ fun x z h=>.trans (by kernel_rfl) h
def F170(a:El Jl):Option (List (El Y3)):=Tr.cloIntG a
def F170S:Tr.Spec:= {args:=(.cons (.pd Jl) .nil),res:=(.cons (.own Y3 Ud) .nil),fns:=[],α:=List (El Y3),f:=fun x=>F170 x.1,unp:=fun z=>(((),()),(z,()))}
theorem F170_ok:ZS Tryz.prog 192 F170S:=Tr.cloInt_ok
def F106:(ZO Zh Zk ZC Y94)->(El Ww)->(El Xa)->(El Y3)->(El Y3)->Option (ZO Zh Zk ZC Y94×El Y91):=fun b a f d e=>
 C a.1 fun _=>
 C a.1 fun g=>
 C (F22 g.2.2.2.2.2.2.1 a.2.2.2.2.1) fun c=>
 bif !R (c.2=(0:Int)) then J (b,Ub)
 else
 C (F21 c.1) fun h=>
 bif !h.2 then J (b,Ub)
 else
 C (idx b.1.1 d) fun i=>
 C a.1 fun _=>
 C a.1 fun j=>
 C a.1 fun _=>
 C a.1 fun k=>
 J
 (b,
 J
 (d,e,Vb .i64 (e+i.2.2.2.1),Vb .i64 (j.2.2.2.1+(1:Int)),k.2.2.2.2.1,U,
 c.1,f,()))
def F106S:Tr.Spec:= {args:=(.cons (.fnd Zh Zk ZC Y94) (.cons (.pd Ww) (.cons (.pd Xa) (.cons (.pd Y3) (.cons (.pd Y3) .nil))))),res:=(.cons (.pd Y91) .nil),fns:=[],α:=ZO Zh Zk ZC Y94×El Y91,f:=fun x=>F106 x.1 x.2.1 x.2.2.1 x.2.2.2.1 x.2.2.2.2.1,unp:=fun z=>((z.1,(),(),(),(),()),(z.2,()))}
theorem F106_ok:ZS Tryz.prog 193 F106S:=WZ (rws:=[94]) (zxs:=[]) (nt:=63) (m:=[(226,[F22E.S]),(227,[F21E.S])]) (fn:=f193) (hint:=.leaf) (pack:=fun y=>(y.1.1,y.2.1)) K9 tab_ok ⟨⟨F22E.ok,trivial⟩,⟨F21E.ok,trivial⟩,trivial⟩ fun x z h=>.trans (by kernel_rfl) h
abbrev F108A:Pats:=(.cons (.fnd Zh Zk ZC Y94) (.cons (.pd Ww) .nil))
abbrev F108R:Pats:=.nil
def F109S(rec:(ZO Zh Zk ZC Y94)->(El Ww)->Option (ZO Zh Zk ZC Y94)):Tr.Spec:= {args:=F108A,res:=F108R,fns:=[],α:=ZO Zh Zk ZC Y94,f:=fun x=>rec x.1 x.2.1,unp:=fun z=>((z,(),()),())}
def F100(rec:(ZO Zh Zk ZC Y94)->(El Ww)->Option (ZO Zh Zk ZC Y94)):(ZO Zh Zk ZC Y94)->(El Y91)->(El Y3)->(El Y3)->Option (ZO Zh Zk ZC Y94):=fun a b c d=>
 C b fun _=>
 C b fun e=>
 bif R (e.2.2.2.1<a.2.1.2.2.2.2.1) then
 C (idx a.1.2.2.1 c) fun f=>
 C (idx f.2.2.2.2.2.2.2.1 d) fun g=>
 C (rec a (b,c,d,Ud,(g.2.2.1,(0:Int),(0:Int),(0:Int),()),([]:List (El Y3)),())) fun h=>J h
 else J a
abbrev F99A:Pats:=(.cons (.fnd Zh Zk ZC Y94) (.cons (.pd Y91) (.cons (.pd Y3) (.cons (.pd Y3) .nil))))
abbrev F99R:Pats:=.nil
def F100S(rec:(ZO Zh Zk ZC Y94)->(El Ww)->Option (ZO Zh Zk ZC Y94)):Tr.Spec:= {args:=F99A,res:=F99R,fns:=[],α:=ZO Zh Zk ZC Y94,f:=fun x=>F100 rec x.1 x.2.1 x.2.2.1 x.2.2.2.1,unp:=fun z=>((z,(),(),(),()),())}
def F99M(rec:(ZO Zh Zk ZC Y94)->(El Ww)->Option (ZO Zh Zk ZC Y94)):List (Nat×List Tr.Spec):=[(129,[F109S rec])]
def F99H:K3:=.leaf
def F99V(rec:(ZO Zh Zk ZC Y94)->(El Ww)->Option (ZO Zh Zk ZC Y94))(a:ZO Zh Zk ZC Y94)(b:El Y91)(c:El Y3)(d:El Y3):Option (ZO Zh Zk ZC Y94):=XO (mkE tyTab mapTab pkTab [212] [] (F99M rec) 38 bdTab) (KX f79) f79.results F99H F99A F99R (fun y=>y.1.1) (a,b,c,d,())
theorem F99_eq(rec:(ZO Zh Zk ZC Y94)->(El Ww)->Option (ZO Zh Zk ZC Y94))(a:ZO Zh Zk ZC Y94)(b:El Y91)(c:El Y3)(d:El Y3):F99V rec a b c d=F100 rec a b c d:=by kernel_rfl
theorem F100_ok(rec:(ZO Zh Zk ZC Y94)->(El Ww)->Option (ZO Zh Zk ZC Y94))(a:ZS Tryz.prog 129 (F109S rec)):ZS Tryz.prog 79 (F100S rec):=WZ (m:=F99M rec) (fn:=f79) (hint:=F99H) (pack:=fun y=>y.1.1) K9 tab_ok ⟨⟨a,trivial⟩,trivial⟩ fun x z h=>(F99_eq rec x.1 x.2.1 x.2.2.1 x.2.2.2.1).trans h
def F101(rec:(ZO Zh Zk ZC Y94)->(El Ww)->Option (ZO Zh Zk ZC Y94)):(ZO Zh Zk ZC Y94)->(El Ww)->(El Y3)->(El Xa)->(El Y91)->Option (ZO Zh Zk ZC Y94):=fun e d j n k=>
 C (idx e.1.2.2.1 d.2.1) fun o=>
 C (idx o.2.2.2.2.2.2.2.1 j) fun p=>
 C (idx e.2.2.1 d.2.1) fun l=>
 C
 (run
 (fun b=>
 bif R (b.2<(↑(Vc l):Int)) then
 C (idx l b.2) fun q=>
 C (idx b.1.1.2.2.2.1 q) fun c=>
 C (idx b.1.1.2.2.1 c.2.2.1) fun r=>
 C (idx r.2.2.2.2.2.2.2.1 c.2.2.2.1) fun m=>
 C (bif !R (c.2.1=j) then J U else J (R (m.2.2.1<p.2.1))) fun s=>
 bif s then J (.inl (b.1,Vb .i64 (b.2+(1:Int))))
 else
 bif c.2.2.2.2.1 then
 C d.1 fun _=>
 C d.1 fun a=>
 C
 (rec b.1
 (J
 (a.1,a.2.1,a.2.2.1,a.2.2.2.1,a.2.2.2.2.1,a.2.2.2.2.2.1,a.2.2.2.2.2.2.1,n,
 a.2.2.2.2.2.2.2.2),
 c.2.2.1,c.2.2.2.1,U,d.2.2.2.2.1,d.2.2.2.2.2.1,()))
 fun f=>J (.inl (f,Vb .i64 (b.2+(1:Int))))
 else
 C (bif !Vd k then J m.2.2.2.1 else J Ud) fun g=>
 bif g then
 C ((F100 rec) b.1 k c.2.2.1 c.2.2.2.1) fun h=>
 J (.inl (h,Vb .i64 (b.2+(1:Int))))
 else J (.inl (b.1,Vb .i64 (b.2+(1:Int))))
 else J (.inr b.1))
 (e,(0:Int)))
 fun i=>J i
abbrev F_profile_finder_followA:Pats:=(.cons (.fnd Zh Zk ZC Y94) (.cons (.pd Ww) (.cons (.pd Y3) (.cons (.pd Xa) (.cons (.pd Y91) .nil)))))
abbrev F_profile_finder_followR:Pats:=.nil
def F101S(rec:(ZO Zh Zk ZC Y94)->(El Ww)->Option (ZO Zh Zk ZC Y94)):Tr.Spec:= {args:=F_profile_finder_followA,res:=F_profile_finder_followR,fns:=[],α:=ZO Zh Zk ZC Y94,f:=fun x=>F101 rec x.1 x.2.1 x.2.2.1 x.2.2.2.1 x.2.2.2.2.1,unp:=fun z=>((z,(),(),(),(),()),())}
def F103(rec:(ZO Zh Zk ZC Y94)->(El Ww)->Option (ZO Zh Zk ZC Y94)):List (Nat×List Tr.Spec):=[(79,[F100S rec]),(129,[F109S rec])]
def F102:K3:=(hS (hS (hS (.lp (en [(0,.fnd Zh Zk ZC Y94),pd 39 Y3] [2,3,4,6,10,37,38]) [(.exit 0,en [(0,.fnd Zh Zk ZC Y94)] [])] (hS (hS (.seq (hS (hS (hS (.seq (.seq (.reg [(74,Y4)]) .leaf) (hS (.cnd Ub .leaf (.seq (.reg [(99,Y4)]) .leaf))))))) .leaf)))))))
def F104(rec:(ZO Zh Zk ZC Y94)->(El Ww)->Option (ZO Zh Zk ZC Y94))(a:ZO Zh Zk ZC Y94)(b:El Ww)(c:El Y3)(d:El Xa)(e:El Y91):Option (ZO Zh Zk ZC Y94):=XO (mkE tyTab mapTab pkTab [212] [] (F103 rec) 108 bdTab) (KX f194) f194.results F102 F_profile_finder_followA F_profile_finder_followR (fun y=>y.1.1) (a,b,c,d,e,())
theorem F_profile_finder_follow_eq(rec:(ZO Zh Zk ZC Y94)->(El Ww)->Option (ZO Zh Zk ZC Y94))(a:ZO Zh Zk ZC Y94)(b:El Ww)(c:El Y3)(d:El Xa)(e:El Y91):F104 rec a b c d e=F101 rec a b c d e:=by kernel_rfl
theorem F101_ok(rec:(ZO Zh Zk ZC Y94)->(El Ww)->Option (ZO Zh Zk ZC Y94))(a:ZS Tryz.prog 129 (F109S rec)):ZS Tryz.prog 194 (F101S rec):=WZ (m:=F103 rec) (fn:=f194) (hint:=F102) (pack:=fun y=>y.1.1) K9 tab_ok ⟨⟨(F100_ok rec a),trivial⟩,⟨a,trivial⟩,trivial⟩ fun x z h=>(F_profile_finder_follow_eq rec x.1 x.2.1 x.2.2.1 x.2.2.2.1 x.2.2.2.2.1).trans h
theorem Zsv {P:Program} {f:FuncId} {S:Tr.Spec} {fn:Func} (d:∀x,S.f x=none) (b:S.args.wf=true) (g:P.funcs[f]? =some fn) (e:fn.body.isNone=false) (a:(fn.name== "runtime.NumGoroutine")=false) (h:S.kp=[]):ZS P f S where
 wf:=b
 fn:=⟨fn,g,e,a⟩
 run:=fun _ _ _ _ x z _ _ _ _ _ c=>by rw[d x]at c;cases c
 kept:=.inl h
def F109(rec:(ZO Zh Zk ZC Y94)->(El Ww)->Option (ZO Zh Zk ZC Y94)):(ZO Zh Zk ZC Y94)->(El Ww)->Option (ZO Zh Zk ZC Y94):=fun f c=>
 C (idx f.1.2.2.1 c.2.1) fun g=>
 C (bif g.2.2.2.2.2.2.1 then J U else C (F173 c.2.2.2.2.2.1 c.2.1) fun r=>J r) fun s=>
 bif s then J f
 else
 C (F170 c.2.2.2.2.2.1) fun q=>
 C (Zz (R (Vc q+Vc [c.2.1]<=ZD))) fun _=>
 C (idx g.2.2.2.2.2.2.2.1 c.2.2.1) fun p=>
 C (idx f.1.2.1 g.2.2.2.2.1) fun t=>
 C (Gp .i64 (1:Int) t.2.1) fun u=>
 C (idx f.1.1 p.1) fun v=>
 C (Gp .i64 (1:Int) v.2.1) fun w=>
 C
 (run
 (fun a=>
 bif R (a.2.2<(↑(Vc g.2.2.2.2.2.2.2.1):Int)) then
 C (idx g.2.2.2.2.2.2.2.1 a.2.2) fun b=>
 C (idx a.1.1.1 b.1) fun j=>
 C (Gp .i64 (1:Int) j.2.1) fun e=>
 C a.2.1.1 fun _=>
 C a.2.1.1 fun k=>
 C
 (F98 k.2.2.2.2.2.2.2.1
 (U,a.2.1.2.1,a.2.1.2.2.1,a.2.2,p.1,b.1,p.2.2.1,b.2.1,a.2.1.2.2.2.1,()))
 fun h=>
 C
 (bif b.2.2.2.2.1 then
 C
 (F106 a.1
 (a.2.1.1,a.2.1.2.1,a.2.1.2.2.1,a.2.1.2.2.2.1,
 (a.2.1.2.2.2.2.1.1,b.2.1,K5 .i64 a.2.1.2.2.2.2.1.2.2.1 e,
 a.2.1.2.2.2.2.1.2.2.2),
 a.2.1.2.2.2.2.2)
 h b.1 b.2.1)
 fun d=>
 C (bif !Vd d.2 then C (F105 d.1 d.2) fun l=>J l else J d.1)
 fun m=>J (m,d.2)
 else J (a.1,Ub))
 fun i=>
 C
 ((F101 rec) i.1
 (a.2.1.1,a.2.1.2.1,a.2.1.2.2.1,a.2.1.2.2.2.1,
 (a.2.1.2.2.2.2.1.1,b.2.1,K5 .i64 a.2.1.2.2.2.2.1.2.2.1 e,
 a.2.1.2.2.2.2.1.2.2.2),
 a.2.1.2.2.2.2.2)
 a.2.2 h i.2)
 fun n=>
 J
 (.inl
 (n,
 (a.2.1.1,a.2.1.2.1,a.2.1.2.2.1,a.2.1.2.2.2.1,
 (a.2.1.2.2.2.2.1.1,b.2.1,K5 .i64 a.2.1.2.2.2.2.1.2.2.1 e,
 a.2.1.2.2.2.2.1.2.2.2),
 a.2.1.2.2.2.2.2),
 Vb .i64 (a.2.2+(1:Int))))
 else J (.inr a.1))
 (f,
 (c.1,c.2.1,c.2.2.1,c.2.2.2.1,
 (c.2.2.2.2.1.1,c.2.2.2.2.1.2.1,K5 .i64 c.2.2.2.2.1.2.2.1 w,
 K5 .i64 c.2.2.2.2.1.2.2.2.1 u,c.2.2.2.2.1.2.2.2.2),
 q++[c.2.1],()),
 Vb .i64 (c.2.2.1+(1:Int))))
 fun o=>J o
def F108M(rec:(ZO Zh Zk ZC Y94)->(El Ww)->Option (ZO Zh Zk ZC Y94)):List (Nat×List Tr.Spec):=[(131,[F105S]),(132,[F98S]),(191,[F173S]),(192,[F170S]),(193,[F106S]),(194,[F101S rec])]
def F108H:K3:=(hS (hS (.seq (.seq (.reg [(27,Y4)]) .leaf) (hS (hS (hS (hS (hS (.lp (en [(0,.fnd Zh Zk ZC Y94),(3,.var Ww (.pd Ww)),pd 6 Y3] [4,5]) [(.exit 0,en [(0,.fnd Zh Zk ZC Y94)] [])] (hS (.seq (hS (hS (hS (hS (hS (.seq (hS (.cnd (J ((en [] [3,4,5,6,8]),[(.normal,en [(0,.fnd Zh Zk ZC Y94),pd 9 Y91] [3,4,5,6,8])])) (hS (hS (.cnd (J ((en [] [3,4,5,6,8,9]),[(.normal,en [(0,.fnd Zh Zk ZC Y94)] [3,4,5,6,8,9])])) .leaf .leaf))) .leaf)) .leaf)))))) .leaf)))))))))))
def F108V(rec:(ZO Zh Zk ZC Y94)->(El Ww)->Option (ZO Zh Zk ZC Y94))(a:ZO Zh Zk ZC Y94)(b:El Ww):Option (ZO Zh Zk ZC Y94):=XO (mkE tyTab mapTab pkTab [] [] (F108M rec) 155 bdTab) (KX f129) f129.results F108H F108A F108R (fun y=>y.1.1) (a,b,())
theorem F108_eq(rec:(ZO Zh Zk ZC Y94)->(El Ww)->Option (ZO Zh Zk ZC Y94))(a:ZO Zh Zk ZC Y94)(b:El Ww):F108V rec a b=F109 rec a b:=by kernel_rfl
theorem F109_ok(rec:(ZO Zh Zk ZC Y94)->(El Ww)->Option (ZO Zh Zk ZC Y94))(a:ZS Tryz.prog 129 (F109S rec)):ZS Tryz.prog 129 (F109S (F109 rec)):=WZ (m:=F108M rec) (fn:=f129) (hint:=F108H) (pack:=fun y=>y.1.1) K9 tab_ok ⟨⟨F105_ok,trivial⟩,⟨F98_ok,trivial⟩,⟨F173_ok,trivial⟩,⟨F170_ok,trivial⟩,⟨F106_ok,trivial⟩,⟨(F101_ok rec a),trivial⟩,trivial⟩ fun x z h=>(F108_eq rec x.1 x.2.1).trans h
def F110:Nat->(ZO Zh Zk ZC Y94)->(El Ww)->Option (ZO Zh Zk ZC Y94)
 |0=>fun _ _=>Ub
 |k+1=>F109 (F110 k)
theorem F110_ok:∀k,ZS Tryz.prog 129 (F109S (F110 k))
 |0=>Zsv (fn:=f129) (fun _=>rfl) (by kernel_rfl) (by kernel_rfl) (by kernel_rfl) (by kernel_rfl) rfl
 |k+1=>F109_ok _ (F110_ok k)
def F108:(ZO Zh Zk ZC Y94)->(El Ww)->Option (ZO Zh Zk ZC Y94):=F110 100
def F108S:Tr.Spec:=F109S F108
theorem F108_ok:ZS Tryz.prog 129 F108S:=F110_ok 100
def F99:(ZO Zh Zk ZC Y94)->(El Y91)->(El Y3)->(El Y3)->Option (ZO Zh Zk ZC Y94):=F100 F108
def F99S:Tr.Spec:=F100S F108
theorem F99_ok:ZS Tryz.prog 79 F99S:=F100_ok F108 F108_ok
def F107:(ZO Zh Zk ZC Y94)->(El Y91)->Option (ZO Zh Zk ZC Y94):=fun g a=>
 C
 (run
 (fun s0=>
 bif R (s0.2<(↑(Vc g.1.2.2.1):Int)) then
 C (idx g.1.2.2.1 s0.2) fun w=>
 C
 (run
 (fun f=>
 bif R (f.2<(↑(Vc w.2.2.2.2.2.2.2.1):Int)) then
 C (idx w.2.2.2.2.2.2.2.1 f.2) fun p=>
 C
 (C a fun _=>
 C a fun x=>
 bif R (p.1=x.1) then
 bif p.2.2.2.1 then C a fun _=>C a fun y=>J (R (y.2.2.1<=p.2.2.1)) else J Ud
 else J Ud)
 fun z=>
 bif z then C (F99 f.1 a s0.2 f.2) fun A=>J (.inl (A,Vb .i64 (f.2+(1:Int))))
 else J (.inl (f.1,Vb .i64 (f.2+(1:Int))))
 else J (.inr f.1))
 (s0.1,(0:Int)))
 fun h=>J (.inl (h,Vb .i64 (s0.2+(1:Int))))
 else J (.inr s0.1))
 (g,(0:Int)))
 fun d=>
 C a fun _=>
 C a fun i=>
 bif !i.2.2.2.2.2.1 then J d
 else
 C
 (run
 (fun c=>
 bif R (c.2<(↑(Vc d.1.2.2.2.2.1):Int)) then
 C (idx d.1.2.2.2.2.1 c.2) fun b=>
 C a fun _=>
 C a fun e=>
 C
 (C a fun _=>
 C a fun j=>
 bif !R (b.1=j.1) then J U
 else
 C a fun _=>
 C a fun k=>
 bif R (c.1.2.1.2.2.2.2.2.1<Vb .i64 (k.2.2.2.2.1+b.2.2.1)) then
 J U
 else J (R ((3155932800:Int)<Vb .i64 (e.2.1+b.2.2.1))))
 fun l=>
 bif l then J (.inl (c.1,Vb .i64 (c.2+(1:Int))))
 else
 C a fun _=>
 C a fun m=>
 C a fun _=>
 C a fun n=>
 C a fun _=>
 C a fun o=>
 C a fun _=>
 C a fun q=>
 C a fun _=>
 C a fun r=>
 C a fun _=>
 C a fun s=>
 C
 (F98 q.2.2.2.2.2.2.2.1
 (Ud,(0:Int),(0:Int),(0:Int),r.1,b.2.1,s.2.1,
 Vb .i64 (e.2.1+b.2.2.1),Ud,()))
 fun t=>
 C
 (F105 c.1
 (J
 (b.2.1,Vb .i64 (e.2.1+b.2.2.1),
 Vb .i64 (e.2.1+b.2.2.1),m.2.2.2.1,
 Vb .i64 (n.2.2.2.2.1+b.2.2.1),Ud,o.2.2.2.2.2.2.1,t,())))
 fun u=>J (.inl (u,Vb .i64 (c.2+(1:Int))))
 else J (.inr c.1))
 (d,(0:Int)))
 fun v=>J v
def F107S:Tr.Spec:= {args:=(.cons (.fnd Zh Zk ZC Y94) (.cons (.pd Y91) .nil)),res:=.nil,fns:=[],α:=ZO Zh Zk ZC Y94,f:=fun x=>F107 x.1 x.2.1,unp:=fun z=>((z,(),()),())}
theorem F107_ok:ZS Tryz.prog 81 F107S:=WZ (rws:=[94]) (zxs:=[]) (nt:=146) (m:=[(79,[F99S]),(131,[F105S]),(132,[F98S])]) (fn:=f81) (hint:=(.seq (hS (.lp (en [(0,.fnd Zh Zk ZC Y94),pd 17 Y3] [1,15,16]) [(.exit 0,en [(0,.fnd Zh Zk ZC Y94)] [1])] (hS (hS (.seq (hS (hS (.lp (en [(0,.fnd Zh Zk ZC Y94),pd 25 Y3] [1,4,15,16,17,23,24]) [(.exit 2,en [(0,.fnd Zh Zk ZC Y94)] [1,15,16,17])] (hS (hS (.seq (hS (.seq (.reg [(49,Y4)]) .leaf)) .leaf)))))) .leaf))))) (hS (hS (.lp (en [(0,.fnd Zh Zk ZC Y94),pd 68 Y3] [1,66,67]) [(.exit 4,en [(0,.fnd Zh Zk ZC Y94)] [])] (hS (hS (.seq (hS (hS (.seq (.seq (.reg [(104,Y4)]) .leaf) .leaf))) .leaf)))))))) (pack:=fun y=>y.1.1) K9 tab_ok ⟨⟨F99_ok,trivial⟩,⟨F105_ok,trivial⟩,⟨F98_ok,trivial⟩,trivial⟩ fun x z h=>.trans (by kernel_rfl) h
end
end Q

