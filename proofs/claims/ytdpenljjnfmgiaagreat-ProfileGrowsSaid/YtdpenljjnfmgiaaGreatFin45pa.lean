/- The functions of the finder as functions of Lean, and that the program computes them; printed by a program of mine. Conditions: none. -/
import Derived.Test.YtdpenljjnfmgiaaGreatFin45f
import Derived.Test.YtdpenljjnfmgiaaGreatKep45
open Tr Go Go.Proofs
open Go.IntKind renaming wrap ->Vb
open List renaming length ->Vc
open Option renaming bind ->Va,isNone ->Vd
namespace Q
noncomputable section
def F106(a:ZH Zh Zm Zx Y94)(b:El Y91):Option (ZH Zh Zm Zx Y94):=Tr.keepF a b
abbrev F106A:Pats:=(.cons (.fnd Zh Zm Zx Y94) (.cons (.pd Y91) .nil))
abbrev F106R:Pats:=.nil
def F106S:Tr.Spec:= {args:=F106A,res:=F106R,fns:=[],α:=ZH Zh Zm Zx Y94,f:=fun x=>F106 x.1 x.2.1,unp:=fun z=>((z,(),()),())}
theorem F106_ok:ZL Tryz.prog 131 F106S:=Tr.keep_ok
def F146(a:El JS):Option (List (El Jp)):=Tr.cloLegG a
def F146S:Tr.Spec:= {args:=(.cons (.pd JS) .nil),res:=(.cons (.own Jp false) .nil),fns:=[],α:=List (El Jp),f:=fun x=>F146 x.1,unp:=fun z=>(((),()),(z,()))}
theorem F146_ok:ZL Tryz.prog 57 F146S:=Tr.cloLeg_ok
def F146E:Zp:=⟨57,F146S,F146_ok⟩
def F99:(El JS)->(El Jp)->Option (El JS):=fun c a=>Va (F146 c) fun b=>Va (Zy (decide (Vc b+Vc [a]<=ZC))) fun _=>some (b++[a])
def F99S:Tr.Spec:= {args:=(.cons (.pd JS) (.cons (.pd Jp) .nil)),res:=(.cons (.pd JS) .nil),fns:=[],α:=El JS,f:=fun x=>F99 x.1 x.2.1,unp:=fun z=>(((),(),()),(z,()))}
theorem F99_ok:ZL Tryz.prog 132 F99S:=WS (rws:=[]) (zxs:=[]) (nt:=10) (m:=[(57,[F146S])]) (fn:=Tryz.f132) (hint:=.leaf) (pack:=fun y=>y.2.1) KZ tab_ok ⟨⟨F146_ok,trivial⟩,trivial⟩ fun x z h=>.trans (by kernel_rfl) h
def F157:(El W5)->(El Y3)->Option (El Y3):=fun a b=>
 Va
 (run
 (fun s0=>
 bif decide (s0<(↑(Vc a):Int)) then
 Va (idx a s0) fun c=>bif decide (b=c) then some (.inr (.inr s0)) else some (.inl (Vb .i64 (s0+(1:Int))))
 else some (.inr (.inl ())))
 (0:Int))
 fun d=>Sum.elim (fun _=>some (-1:Int)) (fun e=>some e) d
def F157E:Zp:=X6 225 Tryz.f225 19 [] (hS (.seq (hS (.lp (en [pd 8 Y3] [0,1,7]) [(.exit 0,e0),(.ret,en [pd 4 Y3] [])] .leaf)) .leaf)) (.p W5 (.q Y3)) (.pd Y3) (u2 F157)
def F151:(El W5)->(El Y3)->Option (El Y4):=fun a b=>Va (F157 a b) fun c=>some (decide ((0:Int)<=c))
def F151S:Tr.Spec:= {args:=(.cons (.pd W5) (.cons (.pd Y3) .nil)),res:=(.cons (.pd Y4) .nil),fns:=[],α:=El Y4,f:=fun x=>F151 x.1 x.2.1,unp:=fun z=>(((),(),()),(z,()))}
theorem F151_ok:ZL Tryz.prog 191 F151S:=WS (rws:=[]) (zxs:=[]) (nt:=9) (m:=[(225,[F157E.S])]) (fn:=Tryz.f191) (hint:=.leaf) (pack:=fun y=>y.2.1) KZ tab_ok ⟨⟨F157E.ok,trivial⟩,trivial⟩ fun x z h=>.trans (by kernel_rfl) h
def F148(a:El W5):Option (List (El Y3)):=Tr.cloIntG a
def F148S:Tr.Spec:= {args:=(.cons (.pd W5) .nil),res:=(.cons (.own Y3 false) .nil),fns:=[],α:=List (El Y3),f:=fun x=>F148 x.1,unp:=fun z=>(((),()),(z,()))}
theorem F148_ok:ZL Tryz.prog 192 F148S:=Tr.cloInt_ok
def F107:(ZH Zh Zm Zx Y94)->(El We)->(El JS)->(El Y3)->(El Y3)->Option (ZH Zh Zm Zx Y94×El Y91):=fun b a f d e=>
 Va a.1 fun _=>
 Va a.1 fun g=>
 Va (F22 g.2.2.2.2.2.2.1 a.2.2.2.2.1) fun c=>
 bif !decide (c.2=(0:Int)) then some (b,none)
 else
 Va (F21 c.1) fun h=>
 bif !h.2 then some (b,none)
 else
 Va (idx b.1.1 d) fun i=>
 Va a.1 fun _=>
 Va a.1 fun j=>
 Va a.1 fun _=>
 Va a.1 fun k=>
 some
 (b,
 some
 (d,e,Vb .i64 (e+i.2.2.2.1),Vb .i64 (j.2.2.2.1+(1:Int)),k.2.2.2.2.1,true,
 c.1,f,()))
def F107S:Tr.Spec:= {args:=(.cons (.fnd Zh Zm Zx Y94) (.cons (.pd We) (.cons (.pd JS) (.cons (.pd Y3) (.cons (.pd Y3) .nil))))),res:=(.cons (.pd Y91) .nil),fns:=[],α:=ZH Zh Zm Zx Y94×El Y91,f:=fun x=>F107 x.1 x.2.1 x.2.2.1 x.2.2.2.1 x.2.2.2.2.1,unp:=fun z=>((z.1,(),(),(),(),()),(z.2,()))}
theorem F107_ok:ZL Tryz.prog 193 F107S:=WS (rws:=[94]) (zxs:=[]) (nt:=63) (m:=[(226,[F22E.S]),(227,[F21E.S])]) (fn:=Tryz.f193) (hint:=.leaf) (pack:=fun y=>(y.1.1,y.2.1)) KZ tab_ok ⟨⟨F22E.ok,trivial⟩,⟨F21E.ok,trivial⟩,trivial⟩ fun x z h=>.trans (by kernel_rfl) h
abbrev F109A:Pats:=(.cons (.fnd Zh Zm Zx Y94) (.cons (.pd We) .nil))
abbrev F109R:Pats:=.nil
def F110S(rec:(ZH Zh Zm Zx Y94)->(El We)->Option (ZH Zh Zm Zx Y94)):Tr.Spec:= {args:=F109A,res:=F109R,fns:=[],α:=ZH Zh Zm Zx Y94,f:=fun x=>rec x.1 x.2.1,unp:=fun z=>((z,(),()),())}
def F101(rec:(ZH Zh Zm Zx Y94)->(El We)->Option (ZH Zh Zm Zx Y94)):(ZH Zh Zm Zx Y94)->(El Y91)->(El Y3)->(El Y3)->Option (ZH Zh Zm Zx Y94):=fun a b c d=>
 Va b fun _=>
 Va b fun e=>
 bif decide (e.2.2.2.1<a.2.1.2.2.2.2.1) then
 Va (idx a.1.2.2.1 c) fun f=>
 Va (idx f.2.2.2.2.2.2.2.1 d) fun g=>
 Va (rec a (b,c,d,false,(g.2.2.1,(0:Int),(0:Int),(0:Int),()),([]:List (El Y3)),())) fun h=>some h
 else some a
abbrev F100A:Pats:=(.cons (.fnd Zh Zm Zx Y94) (.cons (.pd Y91) (.cons (.pd Y3) (.cons (.pd Y3) .nil))))
abbrev F100R:Pats:=.nil
def F101S(rec:(ZH Zh Zm Zx Y94)->(El We)->Option (ZH Zh Zm Zx Y94)):Tr.Spec:= {args:=F100A,res:=F100R,fns:=[],α:=ZH Zh Zm Zx Y94,f:=fun x=>F101 rec x.1 x.2.1 x.2.2.1 x.2.2.2.1,unp:=fun z=>((z,(),(),(),()),())}
def F100M(rec:(ZH Zh Zm Zx Y94)->(El We)->Option (ZH Zh Zm Zx Y94)):List (Nat×List Tr.Spec):=[(129,[F110S rec])]
def F100H:KR:=.leaf
def F100V(rec:(ZH Zh Zm Zx Y94)->(El We)->Option (ZH Zh Zm Zx Y94))(a:ZH Zh Zm Zx Y94)(b:El Y91)(c:El Y3)(d:El Y3):Option (ZH Zh Zm Zx Y94):=XO (mkE tyTab mapTab pkTab [212] [] (F100M rec) 38 bdTab) (KM Tryz.f79) Tryz.f79.results F100H F100A F100R (fun y=>y.1.1) (a,b,c,d,())
theorem F100_eq(rec:(ZH Zh Zm Zx Y94)->(El We)->Option (ZH Zh Zm Zx Y94))(a:ZH Zh Zm Zx Y94)(b:El Y91)(c:El Y3)(d:El Y3):F100V rec a b c d=F101 rec a b c d:=by kernel_rfl
theorem F101_ok(rec:(ZH Zh Zm Zx Y94)->(El We)->Option (ZH Zh Zm Zx Y94))(a:ZL Tryz.prog 129 (F110S rec)):ZL Tryz.prog 79 (F101S rec):=WS (m:=F100M rec) (fn:=Tryz.f79) (hint:=F100H) (pack:=fun y=>y.1.1) KZ tab_ok ⟨⟨a,trivial⟩,trivial⟩ fun x z h=>(F100_eq rec x.1 x.2.1 x.2.2.1 x.2.2.2.1).trans h
def F102(rec:(ZH Zh Zm Zx Y94)->(El We)->Option (ZH Zh Zm Zx Y94)):(ZH Zh Zm Zx Y94)->(El We)->(El Y3)->(El JS)->(El Y91)->Option (ZH Zh Zm Zx Y94):=fun e d j n k=>
 Va (idx e.1.2.2.1 d.2.1) fun o=>
 Va (idx o.2.2.2.2.2.2.2.1 j) fun p=>
 Va (idx e.2.2.1 d.2.1) fun l=>
 Va
 (run
 (fun b=>
 bif decide (b.2<(↑(Vc l):Int)) then
 Va (idx l b.2) fun q=>
 Va (idx b.1.1.2.2.2.1 q) fun c=>
 Va (idx b.1.1.2.2.1 c.2.2.1) fun r=>
 Va (idx r.2.2.2.2.2.2.2.1 c.2.2.2.1) fun m=>
 Va (bif !decide (c.2.1=j) then some true else some (decide (m.2.2.1<p.2.1))) fun s=>
 bif s then some (.inl (b.1,Vb .i64 (b.2+(1:Int))))
 else
 bif c.2.2.2.2.1 then
 Va d.1 fun _=>
 Va d.1 fun a=>
 Va
 (rec b.1
 (some
 (a.1,a.2.1,a.2.2.1,a.2.2.2.1,a.2.2.2.2.1,a.2.2.2.2.2.1,a.2.2.2.2.2.2.1,n,
 a.2.2.2.2.2.2.2.2),
 c.2.2.1,c.2.2.2.1,true,d.2.2.2.2.1,d.2.2.2.2.2.1,()))
 fun f=>some (.inl (f,Vb .i64 (b.2+(1:Int))))
 else
 Va (bif !Vd k then some m.2.2.2.1 else some false) fun g=>
 bif g then
 Va ((F101 rec) b.1 k c.2.2.1 c.2.2.2.1) fun h=>
 some (.inl (h,Vb .i64 (b.2+(1:Int))))
 else some (.inl (b.1,Vb .i64 (b.2+(1:Int))))
 else some (.inr b.1))
 (e,(0:Int)))
 fun i=>some i
abbrev F_profile_finder_followA:Pats:=(.cons (.fnd Zh Zm Zx Y94) (.cons (.pd We) (.cons (.pd Y3) (.cons (.pd JS) (.cons (.pd Y91) .nil)))))
abbrev F_profile_finder_followR:Pats:=.nil
def F102S(rec:(ZH Zh Zm Zx Y94)->(El We)->Option (ZH Zh Zm Zx Y94)):Tr.Spec:= {args:=F_profile_finder_followA,res:=F_profile_finder_followR,fns:=[],α:=ZH Zh Zm Zx Y94,f:=fun x=>F102 rec x.1 x.2.1 x.2.2.1 x.2.2.2.1 x.2.2.2.2.1,unp:=fun z=>((z,(),(),(),(),()),())}
def F104(rec:(ZH Zh Zm Zx Y94)->(El We)->Option (ZH Zh Zm Zx Y94)):List (Nat×List Tr.Spec):=[(79,[F101S rec]),(129,[F110S rec])]
def F103:KR:=(hS (hS (hS (.lp (en [(0,.fnd Zh Zm Zx Y94),pd 39 Y3] [2,3,4,6,10,37,38]) [(.exit 0,en [(0,.fnd Zh Zm Zx Y94)] [])] (hS (hS (.seq (hS (hS (hS (.seq (.seq (.reg [(74,Y4)]) .leaf) (hS (.cnd none .leaf (.seq (.reg [(99,Y4)]) .leaf))))))) .leaf)))))))
def F105(rec:(ZH Zh Zm Zx Y94)->(El We)->Option (ZH Zh Zm Zx Y94))(a:ZH Zh Zm Zx Y94)(b:El We)(c:El Y3)(d:El JS)(e:El Y91):Option (ZH Zh Zm Zx Y94):=XO (mkE tyTab mapTab pkTab [212] [] (F104 rec) 108 bdTab) (KM Tryz.f194) Tryz.f194.results F103 F_profile_finder_followA F_profile_finder_followR (fun y=>y.1.1) (a,b,c,d,e,())
theorem F_profile_finder_follow_eq(rec:(ZH Zh Zm Zx Y94)->(El We)->Option (ZH Zh Zm Zx Y94))(a:ZH Zh Zm Zx Y94)(b:El We)(c:El Y3)(d:El JS)(e:El Y91):F105 rec a b c d e=F102 rec a b c d e:=by kernel_rfl
theorem F102_ok(rec:(ZH Zh Zm Zx Y94)->(El We)->Option (ZH Zh Zm Zx Y94))(a:ZL Tryz.prog 129 (F110S rec)):ZL Tryz.prog 194 (F102S rec):=WS (m:=F104 rec) (fn:=Tryz.f194) (hint:=F103) (pack:=fun y=>y.1.1) KZ tab_ok ⟨⟨(F101_ok rec a),trivial⟩,⟨a,trivial⟩,trivial⟩ fun x z h=>(F_profile_finder_follow_eq rec x.1 x.2.1 x.2.2.1 x.2.2.2.1 x.2.2.2.2.1).trans h
theorem ZqG {P:Program} {f:FuncId} {S:Tr.Spec} {fn:Func} (d:∀x,S.f x=none) (b:S.args.wf=true) (g:P.funcs[f]? =some fn) (e:fn.body.isNone=false) (a:(fn.name== "runtime.NumGoroutine")=false) (h:S.kp=[]):ZL P f S where
 wf:=b
 fn:=⟨fn,g,e,a⟩
 run:=fun _ _ _ _ x z _ _ _ _ _ c=>by rw[d x]at c;cases c
 kept:=.inl h
def F110(rec:(ZH Zh Zm Zx Y94)->(El We)->Option (ZH Zh Zm Zx Y94)):(ZH Zh Zm Zx Y94)->(El We)->Option (ZH Zh Zm Zx Y94):=fun f c=>
 Va (idx f.1.2.2.1 c.2.1) fun g=>
 Va (bif g.2.2.2.2.2.2.1 then some true else Va (F151 c.2.2.2.2.2.1 c.2.1) fun r=>some r) fun s=>
 bif s then some f
 else
 Va (F148 c.2.2.2.2.2.1) fun q=>
 Va (Zy (decide (Vc q+Vc [c.2.1]<=ZC))) fun _=>
 Va (idx g.2.2.2.2.2.2.2.1 c.2.2.1) fun p=>
 Va (idx f.1.2.1 g.2.2.2.2.1) fun t=>
 Va (GH .i64 (1:Int) t.2.1) fun u=>
 Va (idx f.1.1 p.1) fun v=>
 Va (GH .i64 (1:Int) v.2.1) fun w=>
 Va
 (run
 (fun a=>
 bif decide (a.2.2<(↑(Vc g.2.2.2.2.2.2.2.1):Int)) then
 Va (idx g.2.2.2.2.2.2.2.1 a.2.2) fun b=>
 Va (idx a.1.1.1 b.1) fun j=>
 Va (GH .i64 (1:Int) j.2.1) fun e=>
 Va a.2.1.1 fun _=>
 Va a.2.1.1 fun k=>
 Va
 (F99 k.2.2.2.2.2.2.2.1
 (true,a.2.1.2.1,a.2.1.2.2.1,a.2.2,p.1,b.1,p.2.2.1,b.2.1,a.2.1.2.2.2.1,()))
 fun h=>
 Va
 (bif b.2.2.2.2.1 then
 Va
 (F107 a.1
 (a.2.1.1,a.2.1.2.1,a.2.1.2.2.1,a.2.1.2.2.2.1,
 (a.2.1.2.2.2.2.1.1,b.2.1,Wy .i64 a.2.1.2.2.2.2.1.2.2.1 e,
 a.2.1.2.2.2.2.1.2.2.2),
 a.2.1.2.2.2.2.2)
 h b.1 b.2.1)
 fun d=>
 Va (bif !Vd d.2 then Va (F106 d.1 d.2) fun l=>some l else some d.1)
 fun m=>some (m,d.2)
 else some (a.1,none))
 fun i=>
 Va
 ((F102 rec) i.1
 (a.2.1.1,a.2.1.2.1,a.2.1.2.2.1,a.2.1.2.2.2.1,
 (a.2.1.2.2.2.2.1.1,b.2.1,Wy .i64 a.2.1.2.2.2.2.1.2.2.1 e,
 a.2.1.2.2.2.2.1.2.2.2),
 a.2.1.2.2.2.2.2)
 a.2.2 h i.2)
 fun n=>
 some
 (.inl
 (n,
 (a.2.1.1,a.2.1.2.1,a.2.1.2.2.1,a.2.1.2.2.2.1,
 (a.2.1.2.2.2.2.1.1,b.2.1,Wy .i64 a.2.1.2.2.2.2.1.2.2.1 e,
 a.2.1.2.2.2.2.1.2.2.2),
 a.2.1.2.2.2.2.2),
 Vb .i64 (a.2.2+(1:Int))))
 else some (.inr a.1))
 (f,
 (c.1,c.2.1,c.2.2.1,c.2.2.2.1,
 (c.2.2.2.2.1.1,c.2.2.2.2.1.2.1,Wy .i64 c.2.2.2.2.1.2.2.1 w,
 Wy .i64 c.2.2.2.2.1.2.2.2.1 u,c.2.2.2.2.1.2.2.2.2),
 q++[c.2.1],()),
 Vb .i64 (c.2.2.1+(1:Int))))
 fun o=>some o
def F109M(rec:(ZH Zh Zm Zx Y94)->(El We)->Option (ZH Zh Zm Zx Y94)):List (Nat×List Tr.Spec):=[(131,[F106S]),(132,[F99S]),(191,[F151S]),(192,[F148S]),(193,[F107S]),(194,[F102S rec])]
def F109H:KR:=(hS (hS (.seq (.seq (.reg [(27,Y4)]) .leaf) (hS (hS (hS (hS (hS (.lp (en [(0,.fnd Zh Zm Zx Y94),(3,.var We (.pd We)),pd 6 Y3] [4,5]) [(.exit 0,en [(0,.fnd Zh Zm Zx Y94)] [])] (hS (.seq (hS (hS (hS (hS (hS (.seq (hS (.cnd (some ((en [] [3,4,5,6,8]),[(.normal,en [(0,.fnd Zh Zm Zx Y94),pd 9 Y91] [3,4,5,6,8])])) (hS (hS (.cnd (some ((en [] [3,4,5,6,8,9]),[(.normal,en [(0,.fnd Zh Zm Zx Y94)] [3,4,5,6,8,9])])) .leaf .leaf))) .leaf)) .leaf)))))) .leaf)))))))))))
def F109V(rec:(ZH Zh Zm Zx Y94)->(El We)->Option (ZH Zh Zm Zx Y94))(a:ZH Zh Zm Zx Y94)(b:El We):Option (ZH Zh Zm Zx Y94):=XO (mkE tyTab mapTab pkTab [] [] (F109M rec) 155 bdTab) (KM Tryz.f129) Tryz.f129.results F109H F109A F109R (fun y=>y.1.1) (a,b,())
theorem F109_eq(rec:(ZH Zh Zm Zx Y94)->(El We)->Option (ZH Zh Zm Zx Y94))(a:ZH Zh Zm Zx Y94)(b:El We):F109V rec a b=F110 rec a b:=by kernel_rfl
theorem F110_ok(rec:(ZH Zh Zm Zx Y94)->(El We)->Option (ZH Zh Zm Zx Y94))(a:ZL Tryz.prog 129 (F110S rec)):ZL Tryz.prog 129 (F110S (F110 rec)):=WS (m:=F109M rec) (fn:=Tryz.f129) (hint:=F109H) (pack:=fun y=>y.1.1) KZ tab_ok ⟨⟨F106_ok,trivial⟩,⟨F99_ok,trivial⟩,⟨F151_ok,trivial⟩,⟨F148_ok,trivial⟩,⟨F107_ok,trivial⟩,⟨(F102_ok rec a),trivial⟩,trivial⟩ fun x z h=>(F109_eq rec x.1 x.2.1).trans h
def F111:Nat->(ZH Zh Zm Zx Y94)->(El We)->Option (ZH Zh Zm Zx Y94)
 |0=>fun _ _=>none
 |k+1=>F110 (F111 k)
theorem F111_ok:∀k,ZL Tryz.prog 129 (F110S (F111 k))
 |0=>ZqG (fn:=Tryz.f129) (fun _=>rfl) (by kernel_rfl) (by kernel_rfl) (by kernel_rfl) (by kernel_rfl) rfl
 |k+1=>F110_ok _ (F111_ok k)
def F109:(ZH Zh Zm Zx Y94)->(El We)->Option (ZH Zh Zm Zx Y94):=F111 100
def F109S:Tr.Spec:=F110S F109
theorem F109_ok:ZL Tryz.prog 129 F109S:=F111_ok 100
def F100:(ZH Zh Zm Zx Y94)->(El Y91)->(El Y3)->(El Y3)->Option (ZH Zh Zm Zx Y94):=F101 F109
def F100S:Tr.Spec:=F101S F109
theorem F100_ok:ZL Tryz.prog 79 F100S:=F101_ok F109 F109_ok
def F108:(ZH Zh Zm Zx Y94)->(El Y91)->Option (ZH Zh Zm Zx Y94):=fun g a=>
 Va
 (run
 (fun s0=>
 bif decide (s0.2<(↑(Vc g.1.2.2.1):Int)) then
 Va (idx g.1.2.2.1 s0.2) fun w=>
 Va
 (run
 (fun f=>
 bif decide (f.2<(↑(Vc w.2.2.2.2.2.2.2.1):Int)) then
 Va (idx w.2.2.2.2.2.2.2.1 f.2) fun p=>
 Va
 (Va a fun _=>
 Va a fun x=>
 bif decide (p.1=x.1) then
 bif p.2.2.2.1 then Va a fun _=>Va a fun y=>some (decide (y.2.2.1<=p.2.2.1)) else some false
 else some false)
 fun z=>
 bif z then Va (F100 f.1 a s0.2 f.2) fun A=>some (.inl (A,Vb .i64 (f.2+(1:Int))))
 else some (.inl (f.1,Vb .i64 (f.2+(1:Int))))
 else some (.inr f.1))
 (s0.1,(0:Int)))
 fun h=>some (.inl (h,Vb .i64 (s0.2+(1:Int))))
 else some (.inr s0.1))
 (g,(0:Int)))
 fun d=>
 Va a fun _=>
 Va a fun i=>
 bif !i.2.2.2.2.2.1 then some d
 else
 Va
 (run
 (fun c=>
 bif decide (c.2<(↑(Vc d.1.2.2.2.2.1):Int)) then
 Va (idx d.1.2.2.2.2.1 c.2) fun b=>
 Va a fun _=>
 Va a fun e=>
 Va
 (Va a fun _=>
 Va a fun j=>
 bif !decide (b.1=j.1) then some true
 else
 Va a fun _=>
 Va a fun k=>
 bif decide (c.1.2.1.2.2.2.2.2.1<Vb .i64 (k.2.2.2.2.1+b.2.2.1)) then
 some true
 else some (decide ((3155932800:Int)<Vb .i64 (e.2.1+b.2.2.1))))
 fun l=>
 bif l then some (.inl (c.1,Vb .i64 (c.2+(1:Int))))
 else
 Va a fun _=>
 Va a fun m=>
 Va a fun _=>
 Va a fun n=>
 Va a fun _=>
 Va a fun o=>
 Va a fun _=>
 Va a fun q=>
 Va a fun _=>
 Va a fun r=>
 Va a fun _=>
 Va a fun s=>
 Va
 (F99 q.2.2.2.2.2.2.2.1
 (false,(0:Int),(0:Int),(0:Int),r.1,b.2.1,s.2.1,
 Vb .i64 (e.2.1+b.2.2.1),false,()))
 fun t=>
 Va
 (F106 c.1
 (some
 (b.2.1,Vb .i64 (e.2.1+b.2.2.1),
 Vb .i64 (e.2.1+b.2.2.1),m.2.2.2.1,
 Vb .i64 (n.2.2.2.2.1+b.2.2.1),false,o.2.2.2.2.2.2.1,t,())))
 fun u=>some (.inl (u,Vb .i64 (c.2+(1:Int))))
 else some (.inr c.1))
 (d,(0:Int)))
 fun v=>some v
def F108S:Tr.Spec:= {args:=(.cons (.fnd Zh Zm Zx Y94) (.cons (.pd Y91) .nil)),res:=.nil,fns:=[],α:=ZH Zh Zm Zx Y94,f:=fun x=>F108 x.1 x.2.1,unp:=fun z=>((z,(),()),())}
theorem F108_ok:ZL Tryz.prog 81 F108S:=WS (rws:=[94]) (zxs:=[]) (nt:=146) (m:=[(79,[F100S]),(131,[F106S]),(132,[F99S])]) (fn:=Tryz.f81) (hint:=(.seq (hS (.lp (en [(0,.fnd Zh Zm Zx Y94),pd 17 Y3] [1,15,16]) [(.exit 0,en [(0,.fnd Zh Zm Zx Y94)] [1])] (hS (hS (.seq (hS (hS (.lp (en [(0,.fnd Zh Zm Zx Y94),pd 25 Y3] [1,4,15,16,17,23,24]) [(.exit 2,en [(0,.fnd Zh Zm Zx Y94)] [1,15,16,17])] (hS (hS (.seq (hS (.seq (.reg [(49,Y4)]) .leaf)) .leaf)))))) .leaf))))) (hS (hS (.lp (en [(0,.fnd Zh Zm Zx Y94),pd 68 Y3] [1,66,67]) [(.exit 4,en [(0,.fnd Zh Zm Zx Y94)] [])] (hS (hS (.seq (hS (hS (.seq (.seq (.reg [(104,Y4)]) .leaf) .leaf))) .leaf)))))))) (pack:=fun y=>y.1.1) KZ tab_ok ⟨⟨F100_ok,trivial⟩,⟨F106_ok,trivial⟩,⟨F99_ok,trivial⟩,trivial⟩ fun x z h=>.trans (by kernel_rfl) h
end
end Q

