/- The functions of the program as functions of Lean, and that the program computes them; printed by a program of mine. Conditions: none. -/
import Derived.Test.YtbjejlpejjnpnaaGreatFintopb
open Tr Go Go.Proofs
open Int renaming toNat ->Vf
open Go.IntKind renaming wrap ->Vc
open List renaming length ->Vb,replicate ->Vd,set ->Ve,take ->Vg,drop ->Vh
open Option renaming bind ->Va
open Sum renaming elim ->Vi
namespace Q
noncomputable section
def F106:(El KP)->(El KP)->Option (El Y4):=fun a b=>
 Va
 (run
 (fun s0=>
 bif decide (s0<(4:Int)) then
 Va (Zp s0 (4:Nat)) fun c=>
 Va a[c]? fun d=>
 Va (Zp s0 (4:Nat)) fun e=>
 Va b[e]? fun f=>
 bif decide (f<d) then some (.inr (.inr false)) else some (.inl (Vc .i64 (s0+(1:Int))))
 else some (.inr (.inl ())))
 (0:Int))
 fun g=>Vi (fun _=>some true) (fun h=>some h) g
def F106E:Zl:=ZK 124 Tryz.f124 17 [] (hS (.seq (hS (.lp (en [pd 6 Y3] [2,3]) [(.exit 0,e0),(.ret,en [pd 4 Y4] [])] .leaf)) .leaf)) (.p KP (.q KP)) (.pd Y4) (u2 F106)
def F104:(El KP)->(El KP)->Option (El Y4):=fun a b=>
 Va
 (Va (Tr.eqEl.eqs (Tr.eqEl (Tr.Ty.int .i64)) a b) fun c=>bif !c then Va (F106 a b) fun d=>some d else some false)
 fun e=>some e
def F104E:Zl:=ZK 82 Tryz.f82 13 [F106E] (hS (.seq (.reg [(4,Y4)]) .leaf)) (.p KP (.q KP)) (.pd Y4) (u2 F104)
def F103:(El RA)->(El KP)->Option (El Y4):=fun c d=>
 Va
 (run
 (fun s0=>
 bif decide (s0.2<(↑(Vb c):Int)) then
 Va (idx c s0.2) fun e=>
 Va
 (run
 (fun a=>
 bif decide (a<(4:Int)) then
 Va (Zp a (4:Nat)) fun f=>
 Va e[f]? fun g=>
 Va (Zp a (4:Nat)) fun h=>
 Va d[h]? fun i=>
 bif decide (i<g) then some (.inr (.inl ())) else some (.inl (Vc .i64 (a+(1:Int))))
 else some (.inr (.inr ())))
 (0:Int))
 fun j=>Vi (fun _=>some (.inl (s0.1,Vc .i64 (s0.2+(1:Int))))) (fun _=>some (.inr true)) j
 else some (.inr s0.1))
 (false,(0:Int)))
 fun b=>some b
def F103E:Zl:=ZK 209 Tryz.f209 28 [] (hS (hS (hS (.seq (hS (.lp (en [pd 5 Y4,pd 11 Y3] [3,9,10]) [(.exit 0,en [pd 5 Y4] [])] (hS (hS (.seq (hS (.seq (hS (.lp (en [pd 15 Y3] [3,5,7,9,10,11]) [(.exit 1,en [] [3,5,9,10,11]),(.exit 2,e0)] .leaf)) .leaf)) .leaf))))) .leaf)))) (.p RA (.q KP)) (.pd Y4) (u2 F103)
def F107:(List (El KP))->(El KP)->Option (List (El KP)):=fun g f=>
 Va (F103 g f) fun o=>
 bif o then some g
 else
 Va
 (run
 (fun d=>
 bif decide (d.2.2<(↑(Vb g):Int)) then
 Va (Zp d.2.2 (Vb d.1)) fun p=>
 Va d.1[p]? fun m=>
 Va (F104 f m) fun q=>
 bif !q then
 Va (Zp d.2.1 (Vb d.1)) fun n=>
 Va d.1[n]? fun _=>
 some (.inl (Ve d.1 n m,Vc .i64 (d.2.1+(1:Int)),Vc .i64 (d.2.2+(1:Int))))
 else some (.inl (d.1,d.2.1,Vc .i64 (d.2.2+(1:Int))))
 else some (.inr (d.1,d.2.1)))
 (g,(0:Int),(0:Int)))
 fun c=>
 Va
 (run
 (fun h=>
 Va
 (bif decide (h<c.2) then
 Va (Zp h (Vb c.1)) fun r=>
 Va c.1[r]? fun i=>Va (F102 i f) fun j=>some (decide (j<(0:Int)))
 else some false)
 fun k=>bif k then some (.inl (Vc .i64 (h+(1:Int)))) else some (.inr h))
 (0:Int))
 fun b=>
 Va
 (ZE
 (decide
 ((0:El (Tr.Ty.int .i64))<=Vc .i64 (c.2 - b)/\
 Vc .i64 (c.2 - b)<=Vc .i64 (c.2 - b)/\
 Vc .i64 (c.2 - b)<=(↑Zz:El (Tr.Ty.int .i64)))))
 fun _=>
 Va (sliceB (Vb c.1) (Vb c.1) (some b) (some c.2)) fun a=>
 Va (Zp b (Vb c.1+(1:Nat))) fun l=>
 Va (sliceB (Vb c.1) l none (some b)) fun e=>
 Va (ZE (decide (Vb (Vg e.2 c.1)+Vb [f]<=Zz))) fun _=>
 Va
 (ZE
 (decide
 (Vb (Vg e.2 c.1++[f])+
 Vb
 (Vg
 (Min.min (Vb (Vg (a.2 - a.1) (Vh a.1 c.1)))
 (Vb (Vd (Vf (Vc .i64 (c.2 - b))) (Tr.zeroEl KP))))
 (Vg (a.2 - a.1) (Vh a.1 c.1))++
 Vh
 (Min.min (Vb (Vg (a.2 - a.1) (Vh a.1 c.1)))
 (Vb (Vd (Vf (Vc .i64 (c.2 - b))) (Tr.zeroEl KP))))
 (Vd (Vf (Vc .i64 (c.2 - b))) (Tr.zeroEl KP)))<=
 Zz)))
 fun _=>
 some
 (Vg e.2 c.1++[f]++
 (Vg
 (Min.min (Vb (Vg (a.2 - a.1) (Vh a.1 c.1)))
 (Vb (Vd (Vf (Vc .i64 (c.2 - b))) (Tr.zeroEl KP))))
 (Vg (a.2 - a.1) (Vh a.1 c.1))++
 Vh
 (Min.min (Vb (Vg (a.2 - a.1) (Vh a.1 c.1)))
 (Vb (Vd (Vf (Vc .i64 (c.2 - b))) (Tr.zeroEl KP))))
 (Vd (Vf (Vc .i64 (c.2 - b))) (Tr.zeroEl KP))))
def F107E:Zl:=ZK 165 Tryz.f165 64 [F102E,F104E,F103E] (hS (hS (hS (.seq (hS (.lp ⟨[(0,.own KP false),pd 5 Y3,pd 16 Y3],[],[3,15],[(14,0)],[],[]⟩ [(.exit 0,en [(0,.own KP false),pd 5 Y3] [3])] .leaf)) (hS (.seq (.lp (en [pd 8 Y3] [0,3,5]) [(.exit 2,en [pd 8 Y3] [0,3,5])] (.seq (.seq (.reg [(42,Y4)]) .leaf) .leaf)) .leaf)))))) (.cons (.own KP false) (.q KP)) (.own KP false) (u2 F107)
def F105:(El RA)->Option (El RA):=fun a=>
 Va
 (run
 (fun s0=>
 bif decide (s0.2<(↑(Vb a):Int)) then
 Va (idx a s0.2) fun b=>Va (F107 s0.1 b) fun c=>some (.inl (c,Vc .i64 (s0.2+(1:Int))))
 else some (.inr s0.1))
 ([],(0:Int)))
 fun d=>some d
def F105E:Zl:=ZK 115 Tryz.f115 17 [F107E] (hS (hS (.seq (hS (.lp (en [(3,.own KP false),pd 8 Y3] [6,7]) [(.exit 0,en [(3,.own KP false)] [])] .leaf)) .leaf))) (.q RA) (.pd RA) (u1 F105)
def F157:(El Kf)->(El J7)->Option (El J7):=fun l c=>
 Va
 (run
 (fun s0=>
 bif decide (s0.2<(↑(Vb c):Int)) then
 Va (idx c s0.2) fun m=>
 Va (F81 l m.2.1) fun h=>
 Va (ZE (decide (Vb s0.1+Vb [h]<=Zz))) fun _=>
 some (.inl (s0.1++[h],Vc .i64 (s0.2+(1:Int))))
 else some (.inr s0.1))
 ([],(0:Int)))
 fun i=>
 Va (F105 i) fun j=>
 Va
 (run
 (fun b=>
 bif decide (b.2<(↑(Vb j):Int)) then
 Va (idx j b.2) fun n=>
 Va
 (run
 (fun a=>
 bif decide (a.2<(↑(Vb c):Int)) then
 Va (idx c a.2) fun k=>
 Va (idx i a.2) fun d=>
 Va (Tr.eqEl.eqs (Tr.eqEl (Tr.Ty.int .i64)) d n) fun e=>
 bif e then Va (ZE (decide (Vb a.1+Vb [k]<=Zz))) fun _=>some (.inr (a.1++[k]))
 else some (.inl (a.1,Vc .i64 (a.2+(1:Int))))
 else some (.inr a.1))
 (b.1,(0:Int)))
 fun f=>some (.inl (f,Vc .i64 (b.2+(1:Int))))
 else some (.inr b.1))
 ([],(0:Int)))
 fun g=>some g
def F157E:Zl:=ZK 71 Tryz.f71 54 [F81E,F105E] (hS (hS (.seq (hS (.lp (en [(5,.own KP false),pd 15 Y3] [1,2,13,14]) [(.exit 0,en [(5,.own KP false)] [1])] .leaf)) (hS (.seq (hS (.lp (en [(8,.own K1 false),pd 30 Y3] [1,5,28,29]) [(.exit 2,en [(8,.own K1 false)] [])] (hS (hS (.seq (hS (hS (.lp (en [(8,.own K1 false),pd 36 Y3] [1,5,10,28,29,30,34,35]) [(.exit 4,en [(8,.own K1 false)] [1,5,28,29,30])] .leaf))) .leaf))))) .leaf))))) (.p Kf (.q J7)) (.pd J7) (u2 F157)
def F75:(Unit)->Option (XU):=fun _=>some ((),[],(0:Int),())
def F75E:Zl:=Ko 68 Tryz.f68 8 [F155E] .leaf (.cons (.fn 69 .nil) .nil) (.cons DF .nil) (u1 F75) (fun z=>(((),()),(z,()))) (fun y=>y.2.1) (fns:=[69])
def F154:(El ZR)->(El Kf)->Option (El J7×El ZA):=fun b a=>
 Va (F51 b a) fun d=>
 bif !decide (d.2=(0:Int)) then Va (F31 b a) fun f=>some ([],f)
 else
 bif a.2.2.2.1 then some ([],(22:Int))
 else
 Va (F19 b.2.2.2.2.2.1) fun c=>
 bif !decide (c.2=(0:Int)) then some ([],c.2)
 else
 Va (F75 ()) fun e=>
 Va
 (F164
 (d.1,
 (a.1,a.2.1,a.2.2.1,a.2.2.2.1,a.2.2.2.2.1,a.2.2.2.2.2.1,false,false,(0:Int),
 a.2.2.2.2.2.2.2.2.2),
 [],((),e.2.1,e.2.2.1,()),[],())
 c.1)
 fun g=>Va (F157 a g.2.2.2.2.1) fun h=>some (h,(0:Int))
def F154E:Zl:=Ko 29 Tryz.f29 62 [F51E,F31E,F19E,F75E,F155E,F164E,F157E] .leaf (.p ZR (.q Kf)) (.p J7 (.q ZA)) (u2 F154) (fun z=>(((),(),()),(z.1,z.2,()))) (fun y=>(y.2.1,y.2.2.1)) (rws:=[128]) (zxs:=[131])
def F38:(El Wi)->Option (El Jp):=fun a=>Va (idx a.2.2.1 a.2.2.2.1) fun b=>some b
def F38E:Zl:=ZK 214 Tryz.f214 9 [] .leaf (.q Wi) (.pd Jp) (u1 F38)
def F45:(El Wi)->Option (El ZA):=fun b=>
 Va (F38 b) fun a=>
 Va
 (Va (F50 a.2.2.2.2.1 (0:Int) (Vc .i64 ((↑(Vb b.1.1):Int) - (1:Int)))) fun c=>
 bif !c then some true
 else Va (F50 a.2.2.2.2.2.1 (0:Int) (Vc .i64 ((↑(Vb b.1.1):Int) - (1:Int)))) fun d=>some !d)
 fun e=>
 bif e then some (9:Int)
 else
 Va
 (bif !a.1 then
 bif !decide (a.2.1=(0:Int)) then some true
 else
 bif !decide (a.2.2.1=(0:Int)) then some true
 else bif !decide (a.2.2.2.1=(0:Int)) then some true else some a.2.2.2.2.2.2.2.2.1
 else some false)
 fun f=>
 bif f then some (9:Int)
 else
 Va
 (bif a.1 then
 Va (F50 a.2.1 (0:Int) (Vc .i64 ((↑(Vb b.1.2.2.1):Int) - (1:Int)))) fun g=>
 bif !g then some true
 else
 bif decide (a.2.2.1<(0:Int)) then some true
 else
 bif decide (a.2.2.2.1<=a.2.2.1) then some true
 else Va (idx b.1.2.2.1 a.2.1) fun h=>some (decide ((↑(Vb h.2.2.2.2.2.2.2.1):Int)<=a.2.2.2.1))
 else some false)
 fun i=>bif i then some (9:Int) else some (0:Int)
def F45S:Tr.Spec:= {args:=(.cons (.pd Wi) .nil),res:=(.cons (.pd ZA) .nil),fns:=[],α:=El ZA,f:=fun x=>F45 x.1,unp:=fun z=>(((),()),(z,()))}
theorem F45_ok:Z4 Tryz.prog 210 F45S:=Yt (rws:=[]) (zxs:=[]) (nt:=85) (m:=[(47,[F50E.S]),(214,[F38E.S])]) (fn:=Tryz.f210) (hint:=(hS (hS (hS (.seq (.seq (.reg [(23,Y4)]) .leaf) (.seq (.seq (.reg [(45,Y4)]) .leaf) (.seq (.seq (.reg [(84,Y4)]) .leaf) .leaf))))))) (pack:=fun y=>y.2.1) X2 tab_ok ⟨⟨F50E.ok,trivial⟩,⟨F38E.ok,trivial⟩,trivial⟩ fun x z h=>.trans (by kernel_rfl) h
def F40:(El Wi)->Option (El ZA):=fun b=>
 Va (F38 b) fun a=>
 Va
 (Va (F50 a.2.2.2.2.2.2.1 (0:Int) (3155932800:Int)) fun c=>
 bif !c then some true else Va (F50 a.2.2.2.2.2.2.2.1 (0:Int) (3155932800:Int)) fun d=>some !d)
 fun e=>bif e then some (10:Int) else some (0:Int)
def F40S:Tr.Spec:= {args:=(.cons (.pd Wi) .nil),res:=(.cons (.pd ZA) .nil),fns:=[],α:=El ZA,f:=fun x=>F40 x.1,unp:=fun z=>(((),()),(z,()))}
theorem F40_ok:Z4 Tryz.prog 211 F40S:=Yt (rws:=[]) (zxs:=[]) (nt:=16) (m:=[(47,[F50E.S]),(214,[F38E.S])]) (fn:=Tryz.f211) (hint:=(hS (hS (.seq (.seq (.reg [(15,Y4)]) .leaf) .leaf)))) (pack:=fun y=>y.2.1) X2 tab_ok ⟨⟨F50E.ok,trivial⟩,⟨F38E.ok,trivial⟩,trivial⟩ fun x z h=>.trans (by kernel_rfl) h
def F47:(El Wi)->Option (El ZA):=fun c=>
 Va (F38 c) fun b=>
 bif b.1 then some (0:Int)
 else
 Va
 (run
 (fun a=>
 bif decide (a.2<(↑(Vb c.1.2.2.2.2.1):Int)) then
 Va (idx c.1.2.2.2.2.1 a.2) fun d=>
 Va
 (bif decide (d.1=b.2.2.2.2.1) then
 bif decide (d.2.1=b.2.2.2.2.2.1) then
 some (decide (d.2.2.1=Vc .i64 (b.2.2.2.2.2.2.2.1 - b.2.2.2.2.2.2.1)))
 else some false
 else some false)
 fun e=>
 bif e then
 Va (bif d.2.2.2.1 then some true else some !c.2.1.2.2.2.2.2.2.1) fun f=>
 bif f then some (.inr (.inr (0:Int))) else some (.inl ((29:Int),Vc .i64 (a.2+(1:Int))))
 else some (.inl (a.1,Vc .i64 (a.2+(1:Int))))
 else some (.inr (.inl a.1)))
 ((18:Int),(0:Int)))
 fun g=>Vi (fun h=>some h) (fun i=>some i) g
def F47S:Tr.Spec:= {args:=(.cons (.pd Wi) .nil),res:=(.cons (.pd ZA) .nil),fns:=[],α:=El ZA,f:=fun x=>F47 x.1,unp:=fun z=>(((),()),(z,()))}
theorem F47_ok:Z4 Tryz.prog 212 F47S:=Yt (rws:=[]) (zxs:=[]) (nt:=51) (m:=[(214,[F38E.S])]) (fn:=Tryz.f212) (hint:=(hS (hS (hS (hS (.seq (hS (.lp (en [pd 4 ZA,pd 15 Y3] [1,3,13,14]) [(.exit 0,en [pd 4 ZA] []),(.ret,en [pd 2 ZA] [])] (hS (hS (.seq (hS (.seq (.reg [(40,Y4)]) (.cnd none (.seq (.seq (.reg [(48,Y4)]) .leaf) .leaf) .leaf))) .leaf))))) .leaf)))))) (pack:=fun y=>y.2.1) X2 tab_ok ⟨⟨F38E.ok,trivial⟩,trivial⟩ fun x z h=>.trans (by kernel_rfl) h
def F32:(El Wi)->Option (El Gy):=fun a=>
 Va (F38 a) fun b=>
 Va (idx a.1.2.2.1 b.2.1) fun c=>
 Va (F38 a) fun d=>Va (idx c.2.2.2.2.2.2.2.1 d.2.2.2.1) fun e=>some e
def F32E:Zl:=ZK 217 Tryz.f217 17 [F38E] .leaf (.q Wi) (.pd Gy) (u1 F32)
def F41:(El Wi)->(El Y3)->Option (El Y4):=fun a b=>Va (bif !a.2.1.2.2.2.2.2.2.1 then some true else Va (idx a.1.1 b) fun c=>some c.2.2.1) fun d=>some d
def F41E:Zl:=ZK 218 Tryz.f218 18 [] (hS (.seq (.reg [(4,Y4)]) .leaf)) (.p Wi (.q Y3)) (.pd Y4) (u2 F41)
def F33:(El Wi)->Option (El Gy):=fun a=>
 Va (F38 a) fun b=>
 Va (idx a.1.2.2.1 b.2.1) fun c=>
 Va (F38 a) fun d=>Va (idx c.2.2.2.2.2.2.2.1 d.2.2.1) fun e=>some e
def F33E:Zl:=ZK 245 Tryz.f245 17 [F38E] .leaf (.q Wi) (.pd Gy) (u1 F33)
def F46:(El Wi)->Option (El ZA):=fun a=>
 Va (F38 a) fun b=>
 bif !b.1 then some (0:Int)
 else
 Va (idx a.1.2.2.1 b.2.1) fun c=>
 Va (idx a.1.2.1 c.2.2.2.2.1) fun i=>
 Va (F33 a) fun h=>
 Va (F32 a) fun j=>
 Va (bif !decide (h.1=b.2.2.2.2.1) then some true else some !decide (j.1=b.2.2.2.2.2.1)) fun k=>
 bif k then some (24:Int)
 else
 Va
 (bif !decide (h.2.2.1=b.2.2.2.2.2.2.1) then some true
 else some !decide (j.2.1=b.2.2.2.2.2.2.2.1))
 fun l=>
 bif l then some (10:Int)
 else
 bif c.2.2.2.2.2.2.1 then some (27:Int)
 else
 Va (bif a.2.1.2.2.2.2.2.2.1 then some !c.2.2.2.2.2.1 else some false) fun m=>
 bif m then some (29:Int)
 else
 Va (bif a.2.1.2.2.2.2.2.2.2.1 then some !i.2.2.1 else some false) fun n=>
 bif n then some (30:Int)
 else
 Va
 (bif !decide (a.2.1.2.2.2.2.2.2.2.2.1=(0:Int)) then
 Va (Hj .i64 a.2.1.2.2.2.2.2.2.2.2.1 i.2.1) fun o=>
 some (decide (ZB .i64 o (1:Int)=(0:Int)))
 else some false)
 fun d=>
 bif d then some (31:Int)
 else
 Va (bif !b.2.2.2.2.2.2.2.2.1 then some !h.2.2.2.1 else some false) fun e=>
 bif e then some (25:Int)
 else
 Va
 (bif !b.2.2.2.2.2.2.2.2.1 then Va (F41 a b.2.2.2.2.1) fun f=>some !f
 else some false)
 fun g=>bif g then some (29:Int) else some (0:Int)
def F46S:Tr.Spec:= {args:=(.cons (.pd Wi) .nil),res:=(.cons (.pd ZA) .nil),fns:=[],α:=El ZA,f:=fun x=>F46 x.1,unp:=fun z=>(((),()),(z,()))}
theorem F46_ok:Z4 Tryz.prog 213 F46S:=Yt (rws:=[]) (zxs:=[]) (nt:=113) (m:=[(214,[F38E.S]),(217,[F32E.S]),(218,[F41E.S]),(245,[F33E.S])]) (fn:=Tryz.f213) (hint:=(hS (hS (hS (hS (hS (hS (.seq (.seq (.reg [(31,Y4)]) (.cnd none .leaf (.seq (.reg [(44,Y4)]) (.cnd none .leaf (hS (.cnd none .leaf (.seq (.reg [(60,Y4)]) (.cnd none .leaf (.seq (.reg [(69,Y4)]) (.cnd none .leaf (.seq (.reg [(78,Y4)]) (.cnd none .leaf (.seq (.reg [(93,Y4)]) (.cnd none .leaf (.seq (.reg [(102,Y4)]) .leaf))))))))))))))) .leaf)))))))) (pack:=fun y=>y.2.1) X2 tab_ok ⟨⟨F38E.ok,trivial⟩,⟨F32E.ok,trivial⟩,⟨F41E.ok,trivial⟩,⟨F33E.ok,trivial⟩,trivial⟩ fun x z h=>.trans (by kernel_rfl) h
def F42(a:El Wi):Option (El ZA):=Tr.untilF [F45 a,F40 a,F47 a,F46 a]
def F42S:Tr.Spec:= {args:=(.cons (.pd Wi) .nil),res:=(.cons (.pd ZA) .nil),fns:=[],α:=El ZA,f:=fun x=>F42 x.1,unp:=fun z=>(((),()),(z,()))}
theorem F42_ok:Z4 Tryz.prog 167 F42S:=Tr.own_ok rfl rfl F45_ok F40_ok F47_ok F46_ok
def F35:(El Wi)->Option (El ZA):=fun a=>
 bif decide ((0:Int)<a.2.2.2.1) then some (0:Int)
 else
 Va (F38 a) fun b=>
 bif !decide (b.2.2.2.2.1=a.2.1.1) then some (24:Int)
 else
 bif b.2.2.2.2.2.2.2.2.1 then some (19:Int)
 else
 Va
 (bif !b.1 then
 bif !decide ((↑(Vb a.2.2.1):Int)=(1:Int)) then
 Va (idx a.2.2.1 (1:Int)) fun c=>
 bif c.1 then Va (idx a.2.2.1 (1:Int)) fun d=>some !decide (d.2.2.2.2.2.2.1=b.2.2.2.2.2.2.2.1)
 else some false
 else some false
 else some false)
 fun e=>
 bif e then some (10:Int)
 else
 Va
 (bif !b.1 then
 bif decide ((↑(Vb a.2.2.1):Int)=(1:Int)) then
 bif !a.2.1.2.2.2.1 then
 bif !decide (b.2.2.2.2.2.2.1=a.2.1.2.2.1) then some true
 else bif a.2.1.2.2.2.1 then some !decide (b.2.2.2.2.2.2.2.1=a.2.1.2.2.1) else some false
 else bif a.2.1.2.2.2.1 then some !decide (b.2.2.2.2.2.2.2.1=a.2.1.2.2.1) else some false
 else some false
 else some false)
 fun f=>
 bif f then some (10:Int)
 else
 Va (bif !a.2.1.2.2.2.1 then some (decide (b.2.2.2.2.2.2.1<a.2.1.2.2.1)) else some false) fun g=>
 bif g then some (10:Int)
 else
 Va
 (bif !a.2.1.2.2.2.1 then
 bif a.2.1.2.2.2.2.2.2.2.2.2.1 then
 bif b.1 then
 Va (idx a.1.1 a.2.1.1) fun h=>
 some (decide (b.2.2.2.2.2.2.1<Vc .i64 (a.2.1.2.2.1+h.2.2.2.1)))
 else some false
 else some false
 else some false)
 fun i=>bif i then some (28:Int) else some (0:Int)
def F35S:Tr.Spec:= {args:=(.cons (.pd Wi) .nil),res:=(.cons (.pd ZA) .nil),fns:=[],α:=El ZA,f:=fun x=>F35 x.1,unp:=fun z=>(((),()),(z,()))}
theorem F35_ok:Z4 Tryz.prog 168 F35S:=Yt (rws:=[]) (zxs:=[]) (nt:=120) (m:=[(214,[F38E.S])]) (fn:=Tryz.f168) (hint:=(hS (hS (hS (hS (.seq (hS (.cnd none .leaf (hS (.cnd none .leaf (.seq (.reg [(26,Y4)]) (.cnd none .leaf (.seq (.reg [(51,Y4)]) (.cnd none .leaf (.seq (.reg [(81,Y4)]) (.cnd none .leaf (.seq (.reg [(92,Y4)]) .leaf))))))))))) .leaf)))))) (pack:=fun y=>y.2.1) X2 tab_ok ⟨⟨F38E.ok,trivial⟩,trivial⟩ fun x z h=>.trans (by kernel_rfl) h
def F44:(El Wi)->Option (El Jp):=fun a=>Va (idx a.2.2.1 (Vc .i64 (a.2.2.2.1 - (1:Int)))) fun b=>some b
def F44E:Zl:=ZK 215 Tryz.f215 10 [] .leaf (.q Wi) (.pd Jp) (u1 F44)
def F39:(El Wi)->(El Y4)->Option (El Y4):=fun b f=>
 Va (F44 b) fun d=>
 Va (F38 b) fun e=>
 Va
 (run
 (fun c=>
 bif decide (c<(↑(Vb b.1.2.2.2.1):Int)) then
 Va (idx b.1.2.2.2.1 c) fun a=>
 Va
 (bif a.2.2.2.2.1==f then
 bif decide (a.1=d.2.1) then
 bif decide (a.2.1=d.2.2.2.1) then
 bif decide (a.2.2.1=e.2.1) then some (decide (a.2.2.2.1=e.2.2.1)) else some false
 else some false
 else some false
 else some false)
 fun g=>bif g then some (.inr (.inr true)) else some (.inl (Vc .i64 (c+(1:Int))))
 else some (.inr (.inl ())))
 (0:Int))
 fun h=>Vi (fun _=>some false) (fun i=>some i) h
def F39E:Zl:=ZK 216 Tryz.f216 54 [F38E,F44E] (hS (hS (.seq (hS (.lp (en [pd 17 Y3] [1,5,6,15,16]) [(.exit 0,e0),(.ret,en [pd 4 Y4] [])] (hS (hS (.seq (hS (.seq (.reg [(52,Y4)]) .leaf)) .leaf))))) .leaf))) (.p Wi (.q Y4)) (.pd Y4) (u2 F39)
def F36:(El Wi)->Option (El ZA):=fun c=>
 bif decide (c.2.2.2.1=(0:Int)) then some (0:Int)
 else
 Va (F44 c) fun b=>
 Va (F38 c) fun a=>
 bif !decide (a.2.2.2.2.1=b.2.2.2.2.2.1) then some (24:Int)
 else
 Va (bif !b.1 then some !a.1 else some false) fun d=>
 bif d then some (32:Int)
 else
 Va
 (bif a.2.2.2.2.2.2.2.2.1 then bif !b.1 then some true else Va (F39 c true) fun e=>some !e
 else some false)
 fun f=>
 bif f then some (19:Int)
 else
 Va
 (bif a.2.2.2.2.2.2.2.2.1 then some (decide (a.2.2.2.2.2.2.1<b.2.2.2.2.2.2.2.1)) else some false)
 fun g=>
 bif g then some (10:Int)
 else
 Va (bif !a.1 then some !decide (a.2.2.2.2.2.2.1=b.2.2.2.2.2.2.2.1) else some false) fun h=>
 bif h then some (10:Int) else some (0:Int)
def F36S:Tr.Spec:= {args:=(.cons (.pd Wi) .nil),res:=(.cons (.pd ZA) .nil),fns:=[],α:=El ZA,f:=fun x=>F36 x.1,unp:=fun z=>(((),()),(z,()))}
theorem F36_ok:Z4 Tryz.prog 169 F36S:=Yt (rws:=[]) (zxs:=[]) (nt:=61) (m:=[(214,[F38E.S]),(215,[F44E.S]),(216,[F39E.S])]) (fn:=Tryz.f169) (hint:=(hS (hS (hS (.seq (hS (.cnd none .leaf (.seq (.reg [(18,Y4)]) (.cnd none .leaf (.seq (.reg [(27,Y4)]) (.cnd none .leaf (.seq (.reg [(40,Y4)]) (.cnd none .leaf (.seq (.reg [(50,Y4)]) .leaf))))))))) .leaf))))) (pack:=fun y=>y.2.1) X2 tab_ok ⟨⟨F38E.ok,trivial⟩,⟨F44E.ok,trivial⟩,⟨F39E.ok,trivial⟩,trivial⟩ fun x z h=>.trans (by kernel_rfl) h
def F34:(El Wi)->Option (El ZA):=fun a=>
 Va
 (bif decide (a.2.2.2.1=(0:Int)) then some true
 else
 Va (F38 a) fun d=>
 bif !d.1 then some true else Va (F38 a) fun e=>some e.2.2.2.2.2.2.2.2.1)
 fun f=>
 bif f then some (0:Int)
 else
 Va (F44 a) fun b=>
 Va (F38 a) fun c=>
 bif !b.1 then bif decide (c.2.2.2.2.2.2.1<b.2.2.2.2.2.2.2.1) then some (28:Int) else some (0:Int)
 else
 Va
 (Va (idx a.1.1 c.2.2.2.2.1) fun g=>
 bif decide (Vc .i64 (b.2.2.2.2.2.2.2.1+g.2.2.2.1)<=c.2.2.2.2.2.2.1) then some true
 else
 bif decide (b.2.2.2.2.2.2.2.1<=c.2.2.2.2.2.2.1) then Va (F39 a false) fun h=>some h
 else some false)
 fun i=>bif i then some (0:Int) else some (28:Int)
def F34S:Tr.Spec:= {args:=(.cons (.pd Wi) .nil),res:=(.cons (.pd ZA) .nil),fns:=[],α:=El ZA,f:=fun x=>F34 x.1,unp:=fun z=>(((),()),(z,()))}
theorem F34_ok:Z4 Tryz.prog 170 F34S:=Yt (rws:=[]) (zxs:=[]) (nt:=56) (m:=[(214,[F38E.S]),(215,[F44E.S]),(216,[F39E.S])]) (fn:=Tryz.f170) (hint:=(hS (.seq (.seq (.reg [(18,Y4)]) .leaf) (hS (hS (.seq (.seq (.reg [(55,Y4)]) .leaf) .leaf)))))) (pack:=fun y=>y.2.1) X2 tab_ok ⟨⟨F38E.ok,trivial⟩,⟨F44E.ok,trivial⟩,⟨F39E.ok,trivial⟩,trivial⟩ fun x z h=>.trans (by kernel_rfl) h
def F37:(El Wi)->Option (El ZA):=fun a=>
 Va (F38 a) fun b=>
 Va
 (bif !b.1 then some true
 else
 bif decide (Vc .i64 (a.2.2.2.1+(1:Int))<(↑(Vb a.2.2.1):Int)) then
 Va (idx a.2.2.1 (Vc .i64 (a.2.2.2.1+(1:Int)))) fun c=>some c.2.2.2.2.2.2.2.2.1
 else some false)
 fun d=>
 bif d then some (0:Int)
 else
 Va (F32 a) fun e=>
 bif !e.2.2.2.2.1 then some (26:Int)
 else Va (F41 a b.2.2.2.2.2.1) fun f=>bif !f then some (29:Int) else some (0:Int)
def F37S:Tr.Spec:= {args:=(.cons (.pd Wi) .nil),res:=(.cons (.pd ZA) .nil),fns:=[],α:=El ZA,f:=fun x=>F37 x.1,unp:=fun z=>(((),()),(z,()))}
theorem F37_ok:Z4 Tryz.prog 171 F37S:=Yt (rws:=[]) (zxs:=[]) (nt:=37) (m:=[(214,[F38E.S]),(217,[F32E.S]),(218,[F41E.S])]) (fn:=Tryz.f171) (hint:=(hS (hS (.seq (.seq (.reg [(27,Y4)]) .leaf) .leaf)))) (pack:=fun y=>y.2.1) X2 tab_ok ⟨⟨F38E.ok,trivial⟩,⟨F32E.ok,trivial⟩,⟨F41E.ok,trivial⟩,trivial⟩ fun x z h=>.trans (by kernel_rfl) h
def F43(a:El Wi):Option (El ZA):=Tr.untilF [F42 a,F35 a,F36 a,F34 a,F37 a]
def F43S:Tr.Spec:= {args:=(.cons (.pd Wi) .nil),res:=(.cons (.pd ZA) .nil),fns:=[],α:=El ZA,f:=fun x=>F43 x.1,unp:=fun z=>(((),()),(z,()))}
theorem F43_ok:Z4 Tryz.prog 116 F43S:=Tr.place_ok rfl rfl F42_ok F35_ok F36_ok F34_ok F37_ok
def F43E:Zl:=⟨116,F43S,F43_ok⟩
def F49:(El ZR)->(El Kf)->(El JC)->Option (El Y3×El ZA):=fun d e a=>
 Va
 (run
 (fun s0=>
 bif decide (s0.2.2.2.1<(↑(Vb a.1):Int)) then
 Va (F43 s0) fun b=>
 bif !decide (b=(0:Int)) then some (.inr (.inr (s0.2.2.2.1,b)))
 else some (.inl (s0.1,s0.2.1,s0.2.2.1,Vc .i64 (s0.2.2.2.1+(1:Int)),s0.2.2.2.2))
 else some (.inr (.inl ())))
 (d,e,a.1,(0:Int),()))
 fun f=>Vi (fun _=>some ((↑(Vb a.1):Int),(0:Int))) (fun c=>some (c.1,c.2)) f
def F49E:Zl:=Ko 72 Tryz.f72 36 [F43E] (hS (hS (.seq (hS (.lp (en [(8,.var Wi (.pd Wi))] [5]) [(.exit 0,en [] [5]),(.ret,en [pd 6 Y3,pd 7 ZA] [])] .leaf)) .leaf))) (.p ZR (.p Kf (.q JC))) (.p Y3 (.q ZA)) (u3 F49) (fun z=>(((),(),(),()),(z.1,z.2,()))) (fun y=>(y.2.1,y.2.2.1))
def F48:(El ZR)->(El Kf)->(El JC)->Option (El ZA):=fun f b c=>
 Va (idx c.1 (Vc .i64 ((↑(Vb c.1):Int) - (1:Int)))) fun d=>
 Va
 (run
 (fun a=>
 bif decide (a.2<(↑(Vb c.1):Int)) then
 Va (idx c.1 a.2) fun e=>
 Va (bif e.1 then some !e.2.2.2.2.2.2.2.2.1 else some false) fun g=>
 bif g then some (.inl (Vc .i64 (a.1+(1:Int)),Vc .i64 (a.2+(1:Int))))
 else some (.inl (a.1,Vc .i64 (a.2+(1:Int))))
 else some (.inr a.1))
 ((0:Int),(0:Int)))
 fun h=>
 bif !decide (d.2.2.2.2.2.1=b.2.1) then some (24:Int)
 else
 Va (bif b.2.2.2.1 then some (decide (b.2.2.1<d.2.2.2.2.2.2.2.1)) else some false) fun i=>
 bif i then some (10:Int)
 else
 bif decide (b.2.2.2.2.1<h) then some (33:Int)
 else
 Va (F82 c) fun j=>
 bif decide (b.2.2.2.2.2.1<j) then some (32:Int) else Va (F78 f b c) fun k=>some k.2.2
def F48E:Zl:=ZK 73 Tryz.f73 75 [F78E,F82E] (hS (hS (hS (.seq (hS (.lp (en [pd 8 Y3,pd 25 Y3] [3,4,5,7,23,24]) [(.exit 0,en [pd 8 Y3] [3,4,5,7])] (hS (hS (.seq (hS (.seq (.reg [(35,Y4)]) .leaf)) .leaf))))) (.seq (hS (.cnd none .leaf (.seq (.reg [(45,Y4)]) .leaf))) .leaf))))) (.p ZR (.p Kf (.q JC))) (.pd ZA) (u3 F48)
def F30:(El ZR)->(El Kf)->(El JC)->Option (El Y3×El ZA):=fun c a b=>
 Va (F31 c a) fun e=>
 bif !decide (e=(0:Int)) then some ((0:Int),e)
 else
 bif decide ((↑(Vb b.1):Int)=(0:Int)) then bif !decide (a.1=a.2.1) then some ((0:Int),(24:Int)) else some ((0:Int),(0:Int))
 else
 Va (F49 c a b) fun d=>
 bif !decide (d.2=(0:Int)) then some (d.1,d.2)
 else
 Va (F48 c a b) fun f=>
 bif !decide (f=(0:Int)) then some (Vc .i64 ((↑(Vb b.1):Int) - (1:Int)),f) else some ((0:Int),(0:Int))
def F30E:Zl:=Ko 31 Tryz.f31 47 [F31E,F49E,F48E] .leaf (.p ZR (.p Kf (.q JC))) (.p Y3 (.q ZA)) (u3 F30) (fun z=>(((),(),(),()),(z.1,z.2,()))) (fun y=>(y.2.1,y.2.2.1))
def F151:(El K1)->(El KP)->(El Kf)->Option (El Y4):=fun a b c=>Va (F81 c a.2.1) fun d=>Va (F104 b d) fun e=>some e
def F151E:Zl:=ZK 108 Tryz.f108 11 [F81E,F104E] .leaf (.p K1 (.cons (.ro KP) (.cons (.ro Kf) .nil))) (.pd Y4) (u3 F151)
def F180:(El J7)->((El KP×El Kf×Unit))->Option (El Y3):=fun a b=>
 Va
 (run
 (fun s0=>
 bif decide (s0<(↑(Vb a):Int)) then
 Va (idx a s0) fun c=>
 Va (F151 c b.1 b.2.1) fun d=>bif d then some (.inr (.inr s0)) else some (.inl (Vc .i64 (s0+(1:Int))))
 else some (.inr (.inl ())))
 (0:Int))
 fun e=>Vi (fun _=>some (-1:Int)) (fun f=>some f) e
def F180E:Zl:=ZK 145 Tryz.f145 19 [F151E] (hS (.seq (hS (.lp (en [pd 8 Y3] [0,1,7]) [(.exit 0,en [] [1]),(.ret,en [pd 4 Y3] [1])] .leaf)) .leaf)) (.p J7 (.cons (.fn 108 (.cons (.ro KP) (.cons (.ro Kf) .nil))) .nil)) (.pd Y3) (u2 F180) (fns:=[108])
def F179:(List (El K1))->((El KP×El Kf×Unit))->Option (List (El K1)):=fun d e=>
 Va (F180 d e) fun f=>
 bif decide (f=(-1:Int)) then some d
 else
 Va
 (run
 (fun b=>
 bif decide (b.2.2<(↑(Vb b.1):Int)) then
 Va (Zp b.2.2 (Vb b.1)) fun j=>
 Va b.1[j]? fun h=>
 Va (F151 h e.1 e.2.1) fun k=>
 bif !k then
 Va (Zp b.2.1 (Vb b.1)) fun i=>
 Va b.1[i]? fun _=>
 some (.inl (Ve b.1 i h,Vc .i64 (b.2.1+(1:Int)),Vc .i64 (b.2.2+(1:Int))))
 else some (.inl (b.1,b.2.1,Vc .i64 (b.2.2+(1:Int))))
 else some (.inr (b.1,b.2.1)))
 (d,f,Vc .i64 (f+(1:Int))))
 fun c=>
 Va (sliceB (Vb c.1) (Vb c.1) (some c.2) none) fun a=>
 Va (ZE (decide (a.1+(a.2 - a.1)<=Vb c.1))) fun _=>
 Va
 (sliceB (Vb (Vg a.1 c.1++Vd (a.2 - a.1) (((([]:List (El Jp)),()),((0:Int),(0:Int),(0:Int),(0:Int),(0:Int),()),([]:List (El Hu)),()))++Vh (a.1+(a.2 - a.1)) c.1))
 (Vb (Vg a.1 c.1++Vd (a.2 - a.1) (((([]:List (El Jp)),()),((0:Int),(0:Int),(0:Int),(0:Int),(0:Int),()),([]:List (El Hu)),()))++Vh (a.1+(a.2 - a.1)) c.1)) none (some c.2))
 fun g=>some (Vg g.2 (Vg a.1 c.1++Vd (a.2 - a.1) (((([]:List (El Jp)),()),((0:Int),(0:Int),(0:Int),(0:Int),(0:Int),()),([]:List (El Hu)),()))++Vh (a.1+(a.2 - a.1)) c.1))
def F179E:Zl:=ZK 107 Tryz.f107 42 [F151E,F180E] (hS (hS (hS (.seq (hS (.lp (en [(0,.own K1 false),pd 5 Y3,pd 6 Y3] [1]) [(.exit 0,en [(0,.own K1 false),pd 5 Y3] [1])] .leaf)) .leaf)))) (.cons (.own K1 false) (.cons (.fn 108 (.cons (.ro KP) (.cons (.ro Kf) .nil))) .nil)) (.own K1 false) (u2 F179) (fns:=[108])
def F150:(El Kf)->(List (El K1))->(El K1)->Option (List (El K1)):=fun c a d=>
 Va (F81 c d.2.1) fun f=>
 Va
 (run
 (fun e=>
 bif decide (e<(↑(Vb a):Int)) then
 Va (Zp e (Vb a)) fun h=>
 Va a[h]? fun i=>
 Va (F81 c i.2.1) fun g=>
 Va
 (Va (Tr.eqEl.eqs (Tr.eqEl (Tr.Ty.int .i64)) g f) fun j=>
 bif j then some true else Va (F104 g f) fun k=>some k)
 fun l=>bif l then some (.inr (.inr ())) else some (.inl (Vc .i64 (e+(1:Int))))
 else some (.inr (.inl ())))
 (0:Int))
 fun m=>
 Vi
 (fun _=>
 Va (F179 a (f,c,())) fun b=>
 Va (ZE (decide (Vb b+Vb [d]<=Zz))) fun _=>some (b++[d]))
 (fun _=>some a) m
def F150E:Zl:=ZK 63 Tryz.f63 42 [F81E,F104E,F179E,F151E] (hS (hS (.seq (hS (.lp (en [pd 17 Y3] [1,3,5,7,15,16]) [(.exit 0,en [] [1,3,5,7]),(.ret,⟨[],[],[1],[(6,1)],[],[]⟩)] (hS (hS (.seq (hS (hS (.seq (.reg [(32,Y4)]) .leaf))) .leaf))))) .leaf))) (.p Kf (.cons (.own K1 false) (.q K1))) (.own K1 false) (u3 F150)
def F148:(El ZR)->(El Kf)->Option (List (El K1)):=fun f a=>
 Va (bif decide (a.1=a.2.1) then some ([]++[(([]:List (El Jp)),())]) else some []) fun k=>
 Va
 (run
 (fun c=>
 bif decide (c.2<(↑(Vb f.2.2.2.2.1):Int)) then
 Va (idx f.2.2.2.2.1 c.2) fun d=>
 Va (bif decide (d.1=a.1) then some (decide (d.2.1=a.2.1)) else some false) fun l=>
 bif l then
 Va
 (ZE
 (decide
 (Vb c.1+
 Vb
 [([(false,(0:Int),(0:Int),(0:Int),d.1,d.2.1,Vc .i64 (a.2.2.1 - d.2.2.1),a.2.2.1,
 false,())],
 ())]<=
 Zz)))
 fun _=>
 some
 (.inl
 (c.1++
 [([(false,(0:Int),(0:Int),(0:Int),d.1,d.2.1,Vc .i64 (a.2.2.1 - d.2.2.1),a.2.2.1,
 false,())],
 ())],
 Vc .i64 (c.2+(1:Int))))
 else some (.inl (c.1,Vc .i64 (c.2+(1:Int))))
 else some (.inr c.1))
 (k,(0:Int)))
 fun j=>
 Va
 (run
 (fun b=>
 bif decide (b.2.2<(↑(Vb j):Int)) then
 Va (Zp b.2.2 (Vb b.2.1)) fun m=>
 Va b.2.1[m]? fun i=>
 Va (F30 f a i) fun n=>
 bif decide (n.2=(0:Int)) then
 Va (F78 f a i) fun e=>
 Va (F150 a b.1 (i,e.1,e.2.1,())) fun g=>
 some (.inl (g,b.2.1,Vc .i64 (b.2.2+(1:Int))))
 else some (.inl (b.1,b.2.1,Vc .i64 (b.2.2+(1:Int))))
 else some (.inr b.1))
 ([],j,(0:Int)))
 fun h=>some h
def F148E:Zl:=ZK 61 Tryz.f61 94 [F30E,F78E,F150E] (hS (hS (.seq (hS (.cnd (some ((en [] [2,3]),[(.normal,en [(5,.own JC false)] [2,3])])) .leaf .leaf)) (.seq (hS (.lp (en [(5,.own JC false),pd 28 Y3] [2,3,26,27]) [(.exit 0,en [(5,.own JC false)] [2,3])] (hS (hS (.seq (hS (.seq (.reg [(43,Y4)]) .leaf)) .leaf))))) (hS (.seq (hS (.lp (en [(8,.own K1 false),(62,.own JC false),pd 64 Y3] [2,3,63]) [(.exit 2,en [(8,.own K1 false)] [])] .leaf)) .leaf)))))) (.p ZR (.q Kf)) (.own K1 false) (u2 F148)
def F184(a:List (El Y3)):Option (List (El Y3)):=Tr.sortI a
def F184S:Tr.Spec:= {args:=(.cons (.own Y3 true) .nil),res:=.nil,fns:=[],α:=List (El Y3),f:=fun x=>F184 x.1,unp:=fun z=>((z,()),())}
theorem F184_ok:Z4 Tryz.prog 104 F184S:=Tr.sortInt_ok (ρ:=Tryz.sort104_ren) Tryz.sort104 ⟨_,Tryz.func104,rfl,rfl⟩
def F184E:Zl:=⟨104,F184S,F184_ok⟩
def F178(a:List (El Y3)):Option (List (El Y3)):=Tr.compactI a
def F178S:Tr.Spec:= {args:=(.cons (.own Y3 false) .nil),res:=(.cons (.own Y3 false) .nil),fns:=[],α:=List (El Y3),f:=fun x=>F178 x.1,unp:=fun z=>(((),()),(z,()))}
theorem F178_ok:Z4 Tryz.prog 105 F178S:=Tr.compactInt_ok (ρ:=Tryz.comp105_ren) Tryz.comp105 ⟨_,Tryz.func105,rfl,rfl⟩
def F178E:Zl:=⟨105,F178S,F178_ok⟩
def F181:(List (El Y3))->Option (List (El Y3)):=fun c=>
 Va
 (run
 (fun s0=>
 bif decide (s0.2.1<s0.2.2) then
 Va (Zp s0.2.2 (Vb s0.1)) fun e=>
 Va s0.1[e]? fun b=>
 Va (Zp s0.2.1 (Vb s0.1)) fun f=>
 Va s0.1[f]? fun g=>
 Va (Zp s0.2.1 (Vb s0.1)) fun a=>
 Va s0.1[a]? fun _=>
 Va (Zp s0.2.2 (Vb (Ve s0.1 a b))) fun d=>
 Va (Ve s0.1 a b)[d]? fun _=>
 some
 (.inl (Ve (Ve s0.1 a b) d g,Vc .i64 (s0.2.1+(1:Int)),Vc .i64 (s0.2.2 - (1:Int))))
 else some (.inr s0.1))
 (c,(0:Int),Vc .i64 ((↑(Vb c):Int) - (1:Int))))
 fun h=>some h
def F181E:Zl:=Ko 106 Tryz.f106 28 [] (hS (.lp (en [(0,.own Y3 false),pd 2 Y3,pd 3 Y3] []) [(.exit 0,en [(0,.own Y3 false)] [])] .leaf)) (.cons (.own Y3 true) .nil) .nil (u1 F181) (fun z=>((z,()),())) (fun y=>y.1.1)
def F149:(El ZR)->(El Kf)->Option (El YM):=fun b o=>
 Va
 (ZE
 (decide
 ((0:El (Tr.Ty.int .i64))<=(↑(Vb b.1):Int)/\
 (↑(Vb b.1):Int)<=(↑(Vb b.1):Int)/\(↑(Vb b.1):Int)<=(↑Zz:El (Tr.Ty.int .i64)))))
 fun _=>
 Va (Zp o.1 (Vb (Vd (Vf (↑(Vb b.1):Int)) ([]:List Int)))) fun p=>
 Va (Vd (Vf (↑(Vb b.1):Int)) ([]:List Int))[p]? fun _=>
 Va (idx (Vd (Vf (↑(Vb b.1):Int)) ([]:List Int)) (↑p:Int)) fun C=>
 Va (ZE (decide (Vb C+Vb [(0:Int)]<=Zz))) fun _=>
 Va (Zp o.1 (Vb (Vd (Vf (↑(Vb b.1):Int)) ([]:List Int)))) fun B=>
 Va (ZE (D2 (some (Vf (↑p:Int))) B)) fun _=>
 Va (Vd (Vf (↑(Vb b.1):Int)) ([]:List Int))[B]? fun _=>
 Va
 (run
 (fun c=>
 bif decide (c.2<(↑(Vb b.2.2.2.2.1):Int)) then
 Va (idx b.2.2.2.2.1 c.2) fun n=>
 bif decide (n.1=o.1) then
 Va (Zp n.2.1 (Vb c.1)) fun j=>
 Va c.1[j]? fun _=>
 Va (idx c.1 (↑j:Int)) fun l=>
 Va (ZE (decide (Vb l+Vb [n.2.2.1]<=Zz))) fun _=>
 Va (Zp n.2.1 (Vb c.1)) fun k=>
 Va (ZE (D2 (some (Vf (↑j:Int))) k)) fun _=>
 Va c.1[k]? fun _=>some (.inl (Ve c.1 k (l++[n.2.2.1]),Vc .i64 (c.2+(1:Int))))
 else some (.inl (c.1,Vc .i64 (c.2+(1:Int))))
 else some (.inr c.1))
 (Ve (Vd (Vf (↑(Vb b.1):Int)) ([]:List Int)) B (C++[(0:Int)]),(0:Int)))
 fun f=>
 Va
 (run
 (fun d=>
 bif decide (d.2<(↑(Vb b.2.2.1):Int)) then
 Va (idx b.2.2.1 d.2) fun m=>
 Va
 (run
 (fun e=>
 bif decide (e.2<(↑(Vb m.2.2.2.2.2.2.2.1):Int)) then
 Va (idx m.2.2.2.2.2.2.2.1 e.2) fun g=>
 Va (Zp g.1 (Vb f)) fun h=>
 Va f[h]? fun _=>
 Va (idx f (↑h:Int)) fun q=>
 Va
 (run
 (fun a=>
 bif decide (a.2<(↑(Vb q):Int)) then
 Va (idx f (↑h:Int)) fun r=>
 Va (Zp a.2 (Vb r)) fun s=>
 Va (idx f (↑h:Int)) fun t=>
 Va t[s]? fun i=>
 Va
 (bif decide ((0:Int)<=Vc .i64 (g.2.2.1 - i)) then
 some (decide (Vc .i64 (g.2.2.1 - i)<=o.2.2.1))
 else some false)
 fun u=>
 bif u then
 Va
 (ZE
 (decide (Vb a.1+Vb [Vc .i64 (g.2.2.1 - i)]<=Zz)))
 fun _=>
 some
 (.inl
 (a.1++[Vc .i64 (g.2.2.1 - i)],Vc .i64 (a.2+(1:Int))))
 else some (.inl (a.1,Vc .i64 (a.2+(1:Int))))
 else some (.inr a.1))
 (e.1,(0:Int)))
 fun v=>some (.inl (v,Vc .i64 (e.2+(1:Int))))
 else some (.inr e.1))
 (d.1,(0:Int)))
 fun w=>some (.inl (w,Vc .i64 (d.2+(1:Int))))
 else some (.inr d.1))
 ([],(0:Int)))
 fun x=>
 Va (F184 x) fun y=>Va (F178 y) fun z=>Va (F181 z) fun A=>some A
def F149E:Zl:=ZK 62 Tryz.f62 107 [F184E,F178E,F181E] (hS (hS (hS (.seq (hS (.lp (en [(5,.rows Y3 false),pd 34 Y3] [2,3,32,33]) [(.exit 0,en [(5,.rows Y3 false)] [2,3])] .leaf)) (hS (.seq (hS (.lp (en [(8,.own Y3 false),pd 60 Y3] [3,5,58,59]) [(.exit 2,en [(8,.own Y3 false)] [])] (hS (hS (.seq (hS (hS (.lp (en [(8,.own Y3 false),pd 67 Y3] [3,5,58,59,60,65,66]) [(.exit 4,en [(8,.own Y3 false)] [3,5,58,59,60])] (hS (hS (.seq (hS (hS (.lp (en [(8,.own Y3 false),pd 77 Y3] [3,5,12,58,59,60,65,66,67,75,76]) [(.exit 6,en [(8,.own Y3 false)] [3,5,58,59,60,65,66,67])] (hS (hS (.seq (hS (hS (.seq (.reg [(92,Y4)]) .leaf))) .leaf)))))) .leaf)))))) .leaf))))) .leaf)))))) (.p ZR (.q Kf)) (.pd YM) (u2 F149) (rws:=[173])
def F147:(El K1)->(El K1)->(El Kf)->Option (El Y3):=fun b c a=>Va (F81 a b.2.1) fun d=>Va (F81 a c.2.1) fun e=>Va (F102 d e) fun f=>some f
def F147S:Tr.Spec:= {args:=(.cons (.pd K1) (.cons (.pd K1) (.cons (.ro Kf) .nil))),res:=(.cons (.pd Y3) .nil),fns:=[],α:=El Y3,f:=fun x=>F147 x.1 x.2.1 x.2.2.1,unp:=fun z=>(((),(),(),()),(z,()))}
theorem F147_ok:Z4 Tryz.prog 65 F147S:=Yt (rws:=[]) (zxs:=[]) (nt:=15) (m:=[(34,[F81E.S]),(66,[F102E.S])]) (fn:=Tryz.f65) (hint:=.leaf) (pack:=fun y=>y.2.1) X2 tab_ok ⟨⟨F81E.ok,trivial⟩,⟨F102E.ok,trivial⟩,trivial⟩ fun x z h=>.trans (by kernel_rfl) h
def F147E:Zl:=⟨65,F147S,F147_ok⟩
def F183(a:List (El K1))(b:(El Kf×Unit)):Option (List (El K1)):=Tr.sortF (fun x y=>F147 x y b.1) a
def F183S:Tr.Spec:= {args:=(.cons (.own K1 true) (.cons (.fn 65 (.cons (.ro Kf) .nil)) .nil)),res:=.nil,fns:=[65],α:=List (El K1),f:=fun x=>F183 x.1 x.2.1,unp:=fun z=>((z,((),()),()),())}
theorem F183_ok:Z4 Tryz.prog 64 F183S:=Tr.sortFuncC_ok (ρ:=Tryz.sort64_ren) Tryz.sort64 rfl Tryz.isAgg62 Tryz.sizeOf62 F147_ok
def F183E:Zl:=⟨64,F183S,F183_ok⟩
def F146:(El ZR)->(El Kf)->Option (El J7×El ZA):=fun e a=>
 Va (F31 e a) fun l=>
 bif !decide (l=(0:Int)) then some ([],l)
 else
 bif !a.2.2.2.1 then some ([],(22:Int))
 else
 Va (F148 e a) fun n=>
 Va (F149 e a) fun m=>
 Va
 (run
 (fun c=>
 bif decide (c.2<(↑(Vb m):Int)) then
 Va (idx m c.2) fun o=>
 Va (F154 e (a.1,a.2.1,o,false,a.2.2.2.2)) fun f=>
 bif !decide (f.2=(0:Int)) then some (.inr (.inr ([],f.2)))
 else
 Va
 (run
 (fun b=>
 bif decide (b.2<(↑(Vb f.1):Int)) then
 Va (idx f.1 b.2) fun j=>
 Va
 (bif decide ((0:Int)<j.2.1.2.2.1) then some (decide (j.2.1.2.1<=a.2.2.1)) else some false)
 fun p=>
 bif p then Va (F150 a b.1 j) fun q=>some (.inl (q,Vc .i64 (b.2+(1:Int))))
 else some (.inl (b.1,Vc .i64 (b.2+(1:Int))))
 else some (.inr b.1))
 (c.1,(0:Int)))
 fun g=>some (.inl (g,Vc .i64 (c.2+(1:Int))))
 else some (.inr (.inl c.1)))
 (n,(0:Int)))
 fun h=>
 Vi (fun k=>Va (F183 k (a,())) fun i=>some (i,(0:Int)))
 (fun d=>some (d.1,d.2)) h
def F146E:Zl:=Ko 28 Tryz.f28 76 [F31E,F154E,F148E,F149E,F150E,F183E,F147E] (hS (hS (hS (hS (.seq (hS (.lp (en [(7,.own K1 false),pd 31 Y3] [2,3,29,30]) [(.exit 0,en [(7,.own K1 false)] [3]),(.ret,en [pd 4 J7,pd 5 ZA] [])] (hS (hS (.seq (hS (hS (hS (hS (hS (hS (.lp (en [(7,.own K1 false),pd 50 Y3] [2,3,29,30,31,48,49]) [(.exit 2,en [(7,.own K1 false)] [2,3,29,30,31])] (hS (hS (.seq (hS (.seq (.reg [(65,Y4)]) .leaf)) .leaf)))))))))) .leaf))))) .leaf))))) (.p ZR (.q Kf)) (.p J7 (.q ZA)) (u2 F146) (fun z=>(((),(),()),(z.1,z.2,()))) (fun y=>(y.2.1,y.2.2.1))
def F108:(El ZR)->(El Kf)->Option (El J7×El ZA):=fun b a=>
 Va (F31 b a) fun c=>
 bif !decide (c=(0:Int)) then some ([],c)
 else bif a.2.2.2.1 then Va (F146 b a) fun d=>some (d.1,d.2) else Va (F154 b a) fun e=>some (e.1,e.2)
def F108E:Zl:=Ko 9 Tryz.f9 27 [F31E,F146E,F154E] .leaf (.p ZR (.q Kf)) (.p J7 (.q ZA)) (u2 F108) (fun z=>(((),(),()),(z.1,z.2,()))) (fun y=>(y.2.1,y.2.2.1))
def F189:Option (El ZR):=some
 ([([(65:UInt8)],(0:Int),false,(0:Int),()),([(66:UInt8)],(0:Int),false,(120:Int),()),([(67:UInt8)],(0:Int),false,(0:Int),())],
 [([(82:UInt8)],(0:Int),false,())],
 [((0:Int),(0:Int),(0:Int),[(116:UInt8)],(0:Int),false,false,
 [((0:Int),(100:Int),(100:Int),true,false,()),((1:Int),(200:Int),(210:Int),true,true,()),
 ((2:Int),(500:Int),(500:Int),false,true,())],
 ()),
 ((0:Int),(0:Int),(0:Int),[(117:UInt8)],(0:Int),false,false,
 [((1:Int),(260:Int),(260:Int),true,false,()),((2:Int),(400:Int),(400:Int),false,true,())],())],
 [((0:Int),(1:Int),(1:Int),(0:Int),false,())],([]:List (El Wd)),
 ([([(112:UInt8)],(150:Int),(1:Int),(1:Int),(0:Int),(1:Int),())],(0:Int),(0:Int),(0:Int),()),())
abbrev F189A:Pats:=.nil
abbrev F189R:Pats:=(.cons (.pd ZR) .nil)
def F189S:Tr.Spec:= {args:=F189A,res:=F189R,fns:=[],α:=El ZR,f:=fun _=>F189,unp:=fun z=>((),(z,()))}
def F189M:List (Nat×List Tr.Spec):=[]
def F189H:WK:=.leaf
theorem F189_eq:(Dd (mkE tyTab mapTab pkTab [] [] F189M 23 bdTab) (H6 Tryz.f23) Tryz.f23.results F189H F189A F189R (fun y=>y.2.1) (()):Option (El ZR))=F189:=by kernel_rfl
theorem F189_ok:Z4 Tryz.prog 23 F189S:=Yt (m:=F189M) (fn:=Tryz.f23) (hint:=F189H) (pack:=fun y=>y.2.1) X2 tab_ok trivial fun _ z h=>(F189_eq).trans h
def F187:Option (El Y4):=Va F189 fun c=>
 Va (F108 c ((0:Int),(2:Int),(0:Int),false,(2:Int),(0:Int),false,false,(0:Int),false,())) fun a=>
 Va F189 fun d=>
 Va (F108 d ((0:Int),(2:Int),(450:Int),true,(2:Int),(0:Int),false,false,(0:Int),false,())) fun b=>
 Va
 (bif decide (a.2=(0:Int)) then
 bif decide (b.2=(0:Int)) then
 bif decide ((↑(Vb a.1):Int)=(2:Int)) then
 Va (idx a.1 (0:Int)) fun e=>
 bif decide (e.2.1.2.1=(400:Int)) then
 bif decide ((↑(Vb b.1):Int)=(1:Int)) then Va (idx b.1 (0:Int)) fun f=>some (decide (f.2.1.1=(100:Int)))
 else some false
 else some false
 else some false
 else some false
 else some false)
 fun g=>some g
abbrev F187A:Pats:=.nil
abbrev F187R:Pats:=(.cons (.pd Y4) .nil)
def F187S:Tr.Spec:= {args:=F187A,res:=F187R,fns:=[],α:=El Y4,f:=fun _=>F187,unp:=fun z=>((),(z,()))}
def F187M:List (Nat×List Tr.Spec):=[(9,[F108E.S]),(23,[F189S])]
def F187H:WK:=(hS (hS (hS (.seq (.reg [(0,Y4)]) .leaf))))
theorem F187_eq:(Dd (mkE tyTab mapTab pkTab [] [] F187M 49 bdTab) (H6 Tryz.f7) Tryz.f7.results F187H F187A F187R (fun y=>y.2.1) (()):Option (El Y4))=F187:=by kernel_rfl
theorem F187_ok:Z4 Tryz.prog 7 F187S:=Yt (m:=F187M) (fn:=Tryz.f7) (hint:=F187H) (pack:=fun y=>y.2.1) X2 tab_ok ⟨⟨F108E.ok,trivial⟩,⟨F189_ok,trivial⟩,trivial⟩ fun _ z h=>(F187_eq).trans h
def F144:(El G0)->(El G0)->Option (El Y4):=fun a b=>
 bif !decide ((↑(Vb a):Int)=(↑(Vb b):Int)) then some false
 else
 Va
 (run
 (fun s0=>
 bif decide (s0<(↑(Vb a):Int)) then
 Va (idx a s0) fun c=>
 Va (idx b s0) fun d=>
 Va (Tr.eqEl.eqs (Tr.eqEl (Tr.Ty.int .i64)) c d) fun e=>
 bif !e then some (.inr (.inr false)) else some (.inl (Vc .i64 (s0+(1:Int))))
 else some (.inr (.inl ())))
 (0:Int))
 fun f=>Vi (fun _=>some true) (fun g=>some g) f
def F144E:Zl:=ZK 10 Tryz.f10 26 [] (hS (hS (.seq (hS (.lp (en [pd 5 Y3] [0,1]) [(.exit 0,e0),(.ret,en [pd 4 Y4] [])] .leaf)) .leaf))) (.p G0 (.q G0)) (.pd Y4) (u2 F144)
def F136:(El Kf)->(El HZ)->Option (El Jo):=fun b a=>
 bif b.2.2.2.1 then some [Vc .i64 ((0:Int) - a.1),a.2.2.1,a.2.2.2.1,a.2.2.2.2.1]
 else some [a.2.1,a.2.2.1,a.2.2.2.1,a.2.2.2.2.1]
def F136E:Zl:=ZK 16 Tryz.f16 26 [] .leaf (.p Kf (.q HZ)) (.pd Jo) (u2 F136)
def F145:(El Kf)->(El J7)->Option (El G0):=fun c a=>
 Va
 (run
 (fun s0=>
 bif decide (s0.2<(↑(Vb a):Int)) then
 Va (idx a s0.2) fun d=>
 Va (F136 c d.2.1) fun b=>
 Va (ZE (decide (Vb s0.1+Vb [b]<=Zz))) fun _=>
 some (.inl (s0.1++[b],Vc .i64 (s0.2+(1:Int))))
 else some (.inr s0.1))
 ([],(0:Int)))
 fun e=>some e
def F145E:Zl:=ZK 30 Tryz.f30 25 [F136E] (hS (hS (.seq (hS (.lp (en [(5,.own Jo false),pd 6 Y3] [1,2]) [(.exit 0,en [(5,.own Jo false)] [])] .leaf)) .leaf))) (.p Kf (.q J7)) (.pd G0) (u2 F145)
def F190:(El Kf)->(El J7)->Option (El G0):=fun a b=>Va (F145 a b) fun c=>some c
def F190E:Zl:=ZK 11 Tryz.f11 8 [F145E] .leaf (.p Kf (.q J7)) (.pd G0) (u2 F190)
def F186:(El ZR)->(El Kf)->Option (El Y4):=fun b a=>
 Va (F188 b a) fun f=>
 bif !f then Va F187 fun g=>some g
 else
 Va (F51 b a) fun c=>
 Va (F108 b a) fun d=>
 Va
 (F108 c.1
 (a.1,a.2.1,a.2.2.1,a.2.2.2.1,a.2.2.2.2.1,a.2.2.2.2.2.1,false,false,(0:Int),a.2.2.2.2.2.2.2.2.2))
 fun e=>
 Va
 (bif decide (c.2=(0:Int)) then
 bif decide (d.2=(0:Int)) then
 bif decide (e.2=(0:Int)) then
 Va (F190 a d.1) fun h=>
 Va
 (F190
 (a.1,a.2.1,a.2.2.1,a.2.2.2.1,a.2.2.2.2.1,a.2.2.2.2.2.1,false,false,(0:Int),
 a.2.2.2.2.2.2.2.2.2)
 e.1)
 fun i=>Va (F144 h i) fun j=>bif j then Va F187 fun k=>some k else some false
 else some false
 else some false
 else some false)
 fun l=>some l
abbrev F186A:Pats:=(.cons (.pd ZR) (.cons (.pd Kf) .nil))
def F186S:Tr.Spec:= {args:=F186A,res:=(.cons (.pd Y4) .nil),fns:=[],α:=El Y4,f:=fun x=>F186 x.1 x.2.1,unp:=fun z=>(((),(),()),(z,()))}
theorem F186_ok:Z4 Tryz.prog 3 F186S:=Yt (rws:=[]) (zxs:=[]) (nt:=61) (m:=[(6,[F188E.S]),(7,[F187S]),(8,[F51E.S]),(9,[F108E.S]),(10,[F144E.S]),(11,[F190E.S])]) (fn:=Tryz.f3) (hint:=(hS (hS (hS (hS (hS (hS (hS (.seq (.reg [(4,Y4)]) .leaf))))))))) (pack:=fun y=>y.2.1) X2 tab_ok ⟨⟨F188E.ok,trivial⟩,⟨F187_ok,trivial⟩,⟨F51E.ok,trivial⟩,⟨F108E.ok,trivial⟩,⟨F144E.ok,trivial⟩,⟨F190E.ok,trivial⟩,trivial⟩ fun x z h=>.trans (by kernel_rfl) h
def F132:(El ZR)->(El Jp)->Option (El Y4):=fun b a=>
 Va (bif decide (a.2.1<(0:Int)) then some true else some (decide ((↑(Vb b.2.2.1):Int)<=a.2.1))) fun c=>
 bif c then some false
 else
 Va
 (bif decide ((0:Int)<=a.2.2.1) then
 bif decide (a.2.2.1<a.2.2.2.1) then
 Va (idx b.2.2.1 a.2.1) fun d=>some (decide (a.2.2.2.1<(↑(Vb d.2.2.2.2.2.2.2.1):Int)))
 else some false
 else some false)
 fun e=>some e
def F140:(El ZR)->(El Jp)->Option (El Y3):=fun c b=>
 Va (idx c.2.2.1 b.2.1) fun d=>
 Va
 (run
 (fun a=>
 bif decide (a.2<=b.2.2.2.1) then
 Va (idx d.2.2.2.2.2.2.2.1 a.2) fun e=>
 Va (idx c.1 e.1) fun f=>
 Va (Hi .i64 (1:Int) f.2.1) fun g=>some (.inl (KJ .i64 a.1 g,Vc .i64 (a.2+(1:Int))))
 else some (.inr a.1))
 ((0:Int),b.2.2.1))
 fun h=>some h
def F134:(El ZR)->(El JC)->Option (El WM×El ZA):=fun j n=>
 Va (F120 j) fun u=>
 bif !u then some ([],(21:Int))
 else
 Va
 (run
 (fun c=>
 bif decide (c.2<(↑(Vb n.1):Int)) then
 Va (idx n.1 c.2) fun d=>
 Va (bif d.1 then Va (F132 j d) fun v=>some !v else some false) fun w=>
 bif w then some (.inr (.inr ([],(9:Int))))
 else
 Va
 (bif d.2.2.2.2.2.2.2.2.1 then
 bif !d.1 then some true
 else
 bif decide (c.2=(0:Int)) then some true
 else Va (idx n.1 (Vc .i64 (c.2 - (1:Int)))) fun x=>some !x.1
 else some false)
 fun y=>
 bif y then some (.inr (.inr ([],(19:Int))))
 else
 bif !d.1 then some (.inl (c.1,Vc .i64 (c.2+(1:Int))))
 else
 Va (idx j.2.2.1 d.2.1) fun z=>
 Va (idx j.2.1 z.2.2.2.2.1) fun A=>
 Va (Hi .i64 (1:Int) A.2.1) fun s=>
 bif d.2.2.2.2.2.2.2.2.1 then
 Va (Zp (Vc .i64 ((↑(Vb c.1):Int) - (1:Int))) (Vb c.1)) fun e=>
 Va c.1[e]? fun a=>
 Va
 (Zp (Vc .i64 ((↑(Vb c.1):Int) - (1:Int)))
 (Vb (Ve c.1 e (a.1,d.2.2.2.2.2.2.2.1,a.2.2))))
 fun o=>
 Va (Ve c.1 e (a.1,d.2.2.2.2.2.2.2.1,a.2.2))[o]? fun g=>
 Va (F140 j d) fun h=>
 Va
 (Zp (Vc .i64 ((↑(Vb c.1):Int) - (1:Int)))
 (Vb (Ve c.1 e (a.1,d.2.2.2.2.2.2.2.1,a.2.2))))
 fun f=>
 Va (Ve c.1 e (a.1,d.2.2.2.2.2.2.2.1,a.2.2))[f]? fun b=>
 Va
 (Zp (Vc .i64 ((↑(Vb c.1):Int) - (1:Int)))
 (Vb
 (Ve (Ve c.1 e (a.1,d.2.2.2.2.2.2.2.1,a.2.2)) f
 (b.1,b.2.1,KJ .i64 g.2.2.1 h,b.2.2.2))))
 fun p=>
 Va
 (Ve (Ve c.1 e (a.1,d.2.2.2.2.2.2.2.1,a.2.2)) f
 (b.1,b.2.1,KJ .i64 g.2.2.1 h,b.2.2.2))[p]?
 fun q=>
 Va
 (Zp (Vc .i64 ((↑(Vb c.1):Int) - (1:Int)))
 (Vb
 (Ve (Ve c.1 e (a.1,d.2.2.2.2.2.2.2.1,a.2.2)) f
 (b.1,b.2.1,KJ .i64 g.2.2.1 h,b.2.2.2))))
 fun k=>
 Va
 (Ve (Ve c.1 e (a.1,d.2.2.2.2.2.2.2.1,a.2.2)) f
 (b.1,b.2.1,KJ .i64 g.2.2.1 h,b.2.2.2))[k]?
 fun i=>
 some
 (.inl
 (Ve
 (Ve (Ve c.1 e (a.1,d.2.2.2.2.2.2.2.1,a.2.2)) f
 (b.1,b.2.1,KJ .i64 g.2.2.1 h,b.2.2.2))
 k (i.1,i.2.1,i.2.2.1,KJ .i64 q.2.2.2.1 s,i.2.2.2.2),
 Vc .i64 (c.2+(1:Int))))
 else
 Va (F140 j d) fun l=>
 Va
 (ZE (decide (Vb c.1+Vb [(d.2.2.2.2.2.2.1,d.2.2.2.2.2.2.2.1,l,s,())]<=Zz)))
 fun _=>
 some
 (.inl (c.1++[(d.2.2.2.2.2.2.1,d.2.2.2.2.2.2.2.1,l,s,())],Vc .i64 (c.2+(1:Int))))
 else some (.inr (.inl c.1)))
 ([],(0:Int)))
 fun r=>Vi (fun t=>some (t,(0:Int))) (fun m=>some (m.1,m.2)) r
def F138:(El Y3)->Option (El Y3):=fun a=>
 Va
 (run
 (fun s0=>
 bif decide (s0.2<(62:Int)) then
 Va (Hj .i64 a s0.2) fun b=>
 bif decide (ZB .i64 b (1:Int)=(1:Int)) then
 some (.inl (Vc .i64 (s0.1+(1:Int)),Vc .i64 (s0.2+(1:Int))))
 else some (.inl (s0.1,Vc .i64 (s0.2+(1:Int))))
 else some (.inr s0.1))
 ((0:Int),(0:Int)))
 fun c=>some c
def F139:(El Y3)->(El Y3)->(El Y3)->Option (El Y4):=fun a b c=>
 bif decide (b<=a) then some true
 else some (decide (Vc .u64 (Vc .u64 b - Vc .u64 a)<=Vc .u64 c))
def F131:(El Ym)->(El WM)->(El Y3)->(El Y3)->Option (El Y4):=fun a b c d=>
 Va
 (run
 (fun s0=>
 bif decide (s0.2.2<=d) then
 Va (idx b s0.2.2) fun f=>
 Va (idx b s0.2.2) fun g=>
 some (.inl (KJ .i64 s0.1 f.2.2.1,KJ .i64 s0.2.1 g.2.2.2.1,Vc .i64 (s0.2.2+(1:Int))))
 else some (.inr (s0.1,s0.2.1)))
 ((0:Int),(0:Int),c))
 fun e=>
 Va
 (bif decide (Vc .i64 (Vc .i64 (d - c)+(1:Int))<=a.2.2.1) then
 Va (F138 e.1) fun h=>
 bif decide (h<=a.2.2.2.1) then
 Va (idx b c) fun i=>
 Va (idx b d) fun j=>
 Va (F139 i.1 j.1 a.2.2.2.2.1) fun k=>
 bif k then some (decide (Tr.qandNot .i64 e.2 a.2.2.2.2.2.1=(0:Int))) else some false
 else some false
 else some false)
 fun l=>some l
def F135:(El KY)->(El Ym)->(El WM)->(El Y3)->Option (El Y3):=fun b c d a=>
 Va
 (bif decide ((0:Int)<a) then
 Va (idx d (Vc .i64 (a - (1:Int)))) fun e=>
 Va (idx d a) fun f=>Va (F139 e.2.1 f.1 b.2.2.1) fun g=>some g
 else some false)
 fun h=>bif h then some (Tr.imax (0:Int) (Vc .i64 (c.2.1 - b.2.1))) else some c.2.1
def F133:(El KY)->(El WM)->Option (El Y3×El G1×El Y4):=fun j e=>
 Va
 (ZE
 (decide
 ((0:El (Tr.Ty.int .i64))<=Vc .i64 ((↑(Vb e):Int)+(1:Int))/\
 Vc .i64 ((↑(Vb e):Int)+(1:Int))<=Vc .i64 ((↑(Vb e):Int)+(1:Int))/\
 Vc .i64 ((↑(Vb e):Int)+(1:Int))<=(↑Zz:El (Tr.Ty.int .i64)))))
 fun _=>
 Va (Zp (↑(Vb e):Int) (Vb (Vd (Vf (Vc .i64 ((↑(Vb e):Int)+(1:Int)))) ((false,(0:Int),([]:List (El Hu)),()))))) fun G=>
 Va (Vd (Vf (Vc .i64 ((↑(Vb e):Int)+(1:Int)))) ((false,(0:Int),([]:List (El Hu)),())))[G]? fun H=>
 Va
 (run
 (fun c=>
 bif decide ((0:Int)<=c.2) then
 Va
 (run
 (fun b=>
 bif decide (b.2<(↑(Vb e):Int)) then
 Va (Zp (Vc .i64 (b.2+(1:Int))) (Vb b.1)) fun I=>
 Va b.1[I]? fun J=>
 bif !J.1 then some (.inl (b.1,Vc .i64 (b.2+(1:Int))))
 else
 Va
 (run
 (fun a=>
 bif decide (a.2<(↑(Vb j.1):Int)) then
 Va (idx j.1 a.2) fun K=>
 Va (F131 K e c.2 b.2) fun L=>
 bif !L then some (.inl (a.1,Vc .i64 (a.2+(1:Int))))
 else
 Va (idx j.1 a.2) fun k=>
 Va (F135 j k e c.2) fun f=>
 Va (Zp (Vc .i64 (b.2+(1:Int))) (Vb a.1)) fun l=>
 Va a.1[l]? fun g=>
 Va
 (Va (Zp c.2 (Vb a.1)) fun m=>
 Va a.1[m]? fun n=>
 bif n.1 then
 Va (Zp c.2 (Vb a.1)) fun o=>
 Va a.1[o]? fun p=>
 bif decide (p.2.1<Vc .i64 (f+g.2.1)) then some true
 else
 Va (Zp c.2 (Vb a.1)) fun q=>
 Va a.1[q]? fun r=>
 bif decide (Vc .i64 (f+g.2.1)=r.2.1) then
 Va (Zp (Vc .i64 (b.2+(1:Int))) (Vb a.1)) fun s=>
 Va a.1[s]? fun t=>
 Va (Zp c.2 (Vb a.1)) fun u=>
 Va a.1[u]? fun v=>
 some
 (decide
 ((↑(Vb v.2.2.1):Int)<=
 Vc .i64 ((1:Int)+(↑(Vb t.2.2.1):Int))))
 else some false
 else some false)
 fun w=>
 bif w then some (.inl (a.1,Vc .i64 (a.2+(1:Int))))
 else
 Va (Zp (Vc .i64 (b.2+(1:Int))) (Vb a.1)) fun x=>
 Va a.1[x]? fun h=>
 Va (ZE (decide (Vb [(a.2,c.2,b.2,f,())]+Vb h.2.2.1<=Zz)))
 fun _=>
 Va (Zp c.2 (Vb a.1)) fun i=>
 Va a.1[i]? fun _=>
 some
 (.inl
 (Ve a.1 i
 (true,Vc .i64 (f+g.2.1),[(a.2,c.2,b.2,f,())]++h.2.2.1,()),
 Vc .i64 (a.2+(1:Int))))
 else some (.inr a.1))
 (b.1,(0:Int)))
 fun y=>some (.inl (y,Vc .i64 (b.2+(1:Int))))
 else some (.inr b.1))
 (c.1,c.2))
 fun z=>some (.inl (z,Vc .i64 (c.2 - (1:Int))))
 else some (.inr c.1))
 (Ve (Vd (Vf (Vc .i64 ((↑(Vb e):Int)+(1:Int)))) ((false,(0:Int),([]:List (El Hu)),()))) G (true,H.2),
 Vc .i64 ((↑(Vb e):Int) - (1:Int))))
 fun d=>
 Va (Zp (0:Int) (Vb d)) fun A=>
 Va d[A]? fun B=>
 Va (Zp (0:Int) (Vb d)) fun C=>
 Va d[C]? fun D=>Va (Zp (0:Int) (Vb d)) fun E=>Va d[E]? fun F=>some (B.2.1,D.2.2.1,F.1)
def F129:(El KY)->(El Y3)->Option (El Y3):=fun a b=>bif decide ((0:Int)<a.2.2.2.1) then some (Tr.imin a.2.2.2.1 b) else some b
def F137:(El JC)->Option (El Y3):=fun b=>
 Va
 (run
 (fun s0=>
 bif decide (s0.2<(↑(Vb b.1):Int)) then
 Va (idx b.1 s0.2) fun a=>
 Va
 (bif !a.1 then
 bif decide ((0:Int)<=a.2.2.2.2.2.2.1) then
 bif decide (a.2.2.2.2.2.2.1<=a.2.2.2.2.2.2.2.1) then
 some (decide (Vc .i64 (a.2.2.2.2.2.2.2.1 - a.2.2.2.2.2.2.1)<=(14400:Int)))
 else some false
 else some false
 else some false)
 fun c=>
 bif c then
 some
 (.inl
 (Vc .i64 (Vc .i64 (s0.1+a.2.2.2.2.2.2.2.1) - a.2.2.2.2.2.2.1),
 Vc .i64 (s0.2+(1:Int))))
 else some (.inl (s0.1,Vc .i64 (s0.2+(1:Int))))
 else some (.inr s0.1))
 ((0:Int),(0:Int)))
 fun d=>some d
def F130:(El ZR)->(El Kf)->(El JC)->Option (El HZ×El G1×El ZA):=fun c e a=>
 Va (F134 c a) fun b=>
 bif !decide (b.2=(0:Int)) then some (((0:Int),(0:Int),(0:Int),(0:Int),(0:Int),()),[],b.2)
 else
 bif decide ((8:Int)<(↑(Vb b.1):Int)) then some (((0:Int),(0:Int),(0:Int),(0:Int),(0:Int),()),[],(33:Int))
 else
 Va (F133 c.2.2.2.2.2.1 b.1) fun d=>
 bif !d.2.2 then some (((0:Int),(0:Int),(0:Int),(0:Int),(0:Int),()),[],(34:Int))
 else
 Va (F129 c.2.2.2.2.2.1 d.1) fun f=>
 Va (F137 a) fun g=>
 Va
 (bif decide ((0:Int)<(↑(Vb a.1):Int)) then
 Va (idx a.1 (0:Int)) fun h=>
 Va (idx a.1 (Vc .i64 ((↑(Vb a.1):Int) - (1:Int)))) fun i=>
 some (h.2.2.2.2.2.2.1,i.2.2.2.2.2.2.2.1,(↑(Vb b.1):Int),f,g,())
 else some (e.2.2.1,e.2.2.1,(↑(Vb b.1):Int),f,g,()))
 fun j=>some (j,d.2.1,(0:Int))
end
end Q

