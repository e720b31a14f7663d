/- The functions of the program as functions of Lean, and that the program computes them; printed by a program of mine. Conditions: none. -/
import Derived.Test.YtbjejlpejjnpnaaGreatFintopb
open Tr Go Go.Proofs
open Int renaming toNat ->Vf
open Go.IntKind renaming wrap ->Vc
open List renaming length ->Vb,replicate ->Vd,take ->Ve,drop ->Vg,set ->Vi
open Option renaming bind ->Va
open Sum renaming elim ->Vh
namespace Q
noncomputable section
def F106:(El KP)->(El KP)->Option (El Y4):=fun a b=>
 Va
 (run
 (fun s0=>
 bif decide (s0<(4:Int)) then
 Va (Zo s0 (4:Nat)) fun c=>
 Va a[c]? fun d=>
 Va (Zo s0 (4:Nat)) fun e=>
 Va b[e]? fun f=>
 bif decide (f<d) then some (.inr (.inr false)) else some (.inl (Vc .i64 (s0+(1:Int))))
 else some (.inr (.inl ())))
 (0:Int))
 fun g=>Vh (fun _=>some true) (fun h=>some h) g
def F106E:Zm:=ZK 124 Tryz.f124 17 [] (hS (.seq (hS (.lp (en [pd 6 Y3] [2,3]) [(.exit 0,e0),(.ret,en [pd 4 Y4] [])] .leaf)) .leaf)) (.p KP (.q KP)) (.pd Y4) (u2 F106)
def F104:(El KP)->(El KP)->Option (El Y4):=fun a b=>
 Va
 (Va (Tr.eqEl.eqs (Tr.eqEl (Tr.Ty.int .i64)) a b) fun c=>bif !c then Va (F106 a b) fun d=>some d else some false)
 fun e=>some e
def F104E:Zm:=ZK 82 Tryz.f82 13 [F106E] (hS (.seq (.reg [(4,Y4)]) .leaf)) (.p KP (.q KP)) (.pd Y4) (u2 F104)
def F103:(El RG)->(El KP)->Option (El Y4):=fun c d=>
 Va
 (run
 (fun s0=>
 bif decide (s0.2<(↑(Vb c):Int)) then
 Va (idx c s0.2) fun e=>
 Va
 (run
 (fun a=>
 bif decide (a<(4:Int)) then
 Va (Zo a (4:Nat)) fun f=>
 Va e[f]? fun g=>
 Va (Zo a (4:Nat)) fun h=>
 Va d[h]? fun i=>
 bif decide (i<g) then some (.inr (.inl ())) else some (.inl (Vc .i64 (a+(1:Int))))
 else some (.inr (.inr ())))
 (0:Int))
 fun j=>Vh (fun _=>some (.inl (s0.1,Vc .i64 (s0.2+(1:Int))))) (fun _=>some (.inr true)) j
 else some (.inr s0.1))
 (false,(0:Int)))
 fun b=>some b
def F103E:Zm:=ZK 209 Tryz.f209 28 [] (hS (hS (hS (.seq (hS (.lp (en [pd 5 Y4,pd 11 Y3] [3,9,10]) [(.exit 0,en [pd 5 Y4] [])] (hS (hS (.seq (hS (.seq (hS (.lp (en [pd 15 Y3] [3,5,7,9,10,11]) [(.exit 1,en [] [3,5,9,10,11]),(.exit 2,e0)] .leaf)) .leaf)) .leaf))))) .leaf)))) (.p RG (.q KP)) (.pd Y4) (u2 F103)
def F107:(List (El KP))->(El KP)->Option (List (El KP)):=fun g f=>
 Va (F103 g f) fun o=>
 bif o then some g
 else
 Va
 (run
 (fun d=>
 bif decide (d.2.2<(↑(Vb g):Int)) then
 Va (Zo d.2.2 (Vb d.1)) fun p=>
 Va d.1[p]? fun m=>
 Va (F104 f m) fun q=>
 bif !q then
 Va (Zo d.2.1 (Vb d.1)) fun n=>
 Va d.1[n]? fun _=>
 some (.inl (Vi d.1 n m,Vc .i64 (d.2.1+(1:Int)),Vc .i64 (d.2.2+(1:Int))))
 else some (.inl (d.1,d.2.1,Vc .i64 (d.2.2+(1:Int))))
 else some (.inr (d.1,d.2.1)))
 (g,(0:Int),(0:Int)))
 fun c=>
 Va
 (run
 (fun h=>
 Va
 (bif decide (h<c.2) then
 Va (Zo h (Vb c.1)) fun r=>
 Va c.1[r]? fun i=>Va (F102 i f) fun j=>some (decide (j<(0:Int)))
 else some false)
 fun k=>bif k then some (.inl (Vc .i64 (h+(1:Int)))) else some (.inr h))
 (0:Int))
 fun b=>
 Va
 (ZD
 (decide
 ((0:El (Tr.Ty.int .i64))<=Vc .i64 (c.2 - b)/\
 Vc .i64 (c.2 - b)<=Vc .i64 (c.2 - b)/\
 Vc .i64 (c.2 - b)<=(↑ZE:El (Tr.Ty.int .i64)))))
 fun _=>
 Va (sliceB (Vb c.1) (Vb c.1) (some b) (some c.2)) fun a=>
 Va (Zo b (Vb c.1+(1:Nat))) fun l=>
 Va (sliceB (Vb c.1) l none (some b)) fun e=>
 Va (ZD (decide (Vb (Ve e.2 c.1)+Vb [f]<=ZE))) fun _=>
 Va
 (ZD
 (decide
 (Vb (Ve e.2 c.1++[f])+
 Vb
 (Ve
 (Min.min (Vb (Ve (a.2 - a.1) (Vg a.1 c.1)))
 (Vb (Vd (Vf (Vc .i64 (c.2 - b))) (Tr.zeroEl KP))))
 (Ve (a.2 - a.1) (Vg a.1 c.1))++
 Vg
 (Min.min (Vb (Ve (a.2 - a.1) (Vg a.1 c.1)))
 (Vb (Vd (Vf (Vc .i64 (c.2 - b))) (Tr.zeroEl KP))))
 (Vd (Vf (Vc .i64 (c.2 - b))) (Tr.zeroEl KP)))<=
 ZE)))
 fun _=>
 some
 (Ve e.2 c.1++[f]++
 (Ve
 (Min.min (Vb (Ve (a.2 - a.1) (Vg a.1 c.1)))
 (Vb (Vd (Vf (Vc .i64 (c.2 - b))) (Tr.zeroEl KP))))
 (Ve (a.2 - a.1) (Vg a.1 c.1))++
 Vg
 (Min.min (Vb (Ve (a.2 - a.1) (Vg a.1 c.1)))
 (Vb (Vd (Vf (Vc .i64 (c.2 - b))) (Tr.zeroEl KP))))
 (Vd (Vf (Vc .i64 (c.2 - b))) (Tr.zeroEl KP))))
def F107E:Zm:=ZK 165 Tryz.f165 64 [F102E,F104E,F103E] (hS (hS (hS (.seq (hS (.lp ⟨[(0,.own KP false),pd 5 Y3,pd 16 Y3],[],[3,15],[(14,0)],[],[]⟩ [(.exit 0,en [(0,.own KP false),pd 5 Y3] [3])] .leaf)) (hS (.seq (.lp (en [pd 8 Y3] [0,3,5]) [(.exit 2,en [pd 8 Y3] [0,3,5])] (.seq (.seq (.reg [(42,Y4)]) .leaf) .leaf)) .leaf)))))) (.cons (.own KP false) (.q KP)) (.own KP false) (u2 F107)
def F105:(El RG)->Option (El RG):=fun a=>
 Va
 (run
 (fun s0=>
 bif decide (s0.2<(↑(Vb a):Int)) then
 Va (idx a s0.2) fun b=>Va (F107 s0.1 b) fun c=>some (.inl (c,Vc .i64 (s0.2+(1:Int))))
 else some (.inr s0.1))
 ([],(0:Int)))
 fun d=>some d
def F105E:Zm:=ZK 115 Tryz.f115 17 [F107E] (hS (hS (.seq (hS (.lp (en [(3,.own KP false),pd 8 Y3] [6,7]) [(.exit 0,en [(3,.own KP false)] [])] .leaf)) .leaf))) (.q RG) (.pd RG) (u1 F105)
def F149:(El Ki)->(El YA)->Option (El YA):=fun l c=>
 Va
 (run
 (fun s0=>
 bif decide (s0.2<(↑(Vb c):Int)) then
 Va (idx c s0.2) fun m=>
 Va (F81 l m.2.1) fun h=>
 Va (ZD (decide (Vb s0.1+Vb [h]<=ZE))) fun _=>
 some (.inl (s0.1++[h],Vc .i64 (s0.2+(1:Int))))
 else some (.inr s0.1))
 ([],(0:Int)))
 fun i=>
 Va (F105 i) fun j=>
 Va
 (run
 (fun b=>
 bif decide (b.2<(↑(Vb j):Int)) then
 Va (idx j b.2) fun n=>
 Va
 (run
 (fun a=>
 bif decide (a.2<(↑(Vb c):Int)) then
 Va (idx c a.2) fun k=>
 Va (idx i a.2) fun d=>
 Va (Tr.eqEl.eqs (Tr.eqEl (Tr.Ty.int .i64)) d n) fun e=>
 bif e then Va (ZD (decide (Vb a.1+Vb [k]<=ZE))) fun _=>some (.inr (a.1++[k]))
 else some (.inl (a.1,Vc .i64 (a.2+(1:Int))))
 else some (.inr a.1))
 (b.1,(0:Int)))
 fun f=>some (.inl (f,Vc .i64 (b.2+(1:Int))))
 else some (.inr b.1))
 ([],(0:Int)))
 fun g=>some g
def F149E:Zm:=ZK 71 Tryz.f71 54 [F81E,F105E] (hS (hS (.seq (hS (.lp (en [(5,.own KP false),pd 15 Y3] [1,2,13,14]) [(.exit 0,en [(5,.own KP false)] [1])] .leaf)) (hS (.seq (hS (.lp (en [(8,.own K4 false),pd 30 Y3] [1,5,28,29]) [(.exit 2,en [(8,.own K4 false)] [])] (hS (hS (.seq (hS (hS (.lp (en [(8,.own K4 false),pd 36 Y3] [1,5,10,28,29,30,34,35]) [(.exit 4,en [(8,.own K4 false)] [1,5,28,29,30])] .leaf))) .leaf))))) .leaf))))) (.p Ki (.q YA)) (.pd YA) (u2 F149)
def F75:(Unit)->Option (X5):=fun _=>some ((),[],(0:Int),())
def F75E:Zm:=Kg 68 Tryz.f68 8 [F147E] .leaf (.cons (.fn 69 .nil) .nil) (.cons DK .nil) (u1 F75) (fun z=>(((),()),(z,()))) (fun y=>y.2.1) (fns:=[69])
def F146:(El ZM)->(El Ki)->Option (El YA×El ZA):=fun b a=>
 Va (F51 b a) fun d=>
 bif !decide (d.2=(0:Int)) then Va (F31 b a) fun f=>some ([],f)
 else
 bif a.2.2.2.1 then some ([],(22:Int))
 else
 Va (F19 b.2.2.2.2.2.1) fun c=>
 bif !decide (c.2=(0:Int)) then some ([],c.2)
 else
 Va (F75 ()) fun e=>
 Va
 (F156
 (d.1,
 (a.1,a.2.1,a.2.2.1,a.2.2.2.1,a.2.2.2.2.1,a.2.2.2.2.2.1,false,false,(0:Int),
 a.2.2.2.2.2.2.2.2.2),
 [],((),e.2.1,e.2.2.1,()),[],())
 c.1)
 fun g=>Va (F149 a g.2.2.2.2.1) fun h=>some (h,(0:Int))
def F146E:Zm:=Kg 29 Tryz.f29 62 [F51E,F31E,F19E,F75E,F147E,F156E,F149E] .leaf (.p ZM (.q Ki)) (.p YA (.q ZA)) (u2 F146) (fun z=>(((),(),()),(z.1,z.2,()))) (fun y=>(y.2.1,y.2.2.1)) (rws:=[128]) (zxs:=[131])
def F38:(El Wi)->Option (El JR):=fun a=>Va (idx a.2.2.1 a.2.2.2.1) fun b=>some b
def F38E:Zm:=ZK 214 Tryz.f214 9 [] .leaf (.q Wi) (.pd JR) (u1 F38)
def F45:(El Wi)->Option (El ZA):=fun b=>
 Va (F38 b) fun a=>
 Va
 (Va (F50 a.2.2.2.2.1 (0:Int) (Vc .i64 ((↑(Vb b.1.1):Int) - (1:Int)))) fun c=>
 bif !c then some true
 else Va (F50 a.2.2.2.2.2.1 (0:Int) (Vc .i64 ((↑(Vb b.1.1):Int) - (1:Int)))) fun d=>some !d)
 fun e=>
 bif e then some (9:Int)
 else
 Va
 (bif !a.1 then
 bif !decide (a.2.1=(0:Int)) then some true
 else
 bif !decide (a.2.2.1=(0:Int)) then some true
 else bif !decide (a.2.2.2.1=(0:Int)) then some true else some a.2.2.2.2.2.2.2.2.1
 else some false)
 fun f=>
 bif f then some (9:Int)
 else
 Va
 (bif a.1 then
 Va (F50 a.2.1 (0:Int) (Vc .i64 ((↑(Vb b.1.2.2.1):Int) - (1:Int)))) fun g=>
 bif !g then some true
 else
 bif decide (a.2.2.1<(0:Int)) then some true
 else
 bif decide (a.2.2.2.1<=a.2.2.1) then some true
 else Va (idx b.1.2.2.1 a.2.1) fun h=>some (decide ((↑(Vb h.2.2.2.2.2.2.2.1):Int)<=a.2.2.2.1))
 else some false)
 fun i=>bif i then some (9:Int) else some (0:Int)
def F45S:Tr.Spec:= {args:=(.cons (.pd Wi) .nil),res:=(.cons (.pd ZA) .nil),fns:=[],α:=El ZA,f:=fun x=>F45 x.1,unp:=fun z=>(((),()),(z,()))}
theorem F45_ok:ZX Tryz.prog 210 F45S:=XG (rws:=[]) (zxs:=[]) (nt:=85) (m:=[(47,[F50E.S]),(214,[F38E.S])]) (fn:=Tryz.f210) (hint:=(hS (hS (hS (.seq (.seq (.reg [(23,Y4)]) .leaf) (.seq (.seq (.reg [(45,Y4)]) .leaf) (.seq (.seq (.reg [(84,Y4)]) .leaf) .leaf))))))) (pack:=fun y=>y.2.1) Xr tab_ok ⟨⟨F50E.ok,trivial⟩,⟨F38E.ok,trivial⟩,trivial⟩ fun x z h=>.trans (by kernel_rfl) h
def F40:(El Wi)->Option (El ZA):=fun b=>
 Va (F38 b) fun a=>
 Va
 (Va (F50 a.2.2.2.2.2.2.1 (0:Int) (3155932800:Int)) fun c=>
 bif !c then some true else Va (F50 a.2.2.2.2.2.2.2.1 (0:Int) (3155932800:Int)) fun d=>some !d)
 fun e=>bif e then some (10:Int) else some (0:Int)
def F40S:Tr.Spec:= {args:=(.cons (.pd Wi) .nil),res:=(.cons (.pd ZA) .nil),fns:=[],α:=El ZA,f:=fun x=>F40 x.1,unp:=fun z=>(((),()),(z,()))}
theorem F40_ok:ZX Tryz.prog 211 F40S:=XG (rws:=[]) (zxs:=[]) (nt:=16) (m:=[(47,[F50E.S]),(214,[F38E.S])]) (fn:=Tryz.f211) (hint:=(hS (hS (.seq (.seq (.reg [(15,Y4)]) .leaf) .leaf)))) (pack:=fun y=>y.2.1) Xr tab_ok ⟨⟨F50E.ok,trivial⟩,⟨F38E.ok,trivial⟩,trivial⟩ fun x z h=>.trans (by kernel_rfl) h
def F47:(El Wi)->Option (El ZA):=fun c=>
 Va (F38 c) fun b=>
 bif b.1 then some (0:Int)
 else
 Va
 (run
 (fun a=>
 bif decide (a.2<(↑(Vb c.1.2.2.2.2.1):Int)) then
 Va (idx c.1.2.2.2.2.1 a.2) fun d=>
 Va
 (bif decide (d.1=b.2.2.2.2.1) then
 bif decide (d.2.1=b.2.2.2.2.2.1) then
 some (decide (d.2.2.1=Vc .i64 (b.2.2.2.2.2.2.2.1 - b.2.2.2.2.2.2.1)))
 else some false
 else some false)
 fun e=>
 bif e then
 Va (bif d.2.2.2.1 then some true else some !c.2.1.2.2.2.2.2.2.1) fun f=>
 bif f then some (.inr (.inr (0:Int))) else some (.inl ((29:Int),Vc .i64 (a.2+(1:Int))))
 else some (.inl (a.1,Vc .i64 (a.2+(1:Int))))
 else some (.inr (.inl a.1)))
 ((18:Int),(0:Int)))
 fun g=>Vh (fun h=>some h) (fun i=>some i) g
def F47S:Tr.Spec:= {args:=(.cons (.pd Wi) .nil),res:=(.cons (.pd ZA) .nil),fns:=[],α:=El ZA,f:=fun x=>F47 x.1,unp:=fun z=>(((),()),(z,()))}
theorem F47_ok:ZX Tryz.prog 212 F47S:=XG (rws:=[]) (zxs:=[]) (nt:=51) (m:=[(214,[F38E.S])]) (fn:=Tryz.f212) (hint:=(hS (hS (hS (hS (.seq (hS (.lp (en [pd 4 ZA,pd 15 Y3] [1,3,13,14]) [(.exit 0,en [pd 4 ZA] []),(.ret,en [pd 2 ZA] [])] (hS (hS (.seq (hS (.seq (.reg [(40,Y4)]) (.cnd none (.seq (.seq (.reg [(48,Y4)]) .leaf) .leaf) .leaf))) .leaf))))) .leaf)))))) (pack:=fun y=>y.2.1) Xr tab_ok ⟨⟨F38E.ok,trivial⟩,trivial⟩ fun x z h=>.trans (by kernel_rfl) h
def F32:(El Wi)->Option (El XS):=fun a=>
 Va (F38 a) fun b=>
 Va (idx a.1.2.2.1 b.2.1) fun c=>
 Va (F38 a) fun d=>Va (idx c.2.2.2.2.2.2.2.1 d.2.2.2.1) fun e=>some e
def F32E:Zm:=ZK 217 Tryz.f217 17 [F38E] .leaf (.q Wi) (.pd XS) (u1 F32)
def F41:(El Wi)->(El Y3)->Option (El Y4):=fun a b=>Va (bif !a.2.1.2.2.2.2.2.2.1 then some true else Va (idx a.1.1 b) fun c=>some c.2.2.1) fun d=>some d
def F41E:Zm:=ZK 218 Tryz.f218 18 [] (hS (.seq (.reg [(4,Y4)]) .leaf)) (.p Wi (.q Y3)) (.pd Y4) (u2 F41)
def F33:(El Wi)->Option (El XS):=fun a=>
 Va (F38 a) fun b=>
 Va (idx a.1.2.2.1 b.2.1) fun c=>
 Va (F38 a) fun d=>Va (idx c.2.2.2.2.2.2.2.1 d.2.2.1) fun e=>some e
def F33E:Zm:=ZK 245 Tryz.f245 17 [F38E] .leaf (.q Wi) (.pd XS) (u1 F33)
def F46:(El Wi)->Option (El ZA):=fun a=>
 Va (F38 a) fun b=>
 bif !b.1 then some (0:Int)
 else
 Va (idx a.1.2.2.1 b.2.1) fun c=>
 Va (idx a.1.2.1 c.2.2.2.2.1) fun i=>
 Va (F33 a) fun h=>
 Va (F32 a) fun j=>
 Va (bif !decide (h.1=b.2.2.2.2.1) then some true else some !decide (j.1=b.2.2.2.2.2.1)) fun k=>
 bif k then some (24:Int)
 else
 Va
 (bif !decide (h.2.2.1=b.2.2.2.2.2.2.1) then some true
 else some !decide (j.2.1=b.2.2.2.2.2.2.2.1))
 fun l=>
 bif l then some (10:Int)
 else
 bif c.2.2.2.2.2.2.1 then some (27:Int)
 else
 Va (bif a.2.1.2.2.2.2.2.2.1 then some !c.2.2.2.2.2.1 else some false) fun m=>
 bif m then some (29:Int)
 else
 Va (bif a.2.1.2.2.2.2.2.2.2.1 then some !i.2.2.1 else some false) fun n=>
 bif n then some (30:Int)
 else
 Va
 (bif !decide (a.2.1.2.2.2.2.2.2.2.2.1=(0:Int)) then
 Va (Zcz .i64 a.2.1.2.2.2.2.2.2.2.2.1 i.2.1) fun o=>
 some (decide (ZF .i64 o (1:Int)=(0:Int)))
 else some false)
 fun d=>
 bif d then some (31:Int)
 else
 Va (bif !b.2.2.2.2.2.2.2.2.1 then some !h.2.2.2.1 else some false) fun e=>
 bif e then some (25:Int)
 else
 Va
 (bif !b.2.2.2.2.2.2.2.2.1 then Va (F41 a b.2.2.2.2.1) fun f=>some !f
 else some false)
 fun g=>bif g then some (29:Int) else some (0:Int)
def F46S:Tr.Spec:= {args:=(.cons (.pd Wi) .nil),res:=(.cons (.pd ZA) .nil),fns:=[],α:=El ZA,f:=fun x=>F46 x.1,unp:=fun z=>(((),()),(z,()))}
theorem F46_ok:ZX Tryz.prog 213 F46S:=XG (rws:=[]) (zxs:=[]) (nt:=113) (m:=[(214,[F38E.S]),(217,[F32E.S]),(218,[F41E.S]),(245,[F33E.S])]) (fn:=Tryz.f213) (hint:=(hS (hS (hS (hS (hS (hS (.seq (.seq (.reg [(31,Y4)]) (.cnd none .leaf (.seq (.reg [(44,Y4)]) (.cnd none .leaf (hS (.cnd none .leaf (.seq (.reg [(60,Y4)]) (.cnd none .leaf (.seq (.reg [(69,Y4)]) (.cnd none .leaf (.seq (.reg [(78,Y4)]) (.cnd none .leaf (.seq (.reg [(93,Y4)]) (.cnd none .leaf (.seq (.reg [(102,Y4)]) .leaf))))))))))))))) .leaf)))))))) (pack:=fun y=>y.2.1) Xr tab_ok ⟨⟨F38E.ok,trivial⟩,⟨F32E.ok,trivial⟩,⟨F41E.ok,trivial⟩,⟨F33E.ok,trivial⟩,trivial⟩ fun x z h=>.trans (by kernel_rfl) h
def F42(a:El Wi):Option (El ZA):=Tr.untilF [F45 a,F40 a,F47 a,F46 a]
def F42S:Tr.Spec:= {args:=(.cons (.pd Wi) .nil),res:=(.cons (.pd ZA) .nil),fns:=[],α:=El ZA,f:=fun x=>F42 x.1,unp:=fun z=>(((),()),(z,()))}
theorem F42_ok:ZX Tryz.prog 167 F42S:=Tr.own_ok rfl rfl F45_ok F40_ok F47_ok F46_ok
def F35:(El Wi)->Option (El ZA):=fun a=>
 bif decide ((0:Int)<a.2.2.2.1) then some (0:Int)
 else
 Va (F38 a) fun b=>
 bif !decide (b.2.2.2.2.1=a.2.1.1) then some (24:Int)
 else
 bif b.2.2.2.2.2.2.2.2.1 then some (19:Int)
 else
 Va
 (bif !b.1 then
 bif !decide ((↑(Vb a.2.2.1):Int)=(1:Int)) then
 Va (idx a.2.2.1 (1:Int)) fun c=>
 bif c.1 then Va (idx a.2.2.1 (1:Int)) fun d=>some !decide (d.2.2.2.2.2.2.1=b.2.2.2.2.2.2.2.1)
 else some false
 else some false
 else some false)
 fun e=>
 bif e then some (10:Int)
 else
 Va
 (bif !b.1 then
 bif decide ((↑(Vb a.2.2.1):Int)=(1:Int)) then
 bif !a.2.1.2.2.2.1 then
 bif !decide (b.2.2.2.2.2.2.1=a.2.1.2.2.1) then some true
 else bif a.2.1.2.2.2.1 then some !decide (b.2.2.2.2.2.2.2.1=a.2.1.2.2.1) else some false
 else bif a.2.1.2.2.2.1 then some !decide (b.2.2.2.2.2.2.2.1=a.2.1.2.2.1) else some false
 else some false
 else some false)
 fun f=>
 bif f then some (10:Int)
 else
 Va (bif !a.2.1.2.2.2.1 then some (decide (b.2.2.2.2.2.2.1<a.2.1.2.2.1)) else some false) fun g=>
 bif g then some (10:Int)
 else
 Va
 (bif !a.2.1.2.2.2.1 then
 bif a.2.1.2.2.2.2.2.2.2.2.2.1 then
 bif b.1 then
 Va (idx a.1.1 a.2.1.1) fun h=>
 some (decide (b.2.2.2.2.2.2.1<Vc .i64 (a.2.1.2.2.1+h.2.2.2.1)))
 else some false
 else some false
 else some false)
 fun i=>bif i then some (28:Int) else some (0:Int)
def F35S:Tr.Spec:= {args:=(.cons (.pd Wi) .nil),res:=(.cons (.pd ZA) .nil),fns:=[],α:=El ZA,f:=fun x=>F35 x.1,unp:=fun z=>(((),()),(z,()))}
theorem F35_ok:ZX Tryz.prog 168 F35S:=XG (rws:=[]) (zxs:=[]) (nt:=120) (m:=[(214,[F38E.S])]) (fn:=Tryz.f168) (hint:=(hS (hS (hS (hS (.seq (hS (.cnd none .leaf (hS (.cnd none .leaf (.seq (.reg [(26,Y4)]) (.cnd none .leaf (.seq (.reg [(51,Y4)]) (.cnd none .leaf (.seq (.reg [(81,Y4)]) (.cnd none .leaf (.seq (.reg [(92,Y4)]) .leaf))))))))))) .leaf)))))) (pack:=fun y=>y.2.1) Xr tab_ok ⟨⟨F38E.ok,trivial⟩,trivial⟩ fun x z h=>.trans (by kernel_rfl) h
def F44:(El Wi)->Option (El JR):=fun a=>Va (idx a.2.2.1 (Vc .i64 (a.2.2.2.1 - (1:Int)))) fun b=>some b
def F44E:Zm:=ZK 215 Tryz.f215 10 [] .leaf (.q Wi) (.pd JR) (u1 F44)
def F39:(El Wi)->(El Y4)->Option (El Y4):=fun b f=>
 Va (F44 b) fun d=>
 Va (F38 b) fun e=>
 Va
 (run
 (fun c=>
 bif decide (c<(↑(Vb b.1.2.2.2.1):Int)) then
 Va (idx b.1.2.2.2.1 c) fun a=>
 Va
 (bif a.2.2.2.2.1==f then
 bif decide (a.1=d.2.1) then
 bif decide (a.2.1=d.2.2.2.1) then
 bif decide (a.2.2.1=e.2.1) then some (decide (a.2.2.2.1=e.2.2.1)) else some false
 else some false
 else some false
 else some false)
 fun g=>bif g then some (.inr (.inr true)) else some (.inl (Vc .i64 (c+(1:Int))))
 else some (.inr (.inl ())))
 (0:Int))
 fun h=>Vh (fun _=>some false) (fun i=>some i) h
def F39E:Zm:=ZK 216 Tryz.f216 54 [F38E,F44E] (hS (hS (.seq (hS (.lp (en [pd 17 Y3] [1,5,6,15,16]) [(.exit 0,e0),(.ret,en [pd 4 Y4] [])] (hS (hS (.seq (hS (.seq (.reg [(52,Y4)]) .leaf)) .leaf))))) .leaf))) (.p Wi (.q Y4)) (.pd Y4) (u2 F39)
def F36:(El Wi)->Option (El ZA):=fun c=>
 bif decide (c.2.2.2.1=(0:Int)) then some (0:Int)
 else
 Va (F44 c) fun b=>
 Va (F38 c) fun a=>
 bif !decide (a.2.2.2.2.1=b.2.2.2.2.2.1) then some (24:Int)
 else
 Va (bif !b.1 then some !a.1 else some false) fun d=>
 bif d then some (32:Int)
 else
 Va
 (bif a.2.2.2.2.2.2.2.2.1 then bif !b.1 then some true else Va (F39 c true) fun e=>some !e
 else some false)
 fun f=>
 bif f then some (19:Int)
 else
 Va
 (bif a.2.2.2.2.2.2.2.2.1 then some (decide (a.2.2.2.2.2.2.1<b.2.2.2.2.2.2.2.1)) else some false)
 fun g=>
 bif g then some (10:Int)
 else
 Va (bif !a.1 then some !decide (a.2.2.2.2.2.2.1=b.2.2.2.2.2.2.2.1) else some false) fun h=>
 bif h then some (10:Int) else some (0:Int)
def F36S:Tr.Spec:= {args:=(.cons (.pd Wi) .nil),res:=(.cons (.pd ZA) .nil),fns:=[],α:=El ZA,f:=fun x=>F36 x.1,unp:=fun z=>(((),()),(z,()))}
theorem F36_ok:ZX Tryz.prog 169 F36S:=XG (rws:=[]) (zxs:=[]) (nt:=61) (m:=[(214,[F38E.S]),(215,[F44E.S]),(216,[F39E.S])]) (fn:=Tryz.f169) (hint:=(hS (hS (hS (.seq (hS (.cnd none .leaf (.seq (.reg [(18,Y4)]) (.cnd none .leaf (.seq (.reg [(27,Y4)]) (.cnd none .leaf (.seq (.reg [(40,Y4)]) (.cnd none .leaf (.seq (.reg [(50,Y4)]) .leaf))))))))) .leaf))))) (pack:=fun y=>y.2.1) Xr tab_ok ⟨⟨F38E.ok,trivial⟩,⟨F44E.ok,trivial⟩,⟨F39E.ok,trivial⟩,trivial⟩ fun x z h=>.trans (by kernel_rfl) h
def F34:(El Wi)->Option (El ZA):=fun a=>
 Va
 (bif decide (a.2.2.2.1=(0:Int)) then some true
 else
 Va (F38 a) fun d=>
 bif !d.1 then some true else Va (F38 a) fun e=>some e.2.2.2.2.2.2.2.2.1)
 fun f=>
 bif f then some (0:Int)
 else
 Va (F44 a) fun b=>
 Va (F38 a) fun c=>
 bif !b.1 then bif decide (c.2.2.2.2.2.2.1<b.2.2.2.2.2.2.2.1) then some (28:Int) else some (0:Int)
 else
 Va
 (Va (idx a.1.1 c.2.2.2.2.1) fun g=>
 bif decide (Vc .i64 (b.2.2.2.2.2.2.2.1+g.2.2.2.1)<=c.2.2.2.2.2.2.1) then some true
 else
 bif decide (b.2.2.2.2.2.2.2.1<=c.2.2.2.2.2.2.1) then Va (F39 a false) fun h=>some h
 else some false)
 fun i=>bif i then some (0:Int) else some (28:Int)
def F34S:Tr.Spec:= {args:=(.cons (.pd Wi) .nil),res:=(.cons (.pd ZA) .nil),fns:=[],α:=El ZA,f:=fun x=>F34 x.1,unp:=fun z=>(((),()),(z,()))}
theorem F34_ok:ZX Tryz.prog 170 F34S:=XG (rws:=[]) (zxs:=[]) (nt:=56) (m:=[(214,[F38E.S]),(215,[F44E.S]),(216,[F39E.S])]) (fn:=Tryz.f170) (hint:=(hS (.seq (.seq (.reg [(18,Y4)]) .leaf) (hS (hS (.seq (.seq (.reg [(55,Y4)]) .leaf) .leaf)))))) (pack:=fun y=>y.2.1) Xr tab_ok ⟨⟨F38E.ok,trivial⟩,⟨F44E.ok,trivial⟩,⟨F39E.ok,trivial⟩,trivial⟩ fun x z h=>.trans (by kernel_rfl) h
def F37:(El Wi)->Option (El ZA):=fun a=>
 Va (F38 a) fun b=>
 Va
 (bif !b.1 then some true
 else
 bif decide (Vc .i64 (a.2.2.2.1+(1:Int))<(↑(Vb a.2.2.1):Int)) then
 Va (idx a.2.2.1 (Vc .i64 (a.2.2.2.1+(1:Int)))) fun c=>some c.2.2.2.2.2.2.2.2.1
 else some false)
 fun d=>
 bif d then some (0:Int)
 else
 Va (F32 a) fun e=>
 bif !e.2.2.2.2.1 then some (26:Int)
 else Va (F41 a b.2.2.2.2.2.1) fun f=>bif !f then some (29:Int) else some (0:Int)
def F37S:Tr.Spec:= {args:=(.cons (.pd Wi) .nil),res:=(.cons (.pd ZA) .nil),fns:=[],α:=El ZA,f:=fun x=>F37 x.1,unp:=fun z=>(((),()),(z,()))}
theorem F37_ok:ZX Tryz.prog 171 F37S:=XG (rws:=[]) (zxs:=[]) (nt:=37) (m:=[(214,[F38E.S]),(217,[F32E.S]),(218,[F41E.S])]) (fn:=Tryz.f171) (hint:=(hS (hS (.seq (.seq (.reg [(27,Y4)]) .leaf) .leaf)))) (pack:=fun y=>y.2.1) Xr tab_ok ⟨⟨F38E.ok,trivial⟩,⟨F32E.ok,trivial⟩,⟨F41E.ok,trivial⟩,trivial⟩ fun x z h=>.trans (by kernel_rfl) h
def F43(a:El Wi):Option (El ZA):=Tr.untilF [F42 a,F35 a,F36 a,F34 a,F37 a]
def F43S:Tr.Spec:= {args:=(.cons (.pd Wi) .nil),res:=(.cons (.pd ZA) .nil),fns:=[],α:=El ZA,f:=fun x=>F43 x.1,unp:=fun z=>(((),()),(z,()))}
theorem F43_ok:ZX Tryz.prog 116 F43S:=Tr.place_ok rfl rfl F42_ok F35_ok F36_ok F34_ok F37_ok
def F43E:Zm:=⟨116,F43S,F43_ok⟩
def F49:(El ZM)->(El Ki)->(El Xk)->Option (El Y3×El ZA):=fun d e a=>
 Va
 (run
 (fun s0=>
 bif decide (s0.2.2.2.1<(↑(Vb a.1):Int)) then
 Va (F43 s0) fun b=>
 bif !decide (b=(0:Int)) then some (.inr (.inr (s0.2.2.2.1,b)))
 else some (.inl (s0.1,s0.2.1,s0.2.2.1,Vc .i64 (s0.2.2.2.1+(1:Int)),s0.2.2.2.2))
 else some (.inr (.inl ())))
 (d,e,a.1,(0:Int),()))
 fun f=>Vh (fun _=>some ((↑(Vb a.1):Int),(0:Int))) (fun c=>some (c.1,c.2)) f
def F49E:Zm:=Kg 72 Tryz.f72 36 [F43E] (hS (hS (.seq (hS (.lp (en [(8,.var Wi (.pd Wi))] [5]) [(.exit 0,en [] [5]),(.ret,en [pd 6 Y3,pd 7 ZA] [])] .leaf)) .leaf))) (.p ZM (.p Ki (.q Xk))) (.p Y3 (.q ZA)) (u3 F49) (fun z=>(((),(),(),()),(z.1,z.2,()))) (fun y=>(y.2.1,y.2.2.1))
def F48:(El ZM)->(El Ki)->(El Xk)->Option (El ZA):=fun f b c=>
 Va (idx c.1 (Vc .i64 ((↑(Vb c.1):Int) - (1:Int)))) fun d=>
 Va
 (run
 (fun a=>
 bif decide (a.2<(↑(Vb c.1):Int)) then
 Va (idx c.1 a.2) fun e=>
 Va (bif e.1 then some !e.2.2.2.2.2.2.2.2.1 else some false) fun g=>
 bif g then some (.inl (Vc .i64 (a.1+(1:Int)),Vc .i64 (a.2+(1:Int))))
 else some (.inl (a.1,Vc .i64 (a.2+(1:Int))))
 else some (.inr a.1))
 ((0:Int),(0:Int)))
 fun h=>
 bif !decide (d.2.2.2.2.2.1=b.2.1) then some (24:Int)
 else
 Va (bif b.2.2.2.1 then some (decide (b.2.2.1<d.2.2.2.2.2.2.2.1)) else some false) fun i=>
 bif i then some (10:Int)
 else
 bif decide (b.2.2.2.2.1<h) then some (33:Int)
 else
 Va (F82 c) fun j=>
 bif decide (b.2.2.2.2.2.1<j) then some (32:Int) else Va (F78 f b c) fun k=>some k.2.2
def F48E:Zm:=ZK 73 Tryz.f73 75 [F78E,F82E] (hS (hS (hS (.seq (hS (.lp (en [pd 8 Y3,pd 25 Y3] [3,4,5,7,23,24]) [(.exit 0,en [pd 8 Y3] [3,4,5,7])] (hS (hS (.seq (hS (.seq (.reg [(35,Y4)]) .leaf)) .leaf))))) (.seq (hS (.cnd none .leaf (.seq (.reg [(45,Y4)]) .leaf))) .leaf))))) (.p ZM (.p Ki (.q Xk))) (.pd ZA) (u3 F48)
def F30:(El ZM)->(El Ki)->(El Xk)->Option (El Y3×El ZA):=fun c a b=>
 Va (F31 c a) fun e=>
 bif !decide (e=(0:Int)) then some ((0:Int),e)
 else
 bif decide ((↑(Vb b.1):Int)=(0:Int)) then bif !decide (a.1=a.2.1) then some ((0:Int),(24:Int)) else some ((0:Int),(0:Int))
 else
 Va (F49 c a b) fun d=>
 bif !decide (d.2=(0:Int)) then some (d.1,d.2)
 else
 Va (F48 c a b) fun f=>
 bif !decide (f=(0:Int)) then some (Vc .i64 ((↑(Vb b.1):Int) - (1:Int)),f) else some ((0:Int),(0:Int))
def F30E:Zm:=Kg 31 Tryz.f31 47 [F31E,F49E,F48E] .leaf (.p ZM (.p Ki (.q Xk))) (.p Y3 (.q ZA)) (u3 F30) (fun z=>(((),(),(),()),(z.1,z.2,()))) (fun y=>(y.2.1,y.2.2.1))
def F142:(El K4)->(El KP)->(El Ki)->Option (El Y4):=fun a b c=>Va (F81 c a.2.1) fun d=>Va (F104 b d) fun e=>some e
def F142E:Zm:=ZK 108 Tryz.f108 11 [F81E,F104E] .leaf (.p K4 (.cons (.ro KP) (.cons (.ro Ki) .nil))) (.pd Y4) (u3 F142)
def F172:(El YA)->((El KP×El Ki×Unit))->Option (El Y3):=fun a b=>
 Va
 (run
 (fun s0=>
 bif decide (s0<(↑(Vb a):Int)) then
 Va (idx a s0) fun c=>
 Va (F142 c b.1 b.2.1) fun d=>bif d then some (.inr (.inr s0)) else some (.inl (Vc .i64 (s0+(1:Int))))
 else some (.inr (.inl ())))
 (0:Int))
 fun e=>Vh (fun _=>some (-1:Int)) (fun f=>some f) e
def F172E:Zm:=ZK 145 Tryz.f145 19 [F142E] (hS (.seq (hS (.lp (en [pd 8 Y3] [0,1,7]) [(.exit 0,en [] [1]),(.ret,en [pd 4 Y3] [1])] .leaf)) .leaf)) (.p YA (.cons (.fn 108 (.cons (.ro KP) (.cons (.ro Ki) .nil))) .nil)) (.pd Y3) (u2 F172) (fns:=[108])
def F171:(List (El K4))->((El KP×El Ki×Unit))->Option (List (El K4)):=fun d e=>
 Va (F172 d e) fun f=>
 bif decide (f=(-1:Int)) then some d
 else
 Va
 (run
 (fun b=>
 bif decide (b.2.2<(↑(Vb b.1):Int)) then
 Va (Zo b.2.2 (Vb b.1)) fun j=>
 Va b.1[j]? fun h=>
 Va (F142 h e.1 e.2.1) fun k=>
 bif !k then
 Va (Zo b.2.1 (Vb b.1)) fun i=>
 Va b.1[i]? fun _=>
 some (.inl (Vi b.1 i h,Vc .i64 (b.2.1+(1:Int)),Vc .i64 (b.2.2+(1:Int))))
 else some (.inl (b.1,b.2.1,Vc .i64 (b.2.2+(1:Int))))
 else some (.inr (b.1,b.2.1)))
 (d,f,Vc .i64 (f+(1:Int))))
 fun c=>
 Va (sliceB (Vb c.1) (Vb c.1) (some c.2) none) fun a=>
 Va (ZD (decide (a.1+(a.2 - a.1)<=Vb c.1))) fun _=>
 Va
 (sliceB (Vb (Ve a.1 c.1++Vd (a.2 - a.1) (((([]:List (El JR)),()),((0:Int),(0:Int),(0:Int),(0:Int),(0:Int),()),([]:List (El G0)),()))++Vg (a.1+(a.2 - a.1)) c.1))
 (Vb (Ve a.1 c.1++Vd (a.2 - a.1) (((([]:List (El JR)),()),((0:Int),(0:Int),(0:Int),(0:Int),(0:Int),()),([]:List (El G0)),()))++Vg (a.1+(a.2 - a.1)) c.1)) none (some c.2))
 fun g=>some (Ve g.2 (Ve a.1 c.1++Vd (a.2 - a.1) (((([]:List (El JR)),()),((0:Int),(0:Int),(0:Int),(0:Int),(0:Int),()),([]:List (El G0)),()))++Vg (a.1+(a.2 - a.1)) c.1))
def F171E:Zm:=ZK 107 Tryz.f107 42 [F142E,F172E] (hS (hS (hS (.seq (hS (.lp (en [(0,.own K4 false),pd 5 Y3,pd 6 Y3] [1]) [(.exit 0,en [(0,.own K4 false),pd 5 Y3] [1])] .leaf)) .leaf)))) (.cons (.own K4 false) (.cons (.fn 108 (.cons (.ro KP) (.cons (.ro Ki) .nil))) .nil)) (.own K4 false) (u2 F171) (fns:=[108])
def F141:(El Ki)->(List (El K4))->(El K4)->Option (List (El K4)):=fun c a d=>
 Va (F81 c d.2.1) fun f=>
 Va
 (run
 (fun e=>
 bif decide (e<(↑(Vb a):Int)) then
 Va (Zo e (Vb a)) fun h=>
 Va a[h]? fun i=>
 Va (F81 c i.2.1) fun g=>
 Va
 (Va (Tr.eqEl.eqs (Tr.eqEl (Tr.Ty.int .i64)) g f) fun j=>
 bif j then some true else Va (F104 g f) fun k=>some k)
 fun l=>bif l then some (.inr (.inr ())) else some (.inl (Vc .i64 (e+(1:Int))))
 else some (.inr (.inl ())))
 (0:Int))
 fun m=>
 Vh
 (fun _=>
 Va (F171 a (f,c,())) fun b=>
 Va (ZD (decide (Vb b+Vb [d]<=ZE))) fun _=>some (b++[d]))
 (fun _=>some a) m
def F141E:Zm:=ZK 63 Tryz.f63 42 [F81E,F104E,F171E,F142E] (hS (hS (.seq (hS (.lp (en [pd 17 Y3] [1,3,5,7,15,16]) [(.exit 0,en [] [1,3,5,7]),(.ret,⟨[],[],[1],[(6,1)],[],[]⟩)] (hS (hS (.seq (hS (hS (.seq (.reg [(32,Y4)]) .leaf))) .leaf))))) .leaf))) (.p Ki (.cons (.own K4 false) (.q K4))) (.own K4 false) (u3 F141)
def F136:(El ZM)->(El Ki)->Option (List (El K4)):=fun f a=>
 Va (bif decide (a.1=a.2.1) then some ([]++[(([]:List (El JR)),())]) else some []) fun k=>
 Va
 (run
 (fun c=>
 bif decide (c.2<(↑(Vb f.2.2.2.2.1):Int)) then
 Va (idx f.2.2.2.2.1 c.2) fun d=>
 Va (bif decide (d.1=a.1) then some (decide (d.2.1=a.2.1)) else some false) fun l=>
 bif l then
 Va
 (ZD
 (decide
 (Vb c.1+
 Vb
 [([(false,(0:Int),(0:Int),(0:Int),d.1,d.2.1,Vc .i64 (a.2.2.1 - d.2.2.1),a.2.2.1,
 false,())],
 ())]<=
 ZE)))
 fun _=>
 some
 (.inl
 (c.1++
 [([(false,(0:Int),(0:Int),(0:Int),d.1,d.2.1,Vc .i64 (a.2.2.1 - d.2.2.1),a.2.2.1,
 false,())],
 ())],
 Vc .i64 (c.2+(1:Int))))
 else some (.inl (c.1,Vc .i64 (c.2+(1:Int))))
 else some (.inr c.1))
 (k,(0:Int)))
 fun j=>
 Va
 (run
 (fun b=>
 bif decide (b.2.2<(↑(Vb j):Int)) then
 Va (Zo b.2.2 (Vb b.2.1)) fun m=>
 Va b.2.1[m]? fun i=>
 Va (F30 f a i) fun n=>
 bif decide (n.2=(0:Int)) then
 Va (F78 f a i) fun e=>
 Va (F141 a b.1 (i,e.1,e.2.1,())) fun g=>
 some (.inl (g,b.2.1,Vc .i64 (b.2.2+(1:Int))))
 else some (.inl (b.1,b.2.1,Vc .i64 (b.2.2+(1:Int))))
 else some (.inr b.1))
 ([],j,(0:Int)))
 fun h=>some h
def F136E:Zm:=ZK 61 Tryz.f61 94 [F30E,F78E,F141E] (hS (hS (.seq (hS (.cnd (some ((en [] [2,3]),[(.normal,en [(5,.own Xk false)] [2,3])])) .leaf .leaf)) (.seq (hS (.lp (en [(5,.own Xk false),pd 28 Y3] [2,3,26,27]) [(.exit 0,en [(5,.own Xk false)] [2,3])] (hS (hS (.seq (hS (.seq (.reg [(43,Y4)]) .leaf)) .leaf))))) (hS (.seq (hS (.lp (en [(8,.own K4 false),(62,.own Xk false),pd 64 Y3] [2,3,63]) [(.exit 2,en [(8,.own K4 false)] [])] .leaf)) .leaf)))))) (.p ZM (.q Ki)) (.own K4 false) (u2 F136)
def F178(a:List (El Y3)):Option (List (El Y3)):=Tr.sortI a
def F178S:Tr.Spec:= {args:=(.cons (.own Y3 true) .nil),res:=.nil,fns:=[],α:=List (El Y3),f:=fun x=>F178 x.1,unp:=fun z=>((z,()),())}
theorem F178_ok:ZX Tryz.prog 104 F178S:=Tr.sortInt_ok (ρ:=Tryz.sort104_ren) Tryz.sort104 ⟨_,Tryz.func104,rfl,rfl⟩
def F178E:Zm:=⟨104,F178S,F178_ok⟩
def F170(a:List (El Y3)):Option (List (El Y3)):=Tr.compactI a
def F170S:Tr.Spec:= {args:=(.cons (.own Y3 false) .nil),res:=(.cons (.own Y3 false) .nil),fns:=[],α:=List (El Y3),f:=fun x=>F170 x.1,unp:=fun z=>(((),()),(z,()))}
theorem F170_ok:ZX Tryz.prog 105 F170S:=Tr.compactInt_ok (ρ:=Tryz.comp105_ren) Tryz.comp105 ⟨_,Tryz.func105,rfl,rfl⟩
def F170E:Zm:=⟨105,F170S,F170_ok⟩
def F174:(List (El Y3))->Option (List (El Y3)):=fun c=>
 Va
 (run
 (fun s0=>
 bif decide (s0.2.1<s0.2.2) then
 Va (Zo s0.2.2 (Vb s0.1)) fun e=>
 Va s0.1[e]? fun b=>
 Va (Zo s0.2.1 (Vb s0.1)) fun f=>
 Va s0.1[f]? fun g=>
 Va (Zo s0.2.1 (Vb s0.1)) fun a=>
 Va s0.1[a]? fun _=>
 Va (Zo s0.2.2 (Vb (Vi s0.1 a b))) fun d=>
 Va (Vi s0.1 a b)[d]? fun _=>
 some
 (.inl (Vi (Vi s0.1 a b) d g,Vc .i64 (s0.2.1+(1:Int)),Vc .i64 (s0.2.2 - (1:Int))))
 else some (.inr s0.1))
 (c,(0:Int),Vc .i64 ((↑(Vb c):Int) - (1:Int))))
 fun h=>some h
def F174E:Zm:=Kg 106 Tryz.f106 28 [] (hS (.lp (en [(0,.own Y3 false),pd 2 Y3,pd 3 Y3] []) [(.exit 0,en [(0,.own Y3 false)] [])] .leaf)) (.cons (.own Y3 true) .nil) .nil (u1 F174) (fun z=>((z,()),())) (fun y=>y.1.1)
def F137:(El ZM)->(El Ki)->Option (El Y0):=fun b o=>
 Va
 (ZD
 (decide
 ((0:El (Tr.Ty.int .i64))<=(↑(Vb b.1):Int)/\
 (↑(Vb b.1):Int)<=(↑(Vb b.1):Int)/\(↑(Vb b.1):Int)<=(↑ZE:El (Tr.Ty.int .i64)))))
 fun _=>
 Va (Zo o.1 (Vb (Vd (Vf (↑(Vb b.1):Int)) ([]:List Int)))) fun p=>
 Va (Vd (Vf (↑(Vb b.1):Int)) ([]:List Int))[p]? fun _=>
 Va (idx (Vd (Vf (↑(Vb b.1):Int)) ([]:List Int)) (↑p:Int)) fun C=>
 Va (ZD (decide (Vb C+Vb [(0:Int)]<=ZE))) fun _=>
 Va (Zo o.1 (Vb (Vd (Vf (↑(Vb b.1):Int)) ([]:List Int)))) fun B=>
 Va (ZD (Rb (some (Vf (↑p:Int))) B)) fun _=>
 Va (Vd (Vf (↑(Vb b.1):Int)) ([]:List Int))[B]? fun _=>
 Va
 (run
 (fun c=>
 bif decide (c.2<(↑(Vb b.2.2.2.2.1):Int)) then
 Va (idx b.2.2.2.2.1 c.2) fun n=>
 bif decide (n.1=o.1) then
 Va (Zo n.2.1 (Vb c.1)) fun j=>
 Va c.1[j]? fun _=>
 Va (idx c.1 (↑j:Int)) fun l=>
 Va (ZD (decide (Vb l+Vb [n.2.2.1]<=ZE))) fun _=>
 Va (Zo n.2.1 (Vb c.1)) fun k=>
 Va (ZD (Rb (some (Vf (↑j:Int))) k)) fun _=>
 Va c.1[k]? fun _=>some (.inl (Vi c.1 k (l++[n.2.2.1]),Vc .i64 (c.2+(1:Int))))
 else some (.inl (c.1,Vc .i64 (c.2+(1:Int))))
 else some (.inr c.1))
 (Vi (Vd (Vf (↑(Vb b.1):Int)) ([]:List Int)) B (C++[(0:Int)]),(0:Int)))
 fun f=>
 Va
 (run
 (fun d=>
 bif decide (d.2<(↑(Vb b.2.2.1):Int)) then
 Va (idx b.2.2.1 d.2) fun m=>
 Va
 (run
 (fun e=>
 bif decide (e.2<(↑(Vb m.2.2.2.2.2.2.2.1):Int)) then
 Va (idx m.2.2.2.2.2.2.2.1 e.2) fun g=>
 Va (Zo g.1 (Vb f)) fun h=>
 Va f[h]? fun _=>
 Va (idx f (↑h:Int)) fun q=>
 Va
 (run
 (fun a=>
 bif decide (a.2<(↑(Vb q):Int)) then
 Va (idx f (↑h:Int)) fun r=>
 Va (Zo a.2 (Vb r)) fun s=>
 Va (idx f (↑h:Int)) fun t=>
 Va t[s]? fun i=>
 Va
 (bif decide ((0:Int)<=Vc .i64 (g.2.2.1 - i)) then
 some (decide (Vc .i64 (g.2.2.1 - i)<=o.2.2.1))
 else some false)
 fun u=>
 bif u then
 Va
 (ZD
 (decide (Vb a.1+Vb [Vc .i64 (g.2.2.1 - i)]<=ZE)))
 fun _=>
 some
 (.inl
 (a.1++[Vc .i64 (g.2.2.1 - i)],Vc .i64 (a.2+(1:Int))))
 else some (.inl (a.1,Vc .i64 (a.2+(1:Int))))
 else some (.inr a.1))
 (e.1,(0:Int)))
 fun v=>some (.inl (v,Vc .i64 (e.2+(1:Int))))
 else some (.inr e.1))
 (d.1,(0:Int)))
 fun w=>some (.inl (w,Vc .i64 (d.2+(1:Int))))
 else some (.inr d.1))
 ([],(0:Int)))
 fun x=>
 Va (F178 x) fun y=>Va (F170 y) fun z=>Va (F174 z) fun A=>some A
def F137E:Zm:=ZK 62 Tryz.f62 107 [F178E,F170E,F174E] (hS (hS (hS (.seq (hS (.lp (en [(5,.rows Y3 false),pd 34 Y3] [2,3,32,33]) [(.exit 0,en [(5,.rows Y3 false)] [2,3])] .leaf)) (hS (.seq (hS (.lp (en [(8,.own Y3 false),pd 60 Y3] [3,5,58,59]) [(.exit 2,en [(8,.own Y3 false)] [])] (hS (hS (.seq (hS (hS (.lp (en [(8,.own Y3 false),pd 67 Y3] [3,5,58,59,60,65,66]) [(.exit 4,en [(8,.own Y3 false)] [3,5,58,59,60])] (hS (hS (.seq (hS (hS (.lp (en [(8,.own Y3 false),pd 77 Y3] [3,5,12,58,59,60,65,66,67,75,76]) [(.exit 6,en [(8,.own Y3 false)] [3,5,58,59,60,65,66,67])] (hS (hS (.seq (hS (hS (.seq (.reg [(92,Y4)]) .leaf))) .leaf)))))) .leaf)))))) .leaf))))) .leaf)))))) (.p ZM (.q Ki)) (.pd Y0) (u2 F137) (rws:=[173])
def F133:(El K4)->(El K4)->(El Ki)->Option (El Y3):=fun b c a=>Va (F81 a b.2.1) fun d=>Va (F81 a c.2.1) fun e=>Va (F102 d e) fun f=>some f
def F133S:Tr.Spec:= {args:=(.cons (.pd K4) (.cons (.pd K4) (.cons (.ro Ki) .nil))),res:=(.cons (.pd Y3) .nil),fns:=[],α:=El Y3,f:=fun x=>F133 x.1 x.2.1 x.2.2.1,unp:=fun z=>(((),(),(),()),(z,()))}
theorem F133_ok:ZX Tryz.prog 65 F133S:=XG (rws:=[]) (zxs:=[]) (nt:=15) (m:=[(34,[F81E.S]),(66,[F102E.S])]) (fn:=Tryz.f65) (hint:=.leaf) (pack:=fun y=>y.2.1) Xr tab_ok ⟨⟨F81E.ok,trivial⟩,⟨F102E.ok,trivial⟩,trivial⟩ fun x z h=>.trans (by kernel_rfl) h
def F133E:Zm:=⟨65,F133S,F133_ok⟩
def F176(a:List (El K4))(b:(El Ki×Unit)):Option (List (El K4)):=Tr.sortF (fun x y=>F133 x y b.1) a
def F176S:Tr.Spec:= {args:=(.cons (.own K4 true) (.cons (.fn 65 (.cons (.ro Ki) .nil)) .nil)),res:=.nil,fns:=[65],α:=List (El K4),f:=fun x=>F176 x.1 x.2.1,unp:=fun z=>((z,((),()),()),())}
theorem F176_ok:ZX Tryz.prog 64 F176S:=Tr.sortFuncC_ok (ρ:=Tryz.sort64_ren) Tryz.sort64 rfl Tryz.isAgg62 Tryz.sizeOf62 F133_ok
def F176E:Zm:=⟨64,F176S,F176_ok⟩
def F132:(El ZM)->(El Ki)->Option (El YA×El ZA):=fun e a=>
 Va (F31 e a) fun l=>
 bif !decide (l=(0:Int)) then some ([],l)
 else
 bif !a.2.2.2.1 then some ([],(22:Int))
 else
 Va (F136 e a) fun n=>
 Va (F137 e a) fun m=>
 Va
 (run
 (fun c=>
 bif decide (c.2<(↑(Vb m):Int)) then
 Va (idx m c.2) fun o=>
 Va (F146 e (a.1,a.2.1,o,false,a.2.2.2.2)) fun f=>
 bif !decide (f.2=(0:Int)) then some (.inr (.inr ([],f.2)))
 else
 Va
 (run
 (fun b=>
 bif decide (b.2<(↑(Vb f.1):Int)) then
 Va (idx f.1 b.2) fun j=>
 Va
 (bif decide ((0:Int)<j.2.1.2.2.1) then some (decide (j.2.1.2.1<=a.2.2.1)) else some false)
 fun p=>
 bif p then Va (F141 a b.1 j) fun q=>some (.inl (q,Vc .i64 (b.2+(1:Int))))
 else some (.inl (b.1,Vc .i64 (b.2+(1:Int))))
 else some (.inr b.1))
 (c.1,(0:Int)))
 fun g=>some (.inl (g,Vc .i64 (c.2+(1:Int))))
 else some (.inr (.inl c.1)))
 (n,(0:Int)))
 fun h=>
 Vh (fun k=>Va (F176 k (a,())) fun i=>some (i,(0:Int)))
 (fun d=>some (d.1,d.2)) h
def F132E:Zm:=Kg 28 Tryz.f28 76 [F31E,F146E,F136E,F137E,F141E,F176E,F133E] (hS (hS (hS (hS (.seq (hS (.lp (en [(7,.own K4 false),pd 31 Y3] [2,3,29,30]) [(.exit 0,en [(7,.own K4 false)] [3]),(.ret,en [pd 4 YA,pd 5 ZA] [])] (hS (hS (.seq (hS (hS (hS (hS (hS (hS (.lp (en [(7,.own K4 false),pd 50 Y3] [2,3,29,30,31,48,49]) [(.exit 2,en [(7,.own K4 false)] [2,3,29,30,31])] (hS (hS (.seq (hS (.seq (.reg [(65,Y4)]) .leaf)) .leaf)))))))))) .leaf))))) .leaf))))) (.p ZM (.q Ki)) (.p YA (.q ZA)) (u2 F132) (fun z=>(((),(),()),(z.1,z.2,()))) (fun y=>(y.2.1,y.2.2.1))
def F108:(El ZM)->(El Ki)->Option (El YA×El ZA):=fun b a=>
 Va (F31 b a) fun c=>
 bif !decide (c=(0:Int)) then some ([],c)
 else bif a.2.2.2.1 then Va (F132 b a) fun d=>some (d.1,d.2) else Va (F146 b a) fun e=>some (e.1,e.2)
def F108E:Zm:=Kg 9 Tryz.f9 27 [F31E,F132E,F146E] .leaf (.p ZM (.q Ki)) (.p YA (.q ZA)) (u2 F108) (fun z=>(((),(),()),(z.1,z.2,()))) (fun y=>(y.2.1,y.2.2.1))
def F191:Option (El ZM):=some
 ([([(65:UInt8)],(0:Int),false,(0:Int),()),([(66:UInt8)],(0:Int),false,(120:Int),()),([(67:UInt8)],(0:Int),false,(0:Int),())],
 [([(82:UInt8)],(0:Int),false,())],
 [((0:Int),(0:Int),(0:Int),[(116:UInt8)],(0:Int),false,false,
 [((0:Int),(100:Int),(100:Int),true,false,()),((1:Int),(200:Int),(210:Int),true,true,()),
 ((2:Int),(500:Int),(500:Int),false,true,())],
 ()),
 ((0:Int),(0:Int),(0:Int),[(117:UInt8)],(0:Int),false,false,
 [((1:Int),(260:Int),(260:Int),true,false,()),((2:Int),(400:Int),(400:Int),false,true,())],())],
 [((0:Int),(1:Int),(1:Int),(0:Int),false,())],([]:List (El ZJ)),
 ([([(112:UInt8)],(150:Int),(1:Int),(1:Int),(0:Int),(1:Int),())],(0:Int),(0:Int),(0:Int),()),())
abbrev F191A:Pats:=.nil
abbrev F191R:Pats:=(.cons (.pd ZM) .nil)
def F191S:Tr.Spec:= {args:=F191A,res:=F191R,fns:=[],α:=El ZM,f:=fun _=>F191,unp:=fun z=>((),(z,()))}
def F191M:List (Nat×List Tr.Spec):=[]
def F191H:WL:=.leaf
theorem F191_eq:(GD (mkE tyTab mapTab pkTab [] [] F191M 23 bdTab) (HK Tryz.f23) Tryz.f23.results F191H F191A F191R (fun y=>y.2.1) (()):Option (El ZM))=F191:=by kernel_rfl
theorem F191_ok:ZX Tryz.prog 23 F191S:=XG (m:=F191M) (fn:=Tryz.f23) (hint:=F191H) (pack:=fun y=>y.2.1) Xr tab_ok trivial fun _ z h=>(F191_eq).trans h
def F188:Option (El Y4):=Va F191 fun c=>
 Va (F108 c ((0:Int),(2:Int),(0:Int),false,(2:Int),(0:Int),false,false,(0:Int),false,())) fun a=>
 Va F191 fun d=>
 Va (F108 d ((0:Int),(2:Int),(450:Int),true,(2:Int),(0:Int),false,false,(0:Int),false,())) fun b=>
 Va
 (bif decide (a.2=(0:Int)) then
 bif decide (b.2=(0:Int)) then
 bif decide ((↑(Vb a.1):Int)=(2:Int)) then
 Va (idx a.1 (0:Int)) fun e=>
 bif decide (e.2.1.2.1=(400:Int)) then
 bif decide ((↑(Vb b.1):Int)=(1:Int)) then Va (idx b.1 (0:Int)) fun f=>some (decide (f.2.1.1=(100:Int)))
 else some false
 else some false
 else some false
 else some false
 else some false)
 fun g=>some g
abbrev F188A:Pats:=.nil
abbrev F188R:Pats:=(.cons (.pd Y4) .nil)
def F188S:Tr.Spec:= {args:=F188A,res:=F188R,fns:=[],α:=El Y4,f:=fun _=>F188,unp:=fun z=>((),(z,()))}
def F188M:List (Nat×List Tr.Spec):=[(9,[F108E.S]),(23,[F191S])]
def F188H:WL:=(hS (hS (hS (.seq (.reg [(0,Y4)]) .leaf))))
theorem F188_eq:(GD (mkE tyTab mapTab pkTab [] [] F188M 49 bdTab) (HK Tryz.f7) Tryz.f7.results F188H F188A F188R (fun y=>y.2.1) (()):Option (El Y4))=F188:=by kernel_rfl
theorem F188_ok:ZX Tryz.prog 7 F188S:=XG (m:=F188M) (fn:=Tryz.f7) (hint:=F188H) (pack:=fun y=>y.2.1) Xr tab_ok ⟨⟨F108E.ok,trivial⟩,⟨F191_ok,trivial⟩,trivial⟩ fun _ z h=>(F188_eq).trans h
end
end Q

