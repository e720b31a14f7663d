/- The functions of the program as functions of Lean, and that the program computes them; printed by a program of mine. Conditions: none. -/
import Derived.Test.YtbjejlpejjnpnaaGreatFintopb
open Tr Go Go.Proofs
open Int renaming toNat ->Vf
open Go.IntKind renaming wrap ->Vc
open List renaming length ->Vb,replicate ->Vd,set ->Ve,take ->Vg,drop ->Vi
open Option renaming bind ->Va
open Sum renaming elim ->Vh
namespace Q
noncomputable section
def F107:(El Ky)->(El Ky)->Option (El Y4):=fun a b=>
 Va
 (run
 (fun s0=>
 bif decide (s0<(4:Int)) then
 Va (Zn s0 (4:Nat)) fun c=>
 Va a[c]? fun d=>
 Va (Zn s0 (4:Nat)) fun e=>
 Va b[e]? fun f=>
 bif decide (f<d) then some (.inr (.inr false)) else some (.inl (Vc .i64 (s0+(1:Int))))
 else some (.inr (.inl ())))
 (0:Int))
 fun g=>Vh (fun _=>some true) (fun h=>some h) g
def F107E:Zj:=ZG 124 Tryz.f124 17 [] (hS (.seq (hS (.lp (en [pd 6 Y3] [2,3]) [(.exit 0,e0),(.ret,en [pd 4 Y4] [])] .leaf)) .leaf)) (.p Ky (.q Ky)) (.pd Y4) (u2 F107)
def F105:(El Ky)->(El Ky)->Option (El Y4):=fun a b=>
 Va
 (Va (Tr.eqEl.eqs (Tr.eqEl (Tr.Ty.int .i64)) a b) fun c=>bif !c then Va (F107 a b) fun d=>some d else some false)
 fun e=>some e
def F105E:Zj:=ZG 82 Tryz.f82 13 [F107E] (hS (.seq (.reg [(4,Y4)]) .leaf)) (.p Ky (.q Ky)) (.pd Y4) (u2 F105)
def F104:(El RG)->(El Ky)->Option (El Y4):=fun c d=>
 Va
 (run
 (fun s0=>
 bif decide (s0.2<(↑(Vb c):Int)) then
 Va (idx c s0.2) fun e=>
 Va
 (run
 (fun a=>
 bif decide (a<(4:Int)) then
 Va (Zn a (4:Nat)) fun f=>
 Va e[f]? fun g=>
 Va (Zn a (4:Nat)) fun h=>
 Va d[h]? fun i=>
 bif decide (i<g) then some (.inr (.inl ())) else some (.inl (Vc .i64 (a+(1:Int))))
 else some (.inr (.inr ())))
 (0:Int))
 fun j=>Vh (fun _=>some (.inl (s0.1,Vc .i64 (s0.2+(1:Int))))) (fun _=>some (.inr true)) j
 else some (.inr s0.1))
 (false,(0:Int)))
 fun b=>some b
def F104E:Zj:=ZG 209 Tryz.f209 28 [] (hS (hS (hS (.seq (hS (.lp (en [pd 5 Y4,pd 11 Y3] [3,9,10]) [(.exit 0,en [pd 5 Y4] [])] (hS (hS (.seq (hS (.seq (hS (.lp (en [pd 15 Y3] [3,5,7,9,10,11]) [(.exit 1,en [] [3,5,9,10,11]),(.exit 2,e0)] .leaf)) .leaf)) .leaf))))) .leaf)))) (.p RG (.q Ky)) (.pd Y4) (u2 F104)
def F108:(List (El Ky))->(El Ky)->Option (List (El Ky)):=fun g f=>
 Va (F104 g f) fun o=>
 bif o then some g
 else
 Va
 (run
 (fun d=>
 bif decide (d.2.2<(↑(Vb g):Int)) then
 Va (Zn d.2.2 (Vb d.1)) fun p=>
 Va d.1[p]? fun m=>
 Va (F105 f m) fun q=>
 bif !q then
 Va (Zn d.2.1 (Vb d.1)) fun n=>
 Va d.1[n]? fun _=>
 some (.inl (Ve d.1 n m,Vc .i64 (d.2.1+(1:Int)),Vc .i64 (d.2.2+(1:Int))))
 else some (.inl (d.1,d.2.1,Vc .i64 (d.2.2+(1:Int))))
 else some (.inr (d.1,d.2.1)))
 (g,(0:Int),(0:Int)))
 fun c=>
 Va
 (run
 (fun h=>
 Va
 (bif decide (h<c.2) then
 Va (Zn h (Vb c.1)) fun r=>
 Va c.1[r]? fun i=>Va (F103 i f) fun j=>some (decide (j<(0:Int)))
 else some false)
 fun k=>bif k then some (.inl (Vc .i64 (h+(1:Int)))) else some (.inr h))
 (0:Int))
 fun b=>
 Va
 (ZF
 (decide
 ((0:El (Tr.Ty.int .i64))<=Vc .i64 (c.2 - b)/\
 Vc .i64 (c.2 - b)<=Vc .i64 (c.2 - b)/\
 Vc .i64 (c.2 - b)<=(↑ZC:El (Tr.Ty.int .i64)))))
 fun _=>
 Va (sliceB (Vb c.1) (Vb c.1) (some b) (some c.2)) fun a=>
 Va (Zn b (Vb c.1+(1:Nat))) fun l=>
 Va (sliceB (Vb c.1) l none (some b)) fun e=>
 Va (ZF (decide (Vb (Vg e.2 c.1)+Vb [f]<=ZC))) fun _=>
 Va
 (ZF
 (decide
 (Vb (Vg e.2 c.1++[f])+
 Vb
 (Vg
 (Min.min (Vb (Vg (a.2 - a.1) (Vi a.1 c.1)))
 (Vb (Vd (Vf (Vc .i64 (c.2 - b))) (Tr.zeroEl Ky))))
 (Vg (a.2 - a.1) (Vi a.1 c.1))++
 Vi
 (Min.min (Vb (Vg (a.2 - a.1) (Vi a.1 c.1)))
 (Vb (Vd (Vf (Vc .i64 (c.2 - b))) (Tr.zeroEl Ky))))
 (Vd (Vf (Vc .i64 (c.2 - b))) (Tr.zeroEl Ky)))<=
 ZC)))
 fun _=>
 some
 (Vg e.2 c.1++[f]++
 (Vg
 (Min.min (Vb (Vg (a.2 - a.1) (Vi a.1 c.1)))
 (Vb (Vd (Vf (Vc .i64 (c.2 - b))) (Tr.zeroEl Ky))))
 (Vg (a.2 - a.1) (Vi a.1 c.1))++
 Vi
 (Min.min (Vb (Vg (a.2 - a.1) (Vi a.1 c.1)))
 (Vb (Vd (Vf (Vc .i64 (c.2 - b))) (Tr.zeroEl Ky))))
 (Vd (Vf (Vc .i64 (c.2 - b))) (Tr.zeroEl Ky))))
def F108E:Zj:=ZG 165 Tryz.f165 64 [F103E,F105E,F104E] (hS (hS (hS (.seq (hS (.lp ⟨[(0,.own Ky false),pd 5 Y3,pd 16 Y3],[],[3,15],[(14,0)],[],[]⟩ [(.exit 0,en [(0,.own Ky false),pd 5 Y3] [3])] .leaf)) (hS (.seq (.lp (en [pd 8 Y3] [0,3,5]) [(.exit 2,en [pd 8 Y3] [0,3,5])] (.seq (.seq (.reg [(42,Y4)]) .leaf) .leaf)) .leaf)))))) (.cons (.own Ky false) (.q Ky)) (.own Ky false) (u2 F108)
def F106:(El RG)->Option (El RG):=fun a=>
 Va
 (run
 (fun s0=>
 bif decide (s0.2<(↑(Vb a):Int)) then
 Va (idx a s0.2) fun b=>Va (F108 s0.1 b) fun c=>some (.inl (c,Vc .i64 (s0.2+(1:Int))))
 else some (.inr s0.1))
 ([],(0:Int)))
 fun d=>some d
def F106E:Zj:=ZG 115 Tryz.f115 17 [F108E] (hS (hS (.seq (hS (.lp (en [(3,.own Ky false),pd 8 Y3] [6,7]) [(.exit 0,en [(3,.own Ky false)] [])] .leaf)) .leaf))) (.q RG) (.pd RG) (u1 F106)
def F175:(El ZR)->(El Jr)->Option (El Jr):=fun l c=>
 Va
 (run
 (fun s0=>
 bif decide (s0.2<(↑(Vb c):Int)) then
 Va (idx c s0.2) fun m=>
 Va (F82 l m.2.1) fun h=>
 Va (ZF (decide (Vb s0.1+Vb [h]<=ZC))) fun _=>
 some (.inl (s0.1++[h],Vc .i64 (s0.2+(1:Int))))
 else some (.inr s0.1))
 ([],(0:Int)))
 fun i=>
 Va (F106 i) fun j=>
 Va
 (run
 (fun b=>
 bif decide (b.2<(↑(Vb j):Int)) then
 Va (idx j b.2) fun n=>
 Va
 (run
 (fun a=>
 bif decide (a.2<(↑(Vb c):Int)) then
 Va (idx c a.2) fun k=>
 Va (idx i a.2) fun d=>
 Va (Tr.eqEl.eqs (Tr.eqEl (Tr.Ty.int .i64)) d n) fun e=>
 bif e then Va (ZF (decide (Vb a.1+Vb [k]<=ZC))) fun _=>some (.inr (a.1++[k]))
 else some (.inl (a.1,Vc .i64 (a.2+(1:Int))))
 else some (.inr a.1))
 (b.1,(0:Int)))
 fun f=>some (.inl (f,Vc .i64 (b.2+(1:Int))))
 else some (.inr b.1))
 ([],(0:Int)))
 fun g=>some g
def F175E:Zj:=ZG 71 Tryz.f71 54 [F82E,F106E] (hS (hS (.seq (hS (.lp (en [(5,.own Ky false),pd 15 Y3] [1,2,13,14]) [(.exit 0,en [(5,.own Ky false)] [1])] .leaf)) (hS (.seq (hS (.lp (en [(8,.own KP false),pd 30 Y3] [1,5,28,29]) [(.exit 2,en [(8,.own KP false)] [])] (hS (hS (.seq (hS (hS (.lp (en [(8,.own KP false),pd 36 Y3] [1,5,10,28,29,30,34,35]) [(.exit 4,en [(8,.own KP false)] [1,5,28,29,30])] .leaf))) .leaf))))) .leaf))))) (.p ZR (.q Jr)) (.pd Jr) (u2 F175)
def F75:(Unit)->Option (XY):=fun _=>some ((),[],(0:Int),())
def F75E:Zj:=Kd 68 Tryz.f68 8 [F173E] .leaf (.cons (.fn 69 .nil) .nil) (.cons DN .nil) (u1 F75) (fun z=>(((),()),(z,()))) (fun y=>y.2.1) (fns:=[69])
def F172:(El ZH)->(El ZR)->Option (El Jr×El Zr):=fun b a=>
 Va (F51 b a) fun d=>
 bif !decide (d.2=(0:Int)) then Va (F31 b a) fun f=>some ([],f)
 else
 bif a.2.2.2.1 then some ([],(22:Int))
 else
 Va (F19 b.2.2.2.2.2.1) fun c=>
 bif !decide (c.2=(0:Int)) then some ([],c.2)
 else
 Va (F75 ()) fun e=>
 Va
 (F182
 (d.1,
 (a.1,a.2.1,a.2.2.1,a.2.2.2.1,a.2.2.2.2.1,a.2.2.2.2.2.1,false,false,(0:Int),
 a.2.2.2.2.2.2.2.2.2),
 [],((),e.2.1,e.2.2.1,()),[],())
 c.1)
 fun g=>Va (F175 a g.2.2.2.2.1) fun h=>some (h,(0:Int))
def F172E:Zj:=Kd 29 Tryz.f29 62 [F51E,F31E,F19E,F75E,F173E,F182E,F175E] .leaf (.p ZH (.q ZR)) (.p Jr (.q Zr)) (u2 F172) (fun z=>(((),(),()),(z.1,z.2,()))) (fun y=>(y.2.1,y.2.2.1)) (rws:=[128]) (zxs:=[131])
def F38:(El Wm)->Option (El K4):=fun a=>Va (idx a.2.2.1 a.2.2.2.1) fun b=>some b
def F38E:Zj:=ZG 214 Tryz.f214 9 [] .leaf (.q Wm) (.pd K4) (u1 F38)
def F45:(El Wm)->Option (El Zr):=fun b=>
 Va (F38 b) fun a=>
 Va
 (Va (F50 a.2.2.2.2.1 (0:Int) (Vc .i64 ((↑(Vb b.1.1):Int) - (1:Int)))) fun c=>
 bif !c then some true
 else Va (F50 a.2.2.2.2.2.1 (0:Int) (Vc .i64 ((↑(Vb b.1.1):Int) - (1:Int)))) fun d=>some !d)
 fun e=>
 bif e then some (9:Int)
 else
 Va
 (bif !a.1 then
 bif !decide (a.2.1=(0:Int)) then some true
 else
 bif !decide (a.2.2.1=(0:Int)) then some true
 else bif !decide (a.2.2.2.1=(0:Int)) then some true else some a.2.2.2.2.2.2.2.2.1
 else some false)
 fun f=>
 bif f then some (9:Int)
 else
 Va
 (bif a.1 then
 Va (F50 a.2.1 (0:Int) (Vc .i64 ((↑(Vb b.1.2.2.1):Int) - (1:Int)))) fun g=>
 bif !g then some true
 else
 bif decide (a.2.2.1<(0:Int)) then some true
 else
 bif decide (a.2.2.2.1<=a.2.2.1) then some true
 else Va (idx b.1.2.2.1 a.2.1) fun h=>some (decide ((↑(Vb h.2.2.2.2.2.2.2.1):Int)<=a.2.2.2.1))
 else some false)
 fun i=>bif i then some (9:Int) else some (0:Int)
def F45S:Tr.Spec:= {args:=(.cons (.pd Wm) .nil),res:=(.cons (.pd Zr) .nil),fns:=[],α:=El Zr,f:=fun x=>F45 x.1,unp:=fun z=>(((),()),(z,()))}
theorem F45_ok:Z7 Tryz.prog 210 F45S:=Yy (rws:=[]) (zxs:=[]) (nt:=85) (m:=[(47,[F50E.S]),(214,[F38E.S])]) (fn:=Tryz.f210) (hint:=(hS (hS (hS (.seq (.seq (.reg [(23,Y4)]) .leaf) (.seq (.seq (.reg [(45,Y4)]) .leaf) (.seq (.seq (.reg [(84,Y4)]) .leaf) .leaf))))))) (pack:=fun y=>y.2.1) X5 tab_ok ⟨⟨F50E.ok,trivial⟩,⟨F38E.ok,trivial⟩,trivial⟩ fun x z h=>.trans (by kernel_rfl) h
def F40:(El Wm)->Option (El Zr):=fun b=>
 Va (F38 b) fun a=>
 Va
 (Va (F50 a.2.2.2.2.2.2.1 (0:Int) (3155932800:Int)) fun c=>
 bif !c then some true else Va (F50 a.2.2.2.2.2.2.2.1 (0:Int) (3155932800:Int)) fun d=>some !d)
 fun e=>bif e then some (10:Int) else some (0:Int)
def F40S:Tr.Spec:= {args:=(.cons (.pd Wm) .nil),res:=(.cons (.pd Zr) .nil),fns:=[],α:=El Zr,f:=fun x=>F40 x.1,unp:=fun z=>(((),()),(z,()))}
theorem F40_ok:Z7 Tryz.prog 211 F40S:=Yy (rws:=[]) (zxs:=[]) (nt:=16) (m:=[(47,[F50E.S]),(214,[F38E.S])]) (fn:=Tryz.f211) (hint:=(hS (hS (.seq (.seq (.reg [(15,Y4)]) .leaf) .leaf)))) (pack:=fun y=>y.2.1) X5 tab_ok ⟨⟨F50E.ok,trivial⟩,⟨F38E.ok,trivial⟩,trivial⟩ fun x z h=>.trans (by kernel_rfl) h
def F47:(El Wm)->Option (El Zr):=fun c=>
 Va (F38 c) fun b=>
 bif b.1 then some (0:Int)
 else
 Va
 (run
 (fun a=>
 bif decide (a.2<(↑(Vb c.1.2.2.2.2.1):Int)) then
 Va (idx c.1.2.2.2.2.1 a.2) fun d=>
 Va
 (bif decide (d.1=b.2.2.2.2.1) then
 bif decide (d.2.1=b.2.2.2.2.2.1) then
 some (decide (d.2.2.1=Vc .i64 (b.2.2.2.2.2.2.2.1 - b.2.2.2.2.2.2.1)))
 else some false
 else some false)
 fun e=>
 bif e then
 Va (bif d.2.2.2.1 then some true else some !c.2.1.2.2.2.2.2.2.1) fun f=>
 bif f then some (.inr (.inr (0:Int))) else some (.inl ((29:Int),Vc .i64 (a.2+(1:Int))))
 else some (.inl (a.1,Vc .i64 (a.2+(1:Int))))
 else some (.inr (.inl a.1)))
 ((18:Int),(0:Int)))
 fun g=>Vh (fun h=>some h) (fun i=>some i) g
def F47S:Tr.Spec:= {args:=(.cons (.pd Wm) .nil),res:=(.cons (.pd Zr) .nil),fns:=[],α:=El Zr,f:=fun x=>F47 x.1,unp:=fun z=>(((),()),(z,()))}
theorem F47_ok:Z7 Tryz.prog 212 F47S:=Yy (rws:=[]) (zxs:=[]) (nt:=51) (m:=[(214,[F38E.S])]) (fn:=Tryz.f212) (hint:=(hS (hS (hS (hS (.seq (hS (.lp (en [pd 4 Zr,pd 15 Y3] [1,3,13,14]) [(.exit 0,en [pd 4 Zr] []),(.ret,en [pd 2 Zr] [])] (hS (hS (.seq (hS (.seq (.reg [(40,Y4)]) (.cnd none (.seq (.seq (.reg [(48,Y4)]) .leaf) .leaf) .leaf))) .leaf))))) .leaf)))))) (pack:=fun y=>y.2.1) X5 tab_ok ⟨⟨F38E.ok,trivial⟩,trivial⟩ fun x z h=>.trans (by kernel_rfl) h
def F32:(El Wm)->Option (El GH):=fun a=>
 Va (F38 a) fun b=>
 Va (idx a.1.2.2.1 b.2.1) fun c=>
 Va (F38 a) fun d=>Va (idx c.2.2.2.2.2.2.2.1 d.2.2.2.1) fun e=>some e
def F32E:Zj:=ZG 217 Tryz.f217 17 [F38E] .leaf (.q Wm) (.pd GH) (u1 F32)
def F41:(El Wm)->(El Y3)->Option (El Y4):=fun a b=>Va (bif !a.2.1.2.2.2.2.2.2.1 then some true else Va (idx a.1.1 b) fun c=>some c.2.2.1) fun d=>some d
def F41E:Zj:=ZG 218 Tryz.f218 18 [] (hS (.seq (.reg [(4,Y4)]) .leaf)) (.p Wm (.q Y3)) (.pd Y4) (u2 F41)
def F33:(El Wm)->Option (El GH):=fun a=>
 Va (F38 a) fun b=>
 Va (idx a.1.2.2.1 b.2.1) fun c=>
 Va (F38 a) fun d=>Va (idx c.2.2.2.2.2.2.2.1 d.2.2.1) fun e=>some e
def F33E:Zj:=ZG 245 Tryz.f245 17 [F38E] .leaf (.q Wm) (.pd GH) (u1 F33)
def F46:(El Wm)->Option (El Zr):=fun a=>
 Va (F38 a) fun b=>
 bif !b.1 then some (0:Int)
 else
 Va (idx a.1.2.2.1 b.2.1) fun c=>
 Va (idx a.1.2.1 c.2.2.2.2.1) fun i=>
 Va (F33 a) fun h=>
 Va (F32 a) fun j=>
 Va (bif !decide (h.1=b.2.2.2.2.1) then some true else some !decide (j.1=b.2.2.2.2.2.1)) fun k=>
 bif k then some (24:Int)
 else
 Va
 (bif !decide (h.2.2.1=b.2.2.2.2.2.2.1) then some true
 else some !decide (j.2.1=b.2.2.2.2.2.2.2.1))
 fun l=>
 bif l then some (10:Int)
 else
 bif c.2.2.2.2.2.2.1 then some (27:Int)
 else
 Va (bif a.2.1.2.2.2.2.2.2.1 then some !c.2.2.2.2.2.1 else some false) fun m=>
 bif m then some (29:Int)
 else
 Va (bif a.2.1.2.2.2.2.2.2.2.1 then some !i.2.2.1 else some false) fun n=>
 bif n then some (30:Int)
 else
 Va
 (bif !decide (a.2.1.2.2.2.2.2.2.2.2.1=(0:Int)) then
 Va (Y5 .i64 a.2.1.2.2.2.2.2.2.2.2.1 i.2.1) fun o=>
 some (decide (ZB .i64 o (1:Int)=(0:Int)))
 else some false)
 fun d=>
 bif d then some (31:Int)
 else
 Va (bif !b.2.2.2.2.2.2.2.2.1 then some !h.2.2.2.1 else some false) fun e=>
 bif e then some (25:Int)
 else
 Va
 (bif !b.2.2.2.2.2.2.2.2.1 then Va (F41 a b.2.2.2.2.1) fun f=>some !f
 else some false)
 fun g=>bif g then some (29:Int) else some (0:Int)
def F46S:Tr.Spec:= {args:=(.cons (.pd Wm) .nil),res:=(.cons (.pd Zr) .nil),fns:=[],α:=El Zr,f:=fun x=>F46 x.1,unp:=fun z=>(((),()),(z,()))}
theorem F46_ok:Z7 Tryz.prog 213 F46S:=Yy (rws:=[]) (zxs:=[]) (nt:=113) (m:=[(214,[F38E.S]),(217,[F32E.S]),(218,[F41E.S]),(245,[F33E.S])]) (fn:=Tryz.f213) (hint:=(hS (hS (hS (hS (hS (hS (.seq (.seq (.reg [(31,Y4)]) (.cnd none .leaf (.seq (.reg [(44,Y4)]) (.cnd none .leaf (hS (.cnd none .leaf (.seq (.reg [(60,Y4)]) (.cnd none .leaf (.seq (.reg [(69,Y4)]) (.cnd none .leaf (.seq (.reg [(78,Y4)]) (.cnd none .leaf (.seq (.reg [(93,Y4)]) (.cnd none .leaf (.seq (.reg [(102,Y4)]) .leaf))))))))))))))) .leaf)))))))) (pack:=fun y=>y.2.1) X5 tab_ok ⟨⟨F38E.ok,trivial⟩,⟨F32E.ok,trivial⟩,⟨F41E.ok,trivial⟩,⟨F33E.ok,trivial⟩,trivial⟩ fun x z h=>.trans (by kernel_rfl) h
def F42(a:El Wm):Option (El Zr):=Tr.untilF [F45 a,F40 a,F47 a,F46 a]
def F42S:Tr.Spec:= {args:=(.cons (.pd Wm) .nil),res:=(.cons (.pd Zr) .nil),fns:=[],α:=El Zr,f:=fun x=>F42 x.1,unp:=fun z=>(((),()),(z,()))}
theorem F42_ok:Z7 Tryz.prog 167 F42S:=Tr.own_ok rfl rfl F45_ok F40_ok F47_ok F46_ok
def F35:(El Wm)->Option (El Zr):=fun a=>
 bif decide ((0:Int)<a.2.2.2.1) then some (0:Int)
 else
 Va (F38 a) fun b=>
 bif !decide (b.2.2.2.2.1=a.2.1.1) then some (24:Int)
 else
 bif b.2.2.2.2.2.2.2.2.1 then some (19:Int)
 else
 Va
 (bif !b.1 then
 bif !decide ((↑(Vb a.2.2.1):Int)=(1:Int)) then
 Va (idx a.2.2.1 (1:Int)) fun c=>
 bif c.1 then Va (idx a.2.2.1 (1:Int)) fun d=>some !decide (d.2.2.2.2.2.2.1=b.2.2.2.2.2.2.2.1)
 else some false
 else some false
 else some false)
 fun e=>
 bif e then some (10:Int)
 else
 Va
 (bif !b.1 then
 bif decide ((↑(Vb a.2.2.1):Int)=(1:Int)) then
 bif !a.2.1.2.2.2.1 then
 bif !decide (b.2.2.2.2.2.2.1=a.2.1.2.2.1) then some true
 else bif a.2.1.2.2.2.1 then some !decide (b.2.2.2.2.2.2.2.1=a.2.1.2.2.1) else some false
 else bif a.2.1.2.2.2.1 then some !decide (b.2.2.2.2.2.2.2.1=a.2.1.2.2.1) else some false
 else some false
 else some false)
 fun f=>
 bif f then some (10:Int)
 else
 Va (bif !a.2.1.2.2.2.1 then some (decide (b.2.2.2.2.2.2.1<a.2.1.2.2.1)) else some false) fun g=>
 bif g then some (10:Int)
 else
 Va
 (bif !a.2.1.2.2.2.1 then
 bif a.2.1.2.2.2.2.2.2.2.2.2.1 then
 bif b.1 then
 Va (idx a.1.1 a.2.1.1) fun h=>
 some (decide (b.2.2.2.2.2.2.1<Vc .i64 (a.2.1.2.2.1+h.2.2.2.1)))
 else some false
 else some false
 else some false)
 fun i=>bif i then some (28:Int) else some (0:Int)
def F35S:Tr.Spec:= {args:=(.cons (.pd Wm) .nil),res:=(.cons (.pd Zr) .nil),fns:=[],α:=El Zr,f:=fun x=>F35 x.1,unp:=fun z=>(((),()),(z,()))}
theorem F35_ok:Z7 Tryz.prog 168 F35S:=Yy (rws:=[]) (zxs:=[]) (nt:=120) (m:=[(214,[F38E.S])]) (fn:=Tryz.f168) (hint:=(hS (hS (hS (hS (.seq (hS (.cnd none .leaf (hS (.cnd none .leaf (.seq (.reg [(26,Y4)]) (.cnd none .leaf (.seq (.reg [(51,Y4)]) (.cnd none .leaf (.seq (.reg [(81,Y4)]) (.cnd none .leaf (.seq (.reg [(92,Y4)]) .leaf))))))))))) .leaf)))))) (pack:=fun y=>y.2.1) X5 tab_ok ⟨⟨F38E.ok,trivial⟩,trivial⟩ fun x z h=>.trans (by kernel_rfl) h
def F44:(El Wm)->Option (El K4):=fun a=>Va (idx a.2.2.1 (Vc .i64 (a.2.2.2.1 - (1:Int)))) fun b=>some b
def F44E:Zj:=ZG 215 Tryz.f215 10 [] .leaf (.q Wm) (.pd K4) (u1 F44)
def F39:(El Wm)->(El Y4)->Option (El Y4):=fun b f=>
 Va (F44 b) fun d=>
 Va (F38 b) fun e=>
 Va
 (run
 (fun c=>
 bif decide (c<(↑(Vb b.1.2.2.2.1):Int)) then
 Va (idx b.1.2.2.2.1 c) fun a=>
 Va
 (bif a.2.2.2.2.1==f then
 bif decide (a.1=d.2.1) then
 bif decide (a.2.1=d.2.2.2.1) then
 bif decide (a.2.2.1=e.2.1) then some (decide (a.2.2.2.1=e.2.2.1)) else some false
 else some false
 else some false
 else some false)
 fun g=>bif g then some (.inr (.inr true)) else some (.inl (Vc .i64 (c+(1:Int))))
 else some (.inr (.inl ())))
 (0:Int))
 fun h=>Vh (fun _=>some false) (fun i=>some i) h
def F39E:Zj:=ZG 216 Tryz.f216 54 [F38E,F44E] (hS (hS (.seq (hS (.lp (en [pd 17 Y3] [1,5,6,15,16]) [(.exit 0,e0),(.ret,en [pd 4 Y4] [])] (hS (hS (.seq (hS (.seq (.reg [(52,Y4)]) .leaf)) .leaf))))) .leaf))) (.p Wm (.q Y4)) (.pd Y4) (u2 F39)
def F36:(El Wm)->Option (El Zr):=fun c=>
 bif decide (c.2.2.2.1=(0:Int)) then some (0:Int)
 else
 Va (F44 c) fun b=>
 Va (F38 c) fun a=>
 bif !decide (a.2.2.2.2.1=b.2.2.2.2.2.1) then some (24:Int)
 else
 Va (bif !b.1 then some !a.1 else some false) fun d=>
 bif d then some (32:Int)
 else
 Va
 (bif a.2.2.2.2.2.2.2.2.1 then bif !b.1 then some true else Va (F39 c true) fun e=>some !e
 else some false)
 fun f=>
 bif f then some (19:Int)
 else
 Va
 (bif a.2.2.2.2.2.2.2.2.1 then some (decide (a.2.2.2.2.2.2.1<b.2.2.2.2.2.2.2.1)) else some false)
 fun g=>
 bif g then some (10:Int)
 else
 Va (bif !a.1 then some !decide (a.2.2.2.2.2.2.1=b.2.2.2.2.2.2.2.1) else some false) fun h=>
 bif h then some (10:Int) else some (0:Int)
def F36S:Tr.Spec:= {args:=(.cons (.pd Wm) .nil),res:=(.cons (.pd Zr) .nil),fns:=[],α:=El Zr,f:=fun x=>F36 x.1,unp:=fun z=>(((),()),(z,()))}
theorem F36_ok:Z7 Tryz.prog 169 F36S:=Yy (rws:=[]) (zxs:=[]) (nt:=61) (m:=[(214,[F38E.S]),(215,[F44E.S]),(216,[F39E.S])]) (fn:=Tryz.f169) (hint:=(hS (hS (hS (.seq (hS (.cnd none .leaf (.seq (.reg [(18,Y4)]) (.cnd none .leaf (.seq (.reg [(27,Y4)]) (.cnd none .leaf (.seq (.reg [(40,Y4)]) (.cnd none .leaf (.seq (.reg [(50,Y4)]) .leaf))))))))) .leaf))))) (pack:=fun y=>y.2.1) X5 tab_ok ⟨⟨F38E.ok,trivial⟩,⟨F44E.ok,trivial⟩,⟨F39E.ok,trivial⟩,trivial⟩ fun x z h=>.trans (by kernel_rfl) h
def F34:(El Wm)->Option (El Zr):=fun a=>
 Va
 (bif decide (a.2.2.2.1=(0:Int)) then some true
 else
 Va (F38 a) fun d=>
 bif !d.1 then some true else Va (F38 a) fun e=>some e.2.2.2.2.2.2.2.2.1)
 fun f=>
 bif f then some (0:Int)
 else
 Va (F44 a) fun b=>
 Va (F38 a) fun c=>
 bif !b.1 then bif decide (c.2.2.2.2.2.2.1<b.2.2.2.2.2.2.2.1) then some (28:Int) else some (0:Int)
 else
 Va
 (Va (idx a.1.1 c.2.2.2.2.1) fun g=>
 bif decide (Vc .i64 (b.2.2.2.2.2.2.2.1+g.2.2.2.1)<=c.2.2.2.2.2.2.1) then some true
 else
 bif decide (b.2.2.2.2.2.2.2.1<=c.2.2.2.2.2.2.1) then Va (F39 a false) fun h=>some h
 else some false)
 fun i=>bif i then some (0:Int) else some (28:Int)
def F34S:Tr.Spec:= {args:=(.cons (.pd Wm) .nil),res:=(.cons (.pd Zr) .nil),fns:=[],α:=El Zr,f:=fun x=>F34 x.1,unp:=fun z=>(((),()),(z,()))}
theorem F34_ok:Z7 Tryz.prog 170 F34S:=Yy (rws:=[]) (zxs:=[]) (nt:=56) (m:=[(214,[F38E.S]),(215,[F44E.S]),(216,[F39E.S])]) (fn:=Tryz.f170) (hint:=(hS (.seq (.seq (.reg [(18,Y4)]) .leaf) (hS (hS (.seq (.seq (.reg [(55,Y4)]) .leaf) .leaf)))))) (pack:=fun y=>y.2.1) X5 tab_ok ⟨⟨F38E.ok,trivial⟩,⟨F44E.ok,trivial⟩,⟨F39E.ok,trivial⟩,trivial⟩ fun x z h=>.trans (by kernel_rfl) h
def F37:(El Wm)->Option (El Zr):=fun a=>
 Va (F38 a) fun b=>
 Va
 (bif !b.1 then some true
 else
 bif decide (Vc .i64 (a.2.2.2.1+(1:Int))<(↑(Vb a.2.2.1):Int)) then
 Va (idx a.2.2.1 (Vc .i64 (a.2.2.2.1+(1:Int)))) fun c=>some c.2.2.2.2.2.2.2.2.1
 else some false)
 fun d=>
 bif d then some (0:Int)
 else
 Va (F32 a) fun e=>
 bif !e.2.2.2.2.1 then some (26:Int)
 else Va (F41 a b.2.2.2.2.2.1) fun f=>bif !f then some (29:Int) else some (0:Int)
def F37S:Tr.Spec:= {args:=(.cons (.pd Wm) .nil),res:=(.cons (.pd Zr) .nil),fns:=[],α:=El Zr,f:=fun x=>F37 x.1,unp:=fun z=>(((),()),(z,()))}
theorem F37_ok:Z7 Tryz.prog 171 F37S:=Yy (rws:=[]) (zxs:=[]) (nt:=37) (m:=[(214,[F38E.S]),(217,[F32E.S]),(218,[F41E.S])]) (fn:=Tryz.f171) (hint:=(hS (hS (.seq (.seq (.reg [(27,Y4)]) .leaf) .leaf)))) (pack:=fun y=>y.2.1) X5 tab_ok ⟨⟨F38E.ok,trivial⟩,⟨F32E.ok,trivial⟩,⟨F41E.ok,trivial⟩,trivial⟩ fun x z h=>.trans (by kernel_rfl) h
def F43(a:El Wm):Option (El Zr):=Tr.untilF [F42 a,F35 a,F36 a,F34 a,F37 a]
def F43S:Tr.Spec:= {args:=(.cons (.pd Wm) .nil),res:=(.cons (.pd Zr) .nil),fns:=[],α:=El Zr,f:=fun x=>F43 x.1,unp:=fun z=>(((),()),(z,()))}
theorem F43_ok:Z7 Tryz.prog 116 F43S:=Tr.place_ok rfl rfl F42_ok F35_ok F36_ok F34_ok F37_ok
def F43E:Zj:=⟨116,F43S,F43_ok⟩
def F49:(El ZH)->(El ZR)->(El KK)->Option (El Y3×El Zr):=fun d e a=>
 Va
 (run
 (fun s0=>
 bif decide (s0.2.2.2.1<(↑(Vb a.1):Int)) then
 Va (F43 s0) fun b=>
 bif !decide (b=(0:Int)) then some (.inr (.inr (s0.2.2.2.1,b)))
 else some (.inl (s0.1,s0.2.1,s0.2.2.1,Vc .i64 (s0.2.2.2.1+(1:Int)),s0.2.2.2.2))
 else some (.inr (.inl ())))
 (d,e,a.1,(0:Int),()))
 fun f=>Vh (fun _=>some ((↑(Vb a.1):Int),(0:Int))) (fun c=>some (c.1,c.2)) f
def F49E:Zj:=Kd 72 Tryz.f72 36 [F43E] (hS (hS (.seq (hS (.lp (en [(8,.var Wm (.pd Wm))] [5]) [(.exit 0,en [] [5]),(.ret,en [pd 6 Y3,pd 7 Zr] [])] .leaf)) .leaf))) (.p ZH (.p ZR (.q KK))) (.p Y3 (.q Zr)) (u3 F49) (fun z=>(((),(),(),()),(z.1,z.2,()))) (fun y=>(y.2.1,y.2.2.1))
def F48:(El ZH)->(El ZR)->(El KK)->Option (El Zr):=fun f b c=>
 Va (idx c.1 (Vc .i64 ((↑(Vb c.1):Int) - (1:Int)))) fun d=>
 Va
 (run
 (fun a=>
 bif decide (a.2<(↑(Vb c.1):Int)) then
 Va (idx c.1 a.2) fun e=>
 Va (bif e.1 then some !e.2.2.2.2.2.2.2.2.1 else some false) fun g=>
 bif g then some (.inl (Vc .i64 (a.1+(1:Int)),Vc .i64 (a.2+(1:Int))))
 else some (.inl (a.1,Vc .i64 (a.2+(1:Int))))
 else some (.inr a.1))
 ((0:Int),(0:Int)))
 fun h=>
 bif !decide (d.2.2.2.2.2.1=b.2.1) then some (24:Int)
 else
 Va (bif b.2.2.2.1 then some (decide (b.2.2.1<d.2.2.2.2.2.2.2.1)) else some false) fun i=>
 bif i then some (10:Int)
 else
 bif decide (b.2.2.2.2.1<h) then some (33:Int)
 else
 Va (F83 c) fun j=>
 bif decide (b.2.2.2.2.2.1<j) then some (32:Int) else Va (F78 f b c) fun k=>some k.2.2
def F48E:Zj:=ZG 73 Tryz.f73 75 [F78E,F83E] (hS (hS (hS (.seq (hS (.lp (en [pd 8 Y3,pd 25 Y3] [3,4,5,7,23,24]) [(.exit 0,en [pd 8 Y3] [3,4,5,7])] (hS (hS (.seq (hS (.seq (.reg [(35,Y4)]) .leaf)) .leaf))))) (.seq (hS (.cnd none .leaf (.seq (.reg [(45,Y4)]) .leaf))) .leaf))))) (.p ZH (.p ZR (.q KK))) (.pd Zr) (u3 F48)
def F30:(El ZH)->(El ZR)->(El KK)->Option (El Y3×El Zr):=fun c a b=>
 Va (F31 c a) fun e=>
 bif !decide (e=(0:Int)) then some ((0:Int),e)
 else
 bif decide ((↑(Vb b.1):Int)=(0:Int)) then bif !decide (a.1=a.2.1) then some ((0:Int),(24:Int)) else some ((0:Int),(0:Int))
 else
 Va (F49 c a b) fun d=>
 bif !decide (d.2=(0:Int)) then some (d.1,d.2)
 else
 Va (F48 c a b) fun f=>
 bif !decide (f=(0:Int)) then some (Vc .i64 ((↑(Vb b.1):Int) - (1:Int)),f) else some ((0:Int),(0:Int))
def F30E:Zj:=Kd 31 Tryz.f31 47 [F31E,F49E,F48E] .leaf (.p ZH (.p ZR (.q KK))) (.p Y3 (.q Zr)) (u3 F30) (fun z=>(((),(),(),()),(z.1,z.2,()))) (fun y=>(y.2.1,y.2.2.1))
def F169:(El KP)->(El Ky)->(El ZR)->Option (El Y4):=fun a b c=>Va (F82 c a.2.1) fun d=>Va (F105 b d) fun e=>some e
def F169E:Zj:=ZG 108 Tryz.f108 11 [F82E,F105E] .leaf (.p KP (.cons (.ro Ky) (.cons (.ro ZR) .nil))) (.pd Y4) (u3 F169)
def F198:(El Jr)->((El Ky×El ZR×Unit))->Option (El Y3):=fun a b=>
 Va
 (run
 (fun s0=>
 bif decide (s0<(↑(Vb a):Int)) then
 Va (idx a s0) fun c=>
 Va (F169 c b.1 b.2.1) fun d=>bif d then some (.inr (.inr s0)) else some (.inl (Vc .i64 (s0+(1:Int))))
 else some (.inr (.inl ())))
 (0:Int))
 fun e=>Vh (fun _=>some (-1:Int)) (fun f=>some f) e
def F198E:Zj:=ZG 145 Tryz.f145 19 [F169E] (hS (.seq (hS (.lp (en [pd 8 Y3] [0,1,7]) [(.exit 0,en [] [1]),(.ret,en [pd 4 Y3] [1])] .leaf)) .leaf)) (.p Jr (.cons (.fn 108 (.cons (.ro Ky) (.cons (.ro ZR) .nil))) .nil)) (.pd Y3) (u2 F198) (fns:=[108])
def F197:(List (El KP))->((El Ky×El ZR×Unit))->Option (List (El KP)):=fun d e=>
 Va (F198 d e) fun f=>
 bif decide (f=(-1:Int)) then some d
 else
 Va
 (run
 (fun b=>
 bif decide (b.2.2<(↑(Vb b.1):Int)) then
 Va (Zn b.2.2 (Vb b.1)) fun j=>
 Va b.1[j]? fun h=>
 Va (F169 h e.1 e.2.1) fun k=>
 bif !k then
 Va (Zn b.2.1 (Vb b.1)) fun i=>
 Va b.1[i]? fun _=>
 some (.inl (Ve b.1 i h,Vc .i64 (b.2.1+(1:Int)),Vc .i64 (b.2.2+(1:Int))))
 else some (.inl (b.1,b.2.1,Vc .i64 (b.2.2+(1:Int))))
 else some (.inr (b.1,b.2.1)))
 (d,f,Vc .i64 (f+(1:Int))))
 fun c=>
 Va (sliceB (Vb c.1) (Vb c.1) (some c.2) none) fun a=>
 Va (ZF (decide (a.1+(a.2 - a.1)<=Vb c.1))) fun _=>
 Va
 (sliceB (Vb (Vg a.1 c.1++Vd (a.2 - a.1) (((([]:List (El K4)),()),((0:Int),(0:Int),(0:Int),(0:Int),(0:Int),()),([]:List (El HB)),()))++Vi (a.1+(a.2 - a.1)) c.1))
 (Vb (Vg a.1 c.1++Vd (a.2 - a.1) (((([]:List (El K4)),()),((0:Int),(0:Int),(0:Int),(0:Int),(0:Int),()),([]:List (El HB)),()))++Vi (a.1+(a.2 - a.1)) c.1)) none (some c.2))
 fun g=>some (Vg g.2 (Vg a.1 c.1++Vd (a.2 - a.1) (((([]:List (El K4)),()),((0:Int),(0:Int),(0:Int),(0:Int),(0:Int),()),([]:List (El HB)),()))++Vi (a.1+(a.2 - a.1)) c.1))
def F197E:Zj:=ZG 107 Tryz.f107 42 [F169E,F198E] (hS (hS (hS (.seq (hS (.lp (en [(0,.own KP false),pd 5 Y3,pd 6 Y3] [1]) [(.exit 0,en [(0,.own KP false),pd 5 Y3] [1])] .leaf)) .leaf)))) (.cons (.own KP false) (.cons (.fn 108 (.cons (.ro Ky) (.cons (.ro ZR) .nil))) .nil)) (.own KP false) (u2 F197) (fns:=[108])
def F168:(El ZR)->(List (El KP))->(El KP)->Option (List (El KP)):=fun c a d=>
 Va (F82 c d.2.1) fun f=>
 Va
 (run
 (fun e=>
 bif decide (e<(↑(Vb a):Int)) then
 Va (Zn e (Vb a)) fun h=>
 Va a[h]? fun i=>
 Va (F82 c i.2.1) fun g=>
 Va
 (Va (Tr.eqEl.eqs (Tr.eqEl (Tr.Ty.int .i64)) g f) fun j=>
 bif j then some true else Va (F105 g f) fun k=>some k)
 fun l=>bif l then some (.inr (.inr ())) else some (.inl (Vc .i64 (e+(1:Int))))
 else some (.inr (.inl ())))
 (0:Int))
 fun m=>
 Vh
 (fun _=>
 Va (F197 a (f,c,())) fun b=>
 Va (ZF (decide (Vb b+Vb [d]<=ZC))) fun _=>some (b++[d]))
 (fun _=>some a) m
def F168E:Zj:=ZG 63 Tryz.f63 42 [F82E,F105E,F197E,F169E] (hS (hS (.seq (hS (.lp (en [pd 17 Y3] [1,3,5,7,15,16]) [(.exit 0,en [] [1,3,5,7]),(.ret,⟨[],[],[1],[(6,1)],[],[]⟩)] (hS (hS (.seq (hS (hS (.seq (.reg [(32,Y4)]) .leaf))) .leaf))))) .leaf))) (.p ZR (.cons (.own KP false) (.q KP))) (.own KP false) (u3 F168)
def F166:(El ZH)->(El ZR)->Option (List (El KP)):=fun f a=>
 Va (bif decide (a.1=a.2.1) then some ([]++[(([]:List (El K4)),())]) else some []) fun k=>
 Va
 (run
 (fun c=>
 bif decide (c.2<(↑(Vb f.2.2.2.2.1):Int)) then
 Va (idx f.2.2.2.2.1 c.2) fun d=>
 Va (bif decide (d.1=a.1) then some (decide (d.2.1=a.2.1)) else some false) fun l=>
 bif l then
 Va
 (ZF
 (decide
 (Vb c.1+
 Vb
 [([(false,(0:Int),(0:Int),(0:Int),d.1,d.2.1,Vc .i64 (a.2.2.1 - d.2.2.1),a.2.2.1,
 false,())],
 ())]<=
 ZC)))
 fun _=>
 some
 (.inl
 (c.1++
 [([(false,(0:Int),(0:Int),(0:Int),d.1,d.2.1,Vc .i64 (a.2.2.1 - d.2.2.1),a.2.2.1,
 false,())],
 ())],
 Vc .i64 (c.2+(1:Int))))
 else some (.inl (c.1,Vc .i64 (c.2+(1:Int))))
 else some (.inr c.1))
 (k,(0:Int)))
 fun j=>
 Va
 (run
 (fun b=>
 bif decide (b.2.2<(↑(Vb j):Int)) then
 Va (Zn b.2.2 (Vb b.2.1)) fun m=>
 Va b.2.1[m]? fun i=>
 Va (F30 f a i) fun n=>
 bif decide (n.2=(0:Int)) then
 Va (F78 f a i) fun e=>
 Va (F168 a b.1 (i,e.1,e.2.1,())) fun g=>
 some (.inl (g,b.2.1,Vc .i64 (b.2.2+(1:Int))))
 else some (.inl (b.1,b.2.1,Vc .i64 (b.2.2+(1:Int))))
 else some (.inr b.1))
 ([],j,(0:Int)))
 fun h=>some h
def F166E:Zj:=ZG 61 Tryz.f61 94 [F30E,F78E,F168E] (hS (hS (.seq (hS (.cnd (some ((en [] [2,3]),[(.normal,en [(5,.own KK false)] [2,3])])) .leaf .leaf)) (.seq (hS (.lp (en [(5,.own KK false),pd 28 Y3] [2,3,26,27]) [(.exit 0,en [(5,.own KK false)] [2,3])] (hS (hS (.seq (hS (.seq (.reg [(43,Y4)]) .leaf)) .leaf))))) (hS (.seq (hS (.lp (en [(8,.own KP false),(62,.own KK false),pd 64 Y3] [2,3,63]) [(.exit 2,en [(8,.own KP false)] [])] .leaf)) .leaf)))))) (.p ZH (.q ZR)) (.own KP false) (u2 F166)
def F202(a:List (El Y3)):Option (List (El Y3)):=Tr.sortI a
def F202S:Tr.Spec:= {args:=(.cons (.own Y3 true) .nil),res:=.nil,fns:=[],α:=List (El Y3),f:=fun x=>F202 x.1,unp:=fun z=>((z,()),())}
theorem F202_ok:Z7 Tryz.prog 104 F202S:=Tr.sortInt_ok (ρ:=Tryz.sort104_ren) Tryz.sort104 ⟨_,Tryz.func104,rfl,rfl⟩
def F202E:Zj:=⟨104,F202S,F202_ok⟩
def F196(a:List (El Y3)):Option (List (El Y3)):=Tr.compactI a
def F196S:Tr.Spec:= {args:=(.cons (.own Y3 false) .nil),res:=(.cons (.own Y3 false) .nil),fns:=[],α:=List (El Y3),f:=fun x=>F196 x.1,unp:=fun z=>(((),()),(z,()))}
theorem F196_ok:Z7 Tryz.prog 105 F196S:=Tr.compactInt_ok (ρ:=Tryz.comp105_ren) Tryz.comp105 ⟨_,Tryz.func105,rfl,rfl⟩
def F196E:Zj:=⟨105,F196S,F196_ok⟩
def F199:(List (El Y3))->Option (List (El Y3)):=fun c=>
 Va
 (run
 (fun s0=>
 bif decide (s0.2.1<s0.2.2) then
 Va (Zn s0.2.2 (Vb s0.1)) fun e=>
 Va s0.1[e]? fun b=>
 Va (Zn s0.2.1 (Vb s0.1)) fun f=>
 Va s0.1[f]? fun g=>
 Va (Zn s0.2.1 (Vb s0.1)) fun a=>
 Va s0.1[a]? fun _=>
 Va (Zn s0.2.2 (Vb (Ve s0.1 a b))) fun d=>
 Va (Ve s0.1 a b)[d]? fun _=>
 some
 (.inl (Ve (Ve s0.1 a b) d g,Vc .i64 (s0.2.1+(1:Int)),Vc .i64 (s0.2.2 - (1:Int))))
 else some (.inr s0.1))
 (c,(0:Int),Vc .i64 ((↑(Vb c):Int) - (1:Int))))
 fun h=>some h
def F199E:Zj:=Kd 106 Tryz.f106 28 [] (hS (.lp (en [(0,.own Y3 false),pd 2 Y3,pd 3 Y3] []) [(.exit 0,en [(0,.own Y3 false)] [])] .leaf)) (.cons (.own Y3 true) .nil) .nil (u1 F199) (fun z=>((z,()),())) (fun y=>y.1.1)
def F167:(El ZH)->(El ZR)->Option (El YP):=fun b o=>
 Va
 (ZF
 (decide
 ((0:El (Tr.Ty.int .i64))<=(↑(Vb b.1):Int)/\
 (↑(Vb b.1):Int)<=(↑(Vb b.1):Int)/\(↑(Vb b.1):Int)<=(↑ZC:El (Tr.Ty.int .i64)))))
 fun _=>
 Va (Zn o.1 (Vb (Vd (Vf (↑(Vb b.1):Int)) ([]:List Int)))) fun p=>
 Va (Vd (Vf (↑(Vb b.1):Int)) ([]:List Int))[p]? fun _=>
 Va (idx (Vd (Vf (↑(Vb b.1):Int)) ([]:List Int)) (↑p:Int)) fun C=>
 Va (ZF (decide (Vb C+Vb [(0:Int)]<=ZC))) fun _=>
 Va (Zn o.1 (Vb (Vd (Vf (↑(Vb b.1):Int)) ([]:List Int)))) fun B=>
 Va (ZF (D9 (some (Vf (↑p:Int))) B)) fun _=>
 Va (Vd (Vf (↑(Vb b.1):Int)) ([]:List Int))[B]? fun _=>
 Va
 (run
 (fun c=>
 bif decide (c.2<(↑(Vb b.2.2.2.2.1):Int)) then
 Va (idx b.2.2.2.2.1 c.2) fun n=>
 bif decide (n.1=o.1) then
 Va (Zn n.2.1 (Vb c.1)) fun j=>
 Va c.1[j]? fun _=>
 Va (idx c.1 (↑j:Int)) fun l=>
 Va (ZF (decide (Vb l+Vb [n.2.2.1]<=ZC))) fun _=>
 Va (Zn n.2.1 (Vb c.1)) fun k=>
 Va (ZF (D9 (some (Vf (↑j:Int))) k)) fun _=>
 Va c.1[k]? fun _=>some (.inl (Ve c.1 k (l++[n.2.2.1]),Vc .i64 (c.2+(1:Int))))
 else some (.inl (c.1,Vc .i64 (c.2+(1:Int))))
 else some (.inr c.1))
 (Ve (Vd (Vf (↑(Vb b.1):Int)) ([]:List Int)) B (C++[(0:Int)]),(0:Int)))
 fun f=>
 Va
 (run
 (fun d=>
 bif decide (d.2<(↑(Vb b.2.2.1):Int)) then
 Va (idx b.2.2.1 d.2) fun m=>
 Va
 (run
 (fun e=>
 bif decide (e.2<(↑(Vb m.2.2.2.2.2.2.2.1):Int)) then
 Va (idx m.2.2.2.2.2.2.2.1 e.2) fun g=>
 Va (Zn g.1 (Vb f)) fun h=>
 Va f[h]? fun _=>
 Va (idx f (↑h:Int)) fun q=>
 Va
 (run
 (fun a=>
 bif decide (a.2<(↑(Vb q):Int)) then
 Va (idx f (↑h:Int)) fun r=>
 Va (Zn a.2 (Vb r)) fun s=>
 Va (idx f (↑h:Int)) fun t=>
 Va t[s]? fun i=>
 Va
 (bif decide ((0:Int)<=Vc .i64 (g.2.2.1 - i)) then
 some (decide (Vc .i64 (g.2.2.1 - i)<=o.2.2.1))
 else some false)
 fun u=>
 bif u then
 Va
 (ZF
 (decide (Vb a.1+Vb [Vc .i64 (g.2.2.1 - i)]<=ZC)))
 fun _=>
 some
 (.inl
 (a.1++[Vc .i64 (g.2.2.1 - i)],Vc .i64 (a.2+(1:Int))))
 else some (.inl (a.1,Vc .i64 (a.2+(1:Int))))
 else some (.inr a.1))
 (e.1,(0:Int)))
 fun v=>some (.inl (v,Vc .i64 (e.2+(1:Int))))
 else some (.inr e.1))
 (d.1,(0:Int)))
 fun w=>some (.inl (w,Vc .i64 (d.2+(1:Int))))
 else some (.inr d.1))
 ([],(0:Int)))
 fun x=>
 Va (F202 x) fun y=>Va (F196 y) fun z=>Va (F199 z) fun A=>some A
def F167E:Zj:=ZG 62 Tryz.f62 107 [F202E,F196E,F199E] (hS (hS (hS (.seq (hS (.lp (en [(5,.rows Y3 false),pd 34 Y3] [2,3,32,33]) [(.exit 0,en [(5,.rows Y3 false)] [2,3])] .leaf)) (hS (.seq (hS (.lp (en [(8,.own Y3 false),pd 60 Y3] [3,5,58,59]) [(.exit 2,en [(8,.own Y3 false)] [])] (hS (hS (.seq (hS (hS (.lp (en [(8,.own Y3 false),pd 67 Y3] [3,5,58,59,60,65,66]) [(.exit 4,en [(8,.own Y3 false)] [3,5,58,59,60])] (hS (hS (.seq (hS (hS (.lp (en [(8,.own Y3 false),pd 77 Y3] [3,5,12,58,59,60,65,66,67,75,76]) [(.exit 6,en [(8,.own Y3 false)] [3,5,58,59,60,65,66,67])] (hS (hS (.seq (hS (hS (.seq (.reg [(92,Y4)]) .leaf))) .leaf)))))) .leaf)))))) .leaf))))) .leaf)))))) (.p ZH (.q ZR)) (.pd YP) (u2 F167) (rws:=[173])
def F165:(El KP)->(El KP)->(El ZR)->Option (El Y3):=fun b c a=>Va (F82 a b.2.1) fun d=>Va (F82 a c.2.1) fun e=>Va (F103 d e) fun f=>some f
def F165S:Tr.Spec:= {args:=(.cons (.pd KP) (.cons (.pd KP) (.cons (.ro ZR) .nil))),res:=(.cons (.pd Y3) .nil),fns:=[],α:=El Y3,f:=fun x=>F165 x.1 x.2.1 x.2.2.1,unp:=fun z=>(((),(),(),()),(z,()))}
theorem F165_ok:Z7 Tryz.prog 65 F165S:=Yy (rws:=[]) (zxs:=[]) (nt:=15) (m:=[(34,[F82E.S]),(66,[F103E.S])]) (fn:=Tryz.f65) (hint:=.leaf) (pack:=fun y=>y.2.1) X5 tab_ok ⟨⟨F82E.ok,trivial⟩,⟨F103E.ok,trivial⟩,trivial⟩ fun x z h=>.trans (by kernel_rfl) h
def F165E:Zj:=⟨65,F165S,F165_ok⟩
def F201(a:List (El KP))(b:(El ZR×Unit)):Option (List (El KP)):=Tr.sortF (fun x y=>F165 x y b.1) a
def F201S:Tr.Spec:= {args:=(.cons (.own KP true) (.cons (.fn 65 (.cons (.ro ZR) .nil)) .nil)),res:=.nil,fns:=[65],α:=List (El KP),f:=fun x=>F201 x.1 x.2.1,unp:=fun z=>((z,((),()),()),())}
theorem F201_ok:Z7 Tryz.prog 64 F201S:=Tr.sortFuncC_ok (ρ:=Tryz.sort64_ren) Tryz.sort64 rfl Tryz.isAgg62 Tryz.sizeOf62 F165_ok
def F201E:Zj:=⟨64,F201S,F201_ok⟩
def F164:(El ZH)->(El ZR)->Option (El Jr×El Zr):=fun e a=>
 Va (F31 e a) fun l=>
 bif !decide (l=(0:Int)) then some ([],l)
 else
 bif !a.2.2.2.1 then some ([],(22:Int))
 else
 Va (F166 e a) fun n=>
 Va (F167 e a) fun m=>
 Va
 (run
 (fun c=>
 bif decide (c.2<(↑(Vb m):Int)) then
 Va (idx m c.2) fun o=>
 Va (F172 e (a.1,a.2.1,o,false,a.2.2.2.2)) fun f=>
 bif !decide (f.2=(0:Int)) then some (.inr (.inr ([],f.2)))
 else
 Va
 (run
 (fun b=>
 bif decide (b.2<(↑(Vb f.1):Int)) then
 Va (idx f.1 b.2) fun j=>
 Va
 (bif decide ((0:Int)<j.2.1.2.2.1) then some (decide (j.2.1.2.1<=a.2.2.1)) else some false)
 fun p=>
 bif p then Va (F168 a b.1 j) fun q=>some (.inl (q,Vc .i64 (b.2+(1:Int))))
 else some (.inl (b.1,Vc .i64 (b.2+(1:Int))))
 else some (.inr b.1))
 (c.1,(0:Int)))
 fun g=>some (.inl (g,Vc .i64 (c.2+(1:Int))))
 else some (.inr (.inl c.1)))
 (n,(0:Int)))
 fun h=>
 Vh (fun k=>Va (F201 k (a,())) fun i=>some (i,(0:Int)))
 (fun d=>some (d.1,d.2)) h
def F164E:Zj:=Kd 28 Tryz.f28 76 [F31E,F172E,F166E,F167E,F168E,F201E,F165E] (hS (hS (hS (hS (.seq (hS (.lp (en [(7,.own KP false),pd 31 Y3] [2,3,29,30]) [(.exit 0,en [(7,.own KP false)] [3]),(.ret,en [pd 4 Jr,pd 5 Zr] [])] (hS (hS (.seq (hS (hS (hS (hS (hS (hS (.lp (en [(7,.own KP false),pd 50 Y3] [2,3,29,30,31,48,49]) [(.exit 2,en [(7,.own KP false)] [2,3,29,30,31])] (hS (hS (.seq (hS (.seq (.reg [(65,Y4)]) .leaf)) .leaf)))))))))) .leaf))))) .leaf))))) (.p ZH (.q ZR)) (.p Jr (.q Zr)) (u2 F164) (fun z=>(((),(),()),(z.1,z.2,()))) (fun y=>(y.2.1,y.2.2.1))
def F109:(El ZH)->(El ZR)->Option (El Jr×El Zr):=fun b a=>
 Va (F31 b a) fun c=>
 bif !decide (c=(0:Int)) then some ([],c)
 else bif a.2.2.2.1 then Va (F164 b a) fun d=>some (d.1,d.2) else Va (F172 b a) fun e=>some (e.1,e.2)
def F109E:Zj:=Kd 9 Tryz.f9 27 [F31E,F164E,F172E] .leaf (.p ZH (.q ZR)) (.p Jr (.q Zr)) (u2 F109) (fun z=>(((),(),()),(z.1,z.2,()))) (fun y=>(y.2.1,y.2.2.1))
def F207:Option (El ZH):=some
 ([([(65:UInt8)],(0:Int),false,(0:Int),()),([(66:UInt8)],(0:Int),false,(120:Int),()),([(67:UInt8)],(0:Int),false,(0:Int),())],
 [([(82:UInt8)],(0:Int),false,())],
 [((0:Int),(0:Int),(0:Int),[(116:UInt8)],(0:Int),false,false,
 [((0:Int),(100:Int),(100:Int),true,false,()),((1:Int),(200:Int),(210:Int),true,true,()),
 ((2:Int),(500:Int),(500:Int),false,true,())],
 ()),
 ((0:Int),(0:Int),(0:Int),[(117:UInt8)],(0:Int),false,false,
 [((1:Int),(260:Int),(260:Int),true,false,()),((2:Int),(400:Int),(400:Int),false,true,())],())],
 [((0:Int),(1:Int),(1:Int),(0:Int),false,())],([]:List (El Wh)),
 ([([(112:UInt8)],(150:Int),(1:Int),(1:Int),(0:Int),(1:Int),())],(0:Int),(0:Int),(0:Int),()),())
abbrev F207A:Pats:=.nil
abbrev F207R:Pats:=(.cons (.pd ZH) .nil)
def F207S:Tr.Spec:= {args:=F207A,res:=F207R,fns:=[],α:=El ZH,f:=fun _=>F207,unp:=fun z=>((),(z,()))}
def F207M:List (Nat×List Tr.Spec):=[]
def F207H:WN:=.leaf
theorem F207_eq:(Dk (mkE tyTab mapTab pkTab [] [] F207M 23 bdTab) (Gd Tryz.f23) Tryz.f23.results F207H F207A F207R (fun y=>y.2.1) (()):Option (El ZH))=F207:=by kernel_rfl
theorem F207_ok:Z7 Tryz.prog 23 F207S:=Yy (m:=F207M) (fn:=Tryz.f23) (hint:=F207H) (pack:=fun y=>y.2.1) X5 tab_ok trivial fun _ z h=>(F207_eq).trans h
def F137:(El ZR)->(El YR)->Option (El Jd):=fun b a=>
 bif b.2.2.2.1 then some [Vc .i64 ((0:Int) - a.1),a.2.2.1,a.2.2.2.1,a.2.2.2.2.1]
 else some [a.2.1,a.2.2.1,a.2.2.2.1,a.2.2.2.2.1]
def F137E:Zj:=ZG 16 Tryz.f16 26 [] .leaf (.p ZR (.q YR)) (.pd Jd) (u2 F137)
def F159:(El KP)->(El ZR)->(El Ky)->Option (El Y4):=fun a b c=>Va (F82 b a.2.1) fun d=>Va (Tr.eqEl.eqs (Tr.eqEl (Tr.Ty.int .i64)) d c) fun e=>some e
def F159E:Zj:=ZG 80 Tryz.f80 11 [F82E] .leaf (.p KP (.cons (.ro ZR) (.cons (.ro Ky) .nil))) (.pd Y4) (u3 F159)
def F162:(El Jr)->((El ZR×El Ky×Unit))->Option (El Y3×El Y4):=fun a b=>
 Va
 (run
 (fun s0=>
 bif decide (s0<(↑(Vb a):Int)) then
 Va (idx a s0) fun d=>
 Va (F159 d b.1 b.2.1) fun e=>
 bif e then some (.inr (.inr (s0,true))) else some (.inl (Vc .i64 (s0+(1:Int))))
 else some (.inr (.inl ())))
 (0:Int))
 fun f=>Vh (fun _=>some ((0:Int),false)) (fun c=>some (c.1,c.2)) f
def F162E:Zj:=Kd 77 Tryz.f77 20 [F159E] (hS (.seq (hS (.lp (en [pd 10 Y3] [1,8,9]) [(.exit 0,en [] [1]),(.ret,en [pd 4 Y3,pd 5 Y4] [1])] .leaf)) .leaf)) (.p Jr (.cons (.fn 80 (.cons (.ro ZR) (.cons (.ro Ky) .nil))) .nil)) (.p Y3 (.q Y4)) (u2 F162) (fun z=>(((),((),(),()),()),(z.1,z.2,()))) (fun y=>(y.2.1,y.2.2.1)) (fns:=[80])
def F160:(El KP)->(El ZR)->(El Ky)->Option (El Y4):=fun a b c=>Va (F82 b a.2.1) fun d=>Va (F105 d c) fun e=>some e
def F160E:Zj:=ZG 81 Tryz.f81 11 [F82E,F105E] .leaf (.p KP (.cons (.ro ZR) (.cons (.ro Ky) .nil))) (.pd Y4) (u3 F160)
def F163:(El Jr)->((El ZR×El Ky×Unit))->Option (El Y3×El Y4):=fun a b=>
 Va
 (run
 (fun s0=>
 bif decide (s0<(↑(Vb a):Int)) then
 Va (idx a s0) fun d=>
 Va (F160 d b.1 b.2.1) fun e=>
 bif e then some (.inr (.inr (s0,true))) else some (.inl (Vc .i64 (s0+(1:Int))))
 else some (.inr (.inl ())))
 (0:Int))
 fun f=>Vh (fun _=>some ((0:Int),false)) (fun c=>some (c.1,c.2)) f
def F163E:Zj:=Kd 77 Tryz.f77 20 [F160E] (hS (.seq (hS (.lp (en [pd 10 Y3] [1,8,9]) [(.exit 0,en [] [1]),(.ret,en [pd 4 Y3,pd 5 Y4] [1])] .leaf)) .leaf)) (.p Jr (.cons (.fn 81 (.cons (.ro ZR) (.cons (.ro Ky) .nil))) .nil)) (.p Y3 (.q Y4)) (u2 F163) (fun z=>(((),((),(),()),()),(z.1,z.2,()))) (fun y=>(y.2.1,y.2.2.1)) (fns:=[81])
def F79:(El KK)->(El KK)->Option (El Y4):=fun c d=>
 bif !decide ((↑(Vb c.1):Int)=(↑(Vb d.1):Int)) then some false
 else
 Va
 (run
 (fun s0=>
 bif decide (s0<(↑(Vb c.1):Int)) then
 Va (idx c.1 s0) fun a=>
 Va (idx d.1 s0) fun b=>
 bif
 !(a.1==b.1&&
 (decide (a.2.1=b.2.1) &&
 (decide (a.2.2.1=b.2.2.1) &&
 (decide (a.2.2.2.1=b.2.2.2.1) &&
 (decide (a.2.2.2.2.1=b.2.2.2.2.1) &&
 (decide (a.2.2.2.2.2.1=b.2.2.2.2.2.1) &&
 (decide (a.2.2.2.2.2.2.1=b.2.2.2.2.2.2.1) &&
 (decide (a.2.2.2.2.2.2.2.1=b.2.2.2.2.2.2.2.1) &&
 a.2.2.2.2.2.2.2.2.1==b.2.2.2.2.2.2.2.2.1)))))))) then
 some (.inr (.inr false))
 else some (.inl (Vc .i64 (s0+(1:Int))))
 else some (.inr (.inl ())))
 (0:Int))
 fun e=>Vh (fun _=>some true) (fun f=>some f) e
def F79E:Zj:=ZG 79 Tryz.f79 30 [] (hS (hS (.seq (hS (.lp (en [pd 17 Y3] [3,15,16]) [(.exit 0,e0),(.ret,en [pd 4 Y4] [])] .leaf)) .leaf))) (.p KK (.q KK)) (.pd Y4) (u2 F79)
def F158:(El KP)->(El KK)->Option (El Y4):=fun a b=>Va (F79 a.1 b) fun c=>some c
def F158E:Zj:=ZG 78 Tryz.f78 8 [F79E] .leaf (.p KP (.cons (.ro KK) .nil)) (.pd Y4) (u2 F158)
def F161:(El Jr)->((El KK×Unit))->Option (El Y3×El Y4):=fun a c=>
 Va
 (run
 (fun s0=>
 bif decide (s0<(↑(Vb a):Int)) then
 Va (idx a s0) fun d=>
 Va (F158 d c.1) fun e=>
 bif e then some (.inr (.inr (s0,true))) else some (.inl (Vc .i64 (s0+(1:Int))))
 else some (.inr (.inl ())))
 (0:Int))
 fun f=>Vh (fun _=>some ((0:Int),false)) (fun b=>some (b.1,b.2)) f
def F161E:Zj:=Kd 77 Tryz.f77 20 [F158E] (hS (.seq (hS (.lp (en [pd 10 Y3] [1,8,9]) [(.exit 0,en [] [1]),(.ret,en [pd 4 Y3,pd 5 Y4] [1])] .leaf)) .leaf)) (.p Jr (.cons (.fn 78 (.cons (.ro KK) .nil)) .nil)) (.p Y3 (.q Y4)) (u2 F161) (fun z=>(((),((),()),()),(z.1,z.2,()))) (fun y=>(y.2.1,y.2.2.1)) (fns:=[78])
def F157:(El ZR)->(El KK)->(El Ky)->(El Jr)->Option (El Y49×El Y4):=fun b g c a=>
 Va (F161 a (g,())) fun d=>
 bif d.2 then some (((1:Int),(0:Int),(0:Int),d.1,()),true)
 else
 Va (F162 a (b,c,())) fun e=>
 bif e.2 then some (((4:Int),(0:Int),(0:Int),e.1,()),true)
 else Va (F163 a (b,c,())) fun f=>some (((3:Int),(0:Int),(0:Int),f.1,()),f.2)
def F157E:Zj:=Kd 33 Tryz.f33 43 [F162E,F163E,F161E,F158E,F159E,F160E] .leaf (.p ZR (.p KK (.p Ky (.q Jr)))) (.p Y49 (.q Y4)) (u4 F157) (fun z=>(((),(),(),(),()),(z.1,z.2,()))) (fun y=>(y.2.1,y.2.2.1))
def F156:(El ZH)->(El ZR)->(El KK)->Option (El Y49×El Zr):=fun b a c=>
 Va (F31 b a) fun g=>
 bif !decide (g=(0:Int)) then some (((0:Int),(0:Int),(0:Int),(0:Int),()),g)
 else
 Va (F30 b a c) fun d=>
 bif !decide (d.2=(0:Int)) then some (((2:Int),d.1,d.2,(0:Int),()),(0:Int))
 else
 Va (F109 b a) fun e=>
 bif !decide (e.2=(0:Int)) then some (((0:Int),(0:Int),(0:Int),(0:Int),()),e.2)
 else
 Va (F78 b a c) fun f=>
 bif !decide (f.2.2=(0:Int)) then some (((0:Int),(0:Int),(0:Int),(0:Int),()),f.2.2)
 else
 Va (F82 a f.1) fun i=>
 Va (F157 a c i e.1) fun h=>
 bif !h.2 then some (((0:Int),(0:Int),(0:Int),(0:Int),()),(23:Int)) else some (h.1,(0:Int))
def F156E:Zj:=Kd 13 Tryz.f13 72 [F109E,F31E,F30E,F78E,F157E,F82E] .leaf (.p ZH (.p ZR (.q KK))) (.p Y49 (.q Zr)) (u3 F156) (fun z=>(((),(),(),()),(z.1,z.2,()))) (fun y=>(y.2.1,y.2.2.1))
def F205:Option (El Y4):=Va F207 fun c=>
 Va
 (F156 c ((0:Int),(2:Int),(0:Int),false,(2:Int),(0:Int),false,false,(0:Int),false,())
 ([(true,(0:Int),(0:Int),(2:Int),(0:Int),(2:Int),(100:Int),(500:Int),false,())],()))
 fun a=>
 Va F207 fun d=>
 Va
 (F156 d ((0:Int),(2:Int),(0:Int),false,(2:Int),(0:Int),false,false,(0:Int),false,())
 (Ve [(true,(0:Int),(0:Int),(2:Int),(0:Int),(2:Int),(100:Int),(500:Int),false,())] (Vf (0:Int))
 (true,(0:Int),(0:Int),(2:Int),(0:Int),(2:Int),(100:Int),(499:Int),false,()),
 ()))
 fun b=>
 Va
 (bif decide (a.2=(0:Int)) then
 bif decide (b.2=(0:Int)) then
 bif
 decide (a.1.1=(1:Int)) &&
 (decide (a.1.2.1=(0:Int)) && (decide (a.1.2.2.1=(0:Int)) &&decide (a.1.2.2.2.1=(1:Int)))) then
 some
 (decide (b.1.1=(2:Int)) &&
 (decide (b.1.2.1=(0:Int)) && (decide (b.1.2.2.1=(10:Int)) &&decide (b.1.2.2.2.1=(0:Int)))))
 else some false
 else some false
 else some false)
 fun e=>some e
abbrev F205A:Pats:=.nil
abbrev F205R:Pats:=(.cons (.pd Y4) .nil)
def F205S:Tr.Spec:= {args:=F205A,res:=F205R,fns:=[],α:=El Y4,f:=fun _=>F205,unp:=fun z=>((),(z,()))}
def F205M:List (Nat×List Tr.Spec):=[(13,[F156E.S]),(23,[F207S])]
def F205H:WN:=(hS (hS (hS (hS (hS (hS (.seq (.reg [(0,Y4)]) .leaf)))))))
theorem F205_eq:(Dk (mkE tyTab mapTab pkTab [] [] F205M 45 bdTab) (Gd Tryz.f12) Tryz.f12.results F205H F205A F205R (fun y=>y.2.1) (()):Option (El Y4))=F205:=by kernel_rfl
theorem F205_ok:Z7 Tryz.prog 12 F205S:=Yy (m:=F205M) (fn:=Tryz.f12) (hint:=F205H) (pack:=fun y=>y.2.1) X5 tab_ok ⟨⟨F156E.ok,trivial⟩,⟨F207_ok,trivial⟩,trivial⟩ fun _ z h=>(F205_eq).trans h
def F133:(El ZH)->(El K4)->Option (El Y4):=fun b a=>
 Va (bif decide (a.2.1<(0:Int)) then some true else some (decide ((↑(Vb b.2.2.1):Int)<=a.2.1))) fun c=>
 bif c then some false
 else
 Va
 (bif decide ((0:Int)<=a.2.2.1) then
 bif decide (a.2.2.1<a.2.2.2.1) then
 Va (idx b.2.2.1 a.2.1) fun d=>some (decide (a.2.2.2.1<(↑(Vb d.2.2.2.2.2.2.2.1):Int)))
 else some false
 else some false)
 fun e=>some e
def F133E:Zj:=ZG 87 Tryz.f87 39 [] (hS (.seq (.seq (.reg [(15,Y4)]) .leaf) (.seq (.reg [(4,Y4)]) .leaf))) (.p ZH (.q K4)) (.pd Y4) (u2 F133)
def F144:(El ZH)->(El ZR)->(El Y3)->Option (El Y4):=fun a b c=>Va (bif !b.2.2.2.2.2.2.1 then some true else Va (idx a.1 c) fun d=>some d.2.2.1) fun e=>some e
def F144E:Zj:=ZG 86 Tryz.f86 18 [] (hS (.seq (.reg [(6,Y4)]) .leaf)) (.p ZH (.p ZR (.q Y3))) (.pd Y4) (u3 F144) (rws:=[47])
def F153:(El ZH)->(El ZR)->(El K4)->Option (El Zr):=fun d b a=>
 Va (idx d.2.2.1 a.2.1) fun c=>
 Va (idx c.2.2.2.2.2.2.2.1 a.2.2.1) fun e=>
 Va (idx c.2.2.2.2.2.2.2.1 a.2.2.2.1) fun i=>
 Va (idx d.2.1 c.2.2.2.2.1) fun j=>
 Va (bif !decide (e.1=a.2.2.2.2.1) then some true else some !decide (i.1=a.2.2.2.2.2.1)) fun k=>
 bif k then some (24:Int)
 else
 Va
 (bif !decide (e.2.2.1=a.2.2.2.2.2.2.1) then some true
 else some !decide (i.2.1=a.2.2.2.2.2.2.2.1))
 fun l=>
 bif l then some (10:Int)
 else
 bif c.2.2.2.2.2.2.1 then some (27:Int)
 else
 Va (bif b.2.2.2.2.2.2.1 then some !c.2.2.2.2.2.1 else some false) fun m=>
 bif m then some (29:Int)
 else
 Va (bif b.2.2.2.2.2.2.2.1 then some !j.2.2.1 else some false) fun n=>
 bif n then some (30:Int)
 else
 Va
 (bif !decide (b.2.2.2.2.2.2.2.2.1=(0:Int)) then
 Va (Y5 .i64 b.2.2.2.2.2.2.2.2.1 j.2.1) fun o=>
 some (decide (ZB .i64 o (1:Int)=(0:Int)))
 else some false)
 fun p=>
 bif p then some (31:Int)
 else
 Va (bif !a.2.2.2.2.2.2.2.2.1 then some !e.2.2.2.1 else some false) fun f=>
 bif f then some (25:Int)
 else
 Va
 (bif !a.2.2.2.2.2.2.2.2.1 then Va (F144 d b a.2.2.2.2.1) fun g=>some !g else some false)
 fun h=>bif h then some (29:Int) else some (0:Int)
def F153E:Zj:=ZG 125 Tryz.f125 106 [F144E] (hS (hS (hS (hS (.seq (.seq (.reg [(46,Y4)]) .leaf) (.seq (.seq (.reg [(58,Y4)]) .leaf) (hS (.seq (.seq (.reg [(67,Y4)]) .leaf) (.seq (.seq (.reg [(74,Y4)]) .leaf) (.seq (.seq (.reg [(86,Y4)]) .leaf) (.seq (.seq (.reg [(94,Y4)]) .leaf) (.seq (.seq (.reg [(105,Y4)]) .leaf) .leaf)))))))))))) (.p ZH (.p ZR (.q K4))) (.pd Zr) (u3 F153) (rws:=[47])
def F154:(El ZH)->(El ZR)->(El K4)->Option (El Zr):=fun c d a=>
 Va
 (run
 (fun s0=>
 bif decide (s0.2<(↑(Vb c.2.2.2.2.1):Int)) then
 Va (idx c.2.2.2.2.1 s0.2) fun b=>
 Va
 (bif !decide (b.1=a.2.2.2.2.1) then some true
 else
 bif !decide (b.2.1=a.2.2.2.2.2.1) then some true
 else some !decide (b.2.2.1=Vc .i64 (a.2.2.2.2.2.2.2.1 - a.2.2.2.2.2.2.1)))
 fun e=>
 bif e then some (.inl (s0.1,Vc .i64 (s0.2+(1:Int))))
 else
 Va (bif b.2.2.2.1 then some true else some !d.2.2.2.2.2.2.1) fun f=>
 bif f then some (.inr (.inr (0:Int))) else some (.inl ((29:Int),Vc .i64 (s0.2+(1:Int))))
 else some (.inr (.inl s0.1)))
 ((18:Int),(0:Int)))
 fun g=>Vh (fun h=>some h) (fun i=>some i) g
def F154E:Zj:=ZG 126 Tryz.f126 52 [] (hS (hS (.seq (hS (.lp (en [pd 7 Zr,pd 8 Y3] [3,4,5]) [(.exit 0,en [pd 7 Zr] []),(.ret,en [pd 6 Zr] [])] (hS (.seq (hS (.seq (.seq (.reg [(43,Y4)]) .leaf) (.seq (.seq (.reg [(50,Y4)]) .leaf) .leaf))) .leaf)))) .leaf))) (.p ZH (.p ZR (.q K4))) (.pd Zr) (u3 F154) (rws:=[47])
def F151:(El ZH)->(El ZR)->(El K4)->Option (El Zr):=fun b c a=>
 Va
 (Va (F150 a.2.2.2.2.1 (0:Int) (Vc .i64 ((↑(Vb b.1):Int) - (1:Int)))) fun d=>
 bif !d then some true
 else Va (F150 a.2.2.2.2.2.1 (0:Int) (Vc .i64 ((↑(Vb b.1):Int) - (1:Int)))) fun e=>some !e)
 fun f=>
 bif f then some (9:Int)
 else
 Va
 (bif a.1 then
 Va (F133 b a) fun g=>
 bif !g then some true
 else
 bif !a.1 then
 bif !decide (a.2.1=(0:Int)) then some true
 else
 bif !decide (a.2.2.1=(0:Int)) then some true
 else bif !decide (a.2.2.2.1=(0:Int)) then some true else some a.2.2.2.2.2.2.2.2.1
 else some false
 else
 bif !a.1 then
 bif !decide (a.2.1=(0:Int)) then some true
 else
 bif !decide (a.2.2.1=(0:Int)) then some true
 else bif !decide (a.2.2.2.1=(0:Int)) then some true else some a.2.2.2.2.2.2.2.2.1
 else some false)
 fun h=>
 bif h then some (9:Int)
 else
 Va
 (Va (F150 a.2.2.2.2.2.2.1 (0:Int) (3155932800:Int)) fun i=>
 bif !i then some true else Va (F150 a.2.2.2.2.2.2.2.1 (0:Int) (3155932800:Int)) fun j=>some !j)
 fun k=>
 bif k then some (10:Int) else bif a.1 then Va (F153 b c a) fun l=>some l else Va (F154 b c a) fun m=>some m
def F151E:Zj:=ZG 83 Tryz.f83 77 [F133E,F150E,F153E,F154E] (hS (.seq (.seq (.reg [(24,Y4)]) .leaf) (.seq (.seq (.reg [(56,Y4)]) .leaf) (.seq (.seq (.reg [(66,Y4)]) .leaf) .leaf)))) (.p ZH (.p ZR (.q K4))) (.pd Zr) (u3 F151) (rws:=[47])
def F148:(El ZH)->(El ZR)->(El KK)->Option (El Zr):=fun d a c=>
 Va (idx c.1 (0:Int)) fun b=>
 bif !decide (b.2.2.2.2.1=a.1) then some (24:Int)
 else
 bif b.2.2.2.2.2.2.2.2.1 then some (19:Int)
 else
 Va
 (bif !b.1 then
 bif decide ((1:Int)<(↑(Vb c.1):Int)) then
 Va (idx c.1 (1:Int)) fun e=>
 bif e.1 then Va (idx c.1 (1:Int)) fun f=>some !decide (f.2.2.2.2.2.2.1=b.2.2.2.2.2.2.2.1)
 else some false
 else some false
 else some false)
 fun g=>
 bif g then some (10:Int)
 else
 Va
 (bif !b.1 then
 bif decide ((↑(Vb c.1):Int)=(1:Int)) then
 bif a.2.2.2.1 then
 bif !decide (b.2.2.2.2.2.2.2.1=a.2.2.1) then some true
 else bif !a.2.2.2.1 then some !decide (b.2.2.2.2.2.2.1=a.2.2.1) else some false
 else bif !a.2.2.2.1 then some !decide (b.2.2.2.2.2.2.1=a.2.2.1) else some false
 else some false
 else some false)
 fun h=>
 bif h then some (10:Int)
 else
 Va (bif !a.2.2.2.1 then some (decide (b.2.2.2.2.2.2.1<a.2.2.1)) else some false) fun i=>
 bif i then some (10:Int)
 else
 Va
 (bif a.2.2.2.2.2.2.2.2.2.1 then
 bif b.1 then
 Va (idx d.1 a.1) fun j=>
 some (decide (b.2.2.2.2.2.2.1<Vc .i64 (a.2.2.1+j.2.2.2.1)))
 else some false
 else some false)
 fun k=>bif k then some (28:Int) else some (0:Int)
def F148E:Zj:=ZG 84 Tryz.f84 108 [] (hS (hS (hS (hS (.seq (.seq (.reg [(44,Y4)]) .leaf) (.seq (.seq (.reg [(76,Y4)]) .leaf) (.seq (.seq (.reg [(86,Y4)]) .leaf) (.seq (.seq (.reg [(107,Y4)]) .leaf) .leaf)))))))) (.p ZH (.p ZR (.q KK))) (.pd Zr) (u3 F148) (rws:=[47])
def F152:(El ZH)->(El K4)->(El K4)->(El Y4)->Option (El Y4):=fun b c d e=>
 Va
 (run
 (fun s0=>
 bif decide (s0<(↑(Vb b.2.2.2.1):Int)) then
 Va (idx b.2.2.2.1 s0) fun a=>
 Va
 (bif decide (a.1=c.2.1) then
 bif decide (a.2.1=c.2.2.2.1) then
 bif decide (a.2.2.1=d.2.1) then
 bif decide (a.2.2.2.1=d.2.2.1) then some (a.2.2.2.2.1==e) else some false
 else some false
 else some false
 else some false)
 fun f=>bif f then some (.inr (.inr true)) else some (.inl (Vc .i64 (s0+(1:Int))))
 else some (.inr (.inl ())))
 (0:Int))
 fun g=>Vh (fun _=>some false) (fun h=>some h) g
def F152E:Zj:=ZG 127 Tryz.f127 55 [] (hS (.seq (hS (.lp (en [pd 9 Y3] [3,4,5,6]) [(.exit 0,e0),(.ret,en [pd 8 Y4] [])] (hS (.seq (hS (.seq (.reg [(54,Y4)]) .leaf)) .leaf)))) .leaf)) (.p ZH (.p K4 (.p K4 (.q Y4)))) (.pd Y4) (u4 F152) (rws:=[47])
def F149:(El ZH)->(El K4)->(El K4)->Option (El Zr):=fun c a b=>
 bif !decide (a.2.2.2.2.2.1=b.2.2.2.2.1) then some (24:Int)
 else
 Va (bif !a.1 then some !b.1 else some false) fun d=>
 bif d then some (32:Int)
 else
 bif b.2.2.2.2.2.2.2.2.1 then
 Va (bif !a.1 then some true else Va (F152 c a b true) fun e=>some !e) fun f=>
 bif f then some (19:Int) else bif decide (b.2.2.2.2.2.2.1<a.2.2.2.2.2.2.2.1) then some (10:Int) else some (0:Int)
 else
 bif !b.1 then bif !decide (b.2.2.2.2.2.2.1=a.2.2.2.2.2.2.2.1) then some (10:Int) else some (0:Int)
 else
 bif !a.1 then bif decide (b.2.2.2.2.2.2.1<a.2.2.2.2.2.2.2.1) then some (28:Int) else some (0:Int)
 else
 Va
 (Va (idx c.1 a.2.2.2.2.2.1) fun g=>
 bif decide (Vc .i64 (a.2.2.2.2.2.2.2.1+g.2.2.2.1)<=b.2.2.2.2.2.2.1) then some true
 else
 Va (F152 c a b false) fun h=>
 bif h then some (decide (a.2.2.2.2.2.2.2.1<=b.2.2.2.2.2.2.1)) else some false)
 fun i=>bif i then some (0:Int) else some (28:Int)
def F149E:Zj:=ZG 85 Tryz.f85 79 [F152E] (hS (hS (.seq (.seq (.reg [(19,Y4)]) .leaf) (.seq (hS (.cnd none (.seq (.seq (.reg [(31,Y4)]) .leaf) .leaf) .leaf)) (hS (hS (.seq (.seq (.reg [(78,Y4)]) .leaf) .leaf))))))) (.p ZH (.p K4 (.q K4))) (.pd Zr) (u3 F149) (rws:=[47])
def F146:(El ZH)->(El ZR)->(El KK)->(El Y3)->Option (El Zr):=fun b e c d=>
 Va (idx c.1 d) fun a=>
 Va (F151 b e a) fun g=>
 bif !decide (g=(0:Int)) then some g
 else
 Va
 (bif decide (d=(0:Int)) then Va (F148 b e c) fun i=>some i
 else Va (idx c.1 (Vc .i64 (d - (1:Int)))) fun j=>Va (F149 b j a) fun k=>some k)
 fun h=>
 bif !decide (h=(0:Int)) then some h
 else
 Va
 (bif a.1 then
 bif decide (Vc .i64 (d+(1:Int))=(↑(Vb c.1):Int)) then some true
 else Va (idx c.1 (Vc .i64 (d+(1:Int)))) fun l=>some !l.2.2.2.2.2.2.2.2.1
 else some false)
 fun m=>
 bif m then
 Va (idx b.2.2.1 a.2.1) fun n=>
 Va (idx n.2.2.2.2.2.2.2.1 a.2.2.2.1) fun o=>
 bif !o.2.2.2.2.1 then some (26:Int)
 else Va (F144 b e a.2.2.2.2.2.1) fun f=>bif !f then some (29:Int) else some (0:Int)
 else some (0:Int)
def F146E:Zj:=ZG 35 Tryz.f35 80 [F151E,F148E,F149E,F144E] (hS (hS (hS (hS (.seq (hS (.cnd (some ((en [] [3,4,5,6,9]),[(.normal,en [pd 10 Zr] [3,4,5,6,9])])) .leaf .leaf)) (hS (.seq (.seq (.reg [(60,Y4)]) .leaf) .leaf))))))) (.p ZH (.p ZR (.p KK (.q Y3)))) (.pd Zr) (u4 F146) (rws:=[47])
def F141:(El ZH)->(El K4)->Option (El Y3):=fun c b=>
 Va (idx c.2.2.1 b.2.1) fun d=>
 Va
 (run
 (fun a=>
 bif decide (a.2<=b.2.2.2.1) then
 Va (idx d.2.2.2.2.2.2.2.1 a.2) fun e=>
 Va (idx c.1 e.1) fun f=>
 Va (Hq .i64 (1:Int) f.2.1) fun g=>some (.inl (KN .i64 a.1 g,Vc .i64 (a.2+(1:Int))))
 else some (.inr a.1))
 ((0:Int),b.2.2.1))
 fun h=>some h
def F141E:Zj:=ZG 88 Tryz.f88 37 [] (hS (hS (hS (.seq (hS (.lp (en [pd 5 Y3,pd 7 Y3] [2,3,6]) [(.exit 0,en [pd 5 Y3] [])] .leaf)) .leaf)))) (.p ZH (.q K4)) (.pd Y3) (u2 F141)
def F135:(El ZH)->(El KK)->Option (El Ww×El Zr):=fun j n=>
 Va (F121 j) fun u=>
 bif !u then some ([],(21:Int))
 else
 Va
 (run
 (fun c=>
 bif decide (c.2<(↑(Vb n.1):Int)) then
 Va (idx n.1 c.2) fun d=>
 Va (bif d.1 then Va (F133 j d) fun v=>some !v else some false) fun w=>
 bif w then some (.inr (.inr ([],(9:Int))))
 else
 Va
 (bif d.2.2.2.2.2.2.2.2.1 then
 bif !d.1 then some true
 else
 bif decide (c.2=(0:Int)) then some true
 else Va (idx n.1 (Vc .i64 (c.2 - (1:Int)))) fun x=>some !x.1
 else some false)
 fun y=>
 bif y then some (.inr (.inr ([],(19:Int))))
 else
 bif !d.1 then some (.inl (c.1,Vc .i64 (c.2+(1:Int))))
 else
 Va (idx j.2.2.1 d.2.1) fun z=>
 Va (idx j.2.1 z.2.2.2.2.1) fun A=>
 Va (Hq .i64 (1:Int) A.2.1) fun s=>
 bif d.2.2.2.2.2.2.2.2.1 then
 Va (Zn (Vc .i64 ((↑(Vb c.1):Int) - (1:Int))) (Vb c.1)) fun e=>
 Va c.1[e]? fun a=>
 Va
 (Zn (Vc .i64 ((↑(Vb c.1):Int) - (1:Int)))
 (Vb (Ve c.1 e (a.1,d.2.2.2.2.2.2.2.1,a.2.2))))
 fun o=>
 Va (Ve c.1 e (a.1,d.2.2.2.2.2.2.2.1,a.2.2))[o]? fun g=>
 Va (F141 j d) fun h=>
 Va
 (Zn (Vc .i64 ((↑(Vb c.1):Int) - (1:Int)))
 (Vb (Ve c.1 e (a.1,d.2.2.2.2.2.2.2.1,a.2.2))))
 fun f=>
 Va (Ve c.1 e (a.1,d.2.2.2.2.2.2.2.1,a.2.2))[f]? fun b=>
 Va
 (Zn (Vc .i64 ((↑(Vb c.1):Int) - (1:Int)))
 (Vb
 (Ve (Ve c.1 e (a.1,d.2.2.2.2.2.2.2.1,a.2.2)) f
 (b.1,b.2.1,KN .i64 g.2.2.1 h,b.2.2.2))))
 fun p=>
 Va
 (Ve (Ve c.1 e (a.1,d.2.2.2.2.2.2.2.1,a.2.2)) f
 (b.1,b.2.1,KN .i64 g.2.2.1 h,b.2.2.2))[p]?
 fun q=>
 Va
 (Zn (Vc .i64 ((↑(Vb c.1):Int) - (1:Int)))
 (Vb
 (Ve (Ve c.1 e (a.1,d.2.2.2.2.2.2.2.1,a.2.2)) f
 (b.1,b.2.1,KN .i64 g.2.2.1 h,b.2.2.2))))
 fun k=>
 Va
 (Ve (Ve c.1 e (a.1,d.2.2.2.2.2.2.2.1,a.2.2)) f
 (b.1,b.2.1,KN .i64 g.2.2.1 h,b.2.2.2))[k]?
 fun i=>
 some
 (.inl
 (Ve
 (Ve (Ve c.1 e (a.1,d.2.2.2.2.2.2.2.1,a.2.2)) f
 (b.1,b.2.1,KN .i64 g.2.2.1 h,b.2.2.2))
 k (i.1,i.2.1,i.2.2.1,KN .i64 q.2.2.2.1 s,i.2.2.2.2),
 Vc .i64 (c.2+(1:Int))))
 else
 Va (F141 j d) fun l=>
 Va
 (ZF (decide (Vb c.1+Vb [(d.2.2.2.2.2.2.1,d.2.2.2.2.2.2.2.1,l,s,())]<=ZC)))
 fun _=>
 some
 (.inl (c.1++[(d.2.2.2.2.2.2.1,d.2.2.2.2.2.2.2.1,l,s,())],Vc .i64 (c.2+(1:Int))))
 else some (.inr (.inl c.1)))
 ([],(0:Int)))
 fun r=>Vh (fun t=>some (t,(0:Int))) (fun m=>some (m.1,m.2)) r
def F135E:Zj:=Kd 37 Tryz.f37 120 [F121E,F133E,F141E] (hS (hS (hS (.seq (hS (.lp (en [(6,.own WU false),pd 7 Y3] [2,3]) [(.exit 0,en [(6,.own WU false)] []),(.ret,en [pd 4 Ww,pd 5 Zr] [])] (hS (.seq (hS (.seq (.seq (.reg [(34,Y4)]) .leaf) (.seq (.seq (.reg [(55,Y4)]) .leaf) .leaf))) .leaf)))) .leaf)))) (.p ZH (.q KK)) (.p Ww (.q Zr)) (u2 F135) (fun z=>(((),(),()),(z.1,z.2,()))) (fun y=>(y.2.1,y.2.2.1))
def F139:(El Y3)->Option (El Y3):=fun a=>
 Va
 (run
 (fun s0=>
 bif decide (s0.2<(62:Int)) then
 Va (Y5 .i64 a s0.2) fun b=>
 bif decide (ZB .i64 b (1:Int)=(1:Int)) then
 some (.inl (Vc .i64 (s0.1+(1:Int)),Vc .i64 (s0.2+(1:Int))))
 else some (.inl (s0.1,Vc .i64 (s0.2+(1:Int))))
 else some (.inr s0.1))
 ((0:Int),(0:Int)))
 fun c=>some c
def F139E:Zj:=ZG 128 Tryz.f128 17 [] (hS (hS (.seq (hS (.lp (en [pd 3 Y3,pd 4 Y3] [0]) [(.exit 0,en [pd 3 Y3] [])] .leaf)) .leaf))) (.q Y3) (.pd Y3) (u1 F139)
def F140:(El Y3)->(El Y3)->(El Y3)->Option (El Y4):=fun a b c=>
 bif decide (b<=a) then some true
 else some (decide (Vc .u64 (Vc .u64 b - Vc .u64 a)<=Vc .u64 c))
def F140E:Zj:=ZG 129 Tryz.f129 18 [] .leaf (.p Y3 (.p Y3 (.q Y3))) (.pd Y4) (u3 F140)
def F132:(El XK)->(El Ww)->(El Y3)->(El Y3)->Option (El Y4):=fun a b c d=>
 Va
 (run
 (fun s0=>
 bif decide (s0.2.2<=d) then
 Va (idx b s0.2.2) fun f=>
 Va (idx b s0.2.2) fun g=>
 some (.inl (KN .i64 s0.1 f.2.2.1,KN .i64 s0.2.1 g.2.2.2.1,Vc .i64 (s0.2.2+(1:Int))))
 else some (.inr (s0.1,s0.2.1)))
 ((0:Int),(0:Int),c))
 fun e=>
 Va
 (bif decide (Vc .i64 (Vc .i64 (d - c)+(1:Int))<=a.2.2.1) then
 Va (F139 e.1) fun h=>
 bif decide (h<=a.2.2.2.1) then
 Va (idx b c) fun i=>
 Va (idx b d) fun j=>
 Va (F140 i.1 j.1 a.2.2.2.2.1) fun k=>
 bif k then some (decide (Tr.qandNot .i64 e.2 a.2.2.2.2.2.1=(0:Int))) else some false
 else some false
 else some false)
 fun l=>some l
def F132E:Zj:=ZG 89 Tryz.f89 68 [F139E,F140E] (hS (hS (.seq (hS (.lp (en [pd 9 Y3,pd 10 Y3,pd 11 Y3] [1,2,3,4]) [(.exit 0,en [pd 9 Y3,pd 10 Y3] [1,2,3,4])] .leaf)) (.seq (.reg [(8,Y4)]) .leaf)))) (.p XK (.p Ww (.p Y3 (.q Y3)))) (.pd Y4) (u4 F132)
def F136:(El KU)->(El XK)->(El Ww)->(El Y3)->Option (El Y3):=fun b c d a=>
 Va
 (bif decide ((0:Int)<a) then
 Va (idx d (Vc .i64 (a - (1:Int)))) fun e=>
 Va (idx d a) fun f=>Va (F140 e.2.1 f.1 b.2.2.1) fun g=>some g
 else some false)
 fun h=>bif h then some (Tr.imax (0:Int) (Vc .i64 (c.2.1 - b.2.1))) else some c.2.1
def F136E:Zj:=ZG 90 Tryz.f90 35 [F140E] (hS (.seq (.seq (.reg [(26,Y4)]) .leaf) .leaf)) (.p KU (.p XK (.p Ww (.q Y3)))) (.pd Y3) (u4 F136)
def F134:(El KU)->(El Ww)->Option (El Y3×El H6×El Y4):=fun j e=>
 Va
 (ZF
 (decide
 ((0:El (Tr.Ty.int .i64))<=Vc .i64 ((↑(Vb e):Int)+(1:Int))/\
 Vc .i64 ((↑(Vb e):Int)+(1:Int))<=Vc .i64 ((↑(Vb e):Int)+(1:Int))/\
 Vc .i64 ((↑(Vb e):Int)+(1:Int))<=(↑ZC:El (Tr.Ty.int .i64)))))
 fun _=>
 Va (Zn (↑(Vb e):Int) (Vb (Vd (Vf (Vc .i64 ((↑(Vb e):Int)+(1:Int)))) ((false,(0:Int),([]:List (El HB)),()))))) fun G=>
 Va (Vd (Vf (Vc .i64 ((↑(Vb e):Int)+(1:Int)))) ((false,(0:Int),([]:List (El HB)),())))[G]? fun H=>
 Va
 (run
 (fun c=>
 bif decide ((0:Int)<=c.2) then
 Va
 (run
 (fun b=>
 bif decide (b.2<(↑(Vb e):Int)) then
 Va (Zn (Vc .i64 (b.2+(1:Int))) (Vb b.1)) fun I=>
 Va b.1[I]? fun J=>
 bif !J.1 then some (.inl (b.1,Vc .i64 (b.2+(1:Int))))
 else
 Va
 (run
 (fun a=>
 bif decide (a.2<(↑(Vb j.1):Int)) then
 Va (idx j.1 a.2) fun K=>
 Va (F132 K e c.2 b.2) fun L=>
 bif !L then some (.inl (a.1,Vc .i64 (a.2+(1:Int))))
 else
 Va (idx j.1 a.2) fun k=>
 Va (F136 j k e c.2) fun f=>
 Va (Zn (Vc .i64 (b.2+(1:Int))) (Vb a.1)) fun l=>
 Va a.1[l]? fun g=>
 Va
 (Va (Zn c.2 (Vb a.1)) fun m=>
 Va a.1[m]? fun n=>
 bif n.1 then
 Va (Zn c.2 (Vb a.1)) fun o=>
 Va a.1[o]? fun p=>
 bif decide (p.2.1<Vc .i64 (f+g.2.1)) then some true
 else
 Va (Zn c.2 (Vb a.1)) fun q=>
 Va a.1[q]? fun r=>
 bif decide (Vc .i64 (f+g.2.1)=r.2.1) then
 Va (Zn (Vc .i64 (b.2+(1:Int))) (Vb a.1)) fun s=>
 Va a.1[s]? fun t=>
 Va (Zn c.2 (Vb a.1)) fun u=>
 Va a.1[u]? fun v=>
 some
 (decide
 ((↑(Vb v.2.2.1):Int)<=
 Vc .i64 ((1:Int)+(↑(Vb t.2.2.1):Int))))
 else some false
 else some false)
 fun w=>
 bif w then some (.inl (a.1,Vc .i64 (a.2+(1:Int))))
 else
 Va (Zn (Vc .i64 (b.2+(1:Int))) (Vb a.1)) fun x=>
 Va a.1[x]? fun h=>
 Va (ZF (decide (Vb [(a.2,c.2,b.2,f,())]+Vb h.2.2.1<=ZC)))
 fun _=>
 Va (Zn c.2 (Vb a.1)) fun i=>
 Va a.1[i]? fun _=>
 some
 (.inl
 (Ve a.1 i
 (true,Vc .i64 (f+g.2.1),[(a.2,c.2,b.2,f,())]++h.2.2.1,()),
 Vc .i64 (a.2+(1:Int))))
 else some (.inr a.1))
 (b.1,(0:Int)))
 fun y=>some (.inl (y,Vc .i64 (b.2+(1:Int))))
 else some (.inr b.1))
 (c.1,c.2))
 fun z=>some (.inl (z,Vc .i64 (c.2 - (1:Int))))
 else some (.inr c.1))
 (Ve (Vd (Vf (Vc .i64 ((↑(Vb e):Int)+(1:Int)))) ((false,(0:Int),([]:List (El HB)),()))) G (true,H.2),
 Vc .i64 ((↑(Vb e):Int) - (1:Int))))
 fun d=>
 Va (Zn (0:Int) (Vb d)) fun A=>
 Va d[A]? fun B=>
 Va (Zn (0:Int) (Vb d)) fun C=>
 Va d[C]? fun D=>Va (Zn (0:Int) (Vb d)) fun E=>Va d[E]? fun F=>some (B.2.1,D.2.2.1,F.1)
def F134E:Zj:=Kd 38 Tryz.f38 150 [F132E,F136E] (hS (hS (hS (.seq (hS (.lp (en [(7,.own DP false),pd 8 Y3] [1,2]) [(.exit 0,en [(7,.own DP false)] [])] (hS (.seq (hS (.lp (en [(7,.own DP false),pd 9 Y3] [1,2,8]) [(.exit 2,en [(7,.own DP false)] [1,2,8])] (hS (.seq (hS (hS (.lp (en [(7,.own DP false),pd 10 Y3] [1,2,8,9]) [(.exit 4,en [(7,.own DP false)] [1,2,8,9])] (hS (.seq (hS (hS (hS (.seq (.seq (.reg [(117,Y4)]) .leaf) .leaf)))) .leaf))))) .leaf)))) .leaf)))) .leaf)))) (.p KU (.q Ww)) (.p Y3 (.p H6 (.q Y4))) (u2 F134) (fun z=>(((),(),()),(z.1,z.2.1,z.2.2,()))) (fun y=>(y.2.1,y.2.2.1,y.2.2.2.1)) (rws:=[155])
def F130:(El KU)->(El Y3)->Option (El Y3):=fun a b=>bif decide ((0:Int)<a.2.2.2.1) then some (Tr.imin a.2.2.2.1 b) else some b
def F130E:Zj:=ZG 39 Tryz.f39 13 [] .leaf (.p KU (.q Y3)) (.pd Y3) (u2 F130)
def F138:(El KK)->Option (El Y3):=fun b=>
 Va
 (run
 (fun s0=>
 bif decide (s0.2<(↑(Vb b.1):Int)) then
 Va (idx b.1 s0.2) fun a=>
 Va
 (bif !a.1 then
 bif decide ((0:Int)<=a.2.2.2.2.2.2.1) then
 bif decide (a.2.2.2.2.2.2.1<=a.2.2.2.2.2.2.2.1) then
 some (decide (Vc .i64 (a.2.2.2.2.2.2.2.1 - a.2.2.2.2.2.2.1)<=(14400:Int)))
 else some false
 else some false
 else some false)
 fun c=>
 bif c then
 some
 (.inl
 (Vc .i64 (Vc .i64 (s0.1+a.2.2.2.2.2.2.2.1) - a.2.2.2.2.2.2.1),
 Vc .i64 (s0.2+(1:Int))))
 else some (.inl (s0.1,Vc .i64 (s0.2+(1:Int))))
 else some (.inr s0.1))
 ((0:Int),(0:Int)))
 fun d=>some d
def F138E:Zj:=ZG 40 Tryz.f40 49 [] (hS (hS (.seq (hS (.lp (en [pd 3 Y3,pd 4 Y3] [1]) [(.exit 0,en [pd 3 Y3] [])] (hS (.seq (hS (.seq (.reg [(40,Y4)]) .leaf)) .leaf)))) .leaf))) (.q KK) (.pd Y3) (u1 F138)
def F131:(El ZH)->(El ZR)->(El KK)->Option (El YR×El H6×El Zr):=fun c e a=>
 Va (F135 c a) fun b=>
 bif !decide (b.2=(0:Int)) then some (((0:Int),(0:Int),(0:Int),(0:Int),(0:Int),()),[],b.2)
 else
 bif decide ((8:Int)<(↑(Vb b.1):Int)) then some (((0:Int),(0:Int),(0:Int),(0:Int),(0:Int),()),[],(33:Int))
 else
 Va (F134 c.2.2.2.2.2.1 b.1) fun d=>
 bif !d.2.2 then some (((0:Int),(0:Int),(0:Int),(0:Int),(0:Int),()),[],(34:Int))
 else
 Va (F130 c.2.2.2.2.2.1 d.1) fun f=>
 Va (F138 a) fun g=>
 Va
 (bif decide ((0:Int)<(↑(Vb a.1):Int)) then
 Va (idx a.1 (0:Int)) fun h=>
 Va (idx a.1 (Vc .i64 ((↑(Vb a.1):Int) - (1:Int)))) fun i=>
 some (h.2.2.2.2.2.2.1,i.2.2.2.2.2.2.2.1,(↑(Vb b.1):Int),f,g,())
 else some (e.2.2.1,e.2.2.1,(↑(Vb b.1):Int),f,g,()))
 fun j=>some (j,d.2.1,(0:Int))
def F131E:Zj:=Kd 15 Tryz.f15 75 [F135E,F134E,F130E,F138E] (hS (hS (hS (hS (hS (hS (hS (.seq (hS (.cnd (some ((en [] [6,12]),[(.normal,en [(14,.var YR (.pd YR))] [6,12])])) .leaf .leaf)) .leaf)))))))) (.p ZH (.p ZR (.q KK))) (.p YR (.p H6 (.q Zr))) (u3 F131) (fun z=>(((),(),(),()),(z.1,z.2.1,z.2.2,()))) (fun y=>(y.2.1,y.2.2.1,y.2.2.2.1))
def F147:(El ZH)->(El ZR)->(El KK)->Option (El Zr):=fun e c b=>
 Va (idx b.1 (Vc .i64 ((↑(Vb b.1):Int) - (1:Int)))) fun d=>
 bif !decide (d.2.2.2.2.2.1=c.2.1) then some (24:Int)
 else
 Va (bif c.2.2.2.1 then some (decide (c.2.2.1<d.2.2.2.2.2.2.2.1)) else some false) fun f=>
 bif f then some (10:Int)
 else
 Va
 (run
 (fun a=>
 bif decide (a.2<(↑(Vb b.1):Int)) then
 Va
 (Va (idx b.1 a.2) fun g=>
 bif g.1 then Va (idx b.1 a.2) fun h=>some !h.2.2.2.2.2.2.2.2.1 else some false)
 fun i=>
 bif i then some (.inl (Vc .i64 (a.1+(1:Int)),Vc .i64 (a.2+(1:Int))))
 else some (.inl (a.1,Vc .i64 (a.2+(1:Int))))
 else some (.inr a.1))
 ((0:Int),(0:Int)))
 fun j=>
 bif decide (c.2.2.2.2.1<j) then some (33:Int)
 else
 Va (F138 b) fun k=>
 bif decide (c.2.2.2.2.2.1<k) then some (32:Int) else Va (F131 e c b) fun l=>some l.2.2
def F147E:Zj:=ZG 36 Tryz.f36 77 [F131E,F138E] (hS (hS (hS (.seq (.seq (.reg [(34,Y4)]) .leaf) (hS (.seq (hS (.lp (en [pd 8 Y3,pd 9 Y3] [3,4,5]) [(.exit 0,en [pd 8 Y3] [3,4,5])] (hS (.seq (.seq (.reg [(56,Y4)]) .leaf) .leaf)))) .leaf)))))) (.p ZH (.p ZR (.q KK))) (.pd Zr) (u3 F147) (rws:=[47])
def F142:(El ZH)->(El ZR)->(El KK)->Option (El Y3×El Zr):=fun d a b=>
 Va (F143 d a) fun e=>
 bif !decide (e=(0:Int)) then some ((0:Int),e)
 else
 bif decide ((↑(Vb b.1):Int)=(0:Int)) then bif !decide (a.1=a.2.1) then some ((0:Int),(24:Int)) else some ((0:Int),(0:Int))
 else
 Va
 (run
 (fun c=>
 bif decide (c<(↑(Vb b.1):Int)) then
 Va (F146 d a b c) fun f=>
 bif !decide (f=(0:Int)) then some (.inr (.inr (c,f))) else some (.inl (Vc .i64 (c+(1:Int))))
 else some (.inr (.inl ())))
 (0:Int))
 fun i=>
 Vh
 (fun _=>
 Va (F147 d a b) fun g=>
 bif !decide (g=(0:Int)) then some (Vc .i64 ((↑(Vb b.1):Int) - (1:Int)),g) else some ((0:Int),(0:Int)))
 (fun h=>some (h.1,h.2)) i
def F142E:Zj:=Kd 14 Tryz.f14 52 [F143E,F146E,F147E] (hS (hS (hS (hS (.seq (hS (.lp (en [pd 9 Y3] [3,4,5]) [(.exit 0,en [] [3,4,5]),(.ret,en [pd 6 Y3,pd 7 Zr] [])] .leaf)) .leaf))))) (.p ZH (.p ZR (.q KK))) (.p Y3 (.q Zr)) (u3 F142) (fun z=>(((),(),(),()),(z.1,z.2,()))) (fun y=>(y.2.1,y.2.2.1)) (rws:=[47])
end
end Q

