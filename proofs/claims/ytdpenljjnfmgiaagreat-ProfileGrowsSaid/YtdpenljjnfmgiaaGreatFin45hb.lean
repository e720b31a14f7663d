/- More functions of the program as functions of Lean, and that the program computes them; printed by a program of mine. Conditions: none. -/
import Derived.Test.YtdpenljjnfmgiaaGreatFin45ha
open Tr Go Go.Proofs
open Int renaming toNat ->Vd
open Go.IntKind renaming wrap ->Vc
open List renaming length ->Vb,take ->Vg,drop ->Vh,set ->Vi,replicate ->Vj
open Option renaming bind ->Va
open Sum renaming elim ->Vf
open UInt8 renaming toNat ->Ve
namespace Q
noncomputable section
def F16:(El KK)->(El XJ)->(El WO)->(El Y3)->Option (El Y3):=fun b c d a=>
 Va
 (bif decide ((0:Int)<a) then
 Va (idx d (Vc .i64 (a - (1:Int)))) fun e=>
 Va (idx d a) fun f=>Va (F18 e.2.1 f.1 b.2.2.1) fun g=>some g
 else some false)
 fun h=>bif h then some (Tr.imax (0:Int) (Vc .i64 (c.2.1 - b.2.1))) else some c.2.1
def F16E:Zp:=Z5 201 Tryz.f201 35 [F18E] (hS (.seq (.seq (.reg [(26,Y4)]) .leaf) .leaf)) (.p KK (.p XJ (.p WO (.q Y3)))) (.pd Y3) (u4 F16)
def F15:(El ZcZ)->(El Y3)->(El Y3)->Option (El Y4):=fun a b c=>
 Va
 (bif !a.1 then some true
 else
 bif decide (b<a.2.1) then some true
 else bif decide (b=a.2.1) then some (decide (c<a.2.2.1)) else some false)
 fun d=>some d
def F15E:Zp:=Z5 202 Tryz.f202 28 [] (hS (.seq (.reg [(6,Y4)]) .leaf)) (.p ZcZ (.p Y3 (.q Y3))) (.pd Y4) (u3 F15)
def F14:(El Y3)->(El Y3)->(El Y3)->(El KK)->(El WO)->(El Jo)->Option (El Jo):=fun b d f g e a=>
 Va (idx g.1 f) fun n=>
 Va (sliceB (Vb e) (Vb e) (some b) (some (Vc .i64 (d+(1:Int))))) fun h=>
 Va (F84 n (Vg (h.2 - h.1) (Vh h.1 e))) fun o=>
 bif !o then some a
 else
 Va (idx g.1 f) fun p=>
 Va (F16 g p e b) fun k=>
 Va (ZA (Vc .i64 (d+(1:Int))) (9:Nat)) fun q=>
 Va a[q]? fun l=>
 Va (ZA (Vc .i64 (d+(1:Int))) (9:Nat)) fun r=>
 Va a[r]? fun m=>
 Va (ZA b (9:Nat)) fun s=>
 Va a[s]? fun i=>
 Va (F15 i (Vc .i64 (k+l.2.1)) (Vc .i64 (m.2.2.1+(1:Int)))) fun j=>
 bif j then
 Va (ZA b (9:Nat)) fun c=>
 Va a[c]? fun _=>
 some
 (Vi a c
 (true,Vc .i64 (k+l.2.1),Vc .i64 (m.2.2.1+(1:Int)),(f,b,d,k,()),()))
 else some a
def F14E:Zp:=Wm 199 Tryz.f199 62 [F84E,F16E,F15E] .leaf (.p Y3 (.p Y3 (.p Y3 (.cons (.ro KK) (.cons (.ro WO) (.cons (.var Jo (.pd Jo)) .nil)))))) .nil (u6 F14) (fun z=>(((),(),(),(),(),z,()),())) (fun y=>y.1.2.2.2.2.2.1)
def F13:(El KK)->(El WO)->Option (El Jo):=fun f d=>
 Va (ZA (↑(Vb d):Int) (9:Nat)) fun g=>
 Va (Tr.zeroEl Jo)[g]? fun h=>
 Va
 (run
 (fun b=>
 bif decide ((0:Int)<=b.2) then
 Va
 (run
 (fun c=>
 bif decide (c.2<(↑(Vb d):Int)) then
 Va
 (run
 (fun a=>
 bif decide (a.2<(↑(Vb f.1):Int)) then
 Va (ZA (Vc .i64 (c.2+(1:Int))) (9:Nat)) fun i=>
 Va a.1[i]? fun j=>
 bif j.1 then
 Va (F14 b.2 c.2 a.2 f d a.1) fun k=>some (.inl (k,Vc .i64 (a.2+(1:Int))))
 else some (.inl (a.1,Vc .i64 (a.2+(1:Int))))
 else some (.inr a.1))
 (c.1,(0:Int)))
 fun l=>some (.inl (l,Vc .i64 (c.2+(1:Int))))
 else some (.inr c.1))
 (b.1,b.2))
 fun m=>some (.inl (m,Vc .i64 (b.2 - (1:Int))))
 else some (.inr b.1))
 (Vi (Tr.zeroEl Jo) g (true,h.2),Vc .i64 ((↑(Vb d):Int) - (1:Int))))
 fun e=>some e
def F13E:Zp:=Z5 138 Tryz.f138 47 [F14E] (hS (hS (hS (hS (hS (.seq (hS (.lp ⟨[(5,.var Jo (.pd Jo)),pd 8 Y3],[(7,199,[2,3,5])],[2,3,4,6],[],[],[]⟩ [(.exit 0,en [(5,.var Jo (.pd Jo))] [4])] (hS (.seq (hS (.lp ⟨[(5,.var Jo (.pd Jo)),pd 9 Y3],[(7,199,[2,3,5])],[2,3,4,6,8],[],[],[]⟩ [(.exit 2,⟨[(5,.var Jo (.pd Jo))],[(7,199,[2,3,5])],[2,3,4,6,8],[],[],[]⟩)] (hS (.seq (hS (.lp ⟨[(5,.var Jo (.pd Jo)),pd 32 Y3],[(7,199,[2,3,5])],[2,3,4,6,8,9,31],[],[],[]⟩ [(.exit 4,⟨[(5,.var Jo (.pd Jo))],[(7,199,[2,3,5])],[2,3,4,6,8,9],[],[],[]⟩)] .leaf)) .leaf)))) .leaf)))) .leaf)))))) (.p KK (.q WO)) (.pd Jo) (u2 F13)
def F12:(El KK)->(El Y3)->Option (El Y3):=fun a b=>
 Va (bif decide ((0:Int)<a.2.2.2.1) then some (decide (a.2.2.2.1<b)) else some false) fun c=>
 bif c then some a.2.2.2.1 else some b
def F12E:Zp:=Z5 139 Tryz.f139 17 [] (hS (.seq (.seq (.reg [(13,Y4)]) .leaf) .leaf)) (.p KK (.q Y3)) (.pd Y3) (u2 F12)
def F11:(El KK)->(El WO)->Option (El Y3×El Hz×El ZP):=fun c d=>
 Va (F17 c d) fun g=>
 bif !decide (g=(0:Int)) then some ((0:Int),[],g)
 else
 Va (F13 c d) fun b=>
 Va b[Vd (0:Int)]? fun i=>
 bif !i.1 then some ((0:Int),[],(34:Int))
 else
 Va
 (run
 (fun a=>
 bif decide (a.2<(↑(Vb d):Int)) then
 Va (ZA a.2 (9:Nat)) fun j=>
 Va b[j]? fun h=>
 Va (Zy (decide (Vb a.1+Vb [h.2.2.2.1]<=ZC))) fun _=>
 Va (ZA a.2 (9:Nat)) fun k=>
 Va b[k]? fun l=>some (.inl (a.1++[h.2.2.2.1],Vc .i64 (l.2.2.2.1.2.2.1+(1:Int))))
 else some (.inr a.1))
 ([],(0:Int)))
 fun m=>Va b[Vd (0:Int)]? fun e=>Va (F12 c e.2.1) fun f=>some (f,m,(0:Int))
def F11E:Zp:=Wm 83 Tryz.f83 47 [F17E,F13E,F12E] (hS (hS (hS (hS (hS (.seq (hS (.lp (en [(9,.own Gq false),pd 10 Y3] [1,2,8]) [(.exit 0,en [(9,.own Gq false)] [2,8])] .leaf)) .leaf)))))) (.p KK (.q WO)) (.p Y3 (.p Hz (.q ZP))) (u2 F11) (fun z=>(((),(),()),(z.1,z.2.1,z.2.2,()))) (fun y=>(y.2.1,y.2.2.1,y.2.2.2.1))
def F55:(El GZ)->Option (El Y3):=fun b=>
 Va
 (run
 (fun s0=>
 bif decide (s0.2<(↑(Vb b.1):Int)) then
 Va (idx b.1 s0.2) fun a=>
 Va
 (bif a.1 then some true
 else
 bif decide (a.2.2.2.2.2.2.1<(0:Int)) then some true
 else
 bif decide (a.2.2.2.2.2.2.2.1<a.2.2.2.2.2.2.1) then some true
 else some (decide ((14400:Int)<Vc .i64 (a.2.2.2.2.2.2.2.1 - a.2.2.2.2.2.2.1))))
 fun c=>
 bif c then some (.inl (s0.1,Vc .i64 (s0.2+(1:Int))))
 else
 some
 (.inl
 (Vc .i64 (s0.1+Vc .i64 (a.2.2.2.2.2.2.2.1 - a.2.2.2.2.2.2.1)),
 Vc .i64 (s0.2+(1:Int))))
 else some (.inr s0.1))
 ((0:Int),(0:Int)))
 fun d=>some d
def F55E:Zp:=Z5 84 Tryz.f84 44 [] (hS (hS (.seq (hS (.lp (en [pd 3 Y3,pd 9 Y3] [7,8]) [(.exit 0,en [pd 3 Y3] [])] (hS (hS (.seq (hS (.seq (.seq (.reg [(34,Y4)]) .leaf) .leaf)) .leaf))))) .leaf))) (.q GZ) (.pd Y3) (u1 F55)
def F52:(El Zh)->(El Zm)->(El GZ)->Option (El J8×El Hz×El ZP):=fun d e a=>
 Va (F53 d a) fun b=>
 bif !decide (b.2=(0:Int)) then some (((0:Int),(0:Int),(0:Int),(0:Int),(0:Int),()),[],b.2)
 else
 Va (F11 d.2.2.2.2.2.1 b.1) fun c=>
 bif !decide (c.2.2=(0:Int)) then some (((0:Int),(0:Int),(0:Int),(0:Int),(0:Int),()),[],c.2.2)
 else
 Va (F55 a) fun f=>
 Va
 (bif decide ((0:Int)<(↑(Vb a.1):Int)) then
 Va (idx a.1 (0:Int)) fun g=>
 Va (idx a.1 (Vc .i64 ((↑(Vb a.1):Int) - (1:Int)))) fun h=>
 some (g.2.2.2.2.2.2.1,h.2.2.2.2.2.2.2.1,(↑(Vb b.1):Int),c.1,f,())
 else some (e.2.2.1,e.2.2.1,(↑(Vb b.1):Int),c.1,f,()))
 fun i=>some (i,c.2.1,(0:Int))
def F52E:Zp:=Wm 38 Tryz.f38 68 [F53E,F11E,F55E] (hS (hS (hS (hS (hS (hS (.seq (hS (hS (.cnd (some ((en [] [6,12]),[(.normal,en [(13,.var J8 (.pd J8))] [6,12])])) .leaf .leaf))) .leaf))))))) (.p Zh (.p Zm (.q GZ))) (.p J8 (.p Hz (.q ZP))) (u3 F52) (fun z=>(((),(),(),()),(z.1,z.2.1,z.2.2,()))) (fun y=>(y.2.1,y.2.2.1,y.2.2.2.1))
def F98(a:El Zh)(b:El Zm)(c:El HA)(d:El Y3):Option (El K4):=DL a b c d
def F98S:Tr.Spec:= {args:=(.cons (.pd Zh) (.cons (.pd Zm) (.cons (.pd HA) (.cons (.pd Y3) .nil)))),res:=(.cons (.pd K4) .nil),fns:=[],α:=El K4,f:=fun x=>F98 x.1 x.2.1 x.2.2.1 x.2.2.2.1,unp:=fun z=>(((),(),(),(),()),(z,()))}
theorem F98_ok:ZL Tryz.prog 37 F98S:=ZpQ
def F98E:Zp:=⟨37,F98S,F98_ok⟩
def F115:(El J8)->Option (El XL):=fun a=>some [a.1,a.2.1,a.2.2.1]
def F115E:Zp:=Z5 42 Tryz.f42 10 [] .leaf (.q J8) (.pd XL) (u1 F115)
def F97:(El J8)->(El J8)->Option (El Y4):=fun a b=>
 Va
 (bif decide (a.2.2.2.1<b.2.2.2.1) then some true
 else bif decide (a.2.2.2.1=b.2.2.2.1) then some (decide (a.2.2.2.2.1<b.2.2.2.2.1)) else some false)
 fun c=>some c
def F97E:Zp:=Z5 85 Tryz.f85 24 [] (hS (.seq (.reg [(4,Y4)]) .leaf)) (.p J8 (.q J8)) (.pd Y4) (u2 F97)
def F118:(El XL)->(El XL)->Option (El Y4):=fun a b=>
 Va
 (Va (Tr.eqEl.eqs (Tr.eqEl (Tr.Ty.int .i64)) a b) fun c=>
 bif !c then
 Va a[Vd (0:Int)]? fun d=>
 Va b[Vd (0:Int)]? fun e=>
 bif decide (e<=d) then
 Va a[Vd (1:Int)]? fun f=>
 Va b[Vd (1:Int)]? fun g=>
 bif decide (f<=g) then Va a[Vd (2:Int)]? fun h=>Va b[Vd (2:Int)]? fun i=>some (decide (h<=i))
 else some false
 else some false
 else some false)
 fun j=>some j
def F118E:Zp:=Z5 86 Tryz.f86 29 [] (hS (.seq (.reg [(4,Y4)]) .leaf)) (.p XL (.q XL)) (.pd Y4) (u2 F118)
def F95:(El Wg)->(El XL)->Option (El Y4):=fun a b=>Va (F115 a.2.1) fun c=>Va (F118 b c) fun d=>some d
def F95E:Zp:=Z5 88 Tryz.f88 9 [F115E,F118E] .leaf (.p Wg (.cons (.ro XL) .nil)) (.pd Y4) (u2 F95)
def F155:(El He)->((El XL×Unit))->Option (El Y3):=fun a b=>
 Va
 (run
 (fun s0=>
 bif decide (s0<(↑(Vb a):Int)) then
 Va (idx a s0) fun c=>
 Va (F95 c b.1) fun d=>bif d then some (.inr (.inr s0)) else some (.inl (Vc .i64 (s0+(1:Int))))
 else some (.inr (.inl ())))
 (0:Int))
 fun e=>Vf (fun _=>some (-1:Int)) (fun f=>some f) e
def F155E:Zp:=Z5 140 Tryz.f140 19 [F95E] (hS (.seq (hS (.lp (en [pd 8 Y3] [0,1,7]) [(.exit 0,en [] [1]),(.ret,en [pd 4 Y3] [1])] .leaf)) .leaf)) (.p He (.cons (.fn 88 (.cons (.ro XL) .nil)) .nil)) (.pd Y3) (u2 F155) (fns:=[88])
def F153:(List (El Wg))->((El XL×Unit))->Option (List (El Wg)):=fun d g=>
 Va (F155 d g) fun e=>
 bif decide (e=(-1:Int)) then some d
 else
 Va
 (run
 (fun b=>
 bif decide (b.2.2<(↑(Vb b.1):Int)) then
 Va (ZA b.2.2 (Vb b.1)) fun j=>
 Va b.1[j]? fun h=>
 Va (F95 h g.1) fun k=>
 bif !k then
 Va (ZA b.2.1 (Vb b.1)) fun i=>
 Va b.1[i]? fun _=>
 some (.inl (Vi b.1 i h,Vc .i64 (b.2.1+(1:Int)),Vc .i64 (b.2.2+(1:Int))))
 else some (.inl (b.1,b.2.1,Vc .i64 (b.2.2+(1:Int))))
 else some (.inr (b.1,b.2.1)))
 (d,e,Vc .i64 (e+(1:Int))))
 fun c=>
 Va (sliceB (Vb c.1) (Vb c.1) (some c.2) none) fun a=>
 Va (Zy (decide (a.1+(a.2 - a.1)<=Vb c.1))) fun _=>
 Va
 (sliceB (Vb (Vg a.1 c.1++Vj (a.2 - a.1) (((([]:List (El Jp)),()),((0:Int),(0:Int),(0:Int),(0:Int),(0:Int),()),([]:List (El Gq)),()))++Vh (a.1+(a.2 - a.1)) c.1))
 (Vb (Vg a.1 c.1++Vj (a.2 - a.1) (((([]:List (El Jp)),()),((0:Int),(0:Int),(0:Int),(0:Int),(0:Int),()),([]:List (El Gq)),()))++Vh (a.1+(a.2 - a.1)) c.1)) none (some c.2))
 fun f=>some (Vg f.2 (Vg a.1 c.1++Vj (a.2 - a.1) (((([]:List (El Jp)),()),((0:Int),(0:Int),(0:Int),(0:Int),(0:Int),()),([]:List (El Gq)),()))++Vh (a.1+(a.2 - a.1)) c.1))
def F153E:Zp:=Z5 87 Tryz.f87 42 [F95E,F155E] (hS (hS (hS (.seq (hS (.lp (en [(0,.own Wg false),pd 5 Y3,pd 6 Y3] [1]) [(.exit 0,en [(0,.own Wg false),pd 5 Y3] [1])] .leaf)) .leaf)))) (.cons (.own Wg false) (.cons (.fn 88 (.cons (.ro XL) .nil)) .nil)) (.own Wg false) (u2 F153) (fns:=[88])
def F94:(List (El Wg))->(El Wg)->Option (List (El Wg)):=fun i b=>
 Va (F115 b.2.1) fun d=>
 Va
 (run
 (fun a=>
 bif decide (a.2<(↑(Vb i):Int)) then
 Va (ZA a.2 (Vb a.1)) fun m=>
 Va a.1[m]? fun j=>
 Va (F115 j.2.1) fun k=>
 Va (Tr.eqEl.eqs (Tr.eqEl (Tr.Ty.int .i64)) k d) fun n=>
 bif n then
 Va (F97 b.2.1 j.2.1) fun o=>
 Va
 (bif o then Va (ZA a.2 (Vb a.1)) fun l=>Va a.1[l]? fun _=>some (Vi a.1 l b) else some a.1)
 fun p=>some (.inr (.inr p))
 else
 Va (F118 k d) fun e=>
 bif e then some (.inr (.inr a.1)) else some (.inl (a.1,Vc .i64 (a.2+(1:Int))))
 else some (.inr (.inl a.1)))
 (i,(0:Int)))
 fun f=>
 Vf
 (fun g=>
 Va (F153 g (d,())) fun c=>
 Va (Zy (decide (Vb c+Vb [b]<=ZC))) fun _=>some (c++[b]))
 (fun h=>some h) f
def F94E:Zp:=Z5 39 Tryz.f39 47 [F115E,F97E,F118E,F153E,F95E] (hS (hS (.seq (hS (.lp ⟨[(0,.own Wg false),pd 14 Y3],[],[3,5,13],[(12,0)],[],[]⟩ [(.exit 0,en [(0,.own Wg false)] [3,5]),(.ret,en [(4,.own Wg false)] [])] (hS (hS (.seq (hS (hS (hS (.cnd none (.seq (hS (.cnd (some (e0,[(.normal,en [(0,.own Wg false)] [])])) .leaf .leaf)) .leaf) .leaf)))) .leaf))))) .leaf))) (.cons (.own Wg false) (.q Wg)) (.own Wg false) (u2 F94)
def F117:(El XL)->(El XL)->Option (El Y3):=fun a b=>
 Va a[Vd (0:Int)]? fun f=>
 Va b[Vd (0:Int)]? fun g=>
 bif !decide (f=g) then Va b[Vd (0:Int)]? fun h=>Va a[Vd (0:Int)]? fun i=>Va (F8 h i) fun j=>some j
 else
 Va a[Vd (1:Int)]? fun k=>
 Va b[Vd (1:Int)]? fun l=>
 bif !decide (k=l) then
 Va a[Vd (1:Int)]? fun m=>Va b[Vd (1:Int)]? fun n=>Va (F8 m n) fun o=>some o
 else Va a[Vd (2:Int)]? fun c=>Va b[Vd (2:Int)]? fun d=>Va (F8 c d) fun e=>some e
def F117E:Zp:=Z5 43 Tryz.f43 30 [F8E] .leaf (.p XL (.q XL)) (.pd Y3) (u2 F117)
def F93:(El Wg)->(El Wg)->Option (El Y3):=fun a b=>Va (F115 a.2.1) fun c=>Va (F115 b.2.1) fun d=>Va (F117 c d) fun e=>some e
def F93S:Tr.Spec:= {args:=(.cons (.pd Wg) (.cons (.pd Wg) .nil)),res:=(.cons (.pd Y3) .nil),fns:=[],α:=El Y3,f:=fun x=>F93 x.1 x.2.1,unp:=fun z=>(((),(),()),(z,()))}
theorem F93_ok:ZL Tryz.prog 41 F93S:=WS (rws:=[]) (zxs:=[]) (nt:=12) (m:=[(42,[F115E.S]),(43,[F117E.S])]) (fn:=Tryz.f41) (hint:=.leaf) (pack:=fun y=>y.2.1) KZ tab_okH ⟨⟨F115E.ok,trivial⟩,⟨F117E.ok,trivial⟩,trivial⟩ fun x z h=>.trans (by kernel_rfl) h
def F93E:Zp:=⟨41,F93S,F93_ok⟩
def F161(a:List (El Wg))(_:Unit):Option (List (El Wg)):=Tr.sortF F93 a
def F161S:Tr.Spec:= {args:=(.cons (.own Wg true) (.cons (.fn 41 .nil) .nil)),res:=.nil,fns:=[41],α:=List (El Wg),f:=fun x=>F161 x.1 x.2.1,unp:=fun z=>((z,(),()),())}
theorem F161_ok:ZL Tryz.prog 40 F161S:=Tr.sortFunc_ok (ρ:=Tryz.sort40_ren) Tryz.sort40 rfl Tryz.isAgg53 Tryz.sizeOf53 F93_ok
def F161E:Zp:=⟨40,F161S,F161_ok⟩
def F92:(El Zh)->(El Zm)->(El Y3)->Option (El He×El ZP):=fun m a h=>
 Va (F31 m a) fun n=>
 bif !decide (n=(0:Int)) then some ([],n)
 else
 Va (bif a.2.2.2.1 then some true else some a.2.2.2.2.2.2.2.2.2.1) fun r=>
 bif r then some ([],(22:Int))
 else
 Va (bif decide (h<a.2.2.1) then some true else some (decide ((3155932800:Int)<h))) fun s=>
 bif s then some ([],(10:Int))
 else
 Va (F33 m a) fun d=>
 bif !decide (d.2=(0:Int)) then some ([],d.2)
 else
 Va (F96 d.1 a) fun o=>
 Va (F113 d.1 a o h) fun p=>
 Va
 (run
 (fun e=>
 bif decide (e.2<(↑(Vb p):Int)) then
 Va (idx p e.2) fun t=>
 Va (F98 d.1 a o t) fun q=>
 Va
 (run
 (fun b=>
 bif decide (b.2<(↑(Vb q):Int)) then
 Va (idx q b.2) fun f=>
 Va f fun _=>
 Va f fun g=>
 Va (F52 d.1 a g.2.2.2.2.2.2.2) fun c=>
 bif decide (c.2.2=(0:Int)) then
 Va (F94 b.1 (g.2.2.2.2.2.2.2,c.1,c.2.1,())) fun i=>
 some (.inl (i,Vc .i64 (b.2+(1:Int))))
 else some (.inl (b.1,Vc .i64 (b.2+(1:Int))))
 else some (.inr b.1))
 (e.1,(0:Int)))
 fun j=>some (.inl (j,Vc .i64 (e.2+(1:Int))))
 else some (.inr e.1))
 ([],(0:Int)))
 fun k=>Va (F161 k ()) fun l=>some (l,(0:Int))
def F92E:Zp:=Wm 15 Tryz.f15 99 [F31E,F33E,F96E,F113E,F98E,F52E,F94E,F161E,F93E] (hS (hS (.seq (.seq (.reg [(32,Y4)]) .leaf) (.seq (.seq (.reg [(40,Y4)]) .leaf) (hS (hS (hS (hS (.seq (hS (.lp (en [(12,.own Wg false),pd 59 Y3] [4,9,11,57,58]) [(.exit 0,en [(12,.own Wg false)] [])] (hS (hS (.seq (hS (hS (.lp (en [(12,.own Wg false),pd 69 Y3] [4,9,11,57,58,59,67,68]) [(.exit 2,en [(12,.own Wg false)] [4,9,11,57,58,59])] .leaf))) .leaf))))) .leaf))))))))) (.p Zh (.p Zm (.q Y3))) (.p He (.q ZP)) (u3 F92) (fun z=>(((),(),(),()),(z.1,z.2,()))) (fun y=>(y.2.1,y.2.2.1))
def F116:(El J8)->(El J8)->Option (El Y4):=fun a b=>
 Va
 (run
 (fun s0=>
 bif decide (s0<(4:Int)) then
 Va (ZA s0 (4:Nat)) fun d=>
 Va [a.2.1,a.2.2.1,a.2.2.2.1,a.2.2.2.2.1][d]? fun e=>
 Va (ZA s0 (4:Nat)) fun f=>
 Va [b.2.1,b.2.2.1,b.2.2.2.1,b.2.2.2.2.1][f]? fun g=>
 bif !decide (e=g) then
 Va (ZA s0 (4:Nat)) fun h=>
 Va [a.2.1,a.2.2.1,a.2.2.2.1,a.2.2.2.2.1][h]? fun i=>
 Va (ZA s0 (4:Nat)) fun j=>
 Va [b.2.1,b.2.2.1,b.2.2.2.1,b.2.2.2.2.1][j]? fun k=>some (.inr (.inr (decide (i<k))))
 else some (.inl (Vc .i64 (s0+(1:Int))))
 else some (.inr (.inl ())))
 (0:Int))
 fun l=>Vf (fun _=>some false) (fun c=>some c) l
def F116E:Zp:=Z5 56 Tryz.f56 44 [] (hS (hS (.seq (hS (.lp (en [pd 26 Y3] [5,6]) [(.exit 0,e0),(.ret,en [pd 4 Y4] [])] .leaf)) .leaf))) (.p J8 (.q J8)) (.pd Y4) (u2 F116)
def F147(a:El Hz):Option (El Hz):=Tr.clnTicG a
def F147S:Tr.Spec:= {args:=(.cons (.pd Hz) .nil),res:=(.cons (.pd Hz) .nil),fns:=[],α:=El Hz,f:=fun x=>F147 x.1,unp:=fun z=>(((),()),(z,()))}
theorem F147_ok:ZL Tryz.prog 58 F147S:=Tr.clnTic_ok
def F147E:Zp:=⟨58,F147S,F147_ok⟩
def F88:(El He)->(El Y3)->Option (El Wg×El Y4):=fun b e=>
 Va
 (run
 (fun s0=>
 bif decide (s0.2<(↑(Vb b):Int)) then
 Va (idx b s0.2) fun c=>
 Va
 (bif decide (e<=c.2.1.1) then
 bif decide (s0.1<(0:Int)) then some true
 else Va (idx b s0.1) fun f=>Va (F116 c.2.1 f.2.1) fun g=>some g
 else some false)
 fun h=>
 bif h then some (.inl (s0.2,Vc .i64 (s0.2+(1:Int)))) else some (.inl (s0.1,Vc .i64 (s0.2+(1:Int))))
 else some (.inr s0.1))
 ((-1:Int),(0:Int)))
 fun d=>
 bif decide (d<(0:Int)) then some (((([]:List (El Jp)),()),((0:Int),(0:Int),(0:Int),(0:Int),(0:Int),()),([]:List (El Gq)),()),false)
 else
 Va (idx b d) fun a=>
 Va (F146 a.1.1) fun i=>
 Va (F147 a.2.2.1) fun j=>some (((i,a.1.2),a.2.1,j,a.2.2.2),true)
def F88E:Zp:=Wm 23 Tryz.f23 56 [F116E,F146E,F147E] (hS (hS (.seq (hS (.lp (en [pd 6 Y3,pd 12 Y3] [0,1,4,10,11]) [(.exit 0,en [pd 6 Y3] [0,4])] (hS (hS (.seq (hS (.seq (.reg [(35,Y4)]) .leaf)) .leaf))))) .leaf))) (.p He (.q Y3)) (.p Wg (.q Y4)) (u2 F88) (fun z=>(((),(),()),(z.1,z.2,()))) (fun y=>(y.2.1,y.2.2.1)) (zxs:=[46,51])
def F82(a:Int):Option (List UInt8):=Tr.fmtF a
def F82S:Tr.Spec:= {args:=(.cons (.pd Y3) .nil),res:=(.cons (.pd Y9) .nil),fns:=[],α:=El Y9,f:=fun x=>F82 x.1,unp:=fun z=>(((),()),(z,()))}
theorem F82_ok:ZL Tryz.prog 65 F82S:=Tr.fmt_ok
def F82E:Zp:=⟨65,F82S,F82_ok⟩
def F91:(El He)->Option (El Y9×El ZP):=fun c=>
 Va
 (run
 (fun s0=>
 bif decide (s0.2<(↑(Vb c):Int)) then
 Va (idx c s0.2) fun a=>
 Va
 (bif decide ((0:Int)<s0.2) then
 Va (idx c (Vc .i64 (s0.2 - (1:Int)))) fun r=>
 Va (F115 r.2.1) fun s=>
 Va (F115 a.2.1) fun t=>Va (F117 s t) fun u=>some (decide ((0:Int)<=u))
 else some false)
 fun v=>
 bif v then some (.inr (.inr ([],(8:Int))))
 else
 Va (F82 a.2.1.1) fun w=>
 Va (Tr.catStr w [(32:UInt8)]) fun x=>
 Va (F82 a.2.1.2.1) fun y=>
 Va (Tr.catStr x y) fun d=>
 Va (Tr.catStr d [(32:UInt8)]) fun e=>
 Va (F82 a.2.1.2.2.1) fun f=>
 Va (Tr.catStr e f) fun g=>
 Va (Tr.catStr g [(32:UInt8)]) fun h=>
 Va (F82 a.2.1.2.2.2.1) fun i=>
 Va (Tr.catStr h i) fun j=>
 Va (Tr.catStr j [(32:UInt8)]) fun k=>
 Va (F82 a.2.1.2.2.2.2.1) fun l=>
 Va (Tr.catStr k l) fun m=>
 Va (Tr.catStr m [(10:UInt8)]) fun n=>
 Va (Tr.catStr s0.1 n) fun o=>some (.inl (o,Vc .i64 (s0.2+(1:Int))))
 else some (.inr (.inl s0.1)))
 ([],(0:Int)))
 fun p=>Vf (fun q=>some (q,(0:Int))) (fun b=>some (b.1,b.2)) p
def F91E:Zp:=Wm 27 Tryz.f27 61 [F115E,F117E,F82E] (hS (hS (.seq (hS (.lp (en [pd 4 Y9,pd 10 Y3] [0,8,9]) [(.exit 0,en [pd 4 Y9] []),(.ret,en [pd 2 Y9,pd 3 ZP] [])] (hS (hS (.seq (hS (.seq (.seq (.reg [(30,Y4)]) .leaf) .leaf)) .leaf))))) .leaf))) (.q He) (.p Y9 (.q ZP)) (u1 F91) (fun z=>(((),()),(z.1,z.2,()))) (fun y=>(y.2.1,y.2.2.1))
def F136:(El Y3)->(El Y3)->(El Y3)->Option (El Y4):=fun a b c=>Va (bif decide (b<=a) then some (decide (a<=c)) else some false) fun d=>some d
def F136E:Zp:=Z5 91 Tryz.f91 15 [] (hS (.seq (.reg [(6,Y4)]) .leaf)) (.p Y3 (.p Y3 (.q Y3))) (.pd Y4) (u3 F136) (rws:=[48])
def F135:(El Y3)->(El Zm)->Option (El Y4):=fun b a=>
 Va
 (Va (F136 a.1 (0:Int) (Vc .i64 (b - (1:Int)))) fun c=>
 bif c then
 Va (F136 a.2.1 (0:Int) (Vc .i64 (b - (1:Int)))) fun d=>
 bif d then
 Va (F136 a.2.2.1 (0:Int) (3155932800:Int)) fun e=>
 bif e then
 Va (F136 a.2.2.2.2.1 (0:Int) (8:Int)) fun f=>
 bif f then
 Va (F136 a.2.2.2.2.2.1 (0:Int) (86400:Int)) fun g=>
 bif g then
 Va (F136 a.2.2.2.2.2.2.2.2.1 (0:Int) (255:Int)) fun h=>
 bif h then bif a.2.2.2.2.2.2.2.2.2.1 then some !a.2.2.2.1 else some !false else some false
 else some false
 else some false
 else some false
 else some false
 else some false)
 fun i=>some i
def F135E:Zp:=Z5 45 Tryz.f45 46 [F136E] (hS (.seq (.reg [(4,Y4)]) .leaf)) (.p Y3 (.q Zm)) (.pd Y4) (u2 F135) (rws:=[48])
def F126:(El Y9)->Option (El Y4):=fun b=>
 Va (bif decide ((↑(Vb b):Int)<(1:Int)) then some true else some (decide ((32:Int)<(↑(Vb b):Int)))) fun d=>
 bif d then some false
 else
 Va
 (run
 (fun c=>
 bif decide (c<(↑(Vb b):Int)) then
 Va (idx b c) fun a=>
 Va
 (bif decide ((97:Int)<=(↑(Ve a):Int)) then
 bif decide ((↑(Ve a):Int)<=(122:Int)) then some true
 else
 bif decide ((65:Int)<=(↑(Ve a):Int)) then
 bif decide ((↑(Ve a):Int)<=(90:Int)) then some true
 else bif decide ((48:Int)<=(↑(Ve a):Int)) then some (decide ((↑(Ve a):Int)<=(57:Int))) else some false
 else bif decide ((48:Int)<=(↑(Ve a):Int)) then some (decide ((↑(Ve a):Int)<=(57:Int))) else some false
 else
 bif decide ((65:Int)<=(↑(Ve a):Int)) then
 bif decide ((↑(Ve a):Int)<=(90:Int)) then some true
 else bif decide ((48:Int)<=(↑(Ve a):Int)) then some (decide ((↑(Ve a):Int)<=(57:Int))) else some false
 else bif decide ((48:Int)<=(↑(Ve a):Int)) then some (decide ((↑(Ve a):Int)<=(57:Int))) else some false)
 fun e=>
 Va
 (bif !e then
 bif !decide ((↑(Ve a):Int)=(45:Int)) then
 bif !decide ((↑(Ve a):Int)=(95:Int)) then some !decide ((↑(Ve a):Int)=(46:Int)) else some false
 else some false
 else some false)
 fun f=>bif f then some (.inr (.inr false)) else some (.inl (Vc .i64 (c+(1:Int))))
 else some (.inr (.inl ())))
 (0:Int))
 fun g=>Vf (fun _=>some true) (fun h=>some h) g
def F126E:Zp:=Z5 214 Tryz.f214 59 [] (hS (.seq (.seq (.reg [(13,Y4)]) .leaf) (.seq (hS (.lp (en [pd 3 Y3] [0]) [(.exit 0,e0),(.ret,en [pd 2 Y4] [])] (hS (.seq (hS (.seq (.reg [(5,Y4)]) (.seq (.reg [(58,Y4)]) .leaf))) .leaf)))) .leaf))) (.q Y9) (.pd Y4) (u1 F126)
def F127:(El Y3)->(El Y3)->(El Y3)->Option (El Y4):=fun a b c=>Va (bif decide (b<=a) then some (decide (a<=c)) else some false) fun d=>some d
def F127E:Zp:=Z5 215 Tryz.f215 15 [] (hS (.seq (.reg [(6,Y4)]) .leaf)) (.p Y3 (.p Y3 (.q Y3))) (.pd Y4) (u3 F127)
def F133:(El J6)->Option (El Y3×El ZP):=fun a=>
 bif decide ((64:Int)<(↑(Vb a):Int)) then some ((0:Int),(5:Int))
 else
 Va
 (run
 (fun s0=>
 bif decide (s0<(↑(Vb a):Int)) then
 Va (idx a s0) fun i=>
 Va (F126 i.1) fun j=>
 bif !j then some (.inr (.inr (s0,(12:Int))))
 else
 Va
 (run
 (fun d=>
 bif decide (d<s0) then
 Va (idx a d) fun k=>
 Va (idx a s0) fun l=>
 bif decide (k.1=l.1) then some (.inr (.inr (s0,(6:Int)))) else some (.inl (Vc .i64 (d+(1:Int))))
 else some (.inr (.inl ())))
 (0:Int))
 fun m=>
 Vf
 (fun _=>
 Va
 (Va (idx a s0) fun n=>
 Va (F127 n.2.1 (0:Int) (15:Int)) fun o=>
 bif !o then some true
 else Va (idx a s0) fun e=>Va (F127 e.2.2.2.1 (0:Int) (3600:Int)) fun f=>some !f)
 fun g=>bif g then some (.inr (.inr (s0,(2:Int)))) else some (.inl (Vc .i64 (s0+(1:Int)))))
 (fun b=>some (.inr (.inr (b.1,b.2)))) m
 else some (.inr (.inl ())))
 (0:Int))
 fun h=>Vf (fun _=>some ((0:Int),(0:Int))) (fun c=>some (c.1,c.2)) h
def F133E:Zp:=Wm 169 Tryz.f169 57 [F126E,F127E] (hS (hS (.seq (hS (.lp (en [pd 4 Y3] [0]) [(.exit 0,e0),(.ret,en [pd 2 Y3,pd 3 ZP] [])] (hS (.seq (hS (.seq (hS (.lp (en [pd 5 Y3] [0,4]) [(.exit 2,en [] [0,4]),(.ret,en [pd 2 Y3,pd 3 ZP] [])] .leaf)) (.seq (.reg [(55,Y4)]) .leaf))) .leaf)))) .leaf))) (.q J6) (.p Y3 (.q ZP)) (u1 F133) (fun z=>(((),()),(z.1,z.2,()))) (fun y=>(y.2.1,y.2.2.1))
def F131:(El J7)->Option (El Y3×El ZP):=fun a=>
 bif decide ((64:Int)<(↑(Vb a):Int)) then some ((0:Int),(5:Int))
 else
 Va
 (run
 (fun s0=>
 bif decide (s0<(↑(Vb a):Int)) then
 Va (idx a s0) fun f=>
 Va (F126 f.1) fun g=>
 bif !g then some (.inr (.inr (s0,(12:Int))))
 else
 Va
 (run
 (fun d=>
 bif decide (d<s0) then
 Va (idx a d) fun h=>
 Va (idx a s0) fun i=>
 bif decide (h.1=i.1) then some (.inr (.inr (s0,(6:Int)))) else some (.inl (Vc .i64 (d+(1:Int))))
 else some (.inr (.inl ())))
 (0:Int))
 fun j=>
 Vf
 (fun _=>
 Va (idx a s0) fun k=>
 Va (F127 k.2.1 (0:Int) (7:Int)) fun l=>
 bif !l then some (.inr (.inr (s0,(2:Int)))) else some (.inl (Vc .i64 (s0+(1:Int)))))
 (fun b=>some (.inr (.inr (b.1,b.2)))) j
 else some (.inr (.inl ())))
 (0:Int))
 fun e=>Vf (fun _=>some ((0:Int),(0:Int))) (fun c=>some (c.1,c.2)) e
def F131E:Zp:=Wm 170 Tryz.f170 48 [F126E,F127E] (hS (hS (.seq (hS (.lp (en [pd 4 Y3] [0]) [(.exit 0,e0),(.ret,en [pd 2 Y3,pd 3 ZP] [])] (hS (.seq (hS (.seq (hS (.lp (en [pd 5 Y3] [0,4]) [(.exit 2,en [] [0,4]),(.ret,en [pd 2 Y3,pd 3 ZP] [])] .leaf)) .leaf)) .leaf)))) .leaf))) (.q J7) (.p Y3 (.q ZP)) (u1 F131) (fun z=>(((),()),(z.1,z.2,()))) (fun y=>(y.2.1,y.2.2.1))
def F119:(El JT)->(El Y3)->(El Y3)->(El Y3)->Option (El ZP):=fun c e f g=>
 Va (bif decide ((↑(Vb c):Int)<(2:Int)) then some true else some (decide ((32:Int)<(↑(Vb c):Int)))) fun h=>
 bif h then some (5:Int)
 else
 Va
 (run
 (fun b=>
 bif decide (b<(↑(Vb c):Int)) then
 Va (idx c b) fun a=>
 Va (bif decide (a.1<(0:Int)) then some true else some (decide (e<=a.1))) fun i=>
 bif i then some (.inr (.inr (9:Int)))
 else
 Va
 (bif decide ((0:Int)<b) then Va (idx c (Vc .i64 (b - (1:Int)))) fun j=>some (decide (j.1=a.1))
 else some false)
 fun k=>
 bif k then some (.inr (.inr (13:Int)))
 else
 Va
 (bif decide (a.2.1<f) then some true
 else
 bif decide (a.2.2.1<a.2.1) then some true
 else
 bif decide (g<a.2.2.1) then some true
 else
 bif decide ((0:Int)<b) then
 Va (idx c (Vc .i64 (b - (1:Int)))) fun l=>some (decide (a.2.1<l.2.2.1))
 else some false)
 fun m=>bif m then some (.inr (.inr (10:Int))) else some (.inl (Vc .i64 (b+(1:Int))))
 else some (.inr (.inl ())))
 (0:Int))
 fun n=>Vf (fun _=>some (0:Int)) (fun d=>some d) n
def F119E:Zp:=Z5 216 Tryz.f216 83 [] (hS (.seq (.seq (.reg [(18,Y4)]) .leaf) (.seq (hS (.lp (en [pd 9 Y3] [0,1,2,3]) [(.exit 0,e0),(.ret,en [pd 8 ZP] [])] (hS (.seq (hS (.seq (.seq (.reg [(37,Y4)]) .leaf) (.seq (.seq (.reg [(50,Y4)]) .leaf) (.seq (.reg [(82,Y4)]) .leaf)))) .leaf)))) .leaf))) (.p JT (.p Y3 (.p Y3 (.q Y3)))) (.pd ZP) (u4 F119)
def F132:(El Zh)->(El Y3)->Option (El ZP):=fun b f=>
 Va (idx b.2.2.1 f) fun a=>
 Va (F126 a.2.2.2.1) fun h=>
 bif !h then some (12:Int)
 else
 Va (bif decide (a.1<(-1:Int)) then some true else some (decide (a.2.2.1<(0:Int)))) fun i=>
 bif i then some (2:Int)
 else
 Va (F127 a.2.1 (0:Int) (36524:Int)) fun j=>
 bif !j then some (11:Int)
 else
 Va
 (bif decide (a.2.2.2.2.1<(0:Int)) then some true
 else some (decide ((↑(Vb b.2.1):Int)<=a.2.2.2.2.1)))
 fun k=>
 bif k then some (9:Int)
 else
 Va (F119 a.2.2.2.2.2.2.2.1 (↑(Vb b.1):Int) (0:Int) (3155932800:Int)) fun g=>
 bif !decide (g=(0:Int)) then some g
 else
 Va
 (run
 (fun c=>
 bif decide (c<f) then
 Va (idx b.2.2.1 c) fun d=>
 Va
 (bif decide (d.2.2.2.1=a.2.2.2.1) then
 bif decide (d.2.1=a.2.1) then some (decide (d.2.2.1=a.2.2.1)) else some false
 else some false)
 fun l=>bif l then some (.inr (.inr (6:Int))) else some (.inl (Vc .i64 (c+(1:Int))))
 else some (.inr (.inl ())))
 (0:Int))
 fun m=>Vf (fun _=>some (0:Int)) (fun e=>some e) m
def F132E:Zp:=Z5 171 Tryz.f171 79 [F126E,F127E,F119E] (hS (hS (hS (.seq (.seq (.reg [(25,Y4)]) .leaf) (hS (.seq (.seq (.reg [(40,Y4)]) .leaf) (hS (hS (.seq (hS (.lp (en [pd 7 Y3] [1,2,5]) [(.exit 0,e0),(.ret,en [pd 4 ZP] [])] (hS (.seq (hS (.seq (.reg [(78,Y4)]) .leaf)) .leaf)))) .leaf))))))))) (.p Zh (.q Y3)) (.pd ZP) (u2 F132)
def F128:(El Zh)->(El Y3)->(El Y3)->(El Y3)->Option (El Y4):=fun b c e f=>
 Va
 (run
 (fun s0=>
 bif decide (s0.2<=c) then
 Va
 (run
 (fun a=>
 bif decide (a.2<c) then
 Va
 (Va (idx b.2.2.2.1 a.2) fun g=>
 bif g.2.2.2.2.1 then Va (idx b.2.2.2.1 a.2) fun h=>some (decide (h.1=s0.1)) else some false)
 fun i=>
 bif i then Va (idx b.2.2.2.1 a.2) fun j=>some (.inl (j.2.2.1,Vc .i64 (a.2+(1:Int))))
 else some (.inl (a.1,Vc .i64 (a.2+(1:Int))))
 else some (.inr a.1))
 ((-1:Int),(0:Int)))
 fun d=>bif decide (d=f) then some (.inr (.inr true)) else some (.inl (d,Vc .i64 (s0.2+(1:Int))))
 else some (.inr (.inl ())))
 (e,(0:Int)))
 fun k=>Vf (fun _=>some false) (fun l=>some l) k
def F128E:Zp:=Z5 217 Tryz.f217 48 [] (hS (.seq (hS (.lp (en [pd 2 Y3,pd 9 Y3] [1,3,4]) [(.exit 0,e0),(.ret,en [pd 8 Y4] [])] (hS (.seq (hS (.seq (hS (.lp (en [pd 10 Y3,pd 11 Y3] [1,2,3,4,9]) [(.exit 2,en [pd 10 Y3] [1,3,4,9])] (hS (.seq (.seq (.reg [(37,Y4)]) .leaf) .leaf)))) .leaf)) .leaf)))) .leaf)) (.p Zh (.p Y3 (.p Y3 (.q Y3)))) (.pd Y4) (u4 F128)
def F129:(El Zh)->(El Y3)->Option (El ZP):=fun c g=>
 Va (idx c.2.2.2.1 g) fun a=>
 Va
 (Va (F127 a.1 (0:Int) (Vc .i64 ((↑(Vb c.2.2.1):Int) - (1:Int)))) fun t=>
 bif !t then some true
 else
 Va (F127 a.2.2.1 (0:Int) (Vc .i64 ((↑(Vb c.2.2.1):Int) - (1:Int)))) fun u=>
 bif !u then some true else some (decide (a.1=a.2.2.1)))
 fun v=>
 bif v then some (9:Int)
 else
 Va (idx c.2.2.1 a.1) fun p=>
 Va (idx c.2.2.1 a.2.2.1) fun s=>
 Va
 (Va (F127 a.2.1 (0:Int) (Vc .i64 ((↑(Vb p.2.2.2.2.2.2.2.1):Int) - (1:Int)))) fun w=>
 bif !w then some true
 else
 Va (F127 a.2.2.2.1 (0:Int) (Vc .i64 ((↑(Vb s.2.2.2.2.2.2.2.1):Int) - (1:Int)))) fun x=>
 some !x)
 fun y=>
 bif y then some (9:Int)
 else
 Va (idx p.2.2.2.2.2.2.2.1 a.2.1) fun z=>
 Va (idx s.2.2.2.2.2.2.2.1 a.2.2.2.1) fun h=>
 bif !decide (z.1=h.1) then some (13:Int)
 else
 Va
 (bif a.2.2.2.2.1 then
 bif !decide (a.2.1=Vc .i64 ((↑(Vb p.2.2.2.2.2.2.2.1):Int) - (1:Int))) then some true
 else some !decide (a.2.2.2.1=(0:Int))
 else some false)
 fun i=>
 bif i then some (19:Int)
 else
 Va
 (run
 (fun d=>
 bif decide (d<g) then
 Va (idx c.2.2.2.1 d) fun f=>
 Va
 (bif a.2.2.2.2.1 then
 bif f.2.2.2.2.1 then
 bif decide (f.1=a.1) then some true else some (decide (f.2.2.1=a.2.2.1))
 else some false
 else some false)
 fun j=>bif j then some (.inr (.inr (19:Int))) else some (.inl (Vc .i64 (d+(1:Int))))
 else some (.inr (.inl ())))
 (0:Int))
 fun k=>
 Vf
 (fun _=>
 Va (bif a.2.2.2.2.1 then Va (F128 c g a.2.2.1 a.1) fun l=>some l else some false) fun m=>
 bif m then some (19:Int)
 else
 Va
 (run
 (fun e=>
 bif decide (e<g) then
 Va (idx c.2.2.2.1 e) fun b=>
 Va
 (bif decide (b.1=a.1) then
 bif decide (b.2.1=a.2.1) then
 bif decide (b.2.2.1=a.2.2.1) then some (decide (b.2.2.2.1=a.2.2.2.1))
 else some false
 else some false
 else some false)
 fun n=>bif n then some (.inr (.inr (6:Int))) else some (.inl (Vc .i64 (e+(1:Int))))
 else some (.inr (.inl ())))
 (0:Int))
 fun o=>Vf (fun _=>some (0:Int)) (fun q=>some q) o)
 (fun r=>some r) k
def F129E:Zp:=Z5 172 Tryz.f172 177 [F127E,F128E] (hS (hS (.seq (.seq (.reg [(41,Y4)]) .leaf) (hS (.seq (.seq (.reg [(71,Y4)]) .leaf) (hS (.seq (.seq (.reg [(99,Y4)]) .leaf) (.seq (hS (.lp (en [pd 8 Y3] [1,2,5]) [(.exit 0,en [] [1,2,5]),(.ret,en [pd 4 ZP] [])] (hS (.seq (hS (.seq (.reg [(129,Y4)]) .leaf)) .leaf)))) (.seq (.seq (.reg [(140,Y4)]) .leaf) (.seq (hS (.lp (en [pd 10 Y3] [1,2,5]) [(.exit 2,e0),(.ret,en [pd 4 ZP] [])] (hS (.seq (hS (.seq (.reg [(176,Y4)]) .leaf)) .leaf)))) .leaf)))))))))) (.p Zh (.q Y3)) (.pd ZP) (u2 F129)
def F123:(El Wf)->(El Y3)->(El Y4)->Option (El Zx):=fun O l P=>
 Va
 (run
 (fun s0=>
 bif decide (s0.2<l) then
 Va
 (run
 (fun f=>
 bif decide (f.2.2<l) then
 Va (Zy (decide (Vb f.2.1+Vb [(1099511627776:Int)]<=ZC))) fun _=>
 some (.inl (f.1,f.2.1++[(1099511627776:Int)],Vc .i64 (f.2.2+(1:Int))))
 else some (.inr (f.1,f.2.1)))
 (s0.1,[],(0:Int)))
 fun q=>
 Va (Zy (decide (Vb q.1+Vb [q.2]<=ZC))) fun _=>
 some (.inl (q.1++[q.2],Vc .i64 (s0.2+(1:Int))))
 else some (.inr s0.1))
 ([],(0:Int)))
 fun Q=>
 Va
 (run
 (fun c=>
 bif decide (c.2<(↑(Vb O):Int)) then
 Va (idx O c.2) fun k=>
 Va (bif k.2.2.2.1 then some true else some !P) fun R=>
 bif R then
 Va (ZA k.1 (Vb c.1)) fun r=>
 Va c.1[r]? fun _=>
 Va (ZA k.1 (Vb c.1)) fun g=>
 Va c.1[g]? fun _=>
 Va (idx c.1 (↑g:Int)) fun s=>
 Va (ZA k.2.1 (Vb s)) fun t=>
 Va (idx c.1 (↑g:Int)) fun u=>
 Va u[t]? fun v=>
 Va (idx c.1 (↑r:Int)) fun w=>
 Va (ZA k.2.1 (Vb w)) fun m=>
 Va (idx c.1 (↑r:Int)) fun n=>
 Va n[m]? fun _=>
 some
 (.inl (Vi c.1 (Vd (↑r:Int)) (Vi n m (Tr.imin v k.2.2.1)),Vc .i64 (c.2+(1:Int))))
 else some (.inl (c.1,Vc .i64 (c.2+(1:Int))))
 else some (.inr c.1))
 (Q,(0:Int)))
 fun x=>
 Va
 (run
 (fun d=>
 bif decide (d.2<l) then
 Va
 (run
 (fun b=>
 bif decide (b.2<l) then
 Va
 (run
 (fun a=>
 bif decide (a.2<l) then
 Va (ZA b.2 (Vb a.1)) fun e=>
 Va a.1[e]? fun _=>
 Va (ZA b.2 (Vb a.1)) fun h=>
 Va a.1[h]? fun _=>
 Va (idx a.1 (↑h:Int)) fun y=>
 Va (ZA a.2 (Vb y)) fun z=>
 Va (idx a.1 (↑h:Int)) fun A=>
 Va A[z]? fun B=>
 Va (ZA b.2 (Vb a.1)) fun i=>
 Va a.1[i]? fun _=>
 Va (idx a.1 (↑i:Int)) fun C=>
 Va (ZA d.2 (Vb C)) fun D=>
 Va (idx a.1 (↑i:Int)) fun E=>
 Va E[D]? fun F=>
 Va (ZA d.2 (Vb a.1)) fun j=>
 Va a.1[j]? fun _=>
 Va (idx a.1 (↑j:Int)) fun G=>
 Va (ZA a.2 (Vb G)) fun H=>
 Va (idx a.1 (↑j:Int)) fun I=>
 Va I[H]? fun J=>
 Va (idx a.1 (↑e:Int)) fun K=>
 Va (ZA a.2 (Vb K)) fun o=>
 Va (idx a.1 (↑e:Int)) fun p=>
 Va p[o]? fun _=>
 some
 (.inl
 (Vi a.1 (Vd (↑e:Int))
 (Vi p o (Tr.imin B (Vc .i64 (F+J)))),
 Vc .i64 (a.2+(1:Int))))
 else some (.inr a.1))
 (b.1,(0:Int)))
 fun L=>some (.inl (L,Vc .i64 (b.2+(1:Int))))
 else some (.inr b.1))
 (d.1,(0:Int)))
 fun M=>some (.inl (M,Vc .i64 (d.2+(1:Int))))
 else some (.inr d.1))
 (x,(0:Int)))
 fun N=>some N
def F123E:Zp:=Z5 238 Tryz.f238 116 [] (hS (hS (.seq (hS (.lp (en [(7,.rows Y3 false),pd 8 Y3] [0,1,2]) [(.exit 0,en [(7,.rows Y3 false)] [0,1,2])] (hS (.seq (hS (.seq (hS (.lp (en [(7,.rows Y3 false),(9,.own Y3 false),pd 10 Y3] [0,1,2,8]) [(.exit 2,en [(7,.rows Y3 false),(9,.own Y3 false)] [0,1,2,8])] .leaf)) .leaf)) .leaf)))) (.seq (hS (.lp (en [(7,.rows Y3 false),pd 11 Y3] [0,1,2]) [(.exit 4,en [(7,.rows Y3 false)] [1])] (hS (.seq (hS (.seq (.reg [(50,Y4)]) .leaf)) .leaf)))) (.seq (hS (.lp (en [(7,.rows Y3 false),pd 13 Y3] [1]) [(.exit 6,en [(7,.rows Y3 false)] [])] (hS (.seq (hS (.lp (en [(7,.rows Y3 false),pd 14 Y3] [1,13]) [(.exit 8,en [(7,.rows Y3 false)] [1,13])] (hS (.seq (hS (.lp (en [(7,.rows Y3 false),pd 15 Y3] [1,13,14]) [(.exit 10,en [(7,.rows Y3 false)] [1,13,14])] .leaf)) .leaf)))) .leaf)))) .leaf))))) (.p Wf (.p Y3 (.q Y4))) (.pd Zx) (u3 F123) (rws:=[153])
def F121:(El Wf)->(El Y3)->Option (El Wf):=fun u f=>
 Va (F123 u f false) fun g=>
 Va (F123 u f true) fun h=>
 Va
 (run
 (fun b=>
 bif decide (b.2<f) then
 Va
 (run
 (fun a=>
 bif decide (a.2<f) then
 Va
 (bif decide (b.2=a.2) then some true
 else Va (idx g b.2) fun v=>Va (idx v a.2) fun w=>some (decide ((14400:Int)<w)))
 fun x=>
 bif x then some (.inl (a.1,Vc .i64 (a.2+(1:Int))))
 else
 Va (idx g b.2) fun y=>
 Va (idx y a.2) fun i=>
 Va (idx h b.2) fun z=>
 Va (idx z a.2) fun c=>
 Va (idx g b.2) fun j=>
 Va (idx j a.2) fun d=>
 Va (Zy (decide (Vb a.1+Vb [(b.2,a.2,i,decide (c=d),())]<=ZC))) fun _=>
 Va
 (Va (idx h b.2) fun k=>
 Va (idx k a.2) fun l=>
 Va (idx g b.2) fun m=>
 Va (idx m a.2) fun n=>
 bif decide (n<l) then
 Va (idx h b.2) fun o=>Va (idx o a.2) fun p=>some (decide (p<=(14400:Int)))
 else some false)
 fun q=>
 bif q then
 Va (idx h b.2) fun r=>
 Va (idx r a.2) fun e=>
 Va
 (Zy
 (decide
 (Vb (a.1++[(b.2,a.2,i,decide (c=d),())])+Vb [(b.2,a.2,e,true,())]<=
 ZC)))
 fun _=>
 some
 (.inl
 (a.1++[(b.2,a.2,i,decide (c=d),())]++[(b.2,a.2,e,true,())],
 Vc .i64 (a.2+(1:Int))))
 else some (.inl (a.1++[(b.2,a.2,i,decide (c=d),())],Vc .i64 (a.2+(1:Int))))
 else some (.inr a.1))
 (b.1,(0:Int)))
 fun s=>some (.inl (s,Vc .i64 (b.2+(1:Int))))
 else some (.inr b.1))
 ([],(0:Int)))
 fun t=>some t
def F121E:Zp:=Z5 218 Tryz.f218 107 [F123E] (hS (hS (hS (.seq (hS (.lp (en [(7,.own KV false),pd 8 Y3] [1,5,6]) [(.exit 0,en [(7,.own KV false)] [])] (hS (.seq (hS (.lp (en [(7,.own KV false),pd 9 Y3] [1,5,6,8]) [(.exit 2,en [(7,.own KV false)] [1,5,6,8])] (hS (.seq (.seq (.seq (.reg [(39,Y4)]) .leaf) (hS (.seq (.reg [(92,Y4)]) .leaf))) .leaf)))) .leaf)))) .leaf)))) (.p Wf (.q Y3)) (.pd Wf) (u2 F121)
def F130:(El Zh)->Option (El Y3×El ZP):=fun a=>
 Va
 (run
 (fun s0=>
 bif decide (s0<(↑(Vb a.2.2.2.2.1):Int)) then
 Va (idx a.2.2.2.2.1 s0) fun e=>
 Va
 (Va (F127 e.1 (0:Int) (Vc .i64 ((↑(Vb a.1):Int) - (1:Int)))) fun n=>
 bif !n then some true
 else
 Va (F127 e.2.1 (0:Int) (Vc .i64 ((↑(Vb a.1):Int) - (1:Int)))) fun o=>
 bif !o then some true else some (decide (e.1=e.2.1)))
 fun p=>
 bif p then some (.inr (.inr (s0,(9:Int))))
 else
 Va (F127 e.2.2.1 (1:Int) (14400:Int)) fun q=>
 bif !q then some (.inr (.inr (s0,(2:Int))))
 else
 Va
 (run
 (fun j=>
 bif decide (j<s0) then
 Va (idx a.2.2.2.2.1 j) fun m=>
 Va
 (bif decide (m.1=e.1) then
 bif decide (m.2.1=e.2.1) then some (m.2.2.2.1==e.2.2.2.1) else some false
 else some false)
 fun r=>bif r then some (.inr (.inr (s0,(6:Int)))) else some (.inl (Vc .i64 (j+(1:Int))))
 else some (.inr (.inl ())))
 (0:Int))
 fun s=>Vf (fun _=>some (.inl (Vc .i64 (s0+(1:Int))))) (fun g=>some (.inr (.inr (g.1,g.2)))) s
 else some (.inr (.inl ())))
 (0:Int))
 fun k=>
 Vf
 (fun _=>
 Va (F121 a.2.2.2.2.1 (↑(Vb a.1):Int)) fun f=>
 bif !decide ((↑(Vb f):Int)=(↑(Vb a.2.2.2.2.1):Int)) then some ((0:Int),(18:Int))
 else
 Va
 (run
 (fun b=>
 bif decide (b<(↑(Vb f):Int)) then
 Va (idx f b) fun c=>
 Va (idx a.2.2.2.2.1 b) fun d=>
 bif
 !(decide (c.1=d.1) &&
 (decide (c.2.1=d.2.1) && (decide (c.2.2.1=d.2.2.1) &&c.2.2.2.1==d.2.2.2.1))) then
 some (.inr (.inr ((0:Int),(18:Int))))
 else some (.inl (Vc .i64 (b+(1:Int))))
 else some (.inr (.inl ())))
 (0:Int))
 fun l=>Vf (fun _=>some ((0:Int),(0:Int))) (fun h=>some (h.1,h.2)) l)
 (fun i=>some (i.1,i.2)) k
def F130E:Zp:=Wm 173 Tryz.f173 111 [F127E,F121E] (hS (.seq (hS (.lp (en [pd 4 Y3] [1]) [(.exit 0,en [] [1]),(.ret,en [pd 2 Y3,pd 3 ZP] [])] (hS (.seq (hS (.seq (.seq (.reg [(46,Y4)]) .leaf) (hS (hS (.lp (en [pd 6 Y3] [1,4,5]) [(.exit 2,en [] [1,4]),(.ret,en [pd 2 Y3,pd 3 ZP] [])] (hS (.seq (hS (.seq (.reg [(81,Y4)]) .leaf)) .leaf))))))) .leaf)))) (hS (hS (.seq (hS (.lp (en [pd 9 Y3] [1,8]) [(.exit 4,e0),(.ret,en [pd 2 Y3,pd 3 ZP] [])] .leaf)) .leaf))))) (.q Zh) (.p Y3 (.q ZP)) (u1 F130) (fun z=>(((),()),(z.1,z.2,()))) (fun y=>(y.2.1,y.2.2.1))
def F122:(El KK)->Option (El Y3×El ZP):=fun a=>
 Va
 (Va (F127 a.2.1 (0:Int) (1000000:Int)) fun n=>
 bif !n then some true
 else
 Va (F127 a.2.2.1 (0:Int) (86400:Int)) fun o=>
 bif !o then some true else Va (F127 a.2.2.2.1 (0:Int) (1000000:Int)) fun p=>some !p)
 fun q=>
 bif q then some ((-1:Int),(2:Int))
 else
 bif decide ((16:Int)<(↑(Vb a.1):Int)) then some ((0:Int),(5:Int))
 else
 Va
 (run
 (fun b=>
 bif decide (b<(↑(Vb a.1):Int)) then
 Va (idx a.1 b) fun c=>
 Va (F126 c.1) fun r=>
 bif !r then some (.inr (.inr (b,(12:Int))))
 else
 Va
 (run
 (fun f=>
 bif decide (f<b) then
 Va (idx a.1 f) fun s=>
 bif decide (s.1=c.1) then some (.inr (.inr (b,(6:Int)))) else some (.inl (Vc .i64 (f+(1:Int))))
 else some (.inr (.inl ())))
 (0:Int))
 fun t=>
 Vf
 (fun _=>
 Va
 (Va (F127 c.2.1 (0:Int) (1000000:Int)) fun g=>
 bif !g then some true
 else
 Va (F127 c.2.2.1 (1:Int) (8:Int)) fun h=>
 bif !h then some true
 else
 Va (F127 c.2.2.2.1 (1:Int) (16:Int)) fun i=>
 bif !i then some true
 else
 Va (F127 c.2.2.2.2.1 (0:Int) (86400:Int)) fun j=>
 bif !j then some true else Va (F127 c.2.2.2.2.2.1 (1:Int) (255:Int)) fun k=>some !k)
 fun l=>bif l then some (.inr (.inr (b,(2:Int)))) else some (.inl (Vc .i64 (b+(1:Int)))))
 (fun d=>some (.inr (.inr (d.1,d.2)))) t
 else some (.inr (.inl ())))
 (0:Int))
 fun m=>Vf (fun _=>some ((0:Int),(0:Int))) (fun e=>some (e.1,e.2)) m
def F122E:Zp:=Wm 174 Tryz.f174 88 [F126E,F127E] (hS (.seq (.seq (.reg [(22,Y4)]) .leaf) (hS (.seq (hS (.lp (en [pd 4 Y3] [1]) [(.exit 0,e0),(.ret,en [pd 2 Y3,pd 3 ZP] [])] (hS (.seq (hS (hS (.seq (hS (.lp (en [pd 6 Y3] [1,4,5]) [(.exit 2,en [] [1,4,5]),(.ret,en [pd 2 Y3,pd 3 ZP] [])] .leaf)) (.seq (.reg [(86,Y4)]) .leaf)))) .leaf)))) .leaf)))) (.q KK) (.p Y3 (.q ZP)) (u1 F122) (fun z=>(((),()),(z.1,z.2,()))) (fun y=>(y.2.1,y.2.2.1))
def F120:(El Zh)->Option (El Y3×El Y3×El ZP):=fun a=>
 Va (F133 a.1) fun h=>
 bif !decide (h.2=(0:Int)) then some ((0:Int),h.1,h.2)
 else
 Va (F131 a.2.1) fun i=>
 bif !decide (i.2=(0:Int)) then some ((1:Int),i.1,i.2)
 else
 bif decide ((1024:Int)<(↑(Vb a.2.2.1):Int)) then some ((2:Int),(0:Int),(5:Int))
 else
 Va
 (run
 (fun f=>
 bif decide (f<(↑(Vb a.2.2.1):Int)) then
 Va (F132 a f) fun j=>
 bif !decide (j=(0:Int)) then some (.inr (.inr ((2:Int),f,j))) else some (.inl (Vc .i64 (f+(1:Int))))
 else some (.inr (.inl ())))
 (0:Int))
 fun l=>
 Vf
 (fun _=>
 bif decide ((1024:Int)<(↑(Vb a.2.2.2.1):Int)) then some ((3:Int),(0:Int),(5:Int))
 else
 Va
 (run
 (fun g=>
 bif decide (g<(↑(Vb a.2.2.2.1):Int)) then
 Va (F129 a g) fun k=>
 bif !decide (k=(0:Int)) then some (.inr (.inr ((3:Int),g,k)))
 else some (.inl (Vc .i64 (g+(1:Int))))
 else some (.inr (.inl ())))
 (0:Int))
 fun m=>
 Vf
 (fun _=>
 Va (F130 a) fun b=>
 bif !decide (b.2=(0:Int)) then some ((4:Int),b.1,b.2)
 else
 Va (F122 a.2.2.2.2.2.1) fun c=>
 bif !decide (c.2=(0:Int)) then some ((5:Int),c.1,c.2) else some ((0:Int),(0:Int),(0:Int)))
 (fun d=>some (d.1,d.2.1,d.2.2)) m)
 (fun e=>some (e.1,e.2.1,e.2.2)) l
def F120E:Zp:=Wm 106 Tryz.f106 84 [F133E,F131E,F132E,F129E,F130E,F122E] (hS (hS (hS (hS (hS (hS (.seq (hS (.lp (en [pd 7 Y3] [1]) [(.exit 0,en [] [1]),(.ret,en [pd 2 Y3,pd 3 Y3,pd 4 ZP] [])] .leaf)) (hS (.seq (hS (.lp (en [pd 8 Y3] [1]) [(.exit 2,en [] [1]),(.ret,en [pd 2 Y3,pd 3 Y3,pd 4 ZP] [])] .leaf)) .leaf))))))))) (.q Zh) (.p Y3 (.p Y3 (.q ZP))) (u1 F120) (fun z=>(((),()),(z.1,z.2.1,z.2.2,()))) (fun y=>(y.2.1,y.2.2.1,y.2.2.2.1))
def F125:(El Zh)->Option (El Y4):=fun a=>Va (F120 a) fun b=>some (decide (b.2.2=(0:Int)))
def F125E:Zp:=Z5 68 Tryz.f68 14 [F120E] .leaf (.q Zh) (.pd Y4) (u1 F125)
def F134:(El Zh)->(El Zm)->Option (El ZP):=fun a b=>
 Va (F125 a) fun c=>
 bif !c then some (21:Int) else Va (F135 (↑(Vb a.1):Int) b) fun d=>bif !d then some (22:Int) else some (0:Int)
def F134E:Zp:=Z5 31 Tryz.f31 14 [F135E,F125E] .leaf (.p Zh (.q Zm)) (.pd ZP) (u2 F134) (rws:=[48])
def F63:(El Zh)->(El Zm)->(El Y3)->Option (El ZP):=fun d a b=>
 Va (F134 d a) fun c=>
 bif !decide (c=(0:Int)) then some c
 else
 Va (bif a.2.2.2.1 then some true else some a.2.2.2.2.2.2.2.2.2.1) fun e=>
 bif e then some (22:Int)
 else
 Va (bif decide (b<a.2.2.1) then some true else some (decide ((3155932800:Int)<b))) fun f=>
 bif f then some (10:Int) else some (0:Int)
def F63E:Zp:=Z5 13 Tryz.f13 28 [F134E] (hS (hS (hS (.seq (.seq (.reg [(19,Y4)]) .leaf) (.seq (.seq (.reg [(27,Y4)]) .leaf) .leaf))))) (.p Zh (.p Zm (.q Y3))) (.pd ZP) (u3 F63)
def F90:(El XY)->(El XY)->Option (El Y3):=fun a b=>
 Va a[Vd (0:Int)]? fun c=>
 Va b[Vd (0:Int)]? fun d=>
 bif !decide (c=d) then Va a[Vd (0:Int)]? fun e=>Va b[Vd (0:Int)]? fun f=>Va (F8 e f) fun g=>some g
 else Va a[Vd (1:Int)]? fun h=>Va b[Vd (1:Int)]? fun i=>Va (F8 h i) fun j=>some j
def F90S:Tr.Spec:= {args:=(.cons (.pd XY) (.cons (.pd XY) .nil)),res:=(.cons (.pd Y3) .nil),fns:=[],α:=El Y3,f:=fun x=>F90 x.1 x.2.1,unp:=fun z=>(((),(),()),(z,()))}
theorem F90_ok:ZL Tryz.prog 61 F90S:=WS (rws:=[]) (zxs:=[]) (nt:=20) (m:=[(62,[F8E.S])]) (fn:=Tryz.f61) (hint:=.leaf) (pack:=fun y=>y.2.1) KZ tab_okH ⟨⟨F8E.ok,trivial⟩,trivial⟩ fun x z h=>.trans (by kernel_rfl) h
def F90E:Zp:=⟨61,F90S,F90_ok⟩
def F149(a:List (El XY)):Option (El Y63):=Tr.cmF a
def F149S:Tr.Spec:= {args:=(.cons (.own XY false) .nil),res:=(.cons (.pd Y63) .nil),fns:=[],α:=El Y63,f:=fun x=>F149 x.1,unp:=fun z=>(((),()),(z,()))}
theorem F149_ok:ZL Tryz.prog 63 F149S:=Tr.cmp_ok
def F149E:Zp:=⟨63,F149S,F149_ok⟩
def F159(a:List (El XY))(_:Unit):Option (List (El XY)):=Tr.sortX F90 a
def F159S:Tr.Spec:= {args:=(.cons (.own XY true) (.cons (.fn 61 .nil) .nil)),res:=.nil,fns:=[61],α:=List (El XY),f:=fun x=>F159 x.1 x.2.1,unp:=fun z=>((z,(),()),())}
theorem F159_ok:ZL Tryz.prog 60 F159S:=Tr.sortFuncX_ok (ρ:=Tryz.sort60_ren) Tryz.sort60 rfl Tryz.isAgg65 Tryz.sizeOf65 F90_ok
def F159E:Zp:=⟨60,F159S,F159_ok⟩
def F89:(El He)->Option (El Y63):=fun x=>
 Va
 (run
 (fun s0=>
 bif decide (s0.2<(↑(Vb x):Int)) then
 Va (idx x s0.2) fun j=>
 Va (Zy (decide (Vb s0.1+Vb [[j.2.1.1,j.2.1.2.1]]<=ZC))) fun _=>
 some (.inl (s0.1++[[j.2.1.1,j.2.1.2.1]],Vc .i64 (s0.2+(1:Int))))
 else some (.inr s0.1))
 ([],(0:Int)))
 fun y=>
 Va (F159 y ()) fun z=>
 Va (F149 z) fun d=>
 Va
 (run
 (fun c=>
 bif decide (c.2<(↑(Vb d):Int)) then
 Va (idx d c.2) fun e=>
 Va (sliceB (Vb d) (Vb d) (some (Vc .i64 (c.2+(1:Int)))) none) fun f=>
 Va
 (run
 (fun g=>
 bif decide (g.2<(↑(Vb (Vg (f.2 - f.1) (Vh f.1 d))):Int)) then
 Va (idx (Vg (f.2 - f.1) (Vh f.1 d)) g.2) fun h=>
 Va
 (bif g.1 then some true
 else
 Va h[Vd (0:Int)]? fun k=>
 Va e[Vd (0:Int)]? fun l=>
 bif decide (l<=k) then
 Va h[Vd (1:Int)]? fun m=>Va e[Vd (1:Int)]? fun n=>some (decide (m<=n))
 else some false)
 fun o=>some (.inl (o,Vc .i64 (g.2+(1:Int))))
 else some (.inr g.1))
 (false,(0:Int)))
 fun p=>
 Va (sliceB (Vb d) (Vb d) none (some c.2)) fun a=>
 Va
 (run
 (fun b=>
 bif decide (b.2<(↑(Vb (Vg (a.2 - a.1) (Vh a.1 d))):Int)) then
 Va (idx (Vg (a.2 - a.1) (Vh a.1 d)) b.2) fun i=>
 Va
 (bif b.1 then some true
 else
 Va i[Vd (0:Int)]? fun q=>
 Va e[Vd (0:Int)]? fun r=>
 bif decide (r<=q) then
 Va i[Vd (1:Int)]? fun s=>Va e[Vd (1:Int)]? fun t=>some (decide (s<=t))
 else some false)
 fun u=>some (.inl (u,Vc .i64 (b.2+(1:Int))))
 else some (.inr b.1))
 (p,(0:Int)))
 fun v=>
 bif !v then
 Va (Zy (decide (Vb c.1+Vb [e]<=ZC))) fun _=>
 some (.inl (c.1++[e],Vc .i64 (c.2+(1:Int))))
 else some (.inl (c.1,Vc .i64 (c.2+(1:Int))))
 else some (.inr c.1))
 ([],(0:Int)))
 fun w=>some w
def F89E:Zp:=Z5 25 Tryz.f25 99 [F159E,F90E,F149E] (hS (hS (.seq (hS (.lp (en [(3,.own XY false),pd 16 Y3] [14,15]) [(.exit 0,en [(3,.own XY false)] [])] .leaf)) (hS (hS (hS (.seq (hS (.lp (en [(6,.own XY false),pd 37 Y3] [3,35,36]) [(.exit 2,en [(6,.own XY false)] [])] (hS (hS (.seq (hS (hS (.seq (hS (.lp (en [pd 9 Y4,pd 47 Y3] [3,6,7,8,35,36,37,45,46]) [(.exit 4,en [pd 9 Y4] [3,6,7,8,35,36,37])] (hS (hS (.seq (hS (.reg [(9,Y4)])) .leaf))))) (.seq (hS (.lp (en [pd 9 Y4,pd 71 Y3] [3,6,8,35,36,37,69,70]) [(.exit 6,en [pd 9 Y4] [3,6,8,35,36,37])] (hS (hS (.seq (hS (.reg [(9,Y4)])) .leaf))))) .leaf)))) .leaf))))) .leaf))))))) (.q He) (.pd Y63) (u1 F89)
def F60:(El Y9)->(El Y3)->(El Y3)->Option (El Xp):=fun c a b=>
 some
 ((0:Int),(0:Int),(0:Int),c,(0:Int),false,false,[((0:Int),a,a,true,false,()),((1:Int),b,b,false,true,())],())
def F60E:Zp:=Z5 69 Tryz.f69 16 [] .leaf (.p Y9 (.p Y3 (.q Y3))) (.pd Xp) (u3 F60)
def F61:Option (El Zh):=Va (F60 [(114:UInt8),(48:UInt8)] (100:Int) (300:Int)) fun a=>
 Va (F60 [(114:UInt8),(49:UInt8)] (200:Int) (350:Int)) fun b=>
 Va (F60 [(114:UInt8),(50:UInt8)] (250:Int) (340:Int)) fun c=>
 some
 ([([(65:UInt8)],(0:Int),false,(0:Int),()),([(66:UInt8)],(0:Int),false,(0:Int),())],[([(82:UInt8)],(0:Int),false,())],
 [a,b,c],([]:List (El Yt)),([]:List (El KV)),([([(112:UInt8)],(150:Int),(1:Int),(16:Int),(0:Int),(255:Int),())],(0:Int),(0:Int),(0:Int),()),())
abbrev F61A:Pats:=.nil
abbrev F61R:Pats:=(.cons (.pd Zh) .nil)
def F61S:Tr.Spec:= {args:=F61A,res:=F61R,fns:=[],α:=El Zh,f:=fun _=>F61,unp:=fun z=>((),(z,()))}
def F61M:List (Nat×List Tr.Spec):=[(69,[F60E.S])]
def F61H:KR:=.leaf
theorem F61_eq:(XO (mkE tyTabH mapTabH pkTabH [] [] F61M 18 bdTabH) (KM Tryz.f32) Tryz.f32.results F61H F61A F61R (fun y=>y.2.1) (()):Option (El Zh))=F61:=by kernel_rfl
theorem F61_ok:ZL Tryz.prog 32 F61S:=WS (m:=F61M) (fn:=Tryz.f32) (hint:=F61H) (pack:=fun y=>y.2.1) KZ tab_okH ⟨⟨F60E.ok,trivial⟩,trivial⟩ fun _ z h=>(F61_eq).trans h
def F62:Option (El Y4):=some true
abbrev F62A:Pats:=.nil
abbrev F62R:Pats:=(.cons (.pd Y4) .nil)
def F62S:Tr.Spec:= {args:=F62A,res:=F62R,fns:=[],α:=El Y4,f:=fun _=>F62,unp:=fun z=>((),(z,()))}
def F62M:List (Nat×List Tr.Spec):=[(15,[F92E.S]),(23,[F88E.S]),(25,[F89E.S]),(27,[F91E.S]),(32,[F61S])]
def F62H:KR:=(hS (hS (hS (hS (.seq (.seq (.reg [(37,Y4)]) .leaf) (hS (hS (hS (hS (hS (.seq (.seq (.reg [(77,Y4)]) .leaf) (.seq (.reg [(0,Y4)]) .leaf))))))))))))
theorem F62_eq:(XO (mkE tyTabH mapTabH pkTabH [] [] F62M 158 bdTabH) (KM Tryz.f14) Tryz.f14.results F62H F62A F62R (fun y=>y.2.1) (()):Option (El Y4))=F62:=by kernel_rfl
theorem F62_ok:ZL Tryz.prog 14 F62S:=WS (m:=F62M) (fn:=Tryz.f14) (hint:=F62H) (pack:=fun y=>y.2.1) KZ tab_okH ⟨⟨F92E.ok,trivial⟩,⟨F88E.ok,trivial⟩,⟨F89E.ok,trivial⟩,⟨F91E.ok,trivial⟩,⟨F61_ok,trivial⟩,trivial⟩ fun _ z h=>(F62_eq).trans h
def F124:(El Zh)->Option (El Y4):=fun a=>
 Va
 (bif decide ((5:Int)<(↑(Vb a.1):Int)) then some true
 else
 bif decide ((7:Int)<(↑(Vb a.2.2.1):Int)) then some true
 else
 bif decide ((30:Int)<(↑(Vb a.2.2.2.1):Int)) then some true
 else some (decide ((60:Int)<(↑(Vb a.2.2.2.2.1):Int))))
 fun c=>
 bif c then some false
 else
 Va
 (run
 (fun b=>
 bif decide (b<(↑(Vb a.2.2.1):Int)) then
 Va (idx a.2.2.1 b) fun d=>
 bif decide ((6:Int)<(↑(Vb d.2.2.2.2.2.2.2.1):Int)) then some (.inr (.inr false))
 else some (.inl (Vc .i64 (b+(1:Int))))
 else some (.inr (.inl ())))
 (0:Int))
 fun e=>Vf (fun _=>Va (F125 a) fun f=>some f) (fun g=>some g) e
def F124E:Zp:=Z5 44 Tryz.f44 43 [F125E] (hS (.seq (.seq (.reg [(25,Y4)]) .leaf) (.seq (hS (.lp (en [pd 3 Y3] [1]) [(.exit 0,en [] [1]),(.ret,en [pd 2 Y4] [])] .leaf)) .leaf))) (.q Zh) (.pd Y4) (u1 F124)
def F64:(El Zh)->(El Zm)->Option (El Y4):=fun b a=>
 Va
 (Va (F124 b) fun c=>
 bif c then
 Va (F135 (↑(Vb b.1):Int) a) fun d=>
 bif d then
 bif !a.2.2.2.1 then bif !a.2.2.2.2.2.2.2.2.2.1 then some (decide (a.2.2.2.2.1<=(3:Int))) else some false
 else some false
 else some false
 else some false)
 fun e=>some e
def F64E:Zp:=Z5 16 Tryz.f16 29 [F124E,F135E] (hS (.seq (.reg [(4,Y4)]) .leaf)) (.p Zh (.q Zm)) (.pd Y4) (u2 F64)
end
end Q

