/- More functions of the program as functions of Lean, and that the program computes them; printed by a program of mine. Conditions: none. -/
import Derived.Test.YtdpenljjnfmgiaaGreatFin45ha
open Tr Go Go.Proofs Tryz
open Int renaming toNat ->Vd
open Go.IntKind renaming wrap ->Vc
open List renaming length ->Vb,set ->Vg,take ->Vh,drop ->Vi,replicate ->Vj
open Option renaming bind ->Va
open Sum renaming elim ->Ve
open UInt8 renaming toNat ->Vf
open Option renaming some ->U,none ->Ub
open Bool renaming true ->Uc,false ->Ud
open Decidable renaming decide ->Ue
namespace Q
noncomputable section
def F16:(El KL)->(El JX)->(El Wl)->(El Y3)->Option (El Y3):=fun b c d a=>
 Va
 (bif Ue ((0:Int)<a) then
 Va (idx d (Vc .i64 (a - (1:Int)))) fun e=>
 Va (idx d a) fun f=>Va (F18 e.2.1 f.1 b.2.2.1) fun g=>U g
 else U Ud)
 fun h=>bif h then U (Tr.imax (0:Int) (Vc .i64 (c.2.1 - b.2.1))) else U c.2.1
def F16E:Zn:=ZZ 201 f201 35 [F18E] (hS (.seq (.seq (.reg [(26,Y4)]) .leaf) .leaf)) (.p KL (.p JX (.p Wl (.q Y3)))) (.pd Y3) (u4 F16)
def F15:(El Zd3)->(El Y3)->(El Y3)->Option (El Y4):=fun a b c=>
 Va
 (bif !a.1 then U Uc
 else
 bif Ue (b<a.2.1) then U Uc
 else bif Ue (b=a.2.1) then U (Ue (c<a.2.2.1)) else U Ud)
 fun d=>U d
def F15E:Zn:=ZZ 202 f202 28 [] (hS (.seq (.reg [(6,Y4)]) .leaf)) (.p Zd3 (.p Y3 (.q Y3))) (.pd Y4) (u3 F15)
def F14:(El Y3)->(El Y3)->(El Y3)->(El KL)->(El Wl)->(El JB)->Option (El JB):=fun b d f g e a=>
 Va (idx g.1 f) fun n=>
 Va (sliceB (Vb e) (Vb e) (U b) (U (Vc .i64 (d+(1:Int))))) fun h=>
 Va (F83 n (Vh (h.2 - h.1) (Vi h.1 e))) fun o=>
 bif !o then U a
 else
 Va (idx g.1 f) fun p=>
 Va (F16 g p e b) fun k=>
 Va (Zs (Vc .i64 (d+(1:Int))) (9:Nat)) fun q=>
 Va a[q]? fun l=>
 Va (Zs (Vc .i64 (d+(1:Int))) (9:Nat)) fun r=>
 Va a[r]? fun m=>
 Va (Zs b (9:Nat)) fun s=>
 Va a[s]? fun i=>
 Va (F15 i (Vc .i64 (k+l.2.1)) (Vc .i64 (m.2.2.1+(1:Int)))) fun j=>
 bif j then
 Va (Zs b (9:Nat)) fun c=>
 Va a[c]? fun _=>
 U
 (Vg a c
 (Uc,Vc .i64 (k+l.2.1),Vc .i64 (m.2.2.1+(1:Int)),(f,b,d,k,()),()))
 else U a
def F14E:Zn:=Wf 199 f199 62 [F83E,F16E,F15E] .leaf (.p Y3 (.p Y3 (.p Y3 (.cons (.ro KL) (.cons (.ro Wl) (.cons (.var JB (.pd JB)) .nil)))))) .nil (u6 F14) (fun z=>(((),(),(),(),(),z,()),())) (fun y=>y.1.2.2.2.2.2.1)
def F13:(El KL)->(El Wl)->Option (El JB):=fun f d=>
 Va (Zs (↑(Vb d):Int) (9:Nat)) fun g=>
 Va (Tr.zeroEl JB)[g]? fun h=>
 Va
 (run
 (fun b=>
 bif Ue ((0:Int)<=b.2) then
 Va
 (run
 (fun c=>
 bif Ue (c.2<(↑(Vb d):Int)) then
 Va
 (run
 (fun a=>
 bif Ue (a.2<(↑(Vb f.1):Int)) then
 Va (Zs (Vc .i64 (c.2+(1:Int))) (9:Nat)) fun i=>
 Va a.1[i]? fun j=>
 bif j.1 then
 Va (F14 b.2 c.2 a.2 f d a.1) fun k=>U (.inl (k,Vc .i64 (a.2+(1:Int))))
 else U (.inl (a.1,Vc .i64 (a.2+(1:Int))))
 else U (.inr a.1))
 (c.1,(0:Int)))
 fun l=>U (.inl (l,Vc .i64 (c.2+(1:Int))))
 else U (.inr c.1))
 (b.1,b.2))
 fun m=>U (.inl (m,Vc .i64 (b.2 - (1:Int))))
 else U (.inr b.1))
 (Vg (Tr.zeroEl JB) g (Uc,h.2),Vc .i64 ((↑(Vb d):Int) - (1:Int))))
 fun e=>U e
def F13E:Zn:=ZZ 138 f138 47 [F14E] (hS (hS (hS (hS (hS (.seq (hS (.lp ⟨[(5,.var JB (.pd JB)),pd 8 Y3],[(7,199,[2,3,5])],[2,3,4,6],[],[],[]⟩ [(.exit 0,en [(5,.var JB (.pd JB))] [4])] (hS (.seq (hS (.lp ⟨[(5,.var JB (.pd JB)),pd 9 Y3],[(7,199,[2,3,5])],[2,3,4,6,8],[],[],[]⟩ [(.exit 2,⟨[(5,.var JB (.pd JB))],[(7,199,[2,3,5])],[2,3,4,6,8],[],[],[]⟩)] (hS (.seq (hS (.lp ⟨[(5,.var JB (.pd JB)),pd 32 Y3],[(7,199,[2,3,5])],[2,3,4,6,8,9,31],[],[],[]⟩ [(.exit 4,⟨[(5,.var JB (.pd JB))],[(7,199,[2,3,5])],[2,3,4,6,8,9],[],[],[]⟩)] .leaf)) .leaf)))) .leaf)))) .leaf)))))) (.p KL (.q Wl)) (.pd JB) (u2 F13)
def F12:(El KL)->(El Y3)->Option (El Y3):=fun a b=>
 Va (bif Ue ((0:Int)<a.2.2.2.1) then U (Ue (a.2.2.2.1<b)) else U Ud) fun c=>
 bif c then U a.2.2.2.1 else U b
def F12E:Zn:=ZZ 139 f139 17 [] (hS (.seq (.seq (.reg [(13,Y4)]) .leaf) .leaf)) (.p KL (.q Y3)) (.pd Y3) (u2 F12)
def F11:(El KL)->(El Wl)->Option (El Y3×El Xb×El ZI):=fun c d=>
 Va (F17 c d) fun g=>
 bif !Ue (g=(0:Int)) then U ((0:Int),[],g)
 else
 Va (F13 c d) fun b=>
 Va b[Vd (0:Int)]? fun i=>
 bif !i.1 then U ((0:Int),[],(34:Int))
 else
 Va
 (run
 (fun a=>
 bif Ue (a.2<(↑(Vb d):Int)) then
 Va (Zs a.2 (9:Nat)) fun j=>
 Va b[j]? fun h=>
 Va (Zz (Ue (Vb a.1+Vb [h.2.2.2.1]<=ZD))) fun _=>
 Va (Zs a.2 (9:Nat)) fun k=>
 Va b[k]? fun l=>U (.inl (a.1++[h.2.2.2.1],Vc .i64 (l.2.2.2.1.2.2.1+(1:Int))))
 else U (.inr a.1))
 ([],(0:Int)))
 fun m=>Va b[Vd (0:Int)]? fun e=>Va (F12 c e.2.1) fun f=>U (f,m,(0:Int))
def F11E:Zn:=Wf 83 f83 47 [F17E,F13E,F12E] (hS (hS (hS (hS (hS (.seq (hS (.lp (en [(9,.own HC Ud),pd 10 Y3] [1,2,8]) [(.exit 0,en [(9,.own HC Ud)] [2,8])] .leaf)) .leaf)))))) (.p KL (.q Wl)) (.p Y3 (.p Xb (.q ZI))) (u2 F11) (fun z=>(((),(),()),(z.1,z.2.1,z.2.2,()))) (fun y=>(y.2.1,y.2.2.1,y.2.2.2.1))
def F55:(El Jk)->Option (El Y3):=fun b=>
 Va
 (run
 (fun s0=>
 bif Ue (s0.2<(↑(Vb b.1):Int)) then
 Va (idx b.1 s0.2) fun a=>
 Va
 (bif a.1 then U Uc
 else
 bif Ue (a.2.2.2.2.2.2.1<(0:Int)) then U Uc
 else
 bif Ue (a.2.2.2.2.2.2.2.1<a.2.2.2.2.2.2.1) then U Uc
 else U (Ue ((14400:Int)<Vc .i64 (a.2.2.2.2.2.2.2.1 - a.2.2.2.2.2.2.1))))
 fun c=>
 bif c then U (.inl (s0.1,Vc .i64 (s0.2+(1:Int))))
 else
 U
 (.inl
 (Vc .i64 (s0.1+Vc .i64 (a.2.2.2.2.2.2.2.1 - a.2.2.2.2.2.2.1)),
 Vc .i64 (s0.2+(1:Int))))
 else U (.inr s0.1))
 ((0:Int),(0:Int)))
 fun d=>U d
def F55E:Zn:=ZZ 84 f84 44 [] (hS (hS (.seq (hS (.lp (en [pd 3 Y3,pd 9 Y3] [7,8]) [(.exit 0,en [pd 3 Y3] [])] (hS (hS (.seq (hS (.seq (.seq (.reg [(34,Y4)]) .leaf) .leaf)) .leaf))))) .leaf))) (.q Jk) (.pd Y3) (u1 F55)
def F52:(El Zh)->(El Zk)->(El Jk)->Option (El JY×El Xb×El ZI):=fun d e a=>
 Va (F53 d a) fun b=>
 bif !Ue (b.2=(0:Int)) then U (((0:Int),(0:Int),(0:Int),(0:Int),(0:Int),()),[],b.2)
 else
 Va (F11 d.2.2.2.2.2.1 b.1) fun c=>
 bif !Ue (c.2.2=(0:Int)) then U (((0:Int),(0:Int),(0:Int),(0:Int),(0:Int),()),[],c.2.2)
 else
 Va (F55 a) fun f=>
 Va
 (bif Ue ((0:Int)<(↑(Vb a.1):Int)) then
 Va (idx a.1 (0:Int)) fun g=>
 Va (idx a.1 (Vc .i64 ((↑(Vb a.1):Int) - (1:Int)))) fun h=>
 U (g.2.2.2.2.2.2.1,h.2.2.2.2.2.2.2.1,(↑(Vb b.1):Int),c.1,f,())
 else U (e.2.2.1,e.2.2.1,(↑(Vb b.1):Int),c.1,f,()))
 fun i=>U (i,c.2.1,(0:Int))
def F52E:Zn:=Wf 38 f38 68 [F53E,F11E,F55E] (hS (hS (hS (hS (hS (hS (.seq (hS (hS (.cnd (U ((en [] [6,12]),[(.normal,en [(13,.var JY (.pd JY))] [6,12])])) .leaf .leaf))) .leaf))))))) (.p Zh (.p Zk (.q Jk))) (.p JY (.p Xb (.q ZI))) (u3 F52) (fun z=>(((),(),(),()),(z.1,z.2.1,z.2.2,()))) (fun y=>(y.2.1,y.2.2.1,y.2.2.2.1))
def F97(a:El Zh)(b:El Zk)(c:El H6)(d:El Y3):Option (El Wm):=Zap a b c d
def F97S:Tr.Spec:= {args:=(.cons (.pd Zh) (.cons (.pd Zk) (.cons (.pd H6) (.cons (.pd Y3) .nil)))),res:=(.cons (.pd Wm) .nil),fns:=[],α:=El Wm,f:=fun x=>F97 x.1 x.2.1 x.2.2.1 x.2.2.2.1,unp:=fun z=>(((),(),(),(),()),(z,()))}
theorem F97_ok:ZS Tryz.prog 37 F97S:=ZrE
def F97E:Zn:=⟨37,F97S,F97_ok⟩
def F114:(El JY)->Option (El X4):=fun a=>U [a.1,a.2.1,a.2.2.1]
def F114E:Zn:=ZZ 42 f42 10 [] .leaf (.q JY) (.pd X4) (u1 F114)
def F96:(El JY)->(El JY)->Option (El Y4):=fun a b=>
 Va
 (bif Ue (a.2.2.2.1<b.2.2.2.1) then U Uc
 else bif Ue (a.2.2.2.1=b.2.2.2.1) then U (Ue (a.2.2.2.2.1<b.2.2.2.2.1)) else U Ud)
 fun c=>U c
def F96E:Zn:=ZZ 85 f85 24 [] (hS (.seq (.reg [(4,Y4)]) .leaf)) (.p JY (.q JY)) (.pd Y4) (u2 F96)
def F117:(El X4)->(El X4)->Option (El Y4):=fun a b=>
 Va
 (Va (Tr.eqEl.eqs (Tr.eqEl (Tr.Ty.int .i64)) a b) fun c=>
 bif !c then
 Va a[Vd (0:Int)]? fun d=>
 Va b[Vd (0:Int)]? fun e=>
 bif Ue (e<=d) then
 Va a[Vd (1:Int)]? fun f=>
 Va b[Vd (1:Int)]? fun g=>
 bif Ue (f<=g) then Va a[Vd (2:Int)]? fun h=>Va b[Vd (2:Int)]? fun i=>U (Ue (h<=i))
 else U Ud
 else U Ud
 else U Ud)
 fun j=>U j
def F117E:Zn:=ZZ 86 f86 29 [] (hS (.seq (.reg [(4,Y4)]) .leaf)) (.p X4 (.q X4)) (.pd Y4) (u2 F117)
def F94:(El Wy)->(El X4)->Option (El Y4):=fun a b=>Va (F114 a.2.1) fun c=>Va (F117 b c) fun d=>U d
def F94E:Zn:=ZZ 88 f88 9 [F114E,F117E] .leaf (.p Wy (.cons (.ro X4) .nil)) (.pd Y4) (u2 F94)
def F177:(El GB)->((El X4×Unit))->Option (El Y3):=fun a b=>
 Va
 (run
 (fun s0=>
 bif Ue (s0<(↑(Vb a):Int)) then
 Va (idx a s0) fun c=>
 Va (F94 c b.1) fun d=>bif d then U (.inr (.inr s0)) else U (.inl (Vc .i64 (s0+(1:Int))))
 else U (.inr (.inl ())))
 (0:Int))
 fun e=>Ve (fun _=>U (-1:Int)) (fun f=>U f) e
def F177E:Zn:=ZZ 140 f140 19 [F94E] (hS (.seq (hS (.lp (en [pd 8 Y3] [0,1,7]) [(.exit 0,en [] [1]),(.ret,en [pd 4 Y3] [1])] .leaf)) .leaf)) (.p GB (.cons (.fn 88 (.cons (.ro X4) .nil)) .nil)) (.pd Y3) (u2 F177) (fns:=[88])
def F175:(List (El Wy))->((El X4×Unit))->Option (List (El Wy)):=fun d g=>
 Va (F177 d g) fun e=>
 bif Ue (e=(-1:Int)) then U d
 else
 Va
 (run
 (fun b=>
 bif Ue (b.2.2<(↑(Vb b.1):Int)) then
 Va (Zs b.2.2 (Vb b.1)) fun j=>
 Va b.1[j]? fun h=>
 Va (F94 h g.1) fun k=>
 bif !k then
 Va (Zs b.2.1 (Vb b.1)) fun i=>
 Va b.1[i]? fun _=>
 U (.inl (Vg b.1 i h,Vc .i64 (b.2.1+(1:Int)),Vc .i64 (b.2.2+(1:Int))))
 else U (.inl (b.1,b.2.1,Vc .i64 (b.2.2+(1:Int))))
 else U (.inr (b.1,b.2.1)))
 (d,e,Vc .i64 (e+(1:Int))))
 fun c=>
 Va (sliceB (Vb c.1) (Vb c.1) (U c.2) Ub) fun a=>
 Va (Zz (Ue (a.1+(a.2 - a.1)<=Vb c.1))) fun _=>
 Va
 (sliceB (Vb (Vh a.1 c.1++Vj (a.2 - a.1) (((([]:List (El KZ)),()),((0:Int),(0:Int),(0:Int),(0:Int),(0:Int),()),([]:List (El HC)),()))++Vi (a.1+(a.2 - a.1)) c.1))
 (Vb (Vh a.1 c.1++Vj (a.2 - a.1) (((([]:List (El KZ)),()),((0:Int),(0:Int),(0:Int),(0:Int),(0:Int),()),([]:List (El HC)),()))++Vi (a.1+(a.2 - a.1)) c.1)) Ub (U c.2))
 fun f=>U (Vh f.2 (Vh a.1 c.1++Vj (a.2 - a.1) (((([]:List (El KZ)),()),((0:Int),(0:Int),(0:Int),(0:Int),(0:Int),()),([]:List (El HC)),()))++Vi (a.1+(a.2 - a.1)) c.1))
def F175E:Zn:=ZZ 87 f87 42 [F94E,F177E] (hS (hS (hS (.seq (hS (.lp (en [(0,.own Wy Ud),pd 5 Y3,pd 6 Y3] [1]) [(.exit 0,en [(0,.own Wy Ud),pd 5 Y3] [1])] .leaf)) .leaf)))) (.cons (.own Wy Ud) (.cons (.fn 88 (.cons (.ro X4) .nil)) .nil)) (.own Wy Ud) (u2 F175) (fns:=[88])
def F93:(List (El Wy))->(El Wy)->Option (List (El Wy)):=fun i b=>
 Va (F114 b.2.1) fun d=>
 Va
 (run
 (fun a=>
 bif Ue (a.2<(↑(Vb i):Int)) then
 Va (Zs a.2 (Vb a.1)) fun m=>
 Va a.1[m]? fun j=>
 Va (F114 j.2.1) fun k=>
 Va (Tr.eqEl.eqs (Tr.eqEl (Tr.Ty.int .i64)) k d) fun n=>
 bif n then
 Va (F96 b.2.1 j.2.1) fun o=>
 Va
 (bif o then Va (Zs a.2 (Vb a.1)) fun l=>Va a.1[l]? fun _=>U (Vg a.1 l b) else U a.1)
 fun p=>U (.inr (.inr p))
 else
 Va (F117 k d) fun e=>
 bif e then U (.inr (.inr a.1)) else U (.inl (a.1,Vc .i64 (a.2+(1:Int))))
 else U (.inr (.inl a.1)))
 (i,(0:Int)))
 fun f=>
 Ve
 (fun g=>
 Va (F175 g (d,())) fun c=>
 Va (Zz (Ue (Vb c+Vb [b]<=ZD))) fun _=>U (c++[b]))
 (fun h=>U h) f
def F93E:Zn:=ZZ 39 f39 47 [F114E,F96E,F117E,F175E,F94E] (hS (hS (.seq (hS (.lp ⟨[(0,.own Wy Ud),pd 14 Y3],[],[3,5,13],[(12,0)],[],[]⟩ [(.exit 0,en [(0,.own Wy Ud)] [3,5]),(.ret,en [(4,.own Wy Ud)] [])] (hS (hS (.seq (hS (hS (hS (.cnd Ub (.seq (hS (.cnd (U (e0,[(.normal,en [(0,.own Wy Ud)] [])])) .leaf .leaf)) .leaf) .leaf)))) .leaf))))) .leaf))) (.cons (.own Wy Ud) (.q Wy)) (.own Wy Ud) (u2 F93)
def F116:(El X4)->(El X4)->Option (El Y3):=fun a b=>
 Va a[Vd (0:Int)]? fun f=>
 Va b[Vd (0:Int)]? fun g=>
 bif !Ue (f=g) then Va b[Vd (0:Int)]? fun h=>Va a[Vd (0:Int)]? fun i=>Va (F8 h i) fun j=>U j
 else
 Va a[Vd (1:Int)]? fun k=>
 Va b[Vd (1:Int)]? fun l=>
 bif !Ue (k=l) then
 Va a[Vd (1:Int)]? fun m=>Va b[Vd (1:Int)]? fun n=>Va (F8 m n) fun o=>U o
 else Va a[Vd (2:Int)]? fun c=>Va b[Vd (2:Int)]? fun d=>Va (F8 c d) fun e=>U e
def F116E:Zn:=ZZ 43 f43 30 [F8E] .leaf (.p X4 (.q X4)) (.pd Y3) (u2 F116)
def F92:(El Wy)->(El Wy)->Option (El Y3):=fun a b=>Va (F114 a.2.1) fun c=>Va (F114 b.2.1) fun d=>Va (F116 c d) fun e=>U e
def F92S:Tr.Spec:= {args:=(.cons (.pd Wy) (.cons (.pd Wy) .nil)),res:=(.cons (.pd Y3) .nil),fns:=[],α:=El Y3,f:=fun x=>F92 x.1 x.2.1,unp:=fun z=>(((),(),()),(z,()))}
theorem F92_ok:ZS Tryz.prog 41 F92S:=WZ (rws:=[]) (zxs:=[]) (nt:=12) (m:=[(42,[F114E.S]),(43,[F116E.S])]) (fn:=f41) (hint:=.leaf) (pack:=fun y=>y.2.1) K9 tab_okH ⟨⟨F114E.ok,trivial⟩,⟨F116E.ok,trivial⟩,trivial⟩ fun x z h=>.trans (by kernel_rfl) h
def F92E:Zn:=⟨41,F92S,F92_ok⟩
def F183(a:List (El Wy))(_:Unit):Option (List (El Wy)):=Tr.sortF F92 a
def F183S:Tr.Spec:= {args:=(.cons (.own Wy Uc) (.cons (.fn 41 .nil) .nil)),res:=.nil,fns:=[41],α:=List (El Wy),f:=fun x=>F183 x.1 x.2.1,unp:=fun z=>((z,(),()),())}
theorem F183_ok:ZS Tryz.prog 40 F183S:=Tr.sortFunc_ok (ρ:=Tryz.sort40_ren) Tryz.sort40 rfl Tryz.isAgg53 Tryz.sizeOf53 F92_ok
def F183E:Zn:=⟨40,F183S,F183_ok⟩
def F91:(El Zh)->(El Zk)->(El Y3)->Option (El GB×El ZI):=fun m a h=>
 Va (F31 m a) fun n=>
 bif !Ue (n=(0:Int)) then U ([],n)
 else
 Va (bif a.2.2.2.1 then U Uc else U a.2.2.2.2.2.2.2.2.2.1) fun r=>
 bif r then U ([],(22:Int))
 else
 Va (bif Ue (h<a.2.2.1) then U Uc else U (Ue ((3155932800:Int)<h))) fun s=>
 bif s then U ([],(10:Int))
 else
 Va (F33 m a) fun d=>
 bif !Ue (d.2=(0:Int)) then U ([],d.2)
 else
 Va (F95 d.1 a) fun o=>
 Va (F112 d.1 a o h) fun p=>
 Va
 (run
 (fun e=>
 bif Ue (e.2<(↑(Vb p):Int)) then
 Va (idx p e.2) fun t=>
 Va (F97 d.1 a o t) fun q=>
 Va
 (run
 (fun b=>
 bif Ue (b.2<(↑(Vb q):Int)) then
 Va (idx q b.2) fun f=>
 Va f fun _=>
 Va f fun g=>
 Va (F52 d.1 a g.2.2.2.2.2.2.2) fun c=>
 bif Ue (c.2.2=(0:Int)) then
 Va (F93 b.1 (g.2.2.2.2.2.2.2,c.1,c.2.1,())) fun i=>
 U (.inl (i,Vc .i64 (b.2+(1:Int))))
 else U (.inl (b.1,Vc .i64 (b.2+(1:Int))))
 else U (.inr b.1))
 (e.1,(0:Int)))
 fun j=>U (.inl (j,Vc .i64 (e.2+(1:Int))))
 else U (.inr e.1))
 ([],(0:Int)))
 fun k=>Va (F183 k ()) fun l=>U (l,(0:Int))
def F91E:Zn:=Wf 15 f15 99 [F31E,F33E,F95E,F112E,F97E,F52E,F93E,F183E,F92E] (hS (hS (.seq (.seq (.reg [(32,Y4)]) .leaf) (.seq (.seq (.reg [(40,Y4)]) .leaf) (hS (hS (hS (hS (.seq (hS (.lp (en [(12,.own Wy Ud),pd 59 Y3] [4,9,11,57,58]) [(.exit 0,en [(12,.own Wy Ud)] [])] (hS (hS (.seq (hS (hS (.lp (en [(12,.own Wy Ud),pd 69 Y3] [4,9,11,57,58,59,67,68]) [(.exit 2,en [(12,.own Wy Ud)] [4,9,11,57,58,59])] .leaf))) .leaf))))) .leaf))))))))) (.p Zh (.p Zk (.q Y3))) (.p GB (.q ZI)) (u3 F91) (fun z=>(((),(),(),()),(z.1,z.2,()))) (fun y=>(y.2.1,y.2.2.1))
def F115:(El JY)->(El JY)->Option (El Y4):=fun a b=>
 Va
 (run
 (fun s0=>
 bif Ue (s0<(4:Int)) then
 Va (Zs s0 (4:Nat)) fun d=>
 Va [a.2.1,a.2.2.1,a.2.2.2.1,a.2.2.2.2.1][d]? fun e=>
 Va (Zs s0 (4:Nat)) fun f=>
 Va [b.2.1,b.2.2.1,b.2.2.2.1,b.2.2.2.2.1][f]? fun g=>
 bif !Ue (e=g) then
 Va (Zs s0 (4:Nat)) fun h=>
 Va [a.2.1,a.2.2.1,a.2.2.2.1,a.2.2.2.2.1][h]? fun i=>
 Va (Zs s0 (4:Nat)) fun j=>
 Va [b.2.1,b.2.2.1,b.2.2.2.1,b.2.2.2.2.1][j]? fun k=>U (.inr (.inr (Ue (i<k))))
 else U (.inl (Vc .i64 (s0+(1:Int))))
 else U (.inr (.inl ())))
 (0:Int))
 fun l=>Ve (fun _=>U Ud) (fun c=>U c) l
def F115E:Zn:=ZZ 56 f56 44 [] (hS (hS (.seq (hS (.lp (en [pd 26 Y3] [5,6]) [(.exit 0,e0),(.ret,en [pd 4 Y4] [])] .leaf)) .leaf))) (.p JY (.q JY)) (.pd Y4) (u2 F115)
def F169(a:El Xb):Option (El Xb):=Tr.clnTicG a
def F169S:Tr.Spec:= {args:=(.cons (.pd Xb) .nil),res:=(.cons (.pd Xb) .nil),fns:=[],α:=El Xb,f:=fun x=>F169 x.1,unp:=fun z=>(((),()),(z,()))}
theorem F169_ok:ZS Tryz.prog 58 F169S:=Tr.clnTic_ok
def F169E:Zn:=⟨58,F169S,F169_ok⟩
def F87:(El GB)->(El Y3)->Option (El Wy×El Y4):=fun b e=>
 Va
 (run
 (fun s0=>
 bif Ue (s0.2<(↑(Vb b):Int)) then
 Va (idx b s0.2) fun c=>
 Va
 (bif Ue (e<=c.2.1.1) then
 bif Ue (s0.1<(0:Int)) then U Uc
 else Va (idx b s0.1) fun f=>Va (F115 c.2.1 f.2.1) fun g=>U g
 else U Ud)
 fun h=>
 bif h then U (.inl (s0.2,Vc .i64 (s0.2+(1:Int)))) else U (.inl (s0.1,Vc .i64 (s0.2+(1:Int))))
 else U (.inr s0.1))
 ((-1:Int),(0:Int)))
 fun d=>
 bif Ue (d<(0:Int)) then U (((([]:List (El KZ)),()),((0:Int),(0:Int),(0:Int),(0:Int),(0:Int),()),([]:List (El HC)),()),Ud)
 else
 Va (idx b d) fun a=>
 Va (F168 a.1.1) fun i=>
 Va (F169 a.2.2.1) fun j=>U (((i,a.1.2),a.2.1,j,a.2.2.2),Uc)
def F87E:Zn:=Wf 23 f23 56 [F115E,F168E,F169E] (hS (hS (.seq (hS (.lp (en [pd 6 Y3,pd 12 Y3] [0,1,4,10,11]) [(.exit 0,en [pd 6 Y3] [0,4])] (hS (hS (.seq (hS (.seq (.reg [(35,Y4)]) .leaf)) .leaf))))) .leaf))) (.p GB (.q Y3)) (.p Wy (.q Y4)) (u2 F87) (fun z=>(((),(),()),(z.1,z.2,()))) (fun y=>(y.2.1,y.2.2.1)) (zxs:=[46,51])
def F81(a:Int):Option (List UInt8):=Tr.fmtF a
def F81S:Tr.Spec:= {args:=(.cons (.pd Y3) .nil),res:=(.cons (.pd Y9) .nil),fns:=[],α:=El Y9,f:=fun x=>F81 x.1,unp:=fun z=>(((),()),(z,()))}
theorem F81_ok:ZS Tryz.prog 65 F81S:=Tr.fmt_ok
def F81E:Zn:=⟨65,F81S,F81_ok⟩
def F90:(El GB)->Option (El Y9×El ZI):=fun c=>
 Va
 (run
 (fun s0=>
 bif Ue (s0.2<(↑(Vb c):Int)) then
 Va (idx c s0.2) fun a=>
 Va
 (bif Ue ((0:Int)<s0.2) then
 Va (idx c (Vc .i64 (s0.2 - (1:Int)))) fun r=>
 Va (F114 r.2.1) fun s=>
 Va (F114 a.2.1) fun t=>Va (F116 s t) fun u=>U (Ue ((0:Int)<=u))
 else U Ud)
 fun v=>
 bif v then U (.inr (.inr ([],(8:Int))))
 else
 Va (F81 a.2.1.1) fun w=>
 Va (Tr.catStr w [(32:UInt8)]) fun x=>
 Va (F81 a.2.1.2.1) fun y=>
 Va (Tr.catStr x y) fun d=>
 Va (Tr.catStr d [(32:UInt8)]) fun e=>
 Va (F81 a.2.1.2.2.1) fun f=>
 Va (Tr.catStr e f) fun g=>
 Va (Tr.catStr g [(32:UInt8)]) fun h=>
 Va (F81 a.2.1.2.2.2.1) fun i=>
 Va (Tr.catStr h i) fun j=>
 Va (Tr.catStr j [(32:UInt8)]) fun k=>
 Va (F81 a.2.1.2.2.2.2.1) fun l=>
 Va (Tr.catStr k l) fun m=>
 Va (Tr.catStr m [(10:UInt8)]) fun n=>
 Va (Tr.catStr s0.1 n) fun o=>U (.inl (o,Vc .i64 (s0.2+(1:Int))))
 else U (.inr (.inl s0.1)))
 ([],(0:Int)))
 fun p=>Ve (fun q=>U (q,(0:Int))) (fun b=>U (b.1,b.2)) p
def F90E:Zn:=Wf 27 f27 61 [F114E,F116E,F81E] (hS (hS (.seq (hS (.lp (en [pd 4 Y9,pd 10 Y3] [0,8,9]) [(.exit 0,en [pd 4 Y9] []),(.ret,en [pd 2 Y9,pd 3 ZI] [])] (hS (hS (.seq (hS (.seq (.seq (.reg [(30,Y4)]) .leaf) .leaf)) .leaf))))) .leaf))) (.q GB) (.p Y9 (.q ZI)) (u1 F90) (fun z=>(((),()),(z.1,z.2,()))) (fun y=>(y.2.1,y.2.2.1))
def F154:(El Y3)->(El Y3)->(El Y3)->Option (El Y4):=fun a b c=>Va (bif Ue (b<=a) then U (Ue (a<=c)) else U Ud) fun d=>U d
def F154E:Zn:=ZZ 91 f91 15 [] (hS (.seq (.reg [(6,Y4)]) .leaf)) (.p Y3 (.p Y3 (.q Y3))) (.pd Y4) (u3 F154) (rws:=[48])
def F149:(El Y3)->(El Zk)->Option (El Y4):=fun b a=>
 Va
 (Va (F154 a.1 (0:Int) (Vc .i64 (b - (1:Int)))) fun c=>
 bif c then
 Va (F154 a.2.1 (0:Int) (Vc .i64 (b - (1:Int)))) fun d=>
 bif d then
 Va (F154 a.2.2.1 (0:Int) (3155932800:Int)) fun e=>
 bif e then
 Va (F154 a.2.2.2.2.1 (0:Int) (8:Int)) fun f=>
 bif f then
 Va (F154 a.2.2.2.2.2.1 (0:Int) (86400:Int)) fun g=>
 bif g then
 Va (F154 a.2.2.2.2.2.2.2.2.1 (0:Int) (255:Int)) fun h=>
 bif h then bif a.2.2.2.2.2.2.2.2.2.1 then U !a.2.2.2.1 else U !Ud else U Ud
 else U Ud
 else U Ud
 else U Ud
 else U Ud
 else U Ud)
 fun i=>U i
def F149E:Zn:=ZZ 45 f45 46 [F154E] (hS (.seq (.reg [(4,Y4)]) .leaf)) (.p Y3 (.q Zk)) (.pd Y4) (u2 F149) (rws:=[48])
def F125:(El Y9)->Option (El Y4):=fun b=>
 Va (bif Ue ((↑(Vb b):Int)<(1:Int)) then U Uc else U (Ue ((32:Int)<(↑(Vb b):Int)))) fun d=>
 bif d then U Ud
 else
 Va
 (run
 (fun c=>
 bif Ue (c<(↑(Vb b):Int)) then
 Va (idx b c) fun a=>
 Va
 (bif Ue ((97:Int)<=(↑(Vf a):Int)) then
 bif Ue ((↑(Vf a):Int)<=(122:Int)) then U Uc
 else
 bif Ue ((65:Int)<=(↑(Vf a):Int)) then
 bif Ue ((↑(Vf a):Int)<=(90:Int)) then U Uc
 else bif Ue ((48:Int)<=(↑(Vf a):Int)) then U (Ue ((↑(Vf a):Int)<=(57:Int))) else U Ud
 else bif Ue ((48:Int)<=(↑(Vf a):Int)) then U (Ue ((↑(Vf a):Int)<=(57:Int))) else U Ud
 else
 bif Ue ((65:Int)<=(↑(Vf a):Int)) then
 bif Ue ((↑(Vf a):Int)<=(90:Int)) then U Uc
 else bif Ue ((48:Int)<=(↑(Vf a):Int)) then U (Ue ((↑(Vf a):Int)<=(57:Int))) else U Ud
 else bif Ue ((48:Int)<=(↑(Vf a):Int)) then U (Ue ((↑(Vf a):Int)<=(57:Int))) else U Ud)
 fun e=>
 Va
 (bif !e then
 bif !Ue ((↑(Vf a):Int)=(45:Int)) then
 bif !Ue ((↑(Vf a):Int)=(95:Int)) then U !Ue ((↑(Vf a):Int)=(46:Int)) else U Ud
 else U Ud
 else U Ud)
 fun f=>bif f then U (.inr (.inr Ud)) else U (.inl (Vc .i64 (c+(1:Int))))
 else U (.inr (.inl ())))
 (0:Int))
 fun g=>Ve (fun _=>U Uc) (fun h=>U h) g
def F125E:Zn:=ZZ 214 f214 59 [] (hS (.seq (.seq (.reg [(13,Y4)]) .leaf) (.seq (hS (.lp (en [pd 3 Y3] [0]) [(.exit 0,e0),(.ret,en [pd 2 Y4] [])] (hS (.seq (hS (.seq (.reg [(5,Y4)]) (.seq (.reg [(58,Y4)]) .leaf))) .leaf)))) .leaf))) (.q Y9) (.pd Y4) (u1 F125)
def F126:(El Y3)->(El Y3)->(El Y3)->Option (El Y4):=fun a b c=>Va (bif Ue (b<=a) then U (Ue (a<=c)) else U Ud) fun d=>U d
def F126E:Zn:=ZZ 215 f215 15 [] (hS (.seq (.reg [(6,Y4)]) .leaf)) (.p Y3 (.p Y3 (.q Y3))) (.pd Y4) (u3 F126)
def F132:(El Xn)->Option (El Y3×El ZI):=fun a=>
 bif Ue ((64:Int)<(↑(Vb a):Int)) then U ((0:Int),(5:Int))
 else
 Va
 (run
 (fun s0=>
 bif Ue (s0<(↑(Vb a):Int)) then
 Va (idx a s0) fun i=>
 Va (F125 i.1) fun j=>
 bif !j then U (.inr (.inr (s0,(12:Int))))
 else
 Va
 (run
 (fun d=>
 bif Ue (d<s0) then
 Va (idx a d) fun k=>
 Va (idx a s0) fun l=>
 bif Ue (k.1=l.1) then U (.inr (.inr (s0,(6:Int)))) else U (.inl (Vc .i64 (d+(1:Int))))
 else U (.inr (.inl ())))
 (0:Int))
 fun m=>
 Ve
 (fun _=>
 Va
 (Va (idx a s0) fun n=>
 Va (F126 n.2.1 (0:Int) (15:Int)) fun o=>
 bif !o then U Uc
 else Va (idx a s0) fun e=>Va (F126 e.2.2.2.1 (0:Int) (3600:Int)) fun f=>U !f)
 fun g=>bif g then U (.inr (.inr (s0,(2:Int)))) else U (.inl (Vc .i64 (s0+(1:Int)))))
 (fun b=>U (.inr (.inr (b.1,b.2)))) m
 else U (.inr (.inl ())))
 (0:Int))
 fun h=>Ve (fun _=>U ((0:Int),(0:Int))) (fun c=>U (c.1,c.2)) h
def F132E:Zn:=Wf 169 f169 57 [F125E,F126E] (hS (hS (.seq (hS (.lp (en [pd 4 Y3] [0]) [(.exit 0,e0),(.ret,en [pd 2 Y3,pd 3 ZI] [])] (hS (.seq (hS (.seq (hS (.lp (en [pd 5 Y3] [0,4]) [(.exit 2,en [] [0,4]),(.ret,en [pd 2 Y3,pd 3 ZI] [])] .leaf)) (.seq (.reg [(55,Y4)]) .leaf))) .leaf)))) .leaf))) (.q Xn) (.p Y3 (.q ZI)) (u1 F132) (fun z=>(((),()),(z.1,z.2,()))) (fun y=>(y.2.1,y.2.2.1))
def F130:(El Xo)->Option (El Y3×El ZI):=fun a=>
 bif Ue ((64:Int)<(↑(Vb a):Int)) then U ((0:Int),(5:Int))
 else
 Va
 (run
 (fun s0=>
 bif Ue (s0<(↑(Vb a):Int)) then
 Va (idx a s0) fun f=>
 Va (F125 f.1) fun g=>
 bif !g then U (.inr (.inr (s0,(12:Int))))
 else
 Va
 (run
 (fun d=>
 bif Ue (d<s0) then
 Va (idx a d) fun h=>
 Va (idx a s0) fun i=>
 bif Ue (h.1=i.1) then U (.inr (.inr (s0,(6:Int)))) else U (.inl (Vc .i64 (d+(1:Int))))
 else U (.inr (.inl ())))
 (0:Int))
 fun j=>
 Ve
 (fun _=>
 Va (idx a s0) fun k=>
 Va (F126 k.2.1 (0:Int) (7:Int)) fun l=>
 bif !l then U (.inr (.inr (s0,(2:Int)))) else U (.inl (Vc .i64 (s0+(1:Int)))))
 (fun b=>U (.inr (.inr (b.1,b.2)))) j
 else U (.inr (.inl ())))
 (0:Int))
 fun e=>Ve (fun _=>U ((0:Int),(0:Int))) (fun c=>U (c.1,c.2)) e
def F130E:Zn:=Wf 170 f170 48 [F125E,F126E] (hS (hS (.seq (hS (.lp (en [pd 4 Y3] [0]) [(.exit 0,e0),(.ret,en [pd 2 Y3,pd 3 ZI] [])] (hS (.seq (hS (.seq (hS (.lp (en [pd 5 Y3] [0,4]) [(.exit 2,en [] [0,4]),(.ret,en [pd 2 Y3,pd 3 ZI] [])] .leaf)) .leaf)) .leaf)))) .leaf))) (.q Xo) (.p Y3 (.q ZI)) (u1 F130) (fun z=>(((),()),(z.1,z.2,()))) (fun y=>(y.2.1,y.2.2.1))
def F118:(El Xc)->(El Y3)->(El Y3)->(El Y3)->Option (El ZI):=fun c e f g=>
 Va (bif Ue ((↑(Vb c):Int)<(2:Int)) then U Uc else U (Ue ((32:Int)<(↑(Vb c):Int)))) fun h=>
 bif h then U (5:Int)
 else
 Va
 (run
 (fun b=>
 bif Ue (b<(↑(Vb c):Int)) then
 Va (idx c b) fun a=>
 Va (bif Ue (a.1<(0:Int)) then U Uc else U (Ue (e<=a.1))) fun i=>
 bif i then U (.inr (.inr (9:Int)))
 else
 Va
 (bif Ue ((0:Int)<b) then Va (idx c (Vc .i64 (b - (1:Int)))) fun j=>U (Ue (j.1=a.1))
 else U Ud)
 fun k=>
 bif k then U (.inr (.inr (13:Int)))
 else
 Va
 (bif Ue (a.2.1<f) then U Uc
 else
 bif Ue (a.2.2.1<a.2.1) then U Uc
 else
 bif Ue (g<a.2.2.1) then U Uc
 else
 bif Ue ((0:Int)<b) then
 Va (idx c (Vc .i64 (b - (1:Int)))) fun l=>U (Ue (a.2.1<l.2.2.1))
 else U Ud)
 fun m=>bif m then U (.inr (.inr (10:Int))) else U (.inl (Vc .i64 (b+(1:Int))))
 else U (.inr (.inl ())))
 (0:Int))
 fun n=>Ve (fun _=>U (0:Int)) (fun d=>U d) n
def F118E:Zn:=ZZ 216 f216 83 [] (hS (.seq (.seq (.reg [(18,Y4)]) .leaf) (.seq (hS (.lp (en [pd 9 Y3] [0,1,2,3]) [(.exit 0,e0),(.ret,en [pd 8 ZI] [])] (hS (.seq (hS (.seq (.seq (.reg [(37,Y4)]) .leaf) (.seq (.seq (.reg [(50,Y4)]) .leaf) (.seq (.reg [(82,Y4)]) .leaf)))) .leaf)))) .leaf))) (.p Xc (.p Y3 (.p Y3 (.q Y3)))) (.pd ZI) (u4 F118)
def F131:(El Zh)->(El Y3)->Option (El ZI):=fun b f=>
 Va (idx b.2.2.1 f) fun a=>
 Va (F125 a.2.2.2.1) fun h=>
 bif !h then U (12:Int)
 else
 Va (bif Ue (a.1<(-1:Int)) then U Uc else U (Ue (a.2.2.1<(0:Int)))) fun i=>
 bif i then U (2:Int)
 else
 Va (F126 a.2.1 (0:Int) (36524:Int)) fun j=>
 bif !j then U (11:Int)
 else
 Va
 (bif Ue (a.2.2.2.2.1<(0:Int)) then U Uc
 else U (Ue ((↑(Vb b.2.1):Int)<=a.2.2.2.2.1)))
 fun k=>
 bif k then U (9:Int)
 else
 Va (F118 a.2.2.2.2.2.2.2.1 (↑(Vb b.1):Int) (0:Int) (3155932800:Int)) fun g=>
 bif !Ue (g=(0:Int)) then U g
 else
 Va
 (run
 (fun c=>
 bif Ue (c<f) then
 Va (idx b.2.2.1 c) fun d=>
 Va
 (bif Ue (d.2.2.2.1=a.2.2.2.1) then
 bif Ue (d.2.1=a.2.1) then U (Ue (d.2.2.1=a.2.2.1)) else U Ud
 else U Ud)
 fun l=>bif l then U (.inr (.inr (6:Int))) else U (.inl (Vc .i64 (c+(1:Int))))
 else U (.inr (.inl ())))
 (0:Int))
 fun m=>Ve (fun _=>U (0:Int)) (fun e=>U e) m
def F131E:Zn:=ZZ 171 f171 79 [F125E,F126E,F118E] (hS (hS (hS (.seq (.seq (.reg [(25,Y4)]) .leaf) (hS (.seq (.seq (.reg [(40,Y4)]) .leaf) (hS (hS (.seq (hS (.lp (en [pd 7 Y3] [1,2,5]) [(.exit 0,e0),(.ret,en [pd 4 ZI] [])] (hS (.seq (hS (.seq (.reg [(78,Y4)]) .leaf)) .leaf)))) .leaf))))))))) (.p Zh (.q Y3)) (.pd ZI) (u2 F131)
def F127:(El Zh)->(El Y3)->(El Y3)->(El Y3)->Option (El Y4):=fun b c e f=>
 Va
 (run
 (fun s0=>
 bif Ue (s0.2<=c) then
 Va
 (run
 (fun a=>
 bif Ue (a.2<c) then
 Va
 (Va (idx b.2.2.2.1 a.2) fun g=>
 bif g.2.2.2.2.1 then Va (idx b.2.2.2.1 a.2) fun h=>U (Ue (h.1=s0.1)) else U Ud)
 fun i=>
 bif i then Va (idx b.2.2.2.1 a.2) fun j=>U (.inl (j.2.2.1,Vc .i64 (a.2+(1:Int))))
 else U (.inl (a.1,Vc .i64 (a.2+(1:Int))))
 else U (.inr a.1))
 ((-1:Int),(0:Int)))
 fun d=>bif Ue (d=f) then U (.inr (.inr Uc)) else U (.inl (d,Vc .i64 (s0.2+(1:Int))))
 else U (.inr (.inl ())))
 (e,(0:Int)))
 fun k=>Ve (fun _=>U Ud) (fun l=>U l) k
def F127E:Zn:=ZZ 217 f217 48 [] (hS (.seq (hS (.lp (en [pd 2 Y3,pd 9 Y3] [1,3,4]) [(.exit 0,e0),(.ret,en [pd 8 Y4] [])] (hS (.seq (hS (.seq (hS (.lp (en [pd 10 Y3,pd 11 Y3] [1,2,3,4,9]) [(.exit 2,en [pd 10 Y3] [1,3,4,9])] (hS (.seq (.seq (.reg [(37,Y4)]) .leaf) .leaf)))) .leaf)) .leaf)))) .leaf)) (.p Zh (.p Y3 (.p Y3 (.q Y3)))) (.pd Y4) (u4 F127)
def F128:(El Zh)->(El Y3)->Option (El ZI):=fun c g=>
 Va (idx c.2.2.2.1 g) fun a=>
 Va
 (Va (F126 a.1 (0:Int) (Vc .i64 ((↑(Vb c.2.2.1):Int) - (1:Int)))) fun t=>
 bif !t then U Uc
 else
 Va (F126 a.2.2.1 (0:Int) (Vc .i64 ((↑(Vb c.2.2.1):Int) - (1:Int)))) fun u=>
 bif !u then U Uc else U (Ue (a.1=a.2.2.1)))
 fun v=>
 bif v then U (9:Int)
 else
 Va (idx c.2.2.1 a.1) fun p=>
 Va (idx c.2.2.1 a.2.2.1) fun s=>
 Va
 (Va (F126 a.2.1 (0:Int) (Vc .i64 ((↑(Vb p.2.2.2.2.2.2.2.1):Int) - (1:Int)))) fun w=>
 bif !w then U Uc
 else
 Va (F126 a.2.2.2.1 (0:Int) (Vc .i64 ((↑(Vb s.2.2.2.2.2.2.2.1):Int) - (1:Int)))) fun x=>
 U !x)
 fun y=>
 bif y then U (9:Int)
 else
 Va (idx p.2.2.2.2.2.2.2.1 a.2.1) fun z=>
 Va (idx s.2.2.2.2.2.2.2.1 a.2.2.2.1) fun h=>
 bif !Ue (z.1=h.1) then U (13:Int)
 else
 Va
 (bif a.2.2.2.2.1 then
 bif !Ue (a.2.1=Vc .i64 ((↑(Vb p.2.2.2.2.2.2.2.1):Int) - (1:Int))) then U Uc
 else U !Ue (a.2.2.2.1=(0:Int))
 else U Ud)
 fun i=>
 bif i then U (19:Int)
 else
 Va
 (run
 (fun d=>
 bif Ue (d<g) then
 Va (idx c.2.2.2.1 d) fun f=>
 Va
 (bif a.2.2.2.2.1 then
 bif f.2.2.2.2.1 then
 bif Ue (f.1=a.1) then U Uc else U (Ue (f.2.2.1=a.2.2.1))
 else U Ud
 else U Ud)
 fun j=>bif j then U (.inr (.inr (19:Int))) else U (.inl (Vc .i64 (d+(1:Int))))
 else U (.inr (.inl ())))
 (0:Int))
 fun k=>
 Ve
 (fun _=>
 Va (bif a.2.2.2.2.1 then Va (F127 c g a.2.2.1 a.1) fun l=>U l else U Ud) fun m=>
 bif m then U (19:Int)
 else
 Va
 (run
 (fun e=>
 bif Ue (e<g) then
 Va (idx c.2.2.2.1 e) fun b=>
 Va
 (bif Ue (b.1=a.1) then
 bif Ue (b.2.1=a.2.1) then
 bif Ue (b.2.2.1=a.2.2.1) then U (Ue (b.2.2.2.1=a.2.2.2.1))
 else U Ud
 else U Ud
 else U Ud)
 fun n=>bif n then U (.inr (.inr (6:Int))) else U (.inl (Vc .i64 (e+(1:Int))))
 else U (.inr (.inl ())))
 (0:Int))
 fun o=>Ve (fun _=>U (0:Int)) (fun q=>U q) o)
 (fun r=>U r) k
def F128E:Zn:=ZZ 172 f172 177 [F126E,F127E] (hS (hS (.seq (.seq (.reg [(41,Y4)]) .leaf) (hS (.seq (.seq (.reg [(71,Y4)]) .leaf) (hS (.seq (.seq (.reg [(99,Y4)]) .leaf) (.seq (hS (.lp (en [pd 8 Y3] [1,2,5]) [(.exit 0,en [] [1,2,5]),(.ret,en [pd 4 ZI] [])] (hS (.seq (hS (.seq (.reg [(129,Y4)]) .leaf)) .leaf)))) (.seq (.seq (.reg [(140,Y4)]) .leaf) (.seq (hS (.lp (en [pd 10 Y3] [1,2,5]) [(.exit 2,e0),(.ret,en [pd 4 ZI] [])] (hS (.seq (hS (.seq (.reg [(176,Y4)]) .leaf)) .leaf)))) .leaf)))))))))) (.p Zh (.q Y3)) (.pd ZI) (u2 F128)
def F122:(El Wx)->(El Y3)->(El Y4)->Option (El ZC):=fun O l P=>
 Va
 (run
 (fun s0=>
 bif Ue (s0.2<l) then
 Va
 (run
 (fun f=>
 bif Ue (f.2.2<l) then
 Va (Zz (Ue (Vb f.2.1+Vb [(1099511627776:Int)]<=ZD))) fun _=>
 U (.inl (f.1,f.2.1++[(1099511627776:Int)],Vc .i64 (f.2.2+(1:Int))))
 else U (.inr (f.1,f.2.1)))
 (s0.1,[],(0:Int)))
 fun q=>
 Va (Zz (Ue (Vb q.1+Vb [q.2]<=ZD))) fun _=>
 U (.inl (q.1++[q.2],Vc .i64 (s0.2+(1:Int))))
 else U (.inr s0.1))
 ([],(0:Int)))
 fun Q=>
 Va
 (run
 (fun c=>
 bif Ue (c.2<(↑(Vb O):Int)) then
 Va (idx O c.2) fun k=>
 Va (bif k.2.2.2.1 then U Uc else U !P) fun R=>
 bif R then
 Va (Zs k.1 (Vb c.1)) fun r=>
 Va c.1[r]? fun _=>
 Va (Zs k.1 (Vb c.1)) fun g=>
 Va c.1[g]? fun _=>
 Va (idx c.1 (↑g:Int)) fun s=>
 Va (Zs k.2.1 (Vb s)) fun t=>
 Va (idx c.1 (↑g:Int)) fun u=>
 Va u[t]? fun v=>
 Va (idx c.1 (↑r:Int)) fun w=>
 Va (Zs k.2.1 (Vb w)) fun m=>
 Va (idx c.1 (↑r:Int)) fun n=>
 Va n[m]? fun _=>
 U
 (.inl (Vg c.1 (Vd (↑r:Int)) (Vg n m (Tr.imin v k.2.2.1)),Vc .i64 (c.2+(1:Int))))
 else U (.inl (c.1,Vc .i64 (c.2+(1:Int))))
 else U (.inr c.1))
 (Q,(0:Int)))
 fun x=>
 Va
 (run
 (fun d=>
 bif Ue (d.2<l) then
 Va
 (run
 (fun b=>
 bif Ue (b.2<l) then
 Va
 (run
 (fun a=>
 bif Ue (a.2<l) then
 Va (Zs b.2 (Vb a.1)) fun e=>
 Va a.1[e]? fun _=>
 Va (Zs b.2 (Vb a.1)) fun h=>
 Va a.1[h]? fun _=>
 Va (idx a.1 (↑h:Int)) fun y=>
 Va (Zs a.2 (Vb y)) fun z=>
 Va (idx a.1 (↑h:Int)) fun A=>
 Va A[z]? fun B=>
 Va (Zs b.2 (Vb a.1)) fun i=>
 Va a.1[i]? fun _=>
 Va (idx a.1 (↑i:Int)) fun C=>
 Va (Zs d.2 (Vb C)) fun D=>
 Va (idx a.1 (↑i:Int)) fun E=>
 Va E[D]? fun F=>
 Va (Zs d.2 (Vb a.1)) fun j=>
 Va a.1[j]? fun _=>
 Va (idx a.1 (↑j:Int)) fun G=>
 Va (Zs a.2 (Vb G)) fun H=>
 Va (idx a.1 (↑j:Int)) fun I=>
 Va I[H]? fun J=>
 Va (idx a.1 (↑e:Int)) fun K=>
 Va (Zs a.2 (Vb K)) fun o=>
 Va (idx a.1 (↑e:Int)) fun p=>
 Va p[o]? fun _=>
 U
 (.inl
 (Vg a.1 (Vd (↑e:Int))
 (Vg p o (Tr.imin B (Vc .i64 (F+J)))),
 Vc .i64 (a.2+(1:Int))))
 else U (.inr a.1))
 (b.1,(0:Int)))
 fun L=>U (.inl (L,Vc .i64 (b.2+(1:Int))))
 else U (.inr b.1))
 (d.1,(0:Int)))
 fun M=>U (.inl (M,Vc .i64 (d.2+(1:Int))))
 else U (.inr d.1))
 (x,(0:Int)))
 fun N=>U N
def F122E:Zn:=ZZ 238 f238 116 [] (hS (hS (.seq (hS (.lp (en [(7,.rows Y3 Ud),pd 8 Y3] [0,1,2]) [(.exit 0,en [(7,.rows Y3 Ud)] [0,1,2])] (hS (.seq (hS (.seq (hS (.lp (en [(7,.rows Y3 Ud),(9,.own Y3 Ud),pd 10 Y3] [0,1,2,8]) [(.exit 2,en [(7,.rows Y3 Ud),(9,.own Y3 Ud)] [0,1,2,8])] .leaf)) .leaf)) .leaf)))) (.seq (hS (.lp (en [(7,.rows Y3 Ud),pd 11 Y3] [0,1,2]) [(.exit 4,en [(7,.rows Y3 Ud)] [1])] (hS (.seq (hS (.seq (.reg [(50,Y4)]) .leaf)) .leaf)))) (.seq (hS (.lp (en [(7,.rows Y3 Ud),pd 13 Y3] [1]) [(.exit 6,en [(7,.rows Y3 Ud)] [])] (hS (.seq (hS (.lp (en [(7,.rows Y3 Ud),pd 14 Y3] [1,13]) [(.exit 8,en [(7,.rows Y3 Ud)] [1,13])] (hS (.seq (hS (.lp (en [(7,.rows Y3 Ud),pd 15 Y3] [1,13,14]) [(.exit 10,en [(7,.rows Y3 Ud)] [1,13,14])] .leaf)) .leaf)))) .leaf)))) .leaf))))) (.p Wx (.p Y3 (.q Y4))) (.pd ZC) (u3 F122) (rws:=[153])
def F120:(El Wx)->(El Y3)->Option (El Wx):=fun u f=>
 Va (F122 u f Ud) fun g=>
 Va (F122 u f Uc) fun h=>
 Va
 (run
 (fun b=>
 bif Ue (b.2<f) then
 Va
 (run
 (fun a=>
 bif Ue (a.2<f) then
 Va
 (bif Ue (b.2=a.2) then U Uc
 else Va (idx g b.2) fun v=>Va (idx v a.2) fun w=>U (Ue ((14400:Int)<w)))
 fun x=>
 bif x then U (.inl (a.1,Vc .i64 (a.2+(1:Int))))
 else
 Va (idx g b.2) fun y=>
 Va (idx y a.2) fun i=>
 Va (idx h b.2) fun z=>
 Va (idx z a.2) fun c=>
 Va (idx g b.2) fun j=>
 Va (idx j a.2) fun d=>
 Va (Zz (Ue (Vb a.1+Vb [(b.2,a.2,i,Ue (c=d),())]<=ZD))) fun _=>
 Va
 (Va (idx h b.2) fun k=>
 Va (idx k a.2) fun l=>
 Va (idx g b.2) fun m=>
 Va (idx m a.2) fun n=>
 bif Ue (n<l) then
 Va (idx h b.2) fun o=>Va (idx o a.2) fun p=>U (Ue (p<=(14400:Int)))
 else U Ud)
 fun q=>
 bif q then
 Va (idx h b.2) fun r=>
 Va (idx r a.2) fun e=>
 Va
 (Zz
 (decide
 (Vb (a.1++[(b.2,a.2,i,Ue (c=d),())])+Vb [(b.2,a.2,e,Uc,())]<=
 ZD)))
 fun _=>
 U
 (.inl
 (a.1++[(b.2,a.2,i,Ue (c=d),())]++[(b.2,a.2,e,Uc,())],
 Vc .i64 (a.2+(1:Int))))
 else U (.inl (a.1++[(b.2,a.2,i,Ue (c=d),())],Vc .i64 (a.2+(1:Int))))
 else U (.inr a.1))
 (b.1,(0:Int)))
 fun s=>U (.inl (s,Vc .i64 (b.2+(1:Int))))
 else U (.inr b.1))
 ([],(0:Int)))
 fun t=>U t
def F120E:Zn:=ZZ 218 f218 107 [F122E] (hS (hS (hS (.seq (hS (.lp (en [(7,.own K8 Ud),pd 8 Y3] [1,5,6]) [(.exit 0,en [(7,.own K8 Ud)] [])] (hS (.seq (hS (.lp (en [(7,.own K8 Ud),pd 9 Y3] [1,5,6,8]) [(.exit 2,en [(7,.own K8 Ud)] [1,5,6,8])] (hS (.seq (.seq (.seq (.reg [(39,Y4)]) .leaf) (hS (.seq (.reg [(92,Y4)]) .leaf))) .leaf)))) .leaf)))) .leaf)))) (.p Wx (.q Y3)) (.pd Wx) (u2 F120)
def F129:(El Zh)->Option (El Y3×El ZI):=fun a=>
 Va
 (run
 (fun s0=>
 bif Ue (s0<(↑(Vb a.2.2.2.2.1):Int)) then
 Va (idx a.2.2.2.2.1 s0) fun e=>
 Va
 (Va (F126 e.1 (0:Int) (Vc .i64 ((↑(Vb a.1):Int) - (1:Int)))) fun n=>
 bif !n then U Uc
 else
 Va (F126 e.2.1 (0:Int) (Vc .i64 ((↑(Vb a.1):Int) - (1:Int)))) fun o=>
 bif !o then U Uc else U (Ue (e.1=e.2.1)))
 fun p=>
 bif p then U (.inr (.inr (s0,(9:Int))))
 else
 Va (F126 e.2.2.1 (1:Int) (14400:Int)) fun q=>
 bif !q then U (.inr (.inr (s0,(2:Int))))
 else
 Va
 (run
 (fun j=>
 bif Ue (j<s0) then
 Va (idx a.2.2.2.2.1 j) fun m=>
 Va
 (bif Ue (m.1=e.1) then
 bif Ue (m.2.1=e.2.1) then U (m.2.2.2.1==e.2.2.2.1) else U Ud
 else U Ud)
 fun r=>bif r then U (.inr (.inr (s0,(6:Int)))) else U (.inl (Vc .i64 (j+(1:Int))))
 else U (.inr (.inl ())))
 (0:Int))
 fun s=>Ve (fun _=>U (.inl (Vc .i64 (s0+(1:Int))))) (fun g=>U (.inr (.inr (g.1,g.2)))) s
 else U (.inr (.inl ())))
 (0:Int))
 fun k=>
 Ve
 (fun _=>
 Va (F120 a.2.2.2.2.1 (↑(Vb a.1):Int)) fun f=>
 bif !Ue ((↑(Vb f):Int)=(↑(Vb a.2.2.2.2.1):Int)) then U ((0:Int),(18:Int))
 else
 Va
 (run
 (fun b=>
 bif Ue (b<(↑(Vb f):Int)) then
 Va (idx f b) fun c=>
 Va (idx a.2.2.2.2.1 b) fun d=>
 bif
 !(Ue (c.1=d.1) &&
 (Ue (c.2.1=d.2.1) && (Ue (c.2.2.1=d.2.2.1) &&c.2.2.2.1==d.2.2.2.1))) then
 U (.inr (.inr ((0:Int),(18:Int))))
 else U (.inl (Vc .i64 (b+(1:Int))))
 else U (.inr (.inl ())))
 (0:Int))
 fun l=>Ve (fun _=>U ((0:Int),(0:Int))) (fun h=>U (h.1,h.2)) l)
 (fun i=>U (i.1,i.2)) k
def F129E:Zn:=Wf 173 f173 111 [F126E,F120E] (hS (.seq (hS (.lp (en [pd 4 Y3] [1]) [(.exit 0,en [] [1]),(.ret,en [pd 2 Y3,pd 3 ZI] [])] (hS (.seq (hS (.seq (.seq (.reg [(46,Y4)]) .leaf) (hS (hS (.lp (en [pd 6 Y3] [1,4,5]) [(.exit 2,en [] [1,4]),(.ret,en [pd 2 Y3,pd 3 ZI] [])] (hS (.seq (hS (.seq (.reg [(81,Y4)]) .leaf)) .leaf))))))) .leaf)))) (hS (hS (.seq (hS (.lp (en [pd 9 Y3] [1,8]) [(.exit 4,e0),(.ret,en [pd 2 Y3,pd 3 ZI] [])] .leaf)) .leaf))))) (.q Zh) (.p Y3 (.q ZI)) (u1 F129) (fun z=>(((),()),(z.1,z.2,()))) (fun y=>(y.2.1,y.2.2.1))
def F121:(El KL)->Option (El Y3×El ZI):=fun a=>
 Va
 (Va (F126 a.2.1 (0:Int) (1000000:Int)) fun n=>
 bif !n then U Uc
 else
 Va (F126 a.2.2.1 (0:Int) (86400:Int)) fun o=>
 bif !o then U Uc else Va (F126 a.2.2.2.1 (0:Int) (1000000:Int)) fun p=>U !p)
 fun q=>
 bif q then U ((-1:Int),(2:Int))
 else
 bif Ue ((16:Int)<(↑(Vb a.1):Int)) then U ((0:Int),(5:Int))
 else
 Va
 (run
 (fun b=>
 bif Ue (b<(↑(Vb a.1):Int)) then
 Va (idx a.1 b) fun c=>
 Va (F125 c.1) fun r=>
 bif !r then U (.inr (.inr (b,(12:Int))))
 else
 Va
 (run
 (fun f=>
 bif Ue (f<b) then
 Va (idx a.1 f) fun s=>
 bif Ue (s.1=c.1) then U (.inr (.inr (b,(6:Int)))) else U (.inl (Vc .i64 (f+(1:Int))))
 else U (.inr (.inl ())))
 (0:Int))
 fun t=>
 Ve
 (fun _=>
 Va
 (Va (F126 c.2.1 (0:Int) (1000000:Int)) fun g=>
 bif !g then U Uc
 else
 Va (F126 c.2.2.1 (1:Int) (8:Int)) fun h=>
 bif !h then U Uc
 else
 Va (F126 c.2.2.2.1 (1:Int) (16:Int)) fun i=>
 bif !i then U Uc
 else
 Va (F126 c.2.2.2.2.1 (0:Int) (86400:Int)) fun j=>
 bif !j then U Uc else Va (F126 c.2.2.2.2.2.1 (1:Int) (255:Int)) fun k=>U !k)
 fun l=>bif l then U (.inr (.inr (b,(2:Int)))) else U (.inl (Vc .i64 (b+(1:Int)))))
 (fun d=>U (.inr (.inr (d.1,d.2)))) t
 else U (.inr (.inl ())))
 (0:Int))
 fun m=>Ve (fun _=>U ((0:Int),(0:Int))) (fun e=>U (e.1,e.2)) m
def F121E:Zn:=Wf 174 f174 88 [F125E,F126E] (hS (.seq (.seq (.reg [(22,Y4)]) .leaf) (hS (.seq (hS (.lp (en [pd 4 Y3] [1]) [(.exit 0,e0),(.ret,en [pd 2 Y3,pd 3 ZI] [])] (hS (.seq (hS (hS (.seq (hS (.lp (en [pd 6 Y3] [1,4,5]) [(.exit 2,en [] [1,4,5]),(.ret,en [pd 2 Y3,pd 3 ZI] [])] .leaf)) (.seq (.reg [(86,Y4)]) .leaf)))) .leaf)))) .leaf)))) (.q KL) (.p Y3 (.q ZI)) (u1 F121) (fun z=>(((),()),(z.1,z.2,()))) (fun y=>(y.2.1,y.2.2.1))
def F119:(El Zh)->Option (El Y3×El Y3×El ZI):=fun a=>
 Va (F132 a.1) fun h=>
 bif !Ue (h.2=(0:Int)) then U ((0:Int),h.1,h.2)
 else
 Va (F130 a.2.1) fun i=>
 bif !Ue (i.2=(0:Int)) then U ((1:Int),i.1,i.2)
 else
 bif Ue ((1024:Int)<(↑(Vb a.2.2.1):Int)) then U ((2:Int),(0:Int),(5:Int))
 else
 Va
 (run
 (fun f=>
 bif Ue (f<(↑(Vb a.2.2.1):Int)) then
 Va (F131 a f) fun j=>
 bif !Ue (j=(0:Int)) then U (.inr (.inr ((2:Int),f,j))) else U (.inl (Vc .i64 (f+(1:Int))))
 else U (.inr (.inl ())))
 (0:Int))
 fun l=>
 Ve
 (fun _=>
 bif Ue ((1024:Int)<(↑(Vb a.2.2.2.1):Int)) then U ((3:Int),(0:Int),(5:Int))
 else
 Va
 (run
 (fun g=>
 bif Ue (g<(↑(Vb a.2.2.2.1):Int)) then
 Va (F128 a g) fun k=>
 bif !Ue (k=(0:Int)) then U (.inr (.inr ((3:Int),g,k)))
 else U (.inl (Vc .i64 (g+(1:Int))))
 else U (.inr (.inl ())))
 (0:Int))
 fun m=>
 Ve
 (fun _=>
 Va (F129 a) fun b=>
 bif !Ue (b.2=(0:Int)) then U ((4:Int),b.1,b.2)
 else
 Va (F121 a.2.2.2.2.2.1) fun c=>
 bif !Ue (c.2=(0:Int)) then U ((5:Int),c.1,c.2) else U ((0:Int),(0:Int),(0:Int)))
 (fun d=>U (d.1,d.2.1,d.2.2)) m)
 (fun e=>U (e.1,e.2.1,e.2.2)) l
def F119E:Zn:=Wf 106 f106 84 [F132E,F130E,F131E,F128E,F129E,F121E] (hS (hS (hS (hS (hS (hS (.seq (hS (.lp (en [pd 7 Y3] [1]) [(.exit 0,en [] [1]),(.ret,en [pd 2 Y3,pd 3 Y3,pd 4 ZI] [])] .leaf)) (hS (.seq (hS (.lp (en [pd 8 Y3] [1]) [(.exit 2,en [] [1]),(.ret,en [pd 2 Y3,pd 3 Y3,pd 4 ZI] [])] .leaf)) .leaf))))))))) (.q Zh) (.p Y3 (.p Y3 (.q ZI))) (u1 F119) (fun z=>(((),()),(z.1,z.2.1,z.2.2,()))) (fun y=>(y.2.1,y.2.2.1,y.2.2.2.1))
def F124:(El Zh)->Option (El Y4):=fun a=>Va (F119 a) fun b=>U (Ue (b.2.2=(0:Int)))
def F124E:Zn:=ZZ 68 f68 14 [F119E] .leaf (.q Zh) (.pd Y4) (u1 F124)
def F146:(El Zh)->(El Zk)->Option (El ZI):=fun a b=>
 Va (F124 a) fun c=>
 bif !c then U (21:Int) else Va (F149 (↑(Vb a.1):Int) b) fun d=>bif !d then U (22:Int) else U (0:Int)
def F146E:Zn:=ZZ 31 f31 14 [F149E,F124E] .leaf (.p Zh (.q Zk)) (.pd ZI) (u2 F146) (rws:=[48])
def F62:(El Zh)->(El Zk)->(El Y3)->Option (El ZI):=fun d a b=>
 Va (F146 d a) fun c=>
 bif !Ue (c=(0:Int)) then U c
 else
 Va (bif a.2.2.2.1 then U Uc else U a.2.2.2.2.2.2.2.2.2.1) fun e=>
 bif e then U (22:Int)
 else
 Va (bif Ue (b<a.2.2.1) then U Uc else U (Ue ((3155932800:Int)<b))) fun f=>
 bif f then U (10:Int) else U (0:Int)
def F62E:Zn:=ZZ 13 f13 28 [F146E] (hS (hS (hS (.seq (.seq (.reg [(19,Y4)]) .leaf) (.seq (.seq (.reg [(27,Y4)]) .leaf) .leaf))))) (.p Zh (.p Zk (.q Y3))) (.pd ZI) (u3 F62)
def F89:(El Ym)->(El Ym)->Option (El Y3):=fun a b=>
 Va a[Vd (0:Int)]? fun c=>
 Va b[Vd (0:Int)]? fun d=>
 bif !Ue (c=d) then Va a[Vd (0:Int)]? fun e=>Va b[Vd (0:Int)]? fun f=>Va (F8 e f) fun g=>U g
 else Va a[Vd (1:Int)]? fun h=>Va b[Vd (1:Int)]? fun i=>Va (F8 h i) fun j=>U j
def F89S:Tr.Spec:= {args:=(.cons (.pd Ym) (.cons (.pd Ym) .nil)),res:=(.cons (.pd Y3) .nil),fns:=[],α:=El Y3,f:=fun x=>F89 x.1 x.2.1,unp:=fun z=>(((),(),()),(z,()))}
theorem F89_ok:ZS Tryz.prog 61 F89S:=WZ (rws:=[]) (zxs:=[]) (nt:=20) (m:=[(62,[F8E.S])]) (fn:=f61) (hint:=.leaf) (pack:=fun y=>y.2.1) K9 tab_okH ⟨⟨F8E.ok,trivial⟩,trivial⟩ fun x z h=>.trans (by kernel_rfl) h
def F89E:Zn:=⟨61,F89S,F89_ok⟩
def F171(a:List (El Ym)):Option (El Y63):=Tr.cmF a
def F171S:Tr.Spec:= {args:=(.cons (.own Ym Ud) .nil),res:=(.cons (.pd Y63) .nil),fns:=[],α:=El Y63,f:=fun x=>F171 x.1,unp:=fun z=>(((),()),(z,()))}
theorem F171_ok:ZS Tryz.prog 63 F171S:=Tr.cmp_ok
def F171E:Zn:=⟨63,F171S,F171_ok⟩
def F181(a:List (El Ym))(_:Unit):Option (List (El Ym)):=Tr.sortX F89 a
def F181S:Tr.Spec:= {args:=(.cons (.own Ym Uc) (.cons (.fn 61 .nil) .nil)),res:=.nil,fns:=[61],α:=List (El Ym),f:=fun x=>F181 x.1 x.2.1,unp:=fun z=>((z,(),()),())}
theorem F181_ok:ZS Tryz.prog 60 F181S:=Tr.sortFuncX_ok (ρ:=Tryz.sort60_ren) Tryz.sort60 rfl Tryz.isAgg65 Tryz.sizeOf65 F89_ok
def F181E:Zn:=⟨60,F181S,F181_ok⟩
def F88:(El GB)->Option (El Y63):=fun x=>
 Va
 (run
 (fun s0=>
 bif Ue (s0.2<(↑(Vb x):Int)) then
 Va (idx x s0.2) fun j=>
 Va (Zz (Ue (Vb s0.1+Vb [[j.2.1.1,j.2.1.2.1]]<=ZD))) fun _=>
 U (.inl (s0.1++[[j.2.1.1,j.2.1.2.1]],Vc .i64 (s0.2+(1:Int))))
 else U (.inr s0.1))
 ([],(0:Int)))
 fun y=>
 Va (F181 y ()) fun z=>
 Va (F171 z) fun d=>
 Va
 (run
 (fun c=>
 bif Ue (c.2<(↑(Vb d):Int)) then
 Va (idx d c.2) fun e=>
 Va (sliceB (Vb d) (Vb d) (U (Vc .i64 (c.2+(1:Int)))) Ub) fun f=>
 Va
 (run
 (fun g=>
 bif Ue (g.2<(↑(Vb (Vh (f.2 - f.1) (Vi f.1 d))):Int)) then
 Va (idx (Vh (f.2 - f.1) (Vi f.1 d)) g.2) fun h=>
 Va
 (bif g.1 then U Uc
 else
 Va h[Vd (0:Int)]? fun k=>
 Va e[Vd (0:Int)]? fun l=>
 bif Ue (l<=k) then
 Va h[Vd (1:Int)]? fun m=>Va e[Vd (1:Int)]? fun n=>U (Ue (m<=n))
 else U Ud)
 fun o=>U (.inl (o,Vc .i64 (g.2+(1:Int))))
 else U (.inr g.1))
 (Ud,(0:Int)))
 fun p=>
 Va (sliceB (Vb d) (Vb d) Ub (U c.2)) fun a=>
 Va
 (run
 (fun b=>
 bif Ue (b.2<(↑(Vb (Vh (a.2 - a.1) (Vi a.1 d))):Int)) then
 Va (idx (Vh (a.2 - a.1) (Vi a.1 d)) b.2) fun i=>
 Va
 (bif b.1 then U Uc
 else
 Va i[Vd (0:Int)]? fun q=>
 Va e[Vd (0:Int)]? fun r=>
 bif Ue (r<=q) then
 Va i[Vd (1:Int)]? fun s=>Va e[Vd (1:Int)]? fun t=>U (Ue (s<=t))
 else U Ud)
 fun u=>U (.inl (u,Vc .i64 (b.2+(1:Int))))
 else U (.inr b.1))
 (p,(0:Int)))
 fun v=>
 bif !v then
 Va (Zz (Ue (Vb c.1+Vb [e]<=ZD))) fun _=>
 U (.inl (c.1++[e],Vc .i64 (c.2+(1:Int))))
 else U (.inl (c.1,Vc .i64 (c.2+(1:Int))))
 else U (.inr c.1))
 ([],(0:Int)))
 fun w=>U w
def F88E:Zn:=ZZ 25 f25 99 [F181E,F89E,F171E] (hS (hS (.seq (hS (.lp (en [(3,.own Ym Ud),pd 16 Y3] [14,15]) [(.exit 0,en [(3,.own Ym Ud)] [])] .leaf)) (hS (hS (hS (.seq (hS (.lp (en [(6,.own Ym Ud),pd 37 Y3] [3,35,36]) [(.exit 2,en [(6,.own Ym Ud)] [])] (hS (hS (.seq (hS (hS (.seq (hS (.lp (en [pd 9 Y4,pd 47 Y3] [3,6,7,8,35,36,37,45,46]) [(.exit 4,en [pd 9 Y4] [3,6,7,8,35,36,37])] (hS (hS (.seq (hS (.reg [(9,Y4)])) .leaf))))) (.seq (hS (.lp (en [pd 9 Y4,pd 71 Y3] [3,6,8,35,36,37,69,70]) [(.exit 6,en [pd 9 Y4] [3,6,8,35,36,37])] (hS (hS (.seq (hS (.reg [(9,Y4)])) .leaf))))) .leaf)))) .leaf))))) .leaf))))))) (.q GB) (.pd Y63) (u1 F88)
def F59:(El Y9)->(El Y3)->(El Y3)->Option (El XJ):=fun c a b=>
 U
 ((0:Int),(0:Int),(0:Int),c,(0:Int),Ud,Ud,[((0:Int),a,a,Uc,Ud,()),((1:Int),b,b,Ud,Uc,())],())
def F59E:Zn:=ZZ 69 f69 16 [] .leaf (.p Y9 (.p Y3 (.q Y3))) (.pd XJ) (u3 F59)
def F60:Option (El Zh):=Va (F59 [(114:UInt8),(48:UInt8)] (100:Int) (300:Int)) fun a=>
 Va (F59 [(114:UInt8),(49:UInt8)] (200:Int) (350:Int)) fun b=>
 Va (F59 [(114:UInt8),(50:UInt8)] (250:Int) (340:Int)) fun c=>
 U
 ([([(65:UInt8)],(0:Int),Ud,(0:Int),()),([(66:UInt8)],(0:Int),Ud,(0:Int),())],[([(82:UInt8)],(0:Int),Ud,())],
 [a,b,c],([]:List (El YS)),([]:List (El K8)),([([(112:UInt8)],(150:Int),(1:Int),(16:Int),(0:Int),(255:Int),())],(0:Int),(0:Int),(0:Int),()),())
abbrev F60A:Pats:=.nil
abbrev F60R:Pats:=(.cons (.pd Zh) .nil)
def F60S:Tr.Spec:= {args:=F60A,res:=F60R,fns:=[],α:=El Zh,f:=fun _=>F60,unp:=fun z=>((),(z,()))}
def F60M:List (Nat×List Tr.Spec):=[(69,[F59E.S])]
def F60H:K3:=.leaf
theorem F60_eq:(XO (mkE tyTabH mapTabH pkTabH [] [] F60M 18 bdTabH) (KX f32) f32.results F60H F60A F60R (fun y=>y.2.1) (()):Option (El Zh))=F60:=by kernel_rfl
theorem F60_ok:ZS Tryz.prog 32 F60S:=WZ (m:=F60M) (fn:=f32) (hint:=F60H) (pack:=fun y=>y.2.1) K9 tab_okH ⟨⟨F59E.ok,trivial⟩,trivial⟩ fun _ z h=>(F60_eq).trans h
def F61:Option (El Y4):=U Uc
abbrev F61A:Pats:=.nil
abbrev F61R:Pats:=(.cons (.pd Y4) .nil)
def F61S:Tr.Spec:= {args:=F61A,res:=F61R,fns:=[],α:=El Y4,f:=fun _=>F61,unp:=fun z=>((),(z,()))}
def F61M:List (Nat×List Tr.Spec):=[(15,[F91E.S]),(23,[F87E.S]),(25,[F88E.S]),(27,[F90E.S]),(32,[F60S])]
def F61H:K3:=(hS (hS (hS (hS (.seq (.seq (.reg [(37,Y4)]) .leaf) (hS (hS (hS (hS (hS (.seq (.seq (.reg [(77,Y4)]) .leaf) (.seq (.reg [(0,Y4)]) .leaf))))))))))))
theorem F61_eq:(XO (mkE tyTabH mapTabH pkTabH [] [] F61M 158 bdTabH) (KX f14) f14.results F61H F61A F61R (fun y=>y.2.1) (()):Option (El Y4))=F61:=by kernel_rfl
theorem F61_ok:ZS Tryz.prog 14 F61S:=WZ (m:=F61M) (fn:=f14) (hint:=F61H) (pack:=fun y=>y.2.1) K9 tab_okH ⟨⟨F91E.ok,trivial⟩,⟨F87E.ok,trivial⟩,⟨F88E.ok,trivial⟩,⟨F90E.ok,trivial⟩,⟨F60_ok,trivial⟩,trivial⟩ fun _ z h=>(F61_eq).trans h
def F123:(El Zh)->Option (El Y4):=fun a=>
 Va
 (bif Ue ((5:Int)<(↑(Vb a.1):Int)) then U Uc
 else
 bif Ue ((7:Int)<(↑(Vb a.2.2.1):Int)) then U Uc
 else
 bif Ue ((30:Int)<(↑(Vb a.2.2.2.1):Int)) then U Uc
 else U (Ue ((60:Int)<(↑(Vb a.2.2.2.2.1):Int))))
 fun c=>
 bif c then U Ud
 else
 Va
 (run
 (fun b=>
 bif Ue (b<(↑(Vb a.2.2.1):Int)) then
 Va (idx a.2.2.1 b) fun d=>
 bif Ue ((6:Int)<(↑(Vb d.2.2.2.2.2.2.2.1):Int)) then U (.inr (.inr Ud))
 else U (.inl (Vc .i64 (b+(1:Int))))
 else U (.inr (.inl ())))
 (0:Int))
 fun e=>Ve (fun _=>Va (F124 a) fun f=>U f) (fun g=>U g) e
def F123E:Zn:=ZZ 44 f44 43 [F124E] (hS (.seq (.seq (.reg [(25,Y4)]) .leaf) (.seq (hS (.lp (en [pd 3 Y3] [1]) [(.exit 0,en [] [1]),(.ret,en [pd 2 Y4] [])] .leaf)) .leaf))) (.q Zh) (.pd Y4) (u1 F123)
def F63:(El Zh)->(El Zk)->Option (El Y4):=fun b a=>
 Va
 (Va (F123 b) fun c=>
 bif c then
 Va (F149 (↑(Vb b.1):Int) a) fun d=>
 bif d then
 bif !a.2.2.2.1 then bif !a.2.2.2.2.2.2.2.2.2.1 then U (Ue (a.2.2.2.2.1<=(3:Int))) else U Ud
 else U Ud
 else U Ud
 else U Ud)
 fun e=>U e
def F63E:Zn:=ZZ 16 f16 29 [F123E,F149E] (hS (.seq (.reg [(4,Y4)]) .leaf)) (.p Zh (.q Zk)) (.pd Y4) (u2 F63)
def F156:(El Zh)->(El KZ)->(El KZ)->(El Y4)->Option (El Y4):=fun b c d e=>
 Va
 (run
 (fun s0=>
 bif Ue (s0<(↑(Vb b.2.2.2.1):Int)) then
 Va (idx b.2.2.2.1 s0) fun a=>
 Va
 (bif Ue (a.1=c.2.1) then
 bif Ue (a.2.1=c.2.2.2.1) then
 bif Ue (a.2.2.1=d.2.1) then
 bif Ue (a.2.2.2.1=d.2.2.1) then U (a.2.2.2.2.1==e) else U Ud
 else U Ud
 else U Ud
 else U Ud)
 fun f=>bif f then U (.inr (.inr Uc)) else U (.inl (Vc .i64 (s0+(1:Int))))
 else U (.inr (.inl ())))
 (0:Int))
 fun g=>Ve (fun _=>U Ud) (fun h=>U h) g
def F156E:Zn:=ZZ 208 f208 55 [] (hS (.seq (hS (.lp (en [pd 9 Y3] [3,4,5,6]) [(.exit 0,e0),(.ret,en [pd 8 Y4] [])] (hS (.seq (hS (.seq (.reg [(54,Y4)]) .leaf)) .leaf)))) .leaf)) (.p Zh (.p KZ (.p KZ (.q Y4)))) (.pd Y4) (u4 F156) (rws:=[48])
def F153:(El Zh)->(El KZ)->(El KZ)->Option (El ZI):=fun c a b=>
 bif !Ue (a.2.2.2.2.2.1=b.2.2.2.2.1) then U (24:Int)
 else
 Va (bif !a.1 then U !b.1 else U Ud) fun d=>
 bif d then U (32:Int)
 else
 bif b.2.2.2.2.2.2.2.2.1 then
 Va (bif !a.1 then U Uc else Va (F156 c a b Uc) fun e=>U !e) fun f=>
 bif f then U (19:Int) else bif Ue (b.2.2.2.2.2.2.1<a.2.2.2.2.2.2.2.1) then U (10:Int) else U (0:Int)
 else
 bif !b.1 then bif !Ue (b.2.2.2.2.2.2.1=a.2.2.2.2.2.2.2.1) then U (10:Int) else U (0:Int)
 else
 bif !a.1 then bif Ue (b.2.2.2.2.2.2.1<a.2.2.2.2.2.2.2.1) then U (28:Int) else U (0:Int)
 else
 Va
 (Va (idx c.1 a.2.2.2.2.2.1) fun g=>
 bif Ue (Vc .i64 (a.2.2.2.2.2.2.2.1+g.2.2.2.1)<=b.2.2.2.2.2.2.1) then U Uc
 else
 Va (F156 c a b Ud) fun h=>
 bif h then U (Ue (a.2.2.2.2.2.2.2.1<=b.2.2.2.2.2.2.1)) else U Ud)
 fun i=>bif i then U (0:Int) else U (28:Int)
def F153E:Zn:=ZZ 155 f155 79 [F156E] (hS (hS (.seq (.seq (.reg [(19,Y4)]) .leaf) (.seq (hS (.cnd Ub (.seq (.seq (.reg [(31,Y4)]) .leaf) .leaf) .leaf)) (hS (hS (.seq (.seq (.reg [(78,Y4)]) .leaf) .leaf))))))) (.p Zh (.p KZ (.q KZ))) (.pd ZI) (u3 F153) (rws:=[48])
def F136:(El Zh)->(El KZ)->Option (El Y4):=fun b a=>
 Va (bif Ue (a.2.1<(0:Int)) then U Uc else U (Ue ((↑(Vb b.2.2.1):Int)<=a.2.1))) fun c=>
 bif c then U Ud
 else
 Va
 (bif Ue ((0:Int)<=a.2.2.1) then
 bif Ue (a.2.2.1<a.2.2.2.1) then
 Va (idx b.2.2.1 a.2.1) fun d=>U (Ue (a.2.2.2.1<(↑(Vb d.2.2.2.2.2.2.2.1):Int)))
 else U Ud
 else U Ud)
 fun e=>U e
def F136E:Zn:=ZZ 99 f99 39 [] (hS (.seq (.seq (.reg [(15,Y4)]) .leaf) (.seq (.reg [(4,Y4)]) .leaf))) (.p Zh (.q KZ)) (.pd Y4) (u2 F136)
def F148:(El Zh)->(El Zk)->(El Y3)->Option (El Y4):=fun a b c=>Va (bif !b.2.2.2.2.2.2.1 then U Uc else Va (idx a.1 c) fun d=>U d.2.2.1) fun e=>U e
def F148E:Zn:=ZZ 158 f158 18 [] (hS (.seq (.reg [(6,Y4)]) .leaf)) (.p Zh (.p Zk (.q Y3))) (.pd Y4) (u3 F148) (rws:=[48])
def F157:(El Zh)->(El Zk)->(El KZ)->Option (El ZI):=fun d b a=>
 Va (idx d.2.2.1 a.2.1) fun c=>
 Va (idx c.2.2.2.2.2.2.2.1 a.2.2.1) fun e=>
 Va (idx c.2.2.2.2.2.2.2.1 a.2.2.2.1) fun i=>
 Va (idx d.2.1 c.2.2.2.2.1) fun j=>
 Va (bif !Ue (e.1=a.2.2.2.2.1) then U Uc else U !Ue (i.1=a.2.2.2.2.2.1)) fun k=>
 bif k then U (24:Int)
 else
 Va
 (bif !Ue (e.2.2.1=a.2.2.2.2.2.2.1) then U Uc
 else U !Ue (i.2.1=a.2.2.2.2.2.2.2.1))
 fun l=>
 bif l then U (10:Int)
 else
 bif c.2.2.2.2.2.2.1 then U (27:Int)
 else
 Va (bif b.2.2.2.2.2.2.1 then U !c.2.2.2.2.2.1 else U Ud) fun m=>
 bif m then U (29:Int)
 else
 Va (bif b.2.2.2.2.2.2.2.1 then U !j.2.2.1 else U Ud) fun n=>
 bif n then U (30:Int)
 else
 Va
 (bif !Ue (b.2.2.2.2.2.2.2.2.1=(0:Int)) then
 Va (HR .i64 b.2.2.2.2.2.2.2.2.1 j.2.1) fun o=>
 U (Ue (ZG .i64 o (1:Int)=(0:Int)))
 else U Ud)
 fun p=>
 bif p then U (31:Int)
 else
 Va (bif !a.2.2.2.2.2.2.2.2.1 then U !e.2.2.2.1 else U Ud) fun f=>
 bif f then U (25:Int)
 else
 Va
 (bif !a.2.2.2.2.2.2.2.2.1 then Va (F148 d b a.2.2.2.2.1) fun g=>U !g else U Ud)
 fun h=>bif h then U (29:Int) else U (0:Int)
def F157E:Zn:=ZZ 209 f209 106 [F148E] (hS (hS (hS (hS (.seq (.seq (.reg [(46,Y4)]) .leaf) (.seq (.seq (.reg [(58,Y4)]) .leaf) (hS (.seq (.seq (.reg [(67,Y4)]) .leaf) (.seq (.seq (.reg [(74,Y4)]) .leaf) (.seq (.seq (.reg [(86,Y4)]) .leaf) (.seq (.seq (.reg [(94,Y4)]) .leaf) (.seq (.seq (.reg [(105,Y4)]) .leaf) .leaf)))))))))))) (.p Zh (.p Zk (.q KZ))) (.pd ZI) (u3 F157) (rws:=[48])
def F158:(El Zh)->(El Zk)->(El KZ)->Option (El ZI):=fun c d a=>
 Va
 (run
 (fun s0=>
 bif Ue (s0.2<(↑(Vb c.2.2.2.2.1):Int)) then
 Va (idx c.2.2.2.2.1 s0.2) fun b=>
 Va
 (bif !Ue (b.1=a.2.2.2.2.1) then U Uc
 else
 bif !Ue (b.2.1=a.2.2.2.2.2.1) then U Uc
 else U !Ue (b.2.2.1=Vc .i64 (a.2.2.2.2.2.2.2.1 - a.2.2.2.2.2.2.1)))
 fun e=>
 bif e then U (.inl (s0.1,Vc .i64 (s0.2+(1:Int))))
 else
 Va (bif b.2.2.2.1 then U Uc else U !d.2.2.2.2.2.2.1) fun f=>
 bif f then U (.inr (.inr (0:Int))) else U (.inl ((29:Int),Vc .i64 (s0.2+(1:Int))))
 else U (.inr (.inl s0.1)))
 ((18:Int),(0:Int)))
 fun g=>Ve (fun h=>U h) (fun i=>U i) g
def F158E:Zn:=ZZ 210 f210 52 [] (hS (hS (.seq (hS (.lp (en [pd 7 ZI,pd 8 Y3] [3,4,5]) [(.exit 0,en [pd 7 ZI] []),(.ret,en [pd 6 ZI] [])] (hS (.seq (hS (.seq (.seq (.reg [(43,Y4)]) .leaf) (.seq (.seq (.reg [(50,Y4)]) .leaf) .leaf))) .leaf)))) .leaf))) (.p Zh (.p Zk (.q KZ))) (.pd ZI) (u3 F158) (rws:=[48])
def F155:(El Zh)->(El Zk)->(El KZ)->Option (El ZI):=fun b c a=>
 Va
 (Va (F154 a.2.2.2.2.1 (0:Int) (Vc .i64 ((↑(Vb b.1):Int) - (1:Int)))) fun d=>
 bif !d then U Uc
 else Va (F154 a.2.2.2.2.2.1 (0:Int) (Vc .i64 ((↑(Vb b.1):Int) - (1:Int)))) fun e=>U !e)
 fun f=>
 bif f then U (9:Int)
 else
 Va
 (bif a.1 then
 Va (F136 b a) fun g=>
 bif !g then U Uc
 else
 bif !a.1 then
 bif !Ue (a.2.1=(0:Int)) then U Uc
 else
 bif !Ue (a.2.2.1=(0:Int)) then U Uc
 else bif !Ue (a.2.2.2.1=(0:Int)) then U Uc else U a.2.2.2.2.2.2.2.2.1
 else U Ud
 else
 bif !a.1 then
 bif !Ue (a.2.1=(0:Int)) then U Uc
 else
 bif !Ue (a.2.2.1=(0:Int)) then U Uc
 else bif !Ue (a.2.2.2.1=(0:Int)) then U Uc else U a.2.2.2.2.2.2.2.2.1
 else U Ud)
 fun h=>
 bif h then U (9:Int)
 else
 Va
 (Va (F154 a.2.2.2.2.2.2.1 (0:Int) (3155932800:Int)) fun i=>
 bif !i then U Uc else Va (F154 a.2.2.2.2.2.2.2.1 (0:Int) (3155932800:Int)) fun j=>U !j)
 fun k=>
 bif k then U (10:Int) else bif a.1 then Va (F157 b c a) fun l=>U l else Va (F158 b c a) fun m=>U m
def F155E:Zn:=ZZ 156 f156 77 [F154E,F136E,F157E,F158E] (hS (.seq (.seq (.reg [(24,Y4)]) .leaf) (.seq (.seq (.reg [(56,Y4)]) .leaf) (.seq (.seq (.reg [(66,Y4)]) .leaf) .leaf)))) (.p Zh (.p Zk (.q KZ))) (.pd ZI) (u3 F155) (rws:=[48])
def F152:(El Zh)->(El Zk)->(El Jk)->Option (El ZI):=fun d a c=>
 Va (idx c.1 (0:Int)) fun b=>
 bif !Ue (b.2.2.2.2.1=a.1) then U (24:Int)
 else
 bif b.2.2.2.2.2.2.2.2.1 then U (19:Int)
 else
 Va
 (bif !b.1 then
 bif Ue ((1:Int)<(↑(Vb c.1):Int)) then
 Va (idx c.1 (1:Int)) fun e=>
 bif e.1 then Va (idx c.1 (1:Int)) fun f=>U !Ue (f.2.2.2.2.2.2.1=b.2.2.2.2.2.2.2.1)
 else U Ud
 else U Ud
 else U Ud)
 fun g=>
 bif g then U (10:Int)
 else
 Va
 (bif !b.1 then
 bif Ue ((↑(Vb c.1):Int)=(1:Int)) then
 bif a.2.2.2.1 then
 bif !Ue (b.2.2.2.2.2.2.2.1=a.2.2.1) then U Uc
 else bif !a.2.2.2.1 then U !Ue (b.2.2.2.2.2.2.1=a.2.2.1) else U Ud
 else bif !a.2.2.2.1 then U !Ue (b.2.2.2.2.2.2.1=a.2.2.1) else U Ud
 else U Ud
 else U Ud)
 fun h=>
 bif h then U (10:Int)
 else
 Va (bif !a.2.2.2.1 then U (Ue (b.2.2.2.2.2.2.1<a.2.2.1)) else U Ud) fun i=>
 bif i then U (10:Int)
 else
 Va
 (bif a.2.2.2.2.2.2.2.2.2.1 then
 bif b.1 then
 Va (idx d.1 a.1) fun j=>
 U (Ue (b.2.2.2.2.2.2.1<Vc .i64 (a.2.2.1+j.2.2.2.1)))
 else U Ud
 else U Ud)
 fun k=>bif k then U (28:Int) else U (0:Int)
def F152E:Zn:=ZZ 157 f157 108 [] (hS (hS (hS (hS (.seq (.seq (.reg [(44,Y4)]) .leaf) (.seq (.seq (.reg [(76,Y4)]) .leaf) (.seq (.seq (.reg [(86,Y4)]) .leaf) (.seq (.seq (.reg [(107,Y4)]) .leaf) .leaf)))))))) (.p Zh (.p Zk (.q Jk))) (.pd ZI) (u3 F152) (rws:=[48])
def F150:(El Zh)->(El Zk)->(El Jk)->(El Y3)->Option (El ZI):=fun b e c d=>
 Va (idx c.1 d) fun a=>
 Va (F155 b e a) fun g=>
 bif !Ue (g=(0:Int)) then U g
 else
 Va
 (bif Ue (d=(0:Int)) then Va (F152 b e c) fun i=>U i
 else Va (idx c.1 (Vc .i64 (d - (1:Int)))) fun j=>Va (F153 b j a) fun k=>U k)
 fun h=>
 bif !Ue (h=(0:Int)) then U h
 else
 Va
 (bif a.1 then
 bif Ue (Vc .i64 (d+(1:Int))=(↑(Vb c.1):Int)) then U Uc
 else Va (idx c.1 (Vc .i64 (d+(1:Int)))) fun l=>U !l.2.2.2.2.2.2.2.2.1
 else U Ud)
 fun m=>
 bif m then
 Va (idx b.2.2.1 a.2.1) fun n=>
 Va (idx n.2.2.2.2.2.2.2.1 a.2.2.2.1) fun o=>
 bif !o.2.2.2.2.1 then U (26:Int)
 else Va (F148 b e a.2.2.2.2.2.1) fun f=>bif !f then U (29:Int) else U (0:Int)
 else U (0:Int)
def F150E:Zn:=ZZ 97 f97 80 [F153E,F155E,F152E,F148E] (hS (hS (hS (hS (.seq (hS (.cnd (U ((en [] [3,4,5,6,9]),[(.normal,en [pd 10 ZI] [3,4,5,6,9])])) .leaf .leaf)) (hS (.seq (.seq (.reg [(60,Y4)]) .leaf) .leaf))))))) (.p Zh (.p Zk (.p Jk (.q Y3)))) (.pd ZI) (u4 F150) (rws:=[48])
def F144:(El Zh)->(El KZ)->Option (El Y3):=fun c b=>
 Va (idx c.2.2.1 b.2.1) fun d=>
 Va
 (run
 (fun a=>
 bif Ue (a.2<=b.2.2.2.1) then
 Va (idx d.2.2.2.2.2.2.2.1 a.2) fun e=>
 Va (idx c.1 e.1) fun f=>
 Va (Gp .i64 (1:Int) f.2.1) fun g=>U (.inl (K5 .i64 a.1 g,Vc .i64 (a.2+(1:Int))))
 else U (.inr a.1))
 ((0:Int),b.2.2.1))
 fun h=>U h
def F144E:Zn:=ZZ 100 f100 37 [] (hS (hS (hS (.seq (hS (.lp (en [pd 5 Y3,pd 7 Y3] [2,3,6]) [(.exit 0,en [pd 5 Y3] [])] .leaf)) .leaf)))) (.p Zh (.q KZ)) (.pd Y3) (u2 F144)
def F138:(El Zh)->(El Jk)->Option (El Wl×El ZI):=fun j n=>
 Va (F124 j) fun u=>
 bif !u then U ([],(21:Int))
 else
 Va
 (run
 (fun c=>
 bif Ue (c.2<(↑(Vb n.1):Int)) then
 Va (idx n.1 c.2) fun d=>
 Va (bif d.1 then Va (F136 j d) fun v=>U !v else U Ud) fun w=>
 bif w then U (.inr (.inr ([],(9:Int))))
 else
 Va
 (bif d.2.2.2.2.2.2.2.2.1 then
 bif !d.1 then U Uc
 else
 bif Ue (c.2=(0:Int)) then U Uc
 else Va (idx n.1 (Vc .i64 (c.2 - (1:Int)))) fun x=>U !x.1
 else U Ud)
 fun y=>
 bif y then U (.inr (.inr ([],(19:Int))))
 else
 bif !d.1 then U (.inl (c.1,Vc .i64 (c.2+(1:Int))))
 else
 Va (idx j.2.2.1 d.2.1) fun z=>
 Va (idx j.2.1 z.2.2.2.2.1) fun A=>
 Va (Gp .i64 (1:Int) A.2.1) fun s=>
 bif d.2.2.2.2.2.2.2.2.1 then
 Va (Zs (Vc .i64 ((↑(Vb c.1):Int) - (1:Int))) (Vb c.1)) fun e=>
 Va c.1[e]? fun a=>
 Va
 (Zs (Vc .i64 ((↑(Vb c.1):Int) - (1:Int)))
 (Vb (Vg c.1 e (a.1,d.2.2.2.2.2.2.2.1,a.2.2))))
 fun o=>
 Va (Vg c.1 e (a.1,d.2.2.2.2.2.2.2.1,a.2.2))[o]? fun g=>
 Va (F144 j d) fun h=>
 Va
 (Zs (Vc .i64 ((↑(Vb c.1):Int) - (1:Int)))
 (Vb (Vg c.1 e (a.1,d.2.2.2.2.2.2.2.1,a.2.2))))
 fun f=>
 Va (Vg c.1 e (a.1,d.2.2.2.2.2.2.2.1,a.2.2))[f]? fun b=>
 Va
 (Zs (Vc .i64 ((↑(Vb c.1):Int) - (1:Int)))
 (Vb
 (Vg (Vg c.1 e (a.1,d.2.2.2.2.2.2.2.1,a.2.2)) f
 (b.1,b.2.1,K5 .i64 g.2.2.1 h,b.2.2.2))))
 fun p=>
 Va
 (Vg (Vg c.1 e (a.1,d.2.2.2.2.2.2.2.1,a.2.2)) f
 (b.1,b.2.1,K5 .i64 g.2.2.1 h,b.2.2.2))[p]?
 fun q=>
 Va
 (Zs (Vc .i64 ((↑(Vb c.1):Int) - (1:Int)))
 (Vb
 (Vg (Vg c.1 e (a.1,d.2.2.2.2.2.2.2.1,a.2.2)) f
 (b.1,b.2.1,K5 .i64 g.2.2.1 h,b.2.2.2))))
 fun k=>
 Va
 (Vg (Vg c.1 e (a.1,d.2.2.2.2.2.2.2.1,a.2.2)) f
 (b.1,b.2.1,K5 .i64 g.2.2.1 h,b.2.2.2))[k]?
 fun i=>
 U
 (.inl
 (Vg
 (Vg (Vg c.1 e (a.1,d.2.2.2.2.2.2.2.1,a.2.2)) f
 (b.1,b.2.1,K5 .i64 g.2.2.1 h,b.2.2.2))
 k (i.1,i.2.1,i.2.2.1,K5 .i64 q.2.2.2.1 s,i.2.2.2.2),
 Vc .i64 (c.2+(1:Int))))
 else
 Va (F144 j d) fun l=>
 Va
 (Zz (Ue (Vb c.1+Vb [(d.2.2.2.2.2.2.1,d.2.2.2.2.2.2.2.1,l,s,())]<=ZD)))
 fun _=>
 U
 (.inl (c.1++[(d.2.2.2.2.2.2.1,d.2.2.2.2.2.2.2.1,l,s,())],Vc .i64 (c.2+(1:Int))))
 else U (.inr (.inl c.1)))
 ([],(0:Int)))
 fun r=>Ve (fun t=>U (t,(0:Int))) (fun m=>U (m.1,m.2)) r
def F138E:Zn:=Wf 52 f52 120 [F124E,F136E,F144E] (hS (hS (hS (.seq (hS (.lp (en [(6,.own WS Ud),pd 7 Y3] [2,3]) [(.exit 0,en [(6,.own WS Ud)] []),(.ret,en [pd 4 Wl,pd 5 ZI] [])] (hS (.seq (hS (.seq (.seq (.reg [(34,Y4)]) .leaf) (.seq (.seq (.reg [(55,Y4)]) .leaf) .leaf))) .leaf)))) .leaf)))) (.p Zh (.q Jk)) (.p Wl (.q ZI)) (u2 F138) (fun z=>(((),(),()),(z.1,z.2,()))) (fun y=>(y.2.1,y.2.2.1))
def F142:(El Y3)->Option (El Y3):=fun a=>
 Va
 (run
 (fun s0=>
 bif Ue (s0.2<(62:Int)) then
 Va (HR .i64 a s0.2) fun b=>
 bif Ue (ZG .i64 b (1:Int)=(1:Int)) then
 U (.inl (Vc .i64 (s0.1+(1:Int)),Vc .i64 (s0.2+(1:Int))))
 else U (.inl (s0.1,Vc .i64 (s0.2+(1:Int))))
 else U (.inr s0.1))
 ((0:Int),(0:Int)))
 fun c=>U c
abbrev F142A:Pats:=(.cons (.pd Y3) .nil)
abbrev F142R:Pats:=(.cons (.pd Y3) .nil)
def F142S:Tr.Spec:= {args:=F142A,res:=F142R,fns:=[],α:=El Y3,f:=fun x=>F142 x.1,unp:=fun z=>(((),()),(z,()))}
def F142M:List (Nat×List Tr.Spec):=[]
def F142H:K3:=(hS (hS (.seq (hS (.lp (en [pd 3 Y3,pd 4 Y3] [0]) [(.exit 0,en [pd 3 Y3] [])] .leaf)) .leaf)))
theorem F142_eq(a:El Y3):(XO (mkE tyTabH mapTabH pkTabH [] [] F142M 17 bdTabH) (KX f159) f159.results F142H F142A F142R (fun y=>y.2.1) (a,()):Option (El Y3))=F142 a:=by kernel_rfl
end
end Q

