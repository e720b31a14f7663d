/- The functions of the program as functions of Lean, and that the program computes them; printed by a program of mine. Conditions: none. -/
import Derived.Test.YtbjejlpejjnpnaaGreatFintopa
open Tr Go Go.Proofs
open Int renaming toNat ->Vd,fdiv ->Ve,tdiv ->Vm
open Go.IntKind renaming wrap ->Vb
open List renaming length ->Vc,set ->Vf,take ->Vh,drop ->Vi,replicate ->Vj,isEmpty ->Vl
open Option renaming bind ->Va,getD ->Vg
open Sum renaming elim ->Vk
namespace Q
noncomputable section
def F87:(El ZR)->Option ((El Yk×El Yl×List (El Hv) ×List (El GB) ×El WD×El KY×Unit)):=fun d=>
 Va (F98 d.1) fun h=>
 Va (F96 d.2.1) fun i=>
 Va (F97 d.2.2.1) fun f=>
 Va (F94 d.2.2.2.1) fun j=>
 Va (F93 d.2.2.2.2.1) fun k=>
 Va
 (run
 (fun b=>
 bif decide (b.2<(↑(Vc f):Int)) then
 Va (Zp b.2 (Vc b.1.2.2.1)) fun l=>
 Va b.1.2.2.1[l]? fun m=>
 Va (F92 m.2.2.2.2.2.2.2.1) fun n=>
 Va (Zp b.2 (Vc b.1.2.2.1)) fun g=>
 Va b.1.2.2.1[g]? fun a=>
 some
 (.inl
 ((b.1.1,b.1.2.1,
 Vf b.1.2.2.1 g
 (a.1,a.2.1,a.2.2.1,a.2.2.2.1,a.2.2.2.2.1,a.2.2.2.2.2.1,a.2.2.2.2.2.2.1,n,
 a.2.2.2.2.2.2.2.2),
 b.1.2.2.2.1,b.1.2.2.2.2.1,b.1.2.2.2.2.2.1,()),
 Vb .i64 (b.2+(1:Int))))
 else some (.inr b.1))
 ((h,i,f,j,k,d.2.2.2.2.2.1,()),(0:Int)))
 fun c=>
 Va (F95 d.2.2.2.2.2.1.1) fun e=>
 some (c.1,c.2.1,c.2.2.1,c.2.2.2.1,c.2.2.2.2.1,(e,c.2.2.2.2.2.1.2),())
def F87E:Zl:=Ko 25 Tryz.f25 49 [F98E,F96E,F97E,F94E,F93E,F92E,F95E] (hS (hS (.seq (hS (.lp (en [(3,Pz4),pd 26 Y3] [1,2,25]) [(.exit 0,en [(3,Pz4)] [1,2])] .leaf)) .leaf))) (.q ZR) (.cons (.agg (.p Yk (.p Yl (.cons (.own Hv false) (.cons (.own GB false) (.p WD (.q KY))))))) .nil) (u1 F87) (fun z=>(((),()),(z,()))) (fun y=>y.2.1)
def F54(a:El ZR)(b:El Kf)(c:El Hv):Option Bool:=Tr.useF a b c
def F54S:Tr.Spec:= {args:=(.cons (.pd ZR) (.cons (.pd Kf) (.cons (.pd Hv) .nil))),res:=(.cons (.pd Y4) .nil),fns:=[],α:=El Y4,f:=fun x=>F54 x.1 x.2.1 x.2.2.1,unp:=fun z=>(((),(),(),()),(z,()))}
theorem F54_ok:Z4 Tryz.prog 26 F54S:=Tr.use_ok
def F54E:Zl:=⟨26,F54S,F54_ok⟩
def F53:(El ZR)->(El Kf)->(El Y3)->Option (El Y4):=fun a b c=>Va (Va (idx a.1 c) fun d=>bif d.2.2.1 then some true else some !b.2.2.2.2.2.2.1) fun e=>some e
def F53E:Zl:=ZK 60 Tryz.f60 18 [] (hS (.seq (.reg [(6,Y4)]) .leaf)) (.p ZR (.p Kf (.q Y3))) (.pd Y4) (u3 F53)
def F52:(El ZR)->(El Kf)->(El XW)->Option (El XW):=fun e f c=>
 Va
 (run
 (fun s0=>
 bif decide (s0.2<(↑(Vc c):Int)) then
 Va (idx c s0.2) fun a=>
 Va (F53 e f a.1) fun g=>
 Va (bif !g then some (a.1,a.2.1,a.2.2.1,false,false,a.2.2.2.2.2) else some a) fun d=>
 Va (ZE (decide (Vc s0.1+Vc [d]<=Zz))) fun _=>
 some (.inl (s0.1++[d],Vb .i64 (s0.2+(1:Int))))
 else some (.inr s0.1))
 ([],(0:Int)))
 fun b=>
 Va (Zp (↑(Vc b):Int) (Vc b+(1:Nat))) fun h=>
 Va (sliceB (Vc b) h none (some (↑(Vc b):Int))) fun i=>some (Vh i.2 (Vi (0:Nat) b))
def F52E:Zl:=ZK 27 Tryz.f27 35 [F53E] (hS (hS (.seq (hS (.lp (en [(7,.own Gy false),pd 12 Y3] [3,4,10,11]) [(.exit 0,en [(7,.own Gy false)] [])] (hS (hS (.seq (hS (.seq (hS (.cnd (some ((en [] [3,4,7,10,11,12]),[(.normal,en [(9,.var Gy (.pd Gy))] [3,4,7,10,11,12])])) .leaf .leaf)) .leaf)) .leaf))))) .leaf))) (.p ZR (.p Kf (.q XW))) (.pd XW) (u3 F52)
def F51:(El ZR)->(El Kf)->Option (El ZR×El ZA):=fun e h=>
 Va (F31 e h) fun l=>
 bif !decide (l=(0:Int)) then some ((([]:List (El Zfe)),([]:List (El Zff)),([]:List (El Hv)),([]:List (El GB)),([]:List (El Wd)),(([]:List (El Ym)),(0:Int),(0:Int),(0:Int),()),()),l)
 else
 Va (F87 e) fun o=>
 Va
 (run
 (fun c=>
 bif decide (c.2<(↑(Vc e.2.2.1):Int)) then
 Va (idx e.2.2.1 c.2) fun m=>
 Va (F54 e h m) fun k=>
 Va (Zp c.2 (Vc c.1.2.2.1)) fun i=>
 Va c.1.2.2.1[i]? fun b=>
 Va (F52 e h m.2.2.2.2.2.2.2.1) fun p=>
 Va
 (Zp c.2
 (Vc
 (Vf c.1.2.2.1 i
 (b.1,b.2.1,b.2.2.1,b.2.2.2.1,b.2.2.2.2.1,b.2.2.2.2.2.1, !k,b.2.2.2.2.2.2.2))))
 fun n=>
 Va
 (Vf c.1.2.2.1 i
 (b.1,b.2.1,b.2.2.1,b.2.2.2.1,b.2.2.2.2.1,b.2.2.2.2.2.1, !k,b.2.2.2.2.2.2.2))[n]?
 fun f=>
 some
 (.inl
 ((c.1.1,c.1.2.1,
 Vf
 (Vf c.1.2.2.1 i
 (b.1,b.2.1,b.2.2.1,b.2.2.2.1,b.2.2.2.2.1,b.2.2.2.2.2.1, !k,b.2.2.2.2.2.2.2))
 n
 (f.1,f.2.1,f.2.2.1,f.2.2.2.1,f.2.2.2.2.1,f.2.2.2.2.2.1,f.2.2.2.2.2.2.1,p,
 f.2.2.2.2.2.2.2.2),
 c.1.2.2.2.1,c.1.2.2.2.2.1,c.1.2.2.2.2.2.1,()),
 Vb .i64 (c.2+(1:Int))))
 else some (.inr c.1))
 (o,(0:Int)))
 fun d=>
 bif h.2.2.2.2.2.2.1 then
 Va
 (run
 (fun a=>
 bif decide (a.2<(↑(Vc e.2.2.2.2.1):Int)) then
 Va (idx e.2.2.2.2.1 a.2) fun g=>
 bif g.2.2.2.1 then
 Va (ZE (decide (Vc a.1.2.2.2.2.1+Vc [g]<=Zz))) fun _=>
 some
 (.inl
 ((a.1.1,a.1.2.1,a.1.2.2.1,a.1.2.2.2.1,a.1.2.2.2.2.1++[g],a.1.2.2.2.2.2.1,()),
 Vb .i64 (a.2+(1:Int))))
 else
 some
 (.inl
 (a.1,
 Vb .i64 (a.2+(1:Int))))
 else some (.inr a.1))
 ((d.1,d.2.1,d.2.2.1,d.2.2.2.1,[],d.2.2.2.2.2.1,()),(0:Int)))
 fun j=>some (j,(0:Int))
 else some (d,(0:Int))
def F51E:Zl:=Ko 8 Tryz.f8 70 [F31E,F87E,F54E,F52E] (hS (hS (hS (.seq (hS (.lp (en [(7,Pz4),pd 24 Y3] [2,3,4,22,23]) [(.exit 0,en [(7,Pz4)] [2,3,4])] .leaf)) (.seq (hS (.cnd none (hS (hS (.lp (en [(7,(.var ZR (.agg (.cons (.pd Yk) (.cons (.pd Yl) (.cons (.own Hv false) (.cons (.own GB false) (.cons (.own Wd false) (.cons (.pd KY) .nil))))))))),pd 56 Y3] [4,54,55]) [(.exit 2,en [(7,(.var ZR (.agg (.cons (.pd Yk) (.cons (.pd Yl) (.cons (.own Hv false) (.cons (.own GB false) (.cons (.own Wd false) (.cons (.pd KY) .nil)))))))))] [4])] .leaf))) .leaf)) .leaf))))) (.p ZR (.q Kf)) (.p ZR (.q ZA)) (u2 F51) (fun z=>(((),(),()),(z.1,z.2,()))) (fun y=>(y.2.1,y.2.2.1))
def F19:(El KY)->Option (El Wy×El ZA):=fun a=>
 Va (F109 a) fun b=>
 bif !decide (b.2=(0:Int)) then some ([],(20:Int))
 else
 Va (ZE (decide (Vc ([]:List Unit)+Vc a.1<=Zz))) fun _=>
 some ((some ([]++a.1,a.2),((0:Int),(0:Int),(0:Int),(0:Int),()),(0:Int),Tr.zeroEl ZcZ,())::Tr.zeroEl Wy,(0:Int))
def F19E:Zl:=Ko 67 Tryz.f67 21 [F109E] .leaf (.q KY) (.p Wy (.q ZA)) (u1 F19) (fun z=>(((),()),(z.1,z.2,()))) (fun y=>(y.2.1,y.2.2.1)) (rws:=[183]) (zxs:=[27])
def F155:(El KU)->(El KU)->Option (El Y4):=fun a b=>some (decide (a.2.1<b.2.1))
def F155E:Zl:=ZK 69 Tryz.f69 10 [] .leaf (.p KU (.q KU)) (.pd Y4) (u2 F155)
def F28(a:El XF)(b:El XF):Option Bool:=Qs.sameF a b
abbrev F28A:Pats:=(.cons (.pd XF) (.cons (.pd XF) .nil))
abbrev F28R:Pats:=(.cons (.pd Y4) .nil)
def F28S:Tr.Spec:= {args:=F28A,res:=F28R,fns:=[],α:=El Y4,f:=fun x=>F28 x.1 x.2.1,unp:=fun z=>(((),(),()),(z,()))}
theorem F28_ok:Z4 Tryz.prog 238 F28S:=Qs.sam_ok
def F28E:Zl:=⟨238,F28S,F28_ok⟩
def F26:(El Wy)->(El Wy)->Option (El Y4):=fun a b=>
 Va (Tr.unc a) fun _=>
 Va (Tr.unc a) fun p=>
 Va (Tr.unc a) fun _=>
 Va (Tr.unc a) fun q=>
 Va (idx q.2.2.2.2.1 p.2.2.2.1) fun n=>
 Va (Tr.unc b) fun _=>
 Va (Tr.unc b) fun r=>
 Va (Tr.unc b) fun _=>
 Va (Tr.unc b) fun s=>
 Va (idx s.2.2.2.2.1 r.2.2.2.1) fun o=>
 bif decide (o<(0:Int)) then some true
 else
 Va (bif decide (n<(0:Int)) then some true else some (decide (o<n))) fun e=>
 bif e then some false
 else
 Va
 (Va (Tr.unc a) fun _=>
 Va (Tr.unc a) fun c=>
 Va c.1 fun _=>
 Va c.1 fun f=>
 bif decide (f.2.1=(0:Int)) then some true
 else
 Va (Tr.unc b) fun _=>
 Va (Tr.unc b) fun g=>
 bif decide (g.2.2.2.1=(0:Int)) then some true
 else
 Va (Tr.unc a) fun _=>
 Va (Tr.unc a) fun d=>
 Va d.1 fun _=>Va d.1 fun h=>some (decide (Vb .i64 (n+h.2.1)<=o)))
 fun i=>
 bif i then some true
 else
 Va
 (Va (Tr.unc a) fun _=>
 Va (Tr.unc a) fun j=>
 bif decide ((0:Int)<j.2.2.2.1) then
 Va (Tr.unc a) fun _=>
 Va (Tr.unc a) fun k=>
 Va (Tr.unc b) fun _=>Va (Tr.unc b) fun l=>some (decide (l.2.2.1.2.1<=k.2.2.1.2.1))
 else some false)
 fun m=>some m
def F26E:Zl:=ZK 239 Tryz.f239 83 [] (hS (hS (.seq (hS (.cnd none .leaf (.seq (.reg [(28,Y4)]) (.cnd none .leaf (.seq (.reg [(36,Y4)]) .leaf))))) (.seq (.reg [(4,Y4)]) .leaf)))) (.p Wy (.q Wy)) (.pd Y4) (u2 F26)
def F22:(El Wy)->Option (List (El Ja)):=fun b=>
 Va (Tr.unc b) fun _=>
 Va (Tr.unc b) fun c=>
 Va
 (ZE
 (decide
 ((0:El (Tr.Ty.int .i64))<=c.2.2.2.1/\c.2.2.2.1<=c.2.2.2.1/\c.2.2.2.1<=(↑Zz:El (Tr.Ty.int .i64)))))
 fun _=>
 Va (Tr.unc b) fun _=>
 Va (Tr.unc b) fun g=>
 Va
 (run
 (fun a=>
 bif decide ((0:Int)<=a.2.2) then
 Va (Tr.unc a.1) fun _=>
 Va (Tr.unc a.1) fun h=>
 Va (Zp a.2.2 (Vc a.2.1)) fun f=>
 Va a.2.1[f]? fun _=>
 Va (Tr.unc a.1) fun _=>
 Va (Tr.unc a.1) fun d=>some (.inl (d.2.1,Vf a.2.1 f h.2.2.1,Vb .i64 (a.2.2 - (1:Int))))
 else some (.inr a.2.1))
 (b,Vj (Vd c.2.2.2.1) (((0:Int),(0:Int),(0:Int),(0:Int),())),Vb .i64 (g.2.2.2.1 - (1:Int))))
 fun e=>some e
def F22E:Zl:=ZK 243 Tryz.f243 31 [] (hS (hS (.seq (hS (.lp (en [pd 0 Wy,(3,.own Ja false),pd 4 Y3] []) [(.exit 0,en [(3,.own Ja false)] [])] .leaf)) .leaf))) (.q Wy) (.own Ja false) (u1 F22)
def F23:(El Wy)->Option (El WM):=fun b=>
 Va (Tr.unc b) fun _=>
 Va (Tr.unc b) fun c=>
 Va
 (ZE
 (decide
 ((0:El (Tr.Ty.int .i64))<=c.2.2.2.1/\c.2.2.2.1<=c.2.2.2.1/\c.2.2.2.1<=(↑Zz:El (Tr.Ty.int .i64)))))
 fun _=>
 Va (Tr.unc b) fun _=>
 Va (Tr.unc b) fun g=>
 Va
 (run
 (fun a=>
 bif decide ((0:Int)<=a.2.2) then
 Va (Tr.unc a.1) fun _=>
 Va (Tr.unc a.1) fun h=>
 Va (Zp a.2.2 (Vc a.2.1)) fun f=>
 Va a.2.1[f]? fun _=>
 Va (Tr.unc a.1) fun _=>
 Va (Tr.unc a.1) fun d=>some (.inl (d.2.1,Vf a.2.1 f h.2.2.1,Vb .i64 (a.2.2 - (1:Int))))
 else some (.inr a.2.1))
 (b,Vj (Vd c.2.2.2.1) (((0:Int),(0:Int),(0:Int),(0:Int),())),Vb .i64 (g.2.2.2.1 - (1:Int))))
 fun e=>some e
def F23E:Zl:=ZK 243 Tryz.f243 31 [] (hS (hS (.seq (hS (.lp (en [pd 0 Wy,(3,.own Ja false),pd 4 Y3] []) [(.exit 0,en [(3,.own Ja false)] [])] .leaf)) .leaf))) (.q Wy) (.pd WM) (u1 F23)
def F29:(El Y3)->(El Y3)->(El Y3)->Option (El Y4):=fun a b c=>
 Va
 (bif decide (b<=a) then some true
 else some (decide (Vb .u64 (Vb .u64 b - Vb .u64 a)<=Vb .u64 c)))
 fun d=>some d
def F29E:Zl:=ZK 252 Tryz.f252 20 [] (hS (.seq (.reg [(6,Y4)]) .leaf)) (.p Y3 (.p Y3 (.q Y3))) (.pd Y4) (u3 F29)
def F24:(El Wy)->(El Ym)->(El WM)->(El Y3)->Option (El Y3):=fun a d e b=>
 Va
 (bif decide ((0:Int)<b) then
 Va (idx e (Vb .i64 (b - (1:Int)))) fun h=>
 Va (idx e b) fun i=>
 Va (Tr.unc a) fun _=>
 Va (Tr.unc a) fun f=>Va f.1 fun _=>Va f.1 fun j=>Va (F29 h.2.1 i.1 j.2.2.1) fun k=>some k
 else some false)
 fun l=>
 bif l then
 Va (Tr.unc a) fun _=>
 Va (Tr.unc a) fun g=>Va g.1 fun _=>Va g.1 fun c=>some (Tr.imax (0:Int) (Vb .i64 (d.2.1 - c.2.1)))
 else some d.2.1
def F24E:Zl:=ZK 244 Tryz.f244 45 [F29E] (hS (.seq (.seq (.reg [(31,Y4)]) .leaf) .leaf)) (.p Wy (.p Ym (.p WM (.q Y3)))) (.pd Y3) (u4 F24)
def F85:(El DH)->Option (El Y3):=fun a=>
 some
 (ZB .i64
 (Vb .i64
 (Vb .u64
 (Vb .u64
 (Vb .u64
 (ZB .u64
 (Vb .u64
 (Ve
 (Vb .u64
 (ZB .u64
 (Ve
 (Vb .u64
 (ZB .u64 (Ve a ((2:Int) ^ Min.min (Vd (1:Int)) (Go.IntKind.bits .u64))) (6148914691236517205:Int)+
 ZB .u64 a (6148914691236517205:Int)))
 ((2:Int) ^ Min.min (Vd (2:Int)) (Go.IntKind.bits .u64)))
 (3689348814741910323:Int)+
 ZB .u64
 (Vb .u64
 (ZB .u64 (Ve a ((2:Int) ^ Min.min (Vd (1:Int)) (Go.IntKind.bits .u64))) (6148914691236517205:Int)+
 ZB .u64 a (6148914691236517205:Int)))
 (3689348814741910323:Int)))
 ((2:Int) ^ Min.min (Vd (4:Int)) (Go.IntKind.bits .u64))+
 Vb .u64
 (ZB .u64
 (Ve
 (Vb .u64
 (ZB .u64 (Ve a ((2:Int) ^ Min.min (Vd (1:Int)) (Go.IntKind.bits .u64))) (6148914691236517205:Int)+
 ZB .u64 a (6148914691236517205:Int)))
 ((2:Int) ^ Min.min (Vd (2:Int)) (Go.IntKind.bits .u64)))
 (3689348814741910323:Int)+
 ZB .u64
 (Vb .u64
 (ZB .u64 (Ve a ((2:Int) ^ Min.min (Vd (1:Int)) (Go.IntKind.bits .u64))) (6148914691236517205:Int)+
 ZB .u64 a (6148914691236517205:Int)))
 (3689348814741910323:Int))))
 (1085102592571150095:Int)+
 Ve
 (ZB .u64
 (Vb .u64
 (Ve
 (Vb .u64
 (ZB .u64
 (Ve
 (Vb .u64
 (ZB .u64 (Ve a ((2:Int) ^ Min.min (Vd (1:Int)) (Go.IntKind.bits .u64))) (6148914691236517205:Int)+
 ZB .u64 a (6148914691236517205:Int)))
 ((2:Int) ^ Min.min (Vd (2:Int)) (Go.IntKind.bits .u64)))
 (3689348814741910323:Int)+
 ZB .u64
 (Vb .u64
 (ZB .u64 (Ve a ((2:Int) ^ Min.min (Vd (1:Int)) (Go.IntKind.bits .u64))) (6148914691236517205:Int)+
 ZB .u64 a (6148914691236517205:Int)))
 (3689348814741910323:Int)))
 ((2:Int) ^ Min.min (Vd (4:Int)) (Go.IntKind.bits .u64))+
 Vb .u64
 (ZB .u64
 (Ve
 (Vb .u64
 (ZB .u64 (Ve a ((2:Int) ^ Min.min (Vd (1:Int)) (Go.IntKind.bits .u64))) (6148914691236517205:Int)+
 ZB .u64 a (6148914691236517205:Int)))
 ((2:Int) ^ Min.min (Vd (2:Int)) (Go.IntKind.bits .u64)))
 (3689348814741910323:Int)+
 ZB .u64
 (Vb .u64
 (ZB .u64 (Ve a ((2:Int) ^ Min.min (Vd (1:Int)) (Go.IntKind.bits .u64))) (6148914691236517205:Int)+
 ZB .u64 a (6148914691236517205:Int)))
 (3689348814741910323:Int))))
 (1085102592571150095:Int))
 ((2:Int) ^ Min.min (Vd (8:Int)) (Go.IntKind.bits .u64)))+
 Ve
 (Vb .u64
 (ZB .u64
 (Vb .u64
 (Ve
 (Vb .u64
 (ZB .u64
 (Ve
 (Vb .u64
 (ZB .u64 (Ve a ((2:Int) ^ Min.min (Vd (1:Int)) (Go.IntKind.bits .u64))) (6148914691236517205:Int)+
 ZB .u64 a (6148914691236517205:Int)))
 ((2:Int) ^ Min.min (Vd (2:Int)) (Go.IntKind.bits .u64)))
 (3689348814741910323:Int)+
 ZB .u64
 (Vb .u64
 (ZB .u64 (Ve a ((2:Int) ^ Min.min (Vd (1:Int)) (Go.IntKind.bits .u64))) (6148914691236517205:Int)+
 ZB .u64 a (6148914691236517205:Int)))
 (3689348814741910323:Int)))
 ((2:Int) ^ Min.min (Vd (4:Int)) (Go.IntKind.bits .u64))+
 Vb .u64
 (ZB .u64
 (Ve
 (Vb .u64
 (ZB .u64 (Ve a ((2:Int) ^ Min.min (Vd (1:Int)) (Go.IntKind.bits .u64))) (6148914691236517205:Int)+
 ZB .u64 a (6148914691236517205:Int)))
 ((2:Int) ^ Min.min (Vd (2:Int)) (Go.IntKind.bits .u64)))
 (3689348814741910323:Int)+
 ZB .u64
 (Vb .u64
 (ZB .u64 (Ve a ((2:Int) ^ Min.min (Vd (1:Int)) (Go.IntKind.bits .u64))) (6148914691236517205:Int)+
 ZB .u64 a (6148914691236517205:Int)))
 (3689348814741910323:Int))))
 (1085102592571150095:Int)+
 Ve
 (ZB .u64
 (Vb .u64
 (Ve
 (Vb .u64
 (ZB .u64
 (Ve
 (Vb .u64
 (ZB .u64 (Ve a ((2:Int) ^ Min.min (Vd (1:Int)) (Go.IntKind.bits .u64))) (6148914691236517205:Int)+
 ZB .u64 a (6148914691236517205:Int)))
 ((2:Int) ^ Min.min (Vd (2:Int)) (Go.IntKind.bits .u64)))
 (3689348814741910323:Int)+
 ZB .u64
 (Vb .u64
 (ZB .u64 (Ve a ((2:Int) ^ Min.min (Vd (1:Int)) (Go.IntKind.bits .u64))) (6148914691236517205:Int)+
 ZB .u64 a (6148914691236517205:Int)))
 (3689348814741910323:Int)))
 ((2:Int) ^ Min.min (Vd (4:Int)) (Go.IntKind.bits .u64))+
 Vb .u64
 (ZB .u64
 (Ve
 (Vb .u64
 (ZB .u64 (Ve a ((2:Int) ^ Min.min (Vd (1:Int)) (Go.IntKind.bits .u64))) (6148914691236517205:Int)+
 ZB .u64 a (6148914691236517205:Int)))
 ((2:Int) ^ Min.min (Vd (2:Int)) (Go.IntKind.bits .u64)))
 (3689348814741910323:Int)+
 ZB .u64
 (Vb .u64
 (ZB .u64 (Ve a ((2:Int) ^ Min.min (Vd (1:Int)) (Go.IntKind.bits .u64))) (6148914691236517205:Int)+
 ZB .u64 a (6148914691236517205:Int)))
 (3689348814741910323:Int))))
 (1085102592571150095:Int))
 ((2:Int) ^ Min.min (Vd (8:Int)) (Go.IntKind.bits .u64))))
 ((2:Int) ^ Min.min (Vd (16:Int)) (Go.IntKind.bits .u64)))+
 Ve
 (Vb .u64
 (Vb .u64
 (ZB .u64
 (Vb .u64
 (Ve
 (Vb .u64
 (ZB .u64
 (Ve
 (Vb .u64
 (ZB .u64 (Ve a ((2:Int) ^ Min.min (Vd (1:Int)) (Go.IntKind.bits .u64))) (6148914691236517205:Int)+
 ZB .u64 a (6148914691236517205:Int)))
 ((2:Int) ^ Min.min (Vd (2:Int)) (Go.IntKind.bits .u64)))
 (3689348814741910323:Int)+
 ZB .u64
 (Vb .u64
 (ZB .u64 (Ve a ((2:Int) ^ Min.min (Vd (1:Int)) (Go.IntKind.bits .u64))) (6148914691236517205:Int)+
 ZB .u64 a (6148914691236517205:Int)))
 (3689348814741910323:Int)))
 ((2:Int) ^ Min.min (Vd (4:Int)) (Go.IntKind.bits .u64))+
 Vb .u64
 (ZB .u64
 (Ve
 (Vb .u64
 (ZB .u64 (Ve a ((2:Int) ^ Min.min (Vd (1:Int)) (Go.IntKind.bits .u64))) (6148914691236517205:Int)+
 ZB .u64 a (6148914691236517205:Int)))
 ((2:Int) ^ Min.min (Vd (2:Int)) (Go.IntKind.bits .u64)))
 (3689348814741910323:Int)+
 ZB .u64
 (Vb .u64
 (ZB .u64 (Ve a ((2:Int) ^ Min.min (Vd (1:Int)) (Go.IntKind.bits .u64))) (6148914691236517205:Int)+
 ZB .u64 a (6148914691236517205:Int)))
 (3689348814741910323:Int))))
 (1085102592571150095:Int)+
 Ve
 (ZB .u64
 (Vb .u64
 (Ve
 (Vb .u64
 (ZB .u64
 (Ve
 (Vb .u64
 (ZB .u64 (Ve a ((2:Int) ^ Min.min (Vd (1:Int)) (Go.IntKind.bits .u64))) (6148914691236517205:Int)+
 ZB .u64 a (6148914691236517205:Int)))
 ((2:Int) ^ Min.min (Vd (2:Int)) (Go.IntKind.bits .u64)))
 (3689348814741910323:Int)+
 ZB .u64
 (Vb .u64
 (ZB .u64 (Ve a ((2:Int) ^ Min.min (Vd (1:Int)) (Go.IntKind.bits .u64))) (6148914691236517205:Int)+
 ZB .u64 a (6148914691236517205:Int)))
 (3689348814741910323:Int)))
 ((2:Int) ^ Min.min (Vd (4:Int)) (Go.IntKind.bits .u64))+
 Vb .u64
 (ZB .u64
 (Ve
 (Vb .u64
 (ZB .u64 (Ve a ((2:Int) ^ Min.min (Vd (1:Int)) (Go.IntKind.bits .u64))) (6148914691236517205:Int)+
 ZB .u64 a (6148914691236517205:Int)))
 ((2:Int) ^ Min.min (Vd (2:Int)) (Go.IntKind.bits .u64)))
 (3689348814741910323:Int)+
 ZB .u64
 (Vb .u64
 (ZB .u64 (Ve a ((2:Int) ^ Min.min (Vd (1:Int)) (Go.IntKind.bits .u64))) (6148914691236517205:Int)+
 ZB .u64 a (6148914691236517205:Int)))
 (3689348814741910323:Int))))
 (1085102592571150095:Int))
 ((2:Int) ^ Min.min (Vd (8:Int)) (Go.IntKind.bits .u64)))+
 Ve
 (Vb .u64
 (ZB .u64
 (Vb .u64
 (Ve
 (Vb .u64
 (ZB .u64
 (Ve
 (Vb .u64
 (ZB .u64 (Ve a ((2:Int) ^ Min.min (Vd (1:Int)) (Go.IntKind.bits .u64))) (6148914691236517205:Int)+
 ZB .u64 a (6148914691236517205:Int)))
 ((2:Int) ^ Min.min (Vd (2:Int)) (Go.IntKind.bits .u64)))
 (3689348814741910323:Int)+
 ZB .u64
 (Vb .u64
 (ZB .u64 (Ve a ((2:Int) ^ Min.min (Vd (1:Int)) (Go.IntKind.bits .u64))) (6148914691236517205:Int)+
 ZB .u64 a (6148914691236517205:Int)))
 (3689348814741910323:Int)))
 ((2:Int) ^ Min.min (Vd (4:Int)) (Go.IntKind.bits .u64))+
 Vb .u64
 (ZB .u64
 (Ve
 (Vb .u64
 (ZB .u64 (Ve a ((2:Int) ^ Min.min (Vd (1:Int)) (Go.IntKind.bits .u64))) (6148914691236517205:Int)+
 ZB .u64 a (6148914691236517205:Int)))
 ((2:Int) ^ Min.min (Vd (2:Int)) (Go.IntKind.bits .u64)))
 (3689348814741910323:Int)+
 ZB .u64
 (Vb .u64
 (ZB .u64 (Ve a ((2:Int) ^ Min.min (Vd (1:Int)) (Go.IntKind.bits .u64))) (6148914691236517205:Int)+
 ZB .u64 a (6148914691236517205:Int)))
 (3689348814741910323:Int))))
 (1085102592571150095:Int)+
 Ve
 (ZB .u64
 (Vb .u64
 (Ve
 (Vb .u64
 (ZB .u64
 (Ve
 (Vb .u64
 (ZB .u64 (Ve a ((2:Int) ^ Min.min (Vd (1:Int)) (Go.IntKind.bits .u64))) (6148914691236517205:Int)+
 ZB .u64 a (6148914691236517205:Int)))
 ((2:Int) ^ Min.min (Vd (2:Int)) (Go.IntKind.bits .u64)))
 (3689348814741910323:Int)+
 ZB .u64
 (Vb .u64
 (ZB .u64 (Ve a ((2:Int) ^ Min.min (Vd (1:Int)) (Go.IntKind.bits .u64))) (6148914691236517205:Int)+
 ZB .u64 a (6148914691236517205:Int)))
 (3689348814741910323:Int)))
 ((2:Int) ^ Min.min (Vd (4:Int)) (Go.IntKind.bits .u64))+
 Vb .u64
 (ZB .u64
 (Ve
 (Vb .u64
 (ZB .u64 (Ve a ((2:Int) ^ Min.min (Vd (1:Int)) (Go.IntKind.bits .u64))) (6148914691236517205:Int)+
 ZB .u64 a (6148914691236517205:Int)))
 ((2:Int) ^ Min.min (Vd (2:Int)) (Go.IntKind.bits .u64)))
 (3689348814741910323:Int)+
 ZB .u64
 (Vb .u64
 (ZB .u64 (Ve a ((2:Int) ^ Min.min (Vd (1:Int)) (Go.IntKind.bits .u64))) (6148914691236517205:Int)+
 ZB .u64 a (6148914691236517205:Int)))
 (3689348814741910323:Int))))
 (1085102592571150095:Int))
 ((2:Int) ^ Min.min (Vd (8:Int)) (Go.IntKind.bits .u64))))
 ((2:Int) ^ Min.min (Vd (16:Int)) (Go.IntKind.bits .u64))))
 ((2:Int) ^ Min.min (Vd (32:Int)) (Go.IntKind.bits .u64)))))
 (127:Int))
def F85E:Zl:=ZK 250 Tryz.f250 35 [] .leaf (.q DH) (.pd Y3) (u1 F85)
def F25:(El Wy)->Option (El Zfi):=fun e=>
 Va (F23 e) fun c=>
 Va
 (run
 (fun b=>
 bif decide (b.2<(↑(Vc c):Int)) then
 Va (Tr.unc e) fun _=>
 Va (Tr.unc e) fun t=>
 Va (idx t.2.2.2.2.1 b.2) fun u=>
 bif decide (u<(0:Int)) then some (.inl (b.1,Vb .i64 (b.2+(1:Int))))
 else
 Va (sliceB (Vc c) (Vc c) (some b.2) none) fun g=>
 Va
 (run
 (fun f=>
 bif decide (f.2.2<(↑(Vc (Vh (g.2 - g.1) (Vi g.1 c))):Int)) then
 Va (idx (Vh (g.2 - g.1) (Vi g.1 c)) f.2.2) fun s=>
 some
 (.inl
 (KJ .u64 f.1 (Vb .u64 s.2.2.1),KJ .u64 f.2.1 (Vb .u64 s.2.2.2.1),
 Vb .i64 (f.2.2+(1:Int))))
 else some (.inr (f.1,f.2.1)))
 ((0:Int),(0:Int),(0:Int)))
 fun m=>
 Va (Tr.unc e) fun _=>
 Va (Tr.unc e) fun h=>
 Va h.1 fun _=>
 Va h.1 fun i=>
 Va
 (run
 (fun a=>
 bif decide (a.2<(↑(Vc i.1):Int)) then
 Va (idx i.1 a.2) fun d=>
 Va
 (bif decide (Vb .i64 ((↑(Vc c):Int) - b.2)<d.2.2.1) then
 Va (F85 m.1) fun n=>
 bif decide (n<=d.2.2.2.1) then
 some (decide (Tr.qandNot .u64 m.2 (Vb .u64 d.2.2.2.2.2.1)=(0:Int)))
 else some false
 else some false)
 fun o=>
 bif o then
 Va (idx c b.2) fun j=>
 Va (Tr.unc e) fun _=>
 Va (Tr.unc e) fun p=>
 Va (idx p.2.2.2.2.1 b.2) fun k=>
 Va (F24 e d c b.2) fun l=>
 Va
 (ZE
 (decide
 (Vc a.1+
 Vc
 [(a.2,j.1,Vb .i64 ((↑(Vc c):Int) - b.2),Vb .i64 (k+l),
 m.1,())]<=
 Zz)))
 fun _=>
 some
 (.inl
 (a.1++
 [(a.2,j.1,Vb .i64 ((↑(Vc c):Int) - b.2),Vb .i64 (k+l),
 m.1,())],
 Vb .i64 (a.2+(1:Int))))
 else some (.inl (a.1,Vb .i64 (a.2+(1:Int))))
 else some (.inr a.1))
 (b.1,(0:Int)))
 fun q=>some (.inl (q,Vb .i64 (b.2+(1:Int))))
 else some (.inr b.1))
 ([],(0:Int)))
 fun r=>some r
def F25E:Zl:=ZK 240 Tryz.f240 110 [F23E,F24E,F85E] (hS (hS (hS (.seq (hS (.lp (en [(3,.own GA false),pd 16 Y3] [0,4,15]) [(.exit 0,en [(3,.own GA false)] [])] (hS (hS (.seq (hS (hS (hS (.seq (hS (.lp (en [pd 6 DH,pd 7 DH,pd 30 Y3] [0,3,4,5,15,16,28,29]) [(.exit 2,en [pd 6 DH,pd 7 DH] [0,3,4,5,15,16])] .leaf)) (hS (.lp (en [(3,.own GA false),pd 53 Y3] [0,4,5,6,7,15,16,51,52]) [(.exit 4,en [(3,.own GA false)] [0,4,15,16])] (hS (hS (.seq (hS (.seq (.reg [(79,Y4)]) .leaf)) .leaf))))))))) .leaf))))) .leaf)))) (.q Wy) (.pd Zfi) (u1 F25)
def F27:(El GA)->(El GA)->Option (El Y4):=fun a b=>
 Va
 (bif decide (a.1=b.1) then
 bif decide (b.2.1<=a.2.1) then
 bif decide (a.2.2.1<=b.2.2.1) then
 bif decide (a.2.2.2.1<=b.2.2.2.1) then some (decide (Tr.qandNot .u64 a.2.2.2.2.1 b.2.2.2.2.1=(0:Int)))
 else some false
 else some false
 else some false
 else some false)
 fun c=>some c
def F27E:Zl:=ZK 241 Tryz.f241 39 [] (hS (.seq (.reg [(4,Y4)]) .leaf)) (.p GA (.q GA)) (.pd Y4) (u2 F27)
def F20:(El Wy)->(El Wy)->Option (El Y4):=fun b c=>
 Va
 (bif Vl b then some true
 else
 bif Vl c then some true
 else
 Va (Tr.unc b) fun _=>
 Va (Tr.unc b) fun n=>
 Va (Tr.unc c) fun _=>
 Va (Tr.unc c) fun o=>
 Va (F28 n.1 o.1) fun p=>bif !p then some true else Va (F26 b c) fun q=>some !q)
 fun r=>
 bif r then some false
 else
 Va (F25 b) fun l=>
 Va (F25 c) fun m=>
 Va
 (run
 (fun d=>
 bif decide (d<(↑(Vc m):Int)) then
 Va (idx m d) fun e=>
 Va
 (run
 (fun a=>
 bif decide (a.2<(↑(Vc l):Int)) then
 Va (idx l a.2) fun f=>
 Va (bif a.1 then some true else Va (F27 f e) fun g=>some g) fun h=>
 some (.inl (h,Vb .i64 (a.2+(1:Int))))
 else some (.inr a.1))
 (false,(0:Int)))
 fun i=>bif !i then some (.inr (.inr false)) else some (.inl (Vb .i64 (d+(1:Int))))
 else some (.inr (.inl ())))
 (0:Int))
 fun j=>Vk (fun _=>some true) (fun k=>some k) j
def F20E:Zl:=ZK 202 Tryz.f202 60 [F28E,F26E,F25E,F27E] (hS (.seq (.seq (.reg [(34,Y4)]) .leaf) (hS (.seq (hS (.lp (en [pd 40 Y3] [5,38,39]) [(.exit 0,e0),(.ret,en [pd 4 Y4] [])] (hS (hS (.seq (hS (hS (.seq (hS (.lp (en [pd 8 Y4,pd 46 Y3] [5,7,38,39,40,44,45]) [(.exit 2,en [pd 8 Y4] [5,38,39,40])] (hS (hS (.seq (hS (.reg [(8,Y4)])) .leaf))))) .leaf))) .leaf))))) .leaf)))) (.p Wy (.q Wy)) (.pd Y4) (u2 F20)
def F156:(El KU)->(El KU)->Option (El Y4):=fun a b=>
 Va
 (bif decide (a.2.1<=b.2.1) then
 bif decide (a.2.2.1<=b.2.2.1) then
 bif decide (a.2.2.2.1<=b.2.2.2.1) then Va (F20 a.2.2.2.2.1 b.2.2.2.2.1) fun c=>some c
 else some false
 else some false
 else some false)
 fun d=>some d
def F156E:Zl:=ZK 156 Tryz.f156 31 [F20E] (hS (.seq (.reg [(4,Y4)]) .leaf)) (.p KU (.q KU)) (.pd Y4) (u2 F156)
def F67:(XU)->(El Y3)->(El Y3)->Option (XU):=fun a d e=>
 Va (Zp e (Vc a.2.1)) fun g=>
 Va a.2.1[g]? fun c=>
 Va (Zp d (Vc a.2.1)) fun h=>
 Va a.2.1[h]? fun i=>
 Va (Zp d (Vc a.2.1)) fun b=>
 Va a.2.1[b]? fun _=>
 Va (Zp e (Vc (Vf a.2.1 b c))) fun f=>
 Va (Vf a.2.1 b c)[f]? fun _=>some ((),Vf (Vf a.2.1 b c) f i,a.2.2.1,())
def F67E:Zl:=Ko 159 Tryz.f159 32 [F155E] .leaf (.cons DF (.p Y3 (.q Y3))) .nil (u3 F67) (fun z=>((z,(),(),()),())) (fun y=>y.1.1)
def F65:(XU)->(El Y3)->(El Y3)->Option (XU×El Y4):=fun a d e=>
 Va (Zp d (Vc a.2.1)) fun f=>
 Va a.2.1[f]? fun b=>
 Va (Zp e (Vc a.2.1)) fun g=>
 Va a.2.1[g]? fun c=>
 Va (F155 b.1 c.1) fun h=>
 bif h then some (((),a.2.1,a.2.2.1,()),true)
 else
 Va (F155 c.1 b.1) fun i=>
 bif i then some (((),a.2.1,a.2.2.1,()),false) else some (((),a.2.1,a.2.2.1,()),decide (b.2.1<c.2.1))
def F65E:Zl:=Ko 203 Tryz.f203 46 [F155E] .leaf (.cons DF (.p Y3 (.q Y3))) (.q Y4) (u3 F65) (fun z=>((z.1,(),(),()),(z.2,()))) (fun y=>(y.1.1,y.2.1))
def F64:(XU)->(El KU)->Option (XU):=fun b d=>
 Va (ZE (decide (Vc b.2.1+Vc [(d,b.2.2.1,())]<=Zz))) fun _=>
 Va
 (run
 (fun a=>
 bif decide ((0:Int)<a.2) then
 Va
 (F65 ((),a.1.2.1,a.1.2.2.1,()) a.2
 (Vb .i64 (Vm (Vb .i64 (a.2 - (1:Int))) (2:Int))))
 fun c=>
 bif c.2 then
 Va
 (F67 ((),c.1.2.1,c.1.2.2.1,()) a.2
 (Vb .i64 (Vm (Vb .i64 (a.2 - (1:Int))) (2:Int))))
 fun e=>some (.inl (((),e.2.1,e.2.2.1,()),Vb .i64 (Vm (Vb .i64 (a.2 - (1:Int))) (2:Int))))
 else some (.inr ((),c.1.2.1,c.1.2.2.1,()))
 else some (.inr ((),a.1.2.1,a.1.2.2.1,())))
 (((),b.2.1++[(d,b.2.2.1,())],Vb .i64 (b.2.2.1+(1:Int)),()),
 Vb .i64 ((↑(Vc (b.2.1++[(d,b.2.2.1,())])):Int) - (1:Int))))
 fun f=>some ((),f.2.1,f.2.2.1,())
def F64E:Zl:=Ko 157 Tryz.f157 54 [F155E,F67E,F65E] (hS (hS (hS (hS (hS (.lp (en [(0,Pz7),pd 4 Y3] []) [(.exit 0,en [(0,Pz7)] [])] .leaf)))))) (.cons DF (.q KU)) .nil (u2 F64) (fun z=>((z,(),()),())) (fun y=>y.1.1)
def F158:(Jc)->(El KU)->Option (Jc):=fun a b=>
 Va
 (run
 (fun s0=>
 bif decide (s0<(↑(Vc (Vg (ZI (Zj Wh) b.1 a.2.2.1) [])):Int)) then
 Va (Zp s0 (Vc (Vg (ZI (Zj Wh) b.1 a.2.2.1) []))) fun e=>
 Va (Vg (ZI (Zj Wh) b.1 a.2.2.1) [])[e]? fun f=>
 Va (F156 f b) fun g=>bif g then some (.inr (.inr ())) else some (.inl (Vb .i64 (s0+(1:Int))))
 else some (.inr (.inl ())))
 (0:Int))
 fun h=>
 Vk
 (fun _=>
 Va
 (ZE
 (decide
 (Vc (Vg (ZI (Zj Wh) b.1 (ZY (Zj Wh) b.1 (Vg (ZI (Zj Wh) b.1 a.2.2.1) []) a.2.2.1)) [])+
 Vc [b]<=
 Zz)))
 fun _=>
 Va
 (idx (ZY (Zj Wh) b.1 (Vg (ZI (Zj Wh) b.1 a.2.2.1) []) a.2.2.1) (↑(Tr.amPos (Zj Wh) b.1 a.2.2.1):Int))
 fun c=>
 Va (ZE (Tr.holeK Wh (some b.1) c.1)) fun _=>
 Va (F64 ((),a.2.2.2.1.2.1,a.2.2.2.1.2.2.1,()) b) fun d=>
 some
 (a.1,a.2.1,
 ZY (Zj Wh) c.1
 (Vg (ZI (Zj Wh) b.1 (ZY (Zj Wh) b.1 (Vg (ZI (Zj Wh) b.1 a.2.2.1) []) a.2.2.1)) []++[b])
 (ZY (Zj Wh) b.1 (Vg (ZI (Zj Wh) b.1 a.2.2.1) []) a.2.2.1),
 ((),d.2.1,d.2.2.1,()),a.2.2.2.2.1,()))
 (fun _=>some (a.1,a.2.1,a.2.2.1,((),a.2.2.2.1.2.1,a.2.2.2.1.2.2.1,()),a.2.2.2.2.1,())) h
def F158E:Zl:=Ko 111 Tryz.f111 40 [F155E,F156E,F64E] (hS (.seq (hS (.lp (en [pd 14 Y3] [0,3,12,13]) [(.exit 0,en [] [0,3]),(.ret,en [] [0])] .leaf)) .leaf)) (.cons Hs (.q KU)) .nil (u2 F158) (fun z=>((z,(),()),())) (fun y=>y.1.1)
def F61:(XU)->Option (XU×El Y3):=fun a=>some (((),a.2.1,a.2.2.1,()),(↑(Vc a.2.1):Int))
def F61E:Zl:=Ko 112 Tryz.f112 10 [F155E] .leaf (.cons DF .nil) (.q Y3) (u1 F61) (fun z=>((z.1,()),(z.2,()))) (fun y=>(y.1.1,y.2.1))
def F62:(XU)->Option (XU×El KU×El Y4):=fun b=>
 Va (F61 ((),b.2.1,b.2.2.1,())) fun a=>
 bif decide (a.2=(0:Int)) then some (((),a.1.2.1,a.1.2.2.1,()),(((0:Int),(0:Int),(0:Int),(0:Int),((0:Int),(0:Int),(0:Int),(0:Int),()),()),(0:Int),(0:Int),(0:Int),Tr.zeroEl Wy,([]:List (El Jp)),()),false)
 else Va (Zp (0:Int) (Vc a.1.2.1)) fun c=>Va a.1.2.1[c]? fun d=>some (((),a.1.2.1,a.1.2.2.1,()),d.1,true)
def F62E:Zl:=Ko 158 Tryz.f158 16 [F155E,F61E] .leaf (.cons DF .nil) (.p KU (.q Y4)) (u1 F62) (fun z=>((z.1,()),(z.2.1,z.2.2,()))) (fun y=>(y.1.1,y.2.1,y.2.2.1))
def F66:(XU)->Option (XU):=fun e=>
 Va
 (run
 (fun s0=>
 bif decide ((↑(Vc s0.1.2.1):Int)<=Vb .i64 (Vb .i64 ((2:Int) *s0.2)+(1:Int))) then
 some (.inr ((),s0.1.2.1,s0.1.2.2.1,()))
 else
 bif
 decide
 (Vb .i64 (Vb .i64 (Vb .i64 ((2:Int) *s0.2)+(1:Int))+(1:Int))<
 (↑(Vc s0.1.2.1):Int)) then
 Va
 (F65 ((),s0.1.2.1,s0.1.2.2.1,())
 (Vb .i64 (Vb .i64 (Vb .i64 ((2:Int) *s0.2)+(1:Int))+(1:Int)))
 (Vb .i64 (Vb .i64 ((2:Int) *s0.2)+(1:Int))))
 fun c=>
 Va
 (bif c.2 then some (Vb .i64 (Vb .i64 (Vb .i64 ((2:Int) *s0.2)+(1:Int))+(1:Int)))
 else some (Vb .i64 (Vb .i64 ((2:Int) *s0.2)+(1:Int))))
 fun d=>
 Va (F65 ((),c.1.2.1,c.1.2.2.1,()) d s0.2) fun a=>
 bif !a.2 then some (.inr ((),a.1.2.1,a.1.2.2.1,()))
 else Va (F67 ((),a.1.2.1,a.1.2.2.1,()) s0.2 d) fun f=>some (.inl (((),f.2.1,f.2.2.1,()),d))
 else
 Va
 (F65 ((),s0.1.2.1,s0.1.2.2.1,()) (Vb .i64 (Vb .i64 ((2:Int) *s0.2)+(1:Int))) s0.2)
 fun b=>
 bif !b.2 then some (.inr ((),b.1.2.1,b.1.2.2.1,()))
 else
 Va
 (F67 ((),b.1.2.1,b.1.2.2.1,()) s0.2 (Vb .i64 (Vb .i64 ((2:Int) *s0.2)+(1:Int))))
 fun g=>some (.inl (((),g.2.1,g.2.2.1,()),Vb .i64 (Vb .i64 ((2:Int) *s0.2)+(1:Int)))))
 (((),e.2.1,e.2.2.1,()),(0:Int)))
 fun h=>some ((),h.2.1,h.2.2.1,())
def F66E:Zl:=Ko 160 Tryz.f160 41 [F155E,F67E,F65E] (hS (.lp (en [(0,Pz7),pd 2 Y3] []) [(.ret,en [(0,Pz7)] [])] (hS (hS (.seq (hS (.cnd (some ((en [] [0,2]),[(.normal,en [pd 3 Y3] [0,2])])) .leaf .leaf)) .leaf))))) (.cons DF .nil) .nil (u1 F66) (fun z=>((z,()),())) (fun y=>y.1.1)
def F63:(XU)->Option (XU×El KU×El Y4):=fun c=>
 Va (F62 ((),c.2.1,c.2.2.1,())) fun a=>
 bif !a.2.2 then some (((),a.1.2.1,a.1.2.2.1,()),a.2.1,false)
 else
 Va (F67 ((),a.1.2.1,a.1.2.2.1,()) (0:Int) (Vb .i64 ((↑(Vc a.1.2.1):Int) - (1:Int)))) fun b=>
 Va (sliceB (Vc b.2.1) (Vc b.2.1) none (some (Vb .i64 ((↑(Vc a.1.2.1):Int) - (1:Int)))))
 fun e=>
 Va (F66 ((),Vh e.2 b.2.1,b.2.2.1,())) fun d=>some (((),d.2.1,d.2.2.1,()),a.2.1,true)
def F63E:Zl:=Ko 113 Tryz.f113 36 [F155E,F62E,F67E,F66E] .leaf (.cons DF .nil) (.p KU (.q Y4)) (u1 F63) (fun z=>((z.1,()),(z.2.1,z.2.2,()))) (fun y=>(y.1.1,y.2.1,y.2.2.1))
def F83:(El ZR)->(El Jp)->Option (El Y4):=fun b a=>
 Va
 (bif decide ((0:Int)<=a.2.1) then
 bif decide (a.2.1<(↑(Vc b.2.2.1):Int)) then
 bif decide ((0:Int)<=a.2.2.1) then
 bif decide (a.2.2.1<a.2.2.2.1) then
 Va (idx b.2.2.1 a.2.1) fun c=>some (decide (a.2.2.2.1<(↑(Vc c.2.2.2.2.2.2.2.1):Int)))
 else some false
 else some false
 else some false
 else some false)
 fun d=>some d
def F83E:Zl:=ZK 120 Tryz.f120 41 [] (hS (.seq (.reg [(4,Y4)]) .leaf)) (.p ZR (.q Jp)) (.pd Y4) (u2 F83)
def F5:(El Y3)->Option (El KV):=fun a=>
 Va (bif decide (a<(0:Int)) then some true else some (decide ((63:Int)<a))) fun b=>
 bif b then some (0:Int) else Va (Hi .u64 (1:Int) a) fun c=>some c
def F5E:Zl:=ZK 173 Tryz.f173 11 [] (hS (.seq (.seq (.reg [(8,Y4)]) .leaf) .leaf)) (.q Y3) (.pd KV) (u1 F5)
def F3:(El KV)->(El Y3)->Option (El KV):=fun a b=>Va (F5 b) fun c=>some (KJ .u64 a c)
def F3E:Zl:=ZK 172 Tryz.f172 9 [F5E] .leaf (.p KV (.q Y3)) (.pd KV) (u2 F3)
def F84:(El ZR)->(El Jp)->Option (El KV):=fun e d=>
 Va (idx e.2.2.1 d.2.1) fun c=>
 Va
 (sliceB (Vc c.2.2.2.2.2.2.2.1) (Vc c.2.2.2.2.2.2.2.1) (some d.2.2.1)
 (some (Vb .i64 (d.2.2.2.1+(1:Int)))))
 fun a=>
 Va
 (run
 (fun b=>
 bif decide (b.2<(↑(Vc (Vh (a.2 - a.1) (Vi a.1 c.2.2.2.2.2.2.2.1))):Int)) then
 Va (idx (Vh (a.2 - a.1) (Vi a.1 c.2.2.2.2.2.2.2.1)) b.2) fun f=>
 Va (idx e.1 f.1) fun g=>Va (F3 b.1 g.2.1) fun h=>some (.inl (h,Vb .i64 (b.2+(1:Int))))
 else some (.inr b.1))
 ((0:Int),(0:Int)))
 fun i=>some i
def F84E:Zl:=ZK 118 Tryz.f118 37 [F3E] (hS (hS (.seq (hS (.lp (en [pd 5 KV,pd 22 Y3] [2,20,21]) [(.exit 0,en [pd 5 KV] [])] .leaf)) .leaf))) (.p ZR (.q Jp)) (.pd KV) (u2 F84)
def F0:(El YM)->Option (El KV):=fun a=>
 Va
 (run
 (fun s0=>
 bif decide (s0.2<(↑(Vc a):Int)) then
 Va (idx a s0.2) fun b=>Va (F5 b) fun c=>some (.inl (KJ .u64 s0.1 c,Vb .i64 (s0.2+(1:Int))))
 else some (.inr s0.1))
 ((0:Int),(0:Int)))
 fun d=>some d
def F0E:Zl:=ZK 119 Tryz.f119 18 [F5E] (hS (hS (.seq (hS (.lp (en [pd 3 KV,pd 8 Y3] [6,7]) [(.exit 0,en [pd 3 KV] [])] .leaf)) .leaf))) (.q YM) (.pd KV) (u1 F0)
def F80:(El Jp)->(El ZR)->(List (El Ja))->Option (List (El Ja)):=fun b h c=>
 Va (F84 h b) fun g=>
 Va (idx h.2.2.1 b.2.1) fun k=>
 Va (idx h.2.1 k.2.2.2.2.1) fun l=>
 Va (F0 [l.2.1]) fun i=>
 bif !b.2.2.2.2.2.2.2.2.1 then
 Va
 (ZE
 (decide
 (Vc c+Vc [(b.2.2.2.2.2.2.1,b.2.2.2.2.2.2.2.1,Vb .i64 g,Vb .i64 i,())]<=
 Zz)))
 fun _=>some (c++[(b.2.2.2.2.2.2.1,b.2.2.2.2.2.2.2.1,Vb .i64 g,Vb .i64 i,())])
 else
 Va (Zp (Vb .i64 ((↑(Vc c):Int) - (1:Int))) (Vc c)) fun a=>
 Va c[a]? fun d=>
 Va (Vf c a (d.1,b.2.2.2.2.2.2.2.1,d.2.2))[a]? fun j=>
 Va (Vf c a (d.1,b.2.2.2.2.2.2.2.1,d.2.2))[a]? fun f=>
 Va
 (Vf (Vf c a (d.1,b.2.2.2.2.2.2.2.1,d.2.2)) a
 (f.1,f.2.1,KJ .i64 j.2.2.1 (Vb .i64 g),f.2.2.2))[a]?
 fun m=>
 Va
 (Vf (Vf c a (d.1,b.2.2.2.2.2.2.2.1,d.2.2)) a
 (f.1,f.2.1,KJ .i64 j.2.2.1 (Vb .i64 g),f.2.2.2))[a]?
 fun e=>
 some
 (Vf
 (Vf (Vf c a (d.1,b.2.2.2.2.2.2.2.1,d.2.2)) a
 (f.1,f.2.1,KJ .i64 j.2.2.1 (Vb .i64 g),f.2.2.2))
 a (e.1,e.2.1,e.2.2.1,KJ .i64 m.2.2.2.1 (Vb .i64 i),e.2.2.2.2))
def F80E:Zl:=Ko 117 Tryz.f117 65 [F84E,F0E] .leaf (.p Jp (.cons (.ro ZR) (.cons (.var WM (.own Ja false)) .nil))) .nil (u3 F80) (fun z=>(((),(),z,()),())) (fun y=>y.1.2.2.1)
def F79:(El ZR)->(El JC)->Option (El WM×El ZA):=fun d e=>
 Va (F86 d) fun f=>
 bif !decide (f.2.2=(0:Int)) then some ([],(21:Int))
 else
 Va
 (run
 (fun a=>
 bif decide (a.2.2<(↑(Vc e.1):Int)) then
 Va (idx e.1 a.2.2) fun b=>
 Va (bif b.1 then Va (F83 d b) fun g=>some !g else some false) fun h=>
 bif h then some (.inr (.inr ([],(9:Int))))
 else
 Va (bif b.2.2.2.2.2.2.2.2.1 then bif !b.1 then some true else some !a.2.1 else some false) fun i=>
 bif i then some (.inr (.inr ([],(19:Int))))
 else
 Va (bif b.1 then Va (F80 b d a.1) fun j=>some j else some a.1) fun k=>
 some (.inl (k,b.1,Vb .i64 (a.2.2+(1:Int))))
 else some (.inr (.inl a.1)))
 ([],false,(0:Int)))
 fun l=>Vk (fun m=>some (m,(0:Int))) (fun c=>some (c.1,c.2)) l
def F79E:Zl:=Ko 74 Tryz.f74 58 [F86E,F80E,F83E] (hS (hS (hS (hS (hS (.seq (hS (.lp ⟨[(9,.var WM (.own Ja false)),pd 11 Y4,pd 26 Y3],[(10,117,[2,9])],[2,24,25],[],[],[]⟩ [(.exit 0,en [(9,.var WM (.own Ja false))] []),(.ret,en [pd 4 WM,pd 5 ZA] [])] (hS (hS (.seq (hS (.seq (.seq (.reg [(37,Y4)]) .leaf) (.seq (.seq (.reg [(48,Y4)]) .leaf) (.seq (hS (.cnd (some ((en [] [2,13,24,25,26]),[(.normal,⟨[(9,.var WM (.own Ja false))],[(10,117,[2,9])],[2,13,24,25,26],[],[],[]⟩)])) .leaf .leaf)) .leaf)))) .leaf))))) .leaf)))))) (.p ZR (.q JC)) (.p WM (.q ZA)) (u2 F79) (fun z=>(((),(),()),(z.1,z.2,()))) (fun y=>(y.2.1,y.2.2.1))
def F17:(El KY)->(El WM)->Option (El ZA):=fun a b=>
 Va (F109 a) fun c=>
 bif !decide (c.2=(0:Int)) then some (20:Int) else bif decide ((8:Int)<(↑(Vc b):Int)) then some (33:Int) else some (0:Int)
def F17E:Zl:=ZK 121 Tryz.f121 17 [F109E] .leaf (.p KY (.q WM)) (.pd ZA) (u2 F17)
def F112:(El Y3)->(El Y3)->(El Y3)->Option (El Y4):=fun b c a=>
 bif decide (b<=c) then
 Va
 (bif decide (a<(0:Int)) then some true
 else some (decide (Vb .u64 a<Vb .u64 (Vb .u64 c - Vb .u64 b))))
 fun d=>some d
 else
 Va
 (bif decide (a<(0:Int)) then
 some
 (decide
 (Vb .u64 (Vb .u64 b - Vb .u64 c)<Vb .u64 ((0:Int) - Vb .u64 a)))
 else some false)
 fun e=>some e
def F112E:Zl:=ZK 219 Tryz.f219 35 [] (hS (.seq (hS (.cnd none (.seq (.reg [(6,Y4)]) .leaf) .leaf)) (.seq (.reg [(6,Y4)]) .leaf))) (.p Y3 (.p Y3 (.q Y3))) (.pd Y4) (u3 F112)
def F1(a:Int):Option Int:=Tr.lenF a
def F1S:Tr.Spec:= {args:=(.cons (.pd KV) .nil),res:=(.cons (.pd Y3) .nil),fns:=[],α:=El Y3,f:=fun x=>F1 x.1,unp:=fun z=>(((),()),(z,()))}
theorem F1_ok:Z4 Tryz.prog 222 F1S:=Tr.len_ok
def F1E:Zl:=⟨222,F1S,F1_ok⟩
def F4:(El KV)->(El KV)->Option (El Y4):=fun a b=>some (decide (Tr.qandNot .u64 a b=(0:Int)))
def F4E:Zl:=ZK 223 Tryz.f223 9 [] .leaf (.p KV (.q KV)) (.pd Y4) (u2 F4)
def F2:(El KV)->(El KV)->Option (El KV):=fun a b=>some (KJ .u64 a b)
def F2E:Zl:=ZK 221 Tryz.f221 8 [] .leaf (.p KV (.q KV)) (.pd KV) (u2 F2)
def F111:(El Ja)->(El KV)->(El KV)->Option (El KV×El KV):=fun a b c=>
 Va (F2 b (Vb .u64 a.2.2.1)) fun d=>
 Va (F2 c (Vb .u64 a.2.2.2.1)) fun e=>some (d,e)
def F111E:Zl:=Ko 220 Tryz.f220 14 [F2E] .leaf (.p Ja (.cons (.var KV (.pd KV)) (.cons (.var KV (.pd KV)) .nil))) .nil (u3 F111) (fun z=>(((),z.1,z.2,()),())) (fun y=>(y.1.2.1,y.1.2.2.1))
def F110:(El Ym)->(El WM)->Option (El Y4):=fun c a=>
 Va
 (bif decide ((↑(Vc a):Int)=(0:Int)) then some true
 else
 bif decide (c.2.2.1<(↑(Vc a):Int)) then some true
 else
 Va (idx a (0:Int)) fun g=>
 Va (idx a (Vb .i64 ((↑(Vc a):Int) - (1:Int)))) fun h=>
 Va (F112 g.1 h.1 c.2.2.2.2.1) fun i=>some i)
 fun j=>
 bif j then some false
 else
 Va
 (run
 (fun b=>
 bif decide (b.2.2<(↑(Vc a):Int)) then
 Va (idx a b.2.2) fun k=>
 Va (F111 k b.1 b.2.1) fun e=>some (.inl (e.1,e.2,Vb .i64 (b.2.2+(1:Int))))
 else some (.inr (b.1,b.2.1)))
 ((0:Int),(0:Int),(0:Int)))
 fun f=>
 Va
 (Va (F1 f.1) fun l=>
 bif decide (l<=c.2.2.2.1) then Va (F4 f.2 (Vb .u64 c.2.2.2.2.2.1)) fun m=>some m
 else some false)
 fun d=>some d
def F110E:Zl:=ZK 175 Tryz.f175 59 [F112E,F111E,F1E,F4E] (hS (hS (.seq (.seq (.reg [(35,Y4)]) .leaf) (hS (hS (.seq (hS (.lp ⟨[(6,.var KV (.pd KV)),(7,.var KV (.pd KV)),pd 39 Y3],[(8,220,[6,7])],[2,37,38],[],[],[]⟩ [(.exit 0,en [(6,.var KV (.pd KV)),(7,.var KV (.pd KV))] [2])] .leaf)) (.seq (.reg [(4,Y4)]) .leaf))))))) (.p Ym (.q WM)) (.pd Y4) (u2 F110)
def F18:(El Y3)->(El Y3)->(El Y3)->Option (El Y4):=fun a b c=>
 Va
 (bif decide (b<=a) then some true
 else some (decide (Vb .u64 (Vb .u64 b - Vb .u64 a)<=Vb .u64 c)))
 fun d=>some d
def F18E:Zl:=ZK 224 Tryz.f224 20 [] (hS (.seq (.reg [(6,Y4)]) .leaf)) (.p Y3 (.p Y3 (.q Y3))) (.pd Y4) (u3 F18)
def F16:(El KY)->(El Ym)->(El WM)->(El Y3)->Option (El Y3):=fun b c d a=>
 Va
 (bif decide ((0:Int)<a) then
 Va (idx d (Vb .i64 (a - (1:Int)))) fun e=>
 Va (idx d a) fun f=>Va (F18 e.2.1 f.1 b.2.2.1) fun g=>some g
 else some false)
 fun h=>bif h then some (Tr.imax (0:Int) (Vb .i64 (c.2.1 - b.2.1))) else some c.2.1
def F16E:Zl:=ZK 176 Tryz.f176 35 [F18E] (hS (.seq (.seq (.reg [(26,Y4)]) .leaf) .leaf)) (.p KY (.p Ym (.p WM (.q Y3)))) (.pd Y3) (u4 F16)
def F15:(El Zc1)->(El Y3)->(El Y3)->Option (El Y4):=fun a b c=>
 Va
 (bif !a.1 then some true
 else
 bif decide (b<a.2.1) then some true
 else bif decide (b=a.2.1) then some (decide (c<a.2.2.1)) else some false)
 fun d=>some d
def F15E:Zl:=ZK 177 Tryz.f177 28 [] (hS (.seq (.reg [(6,Y4)]) .leaf)) (.p Zc1 (.p Y3 (.q Y3))) (.pd Y4) (u3 F15)
def F14:(El Y3)->(El Y3)->(El Y3)->(El KY)->(El WM)->(El Jn)->Option (El Jn):=fun b d f g e a=>
 Va (idx g.1 f) fun n=>
 Va (sliceB (Vc e) (Vc e) (some b) (some (Vb .i64 (d+(1:Int))))) fun h=>
 Va (F110 n (Vh (h.2 - h.1) (Vi h.1 e))) fun o=>
 bif !o then some a
 else
 Va (idx g.1 f) fun p=>
 Va (F16 g p e b) fun k=>
 Va (Zp (Vb .i64 (d+(1:Int))) (9:Nat)) fun q=>
 Va a[q]? fun l=>
 Va (Zp (Vb .i64 (d+(1:Int))) (9:Nat)) fun r=>
 Va a[r]? fun m=>
 Va (Zp b (9:Nat)) fun s=>
 Va a[s]? fun i=>
 Va (F15 i (Vb .i64 (k+l.2.1)) (Vb .i64 (m.2.2.1+(1:Int)))) fun j=>
 bif j then
 Va (Zp b (9:Nat)) fun c=>
 Va a[c]? fun _=>
 some
 (Vf a c
 (true,Vb .i64 (k+l.2.1),Vb .i64 (m.2.2.1+(1:Int)),(f,b,d,k,()),()))
 else some a
def F14E:Zl:=Ko 174 Tryz.f174 62 [F110E,F16E,F15E] .leaf (.p Y3 (.p Y3 (.p Y3 (.cons (.ro KY) (.cons (.ro WM) (.cons (.var Jn (.pd Jn)) .nil)))))) .nil (u6 F14) (fun z=>(((),(),(),(),(),z,()),())) (fun y=>y.1.2.2.2.2.2.1)
def F13:(El KY)->(El WM)->Option (El Jn):=fun f d=>
 Va (Zp (↑(Vc d):Int) (9:Nat)) fun g=>
 Va (Tr.zeroEl Jn)[g]? fun h=>
 Va
 (run
 (fun b=>
 bif decide ((0:Int)<=b.2) then
 Va
 (run
 (fun c=>
 bif decide (c.2<(↑(Vc d):Int)) then
 Va
 (run
 (fun a=>
 bif decide (a.2<(↑(Vc f.1):Int)) then
 Va (Zp (Vb .i64 (c.2+(1:Int))) (9:Nat)) fun i=>
 Va a.1[i]? fun j=>
 bif j.1 then
 Va (F14 b.2 c.2 a.2 f d a.1) fun k=>some (.inl (k,Vb .i64 (a.2+(1:Int))))
 else some (.inl (a.1,Vb .i64 (a.2+(1:Int))))
 else some (.inr a.1))
 (c.1,(0:Int)))
 fun l=>some (.inl (l,Vb .i64 (c.2+(1:Int))))
 else some (.inr c.1))
 (b.1,b.2))
 fun m=>some (.inl (m,Vb .i64 (b.2 - (1:Int))))
 else some (.inr b.1))
 (Vf (Tr.zeroEl Jn) g (true,h.2),Vb .i64 ((↑(Vc d):Int) - (1:Int))))
 fun e=>some e
def F13E:Zl:=ZK 122 Tryz.f122 47 [F14E] (hS (hS (hS (hS (hS (.seq (hS (.lp ⟨[(5,.var Jn (.pd Jn)),pd 8 Y3],[(7,174,[2,3,5])],[2,3,4,6],[],[],[]⟩ [(.exit 0,en [(5,.var Jn (.pd Jn))] [4])] (hS (.seq (hS (.lp ⟨[(5,.var Jn (.pd Jn)),pd 9 Y3],[(7,174,[2,3,5])],[2,3,4,6,8],[],[],[]⟩ [(.exit 2,⟨[(5,.var Jn (.pd Jn))],[(7,174,[2,3,5])],[2,3,4,6,8],[],[],[]⟩)] (hS (.seq (hS (.lp ⟨[(5,.var Jn (.pd Jn)),pd 32 Y3],[(7,174,[2,3,5])],[2,3,4,6,8,9,31],[],[],[]⟩ [(.exit 4,⟨[(5,.var Jn (.pd Jn))],[(7,174,[2,3,5])],[2,3,4,6,8,9],[],[],[]⟩)] .leaf)) .leaf)))) .leaf)))) .leaf)))))) (.p KY (.q WM)) (.pd Jn) (u2 F13)
def F12:(El KY)->(El Y3)->Option (El Y3):=fun a b=>
 Va (bif decide ((0:Int)<a.2.2.2.1) then some (decide (a.2.2.2.1<b)) else some false) fun c=>
 bif c then some a.2.2.2.1 else some b
def F12E:Zl:=ZK 123 Tryz.f123 17 [] (hS (.seq (.seq (.reg [(13,Y4)]) .leaf) .leaf)) (.p KY (.q Y3)) (.pd Y3) (u2 F12)
def F11:(El KY)->(El WM)->Option (El Y3×El G1×El ZA):=fun c d=>
 Va (F17 c d) fun g=>
 bif !decide (g=(0:Int)) then some ((0:Int),[],g)
 else
 Va (F13 c d) fun b=>
 Va b[Vd (0:Int)]? fun i=>
 bif !i.1 then some ((0:Int),[],(34:Int))
 else
 Va
 (run
 (fun a=>
 bif decide (a.2<(↑(Vc d):Int)) then
 Va (Zp a.2 (9:Nat)) fun j=>
 Va b[j]? fun h=>
 Va (ZE (decide (Vc a.1+Vc [h.2.2.2.1]<=Zz))) fun _=>
 Va (Zp a.2 (9:Nat)) fun k=>
 Va b[k]? fun l=>some (.inl (a.1++[h.2.2.2.1],Vb .i64 (l.2.2.2.1.2.2.1+(1:Int))))
 else some (.inr a.1))
 ([],(0:Int)))
 fun m=>Va b[Vd (0:Int)]? fun e=>Va (F12 c e.2.1) fun f=>some (f,m,(0:Int))
def F11E:Zl:=Ko 75 Tryz.f75 47 [F17E,F13E,F12E] (hS (hS (hS (hS (hS (.seq (hS (.lp (en [(9,.own Hu false),pd 10 Y3] [1,2,8]) [(.exit 0,en [(9,.own Hu false)] [2,8])] .leaf)) .leaf)))))) (.p KY (.q WM)) (.p Y3 (.p G1 (.q ZA))) (u2 F11) (fun z=>(((),(),()),(z.1,z.2.1,z.2.2,()))) (fun y=>(y.2.1,y.2.2.1,y.2.2.2.1))
def F82:(El JC)->Option (El Y3):=fun b=>
 Va
 (run
 (fun s0=>
 bif decide (s0.2<(↑(Vc b.1):Int)) then
 Va (idx b.1 s0.2) fun a=>
 Va
 (bif a.1 then some true
 else
 bif decide (a.2.2.2.2.2.2.1<(0:Int)) then some true
 else
 bif decide (a.2.2.2.2.2.2.2.1<a.2.2.2.2.2.2.1) then some true
 else some (decide ((14400:Int)<Vb .i64 (a.2.2.2.2.2.2.2.1 - a.2.2.2.2.2.2.1))))
 fun c=>
 bif c then some (.inl (s0.1,Vb .i64 (s0.2+(1:Int))))
 else
 some
 (.inl
 (Vb .i64 (s0.1+Vb .i64 (a.2.2.2.2.2.2.2.1 - a.2.2.2.2.2.2.1)),
 Vb .i64 (s0.2+(1:Int))))
 else some (.inr s0.1))
 ((0:Int),(0:Int)))
 fun d=>some d
def F82E:Zl:=ZK 76 Tryz.f76 44 [] (hS (hS (.seq (hS (.lp (en [pd 3 Y3,pd 9 Y3] [7,8]) [(.exit 0,en [pd 3 Y3] [])] (hS (hS (.seq (hS (.seq (.seq (.reg [(34,Y4)]) .leaf) .leaf)) .leaf))))) .leaf))) (.q JC) (.pd Y3) (u1 F82)
def F78:(El ZR)->(El Kf)->(El JC)->Option (El HZ×El G1×El ZA):=fun d e a=>
 Va (F79 d a) fun b=>
 bif !decide (b.2=(0:Int)) then some (((0:Int),(0:Int),(0:Int),(0:Int),(0:Int),()),[],b.2)
 else
 Va (F11 d.2.2.2.2.2.1 b.1) fun c=>
 bif !decide (c.2.2=(0:Int)) then some (((0:Int),(0:Int),(0:Int),(0:Int),(0:Int),()),[],c.2.2)
 else
 Va (F82 a) fun f=>
 Va
 (bif decide ((0:Int)<(↑(Vc a.1):Int)) then
 Va (idx a.1 (0:Int)) fun g=>
 Va (idx a.1 (Vb .i64 ((↑(Vc a.1):Int) - (1:Int)))) fun h=>
 some (g.2.2.2.2.2.2.1,h.2.2.2.2.2.2.2.1,(↑(Vc b.1):Int),c.1,f,())
 else some (e.2.2.1,e.2.2.1,(↑(Vc b.1):Int),c.1,f,()))
 fun i=>some (i,c.2.1,(0:Int))
def F78E:Zl:=Ko 32 Tryz.f32 68 [F79E,F11E,F82E] (hS (hS (hS (hS (hS (hS (.seq (hS (hS (.cnd (some ((en [] [6,12]),[(.normal,en [(13,.var HZ (.pd HZ))] [6,12])])) .leaf .leaf))) .leaf))))))) (.p ZR (.p Kf (.q JC))) (.p HZ (.p G1 (.q ZA))) (u3 F78) (fun z=>(((),(),(),()),(z.1,z.2.1,z.2.2,()))) (fun y=>(y.2.1,y.2.2.1,y.2.2.2.1))
def F170:(El DK)->(El Jp)->Option (El DK):=fun a b=>
 Va
 (ZE
 (decide
 ((0:El (Tr.Ty.int .i64))<=(0:Int)/\
 (0:Int)<=Vb .i64 ((↑(Vc a):Int)+(1:Int))/\
 Vb .i64 ((↑(Vc a):Int)+(1:Int))<=(↑Zz:El (Tr.Ty.int .i64)))))
 fun _=>
 Va (ZE (decide (Vc (Vj (Vd (0:Int)) ((false,(0:Int),(0:Int),(0:Int),(0:Int),(0:Int),(0:Int),(0:Int),false,())))+Vc a<=Zz))) fun _=>
 Va (ZE (decide (Vc (Vj (Vd (0:Int)) ((false,(0:Int),(0:Int),(0:Int),(0:Int),(0:Int),(0:Int),(0:Int),false,()))++a)+Vc [b]<=Zz))) fun _=>
 some (Vj (Vd (0:Int)) ((false,(0:Int),(0:Int),(0:Int),(0:Int),(0:Int),(0:Int),(0:Int),false,()))++a++[b])
def F170E:Zl:=ZK 206 Tryz.f206 16 [] .leaf (.p DK (.q Jp)) (.pd DK) (u2 F170)
def F162:(Jc)->(El KU)->Option (Jc):=fun a e=>
 Va (F170 e.2.2.2.2.2.1 (false,(0:Int),(0:Int),(0:Int),(0:Int),(0:Int),(0:Int),(0:Int),false,())) fun c=>
 Va (sliceB (Vc c) (Vc c) none (some (↑(Vc e.2.2.2.2.2.1):Int))) fun b=>
 Va (F78 a.1 a.2.1 (Vh (b.2 - b.1) (Vi b.1 c),())) fun d=>
 bif decide (d.2.2=(0:Int)) then
 Va (ZE (decide (Vc a.2.2.2.2.1+Vc [((Vh (b.2 - b.1) (Vi b.1 c),()),d.1,d.2.1,())]<=Zz)))
 fun _=>
 some
 (a.1,a.2.1,a.2.2.1,((),a.2.2.2.1.2.1,a.2.2.2.1.2.2.1,()),
 a.2.2.2.2.1++[((Vh (b.2 - b.1) (Vi b.1 c),()),d.1,d.2.1,())],())
 else some (a.1,a.2.1,a.2.2.1,((),a.2.2.2.1.2.1,a.2.2.2.1.2.2.1,()),a.2.2.2.2.1,())
def F162E:Zl:=Ko 162 Tryz.f162 46 [F78E,F155E,F170E] .leaf (.cons Hs (.q KU)) .nil (u2 F162) (fun z=>((z,(),()),())) (fun y=>y.1.1)
def F163:(Jc)->(El KU)->(El Y3)->(El Y3)->Option (Jc×El Y4):=fun a c d e=>
 Va
 (run
 (fun s0=>
 bif decide (s0<(↑(Vc a.1.2.2.2.1):Int)) then
 Va (idx a.1.2.2.2.1 s0) fun b=>
 Va
 (bif !b.2.2.2.2.1 then
 bif decide (c.1.1=(1:Int)) then
 bif decide (b.1=c.1.2.2.1) then
 bif decide (b.2.1=c.1.2.2.2.1) then
 bif decide (b.2.2.1=d) then some (decide (b.2.2.2.1=e)) else some false
 else some false
 else some false
 else some false
 else some false)
 fun f=>bif f then some (.inr (.inr true)) else some (.inl (Vb .i64 (s0+(1:Int))))
 else some (.inr (.inl ())))
 (0:Int))
 fun g=>
 Vk (fun _=>some ((a.1,a.2.1,a.2.2.1,((),a.2.2.2.1.2.1,a.2.2.2.1.2.2.1,()),a.2.2.2.2.1,()),false))
 (fun h=>some ((a.1,a.2.1,a.2.2.1,((),a.2.2.2.1.2.1,a.2.2.2.1.2.2.1,()),a.2.2.2.2.1,()),h)) g
def F163E:Zl:=Ko 207 Tryz.f207 59 [F155E] (hS (.seq (hS (.lp (en [pd 17 Y3] [0,2,3,5,15,16]) [(.exit 0,en [] [0]),(.ret,en [pd 8 Y4] [0])] (hS (hS (.seq (hS (.seq (.reg [(57,Y4)]) .leaf)) .leaf))))) .leaf)) (.cons Hs (.p KU (.p Y3 (.q Y3)))) (.q Y4) (u4 F163) (fun z=>((z.1,(),(),(),()),(z.2,()))) (fun y=>(y.1.1,y.2.1))
def F166:(Jc)->(El Y3)->(El Y3)->Option (Jc×El Y4):=fun a c d=>
 Va
 (run
 (fun s0=>
 bif decide (s0<(↑(Vc a.1.2.2.2.1):Int)) then
 Va (idx a.1.2.2.2.1 s0) fun b=>
 Va
 (bif b.2.2.2.2.1 then bif decide (b.1=c) then some (decide (b.2.1=d)) else some false else some false)
 fun e=>bif e then some (.inr (.inr true)) else some (.inl (Vb .i64 (s0+(1:Int))))
 else some (.inr (.inl ())))
 (0:Int))
 fun f=>
 Vk (fun _=>some ((a.1,a.2.1,a.2.2.1,((),a.2.2.2.1.2.1,a.2.2.2.1.2.2.1,()),a.2.2.2.2.1,()),false))
 (fun g=>some ((a.1,a.2.1,a.2.2.1,((),a.2.2.2.1.2.1,a.2.2.2.1.2.2.1,()),a.2.2.2.2.1,()),g)) f
def F166E:Zl:=Ko 251 Tryz.f251 34 [F155E] (hS (.seq (hS (.lp (en [pd 15 Y3] [0,1,2,13,14]) [(.exit 0,en [] [0]),(.ret,en [pd 6 Y4] [0])] (hS (hS (.seq (hS (.seq (.reg [(32,Y4)]) .leaf)) .leaf))))) .leaf)) (.cons Hs (.p Y3 (.q Y3))) (.q Y4) (u3 F166) (fun z=>((z.1,(),(),()),(z.2,()))) (fun y=>(y.1.1,y.2.1))
def F167:(Jc)->(El KU)->(El Y3)->(El Y3)->(El Y4)->(El Ja)->Option (Jc):=fun h g k i t l=>
 Va (idx h.1.2.2.1 k) fun j=>
 Va (idx h.1.2.1 j.2.2.2.2.1) fun u=>
 Va (Hi .i64 (1:Int) u.2.1) fun v=>
 Va (idx j.2.2.2.2.2.2.2.1 i) fun w=>
 Va (idx h.1.1 w.1) fun x=>
 Va (Hi .i64 (1:Int) x.2.1) fun y=>
 Va
 (run
 (fun a=>
 bif decide (a.2.2<(↑(Vc j.2.2.2.2.2.2.2.1):Int)) then
 Va (idx j.2.2.2.2.2.2.2.1 a.2.2) fun c=>
 Va (idx a.1.1.1 c.1) fun z=>
 Va (Hi .i64 (1:Int) z.2.1) fun m=>
 bif !c.2.2.2.2.1 then
 Va
 (F166
 (a.1.1,a.1.2.1,a.1.2.2.1,((),a.1.2.2.2.1.2.1,a.1.2.2.2.1.2.2.1,()),a.1.2.2.2.2.1,()) k
 a.2.2)
 fun b=>
 bif !b.2 then
 some
 (.inl
 ((b.1.1,b.1.2.1,b.1.2.2.1,((),b.1.2.2.2.1.2.1,b.1.2.2.2.1.2.2.1,()),b.1.2.2.2.2.1,
 ()),
 (a.2.1.1,c.2.1,KJ .i64 a.2.1.2.2.1 m,a.2.1.2.2.2),Vb .i64 (a.2.2+(1:Int))))
 else
 Va (idx j.2.2.2.2.2.2.2.1 i) fun n=>
 Va (idx j.2.2.2.2.2.2.2.1 i) fun o=>
 Va (F170 g.2.2.2.2.2.1 (true,k,i,a.2.2,n.1,c.1,o.2.2.1,c.2.1,t,())) fun p=>
 Va
 (F158
 (b.1.1,b.1.2.1,b.1.2.2.1,((),b.1.2.2.2.1.2.1,b.1.2.2.2.1.2.2.1,()),
 b.1.2.2.2.2.1,())
 (((1:Int),c.1,k,a.2.2,(a.2.1.1,c.2.1,KJ .i64 a.2.1.2.2.1 m,a.2.1.2.2.2),()),c.2.1,
 g.2.2.1,g.2.2.2.1,g.2.2.2.2.1,p,g.2.2.2.2.2.2))
 fun d=>
 some
 (.inl
 ((d.1,d.2.1,d.2.2.1,((),d.2.2.2.1.2.1,d.2.2.2.1.2.2.1,()),d.2.2.2.2.1,()),
 (a.2.1.1,c.2.1,KJ .i64 a.2.1.2.2.1 m,a.2.1.2.2.2),
 Vb .i64 (a.2.2+(1:Int))))
 else
 Va (idx j.2.2.2.2.2.2.2.1 i) fun q=>
 Va (idx j.2.2.2.2.2.2.2.1 i) fun r=>
 Va (F170 g.2.2.2.2.2.1 (true,k,i,a.2.2,q.1,c.1,r.2.2.1,c.2.1,t,())) fun s=>
 Va
 (F158
 (a.1.1,a.1.2.1,a.1.2.2.1,((),a.1.2.2.2.1.2.1,a.1.2.2.2.1.2.2.1,()),a.1.2.2.2.2.1,())
 (((1:Int),c.1,k,a.2.2,(a.2.1.1,c.2.1,KJ .i64 a.2.1.2.2.1 m,a.2.1.2.2.2),()),c.2.1,
 g.2.2.1,g.2.2.2.1,g.2.2.2.2.1,s,g.2.2.2.2.2.2))
 fun e=>
 some
 (.inl
 ((e.1,e.2.1,e.2.2.1,((),e.2.2.2.1.2.1,e.2.2.2.1.2.2.1,()),e.2.2.2.2.1,()),
 (a.2.1.1,c.2.1,KJ .i64 a.2.1.2.2.1 m,a.2.1.2.2.2),
 Vb .i64 (a.2.2+(1:Int))))
 else
 some
 (.inr (a.1.1,a.1.2.1,a.1.2.2.1,((),a.1.2.2.2.1.2.1,a.1.2.2.2.1.2.2.1,()),a.1.2.2.2.2.1,())))
 ((h.1,h.2.1,h.2.2.1,((),h.2.2.2.1.2.1,h.2.2.2.1.2.2.1,()),h.2.2.2.2.1,()),
 (l.1,l.2.1,KJ .i64 l.2.2.1 y,KJ .i64 l.2.2.2.1 v,l.2.2.2.2),Vb .i64 (i+(1:Int))))
 fun f=>some (f.1,f.2.1,f.2.2.1,((),f.2.2.2.1.2.1,f.2.2.2.1.2.2.1,()),f.2.2.2.2.1,())
def F167E:Zl:=Ko 242 Tryz.f242 139 [F155E,F158E,F170E,F166E] (hS (hS (hS (hS (hS (.lp (en [(0,Yf),(11,.var Ja (.pd Ja)),pd 13 Y3] [2,3,4,7,12]) [(.exit 0,en [(0,Yf)] [])] .leaf)))))) (.cons Hs (.p KU (.p Y3 (.p Y3 (.p Y4 (.q Ja)))))) .nil (u6 F167) (fun z=>((z,(),(),(),(),(),()),())) (fun y=>y.1.1)
def F159:(Jc)->(El KU)->(El Y3)->(El Y3)->Option (Jc):=fun a b f g=>
 bif decide (b.2.2.1=a.2.1.2.2.2.2.1) then
 some (a.1,a.2.1,a.2.2.1,((),a.2.2.2.1.2.1,a.2.2.2.1.2.2.1,()),a.2.2.2.2.1,())
 else
 Va (idx a.1.2.2.1 f) fun h=>
 Va (idx h.2.2.2.2.2.2.2.1 g) fun e=>
 Va
 (bif decide ((↑(Vc b.2.2.2.2.2.1):Int)=(1:Int)) then Va (idx b.2.2.2.2.2.1 (0:Int)) fun i=>some !i.1
 else some false)
 fun j=>
 Va
 (bif j then
 Va (idx b.2.2.2.2.2.1 (0:Int)) fun c=>
 some
 (b.1,b.2.1,Vb .i64 (b.2.2.1+(1:Int)),b.2.2.2.1,b.2.2.2.2.1,
 [(c.1,c.2.1,c.2.2.1,c.2.2.2.1,c.2.2.2.2.1,c.2.2.2.2.2.1,
 Vb .i64 (c.2.2.2.2.2.2.1+Vb .i64 (e.2.2.1 - c.2.2.2.2.2.2.2.1)),e.2.2.1,
 c.2.2.2.2.2.2.2.2)],
 ())
 else some (b.1,b.2.1,Vb .i64 (b.2.2.1+(1:Int)),b.2.2.2))
 fun k=>
 Va
 (F167 (a.1,a.2.1,a.2.2.1,((),a.2.2.2.1.2.1,a.2.2.2.1.2.2.1,()),a.2.2.2.2.1,()) k f g false
 (e.2.2.1,(0:Int),(0:Int),(0:Int),()))
 fun d=>some (d.1,d.2.1,d.2.2.1,((),d.2.2.2.1.2.1,d.2.2.2.1.2.2.1,()),d.2.2.2.2.1,())
def F159E:Zl:=Ko 208 Tryz.f208 71 [F155E,F167E] (hS (hS (hS (hS (.seq (.seq (.reg [(46,Y4)]) (.cnd (some ((en [] [0,2,3,8]),[(.normal,en [(5,.var KU (.pd KU))] [0,2,3,8])])) .leaf .leaf)) .leaf))))) (.cons Hs (.p KU (.p Y3 (.q Y3)))) .nil (u4 F159) (fun z=>((z,(),(),(),()),())) (fun y=>y.1.1)
def F160:(Jc)->(El KU)->(El Y3)->Option (Jc):=fun c h k=>
 Va
 (run
 (fun s0=>
 bif decide (s0.2<(↑(Vc c.1.2.2.1):Int)) then
 Va (idx c.1.2.2.1 s0.2) fun i=>
 Va
 (run
 (fun a=>
 bif decide (a.2<(↑(Vc i.2.2.2.2.2.2.2.1):Int)) then
 Va (idx i.2.2.2.2.2.2.2.1 a.2) fun j=>
 Va
 (bif i.2.2.2.2.2.2.1 then some true
 else
 bif !j.2.2.2.1 then some true
 else
 bif !decide (j.1=h.1.2.1) then some true
 else some (decide (Vb .i64 (a.2+(1:Int))=(↑(Vc i.2.2.2.2.2.2.2.1):Int))))
 fun l=>
 bif l then
 some
 (.inl
 ((a.1.1,a.1.2.1,a.1.2.2.1,((),a.1.2.2.2.1.2.1,a.1.2.2.2.1.2.2.1,()),a.1.2.2.2.2.1,()),
 Vb .i64 (a.2+(1:Int))))
 else
 bif decide (k<=j.2.2.1) then
 Va
 (F159
 (a.1.1,a.1.2.1,a.1.2.2.1,((),a.1.2.2.2.1.2.1,a.1.2.2.2.1.2.2.1,()),a.1.2.2.2.2.1,()) h s0.2
 a.2)
 fun d=>
 some
 (.inl
 ((d.1,d.2.1,d.2.2.1,((),d.2.2.2.1.2.1,d.2.2.2.1.2.2.1,()),d.2.2.2.2.1,()),
 Vb .i64 (a.2+(1:Int))))
 else
 bif decide (h.2.1<=j.2.2.1) then
 Va
 (F163
 (a.1.1,a.1.2.1,a.1.2.2.1,((),a.1.2.2.2.1.2.1,a.1.2.2.2.1.2.2.1,()),a.1.2.2.2.2.1,()) h
 s0.2 a.2)
 fun b=>
 bif b.2 then
 Va
 (F159
 (b.1.1,b.1.2.1,b.1.2.2.1,((),b.1.2.2.2.1.2.1,b.1.2.2.2.1.2.2.1,()),b.1.2.2.2.2.1,()) h
 s0.2 a.2)
 fun e=>
 some
 (.inl
 ((e.1,e.2.1,e.2.2.1,((),e.2.2.2.1.2.1,e.2.2.2.1.2.2.1,()),e.2.2.2.2.1,()),
 Vb .i64 (a.2+(1:Int))))
 else
 some
 (.inl
 ((b.1.1,b.1.2.1,b.1.2.2.1,((),b.1.2.2.2.1.2.1,b.1.2.2.2.1.2.2.1,()),b.1.2.2.2.2.1,()),
 Vb .i64 (a.2+(1:Int))))
 else
 some
 (.inl
 ((a.1.1,a.1.2.1,a.1.2.2.1,((),a.1.2.2.2.1.2.1,a.1.2.2.2.1.2.2.1,()),a.1.2.2.2.2.1,()),
 Vb .i64 (a.2+(1:Int))))
 else
 some
 (.inr (a.1.1,a.1.2.1,a.1.2.2.1,((),a.1.2.2.2.1.2.1,a.1.2.2.2.1.2.2.1,()),a.1.2.2.2.2.1,())))
 ((s0.1.1,s0.1.2.1,s0.1.2.2.1,((),s0.1.2.2.2.1.2.1,s0.1.2.2.2.1.2.2.1,()),s0.1.2.2.2.2.1,()),(0:Int)))
 fun f=>
 some
 (.inl
 ((f.1,f.2.1,f.2.2.1,((),f.2.2.2.1.2.1,f.2.2.2.1.2.2.1,()),f.2.2.2.2.1,()),
 Vb .i64 (s0.2+(1:Int))))
 else some (.inr (s0.1.1,s0.1.2.1,s0.1.2.2.1,((),s0.1.2.2.2.1.2.1,s0.1.2.2.2.1.2.2.1,()),s0.1.2.2.2.2.1,())))
 ((c.1,c.2.1,c.2.2.1,((),c.2.2.2.1.2.1,c.2.2.2.1.2.2.1,()),c.2.2.2.2.1,()),(0:Int)))
 fun g=>some (g.1,g.2.1,g.2.2.1,((),g.2.2.2.1.2.1,g.2.2.2.1.2.2.1,()),g.2.2.2.2.1,())
def F160E:Zl:=Ko 163 Tryz.f163 77 [F155E,F163E,F159E] (hS (hS (.lp (en [(0,Yf),pd 16 Y3] [2,4,14,15]) [(.exit 0,en [(0,Yf)] [])] (hS (hS (.seq (hS (hS (.lp (en [(0,Yf),pd 24 Y3] [2,4,6,7,14,15,16,22,23]) [(.exit 2,en [(0,Yf)] [2,4,14,15,16])] (hS (hS (.seq (hS (.seq (.seq (.reg [(51,Y4)]) .leaf) .leaf)) .leaf)))))) .leaf)))))) (.cons Hs (.p KU (.q Y3))) .nil (u3 F160) (fun z=>((z,(),(),()),())) (fun y=>y.1.1)
def F169:(Jc)->(El KU)->Option (Jc):=fun b a=>
 Va
 (run
 (fun s0=>
 bif decide (s0.2<(↑(Vc b.1.2.2.2.2.1):Int)) then
 Va (idx b.1.2.2.2.2.1 s0.2) fun c=>
 Va
 (bif !decide (c.1=a.1.2.1) then some true
 else
 bif decide (s0.1.2.1.2.2.2.2.2.1<Vb .i64 (a.2.2.2.1+c.2.2.1)) then some true
 else some (decide ((3155932800:Int)<Vb .i64 (a.2.1+c.2.2.1))))
 fun f=>
 bif f then
 some
 (.inl
 ((s0.1.1,s0.1.2.1,s0.1.2.2.1,((),s0.1.2.2.2.1.2.1,s0.1.2.2.2.1.2.2.1,()),s0.1.2.2.2.2.1,()),
 Vb .i64 (s0.2+(1:Int))))
 else
 Va
 (F170 a.2.2.2.2.2.1
 (false,(0:Int),(0:Int),(0:Int),a.1.2.1,c.2.1,a.2.1,Vb .i64 (a.2.1+c.2.2.1),false,()))
 fun g=>
 Va
 (F158 (s0.1.1,s0.1.2.1,s0.1.2.2.1,((),s0.1.2.2.2.1.2.1,s0.1.2.2.2.1.2.2.1,()),s0.1.2.2.2.2.1,())
 (((2:Int),c.2.1,(0:Int),(0:Int),((0:Int),(0:Int),(0:Int),(0:Int),()),()),Vb .i64 (a.2.1+c.2.2.1),a.2.2.1,
 Vb .i64 (a.2.2.2.1+c.2.2.1),a.2.2.2.2.1,g,a.2.2.2.2.2.2))
 fun d=>
 some
 (.inl
 ((d.1,d.2.1,d.2.2.1,((),d.2.2.2.1.2.1,d.2.2.2.1.2.2.1,()),d.2.2.2.2.1,()),
 Vb .i64 (s0.2+(1:Int))))
 else some (.inr (s0.1.1,s0.1.2.1,s0.1.2.2.1,((),s0.1.2.2.2.1.2.1,s0.1.2.2.2.1.2.2.1,()),s0.1.2.2.2.2.1,())))
 ((b.1,b.2.1,b.2.2.1,((),b.2.2.2.1.2.1,b.2.2.2.1.2.2.1,()),b.2.2.2.2.1,()),(0:Int)))
 fun e=>some (e.1,e.2.1,e.2.2.1,((),e.2.2.2.1.2.1,e.2.2.2.1.2.2.1,()),e.2.2.2.2.1,())
def F169E:Zl:=Ko 164 Tryz.f164 79 [F155E,F158E,F170E] (hS (hS (.lp (en [(0,Yf),pd 13 Y3] [3,11,12]) [(.exit 0,en [(0,Yf)] [])] (hS (hS (.seq (hS (.seq (.seq (.reg [(43,Y4)]) .leaf) .leaf)) .leaf)))))) (.cons Hs (.q KU)) .nil (u2 F169) (fun z=>((z,(),()),())) (fun y=>y.1.1)
def F165:(Jc)->(El KU)->Option (Jc):=fun a d=>
 Va
 (run
 (fun s0=>
 bif decide (s0.2<(↑(Vc a.1.2.2.2.1):Int)) then
 Va (idx a.1.2.2.2.1 s0.2) fun e=>
 Va
 (bif !e.2.2.2.2.1 then some true
 else bif !decide (e.1=d.1.2.2.1) then some true else some !decide (e.2.1=d.1.2.2.2.1))
 fun g=>
 bif g then
 some
 (.inl
 ((s0.1.1,s0.1.2.1,s0.1.2.2.1,((),s0.1.2.2.2.1.2.1,s0.1.2.2.2.1.2.2.1,()),s0.1.2.2.2.2.1,()),
 Vb .i64 (s0.2+(1:Int))))
 else
 Va (idx s0.1.1.2.2.1 e.2.2.1) fun f=>
 Va
 (bif !f.2.2.2.2.2.2.1 then Va (idx f.2.2.2.2.2.2.2.1 (0:Int)) fun h=>some (decide (d.2.1<=h.2.2.1))
 else some false)
 fun i=>
 bif i then
 Va
 (F167
 (s0.1.1,s0.1.2.1,s0.1.2.2.1,((),s0.1.2.2.2.1.2.1,s0.1.2.2.2.1.2.2.1,()),s0.1.2.2.2.2.1,()) d
 e.2.2.1 (0:Int) true d.1.2.2.2.2.1)
 fun b=>
 some
 (.inl
 ((b.1,b.2.1,b.2.2.1,((),b.2.2.2.1.2.1,b.2.2.2.1.2.2.1,()),b.2.2.2.2.1,()),
 Vb .i64 (s0.2+(1:Int))))
 else
 some
 (.inl
 ((s0.1.1,s0.1.2.1,s0.1.2.2.1,((),s0.1.2.2.2.1.2.1,s0.1.2.2.2.1.2.2.1,()),s0.1.2.2.2.2.1,()),
 Vb .i64 (s0.2+(1:Int))))
 else some (.inr (s0.1.1,s0.1.2.1,s0.1.2.2.1,((),s0.1.2.2.2.1.2.1,s0.1.2.2.2.1.2.2.1,()),s0.1.2.2.2.2.1,())))
 ((a.1,a.2.1,a.2.2.1,((),a.2.2.2.1.2.1,a.2.2.2.1.2.2.1,()),a.2.2.2.2.1,()),(0:Int)))
 fun c=>some (c.1,c.2.1,c.2.2.1,((),c.2.2.2.1.2.1,c.2.2.2.1.2.2.1,()),c.2.2.2.2.1,())
def F165E:Zl:=Ko 204 Tryz.f204 67 [F155E,F167E] (hS (hS (.lp (en [(0,Yf),pd 13 Y3] [3,11,12]) [(.exit 0,en [(0,Yf)] [])] (hS (hS (.seq (hS (.seq (.seq (.reg [(35,Y4)]) .leaf) (hS (.seq (.reg [(57,Y4)]) .leaf)))) .leaf)))))) (.cons Hs (.q KU)) .nil (u2 F165) (fun z=>((z,(),()),())) (fun y=>y.1.1)
def F21:(El Wy)->(El Ja)->Option (El Wy×El ZA):=fun b n=>
 bif Vl b then some ([],(40:Int))
 else
 Va (Tr.unc b) fun _=>
 Va (Tr.unc b) fun x=>
 bif decide ((8:Int)<=x.2.2.2.1) then some ([],(33:Int))
 else
 Va (Tr.unc b) fun _=>
 Va (Tr.unc b) fun w=>
 Va (Tr.unc b) fun _=>
 Va (Tr.unc b) fun m=>
 Va (Tr.unc b) fun _=>
 Va (Tr.unc b) fun e=>
 Va (F22 ((w.1,n,Vb .i64 (m.2.2.2.1+(1:Int)),e.2.2.2.2.1,())::b)) fun l=>
 Va
 (run
 (fun c=>
 bif decide (c.2<(↑(Vc l):Int)) then
 Va (Tr.unc b) fun _=>
 Va (Tr.unc b) fun f=>
 Va f.1 fun _=>
 Va f.1 fun g=>
 Va
 (run
 (fun a=>
 bif decide (a.2<(↑(Vc g.1):Int)) then
 Va (idx g.1 a.2) fun h=>
 Va
 (Va (Zp c.2 (9:Nat)) fun o=>
 Va e.2.2.2.2.1[o]? fun p=>
 bif decide (p<(0:Int)) then some true
 else
 Va (sliceB (Vc l) (Vc l) (some c.2) none) fun d=>
 Va (F110 h (Vh (d.2 - d.1) (Vi d.1 l))) fun q=>some !q)
 fun r=>
 bif r then some (.inl (a.1,Vb .i64 (a.2+(1:Int))))
 else
 Va (Zp c.2 (9:Nat)) fun s=>
 Va e.2.2.2.2.1[s]? fun i=>
 Va
 (F24 ((w.1,n,Vb .i64 (m.2.2.2.1+(1:Int)),e.2.2.2.2.1,())::b)
 h l c.2)
 fun j=>
 Va
 (bif decide (a.1<(0:Int)) then some true
 else some (decide (Vb .i64 (i+j)<a.1)))
 fun t=>
 bif t then some (.inl (Vb .i64 (i+j),Vb .i64 (a.2+(1:Int))))
 else some (.inl (a.1,Vb .i64 (a.2+(1:Int))))
 else some (.inr a.1))
 (c.1,(0:Int)))
 fun u=>some (.inl (u,Vb .i64 (c.2+(1:Int))))
 else some (.inr c.1))
 ((-1:Int),(0:Int)))
 fun v=>
 Va (Zp (Vb .i64 (m.2.2.2.1+(1:Int))) (9:Nat)) fun k=>
 Va e.2.2.2.2.1[k]? fun _=>
 some ((w.1,n,Vb .i64 (m.2.2.2.1+(1:Int)),Vf e.2.2.2.2.1 k v,())::b,(0:Int))
def F21E:Zl:=Ko 205 Tryz.f205 103 [F110E,F22E,F24E] (hS (hS (hS (hS (hS (hS (.seq (hS (.lp (en [pd 8 Y3,pd 41 Y3] [0,6,7,40]) [(.exit 0,en [pd 8 Y3] [6])] (hS (hS (.seq (hS (hS (.lp (en [pd 8 Y3,pd 52 Y3] [0,6,7,9,40,41,50,51]) [(.exit 2,en [pd 8 Y3] [0,6,7,40,41])] (hS (hS (.seq (hS (.seq (.seq (.reg [(70,Y4)]) .leaf) (hS (.seq (.reg [(89,Y4)]) .leaf)))) .leaf)))))) .leaf))))) .leaf))))))) (.p Wy (.q Ja)) (.p Wy (.q ZA)) (u2 F21) (fun z=>(((),(),()),(z.1,z.2,()))) (fun y=>(y.2.1,y.2.2.1)) (rws:=[183])
def F161:(Jc)->(El KU)->Option (Jc):=fun d b=>
 Va (F165 (d.1,d.2.1,d.2.2.1,((),d.2.2.2.1.2.1,d.2.2.2.1.2.2.1,()),d.2.2.2.2.1,()) b) fun a=>
 Va (idx a.1.2.2.1 b.1.2.2.1) fun i=>
 Va (idx i.2.2.2.2.2.2.2.1 b.1.2.2.2.1) fun j=>
 bif !j.2.2.2.2.1 then some (a.1,a.2.1,a.2.2.1,((),a.2.2.2.1.2.1,a.2.2.2.1.2.2.1,()),a.2.2.2.2.1,())
 else
 Va
 (bif decide (b.1.2.1=a.2.1.2.1) then
 Va (F162 (a.1,a.2.1,a.2.2.1,((),a.2.2.2.1.2.1,a.2.2.2.1.2.2.1,()),a.2.2.2.2.1,()) b) fun e=>
 some (e.1,e.2.1,e.2.2.1,((),e.2.2.2.1.2.1,e.2.2.2.1.2.2.1,()),e.2.2.2.2.1,())
 else some (a.1,a.2.1,a.2.2.1,((),a.2.2.2.1.2.1,a.2.2.2.1.2.2.1,()),a.2.2.2.2.1,()))
 fun c=>
 Va (F21 b.2.2.2.2.1 b.1.2.2.2.2.1) fun h=>
 bif !decide (h.2=(0:Int)) then
 some (c.1,c.2.1,c.2.2.1,((),c.2.2.2.1.2.1,c.2.2.2.1.2.2.1,()),c.2.2.2.2.1,())
 else
 Va (idx c.1.1 b.1.2.1) fun k=>
 Va
 (F160 (c.1,c.2.1,c.2.2.1,((),c.2.2.2.1.2.1,c.2.2.2.1.2.2.1,()),c.2.2.2.2.1,())
 (b.1,b.2.1,b.2.2.1,b.2.2.2.1,h.1,b.2.2.2.2.2) (Vb .i64 (b.2.1+k.2.2.2.1)))
 fun f=>
 Va
 (F169 (f.1,f.2.1,f.2.2.1,((),f.2.2.2.1.2.1,f.2.2.2.1.2.2.1,()),f.2.2.2.2.1,())
 (b.1,b.2.1,b.2.2.1,b.2.2.2.1,h.1,b.2.2.2.2.2))
 fun g=>some (g.1,g.2.1,g.2.2.1,((),g.2.2.2.1.2.1,g.2.2.2.1.2.2.1,()),g.2.2.2.2.1,())
def F161E:Zl:=Ko 161 Tryz.f161 72 [F155E,F162E,F160E,F169E,F165E,F21E] (hS (hS (hS (.seq (hS (.cnd (some ((en [] [3]),[(.normal,en [(0,Yf)] [3])])) .leaf .leaf)) .leaf)))) (.cons Hs (.q KU)) .nil (u2 F161) (fun z=>((z,(),()),())) (fun y=>y.1.1)
def F168:(Jc)->(El KU)->Option (Jc):=fun a b=>
 bif decide (b.1.1=(1:Int)) then
 Va (F161 (a.1,a.2.1,a.2.2.1,((),a.2.2.2.1.2.1,a.2.2.2.1.2.2.1,()),a.2.2.2.2.1,()) b) fun d=>
 some (d.1,d.2.1,d.2.2.1,((),d.2.2.2.1.2.1,d.2.2.2.1.2.2.1,()),d.2.2.2.2.1,())
 else
 bif decide (b.1.1=(2:Int)) then
 Va
 (bif decide (b.1.2.1=a.2.1.2.1) then
 Va (F162 (a.1,a.2.1,a.2.2.1,((),a.2.2.2.1.2.1,a.2.2.2.1.2.2.1,()),a.2.2.2.2.1,()) b) fun e=>
 some (e.1,e.2.1,e.2.2.1,((),e.2.2.2.1.2.1,e.2.2.2.1.2.2.1,()),e.2.2.2.2.1,())
 else some (a.1,a.2.1,a.2.2.1,((),a.2.2.2.1.2.1,a.2.2.2.1.2.2.1,()),a.2.2.2.2.1,()))
 fun f=>
 Va (F160 (f.1,f.2.1,f.2.2.1,((),f.2.2.2.1.2.1,f.2.2.2.1.2.2.1,()),f.2.2.2.2.1,()) b b.2.1)
 fun g=>some (g.1,g.2.1,g.2.2.1,((),g.2.2.2.1.2.1,g.2.2.2.1.2.2.1,()),g.2.2.2.2.1,())
 else
 Va
 (bif decide (b.1.2.1=a.2.1.2.1) then
 Va (F162 (a.1,a.2.1,a.2.2.1,((),a.2.2.2.1.2.1,a.2.2.2.1.2.2.1,()),a.2.2.2.2.1,()) b) fun h=>
 some (h.1,h.2.1,h.2.2.1,((),h.2.2.2.1.2.1,h.2.2.2.1.2.2.1,()),h.2.2.2.2.1,())
 else some (a.1,a.2.1,a.2.2.1,((),a.2.2.2.1.2.1,a.2.2.2.1.2.2.1,()),a.2.2.2.2.1,()))
 fun c=>
 Va
 (bif c.2.1.2.2.2.2.2.2.2.2.2.1 then
 Va (idx c.1.1 b.1.2.1) fun k=>some (Vb .i64 (b.2.1+k.2.2.2.1))
 else some b.2.1)
 fun l=>
 Va (F160 (c.1,c.2.1,c.2.2.1,((),c.2.2.2.1.2.1,c.2.2.2.1.2.2.1,()),c.2.2.2.2.1,()) b l) fun i=>
 Va (F169 (i.1,i.2.1,i.2.2.1,((),i.2.2.2.1.2.1,i.2.2.2.1.2.2.1,()),i.2.2.2.2.1,()) b) fun j=>
 some (j.1,j.2.1,j.2.2.1,((),j.2.2.2.1.2.1,j.2.2.2.1.2.2.1,()),j.2.2.2.2.1,())
def F168E:Zl:=Ko 114 Tryz.f114 71 [F155E,F161E,F162E,F160E,F169E] (hS (hS (hS (.cnd none .leaf (hS (.cnd none (.seq (hS (.cnd (some ((en [] [3]),[(.normal,en [(0,Yf)] [3])])) .leaf .leaf)) .leaf) (.seq (hS (.cnd (some ((en [] [3]),[(.normal,en [(0,Yf)] [3])])) .leaf .leaf)) (hS (.seq (hS (.cnd (some ((en [] [0,3]),[(.normal,en [pd 4 Y3] [0,3])])) .leaf .leaf)) .leaf))))))))) (.cons Hs (.q KU)) .nil (u2 F168) (fun z=>((z,(),()),())) (fun y=>y.1.1)
def F164:(Jc)->(El Wy)->Option (Jc):=fun b h=>
 Va
 (F158 (b.1,b.2.1,b.2.2.1,((),b.2.2.2.1.2.1,b.2.2.2.1.2.2.1,()),b.2.2.2.2.1,())
 (((0:Int),b.2.1.1,(0:Int),(0:Int),((0:Int),(0:Int),(0:Int),(0:Int),()),()),b.2.1.2.2.1,(0:Int),(0:Int),h,([]:List (El Jp)),()))
 fun c=>
 Va
 (run
 (fun a=>
 Va (F61 ((),a.2.2.2.1.2.1,a.2.2.2.1.2.2.1,())) fun f=>
 bif decide ((0:Int)<f.2) then
 Va (F63 ((),f.1.2.1,f.1.2.2.1,())) fun g=>
 Va (F168 (a.1,a.2.1,a.2.2.1,((),g.1.2.1,g.1.2.2.1,()),a.2.2.2.2.1,()) g.2.1) fun d=>
 some (.inl (d.1,d.2.1,d.2.2.1,((),d.2.2.2.1.2.1,d.2.2.2.1.2.2.1,()),d.2.2.2.2.1,()))
 else some (.inr (a.1,a.2.1,a.2.2.1,((),f.1.2.1,f.1.2.2.1,()),a.2.2.2.2.1,())))
 (c.1,c.2.1,c.2.2.1,((),c.2.2.2.1.2.1,c.2.2.2.1.2.2.1,()),c.2.2.2.2.1,()))
 fun e=>some (e.1,e.2.1,e.2.2.1,((),e.2.2.2.1.2.1,e.2.2.2.1.2.2.1,()),e.2.2.2.2.1,())
def F164E:Zl:=Ko 70 Tryz.f70 38 [F155E,F158E,F61E,F63E,F168E] (hS (.lp (en [(0,Yf)] []) [(.exit 0,en [(0,Yf)] [])] .leaf)) (.cons Hs (.q Wy)) .nil (u2 F164) (fun z=>((z,(),()),())) (fun y=>y.1.1) (rws:=[138])
def F81:(El Kf)->(El HZ)->Option (El KP):=fun b a=>
 bif b.2.2.2.1 then
 some (Vf [a.2.1,a.2.2.1,a.2.2.2.1,a.2.2.2.2.1] (Vd (0:Int)) (Vb .i64 ((0:Int) - a.1)))
 else some [a.2.1,a.2.2.1,a.2.2.2.1,a.2.2.2.2.1]
def F81E:Zl:=ZK 34 Tryz.f34 22 [] .leaf (.p Kf (.q HZ)) (.pd KP) (u2 F81)
def F102:(El KP)->(El KP)->Option (El Y3):=fun b c=>
 Va (Tr.eqEl.eqs (Tr.eqEl (Tr.Ty.int .i64)) b c) fun f=>
 bif f then some (0:Int)
 else
 Va
 (run
 (fun a=>
 bif decide (a<(4:Int)) then
 Va (Zp a (4:Nat)) fun g=>
 Va b[g]? fun h=>
 Va (Zp a (4:Nat)) fun i=>
 Va c[i]? fun j=>
 bif decide (h<j) then some (.inr (.inr (-1:Int)))
 else
 Va (Zp a (4:Nat)) fun k=>
 Va b[k]? fun l=>
 Va (Zp a (4:Nat)) fun m=>
 Va c[m]? fun n=>
 bif decide (n<l) then some (.inr (.inr (1:Int))) else some (.inl (Vb .i64 (a+(1:Int))))
 else some (.inr (.inl ())))
 (0:Int))
 fun d=>Vk (fun _=>some (0:Int)) (fun e=>some e) d
def F102E:Zl:=ZK 66 Tryz.f66 27 [] (hS (hS (.seq (hS (.lp (en [pd 9 Y3] [2,3]) [(.exit 0,e0),(.ret,en [pd 4 Y3] [])] .leaf)) .leaf))) (.p KP (.q KP)) (.pd Y3) (u2 F102)
end
end Q

