/- The functions of the program as functions of Lean, and that the program computes them; printed by a program of mine. Conditions: none. -/
import Derived.Test.YtbjejlpejjnpnaaGreatFintopa
open Tr Go Go.Proofs
open Int renaming toNat ->Vd,fdiv ->Ve,tdiv ->Vm
open Go.IntKind renaming wrap ->Vb
open List renaming length ->Vc,set ->Vf,take ->Vh,drop ->Vi,replicate ->Vj,isEmpty ->Vl
open Option renaming bind ->Va,getD ->Vg
open Sum renaming elim ->Vk
namespace Q
noncomputable section
def F87:(El ZM)->Option ((El Yy×El Yz×List (El Hq) ×List (El H2) ×El Wq×El K9×Unit)):=fun d=>
 Va (F98 d.1) fun h=>
 Va (F96 d.2.1) fun i=>
 Va (F97 d.2.2.1) fun f=>
 Va (F94 d.2.2.2.1) fun j=>
 Va (F93 d.2.2.2.2.1) fun k=>
 Va
 (run
 (fun b=>
 bif decide (b.2<(↑(Vc f):Int)) then
 Va (Zo b.2 (Vc b.1.2.2.1)) fun l=>
 Va b.1.2.2.1[l]? fun m=>
 Va (F92 m.2.2.2.2.2.2.2.1) fun n=>
 Va (Zo b.2 (Vc b.1.2.2.1)) fun g=>
 Va b.1.2.2.1[g]? fun a=>
 some
 (.inl
 ((b.1.1,b.1.2.1,
 Vf b.1.2.2.1 g
 (a.1,a.2.1,a.2.2.1,a.2.2.2.1,a.2.2.2.2.1,a.2.2.2.2.2.1,a.2.2.2.2.2.2.1,n,
 a.2.2.2.2.2.2.2.2),
 b.1.2.2.2.1,b.1.2.2.2.2.1,b.1.2.2.2.2.2.1,()),
 Vb .i64 (b.2+(1:Int))))
 else some (.inr b.1))
 ((h,i,f,j,k,d.2.2.2.2.2.1,()),(0:Int)))
 fun c=>
 Va (F95 d.2.2.2.2.2.1.1) fun e=>
 some (c.1,c.2.1,c.2.2.1,c.2.2.2.1,c.2.2.2.2.1,(e,c.2.2.2.2.2.1.2),())
def F87E:Zm:=Kg 25 Tryz.f25 49 [F98E,F96E,F97E,F94E,F93E,F92E,F95E] (hS (hS (.seq (hS (.lp (en [(3,DL),pd 26 Y3] [1,2,25]) [(.exit 0,en [(3,DL)] [1,2])] .leaf)) .leaf))) (.q ZM) (.cons (.agg (.p Yy (.p Yz (.cons (.own Hq false) (.cons (.own H2 false) (.p Wq (.q K9))))))) .nil) (u1 F87) (fun z=>(((),()),(z,()))) (fun y=>y.2.1)
def F54(a:El ZM)(b:El Ki)(c:El Hq):Option Bool:=Tr.useF a b c
def F54S:Tr.Spec:= {args:=(.cons (.pd ZM) (.cons (.pd Ki) (.cons (.pd Hq) .nil))),res:=(.cons (.pd Y4) .nil),fns:=[],α:=El Y4,f:=fun x=>F54 x.1 x.2.1 x.2.2.1,unp:=fun z=>(((),(),(),()),(z,()))}
theorem F54_ok:ZX Tryz.prog 26 F54S:=Tr.use_ok
def F54E:Zm:=⟨26,F54S,F54_ok⟩
def F53:(El ZM)->(El Ki)->(El Y3)->Option (El Y4):=fun a b c=>Va (Va (idx a.1 c) fun d=>bif d.2.2.1 then some true else some !b.2.2.2.2.2.2.1) fun e=>some e
def F53E:Zm:=ZK 60 Tryz.f60 18 [] (hS (.seq (.reg [(6,Y4)]) .leaf)) (.p ZM (.p Ki (.q Y3))) (.pd Y4) (u3 F53)
def F52:(El ZM)->(El Ki)->(El J6)->Option (El J6):=fun e f c=>
 Va
 (run
 (fun s0=>
 bif decide (s0.2<(↑(Vc c):Int)) then
 Va (idx c s0.2) fun a=>
 Va (F53 e f a.1) fun g=>
 Va (bif !g then some (a.1,a.2.1,a.2.2.1,false,false,a.2.2.2.2.2) else some a) fun d=>
 Va (ZD (decide (Vc s0.1+Vc [d]<=ZE))) fun _=>
 some (.inl (s0.1++[d],Vb .i64 (s0.2+(1:Int))))
 else some (.inr s0.1))
 ([],(0:Int)))
 fun b=>
 Va (Zo (↑(Vc b):Int) (Vc b+(1:Nat))) fun h=>
 Va (sliceB (Vc b) h none (some (↑(Vc b):Int))) fun i=>some (Vh i.2 (Vi (0:Nat) b))
def F52E:Zm:=ZK 27 Tryz.f27 35 [F53E] (hS (hS (.seq (hS (.lp (en [(7,.own XS false),pd 12 Y3] [3,4,10,11]) [(.exit 0,en [(7,.own XS false)] [])] (hS (hS (.seq (hS (.seq (hS (.cnd (some ((en [] [3,4,7,10,11,12]),[(.normal,en [(9,.var XS (.pd XS))] [3,4,7,10,11,12])])) .leaf .leaf)) .leaf)) .leaf))))) .leaf))) (.p ZM (.p Ki (.q J6))) (.pd J6) (u3 F52)
def F51:(El ZM)->(El Ki)->Option (El ZM×El ZA):=fun e h=>
 Va (F31 e h) fun l=>
 bif !decide (l=(0:Int)) then some ((([]:List (El Zc8)),([]:List (El Zc9)),([]:List (El Hq)),([]:List (El H2)),([]:List (El ZJ)),(([]:List (El Y2)),(0:Int),(0:Int),(0:Int),()),()),l)
 else
 Va (F87 e) fun o=>
 Va
 (run
 (fun c=>
 bif decide (c.2<(↑(Vc e.2.2.1):Int)) then
 Va (idx e.2.2.1 c.2) fun m=>
 Va (F54 e h m) fun k=>
 Va (Zo c.2 (Vc c.1.2.2.1)) fun i=>
 Va c.1.2.2.1[i]? fun b=>
 Va (F52 e h m.2.2.2.2.2.2.2.1) fun p=>
 Va
 (Zo c.2
 (Vc
 (Vf c.1.2.2.1 i
 (b.1,b.2.1,b.2.2.1,b.2.2.2.1,b.2.2.2.2.1,b.2.2.2.2.2.1, !k,b.2.2.2.2.2.2.2))))
 fun n=>
 Va
 (Vf c.1.2.2.1 i
 (b.1,b.2.1,b.2.2.1,b.2.2.2.1,b.2.2.2.2.1,b.2.2.2.2.2.1, !k,b.2.2.2.2.2.2.2))[n]?
 fun f=>
 some
 (.inl
 ((c.1.1,c.1.2.1,
 Vf
 (Vf c.1.2.2.1 i
 (b.1,b.2.1,b.2.2.1,b.2.2.2.1,b.2.2.2.2.1,b.2.2.2.2.2.1, !k,b.2.2.2.2.2.2.2))
 n
 (f.1,f.2.1,f.2.2.1,f.2.2.2.1,f.2.2.2.2.1,f.2.2.2.2.2.1,f.2.2.2.2.2.2.1,p,
 f.2.2.2.2.2.2.2.2),
 c.1.2.2.2.1,c.1.2.2.2.2.1,c.1.2.2.2.2.2.1,()),
 Vb .i64 (c.2+(1:Int))))
 else some (.inr c.1))
 (o,(0:Int)))
 fun d=>
 bif h.2.2.2.2.2.2.1 then
 Va
 (run
 (fun a=>
 bif decide (a.2<(↑(Vc e.2.2.2.2.1):Int)) then
 Va (idx e.2.2.2.2.1 a.2) fun g=>
 bif g.2.2.2.1 then
 Va (ZD (decide (Vc a.1.2.2.2.2.1+Vc [g]<=ZE))) fun _=>
 some
 (.inl
 ((a.1.1,a.1.2.1,a.1.2.2.1,a.1.2.2.2.1,a.1.2.2.2.2.1++[g],a.1.2.2.2.2.2.1,()),
 Vb .i64 (a.2+(1:Int))))
 else
 some
 (.inl
 (a.1,
 Vb .i64 (a.2+(1:Int))))
 else some (.inr a.1))
 ((d.1,d.2.1,d.2.2.1,d.2.2.2.1,[],d.2.2.2.2.2.1,()),(0:Int)))
 fun j=>some (j,(0:Int))
 else some (d,(0:Int))
def F51E:Zm:=Kg 8 Tryz.f8 70 [F31E,F87E,F54E,F52E] (hS (hS (hS (.seq (hS (.lp (en [(7,DL),pd 24 Y3] [2,3,4,22,23]) [(.exit 0,en [(7,DL)] [2,3,4])] .leaf)) (.seq (hS (.cnd none (hS (hS (.lp (en [(7,(.var ZM (.agg (.cons (.pd Yy) (.cons (.pd Yz) (.cons (.own Hq false) (.cons (.own H2 false) (.cons (.own ZJ false) (.cons (.pd K9) .nil))))))))),pd 56 Y3] [4,54,55]) [(.exit 2,en [(7,(.var ZM (.agg (.cons (.pd Yy) (.cons (.pd Yz) (.cons (.own Hq false) (.cons (.own H2 false) (.cons (.own ZJ false) (.cons (.pd K9) .nil)))))))))] [4])] .leaf))) .leaf)) .leaf))))) (.p ZM (.q Ki)) (.p ZM (.q ZA)) (u2 F51) (fun z=>(((),(),()),(z.1,z.2,()))) (fun y=>(y.2.1,y.2.2.1))
def F19:(El K9)->Option (El WC×El ZA):=fun a=>
 Va (F109 a) fun b=>
 bif !decide (b.2=(0:Int)) then some ([],(20:Int))
 else
 Va (ZD (decide (Vc ([]:List Unit)+Vc a.1<=ZE))) fun _=>
 some ((some ([]++a.1,a.2),((0:Int),(0:Int),(0:Int),(0:Int),()),(0:Int),Tr.zeroEl Zda,())::Tr.zeroEl WC,(0:Int))
def F19E:Zm:=Kg 67 Tryz.f67 21 [F109E] .leaf (.q K9) (.p WC (.q ZA)) (u1 F19) (fun z=>(((),()),(z.1,z.2,()))) (fun y=>(y.2.1,y.2.2.1)) (rws:=[183]) (zxs:=[27])
def F147:(El KV)->(El KV)->Option (El Y4):=fun a b=>some (decide (a.2.1<b.2.1))
def F147E:Zm:=ZK 69 Tryz.f69 10 [] .leaf (.p KV (.q KV)) (.pd Y4) (u2 F147)
def F28(a:El XT)(b:El XT):Option Bool:=Qs.sameF a b
abbrev F28A:Pats:=(.cons (.pd XT) (.cons (.pd XT) .nil))
abbrev F28R:Pats:=(.cons (.pd Y4) .nil)
def F28S:Tr.Spec:= {args:=F28A,res:=F28R,fns:=[],α:=El Y4,f:=fun x=>F28 x.1 x.2.1,unp:=fun z=>(((),(),()),(z,()))}
theorem F28_ok:ZX Tryz.prog 238 F28S:=Qs.sam_ok
def F28E:Zm:=⟨238,F28S,F28_ok⟩
def F26:(El WC)->(El WC)->Option (El Y4):=fun a b=>
 Va (Tr.unc a) fun _=>
 Va (Tr.unc a) fun p=>
 Va (Tr.unc a) fun _=>
 Va (Tr.unc a) fun q=>
 Va (idx q.2.2.2.2.1 p.2.2.2.1) fun n=>
 Va (Tr.unc b) fun _=>
 Va (Tr.unc b) fun r=>
 Va (Tr.unc b) fun _=>
 Va (Tr.unc b) fun s=>
 Va (idx s.2.2.2.2.1 r.2.2.2.1) fun o=>
 bif decide (o<(0:Int)) then some true
 else
 Va (bif decide (n<(0:Int)) then some true else some (decide (o<n))) fun e=>
 bif e then some false
 else
 Va
 (Va (Tr.unc a) fun _=>
 Va (Tr.unc a) fun c=>
 Va c.1 fun _=>
 Va c.1 fun f=>
 bif decide (f.2.1=(0:Int)) then some true
 else
 Va (Tr.unc b) fun _=>
 Va (Tr.unc b) fun g=>
 bif decide (g.2.2.2.1=(0:Int)) then some true
 else
 Va (Tr.unc a) fun _=>
 Va (Tr.unc a) fun d=>
 Va d.1 fun _=>Va d.1 fun h=>some (decide (Vb .i64 (n+h.2.1)<=o)))
 fun i=>
 bif i then some true
 else
 Va
 (Va (Tr.unc a) fun _=>
 Va (Tr.unc a) fun j=>
 bif decide ((0:Int)<j.2.2.2.1) then
 Va (Tr.unc a) fun _=>
 Va (Tr.unc a) fun k=>
 Va (Tr.unc b) fun _=>Va (Tr.unc b) fun l=>some (decide (l.2.2.1.2.1<=k.2.2.1.2.1))
 else some false)
 fun m=>some m
def F26E:Zm:=ZK 239 Tryz.f239 83 [] (hS (hS (.seq (hS (.cnd none .leaf (.seq (.reg [(28,Y4)]) (.cnd none .leaf (.seq (.reg [(36,Y4)]) .leaf))))) (.seq (.reg [(4,Y4)]) .leaf)))) (.p WC (.q WC)) (.pd Y4) (u2 F26)
def F22:(El WC)->Option (List (El W8)):=fun b=>
 Va (Tr.unc b) fun _=>
 Va (Tr.unc b) fun c=>
 Va
 (ZD
 (decide
 ((0:El (Tr.Ty.int .i64))<=c.2.2.2.1/\c.2.2.2.1<=c.2.2.2.1/\c.2.2.2.1<=(↑ZE:El (Tr.Ty.int .i64)))))
 fun _=>
 Va (Tr.unc b) fun _=>
 Va (Tr.unc b) fun g=>
 Va
 (run
 (fun a=>
 bif decide ((0:Int)<=a.2.2) then
 Va (Tr.unc a.1) fun _=>
 Va (Tr.unc a.1) fun h=>
 Va (Zo a.2.2 (Vc a.2.1)) fun f=>
 Va a.2.1[f]? fun _=>
 Va (Tr.unc a.1) fun _=>
 Va (Tr.unc a.1) fun d=>some (.inl (d.2.1,Vf a.2.1 f h.2.2.1,Vb .i64 (a.2.2 - (1:Int))))
 else some (.inr a.2.1))
 (b,Vj (Vd c.2.2.2.1) (((0:Int),(0:Int),(0:Int),(0:Int),())),Vb .i64 (g.2.2.2.1 - (1:Int))))
 fun e=>some e
def F22E:Zm:=ZK 243 Tryz.f243 31 [] (hS (hS (.seq (hS (.lp (en [pd 0 WC,(3,.own W8 false),pd 4 Y3] []) [(.exit 0,en [(3,.own W8 false)] [])] .leaf)) .leaf))) (.q WC) (.own W8 false) (u1 F22)
def F23:(El WC)->Option (El Jf):=fun b=>
 Va (Tr.unc b) fun _=>
 Va (Tr.unc b) fun c=>
 Va
 (ZD
 (decide
 ((0:El (Tr.Ty.int .i64))<=c.2.2.2.1/\c.2.2.2.1<=c.2.2.2.1/\c.2.2.2.1<=(↑ZE:El (Tr.Ty.int .i64)))))
 fun _=>
 Va (Tr.unc b) fun _=>
 Va (Tr.unc b) fun g=>
 Va
 (run
 (fun a=>
 bif decide ((0:Int)<=a.2.2) then
 Va (Tr.unc a.1) fun _=>
 Va (Tr.unc a.1) fun h=>
 Va (Zo a.2.2 (Vc a.2.1)) fun f=>
 Va a.2.1[f]? fun _=>
 Va (Tr.unc a.1) fun _=>
 Va (Tr.unc a.1) fun d=>some (.inl (d.2.1,Vf a.2.1 f h.2.2.1,Vb .i64 (a.2.2 - (1:Int))))
 else some (.inr a.2.1))
 (b,Vj (Vd c.2.2.2.1) (((0:Int),(0:Int),(0:Int),(0:Int),())),Vb .i64 (g.2.2.2.1 - (1:Int))))
 fun e=>some e
def F23E:Zm:=ZK 243 Tryz.f243 31 [] (hS (hS (.seq (hS (.lp (en [pd 0 WC,(3,.own W8 false),pd 4 Y3] []) [(.exit 0,en [(3,.own W8 false)] [])] .leaf)) .leaf))) (.q WC) (.pd Jf) (u1 F23)
def F29:(El Y3)->(El Y3)->(El Y3)->Option (El Y4):=fun a b c=>
 Va
 (bif decide (b<=a) then some true
 else some (decide (Vb .u64 (Vb .u64 b - Vb .u64 a)<=Vb .u64 c)))
 fun d=>some d
def F29E:Zm:=ZK 252 Tryz.f252 20 [] (hS (.seq (.reg [(6,Y4)]) .leaf)) (.p Y3 (.p Y3 (.q Y3))) (.pd Y4) (u3 F29)
def F24:(El WC)->(El Y2)->(El Jf)->(El Y3)->Option (El Y3):=fun a d e b=>
 Va
 (bif decide ((0:Int)<b) then
 Va (idx e (Vb .i64 (b - (1:Int)))) fun h=>
 Va (idx e b) fun i=>
 Va (Tr.unc a) fun _=>
 Va (Tr.unc a) fun f=>Va f.1 fun _=>Va f.1 fun j=>Va (F29 h.2.1 i.1 j.2.2.1) fun k=>some k
 else some false)
 fun l=>
 bif l then
 Va (Tr.unc a) fun _=>
 Va (Tr.unc a) fun g=>Va g.1 fun _=>Va g.1 fun c=>some (Tr.imax (0:Int) (Vb .i64 (d.2.1 - c.2.1)))
 else some d.2.1
def F24E:Zm:=ZK 244 Tryz.f244 45 [F29E] (hS (.seq (.seq (.reg [(31,Y4)]) .leaf) .leaf)) (.p WC (.p Y2 (.p Jf (.q Y3)))) (.pd Y3) (u4 F24)
def F85:(El DP)->Option (El Y3):=fun a=>
 some
 (ZF .i64
 (Vb .i64
 (Vb .u64
 (Vb .u64
 (Vb .u64
 (ZF .u64
 (Vb .u64
 (Ve
 (Vb .u64
 (ZF .u64
 (Ve
 (Vb .u64
 (ZF .u64 (Ve a ((2:Int) ^ Min.min (Vd (1:Int)) (Go.IntKind.bits .u64))) (6148914691236517205:Int)+
 ZF .u64 a (6148914691236517205:Int)))
 ((2:Int) ^ Min.min (Vd (2:Int)) (Go.IntKind.bits .u64)))
 (3689348814741910323:Int)+
 ZF .u64
 (Vb .u64
 (ZF .u64 (Ve a ((2:Int) ^ Min.min (Vd (1:Int)) (Go.IntKind.bits .u64))) (6148914691236517205:Int)+
 ZF .u64 a (6148914691236517205:Int)))
 (3689348814741910323:Int)))
 ((2:Int) ^ Min.min (Vd (4:Int)) (Go.IntKind.bits .u64))+
 Vb .u64
 (ZF .u64
 (Ve
 (Vb .u64
 (ZF .u64 (Ve a ((2:Int) ^ Min.min (Vd (1:Int)) (Go.IntKind.bits .u64))) (6148914691236517205:Int)+
 ZF .u64 a (6148914691236517205:Int)))
 ((2:Int) ^ Min.min (Vd (2:Int)) (Go.IntKind.bits .u64)))
 (3689348814741910323:Int)+
 ZF .u64
 (Vb .u64
 (ZF .u64 (Ve a ((2:Int) ^ Min.min (Vd (1:Int)) (Go.IntKind.bits .u64))) (6148914691236517205:Int)+
 ZF .u64 a (6148914691236517205:Int)))
 (3689348814741910323:Int))))
 (1085102592571150095:Int)+
 Ve
 (ZF .u64
 (Vb .u64
 (Ve
 (Vb .u64
 (ZF .u64
 (Ve
 (Vb .u64
 (ZF .u64 (Ve a ((2:Int) ^ Min.min (Vd (1:Int)) (Go.IntKind.bits .u64))) (6148914691236517205:Int)+
 ZF .u64 a (6148914691236517205:Int)))
 ((2:Int) ^ Min.min (Vd (2:Int)) (Go.IntKind.bits .u64)))
 (3689348814741910323:Int)+
 ZF .u64
 (Vb .u64
 (ZF .u64 (Ve a ((2:Int) ^ Min.min (Vd (1:Int)) (Go.IntKind.bits .u64))) (6148914691236517205:Int)+
 ZF .u64 a (6148914691236517205:Int)))
 (3689348814741910323:Int)))
 ((2:Int) ^ Min.min (Vd (4:Int)) (Go.IntKind.bits .u64))+
 Vb .u64
 (ZF .u64
 (Ve
 (Vb .u64
 (ZF .u64 (Ve a ((2:Int) ^ Min.min (Vd (1:Int)) (Go.IntKind.bits .u64))) (6148914691236517205:Int)+
 ZF .u64 a (6148914691236517205:Int)))
 ((2:Int) ^ Min.min (Vd (2:Int)) (Go.IntKind.bits .u64)))
 (3689348814741910323:Int)+
 ZF .u64
 (Vb .u64
 (ZF .u64 (Ve a ((2:Int) ^ Min.min (Vd (1:Int)) (Go.IntKind.bits .u64))) (6148914691236517205:Int)+
 ZF .u64 a (6148914691236517205:Int)))
 (3689348814741910323:Int))))
 (1085102592571150095:Int))
 ((2:Int) ^ Min.min (Vd (8:Int)) (Go.IntKind.bits .u64)))+
 Ve
 (Vb .u64
 (ZF .u64
 (Vb .u64
 (Ve
 (Vb .u64
 (ZF .u64
 (Ve
 (Vb .u64
 (ZF .u64 (Ve a ((2:Int) ^ Min.min (Vd (1:Int)) (Go.IntKind.bits .u64))) (6148914691236517205:Int)+
 ZF .u64 a (6148914691236517205:Int)))
 ((2:Int) ^ Min.min (Vd (2:Int)) (Go.IntKind.bits .u64)))
 (3689348814741910323:Int)+
 ZF .u64
 (Vb .u64
 (ZF .u64 (Ve a ((2:Int) ^ Min.min (Vd (1:Int)) (Go.IntKind.bits .u64))) (6148914691236517205:Int)+
 ZF .u64 a (6148914691236517205:Int)))
 (3689348814741910323:Int)))
 ((2:Int) ^ Min.min (Vd (4:Int)) (Go.IntKind.bits .u64))+
 Vb .u64
 (ZF .u64
 (Ve
 (Vb .u64
 (ZF .u64 (Ve a ((2:Int) ^ Min.min (Vd (1:Int)) (Go.IntKind.bits .u64))) (6148914691236517205:Int)+
 ZF .u64 a (6148914691236517205:Int)))
 ((2:Int) ^ Min.min (Vd (2:Int)) (Go.IntKind.bits .u64)))
 (3689348814741910323:Int)+
 ZF .u64
 (Vb .u64
 (ZF .u64 (Ve a ((2:Int) ^ Min.min (Vd (1:Int)) (Go.IntKind.bits .u64))) (6148914691236517205:Int)+
 ZF .u64 a (6148914691236517205:Int)))
 (3689348814741910323:Int))))
 (1085102592571150095:Int)+
 Ve
 (ZF .u64
 (Vb .u64
 (Ve
 (Vb .u64
 (ZF .u64
 (Ve
 (Vb .u64
 (ZF .u64 (Ve a ((2:Int) ^ Min.min (Vd (1:Int)) (Go.IntKind.bits .u64))) (6148914691236517205:Int)+
 ZF .u64 a (6148914691236517205:Int)))
 ((2:Int) ^ Min.min (Vd (2:Int)) (Go.IntKind.bits .u64)))
 (3689348814741910323:Int)+
 ZF .u64
 (Vb .u64
 (ZF .u64 (Ve a ((2:Int) ^ Min.min (Vd (1:Int)) (Go.IntKind.bits .u64))) (6148914691236517205:Int)+
 ZF .u64 a (6148914691236517205:Int)))
 (3689348814741910323:Int)))
 ((2:Int) ^ Min.min (Vd (4:Int)) (Go.IntKind.bits .u64))+
 Vb .u64
 (ZF .u64
 (Ve
 (Vb .u64
 (ZF .u64 (Ve a ((2:Int) ^ Min.min (Vd (1:Int)) (Go.IntKind.bits .u64))) (6148914691236517205:Int)+
 ZF .u64 a (6148914691236517205:Int)))
 ((2:Int) ^ Min.min (Vd (2:Int)) (Go.IntKind.bits .u64)))
 (3689348814741910323:Int)+
 ZF .u64
 (Vb .u64
 (ZF .u64 (Ve a ((2:Int) ^ Min.min (Vd (1:Int)) (Go.IntKind.bits .u64))) (6148914691236517205:Int)+
 ZF .u64 a (6148914691236517205:Int)))
 (3689348814741910323:Int))))
 (1085102592571150095:Int))
 ((2:Int) ^ Min.min (Vd (8:Int)) (Go.IntKind.bits .u64))))
 ((2:Int) ^ Min.min (Vd (16:Int)) (Go.IntKind.bits .u64)))+
 Ve
 (Vb .u64
 (Vb .u64
 (ZF .u64
 (Vb .u64
 (Ve
 (Vb .u64
 (ZF .u64
 (Ve
 (Vb .u64
 (ZF .u64 (Ve a ((2:Int) ^ Min.min (Vd (1:Int)) (Go.IntKind.bits .u64))) (6148914691236517205:Int)+
 ZF .u64 a (6148914691236517205:Int)))
 ((2:Int) ^ Min.min (Vd (2:Int)) (Go.IntKind.bits .u64)))
 (3689348814741910323:Int)+
 ZF .u64
 (Vb .u64
 (ZF .u64 (Ve a ((2:Int) ^ Min.min (Vd (1:Int)) (Go.IntKind.bits .u64))) (6148914691236517205:Int)+
 ZF .u64 a (6148914691236517205:Int)))
 (3689348814741910323:Int)))
 ((2:Int) ^ Min.min (Vd (4:Int)) (Go.IntKind.bits .u64))+
 Vb .u64
 (ZF .u64
 (Ve
 (Vb .u64
 (ZF .u64 (Ve a ((2:Int) ^ Min.min (Vd (1:Int)) (Go.IntKind.bits .u64))) (6148914691236517205:Int)+
 ZF .u64 a (6148914691236517205:Int)))
 ((2:Int) ^ Min.min (Vd (2:Int)) (Go.IntKind.bits .u64)))
 (3689348814741910323:Int)+
 ZF .u64
 (Vb .u64
 (ZF .u64 (Ve a ((2:Int) ^ Min.min (Vd (1:Int)) (Go.IntKind.bits .u64))) (6148914691236517205:Int)+
 ZF .u64 a (6148914691236517205:Int)))
 (3689348814741910323:Int))))
 (1085102592571150095:Int)+
 Ve
 (ZF .u64
 (Vb .u64
 (Ve
 (Vb .u64
 (ZF .u64
 (Ve
 (Vb .u64
 (ZF .u64 (Ve a ((2:Int) ^ Min.min (Vd (1:Int)) (Go.IntKind.bits .u64))) (6148914691236517205:Int)+
 ZF .u64 a (6148914691236517205:Int)))
 ((2:Int) ^ Min.min (Vd (2:Int)) (Go.IntKind.bits .u64)))
 (3689348814741910323:Int)+
 ZF .u64
 (Vb .u64
 (ZF .u64 (Ve a ((2:Int) ^ Min.min (Vd (1:Int)) (Go.IntKind.bits .u64))) (6148914691236517205:Int)+
 ZF .u64 a (6148914691236517205:Int)))
 (3689348814741910323:Int)))
 ((2:Int) ^ Min.min (Vd (4:Int)) (Go.IntKind.bits .u64))+
 Vb .u64
 (ZF .u64
 (Ve
 (Vb .u64
 (ZF .u64 (Ve a ((2:Int) ^ Min.min (Vd (1:Int)) (Go.IntKind.bits .u64))) (6148914691236517205:Int)+
 ZF .u64 a (6148914691236517205:Int)))
 ((2:Int) ^ Min.min (Vd (2:Int)) (Go.IntKind.bits .u64)))
 (3689348814741910323:Int)+
 ZF .u64
 (Vb .u64
 (ZF .u64 (Ve a ((2:Int) ^ Min.min (Vd (1:Int)) (Go.IntKind.bits .u64))) (6148914691236517205:Int)+
 ZF .u64 a (6148914691236517205:Int)))
 (3689348814741910323:Int))))
 (1085102592571150095:Int))
 ((2:Int) ^ Min.min (Vd (8:Int)) (Go.IntKind.bits .u64)))+
 Ve
 (Vb .u64
 (ZF .u64
 (Vb .u64
 (Ve
 (Vb .u64
 (ZF .u64
 (Ve
 (Vb .u64
 (ZF .u64 (Ve a ((2:Int) ^ Min.min (Vd (1:Int)) (Go.IntKind.bits .u64))) (6148914691236517205:Int)+
 ZF .u64 a (6148914691236517205:Int)))
 ((2:Int) ^ Min.min (Vd (2:Int)) (Go.IntKind.bits .u64)))
 (3689348814741910323:Int)+
 ZF .u64
 (Vb .u64
 (ZF .u64 (Ve a ((2:Int) ^ Min.min (Vd (1:Int)) (Go.IntKind.bits .u64))) (6148914691236517205:Int)+
 ZF .u64 a (6148914691236517205:Int)))
 (3689348814741910323:Int)))
 ((2:Int) ^ Min.min (Vd (4:Int)) (Go.IntKind.bits .u64))+
 Vb .u64
 (ZF .u64
 (Ve
 (Vb .u64
 (ZF .u64 (Ve a ((2:Int) ^ Min.min (Vd (1:Int)) (Go.IntKind.bits .u64))) (6148914691236517205:Int)+
 ZF .u64 a (6148914691236517205:Int)))
 ((2:Int) ^ Min.min (Vd (2:Int)) (Go.IntKind.bits .u64)))
 (3689348814741910323:Int)+
 ZF .u64
 (Vb .u64
 (ZF .u64 (Ve a ((2:Int) ^ Min.min (Vd (1:Int)) (Go.IntKind.bits .u64))) (6148914691236517205:Int)+
 ZF .u64 a (6148914691236517205:Int)))
 (3689348814741910323:Int))))
 (1085102592571150095:Int)+
 Ve
 (ZF .u64
 (Vb .u64
 (Ve
 (Vb .u64
 (ZF .u64
 (Ve
 (Vb .u64
 (ZF .u64 (Ve a ((2:Int) ^ Min.min (Vd (1:Int)) (Go.IntKind.bits .u64))) (6148914691236517205:Int)+
 ZF .u64 a (6148914691236517205:Int)))
 ((2:Int) ^ Min.min (Vd (2:Int)) (Go.IntKind.bits .u64)))
 (3689348814741910323:Int)+
 ZF .u64
 (Vb .u64
 (ZF .u64 (Ve a ((2:Int) ^ Min.min (Vd (1:Int)) (Go.IntKind.bits .u64))) (6148914691236517205:Int)+
 ZF .u64 a (6148914691236517205:Int)))
 (3689348814741910323:Int)))
 ((2:Int) ^ Min.min (Vd (4:Int)) (Go.IntKind.bits .u64))+
 Vb .u64
 (ZF .u64
 (Ve
 (Vb .u64
 (ZF .u64 (Ve a ((2:Int) ^ Min.min (Vd (1:Int)) (Go.IntKind.bits .u64))) (6148914691236517205:Int)+
 ZF .u64 a (6148914691236517205:Int)))
 ((2:Int) ^ Min.min (Vd (2:Int)) (Go.IntKind.bits .u64)))
 (3689348814741910323:Int)+
 ZF .u64
 (Vb .u64
 (ZF .u64 (Ve a ((2:Int) ^ Min.min (Vd (1:Int)) (Go.IntKind.bits .u64))) (6148914691236517205:Int)+
 ZF .u64 a (6148914691236517205:Int)))
 (3689348814741910323:Int))))
 (1085102592571150095:Int))
 ((2:Int) ^ Min.min (Vd (8:Int)) (Go.IntKind.bits .u64))))
 ((2:Int) ^ Min.min (Vd (16:Int)) (Go.IntKind.bits .u64))))
 ((2:Int) ^ Min.min (Vd (32:Int)) (Go.IntKind.bits .u64)))))
 (127:Int))
def F85E:Zm:=ZK 250 Tryz.f250 35 [] .leaf (.q DP) (.pd Y3) (u1 F85)
def F25:(El WC)->Option (El Zfm):=fun e=>
 Va (F23 e) fun c=>
 Va
 (run
 (fun b=>
 bif decide (b.2<(↑(Vc c):Int)) then
 Va (Tr.unc e) fun _=>
 Va (Tr.unc e) fun t=>
 Va (idx t.2.2.2.2.1 b.2) fun u=>
 bif decide (u<(0:Int)) then some (.inl (b.1,Vb .i64 (b.2+(1:Int))))
 else
 Va (sliceB (Vc c) (Vc c) (some b.2) none) fun g=>
 Va
 (run
 (fun f=>
 bif decide (f.2.2<(↑(Vc (Vh (g.2 - g.1) (Vi g.1 c))):Int)) then
 Va (idx (Vh (g.2 - g.1) (Vi g.1 c)) f.2.2) fun s=>
 some
 (.inl
 (Wt .u64 f.1 (Vb .u64 s.2.2.1),Wt .u64 f.2.1 (Vb .u64 s.2.2.2.1),
 Vb .i64 (f.2.2+(1:Int))))
 else some (.inr (f.1,f.2.1)))
 ((0:Int),(0:Int),(0:Int)))
 fun m=>
 Va (Tr.unc e) fun _=>
 Va (Tr.unc e) fun h=>
 Va h.1 fun _=>
 Va h.1 fun i=>
 Va
 (run
 (fun a=>
 bif decide (a.2<(↑(Vc i.1):Int)) then
 Va (idx i.1 a.2) fun d=>
 Va
 (bif decide (Vb .i64 ((↑(Vc c):Int) - b.2)<d.2.2.1) then
 Va (F85 m.1) fun n=>
 bif decide (n<=d.2.2.2.1) then
 some (decide (Tr.qandNot .u64 m.2 (Vb .u64 d.2.2.2.2.2.1)=(0:Int)))
 else some false
 else some false)
 fun o=>
 bif o then
 Va (idx c b.2) fun j=>
 Va (Tr.unc e) fun _=>
 Va (Tr.unc e) fun p=>
 Va (idx p.2.2.2.2.1 b.2) fun k=>
 Va (F24 e d c b.2) fun l=>
 Va
 (ZD
 (decide
 (Vc a.1+
 Vc
 [(a.2,j.1,Vb .i64 ((↑(Vc c):Int) - b.2),Vb .i64 (k+l),
 m.1,())]<=
 ZE)))
 fun _=>
 some
 (.inl
 (a.1++
 [(a.2,j.1,Vb .i64 ((↑(Vc c):Int) - b.2),Vb .i64 (k+l),
 m.1,())],
 Vb .i64 (a.2+(1:Int))))
 else some (.inl (a.1,Vb .i64 (a.2+(1:Int))))
 else some (.inr a.1))
 (b.1,(0:Int)))
 fun q=>some (.inl (q,Vb .i64 (b.2+(1:Int))))
 else some (.inr b.1))
 ([],(0:Int)))
 fun r=>some r
def F25E:Zm:=ZK 240 Tryz.f240 110 [F23E,F24E,F85E] (hS (hS (hS (.seq (hS (.lp (en [(3,.own Gx false),pd 16 Y3] [0,4,15]) [(.exit 0,en [(3,.own Gx false)] [])] (hS (hS (.seq (hS (hS (hS (.seq (hS (.lp (en [pd 6 DP,pd 7 DP,pd 30 Y3] [0,3,4,5,15,16,28,29]) [(.exit 2,en [pd 6 DP,pd 7 DP] [0,3,4,5,15,16])] .leaf)) (hS (.lp (en [(3,.own Gx false),pd 53 Y3] [0,4,5,6,7,15,16,51,52]) [(.exit 4,en [(3,.own Gx false)] [0,4,15,16])] (hS (hS (.seq (hS (.seq (.reg [(79,Y4)]) .leaf)) .leaf))))))))) .leaf))))) .leaf)))) (.q WC) (.pd Zfm) (u1 F25)
def F27:(El Gx)->(El Gx)->Option (El Y4):=fun a b=>
 Va
 (bif decide (a.1=b.1) then
 bif decide (b.2.1<=a.2.1) then
 bif decide (a.2.2.1<=b.2.2.1) then
 bif decide (a.2.2.2.1<=b.2.2.2.1) then some (decide (Tr.qandNot .u64 a.2.2.2.2.1 b.2.2.2.2.1=(0:Int)))
 else some false
 else some false
 else some false
 else some false)
 fun c=>some c
def F27E:Zm:=ZK 241 Tryz.f241 39 [] (hS (.seq (.reg [(4,Y4)]) .leaf)) (.p Gx (.q Gx)) (.pd Y4) (u2 F27)
def F20:(El WC)->(El WC)->Option (El Y4):=fun b c=>
 Va
 (bif Vl b then some true
 else
 bif Vl c then some true
 else
 Va (Tr.unc b) fun _=>
 Va (Tr.unc b) fun n=>
 Va (Tr.unc c) fun _=>
 Va (Tr.unc c) fun o=>
 Va (F28 n.1 o.1) fun p=>bif !p then some true else Va (F26 b c) fun q=>some !q)
 fun r=>
 bif r then some false
 else
 Va (F25 b) fun l=>
 Va (F25 c) fun m=>
 Va
 (run
 (fun d=>
 bif decide (d<(↑(Vc m):Int)) then
 Va (idx m d) fun e=>
 Va
 (run
 (fun a=>
 bif decide (a.2<(↑(Vc l):Int)) then
 Va (idx l a.2) fun f=>
 Va (bif a.1 then some true else Va (F27 f e) fun g=>some g) fun h=>
 some (.inl (h,Vb .i64 (a.2+(1:Int))))
 else some (.inr a.1))
 (false,(0:Int)))
 fun i=>bif !i then some (.inr (.inr false)) else some (.inl (Vb .i64 (d+(1:Int))))
 else some (.inr (.inl ())))
 (0:Int))
 fun j=>Vk (fun _=>some true) (fun k=>some k) j
def F20E:Zm:=ZK 202 Tryz.f202 60 [F28E,F26E,F25E,F27E] (hS (.seq (.seq (.reg [(34,Y4)]) .leaf) (hS (.seq (hS (.lp (en [pd 40 Y3] [5,38,39]) [(.exit 0,e0),(.ret,en [pd 4 Y4] [])] (hS (hS (.seq (hS (hS (.seq (hS (.lp (en [pd 8 Y4,pd 46 Y3] [5,7,38,39,40,44,45]) [(.exit 2,en [pd 8 Y4] [5,38,39,40])] (hS (hS (.seq (hS (.reg [(8,Y4)])) .leaf))))) .leaf))) .leaf))))) .leaf)))) (.p WC (.q WC)) (.pd Y4) (u2 F20)
def F148:(El KV)->(El KV)->Option (El Y4):=fun a b=>
 Va
 (bif decide (a.2.1<=b.2.1) then
 bif decide (a.2.2.1<=b.2.2.1) then
 bif decide (a.2.2.2.1<=b.2.2.2.1) then Va (F20 a.2.2.2.2.1 b.2.2.2.2.1) fun c=>some c
 else some false
 else some false
 else some false)
 fun d=>some d
def F148E:Zm:=ZK 156 Tryz.f156 31 [F20E] (hS (.seq (.reg [(4,Y4)]) .leaf)) (.p KV (.q KV)) (.pd Y4) (u2 F148)
def F67:(X5)->(El Y3)->(El Y3)->Option (X5):=fun a d e=>
 Va (Zo e (Vc a.2.1)) fun g=>
 Va a.2.1[g]? fun c=>
 Va (Zo d (Vc a.2.1)) fun h=>
 Va a.2.1[h]? fun i=>
 Va (Zo d (Vc a.2.1)) fun b=>
 Va a.2.1[b]? fun _=>
 Va (Zo e (Vc (Vf a.2.1 b c))) fun f=>
 Va (Vf a.2.1 b c)[f]? fun _=>some ((),Vf (Vf a.2.1 b c) f i,a.2.2.1,())
def F67E:Zm:=Kg 159 Tryz.f159 32 [F147E] .leaf (.cons DK (.p Y3 (.q Y3))) .nil (u3 F67) (fun z=>((z,(),(),()),())) (fun y=>y.1.1)
def F65:(X5)->(El Y3)->(El Y3)->Option (X5×El Y4):=fun a d e=>
 Va (Zo d (Vc a.2.1)) fun f=>
 Va a.2.1[f]? fun b=>
 Va (Zo e (Vc a.2.1)) fun g=>
 Va a.2.1[g]? fun c=>
 Va (F147 b.1 c.1) fun h=>
 bif h then some (((),a.2.1,a.2.2.1,()),true)
 else
 Va (F147 c.1 b.1) fun i=>
 bif i then some (((),a.2.1,a.2.2.1,()),false) else some (((),a.2.1,a.2.2.1,()),decide (b.2.1<c.2.1))
def F65E:Zm:=Kg 203 Tryz.f203 46 [F147E] .leaf (.cons DK (.p Y3 (.q Y3))) (.q Y4) (u3 F65) (fun z=>((z.1,(),(),()),(z.2,()))) (fun y=>(y.1.1,y.2.1))
def F64:(X5)->(El KV)->Option (X5):=fun b d=>
 Va (ZD (decide (Vc b.2.1+Vc [(d,b.2.2.1,())]<=ZE))) fun _=>
 Va
 (run
 (fun a=>
 bif decide ((0:Int)<a.2) then
 Va
 (F65 ((),a.1.2.1,a.1.2.2.1,()) a.2
 (Vb .i64 (Vm (Vb .i64 (a.2 - (1:Int))) (2:Int))))
 fun c=>
 bif c.2 then
 Va
 (F67 ((),c.1.2.1,c.1.2.2.1,()) a.2
 (Vb .i64 (Vm (Vb .i64 (a.2 - (1:Int))) (2:Int))))
 fun e=>some (.inl (((),e.2.1,e.2.2.1,()),Vb .i64 (Vm (Vb .i64 (a.2 - (1:Int))) (2:Int))))
 else some (.inr ((),c.1.2.1,c.1.2.2.1,()))
 else some (.inr ((),a.1.2.1,a.1.2.2.1,())))
 (((),b.2.1++[(d,b.2.2.1,())],Vb .i64 (b.2.2.1+(1:Int)),()),
 Vb .i64 ((↑(Vc (b.2.1++[(d,b.2.2.1,())])):Int) - (1:Int))))
 fun f=>some ((),f.2.1,f.2.2.1,())
def F64E:Zm:=Kg 157 Tryz.f157 54 [F147E,F67E,F65E] (hS (hS (hS (hS (hS (.lp (en [(0,Pz7),pd 4 Y3] []) [(.exit 0,en [(0,Pz7)] [])] .leaf)))))) (.cons DK (.q KV)) .nil (u2 F64) (fun z=>((z,(),()),())) (fun y=>y.1.1)
def F150:(Jd)->(El KV)->Option (Jd):=fun a b=>
 Va
 (run
 (fun s0=>
 bif decide (s0<(↑(Vc (Vg (ZI (Zj Wh) b.1 a.2.2.1) [])):Int)) then
 Va (Zo s0 (Vc (Vg (ZI (Zj Wh) b.1 a.2.2.1) []))) fun e=>
 Va (Vg (ZI (Zj Wh) b.1 a.2.2.1) [])[e]? fun f=>
 Va (F148 f b) fun g=>bif g then some (.inr (.inr ())) else some (.inl (Vb .i64 (s0+(1:Int))))
 else some (.inr (.inl ())))
 (0:Int))
 fun h=>
 Vk
 (fun _=>
 Va
 (ZD
 (decide
 (Vc (Vg (ZI (Zj Wh) b.1 (ZZ (Zj Wh) b.1 (Vg (ZI (Zj Wh) b.1 a.2.2.1) []) a.2.2.1)) [])+
 Vc [b]<=
 ZE)))
 fun _=>
 Va
 (idx (ZZ (Zj Wh) b.1 (Vg (ZI (Zj Wh) b.1 a.2.2.1) []) a.2.2.1) (↑(Tr.amPos (Zj Wh) b.1 a.2.2.1):Int))
 fun c=>
 Va (ZD (Tr.holeK Wh (some b.1) c.1)) fun _=>
 Va (F64 ((),a.2.2.2.1.2.1,a.2.2.2.1.2.2.1,()) b) fun d=>
 some
 (a.1,a.2.1,
 ZZ (Zj Wh) c.1
 (Vg (ZI (Zj Wh) b.1 (ZZ (Zj Wh) b.1 (Vg (ZI (Zj Wh) b.1 a.2.2.1) []) a.2.2.1)) []++[b])
 (ZZ (Zj Wh) b.1 (Vg (ZI (Zj Wh) b.1 a.2.2.1) []) a.2.2.1),
 ((),d.2.1,d.2.2.1,()),a.2.2.2.2.1,()))
 (fun _=>some (a.1,a.2.1,a.2.2.1,((),a.2.2.2.1.2.1,a.2.2.2.1.2.2.1,()),a.2.2.2.2.1,())) h
def F150E:Zm:=Kg 111 Tryz.f111 40 [F147E,F148E,F64E] (hS (.seq (hS (.lp (en [pd 14 Y3] [0,3,12,13]) [(.exit 0,en [] [0,3]),(.ret,en [] [0])] .leaf)) .leaf)) (.cons HF (.q KV)) .nil (u2 F150) (fun z=>((z,(),()),())) (fun y=>y.1.1)
def F61:(X5)->Option (X5×El Y3):=fun a=>some (((),a.2.1,a.2.2.1,()),(↑(Vc a.2.1):Int))
def F61E:Zm:=Kg 112 Tryz.f112 10 [F147E] .leaf (.cons DK .nil) (.q Y3) (u1 F61) (fun z=>((z.1,()),(z.2,()))) (fun y=>(y.1.1,y.2.1))
def F62:(X5)->Option (X5×El KV×El Y4):=fun b=>
 Va (F61 ((),b.2.1,b.2.2.1,())) fun a=>
 bif decide (a.2=(0:Int)) then some (((),a.1.2.1,a.1.2.2.1,()),(((0:Int),(0:Int),(0:Int),(0:Int),((0:Int),(0:Int),(0:Int),(0:Int),()),()),(0:Int),(0:Int),(0:Int),Tr.zeroEl WC,([]:List (El JR)),()),false)
 else Va (Zo (0:Int) (Vc a.1.2.1)) fun c=>Va a.1.2.1[c]? fun d=>some (((),a.1.2.1,a.1.2.2.1,()),d.1,true)
def F62E:Zm:=Kg 158 Tryz.f158 16 [F147E,F61E] .leaf (.cons DK .nil) (.p KV (.q Y4)) (u1 F62) (fun z=>((z.1,()),(z.2.1,z.2.2,()))) (fun y=>(y.1.1,y.2.1,y.2.2.1))
def F66:(X5)->Option (X5):=fun e=>
 Va
 (run
 (fun s0=>
 bif decide ((↑(Vc s0.1.2.1):Int)<=Vb .i64 (Vb .i64 ((2:Int) *s0.2)+(1:Int))) then
 some (.inr ((),s0.1.2.1,s0.1.2.2.1,()))
 else
 bif
 decide
 (Vb .i64 (Vb .i64 (Vb .i64 ((2:Int) *s0.2)+(1:Int))+(1:Int))<
 (↑(Vc s0.1.2.1):Int)) then
 Va
 (F65 ((),s0.1.2.1,s0.1.2.2.1,())
 (Vb .i64 (Vb .i64 (Vb .i64 ((2:Int) *s0.2)+(1:Int))+(1:Int)))
 (Vb .i64 (Vb .i64 ((2:Int) *s0.2)+(1:Int))))
 fun c=>
 Va
 (bif c.2 then some (Vb .i64 (Vb .i64 (Vb .i64 ((2:Int) *s0.2)+(1:Int))+(1:Int)))
 else some (Vb .i64 (Vb .i64 ((2:Int) *s0.2)+(1:Int))))
 fun d=>
 Va (F65 ((),c.1.2.1,c.1.2.2.1,()) d s0.2) fun a=>
 bif !a.2 then some (.inr ((),a.1.2.1,a.1.2.2.1,()))
 else Va (F67 ((),a.1.2.1,a.1.2.2.1,()) s0.2 d) fun f=>some (.inl (((),f.2.1,f.2.2.1,()),d))
 else
 Va
 (F65 ((),s0.1.2.1,s0.1.2.2.1,()) (Vb .i64 (Vb .i64 ((2:Int) *s0.2)+(1:Int))) s0.2)
 fun b=>
 bif !b.2 then some (.inr ((),b.1.2.1,b.1.2.2.1,()))
 else
 Va
 (F67 ((),b.1.2.1,b.1.2.2.1,()) s0.2 (Vb .i64 (Vb .i64 ((2:Int) *s0.2)+(1:Int))))
 fun g=>some (.inl (((),g.2.1,g.2.2.1,()),Vb .i64 (Vb .i64 ((2:Int) *s0.2)+(1:Int)))))
 (((),e.2.1,e.2.2.1,()),(0:Int)))
 fun h=>some ((),h.2.1,h.2.2.1,())
def F66E:Zm:=Kg 160 Tryz.f160 41 [F147E,F67E,F65E] (hS (.lp (en [(0,Pz7),pd 2 Y3] []) [(.ret,en [(0,Pz7)] [])] (hS (hS (.seq (hS (.cnd (some ((en [] [0,2]),[(.normal,en [pd 3 Y3] [0,2])])) .leaf .leaf)) .leaf))))) (.cons DK .nil) .nil (u1 F66) (fun z=>((z,()),())) (fun y=>y.1.1)
def F63:(X5)->Option (X5×El KV×El Y4):=fun c=>
 Va (F62 ((),c.2.1,c.2.2.1,())) fun a=>
 bif !a.2.2 then some (((),a.1.2.1,a.1.2.2.1,()),a.2.1,false)
 else
 Va (F67 ((),a.1.2.1,a.1.2.2.1,()) (0:Int) (Vb .i64 ((↑(Vc a.1.2.1):Int) - (1:Int)))) fun b=>
 Va (sliceB (Vc b.2.1) (Vc b.2.1) none (some (Vb .i64 ((↑(Vc a.1.2.1):Int) - (1:Int)))))
 fun e=>
 Va (F66 ((),Vh e.2 b.2.1,b.2.2.1,())) fun d=>some (((),d.2.1,d.2.2.1,()),a.2.1,true)
def F63E:Zm:=Kg 113 Tryz.f113 36 [F147E,F62E,F67E,F66E] .leaf (.cons DK .nil) (.p KV (.q Y4)) (u1 F63) (fun z=>((z.1,()),(z.2.1,z.2.2,()))) (fun y=>(y.1.1,y.2.1,y.2.2.1))
def F83:(El ZM)->(El JR)->Option (El Y4):=fun b a=>
 Va
 (bif decide ((0:Int)<=a.2.1) then
 bif decide (a.2.1<(↑(Vc b.2.2.1):Int)) then
 bif decide ((0:Int)<=a.2.2.1) then
 bif decide (a.2.2.1<a.2.2.2.1) then
 Va (idx b.2.2.1 a.2.1) fun c=>some (decide (a.2.2.2.1<(↑(Vc c.2.2.2.2.2.2.2.1):Int)))
 else some false
 else some false
 else some false
 else some false)
 fun d=>some d
def F83E:Zm:=ZK 120 Tryz.f120 41 [] (hS (.seq (.reg [(4,Y4)]) .leaf)) (.p ZM (.q JR)) (.pd Y4) (u2 F83)
def F5:(El Y3)->Option (El KW):=fun a=>
 Va (bif decide (a<(0:Int)) then some true else some (decide ((63:Int)<a))) fun b=>
 bif b then some (0:Int) else Va (GK .u64 (1:Int) a) fun c=>some c
def F5E:Zm:=ZK 173 Tryz.f173 11 [] (hS (.seq (.seq (.reg [(8,Y4)]) .leaf) .leaf)) (.q Y3) (.pd KW) (u1 F5)
def F3:(El KW)->(El Y3)->Option (El KW):=fun a b=>Va (F5 b) fun c=>some (Wt .u64 a c)
def F3E:Zm:=ZK 172 Tryz.f172 9 [F5E] .leaf (.p KW (.q Y3)) (.pd KW) (u2 F3)
def F84:(El ZM)->(El JR)->Option (El KW):=fun e d=>
 Va (idx e.2.2.1 d.2.1) fun c=>
 Va
 (sliceB (Vc c.2.2.2.2.2.2.2.1) (Vc c.2.2.2.2.2.2.2.1) (some d.2.2.1)
 (some (Vb .i64 (d.2.2.2.1+(1:Int)))))
 fun a=>
 Va
 (run
 (fun b=>
 bif decide (b.2<(↑(Vc (Vh (a.2 - a.1) (Vi a.1 c.2.2.2.2.2.2.2.1))):Int)) then
 Va (idx (Vh (a.2 - a.1) (Vi a.1 c.2.2.2.2.2.2.2.1)) b.2) fun f=>
 Va (idx e.1 f.1) fun g=>Va (F3 b.1 g.2.1) fun h=>some (.inl (h,Vb .i64 (b.2+(1:Int))))
 else some (.inr b.1))
 ((0:Int),(0:Int)))
 fun i=>some i
def F84E:Zm:=ZK 118 Tryz.f118 37 [F3E] (hS (hS (.seq (hS (.lp (en [pd 5 KW,pd 22 Y3] [2,20,21]) [(.exit 0,en [pd 5 KW] [])] .leaf)) .leaf))) (.p ZM (.q JR)) (.pd KW) (u2 F84)
def F0:(El Y0)->Option (El KW):=fun a=>
 Va
 (run
 (fun s0=>
 bif decide (s0.2<(↑(Vc a):Int)) then
 Va (idx a s0.2) fun b=>Va (F5 b) fun c=>some (.inl (Wt .u64 s0.1 c,Vb .i64 (s0.2+(1:Int))))
 else some (.inr s0.1))
 ((0:Int),(0:Int)))
 fun d=>some d
def F0E:Zm:=ZK 119 Tryz.f119 18 [F5E] (hS (hS (.seq (hS (.lp (en [pd 3 KW,pd 8 Y3] [6,7]) [(.exit 0,en [pd 3 KW] [])] .leaf)) .leaf))) (.q Y0) (.pd KW) (u1 F0)
def F80:(El JR)->(El ZM)->(List (El W8))->Option (List (El W8)):=fun b h c=>
 Va (F84 h b) fun g=>
 Va (idx h.2.2.1 b.2.1) fun k=>
 Va (idx h.2.1 k.2.2.2.2.1) fun l=>
 Va (F0 [l.2.1]) fun i=>
 bif !b.2.2.2.2.2.2.2.2.1 then
 Va
 (ZD
 (decide
 (Vc c+Vc [(b.2.2.2.2.2.2.1,b.2.2.2.2.2.2.2.1,Vb .i64 g,Vb .i64 i,())]<=
 ZE)))
 fun _=>some (c++[(b.2.2.2.2.2.2.1,b.2.2.2.2.2.2.2.1,Vb .i64 g,Vb .i64 i,())])
 else
 Va (Zo (Vb .i64 ((↑(Vc c):Int) - (1:Int))) (Vc c)) fun a=>
 Va c[a]? fun d=>
 Va (Vf c a (d.1,b.2.2.2.2.2.2.2.1,d.2.2))[a]? fun j=>
 Va (Vf c a (d.1,b.2.2.2.2.2.2.2.1,d.2.2))[a]? fun f=>
 Va
 (Vf (Vf c a (d.1,b.2.2.2.2.2.2.2.1,d.2.2)) a
 (f.1,f.2.1,Wt .i64 j.2.2.1 (Vb .i64 g),f.2.2.2))[a]?
 fun m=>
 Va
 (Vf (Vf c a (d.1,b.2.2.2.2.2.2.2.1,d.2.2)) a
 (f.1,f.2.1,Wt .i64 j.2.2.1 (Vb .i64 g),f.2.2.2))[a]?
 fun e=>
 some
 (Vf
 (Vf (Vf c a (d.1,b.2.2.2.2.2.2.2.1,d.2.2)) a
 (f.1,f.2.1,Wt .i64 j.2.2.1 (Vb .i64 g),f.2.2.2))
 a (e.1,e.2.1,e.2.2.1,Wt .i64 m.2.2.2.1 (Vb .i64 i),e.2.2.2.2))
def F80E:Zm:=Kg 117 Tryz.f117 65 [F84E,F0E] .leaf (.p JR (.cons (.ro ZM) (.cons (.var Jf (.own W8 false)) .nil))) .nil (u3 F80) (fun z=>(((),(),z,()),())) (fun y=>y.1.2.2.1)
def F79:(El ZM)->(El Xk)->Option (El Jf×El ZA):=fun d e=>
 Va (F86 d) fun f=>
 bif !decide (f.2.2=(0:Int)) then some ([],(21:Int))
 else
 Va
 (run
 (fun a=>
 bif decide (a.2.2<(↑(Vc e.1):Int)) then
 Va (idx e.1 a.2.2) fun b=>
 Va (bif b.1 then Va (F83 d b) fun g=>some !g else some false) fun h=>
 bif h then some (.inr (.inr ([],(9:Int))))
 else
 Va (bif b.2.2.2.2.2.2.2.2.1 then bif !b.1 then some true else some !a.2.1 else some false) fun i=>
 bif i then some (.inr (.inr ([],(19:Int))))
 else
 Va (bif b.1 then Va (F80 b d a.1) fun j=>some j else some a.1) fun k=>
 some (.inl (k,b.1,Vb .i64 (a.2.2+(1:Int))))
 else some (.inr (.inl a.1)))
 ([],false,(0:Int)))
 fun l=>Vk (fun m=>some (m,(0:Int))) (fun c=>some (c.1,c.2)) l
def F79E:Zm:=Kg 74 Tryz.f74 58 [F86E,F80E,F83E] (hS (hS (hS (hS (hS (.seq (hS (.lp ⟨[(9,.var Jf (.own W8 false)),pd 11 Y4,pd 26 Y3],[(10,117,[2,9])],[2,24,25],[],[],[]⟩ [(.exit 0,en [(9,.var Jf (.own W8 false))] []),(.ret,en [pd 4 Jf,pd 5 ZA] [])] (hS (hS (.seq (hS (.seq (.seq (.reg [(37,Y4)]) .leaf) (.seq (.seq (.reg [(48,Y4)]) .leaf) (.seq (hS (.cnd (some ((en [] [2,13,24,25,26]),[(.normal,⟨[(9,.var Jf (.own W8 false))],[(10,117,[2,9])],[2,13,24,25,26],[],[],[]⟩)])) .leaf .leaf)) .leaf)))) .leaf))))) .leaf)))))) (.p ZM (.q Xk)) (.p Jf (.q ZA)) (u2 F79) (fun z=>(((),(),()),(z.1,z.2,()))) (fun y=>(y.2.1,y.2.2.1))
def F17:(El K9)->(El Jf)->Option (El ZA):=fun a b=>
 Va (F109 a) fun c=>
 bif !decide (c.2=(0:Int)) then some (20:Int) else bif decide ((8:Int)<(↑(Vc b):Int)) then some (33:Int) else some (0:Int)
def F17E:Zm:=ZK 121 Tryz.f121 17 [F109E] .leaf (.p K9 (.q Jf)) (.pd ZA) (u2 F17)
def F112:(El Y3)->(El Y3)->(El Y3)->Option (El Y4):=fun b c a=>
 bif decide (b<=c) then
 Va
 (bif decide (a<(0:Int)) then some true
 else some (decide (Vb .u64 a<Vb .u64 (Vb .u64 c - Vb .u64 b))))
 fun d=>some d
 else
 Va
 (bif decide (a<(0:Int)) then
 some
 (decide
 (Vb .u64 (Vb .u64 b - Vb .u64 c)<Vb .u64 ((0:Int) - Vb .u64 a)))
 else some false)
 fun e=>some e
def F112E:Zm:=ZK 219 Tryz.f219 35 [] (hS (.seq (hS (.cnd none (.seq (.reg [(6,Y4)]) .leaf) .leaf)) (.seq (.reg [(6,Y4)]) .leaf))) (.p Y3 (.p Y3 (.q Y3))) (.pd Y4) (u3 F112)
def F1(a:Int):Option Int:=Tr.lenF a
def F1S:Tr.Spec:= {args:=(.cons (.pd KW) .nil),res:=(.cons (.pd Y3) .nil),fns:=[],α:=El Y3,f:=fun x=>F1 x.1,unp:=fun z=>(((),()),(z,()))}
theorem F1_ok:ZX Tryz.prog 222 F1S:=Tr.len_ok
def F1E:Zm:=⟨222,F1S,F1_ok⟩
def F4:(El KW)->(El KW)->Option (El Y4):=fun a b=>some (decide (Tr.qandNot .u64 a b=(0:Int)))
def F4E:Zm:=ZK 223 Tryz.f223 9 [] .leaf (.p KW (.q KW)) (.pd Y4) (u2 F4)
def F2:(El KW)->(El KW)->Option (El KW):=fun a b=>some (Wt .u64 a b)
def F2E:Zm:=ZK 221 Tryz.f221 8 [] .leaf (.p KW (.q KW)) (.pd KW) (u2 F2)
def F111:(El W8)->(El KW)->(El KW)->Option (El KW×El KW):=fun a b c=>
 Va (F2 b (Vb .u64 a.2.2.1)) fun d=>
 Va (F2 c (Vb .u64 a.2.2.2.1)) fun e=>some (d,e)
def F111E:Zm:=Kg 220 Tryz.f220 14 [F2E] .leaf (.p W8 (.cons (.var KW (.pd KW)) (.cons (.var KW (.pd KW)) .nil))) .nil (u3 F111) (fun z=>(((),z.1,z.2,()),())) (fun y=>(y.1.2.1,y.1.2.2.1))
def F110:(El Y2)->(El Jf)->Option (El Y4):=fun c a=>
 Va
 (bif decide ((↑(Vc a):Int)=(0:Int)) then some true
 else
 bif decide (c.2.2.1<(↑(Vc a):Int)) then some true
 else
 Va (idx a (0:Int)) fun g=>
 Va (idx a (Vb .i64 ((↑(Vc a):Int) - (1:Int)))) fun h=>
 Va (F112 g.1 h.1 c.2.2.2.2.1) fun i=>some i)
 fun j=>
 bif j then some false
 else
 Va
 (run
 (fun b=>
 bif decide (b.2.2<(↑(Vc a):Int)) then
 Va (idx a b.2.2) fun k=>
 Va (F111 k b.1 b.2.1) fun e=>some (.inl (e.1,e.2,Vb .i64 (b.2.2+(1:Int))))
 else some (.inr (b.1,b.2.1)))
 ((0:Int),(0:Int),(0:Int)))
 fun f=>
 Va
 (Va (F1 f.1) fun l=>
 bif decide (l<=c.2.2.2.1) then Va (F4 f.2 (Vb .u64 c.2.2.2.2.2.1)) fun m=>some m
 else some false)
 fun d=>some d
def F110E:Zm:=ZK 175 Tryz.f175 59 [F112E,F111E,F1E,F4E] (hS (hS (.seq (.seq (.reg [(35,Y4)]) .leaf) (hS (hS (.seq (hS (.lp ⟨[(6,.var KW (.pd KW)),(7,.var KW (.pd KW)),pd 39 Y3],[(8,220,[6,7])],[2,37,38],[],[],[]⟩ [(.exit 0,en [(6,.var KW (.pd KW)),(7,.var KW (.pd KW))] [2])] .leaf)) (.seq (.reg [(4,Y4)]) .leaf))))))) (.p Y2 (.q Jf)) (.pd Y4) (u2 F110)
def F18:(El Y3)->(El Y3)->(El Y3)->Option (El Y4):=fun a b c=>
 Va
 (bif decide (b<=a) then some true
 else some (decide (Vb .u64 (Vb .u64 b - Vb .u64 a)<=Vb .u64 c)))
 fun d=>some d
def F18E:Zm:=ZK 224 Tryz.f224 20 [] (hS (.seq (.reg [(6,Y4)]) .leaf)) (.p Y3 (.p Y3 (.q Y3))) (.pd Y4) (u3 F18)
def F16:(El K9)->(El Y2)->(El Jf)->(El Y3)->Option (El Y3):=fun b c d a=>
 Va
 (bif decide ((0:Int)<a) then
 Va (idx d (Vb .i64 (a - (1:Int)))) fun e=>
 Va (idx d a) fun f=>Va (F18 e.2.1 f.1 b.2.2.1) fun g=>some g
 else some false)
 fun h=>bif h then some (Tr.imax (0:Int) (Vb .i64 (c.2.1 - b.2.1))) else some c.2.1
def F16E:Zm:=ZK 176 Tryz.f176 35 [F18E] (hS (.seq (.seq (.reg [(26,Y4)]) .leaf) .leaf)) (.p K9 (.p Y2 (.p Jf (.q Y3)))) (.pd Y3) (u4 F16)
def F15:(El Zdc)->(El Y3)->(El Y3)->Option (El Y4):=fun a b c=>
 Va
 (bif !a.1 then some true
 else
 bif decide (b<a.2.1) then some true
 else bif decide (b=a.2.1) then some (decide (c<a.2.2.1)) else some false)
 fun d=>some d
def F15E:Zm:=ZK 177 Tryz.f177 28 [] (hS (.seq (.reg [(6,Y4)]) .leaf)) (.p Zdc (.p Y3 (.q Y3))) (.pd Y4) (u3 F15)
def F14:(El Y3)->(El Y3)->(El Y3)->(El K9)->(El Jf)->(El Jt)->Option (El Jt):=fun b d f g e a=>
 Va (idx g.1 f) fun n=>
 Va (sliceB (Vc e) (Vc e) (some b) (some (Vb .i64 (d+(1:Int))))) fun h=>
 Va (F110 n (Vh (h.2 - h.1) (Vi h.1 e))) fun o=>
 bif !o then some a
 else
 Va (idx g.1 f) fun p=>
 Va (F16 g p e b) fun k=>
 Va (Zo (Vb .i64 (d+(1:Int))) (9:Nat)) fun q=>
 Va a[q]? fun l=>
 Va (Zo (Vb .i64 (d+(1:Int))) (9:Nat)) fun r=>
 Va a[r]? fun m=>
 Va (Zo b (9:Nat)) fun s=>
 Va a[s]? fun i=>
 Va (F15 i (Vb .i64 (k+l.2.1)) (Vb .i64 (m.2.2.1+(1:Int)))) fun j=>
 bif j then
 Va (Zo b (9:Nat)) fun c=>
 Va a[c]? fun _=>
 some
 (Vf a c
 (true,Vb .i64 (k+l.2.1),Vb .i64 (m.2.2.1+(1:Int)),(f,b,d,k,()),()))
 else some a
def F14E:Zm:=Kg 174 Tryz.f174 62 [F110E,F16E,F15E] .leaf (.p Y3 (.p Y3 (.p Y3 (.cons (.ro K9) (.cons (.ro Jf) (.cons (.var Jt (.pd Jt)) .nil)))))) .nil (u6 F14) (fun z=>(((),(),(),(),(),z,()),())) (fun y=>y.1.2.2.2.2.2.1)
def F13:(El K9)->(El Jf)->Option (El Jt):=fun f d=>
 Va (Zo (↑(Vc d):Int) (9:Nat)) fun g=>
 Va (Tr.zeroEl Jt)[g]? fun h=>
 Va
 (run
 (fun b=>
 bif decide ((0:Int)<=b.2) then
 Va
 (run
 (fun c=>
 bif decide (c.2<(↑(Vc d):Int)) then
 Va
 (run
 (fun a=>
 bif decide (a.2<(↑(Vc f.1):Int)) then
 Va (Zo (Vb .i64 (c.2+(1:Int))) (9:Nat)) fun i=>
 Va a.1[i]? fun j=>
 bif j.1 then
 Va (F14 b.2 c.2 a.2 f d a.1) fun k=>some (.inl (k,Vb .i64 (a.2+(1:Int))))
 else some (.inl (a.1,Vb .i64 (a.2+(1:Int))))
 else some (.inr a.1))
 (c.1,(0:Int)))
 fun l=>some (.inl (l,Vb .i64 (c.2+(1:Int))))
 else some (.inr c.1))
 (b.1,b.2))
 fun m=>some (.inl (m,Vb .i64 (b.2 - (1:Int))))
 else some (.inr b.1))
 (Vf (Tr.zeroEl Jt) g (true,h.2),Vb .i64 ((↑(Vc d):Int) - (1:Int))))
 fun e=>some e
def F13E:Zm:=ZK 122 Tryz.f122 47 [F14E] (hS (hS (hS (hS (hS (.seq (hS (.lp ⟨[(5,.var Jt (.pd Jt)),pd 8 Y3],[(7,174,[2,3,5])],[2,3,4,6],[],[],[]⟩ [(.exit 0,en [(5,.var Jt (.pd Jt))] [4])] (hS (.seq (hS (.lp ⟨[(5,.var Jt (.pd Jt)),pd 9 Y3],[(7,174,[2,3,5])],[2,3,4,6,8],[],[],[]⟩ [(.exit 2,⟨[(5,.var Jt (.pd Jt))],[(7,174,[2,3,5])],[2,3,4,6,8],[],[],[]⟩)] (hS (.seq (hS (.lp ⟨[(5,.var Jt (.pd Jt)),pd 32 Y3],[(7,174,[2,3,5])],[2,3,4,6,8,9,31],[],[],[]⟩ [(.exit 4,⟨[(5,.var Jt (.pd Jt))],[(7,174,[2,3,5])],[2,3,4,6,8,9],[],[],[]⟩)] .leaf)) .leaf)))) .leaf)))) .leaf)))))) (.p K9 (.q Jf)) (.pd Jt) (u2 F13)
def F12:(El K9)->(El Y3)->Option (El Y3):=fun a b=>
 Va (bif decide ((0:Int)<a.2.2.2.1) then some (decide (a.2.2.2.1<b)) else some false) fun c=>
 bif c then some a.2.2.2.1 else some b
def F12E:Zm:=ZK 123 Tryz.f123 17 [] (hS (.seq (.seq (.reg [(13,Y4)]) .leaf) .leaf)) (.p K9 (.q Y3)) (.pd Y3) (u2 F12)
def F11:(El K9)->(El Jf)->Option (El Y3×El RJ×El ZA):=fun c d=>
 Va (F17 c d) fun g=>
 bif !decide (g=(0:Int)) then some ((0:Int),[],g)
 else
 Va (F13 c d) fun b=>
 Va b[Vd (0:Int)]? fun i=>
 bif !i.1 then some ((0:Int),[],(34:Int))
 else
 Va
 (run
 (fun a=>
 bif decide (a.2<(↑(Vc d):Int)) then
 Va (Zo a.2 (9:Nat)) fun j=>
 Va b[j]? fun h=>
 Va (ZD (decide (Vc a.1+Vc [h.2.2.2.1]<=ZE))) fun _=>
 Va (Zo a.2 (9:Nat)) fun k=>
 Va b[k]? fun l=>some (.inl (a.1++[h.2.2.2.1],Vb .i64 (l.2.2.2.1.2.2.1+(1:Int))))
 else some (.inr a.1))
 ([],(0:Int)))
 fun m=>Va b[Vd (0:Int)]? fun e=>Va (F12 c e.2.1) fun f=>some (f,m,(0:Int))
def F11E:Zm:=Kg 75 Tryz.f75 47 [F17E,F13E,F12E] (hS (hS (hS (hS (hS (.seq (hS (.lp (en [(9,.own G0 false),pd 10 Y3] [1,2,8]) [(.exit 0,en [(9,.own G0 false)] [2,8])] .leaf)) .leaf)))))) (.p K9 (.q Jf)) (.p Y3 (.p RJ (.q ZA))) (u2 F11) (fun z=>(((),(),()),(z.1,z.2.1,z.2.2,()))) (fun y=>(y.2.1,y.2.2.1,y.2.2.2.1))
def F82:(El Xk)->Option (El Y3):=fun b=>
 Va
 (run
 (fun s0=>
 bif decide (s0.2<(↑(Vc b.1):Int)) then
 Va (idx b.1 s0.2) fun a=>
 Va
 (bif a.1 then some true
 else
 bif decide (a.2.2.2.2.2.2.1<(0:Int)) then some true
 else
 bif decide (a.2.2.2.2.2.2.2.1<a.2.2.2.2.2.2.1) then some true
 else some (decide ((14400:Int)<Vb .i64 (a.2.2.2.2.2.2.2.1 - a.2.2.2.2.2.2.1))))
 fun c=>
 bif c then some (.inl (s0.1,Vb .i64 (s0.2+(1:Int))))
 else
 some
 (.inl
 (Vb .i64 (s0.1+Vb .i64 (a.2.2.2.2.2.2.2.1 - a.2.2.2.2.2.2.1)),
 Vb .i64 (s0.2+(1:Int))))
 else some (.inr s0.1))
 ((0:Int),(0:Int)))
 fun d=>some d
def F82E:Zm:=ZK 76 Tryz.f76 44 [] (hS (hS (.seq (hS (.lp (en [pd 3 Y3,pd 9 Y3] [7,8]) [(.exit 0,en [pd 3 Y3] [])] (hS (hS (.seq (hS (.seq (.seq (.reg [(34,Y4)]) .leaf) .leaf)) .leaf))))) .leaf))) (.q Xk) (.pd Y3) (u1 F82)
def F78:(El ZM)->(El Ki)->(El Xk)->Option (El DS×El RJ×El ZA):=fun d e a=>
 Va (F79 d a) fun b=>
 bif !decide (b.2=(0:Int)) then some (((0:Int),(0:Int),(0:Int),(0:Int),(0:Int),()),[],b.2)
 else
 Va (F11 d.2.2.2.2.2.1 b.1) fun c=>
 bif !decide (c.2.2=(0:Int)) then some (((0:Int),(0:Int),(0:Int),(0:Int),(0:Int),()),[],c.2.2)
 else
 Va (F82 a) fun f=>
 Va
 (bif decide ((0:Int)<(↑(Vc a.1):Int)) then
 Va (idx a.1 (0:Int)) fun g=>
 Va (idx a.1 (Vb .i64 ((↑(Vc a.1):Int) - (1:Int)))) fun h=>
 some (g.2.2.2.2.2.2.1,h.2.2.2.2.2.2.2.1,(↑(Vc b.1):Int),c.1,f,())
 else some (e.2.2.1,e.2.2.1,(↑(Vc b.1):Int),c.1,f,()))
 fun i=>some (i,c.2.1,(0:Int))
def F78E:Zm:=Kg 32 Tryz.f32 68 [F79E,F11E,F82E] (hS (hS (hS (hS (hS (hS (.seq (hS (hS (.cnd (some ((en [] [6,12]),[(.normal,en [(13,.var DS (.pd DS))] [6,12])])) .leaf .leaf))) .leaf))))))) (.p ZM (.p Ki (.q Xk))) (.p DS (.p RJ (.q ZA))) (u3 F78) (fun z=>(((),(),(),()),(z.1,z.2.1,z.2.2,()))) (fun y=>(y.2.1,y.2.2.1,y.2.2.2.1))
def F162:(El DR)->(El JR)->Option (El DR):=fun a b=>
 Va
 (ZD
 (decide
 ((0:El (Tr.Ty.int .i64))<=(0:Int)/\
 (0:Int)<=Vb .i64 ((↑(Vc a):Int)+(1:Int))/\
 Vb .i64 ((↑(Vc a):Int)+(1:Int))<=(↑ZE:El (Tr.Ty.int .i64)))))
 fun _=>
 Va (ZD (decide (Vc (Vj (Vd (0:Int)) ((false,(0:Int),(0:Int),(0:Int),(0:Int),(0:Int),(0:Int),(0:Int),false,())))+Vc a<=ZE))) fun _=>
 Va (ZD (decide (Vc (Vj (Vd (0:Int)) ((false,(0:Int),(0:Int),(0:Int),(0:Int),(0:Int),(0:Int),(0:Int),false,()))++a)+Vc [b]<=ZE))) fun _=>
 some (Vj (Vd (0:Int)) ((false,(0:Int),(0:Int),(0:Int),(0:Int),(0:Int),(0:Int),(0:Int),false,()))++a++[b])
def F162E:Zm:=ZK 206 Tryz.f206 16 [] .leaf (.p DR (.q JR)) (.pd DR) (u2 F162)
def F154:(Jd)->(El KV)->Option (Jd):=fun a e=>
 Va (F162 e.2.2.2.2.2.1 (false,(0:Int),(0:Int),(0:Int),(0:Int),(0:Int),(0:Int),(0:Int),false,())) fun c=>
 Va (sliceB (Vc c) (Vc c) none (some (↑(Vc e.2.2.2.2.2.1):Int))) fun b=>
 Va (F78 a.1 a.2.1 (Vh (b.2 - b.1) (Vi b.1 c),())) fun d=>
 bif decide (d.2.2=(0:Int)) then
 Va (ZD (decide (Vc a.2.2.2.2.1+Vc [((Vh (b.2 - b.1) (Vi b.1 c),()),d.1,d.2.1,())]<=ZE)))
 fun _=>
 some
 (a.1,a.2.1,a.2.2.1,((),a.2.2.2.1.2.1,a.2.2.2.1.2.2.1,()),
 a.2.2.2.2.1++[((Vh (b.2 - b.1) (Vi b.1 c),()),d.1,d.2.1,())],())
 else some (a.1,a.2.1,a.2.2.1,((),a.2.2.2.1.2.1,a.2.2.2.1.2.2.1,()),a.2.2.2.2.1,())
def F154E:Zm:=Kg 162 Tryz.f162 46 [F78E,F147E,F162E] .leaf (.cons HF (.q KV)) .nil (u2 F154) (fun z=>((z,(),()),())) (fun y=>y.1.1)
def F155:(Jd)->(El KV)->(El Y3)->(El Y3)->Option (Jd×El Y4):=fun a c d e=>
 Va
 (run
 (fun s0=>
 bif decide (s0<(↑(Vc a.1.2.2.2.1):Int)) then
 Va (idx a.1.2.2.2.1 s0) fun b=>
 Va
 (bif !b.2.2.2.2.1 then
 bif decide (c.1.1=(1:Int)) then
 bif decide (b.1=c.1.2.2.1) then
 bif decide (b.2.1=c.1.2.2.2.1) then
 bif decide (b.2.2.1=d) then some (decide (b.2.2.2.1=e)) else some false
 else some false
 else some false
 else some false
 else some false)
 fun f=>bif f then some (.inr (.inr true)) else some (.inl (Vb .i64 (s0+(1:Int))))
 else some (.inr (.inl ())))
 (0:Int))
 fun g=>
 Vk (fun _=>some ((a.1,a.2.1,a.2.2.1,((),a.2.2.2.1.2.1,a.2.2.2.1.2.2.1,()),a.2.2.2.2.1,()),false))
 (fun h=>some ((a.1,a.2.1,a.2.2.1,((),a.2.2.2.1.2.1,a.2.2.2.1.2.2.1,()),a.2.2.2.2.1,()),h)) g
def F155E:Zm:=Kg 207 Tryz.f207 59 [F147E] (hS (.seq (hS (.lp (en [pd 17 Y3] [0,2,3,5,15,16]) [(.exit 0,en [] [0]),(.ret,en [pd 8 Y4] [0])] (hS (hS (.seq (hS (.seq (.reg [(57,Y4)]) .leaf)) .leaf))))) .leaf)) (.cons HF (.p KV (.p Y3 (.q Y3)))) (.q Y4) (u4 F155) (fun z=>((z.1,(),(),(),()),(z.2,()))) (fun y=>(y.1.1,y.2.1))
def F158:(Jd)->(El Y3)->(El Y3)->Option (Jd×El Y4):=fun a c d=>
 Va
 (run
 (fun s0=>
 bif decide (s0<(↑(Vc a.1.2.2.2.1):Int)) then
 Va (idx a.1.2.2.2.1 s0) fun b=>
 Va
 (bif b.2.2.2.2.1 then bif decide (b.1=c) then some (decide (b.2.1=d)) else some false else some false)
 fun e=>bif e then some (.inr (.inr true)) else some (.inl (Vb .i64 (s0+(1:Int))))
 else some (.inr (.inl ())))
 (0:Int))
 fun f=>
 Vk (fun _=>some ((a.1,a.2.1,a.2.2.1,((),a.2.2.2.1.2.1,a.2.2.2.1.2.2.1,()),a.2.2.2.2.1,()),false))
 (fun g=>some ((a.1,a.2.1,a.2.2.1,((),a.2.2.2.1.2.1,a.2.2.2.1.2.2.1,()),a.2.2.2.2.1,()),g)) f
def F158E:Zm:=Kg 251 Tryz.f251 34 [F147E] (hS (.seq (hS (.lp (en [pd 15 Y3] [0,1,2,13,14]) [(.exit 0,en [] [0]),(.ret,en [pd 6 Y4] [0])] (hS (hS (.seq (hS (.seq (.reg [(32,Y4)]) .leaf)) .leaf))))) .leaf)) (.cons HF (.p Y3 (.q Y3))) (.q Y4) (u3 F158) (fun z=>((z.1,(),(),()),(z.2,()))) (fun y=>(y.1.1,y.2.1))
def F159:(Jd)->(El KV)->(El Y3)->(El Y3)->(El Y4)->(El W8)->Option (Jd):=fun h g k i t l=>
 Va (idx h.1.2.2.1 k) fun j=>
 Va (idx h.1.2.1 j.2.2.2.2.1) fun u=>
 Va (GK .i64 (1:Int) u.2.1) fun v=>
 Va (idx j.2.2.2.2.2.2.2.1 i) fun w=>
 Va (idx h.1.1 w.1) fun x=>
 Va (GK .i64 (1:Int) x.2.1) fun y=>
 Va
 (run
 (fun a=>
 bif decide (a.2.2<(↑(Vc j.2.2.2.2.2.2.2.1):Int)) then
 Va (idx j.2.2.2.2.2.2.2.1 a.2.2) fun c=>
 Va (idx a.1.1.1 c.1) fun z=>
 Va (GK .i64 (1:Int) z.2.1) fun m=>
 bif !c.2.2.2.2.1 then
 Va
 (F158
 (a.1.1,a.1.2.1,a.1.2.2.1,((),a.1.2.2.2.1.2.1,a.1.2.2.2.1.2.2.1,()),a.1.2.2.2.2.1,()) k
 a.2.2)
 fun b=>
 bif !b.2 then
 some
 (.inl
 ((b.1.1,b.1.2.1,b.1.2.2.1,((),b.1.2.2.2.1.2.1,b.1.2.2.2.1.2.2.1,()),b.1.2.2.2.2.1,
 ()),
 (a.2.1.1,c.2.1,Wt .i64 a.2.1.2.2.1 m,a.2.1.2.2.2),Vb .i64 (a.2.2+(1:Int))))
 else
 Va (idx j.2.2.2.2.2.2.2.1 i) fun n=>
 Va (idx j.2.2.2.2.2.2.2.1 i) fun o=>
 Va (F162 g.2.2.2.2.2.1 (true,k,i,a.2.2,n.1,c.1,o.2.2.1,c.2.1,t,())) fun p=>
 Va
 (F150
 (b.1.1,b.1.2.1,b.1.2.2.1,((),b.1.2.2.2.1.2.1,b.1.2.2.2.1.2.2.1,()),
 b.1.2.2.2.2.1,())
 (((1:Int),c.1,k,a.2.2,(a.2.1.1,c.2.1,Wt .i64 a.2.1.2.2.1 m,a.2.1.2.2.2),()),c.2.1,
 g.2.2.1,g.2.2.2.1,g.2.2.2.2.1,p,g.2.2.2.2.2.2))
 fun d=>
 some
 (.inl
 ((d.1,d.2.1,d.2.2.1,((),d.2.2.2.1.2.1,d.2.2.2.1.2.2.1,()),d.2.2.2.2.1,()),
 (a.2.1.1,c.2.1,Wt .i64 a.2.1.2.2.1 m,a.2.1.2.2.2),
 Vb .i64 (a.2.2+(1:Int))))
 else
 Va (idx j.2.2.2.2.2.2.2.1 i) fun q=>
 Va (idx j.2.2.2.2.2.2.2.1 i) fun r=>
 Va (F162 g.2.2.2.2.2.1 (true,k,i,a.2.2,q.1,c.1,r.2.2.1,c.2.1,t,())) fun s=>
 Va
 (F150
 (a.1.1,a.1.2.1,a.1.2.2.1,((),a.1.2.2.2.1.2.1,a.1.2.2.2.1.2.2.1,()),a.1.2.2.2.2.1,())
 (((1:Int),c.1,k,a.2.2,(a.2.1.1,c.2.1,Wt .i64 a.2.1.2.2.1 m,a.2.1.2.2.2),()),c.2.1,
 g.2.2.1,g.2.2.2.1,g.2.2.2.2.1,s,g.2.2.2.2.2.2))
 fun e=>
 some
 (.inl
 ((e.1,e.2.1,e.2.2.1,((),e.2.2.2.1.2.1,e.2.2.2.1.2.2.1,()),e.2.2.2.2.1,()),
 (a.2.1.1,c.2.1,Wt .i64 a.2.1.2.2.1 m,a.2.1.2.2.2),
 Vb .i64 (a.2.2+(1:Int))))
 else
 some
 (.inr (a.1.1,a.1.2.1,a.1.2.2.1,((),a.1.2.2.2.1.2.1,a.1.2.2.2.1.2.2.1,()),a.1.2.2.2.2.1,())))
 ((h.1,h.2.1,h.2.2.1,((),h.2.2.2.1.2.1,h.2.2.2.1.2.2.1,()),h.2.2.2.2.1,()),
 (l.1,l.2.1,Wt .i64 l.2.2.1 y,Wt .i64 l.2.2.2.1 v,l.2.2.2.2),Vb .i64 (i+(1:Int))))
 fun f=>some (f.1,f.2.1,f.2.2.1,((),f.2.2.2.1.2.1,f.2.2.2.1.2.2.1,()),f.2.2.2.2.1,())
def F159E:Zm:=Kg 242 Tryz.f242 139 [F147E,F150E,F162E,F158E] (hS (hS (hS (hS (hS (.lp (en [(0,Yu),(11,.var W8 (.pd W8)),pd 13 Y3] [2,3,4,7,12]) [(.exit 0,en [(0,Yu)] [])] .leaf)))))) (.cons HF (.p KV (.p Y3 (.p Y3 (.p Y4 (.q W8)))))) .nil (u6 F159) (fun z=>((z,(),(),(),(),(),()),())) (fun y=>y.1.1)
def F151:(Jd)->(El KV)->(El Y3)->(El Y3)->Option (Jd):=fun a b f g=>
 bif decide (b.2.2.1=a.2.1.2.2.2.2.1) then
 some (a.1,a.2.1,a.2.2.1,((),a.2.2.2.1.2.1,a.2.2.2.1.2.2.1,()),a.2.2.2.2.1,())
 else
 Va (idx a.1.2.2.1 f) fun h=>
 Va (idx h.2.2.2.2.2.2.2.1 g) fun e=>
 Va
 (bif decide ((↑(Vc b.2.2.2.2.2.1):Int)=(1:Int)) then Va (idx b.2.2.2.2.2.1 (0:Int)) fun i=>some !i.1
 else some false)
 fun j=>
 Va
 (bif j then
 Va (idx b.2.2.2.2.2.1 (0:Int)) fun c=>
 some
 (b.1,b.2.1,Vb .i64 (b.2.2.1+(1:Int)),b.2.2.2.1,b.2.2.2.2.1,
 [(c.1,c.2.1,c.2.2.1,c.2.2.2.1,c.2.2.2.2.1,c.2.2.2.2.2.1,
 Vb .i64 (c.2.2.2.2.2.2.1+Vb .i64 (e.2.2.1 - c.2.2.2.2.2.2.2.1)),e.2.2.1,
 c.2.2.2.2.2.2.2.2)],
 ())
 else some (b.1,b.2.1,Vb .i64 (b.2.2.1+(1:Int)),b.2.2.2))
 fun k=>
 Va
 (F159 (a.1,a.2.1,a.2.2.1,((),a.2.2.2.1.2.1,a.2.2.2.1.2.2.1,()),a.2.2.2.2.1,()) k f g false
 (e.2.2.1,(0:Int),(0:Int),(0:Int),()))
 fun d=>some (d.1,d.2.1,d.2.2.1,((),d.2.2.2.1.2.1,d.2.2.2.1.2.2.1,()),d.2.2.2.2.1,())
def F151E:Zm:=Kg 208 Tryz.f208 71 [F147E,F159E] (hS (hS (hS (hS (.seq (.seq (.reg [(46,Y4)]) (.cnd (some ((en [] [0,2,3,8]),[(.normal,en [(5,.var KV (.pd KV))] [0,2,3,8])])) .leaf .leaf)) .leaf))))) (.cons HF (.p KV (.p Y3 (.q Y3)))) .nil (u4 F151) (fun z=>((z,(),(),(),()),())) (fun y=>y.1.1)
def F152:(Jd)->(El KV)->(El Y3)->Option (Jd):=fun c h k=>
 Va
 (run
 (fun s0=>
 bif decide (s0.2<(↑(Vc c.1.2.2.1):Int)) then
 Va (idx c.1.2.2.1 s0.2) fun i=>
 Va
 (run
 (fun a=>
 bif decide (a.2<(↑(Vc i.2.2.2.2.2.2.2.1):Int)) then
 Va (idx i.2.2.2.2.2.2.2.1 a.2) fun j=>
 Va
 (bif i.2.2.2.2.2.2.1 then some true
 else
 bif !j.2.2.2.1 then some true
 else
 bif !decide (j.1=h.1.2.1) then some true
 else some (decide (Vb .i64 (a.2+(1:Int))=(↑(Vc i.2.2.2.2.2.2.2.1):Int))))
 fun l=>
 bif l then
 some
 (.inl
 ((a.1.1,a.1.2.1,a.1.2.2.1,((),a.1.2.2.2.1.2.1,a.1.2.2.2.1.2.2.1,()),a.1.2.2.2.2.1,()),
 Vb .i64 (a.2+(1:Int))))
 else
 bif decide (k<=j.2.2.1) then
 Va
 (F151
 (a.1.1,a.1.2.1,a.1.2.2.1,((),a.1.2.2.2.1.2.1,a.1.2.2.2.1.2.2.1,()),a.1.2.2.2.2.1,()) h s0.2
 a.2)
 fun d=>
 some
 (.inl
 ((d.1,d.2.1,d.2.2.1,((),d.2.2.2.1.2.1,d.2.2.2.1.2.2.1,()),d.2.2.2.2.1,()),
 Vb .i64 (a.2+(1:Int))))
 else
 bif decide (h.2.1<=j.2.2.1) then
 Va
 (F155
 (a.1.1,a.1.2.1,a.1.2.2.1,((),a.1.2.2.2.1.2.1,a.1.2.2.2.1.2.2.1,()),a.1.2.2.2.2.1,()) h
 s0.2 a.2)
 fun b=>
 bif b.2 then
 Va
 (F151
 (b.1.1,b.1.2.1,b.1.2.2.1,((),b.1.2.2.2.1.2.1,b.1.2.2.2.1.2.2.1,()),b.1.2.2.2.2.1,()) h
 s0.2 a.2)
 fun e=>
 some
 (.inl
 ((e.1,e.2.1,e.2.2.1,((),e.2.2.2.1.2.1,e.2.2.2.1.2.2.1,()),e.2.2.2.2.1,()),
 Vb .i64 (a.2+(1:Int))))
 else
 some
 (.inl
 ((b.1.1,b.1.2.1,b.1.2.2.1,((),b.1.2.2.2.1.2.1,b.1.2.2.2.1.2.2.1,()),b.1.2.2.2.2.1,()),
 Vb .i64 (a.2+(1:Int))))
 else
 some
 (.inl
 ((a.1.1,a.1.2.1,a.1.2.2.1,((),a.1.2.2.2.1.2.1,a.1.2.2.2.1.2.2.1,()),a.1.2.2.2.2.1,()),
 Vb .i64 (a.2+(1:Int))))
 else
 some
 (.inr (a.1.1,a.1.2.1,a.1.2.2.1,((),a.1.2.2.2.1.2.1,a.1.2.2.2.1.2.2.1,()),a.1.2.2.2.2.1,())))
 ((s0.1.1,s0.1.2.1,s0.1.2.2.1,((),s0.1.2.2.2.1.2.1,s0.1.2.2.2.1.2.2.1,()),s0.1.2.2.2.2.1,()),(0:Int)))
 fun f=>
 some
 (.inl
 ((f.1,f.2.1,f.2.2.1,((),f.2.2.2.1.2.1,f.2.2.2.1.2.2.1,()),f.2.2.2.2.1,()),
 Vb .i64 (s0.2+(1:Int))))
 else some (.inr (s0.1.1,s0.1.2.1,s0.1.2.2.1,((),s0.1.2.2.2.1.2.1,s0.1.2.2.2.1.2.2.1,()),s0.1.2.2.2.2.1,())))
 ((c.1,c.2.1,c.2.2.1,((),c.2.2.2.1.2.1,c.2.2.2.1.2.2.1,()),c.2.2.2.2.1,()),(0:Int)))
 fun g=>some (g.1,g.2.1,g.2.2.1,((),g.2.2.2.1.2.1,g.2.2.2.1.2.2.1,()),g.2.2.2.2.1,())
def F152E:Zm:=Kg 163 Tryz.f163 77 [F147E,F155E,F151E] (hS (hS (.lp (en [(0,Yu),pd 16 Y3] [2,4,14,15]) [(.exit 0,en [(0,Yu)] [])] (hS (hS (.seq (hS (hS (.lp (en [(0,Yu),pd 24 Y3] [2,4,6,7,14,15,16,22,23]) [(.exit 2,en [(0,Yu)] [2,4,14,15,16])] (hS (hS (.seq (hS (.seq (.seq (.reg [(51,Y4)]) .leaf) .leaf)) .leaf)))))) .leaf)))))) (.cons HF (.p KV (.q Y3))) .nil (u3 F152) (fun z=>((z,(),(),()),())) (fun y=>y.1.1)
def F161:(Jd)->(El KV)->Option (Jd):=fun b a=>
 Va
 (run
 (fun s0=>
 bif decide (s0.2<(↑(Vc b.1.2.2.2.2.1):Int)) then
 Va (idx b.1.2.2.2.2.1 s0.2) fun c=>
 Va
 (bif !decide (c.1=a.1.2.1) then some true
 else
 bif decide (s0.1.2.1.2.2.2.2.2.1<Vb .i64 (a.2.2.2.1+c.2.2.1)) then some true
 else some (decide ((3155932800:Int)<Vb .i64 (a.2.1+c.2.2.1))))
 fun f=>
 bif f then
 some
 (.inl
 ((s0.1.1,s0.1.2.1,s0.1.2.2.1,((),s0.1.2.2.2.1.2.1,s0.1.2.2.2.1.2.2.1,()),s0.1.2.2.2.2.1,()),
 Vb .i64 (s0.2+(1:Int))))
 else
 Va
 (F162 a.2.2.2.2.2.1
 (false,(0:Int),(0:Int),(0:Int),a.1.2.1,c.2.1,a.2.1,Vb .i64 (a.2.1+c.2.2.1),false,()))
 fun g=>
 Va
 (F150 (s0.1.1,s0.1.2.1,s0.1.2.2.1,((),s0.1.2.2.2.1.2.1,s0.1.2.2.2.1.2.2.1,()),s0.1.2.2.2.2.1,())
 (((2:Int),c.2.1,(0:Int),(0:Int),((0:Int),(0:Int),(0:Int),(0:Int),()),()),Vb .i64 (a.2.1+c.2.2.1),a.2.2.1,
 Vb .i64 (a.2.2.2.1+c.2.2.1),a.2.2.2.2.1,g,a.2.2.2.2.2.2))
 fun d=>
 some
 (.inl
 ((d.1,d.2.1,d.2.2.1,((),d.2.2.2.1.2.1,d.2.2.2.1.2.2.1,()),d.2.2.2.2.1,()),
 Vb .i64 (s0.2+(1:Int))))
 else some (.inr (s0.1.1,s0.1.2.1,s0.1.2.2.1,((),s0.1.2.2.2.1.2.1,s0.1.2.2.2.1.2.2.1,()),s0.1.2.2.2.2.1,())))
 ((b.1,b.2.1,b.2.2.1,((),b.2.2.2.1.2.1,b.2.2.2.1.2.2.1,()),b.2.2.2.2.1,()),(0:Int)))
 fun e=>some (e.1,e.2.1,e.2.2.1,((),e.2.2.2.1.2.1,e.2.2.2.1.2.2.1,()),e.2.2.2.2.1,())
def F161E:Zm:=Kg 164 Tryz.f164 79 [F147E,F150E,F162E] (hS (hS (.lp (en [(0,Yu),pd 13 Y3] [3,11,12]) [(.exit 0,en [(0,Yu)] [])] (hS (hS (.seq (hS (.seq (.seq (.reg [(43,Y4)]) .leaf) .leaf)) .leaf)))))) (.cons HF (.q KV)) .nil (u2 F161) (fun z=>((z,(),()),())) (fun y=>y.1.1)
def F157:(Jd)->(El KV)->Option (Jd):=fun a d=>
 Va
 (run
 (fun s0=>
 bif decide (s0.2<(↑(Vc a.1.2.2.2.1):Int)) then
 Va (idx a.1.2.2.2.1 s0.2) fun e=>
 Va
 (bif !e.2.2.2.2.1 then some true
 else bif !decide (e.1=d.1.2.2.1) then some true else some !decide (e.2.1=d.1.2.2.2.1))
 fun g=>
 bif g then
 some
 (.inl
 ((s0.1.1,s0.1.2.1,s0.1.2.2.1,((),s0.1.2.2.2.1.2.1,s0.1.2.2.2.1.2.2.1,()),s0.1.2.2.2.2.1,()),
 Vb .i64 (s0.2+(1:Int))))
 else
 Va (idx s0.1.1.2.2.1 e.2.2.1) fun f=>
 Va
 (bif !f.2.2.2.2.2.2.1 then Va (idx f.2.2.2.2.2.2.2.1 (0:Int)) fun h=>some (decide (d.2.1<=h.2.2.1))
 else some false)
 fun i=>
 bif i then
 Va
 (F159
 (s0.1.1,s0.1.2.1,s0.1.2.2.1,((),s0.1.2.2.2.1.2.1,s0.1.2.2.2.1.2.2.1,()),s0.1.2.2.2.2.1,()) d
 e.2.2.1 (0:Int) true d.1.2.2.2.2.1)
 fun b=>
 some
 (.inl
 ((b.1,b.2.1,b.2.2.1,((),b.2.2.2.1.2.1,b.2.2.2.1.2.2.1,()),b.2.2.2.2.1,()),
 Vb .i64 (s0.2+(1:Int))))
 else
 some
 (.inl
 ((s0.1.1,s0.1.2.1,s0.1.2.2.1,((),s0.1.2.2.2.1.2.1,s0.1.2.2.2.1.2.2.1,()),s0.1.2.2.2.2.1,()),
 Vb .i64 (s0.2+(1:Int))))
 else some (.inr (s0.1.1,s0.1.2.1,s0.1.2.2.1,((),s0.1.2.2.2.1.2.1,s0.1.2.2.2.1.2.2.1,()),s0.1.2.2.2.2.1,())))
 ((a.1,a.2.1,a.2.2.1,((),a.2.2.2.1.2.1,a.2.2.2.1.2.2.1,()),a.2.2.2.2.1,()),(0:Int)))
 fun c=>some (c.1,c.2.1,c.2.2.1,((),c.2.2.2.1.2.1,c.2.2.2.1.2.2.1,()),c.2.2.2.2.1,())
def F157E:Zm:=Kg 204 Tryz.f204 67 [F147E,F159E] (hS (hS (.lp (en [(0,Yu),pd 13 Y3] [3,11,12]) [(.exit 0,en [(0,Yu)] [])] (hS (hS (.seq (hS (.seq (.seq (.reg [(35,Y4)]) .leaf) (hS (.seq (.reg [(57,Y4)]) .leaf)))) .leaf)))))) (.cons HF (.q KV)) .nil (u2 F157) (fun z=>((z,(),()),())) (fun y=>y.1.1)
def F21:(El WC)->(El W8)->Option (El WC×El ZA):=fun b n=>
 bif Vl b then some ([],(40:Int))
 else
 Va (Tr.unc b) fun _=>
 Va (Tr.unc b) fun x=>
 bif decide ((8:Int)<=x.2.2.2.1) then some ([],(33:Int))
 else
 Va (Tr.unc b) fun _=>
 Va (Tr.unc b) fun w=>
 Va (Tr.unc b) fun _=>
 Va (Tr.unc b) fun m=>
 Va (Tr.unc b) fun _=>
 Va (Tr.unc b) fun e=>
 Va (F22 ((w.1,n,Vb .i64 (m.2.2.2.1+(1:Int)),e.2.2.2.2.1,())::b)) fun l=>
 Va
 (run
 (fun c=>
 bif decide (c.2<(↑(Vc l):Int)) then
 Va (Tr.unc b) fun _=>
 Va (Tr.unc b) fun f=>
 Va f.1 fun _=>
 Va f.1 fun g=>
 Va
 (run
 (fun a=>
 bif decide (a.2<(↑(Vc g.1):Int)) then
 Va (idx g.1 a.2) fun h=>
 Va
 (Va (Zo c.2 (9:Nat)) fun o=>
 Va e.2.2.2.2.1[o]? fun p=>
 bif decide (p<(0:Int)) then some true
 else
 Va (sliceB (Vc l) (Vc l) (some c.2) none) fun d=>
 Va (F110 h (Vh (d.2 - d.1) (Vi d.1 l))) fun q=>some !q)
 fun r=>
 bif r then some (.inl (a.1,Vb .i64 (a.2+(1:Int))))
 else
 Va (Zo c.2 (9:Nat)) fun s=>
 Va e.2.2.2.2.1[s]? fun i=>
 Va
 (F24 ((w.1,n,Vb .i64 (m.2.2.2.1+(1:Int)),e.2.2.2.2.1,())::b)
 h l c.2)
 fun j=>
 Va
 (bif decide (a.1<(0:Int)) then some true
 else some (decide (Vb .i64 (i+j)<a.1)))
 fun t=>
 bif t then some (.inl (Vb .i64 (i+j),Vb .i64 (a.2+(1:Int))))
 else some (.inl (a.1,Vb .i64 (a.2+(1:Int))))
 else some (.inr a.1))
 (c.1,(0:Int)))
 fun u=>some (.inl (u,Vb .i64 (c.2+(1:Int))))
 else some (.inr c.1))
 ((-1:Int),(0:Int)))
 fun v=>
 Va (Zo (Vb .i64 (m.2.2.2.1+(1:Int))) (9:Nat)) fun k=>
 Va e.2.2.2.2.1[k]? fun _=>
 some ((w.1,n,Vb .i64 (m.2.2.2.1+(1:Int)),Vf e.2.2.2.2.1 k v,())::b,(0:Int))
def F21E:Zm:=Kg 205 Tryz.f205 103 [F110E,F22E,F24E] (hS (hS (hS (hS (hS (hS (.seq (hS (.lp (en [pd 8 Y3,pd 41 Y3] [0,6,7,40]) [(.exit 0,en [pd 8 Y3] [6])] (hS (hS (.seq (hS (hS (.lp (en [pd 8 Y3,pd 52 Y3] [0,6,7,9,40,41,50,51]) [(.exit 2,en [pd 8 Y3] [0,6,7,40,41])] (hS (hS (.seq (hS (.seq (.seq (.reg [(70,Y4)]) .leaf) (hS (.seq (.reg [(89,Y4)]) .leaf)))) .leaf)))))) .leaf))))) .leaf))))))) (.p WC (.q W8)) (.p WC (.q ZA)) (u2 F21) (fun z=>(((),(),()),(z.1,z.2,()))) (fun y=>(y.2.1,y.2.2.1)) (rws:=[183])
def F153:(Jd)->(El KV)->Option (Jd):=fun d b=>
 Va (F157 (d.1,d.2.1,d.2.2.1,((),d.2.2.2.1.2.1,d.2.2.2.1.2.2.1,()),d.2.2.2.2.1,()) b) fun a=>
 Va (idx a.1.2.2.1 b.1.2.2.1) fun i=>
 Va (idx i.2.2.2.2.2.2.2.1 b.1.2.2.2.1) fun j=>
 bif !j.2.2.2.2.1 then some (a.1,a.2.1,a.2.2.1,((),a.2.2.2.1.2.1,a.2.2.2.1.2.2.1,()),a.2.2.2.2.1,())
 else
 Va
 (bif decide (b.1.2.1=a.2.1.2.1) then
 Va (F154 (a.1,a.2.1,a.2.2.1,((),a.2.2.2.1.2.1,a.2.2.2.1.2.2.1,()),a.2.2.2.2.1,()) b) fun e=>
 some (e.1,e.2.1,e.2.2.1,((),e.2.2.2.1.2.1,e.2.2.2.1.2.2.1,()),e.2.2.2.2.1,())
 else some (a.1,a.2.1,a.2.2.1,((),a.2.2.2.1.2.1,a.2.2.2.1.2.2.1,()),a.2.2.2.2.1,()))
 fun c=>
 Va (F21 b.2.2.2.2.1 b.1.2.2.2.2.1) fun h=>
 bif !decide (h.2=(0:Int)) then
 some (c.1,c.2.1,c.2.2.1,((),c.2.2.2.1.2.1,c.2.2.2.1.2.2.1,()),c.2.2.2.2.1,())
 else
 Va (idx c.1.1 b.1.2.1) fun k=>
 Va
 (F152 (c.1,c.2.1,c.2.2.1,((),c.2.2.2.1.2.1,c.2.2.2.1.2.2.1,()),c.2.2.2.2.1,())
 (b.1,b.2.1,b.2.2.1,b.2.2.2.1,h.1,b.2.2.2.2.2) (Vb .i64 (b.2.1+k.2.2.2.1)))
 fun f=>
 Va
 (F161 (f.1,f.2.1,f.2.2.1,((),f.2.2.2.1.2.1,f.2.2.2.1.2.2.1,()),f.2.2.2.2.1,())
 (b.1,b.2.1,b.2.2.1,b.2.2.2.1,h.1,b.2.2.2.2.2))
 fun g=>some (g.1,g.2.1,g.2.2.1,((),g.2.2.2.1.2.1,g.2.2.2.1.2.2.1,()),g.2.2.2.2.1,())
def F153E:Zm:=Kg 161 Tryz.f161 72 [F147E,F154E,F152E,F161E,F157E,F21E] (hS (hS (hS (.seq (hS (.cnd (some ((en [] [3]),[(.normal,en [(0,Yu)] [3])])) .leaf .leaf)) .leaf)))) (.cons HF (.q KV)) .nil (u2 F153) (fun z=>((z,(),()),())) (fun y=>y.1.1)
def F160:(Jd)->(El KV)->Option (Jd):=fun a b=>
 bif decide (b.1.1=(1:Int)) then
 Va (F153 (a.1,a.2.1,a.2.2.1,((),a.2.2.2.1.2.1,a.2.2.2.1.2.2.1,()),a.2.2.2.2.1,()) b) fun d=>
 some (d.1,d.2.1,d.2.2.1,((),d.2.2.2.1.2.1,d.2.2.2.1.2.2.1,()),d.2.2.2.2.1,())
 else
 bif decide (b.1.1=(2:Int)) then
 Va
 (bif decide (b.1.2.1=a.2.1.2.1) then
 Va (F154 (a.1,a.2.1,a.2.2.1,((),a.2.2.2.1.2.1,a.2.2.2.1.2.2.1,()),a.2.2.2.2.1,()) b) fun e=>
 some (e.1,e.2.1,e.2.2.1,((),e.2.2.2.1.2.1,e.2.2.2.1.2.2.1,()),e.2.2.2.2.1,())
 else some (a.1,a.2.1,a.2.2.1,((),a.2.2.2.1.2.1,a.2.2.2.1.2.2.1,()),a.2.2.2.2.1,()))
 fun f=>
 Va (F152 (f.1,f.2.1,f.2.2.1,((),f.2.2.2.1.2.1,f.2.2.2.1.2.2.1,()),f.2.2.2.2.1,()) b b.2.1)
 fun g=>some (g.1,g.2.1,g.2.2.1,((),g.2.2.2.1.2.1,g.2.2.2.1.2.2.1,()),g.2.2.2.2.1,())
 else
 Va
 (bif decide (b.1.2.1=a.2.1.2.1) then
 Va (F154 (a.1,a.2.1,a.2.2.1,((),a.2.2.2.1.2.1,a.2.2.2.1.2.2.1,()),a.2.2.2.2.1,()) b) fun h=>
 some (h.1,h.2.1,h.2.2.1,((),h.2.2.2.1.2.1,h.2.2.2.1.2.2.1,()),h.2.2.2.2.1,())
 else some (a.1,a.2.1,a.2.2.1,((),a.2.2.2.1.2.1,a.2.2.2.1.2.2.1,()),a.2.2.2.2.1,()))
 fun c=>
 Va
 (bif c.2.1.2.2.2.2.2.2.2.2.2.1 then
 Va (idx c.1.1 b.1.2.1) fun k=>some (Vb .i64 (b.2.1+k.2.2.2.1))
 else some b.2.1)
 fun l=>
 Va (F152 (c.1,c.2.1,c.2.2.1,((),c.2.2.2.1.2.1,c.2.2.2.1.2.2.1,()),c.2.2.2.2.1,()) b l) fun i=>
 Va (F161 (i.1,i.2.1,i.2.2.1,((),i.2.2.2.1.2.1,i.2.2.2.1.2.2.1,()),i.2.2.2.2.1,()) b) fun j=>
 some (j.1,j.2.1,j.2.2.1,((),j.2.2.2.1.2.1,j.2.2.2.1.2.2.1,()),j.2.2.2.2.1,())
def F160E:Zm:=Kg 114 Tryz.f114 71 [F147E,F153E,F154E,F152E,F161E] (hS (hS (hS (.cnd none .leaf (hS (.cnd none (.seq (hS (.cnd (some ((en [] [3]),[(.normal,en [(0,Yu)] [3])])) .leaf .leaf)) .leaf) (.seq (hS (.cnd (some ((en [] [3]),[(.normal,en [(0,Yu)] [3])])) .leaf .leaf)) (hS (.seq (hS (.cnd (some ((en [] [0,3]),[(.normal,en [pd 4 Y3] [0,3])])) .leaf .leaf)) .leaf))))))))) (.cons HF (.q KV)) .nil (u2 F160) (fun z=>((z,(),()),())) (fun y=>y.1.1)
def F156:(Jd)->(El WC)->Option (Jd):=fun b h=>
 Va
 (F150 (b.1,b.2.1,b.2.2.1,((),b.2.2.2.1.2.1,b.2.2.2.1.2.2.1,()),b.2.2.2.2.1,())
 (((0:Int),b.2.1.1,(0:Int),(0:Int),((0:Int),(0:Int),(0:Int),(0:Int),()),()),b.2.1.2.2.1,(0:Int),(0:Int),h,([]:List (El JR)),()))
 fun c=>
 Va
 (run
 (fun a=>
 Va (F61 ((),a.2.2.2.1.2.1,a.2.2.2.1.2.2.1,())) fun f=>
 bif decide ((0:Int)<f.2) then
 Va (F63 ((),f.1.2.1,f.1.2.2.1,())) fun g=>
 Va (F160 (a.1,a.2.1,a.2.2.1,((),g.1.2.1,g.1.2.2.1,()),a.2.2.2.2.1,()) g.2.1) fun d=>
 some (.inl (d.1,d.2.1,d.2.2.1,((),d.2.2.2.1.2.1,d.2.2.2.1.2.2.1,()),d.2.2.2.2.1,()))
 else some (.inr (a.1,a.2.1,a.2.2.1,((),f.1.2.1,f.1.2.2.1,()),a.2.2.2.2.1,())))
 (c.1,c.2.1,c.2.2.1,((),c.2.2.2.1.2.1,c.2.2.2.1.2.2.1,()),c.2.2.2.2.1,()))
 fun e=>some (e.1,e.2.1,e.2.2.1,((),e.2.2.2.1.2.1,e.2.2.2.1.2.2.1,()),e.2.2.2.2.1,())
def F156E:Zm:=Kg 70 Tryz.f70 38 [F147E,F150E,F61E,F63E,F160E] (hS (.lp (en [(0,Yu)] []) [(.exit 0,en [(0,Yu)] [])] .leaf)) (.cons HF (.q WC)) .nil (u2 F156) (fun z=>((z,(),()),())) (fun y=>y.1.1) (rws:=[138])
def F81:(El Ki)->(El DS)->Option (El KP):=fun b a=>
 bif b.2.2.2.1 then
 some (Vf [a.2.1,a.2.2.1,a.2.2.2.1,a.2.2.2.2.1] (Vd (0:Int)) (Vb .i64 ((0:Int) - a.1)))
 else some [a.2.1,a.2.2.1,a.2.2.2.1,a.2.2.2.2.1]
def F81E:Zm:=ZK 34 Tryz.f34 22 [] .leaf (.p Ki (.q DS)) (.pd KP) (u2 F81)
def F102:(El KP)->(El KP)->Option (El Y3):=fun b c=>
 Va (Tr.eqEl.eqs (Tr.eqEl (Tr.Ty.int .i64)) b c) fun f=>
 bif f then some (0:Int)
 else
 Va
 (run
 (fun a=>
 bif decide (a<(4:Int)) then
 Va (Zo a (4:Nat)) fun g=>
 Va b[g]? fun h=>
 Va (Zo a (4:Nat)) fun i=>
 Va c[i]? fun j=>
 bif decide (h<j) then some (.inr (.inr (-1:Int)))
 else
 Va (Zo a (4:Nat)) fun k=>
 Va b[k]? fun l=>
 Va (Zo a (4:Nat)) fun m=>
 Va c[m]? fun n=>
 bif decide (n<l) then some (.inr (.inr (1:Int))) else some (.inl (Vb .i64 (a+(1:Int))))
 else some (.inr (.inl ())))
 (0:Int))
 fun d=>Vk (fun _=>some (0:Int)) (fun e=>some e) d
def F102E:Zm:=ZK 66 Tryz.f66 27 [] (hS (hS (.seq (hS (.lp (en [pd 9 Y3] [2,3]) [(.exit 0,e0),(.ret,en [pd 4 Y3] [])] .leaf)) .leaf))) (.p KP (.q KP)) (.pd Y3) (u2 F102)
end
end Q

