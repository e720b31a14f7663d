/- The functions of the program as functions of Lean, and that the program computes them; printed by a program of mine. Conditions: none. -/
import Derived.KernelRfl
import Derived.Test.YtdpenljjnfmgiaaGreatProg
import Derived.Test.YtdpenljjnfmgiaaGreatFin45f
import Derived.Test.YtdpenljjnfmgiaaGreatETsF
import Derived.Test.YtdpenljjnfmgiaaGreatLay45
import Derived.Test.YtdpenljjnfmgiaaGreatSam45
open Tr Go Go.Proofs Tryz
open Int renaming toNat ->Vf
open Go.IntKind renaming wrap ->Vc
open List renaming length ->R,replicate ->Vd,take ->Ve,set ->Vg,drop ->Vh
open Option renaming bind ->C,map ->Vj
open Sum renaming elim ->Vi
open Option renaming some ->J,none ->Ub
open Bool renaming true ->Uc,false ->Ud
open Decidable renaming decide ->U
namespace Qn
open Q
noncomputable section
abbrev Y3:Ty:=.int .i64
abbrev Y4:Ty:=.bool
abbrev Y9:Ty:=.str
abbrev Zab:Ty:=.prod Y9 (.prod Y3 (.prod Y4 (.prod Y3 .unit)))
abbrev Xn:Ty:=.sl Zab
abbrev Zac:Ty:=.prod Y9 (.prod Y3 (.prod Y4 .unit))
abbrev Xo:Ty:=.sl Zac
abbrev G4:Ty:=.prod Y3 (.prod Y3 (.prod Y3 (.prod Y4 (.prod Y4 .unit))))
abbrev Xc:Ty:=.sl G4
abbrev XJ:Ty:=.prod Y3 (.prod Y3 (.prod Y3 (.prod Y9 (.prod Y3 (.prod Y4 (.prod Y4 (.prod Xc .unit)))))))
abbrev Rt:Ty:=.sl XJ
abbrev YS:Ty:=.prod Y3 (.prod Y3 (.prod Y3 (.prod Y3 (.prod Y4 .unit))))
abbrev Ru:Ty:=.sl YS
abbrev K8:Ty:=.prod Y3 (.prod Y3 (.prod Y3 (.prod Y4 .unit)))
abbrev Wx:Ty:=.sl K8
abbrev JX:Ty:=.prod Y9 (.prod Y3 (.prod Y3 (.prod Y3 (.prod Y3 (.prod Y3 .unit)))))
abbrev HD:Ty:=.sl JX
abbrev KL:Ty:=.prod HD (.prod Y3 (.prod Y3 (.prod Y3 .unit)))
abbrev Zh:Ty:=.prod Xn (.prod Xo (.prod Rt (.prod Ru (.prod Wx (.prod KL .unit)))))
abbrev Zk:Ty:=.prod Y3 (.prod Y3 (.prod Y3 (.prod Y4 (.prod Y3 (.prod Y3 (.prod Y4 (.prod Y4 (.prod Y3 (.prod Y4 .unit)))))))))
abbrev KZ:Ty:=.prod Y4 (.prod Y3 (.prod Y3 (.prod Y3 (.prod Y3 (.prod Y3 (.prod Y3 (.prod Y3 (.prod Y4 .unit))))))))
abbrev Xa:Ty:=.sl KZ
abbrev Jl:Ty:=.sl Y3
abbrev JK:Ty:=.pt KL
abbrev WS:Ty:=.prod Y3 (.prod Y3 (.prod Y3 (.prod Y3 .unit)))
abbrev DJ:Ty:=.arr 9 Y3
abbrev Wn:Ty:=.lk JK (.prod WS (.prod Y3 (.prod DJ .unit)))
abbrev Y94:Ty:=.prod Y3 (.prod Y3 (.prod Y3 (.prod Y3 (.prod Y3 (.prod Y4 (.prod Wn (.prod Xa .unit)))))))
abbrev Y91:Ty:=.pn Y94
abbrev Wm:Ty:=.sl Y91
abbrev Wl:Ty:=.sl WS
abbrev ZC:Ty:=.sl Jl
abbrev Zbd:Ty:=.sl Wm
abbrev Zad:Ty:=.prod Zh (.prod Zk (.prod ZC (.prod Zbd (.prod Wm (.prod Wm .unit)))))
abbrev H5:Ty:=.int .u64
abbrev Zd2:Ty:=.prod JK (.prod Wn (.prod WS (.prod Y3 (.prod DJ .unit))))
abbrev HE:Ty:=.prod Y3 (.prod Y3 (.prod Y3 (.prod Y3 (.prod H5 .unit))))
abbrev Zcy:Ty:=.sl HE
def tyTab:List (Nat×Ty):=[(3,Y3),(4,Y4),(9,Y9),(128,Zab),(22,Xn),(130,Zac),(23,Xo),(145,G4),(76,Xc),(78,XJ),(24,Rt),(199,YS),(25,Ru),(141,K8),(26,Wx),(133,JX),(27,HD),(29,KL),(31,Zh),(33,Zk),(82,KZ),(46,Xa),(87,Jl),(206,JK),(173,WS),(207,DJ),(92,Wn),(94,Y94),(91,Y91),(89,Wm),(111,Wl),(153,ZC),(154,Zbd),(156,Zad),(184,H5),(209,Zd2),(322,HE),(319,Zcy)]
def mapTab:List (Nat×Ty×Ty):=[]
def pkTab:List (Nat×Nat):=[(92,1)]
def bdTab:List (Nat×Nat):=[]
theorem K9:Tryz.prog.follows .mixedOrders=true:=by kernel_rfl
theorem tab_ok:HT Tryz.prog tyTab mapTab pkTab bdTab=true:=by kernel_rfl
def F111:(El Y91)->(El Y91)->Option (El Y4):=fun a b=>
 C
 (C a fun _=>
 C a fun l=>
 C b fun _=>
 C b fun m=>
 bif U (m.2.2.1<l.2.2.1) then J Uc
 else
 C a fun _=>
 C a fun n=>
 C b fun _=>
 C b fun o=>
 bif U (o.2.2.2.1<n.2.2.2.1) then J Uc
 else
 C a fun _=>
 C a fun p=>
 C b fun _=>
 C b fun c=>
 bif U (c.2.2.2.2.1<p.2.2.2.2.1) then J Uc
 else
 C a fun _=>
 C a fun d=>
 C b fun _=>
 C b fun e=>
 bif U (e.2.2.2.2.2.1<d.2.2.2.2.2.1) then J Uc
 else
 C a fun _=>
 C a fun f=>
 bif !f.2.2.2.2.2.2.1 then C b fun _=>C b fun g=>J g.2.2.2.2.2.2.1
 else J Ud)
 fun h=>
 bif h then J Ud
 else
 C a fun _=>
 C a fun i=>
 C b fun _=>
 C b fun j=>C (F20 i.2.2.2.2.2.2.2.1 j.2.2.2.2.2.2.2.1) fun k=>J k
def F111S:Tr.Spec:= {args:=(.cons (.pd Y91) (.cons (.pd Y91) .nil)),res:=(.cons (.pd Y4) .nil),fns:=[],α:=El Y4,f:=fun x=>F111 x.1 x.2.1,unp:=fun z=>(((),(),()),(z,()))}
theorem F111_ok:ZS Tryz.prog 195 F111S:=WZ (rws:=[]) (zxs:=[]) (nt:=69) (m:=[(228,[F20E.S])]) (fn:=f195) (hint:=(hS (.seq (.seq (.reg [(59,Y4)]) .leaf) .leaf))) (pack:=fun y=>y.2.1) K9 tab_ok ⟨⟨F20E.ok,trivial⟩,trivial⟩ fun x z h=>.trans (by kernel_rfl) h
def F178:(El Wm)->((El Y91×Unit))->Option (El Y3):=fun a b=>
 C
 (run
 (fun s0=>
 bif U (s0<(↑(R a):Int)) then
 C (idx a s0) fun c=>
 C (F111 b.1 c) fun d=>bif d then J (.inr (.inr s0)) else J (.inl (Vc .i64 (s0+(1:Int))))
 else J (.inr (.inl ())))
 (0:Int))
 fun e=>Vi (fun _=>J (-1:Int)) (fun f=>J f) e
def F178S:Tr.Spec:= {args:=(.cons (.pd Wm) (.cons (.fn 1195 (.cons (.pd Y91) .nil)) .nil)),res:=(.cons (.pd Y3) .nil),fns:=[1195],α:=El Y3,f:=fun x=>F178 x.1 x.2.1,unp:=fun z=>(((),((),()),()),(z,()))}
theorem F178_ok:ZS Tryz.prog 229 F178S:=WZ (rws:=[]) (zxs:=[]) (nt:=19) (m:=[(195,[F111S])]) (fn:=f229) (hint:=(hS (.seq (hS (.lp (en [pd 8 Y3] [0,1,7]) [(.exit 0,en [] [1]),(.ret,en [pd 4 Y3] [1])] .leaf)) .leaf))) (pack:=fun y=>y.2.1) K9 tab_ok ⟨⟨F111_ok,trivial⟩,trivial⟩ fun x z h=>.trans (by kernel_rfl) h
def F176:(List (El Y91))->((El Y91×Unit))->Option (List (El Y91)):=fun d g=>
 C (F178 d g) fun e=>
 bif U (e=(-1:Int)) then J d
 else
 C
 (run
 (fun b=>
 bif U (b.2.2<(↑(R b.1):Int)) then
 C (Zs b.2.2 (R b.1)) fun j=>
 C b.1[j]? fun h=>
 C (F111 g.1 h) fun k=>
 bif !k then
 C (Zs b.2.1 (R b.1)) fun i=>
 C b.1[i]? fun _=>
 J (.inl (Vg b.1 i h,Vc .i64 (b.2.1+(1:Int)),Vc .i64 (b.2.2+(1:Int))))
 else J (.inl (b.1,b.2.1,Vc .i64 (b.2.2+(1:Int))))
 else J (.inr (b.1,b.2.1)))
 (d,e,Vc .i64 (e+(1:Int))))
 fun c=>
 C (sliceB (R c.1) (R c.1) (J c.2) Ub) fun a=>
 C (Zz (U (a.1+(a.2 - a.1)<=R c.1))) fun _=>
 C
 (sliceB (R (Ve a.1 c.1++Vd (a.2 - a.1) (Tr.zeroEl Y91)++Vh (a.1+(a.2 - a.1)) c.1))
 (R (Ve a.1 c.1++Vd (a.2 - a.1) (Tr.zeroEl Y91)++Vh (a.1+(a.2 - a.1)) c.1)) Ub (J c.2))
 fun f=>J (Ve f.2 (Ve a.1 c.1++Vd (a.2 - a.1) (Tr.zeroEl Y91)++Vh (a.1+(a.2 - a.1)) c.1))
def F176S:Tr.Spec:= {args:=(.cons (.own Y91 Ud) (.cons (.fn 1195 (.cons (.pd Y91) .nil)) .nil)),res:=(.cons (.own Y91 Ud) .nil),fns:=[1195],α:=List (El Y91),f:=fun x=>F176 x.1 x.2.1,unp:=fun z=>(((),((),()),()),(z,()))}
theorem F176_ok:ZS Tryz.prog 196 F176S:=WZ (rws:=[]) (zxs:=[]) (nt:=42) (m:=[(195,[F111S]),(229,[F178S])]) (fn:=f196) (hint:=(hS (hS (hS (.seq (hS (.lp (en [(0,.own Y91 Ud),pd 5 Y3,pd 6 Y3] [1]) [(.exit 0,en [(0,.own Y91 Ud),pd 5 Y3] [1])] .leaf)) .leaf))))) (pack:=fun y=>y.2.1) K9 tab_ok ⟨⟨F111_ok,trivial⟩,⟨F178_ok,trivial⟩,trivial⟩ fun x z h=>.trans (by kernel_rfl) h
def F105:((El Zh×El Zk×El ZC×List (List (El Y91)) ×List (El Y91) ×List (El Y91) ×Unit))->(El Y91)->Option ((El Zh×El Zk×El ZC×List (List (El Y91)) ×List (El Y91) ×List (El Y91) ×Unit)):=fun a b=>
 C b fun _=>
 C b fun l=>
 C (Zs l.2.1 (R a.2.2.2.1)) fun e=>
 C a.2.2.2.1[e]? fun _=>
 C (idx a.2.2.2.1 (↑e:Int)) fun m=>
 C
 (run
 (fun f=>
 bif U (f<(↑(R m):Int)) then
 C (idx a.2.2.2.1 (↑e:Int)) fun n=>
 C (Zs f (R n)) fun o=>
 C (idx a.2.2.2.1 (↑e:Int)) fun p=>
 C p[o]? fun q=>
 C (F111 q b) fun g=>
 bif g then J (.inr (.inr ())) else J (.inl (Vc .i64 (f+(1:Int))))
 else J (.inr (.inl ())))
 (0:Int))
 fun h=>
 Vi
 (fun _=>
 C (idx a.2.2.2.1 (↑e:Int)) fun i=>
 C b fun _=>
 C b fun j=>
 C (F176 i (b,())) fun d=>
 C (Zz (U (R d+R [b]<=ZD))) fun _=>
 C (Zs j.2.1 (R a.2.2.2.1)) fun c=>
 C (Zz (RR (J (Vf (↑e:Int))) c)) fun _=>
 C a.2.2.2.1[c]? fun _=>
 C (Zz (U (R a.2.2.2.2.1+R [b]<=ZD))) fun _=>
 C b fun _=>
 C b fun k=>
 bif U (k.2.1=a.2.1.2.1) then
 C (Zz (U (R a.2.2.2.2.2.1+R [b]<=ZD))) fun _=>
 J
 (a.1,a.2.1,a.2.2.1,Vg a.2.2.2.1 c (d++[b]),a.2.2.2.2.1++[b],a.2.2.2.2.2.1++[b],
 ())
 else
 J
 (a.1,a.2.1,a.2.2.1,Vg a.2.2.2.1 c (d++[b]),a.2.2.2.2.1++[b],a.2.2.2.2.2.1,()))
 (fun _=>J a) h
abbrev F105A:Pats:=(.cons (.var Zad (.agg (.cons (.pd Zh) (.cons (.pd Zk) (.cons (.pd ZC) (.cons (.rows Y91 Ud) (.cons (.owo Y94) (.cons (.own Y91 Ud) .nil)))))))) (.cons (.pd Y91) .nil))
abbrev F105R:Pats:=.nil
def F105S:Tr.Spec:= {args:=F105A,res:=F105R,fns:=[],α:=(El Zh×El Zk×El ZC×List (List (El Y91)) ×List (El Y91) ×List (El Y91) ×Unit),f:=fun x=>F105 x.1 x.2.1,unp:=fun z=>((z,(),()),())}
theorem F105_ok:ZS Tryz.prog 131 F105S:=WZ (rws:=[154]) (zxs:=[]) (nt:=73) (m:=[(195,[F111S]),(196,[F176S])]) (fn:=f131) (hint:=(hS (.seq (hS (.lp (en [pd 19 Y3] [0,1,4,17,18]) [(.exit 0,en [] [0,1,4]),(.ret,en [] [0])] .leaf)) (.det 4 .leaf .leaf)))) (pack:=fun y=>y.1.1) K9 tab_ok ⟨⟨F111_ok,trivial⟩,⟨F176_ok,trivial⟩,trivial⟩ fun x z h=>.trans (by kernel_rfl) h
def F113:(El Zh)->(El Zk)->Option (ZO Zh Zk ZC Y94):=fun b j=>
 C
 (Zz
 (decide
 ((0:El (Tr.Ty.int .i64))<=(↑(R b.2.2.1):Int)/\
 (↑(R b.2.2.1):Int)<=(↑(R b.2.2.1):Int)/\(↑(R b.2.2.1):Int)<=(↑ZD:El (Tr.Ty.int .i64)))))
 fun _=>
 C
 (Zz
 (decide
 ((0:El (Tr.Ty.int .i64))<=(↑(R b.1):Int)/\
 (↑(R b.1):Int)<=(↑(R b.1):Int)/\(↑(R b.1):Int)<=(↑ZD:El (Tr.Ty.int .i64)))))
 fun _=>
 C
 (run
 (fun a=>
 bif U (a.2<(↑(R b.2.2.2.1):Int)) then
 C (idx b.2.2.2.1 a.2) fun h=>
 C (Zs h.1 (R a.1.2.2.1)) fun f=>
 C a.1.2.2.1[f]? fun _=>
 C (idx a.1.2.2.1 (↑f:Int)) fun i=>
 C (Zz (U (R i+R [a.2]<=ZD))) fun _=>
 C (Zs h.1 (R a.1.2.2.1)) fun g=>
 C (Zz (RR (J (Vf (↑f:Int))) g)) fun _=>
 C a.1.2.2.1[g]? fun _=>
 J
 (.inl
 ((a.1.1,a.1.2.1,Vg a.1.2.2.1 g (i++[a.2]),a.1.2.2.2.1,a.1.2.2.2.2.1,a.1.2.2.2.2.2.1,
 ()),
 Vc .i64 (a.2+(1:Int))))
 else J (.inr a.1))
 ((b,j,Vd (Vf (↑(R b.2.2.1):Int)) [],Vd (Vf (↑(R b.1):Int)) [],[],[],()),(0:Int)))
 fun c=>
 C
 (C (Tr.untag (c.1,c.2.1,c.2.2.1,c.2.2.2.1,c.2.2.2.2.1,c.2.2.2.2.2.1)) fun d=>
 J ((Tr.outDef (Tr.Pat.pd Zh),Tr.outDef (Tr.Pat.pd Zk),()),d,()))
 fun e=>J e.2.1
def F113S:Tr.Spec:= {args:=(.cons (.pd Zh) (.cons (.pd Zk) .nil)),res:=(.cons (.fnd Zh Zk ZC Y94) .nil),fns:=[],α:=ZO Zh Zk ZC Y94,f:=fun x=>F113 x.1 x.2.1,unp:=fun z=>(((),(),()),(z,()))}
theorem F113_ok:ZS Tryz.prog 77 F113S:=WZ (rws:=[154,153]) (zxs:=[156]) (nt:=48) (m:=[]) (fn:=f77) (hint:=(hS (hS (.seq (hS (.lp (en [(5,(.var Zad (.agg (.cons (.pd Zh) (.cons (.pd Zk) (.cons (.rows Y3 Ud) (.cons (.rows Y91 Ud) (.cons (.owo Y94) (.cons (.own Y91 Ud) .nil))))))))),pd 23 Y3] [21,22]) [(.exit 0,en [(5,(.var Zad (.agg (.cons (.pd Zh) (.cons (.pd Zk) (.cons (.rows Y3 Ud) (.cons (.rows Y91 Ud) (.cons (.owo Y94) (.cons (.own Y91 Ud) .nil)))))))))] [])] .leaf)) .leaf)))) (pack:=fun y=>y.2.1) K9 tab_ok trivial fun x z h=>.trans (by kernel_rfl) h
def F180:(El Wm)->(El Y91)->Option (El Y3):=fun a b=>
 C
 (run
 (fun s0=>
 bif U (s0<(↑(R a):Int)) then
 C (idx a s0) fun c=>
 bif U (Vj Prod.fst b=Vj Prod.fst c) then J (.inr (.inr s0)) else J (.inl (Vc .i64 (s0+(1:Int))))
 else J (.inr (.inl ())))
 (0:Int))
 fun d=>Vi (fun _=>J (-1:Int)) (fun e=>J e) d
def F180S:Tr.Spec:= {args:=(.cons (.pd Wm) (.cons (.pd Y91) .nil)),res:=(.cons (.pd Y3) .nil),fns:=[],α:=El Y3,f:=fun x=>F180 x.1 x.2.1,unp:=fun z=>(((),(),()),(z,()))}
theorem F180_ok:ZS Tryz.prog 130 F180S:=WZ (rws:=[]) (zxs:=[]) (nt:=19) (m:=[]) (fn:=f130) (hint:=(hS (.seq (hS (.lp (en [pd 8 Y3] [0,1,7]) [(.exit 0,e0),(.ret,en [pd 4 Y3] [])] .leaf)) .leaf))) (pack:=fun y=>y.2.1) K9 tab_ok trivial fun x z h=>.trans (by kernel_rfl) h
def F174:(El Wm)->(El Y91)->Option (El Y4):=fun a b=>C (F180 a b) fun c=>J (U ((0:Int)<=c))
def F174S:Tr.Spec:= {args:=(.cons (.pd Wm) (.cons (.pd Y91) .nil)),res:=(.cons (.pd Y4) .nil),fns:=[],α:=El Y4,f:=fun x=>F174 x.1 x.2.1,unp:=fun z=>(((),(),()),(z,()))}
theorem F174_ok:ZS Tryz.prog 80 F174S:=WZ (rws:=[]) (zxs:=[]) (nt:=9) (m:=[(130,[F180S])]) (fn:=f80) (hint:=.leaf) (pack:=fun y=>y.2.1) K9 tab_ok ⟨⟨F180_ok,trivial⟩,trivial⟩ fun x z h=>.trans (by kernel_rfl) h
end
end Qn

