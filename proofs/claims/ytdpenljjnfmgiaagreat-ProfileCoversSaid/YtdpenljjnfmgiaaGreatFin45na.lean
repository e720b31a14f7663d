/- The functions of the program as functions of Lean, and that the program computes them; printed by a program of mine. Conditions: none. -/
import Derived.KernelRfl
import Derived.Test.YtdpenljjnfmgiaaGreatProg
import Derived.Test.YtdpenljjnfmgiaaGreatFin45f
import Derived.Test.YtdpenljjnfmgiaaGreatETsF
import Derived.Test.YtdpenljjnfmgiaaGreatLay45
import Derived.Test.YtdpenljjnfmgiaaGreatSam45
open Tr Go Go.Proofs Tryz
open Int renaming toNat ->Vf
open Go.IntKind renaming wrap ->Vc
open List renaming length ->R,replicate ->Vd,take ->Ve,set ->Vg,drop ->Vh
open Option renaming bind ->C,map ->Vj
open Sum renaming elim ->Vi
open Option renaming some ->J,none ->Ub
open Bool renaming true ->Uc,false ->Ud
open Decidable renaming decide ->U
namespace Qn
open Q
noncomputable section
abbrev Y3:Ty:=.int .i64
abbrev Y4:Ty:=.bool
abbrev Y9:Ty:=.str
abbrev Zag:Ty:=.prod Y9 (.prod Y3 (.prod Y4 (.prod Y3 .unit)))
abbrev Xv:Ty:=.sl Zag
abbrev Zah:Ty:=.prod Y9 (.prod Y3 (.prod Y4 .unit))
abbrev Xw:Ty:=.sl Zah
abbrev Dr:Ty:=.prod Y3 (.prod Y3 (.prod Y3 (.prod Y4 (.prod Y4 .unit))))
abbrev Xj:Ty:=.sl Dr
abbrev XQ:Ty:=.prod Y3 (.prod Y3 (.prod Y3 (.prod Y9 (.prod Y3 (.prod Y4 (.prod Y4 (.prod Xj .unit)))))))
abbrev RB:Ty:=.sl XQ
abbrev YO:Ty:=.prod Y3 (.prod Y3 (.prod Y3 (.prod Y3 (.prod Y4 .unit))))
abbrev RC:Ty:=.sl YO
abbrev Wd:Ty:=.prod Y3 (.prod Y3 (.prod Y3 (.prod Y4 .unit)))
abbrev WB:Ty:=.sl Wd
abbrev J2:Ty:=.prod Y9 (.prod Y3 (.prod Y3 (.prod Y3 (.prod Y3 (.prod Y3 .unit)))))
abbrev HJ:Ty:=.sl J2
abbrev KJ:Ty:=.prod HJ (.prod Y3 (.prod Y3 (.prod Y3 .unit)))
abbrev Zh:Ty:=.prod Xv (.prod Xw (.prod RB (.prod RC (.prod WB (.prod KJ .unit)))))
abbrev Zk:Ty:=.prod Y3 (.prod Y3 (.prod Y3 (.prod Y4 (.prod Y3 (.prod Y3 (.prod Y4 (.prod Y4 (.prod Y3 (.prod Y4 .unit)))))))))
abbrev K3:Ty:=.prod Y4 (.prod Y3 (.prod Y3 (.prod Y3 (.prod Y3 (.prod Y3 (.prod Y3 (.prod Y3 (.prod Y4 .unit))))))))
abbrev Xi:Ty:=.sl K3
abbrev Jp:Ty:=.sl Y3
abbrev JK:Ty:=.pt KJ
abbrev W0:Ty:=.prod Y3 (.prod Y3 (.prod Y3 (.prod Y3 .unit)))
abbrev D0:Ty:=.arr 9 Y3
abbrev Wr:Ty:=.lk JK (.prod W0 (.prod Y3 (.prod D0 .unit)))
abbrev Y94:Ty:=.prod Y3 (.prod Y3 (.prod Y3 (.prod Y3 (.prod Y3 (.prod Y4 (.prod Wr (.prod Xi .unit)))))))
abbrev Y91:Ty:=.pn Y94
abbrev Wq:Ty:=.sl Y91
abbrev Wp:Ty:=.sl W0
abbrev ZB:Ty:=.sl Jp
abbrev Zbb:Ty:=.sl Wq
abbrev Zai:Ty:=.prod Zh (.prod Zk (.prod ZB (.prod Zbb (.prod Wq (.prod Wq .unit)))))
abbrev Gm:Ty:=.int .u64
abbrev Zd3:Ty:=.prod JK (.prod Wr (.prod W0 (.prod Y3 (.prod D0 .unit))))
abbrev HK:Ty:=.prod Y3 (.prod Y3 (.prod Y3 (.prod Y3 (.prod Gm .unit))))
abbrev Zcx:Ty:=.sl HK
def tyTab:List (Nat×Ty):=[(3,Y3),(4,Y4),(9,Y9),(128,Zag),(22,Xv),(130,Zah),(23,Xw),(145,Dr),(76,Xj),(78,XQ),(24,RB),(199,YO),(25,RC),(141,Wd),(26,WB),(133,J2),(27,HJ),(29,KJ),(31,Zh),(33,Zk),(82,K3),(46,Xi),(87,Jp),(206,JK),(173,W0),(207,D0),(92,Wr),(94,Y94),(91,Y91),(89,Wq),(111,Wp),(153,ZB),(154,Zbb),(156,Zai),(184,Gm),(209,Zd3),(322,HK),(319,Zcx)]
def mapTab:List (Nat×Ty×Ty):=[]
def pkTab:List (Nat×Nat):=[(92,1)]
def bdTab:List (Nat×Nat):=[]
theorem We:Tryz.prog.follows .mixedOrders=true:=by kernel_rfl
theorem tab_ok:H6 Tryz.prog tyTab mapTab pkTab bdTab=true:=by kernel_rfl
def F110:(El Y91)->(El Y91)->Option (El Y4):=λa b=>C (C a λ_=>C a λl=>C b λ_=>C b λm=>bif U (m.2.2.1<l.2.2.1) then J Uc else C a λ_=>C a λn=>C b λ_=>C b λo=>bif U (o.2.2.2.1<n.2.2.2.1) then J Uc else C a λ_=>C a λp=>C b λ_=>C b λc=>bif U (c.2.2.2.2.1<p.2.2.2.2.1) then J Uc else C a λ_=>C a λd=>C b λ_=>C b λe=>bif U (e.2.2.2.2.2.1<d.2.2.2.2.2.1) then J Uc else C a λ_=>C a λf=>bif !f.2.2.2.2.2.2.1 then C b λ_=>C b λg=>J g.2.2.2.2.2.2.1 else J Ud) λh=>bif h then J Ud else C a λ_=>C a λi=>C b λ_=>C b λj=>C (F20 i.2.2.2.2.2.2.2.1 j.2.2.2.2.2.2.2.1) λk=>J k
def F110S:Tr.Spec:={args:=(.cons (.pd Y91) (.cons (.pd Y91) .nil)),res:=(.cons (.pd Y4) .nil),fns:=[],α:=El Y4,f:=λx=>F110 x.1 x.2.1,unp:=λz=>(((),(),()),(z,()))}
theorem F110_ok:ZT Tryz.prog 195 F110S:=Ja (rws:=[]) (zxs:=[]) (nt:=69) (m:=[(228,[F20E.S])]) (fn:=f195) (hint:=(hS (.seq (.seq (.reg [(59,Y4)]) .leaf) .leaf))) (pack:=λy=>y.2.1) We tab_ok ⟨⟨F20E.ok,trivial⟩,trivial⟩ λx z h=>.trans (by kernel_rfl) h
def F177:(El Wq)->((El Y91×Unit))->Option (El Y3):=λa b=>C (run (λs0=>bif U (s0<(↑(R a):Int)) then C (idx a s0) λc=>C (F110 b.1 c) λd=>bif d then J (.inr (.inr s0)) else J (.inl (Vc .i64 (s0+(1:Int)))) else J (.inr (.inl ()))) (0:Int)) λe=>Vi (λ_=>J (-1:Int)) (λf=>J f) e
def F177S:Tr.Spec:={args:=(.cons (.pd Wq) (.cons (.fn 1195 (.cons (.pd Y91) .nil)) .nil)),res:=(.cons (.pd Y3) .nil),fns:=[1195],α:=El Y3,f:=λx=>F177 x.1 x.2.1,unp:=λz=>(((),((),()),()),(z,()))}
theorem F177_ok:ZT Tryz.prog 229 F177S:=Ja (rws:=[]) (zxs:=[]) (nt:=19) (m:=[(195,[F110S])]) (fn:=f229) (hint:=(hS (.seq (hS (.lp (en [pd 8 Y3] [0,1,7]) [(.exit 0,en [] [1]),(.ret,en [pd 4 Y3] [1])] .leaf)) .leaf))) (pack:=λy=>y.2.1) We tab_ok ⟨⟨F110_ok,trivial⟩,trivial⟩ λx z h=>.trans (by kernel_rfl) h
def F175:(List (El Y91))->((El Y91×Unit))->Option (List (El Y91)):=λd g=>C (F177 d g) λe=>bif U (e=(-1:Int)) then J d else C (run (λb=>bif U (b.2.2<(↑(R b.1):Int)) then C (Zv b.2.2 (R b.1)) λj=>C b.1[j]? λh=>C (F110 g.1 h) λk=>bif !k then C (Zv b.2.1 (R b.1)) λi=>C b.1[i]? λ_=>J (.inl (Vg b.1 i h,Vc .i64 (b.2.1+(1:Int)),Vc .i64 (b.2.2+(1:Int)))) else J (.inl (b.1,b.2.1,Vc .i64 (b.2.2+(1:Int)))) else J (.inr (b.1,b.2.1))) (d,e,Vc .i64 (e+(1:Int)))) λc=>C (sliceB (R c.1) (R c.1) (J c.2) Ub) λa=>C (ZD (U (a.1+(a.2 - a.1)<=R c.1))) λ_=>C (sliceB (R (Ve a.1 c.1++Vd (a.2 - a.1) (Tr.zeroEl Y91)++Vh (a.1+(a.2 - a.1)) c.1)) (R (Ve a.1 c.1++Vd (a.2 - a.1) (Tr.zeroEl Y91)++Vh (a.1+(a.2 - a.1)) c.1)) Ub (J c.2)) λf=>J (Ve f.2 (Ve a.1 c.1++Vd (a.2 - a.1) (Tr.zeroEl Y91)++Vh (a.1+(a.2 - a.1)) c.1))
def F175S:Tr.Spec:={args:=(.cons (.own Y91 Ud) (.cons (.fn 1195 (.cons (.pd Y91) .nil)) .nil)),res:=(.cons (.own Y91 Ud) .nil),fns:=[1195],α:=List (El Y91),f:=λx=>F175 x.1 x.2.1,unp:=λz=>(((),((),()),()),(z,()))}
theorem F175_ok:ZT Tryz.prog 196 F175S:=Ja (rws:=[]) (zxs:=[]) (nt:=42) (m:=[(195,[F110S]),(229,[F177S])]) (fn:=f196) (hint:=(hS (hS (hS (.seq (hS (.lp (en [(0,.own Y91 Ud),pd 5 Y3,pd 6 Y3] [1]) [(.exit 0,en [(0,.own Y91 Ud),pd 5 Y3] [1])] .leaf)) .leaf))))) (pack:=λy=>y.2.1) We tab_ok ⟨⟨F110_ok,trivial⟩,⟨F177_ok,trivial⟩,trivial⟩ λx z h=>.trans (by kernel_rfl) h
def F104:((El Zh×El Zk×El ZB×List (List (El Y91))×List (El Y91)×List (El Y91)×Unit))->(El Y91)->Option ((El Zh×El Zk×El ZB×List (List (El Y91))×List (El Y91)×List (El Y91)×Unit)):=λa b=>C b λ_=>C b λl=>C (Zv l.2.1 (R a.2.2.2.1)) λe=>C a.2.2.2.1[e]? λ_=>C (idx a.2.2.2.1 (↑e:Int)) λm=>C (run (λf=>bif U (f<(↑(R m):Int)) then C (idx a.2.2.2.1 (↑e:Int)) λn=>C (Zv f (R n)) λo=>C (idx a.2.2.2.1 (↑e:Int)) λp=>C p[o]? λq=>C (F110 q b) λg=>bif g then J (.inr (.inr ())) else J (.inl (Vc .i64 (f+(1:Int)))) else J (.inr (.inl ()))) (0:Int)) λh=>Vi (λ_=>C (idx a.2.2.2.1 (↑e:Int)) λi=>C b λ_=>C b λj=>C (F175 i (b,())) λd=>C (ZD (U (R d+R [b]<=ZI))) λ_=>C (Zv j.2.1 (R a.2.2.2.1)) λc=>C (ZD (RW (J (Vf (↑e:Int))) c)) λ_=>C a.2.2.2.1[c]? λ_=>C (ZD (U (R a.2.2.2.2.1+R [b]<=ZI))) λ_=>C b λ_=>C b λk=>bif U (k.2.1=a.2.1.2.1) then C (ZD (U (R a.2.2.2.2.2.1+R [b]<=ZI))) λ_=>J (a.1,a.2.1,a.2.2.1,Vg a.2.2.2.1 c (d++[b]),a.2.2.2.2.1++[b],a.2.2.2.2.2.1++[b],()) else J (a.1,a.2.1,a.2.2.1,Vg a.2.2.2.1 c (d++[b]),a.2.2.2.2.1++[b],a.2.2.2.2.2.1,())) (λ_=>J a) h
abbrev F104A:Pats:=(.cons (.var Zai (.agg (.cons (.pd Zh) (.cons (.pd Zk) (.cons (.pd ZB) (.cons (.rows Y91 Ud) (.cons (.owo Y94) (.cons (.own Y91 Ud) .nil)))))))) (.cons (.pd Y91) .nil))
abbrev F104R:Pats:=.nil
def F104S:Tr.Spec:={args:=F104A,res:=F104R,fns:=[],α:=(El Zh×El Zk×El ZB×List (List (El Y91))×List (El Y91)×List (El Y91)×Unit),f:=λx=>F104 x.1 x.2.1,unp:=λz=>((z,(),()),())}
theorem F104_ok:ZT Tryz.prog 131 F104S:=Ja (rws:=[154]) (zxs:=[]) (nt:=73) (m:=[(195,[F110S]),(196,[F175S])]) (fn:=f131) (hint:=(hS (.seq (hS (.lp (en [pd 19 Y3] [0,1,4,17,18]) [(.exit 0,en [] [0,1,4]),(.ret,en [] [0])] .leaf)) (.det 4 .leaf .leaf)))) (pack:=λy=>y.1.1) We tab_ok ⟨⟨F110_ok,trivial⟩,⟨F175_ok,trivial⟩,trivial⟩ λx z h=>.trans (by kernel_rfl) h
def F112:(El Zh)->(El Zk)->Option (ZQ Zh Zk ZB Y94):=λb j=>C (ZD (decide ((0:El (Tr.Ty.int .i64))<=(↑(R b.2.2.1):Int)/\ (↑(R b.2.2.1):Int)<=(↑(R b.2.2.1):Int)/\(↑(R b.2.2.1):Int)<=(↑ZI:El (Tr.Ty.int .i64))))) λ_=>C (ZD (decide ((0:El (Tr.Ty.int .i64))<=(↑(R b.1):Int)/\ (↑(R b.1):Int)<=(↑(R b.1):Int)/\(↑(R b.1):Int)<=(↑ZI:El (Tr.Ty.int .i64))))) λ_=>C (run (λa=>bif U (a.2<(↑(R b.2.2.2.1):Int)) then C (idx b.2.2.2.1 a.2) λh=>C (Zv h.1 (R a.1.2.2.1)) λf=>C a.1.2.2.1[f]? λ_=>C (idx a.1.2.2.1 (↑f:Int)) λi=>C (ZD (U (R i+R [a.2]<=ZI))) λ_=>C (Zv h.1 (R a.1.2.2.1)) λg=>C (ZD (RW (J (Vf (↑f:Int))) g)) λ_=>C a.1.2.2.1[g]? λ_=>J (.inl ((a.1.1,a.1.2.1,Vg a.1.2.2.1 g (i++[a.2]),a.1.2.2.2.1,a.1.2.2.2.2.1,a.1.2.2.2.2.2.1,()),Vc .i64 (a.2+(1:Int)))) else J (.inr a.1)) ((b,j,Vd (Vf (↑(R b.2.2.1):Int)) [],Vd (Vf (↑(R b.1):Int)) [],[],[],()),(0:Int))) λc=>C (C (Tr.untag (c.1,c.2.1,c.2.2.1,c.2.2.2.1,c.2.2.2.2.1,c.2.2.2.2.2.1)) λd=>J ((Tr.outDef (Tr.Pat.pd Zh),Tr.outDef (Tr.Pat.pd Zk),()),d,())) λe=>J e.2.1
def F112S:Tr.Spec:={args:=(.cons (.pd Zh) (.cons (.pd Zk) .nil)),res:=(.cons (.fnd Zh Zk ZB Y94) .nil),fns:=[],α:=ZQ Zh Zk ZB Y94,f:=λx=>F112 x.1 x.2.1,unp:=λz=>(((),(),()),(z,()))}
theorem F112_ok:ZT Tryz.prog 77 F112S:=Ja (rws:=[154,153]) (zxs:=[156]) (nt:=48) (m:=[]) (fn:=f77) (hint:=(hS (hS (.seq (hS (.lp (en [(5,(.var Zai (.agg (.cons (.pd Zh) (.cons (.pd Zk) (.cons (.rows Y3 Ud) (.cons (.rows Y91 Ud) (.cons (.owo Y94) (.cons (.own Y91 Ud) .nil))))))))),pd 23 Y3] [21,22]) [(.exit 0,en [(5,(.var Zai (.agg (.cons (.pd Zh) (.cons (.pd Zk) (.cons (.rows Y3 Ud) (.cons (.rows Y91 Ud) (.cons (.owo Y94) (.cons (.own Y91 Ud) .nil)))))))))] [])] .leaf)) .leaf)))) (pack:=λy=>y.2.1) We tab_ok trivial λx z h=>.trans (by kernel_rfl) h
def F179:(El Wq)->(El Y91)->Option (El Y3):=λa b=>C (run (λs0=>bif U (s0<(↑(R a):Int)) then C (idx a s0) λc=>bif U (Vj Prod.fst b=Vj Prod.fst c) then J (.inr (.inr s0)) else J (.inl (Vc .i64 (s0+(1:Int)))) else J (.inr (.inl ()))) (0:Int)) λd=>Vi (λ_=>J (-1:Int)) (λe=>J e) d
def F179S:Tr.Spec:={args:=(.cons (.pd Wq) (.cons (.pd Y91) .nil)),res:=(.cons (.pd Y3) .nil),fns:=[],α:=El Y3,f:=λx=>F179 x.1 x.2.1,unp:=λz=>(((),(),()),(z,()))}
theorem F179_ok:ZT Tryz.prog 130 F179S:=Ja (rws:=[]) (zxs:=[]) (nt:=19) (m:=[]) (fn:=f130) (hint:=(hS (.seq (hS (.lp (en [pd 8 Y3] [0,1,7]) [(.exit 0,e0),(.ret,en [pd 4 Y3] [])] .leaf)) .leaf))) (pack:=λy=>y.2.1) We tab_ok trivial λx z h=>.trans (by kernel_rfl) h
def F173:(El Wq)->(El Y91)->Option (El Y4):=λa b=>C (F179 a b) λc=>J (U ((0:Int)<=c))
def F173S:Tr.Spec:={args:=(.cons (.pd Wq) (.cons (.pd Y91) .nil)),res:=(.cons (.pd Y4) .nil),fns:=[],α:=El Y4,f:=λx=>F173 x.1 x.2.1,unp:=λz=>(((),(),()),(z,()))}
theorem F173_ok:ZT Tryz.prog 80 F173S:=Ja (rws:=[]) (zxs:=[]) (nt:=9) (m:=[(130,[F179S])]) (fn:=f80) (hint:=.leaf) (pack:=λy=>y.2.1) We tab_ok ⟨⟨F179_ok,trivial⟩,trivial⟩ λx z h=>.trans (by kernel_rfl) h
end
end Qn

