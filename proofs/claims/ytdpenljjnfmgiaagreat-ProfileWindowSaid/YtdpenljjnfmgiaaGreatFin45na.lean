/- The functions of the program as functions of Lean, and that the program computes them; printed by a program of mine. Conditions: none. -/
import Derived.KernelRfl
import Derived.Test.YtdpenljjnfmgiaaGreatFin45f
open Tr Go Go.Proofs Tryz
open Int renaming toNat ->Vf
open Go.IntKind renaming wrap ->Vc
open List renaming length ->R,replicate ->Vd,take ->Ve,set ->Vg,drop ->Vh
open Option renaming bind ->C,map ->Vj
open Sum renaming inl ->L,inr ->M,elim ->Vi
open Option renaming some ->J,none ->Ub
open Bool renaming true ->Uc,false ->Ud
open Decidable renaming decide ->U
namespace Qn
open Q
noncomputable section
abbrev Y3:Ty:=.int .i64
abbrev Y4:Ty:=.bool
abbrev Y9:Ty:=.str
abbrev Zbl:Ty:=.prod Y9 (.prod Y3 (.prod Y4 (.prod Y3 .unit)))
abbrev XH:Ty:=.sl Zbl
abbrev Zbm:Ty:=.prod Y9 (.prod Y3 (.prod Y4 .unit))
abbrev XI:Ty:=.sl Zbm
abbrev D6:Ty:=.prod Y3 (.prod Y3 (.prod Y3 (.prod Y4 (.prod Y4 .unit))))
abbrev Xu:Ty:=.sl D6
abbrev X3:Ty:=.prod Y3 (.prod Y3 (.prod Y3 (.prod Y9 (.prod Y3 (.prod Y4 (.prod Y4 (.prod Xu .unit)))))))
abbrev Y24:Ty:=.sl X3
abbrev Hd:Ty:=.prod Y3 (.prod Y3 (.prod Y3 (.prod Y3 (.prod Y4 .unit))))
abbrev Y25:Ty:=.sl Hd
abbrev Wg:Ty:=.prod Y3 (.prod Y3 (.prod Y3 (.prod Y4 .unit)))
abbrev WA:Ty:=.sl Wg
abbrev Xc:Ty:=.prod Y9 (.prod Y3 (.prod Y3 (.prod Y3 (.prod Y3 (.prod Y3 .unit)))))
abbrev Gk:Ty:=.sl Xc
abbrev KV:Ty:=.prod Gk (.prod Y3 (.prod Y3 (.prod Y3 .unit)))
abbrev Zd:Ty:=.prod XH (.prod XI (.prod Y24 (.prod Y25 (.prod WA (.prod KV .unit)))))
abbrev Zk:Ty:=.prod Y3 (.prod Y3 (.prod Y3 (.prod Y4 (.prod Y3 (.prod Y3 (.prod Y4 (.prod Y4 (.prod Y3 (.prod Y4 .unit)))))))))
abbrev Ki:Ty:=.prod Y4 (.prod Y3 (.prod Y3 (.prod Y3 (.prod Y3 (.prod Y3 (.prod Y3 (.prod Y3 (.prod Y4 .unit))))))))
abbrev JQ:Ty:=.sl Ki
abbrev Jr:Ty:=.sl Y3
abbrev Xt:Ty:=.pt KV
abbrev WZ:Ty:=.prod Y3 (.prod Y3 (.prod Y3 (.prod Y3 .unit)))
abbrev RM:Ty:=.arr 9 Y3
abbrev Wr:Ty:=.lk Xt (.prod WZ (.prod Y3 (.prod RM .unit)))
abbrev Y94:Ty:=.prod Y3 (.prod Y3 (.prod Y3 (.prod Y3 (.prod Y3 (.prod Y4 (.prod Wr (.prod JQ .unit)))))))
abbrev Y91:Ty:=.pn Y94
abbrev Wq:Ty:=.sl Y91
abbrev Wp:Ty:=.sl WZ
abbrev ZG:Ty:=.sl Jr
abbrev Zcc:Ty:=.sl Wq
abbrev Zbn:Ty:=.prod Zd (.prod Zk (.prod ZG (.prod Zcc (.prod Wq (.prod Wq .unit)))))
abbrev GQ:Ty:=.int .u64
abbrev Ze7:Ty:=.prod Xt (.prod Wr (.prod WZ (.prod Y3 (.prod RM .unit))))
abbrev Gl:Ty:=.prod Y3 (.prod Y3 (.prod Y3 (.prod Y3 (.prod GQ .unit))))
abbrev Zdv:Ty:=.sl Gl
def tyTab:V (Nat×Ty):=[(3,Y3),(4,Y4),(9,Y9),(128,Zbl),(22,XH),(130,Zbm),(23,XI),(145,D6),(76,Xu),(78,X3),(24,Y24),(199,Hd),(25,Y25),(141,Wg),(26,WA),(133,Xc),(27,Gk),(29,KV),(31,Zd),(33,Zk),(82,Ki),(46,JQ),(87,Jr),(206,Xt),(173,WZ),(207,RM),(92,Wr),(94,Y94),(91,Y91),(89,Wq),(111,Wp),(153,ZG),(154,Zcc),(156,Zbn),(184,GQ),(209,Ze7),(322,Gl),(319,Zdv)]
def mapTab:V (Nat×Ty×Ty):=[]
def pkTab:V (Nat×Nat):=[(92,1)]
def bdTab:V (Nat×Nat):=[]
theorem Wi:Tryz.prog.follows .mixedOrders=true:=by kernel_rfl
theorem tab_ok:DW Tryz.prog tyTab mapTab pkTab bdTab=true:=by kernel_rfl
def F111(a b:El Y91):Option (El Y4):=C (C a λ_=>C a λl=>C b λ_=>C b λm=>bif U (m.2.2.1<l.2.2.1) then J Uc else C a λ_=>C a λn=>C b λ_=>C b λo=>bif U (o.2.2.2.1<n.2.2.2.1) then J Uc else C a λ_=>C a λp=>C b λ_=>C b λc=>bif U (c.2.2.2.2.1<p.2.2.2.2.1) then J Uc else C a λ_=>C a λd=>C b λ_=>C b λe=>bif U (e.2.2.2.2.2.1<d.2.2.2.2.2.1) then J Uc else C a λ_=>C a λf=>bif !f.2.2.2.2.2.2.1 then C b λ_=>C b λg=>J g.2.2.2.2.2.2.1 else J Ud) λh=>bif h then J Ud else C a λ_=>C a λi=>C b λ_=>C b λj=>C (F20 i.2.2.2.2.2.2.2.1 j.2.2.2.2.2.2.2.1) λk=>J k
def F111S:Tr.Spec:={args:=(.cons (.pd Y91) (.cons (.pd Y91) .nil)),res:=(.cons (.pd Y4) .nil),fns:=[],α:=El Y4,f:=λx=>F111 x.1 x.2.1,unp:=λz=>(((),(),()),(z,()))}
theorem F111_ok:ZR Tryz.prog 195 F111S:=W6 (rws:=[]) (zxs:=[]) (nt:=69) (m:=[(228,[F20E.S])]) (fn:=f195) (hint:=(hS (rS 59 Y4 .leaf))) (pack:=λy=>y.2.1) Wi tab_ok ⟨⟨F20E.ok,trivial⟩,trivial⟩ λx z h=>.trans (by kernel_rfl) h
def F194(a:El Wq)(b:(El Y91×Unit)):Option (El Y3):=C (run (λs0=>bif U (s0<(↑(R a):Int)) then C (idx a s0) λc=>C (F111 b.1 c) λd=>bif d then J (M (M s0)) else J (L (Vc .i64 (s0+(1:Int)))) else J (M (L ()))) (0:Int)) λe=>Vi (λ_=>J (-1:Int)) (λf=>J f) e
def F194S:Tr.Spec:={args:=(.cons (.pd Wq) (.cons (.fn 1195 (.cons (.pd Y91) .nil)) .nil)),res:=(.cons (.pd Y3) .nil),fns:=[1195],α:=El Y3,f:=λx=>F194 x.1 x.2.1,unp:=λz=>(((),((),()),()),(z,()))}
theorem F194_ok:ZR Tryz.prog 229 F194S:=W6 (rws:=[]) (zxs:=[]) (nt:=19) (m:=[(195,[F111S])]) (fn:=f229) (hint:=(hS (.seq (hS (.lp (en [pd 8 Y3] [0,1,7]) [(.exit 0,en [] [1]),(.ret,en [pd 4 Y3] [1])] .leaf)) .leaf))) (pack:=λy=>y.2.1) Wi tab_ok ⟨⟨F111_ok,trivial⟩,trivial⟩ λx z h=>.trans (by kernel_rfl) h
def F192(d:V (El Y91))(g:(El Y91×Unit)):Option (V (El Y91)):=C (F194 d g) λe=>bif U (e=(-1:Int)) then J d else C (run (λb=>bif U (b.2.2<(↑(R b.1):Int)) then C (Zo b.2.2 (R b.1)) λj=>C b.1[j]? λh=>C (F111 g.1 h) λk=>bif !k then C (Zo b.2.1 (R b.1)) λi=>C b.1[i]? λ_=>J (L (Vg b.1 i h,Vc .i64 (b.2.1+(1:Int)),Vc .i64 (b.2.2+(1:Int)))) else J (L (b.1,b.2.1,Vc .i64 (b.2.2+(1:Int)))) else J (M (b.1,b.2.1))) (d,e,Vc .i64 (e+(1:Int)))) λc=>C (sliceB (R c.1) (R c.1) (J c.2) Ub) λa=>C (Zw (U (a.1+(a.2 - a.1)<=R c.1))) λ_=>C (sliceB (R (Ve a.1 c.1++Vd (a.2 - a.1) (Tr.zeroEl Y91)++Vh (a.1+(a.2 - a.1)) c.1)) (R (Ve a.1 c.1++Vd (a.2 - a.1) (Tr.zeroEl Y91)++Vh (a.1+(a.2 - a.1)) c.1)) Ub (J c.2)) λf=>J (Ve f.2 (Ve a.1 c.1++Vd (a.2 - a.1) (Tr.zeroEl Y91)++Vh (a.1+(a.2 - a.1)) c.1))
def F192S:Tr.Spec:={args:=(.cons (.own Y91 Ud) (.cons (.fn 1195 (.cons (.pd Y91) .nil)) .nil)),res:=(.cons (.own Y91 Ud) .nil),fns:=[1195],α:=V (El Y91),f:=λx=>F192 x.1 x.2.1,unp:=λz=>(((),((),()),()),(z,()))}
theorem F192_ok:ZR Tryz.prog 196 F192S:=W6 (rws:=[]) (zxs:=[]) (nt:=42) (m:=[(195,[F111S]),(229,[F194S])]) (fn:=f196) (hint:=(hS (hS (hS (.seq (hS (.lp (en [(0,.own Y91 Ud),pd 5 Y3,pd 6 Y3] [1]) [(.exit 0,en [(0,.own Y91 Ud),pd 5 Y3] [1])] .leaf)) .leaf))))) (pack:=λy=>y.2.1) Wi tab_ok ⟨⟨F111_ok,trivial⟩,⟨F194_ok,trivial⟩,trivial⟩ λx z h=>.trans (by kernel_rfl) h
def F105(a:((El Zd×El Zk×El ZG×V (V (El Y91))×V (El Y91)×V (El Y91)×Unit)))(b:El Y91):Option ((El Zd×El Zk×El ZG×V (V (El Y91))×V (El Y91)×V (El Y91)×Unit)):=C b λ_=>C b λl=>C (Zo l.2.1 (R a.2.2.2.1)) λe=>C a.2.2.2.1[e]? λ_=>C (idx a.2.2.2.1 (↑e:Int)) λm=>C (run (λf=>bif U (f<(↑(R m):Int)) then C (idx a.2.2.2.1 (↑e:Int)) λn=>C (Zo f (R n)) λo=>C (idx a.2.2.2.1 (↑e:Int)) λp=>C p[o]? λq=>C (F111 q b) λg=>bif g then J (M (M ())) else J (L (Vc .i64 (f+(1:Int)))) else J (M (L ()))) (0:Int)) λh=>Vi (λ_=>C (idx a.2.2.2.1 (↑e:Int)) λi=>C b λ_=>C b λj=>C (F192 i (b,())) λd=>C (Zw (U (R d+R [b]<=Zt))) λ_=>C (Zo j.2.1 (R a.2.2.2.1)) λc=>C (Zw (ZaS (J (Vf (↑e:Int))) c)) λ_=>C a.2.2.2.1[c]? λ_=>C (Zw (U (R a.2.2.2.2.1+R [b]<=Zt))) λ_=>C b λ_=>C b λk=>bif U (k.2.1=a.2.1.2.1) then C (Zw (U (R a.2.2.2.2.2.1+R [b]<=Zt))) λ_=>J (a.1,a.2.1,a.2.2.1,Vg a.2.2.2.1 c (d++[b]),a.2.2.2.2.1++[b],a.2.2.2.2.2.1++[b],()) else J (a.1,a.2.1,a.2.2.1,Vg a.2.2.2.1 c (d++[b]),a.2.2.2.2.1++[b],a.2.2.2.2.2.1,())) (λ_=>J a) h
abbrev F105A:Pats:=(.cons (.var Zbn (.agg (.cons (.pd Zd) (.cons (.pd Zk) (.cons (.pd ZG) (.cons (.rows Y91 Ud) (.cons (.owo Y94) (.cons (.own Y91 Ud) .nil)))))))) (.cons (.pd Y91) .nil))
abbrev F105R:Pats:=.nil
def F105S:Tr.Spec:={args:=F105A,res:=F105R,fns:=[],α:=(El Zd×El Zk×El ZG×V (V (El Y91))×V (El Y91)×V (El Y91)×Unit),f:=λx=>F105 x.1 x.2.1,unp:=λz=>((z,(),()),())}
theorem F105_ok:ZR Tryz.prog 131 F105S:=W6 (rws:=[154]) (zxs:=[]) (nt:=73) (m:=[(195,[F111S]),(196,[F192S])]) (fn:=f131) (hint:=(hS (.seq (hS (.lp (en [pd 19 Y3] [0,1,4,17,18]) [(.exit 0,en [] [0,1,4]),(.ret,en [] [0])] .leaf)) (.det 4 .leaf .leaf)))) (pack:=λy=>y.1.1) Wi tab_ok ⟨⟨F111_ok,trivial⟩,⟨F192_ok,trivial⟩,trivial⟩ λx z h=>.trans (by kernel_rfl) h
def F113(b:El Zd)(j:El Zk):Option (ZS Zd Zk ZG Y94):=C (Zw (decide ((0:El (Tr.Ty.int .i64))<=(↑(R b.2.2.1):Int)/\ (↑(R b.2.2.1):Int)<=(↑(R b.2.2.1):Int)/\(↑(R b.2.2.1):Int)<=(↑Zt:El (Tr.Ty.int .i64))))) λ_=>C (Zw (decide ((0:El (Tr.Ty.int .i64))<=(↑(R b.1):Int)/\ (↑(R b.1):Int)<=(↑(R b.1):Int)/\(↑(R b.1):Int)<=(↑Zt:El (Tr.Ty.int .i64))))) λ_=>C (run (λa=>bif U (a.2<(↑(R b.2.2.2.1):Int)) then C (idx b.2.2.2.1 a.2) λh=>C (Zo h.1 (R a.1.2.2.1)) λf=>C a.1.2.2.1[f]? λ_=>C (idx a.1.2.2.1 (↑f:Int)) λi=>C (Zw (U (R i+R [a.2]<=Zt))) λ_=>C (Zo h.1 (R a.1.2.2.1)) λg=>C (Zw (ZaS (J (Vf (↑f:Int))) g)) λ_=>C a.1.2.2.1[g]? λ_=>J (L ((a.1.1,a.1.2.1,Vg a.1.2.2.1 g (i++[a.2]),a.1.2.2.2.1,a.1.2.2.2.2.1,a.1.2.2.2.2.2.1,()),Vc .i64 (a.2+(1:Int)))) else J (M a.1)) ((b,j,Vd (Vf (↑(R b.2.2.1):Int)) [],Vd (Vf (↑(R b.1):Int)) [],[],[],()),(0:Int))) λc=>C (C (Tr.untag (c.1,c.2.1,c.2.2.1,c.2.2.2.1,c.2.2.2.2.1,c.2.2.2.2.2.1)) λd=>J ((Tr.outDef (Tr.Pat.pd Zd),Tr.outDef (Tr.Pat.pd Zk),()),d,())) λe=>J e.2.1
def F113S:Tr.Spec:={args:=(.cons (.pd Zd) (.cons (.pd Zk) .nil)),res:=(.cons (.fnd Zd Zk ZG Y94) .nil),fns:=[],α:=ZS Zd Zk ZG Y94,f:=λx=>F113 x.1 x.2.1,unp:=λz=>(((),(),()),(z,()))}
theorem F113_ok:ZR Tryz.prog 77 F113S:=W6 (rws:=[154,153]) (zxs:=[156]) (nt:=48) (m:=[]) (fn:=f77) (hint:=(hS (hS (.seq (hS (.lp (en [(5,(.var Zbn (.agg (.cons (.pd Zd) (.cons (.pd Zk) (.cons (.rows Y3 Ud) (.cons (.rows Y91 Ud) (.cons (.owo Y94) (.cons (.own Y91 Ud) .nil))))))))),pd 23 Y3] [21,22]) [(.exit 0,en [(5,(.var Zbn (.agg (.cons (.pd Zd) (.cons (.pd Zk) (.cons (.rows Y3 Ud) (.cons (.rows Y91 Ud) (.cons (.owo Y94) (.cons (.own Y91 Ud) .nil)))))))))] [])] .leaf)) .leaf)))) (pack:=λy=>y.2.1) Wi tab_ok trivial λx z h=>.trans (by kernel_rfl) h
def F196(a:El Wq)(b:El Y91):Option (El Y3):=C (run (λs0=>bif U (s0<(↑(R a):Int)) then C (idx a s0) λc=>bif U (Vj Prod.fst b=Vj Prod.fst c) then J (M (M s0)) else J (L (Vc .i64 (s0+(1:Int)))) else J (M (L ()))) (0:Int)) λd=>Vi (λ_=>J (-1:Int)) (λe=>J e) d
def F196S:Tr.Spec:={args:=(.cons (.pd Wq) (.cons (.pd Y91) .nil)),res:=(.cons (.pd Y3) .nil),fns:=[],α:=El Y3,f:=λx=>F196 x.1 x.2.1,unp:=λz=>(((),(),()),(z,()))}
theorem F196_ok:ZR Tryz.prog 130 F196S:=W6 (rws:=[]) (zxs:=[]) (nt:=19) (m:=[]) (fn:=f130) (hint:=(hS (.seq (hS (.lp (en [pd 8 Y3] [0,1,7]) [(.exit 0,e0),(.ret,en [pd 4 Y3] [])] .leaf)) .leaf))) (pack:=λy=>y.2.1) Wi tab_ok trivial λx z h=>.trans (by kernel_rfl) h
def F190(a:El Wq)(b:El Y91):Option (El Y4):=C (F196 a b) λc=>J (U ((0:Int)<=c))
def F190S:Tr.Spec:={args:=(.cons (.pd Wq) (.cons (.pd Y91) .nil)),res:=(.cons (.pd Y4) .nil),fns:=[],α:=El Y4,f:=λx=>F190 x.1 x.2.1,unp:=λz=>(((),(),()),(z,()))}
theorem F190_ok:ZR Tryz.prog 80 F190S:=W6 (rws:=[]) (zxs:=[]) (nt:=9) (m:=[(130,[F196S])]) (fn:=f80) (hint:=.leaf) (pack:=λy=>y.2.1) Wi tab_ok ⟨⟨F196_ok,trivial⟩,trivial⟩ λx z h=>.trans (by kernel_rfl) h
end
end Qn

