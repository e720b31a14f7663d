/- The functions of the program as functions of Lean, and that the program computes them; printed by a program of mine. Conditions: none. -/
import Derived.KernelRfl
import Derived.Test.YtdpenljjnfmgiaaGreatProg
import Derived.Test.YtdpenljjnfmgiaaGreatFin45f
import Derived.Test.YtdpenljjnfmgiaaGreatETsF
import Derived.Test.YtdpenljjnfmgiaaGreatLay45
import Derived.Test.YtdpenljjnfmgiaaGreatSam45
open Tr Go Go.Proofs
open Int renaming toNat ->Vf
open Go.IntKind renaming wrap ->Vc
open List renaming length ->Vb,replicate ->Vd,take ->Ve,set ->Vg,drop ->Vh
open Option renaming bind ->Va,map ->Vj
open Sum renaming elim ->Vi
namespace Qn
open Q
noncomputable section
abbrev Y3:Ty:=.int .i64
abbrev Y4:Ty:=.bool
abbrev Y9:Ty:=.str
abbrev Rg:Ty:=.prod Y9 (.prod Y3 (.prod Y4 (.prod Y3 .unit)))
abbrev J6:Ty:=.sl Rg
abbrev Rh:Ty:=.prod Y9 (.prod Y3 (.prod Y4 .unit))
abbrev J7:Ty:=.sl Rh
abbrev Gs:Ty:=.prod Y3 (.prod Y3 (.prod Y3 (.prod Y4 (.prod Y4 .unit))))
abbrev JT:Ty:=.sl Gs
abbrev Xp:Ty:=.prod Y3 (.prod Y3 (.prod Y3 (.prod Y9 (.prod Y3 (.prod Y4 (.prod Y4 (.prod JT .unit)))))))
abbrev DA:Ty:=.sl Xp
abbrev Yt:Ty:=.prod Y3 (.prod Y3 (.prod Y3 (.prod Y3 (.prod Y4 .unit))))
abbrev DB:Ty:=.sl Yt
abbrev KV:Ty:=.prod Y3 (.prod Y3 (.prod Y3 (.prod Y4 .unit)))
abbrev Wf:Ty:=.sl KV
abbrev XJ:Ty:=.prod Y9 (.prod Y3 (.prod Y3 (.prod Y3 (.prod Y3 (.prod Y3 .unit)))))
abbrev Hc:Ty:=.sl XJ
abbrev KK:Ty:=.prod Hc (.prod Y3 (.prod Y3 (.prod Y3 .unit)))
abbrev Zh:Ty:=.prod J6 (.prod J7 (.prod DA (.prod DB (.prod Wf (.prod KK .unit)))))
abbrev Zm:Ty:=.prod Y3 (.prod Y3 (.prod Y3 (.prod Y4 (.prod Y3 (.prod Y3 (.prod Y4 (.prod Y4 (.prod Y3 (.prod Y4 .unit)))))))))
abbrev Jp:Ty:=.prod Y4 (.prod Y3 (.prod Y3 (.prod Y3 (.prod Y3 (.prod Y3 (.prod Y3 (.prod Y3 (.prod Y4 .unit))))))))
abbrev JS:Ty:=.sl Jp
abbrev W5:Ty:=.sl Y3
abbrev Jw:Ty:=.pt KK
abbrev WP:Ty:=.prod Y3 (.prod Y3 (.prod Y3 (.prod Y3 .unit)))
abbrev GY:Ty:=.arr 9 Y3
abbrev K5:Ty:=.lk Jw (.prod WP (.prod Y3 (.prod GY .unit)))
abbrev Y94:Ty:=.prod Y3 (.prod Y3 (.prod Y3 (.prod Y3 (.prod Y3 (.prod Y4 (.prod K5 (.prod JS .unit)))))))
abbrev Y91:Ty:=.pn Y94
abbrev K4:Ty:=.sl Y91
abbrev WO:Ty:=.sl WP
abbrev Zx:Ty:=.sl W5
abbrev Zaf:Ty:=.sl K4
abbrev Ri:Ty:=.prod Zh (.prod Zm (.prod Zx (.prod Zaf (.prod K4 (.prod K4 .unit)))))
abbrev Hy:Ty:=.int .u64
abbrev ZcY:Ty:=.prod Jw (.prod K5 (.prod WP (.prod Y3 (.prod GY .unit))))
abbrev Hd:Ty:=.prod Y3 (.prod Y3 (.prod Y3 (.prod Y3 (.prod Hy .unit))))
abbrev Zbw:Ty:=.sl Hd
def tyTab:List (Nat×Ty):=[(3,Y3),(4,Y4),(9,Y9),(128,Rg),(22,J6),(130,Rh),(23,J7),(145,Gs),(76,JT),(78,Xp),(24,DA),(199,Yt),(25,DB),(141,KV),(26,Wf),(133,XJ),(27,Hc),(29,KK),(31,Zh),(33,Zm),(82,Jp),(46,JS),(87,W5),(206,Jw),(173,WP),(207,GY),(92,K5),(94,Y94),(91,Y91),(89,K4),(111,WO),(153,Zx),(154,Zaf),(156,Ri),(184,Hy),(209,ZcY),(322,Hd),(319,Zbw)]
def mapTab:List (Nat×Ty×Ty):=[]
def pkTab:List (Nat×Nat):=[(92,1)]
def bdTab:List (Nat×Nat):=[]
theorem KZ:Tryz.prog.follows .mixedOrders=true:=by kernel_rfl
theorem tab_ok:Hq Tryz.prog tyTab mapTab pkTab bdTab=true:=by kernel_rfl
def F112:(El Y91)->(El Y91)->Option (El Y4):=fun a b=>
 Va
 (Va a fun _=>
 Va a fun l=>
 Va b fun _=>
 Va b fun m=>
 bif decide (m.2.2.1<l.2.2.1) then some true
 else
 Va a fun _=>
 Va a fun n=>
 Va b fun _=>
 Va b fun o=>
 bif decide (o.2.2.2.1<n.2.2.2.1) then some true
 else
 Va a fun _=>
 Va a fun p=>
 Va b fun _=>
 Va b fun c=>
 bif decide (c.2.2.2.2.1<p.2.2.2.2.1) then some true
 else
 Va a fun _=>
 Va a fun d=>
 Va b fun _=>
 Va b fun e=>
 bif decide (e.2.2.2.2.2.1<d.2.2.2.2.2.1) then some true
 else
 Va a fun _=>
 Va a fun f=>
 bif !f.2.2.2.2.2.2.1 then Va b fun _=>Va b fun g=>some g.2.2.2.2.2.2.1
 else some false)
 fun h=>
 bif h then some false
 else
 Va a fun _=>
 Va a fun i=>
 Va b fun _=>
 Va b fun j=>Va (F20 i.2.2.2.2.2.2.2.1 j.2.2.2.2.2.2.2.1) fun k=>some k
def F112S:Tr.Spec:= {args:=(.cons (.pd Y91) (.cons (.pd Y91) .nil)),res:=(.cons (.pd Y4) .nil),fns:=[],α:=El Y4,f:=fun x=>F112 x.1 x.2.1,unp:=fun z=>(((),(),()),(z,()))}
theorem F112_ok:ZL Tryz.prog 195 F112S:=WS (rws:=[]) (zxs:=[]) (nt:=69) (m:=[(228,[F20E.S])]) (fn:=Tryz.f195) (hint:=(hS (.seq (.seq (.reg [(59,Y4)]) .leaf) .leaf))) (pack:=fun y=>y.2.1) KZ tab_ok ⟨⟨F20E.ok,trivial⟩,trivial⟩ fun x z h=>.trans (by kernel_rfl) h
def F156:(El K4)->((El Y91×Unit))->Option (El Y3):=fun a b=>
 Va
 (run
 (fun s0=>
 bif decide (s0<(↑(Vb a):Int)) then
 Va (idx a s0) fun c=>
 Va (F112 b.1 c) fun d=>bif d then some (.inr (.inr s0)) else some (.inl (Vc .i64 (s0+(1:Int))))
 else some (.inr (.inl ())))
 (0:Int))
 fun e=>Vi (fun _=>some (-1:Int)) (fun f=>some f) e
def F156S:Tr.Spec:= {args:=(.cons (.pd K4) (.cons (.fn 1195 (.cons (.pd Y91) .nil)) .nil)),res:=(.cons (.pd Y3) .nil),fns:=[1195],α:=El Y3,f:=fun x=>F156 x.1 x.2.1,unp:=fun z=>(((),((),()),()),(z,()))}
theorem F156_ok:ZL Tryz.prog 229 F156S:=WS (rws:=[]) (zxs:=[]) (nt:=19) (m:=[(195,[F112S])]) (fn:=Tryz.f229) (hint:=(hS (.seq (hS (.lp (en [pd 8 Y3] [0,1,7]) [(.exit 0,en [] [1]),(.ret,en [pd 4 Y3] [1])] .leaf)) .leaf))) (pack:=fun y=>y.2.1) KZ tab_ok ⟨⟨F112_ok,trivial⟩,trivial⟩ fun x z h=>.trans (by kernel_rfl) h
def F154:(List (El Y91))->((El Y91×Unit))->Option (List (El Y91)):=fun d g=>
 Va (F156 d g) fun e=>
 bif decide (e=(-1:Int)) then some d
 else
 Va
 (run
 (fun b=>
 bif decide (b.2.2<(↑(Vb b.1):Int)) then
 Va (ZA b.2.2 (Vb b.1)) fun j=>
 Va b.1[j]? fun h=>
 Va (F112 g.1 h) fun k=>
 bif !k then
 Va (ZA b.2.1 (Vb b.1)) fun i=>
 Va b.1[i]? fun _=>
 some (.inl (Vg b.1 i h,Vc .i64 (b.2.1+(1:Int)),Vc .i64 (b.2.2+(1:Int))))
 else some (.inl (b.1,b.2.1,Vc .i64 (b.2.2+(1:Int))))
 else some (.inr (b.1,b.2.1)))
 (d,e,Vc .i64 (e+(1:Int))))
 fun c=>
 Va (sliceB (Vb c.1) (Vb c.1) (some c.2) none) fun a=>
 Va (Zy (decide (a.1+(a.2 - a.1)<=Vb c.1))) fun _=>
 Va
 (sliceB (Vb (Ve a.1 c.1++Vd (a.2 - a.1) (Tr.zeroEl Y91)++Vh (a.1+(a.2 - a.1)) c.1))
 (Vb (Ve a.1 c.1++Vd (a.2 - a.1) (Tr.zeroEl Y91)++Vh (a.1+(a.2 - a.1)) c.1)) none (some c.2))
 fun f=>some (Ve f.2 (Ve a.1 c.1++Vd (a.2 - a.1) (Tr.zeroEl Y91)++Vh (a.1+(a.2 - a.1)) c.1))
def F154S:Tr.Spec:= {args:=(.cons (.own Y91 false) (.cons (.fn 1195 (.cons (.pd Y91) .nil)) .nil)),res:=(.cons (.own Y91 false) .nil),fns:=[1195],α:=List (El Y91),f:=fun x=>F154 x.1 x.2.1,unp:=fun z=>(((),((),()),()),(z,()))}
theorem F154_ok:ZL Tryz.prog 196 F154S:=WS (rws:=[]) (zxs:=[]) (nt:=42) (m:=[(195,[F112S]),(229,[F156S])]) (fn:=Tryz.f196) (hint:=(hS (hS (hS (.seq (hS (.lp (en [(0,.own Y91 false),pd 5 Y3,pd 6 Y3] [1]) [(.exit 0,en [(0,.own Y91 false),pd 5 Y3] [1])] .leaf)) .leaf))))) (pack:=fun y=>y.2.1) KZ tab_ok ⟨⟨F112_ok,trivial⟩,⟨F156_ok,trivial⟩,trivial⟩ fun x z h=>.trans (by kernel_rfl) h
def F106:((El Zh×El Zm×El Zx×List (List (El Y91)) ×List (El Y91) ×List (El Y91) ×Unit))->(El Y91)->Option ((El Zh×El Zm×El Zx×List (List (El Y91)) ×List (El Y91) ×List (El Y91) ×Unit)):=fun a b=>
 Va b fun _=>
 Va b fun l=>
 Va (ZA l.2.1 (Vb a.2.2.2.1)) fun e=>
 Va a.2.2.2.1[e]? fun _=>
 Va (idx a.2.2.2.1 (↑e:Int)) fun m=>
 Va
 (run
 (fun f=>
 bif decide (f<(↑(Vb m):Int)) then
 Va (idx a.2.2.2.1 (↑e:Int)) fun n=>
 Va (ZA f (Vb n)) fun o=>
 Va (idx a.2.2.2.1 (↑e:Int)) fun p=>
 Va p[o]? fun q=>
 Va (F112 q b) fun g=>
 bif g then some (.inr (.inr ())) else some (.inl (Vc .i64 (f+(1:Int))))
 else some (.inr (.inl ())))
 (0:Int))
 fun h=>
 Vi
 (fun _=>
 Va (idx a.2.2.2.1 (↑e:Int)) fun i=>
 Va b fun _=>
 Va b fun j=>
 Va (F154 i (b,())) fun d=>
 Va (Zy (decide (Vb d+Vb [b]<=ZC))) fun _=>
 Va (ZA j.2.1 (Vb a.2.2.2.1)) fun c=>
 Va (Zy (DS (some (Vf (↑e:Int))) c)) fun _=>
 Va a.2.2.2.1[c]? fun _=>
 Va (Zy (decide (Vb a.2.2.2.2.1+Vb [b]<=ZC))) fun _=>
 Va b fun _=>
 Va b fun k=>
 bif decide (k.2.1=a.2.1.2.1) then
 Va (Zy (decide (Vb a.2.2.2.2.2.1+Vb [b]<=ZC))) fun _=>
 some
 (a.1,a.2.1,a.2.2.1,Vg a.2.2.2.1 c (d++[b]),a.2.2.2.2.1++[b],a.2.2.2.2.2.1++[b],
 ())
 else
 some
 (a.1,a.2.1,a.2.2.1,Vg a.2.2.2.1 c (d++[b]),a.2.2.2.2.1++[b],a.2.2.2.2.2.1,()))
 (fun _=>some a) h
abbrev F106A:Pats:=(.cons (.var Ri (.agg (.cons (.pd Zh) (.cons (.pd Zm) (.cons (.pd Zx) (.cons (.rows Y91 false) (.cons (.owo Y94) (.cons (.own Y91 false) .nil)))))))) (.cons (.pd Y91) .nil))
abbrev F106R:Pats:=.nil
def F106S:Tr.Spec:= {args:=F106A,res:=F106R,fns:=[],α:=(El Zh×El Zm×El Zx×List (List (El Y91)) ×List (El Y91) ×List (El Y91) ×Unit),f:=fun x=>F106 x.1 x.2.1,unp:=fun z=>((z,(),()),())}
theorem F106_ok:ZL Tryz.prog 131 F106S:=WS (rws:=[154]) (zxs:=[]) (nt:=73) (m:=[(195,[F112S]),(196,[F154S])]) (fn:=Tryz.f131) (hint:=(hS (.seq (hS (.lp (en [pd 19 Y3] [0,1,4,17,18]) [(.exit 0,en [] [0,1,4]),(.ret,en [] [0])] .leaf)) (.det 4 .leaf .leaf)))) (pack:=fun y=>y.1.1) KZ tab_ok ⟨⟨F112_ok,trivial⟩,⟨F154_ok,trivial⟩,trivial⟩ fun x z h=>.trans (by kernel_rfl) h
def F114:(El Zh)->(El Zm)->Option (ZH Zh Zm Zx Y94):=fun b j=>
 Va
 (Zy
 (decide
 ((0:El (Tr.Ty.int .i64))<=(↑(Vb b.2.2.1):Int)/\
 (↑(Vb b.2.2.1):Int)<=(↑(Vb b.2.2.1):Int)/\(↑(Vb b.2.2.1):Int)<=(↑ZC:El (Tr.Ty.int .i64)))))
 fun _=>
 Va
 (Zy
 (decide
 ((0:El (Tr.Ty.int .i64))<=(↑(Vb b.1):Int)/\
 (↑(Vb b.1):Int)<=(↑(Vb b.1):Int)/\(↑(Vb b.1):Int)<=(↑ZC:El (Tr.Ty.int .i64)))))
 fun _=>
 Va
 (run
 (fun a=>
 bif decide (a.2<(↑(Vb b.2.2.2.1):Int)) then
 Va (idx b.2.2.2.1 a.2) fun h=>
 Va (ZA h.1 (Vb a.1.2.2.1)) fun f=>
 Va a.1.2.2.1[f]? fun _=>
 Va (idx a.1.2.2.1 (↑f:Int)) fun i=>
 Va (Zy (decide (Vb i+Vb [a.2]<=ZC))) fun _=>
 Va (ZA h.1 (Vb a.1.2.2.1)) fun g=>
 Va (Zy (DS (some (Vf (↑f:Int))) g)) fun _=>
 Va a.1.2.2.1[g]? fun _=>
 some
 (.inl
 ((a.1.1,a.1.2.1,Vg a.1.2.2.1 g (i++[a.2]),a.1.2.2.2.1,a.1.2.2.2.2.1,a.1.2.2.2.2.2.1,
 ()),
 Vc .i64 (a.2+(1:Int))))
 else some (.inr a.1))
 ((b,j,Vd (Vf (↑(Vb b.2.2.1):Int)) [],Vd (Vf (↑(Vb b.1):Int)) [],[],[],()),(0:Int)))
 fun c=>
 Va
 (Va (Tr.untag (c.1,c.2.1,c.2.2.1,c.2.2.2.1,c.2.2.2.2.1,c.2.2.2.2.2.1)) fun d=>
 some ((Tr.outDef (Tr.Pat.pd Zh),Tr.outDef (Tr.Pat.pd Zm),()),d,()))
 fun e=>some e.2.1
def F114S:Tr.Spec:= {args:=(.cons (.pd Zh) (.cons (.pd Zm) .nil)),res:=(.cons (.fnd Zh Zm Zx Y94) .nil),fns:=[],α:=ZH Zh Zm Zx Y94,f:=fun x=>F114 x.1 x.2.1,unp:=fun z=>(((),(),()),(z,()))}
theorem F114_ok:ZL Tryz.prog 77 F114S:=WS (rws:=[154,153]) (zxs:=[156]) (nt:=48) (m:=[]) (fn:=Tryz.f77) (hint:=(hS (hS (.seq (hS (.lp (en [(5,(.var Ri (.agg (.cons (.pd Zh) (.cons (.pd Zm) (.cons (.rows Y3 false) (.cons (.rows Y91 false) (.cons (.owo Y94) (.cons (.own Y91 false) .nil))))))))),pd 23 Y3] [21,22]) [(.exit 0,en [(5,(.var Ri (.agg (.cons (.pd Zh) (.cons (.pd Zm) (.cons (.rows Y3 false) (.cons (.rows Y91 false) (.cons (.owo Y94) (.cons (.own Y91 false) .nil)))))))))] [])] .leaf)) .leaf)))) (pack:=fun y=>y.2.1) KZ tab_ok trivial fun x z h=>.trans (by kernel_rfl) h
def F158:(El K4)->(El Y91)->Option (El Y3):=fun a b=>
 Va
 (run
 (fun s0=>
 bif decide (s0<(↑(Vb a):Int)) then
 Va (idx a s0) fun c=>
 bif decide (Vj Prod.fst b=Vj Prod.fst c) then some (.inr (.inr s0)) else some (.inl (Vc .i64 (s0+(1:Int))))
 else some (.inr (.inl ())))
 (0:Int))
 fun d=>Vi (fun _=>some (-1:Int)) (fun e=>some e) d
def F158S:Tr.Spec:= {args:=(.cons (.pd K4) (.cons (.pd Y91) .nil)),res:=(.cons (.pd Y3) .nil),fns:=[],α:=El Y3,f:=fun x=>F158 x.1 x.2.1,unp:=fun z=>(((),(),()),(z,()))}
theorem F158_ok:ZL Tryz.prog 130 F158S:=WS (rws:=[]) (zxs:=[]) (nt:=19) (m:=[]) (fn:=Tryz.f130) (hint:=(hS (.seq (hS (.lp (en [pd 8 Y3] [0,1,7]) [(.exit 0,e0),(.ret,en [pd 4 Y3] [])] .leaf)) .leaf))) (pack:=fun y=>y.2.1) KZ tab_ok trivial fun x z h=>.trans (by kernel_rfl) h
def F152:(El K4)->(El Y91)->Option (El Y4):=fun a b=>Va (F158 a b) fun c=>some (decide ((0:Int)<=c))
def F152S:Tr.Spec:= {args:=(.cons (.pd K4) (.cons (.pd Y91) .nil)),res:=(.cons (.pd Y4) .nil),fns:=[],α:=El Y4,f:=fun x=>F152 x.1 x.2.1,unp:=fun z=>(((),(),()),(z,()))}
theorem F152_ok:ZL Tryz.prog 80 F152S:=WS (rws:=[]) (zxs:=[]) (nt:=9) (m:=[(130,[F158S])]) (fn:=Tryz.f80) (hint:=.leaf) (pack:=fun y=>y.2.1) KZ tab_ok ⟨⟨F158_ok,trivial⟩,trivial⟩ fun x z h=>.trans (by kernel_rfl) h
end
end Qn

