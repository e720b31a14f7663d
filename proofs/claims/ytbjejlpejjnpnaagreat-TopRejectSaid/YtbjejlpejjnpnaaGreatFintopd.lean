/- The functions of the program as functions of Lean, and that the program computes them; printed by a program of mine. Conditions: none. -/
import Derived.Test.YtbjejlpejjnpnaaGreatFintopc
open Tr Go Go.Proofs
open Option renaming bind ->Va
namespace Q
noncomputable def F155:(El Jd)->(El Jd)->Option (El Y4):=fun a b=>
 Va
 (run
 (fun s0=>
 bif decide (s0<(4:Int)) then
 Va (Zn s0 (4:Nat)) fun c=>
 Va a[c]? fun d=>
 Va (Zn s0 (4:Nat)) fun e=>
 Va b[e]? fun f=>
 bif decide (f<d) then some (.inr (.inr false)) else some (.inl (IntKind.wrap .i64 (s0+(1:Int))))
 else some (.inr (.inl ())))
 (0:Int))
 fun g=>Sum.elim (fun _=>Va (Tr.eqEl.eqs (Tr.eqEl (Tr.Ty.int .i64)) a b) fun h=>some !h) (fun i=>some i) g
noncomputable def F155E:Zj:=ZG 17 Tryz.f17 20 [] (hS (.seq (hS (.lp (en [pd 5 Y3] [2,3]) [(.exit 0,en [] [2,3]),(.ret,en [pd 4 Y4] [])] .leaf)) .leaf)) (.p Jd (.q Jd)) (.pd Y4) (u2 F155)
noncomputable def F204:(El ZH)->(El ZR)->(El KK)->Option (El Y4):=fun c b f=>
 Va (Va (F206 c b) fun q=>bif !q then some true else some (decide ((12:Int)<(↑(List.length f.1):Int)))) fun r=>
 bif r then Va F205 fun s=>some s
 else
 Va (F156 c b f) fun a=>
 bif !decide (a.2=(0:Int)) then some false
 else
 Va (F142 c b f) fun o=>
 bif !decide (o.2=(0:Int)) then
 Va
 (bif
 decide (a.1.1=(2:Int)) &&
 (decide (a.1.2.1=o.1) && (decide (a.1.2.2.1=o.2) &&decide (a.1.2.2.2.1=(0:Int)))) then
 Va F205 fun t=>some t
 else some false)
 fun u=>some u
 else
 Va (F109 c b) fun p=>
 Va
 (bif !decide (p.2=(0:Int)) then some true
 else
 bif decide (a.1.2.2.2.1<(0:Int)) then some true
 else
 bif decide ((↑(List.length p.1):Int)<=a.1.2.2.2.1) then some true
 else bif !decide (a.1.2.1=(0:Int)) then some true else some !decide (a.1.2.2.1=(0:Int)))
 fun v=>
 bif v then some false
 else
 Va (F131 c b f) fun w=>
 Va (F137 b w.1) fun d=>
 Va (idx p.1 a.1.2.2.2.1) fun g=>
 Va (F137 b g.2.1) fun e=>
 Va
 (bif decide (a.1.1=(1:Int)) then some (decide (a.1.1=(1:Int))) else some (decide (a.1.1=(4:Int))))
 fun h=>
 bif h then
 Va
 (Va (Tr.eqEl.eqs (Tr.eqEl (Tr.Ty.int .i64)) d e) fun i=>
 bif i then Va F205 fun j=>some j else some false)
 fun k=>some k
 else
 bif decide (a.1.1=(3:Int)) then
 Va (Va (F155 e d) fun l=>bif l then Va F205 fun m=>some m else some false)
 fun n=>some n
 else some false
abbrev F204A:Pats:=(.cons (.pd ZH) (.cons (.pd ZR) (.cons (.pd KK) .nil)))
noncomputable def F204S:Tr.Spec:= {args:=F204A,res:=(.cons (.pd Y4) .nil),fns:=[],α:=El Y4,f:=fun x=>F204 x.1 x.2.1 x.2.2.1,unp:=fun z=>(((),(),(),()),(z,()))}
theorem F204_ok:Z7 Tryz.prog 4 F204S:=Yy (rws:=[]) (zxs:=[]) (nt:=123) (m:=[(6,[F206E.S]),(9,[F109E.S]),(12,[F205S]),(13,[F156E.S]),(14,[F142E.S]),(15,[F131E.S]),(16,[F137E.S]),(17,[F155E.S])]) (fn:=Tryz.f4) (hint:=(hS (.seq (.seq (.reg [(27,Y4)]) .leaf) (hS (hS (hS (.seq (hS (.cnd none (.seq (.reg [(6,Y4)]) .leaf) .leaf)) (hS (.seq (.seq (.reg [(84,Y4)]) .leaf) (hS (hS (.seq (hS (.seq (hS (.cnd (some ((en [] [16,17,105]),[(.normal,en [pd 106 Y4] [16,17,105])])) .leaf .leaf)) (.cnd none (.seq (.reg [(6,Y4)]) .leaf) (hS (.cnd none (.seq (.reg [(6,Y4)]) .leaf) .leaf))))) .leaf)))))))))))) (pack:=fun y=>y.2.1) X5 tab_ok ⟨⟨F206E.ok,trivial⟩,⟨F109E.ok,trivial⟩,⟨F205_ok,trivial⟩,⟨F156E.ok,trivial⟩,⟨F142E.ok,trivial⟩,⟨F131E.ok,trivial⟩,⟨F137E.ok,trivial⟩,⟨F155E.ok,trivial⟩,trivial⟩ fun x z h=>.trans (by kernel_rfl) h
end Q

