/- More functions of the program as functions of Lean, and that the program computes them; printed by a program of mine. Conditions: none. -/
import Derived.Test.YtdpenljjnfmgiaaGreatFin45hb
open Tr Go Go.Proofs
open Go.IntKind renaming wrap ->Vb
open Option renaming bind ->Va
namespace Q
noncomputable def F59:(El He)->(El J8)->Option (El Y4):=fun a b=>
 Va
 (run
 (fun s0=>
 bif decide (s0<(↑(List.length a):Int)) then
 Va
 (Va (idx a s0) fun c=>
 bif decide (b.1<=c.2.1.1) then
 Va (idx a s0) fun d=>
 bif decide (d.2.1.2.1<=b.2.1) then Va (idx a s0) fun e=>some (decide (e.2.1.2.2.1<=b.2.2.1))
 else some false
 else some false)
 fun f=>bif f then some (.inr (.inr true)) else some (.inl (Vb .i64 (s0+(1:Int))))
 else some (.inr (.inl ())))
 (0:Int))
 fun g=>Sum.elim (fun _=>some false) (fun h=>some h) g
noncomputable def F59E:Zp:=Z5 30 Tryz.f30 43 [] (hS (.seq (hS (.lp (en [pd 5 Y3] [0,3]) [(.exit 0,e0),(.ret,en [pd 4 Y4] [])] (hS (.seq (.seq (.reg [(42,Y4)]) .leaf) .leaf)))) .leaf)) (.p He (.q J8)) (.pd Y4) (u2 F59)
noncomputable def F58:(El Zh)->(El Zm)->(El Y73)->Option (El Y4):=fun b c a=>
 Va
 (Va (F64 b c) fun k=>
 bif !k then some true
 else
 bif decide (a.2.1<a.1) then some true
 else
 Va (F63 b c a.1) fun l=>
 bif !decide (l=(0:Int)) then some true else Va (F63 b c a.2.1) fun m=>some !decide (m=(0:Int)))
 fun n=>
 bif n then Va F62 fun o=>some o
 else
 Va (F92 b c a.1) fun h=>
 Va (F92 b c a.2.1) fun j=>
 Va (bif !decide (h.2=(0:Int)) then some true else some !decide (j.2=(0:Int))) fun p=>
 bif p then some false
 else
 Va
 (run
 (fun d=>
 bif decide (d<(↑(List.length h.1):Int)) then
 Va (idx h.1 d) fun q=>
 Va (F59 j.1 q.2.1) fun e=>
 bif !e then some (.inr (.inr false)) else some (.inl (Vb .i64 (d+(1:Int))))
 else some (.inr (.inl ())))
 (0:Int))
 fun f=>Sum.elim (fun _=>Va F62 fun g=>some g) (fun i=>some i) f
abbrev F58A:Pats:=(.cons (.pd Zh) (.cons (.pd Zm) (.cons (.pd Y73) .nil)))
noncomputable def F58S:Tr.Spec:= {args:=F58A,res:=(.cons (.pd Y4) .nil),fns:=[],α:=El Y4,f:=fun x=>F58 x.1 x.2.1 x.2.2.1,unp:=fun z=>(((),(),(),()),(z,()))}
theorem F58_ok:ZL Tryz.prog 10 F58S:=WS (rws:=[]) (zxs:=[]) (nt:=77) (m:=[(13,[F63E.S]),(14,[F62S]),(15,[F92E.S]),(16,[F64E.S]),(30,[F59E.S])]) (fn:=Tryz.f10) (hint:=(hS (.seq (.seq (.reg [(38,Y4)]) .leaf) (hS (hS (.seq (.seq (.reg [(61,Y4)]) .leaf) (.seq (hS (.lp (en [pd 11 Y3] [7,9]) [(.exit 0,e0),(.ret,en [pd 6 Y4] [])] .leaf)) .leaf))))))) (pack:=fun y=>y.2.1) KZ tab_okH ⟨⟨F63E.ok,trivial⟩,⟨F62_ok,trivial⟩,⟨F92E.ok,trivial⟩,⟨F64E.ok,trivial⟩,⟨F59E.ok,trivial⟩,trivial⟩ fun x z h=>.trans (by kernel_rfl) h
end Q

