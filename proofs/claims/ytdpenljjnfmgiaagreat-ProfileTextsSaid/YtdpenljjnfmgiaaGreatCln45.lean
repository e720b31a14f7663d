/- slices.Clone of legs and of tickets. Conditions: none. -/
import Derived.Test.YtdpenljjnfmgiaaGreatProg
import Derived.KernelRfl
import Derived.Tactics
import Derived.Tactics2
import Derived.StillTactics
import Derived.LoopTactic
import Derived.WalkMore
import Derived.Test.YtdpenljjnfmgiaaGreatTsJ
open Array renaming getElem?_push ->Vd,size_push ->Vi
open Bool renaming not_false ->Vj
open List renaming length ->Vb,isEmpty_cons ->Vf,length_nil ->Vg,nil_append ->Vh,isEmpty ->Vl
open Nat renaming le_refl ->Vc,lt_of_lt_of_le ->Ve
open Option renaming bind ->Va
open Go.Sem renaming run ->Vk
namespace Tr
open Go Go.Proofs
abbrev Zfq:Ty:= .prod .bool (.prod (.int .i64) (.prod (.int .i64) (.prod (.int .i64) (.prod (.int .i64) (.prod (.int .i64) (.prod (.int .i64) (.prod (.int .i64) (.prod .bool .unit))))))))
abbrev Zfp:Ty:= .prod (.int .i64) (.prod (.int .i64) (.prod (.int .i64) (.prod (.int .i64) .unit)))
theorem Zl3:Tryz.prog.follows .mixedOrders=true:=by kernel_rfl
def ZkL:List (Nat×Ty):=[(3, .int .i64),(4, .bool),(82,Zfq),(46, .sl Zfq)]
theorem Zi6:Zfv Tryz.prog ZkL [] [] []=true:=by kernel_rfl
def Zgd(xs:List (El Zfq)):Option (List (El Zfq)):=Va (Zav !Vl xs) fun _=>Va (Zav (decide (Vb ([]:List (El Zfq))+Vb xs<=ZaE))) fun _=>some ([]++xs)
def clnLegG(xs:List (El Zfq)):Option (List (El Zfq)):=bif decide (xs.length<=ZaE) then some xs else none
noncomputable def Zmv(xs:List (El Zfq)):Option (List (El Zfq)):=ZgG (mkE ZkL [] [] [] [] [] 8) (Zb1 Tryz.f57) Tryz.f57.results .leaf (.cons (.pd (.sl Zfq)) .nil) (.cons (.pd (.sl Zfq)) .nil) (fun y=>y.2.1) (xs,())
theorem Zkc(xs:List (El Zfq)):Zmv xs=Zgd xs:=by kernel_rfl
def Zmj:Spec:= {args:= .cons (.pd (.sl Zfq)) .nil,res:= .cons (.pd (.sl Zfq)) .nil,fns:=[],α:=List (El Zfq),f:=fun x=>Zgd x.1,unp:=fun z=>(((),()),(z,())) }
theorem Zic:ZaC Tryz.prog 57 Zmj:=Zag (m:=[]) (fn:=Tryz.f57) (nt:=8) (rws:=[]) (zxs:=[]) (hint:= .leaf) (pack:=fun y=>y.2.1) Zl3 Zi6 trivial fun x z h=>(Zkc x.1).trans h
def ZmT:Spec:= {args:= .cons (.pd (.sl Zfq)) .nil,res:= .cons (.pd (.sl Zfq)) .nil,fns:=[],α:=List (El Zfq),f:=fun x=>clnLegG x.1,unp:=fun z=>(((),()),(z,())) }
set_option maxRecDepth 1000000 in
theorem Zib(ad:Option Addr)(c:Nat)(w:World):
  Calls Tryz.prog 57 #[.slice ad 0 c] w fun e w' => ∃a' c',e= .returned (.slice a' 0 c')/\(w' =w\/ ∃o,w' =w.alloc o):=by
 cases ad with
 |none=>
  go_enter Tryz.func57,Tryz.ntmps57
  go_wp2
  have hb:Vk Tryz.prog (binOp .eql 46 (.slice none 0 c) (.slice none 0 0)) w= .ok (.bool true) w:=by kernel_rfl
  rw[hb]
  go_wp2
  exact⟨rfl, .slice none 0 0,by kernel_rfl,none,0,rfl, .inl rfl⟩
 |some ad=>
  go_enter Tryz.func57,Tryz.ntmps57
  go_wp2
  have hb:Vk Tryz.prog (binOp .eql 46 (.slice (some ad) 0 c) (.slice none 0 0)) w= .ok (.bool false) w:=by kernel_rfl
  rw[hb]
  go_wp2
  exact⟨rfl, .slice (some {block:=w.heap.size,off:=0}) 0 0,by kernel_rfl,_,_,rfl, .inr ⟨_,rfl⟩⟩
theorem clnLeg_ok:ZaC Tryz.prog 57 ZmT where
 wf:=rfl
 fn:=⟨_,Tryz.func57,by kernel_rfl,by kernel_rfl⟩
 run:=by
  intro w I vals js x (z:List (El Zfq)) hpv hnd hfree hI amb hz;obtain⟨xs,⟨⟩⟩:=x
  change List (El Zfq) at xs
  have hz:clnLegG xs=some z:=hz;unfold clnLegG at hz;by_cases hle:xs.length<=ZaE
  case neg=>rw[decide_eq_false hle]at hz;simp at hz
  rw[decide_eq_true hle]at hz;simp only[cond_true,Option.some.injEq]at hz;subst hz
  cases xs with
  |cons y ys=>exact Zic.run w I vals js (y::ys,()) (y::ys) hpv hnd hfree hI amb (by show Zgd (y::ys)=_;simp only[Zgd,Vf,Vj,Zav,Vg,Nat.zero_add,decide_eq_true hle,Vh];rfl)
  |nil=>
   obtain⟨j1,j2,v,r,rfl,rfl,⟨hpc,hag⟩,rfl,rfl⟩:=hpv;obtain⟨rfl,hrd⟩:=hpc;have hagv:Zar v=false:=hag.resolve_left fun h=>by cases h
   obtain⟨a,cap,css,h3,h4,h5⟩:=hrd;have hv:=Zak h3 hagv;subst hv;refine(Zib a cap w).mono ?_;rintro e w' ⟨a',c',rfl,hw⟩;have hrr:Rd w' I (.sl Zfq) ([]:List (El Zfq)) [.slice a' 0 c']:=⟨a',c',[],rfl,trivial,fun h=>absurd rfl h,Nat.zero_le _⟩
   have hsz:w.heap.size<=w'.heap.size:=by
    rcases hw with rfl| ⟨o,rfl⟩
    ·exact Vc _
    ·show _<=(w.heap.push o).size;rw[Vi];omega
   have hof: ∀b,b<w.heap.size->w'.heap[b]? =w.heap[b]? :=by
    intro b hb;rcases hw with rfl| ⟨o,rfl⟩
    ·rfl
    ·show (w.heap.push o)[b]? =_;rw[Vd];grind
   have hos:w'.os=w.os/\w'.tape=w.tape/\Zhu true w' w:=by
    rcases hw with rfl| ⟨o,rfl⟩
    ·exact⟨rfl,rfl, .rfl⟩
    ·exact⟨rfl,rfl,rfl,fun _=>Vc _⟩
   exact⟨_,rfl,I,[],[],⟨[],[],_,_,rfl,rfl,rfl,rfl⟩,⟨[.slice a' 0 c'],⟨[],[],_,_,rfl,rfl,⟨⟨rfl,hrr⟩, .inr rfl⟩,rfl,rfl⟩,rfl⟩,by simp,by simp,fun _ h=>h,fun b hb=>⟨Ve (hI b hb) hsz, .inl hb⟩,hos.1,hos.2.1,hos.2.2,hsz,fun b hb _=>hof b hb⟩
def Zj8:List (Nat×Ty):=[(3, .int .i64),(4, .bool),(118,Zfp),(51, .sl Zfp)]
theorem ZiX:Zfv Tryz.prog Zj8 [] [] []=true:=by kernel_rfl
def ZgK(xs:List (El Zfp)):Option (List (El Zfp)):=Va (Zav !Vl xs) fun _=>Va (Zav (decide (Vb ([]:List (El Zfp))+Vb xs<=ZaE))) fun _=>some ([]++xs)
def clnTicG(xs:List (El Zfp)):Option (List (El Zfp)):=bif decide (xs.length<=ZaE) then some xs else none
noncomputable def ZmV(xs:List (El Zfp)):Option (List (El Zfp)):=ZgG (mkE Zj8 [] [] [] [] [] 8) (Zb1 Tryz.f58) Tryz.f58.results .leaf (.cons (.pd (.sl Zfp)) .nil) (.cons (.pd (.sl Zfp)) .nil) (fun y=>y.2.1) (xs,())
theorem Zj5(xs:List (El Zfp)):ZmV xs=ZgK xs:=by kernel_rfl
def ZmX:Spec:= {args:= .cons (.pd (.sl Zfp)) .nil,res:= .cons (.pd (.sl Zfp)) .nil,fns:=[],α:=List (El Zfp),f:=fun x=>ZgK x.1,unp:=fun z=>(((),()),(z,())) }
theorem Zh6:ZaC Tryz.prog 58 ZmX:=Zag (m:=[]) (fn:=Tryz.f58) (nt:=8) (rws:=[]) (zxs:=[]) (hint:= .leaf) (pack:=fun y=>y.2.1) Zl3 ZiX trivial fun x z h=>(Zj5 x.1).trans h
def ZmO:Spec:= {args:= .cons (.pd (.sl Zfp)) .nil,res:= .cons (.pd (.sl Zfp)) .nil,fns:=[],α:=List (El Zfp),f:=fun x=>clnTicG x.1,unp:=fun z=>(((),()),(z,())) }
set_option maxRecDepth 1000000 in
theorem ZhF(ad:Option Addr)(c:Nat)(w:World):
  Calls Tryz.prog 58 #[.slice ad 0 c] w fun e w' => ∃a' c',e= .returned (.slice a' 0 c')/\(w' =w\/ ∃o,w' =w.alloc o):=by
 cases ad with
 |none=>
  go_enter Tryz.func58,Tryz.ntmps58
  go_wp2
  have hb:Vk Tryz.prog (binOp .eql 51 (.slice none 0 c) (.slice none 0 0)) w= .ok (.bool true) w:=by kernel_rfl
  rw[hb]
  go_wp2
  exact⟨rfl, .slice none 0 0,by kernel_rfl,none,0,rfl, .inl rfl⟩
 |some ad=>
  go_enter Tryz.func58,Tryz.ntmps58
  go_wp2
  have hb:Vk Tryz.prog (binOp .eql 51 (.slice (some ad) 0 c) (.slice none 0 0)) w= .ok (.bool false) w:=by kernel_rfl
  rw[hb]
  go_wp2
  exact⟨rfl, .slice (some {block:=w.heap.size,off:=0}) 0 0,by kernel_rfl,_,_,rfl, .inr ⟨_,rfl⟩⟩
theorem clnTic_ok:ZaC Tryz.prog 58 ZmO where
 wf:=rfl
 fn:=⟨_,Tryz.func58,by kernel_rfl,by kernel_rfl⟩
 run:=by
  intro w I vals js x (z:List (El Zfp)) hpv hnd hfree hI amb hz;obtain⟨xs,⟨⟩⟩:=x
  change List (El Zfp) at xs
  have hz:clnTicG xs=some z:=hz;unfold clnTicG at hz;by_cases hle:xs.length<=ZaE
  case neg=>rw[decide_eq_false hle]at hz;simp at hz
  rw[decide_eq_true hle]at hz;simp only[cond_true,Option.some.injEq]at hz;subst hz
  cases xs with
  |cons y ys=>exact Zh6.run w I vals js (y::ys,()) (y::ys) hpv hnd hfree hI amb (by show ZgK (y::ys)=_;simp only[ZgK,Vf,Vj,Zav,Vg,Nat.zero_add,decide_eq_true hle,Vh];rfl)
  |nil=>
   obtain⟨j1,j2,v,r,rfl,rfl,⟨hpc,hag⟩,rfl,rfl⟩:=hpv;obtain⟨rfl,hrd⟩:=hpc;have hagv:Zar v=false:=hag.resolve_left fun h=>by cases h
   obtain⟨a,cap,css,h3,h4,h5⟩:=hrd;have hv:=Zak h3 hagv;subst hv;refine(ZhF a cap w).mono ?_;rintro e w' ⟨a',c',rfl,hw⟩;have hrr:Rd w' I (.sl Zfp) ([]:List (El Zfp)) [.slice a' 0 c']:=⟨a',c',[],rfl,trivial,fun h=>absurd rfl h,Nat.zero_le _⟩
   have hsz:w.heap.size<=w'.heap.size:=by
    rcases hw with rfl| ⟨o,rfl⟩
    ·exact Vc _
    ·show _<=(w.heap.push o).size;rw[Vi];omega
   have hof: ∀b,b<w.heap.size->w'.heap[b]? =w.heap[b]? :=by
    intro b hb;rcases hw with rfl| ⟨o,rfl⟩
    ·rfl
    ·show (w.heap.push o)[b]? =_;rw[Vd];grind
   have hos:w'.os=w.os/\w'.tape=w.tape/\Zhu true w' w:=by
    rcases hw with rfl| ⟨o,rfl⟩
    ·exact⟨rfl,rfl, .rfl⟩
    ·exact⟨rfl,rfl,rfl,fun _=>Vc _⟩
   exact⟨_,rfl,I,[],[],⟨[],[],_,_,rfl,rfl,rfl,rfl⟩,⟨[.slice a' 0 c'],⟨[],[],_,_,rfl,rfl,⟨⟨rfl,hrr⟩, .inr rfl⟩,rfl,rfl⟩,rfl⟩,by simp,by simp,fun _ h=>h,fun b hb=>⟨Ve (hI b hb) hsz, .inl hb⟩,hos.1,hos.2.1,hos.2.2,hsz,fun b hb _=>hof b hb⟩
end Tr
