/- slices.Clone of legs and of tickets. Conditions: none. -/
import Derived.Test.YtdpenljjnfmgiaaGreatProg
import Derived.KernelRfl
import Derived.Tactics
import Derived.Tactics2
import Derived.StillTactics
import Derived.LoopTactic
import Derived.WalkMore
import Derived.Test.YtdpenljjnfmgiaaGreatTsJ
open Array renaming getElem?_push ->Vd,size_push ->Vi
open Bool renaming not_false ->Vj
open List renaming length ->Vb,isEmpty_cons ->Vf,length_nil ->Vg,nil_append ->Vh,isEmpty ->Vl
open Nat renaming le_refl ->Vc,lt_of_lt_of_le ->Ve
open Option renaming bind ->Va
open Go.Sem renaming run ->Vk
namespace Tr
open Go Go.Proofs
abbrev ZgJ:Ty:= .prod .bool (.prod (.int .i64) (.prod (.int .i64) (.prod (.int .i64) (.prod (.int .i64) (.prod (.int .i64) (.prod (.int .i64) (.prod (.int .i64) (.prod .bool .unit))))))))
abbrev ZgI:Ty:= .prod (.int .i64) (.prod (.int .i64) (.prod (.int .i64) (.prod (.int .i64) .unit)))
theorem ZoW:Tryz.prog.follows .mixedOrders=true:=by kernel_rfl
def Zna:List (Nat×Ty):=[(3, .int .i64),(4, .bool),(82,ZgJ),(46, .sl ZgJ)]
theorem Zlg:ZgM Tryz.prog Zna [] [] []=true:=by kernel_rfl
def ZhP(xs:List (El ZgJ)):Option (List (El ZgJ)):=Va (Zas !Vl xs) fun _=>Va (Zas (decide (Vb ([]:List (El ZgJ))+Vb xs<=Zax))) fun _=>some ([]++xs)
def clnLegG(xs:List (El ZgJ)):Option (List (El ZgJ)):=bif decide (xs.length<=Zax) then some xs else none
noncomputable def ZpW(xs:List (El ZgJ)):Option (List (El ZgJ)):=Zh5 (mkE Zna [] [] [] [] [] 8) (Zcp Tryz.f57) Tryz.f57.results .leaf (.cons (.pd (.sl ZgJ)) .nil) (.cons (.pd (.sl ZgJ)) .nil) (fun y=>y.2.1) (xs,())
theorem Zm7(xs:List (El ZgJ)):ZpW xs=ZhP xs:=by kernel_rfl
def ZpG:Spec:= {args:= .cons (.pd (.sl ZgJ)) .nil,res:= .cons (.pd (.sl ZgJ)) .nil,fns:=[],α:=List (El ZgJ),f:=fun x=>ZhP x.1,unp:=fun z=>(((),()),(z,())) }
theorem ZjA:ZaF Tryz.prog 57 ZpG:=Zaf (m:=[]) (fn:=Tryz.f57) (nt:=8) (rws:=[]) (zxs:=[]) (hint:= .leaf) (pack:=fun y=>y.2.1) ZoW Zlg trivial fun x z h=>(Zm7 x.1).trans h
def ZpN:Spec:= {args:= .cons (.pd (.sl ZgJ)) .nil,res:= .cons (.pd (.sl ZgJ)) .nil,fns:=[],α:=List (El ZgJ),f:=fun x=>clnLegG x.1,unp:=fun z=>(((),()),(z,())) }
set_option maxRecDepth 1000000 in
theorem Zj9(ad:Option Addr)(c:Nat)(w:World):
  Calls Tryz.prog 57 #[.slice ad 0 c] w fun e w' => ∃a' c',e= .returned (.slice a' 0 c')/\(w' =w\/ ∃o,w' =w.alloc o):=by
 cases ad with
 |none=>
  go_enter Tryz.func57,Tryz.ntmps57
  go_wp2
  have hb:Vk Tryz.prog (binOp .eql 46 (.slice none 0 c) (.slice none 0 0)) w= .ok (.bool true) w:=by kernel_rfl
  rw[hb]
  go_wp2
  exact⟨rfl, .slice none 0 0,by kernel_rfl,none,0,rfl, .inl rfl⟩
 |some ad=>
  go_enter Tryz.func57,Tryz.ntmps57
  go_wp2
  have hb:Vk Tryz.prog (binOp .eql 46 (.slice (some ad) 0 c) (.slice none 0 0)) w= .ok (.bool false) w:=by kernel_rfl
  rw[hb]
  go_wp2
  exact⟨rfl, .slice (some {block:=w.heap.size,off:=0}) 0 0,by kernel_rfl,_,_,rfl, .inr ⟨_,rfl⟩⟩
theorem clnLeg_ok:ZaF Tryz.prog 57 ZpN where
 wf:=rfl
 fn:=⟨_,Tryz.func57,by kernel_rfl,by kernel_rfl⟩
 run:=by
  intro w I vals js x (z:List (El ZgJ)) hpv hnd hfree hI amb hz;obtain⟨xs,⟨⟩⟩:=x
  change List (El ZgJ) at xs
  have hz:clnLegG xs=some z:=hz;unfold clnLegG at hz;by_cases hle:xs.length<=Zax
  case neg=>rw[decide_eq_false hle]at hz;simp at hz
  rw[decide_eq_true hle]at hz;simp only[cond_true,Option.some.injEq]at hz;subst hz
  cases xs with
  |cons y ys=>exact ZjA.run w I vals js (y::ys,()) (y::ys) hpv hnd hfree hI amb (by show ZhP (y::ys)=_;simp only[ZhP,Vf,Vj,Zas,Vg,Nat.zero_add,decide_eq_true hle,Vh];rfl)
  |nil=>
   obtain⟨j1,j2,v,r,rfl,rfl,⟨hpc,hag⟩,rfl,rfl⟩:=hpv;obtain⟨rfl,hrd⟩:=hpc;have hagv:Zav v=false:=hag.resolve_left fun h=>by cases h
   obtain⟨a,cap,css,h3,h4,h5⟩:=hrd;have hv:=Zal h3 hagv;subst hv;refine(Zj9 a cap w).mono ?_;rintro e w' ⟨a',c',rfl,hw⟩;have hrr:Rd w' I (.sl ZgJ) ([]:List (El ZgJ)) [.slice a' 0 c']:=⟨a',c',[],rfl,trivial,fun h=>absurd rfl h,Nat.zero_le _⟩
   have hsz:w.heap.size<=w'.heap.size:=by
    rcases hw with rfl| ⟨o,rfl⟩
    ·exact Vc _
    ·show _<=(w.heap.push o).size;rw[Vi];omega
   have hof: ∀b,b<w.heap.size->w'.heap[b]? =w.heap[b]? :=by
    intro b hb;rcases hw with rfl| ⟨o,rfl⟩
    ·rfl
    ·show (w.heap.push o)[b]? =_;rw[Vd];grind
   have hos:w'.os=w.os/\w'.tape=w.tape/\Zjh true w' w:=by
    rcases hw with rfl| ⟨o,rfl⟩
    ·exact⟨rfl,rfl, .rfl⟩
    ·exact⟨rfl,rfl,rfl,fun _=>Vc _⟩
   exact⟨_,rfl,I,[],[],⟨[],[],_,_,rfl,rfl,rfl,rfl⟩,⟨[.slice a' 0 c'],⟨[],[],_,_,rfl,rfl,⟨⟨rfl,hrr⟩, .inr rfl⟩,rfl,rfl⟩,rfl⟩,by simp,by simp,fun _ h=>h,fun b hb=>⟨Ve (hI b hb) hsz, .inl hb⟩,hos.1,hos.2.1,hos.2.2,hsz,fun b hb _=>hof b hb⟩
def ZnN:List (Nat×Ty):=[(3, .int .i64),(4, .bool),(118,ZgI),(51, .sl ZgI)]
theorem Zlk:ZgM Tryz.prog ZnN [] [] []=true:=by kernel_rfl
def ZhM(xs:List (El ZgI)):Option (List (El ZgI)):=Va (Zas !Vl xs) fun _=>Va (Zas (decide (Vb ([]:List (El ZgI))+Vb xs<=Zax))) fun _=>some ([]++xs)
def clnTicG(xs:List (El ZgI)):Option (List (El ZgI)):=bif decide (xs.length<=Zax) then some xs else none
noncomputable def ZpF(xs:List (El ZgI)):Option (List (El ZgI)):=Zh5 (mkE ZnN [] [] [] [] [] 8) (Zcp Tryz.f58) Tryz.f58.results .leaf (.cons (.pd (.sl ZgI)) .nil) (.cons (.pd (.sl ZgI)) .nil) (fun y=>y.2.1) (xs,())
theorem Zns(xs:List (El ZgI)):ZpF xs=ZhM xs:=by kernel_rfl
def ZpX:Spec:= {args:= .cons (.pd (.sl ZgI)) .nil,res:= .cons (.pd (.sl ZgI)) .nil,fns:=[],α:=List (El ZgI),f:=fun x=>ZhM x.1,unp:=fun z=>(((),()),(z,())) }
theorem ZjR:ZaF Tryz.prog 58 ZpX:=Zaf (m:=[]) (fn:=Tryz.f58) (nt:=8) (rws:=[]) (zxs:=[]) (hint:= .leaf) (pack:=fun y=>y.2.1) ZoW Zlk trivial fun x z h=>(Zns x.1).trans h
def ZpQ:Spec:= {args:= .cons (.pd (.sl ZgI)) .nil,res:= .cons (.pd (.sl ZgI)) .nil,fns:=[],α:=List (El ZgI),f:=fun x=>clnTicG x.1,unp:=fun z=>(((),()),(z,())) }
set_option maxRecDepth 1000000 in
theorem Zjr(ad:Option Addr)(c:Nat)(w:World):
  Calls Tryz.prog 58 #[.slice ad 0 c] w fun e w' => ∃a' c',e= .returned (.slice a' 0 c')/\(w' =w\/ ∃o,w' =w.alloc o):=by
 cases ad with
 |none=>
  go_enter Tryz.func58,Tryz.ntmps58
  go_wp2
  have hb:Vk Tryz.prog (binOp .eql 51 (.slice none 0 c) (.slice none 0 0)) w= .ok (.bool true) w:=by kernel_rfl
  rw[hb]
  go_wp2
  exact⟨rfl, .slice none 0 0,by kernel_rfl,none,0,rfl, .inl rfl⟩
 |some ad=>
  go_enter Tryz.func58,Tryz.ntmps58
  go_wp2
  have hb:Vk Tryz.prog (binOp .eql 51 (.slice (some ad) 0 c) (.slice none 0 0)) w= .ok (.bool false) w:=by kernel_rfl
  rw[hb]
  go_wp2
  exact⟨rfl, .slice (some {block:=w.heap.size,off:=0}) 0 0,by kernel_rfl,_,_,rfl, .inr ⟨_,rfl⟩⟩
theorem clnTic_ok:ZaF Tryz.prog 58 ZpQ where
 wf:=rfl
 fn:=⟨_,Tryz.func58,by kernel_rfl,by kernel_rfl⟩
 run:=by
  intro w I vals js x (z:List (El ZgI)) hpv hnd hfree hI amb hz;obtain⟨xs,⟨⟩⟩:=x
  change List (El ZgI) at xs
  have hz:clnTicG xs=some z:=hz;unfold clnTicG at hz;by_cases hle:xs.length<=Zax
  case neg=>rw[decide_eq_false hle]at hz;simp at hz
  rw[decide_eq_true hle]at hz;simp only[cond_true,Option.some.injEq]at hz;subst hz
  cases xs with
  |cons y ys=>exact ZjR.run w I vals js (y::ys,()) (y::ys) hpv hnd hfree hI amb (by show ZhM (y::ys)=_;simp only[ZhM,Vf,Vj,Zas,Vg,Nat.zero_add,decide_eq_true hle,Vh];rfl)
  |nil=>
   obtain⟨j1,j2,v,r,rfl,rfl,⟨hpc,hag⟩,rfl,rfl⟩:=hpv;obtain⟨rfl,hrd⟩:=hpc;have hagv:Zav v=false:=hag.resolve_left fun h=>by cases h
   obtain⟨a,cap,css,h3,h4,h5⟩:=hrd;have hv:=Zal h3 hagv;subst hv;refine(Zjr a cap w).mono ?_;rintro e w' ⟨a',c',rfl,hw⟩;have hrr:Rd w' I (.sl ZgI) ([]:List (El ZgI)) [.slice a' 0 c']:=⟨a',c',[],rfl,trivial,fun h=>absurd rfl h,Nat.zero_le _⟩
   have hsz:w.heap.size<=w'.heap.size:=by
    rcases hw with rfl| ⟨o,rfl⟩
    ·exact Vc _
    ·show _<=(w.heap.push o).size;rw[Vi];omega
   have hof: ∀b,b<w.heap.size->w'.heap[b]? =w.heap[b]? :=by
    intro b hb;rcases hw with rfl| ⟨o,rfl⟩
    ·rfl
    ·show (w.heap.push o)[b]? =_;rw[Vd];grind
   have hos:w'.os=w.os/\w'.tape=w.tape/\Zjh true w' w:=by
    rcases hw with rfl| ⟨o,rfl⟩
    ·exact⟨rfl,rfl, .rfl⟩
    ·exact⟨rfl,rfl,rfl,fun _=>Vc _⟩
   exact⟨_,rfl,I,[],[],⟨[],[],_,_,rfl,rfl,rfl,rfl⟩,⟨[.slice a' 0 c'],⟨[],[],_,_,rfl,rfl,⟨⟨rfl,hrr⟩, .inr rfl⟩,rfl,rfl⟩,rfl⟩,by simp,by simp,fun _ h=>h,fun b hb=>⟨Ve (hI b hb) hsz, .inl hb⟩,hos.1,hos.2.1,hos.2.2,hsz,fun b hb _=>hof b hb⟩
end Tr
