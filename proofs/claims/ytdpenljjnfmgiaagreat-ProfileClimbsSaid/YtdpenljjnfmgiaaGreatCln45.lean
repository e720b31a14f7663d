/- slices.Clone of legs and of tickets. Conditions: none. -/
import Derived.Test.YtdpenljjnfmgiaaGreatProg
import Derived.KernelRfl
import Derived.Tactics
import Derived.Tactics2
import Derived.StillTactics
import Derived.LoopTactic
import Derived.WalkMore
import Derived.Test.YtdpenljjnfmgiaaGreatTsJ
open Array renaming getElem?_push ->Vd,size_push ->Vi
open Bool renaming not_false ->Vj
open List renaming length ->Vb,isEmpty_cons ->Vf,length_nil ->Vg,nil_append ->Vh,isEmpty ->Vl
open Nat renaming le_refl ->Vc,lt_of_lt_of_le ->Ve
open Option renaming bind ->Va
open Go.Sem renaming run ->Vk
namespace Tr
open Go Go.Proofs
abbrev ZfC:Ty:= .prod .bool (.prod (.int .i64) (.prod (.int .i64) (.prod (.int .i64) (.prod (.int .i64) (.prod (.int .i64) (.prod (.int .i64) (.prod (.int .i64) (.prod .bool .unit))))))))
abbrev ZfA:Ty:= .prod (.int .i64) (.prod (.int .i64) (.prod (.int .i64) (.prod (.int .i64) .unit)))
theorem Zmt:Tryz.prog.follows .mixedOrders=true:=by kernel_rfl
def Zj9:List (Nat×Ty):=[(3, .int .i64),(4, .bool),(82,ZfC),(46, .sl ZfC)]
theorem Zjl:ZeN Tryz.prog Zj9 [] [] []=true:=by kernel_rfl
def ZgX(xs:List (El ZfC)):Option (List (El ZfC)):=Va (Zar !Vl xs) fun _=>Va (Zar (decide (Vb ([]:List (El ZfC))+Vb xs<=Zaz))) fun _=>some ([]++xs)
def clnLegG(xs:List (El ZfC)):Option (List (El ZfC)):=bif decide (xs.length<=Zaz) then some xs else none
noncomputable def ZmT(xs:List (El ZfC)):Option (List (El ZfC)):=ZgO (mkE Zj9 [] [] [] [] [] 8) (Zbc Tryz.f57) Tryz.f57.results .leaf (.cons (.pd (.sl ZfC)) .nil) (.cons (.pd (.sl ZfC)) .nil) (fun y=>y.2.1) (xs,())
theorem Zk1(xs:List (El ZfC)):ZmT xs=ZgX xs:=by kernel_rfl
def Znd:Spec:= {args:= .cons (.pd (.sl ZfC)) .nil,res:= .cons (.pd (.sl ZfC)) .nil,fns:=[],α:=List (El ZfC),f:=fun x=>ZgX x.1,unp:=fun z=>(((),()),(z,())) }
theorem Zh6:ZaC Tryz.prog 57 Znd:=Zag (m:=[]) (fn:=Tryz.f57) (nt:=8) (rws:=[]) (zxs:=[]) (hint:= .leaf) (pack:=fun y=>y.2.1) Zmt Zjl trivial fun x z h=>(Zk1 x.1).trans h
def ZmV:Spec:= {args:= .cons (.pd (.sl ZfC)) .nil,res:= .cons (.pd (.sl ZfC)) .nil,fns:=[],α:=List (El ZfC),f:=fun x=>clnLegG x.1,unp:=fun z=>(((),()),(z,())) }
set_option maxRecDepth 1000000 in
theorem ZhW(ad:Option Addr)(c:Nat)(w:World):
  Calls Tryz.prog 57 #[.slice ad 0 c] w fun e w' => ∃a' c',e= .returned (.slice a' 0 c')/\(w' =w\/ ∃o,w' =w.alloc o):=by
 cases ad with
 |none=>
  go_enter Tryz.func57,Tryz.ntmps57
  go_wp2
  have hb:Vk Tryz.prog (binOp .eql 46 (.slice none 0 c) (.slice none 0 0)) w= .ok (.bool true) w:=by kernel_rfl
  rw[hb]
  go_wp2
  exact⟨rfl, .slice none 0 0,by kernel_rfl,none,0,rfl, .inl rfl⟩
 |some ad=>
  go_enter Tryz.func57,Tryz.ntmps57
  go_wp2
  have hb:Vk Tryz.prog (binOp .eql 46 (.slice (some ad) 0 c) (.slice none 0 0)) w= .ok (.bool false) w:=by kernel_rfl
  rw[hb]
  go_wp2
  exact⟨rfl, .slice (some {block:=w.heap.size,off:=0}) 0 0,by kernel_rfl,_,_,rfl, .inr ⟨_,rfl⟩⟩
theorem clnLeg_ok:ZaC Tryz.prog 57 ZmV where
 wf:=rfl
 fn:=⟨_,Tryz.func57,by kernel_rfl,by kernel_rfl⟩
 run:=by
  intro w I vals js x (z:List (El ZfC)) hpv hnd hfree hI amb hz;obtain⟨xs,⟨⟩⟩:=x
  change List (El ZfC) at xs
  have hz:clnLegG xs=some z:=hz;unfold clnLegG at hz;by_cases hle:xs.length<=Zaz
  case neg=>rw[decide_eq_false hle]at hz;simp at hz
  rw[decide_eq_true hle]at hz;simp only[cond_true,Option.some.injEq]at hz;subst hz
  cases xs with
  |cons y ys=>exact Zh6.run w I vals js (y::ys,()) (y::ys) hpv hnd hfree hI amb (by show ZgX (y::ys)=_;simp only[ZgX,Vf,Vj,Zar,Vg,Nat.zero_add,decide_eq_true hle,Vh];rfl)
  |nil=>
   obtain⟨j1,j2,v,r,rfl,rfl,⟨hpc,hag⟩,rfl,rfl⟩:=hpv;obtain⟨rfl,hrd⟩:=hpc;have hagv:Zas v=false:=hag.resolve_left fun h=>by cases h
   obtain⟨a,cap,css,h3,h4,h5⟩:=hrd;have hv:=Zak h3 hagv;subst hv;refine(ZhW a cap w).mono ?_;rintro e w' ⟨a',c',rfl,hw⟩;have hrr:Rd w' I (.sl ZfC) ([]:List (El ZfC)) [.slice a' 0 c']:=⟨a',c',[],rfl,trivial,fun h=>absurd rfl h,Nat.zero_le _⟩
   have hsz:w.heap.size<=w'.heap.size:=by
    rcases hw with rfl| ⟨o,rfl⟩
    ·exact Vc _
    ·show _<=(w.heap.push o).size;rw[Vi];omega
   have hof: ∀b,b<w.heap.size->w'.heap[b]? =w.heap[b]? :=by
    intro b hb;rcases hw with rfl| ⟨o,rfl⟩
    ·rfl
    ·show (w.heap.push o)[b]? =_;rw[Vd];grind
   have hos:w'.os=w.os/\w'.tape=w.tape/\ZhS true w' w:=by
    rcases hw with rfl| ⟨o,rfl⟩
    ·exact⟨rfl,rfl, .rfl⟩
    ·exact⟨rfl,rfl,rfl,fun _=>Vc _⟩
   exact⟨_,rfl,I,[],[],⟨[],[],_,_,rfl,rfl,rfl,rfl⟩,⟨[.slice a' 0 c'],⟨[],[],_,_,rfl,rfl,⟨⟨rfl,hrr⟩, .inr rfl⟩,rfl,rfl⟩,rfl⟩,by simp,by simp,fun _ h=>h,fun b hb=>⟨Ve (hI b hb) hsz, .inl hb⟩,hos.1,hos.2.1,hos.2.2,hsz,fun b hb _=>hof b hb⟩
def Zkv:List (Nat×Ty):=[(3, .int .i64),(4, .bool),(118,ZfA),(51, .sl ZfA)]
theorem ZjC:ZeN Tryz.prog Zkv [] [] []=true:=by kernel_rfl
def Zgo(xs:List (El ZfA)):Option (List (El ZfA)):=Va (Zar !Vl xs) fun _=>Va (Zar (decide (Vb ([]:List (El ZfA))+Vb xs<=Zaz))) fun _=>some ([]++xs)
def clnTicG(xs:List (El ZfA)):Option (List (El ZfA)):=bif decide (xs.length<=Zaz) then some xs else none
noncomputable def Zm0(xs:List (El ZfA)):Option (List (El ZfA)):=ZgO (mkE Zkv [] [] [] [] [] 8) (Zbc Tryz.f58) Tryz.f58.results .leaf (.cons (.pd (.sl ZfA)) .nil) (.cons (.pd (.sl ZfA)) .nil) (fun y=>y.2.1) (xs,())
theorem Zk9(xs:List (El ZfA)):Zm0 xs=Zgo xs:=by kernel_rfl
def ZmW:Spec:= {args:= .cons (.pd (.sl ZfA)) .nil,res:= .cons (.pd (.sl ZfA)) .nil,fns:=[],α:=List (El ZfA),f:=fun x=>Zgo x.1,unp:=fun z=>(((),()),(z,())) }
theorem Zig:ZaC Tryz.prog 58 ZmW:=Zag (m:=[]) (fn:=Tryz.f58) (nt:=8) (rws:=[]) (zxs:=[]) (hint:= .leaf) (pack:=fun y=>y.2.1) Zmt ZjC trivial fun x z h=>(Zk9 x.1).trans h
def ZmR:Spec:= {args:= .cons (.pd (.sl ZfA)) .nil,res:= .cons (.pd (.sl ZfA)) .nil,fns:=[],α:=List (El ZfA),f:=fun x=>clnTicG x.1,unp:=fun z=>(((),()),(z,())) }
set_option maxRecDepth 1000000 in
theorem Zh4(ad:Option Addr)(c:Nat)(w:World):
  Calls Tryz.prog 58 #[.slice ad 0 c] w fun e w' => ∃a' c',e= .returned (.slice a' 0 c')/\(w' =w\/ ∃o,w' =w.alloc o):=by
 cases ad with
 |none=>
  go_enter Tryz.func58,Tryz.ntmps58
  go_wp2
  have hb:Vk Tryz.prog (binOp .eql 51 (.slice none 0 c) (.slice none 0 0)) w= .ok (.bool true) w:=by kernel_rfl
  rw[hb]
  go_wp2
  exact⟨rfl, .slice none 0 0,by kernel_rfl,none,0,rfl, .inl rfl⟩
 |some ad=>
  go_enter Tryz.func58,Tryz.ntmps58
  go_wp2
  have hb:Vk Tryz.prog (binOp .eql 51 (.slice (some ad) 0 c) (.slice none 0 0)) w= .ok (.bool false) w:=by kernel_rfl
  rw[hb]
  go_wp2
  exact⟨rfl, .slice (some {block:=w.heap.size,off:=0}) 0 0,by kernel_rfl,_,_,rfl, .inr ⟨_,rfl⟩⟩
theorem clnTic_ok:ZaC Tryz.prog 58 ZmR where
 wf:=rfl
 fn:=⟨_,Tryz.func58,by kernel_rfl,by kernel_rfl⟩
 run:=by
  intro w I vals js x (z:List (El ZfA)) hpv hnd hfree hI amb hz;obtain⟨xs,⟨⟩⟩:=x
  change List (El ZfA) at xs
  have hz:clnTicG xs=some z:=hz;unfold clnTicG at hz;by_cases hle:xs.length<=Zaz
  case neg=>rw[decide_eq_false hle]at hz;simp at hz
  rw[decide_eq_true hle]at hz;simp only[cond_true,Option.some.injEq]at hz;subst hz
  cases xs with
  |cons y ys=>exact Zig.run w I vals js (y::ys,()) (y::ys) hpv hnd hfree hI amb (by show Zgo (y::ys)=_;simp only[Zgo,Vf,Vj,Zar,Vg,Nat.zero_add,decide_eq_true hle,Vh];rfl)
  |nil=>
   obtain⟨j1,j2,v,r,rfl,rfl,⟨hpc,hag⟩,rfl,rfl⟩:=hpv;obtain⟨rfl,hrd⟩:=hpc;have hagv:Zas v=false:=hag.resolve_left fun h=>by cases h
   obtain⟨a,cap,css,h3,h4,h5⟩:=hrd;have hv:=Zak h3 hagv;subst hv;refine(Zh4 a cap w).mono ?_;rintro e w' ⟨a',c',rfl,hw⟩;have hrr:Rd w' I (.sl ZfA) ([]:List (El ZfA)) [.slice a' 0 c']:=⟨a',c',[],rfl,trivial,fun h=>absurd rfl h,Nat.zero_le _⟩
   have hsz:w.heap.size<=w'.heap.size:=by
    rcases hw with rfl| ⟨o,rfl⟩
    ·exact Vc _
    ·show _<=(w.heap.push o).size;rw[Vi];omega
   have hof: ∀b,b<w.heap.size->w'.heap[b]? =w.heap[b]? :=by
    intro b hb;rcases hw with rfl| ⟨o,rfl⟩
    ·rfl
    ·show (w.heap.push o)[b]? =_;rw[Vd];grind
   have hos:w'.os=w.os/\w'.tape=w.tape/\ZhS true w' w:=by
    rcases hw with rfl| ⟨o,rfl⟩
    ·exact⟨rfl,rfl, .rfl⟩
    ·exact⟨rfl,rfl,rfl,fun _=>Vc _⟩
   exact⟨_,rfl,I,[],[],⟨[],[],_,_,rfl,rfl,rfl,rfl⟩,⟨[.slice a' 0 c'],⟨[],[],_,_,rfl,rfl,⟨⟨rfl,hrr⟩, .inr rfl⟩,rfl,rfl⟩,rfl⟩,by simp,by simp,fun _ h=>h,fun b hb=>⟨Ve (hI b hb) hsz, .inl hb⟩,hos.1,hos.2.1,hos.2.2,hsz,fun b hb _=>hof b hb⟩
end Tr
