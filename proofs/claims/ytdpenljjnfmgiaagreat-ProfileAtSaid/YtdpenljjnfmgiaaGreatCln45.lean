/- slices.Clone of legs and of tickets. Conditions: none. -/
import Derived.Test.YtdpenljjnfmgiaaGreatProg
import Derived.KernelRfl
import Derived.Tactics
import Derived.Tactics2
import Derived.StillTactics
import Derived.LoopTactic
import Derived.WalkMore
import Derived.Test.YtdpenljjnfmgiaaGreatTsJ
open Array renaming getElem?_push ->Vd,size_push ->Vi
open Bool renaming not_false ->Vj
open List renaming length ->Vb,isEmpty_cons ->Vf,length_nil ->Vg,nil_append ->Vh,isEmpty ->Vl
open Nat renaming le_refl ->Vc,lt_of_lt_of_le ->Ve
open Option renaming bind ->Va
open Go.Sem renaming run ->Vk
namespace Tr
open Go Go.Proofs
abbrev Zfm:Ty:= .prod .bool (.prod (.int .i64) (.prod (.int .i64) (.prod (.int .i64) (.prod (.int .i64) (.prod (.int .i64) (.prod (.int .i64) (.prod (.int .i64) (.prod .bool .unit))))))))
abbrev Zfl:Ty:= .prod (.int .i64) (.prod (.int .i64) (.prod (.int .i64) (.prod (.int .i64) .unit)))
theorem Zlx:Tryz.prog.follows .mixedOrders=true:=by kernel_rfl
def Zjp:List (Nat×Ty):=[(3, .int .i64),(4, .bool),(82,Zfm),(46, .sl Zfm)]
theorem Zi4:Zfn Tryz.prog Zjp [] [] []=true:=by kernel_rfl
def Zf6(xs:List (El Zfm)):Option (List (El Zfm)):=Va (Zav !Vl xs) fun _=>Va (Zav (decide (Vb ([]:List (El Zfm))+Vb xs<=ZaC))) fun _=>some ([]++xs)
def clnLegG(xs:List (El Zfm)):Option (List (El Zfm)):=bif decide (xs.length<=ZaC) then some xs else none
noncomputable def Zmi(xs:List (El Zfm)):Option (List (El Zfm)):=Zgy (mkE Zjp [] [] [] [] [] 8) (Zb0 Tryz.f57) Tryz.f57.results .leaf (.cons (.pd (.sl Zfm)) .nil) (.cons (.pd (.sl Zfm)) .nil) (fun y=>y.2.1) (xs,())
theorem ZjF(xs:List (El Zfm)):Zmi xs=Zf6 xs:=by kernel_rfl
def Zmo:Spec:= {args:= .cons (.pd (.sl Zfm)) .nil,res:= .cons (.pd (.sl Zfm)) .nil,fns:=[],α:=List (El Zfm),f:=fun x=>Zf6 x.1,unp:=fun z=>(((),()),(z,())) }
theorem ZhL:ZaE Tryz.prog 57 Zmo:=Zag (m:=[]) (fn:=Tryz.f57) (nt:=8) (rws:=[]) (zxs:=[]) (hint:= .leaf) (pack:=fun y=>y.2.1) Zlx Zi4 trivial fun x z h=>(ZjF x.1).trans h
def Zma:Spec:= {args:= .cons (.pd (.sl Zfm)) .nil,res:= .cons (.pd (.sl Zfm)) .nil,fns:=[],α:=List (El Zfm),f:=fun x=>clnLegG x.1,unp:=fun z=>(((),()),(z,())) }
set_option maxRecDepth 1000000 in
theorem ZhT(ad:Option Addr)(c:Nat)(w:World):
  Calls Tryz.prog 57 #[.slice ad 0 c] w fun e w' => ∃a' c',e= .returned (.slice a' 0 c')/\(w' =w\/ ∃o,w' =w.alloc o):=by
 cases ad with
 |none=>
  go_enter Tryz.func57,Tryz.ntmps57
  go_wp2
  have hb:Vk Tryz.prog (binOp .eql 46 (.slice none 0 c) (.slice none 0 0)) w= .ok (.bool true) w:=by kernel_rfl
  rw[hb]
  go_wp2
  exact⟨rfl, .slice none 0 0,by kernel_rfl,none,0,rfl, .inl rfl⟩
 |some ad=>
  go_enter Tryz.func57,Tryz.ntmps57
  go_wp2
  have hb:Vk Tryz.prog (binOp .eql 46 (.slice (some ad) 0 c) (.slice none 0 0)) w= .ok (.bool false) w:=by kernel_rfl
  rw[hb]
  go_wp2
  exact⟨rfl, .slice (some {block:=w.heap.size,off:=0}) 0 0,by kernel_rfl,_,_,rfl, .inr ⟨_,rfl⟩⟩
theorem clnLeg_ok:ZaE Tryz.prog 57 Zma where
 wf:=rfl
 fn:=⟨_,Tryz.func57,by kernel_rfl,by kernel_rfl⟩
 run:=by
  intro w I vals js x (z:List (El Zfm)) hpv hnd hfree hI amb hz;obtain⟨xs,⟨⟩⟩:=x
  change List (El Zfm) at xs
  have hz:clnLegG xs=some z:=hz;unfold clnLegG at hz;by_cases hle:xs.length<=ZaC
  case neg=>rw[decide_eq_false hle]at hz;simp at hz
  rw[decide_eq_true hle]at hz;simp only[cond_true,Option.some.injEq]at hz;subst hz
  cases xs with
  |cons y ys=>exact ZhL.run w I vals js (y::ys,()) (y::ys) hpv hnd hfree hI amb (by show Zf6 (y::ys)=_;simp only[Zf6,Vf,Vj,Zav,Vg,Nat.zero_add,decide_eq_true hle,Vh];rfl)
  |nil=>
   obtain⟨j1,j2,v,r,rfl,rfl,⟨hpc,hag⟩,rfl,rfl⟩:=hpv;obtain⟨rfl,hrd⟩:=hpc;have hagv:Zar v=false:=hag.resolve_left fun h=>by cases h
   obtain⟨a,cap,css,h3,h4,h5⟩:=hrd;have hv:=Zak h3 hagv;subst hv;refine(ZhT a cap w).mono ?_;rintro e w' ⟨a',c',rfl,hw⟩;have hrr:Rd w' I (.sl Zfm) ([]:List (El Zfm)) [.slice a' 0 c']:=⟨a',c',[],rfl,trivial,fun h=>absurd rfl h,Nat.zero_le _⟩
   have hsz:w.heap.size<=w'.heap.size:=by
    rcases hw with rfl| ⟨o,rfl⟩
    ·exact Vc _
    ·show _<=(w.heap.push o).size;rw[Vi];omega
   have hof: ∀b,b<w.heap.size->w'.heap[b]? =w.heap[b]? :=by
    intro b hb;rcases hw with rfl| ⟨o,rfl⟩
    ·rfl
    ·show (w.heap.push o)[b]? =_;rw[Vd];grind
   have hos:w'.os=w.os/\w'.tape=w.tape/\Zhn true w' w:=by
    rcases hw with rfl| ⟨o,rfl⟩
    ·exact⟨rfl,rfl, .rfl⟩
    ·exact⟨rfl,rfl,rfl,fun _=>Vc _⟩
   exact⟨_,rfl,I,[],[],⟨[],[],_,_,rfl,rfl,rfl,rfl⟩,⟨[.slice a' 0 c'],⟨[],[],_,_,rfl,rfl,⟨⟨rfl,hrr⟩, .inr rfl⟩,rfl,rfl⟩,rfl⟩,by simp,by simp,fun _ h=>h,fun b hb=>⟨Ve (hI b hb) hsz, .inl hb⟩,hos.1,hos.2.1,hos.2.2,hsz,fun b hb _=>hof b hb⟩
def ZkM:List (Nat×Ty):=[(3, .int .i64),(4, .bool),(118,Zfl),(51, .sl Zfl)]
theorem Zi3:Zfn Tryz.prog ZkM [] [] []=true:=by kernel_rfl
def ZgC(xs:List (El Zfl)):Option (List (El Zfl)):=Va (Zav !Vl xs) fun _=>Va (Zav (decide (Vb ([]:List (El Zfl))+Vb xs<=ZaC))) fun _=>some ([]++xs)
def clnTicG(xs:List (El Zfl)):Option (List (El Zfl)):=bif decide (xs.length<=ZaC) then some xs else none
noncomputable def Zmm(xs:List (El Zfl)):Option (List (El Zfl)):=Zgy (mkE ZkM [] [] [] [] [] 8) (Zb0 Tryz.f58) Tryz.f58.results .leaf (.cons (.pd (.sl Zfl)) .nil) (.cons (.pd (.sl Zfl)) .nil) (fun y=>y.2.1) (xs,())
theorem Zj5(xs:List (El Zfl)):Zmm xs=ZgC xs:=by kernel_rfl
def ZlV:Spec:= {args:= .cons (.pd (.sl Zfl)) .nil,res:= .cons (.pd (.sl Zfl)) .nil,fns:=[],α:=List (El Zfl),f:=fun x=>ZgC x.1,unp:=fun z=>(((),()),(z,())) }
theorem ZhO:ZaE Tryz.prog 58 ZlV:=Zag (m:=[]) (fn:=Tryz.f58) (nt:=8) (rws:=[]) (zxs:=[]) (hint:= .leaf) (pack:=fun y=>y.2.1) Zlx Zi3 trivial fun x z h=>(Zj5 x.1).trans h
def ZlS:Spec:= {args:= .cons (.pd (.sl Zfl)) .nil,res:= .cons (.pd (.sl Zfl)) .nil,fns:=[],α:=List (El Zfl),f:=fun x=>clnTicG x.1,unp:=fun z=>(((),()),(z,())) }
set_option maxRecDepth 1000000 in
theorem Zhu(ad:Option Addr)(c:Nat)(w:World):
  Calls Tryz.prog 58 #[.slice ad 0 c] w fun e w' => ∃a' c',e= .returned (.slice a' 0 c')/\(w' =w\/ ∃o,w' =w.alloc o):=by
 cases ad with
 |none=>
  go_enter Tryz.func58,Tryz.ntmps58
  go_wp2
  have hb:Vk Tryz.prog (binOp .eql 51 (.slice none 0 c) (.slice none 0 0)) w= .ok (.bool true) w:=by kernel_rfl
  rw[hb]
  go_wp2
  exact⟨rfl, .slice none 0 0,by kernel_rfl,none,0,rfl, .inl rfl⟩
 |some ad=>
  go_enter Tryz.func58,Tryz.ntmps58
  go_wp2
  have hb:Vk Tryz.prog (binOp .eql 51 (.slice (some ad) 0 c) (.slice none 0 0)) w= .ok (.bool false) w:=by kernel_rfl
  rw[hb]
  go_wp2
  exact⟨rfl, .slice (some {block:=w.heap.size,off:=0}) 0 0,by kernel_rfl,_,_,rfl, .inr ⟨_,rfl⟩⟩
theorem clnTic_ok:ZaE Tryz.prog 58 ZlS where
 wf:=rfl
 fn:=⟨_,Tryz.func58,by kernel_rfl,by kernel_rfl⟩
 run:=by
  intro w I vals js x (z:List (El Zfl)) hpv hnd hfree hI amb hz;obtain⟨xs,⟨⟩⟩:=x
  change List (El Zfl) at xs
  have hz:clnTicG xs=some z:=hz;unfold clnTicG at hz;by_cases hle:xs.length<=ZaC
  case neg=>rw[decide_eq_false hle]at hz;simp at hz
  rw[decide_eq_true hle]at hz;simp only[cond_true,Option.some.injEq]at hz;subst hz
  cases xs with
  |cons y ys=>exact ZhO.run w I vals js (y::ys,()) (y::ys) hpv hnd hfree hI amb (by show ZgC (y::ys)=_;simp only[ZgC,Vf,Vj,Zav,Vg,Nat.zero_add,decide_eq_true hle,Vh];rfl)
  |nil=>
   obtain⟨j1,j2,v,r,rfl,rfl,⟨hpc,hag⟩,rfl,rfl⟩:=hpv;obtain⟨rfl,hrd⟩:=hpc;have hagv:Zar v=false:=hag.resolve_left fun h=>by cases h
   obtain⟨a,cap,css,h3,h4,h5⟩:=hrd;have hv:=Zak h3 hagv;subst hv;refine(Zhu a cap w).mono ?_;rintro e w' ⟨a',c',rfl,hw⟩;have hrr:Rd w' I (.sl Zfl) ([]:List (El Zfl)) [.slice a' 0 c']:=⟨a',c',[],rfl,trivial,fun h=>absurd rfl h,Nat.zero_le _⟩
   have hsz:w.heap.size<=w'.heap.size:=by
    rcases hw with rfl| ⟨o,rfl⟩
    ·exact Vc _
    ·show _<=(w.heap.push o).size;rw[Vi];omega
   have hof: ∀b,b<w.heap.size->w'.heap[b]? =w.heap[b]? :=by
    intro b hb;rcases hw with rfl| ⟨o,rfl⟩
    ·rfl
    ·show (w.heap.push o)[b]? =_;rw[Vd];grind
   have hos:w'.os=w.os/\w'.tape=w.tape/\Zhn true w' w:=by
    rcases hw with rfl| ⟨o,rfl⟩
    ·exact⟨rfl,rfl, .rfl⟩
    ·exact⟨rfl,rfl,rfl,fun _=>Vc _⟩
   exact⟨_,rfl,I,[],[],⟨[],[],_,_,rfl,rfl,rfl,rfl⟩,⟨[.slice a' 0 c'],⟨[],[],_,_,rfl,rfl,⟨⟨rfl,hrr⟩, .inr rfl⟩,rfl,rfl⟩,rfl⟩,by simp,by simp,fun _ h=>h,fun b hb=>⟨Ve (hI b hb) hsz, .inl hb⟩,hos.1,hos.2.1,hos.2.2,hsz,fun b hb _=>hof b hb⟩
end Tr
