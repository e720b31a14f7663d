/- slices.Clone of numbers and of legs, the result a slice of our own. Conditions: none. -/
import Derived.Test.YtdpenljjnfmgiaaGreatProg
import Derived.KernelRfl
import Derived.Tactics
import Derived.Tactics2
import Derived.StillTactics
import Derived.LoopTactic
import Derived.WalkMore
import Derived.Test.YtdpenljjnfmgiaaGreatETrY
open Array renaming getElem?_push ->Vb,size_push ->Vi
open Bool renaming not_false ->Vk
open List renaming nil_append ->Vc,length ->Ve,mem_singleton ->Vf,isEmpty_cons ->Vg,length_nil ->Vh,prefix_rfl ->Vj,isEmpty ->Vn
open Nat renaming le_refl ->Va,lt_irrefl ->Vm
open Option renaming bind ->Vd
open Go.Sem renaming run ->Vl
namespace Tr
open Go Go.Proofs
abbrev JW:Ty:=.prod .bool (.prod (.int .i64) (.prod (.int .i64) (.prod (.int .i64) (.prod (.int .i64) (.prod (.int .i64) (.prod (.int .i64) (.prod (.int .i64) (.prod .bool .unit))))))))
theorem Zi2:Tryz.prog.follows .mixedOrders=true:=by kernel_rfl
def Zi0:List (Nat×Ty):=[(3,.int .i64),(4,.bool),(82,JW),(46,.sl JW)]
theorem Zpf:Hq Tryz.prog Zi0 [] [] []=true:=by kernel_rfl
def Zdm(xs:List (El JW)):Option (List (El JW)):=Vd (Zy !Vn xs) fun _=>Vd (Zy (decide (Ve ([]:List (El JW))+Ve xs<=ZC))) fun _=>some ([]++xs)
def cloLegG(xs:List (El JW)):Option (List (El JW)):=bif decide (xs.length<=ZC) then some xs else none
noncomputable def Zpc(xs:List (El JW)):Option (List (El JW)):=XO (mkE Zi0 [] [] [] [] [] 8) (KM Tryz.f57) Tryz.f57.results .leaf (.cons (.pd (.sl JW)) .nil) (.cons (.own JW false) .nil) (fun y=>y.2.1) (xs,())
theorem Zpd(xs:List (El JW)):Zpc xs=Zdm xs:=by kernel_rfl
def Zpa:Spec:= {args:=.cons (.pd (.sl JW)) .nil,res:=.cons (.own JW false) .nil,fns:=[],α:=List (El JW),f:=fun x=>Zdm x.1,unp:=fun z=>(((),()),(z,()))}
theorem Zpe:ZL Tryz.prog 57 Zpa:=WS (m:=[]) (fn:=Tryz.f57) (nt:=8) (rws:=[]) (zxs:=[]) (hint:=.leaf) (pack:=fun y=>y.2.1) Zi2 Zpf trivial fun x z h=>(Zpd x.1).trans h
def Zpb:Spec:= {args:=.cons (.pd (.sl JW)) .nil,res:=.cons (.own JW false) .nil,fns:=[],α:=List (El JW),f:=fun x=>cloLegG x.1,unp:=fun z=>(((),()),(z,()))}
set_option maxRecDepth 1000000 in
theorem Zpg(a:Option Addr)(c:Nat)(w:World):
 Calls Tryz.prog 57 #[.slice a 0 c] w fun e w' =>(e=.returned (.slice none 0 0)/\w' =w)\/ ∃T,e=.returned (.slice (some ⟨w.heap.size,0,none⟩) 0 0)/\w' =w.alloc (.cells #[] T (0,0)):=by
 cases a with
 |none=>
  go_enter Tryz.func57,Tryz.ntmps57
  go_wp2
  have b:Vl Tryz.prog (binOp .eql 46 (.slice none 0 c) (.slice none 0 0)) w=.ok (.bool true) w:=by kernel_rfl
  rw[b]
  go_wp2
  exact⟨rfl,.slice none 0 0,by kernel_rfl,.inl ⟨rfl,rfl⟩⟩
 |some a=>
  go_enter Tryz.func57,Tryz.ntmps57
  go_wp2
  have b:Vl Tryz.prog (binOp .eql 46 (.slice (some a) 0 c) (.slice none 0 0)) w=.ok (.bool false) w:=by kernel_rfl
  rw[b]
  go_wp2
  exact⟨rfl,.slice (some {block:=w.heap.size,off:=0}) 0 0,by kernel_rfl,.inr ⟨_,rfl,rfl⟩⟩
theorem cloLeg_ok:ZL Tryz.prog 57 Zpb where
 wf:=rfl
 fn:=⟨_,Tryz.func57,by kernel_rfl,by kernel_rfl⟩
 run:=by
  intro w I l D x (z:List (El JW)) k o f m amb d;obtain⟨xs,⟨⟩⟩:=x
  change List (El JW) at xs
  have d:cloLegG xs=some z:=d;unfold cloLegG at d;by_cases g:xs.length<=ZC
  case neg=>rw[Zv g]at d;simp at d
  rw[Zi g]at d;simp only[Zc,Option.some.injEq]at d;subst d
  cases xs with
  |cons y u=>exact Zpe.run w I l D (y::u,()) (y::u) k o f m amb (by show Zdm (y::u)=_;simp only[Zdm,Vg,Vk,Zy,Vh,Nat.zero_add,Zi g,Vc];rfl)
  |nil=>
   obtain⟨G,H,v,r,rfl,rfl,⟨s,n⟩,rfl,rfl⟩:=k;obtain⟨rfl,t⟩:=s;have j:Z8 v=false:=n.resolve_left fun h=>by cases h
   obtain⟨a,cap,A,B,E,F⟩:=t;have C:=KH B j;subst C;refine(Zpg a cap w).mono ?_;rintro e J (⟨rfl,rfl⟩|⟨T,rfl,rfl⟩)
   ·exact⟨_,rfl,I,[],[],⟨[],[],_,_,rfl,rfl,rfl,rfl⟩,⟨[.slice none 0 0],⟨[],[],_,_,rfl,rfl,⟨.inl ⟨rfl,rfl,rfl⟩,.inr rfl⟩,rfl,rfl⟩,rfl⟩,by simp,by simp,fun _ h=>h,fun b c=>⟨m b c,.inl c⟩,rfl,rfl,⟨rfl,fun _=>Va _⟩,Va _,fun b c _=>rfl⟩
   ·have i:w.heap.size<(w.alloc (.cells #[] T (0,0))).heap.size:=by show _<(w.heap.push _).size;rw[Vi];omega
    have p:(w.alloc (.cells #[] T (0,0))).heap[w.heap.size]? =some (.cells #[] T (0,0)):=by show (w.heap.push _)[w.heap.size]? =_;rw[Vb];simp
    have q:∀b,b<w.heap.size->(w.alloc (.cells #[] T (0,0))).heap[b]? =w.heap[b]? :=by intro b c;show (w.heap.push _)[b]? =_;rw[Vb];grind
    refine⟨_,rfl,I,[],[w.heap.size],⟨[],[],_,_,rfl,rfl,rfl,rfl⟩,⟨[.slice (some ⟨w.heap.size,0,none⟩) 0 0],⟨[w.heap.size],[],_,_,rfl,rfl,⟨.inr ⟨w.heap.size,0, #[],T,[],rfl,rfl,p,Va _,?_,trivial,Vj⟩,.inr rfl⟩,rfl,rfl⟩,rfl⟩,by simp,fun b c=>?_,fun _ h=>h,fun b c=>⟨Nat.lt_trans (m b c) i,.inl c⟩,rfl,rfl,⟨rfl,fun _=>Va _⟩,Nat.le_of_lt i,fun b c _=>q b c⟩
    ·simp
    ·simp only[Vc,Vf]at c;subst c;exact⟨fun h=>Vm _ (m _ h),i,.inr (Va _)⟩
def ZiZ:List (Nat×Ty):=[(3,.int .i64),(4,.bool),(87,.sl (.int .i64))]
theorem Zo8:Hq Tryz.prog ZiZ [] [] []=true:=by kernel_rfl
def Zdl(xs:List (El (.int .i64))):Option (List (El (.int .i64))):=Vd (Zy !Vn xs) fun _=>Vd (Zy (decide (Ve ([]:List (El (.int .i64)))+Ve xs<=ZC))) fun _=>some ([]++xs)
def cloIntG(xs:List (El (.int .i64))):Option (List (El (.int .i64))):=bif decide (xs.length<=ZC) then some xs else none
noncomputable def Zo5(xs:List (El (.int .i64))):Option (List (El (.int .i64))):=XO (mkE ZiZ [] [] [] [] [] 8) (KM Tryz.f192) Tryz.f192.results .leaf (.cons (.pd (.sl (.int .i64))) .nil) (.cons (.own (.int .i64) false) .nil) (fun y=>y.2.1) (xs,())
theorem Zo6(xs:List (El (.int .i64))):Zo5 xs=Zdl xs:=by kernel_rfl
def Zo3:Spec:= {args:=.cons (.pd (.sl (.int .i64))) .nil,res:=.cons (.own (.int .i64) false) .nil,fns:=[],α:=List (El (.int .i64)),f:=fun x=>Zdl x.1,unp:=fun z=>(((),()),(z,()))}
theorem Zo7:ZL Tryz.prog 192 Zo3:=WS (m:=[]) (fn:=Tryz.f192) (nt:=8) (rws:=[]) (zxs:=[]) (hint:=.leaf) (pack:=fun y=>y.2.1) Zi2 Zo8 trivial fun x z h=>(Zo6 x.1).trans h
def Zo4:Spec:= {args:=.cons (.pd (.sl (.int .i64))) .nil,res:=.cons (.own (.int .i64) false) .nil,fns:=[],α:=List (El (.int .i64)),f:=fun x=>cloIntG x.1,unp:=fun z=>(((),()),(z,()))}
set_option maxRecDepth 1000000 in
theorem Zo9(a:Option Addr)(c:Nat)(w:World):
 Calls Tryz.prog 192 #[.slice a 0 c] w fun e w' =>(e=.returned (.slice none 0 0)/\w' =w)\/ ∃T,e=.returned (.slice (some ⟨w.heap.size,0,none⟩) 0 0)/\w' =w.alloc (.cells #[] T (0,0)):=by
 cases a with
 |none=>
  go_enter Tryz.func192,Tryz.ntmps192
  go_wp2
  have b:Vl Tryz.prog (binOp .eql 87 (.slice none 0 c) (.slice none 0 0)) w=.ok (.bool true) w:=by kernel_rfl
  rw[b]
  go_wp2
  exact⟨rfl,.slice none 0 0,by kernel_rfl,.inl ⟨rfl,rfl⟩⟩
 |some a=>
  go_enter Tryz.func192,Tryz.ntmps192
  go_wp2
  have b:Vl Tryz.prog (binOp .eql 87 (.slice (some a) 0 c) (.slice none 0 0)) w=.ok (.bool false) w:=by kernel_rfl
  rw[b]
  go_wp2
  exact⟨rfl,.slice (some {block:=w.heap.size,off:=0}) 0 0,by kernel_rfl,.inr ⟨_,rfl,rfl⟩⟩
theorem cloInt_ok:ZL Tryz.prog 192 Zo4 where
 wf:=rfl
 fn:=⟨_,Tryz.func192,by kernel_rfl,by kernel_rfl⟩
 run:=by
  intro w I l D x (z:List (El (.int .i64))) k o f m amb d;obtain⟨xs,⟨⟩⟩:=x
  change List (El (.int .i64)) at xs
  have d:cloIntG xs=some z:=d;unfold cloIntG at d;by_cases g:xs.length<=ZC
  case neg=>rw[Zv g]at d;simp at d
  rw[Zi g]at d;simp only[Zc,Option.some.injEq]at d;subst d
  cases xs with
  |cons y u=>exact Zo7.run w I l D (y::u,()) (y::u) k o f m amb (by show Zdl (y::u)=_;simp only[Zdl,Vg,Vk,Zy,Vh,Nat.zero_add,Zi g,Vc];rfl)
  |nil=>
   obtain⟨G,H,v,r,rfl,rfl,⟨s,n⟩,rfl,rfl⟩:=k;obtain⟨rfl,t⟩:=s;have j:Z8 v=false:=n.resolve_left fun h=>by cases h
   obtain⟨a,cap,A,B,E,F⟩:=t;have C:=KH B j;subst C;refine(Zo9 a cap w).mono ?_;rintro e J (⟨rfl,rfl⟩|⟨T,rfl,rfl⟩)
   ·exact⟨_,rfl,I,[],[],⟨[],[],_,_,rfl,rfl,rfl,rfl⟩,⟨[.slice none 0 0],⟨[],[],_,_,rfl,rfl,⟨.inl ⟨rfl,rfl,rfl⟩,.inr rfl⟩,rfl,rfl⟩,rfl⟩,by simp,by simp,fun _ h=>h,fun b c=>⟨m b c,.inl c⟩,rfl,rfl,⟨rfl,fun _=>Va _⟩,Va _,fun b c _=>rfl⟩
   ·have i:w.heap.size<(w.alloc (.cells #[] T (0,0))).heap.size:=by show _<(w.heap.push _).size;rw[Vi];omega
    have p:(w.alloc (.cells #[] T (0,0))).heap[w.heap.size]? =some (.cells #[] T (0,0)):=by show (w.heap.push _)[w.heap.size]? =_;rw[Vb];simp
    have q:∀b,b<w.heap.size->(w.alloc (.cells #[] T (0,0))).heap[b]? =w.heap[b]? :=by intro b c;show (w.heap.push _)[b]? =_;rw[Vb];grind
    refine⟨_,rfl,I,[],[w.heap.size],⟨[],[],_,_,rfl,rfl,rfl,rfl⟩,⟨[.slice (some ⟨w.heap.size,0,none⟩) 0 0],⟨[w.heap.size],[],_,_,rfl,rfl,⟨.inr ⟨w.heap.size,0, #[],T,[],rfl,rfl,p,Va _,?_,trivial,Vj⟩,.inr rfl⟩,rfl,rfl⟩,rfl⟩,by simp,fun b c=>?_,fun _ h=>h,fun b c=>⟨Nat.lt_trans (m b c) i,.inl c⟩,rfl,rfl,⟨rfl,fun _=>Va _⟩,Nat.le_of_lt i,fun b c _=>q b c⟩
    ·simp
    ·simp only[Vc,Vf]at c;subst c;exact⟨fun h=>Vm _ (m _ h),i,.inr (Va _)⟩
end Tr
