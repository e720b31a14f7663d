/- slices.Clone of numbers and of legs, the result a slice of our own. Conditions: none. -/
import Derived.Test.YtdpenljjnfmgiaaGreatProg
import Derived.KernelRfl
import Derived.Tactics
import Derived.Tactics2
import Derived.StillTactics
import Derived.LoopTactic
import Derived.WalkMore
import Derived.Test.YtdpenljjnfmgiaaGreatETrY
open Array renaming getElem?_push ->Vb,size_push ->Vi
open Bool renaming not_false ->Vk
open List renaming nil_append ->Vc,length ->Ve,mem_singleton ->Vf,isEmpty_cons ->Vg,length_nil ->Vh,prefix_rfl ->Vj,isEmpty ->Vn
open Nat renaming le_refl ->Va,lt_irrefl ->Vm
open Option renaming bind ->Vd
open Go.Sem renaming run ->Vl
open Option renaming some ->Ua,none ->Ub
open Bool renaming true ->Uc,false ->Ud
open Decidable renaming decide ->Ue
namespace Tr
open Go Go.Proofs
abbrev Xg:Ty:=.prod .bool (.prod (.int .i64) (.prod (.int .i64) (.prod (.int .i64) (.prod (.int .i64) (.prod (.int .i64) (.prod (.int .i64) (.prod (.int .i64) (.prod .bool .unit))))))))
theorem Zkd:Tryz.prog.follows .mixedOrders=true:=by kernel_rfl
def Zkb:List (Nat×Ty):=[(3,.int .i64),(4,.bool),(82,Xg),(46,.sl Xg)]
theorem Zq1:HT Tryz.prog Zkb [] [] []=true:=by kernel_rfl
def Zep(xs:List (El Xg)):Option (List (El Xg)):=Vd (Zz !Vn xs) fun _=>Vd (Zz (Ue (Ve ([]:List (El Xg))+Ve xs<=ZD))) fun _=>Ua ([]++xs)
def cloLegG(xs:List (El Xg)):Option (List (El Xg)):=bif Ue (xs.length<=ZD) then Ua xs else Ub
noncomputable def ZqY(xs:List (El Xg)):Option (List (El Xg)):=XO (mkE Zkb [] [] [] [] [] 8) (KX Tryz.f57) Tryz.f57.results .leaf (.cons (.pd (.sl Xg)) .nil) (.cons (.own Xg Ud) .nil) (fun y=>y.2.1) (xs,())
theorem ZqZ(xs:List (El Xg)):ZqY xs=Zep xs:=by kernel_rfl
def ZqW:Spec:= {args:=.cons (.pd (.sl Xg)) .nil,res:=.cons (.own Xg Ud) .nil,fns:=[],α:=List (El Xg),f:=fun x=>Zep x.1,unp:=fun z=>(((),()),(z,()))}
theorem Zq0:ZS Tryz.prog 57 ZqW:=WZ (m:=[]) (fn:=Tryz.f57) (nt:=8) (rws:=[]) (zxs:=[]) (hint:=.leaf) (pack:=fun y=>y.2.1) Zkd Zq1 trivial fun x z h=>(ZqZ x.1).trans h
def ZqX:Spec:= {args:=.cons (.pd (.sl Xg)) .nil,res:=.cons (.own Xg Ud) .nil,fns:=[],α:=List (El Xg),f:=fun x=>cloLegG x.1,unp:=fun z=>(((),()),(z,()))}
set_option maxRecDepth 1000000 in
theorem Zq2(a:Option Addr)(c:Nat)(w:World):
 Calls Tryz.prog 57 #[.slice a 0 c] w fun e w' =>(e=.returned (.slice Ub 0 0)/\w' =w)\/ ∃T,e=.returned (.slice (Ua ⟨w.heap.size,0,Ub⟩) 0 0)/\w' =w.alloc (.cells #[] T (0,0)):=by
 cases a with
 |none=>
  go_enter Tryz.func57,Tryz.ntmps57
  go_wp2
  have b:Vl Tryz.prog (binOp .eql 46 (.slice Ub 0 c) (.slice Ub 0 0)) w=.ok (.bool Uc) w:=by kernel_rfl
  rw[b]
  go_wp2
  exact⟨rfl,.slice Ub 0 0,by kernel_rfl,.inl ⟨rfl,rfl⟩⟩
 |some a=>
  go_enter Tryz.func57,Tryz.ntmps57
  go_wp2
  have b:Vl Tryz.prog (binOp .eql 46 (.slice (Ua a) 0 c) (.slice Ub 0 0)) w=.ok (.bool Ud) w:=by kernel_rfl
  rw[b]
  go_wp2
  exact⟨rfl,.slice (Ua {block:=w.heap.size,off:=0}) 0 0,by kernel_rfl,.inr ⟨_,rfl,rfl⟩⟩
theorem cloLeg_ok:ZS Tryz.prog 57 ZqX where
 wf:=rfl
 fn:=⟨_,Tryz.func57,by kernel_rfl,by kernel_rfl⟩
 run:=by
  intro w I l D x (z:List (El Xg)) k o f m amb d;obtain⟨xs,⟨⟩⟩:=x
  change List (El Xg) at xs
  have d:cloLegG xs=Ua z:=d;unfold cloLegG at d;by_cases g:xs.length<=ZD
  case neg=>rw[Zr g]at d;simp at d
  rw[Zj g]at d;simp only[Ze,ZB]at d;subst d
  cases xs with
  |cons y u=>exact Zq0.run w I l D (y::u,()) (y::u) k o f m amb (by show Zep (y::u)=_;simp only[Zep,Vg,Vk,Zz,Vh,Nat.zero_add,Zj g,Vc];rfl)
  |nil=>
   obtain⟨G,H,v,r,rfl,rfl,⟨s,n⟩,rfl,rfl⟩:=k;obtain⟨rfl,t⟩:=s;have j:Kf v=false:=n.resolve_left fun h=>by cases h
   obtain⟨a,cap,A,B,E,F⟩:=t;have C:=KU B j;subst C;refine(Zq2 a cap w).mono ?_;rintro e J (⟨rfl,rfl⟩|⟨T,rfl,rfl⟩)
   ·exact⟨_,rfl,I,[],[],⟨[],[],_,_,rfl,rfl,rfl,rfl⟩,⟨[.slice Ub 0 0],⟨[],[],_,_,rfl,rfl,⟨.inl ⟨rfl,rfl,rfl⟩,.inr rfl⟩,rfl,rfl⟩,rfl⟩,by simp,by simp,fun _ h=>h,fun b c=>⟨m b c,.inl c⟩,rfl,rfl,⟨rfl,fun _=>Va _⟩,Va _,fun b c _=>rfl⟩
   ·have i:w.heap.size<(w.alloc (.cells #[] T (0,0))).heap.size:=by show _<(w.heap.push _).size;rw[Vi];omega
    have p:(w.alloc (.cells #[] T (0,0))).heap[w.heap.size]? =Ua (.cells #[] T (0,0)):=by show (w.heap.push _)[w.heap.size]? =_;rw[Vb];simp
    have q:∀b,b<w.heap.size->(w.alloc (.cells #[] T (0,0))).heap[b]? =w.heap[b]? :=by intro b c;show (w.heap.push _)[b]? =_;rw[Vb];grind
    refine⟨_,rfl,I,[],[w.heap.size],⟨[],[],_,_,rfl,rfl,rfl,rfl⟩,⟨[.slice (Ua ⟨w.heap.size,0,Ub⟩) 0 0],⟨[w.heap.size],[],_,_,rfl,rfl,⟨.inr ⟨w.heap.size,0, #[],T,[],rfl,rfl,p,Va _,?_,trivial,Vj⟩,.inr rfl⟩,rfl,rfl⟩,rfl⟩,by simp,fun b c=>?_,fun _ h=>h,fun b c=>⟨Nat.lt_trans (m b c) i,.inl c⟩,rfl,rfl,⟨rfl,fun _=>Va _⟩,Nat.le_of_lt i,fun b c _=>q b c⟩
    ·simp
    ·simp only[Vc,Vf]at c;subst c;exact⟨fun h=>Vm _ (m _ h),i,.inr (Va _)⟩
def Zka:List (Nat×Ty):=[(3,.int .i64),(4,.bool),(87,.sl (.int .i64))]
theorem ZqU:HT Tryz.prog Zka [] [] []=true:=by kernel_rfl
def Zeo(xs:List (El (.int .i64))):Option (List (El (.int .i64))):=Vd (Zz !Vn xs) fun _=>Vd (Zz (Ue (Ve ([]:List (El (.int .i64)))+Ve xs<=ZD))) fun _=>Ua ([]++xs)
def cloIntG(xs:List (El (.int .i64))):Option (List (El (.int .i64))):=bif Ue (xs.length<=ZD) then Ua xs else Ub
noncomputable def ZqR(xs:List (El (.int .i64))):Option (List (El (.int .i64))):=XO (mkE Zka [] [] [] [] [] 8) (KX Tryz.f192) Tryz.f192.results .leaf (.cons (.pd (.sl (.int .i64))) .nil) (.cons (.own (.int .i64) Ud) .nil) (fun y=>y.2.1) (xs,())
theorem ZqS(xs:List (El (.int .i64))):ZqR xs=Zeo xs:=by kernel_rfl
def ZqP:Spec:= {args:=.cons (.pd (.sl (.int .i64))) .nil,res:=.cons (.own (.int .i64) Ud) .nil,fns:=[],α:=List (El (.int .i64)),f:=fun x=>Zeo x.1,unp:=fun z=>(((),()),(z,()))}
theorem ZqT:ZS Tryz.prog 192 ZqP:=WZ (m:=[]) (fn:=Tryz.f192) (nt:=8) (rws:=[]) (zxs:=[]) (hint:=.leaf) (pack:=fun y=>y.2.1) Zkd ZqU trivial fun x z h=>(ZqS x.1).trans h
def ZqQ:Spec:= {args:=.cons (.pd (.sl (.int .i64))) .nil,res:=.cons (.own (.int .i64) Ud) .nil,fns:=[],α:=List (El (.int .i64)),f:=fun x=>cloIntG x.1,unp:=fun z=>(((),()),(z,()))}
set_option maxRecDepth 1000000 in
theorem ZqV(a:Option Addr)(c:Nat)(w:World):
 Calls Tryz.prog 192 #[.slice a 0 c] w fun e w' =>(e=.returned (.slice Ub 0 0)/\w' =w)\/ ∃T,e=.returned (.slice (Ua ⟨w.heap.size,0,Ub⟩) 0 0)/\w' =w.alloc (.cells #[] T (0,0)):=by
 cases a with
 |none=>
  go_enter Tryz.func192,Tryz.ntmps192
  go_wp2
  have b:Vl Tryz.prog (binOp .eql 87 (.slice Ub 0 c) (.slice Ub 0 0)) w=.ok (.bool Uc) w:=by kernel_rfl
  rw[b]
  go_wp2
  exact⟨rfl,.slice Ub 0 0,by kernel_rfl,.inl ⟨rfl,rfl⟩⟩
 |some a=>
  go_enter Tryz.func192,Tryz.ntmps192
  go_wp2
  have b:Vl Tryz.prog (binOp .eql 87 (.slice (Ua a) 0 c) (.slice Ub 0 0)) w=.ok (.bool Ud) w:=by kernel_rfl
  rw[b]
  go_wp2
  exact⟨rfl,.slice (Ua {block:=w.heap.size,off:=0}) 0 0,by kernel_rfl,.inr ⟨_,rfl,rfl⟩⟩
theorem cloInt_ok:ZS Tryz.prog 192 ZqQ where
 wf:=rfl
 fn:=⟨_,Tryz.func192,by kernel_rfl,by kernel_rfl⟩
 run:=by
  intro w I l D x (z:List (El (.int .i64))) k o f m amb d;obtain⟨xs,⟨⟩⟩:=x
  change List (El (.int .i64)) at xs
  have d:cloIntG xs=Ua z:=d;unfold cloIntG at d;by_cases g:xs.length<=ZD
  case neg=>rw[Zr g]at d;simp at d
  rw[Zj g]at d;simp only[Ze,ZB]at d;subst d
  cases xs with
  |cons y u=>exact ZqT.run w I l D (y::u,()) (y::u) k o f m amb (by show Zeo (y::u)=_;simp only[Zeo,Vg,Vk,Zz,Vh,Nat.zero_add,Zj g,Vc];rfl)
  |nil=>
   obtain⟨G,H,v,r,rfl,rfl,⟨s,n⟩,rfl,rfl⟩:=k;obtain⟨rfl,t⟩:=s;have j:Kf v=false:=n.resolve_left fun h=>by cases h
   obtain⟨a,cap,A,B,E,F⟩:=t;have C:=KU B j;subst C;refine(ZqV a cap w).mono ?_;rintro e J (⟨rfl,rfl⟩|⟨T,rfl,rfl⟩)
   ·exact⟨_,rfl,I,[],[],⟨[],[],_,_,rfl,rfl,rfl,rfl⟩,⟨[.slice Ub 0 0],⟨[],[],_,_,rfl,rfl,⟨.inl ⟨rfl,rfl,rfl⟩,.inr rfl⟩,rfl,rfl⟩,rfl⟩,by simp,by simp,fun _ h=>h,fun b c=>⟨m b c,.inl c⟩,rfl,rfl,⟨rfl,fun _=>Va _⟩,Va _,fun b c _=>rfl⟩
   ·have i:w.heap.size<(w.alloc (.cells #[] T (0,0))).heap.size:=by show _<(w.heap.push _).size;rw[Vi];omega
    have p:(w.alloc (.cells #[] T (0,0))).heap[w.heap.size]? =Ua (.cells #[] T (0,0)):=by show (w.heap.push _)[w.heap.size]? =_;rw[Vb];simp
    have q:∀b,b<w.heap.size->(w.alloc (.cells #[] T (0,0))).heap[b]? =w.heap[b]? :=by intro b c;show (w.heap.push _)[b]? =_;rw[Vb];grind
    refine⟨_,rfl,I,[],[w.heap.size],⟨[],[],_,_,rfl,rfl,rfl,rfl⟩,⟨[.slice (Ua ⟨w.heap.size,0,Ub⟩) 0 0],⟨[w.heap.size],[],_,_,rfl,rfl,⟨.inr ⟨w.heap.size,0, #[],T,[],rfl,rfl,p,Va _,?_,trivial,Vj⟩,.inr rfl⟩,rfl,rfl⟩,rfl⟩,by simp,fun b c=>?_,fun _ h=>h,fun b c=>⟨Nat.lt_trans (m b c) i,.inl c⟩,rfl,rfl,⟨rfl,fun _=>Va _⟩,Nat.le_of_lt i,fun b c _=>q b c⟩
    ·simp
    ·simp only[Vc,Vf]at c;subst c;exact⟨fun h=>Vm _ (m _ h),i,.inr (Va _)⟩
end Tr
