/- slices.Clone of numbers and of legs, the result a slice of our own. Conditions: none. -/
import Derived.Test.YtdpenljjnfmgiaaGreatProg
import Derived.KernelRfl
import Derived.Tactics
import Derived.Tactics2
import Derived.StillTactics
import Derived.LoopTactic
import Derived.WalkMore
import Derived.Test.YtdpenljjnfmgiaaGreatETsB
open Array renaming getElem?_push ->Vb,size_push ->Vi
open Bool renaming not_false ->Vk
open List renaming nil_append ->Vc,length ->Ve,mem_singleton ->Vf,isEmpty_cons ->Vg,length_nil ->Vh,prefix_rfl ->Vj,isEmpty ->Vn
open Nat renaming le_refl ->Va,lt_irrefl ->Vm
open Option renaming bind ->Vd
open Go.Sem renaming run ->Vl
open Option renaming some ->Ua,none ->Ub
open Bool renaming true ->Uc,false ->Ud
open Decidable renaming decide ->Ue
namespace Tr
open Go Go.Proofs
abbrev Xl:Ty:=.prod .bool (.prod (.int .i64) (.prod (.int .i64) (.prod (.int .i64) (.prod (.int .i64) (.prod (.int .i64) (.prod (.int .i64) (.prod (.int .i64) (.prod .bool .unit))))))))
theorem ZkB:Tryz.prog.follows .mixedOrders=true:=by kernel_rfl
def ZkA:List (Nat×Ty):=[(3,.int .i64),(4,.bool),(82,Xl),(46,.sl Xl)]
theorem ZrA:H6 Tryz.prog ZkA [] [] []=true:=by kernel_rfl
def Zet(xs:List (El Xl)):Option (List (El Xl)):=Vd (ZD !Vn xs) λ_=>Vd (ZD (Ue (Ve ([]:List (El Xl))+Ve xs<=ZI))) λ_=>Ua ([]++xs)
def cloLegG(xs:List (El Xl)):Option (List (El Xl)):=bif Ue (xs.length<=ZI) then Ua xs else Ub
noncomputable def Zrx(xs:List (El Xl)):Option (List (El Xl)):=XV (mkE ZkA [] [] [] [] [] 8) (K2 Tryz.f57) Tryz.f57.results .leaf (.cons (.pd (.sl Xl)) .nil) (.cons (.own Xl Ud) .nil) (λy=>y.2.1) (xs,())
theorem Zry(xs:List (El Xl)):Zrx xs=Zet xs:=by kernel_rfl
def Zrv:Spec:={args:=.cons (.pd (.sl Xl)) .nil,res:=.cons (.own Xl Ud) .nil,fns:=[],α:=List (El Xl),f:=λx=>Zet x.1,unp:=λz=>(((),()),(z,()))}
theorem Zrz:ZT Tryz.prog 57 Zrv:=Ja (m:=[]) (fn:=Tryz.f57) (nt:=8) (rws:=[]) (zxs:=[]) (hint:=.leaf) (pack:=λy=>y.2.1) ZkB ZrA trivial λx z h=>(Zry x.1).trans h
def Zrw:Spec:={args:=.cons (.pd (.sl Xl)) .nil,res:=.cons (.own Xl Ud) .nil,fns:=[],α:=List (El Xl),f:=λx=>cloLegG x.1,unp:=λz=>(((),()),(z,()))}
set_option maxRecDepth 1000000 in
theorem ZrB(a:Option Addr)(c:Nat)(w:World):
 Calls Tryz.prog 57 #[.slice a 0 c] w λe w' =>(e=.returned (.slice Ub 0 0)/\w' =w)\/∃T,e=.returned (.slice (Ua ⟨w.heap.size,0,Ub⟩) 0 0)/\w' =w.alloc (.cells #[] T (0,0)):=by
 cases a with
 |none=>
  go_enter Tryz.func57,Tryz.ntmps57
  go_wp2
  have b:Vl Tryz.prog (binOp .eql 46 (.slice Ub 0 c) (.slice Ub 0 0)) w=.ok (.bool Uc) w:=by kernel_rfl
  rw[b]
  go_wp2
  exact⟨rfl,.slice Ub 0 0,by kernel_rfl,.inl ⟨rfl,rfl⟩⟩
 |some a=>
  go_enter Tryz.func57,Tryz.ntmps57
  go_wp2
  have b:Vl Tryz.prog (binOp .eql 46 (.slice (Ua a) 0 c) (.slice Ub 0 0)) w=.ok (.bool Ud) w:=by kernel_rfl
  rw[b]
  go_wp2
  exact⟨rfl,.slice (Ua {block:=w.heap.size,off:=0}) 0 0,by kernel_rfl,.inr ⟨_,rfl,rfl⟩⟩
theorem cloLeg_ok:ZT Tryz.prog 57 Zrw where
 wf:=rfl
 fn:=⟨_,Tryz.func57,by kernel_rfl,by kernel_rfl⟩
 run:=by
  intro w I l D x (z:List (El Xl)) k o f m amb d;obtain⟨xs,⟨⟩⟩:=x;change List (El Xl) at xs;have d:cloLegG xs=Ua z:=d;unfold cloLegG at d;by_cases g:xs.length<=ZI
  case neg=>rw[Zt g]at d;simp at d
  rw[Zi g]at d;simp only[Zd,ZL]at d;subst d
  cases xs with
  |cons y u=>exact Zrz.run w I l D (y::u,()) (y::u) k o f m amb (by show Zet (y::u)=_;simp only[Zet,Vg,Vk,ZD,Vh,Nat.zero_add,Zi g,Vc];rfl)
  |nil=>
   obtain⟨G,H,v,r,rfl,rfl,⟨s,n⟩,rfl,rfl⟩:=k;obtain⟨rfl,t⟩:=s;have j:Kd v=false:=n.resolve_left λh=>by cases h
   obtain⟨a,cap,A,B,E,F⟩:=t;have C:=KY B j;subst C;refine(ZrB a cap w).mono ?_;rintro e J (⟨rfl,rfl⟩|⟨T,rfl,rfl⟩)
   ·exact⟨_,rfl,I,[],[],⟨[],[],_,_,rfl,rfl,rfl,rfl⟩,⟨[.slice Ub 0 0],⟨[],[],_,_,rfl,rfl,⟨.inl ⟨rfl,rfl,rfl⟩,.inr rfl⟩,rfl,rfl⟩,rfl⟩,by simp,by simp,λ_ h=>h,λb c=>⟨m b c,.inl c⟩,rfl,rfl,⟨rfl,λ_=>Va _⟩,Va _,λb c _=>rfl⟩
   ·have i:w.heap.size<(w.alloc (.cells #[] T (0,0))).heap.size:=by show _<(w.heap.push _).size;rw[Vi];omega
    have p:(w.alloc (.cells #[] T (0,0))).heap[w.heap.size]? =Ua (.cells #[] T (0,0)):=by show (w.heap.push _)[w.heap.size]? =_;rw[Vb];simp
    have q:∀b,b<w.heap.size->(w.alloc (.cells #[] T (0,0))).heap[b]? =w.heap[b]? :=by intro b c;show (w.heap.push _)[b]? =_;rw[Vb];grind
    refine⟨_,rfl,I,[],[w.heap.size],⟨[],[],_,_,rfl,rfl,rfl,rfl⟩,⟨[.slice (Ua ⟨w.heap.size,0,Ub⟩) 0 0],⟨[w.heap.size],[],_,_,rfl,rfl,⟨.inr ⟨w.heap.size,0, #[],T,[],rfl,rfl,p,Va _,?_,trivial,Vj⟩,.inr rfl⟩,rfl,rfl⟩,rfl⟩,by simp,λb c=>?_,λ_ h=>h,λb c=>⟨Nat.lt_trans (m b c) i,.inl c⟩,rfl,rfl,⟨rfl,λ_=>Va _⟩,Nat.le_of_lt i,λb c _=>q b c⟩
    ·simp
    ·simp only[Vc,Vf]at c;subst c;exact⟨λh=>Vm _ (m _ h),i,.inr (Va _)⟩
def Zkz:List (Nat×Ty):=[(3,.int .i64),(4,.bool),(87,.sl (.int .i64))]
theorem Zrt:H6 Tryz.prog Zkz [] [] []=true:=by kernel_rfl
def Zes(xs:List (El (.int .i64))):Option (List (El (.int .i64))):=Vd (ZD !Vn xs) λ_=>Vd (ZD (Ue (Ve ([]:List (El (.int .i64)))+Ve xs<=ZI))) λ_=>Ua ([]++xs)
def cloIntG(xs:List (El (.int .i64))):Option (List (El (.int .i64))):=bif Ue (xs.length<=ZI) then Ua xs else Ub
noncomputable def Zrq(xs:List (El (.int .i64))):Option (List (El (.int .i64))):=XV (mkE Zkz [] [] [] [] [] 8) (K2 Tryz.f192) Tryz.f192.results .leaf (.cons (.pd (.sl (.int .i64))) .nil) (.cons (.own (.int .i64) Ud) .nil) (λy=>y.2.1) (xs,())
theorem Zrr(xs:List (El (.int .i64))):Zrq xs=Zes xs:=by kernel_rfl
def Zro:Spec:={args:=.cons (.pd (.sl (.int .i64))) .nil,res:=.cons (.own (.int .i64) Ud) .nil,fns:=[],α:=List (El (.int .i64)),f:=λx=>Zes x.1,unp:=λz=>(((),()),(z,()))}
theorem Zrs:ZT Tryz.prog 192 Zro:=Ja (m:=[]) (fn:=Tryz.f192) (nt:=8) (rws:=[]) (zxs:=[]) (hint:=.leaf) (pack:=λy=>y.2.1) ZkB Zrt trivial λx z h=>(Zrr x.1).trans h
def Zrp:Spec:={args:=.cons (.pd (.sl (.int .i64))) .nil,res:=.cons (.own (.int .i64) Ud) .nil,fns:=[],α:=List (El (.int .i64)),f:=λx=>cloIntG x.1,unp:=λz=>(((),()),(z,()))}
set_option maxRecDepth 1000000 in
theorem Zru(a:Option Addr)(c:Nat)(w:World):
 Calls Tryz.prog 192 #[.slice a 0 c] w λe w' =>(e=.returned (.slice Ub 0 0)/\w' =w)\/∃T,e=.returned (.slice (Ua ⟨w.heap.size,0,Ub⟩) 0 0)/\w' =w.alloc (.cells #[] T (0,0)):=by
 cases a with
 |none=>
  go_enter Tryz.func192,Tryz.ntmps192
  go_wp2
  have b:Vl Tryz.prog (binOp .eql 87 (.slice Ub 0 c) (.slice Ub 0 0)) w=.ok (.bool Uc) w:=by kernel_rfl
  rw[b]
  go_wp2
  exact⟨rfl,.slice Ub 0 0,by kernel_rfl,.inl ⟨rfl,rfl⟩⟩
 |some a=>
  go_enter Tryz.func192,Tryz.ntmps192
  go_wp2
  have b:Vl Tryz.prog (binOp .eql 87 (.slice (Ua a) 0 c) (.slice Ub 0 0)) w=.ok (.bool Ud) w:=by kernel_rfl
  rw[b]
  go_wp2
  exact⟨rfl,.slice (Ua {block:=w.heap.size,off:=0}) 0 0,by kernel_rfl,.inr ⟨_,rfl,rfl⟩⟩
theorem cloInt_ok:ZT Tryz.prog 192 Zrp where
 wf:=rfl
 fn:=⟨_,Tryz.func192,by kernel_rfl,by kernel_rfl⟩
 run:=by
  intro w I l D x (z:List (El (.int .i64))) k o f m amb d;obtain⟨xs,⟨⟩⟩:=x;change List (El (.int .i64)) at xs;have d:cloIntG xs=Ua z:=d;unfold cloIntG at d;by_cases g:xs.length<=ZI
  case neg=>rw[Zt g]at d;simp at d
  rw[Zi g]at d;simp only[Zd,ZL]at d;subst d
  cases xs with
  |cons y u=>exact Zrs.run w I l D (y::u,()) (y::u) k o f m amb (by show Zes (y::u)=_;simp only[Zes,Vg,Vk,ZD,Vh,Nat.zero_add,Zi g,Vc];rfl)
  |nil=>
   obtain⟨G,H,v,r,rfl,rfl,⟨s,n⟩,rfl,rfl⟩:=k;obtain⟨rfl,t⟩:=s;have j:Kd v=false:=n.resolve_left λh=>by cases h
   obtain⟨a,cap,A,B,E,F⟩:=t;have C:=KY B j;subst C;refine(Zru a cap w).mono ?_;rintro e J (⟨rfl,rfl⟩|⟨T,rfl,rfl⟩)
   ·exact⟨_,rfl,I,[],[],⟨[],[],_,_,rfl,rfl,rfl,rfl⟩,⟨[.slice Ub 0 0],⟨[],[],_,_,rfl,rfl,⟨.inl ⟨rfl,rfl,rfl⟩,.inr rfl⟩,rfl,rfl⟩,rfl⟩,by simp,by simp,λ_ h=>h,λb c=>⟨m b c,.inl c⟩,rfl,rfl,⟨rfl,λ_=>Va _⟩,Va _,λb c _=>rfl⟩
   ·have i:w.heap.size<(w.alloc (.cells #[] T (0,0))).heap.size:=by show _<(w.heap.push _).size;rw[Vi];omega
    have p:(w.alloc (.cells #[] T (0,0))).heap[w.heap.size]? =Ua (.cells #[] T (0,0)):=by show (w.heap.push _)[w.heap.size]? =_;rw[Vb];simp
    have q:∀b,b<w.heap.size->(w.alloc (.cells #[] T (0,0))).heap[b]? =w.heap[b]? :=by intro b c;show (w.heap.push _)[b]? =_;rw[Vb];grind
    refine⟨_,rfl,I,[],[w.heap.size],⟨[],[],_,_,rfl,rfl,rfl,rfl⟩,⟨[.slice (Ua ⟨w.heap.size,0,Ub⟩) 0 0],⟨[w.heap.size],[],_,_,rfl,rfl,⟨.inr ⟨w.heap.size,0, #[],T,[],rfl,rfl,p,Va _,?_,trivial,Vj⟩,.inr rfl⟩,rfl,rfl⟩,rfl⟩,by simp,λb c=>?_,λ_ h=>h,λb c=>⟨Nat.lt_trans (m b c) i,.inl c⟩,rfl,rfl,⟨rfl,λ_=>Va _⟩,Nat.le_of_lt i,λb c _=>q b c⟩
    ·simp
    ·simp only[Vc,Vf]at c;subst c;exact⟨λh=>Vm _ (m _ h),i,.inr (Va _)⟩
end Tr
