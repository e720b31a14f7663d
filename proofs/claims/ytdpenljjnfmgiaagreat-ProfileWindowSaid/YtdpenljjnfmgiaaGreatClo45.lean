/- slices.Clone of numbers and of legs, the result a slice of our own. Conditions: none. -/
import Derived.Test.YtdpenljjnfmgiaaGreatProg
import Derived.KernelRfl
import Derived.Tactics
import Derived.Tactics2
import Derived.StillTactics
import Derived.LoopTactic
import Derived.WalkMore
import Derived.Test.YtdpenljjnfmgiaaGreatETsC
open Array renaming size_push ->Ve
open List renaming length ->Vc,length_nil ->Vd,prefix_rfl ->Vf,nil_append ->Vg,isEmpty ->Vj
open Nat renaming le_refl ->Va,lt_irrefl ->Vi
open Option renaming bind ->Vb
open Go.Sem renaming run ->Vh
open Option renaming some ->Ua,none ->Ub
open Bool renaming true ->Uc,false ->Ud
open Decidable renaming decide ->Ue
namespace Tr
open Go Go.Proofs
abbrev X6:Ty:=.prod .bool (.prod (.int .i64) (.prod (.int .i64) (.prod (.int .i64) (.prod (.int .i64) (.prod (.int .i64) (.prod (.int .i64) (.prod (.int .i64) (.prod .bool .unit))))))))
theorem Zmb:Tryz.prog.follows .mixedOrders=true:=by kernel_rfl
def Zma:List (Nat×Ty):=[(3,.int .i64),(4,.bool),(82,X6),(46,.sl X6)]
theorem ZtM:DW Tryz.prog Zma [] [] []=true:=by kernel_rfl
def Zfx(xs:List (El X6)):Option (List (El X6)):=Vb (Zw !Vj xs) λ_=>Vb (Zw (Ue (Vc ([]:List (El X6))+Vc xs<=Zt))) λ_=>Ua ([]++xs)
def cloLegG(xs:List (El X6)):Option (List (El X6)):=bif Ue (xs.length<=Zt) then Ua xs else Ub
noncomputable def ZtJ(xs:List (El X6)):Option (List (El X6)):=Yu (mkE Zma [] [] [] [] [] 8) (Wh Tryz.f57) Tryz.f57.results .leaf (.cons (.pd (.sl X6)) .nil) (.cons (.own X6 Ud) .nil) (λy=>y.2.1) (xs,())
theorem ZtK xs:ZtJ xs=Zfx xs:=by kernel_rfl
def ZtH:Spec:={args:=.cons (.pd (.sl X6)) .nil,res:=.cons (.own X6 Ud) .nil,fns:=[],α:=List (El X6),f:=λx=>Zfx x.1,unp:=λz=>(((),()),(z,()))}
theorem ZtL:ZR Tryz.prog 57 ZtH:=W6 (m:=[]) Zmb ZtM trivial λx z h=>(ZtK x.1).trans h
def ZtI:Spec:={args:=.cons (.pd (.sl X6)) .nil,res:=.cons (.own X6 Ud) .nil,fns:=[],α:=List (El X6),f:=λx=>cloLegG x.1,unp:=λz=>(((),()),(z,()))}
set_option maxRecDepth 1000000 in
theorem ZtN(a:Option Addr)(c:Nat)(w:World):
 Calls Tryz.prog 57 #[.slice a 0 c] w λe w' =>(e=.returned (.slice Ub 0 0)/\w' =w)\/∃T,e=.returned (.slice (Ua ⟨w.heap.size,0,Ub⟩) 0 0)/\w' =w.alloc (.cells #[] T (0,0)):=by
 cases a with
 |none=>
  go_enter Tryz.func57,Tryz.ntmps57
  go_wp2
  have b:Vh Tryz.prog (binOp .eql 46 (.slice Ub 0 c) (.slice Ub 0 0)) w=.ok (.bool Uc) w:=by kernel_rfl
  rw[b]
  go_wp2
  exact⟨rfl,.slice Ub 0 0,by kernel_rfl,.inl ⟨rfl,rfl⟩⟩
 |some a=>
  go_enter Tryz.func57,Tryz.ntmps57
  go_wp2
  have b:Vh Tryz.prog (binOp .eql 46 (.slice (Ua a) 0 c) (.slice Ub 0 0)) w=.ok (.bool Ud) w:=by kernel_rfl
  rw[b]
  go_wp2
  exact⟨rfl,.slice (Ua {block:=w.heap.size,off:=0}) 0 0,by kernel_rfl,.inr ⟨_,rfl,rfl⟩⟩
theorem cloLeg_ok:ZR Tryz.prog 57 ZtI where
 wf:=rfl
 fn:=⟨_,Tryz.func57,by kernel_rfl,by kernel_rfl⟩
 run:=by
  intro w I l D x (z:List (El X6)) k o f m amb d;have⟨xs,⟨⟩⟩:=x;have d:cloLegG xs=Ua z:=d;unfold cloLegG at d;by_cases g:xs.length<=Zt;case neg=>rw[Zm g]at d;simp at d
  rw[Zi g]at d;simp[Zf]at d;subst d
  cases xs with
  |cons y u=>exact ZtL.run w I l D (y::u,()) (y::u) k o f m amb (by show Zfx (y::u)=_;simp only[Zfx,Vd,Nat.zero_add,Zi g];rfl)
  |nil=>
   obtain⟨H,J,v,r,rfl,rfl,⟨s,n⟩,rfl,rfl⟩:=k;obtain⟨rfl,t⟩:=s;have j:Kb v=false:=n.resolve_left λh=>by cases h
   have⟨a,cap,A,B,E,F⟩:=t;have C:=K3 B j;subst C;refine(ZtN a cap w).mono ?_;rintro e K (⟨rfl,rfl⟩|⟨T,rfl,rfl⟩);.exact⟨_,rfl,I,[],[],⟨[],[],_,_,rfl,rfl,rfl,rfl⟩,⟨[.slice Ub 0 0],⟨[],[],_,_,rfl,rfl,⟨.inl ⟨rfl,rfl,rfl⟩,.inr rfl⟩,rfl,rfl⟩,rfl⟩,by simp,by simp,λ_ h=>h,λb c=>⟨m b c,.inl c⟩,rfl,rfl,⟨rfl,λ_=>Va _⟩,Va _,λb c _=>rfl⟩
   have i:w.heap.size<(w.alloc (.cells #[] T (0,0))).heap.size:=by show _<(w.heap.push _).size;rw[Ve];omega
   have p:(w.alloc (.cells #[] T (0,0))).heap[w.heap.size]? =Ua (.cells #[] T (0,0)):=by show (w.heap.push _)[w.heap.size]? =_;simp
   have q:∀b,b<w.heap.size->(w.alloc (.cells #[] T (0,0))).heap[b]? =w.heap[b]? :=by intro b c;show (w.heap.push _)[b]? =_;grind
   refine⟨_,rfl,I,[],[w.heap.size],⟨[],[],_,_,rfl,rfl,rfl,rfl⟩,⟨[.slice (Ua ⟨w.heap.size,0,Ub⟩) 0 0],⟨[w.heap.size],[],_,_,rfl,rfl,⟨.inr ⟨w.heap.size,0, #[],T,[],rfl,rfl,p,Va _,?_,trivial,Vf⟩,.inr rfl⟩,rfl,rfl⟩,rfl⟩,by simp,λb c=>?_,λ_ h=>h,λb c=>⟨Nat.lt_trans (m b c) i,.inl c⟩,rfl,rfl,⟨rfl,λ_=>Va _⟩,Nat.le_of_lt i,λb c _=>q b c⟩;.simp
   simp[Vg]at c;subst c;exact⟨λh=>Vi _ (m _ h),i,.inr (Va _)⟩
def Zl9:List (Nat×Ty):=[(3,.int .i64),(4,.bool),(87,.sl (.int .i64))]
theorem ZtF:DW Tryz.prog Zl9 [] [] []=true:=by kernel_rfl
def Zfw(xs:List (El (.int .i64))):Option (List (El (.int .i64))):=Vb (Zw !Vj xs) λ_=>Vb (Zw (Ue (Vc ([]:List (El (.int .i64)))+Vc xs<=Zt))) λ_=>Ua ([]++xs)
def cloIntG(xs:List (El (.int .i64))):Option (List (El (.int .i64))):=bif Ue (xs.length<=Zt) then Ua xs else Ub
noncomputable def ZtC(xs:List (El (.int .i64))):Option (List (El (.int .i64))):=Yu (mkE Zl9 [] [] [] [] [] 8) (Wh Tryz.f192) Tryz.f192.results .leaf (.cons (.pd (.sl (.int .i64))) .nil) (.cons (.own (.int .i64) Ud) .nil) (λy=>y.2.1) (xs,())
theorem ZtD xs:ZtC xs=Zfw xs:=by kernel_rfl
def ZtA:Spec:={args:=.cons (.pd (.sl (.int .i64))) .nil,res:=.cons (.own (.int .i64) Ud) .nil,fns:=[],α:=List (El (.int .i64)),f:=λx=>Zfw x.1,unp:=λz=>(((),()),(z,()))}
theorem ZtE:ZR Tryz.prog 192 ZtA:=W6 (m:=[]) Zmb ZtF trivial λx z h=>(ZtD x.1).trans h
def ZtB:Spec:={args:=.cons (.pd (.sl (.int .i64))) .nil,res:=.cons (.own (.int .i64) Ud) .nil,fns:=[],α:=List (El (.int .i64)),f:=λx=>cloIntG x.1,unp:=λz=>(((),()),(z,()))}
set_option maxRecDepth 1000000 in
theorem ZtG(a:Option Addr)(c:Nat)(w:World):
 Calls Tryz.prog 192 #[.slice a 0 c] w λe w' =>(e=.returned (.slice Ub 0 0)/\w' =w)\/∃T,e=.returned (.slice (Ua ⟨w.heap.size,0,Ub⟩) 0 0)/\w' =w.alloc (.cells #[] T (0,0)):=by
 cases a with
 |none=>
  go_enter Tryz.func192,Tryz.ntmps192
  go_wp2
  have b:Vh Tryz.prog (binOp .eql 87 (.slice Ub 0 c) (.slice Ub 0 0)) w=.ok (.bool Uc) w:=by kernel_rfl
  rw[b]
  go_wp2
  exact⟨rfl,.slice Ub 0 0,by kernel_rfl,.inl ⟨rfl,rfl⟩⟩
 |some a=>
  go_enter Tryz.func192,Tryz.ntmps192
  go_wp2
  have b:Vh Tryz.prog (binOp .eql 87 (.slice (Ua a) 0 c) (.slice Ub 0 0)) w=.ok (.bool Ud) w:=by kernel_rfl
  rw[b]
  go_wp2
  exact⟨rfl,.slice (Ua {block:=w.heap.size,off:=0}) 0 0,by kernel_rfl,.inr ⟨_,rfl,rfl⟩⟩
theorem cloInt_ok:ZR Tryz.prog 192 ZtB where
 wf:=rfl
 fn:=⟨_,Tryz.func192,by kernel_rfl,by kernel_rfl⟩
 run:=by
  intro w I l D x (z:List (El (.int .i64))) k o f m amb d;have⟨xs,⟨⟩⟩:=x;have d:cloIntG xs=Ua z:=d;unfold cloIntG at d;by_cases g:xs.length<=Zt;case neg=>rw[Zm g]at d;simp at d
  rw[Zi g]at d;simp[Zf]at d;subst d
  cases xs with
  |cons y u=>exact ZtE.run w I l D (y::u,()) (y::u) k o f m amb (by show Zfw (y::u)=_;simp only[Zfw,Vd,Nat.zero_add,Zi g];rfl)
  |nil=>
   obtain⟨H,J,v,r,rfl,rfl,⟨s,n⟩,rfl,rfl⟩:=k;obtain⟨rfl,t⟩:=s;have j:Kb v=false:=n.resolve_left λh=>by cases h
   have⟨a,cap,A,B,E,F⟩:=t;have C:=K3 B j;subst C;refine(ZtG a cap w).mono ?_;rintro e K (⟨rfl,rfl⟩|⟨T,rfl,rfl⟩);.exact⟨_,rfl,I,[],[],⟨[],[],_,_,rfl,rfl,rfl,rfl⟩,⟨[.slice Ub 0 0],⟨[],[],_,_,rfl,rfl,⟨.inl ⟨rfl,rfl,rfl⟩,.inr rfl⟩,rfl,rfl⟩,rfl⟩,by simp,by simp,λ_ h=>h,λb c=>⟨m b c,.inl c⟩,rfl,rfl,⟨rfl,λ_=>Va _⟩,Va _,λb c _=>rfl⟩
   have i:w.heap.size<(w.alloc (.cells #[] T (0,0))).heap.size:=by show _<(w.heap.push _).size;rw[Ve];omega
   have p:(w.alloc (.cells #[] T (0,0))).heap[w.heap.size]? =Ua (.cells #[] T (0,0)):=by show (w.heap.push _)[w.heap.size]? =_;simp
   have q:∀b,b<w.heap.size->(w.alloc (.cells #[] T (0,0))).heap[b]? =w.heap[b]? :=by intro b c;show (w.heap.push _)[b]? =_;grind
   refine⟨_,rfl,I,[],[w.heap.size],⟨[],[],_,_,rfl,rfl,rfl,rfl⟩,⟨[.slice (Ua ⟨w.heap.size,0,Ub⟩) 0 0],⟨[w.heap.size],[],_,_,rfl,rfl,⟨.inr ⟨w.heap.size,0, #[],T,[],rfl,rfl,p,Va _,?_,trivial,Vf⟩,.inr rfl⟩,rfl,rfl⟩,rfl⟩,by simp,λb c=>?_,λ_ h=>h,λb c=>⟨Nat.lt_trans (m b c) i,.inl c⟩,rfl,rfl,⟨rfl,λ_=>Va _⟩,Nat.le_of_lt i,λb c _=>q b c⟩;.simp
   simp[Vg]at c;subst c;exact⟨λh=>Vi _ (m _ h),i,.inr (Va _)⟩
end Tr
