/- slices.Clone of legs and of tickets. Conditions: none. -/
import Derived.Test.YtdpenljjnfmgiaaGreatProg
import Derived.KernelRfl
import Derived.Tactics
import Derived.Tactics2
import Derived.StillTactics
import Derived.LoopTactic
import Derived.WalkMore
import Derived.Test.YtdpenljjnfmgiaaGreatETsF
open Option renaming bind ->Va
open Option renaming some ->Ua,none ->Ub
open Bool renaming true ->Uc,false ->Ud
open Decidable renaming decide ->Ue
namespace Tr
open Go Go.Proofs
abbrev JM:Ty:=.prod (.int .i64) (.prod (.int .i64) (.prod (.int .i64) (.prod (.int .i64) .unit)))
theorem Zrn:Tryz.prog.follows .mixedOrders=true:=by kernel_rfl
def Zky:List (Nat×Ty):=[(3,.int .i64),(4,.bool),(118,JM),(51,.sl JM)]
theorem Zrl:H6 Tryz.prog Zky [] [] []=true:=by kernel_rfl
def Zer(xs:List (El JM)):Option (List (El JM)):=Va (ZD !List.isEmpty xs) λ_=>Va (ZD (Ue (List.length ([]:List (El JM))+List.length xs<=ZI))) λ_=>Ua ([]++xs)
def clnTicG(xs:List (El JM)):Option (List (El JM)):=bif Ue (xs.length<=ZI) then Ua xs else Ub
noncomputable def Zri(xs:List (El JM)):Option (List (El JM)):=XV (mkE Zky [] [] [] [] [] 8) (K2 Tryz.f58) Tryz.f58.results .leaf (.cons (.pd (.sl JM)) .nil) (.cons (.pd (.sl JM)) .nil) (λy=>y.2.1) (xs,())
theorem Zrj(xs:List (El JM)):Zri xs=Zer xs:=by kernel_rfl
def Zrg:Spec:={args:=.cons (.pd (.sl JM)) .nil,res:=.cons (.pd (.sl JM)) .nil,fns:=[],α:=List (El JM),f:=λx=>Zer x.1,unp:=λz=>(((),()),(z,()))}
theorem Zrk:ZT Tryz.prog 58 Zrg:=Ja (m:=[]) (fn:=Tryz.f58) (nt:=8) (rws:=[]) (zxs:=[]) (hint:=.leaf) (pack:=λy=>y.2.1) Zrn Zrl trivial λx z h=>(Zrj x.1).trans h
def Zrh:Spec:={args:=.cons (.pd (.sl JM)) .nil,res:=.cons (.pd (.sl JM)) .nil,fns:=[],α:=List (El JM),f:=λx=>clnTicG x.1,unp:=λz=>(((),()),(z,()))}
set_option maxRecDepth 1000000 in
theorem Zrm(a:Option Addr)(c:Nat)(w:World):
 Calls Tryz.prog 58 #[.slice a 0 c] w λe w' =>∃d f,e=.returned (.slice d 0 f)/\(w' =w\/∃o,w' =w.alloc o):=by
 cases a with
 |none=>
  go_enter Tryz.func58,Tryz.ntmps58
  go_wp2
  have b:Sem.run Tryz.prog (binOp .eql 51 (.slice Ub 0 c) (.slice Ub 0 0)) w=.ok (.bool Uc) w:=by kernel_rfl
  rw[b]
  go_wp2
  exact⟨rfl,.slice Ub 0 0,by kernel_rfl,Ub,0,rfl,.inl rfl⟩
 |some a=>
  go_enter Tryz.func58,Tryz.ntmps58
  go_wp2
  have b:Sem.run Tryz.prog (binOp .eql 51 (.slice (Ua a) 0 c) (.slice Ub 0 0)) w=.ok (.bool Ud) w:=by kernel_rfl
  rw[b]
  go_wp2
  exact⟨rfl,.slice (Ua {block:=w.heap.size,off:=0}) 0 0,by kernel_rfl,_,_,rfl,.inr ⟨_,rfl⟩⟩
theorem clnTic_ok:ZT Tryz.prog 58 Zrh where
 wf:=rfl
 fn:=⟨_,Tryz.func58,by kernel_rfl,by kernel_rfl⟩
 run:=by
  intro w I n K x (z:List (El JM)) l t d F amb c;obtain⟨xs,⟨⟩⟩:=x;change List (El JM) at xs;have c:clnTicG xs=Ua z:=c;unfold clnTicG at c;by_cases f:xs.length<=ZI
  case neg=>rw[Zt f]at c;simp at c
  rw[Zi f]at c;simp only[Zd,ZL]at c;subst c
  cases xs with
  |cons y E=>exact Zrk.run w I n K (y::E,()) (y::E) l t d F amb (by show Zer (y::E)=_;simp only[Zer,List.isEmpty_cons,Bool.not_false,ZD,List.length_nil,Nat.zero_add,Zi f,List.nil_append];rfl)
  |nil=>
   obtain⟨N,O,v,r,rfl,rfl,⟨A,s⟩,rfl,rfl⟩:=l;obtain⟨rfl,B⟩:=A;have j:Kd v=false:=s.resolve_left λh=>by cases h
   obtain⟨a,cap,G,H,L,M⟩:=B;have J:=KY H j;subst J;refine(Zrm a cap w).mono ?_;rintro e i ⟨p,q,rfl,D⟩;have C:Rd i I (.sl JM) ([]:List (El JM)) [.slice p 0 q]:=⟨p,q,[],rfl,trivial,λh=>absurd rfl h,Nat.zero_le _⟩;have m:w.heap.size<=i.heap.size:=by
    rcases D with rfl|⟨o,rfl⟩
    ·exact Nat.le_refl _
    ·show _<=(w.heap.push o).size;rw[Array.size_push];omega
   have u:∀b,b<w.heap.size->i.heap[b]? =w.heap[b]? :=by
    intro b k;rcases D with rfl|⟨o,rfl⟩
    ·rfl
    ·show (w.heap.push o)[b]? =_;rw[Array.getElem?_push];grind
   have g:i.os=w.os/\i.tape=w.tape/\YI Uc i w:=by
    rcases D with rfl|⟨o,rfl⟩
    ·exact⟨rfl,rfl,.rfl⟩
    ·exact⟨rfl,rfl,rfl,λ_=>Nat.le_refl _⟩
   exact⟨_,rfl,I,[],[],⟨[],[],_,_,rfl,rfl,rfl,rfl⟩,⟨[.slice p 0 q],⟨[],[],_,_,rfl,rfl,⟨⟨rfl,C⟩,.inr rfl⟩,rfl,rfl⟩,rfl⟩,by simp,by simp,λ_ h=>h,λb k=>⟨Nat.lt_of_lt_of_le (F b k) m,.inl k⟩,g.1,g.2.1,g.2.2,m,λb k _=>u b k⟩
end Tr
