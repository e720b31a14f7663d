/- slices.Clone of legs and of tickets. Conditions: none. -/
import Derived.Test.YtdpenljjnfmgiaaGreatProg
import Derived.KernelRfl
import Derived.Tactics
import Derived.Tactics2
import Derived.StillTactics
import Derived.LoopTactic
import Derived.WalkMore
import Derived.Test.YtdpenljjnfmgiaaGreatETsF
open Option renaming bind ->Va
open Option renaming some ->Ua,none ->Ub
open Bool renaming true ->Uc,false ->Ud
open Decidable renaming decide ->Ue
namespace Tr
open Go Go.Proofs
abbrev XK:Ty:=.prod (.int .i64) (.prod (.int .i64) (.prod (.int .i64) (.prod (.int .i64) .unit)))
theorem Ztz:Tryz.prog.follows .mixedOrders=true:=by kernel_rfl
def Zl8:List (Nat×Ty):=[(3,.int .i64),(4,.bool),(118,XK),(51,.sl XK)]
theorem Ztx:DW Tryz.prog Zl8 [] [] []=true:=by kernel_rfl
def Zfv(xs:List (El XK)):Option (List (El XK)):=Va (Zw !List.isEmpty xs) λ_=>Va (Zw (Ue (List.length ([]:List (El XK))+List.length xs<=Zt))) λ_=>Ua ([]++xs)
def clnTicG(xs:List (El XK)):Option (List (El XK)):=bif Ue (xs.length<=Zt) then Ua xs else Ub
noncomputable def Ztu(xs:List (El XK)):Option (List (El XK)):=Yu (mkE Zl8 [] [] [] [] [] 8) (Wh Tryz.f58) Tryz.f58.results .leaf (.cons (.pd (.sl XK)) .nil) (.cons (.pd (.sl XK)) .nil) (λy=>y.2.1) (xs,())
theorem Ztv xs:Ztu xs=Zfv xs:=by kernel_rfl
def Zts:Spec:={args:=.cons (.pd (.sl XK)) .nil,res:=.cons (.pd (.sl XK)) .nil,fns:=[],α:=List (El XK),f:=λx=>Zfv x.1,unp:=λz=>(((),()),(z,()))}
theorem Ztw:ZR Tryz.prog 58 Zts:=W6 (m:=[]) Ztz Ztx trivial λx z h=>(Ztv x.1).trans h
def Ztt:Spec:={args:=.cons (.pd (.sl XK)) .nil,res:=.cons (.pd (.sl XK)) .nil,fns:=[],α:=List (El XK),f:=λx=>clnTicG x.1,unp:=λz=>(((),()),(z,()))}
set_option maxRecDepth 1000000 in
theorem Zty(a:Option Addr)(c:Nat)(w:World):
 Calls Tryz.prog 58 #[.slice a 0 c] w λe w' =>∃d f,e=.returned (.slice d 0 f)/\(w' =w\/∃o,w' =w.alloc o):=by
 cases a with
 |none=>
  go_enter Tryz.func58,Tryz.ntmps58
  go_wp2
  have b:Sem.run Tryz.prog (binOp .eql 51 (.slice Ub 0 c) (.slice Ub 0 0)) w=.ok (.bool Uc) w:=by kernel_rfl
  rw[b]
  go_wp2
  exact⟨rfl,.slice Ub 0 0,by kernel_rfl,Ub,0,rfl,.inl rfl⟩
 |some a=>
  go_enter Tryz.func58,Tryz.ntmps58
  go_wp2
  have b:Sem.run Tryz.prog (binOp .eql 51 (.slice (Ua a) 0 c) (.slice Ub 0 0)) w=.ok (.bool Ud) w:=by kernel_rfl
  rw[b]
  go_wp2
  exact⟨rfl,.slice (Ua {block:=w.heap.size,off:=0}) 0 0,by kernel_rfl,_,_,rfl,.inr ⟨_,rfl⟩⟩
theorem clnTic_ok:ZR Tryz.prog 58 Ztt where
 wf:=rfl
 fn:=⟨_,Tryz.func58,by kernel_rfl,by kernel_rfl⟩
 run:=by
  intro w I n L x (z:List (El XK)) l t d F amb c;have⟨xs,⟨⟩⟩:=x;have c:clnTicG xs=Ua z:=c;unfold clnTicG at c;by_cases f:xs.length<=Zt;case neg=>rw[Zm f]at c;simp at c
  rw[Zi f]at c;simp[Zf]at c;subst c
  cases xs with
  |cons y E=>exact Ztw.run w I n L (y::E,()) (y::E) l t d F amb (by show Zfv (y::E)=_;simp only[Zfv,List.length_nil,Nat.zero_add,Zi f];rfl)
  |nil=>
   obtain⟨O,P,v,r,rfl,rfl,⟨A,s⟩,rfl,rfl⟩:=l;obtain⟨rfl,B⟩:=A;have j:Kb v=false:=s.resolve_left λh=>by cases h
   have⟨a,cap,H,J,M,N⟩:=B;have K:=K3 J j;subst K;refine(Zty a cap w).mono ?_;rintro e i ⟨p,q,rfl,D⟩;have C:Rd i I (.sl XK) ([]) [.slice p 0 q]:=⟨p,q,[],rfl,trivial,λh=>absurd rfl h,Nat.zero_le _⟩;have m:w.heap.size<=i.heap.size:=by
    obtain rfl|⟨o,rfl⟩:=D;.exact Nat.le_refl _
    show _<=(w.heap.push o).size;rw[Array.size_push];omega
   have u:∀b,b<w.heap.size->i.heap[b]? =w.heap[b]? :=by
    intro b k;obtain rfl|⟨o,rfl⟩:=D;.rfl
    show (w.heap.push o)[b]? =_;grind
   have g:i.os=w.os/\i.tape=w.tape/\Y5 Uc i w:=by
    obtain rfl|⟨o,rfl⟩:=D;.exact⟨rfl,rfl,.rfl⟩
    exact⟨rfl,rfl,rfl,λ_=>Nat.le_refl _⟩
   exact⟨_,rfl,I,[],[],⟨[],[],_,_,rfl,rfl,rfl,rfl⟩,⟨[.slice p 0 q],⟨[],[],_,_,rfl,rfl,⟨⟨rfl,C⟩,.inr rfl⟩,rfl,rfl⟩,rfl⟩,by simp,by simp,λ_ h=>h,λb k=>⟨Nat.lt_of_lt_of_le (F b k) m,.inl k⟩,g.1,g.2.1,g.2.2,m,λb k _=>u b k⟩
end Tr
