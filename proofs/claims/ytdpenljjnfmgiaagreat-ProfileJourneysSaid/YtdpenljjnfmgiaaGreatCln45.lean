/- slices.Clone of legs and of tickets. Conditions: none. -/
import Derived.Test.YtdpenljjnfmgiaaGreatProg
import Derived.KernelRfl
import Derived.Tactics
import Derived.Tactics2
import Derived.StillTactics
import Derived.LoopTactic
import Derived.WalkMore
import Derived.Test.YtdpenljjnfmgiaaGreatETsF
open Option renaming bind ->Va
open Option renaming some ->Ua,none ->Ub
open Bool renaming true ->Uc,false ->Ud
open Decidable renaming decide ->Ue
namespace Tr
open Go Go.Proofs
abbrev JL:Ty:=.prod (.int .i64) (.prod (.int .i64) (.prod (.int .i64) (.prod (.int .i64) .unit)))
theorem ZqO:Tryz.prog.follows .mixedOrders=true:=by kernel_rfl
def Zj9:List (Nat×Ty):=[(3,.int .i64),(4,.bool),(118,JL),(51,.sl JL)]
theorem ZqM:HT Tryz.prog Zj9 [] [] []=true:=by kernel_rfl
def Zen(xs:List (El JL)):Option (List (El JL)):=Va (Zz !List.isEmpty xs) fun _=>Va (Zz (Ue (List.length ([]:List (El JL))+List.length xs<=ZD))) fun _=>Ua ([]++xs)
def clnTicG(xs:List (El JL)):Option (List (El JL)):=bif Ue (xs.length<=ZD) then Ua xs else Ub
noncomputable def ZqJ(xs:List (El JL)):Option (List (El JL)):=XO (mkE Zj9 [] [] [] [] [] 8) (KX Tryz.f58) Tryz.f58.results .leaf (.cons (.pd (.sl JL)) .nil) (.cons (.pd (.sl JL)) .nil) (fun y=>y.2.1) (xs,())
theorem ZqK(xs:List (El JL)):ZqJ xs=Zen xs:=by kernel_rfl
def ZqH:Spec:= {args:=.cons (.pd (.sl JL)) .nil,res:=.cons (.pd (.sl JL)) .nil,fns:=[],α:=List (El JL),f:=fun x=>Zen x.1,unp:=fun z=>(((),()),(z,()))}
theorem ZqL:ZS Tryz.prog 58 ZqH:=WZ (m:=[]) (fn:=Tryz.f58) (nt:=8) (rws:=[]) (zxs:=[]) (hint:=.leaf) (pack:=fun y=>y.2.1) ZqO ZqM trivial fun x z h=>(ZqK x.1).trans h
def ZqI:Spec:= {args:=.cons (.pd (.sl JL)) .nil,res:=.cons (.pd (.sl JL)) .nil,fns:=[],α:=List (El JL),f:=fun x=>clnTicG x.1,unp:=fun z=>(((),()),(z,()))}
set_option maxRecDepth 1000000 in
theorem ZqN(a:Option Addr)(c:Nat)(w:World):
 Calls Tryz.prog 58 #[.slice a 0 c] w fun e w' =>∃d c',e=.returned (.slice d 0 c')/\(w' =w\/ ∃o,w' =w.alloc o):=by
 cases a with
 |none=>
  go_enter Tryz.func58,Tryz.ntmps58
  go_wp2
  have b:Sem.run Tryz.prog (binOp .eql 51 (.slice Ub 0 c) (.slice Ub 0 0)) w=.ok (.bool Uc) w:=by kernel_rfl
  rw[b]
  go_wp2
  exact⟨rfl,.slice Ub 0 0,by kernel_rfl,Ub,0,rfl,.inl rfl⟩
 |some a=>
  go_enter Tryz.func58,Tryz.ntmps58
  go_wp2
  have b:Sem.run Tryz.prog (binOp .eql 51 (.slice (Ua a) 0 c) (.slice Ub 0 0)) w=.ok (.bool Ud) w:=by kernel_rfl
  rw[b]
  go_wp2
  exact⟨rfl,.slice (Ua {block:=w.heap.size,off:=0}) 0 0,by kernel_rfl,_,_,rfl,.inr ⟨_,rfl⟩⟩
theorem clnTic_ok:ZS Tryz.prog 58 ZqI where
 wf:=rfl
 fn:=⟨_,Tryz.func58,by kernel_rfl,by kernel_rfl⟩
 run:=by
  intro w I n K x (z:List (El JL)) l t d F amb c;obtain⟨xs,⟨⟩⟩:=x
  change List (El JL) at xs
  have c:clnTicG xs=Ua z:=c;unfold clnTicG at c;by_cases f:xs.length<=ZD
  case neg=>rw[Zr f]at c;simp at c
  rw[Zj f]at c;simp only[Ze,ZB]at c;subst c
  cases xs with
  |cons y E=>exact ZqL.run w I n K (y::E,()) (y::E) l t d F amb (by show Zen (y::E)=_;simp only[Zen,List.isEmpty_cons,Bool.not_false,Zz,List.length_nil,Nat.zero_add,Zj f,List.nil_append];rfl)
  |nil=>
   obtain⟨N,O,v,r,rfl,rfl,⟨A,s⟩,rfl,rfl⟩:=l;obtain⟨rfl,B⟩:=A;have j:Kf v=false:=s.resolve_left fun h=>by cases h
   obtain⟨a,cap,G,H,L,M⟩:=B;have J:=KU H j;subst J;refine(ZqN a cap w).mono ?_;rintro e i ⟨p,q,rfl,D⟩;have C:Rd i I (.sl JL) ([]:List (El JL)) [.slice p 0 q]:=⟨p,q,[],rfl,trivial,fun h=>absurd rfl h,Nat.zero_le _⟩
   have m:w.heap.size<=i.heap.size:=by
    rcases D with rfl|⟨o,rfl⟩
    ·exact Nat.le_refl _
    ·show _<=(w.heap.push o).size;rw[Array.size_push];omega
   have u:∀b,b<w.heap.size->i.heap[b]? =w.heap[b]? :=by
    intro b k;rcases D with rfl|⟨o,rfl⟩
    ·rfl
    ·show (w.heap.push o)[b]? =_;rw[Array.getElem?_push];grind
   have g:i.os=w.os/\i.tape=w.tape/\YL Uc i w:=by
    rcases D with rfl|⟨o,rfl⟩
    ·exact⟨rfl,rfl,.rfl⟩
    ·exact⟨rfl,rfl,rfl,fun _=>Nat.le_refl _⟩
   exact⟨_,rfl,I,[],[],⟨[],[],_,_,rfl,rfl,rfl,rfl⟩,⟨[.slice p 0 q],⟨[],[],_,_,rfl,rfl,⟨⟨rfl,C⟩,.inr rfl⟩,rfl,rfl⟩,rfl⟩,by simp,by simp,fun _ h=>h,fun b k=>⟨Nat.lt_of_lt_of_le (F b k) m,.inl k⟩,g.1,g.2.1,g.2.2,m,fun b k _=>u b k⟩
end Tr
