/- slices.Clone of legs and of tickets. Conditions: none. -/
import Derived.Test.YtdpenljjnfmgiaaGreatProg
import Derived.KernelRfl
import Derived.Tactics
import Derived.Tactics2
import Derived.StillTactics
import Derived.LoopTactic
import Derived.WalkMore
import Derived.Test.YtdpenljjnfmgiaaGreatETsF
open Option renaming bind ->Va
namespace Tr
open Go Go.Proofs
abbrev Jx:Ty:=.prod (.int .i64) (.prod (.int .i64) (.prod (.int .i64) (.prod (.int .i64) .unit)))
theorem Zo2:Tryz.prog.follows .mixedOrders=true:=by kernel_rfl
def ZiY:List (Nat×Ty):=[(3,.int .i64),(4,.bool),(118,Jx),(51,.sl Jx)]
theorem Zo0:Hq Tryz.prog ZiY [] [] []=true:=by kernel_rfl
def Zdk(xs:List (El Jx)):Option (List (El Jx)):=Va (Zy !List.isEmpty xs) fun _=>Va (Zy (decide (List.length ([]:List (El Jx))+List.length xs<=ZC))) fun _=>some ([]++xs)
def clnTicG(xs:List (El Jx)):Option (List (El Jx)):=bif decide (xs.length<=ZC) then some xs else none
noncomputable def ZoX(xs:List (El Jx)):Option (List (El Jx)):=XO (mkE ZiY [] [] [] [] [] 8) (KM Tryz.f58) Tryz.f58.results .leaf (.cons (.pd (.sl Jx)) .nil) (.cons (.pd (.sl Jx)) .nil) (fun y=>y.2.1) (xs,())
theorem ZoY(xs:List (El Jx)):ZoX xs=Zdk xs:=by kernel_rfl
def ZoV:Spec:= {args:=.cons (.pd (.sl Jx)) .nil,res:=.cons (.pd (.sl Jx)) .nil,fns:=[],α:=List (El Jx),f:=fun x=>Zdk x.1,unp:=fun z=>(((),()),(z,()))}
theorem ZoZ:ZL Tryz.prog 58 ZoV:=WS (m:=[]) (fn:=Tryz.f58) (nt:=8) (rws:=[]) (zxs:=[]) (hint:=.leaf) (pack:=fun y=>y.2.1) Zo2 Zo0 trivial fun x z h=>(ZoY x.1).trans h
def ZoW:Spec:= {args:=.cons (.pd (.sl Jx)) .nil,res:=.cons (.pd (.sl Jx)) .nil,fns:=[],α:=List (El Jx),f:=fun x=>clnTicG x.1,unp:=fun z=>(((),()),(z,()))}
set_option maxRecDepth 1000000 in
theorem Zo1(a:Option Addr)(c:Nat)(w:World):
 Calls Tryz.prog 58 #[.slice a 0 c] w fun e w' =>∃d c',e=.returned (.slice d 0 c')/\(w' =w\/ ∃o,w' =w.alloc o):=by
 cases a with
 |none=>
  go_enter Tryz.func58,Tryz.ntmps58
  go_wp2
  have b:Sem.run Tryz.prog (binOp .eql 51 (.slice none 0 c) (.slice none 0 0)) w=.ok (.bool true) w:=by kernel_rfl
  rw[b]
  go_wp2
  exact⟨rfl,.slice none 0 0,by kernel_rfl,none,0,rfl,.inl rfl⟩
 |some a=>
  go_enter Tryz.func58,Tryz.ntmps58
  go_wp2
  have b:Sem.run Tryz.prog (binOp .eql 51 (.slice (some a) 0 c) (.slice none 0 0)) w=.ok (.bool false) w:=by kernel_rfl
  rw[b]
  go_wp2
  exact⟨rfl,.slice (some {block:=w.heap.size,off:=0}) 0 0,by kernel_rfl,_,_,rfl,.inr ⟨_,rfl⟩⟩
theorem clnTic_ok:ZL Tryz.prog 58 ZoW where
 wf:=rfl
 fn:=⟨_,Tryz.func58,by kernel_rfl,by kernel_rfl⟩
 run:=by
  intro w I n K x (z:List (El Jx)) l t d F amb c;obtain⟨xs,⟨⟩⟩:=x
  change List (El Jx) at xs
  have c:clnTicG xs=some z:=c;unfold clnTicG at c;by_cases f:xs.length<=ZC
  case neg=>rw[Zv f]at c;simp at c
  rw[Zi f]at c;simp only[Zc,Option.some.injEq]at c;subst c
  cases xs with
  |cons y E=>exact ZoZ.run w I n K (y::E,()) (y::E) l t d F amb (by show Zdk (y::E)=_;simp only[Zdk,List.isEmpty_cons,Bool.not_false,Zy,List.length_nil,Nat.zero_add,Zi f,List.nil_append];rfl)
  |nil=>
   obtain⟨N,O,v,r,rfl,rfl,⟨A,s⟩,rfl,rfl⟩:=l;obtain⟨rfl,B⟩:=A;have j:Z8 v=false:=s.resolve_left fun h=>by cases h
   obtain⟨a,cap,G,H,L,M⟩:=B;have J:=KH H j;subst J;refine(Zo1 a cap w).mono ?_;rintro e i ⟨p,q,rfl,D⟩;have C:Rd i I (.sl Jx) ([]:List (El Jx)) [.slice p 0 q]:=⟨p,q,[],rfl,trivial,fun h=>absurd rfl h,Nat.zero_le _⟩
   have m:w.heap.size<=i.heap.size:=by
    rcases D with rfl|⟨o,rfl⟩
    ·exact Nat.le_refl _
    ·show _<=(w.heap.push o).size;rw[Array.size_push];omega
   have u:∀b,b<w.heap.size->i.heap[b]? =w.heap[b]? :=by
    intro b k;rcases D with rfl|⟨o,rfl⟩
    ·rfl
    ·show (w.heap.push o)[b]? =_;rw[Array.getElem?_push];grind
   have g:i.os=w.os/\i.tape=w.tape/\Yn true i w:=by
    rcases D with rfl|⟨o,rfl⟩
    ·exact⟨rfl,rfl,.rfl⟩
    ·exact⟨rfl,rfl,rfl,fun _=>Nat.le_refl _⟩
   exact⟨_,rfl,I,[],[],⟨[],[],_,_,rfl,rfl,rfl,rfl⟩,⟨[.slice p 0 q],⟨[],[],_,_,rfl,rfl,⟨⟨rfl,C⟩,.inr rfl⟩,rfl,rfl⟩,rfl⟩,by simp,by simp,fun _ h=>h,fun b k=>⟨Nat.lt_of_lt_of_le (F b k) m,.inl k⟩,g.1,g.2.1,g.2.2,m,fun b k _=>u b k⟩
end Tr
