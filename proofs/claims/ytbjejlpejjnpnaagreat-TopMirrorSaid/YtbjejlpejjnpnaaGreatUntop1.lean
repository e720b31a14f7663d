/- feasible.until: conditions one after the other. Conditions: none. -/
import Derived.Test.YtbjejlpejjnpnaaGreatProg
import Derived.Tactics
import Derived.Tactics2
import Derived.StillTactics
import Derived.Laws.AppendOwn
import Derived.Laws.NewBlocks
import Derived.Laws.Alloc2
import Derived.Laws.Wrap64
import Derived.Laws.Pointers
import Derived.Laws.Cells
import Derived.Laws.NewDeep
import Derived.Laws.StructEq
import Derived.Laws.StandIn
import Derived.Laws.ByValue
import Derived.Laws.Build
import Derived.Laws.World
import Derived.Laws.Slices
import Derived.Laws.Small
import Derived.Laws.Bits
import Derived.Laws.ShiftsVar
import Derived.Laws.ShiftsVarLaws
import Derived.Laws.Unary
import Derived.Scope
import Derived.FnLit
import Derived.LoopN
import Derived.RegionTactic
import Derived.LoopTactic
import Derived.RegionCalls
import Derived.Below
import Derived.Shelf.Abstract
import Derived.Test.YtbjejlpejjnpnaaGreatETsC
open Nat renaming lt_of_lt_of_le ->Va
namespace Tr
open Go Go.Proofs Go.RowKit
structure Kp (w u:World):Prop where
 os:u.os=w.os
 tape:u.tape=w.tape
 out:X2 u w
 size:w.heap.size<=u.heap.size
 heap:∀b,b<w.heap.size->u.heap[b]? =w.heap[b]?
theorem Kp.refl(w:World):Kp w w:=⟨rfl,rfl,⟨rfl,Nat.le_refl _⟩,Nat.le_refl _,fun _ _=>rfl⟩
theorem Kp.trans{w u v:World}(h:Kp w u)(k:Kp u v):Kp w v:=
 ⟨k.os.trans h.os,k.tape.trans h.tape,⟨k.out.out.trans h.out.out,Nat.le_trans h.out.drawn k.out.drawn⟩,Nat.le_trans h.size k.size,fun b a=>(k.heap b (Va a h.size)).trans (h.heap b a)⟩
def Zh3(v:Value)(w:World)(f:FuncId)(z:Int):Prop:= ∀u,Kp w u->Calls Tryz.prog f #[v] u fun e a=>e=.returned (.int .i64 z)/\Kp u a
def GZ(v:Value)(w:World):List FuncId->Int->Prop
 |[],r=>r=0
 |f::l,r=>∃z,(∀args u,(callFunc f args).run Tryz.prog u=.ok (.enter f args) u)/\Zh3 v w f z/\(z≠0/\r=z\/z=0/\GZ v w l r)
def unI:Value->Int|.int _ q=>q|_=>0
set_option maxHeartbeats 4000000 in
set_option maxRecDepth 1000000 in
theorem ZmZ(v:Value)(w:World)(b:Nat)(a:List FuncId)(e:TypeId)(E:w.heap[b]? =some (.cells (a.map fun f=>Value.func (.func f) #[v] #[]).toArray e (0,0)))(L:a.length<1000)(r:Int)(J:GZ v w a r):
 Calls Tryz.prog 166 #[.slice (some ⟨b,0,none⟩) a.length a.length] w fun e w' =>e=.returned (.int .i64 r)/\Kp w w' :=by
 go_enter Tryz.func166,Tryz.ntmps166
 go_wp2
 refine wp_loop (fun u w' =>∃(i:Nat) (u3 u4 u5 I m n o p q s u16 t:Value),u={tmps:= #[.slice (some ⟨b,0,none⟩) a.length a.length,undef,.int .i64 0,u3,u4,u5,.slice (some ⟨b,0,none⟩) a.length a.length,.int .i64 (a.length:Int),.int .i64 (i:Int),I,m,n,o,p,q,s,u16,t],defers:=[] } /\Kp w w' /\i<=a.length/\GZ v w (a.drop i) r) (fun u _=>a.length - (unI (u.tmps.getD 8 undef)).toNat) ⟨0,_,_,_,_,_,_,_,_,_,_,_,_,rfl,.refl w,Nat.zero_le _,J⟩ ?_;rintro u w' ⟨i,u3,u4,u5,I,m,n,o,p,q,s,u16,t,rfl,j,K,l⟩
 have y:w'.heap[b]? =some (.cells (a.map fun f=>Value.func (.func f) #[v] #[]).toArray e (0,0)):=by rw[<-E];exact j.heap b (Array.getElem?_eq_some_iff.1 E).1
 by_cases d:i<a.length
 ·have G:(i:Int)<(a.length:Int):=by omega
  obtain⟨z,A,F,H⟩:GZ v w (a[i]::a.drop (i+1)) r:=by rw[<-List.drop_eq_getElem_cons d];exact l
  have c:w'.cell? ⟨b,i,none⟩=some (.func (.func a[i]) #[v] #[]):=by simp [World.cell?,y,d]
  generalize a[i]=f at A F c
  go_wp2
  refine(F _ j).mono ?_;rintro D M ⟨rfl,k⟩
  go_wp2
  ·rename_i g
   go_ret
   rcases H with ⟨_,rfl⟩|⟨x,_⟩
   ·exact⟨rfl,j.trans k⟩
   ·exact absurd x (by simpa using g)
  ·rename_i g;have x:z=0:=by simpa using g
   have C:GZ v w (a.drop (i+1)) r:=(H.resolve_left fun h=>h.1 x).2;have D:((i:Int)+1+9223372036854775808) % 18446744073709551616 - 9223372036854775808=((i+1:Nat):Int):=by omega
   rw[D];refine⟨⟨i+1,_,_,_,_,_,_,_,_,_,_,_,_,rfl,j.trans k,d,C⟩,?_⟩;simp [unI];omega
 ·have B:i=a.length:=by omega
  subst B
  go_wp2
  go_ret
  rw[List.drop_length]at l;have l:r=0:=l;subst l;exact⟨rfl,j⟩
abbrev YG(T:Ty)(F:El T->Option Int):Spec:= {args:=.cons (.pd T) .nil,res:=.cons (.pd (.int .i64)) .nil,fns:=[],α:=Int,f:=fun x=>F x.1,unp:=fun z=>(((),()),(z,()))}
theorem Zp4{T:Ty}{F:El T->Option Int}{f:FuncId}(q:ZX Tryz.prog f (YG T F)){w:World}{I:Nat->Prop}(m:∀b,I b->b<w.heap.size){v:Value}{x:El T}(A:Rd w I T x v.cells.toList)(y:Ka v=T.agg){z:Int}(B:F x=some z):Zh3 v w f z:=by
 intro u n;have l:Rd u I T x v.cells.toList:=Rd.mono (fun b g=>n.heap b (m b g)) (fun _ h=>h) T x _ A;refine(q.run u I [v] [] (x,()) z ⟨[],[],v,[],rfl,rfl,⟨⟨rfl,l⟩,.inr y⟩,rfl,rfl⟩ .nil (by simp) (fun b g=>Va (m b g) n.size) (fun h=>by cases h) B).mono ?_;rintro e K ⟨J,rfl,C,G,H,_,⟨vs,j,rfl⟩,_,_,_,_,i,d,a,k,c⟩;obtain⟨D,E,v,r,_,rfl,⟨t,s⟩,_,rfl⟩:=j;refine⟨?_,i,d,⟨a.out,a.drawn rfl⟩,k,fun b g=>c b g (by simp)⟩;have o:v.cells.toList=[.int .i64 z]:=t.2;have p:Ka v=false:=s.resolve_left fun h=>by cases h
 rw[KU o p];rfl
def untilF:List (Option Int)->Option Int
 |[]=>some 0
 |o::l=>o.bind fun e=>bif decide (e=0) then untilF l else some e
theorem ZmW{T:Ty}{w:World}{I:Nat->Prop}(d:∀b,I b->b<w.heap.size){v:Value}{x:El T}(f:Rd w I T x v.cells.toList)(e:Ka v=T.agg){r:Int} :∀(l:List (FuncId×(El T->Option Int))),(∀p∈l,ZX Tryz.prog p.1 (YG T p.2))->untilF (l.map fun p=>p.2 x)=some r->GZ v w (l.map Prod.fst) r
 |[],_,h=>by
  simp only[List.map_nil,untilF,Option.some.injEq]at h
  exact h.symm
 |p::l,c,h=>by
  simp only[List.map_cons,untilF,Option.bind_eq_some_iff]at h;obtain⟨z,i,h⟩:=h;refine⟨z,?_,Zp4 (c p (by simp)) d f e i,?_⟩
  ·exact fun args u=>ZeA (c p (by simp)) args u
  ·by_cases a:z=0
   ·rw[Zd a,Zc]at h;exact .inr ⟨a,ZmW d f e l (fun q g=>c q (by simp [g])) h⟩
   ·rw[Zk a,Ze,Option.some.injEq]at h;exact .inl ⟨a,h.symm⟩
end Tr
