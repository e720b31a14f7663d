/- feasible.checker.own and .place: conditions one after the other. Conditions: none. -/
import Derived.Test.YtbjejlpejjnpnaaGreatUntop2
open List renaming not_mem_nil ->Vb,mem_cons ->Vc
open Nat renaming lt_of_lt_of_le ->Va
namespace Tr
open Go Go.Proofs Go.RowKit
theorem ZmY {T:Ty} (o:T.agg=true) (A:T.size=21) (l:List (FuncId×(El T→Option Int))) (f:FuncId) (k:∃fn,Tryz.prog.funcs[f]? =some fn∧fn.body.isNone=false∧(fn.name== "runtime.NumGoroutine")=false)
 (C:∀(cs:Array Value),cs.size=21->∀(w:World) (r:Int),(∀u,Kp w u->GZ (.agg cs) u (l.map Prod.fst) r)->Calls Tryz.prog f #[.agg cs] w fun e w' =>e=.returned (.int .i64 r)/\Kp w w')
 (y:∀p∈l,ZX Tryz.prog p.1 (YG T p.2)):ZX Tryz.prog f (YG T fun x=>untilF (l.map fun p=>p.2 x)) where
 wf:=rfl
 fn:=k
 run:=by
  intro w I t E x (z:Int) n B m i _ D;obtain⟨_,_,v,_,rfl,rfl,⟨⟨rfl,s⟩,a⟩,rfl,rfl⟩:=n;obtain⟨x,⟨⟩⟩:=x;have a:Ka v=true:=(a.resolve_left fun h=>by cases h).trans o;have d:=Rd.length T x _ s
  obtain⟨cs,rfl⟩:∃cs,v=.agg cs:=by
   cases v<;>simp [Ka]at a
   exact⟨_,rfl⟩
  have j:cs.size=21:=by rw[A]at d;simpa [Value.cells] using d
  refine(C cs j w z fun u q=>ZmW (fun b c=>Va (i b c) q.size) (Rd.mono (fun b c=>q.heap b (i b c)) (fun _ h=>h) T x _ s) (a.trans o.symm) l y D).mono ?_;rintro e w' ⟨rfl,g⟩;exact⟨_,rfl,I,[],[],⟨[],[],_,_,rfl,rfl,rfl,rfl⟩,⟨[.int .i64 z],⟨[],[],_,_,rfl,rfl,⟨⟨rfl,rfl⟩,.inr rfl⟩,rfl,rfl⟩,rfl⟩,by simp,by simp,fun _ h=>h,fun b c=>⟨Va (i b c) g.size,.inl c⟩,g.os,g.tape,⟨g.out.out,fun _=>g.out.drawn⟩,g.size,fun b c _=>g.heap b c⟩
theorem own_ok{T:Ty}(d:T.agg=true)(e:T.size=21){c0 a b c3:El T->Option Int}(f:ZX Tryz.prog 210 (YG T c0))(g:ZX Tryz.prog 211 (YG T a))(h:ZX Tryz.prog 212 (YG T b))(i:ZX Tryz.prog 213 (YG T c3)):
 ZX Tryz.prog 167 (YG T fun x=>untilF [c0 x,a x,b x,c3 x]):=
 ZmY d e [(210,c0),(211,a),(212,b),(213,c3)] 167 ⟨_,Tryz.func167,rfl,rfl⟩ Zso (by
  intro p c;simp only[Vc,Vb,Z3]at c
  rcases c with rfl|rfl|rfl|rfl<;>assumption)
theorem place_ok{T:Ty}(e:T.agg=true)(f:T.size=21){c0 a b c3 c:El T->Option Int}(g:ZX Tryz.prog 167 (YG T c0))(h:ZX Tryz.prog 168 (YG T a))(i:ZX Tryz.prog 169 (YG T b))(j:ZX Tryz.prog 170 (YG T c3))(k:ZX Tryz.prog 171 (YG T c)):
 ZX Tryz.prog 116 (YG T fun x=>untilF [c0 x,a x,b x,c3 x,c x]):=
 ZmY e f [(167,c0),(168,a),(169,b),(170,c3),(171,c)] 116 ⟨_,Tryz.func116,rfl,rfl⟩ Zsu (by
  intro p d;simp only[Vc,Vb,Z3]at d
  rcases d with rfl|rfl|rfl|rfl|rfl<;>assumption)
end Tr
