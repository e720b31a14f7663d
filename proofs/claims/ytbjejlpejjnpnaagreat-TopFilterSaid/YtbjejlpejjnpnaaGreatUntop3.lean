/- feasible.checker.own and .place: conditions one after the other. Conditions: none. -/
import Derived.Test.YtbjejlpejjnpnaaGreatUntop2
open List renaming not_mem_nil ->Vb,mem_cons ->Vc
open Nat renaming lt_of_lt_of_le ->Va
namespace Tr
open Go Go.Proofs Go.RowKit
theorem ZmC {T:Ty} (o:T.agg=true) (A:T.size=21) (l:List (FuncId×(El T→Option Int))) (f:FuncId) (k:∃fn,Tryz.prog.funcs[f]? =some fn∧fn.body.isNone=false∧(fn.name== "runtime.NumGoroutine")=false)
 (C:∀(cs:Array Value),cs.size=21->∀(w:World) (r:Int),(∀u,Kp w u->GY (.agg cs) u (l.map Prod.fst) r)->Calls Tryz.prog f #[.agg cs] w fun e w' =>e=.returned (.int .i64 r)/\Kp w w')
 (y:∀p∈l,Z4 Tryz.prog p.1 (Yq T p.2)):Z4 Tryz.prog f (Yq T fun x=>untilF (l.map fun p=>p.2 x)) where
 wf:=rfl
 fn:=k
 run:=by
  intro w I t E x (z:Int) n B m i _ D;obtain⟨_,_,v,_,rfl,rfl,⟨⟨rfl,s⟩,a⟩,rfl,rfl⟩:=n;obtain⟨x,⟨⟩⟩:=x;have a:Z6 v=true:=(a.resolve_left fun h=>by cases h).trans o;have d:=Rd.length T x _ s
  obtain⟨cs,rfl⟩:∃cs,v=.agg cs:=by
   cases v<;>simp [Z6]at a
   exact⟨_,rfl⟩
  have j:cs.size=21:=by rw[A]at d;simpa [Value.cells] using d
  refine(C cs j w z fun u q=>ZmA (fun b c=>Va (i b c) q.size) (Rd.mono (fun b c=>q.heap b (i b c)) (fun _ h=>h) T x _ s) (a.trans o.symm) l y D).mono ?_;rintro e w' ⟨rfl,g⟩;exact⟨_,rfl,I,[],[],⟨[],[],_,_,rfl,rfl,rfl,rfl⟩,⟨[.int .i64 z],⟨[],[],_,_,rfl,rfl,⟨⟨rfl,rfl⟩,.inr rfl⟩,rfl,rfl⟩,rfl⟩,by simp,by simp,fun _ h=>h,fun b c=>⟨Va (i b c) g.size,.inl c⟩,g.os,g.tape,⟨g.out.out,fun _=>g.out.drawn⟩,g.size,fun b c _=>g.heap b c⟩
theorem own_ok{T:Ty}(d:T.agg=true)(e:T.size=21){c0 a b c3:El T->Option Int}(f:Z4 Tryz.prog 210 (Yq T c0))(g:Z4 Tryz.prog 211 (Yq T a))(h:Z4 Tryz.prog 212 (Yq T b))(i:Z4 Tryz.prog 213 (Yq T c3)):
 Z4 Tryz.prog 167 (Yq T fun x=>untilF [c0 x,a x,b x,c3 x]):=
 ZmC d e [(210,c0),(211,a),(212,b),(213,c3)] 167 ⟨_,Tryz.func167,rfl,rfl⟩ Zr1 (by
  intro p c;simp only[Vc,Vb,Z1]at c
  rcases c with rfl|rfl|rfl|rfl<;>assumption)
theorem place_ok{T:Ty}(e:T.agg=true)(f:T.size=21){c0 a b c3 c:El T->Option Int}(g:Z4 Tryz.prog 167 (Yq T c0))(h:Z4 Tryz.prog 168 (Yq T a))(i:Z4 Tryz.prog 169 (Yq T b))(j:Z4 Tryz.prog 170 (Yq T c3))(k:Z4 Tryz.prog 171 (Yq T c)):
 Z4 Tryz.prog 116 (Yq T fun x=>untilF [c0 x,a x,b x,c3 x,c x]):=
 ZmC e f [(167,c0),(168,a),(169,b),(170,c3),(171,c)] 116 ⟨_,Tryz.func116,rfl,rfl⟩ Zr5 (by
  intro p d;simp only[Vc,Vb,Z1]at d
  rcases d with rfl|rfl|rfl|rfl|rfl<;>assumption)
end Tr
