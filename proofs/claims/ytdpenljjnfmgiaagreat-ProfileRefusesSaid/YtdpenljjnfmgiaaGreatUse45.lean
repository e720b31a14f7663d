/- filter.usable by a walk. Conditions: none. -/
import Derived.Test.YtdpenljjnfmgiaaGreatProg
import Derived.Tactics
import Derived.Tactics2
import Derived.StillTactics
import Derived.Laws.AppendOwn
import Derived.Laws.NewBlocks
import Derived.Laws.Alloc2
import Derived.Laws.Wrap64
import Derived.Laws.Pointers
import Derived.Laws.Cells
import Derived.Laws.NewDeep
import Derived.Laws.StructEq
import Derived.Laws.StandIn
import Derived.Laws.ByValue
import Derived.Laws.Build
import Derived.Laws.World
import Derived.Laws.Slices
import Derived.Laws.Small
import Derived.Laws.Bits
import Derived.Laws.ShiftsVar
import Derived.Laws.ShiftsVarLaws
import Derived.Laws.Unary
import Derived.Scope
import Derived.FnLit
import Derived.LoopN
import Derived.RegionTactic
import Derived.LoopTactic
import Derived.RegionCalls
import Derived.Below
import Derived.Test.YtdpenljjnfmgiaaGreatTsE
open Array renaming size_push ->Vb
open Bool renaming or_true ->Vc,true_or ->Vd
open Go.IntKind renaming i64 ->Ve
open List renaming getElem?_eq_some_iff ->Va
namespace Tr
open Go Go.Proofs Go.RowKit
def Zpa(fr to ti:Int)(ba:Bool)(mr mw:Int)(sf bi:Bool)(mo:Int)(ch:Bool):Array Value:= #[.int .i64 fr, .int .i64 to, .int .i64 ti, .bool ba, .int .i64 mr, .int .i64 mw, .bool sf, .bool bi, .int .i64 mo, .bool ch]
theorem ZpS{w:World}{k:Nat}(h:k<w.heap.size)(o:Obj):k< (w.alloc o).heap.size:=by show k< (w.heap.push o).size;rw[Vb];omega
theorem bal{B:Nat}{a w:World}(h:Below B a w/\w.drawn=a.drawn/\B<=w.heap.size)(o:Obj):Below B a (w.alloc o)/\(w.alloc o).drawn=a.drawn/\B<=(w.alloc o).heap.size:=
 ⟨h.1.alloc h.2.2 o,h.2.1,by show B<=(w.heap.push o).size;rw[Vb];exact Nat.le_succ_of_le h.2.2⟩
theorem ZrR{mo c:Int}(h: (!mo==0)=true/\(!c==1)=true):false=decide (c=1):=by have:=h.2;simp only[Bool.not_eq_true',beq_eq_false_iff_ne]at this;exact(decide_eq_false this).symm
theorem ZrG{mo c:Int}(h0: ¬mo=0)(h: (!mo==0)=false\/(!c==1)=false):true=decide (c=1):=by have:=h.resolve_left (by simp [h0]);simp only[Bool.not_eq_false',beq_iff_eq]at this;exact(decide_eq_true this).symm
theorem Zr2{B:Nat}{a w:World}(h:Below B a w/\w.drawn=a.drawn/\B<=w.heap.size):Below B a w/\w.drawn=a.drawn:=⟨h.1,h.2.1⟩
set_option maxHeartbeats 4000000 in
set_option maxRecDepth 1000000 in
theorem ZrS(w:World)(v0 v2 v3 v4 v5 v6 v7 v8:Value)(k len cap off ro:Nat)(hro:ro<len)(hk:k<w.heap.size)(fr to ti:Int)(ba:Bool)(mr mw:Int)(qs bi:Bool)(mo:Int)(ch:Bool)(nm:ByteArray)(rm:Int)(rb:Bool)(t d i:Int)(nm' :ByteArray)(sf ca:Bool)(s:Value)
  (hc0:w.cell? ⟨k,off+ro*3,none⟩=some (.string nm)) (hc1:w.cell? ⟨k,off+ro*3+1,none⟩=some (.int .i64 rm)) (hc2:w.cell? ⟨k,off+ro*3+2,none⟩=some (.bool rb)) (hm:mo≠0->0<=rm):
  Calls Tryz.prog 73 #[.agg #[v0, .slice (some ⟨k,off,none⟩) len cap,v2,v3,v4,v5,v6,v7,v8], .agg (Zpa fr to ti ba mr mw qs bi mo ch), .agg #[.int .i64 t, .int .i64 d, .int .i64 i, .string nm', .int .i64 ro, .bool sf, .bool ca,s]] w
   fun e w' =>e= .returned (.bool (!ca&& ((sf|| !qs) && ((rb|| !bi) && (decide (mo=0) ||decide (ZqY .i64 (mo.fdiv (2 ^ (min rm.toNat 64))) 1=1))))))/\Below w.heap.size w w' /\w'.drawn=w.drawn:=by
 have up: ∀ {j v},w.cell? ⟨k,j,none⟩=some v-> ∀o1 o2 o3,(((w.alloc o1).alloc o2).alloc o3).cell? ⟨k,j,none⟩=some v:=by
  intro j v h o1 o2 o3
  have e: (((w.alloc o1).alloc o2).alloc o3).heap[k]? =w.heap[k]? :=by rw[Below.heap_alloc _ _ _ (ZpS (ZpS hk _) _),Below.heap_alloc _ _ _ (ZpS hk _),Below.heap_alloc _ _ _ hk]
  rw[<-h];simp [World.cell?,e]
 have hsh:mo≠0-> ∀w',(Op.shift .shr .i64 mo .i64 rm).run Tryz.prog w' = .ok (.int .i64 (mo.fdiv (2 ^ (min rm.toNat 64)))) w' :=by intro h0 w';have:=hm h0;simp [Op.shift,show¬rm<0 by omega,IntKind.bits]
 generalize hx:mo.fdiv (2 ^ (min rm.toNat 64))=x at hsh ⊢;have h0:=up hc0;have h1:=up hc1;have h2:=up hc2;unfold Zpa
 go_enter Tryz.func73,Tryz.ntmps73
 go_wp2
 refine wp_loop_rounds 5 ?_;rw[rounds_succ]
 go_wp2
 all_goals (first| (rw[rounds_succ];go_wp2) |skip)
 all_goals (first| (rw[rounds_succ];go_wp2) |skip)
 all_goals (first| (rw[rounds_succ];go_wp2) |skip)
 all_goals (first| (rw[rounds_succ];go_wp2) |skip)
 all_goals go_ret
 all_goals refine⟨?_,Zr2 ?_⟩
 all_goals first| (repeat apply bal);exact⟨Below.refl _ _,rfl,Nat.le_refl _⟩ |skip
 all_goals refine congrArg (fun b=>Ending.returned (Value.bool b)) ?_
 all_goals rw[show ZqY .i64 x 1=bits .and .i64 x 1 from rfl]
 all_goals try (have e:= ‹ca=true›;rw[e];rfl)
 all_goals (have e:= ‹ca=false›;rw[e])
 all_goals simp_all only[Bool.not_true,Bool.not_false,Bool.true_and,Bool.false_and,Vc,Vd,Bool.false_or,Bool.or_false,decide_true,decide_false]
 all_goals first|exact ZrR ‹(!mo==0)=true/\(!bits BinOp.and Ve x 1==1)=true› |exact ZrG ‹¬mo=0› ‹(!mo==0)=false\/(!bits BinOp.and Ve x 1==1)=false›
abbrev uRo:Ty:= .prod .str (.prod (.int .i64) (.prod .bool .unit))
abbrev uCa:Ty:= .prod (.int .i64) (.prod (.int .i64) (.prod (.int .i64) (.prod .bool (.prod .bool .unit))))
abbrev uRu:Ty:= .prod (.int .i64) (.prod (.int .i64) (.prod (.int .i64) (.prod .str (.prod (.int .i64) (.prod .bool (.prod .bool (.prod (.sl uCa) .unit)))))))
abbrev uNe:Ty:= .prod (.sl (.prod .str (.prod (.int .i64) (.prod .bool (.prod (.int .i64) .unit))))) (.prod (.sl uRo) (.prod (.sl uRu) (.prod (.sl (.prod (.int .i64) (.prod (.int .i64) (.prod (.int .i64) (.prod (.int .i64) (.prod .bool .unit)))))) (.prod (.sl (.prod (.int .i64) (.prod (.int .i64) (.prod (.int .i64) (.prod .bool .unit))))) (.prod (.prod (.sl (.prod .str (.prod (.int .i64) (.prod (.int .i64) (.prod (.int .i64) (.prod (.int .i64) (.prod (.int .i64) .unit))))))) (.prod (.int .i64) (.prod (.int .i64) (.prod (.int .i64) .unit)))) .unit)))))
abbrev uQu:Ty:= .prod (.int .i64) (.prod (.int .i64) (.prod (.int .i64) (.prod .bool (.prod (.int .i64) (.prod (.int .i64) (.prod .bool (.prod .bool (.prod (.int .i64) (.prod .bool .unit)))))))))
def Zrm(q:El uQu)(r:El uRu)(ro:El uRo):Bool:= !r.2.2.2.2.2.2.1&& ((r.2.2.2.2.2.1|| !q.2.2.2.2.2.2.1) && ((ro.2.2.1|| !q.2.2.2.2.2.2.2.1) && (decide (q.2.2.2.2.2.2.2.2.1=(0:Int)) ||decide (ZqY .i64 (Int.fdiv q.2.2.2.2.2.2.2.2.1 (2 ^ (min (Int.toNat ro.2.1) 64))) 1=1))))
def useF(n:El uNe)(q:El uQu)(r:El uRu):Option Bool:=(Tr.idx n.2.1 r.2.2.2.2.1).bind fun ro=>bif decide (q.2.2.2.2.2.2.2.2.1=(0:Int)) ||decide ((0:Int)<=ro.2.1) then some (Zrm q r ro) else none
def Zpu:Spec:= {args:= .cons (.pd uNe) (.cons (.pd uQu) (.cons (.pd uRu) .nil)),res:= .cons (.pd .bool) .nil,fns:=[],α:=Bool,f:=fun x=>useF x.1 x.2.1 x.2.2.1,unp:=fun z=>(((),(),(),()),(z,())) }
theorem Zm5{v:Value}{cs:List Value}(h:v.cells.toList=cs)(ha:Zav v=true):v= .agg cs.toArray:=by
 cases v<;>simp_all [Value.cells,Zav]
 rw[<-h]
theorem use_ok:ZaF Tryz.prog 73 Zpu where
 wf:=rfl
 fn:=⟨_,Tryz.func73,rfl,rfl⟩
 run:=by
  intro w I vals js x (z:Bool) hpv hnd hfree hI _ hz;obtain⟨_,_,v1,_,rfl,rfl,⟨⟨rfl,hc1⟩,ha1⟩,_,_,v2,_,rfl,rfl,⟨⟨rfl,hc2⟩,ha2⟩,_,_,v3,_,rfl,rfl,⟨⟨rfl,hc3⟩,ha3⟩,rfl,rfl⟩:=hpv;obtain⟨n,q,r,⟨⟩⟩:=x;have hz:useF n q r=some z:=hz;obtain⟨_,_,e1,⟨ad0,cap0,css0,rfl,_⟩,_,_,rfl,⟨adr,cap,css,rfl,hf,hl,_⟩,_,_,rfl,⟨_,_,_,rfl,_⟩,_,_,rfl,⟨_,_,_,rfl,_⟩,_,_,rfl,⟨_,_,_,rfl,_⟩,_,_,rfl,⟨_,_,rfl,⟨_,_,_,rfl,_⟩,_,_,rfl,rfl,_,_,rfl,rfl,_,_,rfl,rfl,rfl⟩,rfl⟩:=hc1;obtain⟨_,_,e2,rfl,_,_,rfl,rfl,_,_,rfl,rfl,_,_,rfl,rfl,_,_,rfl,rfl,_,_,rfl,rfl,_,_,rfl,rfl,_,_,rfl,rfl,_,_,rfl,rfl,_,_,rfl,rfl,rfl⟩:=hc2;obtain⟨_,_,e3,rfl,_,_,rfl,rfl,_,_,rfl,rfl,_,_,rfl,rfl,_,_,rfl,rfl,_,_,rfl,rfl,_,_,rfl,rfl,_,_,rfl,⟨_,_,_,rfl,_⟩,rfl⟩:=hc3
  have e1:=Zm5 e1 (ha1.resolve_left fun h=>by cases h);have e2:=Zm5 e2 (ha2.resolve_left fun h=>by cases h);have e3:=Zm5 e3 (ha3.resolve_left fun h=>by cases h);simp only[List.cons_append,List.nil_append]at e1 e2 e3;subst e1;subst e2;subst e3;unfold useF at hz;obtain⟨ro,hro,hz⟩:=Option.bind_eq_some_iff.1 hz;unfold Tr.idx at hro;split at hro
  case isFalse=>cases hro
  next hpos=>
  obtain⟨jn,hjn⟩: ∃k:Nat,r.2.2.2.2.1=(k:Int):=⟨Int.toNat r.2.2.2.2.1,(Int.toNat_of_nonneg hpos).symm⟩;rw[hjn,Int.toNat_natCast]at hro;have hlt:jn<n.2.1.length:=(Va.1 hro).1;obtain⟨b,off,rfl,hIb,hlies⟩:=hl (by intro h;rw[h]at hlt;cases hlt);obtain⟨c,hc,hrd⟩:=hf.get jn ro hro;obtain⟨_,_,rfl,rfl,_,_,rfl,rfl,_,_,rfl,rfl,rfl⟩:=hrd;obtain⟨s1,s2,_⟩:=Za7 hc 3 (Rd.all_length (t:=uRo) hf)
  have hcell: ∀ (t:Nat) (v:Value),[Value.string ⟨ro.1.toArray⟩, .int .i64 ro.2.1, .bool ro.2.2.1][t]? =some v->w.cell? ⟨b,off+(jn*3+t),none⟩=some v:=by
   intro t v hv;have ht:t<3:=(Va.1 hv).1
   have hg:css.flatten[jn*3+t]? =some v:=by rw[s1,List.append_assoc,List.getElem?_append_right (by omega),s2,Nat.add_sub_cancel_left,List.getElem?_append_left ht];exact hv
   obtain⟨h1,h2⟩:=Va.1 hg;rw[hlies _ h1,h2]
  have hm0: ∀ (mo rm:Int) (B:Bool),(bif decide (mo=0) ||decide (0<=rm) then some B else none)=some z->B=z/\(mo≠0->0<=rm):=by
   intro mo rm B h;by_cases h1:mo=0
   ·rw[decide_eq_true h1]at h;simp only[Vd,cond_true,Option.some.injEq]at h;exact⟨h,fun h2=>absurd h1 h2⟩
   ·by_cases h2:0<=rm
    ·rw[decide_eq_true h2]at h;simp only[Vc,cond_true,Option.some.injEq]at h;exact⟨h,fun _=>h2⟩
    ·rw[decide_eq_false h1,decide_eq_false h2]at h;cases h
  obtain⟨rfl,hm⟩:=hm0 _ _ _ hz;rw[hjn];refine(ZrS w _ _ _ _ _ _ _ _ b n.2.1.length cap off jn hlt (hI b hIb) _ _ _ _ _ _ _ _ _ _ ⟨ro.1.toArray⟩ ro.2.1 ro.2.2.1 _ _ _ _ _ _ _ (hcell 0 _ rfl) (hcell 1 _ rfl) (hcell 2 _ rfl) hm).mono ?_;rintro e w' ⟨rfl,hb,hd⟩;exact⟨_,rfl,I,[],[],⟨[],[],_,_,rfl,rfl,rfl,[],[],_,_,rfl,rfl,rfl,[],[],_,_,rfl,rfl,rfl,rfl⟩,⟨[.bool (Zrm q r ro)],⟨[],[],_,_,rfl,rfl,⟨⟨rfl,rfl⟩, .inr rfl⟩,rfl,rfl⟩,rfl⟩, .nil,by simp,fun _ h=>h,fun b hb' =>⟨Nat.lt_of_lt_of_le (hI b hb') hb.size, .inl hb'⟩,hb.os,hb.tape,⟨hb.output,fun _=>Nat.le_of_eq hd.symm⟩,hb.size,fun b hb' _=>hb.block b hb'⟩
end Tr
