/- filter.usable by a walk. Conditions: none. -/
import Derived.Test.YtdpenljjnfmgiaaGreatProg
import Derived.Tactics
import Derived.Tactics2
import Derived.StillTactics
import Derived.Laws.AppendOwn
import Derived.Laws.NewBlocks
import Derived.Laws.Alloc2
import Derived.Laws.Wrap64
import Derived.Laws.Pointers
import Derived.Laws.Cells
import Derived.Laws.NewDeep
import Derived.Laws.StructEq
import Derived.Laws.StandIn
import Derived.Laws.ByValue
import Derived.Laws.Build
import Derived.Laws.World
import Derived.Laws.Slices
import Derived.Laws.Small
import Derived.Laws.Bits
import Derived.Laws.ShiftsVar
import Derived.Laws.ShiftsVarLaws
import Derived.Laws.Unary
import Derived.Scope
import Derived.FnLit
import Derived.LoopN
import Derived.RegionTactic
import Derived.LoopTactic
import Derived.RegionCalls
import Derived.Below
import Derived.Test.YtdpenljjnfmgiaaGreatETsC
open Array renaming size_push ->Vb
open Bool renaming or_true ->Vc,true_or ->Vd
open Go.IntKind renaming i64 ->Ve
open List renaming getElem?_eq_some_iff ->Va
open Option renaming some ->Ua,none ->Ub
open Bool renaming true ->Uc,false ->Ud
open Decidable renaming decide ->Ue
namespace Tr
open Go Go.Proofs Go.RowKit
def Zpe(fr to g:Int)(a:Bool)(d e:Int)(f bi:Bool)(c:Int)(b:Bool):Array Value:= #[.int .i64 fr,.int .i64 to,.int .i64 g,.bool a,.int .i64 d,.int .i64 e,.bool f,.bool bi,.int .i64 c,.bool b]
theorem ZjK{w:World}{k:Nat}(h:k<w.heap.size)(o:Obj):k<(w.alloc o).heap.size:=by show k<(w.heap.push o).size;rw[Vb];omega
theorem bal{B:Nat}{a w:World}(h:Below B a w/\w.drawn=a.drawn/\B<=w.heap.size)(o:Obj):Below B a (w.alloc o)/\(w.alloc o).drawn=a.drawn/\B<=(w.alloc o).heap.size:=
 ⟨h.1.alloc h.2.2 o,h.2.1,by show B<=(w.heap.push o).size;rw[Vb];exact Nat.le_succ_of_le h.2.2⟩
theorem Zva{a c:Int}(h:(!a==0)=Uc/\(!c==1)=Uc):Ud=Ue (c=1):=by have:=h.2;simp only[Bool.not_eq_true',beq_eq_false_iff_ne]at this;exact(Zm this).symm
theorem ZcF{a c:Int}(b:¬a=0)(h:(!a==0)=Ud\/(!c==1)=Ud):Uc=Ue (c=1):=by have:=h.resolve_left (by simp[b]);simp only[Bool.not_eq_false',Kp]at this;exact(Zi this).symm
theorem ZsW{B:Nat}{a w:World}(h:Below B a w/\w.drawn=a.drawn/\B<=w.heap.size):Below B a w/\w.drawn=a.drawn:=⟨h.1,h.2.1⟩
set_option maxHeartbeats 4000000 in
set_option maxRecDepth 1000000 in
theorem ZzJ(w:World)(K L M N O P Q R:Value)(k len cap off ro:Nat)(F:ro<len)(n:k<w.heap.size)(fr to J:Int)(C:Bool)(H I:Int)(z bi:Bool)(a:Int)(D:Bool)(nm:ByteArray)(c:Int)(A:Bool)(t d i:Int)(p:ByteArray)(B f:Bool)(s:Value)
 (g:w.cell? ⟨k,off+ro*3,Ub⟩=Ua (.string nm)) (l:w.cell? ⟨k,off+ro*3+1,Ub⟩=Ua (.int .i64 c)) (m:w.cell? ⟨k,off+ro*3+2,Ub⟩=Ua (.bool A)) (E:a≠0->0<=c):
 Calls Tryz.prog 73 #[.agg #[K,.slice (Ua ⟨k,off,Ub⟩) len cap,L,M,N,O,P,Q,R],.agg (Zpe fr to J C H I z bi a D),.agg #[.int .i64 t,.int .i64 d,.int .i64 i,.string p,.int .i64 ro,.bool B,.bool f,s]] w
  λe w' =>e=.returned (.bool (!f&&((B|| !z)&&((A|| !bi)&&(Ue (a=0) ||decide (JA .i64 (a.fdiv (2 ^ (min c.toNat 64))) 1=1))))))/\Below w.heap.size w w' /\w'.drawn=w.drawn:=by
 have up:∀{j v},w.cell? ⟨k,j,Ub⟩=Ua v->∀q r u,(((w.alloc q).alloc r).alloc u).cell? ⟨k,j,Ub⟩=Ua v:=by
  intro j v h q r u;have e:(((w.alloc q).alloc r).alloc u).heap[k]? =w.heap[k]? :=by rw[Below.heap_alloc _ _ _ (ZjK (ZjK n _) _),Below.heap_alloc _ _ _ (ZjK n _),Below.heap_alloc _ _ _ n]
  rw[<-h];simp[World.cell?,e]
 have o:a≠0->∀w',(Op.shift .shr .i64 a .i64 c).run Tryz.prog w' =.ok (.int .i64 (a.fdiv (2 ^ (min c.toNat 64)))) w' :=by intro y w';have:=E y;simp[Op.shift,show¬c<0 by omega,IntKind.bits]
 generalize U:a.fdiv (2 ^ (min c.toNat 64))=x at o⊢;have y:=up g;have S:=up l;have T:=up m;unfold Zpe
 go_enter Tryz.func73,Tryz.ntmps73
 go_wp2
 refine wp_loop_rounds 5 ?_;rw[rounds_succ]
 go_wp2
 all_goals (first|(rw[rounds_succ];go_wp2) |skip)
 all_goals (first|(rw[rounds_succ];go_wp2) |skip)
 all_goals (first|(rw[rounds_succ];go_wp2) |skip)
 all_goals (first|(rw[rounds_succ];go_wp2) |skip)
 all_goals go_ret
 all_goals refine⟨?_,ZsW ?_⟩
 all_goals first|(repeat apply bal);exact⟨Below.refl _ _,rfl,Nat.le_refl _⟩|skip
 all_goals refine congrArg (λb=>Ending.returned (Value.bool b)) ?_
 all_goals rw[show JA .i64 x 1=bits .and .i64 x 1 from rfl]
 all_goals try (have e:= ‹f=Uc›;rw[e];rfl)
 all_goals (have e:= ‹f=Ud›;rw[e])
 all_goals simp_all only[Bool.not_true,Bool.not_false,Bool.true_and,Bool.false_and,Vc,Vd,Bool.false_or,Bool.or_false,decide_true,decide_false]
 all_goals first|exact Zva ‹(!a==0)=Uc/\(!bits BinOp.and Ve x 1==1)=Uc› |exact ZcF ‹¬a=0› ‹(!a==0)=Ud\/(!bits BinOp.and Ve x 1==1)=Ud›
abbrev uRo:Ty:=.prod .str (.prod (.int .i64) (.prod .bool .unit))
abbrev uCa:Ty:=.prod (.int .i64) (.prod (.int .i64) (.prod (.int .i64) (.prod .bool (.prod .bool .unit))))
abbrev uRu:Ty:=.prod (.int .i64) (.prod (.int .i64) (.prod (.int .i64) (.prod .str (.prod (.int .i64) (.prod .bool (.prod .bool (.prod (.sl uCa) .unit)))))))
abbrev uNe:Ty:=.prod (.sl (.prod .str (.prod (.int .i64) (.prod .bool (.prod (.int .i64) .unit))))) (.prod (.sl uRo) (.prod (.sl uRu) (.prod (.sl (.prod (.int .i64) (.prod (.int .i64) (.prod (.int .i64) (.prod (.int .i64) (.prod .bool .unit)))))) (.prod (.sl (.prod (.int .i64) (.prod (.int .i64) (.prod (.int .i64) (.prod .bool .unit))))) (.prod (.prod (.sl (.prod .str (.prod (.int .i64) (.prod (.int .i64) (.prod (.int .i64) (.prod (.int .i64) (.prod (.int .i64) .unit))))))) (.prod (.int .i64) (.prod (.int .i64) (.prod (.int .i64) .unit)))) .unit)))))
abbrev uQu:Ty:=.prod (.int .i64) (.prod (.int .i64) (.prod (.int .i64) (.prod .bool (.prod (.int .i64) (.prod (.int .i64) (.prod .bool (.prod .bool (.prod (.int .i64) (.prod .bool .unit)))))))))
def useB(q:El uQu)(r:El uRu)(ro:El uRo):Bool:= !r.2.2.2.2.2.2.1&&((r.2.2.2.2.2.1|| !q.2.2.2.2.2.2.1)&&((ro.2.2.1|| !q.2.2.2.2.2.2.2.1)&&(Ue (q.2.2.2.2.2.2.2.2.1=(0:Int)) ||decide (JA .i64 (Int.fdiv q.2.2.2.2.2.2.2.2.1 (2 ^ (min (Int.toNat ro.2.1) 64))) 1=1))))
def useF(n:El uNe)(q:El uQu)(r:El uRu):Option Bool:=(Tr.idx n.2.1 r.2.2.2.2.1).bind λro=>bif Ue (q.2.2.2.2.2.2.2.2.1=(0:Int)) ||decide ((0:Int)<=ro.2.1) then Ua (useB q r ro) else Ub
def ZzI:Spec:={args:=.cons (.pd uNe) (.cons (.pd uQu) (.cons (.pd uRu) .nil)),res:=.cons (.pd .bool) .nil,fns:=[],α:=Bool,f:=λx=>useF x.1 x.2.1 x.2.2.1,unp:=λz=>(((),(),(),()),(z,()))}
theorem Zh6{v:Value}{cs:List Value}(h:v.cells.toList=cs)(a:Kb v=Uc):v=.agg cs.toArray:=by
 cases v<;>simp_all[Value.cells,Kb];rw[<-h]
theorem use_ok:ZR Tryz.prog 73 ZzI where
 wf:=rfl
 fn:=⟨_,Tryz.func73,rfl,rfl⟩
 run:=by
  intro w I a0 js x (z:Bool) R a3 P W _ m;obtain⟨_,_,v1,_,rfl,rfl,⟨⟨rfl,M⟩,J⟩,_,_,v2,_,rfl,rfl,⟨⟨rfl,N⟩,K⟩,_,_,v3,_,rfl,rfl,⟨⟨rfl,O⟩,L⟩,rfl,rfl⟩:=R;obtain⟨n,q,r,⟨⟩⟩:=x;have m:useF n q r=Ua z:=m;obtain⟨_,_,y,⟨a1,T,U,rfl,_⟩,_,_,rfl,⟨a2,cap,F,rfl,hf,hl,_⟩,_,_,rfl,⟨_,_,_,rfl,_⟩,_,_,rfl,⟨_,_,_,rfl,_⟩,_,_,rfl,⟨_,_,_,rfl,_⟩,_,_,rfl,⟨_,_,rfl,⟨_,_,_,rfl,_⟩,_,_,rfl,rfl,_,_,rfl,rfl,_,_,rfl,rfl,rfl⟩,rfl⟩:=M;obtain⟨_,_,A,rfl,_,_,rfl,rfl,_,_,rfl,rfl,_,_,rfl,rfl,_,_,rfl,rfl,_,_,rfl,rfl,_,_,rfl,rfl,_,_,rfl,rfl,_,_,rfl,rfl,_,_,rfl,rfl,rfl⟩:=N;obtain⟨_,_,C,rfl,_,_,rfl,rfl,_,_,rfl,rfl,_,_,rfl,rfl,_,_,rfl,rfl,_,_,rfl,rfl,_,_,rfl,rfl,_,_,rfl,⟨_,_,_,rfl,_⟩,rfl⟩:=O;have y:=Zh6 y (J.resolve_left λh=>by cases h);have A:=Zh6 A (K.resolve_left λh=>by cases h);have C:=Zh6 C (L.resolve_left λh=>by cases h);simp only[List.cons_append,List.nil_append]at y A C;subst y;subst A;subst C;unfold useF at m;obtain⟨ro,d,m⟩:=Option.bind_eq_some_iff.1 m;unfold Tr.idx at d;split at d;case isFalse=>cases d
  next s=>
  obtain⟨u,p⟩:∃k:Nat,r.2.2.2.2.1=(k:Int):=⟨Int.toNat r.2.2.2.2.1,(Int.toNat_of_nonneg s).symm⟩;rw[p,Int.toNat_natCast]at d;have j:u<n.2.1.length:=(Va.1 d).1;obtain⟨b,off,rfl,H,i⟩:=hl (by intro h;rw[h]at j;cases j);obtain⟨c,hc,S⟩:=hf.get u ro d;obtain⟨_,_,rfl,rfl,_,_,rfl,rfl,_,_,rfl,rfl,rfl⟩:=S;obtain⟨s1,s2,_⟩:=ZaP hc 3 (Rd.all_length (t:=uRo) hf);have a:∀(t:Nat) (v:Value),[Value.string ⟨ro.1.toArray⟩,.int .i64 ro.2.1,.bool ro.2.2.1][t]? =Ua v->w.cell? ⟨b,off+(u*3+t),Ub⟩=Ua v:=by
   intro t v hv;have ht:t<3:=(Va.1 hv).1;have hg:F.flatten[u*3+t]? =Ua v:=by rw[s1,List.append_assoc,List.getElem?_append_right (by omega),s2,Nat.add_sub_cancel_left,List.getElem?_append_left ht];exact hv
   obtain⟨o,g⟩:=Va.1 hg;rw[i _ o,g]
  have Q:∀(D E:Int) (B:Bool),(bif Ue (D=0) ||decide (0<=E) then Ua B else Ub)=Ua z->B=z/\(D≠0->0<=E):=by
   intro D E B h;by_cases o:D=0;.rw[Zi o]at h;simp only[Vd,Zf,Z4]at h;exact⟨h,λg=>absurd o g⟩
   by_cases g:0<=E;.rw[Zi g]at h;simp only[Vc,Zf,Z4]at h;exact⟨h,λ_=>g⟩
   rw[Zm o,Zm g]at h;cases h
  obtain⟨rfl,hm⟩:=Q _ _ _ m;rw[p];refine(ZzJ w _ _ _ _ _ _ _ _ b n.2.1.length cap off u j (W b H) _ _ _ _ _ _ _ _ _ _ ⟨ro.1.toArray⟩ ro.2.1 ro.2.2.1 _ _ _ _ _ _ _ (a 0 _ rfl) (a 1 _ rfl) (a 2 _ rfl) hm).mono ?_;rintro e w' ⟨rfl,l,hd⟩;exact⟨_,rfl,I,[],[],⟨[],[],_,_,rfl,rfl,rfl,[],[],_,_,rfl,rfl,rfl,[],[],_,_,rfl,rfl,rfl,rfl⟩,⟨[.bool (useB q r ro)],⟨[],[],_,_,rfl,rfl,⟨⟨rfl,rfl⟩,.inr rfl⟩,rfl,rfl⟩,rfl⟩,.nil,by simp,λ_ h=>h,λb f=>⟨Nat.lt_of_lt_of_le (W b f) l.size,.inl f⟩,l.os,l.tape,⟨l.output,λ_=>Nat.le_of_eq hd.symm⟩,l.size,λb f _=>l.block b f⟩
end Tr
