/- bitset.Len by a walk: the goto goes on until no bit is left. Conditions: none. -/
import Derived.Test.YtdpenljjnfmgiaaGreatProg
import Derived.Tactics
import Derived.Tactics2
import Derived.StillTactics
import Derived.Laws.BitsLemmas
import Derived.Laws.Bits
import Derived.Laws.BitsAll
import Derived.Laws.BitsAllLaws
import Derived.Laws.Bits64
import Derived.Laws.Bits64b
import Derived.Laws.Wrap64
import Derived.Laws.StandIn
import Derived.LoopTactic
import Derived.WalkMore
import Derived.ScopeJumps
import Derived.Test.YtdpenljjnfmgiaaGreatTsE
import Derived.Test.YtdpenljjnfmgiaaGreatLxPop
open BitVec renaming ofInt_natCast ->Vc,toNat_ofNat ->Vd,ofInt ->Vj
open Go.IntKind renaming u64 ->Vb,signed ->Vg,wrap ->Vh,bits ->Vi
open Nat renaming and_le_left ->Va,lt_of_le_of_lt ->Ve,mod_eq_of_lt ->Vf
namespace Tr
open Go Go.Proofs
def Zqk:Value->Int| .int _ q=>q|_=>0
theorem ZkQ{m:Nat}(h:m≠0)(hm:m<2 ^ 64):ZgH 64 m=1+ZgH 64 (m &&& (m - 1)):=by
 have h1:ZgH 65 m=1+ZgH 64 (m &&& (m - 1)):=by rw[ZgH,if_neg h]
 rw[<-h1,ZeF 64 64 m hm (by omega),ZeF 64 65 m hm (by omega)]
theorem Znw{s:Nat}(h0:s≠0)(h:s<2 ^ 64):bits .and .u64 (s:Int) (Vb.wrap ((s:Int) - 1))=((s &&& (s - 1):Nat):Int):=by
 have e:Vb.wrap ((s:Int) - 1)=((s - 1:Nat):Int):=by simp [Vh,Vi,Vg];omega
 have hle:s &&& (s - 1)<=s:=Va;rw[e];simp only[bits]
 have h1: (Vj Vb.bits (s:Int) &&& Vj Vb.bits ((s - 1:Nat):Int)).toNat=s &&& (s - 1):=by rw[BitVec.toNat_and,Vc,Vc,Vd,Vd];show s % 2 ^ 64 &&& (s - 1) % 2 ^ 64=s &&& (s - 1);rw[Vf h,Vf (show s - 1<2 ^ 64 by omega)]
 rw[h1];simp [Vh,Vg,Vi];omega
theorem ZqK{m:Nat}(hm:m<2 ^ 64):ZgH 64 m<=64:=by
 have: ∀k m,Zqd k m<=k:=by
  intro k
  induction k with
  |zero=>intro m;exact Nat.le_refl _
  |succ k ih=>intro m;rw[Zqd];have:=ih (m / 2);omega
 rw[ZeF 64 64 m hm (by omega)];exact this 64 m
set_option maxRecDepth 1000000 in
theorem Zof(s:Nat)(hs:s<2 ^ 64)(w:World):
  Calls Tryz.prog 233 #[.int .u64 (s:Int)] w fun e w' =>e= .returned (.int .i64 ((ZgH 64 s:Nat):Int))/\w' =w:=by
 go_enter Tryz.func233,Tryz.ntmps233
 go_wp2
 refine wp_scope_jumps 0 (fun a' w' =>w' =w/\ ∃ (m c:Nat) (u4 u5 u6 u7 u8 u9 u10 u11 u12:Value),a' = {tmps:= #[.int .u64 (m:Int),undef, .int .i64 0, .int .i64 (c:Int),u4,u5,u6,u7,u8,u9,u10,u11,u12],defers:=[] } /\c+ZgH 64 m=ZgH 64 s/\m<2 ^ 64) (fun a' _=>(Zqk (a'.tmps.getD 0 undef)).toNat) rfl ?_ ?_
 ·go_wp2
  go_step3
  go_wp2
  ·rename_i hz;simp only[Exit.jump]
   go_ret
   have h0:s=0:=by simpa using hz
   subst h0;exact⟨rfl,rfl⟩
  ·rename_i hz;have h0:s≠0:=by simpa using hz
   go_step3
   refine⟨rfl,rfl,s &&& (s - 1),1,_,_,_,_,_,_,_,_,_,by rw[Znw h0 hs];rfl,(ZkQ h0 hs).symm,Ve Va hs⟩
 ·rintro a' w' ⟨rfl,m,c,u4,u5,u6,u7,u8,u9,u10,u11,u12,rfl,hc,hm⟩;have hpl:=ZqK hs
  go_wp2
  ·rename_i hz;simp only[Exit.jump]
   go_ret
   have h0:m=0:=by simpa using hz
   subst h0;have:c=ZgH 64 s:=by have:ZgH 64 0=0:=rfl;omega
   rw[this];exact⟨rfl,rfl⟩
  ·rename_i hz;have h0:m≠0:=by simpa using hz
   go_step3
   have hp:=ZkQ h0 hm;have e1: ((c:Int)+1+9223372036854775808) % 18446744073709551616 - 9223372036854775808=((c+1:Nat):Int):=by omega
   rw[Znw h0 hm,e1];refine⟨rfl,⟨rfl,m &&& (m - 1),c+1,⟨_,_,_,_,_,_,_,_,_,rfl⟩,by omega,Ve Va hm⟩, ?_⟩;have:=ZqL h0;simp [Zqk];omega
def lenF(x:Int):Option Int:=bif decide (0<=x/\x<18446744073709551616) then some ((ZgH 64 x.toNat:Nat):Int) else none
def Zpn:Spec:= {args:= .cons (.pd (.int .u64)) .nil,res:= .cons (.pd (.int .i64)) .nil,fns:=[],α:=Int,f:=fun x=>lenF x.1,unp:=fun z=>(((),()),(z,())) }
theorem len_ok:ZaF Tryz.prog 233 Zpn where
 wf:=rfl
 fn:=⟨_,Tryz.func233,rfl,rfl⟩
 run:=by
  intro w I vals js x (z:Int) hpv hnd hfree hI _ hz;obtain⟨j1,j2,v,r,rfl,rfl,⟨hpc,hag⟩,rfl,rfl⟩:=hpv;obtain⟨rfl,hrd⟩:=hpc;have hagv:Zav v=false:=hag.resolve_left fun h=>by cases h
  have hv:v= .int .u64 x.1:=Zal hrd hagv;subst hv;have hz:lenF x.1=some z:=hz;obtain⟨y,⟨⟩⟩:=x
  have key: ∀y:Int,lenF y=some z-> ∃s:Nat,s<2 ^ 64/\y=(s:Int)/\z=((ZgH 64 s:Nat):Int):=by
   intro y hz;unfold lenF at hz;by_cases hx:0<=y/\y<18446744073709551616
   ·rw[decide_eq_true hx]at hz;simp only[cond_true,Option.some.injEq]at hz;exact⟨y.toNat,by omega,by omega,hz.symm⟩
   ·rw[decide_eq_false hx]at hz;simp at hz
  obtain⟨s,hs,rfl,rfl⟩:=key y hz;refine(Zof s hs w).mono ?_;rintro e w' ⟨rfl,rfl⟩;exact⟨_,rfl,I,[],[],⟨[],[],_,_,rfl,rfl,rfl,rfl⟩,⟨[.int .i64 ((ZgH 64 s:Nat):Int)],⟨[],[],_,_,rfl,rfl,⟨⟨rfl,rfl⟩, .inr rfl⟩,rfl,rfl⟩,rfl⟩,by simp,by simp,fun _ h=>h,fun b hb=>⟨hI b hb, .inl hb⟩,rfl,rfl, .rfl,Nat.le_refl _,fun _ _ _=>rfl⟩
end Tr
