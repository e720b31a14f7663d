/- bitset.Len by a walk: the goto goes on until no bit is left. Conditions: none. -/
import Derived.Test.YtdpenljjnfmgiaaGreatProg
import Derived.Tactics
import Derived.Tactics2
import Derived.StillTactics
import Derived.Laws.BitsLemmas
import Derived.Laws.Bits
import Derived.Laws.BitsAll
import Derived.Laws.BitsAllLaws
import Derived.Laws.Bits64
import Derived.Laws.Bits64b
import Derived.Laws.Wrap64
import Derived.Laws.StandIn
import Derived.LoopTactic
import Derived.WalkMore
import Derived.ScopeJumps
import Derived.Test.YtdpenljjnfmgiaaGreatETsB
import Derived.Test.YtdpenljjnfmgiaaGreatLxPop
open BitVec renaming ofInt_natCast ->Vc,toNat_ofNat ->Vd,ofInt ->Vj
open Go.IntKind renaming u64 ->Vb,signed ->Vg,wrap ->Vh,bits ->Vi
open Nat renaming and_le_left ->Va,lt_of_le_of_lt ->Ve,mod_eq_of_lt ->Vf
open Option renaming some ->Ua,none ->Ub
open Decidable renaming decide ->Ue
namespace Tr
open Go Go.Proofs
def ZlN:Value->Int|.int _ q=>q|_=>0
theorem Zm9{m:Nat}(h:m≠0)(a:m<2 ^ 64):Jv 64 m=1+Jv 64 (m &&&(m - 1)):=by
 have b:Jv 65 m=1+Jv 64 (m &&&(m - 1)):=by rw[Jv,Zg h]
 rw[<-b,Zb0 64 64 m a (by omega),Zb0 64 65 m a (by omega)]
theorem ZjY{s:Nat}(c:s≠0)(h:s<2 ^ 64):bits .and .u64 (s:Int) (Vb.wrap ((s:Int) - 1))=((s &&&(s - 1):Nat):Int):=by
 have e:Vb.wrap ((s:Int) - 1)=((s - 1:Nat):Int):=by simp [Vh,Vi,Vg];omega
 have b:s &&&(s - 1)<=s:=Va;rw[e];simp only[bits];have a:(Vj Vb.bits (s:Int)&&& Vj Vb.bits ((s - 1:Nat):Int)).toNat=s &&&(s - 1):=by rw[BitVec.toNat_and,Vc,Vc,Vd,Vd];show s % 2 ^ 64 &&&(s - 1) % 2 ^ 64=s &&&(s - 1);rw[Vf h,Vf (show s - 1<2 ^ 64 by omega)]
 rw[a];simp [Vh,Vg,Vi];omega
theorem Zvi{m:Nat}(a:m<2 ^ 64):Jv 64 m<=64:=by
 have:∀k m,Hj k m<=k:=by
  intro k
  induction k with
  |zero=>intro m;exact Nat.le_refl _
  |succ k b=>intro m;rw[Hj];have:=b (m / 2);omega
 rw[Zb0 64 64 m a (by omega)];exact this 64 m
set_option maxRecDepth 1000000 in
theorem Zue(s:Nat)(i:s<2 ^ 64)(w:World):
 Calls Tryz.prog 233 #[.int .u64 (s:Int)] w λe w' =>e=.returned (.int .i64 ((Jv 64 s:Nat):Int))/\w' =w:=by
 go_enter Tryz.func233,Tryz.ntmps233
 go_wp2
 refine wp_scope_jumps 0 (λh w' =>w' =w/\∃(m c:Nat) (u4 u5 u6 k l n d f g:Value),h={tmps:= #[.int .u64 (m:Int),undef,.int .i64 0,.int .i64 (c:Int),u4,u5,u6,k,l,n,d,f,g],defers:=[] } /\c+Jv 64 m=Jv 64 s/\m<2 ^ 64) (λh _=>(ZlN (h.tmps.getD 0 undef)).toNat) rfl ?_ ?_
 ·go_wp2
  go_step3
  go_wp2
  ·rename_i b;simp only[Exit.jump]
   go_ret
   have a:s=0:=by simpa using b
   subst a;exact⟨rfl,rfl⟩
  ·rename_i b;have a:s≠0:=by simpa using b
   go_step3
   refine⟨rfl,rfl,s &&&(s - 1),1,_,_,_,_,_,_,_,_,_,by rw[ZjY a i];rfl,(Zm9 a i).symm,Ve Va i⟩
 ·rintro h w' ⟨rfl,m,c,u4,u5,u6,k,l,n,d,f,g,rfl,q,j⟩;have p:=Zvi i
  go_wp2
  ·rename_i b;simp only[Exit.jump]
   go_ret
   have a:m=0:=by simpa using b
   subst a;have:c=Jv 64 s:=by have:Jv 64 0=0:=rfl;omega
   rw[this];exact⟨rfl,rfl⟩
  ·rename_i b;have a:m≠0:=by simpa using b
   go_step3
   have r:=Zm9 a j;have o:((c:Int)+1+9223372036854775808) % 18446744073709551616 - 9223372036854775808=((c+1:Nat):Int):=by omega
   rw[ZjY a j,o];refine⟨rfl,⟨rfl,m &&&(m - 1),c+1,⟨_,_,_,_,_,_,_,_,_,rfl⟩,by omega,Ve Va j⟩,?_⟩;have:=ZpN a;simp [ZlN];omega
def lenF(x:Int):Option Int:=bif Ue (0<=x/\x<18446744073709551616) then Ua ((Jv 64 x.toNat:Nat):Int) else Ub
def Zud:Spec:={args:=.cons (.pd (.int .u64)) .nil,res:=.cons (.pd (.int .i64)) .nil,fns:=[],α:=Int,f:=λx=>lenF x.1,unp:=λz=>(((),()),(z,()))}
theorem len_ok:ZT Tryz.prog 233 Zud where
 wf:=rfl
 fn:=⟨_,Tryz.func233,rfl,rfl⟩
 run:=by
  intro w I m A x (z:Int) i o f n _ a;obtain⟨t,u,v,r,rfl,rfl,⟨g,d⟩,rfl,rfl⟩:=i;obtain⟨rfl,j⟩:=g;have c:Kd v=false:=d.resolve_left λh=>by cases h
  have q:v=.int .u64 x.1:=KY j c;subst q;have a:lenF x.1=Ua z:=a;obtain⟨y,⟨⟩⟩:=x;have key:∀y:Int,lenF y=Ua z->∃s:Nat,s<2 ^ 64/\y=(s:Int)/\z=((Jv 64 s:Nat):Int):=by
   intro y a;unfold lenF at a;by_cases l:0<=y/\y<18446744073709551616
   ·rw[Zi l]at a;simp only[Zd,ZL]at a;exact⟨y.toNat,by omega,by omega,a.symm⟩
   ·rw[Zt l]at a;simp at a
  obtain⟨s,p,rfl,rfl⟩:=key y a;refine(Zue s p w).mono ?_;rintro e B ⟨rfl,rfl⟩;exact⟨_,rfl,I,[],[],⟨[],[],_,_,rfl,rfl,rfl,rfl⟩,⟨[.int .i64 ((Jv 64 s:Nat):Int)],⟨[],[],_,_,rfl,rfl,⟨⟨rfl,rfl⟩,.inr rfl⟩,rfl,rfl⟩,rfl⟩,by simp,by simp,λ_ h=>h,λb k=>⟨n b k,.inl k⟩,rfl,rfl,.rfl,Nat.le_refl _,λ_ _ _=>rfl⟩
end Tr
