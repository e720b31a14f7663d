/- bitset.Len by a walk: the goto goes on until no bit is left. Conditions: none. -/
import Derived.Test.YtdpenljjnfmgiaaGreatProg
import Derived.Tactics
import Derived.Tactics2
import Derived.StillTactics
import Derived.Laws.BitsLemmas
import Derived.Laws.Bits
import Derived.Laws.BitsAll
import Derived.Laws.BitsAllLaws
import Derived.Laws.Bits64
import Derived.Laws.Bits64b
import Derived.Laws.Wrap64
import Derived.Laws.StandIn
import Derived.LoopTactic
import Derived.WalkMore
import Derived.ScopeJumps
import Derived.Test.YtdpenljjnfmgiaaGreatETsC
import Derived.Test.YtdpenljjnfmgiaaGreatLxPop
open BitVec renaming ofInt ->Vh
open Go.IntKind renaming u64 ->Vb,signed ->Ve,wrap ->Vf,bits ->Vg
open Nat renaming and_le_left ->Va,lt_of_le_of_lt ->Vc,mod_eq_of_lt ->Vd
open Option renaming some ->Ua,none ->Ub
open Decidable renaming decide ->Ue
namespace Tr
open Go Go.Proofs
def ZnB:Value->Int|.int _ q=>q|_=>0
theorem Zo1{m}(h:m≠0)(a:m<2 ^ 64):Jz 64 m=1+Jz 64 (m &&&(m - 1)):=by
 have b:Jz 65 m=1+Jz 64 (m &&&(m - 1)):=by rw[Jz,Zg h]
 rw[<-b,Zc1 64 64 m a (by omega),Zc1 64 65 m a (by omega)]
theorem Zlw{s:Nat}(c:s≠0)(h:s<2 ^ 64):bits .and .u64 s (Vb.wrap (s - 1))=((s &&&(s - 1):Nat)):=by
 have e:Vb.wrap (s - 1)=((s - 1:Nat)):=by simp[Vf,Vg,Ve];omega
 have b:s &&&(s - 1)<=s:=Va;rw[e];simp only[bits];have a:(Vh Vb.bits s &&& Vh Vb.bits ((s - 1:Nat))).toNat=s &&&(s - 1):=by show s % 2 ^ 64 &&&(s - 1) % 2 ^ 64=s &&&(s - 1);rw[Vd h,Vd (by omega)]
 rw[a];simp[Vf,Ve,Vg];omega
theorem Zxz{m}(a:m<2 ^ 64):Jz 64 m<=64:=by
 have:∀k m,HK k m<=k:=by
  intro k
  induction k with
  |zero=>intro m;exact Nat.le_refl _
  |succ k b=>intro m;rw[HK];have:=b (m / 2);omega
 rw[Zc1 64 64 m a (by omega)];exact this 64 m
set_option maxRecDepth 1000000 in
theorem Zwp(s:Nat)(i:s<2 ^ 64)(w:World):
 Calls Tryz.prog 233 #[.int .u64 (s:Int)] w λe w' =>e=.returned (.int .i64 ((Jz 64 s:Nat):Int))/\w' =w:=by
 go_enter Tryz.func233,Tryz.ntmps233
 go_wp2
 refine wp_scope_jumps 0 (λh w' =>w' =w/\∃(m c:Nat) (u4 u5 u6 k l n d f g:Value),h={tmps:= #[.int .u64 (m:Int),undef,.int .i64 0,.int .i64 (c:Int),u4,u5,u6,k,l,n,d,f,g],defers:=[] } /\c+Jz 64 m=Jz 64 s/\m<2 ^ 64) (λh _=>(ZnB (h.tmps.getD 0 undef)).toNat) rfl ?_ ?_
 .go_wp2
  go_step3
  go_wp2
  .rename_i b;simp only[Exit.jump]
   go_ret
   have a:s=0:=by simpa using b
   subst a;exact⟨rfl,rfl⟩
  rename_i b;have a:s≠0:=by simpa using b
  go_step3
  refine⟨rfl,rfl,s &&&(s - 1),1,_,_,_,_,_,_,_,_,_,by rw[Zlw a i];rfl,(Zo1 a i).symm,Vc Va i⟩
 rintro h w' ⟨rfl,m,c,u4,u5,u6,k,l,n,d,f,g,rfl,q,j⟩;have p:=Zxz i
 go_wp2
 .rename_i b;simp only[Exit.jump]
  go_ret
  have a:m=0:=by simpa using b
  subst a;have:c=Jz 64 s:=by have:Jz 64 0=0:=rfl;omega
  rw[this];exact⟨rfl,rfl⟩
 rename_i b;have a:m≠0:=by simpa using b
 go_step3
 have r:=Zo1 a j;have o:((c:Int)+1+9223372036854775808) % 18446744073709551616 - 9223372036854775808=((c+1:Nat):Int):=by omega
 rw[Zlw a j,o];refine⟨rfl,⟨rfl,m &&&(m - 1),c+1,⟨_,_,_,_,_,_,_,_,_,rfl⟩,by omega,Vc Va j⟩,?_⟩;have:=ZrZ a;simp[ZnB];omega
def lenF(x:Int):Option Int:=bif Ue (0<=x/\x<18446744073709551616) then Ua ((Jz 64 x.toNat:Nat)) else Ub
def Zwo:Spec:={args:=.cons (.pd (.int .u64)) .nil,res:=.cons (.pd (.int .i64)) .nil,fns:=[],α:=Int,f:=λx=>lenF x.1,unp:=λz=>(((),()),(z,()))}
theorem len_ok:ZR Tryz.prog 233 Zwo where
 wf:=rfl
 fn:=⟨_,Tryz.func233,rfl,rfl⟩
 run:=by
  intro w I m A x (z:Int) i o f n _ a;obtain⟨t,u,v,r,rfl,rfl,⟨g,d⟩,rfl,rfl⟩:=i;obtain⟨rfl,j⟩:=g;have c:Kb v=false:=d.resolve_left λh=>by cases h
  have q:v=.int .u64 x.1:=K3 j c;subst q;have a:lenF x.1=Ua z:=a;have⟨y,⟨⟩⟩:=x;have key:∀y,lenF y=Ua z->∃s:Nat,s<2 ^ 64/\y=s/\z=((Jz 64 s:Nat)):=by
   intro y a;unfold lenF at a;by_cases l:0<=y/\y<18446744073709551616;.rw[Zi l]at a;simp[Z4]at a;exact⟨y.toNat,by omega,by omega,a.symm⟩
   rw[Zm l]at a;simp at a
  obtain⟨s,p,rfl,rfl⟩:=key y a;refine(Zwp s p w).mono ?_;rintro e B ⟨rfl,rfl⟩;exact⟨_,rfl,I,[],[],⟨[],[],_,_,rfl,rfl,rfl,rfl⟩,⟨[.int .i64 ((Jz 64 s:Nat))],⟨[],[],_,_,rfl,rfl,⟨⟨rfl,rfl⟩,.inr rfl⟩,rfl,rfl⟩,rfl⟩,by simp,by simp,λ_ h=>h,λb k=>⟨n b k,.inl k⟩,rfl,rfl,.rfl,Nat.le_refl _,λ_ _ _=>rfl⟩
end Tr
