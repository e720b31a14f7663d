/- Laws of loops, of indices and of machine integers, for plain proofs. Conditions: none beyond those of the theorems. -/
import Derived.Test.YtdpenljjnfmgiaaGreatTsC
open Go.IntKind renaming wrap ->Va
namespace Tr
open Go
section
variable {σ τ:Type}{step:σ->Option (σ ⊕ τ)}
theorem ZbU(n:Nat)(s:σ):Zfq step (n+1) s=(step s).bind fun o=>Sum.elim (Zfq step n) some o:=by
 show (match step s with|some (.inl s')=>Zfq step n s' |some (.inr r)=>some r|none=>none)=_
 cases step s with
 |none=>rfl
 |some o=>cases o<;>rfl
theorem ZeS: ∀ (n m:Nat) (s:σ) (r:τ),Zfq step n s=some r->Zfq step (n+m) s=some r
 |0,_,_,_,h=>by simp [Zfq]at h
 |n+1,m,s,r,h=>by
  rw[show n+1+m=(n+m)+1 by omega,ZbU];rw[ZbU]at h
  cases hs:step s with
  |none=>rw[hs]at h;simp at h
  |some o=>
   rw[hs]at h
   cases o with
   |inl s' =>exact ZeS n m s' r h
   |inr r' =>exact h
theorem ZiE{n m:Nat}{s:σ}{r r' :τ}(h:Zfq step n s=some r)(h' :Zfq step m s=some r'):r=r' :=by have a:=ZeS n m s r h;have b:=ZeS m n s r' h';rw[Nat.add_comm]at b;exact Option.some.inj (a.symm.trans b)
theorem Zhv{n:Nat}{s:σ}{r:τ}(h:Zfq step n s=some r):run step s=some r:=by
 unfold run;split
 ·rename_i r' hr;exact congrArg some (ZiE hr h)
 ·rw[dif_pos ⟨r,n,h⟩];have hex: ∃r n,Zfq step n s=some r:=⟨r,n,h⟩;obtain⟨m,hm⟩:=hex.choose_spec;exact congrArg some (ZiE hm h)
theorem ZjQ{s:σ}{r:τ} :run step s=some r↔ ∃n,Zfq step n s=some r:=⟨Zic,fun⟨_,h⟩=>Zhv h⟩
theorem Zbv(s:σ):run step s=(step s).bind fun o=>Sum.elim (run step) some o:=by
 apply Option.ext;intro r;rw[ZjQ]
 cases hs:step s with
 |none=>
  simp only[Option.bind_none,reduceCtorEq,iff_false];rintro ⟨n,h⟩
  cases n with
  |zero=>simp [Zfq]at h
  |succ n=>rw[ZbU,hs]at h;simp at h
 |some o=>
  simp only[Option.bind_some]
  cases o with
  |inl s' =>
   simp only[Sum.elim_inl];rw[ZjQ];constructor
   ·rintro ⟨n,h⟩
    cases n with
    |zero=>simp [Zfq]at h
    |succ n=>rw[ZbU,hs]at h;exact⟨n,h⟩
   ·rintro ⟨n,h⟩
    exact⟨n+1,by rw[ZbU,hs];exact h⟩
  |inr r' =>
   simp only[Sum.elim_inr];constructor
   ·rintro ⟨n,h⟩
    cases n with
    |zero=>simp [Zfq]at h
    |succ n=>rw[ZbU,hs]at h;exact h
   ·intro h;exact⟨1,by rw[ZbU,hs];exact h⟩
theorem ZlQ{s s' :σ}(h:step s=some (.inl s')):run step s=run step s' :=by rw[Zbv,h];rfl
theorem ZkH{s:σ}{r:τ}(h:step s=some (.inr r)):run step s=some r:=by rw[Zbv,h];rfl
end
theorem ZdR{x:Int}(h1: -9223372036854775808<=x)(h2:x<=9223372036854775807):Va .i64 x=x:=by
 simp [Va,IntKind.signed,IntKind.bits]
 split<;>omega
theorem Zkk{α:Type}{xs:List α}{i:Nat}(h:i<xs.length):idx xs (i:Int)=some xs[i]:=by unfold idx;rw[if_pos (by omega)];simp [h]
theorem ZhA{α:Type}{xs:List α}{i:Int}(h0:0<=i)(h:i.toNat<xs.length):idx xs i=some xs[i.toNat]:=by unfold idx;rw[if_pos h0];simp [h]
end Tr
