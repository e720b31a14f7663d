/- Laws of loops, of indices and of machine integers, for plain proofs. Conditions: none beyond those of the theorems. -/
import Derived.Test.YtdpenljjnfmgiaaGreatTsC
open Go.IntKind renaming wrap ->Va
namespace Tr
open Go
section
variable {σ τ:Type}{step:σ->Option (σ ⊕ τ)}
theorem ZbS(n:Nat)(s:σ):Zfp step (n+1) s=(step s).bind fun o=>Sum.elim (Zfp step n) some o:=by
 show (match step s with|some (.inl s')=>Zfp step n s' |some (.inr r)=>some r|none=>none)=_
 cases step s with
 |none=>rfl
 |some o=>cases o<;>rfl
theorem Zfe: ∀ (n m:Nat) (s:σ) (r:τ),Zfp step n s=some r->Zfp step (n+m) s=some r
 |0,_,_,_,h=>by simp [Zfp]at h
 |n+1,m,s,r,h=>by
  rw[show n+1+m=(n+m)+1 by omega,ZbS];rw[ZbS]at h
  cases hs:step s with
  |none=>rw[hs]at h;simp at h
  |some o=>
   rw[hs]at h
   cases o with
   |inl s' =>exact Zfe n m s' r h
   |inr r' =>exact h
theorem Ziz{n m:Nat}{s:σ}{r r' :τ}(h:Zfp step n s=some r)(h' :Zfp step m s=some r'):r=r' :=by have a:=Zfe n m s r h;have b:=Zfe m n s r' h';rw[Nat.add_comm]at b;exact Option.some.inj (a.symm.trans b)
theorem ZhW{n:Nat}{s:σ}{r:τ}(h:Zfp step n s=some r):run step s=some r:=by
 unfold run;split
 ·rename_i r' hr;exact congrArg some (Ziz hr h)
 ·rw[dif_pos ⟨r,n,h⟩];have hex: ∃r n,Zfp step n s=some r:=⟨r,n,h⟩;obtain⟨m,hm⟩:=hex.choose_spec;exact congrArg some (Ziz hm h)
theorem Zkm{s:σ}{r:τ} :run step s=some r↔ ∃n,Zfp step n s=some r:=⟨Zii,fun⟨_,h⟩=>ZhW h⟩
theorem Zbx(s:σ):run step s=(step s).bind fun o=>Sum.elim (run step) some o:=by
 apply Option.ext;intro r;rw[Zkm]
 cases hs:step s with
 |none=>
  simp only[Option.bind_none,reduceCtorEq,iff_false];rintro ⟨n,h⟩
  cases n with
  |zero=>simp [Zfp]at h
  |succ n=>rw[ZbS,hs]at h;simp at h
 |some o=>
  simp only[Option.bind_some]
  cases o with
  |inl s' =>
   simp only[Sum.elim_inl];rw[Zkm];constructor
   ·rintro ⟨n,h⟩
    cases n with
    |zero=>simp [Zfp]at h
    |succ n=>rw[ZbS,hs]at h;exact⟨n,h⟩
   ·rintro ⟨n,h⟩
    exact⟨n+1,by rw[ZbS,hs];exact h⟩
  |inr r' =>
   simp only[Sum.elim_inr];constructor
   ·rintro ⟨n,h⟩
    cases n with
    |zero=>simp [Zfp]at h
    |succ n=>rw[ZbS,hs]at h;exact h
   ·intro h;exact⟨1,by rw[ZbS,hs];exact h⟩
theorem Zmf{s s' :σ}(h:step s=some (.inl s')):run step s=run step s' :=by rw[Zbx,h];rfl
theorem Zka{s:σ}{r:τ}(h:step s=some (.inr r)):run step s=some r:=by rw[Zbx,h];rfl
end
theorem ZdW{x:Int}(h1: -9223372036854775808<=x)(h2:x<=9223372036854775807):Va .i64 x=x:=by
 simp [Va,IntKind.signed,IntKind.bits]
 split<;>omega
theorem Zjs{α:Type}{xs:List α}{i:Nat}(h:i<xs.length):idx xs (i:Int)=some xs[i]:=by unfold idx;rw[if_pos (by omega)];simp [h]
theorem ZhM{α:Type}{xs:List α}{i:Int}(h0:0<=i)(h:i.toNat<xs.length):idx xs i=some xs[i.toNat]:=by unfold idx;rw[if_pos h0];simp [h]
end Tr
