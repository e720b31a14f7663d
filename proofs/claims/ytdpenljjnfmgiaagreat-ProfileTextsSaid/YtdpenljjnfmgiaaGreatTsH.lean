/- Laws of loops, of indices and of machine integers, for plain proofs. Conditions: none beyond those of the theorems. -/
import Derived.Test.YtdpenljjnfmgiaaGreatTsC
open Go.IntKind renaming wrap ->Va
namespace Tr
open Go
section
variable {σ τ:Type}{step:σ->Option (σ ⊕ τ)}
theorem ZbZ(n:Nat)(s:σ):Zfu step (n+1) s=(step s).bind fun o=>Sum.elim (Zfu step n) some o:=by
 show (match step s with|some (.inl s')=>Zfu step n s' |some (.inr r)=>some r|none=>none)=_
 cases step s with
 |none=>rfl
 |some o=>cases o<;>rfl
theorem Ze7: ∀ (n m:Nat) (s:σ) (r:τ),Zfu step n s=some r->Zfu step (n+m) s=some r
 |0,_,_,_,h=>by simp [Zfu]at h
 |n+1,m,s,r,h=>by
  rw[show n+1+m=(n+m)+1 by omega,ZbZ];rw[ZbZ]at h
  cases hs:step s with
  |none=>rw[hs]at h;simp at h
  |some o=>
   rw[hs]at h
   cases o with
   |inl s' =>exact Ze7 n m s' r h
   |inr r' =>exact h
theorem Zid{n m:Nat}{s:σ}{r r' :τ}(h:Zfu step n s=some r)(h' :Zfu step m s=some r'):r=r' :=by have a:=Ze7 n m s r h;have b:=Ze7 m n s r' h';rw[Nat.add_comm]at b;exact Option.some.inj (a.symm.trans b)
theorem Zia{n:Nat}{s:σ}{r:τ}(h:Zfu step n s=some r):run step s=some r:=by
 unfold run;split
 ·rename_i r' hr;exact congrArg some (Zid hr h)
 ·rw[dif_pos ⟨r,n,h⟩];have hex: ∃r n,Zfu step n s=some r:=⟨r,n,h⟩;obtain⟨m,hm⟩:=hex.choose_spec;exact congrArg some (Zid hm h)
theorem Zkz{s:σ}{r:τ} :run step s=some r↔ ∃n,Zfu step n s=some r:=⟨ZiG,fun⟨_,h⟩=>Zia h⟩
theorem ZfC(s:σ):run step s=(step s).bind fun o=>Sum.elim (run step) some o:=by
 apply Option.ext;intro r;rw[Zkz]
 cases hs:step s with
 |none=>
  simp only[Option.bind_none,reduceCtorEq,iff_false];rintro ⟨n,h⟩
  cases n with
  |zero=>simp [Zfu]at h
  |succ n=>rw[ZbZ,hs]at h;simp at h
 |some o=>
  simp only[Option.bind_some]
  cases o with
  |inl s' =>
   simp only[Sum.elim_inl];rw[Zkz];constructor
   ·rintro ⟨n,h⟩
    cases n with
    |zero=>simp [Zfu]at h
    |succ n=>rw[ZbZ,hs]at h;exact⟨n,h⟩
   ·rintro ⟨n,h⟩
    exact⟨n+1,by rw[ZbZ,hs];exact h⟩
  |inr r' =>
   simp only[Sum.elim_inr];constructor
   ·rintro ⟨n,h⟩
    cases n with
    |zero=>simp [Zfu]at h
    |succ n=>rw[ZbZ,hs]at h;exact h
   ·intro h;exact⟨1,by rw[ZbZ,hs];exact h⟩
theorem Zgj{s s' :σ}(h:step s=some (.inl s')):run step s=run step s' :=by rw[ZfC,h];rfl
theorem ZdC{s:σ}{r:τ}(h:step s=some (.inr r)):run step s=some r:=by rw[ZfC,h];rfl
end
theorem ZcG{x:Int}(h1: -9223372036854775808<=x)(h2:x<=9223372036854775807):Va .i64 x=x:=by
 simp [Va,IntKind.signed,IntKind.bits]
 split<;>omega
theorem Zdx{α:Type}{xs:List α}{i:Nat}(h:i<xs.length):idx xs (i:Int)=some xs[i]:=by unfold idx;rw[if_pos (by omega)];simp [h]
theorem ZkW{i:Nat}{n:Nat}(h:i<n):inb (i:Int) n=some i:=by unfold inb;rw[if_pos (by omega)];simp
end Tr
