/- Laws of loops, of indices and of machine integers, for plain proofs. Conditions: none beyond those of the theorems. -/
import Derived.Test.YtdpenljjnfmgiaaGreatTsC
open Go.IntKind renaming wrap ->Va
namespace Tr
open Go
section
variable {σ τ:Type}{step:σ->Option (σ ⊕ τ)}
theorem ZbY(n:Nat)(s:σ):ZfD step (n+1) s=(step s).bind fun o=>Sum.elim (ZfD step n) some o:=by
 show (match step s with|some (.inl s')=>ZfD step n s' |some (.inr r)=>some r|none=>none)=_
 cases step s with
 |none=>rfl
 |some o=>cases o<;>rfl
theorem Ze4: ∀ (n m:Nat) (s:σ) (r:τ),ZfD step n s=some r->ZfD step (n+m) s=some r
 |0,_,_,_,h=>by simp [ZfD]at h
 |n+1,m,s,r,h=>by
  rw[show n+1+m=(n+m)+1 by omega,ZbY];rw[ZbY]at h
  cases hs:step s with
  |none=>rw[hs]at h;simp at h
  |some o=>
   rw[hs]at h
   cases o with
   |inl s' =>exact Ze4 n m s' r h
   |inr r' =>exact h
theorem Zje{n m:Nat}{s:σ}{r r' :τ}(h:ZfD step n s=some r)(h' :ZfD step m s=some r'):r=r' :=by have a:=Ze4 n m s r h;have b:=Ze4 m n s r' h';rw[Nat.add_comm]at b;exact Option.some.inj (a.symm.trans b)
theorem Zix{n:Nat}{s:σ}{r:τ}(h:ZfD step n s=some r):run step s=some r:=by
 unfold run;split
 ·rename_i r' hr;exact congrArg some (Zje hr h)
 ·rw[dif_pos ⟨r,n,h⟩];have hex: ∃r n,ZfD step n s=some r:=⟨r,n,h⟩;obtain⟨m,hm⟩:=hex.choose_spec;exact congrArg some (Zje hm h)
theorem Zk8{s:σ}{r:τ} :run step s=some r↔ ∃n,ZfD step n s=some r:=⟨ZiI,fun⟨_,h⟩=>Zix h⟩
theorem ZbB(s:σ):run step s=(step s).bind fun o=>Sum.elim (run step) some o:=by
 apply Option.ext;intro r;rw[Zk8]
 cases hs:step s with
 |none=>
  simp only[Option.bind_none,reduceCtorEq,iff_false];rintro ⟨n,h⟩
  cases n with
  |zero=>simp [ZfD]at h
  |succ n=>rw[ZbY,hs]at h;simp at h
 |some o=>
  simp only[Option.bind_some]
  cases o with
  |inl s' =>
   simp only[Sum.elim_inl];rw[Zk8];constructor
   ·rintro ⟨n,h⟩
    cases n with
    |zero=>simp [ZfD]at h
    |succ n=>rw[ZbY,hs]at h;exact⟨n,h⟩
   ·rintro ⟨n,h⟩
    exact⟨n+1,by rw[ZbY,hs];exact h⟩
  |inr r' =>
   simp only[Sum.elim_inr];constructor
   ·rintro ⟨n,h⟩
    cases n with
    |zero=>simp [ZfD]at h
    |succ n=>rw[ZbY,hs]at h;exact h
   ·intro h;exact⟨1,by rw[ZbY,hs];exact h⟩
theorem Zm3{s s' :σ}(h:step s=some (.inl s')):run step s=run step s' :=by rw[ZbB,h];rfl
theorem ZkP{s:σ}{r:τ}(h:step s=some (.inr r)):run step s=some r:=by rw[ZbB,h];rfl
end
theorem ZgY{α β:Type}{x:Option α}{f:α->Option β}{Q:β->Prop}(P:α->Prop)(h: ∃a,x=some a/\P a)(k: ∀a,P a-> ∃z,f a=some z/\Q z): ∃z,Option.bind x f=some z/\Q z:=by obtain⟨a,rfl,ha⟩:=h;exact k a ha
theorem Zbr{x:Int}(h1: -9223372036854775808<=x)(h2:x<=9223372036854775807):Va .i64 x=x:=by
 simp [Va,IntKind.signed,IntKind.bits]
 split<;>omega
theorem ZcY{α:Type}{xs:List α}{i:Nat}(h:i<xs.length):idx xs (i:Int)=some xs[i]:=by unfold idx;rw[if_pos (by omega)];simp [h]
theorem ZeV{i:Nat}{n:Nat}(h:i<n):inb (i:Int) n=some i:=by unfold inb;rw[if_pos (by omega)];simp
end Tr
