/- Laws of loops, of indices and of machine integers, for plain proofs. Conditions: none beyond those of the theorems. -/
import Derived.Test.YtdpenljjnfmgiaaGreatTsC
open Go.IntKind renaming wrap ->Va
open Option renaming bind ->Vc
open Sum renaming elim ->Vb
namespace Tr
open Go
section
variable {σ τ:Type}{step:σ->Option (σ ⊕ τ)}
theorem Zcq(n:Nat)(s:σ):ZgN step (n+1) s=(step s).bind fun o=>Vb (ZgN step n) some o:=by
 show (match step s with|some (.inl s')=>ZgN step n s' |some (.inr r)=>some r|none=>none)=_
 cases step s with
 |none=>rfl
 |some o=>cases o<;>rfl
theorem Zgw: ∀ (n m:Nat) (s:σ) (r:τ),ZgN step n s=some r->ZgN step (n+m) s=some r
 |0,_,_,_,h=>by simp [ZgN]at h
 |n+1,m,s,r,h=>by
  rw[show n+1+m=(n+m)+1 by omega,Zcq];rw[Zcq]at h
  cases hs:step s with
  |none=>rw[hs]at h;simp at h
  |some o=>
   rw[hs]at h
   cases o with
   |inl s' =>exact Zgw n m s' r h
   |inr r' =>exact h
theorem Zkc{n m:Nat}{s:σ}{r r' :τ}(h:ZgN step n s=some r)(h' :ZgN step m s=some r'):r=r' :=by have a:=Zgw n m s r h;have b:=Zgw m n s r' h';rw[Nat.add_comm]at b;exact Option.some.inj (a.symm.trans b)
theorem ZjD{n:Nat}{s:σ}{r:τ}(h:ZgN step n s=some r):run step s=some r:=by
 unfold run;split
 ·rename_i r' hr;exact congrArg some (Zkc hr h)
 ·rw[dif_pos ⟨r,n,h⟩];have hex: ∃r n,ZgN step n s=some r:=⟨r,n,h⟩;obtain⟨m,hm⟩:=hex.choose_spec;exact congrArg some (Zkc hm h)
theorem ZmD{s:σ}{r:τ} :run step s=some r↔ ∃n,ZgN step n s=some r:=⟨ZkF,fun⟨_,h⟩=>ZjD h⟩
theorem Zce(s:σ):run step s=(step s).bind fun o=>Vb (run step) some o:=by
 apply Option.ext;intro r;rw[ZmD]
 cases hs:step s with
 |none=>
  simp only[Option.bind_none,reduceCtorEq,iff_false];rintro ⟨n,h⟩
  cases n with
  |zero=>simp [ZgN]at h
  |succ n=>rw[Zcq,hs]at h;simp at h
 |some o=>
  simp only[Option.bind_some]
  cases o with
  |inl s' =>
   simp only[Sum.elim_inl];rw[ZmD];constructor
   ·rintro ⟨n,h⟩
    cases n with
    |zero=>simp [ZgN]at h
    |succ n=>rw[Zcq,hs]at h;exact⟨n,h⟩
   ·rintro ⟨n,h⟩
    exact⟨n+1,by rw[Zcq,hs];exact h⟩
  |inr r' =>
   simp only[Sum.elim_inr];constructor
   ·rintro ⟨n,h⟩
    cases n with
    |zero=>simp [ZgN]at h
    |succ n=>rw[Zcq,hs]at h;exact h
   ·intro h;exact⟨1,by rw[Zcq,hs];exact h⟩
theorem ZdP{s s' :σ}(h:step s=some (.inl s')):run step s=run step s' :=by rw[Zce,h];rfl
theorem Zb2{s:σ}{r:τ}(h:step s=some (.inr r)):run step s=some r:=by rw[Zce,h];rfl
theorem ZkE{Inv:σ->Prop}{μ:σ->Nat}{ZgL:τ->Prop}(hstep: ∀s,Inv s->(∃s',step s=some (.inl s')/\Inv s' /\μ s' <μ s)\/ ∃r,step s=some (.inr r)/\ZgL r):
  ∀s,Inv s-> ∃r,run step s=some r/\ZgL r:=by
 intro s;generalize hm:μ s=m
 induction m using Nat.strongRecOn generalizing s with
 |ind m ih=>
  intro hI;rcases hstep s hI with ⟨s',h1,h2,h3⟩ | ⟨r,h1,h2⟩
  ·obtain⟨r,h4,h5⟩:=ih (μ s') (hm▸h3) s' rfl h2;exact⟨r,(ZdP h1).trans h4,h5⟩
  ·exact⟨r,Zb2 h1,h2⟩
theorem ZaO{ρ:Type}{s:σ}{f:τ->Option ρ}{Q:ρ->Prop}(Inv:σ->Prop)(μ:σ->Nat)(ZgL:τ->Prop)(h0:Inv s)
  (hstep: ∀s,Inv s-> ∃z,step s=some z/\Vb (fun s' =>Inv s' /\μ s' <μ s) ZgL z)
  (hpost: ∀r,ZgL r-> ∃z,f r=some z/\Q z): ∃z,Vc (run step s) f=some z/\Q z:=by
 obtain⟨r,h1,h2⟩:=ZkE (Inv:=Inv) (μ:=μ) (ZgL:=ZgL) (fun s hs=>by
  obtain⟨z,h1,h2⟩:=hstep s hs
  cases z with
  |inl s' =>exact .inl ⟨s',h1,h2⟩
  |inr r=>exact .inr ⟨r,h1,h2⟩) s h0
 rw[h1];exact hpost r h2
theorem run_bind{ρ:Type}{s:σ}{f:τ->Option ρ}{Q:ρ->Prop}(Inv:σ->Prop)(μ:σ->Nat)(ZgL:τ->Prop)(h0:Inv s)
  (hstep: ∀s,Inv s->(∃s',step s=some (.inl s')/\Inv s' /\μ s' <μ s)\/ ∃r,step s=some (.inr r)/\ZgL r)
  (hpost: ∀r,ZgL r-> ∃z,f r=some z/\Q z): ∃z,Vc (run step s) f=some z/\Q z:=by
 obtain⟨r,h1,h2⟩:=ZkE hstep s h0;rw[h1];exact hpost r h2
end
theorem ZdJ{α:Type}{l m:List α}(h:l.length+m.length<=4294967296):Zas (decide (l.length+m.length<=Zax))=some ():=by rw[decide_eq_true (show l.length+m.length<=Zax from Nat.le_trans h (by decide))];rfl
theorem ZaA{x:Int}(h1: -9223372036854775808<=x)(h2:x<=9223372036854775807):Va .i64 x=x:=by
 simp [Va,IntKind.signed,IntKind.bits]
 split<;>omega
theorem Zam{α:Type}{xs:List α}{i:Nat}(h:i<xs.length):idx xs (i:Int)=some xs[i]:=by unfold idx;rw[if_pos (by omega)];simp [h]
theorem Zdw{α:Type}{xs:List α}{i:Int}(h0:0<=i)(h:i.toNat<xs.length):idx xs i=some xs[i.toNat]:=by unfold idx;rw[if_pos h0];simp [h]
theorem Zbf{i:Nat}{n:Nat}(h:i<n):inb (i:Int) n=some i:=by unfold inb;rw[if_pos (by omega)];simp
end Tr
