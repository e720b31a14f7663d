/- Laws of loops, of indices and of machine integers, for plain proofs. Conditions: none beyond those of the theorems. -/
import Derived.Test.YtibiblkamaajeaaGreatTsC
open Go.IntKind renaming wrap ->Va
open Option renaming bind ->Vc
open Sum renaming elim ->Vb
namespace Tr
open Go
section
variable {σ τ:Type}{step:σ->Option (σ ⊕ τ)}
theorem ZdJ(n:Nat)(s:σ):Zj0 step (n+1) s=(step s).bind fun o=>Vb (Zj0 step n) some o:=by
 show (match step s with|some (.inl s')=>Zj0 step n s' |some (.inr r)=>some r|none=>none)=_
 cases step s with
 |none=>rfl
 |some o=>cases o<;>rfl
theorem Zi1: ∀ (n m:Nat) (s:σ) (r:τ),Zj0 step n s=some r->Zj0 step (n+m) s=some r
 |0,_,_,_,h=>by simp [Zj0]at h
 |n+1,m,s,r,h=>by
  rw[show n+1+m=(n+m)+1 by omega,ZdJ];rw[ZdJ]at h
  cases hs:step s with
  |none=>rw[hs]at h;simp at h
  |some o=>
   rw[hs]at h
   cases o with
   |inl s' =>exact Zi1 n m s' r h
   |inr r' =>exact h
theorem ZoR{n m:Nat}{s:σ}{r r' :τ}(h:Zj0 step n s=some r)(h' :Zj0 step m s=some r'):r=r' :=by have a:=Zi1 n m s r h;have b:=Zi1 m n s r' h';rw[Nat.add_comm]at b;exact Option.some.inj (a.symm.trans b)
theorem ZoB{n:Nat}{s:σ}{r:τ}(h:Zj0 step n s=some r):run step s=some r:=by
 unfold run;split
 ·rename_i r' hr;exact congrArg some (ZoR hr h)
 ·rw[dif_pos ⟨r,n,h⟩];have hex: ∃r n,Zj0 step n s=some r:=⟨r,n,h⟩;obtain⟨m,hm⟩:=hex.choose_spec;exact congrArg some (ZoR hm h)
theorem Zry{s:σ}{r:τ} :run step s=some r↔ ∃n,Zj0 step n s=some r:=⟨Zpv,fun⟨_,h⟩=>ZoB h⟩
theorem Zdh(s:σ):run step s=(step s).bind fun o=>Vb (run step) some o:=by
 apply Option.ext;intro r;rw[Zry]
 cases hs:step s with
 |none=>
  simp only[Option.bind_none,reduceCtorEq,iff_false];rintro ⟨n,h⟩
  cases n with
  |zero=>simp [Zj0]at h
  |succ n=>rw[ZdJ,hs]at h;simp at h
 |some o=>
  simp only[Option.bind_some]
  cases o with
  |inl s' =>
   simp only[Sum.elim_inl];rw[Zry];constructor
   ·rintro ⟨n,h⟩
    cases n with
    |zero=>simp [Zj0]at h
    |succ n=>rw[ZdJ,hs]at h;exact⟨n,h⟩
   ·rintro ⟨n,h⟩
    exact⟨n+1,by rw[ZdJ,hs];exact h⟩
  |inr r' =>
   simp only[Sum.elim_inr];constructor
   ·rintro ⟨n,h⟩
    cases n with
    |zero=>simp [Zj0]at h
    |succ n=>rw[ZdJ,hs]at h;exact h
   ·intro h;exact⟨1,by rw[ZdJ,hs];exact h⟩
theorem ZcI{s s' :σ}(h:step s=some (.inl s')):run step s=run step s' :=by rw[Zdh,h];rfl
theorem ZbC{s:σ}{r:τ}(h:step s=some (.inr r)):run step s=some r:=by rw[Zdh,h];rfl
theorem ZlT{Inv:σ->Prop}{μ:σ->Nat}{ZjM:τ->Prop}(hstep: ∀s,Inv s->(∃s',step s=some (.inl s')/\Inv s' /\μ s' <μ s)\/ ∃r,step s=some (.inr r)/\ZjM r):
  ∀s,Inv s-> ∃r,run step s=some r/\ZjM r:=by
 intro s;generalize hm:μ s=m
 induction m using Nat.strongRecOn generalizing s with
 |ind m ih=>
  intro hI;rcases hstep s hI with ⟨s',h1,h2,h3⟩ | ⟨r,h1,h2⟩
  ·obtain⟨r,h4,h5⟩:=ih (μ s') (hm▸h3) s' rfl h2;exact⟨r,(ZcI h1).trans h4,h5⟩
  ·exact⟨r,ZbC h1,h2⟩
theorem Za8{ρ:Type}{s:σ}{f:τ->Option ρ}{Q:ρ->Prop}(Inv:σ->Prop)(μ:σ->Nat)(ZjM:τ->Prop)(h0:Inv s)
  (hstep: ∀s,Inv s-> ∃z,step s=some z/\Vb (fun s' =>Inv s' /\μ s' <μ s) ZjM z)
  (hpost: ∀r,ZjM r-> ∃z,f r=some z/\Q z): ∃z,Vc (run step s) f=some z/\Q z:=by
 obtain⟨r,h1,h2⟩:=ZlT (Inv:=Inv) (μ:=μ) (ZjM:=ZjM) (fun s hs=>by
  obtain⟨z,h1,h2⟩:=hstep s hs
  cases z with
  |inl s' =>exact .inl ⟨s',h1,h2⟩
  |inr r=>exact .inr ⟨r,h1,h2⟩) s h0
 rw[h1];exact hpost r h2
theorem run_bind{ρ:Type}{s:σ}{f:τ->Option ρ}{Q:ρ->Prop}(Inv:σ->Prop)(μ:σ->Nat)(ZjM:τ->Prop)(h0:Inv s)
  (hstep: ∀s,Inv s->(∃s',step s=some (.inl s')/\Inv s' /\μ s' <μ s)\/ ∃r,step s=some (.inr r)/\ZjM r)
  (hpost: ∀r,ZjM r-> ∃z,f r=some z/\Q z): ∃z,Vc (run step s) f=some z/\Q z:=by
 obtain⟨r,h1,h2⟩:=ZlT hstep s h0;rw[h1];exact hpost r h2
end
theorem ZaQ{α:Type}{l m:List α}(h:l.length+m.length<=4294967296):Zan (decide (l.length+m.length<=Zam))=some ():=by rw[decide_eq_true (show l.length+m.length<=Zam from Nat.le_trans h (by decide))];rfl
theorem Zms{α:Type}{l m:List α}(h:l.length+m.length<=549755813888):Zan (decide (l.length+m.length<=Zam))=some ():=by rw[decide_eq_true (show l.length+m.length<=Zam from h)];rfl
theorem Zae{x:Int}(h1: -9223372036854775808<=x)(h2:x<=9223372036854775807):Va .i64 x=x:=by
 simp [Va,IntKind.signed,IntKind.bits]
 split<;>omega
theorem Zaf{α:Type}{xs:List α}{i:Nat}(h:i<xs.length):idx xs (i:Int)=some xs[i]:=by unfold idx;rw[if_pos (by omega)];simp [h]
theorem Za6{α:Type}{xs:List α}{i:Int}(h0:0<=i)(h:i.toNat<xs.length):idx xs i=some xs[i.toNat]:=by unfold idx;rw[if_pos h0];simp [h]
theorem ZaB{i:Nat}{n:Nat}(h:i<n):inb (i:Int) n=some i:=by unfold inb;rw[if_pos (by omega)];simp
end Tr
