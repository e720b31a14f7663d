/- Laws of loops, of indices and of machine integers, for plain proofs. Conditions: none beyond those of the theorems. -/
import Derived.Test.YtibiblkamaajeaaGreatTsC
open Go.IntKind renaming wrap ->Va
open Option renaming bind ->Vc
open Sum renaming elim ->Vb
namespace Tr
open Go
section
variable {σ τ:Type}{step:σ->Option (σ ⊕ τ)}
theorem Zdw(n:Nat)(s:σ):ZjS step (n+1) s=(step s).bind fun o=>Vb (ZjS step n) some o:=by
 show (match step s with|some (.inl s')=>ZjS step n s' |some (.inr r)=>some r|none=>none)=_
 cases step s with
 |none=>rfl
 |some o=>cases o<;>rfl
theorem Zi0: ∀ (n m:Nat) (s:σ) (r:τ),ZjS step n s=some r->ZjS step (n+m) s=some r
 |0,_,_,_,h=>by simp [ZjS]at h
 |n+1,m,s,r,h=>by
  rw[show n+1+m=(n+m)+1 by omega,Zdw];rw[Zdw]at h
  cases hs:step s with
  |none=>rw[hs]at h;simp at h
  |some o=>
   rw[hs]at h
   cases o with
   |inl s' =>exact Zi0 n m s' r h
   |inr r' =>exact h
theorem Zo1{n m:Nat}{s:σ}{r r' :τ}(h:ZjS step n s=some r)(h' :ZjS step m s=some r'):r=r' :=by have a:=Zi0 n m s r h;have b:=Zi0 m n s r' h';rw[Nat.add_comm]at b;exact Option.some.inj (a.symm.trans b)
theorem Zn5{n:Nat}{s:σ}{r:τ}(h:ZjS step n s=some r):run step s=some r:=by
 unfold run;split
 ·rename_i r' hr;exact congrArg some (Zo1 hr h)
 ·rw[dif_pos ⟨r,n,h⟩];have hex: ∃r n,ZjS step n s=some r:=⟨r,n,h⟩;obtain⟨m,hm⟩:=hex.choose_spec;exact congrArg some (Zo1 hm h)
theorem Zri{s:σ}{r:τ} :run step s=some r↔ ∃n,ZjS step n s=some r:=⟨Zpy,fun⟨_,h⟩=>Zn5 h⟩
theorem Zdl(s:σ):run step s=(step s).bind fun o=>Vb (run step) some o:=by
 apply Option.ext;intro r;rw[Zri]
 cases hs:step s with
 |none=>
  simp only[Option.bind_none,reduceCtorEq,iff_false];rintro ⟨n,h⟩
  cases n with
  |zero=>simp [ZjS]at h
  |succ n=>rw[Zdw,hs]at h;simp at h
 |some o=>
  simp only[Option.bind_some]
  cases o with
  |inl s' =>
   simp only[Sum.elim_inl];rw[Zri];constructor
   ·rintro ⟨n,h⟩
    cases n with
    |zero=>simp [ZjS]at h
    |succ n=>rw[Zdw,hs]at h;exact⟨n,h⟩
   ·rintro ⟨n,h⟩
    exact⟨n+1,by rw[Zdw,hs];exact h⟩
  |inr r' =>
   simp only[Sum.elim_inr];constructor
   ·rintro ⟨n,h⟩
    cases n with
    |zero=>simp [ZjS]at h
    |succ n=>rw[Zdw,hs]at h;exact h
   ·intro h;exact⟨1,by rw[Zdw,hs];exact h⟩
theorem ZcZ{s s' :σ}(h:step s=some (.inl s')):run step s=run step s' :=by rw[Zdl,h];rfl
theorem ZbE{s:σ}{r:τ}(h:step s=some (.inr r)):run step s=some r:=by rw[Zdl,h];rfl
theorem ZlB{Inv:σ->Prop}{μ:σ->Nat}{ZjL:τ->Prop}(hstep: ∀s,Inv s->(∃s',step s=some (.inl s')/\Inv s' /\μ s' <μ s)\/ ∃r,step s=some (.inr r)/\ZjL r):
  ∀s,Inv s-> ∃r,run step s=some r/\ZjL r:=by
 intro s;generalize hm:μ s=m
 induction m using Nat.strongRecOn generalizing s with
 |ind m ih=>
  intro hI;rcases hstep s hI with ⟨s',h1,h2,h3⟩ | ⟨r,h1,h2⟩
  ·obtain⟨r,h4,h5⟩:=ih (μ s') (hm▸h3) s' rfl h2;exact⟨r,(ZcZ h1).trans h4,h5⟩
  ·exact⟨r,ZbE h1,h2⟩
theorem Za8{ρ:Type}{s:σ}{f:τ->Option ρ}{Q:ρ->Prop}(Inv:σ->Prop)(μ:σ->Nat)(ZjL:τ->Prop)(h0:Inv s)
  (hstep: ∀s,Inv s-> ∃z,step s=some z/\Vb (fun s' =>Inv s' /\μ s' <μ s) ZjL z)
  (hpost: ∀r,ZjL r-> ∃z,f r=some z/\Q z): ∃z,Vc (run step s) f=some z/\Q z:=by
 obtain⟨r,h1,h2⟩:=ZlB (Inv:=Inv) (μ:=μ) (ZjL:=ZjL) (fun s hs=>by
  obtain⟨z,h1,h2⟩:=hstep s hs
  cases z with
  |inl s' =>exact .inl ⟨s',h1,h2⟩
  |inr r=>exact .inr ⟨r,h1,h2⟩) s h0
 rw[h1];exact hpost r h2
theorem run_bind{ρ:Type}{s:σ}{f:τ->Option ρ}{Q:ρ->Prop}(Inv:σ->Prop)(μ:σ->Nat)(ZjL:τ->Prop)(h0:Inv s)
  (hstep: ∀s,Inv s->(∃s',step s=some (.inl s')/\Inv s' /\μ s' <μ s)\/ ∃r,step s=some (.inr r)/\ZjL r)
  (hpost: ∀r,ZjL r-> ∃z,f r=some z/\Q z): ∃z,Vc (run step s) f=some z/\Q z:=by
 obtain⟨r,h1,h2⟩:=ZlB hstep s h0;rw[h1];exact hpost r h2
end
theorem ZaO{α:Type}{l m:List α}(h:l.length+m.length<=4294967296):Zam (decide (l.length+m.length<=Zan))=some ():=by rw[decide_eq_true (show l.length+m.length<=Zan from Nat.le_trans h (by decide))];rfl
theorem Zmr{α:Type}{l m:List α}(h:l.length+m.length<=549755813888):Zam (decide (l.length+m.length<=Zan))=some ():=by rw[decide_eq_true (show l.length+m.length<=Zan from h)];rfl
theorem Zae{x:Int}(h1: -9223372036854775808<=x)(h2:x<=9223372036854775807):Va .i64 x=x:=by
 simp [Va,IntKind.signed,IntKind.bits]
 split<;>omega
theorem Zaf{α:Type}{xs:List α}{i:Nat}(h:i<xs.length):idx xs (i:Int)=some xs[i]:=by unfold idx;rw[if_pos (by omega)];simp [h]
theorem Za5{α:Type}{xs:List α}{i:Int}(h0:0<=i)(h:i.toNat<xs.length):idx xs i=some xs[i.toNat]:=by unfold idx;rw[if_pos h0];simp [h]
theorem ZaE{i:Nat}{n:Nat}(h:i<n):inb (i:Int) n=some i:=by unfold inb;rw[if_pos (by omega)];simp
end Tr
