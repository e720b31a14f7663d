/- Laws of loops, of indices and of machine integers, for plain proofs. Conditions: none beyond those of the theorems. -/
import Derived.Test.YtckebckjnfcniaaGreatTsC
namespace Tr
open Go
section
variable {σ τ:Type}{step:σ->Option (σ ⊕ τ)}
theorem Zc4(n:Nat)(s:σ):Ziw step (n+1) s=(step s).bind fun o=>Sum.elim (Ziw step n) some o:=by
 show (match step s with|some (.inl s')=>Ziw step n s' |some (.inr r)=>some r|none=>none)=_
 cases step s with
 |none=>rfl
 |some o=>cases o<;>rfl
theorem ZhY: ∀ (n m:Nat) (s:σ) (r:τ),Ziw step n s=some r->Ziw step (n+m) s=some r
 |0,_,_,_,h=>by simp [Ziw]at h
 |n+1,m,s,r,h=>by
  rw[show n+1+m=(n+m)+1 by omega,Zc4];rw[Zc4]at h
  cases hs:step s with
  |none=>rw[hs]at h;simp at h
  |some o=>
   rw[hs]at h
   cases o with
   |inl s' =>exact ZhY n m s' r h
   |inr r' =>exact h
theorem ZmD{n m:Nat}{s:σ}{r r' :τ}(h:Ziw step n s=some r)(h' :Ziw step m s=some r'):r=r' :=by have a:=ZhY n m s r h;have b:=ZhY m n s r' h';rw[Nat.add_comm]at b;exact Option.some.inj (a.symm.trans b)
theorem Zmb{n:Nat}{s:σ}{r:τ}(h:Ziw step n s=some r):run step s=some r:=by
 unfold run;split
 ·rename_i r' hr;exact congrArg some (ZmD hr h)
 ·rw[dif_pos ⟨r,n,h⟩];have hex: ∃r n,Ziw step n s=some r:=⟨r,n,h⟩;obtain⟨m,hm⟩:=hex.choose_spec;exact congrArg some (ZmD hm h)
theorem Zpu{s:σ}{r:τ} :run step s=some r↔ ∃n,Ziw step n s=some r:=⟨Znq,fun⟨_,h⟩=>Zmb h⟩
theorem Zbt(s:σ):run step s=(step s).bind fun o=>Sum.elim (run step) some o:=by
 apply Option.ext;intro r;rw[Zpu]
 cases hs:step s with
 |none=>
  simp only[Option.bind_none,reduceCtorEq,iff_false];rintro ⟨n,h⟩
  cases n with
  |zero=>simp [Ziw]at h
  |succ n=>rw[Zc4,hs]at h;simp at h
 |some o=>
  simp only[Option.bind_some]
  cases o with
  |inl s' =>
   simp only[Sum.elim_inl];rw[Zpu];constructor
   ·rintro ⟨n,h⟩
    cases n with
    |zero=>simp [Ziw]at h
    |succ n=>rw[Zc4,hs]at h;exact⟨n,h⟩
   ·rintro ⟨n,h⟩
    exact⟨n+1,by rw[Zc4,hs];exact h⟩
  |inr r' =>
   simp only[Sum.elim_inr];constructor
   ·rintro ⟨n,h⟩
    cases n with
    |zero=>simp [Ziw]at h
    |succ n=>rw[Zc4,hs]at h;exact h
   ·intro h;exact⟨1,by rw[Zc4,hs];exact h⟩
theorem Zca{s s' :σ}(h:step s=some (.inl s')):run step s=run step s' :=by rw[Zbt,h];rfl
theorem Zbu{s:σ}{r:τ}(h:step s=some (.inr r)):run step s=some r:=by rw[Zbt,h];rfl
theorem ZnA{Inv:σ->Prop}{μ:σ->Nat}{Zik:τ->Prop}(hstep: ∀s,Inv s->(∃s',step s=some (.inl s')/\Inv s' /\μ s' <μ s)\/ ∃r,step s=some (.inr r)/\Zik r):
  ∀s,Inv s-> ∃r,run step s=some r/\Zik r:=by
 intro s;generalize hm:μ s=m
 induction m using Nat.strongRecOn generalizing s with
 |ind m ih=>
  intro hI;rcases hstep s hI with ⟨s',h1,h2,h3⟩ | ⟨r,h1,h2⟩
  ·obtain⟨r,h4,h5⟩:=ih (μ s') (hm▸h3) s' rfl h2;exact⟨r,(Zca h1).trans h4,h5⟩
  ·exact⟨r,Zbu h1,h2⟩
theorem Za6{ρ:Type}{s:σ}{f:τ->Option ρ}{Q:ρ->Prop}(Inv:σ->Prop)(μ:σ->Nat)(Zik:τ->Prop)(h0:Inv s)
  (hstep: ∀s,Inv s-> ∃z,step s=some z/\Sum.elim (fun s' =>Inv s' /\μ s' <μ s) Zik z)
  (hpost: ∀r,Zik r-> ∃z,f r=some z/\Q z): ∃z,Option.bind (run step s) f=some z/\Q z:=by
 obtain⟨r,h1,h2⟩:=ZnA (Inv:=Inv) (μ:=μ) (Zik:=Zik) (fun s hs=>by
  obtain⟨z,h1,h2⟩:=hstep s hs
  cases z with
  |inl s' =>exact .inl ⟨s',h1,h2⟩
  |inr r=>exact .inr ⟨r,h1,h2⟩) s h0
 rw[h1];exact hpost r h2
theorem run_bind{ρ:Type}{s:σ}{f:τ->Option ρ}{Q:ρ->Prop}(Inv:σ->Prop)(μ:σ->Nat)(Zik:τ->Prop)(h0:Inv s)
  (hstep: ∀s,Inv s->(∃s',step s=some (.inl s')/\Inv s' /\μ s' <μ s)\/ ∃r,step s=some (.inr r)/\Zik r)
  (hpost: ∀r,Zik r-> ∃z,f r=some z/\Q z): ∃z,Option.bind (run step s) f=some z/\Q z:=by
 obtain⟨r,h1,h2⟩:=ZnA hstep s h0;rw[h1];exact hpost r h2
end
theorem Zbg{α:Type}{l m:List α}(h:l.length+m.length<=4294967296):Zar (decide (l.length+m.length<=Zaq))=some ():=by rw[decide_eq_true (show l.length+m.length<=Zaq from h)];rfl
theorem Zaj{x:Int}(h1: -9223372036854775808<=x)(h2:x<=9223372036854775807):IntKind.wrap .i64 x=x:=by
 simp [IntKind.wrap,IntKind.signed,IntKind.bits]
 split<;>omega
theorem Zah{α:Type}{xs:List α}{i:Nat}(h:i<xs.length):idx xs (i:Int)=some xs[i]:=by unfold idx;rw[if_pos (by omega)];simp [h]
theorem Zbj{α:Type}{xs:List α}{i:Int}(h0:0<=i)(h:i.toNat<xs.length):idx xs i=some xs[i.toNat]:=by unfold idx;rw[if_pos h0];simp [h]
theorem ZaH{i:Nat}{n:Nat}(h:i<n):inb (i:Int) n=some i:=by unfold inb;rw[if_pos (by omega)];simp
end Tr
