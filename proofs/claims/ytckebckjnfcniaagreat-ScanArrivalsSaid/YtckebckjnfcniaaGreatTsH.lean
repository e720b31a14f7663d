/- Laws of loops, of indices and of machine integers, for plain proofs. Conditions: none beyond those of the theorems. -/
import Derived.Test.YtckebckjnfcniaaGreatTsC
namespace Tr
open Go
section
variable {σ τ:Type} {step:σ→Option (σ ⊕ τ)}
theorem ZcV (n:Nat) (s:σ):ZhB step (n+1) s=(step s).bind fun o=>Sum.elim (ZhB step n) some o:=by
 show (match step s with|some (.inl s')=>ZhB step n s' |some (.inr r)=>some r|none=>none)=_
 cases step s with
 |none=>rfl
 |some o=>cases o<;>rfl
theorem Zhc: ∀ (n m:Nat) (s:σ) (r:τ),ZhB step n s=some r→ZhB step (n+m) s=some r
 |0,_,_,_,h=>by simp [ZhB] at h
 |n+1,m,s,r,h=>by
  rw[show n+1+m=(n+m)+1 by omega,ZcV]
  rw[ZcV] at h
  cases hs:step s with
  |none=>rw[hs] at h;simp at h
  |some o=>
   rw[hs] at h
   cases o with
   |inl s' =>exact Zhc n m s' r h
   |inr r' =>exact h
theorem Zlm {n m:Nat} {s:σ} {r r' :τ} (h:ZhB step n s=some r) (h' :ZhB step m s=some r'):r=r' :=by
 have a:=Zhc n m s r h
 have b:=Zhc m n s r' h'
 rw[Nat.add_comm] at b
 exact Option.some.inj (a.symm.trans b)
theorem Zko {n:Nat} {s:σ} {r:τ} (h:ZhB step n s=some r):run step s=some r:=by
 unfold run
 split
 ·rename_i r' hr
  exact congrArg some (Zlm hr h)
 ·rw[dif_pos ⟨r,n,h⟩]
  have hex: ∃r n,ZhB step n s=some r:=⟨r,n,h⟩
  obtain⟨m,hm⟩:=hex.choose_spec
  exact congrArg some (Zlm hm h)
theorem Zo7 {s:σ} {r:τ} :run step s=some r↔ ∃n,ZhB step n s=some r:=⟨ZlF,fun⟨_,h⟩=>Zko h⟩
theorem Zbl (s:σ):run step s=(step s).bind fun o=>Sum.elim (run step) some o:=by
 apply Option.ext
 intro r
 rw[Zo7]
 cases hs:step s with
 |none=>
  simp only[Option.bind_none,reduceCtorEq,iff_false]
  rintro ⟨n,h⟩
  cases n with
  |zero=>simp [ZhB] at h
  |succ n=>rw[ZcV,hs] at h;simp at h
 |some o=>
  simp only[Option.bind_some]
  cases o with
  |inl s' =>
   simp only[Sum.elim_inl]
   rw[Zo7]
   constructor
   ·rintro ⟨n,h⟩
    cases n with
    |zero=>simp [ZhB] at h
    |succ n=>rw[ZcV,hs] at h;exact⟨n,h⟩
   ·rintro ⟨n,h⟩
    exact⟨n+1,by rw[ZcV,hs];exact h⟩
  |inr r' =>
   simp only[Sum.elim_inr]
   constructor
   ·rintro ⟨n,h⟩
    cases n with
    |zero=>simp [ZhB] at h
    |succ n=>rw[ZcV,hs] at h;exact h
   ·intro h
    exact⟨1,by rw[ZcV,hs];exact h⟩
theorem Zb7 {s s' :σ} (h:step s=some (.inl s')):run step s=run step s' :=by rw[Zbl,h];rfl
theorem Zbn {s:σ} {r:τ} (h:step s=some (.inr r)):run step s=some r:=by rw[Zbl,h];rfl
theorem Zmk {Inv:σ→Prop} {μ:σ→Nat} {Zhs:τ→Prop} (hstep: ∀s,Inv s→(∃s',step s=some (.inl s')∧Inv s' ∧μ s' <μ s)∨ ∃r,step s=some (.inr r)∧Zhs r):
  ∀s,Inv s→ ∃r,run step s=some r∧Zhs r:=by
 intro s
 generalize hm:μ s=m
 induction m using Nat.strongRecOn generalizing s with
 |ind m ih=>
  intro hI
  rcases hstep s hI with ⟨s',h1,h2,h3⟩ | ⟨r,h1,h2⟩
  ·obtain⟨r,h4,h5⟩:=ih (μ s') (hm▸h3) s' rfl h2
   exact⟨r,(Zb7 h1).trans h4,h5⟩
  ·exact⟨r,Zbn h1,h2⟩
theorem Za0 {ρ:Type} {s:σ} {f:τ→Option ρ} {Q:ρ→Prop} (Inv:σ→Prop) (μ:σ→Nat) (Zhs:τ→Prop) (h0:Inv s)
  (hstep: ∀s,Inv s→ ∃z,step s=some z∧Sum.elim (fun s' =>Inv s' ∧μ s' <μ s) Zhs z)
  (hpost: ∀r,Zhs r→ ∃z,f r=some z∧Q z): ∃z,Option.bind (run step s) f=some z∧Q z:=by
 obtain⟨r,h1,h2⟩:=Zmk (Inv:=Inv) (μ:=μ) (Zhs:=Zhs) (fun s hs=>by
  obtain⟨z,h1,h2⟩:=hstep s hs
  cases z with
  |inl s' =>exact .inl ⟨s',h1,h2⟩
  |inr r=>exact .inr ⟨r,h1,h2⟩) s h0
 rw[h1]
 exact hpost r h2
theorem run_bind {ρ:Type} {s:σ} {f:τ→Option ρ} {Q:ρ→Prop} (Inv:σ→Prop) (μ:σ→Nat) (Zhs:τ→Prop) (h0:Inv s)
  (hstep: ∀s,Inv s→(∃s',step s=some (.inl s')∧Inv s' ∧μ s' <μ s)∨ ∃r,step s=some (.inr r)∧Zhs r)
  (hpost: ∀r,Zhs r→ ∃z,f r=some z∧Q z): ∃z,Option.bind (run step s) f=some z∧Q z:=by
 obtain⟨r,h1,h2⟩:=Zmk hstep s h0
 rw[h1]
 exact hpost r h2
end
theorem Za7 {α:Type} {l m:List α} (h:l.length+m.length≤4294967296):Zaq (decide (l.length+m.length≤Zas))=some ():=by
 rw[decide_eq_true (show l.length+m.length≤Zas from h)];rfl
theorem Zat {x:Int} (h1: -9223372036854775808≤x) (h2:x≤9223372036854775807):IntKind.wrap .i64 x=x:=by
 simp [IntKind.wrap,IntKind.signed,IntKind.bits]
 split<;>omega
theorem Zah {α:Type} {xs:List α} {i:Nat} (h:i<xs.length):idx xs (i:Int)=some xs[i]:=by
 unfold idx
 rw[if_pos (by omega)]
 simp [h]
theorem Zb2 {α:Type} {xs:List α} {i:Int} (h0:0≤i) (h:i.toNat<xs.length):idx xs i=some xs[i.toNat]:=by
 unfold idx
 rw[if_pos h0]
 simp [h]
theorem ZaQ {i:Nat} {n:Nat} (h:i<n):inb (i:Int) n=some i:=by
 unfold inb
 rw[if_pos (by omega)]
 simp
end Tr
