/- Counting bits: taking the lowest one away again and again, and looking at each place. Plain Lean. Conditions: none. -/
open Nat renaming testBit_succ ->Va,testBit_and ->Vb,eq_of_testBit_eq ->Vc
namespace Tr
def ZfB:Nat->Nat->Nat
 |0,_=>0
 |k+1,s=>if s=0 then 0 else 1+ZfB k (s &&& (s - 1))
def Znv:Nat->Nat->Nat
 |0,_=>0
 |k+1,s=>s % 2+Znv k (s / 2)
theorem Zmb(t:Nat)(h:0<t): (2*t) &&& (2*t - 1)=2* (t &&& (t - 1)):=by
 apply Vc;intro i;rw[Vb]
 cases i with
 |zero=>simp
 |succ i=>
  rw[Va,Va,Va,show 2*t / 2=t by omega,show (2*t - 1) / 2=t - 1 by omega,show 2* (t &&& (t - 1)) / 2=(t &&& (t - 1)) by omega,Vb]
theorem Zm6(t:Nat): (2*t+1) &&& (2*t+1 - 1)=2*t:=by
 apply Vc;intro i;rw[Vb,Nat.add_sub_cancel]
 cases i with
 |zero=>simp
 |succ i=>
  rw[Va,Va,show (2*t+1) / 2=t by omega,show 2*t / 2=t by omega,Bool.and_self]
theorem ZdC: ∀ (m t:Nat),ZfB m (2*t)=ZfB m t
 |0,_=>rfl
 |m+1,t=>by
  rw[ZfB,ZfB];by_cases h:t=0
  ·subst h;rfl
  ·rw[if_neg (by omega),if_neg h,Zmb t (by omega),ZdC m]
theorem ZdZ: ∀ (k m s:Nat),s<2 ^ k->k<=m->ZfB m s=Znv k s
 |0,m,s,h,_=>by
  have:s=0:=by simpa using h
  subst this
  cases m<;>simp [ZfB,Znv]
 |k+1,m,s,h,hm=>by
  rw[Nat.pow_succ]at h;rw[Znv];by_cases h2:s % 2=0
  ·obtain⟨t,rfl⟩: ∃t,s=2*t:=⟨s / 2,by omega⟩;rw[ZdC,ZdZ k m t (by omega) (by omega),show 2*t / 2=t by omega,h2,Nat.zero_add]
  ·obtain⟨t,rfl⟩: ∃t,s=2*t+1:=⟨s / 2,by omega⟩;obtain⟨m',rfl⟩: ∃m',m=m' +1:=⟨m - 1,by omega⟩;rw[ZfB,if_neg (by omega),Zm6,ZdC,ZdZ k m' t (by omega) (by omega),show (2*t+1) / 2=t by omega,show (2*t+1) % 2=1 by omega]
theorem Zn1{s:Nat}(h:s≠0):s &&& (s - 1)<s:=Nat.lt_of_le_of_lt Nat.and_le_right (by omega)
end Tr
