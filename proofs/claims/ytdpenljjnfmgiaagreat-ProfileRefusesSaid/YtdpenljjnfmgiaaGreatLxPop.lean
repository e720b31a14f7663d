/- Counting bits: taking the lowest one away again and again, and looking at each place. Plain Lean. Conditions: none. -/
open Nat renaming testBit_succ ->Va,testBit_and ->Vb,eq_of_testBit_eq ->Vc
namespace Tr
def ZgH:Nat->Nat->Nat
 |0,_=>0
 |k+1,s=>if s=0 then 0 else 1+ZgH k (s &&& (s - 1))
def Zqd:Nat->Nat->Nat
 |0,_=>0
 |k+1,s=>s % 2+Zqd k (s / 2)
theorem ZoU(t:Nat)(h:0<t): (2*t) &&& (2*t - 1)=2* (t &&& (t - 1)):=by
 apply Vc;intro i;rw[Vb]
 cases i with
 |zero=>simp
 |succ i=>
  rw[Va,Va,Va,show 2*t / 2=t by omega,show (2*t - 1) / 2=t - 1 by omega,show 2* (t &&& (t - 1)) / 2=(t &&& (t - 1)) by omega,Vb]
theorem ZpD(t:Nat): (2*t+1) &&& (2*t+1 - 1)=2*t:=by
 apply Vc;intro i;rw[Vb,Nat.add_sub_cancel]
 cases i with
 |zero=>simp
 |succ i=>
  rw[Va,Va,show (2*t+1) / 2=t by omega,show 2*t / 2=t by omega,Bool.and_self]
theorem Zet: ∀ (m t:Nat),ZgH m (2*t)=ZgH m t
 |0,_=>rfl
 |m+1,t=>by
  rw[ZgH,ZgH];by_cases h:t=0
  ·subst h;rfl
  ·rw[if_neg (by omega),if_neg h,ZoU t (by omega),Zet m]
theorem ZeF: ∀ (k m s:Nat),s<2 ^ k->k<=m->ZgH m s=Zqd k s
 |0,m,s,h,_=>by
  have:s=0:=by simpa using h
  subst this
  cases m<;>simp [ZgH,Zqd]
 |k+1,m,s,h,hm=>by
  rw[Nat.pow_succ]at h;rw[Zqd];by_cases h2:s % 2=0
  ·obtain⟨t,rfl⟩: ∃t,s=2*t:=⟨s / 2,by omega⟩;rw[Zet,ZeF k m t (by omega) (by omega),show 2*t / 2=t by omega,h2,Nat.zero_add]
  ·obtain⟨t,rfl⟩: ∃t,s=2*t+1:=⟨s / 2,by omega⟩;obtain⟨m',rfl⟩: ∃m',m=m' +1:=⟨m - 1,by omega⟩;rw[ZgH,if_neg (by omega),ZpD,Zet,ZeF k m' t (by omega) (by omega),show (2*t+1) / 2=t by omega,show (2*t+1) % 2=1 by omega]
theorem ZqL{s:Nat}(h:s≠0):s &&& (s - 1)<s:=Nat.lt_of_le_of_lt Nat.and_le_right (by omega)
end Tr
