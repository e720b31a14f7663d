/- Counting bits: taking the lowest one away again and again, and looking at each place. Plain Lean. Conditions: none. -/
open Nat renaming testBit_succ ->Va,shiftRight_eq_div_pow ->Vb,testBit_and ->Vc,eq_of_testBit_eq ->Vd,pow_succ ->Ve
namespace Tr
def Jj:Nat->Nat->Nat
 |0,_=>0
 |k+1,s=>if s=0 then 0 else 1+Jj k (s &&& (s - 1))
def Wi:Nat->Nat->Nat
 |0,_=>0
 |k+1,s=>Wi k s+(s >>> k) % 2
def YW:Nat->Nat->Nat
 |0,_=>0
 |k+1,s=>s % 2+YW k (s / 2)
theorem Zti(s k:Nat):s >>> (k+1)=(s / 2) >>> k:=by rw[Vb,Vb,Nat.div_div_eq_div_mul,Ve,Nat.mul_comm]
theorem ZiJ:∀(k s:Nat),Wi (k+1) s=s % 2+Wi k (s / 2)
 |0,s=>by simp [Wi]
 |k+1,s=>by rw[Wi,ZiJ k s,Zti,Nat.add_assoc];rfl
theorem Zdj:∀(k s:Nat),Wi k s=YW k s
 |0,_=>rfl
 |k+1,s=>by rw[ZiJ,Zdj k,YW]
theorem ZfS:∀(k m s:Nat),s<2 ^ k->k<=m->YW m s=YW k s
 |0,m,s,h,_=>by
  have:s=0:=by simpa using h
  subst this
  have b:∀m,YW m 0=0:=by
   intro m
   induction m with
   |zero=>rfl
   |succ m c=>rw[YW];simpa using c
  rw[b,b]
 |k+1,m,s,h,d=>by obtain⟨a,rfl⟩:∃a,m=a+1:=⟨m - 1,by omega⟩;rw[YW,YW,ZfS k a (s / 2) (by rw[Ve]at h;omega) (by omega)]
theorem ZnS(t:Nat)(h:0<t):(2*t) &&& (2*t - 1)=2* (t &&& (t - 1)):=by
 apply Vd;intro i;rw[Vc]
 cases i with
 |zero=>simp
 |succ i=>
  rw[Va,Va,Va,show 2*t / 2=t by omega,show (2*t - 1) / 2=t - 1 by omega,show 2* (t &&& (t - 1)) / 2=(t &&& (t - 1)) by omega,Vc]
theorem ZnU(t:Nat):(2*t+1) &&& (2*t+1 - 1)=2*t:=by
 apply Vd;intro i;rw[Vc,Nat.add_sub_cancel]
 cases i with
 |zero=>simp
 |succ i=>
  rw[Va,Va,show (2*t+1) / 2=t by omega,show 2*t / 2=t by omega,Bool.and_self]
theorem Zg6:∀(m t:Nat),Jj m (2*t)=Jj m t
 |0,_=>rfl
 |m+1,t=>by
  rw[Jj,Jj];by_cases h:t=0
  ·subst h;rfl
  ·rw[if_neg (by omega),if_neg h,ZnS t (by omega),Zg6 m]
theorem Zba:∀(k m s:Nat),s<2 ^ k->k<=m->Jj m s=YW k s
 |0,m,s,h,_=>by
  have:s=0:=by simpa using h
  subst this
  cases m<;>simp [Jj,YW]
 |k+1,m,s,h,c=>by
  rw[Ve]at h;rw[YW];by_cases b:s % 2=0
  ·obtain⟨t,rfl⟩:∃t,s=2*t:=⟨s / 2,by omega⟩;rw[Zg6,Zba k m t (by omega) (by omega),show 2*t / 2=t by omega,b,Nat.zero_add]
  ·obtain⟨t,rfl⟩:∃t,s=2*t+1:=⟨s / 2,by omega⟩;obtain⟨a,rfl⟩:∃a,m=a+1:=⟨m - 1,by omega⟩;rw[Jj,if_neg (by omega),ZnU,Zg6,Zba k a t (by omega) (by omega),show (2*t+1) / 2=t by omega,show (2*t+1) % 2=1 by omega]
theorem Zr3{s:Nat}(h:s<2 ^ 16):Jj 64 s=Wi 62 s:=by rw[Zba 16 64 s h (by omega),Zdj,ZfS 16 62 s h (by omega)]
theorem ZnT{s:Nat}(h:s≠0):s &&& (s - 1)<s:=Nat.lt_of_le_of_lt Nat.and_le_right (by omega)
end Tr
