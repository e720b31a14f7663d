/- Counting bits: taking the lowest one away again and again, and looking at each place. Plain Lean. Conditions: none. -/
open Nat renaming testBit_succ ->Va,shiftRight_eq_div_pow ->Vb,testBit_and ->Vc,eq_of_testBit_eq ->Vd,pow_succ ->Ve
namespace Tr
def Jh:Nat->Nat->Nat
 |0,_=>0
 |k+1,s=>if s=0 then 0 else 1+Jh k (s &&& (s - 1))
def G3:Nat->Nat->Nat
 |0,_=>0
 |k+1,s=>G3 k s+(s >>> k) % 2
def YR:Nat->Nat->Nat
 |0,_=>0
 |k+1,s=>s % 2+YR k (s / 2)
theorem Zty(s k:Nat):s >>> (k+1)=(s / 2) >>> k:=by rw[Vb,Vb,Nat.div_div_eq_div_mul,Ve,Nat.mul_comm]
theorem ZiJ:∀(k s:Nat),G3 (k+1) s=s % 2+G3 k (s / 2)
 |0,s=>by simp [G3]
 |k+1,s=>by rw[G3,ZiJ k s,Zty,Nat.add_assoc];rfl
theorem ZiI:∀(k s:Nat),G3 k s=YR k s
 |0,_=>rfl
 |k+1,s=>by rw[ZiJ,ZiI k,YR]
theorem Zjg:∀(k m s:Nat),s<2 ^ k->k<=m->YR m s=YR k s
 |0,m,s,h,_=>by
  have:s=0:=by simpa using h
  subst this
  have b:∀m,YR m 0=0:=by
   intro m
   induction m with
   |zero=>rfl
   |succ m c=>rw[YR];simpa using c
  rw[b,b]
 |k+1,m,s,h,d=>by obtain⟨a,rfl⟩:∃a,m=a+1:=⟨m - 1,by omega⟩;rw[YR,YR,Zjg k a (s / 2) (by rw[Ve]at h;omega) (by omega)]
theorem Zny(t:Nat)(h:0<t):(2*t) &&& (2*t - 1)=2* (t &&& (t - 1)):=by
 apply Vd;intro i;rw[Vc]
 cases i with
 |zero=>simp
 |succ i=>
  rw[Va,Va,Va,show 2*t / 2=t by omega,show (2*t - 1) / 2=t - 1 by omega,show 2* (t &&& (t - 1)) / 2=(t &&& (t - 1)) by omega,Vc]
theorem ZnA(t:Nat):(2*t+1) &&& (2*t+1 - 1)=2*t:=by
 apply Vd;intro i;rw[Vc,Nat.add_sub_cancel]
 cases i with
 |zero=>simp
 |succ i=>
  rw[Va,Va,show (2*t+1) / 2=t by omega,show 2*t / 2=t by omega,Bool.and_self]
theorem Zg4:∀(m t:Nat),Jh m (2*t)=Jh m t
 |0,_=>rfl
 |m+1,t=>by
  rw[Jh,Jh];by_cases h:t=0
  ·subst h;rfl
  ·rw[if_neg (by omega),if_neg h,Zny t (by omega),Zg4 m]
theorem ZaZ:∀(k m s:Nat),s<2 ^ k->k<=m->Jh m s=YR k s
 |0,m,s,h,_=>by
  have:s=0:=by simpa using h
  subst this
  cases m<;>simp [Jh,YR]
 |k+1,m,s,h,c=>by
  rw[Ve]at h;rw[YR];by_cases b:s % 2=0
  ·obtain⟨t,rfl⟩:∃t,s=2*t:=⟨s / 2,by omega⟩;rw[Zg4,ZaZ k m t (by omega) (by omega),show 2*t / 2=t by omega,b,Nat.zero_add]
  ·obtain⟨t,rfl⟩:∃t,s=2*t+1:=⟨s / 2,by omega⟩;obtain⟨a,rfl⟩:∃a,m=a+1:=⟨m - 1,by omega⟩;rw[Jh,if_neg (by omega),ZnA,Zg4,ZaZ k a t (by omega) (by omega),show (2*t+1) / 2=t by omega,show (2*t+1) % 2=1 by omega]
theorem Zsq{s:Nat}(h:s<2 ^ 16):Jh 64 s=G3 62 s:=by rw[ZaZ 16 64 s h (by omega),ZiI,Zjg 16 62 s h (by omega)]
theorem Znz{s:Nat}(h:s≠0):s &&& (s - 1)<s:=Nat.lt_of_le_of_lt Nat.and_le_right (by omega)
end Tr
