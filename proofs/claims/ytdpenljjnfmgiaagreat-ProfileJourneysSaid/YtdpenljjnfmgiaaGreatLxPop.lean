/- Counting bits: taking the lowest one away again and again, and looking at each place. Plain Lean. Conditions: none. -/
open Nat renaming testBit_succ ->Va,shiftRight_eq_div_pow ->Vb,testBit_and ->Vc,eq_of_testBit_eq ->Vd,pow_succ ->Ve
namespace Tr
def Jw:Nat->Nat->Nat
 |0,_=>0
 |k+1,s=>if s=0 then 0 else 1+Jw k (s &&& (s - 1))
def X9:Nat->Nat->Nat
 |0,_=>0
 |k+1,s=>X9 k s+(s >>> k) % 2
def Hi:Nat->Nat->Nat
 |0,_=>0
 |k+1,s=>s % 2+Hi k (s / 2)
theorem ZvK(s k:Nat):s >>> (k+1)=(s / 2) >>> k:=by rw[Vb,Vb,Nat.div_div_eq_div_mul,Ve,Nat.mul_comm]
theorem ZjS:∀(k s:Nat),X9 (k+1) s=s % 2+X9 k (s / 2)
 |0,s=>by simp [X9]
 |k+1,s=>by rw[X9,ZjS k s,ZvK,Nat.add_assoc];rfl
theorem ZjR:∀(k s:Nat),X9 k s=Hi k s
 |0,_=>rfl
 |k+1,s=>by rw[ZjS,ZjR k,Hi]
theorem Zks:∀(k m s:Nat),s<2 ^ k->k<=m->Hi m s=Hi k s
 |0,m,s,h,_=>by
  have:s=0:=by simpa using h
  subst this
  have b:∀m,Hi m 0=0:=by
   intro m
   induction m with
   |zero=>rfl
   |succ m c=>rw[Hi];simpa using c
  rw[b,b]
 |k+1,m,s,h,d=>by obtain⟨a,rfl⟩:∃a,m=a+1:=⟨m - 1,by omega⟩;rw[Hi,Hi,Zks k a (s / 2) (by rw[Ve]at h;omega) (by omega)]
theorem Zpe(t:Nat)(h:0<t):(2*t) &&& (2*t - 1)=2* (t &&& (t - 1)):=by
 apply Vd;intro i;rw[Vc]
 cases i with
 |zero=>simp
 |succ i=>
  rw[Va,Va,Va,show 2*t / 2=t by omega,show (2*t - 1) / 2=t - 1 by omega,show 2* (t &&& (t - 1)) / 2=(t &&& (t - 1)) by omega,Vc]
theorem Zpg(t:Nat):(2*t+1) &&& (2*t+1 - 1)=2*t:=by
 apply Vd;intro i;rw[Vc,Nat.add_sub_cancel]
 cases i with
 |zero=>simp
 |succ i=>
  rw[Va,Va,show (2*t+1) / 2=t by omega,show 2*t / 2=t by omega,Bool.and_self]
theorem Zic:∀(m t:Nat),Jw m (2*t)=Jw m t
 |0,_=>rfl
 |m+1,t=>by
  rw[Jw,Jw];by_cases h:t=0
  ·subst h;rfl
  ·rw[if_neg (by omega),if_neg h,Zpe t (by omega),Zic m]
theorem Zb2:∀(k m s:Nat),s<2 ^ k->k<=m->Jw m s=Hi k s
 |0,m,s,h,_=>by
  have:s=0:=by simpa using h
  subst this
  cases m<;>simp [Jw,Hi]
 |k+1,m,s,h,c=>by
  rw[Ve]at h;rw[Hi];by_cases b:s % 2=0
  ·obtain⟨t,rfl⟩:∃t,s=2*t:=⟨s / 2,by omega⟩;rw[Zic,Zb2 k m t (by omega) (by omega),show 2*t / 2=t by omega,b,Nat.zero_add]
  ·obtain⟨t,rfl⟩:∃t,s=2*t+1:=⟨s / 2,by omega⟩;obtain⟨a,rfl⟩:∃a,m=a+1:=⟨m - 1,by omega⟩;rw[Jw,if_neg (by omega),Zpg,Zic,Zb2 k a t (by omega) (by omega),show (2*t+1) / 2=t by omega,show (2*t+1) % 2=1 by omega]
theorem Zuq{s:Nat}(h:s<2 ^ 16):Jw 64 s=X9 62 s:=by rw[Zb2 16 64 s h (by omega),ZjR,Zks 16 62 s h (by omega)]
theorem Zpf{s:Nat}(h:s≠0):s &&& (s - 1)<s:=Nat.lt_of_le_of_lt Nat.and_le_right (by omega)
end Tr
