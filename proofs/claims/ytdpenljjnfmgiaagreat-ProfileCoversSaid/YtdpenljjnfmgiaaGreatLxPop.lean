/- Counting bits: taking the lowest one away again and again, and looking at each place. Plain Lean. Conditions: none. -/
open Nat renaming testBit_succ ->Va,shiftRight_eq_div_pow ->Vb,testBit_and ->Vc,eq_of_testBit_eq ->Vd,pow_succ ->Ve
namespace Tr
def Jv:Nat->Nat->Nat
 |0,_=>0
 |k+1,s=>if s=0 then 0 else 1+Jv k (s &&&(s - 1))
def Ws:Nat->Nat->Nat
 |0,_=>0
 |k+1,s=>Ws k s+(s >>> k) % 2
def Hj:Nat->Nat->Nat
 |0,_=>0
 |k+1,s=>s % 2+Hj k (s / 2)
theorem Zwv(s k:Nat):s >>> (k+1)=(s / 2) >>> k:=by rw[Vb,Vb,Nat.div_div_eq_div_mul,Ve,Nat.mul_comm]
theorem Zkg:∀(k s:Nat),Ws (k+1) s=s % 2+Ws k (s / 2)
 |0,s=>by simp [Ws]
 |k+1,s=>by rw[Ws,Zkg k s,Zwv,Nat.add_assoc];rfl
theorem Zeh:∀(k s:Nat),Ws k s=Hj k s
 |0,_=>rfl
 |k+1,s=>by rw[Zkg,Zeh k,Hj]
theorem Zhe:∀(k m s:Nat),s<2 ^ k->k<=m->Hj m s=Hj k s
 |0,m,s,h,_=>by
  have:s=0:=by simpa using h
  subst this;have b:∀m,Hj m 0=0:=by
   intro m
   induction m with
   |zero=>rfl
   |succ m c=>rw[Hj];simpa using c
  rw[b,b]
 |k+1,m,s,h,d=>by obtain⟨a,rfl⟩:∃a,m=a+1:=⟨m - 1,by omega⟩;rw[Hj,Hj,Zhe k a (s / 2) (by rw[Ve]at h;omega) (by omega)]
theorem ZpM(t:Nat)(h:0<t):(2*t)&&&(2*t - 1)=2* (t &&&(t - 1)):=by
 apply Vd;intro i;rw[Vc]
 cases i with
 |zero=>simp
 |succ i=>
  rw[Va,Va,Va,show 2*t / 2=t by omega,show (2*t - 1) / 2=t - 1 by omega,show 2* (t &&&(t - 1)) / 2=(t &&&(t - 1)) by omega,Vc]
theorem ZpO(t:Nat):(2*t+1)&&&(2*t+1 - 1)=2*t:=by
 apply Vd;intro i;rw[Vc,Nat.add_sub_cancel]
 cases i with
 |zero=>simp
 |succ i=>
  rw[Va,Va,show (2*t+1) / 2=t by omega,show 2*t / 2=t by omega,Bool.and_self]
theorem ZiB:∀(m t:Nat),Jv m (2*t)=Jv m t
 |0,_=>rfl
 |m+1,t=>by
  rw[Jv,Jv];by_cases h:t=0
  ·subst h;rfl
  ·rw[if_neg (by omega),if_neg h,ZpM t (by omega),ZiB m]
theorem Zb0:∀(k m s:Nat),s<2 ^ k->k<=m->Jv m s=Hj k s
 |0,m,s,h,_=>by
  have:s=0:=by simpa using h
  subst this
  cases m<;>simp [Jv,Hj]
 |k+1,m,s,h,c=>by
  rw[Ve]at h;rw[Hj];by_cases b:s % 2=0
  ·obtain⟨t,rfl⟩:∃t,s=2*t:=⟨s / 2,by omega⟩;rw[ZiB,Zb0 k m t (by omega) (by omega),show 2*t / 2=t by omega,b,Nat.zero_add]
  ·obtain⟨t,rfl⟩:∃t,s=2*t+1:=⟨s / 2,by omega⟩;obtain⟨a,rfl⟩:∃a,m=a+1:=⟨m - 1,by omega⟩;rw[Jv,if_neg (by omega),ZpO,ZiB,Zb0 k a t (by omega) (by omega),show (2*t+1) / 2=t by omega,show (2*t+1) % 2=1 by omega]
theorem Zvg{s:Nat}(h:s<2 ^ 16):Jv 64 s=Ws 62 s:=by rw[Zb0 16 64 s h (by omega),Zeh,Zhe 16 62 s h (by omega)]
theorem ZpN{s:Nat}(h:s≠0):s &&&(s - 1)<s:=Nat.lt_of_le_of_lt Nat.and_le_right (by omega)
end Tr
