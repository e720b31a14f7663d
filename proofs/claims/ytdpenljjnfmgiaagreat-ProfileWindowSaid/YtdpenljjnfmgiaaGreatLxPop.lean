/- Counting bits: taking the lowest one away again and again, and looking at each place. Plain Lean. Conditions: none. -/
open Nat renaming testBit_succ ->Va,shiftRight_eq_div_pow ->Vb,testBit_and ->Vc,eq_of_testBit_eq ->Vd
namespace Tr
def Jz:Nat->Nat->Nat
 |0,_=>0
 |k+1,s=>if s=0 then 0 else 1+Jz k (s &&&(s - 1))
def Ws:Nat->Nat->Nat
 |0,_=>0
 |k+1,s=>Ws k s+(s >>> k) % 2
def HK:Nat->Nat->Nat
 |0,_=>0
 |k+1,s=>s % 2+HK k (s / 2)
theorem ZyR s k:s >>> (k+1)=(s / 2) >>> k:=by rw[Vb,Vb,Nat.div_div_eq_div_mul,Nat.pow_succ,Nat.mul_comm]
theorem ZlO:∀k s,Ws (k+1) s=s % 2+Ws k (s / 2)
 |0,s=>by simp[Ws]
 |k+1,s=>by rw[Ws,ZlO k s,ZyR,Nat.add_assoc];rfl
theorem Zfm:∀k s,Ws k s=HK k s
 |0,_=>rfl
 |k+1,s=>by rw[ZlO,Zfm k,HK]
theorem ZiB:∀k m s,s<2 ^ k->k<=m->HK m s=HK k s
 |0,m,s,h,_=>by
  have:s=0:=by simpa using h
  subst this;have b:∀m,HK m 0=0:=by
   intro m
   induction m with
   |zero=>rfl
   |succ m c=>rw[HK];simpa using c
  rw[b,b]
 |k+1,m,s,h,d=>by obtain⟨a,rfl⟩:∃a,m=a+1:=⟨m - 1,by omega⟩;rw[HK,HK,ZiB k a (s / 2) (by omega) (by omega)]
theorem ZrY t(h:0<t):(2*t)&&&(2*t - 1)=2* (t &&&(t - 1)):=by
 apply Vd;intro i;rw[Vc]
 cases i with
 |zero=>simp
 |succ i=>
  rw[Va,Va,Va,show 2*t / 2=t by omega,show (2*t - 1) / 2=t - 1 by omega,show 2* (t &&&(t - 1)) / 2=(t &&&(t - 1)) by omega,Vc]
theorem Zr0 t:(2*t+1)&&&(2*t+1 - 1)=2*t:=by
 apply Vd;intro i;rw[Vc,Nat.add_sub_cancel]
 cases i with
 |zero=>simp
 |succ i=>
  rw[Va,Va,show (2*t+1) / 2=t by omega,show 2*t / 2=t by omega,Bool.and_self]
theorem Zj3:∀m t,Jz m (2*t)=Jz m t
 |0,_=>rfl
 |m+1,t=>by
  rw[Jz,Jz];by_cases h:t=0;.subst h;rfl
  rw[if_neg (by omega),if_neg h,ZrY t (by omega),Zj3 m]
theorem Zc1:∀k m s,s<2 ^ k->k<=m->Jz m s=HK k s
 |0,m,s,h,_=>by
  have:s=0:=by simpa using h
  subst this
  cases m<;>simp[Jz,HK]
 |k+1,m,s,h,c=>by
  rw[HK];by_cases b:s % 2=0;.obtain⟨t,rfl⟩:∃t,s=2*t:=⟨s / 2,by omega⟩;rw[Zj3,Zc1 k m t (by omega) (by omega),show 2*t / 2=t by omega,b,Nat.zero_add]
  obtain⟨t,rfl⟩:∃t,s=2*t+1:=⟨s / 2,by omega⟩;obtain⟨a,rfl⟩:∃a,m=a+1:=⟨m - 1,by omega⟩;rw[Jz,if_neg (by omega),Zr0,Zj3,Zc1 k a t (by omega) (by omega),show (2*t+1) / 2=t by omega,show (2*t+1) % 2=1 by omega]
theorem Zxx{s}(h:s<2 ^ 16):Jz 64 s=Ws 62 s:=by rw[Zc1 16 64 s h (by omega),Zfm,ZiB 16 62 s h (by omega)]
theorem ZrZ{s}(h:s≠0):s &&&(s - 1)<s:=Nat.lt_of_le_of_lt Nat.and_le_right (by omega)
end Tr
