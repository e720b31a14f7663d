/- Counting bits: taking the lowest one away again and again, and looking at each place. Plain Lean. Conditions: none. -/
open Nat renaming testBit_succ ->Va,shiftRight_eq_div_pow ->Vb,testBit_and ->Vc,eq_of_testBit_eq ->Vd,pow_succ ->Ve
namespace Tr
def Jl:Nat->Nat->Nat
 |0,_=>0
 |k+1,s=>if s=0 then 0 else 1+Jl k (s &&& (s - 1))
def Y6:Nat->Nat->Nat
 |0,_=>0
 |k+1,s=>Y6 k s+(s >>> k) % 2
def Y7:Nat->Nat->Nat
 |0,_=>0
 |k+1,s=>s % 2+Y7 k (s / 2)
theorem ZtH(s k:Nat):s >>> (k+1)=(s / 2) >>> k:=by rw[Vb,Vb,Nat.div_div_eq_div_mul,Ve,Nat.mul_comm]
theorem ZiW:∀(k s:Nat),Y6 (k+1) s=s % 2+Y6 k (s / 2)
 |0,s=>by simp [Y6]
 |k+1,s=>by rw[Y6,ZiW k s,ZtH,Nat.add_assoc];rfl
theorem ZiV:∀(k s:Nat),Y6 k s=Y7 k s
 |0,_=>rfl
 |k+1,s=>by rw[ZiW,ZiV k,Y7]
theorem Zjn:∀(k m s:Nat),s<2 ^ k->k<=m->Y7 m s=Y7 k s
 |0,m,s,h,_=>by
  have:s=0:=by simpa using h
  subst this
  have b:∀m,Y7 m 0=0:=by
   intro m
   induction m with
   |zero=>rfl
   |succ m c=>rw[Y7];simpa using c
  rw[b,b]
 |k+1,m,s,h,d=>by obtain⟨a,rfl⟩:∃a,m=a+1:=⟨m - 1,by omega⟩;rw[Y7,Y7,Zjn k a (s / 2) (by rw[Ve]at h;omega) (by omega)]
theorem Zob(t:Nat)(h:0<t):(2*t) &&& (2*t - 1)=2* (t &&& (t - 1)):=by
 apply Vd;intro i;rw[Vc]
 cases i with
 |zero=>simp
 |succ i=>
  rw[Va,Va,Va,show 2*t / 2=t by omega,show (2*t - 1) / 2=t - 1 by omega,show 2* (t &&& (t - 1)) / 2=(t &&& (t - 1)) by omega,Vc]
theorem Zod(t:Nat):(2*t+1) &&& (2*t+1 - 1)=2*t:=by
 apply Vd;intro i;rw[Vc,Nat.add_sub_cancel]
 cases i with
 |zero=>simp
 |succ i=>
  rw[Va,Va,show (2*t+1) / 2=t by omega,show 2*t / 2=t by omega,Bool.and_self]
theorem Zg5:∀(m t:Nat),Jl m (2*t)=Jl m t
 |0,_=>rfl
 |m+1,t=>by
  rw[Jl,Jl];by_cases h:t=0
  ·subst h;rfl
  ·rw[if_neg (by omega),if_neg h,Zob t (by omega),Zg5 m]
theorem Zbc:∀(k m s:Nat),s<2 ^ k->k<=m->Jl m s=Y7 k s
 |0,m,s,h,_=>by
  have:s=0:=by simpa using h
  subst this
  cases m<;>simp [Jl,Y7]
 |k+1,m,s,h,c=>by
  rw[Ve]at h;rw[Y7];by_cases b:s % 2=0
  ·obtain⟨t,rfl⟩:∃t,s=2*t:=⟨s / 2,by omega⟩;rw[Zg5,Zbc k m t (by omega) (by omega),show 2*t / 2=t by omega,b,Nat.zero_add]
  ·obtain⟨t,rfl⟩:∃t,s=2*t+1:=⟨s / 2,by omega⟩;obtain⟨a,rfl⟩:∃a,m=a+1:=⟨m - 1,by omega⟩;rw[Jl,if_neg (by omega),Zod,Zg5,Zbc k a t (by omega) (by omega),show (2*t+1) / 2=t by omega,show (2*t+1) % 2=1 by omega]
theorem Zsw{s:Nat}(h:s<2 ^ 16):Jl 64 s=Y6 62 s:=by rw[Zbc 16 64 s h (by omega),ZiV,Zjn 16 62 s h (by omega)]
theorem Zoc{s:Nat}(h:s≠0):s &&& (s - 1)<s:=Nat.lt_of_le_of_lt Nat.and_le_right (by omega)
end Tr
