/- Loops in plain Lean: with an invariant by rounds, and halving. Conditions: those of the theorems. -/
import Derived.Lib.ItoaLen
import Derived.Test.YtdpenljjnfmgiaaGreatTsH
import Derived.Test.YtdpenljjnfmgiaaGreatFin45b
import Derived.Test.YtdpenljjnfmgiaaGreatTsF
open Bool renaming not_false ->Vo,not_true ->Vq
open Int renaming toNat ->Vp,tdiv ->Vr
open Go.IntKind renaming wrap ->Vb,signed ->Vh,bits ->Vk
open List renaming length_set ->Vc,getElem?_eq_getElem ->Ve,length_cons ->Vf,append_nil ->Vg,length_append ->Vi,length_nil ->Vl,drop ->Vm,length_map ->Vn
open Nat renaming mod_eq_of_lt ->Vj
open Option renaming bind ->Va
open UInt8 renaming ofNat ->Vd
namespace Q
open Tr Go
open Option (bind_some)
theorem ZmH{σ τ:Type}{step:σ->Option (σ ⊕ τ)}(n:Nat)(P:τ->Prop)(Inv:Nat->σ->Prop)
  (hstep: ∀i s,i<n->Inv i s->(∃s',step s=some (.inl s')/\Inv (i+1) s')\/ ∃r,step s=some (.inr r)/\P r)
  (hend: ∀s,Inv n s-> ∃r,step s=some (.inr r)/\P r) (s:σ) (h0:Inv 0 s): ∃r,run step s=some r/\P r:=by
 have key: ∀ (k i:Nat) (s:σ),n - i=k->i<=n->Inv i s-> ∃r,run step s=some r/\P r:=by
  intro k
  induction k with
  |zero=>
   intro i s hk hi hs;have:i=n:=by omega
   subst this;obtain⟨r,h1,h2⟩:=hend s hs
   exact⟨r,ZdC h1,h2⟩
  |succ k ih=>
   intro i s hk hi hs;rcases hstep i s (by omega) hs with ⟨s',h1,h2⟩ | ⟨r,h1,h2⟩
   ·rw[Zgj h1];exact ih (i+1) s' (by omega) (by omega) h2
   ·exact⟨r,ZdC h1,h2⟩
 exact key n 0 s (by omega) (by omega) h0
theorem Zmh{α β:Type}{o:Option α}{f:α->Option β}{z:Option β}(P:α->Prop)(h: ∃r,o=some r/\P r)(k: ∀r,P r->f r=z):Va o f=z:=by obtain⟨r,rfl,hr⟩:=h;exact k r hr
end Q
namespace Q
open Tr Go Go.Lib
open Option (bind_some)
theorem Zhx{a b:List UInt8}(h:a.length+b.length<4611686018427387904):Tr.catStr a b=some (a++b):=by unfold Tr.catStr;rw[decide_eq_true (show a.length+b.length<2 ^ 62 by omega)];rfl
theorem ZgD(k:Nat):Int.tmod (k:Int) 10=((k % 10:Nat):Int):=rfl
theorem ZiD(k:Nat):Vr (k:Int) 10=((k / 10:Nat):Int):=rfl
theorem ZmW{step:Int×List UInt8->Option ((Int×List UInt8) ⊕ List UInt8)}
  (hs: ∀ (k:Nat) (t:List UInt8),10<=k->k<=9223372036854775807->t.length<=1000->step ((k:Int),t)=some (.inl (((k / 10:Nat):Int),[Vd (48+k / 10 % 10)]++t)))
  (he: ∀ (k:Nat) t,k<10->step ((k:Int),t)=some (.inr t)): ∀ (k:Nat) (t:List UInt8),k<=9223372036854775807->t.length+nDigits k<=1000->run step ((k:Int),[Vd (48+k % 10)]++t)=some (decDigits k++t):=by
 intro k
 induction k using Nat.strongRecOn with
 |_ k ih=>
  intro t hk ht;by_cases h0:k<10
  ·rw[ZdC (he k _ h0),decDigits_one h0,Vj h0]
  ·have hp:=nDigits_pos (k / 10);rw[nDigits_big h0]at ht;rw[Zgj (hs k _ (by omega) hk (by simp;omega)),ih (k / 10) (by omega) _ (by omega) (by simp;omega),decDigits.eq_1 k,dif_neg h0];simp
end Q
namespace Q
open Tr Go
open Option (bind_some)
abbrev CoT:=Int×Int×Int×Int×Int×Unit
abbrev OpT:=El Y53
theorem Zk5{i n:Nat}(h:i<n)(hn:n<=9223372036854775807):Vb .i64 ((i:Int)+1)=((i+1:Nat):Int):=by rw[ZcG (by omega) (by omega)];omega
theorem ltD{i n:Nat}(h:i<n):decide ((i:Int)< (n:Int))=true:=decide_eq_true (by omega)
theorem Zn3(n:Nat):decide ((n:Int)< (n:Int))=false:=decide_eq_false (by omega)
def opt(c:CoT):OpT:=((([]:List (El Y82)),()),c,([]:List (El Zi3)),())
theorem ZhV(l:List CoT)(h:l.length<=20):F49 l=some (l.map opt):=by
 unfold F49;refine Zmh (fun r=>r=l.map opt) (ZmH l.length _ (fun i (s:List OpT×Int)=>s=((l.take i).map opt,(i:Int))) ?_ ?_ _ rfl) (fun r hr=>by rw[hr])
 ·rintro i _ hi rfl;refine .inl ⟨_, ?_,rfl⟩;simp only[ltD hi,cond_true,Zdx hi,bind_some];rw[decide_eq_true (by unfold ZaE;simp only[Vn,List.length_take,Vf,Vl];omega)];simp only[Zav,cond_true,bind_some];rw[Zk5 hi (by omega),List.take_add_one,Ve hi];simp only[List.map_append,Option.toList_some,List.map_cons,List.map_nil];rfl
 ·rintro _ rfl;refine⟨_, ?_,rfl⟩;simp only[Zn3,cond_false,List.take_length]
end Q
namespace Q
open Tr Go Go.Lib
open Option (bind_some)
theorem Ziu(d:Nat)(h:d<10):Tr.bytesOf [Vb .u8 (Vb .i64 ((48:Int)+(d:Int)))]=[Vd (48+d)]:=by
 rw[ZcG (by omega) (by omega)]
 have e:Vb .u8 ((48:Int)+(d:Int))=((48+d:Nat):Int):=by simp [Vb,Vh,Vk];omega
 rw[e];rfl
theorem ZfK(k:Nat)(hk:k<=9223372036854775807):F81 (k:Int)=some (decDigits k):=by
 unfold F81;rw[ZgD,Ziu _ (by omega)];have hd:=nDigits_le20 k (by omega)
 have:=ZmW (step:=fun s0:Int×List UInt8=>
 bif decide ((10:Int)<=s0.1) then
 Va
 (Tr.catStr (Tr.bytesOf [Vb .u8 (Vb .i64 ((48:Int)+Int.tmod (Vb .i64 (Vr s0.1 (10:Int))) (10:Int)))])
 s0.2)
 fun x1=>some (.inl (Vb .i64 (Vr s0.1 (10:Int)),x1))
 else some (.inr s0.2)) ?_ ?_ k [] hk (by simp;omega)
 ·rw[Vg]at this;rw[this];simp only[bind_some,Vg]
 ·intro k t h0 hk ht;simp only[decide_eq_true (show (10:Int)<=(k:Int) by omega),cond_true,ZiD];rw[ZcG (x:=((k / 10:Nat):Int)) (by omega) (by omega),ZgD,Ziu _ (by omega),Zhx (by simp;omega)];rfl
 ·intro k t h;simp only[decide_eq_false (show¬ (10:Int)<=(k:Int) by omega),cond_false]
theorem Zla:itoa (-9223372036854775808)=[45,57,50,50,51,51,55,50,48,51,54,56,53,52,55,55,53,56,48,56]:=by have:=itoa_neg 9223372036854775808 (by omega);rw[show (-9223372036854775808:Int)= -((9223372036854775808:Nat):Int) from rfl,this];simp [decDigits]
theorem Zi9(x:Int)(h1: -9223372036854775808<=x)(h2:x<=9223372036854775807):F80 x=some (itoa x):=by
 unfold F80;by_cases hm:x= -9223372036854775808
 ·subst hm;rw[decide_eq_true rfl,Zla];rfl
 rw[decide_eq_false hm];by_cases hx:x<0
 ·rw[decide_eq_true hx];obtain⟨k,rfl⟩: ∃k:Nat,x= -(k:Int):=⟨x.natAbs,by omega⟩;have hd:=nDigits_le20 k (by omega);simp only[cond_false,cond_true];rw[ZcG (by omega) (by omega),show (0:Int) - -(k:Int)=(k:Int) by omega,ZfK k (by omega)];simp only[bind_some];rw[Zhx (by rw[decDigits_length];simp;omega),itoa_neg k (by omega)];rfl
 ·rw[decide_eq_false hx];obtain⟨k,rfl⟩: ∃k:Nat,x=(k:Int):=⟨x.toNat,by omega⟩;simp only[cond_false];rw[ZfK k (by omega),itoa_nonneg];rfl
theorem Znv{m:Nat}(h:m<18446744073709551616):Vb .u64 (m:Int)=(m:Int):=by simp [Vb,Vh,Vk];omega
theorem Zod(d:Nat)(h:d<10):Vb .u8 (Vb .u64 ((48:Int)+(d:Int)))=((48+d:Nat):Int):=by simp [Vb,Vh,Vk];omega
theorem ZmQ(m:Nat)(h:10<=m):decDigits m=decDigits (m / 10)++[Vd (48+m % 10)]:=by rw[decDigits.eq_1 m,dif_neg (by omega)]
theorem Zj1(m:Nat)(h:m<10):decDigits m=[Vd (48+m)]:=by rw[decDigits.eq_1 m,dif_pos h]
theorem ZkK(i:Nat)(h:i<=20):sliceB 20 20 (some (i:Int)) none=some (i,20):=by unfold sliceB;simp;omega
theorem ZfH: ∀ (j u:Nat),u<10 ^ (j+1)->nDigits u<=j+1
 |0,u,h=>by rw[nDigits_small (by simpa using h)];omega
 |j+1,u,h=>by
  by_cases hu:u<10
  ·rw[nDigits_small hu];omega
  ·rw[nDigits_big hu];have:=ZfH j (u / 10) (by rw[Nat.pow_succ]at h;omega);omega
theorem Zih(bs:List Int)(i:Nat)(h:bs.length=20):List.take (20 - i) (Vm i bs)=Vm i bs:=List.take_of_length_le (by rw[List.length_drop];omega)
theorem Zi1(d:Nat)(l:List Int):bytesOf (((d:Nat):Int)::l)=Vd d::bytesOf l:=rfl
theorem ZeF(bs:List Int)(i:Nat)(x:Int)(h:i<bs.length):Vm i (List.set bs i x)=x::Vm (i+1) bs:=by rw[List.drop_eq_getElem_cons (by rw[Vc];exact h),List.getElem_set_self,List.drop_set_of_lt (by omega)]
theorem ZgI(n:Int)(m i:Nat)(bs:List Int)(hm:m<18446744073709551616)(hb:bs.length=20)(hi:i+1<=20)(h2:n<0->1<=i\/10<=m):
  ZcC n ((i+1:Nat):Int) (m:Int) bs=some (if 10<=m then .inl (n,(i:Int),((m / 10:Nat):Int),bs.set i ((48+m % 10:Nat):Int)) else .inr ((if n<0 then [45] else [])++Vd (48+m % 10)::bytesOf (bs.drop (i+1)))):=by
 unfold ZcC;have e1:Vb .i64 (((i+1:Nat):Int) - 1)=(i:Int):=by rw[ZcG (by omega) (by omega)];omega
 rw[e1,ZkW (show i<20 by omega)];simp only[bind_some];rw[Ve (show i<bs.length by omega)];simp only[bind_some,ZiD,ZgD];simp only[Zod _ (show m % 10<10 by omega),Znv (show m / 10<18446744073709551616 by omega)];by_cases h:10<=m
 ·rw[decide_eq_true (show (0:Int)< ((m / 10:Nat):Int) by omega),if_pos h];rfl
 ·rw[decide_eq_false (show¬ (0:Int)< ((m / 10:Nat):Int) by omega),if_neg h];simp only[cond_false];by_cases hn:n<0
  ·obtain⟨i,rfl⟩: ∃k,i=k+1:=⟨i - 1,by have:=h2 hn;omega⟩;have e2:Vb .i64 (((i+1:Nat):Int) - 1)=(i:Int):=by rw[ZcG (by omega) (by omega)];omega
   rw[decide_eq_true hn,e2,ZkW (show i<20 by omega),if_pos hn];simp only[cond_true,bind_some];rw[Ve (by rw[Vc];omega),ZkK i (by omega)];simp only[bind_some];rw[Zih _ _ (by rw[Vc,Vc,hb]),ZeF _ _ _ (by rw[Vc];omega),ZeF _ _ _ (by omega)];rfl
  ·rw[decide_eq_false hn,ZkK i (by omega),if_neg hn];simp only[cond_false,bind_some];rw[Zih _ _ (by rw[Vc,hb]),ZeF _ _ _ (by omega)];rfl
theorem ZlY(n:Int): ∀ (k m i:Nat) (bs:List Int),m<18446744073709551616->bs.length=20->i<=20->nDigits m<=k+1->nDigits m+(if n<0 then 1 else 0)<=i->
  (ZcC n (i:Int) (m:Int) bs).bind (ZlG k)=some ((if n<0 then [45] else [])++(decDigits m++bytesOf (bs.drop i))):=by
 intro k
 induction k with
 |zero=>
  intro m i bs hm hb hi h1 h2
  have hlt:m<10:=by
   by_cases h:m<10
   ·exact h
   ·rw[nDigits_big h]at h1
    have:0<nDigits (m / 10):=by rw[nDigits];split<;>omega
    omega
  rw[nDigits_small hlt]at h2;obtain⟨i,rfl⟩: ∃k,i=k+1:=⟨i - 1,by omega⟩;rw[ZgI n m i bs hm hb hi (fun hn=>by rw[if_pos hn]at h2;omega),if_neg (by omega),Zj1 m hlt,Vj hlt]
  rfl
 |succ k ih=>
  intro m i bs hm hb hi h1 h2;by_cases hlt:m<10
  ·rw[nDigits_small hlt]at h2;obtain⟨i,rfl⟩: ∃k,i=k+1:=⟨i - 1,by omega⟩;rw[ZgI n m i bs hm hb hi (fun hn=>by rw[if_pos hn]at h2;omega),if_neg (by omega),Zj1 m hlt,Vj hlt];rfl
  ·rw[nDigits_big hlt]at h1 h2;obtain⟨i,rfl⟩: ∃k,i=k+1:=⟨i - 1,by omega⟩;rw[ZgI n m i bs hm hb hi (fun hn=> .inr (by omega)),if_pos (by omega)];simp only[bind_some,ZlG];rw[ih (m / 10) i _ (by omega) (by rw[Vc,hb]) (by omega) (by omega) (by omega),ZeF _ _ _ (by omega),ZmQ m (by omega),Zi1];simp
theorem Zjh(n:Int)(h1: -9223372036854775808<=n)(h2:n<=9223372036854775807):F66 n=some (itoa n):=by
 unfold F66 fmtF;by_cases hn:n<0
 ·obtain⟨k,rfl⟩: ∃k:Nat,n= -(k:Int):=⟨n.natAbs,by omega⟩;have hd:=nDigits_le20 k (by omega)
  have e:Vb .u64 ((0:Int) - Vb .u64 (-(k:Int)))=(k:Int):=by simp [Vb,Vh,Vk];omega
  rw[decide_eq_true hn,cond_true,e];have hl:nDigits k<=19:=ZfH 18 k (by omega);rw[show (20:Int)=((20:Nat):Int) from rfl,ZlY _ 25 k 20 fmZ (by omega) rfl (by omega) (by omega) (by rw[if_pos hn];omega),if_pos hn,itoa_neg k (by omega)];show some ([45]++(decDigits k++[]))=_;rw[Vg];rfl
 ·obtain⟨k,rfl⟩: ∃k:Nat,n=(k:Int):=⟨n.toNat,by omega⟩;have hd:=nDigits_le20 k (by omega);rw[decide_eq_false hn,cond_false,Znv (by omega)];rw[show (20:Int)=((20:Nat):Int) from rfl,ZlY _ 25 k 20 fmZ (by omega) rfl (by omega) (by omega) (by rw[if_neg hn];omega),if_neg hn,itoa_nonneg];show some ([]++(decDigits k++[]))=_;rw[Vg];rfl
end Q
namespace Q
open Tr Go Go.Lib
open Option (bind_some)
theorem Zlt{σ τ:Type}{step step' :σ->Option (σ ⊕ τ)}(n:Nat)(Inv:Nat->σ->Prop)
  (hstep: ∀i s,i<n->Inv i s->step s=step' s/\((∃s',step s=some (.inl s')/\Inv (i+1) s')\/ ∃r,step s=some (.inr r)))
  (hend: ∀s,Inv n s->step s=step' s/\ ∃r,step s=some (.inr r)) (s:σ) (h0:Inv 0 s): ∃r,run step s=some r/\run step' s=some r:=by
 have key: ∀ (k i:Nat) (s:σ),n - i=k->i<=n->Inv i s-> ∃r,run step s=some r/\run step' s=some r:=by
  intro k
  induction k with
  |zero=>
   intro i s hk hi hs;have:i=n:=by omega
   subst this;obtain⟨h2,r,h1⟩:=hend s hs
   exact⟨r,ZdC h1,ZdC (h2.symm.trans h1)⟩
  |succ k ih=>
   intro i s hk hi hs;obtain⟨h3,h4⟩:=hstep i s (by omega) hs;rcases h4 with ⟨s',h1,h2⟩ | ⟨r,h1⟩
   ·rw[Zgj h1,Zgj (h3.symm.trans h1)];exact ih (i+1) s' (by omega) (by omega) h2
   ·exact⟨r,ZdC h1,ZdC (h3.symm.trans h1)⟩
 exact key n 0 s (by omega) (by omega) h0
def R64(x:Int):Prop:= -9223372036854775808<=x/\x<=9223372036854775807
def ZlR(c:CoT):Prop:=R64 c.1/\R64 c.2.1/\R64 c.2.2.1/\R64 c.2.2.2.1/\R64 c.2.2.2.2.1
theorem Zcm{x:Int}(h:R64 x): (itoa x).length<=21:=by
 obtain⟨h1,h2⟩:=h;by_cases hx:x<0
 ·obtain⟨k,rfl⟩: ∃k:Nat,x= -(k:Int):=⟨x.natAbs,by omega⟩;have:=nDigits_le20 k (by omega);rw[itoa_neg k (by omega),Vf,decDigits_length];omega
 ·obtain⟨k,rfl⟩: ∃k:Nat,x=(k:Int):=⟨x.toNat,by omega⟩;have:=nDigits_le20 k (by omega);rw[itoa_nonneg,decDigits_length];omega
def Zjr(c:CoT):List UInt8:=itoa c.1++[32]++itoa c.2.1++[32]++itoa c.2.2.1++[32]++itoa c.2.2.2.1++[32]++itoa c.2.2.2.2.1++[10]
theorem ZmA{c:CoT}(h:ZlR c): (Zjr c).length<=200:=by have h1:=Zcm h.1;have h2:=Zcm h.2.1;have h3:=Zcm h.2.2.1;have h4:=Zcm h.2.2.2.1;have h5:=Zcm h.2.2.2.2;simp only[Zjr,Vi,Vf,Vl];omega
theorem Zd4{τ:Type}{N:Int->Option (List UInt8)}(hN: ∀x,R64 x->N x=some (itoa x)){c:CoT}(h:ZlR c){s:List UInt8}(hs:s.length<=100000)(k:Int):
 (Va (N c.1) fun x7=>
 Va (Tr.catStr x7 [(32:UInt8)]) fun x8=>
 Va (N c.2.1) fun x9=>
 Va (Tr.catStr x8 x9) fun x10=>
 Va (Tr.catStr x10 [(32:UInt8)]) fun x11=>
 Va (N c.2.2.1) fun x12=>
 Va (Tr.catStr x11 x12) fun x13=>
 Va (Tr.catStr x13 [(32:UInt8)]) fun x14=>
 Va (N c.2.2.2.1) fun x15=>
 Va (Tr.catStr x14 x15) fun x16=>
 Va (Tr.catStr x16 [(32:UInt8)]) fun x17=>
 Va (N c.2.2.2.2.1) fun x18=>
 Va (Tr.catStr x17 x18) fun x19=>
 Va (Tr.catStr x19 [(10:UInt8)]) fun x20=>
 Va (Tr.catStr s x20) fun x21=>(some (.inl (x21,k)):Option ((List UInt8×Int) ⊕ τ)))=some (.inl (s++Zjr c,k)):=by
 have h1:=Zcm h.1;have h2:=Zcm h.2.1;have h3:=Zcm h.2.2.1;have h4:=Zcm h.2.2.2.1;have h5:=Zcm h.2.2.2.2;rw[hN _ h.1,hN _ h.2.1,hN _ h.2.2.1,hN _ h.2.2.2.1,hN _ h.2.2.2.2];simp only[bind_some]
 simp (disch:=((try simp only[Vi,Vf,Vl]);omega)) only[Zhx,bind_some]
 simp [Zjr,List.append_assoc]
def grB(b a:CoT):Bool:=bif !decide (a.1=b.1) then decide (b.1<a.1) else bif !decide (a.2.1=b.2.1) then decide (a.2.1<b.2.1) else decide (a.2.2.1<b.2.2.1)
theorem ZhO(b a:CoT):F83 b a=some (grB b a):=by
 unfold F83 grB;by_cases h1:a.1=b.1
 ·by_cases h2:a.2.1=b.2.1
  ·simp [h1,h2]
  ·simp [h1,h2]
 ·simp [h1]
theorem Zmd(a b:Int):F8 a b=some (if a<b then -1 else if b<a then 1 else 0):=by
 unfold F8 F10;by_cases h1:a<b
 ·simp [h1]
 ·by_cases h2:b<a<;>simp [h1,h2]
theorem ZjC(a b:Int):decide ((0:Int)<=(if a<b then -1 else if b<a then 1 else 0))= !decide (a<b):=by
 by_cases h1:a<b
 ·simp [h1]
 ·by_cases h2:b<a<;>simp [h1,h2]
theorem ZkR(p c:CoT): (Va (F77 p) fun x3=>
 Va (F77 c) fun x4=>Va (F79 x3 x4) fun x5=>some (decide ((0:Int)<=x5)))=some (!grB c p):=by
 unfold F77 F79 grB;simp only[bind_some,Zmd,show Vp 0=0 from rfl,show Vp 1=1 from rfl,show Vp 2=2 from rfl,List.getElem?_cons_zero,List.getElem?_cons_succ];by_cases h1:p.1=c.1
 ·by_cases h2:p.2.1=c.2.1
  ·simp only[h1,h2,decide_true,Vq,cond_false,bind_some,ZjC]
  ·simp only[h1,decide_true,Vq,cond_false,decide_eq_false h2,Vo,cond_true,bind_some,ZjC]
 ·simp only[decide_eq_false h1,Vo,cond_true,bind_some,ZjC]
theorem Zlr(l:List OpT)(hl:l.length<=20)(h: ∀x∈l,ZlR x.2.1): ∃r,F73 l=some r/\F82 l=some r:=by
 have hf: ∀x,R64 x->F66 x=some (itoa x):=fun x h=>Zjh x h.1 h.2;have hn: ∀x,R64 x->F80 x=some (itoa x):=fun x h=>Zi9 x h.1 h.2;unfold F73 F82
 refine Exists.elim (Zlt (τ:=List UInt8 ⊕ (List UInt8×Int)) (step:=fun s0=>
 bif decide (s0.2< (↑(List.length l):Int)) then
 Va (idx l s0.2) fun x1=>
 Va
 (bif decide ((0:Int)<s0.2) then
 Va (idx l (Vb .i64 (s0.2 - (1:Int)))) fun x2=>
 Va (F77 x2.2.1) fun x3=>
 Va (F77 x1.2.1) fun x4=>Va (F79 x3 x4) fun x5=>some (decide ((0:Int)<=x5))
 else some false)
 fun x6=>
 bif x6 then some (.inr (.inr ([],(8:Int))))
 else
 Va (F66 x1.2.1.1) fun x7=>
 Va (Tr.catStr x7 [(32:UInt8)]) fun x8=>
 Va (F66 x1.2.1.2.1) fun x9=>
 Va (Tr.catStr x8 x9) fun x10=>
 Va (Tr.catStr x10 [(32:UInt8)]) fun x11=>
 Va (F66 x1.2.1.2.2.1) fun x12=>
 Va (Tr.catStr x11 x12) fun x13=>
 Va (Tr.catStr x13 [(32:UInt8)]) fun x14=>
 Va (F66 x1.2.1.2.2.2.1) fun x15=>
 Va (Tr.catStr x14 x15) fun x16=>
 Va (Tr.catStr x16 [(32:UInt8)]) fun x17=>
 Va (F66 x1.2.1.2.2.2.2.1) fun x18=>
 Va (Tr.catStr x17 x18) fun x19=>
 Va (Tr.catStr x19 [(10:UInt8)]) fun x20=>
 Va (Tr.catStr s0.1 x20) fun x21=>some (.inl (x21,Vb .i64 (s0.2+(1:Int))))
 else some (.inr (.inl s0.1))) (step' :=fun s0=>
 bif decide (s0.2< (↑(List.length l):Int)) then
 Va (idx l s0.2) fun x1=>
 Va
 (bif decide ((0:Int)<s0.2) then
 Va (idx l (Vb .i64 (s0.2 - (1:Int)))) fun x2=>Va (F83 x1.2.1 x2.2.1) fun x3=>some !x3
 else some false)
 fun x4=>
 bif x4 then some (.inr (.inr ([],(8:Int))))
 else
 Va (F80 x1.2.1.1) fun x5=>
 Va (Tr.catStr x5 [(32:UInt8)]) fun x6=>
 Va (F80 x1.2.1.2.1) fun x7=>
 Va (Tr.catStr x6 x7) fun x8=>
 Va (Tr.catStr x8 [(32:UInt8)]) fun x9=>
 Va (F80 x1.2.1.2.2.1) fun x10=>
 Va (Tr.catStr x9 x10) fun x11=>
 Va (Tr.catStr x11 [(32:UInt8)]) fun x12=>
 Va (F80 x1.2.1.2.2.2.1) fun x13=>
 Va (Tr.catStr x12 x13) fun x14=>
 Va (Tr.catStr x14 [(32:UInt8)]) fun x15=>
 Va (F80 x1.2.1.2.2.2.2.1) fun x16=>
 Va (Tr.catStr x15 x16) fun x17=>
 Va (Tr.catStr x17 [(10:UInt8)]) fun x18=>
 Va (Tr.catStr s0.1 x18) fun x19=>some (.inl (x19,Vb .i64 (s0.2+(1:Int))))
 else some (.inr (.inl s0.1))) l.length (fun i (s:List UInt8×Int)=>s.1.length<=200*i/\s.2=(i:Int)) ?_ ?_ ([],0) ⟨Nat.zero_le _,rfl⟩) ?_
 ·rintro i ⟨s,k⟩ hi ⟨hs,rfl⟩;have hs:s.length<=200*i:=hs;have hg:=h l[i] (List.getElem_mem hi);have hle:=ZmA hg
  have hfin: ∀b:Bool, ∀y z:Option ((List UInt8×Int) ⊕ (List UInt8 ⊕ (List UInt8×Int))),y=(bif b then some (.inr (.inr ([],8))) else some (.inl (s++Zjr l[i].2.1,((i+1:Nat):Int))))->z=(bif b then some (.inr (.inr ([],8))) else some (.inl (s++Zjr l[i].2.1,((i+1:Nat):Int))))->y=z/\((∃s' :List UInt8×Int,y=some (.inl s')/\s'.1.length<=200* (i+1)/\s'.2=((i+1:Nat):Int))\/ ∃r,y=some (.inr r)):=by
   rintro b _ _ rfl rfl;refine⟨rfl, ?_⟩
   cases b with
   |true=>exact .inr ⟨_,rfl⟩
   |false=>exact .inl ⟨_,rfl,by simp only[Vi];omega,rfl⟩
  by_cases h0:0<i
  ·have e1:Vb .i64 ((i:Int) - 1)=((i - 1:Nat):Int):=by rw[ZcG (by omega) (by omega)];omega
   have hd:decide ((0:Int)< (i:Int))=true:=decide_eq_true (by omega);refine hfin (!grB l[i].2.1 l[i - 1].2.1) _ _ ?_ ?_
   ·simp only[ltD hi,cond_true,Zdx hi,bind_some,hd,e1,Zdx (show i - 1<l.length by omega)];rw[Zd4 hf hg (show s.length<=100000 by omega),ZkR,Zk5 hi (by omega)];rfl
   ·simp only[ltD hi,cond_true,Zdx hi,bind_some,hd,e1,Zdx (show i - 1<l.length by omega),ZhO];rw[Zd4 hn hg (show s.length<=100000 by omega),Zk5 hi (by omega)]
  ·have hd:decide ((0:Int)< (i:Int))=false:=decide_eq_false (by omega);refine hfin false _ _ ?_ ?_
   ·simp only[ltD hi,cond_true,Zdx hi,bind_some,hd,cond_false];rw[Zd4 hf hg (show s.length<=100000 by omega),Zk5 hi (by omega)]
   ·simp only[ltD hi,cond_true,Zdx hi,bind_some,hd,cond_false];rw[Zd4 hn hg (show s.length<=100000 by omega),Zk5 hi (by omega)]
 ·rintro ⟨s,k⟩ ⟨hs,rfl⟩;simp only[Zn3,cond_false];exact⟨trivial,_,rfl⟩
 ·rintro r ⟨h1,h2⟩;rw[h1,h2]
  cases r with
  |inl x=>exact⟨_,rfl,rfl⟩
  |inr x=>exact⟨_,rfl,rfl⟩
theorem Zkj(l:List CoT)(h: ∀c∈l,ZlR c):F47 l=some true:=by
 unfold F47;by_cases hl:l.length<=20
 case neg=>rw[decide_eq_true (by omega)];rfl
 rw[decide_eq_false (by omega),ZhV l hl]
 obtain⟨r,h1,h2⟩:=Zlr (l.map opt) (by rw[Vn];exact hl) (fun x hx=>by obtain⟨c,hc,rfl⟩:=List.mem_map.1 hx;exact h c hc)
 simp only[cond_false,bind_some,h1,h2,decide_true,cond_true,show F48=some true from rfl]
theorem textsP(x:Zce F47A)(h:Zg2 F47A x):F47 x.1=some true:=Zkj _ fun c hc=>by obtain⟨h1,h2,h3,h4,h5,_⟩:=h.1.2 c hc;exact⟨h1,h2,h3,h4,h5⟩
end Q
