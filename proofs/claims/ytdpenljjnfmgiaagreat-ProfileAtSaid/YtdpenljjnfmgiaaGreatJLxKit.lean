/- Loops in plain Lean: with an invariant by rounds, and halving. Conditions: those of the theorems. -/
import Derived.Test.YtdpenljjnfmgiaaGreatTsH
import Derived.Test.YtdpenljjnfmgiaaGreatFin45b
import Derived.Test.YtdpenljjnfmgiaaGreatTsF
open Bool renaming not_true ->Vf
open Go.IntKind renaming wrap ->Vb
open List renaming getElem?_cons_zero ->Vc,getElem?_cons_succ ->Vd,length_map ->Ve
open Option renaming bind ->Va
open Sum renaming elim_inl ->Vg
namespace Q
open Tr Go
open Option (bind_some)
theorem Zkk{σ τ:Type}{step:σ->Option (σ ⊕ τ)}(n:Nat)(P:τ->Prop)(Inv:Nat->σ->Prop)
  (hstep: ∀i s,i<n->Inv i s->(∃s',step s=some (.inl s')/\Inv (i+1) s')\/ ∃r,step s=some (.inr r)/\P r)
  (hend: ∀s,Inv n s-> ∃r,step s=some (.inr r)/\P r) (s:σ) (h0:Inv 0 s): ∃r,run step s=some r/\P r:=by
 have key: ∀ (k i:Nat) (s:σ),n - i=k->i<=n->Inv i s-> ∃r,run step s=some r/\P r:=by
  intro k
  induction k with
  |zero=>
   intro i s hk hi hs;have:i=n:=by omega
   subst this;obtain⟨r,h1,h2⟩:=hend s hs
   exact⟨r,Zka h1,h2⟩
  |succ k ih=>
   intro i s hk hi hs;rcases hstep i s (by omega) hs with ⟨s',h1,h2⟩ | ⟨r,h1,h2⟩
   ·rw[Zmf h1];exact ih (i+1) s' (by omega) (by omega) h2
   ·exact⟨r,Zka h1,h2⟩
 exact key n 0 s (by omega) (by omega) h0
theorem ZjG{α β:Type}{o:Option α}{f:α->Option β}{z:Option β}(P:α->Prop)(h: ∃r,o=some r/\P r)(k: ∀r,P r->f r=z):Va o f=z:=by obtain⟨r,rfl,hr⟩:=h;exact k r hr
end Q
namespace Q
open Tr Go
open Option (bind_some)
abbrev CoT:=Int×Int×Int×Int×Int×Unit
abbrev OpT:=El Y53
theorem ZmJ{i n:Nat}(h:i<n)(hn:n<=9223372036854775807):Vb .i64 ((i:Int)+1)=((i+1:Nat):Int):=by rw[ZdW (by omega) (by omega)];omega
theorem ltD{i n:Nat}(h:i<n):decide ((i:Int)< (n:Int))=true:=decide_eq_true (by omega)
theorem Znz(n:Nat):decide ((n:Int)< (n:Int))=false:=decide_eq_false (by omega)
def opt(c:CoT):OpT:=((([]:List (El Y82)),()),c,([]:List (El Zi2)),())
theorem Zhy(l:List CoT)(h:l.length<=20):F49 l=some (l.map opt):=by
 unfold F49;refine ZjG (fun r=>r=l.map opt) (Zkk l.length _ (fun i (s:List OpT×Int)=>s=((l.take i).map opt,(i:Int))) ?_ ?_ _ rfl) (fun r hr=>by rw[hr])
 ·rintro i _ hi rfl;refine .inl ⟨_, ?_,rfl⟩;simp only[ltD hi,cond_true,Zjs hi,bind_some];rw[decide_eq_true (by unfold ZaC;simp only[Ve,List.length_take,List.length_cons,List.length_nil];omega)];simp only[Zav,cond_true,bind_some];rw[ZmJ hi (by omega),List.take_add_one,List.getElem?_eq_getElem hi];simp only[List.map_append,Option.toList_some,List.map_cons,List.map_nil];rfl
 ·rintro _ rfl;refine⟨_, ?_,rfl⟩;simp only[Znz,cond_false,List.take_length]
def Zme(a b:CoT):Bool:=bif !decide (a.2.1=b.2.1) then decide (a.2.1<b.2.1) else bif !decide (a.2.2.1=b.2.2.1) then decide (a.2.2.1<b.2.2.1) else bif !decide (a.2.2.2.1=b.2.2.2.1) then decide (a.2.2.2.1<b.2.2.2.1) else decide (a.2.2.2.2.1<b.2.2.2.2.1)
theorem Zi0(a b:CoT):F81 a b=some (Zme a b):=by
 unfold F81 F82 Zme;by_cases h1:a.2.1=b.2.1
 ·by_cases h2:a.2.2.1=b.2.2.1
  ·by_cases h3:a.2.2.2.1=b.2.2.2.1
   ·simp [h1,h2,h3]
   ·by_cases h4:a.2.2.2.1<b.2.2.2.1<;>simp [h1,h2,h3,h4]
  ·simp [h1,h2]
 ·simp [h1]
theorem ZiU(a b:CoT):F78 a b=some (Zme a b):=by
 unfold F78;refine ZjG (fun r=>Sum.elim (fun _:Unit=>some false) (fun y:Bool=>some y) r=some (Zme a b)) ?_ (fun r hr=>hr);have w1:Vb .i64 ((0:Int)+1)=1:=by rw[ZdW (by omega) (by omega)];rfl
 have w2:Vb .i64 ((1:Int)+1)=2:=by rw[ZdW (by omega) (by omega)];rfl
 have w3:Vb .i64 ((2:Int)+1)=3:=by rw[ZdW (by omega) (by omega)];rfl
 have w4:Vb .i64 ((3:Int)+1)=4:=by rw[ZdW (by omega) (by omega)];rfl
 unfold Zme;rw[Zbx];by_cases h1:a.2.1=b.2.1
 case neg=>exact⟨.inr (decide (a.2.1<b.2.1)),by simp [inb,h1],by simp [h1]⟩
 simp only[show decide ((0:Int)<4)=true from rfl,show inb (0:Int) 4=some 0 from rfl,cond_true,bind_some,Vc,h1,decide_true,Vf,cond_false,Vg,w1];rw[Zbx];by_cases h2:a.2.2.1=b.2.2.1
 case neg=>exact⟨.inr (decide (a.2.2.1<b.2.2.1)),by simp [inb,h2],by simp [h2]⟩
 simp only[show decide ((1:Int)<4)=true from rfl,show inb (1:Int) 4=some 1 from rfl,cond_true,bind_some,Vd,Vc,h2,decide_true,Vf,cond_false,Vg,w2];rw[Zbx];by_cases h3:a.2.2.2.1=b.2.2.2.1
 case neg=>exact⟨.inr (decide (a.2.2.2.1<b.2.2.2.1)),by simp [inb,h3],by simp [h3]⟩
 simp only[show decide ((2:Int)<4)=true from rfl,show inb (2:Int) 4=some 2 from rfl,cond_true,bind_some,Vd,Vc,h3,decide_true,Vf,cond_false,Vg,w3];rw[Zbx];by_cases h4:a.2.2.2.2.1=b.2.2.2.2.1
 case neg=>exact⟨.inr (decide (a.2.2.2.2.1<b.2.2.2.2.1)),by simp [inb,h4],by simp⟩
 simp only[show decide ((3:Int)<4)=true from rfl,show inb (3:Int) 4=some 3 from rfl,cond_true,bind_some,Vd,Vc,h4,decide_true,Vf,cond_false,Vg,w4];rw[Zbx];exact⟨.inl (),by simp,by simp⟩
def Zhj(l:List OpT)(t:Int)(s:Int×Int):Option ((Int×Int) ⊕ Int):=
 bif decide (s.2< (l.length:Int)) then
  Va (idx l s.2) fun x=>Va (bif decide (t<=x.2.1.1) then bif decide (s.1<0) then some true else Va (idx l s.1) fun y=>some (Zme x.2.1 y.2.1) else some false)
   fun b=>some (.inl (bif b then s.2 else s.1,Vb .i64 (s.2+1)))
 else some (.inr s.1)
noncomputable def atR(l:List OpT)(t:Int):Option Int:=run (Zhj l t) (-1,0)
theorem Zj1(l:List OpT)(t:Int):F80 l t=atR l t:=by
 unfold F80 atR
 have: ∀o:Option Int,(Va o fun x=>some x)=o:=fun o=>by cases o<;>rfl
 rw[this];congr 1;funext s;unfold Zhj;simp only[Zi0]
 cases decide (s.2< (l.length:Int)) with
 |false=>rfl
 |true=>
  simp only[cond_true]
  cases idx l s.2 with
  |none=>rfl
  |some x=>
   simp only[bind_some];congr 1;funext b
   cases b<;>rfl
theorem ZmU(l:List OpT)(t:Int): (run
 (fun s0=>
 bif decide (s0.2< (↑(List.length l):Int)) then
 Va (idx l s0.2) fun x1=>
 Va
 (bif decide (t<=x1.2.1.1) then
 bif decide (s0.1< (0:Int)) then some true
 else Va (idx l s0.1) fun x2=>Va (F78 x1.2.1 x2.2.1) fun x3=>some x3
 else some false)
 fun x4=>
 bif x4 then some (.inl (s0.2,Vb .i64 (s0.2+(1:Int)))) else some (.inl (s0.1,Vb .i64 (s0.2+(1:Int))))
 else some (.inr s0.1))
 ((-1:Int),(0:Int)))=atR l t:=by
 unfold atR;congr 1;funext s;unfold Zhj;simp only[ZiU]
 cases decide (s.2< (l.length:Int)) with
 |false=>rfl
 |true=>
  simp only[cond_true]
  cases idx l s.2 with
  |none=>rfl
  |some x=>
   simp only[bind_some];congr 1;funext b
   cases b<;>rfl
theorem ZmM(l:List OpT)(t:Int)(h:l.length<=1000): ∃r,atR l t=some r/\(r= -1\/0<=r/\r< (l.length:Int)):=by
 unfold atR;refine Zkk l.length _ (fun i (s:Int×Int)=>s.2=(i:Int)/\(s.1= -1\/0<=s.1/\s.1< (l.length:Int))) ?_ ?_ _ ⟨rfl, .inl rfl⟩
 ·rintro i ⟨b,k⟩ hi ⟨rfl,hb⟩
  have e: ∃v,(bif decide (t<=l[i].2.1.1) then bif decide (b<0) then some true else Va (idx l b) fun y=>some (Zme l[i].2.1 y.2.1) else some false)=some v:=by
   cases decide (t<=l[i].2.1.1) with
   |false=>exact⟨_,rfl⟩
   |true=>
    rcases hb with rfl| ⟨h1,h2⟩
    ·exact⟨_,rfl⟩
    ·simp only[cond_true,decide_eq_false (show¬b<0 by omega),cond_false,ZhM h1 (show b.toNat<l.length by omega),bind_some];exact⟨_,rfl⟩
  obtain⟨v,hv⟩:=e
  refine .inl ⟨(bif v then(i:Int) else b,((i+1:Nat):Int)), ?_,rfl, ?_⟩
  ·unfold Zhj;simp only[ltD hi,cond_true,Zjs hi,bind_some];rw[hv,ZmJ hi (by omega)];rfl
  ·cases v with
   |false=>exact hb
   |true=>exact .inr ⟨by simp,by simp;omega⟩
 ·rintro ⟨b,k⟩ ⟨rfl,hb⟩;refine⟨b, ?_,hb⟩;unfold Zhj;simp only[Znz,cond_false]
theorem ZmV(l:List CoT)(t:Int):F47 l t=some true:=by
 unfold F47;have hx:F48=some true:=rfl;by_cases hl:l.length<=20
 case neg=>rw[decide_eq_true (by omega)];rfl
 rw[decide_eq_false (by omega),Zhy l hl];simp only[cond_false,bind_some];unfold F72;rw[Zj1];obtain⟨r,hr,h⟩:=ZmM (l.map opt) t (by rw[Ve];omega);rw[ZmU,hr];simp only[bind_some];rcases h with rfl| ⟨h1,h2⟩
 ·rfl
 ·have h3:r.toNat<l.length:=by rw[Ve]at h2;omega
  simp only[decide_eq_false (show¬r<0 by omega),cond_false,ZhM h1 (show r.toNat< (l.map opt).length by rw[Ve];omega),ZhM h1 h3,bind_some,List.getElem_map];simp [opt,F92,F93,clnLegG,clnTicG,hx,ZaC]
theorem atP(x:Zcf F47A)(_:Zhg F47A x):F47 x.1 x.2.1=some true:=ZmV _ _
end Q
