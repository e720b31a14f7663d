/- profile's keep in terms of contents. Conditions: none. -/
import Derived.Test.YtdpenljjnfmgiaaGreatETrSc
import Derived.Test.YtdpenljjnfmgiaaGreatFin45na
import Derived.Test.YtdpenljjnfmgiaaGreatETsF
open Go.IntKind renaming wrap ->Vd
open List renaming take_succ_eq_append_getElem ->Va,getElem?_eq_getElem ->Vb,getElem_mem ->Vc,mem_singleton ->Ve,filter_append ->Vf,drop ->Vg,take_length ->Vh,mem_append ->Vi,head?_drop ->Vj,drop_drop ->Vk,take ->Vl
open Option renaming some ->Ua,none ->Ub
open Bool renaming true ->Uc,false ->Ud
open Decidable renaming decide ->Ue
namespace Qn
open Tr Q Go Go.Proofs
theorem ZQ{i n:Nat}(h:i<n):Ue ((i:Int)<(n:Int))=true:=Zj (by omega)
theorem Kb{i n:Nat}(h:i<n)(a:n<=549755813888):Vd .i64 ((i:Int)+1)=((i+1:Nat):Int):=by rw[ZH (by omega) (by omega)];omega
theorem ZdD{n k:Nat}(h:k<=n):sliceB n n (Ua (k:Int)) Ub=Ua (k,n):=by
 unfold sliceB
 grind
theorem ZsW{a:El Y91}{p:El Y91->Bool}{l:List (El Y91)}(f:∀x∈l,F111 a x=Ua (p x))(m:l.length<=549755813888):(F178 l (a,())=Ua (-1)/\ ∀x∈l,p x=Ud)\/ ∃i,∃b:i<l.length,F178 l (a,())=Ua (i:Int)/\(∀x∈l.take i,p x=Ud)/\p l[i]=true:=by
 unfold F178
 suffices g:∃r:Unit ⊕ Int,_=Ua r/\((r=.inl ()/\ ∀x∈l,p x=Ud)\/ ∃i:Nat,∃b:i<l.length,r=.inr (i:Int)/\(∀x∈l.take i,p x=Ud)/\p l[i]=Uc) by
  obtain⟨r,d,e⟩:=g;rcases e with ⟨rfl,h⟩|⟨i,b,rfl,h⟩
  ·exact .inl ⟨K4 (fun x=>x=Sum.inl ()) ⟨_,d,rfl⟩ (fun x c=>by subst c;rfl),h⟩
  grind
 refine KC l.length (fun r:Unit ⊕ Int=>(r=.inl ()/\ ∀x∈l,p x=Ud)\/ ∃i:Nat,∃b:i<l.length,r=.inr (i:Int)/\(∀x∈l.take i,p x=Ud)/\p l[i]=Uc) (fun i (s:Int)=>s=(i:Int)/\ ∀x∈l.take i,p x=Ud) ?_ ?_ _ (by simp)
 ·rintro i _ b ⟨rfl,h⟩;have c:Tr.idx l (i:Int)=Ua l[i]:=ZE b;have j:∀w,w∈l.take (i+1)↔w∈l.take i\/w=l[i]:=fun w=>by rw[Va b,Vi,Ve]
  simp only[ZQ b,Ze,c,Za,f l[i] (Vc b)]
  cases k:p l[i] with
  |true=>grind
  |false=>
   refine .inl ⟨_,rfl,Kb b (by omega),fun w n=>?_⟩
   grind
 simp
theorem ZrD{a:El Y91}{p:El Y91->Bool}{l:List (El Y91)}(E:∀x∈l,F111 a x=Ua (p x))(J:l.length<=549755813888):F176 l (a,())=Ua (l.filter fun x=> !p x):=by
 unfold F176;rcases ZsW E J with ⟨f,F⟩|⟨c,w,f,F,D⟩
 ·rw[f];simp only[Za,decide_true,Ze];rw[List.filter_eq_self.2 (by grind)]
 ·rw[f];have A:Vd .i64 ((c:Int)+1)=((c+1:Nat):Int):=by rw[ZH (by omega) (by omega)];omega
  simp only[Za,Zr (show¬(c:Int)= -1 by omega),Zd,A];refine K4 (fun r:List (El Y91) ×Int=>∃k:Nat,r.2=(k:Int)/\k<=l.length/\r.1.length=l.length/\r.1.take k=l.filter fun x=> !p x) ?_ ?_
  ·have o:(l.take c).filter (fun x=> !p x)=l.take c:=by simp_all
   refine KC (l.length - (c+1)) _ (fun r (s:List (El Y91) ×Int×Int)=>∃k:Nat,s.2=((k:Int),((c+1+r:Nat):Int))/\k<=c+1+r/\s.1.length=l.length/\(s.1.take k=(l.take (c+1+r)).filter fun x=> !p x)/\s.1.drop (c+1+r)=l.drop (c+1+r)) ?_ ?_ _ ⟨c,rfl,by omega,rfl,?_,rfl⟩
   ·rintro r ⟨fr,_⟩ O ⟨k,rfl,q,b,d,g⟩;left;simp only at b d g;have v:c+1+r<l.length:=by omega
    generalize I:c+1+r=i at*;have t:i<fr.length:=by omega
    have u:fr[i]? =Ua l[i]:=by have f:=congrArg List.head? g;rw[Vj,Vj,Vb v]at f;omega
    have j:(l.take (i+1)).filter (fun x=> !p x)=(l.take i).filter (fun x=> !p x)++(if p l[i]=Uc then [] else [l[i]]):=by
     rw[Va v,Vf]
     grind
    have h:fr.drop (i+1)=l.drop (i+1):=by have f:=congrArg (Vg 1) g;rw[Vk,Vk]at f;omega
    have n:Ue ((i:Int)<((fr.length:Nat):Int))=true:=by grind
    have B:Vd .i64 ((i:Int)+1)=((c+1+(r+1):Nat):Int):=by rw[ZH (by omega) (by omega)];omega
    have y:c+1+(r+1)=i+1:=by omega
    simp only[n,Ze,KM t,u,Za,E l[i] (Vc v),B];rw[y]
    cases G:p l[i] with
    |true=>
     rw[Zv G,List.append_nil]at j
     exact⟨_,rfl,k,rfl,by omega,b,by grind,h⟩
    |false=>
     rw[Zg (by grind)]at j;have m:k<fr.length:=by omega
     have C:Vd .i64 ((k:Int)+1)=((k+1:Nat):Int):=by rw[ZH (by omega) (by omega)];omega
     simp only[Bool.not_false,Ze,KM m,Za,Vb m,C];refine⟨_,rfl,k+1,rfl,by omega,by grind,?_,?_⟩
     ·have N:(fr.set k l[i]).take (k+1)=fr.take k++[l[i]]:=by rw[Va (by grind),List.take_set_of_le (Nat.le_refl _),List.getElem_set_self]
      grind
     ·rw[List.drop_set_of_lt (by omega)];omega
   ·rintro ⟨fr,_⟩ ⟨k,rfl,q,b,d,_⟩;have e:c+1+(l.length - (c+1))=l.length:=by omega
    rw[e]at d q;rw[Vh]at d;have n:Ue (((c+1+(l.length - (c+1)):Nat):Int)<((fr.length:Nat):Int))=false:=by grind
    exact⟨(fr,(k:Int)),by grind,k,rfl,q,b,d⟩
   ·rw[Nat.add_zero,Va w,Vf,o,List.filter_cons_of_neg (by grind)];simp
  ·rintro ⟨fr,_⟩ ⟨k,rfl,q,b,d⟩;simp only at b d;have z:sliceB fr.length fr.length (Ua (k:Int)) Ub=Ua (k,fr.length):=ZdD (by omega);simp only[z,Za];have H:Zz (Ue (k+(fr.length - k)<=fr.length))=Ua ():=by rw[Zj (by omega)];rfl
   rw[H];simp only[Za];generalize P:List.replicate (fr.length - k) (none:El Y91)=Z;have M:Z.length=fr.length - k:=by grind
   have K:(Vl k fr++Z++Vg (k+(fr.length - k)) fr).length=fr.length:=by
    grind
   have L:sliceB (Vl k fr++Z++Vg (k+(fr.length - k)) fr).length (Vl k fr++Z++Vg (k+(fr.length - k)) fr).length Ub (Ua (k:Int))=Ua (0,k):=by
    unfold sliceB
    grind
   grind
theorem ZhD{n:Nat}(h:n+1<=549755813888):Zz (Ue (n+1<=ZD))=Ua ():=by rw[Zj (show n+1<=ZD from h)];rfl
theorem Zs9{n:El Zh}{q:El Zk}{lk:El ZC}{bags:List (List (El Y91))}{op fd:List (El Y91)}{b:Nat}{y:El Y94}{i:Nat}(d:i<bags.length)(B:y.1=(i:Int)){pc pd:El Y91->Bool}
 (f:∀x∈bags[i],F111 x (Ua (b,y))=Ua (pc x)) (g:∀x∈bags[i],F111 (Ua (b,y)) x=Ua (pd x)) (C:bags[i].length+1<=549755813888) (z:op.length+1<=549755813888) (t:fd.length+1<=549755813888):
 F105 (n,q,lk,bags,op,fd,()) (Ua (b,y))=Ua (if bags[i].any pc=Uc then(n,q,lk,bags,op,fd,()) else(n,q,lk,bags.set i ((bags[i].filter fun x=> !pd x)++[Ua (b,y)]),op++[Ua (b,y)],if y.1=q.2.1 then fd++[Ua (b,y)] else fd,())):=by
 unfold F105;have l:Tr.idx bags (i:Int)=Ua bags[i]:=ZE d;have e:Zs y.1 bags.length=Ua i:=by rw[B];exact KM d
 simp only[Za,e,Vb d,l];generalize o:bags[i]=row at*;refine K4 (fun r:Unit ⊕ Unit=>(r=.inl ()/\row.any pc=Ud)\/(r=.inr ()/\row.any pc=Uc)) ?_ ?_
 ·refine KC row.length _ (fun j (s:Int)=>s=(j:Int)/\ ∀x∈row.take j,pc x=Ud) ?_ ?_ _ (by simp)
  ·rintro j _ a ⟨rfl,h⟩;have k:∀w,w∈row.take (j+1)↔w∈row.take j\/w=row[j]:=fun w=>by rw[Va a,Vi,Ve]
   simp only[ZQ a,Ze,KM a,Za,Vb a,f row[j] (Vc a)]
   cases m:pc row[j] with
   |true=>exact .inr ⟨.inr (),rfl,.inr ⟨rfl,List.any_eq_true.2 ⟨_,Vc a,m⟩⟩⟩
   |false=>
    refine .inl ⟨_,rfl,Kb a (by omega),fun w A=>?_⟩;rcases (k w).1 A with p|rfl
    ·exact h w p
    ·exact m
  ·rintro _ ⟨rfl,h⟩;rw[Vh]at h;rw[Zr (by omega)];exact⟨.inl (),rfl,.inl ⟨rfl,by rw[List.any_eq_false];intro x l;rw[h x l];simp⟩⟩
 ·rintro r (⟨rfl,h⟩|⟨rfl,h⟩)
  ·have u:(row.filter fun x=> !pd x).length<=row.length:=List.length_filter_le _ _;simp only[Sum.elim_inl,ZrD g (by omega),Za,List.length_singleton,ZhD (show (row.filter fun x=> !pd x).length+1<=549755813888 by omega),ZhD z,ZhD t,h];have v:Zz (RR (Ua (Int.toNat ((i:Nat):Int))) i)=Ua ():=by simp [RR,Zz]
   rw[v];simp only[Za];by_cases c:y.1=q.2.1
   ·rw[Zj c,Zv c];simp
   ·rw[Zr c,Zg c];simp
  ·simp only[Sum.elim_inr,h,if_true]
end Qn
