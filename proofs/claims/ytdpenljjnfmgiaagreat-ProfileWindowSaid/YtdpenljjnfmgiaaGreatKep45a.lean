/- profile's keep in terms of contents. Conditions: none. -/
import Derived.Test.YtdpenljjnfmgiaaGreatFin45na
open Go.IntKind renaming wrap ->Vd
open List renaming take_succ_eq_append_getElem ->Va,getElem?_eq_getElem ->Vb,getElem_mem ->Vc,mem_singleton ->Ve,filter_append ->Vf,drop ->Vg,take_length ->Vh,mem_append ->Vi,head?_drop ->Vj,drop_drop ->Vk,take ->Vl
open Option renaming some ->Ua,none ->Ub
open Bool renaming true ->Uc,false ->Ud
open Decidable renaming decide ->Ue
namespace Qn
open Tr Q Go Go.Proofs
theorem ZL{i n:Nat}(h:i<n):Ue (i<(n:Int))=true:=Zi (by omega)
theorem ZU{i n:Nat}(h:i<n)(a:n<=549755813888):Vd .i64 (i+1)=((i+1:Nat)):=by rw[ZB (by omega) (by omega)];omega
theorem Zdd{n k}(h:k<=n):sliceB n n (Ua k) Ub=Ua (k,n):=by unfold sliceB;grind
theorem ZvQ{a}{p:El Y91->Bool}{l:List (El Y91)}(f:∀x∈l,F111 a x=Ua (p x))(m:l.length<=549755813888):(F194 l (a,())=Ua (-1)/\∀x∈l,p x=Ud)\/∃i,∃b:i<l.length,F194 l (a,())=Ua (i:Int)/\(∀x∈l.take i,p x=Ud)/\p l[i]=true:=by
 unfold F194
 suffices g:∃r:Unit ⊕ Int,_=Ua r/\((r=.inl ()/\∀x∈l,p x=Ud)\/∃i,∃b:i<l.length,r=.inr i/\(∀x∈l.take i,p x=Ud)/\p l[i]=Uc) by
  obtain⟨r,d,e⟩:=g;obtain⟨rfl,h⟩|⟨i,b,rfl,h⟩:=e;.exact .inl ⟨KK (λx=>x=Sum.inl ()) ⟨_,d,rfl⟩ (λx c=>by subst c;rfl),h⟩
  grind
 refine Kg l.length (λr:Unit ⊕ Int=>(r=.inl ()/\∀x∈l,p x=Ud)\/∃i,∃b:i<l.length,r=.inr i/\(∀x∈l.take i,p x=Ud)/\p l[i]=Uc) (λi s=>s=(i:Int)/\∀x∈l.take i,p x=Ud) ?_ ?_ _ (by simp)
 .rintro i _ b ⟨rfl,h⟩;have c:Tr.idx l i=Ua l[i]:=ZC b;have j:∀w,w∈l.take (i+1)↔w∈l.take i\/w=l[i]:=λw=>by rw[Va b,Vi,Ve]
  simp only[ZL b,c,Za,f l[i] (Vc b)]
  cases k:p l[i] with
  |true=>grind
  |false=>
   refine .inl ⟨_,rfl,ZU b (by omega),λw n=>?_⟩;grind
 simp
theorem Zup{a}{p:El Y91->Bool}{l}(E:∀x∈l,F111 a x=Ua (p x))(K:l.length<=549755813888):F192 l (a,())=Ua (l.filter λx=> !p x):=by
 unfold F192;obtain⟨f,F⟩|⟨c,w,f,F,D⟩:=ZvQ E K;.rw[f];simp only[Za,decide_true,Zf];rw[List.filter_eq_self.2 (by grind)]
 rw[f];have A:Vd .i64 ((c:Int)+1)=((c+1:Nat):Int):=by rw[ZB (by omega) (by omega)];omega
 simp only[Za,Zm (show¬(c:Int)= -1 by omega),Ze,A];refine KK (λr=>∃k:Nat,r.2=(k:Int)/\k<=l.length/\r.1.length=l.length/\r.1.take k=l.filter λx=> !p x) ?_ ?_
 .have o:(l.take c).filter (λx=> !p x)=l.take c:=by simp_all
  refine Kg (l.length - (c+1)) _ (λr (s:List (El Y91)×Int×Int)=>∃k:Nat,s.2=((k:Int),((c+1+r:Nat):Int))/\k<=c+1+r/\s.1.length=l.length/\(s.1.take k=(l.take (c+1+r)).filter λx=> !p x)/\s.1.drop (c+1+r)=l.drop (c+1+r)) ?_ ?_ _ ⟨c,rfl,by omega,rfl,?_,rfl⟩
  .rintro r ⟨fr,_⟩ P ⟨k,rfl,q,b,d,g⟩;left;simp only at b d g;have v:c+1+r<l.length:=by omega
   generalize J:c+1+r=i at*;have t:i<fr.length:=by omega
   have u:fr[i]? =Ua l[i]:=by have f:=congrArg List.head? g;rw[Vj,Vj,Vb v]at f;omega
   have j:(l.take (i+1)).filter (λx=> !p x)=(l.take i).filter (λx=> !p x)++(if p l[i]=Uc then [] else [l[i]]):=by rw[Va v,Vf];grind
   have h:fr.drop (i+1)=l.drop (i+1):=by have f:=congrArg (Vg 1) g;rw[Vk,Vk]at f;omega
   have n:Ue ((i:Int)<((fr.length:Nat):Int))=true:=by grind
   have B:Vd .i64 ((i:Int)+1)=((c+1+(r+1):Nat):Int):=by rw[ZB (by omega) (by omega)];omega
   have y:c+1+(r+1)=i+1:=by omega
   simp only[n,Zf,Kz t,u,Za,E l[i] (Vc v),B];rw[y]
   cases H:p l[i] with
   |true=>
    rw[Zn H,List.append_nil]at j
    exact⟨_,rfl,k,rfl,by omega,b,by grind,h⟩
   |false=>
    rw[Zg (by grind)]at j;have m:k<fr.length:=by omega
    have C:Vd .i64 ((k:Int)+1)=((k+1:Nat):Int):=by rw[ZB (by omega) (by omega)];omega
    simp only[Bool.not_false,Zf,Kz m,Za,Vb m,C];refine⟨_,rfl,k+1,rfl,by omega,by grind,?_,?_⟩
    .have O:(fr.set k l[i]).take (k+1)=fr.take k++[l[i]]:=by rw[Va (by grind),List.take_set_of_le (Nat.le_refl _),List.getElem_set_self]
     grind
    rw[List.drop_set_of_lt (by omega)];omega
  .rintro ⟨fr,_⟩ ⟨k,rfl,q,b,d,_⟩;have e:c+1+(l.length - (c+1))=l.length:=by omega
   rw[e]at d q;rw[Vh]at d;have n:Ue (((c+1+(l.length - (c+1)):Nat):Int)<((fr.length:Nat):Int))=false:=by grind
   exact⟨(fr,(k:Int)),by grind,k,rfl,q,b,d⟩
  rw[Nat.add_zero,Va w,Vf,o,List.filter_cons_of_neg (by grind)];simp
 rintro ⟨fr,_⟩ ⟨k,rfl,q,b,d⟩;simp only at b d;have z:sliceB fr.length fr.length (Ua (k:Int)) Ub=Ua (k,fr.length):=Zdd (by omega);simp only[z,Za];have I:Zw (Ue (k+(fr.length - k)<=fr.length))=Ua ():=by rw[Zi (by omega)];rfl
 rw[I];simp only[Za];generalize Q:List.replicate (fr.length - k) (none:El Y91)=Z;have N:Z.length=fr.length - k:=by grind
 have L:(Vl k fr++Z++Vg (k+(fr.length - k)) fr).length=fr.length:=by grind
 have M:sliceB (Vl k fr++Z++Vg (k+(fr.length - k)) fr).length (Vl k fr++Z++Vg (k+(fr.length - k)) fr).length Ub (Ua (k:Int))=Ua (0,k):=by unfold sliceB;grind
 grind
theorem Zjj{n}(h:n+1<=549755813888):Zw (Ue (n+1<=Zt))=Ua ():=by rw[Zi (show n+1<=Zt from h)];rfl
theorem Zv2{n q lk bags op fd b}{y:El Y94}{i:Nat} d(B:y.1=(i:Int)){pc pd:El Y91->Bool}
 (f:∀x∈bags[i],F111 x (Ua (b,y))=Ua (pc x)) (g:∀x∈bags[i],F111 (Ua (b,y)) x=Ua (pd x)) (C:bags[i].length+1<=549755813888) (z:op.length+1<=549755813888) (t:fd.length+1<=549755813888):
 F105 (n,q,lk,bags,op,fd,()) (Ua (b,y))=Ua (if bags[i].any pc=Uc then(n,q,lk,bags,op,fd,()) else(n,q,lk,bags.set i ((bags[i].filter λx=> !pd x)++[Ua (b,y)]),op++[Ua (b,y)],if y.1=q.2.1 then fd++[Ua (b,y)] else fd,())):=by
 unfold F105;have l:Tr.idx bags i=Ua bags[i]:=ZC d;have e:Zo y.1 bags.length=Ua i:=by rw[B];exact Kz d
 simp only[Za,e,Vb d,l];generalize o:bags[i]=row at*;refine KK (λr=>(r=.inl ()/\row.any pc=Ud)\/(r=.inr ()/\row.any pc=Uc)) ?_ ?_
 .refine Kg row.length _ (λj s=>s=(j:Int)/\∀x∈row.take j,pc x=Ud) ?_ ?_ _ (by simp)
  .rintro j _ a ⟨rfl,h⟩;have k:∀w,w∈row.take (j+1)↔w∈row.take j\/w=row[j]:=λw=>by rw[Va a,Vi,Ve]
   simp only[ZL a,Kz a,Za,Vb a,f row[j] (Vc a)]
   cases m:pc row[j] with
   |true=>exact .inr ⟨.inr (),rfl,.inr ⟨rfl,List.any_eq_true.2 ⟨_,Vc a,m⟩⟩⟩
   |false=>
    refine .inl ⟨_,rfl,ZU a (by omega),λw A=>?_⟩;obtain p|rfl:=(k w).1 A;.exact h w p
    exact m
  rintro _ ⟨rfl,h⟩;rw[Vh]at h;rw[Zm (by omega)];exact⟨.inl (),rfl,.inl ⟨rfl,by rw[List.any_eq_false];intro x l;rw[h x l];simp⟩⟩
 rintro r (⟨rfl,h⟩|⟨rfl,h⟩)
 .have u:(row.filter λx=> !pd x).length<=row.length:=List.length_filter_le _ _;simp only[Zup g (by omega),Za,List.length_singleton,Zjj (show (row.filter λx=> !pd x).length+1<=549755813888 by omega),Zjj z,Zjj t,h];have v:Zw (ZaS (Ua (Int.toNat ((i:Nat)))) i)=Ua ():=by simp[ZaS,Zw]
  rw[v];simp[Za];by_cases c:y.1=q.2.1;.rw[Zi c,Zn c];simp
  rw[Zm c,Zg c];simp
 simp[Sum.elim_inr,h]
end Qn
