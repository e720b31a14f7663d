/- profile's keep in terms of contents. Conditions: none. -/
import Derived.Test.YtdpenljjnfmgiaaGreatETrSc
import Derived.Test.YtdpenljjnfmgiaaGreatFin45na
import Derived.Test.YtdpenljjnfmgiaaGreatETsF
open Go.IntKind renaming wrap ->Vd
open List renaming take_succ_eq_append_getElem ->Va,getElem?_eq_getElem ->Vb,getElem_mem ->Vc,mem_singleton ->Ve,filter_append ->Vf,drop ->Vg,take_length ->Vh,mem_append ->Vi,head?_drop ->Vj,drop_drop ->Vk,take ->Vl
namespace Qn
open Tr Q Go Go.Proofs
theorem ZV{i n:Nat}(h:i<n):decide ((i:Int)<(n:Int))=true:=Zi (by omega)
theorem Ka{i n:Nat}(h:i<n)(a:n<=549755813888):Vd .i64 ((i:Int)+1)=((i+1:Nat):Int):=by rw[Z1 (by omega) (by omega)];omega
theorem Zcz{n k:Nat}(h:k<=n):sliceB n n (some (k:Int)) none=some (k,n):=by
 unfold sliceB
 grind
theorem Zq5{a:El Y91}{p:El Y91->Bool}{l:List (El Y91)}(f:∀x∈l,F112 a x=some (p x))(m:l.length<=549755813888):(F156 l (a,())=some (-1)/\ ∀x∈l,p x=false)\/ ∃i,∃b:i<l.length,F156 l (a,())=some (i:Int)/\(∀x∈l.take i,p x=false)/\p l[i]=true:=by
 unfold F156
 suffices g:∃r:Unit ⊕ Int,_=some r/\((r=.inl ()/\ ∀x∈l,p x=false)\/ ∃i:Nat,∃b:i<l.length,r=.inr (i:Int)/\(∀x∈l.take i,p x=false)/\p l[i]=true) by
  obtain⟨r,d,e⟩:=g;rcases e with ⟨rfl,h⟩|⟨i,b,rfl,h⟩
  ·exact .inl ⟨WE (fun x=>x=Sum.inl ()) ⟨_,d,rfl⟩ (fun x c=>by subst c;rfl),h⟩
  grind
 refine Wa l.length (fun r:Unit ⊕ Int=>(r=.inl ()/\ ∀x∈l,p x=false)\/ ∃i:Nat,∃b:i<l.length,r=.inr (i:Int)/\(∀x∈l.take i,p x=false)/\p l[i]=true) (fun i (s:Int)=>s=(i:Int)/\ ∀x∈l.take i,p x=false) ?_ ?_ _ (by simp)
 ·rintro i _ b ⟨rfl,h⟩;have c:Tr.idx l (i:Int)=some l[i]:=ZI b;have j:∀w,w∈l.take (i+1)↔w∈l.take i\/w=l[i]:=fun w=>by rw[Va b,Vi,Ve]
  simp only[ZV b,Zc,c,Za,f l[i] (Vc b)]
  cases k:p l[i] with
  |true=>grind
  |false=>
   refine .inl ⟨_,rfl,Ka b (by omega),fun w n=>?_⟩
   grind
 simp
theorem ZpP{a:El Y91}{p:El Y91->Bool}{l:List (El Y91)}(E:∀x∈l,F112 a x=some (p x))(J:l.length<=549755813888):F154 l (a,())=some (l.filter fun x=> !p x):=by
 unfold F154;rcases Zq5 E J with ⟨f,F⟩|⟨c,w,f,F,D⟩
 ·rw[f];simp only[Za,decide_true,Zc];rw[List.filter_eq_self.2 (by grind)]
 ·rw[f];have A:Vd .i64 ((c:Int)+1)=((c+1:Nat):Int):=by rw[Z1 (by omega) (by omega)];omega
  simp only[Za,Zv (show¬(c:Int)= -1 by omega),Ze,A];refine WE (fun r:List (El Y91) ×Int=>∃k:Nat,r.2=(k:Int)/\k<=l.length/\r.1.length=l.length/\r.1.take k=l.filter fun x=> !p x) ?_ ?_
  ·have o:(l.take c).filter (fun x=> !p x)=l.take c:=by simp_all
   refine Wa (l.length - (c+1)) _ (fun r (s:List (El Y91) ×Int×Int)=>∃k:Nat,s.2=((k:Int),((c+1+r:Nat):Int))/\k<=c+1+r/\s.1.length=l.length/\(s.1.take k=(l.take (c+1+r)).filter fun x=> !p x)/\s.1.drop (c+1+r)=l.drop (c+1+r)) ?_ ?_ _ ⟨c,rfl,by omega,rfl,?_,rfl⟩
   ·rintro r ⟨fr,_⟩ O ⟨k,rfl,q,b,d,g⟩;left;simp only at b d g;have v:c+1+r<l.length:=by omega
    generalize I:c+1+r=i at*;have t:i<fr.length:=by omega
    have u:fr[i]? =some l[i]:=by have f:=congrArg List.head? g;rw[Vj,Vj,Vb v]at f;omega
    have j:(l.take (i+1)).filter (fun x=> !p x)=(l.take i).filter (fun x=> !p x)++(if p l[i]=true then [] else [l[i]]):=by
     rw[Va v,Vf]
     grind
    have h:fr.drop (i+1)=l.drop (i+1):=by have f:=congrArg (Vg 1) g;rw[Vk,Vk]at f;omega
    have n:decide ((i:Int)<((fr.length:Nat):Int))=true:=by grind
    have B:Vd .i64 ((i:Int)+1)=((c+1+(r+1):Nat):Int):=by rw[Z1 (by omega) (by omega)];omega
    have y:c+1+(r+1)=i+1:=by omega
    simp only[n,Zc,KT t,u,Za,E l[i] (Vc v),B];rw[y]
    cases G:p l[i] with
    |true=>
     rw[Zr G,List.append_nil]at j
     exact⟨_,rfl,k,rfl,by omega,b,by grind,h⟩
    |false=>
     rw[Zf (by grind)]at j;have m:k<fr.length:=by omega
     have C:Vd .i64 ((k:Int)+1)=((k+1:Nat):Int):=by rw[Z1 (by omega) (by omega)];omega
     simp only[Bool.not_false,Zc,KT m,Za,Vb m,C];refine⟨_,rfl,k+1,rfl,by omega,by grind,?_,?_⟩
     ·have N:(fr.set k l[i]).take (k+1)=fr.take k++[l[i]]:=by rw[Va (by grind),List.take_set_of_le (Nat.le_refl _),List.getElem_set_self]
      grind
     ·rw[List.drop_set_of_lt (by omega)];omega
   ·rintro ⟨fr,_⟩ ⟨k,rfl,q,b,d,_⟩;have e:c+1+(l.length - (c+1))=l.length:=by omega
    rw[e]at d q;rw[Vh]at d;have n:decide (((c+1+(l.length - (c+1)):Nat):Int)<((fr.length:Nat):Int))=false:=by grind
    exact⟨(fr,(k:Int)),by grind,k,rfl,q,b,d⟩
   ·rw[Nat.add_zero,Va w,Vf,o,List.filter_cons_of_neg (by grind)];simp
  ·rintro ⟨fr,_⟩ ⟨k,rfl,q,b,d⟩;simp only at b d;have z:sliceB fr.length fr.length (some (k:Int)) none=some (k,fr.length):=Zcz (by omega);simp only[z,Za];have H:Zy (decide (k+(fr.length - k)<=fr.length))=some ():=by rw[Zi (by omega)];rfl
   rw[H];simp only[Za];generalize P:List.replicate (fr.length - k) (none:El Y91)=Z;have M:Z.length=fr.length - k:=by grind
   have K:(Vl k fr++Z++Vg (k+(fr.length - k)) fr).length=fr.length:=by
    grind
   have L:sliceB (Vl k fr++Z++Vg (k+(fr.length - k)) fr).length (Vl k fr++Z++Vg (k+(fr.length - k)) fr).length none (some (k:Int))=some (0,k):=by
    unfold sliceB
    grind
   grind
theorem Zgu{n:Nat}(h:n+1<=549755813888):Zy (decide (n+1<=ZC))=some ():=by rw[Zi (show n+1<=ZC from h)];rfl
theorem Zrh{n:El Zh}{q:El Zm}{lk:El Zx}{bags:List (List (El Y91))}{op fd:List (El Y91)}{b:Nat}{y:El Y94}{i:Nat}(d:i<bags.length)(B:y.1=(i:Int)){pc pd:El Y91->Bool}
 (f:∀x∈bags[i],F112 x (some (b,y))=some (pc x)) (g:∀x∈bags[i],F112 (some (b,y)) x=some (pd x)) (C:bags[i].length+1<=549755813888) (z:op.length+1<=549755813888) (t:fd.length+1<=549755813888):
 F106 (n,q,lk,bags,op,fd,()) (some (b,y))=some (if bags[i].any pc=true then(n,q,lk,bags,op,fd,()) else(n,q,lk,bags.set i ((bags[i].filter fun x=> !pd x)++[some (b,y)]),op++[some (b,y)],if y.1=q.2.1 then fd++[some (b,y)] else fd,())):=by
 unfold F106;have l:Tr.idx bags (i:Int)=some bags[i]:=ZI d;have e:ZA y.1 bags.length=some i:=by rw[B];exact KT d
 simp only[Za,e,Vb d,l];generalize o:bags[i]=row at*;refine WE (fun r:Unit ⊕ Unit=>(r=.inl ()/\row.any pc=false)\/(r=.inr ()/\row.any pc=true)) ?_ ?_
 ·refine Wa row.length _ (fun j (s:Int)=>s=(j:Int)/\ ∀x∈row.take j,pc x=false) ?_ ?_ _ (by simp)
  ·rintro j _ a ⟨rfl,h⟩;have k:∀w,w∈row.take (j+1)↔w∈row.take j\/w=row[j]:=fun w=>by rw[Va a,Vi,Ve]
   simp only[ZV a,Zc,KT a,Za,Vb a,f row[j] (Vc a)]
   cases m:pc row[j] with
   |true=>exact .inr ⟨.inr (),rfl,.inr ⟨rfl,List.any_eq_true.2 ⟨_,Vc a,m⟩⟩⟩
   |false=>
    refine .inl ⟨_,rfl,Ka a (by omega),fun w A=>?_⟩;rcases (k w).1 A with p|rfl
    ·exact h w p
    ·exact m
  ·rintro _ ⟨rfl,h⟩;rw[Vh]at h;rw[Zv (by omega)];exact⟨.inl (),rfl,.inl ⟨rfl,by rw[List.any_eq_false];intro x l;rw[h x l];simp⟩⟩
 ·rintro r (⟨rfl,h⟩|⟨rfl,h⟩)
  ·have u:(row.filter fun x=> !pd x).length<=row.length:=List.length_filter_le _ _;simp only[Sum.elim_inl,ZpP g (by omega),Za,List.length_singleton,Zgu (show (row.filter fun x=> !pd x).length+1<=549755813888 by omega),Zgu z,Zgu t,h];have v:Zy (DS (some (Int.toNat ((i:Nat):Int))) i)=some ():=by simp [DS,Zy]
   rw[v];simp only[Za];by_cases c:y.1=q.2.1
   ·rw[Zi c,Zr c];simp
   ·rw[Zv c,Zf c];simp
  ·simp only[Sum.elim_inr,h,if_true]
end Qn
