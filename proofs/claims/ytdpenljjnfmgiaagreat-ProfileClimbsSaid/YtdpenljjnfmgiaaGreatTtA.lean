/- A sort by a comparator that checks its own answer: if every two elements of the answer are told apart, there is one sorted order. Plain Lean. Conditions: none. -/
open Bool renaming and_eq_true ->Vd
open List renaming getElem_mem ->Vb,getElem?_eq_some_iff ->Vc
open Option renaming bind_eq_some_iff ->Va
namespace Tr
universe u
variable {α:Type u}
def Zn2(cmp:α->α->Option Int)(x:α):List α->Option (List α)
 | []=>some [x]
 |y::l=>(cmp x y).bind fun c=>bif decide (c<0) then some (x::y::l) else(Zn2 cmp x l).bind fun m=>some (y::m)
def Zhs(cmp:α->α->Option Int):List α->Option (List α)
 | []=>some []
 |x::l=>(Zhs cmp l).bind fun m=>Zn2 cmp x m
def ltB(cmp:α->α->Option Int)(x y:α):Bool:=match cmp x y,cmp y x with
 |some a,some b=>decide (a<0) &&decide (0<b)
 |_,_=>false
def ZmE(cmp:α->α->Option Int)(x:α):Bool:=match cmp x x with
 |some a=> !decide (a<0)
 |none=>false
def Zdz(cmp:α->α->Option Int):List α->Bool
 | []=>true
 |x::l=>ZmE cmp x&&l.all (ltB cmp x) &&Zdz cmp l
def sortF(cmp:α->α->Option Int)(xs:List α):Option (List α):=
 bif decide (xs.length<4294967296) then(Zhs cmp xs).bind fun ys=>bif Zdz cmp ys then some ys else none else none
theorem Zhg{cmp:α->α->Option Int}{x:α} : ∀ {l m:List α},Zn2 cmp x l=some m->m.Perm (x::l)
 | [],m,h=>by simp only[Zn2,Option.some.injEq]at h;subst h;exact .refl _
 |y::l,m,h=>by
  simp only[Zn2,Va]at h;obtain⟨c,_,h⟩:=h
  cases hd:decide (c<0) with
  |true=>rw[hd]at h;simp only[cond_true,Option.some.injEq]at h;subst h;exact .refl _
  |false=>
   rw[hd]at h;simp only[cond_false,Va,Option.some.injEq]at h;obtain⟨m',h1,rfl⟩:=h;exact((Zhg h1).cons y).trans (.swap _ _ _)
theorem Zfy{cmp:α->α->Option Int} : ∀ {l m:List α},Zhs cmp l=some m->m.Perm l
 | [],m,h=>by simp only[Zhs,Option.some.injEq]at h;subst h;exact .refl _
 |x::l,m,h=>by simp only[Zhs,Va]at h;obtain⟨m',h1,h2⟩:=h;exact(Zhg h2).trans ((Zfy h1).cons x)
theorem ZfT{cmp:α->α->Option Int}{xs ys:List α}(h:sortF cmp xs=some ys):xs.length<4294967296/\ys.Perm xs/\Zdz cmp ys=true:=by
 unfold sortF at h
 cases hd:decide (xs.length<4294967296) with
 |false=>rw[hd]at h;simp at h
 |true=>
  rw[hd]at h;simp only[cond_true,Va]at h;obtain⟨m,h1,h2⟩:=h
  cases hs:Zdz cmp m with
  |false=>rw[hs]at h2;simp at h2
  |true=>rw[hs]at h2;simp only[cond_true,Option.some.injEq]at h2;subst h2;exact⟨of_decide_eq_true hd,Zfy h1,hs⟩
theorem ZiY{cmp:α->α->Option Int}{x y:α}(h:ltB cmp x y=true): ∃a b,cmp x y=some a/\cmp y x=some b/\a<0/\0<b:=by
 unfold ltB at h;split at h
 ·rename_i a b h1 h2;simp only[Vd,decide_eq_true_eq]at h;exact⟨a,b,h1,h2,h.1,h.2⟩
 ·simp at h
theorem Zjo{cmp:α->α->Option Int}{x:α}(h:ZmE cmp x=true): ∃a,cmp x x=some a/\ ¬a<0:=by
 unfold ZmE at h;split at h
 ·rename_i a h1;exact⟨a,h1,by simpa using h⟩
 ·simp at h
theorem Zeh{cmp:α->α->Option Int} : ∀ {l:List α},Zdz cmp l=true-> ∀ (i j:Nat) (hi:i<l.length) (hj:j<l.length), ∃c,cmp l[i] l[j]=some c/\(c<0↔i<j)
 | [],_,i,j,hi,_=>by simp at hi
 |x::l,h,i,j,hi,hj=>by
  simp only[Zdz,Vd,List.all_eq_true]at h;obtain⟨⟨h1,h2⟩,h3⟩:=h
  match i,j,hi,hj with
  |0,0,_,_=>obtain⟨a,ha,hn⟩:=Zjo h1;exact⟨a,ha,by omega⟩
  |0,j+1,_,hj=>obtain⟨a,b,ha,_,hn,_⟩:=ZiY (h2 _ (Vb (by simpa using hj:j<l.length)));exact⟨a,by simpa using ha,by omega⟩
  |i+1,0,hi,_=>obtain⟨a,b,_,hb,_,hn⟩:=ZiY (h2 _ (Vb (by simpa using hi:i<l.length)));exact⟨b,by simpa using hb,by omega⟩
  |i+1,j+1,hi,hj=>
   obtain⟨c,hc,hn⟩:=Zeh h3 i j (by simpa using hi) (by simpa using hj);exact⟨c,by simpa using hc,by omega⟩
def Ze6(cmp:α->α->Option Int)(z:List α):Prop:= ∃rk:α->Nat,(∀a∈z, ∀b∈z, ∃c,cmp a b=some c/\(c<0↔rk a<rk b))/\(∀a∈z, ∀b∈z,rk a=rk b->a=b)/\z.Pairwise fun a b=>rk a<=rk b
theorem Zd4{cmp:α->α->Option Int}{z:List α}(h:Zdz cmp z=true):Ze6 cmp z:=by
 have hix: ∃rk:α->Nat, ∀a,a∈z->z[rk a]? =some a:=by
  refine Classical.axiomOfChoice (r:=fun(a:α) (i:Nat)=>a∈z->z[i]? =some a) fun a=> ?_;by_cases ha:a∈z
  ·obtain⟨i,hi,h2⟩:=List.getElem_of_mem ha;exact⟨i,fun _=>by rw[List.getElem?_eq_getElem hi,h2]⟩
  ·exact⟨0,fun h=>absurd h ha⟩
 obtain⟨rk,hrk⟩:=hix
 have hat: ∀a∈z, ∀b∈z, ∃c,cmp a b=some c/\(c<0↔rk a<rk b):=fun a ha b hb=>by
  obtain⟨hi,h1⟩:=Vc.1 (hrk a ha);obtain⟨hj,h2⟩:=Vc.1 (hrk b hb);have:=Zeh h _ _ hi hj
  rwa [h1,h2]at this
 refine⟨rk,hat,fun a ha b hb e=> ?_, ?_⟩
 ·have h1:=hrk a ha;rw[e,hrk b hb]at h1;exact(Option.some.inj h1).symm
 ·rw[List.pairwise_iff_getElem];intro i j hi hj hij;obtain⟨c,h1,h2⟩:=Zeh h i j hi hj;obtain⟨c',h3,h4⟩:=hat _ (Vb hi) _ (Vb hj);rw[h1]at h3;cases h3;exact Nat.le_of_lt (h4.1 (h2.2 hij))
open Classical in
noncomputable def sortX(cmp:α->α->Option Int)(xs:List α):Option (List α):=match sortF cmp xs with
 |some z=>some z
 |none=>if h:xs.length<4294967296/\ ∃z:List α,z.Perm xs/\Ze6 cmp z then some (choose h.2) else none
theorem Zgc{cmp:α->α->Option Int}{xs z:List α}(h:sortX cmp xs=some z):xs.length<4294967296/\z.Perm xs/\Ze6 cmp z:=by
 unfold sortX at h;split at h
 ·rename_i y hy;cases h;obtain⟨h1,h2,h3⟩:=ZfT hy;exact⟨h1,h2,Zd4 h3⟩
 ·split at h
  ·rename_i hx;cases h;exact⟨hx.1,(Classical.choose_spec hx.2).1,(Classical.choose_spec hx.2).2⟩
  ·cases h
theorem Zmi{cmp:α->α->Option Int}{xs:List α}(hl:xs.length<4294967296)(hz: ∃z:List α,z.Perm xs/\Ze6 cmp z): ∃z,sortX cmp xs=some z:=by
 unfold sortX;split
 ·exact⟨_,rfl⟩
 ·rw[dif_pos ⟨hl,hz⟩];exact⟨_,rfl⟩
end Tr
