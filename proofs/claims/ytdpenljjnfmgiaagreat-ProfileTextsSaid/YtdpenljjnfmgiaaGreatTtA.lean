/- A sort by a comparator that checks its own answer: if every two elements of the answer are told apart, there is one sorted order. Plain Lean. Conditions: none. -/
open Bool renaming and_eq_true ->Vb
open List renaming getElem_mem ->Vc
open Option renaming bind_eq_some_iff ->Va
namespace Tr
universe u
variable {α:Type u}
def Znu(cmp:α->α->Option Int)(x:α):List α->Option (List α)
 | []=>some [x]
 |y::l=>(cmp x y).bind fun c=>bif decide (c<0) then some (x::y::l) else(Znu cmp x l).bind fun m=>some (y::m)
def ZgS(cmp:α->α->Option Int):List α->Option (List α)
 | []=>some []
 |x::l=>(ZgS cmp l).bind fun m=>Znu cmp x m
def ltB(cmp:α->α->Option Int)(x y:α):Bool:=match cmp x y,cmp y x with
 |some a,some b=>decide (a<0) &&decide (0<b)
 |_,_=>false
def Zmf(cmp:α->α->Option Int)(x:α):Bool:=match cmp x x with
 |some a=> !decide (a<0)
 |none=>false
def Zd9(cmp:α->α->Option Int):List α->Bool
 | []=>true
 |x::l=>Zmf cmp x&&l.all (ltB cmp x) &&Zd9 cmp l
def sortF(cmp:α->α->Option Int)(xs:List α):Option (List α):=
 bif decide (xs.length<4294967296) then(ZgS cmp xs).bind fun ys=>bif Zd9 cmp ys then some ys else none else none
theorem Zho{cmp:α->α->Option Int}{x:α} : ∀ {l m:List α},Znu cmp x l=some m->m.Perm (x::l)
 | [],m,h=>by simp only[Znu,Option.some.injEq]at h;subst h;exact .refl _
 |y::l,m,h=>by
  simp only[Znu,Va]at h;obtain⟨c,_,h⟩:=h
  cases hd:decide (c<0) with
  |true=>rw[hd]at h;simp only[cond_true,Option.some.injEq]at h;subst h;exact .refl _
  |false=>
   rw[hd]at h;simp only[cond_false,Va,Option.some.injEq]at h;obtain⟨m',h1,rfl⟩:=h;exact((Zho h1).cons y).trans (.swap _ _ _)
theorem ZeU{cmp:α->α->Option Int} : ∀ {l m:List α},ZgS cmp l=some m->m.Perm l
 | [],m,h=>by simp only[ZgS,Option.some.injEq]at h;subst h;exact .refl _
 |x::l,m,h=>by simp only[ZgS,Va]at h;obtain⟨m',h1,h2⟩:=h;exact(Zho h2).trans ((ZeU h1).cons x)
theorem Zja{cmp:α->α->Option Int}{xs ys:List α}(h:sortF cmp xs=some ys):xs.length<4294967296/\ys.Perm xs/\Zd9 cmp ys=true:=by
 unfold sortF at h
 cases hd:decide (xs.length<4294967296) with
 |false=>rw[hd]at h;simp at h
 |true=>
  rw[hd]at h;simp only[cond_true,Va]at h;obtain⟨m,h1,h2⟩:=h
  cases hs:Zd9 cmp m with
  |false=>rw[hs]at h2;simp at h2
  |true=>rw[hs]at h2;simp only[cond_true,Option.some.injEq]at h2;subst h2;exact⟨of_decide_eq_true hd,ZeU h1,hs⟩
theorem ZiQ{cmp:α->α->Option Int}{x y:α}(h:ltB cmp x y=true): ∃a b,cmp x y=some a/\cmp y x=some b/\a<0/\0<b:=by
 unfold ltB at h;split at h
 ·rename_i a b h1 h2;simp only[Vb,decide_eq_true_eq]at h;exact⟨a,b,h1,h2,h.1,h.2⟩
 ·simp at h
theorem Zi5{cmp:α->α->Option Int}{x:α}(h:Zmf cmp x=true): ∃a,cmp x x=some a/\ ¬a<0:=by
 unfold Zmf at h;split at h
 ·rename_i a h1;exact⟨a,h1,by simpa using h⟩
 ·simp at h
theorem Zcz{cmp:α->α->Option Int} : ∀ {l:List α},Zd9 cmp l=true-> ∀ (i j:Nat) (hi:i<l.length) (hj:j<l.length), ∃c,cmp l[i] l[j]=some c/\(c<0↔i<j)
 | [],_,i,j,hi,_=>by simp at hi
 |x::l,h,i,j,hi,hj=>by
  simp only[Zd9,Vb,List.all_eq_true]at h;obtain⟨⟨h1,h2⟩,h3⟩:=h
  match i,j,hi,hj with
  |0,0,_,_=>obtain⟨a,ha,hn⟩:=Zi5 h1;exact⟨a,ha,by omega⟩
  |0,j+1,_,hj=>obtain⟨a,b,ha,_,hn,_⟩:=ZiQ (h2 _ (Vc (by simpa using hj:j<l.length)));exact⟨a,by simpa using ha,by omega⟩
  |i+1,0,hi,_=>obtain⟨a,b,_,hb,_,hn⟩:=ZiQ (h2 _ (Vc (by simpa using hi:i<l.length)));exact⟨b,by simpa using hb,by omega⟩
  |i+1,j+1,hi,hj=>
   obtain⟨c,hc,hn⟩:=Zcz h3 i j (by simpa using hi) (by simpa using hj);exact⟨c,by simpa using hc,by omega⟩
end Tr
