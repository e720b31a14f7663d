/- A sort by a comparator that checks its own answer: if every two elements of the answer are told apart, there is one sorted order. Plain Lean. Conditions: none. -/
open Bool renaming and_eq_true ->Vc
open List renaming pairwise_cons ->Va,getElem_mem ->Vd,getElem?_eq_some_iff ->Ve,all_eq_true ->Vf,mem_cons ->Vg
open Option renaming bind_eq_some_iff ->Vb
namespace Tr
universe u
variable {α:Type u}
def Zpg(cmp:α->α->Option Int)(x:α):List α->Option (List α)
 | []=>some [x]
 |y::l=>(cmp x y).bind fun c=>bif decide (c<0) then some (x::y::l) else(Zpg cmp x l).bind fun m=>some (y::m)
def Zgn(cmp:α->α->Option Int):List α->Option (List α)
 | []=>some []
 |x::l=>(Zgn cmp l).bind fun m=>Zpg cmp x m
def ltB(cmp:α->α->Option Int)(x y:α):Bool:=match cmp x y,cmp y x with
 |some a,some b=>decide (a<0) &&decide (0<b)
 |_,_=>false
def ZoD(cmp:α->α->Option Int)(x:α):Bool:=match cmp x x with
 |some a=> !decide (a<0)
 |none=>false
def Zdn(cmp:α->α->Option Int):List α->Bool
 | []=>true
 |x::l=>ZoD cmp x&&l.all (ltB cmp x) &&Zdn cmp l
def sortF(cmp:α->α->Option Int)(xs:List α):Option (List α):=
 bif decide (xs.length<4294967296) then(Zgn cmp xs).bind fun ys=>bif Zdn cmp ys then some ys else none else none
theorem ZgE{cmp:α->α->Option Int}{x:α} : ∀ {l m:List α},Zpg cmp x l=some m->m.Perm (x::l)
 | [],m,h=>by simp only[Zpg,Option.some.injEq]at h;subst h;exact .refl _
 |y::l,m,h=>by
  simp only[Zpg,Vb]at h;obtain⟨c,_,h⟩:=h
  cases hd:decide (c<0) with
  |true=>rw[hd]at h;simp only[cond_true,Option.some.injEq]at h;subst h;exact .refl _
  |false=>
   rw[hd]at h;simp only[cond_false,Vb,Option.some.injEq]at h;obtain⟨m',h1,rfl⟩:=h;exact((ZgE h1).cons y).trans (.swap _ _ _)
theorem Zdo{cmp:α->α->Option Int} : ∀ {l m:List α},Zgn cmp l=some m->m.Perm l
 | [],m,h=>by simp only[Zgn,Option.some.injEq]at h;subst h;exact .refl _
 |x::l,m,h=>by simp only[Zgn,Vb]at h;obtain⟨m',h1,h2⟩:=h;exact(ZgE h2).trans ((Zdo h1).cons x)
theorem ZlB{cmp:α->α->Option Int}{xs ys:List α}(h:sortF cmp xs=some ys):xs.length<4294967296/\ys.Perm xs/\Zdn cmp ys=true:=by
 unfold sortF at h
 cases hd:decide (xs.length<4294967296) with
 |false=>rw[hd]at h;simp at h
 |true=>
  rw[hd]at h;simp only[cond_true,Vb]at h;obtain⟨m,h1,h2⟩:=h
  cases hs:Zdn cmp m with
  |false=>rw[hs]at h2;simp at h2
  |true=>rw[hs]at h2;simp only[cond_true,Option.some.injEq]at h2;subst h2;exact⟨of_decide_eq_true hd,Zdo h1,hs⟩
theorem Zkr{cmp:α->α->Option Int}{x y:α}(h:ltB cmp x y=true): ∃a b,cmp x y=some a/\cmp y x=some b/\a<0/\0<b:=by
 unfold ltB at h;split at h
 ·rename_i a b h1 h2;simp only[Vc,decide_eq_true_eq]at h;exact⟨a,b,h1,h2,h.1,h.2⟩
 ·simp at h
theorem Zlm{cmp:α->α->Option Int}{x:α}(h:ZoD cmp x=true): ∃a,cmp x x=some a/\ ¬a<0:=by
 unfold ZoD at h;split at h
 ·rename_i a h1;exact⟨a,h1,by simpa using h⟩
 ·simp at h
theorem Zfh{cmp:α->α->Option Int} : ∀ {l:List α},Zdn cmp l=true-> ∀ (i j:Nat) (hi:i<l.length) (hj:j<l.length), ∃c,cmp l[i] l[j]=some c/\(c<0↔i<j)
 | [],_,i,j,hi,_=>by simp at hi
 |x::l,h,i,j,hi,hj=>by
  simp only[Zdn,Vc,Vf]at h;obtain⟨⟨h1,h2⟩,h3⟩:=h
  match i,j,hi,hj with
  |0,0,_,_=>obtain⟨a,ha,hn⟩:=Zlm h1;exact⟨a,ha,by omega⟩
  |0,j+1,_,hj=>obtain⟨a,b,ha,_,hn,_⟩:=Zkr (h2 _ (Vd (by simpa using hj:j<l.length)));exact⟨a,by simpa using ha,by omega⟩
  |i+1,0,hi,_=>obtain⟨a,b,_,hb,_,hn⟩:=Zkr (h2 _ (Vd (by simpa using hi:i<l.length)));exact⟨b,by simpa using hb,by omega⟩
  |i+1,j+1,hi,hj=>
   obtain⟨c,hc,hn⟩:=Zfh h3 i j (by simpa using hi) (by simpa using hj);exact⟨c,by simpa using hc,by omega⟩
theorem Zkh{cmp:α->α->Option Int}(lt:α->α->Prop)(x:α): ∀ (l:List α),(∀y∈l, ∃c,cmp x y=some c/\(c<0↔lt x y))->(∀y∈l,lt x y\/lt y x)->(∀a∈l, ∀b∈l,lt x a->lt a b->lt x b)->l.Pairwise lt->
  ∃m,Zpg cmp x l=some m/\m.Pairwise lt
 | [],_,_,_,_=>⟨[x],rfl,by simp⟩
 |y::l,hc,hlin,ht,hp=>by
  obtain⟨c,h1,h2⟩:=hc y (by simp);rw[Va]at hp;simp only[Zpg,h1,Option.bind_some];by_cases hd:c<0
  ·rw[decide_eq_true hd];refine⟨_,rfl,Va.2 ⟨fun z hz=> ?_,Va.2 hp⟩⟩;rcases Vg.1 hz with rfl|hz'
   ·exact h2.1 hd
   ·exact ht y (by simp) z hz (h2.1 hd) (hp.1 z hz')
  ·rw[decide_eq_false hd];obtain⟨m,h3,h4⟩:=Zkh lt x l (fun z hz=>hc z (by simp [hz])) (fun z hz=>hlin z (by simp [hz])) (fun a ha b hb=>ht a (by simp [ha]) b (by simp [hb])) hp.2;refine⟨y::m,by simp [h3],Va.2 ⟨fun z hz=> ?_,h4⟩⟩;rcases Vg.1 ((ZgE h3).mem_iff.1 hz) with rfl|hz'
   ·exact(hlin y (by simp)).resolve_left fun h=>hd (h2.2 h)
   ·exact hp.1 z hz'
theorem ZgS{cmp:α->α->Option Int}(lt:α->α->Prop): ∀ (l:List α),(∀x∈l, ∀y∈l, ∃c,cmp x y=some c/\(c<0↔lt x y)/\(0<c↔lt y x))->(∀x∈l, ¬lt x x)->l.Pairwise lt->Zdn cmp l=true
 | [],_,_,_=>rfl
 |x::l,h,hi,hp=>by
  rw[Va]at hp;simp only[Zdn,Vc,Vf];refine⟨⟨?_,fun y hy=> ?_⟩,ZgS lt l (fun a ha b hb=>h a (by simp [ha]) b (by simp [hb])) (fun a ha=>hi a (by simp [ha])) hp.2⟩
  ·obtain⟨c,h1,h2,_⟩:=h x (by simp) x (by simp);unfold ZoD;rw[h1];show (!decide (c<0))=true;rw[decide_eq_false fun hc=>hi x (by simp) (h2.1 hc)];rfl
  ·obtain⟨c,h1,h2,_⟩:=h x (by simp) y (by simp [hy]);obtain⟨d,h3,_,h4⟩:=h y (by simp [hy]) x (by simp);unfold ltB;rw[h1,h3];simp only[Vc,decide_eq_true_eq];exact⟨h2.2 (hp.1 y hy),h4.2 (hp.1 y hy)⟩
theorem Zms{cmp:α->α->Option Int}(lt:α->α->Prop)(xs:List α)(hl:xs.length<4294967296)(h: ∀x∈xs, ∀y∈xs, ∃c,cmp x y=some c/\(c<0↔lt x y)/\(0<c↔lt y x))(hirr: ∀x∈xs, ¬lt x x)
  (ht: ∀a∈xs, ∀b∈xs, ∀c∈xs,lt a b->lt b c->lt a c) (hap:xs.Pairwise fun a b=>lt a b\/lt b a): ∃ys,sortF cmp xs=some ys/\ys.Perm xs/\ys.Pairwise lt:=by
 have key: ∀l:List α,(∀x∈l,x∈xs)->(l.Pairwise fun a b=>lt a b\/lt b a)-> ∃m,Zgn cmp l=some m/\m.Pairwise lt:=by
  intro l
  induction l with
  |nil=>exact fun _ _=>⟨[],rfl, .nil⟩
  |cons x l ih=>
   intro hm hp;rw[Va]at hp;obtain⟨m,h1,h2⟩:=ih (fun y hy=>hm y (by simp [hy])) hp.2;have hmm: ∀y∈m,y∈l:=fun y hy=>(Zdo h1).mem_iff.1 hy;have hx:=hm x (by simp);have hml: ∀y∈m,y∈xs:=fun y hy=>hm y (by simp [hmm y hy]);obtain⟨m',h3,h4⟩:=Zkh lt x m (fun y hy=>(h x hx y (hml y hy)).imp fun c hc=>⟨hc.1,hc.2.1⟩) (fun y hy=>hp.1 y (hmm y hy)) (fun a ha b hb=>ht x hx a (hml a ha) b (hml b hb)) h2;exact⟨m',by simp [Zgn,h1,h3],h4⟩
 obtain⟨m,h1,h2⟩:=key xs (fun _ h=>h) hap;have hp:=Zdo h1;have hs:=ZgS lt m (fun x hx y hy=>h x (hp.mem_iff.1 hx) y (hp.mem_iff.1 hy)) (fun x hx=>hirr x (hp.mem_iff.1 hx)) h2;exact⟨m,by unfold sortF;rw[decide_eq_true hl];simp [h1,hs],hp,h2⟩
theorem sortF_sorted{cmp:α->α->Option Int}(lt:α->α->Prop)(xs:List α)(hl:xs.length<4294967296)(h: ∀x∈xs, ∀y∈xs, ∃c,cmp x y=some c/\(c<0↔lt x y)/\(0<c↔lt y x))(hirr: ∀x∈xs, ¬lt x x)
  (ht: ∀a∈xs, ∀b∈xs, ∀c∈xs,lt a b->lt b c->lt a c) (hs:xs.Pairwise lt):sortF cmp xs=some xs:=by
 obtain⟨ys,h1,h2,h3⟩:=Zms lt xs hl h hirr ht (hs.imp fun h=> .inl h);rw[h1];congr 1;refine List.Perm.eq_of_pairwise (le:=lt) (fun a b ha hb h4 h5=> ?_) h3 hs h2;exact absurd (ht a (h2.mem_iff.1 ha) b hb a (h2.mem_iff.1 ha) h4 h5) (hirr a (h2.mem_iff.1 ha))
def Zo3(cmp:α->α->Option Int)(z:List α):Prop:= ∃rk:α->Nat,(∀a∈z, ∀b∈z, ∃c,cmp a b=some c/\(c<0↔rk a<rk b))/\(∀a∈z, ∀b∈z,rk a=rk b->a=b)/\z.Pairwise fun a b=>rk a<=rk b
theorem Zh7{cmp:α->α->Option Int}{z:List α}(h:Zdn cmp z=true):Zo3 cmp z:=by
 have hix: ∃rk:α->Nat, ∀a,a∈z->z[rk a]? =some a:=by
  refine Classical.axiomOfChoice (r:=fun(a:α) (i:Nat)=>a∈z->z[i]? =some a) fun a=> ?_;by_cases ha:a∈z
  ·obtain⟨i,hi,h2⟩:=List.getElem_of_mem ha;exact⟨i,fun _=>by rw[List.getElem?_eq_getElem hi,h2]⟩
  ·exact⟨0,fun h=>absurd h ha⟩
 obtain⟨rk,hrk⟩:=hix
 have hat: ∀a∈z, ∀b∈z, ∃c,cmp a b=some c/\(c<0↔rk a<rk b):=fun a ha b hb=>by
  obtain⟨hi,h1⟩:=Ve.1 (hrk a ha);obtain⟨hj,h2⟩:=Ve.1 (hrk b hb);have:=Zfh h _ _ hi hj
  rwa [h1,h2]at this
 refine⟨rk,hat,fun a ha b hb e=> ?_, ?_⟩
 ·have h1:=hrk a ha;rw[e,hrk b hb]at h1;exact(Option.some.inj h1).symm
 ·rw[List.pairwise_iff_getElem];intro i j hi hj hij;obtain⟨c,h1,h2⟩:=Zfh h i j hi hj;obtain⟨c',h3,h4⟩:=hat _ (Vd hi) _ (Vd hj);rw[h1]at h3;cases h3;exact Nat.le_of_lt (h4.1 (h2.2 hij))
end Tr
