/- Calls: what a spec promises of a function, and that a call by a spec is a step of the abstract machine. Conditions: the specs are true. -/
import Derived.Test.YtdpenljjnfmgiaaGreatTrV
open Bool renaming and_eq_true ->Vc
open List renaming mem_singleton ->Vb,mem_map ->Ve
open Prod.mk renaming injEq ->Va
open Go.Value renaming pointer ->Vd
namespace Tr
open Go
theorem RH.revive{B:Zbr}{H:AH}{w:World}{g:Gh}{ow:Nat->Nat->Prop}(h:RH B H w g ow){id:Nat}{o:Zc0}{J:Nat->Prop}(hK:g.K id)
  (hb: ∀b,J b-> ¬g.I b/\b<w.heap.size/\(B.own0 b\/B.w0.heap.size<=b)/\ ∀id',H id' ≠none-> ¬ow id' b) (ho:ZeB w g J id o):RH B (Zbl H id (some o)) w g (Zc4 ow id J) where
 objs:=fun k o' ho' =>by
  by_cases hki:k=id
  ·subst hki;rw[ZaT]at ho';cases ho';rw[ZaD];grind
  ·rw[Zat hki]at ho';rw[ZaI hki];exact h.objs k o' ho'
 dist:=fun k k' b' h1 h2 h3 h4=>by
  by_cases hki:k=id<;>by_cases hki' :k' =id
  ·omega
  ·subst hki;rw[Zat hki']at h2;rw[ZaD]at h3;rw[ZaI hki']at h4
   grind
  ·subst hki';rw[Zat hki]at h1;rw[ZaD]at h4;rw[ZaI hki]at h3
   grind
  ·rw[Zat hki]at h1;rw[Zat hki']at h2;rw[ZaI hki]at h3;rw[ZaI hki']at h4;exact h.dist k k' b' h1 h2 h3 h4
 sep:=fun k b' h1 h2=>by
  by_cases hki:k=id
  ·subst hki;rw[ZaD]at h2
   grind
  ·rw[Zat hki]at h1;rw[ZaI hki]at h2;exact h.sep k b' h1 h2
 ilt:=h.ilt
 inew:=h.inew
 os:=h.os
 tape:=h.tape
 output:=h.output
 size:=h.size
 kept:=h.kept
theorem RH.call{B:Zbr}{H:AH}{w w' :World}{g:Gh}{ow:Nat->Nat->Prop}(h:RH B H w g ow){js:List Nat}{J:Nat->Prop}
  (hheap: ∀b,b<w.heap.size->b ∉ js->w'.heap[b]? =w.heap[b]?) (hsz:w.heap.size<=w'.heap.size) (hos:w'.os=w.os) (htape:w'.tape=w.tape) (hout:Zjh B.pl w' w)
  (hjs: ∀b∈js, ¬g.I b/\(B.own0 b\/B.w0.heap.size<=b)/\ ∀id,H id≠none-> ¬ow id b)
  (hJ: ∀b,J b->b<w'.heap.size/\(B.I0 b\/B.own0 b\/B.w0.heap.size<=b)/\ ∀id,H id≠none-> ¬ow id b):RH B H w' (g.grow J) ow:=by
 have hag:ZaV g.I w w' :=fun b hb=>hheap b (h.ilt b hb) (by grind)
 have h1:RH B H w' g ow:= {
  objs:=fun k o ho=>⟨(h.objs k o ho).1,(h.objs k o ho).2.mono hag (.refl g) (h.objs k o ho).1 rfl fun b hb=>by
   have hl:H k≠none:=by grind
   exact hheap b (h.sep k b hl hb).2.1 (by grind)⟩
  dist:=h.dist
  sep:=fun k b h1 h2=>by have:=h.sep k b h1 h2;grind
  ilt:=fun b hb=>by have:=h.ilt b hb;omega
  inew:=h.inew
  os:=hos.trans h.os
  tape:=htape.trans h.tape
  output:=hout.trans h.output
  size:=by have:=h.size;omega
  kept:=fun b h1 h2=>by rw[hheap b (by have:=h.size;omega) (by grind)];exact h.kept b h1 h2}
 exact h1.grow hJ
mutual
theorem Zkx{H:AH} : ∀ (p:Pat) (v:AV) (x:ElP p) (ids:Ids) (l l' :List Nat),(ext p v).run H l=some ((x,ids),l')-> ∀id∈ids.tk,H id≠none
 | .pd t,v,x,ids,l,l',h=>by
  simp only[ext,Zaj,Zab,Va]at h;obtain⟨_,_,_,⟨_,rfl⟩,_⟩:=h
  simp
 | .own t k,v,x,ids,l,l',h=>by
  simp only[ext,Zaj,Zab,Va]at h;obtain⟨⟨x1,i1⟩,m,h1,⟨_,rfl⟩,_⟩:=h;unfold Zbq at h1;split at h1
  ·rw[Zag]at h1;split at h1
   ·rename_i hH;simp only[Zac,Zab,Va]at h1;obtain⟨_,_,⟨_,rfl⟩,_⟩:=h1;intro id hid;simp only[Vb]at hid;subst hid;rw[hH];simp
   ·simp [Zaa]at h1
  ·rw[Zag]at h1;split at h1
   ·rename_i hH;simp only[Zac,Zab,Va]at h1;obtain⟨_,_,⟨_,rfl⟩,_⟩:=h1;intro id hid;simp only[Vb]at hid;subst hid;rw[hH];simp
   ·simp [Zaa]at h1
  ·simp only[Zab,Va]at h1;obtain⟨⟨_,rfl⟩,_⟩:=h1;simp
  ·simp [Zaa]at h1
 | .var t p,v,x,ids,l,l',h=>by
  simp only[ext]at h;split at h
  ·rw[Zag]at h;split at h
   ·rename_i hH;simp only[Zae,Zaj,Zab,Zaa,and_false,or_false,Va]at h;obtain⟨_,⟨x1,i1⟩,m,h1,⟨_,rfl⟩,_⟩:=h;intro id hid;rcases List.mem_cons.1 hid with rfl|hid
    ·rw[hH];simp
    ·exact Zkx p _ x1 i1 _ _ h1 id hid
   ·simp [Zaa]at h
  ·simp [Zaa]at h
 | .ro t,v,x,ids,l,l',h=>by
  simp only[ext]at h;split at h
  ·rw[Zag]at h;split at h
   ·simp only[Zac,Zab,Va]at h;obtain⟨_,_,⟨_,rfl⟩,_⟩:=h;simp
   ·simp [Zaa]at h
  ·simp only[Zac,Zab,Va]at h;obtain⟨_,_,⟨_,rfl⟩,_⟩:=h;simp [Ids.none]
  ·simp [Zaa]at h
 | .map kt vt,v,x,ids,l,l',h=>by
  simp only[ext]at h;split at h
  ·rw[Zag]at h;split at h
   ·rename_i hH;simp only[Zac,Zab,Va]at h;obtain⟨_,_,⟨_,rfl⟩,_⟩:=h;intro id hid;simp only[Vb]at hid;subst hid;rw[hH];simp
   ·simp [Zaa]at h
  ·simp [Zaa]at h
 | .it kt vt,v,x,ids,l,l',h=>by
  simp only[ext]at h;split at h
  ·rw[Zag]at h;split at h
   ·rename_i hH;simp only[Zac,Zab,Va]at h;obtain⟨_,_,⟨_,rfl⟩,_⟩:=h;intro id hid;simp only[Vb]at hid;subst hid;rw[hH];simp
   ·simp [Zaa]at h
  ·simp [Zaa]at h
 | .rows t k,v,x,ids,l,l',h=>by
  simp only[ext,Zaj,Zab,Va]at h;obtain⟨⟨x1,i1⟩,m,h1,⟨_,rfl⟩,_⟩:=h;unfold Zck at h1;split at h1
  ·rw[Zag]at h1;split at h1
   ·rename_i hH;simp only[Zac,Zab,Va]at h1;obtain⟨_,_,⟨_,rfl⟩,_⟩:=h1;intro id hid;simp only[Vb]at hid;subst hid;rw[hH];simp
   ·simp [Zaa]at h1
  ·simp only[Zab,Va]at h1;obtain⟨⟨_,rfl⟩,_⟩:=h1;simp
  ·simp [Zaa]at h1
 | .mrows kt t,v,x,ids,l,l',h=>by
  simp only[ext]at h;split at h
  ·rw[Zag]at h;split at h
   ·rename_i hH;simp only[Zac,Zab,Va]at h;obtain⟨_,_,⟨_,rfl⟩,_⟩:=h;intro id hid;simp only[Vb]at hid;subst hid;rw[hH];simp
   ·simp [Zaa]at h
  ·simp [Zaa]at h
 | .bld T e k,v,x,ids,l,l',h=>by
  simp only[ext]at h;split at h
  ·rw[Zag]at h;split at h
   ·rename_i hH;simp only[Zae,Zab,Zaa,and_false,or_false,Vc,Va]at h;obtain⟨_,⟨_,rfl⟩,_⟩:=h;intro id hid;simp only[Vb]at hid;subst hid;rw[hH];simp
   ·simp [Zaa]at h
  ·simp [Zaa]at h
 | .agg pl,v,x,ids,l,l',h=>by
  simp only[ext]at h;split at h
  ·exact ZbY pl _ x ids l l' h
  ·simp only[Zae,Zaa,and_false,or_false]at h;exact ZbY pl _ x ids l l' h.2
  ·simp [Zaa]at h
 | .fn f pl,v,x,ids,l,l',h=>by
  simp only[ext]at h;split at h
  ·simp only[Zae,Zaa,and_false,or_false]at h;exact ZbY pl _ x ids l l' h.2
  ·simp [Zaa]at h
 | .nilr,v,x,ids,l,l',h=>by
  simp only[ext]at h;split at h
  ·simp only[Zab,Va]at h;obtain⟨⟨_,rfl⟩,_⟩:=h;simp [Ids.none]
  ·simp [Zaa]at h
 | .nils,v,x,ids,l,l',h=>by
  simp only[ext]at h;split at h
  ·simp only[Zab,Va]at h;obtain⟨⟨_,rfl⟩,_⟩:=h;simp [Ids.none]
  ·simp [Zaa]at h
 | .any,v,x,ids,l,l',h=>by simp only[ext,Zab,Va]at h;obtain⟨⟨_,rfl⟩,_⟩:=h;simp [Ids.none]
theorem ZbY{H:AH} : ∀ (pl:Za5) (v:AVs) (x:ZcJ pl) (ids:Ids) (l l' :List Nat),(Zef pl v).run H l=some ((x,ids),l')-> ∀id∈ids.tk,H id≠none
 | .nil, .nil,x,ids,l,l',h=>by
  simp only[Zef,Zab,Va]at h;obtain⟨⟨_,rfl⟩,_⟩:=h
  simp [Ids.none]
 | .cons p pl, .cons v vs,x,ids,l,l',h=>by
  simp only[Zef,Zaj,Zab,Va]at h;obtain⟨⟨x1,i1⟩,m1,h1,⟨x2,i2⟩,m2,h2,⟨_,rfl⟩,_⟩:=h;intro id hid;rcases List.mem_append.1 hid with hid|hid
  ·exact Zkx p v x1 i1 _ _ h1 id hid
  ·exact ZbY pl vs x2 i2 _ _ h2 id hid
 | .nil, .cons _ _,_,_,_,_,h=>by simp [Zef,Zaa]at h
 | .cons _ _, .nil,_,_,_,_,h=>by simp [Zef,Zaa]at h
end
def Zib:Option Zc0->Option Nat
 |some (.rows _ _ v _)=>some v
 |some (.mrows _ _ _ v _)=>some v
 |_=>none
def ZeC(B:Zbr)(H:AH)(w:World)(g:Gh)(ow:Nat->Nat->Prop)(js:List Nat)(n n' :Nat)(tk:List Nat)(H' :AH):Prop:=
 ∃g' ow',g.Le g' /\Zfc tk g g' /\RH B H' w g' ow' /\(∀id,g'.K id->g.K id\/(n<=id/\id<n'))/\(∀id b,H' id≠none->ow' id b->(H id≠none/\ow id b)\/b∈js)/\(∀id,H' id≠none->H id≠none\/id∈tk\/(n<=id/\id<n'))
theorem ZeC.none{B:Zbr}{H:AH}{w:World}{g:Gh}{ow:Nat->Nat->Prop}(hR:RH B H w g ow)(js:List Nat)(n:Nat)(tk:List Nat):ZeC B H w g ow js n n tk H:=
 ⟨g,ow, .refl g, .refl tk g,hR,by grind,by grind,by grind⟩
theorem RH.revive1{B:Zbr}{H:AH}{w:World}{g:Gh}{ow:Nat->Nat->Prop}(hR:RH B H w g ow){js:List Nat}{n id:Nat}{o:Zc0}(hK:g.K id)(hf:ZfC B H w g ow js)(ho:ZeB w g (· ∈js) id o){tk:List Nat}(ht:id∈tk):
  ZeC B H w g ow js n n tk (Zbl H id (some o)):=by
 refine⟨g,Zc4 ow id (· ∈js), .refl g, .refl tk g,hR.revive hK (fun b hb=>hf.free b hb) ho,by grind,fun k b h1 h2=> ?_,fun k h1=> ?_⟩
 ·by_cases hi:k=id
  ·subst hi;rw[ZaD]at h2;grind
  ·rw[Zat hi]at h1;rw[ZaI hi]at h2;grind
 ·by_cases hi:k=id
  ·grind
  ·rw[Zat hi]at h1;grind
theorem RH.revive2{B:Zbr}{H:AH}{w:World}{g:Gh}{ow:Nat->Nat->Prop}(hR:RH B H w g ow){js:List Nat}{n id:Nat}{o:Zc0}(hK:g.K id)(hv:g.ver id<n)(hf:ZfC B H w g ow js){r: (kt:Ty)->El kt->Value}(ho:ZeB w (g.bump id n r) (· ∈js) id o){tk:List Nat}(ht:id∈tk):
  ZeC B H w g ow js n n tk (Zbl H id (some o)):=by
 refine⟨g.bump id n r,Zc4 ow id (· ∈js),Gh.le_bump hv,⟨rfl,fun k _ h=>if_neg (by grind)⟩,
  hR.bump hK hv (by simp) (Nat.le_refl _) rfl rfl ⟨rfl,Nat.le_refl _⟩ (by simp) (fun b hb=>⟨(hf.free b hb).1,(hf.free b hb).2.1,(hf.free b hb).2.2.1,fun k _=>(hf.free b hb).2.2.2 k⟩) ho,fun _ h=> .inl h,fun k b h1 h2=> ?_,fun k h1=> ?_⟩
 ·by_cases hi:k=id
  ·subst hi;rw[ZaD]at h2;grind
  ·rw[Zat hi]at h1;rw[ZaI hi]at h2;grind
 ·by_cases hi:k=id
  ·grind
  ·rw[Zat hi]at h1;grind
theorem ZbL.back{w:World}{g:Gh}{J:Nat->Prop}{t:Ty}{xs:List (List (El t))}{v:Value}(h:ZbL w g.I J t xs v){id n:Nat}(hty:g.ty id= .sl t)(hs:g.slv id=v)
  (hb: (v= .slice none 0 0/\g.blk id=none)\/ ∃b len cap,v= .slice (some ⟨b,0,none⟩) len cap/\g.blk id=some b): ∃r,ZeB w (g.bump id n r) J id (.rows t xs n none):=by
 obtain⟨hd,⟨hl,hrf⟩,h2⟩:=h;have hrow: (g.bump id n (Zin hd)).row id=Zin hd:=by simp [Gh.bump]
 refine⟨Zin hd,hty,by simp [Gh.bump], ?_, ?_⟩
 ·rw[hrow];refine⟨fun i x hx hn=> ?_,fun i j x y c hx hy hne h10 h11 hc=> ?_,fun i x c hx _ hc=> ?_⟩
  ·rw[Zdi];exact hrf.rd i x hx hn
  ·rw[Zdi]at hc ⊢;exact hrf.ds i j x y c hx hy hne h10 h11 hc
  ·rw[Zdi]at hc;show g.blk id≠some c
   grind
 ·rw[hrow];rcases h2 with ⟨rfl,rfl⟩ | ⟨b,cap,cs,e,h3,h4,h5,h6,h7,h8,h9⟩
  ·rcases hb with ⟨_,hb⟩ | ⟨b',len,cap',hb,hb'⟩
   ·exact .inl ⟨rfl,hb,hs⟩
   grind
  ·rcases hb with ⟨hb,_⟩ | ⟨b',len,cap',hb,hb'⟩
   ·grind
   ·rw[h5]at hb;cases hb;exact .inr ⟨b,cap,cs,e,hb',h3,by rw[<-h5];assumption,h6,h7,h8,by assumption⟩
theorem ZbH.back{w:World}{g:Gh}{J:Nat->Prop}{kt t:Ty}{m:List (El kt×List (El t))}{b:Nat}(h:ZbH w g.I J kt t m (.map (some b))){id n:Nat}(hty:g.ty id= .sl t)(hb:g.blk id=some b):
  ∃r,ZeB w (g.bump id n r) J id (.mrows kt t m n none):=by
 obtain⟨row,b',es,clock,h1,h2,h3,h4,h5,h6,h7⟩:=h;cases h1;have hrow: (g.bump id n (Zqc row)).row id kt=row:=by funext k;simp [Gh.bump,ZnO]
 refine⟨Zqc row,hty,by simp [Gh.bump], ?_,h5, ?_,b,es,clock,hb,h2,h3, ?_⟩
 ·rw[hrow];show RF w g.I J t (g.blk id) row _ none;grind
 ·grind
 ·rw[hrow];exact h7.mono fun kv e hx=>⟨⟨by simp only[CV];exact hx.1.1, .inr (by simpa [AV.isAgg] using hx.1.2)⟩,hx.2⟩
mutual
theorem Zgj: ∀ (p:Pat) (v:AV) (y:ZlS p) (n:Nat),n<=(ZaN p v y n).2
 | .own t true,v,y,n=>by cases v<;>simp [ZaN]
 | .own t false,v,y,n=>by cases v<;>simp [ZaN]
 | .var t p,v,y,n=>by
  cases v with
  |ptr id path=>
   cases path with
   |nil=>have:=(Zbx p y n).1;simpa only[ZaN] using this
   |cons a l=>simp [ZaN]
  |_=>simp [ZaN]
 | .map k t,v,y,n=>by cases v<;>simp [ZaN]
 | .rows t true,v,y,n=>by cases v<;>simp [ZaN]
 | .rows t false,v,y,n=>by cases v<;>simp [ZaN]
 | .mrows k t,v,y,n=>by cases v<;>simp [ZaN]
 | .it k t,v,y,n=>by cases v<;>simp [ZaN]
 | .bld _ _ false,v,y,n=>by cases v<;>simp [ZaN]
 | .bld T e true,v,y,n=>by
  cases v with
  |ptr id path=>cases path<;>simp [ZaN]
  |_=>simp [ZaN]
 | .agg l,v,y,n=>by
  cases v with
  |agg vs=>simpa only[ZaN] using Zcc l vs y n
  |_=>simp [ZaN]
 | .fn f l,v,y,n=>by
  cases v with
  |fn f' vs=>simpa only[ZaN] using Zcc l vs y n
  |_=>simp [ZaN]
 | .pd t,v,y,n=>by cases v<;>simp [ZaN]
 | .ro t,v,y,n=>by cases v<;>simp [ZaN]
 | .nilr,v,y,n=>by cases v<;>simp [ZaN]
 | .nils,v,y,n=>by cases v<;>simp [ZaN]
 | .any,v,y,n=>by cases v<;>simp [ZaN]
theorem Zcc: ∀ (l:Za5) (v:AVs) (y:ZbQ l) (n:Nat),n<=(Zbw l v y n).2
 | .nil,v,y,n=>by cases v<;>simp [Zbw]
 | .cons p l, .nil,y,n=>by simp [Zbw]
 | .cons p l, .cons v vs,y,n=>by have h1:=Zgj p v y.1 n;have h2:=Zcc l vs y.2 (ZaN p v y.1 n).2;simp only[Zbw];omega
end
section
variable {B B0:Zbr}{H0:AH}{w0 w:World}{g0:Gh}{ow0:Nat->Nat->Prop}
theorem ZfC.later{H H' :AH}{g g' :Gh}{ow ow' :Nat->Nat->Prop}{js ks:List Nat}(h:ZfC B H w g ow (js++ks))(hI:g'.I=g.I)(ho: ∀id b,H' id≠none->ow' id b->(H id≠none/\ow id b)\/b∈js):ZfC B H' w g' ow' ks:=h.after hI ho
mutual
theorem Zkl(hR0:RH B0 H0 w0 g0 ow0): ∀ (p:Pat) (v:AV) (cs:List Value) (x:ElP p) (ids:Ids) (l l' :List Nat),(ext p v).run H0 l=some ((x,ids),l')->CV w0 g0 v cs->p.noAny=true->ids.tk.Nodup->
  ∀ {H:AH}{g:Gh}{ow:Nat->Nat->Prop} (_:RH B H w g ow) (_:g0.Le g) (y:ZlS p) (js:List Nat) (n:Nat),PO w g.I p y js cs->ZfC B H w g ow js->(∀id∈ids.tk,H id=none)->(∀id,n<=id->id< (ZaN p v y n).2-> ¬g.K id)->(∀id∈ids.tk, ∀u,Zib (H0 id)=some u->g.ver id<n)->
   ZeC B H w g ow js n (ZaN p v y n).2 ids.tk (Zad H (ZaN p v y n).1)
 | .own t true,v,cs,x,ids,l,l',h,hc,_,_,H,g,ow,hR,hg,y,js,n,hp,hf,hN,hk,hvv=>by
  cases v with
  |vw id=>
   simp only[ext,Zbq,Zaj,Zab,Va]at h;obtain⟨⟨x1,i1⟩,m,h1,⟨rfl,rfl⟩,_⟩:=h;rw[Zag]at h1;split at h1
   ·rename_i t' xs hH;simp only[Zac,Zab,Va]at h1;obtain⟨z,hz,⟨rfl,rfl⟩,_⟩:=h1;obtain⟨he,rfl⟩:=Zan hz;cases he;obtain⟨hK0,hty,hO⟩:=hR0.objs id _ hH;simp only[CV]at hc;obtain⟨_,rfl,_⟩:=hc;simp only[ZaN,Zad];have hty' :=(hg.ty _ hK0).trans hty;rcases hp with ⟨rfl,rfl,hcs⟩ | ⟨b,cap,cells,e,css,rfl,hcs,h2,h3,h4,h5,h6⟩
    ·simp only[List.cons.injEq,and_true]at hcs;refine hR.revive1 (o:= .vec _ []) (hg.K _ hK0) hf ⟨hty', .inl ⟨rfl, ?_,(hg.slv _ hK0).trans hcs⟩⟩ (by simp);rcases hO with ⟨_,hb,_⟩ | ⟨b,cap,cs,e,css,_,_,hs,_⟩
     ·exact(hg.blk _ hK0).trans hb
     ·rw[hcs]at hs;cases hs
    ·simp only[List.cons.injEq,and_true]at hcs;rcases hO with ⟨_,_,hs⟩ | ⟨b',cap',cs',e',css',hb,_,hs,_⟩
     ·rw[hcs]at hs;cases hs
     ·rw[hcs]at hs;simp only[Value.slice.injEq,Option.some.injEq,Addr.mk.injEq,and_true]at hs;obtain⟨rfl,_,rfl⟩:=hs;exact hR.revive1 (o:= .vec _ y) (hg.K _ hK0) hf ⟨hty', .inr ⟨b,cap,cells,e,css,(hg.blk _ hK0).trans hb,by simp,(hg.slv _ hK0).trans hcs,h2,h3,h4,h5,h6⟩⟩ (by simp)
   ·simp [Zaa]at h1
  |_=>exact ZeC.none hR js n ids.tk
 | .own t false,v,cs,x,ids,l,l',h,hc,_,_,H,g,ow,hR,hg,y,js,n,hp,hf,hN,hk,hvv=>by
  have:ZaN (.own t false) v y n=([],n):=by cases v<;>rfl
  rw[this];exact ZeC.none hR js n ids.tk
 | .var t p,v,cs,x,ids,l,l',h,hc,hna,hnd,H,g,ow,hR,hg,y,js,n,hp,hf,hN,hk,hvv=>by
  cases v with
  |ptr id path=>
   cases path with
   |nil=>
    simp only[ext]at h;rw[Zag]at h;split at h
    ·rename_i t' c hH;simp only[Zae,Zaj,Zab,Zaa,and_false,or_false,Vc,beq_iff_eq,Va]at h;obtain⟨⟨rfl,hft⟩,⟨x1,i1⟩,m,h1,⟨rfl,rfl⟩,_⟩:=h;obtain⟨hK0,hty,hcf,b,cells,e,hb,hob,hh,hsz,hcv⟩:=hR0.objs id _ hH;simp only[CV]at hc;obtain⟨_,o,t2,b',h3,h4,rfl⟩:=hc;rw[Zaz]at h3;cases h3;rw[hb]at h4;cases h4;obtain⟨_,b2,js',cells2,e2,rfl,hcs,h5,h6,h7⟩:=hp;simp only[List.cons.injEq,Vd.injEq,Option.some.injEq,Addr.mk.injEq,and_true]at hcs;obtain rfl:=hcs;simp only[ZaN];have hn:=(Zbx p y n).1;obtain⟨g1,ow1,l1,i1',r1,c1,k1,o1⟩:=Zi0 p hR y js' cells2.toList n h7 (hf.sub (List.sublist_cons_self _ _)) (fun id h h' =>hk id h (by simpa only[ZaN] using h'))
     have hK1:g1.K id:=l1.K _ (hg.K _ hK0)
     have hfr:ZfC B (Zad H (Zbu (inj p y n).2.1)) w g1 ow1 [b]:=by
      obtain⟨h8,h9⟩:=List.nodup_cons.1 hf.nodup;refine⟨by simp,fun b' hb' => ?_⟩;simp only[Vb]at hb';subst hb';obtain⟨h10,h11,h12,h13⟩:=hf.free b' (by simp);refine⟨by rw[i1'.I];exact h10,h11,h12,fun id h14 h15=> ?_⟩;rcases o1 id b' h14 h15 with ⟨h16,h17⟩ |h16
      ·exact h13 id h16 h17
      ·exact h8 h16
     obtain⟨g2,ow2,l2,i2,r2,k2,o2,t2⟩:=r1.revive1 (n:=n) (o:= .var t' (inj p y n).1) hK1 hfr
      ⟨(l1.ty _ (hg.K _ hK0)).trans ((hg.ty _ hK0).trans hty),Zic p t' y n hft,b,cells2,e2,(l1.blk _ (hg.K _ hK0)).trans ((hg.blk _ hK0).trans hb),by simp,h5,h6,c1⟩ (tk:=id::i1.tk) (by simp)
     have hH' :Zad H ((id,some (.var t' (inj p y n).1))::(inj p y n).2.1.map fun o=>(o.1,some o.2))=Zbl (Zad H (Zbu (inj p y n).2.1)) id (some (.var t' (inj p y n).1)):=by simp only[Zad];refine ZdZ fun q hq=> ?_;simp only[Ve]at hq;obtain⟨o,ho,rfl⟩:=hq;have:=(Zbx p y n).2 o ho;intro e;exact hk o.1 this.1 (by simpa only[ZaN] using this.2) (by rw[show o.1=id from e];exact hg.K _ hK0)
     rw[hH'];refine⟨g2,ow2,l1.trans l2,i2.after (i1'.weak fun _ h=>by simp at h) l1,r2,fun k h=> ?_,fun k b' h8 h9=> ?_,fun k h8=> ?_⟩
     ·rcases k2 k h with h|h
      ·exact k1 k h
      ·omega
     ·rcases o2 k b' h8 h9 with ⟨h10,h11⟩ |h10
      ·rcases o1 k b' h10 h11 with h12|h12
       ·exact .inl h12
       ·exact .inr (by simp [h12])
      ·simp only[Vb]at h10;exact .inr (by simp [h10])
     ·rcases t2 k h8 with h9|h9|h9
      ·by_cases hkn:H k=none
       ·right;right
        have: ∃q∈Zbu (inj p y n).2.1,q.1=k:=by
         by_cases hq: ∃q∈Zbu (inj p y n).2.1,q.1=k
         ·exact hq
         ·exfalso;apply h9;rw[ZdQ fun q hq' e=>hq ⟨q,hq',e⟩];exact hkn
        obtain⟨q,hq,rfl⟩:=this;simp only[Zbu,Ve]at hq;obtain⟨o,ho,rfl⟩:=hq;exact(Zbx p y n).2 o ho
       ·exact .inl hkn
      ·exact .inr (.inl h9)
      ·omega
    ·simp [Zaa]at h
   |cons a r=>
    have:ZaN (.var t p) (.ptr id (a::r)) y n=([],n):=by rfl
    rw[this];exact ZeC.none hR js n ids.tk
  |_=>exact ZeC.none hR js n ids.tk
 | .map kt vt,v,cs,x,ids,l,l',h,hc,_,_,H,g,ow,hR,hg,y,js,n,hp,hf,hN,hk,hvv=>by
  cases v with
  |mp id=>
   simp only[ext]at h;rw[Zag]at h;split at h
   ·rename_i k e m hH;simp only[Zac,Zab,Va]at h;obtain⟨z,hz,⟨rfl,rfl⟩,_⟩:=h;obtain⟨he,rfl⟩:=Zan hz;cases he;obtain⟨hK0,b,es,clock,hb,hob,hh,_,hfa⟩:=hR0.objs id _ hH;simp only[CV]at hc;obtain⟨_,b',h4,rfl⟩:=hc;rw[hb]at h4;cases h4;obtain⟨b2,es2,clock2,rfl,hcs,h5,hbn,h6⟩:=hp;simp only[List.cons.injEq,Value.map.injEq,Option.some.injEq,and_true]at hcs;obtain rfl:=hcs;simp only[ZaN,Zad];exact hR.revive1 (o:= .map _ _ y) (hg.K _ hK0) hf ⟨b,es2,clock2,(hg.blk _ hK0).trans hb,by simp,h5,hbn,h6.mono fun kv e hx=>⟨⟨by simp only[CV];exact hx.1.1, .inr (by simpa [AV.isAgg] using hx.1.2)⟩,⟨by simp only[CV];exact hx.2.1, .inr (by simpa [AV.isAgg] using hx.2.2)⟩⟩⟩ (by simp)
   ·simp [Zaa]at h
  |_=>exact ZeC.none hR js n ids.tk
 | .it kt vt,v,cs,x,ids,l,l',h,hc,_,_,H,g,ow,hR,hg,y,js,n,hp,hf,hN,hk,hvv=>by
  have:ZaN (.it kt vt) v y n=([],n):=by cases v<;>rfl
  rw[this];exact ZeC.none hR js n ids.tk
 | .rows t true,v,cs,x,ids,l,l',h,hc,_,_,H,g,ow,hR,hg,y,js,n,hp,hf,hN,hk,hvv=>by
  cases v with
  |vw id=>
   simp only[ext,Zck,Zaj,Zab,Va]at h;obtain⟨⟨x1,i1⟩,m,h1,⟨rfl,rfl⟩,_⟩:=h;rw[Zag]at h1;split at h1
   ·rename_i t' xs u hH;simp only[Zac,Zab,Va]at h1;obtain⟨z,hz,⟨rfl,rfl⟩,_⟩:=h1;obtain⟨he,rfl⟩:=Zan hz;cases he;obtain⟨hK0,hty,_,_,hO⟩:=hR0.objs id _ hH;simp only[CV]at hc;obtain⟨_,rfl,_⟩:=hc;obtain⟨v,hcs,hro⟩:=hp;simp only[List.cons.injEq,and_true]at hcs;simp only[ZaN,Zad]
    obtain⟨r,hr⟩:=hro.back (n:=n) ((hg.ty _ hK0).trans hty) ((hg.slv _ hK0).trans hcs) (by
     rcases hO with ⟨_,h3,h4⟩ | ⟨b,cap,cs',e,h3,_,h4,_⟩
     ·exact .inl ⟨hcs▸h4,(hg.blk _ hK0).trans h3⟩
     ·exact .inr ⟨b,_,cap,hcs▸h4,(hg.blk _ hK0).trans h3⟩)
    exact hR.revive2 (hg.K _ hK0) (hvv id (by simp) u (by rw[hH];rfl)) hf hr (by simp)
   ·simp [Zaa]at h1
  |_=>exact ZeC.none hR js n ids.tk
 | .rows t false,v,cs,x,ids,l,l',h,hc,_,_,H,g,ow,hR,hg,y,js,n,hp,hf,hN,hk,hvv=>by
  have:ZaN (.rows t false) v y n=([],n):=by cases v<;>rfl
  rw[this];exact ZeC.none hR js n ids.tk
 | .mrows kt t,v,cs,x,ids,l,l',h,hc,_,_,H,g,ow,hR,hg,y,js,n,hp,hf,hN,hk,hvv=>by
  cases v with
  |mp id=>
   simp only[ext]at h;rw[Zag]at h;split at h
   ·rename_i k e m u hH;simp only[Zac,Zab,Va]at h;obtain⟨z,hz,⟨rfl,rfl⟩,_⟩:=h;obtain⟨he,rfl⟩:=Zan hz;cases he;obtain⟨hK0,hty,_,_,_,_,b,es,clock,hb,_,_,_⟩:=hR0.objs id _ hH;simp only[CV]at hc;obtain⟨_,b',h4,rfl⟩:=hc;rw[hb]at h4;cases h4;obtain⟨v,hcs,hro⟩:=hp;simp only[List.cons.injEq,and_true]at hcs;subst hcs;simp only[ZaN,Zad];obtain⟨r,hr⟩:=hro.back (n:=n) ((hg.ty _ hK0).trans hty) ((hg.blk _ hK0).trans hb);exact hR.revive2 (hg.K _ hK0) (hvv id (by simp) u (by rw[hH];rfl)) hf hr (by simp)
   ·simp [Zaa]at h
  |_=>exact ZeC.none hR js n ids.tk
 | .bld T e false,v,cs,x,ids,l,l',h,hc,_,_,H,g,ow,hR,hg,y,js,n,hp,hf,hN,hk,hvv=>by
  have:ZaN (.bld T e false) v y n=([],n):=by cases v<;>rfl
  rw[this];exact ZeC.none hR js n ids.tk
 | .bld T e true,v,cs,x,ids,l,l',h,hc,_,_,H,g,ow,hR,hg,y,js,n,hp,hf,hN,hk,hvv=>by
  cases v with
  |ptr id path=>
   cases path with
   |nil=>
    simp only[ext]at h;rw[Zag]at h;split at h
    ·rename_i T' e' bs hH;simp only[Zae,Zab,Zaa,and_false,or_false,Vc,Va]at h;obtain⟨_,⟨rfl,rfl⟩,_⟩:=h;obtain⟨hK0,b,hb,hm⟩:=hR0.objs id _ hH;simp only[CV]at hc;obtain⟨_,o',t',b',h1,h4,rfl⟩:=hc;rw[Zaz]at h1;cases h1;rw[hb]at h4;cases h4;obtain⟨b2,hcs,hro⟩:=hp;simp only[List.cons.injEq,Vd.injEq,Option.some.injEq,Addr.mk.injEq,and_true]at hcs;obtain rfl:=hcs;simp only[ZaN,Zad];exact hR.revive1 (o:= .bld T e y) (hg.K _ hK0) hf ⟨b,(hg.blk _ hK0).trans hb,hro⟩ (by simp)
    ·simp [Zaa]at h
   |cons a r=>
    have:ZaN (.bld T e true) (.ptr id (a::r)) y n=([],n):=by rfl
    rw[this];exact ZeC.none hR js n ids.tk
  |_=>exact ZeC.none hR js n ids.tk
 | .agg pl,v,cs,x,ids,l,l',h,hc,hna,hnd,H,g,ow,hR,hg,y,js,n,hp,hf,hN,hk,hvv=>by
  cases v with
  |agg vs=>
   simp only[ext]at h;simp only[CV]at hc;simp only[PO]at hp;simp only[ZaN]at hk ⊢
   exact Zgr hR0 pl vs cs x ids l l' h hc (by simpa only[Pat.noAny] using hna) hnd hR hg y js n hp hf hN hk hvv
  |_=>exact ZeC.none hR js n ids.tk
 | .fn f pl,v,cs,x,ids,l,l',h,hc,hna,hnd,H,g,ow,hR,hg,y,js,n,hp,hf,hN,hk,hvv=>by
  cases v with
  |fn f' vs=>
   simp only[ext,Zae,Zaa,and_false,or_false]at h;obtain⟨_,h⟩:=h;simp only[CV]at hc;obtain⟨cc,rfl,hc⟩:=hc;obtain⟨cc',hcs,hp⟩:=hp;simp only[List.cons.injEq,Value.func.injEq,and_true,true_and]at hcs;obtain⟨_,hcs⟩:=hcs;have hcs:cc=cc' :=by simpa using congrArg Array.toList hcs
   subst hcs;simp only[ZaN]at hk ⊢
   exact Zgr hR0 pl vs cc x ids l l' h hc (by simpa only[Pat.noAny] using hna) hnd hR hg y js n hp hf hN hk hvv
  |_=>exact ZeC.none hR js n ids.tk
 | .pd t,v,cs,x,ids,l,l',h,hc,_,_,H,g,ow,hR,hg,y,js,n,hp,hf,hN,hk,hvv=>by
  have:ZaN (.pd t) v y n=([],n):=by cases v<;>rfl
  rw[this];exact ZeC.none hR js n ids.tk
 | .ro t,v,cs,x,ids,l,l',h,hc,_,_,H,g,ow,hR,hg,y,js,n,hp,hf,hN,hk,hvv=>by
  have:ZaN (.ro t) v y n=([],n):=by cases v<;>rfl
  rw[this];exact ZeC.none hR js n ids.tk
 | .nilr,v,cs,x,ids,l,l',h,hc,_,_,H,g,ow,hR,hg,y,js,n,hp,hf,hN,hk,hvv=>by
  have:ZaN .nilr v y n=([],n):=by cases v<;>rfl
  rw[this];exact ZeC.none hR js n ids.tk
 | .nils,v,cs,x,ids,l,l',h,hc,_,_,H,g,ow,hR,hg,y,js,n,hp,hf,hN,hk,hvv=>by
  have:ZaN .nils v y n=([],n):=by cases v<;>rfl
  rw[this];exact ZeC.none hR js n ids.tk
 | .any,v,cs,x,ids,l,l',h,hc,_,_,H,g,ow,hR,hg,y,js,n,hp,hf,hN,hk,hvv=>by
  have:ZaN .any v y n=([],n):=by cases v<;>rfl
  rw[this];exact ZeC.none hR js n ids.tk
theorem Zgr(hR0:RH B0 H0 w0 g0 ow0): ∀ (pl:Za5) (v:AVs) (cs:List Value) (x:ZcJ pl) (ids:Ids) (l l' :List Nat),(Zef pl v).run H0 l=some ((x,ids),l')->CVs w0 g0 v cs->pl.noAny=true->ids.tk.Nodup->
  ∀ {H:AH}{g:Gh}{ow:Nat->Nat->Prop} (_:RH B H w g ow) (_:g0.Le g) (y:ZbQ pl) (js:List Nat) (n:Nat),POs w g.I pl y js cs->ZfC B H w g ow js->(∀id∈ids.tk,H id=none)->(∀id,n<=id->id< (Zbw pl v y n).2-> ¬g.K id)->(∀id∈ids.tk, ∀u,Zib (H0 id)=some u->g.ver id<n)->
   ZeC B H w g ow js n (Zbw pl v y n).2 ids.tk (Zad H (Zbw pl v y n).1)
 | .nil,v,cs,x,ids,l,l',h,hc,_,_,H,g,ow,hR,hg,y,js,n,hp,hf,hN,hk,hvv=>by
  have:Zbw .nil v y n=([],n):=by cases v<;>rfl
  rw[this];exact ZeC.none hR js n ids.tk
 | .cons p pl, .nil,cs,x,ids,l,l',h,hc,_,_,H,g,ow,hR,hg,y,js,n,hp,hf,hN,hk,hvv=>by simp [Zef,Zaa]at h
 | .cons p pl, .cons v vs,cs,x,ids,l,l',h,hc,hna,hnd,H,g,ow,hR,hg,y,js,n,hp,hf,hN,hk,hvv=>by
  simp only[Zef,Zaj,Zab,Va]at h;obtain⟨⟨x1,i1⟩,m1,h1,⟨x2,i2⟩,m2,h2,⟨rfl,rfl⟩,_⟩:=h;simp only[CVs]at hc;obtain⟨c1,c2,rfl,h3,h4⟩:=hc;simp only[Za5.noAny,Vc]at hna;have hn' : (i1.tk++i2.tk).Nodup:=hnd;obtain⟨n1,n2,n3⟩:=List.nodup_append.1 hn';obtain⟨j0,hpc,_⟩:=ZdL hR0 (I:=fun _=>True) (fun _ _=>trivial) p v c1 x1 i1 _ _ h1 h3 (fun _ _=>trivial) n1;have hl:=Zfy p x1 j0 c1 hna.1 hpc;obtain⟨j1,j2,rfl,hp1,hp2⟩:=hp;rw[List.take_left' hl]at hp1;rw[List.drop_left' hl]at hp2;simp only[Zbw]at hk ⊢;have m1' :=Zgj p v y.1 n;have m2' :=Zcc pl vs y.2 (ZaN p v y.1 n).2;obtain⟨g1,ow1,l1,i1',r1,k1,o1,t1⟩:=Zkl hR0 p v c1 x1 i1 _ _ h1 h3 hna.1 n1 hR hg y.1 j1 n hp1 (hf.sub (List.sublist_append_left _ _)) (fun id h=>hN id (by simp [Ids.app,h])) (fun id h h' =>hk id h (by omega)) fun id h=>hvv id (by simp [Ids.app,h])
  have hN2: ∀id∈i2.tk,Zad H (ZaN p v y.1 n).1 id=none:=fun id hid=>by
   by_cases hne:Zad H (ZaN p v y.1 n).1 id=none
   ·exact hne
   ·exfalso;rcases t1 id hne with h5|h5|h5
    ·exact h5 (hN id (by simp [Ids.app,hid]))
    ·exact n3 id h5 id hid rfl
    ·cases hH0:H0 id with
     |none=>exact ZbY pl vs x2 i2 _ _ h2 id hid hH0
     |some ob=>exact hk id h5.1 (by omega) (hg.K _ (hR0.objs id ob hH0).1)
  obtain⟨g2,ow2,l2,i2',r2,k2,o2,t2⟩:=Zgr hR0 pl vs c2 x2 i2 _ _ h2 h4 hna.2 n2 r1 (hg.trans l1) y.2 j2 (ZaN p v y.1 n).2 (by rw[i1'.I];exact hp2) (hf.later i1'.I o1) hN2 (fun id h h' hK=>by
   rcases k1 id hK with h3|h3
   ·exact hk id (by omega) h' h3
   ·omega) fun id hid u hu=>by
    have hKid:g.K id:=by
     cases hH0:H0 id with
     |none=>exact absurd hH0 (ZbY pl vs x2 i2 _ _ h2 id hid)
     |some ob=>exact hg.K _ (hR0.objs id ob hH0).1
    rw[i1'.ver id hKid fun h5=>n3 id h5 id hid rfl];have:=hvv id (by simp [Ids.app,hid]) u hu;omega
  rw[Zau];refine⟨g2,ow2,l1.trans l2,(i2'.weak fun k hk=>by simp [Ids.app,hk]).after (i1'.weak fun k hk=>by simp [Ids.app,hk]) l1,r2,fun id h=> ?_,fun id b' h5 h6=> ?_,fun id h5=> ?_⟩
  ·rcases k2 id h with h|h
   ·rcases k1 id h with h|h
    ·exact .inl h
    ·exact .inr (by omega)
   ·exact .inr (by omega)
  ·rcases o2 id b' h5 h6 with ⟨h7,h8⟩ |h7
   ·rcases o1 id b' h7 h8 with h9|h9
    ·exact .inl h9
    ·exact .inr (by simp [h9])
   ·exact .inr (by simp [h7])
  ·rcases t2 id h5 with h6|h6|h6
   ·rcases t1 id h6 with h7|h7|h7
    ·exact .inl h7
    ·exact .inr (.inl (by simp [Ids.app,h7]))
    ·exact .inr (.inr (by omega))
   ·exact .inr (.inl (by simp [Ids.app,h6]))
   ·exact .inr (.inr (by omega))
end
end
end Tr
