/- Regions of the abstract machine are regions of the model, in whatever order is drawn. Conditions: the table of types is the program's, the specs are true. -/
import Derived.Test.YtibiblkamaajeaaGreatTrZ
open Array renaming getElem?_eq_getElem ->Va,getElem?_eq_some_iff ->Vb,getElem?_eq_none ->Vd,getElem?_push ->Vf,foldl_toList ->Vg
open List renaming nodup_cons ->Vh
open Nat renaming le_of_ble_eq_true ->Ve
open Option renaming bind_some ->Vc
open Prod.mk renaming injEq ->Vi
namespace Tr
open Go
theorem Zbm.trans{w w1 w2:World}{I J:Nat->Prop}(h1:Zbm I w w1)(h2:Zbm J w1 w2)(hI: ∀b,I b->J b):Zbm I w w2:=fun b hb=>(h2 b (hI b hb)).trans (h1 b hb)
theorem Zlh{a:Act}{d:Option Nat}{v:Value}{t:Nat}(h: ∀e,d=some e->t≠e): (a.put d v).tmps.getD t undef=a.tmps.getD t undef:=by
 cases d with
 |none=>rfl
 |some e=>simp [Act.put,Array.getElem?_setIfInBounds_ne (Ne.symm (h e rfl))]
theorem Zlf{a:Act}{d:Nat}{v:Value}(h:d<a.tmps.size): (a.put (some d) v).tmps.getD d undef=v:=by simp [Act.put,h]
theorem Zln{a:Act}{d:Option Nat}{v:Value} : (a.put d v).tmps.size=a.tmps.size:=by cases d<;>simp [Act.put]
theorem ZhF{a:Act}{d:Option Nat}{v:Value} : (a.put d v).defers=a.defers:=by cases d<;>rfl
theorem ZfO{E:Env}{d:Nat}(h:ZgL E (some d)=true):d<E.nt/\d ∉ E.ks:=by simp only[ZgL,Bool.and_eq_true,Bool.not_eq_true']at h;refine⟨by have:=h.1;simp only[Nat.blt]at this;exact Ve this,fun hm=> ?_⟩;rw[Zba.2 hm]at h;simp at h
theorem Fr.put{w:World}{g:Gh}{F:Nat->AV}{a:Act}{d:Option Nat}{v:AV}{val:Value}(h:Fr w g F a.tmps)(hv:VR w g v val)(hd: ∀e,d=some e->e<a.tmps.size):Fr w g (Zhy F d v) (a.put d val).tmps:=by
 intro t;by_cases ht:d=some t
 ·subst ht;rw[Zlf (hd t rfl)];simpa [Zhy,ZlS] using hv
 ·have hne: ∀e,d=some e->t≠e:=fun e he hte=>ht (by rw[he,hte]);rw[Ze6 hne,Zlh hne];exact h t
section
variable {P:Program}{E:Env}{B:Zcs}{ops:Array Oper}{base:Nat}{fz:List Nat}
theorem ZhR{w:World}{g:Gh}{F:Nat->AV}{a:Act}{o:Oper}{b:Bool}(hF:Fr w g F a.tmps)(h:Zcj ops o F=some b):Region.wanted o (yielded ops a.tmps)=b:=by
 unfold Zcj at h;unfold Region.wanted
 cases hg:o.guard with
 |none=>rw[hg]at h;simpa using h
 |some jw=>
  obtain⟨j,want⟩:=jw;rw[hg]at h;simp only at h ⊢
  cases hgd: (ops[j]?).bind (·.dst) with
  |none=>rw[hgd]at h;simp at h
  |some d=>
   rw[hgd]at h;simp only at h;have hv:=hF d;split at h
   ·rename_i x hx;rw[hx]at hv;have hv:=hv.bool
    have ht:a.tmps[d]? =some (.bool x):=by
     cases hq:a.tmps[d]? with
     |none=>simp [hq,undef]at hv
     |some u=>simp [hq]at hv;rw[hv]
    simp only[yielded,hgd,Vc,ht];simp only[Option.some.injEq]at h;rw[<-h]
    cases x<;>cases want<;>rfl
   ·rename_i hx;rw[hx]at hv;obtain⟨vs,hv,hvs⟩:=hv;simp only[VRs]at hvs;subst hvs
    have ht:yielded ops a.tmps j=none:=by
     simp only[yielded,hgd,Vc]
     cases hq:a.tmps[d]? with
     |none=>rfl
     |some u=>simp [hq]at hv;rw[hv]
    rw[ht];simp only[Option.some.injEq]at h;rw[<-h];rfl
   ·simp at h
theorem ZuM(hT:ZaB P E)(hS:ZcE P E B){i:Nat}{o:Oper}{F F1:Nat->AV}{H H1:AH}{t:Option Trc}{w:World}{g:Gh}{ow:Nat->Nat->Prop}{a:Act}(hi:ops[i]? =some o)
  (h:Ze4 E ops base fz i o F H=some (F1,H1,t)) (hR:RH B H w g ow) (hF:Fr w g F a.tmps) (hnt:a.tmps.size=E.nt) (hk: ∀id,g.K id->id<base+i*ZaI\/base+i*ZaI+ZaI<=id) {K:Act->World->Prop}{Q:Exit->Act->World->Prop}
  (hK: ∀a' w' g' ow',RH B H1 w' g' ow' ->Fr w' g' F1 a'.tmps->a'.tmps.size=E.nt->a'.defers=a.defers->g.Le g' ->Zbm g.I w w' ->(∀id,g'.K id->g.K id\/(base+i*ZaI<=id/\id<base+i*ZaI+ZaI))->
   (∀t∈E.ks,a'.tmps.getD t undef=a.tmps.getD t undef)->K a' w'):wpOp P ops Q i K a w:=by
 unfold wpOp;rw[hi];simp only
 have hks: ∀v,ZgL E o.dst=true-> ∀t∈E.ks,(a.put o.dst v).tmps.getD t undef=a.tmps.getD t undef:=fun v hd t ht=>Zlh fun e he hte=>by rw[he]at hd;exact(ZfO hd).2 (hte▸ht)
 have hlt:ZgL E o.dst=true-> ∀e,o.dst=some e->e<a.tmps.size:=fun hd e he=>by rw[he]at hd;rw[hnt];exact(ZfO hd).1
 unfold Ze4 at h;split at h
 ·simp at h
 ·rename_i hw;split at h
  ·rename_i hd;simp only[Option.some.injEq,Vi]at h;obtain⟨rfl,rfl,rfl⟩:=h;rw[ZhR hF hw];simp only[Bool.false_eq_true,if_false];exact hK _ w g ow hR (hF.put ⟨[],rfl,rfl⟩ (hlt hd)) (Zln.trans hnt) ZhF (.refl g) (fun _ _=>rfl) (fun _ h=> .inl h) (hks _ hd)
  ·simp at h
 ·rename_i hw;split at h
  ·rename_i hd
   cases hr: (aop E (base+i*ZaI) o.op o.type (aev F)).run H [] with
   |none=>rw[hr]at h;simp at h
   |some y=>
    obtain⟨⟨v,pa⟩,rd⟩:=y;rw[hr]at h;simp only[Vc]at h;split at h
    ·simp only[Option.some.injEq,Vi]at h;obtain⟨rfl,rfl,rfl⟩:=h;rw[ZhR hF hw];simp only[if_true];refine .inl (Zxn hT hS hR hF hk hr _ _ fun val w' g' ow' h1 h2 h3 h4 h5=> ?_);exact hK _ w' g' ow' h1 ((hF.mono h3 h2).put h4 (hlt hd)) (Zln.trans hnt) ZhF h2 h3 h5 (hks _ hd)
    ·simp at h
  ·simp at h
structure RI (E:Env) (B:Zcs) (base:Nat) (F:Nat->AV) (H:AH) (w:World) (a:Act) (g:Gh) (ow:Nat->Nat->Prop) (L:Nat->Prop):Prop where
 rh:RH B H w g ow
 fr:Fr w g F a.tmps
 nt:a.tmps.size=E.nt
 df:a.defers=[]
 ids: ∀id,g.K id->id<base\/ ∃j,L j/\base+j*ZaI<=id/\id<base+j*ZaI+ZaI
structure Lk (E:Env) (w:World) (g:Gh) (a:Act) (w' :World) (g' :Gh) (a' :Act):Prop where
 le:g.Le g'
 ag:Zbm g.I w w'
 ks: ∀t∈E.ks,a'.tmps.getD t undef=a.tmps.getD t undef
theorem Lk.refl(w:World)(g:Gh)(a:Act):Lk E w g a w g a:=⟨.refl g,fun _ _=>rfl,fun _ _=>rfl⟩
theorem Lk.trans{w w1 w2:World}{g g1 g2:Gh}{a a1 a2:Act}(h:Lk E w g a w1 g1 a1)(k:Lk E w1 g1 a1 w2 g2 a2):Lk E w g a w2 g2 a2:=
 ⟨h.le.trans k.le,h.ag.trans k.ag h.le.I,fun t ht=>(k.ks t ht).trans (h.ks t ht)⟩
theorem RI.step(hT:ZaB P E)(hS:ZcE P E B){i:Nat}{o:Oper}{F F1:Nat->AV}{H H1:AH}{t:Option Trc}{w:World}{g:Gh}{ow:Nat->Nat->Prop}{a:Act}{L:Nat->Prop}(hi:ops[i]? =some o)
  (h:Ze4 E ops base fz i o F H=some (F1,H1,t)) (hI:RI E B base F H w a g ow L) (hL: ¬L i) {K:Act->World->Prop}{Q:Exit->Act->World->Prop}
  (hK: ∀a' w' g' ow',RI E B base F1 H1 w' a' g' ow' (fun j=>j=i\/L j)->Lk E w g a w' g' a' ->K a' w'):wpOp P ops Q i K a w:=by
 refine ZuM hT hS hi h hI.rh hI.fr hI.nt (fun id hid=> ?_) fun a' w' g' ow' h1 h2 h3 h4 h5 h6 h7 h8=>hK a' w' g' ow' ⟨h1,h2,h3,h4.trans hI.df,fun id hid=> ?_⟩ ⟨h5,h6,h8⟩
 ·rcases hI.ids id hid with h1| ⟨j,h1,h2,h3⟩
  ·exact .inl (by omega)
  ·have hne:j≠i:=fun e=>hL (e▸h1);unfold ZaI at*;omega
 ·rcases h7 id hid with h9| ⟨h9,h10⟩
  ·rcases hI.ids id h9 with h11| ⟨j,h11,h12,h13⟩
   ·exact .inl h11
   ·exact .inr ⟨j, .inr h11,h12,h13⟩
  ·exact .inr ⟨i, .inl rfl,h9,h10⟩
theorem ZkW(hT:ZaB P E)(hS:ZcE P E B){T:Nat->Option Trc}{Q:Exit->Act->World->Prop}{F' :Nat->AV}{H' :AH} : ∀ {l:List Nat}{F:Nat->AV}{H:AH}{w:World}{g:Gh}{ow:Nat->Nat->Prop}{a:Act}{L:Nat->Prop},
  Ex' E ops base fz T l F H F' H' ->l.Nodup->(∀i∈l, ¬L i)->RI E B base F H w a g ow L->(∀a' w' g' ow',RI E B base F' H' w' a' g' ow' (fun j=>j∈l\/L j)->Lk E w g a w' g' a' ->Q .normal a' w')->wpOps P ops Q l a w
 | [],F,H,w,g,ow,a,L,h,_,_,hI,hQ=>by
  cases h with
  |nil=>exact hQ a w g ow ⟨hI.rh,hI.fr,hI.nt,hI.df,fun id hid=>(hI.ids id hid).imp (fun h=>h) fun⟨j,h1,h2⟩=>⟨j, .inr h1,h2⟩⟩ (.refl w g a)
 |i::l,F,H,w,g,ow,a,L,h,hn,hL,hI,hQ=>by
  cases h with
  |cons ho h1 h' =>
   rw[wpOps_cons];obtain⟨hn1,hn2⟩:=Vh.1 hn;refine hI.step hT hS ho h1 (hL i (by simp)) fun a1 w1 g1 ow1 hI1 hl1=>ZkW hT hS h' hn2 (fun j hj=> ?_) hI1 fun a2 w2 g2 ow2 hI2 hl2=>hQ a2 w2 g2 ow2 ⟨hI2.rh,hI2.fr,hI2.nt,hI2.df,fun id hid=> ?_⟩ (hl1.trans hl2)
   ·rintro (rfl|h)
    ·exact hn1 hj
    ·exact hL j (by simp [hj]) h
   ·refine(hI2.ids id hid).imp (fun h=>h) fun⟨j,h1,h2⟩=>⟨j, ?_,h2⟩;rcases h1 with h1|rfl|h1
    ·exact .inl (by simp [h1])
    ·exact .inl (by simp)
    ·exact .inr h1
theorem Zi2: ∀ (l:List Oper) (acc:Array Nat),let r:=l.foldl (fun acc o=>acc.push (o.after.foldl (fun s e=>if Region.binds .any e then s ||| 2 ^ e.on ||| acc.getD e.on 0 else s) 0)) acc
  r.size=acc.size+l.length/\(∀k,k<acc.size->r.getD k 0=acc.getD k 0)/\
  ∀k o,l[k]? =some o-> ∀j,(r.getD (acc.size+k) 0).testBit j=true-> ∃e∈o.after,Region.binds .any e=true/\(e.on=j\/(e.on<acc.size+k/\(r.getD e.on 0).testBit j=true))
 | [],acc=>⟨rfl,fun _ _=>rfl,fun k o h=>by simp at h⟩
 |o::l,acc=>by
  intro r
  have ih:=Zi2 l (acc.push (o.after.foldl (fun s e=>if Region.binds .any e then s ||| 2 ^ e.on ||| acc.getD e.on 0 else s) 0))
  simp only[Array.size_push]at ih;obtain⟨h1,h2,h3⟩:=ih;refine⟨by show r.size=_;rw[show r.size=_ from h1];simp;omega,fun k hk=> ?_,fun k o' ho' j hj=> ?_⟩
  ·rw[show r.getD k 0=_ from h2 k (by omega)];simp [Vf,Nat.ne_of_lt hk]
  ·cases k with
   |zero=>
    simp only[List.getElem?_cons_zero,Option.some.injEq]at ho';subst ho';rw[Nat.add_zero,show r.getD acc.size 0=_ from h2 acc.size (by omega)]at hj;have hX: ∀X:Nat,(acc.push X).getD acc.size 0=X:=fun X=>by simp
    rw[hX]at hj
    have key: ∀ (es:List Edge) (s:Nat),(es.foldl (fun s e=>if Region.binds .any e then s ||| 2 ^ e.on ||| acc.getD e.on 0 else s) s).testBit j=true->s.testBit j=true\/ ∃e∈es,Region.binds .any e=true/\(e.on=j\/(acc.getD e.on 0).testBit j=true):=by
     intro es
     induction es with
     |nil=>intro s h;exact .inl h
     |cons e es ih=>
      intro s h;simp only[List.foldl_cons]at h;rcases ih _ h with h| ⟨e',h4,h5⟩
      ·by_cases hb:Region.binds .any e=true
       ·simp only[hb,if_true,Nat.testBit_or,Bool.or_eq_true]at h;rcases h with (h|h) |h
        ·exact .inl h
        ·exact .inr ⟨e,by simp,hb, .inl (by rw[Nat.testBit_two_pow]at h;simpa using h)⟩
        ·exact .inr ⟨e,by simp,hb, .inr h⟩
       ·simp only[hb]at h;exact .inl h
      ·exact .inr ⟨e',by simp [h4],h5⟩
    rw[<-Vg]at hj;rcases key _ _ hj with h| ⟨e,h4,h5,h6⟩
    ·simp at h
    ·refine⟨e,by simpa using h4,h5, ?_⟩;rcases h6 with h6|h6
     ·exact .inl h6
     ·right
      have hlt:e.on<acc.size:=by
       rcases Nat.lt_or_ge e.on acc.size with h|h
       ·exact h
       ·simp [Vd h]at h6
      refine⟨hlt, ?_⟩;rw[show r.getD e.on 0=_ from h2 e.on (by omega)]
      simpa [Vf,Nat.ne_of_lt hlt] using h6
   |succ k=>
    simp only[List.getElem?_cons_succ]at ho';have e1:acc.size+(k+1)=acc.size+1+k:=by omega
    rw[e1]at hj ⊢;exact h3 k o' ho' j hj
theorem Zok{i:Nat}{o:Oper}(ho:ops[i]? =some o){j:Nat}(h: ((Region.before ops).getD i 0).testBit j=true): ∃e∈o.after,Region.binds .any e=true/\(e.on=j\/(e.on<i/\((Region.before ops).getD e.on 0).testBit j=true)):=by have key:=Zi2 ops.toList #[];simp only[Vg]at key;have:=key.2.2 i o (by simpa using ho) j;simp only[List.size_toArray,List.length_nil,Nat.zero_add]at this;exact this h
theorem Zlb{listed:Array Bool}(hcl: ∀i o,ops[i]? =some o->listed.getD i false=true-> ∀e∈o.after,Region.binds .any e=true->listed.getD e.on false=true)(hlt: ∀i,listed.getD i false=true-> ∃o,ops[i]? =some o){j:Nat} :
  ∀n i,i<n-> ∀o,ops[i]? =some o->(∀e∈o.after,Region.binds .any e=true->listed.getD e.on false=true)->((Region.before ops).getD i 0).testBit j=true->listed.getD j false=true:=by
 intro n
 induction n with
 |zero=>intro i h;omega
 |succ n ih=>
  intro i hi o ho hall hb;obtain⟨e,h1,h2,h3⟩:=Zok ho hb;rcases h3 with rfl| ⟨h3,h4⟩
  ·exact hall e h1 h2
  ·obtain⟨o',ho'⟩:=hlt e.on (hall e h1 h2);exact ih e.on (by omega) o' ho' (hcl e.on o' ho' (hall e h1 h2)) h4
theorem ZtR(hT:ZaB P E)(hS:ZcE P E B){T:Nat->Option Trc}{Q:Exit->Act->World->Prop}{F' :Nat->AV}{H' :AH}(hed:Zow ops=true)
  (hind: ∀i j,i<j->j<ops.size->((Region.before ops).getD j 0).testBit i=false->Zwc ops T i j): ∀ (n:Nat) {l:List Nat}{listed:Array Bool}{F:Nat->AV}{H:AH}{w:World}{g:Gh}{ow:Nat->Nat->Prop}{a:Act}{L:Nat->Prop},
  Ex' E ops base fz T l F H F' H' ->l.length=n->l.Pairwise (· < ·)->listed.size=ops.size->(∀i,i<ops.size->(i∈l↔listed.getD i true=false))->(∀i∈l,i<ops.size)->
  (∀i o,ops[i]? =some o->listed.getD i false=true-> ∀e∈o.after,Region.binds .any e=true->listed.getD e.on false=true)->(∀i∈l, ¬L i)->RI E B base F H w a g ow L->
  (∀a' w' g' ow',RI E B base F' H' w' a' g' ow' (fun j=>j∈l\/L j)->Lk E w g a w' g' a' ->Q .normal a' w')->wpAny P .any ops Q n listed a w:=by
 have hedge: ∀i o,ops[i]? =some o-> ∀e∈o.after,Region.binds .any e=true->e.on<i:=by
  intro i o ho e he hb;unfold Zow at hed;rw[List.all_eq_true]at hed
  have:=hed (o,i) (by rw[List.mem_zipIdx_iff_getElem?];simpa using ho)
  rw[Array.all_eq_true_iff_forall_mem]at this;have:=this e he;simp only[hb,Bool.not_true,Bool.false_or]at this;exact Ve this
 intro n
 induction n with
 |zero=>
  intro l listed F H w g ow a L h hn hs hsz hm hlt hcl hL hI hQ;obtain rfl:=List.length_eq_zero_iff.1 hn
  cases h with
  |nil=>
   refine⟨?_,hQ a w g ow ⟨hI.rh,hI.fr,hI.nt,hI.df,fun id hid=>(hI.ids id hid).imp (fun h=>h) fun⟨j,h1,h2⟩=>⟨j, .inr h1,h2⟩⟩ (.refl w g a)⟩;rw[List.eq_nil_iff_forall_not_mem];intro j hj;rw[mem_ready]at hj;obtain⟨h0,o,ho,_⟩:=hj;have hlt:j<ops.size:=(Vb.1 ho).1
   exact absurd ((hm j hlt).2 h0) (by simp)
 |succ n ih=>
  intro l listed F H w g ow a L h hn hs hsz hm hlt hcl hL hI hQ
  have hlisted: ∀i,i<ops.size->i ∉ l->listed.getD i false=true:=by
   intro i hi hnl;have h1: ¬listed.getD i true=false:=fun h=>hnl ((hm i hi).2 h);have:i<listed.size:=by omega
   simpa [this] using h1
  have hlo: ∀i,listed.getD i false=true-> ∃o,ops[i]? =some o:=by
   intro i hi
   have:i<listed.size:=by
    rcases Nat.lt_or_ge i listed.size with h|h
    ·exact h
    ·simp [Vd h]at hi
   exact⟨_,Va (by omega)⟩
  refine⟨fun hnil=> ?_,fun i hi=> ?_⟩
  ·exfalso
   cases l with
   |nil=>simp at hn
   |cons i l=>
    have hil:i<ops.size:=hlt i (by simp)
    have:i∈Region.ready .any ops listed:=by
     rw[mem_ready];refine⟨(hm i hil).1 (by simp),_,Va hil,fun e he hb=> ?_⟩;have hlt' :=hedge i _ (Va hil) e he hb;refine hlisted e.on (by omega) fun hmem=> ?_;rcases List.mem_cons.1 hmem with h1|h1
     ·omega
     ·have:=(List.pairwise_cons.1 hs).1 _ h1;omega
    rw[hnil]at this;simp at this
  ·rw[mem_ready]at hi;obtain⟨h0,o,ho,hall⟩:=hi;have hil:i<ops.size:=(Vb.1 ho).1;have hmem:=(hm i hil).2 h0;obtain⟨pre,post,rfl⟩:=List.append_of_mem hmem;have hpre: ∀j∈pre,j<i:=fun j hj=>(List.pairwise_append.1 hs).2.2 j hj i (by simp)
   have hfront:=h.front fun j hj=>by
    refine hind j i (hpre j hj) hil ?_
    cases hb: ((Region.before ops).getD i 0).testBit j with
    |false=>rfl
    |true=>
     have hj2:=Zlb hcl hlo (i+1) i (Nat.lt_succ_self i) o ho hall hb;have hjl:j<ops.size:=by have:=hpre j hj;omega
     have h1:=(hm j hjl).1 (by simp [hj]);have:j<listed.size:=by omega
     simp [this]at h1 hj2;rw[h1]at hj2;simp at hj2
   cases hfront with
   |cons ho' h1 h' =>
    have hnd: (pre++i::post).Nodup:=hs.imp fun h=>by omega
    have hback: ∀j,j∈pre++post->j∈pre++i::post:=fun j hj=>by
     rcases List.mem_append.1 hj with h|h<;>simp [h]
    have hni:i ∉ pre++post:=by have:=(List.perm_middle.nodup_iff).1 hnd;exact(Vh.1 this).1
    refine hI.step hT hS ho' h1 (hL i (by simp)) fun a1 w1 g1 ow1 hI1 hl1=>ih (l:=pre++post) (L:=fun j=>j=i\/L j) h' (by simp at hn ⊢;omega) ?_ (by simp [hsz]) ?_ (fun j hj=>hlt j (hback j hj)) ?_ ?_ hI1 ?_
    ·exact hs.sublist (by simp)
    ·intro j hj;by_cases hji:j=i
     ·subst hji;have hlj:j<listed.size:=by omega
      simp only[hni,false_iff,Array.getD_eq_getD_getElem?,Array.getElem?_setIfInBounds_self_of_lt hlj];simp
     ·rw[getD_set_ne true (Ne.symm hji), <-hm j hj];simp [hji]
    ·intro j o' hoj hj e he hb;by_cases hji:j=i
     ·subst hji;have e1:o=o' :=Option.some.inj (ho.symm.trans hoj);exact getD_set_true (hall e (e1▸he) hb)
     ·rw[getD_set_ne false (Ne.symm hji)]at hj;exact getD_set_true (hcl j o' hoj hj e he hb)
    ·rintro j hj (rfl|hj')
     ·exact hni hj
     ·exact hL j (hback j hj) hj'
    ·intro a2 w2 g2 ow2 hI2 hl2;refine hQ a2 w2 g2 ow2 ⟨hI2.rh,hI2.fr,hI2.nt,hI2.df,fun id hid=>(hI2.ids id hid).imp (fun h=>h) fun⟨j,h1,h2⟩=>⟨j, ?_,h2⟩⟩ (hl1.trans hl2);rcases h1 with h1|rfl|h1
     ·exact .inl (hback j h1)
     ·exact .inl (by simp)
     ·exact .inr h1
end
end Tr
