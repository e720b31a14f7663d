/- Regions of the abstract machine are regions of the model, in whatever order is drawn. Conditions: the table of types is the program's, the specs are true. -/
import Derived.Test.YtdpenljjnfmgiaaGreatTrZ
open Array renaming getElem?_eq_getElem ->Vb,getElem?_push ->Ve,foldl_toList ->Vf
open Nat renaming mul_le_mul_right ->Va,succ_mul ->Vd,succ_le_of_lt ->Vg
open Option renaming bind_some ->Vc
open Prod.mk renaming injEq ->Vh
namespace Tr
open Go
theorem ZaV.trans{w w1 w2:World}{I J:Nat->Prop}(h1:ZaV I w w1)(h2:ZaV J w1 w2)(hI: ∀b,I b->J b):ZaV I w w2:=fun b hb=>(h2 b (hI b hb)).trans (h1 b hb)
theorem Zhw{a:Act}{d:Option Nat}{v:Value}{t:Nat}(h: ∀e,d=some e->t≠e): (a.put d v).tmps.getD t undef=a.tmps.getD t undef:=by
 cases d with
 |none=>rfl
 |some e=>simp [Act.put,Array.getElem?_setIfInBounds_ne (Ne.symm (h e rfl))]
theorem Zhy{a:Act}{d:Nat}{v:Value}(h:d<a.tmps.size): (a.put (some d) v).tmps.getD d undef=v:=by simp [Act.put,h]
theorem Zh3{a:Act}{d:Option Nat}{v:Value} : (a.put d v).tmps.size=a.tmps.size:=by cases d<;>simp [Act.put]
theorem Zfe{a:Act}{d:Option Nat}{v:Value} : (a.put d v).defers=a.defers:=by cases d<;>rfl
theorem Zd6{E:Env}{d:Nat}(h:ZdG E (some d)=true):d<E.nt/\d ∉ E.ks:=by simp only[ZdG,Bool.and_eq_true,Bool.not_eq_true']at h;refine⟨by simp_all,fun hm=> ?_⟩;rw[ZaQ.2 hm]at h;grind
theorem Fr.put{w:World}{g:Gh}{F:Nat->AV}{a:Act}{d:Option Nat}{v:AV}{val:Value}(h:Fr w g F a.tmps)(hv:VR w g v val)(hd: ∀e,d=some e->e<a.tmps.size):Fr w g (ZeA F d v) (a.put d val).tmps:=by
 intro t;by_cases ht:d=some t
 ·subst ht;rw[Zhy (hd t rfl)];simpa [ZeA,Zig] using hv
 ·have hne: ∀e,d=some e->t≠e:=by grind
  rw[Zdu hne,Zhw hne];exact h t
section
variable {P:Program}{E:Env}{B:Zbr}{ops:Array Oper}{base:Nat}{fz:List Nat}
theorem Zfm{w:World}{g:Gh}{F:Nat->AV}{a:Act}{o:Oper}{b:Bool}(hF:Fr w g F a.tmps)(h:Zbz ops o F=some b):Region.wanted o (yielded ops a.tmps)=b:=by
 unfold Zbz at h;unfold Region.wanted
 cases hg:o.guard with
 |none=>grind
 |some jw=>
  obtain⟨j,want⟩:=jw;rw[hg]at h;simp only at h ⊢
  cases hgd: (ops[j]?).bind (·.dst) with
  |none=>grind
  |some d=>
   rw[hgd]at h;simp only at h;have hv:=hF d;split at h
   ·rename_i x hx;rw[hx]at hv;have hv:=hv.bool
    have ht:a.tmps[d]? =some (.bool x):=by
     cases hq:a.tmps[d]? with
     |none=>simp [hq,undef]at hv
     |some u=>simp_all
    simp only[yielded,hgd,Vc,ht]
    simp_all
   ·rename_i hx;rw[hx]at hv;obtain⟨vs,hv,hvs⟩:=hv;simp only[VRs]at hvs;subst hvs
    have ht:yielded ops a.tmps j=none:=by
     simp only[yielded,hgd,Vc]
     cases hq:a.tmps[d]? with
     |none=>rfl
     |some u=>simp_all
    grind
   grind
theorem Zoo(hT:Zah P E)(hS:Zbg P E B){i:Nat}{o:Oper}{F F1:Nat->AV}{H H1:AH}{t:Option Trc}{w:World}{g:Gh}{ow:Nat->Nat->Prop}{a:Act}(hi:ops[i]? =some o)
  (h:ZcS E ops base fz i o F H=some (F1,H1,t)) (hR:RH B H w g ow) (hF:Fr w g F a.tmps) (hnt:a.tmps.size=E.nt) (hk: ∀id,g.K id->id<base+i*E.stp\/base+i*E.stp+E.stp<=id) {K:Act->World->Prop}{Q:Exit->Act->World->Prop}
  (hK: ∀a' w' g' ow',RH B H1 w' g' ow' ->Fr w' g' F1 a'.tmps->a'.tmps.size=E.nt->a'.defers=a.defers->g.Le g' ->ZaV g.I w w' ->(∀id,g'.K id->g.K id\/(base+i*E.stp<=id/\id<base+i*E.stp+E.stp))->
   (∀t∈E.ks,a'.tmps.getD t undef=a.tmps.getD t undef)->K a' w'):wpOp P ops Q i K a w:=by
 unfold wpOp;rw[hi];simp only
 have hks: ∀v,ZdG E o.dst=true-> ∀t∈E.ks,(a.put o.dst v).tmps.getD t undef=a.tmps.getD t undef:=fun v hd t ht=>Zhw fun e he hte=>by rw[he]at hd;exact(Zd6 hd).2 (hte▸ht)
 have hlt:ZdG E o.dst=true-> ∀e,o.dst=some e->e<a.tmps.size:=fun hd e he=>by rw[he]at hd;rw[hnt];exact(Zd6 hd).1
 unfold ZcS at h;split at h
 ·grind
 ·rename_i hw;split at h
  ·rename_i hd;simp only[Option.some.injEq,Vh]at h;obtain⟨rfl,rfl,rfl⟩:=h;rw[Zfm hF hw];simp only[Bool.false_eq_true,if_false];exact hK _ w g ow hR (hF.put ⟨[],rfl,rfl⟩ (hlt hd)) (Zh3.trans hnt) Zfe (.refl g) (fun _ _=>rfl) (by grind) (hks _ hd)
  grind
 ·rename_i hw;split at h
  ·rename_i hd
   cases hr: (aop E (base+i*E.stp) o.op o.type (aev F)).run H [] with
   |none=>grind
   |some y=>
    obtain⟨⟨v,pa⟩,rd⟩:=y;rw[hr]at h;simp only[Vc]at h;split at h
    ·simp only[Option.some.injEq,Vh]at h;obtain⟨rfl,rfl,rfl⟩:=h;rw[Zfm hF hw];simp only[if_true];refine .inl (ZqD hT hS hR hF hk hr _ _ fun val w' g' ow' h1 h2 h3 h4 h5=> ?_);exact hK _ w' g' ow' h1 ((hF.mono h3 h2).put h4 (hlt hd)) (Zh3.trans hnt) Zfe h2 h3 h5 (hks _ hd)
    grind
  grind
theorem Znp{b s i j id:Nat}(hne:j≠i)(h1:b+j*s<=id)(h2:id<b+j*s+s):id<b+i*s\/b+i*s+s<=id:=by
 rcases Nat.lt_or_ge j i with h|h
 ·left;have:=Va s (show j+1<=i from h);rw[Vd]at this;omega
 ·right;have:=Va s (show i+1<=j by omega);rw[Vd]at this;omega
theorem ZkU{b s n j id:Nat}(h:j<n)(h2:id<b+j*s+s):id<b+n*s:=by have:=Va s (Vg h);rw[Vd]at this;omega
structure RI (E:Env) (B:Zbr) (base:Nat) (U:Nat->Prop) (F:Nat->AV) (H:AH) (w:World) (a:Act) (g:Gh) (ow:Nat->Nat->Prop) (L:Nat->Prop):Prop where
 rh:RH B H w g ow
 fr:Fr w g F a.tmps
 nt:a.tmps.size=E.nt
 df:a.defers=[]
 ids: ∀id,g.K id->(id<base\/U id)\/ ∃j,L j/\base+j*E.stp<=id/\id<base+j*E.stp+E.stp
structure Lk (E:Env) (w:World) (g:Gh) (a:Act) (w' :World) (g' :Gh) (a' :Act):Prop where
 le:g.Le g'
 ag:ZaV g.I w w'
 ks: ∀t∈E.ks,a'.tmps.getD t undef=a.tmps.getD t undef
theorem Lk.refl(w:World)(g:Gh)(a:Act):Lk E w g a w g a:=⟨.refl g,fun _ _=>rfl,by simp⟩
theorem Lk.trans{w w1 w2:World}{g g1 g2:Gh}{a a1 a2:Act}(h:Lk E w g a w1 g1 a1)(k:Lk E w1 g1 a1 w2 g2 a2):Lk E w g a w2 g2 a2:=
 ⟨h.le.trans k.le,h.ag.trans k.ag h.le.I,fun t ht=>(k.ks t ht).trans (h.ks t ht)⟩
structure Lb (E:Env) (b t:Nat) (w:World) (g:Gh) (a:Act) (w' :World) (g' :Gh) (a' :Act):Prop extends Lk E w g a w' g' a' where
 nw: ∀id,g'.K id->g.K id\/(b<=id/\id<t)
theorem Lb.refl{b t:Nat}(w:World)(g:Gh)(a:Act):Lb E b t w g a w g a:=⟨.refl w g a,fun _ h=> .inl h⟩
theorem Lb.trans{b t:Nat}{w w1 w2:World}{g g1 g2:Gh}{a a1 a2:Act}(h:Lb E b t w g a w1 g1 a1)(k:Lb E b t w1 g1 a1 w2 g2 a2):Lb E b t w g a w2 g2 a2:=
 ⟨h.toLk.trans k.toLk,fun id hid=>(k.nw id hid).elim (h.nw id) .inr⟩
theorem RI.step(hT:Zah P E)(hS:Zbg P E B){i:Nat}{o:Oper}{F F1:Nat->AV}{H H1:AH}{t:Option Trc}{w:World}{g:Gh}{ow:Nat->Nat->Prop}{a:Act}{L U:Nat->Prop}(hi:ops[i]? =some o)
  (h:ZcS E ops base fz i o F H=some (F1,H1,t)) (hI:RI E B base U F H w a g ow L) (hU: ∀id,U id->base+ops.size*E.stp<=id) (hL: ¬L i) {K:Act->World->Prop}{Q:Exit->Act->World->Prop}
  (hK: ∀a' w' g' ow',RI E B base U F1 H1 w' a' g' ow' (fun j=>j=i\/L j)->Lb E base (base+ops.size*E.stp) w g a w' g' a' ->K a' w'):wpOp P ops Q i K a w:=by
 have hil:i<ops.size:=(Array.getElem?_eq_some_iff.1 hi).1;refine Zoo hT hS hi h hI.rh hI.fr hI.nt (fun id hid=> ?_) fun a' w' g' ow' h1 h2 h3 h4 h5 h6 h7 h8=>hK a' w' g' ow' ⟨h1,h2,h3,h4.trans hI.df,fun id hid=> ?_⟩ ⟨⟨h5,h6,h8⟩,fun id hid=>(h7 id hid).imp (fun h=>h) fun h=>⟨by omega,ZkU hil h.2⟩⟩
 ·rcases hI.ids id hid with (h1|h1) | ⟨j,h1,h2,h3⟩
  ·omega
  ·have:=hU id h1;have h2:=Va E.stp (Vg hil);rw[Vd]at h2;omega
  ·have hne:j≠i:=by grind
   exact Znp hne h2 h3
 ·rcases h7 id hid with h9| ⟨h9,h10⟩
  ·rcases hI.ids id h9 with h11| ⟨j,h11,h12,h13⟩
   ·exact .inl h11
   ·exact .inr ⟨j, .inr h11,h12,h13⟩
  ·exact .inr ⟨i, .inl rfl,h9,h10⟩
theorem ZhA(hT:Zah P E)(hS:Zbg P E B){T:Nat->Option Trc}{Q:Exit->Act->World->Prop}{F' :Nat->AV}{H' :AH} : ∀ {l:List Nat}{F:Nat->AV}{H:AH}{w:World}{g:Gh}{ow:Nat->Nat->Prop}{a:Act}{L U:Nat->Prop},
  Ex' E ops base fz T l F H F' H' ->l.Nodup->(∀i∈l, ¬L i)->(∀id,U id->base+ops.size*E.stp<=id)->RI E B base U F H w a g ow L->(∀a' w' g' ow',RI E B base U F' H' w' a' g' ow' (fun j=>j∈l\/L j)->Lb E base (base+ops.size*E.stp) w g a w' g' a' ->Q .normal a' w')->wpOps P ops Q l a w
 | [],F,H,w,g,ow,a,L,U,h,_,_,_,hI,hQ=>by
  cases h with
  |nil=>exact hQ a w g ow (by simp_all) (.refl w g a)
 |i::l,F,H,w,g,ow,a,L,U,h,hn,hL,hU,hI,hQ=>by
  cases h with
  |cons ho h1 h' =>
   rw[wpOps_cons];obtain⟨hn1,hn2⟩:=List.nodup_cons.1 hn;refine hI.step hT hS ho h1 hU (hL i (by simp)) fun a1 w1 g1 ow1 hI1 hl1=>ZhA hT hS h' hn2 (fun j hj=> ?_) hU hI1 fun a2 w2 g2 ow2 hI2 hl2=>hQ a2 w2 g2 ow2 ⟨hI2.rh,hI2.fr,hI2.nt,hI2.df,fun id hid=> ?_⟩ (hl1.trans hl2)
   ·grind
   ·refine(hI2.ids id hid).imp (fun h=>h) fun⟨j,h1,h2⟩=>⟨j, ?_,h2⟩
    grind
theorem Zgp: ∀ (l:List Oper) (acc:Array Nat),let r:=l.foldl (fun acc o=>acc.push (o.after.foldl (fun s e=>if Region.binds .any e then s ||| 2 ^ e.on ||| acc.getD e.on 0 else s) 0)) acc
  r.size=acc.size+l.length/\(∀k,k<acc.size->r.getD k 0=acc.getD k 0)/\
  ∀k o,l[k]? =some o-> ∀j,(r.getD (acc.size+k) 0).testBit j=true-> ∃e∈o.after,Region.binds .any e=true/\(e.on=j\/(e.on<acc.size+k/\(r.getD e.on 0).testBit j=true))
 | [],acc=>by simp
 |o::l,acc=>by
  intro r
  have ih:=Zgp l (acc.push (o.after.foldl (fun s e=>if Region.binds .any e then s ||| 2 ^ e.on ||| acc.getD e.on 0 else s) 0))
  simp only[Array.size_push]at ih;obtain⟨h1,h2,h3⟩:=ih;refine⟨by grind,fun k hk=> ?_,fun k o' ho' j hj=> ?_⟩
  ·rw[show r.getD k 0=_ from h2 k (by omega)];simp [Ve,Nat.ne_of_lt hk]
  ·cases k with
   |zero=>
    simp only[List.getElem?_cons_zero,Option.some.injEq]at ho';subst ho';rw[Nat.add_zero,show r.getD acc.size 0=_ from h2 acc.size (by omega)]at hj;have hX: ∀X:Nat,(acc.push X).getD acc.size 0=X:=by simp
    rw[hX]at hj
    have key: ∀ (es:List Edge) (s:Nat),(es.foldl (fun s e=>if Region.binds .any e then s ||| 2 ^ e.on ||| acc.getD e.on 0 else s) s).testBit j=true->s.testBit j=true\/ ∃e∈es,Region.binds .any e=true/\(e.on=j\/(acc.getD e.on 0).testBit j=true):=by
     intro es
     induction es with
     |nil=>simp
     |cons e es ih=>
      intro s h;simp only[List.foldl_cons]at h;rcases ih _ h with h| ⟨e',h4,h5⟩
      all_goals grind
    rw[<-Vf]at hj;rcases key _ _ hj with h| ⟨e,h4,h5,h6⟩
    ·grind
    ·refine⟨e,by grind,h5, ?_⟩;rcases h6 with h6|h6
     ·omega
     ·right
      have hlt:e.on<acc.size:=by
       grind
      refine⟨hlt, ?_⟩;rw[show r.getD e.on 0=_ from h2 e.on (by omega)]
      simpa [Ve,Nat.ne_of_lt hlt] using h6
   |succ k=>
    grind
theorem Zj7{i:Nat}{o:Oper}(ho:ops[i]? =some o){j:Nat}(h: ((Region.before ops).getD i 0).testBit j=true): ∃e∈o.after,Region.binds .any e=true/\(e.on=j\/(e.on<i/\((Region.before ops).getD e.on 0).testBit j=true)):=by have key:=Zgp ops.toList #[];simp only[Vf]at key;have:=key.2.2 i o (by simpa using ho) j;simp only[List.size_toArray,List.length_nil,Nat.zero_add]at this;exact this h
theorem ZhS{listed:Array Bool}(hcl: ∀i o,ops[i]? =some o->listed.getD i false=true-> ∀e∈o.after,Region.binds .any e=true->listed.getD e.on false=true)(hlt: ∀i,listed.getD i false=true-> ∃o,ops[i]? =some o){j:Nat} :
  ∀n i,i<n-> ∀o,ops[i]? =some o->(∀e∈o.after,Region.binds .any e=true->listed.getD e.on false=true)->((Region.before ops).getD i 0).testBit j=true->listed.getD j false=true:=by
 intro n
 induction n with
 |zero=>omega
 |succ n ih=>
  intro i hi o ho hall hb;obtain⟨e,h1,h2,h3⟩:=Zj7 ho hb
  grind
theorem ZoJ(hT:Zah P E)(hS:Zbg P E B){T:Nat->Option Trc}{Q:Exit->Act->World->Prop}{F' :Nat->AV}{H' :AH}(hed:Zj5 ops=true)
  (hind: ∀i j,i<j->j<ops.size->((Region.before ops).getD j 0).testBit i=false->Zp3 ops T i j): ∀ (n:Nat) {l:List Nat}{listed:Array Bool}{F:Nat->AV}{H:AH}{w:World}{g:Gh}{ow:Nat->Nat->Prop}{a:Act}{L U:Nat->Prop},
  Ex' E ops base fz T l F H F' H' ->l.length=n->l.Pairwise (· < ·)->listed.size=ops.size->(∀i,i<ops.size->(i∈l↔listed.getD i true=false))->(∀i∈l,i<ops.size)->
  (∀i o,ops[i]? =some o->listed.getD i false=true-> ∀e∈o.after,Region.binds .any e=true->listed.getD e.on false=true)->(∀i∈l, ¬L i)->(∀id,U id->base+ops.size*E.stp<=id)->RI E B base U F H w a g ow L->
  (∀a' w' g' ow',RI E B base U F' H' w' a' g' ow' (fun j=>j∈l\/L j)->Lb E base (base+ops.size*E.stp) w g a w' g' a' ->Q .normal a' w')->wpAny P .any ops Q n listed a w:=by
 have hedge: ∀i o,ops[i]? =some o-> ∀e∈o.after,Region.binds .any e=true->e.on<i:=by
  intro i o ho e he hb;unfold Zj5 at hed;rw[List.all_eq_true]at hed
  have:=hed (o,i) (by
   grind)
  rw[Array.all_eq_true_iff_forall_mem]at this;have:=this e he
  simp_all
 intro n
 induction n with
 |zero=>
  intro l listed F H w g ow a L U h hn hs hsz hm hlt hcl hL hU hI hQ;obtain rfl:=List.length_eq_zero_iff.1 hn
  cases h with
  |nil=>
   refine⟨?_,hQ a w g ow (by simp_all) (.refl w g a)⟩;rw[List.eq_nil_iff_forall_not_mem];intro j hj;rw[mem_ready]at hj
   grind
 |succ n ih=>
  intro l listed F H w g ow a L U h hn hs hsz hm hlt hcl hL hU hI hQ
  have hlisted: ∀i,i<ops.size->i ∉ l->listed.getD i false=true:=by
   grind
  have hlo: ∀i,listed.getD i false=true-> ∃o,ops[i]? =some o:=by
   intro i hi
   have:i<listed.size:=by
    grind
   simp_all
  refine⟨fun hnil=> ?_,fun i hi=> ?_⟩
  ·exfalso
   cases l with
   |nil=>grind
   |cons i l=>
    have hil:i<ops.size:=by simp [*]
    have:i∈Region.ready .any ops listed:=by
     rw[mem_ready];refine⟨by grind,_,Vb hil,fun e he hb=> ?_⟩;have hlt' :=hedge i _ (Vb hil) e he hb;refine hlisted e.on (by omega) fun hmem=> ?_;rcases List.mem_cons.1 hmem with h1|h1
     ·omega
     ·have:=(List.pairwise_cons.1 hs).1 _ h1;omega
    grind
  ·rw[mem_ready]at hi;obtain⟨h0,o,ho,hall⟩:=hi;have hil:i<ops.size:=by grind
   have hmem:=(hm i hil).2 h0;obtain⟨pre,post,rfl⟩:=List.append_of_mem hmem;have hpre: ∀j∈pre,j<i:=by grind
   have hfront:=h.front fun j hj=>by
    refine hind j i (hpre j hj) hil ?_
    cases hb: ((Region.before ops).getD i 0).testBit j with
    |false=>rfl
    |true=>
     have hj2:=ZhS hcl hlo (i+1) i (Nat.lt_succ_self i) o ho hall hb
     grind
   cases hfront with
   |cons ho' h1 h' =>
    have hnd: (pre++i::post).Nodup:=hs.imp (by omega);have hback: ∀j,j∈pre++post->j∈pre++i::post:=by grind
    have hni:i ∉ pre++post:=by
     grind
    refine hI.step hT hS ho' h1 hU (hL i (by simp)) fun a1 w1 g1 ow1 hI1 hl1=>ih (l:=pre++post) (L:=fun j=>j=i\/L j) h' (by grind) ?_ (by grind) ?_ (by grind) ?_ ?_ hU hI1 ?_
    ·grind
    ·intro j hj;by_cases hji:j=i
     ·simp [*]
     ·rw[getD_set_ne true (Ne.symm hji), <-hm j hj]
      grind
    ·intro j o' hoj hj e he hb;by_cases hji:j=i
     ·subst hji;have e1:o=o' :=by grind
      exact getD_set_true (by grind)
     ·rw[getD_set_ne false (Ne.symm hji)]at hj;exact getD_set_true (by grind)
    ·grind
    ·intro a2 w2 g2 ow2 hI2 hl2;refine hQ a2 w2 g2 ow2 ⟨hI2.rh,hI2.fr,hI2.nt,hI2.df,fun id hid=>(hI2.ids id hid).imp (fun h=>h) fun⟨j,h1,h2⟩=>⟨j, ?_,h2⟩⟩ (hl1.trans hl2)
     grind
end
end Tr
