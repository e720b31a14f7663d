/- Keys, and rows of rows: what a view of a row is. Conditions: none. -/
import Derived.Test.YtckebckjnfcniaaGreatTrH
namespace Tr
open Go
def ZaV(H:AH)(ow:Nat->Nat->Prop)(ids:List Nat)(b:Nat):Prop:= ∃id∈ids,H id≠none/\ow id b
theorem RH.free{B:Zb7}{H:AH}{w w' :World}{g:Gh}{ow:Nat->Nat->Prop}(h:RH B H w g ow){b:Nat}(hb: ∀id,H id≠none-> ¬ow id b)(hI: ¬g.I b)(hB:B.own0 b\/B.w0.heap.size<=b)
  (hheap: ∀k,k≠b->w'.heap[k]? =w.heap[k]?) (hsz:w'.heap.size=w.heap.size) (hos:w'.os=w.os) (htape:w'.tape=w.tape) (hout:ZoX w' w):RH B H w' g ow where
 objs:=fun k o ho=>by obtain⟨h1,h2⟩:=h.objs k o ho;exact⟨h1,h2.mono (fun b' hb' =>hheap b' fun e=>hI (e▸hb')) (.refl g) h1 rfl fun b' hb' =>hheap b' fun e=>hb k (by rw[ho];simp) (e▸hb')⟩
 dist:=h.dist
 sep:=fun k b' h1 h2=>by rw[hsz];exact h.sep k b' h1 h2
 ilt:=fun b' hb' =>by rw[hsz];exact h.ilt b' hb'
 inew:=h.inew
 os:=hos.trans h.os
 tape:=htape.trans h.tape
 output:=hout.trans h.output
 size:=by rw[hsz];exact h.size
 kept:=fun b' h1 h2=>by
  have hne:b' ≠b:=by
   intro e;subst e;rcases hB with h3|h3
   ·exact h2 h3
   ·omega
  rw[hheap b' hne];exact h.kept b' h1 h2
theorem ZaI: ∀ (l1 l2:Zbm) (H:AH),Zaf H (l1++l2)=Zaf (Zaf H l1) l2
 | [],_,_=>rfl
 |p::l1,l2,H=>ZaI l1 l2 (ZbS H p.1 p.2)
theorem RH.drops{B:Zb7}{w:World}{g:Gh}{ow:Nat->Nat->Prop} : ∀ (l:List Nat) {H:AH},RH B H w g ow->RH B (Zaf H (l.map fun id=>(id,none))) w g ow
 | [],_,h=>h
 |id::l,H,h=>by simp only[List.map_cons,Zaf];exact RH.drops l (h.drop id)
theorem Zdl: ∀ (l:List Nat) (H:AH) (k:Nat),Zaf H (l.map fun id=>(id,none)) k=if k∈l then none else H k
 | [],H,k=>by simp [Zaf]
 |id::l,H,k=>by
  simp only[List.map_cons,Zaf];rw[Zdl l];by_cases h1:k∈l
  ·simp [h1]
  ·by_cases h2:k=id
   ·subst h2;simp [h1,Za8]
   ·simp [h1,h2,ZaD h2]
theorem Zkp{a b:Ty}{x y:El (.prod a b)}{r:Bool}(h:ZbV (.prod a b) x y=some r):
  ∃p q,ZbV a x.1 y.1=some p/\ZbV b x.2 y.2=some q/\r=(p&&q):=by
 cases b with
 |unit=>
  simp only[ZbV]at h
  exact⟨r,true,h,rfl,by simp⟩
 |_=>
  simp only[ZbV,Option.bind_eq_some_iff]at h;obtain⟨p,hp,q,hq,hr⟩:=h;exact⟨p,q,hp,hq,by simpa using hr.symm⟩
theorem Zlf: ∀ (t:Ty) (x y:El t),ZbV t x y=some true->x=y:=by
 intro t
 induction t with
 |int k=>intro x y h;simpa [ZbV] using h
 |bool=>intro x y h;simpa [ZbV] using h
 |str=>intro x y h;simpa [ZbV] using h
 |unit=>intro x y _;rfl
 |sl t _=>intro x y h;simp [ZbV]at h
 |ref=>intro x y h;simp [ZbV]at h
 |prod a b iha ihb=>
  intro x y h;obtain⟨p,q,hp,hq,hr⟩:=Zkp h;simp at hr;obtain⟨rfl,rfl⟩:=hr
  exact Prod.ext (iha _ _ hp) (ihb _ _ hq)
 |arr n t ih=>
  intro x y h;simp only[ZbV]at h
  have key: ∀ (l m:List (El t)),ZbV.eqs (ZbV t) l m=some true->l=m:=by
   intro l
   induction l with
   |nil=>intro m h;cases m<;>simp [ZbV.eqs]at h;rfl
   |cons a l ihl=>
    intro m h
    cases m with
    |nil=>simp [ZbV.eqs]at h
    |cons b m=>
     simp only[ZbV.eqs,Option.bind_eq_some_iff,Option.some.injEq,Bool.and_eq_true]at h;obtain⟨p,hp,q,hq,rfl,rfl⟩:=h;rw[ih _ _ hp,ihl _ hq]
  exact key x y h
theorem ZqU: ∀ (t:Ty) (x:El t),t.key=true->ZbV t x x=some true:=by
 intro t
 induction t with
 |int k=>intro x _;simp [ZbV]
 |bool=>intro x _;simp [ZbV]
 |str=>intro x _;simp [ZbV]
 |unit=>intro x _;rfl
 |sl t _=>intro x h;simp [Ty.key]at h
 |ref=>intro x h;simp [Ty.key]at h
 |prod a b iha ihb=>
  intro x h;simp only[Ty.key,Bool.and_eq_true]at h;have h1:=iha x.1 h.1;have h2:=ihb x.2 h.2
  cases b with
  |unit=>exact h1
  |_=>
   show (ZbV a x.1 x.1).bind _=_;rw[h1,Option.bind_some,h2]
   rfl
 |arr n t ih=>
  intro x h;simp only[Ty.key]at h;simp only[ZbV]
  have key: ∀l:List (El t),ZbV.eqs (ZbV t) l l=some true:=by
   intro l
   induction l with
   |nil=>rfl
   |cons a l ihl=>simp [ZbV.eqs,ih a h,ihl]
  exact key x
theorem Za5{t:Ty}(hk:t.key=true){x y:El t} :Zap t x y=true↔x=y:=by
 constructor
 ·intro h;unfold Zap at h
  cases he:ZbV t x y with
  |none=>rw[he]at h;simp at h
  |some r=>
   rw[he]at h;simp only[Option.getD_some]at h;subst h;exact Zlf t x y he
 ·rintro rfl;simp [Zap,ZqU t x hk]
theorem ZcU{t:Ty}(h:t.keyOk=true):t.key=true:=by simp only[Ty.keyOk,Bool.and_eq_true]at h;exact h.1
def Zc8{α β:Type}(eq:α->α->Bool)(k:α):List (α×β)->Option Nat
 | []=>none
 |e::l=>bif eq k e.1 then some 0 else(Zc8 eq k l).map (· +1)
theorem ZdU{α β:Type}(eq:α->α->Bool)(k:α): ∀ (l:List (α×β)),ZaL eq k l=(Zc8 eq k l).bind fun j=>(l[j]?).map Prod.snd
 | []=>rfl
 |e::l=>by
  simp only[ZaL,Zc8]
  cases eq k e.1 with
  |true=>rfl
  |false=>
   simp only[cond_false,ZdU eq k l]
   cases Zc8 eq k l<;>simp
theorem ZdP{α β:Type}(eq:α->α->Bool)(k:α)(v:β): ∀ (l:List (α×β)),Za9 eq k v l=match Zc8 eq k l with|some j=>l.set j (k,v) |none=>l++[(k,v)]
 | []=>rfl
 |e::l=>by
  simp only[Za9,Zc8]
  cases eq k e.1 with
  |true=>rfl
  |false=>
   simp only[cond_false,ZdP eq k v l]
   cases Zc8 eq k l<;>simp
theorem ZcM{α β:Type}(eq:α->α->Bool)(k:α): ∀ (l:List (α×β)) (j:Nat),Zc8 eq k l=some j-> ∃e,l[j]? =some e/\eq k e.1=true
 | [],j,h=>by simp [Zc8]at h
 |e::l,j,h=>by
  simp only[Zc8]at h
  cases he:eq k e.1 with
  |true=>rw[he]at h;simp at h;subst h;exact⟨e,rfl,he⟩
  |false=>
   rw[he]at h;simp only[cond_false,Option.map_eq_some_iff]at h;obtain⟨i,h1,rfl⟩:=h;obtain⟨e',h2,h3⟩:=ZcM eq k l i h1;exact⟨e',by simpa using h2,h3⟩
theorem ZeL{t:Ty}{β:Type}(hk:t.key=true){k:El t} : ∀ {l:List (El t×β)}{x:β},ZaL (Zap t) k l=some x->(k,x)∈l
 | [],_,h=>by simp [ZaL]at h
 |e::l,x,h=>by
  simp only[ZaL]at h
  cases he:Zap t k e.1 with
  |true=>
   rw[he]at h;simp only[cond_true,Option.some.injEq]at h;have:=(Za5 hk).1 he;subst this;subst h
   exact List.mem_cons_self ..
  |false=>rw[he]at h;exact List.mem_cons_of_mem _ (ZeL hk h)
theorem Ze0{t:Ty}{β:Type}(hk:t.key=true){k:El t} : ∀ {l:List (El t×β)},ZaL (Zap t) k l=none->k ∉ l.map Prod.fst
 | [],_=>by simp
 |e::l,h=>by
  simp only[ZaL]at h
  cases he:Zap t k e.1 with
  |true=>rw[he]at h;simp at h
  |false=>
   rw[he]at h;simp only[List.map_cons,List.mem_cons,not_or];exact⟨fun e1=>by rw[(Za5 hk).2 e1]at he;simp at he,Ze0 hk h⟩
theorem Zb5{t:Ty}{β:Type}(hk:t.key=true){k:El t}{v:β} : ∀ {l:List (El t×β)},(k∈l.map Prod.fst->(Za9 (Zap t) k v l).map Prod.fst=l.map Prod.fst)/\(k ∉ l.map Prod.fst->Za9 (Zap t) k v l=l++[(k,v)])
 | []=>by simp [Za9]
 |e::l=>by
  have ih:=Zb5 hk (k:=k) (v:=v) (l:=l);simp only[Za9]
  cases he:Zap t k e.1 with
  |true=>
   have:=(Za5 hk).1 he;subst this
   simp
  |false=>
   have hne:k≠e.1:=fun e1=>by rw[(Za5 hk).2 e1]at he;simp at he
   simp only[cond_false,List.map_cons,List.mem_cons];refine⟨fun h=> ?_,fun h=> ?_⟩
   ·rw[ih.1 (h.resolve_left hne)]
   ·rw[ih.2 fun h' =>h (.inr h')];rfl
theorem Zfv{t:Ty}{β:Type}(hk:t.key=true){k:El t}{v:β}{l:List (El t×β)}(hn: (l.map Prod.fst).Nodup): ((Za9 (Zap t) k v l).map Prod.fst).Nodup:=by
 by_cases h:k∈l.map Prod.fst
 ·rw[(Zb5 hk).1 h];exact hn
 ·rw[(Zb5 hk).2 h,List.map_append,List.nodup_append];refine⟨hn,by simp,fun a ha b hb e=> ?_⟩;simp only[List.map_cons,List.map_nil,List.mem_singleton]at hb;subst hb;subst e;exact h ha
theorem Zf6{t:Ty}{β:Type}(hk:t.key=true){k k' :El t}{v x:β} : ∀ {l:List (El t×β)},(l.map Prod.fst).Nodup->(k',x)∈Za9 (Zap t) k v l->(k' =k/\x=v)\/(k' ≠k/\(k',x)∈l)
 | [],_,h=>by simp [Za9]at h;exact .inl h
 |e::l,hn,h=>by
  simp only[List.map_cons,List.nodup_cons]at hn;simp only[Za9]at h
  cases he:Zap t k e.1 with
  |true=>
   have e1:=(Za5 hk).1 he;rw[he]at h;simp only[cond_true,List.mem_cons,Prod.mk.injEq]at h;rcases h with h|h
   ·exact .inl h
   ·refine .inr ⟨fun e2=> ?_,List.mem_cons_of_mem _ h⟩;have:e.1∈l.map Prod.fst:=List.mem_map.2 ⟨(k',x),h,by rw[e2,e1]⟩
    exact hn.1 this
  |false=>
   rw[he]at h;simp only[cond_false,List.mem_cons]at h;rcases h with h|h
   ·refine .inr ⟨fun e2=> ?_,by rw[h];exact List.mem_cons_self ..⟩;rw[<-h]at he;rw[(Za5 hk).2 e2.symm]at he;simp at he
   ·exact(Zf6 hk hn.2 h).imp (fun h=>h) fun⟨h1,h2⟩=>⟨h1,List.mem_cons_of_mem _ h2⟩
theorem Zln{α β:Type}{r:α->β->Prop} : ∀ {l:List α}{m:List β},l.length=m.length->(∀ (n:Nat) a b,l[n]? =some a->m[n]? =some b->r a b)->Fa r l m
 | [],[],_,_=>trivial
 |a::l,b::m,h,hr=>⟨hr 0 a b rfl rfl,Zln (by simpa using h) fun n x y hx hy=>hr (n+1) x y hx hy⟩
theorem Za7{n:Nat} : ∀ {l:List Nat},ZdN n l=true↔n∈l
 | []=>by simp [ZdN]
 |k::l=>by simp only[ZdN,Bool.or_eq_true,Nat.beq_eq,List.mem_cons,Za7]
theorem Ze9: ∀ {l:List Nat},Zeo l=true↔l.Nodup
 | []=>by simp [Zeo]
 |n::l=>by simp only[Zeo,Bool.and_eq_true,Bool.not_eq_true',List.nodup_cons,Ze9];rw[<-Za7,Bool.not_eq_true]
theorem Zcw: ∀ {l m:List Nat},ZdV l m=true↔ ∀n∈l,n ∉ m
 | [],m=>by simp [ZdV]
 |n::l,m=>by simp only[ZdV,Bool.and_eq_true,Bool.not_eq_true',List.forall_mem_cons,Zcw];rw[<-Za7,Bool.not_eq_true]
theorem Zbi{b:Bool}{u:Unit}(h:Zar b=some u):b=true:=by
 cases b<;>simp [Zar]at h;rfl
theorem Zmw{α β:Type}{r:α->β->Prop} : ∀ {l:List α}{m:List β},Fa r l m-> ∀ {n:Nat}{a:α}{b:β},l[n]? =some a->m[n]? =some b->r a b
 | [],[],_,n,a,b,h,_=>by simp at h
 |_::_,_::_,⟨p,_⟩,0,a,b,h,h' =>by
  simp only[List.getElem?_cons_zero,Option.some.injEq]at h h'
  subst h;subst h';exact p
 |_::_,_::_,⟨_,q⟩,n+1,a,b,h,h' =>Zmw q (by simpa using h) (by simpa using h')
theorem ZlQ{P:Program}{θ:TypeId->Option Ty}{T:TypeId}{t:Ty}(h:TOk P θ T (.sl t))(w:World): (zeroValue T).run P w= .ok (.slice none 0 0) w:=by
 obtain⟨i,z,h1,_,_,h4,h5,h6⟩:=h.info
 have hc:z.cells.toList=[.slice none 0 0]:=by
  unfold ZeI at h5
  cases hd: (Ty.sl t).data with
  |true=>
   rw[hd]at h5;simp only[cond_true]at h5
   match hz:z.cells.toList,h5 with
   | [.slice none 0 0],_=>rfl
  |false=>
   rw[hd]at h5;simp only[cond_false]at h5
   match hz:z.cells.toList,h5 with
   | [.slice none 0 0],_=>rfl
 have:z= .slice none 0 0:=ZaJ hc (by rw[h6];rfl);subst this;simp only[zeroValue,typeInfo,Sem.run_bind,run_program,Result.andThen_ok,h1,Sem.run_pure,h4]
section
variable {B:Zb7}{H:AH}{w:World}{g:Gh}{ow:Nat->Nat->Prop}
theorem Zcy{t t' :Ty}{x:List (El t)}{y:El (.sl t')}(h:ZaU (.sl t) (.sl t') x=some y): ∃e:t=t',y=(e▸x:List (El t')):=by obtain⟨e,h⟩:=Zaz h;cases e;exact⟨rfl,h⟩
theorem ZeY{t:Ty}{x:AV}{val:Value}{y:List (El t)}{ids l l' :List Nat}(hR:RH B H w g ow)(hx:VR w g x val)(h: (ZbK t x).run H l=some ((y,ids),l')):
  (ids=[]/\y=[]/\val= .slice none 0 0)\/ ∃id,ids=[id]/\H id≠none/\((y=[]/\val= .slice none 0 0)\/ ∃b cap cs e css,ow id b/\val= .slice (some ⟨b,0,none⟩) y.length cap/\w.heap[b]? =some (.cells cs e (0,0))/\
   y.length<=cap/\cap*t.size<=cs.size/\Fa (Rd w g.I t) y css/\css.flatten<+:cs.toList):=by
 unfold ZbK at h;split at h
 ·rename_i id;rw[Zao]at h;split at h
  ·rename_i t' xs hH;simp only[Zag,Zac,Prod.mk.injEq]at h;obtain⟨y',hy,⟨rfl,rfl⟩,_⟩:=h;obtain⟨he,rfl⟩:=Zaz hy;cases he;obtain⟨_,hv⟩:=hx.vw;obtain⟨_,_,hO⟩:=hR.objs id _ hH;refine .inr ⟨id,rfl,by rw[hH];simp, ?_⟩;rcases hO with ⟨rfl,_,hs⟩ | ⟨b,cap,cs,e,css,_,ho,hs,hh,h1,h2,hfa,hc⟩
   ·exact .inl ⟨rfl,hv.trans hs⟩
   ·exact .inr ⟨b,cap,cs,e,css,ho,hv.trans hs,hh,h1,h2,hfa,hc⟩
  ·simp [Zaa]at h
 ·rename_i id n;rw[Zao]at h;split at h
  ·rename_i t' xs hH;simp only[Zag,Zac,Prod.mk.injEq]at h;obtain⟨y',hy,⟨rfl,rfl⟩,_⟩:=h;obtain⟨he,rfl⟩:=Zaz hy;cases he;obtain⟨_,hv⟩:=hx.vs;obtain⟨_,hty,hO⟩:=hR.objs id _ hH;rw[hty]at hv;refine .inr ⟨id,rfl,by rw[hH];simp, ?_⟩;rcases hv with ⟨hs,_,rfl,hv⟩ | ⟨b,len,cap,m,hs,h1,h2,h3,hv⟩
   ·exact .inl ⟨by simp,(List.cons.inj hv).1⟩
   ·rcases hO with ⟨_,_,hs'⟩ | ⟨b',cap',cs,e,css,_,ho,hs',hh,h4,h5,hfa,hc⟩
    ·rw[hs]at hs';cases hs'
    ·rw[hs]at hs';simp only[Value.slice.injEq,Option.some.injEq,Addr.mk.injEq,and_true]at hs';obtain⟨rfl,rfl,rfl⟩:=hs';have hlen: (xs.take n).length=n:=by simp;omega
     refine .inr ⟨b,m,cs,e,css.take n,ho, ?_,hh, ?_, ?_,hfa.take n, ?_⟩
     ·show val= .slice _ (xs.take n).length m;rw[hlen,(List.cons.inj hv).1];simp
     ·show (xs.take n).length<=m;omega
     ·have:m*t.size<=cap*t.size:=Nat.mul_le_mul_right _ (by omega);omega
     ·refine List.IsPrefix.trans ⟨(css.drop n).flatten, ?_⟩ hc;rw[<-List.flatten_append,List.take_append_drop]
  ·simp [Zaa]at h
 ·simp only[Zac,Prod.mk.injEq]at h;obtain⟨⟨rfl,rfl⟩,_⟩:=h;exact .inl ⟨rfl,rfl,hx.nils⟩
 ·simp [Zaa]at h
theorem ZdZ{t:Ty}{x:AV}{val:Value}{y:List (El t)}{ids l l' :List Nat}(hR:RH B H w g ow)(hx:VR w g x val)(h: (ZbK t x).run H l=some ((y,ids),l')):Zge w g.I (ZaV H ow ids) t y val:=by
 rcases ZeY hR hx h with ⟨_,h1,h2⟩ | ⟨id,rfl,hid,⟨h1,h2⟩ | ⟨b,cap,cs,e,css,ho,h1,h2,h3,h4,h5,h6⟩⟩
 ·exact .inl ⟨h1,h2⟩
 ·exact .inl ⟨h1,h2⟩
 ·exact .inr ⟨b,cap,cs,e,css,h1,⟨id,by simp,hid,ho⟩,h2,h3,h4,h5,h6⟩
theorem Zge.own{I J:Nat->Prop}{t:Ty}{xs:List (El t)}{hd:Value}(h:Zge w I J t xs hd){b:Nat}(hb:ZfD hd=some b):J b:=by
 rcases h with ⟨_,rfl⟩ | ⟨b',_,_,_,_,rfl,h2,_⟩
 ·simp [ZfD]at hb
 ·simp only[ZfD,Option.some.injEq]at hb;subst hb;exact h2
theorem Zge.one{I J:Nat->Prop}{t:Ty}{xs:List (El t)}{hd:Value}(h:Zge w I J t xs hd):hd.oneCell' =true/\ZaN hd=false:=by
 rcases h with ⟨_,rfl⟩ | ⟨b',_,_,_,_,rfl,h2,_⟩<;>exact⟨rfl,rfl⟩
theorem RF.put{κ:Type}{w' :World}{I J J' :Nat->Prop}{t:Ty}{top:Option Nat}{row row' :κ->Value}{c c' :κ->List (El t)->Prop}{hole:Option κ}(h:RF w I J t top row c hole){k0:κ}{x0:List (El t)}
  (hrow: ∀k,k≠k0->row' k=row k) (hc: ∀k x,c' k x->(k=k0/\x=x0)\/(k≠k0/\c k x)) (hh:hole=none\/hole=some k0) (hx:Zge w' I J' t x0 (row' k0))
  (hold: ∀k x,c k x->k≠k0->Zge w I J t x (row k)->Zge w' I J' t x (row k)) (hds: ∀b,ZfD (row' k0)=some b->(∀k x,c k x->k≠k0->ZfD (row k)≠some b)/\top≠some b):RF w' I J' t top row' c' none:=by
 have hne: ∀k,k≠k0->hole≠some k:=fun k hk e=>by
  rcases hh with h1|h1
  ·rw[h1]at e;cases e
  ·rw[h1]at e;exact hk (Option.some.inj e).symm
 refine⟨fun k x hk _=> ?_,fun k k' x x' b hk hk' hkk _ _ hb hb' => ?_,fun k x b hk _ hb=> ?_⟩
 ·rcases hc k x hk with ⟨rfl,rfl⟩ | ⟨h1,h2⟩
  ·exact hx
  ·rw[hrow k h1];exact hold k x h2 h1 (h.rd k x h2 (hne k h1))
 ·rcases hc k x hk with ⟨rfl,rfl⟩ | ⟨h1,h2⟩
  ·rcases hc k' x' hk' with ⟨h3,_⟩ | ⟨h3,h4⟩
   ·exact hkk h3.symm
   ·rw[hrow k' h3]at hb';exact(hds b hb).1 k' x' h4 h3 hb'
  ·rw[hrow k h1]at hb;rcases hc k' x' hk' with ⟨rfl,rfl⟩ | ⟨h3,h4⟩
   ·exact(hds b hb').1 k x h2 h1 hb
   ·rw[hrow k' h3]at hb';exact h.ds k k' x x' b h2 h4 hkk (hne k h1) (hne k' h3) hb hb'
 ·rcases hc k x hk with ⟨rfl,rfl⟩ | ⟨h1,h2⟩
  ·exact(hds b hb).2
  ·rw[hrow k h1]at hb;exact h.tp k x b h2 (hne k h1) hb
theorem RF.take{κ:Type}{w' :World}{I J J' :Nat->Prop}{t:Ty}{top:Option Nat}{row:κ->Value}{c:κ->List (El t)->Prop}(h:RF w I J t top row c none)(k0:κ)
  (hold: ∀k x,c k x->k≠k0->Zge w I J t x (row k)->Zge w' I J' t x (row k)):RF w' I J' t top row c (some k0):=by
 have hne: ∀k,some k0≠some k->k≠k0:=fun k h e=>h (by rw[e]);exact⟨fun k x hk hn=>hold k x hk (hne k hn) (h.rd k x hk (by simp)),fun k k' x x' b hk hk' hkk _ _ hb=>h.ds k k' x x' b hk hk' hkk (by simp) (by simp) hb,fun k x b hk _ hb=>h.tp k x b hk (by simp) hb⟩
def RL(w:World)(I J:Nat->Prop)(t:Ty)(hd:List Value)(xs:List (List (El t))):Prop:=
 hd.length=xs.length/\RF w I J t none (fun i:Nat=>hd.getD i undef) (fun i x=>xs[i]? =some x) none
theorem RL.nil{I J:Nat->Prop}{t:Ty} :RL w I J t [] []:=⟨rfl,⟨fun k x h=>by simp at h,fun k k' x x' b h=>by simp at h,fun k x b h=>by simp at h⟩⟩
theorem RL.row{I J:Nat->Prop}{t:Ty}{hd:List Value}{xs:List (List (El t))}(h:RL w I J t hd xs){i:Nat}{x:List (El t)}(hx:xs[i]? =some x):Zge w I J t x (hd.getD i undef):=h.2.rd i x hx (by simp)
theorem RL.mono{w' :World}{I I' J J' :Nat->Prop}{t:Ty}{hd:List Value}{xs:List (List (El t))}(hw:Zbe I w w')(hI: ∀b,I b->I' b)(hJ: ∀b,J b->J' b)(hb: ∀i x b,xs[i]? =some x->ZfD (hd.getD i undef)=some b->w'.heap[b]? =w.heap[b]?)(h:RL w I J t hd xs):RL w' I' J' t hd xs:=
 ⟨h.1,⟨fun k x hk _=>(h.row hk).mono hw hI (fun b _=>hJ b) fun b hr _=>hb k x b hk hr,h.2.ds,h.2.tp⟩⟩
theorem RL.single{I J:Nat->Prop}{t:Ty}{v:Value}{x:List (El t)}(h:Zge w I J t x v):RL w I J t [v] [x]:=by
 refine⟨rfl,⟨fun k y hk _=> ?_,fun k k' y y' b hk hk' hne=> ?_,fun k y b hk _ _=>by simp⟩⟩
 ·cases k with
  |zero=>simp at hk;subst hk;exact h
  |succ k=>simp at hk
 ·cases k<;>cases k' <;>simp at hk hk' hne
theorem RL.append{I J1 J2:Nat->Prop}{t:Ty}{h1 h2:List Value}{xs ys:List (List (El t))}(a:RL w I J1 t h1 xs)(b:RL w I J2 t h2 ys)(hd: ∀c,J1 c-> ¬J2 c):RL w I (fun c=>J1 c\/J2 c) t (h1++h2) (xs++ys):=by
 have key: ∀i x,(xs++ys)[i]? =some x->(i<xs.length/\xs[i]? =some x/\(h1++h2).getD i undef=h1.getD i undef)\/(xs.length<=i/\ys[i - xs.length]? =some x/\(h1++h2).getD i undef=h2.getD (i - xs.length) undef):=by
  intro i x hi;rcases Nat.lt_or_ge i xs.length with hl|hl
  ·rw[List.getElem?_append_left hl]at hi;exact .inl ⟨hl,hi,by simp only[List.getD_eq_getElem?_getD];rw[List.getElem?_append_left (by rw[a.1];exact hl)]⟩
  ·rw[List.getElem?_append_right hl]at hi;exact .inr ⟨hl,hi,by simp only[List.getD_eq_getElem?_getD];rw[List.getElem?_append_right (by rw[a.1];exact hl),a.1]⟩
 refine⟨by simp [a.1,b.1],⟨fun i x hi _=> ?_,fun i j x y c hi hj hne _ _ hc hc' => ?_,fun _ _ _ _ _ _=>by simp⟩⟩
 ·rcases key i x hi with ⟨_,h3,h4⟩ | ⟨_,h3,h4⟩
  ·rw[h4];exact(a.row h3).mono (fun _ _=>rfl) (fun _ h=>h) (fun _ _ h=> .inl h) fun _ _ _=>rfl
  ·rw[h4];exact(b.row h3).mono (fun _ _=>rfl) (fun _ h=>h) (fun _ _ h=> .inr h) fun _ _ _=>rfl
 ·rcases key i x hi with ⟨h3,h4,h5⟩ | ⟨h3,h4,h5⟩<;>rcases key j y hj with ⟨h6,h7,h8⟩ | ⟨h6,h7,h8⟩
  ·rw[h5]at hc;rw[h8]at hc';exact a.2.ds i j x y c h4 h7 hne (by simp) (by simp) hc hc'
  ·rw[h5]at hc;rw[h8]at hc';exact hd c ((a.row h4).own hc) ((b.row h7).own hc')
  ·rw[h5]at hc;rw[h8]at hc';exact hd c ((a.row h7).own hc') ((b.row h4).own hc)
  ·rw[h5]at hc;rw[h8]at hc';exact b.2.ds _ _ x y c h4 h7 (by omega) (by simp) (by simp) hc hc'
def Zcg(w:World)(I J:Nat->Prop)(t:Ty)(xs:List (List (El t)))(v:Value):Prop:=
 ∃hd,RL w I J t hd xs/\((xs=[]/\v= .slice none 0 0)\/ ∃b cap cs e,J b/\(∀i x,xs[i]? =some x->ZfD (hd.getD i undef)≠some b)/\v= .slice (some ⟨b,0,none⟩) xs.length cap/\w.heap[b]? =some (.cells cs e (0,0))/\
  xs.length<=cap/\cap<=cs.size/\ ∀i,i<xs.length->cs[i]? =some (hd.getD i undef))
def Zce(w:World)(I J:Nat->Prop)(kt t:Ty)(m:List (El kt×List (El t)))(v:Value):Prop:=
 ∃ (row:El kt->Value) (b:Nat) (es:Array MapEntry) (clock:Nat),v= .map (some b)/\J b/\w.heap[b]? =some (.map es clock)/\RF w I J t (some b) row (fun k x=>(k,x)∈m) none/\(m.map Prod.fst).Nodup/\
  (∀k,k ∉ m.map Prod.fst->row k= .slice none 0 0)/\Fa (fun kv e=>(Rd w I kt kv.1 e.key.cells.toList/\ZaN e.key=kt.agg)/\e.val=row kv.1) m es.toList
theorem Zcg.mono{w' :World}{I I' J J' :Nat->Prop}{t:Ty}{xs:List (List (El t))}{v:Value}(hw:Zbe I w w')(hI: ∀b,I b->I' b)(hJ: ∀b,J b->J' b)(hb: ∀b,J b->w'.heap[b]? =w.heap[b]?)(h:Zcg w I J t xs v):Zcg w' I' J' t xs v:=by
 obtain⟨hd,h1,h2⟩:=h;refine⟨hd,h1.mono hw hI hJ fun i x b hx hr=>hb b ((h1.row hx).own hr), ?_⟩;rcases h2 with h2| ⟨b,cap,cs,e,h3,h4,h5,h6,h7⟩
 ·exact .inl h2
 ·exact .inr ⟨b,cap,cs,e,hJ b h3,h4,h5,(hb b h3).trans h6,h7⟩
theorem Zce.mono{w' :World}{I I' J J' :Nat->Prop}{kt t:Ty}{m:List (El kt×List (El t))}{v:Value}(hw:Zbe I w w')(hI: ∀b,I b->I' b)(hJ: ∀b,J b->J' b)(hb: ∀b,J b->w'.heap[b]? =w.heap[b]?)(h:Zce w I J kt t m v):Zce w' I' J' kt t m v:=by obtain⟨row,b,es,clock,h1,h2,h3,h4,h5,h6,h7⟩:=h;exact⟨row,b,es,clock,h1,hJ b h2,(hb b h2).trans h3,h4.mono hw hI hJ hb,h5,h6,h7.mono fun kv e hx=>⟨⟨Rd.mono hw hI kt _ _ hx.1.1,hx.1.2⟩,hx.2⟩⟩
theorem Zcg.of_obj{J:Nat->Prop}{id u:Nat}{t:Ty}{xs:List (List (El t))}(h:Zf5 w g J id (.rows t xs u none)):Zcg w g.I J t xs (g.slv id):=by
 obtain⟨_,_,hrf,hO⟩:=h
 have hd: ∀i x,xs[i]? =some x->((List.range xs.length).map fun i:Nat=>g.row id (.int .i64) (i:Int)).getD i undef=g.row id (.int .i64) (i:Int):=fun i x hx=>by have:=(List.getElem?_eq_some_iff.1 hx).1;simp [this]
 refine⟨(List.range xs.length).map fun i:Nat=>g.row id (.int .i64) (i:Int),⟨by simp,⟨fun i x hx _=> ?_,fun i j x y b hx hy hne _ _ hb=> ?_,fun _ _ _ _ _ _=>by simp⟩⟩, ?_⟩
 ·rw[hd i x hx];exact hrf.rd i x hx (by simp)
 ·rw[hd i x hx]at hb;rw[hd j y hy];exact hrf.ds i j x y b hx hy hne (by simp) (by simp) hb
 ·rcases hO with ⟨h1,_,h2⟩ | ⟨b,cap,cs,e,hb,h3,h4,h5,h6,h7,h8⟩
  ·exact .inl ⟨h1,h2⟩
  ·refine .inr ⟨b,cap,cs,e,h3,fun i x hx=> ?_,h4,h5,h6,h7,fun i hi=> ?_⟩
   ·rw[hd i x hx];intro hr;exact hrf.tp i x b hx (by simp) hr hb
   ·rw[hd i _ (List.getElem?_eq_getElem hi)];exact h8 i hi
theorem Zce.of_obj{J:Nat->Prop}{id u:Nat}{kt t:Ty}{m:List (El kt×List (El t))}(h:Zf5 w g J id (.mrows kt t m u none)): ∃b,g.blk id=some b/\Zce w g.I J kt t m (.map (some b)):=by obtain⟨_,_,hrf,hnd,habs,b,es,clock,hb,h1,h2,h3⟩:=h;refine⟨b,hb,g.row id kt,b,es,clock,rfl,h1,h2, ?_,hnd,habs,h3.mono fun kv e hx=>⟨⟨by simpa only[CV] using hx.1.1,by simpa [AV.isAgg] using hx.1.2⟩,hx.2⟩⟩;rw[<-hb];exact hrf
def Zje(hd:List Value): (kt:Ty)->El kt->Value:=fun kt k=>if h:kt= .int .i64 then hd.getD ((h▸k:El (.int .i64)):Int).toNat undef else .slice none 0 0
theorem Zdq(hd:List Value)(i:Nat):Zje hd (.int .i64) (i:Int)=hd.getD i undef:=by simp [Zje]
def Zuj{kt:Ty}(row:El kt->Value): (kt' :Ty)->El kt' ->Value:=fun kt' k=>if h:kt' =kt then row (h▸k) else .slice none 0 0
theorem Zp4{kt:Ty}(row:El kt->Value)(k:El kt):Zuj row kt k=row k:=by simp [Zuj]
theorem Zcg.obj{J:Nat->Prop}{t:Ty}{xs:List (List (El t))}{v:Value}(h:Zcg w g.I J t xs v)(id:Nat): ∃b r,Zf5 w (g.add id (.sl t) b v r) J id (.rows t xs 0 none):=by
 obtain⟨hd,⟨hl,hrf⟩,h2⟩:=h;have hrow: ∀b,(g.add id (.sl t) b v (Zje hd)).row id=Zje hd:=fun b=>by simp [Gh.add]
 rcases h2 with ⟨rfl,rfl⟩ | ⟨b,cap,cs,e,h3,h4,h5,h6,h7,h8,h9⟩
 ·refine⟨none,Zje hd,by simp [Gh.add],by simp [Gh.add], ?_, .inl ⟨rfl,by simp [Gh.add],by simp [Gh.add]⟩⟩;exact⟨fun k x h=>by simp at h,fun k k' x x' b h=>by simp at h,fun k x b h=>by simp at h⟩
 ·refine⟨some b,Zje hd,by simp [Gh.add],by simp [Gh.add], ?_, .inr ⟨b,cap,cs,e,by simp [Gh.add],h3,by simp [Gh.add,h5],h6,h7,h8,fun i hi=> ?_⟩⟩
  ·rw[hrow];refine⟨fun i x hx hn=> ?_,fun i j x y c hx hy hne h10 h11 hc=> ?_,fun i x c hx _ hc=> ?_⟩
   ·rw[Zdq];exact hrf.rd i x hx hn
   ·rw[Zdq]at hc ⊢;exact hrf.ds i j x y c hx hy hne h10 h11 hc
   ·rw[Zdq]at hc;simp only[Gh.add,if_true];intro e1;cases e1;exact h4 i x hx hc
  ·rw[hrow,Zdq];exact h9 i hi
theorem Zce.obj{J:Nat->Prop}{kt t:Ty}{m:List (El kt×List (El t))}{b:Nat}(h:Zce w g.I J kt t m (.map (some b)))(id:Nat): ∃r,Zf5 w (g.add id (.sl t) (some b) undef r) J id (.mrows kt t m 0 none):=by
 obtain⟨row,b',es,clock,h1,h2,h3,h4,h5,h6,h7⟩:=h;cases h1;have hrow: (g.add id (.sl t) (some b) undef (Zuj row)).row id kt=row:=by funext k;simp [Gh.add,Zp4]
 refine⟨Zuj row,by simp [Gh.add],by simp [Gh.add], ?_,h5, ?_,b,es,clock,by simp [Gh.add],h2,h3, ?_⟩
 ·rw[hrow];simpa [Gh.add] using h4
 ·rw[hrow];exact h6
 ·rw[hrow];exact h7.mono fun kv e hx=>⟨⟨by simp only[CV];exact hx.1.1, .inr (by simpa [AV.isAgg] using hx.1.2)⟩,hx.2⟩
theorem Zgz{t:Ty}{x:AV}{val:Value}{y:List (List (El t))}{ids l l' :List Nat}(hR:RH B H w g ow)(hx:VR w g x val)(h: (Zdb t x).run H l=some ((y,ids),l')):Zcg w g.I (ZaV H ow ids) t y val/\(ids=[]\/ ∃id,ids=[id]/\H id≠none):=by
 unfold Zdb at h;split at h
 ·rename_i id;rw[Zao]at h;split at h
  ·rename_i t' xs u hH;simp only[Zag,Zac,Prod.mk.injEq]at h;obtain⟨y',hy,⟨rfl,rfl⟩,_⟩:=h;obtain⟨he,rfl⟩:=Zaz hy;cases he;obtain⟨_,hv⟩:=hx.vw;rw[hv];exact⟨(Zcg.of_obj (hR.objs id _ hH).2).mono (fun _ _=>rfl) (fun _ h=>h) (fun b hb=>⟨id,by simp,by rw[hH];simp,hb⟩) fun _ _=>rfl, .inr ⟨id,rfl,by rw[hH];simp⟩⟩
  ·simp [Zaa]at h
 ·simp only[Zac,Prod.mk.injEq]at h;obtain⟨⟨rfl,rfl⟩,_⟩:=h;exact⟨⟨[],RL.nil, .inl ⟨rfl,hx.nils⟩⟩, .inl rfl⟩
 ·simp [Zaa]at h
def Gh.bump(g:Gh)(id v:Nat)(r: (kt:Ty)->El kt->Value):Gh:=
 {g with ver:=fun k=>if k=id then v else g.ver k,row:=fun k=>if k=id then r else g.row k}
theorem Gh.le_bump{g:Gh}{id v:Nat}{r: (kt:Ty)->El kt->Value}(h:g.ver id<v):g.Le (g.bump id v r) where
 I:=fun _ h=>h
 K:=fun _ h=>h
 ty:=fun _ _=>rfl
 blk:=fun _ _=>rfl
 slv:=fun _ _=>rfl
 ver:=fun k _=>by
  show g.ver k<=if k=id then v else g.ver k
  split
  ·subst_vars;omega
  ·exact Nat.le_refl _
 row:=fun k _ e=>by
  have e: (if k=id then v else g.ver k)=g.ver k:=e
  show (if k=id then r else g.row k)=g.row k
  split
  ·rename_i hk;rw[if_pos hk]at e;subst hk;omega
  ·rfl
theorem RH.bump{w' :World}(h:RH B H w g ow){id v:Nat}{r: (kt:Ty)->El kt->Value}{o' :ZdX}{J:Nat->Prop}(hK:g.K id)(hv:g.ver id<v)
  (hheap: ∀b,g.I b\/(∃k,k≠id/\H k≠none/\ow k b)->w'.heap[b]? =w.heap[b]?) (hsz:w.heap.size<=w'.heap.size) (hos:w'.os=w.os) (htape:w'.tape=w.tape) (hout:ZoX w' w)
  (hkept: ∀b,b<B.w0.heap.size-> ¬B.own0 b->w'.heap[b]? =w.heap[b]?)
  (hJ: ∀b,J b-> ¬g.I b/\b<w'.heap.size/\(B.own0 b\/B.w0.heap.size<=b)/\ ∀k,k≠id->H k≠none-> ¬ow k b) (ho:Zf5 w' (g.bump id v r) J id o'):RH B (ZbS H id (some o')) w' (g.bump id v r) (Zd5 ow id J) where
 objs:=fun k o hk=>by
  by_cases hki:k=id
  ·subst hki;rw[Za8]at hk;cases hk;rw[ZaS];exact⟨hK,ho⟩
  ·rw[ZaD hki]at hk;rw[ZaY hki];obtain⟨h1,h2⟩:=h.objs k o hk;exact⟨h1,h2.mono (fun b hb=>hheap b (.inl hb)) (Gh.le_bump hv) h1 (if_neg hki) fun b hb=>hheap b (.inr ⟨k,hki,by rw[hk];simp,hb⟩)⟩
 dist:=fun k k' b h1 h2 h3 h4=>by
  by_cases hki:k=id<;>by_cases hki' :k' =id
  ·rw[hki,hki']
  ·subst hki;rw[ZaD hki']at h2;rw[ZaS]at h3;rw[ZaY hki']at h4;exact absurd h4 ((hJ b h3).2.2.2 k' hki' h2)
  ·subst hki';rw[ZaD hki]at h1;rw[ZaS]at h4;rw[ZaY hki]at h3;exact absurd h3 ((hJ b h4).2.2.2 k hki h1)
  ·rw[ZaD hki]at h1;rw[ZaD hki']at h2;rw[ZaY hki]at h3;rw[ZaY hki']at h4;exact h.dist k k' b h1 h2 h3 h4
 sep:=fun k b h1 h2=>by
  by_cases hki:k=id
  ·subst hki;rw[ZaS]at h2;obtain⟨p,q,r,_⟩:=hJ b h2;exact⟨p,q,r⟩
  ·rw[ZaD hki]at h1;rw[ZaY hki]at h2;obtain⟨p,q,r⟩:=h.sep k b h1 h2;exact⟨p,by omega,r⟩
 ilt:=fun b hb=>by have:=h.ilt b hb;omega
 inew:=h.inew
 os:=hos.trans h.os
 tape:=htape.trans h.tape
 output:=hout.trans h.output
 size:=by have:=h.size;omega
 kept:=fun b h1 h2=>(hkept b h1 h2).trans (h.kept b h1 h2)
theorem Znt{I J:Nat->Prop}{t:Ty}{xs:List (El t)}{hd:Value}(h:Zge w I J t xs hd){i:Nat}{x:El t}(hx:xs[i]? =some x):
  ∃b cap cs e css c,hd= .slice (some ⟨b,0,none⟩) xs.length cap/\J b/\w.heap[b]? =some (.cells cs e (0,0))/\xs.length<=cap/\cap*t.size<=cs.size/\
   Fa (Rd w I t) xs css/\css[i]? =some c/\Rd w I t x c/\ ∃r,cs.toList=(css.take i).flatten++c++((css.drop (i+1)).flatten++r)/\(css.take i).flatten.length=i*t.size/\
    ∀c',(css.set i c').flatten++r=(css.take i).flatten++c' ++((css.drop (i+1)).flatten++r):=by
 rcases h with ⟨rfl,_⟩ | ⟨b,cap,cs,e,css,h3,h2,h4,h5,h6,h7,r,hr⟩
 ·simp at hx
 ·obtain⟨c,hc,hxc⟩:=h7.get i x hx;obtain⟨s1,s2,s3⟩:=Zbp hc t.size (Rd.all_length h7);exact⟨b,cap,cs,e,css,c,h3,h2,h4,h5,h6,h7,hc,hxc,r,by rw[<-hr,s1];simp,s2,fun c' =>by rw[s3 c'];simp⟩
theorem ZfQ(hR:RH B H w g ow){id ver:Nat}{kt:Ty}{k:El kt}(_hK:g.K id){r: (t:Ty) ×List (El t)}{l l' :List Nat}(h: (Zc6 id ver kt k).run H l=some (r,l')):
  H id≠none/\g.ty id= .sl r.1/\g.ver id=ver/\Zge w g.I (ow id) r.1 r.2 (g.row id kt k):=by
 simp only[Zc6]at h;rw[Zao]at h;split at h
 ·rename_i t xs u hH;simp only[Zan,Zag,Zac,Zaa,and_false,or_false]at h;obtain⟨hu,i,hi,x,hx,rfl,_⟩:=h;have hu:=Nat.eq_of_beq_eq_true hu;obtain⟨rfl,rfl⟩:=Zaz hi;obtain⟨_,hty,hver,hrf,_⟩:=hR.objs id _ hH;unfold idx at hx;split at hx
  ·rename_i h0;have h1:=hrf.rd i.toNat x hx (by simp);have e1: ((i.toNat:Nat):Int)=i:=Int.toNat_of_nonneg h0;simp only[e1]at h1;rw[hH];exact⟨by simp,hty,hver.trans hu,h1⟩
  ·simp at hx
 ·rename_i kt' t m u hH;simp only[Zan,Zag,Zac,Zaa,and_false,or_false,Bool.and_eq_true]at h;obtain⟨⟨hu,hko⟩,k',hk',rfl,_⟩:=h;have hu:=Nat.eq_of_beq_eq_true hu;obtain⟨rfl,rfl⟩:=Zaz hk';obtain⟨_,hty,hver,hrf,_,habs,_⟩:=hR.objs id _ hH;rw[hH];refine⟨by simp,hty,hver.trans hu, ?_⟩;simp only
  cases hg:ZaL (Zap kt) k' m with
  |none=>exact .inl ⟨rfl,habs k' (Ze0 (ZcU hko) hg)⟩
  |some x=>exact hrf.rd k' x (ZeL (ZcU hko) hg) (by simp)
 ·simp [Zaa]at h
theorem ZdI(hR:RH B H w g ow){id ver:Nat}{kt:Ty}{k:El kt}{v:Value}(hv:VR w g (.nw id ver kt k) v){r: (t:Ty) ×List (El t)}{l l' :List Nat}(h: (Zc6 id ver kt k).run H l=some (r,l')):
  H id≠none/\g.ty id= .sl r.1/\g.ver id=ver/\v=g.row id kt k/\Zge w g.I (ow id) r.1 r.2 v:=by
 obtain⟨hK,_,_,hrow⟩:=hv.nw;obtain⟨h1,h2,h3,h4⟩:=ZfQ hR hK h;have e1:=hrow h3;exact⟨h1,h2,h3,e1,e1▸h4⟩
end
end Tr
