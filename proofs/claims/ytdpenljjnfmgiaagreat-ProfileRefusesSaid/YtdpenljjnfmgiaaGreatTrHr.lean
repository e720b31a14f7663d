/- Keys, and rows of rows: what a view of a row is. Conditions: none. -/
import Derived.Test.YtdpenljjnfmgiaaGreatTrH
open Bool renaming and_eq_true ->Va,not_eq_true' ->Vk,not_eq_true ->Vl
open List renaming getD_eq_getElem?_getD ->Vd,getElem?_append_right ->Ve,map_cons ->Vf,getElem?_append_left ->Vg,mem_cons ->Vj,nodup_cons ->Vm
open Nat renaming eq_of_beq_eq_true ->Vi
open Option renaming bind_eq_some_iff ->Vh
open Prod renaming fst ->Vb
open Prod.mk renaming injEq ->Vc
namespace Tr
open Go
def ZaC(H:AH)(ow:Nat->Nat->Prop)(ids:List Nat)(b:Nat):Prop:= ∃id∈ids,H id≠none/\ow id b
theorem RH.free{B:Zbr}{H:AH}{w w' :World}{g:Gh}{ow:Nat->Nat->Prop}(h:RH B H w g ow){b:Nat}(hb: ∀id,H id≠none-> ¬ow id b)(hI: ¬g.I b)(hB:B.own0 b\/B.w0.heap.size<=b)
  (hheap: ∀k,k≠b->w'.heap[k]? =w.heap[k]?) (hsz:w'.heap.size=w.heap.size) (hos:w'.os=w.os) (htape:w'.tape=w.tape) (hout:Zjn w' w):RH B H w' g ow where
 objs:=fun k o ho=>by obtain⟨h1,h2⟩:=h.objs k o ho;exact⟨h1,h2.mono (fun b' hb' =>by grind) (.refl g) h1 rfl (by grind)⟩
 dist:=h.dist
 sep:=fun k b' h1 h2=>by rw[hsz];exact h.sep k b' h1 h2
 ilt:=fun b' hb' =>by rw[hsz];exact h.ilt b' hb'
 inew:=h.inew
 os:=hos.trans h.os
 tape:=htape.trans h.tape
 output:=hout.trans h.output
 size:=by rw[hsz];exact h.size
 kept:=fun b' h1 h2=>by
  have hne:b' ≠b:=by
   grind
  rw[hheap b' hne];exact h.kept b' h1 h2
theorem Zau: ∀ (l1 l2:ZaY) (H:AH),Zad H (l1++l2)=Zad (Zad H l1) l2
 | [],_,_=>rfl
 |p::l1,l2,H=>Zau l1 l2 (Zbl H p.1 p.2)
theorem RH.drops{B:Zbr}{w:World}{g:Gh}{ow:Nat->Nat->Prop} : ∀ (l:List Nat) {H:AH},RH B H w g ow->RH B (Zad H (l.map fun id=>(id,none))) w g ow
 | [],_,h=>h
 |id::l,H,h=>by simp only[Vf,Zad];exact RH.drops l (h.drop id)
theorem ZcP: ∀ (l:List Nat) (H:AH) (k:Nat),Zad H (l.map fun id=>(id,none)) k=if k∈l then none else H k
 | [],H,k=>by rfl
 |id::l,H,k=>by
  simp only[Vf,Zad];rw[ZcP l];by_cases h1:k∈l
  ·grind
  ·by_cases h2:k=id
   ·subst h2;simp [h1,ZaT]
   ·simp [h1,h2,Zat h2]
theorem Zip{a b:Ty}{x y:El (.prod a b)}{r:Bool}(h:ZbC (.prod a b) x y=some r):
  ∃p q,ZbC a x.1 y.1=some p/\ZbC b x.2 y.2=some q/\r=(p&&q):=by
 cases b with
 |unit=>
  simp only[ZbC]at h
  exact⟨r,true,h,rfl,by simp⟩
 |_=>
  simp only[ZbC,Vh]at h;obtain⟨p,hp,q,hq,hr⟩:=h;exact⟨p,q,hp,hq,by grind⟩
theorem Zij: ∀ (t:Ty) (x y:El t),ZbC t x y=some true->x=y:=by
 intro t
 induction t with
 |int k=>intro x y h;simpa [ZbC] using h
 |bool=>intro x y h;simpa [ZbC] using h
 |str=>intro x y h;simpa [ZbC] using h
 |unit=>simp
 |sl t _=>intro x y h;simp [ZbC]at h
 |ref=>simp
 |prod a b iha ihb=>
  intro x y h;obtain⟨p,q,hp,hq,hr⟩:=Zip h
  grind
 |arr n t ih=>
  intro x y h;simp only[ZbC]at h
  have key: ∀ (l m:List (El t)),ZbC.eqs (ZbC t) l m=some true->l=m:=by
   intro l
   induction l with
   |nil=>intro m h;cases m<;>simp [ZbC.eqs]at h;rfl
   |cons a l ihl=>
    intro m h
    cases m with
    |nil=>simp [ZbC.eqs]at h
    |cons b m=>
     simp only[ZbC.eqs,Vh,Option.some.injEq,Va]at h
     grind
  grind
theorem ZnF: ∀ (t:Ty) (x:El t),t.key=true->ZbC t x x=some true:=by
 intro t
 induction t with
 |int k=>intro x _;simp [ZbC]
 |bool=>intro x _;simp [ZbC]
 |str=>intro x _;simp [ZbC]
 |unit=>intro x _;rfl
 |sl t _=>intro x h;simp [Ty.key]at h
 |ref=>intro x h;simp [Ty.key]at h
 |prod a b iha ihb=>
  intro x h;simp only[Ty.key,Va]at h;have h1:=iha x.1 h.1;have h2:=ihb x.2 h.2
  cases b with
  |unit=>assumption
  |_=>
   show (ZbC a x.1 x.1).bind _=_
   grind
 |arr n t ih=>
  intro x h;simp only[Ty.key]at h;simp only[ZbC]
  have key: ∀l:List (El t),ZbC.eqs (ZbC t) l l=some true:=by
   intro l
   induction l with
   |nil=>rfl
   |cons a l ihl=>simp [ZbC.eqs,ih a h,ihl]
  grind
theorem ZaP{t:Ty}(hk:t.key=true){x y:El t} :Zai t x y=true↔x=y:=by
 constructor
 ·intro h;unfold Zai at h
  cases he:ZbC t x y with
  |none=>grind
  |some r=>
   rw[he]at h;simp only[Option.getD_some]at h;subst h;exact Zij t x y he
 ·rintro rfl;simp [Zai,ZnF t x hk]
theorem Zcs{t:Ty}(h:t.keyOk=true):t.key=true:=by simp only[Ty.keyOk,Va]at h;grind
def ZcB{α β:Type}(eq:α->α->Bool)(k:α):List (α×β)->Option Nat
 | []=>none
 |e::l=>bif eq k e.1 then some 0 else(ZcB eq k l).map (· +1)
theorem Zc2{α β:Type}(eq:α->α->Bool)(k:α): ∀ (l:List (α×β)),Zaw eq k l=(ZcB eq k l).bind fun j=>(l[j]?).map Prod.snd
 | []=>rfl
 |e::l=>by
  simp only[Zaw,ZcB]
  cases eq k e.1 with
  |true=>rfl
  |false=>
   simp only[cond_false,Zc2 eq k l]
   cases ZcB eq k l<;>simp
theorem Zc6{α β:Type}(eq:α->α->Bool)(k:α)(v:β): ∀ (l:List (α×β)),ZaS eq k v l=match ZcB eq k l with|some j=>l.set j (k,v) |none=>l++[(k,v)]
 | []=>rfl
 |e::l=>by
  simp only[ZaS,ZcB]
  cases eq k e.1 with
  |true=>rfl
  |false=>
   simp only[cond_false,Zc6 eq k v l]
   grind
theorem Zcf{α β:Type}(eq:α->α->Bool)(k:α): ∀ (l:List (α×β)) (j:Nat),ZcB eq k l=some j-> ∃e,l[j]? =some e/\eq k e.1=true
 | [],j,h=>by simp [ZcB]at h
 |e::l,j,h=>by
  simp only[ZcB]at h
  cases he:eq k e.1 with
  |true=>grind
  |false=>
   rw[he]at h;simp only[cond_false,Option.map_eq_some_iff]at h;obtain⟨i,h1,rfl⟩:=h;obtain⟨e',h2,h3⟩:=Zcf eq k l i h1
   grind
theorem Zd2{t:Ty}{β:Type}(hk:t.key=true){k:El t} : ∀ {l:List (El t×β)}{x:β},Zaw (Zai t) k l=some x->(k,x)∈l
 | [],_,h=>by simp [Zaw]at h
 |e::l,x,h=>by
  simp only[Zaw]at h
  cases he:Zai t k e.1 with
  |true=>
   rw[he]at h;simp only[cond_true,Option.some.injEq]at h;have:=(ZaP hk).1 he
   grind
  |false=>rw[he]at h;exact List.mem_cons_of_mem _ (Zd2 hk h)
theorem Zd9{t:Ty}{β:Type}(hk:t.key=true){k:El t} : ∀ {l:List (El t×β)},Zaw (Zai t) k l=none->k ∉ l.map Vb
 | [],_=>by simp
 |e::l,h=>by
  simp only[Zaw]at h
  cases he:Zai t k e.1 with
  |true=>grind
  |false=>
   rw[he]at h;simp only[Vf,Vj,not_or];exact⟨fun e1=>by rw[(ZaP hk).2 e1]at he;grind,Zd9 hk h⟩
theorem ZbD{t:Ty}{β:Type}(hk:t.key=true){k:El t}{v:β} : ∀ {l:List (El t×β)},(k∈l.map Vb->(ZaS (Zai t) k v l).map Vb=l.map Vb)/\(k ∉ l.map Vb->ZaS (Zai t) k v l=l++[(k,v)])
 | []=>by simp [ZaS]
 |e::l=>by
  have ih:=ZbD hk (k:=k) (v:=v) (l:=l);simp only[ZaS]
  cases he:Zai t k e.1 with
  |true=>
   have:=(ZaP hk).1 he
   grind
  |false=>
   have hne:k≠e.1:=fun e1=>by rw[(ZaP hk).2 e1]at he;grind
   grind
theorem Zer{t:Ty}{β:Type}(hk:t.key=true){k:El t}{v:β}{l:List (El t×β)}(hn: (l.map Vb).Nodup): ((ZaS (Zai t) k v l).map Vb).Nodup:=by
 by_cases h:k∈l.map Vb
 ·rw[(ZbD hk).1 h];omega
 ·rw[(ZbD hk).2 h,List.map_append,List.nodup_append]
  grind
theorem ZeV{t:Ty}{β:Type}(hk:t.key=true){k k' :El t}{v x:β} : ∀ {l:List (El t×β)},(l.map Vb).Nodup->(k',x)∈ZaS (Zai t) k v l->(k' =k/\x=v)\/(k' ≠k/\(k',x)∈l)
 | [],_,h=>by simp [ZaS]at h;grind
 |e::l,hn,h=>by
  simp only[Vf,Vm]at hn;simp only[ZaS]at h
  cases he:Zai t k e.1 with
  |true=>
   have e1:=(ZaP hk).1 he
   grind
  |false=>
   rw[he]at h;simp only[cond_false,Vj]at h;rcases h with h|h
   ·refine .inr ⟨fun e2=> ?_,by grind⟩;rw[<-h]at he;rw[(ZaP hk).2 e2.symm]at he;grind
   ·exact(ZeV hk hn.2 h).imp (fun h=>h) fun⟨h1,h2⟩=>by grind
theorem Zix{α β:Type}{r:α->β->Prop} : ∀ {l:List α}{m:List β},l.length=m.length->(∀ (n:Nat) a b,l[n]? =some a->m[n]? =some b->r a b)->Fa r l m
 | [],[],_,_=>trivial
 |a::l,b::m,h,hr=>⟨hr 0 a b rfl rfl,Zix (by grind) fun n x y hx hy=>hr (n+1) x y hx hy⟩
theorem ZaQ{n:Nat} : ∀ {l:List Nat},Zdb n l=true↔n∈l
 | []=>by simp [Zdb]
 |k::l=>by simp only[Zdb,Bool.or_eq_true,Nat.beq_eq,Vj,ZaQ]
theorem Zea: ∀ {l:List Nat},Zdc l=true↔l.Nodup
 | []=>by simp [Zdc]
 |n::l=>by simp only[Zdc,Va,Vk,Vm,Zea];rw[<-ZaQ,Vl]
theorem ZbW: ∀ {l m:List Nat},ZcA l m=true↔ ∀n∈l,n ∉ m
 | [],m=>by simp [ZcA]
 |n::l,m=>by simp only[ZcA,Va,Vk,List.forall_mem_cons,ZbW];rw[<-ZaQ,Vl]
theorem ZaK{b:Bool}{u:Unit}(h:Zas b=some u):b=true:=by
 cases b<;>simp [Zas]at h;rfl
theorem Zj6{α β:Type}{r:α->β->Prop} : ∀ {l:List α}{m:List β},Fa r l m-> ∀ {n:Nat}{a:α}{b:β},l[n]? =some a->m[n]? =some b->r a b
 | [],[],_,n,a,b,h,_=>by grind
 |_::_,_::_,⟨p,_⟩,0,a,b,h,h' =>by
  grind
 |_::_,_::_,⟨_,q⟩,n+1,a,b,h,h' =>Zj6 q (by assumption) (by grind)
theorem ZhQ{P:Program}{θ:TypeId->Option Ty}{T:TypeId}{t:Ty}(h:TOk P θ T (.sl t))(w:World): (zeroValue T).run P w= .ok (.slice none 0 0) w:=by
 obtain⟨i,z,h1,_,_,h4,h5,h6⟩:=h.info
 have hc:z.cells.toList=[.slice none 0 0]:=by
  unfold ZdR at h5
  cases hd: (Ty.sl t).data with
  |true=>
   rw[hd]at h5;simp only[cond_true]at h5
   match hz:z.cells.toList,h5 with
   | [.slice none 0 0],_=>rfl
  |false=>
   rw[hd]at h5;simp only[cond_false]at h5
   match hz:z.cells.toList,h5 with
   | [.slice none 0 0],_=>rfl
 have:z= .slice none 0 0:=Zal hc (by assumption);subst this;simp only[zeroValue,typeInfo,Sem.run_bind,run_program,Result.andThen_ok,h1,Sem.run_pure,h4]
section
variable {B:Zbr}{H:AH}{w:World}{g:Gh}{ow:Nat->Nat->Prop}
theorem ZbU{t t' :Ty}{x:List (El t)}{y:El (.sl t')}(h:ZaE (.sl t) (.sl t') x=some y): ∃e:t=t',y=(e▸x:List (El t')):=by
 obtain⟨e,h⟩:=Zan h
 grind
theorem ZdY{t:Ty}{x:AV}{val:Value}{y:List (El t)}{ids l l' :List Nat}(hR:RH B H w g ow)(hx:VR w g x val)(h: (Zbq t x).run H l=some ((y,ids),l')):
  (ids=[]/\y=[]/\val= .slice none 0 0)\/ ∃id,ids=[id]/\H id≠none/\((y=[]/\val= .slice none 0 0)\/ ∃b cap cs e css,ow id b/\val= .slice (some ⟨b,0,none⟩) y.length cap/\w.heap[b]? =some (.cells cs e (0,0))/\
   y.length<=cap/\cap*t.size<=cs.size/\Fa (Rd w g.I t) y css/\css.flatten<+:cs.toList):=by
 unfold Zbq at h;split at h
 ·rename_i id;rw[Zag]at h;split at h
  ·rename_i t' xs hH;simp only[Zac,Zab,Vc]at h;obtain⟨y',hy,⟨rfl,rfl⟩,_⟩:=h;obtain⟨he,rfl⟩:=Zan hy;cases he;obtain⟨_,hv⟩:=hx.vw;obtain⟨_,_,hO⟩:=hR.objs id _ hH
   grind
  ·simp [Zaa]at h
 ·rename_i id n;rw[Zag]at h;split at h
  ·rename_i t' xs hH;simp only[Zac,Zab,Vc]at h;obtain⟨y',hy,⟨rfl,rfl⟩,_⟩:=h;obtain⟨he,rfl⟩:=Zan hy;cases he;obtain⟨_,hv⟩:=hx.vs;obtain⟨_,hty,hO⟩:=hR.objs id _ hH;rw[hty]at hv;refine .inr ⟨id,rfl,by grind, ?_⟩;rcases hv with ⟨hs,_,rfl,hv⟩ | ⟨b,len,cap,m,hs,h1,h2,h3,hv⟩
   ·grind
   ·rcases hO with ⟨_,_,hs'⟩ | ⟨b',cap',cs,e,css,_,ho,hs',hh,h4,h5,hfa,hc⟩
    ·grind
    ·rw[hs]at hs';simp only[Value.slice.injEq,Option.some.injEq,Addr.mk.injEq,and_true]at hs';obtain⟨rfl,rfl,rfl⟩:=hs';have hlen: (xs.take n).length=n:=by grind
     refine .inr ⟨b,m,cs,e,css.take n,ho, ?_,hh, ?_, ?_,hfa.take n, ?_⟩
     ·grind
     ·grind
     ·have:m*t.size<=cap*t.size:=Nat.mul_le_mul_right _ (by omega);omega
     ·refine List.IsPrefix.trans ⟨(css.drop n).flatten, ?_⟩ hc;rw[<-List.flatten_append,List.take_append_drop]
  ·simp [Zaa]at h
 ·simp only[Zab,Vc]at h;obtain⟨⟨rfl,rfl⟩,_⟩:=h;exact .inl ⟨rfl,rfl,hx.nils⟩
 ·simp [Zaa]at h
theorem Zdq{t:Ty}{x:AV}{val:Value}{y:List (El t)}{ids l l' :List Nat}(hR:RH B H w g ow)(hx:VR w g x val)(h: (Zbq t x).run H l=some ((y,ids),l')):Ze8 w g.I (ZaC H ow ids) t y val:=by
 rcases ZdY hR hx h with ⟨_,h1,h2⟩ | ⟨id,rfl,hid,⟨h1,h2⟩ | ⟨b,cap,cs,e,css,ho,h1,h2,h3,h4,h5,h6⟩⟩
 ·exact .inl ⟨h1,h2⟩
 ·exact .inl ⟨h1,h2⟩
 ·exact .inr ⟨b,cap,cs,e,css,h1,⟨id,by simp,hid,ho⟩,h2,h3,h4,h5,h6⟩
theorem Ze8.own{I J:Nat->Prop}{t:Ty}{xs:List (El t)}{hd:Value}(h:Ze8 w I J t xs hd){b:Nat}(hb:ZeN hd=some b):J b:=by
 rcases h with ⟨_,rfl⟩ | ⟨b',_,_,_,_,rfl,h2,_⟩
 ·simp [ZeN]at hb
 ·simp only[ZeN,Option.some.injEq]at hb;grind
theorem Ze8.one{I J:Nat->Prop}{t:Ty}{xs:List (El t)}{hd:Value}(h:Ze8 w I J t xs hd):hd.oneCell' =true/\Zav hd=false:=by
 rcases h with ⟨_,rfl⟩ | ⟨b',_,_,_,_,rfl,h2,_⟩<;>exact⟨rfl,rfl⟩
theorem RF.put{κ:Type}{w' :World}{I J J' :Nat->Prop}{t:Ty}{top:Option Nat}{row row' :κ->Value}{c c' :κ->List (El t)->Prop}{hole:Option κ}(h:RF w I J t top row c hole){k0:κ}{x0:List (El t)}
  (hrow: ∀k,k≠k0->row' k=row k) (hc: ∀k x,c' k x->(k=k0/\x=x0)\/(k≠k0/\c k x)) (hh:hole=none\/hole=some k0) (hx:Ze8 w' I J' t x0 (row' k0))
  (hold: ∀k x,c k x->k≠k0->Ze8 w I J t x (row k)->Ze8 w' I J' t x (row k)) (hds: ∀b,ZeN (row' k0)=some b->(∀k x,c k x->k≠k0->ZeN (row k)≠some b)/\top≠some b):RF w' I J' t top row' c' none:=by
 have hne: ∀k,k≠k0->hole≠some k:=by grind
 refine⟨fun k x hk _=> ?_,fun k k' x x' b hk hk' hkk _ _ hb hb' => ?_,fun k x b hk _ hb=> ?_⟩
 ·rcases hc k x hk with ⟨rfl,rfl⟩ | ⟨h1,h2⟩
  ·omega
  ·rw[hrow k h1];exact hold k x h2 h1 (h.rd k x h2 (hne k h1))
 ·rcases hc k x hk with ⟨rfl,rfl⟩ | ⟨h1,h2⟩
  ·grind
  ·rw[hrow k h1]at hb;rcases hc k' x' hk' with ⟨rfl,rfl⟩ | ⟨h3,h4⟩
   ·grind
   ·rw[hrow k' h3]at hb';exact h.ds k k' x x' b h2 h4 hkk (hne k h1) (hne k' h3) hb hb'
 ·rcases hc k x hk with ⟨rfl,rfl⟩ | ⟨h1,h2⟩
  ·grind
  ·rw[hrow k h1]at hb;exact h.tp k x b h2 (hne k h1) hb
theorem RF.take{κ:Type}{w' :World}{I J J' :Nat->Prop}{t:Ty}{top:Option Nat}{row:κ->Value}{c:κ->List (El t)->Prop}(h:RF w I J t top row c none)(k0:κ)
  (hold: ∀k x,c k x->k≠k0->Ze8 w I J t x (row k)->Ze8 w' I J' t x (row k)):RF w' I J' t top row c (some k0):=by
 have hne: ∀k,some k0≠some k->k≠k0:=by grind
 exact⟨fun k x hk hn=>hold k x hk (hne k hn) (h.rd k x hk (by simp)),fun k k' x x' b hk hk' hkk _ _ hb=>h.ds k k' x x' b hk hk' hkk (by simp) (by simp) hb,fun k x b hk _ hb=>h.tp k x b hk (by simp) hb⟩
def RL(w:World)(I J:Nat->Prop)(t:Ty)(hd:List Value)(xs:List (List (El t))):Prop:=
 hd.length=xs.length/\RF w I J t none (fun i:Nat=>hd.getD i undef) (fun i x=>xs[i]? =some x) none
theorem RL.nil{I J:Nat->Prop}{t:Ty} :RL w I J t [] []:=⟨rfl,⟨by simp,by simp,by simp⟩⟩
theorem RL.row{I J:Nat->Prop}{t:Ty}{hd:List Value}{xs:List (List (El t))}(h:RL w I J t hd xs){i:Nat}{x:List (El t)}(hx:xs[i]? =some x):Ze8 w I J t x (hd.getD i undef):=h.2.rd i x hx (by simp)
theorem RL.mono{w' :World}{I I' J J' :Nat->Prop}{t:Ty}{hd:List Value}{xs:List (List (El t))}(hw:ZaV I w w')(hI: ∀b,I b->I' b)(hJ: ∀b,J b->J' b)(hb: ∀i x b,xs[i]? =some x->ZeN (hd.getD i undef)=some b->w'.heap[b]? =w.heap[b]?)(h:RL w I J t hd xs):RL w' I' J' t hd xs:=
 ⟨h.1,⟨fun k x hk _=>(h.row hk).mono hw hI (by grind) (by grind),h.2.ds,h.2.tp⟩⟩
theorem RL.single{I J:Nat->Prop}{t:Ty}{v:Value}{x:List (El t)}(h:Ze8 w I J t x v):RL w I J t [v] [x]:=by
 refine⟨rfl,⟨by grind,by grind,by simp⟩⟩
 all_goals grind
theorem RL.append{I J1 J2:Nat->Prop}{t:Ty}{h1 h2:List Value}{xs ys:List (List (El t))}(a:RL w I J1 t h1 xs)(b:RL w I J2 t h2 ys)(hd: ∀c,J1 c-> ¬J2 c):RL w I (fun c=>J1 c\/J2 c) t (h1++h2) (xs++ys):=by
 have key: ∀i x,(xs++ys)[i]? =some x->(i<xs.length/\xs[i]? =some x/\(h1++h2).getD i undef=h1.getD i undef)\/(xs.length<=i/\ys[i - xs.length]? =some x/\(h1++h2).getD i undef=h2.getD (i - xs.length) undef):=by
  intro i x hi;rcases Nat.lt_or_ge i xs.length with hl|hl
  ·rw[Vg hl]at hi;exact .inl ⟨hl,hi,by simp only[Vd];rw[Vg (by rw[a.1];omega)]⟩
  ·rw[Ve hl]at hi;exact .inr ⟨hl,hi,by simp only[Vd];rw[Ve (by rw[a.1];omega),a.1]⟩
 refine⟨by simp [a.1,b.1],⟨fun i x hi _=> ?_,fun i j x y c hi hj hne _ _ hc hc' => ?_,by simp⟩⟩
 ·rcases key i x hi with ⟨_,h3,h4⟩ | ⟨_,h3,h4⟩
  ·rw[h4];exact(a.row h3).mono (fun _ _=>rfl) (by simp) (by grind) (by simp)
  ·rw[h4];exact(b.row h3).mono (fun _ _=>rfl) (by simp) (by grind) (by simp)
 ·rcases key i x hi with ⟨h3,h4,h5⟩ | ⟨h3,h4,h5⟩<;>rcases key j y hj with ⟨h6,h7,h8⟩ | ⟨h6,h7,h8⟩
  ·rw[h5]at hc;rw[h8]at hc';exact a.2.ds i j x y c h4 h7 hne (by simp) (by simp) hc hc'
  ·rw[h5]at hc;rw[h8]at hc';exact hd c ((a.row h4).own hc) ((b.row h7).own hc')
  ·rw[h5]at hc;rw[h8]at hc';exact hd c ((a.row h7).own hc') ((b.row h4).own hc)
  ·rw[h5]at hc;rw[h8]at hc';exact b.2.ds _ _ x y c h4 h7 (by omega) (by simp) (by simp) hc hc'
def ZbL(w:World)(I J:Nat->Prop)(t:Ty)(xs:List (List (El t)))(v:Value):Prop:=
 ∃hd,RL w I J t hd xs/\((xs=[]/\v= .slice none 0 0)\/ ∃b cap cs e,J b/\(∀i x,xs[i]? =some x->ZeN (hd.getD i undef)≠some b)/\v= .slice (some ⟨b,0,none⟩) xs.length cap/\w.heap[b]? =some (.cells cs e (0,0))/\
  xs.length<=cap/\cap<=cs.size/\ ∀i,i<xs.length->cs[i]? =some (hd.getD i undef))
def ZbH(w:World)(I J:Nat->Prop)(kt t:Ty)(m:List (El kt×List (El t)))(v:Value):Prop:=
 ∃ (row:El kt->Value) (b:Nat) (es:Array MapEntry) (clock:Nat),v= .map (some b)/\J b/\w.heap[b]? =some (.map es clock)/\RF w I J t (some b) row (fun k x=>(k,x)∈m) none/\(m.map Vb).Nodup/\
  (∀k,k ∉ m.map Vb->row k= .slice none 0 0)/\Fa (fun kv e=>(Rd w I kt kv.1 e.key.cells.toList/\Zav e.key=kt.agg)/\e.val=row kv.1) m es.toList
theorem ZbL.mono{w' :World}{I I' J J' :Nat->Prop}{t:Ty}{xs:List (List (El t))}{v:Value}(hw:ZaV I w w')(hI: ∀b,I b->I' b)(hJ: ∀b,J b->J' b)(hb: ∀b,J b->w'.heap[b]? =w.heap[b]?)(h:ZbL w I J t xs v):ZbL w' I' J' t xs v:=by
 obtain⟨hd,h1,h2⟩:=h;refine⟨hd,h1.mono hw hI hJ fun i x b hx hr=>hb b ((h1.row hx).own hr), ?_⟩
 grind
theorem ZbH.mono{w' :World}{I I' J J' :Nat->Prop}{kt t:Ty}{m:List (El kt×List (El t))}{v:Value}(hw:ZaV I w w')(hI: ∀b,I b->I' b)(hJ: ∀b,J b->J' b)(hb: ∀b,J b->w'.heap[b]? =w.heap[b]?)(h:ZbH w I J kt t m v):ZbH w' I' J' kt t m v:=by obtain⟨row,b,es,clock,h1,h2,h3,h4,h5,h6,h7⟩:=h;exact⟨row,b,es,clock,h1,hJ b h2,by grind,h4.mono hw hI hJ hb,h5,h6,h7.mono fun kv e hx=>⟨⟨Rd.mono hw hI kt _ _ hx.1.1,hx.1.2⟩,hx.2⟩⟩
theorem ZbL.of_obj{J:Nat->Prop}{id u:Nat}{t:Ty}{xs:List (List (El t))}(h:ZeB w g J id (.rows t xs u none)):ZbL w g.I J t xs (g.slv id):=by
 obtain⟨_,_,hrf,hO⟩:=h;have hd: ∀i x,xs[i]? =some x->((List.range xs.length).map fun i:Nat=>g.row id (.int .i64) (i:Int)).getD i undef=g.row id (.int .i64) (i:Int):=by grind
 refine⟨(List.range xs.length).map fun i:Nat=>g.row id (.int .i64) (i:Int),⟨by simp,⟨fun i x hx _=> ?_,fun i j x y b hx hy hne _ _ hb=> ?_,by simp⟩⟩, ?_⟩
 ·rw[hd i x hx];exact hrf.rd i x hx (by simp)
 ·rw[hd i x hx]at hb;rw[hd j y hy];exact hrf.ds i j x y b hx hy hne (by simp) (by simp) hb
 ·rcases hO with ⟨h1,_,h2⟩ | ⟨b,cap,cs,e,hb,h3,h4,h5,h6,h7,h8⟩
  ·grind
  ·refine .inr ⟨b,cap,cs,e,h3,fun i x hx=> ?_,h4,h5,h6,h7,fun i hi=> ?_⟩
   ·rw[hd i x hx];intro hr;exact hrf.tp i x b hx (by simp) hr hb
   grind
theorem ZbH.of_obj{J:Nat->Prop}{id u:Nat}{kt t:Ty}{m:List (El kt×List (El t))}(h:ZeB w g J id (.mrows kt t m u none)): ∃b,g.blk id=some b/\ZbH w g.I J kt t m (.map (some b)):=by
 obtain⟨_,_,hrf,hnd,habs,b,es,clock,hb,h1,h2,h3⟩:=h;refine⟨b,hb,g.row id kt,b,es,clock,rfl,h1,h2, ?_,hnd,habs,h3.mono fun kv e hx=>⟨⟨by simpa only[CV] using hx.1.1,by simpa [AV.isAgg] using hx.1.2⟩,hx.2⟩⟩
 grind
def Zin(hd:List Value): (kt:Ty)->El kt->Value:=fun kt k=>if h:kt= .int .i64 then hd.getD ((h▸k:El (.int .i64)):Int).toNat undef else .slice none 0 0
theorem Zdi(hd:List Value)(i:Nat):Zin hd (.int .i64) (i:Int)=hd.getD i undef:=by rfl
def Zqc{kt:Ty}(row:El kt->Value): (kt' :Ty)->El kt' ->Value:=fun kt' k=>if h:kt' =kt then row (h▸k) else .slice none 0 0
theorem ZnO{kt:Ty}(row:El kt->Value)(k:El kt):Zqc row kt k=row k:=by simp [Zqc]
theorem ZbL.obj{J:Nat->Prop}{t:Ty}{xs:List (List (El t))}{v:Value}(h:ZbL w g.I J t xs v)(id:Nat): ∃b r,ZeB w (g.add id (.sl t) b v r) J id (.rows t xs 0 none):=by
 obtain⟨hd,⟨hl,hrf⟩,h2⟩:=h;have hrow: ∀b,(g.add id (.sl t) b v (Zin hd)).row id=Zin hd:=fun b=>by simp [Gh.add]
 rcases h2 with ⟨rfl,rfl⟩ | ⟨b,cap,cs,e,h3,h4,h5,h6,h7,h8,h9⟩
 ·refine⟨none,Zin hd,by simp [Gh.add],by simp [Gh.add], ?_, .inl ⟨rfl,by simp [Gh.add],by simp [Gh.add]⟩⟩;exact⟨by simp,by simp,by simp⟩
 ·refine⟨some b,Zin hd,by simp [Gh.add],by simp [Gh.add], ?_, .inr ⟨b,cap,cs,e,by simp [Gh.add],h3,by simp [Gh.add,h5],h6,h7,h8,fun i hi=> ?_⟩⟩
  ·rw[hrow];refine⟨fun i x hx hn=> ?_,fun i j x y c hx hy hne h10 h11 hc=> ?_,fun i x c hx _ hc=> ?_⟩
   ·rw[Zdi];exact hrf.rd i x hx hn
   ·rw[Zdi]at hc ⊢;exact hrf.ds i j x y c hx hy hne h10 h11 hc
   ·rw[Zdi]at hc;simp only[Gh.add,if_true]
    grind
  ·rw[hrow,Zdi];grind
theorem ZbH.obj{J:Nat->Prop}{kt t:Ty}{m:List (El kt×List (El t))}{b:Nat}(h:ZbH w g.I J kt t m (.map (some b)))(id:Nat): ∃r,ZeB w (g.add id (.sl t) (some b) undef r) J id (.mrows kt t m 0 none):=by
 obtain⟨row,b',es,clock,h1,h2,h3,h4,h5,h6,h7⟩:=h;cases h1;have hrow: (g.add id (.sl t) (some b) undef (Zqc row)).row id kt=row:=by funext k;simp [Gh.add,ZnO]
 refine⟨Zqc row,by simp [Gh.add],by simp [Gh.add], ?_,h5, ?_,b,es,clock,by simp [Gh.add],h2,h3, ?_⟩
 ·rw[hrow];simpa [Gh.add] using h4
 ·grind
 ·rw[hrow];exact h7.mono fun kv e hx=>⟨⟨by simp only[CV];exact hx.1.1, .inr (by simpa [AV.isAgg] using hx.1.2)⟩,hx.2⟩
theorem Ze9{t:Ty}{x:AV}{val:Value}{y:List (List (El t))}{ids l l' :List Nat}(hR:RH B H w g ow)(hx:VR w g x val)(h: (Zck t x).run H l=some ((y,ids),l')):ZbL w g.I (ZaC H ow ids) t y val/\(ids=[]\/ ∃id,ids=[id]/\H id≠none):=by
 unfold Zck at h;split at h
 ·rename_i id;rw[Zag]at h;split at h
  ·rename_i t' xs u hH;simp only[Zac,Zab,Vc]at h;obtain⟨y',hy,⟨rfl,rfl⟩,_⟩:=h;obtain⟨he,rfl⟩:=Zan hy;cases he;obtain⟨_,hv⟩:=hx.vw;rw[hv];exact⟨(ZbL.of_obj (hR.objs id _ hH).2).mono (fun _ _=>rfl) (by simp) (fun b hb=>⟨id,by simp,by grind,hb⟩) (by simp),by grind⟩
  ·simp [Zaa]at h
 ·simp only[Zab,Vc]at h;obtain⟨⟨rfl,rfl⟩,_⟩:=h;exact⟨⟨[],RL.nil, .inl ⟨rfl,hx.nils⟩⟩, .inl rfl⟩
 ·simp [Zaa]at h
def Gh.bump(g:Gh)(id v:Nat)(r: (kt:Ty)->El kt->Value):Gh:=
 {g with ver:=fun k=>if k=id then v else g.ver k,row:=fun k=>if k=id then r else g.row k}
theorem Gh.le_bump{g:Gh}{id v:Nat}{r: (kt:Ty)->El kt->Value}(h:g.ver id<v):g.Le (g.bump id v r) where
 I:=fun _ h=>h
 K:=fun _ h=>h
 ty:=fun _ _=>rfl
 blk:=fun _ _=>rfl
 slv:=fun _ _=>rfl
 ver:=fun k _=>by
  show g.ver k<=if k=id then v else g.ver k
  grind
 row:=fun k _ e=>by
  have e: (if k=id then v else g.ver k)=g.ver k:=e
  show (if k=id then r else g.row k)=g.row k
  grind
theorem RH.bump{w' :World}(h:RH B H w g ow){id v:Nat}{r: (kt:Ty)->El kt->Value}{o' :Zc0}{J:Nat->Prop}(hK:g.K id)(hv:g.ver id<v)
  (hheap: ∀b,g.I b\/(∃k,k≠id/\H k≠none/\ow k b)->w'.heap[b]? =w.heap[b]?) (hsz:w.heap.size<=w'.heap.size) (hos:w'.os=w.os) (htape:w'.tape=w.tape) (hout:Zjn w' w)
  (hkept: ∀b,b<B.w0.heap.size-> ¬B.own0 b->w'.heap[b]? =w.heap[b]?)
  (hJ: ∀b,J b-> ¬g.I b/\b<w'.heap.size/\(B.own0 b\/B.w0.heap.size<=b)/\ ∀k,k≠id->H k≠none-> ¬ow k b) (ho:ZeB w' (g.bump id v r) J id o'):RH B (Zbl H id (some o')) w' (g.bump id v r) (Zc4 ow id J) where
 objs:=fun k o hk=>by
  by_cases hki:k=id
  ·subst hki;rw[ZaT]at hk;cases hk;rw[ZaD];exact⟨hK,ho⟩
  ·rw[Zat hki]at hk;rw[ZaI hki];obtain⟨h1,h2⟩:=h.objs k o hk;exact⟨h1,h2.mono (fun b hb=>by grind) (Gh.le_bump hv) h1 (if_neg hki) (by grind)⟩
 dist:=fun k k' b h1 h2 h3 h4=>by
  by_cases hki:k=id<;>by_cases hki' :k' =id
  ·omega
  ·subst hki;rw[Zat hki']at h2;rw[ZaD]at h3;rw[ZaI hki']at h4
   grind
  ·subst hki';rw[Zat hki]at h1;rw[ZaD]at h4;rw[ZaI hki]at h3
   grind
  ·rw[Zat hki]at h1;rw[Zat hki']at h2;rw[ZaI hki]at h3;rw[ZaI hki']at h4;exact h.dist k k' b h1 h2 h3 h4
 sep:=fun k b h1 h2=>by
  by_cases hki:k=id
  ·subst hki;rw[ZaD]at h2;obtain⟨p,q,r,_⟩:=hJ b h2;exact⟨p,q,r⟩
  ·rw[Zat hki]at h1;rw[ZaI hki]at h2;obtain⟨p,q,r⟩:=h.sep k b h1 h2;exact⟨p,by omega,r⟩
 ilt:=fun b hb=>by have:=h.ilt b hb;omega
 inew:=h.inew
 os:=hos.trans h.os
 tape:=htape.trans h.tape
 output:=hout.trans h.output
 size:=by have:=h.size;omega
 kept:=fun b h1 h2=>(hkept b h1 h2).trans (h.kept b h1 h2)
theorem ZkK{I J:Nat->Prop}{t:Ty}{xs:List (El t)}{hd:Value}(h:Ze8 w I J t xs hd){i:Nat}{x:El t}(hx:xs[i]? =some x):
  ∃b cap cs e css c,hd= .slice (some ⟨b,0,none⟩) xs.length cap/\J b/\w.heap[b]? =some (.cells cs e (0,0))/\xs.length<=cap/\cap*t.size<=cs.size/\
   Fa (Rd w I t) xs css/\css[i]? =some c/\Rd w I t x c/\ ∃r,cs.toList=(css.take i).flatten++c++((css.drop (i+1)).flatten++r)/\(css.take i).flatten.length=i*t.size/\
    ∀c',(css.set i c').flatten++r=(css.take i).flatten++c' ++((css.drop (i+1)).flatten++r):=by
 rcases h with ⟨rfl,_⟩ | ⟨b,cap,cs,e,css,h3,h2,h4,h5,h6,h7,r,hr⟩
 ·grind
 ·obtain⟨c,hc,hxc⟩:=h7.get i x hx;obtain⟨s1,s2,s3⟩:=Za7 hc t.size (Rd.all_length h7);exact⟨b,cap,cs,e,css,c,h3,h2,h4,h5,h6,h7,hc,hxc,r,by grind,s2,by grind⟩
theorem ZeR(hR:RH B H w g ow){id ver:Nat}{kt:Ty}{k:El kt}(_hK:g.K id){r: (t:Ty) ×List (El t)}{l l' :List Nat}(h: (Zcr id ver kt k).run H l=some (r,l')):
  H id≠none/\g.ty id= .sl r.1/\g.ver id=ver/\Ze8 w g.I (ow id) r.1 r.2 (g.row id kt k):=by
 simp only[Zcr]at h;rw[Zag]at h;split at h
 ·rename_i t xs u hH;simp only[Zae,Zac,Zab,Zaa,and_false,or_false]at h;obtain⟨hu,i,hi,x,hx,rfl,_⟩:=h;have hu:=Vi hu;obtain⟨rfl,rfl⟩:=Zan hi;obtain⟨_,hty,hver,hrf,_⟩:=hR.objs id _ hH;unfold idx at hx;split at hx
  ·rename_i h0;have h1:=hrf.rd i.toNat x hx (by simp)
   grind
  grind
 ·rename_i kt' t m u hH;simp only[Zae,Zac,Zab,Zaa,and_false,or_false,Va]at h;obtain⟨⟨hu,hko⟩,k',hk',rfl,_⟩:=h;have hu:=Vi hu;obtain⟨rfl,rfl⟩:=Zan hk';obtain⟨_,hty,hver,hrf,_,habs,_⟩:=hR.objs id _ hH;rw[hH];refine⟨by simp,hty,hver.trans hu, ?_⟩;simp only
  cases hg:Zaw (Zai kt) k' m with
  |none=>exact .inl ⟨rfl,habs k' (Zd9 (Zcs hko) hg)⟩
  |some x=>exact hrf.rd k' x (Zd2 (Zcs hko) hg) (by simp)
 ·simp [Zaa]at h
theorem Zdf(hR:RH B H w g ow){id ver:Nat}{kt:Ty}{k:El kt}{v:Value}(hv:VR w g (.nw id ver kt k) v){r: (t:Ty) ×List (El t)}{l l' :List Nat}(h: (Zcr id ver kt k).run H l=some (r,l')):
  H id≠none/\g.ty id= .sl r.1/\g.ver id=ver/\v=g.row id kt k/\Ze8 w g.I (ow id) r.1 r.2 v:=by
 obtain⟨hK,_,_,hrow⟩:=hv.nw;obtain⟨h1,h2,h3,h4⟩:=ZeR hR hK h
 grind
end
end Tr
