/- States of the abstract machine at regions, loops and joins. Conditions: the table of types is the program's, the specs are true. -/
import Derived.Test.YtibiblkamaajeaaGreatTsA
open Bool renaming and_eq_true ->Vi
open List renaming all_eq_true ->Va,mem_map ->Vb,nodup_append ->Vc,mem_zipIdx_iff_getElem? ->Vf,mem_range ->Vg,mem_cons_of_mem ->Vj,map_cons ->Vl,mem_filterMap ->Vn,nodup_range ->Vo,mem_append ->Vp,nodup_cons ->Vq,map_append ->Vr,mem_cons ->Vs
open Nat renaming eq_of_beq_eq_true ->Ve,beq ->Vk
open Option renaming bind_some ->Vh
open Prod renaming fst ->Vm
open Prod.mk renaming injEq ->Vd
namespace Tr
open Go
structure SR (E:Env) (B:Zcq) (s:AS) (w:World) (g:Gh) (ow:Nat->Nat->Prop) (a:Act):Prop where
 rh:RH B s.H w g ow
 fr:Fr w g s.F a.tmps
 nt:a.tmps.size=E.nt
 df:a.defers=[]
 ids: ∀id,g.K id->id<s.nx
 fz: ∀id∈s.fz,ZlR s.H id=true
structure Ln (E:Env) (s:AS) (w:World) (g:Gh) (a:Act) (s' :AS) (w' :World) (g' :Gh) (a' :Act):Prop where
 lk:Lk E w g a w' g' a'
 fz:s'.fz=s.fz
 hz: ∀id∈s.fz,s'.H id=s.H id
section
variable {P:Program}{E:Env}{B:Zcq}{ops:Array Oper}{base:Nat}{fz:List Nat}
theorem Ln.refl(s:AS)(w:World)(g:Gh)(a:Act):Ln E s w g a s w g a:=⟨.refl w g a,rfl,fun _ _=>rfl⟩
theorem Ln.trans{s s1 s2:AS}{w w1 w2:World}{g g1 g2:Gh}{a a1 a2:Act}(h:Ln E s w g a s1 w1 g1 a1)(k:Ln E s1 w1 g1 a1 s2 w2 g2 a2):Ln E s w g a s2 w2 g2 a2:=
 ⟨h.lk.trans k.lk,k.fz.trans h.fz,fun id hid=>(k.hz id (h.fz▸hid)).trans (h.hz id hid)⟩
theorem ZfK{H H' :AH}{id:Nat}(h:H' id=H id):ZlR H' id=ZlR H id:=by unfold ZlR;rw[h]
theorem ZvV{i:Nat}{o:Oper}{F F1:Nat->AV}{H H1:AH}{t:Option Trc}(h:Ze6 E ops base fz i o F H=some (F1,H1,t)): ∀id∈fz,H1 id=H id:=by
 unfold Ze6 at h;split at h
 ·simp at h
 ·split at h
  ·simp only[Option.some.injEq,Vd]at h;obtain⟨_,rfl,_⟩:=h;exact fun _ _=>rfl
  ·simp at h
 ·split at h
  ·cases hr: (aop E (base+i*ZaI) o.op o.type (aev F)).run H [] with
   |none=>rw[hr]at h;simp at h
   |some y=>
    rw[hr]at h;simp only[Vh]at h;split at h
    ·rename_i hj;simp only[Option.some.injEq,Vd]at h;obtain⟨_,rfl,_⟩:=h;intro id hid;refine Zft fun p hp e=> ?_;exact ZcX.1 hj p.1 (Vb.2 ⟨p,hp,rfl⟩) (e▸hid)
    ·simp at h
  ·simp at h
theorem AE.keptH{l:List (Oper×Nat)}{F F' :Nat->AV}{H H' :AH}{tr tr' :List Trc}(h:AE E ops base fz l F H tr F' H' tr'): ∀id∈fz,H' id=H id:=by
 induction h with
 |nil=>exact fun _ _=>rfl
 |cons h h' ih=>exact fun id hid=>(ih id hid).trans (ZvV h id hid)
theorem AE.slots{l:List (Oper×Nat)}{F F' :Nat->AV}{H H' :AH}{tr tr' :List Trc}(h:AE E ops base fz l F H tr F' H' tr'): ∀k,(∀p∈l,p.1.dst≠some k)->F' k=F k:=by
 induction h with
 |nil=>exact fun _ _=>rfl
 |cons h h' ih=>
  intro k hk;obtain⟨v,pa,s,_⟩:=Zg9 h;rw[ih k fun p hp=>hk p (by simp [hp]),s.F,ZeP fun e he hke=>hk _ (List.mem_cons_self ..) (by rw[he,hke])]
theorem AE.traces{l:List (Oper×Nat)}{F F' :Nat->AV}{H H' :AH}{tr tr' :List Trc}(h:AE E ops base fz l F H tr F' H' tr'): ∀u∈tr,u∈tr' :=by
 induction h with
 |nil=>exact fun _ h=>h
 |cons h h' ih=>exact fun u hu=>ih u (by simp [hu])
theorem AE.still{l:List (Oper×Nat)}{F F' :Nat->AV}{H H' :AH}{tr tr' :List Trc}(h:AE E ops base fz l F H tr F' H' tr'): (∀u∈tr',u.wr=[])->H' =H:=by
 induction h with
 |nil=>exact fun _=>rfl
 | @cons o i rest F H tr F1 H1 t F' H' tr' h h' ih=>
  intro hu;obtain⟨v,pa,s,_⟩:=Zg9 h
  have:pa=[]:=by
   cases pa with
   |nil=>rfl
   |cons p pa=>
    obtain⟨u,hu',hw⟩:=s.wr p (by simp);have:=hu u (h'.traces u (by simp [hu']));rw[this]at hw;simp at hw
  rw[ih hu,s.H,this];rfl
theorem Znz:ops.toList.zipIdx.map Prod.snd=List.range ops.size:=by
 refine List.ext_getElem? fun i=> ?_;simp only[List.getElem?_map,List.getElem?_zipIdx];by_cases h:i<ops.size
 ·simp [h]
 ·simp [h]
theorem Zkl(hm:P.follows .mixedOrders=true)(hT:ZaB P E)(hS:ZcE P E B){s:AS}{w:World}{g:Gh}{ow:Nat->Nat->Prop}{a:Act}(hs:SR E B s w g ow a){id:Nat}{draw:Bool}{F' :Nat->AV}{H' :AH}{tr' :List Trc}
  (h:AE E ops s.nx s.fz ops.toList.zipIdx s.F s.H [] F' H' tr') (hd: (!draw||ZkI ops tr')=true) {Q:Exit->Act->World->Prop}
  (hQ: ∀a' w' g' ow',RI E B s.nx F' H' w' a' g' ow' (fun j=>j<ops.size)->Lk E w g a w' g' a' ->Q .normal a' w'): (Code.region id ops draw).wp P Q a w:=by
 have hex:=h.ex (by rw[Znz];exact Vo) (fun p hp=>by rw[Vf]at hp;simpa using hp) (fun _ _=>rfl);rw[Znz]at hex
 cases draw with
 |false=>
  refine wp_region (Zlw hT hS hex Vo (L:=fun _=>False) (fun _ _ h=>h) ⟨hs.rh,hs.fr,hs.nt,hs.df,fun id hid=> .inl (hs.ids id hid)⟩ fun a' w' g' ow' hI hl=>hQ a' w' g' ow' ⟨hI.rh,hI.fr,hI.nt,hI.df,fun id hid=> ?_⟩ hl)
  exact(hI.ids id hid).imp (fun h=>h) fun⟨j,h1,h2⟩=>⟨j,Vg.1 (h1.resolve_right fun h=>h),h2⟩
 |true=>
  simp only[Bool.not_true,Bool.false_or,ZkI,Vi,Bool.or_eq_true]at hd;obtain⟨⟨hed,hso⟩,htr⟩:=hd
  have hw:Zbh w {w with drawn:=w.drawn+1} :=⟨rfl,rfl,rfl,⟨rfl,by first|exact Nat.le_succ _|exact Nat.le_refl _⟩⟩
  have hun: ∀i j,i<j->j<ops.size->((Region.before ops).getD j 0).testBit i=false->(i,j)∈Zua ops:=by intro i j hij hj hb;simp only[Zua,List.mem_flatMap,Vg,Vn];refine⟨j,hj,i,hij, ?_⟩;rw[hb];simp
  refine wp_region_any hm (Zux hT hS hed (T:=fun i=>Ze5 i tr') (fun i j hij hj hb=> ?_) ops.size hex (by simp) (List.pairwise_lt_range) (by simp) (fun i hi=> ?_) (fun i hi=>Vg.1 hi) (fun i o ho hl=> ?_) (L:=fun _=>False) (fun _ _ h=>h)
   ⟨hs.rh.same hw,hs.fr.mono (hw.agree _) (.refl g),hs.nt,hs.df,fun id hid=> .inl (hs.ids id hid)⟩ fun a' w' g' ow' hI hl=>hQ a' w' g' ow' ⟨hI.rh,hI.fr,hI.nt,hI.df,fun id hid=> ?_⟩ ⟨hl.le,hl.ag,hl.ks⟩)
  ·intro oa ob hoa hob;have hmem:=hun i j hij hj hb;refine⟨?_,fun u v hu hv=> ?_⟩
   ·have:=Va.1 hso (i,j) hmem;simpa only[hoa,hob] using this
   ·rcases htr with htr|htr
    ·have hu1:u.wr=[]:=by
      have hmu:u∈tr' :=by
       clear hmem hun hex h htr hv hso hed
       induction tr' with
       |nil=>simp [Ze5]at hu
       |cons t l ih=>
        simp only[Ze5]at hu
        cases hb' :Vk t.i i with
        |true=>rw[hb']at hu;simp only[cond_true,Option.some.injEq]at hu;simp [hu]
        |false=>rw[hb']at hu;simp only[cond_false]at hu;exact Vj _ (ih hu)
      simpa using Va.1 htr u hmu
     have hv1:v.wr=[]:=by
      have hmv:v∈tr' :=by
       clear hmem hun hex h htr hu hso hed
       induction tr' with
       |nil=>simp [Ze5]at hv
       |cons t l ih=>
        simp only[Ze5]at hv
        cases hb' :Vk t.i j with
        |true=>rw[hb']at hv;simp only[cond_true,Option.some.injEq]at hv;simp [hv]
        |false=>rw[hb']at hv;simp only[cond_false]at hv;exact Vj _ (ih hv)
      simpa using Va.1 htr v hmv
     rw[hu1,hv1];exact⟨rfl,rfl,rfl⟩
    ·have:=Va.1 htr (i,j) hmem;simp only[ZoR]at this;rw[show Ze5 i tr' =some u from hu,show Ze5 j tr' =some v from hv]at this;simp only[Vi]at this;exact⟨this.1.1,this.1.2,this.2⟩
  ·simp [hi]
  ·exfalso;have:i<ops.size:=(Array.getElem?_eq_some_iff.1 ho).1;simp [this]at hl
  ·exact(hI.ids id hid).imp (fun h=>h) fun⟨j,h1,h2⟩=>⟨j,Vg.1 (h1.resolve_right fun h=>h),h2⟩
theorem Zst{w:World}{g:Gh}{t t' :Ty}{y:El t'}{x:El t}{v:Value}(h:ZaV t' t y=some x)(hv:VR w g (.d t' y) v):VR w g (.d t x) v:=by obtain⟨rfl,rfl⟩:=ZaA h;exact hv
theorem Fr.upd{w:World}{g:Gh}{F:Nat->AV}{tmps:Array Value}{n:Nat}{v:AV}(h:Fr w g F tmps)(hv:VR w g v (tmps.getD n undef)):Fr w g (ZlS F n v) tmps:=by
 intro t;unfold ZlS
 cases hb:Vk t n with
 |true=>have:=Ve hb;subst this;exact hv
 |false=>exact h t
theorem Zu8{w:World}{g:Gh}{F:Nat->AV}{tmps:Array Value}(hF:Fr w g F tmps): ∀ (l:List (Nat×Ty)) (x:ElT l) (F0:Nat->AV),ZwC F l=some x->Fr w g F0 tmps->Fr w g (inT F0 l x) tmps
 | [],_,F0,_,h0=>h0
 | [(n,t)],x,F0,h,h0=>by
  simp only[ZwC]at h;have hv:=hF n;split at h
  ·rename_i t' y hy;rw[hy]at hv;simp only[inT];exact h0.upd (Zst h hv)
  ·simp at h
 | (n,t)::p::l,x,F0,h,h0=>by
  simp only[ZwC]at h;have hv:=hF n;split at h
  ·rename_i t' y hy;rw[hy]at hv
   cases hc:ZaV t' t y with
   |none=>rw[hc]at h;simp at h
   |some z=>
    rw[hc]at h;simp only[Vh]at h
    cases hr:ZwC F (p::l) with
    |none=>rw[hr]at h;simp at h
    |some u=>
     rw[hr]at h;simp only[Vh,Option.some.injEq]at h;subst h;simp only[inT];exact Zu8 hF (p::l) u _ hr (h0.upd (Zst hc hv))
  ·simp at h
theorem ZqB(hm:P.follows .mixedOrders=true)(hT:ZaB P E)(hS:ZcE P E B){s:AS}{w:World}{g:Gh}{ow:Nat->Nat->Prop}{a:Act}(hs:SR E B s w g ow a){id:Nat}{draw:Bool}{outs:Option (List (Nat×Ty))}{ρ:Type}{k:AS->Option ρ}{r:ρ}
  (h:ZoF E ops draw outs ρ s k=some r): (Code.region id ops draw).wp P (fun e a' w' => ∃s' g' ow',e= .normal/\SR E B s' w' g' ow' a' /\Ln E s w g a s' w' g' a' /\k s' =some r) a w:=by
 have hnx: ∀ (g' :Gh) (id:Nat),(id<s.nx\/ ∃j,j<ops.size/\s.nx+j*ZaI<=id/\id<s.nx+j*ZaI+ZaI)->id<s.nx+ops.size*ZaI:=by
  intro g' id h;rcases h with h| ⟨j,h1,h2,h3⟩
  ·omega
  ·unfold ZaI at*;omega
 unfold ZoF at h
 cases outs with
 |none=>
  simp only at h;obtain⟨F',H',tr',hae,hk⟩:=Zgc h
  cases hd: (!draw||ZkI ops tr') with
  |false=>rw[hd]at hk;simp at hk
  |true=>
   rw[hd]at hk;simp only[cond_true]at hk;refine Zkl hm hT hS hs hae hd fun a' w' g' ow' hI hl=>⟨⟨F',H',s.nx+ops.size*ZaI,s.fz⟩,g',ow',rfl,⟨hI.rh,hI.fr,hI.nt,hI.df,fun id hid=>hnx g' id (hI.ids id hid),fun id hid=> ?_⟩,⟨hl,rfl,fun id hid=>hae.keptH id hid⟩,hk⟩
   exact(ZfK (hae.keptH id hid)).trans (hs.fz id hid)
 |some l=>
  simp only at h;rw[Option.bind_eq_some_iff]at h;obtain⟨x,hx,hk⟩:=h;obtain⟨F',H',tr',hae,hx⟩:=Zgc hx
  cases hd: ((!draw||ZkI ops tr') &&tr'.all (fun t=>t.wr.isEmpty)) with
  |false=>rw[hd]at hx;simp at hx
  |true=>
   rw[hd]at hx;simp only[cond_true]at hx;simp only[Vi]at hd;have hst:H' =s.H:=hae.still fun u hu=>by simpa using Va.1 hd.2 u hu
   subst hst;refine Zkl hm hT hS hs hae hd.1 fun a' w' g' ow' hI hl=>⟨⟨inT (ZwB (ZpL ops.toList) s.F) l x,s.H,s.nx+ops.size*ZaI,s.fz⟩,g',ow',rfl,⟨hI.rh, ?_,hI.nt,hI.df,fun id hid=>hnx g' id (hI.ids id hid),hs.fz⟩,⟨hl,rfl,fun _ _=>rfl⟩,hk⟩;refine Zu8 hI.fr l x _ hx fun t=> ?_;unfold ZwB
   cases hb:ZeL t (ZpL ops.toList) with
   |true=>exact ZgS
   |false=>
    simp only[cond_false]
    have:F' t=s.F t:=hae.slots t fun p hp hpt=>by
     have:t∈ZpL ops.toList:=by rw[Vf]at hp;exact Vn.2 ⟨p.1,List.mem_of_getElem? hp,hpt⟩
     rw[Za8.2 this]at hb;simp at hb
    rw[<-this];exact hI.fr t
def PRs(w:World)(I:Nat->Prop)(tmps:Array Value): (l:List (Nat×Pat))->ElR l->List Nat->Prop
 | [],_,js=>js=[]
 | [(n,p)],x,js=>PV w I p x js (tmps.getD n undef)
 | (n,p)::q::l,x,js=> ∃j1 j2,js=j1++j2/\PV w I p x.1 j1 (tmps.getD n undef)/\PRs w I tmps (q::l) x.2 j2
theorem Zs6{H:AH}{w:World}{g:Gh}{ow:Nat->Nat->Prop}{I:Nat->Prop}(hR:RH B H w g ow)(hI: ∀b,g.I b->I b){p:Pat}{v:AV}{val:Value}{x:ElP p}{ids:Ids}{l l' :List Nat}(h: (ext p v).run H l=some ((x,ids),l'))(hv:VR w g v val)
  (hO: ∀b,ZaW H ow ids.br b->I b) (hn:ids.tk.Nodup): ∃js,PV w I p x js val/\js.Nodup/\ ∀b∈js,ZaW H ow ids.tk b:=by
 by_cases hp:p= .any
 ·subst hp;simp only[ext,Zab,Vd]at h;obtain⟨⟨_,rfl⟩,_⟩:=h;exact⟨[],⟨rfl, .inl rfl⟩, .nil,by simp⟩
 ·obtain⟨hj,ha⟩:=Ztx h hp
  have hnt: ∀m,v≠ .tup m:=by
   rintro m rfl
   cases p with
   |any=>exact hp rfl
   |pd t=>cases t<;>simp [ext,Za0,Zav,Zaa]at h
   |own t k=>simp [ext,ZbU,Zav,Zaa]at h
   |var t p=>simp [ext,Zaa]at h
   |ro t=>simp [ext,Zaa]at h
   |map k t=>simp [ext,Zaa]at h
   |rows t k=>simp [ext,Zdx,Zav,Zaa]at h
   |mrows k t=>simp [ext,Zaa]at h
   |it k t=>simp [ext,Zaa]at h
   |bld T e k=>simp [ext,Zaa]at h
   |agg l=>simp [ext,Zaa]at h
   |fn f l=>simp [ext,Zaa]at h
   |nilr=>simp [ext,Zaa]at h
   |nils=>simp [ext,Zaa]at h
  have h1:=hv.to1 hnt;obtain⟨js,h2,h3,h4⟩:=ZfC hR hI p v val.cells.toList x ids l l' h h1.1 hO hn;exact⟨js,⟨h2, .inr (by rw[<-ha];exact h1.2.resolve_left hj)⟩,h3,h4⟩
theorem Zrk{H:AH}{w:World}{g:Gh}{ow:Nat->Nat->Prop}{I:Nat->Prop}{F:Nat->AV}{tmps:Array Value}(hR:RH B H w g ow)(hI: ∀b,g.I b->I b)(hF:Fr w g F tmps): ∀ (l:List (Nat×Pat)) (x:ElR l) (ids:Ids) (k k' :List Nat),
  (Zv6 F l).run H k=some ((x,ids),k')->(∀b,ZaW H ow ids.br b->I b)->ids.tk.Nodup-> ∃js,PRs w I tmps l x js/\js.Nodup/\ ∀b∈js,ZaW H ow ids.tk b
 | [],x,ids,k,k',h,hO,_=>by
  simp only[Zv6,Zab,Vd]at h;obtain⟨⟨_,rfl⟩,_⟩:=h
  exact⟨[],rfl, .nil,by simp⟩
 | [(n,p)],x,ids,k,k',h,hO,hn=>by
  simp only[Zv6]at h
  exact Zs6 hR hI h (hF n) hO hn
 | (n,p)::q::l,x,ids,k,k',h,hO,hn=>by
  simp only[Zv6,Zav,Zab,Vd]at h;obtain⟨⟨x1,i1⟩,m1,h1,⟨x2,i2⟩,m2,h2,⟨rfl,rfl⟩,_⟩:=h;have hn' : (i1.tk++i2.tk).Nodup:=hn;obtain⟨n1,n2,n3⟩:=Vc.1 hn';obtain⟨j1,h5,h6,h7⟩:=Zs6 hR hI h1 (hF n) (fun b hb=>hO b (ZaX (fun _ h=>by simp [Ids.app,h]) hb)) n1;obtain⟨j2,h8,h9,h10⟩:=Zrk hR hI hF (q::l) x2 i2 _ _ h2 (fun b hb=>hO b (ZaX (fun _ h=>by simp [Ids.app,h]) hb)) n2;refine⟨j1++j2,⟨j1,j2,rfl,h5,h8⟩,Vc.2 ⟨h6,h9,fun b hb b' hb' e=> ?_⟩,fun b hb=> ?_⟩
  ·subst e;obtain⟨id,h11,h12⟩:=Zdv hR (h7 b hb) (h10 b hb');exact n3 id h11 id h12 rfl
  ·rcases Vp.1 hb with hb|hb
   ·exact ZaX (fun _ h=>by simp [Ids.app,h]) (h7 b hb)
   ·exact ZaX (fun _ h=>by simp [Ids.app,h]) (h10 b hb)
theorem Zhf: ∀ (l:List (Nat×Pat)) (x:ElR l) (n:Nat),n<=(ZfN l x n).2.2/\ ∀o∈(ZfN l x n).2.1,n<=o.1/\o.1< (ZfN l x n).2.2
 | [],_,n=>⟨Nat.le_refl _,by simp [ZfN]⟩
 | [(m,p)],x,n=>Zcc p x n
 | (m,p)::q::l,x,n=>by
  obtain⟨h1,h2⟩:=Zcc p x.1 n;obtain⟨h3,h4⟩:=Zhf (q::l) x.2 (inj p x.1 n).2.2;refine⟨by simp only[ZfN];omega,fun o ho=> ?_⟩;simp only[ZfN,Vp]at ho ⊢;rcases ho with ho|ho
  ·have:=h2 o ho;omega
  ·have:=h4 o ho;omega
mutual
theorem Zhk: ∀ (p:Pat) (x:ElP p) (n:Nat),((inj p x n).2.1.map Vm).Nodup
 | .pd _,_,n=>by simp [inj]
 | .own _ _,_,n=>by simp [inj]
 | .var t p,x,n=>by
  simp only[inj,Vl,Vq];refine⟨fun h=> ?_,Zhk p x (n+1)⟩;obtain⟨o,ho,h1⟩:=Vb.1 h
  have:=((Zcc p x (n+1)).2 o ho).1;omega
 | .ro _,_,n=>by simp [inj]
 | .map _ _,_,n=>by simp [inj]
 | .rows _ _,_,n=>by simp [inj]
 | .mrows _ _,_,n=>by simp [inj]
 | .it _ _,_,n=>by simp [inj]
 | .bld _ _ _,_,n=>by simp [inj]
 | .agg l,x,n=>by simpa only[inj] using Zf6 l x n
 | .fn f l,x,n=>by simpa only[inj] using Zf6 l x n
 | .nilr,_,n=>by simp [inj]
 | .nils,_,n=>by simp [inj]
 | .any,_,n=>by simp [inj]
theorem Zf6: ∀ (l:Zbm) (x:Zej l) (n:Nat),((ZdG l x n).2.1.map Vm).Nodup
 | .nil,_,n=>by simp [ZdG]
 | .cons p l,x,n=>by simp only[ZdG,Vr,Vc];refine⟨Zhk p x.1 n,Zf6 l x.2 _,fun i hi j hj e=> ?_⟩;obtain⟨o,ho,rfl⟩:=Vb.1 hi;obtain⟨u,hu,rfl⟩:=Vb.1 hj;have h1:=((Zcc p x.1 n).2 o ho).2;have h2:=((Ze0 l x.2 _).2 u hu).1;omega
end
theorem Zkb: ∀ (l:List (Nat×Pat)) (x:ElR l) (n:Nat),((ZfN l x n).2.1.map Vm).Nodup
 | [],_,n=>by simp [ZfN]
 | [(m,p)],x,n=>by simpa only[ZfN] using Zhk p x n
 | (m,p)::q::l,x,n=>by simp only[ZfN,Vr,Vc];refine⟨Zhk p x.1 n,Zkb (q::l) x.2 _,fun i hi j hj e=> ?_⟩;obtain⟨o,ho,rfl⟩:=Vb.1 hi;obtain⟨u,hu,rfl⟩:=Vb.1 hj;have h1:=((Zcc p x.1 n).2 o ho).2;have h2:=((Zhf (q::l) x.2 _).2 u hu).1;omega
theorem ZgO: ∀ (l:List (Nat×ZeM)) (H:AH) (id:Nat),(l.map Vm).Nodup->Zag H (Zb6 l) id=match Zer l id with|some o=>some o|none=>H id
 | [],H,id,_=>rfl
 |p::l,H,id,hn=>by
  simp only[Vl,Vq]at hn;have hs:Zb6 (p::l)=(p.1,some p.2)::Zb6 l:=rfl;rw[hs];simp only[Zag];rw[ZgO l _ id hn.2];simp only[Zer]
  cases hb:Vk id p.1 with
  |true=>
   have:=Ve hb;subst this
   have hl:Zer l p.1=none:=by
    have key: ∀l:List (Nat×ZeM),p.1 ∉ l.map Vm->Zer l p.1=none:=by
     intro l
     induction l with
     |nil=>intro _;rfl
     |cons q l ih=>
      intro h;simp only[Vl,Vs,not_or]at h;simp only[Zer]
      have:Vk p.1 q.1=false:=by
       cases hb:Vk p.1 q.1
       ·rfl
       ·exact absurd (Ve hb) h.1
      rw[this];exact ih h.2
    exact key l hn.1
   rw[hl];simp [Zbc]
  |false=>
   have hne:id≠p.1:=fun e=>by rw[e]at hb;simp at hb
   simp only[cond_false]
   cases Zer l id with
   |some o=>rfl
   |none=>exact ZaD hne
theorem Zu3{w:World}{p:Pat}{H:AH}{g:Gh}{ow:Nat->Nat->Prop}(hR:RH B H w g ow){x:ElP p}{js:List Nat}{v:Value}{n:Nat}(h:PV w g.I p x js v)(hf:Zih B H w g ow js)(hk: ∀id,n<=id->id< (inj p x n).2.2-> ¬g.K id):
  Zil B H w g ow js n (inj p x n).2.2 (Zag H (Zb6 (inj p x n).2.1)) fun g' =>VR1 w g' (inj p x n).1 v:=by
 obtain⟨h1,ha⟩:=h;obtain⟨g1,ow1,l1,i1,r1,d1,k1,o1⟩:=ZmD p hR x js v.cells.toList n h1 hf hk;refine⟨g1,ow1,l1,i1,r1,⟨d1, ?_⟩,k1,o1⟩;by_cases hp:p= .any
 ·subst hp;exact .inl rfl
 ·rw[ZrP p x n hp];exact .inr (ha.resolve_left hp)
theorem ZrB{w:World}{tmps:Array Value} : ∀ (l:List (Nat×Pat)) {H:AH}{g:Gh}{ow:Nat->Nat->Prop} (_:RH B H w g ow) (x:ElR l) (js:List Nat) (n:Nat),PRs w g.I tmps l x js->Zih B H w g ow js->(∀id,n<=id->id< (ZfN l x n).2.2-> ¬g.K id)->
  Zil B H w g ow js n (ZfN l x n).2.2 (Zag H (Zb6 (ZfN l x n).2.1)) fun g' => ∀q∈(ZfN l x n).1,VR1 w g' q.2 (tmps.getD q.1 undef)
 | [],H,g,ow,hR,x,js,n,h,_,_=>by
  obtain rfl:=h
  exact Zil.none hR n (by simp [ZfN])
 | [(m,p)],H,g,ow,hR,x,js,n,h,hf,hk=>by
  obtain⟨g1,ow1,l1,i1,r1,d1,k1,o1⟩:=Zu3 hR h hf (by simpa only[ZfN] using hk);refine⟨g1,ow1,l1,i1,r1,fun q hq=> ?_,k1,o1⟩;simp only[ZfN,List.mem_singleton]at hq;subst hq
  exact d1
 | (m,p)::q::l,H,g,ow,hR,x,js,n,h,hf,hk=>by
  obtain⟨j1,j2,rfl,h1,h2⟩:=h;have n1:=(Zcc p x.1 n).1;have n2:=(Zhf (q::l) x.2 (inj p x.1 n).2.2).1;have hk' : ∀id,n<=id->id< (ZfN (q::l) x.2 (inj p x.1 n).2.2).2.2-> ¬g.K id:=by simpa only[ZfN] using hk
  obtain⟨g1,ow1,l1,i1,r1,d1,k1,o1⟩:=Zu3 hR h1 (hf.sub (List.sublist_append_left _ _)) fun id h h' =>hk' id h (by omega)
  obtain⟨g2,ow2,l2,i2,r2,d2,k2,o2⟩:=ZrB (q::l) r1 x.2 j2 (inj p x.1 n).2.2 (by rw[i1.I];exact h2) (hf.after i1.I o1) fun id h h' hK=>by
   rcases k1 id hK with h3|h3
   ·exact hk' id (by omega) h' h3
   ·omega
  have hH:Zag H (Zb6 (ZfN ((m,p)::q::l) x n).2.1)=Zag (Zag H (Zb6 (inj p x.1 n).2.1)) (Zb6 (ZfN (q::l) x.2 (inj p x.1 n).2.2).2.1):=by rw[<-ZaG];simp [ZfN,Zb6]
  rw[hH];simp only[ZfN];refine⟨g2,ow2,l1.trans l2,i2.after i1 l1,r2,fun u hu=> ?_,fun id h=> ?_,fun id b' h5 h6=> ?_⟩
  ·rcases Vs.1 hu with rfl|hu
   ·exact d1.mono (fun _ _=>rfl) l2
   ·exact d2 u hu
  ·rcases k2 id h with h|h
   ·rcases k1 id h with h|h
    ·exact .inl h
    ·exact .inr (by omega)
   ·exact .inr (by omega)
  ·rcases o2 id b' h5 h6 with ⟨h7,h8⟩ |h7
   ·rcases o1 id b' h7 h8 with h9|h9
    ·exact .inl h9
    ·exact .inr (by simp [h9])
   ·exact .inr (by simp [h7])
end
end Tr
