/- States of the abstract machine at regions, loops and joins. Conditions: the table of types is the program's, the specs are true. -/
import Derived.Test.YtckebckjnfcniaaGreatTsA
namespace Tr
open Go
structure SR (E:Env) (B:Zb7) (s:AS) (w:World) (g:Gh) (ow:Nat->Nat->Prop) (a:Act):Prop where
 rh:RH B s.H w g ow
 fr:Fr w g s.F a.tmps
 nt:a.tmps.size=E.nt
 df:a.defers=[]
 ids: ∀id,g.K id->id<s.nx
 fz: ∀id∈s.fz,Zkg s.H id=true
structure Ln (E:Env) (s:AS) (w:World) (g:Gh) (a:Act) (s' :AS) (w' :World) (g' :Gh) (a' :Act):Prop where
 lk:Lk E w g a w' g' a'
 fz:s'.fz=s.fz
 hz: ∀id∈s.fz,s'.H id=s.H id
section
variable {P:Program}{E:Env}{B:Zb7}{ops:Array Oper}{base:Nat}{fz:List Nat}
theorem Ln.refl(s:AS)(w:World)(g:Gh)(a:Act):Ln E s w g a s w g a:=⟨.refl w g a,rfl,fun _ _=>rfl⟩
theorem Ln.trans{s s1 s2:AS}{w w1 w2:World}{g g1 g2:Gh}{a a1 a2:Act}(h:Ln E s w g a s1 w1 g1 a1)(k:Ln E s1 w1 g1 a1 s2 w2 g2 a2):Ln E s w g a s2 w2 g2 a2:=
 ⟨h.lk.trans k.lk,k.fz.trans h.fz,fun id hid=>(k.hz id (h.fz▸hid)).trans (h.hz id hid)⟩
theorem Ze7{H H' :AH}{id:Nat}(h:H' id=H id):Zkg H' id=Zkg H id:=by unfold Zkg;rw[h]
theorem Ztv{i:Nat}{o:Oper}{F F1:Nat->AV}{H H1:AH}{t:Option Trc}(h:Zee E ops base fz i o F H=some (F1,H1,t)): ∀id∈fz,H1 id=H id:=by
 unfold Zee at h;split at h
 ·simp at h
 ·split at h
  ·simp only[Option.some.injEq,Prod.mk.injEq]at h;obtain⟨_,rfl,_⟩:=h;exact fun _ _=>rfl
  ·simp at h
 ·split at h
  ·cases hr: (aop E (base+i*ZaH) o.op o.type (aev F)).run H [] with
   |none=>rw[hr]at h;simp at h
   |some y=>
    rw[hr]at h;simp only[Option.bind_some]at h;split at h
    ·rename_i hj;simp only[Option.some.injEq,Prod.mk.injEq]at h;obtain⟨_,rfl,_⟩:=h;intro id hid;refine ZeM fun p hp e=> ?_;exact ZcB.1 hj p.1 (List.mem_map.2 ⟨p,hp,rfl⟩) (e▸hid)
    ·simp at h
  ·simp at h
theorem AE.keptH{l:List (Oper×Nat)}{F F' :Nat->AV}{H H' :AH}{tr tr' :List Trc}(h:AE E ops base fz l F H tr F' H' tr'): ∀id∈fz,H' id=H id:=by
 induction h with
 |nil=>exact fun _ _=>rfl
 |cons h h' ih=>exact fun id hid=>(ih id hid).trans (Ztv h id hid)
theorem AE.slots{l:List (Oper×Nat)}{F F' :Nat->AV}{H H' :AH}{tr tr' :List Trc}(h:AE E ops base fz l F H tr F' H' tr'): ∀k,(∀p∈l,p.1.dst≠some k)->F' k=F k:=by
 induction h with
 |nil=>exact fun _ _=>rfl
 |cons h h' ih=>
  intro k hk;obtain⟨v,pa,s,_⟩:=Zgk h;rw[ih k fun p hp=>hk p (by simp [hp]),s.F,Zd9 fun e he hke=>hk _ (List.mem_cons_self ..) (by rw[he,hke])]
theorem AE.traces{l:List (Oper×Nat)}{F F' :Nat->AV}{H H' :AH}{tr tr' :List Trc}(h:AE E ops base fz l F H tr F' H' tr'): ∀u∈tr,u∈tr' :=by
 induction h with
 |nil=>exact fun _ h=>h
 |cons h h' ih=>exact fun u hu=>ih u (by simp [hu])
theorem AE.still{l:List (Oper×Nat)}{F F' :Nat->AV}{H H' :AH}{tr tr' :List Trc}(h:AE E ops base fz l F H tr F' H' tr'): (∀u∈tr',u.wr=[])->H' =H:=by
 induction h with
 |nil=>exact fun _=>rfl
 | @cons o i rest F H tr F1 H1 t F' H' tr' h h' ih=>
  intro hu;obtain⟨v,pa,s,_⟩:=Zgk h
  have:pa=[]:=by
   cases pa with
   |nil=>rfl
   |cons p pa=>
    obtain⟨u,hu',hw⟩:=s.wr p (by simp);have:=hu u (h'.traces u (by simp [hu']));rw[this]at hw;simp at hw
  rw[ih hu,s.H,this];rfl
theorem ZlX:ops.toList.zipIdx.map Prod.snd=List.range ops.size:=by
 refine List.ext_getElem? fun i=> ?_;simp only[List.getElem?_map,List.getElem?_zipIdx];by_cases h:i<ops.size
 ·simp [h]
 ·simp [h]
theorem ZiK(hm:P.follows .mixedOrders=true)(hT:ZaC P E)(hS:Zcq P E B){s:AS}{w:World}{g:Gh}{ow:Nat->Nat->Prop}{a:Act}(hs:SR E B s w g ow a){id:Nat}{draw:Bool}{F' :Nat->AV}{H' :AH}{tr' :List Trc}
  (h:AE E ops s.nx s.fz ops.toList.zipIdx s.F s.H [] F' H' tr') (hd: (!draw||Zjb ops tr')=true) {Q:Exit->Act->World->Prop}
  (hQ: ∀a' w' g' ow',RI E B s.nx F' H' w' a' g' ow' (fun j=>j<ops.size)->Lk E w g a w' g' a' ->Q .normal a' w'): (Code.region id ops draw).wp P Q a w:=by
 have hex:=h.ex (by rw[ZlX];exact List.nodup_range) (fun p hp=>by rw[List.mem_zipIdx_iff_getElem?]at hp;simpa using hp) (fun _ _=>rfl);rw[ZlX]at hex
 cases draw with
 |false=>
  refine wp_region (ZjQ hT hS hex List.nodup_range (L:=fun _=>False) (fun _ _ h=>h) ⟨hs.rh,hs.fr,hs.nt,hs.df,fun id hid=> .inl (hs.ids id hid)⟩ fun a' w' g' ow' hI hl=>hQ a' w' g' ow' ⟨hI.rh,hI.fr,hI.nt,hI.df,fun id hid=> ?_⟩ hl)
  exact(hI.ids id hid).imp (fun h=>h) fun⟨j,h1,h2⟩=>⟨j,List.mem_range.1 (h1.resolve_right fun h=>h),h2⟩
 |true=>
  simp only[Bool.not_true,Bool.false_or,Zjb,Bool.and_eq_true,Bool.or_eq_true]at hd;obtain⟨⟨hed,hso⟩,htr⟩:=hd
  have hw:Zba w {w with drawn:=w.drawn+1} :=⟨rfl,rfl,rfl,⟨rfl,by first|exact Nat.le_succ _|exact Nat.le_refl _⟩⟩
  have hun: ∀i j,i<j->j<ops.size->((Region.before ops).getD j 0).testBit i=false->(i,j)∈ZrR ops:=by intro i j hij hj hb;simp only[ZrR,List.mem_flatMap,List.mem_range,List.mem_filterMap];refine⟨j,hj,i,hij, ?_⟩;rw[hb];simp
  refine wp_region_any hm (ZrK hT hS hed (T:=fun i=>Zeo i tr') (fun i j hij hj hb=> ?_) ops.size hex (by simp) (List.pairwise_lt_range) (by simp) (fun i hi=> ?_) (fun i hi=>List.mem_range.1 hi) (fun i o ho hl=> ?_) (L:=fun _=>False) (fun _ _ h=>h)
   ⟨hs.rh.same hw,hs.fr.mono (hw.agree _) (.refl g),hs.nt,hs.df,fun id hid=> .inl (hs.ids id hid)⟩ fun a' w' g' ow' hI hl=>hQ a' w' g' ow' ⟨hI.rh,hI.fr,hI.nt,hI.df,fun id hid=> ?_⟩ ⟨hl.le,hl.ag,hl.ks⟩)
  ·intro oa ob hoa hob;have hmem:=hun i j hij hj hb;refine⟨?_,fun u v hu hv=> ?_⟩
   ·have:=List.all_eq_true.1 hso (i,j) hmem;simpa only[hoa,hob] using this
   ·rcases htr with htr|htr
    ·have hu1:u.wr=[]:=by
      have hmu:u∈tr' :=by
       clear hmem hun hex h htr hv hso hed
       induction tr' with
       |nil=>simp [Zeo]at hu
       |cons t l ih=>
        simp only[Zeo]at hu
        cases hb' :Nat.beq t.i i with
        |true=>rw[hb']at hu;simp only[cond_true,Option.some.injEq]at hu;simp [hu]
        |false=>rw[hb']at hu;simp only[cond_false]at hu;exact List.mem_cons_of_mem _ (ih hu)
      simpa using List.all_eq_true.1 htr u hmu
     have hv1:v.wr=[]:=by
      have hmv:v∈tr' :=by
       clear hmem hun hex h htr hu hso hed
       induction tr' with
       |nil=>simp [Zeo]at hv
       |cons t l ih=>
        simp only[Zeo]at hv
        cases hb' :Nat.beq t.i j with
        |true=>rw[hb']at hv;simp only[cond_true,Option.some.injEq]at hv;simp [hv]
        |false=>rw[hb']at hv;simp only[cond_false]at hv;exact List.mem_cons_of_mem _ (ih hv)
      simpa using List.all_eq_true.1 htr v hmv
     rw[hu1,hv1];exact⟨rfl,rfl,rfl⟩
    ·have:=List.all_eq_true.1 htr (i,j) hmem;simp only[Zna]at this;rw[show Zeo i tr' =some u from hu,show Zeo j tr' =some v from hv]at this;simp only[Bool.and_eq_true]at this;exact⟨this.1.1,this.1.2,this.2⟩
  ·simp [hi]
  ·exfalso;have:i<ops.size:=(Array.getElem?_eq_some_iff.1 ho).1;simp [this]at hl
  ·exact(hI.ids id hid).imp (fun h=>h) fun⟨j,h1,h2⟩=>⟨j,List.mem_range.1 (h1.resolve_right fun h=>h),h2⟩
theorem Zqf{w:World}{g:Gh}{t t' :Ty}{y:El t'}{x:El t}{v:Value}(h:ZaR t' t y=some x)(hv:VR w g (.d t' y) v):VR w g (.d t x) v:=by obtain⟨rfl,rfl⟩:=Zay h;exact hv
theorem Fr.upd{w:World}{g:Gh}{F:Nat->AV}{tmps:Array Value}{n:Nat}{v:AV}(h:Fr w g F tmps)(hv:VR w g v (tmps.getD n undef)):Fr w g (Zkc F n v) tmps:=by
 intro t;unfold Zkc
 cases hb:Nat.beq t n with
 |true=>have:=Nat.eq_of_beq_eq_true hb;subst this;exact hv
 |false=>exact h t
theorem Ztb{w:World}{g:Gh}{F:Nat->AV}{tmps:Array Value}(hF:Fr w g F tmps): ∀ (l:List (Nat×Ty)) (x:ElT l) (F0:Nat->AV),Zur F l=some x->Fr w g F0 tmps->Fr w g (inT F0 l x) tmps
 | [],_,F0,_,h0=>h0
 | [(n,t)],x,F0,h,h0=>by
  simp only[Zur]at h;have hv:=hF n;split at h
  ·rename_i t' y hy;rw[hy]at hv;simp only[inT];exact h0.upd (Zqf h hv)
  ·simp at h
 | (n,t)::p::l,x,F0,h,h0=>by
  simp only[Zur]at h;have hv:=hF n;split at h
  ·rename_i t' y hy;rw[hy]at hv
   cases hc:ZaR t' t y with
   |none=>rw[hc]at h;simp at h
   |some z=>
    rw[hc]at h;simp only[Option.bind_some]at h
    cases hr:Zur F (p::l) with
    |none=>rw[hr]at h;simp at h
    |some u=>
     rw[hr]at h;simp only[Option.bind_some,Option.some.injEq]at h;subst h;simp only[inT];exact Ztb hF (p::l) u _ hr (h0.upd (Zqf hc hv))
  ·simp at h
theorem ZoM(hm:P.follows .mixedOrders=true)(hT:ZaC P E)(hS:Zcq P E B){s:AS}{w:World}{g:Gh}{ow:Nat->Nat->Prop}{a:Act}(hs:SR E B s w g ow a){id:Nat}{draw:Bool}{outs:Option (List (Nat×Ty))}{ρ:Type}{k:AS->Option ρ}{r:ρ}
  (h:ZlG E ops draw outs ρ s k=some r): (Code.region id ops draw).wp P (fun e a' w' => ∃s' g' ow',e= .normal/\SR E B s' w' g' ow' a' /\Ln E s w g a s' w' g' a' /\k s' =some r) a w:=by
 have hnx: ∀ (g' :Gh) (id:Nat),(id<s.nx\/ ∃j,j<ops.size/\s.nx+j*ZaH<=id/\id<s.nx+j*ZaH+ZaH)->id<s.nx+ops.size*ZaH:=by
  intro g' id h;rcases h with h| ⟨j,h1,h2,h3⟩
  ·omega
  ·unfold ZaH at*;omega
 unfold ZlG at h
 cases outs with
 |none=>
  simp only at h;obtain⟨F',H',tr',hae,hk⟩:=ZeW h
  cases hd: (!draw||Zjb ops tr') with
  |false=>rw[hd]at hk;simp at hk
  |true=>
   rw[hd]at hk;simp only[cond_true]at hk;refine ZiK hm hT hS hs hae hd fun a' w' g' ow' hI hl=>⟨⟨F',H',s.nx+ops.size*ZaH,s.fz⟩,g',ow',rfl,⟨hI.rh,hI.fr,hI.nt,hI.df,fun id hid=>hnx g' id (hI.ids id hid),fun id hid=> ?_⟩,⟨hl,rfl,fun id hid=>hae.keptH id hid⟩,hk⟩
   exact(Ze7 (hae.keptH id hid)).trans (hs.fz id hid)
 |some l=>
  simp only at h;rw[Option.bind_eq_some_iff]at h;obtain⟨x,hx,hk⟩:=h;obtain⟨F',H',tr',hae,hx⟩:=ZeW hx
  cases hd: ((!draw||Zjb ops tr') &&tr'.all (fun t=>t.wr.isEmpty)) with
  |false=>rw[hd]at hx;simp at hx
  |true=>
   rw[hd]at hx;simp only[cond_true]at hx;simp only[Bool.and_eq_true]at hd;have hst:H' =s.H:=hae.still fun u hu=>by simpa using List.all_eq_true.1 hd.2 u hu
   subst hst;refine ZiK hm hT hS hs hae hd.1 fun a' w' g' ow' hI hl=>⟨⟨inT (Ztp (ZnA ops.toList) s.F) l x,s.H,s.nx+ops.size*ZaH,s.fz⟩,g',ow',rfl,⟨hI.rh, ?_,hI.nt,hI.df,fun id hid=>hnx g' id (hI.ids id hid),hs.fz⟩,⟨hl,rfl,fun _ _=>rfl⟩,hk⟩;refine Ztb hI.fr l x _ hx fun t=> ?_;unfold Ztp
   cases hb:Zd3 t (ZnA ops.toList) with
   |true=>exact ZfB
   |false=>
    simp only[cond_false]
    have:F' t=s.F t:=hae.slots t fun p hp hpt=>by
     have:t∈ZnA ops.toList:=by rw[List.mem_zipIdx_iff_getElem?]at hp;exact List.mem_filterMap.2 ⟨p.1,List.mem_of_getElem? hp,hpt⟩
     rw[Za3.2 this]at hb;simp at hb
    rw[<-this];exact hI.fr t
def PRs(w:World)(I:Nat->Prop)(tmps:Array Value): (l:List (Nat×Pat))->ElR l->List Nat->Prop
 | [],_,js=>js=[]
 | [(n,p)],x,js=>PV w I p x js (tmps.getD n undef)
 | (n,p)::q::l,x,js=> ∃j1 j2,js=j1++j2/\PV w I p x.1 j1 (tmps.getD n undef)/\PRs w I tmps (q::l) x.2 j2
theorem Zo8{H:AH}{w:World}{g:Gh}{ow:Nat->Nat->Prop}{I:Nat->Prop}(hR:RH B H w g ow)(hI: ∀b,g.I b->I b){p:Pat}{v:AV}{val:Value}{x:ElP p}{ids:Ids}{l l' :List Nat}(h: (ext p v).run H l=some ((x,ids),l'))(hv:VR w g v val)
  (hO: ∀b,ZaS H ow ids.br b->I b) (hn:ids.tk.Nodup): ∃js,PV w I p x js val/\js.Nodup/\ ∀b∈js,ZaS H ow ids.tk b:=by
 by_cases hp:p= .any
 ·subst hp;simp only[ext,Zab,Prod.mk.injEq]at h;obtain⟨⟨_,rfl⟩,_⟩:=h;exact⟨[],⟨rfl, .inl rfl⟩, .nil,by simp⟩
 ·obtain⟨hj,ha⟩:=ZpD h hp
  have hnt: ∀m,v≠ .tup m:=by
   rintro m rfl
   cases p with
   |any=>exact hp rfl
   |pd t=>cases t<;>simp [ext,ZaZ,Zas,Zaa]at h
   |own t k=>simp [ext,ZbN,Zas,Zaa]at h
   |var t p=>simp [ext,Zaa]at h
   |ro t=>simp [ext,Zaa]at h
   |map k t=>simp [ext,Zaa]at h
   |rows t k=>simp [ext,Zde,Zas,Zaa]at h
   |mrows k t=>simp [ext,Zaa]at h
   |it k t=>simp [ext,Zaa]at h
   |bld T e k=>simp [ext,Zaa]at h
   |agg l=>simp [ext,Zaa]at h
   |fn f l=>simp [ext,Zaa]at h
   |nilr=>simp [ext,Zaa]at h
   |nils=>simp [ext,Zaa]at h
  have h1:=hv.to1 hnt;obtain⟨js,h2,h3,h4⟩:=ZeK hR hI p v val.cells.toList x ids l l' h h1.1 hO hn;exact⟨js,⟨h2, .inr (by rw[<-ha];exact h1.2.resolve_left hj)⟩,h3,h4⟩
theorem Zpo{H:AH}{w:World}{g:Gh}{ow:Nat->Nat->Prop}{I:Nat->Prop}{F:Nat->AV}{tmps:Array Value}(hR:RH B H w g ow)(hI: ∀b,g.I b->I b)(hF:Fr w g F tmps): ∀ (l:List (Nat×Pat)) (x:ElR l) (ids:Ids) (k k' :List Nat),
  (ZtE F l).run H k=some ((x,ids),k')->(∀b,ZaS H ow ids.br b->I b)->ids.tk.Nodup-> ∃js,PRs w I tmps l x js/\js.Nodup/\ ∀b∈js,ZaS H ow ids.tk b
 | [],x,ids,k,k',h,hO,_=>by
  simp only[ZtE,Zab,Prod.mk.injEq]at h;obtain⟨⟨_,rfl⟩,_⟩:=h
  exact⟨[],rfl, .nil,by simp⟩
 | [(n,p)],x,ids,k,k',h,hO,hn=>by
  simp only[ZtE]at h
  exact Zo8 hR hI h (hF n) hO hn
 | (n,p)::q::l,x,ids,k,k',h,hO,hn=>by
  simp only[ZtE,Zas,Zab,Prod.mk.injEq]at h;obtain⟨⟨x1,i1⟩,m1,h1,⟨x2,i2⟩,m2,h2,⟨rfl,rfl⟩,_⟩:=h;have hn' : (i1.tk++i2.tk).Nodup:=hn;obtain⟨n1,n2,n3⟩:=List.nodup_append.1 hn';obtain⟨j1,h5,h6,h7⟩:=Zo8 hR hI h1 (hF n) (fun b hb=>hO b (ZaV (fun _ h=>by simp [Ids.app,h]) hb)) n1;obtain⟨j2,h8,h9,h10⟩:=Zpo hR hI hF (q::l) x2 i2 _ _ h2 (fun b hb=>hO b (ZaV (fun _ h=>by simp [Ids.app,h]) hb)) n2;refine⟨j1++j2,⟨j1,j2,rfl,h5,h8⟩,List.nodup_append.2 ⟨h6,h9,fun b hb b' hb' e=> ?_⟩,fun b hb=> ?_⟩
  ·subst e;obtain⟨id,h11,h12⟩:=Zdc hR (h7 b hb) (h10 b hb');exact n3 id h11 id h12 rfl
  ·rcases List.mem_append.1 hb with hb|hb
   ·exact ZaV (fun _ h=>by simp [Ids.app,h]) (h7 b hb)
   ·exact ZaV (fun _ h=>by simp [Ids.app,h]) (h10 b hb)
theorem ZfW: ∀ (l:List (Nat×Pat)) (x:ElR l) (n:Nat),n<=(ZeA l x n).2.2/\ ∀o∈(ZeA l x n).2.1,n<=o.1/\o.1< (ZeA l x n).2.2
 | [],_,n=>⟨Nat.le_refl _,by simp [ZeA]⟩
 | [(m,p)],x,n=>ZbU p x n
 | (m,p)::q::l,x,n=>by
  obtain⟨h1,h2⟩:=ZbU p x.1 n;obtain⟨h3,h4⟩:=ZfW (q::l) x.2 (inj p x.1 n).2.2;refine⟨by simp only[ZeA];omega,fun o ho=> ?_⟩;simp only[ZeA,List.mem_append]at ho ⊢;rcases ho with ho|ho
  ·have:=h2 o ho;omega
  ·have:=h4 o ho;omega
mutual
theorem Zgd: ∀ (p:Pat) (x:ElP p) (n:Nat),((inj p x n).2.1.map Prod.fst).Nodup
 | .pd _,_,n=>by simp [inj]
 | .own _ _,_,n=>by simp [inj]
 | .var t p,x,n=>by
  simp only[inj,List.map_cons,List.nodup_cons];refine⟨fun h=> ?_,Zgd p x (n+1)⟩;obtain⟨o,ho,h1⟩:=List.mem_map.1 h
  have:=((ZbU p x (n+1)).2 o ho).1;omega
 | .ro _,_,n=>by simp [inj]
 | .map _ _,_,n=>by simp [inj]
 | .rows _ _,_,n=>by simp [inj]
 | .mrows _ _,_,n=>by simp [inj]
 | .it _ _,_,n=>by simp [inj]
 | .bld _ _ _,_,n=>by simp [inj]
 | .agg l,x,n=>by simpa only[inj] using Zfd l x n
 | .fn f l,x,n=>by simpa only[inj] using Zfd l x n
 | .nilr,_,n=>by simp [inj]
 | .nils,_,n=>by simp [inj]
 | .any,_,n=>by simp [inj]
theorem Zfd: ∀ (l:Zal) (x:ZdV l) (n:Nat),((ZcY l x n).2.1.map Prod.fst).Nodup
 | .nil,_,n=>by simp [ZcY]
 | .cons p l,x,n=>by simp only[ZcY,List.map_append,List.nodup_append];refine⟨Zgd p x.1 n,Zfd l x.2 _,fun i hi j hj e=> ?_⟩;obtain⟨o,ho,rfl⟩:=List.mem_map.1 hi;obtain⟨u,hu,rfl⟩:=List.mem_map.1 hj;have h1:=((ZbU p x.1 n).2 o ho).2;have h2:=((Zeq l x.2 _).2 u hu).1;omega
end
theorem Zjf: ∀ (l:List (Nat×Pat)) (x:ElR l) (n:Nat),((ZeA l x n).2.1.map Prod.fst).Nodup
 | [],_,n=>by simp [ZeA]
 | [(m,p)],x,n=>by simpa only[ZeA] using Zgd p x n
 | (m,p)::q::l,x,n=>by simp only[ZeA,List.map_append,List.nodup_append];refine⟨Zgd p x.1 n,Zjf (q::l) x.2 _,fun i hi j hj e=> ?_⟩;obtain⟨o,ho,rfl⟩:=List.mem_map.1 hi;obtain⟨u,hu,rfl⟩:=List.mem_map.1 hj;have h1:=((ZbU p x.1 n).2 o ho).2;have h2:=((ZfW (q::l) x.2 _).2 u hu).1;omega
theorem ZfO: ∀ (l:List (Nat×Zd7)) (H:AH) (id:Nat),(l.map Prod.fst).Nodup->Zae H (ZbP l) id=match Zdz l id with|some o=>some o|none=>H id
 | [],H,id,_=>rfl
 |p::l,H,id,hn=>by
  simp only[List.map_cons,List.nodup_cons]at hn;have hs:ZbP (p::l)=(p.1,some p.2)::ZbP l:=rfl;rw[hs];simp only[Zae];rw[ZfO l _ id hn.2];simp only[Zdz]
  cases hb:Nat.beq id p.1 with
  |true=>
   have:=Nat.eq_of_beq_eq_true hb;subst this
   have hl:Zdz l p.1=none:=by
    have key: ∀l:List (Nat×Zd7),p.1 ∉ l.map Prod.fst->Zdz l p.1=none:=by
     intro l
     induction l with
     |nil=>intro _;rfl
     |cons q l ih=>
      intro h;simp only[List.map_cons,List.mem_cons,not_or]at h;simp only[Zdz]
      have:Nat.beq p.1 q.1=false:=by
       cases hb:Nat.beq p.1 q.1
       ·rfl
       ·exact absurd (Nat.eq_of_beq_eq_true hb) h.1
      rw[this];exact ih h.2
    exact key l hn.1
   rw[hl];simp [Za8]
  |false=>
   have hne:id≠p.1:=fun e=>by rw[e]at hb;simp at hb
   simp only[cond_false]
   cases Zdz l id with
   |some o=>rfl
   |none=>exact ZaF hne
theorem Zs8{w:World}{p:Pat}{H:AH}{g:Gh}{ow:Nat->Nat->Prop}(hR:RH B H w g ow){x:ElP p}{js:List Nat}{v:Value}{n:Nat}(h:PV w g.I p x js v)(hf:Zg9 B H w g ow js)(hk: ∀id,n<=id->id< (inj p x n).2.2-> ¬g.K id):
  Zg7 B H w g ow js n (inj p x n).2.2 (Zae H (ZbP (inj p x n).2.1)) fun g' =>VR1 w g' (inj p x n).1 v:=by
 obtain⟨h1,ha⟩:=h;obtain⟨g1,ow1,l1,i1,r1,d1,k1,o1⟩:=Zk5 p hR x js v.cells.toList n h1 hf hk;refine⟨g1,ow1,l1,i1,r1,⟨d1, ?_⟩,k1,o1⟩;by_cases hp:p= .any
 ·subst hp;exact .inl rfl
 ·rw[Zpq p x n hp];exact .inr (ha.resolve_left hp)
theorem Zqx{w:World}{tmps:Array Value} : ∀ (l:List (Nat×Pat)) {H:AH}{g:Gh}{ow:Nat->Nat->Prop} (_:RH B H w g ow) (x:ElR l) (js:List Nat) (n:Nat),PRs w g.I tmps l x js->Zg9 B H w g ow js->(∀id,n<=id->id< (ZeA l x n).2.2-> ¬g.K id)->
  Zg7 B H w g ow js n (ZeA l x n).2.2 (Zae H (ZbP (ZeA l x n).2.1)) fun g' => ∀q∈(ZeA l x n).1,VR1 w g' q.2 (tmps.getD q.1 undef)
 | [],H,g,ow,hR,x,js,n,h,_,_=>by
  obtain rfl:=h
  exact Zg7.none hR n (by simp [ZeA])
 | [(m,p)],H,g,ow,hR,x,js,n,h,hf,hk=>by
  obtain⟨g1,ow1,l1,i1,r1,d1,k1,o1⟩:=Zs8 hR h hf (by simpa only[ZeA] using hk);refine⟨g1,ow1,l1,i1,r1,fun q hq=> ?_,k1,o1⟩;simp only[ZeA,List.mem_singleton]at hq;subst hq
  exact d1
 | (m,p)::q::l,H,g,ow,hR,x,js,n,h,hf,hk=>by
  obtain⟨j1,j2,rfl,h1,h2⟩:=h;have n1:=(ZbU p x.1 n).1;have n2:=(ZfW (q::l) x.2 (inj p x.1 n).2.2).1;have hk' : ∀id,n<=id->id< (ZeA (q::l) x.2 (inj p x.1 n).2.2).2.2-> ¬g.K id:=by simpa only[ZeA] using hk
  obtain⟨g1,ow1,l1,i1,r1,d1,k1,o1⟩:=Zs8 hR h1 (hf.sub (List.sublist_append_left _ _)) fun id h h' =>hk' id h (by omega)
  obtain⟨g2,ow2,l2,i2,r2,d2,k2,o2⟩:=Zqx (q::l) r1 x.2 j2 (inj p x.1 n).2.2 (by rw[i1.I];exact h2) (hf.after i1.I o1) fun id h h' hK=>by
   rcases k1 id hK with h3|h3
   ·exact hk' id (by omega) h' h3
   ·omega
  have hH:Zae H (ZbP (ZeA ((m,p)::q::l) x n).2.1)=Zae (Zae H (ZbP (inj p x.1 n).2.1)) (ZbP (ZeA (q::l) x.2 (inj p x.1 n).2.2).2.1):=by rw[<-ZaI];simp [ZeA,ZbP]
  rw[hH];simp only[ZeA];refine⟨g2,ow2,l1.trans l2,i2.after i1 l1,r2,fun u hu=> ?_,fun id h=> ?_,fun id b' h5 h6=> ?_⟩
  ·rcases List.mem_cons.1 hu with rfl|hu
   ·exact d1.mono (fun _ _=>rfl) l2
   ·exact d2 u hu
  ·rcases k2 id h with h|h
   ·rcases k1 id h with h|h
    ·exact .inl h
    ·exact .inr (by omega)
   ·exact .inr (by omega)
  ·rcases o2 id b' h5 h6 with ⟨h7,h8⟩ |h7
   ·rcases o1 id b' h7 h8 with h9|h9
    ·exact .inl h9
    ·exact .inr (by simp [h9])
   ·exact .inr (by simp [h7])
end
end Tr
