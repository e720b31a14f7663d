/- States of the abstract machine at regions, loops and joins. Conditions: the table of types is the program's, the specs are true. -/
import Derived.Test.YtdpenljjnfmgiaaGreatTsA
open Bool renaming and_eq_true ->Vh
open List renaming nodup_append ->Va,mem_map ->Vb,map_cons ->Ve,mem_filterMap ->Vg,all_eq_true ->Vi,mem_append ->Vj,nodup_cons ->Vk,map_append ->Vl,mem_cons ->Vn
open Nat renaming beq ->Vm
open Option renaming bind_some ->Vd
open Prod renaming fst ->Vf
open Prod.mk renaming injEq ->Vc
namespace Tr
open Go
structure SR (E:Env) (B:Za4) (s:AS) (w:World) (g:Gh) (ow:Nat->Nat->Prop) (a:Act):Prop where
 rh:RH B s.H w g ow
 fr:Fr w g s.F a.tmps
 nt:a.tmps.size=E.nt
 df:a.defers=[]
 ids: ∀id,g.K id->id<s.nx
 fz: ∀id∈s.fz,Zg3 s.H id=true
structure Ln (E:Env) (s:AS) (w:World) (g:Gh) (a:Act) (s' :AS) (w' :World) (g' :Gh) (a' :Act):Prop where
 lk:Lk E w g a w' g' a'
 fz:s'.fz=s.fz
 hz: ∀id∈s.fz,s'.H id=s.H id
section
variable {P:Program}{E:Env}{B:Za4}{ops:Array Oper}{base:Nat}{fz:List Nat}
theorem Ln.refl(s:AS)(w:World)(g:Gh)(a:Act):Ln E s w g a s w g a:=⟨.refl w g a,rfl,by simp⟩
theorem Ln.trans{s s1 s2:AS}{w w1 w2:World}{g g1 g2:Gh}{a a1 a2:Act}(h:Ln E s w g a s1 w1 g1 a1)(k:Ln E s1 w1 g1 a1 s2 w2 g2 a2):Ln E s w g a s2 w2 g2 a2:=
 ⟨h.lk.trans k.lk,k.fz.trans h.fz,fun id hid=>(k.hz id (h.fz▸hid)).trans (h.hz id hid)⟩
theorem Zdh{H H' :AH}{id:Nat}(h:H' id=H id):Zg3 H' id=Zg3 H id:=by unfold Zg3;rw[h]
theorem ZmH{i:Nat}{o:Oper}{F F1:Nat->AV}{H H1:AH}{t:Option Trc}(h:Zcu E ops base fz i o F H=some (F1,H1,t)): ∀id∈fz,H1 id=H id:=by
 unfold Zcu at h;split at h
 ·grind
 ·grind
 ·split at h
  ·cases hr: (aop E (base+i*E.stp) o.op o.type (aev F)).run H [] with
   |none=>grind
   |some y=>
    rw[hr]at h;simp only[Vd]at h;split at h
    ·rename_i hj;simp only[Option.some.injEq,Vc]at h;obtain⟨_,rfl,_⟩:=h;intro id hid;refine Zc6 fun p hp e=> ?_;exact ZbJ.1 hj p.1 (by grind) (e▸hid)
    grind
  grind
theorem AE.keptH{l:List (Oper×Nat)}{F F' :Nat->AV}{H H' :AH}{tr tr' :List Trc}(h:AE E ops base fz l F H tr F' H' tr'): ∀id∈fz,H' id=H id:=by
 induction h with
 |nil=>simp
 |cons h h' ih=>exact fun id hid=>(ih id hid).trans (ZmH h id hid)
theorem AE.slots{l:List (Oper×Nat)}{F F' :Nat->AV}{H H' :AH}{tr tr' :List Trc}(h:AE E ops base fz l F H tr F' H' tr'): ∀k,(∀p∈l,p.1.dst≠some k)->F' k=F k:=by
 induction h with
 |nil=>simp
 |cons h h' ih=>
  intro k hk;obtain⟨v,pa,s,_⟩:=Zd2 h;rw[ih k (by grind),s.F,ZcP fun e he hke=>(by simp_all)]
theorem AE.traces{l:List (Oper×Nat)}{F F' :Nat->AV}{H H' :AH}{tr tr' :List Trc}(h:AE E ops base fz l F H tr F' H' tr'): ∀u∈tr,u∈tr' :=by
 induction h with
 |nil=>simp
 |cons h h' ih=>grind
theorem AE.still{l:List (Oper×Nat)}{F F' :Nat->AV}{H H' :AH}{tr tr' :List Trc}(h:AE E ops base fz l F H tr F' H' tr'): (∀u∈tr',u.wr=[])->H' =H:=by
 induction h with
 |nil=>simp
 | @cons o i rest F H tr F1 H1 t F' H' tr' h h' ih=>
  intro hu;obtain⟨v,pa,s,_⟩:=Zd2 h
  have:pa=[]:=by
   cases pa with
   |nil=>rfl
   |cons p pa=>
    obtain⟨u,hu',hw⟩:=s.wr p (by simp);have:=hu u (h'.traces u (by grind))
    grind
  rw[ih hu,s.H,this];rfl
theorem Zh0:ops.toList.zipIdx.map Prod.snd=List.range ops.size:=by
 refine List.ext_getElem? fun i=> ?_
 grind
theorem Zej(hm:P.follows .mixedOrders=true)(hT:Zah P E)(hS:ZaU P E B){nx:Nat}{fz:List Nat}{F:Nat->AV}{H:AH}{U:Nat->Prop}{w:World}{g:Gh}{ow:Nat->Nat->Prop}{a:Act}(hs:RI E B nx U F H w a g ow fun _=>False)(hU: ∀id,U id->nx+ops.size*E.stp<=id){id:Nat}{draw:Bool}{F' :Nat->AV}{H' :AH}{tr' :List Trc}
  (h:AE E ops nx fz ops.toList.zipIdx F H [] F' H' tr') (hd: (!draw||Zfa ops tr')=true) {Q:Exit->Act->World->Prop}
  (hQ: ∀a' w' g' ow',RI E B nx U F' H' w' a' g' ow' (fun j=>j<ops.size)->Lb E nx (nx+ops.size*E.stp) w g a w' g' a' ->Q .normal a' w'): (Code.region id ops draw).wp P Q a w:=by
 have hex:=h.ex (by rw[Zh0];grind) (by grind) (fun _ _=>rfl);rw[Zh0]at hex
 cases draw with
 |false=>
  refine wp_region (Zg0 hT hS hex List.nodup_range (L:=fun _=>False) (by simp) hU hs fun a' w' g' ow' hI hl=>hQ a' w' g' ow' ⟨hI.rh,hI.fr,hI.nt,hI.df,fun id hid=> ?_⟩ hl)
  exact(hI.ids id hid).imp (fun h=>h) fun⟨j,h1,h2⟩=>by simp_all
 |true=>
  simp only[Bool.not_true,Bool.false_or,Zfa,Vh,Bool.or_eq_true]at hd;obtain⟨⟨hed,hso⟩,htr⟩:=hd;have hw:ZaG w {w with drawn:=w.drawn+1} :=⟨rfl,rfl,rfl,⟨rfl,by simp⟩⟩
  have hun: ∀i j,i<j->j<ops.size->((Region.before ops).getD j 0).testBit i=false->(i,j)∈Zmg ops:=by
   intro i j hij hj hb;simp only[Zmg,List.mem_flatMap,List.mem_range,Vg]
   grind
  refine wp_region_any hm (ZlH hT hS hed (T:=fun i=>Zc0 i tr') (fun i j hij hj hb=> ?_) ops.size hex (by simp) (List.pairwise_lt_range) (by simp) (fun i hi=> ?_) (by simp) (fun i o ho hl=> ?_) (L:=fun _=>False) (by simp) hU
   ⟨hs.rh.same hw,hs.fr.mono (hw.agree _) (.refl g),hs.nt,hs.df,hs.ids⟩ fun a' w' g' ow' hI hl=>hQ a' w' g' ow' ⟨hI.rh,hI.fr,hI.nt,hI.df,fun id hid=> ?_⟩ ⟨⟨hl.le,hl.ag,hl.ks⟩,hl.nw⟩)
  ·intro oa ob hoa hob;have hmem:=hun i j hij hj hb;refine⟨?_,fun u v hu hv=> ?_⟩
   ·have:=Vi.1 hso (i,j) hmem
    grind
   ·rcases htr with htr|htr
    ·have hu1:u.wr=[]:=by
      have hmu:u∈tr' :=by
       clear hmem hun hex h htr hv hso hed
       induction tr' with
       |nil=>simp [Zc0]at hu
       |cons t l ih=>
        simp only[Zc0]at hu
        grind
      grind
     have hv1:v.wr=[]:=by
      have hmv:v∈tr' :=by
       clear hmem hun hex h htr hu hso hed
       induction tr' with
       |nil=>simp [Zc0]at hv
       |cons t l ih=>
        simp only[Zc0]at hv
        grind
      grind
     rw[hu1,hv1];exact⟨rfl,rfl,rfl⟩
    ·have:=Vi.1 htr (i,j) hmem;simp only[ZiM]at this
     grind
  ·simp_all
  ·exfalso;have:i<ops.size:=by grind
   simp_all
  ·exact(hI.ids id hid).imp (fun h=>h) fun⟨j,h1,h2⟩=>by simp_all
theorem Zlz{w:World}{g:Gh}{t t' :Ty}{y:El t'}{x:El t}{v:Value}(h:Zay t' t y=some x)(hv:VR w g (.d t' y) v):VR w g (.d t x) v:=by obtain⟨rfl,rfl⟩:=Zal h;omega
theorem Fr.upd{w:World}{g:Gh}{F:Nat->AV}{tmps:Array Value}{n:Nat}{v:AV}(h:Fr w g F tmps)(hv:VR w g v (tmps.getD n undef)):Fr w g (Zg4 F n v) tmps:=by
 intro t;unfold Zg4
 cases hb:Vm t n with
 |true=>simp_all
 |false=>exact h t
theorem Zmu{w:World}{g:Gh}{F:Nat->AV}{tmps:Array Value}(hF:Fr w g F tmps): ∀ (l:List (Nat×Ty)) (x:ElT l) (F0:Nat->AV),Znx F l=some x->Fr w g F0 tmps->Fr w g (inT F0 l x) tmps
 | [],_,F0,_,h0=>h0
 | [(n,t)],x,F0,h,h0=>by
  simp only[Znx]at h;have hv:=hF n;split at h
  ·rename_i t' y hy;rw[hy]at hv;simp only[inT];exact h0.upd (Zlz h hv)
  grind
 | (n,t)::p::l,x,F0,h,h0=>by
  simp only[Znx]at h;have hv:=hF n;split at h
  ·rename_i t' y hy;rw[hy]at hv
   cases hc:Zay t' t y with
   |none=>grind
   |some z=>
    rw[hc]at h;simp only[Vd]at h
    cases hr:Znx F (p::l) with
    |none=>grind
    |some u=>
     rw[hr]at h;simp only[Vd,Option.some.injEq]at h;subst h;simp only[inT];exact Zmu hF (p::l) u _ hr (h0.upd (Zlz hc hv))
  grind
theorem Zjq(hm:P.follows .mixedOrders=true)(hT:Zah P E)(hS:ZaU P E B){s:AS}{w:World}{g:Gh}{ow:Nat->Nat->Prop}{a:Act}(hs:SR E B s w g ow a){id:Nat}{draw:Bool}{outs:Option (List (Nat×Ty))}{ρ:Type}{k:AS->Option ρ}{r:ρ}
  (h:Zh8 E ops draw outs ρ s k=some r): (Code.region id ops draw).wp P (fun e a' w' => ∃s' g' ow',e= .normal/\SR E B s' w' g' ow' a' /\Ln E s w g a s' w' g' a' /\k s' =some r) a w:=by
 have hnx: ∀ (g' :Gh) (id:Nat),(id<s.nx\/ ∃j,j<ops.size/\s.nx+j*E.stp<=id/\id<s.nx+j*E.stp+E.stp)->id<s.nx+ops.size*E.stp:=by
  intro g' id h;rcases h with h| ⟨j,h1,h2,h3⟩
  ·omega
  ·exact ZiS h1 h3
 unfold Zh8 at h
 cases outs with
 |none=>
  simp only at h;obtain⟨F',H',tr',hae,hk⟩:=Zdp h
  cases hd: (!draw||Zfa ops tr') with
  |false=>grind
  |true=>
   rw[hd]at hk;simp only[cond_true]at hk;refine Zej (U:=fun _=>False) hm hT hS ⟨hs.rh,hs.fr,hs.nt,hs.df,fun id hid=> .inl (.inl (hs.ids id hid))⟩ (fun _ h=>h.elim) hae hd fun a' w' g' ow' hI hl=>⟨⟨F',H',s.nx+ops.size*E.stp,s.fz⟩,g',ow',rfl,⟨hI.rh,hI.fr,hI.nt,hI.df,fun id hid=>hnx g' id ((hI.ids id hid).imp (fun h=>h.resolve_right fun h=>h) fun h=>h),fun id hid=> ?_⟩,⟨hl.toLk,rfl,fun id hid=>hae.keptH id hid⟩,hk⟩
   exact(Zdh (hae.keptH id hid)).trans (hs.fz id hid)
 |some l=>
  simp only at h;rw[Option.bind_eq_some_iff]at h;obtain⟨x,hx,hk⟩:=h;obtain⟨F',H',tr',hae,hx⟩:=Zdp hx
  cases hd: ((!draw||Zfa ops tr') &&tr'.all (fun t=>t.wr.isEmpty)) with
  |false=>grind
  |true=>
   rw[hd]at hx;simp only[cond_true]at hx;simp only[Vh]at hd;have hst:H' =s.H:=hae.still (by grind);subst hst;refine Zej (U:=fun _=>False) hm hT hS ⟨hs.rh,hs.fr,hs.nt,hs.df,fun id hid=> .inl (.inl (hs.ids id hid))⟩ (fun _ h=>h.elim) hae hd.1 fun a' w' g' ow' hI hl=>⟨⟨inT (Zna (ZiA ops.toList) s.F) l x,s.H,s.nx+ops.size*E.stp,s.fz⟩,g',ow',rfl,⟨hI.rh, ?_,hI.nt,hI.df,fun id hid=>hnx g' id ((hI.ids id hid).imp (fun h=>h.resolve_right fun h=>h) fun h=>h),hs.fz⟩,⟨hl.toLk,rfl,by simp⟩,hk⟩;refine Zmu hI.fr l x _ hx fun t=> ?_;unfold Zna
   cases hb:ZcA t (ZiA ops.toList) with
   |true=>exact Zcr
   |false=>
    simp only[cond_false]
    have:F' t=s.F t:=hae.slots t fun p hp hpt=>by
     have:t∈ZiA ops.toList:=by rw[List.mem_zipIdx_iff_getElem?]at hp;exact Vg.2 (by grind)
     rw[ZaI.2 this]at hb;grind
    rw[<-this];exact hI.fr t
def PRs(w:World)(I:Nat->Prop)(tmps:Array Value): (l:List (Nat×Pat))->ElR l->List Nat->Prop
 | [],_,js=>js=[]
 | [(n,p)],x,js=>PV w I p x js (tmps.getD n undef)
 | (n,p)::q::l,x,js=> ∃j1 j2,js=j1++j2/\PV w I p x.1 j1 (tmps.getD n undef)/\PRs w I tmps (q::l) x.2 j2
theorem ZkS{H:AH}{w:World}{g:Gh}{ow:Nat->Nat->Prop}{I:Nat->Prop}(hR:RH B H w g ow)(hI: ∀b,g.I b->I b){p:Pat}{v:AV}{val:Value}{x:ElP p}{ids:Ids}{l l' :List Nat}(h: (ext p v).run H l=some ((x,ids),l'))(hv:VR w g v val)
  (hO: ∀b,Zav H ow ids.br b->I b) (hn:ids.tk.Nodup): ∃js,PV w I p x js val/\js.Nodup/\ ∀b∈js,Zav H ow ids.tk b:=by
 by_cases hp:p= .any
 ·subst hp;simp only[ext,Zab,Vc]at h;obtain⟨⟨_,rfl⟩,_⟩:=h;exact⟨[],⟨rfl, .inl rfl⟩, .nil,by simp⟩
 ·obtain⟨hj,ha⟩:=Zk7 h hp
  have hnt: ∀m,v≠ .tup m:=by
   rintro m rfl
   cases p with
   |any=>grind
   |pd t=>cases t<;>simp [ext,ZaD,Zai,Zaa]at h
   |own t k=>simp [ext,Zbe,Zai,Zaa]at h
   |var t p=>simp [ext,Zaa]at h
   |ro t=>simp [ext,Zaa]at h
   |map k t=>simp [ext,Zaa]at h
   |rows t k=>simp [ext,Zb5,Zai,Zaa]at h
   |mrows k t=>simp [ext,Zaa]at h
   |it k t=>simp [ext,Zaa]at h
   |bld T e k=>simp [ext,Zaa]at h
   |agg l=>simp [ext,Zaa]at h
   |fn f l=>simp [ext,Zaa]at h
   |nilr=>simp [ext,Zaa]at h
   |nils=>simp [ext,Zaa]at h
  have h1:=hv.to1 hnt;obtain⟨js,h2,h3,h4⟩:=Zc3 hR hI p v val.cells.toList x ids l l' h h1.1 hO hn;exact⟨js,⟨h2, .inr (by rw[<-ha];exact h1.2.resolve_left hj)⟩,h3,h4⟩
theorem ZkW{H:AH}{w:World}{g:Gh}{ow:Nat->Nat->Prop}{I:Nat->Prop}{F:Nat->AV}{tmps:Array Value}(hR:RH B H w g ow)(hI: ∀b,g.I b->I b)(hF:Fr w g F tmps): ∀ (l:List (Nat×Pat)) (x:ElR l) (ids:Ids) (k k' :List Nat),
  (Zm9 F l).run H k=some ((x,ids),k')->(∀b,Zav H ow ids.br b->I b)->ids.tk.Nodup-> ∃js,PRs w I tmps l x js/\js.Nodup/\ ∀b∈js,Zav H ow ids.tk b
 | [],x,ids,k,k',h,hO,_=>by
  simp only[Zm9,Zab,Vc]at h;obtain⟨⟨_,rfl⟩,_⟩:=h
  exact⟨[],rfl, .nil,by simp⟩
 | [(n,p)],x,ids,k,k',h,hO,hn=>by
  simp only[Zm9]at h
  exact ZkS hR hI h (hF n) hO hn
 | (n,p)::q::l,x,ids,k,k',h,hO,hn=>by
  simp only[Zm9,Zai,Zab,Vc]at h;obtain⟨⟨x1,i1⟩,m1,h1,⟨x2,i2⟩,m2,h2,⟨rfl,rfl⟩,_⟩:=h;have hn' : (i1.tk++i2.tk).Nodup:=hn;obtain⟨n1,n2,n3⟩:=Va.1 hn';obtain⟨j1,h5,h6,h7⟩:=ZkS hR hI h1 (hF n) (fun b hb=>hO b (Zaw (fun _ h=>by simp [Ids.app,h]) hb)) n1;obtain⟨j2,h8,h9,h10⟩:=ZkW hR hI hF (q::l) x2 i2 _ _ h2 (fun b hb=>hO b (Zaw (fun _ h=>by simp [Ids.app,h]) hb)) n2;refine⟨j1++j2,⟨j1,j2,rfl,h5,h8⟩,Va.2 ⟨h6,h9,fun b hb b' hb' e=> ?_⟩,fun b hb=> ?_⟩
  ·subst e;obtain⟨id,h11,h12⟩:=ZbF hR (h7 b hb) (h10 b hb')
   grind
  ·rcases Vj.1 hb with hb|hb
   ·exact Zaw (fun _ h=>by simp [Ids.app,h]) (h7 b hb)
   ·exact Zaw (fun _ h=>by simp [Ids.app,h]) (h10 b hb)
theorem ZdS: ∀ (l:List (Nat×Pat)) (x:ElR l) (n:Nat),n<=(Zdv l x n).2.2/\ ∀o∈(Zdv l x n).2.1,n<=o.1/\o.1< (Zdv l x n).2.2
 | [],_,n=>⟨Nat.le_refl _,by simp [Zdv]⟩
 | [(m,p)],x,n=>Zbm p x n
 | (m,p)::q::l,x,n=>by
  obtain⟨h1,h2⟩:=Zbm p x.1 n;obtain⟨h3,h4⟩:=ZdS (q::l) x.2 (inj p x.1 n).2.2;refine⟨by simp only[Zdv];omega,fun o ho=> ?_⟩;simp only[Zdv,Vj]at ho ⊢
  grind
mutual
theorem ZdQ: ∀ (p:Pat) (x:ElP p) (n:Nat),((inj p x n).2.1.map Vf).Nodup
 | .pd _,_,n=>by simp [inj]
 | .own _ _,_,n=>by simp [inj]
 | .var t p,x,n=>by
  simp only[inj,Ve,Vk];refine⟨fun h=> ?_,ZdQ p x (n+1)⟩;obtain⟨o,ho,h1⟩:=Vb.1 h
  have:=((Zbm p x (n+1)).2 o ho).1;omega
 | .ro _,_,n=>by simp [inj]
 | .map _ _,_,n=>by simp [inj]
 | .rows _ _,_,n=>by simp [inj]
 | .mrows _ _,_,n=>by simp [inj]
 | .it _ _,_,n=>by simp [inj]
 | .bld _ _ _,_,n=>by simp [inj]
 | .agg l,x,n=>by simpa only[inj] using ZcD l x n
 | .fn f l,x,n=>by simpa only[inj] using ZcD l x n
 | .nilr,_,n=>by simp [inj]
 | .nils,_,n=>by simp [inj]
 | .any,_,n=>by simp [inj]
theorem ZcD: ∀ (l:ZaS) (x:Zce l) (n:Nat),((Zbj l x n).2.1.map Vf).Nodup
 | .nil,_,n=>by simp [Zbj]
 | .cons p l,x,n=>by simp only[Zbj,Vl,Va];refine⟨ZdQ p x.1 n,ZcD l x.2 _,fun i hi j hj e=> ?_⟩;obtain⟨o,ho,rfl⟩:=Vb.1 hi;obtain⟨u,hu,rfl⟩:=Vb.1 hj;have h1:=((Zbm p x.1 n).2 o ho).2;have h2:=((ZcO l x.2 _).2 u hu).1;omega
end
theorem ZfU: ∀ (l:List (Nat×Pat)) (x:ElR l) (n:Nat),((Zdv l x n).2.1.map Vf).Nodup
 | [],_,n=>by simp [Zdv]
 | [(m,p)],x,n=>by simpa only[Zdv] using ZdQ p x n
 | (m,p)::q::l,x,n=>by simp only[Zdv,Vl,Va];refine⟨ZdQ p x.1 n,ZfU (q::l) x.2 _,fun i hi j hj e=> ?_⟩;obtain⟨o,ho,rfl⟩:=Vb.1 hi;obtain⟨u,hu,rfl⟩:=Vb.1 hj;have h1:=((Zbm p x.1 n).2 o ho).2;have h2:=((ZdS (q::l) x.2 _).2 u hu).1;omega
theorem ZcT: ∀ (l:List (Nat×Zcv)) (H:AH) (id:Nat),(l.map Vf).Nodup->Zad H (Zbg l) id=match Zbw l id with|some o=>some o|none=>H id
 | [],H,id,_=>rfl
 |p::l,H,id,hn=>by
  simp only[Ve,Vk]at hn;have hs:Zbg (p::l)=(p.1,some p.2)::Zbg l:=rfl;rw[hs];simp only[Zad];rw[ZcT l _ id hn.2];simp only[Zbw]
  cases hb:Vm id p.1 with
  |true=>
   have:=Nat.eq_of_beq_eq_true hb;subst this
   have hl:Zbw l p.1=none:=by
    have key: ∀l:List (Nat×Zcv),p.1 ∉ l.map Vf->Zbw l p.1=none:=by
     intro l
     induction l with
     |nil=>intro _;rfl
     |cons q l ih=>
      intro h;simp only[Ve,Vn,not_or]at h;simp only[Zbw]
      have:Vm p.1 q.1=false:=by
       cases hb:Vm p.1 q.1
       all_goals simp_all
      grind
    grind
   rw[hl];simp [ZaL]
  |false=>
   have hne:id≠p.1:=fun e=>by simp_all
   simp only[cond_false]
   cases Zbw l id with
   |some o=>rfl
   |none=>exact Zap hne
theorem Zms{w:World}{p:Pat}{H:AH}{g:Gh}{ow:Nat->Nat->Prop}(hR:RH B H w g ow){x:ElP p}{js:List Nat}{v:Value}{n:Nat}(h:PV w g.I p x js v)(hf:Zer B H w g ow js)(hk: ∀id,n<=id->id< (inj p x n).2.2-> ¬g.K id):
  ZeC B H w g ow js n (inj p x n).2.2 (Zad H (Zbg (inj p x n).2.1)) fun g' =>VR1 w g' (inj p x n).1 v:=by
 obtain⟨h1,ha⟩:=h;obtain⟨g1,ow1,l1,i1,r1,d1,k1,o1⟩:=ZhM p hR x js v.cells.toList n h1 hf hk;refine⟨g1,ow1,l1,i1,r1,⟨d1, ?_⟩,k1,o1⟩;by_cases hp:p= .any
 ·subst hp;exact .inl rfl
 ·rw[ZkY p x n hp];grind
theorem Zlc{w:World}{tmps:Array Value} : ∀ (l:List (Nat×Pat)) {H:AH}{g:Gh}{ow:Nat->Nat->Prop} (_:RH B H w g ow) (x:ElR l) (js:List Nat) (n:Nat),PRs w g.I tmps l x js->Zer B H w g ow js->(∀id,n<=id->id< (Zdv l x n).2.2-> ¬g.K id)->
  ZeC B H w g ow js n (Zdv l x n).2.2 (Zad H (Zbg (Zdv l x n).2.1)) fun g' => ∀q∈(Zdv l x n).1,VR1 w g' q.2 (tmps.getD q.1 undef)
 | [],H,g,ow,hR,x,js,n,h,_,_=>by
  obtain rfl:=h
  exact ZeC.none hR n (by simp [Zdv])
 | [(m,p)],H,g,ow,hR,x,js,n,h,hf,hk=>by
  obtain⟨g1,ow1,l1,i1,r1,d1,k1,o1⟩:=Zms hR h hf (by assumption);refine⟨g1,ow1,l1,i1,r1,fun q hq=> ?_,k1,o1⟩;simp only[Zdv,List.mem_singleton]at hq
  grind
 | (m,p)::q::l,H,g,ow,hR,x,js,n,h,hf,hk=>by
  obtain⟨j1,j2,rfl,h1,h2⟩:=h;have n1:=(Zbm p x.1 n).1;have n2:=(ZdS (q::l) x.2 (inj p x.1 n).2.2).1;have hk' : ∀id,n<=id->id< (Zdv (q::l) x.2 (inj p x.1 n).2.2).2.2-> ¬g.K id:=by assumption
  obtain⟨g1,ow1,l1,i1,r1,d1,k1,o1⟩:=Zms hR h1 (hf.sub (List.sublist_append_left _ _)) fun id h h' =>hk' id h (by omega);obtain⟨g2,ow2,l2,i2,r2,d2,k2,o2⟩:=Zlc (q::l) r1 x.2 j2 (inj p x.1 n).2.2 (by rw[i1.I];omega) (hf.after i1.I o1) (by grind)
  have hH:Zad H (Zbg (Zdv ((m,p)::q::l) x n).2.1)=Zad (Zad H (Zbg (inj p x.1 n).2.1)) (Zbg (Zdv (q::l) x.2 (inj p x.1 n).2.2).2.1):=by rw[<-Zaq];simp [Zdv,Zbg]
  rw[hH];simp only[Zdv];refine⟨g2,ow2,l1.trans l2,i2.after i1 l1,r2,fun u hu=> ?_,by grind,by grind⟩
  ·rcases Vn.1 hu with rfl|hu
   ·exact d1.mono (fun _ _=>rfl) l2
   grind
  all_goals grind
end
end Tr
