/- States of the abstract machine at regions, loops and joins. Conditions: the table of types is the program's, the specs are true. -/
import Derived.Test.YtdpenljjnfmgiaaGreatTsA
open Bool renaming and_eq_true ->Vh
open List renaming nodup_append ->Va,mem_map ->Vb,map_cons ->Ve,mem_filterMap ->Vg,all_eq_true ->Vi,mem_append ->Vj,nodup_cons ->Vk,map_append ->Vl,mem_cons ->Vn
open Nat renaming beq ->Vm
open Option renaming bind_some ->Vd
open Prod renaming fst ->Vf
open Prod.mk renaming injEq ->Vc
namespace Tr
open Go
structure SR (E:Env) (B:Zbr) (s:AS) (w:World) (g:Gh) (ow:Nat->Nat->Prop) (a:Act):Prop where
 rh:RH B s.H w g ow
 fr:Fr w g s.F a.tmps
 nt:a.tmps.size=E.nt
 df:a.defers=[]
 ids: ∀id,g.K id->id<s.nx
 fz: ∀id∈s.fz,Zih s.H id=true
structure Ln (E:Env) (s:AS) (w:World) (g:Gh) (a:Act) (s' :AS) (w' :World) (g' :Gh) (a' :Act):Prop where
 lk:Lk E w g a w' g' a'
 fz:s'.fz=s.fz
 hz: ∀id∈s.fz,s'.H id=s.H id
section
variable {P:Program}{E:Env}{B:Zbr}{ops:Array Oper}{base:Nat}{fz:List Nat}
theorem Ln.refl(s:AS)(w:World)(g:Gh)(a:Act):Ln E s w g a s w g a:=⟨.refl w g a,rfl,by simp⟩
theorem Ln.trans{s s1 s2:AS}{w w1 w2:World}{g g1 g2:Gh}{a a1 a2:Act}(h:Ln E s w g a s1 w1 g1 a1)(k:Ln E s1 w1 g1 a1 s2 w2 g2 a2):Ln E s w g a s2 w2 g2 a2:=
 ⟨h.lk.trans k.lk,k.fz.trans h.fz,fun id hid=>(k.hz id (h.fz▸hid)).trans (h.hz id hid)⟩
theorem ZdX{H H' :AH}{id:Nat}(h:H' id=H id):Zih H' id=Zih H id:=by unfold Zih;rw[h]
theorem ZpH{i:Nat}{o:Oper}{F F1:Nat->AV}{H H1:AH}{t:Option Trc}(h:ZcS E ops base fz i o F H=some (F1,H1,t)): ∀id∈fz,H1 id=H id:=by
 unfold ZcS at h;split at h
 ·grind
 ·grind
 ·split at h
  ·cases hr: (aop E (base+i*E.stp) o.op o.type (aev F)).run H [] with
   |none=>grind
   |some y=>
    rw[hr]at h;simp only[Vd]at h;split at h
    ·rename_i hj;simp only[Option.some.injEq,Vc]at h;obtain⟨_,rfl,_⟩:=h;intro id hid;refine ZdQ fun p hp e=> ?_;exact ZbW.1 hj p.1 (by grind) (e▸hid)
    grind
  grind
theorem AE.keptH{l:List (Oper×Nat)}{F F' :Nat->AV}{H H' :AH}{tr tr' :List Trc}(h:AE E ops base fz l F H tr F' H' tr'): ∀id∈fz,H' id=H id:=by
 induction h with
 |nil=>simp
 |cons h h' ih=>exact fun id hid=>(ih id hid).trans (ZpH h id hid)
theorem AE.slots{l:List (Oper×Nat)}{F F' :Nat->AV}{H H' :AH}{tr tr' :List Trc}(h:AE E ops base fz l F H tr F' H' tr'): ∀k,(∀p∈l,p.1.dst≠some k)->F' k=F k:=by
 induction h with
 |nil=>simp
 |cons h h' ih=>
  intro k hk;obtain⟨v,pa,s,_⟩:=Ze1 h;rw[ih k (by grind),s.F,Zdu fun e he hke=>(by simp_all)]
theorem AE.traces{l:List (Oper×Nat)}{F F' :Nat->AV}{H H' :AH}{tr tr' :List Trc}(h:AE E ops base fz l F H tr F' H' tr'): ∀u∈tr,u∈tr' :=by
 induction h with
 |nil=>simp
 |cons h h' ih=>grind
theorem AE.still{l:List (Oper×Nat)}{F F' :Nat->AV}{H H' :AH}{tr tr' :List Trc}(h:AE E ops base fz l F H tr F' H' tr'): (∀u∈tr',u.wr=[])->H' =H:=by
 induction h with
 |nil=>simp
 | @cons o i rest F H tr F1 H1 t F' H' tr' h h' ih=>
  intro hu;obtain⟨v,pa,s,_⟩:=Ze1 h
  have:pa=[]:=by
   cases pa with
   |nil=>rfl
   |cons p pa=>
    obtain⟨u,hu',hw⟩:=s.wr p (by simp);have:=hu u (h'.traces u (by grind))
    grind
  rw[ih hu,s.H,this];rfl
theorem ZjP:ops.toList.zipIdx.map Prod.snd=List.range ops.size:=by
 refine List.ext_getElem? fun i=> ?_
 grind
theorem Zfl(hm:P.follows .mixedOrders=true)(hT:Zah P E)(hS:Zbg P E B){nx:Nat}{fz:List Nat}{F:Nat->AV}{H:AH}{U:Nat->Prop}{w:World}{g:Gh}{ow:Nat->Nat->Prop}{a:Act}(hs:RI E B nx U F H w a g ow fun _=>False)(hU: ∀id,U id->nx+ops.size*E.stp<=id){id:Nat}{draw:Bool}{F' :Nat->AV}{H' :AH}{tr' :List Trc}
  (h:AE E ops nx fz ops.toList.zipIdx F H [] F' H' tr') (hd: (!draw||Zgz ops tr')=true) {Q:Exit->Act->World->Prop}
  (hQ: ∀a' w' g' ow',RI E B nx U F' H' w' a' g' ow' (fun j=>j<ops.size)->Lb E nx (nx+ops.size*E.stp) w g a w' g' a' ->Q .normal a' w'): (Code.region id ops draw).wp P Q a w:=by
 have hex:=h.ex (by rw[ZjP];grind) (by grind) (fun _ _=>rfl);rw[ZjP]at hex
 cases draw with
 |false=>
  refine wp_region (ZhA hT hS hex List.nodup_range (L:=fun _=>False) (by simp) hU hs fun a' w' g' ow' hI hl=>hQ a' w' g' ow' ⟨hI.rh,hI.fr,hI.nt,hI.df,fun id hid=> ?_⟩ hl)
  exact(hI.ids id hid).imp (fun h=>h) fun⟨j,h1,h2⟩=>by simp_all
 |true=>
  simp only[Bool.not_true,Bool.false_or,Zgz,Vh,Bool.or_eq_true]at hd;obtain⟨⟨hed,hso⟩,htr⟩:=hd;have hw:ZaM w {w with drawn:=w.drawn+1} :=⟨rfl,rfl,rfl,⟨rfl,by simp⟩⟩
  have hun: ∀i j,i<j->j<ops.size->((Region.before ops).getD j 0).testBit i=false->(i,j)∈Zn2 ops:=by
   intro i j hij hj hb;simp only[Zn2,List.mem_flatMap,List.mem_range,Vg]
   grind
  refine wp_region_any hm (ZoJ hT hS hed (T:=fun i=>ZdH i tr') (fun i j hij hj hb=> ?_) ops.size hex (by simp) (List.pairwise_lt_range) (by simp) (fun i hi=> ?_) (by simp) (fun i o ho hl=> ?_) (L:=fun _=>False) (by simp) hU
   ⟨hs.rh.same hw,hs.fr.mono (hw.agree _) (.refl g),hs.nt,hs.df,hs.ids⟩ fun a' w' g' ow' hI hl=>hQ a' w' g' ow' ⟨hI.rh,hI.fr,hI.nt,hI.df,fun id hid=> ?_⟩ ⟨⟨hl.le,hl.ag,hl.ks⟩,hl.nw⟩)
  ·intro oa ob hoa hob;have hmem:=hun i j hij hj hb;refine⟨?_,fun u v hu hv=> ?_⟩
   ·have:=Vi.1 hso (i,j) hmem
    grind
   ·rcases htr with htr|htr
    ·have hu1:u.wr=[]:=by
      have hmu:u∈tr' :=by
       clear hmem hun hex h htr hv hso hed
       induction tr' with
       |nil=>simp [ZdH]at hu
       |cons t l ih=>
        simp only[ZdH]at hu
        grind
      grind
     have hv1:v.wr=[]:=by
      have hmv:v∈tr' :=by
       clear hmem hun hex h htr hu hso hed
       induction tr' with
       |nil=>simp [ZdH]at hv
       |cons t l ih=>
        simp only[ZdH]at hv
        grind
      grind
     rw[hu1,hv1];exact⟨rfl,rfl,rfl⟩
    ·have:=Vi.1 htr (i,j) hmem;simp only[Zkk]at this
     grind
  ·simp_all
  ·exfalso;have:i<ops.size:=by grind
   simp_all
  ·exact(hI.ids id hid).imp (fun h=>h) fun⟨j,h1,h2⟩=>by simp_all
theorem ZnJ{w:World}{g:Gh}{t t' :Ty}{y:El t'}{x:El t}{v:Value}(h:ZaE t' t y=some x)(hv:VR w g (.d t' y) v):VR w g (.d t x) v:=by obtain⟨rfl,rfl⟩:=Zan h;omega
theorem Fr.upd{w:World}{g:Gh}{F:Nat->AV}{tmps:Array Value}{n:Nat}{v:AV}(h:Fr w g F tmps)(hv:VR w g v (tmps.getD n undef)):Fr w g (Zig F n v) tmps:=by
 intro t;unfold Zig
 cases hb:Vm t n with
 |true=>simp_all
 |false=>exact h t
theorem Zo0{w:World}{g:Gh}{F:Nat->AV}{tmps:Array Value}(hF:Fr w g F tmps): ∀ (l:List (Nat×Ty)) (x:ElT l) (F0:Nat->AV),Zqe F l=some x->Fr w g F0 tmps->Fr w g (inT F0 l x) tmps
 | [],_,F0,_,h0=>h0
 | [(n,t)],x,F0,h,h0=>by
  simp only[Zqe]at h;have hv:=hF n;split at h
  ·rename_i t' y hy;rw[hy]at hv;simp only[inT];exact h0.upd (ZnJ h hv)
  grind
 | (n,t)::p::l,x,F0,h,h0=>by
  simp only[Zqe]at h;have hv:=hF n;split at h
  ·rename_i t' y hy;rw[hy]at hv
   cases hc:ZaE t' t y with
   |none=>grind
   |some z=>
    rw[hc]at h;simp only[Vd]at h
    cases hr:Zqe F (p::l) with
    |none=>grind
    |some u=>
     rw[hr]at h;simp only[Vd,Option.some.injEq]at h;subst h;simp only[inT];exact Zo0 hF (p::l) u _ hr (h0.upd (ZnJ hc hv))
  grind
theorem ZlO(hm:P.follows .mixedOrders=true)(hT:Zah P E)(hS:Zbg P E B){s:AS}{w:World}{g:Gh}{ow:Nat->Nat->Prop}{a:Act}(hs:SR E B s w g ow a){id:Nat}{draw:Bool}{outs:Option (List (Nat×Ty))}{ρ:Type}{k:AS->Option ρ}{r:ρ}
  (h:ZjB E ops draw outs ρ s k=some r): (Code.region id ops draw).wp P (fun e a' w' => ∃s' g' ow',e= .normal/\SR E B s' w' g' ow' a' /\Ln E s w g a s' w' g' a' /\k s' =some r) a w:=by
 have hnx: ∀ (g' :Gh) (id:Nat),(id<s.nx\/ ∃j,j<ops.size/\s.nx+j*E.stp<=id/\id<s.nx+j*E.stp+E.stp)->id<s.nx+ops.size*E.stp:=by
  intro g' id h;rcases h with h| ⟨j,h1,h2,h3⟩
  ·omega
  ·exact ZkU h1 h3
 unfold ZjB at h
 cases outs with
 |none=>
  simp only at h;obtain⟨F',H',tr',hae,hk⟩:=Zd3 h
  cases hd: (!draw||Zgz ops tr') with
  |false=>grind
  |true=>
   rw[hd]at hk;simp only[cond_true]at hk;refine Zfl (U:=fun _=>False) hm hT hS ⟨hs.rh,hs.fr,hs.nt,hs.df,fun id hid=> .inl (.inl (hs.ids id hid))⟩ (fun _ h=>h.elim) hae hd fun a' w' g' ow' hI hl=>⟨⟨F',H',s.nx+ops.size*E.stp,s.fz⟩,g',ow',rfl,⟨hI.rh,hI.fr,hI.nt,hI.df,fun id hid=>hnx g' id ((hI.ids id hid).imp (fun h=>h.resolve_right fun h=>h) fun h=>h),fun id hid=> ?_⟩,⟨hl.toLk,rfl,fun id hid=>hae.keptH id hid⟩,hk⟩
   exact(ZdX (hae.keptH id hid)).trans (hs.fz id hid)
 |some l=>
  simp only at h;rw[Option.bind_eq_some_iff]at h;obtain⟨x,hx,hk⟩:=h;obtain⟨F',H',tr',hae,hx⟩:=Zd3 hx
  cases hd: ((!draw||Zgz ops tr') &&tr'.all (fun t=>t.wr.isEmpty)) with
  |false=>grind
  |true=>
   rw[hd]at hx;simp only[cond_true]at hx;simp only[Vh]at hd;have hst:H' =s.H:=hae.still (by grind);subst hst;refine Zfl (U:=fun _=>False) hm hT hS ⟨hs.rh,hs.fr,hs.nt,hs.df,fun id hid=> .inl (.inl (hs.ids id hid))⟩ (fun _ h=>h.elim) hae hd.1 fun a' w' g' ow' hI hl=>⟨⟨inT (Zpx (ZkB ops.toList) s.F) l x,s.H,s.nx+ops.size*E.stp,s.fz⟩,g',ow',rfl,⟨hI.rh, ?_,hI.nt,hI.df,fun id hid=>hnx g' id ((hI.ids id hid).imp (fun h=>h.resolve_right fun h=>h) fun h=>h),hs.fz⟩,⟨hl.toLk,rfl,by simp⟩,hk⟩;refine Zo0 hI.fr l x _ hx fun t=> ?_;unfold Zpx
   cases hb:Zdb t (ZkB ops.toList) with
   |true=>exact Zdj
   |false=>
    simp only[cond_false]
    have:F' t=s.F t:=hae.slots t fun p hp hpt=>by
     have:t∈ZkB ops.toList:=by rw[List.mem_zipIdx_iff_getElem?]at hp;exact Vg.2 (by grind)
     rw[ZaQ.2 this]at hb;grind
    rw[<-this];exact hI.fr t
def PRs(w:World)(I:Nat->Prop)(tmps:Array Value): (l:List (Nat×Pat))->ElR l->List Nat->Prop
 | [],_,js=>js=[]
 | [(n,p)],x,js=>PV w I p x js (tmps.getD n undef)
 | (n,p)::q::l,x,js=> ∃j1 j2,js=j1++j2/\PV w I p x.1 j1 (tmps.getD n undef)/\PRs w I tmps (q::l) x.2 j2
theorem Zm6{H:AH}{w:World}{g:Gh}{ow:Nat->Nat->Prop}{I:Nat->Prop}(hR:RH B H w g ow)(hI: ∀b,g.I b->I b){p:Pat}{v:AV}{val:Value}{x:ElP p}{ids:Ids}{l l' :List Nat}(h: (ext p v).run H l=some ((x,ids),l'))(hv:VR w g v val)
  (hO: ∀b,ZaC H ow ids.br b->I b) (hn:ids.tk.Nodup): ∃js,PV w I p x js val/\js.Nodup/\ ∀b∈js,ZaC H ow ids.tk b:=by
 by_cases hp:p= .any
 ·subst hp;simp only[ext,Zab,Vc]at h;obtain⟨⟨_,rfl⟩,_⟩:=h;exact⟨[],⟨rfl, .inl rfl⟩, .nil,by simp⟩
 ·obtain⟨hj,ha⟩:=Zmz h hp
  have hnt: ∀m,v≠ .tup m:=by
   rintro m rfl
   cases p with
   |any=>grind
   |pd t=>cases t<;>simp [ext,ZaJ,Zaj,Zaa]at h
   |own t k=>simp [ext,Zbq,Zaj,Zaa]at h
   |var t p=>simp [ext,Zaa]at h
   |ro t=>simp [ext,Zaa]at h
   |map k t=>simp [ext,Zaa]at h
   |rows t k=>simp [ext,Zck,Zaj,Zaa]at h
   |mrows k t=>simp [ext,Zaa]at h
   |it k t=>simp [ext,Zaa]at h
   |bld T e k=>simp [ext,Zaa]at h
   |agg l=>simp [ext,Zaa]at h
   |fn f l=>simp [ext,Zaa]at h
   |nilr=>simp [ext,Zaa]at h
   |nils=>simp [ext,Zaa]at h
  have h1:=hv.to1 hnt;obtain⟨js,h2,h3,h4⟩:=ZdL hR hI p v val.cells.toList x ids l l' h h1.1 hO hn;exact⟨js,⟨h2, .inr (by rw[<-ha];exact h1.2.resolve_left hj)⟩,h3,h4⟩
theorem Zmp{H:AH}{w:World}{g:Gh}{ow:Nat->Nat->Prop}{I:Nat->Prop}{F:Nat->AV}{tmps:Array Value}(hR:RH B H w g ow)(hI: ∀b,g.I b->I b)(hF:Fr w g F tmps): ∀ (l:List (Nat×Pat)) (x:ElR l) (ids:Ids) (k k' :List Nat),
  (Zpm F l).run H k=some ((x,ids),k')->(∀b,ZaC H ow ids.br b->I b)->ids.tk.Nodup-> ∃js,PRs w I tmps l x js/\js.Nodup/\ ∀b∈js,ZaC H ow ids.tk b
 | [],x,ids,k,k',h,hO,_=>by
  simp only[Zpm,Zab,Vc]at h;obtain⟨⟨_,rfl⟩,_⟩:=h
  exact⟨[],rfl, .nil,by simp⟩
 | [(n,p)],x,ids,k,k',h,hO,hn=>by
  simp only[Zpm]at h
  exact Zm6 hR hI h (hF n) hO hn
 | (n,p)::q::l,x,ids,k,k',h,hO,hn=>by
  simp only[Zpm,Zaj,Zab,Vc]at h;obtain⟨⟨x1,i1⟩,m1,h1,⟨x2,i2⟩,m2,h2,⟨rfl,rfl⟩,_⟩:=h;have hn' : (i1.tk++i2.tk).Nodup:=hn;obtain⟨n1,n2,n3⟩:=Va.1 hn';obtain⟨j1,h5,h6,h7⟩:=Zm6 hR hI h1 (hF n) (fun b hb=>hO b (ZaG (fun _ h=>by simp [Ids.app,h]) hb)) n1;obtain⟨j2,h8,h9,h10⟩:=Zmp hR hI hF (q::l) x2 i2 _ _ h2 (fun b hb=>hO b (ZaG (fun _ h=>by simp [Ids.app,h]) hb)) n2;refine⟨j1++j2,⟨j1,j2,rfl,h5,h8⟩,Va.2 ⟨h6,h9,fun b hb b' hb' e=> ?_⟩,fun b hb=> ?_⟩
  ·subst e;obtain⟨id,h11,h12⟩:=Zcn hR (h7 b hb) (h10 b hb')
   grind
  ·rcases Vj.1 hb with hb|hb
   ·exact ZaG (fun _ h=>by simp [Ids.app,h]) (h7 b hb)
   ·exact ZaG (fun _ h=>by simp [Ids.app,h]) (h10 b hb)
theorem ZeE: ∀ (l:List (Nat×Pat)) (x:ElR l) (n:Nat),n<=(Zek l x n).2.2/\ ∀o∈(Zek l x n).2.1,n<=o.1/\o.1< (Zek l x n).2.2
 | [],_,n=>⟨Nat.le_refl _,by simp [Zek]⟩
 | [(m,p)],x,n=>Zbx p x n
 | (m,p)::q::l,x,n=>by
  obtain⟨h1,h2⟩:=Zbx p x.1 n;obtain⟨h3,h4⟩:=ZeE (q::l) x.2 (inj p x.1 n).2.2;refine⟨by simp only[Zek];omega,fun o ho=> ?_⟩;simp only[Zek,Vj]at ho ⊢
  grind
mutual
theorem ZeU: ∀ (p:Pat) (x:ElP p) (n:Nat),((inj p x n).2.1.map Vf).Nodup
 | .pd _,_,n=>by simp [inj]
 | .own _ _,_,n=>by simp [inj]
 | .var t p,x,n=>by
  simp only[inj,Ve,Vk];refine⟨fun h=> ?_,ZeU p x (n+1)⟩;obtain⟨o,ho,h1⟩:=Vb.1 h
  have:=((Zbx p x (n+1)).2 o ho).1;omega
 | .ro _,_,n=>by simp [inj]
 | .map _ _,_,n=>by simp [inj]
 | .rows _ _,_,n=>by simp [inj]
 | .mrows _ _,_,n=>by simp [inj]
 | .it _ _,_,n=>by simp [inj]
 | .bld _ _ _,_,n=>by simp [inj]
 | .agg l,x,n=>by simpa only[inj] using Zd7 l x n
 | .fn f l,x,n=>by simpa only[inj] using Zd7 l x n
 | .nilr,_,n=>by simp [inj]
 | .nils,_,n=>by simp [inj]
 | .any,_,n=>by simp [inj]
theorem Zd7: ∀ (l:Za5) (x:ZcJ l) (n:Nat),((Zcz l x n).2.1.map Vf).Nodup
 | .nil,_,n=>by simp [Zcz]
 | .cons p l,x,n=>by simp only[Zcz,Vl,Va];refine⟨ZeU p x.1 n,Zd7 l x.2 _,fun i hi j hj e=> ?_⟩;obtain⟨o,ho,rfl⟩:=Vb.1 hi;obtain⟨u,hu,rfl⟩:=Vb.1 hj;have h1:=((Zbx p x.1 n).2 o ho).2;have h2:=((Zdm l x.2 _).2 u hu).1;omega
end
theorem Zhi: ∀ (l:List (Nat×Pat)) (x:ElR l) (n:Nat),((Zek l x n).2.1.map Vf).Nodup
 | [],_,n=>by simp [Zek]
 | [(m,p)],x,n=>by simpa only[Zek] using ZeU p x n
 | (m,p)::q::l,x,n=>by simp only[Zek,Vl,Va];refine⟨ZeU p x.1 n,Zhi (q::l) x.2 _,fun i hi j hj e=> ?_⟩;obtain⟨o,ho,rfl⟩:=Vb.1 hi;obtain⟨u,hu,rfl⟩:=Vb.1 hj;have h1:=((Zbx p x.1 n).2 o ho).2;have h2:=((ZeE (q::l) x.2 _).2 u hu).1;omega
theorem Zev: ∀ (l:List (Nat×Zc0)) (H:AH) (id:Nat),(l.map Vf).Nodup->Zad H (Zbu l) id=match Zdl l id with|some o=>some o|none=>H id
 | [],H,id,_=>rfl
 |p::l,H,id,hn=>by
  simp only[Ve,Vk]at hn;have hs:Zbu (p::l)=(p.1,some p.2)::Zbu l:=rfl;rw[hs];simp only[Zad];rw[Zev l _ id hn.2];simp only[Zdl]
  cases hb:Vm id p.1 with
  |true=>
   have:=Nat.eq_of_beq_eq_true hb;subst this
   have hl:Zdl l p.1=none:=by
    have key: ∀l:List (Nat×Zc0),p.1 ∉ l.map Vf->Zdl l p.1=none:=by
     intro l
     induction l with
     |nil=>intro _;rfl
     |cons q l ih=>
      intro h;simp only[Ve,Vn,not_or]at h;simp only[Zdl]
      have:Vm p.1 q.1=false:=by
       cases hb:Vm p.1 q.1
       all_goals simp_all
      grind
    grind
   rw[hl];simp [ZaT]
  |false=>
   have hne:id≠p.1:=fun e=>by simp_all
   simp only[cond_false]
   cases Zdl l id with
   |some o=>rfl
   |none=>exact Zat hne
theorem Zpb{w:World}{p:Pat}{H:AH}{g:Gh}{ow:Nat->Nat->Prop}(hR:RH B H w g ow){x:ElP p}{js:List Nat}{v:Value}{n:Nat}(h:PV w g.I p x js v)(hf:ZfC B H w g ow js)(hk: ∀id,n<=id->id< (inj p x n).2.2-> ¬g.K id):
  ZfG B H w g ow js n (inj p x n).2.2 (Zad H (Zbu (inj p x n).2.1)) fun g' =>VR1 w g' (inj p x n).1 v:=by
 obtain⟨h1,ha⟩:=h;obtain⟨g1,ow1,l1,i1,r1,d1,k1,o1⟩:=Zi0 p hR x js v.cells.toList n h1 hf hk;refine⟨g1,ow1,l1,i1,r1,⟨d1, ?_⟩,k1,o1⟩;by_cases hp:p= .any
 ·subst hp;exact .inl rfl
 ·rw[Znc p x n hp];grind
theorem Znq{w:World}{tmps:Array Value} : ∀ (l:List (Nat×Pat)) {H:AH}{g:Gh}{ow:Nat->Nat->Prop} (_:RH B H w g ow) (x:ElR l) (js:List Nat) (n:Nat),PRs w g.I tmps l x js->ZfC B H w g ow js->(∀id,n<=id->id< (Zek l x n).2.2-> ¬g.K id)->
  ZfG B H w g ow js n (Zek l x n).2.2 (Zad H (Zbu (Zek l x n).2.1)) fun g' => ∀q∈(Zek l x n).1,VR1 w g' q.2 (tmps.getD q.1 undef)
 | [],H,g,ow,hR,x,js,n,h,_,_=>by
  obtain rfl:=h
  exact ZfG.none hR n (by simp [Zek])
 | [(m,p)],H,g,ow,hR,x,js,n,h,hf,hk=>by
  obtain⟨g1,ow1,l1,i1,r1,d1,k1,o1⟩:=Zpb hR h hf (by assumption);refine⟨g1,ow1,l1,i1,r1,fun q hq=> ?_,k1,o1⟩;simp only[Zek,List.mem_singleton]at hq
  grind
 | (m,p)::q::l,H,g,ow,hR,x,js,n,h,hf,hk=>by
  obtain⟨j1,j2,rfl,h1,h2⟩:=h;have n1:=(Zbx p x.1 n).1;have n2:=(ZeE (q::l) x.2 (inj p x.1 n).2.2).1;have hk' : ∀id,n<=id->id< (Zek (q::l) x.2 (inj p x.1 n).2.2).2.2-> ¬g.K id:=by assumption
  obtain⟨g1,ow1,l1,i1,r1,d1,k1,o1⟩:=Zpb hR h1 (hf.sub (List.sublist_append_left _ _)) fun id h h' =>hk' id h (by omega);obtain⟨g2,ow2,l2,i2,r2,d2,k2,o2⟩:=Znq (q::l) r1 x.2 j2 (inj p x.1 n).2.2 (by rw[i1.I];omega) (hf.after i1.I o1) (by grind)
  have hH:Zad H (Zbu (Zek ((m,p)::q::l) x n).2.1)=Zad (Zad H (Zbu (inj p x.1 n).2.1)) (Zbu (Zek (q::l) x.2 (inj p x.1 n).2.2).2.1):=by rw[<-Zau];simp [Zek,Zbu]
  rw[hH];simp only[Zek];refine⟨g2,ow2,l1.trans l2,i2.after i1 l1,r2,fun u hu=> ?_,by grind,by grind⟩
  ·rcases Vn.1 hu with rfl|hu
   ·exact d1.mono (fun _ _=>rfl) l2
   grind
  all_goals grind
end
end Tr
