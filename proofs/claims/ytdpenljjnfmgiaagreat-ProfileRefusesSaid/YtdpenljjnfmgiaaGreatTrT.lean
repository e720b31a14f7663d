/- Patterns, read without ids: what a value holds, and which blocks it owns. Conditions: none. -/
import Derived.Test.YtdpenljjnfmgiaaGreatTrS
open Bool renaming and_eq_true ->Ve
open List renaming mem_singleton ->Vc,nodup_append ->Vd,nodup_cons ->Vf,mem_cons ->Vg
open Nat renaming eq_of_beq_eq_true ->Vb
open Prod.mk renaming injEq ->Va
namespace Tr
open Go
def Pat.isAgg:Pat->Bool
 | .pd t=>t.agg
 | .agg _=>true
 |_=>false
mutual
def PC(w:World)(I:Nat->Prop): (p:Pat)->ElP p->List Nat->List Value->Prop
 | .pd t,x,js,cs=>js=[]/\Rd w I t x cs
 | .own t _,x,js,cs=>(js=[]/\x=[]/\cs=[.slice none 0 0])\/
   ∃b cap cells e css,js=[b]/\cs=[.slice (some ⟨b,0,none⟩) x.length cap]/\w.heap[b]? =some (.cells cells e (0,0))/\x.length<=cap/\cap*t.size<=cells.size/\Fa (Rd w I t) x css/\css.flatten<+:cells.toList
 | .var t p,x,js,cs=>p.fits t=true/\ ∃b js' cells e,js=b::js' /\cs=[.pointer (some ⟨b,0,none⟩)]/\w.heap[b]? =some (.cells cells e (0,0))/\cells.size=t.size/\PC w I p x js' cells.toList
 | .ro t,x,js,cs=>js=[]/\ ∃b off c,cs=[.pointer (some ⟨b,off,none⟩)]/\I b/\ZcC w b off c/\Rd w I t x c
 | .map kt vt,x,js,cs=> ∃b es clock,js=[b]/\cs=[.map (some b)]/\w.heap[b]? =some (.map es clock)/\Bn es clock/\Fa (fun kv e=>(Rd w I kt kv.1 e.key.cells.toList/\Zav e.key=kt.agg)/\(Rd w I vt kv.2 e.val.cells.toList/\Zav e.val=vt.agg)) x es.toList
 | .rows t _,x,js,cs=> ∃v,cs=[v]/\ZbL w I (· ∈js) t x v
 | .mrows kt t,x,js,cs=> ∃v,cs=[v]/\ZbH w I (· ∈js) kt t x v
 | .it kt vt,x,js,cs=> ∃b mb es clock since seen,js=[b,mb]/\b≠mb/\cs=[.pointer (some ⟨b,0,none⟩)]/\w.heap[b]? =some (.mapIter (some mb) since seen clock)/\w.heap[mb]? =some (.map es clock)/\
   ((∀x∈es.toList,x.born<since)/\since<=clock/\(es.toList.map (·.born)).Nodup)/\Fa (fun kv e=>(Rd w I kt kv.1 e.key.cells.toList/\Zav e.key=kt.agg)/\(Rd w I vt kv.2 e.val.cells.toList/\Zav e.val=vt.agg)) x (Zfo es seen)
 | .bld T e _,x,js,cs=> ∃b,cs=[.pointer (some ⟨b,0,none⟩)]/\Zm4 w (· ∈js) T e x b
 | .agg l,x,js,cs=>PCs w I l x js cs
 | .fn f l,x,js,cs=> ∃cc:List Value,cs=[.func (.func f) #[] cc.toArray]/\PCs w I l x js cc
 | .nilr,_,js,cs=>js=[]/\(cs=[.pointer none]\/cs=[.nilFunc]\/cs=[.map none])
 | .nils,_,js,cs=>js=[]/\cs=[.slice none 0 0]
 | .any,_,js,_=>js=[]
def PCs(w:World)(I:Nat->Prop): (l:Za5)->ZcJ l->List Nat->List Value->Prop
 | .nil,_,js,cs=>js=[]/\cs=[]
 | .cons p l,x,js,cs=> ∃j1 j2 c1 c2,js=j1++j2/\cs=c1++c2/\PC w I p x.1 j1 c1/\PCs w I l x.2 j2 c2
end
def PV(w:World)(I:Nat->Prop)(p:Pat)(x:ElP p)(js:List Nat)(v:Value):Prop:=PC w I p x js v.cells.toList/\(p= .any\/Zav v=p.isAgg)
def PVs(w:World)(I:Nat->Prop): (l:Za5)->ZcJ l->List Nat->List Value->Prop
 | .nil,_,js,vs=>js=[]/\vs=[]
 | .cons p l,x,js,vs=> ∃j1 j2 v r,js=j1++j2/\vs=v::r/\PV w I p x.1 j1 v/\PVs w I l x.2 j2 r
section
variable {w w' :World}{I I' :Nat->Prop}
mutual
theorem PC.mono(hw:ZaV I w w')(hI: ∀b,I b->I' b): ∀ (p:Pat) (x:ElP p) (js:List Nat) (cs:List Value),(∀b∈js,w'.heap[b]? =w.heap[b]?)->PC w I p x js cs->PC w' I' p x js cs
 | .pd t,x,js,cs,_,h=>⟨h.1,Rd.mono hw hI t x cs h.2⟩
 | .own t k,x,js,cs,hj,h=>by
  simp only[PC]at h ⊢;rcases h with h| ⟨b,cap,cells,e,css,rfl,h1,h2,h3,h4,h5,h6⟩
  ·exact .inl h
  ·exact .inr ⟨b,cap,cells,e,css,rfl,h1,(hj b (by simp)).trans h2,h3,h4,h5.mono fun x c hx=>Rd.mono hw hI t x c hx,h6⟩
 | .var t p,x,js,cs,hj,h=>by
  simp only[PC]at h ⊢;obtain⟨hf,b,js',cells,e,rfl,h1,h2,h3,h4⟩:=h
  exact⟨hf,b,js',cells,e,rfl,h1,(hj b (by simp)).trans h2,h3,PC.mono hw hI p x js' _ (fun b' hb' =>hj b' (by simp [hb'])) h4⟩
 | .ro t,x,js,cs,_,h=>by
  simp only[PC]at h ⊢;obtain⟨hj,b,off,c,h1,h2,h3,h4⟩:=h
  exact⟨hj,b,off,c,h1,hI _ h2,h3.mono (hw _ h2),Rd.mono hw hI t x _ h4⟩
 | .map kt vt,x,js,cs,hj,h=>by
  simp only[PC]at h ⊢;obtain⟨b,es,clock,rfl,h1,h2,hbn,h3⟩:=h
  exact⟨b,es,clock,rfl,h1,(hj b (by simp)).trans h2,hbn,h3.mono fun x e hx=>⟨⟨Rd.mono hw hI kt _ _ hx.1.1,hx.1.2⟩,Rd.mono hw hI vt _ _ hx.2.1,hx.2.2⟩⟩
 | .rows t k,x,js,cs,hj,h=>by
  simp only[PC]at h ⊢;obtain⟨v,h1,h2⟩:=h
  exact⟨v,h1,h2.mono hw hI (fun _ h=>h) hj⟩
 | .it kt vt,x,js,cs,hj,h=>by
  simp only[PC]at h ⊢;obtain⟨b,mb,es,clock,since,seen,rfl,h0,h1,h2,h3,h4,h5⟩:=h
  exact⟨b,mb,es,clock,since,seen,rfl,h0,h1,(hj b (by simp)).trans h2,(hj mb (by simp)).trans h3,h4,h5.mono fun x e hx=>⟨⟨Rd.mono hw hI kt _ _ hx.1.1,hx.1.2⟩,Rd.mono hw hI vt _ _ hx.2.1,hx.2.2⟩⟩
 | .mrows kt t,x,js,cs,hj,h=>by
  simp only[PC]at h ⊢;obtain⟨v,h1,h2⟩:=h
  exact⟨v,h1,h2.mono hw hI (fun _ h=>h) hj⟩
 | .bld T e k,x,js,cs,hj,h=>by
  simp only[PC]at h ⊢;obtain⟨b,h1,h2⟩:=h
  exact⟨b,h1,h2.mono (fun _ h=>h) hj⟩
 | .agg l,x,js,cs,hj,h=>by
  simp only[PC]at h ⊢
  exact PCs.mono hw hI l x js cs hj h
 | .fn f l,x,js,cs,hj,h=>by
  simp only[PC]at h ⊢;obtain⟨cc,h1,h2⟩:=h
  exact⟨cc,h1,PCs.mono hw hI l x js cc hj h2⟩
 | .nilr,_,js,cs,_,h=>by simpa only[PC] using h
 | .nils,_,js,cs,_,h=>by simpa only[PC] using h
 | .any,_,js,cs,_,h=>by simpa only[PC] using h
theorem PCs.mono(hw:ZaV I w w')(hI: ∀b,I b->I' b): ∀ (l:Za5) (x:ZcJ l) (js:List Nat) (cs:List Value),(∀b∈js,w'.heap[b]? =w.heap[b]?)->PCs w I l x js cs->PCs w' I' l x js cs
 | .nil,_,js,cs,_,h=>by simpa only[PCs] using h
 | .cons p l,x,js,cs,hj,h=>by simp only[PCs]at h ⊢;obtain⟨j1,j2,c1,c2,rfl,rfl,h1,h2⟩:=h;exact⟨j1,j2,c1,c2,rfl,rfl,PC.mono hw hI p x.1 j1 c1 (fun b hb=>hj b (by simp [hb])) h1,PCs.mono hw hI l x.2 j2 c2 (fun b hb=>hj b (by simp [hb])) h2⟩
end
theorem PV.mono(hw:ZaV I w w')(hI: ∀b,I b->I' b){p:Pat}{x:ElP p}{js:List Nat}{v:Value}(hj: ∀b∈js,w'.heap[b]? =w.heap[b]?)(h:PV w I p x js v):PV w' I' p x js v:=
 ⟨PC.mono hw hI p x js _ hj h.1,h.2⟩
theorem PVs.mono(hw:ZaV I w w')(hI: ∀b,I b->I' b): ∀ {l:Za5}{x:ZcJ l}{js:List Nat}{vs:List Value},(∀b∈js,w'.heap[b]? =w.heap[b]?)->PVs w I l x js vs->PVs w' I' l x js vs
 | .nil,_,_,_,_,h=>h
 | .cons p l,x,js,vs,hj,h=>by simp only[PVs]at h ⊢;obtain⟨j1,j2,v,r,rfl,rfl,h1,h2⟩:=h;exact⟨j1,j2,v,r,rfl,rfl,h1.mono hw hI (by grind),PVs.mono hw hI (by grind) h2⟩
end
section
variable {B:Zbr}{H:AH}{w:World}{g:Gh}{ow:Nat->Nat->Prop}{F:Nat->AV}{I:Nat->Prop}
theorem Zcn(hR:RH B H w g ow){i j:List Nat}{b:Nat}(h1:ZaC H ow i b)(h2:ZaC H ow j b): ∃id,id∈i/\id∈j:=by
 obtain⟨id,h3,h4,h5⟩:=h1;obtain⟨id',h6,h7,h8⟩:=h2;have:=hR.dist id id' b h4 h7 h5 h8
 grind
theorem ZaG{i j:List Nat}(h: ∀id∈i,id∈j){b:Nat}(hb:ZaC H ow i b):ZaC H ow j b:=
 let ⟨id,h1,h2⟩:=hb;⟨id,h id h1,h2⟩
noncomputable def Zed(w:World)(J:Nat->Prop):List Nat:=(List.range w.heap.size).filter fun b=> @decide (J b) (Classical.propDecidable _)
theorem ZbE{J:Nat->Prop}{b:Nat} :b∈Zed w J↔b<w.heap.size/\J b:=by unfold Zed;simp
theorem ZcY{J:Nat->Prop} : (Zed w J).Nodup:=List.nodup_range.filter _
theorem ZmY(hR:RH B H w g ow){ids:List Nat}{b:Nat}(h:ZaC H ow ids b):b<w.heap.size:=by obtain⟨id,_,h1,h2⟩:=h;exact(hR.sep id b h1 h2).2.1
mutual
theorem ZdL(hR:RH B H w g ow)(hI: ∀b,g.I b->I b): ∀ (p:Pat) (v:AV) (cs:List Value) (x:ElP p) (ids:Ids) (l l' :List Nat),(ext p v).run H l=some ((x,ids),l')->CV w g v cs->(∀b,ZaC H ow ids.br b->I b)->
  ids.tk.Nodup-> ∃js,PC w I p x js cs/\js.Nodup/\ ∀b∈js,ZaC H ow ids.tk b
 | .pd t,v,cs,x,ids,l,l',h,hc,hO,_=>by
  simp only[ext,Zaj,Zab,Va]at h;obtain⟨⟨x1,i1⟩,m,h1,⟨rfl,rfl⟩,_⟩:=h
  exact⟨[],⟨rfl,ZeW hR hI t v cs x1 i1 _ _ h1 hc hO⟩, .nil,by simp⟩
 | .own t k,v,cs,x,ids,l,l',h,hc,hO,_=>by
  simp only[ext,Zaj,Zab,Va]at h;obtain⟨⟨x1,i1⟩,m,h1,⟨rfl,rfl⟩,_⟩:=h
  have hone: ∃val,cs=[val]/\VR w g v val:=by
   cases v with
   |vw id=>simp only[CV]at hc;exact⟨_,hc.2.1,ZaR (by simp only[CV];exact⟨hc.1,trivial,hc.2.2⟩) hc.2.2 rfl⟩
   |vs id lo n=>
    simp only[CV]at hc
    have: ∃val,cs=[val]/\val.oneCell' =true:=by
     rcases hc.2 with ⟨_,_,_,rfl⟩ | ⟨b,len,cap,m,_,_,_,_,rfl⟩
     ·exact⟨_,rfl,rfl⟩
     ·exact⟨_,rfl,rfl⟩
    obtain⟨val,rfl,h1⟩:=this
    exact⟨val,rfl,ZaR (by simpa only[CV] using hc) h1 rfl⟩
   |nils=>simp only[CV]at hc;exact⟨_,hc,ZaR (by simp only[CV]) rfl rfl⟩
   |_=>simp [Zbq,Zaa]at h1
  obtain⟨val,rfl,hv⟩:=hone;rcases ZdY hR hv h1 with ⟨rfl,rfl,rfl⟩ | ⟨id,rfl,hid,⟨rfl,rfl⟩ | ⟨b,cap,cells,e,css,ho,rfl,hh,h2,h3,hfa,hpre⟩⟩
  ·exact⟨[], .inl ⟨rfl,rfl,rfl⟩, .nil,by simp⟩
  ·exact⟨[], .inl ⟨rfl,rfl,rfl⟩, .nil,by simp⟩
  ·exact⟨[b], .inr ⟨b,cap,cells,e,css,rfl,rfl,hh,h2,h3,hfa.mono fun x c hx=>Rd.mono (fun _ _=>rfl) hI t x c hx,hpre⟩,by simp,fun b' hb' =>by simp only[Vc]at hb';subst hb';exact⟨id,by simp,hid,ho⟩⟩
 | .var t p,v,cs,x,ids,l,l',h,hc,hO,hn=>by
  simp only[ext]at h;split at h
  ·rename_i id;rw[Zag]at h;split at h
   ·rename_i t' c hH;simp only[Zae,Zaj,Zab,Zaa,and_false,or_false,Ve,beq_iff_eq,Va]at h;obtain⟨⟨rfl,hf⟩,⟨x1,i1⟩,m,h1,⟨rfl,rfl⟩,_⟩:=h;obtain⟨_,hty,hcf,b,cells,e,hb,hob,hh,hsz,hcv⟩:=hR.objs id _ hH;simp only[CV]at hc;obtain⟨_,o,t2,b',h3,h4,rfl⟩:=hc;rw[Zaz]at h3;cases h3;rw[hb]at h4;cases h4;simp only[Vf]at hn;obtain⟨js,h5,h6,h7⟩:=ZdL hR hI p c cells.toList x1 i1 _ _ h1 hcv (fun b hb=>hO b hb) hn.2;refine⟨b::js,⟨hf,b,js,cells,e,rfl,rfl,hh,hsz,h5⟩,Vf.2 ⟨fun hbj=> ?_,h6⟩, ?_⟩
    ·obtain⟨id',h8,h9⟩:=Zcn hR (i:=[id]) ⟨id,by simp,by rw[hH];simp,hob⟩ (h7 b hbj);simp only[Vc]at h8;subst h8;exact hn.1 h9
    ·intro b' hb';rcases Vg.1 hb' with rfl|hb'
     ·exact⟨id,by simp,by rw[hH];simp,hob⟩
     ·exact ZaG (fun _ h=>List.mem_cons_of_mem _ h) (h7 b' hb')
   ·simp [Zaa]at h
  ·simp [Zaa]at h
 | .ro t,v,cs,x,ids,l,l',h,hc,hO,_=>by
  simp only[ext]at h;split at h
  ·rename_i id;rw[Zag]at h;split at h
   ·rename_i t0 t' y hH;simp only[Zac,Zab,Va]at h;obtain⟨z,hz,⟨rfl,rfl⟩,_⟩:=h;obtain⟨rfl,rfl⟩:=Zan hz;obtain⟨_,hty,hcf,b,cells,e,hb,hob,hh,hsz,hcv⟩:=hR.objs id _ hH;simp only[CV]at hc;obtain⟨_,o,t2,b',h3,h4,rfl⟩:=hc;rw[Zaz]at h3;cases h3;rw[hb]at h4;cases h4;have hcv:=(show Rd w g.I _ _ cells.toList by simpa only[CV] using hcv);refine⟨[],⟨rfl,b,0,cells.toList,rfl,hO b ⟨id,by simp,by rw[hH];simp,hob⟩, ?_,Rd.mono (fun _ _=>rfl) hI _ _ _ hcv⟩, .nil,by simp⟩;have:=ZcC.of_vec (css:=[cells.toList]) hh (by simp);simpa using this
   ·simp [Zaa]at h
  ·rename_i t' y;simp only[Zac,Zab,Va]at h;obtain⟨z,hz,⟨rfl,rfl⟩,_⟩:=h;obtain⟨rfl,rfl⟩:=Zan hz;simp only[CV]at hc;obtain⟨b,off,c,h1,h2,h3,h4⟩:=hc;exact⟨[],⟨rfl,b,off,c,h1,hI _ h2,h3,Rd.mono (fun _ _=>rfl) hI _ _ _ h4⟩, .nil,by simp⟩
  ·simp [Zaa]at h
 | .map kt vt,v,cs,x,ids,l,l',h,hc,hO,_=>by
  simp only[ext]at h;split at h
  ·rename_i id;rw[Zag]at h;split at h
   ·rename_i k e m hH;simp only[Zac,Zab,Va]at h;obtain⟨z,hz,⟨rfl,rfl⟩,_⟩:=h;obtain⟨he,rfl⟩:=Zan hz;cases he;obtain⟨_,b,es,clock,hb,hob,hh,hbn,hfa⟩:=hR.objs id _ hH;simp only[CV]at hc;obtain⟨_,b',h4,rfl⟩:=hc;rw[hb]at h4;cases h4
    refine⟨[b],⟨b,es,clock,rfl,rfl,hh,hbn,hfa.mono fun kv e hx=> ?_⟩,by simp,fun b' hb' =>by simp only[Vc]at hb';subst hb';exact⟨id,by simp,by rw[hH];simp,hob⟩⟩
    obtain⟨⟨h1,h2⟩,h3,h4⟩:=hx;exact⟨⟨Rd.mono (fun _ _=>rfl) hI _ _ _ (by simpa only[CV] using h1),by simpa [AV.isAgg] using h2⟩,Rd.mono (fun _ _=>rfl) hI _ _ _ (by simpa only[CV] using h3),by simpa [AV.isAgg] using h4⟩
   ·simp [Zaa]at h
  ·simp [Zaa]at h
 | .it kt vt,v,cs,x,ids,l,l',h,hc,hO,_=>by
  simp only[ext]at h;split at h
  ·rename_i id;rw[Zag]at h;split at h
   ·rename_i k e m cur hH;simp only[Zac,Zab,Va]at h;obtain⟨z,hz,⟨rfl,rfl⟩,_⟩:=h;obtain⟨he,rfl⟩:=Zan hz;cases he;obtain⟨_,b,mb,es,clock,since,seen,hty,hb,hob,homb,hh,hm,h3,hfa,_⟩:=hR.objs id _ hH;simp only[CV]at hc;obtain⟨_,o',t',b',h1,h4,rfl⟩:=hc;rw[hty,Zaz]at h1;cases h1;rw[hb]at h4;cases h4
    have hne:b≠mb:=by intro hbm;rw[hbm,hm]at hh;cases hh
    refine⟨[b,mb],⟨b,mb,es,clock,since,seen,rfl,hne,rfl,hh,hm,h3,hfa.mono fun kv e hx=> ?_⟩,by simp [hne],fun b' hb' =>by
     simp only[Vg,List.not_mem_nil,or_false]at hb';rcases hb' with rfl|rfl
     ·exact⟨id,by simp,by rw[hH];simp,hob⟩
     ·exact⟨id,by simp,by rw[hH];simp,homb⟩⟩
    obtain⟨⟨h1,h2⟩,h3,h4⟩:=hx;exact⟨⟨Rd.mono (fun _ _=>rfl) hI _ _ _ (by simpa only[CV] using h1),by simpa [AV.isAgg] using h2⟩,Rd.mono (fun _ _=>rfl) hI _ _ _ (by simpa only[CV] using h3),by simpa [AV.isAgg] using h4⟩
   ·simp [Zaa]at h
  ·simp [Zaa]at h
 | .rows t k,v,cs,x,ids,l,l',h,hc,hO,_=>by
  simp only[ext,Zaj,Zab,Va]at h;obtain⟨⟨x1,i1⟩,m,h1,⟨rfl,rfl⟩,_⟩:=h
  have hone: ∃val,cs=[val]/\VR w g v val:=by
   cases v with
   |vw id=>simp only[CV]at hc;exact⟨_,hc.2.1,ZaR (by simp only[CV];exact⟨hc.1,trivial,hc.2.2⟩) hc.2.2 rfl⟩
   |nils=>simp only[CV]at hc;exact⟨_,hc,ZaR (by simp only[CV]) rfl rfl⟩
   |_=>simp [Zck,Zaa]at h1
  obtain⟨val,rfl,hv⟩:=hone;obtain⟨hrows,_⟩:=Ze9 hR hv h1
  exact⟨Zed w (ZaC H ow i1),⟨val,rfl,hrows.mono (fun _ _=>rfl) hI (fun b hb=>ZbE.2 ⟨ZmY hR hb,hb⟩) fun _ _=>rfl⟩,ZcY,fun b hb=>(ZbE.1 hb).2⟩
 | .mrows kt t,v,cs,x,ids,l,l',h,hc,hO,_=>by
  simp only[ext]at h;split at h
  ·rename_i id;rw[Zag]at h;split at h
   ·rename_i k t' m u hH;simp only[Zac,Zab,Va]at h;obtain⟨z,hz,⟨rfl,rfl⟩,_⟩:=h;obtain⟨he,rfl⟩:=Zan hz;cases he;obtain⟨b,hb,hm⟩:=ZbH.of_obj (hR.objs id _ hH).2;simp only[CV]at hc;obtain⟨_,b',h4,rfl⟩:=hc;rw[hb]at h4;cases h4;have hown: ∀b,ow id b->ZaC H ow [id] b:=fun b hb=>⟨id,by simp,by rw[hH];simp,hb⟩;exact⟨Zed w (ZaC H ow [id]),⟨_,rfl,hm.mono (fun _ _=>rfl) hI (fun b hb=>ZbE.2 ⟨ZmY hR (hown b hb),hown b hb⟩) fun _ _=>rfl⟩,ZcY,fun b hb=>(ZbE.1 hb).2⟩
   ·simp [Zaa]at h
  ·simp [Zaa]at h
 | .bld T e k,v,cs,x,ids,l,l',h,hc,hO,_=>by
  simp only[ext]at h;split at h
  ·rename_i id;rw[Zag]at h;split at h
   ·rename_i T' e' bs hH;simp only[Zae,Zab,Zaa,and_false,or_false,Ve,Va]at h;obtain⟨⟨h1,h2⟩,⟨rfl,rfl⟩,_⟩:=h;have h1:=Vb h1;have h2:=Vb h2;subst h1;subst h2;obtain⟨_,b,hb,hm⟩:=hR.objs id _ hH;simp only[CV]at hc;obtain⟨_,o',t',b',h1,h4,rfl⟩:=hc;rw[Zaz]at h1;cases h1;rw[hb]at h4;cases h4;have hown: ∀b,ow id b->ZaC H ow [id] b:=fun b hb=>⟨id,by simp,by rw[hH];simp,hb⟩;exact⟨Zed w (ZaC H ow [id]),⟨b,rfl,hm.mono (fun b hb=>ZbE.2 ⟨ZmY hR (hown b hb),hown b hb⟩) fun _ _=>rfl⟩,ZcY,fun b hb=>(ZbE.1 hb).2⟩
   ·simp [Zaa]at h
  ·simp [Zaa]at h
 | .agg pl,v,cs,x,ids,l,l',h,hc,hO,hn=>by
  simp only[ext]at h;split at h
  ·rename_i vs;simp only[CV]at hc;obtain⟨js,h1,h2⟩:=Zh6 hR hI pl vs cs x ids l l' h hc hO hn;exact⟨js,h1,h2⟩
  ·rename_i t y;simp only[Zae,Zaa,and_false,or_false]at h;obtain⟨hf,h⟩:=h;obtain⟨js,h1,h2⟩:=Zh6 hR hI pl _ cs x ids l l' h (Zgs t y cs hf (by simpa only[CV] using hc)) hO hn;exact⟨js,h1,h2⟩
  ·simp [Zaa]at h
 | .fn f pl,v,cs,x,ids,l,l',h,hc,hO,hn=>by
  simp only[ext]at h;split at h
  ·rename_i f' caps;simp only[Zae,Zaa,and_false,or_false]at h;obtain⟨hf,h⟩:=h;have hf:=Vb hf;subst hf;simp only[CV]at hc;obtain⟨cc,rfl,hcc⟩:=hc;obtain⟨js,h1,h2⟩:=Zh6 hR hI pl caps cc x ids l l' h hcc hO hn;exact⟨js,⟨cc,rfl,h1⟩,h2⟩
  ·simp [Zaa]at h
 | .nilr,v,cs,x,ids,l,l',h,hc,hO,_=>by
  simp only[ext]at h;split at h
  ·simp only[Zab,Va]at h;obtain⟨⟨_,rfl⟩,_⟩:=h;simp only[CV]at hc;exact⟨[],⟨rfl,hc⟩, .nil,by simp⟩
  ·simp [Zaa]at h
 | .nils,v,cs,x,ids,l,l',h,hc,hO,_=>by
  simp only[ext]at h;split at h
  ·simp only[Zab,Va]at h;obtain⟨⟨_,rfl⟩,_⟩:=h;simp only[CV]at hc;exact⟨[],⟨rfl,hc⟩, .nil,by simp⟩
  ·simp [Zaa]at h
 | .any,v,cs,x,ids,l,l',h,hc,hO,_=>by simp only[ext,Zab,Va]at h;obtain⟨⟨_,rfl⟩,_⟩:=h;exact⟨[],rfl, .nil,by simp⟩
theorem Zh6(hR:RH B H w g ow)(hI: ∀b,g.I b->I b): ∀ (pl:Za5) (v:AVs) (cs:List Value) (x:ZcJ pl) (ids:Ids) (l l' :List Nat),(Zef pl v).run H l=some ((x,ids),l')->CVs w g v cs->(∀b,ZaC H ow ids.br b->I b)->
  ids.tk.Nodup-> ∃js,PCs w I pl x js cs/\js.Nodup/\ ∀b∈js,ZaC H ow ids.tk b
 | .nil, .nil,cs,x,ids,l,l',h,hc,hO,_=>by
  simp only[Zef,Zab,Va]at h;obtain⟨⟨_,rfl⟩,_⟩:=h;simp only[CVs]at hc
  exact⟨[],⟨rfl,hc⟩, .nil,by simp⟩
 | .cons p pl, .cons v vs,cs,x,ids,l,l',h,hc,hO,hn=>by
  simp only[Zef,Zaj,Zab,Va]at h;obtain⟨⟨x1,i1⟩,m1,h1,⟨x2,i2⟩,m2,h2,⟨rfl,rfl⟩,_⟩:=h;simp only[CVs]at hc;obtain⟨c1,c2,rfl,h3,h4⟩:=hc;have hn' : (i1.tk++i2.tk).Nodup:=hn;obtain⟨n1,n2,n3⟩:=Vd.1 hn';obtain⟨j1,h5,h6,h7⟩:=ZdL hR hI p v c1 x1 i1 _ _ h1 h3 (fun b hb=>hO b (ZaG (fun _ h=>by simp [Ids.app,h]) hb)) n1;obtain⟨j2,h8,h9,h10⟩:=Zh6 hR hI pl vs c2 x2 i2 _ _ h2 h4 (fun b hb=>hO b (ZaG (fun _ h=>by simp [Ids.app,h]) hb)) n2;refine⟨j1++j2,⟨j1,j2,c1,c2,rfl,rfl,h5,h8⟩,Vd.2 ⟨h6,h9,fun b hb b' hb' e=> ?_⟩,fun b hb=> ?_⟩
  ·subst e;obtain⟨id,h11,h12⟩:=Zcn hR (h7 b hb) (h10 b hb');exact n3 id h11 id h12 rfl
  ·rcases List.mem_append.1 hb with hb|hb
   ·exact ZaG (fun _ h=>by simp [Ids.app,h]) (h7 b hb)
   ·exact ZaG (fun _ h=>by simp [Ids.app,h]) (h10 b hb)
 | .nil, .cons _ _,_,_,_,_,_,h,_,_,_=>by simp [Zef,Zaa]at h
 | .cons _ _, .nil,_,_,_,_,_,h,_,_,_=>by simp [Zef,Zaa]at h
end
end
end Tr
