/- Calls by a spec: what is promised of a function, and what a call does in the abstract machine. Conditions: the specs are true. -/
import Derived.Lib.LaidTab
import Derived.Lib.ItoaMem
import Derived.Test.YtdpenljjnfmgiaaGreatTrW
open Bool renaming and_eq_true ->Va
open List renaming sublist_append_left ->Vb,mem_cons ->Ve
open Nat renaming eq_of_beq_eq_true ->Vc
open Prod.mk renaming injEq ->Vd
namespace Tr
open Go
theorem Rd.flat{w w' :World}{I I' :Nat->Prop} : ∀ (t:Ty) (x:El t) (cs:List Value),t.flat=true->Rd w I t x cs->Rd w' I' t x cs
 | .int _,_,_,_,h=>h
 | .bool,_,_,_,h=>h
 | .str,_,_,_,h=>h
 | .sl t,_,_,hf,_=>by simp [Ty.flat]at hf
 | .unit,_,_,_,h=>h
 | .prod a b,x,cs,hf,h=>by
  simp only[Ty.flat,Va]at hf;obtain⟨c1,c2,h1,h2,h3⟩:=h
  exact⟨c1,c2,h1,Rd.flat a _ _ hf.1 h2,Rd.flat b _ _ hf.2 h3⟩
 | .arr n t,x,cs,hf,h=>by
  simp only[Ty.flat]at hf;obtain⟨h1,css,h2,h3⟩:=h
  exact⟨h1,css,h2,h3.mono fun y c hy=>Rd.flat t y c hf hy⟩
 | .ref,_,_,_,h=>h.elim
section
variable {w:World}{I I' :Nat->Prop}
theorem Ze8.flat{J:Nat->Prop}{t:Ty}{xs:List (El t)}{v:Value}(hf:t.flat=true)(h:Ze8 w I J t xs v):Ze8 w I' J t xs v:=by
 rcases h with h| ⟨b,cap,cs,e,css,h1,h2,h3,h4,h5,h6,h7⟩
 ·exact .inl h
 ·exact .inr ⟨b,cap,cs,e,css,h1,h2,h3,h4,h5,h6.mono fun x c hx=>Rd.flat t x c hf hx,h7⟩
theorem ZbL.flat{J:Nat->Prop}{t:Ty}{xs:List (List (El t))}{v:Value}(hf:t.flat=true)(h:ZbL w I J t xs v):ZbL w I' J t xs v:=by obtain⟨hd,⟨h0,h1⟩,h2⟩:=h;exact⟨hd,⟨h0,fun k x a b=>(h1.rd k x a b).flat hf,h1.ds,h1.tp⟩,h2⟩
theorem ZbH.flat{J:Nat->Prop}{kt t:Ty}{m:List (El kt×List (El t))}{v:Value}(hk:kt.flat=true)(hf:t.flat=true)(h:ZbH w I J kt t m v):ZbH w I' J kt t m v:=by obtain⟨row,b,es,clock,h1,h2,h3,h4,h5,h6,h7⟩:=h;exact⟨row,b,es,clock,h1,h2,h3,⟨fun k x a b=>(h4.rd k x a b).flat hf,h4.ds,h4.tp⟩,h5,h6,h7.mono fun kv e hx=>⟨⟨Rd.flat kt _ _ hk hx.1.1,hx.1.2⟩,hx.2⟩⟩
mutual
theorem PC.flat: ∀ (p:Pat) (x:ElP p) (js:List Nat) (cs:List Value),p.flat=true->PC w I p x js cs->PC w I' p x js cs
 | .pd t,x,js,cs,hf,h=>⟨h.1,Rd.flat t x cs hf h.2⟩
 | .own t k,x,js,cs,hf,h=>by
  simp only[PC]at h ⊢;rcases h with h| ⟨b,cap,cells,e,css,h0,h1,h2,h3,h4,h5,h6⟩
  ·exact .inl h
  ·exact .inr ⟨b,cap,cells,e,css,h0,h1,h2,h3,h4,h5.mono fun x c hx=>Rd.flat t x c hf hx,h6⟩
 | .var t p,x,js,cs,hf,h=>by
  obtain⟨h0,b,js',cells,e,h1,h2,h3,h4,h5⟩:=h
  exact⟨h0,b,js',cells,e,h1,h2,h3,h4,PC.flat p x js' _ hf h5⟩
 | .ro t,_,_,_,hf,_=>by simp [Pat.flat]at hf
 | .map kt vt,x,js,cs,hf,h=>by
  simp only[Pat.flat,Va]at hf;obtain⟨b,es,clock,h1,h2,h3,hbn,h4⟩:=h
  exact⟨b,es,clock,h1,h2,h3,hbn,h4.mono fun x e hx=>⟨⟨Rd.flat kt _ _ hf.1 hx.1.1,hx.1.2⟩,Rd.flat vt _ _ hf.2 hx.2.1,hx.2.2⟩⟩
 | .it kt vt,x,js,cs,hf,h=>by
  simp only[Pat.flat,Va]at hf;obtain⟨b,mb,es,clock,since,seen,h0,h1,h2,h3,h4,h5,h6⟩:=h
  exact⟨b,mb,es,clock,since,seen,h0,h1,h2,h3,h4,h5,h6.mono fun x e hx=>⟨⟨Rd.flat kt _ _ hf.1 hx.1.1,hx.1.2⟩,Rd.flat vt _ _ hf.2 hx.2.1,hx.2.2⟩⟩
 | .rows t k,x,js,cs,hf,h=>by
  obtain⟨v,h1,h2⟩:=h
  exact⟨v,h1,h2.flat hf⟩
 | .mrows kt t,x,js,cs,hf,h=>by
  simp only[Pat.flat,Va]at hf;obtain⟨v,h1,h2⟩:=h
  exact⟨v,h1,h2.flat hf.1 hf.2⟩
 | .bld _ _ _,_,_,_,_,h=>h
 | .agg l,x,js,cs,hf,h=>by
  simp only[PC]at h ⊢
  exact PCs.flat l x js cs hf h
 | .fn f l,x,js,cs,hf,h=>by
  obtain⟨cc,h1,h2⟩:=h
  exact⟨cc,h1,PCs.flat l x js cc hf h2⟩
 | .nilr,_,_,_,_,h=>h
 | .nils,_,_,_,_,h=>h
 | .any,_,_,_,_,h=>h
theorem PCs.flat: ∀ (l:Za5) (x:ZcJ l) (js:List Nat) (cs:List Value),l.flat=true->PCs w I l x js cs->PCs w I' l x js cs
 | .nil,_,_,_,_,h=>h
 | .cons p l,x,js,cs,hf,h=>by simp only[Za5.flat,Va]at hf;obtain⟨j1,j2,c1,c2,h0,h1,h2,h3⟩:=h;exact⟨j1,j2,c1,c2,h0,h1,PC.flat p x.1 j1 c1 hf.1 h2,PCs.flat l x.2 j2 c2 hf.2 h3⟩
end
theorem PVs.flat: ∀ (l:Za5) (x:ZcJ l) (js:List Nat) (vs:List Value),l.flat=true->PVs w I l x js vs->PVs w I' l x js vs
 | .nil,_,_,_,_,h=>h
 | .cons p l,x,js,vs,hf,h=>by simp only[Za5.flat,Va]at hf;obtain⟨j1,j2,v,r,h0,h1,h2,h3⟩:=h;exact⟨j1,j2,v,r,h0,h1,⟨PC.flat p x.1 j1 _ hf.1 h2.1,h2.2⟩,PVs.flat l x.2 j2 r hf.2 h3⟩
mutual
theorem PO.flat: ∀ (p:Pat) (y:ZlS p) (js:List Nat) (cs:List Value),p.oflat=true->PO w I p y js cs->PO w I' p y js cs
 | .own t true,y,js,cs,hf,h=>PC.flat (.own t true) y js cs (by simpa [Pat.oflat,Pat.flat] using hf) h
 | .own t false,_,_,_,_,h=>h
 | .var t p,y,js,cs,hf,h=>PC.flat (.var t p) y js cs (by simpa only[Pat.oflat,Pat.flat] using hf) h
 | .map kt vt,y,js,cs,hf,h=>PC.flat (.map kt vt) y js cs (by simpa only[Pat.oflat,Pat.flat] using hf) h
 | .rows t true,y,js,cs,hf,h=>PC.flat (.rows t true) y js cs (by simpa [Pat.oflat,Pat.flat] using hf) h
 | .rows t false,_,_,_,_,h=>h
 | .mrows kt t,y,js,cs,hf,h=>PC.flat (.mrows kt t) y js cs (by simpa only[Pat.oflat,Pat.flat] using hf) h
 | .agg l,y,js,cs,hf,h=>by
  simp only[PO]at h ⊢
  exact POs.flat l y js cs (by simpa only[Pat.oflat] using hf) h
 | .fn f l,y,js,cs,hf,h=>by
  obtain⟨cc,h1,h2⟩:=h
  exact⟨cc,h1,POs.flat l y js cc (by simpa only[Pat.oflat] using hf) h2⟩
 | .bld _ _ true,_,_,_,_,h=>h
 | .bld _ _ false,_,_,_,_,h=>h
 | .it _ _,_,_,_,_,h=>h
 | .pd _,_,_,_,_,h=>h
 | .ro _,_,_,_,_,h=>h
 | .nilr,_,_,_,_,h=>h
 | .nils,_,_,_,_,h=>h
 | .any,_,_,_,_,h=>h
theorem POs.flat: ∀ (l:Za5) (y:ZbQ l) (js:List Nat) (cs:List Value),l.oflat=true->POs w I l y js cs->POs w I' l y js cs
 | .nil,_,_,_,_,h=>h
 | .cons p l,y,js,cs,hf,h=>by simp only[Za5.oflat,Va]at hf;obtain⟨j1,j2,h0,h1,h2⟩:=h;exact⟨j1,j2,h0,PO.flat p y.1 j1 _ hf.1 h1,POs.flat l y.2 j2 _ hf.2 h2⟩
end
theorem ZlD.flat: ∀ (l:Za5) (y:ZbQ l) (js:List Nat) (vs:List Value),l.oflat=true->ZlD w I l y js vs->ZlD w I' l y js vs
 | .nil,_,_,_,_,h=>h
 | .cons p l,y,js,vs,hf,h=>by simp only[Za5.oflat,Va]at hf;obtain⟨j1,j2,v,r,h0,h1,h2,h3⟩:=h;exact⟨j1,j2,v,r,h0,h1,PO.flat p y.1 j1 _ hf.1 h2,ZlD.flat l y.2 j2 r hf.2 h3⟩
mutual
theorem PO.mono(hI: ∀b,I b->I' b): ∀ (p:Pat) (y:ZlS p) (js:List Nat) (cs:List Value),PO w I p y js cs->PO w I' p y js cs
 | .own t true,y,js,cs,h=>PC.mono (fun _ _=>rfl) hI (.own t true) y js cs (fun _ _=>rfl) h
 | .own t false,_,_,_,h=>h
 | .var t p,y,js,cs,h=>PC.mono (fun _ _=>rfl) hI (.var t p) y js cs (fun _ _=>rfl) h
 | .map kt vt,y,js,cs,h=>PC.mono (fun _ _=>rfl) hI (.map kt vt) y js cs (fun _ _=>rfl) h
 | .rows t true,y,js,cs,h=>PC.mono (fun _ _=>rfl) hI (.rows t true) y js cs (fun _ _=>rfl) h
 | .rows t false,_,_,_,h=>h
 | .mrows kt t,y,js,cs,h=>PC.mono (fun _ _=>rfl) hI (.mrows kt t) y js cs (fun _ _=>rfl) h
 | .agg l,y,js,cs,h=>by
  simp only[PO]at h ⊢
  exact POs.mono hI l y js cs h
 | .fn f l,y,js,cs,h=>by
  obtain⟨cc,h1,h2⟩:=h
  exact⟨cc,h1,POs.mono hI l y js cc h2⟩
 | .bld _ _ true,_,_,_,h=>h
 | .bld _ _ false,_,_,_,h=>h
 | .it _ _,_,_,_,h=>h
 | .pd _,_,_,_,h=>h
 | .ro _,_,_,_,h=>h
 | .nilr,_,_,_,h=>h
 | .nils,_,_,_,h=>h
 | .any,_,_,_,h=>h
theorem POs.mono(hI: ∀b,I b->I' b): ∀ (l:Za5) (y:ZbQ l) (js:List Nat) (cs:List Value),POs w I l y js cs->POs w I' l y js cs
 | .nil,_,_,_,h=>h
 | .cons p l,y,js,cs,h=>by obtain⟨j1,j2,h0,h1,h2⟩:=h;exact⟨j1,j2,h0,PO.mono hI p y.1 j1 _ h1,POs.mono hI l y.2 j2 _ h2⟩
end
theorem ZlD.mono(hI: ∀b,I b->I' b): ∀ (l:Za5) (y:ZbQ l) (js:List Nat) (vs:List Value),ZlD w I l y js vs->ZlD w I' l y js vs
 | .nil,_,_,_,h=>h
 | .cons p l,y,js,vs,h=>by obtain⟨j1,j2,v,r,h0,h1,h2,h3⟩:=h;exact⟨j1,j2,v,r,h0,h1,PO.mono hI p y.1 j1 _ h2,ZlD.mono hI l y.2 j2 r h3⟩
end
def Zoi:List Value->Value
 | [v]=>v
 |vs=> .tuple vs.toArray
def RV(w:World)(I:Nat->Prop)(l:Za5)(x:ZcJ l)(js:List Nat)(v:Value):Prop:= ∃vs,PVs w I l x js vs/\v=Zoi vs
def Zpc(S:Spec)(w:World)(I:Nat->Prop)(js:List Nat)(vals:List Value)(z:ZbQ S.args×ZcJ S.res)(rv:Value)(w' :World):Prop:=
 ∃I' jo jr,ZlD w' I' S.args z.1 jo vals/\RV w' I' S.res z.2 jr rv/\(jo++jr).Nodup/\(∀b∈jo++jr, ¬I' b/\b<w'.heap.size/\(b∈js\/w.heap.size<=b))/\(∀b,I b->I' b)/\
  (∀b,I' b->b<w'.heap.size/\(I b\/b∈js\/w.heap.size<=b))/\w'.os=w.os/\w'.tape=w.tape/\Zjh S.pl w' w/\w.heap.size<=w'.heap.size/\ ∀b,b<w.heap.size->b ∉ js->w'.heap[b]? =w.heap[b]?
def Amb (P:Program) (w:World) (J:Nat→Prop):Prop:= ∀b,P.globalNamed "internal/strconv.uint64pow10" =some b→b<w.heap.size∧ ¬J b∧Lib.TabIs P w "internal/strconv.uint64pow10" .u64 Lib.pow10Tab
theorem Amb.after{P:Program}{B:Zbr}{H:AH}{w:World}{g:Gh}{ow:Nat->Nat->Prop}(h:Amb P B.w0 B.own0)(hR:RH B H w g ow){js:List Nat}(hj: ∀b∈js,B.own0 b\/B.w0.heap.size<=b):Amb P w (· ∈js):=by
 intro b hb;obtain⟨h1,h2,h3⟩:=h b hb;refine⟨Nat.lt_of_lt_of_le h1 hR.size,by grind, ?_⟩;have:=hR.kept b h1 h2;unfold Lib.TabIs World.var? at h3 ⊢
 grind
def ZjY(kp:List (Nat×Nat×Nat))(vals:List Value)(w w' :World):Prop:=
 ∀k∈kp, ∀b,vals[k.1]? =some (.pointer (some ⟨b,0,none⟩))-> ∀cs e,w.heap[b]? =some (.cells cs e (0,0))-> ∃cs' e',w'.heap[b]? =some (.cells cs' e' (0,0))/\cs'[k.2.2]? =cs[k.2.2]?
def Zjp(P:Program)(f:FuncId)(S:Spec):Prop:=
 ∀ (w:World) (I:Nat->Prop) (vals:List Value) (js:List Nat) (x:ZcJ S.args) (z:S.α),PVs w I S.args x js vals->js.Nodup->(∀b∈js, ¬I b/\b<w.heap.size)->(∀b,I b->b<w.heap.size)->(S.pl=false->Amb P w (· ∈js))->S.f x=some z->
  Calls P f vals.toArray w fun e w' => ∃rv,e= .returned rv/\Zpc S w I js vals (S.unp z) rv w' /\ZjY S.kp vals w w'
structure ZaF (P:Program) (f:FuncId) (S:Spec):Prop where
 wf:S.args.wf=true
 fn: ∃fn,P.funcs[f]? =some fn∧fn.body.isNone=false∧(fn.name== "runtime.NumGoroutine")=false
 run: ∀ (w:World) (I:Nat->Prop) (vals:List Value) (js:List Nat) (x:ZcJ S.args) (z:S.α),PVs w I S.args x js vals->js.Nodup->(∀b∈js, ¬I b/\b<w.heap.size)->(∀b,I b->b<w.heap.size)->(S.pl=false->Amb P w (· ∈js))->S.f x=some z->
  Calls P f vals.toArray w fun e w' => ∃rv,e= .returned rv/\Zpc S w I js vals (S.unp z) rv w'
 kept:S.kp=[]\/Zjp P f S:=by exact .inl rfl
theorem ZaF.keptRun{P:Program}{f:FuncId}{S:Spec}(h:ZaF P f S):Zjp P f S:=by
 rcases h.kept with h0|h0
 ·intro w I vals js x z h1 h2 h3 h4 h5 h6;refine(h.run w I vals js x z h1 h2 h3 h4 h5 h6).mono ?_;rintro e w' ⟨rv,h7,h8⟩;exact⟨rv,h7,h8,by rw[h0];intro k hk;grind⟩
 omega
section
variable {P:Program}{B B0:Zbr}{H H0:AH}{w w0:World}{g g0:Gh}{ow ow0:Nat->Nat->Prop}
theorem Zg8(hR0:RH B0 H0 w0 g0 ow0): ∀ (pl:Za5) (v:AVs) (vals:List Value) (x:ZcJ pl) (ids:Ids) (l l' :List Nat),(Zef pl v).run H0 l=some ((x,ids),l')->VRs w0 g0 v vals->pl.wf=true->ids.tk.Nodup->
  ∀ {H:AH}{g:Gh}{ow:Nat->Nat->Prop} (_:RH B H w g ow) (_:g0.Le g) (y:ZbQ pl) (js:List Nat) (n:Nat),ZlD w g.I pl y js vals->ZfC B H w g ow js->(∀id∈ids.tk,H id=none)->(∀id,n<=id->id< (Zbw pl v y n).2-> ¬g.K id)->(∀id∈ids.tk, ∀u,Zib (H0 id)=some u->g.ver id<n)->
   ZeC B H w g ow js n (Zbw pl v y n).2 ids.tk (Zad H (Zbw pl v y n).1)
 | .nil,v,vals,x,ids,l,l',h,hc,_,_,H,g,ow,hR,hg,y,js,n,hp,hf,hN,hk,hvv=>by
  have:Zbw .nil v y n=([],n):=by rfl
  rw[this];exact ZeC.none hR js n ids.tk
 | .cons p pl, .nil,vals,x,ids,l,l',h,hc,_,_,H,g,ow,hR,hg,y,js,n,hp,hf,hN,hk,hvv=>by simp [Zef,Zaa]at h
 | .cons p pl, .cons v vs,vals,x,ids,l,l',h,hc,hwf,hnd,H,g,ow,hR,hg,y,js,n,hp,hf,hN,hk,hvv=>by
  simp only[Zef,Zaj,Zab,Vd]at h;obtain⟨⟨x1,i1⟩,m1,h1,⟨x2,i2⟩,m2,h2,⟨rfl,rfl⟩,_⟩:=h;obtain⟨u,r,rfl,h3,h4⟩:=hc
  have hwl:pl.wf=true/\(p= .any\/p.noAny=true):=by
   cases p<;>simp only[Za5.wf,Va]at hwf<;>first|grind|grind
  have hn' : (i1.tk++i2.tk).Nodup:=hnd;obtain⟨n1,n2,n3⟩:=List.nodup_append.1 hn';obtain⟨j1,j2,u',r',rfl,hur,hp1,hp2⟩:=hp;obtain⟨rfl,rfl⟩:=List.cons.inj hur;simp only[Zbw]at hk ⊢;have m1' :=Zgj p v y.1 n;have m2' :=Zcc pl vs y.2 (ZaN p v y.1 n).2
  have key:ZeC B H w g ow j1 n (ZaN p v y.1 n).2 i1.tk (Zad H (ZaN p v y.1 n).1):=by
   rcases hwl.2 with rfl|hna
   ·have:ZaN .any v y.1 n=([],n):=by rfl
    rw[this];exact ZeC.none hR j1 n i1.tk
   ·exact Zkl hR0 p v u.cells.toList x1 i1 _ _ h1 h3.1 hna n1 hR hg y.1 j1 n hp1 (hf.sub (Vb _ _)) (fun id h=>hN id (by simp [Ids.app,h])) (by grind) fun id h=>hvv id (by simp [Ids.app,h])
  obtain⟨g1,ow1,l1,i1',r1,k1,o1,t1⟩:=key
  have hN2: ∀id∈i2.tk,Zad H (ZaN p v y.1 n).1 id=none:=fun id hid=>by
   by_cases hne:Zad H (ZaN p v y.1 n).1 id=none
   ·omega
   ·exfalso;rcases t1 id hne with h5|h5|h5
    ·exact h5 (hN id (by simp [Ids.app,hid]))
    ·grind
    ·cases hH0:H0 id with
     |none=>exact ZbY pl vs x2 i2 _ _ h2 id hid hH0
     |some ob=>exact hk id h5.1 (by omega) (hg.K _ (hR0.objs id ob hH0).1)
  obtain⟨g2,ow2,l2,i2',r2,k2,o2,t2⟩:=Zg8 hR0 pl vs r x2 i2 _ _ h2 h4 hwl.1 n2 r1 (hg.trans l1) y.2 j2 (ZaN p v y.1 n).2 (by rw[i1'.I];omega) (hf.later i1'.I o1) hN2 (by grind) fun id hid u hu=>by
    have hKid:g.K id:=by
     cases hH0:H0 id with
     |none=>exact absurd hH0 (ZbY pl vs x2 i2 _ _ h2 id hid)
     |some ob=>exact hg.K _ (hR0.objs id ob hH0).1
    rw[i1'.ver id hKid (by grind)];have:=hvv id (by simp [Ids.app,hid]) u hu;omega
  rw[Zau];refine⟨g2,ow2,l1.trans l2,(i2'.weak fun k hk=>by simp [Ids.app,hk]).after (i1'.weak fun k hk=>by simp [Ids.app,hk]) l1,r2,fun id h=> ?_,fun id b' h5 h6=> ?_,fun id h5=> ?_⟩
  ·grind
  ·grind
  ·rcases t2 id h5 with h6|h6|h6
   ·rcases t1 id h6 with h7|h7|h7
    ·grind
    ·exact .inr (.inl (by simp [Ids.app,h7]))
    omega
   ·exact .inr (.inl (by simp [Ids.app,h6]))
   omega
theorem Ids.ok_iff{i:Ids}{fz:List Nat}(h:i.ok fz=true):i.tk.Nodup/\(∀n∈i.br,n ∉ i.tk)/\ ∀n∈i.tk,n ∉ fz:=by simp only[Ids.ok,Va]at h;exact⟨Zea.1 h.1.1,ZbW.1 h.1.2,ZbW.1 h.2⟩
theorem ZkH{l:AVs}{vs:List Value}(h:VRs w g l vs):VR w g (ZnY l) (Zoi vs):=by
 cases l with
 |nil=>simp only[VRs]at h;subst h;exact⟨[],rfl,rfl⟩
 |cons a l=>
  obtain⟨v,r,rfl,h1,h2⟩:=h
  cases l with
  |nil=>simp only[VRs]at h2;subst h2;exact .of1 h1
  |cons b l=>
   obtain⟨v2,r2,rfl,h3,h4⟩:=h2;exact⟨v::v2::r2,rfl,v,v2::r2,rfl,h1,v2,r2,rfl,h3,h4⟩
theorem ZfO(hR:RH B H w g ow){n:Nat}{r:Unit} : ∀ (tk:List Nat) {l l' :List Nat},(Zlv n tk).run H l=some (r,l')-> ∀id∈tk, ∀u,Zib (H id)=some u->g.ver id<n
 | [],l,l',h,id,hid=>by grind
 |k::tk,l,l',h,id,hid=>by
  simp only[Zlv]at h;rw[Zag]at h;intro u hu;split at h
  ·rename_i hH;simp only[Zae,Zaa,and_false,or_false]at h;rcases Ve.1 hid with rfl|hid
   ·have h1:g.ver id=_:=(hR.objs id _ hH).2.2.1
    simp_all
   ·exact ZfO hR tk h.2 id hid u hu
  ·rename_i hH;simp only[Zae,Zaa,and_false,or_false]at h;rcases Ve.1 hid with rfl|hid
   ·have h1:g.ver id=_:=(hR.objs id _ hH).2.2.1
    simp_all
   ·exact ZfO hR tk h.2 id hid u hu
  ·rename_i h1 h2;rcases Ve.1 hid with rfl|hid
   ·exfalso
    cases hH:H id with
    |none=>rw[hH]at hu;cases hu
    |some o=>cases o<;>rw[hH]at hu<;>first|exact h1 _ _ _ _ hH|exact(by grind) |cases hu
   ·exact ZfO hR tk h id hid u hu
theorem Zj8{f:FuncId}{S:Spec}(hS:ZaF P f S)(hA:B.pl=false->Amb P B.w0 B.own0)(hpl:B.pl=true->S.pl=true)(hR:RH B H w g ow){nid:Nat}(hk: ∀id,g.K id->id<nid\/nid+ZaU<=id){avs:AVs}{vals:List Value}(hv:VRs w g avs vals){v:AV}{patch:ZaY}{rd:List Nat}
  {l:List Nat} (h: (Zh4 S nid avs).run H l=some ((v,patch),rd)):
  Calls P f vals.toArray w fun e w' => ∃rv g' ow',e= .returned rv/\RH B (Zad H patch) w' g' ow' /\g.Le g' /\ZaV g.I w w' /\VR w' g' v rv/\(∀id,g'.K id->g.K id\/(nid<=id/\id<nid+ZaU))/\ZjY S.kp vals w w' :=by
 simp only[Zh4,Zaj,Zac,Zab,Vd]at h;obtain⟨⟨x,ids⟩,m,hx,_,hok,_,_,hvo,ds,_,hds,z,hz,_,hq,⟨rfl,rfl⟩,_⟩:=h;obtain⟨hnd,hdis,_⟩:=Ids.ok_iff (ZaK hok);have hle:=ZaK hq;simp only[Nat.ble_eq]at hle;obtain⟨js,hpv,hjn,hjo⟩:=ZkD hR (I:=fun b=>g.I b\/ZaC H ow ids.br b) (by grind) _ _ _ _ _ _ _ hx hv (by grind) hnd
 have hj1: ∀b∈js, ¬g.I b/\b<w.heap.size/\(B.own0 b\/B.w0.heap.size<=b):=fun b hb=>by obtain⟨id,_,h1,h2⟩:=hjo b hb;exact hR.sep id b h1 h2
 have hj2: ∀b∈js, ¬ZaC H ow ids.br b:=fun b hb h=>by
  obtain⟨id,h1,h2⟩:=Zcn hR h (hjo b hb)
  grind
 refine(hS.keptRun w _ vals js x z hpv hjn (by grind) (fun b hb=> ?_) (fun hf=>(hA (by grind)).after hR (by grind)) hz).mono ?_
 ·rcases hb with hb| ⟨id,_,h1,h2⟩
  ·exact hR.ilt b hb
  ·exact(hR.sep id b h1 h2).2.1
 rintro e w' ⟨rv,rfl,⟨I',jo,jr,hpo,⟨rvs,hpr,rfl⟩,hnd2,hfree,hII,hI',hos,htape,hout,hsz,hheap⟩,hkc⟩;generalize hfl: (S.res.flat&&S.args.oflat)=fl at hle hds ⊢
 have hgone: ∀id,Zad H ((ids.tk.map fun id=>(id,none))++(bif fl then [] else ids.br.map fun id=>(id,none))) id≠none->H id≠none/\id ∉ ids.tk/\(fl=false->id ∉ ids.br):=by
  intro id;rw[Zau]
  cases fl with
  |true=>simp only[cond_true,Zad];rw[ZcP];grind
  |false=>
   simp only[cond_false];rw[ZcP];split
   ·simp
   ·rename_i hi;rw[ZcP];grind
 have hR1:RH B (Zad H ((ids.tk.map fun id=>(id,none))++(bif fl then [] else ids.br.map fun id=>(id,none)))) w g ow:=by
  rw[Zau]
  cases fl with
  |true=>exact hR.drops _
  |false=>exact(hR.drops _).drops _
 have hnot: ∀b,(b∈js\/w.heap.size<=b)-> ∀id,Zad H ((ids.tk.map fun id=>(id,none))++(bif fl then [] else ids.br.map fun id=>(id,none))) id≠none-> ¬ow id b:=by
  intro b hb id hid ho;obtain⟨h1,h2,_⟩:=hgone id hid;rcases hb with hb|hb
  ·obtain⟨id',h3,h4,h5⟩:=hjo b hb;have:=hR.dist id id' b h1 h4 ho h5
   grind
  ·have:=(hR.sep id b h1 ho).2.1;omega
 have hnew: ∀b,(b∈js\/w.heap.size<=b)->(B.own0 b\/B.w0.heap.size<=b):=by
  intro b hb;rcases hb with hb|hb
  ·grind
  ·have:=hR.size;omega
 have hR2:RH B (Zad H ((ids.tk.map fun id=>(id,none))++(bif fl then [] else ids.br.map fun id=>(id,none)))) w' (g.grow fun b=>fl=false/\I' b) ow:=
  hR1.call (js:=js) hheap hsz hos htape (hout.weak hpl) (by grind) (by
   rintro b ⟨hf,hb⟩;obtain⟨h1,h2⟩:=hI' b hb;refine⟨h1, ?_,fun id hid ho=> ?_⟩
   ·rcases h2 with (h2| ⟨id,_,h3,h4⟩) |h2
    ·exact hR.inew b h2
    ·exact .inr (hR.sep id b h3 h4).2.2
    grind
   ·rcases h2 with (h2| ⟨id',h5,h3,h4⟩) |h2
    ·exact(hR1.sep id b hid ho).1 h2
    ·obtain⟨h6,_,h7⟩:=hgone id hid;have:=hR.dist id id' b h6 h3 ho h4
     grind
    grind)
 have hsub:fl=false-> ∀b,I' b->(g.grow fun b=>fl=false/\I' b).I b:=fun hf b hb=> .inr ⟨hf,hb⟩
 have hpo1:ZlD w' (g.grow fun b=>fl=false/\I' b).I S.args (S.unp z).1 jo vals:=by
  cases fl with
  |true=>exact hpo.flat _ _ _ _ (by grind)
  |false=>exact hpo.mono (hsub rfl)
 have hpr1:PVs w' (g.grow fun b=>fl=false/\I' b).I S.res (S.unp z).2 jr rvs:=by
  cases fl with
  |true=>exact hpr.flat _ _ _ _ (by grind)
  |false=>exact PVs.mono (fun _ _=>rfl) (hsub rfl) (by simp) hpr
 have hfr:ZfC B (Zad H ((ids.tk.map fun id=>(id,none))++(bif fl then [] else ids.br.map fun id=>(id,none)))) w' (g.grow fun b=>fl=false/\I' b) ow (jo++jr):=
  ⟨hnd2,fun b hb=>⟨fun hI=>by
   rcases hI with hI|hI
   all_goals grind,by grind,by grind,by grind⟩⟩
 have m1:=Zcc S.args avs (S.unp z).1 nid;have m2:=(Zdm S.res (S.unp z).2 (Zbw S.args avs (S.unp z).1 nid).2).1
 have hN: ∀id∈ids.tk,Zad H ((ids.tk.map fun id=>(id,none))++(bif fl then [] else ids.br.map fun id=>(id,none))) id=none:=by grind
 obtain⟨g1,ow1,l1,i1,r1,k1,o1,_⟩:=Zg8 hR _ _ _ _ _ _ _ hx hv hS.wf hnd hR2 (g.le_grow _) (S.unp z).1 jo nid hpo1 (hfr.sub (Vb _ _)) hN (fun id h1 h2 hK=>by
  rcases hk id hK with h3|h3<;>omega) (fun id hid u hu=>ZfO hR _ hvo id hid u hu)
 obtain⟨g2,ow2,l2,i2,r2,c2,k2,_⟩:=ZhT S.res r1 (S.unp z).2 jr rvs (Zbw S.args avs (S.unp z).1 nid).2 (by rw[i1.I];omega) (hfr.later i1.I o1) (fun id h1 h2 hK=>by
  rcases k1 id hK with h3|h3
  ·rcases hk id h3 with h4|h4<;>omega
  ·omega)
 have hle2:g.Le g2:=(g.le_grow _).trans (l1.trans l2)
 have hdat: ∃ow3,RH B (Zad (Zad (Zad (Zad H ((ids.tk.map fun id=>(id,none))++(bif fl then [] else ids.br.map fun id=>(id,none)))) (Zbw S.args avs (S.unp z).1 nid).1) ((Zcz S.res (S.unp z).2 (Zbw S.args avs (S.unp z).1 nid).2).2.1.map fun o=>(o.1,some o.2))) ds) w' g2 ow3:=by
  cases fl with
  |true=>
   simp only[cond_true,Zab]at hds;obtain⟨rfl,_⟩:=hds
   exact⟨ow2,r2⟩
  |false=>
   simp only[cond_false]at hds;have hsub2: ∀b,I' b->g2.I b:=fun b hb=>l2.I b (l1.I b (by grind));exact Ze6 hR hle2 (fun b hb=>hheap b (hR.ilt b hb) (by grind)) ids.br ds _ _ hds (fun id hid b hne hb=>⟨hsub2 b (hII b (.inr ⟨id,hid,hne,hb⟩)),hheap b (hR.sep id b hne hb).2.1 fun hj=>hj2 b hj ⟨id,hid,hne,hb⟩⟩) r2
 obtain⟨ow3,r3⟩:=hdat;refine⟨Zoi rvs,g2,ow3,rfl, ?_,hle2,fun b hb=>hheap b (hR.ilt b hb) (by grind),ZkH c2,fun id h=> ?_,hkc⟩
 ·rw[Zau,Zau,Zau];omega
 ·rcases k2 id h with h|h
  ·rcases k1 id h with h|h
   ·exact .inl h
   omega
  omega
theorem Zhz: ∀ (p:ZaY) (H:AH) (id:Nat) (o:Option Zc0),ZgO id p=some o->Zad H p id=o
 | [],_,_,_,h=>by simp [ZgO]at h
 |a::l,H,id,o,h=>by
  simp only[ZgO]at h;simp only[Zad]
  cases hl:ZgO id l with
  |some o' =>
   rw[hl]at h;simp only[Option.some.injEq]at h;subst h
   exact Zhz l _ id _ hl
  |none=>
   rw[hl]at h;simp only at h
   cases hb:Nat.beq a.1 id with
   |false=>grind
   |true=>
    rw[hb]at h;simp only[cond_true,Option.some.injEq]at h;have:=Vc hb
    have key: ∀ (l:ZaY) (H:AH),ZgO id l=none->Zad H l id=H id:=by
     intro l
     induction l with
     |nil=>intro H _;rfl
     |cons b l ih=>
      intro H hl;simp only[ZgO]at hl
      cases hl2:ZgO id l with
      |some o' =>grind
      |none=>
       rw[hl2]at hl;simp only at hl
       cases hb2:Nat.beq b.1 id with
       |true=>grind
       |false=>
        simp only[Zad];rw[ih _ hl2,Zat]
        grind
    rw[key l _ hl, <-this,ZaT, <-h]
theorem ZkZ: ∀ (c:AVs) (t:Ty) (k a b:Nat),c.fits t=true->c.nth k=some (.vw a)->(c.putNth k (.vw b)).fits t=true
 | .nil,_,k,_,_,_,h=>by assumption
 | .cons v l,t,0,a,b,hf,h=>by
  simp only[AVs.nth,Option.some.injEq]at h;subst h
  cases t with
  |prod p q=>
   simp only[AVs.fits,Va,AVs.putNth]at hf ⊢;refine⟨?_,hf.2⟩
   cases p<;>first|rfl|exact hf.1
  |_=>assumption
 | .cons v l,t,k+1,a,b,hf,h=>by
  simp only[AVs.nth]at h
  cases t with
  |prod p q=>
   simp only[AVs.fits,Va,AVs.putNth]at hf ⊢
   exact⟨hf.1,ZkZ l _ k a b hf.2 h⟩
  |_=>assumption
theorem ZmC: ∀ (c:AVs) (cs:List Value) (k a b:Nat),CVs w g c cs->c.nth k=some (.vw a)->g.K b->g.slv b=g.slv a->CVs w g (c.putNth k (.vw b)) cs
 | .nil,_,k,_,_,_,h,_,_=>by assumption
 | .cons v l,cs,0,a,b,hc,h,hb,hs=>by
  simp only[AVs.nth,Option.some.injEq]at h;subst h;obtain⟨c1,c2,h1,h2,h3⟩:=hc;refine⟨c1,c2,h1, ?_,h3⟩;simp only[CV]at h2 ⊢
  grind
 | .cons v l,cs,k+1,a,b,hc,h,hb,hs=>by simp only[AVs.nth]at h;obtain⟨c1,c2,h1,h2,h3⟩:=hc;exact⟨c1,c2,h1,h2,ZmC l c2 k a b h3 h hb hs⟩
theorem Zeb: ∀ (c:AVs) (t:Ty) (cs:List Value) (k a:Nat),c.fits t=true->CVs w g c cs->c.nth k=some (.vw a)->g.K a/\cs[ZoZ t k]? =some (g.slv a)
 | .nil,_,_,k,_,_,_,h=>by simp [AVs.nth]at h
 | .cons v l,t,cs,0,a,hf,hc,h=>by
  simp only[AVs.nth,Option.some.injEq]at h;subst h;obtain⟨c1,c2,rfl,h2,h3⟩:=hc;simp only[CV]at h2;obtain⟨h4,rfl,_⟩:=h2;refine⟨h4, ?_⟩
  cases t<;>simp only[ZoZ]<;>rfl
 | .cons v l,t,cs,k+1,a,hf,hc,h=>by
  simp only[AVs.nth]at h;obtain⟨c1,c2,rfl,h2,h3⟩:=hc
  cases t with
  |prod p q=>
   simp only[AVs.fits,Va]at hf;have hlen:=CV.length v p c1 hf.1 h2;obtain⟨h4,h5⟩:=Zeb l q c2 k a hf.2 h3 h;refine⟨h4, ?_⟩;simp only[ZoZ]
   grind
  |_=>simp [AVs.fits]at hf
theorem Zjs: ∀ (l:AVs) (vs:List Value) (i:Nat) (v:AV),VRs w g l vs->l.nth i=some v-> ∃u,vs[i]? =some u/\VR1 w g v u
 | .nil,_,i,_,_,h=>by simp [AVs.nth]at h
 | .cons a l,vs,0,v,hv,h=>by
  simp only[AVs.nth,Option.some.injEq]at h;subst h;obtain⟨u,r,rfl,h1,_⟩:=hv
  grind
 | .cons a l,vs,i+1,v,hv,h=>by simp only[AVs.nth]at h;obtain⟨u,r,rfl,_,h2⟩:=hv;exact Zjs l r i v h2 h
theorem ZmH{v:Value}{id:Nat}(h:VR1 w g (.ptr id []) v):g.K id/\ ∃b,g.blk id=some b/\v= .pointer (some ⟨b,0,none⟩):=by
 obtain⟨h1,h2⟩:=h;simp only[CV,Zbh]at h1;obtain⟨hk,o,t,b,h3,h4,h5⟩:=h1;cases h3;refine⟨hk,b,h4, ?_⟩;rcases h2 with h2|h2
 ·grind
 ·cases v<;>simp_all [Value.cells,Zav,AV.isAgg]
theorem Zf7(hR:RH B H w g ow){sid nid oid k:Nat}{T t:Ty}{c:AVs}{xs:List (El t)}(hS:H sid=some (.var T (.agg c)))(hn:c.nth k=some (.vw nid))(hN:H nid=some (.vec t xs))(hKo:g.K oid)(hslv:g.slv oid=g.slv nid)(hto:g.ty oid=t)
  (hvec0: (g.blk oid=none/\g.slv oid= .slice none 0 0)\/ ∃b len cap,g.blk oid=some b/\g.slv oid= .slice (some ⟨b,0,none⟩) len cap) (hns:nid≠sid) (hos:oid≠sid):
  ∃ow',RH B (Zbl (Zbl (Zbl (Zbl H nid none) sid none) oid (some (.vec t xs))) sid (some (.var T (.agg (c.putNth k (.vw oid)))))) w g ow' :=by
 obtain⟨hKs,h2,hf2,b',cs',e',hb',hob',hh',hsz',hcv'⟩:=hR.objs sid _ hS;simp only[AV.fits]at hf2;simp only[CV]at hcv';obtain⟨_,htn,hvec⟩:=hR.objs nid _ hN
 have hvo:ZeB w g (ow nid) oid (.vec t xs):=by
  refine⟨hto, ?_⟩
  grind
 have r1:RH B (Zbl (Zbl H nid none) sid none) w g ow:=(hR.drop nid).drop sid
 have hlive: ∀id,Zbl (Zbl H nid none) sid none id≠none->id≠sid/\id≠nid/\H id≠none:=fun id h=>by
  obtain⟨a1,a2⟩:=Za8 h;obtain⟨a3,a4⟩:=Za8 a2
  grind
 have hNn:H nid≠none:=by grind
 have hSn:H sid≠none:=by grind
 have r2:=r1.revive hKo (J:=ow nid) (fun b hb=>by obtain⟨a1,a2,a3⟩:=hR.sep nid b hNn hb;refine⟨a1,a2,a3,fun id' hid ho' => ?_⟩;obtain⟨_,a4,a5⟩:=hlive id' hid;exact a4 (hR.dist id' nid b a5 hNn ho' hb)) hvo
 refine⟨_,r2.revive hKs (J:=ow sid) (fun b hb=> ?_) ⟨h2, ?_,b',cs',e',hb',hob',hh',hsz', ?_⟩⟩
 ·obtain⟨a1,a2,a3⟩:=hR.sep sid b hSn hb;refine⟨a1,a2,a3,fun id' hid ho' => ?_⟩;by_cases hi:id' =oid
  ·subst hi;rw[ZaD]at ho';exact hns (hR.dist nid sid b hNn hSn ho' hb)
  ·rw[ZaI hi]at ho';rw[Zat hi]at hid;obtain⟨a4,_,a5⟩:=hlive id' hid;exact a4 (hR.dist id' sid b a5 hSn ho' hb)
 ·simp only[AV.fits];exact ZkZ _ _ _ _ _ hf2 hn
 ·simp only[CV];exact ZmC _ _ _ _ _ hcv' hn hKo hslv
theorem Zoq(hR0:RH B0 H0 w0 g0 ow0){avs:AVs}{vals:List Value}(hv:VRs w0 g0 avs vals){k:Nat×Nat×Nat}{p q:ZaY}{l l' :List Nat}(h: (ZpR avs k p).run H0 l=some (q,l'))
  (hR:RH B (Zad H0 p) w g ow) (hle:g0.Le g) (hkc:ZjY [k] vals w0 w): ∃ow',RH B (Zad H0 q) w g ow' :=by
 simp only[ZpR]at h;split at h
 case h_2=>simp [Zaa]at h
 rename_i sid hs;rw[Zag]at h;split at h
 case h_2=>simp [Zaa]at h
 rename_i T c hH0;split at h
 case h_2=>simp [Zaa]at h
 rename_i oid ho;rw[Zag]at h;split at h
 case h_2=>simp [Zaa]at h
 rename_i t xs0 hO0;split at h
 case h_2=>simp [Zaa]at h
 rename_i T' c' hp1;split at h
 case h_2=>simp [Zaa]at h
 rename_i nid hn;split at h
 case h_2=>simp [Zaa]at h
 rename_i t' xs hp2;simp only[Zae,Zaa,and_false,or_false,Zab,Va,Bool.not_eq_true',beq_iff_eq]at h;obtain⟨⟨⟨⟨⟨ht,hT⟩,hoff⟩,hns⟩,hos⟩,rfl,_⟩:=h;subst ht;subst hT;have hoff:=Vc hoff;have hns:nid≠sid:=by grind
 have hos:oid≠sid:=by grind
 have hS:=Zhz p H0 sid _ hp1;have hN:=Zhz p H0 nid _ hp2;obtain⟨hKs,h1,hf1,b,cs,e,hb,_,hh,_,hcv⟩:=hR0.objs sid _ hH0;obtain⟨hKs',h2,hf2,b',cs',e',hb',hob',hh',hsz',hcv'⟩:=hR.objs sid _ hS
 have hbb:b' =b:=by
  have:=hle.blk sid hKs
  grind
 subst hbb;simp only[AV.fits]at hf1 hf2;simp only[CV]at hcv hcv';obtain⟨hKo,hco⟩:=Zeb c _ _ _ _ hf1 hcv ho;obtain⟨hKn,hcn⟩:=Zeb c' _ _ _ _ hf2 hcv' hn;obtain⟨u,hu1,hu2⟩:=Zjs _ _ _ _ hv hs;obtain⟨_,b2,hb2,rfl⟩:=ZmH hu2;rw[hb]at hb2;obtain rfl:=Option.some.inj hb2;obtain⟨cs2,e2,hh2,hc2⟩:=hkc k (by simp) _ hu1 cs e hh;rw[hh']at hh2
 obtain⟨rfl,_⟩:cs' =cs2/\e' =e2:=by
  grind
 rw[Array.getElem?_toList]at hco hcn;rw[hoff]at hco hcn
 have hslv:g.slv oid=g.slv nid:=by
  rw[hle.slv oid hKo]
  grind
 obtain⟨_,hto,_⟩:=hR0.objs oid _ hO0;rw[Zau];simp only[Zad]
 exact Zf7 hR hS hn hN (hle.K oid hKo) hslv ((hle.ty oid hKo).trans hto) (by
  rw[hle.blk oid hKo,hle.slv oid hKo]
  grind) hns hos
theorem Zhm(hR0:RH B0 H0 w0 g0 ow0){avs:AVs}{vals:List Value}(hv:VRs w0 g0 avs vals)(hle:g0.Le g): ∀ (kp:List (Nat×Nat×Nat)) {p q:ZaY}{l l' :List Nat}{ow:Nat->Nat->Prop},(Zge avs kp p).run H0 l=some (q,l')->
  RH B (Zad H0 p) w g ow->ZjY kp vals w0 w-> ∃ow',RH B (Zad H0 q) w g ow'
 | [],p,q,l,l',ow,h,hR,_=>by
  simp only[Zge,Zab]at h
  grind
 |k::kp,p,q,l,l',ow,h,hR,hk=>by simp only[Zge,Zaj]at h;obtain⟨p1,m,h1,h2⟩:=h;obtain⟨ow1,hR1⟩:=Zoq hR0 hv h1 hR hle (fun i hi=>hk i (by grind));exact Zhm hR0 hv hle kp h2 hR1 fun i hi=>hk i (by grind)
theorem ZgC{f:FuncId}{S:Spec}(hS:ZaF P f S)(hA:B.pl=false->Amb P B.w0 B.own0)(hpl:B.pl=true->S.pl=true)(hR:RH B H w g ow){nid:Nat}(hk: ∀id,g.K id->id<nid\/nid+ZaU<=id){avs:AVs}{vals:List Value}(hv:VRs w g avs vals){v:AV}{patch:ZaY}{rd:List Nat}
  {l:List Nat} (h: (ZfP S nid avs).run H l=some ((v,patch),rd)):
  Calls P f vals.toArray w fun e w' => ∃rv g' ow',e= .returned rv/\RH B (Zad H patch) w' g' ow' /\g.Le g' /\ZaV g.I w w' /\VR w' g' v rv/\ ∀id,g'.K id->g.K id\/(nid<=id/\id<nid+ZaU):=by
 simp only[ZfP,Zaj,Zab,Vd]at h;obtain⟨⟨v0,p0⟩,m,h1,q,m2,h2,⟨rfl,rfl⟩,_⟩:=h;refine(Zj8 hS hA hpl hR hk hv h1).mono ?_;rintro e w' ⟨rv,g',ow',rfl,a1,a2,a3,a4,a5,a6⟩;obtain⟨ow2,a7⟩:=Zhm hR hv a2 S.kp h2 a1 a6
 grind
theorem Zf1{f:FuncId}(hA:B.pl=false->Amb P B.w0 B.own0)(hR:RH B H w g ow){nid:Nat}(hk: ∀id,g.K id->id<nid\/nid+ZaU<=id){avs:AVs}{vals:List Value}(hv:VRs w g avs vals){v:AV}{patch:ZaY}{rd:List Nat} : ∀ (Ss:List Spec) {l:List Nat},
  (∀S∈Ss,ZaF P f S/\(B.pl=true->S.pl=true))->(ZdW nid avs Ss).run H l=some ((v,patch),rd)->
  Calls P f vals.toArray w fun e w' => ∃rv g' ow',e= .returned rv/\RH B (Zad H patch) w' g' ow' /\g.Le g' /\ZaV g.I w w' /\VR w' g' v rv/\ ∀id,g'.K id->g.K id\/(nid<=id/\id<nid+ZaU)
 | [],l,_,h=>by simp [ZdW,Zaa]at h
 | [S],l,hs,h=>ZgC (by grind) hA (by grind) hR hk hv h
 |S::T::Ss,l,hs,h=>by
  simp only[ZdW,Zaj]at h;obtain⟨r,m,_,h⟩:=h;simp only[Acc.run]at h;generalize (S.f r.1).isSome=bb at h
  cases bb with
  |true=>exact ZgC (by grind) hA (by grind) hR hk hv h
  |false=>exact Zf1 hA hR hk hv (T::Ss) (by grind) h
end
end Tr
