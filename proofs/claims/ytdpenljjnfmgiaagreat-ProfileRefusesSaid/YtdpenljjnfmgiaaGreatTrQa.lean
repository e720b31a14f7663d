/- Values as data, and parts of literals that are given up to be read as data. Conditions: none. -/
import Derived.Test.YtdpenljjnfmgiaaGreatTrQ
open Bool renaming not_eq_false' ->Vb
open Prod.mk renaming injEq ->Va
namespace Tr
open Go
section
variable {B:Zbr}{H:AH}{w:World}{g:Gh}{ow:Nat->Nat->Prop}{F:Nat->AV}{I:Nat->Prop}
theorem ZcC.of_vec{b:Nat}{cs:Array Value}{e:TypeId}{css:List (List Value)}(hh:w.heap[b]? =some (.cells cs e (0,0)))(hc:css.flatten<+:cs.toList):ZcC w b 0 css.flatten:=by
 intro j hj;obtain⟨r,hr⟩:=hc;have hlen:css.flatten.length<=cs.toList.length:=by grind
 simp only[World.cell?,hh,Option.isSome_none,Bool.false_eq_true,if_false,Nat.zero_add];have hj' :j<cs.size:=by grind
 rw[Array.getElem?_eq_getElem hj'];congr 1;have:cs.toList[j]'(by omega)=css.flatten[j]:=by grind
 grind
theorem Zjw(t:Ty)(cs:List Value)(x:List (El t))(ids l l' :List Nat)(h: (ZaJ (.sl t) (.nils)).run H l=some ((x,ids),l'))(hc:CV w g (.nils) cs):Rd w I (.sl t) x cs:=by simp only[ZaJ,Zab,Va]at h;obtain⟨⟨rfl,rfl⟩,_⟩:=h;simp only[CV]at hc;exact⟨none,0,[],hc,trivial,by simp,Nat.le_refl _⟩
theorem Znk(hR:RH B H w g ow)(hI: ∀b,g.I b->I b)(t:Ty){id:Nat}(cs:List Value)(x:List (El t))(ids l l' :List Nat)(h: (ZaJ (.sl t) (.vw id)).run H l=some ((x,ids),l'))(hc:CV w g (.vw id) cs)(hO: ∀b,ZaC H ow ids b->I b):Rd w I (.sl t) x cs:=by
 simp only[ZaJ]at h;rw[Zag]at h;split at h
 ·rename_i t' xs hH;simp only[Zac,Zab,Va]at h;obtain⟨y,hy,⟨rfl,rfl⟩,_⟩:=h;obtain⟨he,rfl⟩:=Zan hy;cases he;simp only[CV]at hc;rw[hc.2.1];exact Zkg (hR.objs id _ hH).2 hI fun b hb=>hO b ⟨id,by simp,by grind,hb⟩
 ·rename_i t' xs u hH;simp only[Zac,Zab,Va]at h;obtain⟨y,hy,⟨rfl,rfl⟩,_⟩:=h;obtain⟨he,rfl⟩:=ZbU hy;subst he;simp only[CV]at hc;rw[hc.2.1];exact Zi2 (hR.objs id _ hH).2 hI fun b hb=>hO b ⟨id,by simp,by grind,hb⟩
 ·rename_i t' xs hH;simp only[Zac,Zab,Va]at h;obtain⟨y,hy,⟨rfl,rfl⟩,_⟩:=h;obtain⟨he,rfl⟩:=Zan hy;cases he;simp only[CV]at hc;rw[hc.2.1];exact Rd.mono (fun _ _=>rfl) hI _ _ _ (hR.objs id _ hH).2.2
 ·simp [Zaa]at h
theorem ZmM(hR:RH B H w g ow)(hI: ∀b,g.I b->I b)(t:Ty){id ver:Nat}{kt:Ty}{k:El kt}(cs:List Value)(x:List (El t))(ids l l' :List Nat)(h: (ZaJ (.sl t) (.nw id ver kt k)).run H l=some ((x,ids),l'))(hc:CV w g (.nw id ver kt k) cs)(hO: ∀b,ZaC H ow ids b->I b):Rd w I (.sl t) x cs:=by simp only[ZaJ,Zaj,Zac,Zab,Va]at h;obtain⟨r,m,hacc,y,hy,⟨rfl,rfl⟩,_⟩:=h;obtain⟨he,rfl⟩:=ZbU hy;obtain⟨t0,row⟩:=r;simp only at he;subst he;have hc' :=hc;simp only[CV]at hc;obtain⟨_,_,v,rfl,h1,_⟩:=hc;obtain⟨hne,_,_,_,hrow⟩:=Zdf hR (ZaR hc' h1 rfl) hacc;exact hrow.data hI fun b hb=>hO b ⟨id,by simp,hne,hb⟩
theorem Zl7(hR:RH B H w g ow)(hI: ∀b,g.I b->I b)(t:Ty){id lo n:Nat}(cs:List Value)(x:List (El t))(ids l l' :List Nat)(h: (ZaJ (.sl t) (.vs id lo n)).run H l=some ((x,ids),l'))(hc:CV w g (.vs id lo n) cs)(hO: ∀b,ZaC H ow ids b->I b):Rd w I (.sl t) x cs:=by
 simp only[ZaJ]at h;rw[Zag]at h;split at h
 ·rename_i t' xs hH;simp only[Zac,Zab,Va]at h;obtain⟨y,hy,⟨rfl,rfl⟩,_⟩:=h;obtain⟨he,rfl⟩:=Zan hy;cases he;simp only[CV]at hc;obtain⟨_,hv⟩:=hc;obtain⟨_,hty,hobj⟩:=hR.objs id _ hH;rw[hty]at hv;rcases hv with ⟨hs,rfl,rfl,rfl⟩ | ⟨b,len,cap,m,hs,h1,h2,h3,rfl⟩
  ·exact⟨none,0,[],by simp,by simp;trivial,by simp,by simp⟩
  ·rcases hobj with ⟨_,_,hs'⟩ | ⟨b',cap',cells,e,css,_,ho,hs',hh,_,_,hfa,hpre⟩
   ·grind
   ·rw[hs]at hs';simp only[Value.slice.injEq,Option.some.injEq,Addr.mk.injEq,and_true]at hs';obtain⟨rfl,rfl,rfl⟩:=hs';have hlen: ((xs.drop lo).take n).length=n:=by grind
    refine⟨some ⟨b,if m=0 then 0 else lo*t.size,none⟩,m,(css.drop lo).take n, ?_,((hfa.drop lo).take n).mono fun x c hx=>Rd.mono (fun _ _=>rfl) hI t x c hx,fun hne=>⟨b,lo*t.size, ?_,hO b ⟨id,by simp,by grind,ho⟩, ?_⟩, ?_⟩
    ·grind
    ·have:0< ((xs.drop lo).take n).length:=List.length_pos_iff.2 hne
     grind
    ·have:=ZcC.part (off:=0) (l:=lo) (n:=n) (Rd.all_length hfa) (by rw[<-hfa.length];omega) (ZcC.of_vec hh hpre)
     grind
    grind
 ·simp [Zaa]at h
mutual
theorem ZeW(hR:RH B H w g ow)(hI: ∀b,g.I b->I b): ∀ (t:Ty) (v:AV) (cs:List Value) (x:El t) (ids l l' :List Nat),(ZaJ t v).run H l=some ((x,ids),l')->CV w g v cs->(∀b,ZaC H ow ids b->I b)->Rd w I t x cs
 |t, .d t' y,cs,x,ids,l,l',h,hc,_=>by
  simp only[ZaJ,Zac,Zab,Va]at h;obtain⟨z,hz,⟨rfl,rfl⟩,_⟩:=h;obtain⟨rfl,rfl⟩:=Zan hz
  exact Rd.mono (fun _ _=>rfl) hI _ _ cs (by simpa only[CV] using hc)
 |t, .nils,cs,x,ids,l,l',h,hc,hO=>by
  cases t with
  |sl t=>exact Zjw t cs x ids l l' h hc
  |_=>simp [ZaJ,Zaa]at h
 |t, .vw id,cs,x,ids,l,l',h,hc,hO=>by
  cases t with
  |sl t=>exact Znk hR hI t cs x ids l l' h hc hO
  |_=>simp [ZaJ,Zaa]at h
 |t, .vs id lo n,cs,x,ids,l,l',h,hc,hO=>by
  cases t with
  |sl t=>exact Zl7 hR hI t cs x ids l l' h hc hO
  |_=>simp [ZaJ,Zaa]at h
 |t, .nw id ver kt k,cs,x,ids,l,l',h,hc,hO=>by
  cases t with
  |sl t=>exact ZmM hR hI t cs x ids l l' h hc hO
  |_=>simp [ZaJ,Zaa]at h
 |t, .np _ _ _ _ _ _,_,_,_,_,_,h,_,_=>by simp [ZaJ,Zaa]at h
 |t, .agg vs,cs,x,ids,l,l',h,hc,hO=>by
  simp only[ZaJ]at h;simp only[CV]at hc
  exact Zg1 hR hI t vs cs x ids l l' h hc hO
 |t, .junk,_,_,_,_,_,h,_,_=>by simp [ZaJ,Zaa]at h
 |t, .tup _,_,_,_,_,_,h,_,_=>by simp [ZaJ,Zaa]at h
 |t, .dp _ _,_,_,_,_,_,h,_,_=>by simp [ZaJ,Zaa]at h
 |t, .ptr _ _,_,_,_,_,_,h,_,_=>by simp [ZaJ,Zaa]at h
 |t, .vp _ _ _,_,_,_,_,_,h,_,_=>by simp [ZaJ,Zaa]at h
 |t, .mp _,_,_,_,_,_,h,_,_=>by simp [ZaJ,Zaa]at h
 |t, .fn _ _,_,_,_,_,_,h,_,_=>by simp [ZaJ,Zaa]at h
 |t, .nilr,_,_,_,_,_,h,_,_=>by simp [ZaJ,Zaa]at h
 |t, .jk _,_,_,_,_,_,h,_,_=>by simp [ZaJ,Zaa]at h
theorem Zg1(hR:RH B H w g ow)(hI: ∀b,g.I b->I b): ∀ (t:Ty) (v:AVs) (cs:List Value) (x:El t) (ids l l' :List Nat),(ZbI t v).run H l=some ((x,ids),l')->CVs w g v cs->(∀b,ZaC H ow ids b->I b)->Rd w I t x cs
 | .unit, .nil,cs,x,ids,l,l',h,hc,_=>by simpa [CVs,Rd] using hc
 | .prod a b, .cons v vs,cs,x,ids,l,l',h,hc,hO=>by
  simp only[ZbI,Zaj,Zab,Va]at h;obtain⟨⟨x1,i1⟩,m1,h1,⟨x2,i2⟩,m2,h2,⟨rfl,rfl⟩,_⟩:=h;simp only[CVs]at hc;obtain⟨c1,c2,rfl,h3,h4⟩:=hc;simp only[Rd]
  exact⟨c1,c2,rfl,ZeW hR hI a v c1 x1 i1 _ _ h1 h3 fun b hb=>hO b (let ⟨id,hi,hr⟩:=hb;⟨id,by simp [hi],hr⟩),Zg1 hR hI b vs c2 x2 i2 _ _ h2 h4 fun b hb=>hO b (let ⟨id,hi,hr⟩:=hb;⟨id,by simp [hi],hr⟩)⟩
 | .unit, .cons _ _,_,_,_,_,_,h,_,_=>by simp [ZbI,Zaa]at h
 | .prod _ _, .nil,_,_,_,_,_,h,_,_=>by simp [ZbI,Zaa]at h
 | .int _,_,_,_,_,_,_,h,_,_=>by simp [ZbI,Zaa]at h
 | .bool,_,_,_,_,_,_,h,_,_=>by simp [ZbI,Zaa]at h
 | .str,_,_,_,_,_,_,h,_,_=>by simp [ZbI,Zaa]at h
 | .sl _,_,_,_,_,_,_,h,_,_=>by simp [ZbI,Zaa]at h
 | .arr _ _,_,_,_,_,_,_,h,_,_=>by simp [ZbI,Zaa]at h
 | .ref,_,_,_,_,_,_,h,_,_=>by simp [ZbI,Zaa]at h
end
theorem ZjW{t:Ty}{x:El t}{u:Ty}(h: (Zby t x).fits t=true)(_:u=t):t.agg=true:=by
 cases t<;>simp [Zby,AVs.fits]at h<;>rfl
theorem Zg0{t:Ty}{v:AV}{r:El t×List Nat}{l l' :List Nat}(h: (ZaJ t v).run H l=some (r,l')):v≠ .junk/\v.isAgg=t.agg:=by
 cases v with
 |d t' x=>
  simp only[ZaJ,Zac,Zab]at h;obtain⟨z,hz,_⟩:=h;obtain⟨rfl,_⟩:=Zan hz
  exact⟨by simp,rfl⟩
 |agg vs=>
  simp only[ZaJ]at h
  cases t<;>cases vs<;>simp [ZbI,Zaa]at h<;>exact⟨by simp,rfl⟩
 |_=>cases t<;>simp [ZaJ,Zaa]at h<;>exact⟨by simp,rfl⟩
theorem ZnP{i j:List Nat}(h: ∀id∈i,id∈j){b:Nat}(hb:ZaC H ow i b):ZaC H ow j b:=
 let ⟨id,h1,h2⟩:=hb;⟨id,h id h1,h2⟩
theorem RH.freezeIds{ids:List Nat}(hR:RH B H w g ow):RH B (Zad H (ids.map fun id=>(id,none))) w (g.grow (ZaC H ow ids)) ow:=by
 refine(hR.drops ids).grow fun b hb=> ?_;obtain⟨k,h1,h2,h3⟩:=hb;obtain⟨p,q,r⟩:=hR.sep k b h2 h3;refine⟨q, .inr r,fun id hid ho=> ?_⟩;rw[ZcP]at hid;split at hid
 ·grind
 ·rename_i hn;exact hn (hR.dist id k b hid h2 ho h3▸h1)
theorem Ze6{B B0:Zbr}{H0:AH}{w0:World}{g0:Gh}{ow0:Nat->Nat->Prop}(hR:RH B0 H0 w0 g0 ow0){w:World}{g:Gh}(hle:g0.Le g)(hw0: ∀b,g0.I b->w.heap[b]? =w0.heap[b]?): ∀ (br:List Nat) (ds:ZaY) (l l' :List Nat),(Zh0 br).run H0 l=some (ds,l')->(∀id∈br, ∀b,H0 id≠none->ow0 id b->g.I b/\w.heap[b]? =w0.heap[b]?)->
  ∀ {H:AH}{ow:Nat->Nat->Prop},RH B H w g ow-> ∃ow',RH B (Zad H ds) w g ow'
 | [],ds,l,l',h,_,H,ow,hR' =>by
  simp only[Zh0,Zab]at h;obtain⟨rfl,_⟩:=h
  exact⟨ow,hR'⟩
 |id::br,ds,l,l',h,hI,H,ow,hR' =>by
  simp only[Zh0]at h;rw[Zag]at h;split at h
  ·rename_i t xs hH;simp only[Zaj,Zab]at h;obtain⟨p,m,h1,rfl,_⟩:=h;obtain⟨hK,hO⟩:=hR.objs id _ hH;have hne:H0 id≠none:=by grind
   have hr:Rd w g.I (.sl t) xs [g.slv id]:=by rw[hle.slv _ hK];exact Rd.mono (I:=fun b=>g0.I b\/ow0 id b) (fun b hb=>by grind) (fun b hb=>hb.elim (hle.I b) (by grind)) _ _ _ (Zkg hO (by grind) (by grind))
   exact Ze6 hR hle hw0 br p _ _ h1 (by grind) (hR'.putDat (hle.K _ hK) ((hle.ty _ hK).trans hO.1) hr)
  ·rename_i t xs u hH;simp only[Zaj,Zab]at h;obtain⟨p,m,h1,rfl,_⟩:=h;obtain⟨hK,hO⟩:=hR.objs id _ hH;have hne:H0 id≠none:=by grind
   have hr:Rd w g.I (.sl (.sl t)) xs [g.slv id]:=by rw[hle.slv _ hK];exact Rd.mono (I:=fun b=>g0.I b\/ow0 id b) (fun b hb=>by grind) (fun b hb=>hb.elim (hle.I b) (by grind)) _ _ _ (Zi2 hO (by grind) (by grind))
   exact Ze6 hR hle hw0 br p _ _ h1 (by grind) (hR'.putDat (hle.K _ hK) ((hle.ty _ hK).trans hO.1) hr)
  ·exact Ze6 hR hle hw0 br ds _ _ h (by grind) hR'
theorem Did.dats{B:Zbr}{H1:AH}{nid:Nat}{v:AV}{r:Result Next}{ids:List Nat}{ds:ZaY}{l l' :List Nat}(hR:RH B H w g ow)(hds: (Zh0 ids).run H l=some (ds,l'))(h:Did B H1 w (g.grow (ZaC H ow ids)) nid v r):Did B (Zad H1 ds) w (g.grow (ZaC H ow ids)) nid v r:=by obtain⟨val,w',g',ow',h1,h2,h3,h4,h5,h6⟩:=h;obtain⟨ow2,h7⟩:=Ze6 hR ((g.le_grow _).trans h3) (fun b hb=>h4 b (.inl hb)) ids ds _ _ hds (fun id hid b hne hb=>⟨h3.I b (.inr ⟨id,hid,hne,hb⟩),h4 b (.inr ⟨id,hid,hne,hb⟩)⟩) h2;exact⟨val,w',g',ow2,h1,h7,h3,h4,h5,h6⟩
theorem Zg4{a:Act}{e:Ty}(hR:RH B H w g ow)(hF:Fr w g F a.tmps){J:Nat->Prop} : ∀ (ps:List (Nat×Operand)) (qs:List (Nat×AV)) (ids l l' :List Nat),(ZfU e (ps.map fun p=>(p.1,aev F p.2))).run H l=some ((qs,ids),l')->
  (∀b,ZaC H ow ids b->J b)->Fa (fun p q=>q.1=p.1/\VR w (g.grow J) q.2 (a.eval p.2)) ps qs
 | [],qs,ids,l,l',h,_=>by
  simp only[List.map_nil,ZfU,Zab,Va]at h;obtain⟨⟨rfl,_⟩,_⟩:=h
  trivial
 |p::ps,qs,ids,l,l',h,hO=>by
  simp only[List.map_cons,ZfU,Zaj,Zab,Va]at h;obtain⟨⟨x,i1⟩,m1,h1,⟨r,i2⟩,m2,h2,⟨rfl,rfl⟩,_⟩:=h;refine⟨⟨rfl, ?_⟩,Zg4 hR hF ps r i2 _ _ h2 fun b hb=>hO b (ZnP (by grind) hb)⟩;obtain⟨hj,ha⟩:=Zg0 h1
  have hnt: ∀m,aev F p.2≠ .tup m:=by
   intro m hm;rw[hm]at h1
   cases e<;>simp [ZaJ,Zaa]at h1
  have hv:=(hF.eval p.2).to1 hnt;refine .of1 ⟨?_, .inr ?_⟩
  ·simp only[CV];exact ZeW (I:=(g.grow J).I) hR (fun _ h=> .inl h) e _ _ x i1 _ _ h1 hv.1 fun b hb=> .inr (hO b <| ZnP (by grind) hb)
  ·rw[hv.2.resolve_left hj,ha];rfl
end
section ops
variable {P:Program}{E:Env}{B:Zbr}{H:AH}{w:World}{g:Gh}{ow:Nat->Nat->Prop}{nid:Nat}{a:Act}{F:Nat->AV}{v:AV}{patch:ZaY}{rd:List Nat}{o:Oper}
theorem Zl1{T:TypeId}{ps:Array (Nat×Operand)}(hT:Zah P E)(hR:RH B H w g ow)(hF:Fr w g F a.tmps)(ho:o.op= .build T ps)
  (h: (Za1 E nid o.op o.type (aev F)).run H []=some ((v,patch),rd)):Did B (Zad H patch) w g nid v ((execOp a.eval o).run P w):=by
 rw[ho]at h;simp only[Za1,Zac]at h;obtain⟨t,ht,h⟩:=h;have hparts: (ps.map fun(i,x)=>(i,a.eval x)).toList=ps.toList.map fun p=>(p.1,a.eval p.2):=by simp
 have fin: ∀ {cells:Array Value},P.built T (ps.toList.map fun p=>(p.1,a.eval p.2))=some cells->patch=[]->CV w g v cells.toList->v.isAgg=true->Did B (Zad H patch) w g nid v ((execOp a.eval o).run P w):=by intro cells hb hp hv hag;subst hp;refine Did.pure hR (val:= .agg cells) ?_ (VR.of1 ⟨by assumption, .inr (by rw[hag];rfl)⟩);simp only[execOp,ho,Sem.run_bind];rw[run_build w T _ cells (by grind)];rfl
 split at h
 ·rename_i a0 b0;simp only[Zae,Zab,Zaa,and_false,false_or,or_false,Vb,Va]at h;obtain⟨hp,hf,h⟩:=h;obtain⟨cells,h1,h2⟩:=Ziv hT ht hF hp (E.zx T) hf;obtain⟨h3,h4⟩:=Zlw h2;rcases h with ⟨_,h⟩ | ⟨_,⟨rfl,rfl⟩,_⟩
  ·simp only[Zaj,Zab,Va]at h;obtain⟨⟨y,ids⟩,m,hd,⟨rfl,rfl⟩,_⟩:=h;have hle:=g.le_grow (ZaC H ow ids);have hrd:Rd w (g.grow (ZaC H ow ids)).I (.prod a0 b0) y cells.toList:=ZeW hR (fun b hb=>hle.I b hb) _ _ _ _ _ _ _ hd h3 (fun b hb=> .inr hb);refine Did.after_le hle (fun _ h=>h) (Did.pure (val:= .agg cells) hR.freezeIds ?_ (VR.of1 ⟨by assumption, .inr rfl⟩));simp only[execOp,ho,Sem.run_bind];rw[run_build w T _ cells (by grind)];rfl
  grind
 ·rename_i n e;simp only[Zae,Zac,Zab,Zaa,and_false,false_or,Bool.or_eq_false_iff,Vb,Va]at h;obtain⟨⟨hp,hd⟩,l,hl,⟨rfl,rfl⟩,_⟩:=h;obtain⟨Et,hu,hEt⟩:=Zf5 hT ht;obtain⟨i,z,hi,_,_,hz,hzok,_⟩:=(hT.ty T _ ht).info;obtain⟨ie,ze,hie,hsz,_⟩:=(hT.ty Et _ hEt).info
  have hzr:Rd w g.I (.arr n e) (zeroEl (.arr n e)) z.cells.toList:=by unfold ZdR at hzok;rw[show (Ty.arr n e).data=true from hd]at hzok;exact ZeI _ _ hzok
  simp only[Rd]at hzr;obtain⟨_,css,hcss,hfa⟩:=hzr;obtain⟨css',h1,h2⟩:=Zhp (ZgV hF _) hp hl hfa;refine fin (cells:=css'.flatten.toArray) ?_ rfl ?_ rfl
  ·unfold Program.built;have hzc:z.cells=css.flatten.toArray:=by grind
   grind
  ·simp only[CV,Rd];exact⟨(Zb9 hl).1,css',rfl,h2⟩
 ·simp [Zaa]at h
end ops
end Tr
