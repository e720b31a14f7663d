/- Operations on maps, arithmetic, functions, lengths. Conditions: the table of types is the program's. -/
import Derived.Test.YtdpenljjnfmgiaaGreatTrL
open Array renaming getElem?_setIfInBounds ->Vm,toList_push ->Vr
open Bool renaming and_eq_true ->Vb
open Go.Instr renaming mapUpdate ->Vg,lookup ->Vj,keyThatStays ->Vq,makeMap ->Vt
open List renaming ext_getElem? ->Vo
open Nat renaming le_of_ble_eq_true ->Ve,lt_succ_self ->Vk
open Option renaming map_none ->Vh,map_some ->Vi,getD_some ->Vl,bind_some ->Vs
open Prod renaming fst ->Vp
open Prod.mk renaming injEq ->Vf
open Go.Result renaming andThen_ok ->Va
open Go.Sem renaming run_bind ->Vc,run_pure ->Vd,run ->Vn
namespace Tr
open Go
section ops
variable {P:Program}{E:Env}{B:Zbr}{H:AH}{w:World}{g:Gh}{ow:Nat->Nat->Prop}{nid:Nat}{a:Act}{F:Nat->AV}{v:AV}{patch:ZaY}{rd:List Nat}{o:Oper}
theorem ZgF{T K V:TypeId}{r:Option Operand}(hF:Fr w g F a.tmps)(hu:P.underlying T=some (.map K V))(hr: (match r with|none=>true|some x=>(Zba (aev F x)).isSome)=true)(ho:o.op= .makeMap T r):
  (execOp a.eval o).run P w= .ok (.value (.map (some w.heap.size))) (w.alloc (.map #[] 0)):=by
 cases r with
 |none=>simp only[execOp,ho,Vc,Vt,Vh,Vd,Va,run_newObj];rfl
 |some x=>
  have hx:=hF.eval x;simp only at hr
  cases hev:aev F x<;>rw[hev]at hr<;>simp [Zba]at hr
  rename_i t y
  cases t<;>simp at hr
  rw[hev]at hx;simp only[execOp,ho,Vc,Vt,Vi,underlying,run_program,hu,Vd,Va,hx.int,asInt,asIntOf,run_newObj];rfl
theorem ZjG{T:TypeId}{r:Option Operand}(hT:Zah P E)(hR:RH B H w g ow)(hF:Fr w g F a.tmps)(hk: ∀id,g.K id->id<nid\/nid+ZaU<=id)(ho:o.op= .makeMap T r)
  (h: (Za1 E nid o.op o.type (aev F)).run H []=some ((v,patch),rd)):Did B (Zad H patch) w g nid v ((execOp a.eval o).run P w):=by
 rw[ho]at h;simp only[Za1,Zac,Zae]at h;obtain⟨m,hm,h⟩:=h;obtain⟨K,V,hu,hK,hV⟩:=hT.mty T m hm;rcases h with ⟨_,h⟩ | ⟨_,h⟩
 ·split at h
  ·rename_i kt t;simp only[Zae,Zab,Zaa,and_false,or_false,Vf,Vb]at h;obtain⟨⟨hkey,hr⟩,⟨rfl,rfl⟩,_⟩:=h;refine Did.new (t:= .sl t) (sv:=undef) hR hk (val:= .map (some w.heap.size)) (o:= .map #[] 0) (ZgF hF hu hr ho) ?_ ?_
   ·refine⟨by simp [Gh.add],by simp [Gh.add],⟨by simp,by simp,by simp⟩,by simp,fun k _=>by simp [Gh.add],w.heap.size, #[],0,by simp [Gh.add],rfl,Zbi _ _,trivial⟩
   ·refine ZaR ?_ rfl rfl;simp only[CV];exact⟨.inl rfl,w.heap.size,by simp [Gh.add],rfl⟩
  ·simp [Zaa]at h
 simp only[Zab,Zaa,and_false,or_false,Vf,Vb]at h;obtain⟨⟨hkey,hr⟩,⟨rfl,rfl⟩,_⟩:=h;refine Did.new (t:= .unit) (sv:=undef) hR hk (val:= .map (some w.heap.size)) (o:= .map #[] 0) (ZgF hF hu hr ho) ?_ ?_
 ·exact⟨w.heap.size, #[],0,by simp [Gh.add],rfl,Zbi _ _,Bn.empty 0,trivial⟩
 ·refine ZaR ?_ rfl rfl;simp only[CV];exact⟨.inl rfl,w.heap.size,by simp [Gh.add],rfl⟩
theorem Zk7{T:TypeId}{m k:Operand}{ok:Bool}(hT:Zah P E)(hR:RH B H w g ow)(hF:Fr w g F a.tmps)(ho:o.op= .lookup T m k ok)
  (h: (Za1 E nid o.op o.type (aev F)).run H []=some ((v,patch),rd)):Did B (Zad H patch) w g nid v ((execOp a.eval o).run P w):=by
 rw[ho]at h;simp only[Za1,Zac]at h;obtain⟨mt,hmty,h⟩:=h;obtain⟨K,V,hu,hK,hV⟩:=hT.mty T mt hmty;have hm:=hF.eval m;have hkk:=hF.eval k;split at h
 ·rename_i id kt x hm' hk';rw[Zag]at h;split at h
  ·rename_i kt' vt es hH;simp only[Zae,Zac,Zab,Zaa,and_false,or_false,Vb,beq_iff_eq,Vf]at h;obtain⟨⟨⟨⟨hkey,rfl⟩,rfl⟩,hdat⟩,y,hy,⟨rfl,rfl⟩,_⟩:=h;obtain⟨rfl,rfl⟩:=Zan hy;obtain⟨hid,b,hb,hv⟩:=(hm' ▸hm).mp;obtain⟨_,b',mes,clock,hb',hJ,hh,hbn,hfa⟩:=hR.objs id _ hH;rw[hb]at hb';cases hb';rw[hk']at hkk;have hkv:VR1 w g (.d mt.1 y) (a.eval k):=hkk
   have hck:=ZcH (w:=w) hT mes.isEmpty _ mt.1 K y (a.eval k) 10000 (Vk _) hK (by simp only[Ty.keyOk,Vb]at hkey;grind) (by simp only[Ty.keyOk,Vb]at hkey;have:=Ve hkey.2;omega) hkv
   have hfk:=Zdx hT hK hkey hkv es mes.toList (hfa.mono (by grind));have hget: (getObj b).run P w= .ok (.map mes clock) w:=by simp only[getObj,Vn,hh]
   obtain⟨z,hz,hzv⟩:=(hT.ty V mt.2 hV).run_zero w;have hz1:=(hzv w g).1;have hz1:=ZoC hdat hz1
   have hlk: ∃u,(Vj T (a.eval m) (a.eval k) ok).run P w= .ok (if ok then .tuple #[u, .bool (Zaw (Zai mt.1) y es).isSome] else u) w/\VR1 w g (.d mt.2 ((Zaw (Zai mt.1) y es).getD (zeroEl mt.2))) u:=by
    rw[Zc2]
    cases hi:ZcB (Zai mt.1) y es with
    |none=>
     rw[hi]at hfk;refine⟨z, ?_,by grind⟩;simp only[Vj,underlying,Vc,run_program,Va,hu,Vd,hv,hget,hck,hfk,Vh,hz]
     rfl
    |some j=>
     rw[hi]at hfk;obtain⟨e,he,_⟩:=Zcf _ _ _ _ hi;obtain⟨me,hme,h1,h2⟩:=hfa.get j e he;refine⟨me.val, ?_,by grind⟩;simp only[Vj,underlying,Vc,run_program,Va,hu,Vd,hv,hget,hck,hfk,Vi,hme,Vl,Vs,he];rfl
   obtain⟨u,hl1,hl2⟩:=hlk
   refine Did.pure (val:=if ok then .tuple #[u, .bool (Zaw (Zai mt.1) y es).isSome] else u) hR ?_ ?_
   ·simp only[execOp,ho,Vc,hl1,Va,Vd]
   ·cases ok with
    |true=>exact⟨[u, .bool _],rfl,u,_,rfl,hl2, .bool _,[],rfl,Zbe _,rfl⟩
    |false=>assumption
  ·rename_i kt' t es u0 hH;simp only[Zae,Zac,Zab,Zaa,and_false,or_false,Vb,beq_iff_eq,Vf]at h;obtain⟨⟨⟨hkey,hmt1⟩,hmt2⟩,y,hy,⟨rfl,rfl⟩,_⟩:=h;obtain⟨rfl,rfl⟩:=Zan hy;obtain⟨hid,b,hb,hv⟩:=(hm' ▸hm).mp;obtain⟨_,hty,hver,hrf,hnd,habs,b',mes,clock,hb',hJ,hh,hfa⟩:=hR.objs id _ hH;rw[hb]at hb';cases hb';rw[hk']at hkk;have hkv:VR1 w g (.d kt y) (a.eval k):=hkk;rw[hmt1]at hK;rw[hmt2]at hV
   have hck:=ZcH (w:=w) hT mes.isEmpty _ kt K y (a.eval k) 10000 (Vk _) hK (Zcs hkey) (by simp only[Ty.keyOk,Vb]at hkey;have:=Ve hkey.2;omega) hkv
   have hfk:=Zdx hT hK hkey hkv es mes.toList (hfa.mono (by grind));have hget: (getObj b).run P w= .ok (.map mes clock) w:=by simp only[getObj,Vn,hh]
   have hz:=ZhQ (hT.ty V (.sl t) hV) w
   have hlk: (Vj T (a.eval m) (a.eval k) ok).run P w= .ok (if ok then .tuple #[g.row id kt y, .bool (Zaw (Zai kt) y es).isSome] else g.row id kt y) w/\(g.row id kt y).oneCell'=true/\Zav (g.row id kt y)=false:=by
    rw[Zc2]
    cases hi:ZcB (Zai kt) y es with
    |none=>
     rw[hi]at hfk;have hrow:g.row id kt y= .slice none 0 0:=habs y (Zd9 (Zcs hkey) (by rw[Zc2,hi];rfl));rw[hrow];refine⟨?_,rfl,rfl⟩;simp only[Vj,underlying,Vc,run_program,Va,hu,Vd,hv,hget,hck,hfk,Vh,hz]
     rfl
    |some j=>
     rw[hi]at hfk;obtain⟨e,he,heq⟩:=Zcf _ _ _ _ hi;have he1:=(ZaP (Zcs hkey)).1 heq;obtain⟨me,hme,h1,h2⟩:=hfa.get j e he;rw[<-he1]at h2;have hro:=(hrf.rd y e.2 (by grind) (by simp)).one;refine⟨?_,hro⟩;simp only[Vj,underlying,Vc,run_program,Va,hu,Vd,hv,hget,hck,hfk,Vi,hme,Vl,Vs,he,h2];rfl
   obtain⟨hl1,hl2,hl3⟩:=hlk;have hview:VR1 w g (.nw id u0 kt y) (g.row id kt y):=VR.to1 (ZaR (a:= .nw id u0 kt y) (by simp only[CV];grind) hl2 rfl) (by simp)
   refine Did.pure (val:=if ok then .tuple #[g.row id kt y, .bool (Zaw (Zai kt) y es).isSome] else g.row id kt y) hR ?_ ?_
   ·simp only[execOp,ho,Vc,hl1,Va,Vd]
   ·cases ok with
    |true=>exact⟨[g.row id kt y, .bool _],rfl,g.row id kt y,_,rfl,hview, .bool _,[],rfl,Zbe _,rfl⟩
    |false=>assumption
  ·simp [Zaa]at h
 ·simp [Zaa]at h
theorem Zdz(v:Value): ∃w',(Vq v v).run P w= .ok v w' /\ZaM w w' :=by
 unfold Vq
 cases Instr.sameBits 10000 v v with
 |true=>exact⟨w,rfl, .refl w⟩
 |false=>
  refine⟨{w with drawn:=w.drawn+1}, ?_,⟨rfl,rfl,rfl,⟨rfl,by simp⟩⟩⟩;simp only[Bool.false_eq_true,if_false,Vc,run_choose,Question.forced,Vd,ite_self];rfl
theorem ZhW{T:TypeId}{m k x:Operand}(hT:Zah P E)(hR:RH B H w g ow)(hF:Fr w g F a.tmps)(ho:o.op= .mapUpdate T m k x)
  (h: (Za1 E nid o.op o.type (aev F)).run H []=some ((v,patch),rd)):Did B (Zad H patch) w g nid v ((execOp a.eval o).run P w):=by
 rw[ho]at h;simp only[Za1,Zac]at h;obtain⟨mt,hmty,h⟩:=h;obtain⟨K,V,hu,hK,hV⟩:=hT.mty T mt hmty;have hm:=hF.eval m;have hkk:=hF.eval k;have hxx:=hF.eval x;split at h
 ·rename_i id kt y0 vt z0 hm' hk' hx';rw[Zag]at h;split at h
  ·rename_i kt' vt' es hH;simp only[Zae,Zac,Zab,Zaa,and_false,or_false,Vb,beq_iff_eq,Vf]at h;obtain⟨⟨hkey,rfl⟩,y,hy,u,hu',⟨rfl,rfl⟩,_⟩:=h;obtain⟨rfl,rfl⟩:=Zan hy;obtain⟨rfl,rfl⟩:=Zan hu';obtain⟨hid,b,hb,hv⟩:=(hm' ▸hm).mp;obtain⟨_,b',mes,clock,hb',hJ,hh,hbn,hfa⟩:=hR.objs id _ hH;rw[hb]at hb';cases hb';rw[hk']at hkk;rw[hx']at hxx;have hkv:VR1 w g (.d mt.1 y) (a.eval k):=hkk;have hxv:VR1 w g (.d vt u) (a.eval x):=hxx
   have hck:=ZcH (w:=w) hT false _ mt.1 K y (a.eval k) 10000 (Vk _) hK (by simp only[Ty.keyOk,Vb]at hkey;grind) (by simp only[Ty.keyOk,Vb]at hkey;have:=Ve hkey.2;omega) hkv
   have hfk:=Zdx hT hK hkey hkv es mes.toList (hfa.mono (by grind));have hget: (getObj b).run P w= .ok (.map mes clock) w:=by simp only[getObj,Vn,hh]
   have fin: ∀ (w1:World) (es' :Array MapEntry) (c' :Nat),ZaM w w1->(Vg T (a.eval m) (a.eval k) (a.eval x)).run P w= .ok () {w1 with heap:=w1.heap.setIfInBounds b (.map es' c') } ->Bn es' c' ->
     Zre w g mt.1 vt (ZaS (Zai mt.1) y u es) es'.toList->Did B (Zad H [(id,some (.map mt.1 vt (ZaS (Zai mt.1) y u es)))]) w g nid .junk ((execOp a.eval o).run P w):=by
    intro w1 es' c' hs hrun hbn' hents;have hR1:=hR.same hs
    have hheap: ∀k,k≠b->({w1 with heap:=w1.heap.setIfInBounds b (.map es' c') } :World).heap[k]? =w1.heap[k]? :=by
     grind
    have hsep:=hR.sep id b (by grind) hJ
    have hag:ZaV g.I w {w1 with heap:=w1.heap.setIfInBounds b (.map es' c') } :=fun k hk=>by rw[hheap k (by grind),hs.heap]
    have hag1:ZaV g.I w1 {w1 with heap:=w1.heap.setIfInBounds b (.map es' c') } :=fun k hk=>by grind
    refine⟨undef,_,g,ow, .inr ⟨?_,rfl⟩,hR1.write (by grind) hJ hheap (by simp) rfl rfl ⟨rfl,Nat.le_refl _⟩ ?_, .refl g,hag,Zdj,by grind⟩
    ·simp only[execOp,ho,Vc,hrun,Va,Vd]
    ·refine⟨b,es',c',hb,hJ, ?_,hbn',hents.mono fun p e hp=>⟨hp.1.mono hag (.refl g),hp.2.mono hag (.refl g)⟩⟩;show (w1.heap.setIfInBounds b _)[b]? =_;rw[Vm,if_pos rfl,if_pos (by rw[hs.heap];omega)]
   cases hi:ZcB (Zai mt.1) y es with
   |none=>
    rw[hi]at hfk;refine fin w (mes.push {key:=a.eval k,val:=a.eval x,born:=clock}) (clock+1) (.refl w) ?_ (hbn.push rfl) ?_
    ·simp only[Vg,underlying,Vc,run_program,Va,hu,Vd,hv,hget,hck,hfk,Vh];simp only[setObj,Vn,hh]
    ·rw[Zc6,hi,Vr]
     exact hfa.append ⟨⟨hkv,hxv⟩,trivial⟩
   |some j=>
    rw[hi]at hfk;obtain⟨e,he,heq⟩:=Zcf _ _ _ _ hi;obtain⟨me,hme,h1,h2⟩:=hfa.get j e he
    have hkeq:y=e.1:=by
     unfold Zai at heq
     cases hq:ZbC mt.1 y e.1 with
     |none=>grind
     |some r=>rw[hq]at heq;simp at heq;subst heq;exact Zij _ _ _ hq
    have hkv2:me.key=a.eval k:=Zm1 (t:=mt.1) (x:=y) (by simp only[Ty.keyOk,Vb]at hkey;grind) (hkeq▸h1) hkv;obtain⟨w1,hw1,hs⟩:=Zdz (P:=P) (w:=w) (a.eval k);have hme' :mes[j]? =some me:=by grind
    refine fin w1 (mes.modify j fun e=> {e with key:=a.eval k,val:=a.eval x}) clock hs ?_ (hbn.same ?_) ?_
    ·simp only[Vg,underlying,Vc,run_program,Va,hu,Vd,hv,hget,hck,hfk,Vi,hme',hkv2,Vl,hw1];have hh1:w1.heap[b]? =some (.map mes clock):=by rw[hs.heap];omega
     simp only[setObj,Vn,hh1]
    ·apply Vo
     grind
    ·rw[Zc6,hi]
     have: (mes.modify j fun e=> {e with key:=a.eval k,val:=a.eval x}).toList=mes.toList.set j {me with key:=a.eval k,val:=a.eval x} :=by
      apply Vo
      grind
     rw[this];exact hfa.set j ⟨hkv,hxv⟩
  ·simp [Zaa]at h
 ·rename_i id kt y0 i2 hm' hk' hx';rw[Zag]at h;split at h
  ·rename_i kt' t es u hole hH;simp only[Zae,Zac,Zaj,Zab,Zaa,and_false,or_false,Vb,beq_iff_eq,Vf]at h;obtain⟨⟨⟨⟨hkey,hmt1⟩,hmt2⟩,hlt⟩,y,hy,_,hho,⟨ys,ids⟩,m2,hown,⟨rfl,rfl⟩,_⟩:=h;obtain⟨rfl,rfl⟩:=Zan hy;have hlt:=Ve hlt;obtain⟨hid,b,hb,hv⟩:=(hm' ▸hm).mp;have hidl:H id≠none:=by grind
   obtain⟨_,hty,hver,hrf,hnd,habs,b',mes,clock,hb',hJ,hh,hfa⟩:=hR.objs id _ hH;rw[hb]at hb';cases hb';rw[hk']at hkk;have hkv:VR1 w g (.d kt y) (a.eval k):=hkk;rw[hmt1]at hK;have hkk2:=Zcs hkey;have hrowv:=Zdq hR (hx' ▸hxx) hown
   have hck:=ZcH (w:=w) hT false _ kt K y (a.eval k) 10000 (Vk _) hK hkk2 (by simp only[Ty.keyOk,Vb]at hkey;have:=Ve hkey.2;omega) hkv
   have hfk:=Zdx hT hK hkey hkv es mes.toList (hfa.mono (by grind));have hget: (getObj b).run P w= .ok (.map mes clock) w:=by simp only[getObj,Vn,hh]
   have hhole:hole=none\/hole=some y:=by
    cases hole with
    |none=>simp
    |some j=>exact .inr (by rw[(ZaP hkk2).1 (ZaK hho)])
   have hidn:id ∉ ids:=fun hm=>by
    simp only[Zbq]at hown;rw[Zag]at hown;split at hown
    ·rename_i hk2;simp only[Zac,Zab,Vf]at hown
     grind
    ·simp [Zaa]at hown
   have hlive: ∀k,Zad H (ids.map fun id=>(id,none)) k≠none->k ∉ ids/\H k≠none:=by
    intro k hk;rw[ZcP]at hk
    grind
   have hnb: ∀b',ZaC H ow ids b' -> ¬ow id b' :=fun b' ⟨k,h1,h2,h3⟩ h4=>hidn (hR.dist id k b' hidl h2 h4 h3▸h1)
   let row' : (kt' :Ty)->El kt' ->Value:=fun kt' k=>if h:kt' =kt then(if Zai kt (h▸k) y then a.eval x else g.row id kt' k) else g.row id kt' k
   have hrow' : ∀k,k≠y->row' kt k=g.row id kt k:=fun k hk=>by
    have:Zai kt k y=false:=by
     cases hq:Zai kt k y
     ·rfl
     ·exact absurd ((ZaP hkk2).1 hq) hk
    grind
   have hrowy:row' kt y=a.eval x:=by simp [row',(ZaP hkk2).2 rfl]
   have fin: ∀ (w1:World) (es' :Array MapEntry) (c' :Nat),ZaM w w1->(Vg T (a.eval m) (a.eval k) (a.eval x)).run P w= .ok () {w1 with heap:=w1.heap.setIfInBounds b (.map es' c') } ->
     (∀w2,ZaV g.I w w2->Fa (fun kv (e:MapEntry)=>VR1 w2 g (.d kt kv.1) e.key/\e.val=row' kt kv.1) (ZaS (Zai kt) y ys es) es'.toList)->Did B (Zad H (ids.map (fun id=>(id,none))++[(id,some (.mrows kt t (ZaS (Zai kt) y ys es) nid none))])) w g nid .junk ((execOp a.eval o).run P w):=by
    intro w1 es' c' hs hrun hents;have hR1:RH B (Zad H (ids.map fun id=>(id,none))) w1 g ow:=(hR.drops ids).same hs
    have hheap: ∀k,k≠b->({w1 with heap:=w1.heap.setIfInBounds b (.map es' c') } :World).heap[k]? =w1.heap[k]? :=by
     grind
    have hsep:=hR.sep id b hidl hJ
    have hag:ZaV g.I w {w1 with heap:=w1.heap.setIfInBounds b (.map es' c') } :=fun k hk=>by rw[hheap k (by grind),hs.heap]
    have hother: ∀k,k≠b->({w1 with heap:=w1.heap.setIfInBounds b (.map es' c') } :World).heap[k]? =w.heap[k]? :=fun k hk=>by rw[hheap k hk,hs.heap]
    have hcell: ∀ {J:Nat->Prop}{x:List (El t)}{hd:Value},Ze8 w g.I J t x hd-> ∀b',ZeN hd=some b' ->b' ≠b:=by
     intro J x hd hr b' hb' e;subst e;rcases hr with ⟨_,rfl⟩ | ⟨b2,cap,cells,e,css,rfl,_,h3,_⟩
     ·simp [ZeN]at hb'
     ·simp only[ZeN,Option.some.injEq]at hb'
      grind
    rw[Zau];refine⟨undef, {w1 with heap:=w1.heap.setIfInBounds b (.map es' c') },g.bump id nid row',Zc4 ow id (fun b' =>ow id b' \/ZaC H ow ids b'), .inr ⟨?_,rfl⟩, ?_,Gh.le_bump (by omega),hag,Zdj,fun _ h=> .inl h⟩
    ·simp only[execOp,ho,Vc,hrun,Va,Vd]
    refine hR1.bump (id:=id) (v:=nid) hid (by omega) (fun b' hb' => ?_) (by simp) rfl rfl ⟨rfl,Nat.le_refl _⟩ (fun b' h1 h2=>hheap b' fun e=> ?_) (fun b' hb' => ?_) ?_
    ·rcases hb' with hb' | ⟨k,hk,h1,h2⟩
     ·grind
     ·refine hheap b' fun e=>hk ?_;subst e;exact(hR.dist id k b' hidl (hlive k h1).2 hJ h2).symm
    ·grind
    ·have hsz: ({w1 with heap:=w1.heap.setIfInBounds b (.map es' c') } :World).heap.size=w.heap.size:=by show (w1.heap.setIfInBounds b _).size=_;rw[<-hs.heap];simp
     rw[hsz];rcases hb' with hb' | ⟨k,h1,h2,h3⟩
     ·obtain⟨p,q,r⟩:=hR.sep id b' hidl hb';exact⟨p,q,r,fun k hk h4 h5=>hk (hR.dist k id b' (hlive k h4).2 hidl h5 hb')⟩
     ·obtain⟨p,q,r⟩:=hR.sep k b' h2 h3;refine⟨p,q,r,fun k' hk h4 h5=>(hlive k' h4).1 ?_⟩;have:=hR.dist k' k b' (by grind) h2 h5 h3
      grind
    ·have hrowE: (g.bump id nid row').row id kt=row' kt:=by show (if id=id then row' else g.row id) kt=_;simp
     refine⟨hty,if_pos rfl, ?_,Zer hkk2 hnd,fun q hq=> ?_,b,es',c',hb, .inl hJ, ?_, ?_⟩
     ·rw[hrowE];refine hrf.put (k0:=y) (x0:=ys) hrow' (fun j x hx=>ZeV hkk2 hnd hx) hhole ?_ (fun j x hx hj hr=> ?_) fun b' hb' => ?_
      ·rw[hrowy];exact hrowv.mono hag (by simp) (by grind) (by grind)
      ·exact hr.mono hag (by simp) (by grind) (by grind)
      ·rw[hrowy]at hb';have hob:=hrowv.own hb';refine⟨fun j x hx hj hbj=>hnb b' hob ?_,by grind⟩;have hne:hole≠some j:=by grind
       exact(hrf.rd j x hx hne).own hbj
     ·rw[hrowE]
      have hin:y∈(ZaS (Zai kt) y ys es).map Vp:=by
       by_cases h:y∈es.map Vp
       ·rw[(ZbD hkk2).1 h];exact h
       ·rw[(ZbD hkk2).2 h];simp
      rw[hrow' q (by grind)];refine habs q fun h=>hq ?_;by_cases h2:y∈es.map Vp
      ·rw[(ZbD hkk2).1 h2];exact h
      ·rw[(ZbD hkk2).2 h2,List.map_append];grind
     ·show (w1.heap.setIfInBounds b _)[b]? =_;rw[Vm,if_pos rfl,if_pos (by rw[hs.heap];omega)]
     ·rw[hrowE];exact(hents _ hag).mono fun kv e hx=>⟨⟨by have:=hx.1.1;assumption,hx.1.2⟩,hx.2⟩
   have hkv' : ∀w2,ZaV g.I w w2->VR1 w2 g (.d kt y) (a.eval k):=fun w2 hag=>hkv.mono hag (.refl g)
   cases hi:ZcB (Zai kt) y es with
   |none=>
    rw[hi]at hfk;have hni:y ∉ es.map Vp:=Zd9 hkk2 (by rw[Zc2,hi];rfl);refine fin w (mes.push {key:=a.eval k,val:=a.eval x,born:=clock}) (clock+1) (.refl w) ?_ fun w2 hag=> ?_
    ·simp only[Vg,underlying,Vc,run_program,Va,hu,Vd,hv,hget,hck,hfk,Vh];simp only[setObj,Vn,hh]
    ·rw[Zc6,hi,Vr];refine(Zix hfa.length fun n kv e h1 h2=> ?_ :Fa _ es mes.toList).append ⟨by grind,trivial⟩;have:=Zj6 hfa h1 h2;refine⟨this.1.mono hag (.refl g), ?_⟩
     grind
   |some j=>
    rw[hi]at hfk;obtain⟨e,he,heq⟩:=Zcf _ _ _ _ hi;have hkeq:=(ZaP hkk2).1 heq;obtain⟨me,hme,h1,h2⟩:=hfa.get j e he;have hkv2:me.key=a.eval k:=Zm1 (t:=kt) (x:=y) hkk2 (hkeq▸h1) hkv;obtain⟨w1,hw1,hs⟩:=Zdz (P:=P) (w:=w) (a.eval k);have hme' :mes[j]? =some me:=by grind
    refine fin w1 (mes.modify j fun e=> {e with key:=a.eval k,val:=a.eval x}) clock hs ?_ fun w2 hag=> ?_
    ·simp only[Vg,underlying,Vc,run_program,Va,hu,Vd,hv,hget,hck,hfk,Vi,hme',hkv2,Vl,hw1];have hh1:w1.heap[b]? =some (.map mes clock):=by rw[hs.heap];omega
     simp only[setObj,Vn,hh1]
    ·rw[Zc6,hi]
     have: (mes.modify j fun e=> {e with key:=a.eval k,val:=a.eval x}).toList=mes.toList.set j {me with key:=a.eval k,val:=a.eval x} :=by
      apply Vo
      grind
     rw[this];refine Zix (by simp [hfa.length]) fun n kv en g1 g2=> ?_;rw[List.getElem?_set]at g1 g2;split at g1
     ·grind
     ·rename_i hjn;rw[if_neg hjn]at g2;have:=Zj6 hfa g1 g2;refine⟨this.1.mono hag (.refl g), ?_⟩;rw[hrow' kv.1 fun e4=>hjn ?_]
      ·grind
      ·have hk1: (es.map Vp)[j]? =some y:=by grind
       have hk2: (es.map Vp)[n]? =some y:=by grind
       exact(List.getElem?_inj (by grind) hnd).1 (hk1.trans hk2.symm)
  ·simp [Zaa]at h
 ·simp [Zaa]at h
end ops
end Tr
