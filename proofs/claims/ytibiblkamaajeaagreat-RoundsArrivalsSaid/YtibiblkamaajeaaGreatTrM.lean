/- Operations on maps, arithmetic, functions, lengths. Conditions: the table of types is the program's. -/
import Derived.Test.YtibiblkamaajeaaGreatTrL
open Array renaming getElem?_toList ->Ve,getElem?_setIfInBounds ->Vf,getElem?_modify ->Vq,getElem?_eq_some_iff ->Vr,toList_push ->Vy
open Bool renaming and_eq_true ->Vb
open Go.Instr renaming mapUpdate ->Vi,lookup ->Vm,keyThatStays ->Vx,makeMap ->Vba
open List renaming getElem?_eq_some_iff ->Vj,getElem?_map ->Vn,ext_getElem? ->Vt,getElem?_set ->Vu,mem_of_getElem? ->Vw
open Nat renaming le_of_ble_eq_true ->Vg,lt_succ_self ->Vo,le_refl ->Vaa
open Option renaming map_none ->Vk,map_some ->Vl,getD_some ->Vp,bind_some ->Vz
open Prod renaming fst ->Vv
open Prod.mk renaming injEq ->Vh
open Go.Result renaming andThen_ok ->Va
open Go.Sem renaming run_bind ->Vc,run_pure ->Vd,run ->Vs
namespace Tr
open Go
section ops
variable {P:Program}{E:Env}{B:Zcq}{H:AH}{w:World}{g:Gh}{ow:Nat->Nat->Prop}{nid:Nat}{a:Act}{F:Nat->AV}{v:AV}{patch:Zbu}{rd:List Nat}{o:Oper}
theorem ZiY{T K V:TypeId}{r:Option Operand}(hF:Fr w g F a.tmps)(hu:P.underlying T=some (.map K V))(hr: (match r with|none=>true|some x=>(Zb2 (aev F x)).isSome)=true)(ho:o.op= .makeMap T r):
  (execOp a.eval o).run P w= .ok (.value (.map (some w.heap.size))) (w.alloc (.map #[] 0)):=by
 cases r with
 |none=>simp only[execOp,ho,Vc,Vba,Vk,Vd,Va,run_newObj];rfl
 |some x=>
  have hx:=hF.eval x;simp only at hr
  cases hev:aev F x<;>rw[hev]at hr<;>simp [Zb2]at hr
  rename_i t y
  cases t<;>simp at hr
  rw[hev]at hx;simp only[execOp,ho,Vc,Vba,Vl,underlying,run_program,hu,Vd,Va,hx.int,asInt,asIntOf,run_newObj];rfl
theorem Zoq{T:TypeId}{r:Option Operand}(hT:ZaB P E)(hR:RH B H w g ow)(hF:Fr w g F a.tmps)(hk: ∀id,g.K id->id<nid\/nid+ZaI<=id)(ho:o.op= .makeMap T r)
  (h: (aop E nid o.op o.type (aev F)).run H []=some ((v,patch),rd)):Did B (Zag H patch) w g nid v ((execOp a.eval o).run P w):=by
 rw[ho]at h;simp only[aop,Zah,Zao]at h;obtain⟨m,hm,h⟩:=h;obtain⟨K,V,hu,hK,hV⟩:=hT.mty T m hm;rcases h with ⟨_,h⟩ | ⟨_,h⟩
 ·split at h
  ·rename_i kt t;simp only[Zao,Zab,Zaa,and_false,or_false,Vh,Vb]at h;obtain⟨⟨hkey,hr⟩,⟨rfl,rfl⟩,_⟩:=h;refine Did.new (t:= .sl t) (sv:=undef) hR hk (val:= .map (some w.heap.size)) (o:= .map #[] 0) (ZiY hF hu hr ho) ?_ ?_
   ·refine⟨by simp [Gh.add],by simp [Gh.add],⟨fun k x h=>by simp at h,fun k k' x x' b h=>by simp at h,fun k x b h=>by simp at h⟩,by simp,fun k _=>by simp [Gh.add],w.heap.size, #[],0,by simp [Gh.add],rfl,Zct _ _,trivial⟩
   ·refine Zbj ?_ rfl rfl;simp only[CV];exact⟨.inl rfl,w.heap.size,by simp [Gh.add],rfl⟩
  ·simp [Zaa]at h
 simp only[Zab,Zaa,and_false,or_false,Vh,Vb]at h;obtain⟨⟨hkey,hr⟩,⟨rfl,rfl⟩,_⟩:=h;refine Did.new (t:= .unit) (sv:=undef) hR hk (val:= .map (some w.heap.size)) (o:= .map #[] 0) (ZiY hF hu hr ho) ?_ ?_
 ·exact⟨w.heap.size, #[],0,by simp [Gh.add],rfl,Zct _ _,Bn.empty 0,trivial⟩
 ·refine Zbj ?_ rfl rfl;simp only[CV];exact⟨.inl rfl,w.heap.size,by simp [Gh.add],rfl⟩
theorem Zp4{T:TypeId}{m k:Operand}{ok:Bool}(hT:ZaB P E)(hR:RH B H w g ow)(hF:Fr w g F a.tmps)(ho:o.op= .lookup T m k ok)
  (h: (aop E nid o.op o.type (aev F)).run H []=some ((v,patch),rd)):Did B (Zag H patch) w g nid v ((execOp a.eval o).run P w):=by
 rw[ho]at h;simp only[aop,Zah]at h;obtain⟨mt,hmty,h⟩:=h;obtain⟨K,V,hu,hK,hV⟩:=hT.mty T mt hmty;have hm:=hF.eval m;have hkk:=hF.eval k;split at h
 ·rename_i id kt x hm' hk';rw[Zap]at h;split at h
  ·rename_i kt' vt es hH;simp only[Zao,Zah,Zab,Zaa,and_false,or_false,Vb,beq_iff_eq,Vh]at h;obtain⟨⟨⟨⟨hkey,rfl⟩,rfl⟩,hdat⟩,y,hy,⟨rfl,rfl⟩,_⟩:=h;obtain⟨rfl,rfl⟩:=ZaA hy;obtain⟨hid,b,hb,hv⟩:=(hm' ▸hm).mp;obtain⟨_,b',mes,clock,hb',hJ,hh,hbn,hfa⟩:=hR.objs id _ hH;rw[hb]at hb';cases hb';rw[hk']at hkk;have hkv:VR1 w g (.d mt.1 y) (a.eval k):=hkk
   have hck:=Zd2 (w:=w) hT mes.isEmpty _ mt.1 K y (a.eval k) 10000 (Vo _) hK (by simp only[Ty.keyOk,Vb]at hkey;exact hkey.1) (by simp only[Ty.keyOk,Vb]at hkey;have:=Vg hkey.2;omega) hkv
   have hfk:=ZeT hT hK hkey hkv es mes.toList (hfa.mono fun _ _ h=>h.1);have hget: (getObj b).run P w= .ok (.map mes clock) w:=by simp only[getObj,Vs,hh]
   obtain⟨z,hz,hzv⟩:=(hT.ty V mt.2 hV).run_zero w;have hz1:=(hzv w g).1;have hz1:=Zuq hdat hz1
   have hlk: ∃u,(Vm T (a.eval m) (a.eval k) ok).run P w= .ok (if ok then .tuple #[u, .bool (ZaL (Zaq mt.1) y es).isSome] else u) w/\VR1 w g (.d mt.2 ((ZaL (Zaq mt.1) y es).getD (ZbB mt.2))) u:=by
    rw[Zel]
    cases hi:ZdO (Zaq mt.1) y es with
    |none=>
     rw[hi]at hfk;refine⟨z, ?_,by simpa using hz1⟩;simp only[Vm,underlying,Vc,run_program,Va,hu,Vd,hv,hget,hck,hfk,Vk,hz]
     cases ok<;>rfl
    |some j=>
     rw[hi]at hfk;obtain⟨e,he,_⟩:=Zds _ _ _ _ hi;obtain⟨me,hme,h1,h2⟩:=hfa.get j e he;refine⟨me.val, ?_,by simpa [he] using h2⟩;simp only[Vm,underlying,Vc,run_program,Va,hu,Vd,hv,hget,hck,hfk,Vl,hme,Vp,Vz,he]
     cases ok<;>rfl
   obtain⟨u,hl1,hl2⟩:=hlk
   refine Did.pure (val:=if ok then .tuple #[u, .bool (ZaL (Zaq mt.1) y es).isSome] else u) hR ?_ ?_
   ·simp only[execOp,ho,Vc,hl1,Va,Vd]
   ·cases ok with
    |true=>exact⟨[u, .bool _],rfl,u,_,rfl,hl2, .bool _,[],rfl,Zch _,rfl⟩
    |false=>exact VR.of1 hl2
  ·rename_i kt' t es u0 hH;simp only[Zao,Zah,Zab,Zaa,and_false,or_false,Vb,beq_iff_eq,Vh]at h;obtain⟨⟨⟨hkey,hmt1⟩,hmt2⟩,y,hy,⟨rfl,rfl⟩,_⟩:=h;obtain⟨rfl,rfl⟩:=ZaA hy;obtain⟨hid,b,hb,hv⟩:=(hm' ▸hm).mp;obtain⟨_,hty,hver,hrf,hnd,habs,b',mes,clock,hb',hJ,hh,hfa⟩:=hR.objs id _ hH;rw[hb]at hb';cases hb';rw[hk']at hkk;have hkv:VR1 w g (.d kt y) (a.eval k):=hkk;rw[hmt1]at hK;rw[hmt2]at hV
   have hck:=Zd2 (w:=w) hT mes.isEmpty _ kt K y (a.eval k) 10000 (Vo _) hK (ZdI hkey) (by simp only[Ty.keyOk,Vb]at hkey;have:=Vg hkey.2;omega) hkv
   have hfk:=ZeT hT hK hkey hkv es mes.toList (hfa.mono fun _ _ h=>h.1);have hget: (getObj b).run P w= .ok (.map mes clock) w:=by simp only[getObj,Vs,hh]
   have hz:=ZnB (hT.ty V (.sl t) hV) w
   have hlk: (Vm T (a.eval m) (a.eval k) ok).run P w= .ok (if ok then .tuple #[g.row id kt y, .bool (ZaL (Zaq kt) y es).isSome] else g.row id kt y) w/\(g.row id kt y).oneCell'=true/\ZaP (g.row id kt y)=false:=by
    rw[Zel]
    cases hi:ZdO (Zaq kt) y es with
    |none=>
     rw[hi]at hfk;have hrow:g.row id kt y= .slice none 0 0:=habs y (Zf9 (ZdI hkey) (by rw[Zel,hi];rfl));rw[hrow];refine⟨?_,rfl,rfl⟩;simp only[Vm,underlying,Vc,run_program,Va,hu,Vd,hv,hget,hck,hfk,Vk,hz]
     cases ok<;>rfl
    |some j=>
     rw[hi]at hfk;obtain⟨e,he,heq⟩:=Zds _ _ _ _ hi;have he1:=(Zba (ZdI hkey)).1 heq;obtain⟨me,hme,h1,h2⟩:=hfa.get j e he;rw[<-he1]at h2;have hro:=(hrf.rd y e.2 (by rw[he1];exact Vw he) (by simp)).one;refine⟨?_,hro⟩;simp only[Vm,underlying,Vc,run_program,Va,hu,Vd,hv,hget,hck,hfk,Vl,hme,Vp,Vz,he,h2]
     cases ok<;>rfl
   obtain⟨hl1,hl2,hl3⟩:=hlk;have hview:VR1 w g (.nw id u0 kt y) (g.row id kt y):=VR.to1 (Zbj (a:= .nw id u0 kt y) (by simp only[CV];exact⟨hid,Nat.le_of_eq hver.symm,_,rfl,hl2,fun _=>rfl⟩) hl2 rfl) (by intro l;simp)
   refine Did.pure (val:=if ok then .tuple #[g.row id kt y, .bool (ZaL (Zaq kt) y es).isSome] else g.row id kt y) hR ?_ ?_
   ·simp only[execOp,ho,Vc,hl1,Va,Vd]
   ·cases ok with
    |true=>exact⟨[g.row id kt y, .bool _],rfl,g.row id kt y,_,rfl,hview, .bool _,[],rfl,Zch _,rfl⟩
    |false=>exact VR.of1 hview
  ·simp [Zaa]at h
 ·simp [Zaa]at h
theorem Zfd(v:Value): ∃w',(Vx v v).run P w= .ok v w' /\Zbh w w' :=by
 unfold Vx
 cases Instr.sameBits 10000 v v with
 |true=>exact⟨w,rfl, .refl w⟩
 |false=>
  refine⟨{w with drawn:=w.drawn+1}, ?_,⟨rfl,rfl,rfl,⟨rfl,by first|exact Nat.le_succ _|exact Vaa _⟩⟩⟩
  simp only[Bool.false_eq_true,if_false,Vc,run_choose,Question.forced,Vd,ite_self];rfl
theorem Zk3{T:TypeId}{m k x:Operand}(hT:ZaB P E)(hR:RH B H w g ow)(hF:Fr w g F a.tmps)(ho:o.op= .mapUpdate T m k x)
  (h: (aop E nid o.op o.type (aev F)).run H []=some ((v,patch),rd)):Did B (Zag H patch) w g nid v ((execOp a.eval o).run P w):=by
 rw[ho]at h;simp only[aop,Zah]at h;obtain⟨mt,hmty,h⟩:=h;obtain⟨K,V,hu,hK,hV⟩:=hT.mty T mt hmty;have hm:=hF.eval m;have hkk:=hF.eval k;have hxx:=hF.eval x;split at h
 ·rename_i id kt y0 vt z0 hm' hk' hx';rw[Zap]at h;split at h
  ·rename_i kt' vt' es hH;simp only[Zao,Zah,Zab,Zaa,and_false,or_false,Vb,beq_iff_eq,Vh]at h;obtain⟨⟨hkey,rfl⟩,y,hy,u,hu',⟨rfl,rfl⟩,_⟩:=h;obtain⟨rfl,rfl⟩:=ZaA hy;obtain⟨rfl,rfl⟩:=ZaA hu';obtain⟨hid,b,hb,hv⟩:=(hm' ▸hm).mp;obtain⟨_,b',mes,clock,hb',hJ,hh,hbn,hfa⟩:=hR.objs id _ hH;rw[hb]at hb';cases hb';rw[hk']at hkk;rw[hx']at hxx;have hkv:VR1 w g (.d mt.1 y) (a.eval k):=hkk;have hxv:VR1 w g (.d vt u) (a.eval x):=hxx
   have hck:=Zd2 (w:=w) hT false _ mt.1 K y (a.eval k) 10000 (Vo _) hK (by simp only[Ty.keyOk,Vb]at hkey;exact hkey.1) (by simp only[Ty.keyOk,Vb]at hkey;have:=Vg hkey.2;omega) hkv
   have hfk:=ZeT hT hK hkey hkv es mes.toList (hfa.mono fun _ _ h=>h.1);have hget: (getObj b).run P w= .ok (.map mes clock) w:=by simp only[getObj,Vs,hh]
   have fin: ∀ (w1:World) (es' :Array MapEntry) (c' :Nat),Zbh w w1->(Vi T (a.eval m) (a.eval k) (a.eval x)).run P w= .ok () {w1 with heap:=w1.heap.setIfInBounds b (.map es' c') } ->Bn es' c' ->
     ZxD w g mt.1 vt (Zbb (Zaq mt.1) y u es) es'.toList->Did B (Zag H [(id,some (.map mt.1 vt (Zbb (Zaq mt.1) y u es)))]) w g nid .junk ((execOp a.eval o).run P w):=by
    intro w1 es' c' hs hrun hbn' hents;have hR1:=hR.same hs
    have hheap: ∀k,k≠b->({w1 with heap:=w1.heap.setIfInBounds b (.map es' c') } :World).heap[k]? =w1.heap[k]? :=by intro k hk;show (w1.heap.setIfInBounds b _)[k]? =_;rw[Vf,if_neg (by omega)]
    have hsep:=hR.sep id b (by rw[hH];simp) hJ
    have hag:Zbk g.I w {w1 with heap:=w1.heap.setIfInBounds b (.map es' c') } :=fun k hk=>by rw[hheap k (fun e=>hsep.1 (e▸hk)),hs.heap]
    have hag1:Zbk g.I w1 {w1 with heap:=w1.heap.setIfInBounds b (.map es' c') } :=fun k hk=>hheap k (fun e=>hsep.1 (e▸hk));refine⟨undef,_,g,ow, .inr ⟨?_,rfl⟩,hR1.write (by rw[hH];simp) hJ hheap (by show (w1.heap.setIfInBounds b _).size=_;simp) rfl rfl ⟨rfl,Vaa _⟩ ?_, .refl g,hag,ZgS,fun _ h=> .inl h⟩
    ·simp only[execOp,ho,Vc,hrun,Va,Vd]
    ·refine⟨b,es',c',hb,hJ, ?_,hbn',hents.mono fun p e hp=>⟨hp.1.mono hag (.refl g),hp.2.mono hag (.refl g)⟩⟩;show (w1.heap.setIfInBounds b _)[b]? =_;rw[Vf,if_pos rfl,if_pos (by rw[hs.heap];exact(Vr.1 hh).1)]
   cases hi:ZdO (Zaq mt.1) y es with
   |none=>
    rw[hi]at hfk;refine fin w (mes.push {key:=a.eval k,val:=a.eval x,born:=clock}) (clock+1) (.refl w) ?_ (hbn.push rfl) ?_
    ·simp only[Vi,underlying,Vc,run_program,Va,hu,Vd,hv,hget,hck,hfk,Vk];simp only[setObj,Vs,hh]
    ·rw[Zen,hi,Vy]
     exact hfa.append ⟨⟨hkv,hxv⟩,trivial⟩
   |some j=>
    rw[hi]at hfk;obtain⟨e,he,heq⟩:=Zds _ _ _ _ hi;obtain⟨me,hme,h1,h2⟩:=hfa.get j e he
    have hkeq:y=e.1:=by
     unfold Zaq at heq
     cases hq:Zcg mt.1 y e.1 with
     |none=>rw[hq]at heq;simp at heq
     |some r=>rw[hq]at heq;simp at heq;subst heq;exact ZmP _ _ _ hq
    have hkv2:me.key=a.eval k:=Zrn (t:=mt.1) (x:=y) (by simp only[Ty.keyOk,Vb]at hkey;exact hkey.1) (hkeq▸h1) hkv;obtain⟨w1,hw1,hs⟩:=Zfd (P:=P) (w:=w) (a.eval k);have hme' :mes[j]? =some me:=by rw[<-Ve];exact hme
    refine fin w1 (mes.modify j fun e=> {e with key:=a.eval k,val:=a.eval x}) clock hs ?_ (hbn.same ?_) ?_
    ·simp only[Vi,underlying,Vc,run_program,Va,hu,Vd,hv,hget,hck,hfk,Vl,hme',hkv2,Vp,hw1];have hh1:w1.heap[b]? =some (.map mes clock):=by rw[hs.heap];exact hh
     simp only[setObj,Vs,hh1]
    ·apply Vt;intro i;rw[Vn,Vn,Ve,Ve,Vq];by_cases hij:j=i
     ·subst hij;rw[if_pos rfl,hme'];rfl
     ·rw[if_neg hij]
    ·rw[Zen,hi]
     have: (mes.modify j fun e=> {e with key:=a.eval k,val:=a.eval x}).toList=mes.toList.set j {me with key:=a.eval k,val:=a.eval x} :=by
      apply Vt;intro i;rw[Ve,Vq,Vu];by_cases hij:j=i
      ·subst hij;have hlt:j<mes.toList.length:=(Vj.1 hme).1;rw[if_pos rfl,if_pos rfl,if_pos hlt,hme'];rfl
      ·rw[if_neg hij,if_neg hij,Ve]
     rw[this];exact hfa.set j ⟨hkv,hxv⟩
  ·simp [Zaa]at h
 ·rename_i id kt y0 i2 hm' hk' hx';rw[Zap]at h;split at h
  ·rename_i kt' t es u hole hH;simp only[Zao,Zah,Zav,Zab,Zaa,and_false,or_false,Vb,beq_iff_eq,Vh]at h;obtain⟨⟨⟨⟨hkey,hmt1⟩,hmt2⟩,hlt⟩,y,hy,_,hho,⟨ys,ids⟩,m2,hown,⟨rfl,rfl⟩,_⟩:=h;obtain⟨rfl,rfl⟩:=ZaA hy;have hlt:=Vg hlt;obtain⟨hid,b,hb,hv⟩:=(hm' ▸hm).mp;have hidl:H id≠none:=by rw[hH];simp
   obtain⟨_,hty,hver,hrf,hnd,habs,b',mes,clock,hb',hJ,hh,hfa⟩:=hR.objs id _ hH;rw[hb]at hb';cases hb';rw[hk']at hkk;have hkv:VR1 w g (.d kt y) (a.eval k):=hkk;rw[hmt1]at hK;have hkk2:=ZdI hkey;have hrowv:=ZeQ hR (hx' ▸hxx) hown
   have hck:=Zd2 (w:=w) hT false _ kt K y (a.eval k) 10000 (Vo _) hK hkk2 (by simp only[Ty.keyOk,Vb]at hkey;have:=Vg hkey.2;omega) hkv
   have hfk:=ZeT hT hK hkey hkv es mes.toList (hfa.mono fun _ _ h=>h.1);have hget: (getObj b).run P w= .ok (.map mes clock) w:=by simp only[getObj,Vs,hh]
   have hhole:hole=none\/hole=some y:=by
    cases hole with
    |none=>exact .inl rfl
    |some j=>exact .inr (by rw[(Zba hkk2).1 (Zbq hho)])
   have hidn:id ∉ ids:=fun hm=>by
    simp only[ZbU]at hown;rw[Zap]at hown;split at hown
    ·rename_i hk2;simp only[Zah,Zab,Vh]at hown;obtain⟨_,_,⟨_,rfl⟩,_⟩:=hown;simp only[List.mem_singleton]at hm;subst hm;rw[hH]at hk2;cases hk2
    ·simp [Zaa]at hown
   have hlive: ∀k,Zag H (ids.map fun id=>(id,none)) k≠none->k ∉ ids/\H k≠none:=by
    intro k hk;rw[ZdW]at hk;split at hk
    ·simp at hk
    ·rename_i h;exact⟨h,hk⟩
   have hnb: ∀b',ZaW H ow ids b' -> ¬ow id b' :=fun b' ⟨k,h1,h2,h3⟩ h4=>hidn (hR.dist id k b' hidl h2 h4 h3▸h1)
   let row' : (kt' :Ty)->El kt' ->Value:=fun kt' k=>if h:kt' =kt then(if Zaq kt (h▸k) y then a.eval x else g.row id kt' k) else g.row id kt' k
   have hrow' : ∀k,k≠y->row' kt k=g.row id kt k:=fun k hk=>by
    have:Zaq kt k y=false:=by
     cases hq:Zaq kt k y
     ·rfl
     ·exact absurd ((Zba hkk2).1 hq) hk
    simp [row',this]
   have hrowy:row' kt y=a.eval x:=by simp [row',(Zba hkk2).2 rfl]
   have fin: ∀ (w1:World) (es' :Array MapEntry) (c' :Nat),Zbh w w1->(Vi T (a.eval m) (a.eval k) (a.eval x)).run P w= .ok () {w1 with heap:=w1.heap.setIfInBounds b (.map es' c') } ->
     (∀w2,Zbk g.I w w2->Fa (fun kv (e:MapEntry)=>VR1 w2 g (.d kt kv.1) e.key/\e.val=row' kt kv.1) (Zbb (Zaq kt) y ys es) es'.toList)->Did B (Zag H (ids.map (fun id=>(id,none))++[(id,some (.mrows kt t (Zbb (Zaq kt) y ys es) nid none))])) w g nid .junk ((execOp a.eval o).run P w):=by
    intro w1 es' c' hs hrun hents;have hR1:RH B (Zag H (ids.map fun id=>(id,none))) w1 g ow:=(hR.drops ids).same hs
    have hheap: ∀k,k≠b->({w1 with heap:=w1.heap.setIfInBounds b (.map es' c') } :World).heap[k]? =w1.heap[k]? :=by intro k hk;show (w1.heap.setIfInBounds b _)[k]? =_;rw[Vf,if_neg (by omega)]
    have hsep:=hR.sep id b hidl hJ
    have hag:Zbk g.I w {w1 with heap:=w1.heap.setIfInBounds b (.map es' c') } :=fun k hk=>by rw[hheap k (fun e=>hsep.1 (e▸hk)),hs.heap]
    have hother: ∀k,k≠b->({w1 with heap:=w1.heap.setIfInBounds b (.map es' c') } :World).heap[k]? =w.heap[k]? :=fun k hk=>by rw[hheap k hk,hs.heap]
    have hcell: ∀ {J:Nat->Prop}{x:List (El t)}{hd:Value},Zhv w g.I J t x hd-> ∀b',Zhs hd=some b' ->b' ≠b:=by
     intro J x hd hr b' hb' e;subst e;rcases hr with ⟨_,rfl⟩ | ⟨b2,cap,cells,e,css,rfl,_,h3,_⟩
     ·simp [Zhs]at hb'
     ·simp only[Zhs,Option.some.injEq]at hb';subst hb';rw[hh]at h3;cases h3
    rw[ZaG];refine⟨undef, {w1 with heap:=w1.heap.setIfInBounds b (.map es' c') },g.bump id nid row',ZeV ow id (fun b' =>ow id b' \/ZaW H ow ids b'), .inr ⟨?_,rfl⟩, ?_,Gh.le_bump (by omega),hag,ZgS,fun _ h=> .inl h⟩
    ·simp only[execOp,ho,Vc,hrun,Va,Vd]
    refine hR1.bump (id:=id) (v:=nid) hid (by omega) (fun b' hb' => ?_) (by show _<=(w1.heap.setIfInBounds b _).size;simp) rfl rfl ⟨rfl,Vaa _⟩ (fun b' h1 h2=>hheap b' fun e=> ?_) (fun b' hb' => ?_) ?_
    ·rcases hb' with hb' | ⟨k,hk,h1,h2⟩
     ·exact hheap b' fun e=>hsep.1 (e▸hb')
     ·refine hheap b' fun e=>hk ?_;subst e;exact(hR.dist id k b' hidl (hlive k h1).2 hJ h2).symm
    ·subst e;rcases hsep.2.2 with h3|h3
     ·exact h2 h3
     ·omega
    ·have hsz: ({w1 with heap:=w1.heap.setIfInBounds b (.map es' c') } :World).heap.size=w.heap.size:=by show (w1.heap.setIfInBounds b _).size=_;rw[<-hs.heap];simp
     rw[hsz];rcases hb' with hb' | ⟨k,h1,h2,h3⟩
     ·obtain⟨p,q,r⟩:=hR.sep id b' hidl hb';exact⟨p,q,r,fun k hk h4 h5=>hk (hR.dist k id b' (hlive k h4).2 hidl h5 hb')⟩
     ·obtain⟨p,q,r⟩:=hR.sep k b' h2 h3;refine⟨p,q,r,fun k' hk h4 h5=>(hlive k' h4).1 ?_⟩;have:=hR.dist k' k b' (hlive k' h4).2 h2 h5 h3;exact this▸h1
    ·have hrowE: (g.bump id nid row').row id kt=row' kt:=by show (if id=id then row' else g.row id) kt=_;rw[if_pos rfl]
     refine⟨hty,if_pos rfl, ?_,ZgP hkk2 hnd,fun q hq=> ?_,b,es',c',hb, .inl hJ, ?_, ?_⟩
     ·rw[hrowE];refine hrf.put (k0:=y) (x0:=ys) hrow' (fun j x hx=>Zg5 hkk2 hnd hx) hhole ?_ (fun j x hx hj hr=> ?_) fun b' hb' => ?_
      ·rw[hrowy];exact hrowv.mono hag (fun _ h=>h) (fun b' _ h=> .inr h) fun b' hb' h=>hother b' (hcell hrowv b' hb')
      ·exact hr.mono hag (fun _ h=>h) (fun b' _ h=> .inl h) fun b' hb' h=>hother b' (hcell hr b' hb')
      ·rw[hrowy]at hb';have hob:=hrowv.own hb';refine⟨fun j x hx hj hbj=>hnb b' hob ?_,fun e=>hcell hrowv b' hb' (Option.some.inj (e.symm.trans hb))⟩
       have hne:hole≠some j:=fun e=>by
        rcases hhole with h1|h1
        ·rw[h1]at e;cases e
        ·rw[h1]at e;exact hj (Option.some.inj e).symm
       exact(hrf.rd j x hx hne).own hbj
     ·rw[hrowE]
      have hin:y∈(Zbb (Zaq kt) y ys es).map Vv:=by
       by_cases h:y∈es.map Vv
       ·rw[(Zcp hkk2).1 h];exact h
       ·rw[(Zcp hkk2).2 h];simp
      rw[hrow' q fun e=>hq (e▸hin)];refine habs q fun h=>hq ?_;by_cases h2:y∈es.map Vv
      ·rw[(Zcp hkk2).1 h2];exact h
      ·rw[(Zcp hkk2).2 h2,List.map_append];exact List.mem_append_left _ h
     ·show (w1.heap.setIfInBounds b _)[b]? =_;rw[Vf,if_pos rfl,if_pos (by rw[hs.heap];exact(Vr.1 hh).1)]
     ·rw[hrowE];exact(hents _ hag).mono fun kv e hx=>⟨⟨by have:=hx.1.1;simp only[CV]at this ⊢;exact this,hx.1.2⟩,hx.2⟩
   have hkv' : ∀w2,Zbk g.I w w2->VR1 w2 g (.d kt y) (a.eval k):=fun w2 hag=>hkv.mono hag (.refl g)
   cases hi:ZdO (Zaq kt) y es with
   |none=>
    rw[hi]at hfk;have hni:y ∉ es.map Vv:=Zf9 hkk2 (by rw[Zel,hi];rfl);refine fin w (mes.push {key:=a.eval k,val:=a.eval x,born:=clock}) (clock+1) (.refl w) ?_ fun w2 hag=> ?_
    ·simp only[Vi,underlying,Vc,run_program,Va,hu,Vd,hv,hget,hck,hfk,Vk];simp only[setObj,Vs,hh]
    ·rw[Zen,hi,Vy];refine(Zmf hfa.length fun n kv e h1 h2=> ?_ :Fa _ es mes.toList).append ⟨⟨hkv' w2 hag,hrowy.symm⟩,trivial⟩;have:=ZnS hfa h1 h2;refine⟨this.1.mono hag (.refl g), ?_⟩;rw[hrow' kv.1 fun e=>hni (e▸List.mem_map.2 ⟨kv,Vw h1,rfl⟩)]
     exact this.2
   |some j=>
    rw[hi]at hfk;obtain⟨e,he,heq⟩:=Zds _ _ _ _ hi;have hkeq:=(Zba hkk2).1 heq;obtain⟨me,hme,h1,h2⟩:=hfa.get j e he;have hkv2:me.key=a.eval k:=Zrn (t:=kt) (x:=y) hkk2 (hkeq▸h1) hkv;obtain⟨w1,hw1,hs⟩:=Zfd (P:=P) (w:=w) (a.eval k);have hme' :mes[j]? =some me:=by rw[<-Ve];exact hme
    refine fin w1 (mes.modify j fun e=> {e with key:=a.eval k,val:=a.eval x}) clock hs ?_ fun w2 hag=> ?_
    ·simp only[Vi,underlying,Vc,run_program,Va,hu,Vd,hv,hget,hck,hfk,Vl,hme',hkv2,Vp,hw1];have hh1:w1.heap[b]? =some (.map mes clock):=by rw[hs.heap];exact hh
     simp only[setObj,Vs,hh1]
    ·rw[Zen,hi]
     have: (mes.modify j fun e=> {e with key:=a.eval k,val:=a.eval x}).toList=mes.toList.set j {me with key:=a.eval k,val:=a.eval x} :=by
      apply Vt;intro i;rw[Ve,Vq,Vu];by_cases hij:j=i
      ·subst hij;have hlt:j<mes.toList.length:=(Vj.1 hme).1;rw[if_pos rfl,if_pos rfl,if_pos hlt,hme'];rfl
      ·rw[if_neg hij,if_neg hij,Ve]
     rw[this];refine Zmf (by simp [hfa.length]) fun n kv en g1 g2=> ?_;rw[Vu]at g1 g2;split at g1
     ·rename_i hjn;subst hjn;rw[if_pos rfl]at g2;split at g1
      ·split at g2
       ·simp only[Option.some.injEq]at g1 g2;subst g1;subst g2;exact⟨hkv' w2 hag,hrowy.symm⟩
       ·simp at g2
      ·simp at g1
     ·rename_i hjn;rw[if_neg hjn]at g2;have:=ZnS hfa g1 g2;refine⟨this.1.mono hag (.refl g), ?_⟩;rw[hrow' kv.1 fun e4=>hjn ?_]
      ·exact this.2
      ·have hk1: (es.map Vv)[j]? =some y:=by rw[Vn,he,hkeq];rfl
       have hk2: (es.map Vv)[n]? =some y:=by rw[Vn,g1, <-e4];rfl
       exact(List.getElem?_inj (Vj.1 hk1).1 hnd).1 (hk1.trans hk2.symm)
  ·simp [Zaa]at h
 ·simp [Zaa]at h
end ops
end Tr
