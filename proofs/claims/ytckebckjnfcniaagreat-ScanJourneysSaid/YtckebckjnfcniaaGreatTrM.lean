/- Operations on maps, arithmetic, functions, lengths. Conditions: the table of types is the program's. -/
import Derived.Test.YtckebckjnfcniaaGreatTrL
namespace Tr
open Go
section ops
variable {P:Program}{E:Env}{B:Zb7}{H:AH}{w:World}{g:Gh}{ow:Nat->Nat->Prop}{nid:Nat}{a:Act}{F:Nat->AV}{v:AV}{patch:Zbm}{rd:List Nat}{o:Oper}
theorem Zh2{T K V:TypeId}{r:Option Operand}(hF:Fr w g F a.tmps)(hu:P.underlying T=some (.map K V))(hr: (match r with|none=>true|some x=>(ZbE (aev F x)).isSome)=true)(ho:o.op= .makeMap T r):
  (execOp a.eval o).run P w= .ok (.value (.map (some w.heap.size))) (w.alloc (.map #[] 0)):=by
 cases r with
 |none=>simp only[execOp,ho,Sem.run_bind,Instr.makeMap,Option.map_none,Sem.run_pure,Result.andThen_ok,run_newObj];rfl
 |some x=>
  have hx:=hF.eval x;simp only at hr
  cases hev:aev F x<;>rw[hev]at hr<;>simp [ZbE]at hr
  rename_i t y
  cases t<;>simp at hr
  rw[hev]at hx;simp only[execOp,ho,Sem.run_bind,Instr.makeMap,Option.map_some,underlying,run_program,hu,Sem.run_pure,Result.andThen_ok,hx.int,asInt,asIntOf,run_newObj];rfl
theorem ZmA{T:TypeId}{r:Option Operand}(hT:ZaB P E)(hR:RH B H w g ow)(hF:Fr w g F a.tmps)(hk: ∀id,g.K id->id<nid\/nid+ZaG<=id)(ho:o.op= .makeMap T r)
  (h: (aop E nid o.op o.type (aev F)).run H []=some ((v,patch),rd)):Did B (Zaf H patch) w g nid v ((execOp a.eval o).run P w):=by
 rw[ho]at h;simp only[aop,Zag,Zan]at h;obtain⟨m,hm,h⟩:=h;obtain⟨K,V,hu,hK,hV⟩:=hT.mty T m hm;rcases h with ⟨_,h⟩ | ⟨_,h⟩
 ·split at h
  ·rename_i kt t;simp only[Zan,Zac,Zaa,and_false,or_false,Prod.mk.injEq,Bool.and_eq_true]at h;obtain⟨⟨hkey,hr⟩,⟨rfl,rfl⟩,_⟩:=h;refine Did.new (t:= .sl t) (sv:=undef) hR hk (val:= .map (some w.heap.size)) (o:= .map #[] 0) (Zh2 hF hu hr ho) ?_ ?_
   ·refine⟨by simp [Gh.add],by simp [Gh.add],⟨fun k x h=>by simp at h,fun k k' x x' b h=>by simp at h,fun k x b h=>by simp at h⟩,by simp,fun k _=>by simp [Gh.add],w.heap.size, #[],0,by simp [Gh.add],rfl,Zcd _ _,trivial⟩
   ·refine Zbd ?_ rfl rfl;simp only[CV];exact⟨.inl rfl,w.heap.size,by simp [Gh.add],rfl⟩
  ·simp [Zaa]at h
 simp only[Zac,Zaa,and_false,or_false,Prod.mk.injEq,Bool.and_eq_true]at h;obtain⟨⟨hkey,hr⟩,⟨rfl,rfl⟩,_⟩:=h;refine Did.new (t:= .unit) (sv:=undef) hR hk (val:= .map (some w.heap.size)) (o:= .map #[] 0) (Zh2 hF hu hr ho) ?_ ?_
 ·exact⟨w.heap.size, #[],0,by simp [Gh.add],rfl,Zcd _ _,Bn.empty 0,trivial⟩
 ·refine Zbd ?_ rfl rfl;simp only[CV];exact⟨.inl rfl,w.heap.size,by simp [Gh.add],rfl⟩
theorem Zos{T:TypeId}{m k:Operand}{ok:Bool}(hT:ZaB P E)(hR:RH B H w g ow)(hF:Fr w g F a.tmps)(ho:o.op= .lookup T m k ok)
  (h: (aop E nid o.op o.type (aev F)).run H []=some ((v,patch),rd)):Did B (Zaf H patch) w g nid v ((execOp a.eval o).run P w):=by
 rw[ho]at h;simp only[aop,Zag]at h;obtain⟨mt,hmty,h⟩:=h;obtain⟨K,V,hu,hK,hV⟩:=hT.mty T mt hmty;have hm:=hF.eval m;have hkk:=hF.eval k;split at h
 ·rename_i id kt x hm' hk';rw[Zao]at h;split at h
  ·rename_i kt' vt es hH;simp only[Zan,Zag,Zac,Zaa,and_false,or_false,Bool.and_eq_true,beq_iff_eq,Prod.mk.injEq]at h;obtain⟨⟨⟨⟨hkey,rfl⟩,rfl⟩,hdat⟩,y,hy,⟨rfl,rfl⟩,_⟩:=h;obtain⟨rfl,rfl⟩:=Zaz hy;obtain⟨hid,b,hb,hv⟩:=(hm' ▸hm).mp;obtain⟨_,b',mes,clock,hb',hJ,hh,hbn,hfa⟩:=hR.objs id _ hH;rw[hb]at hb';cases hb';rw[hk']at hkk;have hkv:VR1 w g (.d mt.1 y) (a.eval k):=hkk
   have hck:=Zdh (w:=w) hT mes.isEmpty _ mt.1 K y (a.eval k) 10000 (Nat.lt_succ_self _) hK (by simp only[Ty.keyOk,Bool.and_eq_true]at hkey;exact hkey.1) (by simp only[Ty.keyOk,Bool.and_eq_true]at hkey;have:=Nat.le_of_ble_eq_true hkey.2;omega) hkv
   have hfk:=Zej hT hK hkey hkv es mes.toList (hfa.mono fun _ _ h=>h.1);have hget: (getObj b).run P w= .ok (.map mes clock) w:=by simp only[getObj,Sem.run,hh]
   obtain⟨z,hz,hzv⟩:=(hT.ty V mt.2 hV).run_zero w;have hz1:=(hzv w g).1;have hz1:=Zrr hdat hz1
   have hlk: ∃u,(Instr.lookup T (a.eval m) (a.eval k) ok).run P w= .ok (if ok then .tuple #[u, .bool (ZaL (Zap mt.1) y es).isSome] else u) w/\VR1 w g (.d mt.2 ((ZaL (Zap mt.1) y es).getD (Zbr mt.2))) u:=by
    rw[ZdU]
    cases hi:Zc8 (Zap mt.1) y es with
    |none=>
     rw[hi]at hfk;refine⟨z, ?_,by simpa using hz1⟩;simp only[Instr.lookup,underlying,Sem.run_bind,run_program,Result.andThen_ok,hu,Sem.run_pure,hv,hget,hck,hfk,Option.map_none,hz]
     cases ok<;>rfl
    |some j=>
     rw[hi]at hfk;obtain⟨e,he,_⟩:=ZcM _ _ _ _ hi;obtain⟨me,hme,h1,h2⟩:=hfa.get j e he;refine⟨me.val, ?_,by simpa [he] using h2⟩;simp only[Instr.lookup,underlying,Sem.run_bind,run_program,Result.andThen_ok,hu,Sem.run_pure,hv,hget,hck,hfk,Option.map_some,hme,Option.getD_some,Option.bind_some,he]
     cases ok<;>rfl
   obtain⟨u,hl1,hl2⟩:=hlk
   refine Did.pure (val:=if ok then .tuple #[u, .bool (ZaL (Zap mt.1) y es).isSome] else u) hR ?_ ?_
   ·simp only[execOp,ho,Sem.run_bind,hl1,Result.andThen_ok,Sem.run_pure]
   ·cases ok with
    |true=>exact⟨[u, .bool _],rfl,u,_,rfl,hl2, .bool _,[],rfl,Zb0 _,rfl⟩
    |false=>exact VR.of1 hl2
  ·rename_i kt' t es u0 hH;simp only[Zan,Zag,Zac,Zaa,and_false,or_false,Bool.and_eq_true,beq_iff_eq,Prod.mk.injEq]at h;obtain⟨⟨⟨hkey,hmt1⟩,hmt2⟩,y,hy,⟨rfl,rfl⟩,_⟩:=h;obtain⟨rfl,rfl⟩:=Zaz hy;obtain⟨hid,b,hb,hv⟩:=(hm' ▸hm).mp;obtain⟨_,hty,hver,hrf,hnd,habs,b',mes,clock,hb',hJ,hh,hfa⟩:=hR.objs id _ hH;rw[hb]at hb';cases hb';rw[hk']at hkk;have hkv:VR1 w g (.d kt y) (a.eval k):=hkk;rw[hmt1]at hK;rw[hmt2]at hV
   have hck:=Zdh (w:=w) hT mes.isEmpty _ kt K y (a.eval k) 10000 (Nat.lt_succ_self _) hK (ZcU hkey) (by simp only[Ty.keyOk,Bool.and_eq_true]at hkey;have:=Nat.le_of_ble_eq_true hkey.2;omega) hkv
   have hfk:=Zej hT hK hkey hkv es mes.toList (hfa.mono fun _ _ h=>h.1);have hget: (getObj b).run P w= .ok (.map mes clock) w:=by simp only[getObj,Sem.run,hh]
   have hz:=ZlQ (hT.ty V (.sl t) hV) w
   have hlk: (Instr.lookup T (a.eval m) (a.eval k) ok).run P w= .ok (if ok then .tuple #[g.row id kt y, .bool (ZaL (Zap kt) y es).isSome] else g.row id kt y) w/\(g.row id kt y).oneCell'=true/\ZaN (g.row id kt y)=false:=by
    rw[ZdU]
    cases hi:Zc8 (Zap kt) y es with
    |none=>
     rw[hi]at hfk;have hrow:g.row id kt y= .slice none 0 0:=habs y (Ze0 (ZcU hkey) (by rw[ZdU,hi];rfl));rw[hrow];refine⟨?_,rfl,rfl⟩;simp only[Instr.lookup,underlying,Sem.run_bind,run_program,Result.andThen_ok,hu,Sem.run_pure,hv,hget,hck,hfk,Option.map_none,hz]
     cases ok<;>rfl
    |some j=>
     rw[hi]at hfk;obtain⟨e,he,heq⟩:=ZcM _ _ _ _ hi;have he1:=(Za5 (ZcU hkey)).1 heq;obtain⟨me,hme,h1,h2⟩:=hfa.get j e he;rw[<-he1]at h2;have hro:=(hrf.rd y e.2 (by rw[he1];exact List.mem_of_getElem? he) (by simp)).one;refine⟨?_,hro⟩;simp only[Instr.lookup,underlying,Sem.run_bind,run_program,Result.andThen_ok,hu,Sem.run_pure,hv,hget,hck,hfk,Option.map_some,hme,Option.getD_some,Option.bind_some,he,h2]
     cases ok<;>rfl
   obtain⟨hl1,hl2,hl3⟩:=hlk;have hview:VR1 w g (.nw id u0 kt y) (g.row id kt y):=VR.to1 (Zbd (a:= .nw id u0 kt y) (by simp only[CV];exact⟨hid,Nat.le_of_eq hver.symm,_,rfl,hl2,fun _=>rfl⟩) hl2 rfl) (by intro l;simp)
   refine Did.pure (val:=if ok then .tuple #[g.row id kt y, .bool (ZaL (Zap kt) y es).isSome] else g.row id kt y) hR ?_ ?_
   ·simp only[execOp,ho,Sem.run_bind,hl1,Result.andThen_ok,Sem.run_pure]
   ·cases ok with
    |true=>exact⟨[g.row id kt y, .bool _],rfl,g.row id kt y,_,rfl,hview, .bool _,[],rfl,Zb0 _,rfl⟩
    |false=>exact VR.of1 hview
  ·simp [Zaa]at h
 ·simp [Zaa]at h
theorem Zek(v:Value): ∃w',(Instr.keyThatStays v v).run P w= .ok v w' /\Zbb w w' :=by
 unfold Instr.keyThatStays
 cases Instr.sameBits 10000 v v with
 |true=>exact⟨w,rfl, .refl w⟩
 |false=>
  refine⟨{w with drawn:=w.drawn+1}, ?_,⟨rfl,rfl,rfl,⟨rfl,by first|exact Nat.le_succ _|exact Nat.le_refl _⟩⟩⟩
  simp only[Bool.false_eq_true,if_false,Sem.run_bind,run_choose,Question.forced,Sem.run_pure,ite_self];rfl
theorem Zjk{T:TypeId}{m k x:Operand}(hT:ZaB P E)(hR:RH B H w g ow)(hF:Fr w g F a.tmps)(ho:o.op= .mapUpdate T m k x)
  (h: (aop E nid o.op o.type (aev F)).run H []=some ((v,patch),rd)):Did B (Zaf H patch) w g nid v ((execOp a.eval o).run P w):=by
 rw[ho]at h;simp only[aop,Zag]at h;obtain⟨mt,hmty,h⟩:=h;obtain⟨K,V,hu,hK,hV⟩:=hT.mty T mt hmty;have hm:=hF.eval m;have hkk:=hF.eval k;have hxx:=hF.eval x;split at h
 ·rename_i id kt y0 vt z0 hm' hk' hx';rw[Zao]at h;split at h
  ·rename_i kt' vt' es hH;simp only[Zan,Zag,Zac,Zaa,and_false,or_false,Bool.and_eq_true,beq_iff_eq,Prod.mk.injEq]at h;obtain⟨⟨hkey,rfl⟩,y,hy,u,hu',⟨rfl,rfl⟩,_⟩:=h;obtain⟨rfl,rfl⟩:=Zaz hy;obtain⟨rfl,rfl⟩:=Zaz hu';obtain⟨hid,b,hb,hv⟩:=(hm' ▸hm).mp;obtain⟨_,b',mes,clock,hb',hJ,hh,hbn,hfa⟩:=hR.objs id _ hH;rw[hb]at hb';cases hb';rw[hk']at hkk;rw[hx']at hxx;have hkv:VR1 w g (.d mt.1 y) (a.eval k):=hkk;have hxv:VR1 w g (.d vt u) (a.eval x):=hxx
   have hck:=Zdh (w:=w) hT false _ mt.1 K y (a.eval k) 10000 (Nat.lt_succ_self _) hK (by simp only[Ty.keyOk,Bool.and_eq_true]at hkey;exact hkey.1) (by simp only[Ty.keyOk,Bool.and_eq_true]at hkey;have:=Nat.le_of_ble_eq_true hkey.2;omega) hkv
   have hfk:=Zej hT hK hkey hkv es mes.toList (hfa.mono fun _ _ h=>h.1);have hget: (getObj b).run P w= .ok (.map mes clock) w:=by simp only[getObj,Sem.run,hh]
   have fin: ∀ (w1:World) (es' :Array MapEntry) (c' :Nat),Zbb w w1->(Instr.mapUpdate T (a.eval m) (a.eval k) (a.eval x)).run P w= .ok () {w1 with heap:=w1.heap.setIfInBounds b (.map es' c') } ->Bn es' c' ->
     Zu2 w g mt.1 vt (Za9 (Zap mt.1) y u es) es'.toList->Did B (Zaf H [(id,some (.map mt.1 vt (Za9 (Zap mt.1) y u es)))]) w g nid .junk ((execOp a.eval o).run P w):=by
    intro w1 es' c' hs hrun hbn' hents;have hR1:=hR.same hs
    have hheap: ∀k,k≠b->({w1 with heap:=w1.heap.setIfInBounds b (.map es' c') } :World).heap[k]? =w1.heap[k]? :=by intro k hk;show (w1.heap.setIfInBounds b _)[k]? =_;rw[Array.getElem?_setIfInBounds,if_neg (by omega)]
    have hsep:=hR.sep id b (by rw[hH];simp) hJ
    have hag:Zbe g.I w {w1 with heap:=w1.heap.setIfInBounds b (.map es' c') } :=fun k hk=>by rw[hheap k (fun e=>hsep.1 (e▸hk)),hs.heap]
    have hag1:Zbe g.I w1 {w1 with heap:=w1.heap.setIfInBounds b (.map es' c') } :=fun k hk=>hheap k (fun e=>hsep.1 (e▸hk));refine⟨undef,_,g,ow, .inr ⟨?_,rfl⟩,hR1.write (by rw[hH];simp) hJ hheap (by show (w1.heap.setIfInBounds b _).size=_;simp) rfl rfl ⟨rfl,Nat.le_refl _⟩ ?_, .refl g,hag,Zfw,fun _ h=> .inl h⟩
    ·simp only[execOp,ho,Sem.run_bind,hrun,Result.andThen_ok,Sem.run_pure]
    ·refine⟨b,es',c',hb,hJ, ?_,hbn',hents.mono fun p e hp=>⟨hp.1.mono hag (.refl g),hp.2.mono hag (.refl g)⟩⟩;show (w1.heap.setIfInBounds b _)[b]? =_;rw[Array.getElem?_setIfInBounds,if_pos rfl,if_pos (by rw[hs.heap];exact(Array.getElem?_eq_some_iff.1 hh).1)]
   cases hi:Zc8 (Zap mt.1) y es with
   |none=>
    rw[hi]at hfk;refine fin w (mes.push {key:=a.eval k,val:=a.eval x,born:=clock}) (clock+1) (.refl w) ?_ (hbn.push rfl) ?_
    ·simp only[Instr.mapUpdate,underlying,Sem.run_bind,run_program,Result.andThen_ok,hu,Sem.run_pure,hv,hget,hck,hfk,Option.map_none];simp only[setObj,Sem.run,hh]
    ·rw[ZdP,hi,Array.toList_push]
     exact hfa.append ⟨⟨hkv,hxv⟩,trivial⟩
   |some j=>
    rw[hi]at hfk;obtain⟨e,he,heq⟩:=ZcM _ _ _ _ hi;obtain⟨me,hme,h1,h2⟩:=hfa.get j e he
    have hkeq:y=e.1:=by
     unfold Zap at heq
     cases hq:ZbV mt.1 y e.1 with
     |none=>rw[hq]at heq;simp at heq
     |some r=>rw[hq]at heq;simp at heq;subst heq;exact Zlf _ _ _ hq
    have hkv2:me.key=a.eval k:=Zo9 (t:=mt.1) (x:=y) (by simp only[Ty.keyOk,Bool.and_eq_true]at hkey;exact hkey.1) (hkeq▸h1) hkv;obtain⟨w1,hw1,hs⟩:=Zek (P:=P) (w:=w) (a.eval k);have hme' :mes[j]? =some me:=by rw[<-Array.getElem?_toList];exact hme
    refine fin w1 (mes.modify j fun e=> {e with key:=a.eval k,val:=a.eval x}) clock hs ?_ (hbn.same ?_) ?_
    ·simp only[Instr.mapUpdate,underlying,Sem.run_bind,run_program,Result.andThen_ok,hu,Sem.run_pure,hv,hget,hck,hfk,Option.map_some,hme',hkv2,Option.getD_some,hw1];have hh1:w1.heap[b]? =some (.map mes clock):=by rw[hs.heap];exact hh
     simp only[setObj,Sem.run,hh1]
    ·apply List.ext_getElem?;intro i;rw[List.getElem?_map,List.getElem?_map,Array.getElem?_toList,Array.getElem?_toList,Array.getElem?_modify];by_cases hij:j=i
     ·subst hij;rw[if_pos rfl,hme'];rfl
     ·rw[if_neg hij]
    ·rw[ZdP,hi]
     have: (mes.modify j fun e=> {e with key:=a.eval k,val:=a.eval x}).toList=mes.toList.set j {me with key:=a.eval k,val:=a.eval x} :=by
      apply List.ext_getElem?;intro i;rw[Array.getElem?_toList,Array.getElem?_modify,List.getElem?_set];by_cases hij:j=i
      ·subst hij;have hlt:j<mes.toList.length:=(List.getElem?_eq_some_iff.1 hme).1;rw[if_pos rfl,if_pos rfl,if_pos hlt,hme'];rfl
      ·rw[if_neg hij,if_neg hij,Array.getElem?_toList]
     rw[this];exact hfa.set j ⟨hkv,hxv⟩
  ·simp [Zaa]at h
 ·rename_i id kt y0 i2 hm' hk' hx';rw[Zao]at h;split at h
  ·rename_i kt' t es u hole hH;simp only[Zan,Zag,Zas,Zac,Zaa,and_false,or_false,Bool.and_eq_true,beq_iff_eq,Prod.mk.injEq]at h;obtain⟨⟨⟨⟨hkey,hmt1⟩,hmt2⟩,hlt⟩,y,hy,_,hho,⟨ys,ids⟩,m2,hown,⟨rfl,rfl⟩,_⟩:=h;obtain⟨rfl,rfl⟩:=Zaz hy;have hlt:=Nat.le_of_ble_eq_true hlt;obtain⟨hid,b,hb,hv⟩:=(hm' ▸hm).mp;have hidl:H id≠none:=by rw[hH];simp
   obtain⟨_,hty,hver,hrf,hnd,habs,b',mes,clock,hb',hJ,hh,hfa⟩:=hR.objs id _ hH;rw[hb]at hb';cases hb';rw[hk']at hkk;have hkv:VR1 w g (.d kt y) (a.eval k):=hkk;rw[hmt1]at hK;have hkk2:=ZcU hkey;have hrowv:=ZdZ hR (hx' ▸hxx) hown
   have hck:=Zdh (w:=w) hT false _ kt K y (a.eval k) 10000 (Nat.lt_succ_self _) hK hkk2 (by simp only[Ty.keyOk,Bool.and_eq_true]at hkey;have:=Nat.le_of_ble_eq_true hkey.2;omega) hkv
   have hfk:=Zej hT hK hkey hkv es mes.toList (hfa.mono fun _ _ h=>h.1);have hget: (getObj b).run P w= .ok (.map mes clock) w:=by simp only[getObj,Sem.run,hh]
   have hhole:hole=none\/hole=some y:=by
    cases hole with
    |none=>exact .inl rfl
    |some j=>exact .inr (by rw[(Za5 hkk2).1 (Zbi hho)])
   have hidn:id ∉ ids:=fun hm=>by
    simp only[ZbK]at hown;rw[Zao]at hown;split at hown
    ·rename_i hk2;simp only[Zag,Zac,Prod.mk.injEq]at hown;obtain⟨_,_,⟨_,rfl⟩,_⟩:=hown;simp only[List.mem_singleton]at hm;subst hm;rw[hH]at hk2;cases hk2
    ·simp [Zaa]at hown
   have hlive: ∀k,Zaf H (ids.map fun id=>(id,none)) k≠none->k ∉ ids/\H k≠none:=by
    intro k hk;rw[Zdl]at hk;split at hk
    ·simp at hk
    ·rename_i h;exact⟨h,hk⟩
   have hnb: ∀b',ZaV H ow ids b' -> ¬ow id b' :=fun b' ⟨k,h1,h2,h3⟩ h4=>hidn (hR.dist id k b' hidl h2 h4 h3▸h1)
   let row' : (kt' :Ty)->El kt' ->Value:=fun kt' k=>if h:kt' =kt then(if Zap kt (h▸k) y then a.eval x else g.row id kt' k) else g.row id kt' k
   have hrow' : ∀k,k≠y->row' kt k=g.row id kt k:=fun k hk=>by
    have:Zap kt k y=false:=by
     cases hq:Zap kt k y
     ·rfl
     ·exact absurd ((Za5 hkk2).1 hq) hk
    simp [row',this]
   have hrowy:row' kt y=a.eval x:=by simp [row',(Za5 hkk2).2 rfl]
   have fin: ∀ (w1:World) (es' :Array MapEntry) (c' :Nat),Zbb w w1->(Instr.mapUpdate T (a.eval m) (a.eval k) (a.eval x)).run P w= .ok () {w1 with heap:=w1.heap.setIfInBounds b (.map es' c') } ->
     (∀w2,Zbe g.I w w2->Fa (fun kv (e:MapEntry)=>VR1 w2 g (.d kt kv.1) e.key/\e.val=row' kt kv.1) (Za9 (Zap kt) y ys es) es'.toList)->Did B (Zaf H (ids.map (fun id=>(id,none))++[(id,some (.mrows kt t (Za9 (Zap kt) y ys es) nid none))])) w g nid .junk ((execOp a.eval o).run P w):=by
    intro w1 es' c' hs hrun hents;have hR1:RH B (Zaf H (ids.map fun id=>(id,none))) w1 g ow:=(hR.drops ids).same hs
    have hheap: ∀k,k≠b->({w1 with heap:=w1.heap.setIfInBounds b (.map es' c') } :World).heap[k]? =w1.heap[k]? :=by intro k hk;show (w1.heap.setIfInBounds b _)[k]? =_;rw[Array.getElem?_setIfInBounds,if_neg (by omega)]
    have hsep:=hR.sep id b hidl hJ
    have hag:Zbe g.I w {w1 with heap:=w1.heap.setIfInBounds b (.map es' c') } :=fun k hk=>by rw[hheap k (fun e=>hsep.1 (e▸hk)),hs.heap]
    have hother: ∀k,k≠b->({w1 with heap:=w1.heap.setIfInBounds b (.map es' c') } :World).heap[k]? =w.heap[k]? :=fun k hk=>by rw[hheap k hk,hs.heap]
    have hcell: ∀ {J:Nat->Prop}{x:List (El t)}{hd:Value},Zge w g.I J t x hd-> ∀b',ZfD hd=some b' ->b' ≠b:=by
     intro J x hd hr b' hb' e;subst e;rcases hr with ⟨_,rfl⟩ | ⟨b2,cap,cells,e,css,rfl,_,h3,_⟩
     ·simp [ZfD]at hb'
     ·simp only[ZfD,Option.some.injEq]at hb';subst hb';rw[hh]at h3;cases h3
    rw[ZaI];refine⟨undef, {w1 with heap:=w1.heap.setIfInBounds b (.map es' c') },g.bump id nid row',Zd5 ow id (fun b' =>ow id b' \/ZaV H ow ids b'), .inr ⟨?_,rfl⟩, ?_,Gh.le_bump (by omega),hag,Zfw,fun _ h=> .inl h⟩
    ·simp only[execOp,ho,Sem.run_bind,hrun,Result.andThen_ok,Sem.run_pure]
    refine hR1.bump (id:=id) (v:=nid) hid (by omega) (fun b' hb' => ?_) (by show _<=(w1.heap.setIfInBounds b _).size;simp) rfl rfl ⟨rfl,Nat.le_refl _⟩ (fun b' h1 h2=>hheap b' fun e=> ?_) (fun b' hb' => ?_) ?_
    ·rcases hb' with hb' | ⟨k,hk,h1,h2⟩
     ·exact hheap b' fun e=>hsep.1 (e▸hb')
     ·refine hheap b' fun e=>hk ?_;subst e;exact(hR.dist id k b' hidl (hlive k h1).2 hJ h2).symm
    ·subst e;rcases hsep.2.2 with h3|h3
     ·exact h2 h3
     ·omega
    ·have hsz: ({w1 with heap:=w1.heap.setIfInBounds b (.map es' c') } :World).heap.size=w.heap.size:=by show (w1.heap.setIfInBounds b _).size=_;rw[<-hs.heap];simp
     rw[hsz];rcases hb' with hb' | ⟨k,h1,h2,h3⟩
     ·obtain⟨p,q,r⟩:=hR.sep id b' hidl hb';exact⟨p,q,r,fun k hk h4 h5=>hk (hR.dist k id b' (hlive k h4).2 hidl h5 hb')⟩
     ·obtain⟨p,q,r⟩:=hR.sep k b' h2 h3;refine⟨p,q,r,fun k' hk h4 h5=>(hlive k' h4).1 ?_⟩;have:=hR.dist k' k b' (hlive k' h4).2 h2 h5 h3;exact this▸h1
    ·have hrowE: (g.bump id nid row').row id kt=row' kt:=by show (if id=id then row' else g.row id) kt=_;rw[if_pos rfl]
     refine⟨hty,if_pos rfl, ?_,Zfv hkk2 hnd,fun q hq=> ?_,b,es',c',hb, .inl hJ, ?_, ?_⟩
     ·rw[hrowE];refine hrf.put (k0:=y) (x0:=ys) hrow' (fun j x hx=>Zf6 hkk2 hnd hx) hhole ?_ (fun j x hx hj hr=> ?_) fun b' hb' => ?_
      ·rw[hrowy];exact hrowv.mono hag (fun _ h=>h) (fun b' _ h=> .inr h) fun b' hb' h=>hother b' (hcell hrowv b' hb')
      ·exact hr.mono hag (fun _ h=>h) (fun b' _ h=> .inl h) fun b' hb' h=>hother b' (hcell hr b' hb')
      ·rw[hrowy]at hb';have hob:=hrowv.own hb';refine⟨fun j x hx hj hbj=>hnb b' hob ?_,fun e=>hcell hrowv b' hb' (Option.some.inj (e.symm.trans hb))⟩
       have hne:hole≠some j:=fun e=>by
        rcases hhole with h1|h1
        ·rw[h1]at e;cases e
        ·rw[h1]at e;exact hj (Option.some.inj e).symm
       exact(hrf.rd j x hx hne).own hbj
     ·rw[hrowE]
      have hin:y∈(Za9 (Zap kt) y ys es).map Prod.fst:=by
       by_cases h:y∈es.map Prod.fst
       ·rw[(Zb5 hkk2).1 h];exact h
       ·rw[(Zb5 hkk2).2 h];simp
      rw[hrow' q fun e=>hq (e▸hin)];refine habs q fun h=>hq ?_;by_cases h2:y∈es.map Prod.fst
      ·rw[(Zb5 hkk2).1 h2];exact h
      ·rw[(Zb5 hkk2).2 h2,List.map_append];exact List.mem_append_left _ h
     ·show (w1.heap.setIfInBounds b _)[b]? =_;rw[Array.getElem?_setIfInBounds,if_pos rfl,if_pos (by rw[hs.heap];exact(Array.getElem?_eq_some_iff.1 hh).1)]
     ·rw[hrowE];exact(hents _ hag).mono fun kv e hx=>⟨⟨by have:=hx.1.1;simp only[CV]at this ⊢;exact this,hx.1.2⟩,hx.2⟩
   have hkv' : ∀w2,Zbe g.I w w2->VR1 w2 g (.d kt y) (a.eval k):=fun w2 hag=>hkv.mono hag (.refl g)
   cases hi:Zc8 (Zap kt) y es with
   |none=>
    rw[hi]at hfk;have hni:y ∉ es.map Prod.fst:=Ze0 hkk2 (by rw[ZdU,hi];rfl);refine fin w (mes.push {key:=a.eval k,val:=a.eval x,born:=clock}) (clock+1) (.refl w) ?_ fun w2 hag=> ?_
    ·simp only[Instr.mapUpdate,underlying,Sem.run_bind,run_program,Result.andThen_ok,hu,Sem.run_pure,hv,hget,hck,hfk,Option.map_none];simp only[setObj,Sem.run,hh]
    ·rw[ZdP,hi,Array.toList_push];refine(Zln hfa.length fun n kv e h1 h2=> ?_ :Fa _ es mes.toList).append ⟨⟨hkv' w2 hag,hrowy.symm⟩,trivial⟩;have:=Zmw hfa h1 h2;refine⟨this.1.mono hag (.refl g), ?_⟩;rw[hrow' kv.1 fun e=>hni (e▸List.mem_map.2 ⟨kv,List.mem_of_getElem? h1,rfl⟩)]
     exact this.2
   |some j=>
    rw[hi]at hfk;obtain⟨e,he,heq⟩:=ZcM _ _ _ _ hi;have hkeq:=(Za5 hkk2).1 heq;obtain⟨me,hme,h1,h2⟩:=hfa.get j e he;have hkv2:me.key=a.eval k:=Zo9 (t:=kt) (x:=y) hkk2 (hkeq▸h1) hkv;obtain⟨w1,hw1,hs⟩:=Zek (P:=P) (w:=w) (a.eval k);have hme' :mes[j]? =some me:=by rw[<-Array.getElem?_toList];exact hme
    refine fin w1 (mes.modify j fun e=> {e with key:=a.eval k,val:=a.eval x}) clock hs ?_ fun w2 hag=> ?_
    ·simp only[Instr.mapUpdate,underlying,Sem.run_bind,run_program,Result.andThen_ok,hu,Sem.run_pure,hv,hget,hck,hfk,Option.map_some,hme',hkv2,Option.getD_some,hw1];have hh1:w1.heap[b]? =some (.map mes clock):=by rw[hs.heap];exact hh
     simp only[setObj,Sem.run,hh1]
    ·rw[ZdP,hi]
     have: (mes.modify j fun e=> {e with key:=a.eval k,val:=a.eval x}).toList=mes.toList.set j {me with key:=a.eval k,val:=a.eval x} :=by
      apply List.ext_getElem?;intro i;rw[Array.getElem?_toList,Array.getElem?_modify,List.getElem?_set];by_cases hij:j=i
      ·subst hij;have hlt:j<mes.toList.length:=(List.getElem?_eq_some_iff.1 hme).1;rw[if_pos rfl,if_pos rfl,if_pos hlt,hme'];rfl
      ·rw[if_neg hij,if_neg hij,Array.getElem?_toList]
     rw[this];refine Zln (by simp [hfa.length]) fun n kv en g1 g2=> ?_;rw[List.getElem?_set]at g1 g2;split at g1
     ·rename_i hjn;subst hjn;rw[if_pos rfl]at g2;split at g1
      ·split at g2
       ·simp only[Option.some.injEq]at g1 g2;subst g1;subst g2;exact⟨hkv' w2 hag,hrowy.symm⟩
       ·simp at g2
      ·simp at g1
     ·rename_i hjn;rw[if_neg hjn]at g2;have:=Zmw hfa g1 g2;refine⟨this.1.mono hag (.refl g), ?_⟩;rw[hrow' kv.1 fun e4=>hjn ?_]
      ·exact this.2
      ·have hk1: (es.map Prod.fst)[j]? =some y:=by rw[List.getElem?_map,he,hkeq];rfl
       have hk2: (es.map Prod.fst)[n]? =some y:=by rw[List.getElem?_map,g1, <-e4];rfl
       exact(List.getElem?_inj (List.getElem?_eq_some_iff.1 hk1).1 hnd).1 (hk1.trans hk2.symm)
  ·simp [Zaa]at h
 ·simp [Zaa]at h
end ops
end Tr
