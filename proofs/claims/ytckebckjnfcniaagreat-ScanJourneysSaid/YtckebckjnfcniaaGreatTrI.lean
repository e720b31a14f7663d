/- Operations on memory: variables, loads, stores, addresses. Conditions: the table of types is the program's. -/
import Derived.Test.YtckebckjnfcniaaGreatTrHr
namespace Tr
open Go
theorem ZhS{a:AV}{t:Ty}(h:a.fits t=true):a≠ .junk/\ ∀l,a≠ .tup l:=by
 constructor
 ·rintro rfl;simp [AV.fits]at h
 ·rintro l rfl;simp [AV.fits]at h
theorem Ze8{a:AV}{t:Ty}(h:a.fits t=true)(hs:a.solid=true):a.isAgg=t.agg:=by
 rcases ZsG h with h| ⟨n,rfl⟩
 ·exact h
 ·simp [AV.solid]at hs
section ops
variable {P:Program}{E:Env}{B:Zb7}{H:AH}{w:World}{g:Gh}{ow:Nat->Nat->Prop}{nid:Nat}{a:Act}{F:Nat->AV}{v:AV}{patch:Zbm}{rd:List Nat}{o:Oper}
theorem Zj8{id:Nat}{t:Ty}{b:Nat}{sv:Value} :VR w (g.add id t (some b) sv) (.ptr id []) (.pointer (some ⟨b,0,none⟩)):=by refine Zbd ?_ rfl rfl;simp only[CV];exact⟨.inl rfl,0,t,b,by simp [Gh.add,ZaR],by simp [Gh.add],rfl⟩
theorem Zcd(w:World)(o:Obj): (w.alloc o).heap[w.heap.size]? =some o:=by show (w.heap.push o)[w.heap.size]? =_;simp
theorem Zde{w:World}{o:Obj}{k:Nat}(h:k<w.heap.size): (w.alloc o).heap[k]? =w.heap[k]? :=by show (w.heap.push o)[k]? =_;rw[Array.getElem?_push,if_neg (by omega)]
theorem ZkX(hR:RH B H w g ow)(hnk: ¬g.K nid){t:Ty}{sv:Value}{b:Option Nat}{ob:Obj}{x:AV}{cs:List Value}(h:CV w g x cs):CV (w.alloc ob) (g.add nid t b sv) x cs:=
 CV.mono (fun _ hb=>Zde (hR.ilt _ hb)) (Gh.le_add hnk _ _ _) x cs h
theorem Zsl(hR:RH B H w g ow)(hk: ∀id,g.K id->id<nid\/nid+ZaG<=id){t:Ty}{sv:Value}{b:Option Nat}{ob:Obj}{x:AV}{cs:List Value}(h:CV w g x cs):CV (w.alloc ob) (g.add nid t b sv) x cs:=ZkX hR (ZfH hk) h
theorem Zqv(hR:RH B H w g ow)(hk: ∀id,g.K id->id<nid\/nid+ZaG<=id){t:Ty}{T:TypeId}{c:AV}{cells:Array Value}(hf:c.fits t=true)(hc:CV w g c cells.toList){r:Result Next}
  (hr:r= .ok (.value (.pointer (some ⟨w.heap.size,0,none⟩))) (w.alloc (.cells cells T))):Did B (ZbS H nid (some (.var t c))) w g nid (.ptr nid []) r:=by
 refine Did.new (t:=t) (sv:=undef) hR hk hr ?_ Zj8;refine⟨by simp [Gh.add],hf,w.heap.size,cells,T,by simp [Gh.add],rfl,Zcd _ _, ?_,Zsl hR hk hc⟩;have:=CV.length c t _ hf hc;simpa using this
theorem ZqZ{T:TypeId}(hT:ZaB P E)(hR:RH B H w g ow)(hk: ∀id,g.K id->id<nid\/nid+ZaG<=id)(ho:o.op= .alloc T)(h: (aop E nid o.op o.type (aev F)).run H []=some ((v,patch),rd)):
  Did B (Zaf H patch) w g nid v ((execOp a.eval o).run P w):=by
 rw[ho]at h;simp only[aop]at h;split at h
 ·rename_i e he;simp only[Zac,Prod.mk.injEq]at h;obtain⟨⟨rfl,rfl⟩,_⟩:=h;obtain⟨z,hz,hz2⟩:=hT.bd T e he;refine Did.new (t:= .unit) (sv:=undef) (val:= .pointer (some ⟨w.heap.size,0,none⟩)) (o:= .cells z.cells T) hR hk ?_ ?_ Zj8
  ·simp only[execOp,ho,Instr.alloc,Sem.run_bind,hz,Result.andThen_ok,newVar,newRow,run_newObj,Sem.run_pure];rfl
  ·refine⟨w.heap.size,by simp [Gh.add],rfl, .pointer none, .slice none 0 0, .inl rfl, ?_,⟨by simp [u8s], .inl ⟨rfl,rfl⟩⟩,fun k hk=>by simp [Value.ownBlock]at hk,fun _=>rfl⟩;rw[Zcd,hz2]
 simp only[Zag,Zac,Prod.mk.injEq]at h;obtain⟨t,ht,⟨rfl,rfl⟩,_⟩:=h;obtain⟨z,hz,hz2⟩:=(hT.ty T t ht).run_zerox (E.zx T) w;refine Zqv hR hk (T:=T) (cells:=z.cells) (hz2 w g).2 (hz2 w g).1.1 ?_;simp only[execOp,ho,Instr.alloc,Sem.run_bind,hz,Result.andThen_ok,newVar,newRow,run_newObj,Sem.run_pure];rfl
theorem Ztj{T:TypeId}{x:Operand}(hR:RH B H w g ow)(hF:Fr w g F a.tmps)(hk: ∀id,g.K id->id<nid\/nid+ZaG<=id)(ho:o.op= .box T x)
  (h: (aop E nid o.op o.type (aev F)).run H []=some ((v,patch),rd)):Did B (Zaf H patch) w g nid v ((execOp a.eval o).run P w):=by
 rw[ho]at h;simp only[aop,Zag,Zan,Zac,Zaa,and_false,or_false,Prod.mk.injEq]at h;obtain⟨t,ht,hf,⟨rfl,rfl⟩,_⟩:=h;have hx:=(hF.eval x).to1 (ZhS hf).2;refine Zqv hR hk (T:=T) (cells:=(a.eval x).cells) hf hx.1 ?_;simp only[execOp,ho,Instr.box,Sem.run_bind,Result.andThen_ok,newVar,newRow,run_newObj,Sem.run_pure];rfl
theorem ZmL{t:Ty}{xs:List (El t)}{id:Nat}{J:Nat->Prop}(h:Zf5 w g J id (.vec t xs)){i:Nat}{x:El t}(hx:xs[i]? =some x):
  ∃b cap cs e css c,g.ty id=t/\g.blk id=some b/\J b/\g.slv id= .slice (some ⟨b,0,none⟩) xs.length cap/\w.heap[b]? =some (.cells cs e (0,0))/\xs.length<=cap/\cap*t.size<=cs.size/\
   Fa (Rd w g.I t) xs css/\css[i]? =some c/\Rd w g.I t x c/\ ∃r,cs.toList=(css.take i).flatten++c++((css.drop (i+1)).flatten++r)/\(css.take i).flatten.length=i*t.size/\
    ∀c',(css.set i c').flatten++r=(css.take i).flatten++c' ++((css.drop (i+1)).flatten++r):=by
 obtain⟨hty,h⟩:=h;rcases h with ⟨rfl,_⟩ | ⟨b,cap,cs,e,css,h1,h2,h3,h4,h5,h6,h7,r,hr⟩
 ·simp at hx
 ·obtain⟨c,hc,hxc⟩:=h7.get i x hx;obtain⟨s1,s2,s3⟩:=Zbp hc t.size (Rd.all_length h7);exact⟨b,cap,cs,e,css,c,hty,h1,h2,h3,h4,h5,h6,h7,hc,hxc,r,by rw[<-hr,s1];simp,s2,fun c' =>by rw[s3 c'];simp⟩
theorem Zrx{T:TypeId}{x:Operand}(hT:ZaB P E)(hR:RH B H w g ow)(hF:Fr w g F a.tmps)(ho:o.op= .load T x)
  (h: (aop E nid o.op o.type (aev F)).run H []=some ((v,patch),rd)):Did B (Zaf H patch) w g nid v ((execOp a.eval o).run P w):=by
 rw[ho]at h;simp only[aop,Zag]at h;obtain⟨t,ht,h⟩:=h;have hx:=hF.eval x
 have fin: ∀ {b off:Nat}{c:List Value},a.eval x= .pointer (some ⟨b,off,none⟩)->ZcA w b off c->CV w g v c->v.fits t=true->v.solid=true->patch=[]->Did B (Zaf H patch) w g nid v ((execOp a.eval o).run P w):=by intro b off c he hc hcv hf hs hp;subst hp;obtain⟨h1,h2⟩:=Zhf hcv hf (Ze8 hf hs);refine Did.pure hR ?_ (VR.of1 h1);simp only[execOp,ho,he,Instr.loadAt,Instr.sureAddr,Sem.run_bind,Sem.run_pure,Result.andThen_ok,ZhO (hT.ty T t ht) hc (CV.length v t c hf hcv) h2]
 split at h
 ·rename_i t' y hy;simp only[Zan,Zac,Zaa,and_false,or_false,beq_iff_eq,Prod.mk.injEq]at h;obtain⟨rfl,⟨rfl,rfl⟩,_⟩:=h;obtain⟨b,off,c,h1,h2,h3,h4⟩:=(hy▸hx).dp;exact fin h1 h3.at (by simpa only[CV] using h4) (by simp [AV.fits]) rfl rfl
 ·rename_i id p hy;rw[Zao]at h;split at h
  ·rename_i t0 c hH;simp only[Zas,Zan,Zac,Zaa,and_false,or_false,Prod.mk.injEq,Bool.and_eq_true]at h;obtain⟨v',m,h1,⟨h2,h2s⟩,⟨rfl,rfl⟩,_⟩:=h;obtain⟨hk,o',t1,b,h3,h4,h5⟩:=(hy▸hx).ptr;obtain⟨_,hty,hf,b',cs,e,h6,h7,h8,h9,h10⟩:=hR.objs id _ hH;obtain⟨_,t2,c1,⟨o2,pre,post,h11,h12,h13⟩,h14,h15⟩:=ZhB h1 hf h10;rw[hty,h11]at h3;obtain⟨rfl,rfl⟩:=Prod.mk.inj (Option.some.inj h3);rw[h4]at h6;cases h6;refine fin h5 ?_ h15 h2 h2s rfl;rw[<-h13];exact ZcA.of_heap h8 h12
  ·simp [Zaa]at h
 ·rename_i id i p hy;rw[Zao]at h;split at h
  ·rename_i t0 xs hH;simp only[Zag,Zas,Zan,Zac,Zaa,and_false,or_false,beq_iff_eq,Prod.mk.injEq]at h;obtain⟨x',hx',y,m,h1,rfl,⟨rfl,rfl⟩,_⟩:=h;obtain⟨hk,o',t1,b,h3,h4,h5⟩:=(hy▸hx).vp;obtain⟨_,hO⟩:=hR.objs id _ hH;obtain⟨b',cap,cs,e,css,c,hty,hb,hJ,hsv,hh,hl,hcap,hfa,hci,hxc,r,hcs,hlen,_⟩:=ZmL hO hx';obtain⟨_,c1,⟨o2,pre,post,h11,h12,h13⟩,h15⟩:=ZfJ p t0 x' _ _ y c h1 hxc;rw[hty,h11]at h3;obtain⟨rfl,rfl⟩:=Prod.mk.inj (Option.some.inj h3);rw[h4]at hb;cases hb;refine fin h5 (c:=c1) ?_ (by simpa only[CV] using h15) (by simp [AV.fits]) rfl rfl;have:cs.toList=((css.take i).flatten++pre)++c1++(post++((css.drop (i+1)).flatten++r)):=by rw[hcs,h12];simp
   have:=ZcA.of_heap hh this
   rwa [List.length_append,hlen,h13, <-hty]at this
  ·rename_i t0 xs u hH;simp only[Zag,Zan,Zac,Zaa,and_false,or_false,beq_iff_eq,Prod.mk.injEq,Bool.and_eq_true,List.isEmpty_iff]at h;obtain⟨⟨rfl,rfl⟩,x',hx',⟨rfl,rfl⟩,_⟩:=h;obtain⟨hk,o',t1,b,h3,h4,h5⟩:=(hy▸hx).vp;rw[ZaR]at h3;obtain⟨rfl,rfl⟩:=Prod.mk.inj (Option.some.inj h3);obtain⟨_,hty,hver,hrf,hO⟩:=hR.objs id _ hH;rcases hO with ⟨rfl,_⟩ | ⟨b',cap,cs,e,hb,hJ,hsv,hh,hl,hcap,hcs⟩
   ·simp at hx'
   ·rw[h4]at hb;cases hb;have hi:i<xs.length:=(List.getElem?_eq_some_iff.1 hx').1;have h1:=hrf.rd i x' hx' (by simp);refine fin h5 (c:=[g.row id (.int .i64) (i:Int)]) ?_ ?_ rfl rfl rfl
    ·rw[hty];intro j v hj
     cases j with
     |zero=>
      simp only[List.getElem?_cons_zero,Option.some.injEq]at hj;subst hj;simp only[Ty.size,Nat.mul_one,Nat.add_zero,World.cell?,hh]
      simpa using hcs i hi
     |succ j=>simp at hj
    ·simp only[CV];exact⟨hk,Nat.le_of_eq hver.symm,_,rfl,h1.one.1,fun _=>rfl⟩
  ·simp [Zaa]at h
 ·rename_i id ver kt k i p hy;simp only[Zag,Zas,Zan,Zac,Zaa,and_false,or_false,beq_iff_eq,Prod.mk.injEq]at h;obtain⟨r,m1,hacc,x',hx',y,m,h1,rfl,⟨rfl,rfl⟩,_⟩:=h;obtain⟨hk,hv,ad,h3,h4⟩:=(hy▸hx).np;obtain⟨hne,hty,hver,hrow⟩:=ZfQ hR hk hacc;obtain⟨b,len,cap,o',t1,h5,h6,h7⟩:=h4 hver;obtain⟨b',cap',cs,e,css,c,hd,hJ,hh,hl,hcap,hfa,hci,hxc,r',hcs,hlen,_⟩:=Znt hrow hx';rw[h5]at hd;simp only[Value.slice.injEq,Option.some.injEq,Addr.mk.injEq,and_true]at hd;obtain⟨rfl,_,_⟩:=hd;obtain⟨_,c1,⟨o2,pre,post,h11,h12,h13⟩,h15⟩:=ZfJ p r.1 x' _ _ y c h1 hxc;rw[hty]at h6 h7;simp only[ety]at h6 h7;rw[h11]at h6;obtain⟨rfl,rfl⟩:=Prod.mk.inj (Option.some.inj h6)
  subst h7;refine fin h3 (c:=c1) ?_ (by simpa only[CV] using h15) (by simp [AV.fits]) rfl rfl;have:cs.toList=((css.take i).flatten++pre)++c1++(post++((css.drop (i+1)).flatten++r')):=by rw[hcs,h12];simp
  have:=ZcA.of_heap hh this
  rwa [List.length_append,hlen,h13]at this
 ·simp [Zaa]at h
theorem Zdn{T:TypeId}{t:Ty}(hT:TOk P E.ty T t){b:Nat}{cs:Array Value}{e:TypeId}{pre c post d:List Value}{val:Value}(hh:w.heap[b]? =some (.cells cs e (0,0)))
  (hcs:cs.toList=pre++c++post) (hd:val.cells.toList=d) (hl:c.length=d.length) (hsz:d.length=t.size) (h1: ∀v∈d,v.oneCell' =true):
  (storeVar T ⟨b,pre.length,none⟩ val).run P w= .ok () (w.setRow b (pre++d++post).toArray):=by
 have hsize:val.cells.size=t.size:=by rw[<-hsz, <-hd];simp
 have hsum:cs.size=pre.length+c.length+post.length:=by rw[<-Array.length_toList,hcs];simp only[List.length_append]
 simp only[storeVar,Sem.run_bind,hT.run_sizeOf,Result.andThen_ok,hsize,ne_eq,not_true_eq_false,if_false,hd];rw[run_storeCells_at P b pre.length e d 0 cs w hh (by omega) h1];congr 3;rw[hcs,Nat.add_zero];have e1:List.take pre.length (pre++c++post)=pre:=by rw[List.append_assoc,List.take_left]
 have e2:List.drop (pre.length+d.length) (pre++c++post)=post:=by rw[<-hl, <-List.length_append,List.drop_left]
 rw[e1,e2]
theorem ZdJ{b:Nat}{cs cs' :Array Value}{e:TypeId}(hh:w.heap[b]? =some (.cells cs e (0,0))): (w.setRow b cs').heap[b]? =some (.cells cs' e (0,0)):=setRow_heap w b cs cs' e (0,0) hh
theorem Did.write{id b:Nat}{o' :ZdX}{cs' :Array Value}{r:Result Next}(hR:RH B H w g ow)(hid:H id≠none)(hb:ow id b)(hr:r= .ok .skip (w.setRow b cs'))
  (hO:Zf5 (w.setRow b cs') g (ow id) id o'):Did B (ZbS H id (some o')) w g nid .junk r:=by
 have hs:=hR.sep id b hid hb;refine⟨undef,w.setRow b cs',g,ow, .inr ⟨hr,rfl⟩,hR.write hid hb (fun k hk=>setRow_other w b k cs' hk) (size_setRow w b cs') rfl rfl ⟨rfl,Nat.le_refl _⟩ hO, .refl g, ?_,Zfw,fun _ h=> .inl h⟩;intro k hk;exact setRow_other w b k cs' (fun e=>hs.1 (e▸hk))
theorem ZeB{id b:Nat}{cs' :Array Value}(hR:RH B H w g ow)(hid:H id≠none)(hb:ow id b):Zbe g.I w (w.setRow b cs'):=fun k hk=>
 setRow_other w b k cs' (fun e=>(hR.sep id b hid hb).1 (e▸hk))
theorem ZpI{t0:Ty}{xs:List (List (El t0))}{u:Nat}{hole:Option Nat}{id i:Nat}{y:AV}{val:Value}{ys:List (El t0)}{ids l l' :List Nat}{x' :List (El t0)}{r:Result Next}(hR:RH B H w g ow)(hH:H id=some (.rows t0 xs u hole))
  (hi:Zkc hole i=true) (hu:u<nid) (hx' :xs[i]? =some x') (hval:VR w g y val) (hy: (ZbK t0 y).run H l=some ((ys,ids),l'))
  (hr: ∀b cap cs e,g.blk id=some b->g.slv id= .slice (some ⟨b,0,none⟩) xs.length cap->w.heap[b]? =some (.cells cs e (0,0))->i<cs.size->r= .ok .skip (w.setRow b (cs.toList.set i val).toArray)):
  Did B (Zaf H (ids.map (fun id=>(id,none))++[(id,some (.rows t0 (xs.set i ys) nid none))])) w g nid .junk r:=by
 have hrowv:=ZdZ hR hval hy;obtain⟨hK,hty,hver,hrf,hO⟩:=hR.objs id _ hH
 have hlive: ∀k,Zaf H (ids.map fun id=>(id,none)) k≠none->k ∉ ids/\H k≠none:=by
  intro k hk;rw[Zdl]at hk;split at hk
  ·simp at hk
  ·rename_i h;exact⟨h,hk⟩
 have hidn:id ∉ ids:=fun hm=>by
  rcases ZeY hR hval hy with ⟨rfl,_⟩ | ⟨id2,rfl,_,_⟩
  ·simp at hm
  ·simp only[List.mem_singleton]at hm;subst hm;unfold ZbK at hy;split at hy
   ·rename_i k;rw[Zao]at hy;split at hy
    ·rename_i hk';simp only[Zag,Zac,Prod.mk.injEq,List.cons.injEq,and_true]at hy;obtain⟨_,_,⟨_,rfl⟩,_⟩:=hy;rw[hH]at hk';cases hk'
    ·simp [Zaa]at hy
   ·rename_i k n;rw[Zao]at hy;split at hy
    ·rename_i hk';simp only[Zag,Zac,Prod.mk.injEq,List.cons.injEq,and_true]at hy;obtain⟨_,_,⟨_,rfl⟩,_⟩:=hy;rw[hH]at hk';cases hk'
    ·simp [Zaa]at hy
   ·simp only[Zac,Prod.mk.injEq]at hy;obtain⟨⟨_,h⟩,_⟩:=hy;cases h
   ·simp [Zaa]at hy
 rcases hO with ⟨rfl,_⟩ | ⟨b,cap,cs,e,hb,hJ,hsv,hh,hl,hcap,hcs⟩
 ·simp at hx'
 ·have hil:i<xs.length:=(List.getElem?_eq_some_iff.1 hx').1;have hid:H id≠none:=by rw[hH];simp
  have hr:=hr b cap cs e hb hsv hh (by omega);have hsb:=hR.sep id b hid hJ;have hR1:RH B (Zaf H (ids.map fun id=>(id,none))) w g ow:=hR.drops ids;rw[ZaI];have hother: ∀k,k≠b->(w.setRow b (cs.toList.set i val).toArray).heap[k]? =w.heap[k]? :=fun k hk=>setRow_other w b k _ hk;have hag:Zbe g.I w (w.setRow b (cs.toList.set i val).toArray):=fun k hk=>hother k fun e=>hsb.1 (e▸hk);have hrb: ∀b',ZfD val=some b' ->ZaV H ow ids b' :=fun b' hb' =>hrowv.own hb'
  have hnb: ∀b',ZaV H ow ids b' ->b' ≠b/\ ¬ow id b' :=fun b' ⟨k,h1,h2,h3⟩=>by have hne: ¬ow id b' :=fun h4=>hidn (hR.dist id k b' hid h2 h4 h3▸h1);exact⟨fun e=>hne (e▸hJ),hne⟩
  let row' : (kt:Ty)->El kt->Value:=fun kt k=>if h:kt= .int .i64 then(if (h▸k:El (.int .i64))=(i:Int) then val else g.row id kt k) else g.row id kt k
  have hrow' : ∀j:Nat,j≠i->row' (.int .i64) (j:Int)=g.row id (.int .i64) (j:Int):=fun j hj=>by
   have: ¬ ((j:Int)=(i:Int)):=by omega
   simp [row',this]
  have hrowi:row' (.int .i64) (i:Int)=val:=by simp [row']
  refine⟨undef,w.setRow b (cs.toList.set i val).toArray,g.bump id nid row',Zd5 ow id (fun b' =>ow id b' \/ZaV H ow ids b'), .inr ⟨hr,rfl⟩, ?_,Gh.le_bump (by omega),hag,Zfw,fun _ h=> .inl h⟩;refine hR1.bump (id:=id) (v:=nid) hK (by omega) (fun b' hb' => ?_) (Nat.le_of_eq (size_setRow w b _).symm) rfl rfl ⟨rfl,Nat.le_refl _⟩ (fun b' h1 h2=>hother b' fun e=> ?_) (fun b' hb' => ?_) ?_
  ·rcases hb' with hb' | ⟨k,hk,h1,h2⟩
   ·exact hag b' hb'
   ·refine hother b' fun e=>hk ?_;subst e;exact(hR.dist id k b' hid (hlive k h1).2 hJ h2).symm
  ·subst e;rcases hsb.2.2 with h3|h3
   ·exact h2 h3
   ·omega
  ·rw[size_setRow];rcases hb' with hb' | ⟨k,h1,h2,h3⟩
   ·obtain⟨p,q,r⟩:=hR.sep id b' hid hb';exact⟨p,q,r,fun k hk h4 h5=>hk (hR.dist k id b' (hlive k h4).2 hid h5 hb')⟩
   ·obtain⟨p,q,r⟩:=hR.sep k b' h2 h3;refine⟨p,q,r,fun k' hk h4 h5=>(hlive k' h4).1 ?_⟩;have:=hR.dist k' k b' (hlive k' h4).2 h2 h5 h3;exact this▸h1
  ·refine⟨hty,if_pos rfl, ?_, .inr ⟨b,cap,(cs.toList.set i val).toArray,e,hb, .inl hJ,by show g.slv id=_;rw[hsv];simp,setRow_heap w b cs _ e (0,0) hh,by simpa using hl,by simpa using hcap,fun j hj=> ?_⟩⟩
   ·show RF _ g.I _ t0 (g.blk id) (fun j:Nat=>(if id=id then row' else g.row id) (.int .i64) (j:Int)) _ none
    rw[if_pos rfl];refine hrf.put (k0:=i) (x0:=ys) (fun j hj=>hrow' j hj) (fun j x hx=> ?_) ?_ ?_ (fun j x hx hj hr=> ?_) fun b' hb' => ?_
    ·rw[List.getElem?_set]at hx;split at hx
     ·rename_i hij;subst hij;simp only[Option.some.injEq]at hx;exact .inl ⟨rfl,hx.symm⟩
     ·rename_i hij;exact .inr ⟨fun e=>hij e.symm,hx⟩
    ·cases hole with
     |none=>exact .inl rfl
     |some j=>exact .inr (by rw[Nat.eq_of_beq_eq_true hi])
    ·show Zge _ _ _ _ _ (row' (.int .i64) (i:Int));rw[hrowi];exact hrowv.mono hag (fun _ h=>h) (fun b' _ h=> .inr h) fun b' _ h=>hother b' (hnb b' h).1
    ·refine hr.mono hag (fun _ h=>h) (fun b' _ h=> .inl h) fun b' hb' h=>hother b' fun e=> ?_
     have hne:hole≠some j:=fun e=>by rw[e]at hi;exact hj (Nat.eq_of_beq_eq_true hi)
     exact hrf.tp j x b' hx hne hb' (e▸hb)
    ·have hb' :ZfD (row' (.int .i64) (i:Int))=some b' :=hb';rw[hrowi]at hb';have hob:=hnb b' (hrb b' hb');refine⟨fun j x hx hj hbj=>hob.2 ?_,fun e=>hob.1 (Option.some.inj (e.symm.trans hb))⟩
     have hne:hole≠some j:=fun e=>by rw[e]at hi;exact hj (Nat.eq_of_beq_eq_true hi)
     exact(hrf.rd j x hx hne).own hbj
   ·have hj:j<xs.length:=by simpa using hj
    show _=some ((if id=id then row' else g.row id) (.int .i64) (j:Int))
    rw[if_pos rfl];simp only[List.getElem?_toArray,List.getElem?_set];split
    ·rename_i hij;subst hij;rw[hrowi,if_pos (by simp;omega)]
    ·rename_i hij;rw[hrow' j fun e=>hij e.symm];simpa using hcs j hj
theorem ZtM{w' :World}{id ver:Nat}{kt:Ty}{k:El kt}{r: (t:Ty) ×List (El t)}{row:List (El r.1)}{o' :ZdX}{l l' l2 l2' :List Nat}{b i:Nat}(hR:RH B H w g ow)(hacc: (Zc6 id ver kt k).run H l=some (r,l'))
  (hset: (Zpv id kt k r.1 row).run H l2=some (o',l2')) (hb:ZfD (g.row id kt k)=some b) (hne:i<r.2.length) (hnew:Zge w' g.I (ow id) r.1 row (g.row id kt k)) (hheap: ∀k,k≠b->w'.heap[k]? =w.heap[k]?):Zf5 w' g (ow id) id o' :=by
 have hlive:H id≠none:=by
  simp only[Zc6]at hacc;rw[Zao]at hacc;split at hacc
  ·rename_i hH;rw[hH];simp
  ·rename_i hH;rw[hH];simp
  ·simp [Zaa]at hacc
 have hob:ow id b:=hnew.own hb;have hag:Zbe g.I w w' :=fun k hk=>hheap k fun e=>(hR.sep id b hlive hob).1 (e▸hk);simp only[Zc6]at hacc;rw[Zao]at hacc;simp only[Zpv]at hset;rw[Zao]at hset;split at hacc
 ·rename_i t xs u hH;rw[hH]at hset;simp only[Zan,Zag,Zac,Zaa,and_false,or_false]at hacc hset;obtain⟨hu,i',hi',x,hx,rfl,_⟩:=hacc;obtain⟨i2,hi2,y,hy,rfl,_⟩:=hset;obtain⟨rfl,rfl⟩:=Zaz hi';have:=Zef hi2;subst this;obtain⟨_,rfl⟩:=Zcy hy;obtain⟨_,hty,hver,hrf,hO⟩:=hR.objs id _ hH;unfold idx at hx;split at hx
  ·rename_i h0;have hx0:=hx;have hil:i2.toNat<xs.length:=(List.getElem?_eq_some_iff.1 hx).1;have e1: ((i2.toNat:Nat):Int)=i2:=Int.toNat_of_nonneg h0;refine⟨hty,hver,hrf.put (k0:=i2.toNat) (x0:=y) (fun _ _=>rfl) (fun j x hx=> ?_) (.inl rfl) (by simp only[e1];exact hnew) (fun j x hx hj hr=> ?_) (fun b' hb' => ?_), ?_⟩
   ·rw[List.getElem?_set]at hx;split at hx
    ·rename_i hij;subst hij;simp only[Option.some.injEq]at hx;exact .inl ⟨rfl,hx.symm⟩
    ·rename_i hij;exact .inr ⟨fun e=>hij e.symm,hx⟩
   ·refine hr.mono hag (fun _ h=>h) (fun _ _ h=>h) fun b' hb' _=>hheap b' fun e=> ?_;subst e;exact hrf.ds j i2.toNat x _ b' hx hx0 hj (by simp) (by simp) hb' (by simp only[e1];exact hb)
   ·simp only[e1]at hb';rw[hb]at hb';cases hb';exact⟨fun j x hx hj hbj=>hrf.ds j i2.toNat x _ b hx hx0 hj (by simp) (by simp) hbj (by simp only[e1];exact hb),hrf.tp i2.toNat _ b hx0 (by simp) (by simp only[e1];exact hb)⟩
   ·rcases hO with ⟨rfl,_⟩ | ⟨b',cap,cs,e,h1,h2,h3,h4,h5,h6,h7⟩
    ·simp at hil
    ·refine .inr ⟨b',cap,cs,e,h1,h2,by simpa using h3,(hheap b' fun e=> ?_).trans h4,by simpa using h5,h6,fun j hj=>h7 j (by simpa using hj)⟩;exact hrf.tp i2.toNat _ b hx0 (by simp) (by simp only[e1];exact hb) (e▸h1)
  ·simp at hx
 ·rename_i kt' t m u hH;rw[hH]at hset;simp only[Zan,Zag,Zac,Zaa,and_false,or_false,Bool.and_eq_true]at hacc hset;obtain⟨⟨hu,hko⟩,k',hk',rfl,_⟩:=hacc;obtain⟨k2,hk2,y,hy,rfl,_⟩:=hset;obtain⟨rfl,rfl⟩:=Zaz hk';have:=Zef hk2;subst this;obtain⟨_,rfl⟩:=Zcy hy;obtain⟨_,hty,hver,hrf,hnd,habs,b',es,clock,h1,h2,h3,h4⟩:=hR.objs id _ hH;have hkk:=ZcU hko;simp only at hne
  cases hg:ZaL (Zap kt) k2 m with
  |none=>rw[hg]at hne;simp at hne
  |some x0=>
   have hmem:=ZeL hkk hg;have hin:k2∈m.map Prod.fst:=List.mem_map.2 ⟨_,hmem,rfl⟩;have hkeys:=(Zb5 hkk (v:=y)).1 hin;have htp:=hrf.tp k2 x0 b hmem (by simp) hb;refine⟨hty,hver,hrf.put (k0:=k2) (x0:=y) (fun _ _=>rfl) (fun j x hx=>Zf6 hkk hnd hx) (.inl rfl) hnew (fun j x hx hj hr=> ?_) (fun b2 hb2=> ?_),Zfv hkk hnd,fun q hq=>habs q (by rw[hkeys]at hq;exact hq),b',es,clock,h1,h2,(hheap b' fun e=>htp (e▸h1)).trans h3, ?_⟩
   ·refine hr.mono hag (fun _ h=>h) (fun _ _ h=>h) fun b2 hb2 _=>hheap b2 fun e=> ?_;subst e;exact hrf.ds j k2 x _ b2 hx hmem hj (by simp) (by simp) hb2 hb
   ·rw[hb]at hb2;cases hb2;exact⟨fun j x hx hj hbj=>hrf.ds j k2 x _ b hx hmem hj (by simp) (by simp) hbj hb,htp⟩
   ·rw[ZdP];have h4' :=h4.mono fun kv e hx=>(⟨hx.1.mono hag (.refl g),hx.2⟩:VR1 w' g (.d kt kv.1) e.key/\e.val=g.row id kt kv.1)
    cases hix:Zc8 (Zap kt) k2 m with
    |none=>
     rw[ZdU,hix]at hg;simp at hg
    |some j=>
     simp only;obtain⟨e1,he1,he2⟩:=ZcM _ _ _ _ hix;obtain⟨en,hen,hp⟩:=h4'.get j e1 he1;have he3:=(Za5 hkk).1 he2;have:=h4'.set j (a:=(k2,y)) (b:=en) (by rw[he3];exact hp)
     have e5:es.toList.set j en=es.toList:=by
      apply List.ext_getElem?;intro q;rw[List.getElem?_set];split
      ·rename_i hq;subst hq;rw[hen];have:=(List.getElem?_eq_some_iff.1 hen).1;simpa using this
      ·rfl
     rwa [e5]at this
 ·simp [Zaa]at hacc
theorem Zq9{T:TypeId}{x y:Operand}(hT:ZaB P E)(hR:RH B H w g ow)(hF:Fr w g F a.tmps)(ho:o.op= .store T x y)
  (h: (aop E nid o.op o.type (aev F)).run H []=some ((v,patch),rd)):Did B (Zaf H patch) w g nid v ((execOp a.eval o).run P w):=by
 rw[ho]at h;simp only[aop,Zag,Zan,Zaa,and_false,or_false]at h;obtain⟨t,ht,hf,h⟩:=h;have hx:=hF.eval x;have hy:=(hF.eval y).to1 (ZhS hf).2;have hone:=CV.oneCell _ _ (ZhS hf).1 hy.1 t hf;have hlen:=CV.length _ t _ hf hy.1;split at h
 ·rename_i id p hx';rw[Zao]at h;split at h
  ·rename_i t0 c hH;simp only[Zas,Zac,Prod.mk.injEq]at h;obtain⟨c',m,h1,⟨rfl,rfl⟩,_⟩:=h;obtain⟨hk,o',t1,b,h3,h4,h5⟩:=(hx' ▸hx).ptr;obtain⟨_,hty,hf0,b',cs,e,h6,h7,h8,h9,h10⟩:=hR.objs id _ hH;obtain⟨_,o2,pre,c1,post,t2,⟨h11,h12,h13,h14⟩,h15,h16⟩:=Zqi h1 hf0 h10 hy.1 (by simpa using h9);rw[hty,h11]at h3;obtain⟨rfl,rfl⟩:=Prod.mk.inj (Option.some.inj h3);rw[h4]at h6;cases h6;subst h13;have hag:=ZeB (cs' :=(pre++(a.eval y).cells.toList++post).toArray) hR (by rw[hH];simp) h7;refine Did.write hR (by rw[hH];simp) h7 (cs' :=(pre++(a.eval y).cells.toList++post).toArray) ?_ ?_
   ·simp only[execOp,ho,h5,Instr.storeAt,Instr.sureAddr,Sem.run_bind,Sem.run_pure,Result.andThen_ok,Zdn (hT.ty T t ht) h8 h12 rfl h14 hlen hone]
   ·refine⟨hty,h15,b,_,e,h4,h7,ZdJ h8, ?_, ?_⟩
    ·have:cs.size=pre.length+c1.length+post.length:=by rw[<-Array.length_toList,h12];simp only[List.length_append]
     simp only[List.size_toArray,List.length_append];omega
    ·simpa using CV.mono hag (.refl g) _ _ h16
  ·simp [Zaa]at h
 ·rename_i id i p hx';rw[Zao]at h;split at h
  ·rename_i t0 xs hH;simp only[Zag,Zas,Zac,Prod.mk.injEq]at h;obtain⟨e0,he0,dv,hdv,e',m,h1,⟨rfl,rfl⟩,_⟩:=h
   have hev:aev F y= .d dv.1 dv.2:=by
    cases hh:aev F y<;>rw[hh]at hdv<;>simp [AV.dv?]at hdv
    subst hdv;rfl
   rw[hev]at hy hf;obtain⟨hk,o',t1,b,h3,h4,h5⟩:=(hx' ▸hx).vp;obtain⟨_,hO⟩:=hR.objs id _ hH;obtain⟨b',cap,cs,e,css,c,hty,hb,hJ,hsv,hh,hl,hcap,hfa,hci,hxc,r,hcs,hlen2,hset⟩:=ZmL hO he0;obtain⟨_,o2,pre,c1,post,h11,h12,h13,h14,h15⟩:=ZfY p t0 e0 _ _ dv e' c _ h1 hxc (by simpa only[CV] using hy.1);rw[hty,h11]at h3;obtain⟨rfl,rfl⟩:=Prod.mk.inj (Option.some.inj h3);rw[h4]at hb;cases hb;subst h13;have hcs2:cs.toList=((css.take i).flatten++pre)++c1++(post++((css.drop (i+1)).flatten++r)):=by rw[hcs,h12];simp
   have hag:=ZeB (cs' :=(((css.take i).flatten++pre)++(a.eval y).cells.toList++(post++((css.drop (i+1)).flatten++r))).toArray) hR (by rw[hH];simp) hJ;refine Did.write hR (by rw[hH];simp) hJ (cs' :=(((css.take i).flatten++pre)++(a.eval y).cells.toList++(post++((css.drop (i+1)).flatten++r))).toArray) ?_ ?_
   ·have haddr:i* (g.ty id).size+pre.length=((css.take i).flatten++pre).length:=by rw[List.length_append,hlen2,hty]
    simp only[execOp,ho,h5,Instr.storeAt,Instr.sureAddr,Sem.run_bind,Sem.run_pure,Result.andThen_ok,haddr,Zdn (hT.ty T t ht) hh hcs2 rfl h14 hlen hone]
   ·have hflat: (css.set i (pre++(a.eval y).cells.toList++post)).flatten++r=((css.take i).flatten++pre)++(a.eval y).cells.toList++(post++((css.drop (i+1)).flatten++r)):=by rw[hset];simp
    refine⟨hty, .inr ⟨b,cap,_,e,css.set i (pre++(a.eval y).cells.toList++post),h4,hJ,by simpa using hsv,ZdJ hh,by simpa using hl, ?_, ?_,r, ?_⟩⟩
    ·have:cs.size=((css.take i).flatten++pre).length+c1.length+(post++((css.drop (i+1)).flatten++r)).length:=by rw[<-Array.length_toList,hcs2];simp only[List.length_append]
     simp only[List.size_toArray,List.length_append]at this ⊢;omega
    ·exact(hfa.set i h15).mono fun x c hx=>Rd.mono hag (fun _ h=>h) t0 x c hx
    ·rw[hflat]
  ·rename_i t0 xs u hole hH;simp only[Zag,Zan,Zas,Zac,Zaa,and_false,or_false,beq_iff_eq,Prod.mk.injEq,Bool.and_eq_true,List.isEmpty_iff]at h;obtain⟨⟨⟨rfl,rfl⟩,hlt⟩,uu,hhole,x',hx2,⟨ys,ids⟩,m,hown,⟨rfl,rfl⟩,_⟩:=h;have hhole:=Zbi hhole;obtain⟨hk,o',t1,b,h3,h4,h5⟩:=(hx' ▸hx).vp;rw[ZaR]at h3;obtain⟨rfl,rfl⟩:=Prod.mk.inj (Option.some.inj h3);refine ZpI hR hH hhole (Nat.le_of_ble_eq_true hlt) hx2 (hF.eval y) hown fun b' cap cs e hb hsv hh hi=> ?_;rw[h4]at hb;cases hb;obtain⟨_,hty,_⟩:=hR.objs id _ hH;have hag:ZaN (a.eval y)=false:=(ZdZ hR (hF.eval y) hown).one.2
   have hcells: (a.eval y).cells.toList=[a.eval y]:=by
    cases hv:a.eval y<;>rw[hv]at hag<;>simp [ZaN]at hag<;>rfl
   have hl:i<cs.toList.length:=by simpa using hi
   have h12:cs.toList=cs.toList.take i++[cs.toList[i]]++cs.toList.drop (i+1):=by rw[List.append_assoc,List.singleton_append, <-List.drop_eq_getElem_cons hl,List.take_append_drop]
   have hpre: (cs.toList.take i).length=i:=by rw[List.length_take];omega
   have hadr:i* (g.ty id).size+0=(cs.toList.take i).length:=by rw[hty,hpre];simp [Ty.size]
   have:=Zdn (hT.ty T _ ht) hh h12 (d:=[a.eval y]) hcells rfl rfl (by rw[hcells]at hone;exact hone);simp only[execOp,ho,h5,Instr.storeAt,Instr.sureAddr,Sem.run_bind,Sem.run_pure,Result.andThen_ok,hadr,this];congr 3;rw[List.set_eq_take_append_cons_drop,if_pos hl];simp
  ·simp [Zaa]at h
 ·rename_i id ver kt k i p hx';simp only[Zag,Zas,Zac,Prod.mk.injEq]at h;obtain⟨r,m1,hacc,e0,he0,dv,hdv,e',m2,h1,o',m3,hset,⟨rfl,rfl⟩,_⟩:=h
  have hev:aev F y= .d dv.1 dv.2:=by
   cases hh:aev F y<;>rw[hh]at hdv<;>simp [AV.dv?]at hdv
   subst hdv;rfl
  rw[hev]at hy hf;obtain⟨hk,hv,ad,h3,h4⟩:=(hx' ▸hx).np;obtain⟨hne,hty,hver,hrow⟩:=ZfQ hR hk hacc;obtain⟨b,len,cap,o2,t1,h5,h6,h7⟩:=h4 hver;obtain⟨b',cap',cs,e,css,c,hd,hJ,hh,hl,hcap,hfa,hci,hxc,r',hcs,hlen2,hset2⟩:=Znt hrow he0;rw[h5]at hd;simp only[Value.slice.injEq,Option.some.injEq,Addr.mk.injEq,and_true]at hd;obtain⟨rfl,rfl,rfl⟩:=hd;obtain⟨_,o3,pre,c1,post,h11,h12,h13,h14,h15⟩:=ZfY p r.1 e0 _ _ dv e' c _ h1 hxc (by simpa only[CV] using hy.1);rw[hty]at h6 h7;simp only[ety]at h6 h7;rw[h11]at h6;obtain⟨rfl,rfl⟩:=Prod.mk.inj (Option.some.inj h6);subst h13;subst h7;have hcs2:cs.toList=((css.take i).flatten++pre)++c1++(post++((css.drop (i+1)).flatten++r')):=by rw[hcs,h12];simp
  have hag:=ZeB (cs' :=(((css.take i).flatten++pre)++(a.eval y).cells.toList++(post++((css.drop (i+1)).flatten++r'))).toArray) hR hne hJ;have hflat: (css.set i (pre++(a.eval y).cells.toList++post)).flatten++r' =((css.take i).flatten++pre)++(a.eval y).cells.toList++(post++((css.drop (i+1)).flatten++r')):=by rw[hset2];simp
  have hnew:Zge (w.setRow b (((css.take i).flatten++pre)++(a.eval y).cells.toList++(post++((css.drop (i+1)).flatten++r'))).toArray) g.I (ow id) r.1 (r.2.set i e') (g.row id kt k):=by
   refine .inr ⟨b,cap,_,e,css.set i (pre++(a.eval y).cells.toList++post),by rw[h5];simp,hJ,ZdJ hh,by simpa using hl, ?_, ?_,r', ?_⟩
   ·have:cs.size=((css.take i).flatten++pre).length+c1.length+(post++((css.drop (i+1)).flatten++r')).length:=by rw[<-Array.length_toList,hcs2];simp only[List.length_append]
    simp only[List.size_toArray,List.length_append]at this ⊢;omega
   ·exact(hfa.mono fun x c hx=>Rd.mono hag (fun _ h=>h) _ x c hx).set i (Rd.mono hag (fun _ h=>h) _ _ _ h15)
   ·simpa using hflat
  refine Did.write hR hne hJ (cs' :=(((css.take i).flatten++pre)++(a.eval y).cells.toList++(post++((css.drop (i+1)).flatten++r'))).toArray) ?_ ?_
  ·have haddr:i*r.1.size+pre.length=((css.take i).flatten++pre).length:=by rw[List.length_append,hlen2]
   simp only[execOp,ho,h3,Instr.storeAt,Instr.sureAddr,Sem.run_bind,Sem.run_pure,Result.andThen_ok,haddr,Zdn (hT.ty T t ht) hh hcs2 rfl h14 hlen hone]
  ·exact ZtM hR hacc hset (by rw[h5];rfl) (List.getElem?_eq_some_iff.1 he0).1 hnew (fun k hk=>setRow_other w b k _ hk)
 ·simp [Zaa]at h
end ops
end Tr
