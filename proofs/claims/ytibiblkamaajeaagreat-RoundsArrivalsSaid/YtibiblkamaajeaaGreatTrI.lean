/- Operations on memory: variables, loads, stores, addresses. Conditions: the table of types is the program's. -/
import Derived.Test.YtibiblkamaajeaaGreatTrHr
open Array renaming length_toList ->Vh
open Bool renaming and_eq_true ->Vk
open Go.Instr renaming sureAddr ->Vi,storeAt ->Vm,alloc ->Vq
open List renaming length_append ->Va,getElem?_eq_some_iff ->Vd,getElem?_set ->Vj,size_toArray ->Vn,append_assoc ->Vo,isEmpty_iff ->Vp
open Nat renaming eq_of_beq_eq_true ->Vl
open Prod.mk renaming injEq ->Vb,inj ->Vg
open Go.Result renaming andThen_ok ->Vc
open Go.Sem renaming run_bind ->Ve,run_pure ->Vf
open Go.Value renaming slice ->Vr
namespace Tr
open Go
theorem Zjr{a:AV}{t:Ty}(h:a.fits t=true):a≠ .junk/\ ∀l,a≠ .tup l:=by
 constructor
 ·rintro rfl;simp [AV.fits]at h
 ·rintro l rfl;simp [AV.fits]at h
theorem Zgb{a:AV}{t:Ty}(h:a.fits t=true)(hs:a.solid=true):a.isAgg=t.agg:=by
 rcases ZuF h with h| ⟨n,rfl⟩
 ·exact h
 ·simp [AV.solid]at hs
section ops
variable {P:Program}{E:Env}{B:Zcq}{H:AH}{w:World}{g:Gh}{ow:Nat->Nat->Prop}{nid:Nat}{a:Act}{F:Nat->AV}{v:AV}{patch:Zbu}{rd:List Nat}{o:Oper}
theorem Zmr{id:Nat}{t:Ty}{b:Nat}{sv:Value} :VR w (g.add id t (some b) sv) (.ptr id []) (.pointer (some ⟨b,0,none⟩)):=by refine Zbj ?_ rfl rfl;simp only[CV];exact⟨.inl rfl,0,t,b,by simp [Gh.add,ZaT],by simp [Gh.add],rfl⟩
theorem Zct(w:World)(o:Obj): (w.alloc o).heap[w.heap.size]? =some o:=by show (w.heap.push o)[w.heap.size]? =_;simp
theorem Zdu{w:World}{o:Obj}{k:Nat}(h:k<w.heap.size): (w.alloc o).heap[k]? =w.heap[k]? :=by show (w.heap.push o)[k]? =_;rw[Array.getElem?_push,if_neg (by omega)]
theorem Zne(hR:RH B H w g ow)(hnk: ¬g.K nid){t:Ty}{sv:Value}{b:Option Nat}{ob:Obj}{x:AV}{cs:List Value}(h:CV w g x cs):CV (w.alloc ob) (g.add nid t b sv) x cs:=
 CV.mono (fun _ hb=>Zdu (hR.ilt _ hb)) (Gh.le_add hnk _ _ _) x cs h
theorem Zup(hR:RH B H w g ow)(hk: ∀id,g.K id->id<nid\/nid+ZaI<=id){t:Ty}{sv:Value}{b:Option Nat}{ob:Obj}{x:AV}{cs:List Value}(h:CV w g x cs):CV (w.alloc ob) (g.add nid t b sv) x cs:=Zne hR (Zho hk) h
theorem Zrh(hR:RH B H w g ow)(hk: ∀id,g.K id->id<nid\/nid+ZaI<=id){t:Ty}{T:TypeId}{c:AV}{cells:Array Value}(hf:c.fits t=true)(hc:CV w g c cells.toList){r:Result Next}
  (hr:r= .ok (.value (.pointer (some ⟨w.heap.size,0,none⟩))) (w.alloc (.cells cells T))):Did B (Zca H nid (some (.var t c))) w g nid (.ptr nid []) r:=by
 refine Did.new (t:=t) (sv:=undef) hR hk hr ?_ Zmr;refine⟨by simp [Gh.add],hf,w.heap.size,cells,T,by simp [Gh.add],rfl,Zct _ _, ?_,Zup hR hk hc⟩;have:=CV.length c t _ hf hc;simpa using this
theorem ZrF{T:TypeId}(hT:ZaB P E)(hR:RH B H w g ow)(hk: ∀id,g.K id->id<nid\/nid+ZaI<=id)(ho:o.op= .alloc T)(h: (aop E nid o.op o.type (aev F)).run H []=some ((v,patch),rd)):
  Did B (Zag H patch) w g nid v ((execOp a.eval o).run P w):=by
 rw[ho]at h;simp only[aop]at h;split at h
 ·rename_i e he;simp only[Zab,Vb]at h;obtain⟨⟨rfl,rfl⟩,_⟩:=h;obtain⟨z,hz,hz2⟩:=hT.bd T e he;refine Did.new (t:= .unit) (sv:=undef) (val:= .pointer (some ⟨w.heap.size,0,none⟩)) (o:= .cells z.cells T) hR hk ?_ ?_ Zmr
  ·simp only[execOp,ho,Vq,Ve,hz,Vc,newVar,newRow,run_newObj,Vf];rfl
  ·refine⟨w.heap.size,by simp [Gh.add],rfl, .pointer none, .slice none 0 0, .inl rfl, ?_,⟨by simp [u8s], .inl ⟨rfl,rfl⟩⟩,fun k hk=>by simp [Value.ownBlock]at hk,fun _=>rfl⟩;rw[Zct,hz2]
 simp only[Zah,Zab,Vb]at h;obtain⟨t,ht,⟨rfl,rfl⟩,_⟩:=h;obtain⟨z,hz,hz2⟩:=(hT.ty T t ht).run_zerox (E.zx T) w;refine Zrh hR hk (T:=T) (cells:=z.cells) (hz2 w g).2 (hz2 w g).1.1 ?_;simp only[execOp,ho,Vq,Ve,hz,Vc,newVar,newRow,run_newObj,Vf];rfl
theorem Zwk{T:TypeId}{x:Operand}(hR:RH B H w g ow)(hF:Fr w g F a.tmps)(hk: ∀id,g.K id->id<nid\/nid+ZaI<=id)(ho:o.op= .box T x)
  (h: (aop E nid o.op o.type (aev F)).run H []=some ((v,patch),rd)):Did B (Zag H patch) w g nid v ((execOp a.eval o).run P w):=by
 rw[ho]at h;simp only[aop,Zah,Zao,Zab,Zaa,and_false,or_false,Vb]at h;obtain⟨t,ht,hf,⟨rfl,rfl⟩,_⟩:=h;have hx:=(hF.eval x).to1 (Zjr hf).2;refine Zrh hR hk (T:=T) (cells:=(a.eval x).cells) hf hx.1 ?_;simp only[execOp,ho,Instr.box,Ve,Vc,newVar,newRow,run_newObj,Vf];rfl
theorem Zo8{t:Ty}{xs:List (El t)}{id:Nat}{J:Nat->Prop}(h:Zhj w g J id (.vec t xs)){i:Nat}{x:El t}(hx:xs[i]? =some x):
  ∃b cap cs e css c,g.ty id=t/\g.blk id=some b/\J b/\g.slv id= .slice (some ⟨b,0,none⟩) xs.length cap/\w.heap[b]? =some (.cells cs e (0,0))/\xs.length<=cap/\cap*t.size<=cs.size/\
   Fa (Rd w g.I t) xs css/\css[i]? =some c/\Rd w g.I t x c/\ ∃r,cs.toList=(css.take i).flatten++c++((css.drop (i+1)).flatten++r)/\(css.take i).flatten.length=i*t.size/\
    ∀c',(css.set i c').flatten++r=(css.take i).flatten++c' ++((css.drop (i+1)).flatten++r):=by
 obtain⟨hty,h⟩:=h;rcases h with ⟨rfl,_⟩ | ⟨b,cap,cs,e,css,h1,h2,h3,h4,h5,h6,h7,r,hr⟩
 ·simp at hx
 ·obtain⟨c,hc,hxc⟩:=h7.get i x hx;obtain⟨s1,s2,s3⟩:=Zbx hc t.size (Rd.all_length h7);exact⟨b,cap,cs,e,css,c,hty,h1,h2,h3,h4,h5,h6,h7,hc,hxc,r,by rw[<-hr,s1];simp,s2,fun c' =>by rw[s3 c'];simp⟩
theorem Zuk{T:TypeId}{x:Operand}(hT:ZaB P E)(hR:RH B H w g ow)(hF:Fr w g F a.tmps)(ho:o.op= .load T x)
  (h: (aop E nid o.op o.type (aev F)).run H []=some ((v,patch),rd)):Did B (Zag H patch) w g nid v ((execOp a.eval o).run P w):=by
 rw[ho]at h;simp only[aop,Zah]at h;obtain⟨t,ht,h⟩:=h;have hx:=hF.eval x
 have fin: ∀ {b off:Nat}{c:List Value},a.eval x= .pointer (some ⟨b,off,none⟩)->Zc5 w b off c->CV w g v c->v.fits t=true->v.solid=true->patch=[]->Did B (Zag H patch) w g nid v ((execOp a.eval o).run P w):=by intro b off c he hc hcv hf hs hp;subst hp;obtain⟨h1,h2⟩:=ZiB hcv hf (Zgb hf hs);refine Did.pure hR ?_ (VR.of1 h1);simp only[execOp,ho,he,Instr.loadAt,Vi,Ve,Vf,Vc,ZiX (hT.ty T t ht) hc (CV.length v t c hf hcv) h2]
 split at h
 ·rename_i t' y hy;simp only[Zao,Zab,Zaa,and_false,or_false,beq_iff_eq,Vb]at h;obtain⟨rfl,⟨rfl,rfl⟩,_⟩:=h;obtain⟨b,off,c,h1,h2,h3,h4⟩:=(hy▸hx).dp;exact fin h1 h3.at (by simpa only[CV] using h4) (by simp [AV.fits]) rfl rfl
 ·rename_i id p hy;rw[Zap]at h;split at h
  ·rename_i t0 c hH;simp only[Zav,Zao,Zab,Zaa,and_false,or_false,Vb,Vk]at h;obtain⟨v',m,h1,⟨h2,h2s⟩,⟨rfl,rfl⟩,_⟩:=h;obtain⟨hk,o',t1,b,h3,h4,h5⟩:=(hy▸hx).ptr;obtain⟨_,hty,hf,b',cs,e,h6,h7,h8,h9,h10⟩:=hR.objs id _ hH;obtain⟨_,t2,c1,⟨o2,pre,post,h11,h12,h13⟩,h14,h15⟩:=Ziy h1 hf h10;rw[hty,h11]at h3;obtain⟨rfl,rfl⟩:=Vg (Option.some.inj h3);rw[h4]at h6;cases h6;refine fin h5 ?_ h15 h2 h2s rfl;rw[<-h13];exact Zc5.of_heap h8 h12
  ·simp [Zaa]at h
 ·rename_i id i p hy;rw[Zap]at h;split at h
  ·rename_i t0 xs hH;simp only[Zah,Zav,Zao,Zab,Zaa,and_false,or_false,beq_iff_eq,Vb]at h;obtain⟨x',hx',y,m,h1,rfl,⟨rfl,rfl⟩,_⟩:=h;obtain⟨hk,o',t1,b,h3,h4,h5⟩:=(hy▸hx).vp;obtain⟨_,hO⟩:=hR.objs id _ hH;obtain⟨b',cap,cs,e,css,c,hty,hb,hJ,hsv,hh,hl,hcap,hfa,hci,hxc,r,hcs,hlen,_⟩:=Zo8 hO hx';obtain⟨_,c1,⟨o2,pre,post,h11,h12,h13⟩,h15⟩:=Zg6 p t0 x' _ _ y c h1 hxc;rw[hty,h11]at h3;obtain⟨rfl,rfl⟩:=Vg (Option.some.inj h3);rw[h4]at hb;cases hb;refine fin h5 (c:=c1) ?_ (by simpa only[CV] using h15) (by simp [AV.fits]) rfl rfl;have:cs.toList=((css.take i).flatten++pre)++c1++(post++((css.drop (i+1)).flatten++r)):=by rw[hcs,h12];simp
   have:=Zc5.of_heap hh this
   rwa [Va,hlen,h13, <-hty]at this
  ·rename_i t0 xs u hH;simp only[Zah,Zao,Zab,Zaa,and_false,or_false,beq_iff_eq,Vb,Vk,Vp]at h;obtain⟨⟨rfl,rfl⟩,x',hx',⟨rfl,rfl⟩,_⟩:=h;obtain⟨hk,o',t1,b,h3,h4,h5⟩:=(hy▸hx).vp;rw[ZaT]at h3;obtain⟨rfl,rfl⟩:=Vg (Option.some.inj h3);obtain⟨_,hty,hver,hrf,hO⟩:=hR.objs id _ hH;rcases hO with ⟨rfl,_⟩ | ⟨b',cap,cs,e,hb,hJ,hsv,hh,hl,hcap,hcs⟩
   ·simp at hx'
   ·rw[h4]at hb;cases hb;have hi:i<xs.length:=(Vd.1 hx').1;have h1:=hrf.rd i x' hx' (by simp);refine fin h5 (c:=[g.row id (.int .i64) (i:Int)]) ?_ ?_ rfl rfl rfl
    ·rw[hty];intro j v hj
     cases j with
     |zero=>
      simp only[List.getElem?_cons_zero,Option.some.injEq]at hj;subst hj;simp only[Ty.size,Nat.mul_one,Nat.add_zero,World.cell?,hh]
      simpa using hcs i hi
     |succ j=>simp at hj
    ·simp only[CV];exact⟨hk,Nat.le_of_eq hver.symm,_,rfl,h1.one.1,fun _=>rfl⟩
  ·simp [Zaa]at h
 ·rename_i id ver kt k i p hy;simp only[Zah,Zav,Zao,Zab,Zaa,and_false,or_false,beq_iff_eq,Vb]at h;obtain⟨r,m1,hacc,x',hx',y,m,h1,rfl,⟨rfl,rfl⟩,_⟩:=h;obtain⟨hk,hv,ad,h3,h4⟩:=(hy▸hx).np;obtain⟨hne,hty,hver,hrow⟩:=Zg7 hR hk hacc;obtain⟨b,len,cap,o',t1,h5,h6,h7⟩:=h4 hver;obtain⟨b',cap',cs,e,css,c,hd,hJ,hh,hl,hcap,hfa,hci,hxc,r',hcs,hlen,_⟩:=Zo6 hrow hx';rw[h5]at hd;simp only[Vr.injEq,Option.some.injEq,Addr.mk.injEq,and_true]at hd;obtain⟨rfl,_,_⟩:=hd;obtain⟨_,c1,⟨o2,pre,post,h11,h12,h13⟩,h15⟩:=Zg6 p r.1 x' _ _ y c h1 hxc;rw[hty]at h6 h7;simp only[ety]at h6 h7;rw[h11]at h6;obtain⟨rfl,rfl⟩:=Vg (Option.some.inj h6)
  subst h7;refine fin h3 (c:=c1) ?_ (by simpa only[CV] using h15) (by simp [AV.fits]) rfl rfl;have:cs.toList=((css.take i).flatten++pre)++c1++(post++((css.drop (i+1)).flatten++r')):=by rw[hcs,h12];simp
  have:=Zc5.of_heap hh this
  rwa [Va,hlen,h13]at this
 ·simp [Zaa]at h
theorem Zd7{T:TypeId}{t:Ty}(hT:TOk P E.ty T t){b:Nat}{cs:Array Value}{e:TypeId}{pre c post d:List Value}{val:Value}(hh:w.heap[b]? =some (.cells cs e (0,0)))
  (hcs:cs.toList=pre++c++post) (hd:val.cells.toList=d) (hl:c.length=d.length) (hsz:d.length=t.size) (h1: ∀v∈d,v.oneCell' =true):
  (storeVar T ⟨b,pre.length,none⟩ val).run P w= .ok () (w.setRow b (pre++d++post).toArray):=by
 have hsize:val.cells.size=t.size:=by rw[<-hsz, <-hd];simp
 have hsum:cs.size=pre.length+c.length+post.length:=by rw[<-Vh,hcs];simp only[Va]
 simp only[storeVar,Ve,hT.run_sizeOf,Vc,hsize,ne_eq,not_true_eq_false,if_false,hd];rw[run_storeCells_at P b pre.length e d 0 cs w hh (by omega) h1];congr 3;rw[hcs,Nat.add_zero];have e1:List.take pre.length (pre++c++post)=pre:=by rw[Vo,List.take_left]
 have e2:List.drop (pre.length+d.length) (pre++c++post)=post:=by rw[<-hl, <-Va,List.drop_left]
 rw[e1,e2]
theorem Zeo{b:Nat}{cs cs' :Array Value}{e:TypeId}(hh:w.heap[b]? =some (.cells cs e (0,0))): (w.setRow b cs').heap[b]? =some (.cells cs' e (0,0)):=setRow_heap w b cs cs' e (0,0) hh
theorem Did.write{id b:Nat}{o' :ZeM}{cs' :Array Value}{r:Result Next}(hR:RH B H w g ow)(hid:H id≠none)(hb:ow id b)(hr:r= .ok .skip (w.setRow b cs'))
  (hO:Zhj (w.setRow b cs') g (ow id) id o'):Did B (Zca H id (some o')) w g nid .junk r:=by
 have hs:=hR.sep id b hid hb;refine⟨undef,w.setRow b cs',g,ow, .inr ⟨hr,rfl⟩,hR.write hid hb (fun k hk=>setRow_other w b k cs' hk) (size_setRow w b cs') rfl rfl ⟨rfl,Nat.le_refl _⟩ hO, .refl g, ?_,ZgS,fun _ h=> .inl h⟩;intro k hk;exact setRow_other w b k cs' (fun e=>hs.1 (e▸hk))
theorem Zfl{id b:Nat}{cs' :Array Value}(hR:RH B H w g ow)(hid:H id≠none)(hb:ow id b):Zbk g.I w (w.setRow b cs'):=fun k hk=>
 setRow_other w b k cs' (fun e=>(hR.sep id b hid hb).1 (e▸hk))
theorem Zrq{t0:Ty}{xs:List (List (El t0))}{u:Nat}{hole:Option Nat}{id i:Nat}{y:AV}{val:Value}{ys:List (El t0)}{ids l l' :List Nat}{x' :List (El t0)}{r:Result Next}(hR:RH B H w g ow)(hH:H id=some (.rows t0 xs u hole))
  (hi:Zjq hole i=true) (hu:u<nid) (hx' :xs[i]? =some x') (hval:VR w g y val) (hy: (ZbU t0 y).run H l=some ((ys,ids),l'))
  (hr: ∀b cap cs e,g.blk id=some b->g.slv id= .slice (some ⟨b,0,none⟩) xs.length cap->w.heap[b]? =some (.cells cs e (0,0))->i<cs.size->r= .ok .skip (w.setRow b (cs.toList.set i val).toArray)):
  Did B (Zag H (ids.map (fun id=>(id,none))++[(id,some (.rows t0 (xs.set i ys) nid none))])) w g nid .junk r:=by
 have hrowv:=ZeQ hR hval hy;obtain⟨hK,hty,hver,hrf,hO⟩:=hR.objs id _ hH
 have hlive: ∀k,Zag H (ids.map fun id=>(id,none)) k≠none->k ∉ ids/\H k≠none:=by
  intro k hk;rw[ZdW]at hk;split at hk
  ·simp at hk
  ·rename_i h;exact⟨h,hk⟩
 have hidn:id ∉ ids:=fun hm=>by
  rcases Zgd hR hval hy with ⟨rfl,_⟩ | ⟨id2,rfl,_,_⟩
  ·simp at hm
  ·simp only[List.mem_singleton]at hm;subst hm;unfold ZbU at hy;split at hy
   ·rename_i k;rw[Zap]at hy;split at hy
    ·rename_i hk';simp only[Zah,Zab,Vb,List.cons.injEq,and_true]at hy;obtain⟨_,_,⟨_,rfl⟩,_⟩:=hy;rw[hH]at hk';cases hk'
    ·simp [Zaa]at hy
   ·rename_i k n;rw[Zap]at hy;split at hy
    ·rename_i hk';simp only[Zah,Zab,Vb,List.cons.injEq,and_true]at hy;obtain⟨_,_,⟨_,rfl⟩,_⟩:=hy;rw[hH]at hk';cases hk'
    ·simp [Zaa]at hy
   ·simp only[Zab,Vb]at hy;obtain⟨⟨_,h⟩,_⟩:=hy;cases h
   ·simp [Zaa]at hy
 rcases hO with ⟨rfl,_⟩ | ⟨b,cap,cs,e,hb,hJ,hsv,hh,hl,hcap,hcs⟩
 ·simp at hx'
 ·have hil:i<xs.length:=(Vd.1 hx').1;have hid:H id≠none:=by rw[hH];simp
  have hr:=hr b cap cs e hb hsv hh (by omega);have hsb:=hR.sep id b hid hJ;have hR1:RH B (Zag H (ids.map fun id=>(id,none))) w g ow:=hR.drops ids;rw[ZaG];have hother: ∀k,k≠b->(w.setRow b (cs.toList.set i val).toArray).heap[k]? =w.heap[k]? :=fun k hk=>setRow_other w b k _ hk;have hag:Zbk g.I w (w.setRow b (cs.toList.set i val).toArray):=fun k hk=>hother k fun e=>hsb.1 (e▸hk);have hrb: ∀b',Zhs val=some b' ->ZaW H ow ids b' :=fun b' hb' =>hrowv.own hb'
  have hnb: ∀b',ZaW H ow ids b' ->b' ≠b/\ ¬ow id b' :=fun b' ⟨k,h1,h2,h3⟩=>by have hne: ¬ow id b' :=fun h4=>hidn (hR.dist id k b' hid h2 h4 h3▸h1);exact⟨fun e=>hne (e▸hJ),hne⟩
  let row' : (kt:Ty)->El kt->Value:=fun kt k=>if h:kt= .int .i64 then(if (h▸k:El (.int .i64))=(i:Int) then val else g.row id kt k) else g.row id kt k
  have hrow' : ∀j:Nat,j≠i->row' (.int .i64) (j:Int)=g.row id (.int .i64) (j:Int):=fun j hj=>by
   have: ¬ ((j:Int)=(i:Int)):=by omega
   simp [row',this]
  have hrowi:row' (.int .i64) (i:Int)=val:=by simp [row']
  refine⟨undef,w.setRow b (cs.toList.set i val).toArray,g.bump id nid row',ZeV ow id (fun b' =>ow id b' \/ZaW H ow ids b'), .inr ⟨hr,rfl⟩, ?_,Gh.le_bump (by omega),hag,ZgS,fun _ h=> .inl h⟩;refine hR1.bump (id:=id) (v:=nid) hK (by omega) (fun b' hb' => ?_) (Nat.le_of_eq (size_setRow w b _).symm) rfl rfl ⟨rfl,Nat.le_refl _⟩ (fun b' h1 h2=>hother b' fun e=> ?_) (fun b' hb' => ?_) ?_
  ·rcases hb' with hb' | ⟨k,hk,h1,h2⟩
   ·exact hag b' hb'
   ·refine hother b' fun e=>hk ?_;subst e;exact(hR.dist id k b' hid (hlive k h1).2 hJ h2).symm
  ·subst e;rcases hsb.2.2 with h3|h3
   ·exact h2 h3
   ·omega
  ·rw[size_setRow];rcases hb' with hb' | ⟨k,h1,h2,h3⟩
   ·obtain⟨p,q,r⟩:=hR.sep id b' hid hb';exact⟨p,q,r,fun k hk h4 h5=>hk (hR.dist k id b' (hlive k h4).2 hid h5 hb')⟩
   ·obtain⟨p,q,r⟩:=hR.sep k b' h2 h3;refine⟨p,q,r,fun k' hk h4 h5=>(hlive k' h4).1 ?_⟩;have:=hR.dist k' k b' (hlive k' h4).2 h2 h5 h3;exact this▸h1
  ·refine⟨hty,if_pos rfl, ?_, .inr ⟨b,cap,(cs.toList.set i val).toArray,e,hb, .inl hJ,by show g.slv id=_;rw[hsv];simp,setRow_heap w b cs _ e (0,0) hh,by simpa using hl,by simpa using hcap,fun j hj=> ?_⟩⟩
   ·show RF _ g.I _ t0 (g.blk id) (fun j:Nat=>(if id=id then row' else g.row id) (.int .i64) (j:Int)) _ none
    rw[if_pos rfl];refine hrf.put (k0:=i) (x0:=ys) (fun j hj=>hrow' j hj) (fun j x hx=> ?_) ?_ ?_ (fun j x hx hj hr=> ?_) fun b' hb' => ?_
    ·rw[Vj]at hx;split at hx
     ·rename_i hij;subst hij;simp only[Option.some.injEq]at hx;exact .inl ⟨rfl,hx.symm⟩
     ·rename_i hij;exact .inr ⟨fun e=>hij e.symm,hx⟩
    ·cases hole with
     |none=>exact .inl rfl
     |some j=>exact .inr (by rw[Vl hi])
    ·show Zhv _ _ _ _ _ (row' (.int .i64) (i:Int));rw[hrowi];exact hrowv.mono hag (fun _ h=>h) (fun b' _ h=> .inr h) fun b' _ h=>hother b' (hnb b' h).1
    ·refine hr.mono hag (fun _ h=>h) (fun b' _ h=> .inl h) fun b' hb' h=>hother b' fun e=> ?_
     have hne:hole≠some j:=fun e=>by rw[e]at hi;exact hj (Vl hi)
     exact hrf.tp j x b' hx hne hb' (e▸hb)
    ·have hb' :Zhs (row' (.int .i64) (i:Int))=some b' :=hb';rw[hrowi]at hb';have hob:=hnb b' (hrb b' hb');refine⟨fun j x hx hj hbj=>hob.2 ?_,fun e=>hob.1 (Option.some.inj (e.symm.trans hb))⟩
     have hne:hole≠some j:=fun e=>by rw[e]at hi;exact hj (Vl hi)
     exact(hrf.rd j x hx hne).own hbj
   ·have hj:j<xs.length:=by simpa using hj
    show _=some ((if id=id then row' else g.row id) (.int .i64) (j:Int))
    rw[if_pos rfl];simp only[List.getElem?_toArray,Vj];split
    ·rename_i hij;subst hij;rw[hrowi,if_pos (by simp;omega)]
    ·rename_i hij;rw[hrow' j fun e=>hij e.symm];simpa using hcs j hj
theorem Zwh{w' :World}{id ver:Nat}{kt:Ty}{k:El kt}{r: (t:Ty) ×List (El t)}{row:List (El r.1)}{o' :ZeM}{l l' l2 l2' :List Nat}{b i:Nat}(hR:RH B H w g ow)(hacc: (Zdy id ver kt k).run H l=some (r,l'))
  (hset: (Zsz id kt k r.1 row).run H l2=some (o',l2')) (hb:Zhs (g.row id kt k)=some b) (hne:i<r.2.length) (hnew:Zhv w' g.I (ow id) r.1 row (g.row id kt k)) (hheap: ∀k,k≠b->w'.heap[k]? =w.heap[k]?):Zhj w' g (ow id) id o' :=by
 have hlive:H id≠none:=by
  simp only[Zdy]at hacc;rw[Zap]at hacc;split at hacc
  ·rename_i hH;rw[hH];simp
  ·rename_i hH;rw[hH];simp
  ·simp [Zaa]at hacc
 have hob:ow id b:=hnew.own hb;have hag:Zbk g.I w w' :=fun k hk=>hheap k fun e=>(hR.sep id b hlive hob).1 (e▸hk);simp only[Zdy]at hacc;rw[Zap]at hacc;simp only[Zsz]at hset;rw[Zap]at hset;split at hacc
 ·rename_i t xs u hH;rw[hH]at hset;simp only[Zao,Zah,Zab,Zaa,and_false,or_false]at hacc hset;obtain⟨hu,i',hi',x,hx,rfl,_⟩:=hacc;obtain⟨i2,hi2,y,hy,rfl,_⟩:=hset;obtain⟨rfl,rfl⟩:=ZaA hi';have:=ZeZ hi2;subst this;obtain⟨_,rfl⟩:=ZcS hy;obtain⟨_,hty,hver,hrf,hO⟩:=hR.objs id _ hH;unfold idx at hx;split at hx
  ·rename_i h0;have hx0:=hx;have hil:i2.toNat<xs.length:=(Vd.1 hx).1;have e1: ((i2.toNat:Nat):Int)=i2:=Int.toNat_of_nonneg h0;refine⟨hty,hver,hrf.put (k0:=i2.toNat) (x0:=y) (fun _ _=>rfl) (fun j x hx=> ?_) (.inl rfl) (by simp only[e1];exact hnew) (fun j x hx hj hr=> ?_) (fun b' hb' => ?_), ?_⟩
   ·rw[Vj]at hx;split at hx
    ·rename_i hij;subst hij;simp only[Option.some.injEq]at hx;exact .inl ⟨rfl,hx.symm⟩
    ·rename_i hij;exact .inr ⟨fun e=>hij e.symm,hx⟩
   ·refine hr.mono hag (fun _ h=>h) (fun _ _ h=>h) fun b' hb' _=>hheap b' fun e=> ?_;subst e;exact hrf.ds j i2.toNat x _ b' hx hx0 hj (by simp) (by simp) hb' (by simp only[e1];exact hb)
   ·simp only[e1]at hb';rw[hb]at hb';cases hb';exact⟨fun j x hx hj hbj=>hrf.ds j i2.toNat x _ b hx hx0 hj (by simp) (by simp) hbj (by simp only[e1];exact hb),hrf.tp i2.toNat _ b hx0 (by simp) (by simp only[e1];exact hb)⟩
   ·rcases hO with ⟨rfl,_⟩ | ⟨b',cap,cs,e,h1,h2,h3,h4,h5,h6,h7⟩
    ·simp at hil
    ·refine .inr ⟨b',cap,cs,e,h1,h2,by simpa using h3,(hheap b' fun e=> ?_).trans h4,by simpa using h5,h6,fun j hj=>h7 j (by simpa using hj)⟩;exact hrf.tp i2.toNat _ b hx0 (by simp) (by simp only[e1];exact hb) (e▸h1)
  ·simp at hx
 ·rename_i kt' t m u hH;rw[hH]at hset;simp only[Zao,Zah,Zab,Zaa,and_false,or_false,Vk]at hacc hset;obtain⟨⟨hu,hko⟩,k',hk',rfl,_⟩:=hacc;obtain⟨k2,hk2,y,hy,rfl,_⟩:=hset;obtain⟨rfl,rfl⟩:=ZaA hk';have:=ZeZ hk2;subst this;obtain⟨_,rfl⟩:=ZcS hy;obtain⟨_,hty,hver,hrf,hnd,habs,b',es,clock,h1,h2,h3,h4⟩:=hR.objs id _ hH;have hkk:=ZdI hko;simp only at hne
  cases hg:ZaL (Zaq kt) k2 m with
  |none=>rw[hg]at hne;simp at hne
  |some x0=>
   have hmem:=Zga hkk hg;have hin:k2∈m.map Prod.fst:=List.mem_map.2 ⟨_,hmem,rfl⟩;have hkeys:=(Zcp hkk (v:=y)).1 hin;have htp:=hrf.tp k2 x0 b hmem (by simp) hb;refine⟨hty,hver,hrf.put (k0:=k2) (x0:=y) (fun _ _=>rfl) (fun j x hx=>Zg5 hkk hnd hx) (.inl rfl) hnew (fun j x hx hj hr=> ?_) (fun b2 hb2=> ?_),ZgP hkk hnd,fun q hq=>habs q (by rw[hkeys]at hq;exact hq),b',es,clock,h1,h2,(hheap b' fun e=>htp (e▸h1)).trans h3, ?_⟩
   ·refine hr.mono hag (fun _ h=>h) (fun _ _ h=>h) fun b2 hb2 _=>hheap b2 fun e=> ?_;subst e;exact hrf.ds j k2 x _ b2 hx hmem hj (by simp) (by simp) hb2 hb
   ·rw[hb]at hb2;cases hb2;exact⟨fun j x hx hj hbj=>hrf.ds j k2 x _ b hx hmem hj (by simp) (by simp) hbj hb,htp⟩
   ·rw[Zen];have h4' :=h4.mono fun kv e hx=>(⟨hx.1.mono hag (.refl g),hx.2⟩:VR1 w' g (.d kt kv.1) e.key/\e.val=g.row id kt kv.1)
    cases hix:ZdO (Zaq kt) k2 m with
    |none=>
     rw[Zel,hix]at hg;simp at hg
    |some j=>
     simp only;obtain⟨e1,he1,he2⟩:=Zds _ _ _ _ hix;obtain⟨en,hen,hp⟩:=h4'.get j e1 he1;have he3:=(Zba hkk).1 he2;have:=h4'.set j (a:=(k2,y)) (b:=en) (by rw[he3];exact hp)
     have e5:es.toList.set j en=es.toList:=by
      apply List.ext_getElem?;intro q;rw[Vj];split
      ·rename_i hq;subst hq;rw[hen];have:=(Vd.1 hen).1;simpa using this
      ·rfl
     rwa [e5]at this
 ·simp [Zaa]at hacc
theorem ZrS{T:TypeId}{x y:Operand}(hT:ZaB P E)(hR:RH B H w g ow)(hF:Fr w g F a.tmps)(ho:o.op= .store T x y)
  (h: (aop E nid o.op o.type (aev F)).run H []=some ((v,patch),rd)):Did B (Zag H patch) w g nid v ((execOp a.eval o).run P w):=by
 rw[ho]at h;simp only[aop,Zah,Zao,Zaa,and_false,or_false]at h;obtain⟨t,ht,hf,h⟩:=h;have hx:=hF.eval x;have hy:=(hF.eval y).to1 (Zjr hf).2;have hone:=CV.oneCell _ _ (Zjr hf).1 hy.1 t hf;have hlen:=CV.length _ t _ hf hy.1;split at h
 ·rename_i id p hx';rw[Zap]at h;split at h
  ·rename_i t0 c hH;simp only[Zav,Zab,Vb]at h;obtain⟨c',m,h1,⟨rfl,rfl⟩,_⟩:=h;obtain⟨hk,o',t1,b,h3,h4,h5⟩:=(hx' ▸hx).ptr;obtain⟨_,hty,hf0,b',cs,e,h6,h7,h8,h9,h10⟩:=hR.objs id _ hH;obtain⟨_,o2,pre,c1,post,t2,⟨h11,h12,h13,h14⟩,h15,h16⟩:=ZsK h1 hf0 h10 hy.1 (by simpa using h9);rw[hty,h11]at h3;obtain⟨rfl,rfl⟩:=Vg (Option.some.inj h3);rw[h4]at h6;cases h6;subst h13;have hag:=Zfl (cs' :=(pre++(a.eval y).cells.toList++post).toArray) hR (by rw[hH];simp) h7;refine Did.write hR (by rw[hH];simp) h7 (cs' :=(pre++(a.eval y).cells.toList++post).toArray) ?_ ?_
   ·simp only[execOp,ho,h5,Vm,Vi,Ve,Vf,Vc,Zd7 (hT.ty T t ht) h8 h12 rfl h14 hlen hone]
   ·refine⟨hty,h15,b,_,e,h4,h7,Zeo h8, ?_, ?_⟩
    ·have:cs.size=pre.length+c1.length+post.length:=by rw[<-Vh,h12];simp only[Va]
     simp only[Vn,Va];omega
    ·simpa using CV.mono hag (.refl g) _ _ h16
  ·simp [Zaa]at h
 ·rename_i id i p hx';rw[Zap]at h;split at h
  ·rename_i t0 xs hH;simp only[Zah,Zav,Zab,Vb]at h;obtain⟨e0,he0,dv,hdv,e',m,h1,⟨rfl,rfl⟩,_⟩:=h
   have hev:aev F y= .d dv.1 dv.2:=by
    cases hh:aev F y<;>rw[hh]at hdv<;>simp [AV.dv?]at hdv
    subst hdv;rfl
   rw[hev]at hy hf;obtain⟨hk,o',t1,b,h3,h4,h5⟩:=(hx' ▸hx).vp;obtain⟨_,hO⟩:=hR.objs id _ hH;obtain⟨b',cap,cs,e,css,c,hty,hb,hJ,hsv,hh,hl,hcap,hfa,hci,hxc,r,hcs,hlen2,hset⟩:=Zo8 hO he0;obtain⟨_,o2,pre,c1,post,h11,h12,h13,h14,h15⟩:=Zhb p t0 e0 _ _ dv e' c _ h1 hxc (by simpa only[CV] using hy.1);rw[hty,h11]at h3;obtain⟨rfl,rfl⟩:=Vg (Option.some.inj h3);rw[h4]at hb;cases hb;subst h13;have hcs2:cs.toList=((css.take i).flatten++pre)++c1++(post++((css.drop (i+1)).flatten++r)):=by rw[hcs,h12];simp
   have hag:=Zfl (cs' :=(((css.take i).flatten++pre)++(a.eval y).cells.toList++(post++((css.drop (i+1)).flatten++r))).toArray) hR (by rw[hH];simp) hJ;refine Did.write hR (by rw[hH];simp) hJ (cs' :=(((css.take i).flatten++pre)++(a.eval y).cells.toList++(post++((css.drop (i+1)).flatten++r))).toArray) ?_ ?_
   ·have haddr:i* (g.ty id).size+pre.length=((css.take i).flatten++pre).length:=by rw[Va,hlen2,hty]
    simp only[execOp,ho,h5,Vm,Vi,Ve,Vf,Vc,haddr,Zd7 (hT.ty T t ht) hh hcs2 rfl h14 hlen hone]
   ·have hflat: (css.set i (pre++(a.eval y).cells.toList++post)).flatten++r=((css.take i).flatten++pre)++(a.eval y).cells.toList++(post++((css.drop (i+1)).flatten++r)):=by rw[hset];simp
    refine⟨hty, .inr ⟨b,cap,_,e,css.set i (pre++(a.eval y).cells.toList++post),h4,hJ,by simpa using hsv,Zeo hh,by simpa using hl, ?_, ?_,r, ?_⟩⟩
    ·have:cs.size=((css.take i).flatten++pre).length+c1.length+(post++((css.drop (i+1)).flatten++r)).length:=by rw[<-Vh,hcs2];simp only[Va]
     simp only[Vn,Va]at this ⊢;omega
    ·exact(hfa.set i h15).mono fun x c hx=>Rd.mono hag (fun _ h=>h) t0 x c hx
    ·rw[hflat]
  ·rename_i t0 xs u hole hH;simp only[Zah,Zao,Zav,Zab,Zaa,and_false,or_false,beq_iff_eq,Vb,Vk,Vp]at h;obtain⟨⟨⟨rfl,rfl⟩,hlt⟩,uu,hhole,x',hx2,⟨ys,ids⟩,m,hown,⟨rfl,rfl⟩,_⟩:=h;have hhole:=Zbq hhole;obtain⟨hk,o',t1,b,h3,h4,h5⟩:=(hx' ▸hx).vp;rw[ZaT]at h3;obtain⟨rfl,rfl⟩:=Vg (Option.some.inj h3);refine Zrq hR hH hhole (Nat.le_of_ble_eq_true hlt) hx2 (hF.eval y) hown fun b' cap cs e hb hsv hh hi=> ?_;rw[h4]at hb;cases hb;obtain⟨_,hty,_⟩:=hR.objs id _ hH;have hag:ZaP (a.eval y)=false:=(ZeQ hR (hF.eval y) hown).one.2
   have hcells: (a.eval y).cells.toList=[a.eval y]:=by
    cases hv:a.eval y<;>rw[hv]at hag<;>simp [ZaP]at hag<;>rfl
   have hl:i<cs.toList.length:=by simpa using hi
   have h12:cs.toList=cs.toList.take i++[cs.toList[i]]++cs.toList.drop (i+1):=by rw[Vo,List.singleton_append, <-List.drop_eq_getElem_cons hl,List.take_append_drop]
   have hpre: (cs.toList.take i).length=i:=by rw[List.length_take];omega
   have hadr:i* (g.ty id).size+0=(cs.toList.take i).length:=by rw[hty,hpre];simp [Ty.size]
   have:=Zd7 (hT.ty T _ ht) hh h12 (d:=[a.eval y]) hcells rfl rfl (by rw[hcells]at hone;exact hone);simp only[execOp,ho,h5,Vm,Vi,Ve,Vf,Vc,hadr,this];congr 3;rw[List.set_eq_take_append_cons_drop,if_pos hl];simp
  ·simp [Zaa]at h
 ·rename_i id ver kt k i p hx';simp only[Zah,Zav,Zab,Vb]at h;obtain⟨r,m1,hacc,e0,he0,dv,hdv,e',m2,h1,o',m3,hset,⟨rfl,rfl⟩,_⟩:=h
  have hev:aev F y= .d dv.1 dv.2:=by
   cases hh:aev F y<;>rw[hh]at hdv<;>simp [AV.dv?]at hdv
   subst hdv;rfl
  rw[hev]at hy hf;obtain⟨hk,hv,ad,h3,h4⟩:=(hx' ▸hx).np;obtain⟨hne,hty,hver,hrow⟩:=Zg7 hR hk hacc;obtain⟨b,len,cap,o2,t1,h5,h6,h7⟩:=h4 hver;obtain⟨b',cap',cs,e,css,c,hd,hJ,hh,hl,hcap,hfa,hci,hxc,r',hcs,hlen2,hset2⟩:=Zo6 hrow he0;rw[h5]at hd;simp only[Vr.injEq,Option.some.injEq,Addr.mk.injEq,and_true]at hd;obtain⟨rfl,rfl,rfl⟩:=hd;obtain⟨_,o3,pre,c1,post,h11,h12,h13,h14,h15⟩:=Zhb p r.1 e0 _ _ dv e' c _ h1 hxc (by simpa only[CV] using hy.1);rw[hty]at h6 h7;simp only[ety]at h6 h7;rw[h11]at h6;obtain⟨rfl,rfl⟩:=Vg (Option.some.inj h6);subst h13;subst h7;have hcs2:cs.toList=((css.take i).flatten++pre)++c1++(post++((css.drop (i+1)).flatten++r')):=by rw[hcs,h12];simp
  have hag:=Zfl (cs' :=(((css.take i).flatten++pre)++(a.eval y).cells.toList++(post++((css.drop (i+1)).flatten++r'))).toArray) hR hne hJ;have hflat: (css.set i (pre++(a.eval y).cells.toList++post)).flatten++r' =((css.take i).flatten++pre)++(a.eval y).cells.toList++(post++((css.drop (i+1)).flatten++r')):=by rw[hset2];simp
  have hnew:Zhv (w.setRow b (((css.take i).flatten++pre)++(a.eval y).cells.toList++(post++((css.drop (i+1)).flatten++r'))).toArray) g.I (ow id) r.1 (r.2.set i e') (g.row id kt k):=by
   refine .inr ⟨b,cap,_,e,css.set i (pre++(a.eval y).cells.toList++post),by rw[h5];simp,hJ,Zeo hh,by simpa using hl, ?_, ?_,r', ?_⟩
   ·have:cs.size=((css.take i).flatten++pre).length+c1.length+(post++((css.drop (i+1)).flatten++r')).length:=by rw[<-Vh,hcs2];simp only[Va]
    simp only[Vn,Va]at this ⊢;omega
   ·exact(hfa.mono fun x c hx=>Rd.mono hag (fun _ h=>h) _ x c hx).set i (Rd.mono hag (fun _ h=>h) _ _ _ h15)
   ·simpa using hflat
  refine Did.write hR hne hJ (cs' :=(((css.take i).flatten++pre)++(a.eval y).cells.toList++(post++((css.drop (i+1)).flatten++r'))).toArray) ?_ ?_
  ·have haddr:i*r.1.size+pre.length=((css.take i).flatten++pre).length:=by rw[Va,hlen2]
   simp only[execOp,ho,h3,Vm,Vi,Ve,Vf,Vc,haddr,Zd7 (hT.ty T t ht) hh hcs2 rfl h14 hlen hone]
  ·exact Zwh hR hacc hset (by rw[h5];rfl) (Vd.1 he0).1 hnew (fun k hk=>setRow_other w b k _ hk)
 ·simp [Zaa]at h
end ops
end Tr
