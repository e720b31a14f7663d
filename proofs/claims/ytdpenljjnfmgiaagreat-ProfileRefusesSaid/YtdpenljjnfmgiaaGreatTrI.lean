/- Operations on memory: variables, loads, stores, addresses. Conditions: the table of types is the program's. -/
import Derived.Test.YtdpenljjnfmgiaaGreatTrHr
open Array renaming length_toList ->Vf
open Bool renaming and_eq_true ->Vh
open Go.Instr renaming sureAddr ->Vg,storeAt ->Vj,alloc ->Vl
open List renaming isEmpty_iff ->Vk
open Nat renaming eq_of_beq_eq_true ->Vi
open Prod.mk renaming injEq ->Va,inj ->Ve
open Go.Result renaming andThen_ok ->Vb
open Go.Sem renaming run_bind ->Vc,run_pure ->Vd
open Go.Value renaming slice ->Vm
namespace Tr
open Go
theorem Zey{a:AV}{t:Ty}(h:a.fits t=true):a≠ .junk/\ ∀l,a≠ .tup l:=by
 constructor
 ·rintro rfl;simp [AV.fits]at h
 ·rintro l rfl;simp [AV.fits]at h
theorem Zd0{a:AV}{t:Ty}(h:a.fits t=true)(hs:a.solid=true):a.isAgg=t.agg:=by
 rcases Zn1 h with h| ⟨n,rfl⟩
 ·exact h
 ·simp [AV.solid]at hs
section ops
variable {P:Program}{E:Env}{B:Zbr}{H:AH}{w:World}{g:Gh}{ow:Nat->Nat->Prop}{nid:Nat}{a:Act}{F:Nat->AV}{v:AV}{patch:ZaY}{rd:List Nat}{o:Oper}
theorem Ziy{id:Nat}{t:Ty}{b:Nat}{sv:Value} :VR w (g.add id t (some b) sv) (.ptr id []) (.pointer (some ⟨b,0,none⟩)):=by refine ZaR ?_ rfl rfl;simp only[CV];exact⟨.inl rfl,0,t,b,by simp [Gh.add,Zaz],by simp [Gh.add],rfl⟩
theorem Zbi(w:World)(o:Obj): (w.alloc o).heap[w.heap.size]? =some o:=by show (w.heap.push o)[w.heap.size]? =_;simp
theorem Zbk{w:World}{o:Obj}{k:Nat}(h:k<w.heap.size): (w.alloc o).heap[k]? =w.heap[k]? :=by
 show (w.heap.push o)[k]? =_
 grind
theorem Zir(hR:RH B H w g ow)(hnk: ¬g.K nid){t:Ty}{sv:Value}{b:Option Nat}{ob:Obj}{x:AV}{cs:List Value}(h:CV w g x cs):CV (w.alloc ob) (g.add nid t b sv) x cs:=
 CV.mono (fun _ hb=>Zbk (hR.ilt _ hb)) (Gh.le_add hnk _ _ _) x cs h
theorem Zod(hR:RH B H w g ow)(hk: ∀id,g.K id->id<nid\/nid+ZaU<=id){t:Ty}{sv:Value}{b:Option Nat}{ob:Obj}{x:AV}{cs:List Value}(h:CV w g x cs):CV (w.alloc ob) (g.add nid t b sv) x cs:=Zir hR (ZdF hk) h
theorem Zl5(hR:RH B H w g ow)(hk: ∀id,g.K id->id<nid\/nid+ZaU<=id){t:Ty}{T:TypeId}{c:AV}{cells:Array Value}(hf:c.fits t=true)(hc:CV w g c cells.toList){r:Result Next}
  (hr:r= .ok (.value (.pointer (some ⟨w.heap.size,0,none⟩))) (w.alloc (.cells cells T))):Did B (Zbl H nid (some (.var t c))) w g nid (.ptr nid []) r:=by
 refine Did.new (t:=t) (sv:=undef) hR hk hr ?_ Ziy;refine⟨by simp [Gh.add],hf,w.heap.size,cells,T,by simp [Gh.add],rfl,Zbi _ _, ?_,Zod hR hk hc⟩;have:=CV.length c t _ hf hc;omega
theorem Zmf{T:TypeId}(hT:Zah P E)(hR:RH B H w g ow)(hk: ∀id,g.K id->id<nid\/nid+ZaU<=id)(ho:o.op= .alloc T)(h: (Za1 E nid o.op o.type (aev F)).run H []=some ((v,patch),rd)):
  Did B (Zad H patch) w g nid v ((execOp a.eval o).run P w):=by
 rw[ho]at h;simp only[Za1]at h;split at h
 ·rename_i e he;simp only[Zab,Va]at h;obtain⟨⟨rfl,rfl⟩,_⟩:=h;obtain⟨z,hz,hz2⟩:=hT.bd T e he;refine Did.new (t:= .unit) (sv:=undef) (val:= .pointer (some ⟨w.heap.size,0,none⟩)) (o:= .cells z.cells T) hR hk ?_ ?_ Ziy
  ·simp only[execOp,ho,Vl,Vc,hz,Vb,newVar,newRow,run_newObj,Vd];rfl
  ·refine⟨w.heap.size,by simp [Gh.add],rfl, .pointer none, .slice none 0 0, .inl rfl, ?_,⟨by rfl,by simp⟩,fun k hk=>by simp [Value.ownBlock]at hk,fun _=>rfl⟩;rw[Zbi,hz2]
 simp only[Zac,Zab,Va]at h;obtain⟨t,ht,⟨rfl,rfl⟩,_⟩:=h;obtain⟨z,hz,hz2⟩:=(hT.ty T t ht).run_zerox (E.zx T) w;refine Zl5 hR hk (T:=T) (cells:=z.cells) (hz2 w g).2 (hz2 w g).1.1 ?_;simp only[execOp,ho,Vl,Vc,hz,Vb,newVar,newRow,run_newObj,Vd];rfl
theorem Zpv{T:TypeId}{x:Operand}(hR:RH B H w g ow)(hF:Fr w g F a.tmps)(hk: ∀id,g.K id->id<nid\/nid+ZaU<=id)(ho:o.op= .box T x)
  (h: (Za1 E nid o.op o.type (aev F)).run H []=some ((v,patch),rd)):Did B (Zad H patch) w g nid v ((execOp a.eval o).run P w):=by
 rw[ho]at h;simp only[Za1,Zac,Zae,Zab,Zaa,and_false,or_false,Va]at h;obtain⟨t,ht,hf,⟨rfl,rfl⟩,_⟩:=h;have hx:=(hF.eval x).to1 (Zey hf).2;refine Zl5 hR hk (T:=T) (cells:=(a.eval x).cells) hf hx.1 ?_;simp only[execOp,ho,Instr.box,Vc,Vb,newVar,newRow,run_newObj,Vd];rfl
theorem Zky{t:Ty}{xs:List (El t)}{id:Nat}{J:Nat->Prop}(h:ZeB w g J id (.vec t xs)){i:Nat}{x:El t}(hx:xs[i]? =some x):
  ∃b cap cs e css c,g.ty id=t/\g.blk id=some b/\J b/\g.slv id= .slice (some ⟨b,0,none⟩) xs.length cap/\w.heap[b]? =some (.cells cs e (0,0))/\xs.length<=cap/\cap*t.size<=cs.size/\
   Fa (Rd w g.I t) xs css/\css[i]? =some c/\Rd w g.I t x c/\ ∃r,cs.toList=(css.take i).flatten++c++((css.drop (i+1)).flatten++r)/\(css.take i).flatten.length=i*t.size/\
    ∀c',(css.set i c').flatten++r=(css.take i).flatten++c' ++((css.drop (i+1)).flatten++r):=by
 obtain⟨hty,h⟩:=h;rcases h with ⟨rfl,_⟩ | ⟨b,cap,cs,e,css,h1,h2,h3,h4,h5,h6,h7,r,hr⟩
 ·grind
 ·obtain⟨c,hc,hxc⟩:=h7.get i x hx;obtain⟨s1,s2,s3⟩:=Za7 hc t.size (Rd.all_length h7)
  grind
theorem Zoj{T:TypeId}{x:Operand}(hT:Zah P E)(hR:RH B H w g ow)(hF:Fr w g F a.tmps)(ho:o.op= .load T x)
  (h: (Za1 E nid o.op o.type (aev F)).run H []=some ((v,patch),rd)):Did B (Zad H patch) w g nid v ((execOp a.eval o).run P w):=by
 rw[ho]at h;simp only[Za1,Zac]at h;obtain⟨t,ht,h⟩:=h;have hx:=hF.eval x
 have fin: ∀ {b off:Nat}{c:List Value},a.eval x= .pointer (some ⟨b,off,none⟩)->ZbM w b off c->CV w g v c->v.fits t=true->v.solid=true->patch=[]->Did B (Zad H patch) w g nid v ((execOp a.eval o).run P w):=by intro b off c he hc hcv hf hs hp;subst hp;obtain⟨h1,h2⟩:=Zgk hcv hf (Zd0 hf hs);refine Did.pure hR ?_ (VR.of1 h1);simp only[execOp,ho,he,Instr.loadAt,Vg,Vc,Vd,Vb,Zeq (hT.ty T t ht) hc (CV.length v t c hf hcv) h2]
 split at h
 ·rename_i t' y hy;simp only[Zae,Zab,Zaa,and_false,or_false,beq_iff_eq,Va]at h;obtain⟨rfl,⟨rfl,rfl⟩,_⟩:=h;obtain⟨b,off,c,h1,h2,h3,h4⟩:=(hy▸hx).dp;exact fin h1 h3.at (by assumption) (by simp [AV.fits]) rfl rfl
 ·rename_i id p hy;rw[Zag]at h;split at h
  ·rename_i t0 c hH;simp only[Zaj,Zae,Zab,Zaa,and_false,or_false,Va,Vh]at h;obtain⟨v',m,h1,⟨h2,h2s⟩,⟨rfl,rfl⟩,_⟩:=h;obtain⟨hk,o',t1,b,h3,h4,h5⟩:=(hy▸hx).ptr;obtain⟨_,hty,hf,b',cs,e,h6,h7,h8,h9,h10⟩:=hR.objs id _ hH;obtain⟨_,t2,c1,⟨o2,pre,post,h11,h12,h13⟩,h14,h15⟩:=Zf2 h1 hf h10;rw[hty,h11]at h3;obtain⟨rfl,rfl⟩:=Ve (Option.some.inj h3);rw[h4]at h6;cases h6;refine fin h5 ?_ h15 h2 h2s rfl;rw[<-h13];exact ZbM.of_heap h8 h12
  ·simp [Zaa]at h
 ·rename_i id i p hy;rw[Zag]at h;split at h
  ·rename_i t0 xs hH;simp only[Zac,Zaj,Zae,Zab,Zaa,and_false,or_false,beq_iff_eq,Va]at h;obtain⟨x',hx',y,m,h1,rfl,⟨rfl,rfl⟩,_⟩:=h;obtain⟨hk,o',t1,b,h3,h4,h5⟩:=(hy▸hx).vp;obtain⟨_,hO⟩:=hR.objs id _ hH;obtain⟨b',cap,cs,e,css,c,hty,hb,hJ,hsv,hh,hl,hcap,hfa,hci,hxc,r,hcs,hlen,_⟩:=Zky hO hx';obtain⟨_,c1,⟨o2,pre,post,h11,h12,h13⟩,h15⟩:=ZeT p t0 x' _ _ y c h1 hxc;rw[hty,h11]at h3;obtain⟨rfl,rfl⟩:=Ve (Option.some.inj h3);rw[h4]at hb;cases hb;refine fin h5 (c:=c1) ?_ (by assumption) (by simp [AV.fits]) rfl rfl;have:cs.toList=((css.take i).flatten++pre)++c1++(post++((css.drop (i+1)).flatten++r)):=by grind
   have:=ZbM.of_heap hh this
   grind
  ·rename_i t0 xs u hH;simp only[Zac,Zae,Zab,Zaa,and_false,or_false,beq_iff_eq,Va,Vh,Vk]at h;obtain⟨⟨rfl,rfl⟩,x',hx',⟨rfl,rfl⟩,_⟩:=h;obtain⟨hk,o',t1,b,h3,h4,h5⟩:=(hy▸hx).vp;rw[Zaz]at h3;obtain⟨rfl,rfl⟩:=Ve (Option.some.inj h3);obtain⟨_,hty,hver,hrf,hO⟩:=hR.objs id _ hH;rcases hO with ⟨rfl,_⟩ | ⟨b',cap,cs,e,hb,hJ,hsv,hh,hl,hcap,hcs⟩
   ·grind
   ·rw[h4]at hb;cases hb;have hi:i<xs.length:=by grind
    have h1:=hrf.rd i x' hx' (by simp);refine fin h5 (c:=[g.row id (.int .i64) (i:Int)]) ?_ ?_ rfl rfl rfl
    ·rw[hty];intro j v hj
     cases j with
     |zero=>
      simp only[List.getElem?_cons_zero,Option.some.injEq]at hj;subst hj;simp only[Ty.size,Nat.mul_one,Nat.add_zero,World.cell?,hh]
      grind
     |succ j=>grind
    ·simp only[CV];exact⟨hk,Nat.le_of_eq hver.symm,_,rfl,h1.one.1,fun _=>rfl⟩
  ·simp [Zaa]at h
 ·rename_i id ver kt k i p hy;simp only[Zac,Zaj,Zae,Zab,Zaa,and_false,or_false,beq_iff_eq,Va]at h;obtain⟨r,m1,hacc,x',hx',y,m,h1,rfl,⟨rfl,rfl⟩,_⟩:=h;obtain⟨hk,hv,ad,h3,h4⟩:=(hy▸hx).np;obtain⟨hne,hty,hver,hrow⟩:=ZeR hR hk hacc;obtain⟨b,len,cap,o',t1,h5,h6,h7⟩:=h4 hver;obtain⟨b',cap',cs,e,css,c,hd,hJ,hh,hl,hcap,hfa,hci,hxc,r',hcs,hlen,_⟩:=ZkK hrow hx';rw[h5]at hd;simp only[Vm.injEq,Option.some.injEq,Addr.mk.injEq,and_true]at hd;obtain⟨rfl,_,_⟩:=hd;obtain⟨_,c1,⟨o2,pre,post,h11,h12,h13⟩,h15⟩:=ZeT p r.1 x' _ _ y c h1 hxc;rw[hty]at h6 h7;simp only[ety]at h6 h7;rw[h11]at h6;obtain⟨rfl,rfl⟩:=Ve (Option.some.inj h6)
  subst h7;refine fin h3 (c:=c1) ?_ (by assumption) (by simp [AV.fits]) rfl rfl;have:cs.toList=((css.take i).flatten++pre)++c1++(post++((css.drop (i+1)).flatten++r')):=by grind
  have:=ZbM.of_heap hh this
  grind
 ·simp [Zaa]at h
theorem ZbX{T:TypeId}{t:Ty}(hT:TOk P E.ty T t){b:Nat}{cs:Array Value}{e:TypeId}{pre c post d:List Value}{val:Value}(hh:w.heap[b]? =some (.cells cs e (0,0)))
  (hcs:cs.toList=pre++c++post) (hd:val.cells.toList=d) (hl:c.length=d.length) (hsz:d.length=t.size) (h1: ∀v∈d,v.oneCell' =true):
  (storeVar T ⟨b,pre.length,none⟩ val).run P w= .ok () (w.setRow b (pre++d++post).toArray):=by
 have hsize:val.cells.size=t.size:=by grind
 have hsum:cs.size=pre.length+c.length+post.length:=by rw[<-Vf,hcs];grind
 simp only[storeVar,Vc,hT.run_sizeOf,Vb,hsize,ne_eq,not_true_eq_false,if_false,hd];rw[run_storeCells_at P b pre.length e d 0 cs w hh (by omega) h1]
 grind
theorem ZbJ{b:Nat}{cs cs' :Array Value}{e:TypeId}(hh:w.heap[b]? =some (.cells cs e (0,0))): (w.setRow b cs').heap[b]? =some (.cells cs' e (0,0)):=setRow_heap w b cs cs' e (0,0) hh
theorem Did.write{id b:Nat}{o' :Zc0}{cs' :Array Value}{r:Result Next}(hR:RH B H w g ow)(hid:H id≠none)(hb:ow id b)(hr:r= .ok .skip (w.setRow b cs'))
  (hO:ZeB (w.setRow b cs') g (ow id) id o'):Did B (Zbl H id (some o')) w g nid .junk r:=by
 have hs:=hR.sep id b hid hb;refine⟨undef,w.setRow b cs',g,ow,by grind,hR.write hid hb (fun k hk=>setRow_other w b k cs' hk) (by simp) rfl rfl ⟨rfl,Nat.le_refl _⟩ hO, .refl g, ?_,Zdj,by grind⟩;intro k hk;exact setRow_other w b k cs' (by grind)
theorem ZcO{id b:Nat}{cs' :Array Value}(hR:RH B H w g ow)(hid:H id≠none)(hb:ow id b):ZaV g.I w (w.setRow b cs'):=fun k hk=>
 setRow_other w b k cs' (fun e=>(hR.sep id b hid hb).1 (e▸hk))
theorem Zme{t0:Ty}{xs:List (List (El t0))}{u:Nat}{hole:Option Nat}{id i:Nat}{y:AV}{val:Value}{ys:List (El t0)}{ids l l' :List Nat}{x' :List (El t0)}{r:Result Next}(hR:RH B H w g ow)(hH:H id=some (.rows t0 xs u hole))
  (hi:ZoY hole i=true) (hu:u<nid) (hx' :xs[i]? =some x') (hval:VR w g y val) (hy: (Zbq t0 y).run H l=some ((ys,ids),l'))
  (hr: ∀b cap cs e,g.blk id=some b->g.slv id= .slice (some ⟨b,0,none⟩) xs.length cap->w.heap[b]? =some (.cells cs e (0,0))->i<cs.size->r= .ok .skip (w.setRow b (cs.toList.set i val).toArray)):
  Did B (Zad H (ids.map (fun id=>(id,none))++[(id,some (.rows t0 (xs.set i ys) nid none))])) w g nid .junk r:=by
 have hrowv:=Zdq hR hval hy;obtain⟨hK,hty,hver,hrf,hO⟩:=hR.objs id _ hH
 have hlive: ∀k,Zad H (ids.map fun id=>(id,none)) k≠none->k ∉ ids/\H k≠none:=by
  intro k hk;rw[ZcP]at hk
  grind
 have hidn:id ∉ ids:=fun hm=>by
  rcases ZdY hR hval hy with ⟨rfl,_⟩ | ⟨id2,rfl,_,_⟩
  ·grind
  ·simp only[List.mem_singleton]at hm;subst hm;unfold Zbq at hy;split at hy
   ·rename_i k;rw[Zag]at hy;split at hy
    ·rename_i hk';simp only[Zac,Zab,Va,List.cons.injEq,and_true]at hy
     grind
    ·simp [Zaa]at hy
   ·rename_i k n;rw[Zag]at hy;split at hy
    ·rename_i hk';simp only[Zac,Zab,Va,List.cons.injEq,and_true]at hy
     grind
    ·simp [Zaa]at hy
   ·simp only[Zab,Va]at hy
    grind
   ·simp [Zaa]at hy
 rcases hO with ⟨rfl,_⟩ | ⟨b,cap,cs,e,hb,hJ,hsv,hh,hl,hcap,hcs⟩
 ·grind
 ·have hil:i<xs.length:=by grind
  have hid:H id≠none:=by grind
  have hr:=hr b cap cs e hb hsv hh (by omega);have hsb:=hR.sep id b hid hJ;have hR1:RH B (Zad H (ids.map fun id=>(id,none))) w g ow:=hR.drops ids;rw[Zau];have hother: ∀k,k≠b->(w.setRow b (cs.toList.set i val).toArray).heap[k]? =w.heap[k]? :=fun k hk=>setRow_other w b k _ hk;have hag:ZaV g.I w (w.setRow b (cs.toList.set i val).toArray):=fun k hk=>by grind
  have hrb: ∀b',ZeN val=some b' ->ZaC H ow ids b' :=fun b' hb' =>hrowv.own hb'
  have hnb: ∀b',ZaC H ow ids b' ->b' ≠b/\ ¬ow id b' :=fun b' ⟨k,h1,h2,h3⟩=>by
   have hne: ¬ow id b' :=fun h4=>hidn (hR.dist id k b' hid h2 h4 h3▸h1)
   grind
  let row' : (kt:Ty)->El kt->Value:=fun kt k=>if h:kt= .int .i64 then(if (h▸k:El (.int .i64))=(i:Int) then val else g.row id kt k) else g.row id kt k
  have hrow' : ∀j:Nat,j≠i->row' (.int .i64) (j:Int)=g.row id (.int .i64) (j:Int):=by grind
  have hrowi:row' (.int .i64) (i:Int)=val:=by grind
  refine⟨undef,w.setRow b (cs.toList.set i val).toArray,g.bump id nid row',Zc4 ow id (fun b' =>ow id b' \/ZaC H ow ids b'),by grind, ?_,Gh.le_bump (by omega),hag,Zdj,fun _ h=> .inl h⟩;refine hR1.bump (id:=id) (v:=nid) hK (by omega) (fun b' hb' => ?_) (by simp) rfl rfl ⟨rfl,Nat.le_refl _⟩ (fun b' h1 h2=>hother b' fun e=> ?_) (fun b' hb' => ?_) ?_
  ·rcases hb' with hb' | ⟨k,hk,h1,h2⟩
   ·grind
   ·refine hother b' fun e=>hk ?_;subst e;exact(hR.dist id k b' hid (hlive k h1).2 hJ h2).symm
  ·grind
  ·rw[size_setRow];rcases hb' with hb' | ⟨k,h1,h2,h3⟩
   ·obtain⟨p,q,r⟩:=hR.sep id b' hid hb';exact⟨p,q,r,fun k hk h4 h5=>hk (hR.dist k id b' (hlive k h4).2 hid h5 hb')⟩
   ·obtain⟨p,q,r⟩:=hR.sep k b' h2 h3;refine⟨p,q,r,fun k' hk h4 h5=>(hlive k' h4).1 ?_⟩;have:=hR.dist k' k b' (by grind) h2 h5 h3
    grind
  ·refine⟨hty,if_pos rfl, ?_, .inr ⟨b,cap,(cs.toList.set i val).toArray,e,hb, .inl hJ,by show g.slv id=_;grind,setRow_heap w b cs _ e (0,0) hh,by grind,by grind,fun j hj=> ?_⟩⟩
   ·show RF _ g.I _ t0 (g.blk id) (fun j:Nat=>(if id=id then row' else g.row id) (.int .i64) (j:Int)) _ none
    rw[if_pos rfl];refine hrf.put (k0:=i) (x0:=ys) (by omega) (fun j x hx=> ?_) ?_ ?_ (fun j x hx hj hr=> ?_) fun b' hb' => ?_
    ·grind
    ·cases hole with
     |none=>simp
     |some j=>exact .inr (by rw[Vi hi])
    ·show Ze8 _ _ _ _ _ (row' (.int .i64) (i:Int));rw[hrowi];exact hrowv.mono hag (by simp) (by grind) (by grind)
    ·refine hr.mono hag (by simp) (by grind) fun b' hb' h=>hother b' fun e=> ?_
     have hne:hole≠some j:=fun e=>by rw[e]at hi;exact hj (Vi hi)
     exact hrf.tp j x b' hx hne hb' (e▸hb)
    ·have hb' :ZeN (row' (.int .i64) (i:Int))=some b' :=hb';rw[hrowi]at hb';have hob:=hnb b' (hrb b' hb');refine⟨fun j x hx hj hbj=>hob.2 ?_,by grind⟩
     have hne:hole≠some j:=fun e=>by rw[e]at hi;exact hj (Vi hi)
     exact(hrf.rd j x hx hne).own hbj
   ·have hj:j<xs.length:=by grind
    show _=some ((if id=id then row' else g.row id) (.int .i64) (j:Int))
    rw[if_pos rfl];simp only[List.getElem?_toArray,List.getElem?_set]
    grind
theorem Zph{w' :World}{id ver:Nat}{kt:Ty}{k:El kt}{r: (t:Ty) ×List (El t)}{row:List (El r.1)}{o' :Zc0}{l l' l2 l2' :List Nat}{b i:Nat}(hR:RH B H w g ow)(hacc: (Zcr id ver kt k).run H l=some (r,l'))
  (hset: (Zma id kt k r.1 row).run H l2=some (o',l2')) (hb:ZeN (g.row id kt k)=some b) (hne:i<r.2.length) (hnew:Ze8 w' g.I (ow id) r.1 row (g.row id kt k)) (hheap: ∀k,k≠b->w'.heap[k]? =w.heap[k]?):ZeB w' g (ow id) id o' :=by
 have hlive:H id≠none:=by
  simp only[Zcr]at hacc;rw[Zag]at hacc;split at hacc
  ·grind
  ·grind
  ·simp [Zaa]at hacc
 have hob:ow id b:=hnew.own hb;have hag:ZaV g.I w w' :=fun k hk=>hheap k fun e=>(hR.sep id b hlive hob).1 (e▸hk);simp only[Zcr]at hacc;rw[Zag]at hacc;simp only[Zma]at hset;rw[Zag]at hset;split at hacc
 ·rename_i t xs u hH;rw[hH]at hset;simp only[Zae,Zac,Zab,Zaa,and_false,or_false]at hacc hset;obtain⟨hu,i',hi',x,hx,rfl,_⟩:=hacc;obtain⟨i2,hi2,y,hy,rfl,_⟩:=hset;obtain⟨rfl,rfl⟩:=Zan hi';have:=Zdh hi2;subst this;obtain⟨_,rfl⟩:=ZbU hy;obtain⟨_,hty,hver,hrf,hO⟩:=hR.objs id _ hH;unfold idx at hx;split at hx
  ·rename_i h0;have hx0:=hx;have hil:i2.toNat<xs.length:=by grind
   have e1: ((i2.toNat:Nat):Int)=i2:=Int.toNat_of_nonneg h0;refine⟨hty,hver,hrf.put (k0:=i2.toNat) (x0:=y) (by simp) (fun j x hx=> ?_) (.inl rfl) (by grind) (fun j x hx hj hr=> ?_) (fun b' hb' => ?_), ?_⟩
   ·grind
   ·refine hr.mono hag (by simp) (by simp) fun b' hb' _=>hheap b' fun e=> ?_;subst e;exact hrf.ds j i2.toNat x _ b' hx hx0 hj (by simp) (by simp) hb' (by grind)
   ·simp only[e1]at hb';rw[hb]at hb';cases hb';exact⟨fun j x hx hj hbj=>hrf.ds j i2.toNat x _ b hx hx0 hj (by simp) (by simp) hbj (by grind),hrf.tp i2.toNat _ b hx0 (by simp) (by grind)⟩
   ·rcases hO with ⟨rfl,_⟩ | ⟨b',cap,cs,e,h1,h2,h3,h4,h5,h6,h7⟩
    ·grind
    ·refine .inr ⟨b',cap,cs,e,h1,h2,by grind,(hheap b' fun e=> ?_).trans h4,by grind,h6,by grind⟩;exact hrf.tp i2.toNat _ b hx0 (by simp) (by grind) (e▸h1)
  grind
 ·rename_i kt' t m u hH;rw[hH]at hset;simp only[Zae,Zac,Zab,Zaa,and_false,or_false,Vh]at hacc hset;obtain⟨⟨hu,hko⟩,k',hk',rfl,_⟩:=hacc;obtain⟨k2,hk2,y,hy,rfl,_⟩:=hset;obtain⟨rfl,rfl⟩:=Zan hk';have:=Zdh hk2;subst this;obtain⟨_,rfl⟩:=ZbU hy;obtain⟨_,hty,hver,hrf,hnd,habs,b',es,clock,h1,h2,h3,h4⟩:=hR.objs id _ hH;have hkk:=Zcs hko;simp only at hne
  cases hg:Zaw (Zai kt) k2 m with
  |none=>grind
  |some x0=>
   have hmem:=Zd2 hkk hg;have hin:k2∈m.map Prod.fst:=by grind
   have hkeys:=(ZbD hkk (v:=y)).1 hin;have htp:=hrf.tp k2 x0 b hmem (by simp) hb;refine⟨hty,hver,hrf.put (k0:=k2) (x0:=y) (by simp) (fun j x hx=>ZeV hkk hnd hx) (.inl rfl) hnew (fun j x hx hj hr=> ?_) (fun b2 hb2=> ?_),Zer hkk hnd,by grind,b',es,clock,h1,h2,by grind, ?_⟩
   ·refine hr.mono hag (by simp) (by simp) fun b2 hb2 _=>hheap b2 fun e=> ?_;subst e;exact hrf.ds j k2 x _ b2 hx hmem hj (by simp) (by simp) hb2 hb
   ·rw[hb]at hb2;cases hb2;exact⟨fun j x hx hj hbj=>hrf.ds j k2 x _ b hx hmem hj (by simp) (by simp) hbj hb,htp⟩
   ·rw[Zc6];have h4' :=h4.mono fun kv e hx=>(⟨hx.1.mono hag (.refl g),hx.2⟩:VR1 w' g (.d kt kv.1) e.key/\e.val=g.row id kt kv.1)
    cases hix:ZcB (Zai kt) k2 m with
    |none=>
     rw[Zc2,hix]at hg;grind
    |some j=>
     simp only;obtain⟨e1,he1,he2⟩:=Zcf _ _ _ _ hix;obtain⟨en,hen,hp⟩:=h4'.get j e1 he1;have he3:=(ZaP hkk).1 he2;have:=h4'.set j (a:=(k2,y)) (b:=en) (by grind)
     have e5:es.toList.set j en=es.toList:=by
      apply List.ext_getElem?
      grind
     grind
 ·simp [Zaa]at hacc
theorem ZnR{T:TypeId}{x y:Operand}(hT:Zah P E)(hR:RH B H w g ow)(hF:Fr w g F a.tmps)(ho:o.op= .store T x y)
  (h: (Za1 E nid o.op o.type (aev F)).run H []=some ((v,patch),rd)):Did B (Zad H patch) w g nid v ((execOp a.eval o).run P w):=by
 rw[ho]at h;simp only[Za1,Zac,Zae,Zaa,and_false,or_false]at h;obtain⟨t,ht,hf,h⟩:=h;have hx:=hF.eval x;have hy:=(hF.eval y).to1 (Zey hf).2;have hone:=CV.oneCell _ _ (Zey hf).1 hy.1 t hf;have hlen:=CV.length _ t _ hf hy.1;split at h
 ·rename_i id p hx';rw[Zag]at h;split at h
  ·rename_i t0 c hH;simp only[Zaj,Zab,Va]at h;obtain⟨c',m,h1,⟨rfl,rfl⟩,_⟩:=h;obtain⟨hk,o',t1,b,h3,h4,h5⟩:=(hx' ▸hx).ptr;obtain⟨_,hty,hf0,b',cs,e,h6,h7,h8,h9,h10⟩:=hR.objs id _ hH;obtain⟨_,o2,pre,c1,post,t2,⟨h11,h12,h13,h14⟩,h15,h16⟩:=ZnC h1 hf0 h10 hy.1 (by omega);rw[hty,h11]at h3;obtain⟨rfl,rfl⟩:=Ve (Option.some.inj h3);rw[h4]at h6;cases h6;subst h13;have hag:=ZcO (cs' :=(pre++(a.eval y).cells.toList++post).toArray) hR (by grind) h7;refine Did.write hR (by grind) h7 (cs' :=(pre++(a.eval y).cells.toList++post).toArray) ?_ ?_
   ·simp only[execOp,ho,h5,Vj,Vg,Vc,Vd,Vb,ZbX (hT.ty T t ht) h8 h12 rfl h14 hlen hone]
   ·refine⟨hty,h15,b,_,e,h4,h7,ZbJ h8, ?_, ?_⟩
    ·have:cs.size=pre.length+c1.length+post.length:=by rw[<-Vf,h12];grind
     grind
    ·simpa using CV.mono hag (.refl g) _ _ h16
  ·simp [Zaa]at h
 ·rename_i id i p hx';rw[Zag]at h;split at h
  ·rename_i t0 xs hH;simp only[Zac,Zaj,Zab,Va]at h;obtain⟨e0,he0,dv,hdv,e',m,h1,⟨rfl,rfl⟩,_⟩:=h
   have hev:aev F y= .d dv.1 dv.2:=by
    cases hh:aev F y<;>rw[hh]at hdv<;>simp [AV.dv?]at hdv
    grind
   rw[hev]at hy hf;obtain⟨hk,o',t1,b,h3,h4,h5⟩:=(hx' ▸hx).vp;obtain⟨_,hO⟩:=hR.objs id _ hH;obtain⟨b',cap,cs,e,css,c,hty,hb,hJ,hsv,hh,hl,hcap,hfa,hci,hxc,r,hcs,hlen2,hset⟩:=Zky hO he0;obtain⟨_,o2,pre,c1,post,h11,h12,h13,h14,h15⟩:=ZeL p t0 e0 _ _ dv e' c _ h1 hxc (by simpa only[CV] using hy.1);rw[hty,h11]at h3;obtain⟨rfl,rfl⟩:=Ve (Option.some.inj h3);rw[h4]at hb;cases hb;subst h13;have hcs2:cs.toList=((css.take i).flatten++pre)++c1++(post++((css.drop (i+1)).flatten++r)):=by grind
   have hag:=ZcO (cs' :=(((css.take i).flatten++pre)++(a.eval y).cells.toList++(post++((css.drop (i+1)).flatten++r))).toArray) hR (by grind) hJ;refine Did.write hR (by grind) hJ (cs' :=(((css.take i).flatten++pre)++(a.eval y).cells.toList++(post++((css.drop (i+1)).flatten++r))).toArray) ?_ ?_
   ·have haddr:i* (g.ty id).size+pre.length=((css.take i).flatten++pre).length:=by grind
    simp only[execOp,ho,h5,Vj,Vg,Vc,Vd,Vb,haddr,ZbX (hT.ty T t ht) hh hcs2 rfl h14 hlen hone]
   ·have hflat: (css.set i (pre++(a.eval y).cells.toList++post)).flatten++r=((css.take i).flatten++pre)++(a.eval y).cells.toList++(post++((css.drop (i+1)).flatten++r)):=by grind
    refine⟨hty, .inr ⟨b,cap,_,e,css.set i (pre++(a.eval y).cells.toList++post),h4,hJ,by grind,ZbJ hh,by grind, ?_, ?_,r, ?_⟩⟩
    ·have:cs.size=((css.take i).flatten++pre).length+c1.length+(post++((css.drop (i+1)).flatten++r)).length:=by rw[<-Vf,hcs2];grind
     grind
    ·exact(hfa.set i h15).mono fun x c hx=>Rd.mono hag (by simp) t0 x c hx
    omega
  ·rename_i t0 xs u hole hH;simp only[Zac,Zae,Zaj,Zab,Zaa,and_false,or_false,beq_iff_eq,Va,Vh,Vk]at h;obtain⟨⟨⟨rfl,rfl⟩,hlt⟩,uu,hhole,x',hx2,⟨ys,ids⟩,m,hown,⟨rfl,rfl⟩,_⟩:=h;have hhole:=ZaK hhole;obtain⟨hk,o',t1,b,h3,h4,h5⟩:=(hx' ▸hx).vp;rw[Zaz]at h3;obtain⟨rfl,rfl⟩:=Ve (Option.some.inj h3);refine Zme hR hH hhole (Nat.le_of_ble_eq_true hlt) hx2 (hF.eval y) hown fun b' cap cs e hb hsv hh hi=> ?_;rw[h4]at hb;cases hb;obtain⟨_,hty,_⟩:=hR.objs id _ hH;have hag:Zav (a.eval y)=false:=(Zdq hR (hF.eval y) hown).one.2
   have hcells: (a.eval y).cells.toList=[a.eval y]:=by
    cases hv:a.eval y<;>rw[hv]at hag<;>simp [Zav]at hag<;>rfl
   have hl:i<cs.toList.length:=by omega
   have h12:cs.toList=cs.toList.take i++[cs.toList[i]]++cs.toList.drop (i+1):=by rw[List.append_assoc,List.singleton_append, <-List.drop_eq_getElem_cons hl,List.take_append_drop]
   have hpre: (cs.toList.take i).length=i:=by grind
   have hadr:i* (g.ty id).size+0=(cs.toList.take i).length:=by grind
   have:=ZbX (hT.ty T _ ht) hh h12 (d:=[a.eval y]) hcells rfl rfl (by grind);simp only[execOp,ho,h5,Vj,Vg,Vc,Vd,Vb,hadr,this]
   grind
  ·simp [Zaa]at h
 ·rename_i id ver kt k i p hx';simp only[Zac,Zaj,Zab,Va]at h;obtain⟨r,m1,hacc,e0,he0,dv,hdv,e',m2,h1,o',m3,hset,⟨rfl,rfl⟩,_⟩:=h
  have hev:aev F y= .d dv.1 dv.2:=by
   cases hh:aev F y<;>rw[hh]at hdv<;>simp [AV.dv?]at hdv
   grind
  rw[hev]at hy hf;obtain⟨hk,hv,ad,h3,h4⟩:=(hx' ▸hx).np;obtain⟨hne,hty,hver,hrow⟩:=ZeR hR hk hacc;obtain⟨b,len,cap,o2,t1,h5,h6,h7⟩:=h4 hver;obtain⟨b',cap',cs,e,css,c,hd,hJ,hh,hl,hcap,hfa,hci,hxc,r',hcs,hlen2,hset2⟩:=ZkK hrow he0;rw[h5]at hd;simp only[Vm.injEq,Option.some.injEq,Addr.mk.injEq,and_true]at hd;obtain⟨rfl,rfl,rfl⟩:=hd;obtain⟨_,o3,pre,c1,post,h11,h12,h13,h14,h15⟩:=ZeL p r.1 e0 _ _ dv e' c _ h1 hxc (by simpa only[CV] using hy.1);rw[hty]at h6 h7;simp only[ety]at h6 h7;rw[h11]at h6;obtain⟨rfl,rfl⟩:=Ve (Option.some.inj h6);subst h13;subst h7;have hcs2:cs.toList=((css.take i).flatten++pre)++c1++(post++((css.drop (i+1)).flatten++r')):=by grind
  have hag:=ZcO (cs' :=(((css.take i).flatten++pre)++(a.eval y).cells.toList++(post++((css.drop (i+1)).flatten++r'))).toArray) hR hne hJ;have hflat: (css.set i (pre++(a.eval y).cells.toList++post)).flatten++r' =((css.take i).flatten++pre)++(a.eval y).cells.toList++(post++((css.drop (i+1)).flatten++r')):=by grind
  have hnew:Ze8 (w.setRow b (((css.take i).flatten++pre)++(a.eval y).cells.toList++(post++((css.drop (i+1)).flatten++r'))).toArray) g.I (ow id) r.1 (r.2.set i e') (g.row id kt k):=by
   refine .inr ⟨b,cap,_,e,css.set i (pre++(a.eval y).cells.toList++post),by grind,hJ,ZbJ hh,by grind, ?_, ?_,r', ?_⟩
   ·have:cs.size=((css.take i).flatten++pre).length+c1.length+(post++((css.drop (i+1)).flatten++r')).length:=by rw[<-Vf,hcs2];grind
    grind
   ·exact(hfa.mono fun x c hx=>Rd.mono hag (by simp) _ x c hx).set i (Rd.mono hag (by simp) _ _ _ h15)
   omega
  refine Did.write hR hne hJ (cs' :=(((css.take i).flatten++pre)++(a.eval y).cells.toList++(post++((css.drop (i+1)).flatten++r'))).toArray) ?_ ?_
  ·have haddr:i*r.1.size+pre.length=((css.take i).flatten++pre).length:=by grind
   simp only[execOp,ho,h3,Vj,Vg,Vc,Vd,Vb,haddr,ZbX (hT.ty T t ht) hh hcs2 rfl h14 hlen hone]
  ·exact Zph hR hacc hset (by rw[h5];rfl) (List.getElem?_eq_some_iff.1 he0).1 hnew (fun k hk=>setRow_other w b k _ hk)
 ·simp [Zaa]at h
end ops
end Tr
