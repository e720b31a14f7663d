/- The heap of the abstract machine: objects with ids, what it means that the model's memory holds them, and how that survives a new block, a written block, an object given up, an object frozen into data. Conditions: none. -/
import Derived.Laws.AppendOwn
import Derived.Test.YtdpenljjnfmgiaaGreatTrA
open Array renaming getElem?_eq_getElem ->Vd,toList_push ->Vf
open Bool renaming false_eq_true ->Vb
open List renaming range ->Vh,mem_map ->Vi
open Nat renaming le_refl ->Vc,zero_add ->Ve
open Option renaming isSome_none ->Va
open Go.World renaming cell? ->Vg
namespace Tr
open Go
inductive Zc0 where
 |var (t:Ty) (c:AV)
 |vec (t:Ty) (xs:List (El t))
 |map (kt vt:Ty) (m:List (El kt×El vt))
 |rows (t:Ty) (xs:List (List (El t))) (ver:Nat) (hole:Option Nat)
 |mrows (kt t:Ty) (m:List (El kt×List (El t))) (ver:Nat) (hole:Option (El kt))
 |rng (kt vt:Ty) (rest:List (El kt×El vt)) (cur:Option (El kt×El vt))
 |dat (t:Ty) (xs:List (El t))
 |bld (T e:TypeId) (bs:List UInt8)
 |cel (t:Ty) (l:List AV)
mutual
def AV.fits:AV->Ty->Bool
 | .d t' _,t=>t' ==t
 | .agg l,t=>l.fits t
 | .jk n,t=>n==t.size
 | .junk,_=>false
 | .tup _,_=>false
 | .vw _, .sl _=>true
 | .vs _ _ _, .sl _=>true
 | .nw _ _ _ _, .sl _=>true
 | .np _ _ _ _ _ _, .ref=>true
 | .nils, .sl _=>true
 | .dp _ _, .ref=>true
 | .ptr _ _, .ref=>true
 | .vp _ _ _, .ref=>true
 | .mp _, .ref=>true
 | .fn _ _, .ref=>true
 | .nilr, .ref=>true
 |_,_=>false
def AVs.fits:AVs->Ty->Bool
 | .nil, .unit=>true
 | .cons v l, .prod a b=>v.fits a&&l.fits b
 |_,_=>false
end
def Ze8(w:World)(I J:Nat->Prop)(t:Ty)(xs:List (El t))(hd:Value):Prop:=
 (xs=[]/\hd= .slice none 0 0)\/ ∃b cap cells e css,hd= .slice (some ⟨b,0,none⟩) xs.length cap/\J b/\w.heap[b]? =some (.cells cells e (0,0))/\xs.length<=cap/\cap*t.size<=cells.size/\Fa (Rd w I t) xs css/\css.flatten<+:cells.toList
def ZeN:Value->Option Nat
 | .slice (some a) _ _=>some a.block
 |_=>none
structure RF {κ:Type} (w:World) (I J:Nat->Prop) (t:Ty) (top:Option Nat) (row:κ->Value) (c:κ->List (El t)->Prop) (hole:Option κ):Prop where
 rd: ∀k x,c k x->hole≠some k->Ze8 w I J t x (row k)
 ds: ∀k k' x x' b,c k x->c k' x' ->k≠k' ->hole≠some k->hole≠some k' ->ZeN (row k)=some b->ZeN (row k')≠some b
 tp: ∀k x b,c k x->hole≠some k->ZeN (row k)=some b->top≠some b
def Bn(es:Array MapEntry)(clock:Nat):Prop:=(∀x∈es.toList,x.born<clock)/\(es.toList.map (·.born)).Nodup
theorem Bn.empty(c:Nat):Bn #[] c:=⟨by simp,by simp⟩
theorem Bn.push{es:Array MapEntry}{clock:Nat}(h:Bn es clock){e:MapEntry}(he:e.born=clock):Bn (es.push e) (clock+1):=by
 refine⟨fun x hx=> ?_, ?_⟩
 ·rw[Vf]at hx;rcases List.mem_append.1 hx with h1|h1
  ·exact Nat.lt_succ_of_lt (h.1 x h1)
  grind
 ·rw[Vf,List.map_append];refine List.nodup_append.2 ⟨h.2,by simp,fun a ha b hb=> ?_⟩;simp at hb;subst hb;obtain⟨x,hx,rfl⟩:=Vi.1 ha;have:=h.1 x hx;omega
theorem Bn.same{es es' :Array MapEntry}{clock:Nat}(h:Bn es clock)(he:es'.toList.map (·.born)=es.toList.map (·.born)):Bn es' clock:=by
 refine⟨fun x hx=> ?_,he▸h.2⟩;have:x.born∈es.toList.map (·.born):=by grind
 obtain⟨y,hy,h1⟩:=Vi.1 this;rw[<-h1];exact h.1 y hy
def Zfo(es:Array MapEntry)(seen:Array Nat):List MapEntry:=es.toList.filter fun e=> !seen.contains e.born
def u8s(l:List UInt8):List Value:=l.map fun b=>Value.int .u8 b.toNat
def Zm4(w:World)(J:Nat->Prop)(T e:TypeId)(bs:List UInt8)(b:Nat):Prop:=
 J b/\ ∃p row,(p= .pointer none\/p= .pointer (some ⟨b,0,none⟩))/\w.heap[b]? =some (.cells #[p,row] T (0,0))/\w.ownsRow 0 e 1 row bs.length (u8s bs)/\(∀k,row.ownBlock=some k->k≠b/\J k)/\(bs=[]->row= .slice none 0 0)
theorem Zm4.mono{w w' :World}{J J' :Nat->Prop}{T e:TypeId}{bs:List UInt8}{b:Nat}(hJ: ∀b,J b->J' b)(hb: ∀b,J b->w'.heap[b]? =w.heap[b]?)(h:Zm4 w J T e bs b):Zm4 w' J' T e bs b:=by
 obtain⟨h1,p,row,h2,h3,h4,h5,h0⟩:=h;refine⟨hJ _ h1,p,row,h2,by grind,⟨h4.1, ?_⟩,by grind,h0⟩;rcases h4.2 with h6| ⟨g,cap,cur,rfl,h7,h8,h9⟩
 ·grind
 ·exact .inr ⟨g,cap,cur,rfl,h7,(hb _ (h5 g rfl).2).trans h8,h9⟩
def ZeB(w:World)(g:Gh)(ow:Nat->Prop)(id:Nat):Zc0->Prop
 | .var t c=>g.ty id=t/\c.fits t=true/\ ∃b cs e,g.blk id=some b/\ow b/\w.heap[b]? =some (.cells cs e (0,0))/\cs.size=t.size/\CV w g c cs.toList
 | .vec t xs=>g.ty id=t/\((xs=[]/\g.blk id=none/\g.slv id= .slice none 0 0)\/
   ∃b cap cs e css,g.blk id=some b/\ow b/\g.slv id= .slice (some ⟨b,0,none⟩) xs.length cap/\w.heap[b]? =some (.cells cs e (0,0))/\xs.length<=cap/\cap*t.size<=cs.size/\
    Fa (Rd w g.I t) xs css/\css.flatten<+:cs.toList)
 | .map kt vt m=> ∃b es clock,g.blk id=some b/\ow b/\w.heap[b]? =some (.map es clock)/\Bn es clock/\Fa (fun kv e=>VR1 w g (.d kt kv.1) e.key/\VR1 w g (.d vt kv.2) e.val) m es.toList
 | .rows t xs ver hole=>g.ty id= .sl t/\g.ver id=ver/\RF w g.I ow t (g.blk id) (fun i:Nat=>g.row id (.int .i64) (i:Int)) (fun i x=>xs[i]? =some x) hole/\
   ((xs=[]/\g.blk id=none/\g.slv id= .slice none 0 0)\/
    ∃b cap cs e,g.blk id=some b/\ow b/\g.slv id= .slice (some ⟨b,0,none⟩) xs.length cap/\w.heap[b]? =some (.cells cs e (0,0))/\xs.length<=cap/\cap<=cs.size/\ ∀i:Nat,i<xs.length->cs[i]? =some (g.row id (.int .i64) (i:Int)))
 | .mrows kt t m ver hole=>g.ty id= .sl t/\g.ver id=ver/\RF w g.I ow t (g.blk id) (g.row id kt) (fun k x=>(k,x)∈m) hole/\(m.map Prod.fst).Nodup/\(∀k,k ∉ m.map Prod.fst->g.row id kt k= .slice none 0 0)/\
   ∃b es clock,g.blk id=some b/\ow b/\w.heap[b]? =some (.map es clock)/\Fa (fun kv e=>VR1 w g (.d kt kv.1) e.key/\e.val=g.row id kt kv.1) m es.toList
 | .rng kt vt rest cur=> ∃b mb es clock since seen,g.ty id= .ref/\g.blk id=some b/\ow b/\ow mb/\w.heap[b]? =some (.mapIter (some mb) since seen clock)/\w.heap[mb]? =some (.map es clock)/\
   ((∀x∈es.toList,x.born<since)/\since<=clock/\(es.toList.map (·.born)).Nodup)/\Fa (fun kv e=>VR1 w g (.d kt kv.1) e.key/\VR1 w g (.d vt kv.2) e.val) rest (Zfo es seen)/\
   ∀kv,cur=some kv-> ∃e∈es.toList, ∃seen' :Array Nat,seen=seen'.push e.born/\VR1 w g (.d kt kv.1) e.key/\VR1 w g (.d vt kv.2) e.val
 | .dat t xs=>g.ty id=t/\Rd w g.I (.sl t) xs [g.slv id]
 | .bld T e bs=> ∃b,g.blk id=some b/\Zm4 w ow T e bs b
 | .cel t l=>g.ty id=t/\(t.size=1/\t.agg=false)/\((l=[]/\g.blk id=none/\g.slv id= .slice none 0 0)\/
   ∃b cap cs e hd,g.blk id=some b/\ow b/\g.slv id= .slice (some ⟨b,0,none⟩) l.length cap/\w.heap[b]? =some (.cells cs e (0,0))/\l.length<=cap/\cap<=cs.size/\
    Fa (fun a v=>VR1 w g a v/\v.oneCell' =true) l hd/\hd<+:cs.toList)
structure Zbr where
 w0:World
 own0:Nat->Prop
 I0:Nat->Prop
 pl:Bool
abbrev AH:=Nat->Option Zc0
structure Zjn (w' w:World):Prop where
 out:w'.output=w.output
 drawn:w.drawn<=w'.drawn
theorem Zjn.rfl{w:World} :Zjn w w:=⟨_root_.rfl,Vc _⟩
structure Zjh (d:Bool) (w' w:World):Prop where
 out:w'.output=w.output
 drawn:d=true->w.drawn<=w'.drawn
theorem Zjh.rfl{d:Bool}{w:World} :Zjh d w w:=⟨_root_.rfl,by omega⟩
theorem Zjn.trans{d:Bool}{a b c:World}(h:Zjn a b)(k:Zjh d b c):Zjh d a c:=⟨h.out.trans k.out,fun e=>Nat.le_trans (k.drawn e) h.drawn⟩
theorem Zjh.trans{d:Bool}{a b c:World}(h:Zjh d a b)(k:Zjh d b c):Zjh d a c:=⟨h.out.trans k.out,fun e=>Nat.le_trans (k.drawn e) (h.drawn e)⟩
theorem Zjh.weak{d e:Bool}{a b:World}(h:Zjh d a b)(k:e=true->d=true):Zjh e a b:=⟨h.out,fun x=>h.drawn (k x)⟩
structure RH (B:Zbr) (H:AH) (w:World) (g:Gh) (ow:Nat->Nat->Prop):Prop where
 objs: ∀id o,H id=some o->g.K id/\ZeB w g (ow id) id o
 dist: ∀id id' b,H id≠none->H id' ≠none->ow id b->ow id' b->id=id'
 sep: ∀id b,H id≠none->ow id b-> ¬g.I b/\b<w.heap.size/\(B.own0 b\/B.w0.heap.size<=b)
 ilt: ∀b,g.I b->b<w.heap.size
 inew: ∀b,g.I b->B.I0 b\/B.own0 b\/B.w0.heap.size<=b
 os:w.os=B.w0.os
 tape:w.tape=B.w0.tape
 output:Zjh B.pl w B.w0
 size:B.w0.heap.size<=w.heap.size
 kept: ∀b,b<B.w0.heap.size-> ¬B.own0 b->w.heap[b]? =B.w0.heap[b]?
structure ZaM (w w' :World):Prop where
 heap:w'.heap=w.heap
 os:w'.os=w.os
 tape:w'.tape=w.tape
 output:Zjn w' w
theorem ZaM.refl(w:World):ZaM w w:=⟨rfl,rfl,rfl, .rfl⟩
theorem ZaM.agree{w w' :World}(h:ZaM w w')(I:Nat->Prop):ZaV I w w' :=fun b _=>by rw[h.heap]
theorem Ze8.mono{w w' :World}{I I' J J' :Nat->Prop}{t:Ty}{xs:List (El t)}{hd:Value}(hw:ZaV I w w')(hI: ∀b,I b->I' b)(hJ: ∀b,ZeN hd=some b->J b->J' b)(hb: ∀b,ZeN hd=some b->J b->w'.heap[b]? =w.heap[b]?)(h:Ze8 w I J t xs hd):Ze8 w' I' J' t xs hd:=by
 rcases h with h| ⟨b,cap,cells,e,css,rfl,h2,h3,h4,h5,h6,h7⟩
 ·exact .inl h
 ·exact .inr ⟨b,cap,cells,e,css,rfl,hJ b rfl h2,(hb b rfl h2).trans h3,h4,h5,h6.mono fun x c hx=>Rd.mono hw hI t x c hx,h7⟩
theorem RF.mono{κ:Type}{w w' :World}{I I' J J' :Nat->Prop}{t:Ty}{top:Option Nat}{row:κ->Value}{c:κ->List (El t)->Prop}{hole:Option κ}(hw:ZaV I w w')(hI: ∀b,I b->I' b)(hJ: ∀b,J b->J' b)(hb: ∀b,J b->w'.heap[b]? =w.heap[b]?)
  (h:RF w I J t top row c hole):RF w' I' J' t top row c hole:=
 ⟨fun k x h1 h2=>(h.rd k x h1 h2).mono hw hI (by grind) (by grind),h.ds,h.tp⟩
theorem ZeB.mono{w w' :World}{g g' :Gh}{ow:Nat->Prop}{id:Nat}{o:Zc0}(hw:ZaV g.I w w')(hg:g.Le g')(hk:g.K id)(hv:g'.ver id=g.ver id)(hb: ∀b,ow b->w'.heap[b]? =w.heap[b]?)(h:ZeB w g ow id o):ZeB w' g' ow id o:=by
 cases o with
 |var t c=>
  obtain⟨h0,hf,b,cs,e,h1,hb1,h2,h3,h4⟩:=h
  exact⟨(hg.ty _ hk).trans h0,hf,b,cs,e,(hg.blk _ hk).trans h1,hb1,by grind,h3,h4.mono hw hg⟩
 |vec t xs=>
  obtain⟨h0,h⟩:=h;refine⟨(hg.ty _ hk).trans h0, ?_⟩;rcases h with ⟨h1,h2,h3⟩ | ⟨b,cap,cs,e,css,h1,hb1,h2,h3,h4,h5,h6,h7⟩
  ·exact .inl ⟨h1,(hg.blk _ hk).trans h2,(hg.slv _ hk).trans h3⟩
  ·exact .inr ⟨b,cap,cs,e,css,(hg.blk _ hk).trans h1,hb1,(hg.slv _ hk).trans h2,by grind,h4,h5,h6.mono fun x c hx=>Rd.mono hw hg.I t x c hx,h7⟩
 |map kt vt m=>
  obtain⟨b,es,clock,h1,hb1,h2,hbn,h3⟩:=h
  exact⟨b,es,clock,(hg.blk _ hk).trans h1,hb1,by grind,hbn,h3.mono fun x e hx=>⟨hx.1.mono hw hg,hx.2.mono hw hg⟩⟩
 |rows t xs ver hole=>
  obtain⟨h0,h1,h2,h⟩:=h;refine⟨(hg.ty _ hk).trans h0,hv.trans h1, ?_, ?_⟩
  ·rw[hg.row _ hk hv,hg.blk _ hk];exact h2.mono hw hg.I (by simp) hb
  ·rw[hg.row _ hk hv,hg.blk _ hk,hg.slv _ hk]
   grind
 |mrows kt t m ver hole=>
  obtain⟨h0,h1,h2,h3,h4,b,es,clock,h5,h6,h7,h8⟩:=h;refine⟨(hg.ty _ hk).trans h0,hv.trans h1, ?_,h3, ?_,b,es,clock,(hg.blk _ hk).trans h5,h6,by grind, ?_⟩
  ·rw[hg.row _ hk hv,hg.blk _ hk];exact h2.mono hw hg.I (by simp) hb
  ·rw[hg.row _ hk hv];omega
  ·rw[hg.row _ hk hv];exact h8.mono fun x e hx=>⟨hx.1.mono hw hg,hx.2⟩
 |rng kt vt rest cur=>
  obtain⟨b,mb,es,clock,since,seen,h0,h1,h2,h3,h4,h5,h6,h7,h8⟩:=h;refine⟨b,mb,es,clock,since,seen,(hg.ty _ hk).trans h0,(hg.blk _ hk).trans h1,h2,h3,by grind,by grind,h6,h7.mono fun x e hx=>⟨hx.1.mono hw hg,hx.2.mono hw hg⟩,fun kv hkv=> ?_⟩;obtain⟨e,h9,seen',h10,h12,h13⟩:=h8 kv hkv
  exact⟨e,h9,seen',h10,h12.mono hw hg,h13.mono hw hg⟩
 |dat t xs=>
  exact⟨(hg.ty _ hk).trans h.1,by rw[hg.slv _ hk];exact Rd.mono hw hg.I _ _ _ h.2⟩
 |bld T e bs=>
  obtain⟨b,h1,h2⟩:=h
  exact⟨b,(hg.blk _ hk).trans h1,h2.mono (by simp) hb⟩
 |cel t l=>
  obtain⟨h0,h1,h⟩:=h;refine⟨(hg.ty _ hk).trans h0,h1, ?_⟩;rcases h with ⟨h1,h2,h3⟩ | ⟨b,cap,cs,e,hd,h1,hb1,h2,h3,h4,h5,h6,h7⟩
  ·exact .inl ⟨h1,(hg.blk _ hk).trans h2,(hg.slv _ hk).trans h3⟩
  ·exact .inr ⟨b,cap,cs,e,hd,(hg.blk _ hk).trans h1,hb1,(hg.slv _ hk).trans h2,(hb b hb1).trans h3,h4,h5,h6.mono fun x c hx=>⟨hx.1.mono hw hg,hx.2⟩,h7⟩
theorem RH.same{B:Zbr}{H:AH}{w w' :World}{g:Gh}{ow:Nat->Nat->Prop}(h:RH B H w g ow)(hw:ZaM w w'):RH B H w' g ow where
 objs:=fun id o ho=>⟨(h.objs id o ho).1,(h.objs id o ho).2.mono (hw.agree _) (.refl g) (h.objs id o ho).1 rfl fun b _=>by rw[hw.heap]⟩
 dist:=h.dist
 sep:=fun id b h1 h2=>by rw[hw.heap];exact h.sep id b h1 h2
 ilt:=fun b hb=>by rw[hw.heap];exact h.ilt b hb
 inew:=h.inew
 os:=hw.os.trans h.os
 tape:=hw.tape.trans h.tape
 output:=hw.output.trans h.output
 size:=by rw[hw.heap];exact h.size
 kept:=fun b h1 h2=>by rw[hw.heap];exact h.kept b h1 h2
def Zbl(H:AH)(id:Nat)(o:Option Zc0):AH:=fun k=>bif Nat.beq k id then o else H k
theorem ZaT{H:AH}{id:Nat}{o:Option Zc0} :Zbl H id o id=o:=by simp [Zbl]
theorem Zat{H:AH}{id k:Nat}{o:Option Zc0}(h:k≠id):Zbl H id o k=H k:=by
 have:Nat.beq k id=false:=by
  cases hb:Nat.beq k id
  all_goals simp_all
 simp [Zbl,this]
theorem Za8{H:AH}{id k:Nat}(h:Zbl H id none k≠none):k≠id/\H k≠none:=by
 by_cases hk:k=id
 ·subst hk;exact absurd ZaT h
 ·exact⟨hk,by rwa [Zat hk]at h⟩
theorem RH.drop{B:Zbr}{H:AH}{w:World}{g:Gh}{ow:Nat->Nat->Prop}(h:RH B H w g ow)(id:Nat):RH B (Zbl H id none) w g ow where
 objs:=fun k o ho=>by have:=(Za8 (H:=H) (id:=id) (k:=k) (by grind)).1;rw[Zat this]at ho;exact h.objs k o ho
 dist:=fun k k' b h1 h2=>h.dist k k' b (Za8 h1).2 (Za8 h2).2
 sep:=fun k b h1=>h.sep k b (Za8 h1).2
 ilt:=h.ilt
 inew:=h.inew
 os:=h.os
 tape:=h.tape
 output:=h.output
 size:=h.size
 kept:=h.kept
def Gh.add(g:Gh)(id:Nat)(t:Ty)(b:Option Nat)(v:Value)(r: (kt:Ty)->El kt->Value:=fun _ _=> .slice none 0 0):Gh where
 I:=g.I
 K:=fun k=>k=id\/g.K k
 ty:=fun k=>if k=id then t else g.ty k
 blk:=fun k=>if k=id then b else g.blk k
 slv:=fun k=>if k=id then v else g.slv k
 ver:=fun k=>if k=id then 0 else g.ver k
 row:=fun k=>if k=id then r else g.row k
theorem Gh.le_add{g:Gh}{id:Nat}(h: ¬g.K id)(t:Ty)(b:Option Nat)(v:Value)(r: (kt:Ty)->El kt->Value:=fun _ _=> .slice none 0 0):g.Le (g.add id t b v r) where
 I:=fun _ h=>h
 K:=fun _ h=> .inr h
 ty:=fun k hk=>if_neg (by grind)
 blk:=fun k hk=>if_neg (by grind)
 slv:=fun k hk=>if_neg (by grind)
 ver:=fun k hk=>Nat.le_of_eq (if_neg (by grind)).symm
 row:=fun k hk _=>if_neg (by grind)
def Zc4(ow:Nat->Nat->Prop)(id:Nat)(J:Nat->Prop):Nat->Nat->Prop:=fun k b=>if k=id then J b else ow k b
theorem ZaD{ow:Nat->Nat->Prop}{id:Nat}{J:Nat->Prop} :Zc4 ow id J id=J:=by funext b;simp [Zc4]
theorem ZaI{ow:Nat->Nat->Prop}{id k:Nat}{J:Nat->Prop}(h:k≠id):Zc4 ow id J k=ow k:=by funext b;simp [Zc4,h]
theorem RH.add{B:Zbr}{H:AH}{w w' :World}{g:Gh}{ow:Nat->Nat->Prop}(h:RH B H w g ow){id:Nat}(hk: ¬g.K id){t:Ty}{b:Option Nat}{v:Value}{r: (kt:Ty)->El kt->Value}{o:Zc0}{J:Nat->Prop}
  (hheap: ∀k,k<w.heap.size->w'.heap[k]? =w.heap[k]?) (hsz:w.heap.size<=w'.heap.size) (hos:w'.os=w.os) (htape:w'.tape=w.tape) (hout:Zjn w' w)
  (hb: ∀k,J k-> ¬g.I k/\k<w'.heap.size/\(B.own0 k\/B.w0.heap.size<=k)/\ ∀id',H id' ≠none-> ¬ow id' k)
  (ho:ZeB w' (g.add id t b v r) J id o):RH B (Zbl H id (some o)) w' (g.add id t b v r) (Zc4 ow id J) where
 objs:=fun k o' ho' =>by
  by_cases hki:k=id
  ·subst hki;rw[ZaT]at ho';cases ho';rw[ZaD];exact⟨.inl rfl,ho⟩
  ·rw[Zat hki]at ho';obtain⟨h1,h2⟩:=h.objs k o' ho';rw[ZaI hki];refine⟨.inr h1,h2.mono (fun b hb=>hheap b (h.ilt b hb)) (Gh.le_add hk t b v r) h1 (if_neg hki) fun b' hb' =>hheap b' ?_⟩;exact(h.sep k b' (by grind) hb').2.1
 dist:=fun k k' b' h1 h2 h3 h4=>by
  by_cases hki:k=id<;>by_cases hki' :k' =id
  ·omega
  ·subst hki;rw[Zat hki']at h2;rw[ZaD]at h3;rw[ZaI hki']at h4
   grind
  ·subst hki';rw[Zat hki]at h1;rw[ZaD]at h4;rw[ZaI hki]at h3
   grind
  ·rw[Zat hki]at h1;rw[Zat hki']at h2;rw[ZaI hki]at h3;rw[ZaI hki']at h4;exact h.dist k k' b' h1 h2 h3 h4
 sep:=fun k b' h1 h2=>by
  by_cases hki:k=id
  ·subst hki;rw[ZaD]at h2;obtain⟨p,q,r,_⟩:=hb _ h2;exact⟨p,q,r⟩
  ·rw[Zat hki]at h1;rw[ZaI hki]at h2;obtain⟨p,q,r⟩:=h.sep k b' h1 h2;exact⟨p,by omega,r⟩
 ilt:=fun b' hb' =>by have:=h.ilt b' hb';omega
 inew:=h.inew
 os:=hos.trans h.os
 tape:=htape.trans h.tape
 output:=hout.trans h.output
 size:=by have:=h.size;omega
 kept:=fun b' h1 h2=>(hheap b' (by have:=h.size;omega)).trans (h.kept b' h1 h2)
theorem RH.write{B:Zbr}{H:AH}{w w' :World}{g:Gh}{ow:Nat->Nat->Prop}(h:RH B H w g ow){id b:Nat}{o' :Zc0}(hid:H id≠none)(hb:ow id b)
  (hheap: ∀k,k≠b->w'.heap[k]? =w.heap[k]?) (hsz:w'.heap.size=w.heap.size) (hos:w'.os=w.os) (htape:w'.tape=w.tape) (hout:Zjn w' w)
  (ho:ZeB w' g (ow id) id o'):RH B (Zbl H id (some o')) w' g ow:=by
 have hsep:=h.sep id b hid hb
 have hlive: ∀k,Zbl H id (some o') k≠none->H k≠none:=by
  intro k hk;by_cases e:k=id
  ·grind
  ·rwa [Zat e]at hk
 have hag:ZaV g.I w w' :=fun k hk=>by grind
 exact {
  objs:=fun k o ho1=>by
   by_cases hki:k=id
   ·subst hki;rw[ZaT]at ho1;cases ho1
    cases hh:H k with
    |none=>grind
    |some o=>exact⟨(h.objs k o hh).1,ho⟩
   ·rw[Zat hki]at ho1;obtain⟨h1,h2⟩:=h.objs k o ho1;refine⟨h1,h2.mono hag (.refl g) h1 rfl fun b' hb' =>hheap b' fun e=>hki ?_⟩;exact h.dist k id b (by grind) hid (e▸hb') hb
  dist:=fun k k' b' h1 h2=>h.dist k k' b' (hlive k h1) (hlive k' h2)
  sep:=fun k b' h1 h2=>by rw[hsz];exact h.sep k b' (hlive k h1) h2
  ilt:=fun b' hb' =>by rw[hsz];exact h.ilt b' hb'
  inew:=h.inew
  os:=hos.trans h.os
  tape:=htape.trans h.tape
  output:=hout.trans h.output
  size:=by rw[hsz];exact h.size
  kept:=fun b' h1 h2=>by rw[hheap b' (by grind)];exact h.kept b' h1 h2}
theorem RH.putDat{B:Zbr}{H:AH}{w:World}{g:Gh}{ow:Nat->Nat->Prop}(h:RH B H w g ow){id:Nat}{t:Ty}{xs:List (El t)}(hk:g.K id)(ht:g.ty id=t)(hr:Rd w g.I (.sl t) xs [g.slv id]):
  RH B (Zbl H id (some (.dat t xs))) w g (Zc4 ow id fun _=>False) where
 objs:=fun k o ho=>by
  by_cases hki:k=id
  ·subst hki;rw[ZaT]at ho;cases ho;exact⟨hk,ht,hr⟩
  ·rw[Zat hki]at ho;rw[ZaI hki];exact h.objs k o ho
 dist:=fun k k' b h1 h2 h3 h4=>by
  by_cases hki:k=id
  ·subst hki;rw[ZaD]at h3;grind
  ·by_cases hki' :k' =id
   ·subst hki';rw[ZaD]at h4;grind
   ·rw[Zat hki]at h1;rw[Zat hki']at h2;rw[ZaI hki]at h3;rw[ZaI hki']at h4;exact h.dist k k' b h1 h2 h3 h4
 sep:=fun k b h1 h2=>by
  by_cases hki:k=id
  ·subst hki;rw[ZaD]at h2;grind
  ·rw[Zat hki]at h1;rw[ZaI hki]at h2;exact h.sep k b h1 h2
 ilt:=h.ilt
 inew:=h.inew
 os:=h.os
 tape:=h.tape
 output:=h.output
 size:=h.size
 kept:=h.kept
def Gh.grow(g:Gh)(J:Nat->Prop):Gh:= {g with I:=fun b=>g.I b\/J b}
theorem Gh.le_grow(g:Gh)(J:Nat->Prop):g.Le (g.grow J):=⟨fun _ h=> .inl h,fun _ h=>h,fun _ _=>rfl,fun _ _=>rfl,fun _ _=>rfl,fun _ _=>Vc _,fun _ _ _=>rfl⟩
theorem RH.grow{B:Zbr}{H:AH}{w:World}{g:Gh}{ow:Nat->Nat->Prop}(h:RH B H w g ow){J:Nat->Prop}(hJ: ∀b,J b->b<w.heap.size/\(B.I0 b\/B.own0 b\/B.w0.heap.size<=b)/\ ∀id,H id≠none-> ¬ow id b):RH B H w (g.grow J) ow where
 objs:=fun id o ho=>⟨(h.objs id o ho).1,(h.objs id o ho).2.mono (fun _ _=>rfl) (g.le_grow J) (h.objs id o ho).1 rfl (by simp)⟩
 dist:=h.dist
 sep:=fun id b h1 h2=>⟨fun hI=>by
  rcases hI with hI|hI
  ·exact(h.sep id b h1 h2).1 hI
  grind,(h.sep id b h1 h2).2⟩
 ilt:=fun b hb=>by
  rcases hb with hb|hb
  ·exact h.ilt b hb
  grind
 inew:=fun b hb=>by
  rcases hb with hb|hb
  ·exact h.inew b hb
  grind
 os:=h.os
 tape:=h.tape
 output:=h.output
 size:=h.size
 kept:=h.kept
theorem Zkg{w:World}{g:Gh}{ow:Nat->Prop}{id:Nat}{t:Ty}{xs:List (El t)}(h:ZeB w g ow id (.vec t xs)){I:Nat->Prop}(hI: ∀b,g.I b->I b)(hJ: ∀b,ow b->I b):
  Rd w I (.sl t) xs [g.slv id]:=by
 obtain⟨hty,ho⟩:=h;rcases ho with ⟨rfl,hb,hv⟩ | ⟨b,cap,cs,e,css,hb,hob,hv,hc,h4,h5,h6,h7⟩
 ·rw[hv];exact⟨none,0,[],rfl,trivial,by simp,Vc _⟩
 ·rw[hv];refine⟨some ⟨b,0,none⟩,cap,css,rfl,h6.mono fun x c hx=>Rd.mono (fun _ _=>rfl) hI t x c hx,fun _=>⟨b,0,rfl,hJ b hob, ?_⟩,h4⟩;intro j hj;obtain⟨r,hr⟩:=h7;have hlen:css.flatten.length<=cs.toList.length:=by grind
  simp only[Vg,hc,Va,Vb,if_false,Ve];have hj' :j<cs.size:=by grind
  rw[Vd hj'];congr 1;have:cs.toList[j]'(by omega)=css.flatten[j]:=by grind
  grind
theorem Ze8.data{w:World}{I J K:Nat->Prop}{t:Ty}{xs:List (El t)}{hd:Value}(h:Ze8 w I J t xs hd)(hI: ∀b,I b->K b)(hJ: ∀b,J b->K b):Rd w K (.sl t) xs [hd]:=by
 rcases h with ⟨rfl,rfl⟩ | ⟨b,cap,cs,e,css,rfl,hob,hc,h4,h5,h6,h7⟩
 ·exact⟨none,0,[],rfl,trivial,by simp,Vc _⟩
 ·refine⟨some ⟨b,0,none⟩,cap,css,rfl,h6.mono fun x c hx=>Rd.mono (fun _ _=>rfl) hI t x c hx,fun _=>⟨b,0,rfl,hJ b hob, ?_⟩,h4⟩;intro j hj;obtain⟨r,hr⟩:=h7;have hlen:css.flatten.length<=cs.toList.length:=by grind
  simp only[Vg,hc,Va,Vb,if_false,Ve];have hj' :j<cs.size:=by grind
  rw[Vd hj'];congr 1;have:cs.toList[j]'(by omega)=css.flatten[j]:=by grind
  grind
theorem Zi2{w:World}{g:Gh}{ow:Nat->Prop}{id:Nat}{t:Ty}{xs:List (List (El t))}{v:Nat}(h:ZeB w g ow id (.rows t xs v none)){I:Nat->Prop}(hI: ∀b,g.I b->I b)(hJ: ∀b,ow b->I b):
  Rd w I (.sl (.sl t)) xs [g.slv id]:=by
 obtain⟨_,_,hrf,ho⟩:=h;rcases ho with ⟨rfl,hb,hv⟩ | ⟨b,cap,cs,e,hb,hob,hv,hc,h4,h5,h6⟩
 ·rw[hv];exact⟨none,0,[],rfl,trivial,by simp,Vc _⟩
 ·rw[hv];refine⟨some ⟨b,0,none⟩,cap,(Vh xs.length).map fun i:Nat=>[g.row id (.int .i64) (i:Int)],rfl, ?_,fun _=>⟨b,0,rfl,hJ b hob, ?_⟩,h4⟩
  ·have key: ∀ (n:Nat) (l:List (List (El t))),(∀i x,l[i]? =some x->Rd w I (.sl t) x [g.row id (.int .i64) ((n+i:Nat):Int)])->Fa (Rd w I (.sl t)) l ((List.range' n l.length).map fun i:Nat=>[g.row id (.int .i64) (i:Int)]):=by
    intro n l
    induction l generalizing n with
    |nil=>intro _;trivial
    |cons x l ih=>
     intro h;refine⟨by simpa using h 0 x rfl, ?_⟩
     have:=ih (n+1) fun i y hy=>by
      have:=h (i+1) y (by grind)
      grind
     omega
   have:=key 0 xs fun i x hx=>by rw[Ve];exact(hrf.rd i x hx (by simp)).data hI hJ
   simpa [List.range_eq_range'] using this
  ·intro j hj
   have hfl: ((Vh xs.length).map fun i:Nat=>[g.row id (.int .i64) (i:Int)]).flatten=(Vh xs.length).map fun i:Nat=>g.row id (.int .i64) (i:Int):=by
    generalize xs.length=n
    induction n with
    |zero=>rfl
    |succ n ih=>rw[List.range_succ];grind
   have hj' :j<xs.length:=by grind
   simp only[Vg,hc,Va,Vb,if_false,Ve]
   grind
end Tr
