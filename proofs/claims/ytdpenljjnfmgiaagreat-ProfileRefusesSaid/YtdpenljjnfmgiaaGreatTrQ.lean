/- Composite literals. Conditions: the table of types is the program's. -/
import Derived.Test.YtdpenljjnfmgiaaGreatTrP
open Array renaming getElem?_eq_getElem ->Vf
open Bool renaming and_eq_true ->Va,not_eq_true' ->Vl,and_true ->Vq
open Go.Instr renaming fill ->Vp
open List renaming map_cons ->Vb,length ->Vc,getElem?_cons_succ ->Vd,getElem?_eq_some_iff ->Ve,length_replicate ->Vi,replicate ->Vj,mem_map ->Vk,lookup_cons ->Vm,mem_cons ->Vr,map_map ->Vs
open Nat renaming zero_add ->Vg,le_of_ble_eq_true ->Vh
open Option renaming getD_none ->Vn,map_none ->Vo
namespace Tr
open Go
theorem Zem(off:Nat): ∀ (d:List Value) (k:Nat) (pre c post:List Value),c.length=d.length->pre.length=off+k->
  (d.zipIdx k).foldl (fun(cs:Array Value) x=>cs.setIfInBounds (off+x.2) x.1) (pre++c++post).toArray=(pre++d++post).toArray
 | [],k,pre,c,post,h,_=>by
  simp_all
 |x::d,k,pre,c,post,h,hp=>by
  match c,h with
  |y::c,h=>
   simp only[List.zipIdx_cons,List.foldl_cons]
   have e: (pre++(y::c)++post).toArray.setIfInBounds (off+k) x=((pre++[x])++c++post).toArray:=by
    grind
   rw[e,Zem off d (k+1) (pre++[x]) c post (by grind) (by grind)];simp
def ZdB(css:List (List Value))(ps:List (Nat×Value)):List (List Value):=ps.foldl (fun css p=>css.set p.1 p.2.cells.toList) css
theorem Zgm{place:Nat->Option (Nat×Nat)}{lens:List Nat}(hp: ∀i,(h:i<lens.length)->place i=some ((lens.take i).sum,lens[i])): ∀ (ps:List (Nat×Value)) (css:List (List Value)),css.map Vc=lens->
  (∀p∈ps, ∃n,lens[p.1]? =some n/\p.2.cells.size=n)->Vp place css.flatten.toArray ps=some (ZdB css ps).flatten.toArray/\(ZdB css ps).map Vc=lens
 | [],css,hc,_=>⟨rfl,hc⟩
 | (i,v)::ps,css,hc,h=>by
  obtain⟨n,hn,hv⟩:=h (i,v) (by simp);simp only at hn hv;obtain⟨hi,rfl⟩:=Ve.1 hn;have hic:i<css.length:=by grind
  have hci:css[i].length=lens[i]:=by grind
  have hsplit:css.flatten=(css.take i).flatten++css[i]++(css.drop (i+1)).flatten:=by
   calc css.flatten=(css.take i++css[i]::css.drop (i+1)).flatten:=by simp
    _=_:=by grind
  have hoff: (css.take i).flatten.length=(lens.take i).sum:=by simp_all
  have hset:css.set i v.cells.toList=css.take i++v.cells.toList::css.drop (i+1):=List.set_eq_take_append_cons_drop .. |>.trans (by grind)
  have hmap: (css.set i v.cells.toList).map Vc=lens:=by
   simp_all
  obtain⟨h1,h2⟩:=Zgm hp ps (css.set i v.cells.toList) hmap (by grind);refine⟨?_,h2⟩;unfold Vp;simp only[hp i hi];rw[if_neg]
  ·rw[<-Array.foldl_toList,Array.toList_zipIdx,hsplit];have:=Zem (lens.take i).sum v.cells.toList 0 (css.take i).flatten css[i] (css.drop (i+1)).flatten (by grind) hoff;have e:=this;rw[show (List.foldl (fun(cs:Array Value) (x:Value×Nat)=>cs.setIfInBounds ((List.take i lens).sum+x.2) x.1) ((css.take i).flatten++css[i]++(css.drop (i+1)).flatten).toArray (v.cells.toList.zipIdx))=_ from e];have: ((css.take i).flatten++v.cells.toList++(css.drop (i+1)).flatten)=(css.set i v.cells.toList).flatten:=by grind
   rw[this]
   assumption
  grind
theorem Zec: ∀ (ps:List (Nat×Value)) (css:List (List Value)),Zcl css.length (ps.map (·.1))=true-> ∀j,j<css.length->
  (ZdB css ps)[j]? =(match ps.lookup j with|some v=>some v.cells.toList|none=>css[j]?)
 | [],css,_,j,_=>rfl
 | (i,v)::ps,css,h,j,hj=>by
  simp only[Vb,Zcl,Va,Vl]at h;have hi:=Vh h.1.1;have:=Zec ps (css.set i v.cells.toList) (by grind) j (by grind);show (ZdB (css.set i v.cells.toList) ps)[j]? =_
  grind
theorem Zb3: ∀ (ps:List (Nat×Value)) (css:List (List Value)),(ZdB css ps).length=css.length
 | [],_=>rfl
 | (i,v)::ps,css=>by show (ZdB (css.set i v.cells.toList) ps).length=_;rw[Zb3 ps,List.length_set]
section ops
variable {P:Program}{E:Env}{B:Zbr}{H:AH}{w:World}{g:Gh}{ow:Nat->Nat->Prop}{nid:Nat}{a:Act}{F:Nat->AV}{v:AV}{patch:ZaY}{rd:List Nat}{o:Oper}
def AVs.toL:AVs->List AV
 | .nil=>[]
 | .cons v l=>v::l.toL
theorem Zd1: ∀ {l:AVs}{cs:List Value},CVs w g l cs↔ ∃css,cs=css.flatten/\Fa (CV w g) l.toL css
 | .nil,cs=>by
  simp only[CVs,AVs.toL];constructor
  ·rintro rfl;exact⟨[],rfl,trivial⟩
  ·rintro ⟨css,rfl,h⟩
   match css,h with
   | [],_=>rfl
 | .cons v l,cs=>by
  simp only[CVs,AVs.toL];constructor
  ·rintro ⟨c1,c2,rfl,h1,h2⟩;obtain⟨css,rfl,h3⟩:=Zd1.1 h2;exact⟨c1::css,rfl,h1,h3⟩
  ·rintro ⟨css,rfl,h⟩
   match css,h with
   |c::css,⟨h1,h2⟩=>exact⟨c,css.flatten,rfl,h1,Zd1.2 (by grind)⟩
theorem Zk1: ∀ {l:AVs}{d:DV}{cs:List Value},Zgy l=some d->CVs w g l cs->Rd w g.I d.1 d.2 cs
 | .nil,d,cs,h,hc=>by
  simp only[Zgy,Option.some.injEq]at h
  subst h;assumption
 | .cons v l,d,cs,h,hc=>by
  simp only[CVs]at hc;obtain⟨c1,c2,rfl,h1,h2⟩:=hc
  cases v with
  |d t x=>
   simp only[Zgy]at h
   cases hm:Zgy l with
   |none=>grind
   |some d' =>
    obtain⟨u,y⟩:=d';rw[hm]at h;simp only[Option.some.injEq]at h;subst h;simp only[Rd]
    exact⟨c1,c2,rfl,by assumption,Zk1 hm h2⟩
  |_=>simp [Zgy]at h
theorem Zlw{l:AVs}{cs:List Value}(h:CVs w g l cs):CV w g (Zgi l) cs/\(Zgi l).isAgg=true:=by
 unfold Zgi
 cases hm:Zgy l with
 |none=>exact⟨by assumption,rfl⟩
 |some d=>
  refine⟨by simpa only[CV] using Zk1 hm h, ?_⟩
  cases l with
  |nil=>simp only[Zgy,Option.some.injEq]at hm;subst hm;rfl
  |cons v l=>
   cases v with
   |d t x=>
    simp only[Zgy]at hm;split at hm
    ·cases hm;rfl
    grind
   |_=>simp [Zgy]at hm
theorem Zlo: ∀ (t:Ty) (cs:List Value),t.chain=true->t.data=true->Rd w g.I t (zeroEl t) cs->CVs w g (Zcy true t) cs:=by
 intro t
 induction t with
 |prod a b _ ihb=>
  intro cs hc hd h;simp only[Ty.data,Va]at hd;simp only[Rd]at h;obtain⟨c1,c2,rfl,h1,h2⟩:=h;simp only[Zcy,CVs];refine⟨c1,c2,rfl, ?_,ihb c2 (by assumption) hd.2 h2⟩;simp only[ZeG,hd.1,Bool.true_or,Vq,cond_true,CV]
  assumption
 |unit=>
  intro cs _ _ h
  assumption
 |_=>intro cs hc;simp [Ty.chain]at hc
def Ty.parts:Ty->List Ty
 | .prod a b=>a::b.parts
 |_=>[]
theorem ZcZ: ∀t:Ty,fieldsOf t=t.parts.length
 | .prod a b=>by simp [fieldsOf,Ty.parts,ZcZ b]
 | .unit| .int _| .bool| .str| .sl _| .arr _ _| .ref=>rfl
theorem Zhr: ∀ (t:Ty) (n:Nat),t.chain=true->Zbh t [n]=(t.parts[n]?).map fun t' =>(((t.parts.take n).map Ty.size).sum,t'):=by
 intro t
 induction t with
 |prod a b _ ihb=>
  intro n hc;have hc:b.chain=true:=by assumption
  cases n with
  |zero=>simp [Zbh,Ty.parts]
  |succ n=>
   simp only[Zbh,ihb n hc,Ty.parts,Vd,List.take_succ_cons,Vb,List.sum_cons]
   grind
 |unit=>intro n _;rfl
 |_=>intro n hc;simp [Ty.chain]at hc
theorem ZeM(z:Bool): ∀t:Ty,(Zcy z t).toL=t.parts.map (ZeG z)
 | .prod a b=>by simp only[Zcy,AVs.toL,Ty.parts,Vb,ZeM z b]
 | .unit| .int _| .bool| .str| .sl _| .arr _ _| .ref=>rfl
theorem ZcT(z:Bool)(ps:List (Nat×AV)): ∀ (t:Ty) (k n:Nat),(ZcI z ps t k).toL[n]? =(t.parts[n]?).map fun t' =>(ps.lookup (k+n)).getD (ZeG z t')
 | .prod a b,k,n=>by
  cases n with
  |zero=>rfl
  |succ n=>
   simp only[ZcI,AVs.toL,Ty.parts,Vd]
   rw[ZcT z ps b (k+1) n,show k+1+n=k+(n+1) by omega]
 | .unit,_,_| .int _,_,_| .bool,_,_| .str,_,_| .sl _,_,_| .arr _ _,_,_| .ref,_,_=>rfl
theorem Zhf: ∀ {l:AVs}{t:Ty},l.fits t=true-> ∀ {n:Nat}{v:AV},l.toL[n]? =some v-> ∃t',t.parts[n]? =some t' /\v.fits t' =true
 | .nil,t,_,n,v,h=>by simp [AVs.toL]at h
 | .cons x l,t,hf,n,v,h=>by
  cases t with
  |prod a b=>
   simp only[AVs.fits,Va]at hf
   cases n with
   |zero=>simp only[AVs.toL,List.getElem?_cons_zero,Option.some.injEq]at h;subst h;exact⟨a,rfl,hf.1⟩
   |succ n=>simp only[AVs.toL,Vd]at h;exact Zhf hf.2 h
  |_=>simp [AVs.fits]at hf
theorem ZkA{α β:Type}{f:α->Option β}{g:α->β} : ∀ {l:List α},(∀x∈l,f x=some (g x))->l.mapM f=some (l.map g)
 | [],_=>rfl
 |x::l,h=>by rw[List.mapM_cons,h x (by simp),ZkA fun y hy=>h y (by simp [hy])];rfl
theorem ZhN{T:TypeId}{a0 b0:Ty}(hT:Zah P E)(h:E.ty T=some (.prod a0 b0)): ∃fs places,P.underlying T=some (.struct fs)/\b0.chain=true/\
  fs.toList.mapM (fun f=>(P.info? f.type).map fun i=>(f.offset,i.size))=some places/\ ∀i t',(Ty.prod a0 b0).parts[i]? =some t' ->places[i]? =some ((((Ty.prod a0 b0).parts.take i).map Ty.size).sum,t'.size):=by
 have hs:=(hT.ty T _ h).shape
 cases hu:P.underlying T with
 |none=>rw[hu]at hs;simp [Zak]at hs
 |some d=>
  rw[hu]at hs
  cases d with
  |struct fs=>
   simp only[Zak,Va,List.all_eq_true,List.mem_range]at hs;obtain⟨⟨hall,hnone⟩,hch⟩:=hs;have hchain: (Ty.prod a0 b0).chain=true:=hch
   have hlen: (Ty.prod a0 b0).parts.length<=fs.size:=by
    rw[Zhr _ _ hchain]at hnone
    grind
   refine⟨fs,fs.toList.map fun f=>(f.offset,((E.ty f.type).map Ty.size).getD 0),rfl,hch,ZkA fun f hf=> ?_, ?_⟩
   ·obtain⟨i,hi,rfl⟩:=List.getElem_of_mem hf;have hi' :i<fs.size:=by omega
    have h1:=hall i hi';rw[Vf hi']at h1
    cases hp:Zbh (.prod a0 b0) [i] with
    |none=>grind
    |some r=>
     rw[hp]at h1;simp only[Va,beq_iff_eq]at h1;obtain⟨i',z,hi',hsz,_⟩:=(hT.ty _ _ h1.1.2).info
     grind
   ·intro i t' ht;have hi:i<fs.size:=by grind
    have h1:=hall i hi;rw[Zhr _ _ hchain,Vf hi,ht]at h1
    grind
  |_=>simp [Zak]at hs
theorem ZbO{α β γ:Type}[BEq α](f:β->γ)(k:α): ∀l:List (α×β),(l.map fun p=>(p.1,f p.2)).lookup k=(l.lookup k).map f
 | []=>rfl
 | (i,x)::l=>by
  simp only[Vb,Vm,ZbO f k l]
  grind
theorem ZcK{α β:Type}[BEq α][LawfulBEq α]{k:α}{x:β} : ∀ {l:List (α×β)},(l.map (·.1)).Nodup->(k,x)∈l->l.lookup k=some x
 | (i,y)::l,hn,h=>by
  simp only[Vb,List.nodup_cons]at hn;rw[Vm];rcases Vr.1 h with h|h
  ·grind
  ·have: (k==i)=false:=by
    grind
   rw[this];exact ZcK hn.2 h
theorem Zb5{n:Nat} : ∀ {l:List Nat},Zcl n l=true->l.Nodup/\ ∀i∈l,i<n
 | [],_=>by simp
 |i::l,h=>by
  simp only[Zcl,Va,Vl]at h;obtain⟨⟨h1,h2⟩,h3⟩:=h;obtain⟨h4,h5⟩:=Zb5 h3;refine⟨by grind, ?_⟩;intro j hj;rcases Vr.1 hj with rfl|hj
  ·exact Vh h1
  grind
theorem Zlh(z:Bool)(t:Ty): (ZeG z t).fits t=true:=by
 unfold ZeG
 cases hd:t.data&& (z|| !t.isSl) with
 |true=>simp [AV.fits]
 |false=>cases t<;>simp [Zol,AV.fits]
theorem ZjT{a0 b0:Ty}{cs:List Value}(x:Bool)(hch:b0.chain=true)(h:ZdR (.prod a0 b0) cs=true): ∃css,cs=css.flatten/\Fa (CV w g) ((Ty.prod a0 b0).parts.map (ZeG ((Ty.prod a0 b0).data&& !x))) css:=by
 rw[<-ZeM];apply Zd1.1
 cases x with
 |true=>rw[Bool.not_true,Bool.and_false];exact(ZfR _ _ (Zk4 hch h)).1
 |false=>
 rw[Bool.not_false,Vq];unfold ZdR at h
 cases hd: (Ty.prod a0 b0).data with
 |true=>
  rw[hd]at h
  exact Zlo _ _ hch hd (ZeI _ _ h)
 |false=>
  rw[hd]at h;exact(ZfR _ _ h).1
theorem ZiD{z:Bool} : ∀ {l:List Ty}{css:List (List Value)},Fa (CV w g) (l.map (ZeG z)) css->css.map Vc=l.map Ty.size
 | [],[],_=>rfl
 |t::l,c::css,⟨h1,h2⟩=>by rw[Vb,Vb,CV.length _ t c (Zlh z t) h1,ZiD h2]
theorem Zon{v:AV}{t:Ty}(h:v.fits t=true): ∀l,v≠ .tup l:=by rintro l rfl;simp [AV.fits]at h
theorem Ziv{T:TypeId}{a0 b0:Ty}{ps:List (Nat×Operand)}(hT:Zah P E)(ht:E.ty T=some (.prod a0 b0))(hF:Fr w g F a.tmps)(hp:Zcl (fieldsOf (.prod a0 b0)) (ps.map (·.1))=true)
  (x:Bool) (hf: (ZcI (Ty.data (.prod a0 b0) && !x) (ps.map fun p=>(p.1,aev F p.2)) (.prod a0 b0) 0).fits (.prod a0 b0)=true):
  ∃cells,P.built T (ps.map fun p=>(p.1,a.eval p.2))=some cells/\CVs w g (ZcI (Ty.data (.prod a0 b0) && !x) (ps.map fun p=>(p.1,aev F p.2)) (.prod a0 b0) 0) cells.toList:=by
 obtain⟨fs,places,hu,hch,hpl,hplaces⟩:=ZhN hT ht;obtain⟨i,z,hi,_,_,hz,hzok,_⟩:=(hT.ty T _ ht).info;obtain⟨css,hcss,hfa⟩:=ZjT (w:=w) (g:=g) x hch hzok;have hkeys:=Zb5 hp;have hlens:css.map Vc=(Ty.prod a0 b0).parts.map Ty.size:=ZiD hfa;have hn:css.length=(Ty.prod a0 b0).parts.length:=by have:=congrArg Vc hlens;grind
 have hav: ∀k y,(k,y)∈ps-> ∃t',(Ty.prod a0 b0).parts[k]? =some t' /\(aev F y).fits t' =true/\ps.lookup k=some y:=by
  intro k y hx;have hl:=ZcK hkeys.1 hx;have hk:=hkeys.2 k (by grind);rw[ZcZ]at hk;have h2:=ZcT (Ty.data (.prod a0 b0) && !x) (ps.map fun p=>(p.1,aev F p.2)) (.prod a0 b0) 0 k;rw[ZbO,Vg,hl,List.getElem?_eq_getElem hk]at h2;obtain⟨t',h3,h4⟩:=Zhf hf h2
  grind
 have hcv: ∀x t',(aev F x).fits t' =true->CV w g (aev F x) (a.eval x).cells.toList:=fun x t' hx=>((hF.eval x).to1 (Zon hx)).1
 have hfill:=Zgm (place:=(places.toArray[·]?)) (lens:=(Ty.prod a0 b0).parts.map Ty.size) (by
  simp_all) (ps.map fun p=>(p.1,a.eval p.2)) css hlens (by
  intro p hp';obtain⟨q,hq,rfl⟩:=Vk.1 hp';obtain⟨t',h3,h4,_⟩:=hav q.1 q.2 hq;refine⟨t'.size,by grind, ?_⟩;have:=CV.length _ t' _ h4 (hcv q.2 t' h4);omega)
 refine⟨(ZdB css (ps.map fun p=>(p.1,a.eval p.2))).flatten.toArray, ?_, ?_⟩
 ·unfold Program.built;have hzc:z.cells=css.flatten.toArray:=by grind
  grind
 ·apply Zd1.2;refine⟨ZdB css (ps.map fun p=>(p.1,a.eval p.2)),rfl,Zix ?_ ?_⟩
  ·rw[Zb3]
   have: ∀z (t:Ty) ps k,(ZcI z ps t k).toL.length=t.parts.length:=by
    intro z t
    induction t with
    |prod a b _ ihb=>intro ps k;simp [ZcI,AVs.toL,Ty.parts,ihb]
    |_=>intro ps k;rfl
   grind
  ·intro n v c hv hc;rw[ZcT,ZbO,Vg]at hv
   have hnl:n<css.length:=by
    grind
   rw[Zec _ _ (by rw[Vs,hn, <-ZcZ];assumption) n hnl,ZbO]at hc
   cases hl:ps.lookup n with
   |none=>
    rw[hl]at hc hv;simp only[Vo,Vn]at hc hv;obtain⟨c',h1,h2⟩:=hfa.get n v (by grind)
    grind
   |some x=>
    grind
theorem Zb9{t:Ty}{ps:List (Nat×AV)} : ∀ {m k:Nat}{l:List (El t)},Zco t ps m k=some l->l.length=m/\ ∀j,(h:j<l.length)->(ps.lookup (k+j)).getD (.d t (zeroEl t))= .d t l[j]
 |0,k,l,h=>by
  simp only[Zco,Option.some.injEq]at h
  grind
 |m+1,k,l,h=>by
  simp only[Zco]at h;split at h
  ·rename_i t' x hx;simp only[Option.bind_eq_some_iff]at h;obtain⟨y,hy,l',hl,h⟩:=h;cases h;obtain⟨rfl,rfl⟩:=Zan hy;obtain⟨h1,h2⟩:=Zb9 hl
   grind
  grind
theorem Zfs{ps:List (Nat×Operand)} : ∀ {qs:List (Nat×AV)},Fa (fun p q=>q.1=p.1/\VR w g q.2 (a.eval p.2)) ps qs-> ∀k,(ps.lookup k=none/\qs.lookup k=none)\/ ∃x v,ps.lookup k=some x/\qs.lookup k=some v/\VR w g v (a.eval x):=by
 induction ps with
 |nil=>intro qs h k;cases qs with|nil=>simp|cons q qs=>exact h.elim
 |cons p ps ih=>
  intro qs h k
  cases qs with
  |nil=>exact h.elim
  |cons q qs=>
   obtain⟨⟨h1,h2⟩,h3⟩:=h
   grind
theorem ZgV(hF:Fr w g F a.tmps): ∀ps:List (Nat×Operand),Fa (fun p q=>q.1=p.1/\VR w g q.2 (a.eval p.2)) ps (ps.map fun p=>(p.1,aev F p.2))
 | []=>trivial
 |p::ps=>⟨⟨rfl,hF.eval p.2⟩,ZgV hF ps⟩
theorem Zhp{e:Ty}{ps:List (Nat×Operand)}{qs:List (Nat×AV)}{n:Nat}{l:List (El e)}{css:List (List Value)}(hq:Fa (fun p q=>q.1=p.1/\VR w g q.2 (a.eval p.2)) ps qs)(hp:Zcl n (ps.map (·.1))=true)
  (hb:Zco e qs n 0=some l) (hfa:Fa (Rd w g.I e) (Vj n (zeroEl e)) css):
  ∃css',Vp (fun i=>some (i*e.size,e.size)) css.flatten.toArray (ps.map fun p=>(p.1,a.eval p.2))=some css'.flatten.toArray/\Fa (Rd w g.I e) l css' :=by
 obtain⟨hln,hget⟩:=Zb9 hb;have hkeys:=Zb5 hp;have hn:css.length=n:=by rw[<-hfa.length,Vi]
 have hlens:css.map Vc=Vj n e.size:=by apply List.eq_replicate_iff.2;refine⟨by grind, ?_⟩;intro c hc;obtain⟨d,hd,rfl⟩:=Vk.1 hc;exact Rd.all_length hfa d hd
 have hcv: ∀k x,ps.lookup k=some x->(hk:k<l.length)->Rd w g.I e l[k] (a.eval x).cells.toList:=by
  intro k x hx hk;have h1:=hget k hk;rw[Vg]at h1;rcases Zfs hq k with ⟨h5,_⟩ | ⟨x',v',h5,h6,h2⟩
  ·grind
  rw[hx]at h5;cases h5;rw[h6]at h1;simp only[Option.getD_some]at h1;rw[h1]at h2;have h3:VR1 w g (.d e l[k]) (a.eval x):=h2;simpa only[CV] using h3.1
 obtain⟨h1,h2⟩:=Zgm (place:=fun i=>some (i*e.size,e.size)) (lens:=Vj n e.size) (by
  intro i hi;simp only[Vi]at hi
  simp [List.take_replicate,Nat.min_eq_left (Nat.le_of_lt hi)]) (ps.map fun p=>(p.1,a.eval p.2)) css hlens (by
  intro p hp';obtain⟨q,hq,rfl⟩:=Vk.1 hp';have hk:=hkeys.2 q.1 (by grind);refine⟨e.size,by grind, ?_⟩;have:=Rd.length _ _ _ (hcv q.1 q.2 (ZcK hkeys.1 hq) (by omega));omega)
 refine⟨_,h1,Zix (by rw[Zb3,hln,hn]) ?_⟩;intro k x c hx hc;obtain⟨hk,rfl⟩:=Ve.1 hx;rw[Zec _ _ (by rw[Vs,hn];assumption) k (by omega),ZbO]at hc
 cases hl:ps.lookup k with
 |none=>
  rw[hl]at hc;simp only[Vo]at hc;have h3:=hget k hk;rw[Vg]at h3
  have h6:qs.lookup k=none:=by
   rcases Zfs hq k with ⟨_,h6⟩ | ⟨x',v',h5,_⟩
   all_goals grind
  rw[h6]at h3;simp only[Vn,AV.d.injEq,heq_eq_eq,true_and]at h3;obtain⟨c',h4,h5⟩:=hfa.get k (zeroEl e) (by grind)
  grind
 |some x=>
  grind
theorem Zf5{T:TypeId}{n:Nat}{t:Ty}(hT:Zah P E)(h:E.ty T=some (.arr n t)): ∃Et,P.underlying T=some (.array n Et)/\E.ty Et=some t:=by
 have hs:=(hT.ty T _ h).shape
 cases hu:P.underlying T with
 |none=>rw[hu]at hs;simp [Zak]at hs
 |some d=>
  rw[hu]at hs
  cases d<;>simp [Zak]at hs
  grind
end ops
end Tr
