/- Composite literals. Conditions: the table of types is the program's. -/
import Derived.Test.YtdpenljjnfmgiaaGreatTrP
open Array renaming getElem?_eq_getElem ->Vf
open Bool renaming and_eq_true ->Va,not_eq_true' ->Vl,and_true ->Vq
open Go.Instr renaming fill ->Vp
open List renaming map_cons ->Vb,length ->Vc,getElem?_cons_succ ->Vd,getElem?_eq_some_iff ->Ve,length_replicate ->Vi,replicate ->Vj,mem_map ->Vk,lookup_cons ->Vm,mem_cons ->Vr,map_map ->Vs
open Nat renaming zero_add ->Vg,le_of_ble_eq_true ->Vh
open Option renaming getD_none ->Vn,map_none ->Vo
namespace Tr
open Go
theorem Zdu(off:Nat): ∀ (d:List Value) (k:Nat) (pre c post:List Value),c.length=d.length->pre.length=off+k->
  (d.zipIdx k).foldl (fun(cs:Array Value) x=>cs.setIfInBounds (off+x.2) x.1) (pre++c++post).toArray=(pre++d++post).toArray
 | [],k,pre,c,post,h,_=>by
  simp_all
 |x::d,k,pre,c,post,h,hp=>by
  match c,h with
  |y::c,h=>
   simp only[List.zipIdx_cons,List.foldl_cons]
   have e: (pre++(y::c)++post).toArray.setIfInBounds (off+k) x=((pre++[x])++c++post).toArray:=by
    grind
   rw[e,Zdu off d (k+1) (pre++[x]) c post (by grind) (by grind)];simp
def ZcU(css:List (List Value))(ps:List (Nat×Value)):List (List Value):=ps.foldl (fun css p=>css.set p.1 p.2.cells.toList) css
theorem Zfc{place:Nat->Option (Nat×Nat)}{lens:List Nat}(hp: ∀i,(h:i<lens.length)->place i=some ((lens.take i).sum,lens[i])): ∀ (ps:List (Nat×Value)) (css:List (List Value)),css.map Vc=lens->
  (∀p∈ps, ∃n,lens[p.1]? =some n/\p.2.cells.size=n)->Vp place css.flatten.toArray ps=some (ZcU css ps).flatten.toArray/\(ZcU css ps).map Vc=lens
 | [],css,hc,_=>⟨rfl,hc⟩
 | (i,v)::ps,css,hc,h=>by
  obtain⟨n,hn,hv⟩:=h (i,v) (by simp);simp only at hn hv;obtain⟨hi,rfl⟩:=Ve.1 hn;have hic:i<css.length:=by grind
  have hci:css[i].length=lens[i]:=by grind
  have hsplit:css.flatten=(css.take i).flatten++css[i]++(css.drop (i+1)).flatten:=by
   calc css.flatten=(css.take i++css[i]::css.drop (i+1)).flatten:=by simp
    _=_:=by grind
  have hoff: (css.take i).flatten.length=(lens.take i).sum:=by simp_all
  have hset:css.set i v.cells.toList=css.take i++v.cells.toList::css.drop (i+1):=List.set_eq_take_append_cons_drop .. |>.trans (by grind)
  have hmap: (css.set i v.cells.toList).map Vc=lens:=by
   simp_all
  obtain⟨h1,h2⟩:=Zfc hp ps (css.set i v.cells.toList) hmap (by grind);refine⟨?_,h2⟩;unfold Vp;simp only[hp i hi];rw[if_neg]
  ·rw[<-Array.foldl_toList,Array.toList_zipIdx,hsplit];have:=Zdu (lens.take i).sum v.cells.toList 0 (css.take i).flatten css[i] (css.drop (i+1)).flatten (by grind) hoff;have e:=this;rw[show (List.foldl (fun(cs:Array Value) (x:Value×Nat)=>cs.setIfInBounds ((List.take i lens).sum+x.2) x.1) ((css.take i).flatten++css[i]++(css.drop (i+1)).flatten).toArray (v.cells.toList.zipIdx))=_ from e];have: ((css.take i).flatten++v.cells.toList++(css.drop (i+1)).flatten)=(css.set i v.cells.toList).flatten:=by grind
   rw[this]
   assumption
  grind
theorem Zdk: ∀ (ps:List (Nat×Value)) (css:List (List Value)),Zb2 css.length (ps.map (·.1))=true-> ∀j,j<css.length->
  (ZcU css ps)[j]? =(match ps.lookup j with|some v=>some v.cells.toList|none=>css[j]?)
 | [],css,_,j,_=>rfl
 | (i,v)::ps,css,h,j,hj=>by
  simp only[Vb,Zb2,Va,Vl]at h;have hi:=Vh h.1.1;have:=Zdk ps (css.set i v.cells.toList) (by grind) j (by grind);show (ZcU (css.set i v.cells.toList) ps)[j]? =_
  grind
theorem ZbS: ∀ (ps:List (Nat×Value)) (css:List (List Value)),(ZcU css ps).length=css.length
 | [],_=>rfl
 | (i,v)::ps,css=>by show (ZcU (css.set i v.cells.toList) ps).length=_;rw[ZbS ps,List.length_set]
section ops
variable {P:Program}{E:Env}{B:Za4}{H:AH}{w:World}{g:Gh}{ow:Nat->Nat->Prop}{nid:Nat}{a:Act}{F:Nat->AV}{v:AV}{patch:ZaN}{rd:List Nat}{o:Oper}
def AVs.toL:AVs->List AV
 | .nil=>[]
 | .cons v l=>v::l.toL
theorem Zdo: ∀ {l:AVs}{cs:List Value},CVs w g l cs↔ ∃css,cs=css.flatten/\Fa (CV w g) l.toL css
 | .nil,cs=>by
  simp only[CVs,AVs.toL];constructor
  ·rintro rfl;exact⟨[],rfl,trivial⟩
  ·rintro ⟨css,rfl,h⟩
   match css,h with
   | [],_=>rfl
 | .cons v l,cs=>by
  simp only[CVs,AVs.toL];constructor
  ·rintro ⟨c1,c2,rfl,h1,h2⟩;obtain⟨css,rfl,h3⟩:=Zdo.1 h2;exact⟨c1::css,rfl,h1,h3⟩
  ·rintro ⟨css,rfl,h⟩
   match css,h with
   |c::css,⟨h1,h2⟩=>exact⟨c,css.flatten,rfl,h1,Zdo.2 (by grind)⟩
theorem ZiP: ∀ {l:AVs}{d:DV}{cs:List Value},Zfs l=some d->CVs w g l cs->Rd w g.I d.1 d.2 cs
 | .nil,d,cs,h,hc=>by
  simp only[Zfs,Option.some.injEq]at h
  subst h;assumption
 | .cons v l,d,cs,h,hc=>by
  simp only[CVs]at hc;obtain⟨c1,c2,rfl,h1,h2⟩:=hc
  cases v with
  |d t x=>
   simp only[Zfs]at h
   cases hm:Zfs l with
   |none=>grind
   |some d' =>
    obtain⟨u,y⟩:=d';rw[hm]at h;simp only[Option.some.injEq]at h;subst h;simp only[Rd]
    exact⟨c1,c2,rfl,by assumption,ZiP hm h2⟩
  |_=>simp [Zfs]at h
theorem Zjz{l:AVs}{cs:List Value}(h:CVs w g l cs):CV w g (Zft l) cs/\(Zft l).isAgg=true:=by
 unfold Zft
 cases hm:Zfs l with
 |none=>exact⟨by assumption,rfl⟩
 |some d=>
  refine⟨by simpa only[CV] using ZiP hm h, ?_⟩
  cases l with
  |nil=>simp only[Zfs,Option.some.injEq]at hm;subst hm;rfl
  |cons v l=>
   cases v with
   |d t x=>
    simp only[Zfs]at hm;split at hm
    ·cases hm;rfl
    grind
   |_=>simp [Zfs]at hm
theorem ZjD: ∀ (t:Ty) (cs:List Value),t.chain=true->t.data=true->Rd w g.I t (zeroEl t) cs->CVs w g (ZbZ true t) cs:=by
 intro t
 induction t with
 |prod a b _ ihb=>
  intro cs hc hd h;simp only[Ty.data,Va]at hd;simp only[Rd]at h;obtain⟨c1,c2,rfl,h1,h2⟩:=h;simp only[ZbZ,CVs];refine⟨c1,c2,rfl, ?_,ihb c2 (by assumption) hd.2 h2⟩;simp only[ZdT,hd.1,Bool.true_or,Vq,cond_true,CV]
  assumption
 |unit=>
  intro cs _ _ h
  assumption
 |_=>intro cs hc;simp [Ty.chain]at hc
def Ty.parts:Ty->List Ty
 | .prod a b=>a::b.parts
 |_=>[]
theorem Zct: ∀t:Ty,fieldsOf t=t.parts.length
 | .prod a b=>by simp [fieldsOf,Ty.parts,Zct b]
 | .unit| .int _| .bool| .str| .sl _| .arr _ _| .ref=>rfl
theorem Zf4: ∀ (t:Ty) (n:Nat),t.chain=true->Za3 t [n]=(t.parts[n]?).map fun t' =>(((t.parts.take n).map Ty.size).sum,t'):=by
 intro t
 induction t with
 |prod a b _ ihb=>
  intro n hc;have hc:b.chain=true:=by assumption
  cases n with
  |zero=>simp [Za3,Ty.parts]
  |succ n=>
   simp only[Za3,ihb n hc,Ty.parts,Vd,List.take_succ_cons,Vb,List.sum_cons]
   grind
 |unit=>intro n _;rfl
 |_=>intro n hc;simp [Ty.chain]at hc
theorem ZdV(z:Bool): ∀t:Ty,(ZbZ z t).toL=t.parts.map (ZdT z)
 | .prod a b=>by simp only[ZbZ,AVs.toL,Ty.parts,Vb,ZdV z b]
 | .unit| .int _| .bool| .str| .sl _| .arr _ _| .ref=>rfl
theorem Zcs(z:Bool)(ps:List (Nat×AV)): ∀ (t:Ty) (k n:Nat),(Zco z ps t k).toL[n]? =(t.parts[n]?).map fun t' =>(ps.lookup (k+n)).getD (ZdT z t')
 | .prod a b,k,n=>by
  cases n with
  |zero=>rfl
  |succ n=>
   simp only[Zco,AVs.toL,Ty.parts,Vd]
   rw[Zcs z ps b (k+1) n,show k+1+n=k+(n+1) by omega]
 | .unit,_,_| .int _,_,_| .bool,_,_| .str,_,_| .sl _,_,_| .arr _ _,_,_| .ref,_,_=>rfl
theorem ZfN: ∀ {l:AVs}{t:Ty},l.fits t=true-> ∀ {n:Nat}{v:AV},l.toL[n]? =some v-> ∃t',t.parts[n]? =some t' /\v.fits t' =true
 | .nil,t,_,n,v,h=>by simp [AVs.toL]at h
 | .cons x l,t,hf,n,v,h=>by
  cases t with
  |prod a b=>
   simp only[AVs.fits,Va]at hf
   cases n with
   |zero=>simp only[AVs.toL,List.getElem?_cons_zero,Option.some.injEq]at h;subst h;exact⟨a,rfl,hf.1⟩
   |succ n=>simp only[AVs.toL,Vd]at h;exact ZfN hf.2 h
  |_=>simp [AVs.fits]at hf
theorem ZiV{α β:Type}{f:α->Option β}{g:α->β} : ∀ {l:List α},(∀x∈l,f x=some (g x))->l.mapM f=some (l.map g)
 | [],_=>rfl
 |x::l,h=>by rw[List.mapM_cons,h x (by simp),ZiV fun y hy=>h y (by simp [hy])];rfl
theorem ZgT{T:TypeId}{a0 b0:Ty}(hT:Zah P E)(h:E.ty T=some (.prod a0 b0)): ∃fs places,P.underlying T=some (.struct fs)/\b0.chain=true/\
  fs.toList.mapM (fun f=>(P.info? f.type).map fun i=>(f.offset,i.size))=some places/\ ∀i t',(Ty.prod a0 b0).parts[i]? =some t' ->places[i]? =some ((((Ty.prod a0 b0).parts.take i).map Ty.size).sum,t'.size):=by
 have hs:=(hT.ty T _ h).shape
 cases hu:P.underlying T with
 |none=>rw[hu]at hs;simp [Zaj]at hs
 |some d=>
  rw[hu]at hs
  cases d with
  |struct fs=>
   simp only[Zaj,Va,List.all_eq_true,List.mem_range]at hs;obtain⟨⟨hall,hnone⟩,hch⟩:=hs;have hchain: (Ty.prod a0 b0).chain=true:=hch
   have hlen: (Ty.prod a0 b0).parts.length<=fs.size:=by
    rw[Zf4 _ _ hchain]at hnone
    grind
   refine⟨fs,fs.toList.map fun f=>(f.offset,((E.ty f.type).map Ty.size).getD 0),rfl,hch,ZiV fun f hf=> ?_, ?_⟩
   ·obtain⟨i,hi,rfl⟩:=List.getElem_of_mem hf;have hi' :i<fs.size:=by omega
    have h1:=hall i hi';rw[Vf hi']at h1
    cases hp:Za3 (.prod a0 b0) [i] with
    |none=>grind
    |some r=>
     rw[hp]at h1;simp only[Va,beq_iff_eq]at h1;obtain⟨i',z,hi',hsz,_⟩:=(hT.ty _ _ h1.1.2).info
     grind
   ·intro i t' ht;have hi:i<fs.size:=by grind
    have h1:=hall i hi;rw[Zf4 _ _ hchain,Vf hi,ht]at h1
    grind
  |_=>simp [Zaj]at hs
theorem ZbD{α β γ:Type}[BEq α](f:β->γ)(k:α): ∀l:List (α×β),(l.map fun p=>(p.1,f p.2)).lookup k=(l.lookup k).map f
 | []=>rfl
 | (i,x)::l=>by
  simp only[Vb,Vm,ZbD f k l]
  grind
theorem Zcl{α β:Type}[BEq α][LawfulBEq α]{k:α}{x:β} : ∀ {l:List (α×β)},(l.map (·.1)).Nodup->(k,x)∈l->l.lookup k=some x
 | (i,y)::l,hn,h=>by
  simp only[Vb,List.nodup_cons]at hn;rw[Vm];rcases Vr.1 h with h|h
  ·grind
  ·have: (k==i)=false:=by
    grind
   rw[this];exact Zcl hn.2 h
theorem ZbO{n:Nat} : ∀ {l:List Nat},Zb2 n l=true->l.Nodup/\ ∀i∈l,i<n
 | [],_=>by simp
 |i::l,h=>by
  simp only[Zb2,Va,Vl]at h;obtain⟨⟨h1,h2⟩,h3⟩:=h;obtain⟨h4,h5⟩:=ZbO h3;refine⟨by grind, ?_⟩;intro j hj;rcases Vr.1 hj with rfl|hj
  ·exact Vh h1
  grind
theorem Zju(z:Bool)(t:Ty): (ZdT z t).fits t=true:=by
 unfold ZdT
 cases hd:t.data&& (z|| !t.isSl) with
 |true=>simp [AV.fits]
 |false=>cases t<;>simp [ZlR,AV.fits]
theorem Zil{a0 b0:Ty}{cs:List Value}(x:Bool)(hch:b0.chain=true)(h:ZcZ (.prod a0 b0) cs=true): ∃css,cs=css.flatten/\Fa (CV w g) ((Ty.prod a0 b0).parts.map (ZdT ((Ty.prod a0 b0).data&& !x))) css:=by
 rw[<-ZdV];apply Zdo.1
 cases x with
 |true=>rw[Bool.not_true,Bool.and_false];exact(ZeH _ _ (Zi4 hch h)).1
 |false=>
 rw[Bool.not_false,Vq];unfold ZcZ at h
 cases hd: (Ty.prod a0 b0).data with
 |true=>
  rw[hd]at h
  exact ZjD _ _ hch hd (ZdM _ _ h)
 |false=>
  rw[hd]at h;exact(ZeH _ _ h).1
theorem Zho{z:Bool} : ∀ {l:List Ty}{css:List (List Value)},Fa (CV w g) (l.map (ZdT z)) css->css.map Vc=l.map Ty.size
 | [],[],_=>rfl
 |t::l,c::css,⟨h1,h2⟩=>by rw[Vb,Vb,CV.length _ t c (Zju z t) h1,Zho h2]
theorem ZlI{v:AV}{t:Ty}(h:v.fits t=true): ∀l,v≠ .tup l:=by rintro l rfl;simp [AV.fits]at h
theorem Zhv{T:TypeId}{a0 b0:Ty}{ps:List (Nat×Operand)}(hT:Zah P E)(ht:E.ty T=some (.prod a0 b0))(hF:Fr w g F a.tmps)(hp:Zb2 (fieldsOf (.prod a0 b0)) (ps.map (·.1))=true)
  (x:Bool) (hf: (Zco (Ty.data (.prod a0 b0) && !x) (ps.map fun p=>(p.1,aev F p.2)) (.prod a0 b0) 0).fits (.prod a0 b0)=true):
  ∃cells,P.built T (ps.map fun p=>(p.1,a.eval p.2))=some cells/\CVs w g (Zco (Ty.data (.prod a0 b0) && !x) (ps.map fun p=>(p.1,aev F p.2)) (.prod a0 b0) 0) cells.toList:=by
 obtain⟨fs,places,hu,hch,hpl,hplaces⟩:=ZgT hT ht;obtain⟨i,z,hi,_,_,hz,hzok,_⟩:=(hT.ty T _ ht).info;obtain⟨css,hcss,hfa⟩:=Zil (w:=w) (g:=g) x hch hzok;have hkeys:=ZbO hp;have hlens:css.map Vc=(Ty.prod a0 b0).parts.map Ty.size:=Zho hfa;have hn:css.length=(Ty.prod a0 b0).parts.length:=by have:=congrArg Vc hlens;grind
 have hav: ∀k y,(k,y)∈ps-> ∃t',(Ty.prod a0 b0).parts[k]? =some t' /\(aev F y).fits t' =true/\ps.lookup k=some y:=by
  intro k y hx;have hl:=Zcl hkeys.1 hx;have hk:=hkeys.2 k (by grind);rw[Zct]at hk;have h2:=Zcs (Ty.data (.prod a0 b0) && !x) (ps.map fun p=>(p.1,aev F p.2)) (.prod a0 b0) 0 k;rw[ZbD,Vg,hl,List.getElem?_eq_getElem hk]at h2;obtain⟨t',h3,h4⟩:=ZfN hf h2
  grind
 have hcv: ∀x t',(aev F x).fits t' =true->CV w g (aev F x) (a.eval x).cells.toList:=fun x t' hx=>((hF.eval x).to1 (ZlI hx)).1
 have hfill:=Zfc (place:=(places.toArray[·]?)) (lens:=(Ty.prod a0 b0).parts.map Ty.size) (by
  simp_all) (ps.map fun p=>(p.1,a.eval p.2)) css hlens (by
  intro p hp';obtain⟨q,hq,rfl⟩:=Vk.1 hp';obtain⟨t',h3,h4,_⟩:=hav q.1 q.2 hq;refine⟨t'.size,by grind, ?_⟩;have:=CV.length _ t' _ h4 (hcv q.2 t' h4);omega)
 refine⟨(ZcU css (ps.map fun p=>(p.1,a.eval p.2))).flatten.toArray, ?_, ?_⟩
 ·unfold Program.built;have hzc:z.cells=css.flatten.toArray:=by grind
  grind
 ·apply Zdo.2;refine⟨ZcU css (ps.map fun p=>(p.1,a.eval p.2)),rfl,Zhh ?_ ?_⟩
  ·rw[ZbS]
   have: ∀z (t:Ty) ps k,(Zco z ps t k).toL.length=t.parts.length:=by
    intro z t
    induction t with
    |prod a b _ ihb=>intro ps k;simp [Zco,AVs.toL,Ty.parts,ihb]
    |_=>intro ps k;rfl
   grind
  ·intro n v c hv hc;rw[Zcs,ZbD,Vg]at hv
   have hnl:n<css.length:=by
    grind
   rw[Zdk _ _ (by rw[Vs,hn, <-Zct];assumption) n hnl,ZbD]at hc
   cases hl:ps.lookup n with
   |none=>
    rw[hl]at hc hv;simp only[Vo,Vn]at hc hv;obtain⟨c',h1,h2⟩:=hfa.get n v (by grind)
    grind
   |some x=>
    grind
theorem ZbN{t:Ty}{ps:List (Nat×AV)} : ∀ {m k:Nat}{l:List (El t)},Zb9 t ps m k=some l->l.length=m/\ ∀j,(h:j<l.length)->(ps.lookup (k+j)).getD (.d t (zeroEl t))= .d t l[j]
 |0,k,l,h=>by
  simp only[Zb9,Option.some.injEq]at h
  grind
 |m+1,k,l,h=>by
  simp only[Zb9]at h;split at h
  ·rename_i t' x hx;simp only[Option.bind_eq_some_iff]at h;obtain⟨y,hy,l',hl,h⟩:=h;cases h;obtain⟨rfl,rfl⟩:=Zal hy;obtain⟨h1,h2⟩:=ZbN hl
   grind
  grind
theorem Zex{ps:List (Nat×Operand)} : ∀ {qs:List (Nat×AV)},Fa (fun p q=>q.1=p.1/\VR w g q.2 (a.eval p.2)) ps qs-> ∀k,(ps.lookup k=none/\qs.lookup k=none)\/ ∃x v,ps.lookup k=some x/\qs.lookup k=some v/\VR w g v (a.eval x):=by
 induction ps with
 |nil=>intro qs h k;cases qs with|nil=>simp|cons q qs=>exact h.elim
 |cons p ps ih=>
  intro qs h k
  cases qs with
  |nil=>exact h.elim
  |cons q qs=>
   obtain⟨⟨h1,h2⟩,h3⟩:=h
   grind
theorem ZfI(hF:Fr w g F a.tmps): ∀ps:List (Nat×Operand),Fa (fun p q=>q.1=p.1/\VR w g q.2 (a.eval p.2)) ps (ps.map fun p=>(p.1,aev F p.2))
 | []=>trivial
 |p::ps=>⟨⟨rfl,hF.eval p.2⟩,ZfI hF ps⟩
theorem Zf1{e:Ty}{ps:List (Nat×Operand)}{qs:List (Nat×AV)}{n:Nat}{l:List (El e)}{css:List (List Value)}(hq:Fa (fun p q=>q.1=p.1/\VR w g q.2 (a.eval p.2)) ps qs)(hp:Zb2 n (ps.map (·.1))=true)
  (hb:Zb9 e qs n 0=some l) (hfa:Fa (Rd w g.I e) (Vj n (zeroEl e)) css):
  ∃css',Vp (fun i=>some (i*e.size,e.size)) css.flatten.toArray (ps.map fun p=>(p.1,a.eval p.2))=some css'.flatten.toArray/\Fa (Rd w g.I e) l css' :=by
 obtain⟨hln,hget⟩:=ZbN hb;have hkeys:=ZbO hp;have hn:css.length=n:=by rw[<-hfa.length,Vi]
 have hlens:css.map Vc=Vj n e.size:=by apply List.eq_replicate_iff.2;refine⟨by grind, ?_⟩;intro c hc;obtain⟨d,hd,rfl⟩:=Vk.1 hc;exact Rd.all_length hfa d hd
 have hcv: ∀k x,ps.lookup k=some x->(hk:k<l.length)->Rd w g.I e l[k] (a.eval x).cells.toList:=by
  intro k x hx hk;have h1:=hget k hk;rw[Vg]at h1;rcases Zex hq k with ⟨h5,_⟩ | ⟨x',v',h5,h6,h2⟩
  ·grind
  rw[hx]at h5;cases h5;rw[h6]at h1;simp only[Option.getD_some]at h1;rw[h1]at h2;have h3:VR1 w g (.d e l[k]) (a.eval x):=h2;simpa only[CV] using h3.1
 obtain⟨h1,h2⟩:=Zfc (place:=fun i=>some (i*e.size,e.size)) (lens:=Vj n e.size) (by
  intro i hi;simp only[Vi]at hi
  simp [List.take_replicate,Nat.min_eq_left (Nat.le_of_lt hi)]) (ps.map fun p=>(p.1,a.eval p.2)) css hlens (by
  intro p hp';obtain⟨q,hq,rfl⟩:=Vk.1 hp';have hk:=hkeys.2 q.1 (by grind);refine⟨e.size,by grind, ?_⟩;have:=Rd.length _ _ _ (hcv q.1 q.2 (Zcl hkeys.1 hq) (by omega));omega)
 refine⟨_,h1,Zhh (by rw[ZbS,hln,hn]) ?_⟩;intro k x c hx hc;obtain⟨hk,rfl⟩:=Ve.1 hx;rw[Zdk _ _ (by rw[Vs,hn];assumption) k (by omega),ZbD]at hc
 cases hl:ps.lookup k with
 |none=>
  rw[hl]at hc;simp only[Vo]at hc;have h3:=hget k hk;rw[Vg]at h3
  have h6:qs.lookup k=none:=by
   rcases Zex hq k with ⟨_,h6⟩ | ⟨x',v',h5,_⟩
   all_goals grind
  rw[h6]at h3;simp only[Vn,AV.d.injEq,heq_eq_eq,true_and]at h3;obtain⟨c',h4,h5⟩:=hfa.get k (zeroEl e) (by grind)
  grind
 |some x=>
  grind
theorem Zfw{T:TypeId}{n:Nat}{t:Ty}(hT:Zah P E)(h:E.ty T=some (.arr n t)): ∃Et,P.underlying T=some (.array n Et)/\E.ty Et=some t:=by
 have hs:=(hT.ty T _ h).shape
 cases hu:P.underlying T with
 |none=>rw[hu]at hs;simp [Zaj]at hs
 |some d=>
  rw[hu]at hs
  cases d<;>simp [Zaj]at hs
  grind
end ops
end Tr
