/- Composite literals. Conditions: the table of types is the program's. -/
import Derived.Test.YtibiblkamaajeaaGreatTrP
open Array renaming getElem?_eq_getElem ->Vj
open Bool renaming and_eq_true ->Va,not_eq_true' ->Vr,and_true ->Vx
open Go.Instr renaming fill ->Vv
open List renaming getElem?_eq_some_iff ->Vb,map_cons ->Vc,mem_map ->Vd,lookup_cons ->Ve,length ->Vf,getElem?_eq_getElem ->Vh,getElem?_cons_succ ->Vi,length_set ->Vm,length_replicate ->Vo,replicate ->Vp,length_append ->Vq,nodup_cons ->Vt,map_take ->Vw,mem_cons ->Vy,map_map ->Vz
open Nat renaming zero_add ->Vl,le_of_ble_eq_true ->Vn
open Option renaming map_some ->Vg,getD_some ->Vk,getD_none ->Vs,map_none ->Vu
namespace Tr
open Go
theorem Zgn(off:Nat): ∀ (d:List Value) (k:Nat) (pre c post:List Value),c.length=d.length->pre.length=off+k->
  (d.zipIdx k).foldl (fun(cs:Array Value) x=>cs.setIfInBounds (off+x.2) x.1) (pre++c++post).toArray=(pre++d++post).toArray
 | [],k,pre,c,post,h,_=>by
  have:c=[]:=List.length_eq_zero_iff.1 h
  subst this;rfl
 |x::d,k,pre,c,post,h,hp=>by
  match c,h with
  |y::c,h=>
   simp only[List.zipIdx_cons,List.foldl_cons]
   have e: (pre++(y::c)++post).toArray.setIfInBounds (off+k) x=((pre++[x])++c++post).toArray:=by rw[<-hp];apply Array.toList_inj.1;simp
   rw[e,Zgn off d (k+1) (pre++[x]) c post (by simpa using h) (by simp;omega)];simp
def Zgr(css:List (List Value))(ps:List (Nat×Value)):List (List Value):=ps.foldl (fun css p=>css.set p.1 p.2.cells.toList) css
theorem ZkV{place:Nat->Option (Nat×Nat)}{lens:List Nat}(hp: ∀i,(h:i<lens.length)->place i=some ((lens.take i).sum,lens[i])): ∀ (ps:List (Nat×Value)) (css:List (List Value)),css.map Vf=lens->
  (∀p∈ps, ∃n,lens[p.1]? =some n/\p.2.cells.size=n)->Vv place css.flatten.toArray ps=some (Zgr css ps).flatten.toArray/\(Zgr css ps).map Vf=lens
 | [],css,hc,_=>⟨rfl,hc⟩
 | (i,v)::ps,css,hc,h=>by
  obtain⟨n,hn,hv⟩:=h (i,v) (by simp);simp only at hn hv;obtain⟨hi,rfl⟩:=Vb.1 hn;have hic:i<css.length:=by rw[<-hc]at hi;simpa using hi
  have hci:css[i].length=lens[i]:=by simp only[<-hc];simp
  have hsplit:css.flatten=(css.take i).flatten++css[i]++(css.drop (i+1)).flatten:=by
   calc css.flatten=(css.take i++css[i]::css.drop (i+1)).flatten:=by rw[<-List.drop_eq_getElem_cons hic,List.take_append_drop]
    _=_:=by simp only[List.flatten_append,List.flatten_cons,List.append_assoc]
  have hoff: (css.take i).flatten.length=(lens.take i).sum:=by rw[List.length_flatten,Vw,hc]
  have hset:css.set i v.cells.toList=css.take i++v.cells.toList::css.drop (i+1):=List.set_eq_take_append_cons_drop .. |>.trans (by rw[if_pos hic])
  have hmap: (css.set i v.cells.toList).map Vf=lens:=by
   rw[List.map_set,hc];apply List.ext_getElem?;intro j;rw[List.getElem?_set];split
   ·rename_i hj;subst hj;have:v.cells.toList.length=lens[i]:=by simpa using hv
    rw[this,Vh hi]
   ·rfl
  obtain⟨h1,h2⟩:=ZkV hp ps (css.set i v.cells.toList) hmap fun p hp' =>h p (by simp [hp']);refine⟨?_,h2⟩;unfold Vv;simp only[hp i hi];rw[if_neg]
  ·rw[<-Array.foldl_toList,Array.toList_zipIdx,hsplit];have:=Zgn (lens.take i).sum v.cells.toList 0 (css.take i).flatten css[i] (css.drop (i+1)).flatten (by rw[hci];simpa using hv.symm) hoff;have e:=this;rw[show (List.foldl (fun(cs:Array Value) (x:Value×Nat)=>cs.setIfInBounds ((List.take i lens).sum+x.2) x.1) ((css.take i).flatten++css[i]++(css.drop (i+1)).flatten).toArray (v.cells.toList.zipIdx))=_ from e];have: ((css.take i).flatten++v.cells.toList++(css.drop (i+1)).flatten)=(css.set i v.cells.toList).flatten:=by rw[hset];simp
   rw[this];exact h1
  ·have hlen:css.flatten.length=(lens.take i).sum+lens[i]+(css.drop (i+1)).flatten.length:=by rw[hsplit,Vq,Vq,hoff,hci]
   have hv' :v.cells.toList.length=lens[i]:=by simpa using hv
   rw[Bool.or_eq_true,decide_eq_true_eq,decide_eq_true_eq];rintro (hh|hh)
   ·exact hh hv'
   ·rw[hv,List.size_toArray,hlen]at hh;omega
theorem ZfR: ∀ (ps:List (Nat×Value)) (css:List (List Value)),ZdH css.length (ps.map (·.1))=true-> ∀j,j<css.length->
  (Zgr css ps)[j]? =(match ps.lookup j with|some v=>some v.cells.toList|none=>css[j]?)
 | [],css,_,j,_=>rfl
 | (i,v)::ps,css,h,j,hj=>by
  simp only[Vc,ZdH,Va,Vr]at h;have hi:=Vn h.1.1;have:=ZfR ps (css.set i v.cells.toList) (by rw[Vm];exact h.2) j (by rw[Vm];exact hj);show (Zgr (css.set i v.cells.toList) ps)[j]? =_;rw[this,Ve];by_cases hji:j=i
  ·subst hji
   have hn:ps.lookup j=none:=by rw[List.lookup_eq_none_iff];intro p hp;have h2: (ps.map (·.1)).contains j=false:=h.1.2;simp only[List.contains_eq_mem,decide_eq_false_iff_not,Vd,not_exists,not_and]at h2;have:=h2 p hp;simp only[bne_iff_ne,ne_eq];intro he;exact this he.symm
   rw[hn];simp [hj]
  ·have: (j==i)=false:=by simpa using hji
   rw[this];simp only;rw[List.getElem?_set_ne (by omega)]
theorem Zcu: ∀ (ps:List (Nat×Value)) (css:List (List Value)),(Zgr css ps).length=css.length
 | [],_=>rfl
 | (i,v)::ps,css=>by show (Zgr (css.set i v.cells.toList) ps).length=_;rw[Zcu ps,Vm]
section ops
variable {P:Program}{E:Env}{B:Zcq}{H:AH}{w:World}{g:Gh}{ow:Nat->Nat->Prop}{nid:Nat}{a:Act}{F:Nat->AV}{v:AV}{patch:Zbu}{rd:List Nat}{o:Oper}
def AVs.toL:AVs->List AV
 | .nil=>[]
 | .cons v l=>v::l.toL
theorem ZfU: ∀ {l:AVs}{cs:List Value},CVs w g l cs↔ ∃css,cs=css.flatten/\Fa (CV w g) l.toL css
 | .nil,cs=>by
  simp only[CVs,AVs.toL];constructor
  ·rintro rfl;exact⟨[],rfl,trivial⟩
  ·rintro ⟨css,rfl,h⟩
   match css,h with
   | [],_=>rfl
 | .cons v l,cs=>by
  simp only[CVs,AVs.toL];constructor
  ·rintro ⟨c1,c2,rfl,h1,h2⟩;obtain⟨css,rfl,h3⟩:=ZfU.1 h2;exact⟨c1::css,rfl,h1,h3⟩
  ·rintro ⟨css,rfl,h⟩
   match css,h with
   |c::css,⟨h1,h2⟩=>exact⟨c,css.flatten,rfl,h1,ZfU.2 ⟨css,rfl,h2⟩⟩
theorem Zo7: ∀ {l:AVs}{d:DV}{cs:List Value},Zjw l=some d->CVs w g l cs->Rd w g.I d.1 d.2 cs
 | .nil,d,cs,h,hc=>by
  simp only[Zjw,Option.some.injEq]at h
  subst h;simpa [CVs,Rd] using hc
 | .cons v l,d,cs,h,hc=>by
  simp only[CVs]at hc;obtain⟨c1,c2,rfl,h1,h2⟩:=hc
  cases v with
  |d t x=>
   simp only[Zjw]at h
   cases hm:Zjw l with
   |none=>rw[hm]at h;simp at h
   |some d' =>
    obtain⟨u,y⟩:=d';rw[hm]at h;simp only[Option.some.injEq]at h;subst h;simp only[Rd]
    exact⟨c1,c2,rfl,by simpa only[CV] using h1,Zo7 hm h2⟩
  |_=>simp [Zjw]at h
theorem ZqA{l:AVs}{cs:List Value}(h:CVs w g l cs):CV w g (ZiR l) cs/\(ZiR l).isAgg=true:=by
 unfold ZiR
 cases hm:Zjw l with
 |none=>exact⟨by simpa only[CV] using h,rfl⟩
 |some d=>
  refine⟨by simpa only[CV] using Zo7 hm h, ?_⟩
  cases l with
  |nil=>simp only[Zjw,Option.some.injEq]at hm;subst hm;rfl
  |cons v l=>
   cases v with
   |d t x=>
    simp only[Zjw]at hm;split at hm
    ·cases hm;rfl
    ·cases hm
   |_=>simp [Zjw]at hm
theorem Zqi: ∀ (t:Ty) (cs:List Value),t.chain=true->t.data=true->Rd w g.I t (ZbB t) cs->CVs w g (Zc1 true t) cs:=by
 intro t
 induction t with
 |prod a b _ ihb=>
  intro cs hc hd h;simp only[Ty.data,Va]at hd;simp only[Rd]at h;obtain⟨c1,c2,rfl,h1,h2⟩:=h;simp only[Zc1,CVs];refine⟨c1,c2,rfl, ?_,ihb c2 (by simpa [Ty.chain] using hc) hd.2 h2⟩;simp only[Zhu,hd.1,Bool.true_or,Vx,cond_true,CV]
  exact h1
 |unit=>
  intro cs _ _ h
  simpa [Zc1,CVs,Rd] using h
 |_=>intro cs hc;simp [Ty.chain]at hc
def Ty.parts:Ty->List Ty
 | .prod a b=>a::b.parts
 |_=>[]
theorem Zea: ∀t:Ty,fieldsOf t=t.parts.length
 | .prod a b=>by simp [fieldsOf,Ty.parts,Zea b]
 | .unit| .int _| .bool| .str| .sl _| .arr _ _| .ref=>rfl
theorem ZkD: ∀ (t:Ty) (n:Nat),t.chain=true->ZbF t [n]=(t.parts[n]?).map fun t' =>(((t.parts.take n).map Ty.size).sum,t'):=by
 intro t
 induction t with
 |prod a b _ ihb=>
  intro n hc;have hc:b.chain=true:=by simpa [Ty.chain] using hc
  cases n with
  |zero=>simp [ZbF,Ty.parts]
  |succ n=>
   simp only[ZbF,ihb n hc,Ty.parts,Vi,List.take_succ_cons,Vc,List.sum_cons]
   cases b.parts[n]? with
   |none=>rfl
   |some t' =>simp;omega
 |unit=>intro n _;simp [ZbF,Ty.parts]
 |_=>intro n hc;simp [Ty.chain]at hc
theorem ZgX(z:Bool): ∀t:Ty,(Zc1 z t).toL=t.parts.map (Zhu z)
 | .prod a b=>by simp only[Zc1,AVs.toL,Ty.parts,Vc,ZgX z b]
 | .unit| .int _| .bool| .str| .sl _| .arr _ _| .ref=>rfl
theorem Zd8(z:Bool)(ps:List (Nat×AV)): ∀ (t:Ty) (k n:Nat),(Zde z ps t k).toL[n]? =(t.parts[n]?).map fun t' =>(ps.lookup (k+n)).getD (Zhu z t')
 | .prod a b,k,n=>by
  cases n with
  |zero=>simp [Zde,AVs.toL,Ty.parts]
  |succ n=>
   simp only[Zde,AVs.toL,Ty.parts,Vi]
   rw[Zd8 z ps b (k+1) n,show k+1+n=k+(n+1) by omega]
 | .unit,_,_| .int _,_,_| .bool,_,_| .str,_,_| .sl _,_,_| .arr _ _,_,_| .ref,_,_=>rfl
theorem ZkA: ∀ {l:AVs}{t:Ty},l.fits t=true-> ∀ {n:Nat}{v:AV},l.toL[n]? =some v-> ∃t',t.parts[n]? =some t' /\v.fits t' =true
 | .nil,t,_,n,v,h=>by simp [AVs.toL]at h
 | .cons x l,t,hf,n,v,h=>by
  cases t with
  |prod a b=>
   simp only[AVs.fits,Va]at hf
   cases n with
   |zero=>simp only[AVs.toL,List.getElem?_cons_zero,Option.some.injEq]at h;subst h;exact⟨a,rfl,hf.1⟩
   |succ n=>simp only[AVs.toL,Vi]at h;exact ZkA hf.2 h
  |_=>simp [AVs.fits]at hf
theorem ZoT{α β:Type}{f:α->Option β}{g:α->β} : ∀ {l:List α},(∀x∈l,f x=some (g x))->l.mapM f=some (l.map g)
 | [],_=>rfl
 |x::l,h=>by rw[List.mapM_cons,h x (by simp),ZoT fun y hy=>h y (by simp [hy])];rfl
theorem Zlo{T:TypeId}{a0 b0:Ty}(hT:ZaB P E)(h:E.ty T=some (.prod a0 b0)): ∃fs places,P.underlying T=some (.struct fs)/\b0.chain=true/\
  fs.toList.mapM (fun f=>(P.info? f.type).map fun i=>(f.offset,i.size))=some places/\ ∀i t',(Ty.prod a0 b0).parts[i]? =some t' ->places[i]? =some ((((Ty.prod a0 b0).parts.take i).map Ty.size).sum,t'.size):=by
 have hs:=(hT.ty T _ h).shape
 cases hu:P.underlying T with
 |none=>rw[hu]at hs;simp [Zax]at hs
 |some d=>
  rw[hu]at hs
  cases d with
  |struct fs=>
   simp only[Zax,Va,List.all_eq_true,List.mem_range]at hs;obtain⟨⟨hall,hnone⟩,hch⟩:=hs;have hchain: (Ty.prod a0 b0).chain=true:=hch
   have hlen: (Ty.prod a0 b0).parts.length<=fs.size:=by rw[ZkD _ _ hchain]at hnone;simp only[Option.isNone_map,Option.isNone_iff_eq_none,List.getElem?_eq_none_iff]at hnone;exact hnone
   refine⟨fs,fs.toList.map fun f=>(f.offset,((E.ty f.type).map Ty.size).getD 0),rfl,hch,ZoT fun f hf=> ?_, ?_⟩
   ·obtain⟨i,hi,rfl⟩:=List.getElem_of_mem hf;have hi' :i<fs.size:=by simpa using hi
    have h1:=hall i hi';rw[Vj hi']at h1
    cases hp:ZbF (.prod a0 b0) [i] with
    |none=>rw[hp]at h1;simp at h1
    |some r=>
     rw[hp]at h1;simp only[Va,beq_iff_eq]at h1;obtain⟨i',z,hi',hsz,_⟩:=(hT.ty _ _ h1.1.2).info;simp only[Array.getElem_toList,hi',Vg,h1.1.2,Vk,hsz]
   ·intro i t' ht;have hi:i<fs.size:=Nat.lt_of_lt_of_le (Vb.1 ht).1 hlen;have h1:=hall i hi;rw[ZkD _ _ hchain,Vj hi,ht]at h1;simp only[Vg,Va,beq_iff_eq]at h1
    simp [hi,h1.1.1,h1.1.2]
  |_=>simp [Zax]at hs
theorem ZcI{α β γ:Type}[BEq α](f:β->γ)(k:α): ∀l:List (α×β),(l.map fun p=>(p.1,f p.2)).lookup k=(l.lookup k).map f
 | []=>rfl
 | (i,x)::l=>by
  simp only[Vc,Ve,ZcI f k l]
  cases k==i<;>rfl
theorem Zj3{α β:Type}[BEq α][LawfulBEq α]{k:α}{x:β} : ∀ {l:List (α×β)},l.lookup k=some x->(k,x)∈l
 | (i,y)::l,h=>by
  rw[Ve]at h
  cases hk:k==i with
  |true=>
   rw[hk]at h;simp only[Option.some.injEq]at h;subst h;rw[eq_of_beq hk]
   simp
  |false=>
   rw[hk]at h;exact List.mem_cons_of_mem _ (Zj3 h)
theorem ZdY{α β:Type}[BEq α][LawfulBEq α]{k:α}{x:β} : ∀ {l:List (α×β)},(l.map (·.1)).Nodup->(k,x)∈l->l.lookup k=some x
 | (i,y)::l,hn,h=>by
  simp only[Vc,Vt]at hn;rw[Ve];rcases Vy.1 h with h|h
  ·obtain⟨rfl,rfl⟩:=Prod.mk.inj h;simp
  ·have: (k==i)=false:=by rw[beq_eq_false_iff_ne];intro hki;exact hn.1 (hki▸Vd.2 ⟨(k,x),h,rfl⟩)
   rw[this];exact ZdY hn.2 h
theorem Zdf{n:Nat} : ∀ {l:List Nat},ZdH n l=true->l.Nodup/\ ∀i∈l,i<n
 | [],_=>⟨.nil,by simp⟩
 |i::l,h=>by
  simp only[ZdH,Va,Vr]at h;obtain⟨⟨h1,h2⟩,h3⟩:=h;obtain⟨h4,h5⟩:=Zdf h3;refine⟨Vt.2 ⟨by simpa using h2,h4⟩, ?_⟩;intro j hj;rcases Vy.1 hj with rfl|hj
  ·exact Vn h1
  ·exact h5 j hj
theorem Zqj(z:Bool)(t:Ty): (Zhu z t).fits t=true:=by
 unfold Zhu
 cases hd:t.data&& (z|| !t.isSl) with
 |true=>simp [AV.fits]
 |false=>cases t<;>simp [Zsa,AV.fits]
theorem Zn7{a0 b0:Ty}{cs:List Value}(x:Bool)(hch:b0.chain=true)(h:Zfx (.prod a0 b0) cs=true): ∃css,cs=css.flatten/\Fa (CV w g) ((Ty.prod a0 b0).parts.map (Zhu ((Ty.prod a0 b0).data&& !x))) css:=by
 rw[<-ZgX];apply ZfU.1
 cases x with
 |true=>rw[Bool.not_true,Bool.and_false];exact(Zip _ _ (ZoV hch h)).1
 |false=>
 rw[Bool.not_false,Vx];unfold Zfx at h
 cases hd: (Ty.prod a0 b0).data with
 |true=>
  rw[hd]at h
  exact Zqi _ _ hch hd (Zht _ _ h)
 |false=>
  rw[hd]at h;exact(Zip _ _ h).1
theorem Zm0{z:Bool} : ∀ {l:List Ty}{css:List (List Value)},Fa (CV w g) (l.map (Zhu z)) css->css.map Vf=l.map Ty.size
 | [],[],_=>rfl
 |t::l,c::css,⟨h1,h2⟩=>by rw[Vc,Vc,CV.length _ t c (Zqj z t) h1,Zm0 h2]
theorem ZtU{v:AV}{t:Ty}(h:v.fits t=true): ∀l,v≠ .tup l:=by rintro l rfl;simp [AV.fits]at h
theorem Zl9{T:TypeId}{a0 b0:Ty}{ps:List (Nat×Operand)}(hT:ZaB P E)(ht:E.ty T=some (.prod a0 b0))(hF:Fr w g F a.tmps)(hp:ZdH (fieldsOf (.prod a0 b0)) (ps.map (·.1))=true)
  (x:Bool) (hf: (Zde (Ty.data (.prod a0 b0) && !x) (ps.map fun p=>(p.1,aev F p.2)) (.prod a0 b0) 0).fits (.prod a0 b0)=true):
  ∃cells,P.built T (ps.map fun p=>(p.1,a.eval p.2))=some cells/\CVs w g (Zde (Ty.data (.prod a0 b0) && !x) (ps.map fun p=>(p.1,aev F p.2)) (.prod a0 b0) 0) cells.toList:=by
 obtain⟨fs,places,hu,hch,hpl,hplaces⟩:=Zlo hT ht;obtain⟨i,z,hi,_,_,hz,hzok,_⟩:=(hT.ty T _ ht).info;obtain⟨css,hcss,hfa⟩:=Zn7 (w:=w) (g:=g) x hch hzok;have hkeys:=Zdf hp;have hlens:css.map Vf=(Ty.prod a0 b0).parts.map Ty.size:=Zm0 hfa;have hn:css.length=(Ty.prod a0 b0).parts.length:=by have:=congrArg Vf hlens;simpa using this
 have hav: ∀k y,(k,y)∈ps-> ∃t',(Ty.prod a0 b0).parts[k]? =some t' /\(aev F y).fits t' =true/\ps.lookup k=some y:=by intro k y hx;have hl:=ZdY hkeys.1 hx;have hk:=hkeys.2 k (Vd.2 ⟨_,hx,rfl⟩);rw[Zea]at hk;have h2:=Zd8 (Ty.data (.prod a0 b0) && !x) (ps.map fun p=>(p.1,aev F p.2)) (.prod a0 b0) 0 k;rw[ZcI,Vl,hl,Vh hk]at h2;obtain⟨t',h3,h4⟩:=ZkA hf h2;exact⟨t',h3,h4,hl⟩
 have hcv: ∀x t',(aev F x).fits t' =true->CV w g (aev F x) (a.eval x).cells.toList:=fun x t' hx=>((hF.eval x).to1 (ZtU hx)).1
 have hfill:=ZkV (place:=(places.toArray[·]?)) (lens:=(Ty.prod a0 b0).parts.map Ty.size) (by
  intro i hi;have hi' :i< (Ty.prod a0 b0).parts.length:=by simpa using hi
  have:=hplaces i _ (Vh hi')
  simpa [Vw] using this) (ps.map fun p=>(p.1,a.eval p.2)) css hlens (by
  intro p hp';obtain⟨q,hq,rfl⟩:=Vd.1 hp';obtain⟨t',h3,h4,_⟩:=hav q.1 q.2 hq;refine⟨t'.size,by simp [h3], ?_⟩;have:=CV.length _ t' _ h4 (hcv q.2 t' h4);simpa using this)
 refine⟨(Zgr css (ps.map fun p=>(p.1,a.eval p.2))).flatten.toArray, ?_, ?_⟩
 ·unfold Program.built;have hzc:z.cells=css.flatten.toArray:=by rw[<-hcss]
  simp only[hi,hu,hz,hpl,hzc];exact hfill.1
 ·apply ZfU.2;refine⟨Zgr css (ps.map fun p=>(p.1,a.eval p.2)),rfl,Zmf ?_ ?_⟩
  ·rw[Zcu]
   have: ∀z (t:Ty) ps k,(Zde z ps t k).toL.length=t.parts.length:=by
    intro z t
    induction t with
    |prod a b _ ihb=>intro ps k;simp [Zde,AVs.toL,Ty.parts,ihb]
    |_=>intro ps k;rfl
   rw[this,hn]
  ·intro n v c hv hc;rw[Zd8,ZcI,Vl]at hv
   have hnl:n<css.length:=by
    have:=(Vb.1 hc).1
    rwa [Zcu]at this
   rw[ZfR _ _ (by rw[Vz,hn, <-Zea];exact hp) n hnl,ZcI]at hc
   cases hl:ps.lookup n with
   |none=>
    rw[hl]at hc hv;simp only[Vu,Vs]at hc hv;obtain⟨c',h1,h2⟩:=hfa.get n v (by simpa using hv);rw[h1]at hc;cases hc
    exact h2
   |some x=>
    rw[hl]at hc hv;simp only[Vg,Vk,Option.some.injEq]at hc hv;obtain⟨t',h3,h4,_⟩:=hav n x (Zj3 hl);rw[h3]at hv;simp only[Vg,Option.some.injEq]at hv;subst hv;subst hc;exact hcv x t' h4
theorem Zdg{t:Ty}{ps:List (Nat×AV)} : ∀ {m k:Nat}{l:List (El t)},ZdK t ps m k=some l->l.length=m/\ ∀j,(h:j<l.length)->(ps.lookup (k+j)).getD (.d t (ZbB t))= .d t l[j]
 |0,k,l,h=>by
  simp only[ZdK,Option.some.injEq]at h;subst h
  exact⟨rfl,by simp⟩
 |m+1,k,l,h=>by
  simp only[ZdK]at h;split at h
  ·rename_i t' x hx;simp only[Option.bind_eq_some_iff]at h;obtain⟨y,hy,l',hl,h⟩:=h;cases h;obtain⟨rfl,rfl⟩:=ZaA hy;obtain⟨h1,h2⟩:=Zdg hl;refine⟨by simp [h1],fun j hj=> ?_⟩
   cases j with
   |zero=>simpa using hx
   |succ j=>
    have:=h2 j (by simpa using hj);rw[show k+(j+1)=k+1+j by omega,this];simp
  ·cases h
theorem Zib{ps:List (Nat×Operand)} : ∀ {qs:List (Nat×AV)},Fa (fun p q=>q.1=p.1/\VR w g q.2 (a.eval p.2)) ps qs-> ∀k,(ps.lookup k=none/\qs.lookup k=none)\/ ∃x v,ps.lookup k=some x/\qs.lookup k=some v/\VR w g v (a.eval x):=by
 induction ps with
 |nil=>intro qs h k;cases qs with|nil=>exact .inl ⟨rfl,rfl⟩ |cons q qs=>exact h.elim
 |cons p ps ih=>
  intro qs h k
  cases qs with
  |nil=>exact h.elim
  |cons q qs=>
   obtain⟨⟨h1,h2⟩,h3⟩:=h;obtain⟨i,x⟩:=p;obtain⟨j,v⟩:=q;simp only at h1 h2;subst h1;simp only[Ve]
   cases hb:k==j with
   |true=>exact .inr ⟨x,v,rfl,rfl,h2⟩
   |false=>exact ih h3 k
theorem ZkC(hF:Fr w g F a.tmps): ∀ps:List (Nat×Operand),Fa (fun p q=>q.1=p.1/\VR w g q.2 (a.eval p.2)) ps (ps.map fun p=>(p.1,aev F p.2))
 | []=>trivial
 |p::ps=>⟨⟨rfl,hF.eval p.2⟩,ZkC hF ps⟩
theorem ZkB{e:Ty}{ps:List (Nat×Operand)}{qs:List (Nat×AV)}{n:Nat}{l:List (El e)}{css:List (List Value)}(hq:Fa (fun p q=>q.1=p.1/\VR w g q.2 (a.eval p.2)) ps qs)(hp:ZdH n (ps.map (·.1))=true)
  (hb:ZdK e qs n 0=some l) (hfa:Fa (Rd w g.I e) (Vp n (ZbB e)) css):
  ∃css',Vv (fun i=>some (i*e.size,e.size)) css.flatten.toArray (ps.map fun p=>(p.1,a.eval p.2))=some css'.flatten.toArray/\Fa (Rd w g.I e) l css' :=by
 obtain⟨hln,hget⟩:=Zdg hb;have hkeys:=Zdf hp;have hn:css.length=n:=by rw[<-hfa.length,Vo]
 have hlens:css.map Vf=Vp n e.size:=by apply List.eq_replicate_iff.2;refine⟨by rw[List.length_map,hn], ?_⟩;intro c hc;obtain⟨d,hd,rfl⟩:=Vd.1 hc;exact Rd.all_length hfa d hd
 have hcv: ∀k x,ps.lookup k=some x->(hk:k<l.length)->Rd w g.I e l[k] (a.eval x).cells.toList:=by
  intro k x hx hk;have h1:=hget k hk;rw[Vl]at h1;rcases Zib hq k with ⟨h5,_⟩ | ⟨x',v',h5,h6,h2⟩
  ·rw[hx]at h5;cases h5
  rw[hx]at h5;cases h5;rw[h6]at h1;simp only[Vk]at h1;rw[h1]at h2;have h3:VR1 w g (.d e l[k]) (a.eval x):=h2;simpa only[CV] using h3.1
 obtain⟨h1,h2⟩:=ZkV (place:=fun i=>some (i*e.size,e.size)) (lens:=Vp n e.size) (by
  intro i hi;simp only[Vo]at hi
  simp [List.take_replicate,Nat.min_eq_left (Nat.le_of_lt hi)]) (ps.map fun p=>(p.1,a.eval p.2)) css hlens (by
  intro p hp';obtain⟨q,hq,rfl⟩:=Vd.1 hp';have hk:=hkeys.2 q.1 (Vd.2 ⟨q,hq,rfl⟩);refine⟨e.size,by simp [hk], ?_⟩;have:=Rd.length _ _ _ (hcv q.1 q.2 (ZdY hkeys.1 hq) (by omega));simpa using this)
 refine⟨_,h1,Zmf (by rw[Zcu,hln,hn]) ?_⟩;intro k x c hx hc;obtain⟨hk,rfl⟩:=Vb.1 hx;rw[ZfR _ _ (by rw[Vz,hn];exact hp) k (by omega),ZcI]at hc
 cases hl:ps.lookup k with
 |none=>
  rw[hl]at hc;simp only[Vu]at hc;have h3:=hget k hk;rw[Vl]at h3
  have h6:qs.lookup k=none:=by
   rcases Zib hq k with ⟨_,h6⟩ | ⟨x',v',h5,_⟩
   ·exact h6
   ·rw[hl]at h5;cases h5
  rw[h6]at h3;simp only[Vs,AV.d.injEq,heq_eq_eq,true_and]at h3;obtain⟨c',h4,h5⟩:=hfa.get k (ZbB e) (by rw[List.getElem?_replicate,if_pos (by omega)]);rw[h4]at hc;cases hc
  rw[<-h3];exact h5
 |some x=>
  rw[hl]at hc;simp only[Vg,Option.some.injEq]at hc;subst hc;exact hcv k x hl hk
theorem Zor{T:TypeId}{n:Nat}{t:Ty}(hT:ZaB P E)(h:E.ty T=some (.arr n t)): ∃Et,P.underlying T=some (.array n Et)/\E.ty Et=some t:=by
 have hs:=(hT.ty T _ h).shape
 cases hu:P.underlying T with
 |none=>rw[hu]at hs;simp [Zax]at hs
 |some d=>
  rw[hu]at hs
  cases d<;>simp [Zax]at hs
  obtain⟨rfl,hs⟩:=hs;exact⟨_,rfl,hs⟩
end ops
end Tr
