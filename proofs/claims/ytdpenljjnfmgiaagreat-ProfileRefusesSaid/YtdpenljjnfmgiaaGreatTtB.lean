/- slices.SortFunc by the kit's contract, as a spec of the abstract machine: what it leaves is the sorted order, where the comparator tells the elements apart. Conditions: the program bears the library's texts (the laying), and the comparator's spec is true. -/
import Derived.Shelf.SlSortCmp.NoneTotal
import Derived.Test.YtdpenljjnfmgiaaGreatTsE
import Derived.Test.YtdpenljjnfmgiaaGreatTtA
open Array renaming getElem?_toList ->Va,getElem?_append_left ->Vb,getElem?_eq_getElem ->Vc,getElem?_modify ->Vd,length_toList ->Vk
open List renaming pairwise_iff_getElem ->Ve,getElem?_eq_none ->Vf,attach_map_subtype_val ->Vg,getElem?_append_left ->Vi,getElem?_eq_getElem ->Vj,ext_getElem? ->Vl,getElem_mem ->Vn,perm_nil ->Vo,mem_map ->Vp,map_map ->Vq
open Nat renaming zero_le ->Vm
open Go.Value renaming cells ->Vh
namespace Tr
open Go Go.Proofs Go.Shelf
abbrev ZrQ(T:Ty):Za5:= .cons (.pd T) (.cons (.pd T) .nil)
abbrev Zr1:Za5:= .cons (.pd (.int .i64)) .nil
def Zjq(T:Ty)(cmp:El T->El T->Option Int):Spec:= {args:=ZrQ T,res:=Zr1,fns:=[],α:=Int,f:=fun x=>cmp x.1 x.2.1,unp:=fun z=>(((),(),()),(z,())) }
def ZeD(T:Ty)(g:FuncId)(f:List (El T)->Option (List (El T))):Spec:= {args:= .cons (.own T true) (.cons (.fn g .nil) .nil),res:= .nil,fns:=[g],α:=List (El T),f:=fun x=>f x.1,unp:=fun z=>((z,(),()),()) }
def ZoA(T:Ty)(g:FuncId)(cmp:El T->El T->Option Int):Spec:=ZeD T g (sortF cmp)
theorem Zj2{w w' :World}(hos:w'.os=w.os)(htape:w'.tape=w.tape)(hout:Zjn w' w)(hsz:w.heap.size<=w'.heap.size)(hheap: ∀b,b<w.heap.size->w'.heap[b]? =w.heap[b]?):
  w' =Sort.grow (w.drewN (w'.drawn - w.drawn)) (w'.heap.extract w.heap.size w'.heap.size):=by
 obtain⟨ho,hd⟩:=hout;obtain⟨h,t,d,o,p⟩:=w;obtain⟨h',t',d',o',p'⟩:=w';simp only at hos htape hsz hheap ho hd;subst hos htape ho;unfold Sort.grow World.drewN;simp only[World.mk.injEq,true_and,and_true];refine⟨?_,by omega⟩;apply Array.ext_getElem?;intro k;rw[Array.getElem?_append];split
 ·rename_i hk;exact hheap k hk
 ·rename_i hk;rw[Array.getElem?_extract];by_cases hk2:k<h'.size
  ·rw[if_pos (by omega),show h.size+(k - h.size)=k by omega]
  ·rw[if_neg (by omega)];simp;omega
theorem Zg7{α:Type}[Inhabited α]{enc:α->List Value}{k:Nat}(hk: ∀x,(enc x).length=k)(d:Array α): (Sort.flatK enc k d).toList=(d.toList.map enc).flatten:=by
 apply Vl;intro t
 have hl: ∀c∈d.toList.map enc,c.length=k:=by intro c hc;obtain⟨x,_,rfl⟩:=Vp.1 hc;exact hk x
 have hfl:=Zap hl;simp only[List.length_map,Vk]at hfl;by_cases ht:t<d.size*k
 ·have hk0:0<k:=Nat.pos_of_ne_zero fun h=>by subst h;simp at ht
  have hq:t / k<d.size:=by rw[Nat.div_lt_iff_lt_mul hk0];exact ht
  have hr:t % k<k:=Nat.mod_lt _ hk0
  have hc: (d.toList.map enc)[t / k]? =some (enc d[t / k]!):=by rw[List.getElem?_map,Va,Vc hq,getElem!_pos d _ hq];rfl
  obtain⟨s1,s2,_⟩:=Za7 hc k hl
  have e:t=((d.toList.map enc).take (t / k)).flatten.length+t % k:=by rw[s2];have:=Nat.div_add_mod t k;rw[Nat.mul_comm]at this;omega
  rw[Va,Vc (by simpa using ht), <-getElem!_pos (Sort.flatK enc k d) t (by simpa using ht),Sort.get_flatK _ _ _ _ ht,s1,List.append_assoc];rw[List.getElem?_append_right (by omega),show t - ((d.toList.map enc).take (t / k)).flatten.length=t % k by omega,Vi (by rw[hk];exact hr)];rw[Vj (by rw[hk];exact hr),getElem!_pos _ _ (by rw[hk];exact hr)]
 ·rw[Vf (by simpa using ht),Vf (by omega)]
theorem ZnG{w:World}{I:Nat->Prop}{T:Ty}{α:Type}{f:α->El T}{e:α->List Value}(h: ∀p,Rd w I T (f p) (e p)): ∀l:List α,Fa (Rd w I T) (l.map f) (l.map e)
 | []=>trivial
 |p::l=>⟨h p,ZnG h l⟩
theorem Zo7{w:World}{I:Nat->Prop}{T:Ty} : ∀ {xs:List (El T)}{css:List (List Value)},Fa (Rd w I T) xs css-> ∀p∈xs.zip css,Rd w I T p.1 p.2
 | [],[],_,p,h=>by simp at h
 |x::xs,c::css,⟨h1,h2⟩,p,h=>by
  rw[List.zip_cons_cons]at h;rcases List.mem_cons.1 h with rfl|h
  ·exact h1
  ·exact Zo7 h2 p h
section
variable {P:Program}{ρ:Ren}
theorem Zk5(L:SlLaysF0.n6 P ρ)(p:Option Addr)(cap:Nat)(fv:Value)(w:World):Calls P (ρ.f 6) #[.slice p 0 cap,fv] w fun e w' =>e= .returned (.tuple #[])/\w' =w:=AnyF.slices_SortFunc_none L p cap fv w
theorem Zl2{T:Ty}{g:FuncId}{cmp:El T->El T->Option Int}(hT:T.agg=true)(hg:ZaF P g (Zjq T cmp)){w:World}{I:Nat->Prop}(hI: ∀b,I b->b<w.heap.size){x y:El T}{cx cy:List Value}(hx:Rd w I T x cx)(hy:Rd w I T y cy){z:Int}(hz:cmp x y=some z):
  Calls P g #[.agg cx.toArray, .agg cy.toArray] w fun e w' =>e= .returned (.int .i64 z)/\ ∃q os',w' =Sort.grow (w.drewN q) os' :=by
 refine(hg.run w I [.agg cx.toArray, .agg cy.toArray] [] (x,y,()) z ⟨[],[],_,_,rfl,rfl,⟨⟨rfl,by simpa [Vh] using hx⟩, .inr (by rw[show (Pat.pd T).isAgg=T.agg from rfl,hT];rfl)⟩,[],[],_,_,rfl,rfl,⟨⟨rfl,by simpa [Vh] using hy⟩, .inr (by rw[show (Pat.pd T).isAgg=T.agg from rfl,hT];rfl)⟩,rfl,rfl⟩ .nil (by simp) hI (fun h=>by cases h) hz).mono ?_;rintro e w' ⟨rv,rfl,I',jo,jr,_,⟨vs,hpv,rfl⟩,_,_,_,_,hos,htape,hout,hsz,hheap⟩;obtain⟨j1,j2,v,r,_,rfl,⟨hc,ha⟩,_,rfl⟩:=hpv;refine⟨?_,_,_,Zj2 hos htape ⟨hout.out,hout.drawn rfl⟩ hsz fun b hb=>hheap b hb (by simp)⟩;have h1:v.cells.toList=[.int .i64 z]:=hc.2;have h2:Zav v=false:=ha.resolve_left fun h=>by cases h
 rw[Zal h1 h2];rfl
theorem Zli{T:Ty}{g:FuncId}{cmp:El T->El T->Option Int}{f:List (El T)->Option (List (El T))}(hf: ∀xs z,f xs=some z->xs.length<4294967296/\z.Perm xs/\Zo3 cmp z)(L:SlLaysF0.n6 P ρ)(hT:T.agg=true)(aE: ∀w,(isAgg (ρ.t 24)).run P w= .ok true w)(zE: ∀w,(Go.sizeOf (ρ.t 24)).run P w= .ok T.size w)(hg:ZaF P g (Zjq T cmp)):
  ZaF P (ρ.f 6) (ZeD T g f) where
 wf:=rfl
 fn:=by obtain⟨nm,h1,h2⟩:=L.f6;exact⟨_,h2,rfl,h1⟩
 run:=by
  intro w I vals js x (z:List (El T)) hpv hnd hfree hI _ hz;obtain⟨j1,j2,v,r,rfl,rfl,⟨hpc,hag⟩,j3,j4,v2,r2,rfl,rfl,⟨hpc2,hag2⟩,rfl,rfl⟩:=hpv;obtain⟨cc,hcc,rfl,rfl⟩:=hpc2;have hv2:v2= .func (.func g) #[] #[]:=Zal hcc (hag2.resolve_left fun h=>by cases h);subst hv2;have hagv:Zav v=false:=hag.resolve_left fun h=>by cases h
  obtain⟨hlen,hperm,rk,hrk,hinj,hsrt⟩:=hf x.1 z hz
  have back: ∀ {w' :World}{rv:Value},rv= .tuple #[]->PC w' I (.own T true) z j1 v.cells.toList->(∀b,I b->b<w'.heap.size)->w'.os=w.os->w'.tape=w.tape->Zjn w' w->w.heap.size<=w'.heap.size->(∀b,b<w.heap.size->b ∉ j1->w'.heap[b]? =w.heap[b]?)->
    Zpc (ZeD T g f) w I (j1++[]) [v, .func (.func g) #[] #[]] ((ZeD T g f).unp z) rv w' :=by
   intro w' rv hrv hpc' hI' h1 h2 h3 h4 h5;refine⟨I,j1++[],[],⟨j1,[],_,_,rfl,rfl,hpc',[],[],_,_,rfl,rfl,⟨[],by simp [Vh],rfl⟩,rfl⟩,⟨[],⟨rfl,rfl⟩,hrv⟩,by simpa using hnd,fun b hb=> ?_,fun _ h=>h,fun b hb=>⟨hI' b hb, .inl hb⟩,h1,h2,⟨h3.out,fun _=>h3.drawn⟩,h4,fun b hb hj=>h5 b hb (by simpa using hj)⟩;have hb' :b∈j1++[]:=by simpa using hb
   exact⟨(hfree b (by simpa using hb')).1,by have:=(hfree b (by simpa using hb')).2;omega, .inl (by simpa using hb')⟩
  rcases hpc with ⟨rfl,hx,hc⟩ | ⟨b,cap,cells,e,css,rfl,hc,hh,hcap,hsz,hfa,rest,hrest⟩
  ·have hv:v= .slice none 0 0:=Zal hc hagv;have hze:z=[]:=by rw[hx]at hperm;exact Vo.1 hperm
   subst hv;refine(Zk5 L none 0 _ w).mono ?_;rintro e w' ⟨rfl,rfl⟩;exact⟨_,rfl,back rfl (.inl ⟨rfl,hze,rfl⟩) hI rfl rfl .rfl (Nat.le_refl _) fun _ _ _=>rfl⟩
  have hv:v= .slice (some ⟨b,0,none⟩) x.1.length cap:=Zal hc hagv;subst hv;by_cases hne:x.1=[]
  ·have hze:z=[]:=by rw[hne]at hperm;exact Vo.1 hperm
   have h0:x.1.length=0:=by rw[hne];rfl
   rw[h0];refine(Zk5 L _ cap _ w).mono ?_;rintro e' w' ⟨rfl,rfl⟩;refine⟨_,rfl, ?_⟩;have:=back (w' :=w') (rv:= .tuple #[]) rfl (.inr ⟨b,cap,cells,e,[],rfl,by rw[hze];simp [Vh,h0],hh,by rw[hze];exact Vm _,hsz,by rw[hze];trivial,List.nil_prefix⟩) hI rfl rfl .rfl (Nat.le_refl _) fun _ _ _=>rfl;rw[h0]at this;exact this
  have hb:=hfree b (by simp);have hlen2:x.1.length=css.length:=hfa.length;have hzip1: (x.1.zip css).map Prod.fst=x.1:=List.map_fst_zip (by omega);have hzip2: (x.1.zip css).map Prod.snd=css:=List.map_snd_zip (by omega);have hrd:=Zo7 hfa;have hmem: ∀p∈x.1.zip css,p.1∈z:=fun p hp=>hperm.mem_iff.2 (by rw[<-hzip1];exact Vp.2 ⟨p,hp,rfl⟩)
  let α:= {p:El T×List Value // p∈x.1.zip css}
  have hne2:x.1.zip css≠ []:=by intro h0;rw[h0]at hzip1;exact hne hzip1.symm
  obtain⟨p0,hp0⟩:=List.exists_mem_of_ne_nil _ hne2
  letI:Inhabited α:=⟨⟨p0,hp0⟩⟩
  let enc:α->List Value:=fun p=>p.1.2
  let cf:α->α->Int:=fun p q=>(cmp p.1.1 q.1.1).getD 0
  let ix:α->Nat:=fun p=>rk p.1.1
  have hat: ∀p q:α, ∃c,cmp p.1.1 q.1.1=some c/\(c<0↔ix p<ix q):=fun p q=>hrk _ (hmem p.1 p.2) _ (hmem q.1 q.2)
  have hlt: ∀p q:α,ltOf cf p q=decide (ix p<ix q):=fun p q=>by
   obtain⟨c,h1,h2⟩:=hat p q;show decide ((cmp p.1.1 q.1.1).getD 0<0)=_;rw[h1];show decide (c<0)=_;by_cases h:c<0
   ·rw[decide_eq_true h,decide_eq_true (h2.1 h)]
   ·rw[decide_eq_false h,decide_eq_false fun h3=>h (h2.2 h3)]
  have hO:Go.Sort.SWO (ltOf cf):=by
   refine⟨fun p=> ?_,fun p q r h1 h2=> ?_,fun p q r h1 h2=> ?_⟩
   ·rw[hlt];simp
   ·rw[hlt]at*;simp at*;omega
   ·rw[hlt]at*;simp at*;omega
  have hk: ∀p:α,(enc p).length=T.size:=fun p=>Rd.length T _ _ (hrd p.1 p.2);have h1: ∀p:α, ∀v∈enc p,v.oneCell' =true:=fun p=>Rd.oneCell T _ _ (hrd p.1 p.2)
  let d:Array α:=((x.1.zip css).attach).toArray
  have hdl:d.toList=(x.1.zip css).attach:=by simp [d]
  have hds:d.size=x.1.length:=by
   have:d.toList.length=x.1.length:=by rw[hdl,List.length_attach,List.length_zip];omega
   simpa using this
  have hde:d.toList.map enc=css:=by
   rw[hdl];have: (x.1.zip css).attach.map enc=((x.1.zip css).attach.map Subtype.val).map Prod.snd:=by rw[Vq];rfl
   rw[this,Vg,hzip2]
  have hcs:cells.toList=css.flatten++rest:=hrest.symm;have hflat: (Go.Sort.flatK enc T.size d).toList=css.flatten:=by rw[Zg7 hk,hde]
  have hfsz:css.flatten.length=x.1.length*T.size:=by rw[Zap (Rd.all_length hfa),hlen2]
  have hblk:b<w.heap.size:=hb.2
  have hH:Go.Sort.HoldsK enc T.size w b 0 d:=by
   intro j hj;rw[Go.Sort.size_flatK,hds]at hj;have hjl:j<css.flatten.length:=by omega
   constructor
   ·have h2: (Go.Sort.flatK enc T.size d)[j]! =css.flatten[j]:=by
     rw[getElem!_pos _ j (by rw[Go.Sort.size_flatK,hds];exact hj)];have h3: (Go.Sort.flatK enc T.size d).toList[j]'(by rw[hflat];exact hjl)=css.flatten[j]:=by simp only[hflat]
     simpa using h3
    rw[h2]
    have h4:cells[j]? =some css.flatten[j]:=by rw[<-Va,hcs,Vi hjl,Vj hjl]
    simp only[World.cell?,hh,Nat.zero_add,Option.isSome_none,Bool.false_eq_true,if_false,h4,id]
   ·simp [World.frozen?,hh]
  have hcmp:CmpLays P g #[] enc T.size cf b 0 d.size w:=by
   intro m os dk hdk p q;obtain⟨c,hc1,_⟩:=hat p q
   have hpres: ∀b',I b' ->(sortWorldK enc T.size w b 0 m dk os).heap[b']? =w.heap[b']? :=by intro b' hb';have hne' :b' ≠b:=fun h=>hb.1 (h▸hb');have hlt' :=hI b' hb';unfold sortWorldK Go.Sort.putRowK Go.Sort.putRow Go.Sort.mapBlock Go.Sort.grow;simp only;rw[Vb (by simp;exact hlt'),Vd,if_neg (Ne.symm hne')];rfl
   have hag' :ZaV I w (sortWorldK enc T.size w b 0 m dk os):=fun b' hb' =>hpres b' hb';have hszW:w.heap.size<=(sortWorldK enc T.size w b 0 m dk os).heap.size:=size_sortWorldK_c enc T.size w b 0 m dk os;have:=Zl2 hT hg (w:=sortWorldK enc T.size w b 0 m dk os) (I:=I) (fun b' hb' =>by have:=hI b' hb';omega) (Rd.mono hag' (fun _ h=>h) _ _ _ (hrd p.1 p.2)) (Rd.mono hag' (fun _ h=>h) _ _ _ (hrd q.1 q.2)) hc1;have hcv:cf p q=c:=by show (cmp p.1.1 q.1.1).getD 0=c;rw[hc1];rfl
   rw[hcv];exact this
  have hcon:=AnyQ.slices_SortFunc L T.size aE zE enc hk h1 cf hO g #[] b 0 cap d w (Zi3 hg · ·) hcmp hH hblk (by rw[hds];omega);rw[hds]at hcon;refine hcon.mono ?_;rintro ex w' ⟨rfl,d',n,os,hp,hs,rfl⟩;have hd's:d'.size=x.1.length:=hp.1.trans hds
  have hperm' :d'.toList.Perm d.toList:=by
   have h2:=hp.2.2;rw[<-hds]at h2;have e1:d.extract 0 d.size=d:=by simp
   have e2:d'.extract 0 d.size=d' :=by rw[<-hp.1];simp
   rw[e1,e2]at h2;exact h2
  have hpz: (d'.toList.map fun p=>p.1.1).Perm z:=by
   refine(hperm'.map _).trans ?_;rw[hdl];have: (x.1.zip css).attach.map (fun p:α=>p.1.1)=((x.1.zip css).attach.map Subtype.val).map Prod.fst:=by rw[Vq];rfl
   rw[this,Vg,hzip1];exact hperm.symm
  have hz' : (d'.toList.map fun p=>p.1.1)=z:=by
   refine List.Perm.eq_of_pairwise (le:=fun a c=> ¬ ((cmp c a).getD 0<0)) (fun a c ha hc h3 h4=> ?_) ?_ ?_ hpz
   ·have ha' :=hpz.mem_iff.1 ha;obtain⟨c1,e1,f1⟩:=hrk a ha' c hc;obtain⟨c2,e2,f2⟩:=hrk c hc a ha';rw[e2]at h3;rw[e1]at h4;refine hinj a ha' c hc ?_;simp only[Option.getD_some]at h3 h4;omega
   ·rw[List.pairwise_map,Ve];intro i j hi hj hij;have h5:j<d'.size:=by simpa using hj
    have:=hs i j (Vm _) hij (by omega);have hi' :i<d'.size:=by simpa using hi
    have hj' :j<d'.size:=by simpa using hj
    rw[getElem!_pos d' j hj',getElem!_pos d' i hi']at this;have h6: ¬cf d'[j] d'[i]<0:=of_decide_eq_false this;simpa using h6
   ·rw[Ve];intro i j hi hj hij;obtain⟨c2,e2,f2⟩:=hrk _ (Vn hj) _ (Vn hi);have h7:=Ve.1 hsrt i j hi hj hij;rw[e2];show¬c2<0;omega
  have hcss' :=ZnG (w:=w) (I:=I) (T:=T) (f:=fun p:α=>p.1.1) (e:=enc) (fun p=>hrd p.1 p.2) d'.toList;rw[hz']at hcss'
  have hag2:ZaV I w (sortWorldK enc T.size w b 0 n d' os):=by intro b' hb';have hne' :b' ≠b:=fun h=>hb.1 (h▸hb');have hlt' :=hI b' hb';unfold sortWorldK Go.Sort.putRowK Go.Sort.putRow Go.Sort.mapBlock Go.Sort.grow;simp only;rw[Vb (by simp;exact hlt'),Vd,if_neg (Ne.symm hne')];rfl
  have hszW:w.heap.size<=(sortWorldK enc T.size w b 0 n d' os).heap.size:=size_sortWorldK_c enc T.size w b 0 n d' os
  have hother: ∀b',b' <w.heap.size->b' ∉ [b]->(sortWorldK enc T.size w b 0 n d' os).heap[b']? =w.heap[b']? :=by
   intro b' hlt' hb';have hne' :b' ≠b:=by simpa using hb'
   unfold sortWorldK Go.Sort.putRowK Go.Sort.putRow Go.Sort.mapBlock Go.Sort.grow;simp only;rw[Vb (by simp;exact hlt'),Vd,if_neg (Ne.symm hne')];rfl
  have hcell: (sortWorldK enc T.size w b 0 n d' os).heap[b]? =some (.cells (Go.Sort.putCells id 0 (Go.Sort.flatK enc T.size d') cells) e (0,0)):=by unfold sortWorldK Go.Sort.putRowK Go.Sort.putRow Go.Sort.mapBlock Go.Sort.grow;simp only;rw[Vb (by simp;exact hblk),Vd,if_pos rfl];show (w.heap[b]?).map _=_;rw[hh];rfl
  have hzl:z.length=x.1.length:=hperm.length_eq;have hflat' : (Go.Sort.flatK enc T.size d').toList=(d'.toList.map enc).flatten:=Zg7 hk d'
  have hfl' : (d'.toList.map enc).flatten.length=x.1.length*T.size:=by rw[<-hflat',Vk,Go.Sort.size_flatK,hd's]
  have hpre: (d'.toList.map enc).flatten<+: (Go.Sort.putCells id 0 (Go.Sort.flatK enc T.size d') cells).toList:=by
   have hcsz:x.1.length*T.size<=cells.size:=Nat.le_trans (Nat.mul_le_mul_right _ hcap) hsz;rw[List.prefix_iff_eq_take];apply Vl;intro t;rw[List.getElem?_take];by_cases ht:t<x.1.length*T.size
   ·rw[if_pos (by omega)];have htc:t<cells.size:=by omega
    have htf:t< (Go.Sort.flatK enc T.size d').size:=by rw[Go.Sort.size_flatK,hd's];exact ht
    have hR: (Go.Sort.putCells id 0 (Go.Sort.flatK enc T.size d') cells)[t]? =some (Go.Sort.flatK enc T.size d')[t]! :=by unfold Go.Sort.putCells;rw[Array.getElem?_mapIdx,Vc htc];simp only[Option.map_some,Vm,Nat.zero_add,true_and,htf,if_true,Nat.sub_zero,id]
    rw[<-Va]at hR;rw[hR,getElem!_pos _ t htf, <-hflat'];rw[Va,Vc htf]
   ·rw[if_neg (by omega),Vf (by omega)]
  refine⟨_,rfl,back rfl (.inr ⟨b,cap,_,e,d'.toList.map enc,rfl,by rw[hzl];simp [Vh],hcell,by rw[hzl];exact hcap,by unfold Go.Sort.putCells;simpa using hsz,hcss'.mono fun y c hy=>Rd.mono hag2 (fun _ h=>h) T y c hy,hpre⟩) (fun b' hb' =>by have:=hI b' hb';omega) rfl rfl ⟨rfl, ?_⟩ hszW hother⟩;show w.drawn<=w.drawn+n;omega
theorem sortFunc_ok{T:Ty}{g:FuncId}{cmp:El T->El T->Option Int}(L:SlLaysF0.n6 P ρ)(hT:T.agg=true)(aE: ∀w,(isAgg (ρ.t 24)).run P w= .ok true w)(zE: ∀w,(Go.sizeOf (ρ.t 24)).run P w= .ok T.size w)(hg:ZaF P g (Zjq T cmp)):
  ZaF P (ρ.f 6) (ZoA T g cmp):=Zli (cmp:=cmp) (fun _ _ h=>by obtain⟨h1,h2,h3⟩:=ZlB h;exact⟨h1,h2,Zh7 h3⟩) L hT aE zE hg
end
end Tr
