/- slices.Sort and slices.Compact at []int by the kit's contracts, as specs of the abstract machine. Conditions: the program bears the library's texts (the layings). -/
import Derived.Shelf.Sort.Plain
import Derived.Shelf.Slices.CompactI
import Derived.Shelf.Slices.In.SortNone
import Derived.Test.YtdpenljjnfmgiaaGreatTtB
open Array renaming getElem?_append_left ->Vf,getElem?_toList ->Vh,getElem?_modify ->Vi
open List renaming getElem?_eq_getElem ->Vb,pairwise_cons ->Vc,length_cons ->Vg,getLast?_cons ->Vj,getElem?_take ->Vk,getElem?_map ->Vl,cons_append ->Vm,map_append ->Vn,replicate ->Vo,mem_cons ->Vp
open Nat renaming add_sub_cancel ->Vd,le_refl ->Ve
open Go.Value renaming int ->Va
namespace Tr
open Go Go.Proofs Go.Shelf
def ZpZ(x:Int):List Int->List Int
 | []=>[x]
 |y::l=>bif decide (x<=y) then x::y::l else y::ZpZ x l
def Zen:List Int->List Int
 | []=>[]
 |x::l=>ZpZ x (Zen l)
def sortI(l:List Int):Option (List Int):=bif decide (l.length<4294967296) then some (Zen l) else none
def ZbS(x:Int):List Int->List Int
 | []=>[]
 |y::l=>bif decide (y=x) then ZbS x l else y::ZbS y l
def ZaZ:List Int->List Int
 | []=>[]
 |x::l=>x::ZbS x l
def compactI(l:List Int):Option (List Int):=bif decide (l.length<4294967296) then some (ZaZ l) else none
theorem Zgd(x:Int): ∀l,(ZpZ x l).Perm (x::l)
 | []=> .refl _
 |y::l=>by
  simp only[ZpZ]
  cases decide (x<=y) with
  |true=>exact .refl _
  |false=>exact((Zgd x l).cons y).trans (.swap _ _ _)
theorem Zes: ∀l,(Zen l).Perm l
 | []=> .refl _
 |x::l=>(Zgd x _).trans ((Zes l).cons x)
theorem Zkw(x:Int): ∀ {l:List Int},l.Pairwise (· <= ·)->(ZpZ x l).Pairwise (· <= ·)
 | [],_=>by simp [ZpZ]
 |y::l,h=>by
  simp only[ZpZ];obtain⟨h1,h2⟩:=Vc.1 h;by_cases hxy:x<=y
  ·rw[decide_eq_true hxy];refine Vc.2 ⟨fun z hz=> ?_,h⟩;rcases Vp.1 hz with rfl|hz
   ·exact hxy
   ·exact Int.le_trans hxy (h1 z hz)
  ·rw[decide_eq_false hxy];refine Vc.2 ⟨fun z hz=> ?_,Zkw x h2⟩;rcases Vp.1 ((Zgd x l).mem_iff.1 hz) with rfl|hz
   ·omega
   ·exact h1 z hz
theorem Zhh: ∀l,(Zen l).Pairwise (· <= ·)
 | []=> .nil
 |x::l=>Zkw x (Zhh l)
theorem ZmE(l:List Int): (l.mergeSort fun x y=>decide (x<=y))=Zen l:=by refine List.Perm.eq_of_pairwise (le:=fun a b=>a<=b) (fun a b _ _ h1 h2=>Int.le_antisymm h1 h2) ?_ (Zhh l) ((List.mergeSort_perm l _).trans (Zes l).symm);have:=List.pairwise_mergeSort (le:=fun x y:Int=>decide (x<=y)) (fun a b c h1 h2=>by simp at*;omega) (fun a b=>by simp;omega) l;exact this.imp fun h=>by simpa using h
theorem Zdv(y:Int): ∀ (l:List Int) (x:Int),ZbS x (l++[y])=ZbS x l++if y=(l.getLast?).getD x then [] else [y]
 | [],x=>by
  simp only[List.nil_append,ZbS];by_cases h:y=x
  ·rw[decide_eq_true h];simp [h]
  ·rw[decide_eq_false h];simp [h]
 |z::l,x=>by
  simp only[Vm,ZbS]
  have e: ∀x',((z::l).getLast?).getD x' =(l.getLast?).getD z:=fun x' =>by rw[Vj];rfl
  by_cases h:z=x
  ·rw[decide_eq_true h];simp only[cond_true];rw[Zdv y l x,e,h]
  ·rw[decide_eq_false h];simp only[cond_false];rw[Zdv y l z,e];simp
theorem ZhL(y:Int)(l:List Int):ZaZ (l++[y])=ZaZ l++if l.getLast? =some y then [] else [y]:=by
 cases l with
 |nil=>simp [ZaZ,ZbS]
 |cons x l=>
  simp only[Vm,ZaZ,Zdv];rw[Vj];by_cases h:y=(l.getLast?).getD x
  ·rw[if_pos h,if_pos (by rw[h])]
  ·rw[if_neg h,if_neg (fun h2=>h (by simpa using h2.symm))]
theorem ZlL(l:List Int):Go.Lib.compact l=ZaZ l:=by
 have: ∀m,m<=l.length->Go.Lib.compactUpTo l.toArray m=ZaZ (l.take m):=by
  intro m
  induction m with
  |zero=>intro _;rfl
  |succ m ih=>
   intro hm;have hml:m<l.length:=hm;have h1:l.toArray[m]! =l[m]:=by simp [hml]
   have h2:l.take (m+1)=l.take m++[l[m]]:=by rw[List.take_add_one,Vb hml];rfl
   rw[h2,ZhL, <-ih (by omega)];unfold Go.Lib.compactUpTo;rw[List.range_succ,List.filter_append,Vn];congr 1
   cases m with
   |zero=>simp [Go.Lib.keeps,hml]
   |succ m=>
    have h3:l.toArray[m]! =l[m]:=by simp [show m<l.length by omega]
    have h4: (l.take (m+1)).getLast?=some l[m]:=by rw[List.getLast?_eq_getElem?,List.length_take,Nat.min_eq_left (by omega),Vk,if_pos (by omega),Vd,Vb (by omega)]
    rw[h4];by_cases h:l[m+1]=l[m]
    ·rw[if_pos (by rw[h]),List.filter_cons_of_neg (by simp only[Go.Lib.keeps,Vd,h1,h3];simp [h])];rfl
    ·rw[if_neg (fun h5=>h (by simpa using h5.symm)),List.filter_cons_of_pos (by simp only[Go.Lib.keeps,Vd,h1,h3];simp [h])];simp [hml]
 have h:=this l.length (Ve _);rw[List.take_length]at h;exact h
theorem ZdI: ∀ (l:List Int) (x:Int),(ZbS x l).length<=l.length
 | [],_=>Ve _
 |y::l,x=>by
  simp only[ZbS]
  cases decide (y=x) with
  |true=>have:=ZdI l x;simp only[cond_true,Vg];omega
  |false=>have:=ZdI l y;simp only[cond_false,Vg];omega
theorem Zi4(l:List Int): (ZaZ l).length<=l.length:=by
 cases l with
 |nil=>exact Ve _
 |cons x l=>simp only[ZaZ,Vg];have:=ZdI l x;omega
abbrev ITy:Ty:= .int .i64
def Zf3:Spec:= {args:= .cons (.own ITy true) .nil,res:= .nil,fns:=[],α:=List Int,f:=fun x=>sortI x.1,unp:=fun z=>((z,()),()) }
def ZdT:Spec:= {args:= .cons (.own ITy false) .nil,res:= .cons (.own ITy false) .nil,fns:=[],α:=List Int,f:=fun x=>compactI x.1,unp:=fun z=>(((),()),(z,())) }
theorem ZmQ{w:World}{I:Nat->Prop} : ∀ {xs:List Int}{css:List (List Value)},Fa (Rd w I ITy) xs css->css=xs.map fun x=>[.int .i64 x]
 | [],[],_=>rfl
 |x::xs,c::css,⟨h1,h2⟩=>by rw[ZmQ h2,List.map_cons];congr 1
theorem Znh{w:World}{I:Nat->Prop} : ∀xs:List Int,Fa (Rd w I ITy) xs (xs.map fun x=>[Va .i64 x])
 | []=>trivial
 |_::xs=>⟨rfl,Znh xs⟩
theorem ZfN(xs:List Int): (xs.map fun x=>[Va .i64 x]).flatten=xs.map (Va .i64):=by
 induction xs with
 |nil=>rfl
 |cons x xs ih=>simp [ih]
theorem ZiS{w:World}{b:Nat}{cells:Array Value}{e:TypeId}{xs:List Int}(hh:w.heap[b]? =some (.cells cells e (0,0)))(hp:xs.map (Va .i64)<+:cells.toList):Go.Sort.Holds (Va .i64) w b 0 xs.toArray:=by
 intro j hj;have hj' :j<xs.length:=by simpa using hj
 constructor
 ·have h4:cells[j]? =some (Va .i64 xs[j]):=by obtain⟨r,hr⟩:=hp;rw[<-Vh, <-hr,List.getElem?_append_left (by simpa using hj'),Vl,Vb hj'];rfl
  simp only[World.cell?,hh,Nat.zero_add,Option.isSome_none,Bool.false_eq_true,if_false,h4];simp [hj']
 ·simp [World.frozen?,hh]
theorem ZmX{cells:Array Value}{ys:List Int}(h:ys.length<=cells.size):ys.map (Va .i64)<+: (Go.Sort.putCells (Va .i64) 0 ys.toArray cells).toList:=by
 rw[List.prefix_iff_eq_take];apply List.ext_getElem?;intro t;rw[Vk];by_cases ht:t<ys.length
 ·rw[if_pos (by simpa using ht)]
  have hR: (Go.Sort.putCells (Va .i64) 0 ys.toArray cells)[t]? =some (Va .i64 ys[t]):=by unfold Go.Sort.putCells;rw[Array.getElem?_mapIdx,Array.getElem?_eq_getElem (by omega)];simp [ht]
  rw[<-Vh]at hR;rw[hR,Vl,Vb ht];rfl
 ·rw[if_neg (by simpa using ht),List.getElem?_eq_none (by simp;omega)]
theorem ZkG{w:World}{enc:Int->Value}{b n:Nat}{d:Array Int}{os:Array Obj}{b' :Nat}(h:b' <w.heap.size)(hne:b' ≠b): (Go.Sort.grow (Go.Sort.putRow enc (Go.Sort.ahead w n) b 0 d) os).heap[b']? =w.heap[b']? :=by unfold Go.Sort.putRow Go.Sort.mapBlock Go.Sort.grow Go.Sort.ahead;simp only;rw[Vf (by simp;exact h),Vi,if_neg (Ne.symm hne)]
theorem Zgh{w:World}{enc:Int->Value}{b n:Nat}{d:Array Int}{os:Array Obj}{cells:Array Value}{e:TypeId}(h:b<w.heap.size)(hh:w.heap[b]? =some (.cells cells e (0,0))): (Go.Sort.grow (Go.Sort.putRow enc (Go.Sort.ahead w n) b 0 d) os).heap[b]? =some (.cells (Go.Sort.putCells enc 0 d cells) e (0,0)):=by unfold Go.Sort.putRow Go.Sort.mapBlock Go.Sort.grow Go.Sort.ahead;simp only;rw[Vf (by simp;exact h),Vi,if_pos rfl];show (w.heap[b]?).map _=_;rw[hh];rfl
section
variable {P:Program}{ρ:Ren}
theorem sortInt_ok (L:Lays.n189 P ρ) (hf: ∃fn,P.funcs[ρ.f 189]? =some fn∧fn.body.isNone=false∧(fn.name== "runtime.NumGoroutine")=false):ZaF P (ρ.f 189) Zf3 where
 wf:=rfl
 fn:=hf
 run:=by
  intro w I vals js x (z:List Int) hpv hnd hfree hI _ hz;obtain⟨j1,j2,v,r,rfl,rfl,⟨hpc,hag⟩,rfl,rfl⟩:=hpv;have hagv:Zav v=false:=hag.resolve_left fun h=>by cases h
  have hz' :x.1.length<4294967296/\Zen x.1=z:=by
   have hz:sortI x.1=some z:=hz;unfold sortI at hz
   cases hd:decide (x.1.length<4294967296) with
   |false=>rw[hd]at hz;simp at hz
   |true=>rw[hd]at hz;simp only[cond_true,Option.some.injEq]at hz;exact⟨of_decide_eq_true hd,hz⟩
  obtain⟨hlen,rfl⟩:=hz';have hperm:=Zes x.1
  have back: ∀ {w' :World}{rv:Value},rv= .tuple #[]->PC w' I (.own ITy true) (Zen x.1) j1 v.cells.toList->(∀b,I b->b<w'.heap.size)->w'.os=w.os->w'.tape=w.tape->Zjn w' w->w.heap.size<=w'.heap.size->(∀b,b<w.heap.size->b ∉ j1->w'.heap[b]? =w.heap[b]?)->
    Zpc Zf3 w I (j1++[]) [v] (Zf3.unp (Zen x.1)) rv w' :=by
   intro w' rv hrv hpc' hI' h1 h2 h3 h4 h5;refine⟨I,j1++[],[],⟨j1,[],_,_,rfl,rfl,hpc',rfl⟩,⟨[],⟨rfl,rfl⟩,hrv⟩,by simpa using hnd,fun b hb=> ?_,fun _ h=>h,fun b hb=>⟨hI' b hb, .inl hb⟩,h1,h2,⟨h3.out,fun _=>h3.drawn⟩,h4,fun b hb hj=>h5 b hb (by simpa using hj)⟩;have hb' :b∈j1++[]:=by simpa using hb
   exact⟨(hfree b (by simpa using hb')).1,by have:=(hfree b (by simpa using hb')).2;omega, .inl (by simpa using hb')⟩
  rcases hpc with ⟨rfl,hx,hc⟩ | ⟨b,cap,cells,e,css,rfl,hc,hh,hcap,hsz,hfa,hpre⟩
  ·have hv:v= .slice none 0 0:=Zal hc hagv;have hze:Zen x.1=[]:=by rw[hx];rfl
   subst hv;refine(Any.slices_Sort_int_none L none 0 w).mono ?_;rintro e w' ⟨rfl,rfl⟩;exact⟨_,rfl,back rfl (.inl ⟨rfl,hze,rfl⟩) hI rfl rfl .rfl (Ve _) fun _ _ _=>rfl⟩
  have hv:v= .slice (some ⟨b,0,none⟩) x.1.length cap:=Zal hc hagv;subst hv;have hb:=hfree b (by simp);rw[ZmQ hfa,ZfN]at hpre;have hszc:x.1.length<=cells.size:=by have:=hpre.length_le;simpa using this
  refine(Any.slices_Sort_int L b 0 cap x.1 w (ZiS hh hpre) hb.2 (by omega)).mono ?_;rintro ex w' ⟨rfl,n,os,rfl⟩;rw[ZmE];have hl: (Zen x.1).length=x.1.length:=hperm.length_eq;refine⟨_,rfl,back rfl (.inr ⟨b,cap,_,e,_,rfl,by rw[hl];simp [Value.cells],Zgh hb.2 hh,by rw[hl];exact hcap,by unfold Go.Sort.putCells;simpa using hsz,Znh _,by rw[ZfN];exact ZmX (by rw[hl];exact hszc)⟩) (fun b' hb' => ?_) rfl rfl ⟨rfl, ?_⟩ ?_ fun b' hlt hb' =>ZkG hlt (by simpa using hb')⟩
  ·have:=hI b' hb';unfold Go.Sort.putRow Go.Sort.mapBlock Go.Sort.grow Go.Sort.ahead;simp;omega
  ·show w.drawn<=w.drawn+n;omega
  ·unfold Go.Sort.putRow Go.Sort.mapBlock Go.Sort.grow Go.Sort.ahead;simp
theorem compactInt_ok (L:Lays2.n20 P ρ) (hf: ∃fn,P.funcs[ρ.f 20]? =some fn∧fn.body.isNone=false∧(fn.name== "runtime.NumGoroutine")=false):ZaF P (ρ.f 20) ZdT where
 wf:=rfl
 fn:=hf
 run:=by
  intro w I vals js x (z:List Int) hpv hnd hfree hI _ hz;obtain⟨j1,j2,v,r,rfl,rfl,⟨hpc,hag⟩,rfl,rfl⟩:=hpv;have hagv:Zav v=false:=hag.resolve_left fun h=>by cases h
  have hz' :x.1.length<4294967296/\ZaZ x.1=z:=by
   have hz:compactI x.1=some z:=hz;unfold compactI at hz
   cases hd:decide (x.1.length<4294967296) with
   |false=>rw[hd]at hz;simp at hz
   |true=>rw[hd]at hz;simp only[cond_true,Option.some.injEq]at hz;exact⟨of_decide_eq_true hd,hz⟩
  obtain⟨hlen,rfl⟩:=hz';have hle:=Zi4 x.1
  have back: ∀ {w' :World}{rv:Value},RV w' I (.cons (.own ITy false) .nil) (ZaZ x.1,()) j1 rv->(∀b,I b->b<w'.heap.size)->w'.os=w.os->w'.tape=w.tape->Zjn w' w->w.heap.size<=w'.heap.size->(∀b,b<w.heap.size->b ∉ j1->w'.heap[b]? =w.heap[b]?)->
    Zpc ZdT w I (j1++[]) [v] (ZdT.unp (ZaZ x.1)) rv w' :=by
   intro w' rv hrv hI' h1 h2 h3 h4 h5;refine⟨I,[],j1,⟨[],[],_,_,rfl,rfl,rfl,rfl⟩,hrv,by simpa using hnd,fun b hb=> ?_,fun _ h=>h,fun b hb=>⟨hI' b hb, .inl hb⟩,h1,h2,⟨h3.out,fun _=>h3.drawn⟩,h4,fun b hb hj=>h5 b hb (by simpa using hj)⟩;have hb' :b∈j1++[]:=by simpa using hb
   exact⟨(hfree b hb').1,by have:=(hfree b hb').2;omega, .inl hb'⟩
  rcases hpc with ⟨rfl,hx,hc⟩ | ⟨b,cap,cells,e,css,rfl,hc,hh,hcap,hsz,hfa,hpre⟩
  ·have hv:v= .slice none 0 0:=Zal hc hagv;subst hv;refine(Any.slices_Compact_int_empty L none 0 w).mono ?_;rintro e w' ⟨rfl,rfl⟩;have hze:ZaZ x.1=[]:=by rw[hx];rfl
   exact⟨_,rfl,back ⟨[.slice none 0 0],⟨[],[],_,_,rfl,rfl,⟨.inl ⟨rfl,hze,rfl⟩, .inr rfl⟩,rfl,rfl⟩,rfl⟩ hI rfl rfl .rfl (Ve _) fun _ _ _=>rfl⟩
  have hv:v= .slice (some ⟨b,0,none⟩) x.1.length cap:=Zal hc hagv;subst hv;have hb:=hfree b (by simp);rw[ZmQ hfa,ZfN]at hpre;have hszc:x.1.length<=cells.size:=by have:=hpre.length_le;simpa using this
  refine(Any.slices_Compact_int L b 0 cap x.1 w (ZiS hh hpre) (by omega) hcap).mono ?_;rintro ex w' ⟨rfl,n,rfl⟩;rw[ZlL];have hl: (ZaZ x.1++Vo (x.1.length - (ZaZ x.1).length) (0:Int)).length=x.1.length:=by simp;omega
  have e0: ∀d:Array Int,Go.Sort.putRow (Va .i64) (Go.Sort.ahead w n) b 0 d=Go.Sort.grow (Go.Sort.putRow (Va .i64) (Go.Sort.ahead w n) b 0 d) #[]:=fun d=>by generalize Go.Sort.putRow (Va .i64) (Go.Sort.ahead w n) b 0 d=w2;cases w2;simp [Go.Sort.grow]
  rw[e0]
  have hpc:PC (Go.Sort.grow (Go.Sort.putRow (Va .i64) (Go.Sort.ahead w n) b 0 (ZaZ x.1++Vo (x.1.length - (ZaZ x.1).length) (0:Int)).toArray) #[]) I (.own ITy false) (ZaZ x.1) [b] [.slice (some ⟨b,0,none⟩) (ZaZ x.1).length cap]:=
   .inr ⟨b,cap,_,e,_,rfl,rfl,Zgh hb.2 hh,by omega,by unfold Go.Sort.putCells;simpa using hsz,Znh _,by rw[ZfN];exact(by rw[Vn];exact List.prefix_append _ _:List.map (Va .i64) (ZaZ x.1)<+:_).trans (ZmX (by rw[hl];exact hszc))⟩
  refine⟨_,rfl,back ⟨[.slice (some ⟨b,0,none⟩) (ZaZ x.1).length cap],⟨[b],[],_,_,rfl,rfl,⟨hpc, .inr rfl⟩,rfl,rfl⟩,rfl⟩ (fun b' hb' => ?_) rfl rfl ⟨rfl, ?_⟩ ?_ fun b' hlt hb' =>ZkG hlt (by simpa using hb')⟩
  ·have:=hI b' hb';unfold Go.Sort.putRow Go.Sort.mapBlock Go.Sort.grow Go.Sort.ahead;simp;omega
  ·show w.drawn<=w.drawn+n;omega
  ·unfold Go.Sort.putRow Go.Sort.mapBlock Go.Sort.grow Go.Sort.ahead;simp
end
end Tr
