/- Exhaustive search: chains of stays, and how many journeys there can be. Conditions: the network is valid and small. -/
import Derived.Test.YtbjejlpejjnpnaaGreatJLxNtop
import Derived.Test.YtbjejlpejjnpnaaGreatFintopc
open Bool renaming not_true ->Vf,not_false ->Vt,and_eq_true ->Vw,not_eq_false' ->Vy,or_eq_false_iff ->Vda,true_and ->Vha,false_and ->Vsb,false_or ->Vtb,true_or ->Vub
open Int renaming toNat_natCast ->Ve,le_refl ->Vpa,le_antisymm ->Vfb,le_trans ->Vnb
open Go.IntKind renaming wrap ->Vg
open List renaming take_succ_eq_append_getElem ->Va,mem_singleton ->Vb,getElem?_eq_getElem ->Vc,mem_append ->Vd,getElem_mem ->Vh,take_length ->Vj,length_map ->Vl,map_append ->Vm,length_append ->Vn,getElem_of_mem ->Vo,map_cons ->Vp,mem_filter ->Vq,mem_map ->Vr,sum_cons ->Vs,take ->Vu,drop ->Vx,length_filter_le ->Vaa,sum_append ->Vba,append_nil ->Vca,mem_cons ->Vga,eq_nil_of_length_eq_zero ->Via,append_eq_singleton_iff ->Vja,replicate ->Vla,map_nil ->Vma,sum_nil ->Vna,length_take ->Voa,filter_append ->Vqa,length_eq_one_iff ->Vsa,mem_append_right ->Vta,mem_append_left ->Vua,mem_cons_of_mem ->Vva,head?_drop ->Vwa,nil_append ->Vxa,length_pos_iff ->Vya,drop_drop ->Vza,singleton_inj ->Vab,pairwise_map ->Vbb,pairwise_iff_getElem ->Vcb,filter_cons_of_neg ->Vdb,append_inj_right' ->Veb,getElem_set_self ->Vgb,take_append_drop ->Vhb,length ->Vib,take_set_of_le ->Vkb,drop_set_of_lt ->Vlb,pairwise_cons ->Vmb,filter_cons ->Vob,any_eq_true ->Vpb,length_set ->Vqb,take_take ->Vrb
open Nat renaming le_trans ->Vi,le_refl ->Vk,zero_le ->Vz,mul_le_mul_left ->Vea,lt_trichotomy ->Vra,add_le_add ->Vjb
open Option renaming bind ->Vka
open Prod renaming fst ->Vfa
open Prod.mk renaming inj ->Vv
namespace Q
open Tr Go
structure JQ (n:Zf):Prop where
 stops:n.1.length<=5
 runs:n.2.2.1.length<=7
 paths:n.2.2.2.2.1.length<=60
 calls:∀i,i<n.2.2.1.length->(Zw n i).length<=6
variable {n:Zf}{q:Zr}
noncomputable def Zbg(n:Zf):Int->Option Int:=K3 n n.2.2.2.1.length
def YI(n:Zf)(a b:Int):Prop:= ∃k,KC (Zbg n) a (k+1)=some b
theorem Zk2(f:Int->Option Int):∀(k:Nat) {a b c:Int}{l:Nat},KC f a k=some b->KC f b l=some c->KC f a (k+l)=some c
 |0,a,b,c,l,d,g=>by
  have:a=b:=Option.some.inj d
  grind
 |k+1,a,b,c,l,d,g=>by
  have e:(f a).bind (fun b=>KC f b k)=some b:=d;obtain⟨j,m,h⟩:=Option.bind_eq_some_iff.1 e;have:=Zk2 f k h g;rw[show k+1+l=(k+l)+1 by omega];show (f a).bind (fun b=>KC f b (k+l))=some c
  grind
theorem YI.trans{a b c:Int}(d:YI n a b)(e:YI n b c):YI n a c:=by obtain⟨k,d⟩:=d;obtain⟨l,e⟩:=e;exact⟨k+l+1,by rw[show k+l+1+1=(k+1)+(l+1) by omega];exact Zk2 _ _ d e⟩
theorem YI.one{a b:Int}(h:Zbg n a=some b):YI n a b:=⟨0,by show (Zbg n a).bind (fun b=>some b)=some b;grind⟩
theorem YI.irr(h:Whole n){a:Int} :¬YI n a a:=by rintro ⟨k,c⟩;exact ZkQ (ZdC (fun j b=>WH.1 h.g j b) a) k c
theorem Zmg(h:Whole n){i c j d:Nat}(p:isLink n i c j d true):Zbg n (i:Int)=some (j:Int):=by
 obtain⟨a,k,u⟩:=Vo p;have r:lk n a=((i:Int),(c:Int),(j:Int),(d:Int),true,()):=by unfold lk;grind
 cases l:Zbg n (i:Int) with
 |none=>
  have:=ZgY l a k (by grind)
  grind
 |some b=>
  obtain⟨e,m,o,s,t⟩:=Zch l
  have:e=a:=by
   rcases Vra e a with f|rfl|f
   ·have:=(R4 (WH.1 h.g a k)).2.2 (by grind)
    grind
   ·rfl
   ·have:=(R4 (WH.1 h.g e m)).2.2 o
    grind
  grind
open Classical in
noncomputable def Xg(n:Zf)(a b:Nat):Nat:=if YI n (a:Int) (b:Int) then 1 else 0
noncomputable def Ji(n:Zf)(a:Nat):Nat:=Xg n a 0+Xg n a 1+Xg n a 2+Xg n a 3+Xg n a 4+Xg n a 5+Xg n a 6
theorem Zsy(a b:Nat):Xg n a b<=1:=by unfold Xg;grind
theorem Zls(h:Whole n)(a:Nat):Xg n a a=0:=by unfold Xg;rw[Zg (YI.irr h)]
theorem Zsx(h:Whole n)(a b:Nat):Xg n a b+Xg n b a<=1:=by
 unfold Xg;by_cases c:YI n (a:Int) (b:Int)
 ·rw[Zn c,Zg (fun d=>YI.irr h (c.trans d))];omega
 grind
theorem ZsQ(a:Nat):Ji n a<=7:=by have:=fun b=>Zsy (n:=n) a b;have c:=this 0;have d:=this 1;have e:=this 2;have f:=this 3;have g:=this 4;have h:=this 5;have j:=this 6;unfold Ji;omega
theorem ZsR(h:Whole n):Ji n 0+Ji n 1+Ji n 2+Ji n 3+Ji n 4+Ji n 5+Ji n 6<=21:=by have a:=Zsx h;have i:=Zls h;have s:=i 0;have t:=i 1;have u:=i 2;have v:=i 3;have w:=i 4;have x:=i 5;have y:=i 6;have b:=a 0 1;have c:=a 0 2;have d:=a 0 3;have e:=a 0 4;have f:=a 0 5;have g:=a 0 6;have a12:=a 1 2;have j:=a 1 3;have k:=a 1 4;have l:=a 1 5;have m:=a 1 6;have a23:=a 2 3;have a24:=a 2 4;have a25:=a 2 5;have a26:=a 2 6;have o:=a 3 4;have a35:=a 3 5;have p:=a 3 6;have a45:=a 4 5;have a46:=a 4 6;have r:=a 5 6;unfold Ji;omega
theorem ZlL(h:Whole n){i j:Nat}(f:j<7)(d:Zbg n (i:Int)=some (j:Int)):Ji n j+1<=Ji n i:=by
 have c:=YI.one d
 have a:∀k,Xg n j k<=Xg n i k:=fun k=>by
  unfold Xg;by_cases b:YI n (j:Int) (k:Int)
  ·rw[Zn b,Zn (c.trans b)];omega
  grind
 have b:Xg n i j=1:=by unfold Xg;grind
 have e:=Zls h j;have g:=a 0;have l:=a 1;have m:=a 2;have o:=a 3;have p:=a 4;have r:=a 5;have s:=a 6;unfold Ji
 grind
def K5:Nat->(Nat->Nat)->Nat
 |0,_=>0
 |m+1,f=>K5 m f+f m
theorem Du{f g:Nat->Nat} :∀{m:Nat},(∀i,i<m->f i<=g i)->K5 m f<=K5 m g
 |0,_=>Vk _
 |m+1,h=>Vjb (Du (by grind)) (by grind)
theorem Zbh(f g:Nat->Nat):∀m,K5 m (fun i=>f i+g i)=K5 m f+K5 m g
 |0=>rfl
 |m+1=>by show K5 m _+(f m+g m)=(K5 m f+f m)+(K5 m g+g m);rw[Zbh f g m];omega
theorem Zbi(c:Nat)(f:Nat->Nat):∀m,K5 m (fun i=>c*f i)=c*K5 m f
 |0=>rfl
 |m+1=>by show K5 m _+_=c* (K5 m f+f m);rw[Zbi c f m,Nat.mul_add]
theorem ZeC{f:Nat->Nat} :∀{m:Nat},(∀i,i<m->f i=0)->K5 m f=0
 |0,_=>rfl
 |m+1,h=>by show K5 m f+f m=0;rw[ZeC (by grind),h m (by omega)]
theorem ZhB{f:Nat->Nat}{j:Nat} :∀{m:Nat},(∀i,i<m->i≠j->f i=0)->K5 m f<=f j
 |0,_=>Vz _
 |m+1,h=>by
  show K5 m f+f m<=f j;by_cases e:m=j
  ·subst e;rw[ZeC (by grind)];omega
  ·rw[h m (by omega) e];exact ZhB (by grind)
theorem ZhA(c:Nat):∀m,K5 m (fun _=>c)=m*c
 |0=>by simp [K5]
 |m+1=>by show K5 m _+c=_;rw[ZhA c m,Nat.succ_mul]
theorem ZcG{β:Type}(w:β->Nat)(f:Nat->List β):∀m,(((List.range m).flatMap f).map w).sum=K5 m fun i=>((f i).map w).sum
 |0=>rfl
 |m+1=>by
  have e: [m].flatMap f=f m:=by simp
  rw[List.range_succ,List.flatMap_append,Vm,Vba,ZcG w f m,e];rfl
def gW:Nat->Nat
 |0=>271
 |l+1=>61+1260*gW l
theorem ZjS(l:Nat):271<=gW l:=by
 induction l with
 |zero=>exact Vk _
 |succ l a=>unfold gW;omega
noncomputable def Rp(n:Zf)(l i c:Nat):Nat:=gW l* (1+if c+1=(Zw n i).length then 5*Ji n i else 0)
noncomputable def wr(n:Zf):Nat->Nat->Nat->Nat
 |0,_,_=>1
 |l+1,i,c=>Rp n l i c
noncomputable def bw(n:Zf)(l i b:Nat):Nat:=K5 ((Zw n i).length - (b+1)) fun k=>wr n l i (b+1+k)
noncomputable def rW(n:Zf)(l:Nat)(s:Int):Nat:=K5 n.2.2.1.length fun i=>K5 (Zw n i).length fun b=>if (Zi n i b).1=s then bw n l i b else 0
noncomputable def tW(n:Zf)(l:Nat):Nat:=K5 n.2.2.1.length fun i=>K5 (Zw n i).length fun b=>bw n l i b
theorem Zkt(l i b:Nat):K5 ((Zw n i).length - (b+1)) (fun k=>Rp n l i (b+1+k))<=gW l* ((Zw n i).length - (b+1)+5*Ji n i):=by
 unfold Rp;rw[Zbi];refine Vea _ ?_;rw[Zbh,ZhA];refine Vjb (by omega) ?_;by_cases a:(Zw n i).length - (b+1)=0
 ·rw[a];exact Vz _
 ·refine Vi (ZhB (j:=(Zw n i).length - (b+1) - 1) (by grind)) ?_
  grind
theorem Zs7(l i:Nat):∀m,m<=(Zw n i).length->(Zw n i).length<=6->K5 m (fun b=>K5 ((Zw n i).length - (b+1)) fun k=>Rp n l i (b+1+k))<=gW l* (15+25*Ji n i):=by
 intro m h e
 refine Vi (Du (g:=fun b=>gW l* ((Zw n i).length - (b+1)+(if b+1<(Zw n i).length then 5*Ji n i else 0))) fun b f=>?_) ?_
 ·by_cases a:b+1<(Zw n i).length
  ·rw[Zn a];exact Zkt l i b
  ·have:(Zw n i).length - (b+1)=0:=by omega
   rw[this];exact Vz _
 ·rw[Zbi];refine Vea _ ?_;generalize (Zw n i).length=k at*;generalize Ji n i=r;have d:k=0\/k=1\/k=2\/k=3\/k=4\/k=5\/k=6:=by omega
  have c:m=0\/m=1\/m=2\/m=3\/m=4\/m=5\/m=6:=by omega
  rcases d with rfl|rfl|rfl|rfl|rfl|rfl|rfl<;>rcases c with rfl|rfl|rfl|rfl|rfl|rfl|rfl<;>simp [K5]<;>omega
theorem ZtR{f:Nat->Nat}{m:Nat}(b:m<=7):K5 m f<=f 0+f 1+f 2+f 3+f 4+f 5+f 6:=by
 have a:m=0\/m=1\/m=2\/m=3\/m=4\/m=5\/m=6\/m=7:=by omega
 rcases a with rfl|rfl|rfl|rfl|rfl|rfl|rfl|rfl<;>simp [K5]<;>omega
theorem ZtS(c:Whole n)(a:JQ n)(l:Nat):61+2*tW n l<=gW l:=by
 cases l with
 |zero=>
  have:tW n 0<=105:=by
   unfold tW;refine Vi (Du (g:=fun _=>15) fun i b=>?_) ?_
   ·have f:=a.calls i b;unfold bw wr;generalize (Zw n i).length=k at*;have d:k=0\/k=1\/k=2\/k=3\/k=4\/k=5\/k=6:=by omega
    rcases d with rfl|rfl|rfl|rfl|rfl|rfl|rfl<;>simp [K5]
   ·rw[ZhA];have:=a.runs;omega
  show 61+2*tW n 0<=271
  omega
 |succ l=>
  have e:tW n (l+1)<=gW l*630:=by unfold tW bw wr;refine Vi (Du (g:=fun i=>gW l* (15+25*Ji n i)) fun i b=>Zs7 l i _ (Vk _) (a.calls i b)) ?_;rw[Zbi];refine Vea _ (Vi (ZtR a.runs) ?_);have:=ZsR c;omega
  show 61+2*tW n (l+1)<=61+1260*gW l;omega
def RO(P:List Kh)(s t:Int):Nat:=(P.filter fun p=>decide (p.1=s) &&decide (p.2.1=t)).length
theorem ZmU(l:Nat)(s:Int):∀P:List Kh,((P.filter fun p=>decide (p.1=s)).map fun p=>rW n l p.2.1).sum=K5 n.2.2.1.length fun i=>K5 (Zw n i).length fun b=>RO P s (Zi n i b).1*bw n l i b
 |[]=>by
  symm
  exact ZeC fun i _=>ZeC fun b _=>by simp [RO]
 |p::P=>by
  have a:=ZmU l s P;rw[Vob];by_cases h:p.1=s
  ·rw[Zn (by grind),Vp,Vs,a];unfold rW;rw[<-Zbh];congr 1;funext i;rw[<-Zbh];congr 1;funext b;unfold RO
   grind
  ·rw[Zg (by grind),a];congr 1;funext i;congr 1;funext b;unfold RO
   grind
theorem ZpN(o:Whole n)(s t:Int):(if t=s then 1 else 0)+RO n.2.2.2.2.1 s t<=2:=by
 obtain⟨A,r⟩:=Zg9.1 (WH.1 o.q);unfold RO;have e:∀p∈n.2.2.2.2.1.filter (fun p=>decide (p.1=s) &&decide (p.2.1=t)),p.1=s/\p.2.1=t:=by simp
 have d:=r.sublist (List.filter_sublist (p:=fun p:Kh=>decide (p.1=s) &&decide (p.2.1=t)))
 have f:∀p∈n.2.2.2.2.1.filter (fun p=>decide (p.1=s) &&decide (p.2.1=t)),p.1≠p.2.1:=fun p d=>by exact(o.ok.path p (Vq.1 d).1).2.2.1
 generalize n.2.2.2.2.1.filter (fun p=>decide (p.1=s) &&decide (p.2.1=t))=F at*
 match F,e,d,f with
 |[],_,_,_=>grind
 |[a],e,_,f=>
  grind
 |[a,b],e,_,f=>
  grind
 |a::b::c::F,e,d,_=>
  exfalso;have k:=e a (by simp);have l:=e b (by simp);have m:=e c (by simp);rw[Vmb]at d;have g:=d.1 b (by simp);have h:=d.1 c (by simp);have j:=(Vmb.1 d.2).1 c (by simp);unfold JH at g h j;rw[k.1,k.2,l.1,l.2]at g;rw[k.1,k.2,m.1,m.2]at h;rw[l.1,l.2,m.1,m.2]at j;have u:a.2.2.2.1≠b.2.2.2.1:=by grind
  have v:a.2.2.2.1≠c.2.2.2.1:=by grind
  have w:b.2.2.2.1≠c.2.2.2.1:=by grind
  exact(show∀x y z:Bool,x≠y->x≠z->y≠z->False by decide) _ _ _ u v w
theorem ZkO(c:Whole n)(a:JQ n)(l:Nat)(s:Int):1+rW n l s+((n.2.2.2.2.1.filter fun p=>decide (p.1=s)).map fun p=>1+rW n l p.2.1).sum<=gW l:=by
 have d:∀P:List Kh,(P.map fun p=>1+rW n l p.2.1).sum=P.length+(P.map fun p=>rW n l p.2.1).sum:=by
  intro P
  induction P with
  |nil=>rfl
  |cons p P g=>grind
 rw[d,ZmU];have f:(n.2.2.2.2.1.filter fun p=>decide (p.1=s)).length<=60:=Vi (Vaa _ _) a.paths
 have key:rW n l s+(K5 n.2.2.1.length fun i=>K5 (Zw n i).length fun b=>RO n.2.2.2.2.1 s (Zi n i b).1*bw n l i b)<=2*tW n l:=by
  unfold rW tW;rw[<-Zbh, <-Zbi];refine Du fun i _=>?_;rw[<-Zbh, <-Zbi];refine Du fun b _=>?_;have:=ZpN c s (Zi n i b).1
  have e:(if (Zi n i b).1=s then bw n l i b else 0)=(if (Zi n i b).1=s then 1 else 0) *bw n l i b:=by grind
  rw[e, <-Nat.add_mul];exact Nat.mul_le_mul_right _ this
 have:=ZtS c a l;omega
end Q
namespace Q
open Tr Go
variable {F:Kc}{hF:FO F}{n:Zf}{q:Zr}
theorem Zml{α β:Type}(w:β->Nat)(f:α->List β):∀l:List α,((l.flatMap f).map w).sum=(l.map fun x=>((f x).map w).sum).sum
 |[]=>rfl
 |x::l=>by rw[List.flatMap_cons,Vm,Vba,Zml w f l];rfl
def KS(q:Zr)(l:Zs):Nat:=(q.2.2.2.2.1 - l.2.2.1).toNat
noncomputable def wL(n:Zf)(q:Zr)(l:Zs):Nat:=if l.1.1=1 then Rp n (KS q l) l.1.2.2.1.toNat l.1.2.2.2.1.toNat else if l.1.1=2 then 1+rW n (KS q l) l.1.2.1 else gW (KS q l)
noncomputable def hL(n:Zf)(q:Zr)(l:Zs):Nat:=20*KS q l+(if l.1.1=1 then 10+Ji n l.1.2.2.1.toNat else if l.1.1=2 then 5 else 19)
theorem Zuf(l:Zs)(i b c:Nat)(st:Bool)(v:ZJ):wL n q (Xs n l i b c st v)=Rp n (KS q l) i c:=by unfold wL Xs KS;simp only[if_true,Ve]
theorem Zmr(l:Zs)(i b:Nat)(st:Bool)(v:ZJ):((Dx n l i b st v).map (wL n q)).sum<=K5 ((Zw n i).length - (b+1)) fun k=>Rp n (KS q l) i (b+1+k):=by
 unfold Dx;rw[ZcG];refine Du fun k _=>?_;unfold Rl;split
 ·simp only[Vp,Vma,Vs,Vna,Zuf];exact Vk _
 ·exact Vz _
theorem ZoU{l:Zs}(a:l.2.2.1<=q.2.2.2.2.1)(i c:Nat):((RJ n q l i c).map (wL n q)).sum<=bw n (KS q l) i c:=by
 unfold RJ;split
 ·exact Vz _
 ·next h=>
  refine Vi (Zmr ..) ?_;unfold bw
  have e:KS q l=KS q (Xa n l i c)+1:=by unfold KS Xa;simp only;omega
  rw[e];exact Vk _
theorem ZfG{l:Zs}(a:l.2.2.1<=q.2.2.2.2.1)(fr:Int):((YP n q l fr).map (wL n q)).sum<=rW n (KS q l) l.1.2.1:=by
 unfold YP rW;rw[ZcG];refine Du fun i _=>?_;rw[ZcG];refine Du fun c _=>?_;unfold Hy;split
 ·next h=>rw[Zn h.2.2.1];exact ZoU a i c
 ·exact Vz _
theorem Zug(l:Zs)(p:Kh):wL n q (XK l p)=1+rW n (KS q l) p.2.1:=rfl
theorem ZmR(l:Zs):((HR n q l).map (wL n q)).sum<=((n.2.2.2.2.1.filter fun p=>decide (p.1=l.1.2.1)).map fun p=>1+rW n (KS q l) p.2.1).sum:=by
 unfold HR;rw[Zml];generalize n.2.2.2.2.1=P
 induction P with
 |nil=>exact Vk _
 |cons p P a=>
  rw[Vp,Vs,Vob];by_cases h:p.1=l.1.2.1
  ·rw[Zn (Ze h),Vp,Vs];refine Vjb ?_ a;unfold Gs;split
   ·simp only[Vp,Vma,Vs,Vna,Zug];exact Vk _
   ·exact Vz _
  ·rw[Zg (by simpa using h)]
   have:((Gs q l p).map (wL n q)).sum=0:=by unfold Gs;rw[Zg (fun b=>h b.1)];rfl
   rw[this,Nat.zero_add];exact a
theorem ZtJ(h:Whole n){a c:Nat}(f:a<n.2.2.2.1.length)(j:c<n.2.2.2.1.length)(k:(n.2.2.2.1[a]).2.2.2.2.1=true)(l:(n.2.2.2.1[c]).2.2.2.2.1=true)(e:(n.2.2.2.1[a]).1=(n.2.2.2.1[c]).1):a=c:=by
 have g:∀b (m:b<n.2.2.2.1.length),lk n b=n.2.2.2.1[b]:=fun b m=>by unfold lk;rw[Kq m]
 rcases Vra a c with d|rfl|d
 ·have:=(R4 (WH.1 h.g c j)).2.2 (by rw[g c j];exact l);exact absurd ⟨a,d,by rw[g a f];exact k,.inl (by rw[g a f,g c j];exact e)⟩ this.1
 ·rfl
 ·have:=(R4 (WH.1 h.g a f)).2.2 (by rw[g a f];exact k);exact absurd ⟨c,d,by rw[g c j];exact l,.inl (by rw[g a f,g c j];exact e.symm)⟩ this.1
theorem ZtI(p:Whole n)(y:JQ n){l:Zs}{i c:Nat}(M:l.1.2.2.1=(i:Int))(N:l.1.2.2.2.1=(c:Int)):((HL n l).map (wL n q)).sum<=gW (KS q l) * (if c+1=(Zw n i).length then 5*Ji n i else 0):=by
 by_cases m:∃a,∃e:a<n.2.2.2.1.length,G6 n l n.2.2.2.1[a]
 ·obtain⟨a,e,s⟩:=m;unfold HL;rw[Zgi,ZcG];refine Vi (ZhB (j:=a) fun b z u=>?_) ?_
  ·rw[Vc z];show ((Hm n l n.2.2.2.1[b]).map (wL n q)).sum=0;unfold Hm;rw[Zg]
   ·rfl
   ·intro g;exact u (ZtJ p z e g.1 s.1 (g.2.1.trans s.2.1.symm))
  ·rw[Vc e];show ((Hm n l n.2.2.2.1[a]).map (wL n q)).sum<=_;obtain⟨r,d,j,C,R,I,Q,J,_,P,H,_,v⟩:=p.ok.link _ (Vh e);have o:=Vh e;generalize n.2.2.2.1[a]=k at*;subst I;obtain⟨w,x,c3,A,B⟩:=s;simp only at w x c3;subst w;have E:r=i:=by omega
   have D:d=c:=by omega
   subst E D;obtain⟨G,O⟩:=v rfl;rw[Zn G];unfold Hm;rw[Zn ⟨rfl,x,c3,A,B⟩];simp only[Ve];refine Vi (Zmr ..) (Vi (Zkt (KS q l) j 0) (Vea _ ?_));have f:isLink n r d j C true:=o;have t:j<7:=by have:=y.runs;omega
   have:=ZlL p t (Zmg p f);have:=y.calls j J;omega
 ·have:HL n l=[]:=by unfold HL;rw[List.flatMap_eq_nil_iff];intro k K;obtain⟨a,e,rfl⟩:=Vo K;unfold Hm;rw[Zg (fun h=>m ⟨a,e,h⟩)]
  rw[this];exact Vz _
theorem Zud(f:Whole n)(e:JQ n){l:Zs}(o:LV F hF n q l):1+((JK n q l).map (wL n q)).sum<=wL n q l:=by
 have h:=o.rides.2;unfold JK;by_cases a:l.1.1=1
 ·rw[Zn a];obtain⟨i,c,j,k,u,t,_⟩:=o.kind a;have w:=ZtI (q:=q) f e j k
  have b:wL n q l=gW (KS q l) * (1+if c+1=(Zw n i).length then 5*Ji n i else 0):=by unfold wL;rw[Zn a,j,k,Ve,Ve];rfl
  have g:=ZfG (n:=n) (q:=q) (l:=XM l) h (l.2.1+XJ n l.1.2.1);have m:=ZmR (n:=n) (q:=q) (XM l);have s:=ZkO f e (KS q l) l.1.2.1;have p:KS q (XM l)=KS q l:=rfl;have r:(XM l).1.2.1=l.1.2.1:=rfl;rw[p,r]at g m;rw[b,Nat.mul_add,Nat.mul_one,Vm,Vba];have v:=ZjS (KS q l);split
  ·rw[Vm,Vba];omega
  ·simp only[Vma,Vna];omega
 ·rw[Zg a];by_cases d:l.1.1=2
  ·rw[Zn d];have g:=ZfG (n:=n) h l.2.1;have b:wL n q l=1+rW n (KS q l) l.1.2.1:=by unfold wL;rw[Zg a,Zn d]
   rw[b];omega
  ·rw[Zg d]
   have g:=ZfG (n:=n) h (l.2.1+(if q.2.2.2.2.2.2.2.2.2.1=true then XJ n l.1.2.1 else 0))
   have m:=ZmR (n:=n) (q:=q) l;have s:=ZkO f e (KS q l) l.1.2.1;have b:wL n q l=gW (KS q l):=by unfold wL;rw[Zg a,Zg d]
   rw[b,Vm,Vba];omega
theorem Zuh{l:Zs} :1<=wL n q l:=by
 unfold wL Rp;have:=ZjS (KS q l);split
 ·exact Vi (show 1<=gW (KS q l) *1 by omega) (Vea _ (by omega))
 ·split<;>omega
theorem ZjU(l:Zs)(i b c:Nat)(st:Bool)(v:ZJ):hL n q (Xs n l i b c st v)=20*KS q l+(10+Ji n i):=by unfold hL Xs KS;simp only[if_true,Ve]
theorem ZfH{l:Zs}(f:l.2.2.1<=q.2.2.2.2.1){fr:Int}{x:Zs}(b:x∈YP n q l fr):hL n q x+3<=20*KS q l/\x.2.2.2.2.2.1.length=l.2.2.2.2.2.1.length+1:=by
 obtain⟨i,c,d,_,_,_,_,a,_,rfl⟩:=Di.1 b;rw[ZjU];have:=ZsQ (n:=n) i
 have e:KS q l=KS q (Xa n l i c)+1:=by unfold KS Xa;simp only;omega
 refine⟨by omega,?_⟩;show (WT _ _++[_]).length=_;rw[Vn,Zit];rfl
theorem ZmT{l:Zs}{x:Zs}(a:x∈HR n q l):hL n q x=20*KS q l+5/\x.2.2.2.2.2.1.length=l.2.2.2.2.2.1.length+1:=by obtain⟨p,_,_,rfl⟩:=D8.1 a;exact⟨rfl,by show (_++[_]).length=_;simp⟩
theorem ZmO(h:Whole n)(B:JQ n){l:Zs}(u:LV F hF n q l){x:Zs}(a:x∈JK n q l):hL n q x<hL n q l/\x.2.2.2.2.2.1.length=l.2.2.2.2.2.1.length+1:=by
 have f:=u.rides.2;unfold JK at a;by_cases e:l.1.1=1
 ·rw[Zn e]at a;obtain⟨i,c,z,D,H,E,_⟩:=u.kind e;have m:hL n q l=20*KS q l+(10+Ji n i):=by unfold hL;rw[Zn e,z,Ve]
  have s:KS q (XM l)=KS q l:=rfl;rcases Vd.1 a with a|a
  ·obtain⟨k,t,⟨p,v,_⟩,d,_,G,_,rfl⟩:=ZaU.1 a;obtain⟨r,y,j,w,J,C,f,I,_⟩:=h.ok.link _ t;subst C;simp only at p v;subst p;have A:r=i:=by omega
   subst A;have b:isLink n r y j w true:=t;have o:j<7:=by have:=B.runs;omega
   have:=ZlL h o (Zmg h b);rw[ZjU,m];simp only[Ve];exact⟨by omega,by show (_++[_]).length=_;simp⟩
  ·split at a
   ·rcases Vd.1 a with a|a
    ·have:=ZfH (n:=n) (q:=q) (l:=XM l) f a;rw[s]at this;exact⟨by omega,this.2⟩
    ·have:=ZmT (n:=n) (q:=q) (l:=XM l) a;rw[s]at this;exact⟨by omega,this.2⟩
   ·simp at a
 ·rw[Zg e]at a;by_cases g:l.1.1=2
  ·rw[Zn g]at a;have:=ZfH f a;have m:hL n q l=20*KS q l+5:=by unfold hL;rw[Zg e,Zn g]
   exact⟨by omega,this.2⟩
  ·rw[Zg g]at a;have m:hL n q l=20*KS q l+19:=by unfold hL;rw[Zg e,Zg g]
   rcases Vd.1 a with a|a
   ·have:=ZfH f a;exact⟨by omega,this.2⟩
   ·have:=ZmT a;exact⟨by omega,this.2⟩
end Q
namespace Q
open Tr Go
variable {F:Kc}{hF:FO F}{n:Zf}{q:Zr}
open Classical in
noncomputable def ZS(l:Zs):Zs:=if l.1.1=1 then XM l else l
noncomputable def Xq(n:Zf)(q:Zr)(l:Zs):Int:=if l.1.1=1 then l.2.1+XJ n l.1.2.1 else if l.1.1=2 then l.2.1 else l.2.1+(if q.2.2.2.2.2.2.2.2.2.1=true then XJ n l.1.2.1 else 0)
theorem YV{l x:Zs} :x∈JK n q l↔(l.1.1=1/\x∈HL n l)\/((l.1.1=1->Xm n l=true)/\x∈YP n q (ZS l) (Xq n q l))\/((l.1.1=1->Xm n l=true)/\l.1.1≠2/\x∈HR n q (ZS l)):=by
 unfold JK ZS Xq
 grind
theorem ZaB(l:Zs):(ZS l).1=l.1/\(ZS l).2.1=l.2.1/\(ZS l).2.2.1=l.2.2.1/\(ZS l).2.2.2.1=l.2.2.2.1/\(ZS l).2.2.2.2.2.1=l.2.2.2.2.2.1:=by
 unfold ZS
 split<;>exact⟨rfl,rfl,rfl,rfl,rfl⟩
def ZaS(rode:Bool):List Zt->Bool
 |[]=>rode
 |x::l=>ZaS x.1 l
theorem Zko(rode:Bool)(L:List Zt)(x:Zt):ZaS rode (L++[x])=x.1:=by
 induction L generalizing rode with
 |nil=>rfl
 |cons y L a=>exact a _
theorem Zcv{n:Zf}{x:Zt} :∀{L:List Zt}{rode:Bool}{out o:List ZJ},K2 n L rode out=(o,0)->K2 n (L++[x]) rode out=K2 n [x] (ZaS rode L) o
 |[],rode,out,o,h=>by
  have:out=o:=(Vv h).1
  subst this;rfl
 |y::L,rode,out,o,h=>by
  rw[List.cons_append,Gg];rw[Gg]at h;by_cases a:y.1=true/\Ku n y=false
  ·grind
  rw[Zg a]at h⊢;by_cases b:KG y=true/\(y.1=false\/rode=false)
  ·grind
  rw[Zg b]at h⊢;by_cases c3:y.1=true
  ·rw[Zn c3]at h⊢;rw[Zcv h];show _=K2 n [x] (ZaS y.1 L) o
   grind
  ·rw[Zg c3]at h⊢;rw[Zcv h];show _=K2 n [x] (ZaS y.1 L) o
   grind
theorem ZjT(s t a b:Int)(rode:Bool)(out:List ZJ):K2 n [KI s t a b] rode out=(out,0):=by rfl
theorem ZgK{i b c:Nat}(st:Bool)(f:i<n.2.2.1.length)(d:b<c)(e:c<(Zw n i).length):Ku n (ZV n i b c st)=true:=by
 unfold Ku;have a:ZU (ZV n i b c st).2.1 n.2.2.1.length=true:=by show ZU (i:Int) _=true;unfold ZU;grind
 rw[a];show (true&& (decide (0<=(b:Int)) && (decide ((b:Int)<(c:Int)) &&decide ((c:Int)<((Zw n i).length:Int)))))=true
 grind
theorem ZqQ(a:Ws n){i b c:Nat}(j:i<n.2.2.1.length)(g:b<c)(h:c<(Zw n i).length)(rode:Bool)(out:List ZJ):K2 n [ZV n i b c false] rode out=(out++[GN n (Ra (Zi n i b).2.2.1) (ZV n i b c false)],0):=by
 have d:=ZgK (n:=n) false j g h;rw[Gg,Zg (by grind),Zg (by simp [ZV,KG]),Zn (by rfl),Zg (by simp [ZV,KG])];show (out++[Xf n (ZV n i b c false)],(0:Int))=_
 have e:Xf n (ZV n i b c false)=GN n (Ra (Zi n i b).2.2.1) (ZV n i b c false):=by obtain⟨_,_,k,f⟩:=Zaf a d;unfold Xf GN Ra;have z:(0:Int)=((0:Nat):Int):=rfl;simp only;rw[z,HG (by omega) (ZcQ a d),HG (by omega) (YW f),Nat.zero_or,Nat.zero_or];rfl
 rw[e]
theorem ZqR{i b c:Nat}(g:i<n.2.2.1.length)(d:b<c)(f:c<(Zw n i).length)(out:List ZJ)(v:ZJ):K2 n [ZV n i b c true] true (out++[v])=(out++[GN n v (ZV n i b c true)],0):=by
 have k:=ZgK (n:=n) true g d f;rw[Gg,Zg (by grind),Zg (by simp [ZV]),Zn (by rfl),Zn (by rfl)];show (XH n _ _,(0:Int))=_
 have e:XH n (ZV n i b c true) (out++[v])=out++[GN n v (ZV n i b c true)]:=by
  have j:(out++[v])[(out++[v]).length - 1]? =some v:=by simp
  have a:XH n (ZV n i b c true) (out++[v])=XX n (ZV n i b c true) (out++[v]) v:=by unfold XH;simp
  rw[a];unfold XX;have h:(out++[v]).length - 1=out.length:=by simp
  rw[h,List.set_append_right _ _ (Vk _),Nat.sub_self];rfl
 rw[e]
theorem ZsJ(a:WW n){i b c:Nat}(st:Bool)(e:i<n.2.2.1.length)(j:b<c)(d:c<(Zw n i).length){v:ZJ}(f:Small v)(k:J5 v.1):Yi (GN n v (ZV n i b c st)):=by have g:=ZgK (n:=n) st e j d;obtain⟨_,_,l,h⟩:=Zaf a.sound g;have p:=ZcQ a.sound g;have m:=YW h;have o:=a.time e d;exact⟨⟨Zej f.1 (by omega),Zej f.2 (by grind)⟩,k,by show 0<=(Zi n i c).2.1;omega,by show (Zi n i c).2.1<=_;omega⟩
structure LI (F:Kc) (hF:FO F) (n:Zf) (q:Zr) (l:Zs):Prop where
 val:LV F hF n q l
 cnt:((Wm l.2.2.2.2.1).length:Int)+(if l.1.1=1 then 1 else 0)=l.2.2.1
 ht:l.2.2.2.2.2.1.length+hL n q l<=79
 zero:l.1.1=0->l.2.2.2.2.2.1=[]/\l.2.2.1=0/\l.2.2.2.1=0/\l.2.1=q.2.2.1
 kinds:l.1.1=0\/l.1.1=1\/l.1.1=2
 rgo:K2 n l.2.2.2.2.2.1 false []=(Wm l.2.2.2.2.1++(if l.1.1=1 then [l.1.2.2.2.2.1] else []),0)
 rode:ZaS false l.2.2.2.2.2.1=decide (l.1.1=1)
 wlk:K9 l.2.2.2.2.2.1=l.2.2.2.1
 lok:∀x∈l.2.2.2.2.2.1,HU x
 last:∀L x,l.2.2.2.2.2.1=L++[x]->x.2.2.2.2.2.2.2.1=l.2.1
 some:l.1.1≠0->l.2.2.2.2.2.1≠ []
 adj:∀x,l.2.2.2.2.2.1=[x]->x.1=false->x.2.2.2.2.2.2.1<=x.2.2.2.2.2.2.2.1/\x.2.2.2.2.2.2.2.1<=x.2.2.2.2.2.2.1+14400/\KG x=false
theorem Zjf(h:QI q){l:Zs}(a:LI F hF n q l):LV F hF n q (ZS l)/\K2 n l.2.2.2.2.2.1 false []=(Wm (ZS l).2.2.2.2.1,0)/\((Wm (ZS l).2.2.2.2.1).length:Int)=l.2.2.1:=by
 have m:=a.val.rides;have k:=h.rides;have f:=a.cnt;have b:=a.rgo;unfold ZS;by_cases c:l.1.1=1
 ·rw[Zn c]at f b⊢;have d:(Wm l.2.2.2.2.1).length+1<=8:=by omega
  have j:=a.val.next c d
  obtain⟨_,g,_⟩:=Zct a.val c d;have e:Wm (XM l).2.2.2.2.1=Wm l.2.2.2.2.1++[l.1.2.2.2.2.1]:=Zel g
  grind
 ·rw[Zg c]at f b⊢;rw[Vca]at b;exact⟨a.val,b,by omega⟩
theorem ZqP(L:List Zt)(d:Int)(rode:Bool)(out:List ZJ)(h:∀x,L=[x]->x.1=false->KG x=false):K2 n (WT L d) rode out=K2 n L rode out:=by
 match L with
 |[]=>rfl
 |[x]=>
  cases a:x.1 with
  |true=>rw[ZbB a]
  |false=>
   have b:=h x rfl a;rw[RB a,Gg,Gg]
   grind
 |x::y::L=>rfl
theorem Zku(r:Whole n)(w:JQ n){l x:Zs}(m:LI F hF n q l)(G:x∈JK n q l){p:Zs}{i b c:Nat}{st:Bool}{v:ZJ}(g:i<n.2.2.1.length)(z:b<c)(f:c<(Zw n i).length)
 (ex:x=Xs n p i b c st v) (C:XD F hF p) (D:0<=p.2.2.1/\p.2.2.1<=q.2.2.2.2.1) (e:((Wm p.2.2.2.2.1).length:Int)+1=p.2.2.1) (u:p.2.2.2.1=l.2.2.2.1) (o:K9 p.2.2.2.2.2.1=l.2.2.2.1)
 (k:K2 n (p.2.2.2.2.2.1++[ZV n i b c st]) false []=(Wm p.2.2.2.2.1++[GN n v (ZV n i b c st)],0)) (t:∀y∈p.2.2.2.2.2.1,HU y) (E:Small v) (A:J5 v.1):LI F hF n q x:=by
 have j:=r.ok;obtain⟨H,I⟩:=ZmO r w m.val G;have B:=m.ht;have J:=j.time g f;subst ex;have s:(Xs n p i b c st v).2.2.2.2.2.1.length<=79:=by omega
 refine⟨⟨C,by omega,D,by show 0<=p.2.2.2.1/\p.2.2.2.1<=_;rw[u];exact m.val.walk,⟨by show 0<=(Zi n i c).2.1;omega,by show (Zi n i c).2.1<=_;omega⟩,j.stop g f,fun _=>⟨i,c,rfl,rfl,g,f,rfl,rfl,ZsJ j st g z f E A⟩,?_⟩,e,by omega,fun h=>absurd h (by show¬(1:Int)=0;decide),.inr (.inl rfl),k,?_,?_,?_,?_,by grind,?_⟩
 ·intro y a d;have:=Vja.1 (by assumption);rcases this with ⟨_,h⟩|⟨_,h⟩
  ·have:y=ZV n i b c st:=(Vab.1 h).symm;subst this;cases d
  grind
 ·exact Zko _ _ _
 ·show K9 (p.2.2.2.2.2.1++[ZV n i b c st])=p.2.2.2.1;rw[ZcM,o,u]
  have:K9 [ZV n i b c st]=0:=by rfl
  omega
 ·intro y a;rcases Vd.1 (by assumption) with a|a
  ·grind
  ·rw[Vb]at a;subst a;show (Zi n i c).2.1<=_;omega
 ·intro L y a;have:=Veb (show p.2.2.2.2.2.1++[ZV n i b c st]=L++[y] from a) rfl;have:y=ZV n i b c st:=by grind
  subst this;rfl
 ·intro y a d;rcases Vja.1 (by assumption) with ⟨_,h⟩|⟨_,h⟩
  ·have:y=ZV n i b c st:=(Vab.1 h).symm;subst this;cases d
  grind
theorem ZqI(b:WW n){l:Zs}(a:LV F hF n q l):l.2.1<=Xq n q l:=by have:=b.change _ a.stop.1 a.stop.2;unfold Xq XJ;omega
theorem Zi1(b:WW n){l:Zs}(d:LV F hF n q l){i c:Nat}(h:GG n (ZS l) (Xq n q l) i c):l.2.1<=(Zi n i c).2.2.1:=by
 have e:=ZqI b d;have f:=(ZaB l).2.1;rcases h.2.2.2.2 with a|a
 all_goals omega
theorem Zkv(D:Whole n)(H:JQ n)(Z:QI q){l x:Zs}(b:LI F hF n q l)(G:x∈JK n q l):LI F hF n q x:=by
 have s:=D.ok;obtain⟨P,W,c3⟩:=Zjf Z b;obtain⟨s1,s2,V,O,s5⟩:=ZaB l;rcases YV.1 G with ⟨N,hs⟩|⟨_,hb⟩|⟨_,k2,hw⟩
 ·obtain⟨k,hk,⟨_,_,_,a0,C⟩,d,Q,A,_,ex⟩:=ZaU.1 hs;obtain⟨r,d0,j,d',sy,he,hr,T,_⟩:=s.link _ hk;subst he;simp only[Ve]at*;obtain⟨_,_,_,_,_,_,_,_,o⟩:=b.val.kind N;have E:=b.rgo;have B:=b.rode;have v:=b.cnt;rw[Zn N]at E v;rw[Ze N]at B;refine Zku D H b G T Q A ex b.val.fare b.val.rides v rfl b.wlk ?_ b.lok o.1 o.2.1;rw[Zcv E,B];exact ZqR T Q A _ _
 ·obtain⟨i,c,d,I,u,A,t,J,_,ex⟩:=Di.1 hb;have C:=Zi1 s b.val t;have hc:c<(Zw n i).length:=by omega
  have ht:=s.time I hc;rw[V]at J;have a5:=b.val.rides
  have f:(Xa n (ZS l) i c).2.2.2.2.2.1=WT l.2.2.2.2.2.1 (Zi n i c).2.2.1:=by
   show WT (ZS l).2.2.2.2.2.1 _=_
   grind
  have M:∀y,l.2.2.2.2.2.1=[y]->y.1=false->KG y=false:=fun y R S=>(b.adj y R S).2.2;refine Zku (p:=Xa n (ZS l) i c) D H b G I u A ex P.fare ⟨?_,?_⟩ ?_ O ?_ ?_ ?_ (ZkL _) ⟨by show 0<=(Zi n i c).2.2.1;omega,by show (Zi n i c).2.2.1<=_;omega⟩
  ·show 0<=(ZS l).2.2.1+1;omega
  ·show (ZS l).2.2.1+1<=_;omega
  ·show ((Wm (ZS l).2.2.2.2.1).length:Int)+1=(ZS l).2.2.1+1;omega
  ·rw[f, <-b.wlk]
   match hL:l.2.2.2.2.2.1 with
   |[]=>rfl
   |[y]=>
    cases a:y.1 with
    |true=>rw[ZbB a]
    |false=>
     obtain⟨a1,a2,a3⟩:=b.adj y hL a
     obtain⟨X,f2⟩:=b.val.first y hL a
     rw[RB a];unfold K9 HQ;simp only[Vp,Vma,Vs,Vna,a];have Y:0<=y.2.2.2.2.2.2.1:=X.1
     grind
   |y::z::L=>rfl
  ·rw[f];have E:K2 n (WT l.2.2.2.2.2.1 (Zi n i c).2.2.1) false []=(Wm (ZS l).2.2.2.2.1,0):=by rw[ZqP _ _ _ _ M];omega
   rw[Zcv E];exact ZqQ s.sound I u A _ _
  ·rw[f];intro y a
   match hL:l.2.2.2.2.2.1 with
   |[]=>rw[hL]at a;cases a
   |[z]=>
    rw[hL]at a
    cases U:z.1 with
    |true=>
     rw[ZbB U,Vb]at a;subst a
     exact b.lok _ (by grind)
    |false=>
     rw[RB U,Vb]at a;subst a;show (Zi n i c).2.2.1<=_
     omega
   |z::w::L=>
    rw[hL]at a;exact b.lok _ (by rw[hL];assumption)
 ·obtain⟨p,hp,⟨w1,w2,w3⟩,ex⟩:=D8.1 hw;rw[O]at w2;rw[s2]at w3;rw[s1]at w1;obtain⟨R,S⟩:=ZmO D H b.val G;have a4:=b.ht;have K:=s.path p hp;have C:=b.val.time;have a6:=b.val.walk;subst ex
  have e:(XK (ZS l) p).2.2.2.2.2.1=l.2.2.2.2.2.1++[KI l.1.2.1 p.2.1 l.2.1 (l.2.1+p.2.2.1)]:=by
   show (ZS l).2.2.2.2.2.1++[KI (ZS l).1.2.1 p.2.1 (ZS l).2.1 ((ZS l).2.1+p.2.2.1)]=_
   grind
  have m:(XK (ZS l) p).2.1=l.2.1+p.2.2.1:=by show (ZS l).2.1+_=_;omega
  have g:∀y,(XK (ZS l) p).2.2.2.2.2.1=[y]->y=KI l.1.2.1 p.2.1 l.2.1 (l.2.1+p.2.2.1):=by grind
  refine⟨⟨P.fare,by omega,?_,?_,?_,K.2.1,fun h=>absurd h (by show¬(2:Int)=1;decide),?_⟩,?_,by omega,fun h=>absurd h (by show¬(2:Int)=0;decide),.inr (.inr rfl),?_,?_,?_,?_,?_,by grind,?_⟩
  ·show 0<=(ZS l).2.2.1/\(ZS l).2.2.1<=_;rw[V];exact b.val.rides
  ·show 0<=(ZS l).2.2.2.1+p.2.2.1/\(ZS l).2.2.2.1+p.2.2.1<=_;omega
  ·omega
  ·intro y a _;rw[g y a,m];exact⟨⟨by show 0<=l.2.1;omega,by show l.2.1<=_;omega⟩,rfl⟩
  ·show ((Wm (ZS l).2.2.2.2.1).length:Int)+(if (2:Int)=1 then 1 else 0)=(ZS l).2.2.1
   omega
  ·rw[e,Zcv W,ZjT]
   show _=(Wm (ZS l).2.2.2.2.1++(if (2:Int)=1 then _ else []),(0:Int))
   simp
  ·rw[e,Zko];rfl
  ·rw[e,ZcM,b.wlk];show _=(ZS l).2.2.2.1+p.2.2.1;rw[O]
   have:K9 [KI l.1.2.1 p.2.1 l.2.1 (l.2.1+p.2.2.1)]=p.2.2.1:=by
    unfold K9 HQ KI
    grind
   omega
  ·rw[e];intro y a;rcases Vd.1 a with a|a
   ·exact b.lok y a
   ·rw[Vb]at a;subst a;show l.2.1+p.2.2.1<=_;omega
  ·intro L y a;rw[e]at a;have:=Veb a rfl;have:y=KI l.1.2.1 p.2.1 l.2.1 (l.2.1+p.2.2.1):=by grind
   subst this;rw[m];rfl
  ·intro y a _;rw[g y a];exact⟨by show l.2.1<=l.2.1+p.2.2.1;omega,by show l.2.1+p.2.2.1<=l.2.1+14400;omega,rfl⟩
theorem ZmP(c:Whole n)(b:JQ n)(a:QI q){l:Zs}(d:LI F hF n q l):∀x∈JK n q l,XD F hF x:=fun _ e=>(Zkv c b a d e).val.fare
end Q
namespace Q
open Tr Go
variable {F:Kc}{hF:FO F}{n:Zf}{q:Zr}
theorem Zje(v:QI q){a b:Zs}(f:LI F hF n q a)(g:LI F hF n q b)(h:Jy F hF a b):Jy F hF (ZS a) (ZS b):=by
 obtain⟨e,j,k,l,m⟩:=h;unfold ZS;by_cases d:a.1.1=1
 ·have c:b.1.1=1:=by grind
  rw[Zn d,Zn c];refine⟨e,j,k,l,?_⟩;have w:=v.rides;have o:=f.cnt;have x:=f.val.rides;have p:=g.cnt;have y:=g.val.rides;rw[Zn d]at o;rw[Zn c]at p;obtain⟨_,t,_⟩:=Zct f.val d (by omega);obtain⟨_,u,_⟩:=Zct g.val c (by omega);have r:Wm (XM a).2.2.2.2.1=Wm a.2.2.2.2.1++[a.1.2.2.2.2.1]:=Zel t;have s:Wm (XM b).2.2.2.2.1=Wm b.2.2.2.2.1++[b.1.2.2.2.2.1]:=Zel u;rw[r,s,e,Vm,Vm];exact m.snoc (Km b.1.2.2.2.2.1)
 ·have c:¬b.1.1=1:=by grind
  rw[Zg d,Zg c];exact⟨e,j,k,l,m⟩
theorem Zuc(Z:WW n)(E:QI q){a b x:Zs}(G:LI F hF n q a)(u:LI F hF n q b)(h:Jy F hF a b)(V:x∈JK n q b):∃y∈JK n q a,Jy F hF y x:=by
 have J:=Zje E G u h;obtain⟨Y,A,B,C,D⟩:=h;have H:Xm n a=Xm n b:=by unfold Xm;grind
 have K:Xq n q a<=Xq n q b:=by
  unfold Xq
  grind
 obtain⟨W,X,c3,w,r⟩:=J;rcases YV.1 V with ⟨v,T⟩|⟨v,j⟩|⟨v,k2,U⟩
 ·obtain⟨k,N,⟨e,f,s,g,t⟩,d,z,m,o,rfl⟩:=ZaU.1 T;refine⟨Xs n a k.2.2.1.toNat 0 d true a.1.2.2.2.2.1,YV.2 (.inl ⟨by grind,ZaU.2 ⟨k,N,⟨e,by grind,by grind,g,Vnb A t⟩,d,z,m,o,rfl⟩⟩),?_⟩;refine⟨?_,Vpa _,B,C,D⟩;show (_,_)=(_,_)
  grind
 ·obtain⟨i,c,d,M,l,m,⟨e,f,s,g,t⟩,P,o,rfl⟩:=Di.1 j;have O:Gb n (ZS a) i c=Gb n (ZS b) i c:=by unfold Gb;grind
  have S:=(ZaB b).2.2.1;have R:=(ZaB a).2.2.1;have I:=u.val.rides;refine⟨Xs n (Xa n (ZS a) i c) i c d false (Ra (Zi n i c).2.2.1),YV.2 (.inr (.inl ⟨by grind,Di.2 ⟨i,c,d,M,l,m,⟨e,f,by grind,g,?_⟩,?_,o,rfl⟩⟩)),?_⟩
  ·grind
  ·omega
  ·exact⟨rfl,Vpa _,by show (ZS a).2.2.1+1<=(ZS b).2.2.1+1;omega,w,r⟩
 ·obtain⟨p,Q,⟨e,f,s⟩,rfl⟩:=D8.1 U;refine⟨XK (ZS a) p,YV.2 (.inr (.inr ⟨by grind,by grind,D8.2 ⟨p,Q,⟨by grind,by omega,by omega⟩,rfl⟩⟩)),?_⟩;exact⟨rfl,by show (ZS a).2.1+_<=(ZS b).2.1+_;omega,c3,by show (ZS a).2.2.2.1+_<=(ZS b).2.2.2.1+_;omega,r⟩
end Q
namespace Q
open Tr Go
variable {F:Kc}{hF:FO F}{n:Zf}{q:Zr}
inductive Rc (n:Zf) (q:Zr) (s0:Zs):Zs->Prop
 |start:Rc n q s0 s0
 |step {l x:Zs} (h:Rc n q s0 l) (hx:x∈JK n q l):Rc n q s0 x
theorem Rc.li(d:Whole n)(c:JQ n)(b:QI q){s0 l:Zs}(a:LI F hF n q s0)(h:Rc n q s0 l):LI F hF n q l:=by
 induction h with
 |start=>exact a
 |step _ e f=>exact Zkv d c b f e
structure Ze9 (F:Kc) (hF:FO F) (n:Zf) (q:Zr) (s0:Zs) (st:Wa) (N:Nat):Prop where
 good:Xi F hF n q st N
 pot:N+((Xv st).map fun l=>wL n q l - 1).sum<=542198816521
 cnt:st.2.2.2.2.1.length+(Xv st).length<=N
 lab:∀p o,o∈Jt st p->Rc n q s0 o/\(o∈Xv st\/((∀c∈JK n q o,∃o' ∈Jt st c.1,Jy F hF o' c)/\ ∀x∈Jx n q o,x∈st.2.2.2.2.1))
 que:∀o∈Xv st,o∈Jt st o.1
 opt:∀x∈st.2.2.2.2.1,∃l,Rc n q s0 l/\x∈Jx n q l
 first:∃o∈Jt st s0.1,Jy F hF o s0
theorem Zua(l:Zs):(Jx n q l).length<=1:=by
 unfold Jx Za0;split
 ·split
  ·split<;>simp
  ·simp
 ·simp
theorem ZhC(w:Zs->Nat)(h:∀l,1<=w l)(ls:List Zs):ls.length+(ls.map fun l=>w l - 1).sum=(ls.map w).sum:=by
 induction ls with
 |nil=>rfl
 |cons x ls a=>
  have:=h x;simp only[List.length_cons,Vp,Vs];omega
theorem Zro(w:Zs->Nat)(h:∀l,1<=w l)(ls:List Zs):ls.length<=(ls.map w).sum:=by have:=ZhC w h ls;omega
theorem Zs6(O:Whole n)(hT:JQ n)(M:QI q)(b0:q.2.2.2.2.1<=3)(hp:n.2.2.2.2.1.length<=4096)(P:∀l,LI F hF n q l->∃r,F78 n q (l.2.2.2.2.2.1,())=some r){s:JP}(c0:Int)
 (Y:LI F hF n q ((0,q.1,0,0,(0,0,0,0,()),()),q.2.2.1,0,0,s,[],())):
 ∃a,F164 (n,q,[],((),[],c0,()),[],()) s=some a/\a.2.2.2.2.1.length<=542198816521/\(∀x∈a.2.2.2.2.1,∃l,Rc n q ((0,q.1,0,0,(0,0,0,0,()),()),q.2.2.1,0,0,s,[],()) l/\x∈Jx n q l)/\
  ∀l,Rc n q ((0,q.1,0,0,(0,0,0,0,()),()),q.2.2.1,0,0,s,[],()) l->∃o,Rc n q ((0,q.1,0,0,(0,0,0,0,()),()),q.2.2.1,0,0,s,[],()) o/\Jy F hF o l/\ ∀x∈Jx n q o,x∈a.2.2.2.2.1:=by
 have hN:=O.ok;generalize U:(((0,q.1,0,0,(0,0,0,0,()),()),q.2.2.1,0,0,s,[],()):Zs)=s0 at Y⊢;have v:∀p,Jt ((n,q,[],((),[],c0,()),[],()):Wa) p=[]:=fun _=>rfl;have a6:Xi F hF n q (n,q,[],((),[],c0,()),[],()) 0:=⟨rfl,rfl,fun p o e=>absurd e (by rw[v];simp),fun p=>(by rw[v];simp),(by simp [Xv])⟩;obtain⟨st1,a1,sub,b1,b2,b3,⟨b4,b5,b6⟩,b7,b8,b9,a5⟩:=Zfo a6 Y.val.fare (by omega);have D:∀l,1<=wL n q l:=fun l=>Zuh
 have c9:wL n q s0<=542198816521:=by
  have:wL n q s0=gW (KS q s0):=by rw[<-U];unfold wL;rfl
  rw[this];have R:KS q s0<=3:=by rw[<-U];unfold KS;simp only;omega
  have t:∀k,gW k<=gW (k+1):=fun k=>by show gW k<=61+1260*gW k;omega
  have:gW (KS q s0)<=gW 3:=by
   generalize KS q s0=k at R;have h3:gW 0<=gW 1:=t 0;have h4:gW 1<=gW 2:=t 1;have h5:gW 2<=gW 3:=t 2
   rcases (show k=0\/k=1\/k=2\/k=3 by omega) with rfl|rfl|rfl|rfl<;>omega
  exact Vi this (by decide)
 have a8:Ze9 F hF n q s0 st1 sub.length:=by
  have w:(Xv st1).Perm sub:=by
   have:=b3
   rwa [show Xv ((n,q,[],((),[],c0,()),[],()):Wa)=[] from rfl,Vca]at this
  refine⟨⟨b4,b5,fun p o e=>?_,fun p=>?_,by rw[w.length_eq];exact Vk _⟩,?_,?_,fun p o e=>?_,fun o e=>?_,?_,a5 _ (by simp)⟩
  ·rcases (b7 p o).1 e with h|⟨z,Z⟩
   ·rw[v]at h;cases h
   ·have:=b2 o z;rw[Vb]at this;subst this;exact⟨Z,Y.val.fare⟩
  ·have:=b8 p;rw[v]at this;simpa using this
  ·have:=(w.map fun l=>wL n q l - 1).sum_nat;rw[this,ZhC _ D];have:=b9 (wL n q);simp only[Vp,Vma,Vs,Vna]at this;omega
  ·rw[b6,w.length_eq];simp
  ·rcases (b7 p o).1 e with h|⟨z,Z⟩
   ·rw[v]at h;cases h
   ·have:=b2 o z;rw[Vb]at this;refine⟨by rw[this];exact .start,.inl (w.mem_iff.2 z)⟩
  ·exact(b7 _ _).2 (.inr ⟨w.mem_iff.1 e,rfl⟩)
  ·rw[b6];simp
 unfold F164;simp only;rw[U];refine Wl (fun x=>x=st1) ⟨_,a1,rfl⟩ ?_;rintro st1 rfl;refine run_bind (fun st=>∃N,Ze9 F hF n q s0 st N) (fun st=>((Xv st).map (wL n q)).sum) (fun r=>∃N,Ze9 F hF n q s0 r N/\Xv r=[]) ⟨_,a8⟩ ?_ ?_
 ·rintro ⟨sn,sq,sb,⟨⟨⟩,d,A,⟨⟩⟩,E,⟨⟩⟩ ⟨N,b⟩;obtain rfl:n=sn:=b.good.net.symm;obtain rfl:q=sq:=b.good.que.symm;have H:=b.pot;have G:E.length+(Xv ((n,q,sb,((),d,A,()),E,()):Wa)).length<=N:=b.cnt;have T:Xv ((n,q,sb,((),d,A,()),E,()):Wa)=d.map Vfa:=rfl;rw[T]at H G;rw[Vl]at G;have a2:F61 ((),d,A,())=some (((),d,A,()),(d.length:Int)):=rfl;simp only[a2,Za];by_cases S:d=[]
  ·right;subst S;refine⟨_,rfl,N,b,rfl⟩
  ·left;have a9:0<d.length:=Vya.2 S;rw[Ze (show (0:Int)<(d.length:Int) by omega),Zc];obtain⟨m,x,p1,p2⟩:=ZtA (l:=d) (c:=A) S (by omega);have hx:x.1∈Xv ((n,q,sb,((),d,A,()),E,()):Wa):=Vr.2 ⟨x,p2.mem_iff.2 (by simp),rfl⟩;have Q:x.1∈Jt ((n,q,sb,((),d,A,()),E,()):Wa) x.1.1:=b.que _ hx;have j:LI F hF n q x.1:=((b.lab _ _ Q).1).li O hT M Y;have C:=p2.map (Vfa)
   have a3:((d.map Vfa).map (wL n q)).sum=wL n q x.1+((m.map Vfa).map (wL n q)).sum:=by have:=(C.map (wL n q)).sum_nat;rw[this];simp
   have W:((d.map Vfa).map fun l=>wL n q l - 1).sum=(wL n q x.1 - 1)+((m.map Vfa).map fun l=>wL n q l - 1).sum:=by have:=(C.map fun l=>wL n q l - 1).sum_nat;rw[this];simp
   have c4:d.length=m.length+1:=by have:=p2.length_eq;simpa using this
   have c8:=Zud O hT j.val;have c6:=Zro (wL n q) D (JK n q x.1);have d0:=D x.1;rw[W]at H
   have a7:Xi F hF n q ((n,q,sb,((),m,A,()),E,()):Wa) N:=by refine⟨rfl,rfl,b.good.lab,b.good.few,?_⟩;show (m.map Vfa).length<=N;rw[Vl];omega
   have a0:x.1.1.1=1->(Wm x.1.2.2.2.2.1).length+1<=8:=fun k1=>by have c1:=j.cnt;have c2:=j.val.rides;rw[Zn k1]at c1;omega
   obtain⟨a,v1,sub,d1,d2,d3,⟨d4,d5,d6⟩,d7,d8,d9,d10⟩:=Zue hN M hp a7 j.val a0 (ZmP O hT M j) (P _ j) (by omega) (show E.length+1<=_ by omega);refine⟨a,?_,⟨N+sub.length,?_⟩,?_⟩
   ·refine KM (fun y=>y=(((),m,A,()),x.1,true)) ⟨_,p1,rfl⟩ ?_;rintro _ rfl;refine KM (fun y=>y=a) ⟨_,v1,rfl⟩ ?_;rintro _ rfl;rfl
   ·have f:(Xv a).Perm (sub++m.map Vfa):=d3;have V:=d9 (wL n q);have c5:=ZhC (wL n q) D sub;have c7:=Zua (n:=n) (q:=q) x.1;have g:∀p o,o∈Jt ((n,q,sb,((),d,A,()),E,()):Wa) p->o∈Jt a p:=fun p o e=>(d7 p o).2 (.inl e);have a4:(∀c∈JK n q x.1,∃X∈Jt a c.1,Jy F hF X c)/\ ∀y∈Jx n q x.1,y∈a.2.2.2.2.1:=⟨d10,fun y hy=>by rw[d6];exact Vta _ hy⟩;refine⟨⟨d4,d5,fun p o e=>?_,fun p=>?_,?_⟩,?_,?_,fun p o e=>?_,fun o e=>?_,fun y hy=>?_,?_⟩
    ·rcases (d7 p o).1 e with h|⟨z,Z⟩
     ·exact b.good.lab p o h
     ·exact⟨Z,ZmP O hT M j o (d2 o z)⟩
    ·have e1:=d8 p;have e2:=b.good.few p;exact Vi e1 (Nat.add_le_add_right e2 _)
    ·rw[f.length_eq,Vn,Vl];omega
    ·have:=(f.map fun l=>wL n q l - 1).sum_nat;rw[this,Vm,Vba];omega
    ·rw[d6,Vn,f.length_eq,Vn,Vl];show E.length+_+_<=_;omega
    ·rcases (d7 p o).1 e with h|⟨z,Z⟩
     ·obtain⟨K,B⟩:=b.lab p o h;refine⟨K,?_⟩;rcases B with B|⟨B,g3⟩
      ·have g4:o∈d.map Vfa:=B;rw[C.mem_iff,Vp,Vga]at g4;rcases g4 with rfl|g4
       ·exact .inr a4
       ·exact .inl (f.mem_iff.2 (Vta _ g4))
      ·refine .inr ⟨fun c hc=>?_,fun y hy=>?_⟩
       ·obtain⟨X,I,J⟩:=B c hc;exact⟨X,g _ _ I,J⟩
       ·rw[d6];exact Vua _ (g3 y hy)
     ·exact⟨.step (b.lab _ _ Q).1 (d2 o z),.inl (f.mem_iff.2 (Vua _ z))⟩
    ·rcases Vd.1 (f.mem_iff.1 e) with h|h
     ·exact(d7 _ _).2 (.inr ⟨h,rfl⟩)
     ·refine g _ _ (b.que o ?_);show o∈d.map Vfa;rw[C.mem_iff,Vp];exact Vva _ h
    ·rw[d6]at hy;rcases Vd.1 hy with h|h
     ·exact b.opt y h
     ·exact⟨x.1,(b.lab _ _ Q).1,h⟩
    ·obtain⟨o,I,J⟩:=b.first
     exact⟨o,g _ _ I,J⟩
   ·have f:(Xv a).Perm (sub++m.map Vfa):=d3;have:=(f.map (wL n q)).sum_nat;rw[this,Vm,Vba];show _<((d.map Vfa).map (wL n q)).sum;rw[a3];have V:=d9 (wL n q);omega
 ·rintro r ⟨N,b,hq⟩;refine⟨_,rfl,?_,b.opt,?_⟩
  ·have z:=b.cnt;have Z:=b.pot;show r.2.2.2.2.1.length<=_;omega
  ·have u:∀p o,o∈Jt r p->Rc n q s0 o/\(∀c∈JK n q o,∃X∈Jt r c.1,Jy F hF X c)/\ ∀x∈Jx n q o,x∈r.2.2.2.2.1:=fun p o e=>by obtain⟨K,B⟩:=b.lab p o e;refine⟨K,B.resolve_left ?_⟩;rw[hq];simp
   have key:∀l,Rc n q s0 l->∃o∈Jt r l.1,Jy F hF o l:=by
    intro l R
    induction R with
    |start=>exact b.first
    |step R hx ih=>
     rename_i l x;obtain⟨o,I,J⟩:=ih;obtain⟨K,B,_⟩:=u _ _ I;obtain⟨y,y1,y2⟩:=Zuc hN M (K.li O hT M Y) (R.li O hT M Y) J hx;obtain⟨X,k1,k2⟩:=B y y1;exact⟨X,by rw[<-y2.1];exact k1,k2.trans y2⟩
   intro l R;obtain⟨o,I,J⟩:=key l R;obtain⟨K,_,g3⟩:=u _ _ I;exact⟨o,K,J,g3⟩
end Q
namespace Q
open Tr Go
def Z9(a b:List Int):Prop:= ∀i,i<4->(a[i]?).getD 0<=(b[i]?).getD 0
instance (a b:List Int):Decidable (Z9 a b):=by unfold Z9;infer_instance
theorem D4(a:List Int):Z9 a a:=fun _ _=>Vpa _
theorem D5{a b c:List Int}(h:Z9 a b)(k:Z9 b c):Z9 a c:=fun i d=>Vnb (h i d) (k i d)
theorem RS:∀a b:List Int,a.length=b.length->Tr.eqEl.eqs (Tr.eqEl (.int .i64)) a b=some (decide (a=b))
 |[],[],_=>rfl
 |[],_::_,h=>by cases h
 |_::_,[],h=>by cases h
 |x::a,y::b,h=>by have c:=RS a b (by grind);unfold Tr.eqEl.eqs;rw[c];simp only[Tr.eqEl,Za];simp
theorem DP{a:List Int}(h:a.length=4){i:Nat}(b:i<4):∃x,a[i]? =some x/\(a[i]?).getD 0=x:=by grind
theorem ZpR{W:List (List Int)}(p:∀w∈W,w.length=4){v:List Int}(A:v.length=4)(I:W.length<=9223372036854775806):∃b,F103 W v=some b/\(b=true↔∃w∈W,Z9 w v):=by
 unfold F103;refine Wl (fun r:Bool=>r=true↔∃w∈W,Z9 w v) ?_ (by simp);refine Ki W.length _ (fun i (s:Bool×Int)=>s=(false,(i:Int))/\ ∀w∈W.take i,¬Z9 w v) ?_ ?_ _ (by simp)
 ·rintro i _ a ⟨rfl,J⟩;have e:idx W (i:Int)=some W[i]:=ZC a;have B:=p _ (Vh a);have y:=Vh a;have z:∀w,w∈W.take (i+1)↔w∈W.take i\/w=W[i]:=fun w=>by rw[Va a,Vd,Vb]
  generalize W[i]=w at*;simp only[ZO a,Zc,e,Za]
  suffices t:∃r:Unit ⊕ Unit,_=some r/\((r=.inr ()/\Z9 w v)\/(r=.inl ()/\ ¬Z9 w v)) by
   obtain⟨r,f,l⟩:=t;rcases l with ⟨rfl,h⟩|⟨rfl,h⟩
   ·exact .inr ⟨true,KM (fun x=>x=Sum.inr ()) ⟨_,f,rfl⟩ (fun x e=>by subst e;rfl),fun _=>⟨w,y,h⟩,fun _=>rfl⟩
   ·refine .inl ⟨_,KM (fun x=>x=Sum.inl ()) ⟨_,f,rfl⟩ (fun x e=>by subst e;rfl),?_,fun u K=>?_⟩
    ·rw[ZW a (by omega)]
    grind
  refine Ki 4 (fun r:Unit ⊕ Unit=>(r=.inr ()/\Z9 w v)\/(r=.inl ()/\ ¬Z9 w v)) (fun j (s:Int)=>s=(j:Int)/\ ∀k,k<j->(w[k]?).getD 0<=(v[k]?).getD 0) ?_ ?_ _ (by simp)
  ·rintro j _ c ⟨rfl,d⟩;rw[Ze (by omega)];obtain⟨D,m,E⟩:=DP B c;obtain⟨C,o,G⟩:=DP A c;simp only[Zc,Kg c,Za,m,o];by_cases g:C<D
   ·rw[Ze g];exact .inr ⟨.inl (),rfl,.inr ⟨rfl,fun h=>by have:=h j c;omega⟩⟩
   ·rw[Zk g];refine .inl ⟨_,rfl,ZW c (by omega),fun k H=>?_⟩
    grind
  ·rintro _ ⟨rfl,d⟩;exact⟨.inr (),rfl,.inl ⟨rfl,d⟩⟩
 simp
theorem ZoO{a b:List Int}(o:a.length=4)(p:b.length=4):F106 a b=some (decide (Z9 a b)):=by
 unfold F106
 suffices h:∃r:Unit ⊕ Bool,_=some r/\((r=.inl ()/\Z9 a b)\/(r=.inr false/\ ¬Z9 a b)) by
  obtain⟨r,f,g⟩:=h;rcases g with ⟨rfl,h⟩|⟨rfl,h⟩
  ·rw[Ze h];exact KM (fun x=>x=Sum.inl ()) ⟨_,f,rfl⟩ (fun x t=>by subst t;rfl)
  grind
 refine Ki 4 (fun r:Unit ⊕ Bool=>(r=.inl ()/\Z9 a b)\/(r=.inr false/\ ¬Z9 a b)) (fun j (s:Int)=>s=(j:Int)/\ ∀k,k<j->(a[k]?).getD 0<=(b[k]?).getD 0) ?_ ?_ _ (by simp)
 ·rintro j _ c ⟨rfl,d⟩;rw[Ze (by omega)];obtain⟨u,l,w⟩:=DP o c;obtain⟨v,m,y⟩:=DP p c;simp only[Zc,Kg c,Za,l,m];by_cases e:v<u
  ·rw[Ze e];exact .inr ⟨.inr false,rfl,.inr ⟨rfl,fun h=>by have:=h j c;omega⟩⟩
  ·rw[Zk e];refine .inl ⟨_,rfl,ZW c (by omega),fun k z=>?_⟩
   grind
 ·rintro _ ⟨rfl,d⟩;exact⟨.inl (),rfl,.inl ⟨rfl,d⟩⟩
theorem Zf4{a b:List Int}(c:a.length=4)(d:b.length=4):F104 a b=some (decide (a≠b/\Z9 a b)):=by
 unfold F104;rw[RS a b (by omega)];simp only[Za,ZoO c d]
 grind
theorem ZpH{a b:List Int}(l:a.length=4)(m:b.length=4):∃z,F102 a b=some z:=by
 unfold F102;rw[RS a b (by omega)];simp only[Za];by_cases h:a=b
 ·simp_all
 ·rw[Zk h,Zd]
  suffices h:∃r:Unit ⊕ Int,_=some r/\True by
   obtain⟨r,f,_⟩:=h
   cases r with
   |inl u=>exact⟨_,KM (fun x=>x=Sum.inl ()) ⟨_,f,rfl⟩ (fun x t=>by subst t;rfl)⟩
   |inr z=>simp_all
  refine Ki 4 (fun _:Unit ⊕ Int=>True) (fun j (s:Int)=>s=(j:Int)) ?_ ?_ _ rfl
  ·rintro j _ c rfl;rw[Ze (by omega)];obtain⟨d,g,v⟩:=DP l c;obtain⟨e,k,w⟩:=DP m c;simp only[Zc,Kg c,Za,g,k];by_cases o:d<e
   ·simp_all
   ·rw[Zk o];by_cases p:e<d
    ·simp_all
    ·rw[Zk p];exact .inl ⟨_,rfl,ZW c (by omega)⟩
  simp
open Classical in
theorem Zsq{W:List (List Int)}(G:∀w∈W,w.length=4){v:List Int}(T:v.length=4)(hl:W.length+1<=549755813888):∃y,F107 W v=some y/\y.length<=W.length+1/\(∀w∈y,w∈W\/w=v)/\(∃w∈y,Z9 w v)/\ ∀w∈W,∃u∈y,Z9 u w:=by
 obtain⟨b,H,I⟩:=ZpR G T (by omega);unfold F107;rw[H]
 cases b with
 |true=>exact⟨W,rfl,by omega,fun w e=>.inl e,I.1 rfl,fun w e=>⟨w,e,D4 w⟩⟩
 |false=>
 simp only[Za,Zd];refine Wl (fun r:List (List Int) ×Int=>∃k:Nat,r.2=(k:Int)/\k<=W.length/\r.1.length=W.length/\r.1.take k=W.filter fun w=> !decide (v≠w/\Z9 v w)) ?_ ?_
 ·refine Ki W.length _ (fun i (s:List (List Int) ×Int×Int)=>∃k:Nat,s.2=((k:Int),(i:Int))/\k<=i/\s.1.length=W.length/\(s.1.take k=(W.take i).filter fun w=> !decide (v≠w/\Z9 v w))/\s.1.drop i=W.drop i) ?_ ?_ _ ⟨0,rfl,Vk _,rfl,by simp,rfl⟩
  ·rintro i ⟨fr,_⟩ f ⟨k,rfl,Q,c,d,t⟩;left;simp only at c d t;have K:i<fr.length:=by omega
   have O:fr[i]? =some W[i]:=by have g:=congrArg List.head? t;rw[Vwa,Vwa,Vc f]at g;exact g
   have U:(W[i]).length=4:=G _ (Vh f)
   have j:(W.take (i+1)).filter (fun w=> !decide (v≠w/\Z9 v w))=(W.take i).filter (fun w=> !decide (v≠w/\Z9 v w))++(if v≠W[i]/\Z9 v W[i] then [] else [W[i]]):=by
    rw[Va f,Vqa];congr 1;by_cases h:v≠W[i]/\Z9 v W[i]
    ·rw[Zn h,Vdb (by rw[Ze h];simp)];rfl
    ·rw[Zg h,List.filter_cons_of_pos (by rw[Zk h];rfl)];rfl
   have m:fr.drop (i+1)=W.drop (i+1):=by have g:=congrArg (Vx 1) t;rw[Vza,Vza]at g;exact g
   simp only[ZO f,Zc,Kg K,O,Za,Zf4 T U,ZW f (show W.length<=9223372036854775807 by omega)];by_cases p:v≠W[i]/\Z9 v W[i]
   ·rw[Zn p,Vca]at j;rw[Ze p];simp only[Vf,Zd];exact⟨_,rfl,k,rfl,by omega,c,by rw[j];exact d,m⟩
   ·rw[Zg p]at j;rw[Zk p];have B:k<fr.length:=by omega
    have V:Vg .i64 ((k:Int)+1)=((k+1:Nat):Int):=by rw[Zy (by omega) (by omega)];omega
    simp only[Vt,Zc,Kg B,Za,Vc B,V];refine⟨_,rfl,k+1,rfl,by omega,by rw[Vqb];exact c,?_,?_⟩
    ·have Z:(fr.set k W[i]).take (k+1)=fr.take k++[W[i]]:=by rw[Va (by rw[Vqb];omega),Vkb (Vk _),Vgb]
     rw[Z,j,d]
    ·rw[Vlb (by omega)];exact m
  ·rintro ⟨fr,_⟩ ⟨k,rfl,Q,c,d,_⟩;rw[Vj]at d;exact⟨(fr,(k:Int)),by simp only[JF,Zd],k,rfl,Q,c,d⟩
 ·rintro ⟨fr,_⟩ ⟨k,rfl,Q,c,d⟩;simp only at c d
  have A:∀i (f:i<k),∃w,fr[i]? =some w/\w.length=4:=fun i f=>by
   have l:i<fr.length:=by omega
   have g:(fr.take k)[i]? =some fr[i]:=by rw[List.getElem?_take,Zn f,Vc l]
   have E:=List.mem_of_getElem? g;rw[d]at E;exact⟨_,Vc l,G _ (Vq.1 E).1⟩
  refine Wl (fun r:Int=>∃a:Nat,r=(a:Int)/\a<=k) ?_ ?_
  ·refine Ki k _ (fun i (s:Int)=>s=(i:Int)) ?_ ?_ _ rfl
   ·rintro i _ f rfl;obtain⟨w,g,E⟩:=A i f;obtain⟨z,X⟩:=ZpH E T;have l:i<fr.length:=by omega
    simp only[Ze (show (i:Int)<(k:Int) by omega),Zc,Kg l,g,Za,X];by_cases Y:z<0
    ·rw[Ze Y];exact .inl ⟨_,rfl,ZW f (by omega)⟩
    ·rw[Zk Y];exact .inr ⟨_,rfl,i,rfl,by omega⟩
   ·rintro _ rfl;exact⟨_,by simp only[Zk (show¬(k:Int)<(k:Int) by omega),Zd,Za],k,rfl,Vk _⟩
  ·rintro _ ⟨a,rfl,ha⟩;have hm:(Zz:Int)=549755813888:=rfl;have a0:(Zz:Nat)=549755813888:=rfl;have e:Vg .i64 ((k:Int) - (a:Int))=((k - a:Nat):Int):=by rw[Zy (by omega) (by omega)];omega
   have hg:ZE (decide ((0:Int)<=((k - a:Nat):Int)/\((k - a:Nat):Int)<=((k - a:Nat):Int)/\((k - a:Nat):Int)<=(Zz:Int)))=some ():=by rw[Ze ⟨by omega,by omega,by omega⟩];rfl
   have R:sliceB fr.length fr.length (some (a:Int)) (some (k:Int))=some (a,k):=by unfold sliceB;simp only[Za];rw[Zn ⟨by omega,by omega⟩,Ve];simp only[Za];rw[Zn ⟨by omega,by omega⟩,Ve]
   have P:Zp (a:Int) (fr.length+1)=some a:=Kg (by omega)
   have S:sliceB fr.length a none (some (a:Int))=some (0,a):=by unfold sliceB;simp
   have o:Vu (k - a) (Vx a fr)=(W.filter fun w=> !decide (v≠w/\Z9 v w)).drop a:=by rw[<-d,List.drop_take]
   have x:(Vu (k - a) (Vx a fr)).length=k - a:=by rw[Voa,List.length_drop];omega
   have C:Vu a fr=(W.filter fun w=> !decide (v≠w/\Z9 v w)).take a:=by rw[<-d,Vrb,Nat.min_eq_left ha]
   simp only[e,hg,Za,R,P,S,Ve,List.length_replicate,x,Nat.min_self]
   have J:Vu (k - a) (Vu (k - a) (Vx a fr))++Vx (k - a) (Vla (k - a) (Tr.zeroEl KP))=Vu (k - a) (Vx a fr):=by have X:Vx (k - a) (Vla (k - a) (Tr.zeroEl KP))=[]:=List.drop_eq_nil_of_le (by simp);rw[Vrb,Nat.min_self,X,Vca]
   rw[J]
   have M:ZE (decide ((Vu a fr).length+ [v].length<=Zz))=some ():=by rw[Ze (by rw[Voa];simp;omega)];rfl
   have N:ZE (decide ((Vu a fr++[v]).length+(Vu (k - a) (Vx a fr)).length<=Zz))=some ():=by rw[Ze (by rw[Vn,Voa,x];simp;omega)];rfl
   refine⟨Vu a fr++[v]++Vu (k - a) (Vx a fr),?_,?_,?_,⟨v,by simp,D4 v⟩,?_⟩
   ·refine KM (fun _=>True) ⟨(),M,trivial⟩ fun _ _=>?_;exact KM (fun _=>True) ⟨(),N,trivial⟩ fun _ _=>rfl
   ·rw[Vn,Vn,Voa,x];simp;omega
   ·intro w e;rw[Vd,Vd,Vb,C,o]at e;rcases e with (e|e) |e
    ·exact .inl ((Vq.1 (List.mem_of_mem_take e)).1)
    ·exact .inr e
    ·exact .inl ((Vq.1 (List.mem_of_mem_drop e)).1)
   ·intro w e;by_cases p:v≠w/\Z9 v w
    ·exact⟨v,by simp,p.2⟩
    ·have D:w∈W.filter fun w=> !decide (v≠w/\Z9 v w):=Vq.2 ⟨e,by rw[Zk p];rfl⟩;rw[<-Vhb a (W.filter fun w=> !decide (v≠w/\Z9 v w)),Vd]at D;refine⟨w,?_,D4 w⟩;rw[Vd,Vd,C,o];rcases D with h|h
     ·exact .inl (.inl h)
     ·exact .inr h
theorem Zr4{V:List (List Int)}(j:∀w∈V,w.length=4)(z:V.length<=542198816521):∃W,F105 V=some W/\W.length<=V.length/\(∀w∈W,w∈V)/\ ∀v∈V,∃w∈W,Z9 w v:=by
 unfold F105;refine Wl (fun W:List (List Int)=>W.length<=V.length/\(∀w∈W,w∈V)/\ ∀v∈V,∃w∈W,Z9 w v) ?_ (by simp);refine Ki V.length _ (fun i (s:List (List Int) ×Int)=>s.2=(i:Int)/\s.1.length<=i/\(∀w∈s.1,w∈V.take i)/\ ∀v∈V.take i,∃w∈s.1,Z9 w v) ?_ ?_ _ ⟨rfl,Vk _,by simp,by simp⟩
 ·rintro i ⟨W,_⟩ a ⟨rfl,g,h,d⟩;left;simp only at g h d;have k:idx V (i:Int)=some V[i]:=ZC a;have b:∀w,w∈V.take (i+1)↔w∈V.take i\/w=V[i]:=fun w=>by rw[Va a,Vd,Vb]
  obtain⟨r,e,t,x,y,f⟩:=Zsq (W:=W) (by grind) (j _ (Vh a)) (by omega);simp only[ZO a,Zc,k,Za,e,ZW a (by omega)];refine⟨_,rfl,rfl,by grind,by grind,fun v c=>?_⟩;rcases (b v).1 c with c|rfl
  ·obtain⟨w,l,m⟩:=d v c;obtain⟨u,o,p⟩:=f w l;exact⟨u,o,D5 p m⟩
  omega
 grind
def Z8(q:Zr)(c:YD):List Int:=if q.2.2.2.1=true then [Vg .i64 (0 - c.1),c.2.2.1,c.2.2.2.1,c.2.2.2.2.1] else [c.2.1,c.2.2.1,c.2.2.2.1,c.2.2.2.2.1]
theorem Zbl(q:Zr)(c:YD):F81 q c=some (Z8 q c):=by
 unfold F81 Z8
 grind
theorem HP(q:Zr)(c:YD):(Z8 q c).length=4:=by
 unfold Z8
 grind
theorem Zpm(q:Zr){O:List Kx}(P:O.length<=542198816521):∃L,F157 q O=some L/\L.length<=O.length/\(∀x∈L,x∈O)/\ ∀y∈O,∃x∈L,Z9 (Z8 q x.2.1) (Z8 q y.2.1):=by
 have C:(Zz:Nat)=549755813888:=rfl;unfold F157;refine Wl (fun V:List (List Int)=>V=O.map fun x=>Z8 q x.2.1) ?_ ?_
 ·refine Ki O.length _ (fun i (s:List (List Int) ×Int)=>s=((O.take i).map (fun x=>Z8 q x.2.1),(i:Int))) ?_ ?_ _ rfl
  ·rintro i _ a rfl;left;have o:idx O (i:Int)=some O[i]:=ZC a;simp only[ZO a,Zc,o,Za,Zbl,ZW a (by omega)];refine⟨_,KM (fun _=>True) ⟨(),?_,trivial⟩ (fun _ _=>rfl),?_⟩
   ·rw[Ze (by grind)];rfl
   ·rw[Va a,Vm];rfl
  simp
 ·rintro _ rfl
  obtain⟨W,J,K,M,N⟩:=Zr4 (V:=O.map fun x=>Z8 q x.2.1) (fun w E=>by obtain⟨x,_,rfl⟩:=Vr.1 E;exact HP q x.2.1) (by grind)
  rw[Vl]at K;refine Wl (fun x=>x=W) ⟨_,J,rfl⟩ ?_;rintro _ rfl;rename_i W;refine Wl (fun L:List Kx=>L.length<=O.length/\(∀x∈L,x∈O)/\ ∀w∈W,∃x∈L,Z8 q x.2.1=w) ?_ ?_
  ·refine Ki W.length _ (fun i (s:List Kx×Int)=>s.2=(i:Int)/\s.1.length<=i/\(∀x∈s.1,x∈O)/\ ∀w∈W.take i,∃x∈s.1,Z8 q x.2.1=w) ?_ ?_ _ ⟨rfl,Vk _,by simp,by simp⟩
   ·rintro i ⟨L,_⟩ a ⟨rfl,f,g,r⟩;left;simp only at f g r;have o:idx W (i:Int)=some W[i]:=ZC a;have b:=M _ (Vh a);have m:∀w,w∈W.take (i+1)↔w∈W.take i\/w=W[i]:=fun w=>by rw[Va a,Vd,Vb]
    generalize W[i]=w at*;simp only[ZO a,Zc,o,Za,ZW a (by omega)];refine Xn (fun e:List Kx=>∃x∈O,Z8 q x.2.1=w/\e=L++[x]) ?_ ?_
    ·obtain⟨T,p,v⟩:=Vr.1 b;obtain⟨Q,z,rfl⟩:=Vo p;refine Ki O.length (fun e:List Kx=>∃x∈O,Z8 q x.2.1=w/\e=L++[x]) (fun j (s:List Kx×Int)=>s=(L,(j:Int))/\ ∀k (A:k<O.length),k<j->Z8 q (O[k]).2.1≠w) ?_ ?_ _ (by simp)
     ·rintro j _ c ⟨rfl,D⟩;have d:idx O (j:Int)=some O[j]:=ZC c
      have I:idx (O.map fun x=>Z8 q x.2.1) (j:Int)=some (Z8 q (O[j]).2.1):=by
       have l:j<(O.map fun x=>Z8 q x.2.1).length:=by grind
       rw[ZC l,List.getElem_map]
      simp only[ZO c,Zc,d,I,Za];rw[RS _ _ (by rw[HP];obtain⟨x,_,rfl⟩:=Vr.1 b;exact(HP q x.2.1).symm)];simp only[Za];by_cases h:Z8 q (O[j]).2.1=w
      ·rw[Ze h];right;refine⟨_,KM (fun _=>True) ⟨(),?_,trivial⟩ (by simp),O[j],Vh c,h,rfl⟩;rw[Ze (by grind)];rfl
      ·rw[Zk h];left;refine⟨_,rfl,?_,fun k A B=>?_⟩
       ·rw[ZW c (by omega)]
       grind
     grind
    ·rintro _ ⟨x,G,H,rfl⟩;refine⟨_,rfl,rfl,by grind,fun y d=>?_,fun u t=>?_⟩
     ·grind
     ·rcases (m u).1 t with t|rfl
      all_goals simp_all
   grind
  ·rintro L ⟨f,g,r⟩;refine⟨L,rfl,f,g,fun y d=>?_⟩;obtain⟨w,R,S⟩:=N _ (Vr.2 ⟨y,d,rfl⟩)
   grind
end Q
namespace Q
open Tr Go
variable {n:Zf}{q:Zr}
theorem ZsN{i:Nat}(a:i<n.2.2.1.length):rn (ZG n q) (i:Int)=JD n q (rn n (i:Int)):=by unfold rn;show ((n.2.2.1.map (JD n q))[(i:Int).toNat]?).getD u0=_;rw[Ve,List.getElem?_map,Vc a];rfl
theorem ZfL{i:Nat}(a:i<n.2.2.1.length):Zw (ZG n q) i=(Zw n i).map (WF n q):=by unfold Zw;rw[ZsN a];rfl
theorem Zmp(h:JQ n):JQ (ZG n q):=by
 have b:(ZG n q).2.2.1.length=n.2.2.1.length:=Vl ..;refine⟨h.stops,by rw[b];exact h.runs,?_,fun i a=>?_⟩
 ·show (Ju n q).length<=60;unfold Ju;split
  ·exact Vi (Vaa _ _) h.paths
  ·exact h.paths
 ·rw[b]at a;rw[ZfL a,Vl];exact h.calls i a
theorem ZaM(h:W6 n):W6 (ZG n q):=by
 refine⟨h.stops,h.routes,fun x b=>?_,fun x b=>?_,?_,h.prods⟩
 ·obtain⟨r,a,rfl⟩:=Vr.1 (show x∈n.2.2.1.map (JD n q) from b);exact h.runs r a
 ·obtain⟨r,a,rfl⟩:=Vr.1 (show x∈n.2.2.1.map (JD n q) from b);show (r.2.2.2.2.2.2.2.1.map (WF n q)).length<=_;rw[Vl];exact h.calls r a
 ·show (Ju n q).length<=4096;unfold Ju;split
  ·exact Vi (Vaa _ _) h.paths
  ·exact h.paths
def st0(F:Kc):JP:=[(some F,(0,0,0,0,()),0,[0,0,0,0,0,0,0,0,0],())]
def KO(n:Zf)(q:Zr):Zs:=((0,q.1,0,0,(0,0,0,0,()),()),q.2.2.1,0,0,st0 n.2.2.2.2.2.1,[],())
theorem ZtG{F:Kc}(a:(Jq F).2=0)(b:∀x∈F.1,x.1.length<=9223372036854775807):F19 F=some (st0 F,0):=by
 have c:=(W1 a).many;unfold F19;rw[Zgg F b]
 have e:ZE (decide ((Vib ([]:List Unit))+Vib F.1<=Zz))=some ():=by rw[Ze (by simp [Zz];omega)];rfl
 simp only[Za,Ze a,Vf,Zd,e];rfl
theorem ZtD{F:Kc}(hF:FO F):HY F hF [] (st0 F):=by
 refine .start ⟨rfl,fun i a=>?_⟩;have:i=0:=by simpa using a
 subst this;refine⟨0,rfl,.inr ⟨Vpa _,.nil _,fun s b=>b.nonneg⟩⟩
theorem Zkk(c:qB n.1.length q=true)(j:q.2.2.2.2.1<=3){hF:FO n.2.2.2.2.2.1} :LI n.2.2.2.2.2.1 hF n q (KO n q):=by unfold qB at c;simp only[Vw,KL]at c;obtain⟨b,_,d,e,f,_⟩:=c;unfold ZU at b;rw[Vw,KL,KL]at b;refine⟨⟨⟨ZtD hF,fun v g=>absurd g (by show¬v∈([]:List ZJ);simp)⟩,by show ([]:List Zt).length<=80;simp,⟨Vpa 0,e.1⟩,⟨Vpa 0,f.1⟩,d,b,fun h=>absurd h (by show¬(0:Int)=1;decide),fun x a=>absurd a (by show¬ []=[x];simp)⟩,rfl,?_,fun _=>⟨rfl,rfl,rfl,rfl⟩,.inl rfl,rfl,rfl,rfl,fun x a=>absurd a (by show¬x∈([]:List Zt);simp),fun L x a=>absurd a (by show¬ []=L++[x];simp),fun h=>absurd rfl h,fun x a=>absurd a (by show¬ []=[x];simp)⟩;show 0+hL n q (KO n q)<=79;have:hL n q (KO n q)=20* (q.2.2.2.2.1 - 0).toNat+19:=rfl;omega
theorem Zrs{F:Kc}{hF:FO F}{l:Zs}(b:LI F hF n q l):((l.2.2.2.2.2.1[l.2.2.2.2.2.1.length - 1]?).map fun x=>x.2.2.2.2.2.2.2.1).getD q.2.2.1=l.2.1:=by
 by_cases h:l.2.2.2.2.2.1=[]
 ·have a:l.1.1=0:=by
   by_cases a:l.1.1=0
   ·exact a
   ·exact absurd h (b.some a)
  rw[h];exact(b.zero a).2.2.2.symm
 ·have e:=List.dropLast_concat_getLast h;have:=b.last _ _ e.symm;rw[List.getLast_eq_getElem]at this;rw[Vc (by have:=Vya.2 h;omega)];exact this
open Classical in
theorem Zcb(e:W6 n)(b:Whole n)(d:QI q){l:Zs}(a:LI n.2.2.2.2.2.1 (W1 b.sound.fare) n q l):
 (∃s t,Dm.Least (Dm.LS (Wv n.2.2.2.2.2.1 (W1 b.sound.fare).fareOk) n.2.2.2.2.2.1.1.length none ((Wm (ZS l).2.2.2.2.1).map Km)) s/\
   F78 n q (l.2.2.2.2.2.1,())=some ((((l.2.2.2.2.2.1[0]?).map fun x=>x.2.2.2.2.2.2.1).getD q.2.2.1,l.2.1,l.2.2.1,Y8 n.2.2.2.2.2.1 s,l.2.2.2.1,()),t,0))\/
 ((∀s,¬Dm.LS (Wv n.2.2.2.2.2.1 (W1 b.sound.fare).fareOk) n.2.2.2.2.2.1.1.length none ((Wm (ZS l).2.2.2.2.1).map Km) s)/\ ∃c,F78 n q (l.2.2.2.2.2.1,())=some (c,[],34)):=by
 obtain⟨f,g,c3⟩:=Zjf d a;have k:=a.val.rides;have j:=d.rides;have h:F120 n=some true:=by rw[GQ e,Ze b]
 have:=Zgz e b.sound h q (L:=l.2.2.2.2.2.1) (by have:=a.val.len;omega) a.lok g f.fare.2 (by omega);rw[Zrs a,c3,a.wlk]at this;exact this
theorem Zrt(c:W6 n)(a:Whole n)(b:QI q){l:Zs}(d:LI n.2.2.2.2.2.1 (W1 a.sound.fare) n q l):∃r,F78 n q (l.2.2.2.2.2.1,())=some r:=by
 rcases Zcb c a b d with ⟨_,_,_,h⟩|⟨_,_,h⟩
 ·exact⟨_,h⟩
 ·exact⟨_,h⟩
theorem Zi2{F:Kc}{a b:Int}(h:a<=b):Y8 F a<=Y8 F b:=by
 unfold Y8
 split<;>split<;>omega
theorem Zt8(p:W6 n)(d:Whole n)(g:QI q){o l:Zs}(u:LI n.2.2.2.2.2.1 (W1 d.sound.fare) n q o)(r:LI n.2.2.2.2.2.1 (W1 d.sound.fare) n q l)(h:Jy n.2.2.2.2.2.1 (W1 d.sound.fare) o l){y:Kx}(a:y∈Jx n q l):
 ∃x∈Jx n q o,x.2.1.2.1<=y.2.1.2.1/\x.2.1.2.2.1<=y.2.1.2.2.1/\x.2.1.2.2.2.1<=y.2.1.2.2.2.1/\x.2.1.2.2.2.2.1<=y.2.1.2.2.2.2.1:=by
 have z:=Zje g u r h;unfold Jx at a⊢;have e:Xp n q o↔Xp n q l:=by unfold Xp Xm;rw[h.1]
 by_cases j:Xp n q l
 ·rw[Zn j]at a;rw[Zn (e.2 j)];rcases Zcb p d g r with ⟨s,t,w,f⟩|⟨_,c,f⟩
  ·obtain⟨v,k,b⟩:=z.2.2.2.2 [] s (by rw[Vca];exact w.1);rw[Vca]at b;rcases Zcb p d g u with ⟨C,D,A,B⟩|⟨m,_⟩
   ·rw[Zcm f,Zn rfl,Vb]at a;rw[Zcm B,Zn rfl];subst a;refine⟨_,Vb.2 rfl,h.2.1,h.2.2.1,?_,h.2.2.2.1⟩;exact Zi2 (Vnb (A.2 v b) k)
   ·exact absurd b (m v)
  ·rw[Zcm f,Zg (by decide)]at a;cases a
 ·rw[Zg j]at a;cases a
theorem ZqL(u:W6 n)(I:Few n)(G:XZ n q=0)(R:JQ n)(E:q.2.2.2.2.1<=3)(t:q.2.2.2.1=false):
 ∃L:List Kx,F154 n q=some (L,0)/\L.length<=542198816521/\(∀x∈L,∃l,Rc (ZG n q) (Zo q) (KO (ZG n q) (Zo q)) l/\x∈Jx (ZG n q) (Zo q) l)/\
  ∀l,Rc (ZG n q) (Zo q) (KO (ZG n q) (Zo q)) l->∀y∈Jx (ZG n q) (Zo q) l,∃x∈L,Z9 (Z8 q x.2.1) (Z8 q y.2.1):=by
 obtain⟨r,m⟩:=ZaA.1 G;have a:Whole (ZG n q):=Zfu q I.paths r;have g:JQ (ZG n q):=Zmp R;have h:W6 (ZG n q):=ZaM u;have w:qB (ZG n q).1.length (Zo q)=true:=Zhe m
 have j:QI (Zo q):=by have d:=m;unfold qB at d;simp only[Vw,KL]at d;exact⟨by show q.2.2.2.2.1<=7;omega,d.2.2.2.2.1.2⟩
 have v:(ZG n q).2.2.2.2.1.length<=4096:=h.paths;have f:F19 n.2.2.2.2.2.1=some (st0 n.2.2.2.2.2.1,0):=ZtG r.sound.fare u.prods;have b:LI (ZG n q).2.2.2.2.2.1 (W1 a.sound.fare) (ZG n q) (Zo q) (KO (ZG n q) (Zo q)):=Zkk w E;obtain⟨D,U,V,W,X⟩:=Zs6 a g j E v (fun l p=>Zrt h a j p) (s:=st0 n.2.2.2.2.2.1) 0 b;obtain⟨L,J,c2,c3,K⟩:=Zpm q V;unfold F154;rw[Zdb r.sound I q (by rw[DU u,G])];simp only[Za,decide_true,Vf,Zd,t,f];refine⟨L,?_,by omega,fun x A=>?_,fun l p y S=>?_⟩
 ·have k:F75 ()=some ((),[],0,()):=rfl;rw[k];simp only[Za];have e:((q.1,q.2.1,q.2.2.1,false,q.2.2.2.2.1,q.2.2.2.2.2.1,false,false,(0:Int),q.2.2.2.2.2.2.2.2.2):Zr)=Zo q:=by unfold Zo;rw[t]
  rw[e];refine KM (fun x=>x=D) ⟨_,U,rfl⟩ ?_;rintro _ rfl;exact KM (fun x=>x=L) ⟨_,J,rfl⟩ (fun x A=>by subst A;rfl)
 ·obtain⟨l,B,C⟩:=W x (c3 x A);exact⟨l,B,C⟩
 ·obtain⟨o,B,C,T⟩:=X l p;obtain⟨x,M,N,O,P,Q⟩:=Zt8 h a j (B.li a g j b) (Rc.li a g j b p) C S;obtain⟨z,Y,Z⟩:=K x (T x M);refine⟨z,Y,D5 Z ?_⟩;have H:∀c:YD,Z8 q c=[c.2.1,c.2.2.1,c.2.2.2.1,c.2.2.2.2.1]:=fun c=>by unfold Z8;rw[t];rfl
  rw[H,H];intro i hi;rcases (show i=0\/i=1\/i=2\/i=3 by omega) with rfl|rfl|rfl|rfl
  ·exact N
  ·exact O
  ·exact P
  ·exact Q
end Q
namespace Q
open Tr Go
variable {n:Zf}{q:Zr}
theorem ZlE(a b:List Zt):Ww (a++b)=Ww a+Ww b:=by simp [Ww]
theorem ZlH(s t a b:Int):Ww [KI s t a b]=0:=rfl
theorem Zho(n:Zf)(i b c:Nat)(st:Bool):Ww [ZV n i b c st]=if st then 0 else 1:=by cases st<;>rfl
theorem Zca{L:List Zt}{i:Nat}(h:i<L.length):lg L i=L[i]:=by unfold lg;grind
theorem ZlG{L:List Zt}{i:Nat}(h:i<L.length):Ww (L.take (i+1))=Ww (L.take i)+Ww [lg L i]:=by rw[Va h,ZlE,Zca h]
theorem Zkx{n:Zf}{q:Zr}{L:List Zt}{i:Nat} :Df n q L (i+1)=Xc n (lg L i) (lg L (i+1)):=by rfl
theorem Zuj(L:List Zt):0<=K9 L:=(ZhO L).1
theorem ZmS(L:List Zt)(i:Nat):K9 (L.take i)<=K9 L:=by have:=ZcM (L.take i) (L.drop i);rw[Vhb]at this;have:=Zuj (L.drop i);omega
theorem ZlF(L:List Zt)(i:Nat):Ww (L.take i)<=Ww L:=by
 have:=ZlE (L.take i) (L.drop i)
 simp_all
theorem ZcK{L:List Zt}{i:Nat}(h:i<L.length):L.take (i+1)=L.take i++[lg L i]:=by rw[Va h,Zca h]
theorem Zis{L:List Zt}(h:∀x,L=[x]->x.1=true)(d:Int):WT L d=L:=by
 by_cases a:L.length=1
 ·obtain⟨x,rfl⟩:=Vsa.1 a;exact ZbB (h x rfl) d
 ·exact Zc8 a d
theorem Zk5(h:WW n){L:List Zt}(u:∀i,i<L.length->WY n (Zo q) L i=0){i:Nat}(y:i<L.length){r b c:Nat}{st:Bool}(e:lg L i=ZV n r b c st):HH n r c=true:=by
 unfold HH;rw[Bool.or_eq_true];obtain⟨_,_,x⟩:=Y7.1 (u i y)
 cases m:XN L i with
 |true=>
  have:=x m;rw[e]at this
  exact .inl (Zfs.1 this)
 |false=>
  right;unfold XN at m;rw[e]at m;have f:(decide (i+1=L.length) || !KG (lg L (i+1)))=false:=by assumption
  rw[Vda,decide_eq_false_iff_not,Vy]at f;have k:i+1<L.length:=by omega
  obtain⟨t,g,_⟩:=Y7.1 (u (i+1) k);rw[Zkx,e]at g
  cases v:(lg L (i+1)).1 with
  |false=>
   obtain⟨p,_,a,w,_⟩:=(Zb9 h).1 ⟨t,v⟩;have:=f.2;rw[w]at this
   cases this
  |true=>
   obtain⟨j,d,A,o,s,_⟩:=(ZgL h).1 ⟨t,v⟩;have:=f.2;rw[s]at this;have l:o=true:=this;subst l;rw[s]at g;obtain⟨_,z,_⟩:=(ZjM h).1 g;exact Vpb.2 ⟨_,z,by simp⟩
def Zbu(n:Zf)(q:Zr)(L:List Zt)(i:Nat):Prop:= ∃l,Rc n (Zo q) (KO n (Zo q)) l/\l.2.2.1=(Ww (L.take (i+1)):Int)/\
 ((∃r b c st,lg L i=ZV n r b c st/\Zh6 n r b c st/\l.1.1=1/\l.1.2.2.1=(r:Int)/\l.1.2.2.2.1=(c:Int)/\l.2.2.2.2.2.1=L.take (i+1))\/
  (∃p∈n.2.2.2.2.1,∃a,lg L i=KI p.1 p.2.1 a (a+p.2.2.1)/\l.1.1=2/\l.1.2.1=p.2.1/\l.2.1<=a+p.2.2.1/\((0<i/\l.2.2.2.2.2.1=L.take (i+1))\/(i=0/\ ∃T,l.2.2.2.2.2.1=[KI p.1 p.2.1 T (T+p.2.2.1)]/\(L.length=1->T=a)))))
theorem Zsd(V:Whole n)(W:q.2.2.2.1=false){hF:FO n.2.2.2.2.2.1}(J:LI n.2.2.2.2.2.1 hF n (Zo q) (KO n (Zo q))){L:List Zt}(hL:0<L.length)(M:∀i,i<L.length->WY n (Zo q) L i=0)(hr:(Ww L:Int)<=q.2.2.2.2.1)(hw:K9 L<=q.2.2.2.2.2.1):Zbu n q L 0:=by
 have h:=V.ok;obtain⟨K,U,h3⟩:=Y7.1 (M 0 hL);have x:HA n (Zo q) L=0:=U;obtain⟨o,G,f3,u,l,r⟩:=ZaL.1 x;have H:(Zo q).1=q.1:=rfl;have I:(Zo q).2.2.1=q.2.2.1:=rfl;have S:(Zo q).2.2.2.1=q.2.2.2.1:=rfl;have T:(Zo q).2.2.2.2.2.2.2.2.2.1=q.2.2.2.2.2.2.2.2.2.1:=rfl;rw[H]at o;rw[S,W,I]at u l;rw[T,I,H]at r;have f:=J.val.stop;have a2:0<=q.2.2.1/\q.2.2.1<=3155932800:=J.val.time;have A:=h.change _ f.1 f.2;have N:0<=(Wg n q.1).2.2.2.1/\(Wg n q.1).2.2.2.1<=3600:=A;have g:=ZcK hL;have s:Ww (L.take 0)=0:=by rfl
 have m:=ZlG hL
 cases Q:(lg L 0).1 with
 |true=>
  obtain⟨i,b,c,st,e,O⟩:=(ZgL h).1 ⟨K,Q⟩;have C:=O;obtain⟨k1,k2,k3,k4,k5⟩:=C;have t:=Zk5 h M hL e;rw[e]at o G l r m g;have f:st=false:=G;subst f;have z:(Zi n i b).2.2.2.1=true:=by grind
  have k:(Zi n i b).1=q.1:=o
  have j:q.2.2.1+(if q.2.2.2.2.2.2.2.2.2.1=true then XJ n q.1 else 0)<=(Zi n i b).2.2.1:=by
   simp only[Vt,Vha,decide_eq_false_iff_not]at l;have v:¬(Zi n i b).2.2.1<q.2.2.1:=l
   cases X:q.2.2.2.2.2.2.2.2.2.1 with
   |false=>grind
   |true=>
    rw[X,Zy (by omega) (by omega)]at r;simp only[Vha]at r;have w:decide ((Zi n i b).2.2.1<q.2.2.1+(Wg n q.1).2.2.2.1)=false:=r;rw[decide_eq_false_iff_not]at w;unfold XJ;omega
  rw[s,Zho]at m;have y:Ww (L.take 1)=1:=m;have D:=ZlF L 1;have d:ZS (KO n (Zo q))=KO n (Zo q):=by rfl
  have B:Xq n (Zo q) (KO n (Zo q))=q.2.2.1+(if q.2.2.2.2.2.2.2.2.2.1=true then XJ n q.1 else 0):=by rfl
  refine⟨_,.step .start (YV.2 (.inr (.inl ⟨fun h=>absurd h (by show¬(0:Int)=1;decide),Di.2 ⟨i,b,c,k1,k2,k3,?_,?_,t,rfl⟩⟩))),?_,.inl ⟨i,b,c,false,e,O,rfl,rfl,rfl,?_⟩⟩
  ·rw[d,B];exact⟨k4,z,k,by omega,.inl j⟩
  ·rw[d];show (0:Int)≠q.2.2.2.2.1;omega
  ·rw[d,y];rfl
  ·rw[d,g]
   rfl
 |false=>
  obtain⟨p,E,a,e,a0,a1⟩:=(Zb9 h).1 ⟨K,Q⟩;have Z:=h.path p E;rw[e]at o u l m g;have P:p.1=q.1:=o;rw[s,ZlH]at m
  have v:¬a<q.2.2.1:=by
   simp only[Vt,Vha,decide_eq_false_iff_not]at l
   assumption
  have a4:=ZmS L 1
  have a3:K9 (L.take 1)=p.2.2.1:=by
   rw[g];unfold K9 HQ KI
   grind
  have d:ZS (KO n (Zo q))=KO n (Zo q):=by rfl
  refine⟨_,.step .start (YV.2 (.inr (.inr ⟨fun h=>absurd h (by show¬(0:Int)=1;decide),by show (0:Int)≠2;decide,D8.2 ⟨p,E,?_,rfl⟩⟩))),?_,.inr ⟨p,E,a,e,rfl,rfl,?_,.inr ⟨rfl,q.2.2.1,?_,fun Y=>?_⟩⟩⟩
  ·rw[d];refine⟨P,?_,?_⟩
   ·show 0+p.2.2.1<=q.2.2.2.2.2.1;omega
   ·show q.2.2.1+p.2.2.1<=_;omega
  ·rw[d,m];rfl
  ·rw[d];show q.2.2.1+p.2.2.1<=_;omega
  ·rw[d,P];rfl
  ·rw[Ze Y]at u;have R:(!decide (a=q.2.2.1))=false:=u
   grind
theorem Zsc(hW:Whole n)(hT:JQ n)(hQ:QI (Zo q)){hF:FO n.2.2.2.2.2.1}(h0:LI n.2.2.2.2.2.1 hF n (Zo q) (KO n (Zo q))){L:List Zt}(O:∀i,i<L.length->WY n (Zo q) L i=0)(hr:(Ww L:Int)<=q.2.2.2.2.1)(hw:K9 L<=q.2.2.2.2.2.1){i:Nat}(J:i+1<L.length)(u:Zbu n q L i):Zbu n q L (i+1):=by
 have h:=hW.ok;have m:i<L.length:=by omega
 obtain⟨_,_,a3⟩:=Y7.1 (O i m);obtain⟨b1,f,_⟩:=Y7.1 (O (i+1) J);rw[Zkx]at f;have E:=ZlG J;have w:=ZcK J;have a5:=ZlF L (i+1+1);obtain⟨l,s,a6,v⟩:=u;have o:=s.li hW hT hQ h0;obtain⟨s1,s2,s3,s4,s5⟩:=ZaB l
 have M:∀{r b c:Nat}{st:Bool},lg L i=ZV n r b c st->KG (lg L (i+1))=false->(Zi n r c).2.2.2.2.1=true:=by intro r b c st e hs;refine Zfs.1 (?_ :Y6 n (Zo q) (ZV n r b c st)=0);rw[<-e];refine a3 ?_;unfold XN;rw[e,hs];simp [ZV]
 cases hy:(lg L (i+1)).1 with
 |true=>
  obtain⟨j,d,e,a9,g,Z⟩:=(ZgL h).1 ⟨b1,hy⟩;have a2:=Z;obtain⟨k1,k2,k3,k4,k5⟩:=a2;have K:=Zk5 h O J g;rw[g]at f E w
  cases a9 with
  |true=>
   rw[Zho]at E;have G:Ww (L.take (i+1+1))=Ww (L.take (i+1)):=by grind
   rcases v with ⟨r,b,c,st,ex,y,z,P,Q,A⟩|⟨p,u,a,ex,_⟩
   ·rw[ex]at f;obtain⟨R,k,c3⟩:=(ZjM h).1 f;have Y:d=0:=((h.isLink k).2.2.2.2.2.2 rfl).2;subst Y
    have a7:l.2.1=(Zi n r c).2.1:=by
     obtain⟨C,B,e1,e2,_,_,_,e3,_⟩:=o.val.kind z
     grind
    refine⟨_,.step s (YV.2 (.inl ⟨z,ZaU.2 ⟨((r:Int),(c:Int),(j:Int),((0:Nat):Int),true,()),k,⟨rfl,P.symm,Q.symm,by grind,by grind⟩,e,k2,by grind,by grind,rfl⟩⟩)),?_,.inl ⟨j,0,e,true,g,Z,rfl,?_,rfl,?_⟩⟩
    ·rw[G];assumption
    ·rfl
    ·simp only[Ve];show l.2.2.2.2.2.1++[ZV n j 0 e true]=_
     grind
   ·rw[ex]at f
    exact absurd f (ZqF _ _ _ _ _ _ _ _)
  |false=>
   rw[Zho]at E;have G:Ww (L.take (i+1+1))=Ww (L.take (i+1))+1:=by grind
   have H:(Zi n j d).2.2.2.1=true:=by grind
   have t:KG (lg L (i+1))=false:=by rw[g];rfl
   have go:(l.1.1=1->Xm n l=true)->GG n (ZS l) (Xq n (Zo q) l) j d->WT l.2.2.2.2.2.1 (Zi n j d).2.2.1=L.take (i+1)->Zbu n q L (i+1):=fun g1 g2 g3=>by
    refine⟨_,.step s (YV.2 (.inr (.inl ⟨g1,Di.2 ⟨j,d,e,k1,k2,k3,g2,?_,K,rfl⟩⟩))),?_,.inl ⟨j,d,e,false,g,Z,rfl,rfl,rfl,?_⟩⟩
    ·rw[s3,a6];show _≠q.2.2.2.2.1;omega
    ·show (ZS l).2.2.1+1=_;omega
    ·show WT (ZS l).2.2.2.2.2.1 _++[ZV n j d e false]=_
     grind
   rcases v with ⟨r,b,c,st,ex,y,z,P,Q,A⟩|⟨p,u,a,ex,z,P,Q,A⟩
   ·have X:=M ex t;rw[ex]at f;obtain⟨R,k⟩:=(ZqC h y.1 y.2.2.1).1 f;obtain⟨C,B,e1,e2,_,_,e3,e4,_⟩:=o.val.kind z;have U:C=r:=by omega
    have S:B=c:=by omega
    subst U S
    have I:Xq n (Zo q) l=(Zi n C B).2.1+(Wg n (Zi n C B).1).2.2.2.1:=by
     unfold Xq XJ
     grind
    refine go (fun _=>?_) ⟨k4,H,?_,by omega,?_⟩ ?_
    ·unfold Xm
     grind
    ·grind
    ·rw[I,s2,e4];rcases k with k|⟨k,c3⟩
     ·omega
     ·refine .inr ⟨c3,?_⟩;unfold Gb;rw[s1];exact Vpb.2 ⟨_,k,by grind⟩
    ·rw[A];refine Zis (fun x y=>?_) _;rw[ZcK m]at y;rcases Vja.1 y with ⟨_,N⟩|⟨_,N⟩
     ·have:x=lg L i:=(Vab.1 N).symm;rw[this,ex];rfl
     grind
   ·rw[ex]at f;obtain⟨R,k⟩:=ZqE.1 f
    have I:Xq n (Zo q) l=l.2.1:=by unfold Xq;omega
    refine go (by omega) ⟨k4,H,by grind,by omega,by omega⟩ ?_;rcases A with ⟨A,x5⟩|⟨rfl,T,x5,_⟩
    ·rw[x5];refine Zc8 ?_ _
     grind
    ·rw[x5,RB rfl,ZcK m,ex];have N:=(Y7.1 (O 0 m)).2.1;have W:HA n (Zo q) L=0:=N;have V:=(ZaL.1 W).2.2.1;rw[ex,g]at V;have a4:1<L.length:=J;rw[Ze a4]at V;have D:(!decide ((Zi n j d).2.2.1=a+p.2.2.1))=false:=V;simp only[Vy,KL]at D;rw[D];simp only[List.take_zero,Vxa];unfold KI
     grind
 |false=>
  obtain⟨p,u,a,g,a0,a1⟩:=(Zb9 h).1 ⟨b1,hy⟩;rw[g]at f E w;rw[ZlH]at E;have t:KG (lg L (i+1))=false:=by rw[g];rfl
  have b3:=h.path p u;rcases v with ⟨r,b,c,st,ex,y,z,P,Q,A⟩|⟨p',b0,a',ex,_⟩
  ·have X:=M ex t;rw[ex]at f;obtain⟨R,k⟩:=ZqD.1 f;obtain⟨C,B,e1,e2,_,_,e3,e4,_⟩:=o.val.kind z;have U:C=r:=by omega
   have S:B=c:=by omega
   subst U S;have a8:=ZmS L (i+1+1);rw[w,ZcM, <-A,o.wlk]at a8
   have b4:K9 [KI p.1 p.2.1 a (a+p.2.2.1)]=p.2.2.1:=by
    unfold K9 HQ KI
    grind
   refine⟨_,.step s (YV.2 (.inr (.inr ⟨fun _=>?_,by omega,D8.2 ⟨p,u,⟨?_,?_,?_⟩,rfl⟩⟩))),?_,.inr ⟨p,u,a,g,rfl,rfl,?_,.inl ⟨by omega,?_⟩⟩⟩
   ·unfold Xm
    grind
   ·grind
   ·show (ZS l).2.2.2.1+p.2.2.1<=q.2.2.2.2.2.1;omega
   ·omega
   ·show (ZS l).2.2.1=_;omega
   ·show (ZS l).2.1+p.2.2.1<=_;omega
   ·show (ZS l).2.2.2.2.2.1++[KI (ZS l).1.2.1 p.2.1 (ZS l).2.1 ((ZS l).2.1+p.2.2.1)]=_
    grind
  ·rw[ex]at f;exact absurd f (ZqG _ _ _ _ _ _ _ _ _)
theorem Zqp(m:Whole n)(w:JQ n)(v:QI (Zo q))(H:q.2.2.2.1=false){hF:FO n.2.2.2.2.2.1}(o:LI n.2.2.2.2.2.1 hF n (Zo q) (KO n (Zo q))){L:List Zt}(hL:0<L.length)(s:∀i,i<L.length->WY n (Zo q) L i=0)(y:(Ww L:Int)<=q.2.2.2.2.1)(z:K9 L<=q.2.2.2.2.2.1):
 ∃l,Rc n (Zo q) (KO n (Zo q)) l/\l.2.2.2.2.2.1=L/\(l.1.1=1->Xm n l=true)/\l.1.2.1=(lg L (L.length - 1)).2.2.2.2.2.1:=by
 have h:=m.ok
 have key:∀i,i<L.length->Zbu n q L i:=by
  intro i
  induction i with
  |zero=>exact fun _=>Zsd m H o hL s y z
  |succ i S=>exact fun I=>Zsc m w v o s y z I (by grind)
 obtain⟨l,f,_,k⟩:=key (L.length - 1) (by omega);have t:=f.li m w v o;have d:=(Y7.1 (s (L.length - 1) (by omega))).2.2;rw[show L.length - 1+1=L.length by omega,Vj]at k;rcases k with ⟨r,b,c,st,e,Q,A,u,B,g⟩|⟨p,R,a,e,A,u,B,g⟩
 ·refine⟨l,f,g,fun _=>?_,?_⟩
  ·unfold Xm;rw[u,B,Ve,Ve];refine Zfs.1 (?_ :Y6 n (Zo q) (ZV n r b c st)=0);rw[<-e];refine d ?_;unfold XN;rw[e,Ze (by omega)];rfl
  ·obtain⟨J,C,M,N,_,_,D,O,_⟩:=t.val.kind A;have G:J=r:=by omega
   have E:C=c:=by omega
   subst G E;rw[e,D];rfl
 ·refine⟨l,f,?_,by omega,by rw[e,u];rfl⟩;rcases g with ⟨_,g⟩|⟨P,T,g,K⟩
  ·omega
  ·have j:L.length=1:=by omega
   obtain⟨x,rfl⟩:=Vsa.1 j;rw[g,K j];have:lg [x] 0=x:=rfl
   grind
end Q
namespace Q
open Tr Go
variable {n:Zf}{q:Zr}{L:List Zt}{i:Nat}
theorem GH(a:i<L.length):F38 (n,q,L,(i:Int),())=some (lg L i):=by unfold F38;show Vka (idx L (i:Int)) _=_;rw[D6 a];rfl
theorem Zjd(a:0<i)(b:i<L.length)(c:L.length<=1000):F44 (n,q,L,(i:Int),())=some (lg L (i - 1)):=by
 unfold F44;have e:Vg .i64 ((i:Int) - 1)=((i - 1:Nat):Int):=by rw[Zy (by omega) (by omega)];omega
 show Vka (idx L (Vg .i64 ((i:Int) - 1))) _=_;rw[e,D6 (by omega)];rfl
theorem Zjb{s:Int}(h:ZU s n.1.length=true):F41 (n,q,L,(i:Int),()) s=some (Xu n q s):=by
 unfold F41 Xu
 show Vka (bif !q.2.2.2.2.2.2.1 then some true else Vka (idx n.1 s) fun a=>some a.2.2.1) _=_
 rw[show idx n.1 s=some (Wg n s) from WI h s0];simp only[Za]
 cases q.2.2.2.2.2.2.1<;>cases (Wg n s).2.2.1<;>rfl
theorem Zpn(c:i<L.length)(d:Ku n (lg L i)=true):F33 (n,q,L,(i:Int),())=some (cl (KE n (lg L i)) (lg L i).2.2.1):=by obtain⟨a,_,b,_⟩:=Zga d;unfold F33;rw[GH c];simp only[Za,a,b]
theorem Zja(c:i<L.length)(d:Ku n (lg L i)=true):F32 (n,q,L,(i:Int),())=some (cl (KE n (lg L i)) (lg L i).2.2.2.1):=by obtain⟨a,_,_,b⟩:=Zga d;unfold F32;rw[GH c];simp only[Za,a,b]
def Za7(n:Zf)(x:Zt):Bool:= !ZU x.2.2.2.2.1 n.1.length|| !ZU x.2.2.2.2.2.1 n.1.length
def Za8(n:Zf)(x:Zt):Bool:=bif x.1 then !Ku n x else !decide (x.2.1=0) || (!decide (x.2.2.1=0) || (!decide (x.2.2.2.1=0) ||KG x))
def R7(x:Zt):Bool:= !decide (0<=x.2.2.2.2.2.2.1/\x.2.2.2.2.2.2.1<=3155932800) || !decide (0<=x.2.2.2.2.2.2.2.1/\x.2.2.2.2.2.2.2.1<=3155932800)
theorem ZdY(n:Zf)(q:Zr)(x:Zt):Xd n q x=bif Za7 n x then 9 else bif Za8 n x then 9 else bif R7 x then 10 else bif x.1 then HK n q x else Yz n q x:=rfl
theorem Zpu(d:Ws n)(j:i<L.length):F45 (n,q,L,(i:Int),())=some (bif Za7 n (lg L i) then 9 else bif Za8 n (lg L i) then 9 else 0):=by
 have k:n.1.length<=9223372036854775807:=by have:=d.stops;omega
 have b:n.2.2.1.length<=9223372036854775807:=by have:=d.runs;omega
 unfold F45;rw[GH j];generalize lg L i=x;simp only[Za,ZmY _ k,ZmY _ b]
 refine Zdk (c:=Za7 n x) (by unfold Za7;cases ZU x.2.2.2.2.1 n.1.length<;>rfl) fun m=>?_
 unfold Za8
 cases o:x.1 with
 |false=>
  simp only[Vt,Zc,Zd];refine Zdk (c:= !decide (x.2.1=0) || (!decide (x.2.2.1=0) || (!decide (x.2.2.2.1=0) ||KG x))) ?_ fun _=>rfl;unfold KG
  cases decide (x.2.1=0)<;>cases decide (x.2.2.1=0)<;>cases decide (x.2.2.2.1=0)<;>rfl
 |true=>
  simp only[Vf,Zc,Zd,Za];refine Zdk (c:= !Ku n x) ?_ fun _=>rfl;unfold Ku
  cases l:ZU x.2.1 n.2.2.1.length with
  |false=>rfl
  |true=>
   have a:idx n.2.2.1 x.2.1=some (rn n x.2.1):=WI l u0;simp only[Vf,Zd,a,Za,Vha]
   have e:decide (x.2.2.1<0)= !decide (0<=x.2.2.1):=by
    by_cases h:0<=x.2.2.1
    ·rw[Ze h,Zk (by omega)];rfl
    ·rw[Zk h,Ze (by omega)];rfl
   have f:decide (x.2.2.2.1<=x.2.2.1)= !decide (x.2.2.1<x.2.2.2.1):=by
    by_cases h:x.2.2.1<x.2.2.2.1
    ·rw[Ze h,Zk (by omega)];rfl
    ·rw[Zk h,Ze (by omega)];rfl
   have g:decide (((rn n x.2.1).2.2.2.2.2.2.2.1.length:Int)<=x.2.2.2.1)= !decide (x.2.2.2.1<((KE n x).length:Int)):=by
    show decide (((KE n x).length:Int)<=x.2.2.2.1)=_;by_cases h:x.2.2.2.1<((KE n x).length:Int)
    ·rw[Ze h,Zk (by omega)];rfl
    ·rw[Zk h,Ze (by omega)];rfl
   rw[e,f,g]
   cases decide (0<=x.2.2.1)<;>cases decide (x.2.2.1<x.2.2.2.1)<;>rfl
theorem Zps(a:i<L.length):F40 (n,q,L,(i:Int),())=some (bif R7 (lg L i) then 10 else 0):=by
 unfold F40;rw[GH a];simp only[Za,ZmV];refine Zdk (c:=R7 (lg L i)) ?_ fun _=>rfl;unfold R7
 cases decide (0<=(lg L i).2.2.2.2.2.2.1/\(lg L i).2.2.2.2.2.2.1<=3155932800)<;>rfl
theorem Zpw(j:n.2.2.2.2.1.length<=4096)(a:i<L.length):F47 (n,q,L,(i:Int),())=some (bif (lg L i).1 then 0 else Yz n q (lg L i)):=by
 unfold F47;rw[GH a];generalize lg L i=x;simp only[Za]
 cases k:x.1 with
 |true=>rfl
 |false=>
 simp only[Zd];refine KM (fun r:Int ⊕ Int=>Sum.elim id id r=Yz n q x) ?_ ?_
 ·refine Ki n.2.2.2.2.1.length _ (fun i (s:Int×Int)=>s=((bif (n.2.2.2.2.1.take i).any (YU x) then 29 else 18),(i:Int))/\((n.2.2.2.2.1.take i).any fun p=>YU x p&&Hb q p)=false) ?_ ?_ _ ⟨rfl,rfl⟩
  ·rintro i _ a ⟨rfl,b⟩;simp only[ZO a,Zc,ZC a,Za,ZW a (show _<=9223372036854775807 by omega)]
   have g:(bif decide ((n.2.2.2.2.1[i]).1=x.2.2.2.2.1) then bif decide ((n.2.2.2.2.1[i]).2.1=x.2.2.2.2.2.1) then some (decide ((n.2.2.2.2.1[i]).2.2.1=Vg .i64 (x.2.2.2.2.2.2.2.1 - x.2.2.2.2.2.2.1))) else some false else some false)=some (YU x n.2.2.2.2.1[i]):=by
    unfold YU
    cases decide ((n.2.2.2.2.1[i]).1=x.2.2.2.2.1)<;>cases decide ((n.2.2.2.2.1[i]).2.1=x.2.2.2.2.2.1)<;>rfl
   have h:(bif (n.2.2.2.2.1[i]).2.2.2.1 then some true else some !q.2.2.2.2.2.2.1)=some (Hb q n.2.2.2.2.1[i]):=by
    unfold Hb
    cases (n.2.2.2.2.1[i]).2.2.2.1<;>rfl
   rw[g,h];simp only[Za]
   cases d:YU x n.2.2.2.2.1[i] with
   |false=>
    left;refine⟨_,rfl,?_,?_⟩
    ·rw[RE a,d,Bool.or_false]
    ·rw[RE a,b,d];rfl
   |true=>
    cases c:Hb q n.2.2.2.2.1[i] with
    |true=>
     right;refine⟨_,rfl,?_⟩;unfold Yz;rw[Zdd a (f:=fun p=>YU x p&&Hb q p) (by rw[d,c];rfl)]
     rfl
    |false=>
     left;refine⟨_,rfl,?_,?_⟩
     ·rw[RE a,d,Bool.or_true];rfl
     ·rw[RE a,b,d,c];rfl
  ·rintro _ ⟨rfl,b⟩;simp only[JF,Zd];refine⟨_,rfl,?_⟩;rw[Vj]at b⊢;unfold Yz;rw[b];rfl
 ·rintro (r|r) e
  ·exact congrArg some e
  ·exact congrArg some e
theorem Zpv(d:Ws n)(b:i<L.length)(m:(lg L i).1=true->Ku n (lg L i)=true)(j:ZU (lg L i).2.2.2.2.1 n.1.length=true):F46 (n,q,L,(i:Int),())=some (bif (lg L i).1 then HK n q (lg L i) else 0):=by
 unfold F46;rw[GH b];simp only[Za]
 cases l:(lg L i).1 with
 |false=>rfl
 |true=>
  have a:=m l;obtain⟨e,f,_,_⟩:=Zga a;obtain⟨g,h⟩:=ZlM d f;have k:=(d.mode _ h).1;simp only[Vf,Zd,Zc,e,Za,g,Zpn b a,Zja b a];unfold HK;refine Zk1 (Zk1 (ZaZ (ZbE (ZbE (ZbJ (ZrH q _ k) (ZbE (ZbJ (c:= !KG (lg L i) && !Xu n q (lg L i).2.2.2.2.1) ?_ rfl)))))));rw[Zjb j];unfold KG
  cases (lg L i).2.2.2.2.2.2.2.2.1<;>rfl
theorem Zpt(e:Ws n)(g:n.2.2.2.2.1.length<=4096)(b:i<L.length):F42 (n,q,L,(i:Int),())=some (Xd n q (lg L i)):=by
 unfold F42;rw[ZdY];simp only[untilF];rw[Zpu e b];simp only[Za]
 cases c:Za7 n (lg L i) with
 |true=>rfl
 |false=>
 cases d:Za8 n (lg L i) with
 |true=>rfl
 |false=>
 simp only[Zd,decide_true,Zc];rw[Zps b];simp only[Za]
 cases h:R7 (lg L i) with
 |true=>rfl
 |false=>
 simp only[Zd,decide_true,Zc];rw[Zpw g b,Zpv e b (fun f=>by unfold Za8 at d;rw[f]at d;simpa using d) (by unfold Za7 at c;rw[Vda]at c;simpa using c.1)];simp only[Za]
 cases f:(lg L i).1 with
 |true=>
  simp only[Zc,decide_true];by_cases a:HK n q (lg L i)=0
  ·rw[Ze a,a];rfl
  ·rw[Zk a];rfl
 |false=>
  simp only[Zd];by_cases a:Yz n q (lg L i)=0
  ·rw[Ze a,a];rfl
  ·rw[Zk a];rfl
theorem Zpo(g:i<L.length)(h:ZU q.1 n.1.length=true)(a:(q.2.2.2.2.2.2.2.2.2.1&&q.2.2.2.1)=false):F35 (n,q,L,(i:Int),())=some (bif decide (i=0) then HA n q L else 0):=by
 unfold F35;by_cases d:i=0
 case neg=>rw[Ze (show (0:Int)<(i:Int) by omega),Zk d];rfl
 subst d;rw[Zk (show¬(0:Int)<((0:Nat):Int) by omega),GH g];simp only[Zd,Za,decide_true,Zc];unfold HA;refine ZaZ (ZaZ ?_)
 refine ZbJ (c:= !(lg L 0).1&& (decide (1<L.length) && ((lg L 1).1&& !decide ((lg L 1).2.2.2.2.2.2.1=(lg L 0).2.2.2.2.2.2.2.1)))) ?_ (ZbJ (c:= !(lg L 0).1&& (decide (L.length=1) && (bif q.2.2.2.1 then !decide ((lg L 0).2.2.2.2.2.2.2.1=q.2.2.1) else !decide ((lg L 0).2.2.2.2.2.2.1=q.2.2.1)))) ?_ (ZbE (ZbJ (c:=q.2.2.2.2.2.2.2.2.2.1&& ((lg L 0).1&&decide ((lg L 0).2.2.2.2.2.2.1<Vg .i64 (q.2.2.1+(Wg n q.1).2.2.2.1)))) ?_ rfl)))
 ·by_cases j:L.length=1
  ·rw[Ze (show ((L.length:Nat):Int)=1 by omega),Zk (show¬1<L.length by omega)]
   cases (lg L 0).1<;>rfl
  ·have f:1<L.length:=by omega
   have e:idx L (1:Int)=some (lg L 1):=D6 (i:=1) f;rw[Zk (show¬((L.length:Nat):Int)=1 by omega),Ze f,e];simp only[Vt,Zc,Za,Vha]
   cases (lg L 0).1<;>cases (lg L 1).1<;>rfl
 ·rw[show decide (((L.length:Nat):Int)=1)=decide (L.length=1) from decide_eq_decide.2 (by omega)]
  cases (lg L 0).1<;>cases decide (L.length=1)<;>cases q.2.2.2.1<;>cases decide ((lg L 0).2.2.2.2.2.2.1=q.2.2.1)<;>rfl
 ·have b:idx n.1 q.1=some (Wg n q.1):=WI h s0;rw[b];simp only[Za]
  revert a
  cases q.2.2.2.2.2.2.2.2.2.1<;>cases q.2.2.2.1<;>intro a<;>first|(cases a;done) |(cases (lg L 0).1<;>rfl)
theorem Zpr(u:n.2.2.2.1.length<=4096)(o:0<i)(c:i<L.length)(p:L.length<=1000)(stay:Bool):F39 (n,q,L,(i:Int),()) stay=some (Hf n (lg L (i - 1)) (lg L i) stay):=by
 unfold F39;rw[Zjd o c p,GH c];generalize lg L (i - 1)=a;generalize lg L i=b;simp only[Za];refine KM (fun r:Unit ⊕ Bool=>Sum.elim (fun _=>false) id r=Hf n a b stay) ?_ ?_
 ·unfold Hf;refine Ki n.2.2.2.1.length _ (fun i (s:Int)=>s=(i:Int)/\(n.2.2.2.1.take i).any (Dg a b stay)=false) ?_ ?_ _ ⟨rfl,rfl⟩
  ·rintro i _ c ⟨rfl,d⟩;have t:idx n.2.2.2.1 (i:Int)=some n.2.2.2.1[i]:=ZC c;simp only[ZO c,Zc,t,Za,ZW c (show _<=9223372036854775807 by omega)];have g:=RE c (Dg a b stay);have e:=fun h=>Zdd c (f:=Dg a b stay) h;generalize n.2.2.2.1[i]=k at*
   have m:(bif k.2.2.2.2.1==stay then bif decide (k.1=a.2.1) then bif decide (k.2.1=a.2.2.2.1) then bif decide (k.2.2.1=b.2.1) then some (decide (k.2.2.2.1=b.2.2.1)) else some false else some false else some false else some false)=some (Dg a b stay k):=by
    unfold Dg
    cases decide (k.1=a.2.1)<;>cases decide (k.2.1=a.2.2.2.1)<;>cases decide (k.2.2.1=b.2.1)<;>cases decide (k.2.2.2.1=b.2.2.1)<;>cases (k.2.2.2.2.1==stay)<;>rfl
   rw[m];simp only[Za]
   cases j:Dg a b stay k with
   |false=>
    left;refine⟨_,rfl,rfl,?_⟩
    rw[g,d,j];rfl
   |true=>
    right;refine⟨_,rfl,?_⟩;rw[e j];rfl
  ·rintro _ ⟨rfl,d⟩;simp only[JF,Zd];refine⟨_,rfl,?_⟩;rw[Vj]at d;rw[d];rfl
 ·rintro (r|r) l
  ·exact congrArg some l
  ·exact congrArg some l
theorem Zpp(v:Ws n)(p:0<i)(l:i<L.length)(s:L.length<=1000)(x:ZU (lg L i).2.2.2.2.1 n.1.length=true)(f:(lg L i).1=false->KG (lg L i)=false){r:List (Option Int)}{z:Int}(c:Xc n (lg L (i - 1)) (lg L i)=0->untilF r=some z):
 untilF (F36 (n,q,L,(i:Int),())::F34 (n,q,L,(i:Int),())::r)=some (bif decide (Xc n (lg L (i - 1)) (lg L i)=0) then z else Xc n (lg L (i - 1)) (lg L i)):=by
 have y:n.2.2.2.1.length<=4096:=by have:=v.links;omega
 have u:¬i=0:=by omega
 unfold F36 F34;simp only[untilF,GH l,Zjd p l s,Zpr y p l s,Za,Zk (show¬(i:Int)=0 by omega),Zd];have m:idx n.1 (lg L i).2.2.2.2.1=some (Wg n (lg L i).2.2.2.2.1):=WI x s0;rw[m];unfold Xc at c⊢;unfold KG at c f⊢;generalize Hf n (lg L (i - 1)) (lg L i) true=t at*;generalize Hf n (lg L (i - 1)) (lg L i) false=o at*;generalize lg L (i - 1)=a at*;generalize lg L i=b at*;by_cases d:b.2.2.2.2.1=a.2.2.2.2.2.1
 case neg=>
  rw[Zk d,Zk (show¬a.2.2.2.2.2.1=b.2.2.2.2.1 from fun e=>d e.symm)];rfl
 rw[Ze d,Ze d.symm];rw[Ze d.symm,d.symm]at c;rw[d.symm];simp only[Vf,Zd,Za]at c⊢
 cases k:a.1<;>cases j:b.1
 ·rfl
 ·rw[k,j]at c;simp only[Vt,Vf,Zc,Zd,Za,decide_true,Vha,Vub,Bool.and_false]at c⊢
  cases h:b.2.2.2.2.2.2.2.2.1 with
  |true=>rfl
  |false=>
   rw[h]at c;simp only[Zd,Za,decide_true,Zc]at c⊢
   cases g:decide (b.2.2.2.2.2.2.1<a.2.2.2.2.2.2.2.1) with
   |true=>rfl
   |false=>rw[g]at c;simp only[Zd,decide_true,Zc,Za]at c⊢;exact c trivial
 ·have h:=f j;rw[k,j,h]at c;rw[h];simp only[Vt,Vf,Zc,Zd,Za,decide_true,Vsb]at c⊢;by_cases g:b.2.2.2.2.2.2.1=a.2.2.2.2.2.2.2.1
  ·rw[Ze g]at c⊢;simp only[Vf,Zd,decide_true,Zc,Za]at c⊢;exact c trivial
  ·rw[Zk g];rfl
 ·rw[k,j]at c;simp only[Vf,Zc,Zd,Za,decide_true,Vsb,Vtb]at c⊢
  cases h:b.2.2.2.2.2.2.2.2.1 with
  |true=>
   rw[h]at c;simp only[Zc,Za]at c⊢
   cases t with
   |false=>rfl
   |true=>
    simp only[Vf,Zd,Za]at c⊢;by_cases g:b.2.2.2.2.2.2.1<a.2.2.2.2.2.2.2.1
    ·rw[Ze g];rfl
    ·rw[Zk g]at c⊢;simp only[Zd,decide_true,Zc,Za]at c⊢
     exact c trivial
  |false=>
   rw[h]at c;simp only[Zd,Za,decide_true,Zc]at c⊢
   cases g:decide (Vg .i64 (a.2.2.2.2.2.2.2.1+(Wg n b.2.2.2.2.1).2.2.2.1)<=b.2.2.2.2.2.2.1) with
   |true=>rw[g]at c;simp only[Vub,Zc,decide_true,Za]at c⊢;exact c trivial
   |false=>
    rw[g]at c
    cases w:decide (a.2.2.2.2.2.2.2.1<=b.2.2.2.2.2.2.1) with
    |false=>cases o<;>rfl
    |true=>
     rw[w]at c
     cases o with
     |false=>rfl
     |true=>simp only[Vtb,Bool.and_self,Zc,Zd,decide_true,Za]at c⊢;exact c trivial
theorem Zpq(c:i<L.length)(k:L.length<=1000)(g:(lg L i).1=true->Ku n (lg L i)=true)(f:ZU (lg L i).2.2.2.2.2.1 n.1.length=true):F37 (n,q,L,(i:Int),())=some (bif XN L i then Y6 n q (lg L i) else 0):=by
 unfold F37;have h:Vg .i64 ((i:Int)+1)=((i+1:Nat):Int):=by rw[Zy (by omega) (by omega)];omega
 rw[GH c];simp only[Za,h]
 have d:(bif !(lg L i).1 then some true else bif decide (((i+1:Nat):Int)<((L.length:Nat):Int)) then Vka (idx L ((i+1:Nat):Int)) fun j=>some j.2.2.2.2.2.2.2.2.1 else some false)=some (!XN L i):=by
  unfold XN;by_cases b:i+1=L.length
  ·rw[Ze b,Zk (show¬((i+1:Nat):Int)<((L.length:Nat):Int) by omega)]
   cases (lg L i).1<;>rfl
  ·rw[Zk b,Ze (show ((i+1:Nat):Int)<((L.length:Nat):Int) by omega),D6 (show i+1<L.length by omega)];unfold KG;simp only[Za]
   cases (lg L i).1<;>cases (lg L (i+1)).2.2.2.2.2.2.2.2.1<;>rfl
 rw[d];simp only[Za]
 cases a:XN L i with
 |false=>rfl
 |true=>
  have e:(lg L i).1=true:=by unfold XN at a;rw[Vw]at a;exact a.1
  simp only[Vf,Zd,Zc];rw[Zja c (g e),Zjb f];simp only[Za];unfold Y6
  cases (cl (KE n (lg L i)) (lg L i).2.2.2.1).2.2.2.2.1<;>cases Xu n q (lg L i).2.2.2.2.2.1<;>rfl
theorem Zjc(m:Ws n)(p:n.2.2.2.2.1.length<=4096)(r:ZU q.1 n.1.length=true)(g:(q.2.2.2.2.2.2.2.2.2.1&&q.2.2.2.1)=false)(f:i<L.length)(o:L.length<=1000):F43 (n,q,L,(i:Int),())=some (WY n q L i):=by
 unfold F43 WY;rw[untilF,Zpt m p f];simp only[Za];by_cases c:Xd n q (lg L i)=0
 case neg=>rw[Zk c];rfl
 rw[Ze c];simp only[Vf,Zd,Zc];obtain⟨s,t,u,v⟩:=Zkr c
 have b:(lg L i).1=false->KG (lg L i)=false:=fun l=>by rw[ZdY]at c;rw[Kt (by omega),Kt (by omega)]at c;have:=c.2.1;unfold Za8 at this;rw[l]at this;simp only[Zd,Vda]at this;exact this.2.2.2
 have a:untilF [F37 (n,q,L,(i:Int),())]=some (bif XN L i then Y6 n q (lg L i) else 0):=by
  rw[untilF,Zpq f o (fun l=>(u l).1) t];simp only[Za,untilF]
  by_cases h:(bif XN L i then Y6 n q (lg L i) else 0)=0
  ·rw[Ze h,h];rfl
  ·rw[Zk h];rfl
 rw[untilF,Zpo f r g];simp only[Za];unfold Df;by_cases e:i=0
 ·subst e;simp only[decide_true,Zc];by_cases d:HA n q L=0
  ·rw[Ze d];simp only[Zc,Vf,Zd];have k:F36 (n,q,L,((0:Nat):Int),())=some 0:=rfl;have j:F34 (n,q,L,((0:Nat):Int),())=some 0:=rfl;rw[untilF,k];simp only[Za,decide_true,Zc];rw[untilF,j];simp only[Za,decide_true,Zc];exact a
  ·rw[Zk d];rfl
 ·rw[Zk e];simp only[Zd,decide_true,Zc];rw[Zpp m (by omega) f o s b (fun _=>a)]
  cases decide (Xc n (lg L (i - 1)) (lg L i)=0)<;>rfl
end Q
namespace Q
open Tr Go
variable {n:Zf}{q:Zr}{L:List Zt}
theorem Zdi{i:Nat}(h:WY n q L i=0):HU (lg L i)/\J5 (lg L i).2.2.2.2.2.2.1/\J5 (lg L i).2.2.2.2.2.2.2.1:=by have a:=(Y7.1 h).1;rw[ZdY,Kt (by omega),Kt (by omega),Kt (by omega)]at a;have:=a.2.2.1;unfold R7 at this;rw[Vda]at this;simp only[Vy,KL]at this;exact⟨by show _<=_;omega,⟨by omega,by omega⟩,⟨by omega,by omega⟩⟩
open Classical in
theorem Zqn(o:W6 n)(g:Whole n)(w:L.length<=20)(C:0<L.length)(v:∀i,i<L.length->WY n q L i=0):F48 n q (L,())=some (Yr n q L):=by
 have f:∀x∈L,HU x:=fun x A=>by
  obtain⟨i,a,rfl⟩:=Vo A;have:=(Zdi (v i a)).1
  rwa [Zca a]at this
 have z:F120 n=some true:=by rw[GQ o];exact congrArg some (Ze g)
 have b:n.2.2.2.2.2.1.1.length<=4096:=by have:=(W1 g.sound.fare).many;omega
 obtain⟨c,d,h⟩:=ZfY g.sound z b q L (by omega);obtain⟨p,k,l,_⟩:=Zf0 n q (L,()) o w f;have j:p=c:=by rw[l]at d;exact Option.some.inj d
 subst j;have m:F82 (L,())=some (Rq L):=by rw[ZeN];exact ZeM L (by omega)
 unfold F48 Yr;have e:Vg .i64 ((L.length:Int) - 1)=((L.length - 1:Nat):Int):=by rw[Zy (by omega) (by omega)];omega
 simp only[e,D6 (show L.length - 1<L.length by omega),Za];refine KM (fun r=>r=(Ww L:Int)) ?_ ?_
 ·refine Ki L.length _ (fun i (s:Int×Int)=>s=((Ww (L.take i):Int),(i:Int))) ?_ ?_ _ rfl
  ·rintro i _ a rfl;left
   have D:Ww (L.take i)<=L.length:=by unfold Ww;exact Vi (Vaa _ _) (by rw[Voa];omega)
   have t:(bif (L[i]).1 then some !(L[i]).2.2.2.2.2.2.2.2.1 else some false)=some (Zba L[i]):=by
    unfold Zba KG
    cases (L[i]).1<;>rfl
   have u:Ww (L.take (i+1))=Ww (L.take i)+(if Zba L[i] then 1 else 0):=by
    unfold Ww;rw[Va a,Vqa,Vn]
    cases y:Zba L[i]<;>simp [y]
   have B:Vg .i64 ((Ww (L.take i):Int)+1)=((Ww (L.take i)+1:Nat):Int):=by rw[Zy (by omega) (by omega)];omega
   simp only[ZO a,Zc,ZC a,Za,ZW a (show _<=9223372036854775807 by omega),B];rw[t,u]
   cases Zba L[i]<;>exact⟨_,rfl,rfl⟩
  ·rintro _ rfl;simp only[JF,Zd];exact⟨_,rfl,by rw[Vj]⟩
 ·rintro _ rfl;refine ZaZ (ZbE (ZaZ ?_));rw[m];simp only[Za];refine ZaZ ?_;rw[k];exact congrArg some h
open Classical in
theorem Zqo(d:Ws n)(f:n.2.2.2.2.1.length<=4096)(g:ZU q.1 n.1.length=true)(b:(q.2.2.2.2.2.2.2.2.2.1&&q.2.2.2.1)=false)(e:L.length<=1000):
 F49 n q (L,())=some (match K8 L.length (WY n q L) with|some i=>((i:Int),WY n q L i) |none=>((L.length:Int),0)):=by
 unfold F49;rw[Jv (n:=L.length) (fun i (s:Zf×Zr×List Zt×Int×Unit)=>s=(n,q,L,(i:Int),())) (WY n q L) (fun i=>.inr ((i:Int),WY n q L i)) (.inl ()) ?_ ?_ ?_ (n,q,L,(0:Int),()) rfl]
 ·unfold pick
  cases K8 L.length (WY n q L) with
  |some i=>rfl
  |none=>rfl
 ·rintro i _ a rfl c;refine⟨(n,q,L,((i+1:Nat):Int),()),?_,rfl⟩;simp only[ZO a,Zc,ZW a (show _<=9223372036854775807 by omega),Zjc d f g b a e,Za];rw[c];rfl
 ·rintro i _ a rfl c;simp only[ZO a,Zc,Zjc d f g b a e,Za];rw[Zk c];rfl
 ·rintro _ rfl;simp only[JF,Zd]
open Classical in
theorem Zqm(d:W6 n)(j:L.length<=20):F30 n q (L,())=some (WZ n q L):=by
 unfold F30 WZ;rw[DU d q];simp only[Za];by_cases c:XZ n q=0
 case neg=>rw[Zk c];rfl
 obtain⟨f,b⟩:=ZaA.1 c
 have a:ZU q.1 n.1.length=true/\(q.2.2.2.2.2.2.2.2.2.1&&q.2.2.2.1)=false:=by
  unfold qB at b;simp only[Vw]at b;refine⟨b.1,?_⟩;have:=b.2.2.2.2.2.2
  revert this
  cases q.2.2.2.2.2.2.2.2.2.1<;>cases q.2.2.2.1<;>simp
 rw[Ze c];simp only[Vf,Zd];by_cases hL:L.length=0
 ·rw[Ze (show (L.length:Int)=0 by omega),Ze hL]
  cases decide (q.1=q.2.1)<;>rfl
 rw[Zk (show¬(L.length:Int)=0 by omega),Zk hL];simp only[Zd];rw[Zqo f.sound d.paths a.1 a.2 (by omega)];simp only[Za]
 cases g:K8 L.length (WY n q L) with
 |some i=>
  have h:=D0 g;simp only
  rw[Zk h.2];rfl
 |none=>
  simp only;rw[Zqn d f j (by omega) (WH.1 g)];have e:Vg .i64 ((L.length:Int) - 1)=((L.length - 1:Nat):Int):=by rw[Zy (by omega) (by omega)];omega
  simp only[decide_true,Vf,Zd,Za,e]
  cases decide (Yr n q L=0)<;>rfl
end Q
namespace Q
open Tr Go
variable {n:Zf}{q:Zr}{L:List Zt}
open Classical in
theorem ZbO(a:W6 n)(c:Whole n)(q q' :Zr)(e:q'.2.2.1=q.2.2.1)(d:L.length<=90):F78 (ZG n q) q' (L,())=F78 n q (L,()):=by
 have b:Whole (ZG n q):=Zfu q a.paths c
 have f:F79 n (L,())=some (K2 n L false []):=by
  rcases Zem n (L,()) a d with ⟨_,h⟩|⟨_,_,h⟩
  ·rw[GQ a]at h;have:=Option.some.inj h;rw[Ze c]at this;cases this
  ·exact h
 have g:F79 (ZG n q) (L,())=some (K2 n L false []):=by
  rcases Zem (ZG n q) (L,()) (ZaM a) d with ⟨_,h⟩|⟨_,_,h⟩
  ·rw[GQ (ZaM a)]at h;have:=Option.some.inj h;rw[Ze b]at this;cases this
  ·rw[Zek]at h;exact h
 unfold F78;rw[f,g,e];rfl
theorem Zt9(d:W6 n)(c:Whole n){l:Zs}(e:l.2.2.2.2.2.1.length<=90){x:Kx}(a:x∈Jx (ZG n q) (Zo q) l):x.1=(l.2.2.2.2.2.1,())/\Xp (ZG n q) (Zo q) l/\F78 n q x.1=some (x.2.1,x.2.2.1,0):=by
 unfold Jx at a;split at a
 ·next b=>
  unfold Za0 at a;rw[ZbO d c q (Zo q) rfl e]at a
  grind
 grind
theorem Zub(d:W6 n)(b:Whole n){l:Zs}(e:l.2.2.2.2.2.1.length<=90)(a:Xp (ZG n q) (Zo q) l){c:YD}{t:List (Int×Int×Int×Int×Unit)}(f:F78 n q (l.2.2.2.2.2.1,())=some (c,t,0)):((l.2.2.2.2.2.1,()),c,t,())∈Jx (ZG n q) (Zo q) l:=by unfold Jx;rw[Zn a,Zcm (by rw[ZbO d b q (Zo q) rfl e];omega),Zn rfl];simp
structure K0 (n:Zf) (q:Zr):Prop where
 fit:W6 n
 few:Few n
 chk:XZ n q=0
 tin:JQ n
 max:q.2.2.2.2.1<=3
theorem K0.whole(h:K0 n q):Whole n:=(ZaA.1 h.chk).1
theorem K0.qb(h:K0 n q):qB n.1.length q=true:=(ZaA.1 h.chk).2
theorem K0.qnum(h:K0 n q):(0<=q.1/\q.1<(n.1.length:Int))/\(0<=q.2.1/\q.2.1<(n.1.length:Int))/\(0<=q.2.2.1/\q.2.2.1<=3155932800)/\0<=q.2.2.2.2.1/\(0<=q.2.2.2.2.2.1/\q.2.2.2.2.2.1<=86400)/\(q.2.2.2.1=true->q.2.2.2.2.2.2.2.2.2.1=false):=by
 have a:=h.qb;unfold qB at a;simp only[Vw,KL]at a;obtain⟨b,c,f,g,j,_,k⟩:=a;have d:=RY.1 b;have e:=RY.1 c
 grind
theorem K0.qi(h:K0 n q):QI (Zo q):=⟨by show q.2.2.2.2.1<=7;have:=h.max;omega,h.qnum.2.2.2.2.1.2⟩
theorem K0.wholeM(h:K0 n q):Whole (ZG n q):=Zfu q h.fit.paths h.whole
theorem K0.tinM(h:K0 n q):JQ (ZG n q):=Zmp h.tin
theorem K0.li0(h:K0 n q):LI (ZG n q).2.2.2.2.2.1 (W1 h.wholeM.sound.fare) (ZG n q) (Zo q) (KO (ZG n q) (Zo q)):=Zkk (n:=ZG n q) (q:=Zo q) (Zhe h.qb) h.max
theorem K0.li(h:K0 n q){l:Zs}(a:Rc (ZG n q) (Zo q) (KO (ZG n q) (Zo q)) l):LI (ZG n q).2.2.2.2.2.1 (W1 h.wholeM.sound.fare) (ZG n q) (Zo q) l:=a.li h.wholeM h.tinM h.qi h.li0
theorem ZjE(h:K0 n q)(p:q.2.2.2.1=false)(e:L.length<=1000)(r:(WZ n q L).2=0):∃l,Rc (ZG n q) (Zo q) (KO (ZG n q) (Zo q)) l/\l.2.2.2.2.2.1=L/\Xp (ZG n q) (Zo q) l:=by
 obtain⟨_,⟨c,a⟩|⟨c,a,f⟩⟩:=(G8 n q L).1 r
 ·have:L=[]:=Via c;subst this;exact⟨_,.start,rfl,fun h=>absurd h (by show¬(0:Int)=1;decide),a⟩
 ·have o:∀i,i<L.length->WY (ZG n q) (Zo q) L i=0:=fun i d=>Zdh.2 (a i d);unfold Yr at f;rw[Kt (by omega),Kt (by omega),Kt (by omega),Kt (by omega)]at f;obtain⟨k,_,m,j,_⟩:=f;simp only[Vy,KL,decide_eq_false_iff_not]at k m j
  have b:∀x∈L,HU x:=fun x s=>by
   obtain⟨i,d,rfl⟩:=Vo s;have:=(Zdi (a i d)).1
   rwa [Zca d]at this
  have g:L.length<=1000->Rq L=K9 L:=fun e=>by
   have c:=ZeO (L,()) e b;rw[ZeN]at c;have a:F137 (L,())=some (Rq L):=ZeM L e
   grind
  rw[g e]at j;obtain⟨l,t,u,v,w⟩:=Zqp h.wholeM h.tinM h.qi p h.li0 (L:=L) (by omega) o (by omega) (by omega);exact⟨l,t,u,v,by rw[w];assumption⟩
theorem ZjQ(h:K0 n q)(j:q.2.2.2.1=false):∃R:List Kx,F154 n q=some (R,0)/\R.length<=542198816521/\(∀x∈R,F78 n q x.1=some (x.2.1,x.2.2.1,0)/\ ∃l,Rc (ZG n q) (Zo q) (KO (ZG n q) (Zo q)) l/\x.1=(l.2.2.2.2.2.1,())/\Xp (ZG n q) (Zo q) l)/\
 (∀l,Rc (ZG n q) (Zo q) (KO (ZG n q) (Zo q)) l->Xp (ZG n q) (Zo q) l->∀c t,F78 n q (l.2.2.2.2.2.1,())=some (c,t,0)->∃x∈R,Z9 (Z8 q x.2.1) (Z8 q c))/\
 ∀L:List Zt,L.length<=20->(WZ n q L).2=0->∀c t,F78 n q (L,())=some (c,t,0)->∃x∈R,Z9 (Z8 q x.2.1) (Z8 q c):=by
 obtain⟨R,o,p,r,C⟩:=ZqL h.fit h.few h.chk h.tin h.max j
 have key:∀l,Rc (ZG n q) (Zo q) (KO (ZG n q) (Zo q)) l->Xp (ZG n q) (Zo q) l->∀c t,F78 n q (l.2.2.2.2.2.1,())=some (c,t,0)->∃x∈R,Z9 (Z8 q x.2.1) (Z8 q c):=fun l f b c t k=>by
  have d:=(h.li f).val.len;have a:l.2.2.2.2.2.1.length<=90:=by omega
  have y:=Zub h.fit h.whole a b k
  grind
 refine⟨R,o,p,fun x m=>?_,key,fun L w e c t k=>?_⟩
 ·obtain⟨l,f,g⟩:=r x m;have d:=(h.li f).val.len;have a:l.2.2.2.2.2.1.length<=90:=by omega
  obtain⟨s,u,v⟩:=Zt9 h.fit h.whole a g
  grind
 ·obtain⟨l,z,A,B⟩:=ZjE h j (by omega) e
  grind
end Q
namespace Q
open Tr Go
def Jf(a b:List Int):Prop:= ∃k,k<4/\(∀j,j<k->(a[j]?).getD 0=(b[j]?).getD 0)/\(a[k]?).getD 0<(b[k]?).getD 0
theorem Zcc(a:List Int):¬Jf a a:=fun⟨_,_,_,h⟩=>by omega
theorem ZkB{a b c:List Int}(h:Jf a b)(k:Jf b c):Jf a c:=by
 obtain⟨i,e,g,l⟩:=h;obtain⟨j,f,m,o⟩:=k;rcases Vra i j with d|rfl|d
 ·exact⟨i,e,by grind,by grind⟩
 ·exact⟨i,e,by grind,by omega⟩
 ·exact⟨j,f,by grind,by grind⟩
theorem ZgP{a b:List Int}(h:Jf a b):¬Jf b a:=fun k=>Zcc a (ZkB h k)
theorem eq4{a b:List Int}(c:a.length=4)(d:b.length=4)(h:∀j,j<4->(a[j]?).getD 0=(b[j]?).getD 0):a=b:=by
 apply List.ext_getElem (by omega)
 simp_all
theorem ZrC{a b:List Int}(d:a.length=4)(e:b.length=4):a=b\/Jf a b\/Jf b a:=by
 have key:∀k,k<=4->(∀j,j<k->(a[j]?).getD 0=(b[j]?).getD 0)\/Jf a b\/Jf b a:=by
  intro k
  induction k with
  |zero=>simp
  |succ k f=>
   intro g;rcases f (by omega) with h|h
   ·rcases Int.lt_trichotomy ((a[k]?).getD 0) ((b[k]?).getD 0) with c|c|c
    ·exact .inr (.inl ⟨k,by omega,h,c⟩)
    ·grind
    ·exact .inr (.inr ⟨k,by omega,by grind,c⟩)
   grind
 rcases key 4 (Vk _) with h|h
 ·exact .inl (eq4 d e h)
 grind
theorem ZpI{a b:List Int}(f:a.length=4)(g:b.length=4):∃z,F102 a b=some z/\(z<0↔Jf a b)/\(0<z↔Jf b a):=by
 unfold F102;rw[RS a b (by omega)];simp only[Za];by_cases h:a=b
 ·subst h;rw[Ze rfl];exact⟨0,rfl,⟨by simp,fun h=>absurd h (Zcc a)⟩,⟨by simp,fun h=>absurd h (Zcc a)⟩⟩
 ·rw[Zk h,Zd]
  suffices y:∃r:Unit ⊕ Int,_=some r/\((r=.inr (-1)/\Jf a b)\/(r=.inr 1/\Jf b a)) by
   obtain⟨r,t,u⟩:=y;rcases u with ⟨rfl,d⟩|⟨rfl,d⟩
   ·exact⟨-1,KM (fun x=>x=Sum.inr (-1)) ⟨_,t,rfl⟩ (fun x A=>by subst A;rfl),by grind,⟨by simp,fun h=>absurd h (ZgP d)⟩⟩
   ·exact⟨1,by grind,⟨by simp,fun h=>absurd h (ZgP d)⟩,by grind⟩
  refine Ki 4 (fun r:Unit ⊕ Int=>(r=.inr (-1)/\Jf a b)\/(r=.inr 1/\Jf b a)) (fun j (s:Int)=>s=(j:Int)/\ ∀k,k<j->(a[k]?).getD 0=(b[k]?).getD 0) ?_ ?_ _ (by simp)
  ·rintro j _ c ⟨rfl,e⟩;rw[Ze (by omega)];obtain⟨o,v,B⟩:=DP f c;obtain⟨p,w,C⟩:=DP g c;simp only[Zc,Kg c,Za,v,w];by_cases l:o<p
   ·rw[Ze l];exact .inr ⟨.inr (-1),rfl,.inl ⟨rfl,j,c,e,by omega⟩⟩
   ·rw[Zk l];by_cases m:p<o
    ·rw[Ze m];exact .inr ⟨.inr 1,rfl,.inr ⟨rfl,j,c,by grind,by omega⟩⟩
    ·rw[Zk m];refine .inl ⟨_,rfl,ZW c (by omega),fun k D=>?_⟩
     grind
  ·rintro _ ⟨rfl,e⟩;exact absurd (eq4 f g e) h
abbrev Ks(q:Zr)(x:Kx):List Int:=Z8 q x.2.1
def W0(q:Zr)(v:List Int)(x:Kx):Bool:=decide (v≠Ks q x/\Z9 v (Ks q x))
theorem ZkW(q:Zr){v:List Int}(a:v.length=4)(x:Kx):F151 x v q=some (W0 q v x):=by unfold F151;rw[Zbl];simp only[Za,Zf4 a (HP q x.2.1)];rfl
theorem ZqX(q:Zr){v:List Int}(g:v.length=4){l:List Kx}(k:l.length<=549755813888):(F180 l (v,q,())=some (-1)/\ ∀x∈l,W0 q v x=false)\/ ∃i,∃a:i<l.length,F180 l (v,q,())=some (i:Int)/\(∀x∈l.take i,W0 q v x=false)/\W0 q v l[i]=true:=by
 unfold F180
 suffices e:∃r:Unit ⊕ Int,_=some r/\((r=.inl ()/\ ∀x∈l,W0 q v x=false)\/ ∃i:Nat,∃a:i<l.length,r=.inr (i:Int)/\(∀x∈l.take i,W0 q v x=false)/\W0 q v l[i]=true) by
  obtain⟨r,c,d⟩:=e;rcases d with ⟨rfl,h⟩|⟨i,a,rfl,h⟩
  ·exact .inl ⟨KM (fun x=>x=Sum.inl ()) ⟨_,c,rfl⟩ (fun x b=>by subst b;rfl),h⟩
  grind
 refine Ki l.length (fun r:Unit ⊕ Int=>(r=.inl ()/\ ∀x∈l,W0 q v x=false)\/ ∃i:Nat,∃a:i<l.length,r=.inr (i:Int)/\(∀x∈l.take i,W0 q v x=false)/\W0 q v l[i]=true) (fun i (s:Int)=>s=(i:Int)/\ ∀x∈l.take i,W0 q v x=false) ?_ ?_ _ (by simp)
 ·rintro i _ a ⟨rfl,h⟩;have b:idx l (i:Int)=some l[i]:=ZC a;have f:∀w,w∈l.take (i+1)↔w∈l.take i\/w=l[i]:=fun w=>by rw[Va a,Vd,Vb]
  simp only[ZO a,Zc,b,Za,ZkW q g]
  cases j:W0 q v l[i] with
  |true=>grind
  |false=>
   refine .inl ⟨_,rfl,ZW a (by omega),fun w m=>?_⟩
   grind
 simp
theorem ZpW(q:Zr){v:List Int}(G:v.length=4){l:List Kx}(M:l.length<=549755813888):F179 l (v,q,())=some (l.filter fun x=> !W0 q v x):=by
 unfold F179;rcases ZqX q G M with ⟨d,H⟩|⟨b,w,d,H,D⟩
 ·rw[d];simp only[Za,decide_true,Zc];rw[List.filter_eq_self.2 (by grind)]
 ·rw[d];have A:Vg .i64 ((b:Int)+1)=((b+1:Nat):Int):=by rw[Zy (by omega) (by omega)];omega
  simp only[Za,Zk (show¬(b:Int)= -1 by omega),Zd,A];refine KM (fun r:List Kx×Int=>∃k:Nat,r.2=(k:Int)/\k<=l.length/\r.1.length=l.length/\r.1.take k=l.filter fun x=> !W0 q v x) ?_ ?_
  ·have o:(l.take b).filter (fun x=> !W0 q v x)=l.take b:=by simp_all
   refine Ki (l.length - (b+1)) _ (fun r (s:List Kx×Int×Int)=>∃k:Nat,s.2=((k:Int),((b+1+r:Nat):Int))/\k<=b+1+r/\s.1.length=l.length/\(s.1.take k=(l.take (b+1+r)).filter fun x=> !W0 q v x)/\s.1.drop (b+1+r)=l.drop (b+1+r)) ?_ ?_ _ ⟨b,rfl,by omega,rfl,?_,rfl⟩
   ·rintro r ⟨fr,_⟩ R ⟨k,rfl,p,a,c,f⟩;left;simp only at a c f;have E:b+1+r<l.length:=by omega
    generalize K:b+1+r=i at*;have t:i<fr.length:=by omega
    have u:fr[i]? =some l[i]:=by have d:=congrArg List.head? f;rw[Vwa,Vwa,Vc E]at d;omega
    have h:(l.take (i+1)).filter (fun x=> !W0 q v x)=(l.take i).filter (fun x=> !W0 q v x)++(if W0 q v l[i]=true then [] else [l[i]]):=by
     rw[Va E,Vqa]
     grind
    have g:fr.drop (i+1)=l.drop (i+1):=by have d:=congrArg (Vx 1) f;rw[Vza,Vza]at d;omega
    have m:decide ((i:Int)<((fr.length:Nat):Int))=true:=by grind
    have B:Vg .i64 ((i:Int)+1)=((b+1+(r+1):Nat):Int):=by rw[Zy (by omega) (by omega)];omega
    have y:b+1+(r+1)=i+1:=by omega
    simp only[m,Zc,Kg t,u,Za,ZkW q G,B];rw[y]
    cases I:W0 q v l[i] with
    |true=>
     rw[Zn I,Vca]at h
     exact⟨_,rfl,k,rfl,by omega,a,by grind,g⟩
    |false=>
     rw[Zg (by grind)]at h;have j:k<fr.length:=by omega
     have C:Vg .i64 ((k:Int)+1)=((k+1:Nat):Int):=by rw[Zy (by omega) (by omega)];omega
     simp only[Vt,Zc,Kg j,Za,Vc j,C];refine⟨_,rfl,k+1,rfl,by omega,by grind,?_,?_⟩
     ·have Q:(fr.set k l[i]).take (k+1)=fr.take k++[l[i]]:=by rw[Va (by grind),Vkb (Vk _),Vgb]
      grind
     ·rw[Vlb (by omega)];omega
   ·rintro ⟨fr,_⟩ ⟨k,rfl,p,a,c,_⟩;have e:b+1+(l.length - (b+1))=l.length:=by omega
    rw[e]at c p;rw[Vj]at c;have m:decide (((b+1+(l.length - (b+1)):Nat):Int)<((fr.length:Nat):Int))=false:=by grind
    exact⟨(fr,(k:Int)),by grind,k,rfl,p,a,c⟩
   ·rw[Nat.add_zero,Va w,Vqa,o,Vdb (by grind)];simp
  ·rintro ⟨fr,_⟩ ⟨k,rfl,p,a,c⟩;simp only at a c;have z:sliceB fr.length fr.length (some (k:Int)) none=some (k,fr.length):=Zhv (by omega);simp only[z,Za];have J:ZE (decide (k+(fr.length - k)<=fr.length))=some ():=by rw[Ze (by omega)];rfl
   rw[J];simp only[Za];generalize S:Vla (fr.length - k) (((([]:List (El Jp)),()),((0:Int),(0:Int),(0:Int),(0:Int),(0:Int),()),([]:List (El Hu)),()):Kx)=Z;have P:Z.length=fr.length - k:=by grind
   have N:(Vu k fr++Z++Vx (k+(fr.length - k)) fr).length=fr.length:=by
    grind
   have O:sliceB (Vu k fr++Z++Vx (k+(fr.length - k)) fr).length (Vu k fr++Z++Vx (k+(fr.length - k)) fr).length none (some (k:Int))=some (0,k):=by
    unfold sliceB
    grind
   grind
def YF(q:Zr)(l:List Kx):Prop:=l.Pairwise fun x y=>¬Z9 (Ks q x) (Ks q y)/\ ¬Z9 (Ks q y) (Ks q x)
theorem ZkX(q:Zr){l:List Kx}(o:Kx)(I:l.length+1<=549755813888):∃c,F150 q l o=some c/\c.length<=l.length+1/\(∀x∈c,x∈l\/x=o)/\(∃y∈c,Z9 (Ks q y) (Ks q o))/\(∀x∈l,∃y∈c,Z9 (Ks q y) (Ks q x))/\(YF q l->YF q c):=by
 have p:=HP q o.2.1;unfold F150;rw[Zbl];simp only[Za]
 suffices D:∃r:Unit ⊕ Unit,_=some r/\((r=.inl ()/\ ∀x∈l,¬Z9 (Ks q x) (Ks q o))\/(r=.inr ()/\ ∃x∈l,Z9 (Ks q x) (Ks q o))) by
  obtain⟨r,z,A⟩:=D;rcases A with ⟨rfl,h⟩|⟨rfl,h⟩
  ·have t:=ZpW q p (l:=l) (by omega);have u:=Vaa (fun x=> !W0 q (Z8 q o.2.1) x) l
   have H:ZE (decide ((l.filter fun x=> !W0 q (Z8 q o.2.1) x).length+ [o].length<=Zz))=some ():=by have C:(Zz:Nat)=549755813888:=rfl;rw[Ze (by grind)];rfl
   refine⟨(l.filter fun x=> !W0 q (Z8 q o.2.1) x)++[o],?_,?_,fun x b=>?_,⟨o,by simp,D4 _⟩,fun x b=>?_,fun a=>?_⟩
   ·refine KM (fun x=>x=Sum.inl ()) ⟨_,z,rfl⟩ (fun x b=>?_)
    grind
   ·grind
   ·grind
   ·cases g:W0 q (Z8 q o.2.1) x with
    |true=>exact⟨o,by simp,(XY g).2⟩
    |false=>exact⟨x,by grind,D4 _⟩
   ·refine List.pairwise_append.2 ⟨List.Pairwise.filter _ a,by simp,fun x b y v=>?_⟩;rw[Vb]at v;subst v;obtain⟨B,G⟩:=Vq.1 b;refine⟨h x B,fun k=>?_⟩;have m:W0 q (Z8 q y.2.1) x=false:=by grind
    unfold W0 at m
    grind
  ·refine⟨l,by grind,by omega,by grind,h,fun x b=>⟨x,b,D4 _⟩,id⟩
 refine Ki l.length (fun r:Unit ⊕ Unit=>(r=.inl ()/\ ∀x∈l,¬Z9 (Ks q x) (Ks q o))\/(r=.inr ()/\ ∃x∈l,Z9 (Ks q x) (Ks q o))) (fun i (s:Int)=>s=(i:Int)/\ ∀x∈l.take i,¬Z9 (Ks q x) (Ks q o)) ?_ ?_ _ (by simp)
 ·rintro i _ a ⟨rfl,h⟩;have E:∀w,w∈l.take (i+1)↔w∈l.take i\/w=l[i]:=fun w=>by rw[Va a,Vd,Vb]
  have e:=Vh a;have d:=Vc a;generalize l[i]=x at*;have f:=HP q x.2.1;simp only[ZO a,Zc,Kg a,d,Za,Zbl,RS _ _ (show (Z8 q x.2.1).length=(Z8 q o.2.1).length by rw[f,p]),Zf4 f p];by_cases j:Z8 q x.2.1=Z8 q o.2.1
  ·rw[Ze j];exact .inr ⟨_,rfl,.inr ⟨rfl,x,e,by show Z9 (Z8 q x.2.1) (Z8 q o.2.1);rw[j];exact D4 _⟩⟩
  ·rw[Zk j];simp only[Zd];by_cases k:Z9 (Z8 q x.2.1) (Z8 q o.2.1)
   ·grind
   ·have t:¬(Z8 q x.2.1≠Z8 q o.2.1/\Z9 (Z8 q x.2.1) (Z8 q o.2.1)):=by grind
    rw[Zk t];refine .inl ⟨_,rfl,ZW a (by omega),fun w J=>?_⟩
    grind
 simp
end Q
namespace Q
open Tr Go
variable {n:Zf}{q:Zr}
theorem ZgU:∀(l:List Int) (x y:Int),y∈Yp x l->y∈l
 |[],_,_,h=>by cases h
 |z::l,x,y,h=>by
  unfold Yp at h
  cases a:decide (z=x) with
  |true=>rw[a]at h;exact Vva _ (ZgU l x y h)
  |false=>
   rw[a]at h;simp only[Zd,Vga]at h;rcases h with rfl|h
   ·simp
   ·exact Vva _ (ZgU l z y h)
theorem ZfV:∀(l:List Int) (x y:Int),y∈l->y=x\/y∈Yp x l
 |[],_,_,h=>by cases h
 |z::l,x,y,h=>by
  unfold Yp
  cases a:decide (z=x) with
  |true=>
   have b:=XY a;simp only[Zc];rcases Vga.1 h with rfl|h
   ·omega
   ·exact ZfV l x y h
  |false=>
   simp only[Zd,Vga];rcases Vga.1 h with rfl|h
   ·omega
   ·exact .inr (ZfV l z y h)
theorem ZrF{l:List Int}{y:Int} :y∈Je l↔y∈l:=by
 cases l with
 |nil=>rfl
 |cons x l=>
  show y∈x::Yp x l↔_;rw[Vga,Vga];constructor
  ·rintro (h|h)
   ·omega
   ·exact .inr (ZgU l x y h)
  ·rintro (h|h)
   ·omega
   ·exact ZfV l x y h
theorem ZsI(l:List Int)(r:l.length<=4294967296):∃m,F181 l=some m/\m.Perm l:=by
 unfold F181;have h:Vg .i64 ((l.length:Int) - 1)=(l.length:Int) - 1:=Zy (by omega) (by omega);rw[h];refine run_bind (fun s=>∃(fr:List Int) (i:Nat),s=(fr,(i:Int),(l.length:Int) - 1 - (i:Int))/\fr.Perm l/\i<=l.length) (fun s=>l.length - s.2.1.toNat) (fun m=>m.Perm l) ⟨l,0,by simp,.refl _,Vz _⟩ ?_ ?_
 ·rintro _ ⟨fr,i,rfl,g,p⟩;have d:=g.length_eq;by_cases f:(i:Int)<(l.length:Int) - 1 - (i:Int)
  ·left;have a:i<fr.length:=by omega
   obtain⟨j,e⟩:∃j:Nat,(l.length:Int) - 1 - (i:Int)=(j:Int):=⟨l.length - 1 - i,by omega⟩;have b:j<fr.length:=by omega
   have c:j<(fr.set i fr[j]).length:=by grind
   have k:Vg .i64 ((i:Int)+1)=((i+1:Nat):Int):=by rw[Zy (by omega) (by omega)];omega
   have o:Vg .i64 ((j:Int) - 1)=(l.length:Int) - 1 - ((i+1:Nat):Int):=by rw[Zy (by omega) (by omega)];omega
   simp only[e];rw[Ze (by omega)];simp only[Zc,Kg b,Kg a,Vc b,Vc a,Za,Kg c,Vc c,k,o];refine⟨_,rfl,⟨_,i+1,rfl,by grind,by omega⟩,?_⟩
   grind
  grind
 simp
def D9(n:Zf)(q:Zr)(s:Int)(w:Int):Prop:=(w=0/\s=q.1)\/ ∃p∈n.2.2.2.2.1,p.1=q.1/\p.2.1=s/\w=p.2.2.1
theorem ZpX(S:WW n)(P:JQ n)(hq:0<=q.1/\q.1<(n.1.length:Int)):∃l:List Int,F149 n q=some l/\l.length<=2562/\(∀t∈l,0<=t/\t<=q.2.2.1)/\
 ∀i c,i<n.2.2.1.length->c<(Zw n i).length->∀w,D9 n q (Zi n i c).1 w->0<=(Zi n i c).2.2.1 - w->(Zi n i c).2.2.1 - w<=q.2.2.1->(Zi n i c).2.2.1 - w∈l:=by
 have hm:(Zz:Int)=549755813888:=rfl;have a6:(Zz:Nat)=549755813888:=rfl;have h5:=P.stops;have a3:=P.paths;have h7:=P.runs;obtain⟨a,ha⟩:∃a:Nat,q.1=(a:Int):=⟨q.1.toNat,by omega⟩;have T:a<n.1.length:=by omega
 unfold F149
 have g1:ZE (decide ((0:Int)<=(n.1.length:Int)/\(n.1.length:Int)<=(n.1.length:Int)/\(n.1.length:Int)<=(Zz:Int)))=some ():=by rw[Ze ⟨by omega,by omega,by omega⟩];rfl
 have H:a<(Vla n.1.length ([]:List Int)).length:=by simpa using T
 have a1:idx (Vla n.1.length ([]:List Int)) (a:Int)=some []:=by rw[ZC H,List.getElem_replicate]
 have X:(Vla n.1.length ([]:List Int))[a]? =some []:=by grind
 have g2:ZE (decide (([]:List Int).length+ [(0:Int)].length<=Zz))=some ():=rfl;have g3:ZE (D2 (some a) a)=some ():=by simp [D2];rfl
 rw[g1];simp only[Za,Ve,ha,Kg H,X,a1,g2,g3];refine Wl (fun rows:List (List Int)=>rows.length=n.1.length/\ ∀s:Nat,s<n.1.length->∃r,rows[s]? =some r/\r.length<=61/\(∀w∈r,0<=w/\w<=14400)/\ ∀w,D9 n q (s:Int) w->w∈r) ?_ ?_
 ·refine Ki n.2.2.2.2.1.length _ (fun k (st:List (List Int) ×Int)=>st.2=(k:Int)/\st.1.length=n.1.length/\ ∀s:Nat,s<n.1.length->∃r,st.1[s]? =some r/\r.length<=1+k/\(∀w∈r,0<=w/\w<=14400)/\((s:Int)=q.1->(0:Int)∈r)/\ ∀p∈n.2.2.2.2.1.take k,p.1=q.1->p.2.1=(s:Int)->p.2.2.1∈r) ?_ ?_ _ ⟨rfl,by simp,fun s A=>?_⟩
  ·rintro k ⟨rows,_⟩ j ⟨rfl,g,e⟩;left;simp only at g e;have hx:idx n.2.2.2.2.1 (k:Int)=some n.2.2.2.2.1[k]:=ZC j;have a8:=S.path _ (Vh j);have Y:∀w,w∈n.2.2.2.2.1.take (k+1)↔w∈n.2.2.2.2.1.take k\/w=n.2.2.2.2.1[k]:=fun w=>by rw[Va j,Vd,Vb]
   generalize n.2.2.2.2.1[k]=p at*;simp only[ZO j,Zc,hx,Za,ZW j (by omega)];by_cases a7:p.1=q.1
   ·rw[Ze (show p.1=(a:Int) by omega)];obtain⟨b,U⟩:∃b:Nat,p.2.1=(b:Int):=⟨p.2.1.toNat,by omega⟩;have v:b<n.1.length:=by omega
    have x:b<rows.length:=by omega
    obtain⟨r,r1,r2,r3,r4,r5⟩:=e b v
    have y:idx rows (b:Int)=some r:=by
     assumption
    have V:ZE (decide (r.length+ [p.2.2.1].length<=Zz))=some ():=by rw[Ze (by grind)];rfl
    have hh:ZE (D2 (some b) b)=some ():=by simp [D2];rfl
    simp only[Zc,U,Kg x,r1,y,Za,V,Ve,hh];refine⟨_,rfl,rfl,by grind,fun s A=>?_⟩;by_cases b0:s=b
    ·grind
    ·obtain⟨r',k1,k2,k3,k4,k5⟩:=e s A
     grind
   ·rw[Zk (show¬p.1=(a:Int) by omega)]
    grind
  ·rintro ⟨rows,_⟩ ⟨rfl,g,e⟩;rw[Vj]at e;refine⟨rows,by simp,g,fun s A=>?_⟩;obtain⟨r,k1,k2,k3,k4,k5⟩:=e s A;refine⟨r,k1,by omega,k3,?_⟩;rintro w (⟨rfl,h⟩|⟨p,hp,O,G,rfl⟩)
   all_goals grind
  grind
 ·rintro rows ⟨g,e⟩;refine Wl (fun l:List Int=>l.length<=2562/\(∀t∈l,0<=t/\t<=q.2.2.1)/\ ∀i c,i<n.2.2.1.length->c<(Zw n i).length->∀w,D9 n q (Zi n i c).1 w->0<=(Zi n i c).2.2.1 - w->(Zi n i c).2.2.1 - w<=q.2.2.1->(Zi n i c).2.2.1 - w∈l) ?_ ?_
  ·refine Ki n.2.2.1.length _ (fun i (st:List Int×Int)=>st.2=(i:Int)/\st.1.length<=366*i/\(∀t∈st.1,0<=t/\t<=q.2.2.1)/\ ∀B c,B<i->c<(Zw n B).length->∀w,D9 n q (Zi n B c).1 w->0<=(Zi n B c).2.2.1 - w->(Zi n B c).2.2.1 - w<=q.2.2.1->(Zi n B c).2.2.1 - w∈st.1) ?_ ?_ _ ⟨rfl,by simp,by simp,by omega⟩
   ·rintro i ⟨acc,_⟩ K ⟨rfl,hl,hr,I⟩;left;simp only at hl hr I;have h6:=P.calls i K;simp only[Ze (show (i:Int)<((n.2.2.1.length:Nat):Int) by omega),Zc,RX K,Za,ZW K (by omega)];refine Xn (fun l:List Int=>l.length<=acc.length+61* (Zw n i).length/\(∀t∈l,0<=t/\t<=q.2.2.1)/\(∀t∈acc,t∈l)/\ ∀c,c<(Zw n i).length->∀w,D9 n q (Zi n i c).1 w->0<=(Zi n i c).2.2.1 - w->(Zi n i c).2.2.1 - w<=q.2.2.1->(Zi n i c).2.2.1 - w∈l) ?_ ?_
    ·refine Ki (Zw n i).length _ (fun c (st:List Int×Int)=>st.2=(c:Int)/\st.1.length<=acc.length+61*c/\(∀t∈st.1,0<=t/\t<=q.2.2.1)/\(∀t∈acc,t∈st.1)/\ ∀z,z<c->∀w,D9 n q (Zi n i z).1 w->0<=(Zi n i z).2.2.1 - w->(Zi n i z).2.2.1 - w<=q.2.2.1->(Zi n i z).2.2.1 - w∈st.1) ?_ ?_ _ ⟨rfl,by simp,hr,by simp,by omega⟩
     ·rintro c ⟨f,_⟩ J ⟨rfl,C,u,D,E⟩;left;simp only at C u D E;have b2:=S.stop K J;have b3:=S.time K J;obtain⟨b,U⟩:∃b:Nat,(Zi n i c).1=(b:Int):=⟨(Zi n i c).1.toNat,by omega⟩;have v:b<n.1.length:=by omega
      have x:b<rows.length:=by omega
      obtain⟨r,r1,r2,r3,r4⟩:=e b v
      have y:idx rows (b:Int)=some r:=by
       assumption
      have M:decide ((c:Int)<((rn n (i:Int)).2.2.2.2.2.2.2.1.length:Int))=true:=Ze (by show (c:Int)<((Zw n i).length:Int);omega);have Z:Vg .i64 ((c:Int)+1)=((c+1:Nat):Int):=by rw[Zy (by omega) (by omega)];omega
      simp only[M,Zc,RW J,Za,Z];rw[U];simp only[Kg x,r1,y,Za];generalize hd:(Zi n i c).2.2.1=d at*;refine Xn (fun l:List Int=>l.length<=f.length+61/\(∀t∈l,0<=t/\t<=q.2.2.1)/\(∀t∈f,t∈l)/\ ∀w∈r,0<=d - w->d - w<=q.2.2.1->d - w∈l) ?_ ?_
      ·refine Ki r.length _ (fun k (st:List Int×Int)=>st.2=(k:Int)/\st.1.length<=f.length+k/\(∀t∈st.1,0<=t/\t<=q.2.2.1)/\(∀t∈f,t∈st.1)/\ ∀w∈r.take k,0<=d - w->d - w<=q.2.2.1->d - w∈st.1) ?_ ?_ _ ⟨rfl,by simp,u,by simp,by simp⟩
       ·rintro k ⟨o,_⟩ j ⟨rfl,d1,Q,R,d4⟩;left;simp only at d1 Q R d4;have a9:=r3 _ (Vh j);have W:=Vc j;have Y:∀w,w∈r.take (k+1)↔w∈r.take k\/w=r[k]:=fun w=>by rw[Va j,Vd,Vb]
        generalize r[k]=w at*;have a0:Vg .i64 (d - w)=d - w:=Zy (by omega) (by omega);simp only[ZO j,Zc,Kg j,W,Za,a0,ZW j (by omega)];have skip:¬(0<=d - w/\d - w<=q.2.2.1)->∀w' ∈r.take (k+1),0<=d - w' ->d - w' <=q.2.2.1->d - w' ∈o:=by grind
        by_cases O:0<=d - w
        case neg=>rw[Zk O];exact⟨_,rfl,rfl,by simp only;omega,Q,R,by grind⟩
        rw[Ze O];by_cases G:d - w<=q.2.2.1
        case neg=>rw[Zk G];exact⟨_,rfl,rfl,by simp only;omega,Q,R,skip fun h=>G h.2⟩
        rw[Ze G]
        have V:ZE (decide (o.length+ [d - w].length<=Zz))=some ():=by rw[Ze (by grind)];rfl
        simp only[Zc,Za,V];refine⟨_,rfl,rfl,by simp;omega,by grind,by grind,by grind⟩
        all_goals grind
       grind
      ·rintro l ⟨l1,l2,l3,l4⟩;refine⟨_,rfl,rfl,by grind,l2,by grind,fun z a4 w hw O G=>?_⟩
       grind
     ·rintro ⟨f,_⟩ ⟨rfl,C,u,D,E⟩;have M:decide (((Zw n i).length:Int)<((rn n (i:Int)).2.2.2.2.2.2.2.1.length:Int))=false:=Zk (by show¬((Zw n i).length:Int)<((Zw n i).length:Int);omega)
      grind
    grind
   grind
  ·rintro l ⟨l1,l2,l3⟩;have N:=ZdW l
   have A:F184 l=some (X6 l):=by
    show sortI l=_;unfold sortI
    grind
   have b1:=N.length_eq;have a5:=Zjj (X6 l)
   have J:F178 (X6 l)=some (Je (X6 l)):=by
    show compactI (X6 l)=_;unfold compactI
    grind
   obtain⟨m,m1,m2⟩:=ZsI (Je (X6 l)) (by omega);have a2:∀t,t∈m↔t∈l:=fun t=>by rw[m2.mem_iff,ZrF,N.mem_iff]
   simp only[A,J,m1,Za];exact⟨m,rfl,by rw[m2.length_eq];omega,by grind,by grind⟩
end Q
namespace Q
open Tr Go
variable {n:Zf}{q:Zr}
def Kz(q:Zr)(t:Int):Zr:=(q.1,q.2.1,t,false,q.2.2.2.2)
theorem ZhM(m:Zf)(q:Zr)(t a:Int)(l:Zs):JK m (Zo (Kz q t)) l=JK m (Zo (Kz q a)) l:=rfl
theorem Zl4(f:WW n){i c d:Nat}(e:i<n.2.2.1.length)(b:c<d)(j:d<(Zw n i).length):(Zi n i c).2.2.1<=(Zi n i d).2.1:=by
 have k:=f.sound.time _ (Vh e)
 have key:∀d,c<d->d<(Zw n i).length->(Zi n i c).2.2.1<=(Zi n i d).2.1:=by
  intro d
  induction d with
  |zero=>intro h;omega
  |succ d l=>
   intro m a
   have g:(Zi n i d).2.2.1<=(Zi n i (d+1)).2.1:=by rw[RM a,RM (show d<(Zw n i).length by omega)];simp only[Zay e]at a⊢;have:=(k (d+1) a).2.2.2 (by omega);simp only[Nat.add_sub_cancel]at this;exact this.2
   rcases Nat.lt_or_ge c d with h|h
   ·have:=l h (by omega);have o:=f.time e (show d<(Zw n i).length by omega);omega
   ·have:c=d:=by omega
    subst this;exact g
 exact key d b j
theorem ZnG(s t a b e d:Int):WT [KI s t a (a+e)] d=[KI s t (d - e) d]/\WT [KI s t b (b+e)] d=[KI s t (d - e) d]:=by
 rw[RB rfl,RB rfl];unfold KI
 constructor<;> · simp only;congr 8;omega
theorem Zhh(hW:Whole n)(hT:JQ n){ZN:Int}(hQ:QI (Zo (Kz q ZN))){hF:FO n.2.2.2.2.2.1}(T:q.2.2.2.2.2.2.2.2.2.1=false)(h0:LI n.2.2.2.2.2.1 hF n (Zo (Kz q ZN)) (KO n (Zo (Kz q ZN)))){l:Zs}(h:Rc n (Zo (Kz q ZN)) (KO n (Zo (Kz q ZN))) l):
 (l.2.2.1=0/\(l=KO n (Zo (Kz q ZN))\/ ∃p∈n.2.2.2.2.1,DS (Zo (Kz q ZN)) (KO n (Zo (Kz q ZN))) p/\l=XK (KO n (Zo (Kz q ZN))) p))\/
 ∃d x L,l.2.2.2.2.2.1=x::L/\(L=[]->x.1=true)/\x.2.2.2.2.2.2.1=d/\ZN<=d/\d<=l.2.1/\0<l.2.2.1/\(∃i c w,i<n.2.2.1.length/\c<(Zw n i).length/\D9 n q (Zi n i c).1 w/\d=(Zi n i c).2.2.1 - w)/\Rc n (Zo (Kz q d)) (KO n (Zo (Kz q d))) l:=by
 have v:=hW.ok
 induction h with
 |start=>exact .inl ⟨rfl,.inl rfl⟩
 |step hl W ih=>
  rename_i l x;have E:=hl.li hW hT hQ h0;obtain⟨s1,s2,s3,s4,s5⟩:=ZaB l;have a1:(Zo (Kz q ZN)).2.2.2.2.2.2.2.2.2.1=false:=T;rcases YV.1 W with ⟨k1,hs⟩|⟨k1,hb⟩|⟨k1,k2,hw⟩
  ·
   right;obtain⟨k,hk,⟨_,_,_,_,I⟩,d,a0,U,_,rfl⟩:=ZaU.1 hs;obtain⟨r,d0,j,d',sy,he,_,hj,_⟩:=v.link _ hk;subst he;simp only[Ve]at*;rcases ih with ⟨hr,_⟩|⟨g,y,L,M,X,N,O,e5,V,P,Q⟩
   ·have S:=E.cnt;rw[Zn k1]at S;omega
   ·have hm:=Zl4 v hj a0 U;refine⟨g,y,L++[ZV n j 0 d true],by show l.2.2.2.2.2.1++_=_;rw[M];rfl,fun h=>absurd h (by simp),N,O,?_,V,P,.step Q (by rw[ZhM n q g ZN l];exact W)⟩;show g<=(Zi n j d).2.1;omega
  ·
   right;obtain⟨i,c,d,J,A,U,b,s,u,ex⟩:=Di.1 hb;have I:=Zi1 v E.val b;have hm:=Zl4 v J A U;have S:c<(Zw n i).length:=by omega
   have a8:=E.val.rides;rcases ih with ⟨hr,D|⟨p,K,o,G⟩⟩|⟨g,y,L,M,X,N,O,e5,V,P,Q⟩
   ·subst D;have a:∀t,ZS (KO n (Zo (Kz q t)))=KO n (Zo (Kz q t)):=fun t=>by unfold ZS;rw[Zg (by show¬(0:Int)=1;decide)]
    have B:∀t,Xq n (Zo (Kz q t)) (KO n (Zo (Kz q t)))=t:=fun t=>by unfold Xq;rw[Zg (by show¬(0:Int)=1;decide),Zg (by show¬(0:Int)=2;decide),Zg (by rw[show (Zo (Kz q t)).2.2.2.2.2.2.2.2.2.1=q.2.2.2.2.2.2.2.2.2.1 from rfl,T];decide)];show t+0=t;omega
    rw[a]at ex b s;obtain⟨Y,Z,R,g4,_⟩:=b;have H:(Zi n i c).1=q.1:=R;refine⟨(Zi n i c).2.2.1,ZV n i c d false,[],?_,fun _=>rfl,rfl,I,?_,?_,⟨i,c,0,J,S,.inl ⟨rfl,H⟩,by omega⟩,?_⟩
    ·subst ex;show WT [] (Zi n i c).2.2.1++[ZV n i c d false]=_;rw[Zc8 (by simp)];rfl
    ·subst ex;show _<=(Zi n i d).2.1;exact hm
    ·subst ex;show (0:Int)<0+1;omega
    ·refine .step .start (YV.2 (.inr (.inl ⟨fun h=>absurd h (by show¬(0:Int)=1;decide),Di.2 ⟨i,c,d,J,A,U,?_,?_,u,?_⟩⟩)))
     ·rw[a,B];exact⟨Y,Z,R,g4,.inl (Vpa _)⟩
     ·rw[a];exact s
     ·rw[a,ex];rfl
   ·subst G;have a2:=v.path p K;obtain⟨w1,w2,w3⟩:=o;have a6:(XK (KO n (Zo (Kz q ZN))) p).1.1=2:=rfl;have m:∀t,ZS (XK (KO n (Zo (Kz q t))) p)=XK (KO n (Zo (Kz q t))) p:=fun t=>by unfold ZS;rw[Zg (by show¬(2:Int)=1;decide)]
    have a:∀t,ZS (KO n (Zo (Kz q t)))=KO n (Zo (Kz q t)):=fun t=>by unfold ZS;rw[Zg (by show¬(0:Int)=1;decide)]
    have B:∀t,Xq n (Zo (Kz q t)) (XK (KO n (Zo (Kz q t))) p)=t+p.2.2.1:=fun t=>by unfold Xq;rw[Zg (by show¬(2:Int)=1;decide),Zn (show (XK (KO n (Zo (Kz q t))) p).1.1=2 from rfl)];rfl
    rw[m]at ex b s;obtain⟨Y,Z,R,g4,_⟩:=b;have H:(Zi n i c).1=p.2.1:=R;have a4:ZN+p.2.2.1<=(Zi n i c).2.2.1:=I;have a5:=v.time J S;have f:=ZnG q.1 p.2.1 ZN ((Zi n i c).2.2.1 - p.2.2.1) p.2.2.1 (Zi n i c).2.2.1;refine⟨(Zi n i c).2.2.1 - p.2.2.1,KI q.1 p.2.1 ((Zi n i c).2.2.1 - p.2.2.1) (Zi n i c).2.2.1,[ZV n i c d false],?_,fun h=>absurd h (by simp),rfl,by omega,?_,?_,⟨i,c,p.2.2.1,J,S,.inr ⟨p,K,w1,H.symm,rfl⟩,rfl⟩,?_⟩
    ·subst ex;show WT ([]++[KI q.1 p.2.1 ZN (ZN+p.2.2.1)]) (Zi n i c).2.2.1++[ZV n i c d false]=_;rw[Vxa,f.1];rfl
    ·subst ex;show _<=(Zi n i d).2.1;omega
    ·subst ex;show (0:Int)<0+1;omega
    ·refine .step (.step .start (YV.2 (.inr (.inr ⟨fun h=>absurd h (by show¬(0:Int)=1;decide),by show (0:Int)≠2;decide,D8.2 ⟨p,K,?_,rfl⟩⟩)))) (YV.2 (.inr (.inl ⟨fun h=>absurd h (by rw[a];show¬(2:Int)=1;decide),Di.2 ⟨i,c,d,J,A,U,?_,?_,u,?_⟩⟩)))
     ·rw[a];refine⟨w1,w2,?_⟩;show (Zi n i c).2.2.1 - p.2.2.1+p.2.2.1<=_;omega
     ·rw[a,m,B];exact⟨Y,Z,R,g4,.inl (by omega)⟩
     ·rw[a,m];exact s
     ·rw[a,m,ex];unfold Xs Xa
      have e:WT (XK (KO n (Zo (Kz q ZN))) p).2.2.2.2.2.1 (Zi n i c).2.2.1=WT (XK (KO n (Zo (Kz q ((Zi n i c).2.2.1 - p.2.2.1)))) p).2.2.2.2.2.1 (Zi n i c).2.2.1:=by show WT ([]++[KI q.1 p.2.1 ZN (ZN+p.2.2.1)]) _=WT ([]++[KI q.1 p.2.1 ((Zi n i c).2.2.1 - p.2.2.1) ((Zi n i c).2.2.1 - p.2.2.1+p.2.2.1)]) _;rw[Vxa,Vxa,f.1,f.2]
      simp only;rw[e];rfl
   ·have C:WT (ZS l).2.2.2.2.2.1 (Zi n i c).2.2.1=y::L:=by rw[s5,M];refine Zis (fun z hz=>?_) _;obtain⟨rfl,hL⟩:=List.cons.inj hz;exact X hL
    refine⟨g,y,L++[ZV n i c d false],?_,fun h=>absurd h (by simp),N,O,?_,?_,P,.step Q (by rw[ZhM n q g ZN l];exact W)⟩
    ·subst ex;show WT (ZS l).2.2.2.2.2.1 (Zi n i c).2.2.1++[ZV n i c d false]=_;rw[C];rfl
    ·subst ex;show _<=(Zi n i d).2.1;omega
    ·subst ex;show (0:Int)<(ZS l).2.2.1+1;rw[s3];omega
  ·
   obtain⟨p,K,o,ex⟩:=D8.1 hw;have a2:=v.path p K;rcases ih with ⟨hr,D|⟨p',a7,a3,G⟩⟩|⟨g,y,L,M,X,N,O,e5,V,P,Q⟩
   ·subst D;have a:ZS (KO n (Zo (Kz q ZN)))=KO n (Zo (Kz q ZN)):=by unfold ZS;rw[Zg (by show¬(0:Int)=1;decide)]
    rw[a]at o ex;exact .inl ⟨by rw[ex];rfl,.inr ⟨p,K,o,ex⟩⟩
   ·exact absurd (by rw[G];rfl) k2
   ·right;refine⟨g,y,L++[KI (ZS l).1.2.1 p.2.1 (ZS l).2.1 ((ZS l).2.1+p.2.2.1)],?_,fun h=>absurd h (by simp),N,O,?_,?_,P,.step Q (by rw[ZhM n q g ZN l];exact W)⟩
    ·subst ex;show (ZS l).2.2.2.2.2.1++_=_;rw[s5,M];rfl
    ·subst ex;show g<=(ZS l).2.1+p.2.2.1;rw[s2];omega
    ·subst ex;show (0:Int)<(ZS l).2.2.1;rw[s3];exact V
end Q
namespace Q
open Tr Go
variable {n:Zf}{q:Zr}{L:List Zt}
theorem Zf1(q q' :Zr)(hL:L≠ []):F78 n q' (L,())=F78 n q (L,()):=by
 have a:0<L.length:=Vya.2 hL;unfold F78
 grind
open Classical in
theorem ZfZ(c:W6 n)(b:Whole n)(q:Zr):∃t,F78 n q ([],())=some ((q.2.2.1,q.2.2.1,0,Y8 n.2.2.2.2.2.1 0,0,()),t,0):=by
 have e:F120 n=some true:=by rw[GQ c];exact congrArg some (Ze b)
 rcases Zgz c b.sound e q (L:=[]) (by simp) (by simp) (rs:=[]) rfl (by simp) (by simp) with ⟨s,t,a,d⟩|⟨a,_⟩
 ·have:s=0:=Vfb (a.2 0 (.nil _)) a.1.nonneg;subst this;exact⟨t,d⟩
 ·exact absurd (.nil _) (a 0)
open Classical in
theorem Zpf(o:W6 n)(e:Whole n)(v:L.length<=20)(h:(WZ n q L).2=0):∃c t,F78 n q (L,())=some (c,t,0):=by
 obtain⟨_,⟨p,_⟩|⟨p,u,g⟩⟩:=(G8 n q L).1 h
 ·have:L=[]:=Via p;subst this;obtain⟨t,w⟩:=ZfZ o e q;exact⟨_,t,w⟩
 ·have d:∀x∈L,HU x:=fun x z=>by
   obtain⟨i,r,rfl⟩:=Vo z;have:=(Zdi (u i r)).1
   rwa [Zca r]at this
  have y:F120 n=some true:=by rw[GQ o];exact congrArg some (Ze e)
  have a:n.2.2.2.2.2.1.1.length<=4096:=by have:=(W1 e.sound.fare).many;omega
  obtain⟨c,b,j⟩:=ZfY e.sound y a q L (by omega);obtain⟨f,l,m,_⟩:=Zf0 n q (L,()) o v d;have k:f=c:=by rw[m]at b;exact Option.some.inj b
  subst k;unfold Yr at g;rw[Kt (by omega),Kt (by omega),Kt (by omega),Kt (by omega)]at g;have:f.2.2=0:=by rw[j];exact g.2.2.2.2
  obtain⟨s,A,B⟩:=f;simp only at this;subst this;exact⟨s,A,l⟩
theorem ZgX:∀(M:Nat) (l:List Nat),l.Nodup->(∀a∈l,a<M)->l.length<=M
 |0,l,_,h=>by
  cases l with
  |nil=>simp
  |cons a l=>exact absurd (h a (by simp)) (by omega)
 |M+1,l,b,h=>by
  by_cases d:M∈l
  ·have c:=ZgX M (l.erase M) (b.erase M) (by grind)
   grind
  ·have:=ZgX M l b (by grind);omega
def Ze3(a:List Int)(x:Kx):Prop:=x.2.1.1∈a/\(0<=x.2.1.2.2.1/\x.2.1.2.2.1<=3)/\(0<=x.2.1.2.2.2.2.1/\x.2.1.2.2.2.2.1<=86400)
theorem ZqW{q:Zr}(E:q.2.2.2.1=true)(d:List Int){l:List Kx}(f:YF q l)(g:∀x∈l,Ze3 d x):l.length<=d.length*345604:=by
 have s:∀c:YD,Z8 q c=[Vg .i64 (0 - c.1),c.2.2.1,c.2.2.2.1,c.2.2.2.2.1]:=fun c=>by unfold Z8;grind
 have j:(l.map fun x:Kx=>d.idxOf x.2.1.1*345604+(x.2.1.2.2.1.toNat*86401+x.2.1.2.2.2.2.1.toNat)).Nodup:=by
  rw[List.Nodup,Vbb];refine List.Pairwise.imp_of_mem ?_ f;intro x y k t b e;obtain⟨p,u,v⟩:=g x k;obtain⟨w,G,H⟩:=g y t;have z:d.idxOf x.2.1.1=d.idxOf y.2.1.1:=by omega
  have A:x.2.1.2.2.1=y.2.1.2.2.1:=by omega
  have B:x.2.1.2.2.2.2.1=y.2.1.2.2.2.2.1:=by omega
  have C:x.2.1.1=y.2.1.1:=by
   have D:=List.getElem_idxOf (List.idxOf_lt_length_iff.2 p)
   grind
  have m:Ks q x=[Vg .i64 (0 - x.2.1.1),x.2.1.2.2.1,x.2.1.2.2.2.1,x.2.1.2.2.2.2.1]:=s _;have o:Ks q y=[Vg .i64 (0 - x.2.1.1),x.2.1.2.2.1,y.2.1.2.2.2.1,x.2.1.2.2.2.2.1]:=by grind
  rw[m,o]at b;rcases Int.le_total x.2.1.2.2.2.1 y.2.1.2.2.2.1 with h|h
  ·refine b.1 fun i f=>?_
   grind
  ·refine b.2 fun i f=>?_
   grind
 have:=ZgX (d.length*345604) _ j fun a r=>by
  obtain⟨x,k,rfl⟩:=Vr.1 r;obtain⟨p,u,v⟩:=g x k
  grind
 grind
def WO(q:Zr)(p:Kh):Zt:=KI q.1 q.2.1 (q.2.2.1 - p.2.2.1) q.2.2.1
def JA(n:Zf)(q:Zr)(L:List Zt):Prop:=(L=[]/\q.1=q.2.1)\/ ∃p∈n.2.2.2.2.1,p.1=q.1/\p.2.1=q.2.1/\L=[WO q p]
theorem ZrP(h:XZ n q=0)(a:q.1=q.2.1):(WZ n q []).2=0:=(G8 n q []).2 (by grind)
open Classical in
theorem Zgx(h:K0 n q){p:Kh}(j:p∈n.2.2.2.2.1):∃t,F78 n q ([WO q p],())=some ((q.2.2.1 - p.2.2.1,q.2.2.1,0,Y8 n.2.2.2.2.2.1 0,(if q.2.2.1 - p.2.2.1<0 then 0 else p.2.2.1),()),t,0):=by
 have c:=h.fit;have b:=h.whole;have k:=b.ok.path p j;have l:=h.qnum
 have g:F120 n=some true:=by rw[GQ c];exact congrArg some (Ze b)
 rcases Zgz c b.sound g q (L:=[WO q p]) (by simp) (fun x d=>by rw[Vb]at d;subst d;show q.2.2.1<=_;omega) (rs:=[]) (ZjT ..) (by simp) (by simp) with ⟨s,t,a,f⟩|⟨a,_⟩
 ·have:s=0:=Vfb (a.2 0 (.nil _)) a.1.nonneg;subst this;refine⟨t,?_⟩;rw[f]
  have e:K9 [WO q p]=if q.2.2.1 - p.2.2.1<0 then 0 else p.2.2.1:=by
   unfold K9 HQ WO KI;simp only[Vp,Vma,Vs,Vna]
   split<;>split<;> (try simp at*)<;>omega
  rw[e];rfl
 ·exact absurd (.nil _) (a 0)
open Classical in
theorem Zul(h:K0 n q)(l:q.2.2.2.1=true){p:Kh}(v:p∈(ZG n q).2.2.2.2.1)(f:p.1=q.1)(m:p.2.1=q.2.1)(I:p.2.2.1<=q.2.2.2.2.2.1)(J:p.2.2.1<=q.2.2.1):(WZ n q [WO q p]).2=0:=by
 have g:=h.wholeM;have E:=g.ok.path p v
 have w:p∈n.2.2.2.2.1:=by
  have a:p∈Ju n q:=v;unfold Ju at a;split at a
  ·exact(Vq.1 a).1
  ·exact a
 have y:=h.qnum;have s:=y.2.2.2.2.2 l;refine(G8 n q _).2 ⟨h.chk,.inr ⟨by simp,fun i D=>?_,?_⟩⟩
 ·have:i=0:=by simpa using D
  subst this;refine Zdh.1 (Y7.2 ⟨?_,?_,?_⟩)
  ·refine((Zb9 g.ok).2 ⟨p,v,q.2.2.1 - p.2.2.1,?_,by omega,by omega⟩).1;show WO q p=_;unfold WO;rw[f,m];congr 1;omega
  ·show HA (ZG n q) (Zo q) [WO q p]=0;refine ZaL.2 ⟨rfl,rfl,rfl,?_,?_,?_⟩
   ·have e:(Zo q).2.2.2.1=true:=l;rw[e];show (!false&& (decide (1=1) && !decide (q.2.2.1=q.2.2.1)))=false;simp
   ·have e:(Zo q).2.2.2.1=true:=l;rw[e];rfl
   ·have e:(Zo q).2.2.2.2.2.2.2.2.2.1=false:=s;rw[e];rfl
  ·intro G;cases G
 ·unfold Yr;have u:lg [WO q p] ([WO q p].length - 1)=WO q p:=rfl;rw[u,Kt (by omega),Kt (by omega),Kt (by omega),Kt (by omega)];obtain⟨t,C⟩:=Zgx h w;have b:∀x∈ [WO q p],HU x:=fun x A=>by rw[Vb]at A;subst A;show q.2.2.1<=_;omega
  have z:Rq [WO q p]=p.2.2.1:=by have f:=ZeO ([WO q p],()) (by simp) b;rw[ZeN]at f;have m:F137 ([WO q p],())=some (Rq [WO q p]):=ZeM _ (by simp);rw[m]at f;rw[Option.some.inj f];unfold K9 HQ WO KI;simp only[Vp,Vma,Vs,Vna];rw[Zg (by simp;omega)];omega
  refine⟨?_,?_,?_,?_,?_⟩
  ·show (!decide (q.2.1=q.2.1))=false;simp
  ·rw[l];show (true&&decide (q.2.2.1<q.2.2.1))=false;simp
  ·have:Ww [WO q p]=0:=rfl;rw[this];exact Zk (by omega)
  ·rw[z];exact Zk (by omega)
  ·have B:F120 n=some true:=by rw[GQ h.fit];exact congrArg some (Ze h.whole)
   have d:n.2.2.2.2.2.1.1.length<=4096:=by have:=(W1 h.whole.sound.fare).many;omega
   obtain⟨c,o,r⟩:=ZfY h.whole.sound B d q [WO q p] (by simp);obtain⟨H,j,k,_⟩:=Zf0 n q ([WO q p],()) h.fit (by simp) b;rw[o]at k;rw[C]at j;rw[<-r,Option.some.inj k, <-Option.some.inj j]
theorem ZnQ(h:K0 n q):∃l,F148 n q=some l/\l.length<=61/\YF q l/\(∀x∈l,∃L,x.1=(L,())/\JA n q L/\(WZ n q L).2=0/\F78 n q (L,())=some (x.2.1,x.2.2.1,0))/\
 ∀L,JA n q L->(WZ n q L).2=0->∀c t,F78 n q (L,())=some (c,t,0)->∃x∈l,Z9 (Ks q x) (Z8 q c):=by
 have U:(Zz:Nat)=549755813888:=rfl;have S:=h.tin.paths;have W:=h.qnum;unfold F148;refine Wl (fun v:List Hq=>v.length<=1/\ ∀j,j∈v↔j=([],())/\q.1=q.2.1) ?_ ?_
 ·by_cases he:q.1=q.2.1
  all_goals simp_all
 ·rintro v ⟨X,j2⟩;refine Wl (fun J:List Hq=>J.length<=61/\ ∀j,j∈J↔JA n q j.1) ?_ ?_
  ·refine Ki n.2.2.2.2.1.length _ (fun k (s:List Hq×Int)=>s.2=(k:Int)/\s.1.length<=1+k/\ ∀j,j∈s.1↔(j.1=[]/\q.1=q.2.1)\/ ∃p∈n.2.2.2.2.1.take k,p.1=q.1/\p.2.1=q.2.1/\j.1=[WO q p]) ?_ ?_ _ ⟨rfl,by simpa using X,fun j=>?_⟩
   ·rintro k ⟨J,_⟩ d ⟨rfl,u,o⟩;left;simp only at u o;have M:idx n.2.2.2.2.1 (k:Int)=some n.2.2.2.2.1[k]:=ZC d;have V:=h.whole.ok.path _ (Vh d);have m:∀w,w∈n.2.2.2.2.1.take (k+1)↔w∈n.2.2.2.2.1.take k\/w=n.2.2.2.2.1[k]:=fun w=>by rw[Va d,Vd,Vb]
    generalize n.2.2.2.2.1[k]=p at*;have I:Vg .i64 (q.2.2.1 - p.2.2.1)=q.2.2.1 - p.2.2.1:=Zy (by omega) (by omega);simp only[ZO d,Zc,M,Za,I,ZW d (by omega)]
    have skip:¬(p.1=q.1/\p.2.1=q.2.1)->∀j:Hq,j∈J↔(j.1=[]/\q.1=q.2.1)\/ ∃p∈n.2.2.2.2.1.take (k+1),p.1=q.1/\p.2.1=q.2.1/\j.1=[WO q p]:=fun hn j=>by
     rw[o j];refine or_congr Iff.rfl ⟨fun⟨K,a,b⟩=>⟨K,(m K).2 (.inl a),b⟩,fun⟨K,a,b⟩=>?_⟩
     grind
    by_cases A:p.1=q.1
    case neg=>rw[Zk A];exact⟨_,rfl,rfl,by grind,by grind⟩
    rw[Ze A];by_cases B:p.2.1=q.2.1
    case neg=>rw[Zk B];exact⟨_,rfl,rfl,by grind,by grind⟩
    rw[Ze B];have r:((false,0,0,0,p.1,p.2.1,q.2.2.1 - p.2.2.1,q.2.2.1,false,()):Zt)=WO q p:=by rw[A,B];rfl
    simp only[Zc,Za];rw[r]
    have hg:ZE (decide (J.length+ [(([WO q p],()):Hq)].length<=Zz))=some ():=by rw[Ze (by grind)];rfl
    refine⟨(J++[([WO q p],())],((k+1:Nat):Int)),?_,rfl,by grind,fun j=>?_⟩
    all_goals grind
   ·rintro ⟨J,_⟩ ⟨rfl,u,o⟩;rw[Vj]at o;have Z:J.length<=1+n.2.2.2.2.1.length:=u;exact⟨J,by simp,by omega,o⟩
   grind
  ·rintro J ⟨u,o⟩
   refine Wl (fun l:List Kx=>l.length<=61/\YF q l/\(∀x∈l,∃L,x.1=(L,())/\JA n q L/\(WZ n q L).2=0/\F78 n q (L,())=some (x.2.1,x.2.2.1,0))/\
    ∀L,JA n q L->(WZ n q L).2=0->∀c t,F78 n q (L,())=some (c,t,0)->∃x∈l,Z9 (Ks q x) (Z8 q c)) ?_ (by grind)
   refine Ki J.length _ (fun k (s:List Kx×List Hq×Int)=>s.2=(J,(k:Int))/\s.1.length<=k/\YF q s.1/\(∀x∈s.1,∃L,x.1=(L,())/\JA n q L/\(WZ n q L).2=0/\F78 n q (L,())=some (x.2.1,x.2.2.1,0))/\
    ∀j∈J.take k,(WZ n q j.1).2=0->∀c t,F78 n q j=some (c,t,0)->∃x∈s.1,Z9 (Ks q x) (Z8 q c)) ?_ ?_ _ ⟨rfl,by simp,.nil,by simp,by simp⟩
   ·rintro k ⟨out,_⟩ d ⟨rfl,o1,N,o3,O⟩;left;simp only at o1 N o3 O;have m:∀w,w∈J.take (k+1)↔w∈J.take k\/w=J[k]:=fun w=>by rw[Va d,Vd,Vb]
    have H:=(o _).1 (Vh d);have E:=Vc d;generalize J[k]=j at*;obtain⟨z,⟨⟩⟩:=j
    have f:z.length<=20:=by
     rcases H with ⟨e,_⟩|⟨p,_,_,_,e⟩
     all_goals grind
    simp only[ZO d,Zc,Kg d,E,Za,Zqm h.fit f,ZW d (by omega)];by_cases g:(WZ n q z).2=0
    ·rw[Ze g];obtain⟨c,t,T⟩:=Zpf h.fit h.whole f g;obtain⟨Y,f1,f2,f3,f4,Q,R⟩:=ZkX q (l:=out) ((z,()),c,t,()) (by omega);simp only[Zc,T,Za];refine⟨(Y,J,((k+1:Nat):Int)),?_,rfl,by grind,R N,fun x M=>?_,fun j G D P t' C=>?_⟩
     ·grind
     ·grind
     ·rcases (m j).1 G with G|rfl
      ·obtain⟨x,x1,x2⟩:=O j G D P t' C;obtain⟨y,y1,y2⟩:=Q x x1;exact⟨y,y1,D5 y2 x2⟩
      grind
    ·rw[Zk g]
     grind
   grind
end Q
namespace Q
open Tr Go
variable {n:Zf}{q:Zr}{L:List Zt}
theorem Zo0{i c:Nat}(a:i<n.2.2.1.length):(Zi (ZG n q) i c).1=(Zi n i c).1/\(Zi (ZG n q) i c).2.1=(Zi n i c).2.1/\(Zi (ZG n q) i c).2.2.1=(Zi n i c).2.2.1:=by
 have:Zi (ZG n q) i c=WF n q (Zi n i c):=by unfold Zi;rw[ZfL a,Zdt]
 rw[this,Zdu];exact⟨rfl,rfl,rfl⟩
theorem RG(h:K0 n q){t:Int}(g:0<=t)(j:t<=3155932800):K0 n (Kz q t):=by refine⟨h.fit,h.few,ZaA.2 ⟨h.whole,?_⟩,h.tin,h.max⟩;have a:=h.qb;unfold qB at a⊢;simp only[Vw,KL]at a⊢;obtain⟨b,c,_,d,e,f,_⟩:=a;refine⟨b,c,⟨g,j⟩,d,e,f,?_⟩;show (!(_&&false))=true;simp
structure Rd (n:Zf) (q:Zr) (l:Zs) (d:Int):Prop where
 rc:Rc (ZG n q) (Zo (Kz q d)) (KO (ZG n q) (Zo (Kz q d))) l
 fin:Xp (ZG n q) (Zo (Kz q d)) l
 rides:0<l.2.2.1
 time:l.2.1<=q.2.2.1
 dep:(l.2.2.2.2.2.1[0]?).map (fun x=>x.2.2.2.2.2.2.1)=some d
 first:0<=d/\d<=q.2.2.1
 near:∃i c w,i<n.2.2.1.length/\c<(Zw n i).length/\D9 n q (Zi n i c).1 w/\d=(Zi n i c).2.2.1 - w
theorem Zhj{l:Zs}{d:Int}(h:Rd n q l d):l.2.2.2.2.2.1≠ []:=fun e=>by have:=h.dep;rw[e]at this;cases this
theorem Zhi(h:K0 n q){l:Zs}{d:Int}(a:Rd n q l d){c:YD}{t:List (Int×Int×Int×Int×Unit)}(m:F78 n q (l.2.2.2.2.2.1,())=some (c,t,0)):
 c.1=d/\c.2.1=l.2.1/\c.2.2.1=l.2.2.1/\c.2.2.2.2.1=l.2.2.2.1/\Y8 n.2.2.2.2.2.1 0<=c.2.2.2.1:=by
 have p:=h.qnum
 have g:=RG h a.first.1 (by have:=a.first.2;omega)
 have e:=g.li a.rc;have o:=e.val.len;have b:l.2.2.2.2.2.1.length<=90:=by omega
 have j:=ZbO h.fit h.whole (Kz q d) (Zo (Kz q d)) rfl b;have k:=Zf1 (n:=n) q (Kz q d) (Zhj a);rcases Zcb (ZaM g.fit) g.wholeM g.qi e with ⟨s,v,r,f⟩|⟨_,u,f⟩
 ·rw[j,k,m]at f;obtain⟨rfl,_⟩:=Vv (Option.some.inj f);refine⟨?_,rfl,rfl,rfl,Zi2 r.1.nonneg⟩;show ((l.2.2.2.2.2.1[0]?).map fun x=>x.2.2.2.2.2.2.1).getD _=d;rw[a.dep];rfl
 ·rw[j,k,m]at f;have:=(Vv (Vv (Option.some.inj f)).2).2;cases this
theorem Zed(h:K0 n q)(C:q.2.2.2.1=true){t:Int}(B:0<=t)(Q:t<=q.2.2.1){l:Zs}(I:Rc (ZG n q) (Zo (Kz q t)) (KO (ZG n q) (Zo (Kz q t))) l)(f:Xp (ZG n q) (Zo (Kz q t)) l)(K:0<l.2.2.1)(m:l.2.1<=q.2.2.1):∃d,t<=d/\Rd n q l d:=by
 have k:=h.qnum;have g:=RG h B (by omega);have j:=k.2.2.2.2.2 C;rcases Zhh g.wholeM g.tinM g.qi j g.li0 I with ⟨R,_⟩|⟨d,x,L,s,_,u,v,O,_,⟨i,c,w,G,D,M,E⟩,y⟩
 ·omega
 ·have b:i<n.2.2.1.length:=by have:(ZG n q).2.2.1.length=n.2.2.1.length:=Vl ..;have H:i<(ZG n q).2.2.1.length:=G;omega
  obtain⟨z,P,A⟩:=Zo0 (n:=n) (q:=q) (c:=c) b;refine⟨d,v,y,f,K,m,by rw[s, <-u];rfl,⟨by omega,by omega⟩,i,c,w,b,?_,?_,?_⟩
  ·have e:c<(Zw (ZG n q) i).length:=D;rw[ZfL b,Vl]at e;exact e
  ·rw[<-z];rcases M with ⟨o,r⟩|⟨p,J,o,r,N⟩
   ·exact .inl ⟨o,r⟩
   ·refine .inr ⟨p,?_,o,r,N⟩;have a:p∈Ju n q:=J;unfold Ju at a;split at a
    ·exact(Vq.1 a).1
    ·exact a
  ·rw[<-A];exact E
def Zao(n:Zf)(q:Zr)(x:Kx):Prop:= ∃L,x.1=(L,())/\F78 n q (L,())=some (x.2.1,x.2.2.1,0)/\((JA n q L/\(WZ n q L).2=0)\/ ∃l d,Rd n q l d/\l.2.2.2.2.2.1=L)
theorem ZeI(a:q.2.2.2.1=true)(c:YD)(b:0<=c.1)(d:c.1<=3155932800):Z8 q c=[-c.1,c.2.2.1,c.2.2.2.1,c.2.2.2.2.1]:=by unfold Z8;rw[Zn a,Zy (by omega) (by omega),Int.zero_sub]
theorem ZgG{a b c d e f c' g:Int}(h:a<=e)(j:b<=f)(k:c<=c')(l:d<=g):Z9 [a,b,c,d] [e,f,c',g]:=by
 intro i m;rcases (show i=0\/i=1\/i=2\/i=3 by omega) with rfl|rfl|rfl|rfl
 ·exact h
 ·exact j
 ·exact k
 ·exact l
theorem ZrQ{a b c d e f c' g:Int}(h:Z9 [a,b,c,d] [e,f,c',g]):a<=e/\b<=f/\c<=c' /\d<=g:=⟨h 0 (by omega),h 1 (by omega),h 2 (by omega),h 3 (by omega)⟩
theorem ZrI(h:K0 n q)(g:q.2.2.2.1=true){t:Int}(Z:0<=t)(h1:t<=q.2.2.1):∃R:List Kx,F154 n (Kz q t)=some (R,0)/\R.length<=542198816521/\
 (∀x∈R,0<x.2.1.2.2.1->x.2.1.2.1<=q.2.2.1->Zao n q x/\ ∃l d,Rd n q l d/\t<=d/\x.1=(l.2.2.2.2.2.1,()))/\
 ∀l,Rd n q l t->∀c tk,F78 n q (l.2.2.2.2.2.1,())=some (c,tk,0)->(∃x∈R,0<x.2.1.2.2.1/\x.2.1.2.1<=q.2.2.1/\Z9 (Ks q x) (Z8 q c))\/ ∃L c' y,JA n q L/\(WZ n q L).2=0/\F78 n q (L,())=some (c',y,0)/\Z9 (Z8 q c') (Z8 q c):=by
 have o:=h.qnum;have a:=RG h Z (by omega);obtain⟨R,r1,r2,r3,r4,_⟩:=ZjQ a rfl;have K:∀c:YD,Z8 (Kz q t) c=[c.2.1,c.2.2.1,c.2.2.2.1,c.2.2.2.2.1]:=fun c=>rfl
 have num:∀x:Kx,x∈R->∃l,Rc (ZG n q) (Zo (Kz q t)) (KO (ZG n q) (Zo (Kz q t))) l/\x.1=(l.2.2.2.2.2.1,())/\Xp (ZG n q) (Zo (Kz q t)) l/\x.2.1.2.1=l.2.1/\x.2.1.2.2.1=l.2.2.1/\x.2.1.2.2.2.2.1=l.2.2.2.1:=fun x N=>by
  obtain⟨v,l,r,u,w⟩:=r3 x N;have E:=a.li r;have a0:=E.val.len;have D:l.2.2.2.2.2.1.length<=90:=by omega
  have A:=ZbO h.fit h.whole (Kz q t) (Zo (Kz q t)) rfl D;rw[u]at v;rcases Zcb (ZaM a.fit) a.wholeM a.qi E with ⟨s,y,g1,B⟩|⟨_,c',B⟩
  ·rw[A,v]at B;have e:=(Vv (Option.some.inj B)).1;exact⟨l,r,u,w,by rw[e],by rw[e],by rw[e]⟩
  ·rw[A,v]at B;have:=(Vv (Vv (Option.some.inj B)).2).2;cases this
 have good:∀x:Kx,x∈R->0<x.2.1.2.2.1->x.2.1.2.1<=q.2.2.1->Zao n q x/\ ∃l d,Rd n q l d/\t<=d/\x.1=(l.2.2.2.2.2.1,()):=fun x N T a6=>by obtain⟨l,r,u,w,A,e2,_⟩:=num x N;obtain⟨d,z,M⟩:=Zed h g Z h1 r w (by omega) (by omega);have v:=(r3 x N).1;rw[u,Zf1 (n:=n) q (Kz q t) (Zhj M)]at v;exact⟨⟨l.2.2.2.2.2.1,u,v,.inr ⟨l,d,M,rfl⟩⟩,l,d,M,z,u⟩
 refine⟨R,r1,r2,good,fun l k c tk hc=>?_⟩;obtain⟨n1,n2,n3,n4,n5⟩:=Zhi h k hc;have O:F78 n (Kz q t) (l.2.2.2.2.2.1,())=some (c,tk,0):=by rw[Zf1 (n:=n) q (Kz q t) (Zhj k)];exact hc
 obtain⟨x,W,x2⟩:=r4 l k.rc k.fin c tk O;rw[K,K]at x2;obtain⟨y1,y2,y3,y4⟩:=ZrQ x2;have a2:=k.time;have j:Z8 q c=[-c.1,c.2.2.1,c.2.2.2.1,c.2.2.2.2.1]:=ZeI g c (by omega) (by omega);by_cases T:0<x.2.1.2.2.1
 ·left;obtain⟨⟨L',o1,o2,_⟩,V,d,z,M,X⟩:=good x W T (by omega);have hL:L' =V.2.2.2.2.2.1:=by rw[o1]at X;exact(Vv X).1
  subst hL;obtain⟨m1,_⟩:=Zhi h z o2
  have U:Ks q x=[-x.2.1.1,x.2.1.2.2.1,x.2.1.2.2.2.1,x.2.1.2.2.2.2.1]:=ZeI g x.2.1 (by have:=z.first;omega) (by have:=z.first;omega)
  refine⟨x,W,T,by omega,?_⟩;rw[U,j];exact ZgG (by omega) y2 y3 y4
 ·right;obtain⟨V,r,u,w,A,e2,Y⟩:=num x W;have G:=a.li r;have a5:=G.val.rides;have a1:V.2.2.1=0:=by omega
  have P:=o.2.2.2.2.2 g;rcases Zhh a.wholeM a.tinM a.qi P a.li0 r with ⟨_,Q|⟨p,hp,⟨w1,w2,_⟩,S⟩⟩|⟨_,_,_,_,_,_,_,_,e6,_⟩
  ·subst Q;have C:q.1=q.2.1:=w.2;obtain⟨y,f⟩:=ZfZ h.fit h.whole q;refine⟨[],_,y,.inl ⟨rfl,C⟩,ZrP h.chk C,f,?_⟩;rw[j,ZeI g _ o.2.2.1.1 o.2.2.1.2];have a8:x.2.1.2.2.2.2.1=0:=Y;refine ZgG ?_ ?_ n5 ?_
   ·show -q.2.2.1<= -c.1;omega
   ·show (0:Int)<=_;have:=k.rides;omega
   ·show (0:Int)<=_;omega
  ·subst S;have m:p∈(ZG n q).2.2.2.2.1:=hp;have a4:=h.wholeM.ok.path p m
   have J:p∈n.2.2.2.2.1:=by
    have b:p∈Ju n q:=m;unfold Ju at b;split at b
    ·exact(Vq.1 b).1
    ·exact b
   have H:p.1=q.1:=w1;have I:p.2.1=q.2.1:=w.2;have a3:0+p.2.2.1<=q.2.2.2.2.2.1:=w2;have a7:x.2.1.2.1=t+p.2.2.1:=A;have a9:x.2.1.2.2.2.2.1=0+p.2.2.1:=Y;obtain⟨y,f⟩:=Zgx h J;rw[Zg (by omega)]at f;refine⟨[WO q p],_,y,.inr ⟨p,J,H,I,rfl⟩,Zul h g m H I (by omega) (by omega),f,?_⟩;rw[j,ZeI g _ (by show 0<=q.2.2.1 - p.2.2.1;omega) (by show q.2.2.1 - p.2.2.1<=_;omega)];refine ZgG ?_ ?_ n5 ?_
   ·show -(q.2.2.1 - p.2.2.1)<= -c.1;omega
   ·show (0:Int)<=_;have:=k.rides;omega
   ·show p.2.2.1<=_;omega
  ·omega
end Q
namespace Q
open Tr Go
variable {n:Zf}{q:Zr}
def Rw(n:Zf)(q:Zr)(a:List Int)(l:List Kx):Prop:=YF q l/\ ∀x∈l,Zao n q x/\Ze3 a x
def JL(q:Zr)(l:List Kx)(v:List Int):Prop:= ∃y∈l,Z9 (Ks q y) v
theorem Zsz(h:K0 n q){l:Zs}{d:Int}(b:Rd n q l d){c:YD}{t:List (Int×Int×Int×Int×Unit)}(f:F78 n q (l.2.2.2.2.2.1,())=some (c,t,0)):c.1=d/\(0<=c.2.2.1/\c.2.2.1<=3)/\(0<=c.2.2.2.2.1/\c.2.2.2.2.1<=86400):=by
 obtain⟨j,_,r,s,_⟩:=Zhi h b f;have g:=h.qnum
 have e:=RG h b.first.1 (by have:=b.first.2;omega)
 have a:=e.li b.rc;have k:l.2.2.1<=q.2.2.2.2.1:=a.val.rides.2;have m:=a.val.rides.1;have o:l.2.2.2.1<=q.2.2.2.2.2.1:=a.val.walk.2;have p:=a.val.walk.1;have:=h.max;exact⟨j,⟨by omega,by omega⟩,⟨by omega,by omega⟩⟩
theorem ZlA(h:K0 n q)(hb:q.2.2.2.1=true):∃R:List Kx,F146 n q=some (R,0)/\R.length<4294967296/\(R.Pairwise fun x y=>Jf (Ks q x) (Ks q y))/\YF q R/\(∀x∈R,Zao n q x)/\
 ∀L,((JA n q L/\(WZ n q L).2=0)\/ ∃l d,Rd n q l d/\l.2.2.2.2.2.1=L)->∀c t,F78 n q (L,())=some (c,t,0)->JL q R (Z8 q c):=by
 have a7:=h.qnum;have b3:(Zz:Nat)=549755813888:=rfl;obtain⟨A,a1,a2,a3,a4,a5⟩:=ZnQ h;obtain⟨ds,d1,d2,d3,d4⟩:=ZpX h.whole.ok h.tin a7.1
 have U:∀D,D=ds++A.map (fun x=>x.2.1.1)->D.length*345604<=906519292:=fun D hD=>by rw[hD,Vn,Vl];omega
 generalize T:ds++A.map (fun x:Kx=>x.2.1.1)=D at U;have hD:=U D rfl;have bound:∀l,Rw n q D l->l.length<=906519292:=fun l o=>Vi (ZqW hb D o.1 fun x f=>(o.2 x f).2) hD
 have O:Rw n q D A:=by
  refine⟨a3,fun x f=>?_⟩;obtain⟨L,g,m,e3,S⟩:=a4 x f;refine⟨⟨L,g,S,.inl ⟨m,e3⟩⟩,by rw[<-T];exact Vta _ (Vr.2 ⟨x,f,rfl⟩),?_⟩;rcases m with ⟨rfl,_⟩|⟨p,hp,_,_,rfl⟩
  ·obtain⟨t',a⟩:=ZfZ h.fit h.whole q;rw[a]at S;have:=(Vv (Option.some.inj S)).1;rw[<-this];exact⟨⟨by show (0:Int)<=0;omega,by show (0:Int)<=3;omega⟩,⟨by show (0:Int)<=0;omega,by show (0:Int)<=86400;omega⟩⟩
  ·have b4:=h.whole.ok.path p hp;obtain⟨t',a⟩:=Zgx h hp;rw[a]at S;have:=(Vv (Option.some.inj S)).1;rw[<-this];refine⟨⟨by show (0:Int)<=0;omega,by show (0:Int)<=3;omega⟩,?_⟩
   show 0<=(if _ then(0:Int) else p.2.2.1)/\(if _ then(0:Int) else p.2.2.1)<=86400
   split<;>omega
 unfold F146;rw[DU h.fit,h.chk,a1,d1];simp only[Za,decide_true,Vf,Zd,hb]
 suffices hs:∃r:List Kx ⊕ (List Kx×Int),_=some r/\ ∃out:List Kx,r=.inl out/\Rw n q D out/\(∀v,JL q A v->JL q out v)/\ ∀t∈ds,∀l,Rd n q l t->∀c tk,F78 n q (l.2.2.2.2.2.1,())=some (c,tk,0)->JL q out (Z8 q c) by
  obtain⟨_,g,out,rfl,Q,k2,k3⟩:=hs;have b1:=bound out Q
  have W:∀x∈out,∀y∈out,∃c,F147 x y q=some c/\(c<0↔Jf (Ks q x) (Ks q y))/\(0<c↔Jf (Ks q y) (Ks q x)):=fun x _ y _=>by obtain⟨z,z1,z2,z3⟩:=ZpI (HP q x.2.1) (HP q y.2.1);refine⟨z,?_,z2,z3⟩;unfold F147;rw[Zbl,Zbl];simp only[Za,z1]
  obtain⟨R,r1,r2,r3⟩:=Zme (cmp:=fun x y=>F147 x y q) (fun x y=>Jf (Ks q x) (Ks q y)) out (by omega) W (fun x _=>Zcc _) (fun _ _ _ _ _ _=>ZkB) (Q.1.imp fun {x y} u=>by
   rcases ZrC (HP q x.2.1) (HP q y.2.1) with e|e|e
   ·exact absurd (show Z9 (Ks q x) (Ks q y) by show Z9 (Z8 q x.2.1) (Z8 q y.2.1);rw[e];exact D4 _) u.1
   ·exact .inl e
   ·exact .inr e)
  refine⟨R,?_,by rw[r2.length_eq];omega,r3,?_,fun x f=>(Q.2 x (r2.mem_iff.1 f)).1,fun L hL c t V=>?_⟩
  ·refine KM (fun x=>x=Sum.inl out) ⟨_,g,rfl⟩ (fun x f=>?_);subst f;simp only[Sum.elim_inl];refine KM (fun x=>x=R) ⟨_,r1,rfl⟩ (fun x f=>?_);subst f;rfl
  ·exact(List.Perm.pairwise_iff (fun {x y} u=>⟨u.2,u.1⟩) r2.symm).1 Q.1
  ·have X:JL q out (Z8 q c):=by
    rcases hL with ⟨j1,j2⟩|⟨l,d,o,rfl⟩
    ·exact k2 _ (a5 L j1 j2 c t V)
    ·obtain⟨i,cc,w,hi,I,j,J⟩:=o.near
     have Z:d∈ds:=by rw[J];exact d4 i cc hi I w j (by rw[<-J];exact o.first.1) (by rw[<-J];exact o.first.2)
     exact k3 d Z l o c t V
   obtain⟨y,B,C⟩:=X;exact⟨y,r2.mem_iff.2 B,C⟩
 refine Ki ds.length (fun r:List Kx ⊕ (List Kx×Int)=>∃out:List Kx,r=.inl out/\Rw n q D out/\(∀v,JL q A v->JL q out v)/\ ∀t∈ds,∀l,Rd n q l t->∀c tk,F78 n q (l.2.2.2.2.2.1,())=some (c,tk,0)->JL q out (Z8 q c))
  (fun k (s:List Kx×Int)=>s.2=(k:Int)/\Rw n q D s.1/\(∀v,JL q A v->JL q s.1 v)/\ ∀t∈ds.take k,∀l,Rd n q l t->∀c tk,F78 n q (l.2.2.2.2.2.1,())=some (c,tk,0)->JL q s.1 (Z8 q c)) ?_ ?_ _ ⟨rfl,O,fun v M=>M,by simp⟩
 ·rintro k ⟨out,_⟩ Y ⟨rfl,o1,o2,o3⟩;left;simp only at o1 o2 o3;have f:idx ds (k:Int)=some ds[k]:=ZC Y;have a0:=d3 _ (Vh Y);have a9:∀w,w∈ds.take (k+1)↔w∈ds.take k\/w=ds[k]:=fun w=>by rw[Va Y,Vd,Vb]
  generalize ds[k]=t at*;obtain⟨R,r1,r2,r3,r4⟩:=ZrI h hb a0.1 a0.2;have a8:F154 n (q.1,q.2.1,t,false,q.2.2.2.2)=some (R,0):=r1;simp only[ZO Y,Zc,f,Za,a8,decide_true,Vf,Zd,ZW Y (show ds.length<=9223372036854775807 by omega)];refine Xn (fun b:List Kx=>Rw n q D b/\(∀v,JL q out v->JL q b v)/\ ∀x∈R,0<x.2.1.2.2.1->x.2.1.2.1<=q.2.2.1->JL q b (Ks q x)) ?_ ?_
  ·refine Ki R.length _ (fun r (s:List Kx×Int)=>s.2=(r:Int)/\Rw n q D s.1/\(∀v,JL q out v->JL q s.1 v)/\ ∀x∈R.take r,0<x.2.1.2.2.1->x.2.1.2.1<=q.2.2.1->JL q s.1 (Ks q x)) ?_ ?_ _ ⟨rfl,o1,fun v M=>M,by simp⟩
   ·rintro r ⟨cur,_⟩ hr ⟨rfl,E,P,c3⟩;left;simp only at E P c3;have N:idx R (r:Int)=some R[r]:=ZC hr;have K:=r3 _ (Vh hr);have H:∀w,w∈R.take (r+1)↔w∈R.take r\/w=R[r]:=fun w=>by rw[Va hr,Vd,Vb]
    generalize R[r]=x at*;simp only[ZO hr,Zc,N,Za,ZW hr (show R.length<=9223372036854775807 by omega)]
    have skip:¬(0<x.2.1.2.2.1/\x.2.1.2.1<=q.2.2.1)->∀w∈R.take (r+1),0<w.2.1.2.2.1->w.2.1.2.1<=q.2.2.1->JL q cur (Ks q w):=fun hn w j g m=>by
     rcases (H w).1 j with j|rfl
     ·exact c3 w j g m
     ·exact absurd ⟨g,m⟩ hn
    by_cases g:0<x.2.1.2.2.1
    case neg=>rw[Zk g];exact⟨_,rfl,rfl,E,P,skip fun h=>g h.1⟩
    rw[Ze g];by_cases m:x.2.1.2.1<=q.2.2.1
    case neg=>rw[Zk m];exact⟨_,rfl,rfl,E,P,skip fun h=>m h.2⟩
    rw[Ze m];simp only[Zc,Za];obtain⟨g1,l,d,G,g3,g4⟩:=K g m;have b2:=bound cur E;obtain⟨l',f1,f2,f3,f4,f5,f6⟩:=ZkX q (l:=cur) x (by omega)
    have a6:Ze3 D x:=by
     obtain⟨L',p1,p2,_⟩:=g1;have hL:L' =l.2.2.2.2.2.1:=by rw[p1]at g4;exact(Vv g4).1
     subst hL;obtain⟨Q,k2,k3⟩:=Zsz h G p2;obtain⟨i,cc,w,hi,I,j,J⟩:=G.near;refine⟨?_,k2,k3⟩;rw[Q, <-T];refine Vua _ ?_;rw[J]
     exact d4 i cc hi I w j (by rw[<-J];exact G.first.1) (by rw[<-J];exact G.first.2)
    refine⟨(l',((r+1:Nat):Int)),?_,rfl,⟨f6 E.1,fun y N=>?_⟩,fun v M=>?_,fun w j p1 p2=>?_⟩
    ·exact KM (fun y=>y=l') ⟨_,f1,rfl⟩ (fun y N=>by subst N;rfl)
    ·rcases f3 y N with N|rfl
     ·exact E.2 y N
     ·exact⟨g1,a6⟩
    ·obtain⟨y,B,C⟩:=P v M;obtain⟨z,z1,z2⟩:=f5 y B;exact⟨z,z1,D5 z2 C⟩
    ·rcases (H w).1 j with j|rfl
     ·obtain⟨y,B,C⟩:=c3 w j p1 p2;obtain⟨z,z1,z2⟩:=f5 y B;exact⟨z,z1,D5 z2 C⟩
     ·exact f4
   ·rintro ⟨cur,_⟩ ⟨rfl,E,P,c3⟩;rw[Vj]at c3;exact⟨cur,by simp only[JF,Zd],E,P,c3⟩
  ·rintro b ⟨g1,G,g3⟩;refine⟨_,rfl,rfl,g1,fun v M=>G v (o2 v M),fun t' a l o c tk V=>?_⟩;rcases (a9 t').1 a with a|rfl
   ·exact G _ (o3 t' a l o c tk V)
   ·rcases r4 l o c tk V with ⟨x,x1,x2,x3,x4⟩|⟨L,c',b0,j1,j2,j3,j4⟩
    ·obtain⟨y,B,C⟩:=g3 x x1 x2 x3;exact⟨y,B,D5 C x4⟩
    ·have hA:JL q A (Z8 q c'):=a5 L j1 j2 c' b0 j3;obtain⟨y,B,C⟩:=G _ (o2 _ hA);exact⟨y,B,D5 C j4⟩
 ·rintro ⟨out,_⟩ ⟨rfl,o1,o2,o3⟩;rw[Vj]at o3;exact⟨.inl out,by simp only[JF,Zd],out,rfl,o1,o2,o3⟩
end Q
namespace Q
open Tr Go
variable {n:Zf}{q:Zr}{L:List Zt}
theorem Zph(h:K0 n q)(t:q.2.2.2.1=true)(hL:0<L.length)(b:L.length=1->(lg L 0).1=true)(u:(WZ n q L).2=0)(k:0<=(lg L 0).2.2.2.2.2.2.1/\(lg L 0).2.2.2.2.2.2.1<=3155932800):(WZ n (Kz q (lg L 0).2.2.2.2.2.2.1) L).2=0:=by
 have g:=h.qnum.2.2.2.2.2 t;obtain⟨_,⟨f,_⟩|⟨_,s,c⟩⟩:=(G8 n q L).1 u
 ·omega
 refine(G8 n _ L).2 ⟨(RG h k.1 k.2).chk,.inr ⟨by omega,fun i v=>?_,?_⟩⟩
 ·obtain⟨l,a,m⟩:=Y7.1 (s i v);refine Y7.2 ⟨l,?_,m⟩;unfold Df at a⊢;by_cases j:i=0
  ·rw[Ze j]at a⊢;have d:HA n q L=0:=a;obtain⟨o,p,r,w,x,y⟩:=ZaL.1 d;show HA n (Kz q (lg L 0).2.2.2.2.2.2.1) L=0;refine ZaL.2 ⟨o,p,r,?_,?_,?_⟩
   ·by_cases f:L.length=1
    ·rw[b f];rfl
    ·rw[Zk f];simp
   ·show (!false&&decide ((lg L 0).2.2.2.2.2.2.1<(lg L 0).2.2.2.2.2.2.1))=false;simp
   ·have e:(Kz q (lg L 0).2.2.2.2.2.2.1).2.2.2.2.2.2.2.2.2.1=false:=g;rw[e];rfl
  ·rw[Zk j]at a⊢;exact a
 ·unfold Yr at c⊢;rw[Kt (by omega),Kt (by omega),Kt (by omega),Kt (by omega)]at c⊢;exact⟨c.1,rfl,c.2.2⟩
theorem ZjD(h:K0 n q)(r:q.2.2.2.1=true)(Z:L.length<=1000)(t:(WZ n q L).2=0):(JA n q L/\(WZ n q L).2=0)\/ ∃l d,Rd n q l d/\l.2.2.2.2.2.1=L:=by
 have N:=h.qnum;have E:=N.2.2.2.2.2 r;have B:=h.wholeM.ok;obtain⟨_,⟨T,m⟩|⟨T,m,A⟩⟩:=(G8 n q L).1 t
 ·exact .inl ⟨.inl ⟨Via T,m⟩,t⟩
 have hL:0<L.length:=by omega
 unfold Yr at A;rw[Kt (by omega),Kt (by omega),Kt (by omega),Kt (by omega)]at A;obtain⟨w,P,_,_,_⟩:=A;simp only[Vy,KL]at w;rw[r]at P;simp only[Vha,decide_eq_false_iff_not]at P;have U:=Zdi (m 0 hL);have C:∀i,i<L.length->WY (ZG n q) (Zo q) L i=0:=fun i Y=>Zdh.2 (m i Y);obtain⟨W,X,_⟩:=Y7.1 (C 0 hL);have z:HA (ZG n q) (Zo q) L=0:=X;obtain⟨Q,f2,_,R,_⟩:=ZaL.1 z;by_cases b:L.length=1->(lg L 0).1=true
 ·right
  have u:0<=(lg L 0).2.2.2.2.2.2.1/\(lg L 0).2.2.2.2.2.2.1<=3155932800:=by have S:=(Y7.1 (m 0 hL)).1;rw[ZdY,Kt (by omega),Kt (by omega),Kt (by omega)]at S;have:=S.2.2.1;unfold R7 at this;rw[Vda]at this;simp only[Vy,KL]at this;exact this.1
  have f:=RG h u.1 u.2;obtain⟨l,O,g,k3⟩:=ZjE f rfl Z (Zph h r hL b t u);have J:=f.li O
  have a2:l.2.1=(lg L (L.length - 1)).2.2.2.2.2.2.2.1:=by
   have:=J.last (L.take (L.length - 1)) (lg L (L.length - 1)) (by rw[g];have:=ZcK (L:=L) (i:=L.length - 1) (by omega);rw[show L.length - 1+1=L.length by omega,Vj]at this;exact this)
   exact this.symm
  rcases Zhh f.wholeM f.tinM f.qi E f.li0 O with ⟨_,H|⟨p,V,_,K⟩⟩|⟨d',x,L',q1,_,q3,q4,q5,q6,_,_⟩
  ·exfalso;rw[H]at g;have:L=[]:=g.symm;rw[this]at hL;simp at hL
  ·exfalso;rw[K]at g;have o:L=[KI q.1 p.2.1 (lg L 0).2.2.2.2.2.2.1 ((lg L 0).2.2.2.2.2.2.1+p.2.2.1)]:=g.symm;have s:L.length=1:=by rw[o];rfl
   have:=b s;rw[o]at this;cases this
  ·have G:(lg L 0).2.2.2.2.2.2.1<=q.2.2.1:=by omega
   obtain⟨d,_,hr⟩:=Zed h r u.1 G O k3 q6 (by omega);exact⟨l,d,hr,g⟩
 ·left;refine⟨?_,t⟩
  have I:L.length=1:=by
   by_cases h:L.length=1
   ·exact h
   ·exact absurd (fun e=>absurd e h) b
  have hw:(lg L 0).1=false:=by
   cases v:(lg L 0).1 with
   |false=>rfl
   |true=>exact absurd (fun _=>v) b
  obtain⟨p,V,a,e,a0,a1⟩:=(Zb9 B).1 ⟨W,hw⟩
  have M:p∈n.2.2.2.2.1:=by
   have c:p∈Ju n q:=V;unfold Ju at c;split at c
   ·exact(Vq.1 c).1
   ·exact c
  obtain⟨x,rfl⟩:=Vsa.1 I;have v:x=KI p.1 p.2.1 a (a+p.2.2.1):=e;have k:p.1=q.1:=by rw[e]at Q;exact Q
  have j:p.2.1=q.2.1:=by have:(lg [x] ([x].length - 1))=x:=rfl;rw[this,v]at w;exact w
  have ht:a+p.2.2.1=q.2.2.1:=by have D:(Zo q).2.2.2.1=true:=r;rw[D,e]at R;have y:(!false&& (decide (1=1) && !decide (a+p.2.2.1=q.2.2.1)))=false:=R;simpa using y
  refine .inr ⟨p,M,k,j,?_⟩;rw[v];unfold WO;rw[k,j,ht];congr 2;omega
end Q
namespace Q
open Tr Go
theorem ZiK:F187=some true:=by kernel_rfl
end Q
namespace Q
open Tr Go
variable {n:Zf}{q:Zr}
theorem ZjK(h:Yb ZR n)(f:n.2.2.2.2.1.length<=4096):W6 n:=by
 obtain⟨⟨_,c⟩,⟨_,d⟩,⟨_,b⟩,_,_,⟨⟨_,e⟩,_⟩,_⟩:=h;refine⟨fun x a=>?_,fun x a=>?_,fun x a=>?_,fun x a=>?_,f,fun x a=>?_⟩
 ·exact(c x a).1
 ·exact(d x a).1
 ·exact(b x a).2.2.2.1
 ·exact(b x a).2.2.2.2.2.2.2.1.1
 ·exact(e x a).1
open Classical in
theorem Ztp(h:Yb ZR n):∃b,F119 n=some b/\(b=true->JQ n/\n.2.2.2.1.length<=30/\Whole n):=by
 unfold F119;by_cases t:5<n.1.length
 ·rw[Ze (show (5:Int)<(n.1.length:Int) by omega)];exact⟨false,rfl,fun e=>by cases e⟩
 rw[Zk (show¬(5:Int)<(n.1.length:Int) by omega)];by_cases u:7<n.2.2.1.length
 ·rw[Ze (show (7:Int)<(n.2.2.1.length:Int) by omega)];exact⟨false,rfl,fun e=>by cases e⟩
 rw[Zk (show¬(7:Int)<(n.2.2.1.length:Int) by omega)];by_cases c3:30<n.2.2.2.1.length
 ·rw[Ze (show (30:Int)<(n.2.2.2.1.length:Int) by omega)];exact⟨false,rfl,fun e=>by cases e⟩
 rw[Zk (show¬(30:Int)<(n.2.2.2.1.length:Int) by omega)];by_cases v:60<n.2.2.2.2.1.length
 ·rw[Ze (show (60:Int)<(n.2.2.2.2.1.length:Int) by omega)];exact⟨false,rfl,fun e=>by cases e⟩
 rw[Zk (show¬(60:Int)<(n.2.2.2.2.1.length:Int) by omega)];simp only[Zd,Za];have c:=ZjK h (by omega)
 suffices o:∃r:Unit ⊕ Bool,_=some r/\((r=.inl ()/\ ∀i,i<n.2.2.1.length->(Zw n i).length<=6)\/r=.inr false) by
  obtain⟨r,g,l⟩:=o;rcases l with ⟨rfl,a⟩|rfl
  ·refine⟨decide (Whole n),KM (fun x=>x=Sum.inl ()) ⟨_,g,rfl⟩ (fun x f=>?_),fun p=>⟨⟨by omega,by omega,by omega,a⟩,by omega,XY p⟩⟩;subst f;simp only[Sum.elim_inl];rw[GQ c];rfl
  ·exact⟨false,KM (fun x=>x=Sum.inr false) ⟨_,g,rfl⟩ (fun x f=>by subst f;rfl),fun e=>by cases e⟩
 refine Ki n.2.2.1.length (fun r:Unit ⊕ Bool=>(r=.inl ()/\ ∀i,i<n.2.2.1.length->(Zw n i).length<=6)\/r=.inr false) (fun i (s:Int)=>s=(i:Int)/\ ∀j,j<i->(Zw n j).length<=6) ?_ ?_ _ ⟨rfl,fun j m=>by omega⟩
 ·rintro i _ d ⟨rfl,a⟩;simp only[ZO d,Zc,RX d,Za];by_cases w:6<(Zw n i).length
  ·rw[Ze (show (6:Int)<((rn n (i:Int)).2.2.2.2.2.2.2.1.length:Int) by show (6:Int)<((Zw n i).length:Int);omega)];exact .inr ⟨_,rfl,.inr rfl⟩
  ·rw[Zk (show¬(6:Int)<((rn n (i:Int)).2.2.2.2.2.2.2.1.length:Int) by show¬(6:Int)<((Zw n i).length:Int);omega)];refine .inl ⟨_,rfl,ZW d (by omega),fun j m=>?_⟩;rcases Nat.lt_or_ge j i with k|k
   ·exact a j k
   ·have:j=i:=by omega
    subst this;omega
 ·rintro _ ⟨rfl,a⟩;exact⟨.inl (),by simp only[JF,Zd],.inl ⟨rfl,a⟩⟩
theorem Zqy(h:Yb ZR n)(q:Zr):∃b,F188 n q=some b/\(b=true->K0 n q):=by
 unfold F188;obtain⟨b,f,g⟩:=Ztp h;rw[f]
 cases b with
 |false=>simp
 |true=>
  obtain⟨c,l,d⟩:=g rfl;have a:=ZjK h (by have:=c.paths;omega);simp only[Za,Zc];by_cases j:q.2.2.2.2.1<=3
  case neg=>grind
  rw[Ze j,Zpj a];refine⟨_,rfl,fun e=>⟨a,⟨by have:=c.stops;omega,?_,by have:=c.runs;omega,by omega,by have:=c.paths;omega,by have:=(W1 d.sound.fare).many;omega,fun r k=>?_⟩,XY e,c,j⟩⟩
  ·have t:=d.t;unfold Gj at t
   grind
  ·have:=(d.sound.many r k).2;omega
end Q
namespace Q
open Tr Go
variable {n:Zf}{q:Zr}
theorem ZsC(q:Zr)(c:YD):F136 q c=some (Z8 q c):=by
 unfold F136 Z8
 cases q.2.2.2.1<;>rfl
end Q
namespace Q
open Tr Go
variable {n:Zf}{q:Zr}
theorem Zft(n:Zf)(q:Zr):ZG n (Zo q)=n:=by
 have a:∀c,WF n (Zo q) c=c:=by intro c;unfold WF;rw[Zn (Zcl n q c.1)]
 have b:∀r,JD n (Zo q) r=r:=by intro r;unfold JD;rw[ZhL,Bool.not_not];have:WF n (Zo q)=id:=funext a;rw[this,List.map_id]
 unfold ZG;have:JD n (Zo q)=id:=funext b;rw[this,List.map_id];rfl
theorem Zdf(h:K0 n q):K0 (ZG n q) (Zo q):=
 ⟨ZaM h.fit,ZnP q h.few,ZaA.2 ⟨h.wholeM,Zhe h.qb⟩,h.tinM,h.max⟩
theorem ZqK(h:K0 n q):F154 (ZG n q) (Zo q)=F154 n q:=by have a:=Zdf h;unfold F154;rw[Zdb h.whole.sound h.few q (by rw[DU h.fit,h.chk]),Zdb a.whole.sound a.few (Zo q) (by rw[DU a.fit,a.chk]),Zft];rfl
theorem ZsA(h:K0 n q)(c:q.2.2.2.1=true){l:Zs}{d:Int}(a:Rd n q l d):∃b,Rd (ZG n q) (Zo q) l b:=by
 have f:=Zdf h;have e:ZG (ZG n q) (Zo q)=ZG n q:=Zft _ _
 obtain⟨b,_,g⟩:=Zed f c (t:=d) a.first.1 a.first.2 (l:=l) (by rw[e];exact a.rc) (by rw[e];exact a.fin) a.rides a.time
 exact⟨b,g⟩
theorem ZsB(h:K0 n q)(g:q.2.2.2.1=true){l:Zs}{d:Int}(a:Rd (ZG n q) (Zo q) l d):∃b,Rd n q l b:=by
 have e:ZG (ZG n q) (Zo q)=ZG n q:=Zft _ _;have c:=a.rc;have f:=a.fin;rw[e]at c f
 obtain⟨b,_,j⟩:=Zed h g (t:=d) a.first.1 a.first.2 (l:=l) c f a.rides a.time
 exact⟨b,j⟩
def Bk(n:Zf)(q:Zr)(L:List Zt):Prop:=(JA n q L/\(WZ n q L).2=0)\/ ∃l d,Rd n q l d/\l.2.2.2.2.2.1=L
theorem Zgy{L:List Zt}(h:JA n q L):L.length<=1:=by
 rcases h with ⟨rfl,_⟩|⟨p,_,_,_,rfl⟩
 ·exact Vz _
 ·exact Vk _
theorem ZfD(h:K0 n q)(b:q.2.2.2.1=true)(L:List Zt):Bk n q L↔Bk (ZG n q) (Zo q) L:=by
 have k:=Zdf h;have a:=Zpg (n:=n) (q:=q) L h.chk k.chk;constructor
 ·rintro (⟨e,f⟩|⟨l,d,g,rfl⟩)
  ·exact ZjD k b (by have:=Zgy e;omega) (a.2 f)
  ·obtain⟨c,j⟩:=ZsA h b g;exact .inr ⟨l,c,j,rfl⟩
 ·rintro (⟨e,f⟩|⟨l,d,g,rfl⟩)
  ·exact ZjD h b (by have:=Zgy e;omega) (a.1 f)
  ·obtain⟨c,j⟩:=ZsB h b g;exact .inr ⟨l,c,j,rfl⟩
theorem ZoT(h:K0 n q){L:List Zt}(hL:Bk n q L):L.length<=80:=by
 rcases hL with ⟨b,_⟩|⟨l,d,a,rfl⟩
 ·have:=Zgy b;omega
 ·have f:=h.qnum
  have e:=a.first
  have c:=RG h e.1 (by omega);exact(c.li a.rc).val.len
theorem ZqV{l:List Kx}(d:YF q l){x y:Kx}(e:x∈l)(f:y∈l)(h:Z9 (Ks q x) (Ks q y)):x=y:=by
 obtain⟨i,b,rfl⟩:=Vo e;obtain⟨j,c,rfl⟩:=Vo f;rcases Vra i j with a|rfl|a
 ·exact absurd h (Vcb.1 d i j b c a).1
 ·rfl
 ·exact absurd h (Vcb.1 d j i c b a).2
theorem Zre{a b:List Int}(d:a.length=4)(e:b.length=4)(h:Z9 a b)(k:Z9 b a):a=b:=eq4 d e fun j c=>Vfb (h j c) (k j c)
theorem Zmk{n' :Zf}{q' :Zr}{A B:List Kx}(g:∀x,Ks q' x=Ks q x)(u:YF q A)(l:∀x∈A,Zao n q x)(o:∀x∈B,Zao n' q' x)(m:∀L,Bk n q L->∀c t,F78 n q (L,())=some (c,t,0)->JL q A (Z8 q c))(p:∀L,Bk n' q' L->∀c t,F78 n' q' (L,())=some (c,t,0)->JL q' B (Z8 q' c))
 (b:∀L,Bk n q L↔Bk n' q' L) (a:∀L,Bk n q L->F78 n' q' (L,())=F78 n q (L,())):∀x∈A,∃y∈B,Ks q y=Ks q x:=by
 intro x h;obtain⟨L,_,r,s⟩:=l x h;have hL:Bk n q L:=s;obtain⟨y,j,C⟩:=p L ((b L).1 hL) x.2.1 x.2.2.1 (by rw[a L hL];exact r);obtain⟨M,_,v,w⟩:=o y j;have f:Bk n q M:=(b M).2 w;obtain⟨z,D,k⟩:=m M f y.2.1 y.2.2.1 (by rw[<-a M f];exact v);have d:Z9 (Ks q y) (Ks q x):=by rw[<-g y, <-g x];exact C
 have e:z=x:=ZqV u D h (D5 k d);subst e;exact⟨y,j,Zre (HP q y.2.1) (HP q z.2.1) d k⟩
theorem Ztv{A B:List (List Int)}(d:A.Pairwise Jf)(e:B.Pairwise Jf)(h:∀v,v∈A↔v∈B):A=B:=by
 have f:∀{l:List (List Int)},l.Pairwise Jf->l.Nodup:=fun k=>k.imp fun {a b} c=>by rintro rfl;exact Zcc a c
 refine List.Perm.eq_of_pairwise (le:=Jf) (fun a b _ _ g j=>absurd j (ZgP g)) d e ?_;exact(List.perm_ext_iff_of_nodup (f d) (f e)).2 h
theorem ZmN(q:Zr){R:List Kx}(j:R.length<=542198816521):F190 q R=some (R.map (Ks q)):=by
 have e:(Zz:Nat)=549755813888:=rfl;unfold F190 F145
 have h:∃V:List (List Int),_=some V/\V=R.map (Ks q):=Ki (step:=fun s0:List (List Int) ×Int=>
  bif decide (s0.2<(R.length:Int)) then
  Vka (idx R s0.2) fun g=>
  Vka (F136 q g.2.1) fun b=>
  Vka (ZE (decide (Vib s0.1+Vib [b]<=Zz))) fun _=>
  some (.inl (s0.1++[b],Vg .i64 (s0.2+(1:Int))))
  else some (.inr s0.1)) R.length (fun V=>V=R.map (Ks q)) (fun i (s:List (List Int) ×Int)=>s=((R.take i).map (Ks q),(i:Int))) (by
   rintro i _ a rfl;left;have f:idx R (i:Int)=some R[i]:=ZC a
   have d:ZE (decide (((R.take i).map (Ks q)).length+ [Z8 q (R[i]).2.1].length<=Zz))=some ():=by rw[Ze (by simp;omega)];rfl
   simp only[ZO a,Zc,f,Za,ZsC,d,ZW a (show R.length<=9223372036854775807 by omega)]
   exact⟨_,rfl,by rw[Va a,Vm];rfl⟩) (by
   rintro _ rfl;rw[Vj];exact⟨_,by simp only[JF,Zd],rfl⟩) ([],0) rfl
 obtain⟨V,c,rfl⟩:=h;rw[c];rfl
theorem Zht{V:List (List Int)}(c:V.length<=542198816521):F144 V V=some true:=by
 unfold F144;rw[Ze rfl];simp only[Vf,Zd];refine KM (fun r:Unit ⊕ Bool=>r=.inl ()) ?_ (by rintro _ rfl;rfl);refine Ki V.length _ (fun i (s:Int)=>s=(i:Int)) ?_ ?_ _ rfl
 ·rintro i _ a rfl;have b:idx V (i:Int)=some V[i]:=ZC a;simp only[ZO a,Zc,b,Za,RS _ _ rfl,decide_true,Vf,Zd];exact .inl ⟨_,rfl,ZW a (by omega)⟩
 ·rintro _ rfl;exact⟨.inl (),by simp only[JF,Zd],rfl⟩
theorem ZrY(h:K0 n q):∃R d:List Kx,F108 n q=some (R,0)/\F108 (ZG n q) (Zo q)=some (d,0)/\R.length<=542198816521/\d.length<=542198816521/\R.map (Ks q)=d.map (Ks (Zo q)):=by
 have g:=Zdf h;unfold F108;rw[DU h.fit,h.chk,DU g.fit,g.chk];have f:(Zo q).2.2.2.1=q.2.2.2.1:=rfl;simp only[Za,decide_true,Vf,Zd,f];have t:∀x,Ks (Zo q) x=Ks q x:=fun _=>rfl
 cases b:q.2.2.2.1 with
 |true=>
  obtain⟨A,c,e,u,w,m,o⟩:=ZlA h b;obtain⟨B,z,H,C,D,p,r⟩:=ZlA g b;simp only[Zc,c,z,Za];refine⟨A,B,rfl,rfl,by omega,by omega,?_⟩;have a:∀L,Bk n q L->F78 (ZG n q) (Zo q) (L,())=F78 n q (L,()):=fun L hL=>ZbO h.fit h.whole q (Zo q) rfl (by have:=ZoT h hL;omega);have E:=Zmk (q:=q) t w m p o r (ZfD h b) a;have G:=Zmk (n:=ZG n q) (q:=Zo q) (n' :=n) (q' :=q) (fun x=>(t x).symm) D p m r o (fun L=>(ZfD h b L).symm) (fun L hL=>(a L ((ZfD h b L).2 hL)).symm);refine Ztv (Vbb.2 u) (Vbb.2 C) fun v=>?_;rw[Vr,Vr];constructor
  ·rintro ⟨x,j,rfl⟩;obtain⟨y,k,l⟩:=E x j;exact⟨y,k,l⟩
  ·rintro ⟨x,j,rfl⟩;obtain⟨y,k,l⟩:=G x j
   exact⟨y,k,l⟩
 |false=>
  obtain⟨A,c,e,_⟩:=ZjQ h b;have s:=ZqK h;rw[c]at s;simp only[Zd,c,s,Za];exact⟨A,A,rfl,rfl,e,e,rfl⟩
theorem Zqq(n:Zf)(h:Yb ZR n)(q:Zr):F186 n q=some true:=by
 unfold F186;obtain⟨b,d,e⟩:=Zqy h q;rw[d]
 cases b with
 |false=>simp only[Za,Vt,Zc,ZiK]
 |true=>
 have a:=e rfl;obtain⟨R,c,k,l,m,j,o⟩:=ZrY a;have f:F108 (ZG n q) (q.1,q.2.1,q.2.2.1,q.2.2.2.1,q.2.2.2.2.1,q.2.2.2.2.2.1,false,false,(0:Int),q.2.2.2.2.2.2.2.2.2)=some (c,0):=l;have g:F190 (q.1,q.2.1,q.2.2.1,q.2.2.2.1,q.2.2.2.2.1,q.2.2.2.2.2.1,false,false,(0:Int),q.2.2.2.2.2.2.2.2.2) c=some (c.map (Ks (Zo q))):=ZmN (Zo q) j;simp only[Za,Vf,Zd,Zdb a.whole.sound a.few q (by rw[DU a.fit,a.chk]),k,f,decide_true,Zc,ZmN q m,g];rw[o,Zht (by rw[Vl];exact j)];simp only[Za,Zc,ZiK]
theorem filterP(x:KK F186A)(h:Zbs F186A x):F186 x.1 x.2.1=some true:=Zqq _ h.1 _
end Q
