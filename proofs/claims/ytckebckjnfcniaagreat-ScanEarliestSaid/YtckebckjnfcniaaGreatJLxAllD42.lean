/- Exhaustive search: chains of stays, and how many journeys there can be. Conditions: the network is valid and small. -/
import Derived.Test.YtckebckjnfcniaaGreatJLxFilt42
namespace Q
open Tr Go
open Option (bind_some)
variable {n:Zav}{q:Za6}
noncomputable def Zos(n:Zav):Int->Option Int:=nxL n n.2.2.2.1.length
def Rch(n:Zav)(a b:Int):Prop:= ∃k,orb (Zos n) a (k+1)=some b
theorem Zp1(f:Int->Option Int): ∀ (k:Nat) {a b c:Int}{l:Nat},orb f a k=some b->orb f b l=some c->orb f a (k+l)=some c
 |0,a,b,c,l,h1,h2=>by
  have:a=b:=Option.some.inj h1
  rw[this,Nat.zero_add];exact h2
 |k+1,a,b,c,l,h1,h2=>by have h1' : (f a).bind (fun b=>orb f b k)=some b:=h1;obtain⟨a',e1,e2⟩:=Option.bind_eq_some_iff.1 h1';have:=Zp1 f k e2 h2;rw[show k+1+l=(k+l)+1 by omega];show (f a).bind (fun b=>orb f b (k+l))=some c;rw[e1];exact this
theorem Rch.trans{a b c:Int}(h1:Rch n a b)(h2:Rch n b c):Rch n a c:=by obtain⟨k,h1⟩:=h1;obtain⟨l,h2⟩:=h2;exact⟨k+l+1,by rw[show k+l+1+1=(k+1)+(l+1) by omega];exact Zp1 _ _ h1 h2⟩
theorem Rch.one{a b:Int}(h:Zos n a=some b):Rch n a b:=⟨0,by show (Zos n a).bind (fun b=>some b)=some b;rw[h];rfl⟩
theorem Rch.irr(h:Whole n){a:Int} : ¬Rch n a a:=by rintro ⟨k,hk⟩;exact ZmW (Zfa (fun j hj=>Zaz.1 h.g j hj) a) k hk
theorem ZhQ(h:Whole n){i c j d:Nat}(hl:isLink n i c j d true):Zos n (i:Int)=some (j:Int):=by
 obtain⟨a,ha,he⟩:=List.getElem_of_mem hl;have ea:lk n a=((i:Int),(c:Int),(j:Int),(d:Int),true,()):=by unfold lk;rw[Zaj ha,he]
 cases hs:Zos n (i:Int) with
 |none=>
  have:=ZlV hs a ha (by rw[ea]);rw[ea]at this
  exact absurd rfl this
 |some b=>
  obtain⟨a',h1,h2,h3,h4⟩:=Zh3 hs
  have:a' =a:=by
   rcases Nat.lt_trichotomy a' a with hlt|rfl|hlt
   ·have:=(ZdR (Zaz.1 h.g a ha)).2.2 (by rw[ea]);exact absurd ⟨a',hlt,h2, .inl (by rw[h3,ea])⟩ this.1
   ·rfl
   ·have:=(ZdR (Zaz.1 h.g a' h1)).2.2 h2;exact absurd ⟨a,hlt,by rw[ea], .inl (by rw[h3,ea])⟩ this.1
  rw[this,ea]at h4;rw[<-h4]
open Classical in
noncomputable def Zj1(n:Zav)(a b:Nat):Nat:=if Rch n (a:Int) (b:Int) then 1 else 0
noncomputable def rnk(n:Zav)(a:Nat):Nat:=Zj1 n a 0+Zj1 n a 1+Zj1 n a 2+Zj1 n a 3+Zj1 n a 4+Zj1 n a 5+Zj1 n a 6
theorem Ztw(a b:Nat):Zj1 n a b<=1:=by unfold Zj1;split<;>omega
theorem ZmN(h:Whole n)(a:Nat):Zj1 n a a=0:=by unfold Zj1;rw[if_neg (Rch.irr h)]
theorem ZqC(h:Whole n)(a b:Nat):Zj1 n a b+Zj1 n b a<=1:=by
 unfold Zj1;by_cases h1:Rch n (a:Int) (b:Int)
 ·rw[if_pos h1,if_neg (fun h2=>Rch.irr h (h1.trans h2))];omega
 ·rw[if_neg h1];split<;>omega
theorem ZsZ(a:Nat):rnk n a<=7:=by have:=fun b=>Ztw (n:=n) a b;have h0:=this 0;have h1:=this 1;have h2:=this 2;have h3:=this 3;have h4:=this 4;have h5:=this 5;have h6:=this 6;unfold rnk;omega
theorem Ztu(h:Whole n):rnk n 0+rnk n 1+rnk n 2+rnk n 3+rnk n 4+rnk n 5+rnk n 6<=21:=by have a:=ZqC h;have i:=ZmN h;have i0:=i 0;have i1:=i 1;have i2:=i 2;have i3:=i 3;have i4:=i 4;have i5:=i 5;have i6:=i 6;have a01:=a 0 1;have a02:=a 0 2;have a03:=a 0 3;have a04:=a 0 4;have a05:=a 0 5;have a06:=a 0 6;have a12:=a 1 2;have a13:=a 1 3;have a14:=a 1 4;have a15:=a 1 5;have a16:=a 1 6;have a23:=a 2 3;have a24:=a 2 4;have a25:=a 2 5;have a26:=a 2 6;have a34:=a 3 4;have a35:=a 3 5;have a36:=a 3 6;have a45:=a 4 5;have a46:=a 4 6;have a56:=a 5 6;unfold rnk;omega
theorem ZsU(h:Whole n){i j:Nat}(hj:j<7)(hs:Zos n (i:Int)=some (j:Int)):rnk n j+1<=rnk n i:=by
 have hr:=Rch.one hs
 have hm: ∀k,Zj1 n j k<=Zj1 n i k:=fun k=>by
  unfold Zj1;by_cases h1:Rch n (j:Int) (k:Int)
  ·rw[if_pos h1,if_pos (hr.trans h1)];exact Nat.le_refl _
  ·rw[if_neg h1];exact Nat.zero_le _
 have h1:Zj1 n i j=1:=by unfold Zj1;rw[if_pos hr]
 have h0:=ZmN h j;have m0:=hm 0;have m1:=hm 1;have m2:=hm 2;have m3:=hm 3;have m4:=hm 4;have m5:=hm 5;have m6:=hm 6;unfold rnk;have hc:j=0\/j=1\/j=2\/j=3\/j=4\/j=5\/j=6:=by omega
 rcases hc with rfl|rfl|rfl|rfl|rfl|rfl|rfl<;>omega
def Zbv:Nat->(Nat->Nat)->Nat
 |0,_=>0
 |m+1,f=>Zbv m f+f m
theorem ZbA{f g:Nat->Nat} : ∀ {m:Nat},(∀i,i<m->f i<=g i)->Zbv m f<=Zbv m g
 |0,_=>Nat.le_refl _
 |m+1,h=>Nat.add_le_add (ZbA fun i hi=>h i (by omega)) (h m (by omega))
theorem ZdO(f g:Nat->Nat): ∀m,Zbv m (fun i=>f i+g i)=Zbv m f+Zbv m g
 |0=>rfl
 |m+1=>by show Zbv m _+(f m+g m)=(Zbv m f+f m)+(Zbv m g+g m);rw[ZdO f g m];omega
theorem ZdJ(c:Nat)(f:Nat->Nat): ∀m,Zbv m (fun i=>c*f i)=c*Zbv m f
 |0=>rfl
 |m+1=>by show Zbv m _+_=c* (Zbv m f+f m);rw[ZdJ c f m,Nat.mul_add]
theorem ZcR{f:Nat->Nat} : ∀ {m:Nat},(∀i,i<m->f i=0)->Zbv m f=0
 |0,_=>rfl
 |m+1,h=>by show Zbv m f+f m=0;rw[ZcR fun i hi=>h i (by omega),h m (by omega)]
theorem Zga{f:Nat->Nat}{j:Nat} : ∀ {m:Nat},(∀i,i<m->i≠j->f i=0)->Zbv m f<=f j
 |0,_=>Nat.zero_le _
 |m+1,h=>by
  show Zbv m f+f m<=f j;by_cases e:m=j
  ·subst e;rw[ZcR fun i hi=>h i (by omega) (by omega)];omega
  ·rw[h m (by omega) e];exact Zga fun i hi he=>h i (by omega) he
theorem ZfE(c:Nat): ∀m,Zbv m (fun _=>c)=m*c
 |0=>by simp [Zbv]
 |m+1=>by show Zbv m _+c=_;rw[ZfE c m,Nat.succ_mul]
theorem Ze6{β:Type}(w:β->Nat)(f:Nat->List β): ∀m,(((List.range m).flatMap f).map w).sum=Zbv m fun i=>((f i).map w).sum
 |0=>rfl
 |m+1=>by
  have e: [m].flatMap f=f m:=by simp
  rw[List.range_succ,List.flatMap_append,List.map_append,List.sum_append,Ze6 w f m,e];rfl
theorem Zj2{β:Type}(w:β->Nat)(f:Nat->β): ∀m,(((List.range m).map f).map w).sum=Zbv m fun i=>w (f i)
 |0=>rfl
 |m+1=>by rw[List.range_succ,List.map_append,List.map_append,List.sum_append,Zj2 w f m];simp [Zbv]
def gW:Nat->Nat
 |0=>271
 |l+1=>61+1260*gW l
theorem Zva(l:Nat):271<=gW l:=by
 induction l with
 |zero=>exact Nat.le_refl _
 |succ l ih=>unfold gW;omega
noncomputable def Zg3(n:Zav)(l i c:Nat):Nat:=gW l* (1+if c+1=(Zan n i).length then 5*rnk n i else 0)
noncomputable def wr(n:Zav):Nat->Nat->Nat->Nat
 |0,_,_=>1
 |l+1,i,c=>Zg3 n l i c
noncomputable def bw(n:Zav)(l i b:Nat):Nat:=Zbv ((Zan n i).length - (b+1)) fun k=>wr n l i (b+1+k)
noncomputable def rW(n:Zav)(l:Nat)(s:Int):Nat:=Zbv n.2.2.1.length fun i=>Zbv (Zan n i).length fun b=>if (Zac n i b).1=s then bw n l i b else 0
noncomputable def tW(n:Zav)(l:Nat):Nat:=Zbv n.2.2.1.length fun i=>Zbv (Zan n i).length fun b=>bw n l i b
theorem Zq0(l i b:Nat):Zbv ((Zan n i).length - (b+1)) (fun k=>Zg3 n l i (b+1+k))<=gW l* ((Zan n i).length - (b+1)+5*rnk n i):=by
 unfold Zg3;rw[ZdJ];refine Nat.mul_le_mul_left _ ?_;rw[ZdO,ZfE];refine Nat.add_le_add (by omega) ?_;by_cases hm: (Zan n i).length - (b+1)=0
 ·rw[hm];exact Nat.zero_le _
 ·refine Nat.le_trans (Zga (j:=(Zan n i).length - (b+1) - 1) fun k hk he=>if_neg (by omega)) ?_
  split<;>omega
theorem Zvr(l i:Nat): ∀m,m<=(Zan n i).length->(Zan n i).length<=6->Zbv m (fun b=>Zbv ((Zan n i).length - (b+1)) fun k=>Zg3 n l i (b+1+k))<=gW l* (15+25*rnk n i):=by
 intro m hm h6
 refine Nat.le_trans (ZbA (g:=fun b=>gW l* ((Zan n i).length - (b+1)+(if b+1< (Zan n i).length then 5*rnk n i else 0))) fun b hb=> ?_) ?_
 ·by_cases hb2:b+1< (Zan n i).length
  ·rw[if_pos hb2];exact Zq0 l i b
  ·have: (Zan n i).length - (b+1)=0:=by omega
   rw[this];exact Nat.zero_le _
 ·rw[ZdJ];refine Nat.mul_le_mul_left _ ?_;generalize (Zan n i).length=k at*;generalize rnk n i=r;have hk:k=0\/k=1\/k=2\/k=3\/k=4\/k=5\/k=6:=by omega
  have hmm:m=0\/m=1\/m=2\/m=3\/m=4\/m=5\/m=6:=by omega
  rcases hk with rfl|rfl|rfl|rfl|rfl|rfl|rfl<;>rcases hmm with rfl|rfl|rfl|rfl|rfl|rfl|rfl<;>simp [Zbv]<;>omega
theorem ZlD{f:Nat->Nat}{m:Nat}(hm:m<=7):Zbv m f<=f 0+f 1+f 2+f 3+f 4+f 5+f 6:=by
 have hmm:m=0\/m=1\/m=2\/m=3\/m=4\/m=5\/m=6\/m=7:=by omega
 rcases hmm with rfl|rfl|rfl|rfl|rfl|rfl|rfl|rfl<;>simp [Zbv]<;>omega
theorem Zvt(hW:Whole n)(hT:Tin n)(l:Nat):61+2*tW n l<=gW l:=by
 cases l with
 |zero=>
  have:tW n 0<=105:=by
   unfold tW;refine Nat.le_trans (ZbA (g:=fun _=>15) fun i hi=> ?_) ?_
   ·have h6:=hT.calls i hi;unfold bw wr;generalize (Zan n i).length=k at*;have hk:k=0\/k=1\/k=2\/k=3\/k=4\/k=5\/k=6:=by omega
    rcases hk with rfl|rfl|rfl|rfl|rfl|rfl|rfl<;>simp [Zbv]
   ·rw[ZfE];have:=hT.runs;omega
  show 61+2*tW n 0<=271
  omega
 |succ l=>
  have h1:tW n (l+1)<=gW l*630:=by unfold tW bw wr;refine Nat.le_trans (ZbA (g:=fun i=>gW l* (15+25*rnk n i)) fun i hi=>Zvr l i _ (Nat.le_refl _) (hT.calls i hi)) ?_;rw[ZdJ];refine Nat.mul_le_mul_left _ (Nat.le_trans (ZlD hT.runs) ?_);have:=Ztu hW;omega
  show 61+2*tW n (l+1)<=61+1260*gW l;omega
def ZtD(P:List Zb8)(s t:Int):Nat:=(P.filter fun p=>decide (p.1=s) &&decide (p.2.1=t)).length
theorem ZpH(l:Nat)(s:Int): ∀P:List Zb8,((P.filter fun p=>decide (p.1=s)).map fun p=>rW n l p.2.1).sum=Zbv n.2.2.1.length fun i=>Zbv (Zan n i).length fun b=>ZtD P s (Zac n i b).1*bw n l i b
 | []=>by
  symm
  exact ZcR fun i _=>ZcR fun b _=>by simp [ZtD]
 |p::P=>by
  have ih:=ZpH l s P;rw[List.filter_cons];by_cases h:p.1=s
  ·rw[if_pos (by rw[decide_eq_true h]),List.map_cons,List.sum_cons,ih];unfold rW;rw[<-ZdO];congr 1;funext i;rw[<-ZdO];congr 1;funext b;unfold ZtD;rw[List.filter_cons,decide_eq_true h];by_cases h2:p.2.1=(Zac n i b).1
   ·rw[if_pos h2.symm,decide_eq_true h2];simp only[Bool.and_self,if_true,List.length_cons,Nat.succ_mul];omega
   ·rw[if_neg (fun e=>h2 e.symm),decide_eq_false h2];simp
  ·rw[if_neg (by rw[decide_eq_false h];simp),ih];congr 1;funext i;congr 1;funext b;unfold ZtD;rw[List.filter_cons,decide_eq_false h];simp
theorem Ztz(hW:Whole n)(s t:Int): (if t=s then 1 else 0)+ZtD n.2.2.2.2.1 s t<=2:=by
 obtain⟨h1,h2⟩:=Zjq.1 (Zaz.1 hW.q);unfold ZtD
 have hm: ∀p∈n.2.2.2.2.1.filter (fun p=>decide (p.1=s) &&decide (p.2.1=t)),p.1=s/\p.2.1=t:=fun p hp=>by have:=(List.mem_filter.1 hp).2;rw[Bool.and_eq_true,decide_eq_true_eq,decide_eq_true_eq]at this;exact this
 have hp:=h2.sublist (List.filter_sublist (p:=fun p:Zb8=>decide (p.1=s) &&decide (p.2.1=t)))
 have hne: ∀p∈n.2.2.2.2.1.filter (fun p=>decide (p.1=s) &&decide (p.2.1=t)),p.1≠p.2.1:=fun p hp=>by exact(hW.ok.path p (List.mem_filter.1 hp).1).2.2.1
 generalize n.2.2.2.2.1.filter (fun p=>decide (p.1=s) &&decide (p.2.1=t))=F at*
 match F,hm,hp,hne with
 | [],_,_,_=>simp;split<;>omega
 | [a],hm,_,hne=>
  have:=hm a (by simp);have h3:=hne a (by simp);rw[if_neg (fun e=>h3 (by rw[this.1,this.2,e]))]
  simp
 | [a,b],hm,_,hne=>
  have:=hm a (by simp);have h3:=hne a (by simp);rw[if_neg (fun e=>h3 (by rw[this.1,this.2,e]))]
  simp
 |a::b::c::F,hm,hp,_=>
  exfalso;have ha:=hm a (by simp);have hb:=hm b (by simp);have hc:=hm c (by simp);rw[List.pairwise_cons]at hp;have hab:=hp.1 b (by simp);have hac:=hp.1 c (by simp);have hbc:=(List.pairwise_cons.1 hp.2).1 c (by simp);unfold ZcP at hab hac hbc;rw[ha.1,ha.2,hb.1,hb.2]at hab;rw[ha.1,ha.2,hc.1,hc.2]at hac;rw[hb.1,hb.2,hc.1,hc.2]at hbc;have hx:a.2.2.2.1≠b.2.2.2.1:=fun e=>hab (by rw[e]);have hy:a.2.2.2.1≠c.2.2.2.1:=fun e=>hac (by rw[e]);have hz:b.2.2.2.1≠c.2.2.2.1:=fun e=>hbc (by rw[e]);exact(show∀x y z:Bool,x≠y->x≠z->y≠z->False by decide) _ _ _ hx hy hz
theorem Zte(hW:Whole n)(hT:Tin n)(l:Nat)(s:Int):1+rW n l s+((n.2.2.2.2.1.filter fun p=>decide (p.1=s)).map fun p=>1+rW n l p.2.1).sum<=gW l:=by
 have e1: ∀P:List Zb8,(P.map fun p=>1+rW n l p.2.1).sum=P.length+(P.map fun p=>rW n l p.2.1).sum:=by
  intro P
  induction P with
  |nil=>rfl
  |cons p P ih=>rw[List.map_cons,List.sum_cons,ih,List.map_cons,List.sum_cons,List.length_cons];omega
 rw[e1,ZpH];have hl: (n.2.2.2.2.1.filter fun p=>decide (p.1=s)).length<=60:=Nat.le_trans (List.length_filter_le _ _) hT.paths
 have key:rW n l s+(Zbv n.2.2.1.length fun i=>Zbv (Zan n i).length fun b=>ZtD n.2.2.2.2.1 s (Zac n i b).1*bw n l i b)<=2*tW n l:=by
  unfold rW tW;rw[<-ZdO, <-ZdJ];refine ZbA fun i _=> ?_;rw[<-ZdO, <-ZdJ];refine ZbA fun b _=> ?_;have:=Ztz hW s (Zac n i b).1
  have h3: (if (Zac n i b).1=s then bw n l i b else 0)=(if (Zac n i b).1=s then 1 else 0) *bw n l i b:=by split<;>simp
  rw[h3, <-Nat.add_mul];exact Nat.mul_le_mul_right _ this
 have:=Zvt hW hT l;omega
end Q
namespace Q
open Tr Go
open Option (bind_some)
variable {n:Zav}{q:Za6}{m:Nat}
noncomputable def ZrO(n:Zav)(l:Nat)(x:ZaA):Nat:=if x.1=true then Zg3 n l x.2.1.toNat x.2.2.2.1.toNat else 1+rW n l x.2.2.2.2.2.1
noncomputable def wJ(n:Zav)(m:Nat)(L:List ZaA):Nat:=if ZaG L<=m then ZrO n (m - ZaG L) (lg L (L.length - 1)) else 1
noncomputable def hJ(n:Zav)(m:Nat)(L:List ZaA):Nat:=if ZaG L<=m then 20* (m - ZaG L)+(if (lg L (L.length - 1)).1=true then 10+rnk n (lg L (L.length - 1)).2.1.toNat else 5) else 0
theorem Zpk(l i c:Nat):1<=Zg3 n l i c:=by unfold Zg3;have:=Zva l;exact Nat.le_trans (by omega:1<=gW l*1) (Nat.mul_le_mul_left _ (by omega))
theorem Zta(L:List ZaA):1<=wJ n m L:=by
 unfold wJ ZrO;split
 ·split
  ·exact Zpk ..
  ·omega
 ·exact Nat.le_refl _
theorem Ze9(L:List ZaA)(x:ZaA):lg (L++[x]) ((L++[x]).length - 1)=x:=by rw[List.length_append,List.length_singleton,Nat.add_sub_cancel,Zvv]
theorem Zmk{L:List ZaA}(hr:ZaG L<=m)(i b c:Nat):wJ n m (L++[Zcc n i b c false])=wr n (m - ZaG L) i c:=by
 unfold wJ;rw[Zb3,Zb0,Ze9];simp only[Bool.false_eq_true,if_false];by_cases h:ZaG L+1<=m
 ·rw[if_pos h,show m - ZaG L=(m - (ZaG L+1))+1 by omega];rfl
 ·rw[if_neg h,show m - ZaG L=0 by omega];rfl
theorem Zuh{L:List ZaA}(hr:ZaG L<=m)(i b c:Nat):wJ n m (L++[Zcc n i b c true])=Zg3 n (m - ZaG L) i c:=by unfold wJ;rw[Zb3,Zb0,Ze9];simp only[if_true,Nat.add_zero];rw[if_pos hr];rfl
theorem Ztx{L:List ZaA}(hr:ZaG L<=m)(s t:Int)(p:Zb8):wJ n m (L++[Zdx s t p])=1+rW n (m - ZaG L) p.2.1:=by unfold wJ Zdx;rw[Zb3,Zei,Ze9,Nat.add_zero,if_pos hr];rfl
theorem Zrr{α β:Type}(w:β->Nat)(f:α->List β): ∀l:List α,((l.flatMap f).map w).sum=(l.map fun x=>((f x).map w).sum).sum
 | []=>rfl
 |x::l=>by rw[List.flatMap_cons,List.map_append,List.sum_append,Zrr w f l];rfl
theorem ZpE{α:Type}{f g:α->Nat} : ∀ {l:List α},(∀x∈l,f x<=g x)->(l.map f).sum<=(l.map g).sum
 | [],_=>Nat.le_refl _
 |x::l,h=>by rw[List.map_cons,List.sum_cons,List.map_cons,List.sum_cons];exact Nat.add_le_add (h x (by simp)) (ZpE fun y hy=>h y (by simp [hy]))
theorem ZsR{α:Type}(f g:α->Nat): ∀l:List α,(l.map fun x=>f x+g x).sum=(l.map f).sum+(l.map g).sum
 | []=>rfl
 |x::l=>by simp only[List.map_cons,List.sum_cons];rw[ZsR f g l];omega
theorem Zsn{α:Type}{f:α->Nat} : ∀ {l:List α},(∀x∈l,f x=0)->(l.map f).sum=0
 | [],_=>rfl
 |x::l,h=>by rw[List.map_cons,List.sum_cons,h x (by simp),Zsn fun y hy=>h y (by simp [hy])]
theorem ZjX{l:Nat}{f:ZaA->Nat}(hf: ∀i b c,f (Zcc n i b c false)<=wr n l i c)(s t:Int): ((Zcg n s t).map f).sum<=rW n l s:=by
 unfold Zcg rW;rw[Ze6];refine ZbA fun i _=> ?_;unfold ZdM;rw[Ze6];refine ZbA fun b _=> ?_;unfold ZfS;by_cases h: (Zac n i b).1=s
 ·rw[if_pos h];split
  ·unfold ZfD bw;rw[Zj2];exact ZbA fun k _=>hf ..
  ·exact Nat.zero_le _
 ·rw[if_neg (fun e=>h e.1),if_neg h];exact Nat.le_refl _
theorem Zsz(hT:Tin n){l j:Nat}{f:ZaA->Nat}(hj:j<n.2.2.1.length)(h0: ∀i b c,(i≠j\/b≠0)->f (Zcc n i b c false)=0)(hf: ∀c,f (Zcc n j 0 c false)<=Zg3 n l j c)(s t:Int): ((Zcg n s t).map f).sum<=gW l* (5+5*rnk n j):=by
 have hb: ∀i b,(i≠j\/b≠0)->((ZfS n s t i b).map f).sum=0:=by
  intro i b h;unfold ZfS;split
  ·unfold ZfD;rw[Zj2];exact ZcR fun k _=>h0 i b _ h
  ·rfl
 unfold Zcg;rw[Ze6];refine Nat.le_trans (Zga (j:=j) fun i _ he=> ?_) ?_
 ·unfold ZdM;rw[Ze6];exact ZcR fun b _=>hb i b (.inl he)
 ·unfold ZdM;rw[Ze6];refine Nat.le_trans (Zga (j:=0) fun b _ he=>hb j b (.inr he)) ?_;unfold ZfS;split
  ·unfold ZfD;rw[Zj2];refine Nat.le_trans (ZbA fun k _=>hf _) (Nat.le_trans (Zq0 l j 0) (Nat.mul_le_mul_left _ ?_));have:=hT.calls j hj;omega
  ·exact Nat.zero_le _
theorem ZjG{a b:ZaA}(h:Zbh n a b=0)(hs:Zbj b=true):Zfs n a b true=true:=by
 unfold Zbh at h;rw[hs,ZaE (by omega)]at h;have h:=h.2;rw[ZaE (by omega)]at h;have h:=h.2;simp only[cond_true]at h
 cases hl:Zfs n a b true with
 |true=>rfl
 |false=>rw[hl]at h;simp at h
theorem Zms(h:Zdi n){a:ZaA}{i b c:Nat}(hl:Zfs n a (Zcc n i b c true) true=true): ∃k d:Nat,a.2.1=(k:Int)/\a.2.2.2.1=(d:Int)/\isLink n k d i b true:=by unfold Zfs at hl;obtain⟨x,hx,hm⟩:=List.any_eq_true.1 hl;obtain⟨i',c',j',d',s',rfl,_⟩:=h.link x hx;unfold Zlh Zcc at hm;simp only[Bool.and_eq_true,decide_eq_true_eq,beq_iff_eq,Int.natCast_inj]at hm;obtain⟨h1,h2,h3,h4,h5⟩:=hm;refine⟨i',c',h1.symm,h2.symm, ?_⟩;unfold isLink;rw[<-h3, <-h4, <-h5];exact hx
theorem Zth(L:List ZaA)(l:ZaA): ((Zo4 n q L l).map fun y=>wJ n m y.1).sum<=wJ n m (L++[l]):=by
 unfold Zo4;split
 ·simp
 ·exact Nat.zero_le _
theorem Zve(L:List ZaA)(x l:ZaA): ((ZlA n L x l).map fun y=>wJ n m y.1).sum<=wJ n m (L++[Zcj l]):=by
 unfold ZlA;split
 ·simp
 ·exact Nat.zero_le _
theorem ZjB{L:List ZaA}{x l:ZaA}(h: ¬ ((l.1=true/\l.2.2.1=0/\x.1=true)/\Zbh n x (Zcj l)=0)):ZlA n L x l=[]:=by unfold ZlA;exact if_neg fun e=>h ⟨e.1,e.2.2⟩
theorem Zu3(hW:Whole n)(hT:Tin n){L:List ZaA}(hr:ZaG L<=m):1+((Zo2 n q L).map fun y=>wJ n m y.1).sum<=wJ n m L:=by
 unfold Zo2;have eW:wJ n m L=ZrO n (m - ZaG L) (lg L (L.length - 1)):=if_pos hr;rw[Zrr,eW];generalize lg L (L.length - 1)=x
 have e1: ((Zce n x).map fun l=>((Zni n q L x l).map fun y=>wJ n m y.1).sum).sum=((Zce n x).map fun l=>((Zo4 n q L l).map fun y=>wJ n m y.1).sum).sum+((Zce n x).map fun l=>((ZlA n L x l).map fun y=>wJ n m y.1).sum).sum:=by rw[<-ZsR];unfold Zni;simp only[List.map_append,List.sum_append]
 rw[e1]
 have hA: ((Zcg n x.2.2.2.2.2.1 x.2.2.2.2.2.2.2.1).map fun l=>((Zo4 n q L l).map fun y=>wJ n m y.1).sum).sum<=rW n (m - ZaG L) x.2.2.2.2.2.1:=
  ZjX (fun i b c=>Nat.le_trans (Zth L _) (Nat.le_of_eq (Zmk hr i b c))) _ _
 unfold Zce ZrO
 cases hx:x.1 with
 |false=>
  simp only[Bool.false_eq_true,if_false,List.append_nil]
  have hS: ((Zcg n x.2.2.2.2.2.1 x.2.2.2.2.2.2.2.1).map fun l=>((ZlA n L x l).map fun y=>wJ n m y.1).sum).sum=0:=
   Zsn fun l _=>by rw[ZjB (fun e=>by rw[hx]at e;cases e.1.2.2)];rfl
  omega
 |true=>
  simp only[if_true,List.map_append,List.sum_append]
  have hB: ((Zb4 n x.2.2.2.2.2.1 x.2.2.2.2.2.2.2.1).map fun l=>((Zo4 n q L l).map fun y=>wJ n m y.1).sum).sum<=((n.2.2.2.2.1.filter fun p=>decide (p.1=x.2.2.2.2.2.1)).map fun p=>1+rW n (m - ZaG L) p.2.1).sum:=by unfold Zb4;rw[List.map_map];exact ZpE fun p _=>Nat.le_trans (Zth L _) (Nat.le_of_eq (Ztx hr _ _ p))
  have hC: ((Zb4 n x.2.2.2.2.2.1 x.2.2.2.2.2.2.2.1).map fun l=>((ZlA n L x l).map fun y=>wJ n m y.1).sum).sum=0:=
   Zsn fun l hl=>by obtain⟨p,_,_,rfl⟩:=Ze0 hl;rw[ZjB (fun e=>Bool.noConfusion e.1.1)];rfl
  have hN:=Zte hW hT (m - ZaG L) x.2.2.2.2.2.1
  have hD: ((Zcg n x.2.2.2.2.2.1 x.2.2.2.2.2.2.2.1).map fun l=>((ZlA n L x l).map fun y=>wJ n m y.1).sum).sum+gW (m - ZaG L)<=Zg3 n (m - ZaG L) x.2.1.toNat x.2.2.2.1.toNat:=by
   by_cases he: ∃i c j:Nat,x.2.1=(i:Int)/\x.2.2.2.1=(c:Int)/\isLink n i c j 0 true
   ·obtain⟨i,c,j,h1,h2,h3⟩:=he;obtain⟨l1,l2,l3,l4,l5,l6,l7⟩:=hW.ok.isLink h3;have hs:=ZhQ hW h3;have hj7:j<7:=by have:=hT.runs;omega
    have hrk:=ZsU hW hj7 hs
    have:=Zsz (l:=m - ZaG L) (f:=fun l=>((ZlA n L x l).map fun y=>wJ n m y.1).sum) hT l2 (fun i' b' c' hne=>by
     show ((ZlA n L x (Zcc n i' b' c' false)).map fun y=>wJ n m y.1).sum=0;rw[ZjB]
     ·rfl
     ·rintro ⟨⟨_,e2,_⟩,e4⟩;have e2' : (b' :Int)=0:=e2;have hb:b' =0:=by omega
      subst hb;obtain⟨k,d,g1,g2,g3⟩:=Zms (i:=i') (b:=0) (c:=c') hW.ok (ZjG e4 rfl);have hs2:=ZhQ hW g3;have:k=i:=by have:=h1.symm.trans g1;omega
      subst this;rw[hs]at hs2;have:i' =j:=by have:=Option.some.inj hs2;omega
      rcases hne with hne|hne
      ·exact hne this
      ·exact hne rfl) (fun c' =>Nat.le_trans (Zve L x _) (Nat.le_of_eq (Zuh hr j 0 c'))) x.2.2.2.2.2.1 x.2.2.2.2.2.2.2.1
    rw[h1,h2,Int.toNat_natCast,Int.toNat_natCast];unfold Zg3;rw[if_pos (l7 rfl).1,Nat.mul_add,Nat.mul_one];have h5:gW (m - ZaG L) * (5+5*rnk n j)<=gW (m - ZaG L) * (5*rnk n i):=Nat.mul_le_mul_left _ (by omega);omega
   ·have hz: ((Zcg n x.2.2.2.2.2.1 x.2.2.2.2.2.2.2.1).map fun l=>((ZlA n L x l).map fun y=>wJ n m y.1).sum).sum=0:=
     Zsn fun l hl=>by
      obtain⟨i,b,c,_,_,_,_,_,rfl⟩:=Zfe hl;rw[ZjB]
      ·rfl
      ·rintro ⟨⟨_,e2,_⟩,e4⟩;have e2' : (b:Int)=0:=e2;have hb:b=0:=by omega
       subst hb;obtain⟨k,d,g1,g2,g3⟩:=Zms (i:=i) (b:=0) (c:=c) hW.ok (ZjG e4 rfl);exact he ⟨k,d,i,g1,g2,g3⟩
    rw[hz];unfold Zg3
    have:gW (m - ZaG L) *1<=gW (m - ZaG L) * (1+if x.2.2.2.1.toNat+1=(Zan n x.2.1.toNat).length then 5*rnk n x.2.1.toNat else 0):=Nat.mul_le_mul_left _ (by omega)
    omega
  omega
theorem ZvC(hW:Whole n)(hT:Tin n){L:List ZaA}(hr:ZaG L<=m){y:List ZaA×Unit}(hy:y∈Zo2 n q L):y.1.length=L.length+1/\hJ n m y.1<hJ n m L:=by
 unfold Zo2 at hy;obtain⟨l,hl,hy⟩:=List.mem_flatMap.1 hy
 have eH:hJ n m L=20* (m - ZaG L)+(if (lg L (L.length - 1)).1=true then 10+rnk n (lg L (L.length - 1)).2.1.toNat else 5):=if_pos hr
 rw[eH];generalize lg L (L.length - 1)=x at*
 have hlow:5<=(if x.1=true then 10+rnk n x.2.1.toNat else 5):=by split<;>omega
 have hride: ∀i b c,hJ n m (L++[Zcc n i b c false])<20* (m - ZaG L)+(if x.1=true then 10+rnk n x.2.1.toNat else 5):=by
  intro i b c;unfold hJ;rw[Zb3,Zb0,Ze9];have hk:=ZsZ (n:=n) i;have e: (Zcc n i b c false).2.1.toNat=i:=Int.toNat_natCast i;have e2: (Zcc n i b c false).1=true:=rfl;rw[e,e2];simp only[Bool.false_eq_true,if_false,if_true];by_cases h:ZaG L+1<=m
  ·rw[if_pos h];omega
  ·rw[if_neg h];omega
 rcases List.mem_append.1 hy with hy|hy
 ·unfold Zo4 at hy;split at hy
  ·rw[List.mem_singleton]at hy;subst hy;refine⟨by simp, ?_⟩;unfold Zce at hl;rcases List.mem_append.1 hl with hl|hl
   ·obtain⟨i,b,c,_,_,_,_,_,rfl⟩:=Zfe hl;exact hride i b c
   ·split at hl
    ·next hx=>
     obtain⟨p,_,_,rfl⟩:=Ze0 hl;rw[if_pos hx];unfold hJ Zdx;rw[Zb3,Zei,Ze9,Nat.add_zero,if_pos hr];rw[if_neg (fun e=>ZuN _ _ _ _ e)];omega
    ·exact absurd hl (by simp)
  ·exact absurd hy (by simp)
 ·unfold ZlA at hy;split at hy
  ·next hc=>
   rw[List.mem_singleton]at hy;subst hy;refine⟨by simp, ?_⟩;obtain⟨⟨c1,c2,c3⟩,_,c4⟩:=hc;rw[if_pos c3];unfold Zce at hl;rcases List.mem_append.1 hl with hl|hl
   ·obtain⟨i,b,c,hi,_,_,_,_,rfl⟩:=Zfe hl;have c2' : (b:Int)=0:=c2;have hb:b=0:=by omega
    subst hb;obtain⟨k,d,g1,g2,g3⟩:=Zms (i:=i) (b:=0) (c:=c) hW.ok (ZjG c4 rfl);have hi7:i<7:=by have:=hT.runs;omega
    have:=ZsU hW hi7 (ZhQ hW g3);rw[g1,Int.toNat_natCast];show hJ n m (L++[Zcc n i 0 c true])<_;unfold hJ;rw[Zb3,Zb0,Ze9];have e: (Zcc n i 0 c true).2.1.toNat=i:=Int.toNat_natCast i;have e2: (Zcc n i 0 c true).1=true:=rfl;rw[e,e2];simp only[if_true,Nat.add_zero];rw[if_pos hr];omega
   ·rw[if_pos c3]at hl;obtain⟨p,_,_,rfl⟩:=Ze0 hl;cases c1
  ·exact absurd hy (by simp)
end Q
namespace Q
open Tr Go
open Option (bind_some)
variable {n:Zav}{q:Za6}{m:Nat}
theorem ZtT(hW:Whole n)(hT:Tin n): ((ZeH n q).map fun y=>wJ n m y.1).sum<=gW m:=by
 have h0:ZaG ([]:List ZaA)<=m:=Nat.zero_le _
 have e1: ((Zd6 n q).map fun y=>wJ n m y.1).sum<=rW n m q.1:=by unfold Zd6;rw[List.map_map];refine ZjX (f:=(fun y:List ZaA×Unit=>wJ n m y.1) ∘fun x=>([x],())) (fun i b c=> ?_) _ _;exact Nat.le_of_eq (Zmk (L:=[]) h0 i b c)
 have e2: (((Zb4 n q.1 0).flatMap (ZcK n q)).map fun y=>wJ n m y.1).sum<=((n.2.2.2.2.1.filter fun p=>decide (p.1=q.1)).map fun p=>1+rW n m p.2.1).sum:=by rw[Zrr];unfold Zb4;rw[List.map_map];refine ZpE fun p _=> ?_;show ((ZcK n q (Zdx q.1 0 p)).map fun y=>wJ n m y.1).sum<=1+rW n m p.2.1;unfold ZcK;rw[List.map_map];refine Nat.le_trans (ZjX (l:=m) (f:=(fun y:List ZaA×Unit=>wJ n m y.1) ∘fun x=>([ZkE (Zdx q.1 0 p) x,x],())) (fun i b c=> ?_) _ _) (Nat.le_add_left _ _);exact Nat.le_of_eq (Zmk (L:=[ZkE (Zdx q.1 0 p) (Zcc n i b c false)]) (Nat.zero_le _) i b c)
 have e3:=Zte hW hT m q.1;unfold ZeH;rw[List.map_append,List.sum_append];omega
theorem Zty{y:List ZaA×Unit}(hy:y∈ZeH n q):0<y.1.length/\y.1.length+hJ n m y.1<=20*m+30:=by
 have hh: ∀L:List ZaA,hJ n m L<=20*m+17:=fun L=>by
  unfold hJ;have:=ZsZ (n:=n) (lg L (L.length - 1)).2.1.toNat;split
  ·split<;>omega
  ·omega
 have:=hh y.1;unfold ZeH at hy;rcases List.mem_append.1 hy with hy|hy
 ·unfold Zd6 at hy;obtain⟨x,_,rfl⟩:=List.mem_map.1 hy;exact⟨by simp,by simp only[List.length_singleton]at*;omega⟩
 ·obtain⟨w,_,hy⟩:=List.mem_flatMap.1 hy;unfold ZcK at hy;obtain⟨x,_,rfl⟩:=List.mem_map.1 hy;exact⟨by simp,by simp only[List.length_cons,List.length_nil]at*;omega⟩
open Classical in
noncomputable def Zem(n:Zav)(q:Za6)(y:List ZaA×Unit):List (List ZaA×Unit):=if Zk2 n q y.1 then Zo2 n q y.1 else []
open Classical in
noncomputable def ZeD(n:Zav)(q:Za6)(y:List ZaA×Unit):List (List ZaA×Unit):=if Zk2 n q y.1/\(Zbz n q y.1).2=0 then [y] else []
theorem Zh4(y:List ZaA×Unit): (ZeD n q y).length<=1:=by unfold ZeD;split<;>simp
theorem Zti{L:List ZaA}(h:Zk2 n q L)(hm:q.2.2.2.2.1=(m:Int)):ZaG L<=m:=by have:=h.2.1;omega
theorem Zjk(hW:Whole n)(hT:Tin n)(hm:q.2.2.2.2.1=(m:Int)): ∀l:List (List ZaA×Unit),l.length+((l.flatMap (Zem n q)).map fun y=>wJ n m y.1).sum<=(l.map fun y=>wJ n m y.1).sum
 | []=>Nat.le_refl _
 |y::l=>by
  have ih:=Zjk hW hT hm l;rw[List.flatMap_cons,List.map_append,List.sum_append,List.map_cons,List.sum_cons,List.length_cons]
  have:1+((Zem n q y).map fun y=>wJ n m y.1).sum<=wJ n m y.1:=by
   unfold Zem;split
   ·next h=>exact Zu3 hW hT (Zti h hm)
   ·exact Zta _
  omega
theorem ZuC(l:List (List ZaA×Unit)):l.length<=(l.map fun y=>wJ n m y.1).sum:=by
 induction l with
 |nil=>exact Nat.le_refl _
 |cons y l ih=>
  rw[List.map_cons,List.sum_cons,List.length_cons];have:=Zta (n:=n) (m:=m) y.1;omega
theorem Zvb(l:List (List ZaA×Unit))(i:Nat): ((l.take i).map fun y=>wJ n m y.1).sum<=(l.map fun y=>wJ n m y.1).sum:=by
 have:l=l.take i++l.drop i:=(List.take_append_drop i l).symm
 conv=>rhs;rw[this]
 rw[List.map_append,List.sum_append];omega
structure Zup (n:Zav) (q:Za6) (m:Nat) (s:List (List ZaA×Unit) ×List (List ZaA×Unit)):Prop where
 size:s.1.length+(s.2.map fun y=>wJ n m y.1).sum<=549755813000
 good: ∀y∈s.1,(Zbz n q y.1).2=0/\y.1.length<=100
 low: ∀y∈s.2,0<y.1.length/\y.1.length+hJ n m y.1<=100
 done: ∃D:List ZaA->Prop,(∀L,D L->Zk2 n q L->((Zbz n q L).2=0->(L,())∈s.1)/\ ∀y∈Zo2 n q L,D y.1\/y∈s.2)/\ ∀y∈ZeH n q,D y.1\/y∈s.2
theorem Zqc(hW:Whole n)(hT:Tin n)(hm:q.2.2.2.2.1=(m:Int)){s:List (List ZaA×Unit) ×List (List ZaA×Unit)}(I:Zup n q m s):Zup n q m (s.1++s.2.flatMap (ZeD n q),s.2.flatMap (Zem n q)):=by
 have hr:=Zjk hW hT hm s.2;have hg:=Zc5 (f:=ZeD n q) (c:=1) (fun y=>Zh4 y) s.2;refine⟨?_,fun y hy=> ?_,fun y hy=> ?_, ?_⟩
 ·have:=I.size;simp only[List.length_append];omega
 ·rcases List.mem_append.1 hy with hy|hy
  ·exact I.good y hy
  ·obtain⟨z,hz,hy⟩:=List.mem_flatMap.1 hy;unfold ZeD at hy;split at hy
   ·next h=>
    rw[List.mem_singleton]at hy;subst hy;exact⟨h.2,by have:=I.low y hz;omega⟩
   ·exact absurd hy (by simp)
 ·obtain⟨z,hz,hy⟩:=List.mem_flatMap.1 hy;unfold Zem at hy;split at hy
  ·next h=>
   obtain⟨e1,e2⟩:=ZvC hW hT (Zti h hm) hy;have:=I.low z hz;omega
  ·exact absurd hy (by simp)
 ·obtain⟨D,d1,d2⟩:=I.done;refine⟨fun L=>D L\/ ∃y∈s.2,y.1=L, ?_,fun y hy=> ?_⟩
  ·rintro L (hD| ⟨⟨L',u⟩,hD,rfl⟩) hH
   ·obtain⟨a1,a2⟩:=d1 L hD hH;refine⟨fun e=>List.mem_append_left _ (a1 e),fun y hy=> .inl ?_⟩;rcases a2 y hy with h|h
    ·exact .inl h
    ·exact .inr ⟨y,h,rfl⟩
   ·refine⟨fun e=>List.mem_append_right _ (List.mem_flatMap.2 ⟨_,hD, ?_⟩),fun y hy=> .inr (List.mem_flatMap.2 ⟨_,hD, ?_⟩)⟩
    ·unfold ZeD;rw[if_pos ⟨hH,e⟩];exact List.mem_singleton.2 rfl
    ·unfold Zem;rw[if_pos hH];exact hy
  ·left;rcases d2 y hy with h|h
   ·exact .inl h
   ·exact .inr ⟨y,h,rfl⟩
structure ZvT (n:Zav) (q:Za6) (out:List (List ZaA×Unit)):Prop where
 size:out.length<=549755813000
 good: ∀y∈out,(Zbz n q y.1).2=0/\y.1.length<=100
 none:q.1=q.2.1->([],())∈out
 walk: ∀w∈Zb4 n q.1 q.2.2.1,(Zbz n q [w]).2=0->([w],())∈out
 done: ∃D:List ZaA->Prop,(∀L,D L->Zk2 n q L->((Zbz n q L).2=0->(L,())∈out)/\ ∀y∈Zo2 n q L,D y.1)/\ ∀y∈ZeH n q,D y.1
theorem Zom(hfit:Fit n)(hW:Whole n)(hT:Tin n)(hF:n.2.2.2.2.2.1.1.length<=4096)(hq:qB n.1.length q=true)(hb:q.2.2.2.1=false)(hm:q.2.2.2.2.1=(m:Int))(h3:m<=3): ∃out,F80 n q=some out/\ZvT n q out:=by
 have hN:=hW.ok;have hpp:n.2.2.2.2.1.length<=4096:=by have:=hT.paths;omega
 have hlk:n.2.2.2.1.length<=4096:=by have:=hW.v;omega
 have hq1:inR q.1 n.1.length=true:=by unfold qB at hq;rw[Bool.and_eq_true]at hq;exact hq.1
 have hck:Zkf n q=0:=ZhF.2 ⟨hW,hq⟩;have hw60:=Ze1 hT q.1 q.2.2.1;unfold F80
 refine Zvk (fun r:List (List ZaA×Unit)=>r=if q.1=q.2.1 then [([],())] else []) ?_ ?_
 ·by_cases h:q.1=q.2.1
  ·rw[decide_eq_true h,if_pos h];exact⟨_,rfl,rfl⟩
  ·rw[decide_eq_false h,if_neg h];exact⟨_,rfl,rfl⟩
 rintro x0 hx0
 have hx1:x0.length<=1:=by rw[hx0];split<;>simp
 rw[ZeJ hpp];simp only[bind_some]
 have hbeg: ∃x7:List (List ZaA×Unit),x7.length<=61/\(∀y∈x7,(Zbz n q y.1).2=0/\y.1.length<=100)/\(q.1=q.2.1->([],())∈x7)/\(∀w∈Zb4 n q.1 q.2.2.1,(Zbz n q [w]).2=0->([w],())∈x7)/\x7=x0++(Zb4 n q.1 q.2.2.1).flatMap fun w=>if (Zbz n q [w]).2=0 then [([w],())] else []:=by
  refine⟨_, ?_,fun y hy=> ?_,fun e=> ?_,fun w hw e=> ?_,rfl⟩
  ·have:=Zc5 (f:=fun w=>if (Zbz n q [w]).2=0 then [(([w],()):List ZaA×Unit)] else []) (c:=1) (fun w=>by split<;>simp) (Zb4 n q.1 q.2.2.1)
   rw[List.length_append];omega
  ·rcases List.mem_append.1 hy with hy|hy
   ·rw[hx0]at hy;split at hy
    ·next he=>
     rw[List.mem_singleton]at hy;subst hy;exact⟨(ZiH n q []).2 ⟨hck, .inl ⟨rfl,he⟩⟩,by simp⟩
    ·exact absurd hy (by simp)
   ·obtain⟨w,_,hy⟩:=List.mem_flatMap.1 hy;split at hy
    ·next he=>
     rw[List.mem_singleton]at hy;subst hy;exact⟨he,by simp⟩
    ·exact absurd hy (by simp)
  ·rw[hx0,if_pos e];simp
  ·exact List.mem_append_right _ (List.mem_flatMap.2 ⟨w,hw,by rw[if_pos e];exact List.mem_singleton.2 rfl⟩)
 obtain⟨x7,b1,b2,b3,b4,b5⟩:=hbeg;refine Zvk (fun r=>r=x7) ?_ ?_
 ·rw[b5];generalize Zb4 n q.1 q.2.2.1=W at*
  refine ZaX W.length _ (fun i (st:List (List ZaA×Unit) ×Int)=>st=(x0++(W.take i).flatMap (fun w=>if (Zbz n q [w]).2=0 then [([w],())] else []),(i:Int))) ?_ ?_ _ (by simp)
  ·rintro i _ hi rfl;left
   have hl: ((W.take i).flatMap (fun w=>if (Zbz n q [w]).2=0 then [(([w],()):List ZaA×Unit)] else [])).length<=60:=by
    have:=Zc5 (f:=fun w=>if (Zbz n q [w]).2=0 then [(([w],()):List ZaA×Unit)] else []) (c:=1) (fun w=>by split<;>simp) (W.take i)
    rw[List.length_take]at this;omega
   have et: (W.take (i+1)).flatMap (fun w=>if (Zbz n q [w]).2=0 then [(([w],()):List ZaA×Unit)] else [])=(W.take i).flatMap (fun w=>if (Zbz n q [w]).2=0 then [(([w],()):List ZaA×Unit)] else [])++if (Zbz n q [W[i]]).2=0 then [([W[i]],())] else []:=by rw[List.take_succ_eq_append_getElem hi,List.flatMap_append];simp
   have hfv:F83 n q ([W[i]],())=some (decide ((Zbz n q [W[i]]).2=0)):=ZgW hfit hF q [W[i]] (by simp);rw[et];simp only[Zaw hi,cond_true,Zaf hi,bind_some,hb,cond_false,hfv,Zai hi (show _<=9223372036854775807 by omega)];by_cases hc: (Zbz n q [W[i]]).2=0
   ·rw[decide_eq_true hc,if_pos hc];simp only[cond_true];rw[ZaW (by simp only[List.length_append,List.length_singleton];omega)];exact⟨_,rfl,by rw[List.append_assoc]⟩
   ·rw[decide_eq_false hc,if_neg hc];exact⟨_,rfl,by rw[List.append_nil]⟩
  ·rintro _ rfl;simp only[Zax,cond_false,List.take_length];exact⟨_,rfl,rfl⟩
 rintro r7 hr7;rw[hr7,Zqd hT];simp only[bind_some];refine Zvk (fun r=>Zup n q m (r,[])/\ ∀y∈x7,y∈r) ?_ ?_
 rotate_left
 ·rintro out ⟨I,hsub⟩;refine⟨out,rfl,by have:=I.size;simp only at this;omega,I.good,fun e=>hsub _ (b3 e),fun w hw e=>hsub _ (b4 w hw e), ?_⟩;obtain⟨D,d1,d2⟩:=I.done;exact⟨D,fun L hD hH=>⟨(d1 L hD hH).1,fun y hy=>((d1 L hD hH).2 y hy).resolve_right (by simp)⟩,fun y hy=>(d2 y hy).resolve_right (by simp)⟩
 have hg3:gW m<=542198816521:=by
  have:m=0\/m=1\/m=2\/m=3:=by omega
  rcases this with rfl|rfl|rfl|rfl<;>decide
 have hsw:=ZtT (q:=q) (m:=m) hW hT
 have h0:Zup n q m (x7,ZeH n q):=by refine⟨by show x7.length+((ZeH n q).map fun y=>wJ n m y.1).sum<=549755813000;omega,b2,fun y hy=> ?_,⟨fun _=>False,fun _ h=>h.elim,fun y hy=> .inr hy⟩⟩;have:=Zty (m:=m) hy;omega
 refine Zjg (Inv:=fun s:List (List ZaA×Unit) ×List (List ZaA×Unit)=>Zup n q m s/\ ∀y∈x7,y∈s.1) (μ:=fun s=>(s.2.map fun y=>wJ n m y.1).sum) (Zig:=fun r=>Zup n q m (r,[])/\ ∀y∈x7,y∈r) ?_ (x7,ZeH n q) ⟨h0,fun y hy=>hy⟩;rintro ⟨out,opn⟩ ⟨I,hsub⟩
 cases opn with
 |nil=>
  right
  exact⟨out,rfl,I,hsub⟩
 |cons y0 opn0=>
  left;generalize hop:y0::opn0=opn at*;have hlen:0<opn.length:=by rw[<-hop];simp
  have hr:=Zjk hW hT hm opn;have hlw:=ZuC (n:=n) (m:=m) opn;have hsz:=I.size;simp only at hsz;refine⟨(out++opn.flatMap (ZeD n q),opn.flatMap (Zem n q)), ?_,⟨Zqc hW hT hm I,fun y hy=>List.mem_append_left _ (hsub y hy)⟩,by show ((opn.flatMap (Zem n q)).map fun y=>wJ n m y.1).sum< (opn.map fun y=>wJ n m y.1).sum;omega⟩;rw[decide_eq_true (show (0:Int)< (opn.length:Int) by omega)];simp only[cond_true];refine Zbo (fun r=>r=(out++opn.flatMap (ZeD n q),opn.flatMap (Zem n q))) ?_ (fun r hr=>by rw[hr]);refine ZaX opn.length _ (fun i (st:List (List ZaA×Unit) ×List (List ZaA×Unit) ×Int)=>st=(out++(opn.take i).flatMap (ZeD n q),(opn.take i).flatMap (Zem n q),(i:Int))) ?_ ?_ _ (by simp)
  ·rintro i _ hi rfl;left;have hlow:=I.low opn[i] (List.getElem_mem hi);have hgl:=Zc5 (f:=ZeD n q) (c:=1) (fun y=>Zh4 y) (opn.take i);rw[List.length_take]at hgl
   have hml: ((opn.take (i+1)).flatMap (Zem n q)).length<=549755813000:=by have a1:=ZuC (n:=n) (m:=m) ((opn.take (i+1)).flatMap (Zem n q));have a2:=Zjk hW hT hm (opn.take (i+1));have a3:=Zvb (n:=n) (m:=m) opn (i+1);omega
   have em: (opn.take (i+1)).flatMap (Zem n q)=(opn.take i).flatMap (Zem n q)++Zem n q opn[i]:=by rw[List.take_succ_eq_append_getElem hi,List.flatMap_append];simp
   have eg: (opn.take (i+1)).flatMap (ZeD n q)=(opn.take i).flatMap (ZeD n q)++ZeD n q opn[i]:=by rw[List.take_succ_eq_append_getElem hi,List.flatMap_append];simp
   rw[em,List.length_append]at hml;rw[em,eg];have hgd:=Zh4 (n:=n) (q:=q) opn[i];obtain⟨b,hb1,hb2⟩:=Zme (n:=n) (q:=q) hN.sound hpp hq1 (L:=(opn[i]).1) hlow.1 (by omega);have hb1' :F92 n q opn[i]=some b:=hb1;have hfe:F83 n q opn[i]=some (decide ((Zbz n q (opn[i]).1).2=0)):=ZgW hfit hF q (opn[i]).1 (by omega);have hex:F89 n q opn[i]=some (Zo2 n q (opn[i]).1):=ZoS (L:=(opn[i]).1) hT hN hlk hq1 hlow.1 (by omega);have hw:IntKind.wrap .i64 ((i:Int)+1)=((i+1:Nat):Int):=by rw[Zak (by omega) (by omega)];omega
   simp only[Zaw hi,cond_true,Zaf hi,bind_some,hb1',hw]
   cases b with
   |false=>
    have hno: ¬Zk2 n q (opn[i]).1:=fun e=>by have:=hb2.2 e;cases this
    simp only[Bool.not_false,cond_true];refine⟨_,rfl, ?_⟩;unfold ZeD Zem
    rw[if_neg (fun e=>hno e.1),if_neg hno,List.append_nil,List.append_nil]
   |true=>
    have hyes:Zk2 n q (opn[i]).1:=hb2.1 rfl;have emo:Zem n q opn[i]=Zo2 n q (opn[i]).1:=if_pos hyes;rw[emo]at hml;simp only[Bool.not_true,cond_false,hfe,bind_some,hex];refine Zhz (fun r=>r=(out++(opn.take i).flatMap (ZeD n q)++ZeD n q opn[i],(opn.take i).flatMap (Zem n q))) ?_ ?_
    ·unfold ZeD at hgd hgl ⊢;by_cases hc: (Zbz n q (opn[i]).1).2=0
     ·rw[decide_eq_true hc,if_pos ⟨hyes,hc⟩];simp only[cond_true];rw[Zk8 (by simp only[List.length_append,List.length_singleton];omega)];exact⟨_,rfl,rfl⟩
     ·rw[decide_eq_false hc,if_neg (fun e=>hc e.2)];exact⟨_,rfl,by rw[List.append_nil]⟩
    ·rintro _ rfl;have hgb:Zaq (decide (((opn.take i).flatMap (Zem n q)).length+(Zo2 n q (opn[i]).1).length<=Zar))=some ():=Zk8 (by omega);simp only[hgb,bind_some];exact⟨_,rfl,by rw[emo,List.append_assoc]⟩
  ·rintro _ rfl;simp only[Zax,cond_false,List.take_length];exact⟨_,rfl,rfl⟩
end Q
namespace Q
open Tr Go
open Option (bind_some)
structure Zs1 (n:Zav):Prop where
 stops:n.1.length<=5
 runs:n.2.2.1.length<=7
 links:n.2.2.2.1.length<=30
 paths:n.2.2.2.2.1.length<=60
 calls: ∀r∈n.2.2.1,r.2.2.2.2.2.2.2.1.length<=6
 whole:Whole n
open Classical in
theorem ZqX{n:Zav}(h:Zny Y31 n): ∃b,F59 n=some b/\(b=true->Zs1 n):=by
 unfold F59;by_cases h1: (5:Int)< (n.1.length:Int)
 ·rw[decide_eq_true h1];exact⟨false,rfl,fun e=>(nomatch e)⟩
 by_cases h2: (7:Int)< (n.2.2.1.length:Int)
 ·rw[decide_eq_false h1,decide_eq_true h2];exact⟨false,rfl,fun e=>(nomatch e)⟩
 by_cases h3: (30:Int)< (n.2.2.2.1.length:Int)
 ·rw[decide_eq_false h1,decide_eq_false h2,decide_eq_true h3];exact⟨false,rfl,fun e=>(nomatch e)⟩
 by_cases h4: (60:Int)< (n.2.2.2.2.1.length:Int)
 ·rw[decide_eq_false h1,decide_eq_false h2,decide_eq_false h3,decide_eq_true h4];exact⟨false,rfl,fun e=>(nomatch e)⟩
 rw[decide_eq_false h1,decide_eq_false h2,decide_eq_false h3,decide_eq_false h4];simp only[cond_false,bind_some];have hfit:=Zvh h (by omega);rw[Zfz hfit]
 have key: ∀ (o:Option (Unit ⊕ Bool)),(∃r,o=some r/\(r= .inr false\/r= .inl ()/\ ∀x∈n.2.2.1,x.2.2.2.2.2.2.2.1.length<=6))->
   ∃b,(Option.bind o fun x3=>Sum.elim (fun _=>Option.bind (some (decide (Whole n))) fun x5=>some x5) (fun y6=>some y6) x3)=some b/\(b=true->Zs1 n):=by
  rintro o ⟨r,rfl,rfl| ⟨rfl,hc⟩⟩
  ·exact⟨false,rfl,fun e=>(nomatch e)⟩
  ·exact⟨_,rfl,fun e=>⟨by omega,by omega,by omega,by omega,hc,of_decide_eq_true e⟩⟩
 refine key _ (ZaX n.2.2.1.length _ (fun i (s:Int)=>s=(i:Int)/\ ∀x∈n.2.2.1.take i,x.2.2.2.2.2.2.2.1.length<=6) ?_ ?_ _ ⟨rfl,by simp⟩)
 ·rintro i _ hi ⟨rfl,ha⟩;simp only[Zaw hi,cond_true,Zaf hi,bind_some,Zai hi (show _<=9223372036854775807 by omega)];by_cases hc: (6:Int)< ((n.2.2.1[i]).2.2.2.2.2.2.2.1.length:Int)
  ·right;rw[decide_eq_true hc];exact⟨_,rfl, .inl rfl⟩
  ·left;rw[decide_eq_false hc];refine⟨_,rfl,rfl,fun x hx=> ?_⟩;rw[List.take_succ_eq_append_getElem hi,List.mem_append]at hx;rcases hx with hx|hx
   ·exact ha x hx
   ·simp only[List.mem_singleton]at hx;subst hx;omega
 ·rintro _ ⟨rfl,ha⟩;simp only[Zax,cond_false];rw[List.take_length]at ha;exact⟨_,rfl, .inr ⟨rfl,ha⟩⟩
theorem Zs1.tin{n:Zav}(h:Zs1 n):Tin n:=⟨h.stops,h.runs,h.paths,fun i hi=>by rw[Zbi hi];exact h.calls _ (List.getElem_mem hi)⟩
theorem Zs1.few{n:Zav}(hT:Zs1 n):Few n:=by
 refine⟨by have:=hT.stops;omega, ?_,by have:=hT.runs;omega,by have:=hT.links;omega,by have:=hT.paths;omega, ?_,fun r hr=>by have:=hT.calls r hr;omega⟩
 ·have t:=hT.whole.t;unfold ZeO at t;split at t
  ·exact absurd t (by decide)
  ·omega
 ·have z:=hT.whole.z;unfold Zhn at z;split at z
  ·exact absurd z (by decide)
  ·split at z
   ·exact absurd z (by decide)
   ·omega
theorem Zlm: ∀l:List Zim,(∀r∈l,r.2.2.2.2.2.2.2.1.length<=6)->(l.map fun r=>r.2.2.2.2.2.2.2.1.length).sum<=l.length*6
 | [],_=>Nat.le_refl _
 |r::l,h=>by have h1:=h r (by simp);have h2:=Zlm l fun x hx=>h x (by simp [hx]);rw[List.map_cons,List.sum_cons,List.length_cons,Nat.succ_mul];omega
theorem Zs1.size{n:Zav}(hT:Zs1 n):ZrX n:=by have:=Zlm n.2.2.1 hT.calls;have h1:=hT.stops;have h2:=hT.runs;have h3:=hT.paths;have h4:n.2.2.1.length*6<=7*6:=Nat.mul_le_mul_right _ h2;exact⟨by omega,by omega,by omega,by omega⟩
theorem ZoE(n:Zav)(h:Zny Y31 n)(q:Za6):F31 n q=some true:=by
 unfold F31;obtain⟨b,hb1,hb2⟩:=ZqX h;rw[hb1]
 cases b with
 |false=>simp only[bind_some,Bool.not_false,cond_true,Zdn]
 |true=>
  have hT:=hb2 rfl;have hfit:=Zvh h (by have:=hT.paths;omega);simp only[bind_some,Bool.not_true,cond_false,Zk1 hfit];by_cases hc:Zs6 n q=0
  rotate_left
  ·rw[decide_eq_false hc];simp only[Bool.not_false,cond_true,bind_some,Zdn]
  rw[decide_eq_true hc];simp only[Bool.not_true,cond_false,bind_some];by_cases h3: (3:Int)<q.2.2.2.2.1
  ·rw[decide_eq_true h3];simp only[cond_true,Zdn,bind_some]
  rw[decide_eq_false h3];simp only[cond_false];have hfew:=hT.few;obtain⟨g,g1,C,hw,hqb,hbk,D⟩:=Zsu hfit hfew hT.size hc;have hqb' :=hqb;unfold qB at hqb';simp only[Bool.and_eq_true,decide_eq_true_eq,Zeg]at hqb';obtain⟨q1,q2,q3,q4,_⟩:=hqb';have hst: (Zbd n q).1.length=n.1.length:=rfl;have hst2:=hT.stops;rw[ZkR (by rw[D.si.pl,hst];omega) g1];simp only[bind_some,decide_true,Bool.not_true,cond_false,D.len,hst];obtain⟨m,hm⟩: ∃m:Nat,q.2.2.2.2.1=(m:Int):=⟨q.2.2.2.2.1.toNat,by omega⟩;obtain⟨out,o1,o2⟩:=Zom hfit hT.whole hT.tin hfew.prods hqb hbk hm (by omega);rw[o1];simp only[bind_some];obtain⟨a,ha⟩: ∃a:Nat,q.2.1=(a:Int):=⟨q.2.1.toNat,by omega⟩
  have hal:a< (Zbd n q).1.length:=by rw[hst];omega
  have hidx:idx (Zik g) q.2.1=some (arrV g a):=by rw[ha];exact D.idxA hal
  have hlate: ∀y∈out,arrV g a≠ -1/\arrV g a<=Zt6 q y.1:=by
   intro y hy;obtain⟨y1,_⟩:=o2.good y hy;have hck:=(ZiH n q y.1).1 y1;rcases hck.2 with ⟨e1,e2⟩ | ⟨e1,e2,e3⟩
   ·unfold Zt6;rw[if_pos e1];exact D.complete (s:=a) (k:=0) (t:=q.2.2.1) (js:=[]) (by rw[<-ha, <-e2];exact .here)
   ·obtain⟨js,d⟩:=ZuM (n:=Zbd n q) (q:=q) C.net C.stop C.time hbk (L:=y.1) (by omega) (fun i hi=>ZsO.2 (e2 i hi));unfold Ztd at e3;rw[ZaE (by omega)]at e3;have hto: (lg y.1 (y.1.length - 1)).2.2.2.2.2.1=q.2.1:=by simpa using e3.1
    rw[hto,ha]at d;unfold Zt6;rw[if_neg e1];exact D.complete d
  refine Zbo (fun r:Unit ⊕ Bool=>r= .inl ()) ?_ ?_
  ·refine ZaX out.length _ (fun i (s:Int)=>s=(i:Int)) ?_ ?_ _ rfl
   ·rintro i _ hi rfl;left;have hy:=hlate out[i] (List.getElem_mem hi);have hnn:=D.nonneg C a;have hlen:=(o2.good out[i] (List.getElem_mem hi)).2;have he:F32 q out[i]=some (Zt6 q (out[i]).1):=ZpZ q (L:=(out[i]).1) (by omega)
    simp only[Zaw hi,cond_true,hidx,bind_some,Zaf hi,he,Zai hi (show _<=9223372036854775807 by have:=o2.size;omega)]
    rw[decide_eq_false (show¬arrV g a<0 by omega),decide_eq_false (show¬Zt6 q (out[i]).1<arrV g a by omega)];exact⟨_,rfl,rfl⟩
   ·rintro _ rfl;simp only[Zax,cond_false];exact⟨_,rfl,rfl⟩
  ·rintro _ rfl;simp only[Sum.elim_inl,Zdn,bind_some]
theorem earliest42P(x:ZdV F31A)(h:ZkS F31A x):F31 x.1 x.2.1=some true:=ZoE _ h.1 _
end Q
