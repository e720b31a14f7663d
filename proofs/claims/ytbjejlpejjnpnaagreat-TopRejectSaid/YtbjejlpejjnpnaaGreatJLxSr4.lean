/- The search: finishing and visiting a label. Conditions: a valid network and valid fares, labels whose numbers are in range. -/
import Derived.Test.YtbjejlpejjnpnaaGreatJLxNtop
import Derived.Test.YtbjejlpejjnpnaaGreatFintopd
open Bool renaming not_true ->Vf,not_false ->Vo,and_eq_true ->Vw,not_eq_false' ->Vaa,or_eq_false_iff ->Vfa,true_and ->Vka,false_and ->Vub,false_or ->Vvb,and_self ->Vwb,true_or ->Vxb
open Int renaming toNat_natCast ->Ve,le_refl ->Vsa,le_trans ->Vkb,le_antisymm ->Vsb
open Go.IntKind renaming wrap ->Vg
open List renaming take_succ_eq_append_getElem ->Va,mem_singleton ->Vb,getElem?_eq_getElem ->Vc,mem_append ->Vd,getElem_mem ->Vh,length_append ->Vi,take_length ->Vk,length_map ->Vm,map_cons ->Vn,map_append ->Vp,mem_filter ->Vq,append_nil ->Vr,getElem_of_mem ->Vs,take ->Vt,sum_cons ->Vu,mem_append_left ->Vx,drop ->Vy,eq_nil_of_length_eq_zero ->Vz,length_filter_le ->Vca,mem_map ->Vda,sum_append ->Vea,length_nil ->Vha,mem_cons ->Vja,append_eq_singleton_iff ->Vla,mem_append_right ->Vna,replicate ->Voa,map_nil ->Vpa,sum_nil ->Vqa,length_take ->Vra,filter_append ->Vta,length_eq_one_iff ->Vua,mem_cons_of_mem ->Vva,head?_drop ->Vwa,nil_append ->Vxa,length_pos_iff ->Vya,drop_drop ->Vza,singleton_inj ->Vab,filter_cons_of_neg ->Vcb,append_inj_right' ->Vdb,getElem_set_self ->Veb,take_append_drop ->Vfb,take_set_of_le ->Vhb,drop_set_of_lt ->Vib,pairwise_cons ->Vjb,length_cons ->Vnb,filter_cons ->Vob,any_eq_true ->Vpb,ext_getElem ->Vqb,length_set ->Vrb,take_take ->Vtb
open Nat renaming le_trans ->Vj,le_refl ->Vl,zero_le ->Vba,mul_le_mul_left ->Vga,lt_trichotomy ->Vbb,add_le_add ->Vgb,lt_or_ge ->Vlb
open Option renaming bind ->Vma
open Prod renaming fst ->Via
open Prod.mk renaming inj ->Vv
open Sum renaming elim_inl ->Vmb
namespace Q
open Tr Go
variable {F:Ke}{hF:FO F}{n:Zf}{q:Zq}
noncomputable def Za4(n:Zf)(q:Zq)(l:Zu):List Ku:=match F78 n q (l.2.2.2.2.2.1,()) with
 |some (c,t,e)=>if e=0 then [((l.2.2.2.2.2.1,()),c,t,())] else []
 |none=>[]
theorem Zcn{l:Zu}{c:YH}{t:List (Int×Int×Int×Int×Unit)}{e:Int}(h:F78 n q (l.2.2.2.2.2.1,())=some (c,t,e)):Za4 n q l=if e=0 then [((l.2.2.2.2.2.1,()),c,t,())] else []:=by unfold Za4;rw[h]
theorem Zqp{st:Wf}{N:Nat}(h:Xm F hF n q st N){l:Zu}(v:l.2.2.2.2.2.1.length<=1000)(s:∃r,F78 n q (l.2.2.2.2.2.1,())=some r)(k:st.2.2.2.2.1.length+1<=549755813888):
 ∃a,F180 st l=some a/\K3 F hF st [] (Za4 n q l) a:=by
 obtain⟨z,A,x,y,g,⟨⟩⟩:=st;obtain rfl:n=z:=h.net.symm;obtain rfl:q=A:=h.que.symm;obtain⟨⟨c,t,e⟩,j⟩:=s;unfold F180
 have d:sliceB (l.2.2.2.2.2.1++[g0]).length (l.2.2.2.2.2.1++[g0]).length none (some (l.2.2.2.2.2.1.length:Int))=some (0,l.2.2.2.2.2.1.length):=by unfold sliceB;simp only[Za,Vi,Vnb,Vha];rw[Zo ⟨by omega,by omega⟩,Ve];rfl
 have w:F188 l.2.2.2.2.2.1 (false,0,0,0,0,0,0,0,false,())=some (l.2.2.2.2.2.1++[g0]):=ZhB _ v;have f:Vt (l.2.2.2.2.2.1.length - 0) (Vy 0 (l.2.2.2.2.2.1++[g0]))=l.2.2.2.2.2.1:=by simp
 have m:g.length+1<=549755813888:=k
 have u:ZF (decide (g.length+ [((l.2.2.2.2.2.1,()),c,t,())].length<=ZC))=some ():=by rw[Ze (by simp [ZC];omega)];rfl
 simp only[w,Za,d,f,j];rw[Zcn j];by_cases b:e=0
 ·subst b;simp only[decide_true,Zd,if_true];refine⟨(n,q,x,y,g++[((l.2.2.2.2.2.1,()),c,t,())],()),?_,[],by simp,by simp,.refl _,⟨rfl,rfl,rfl⟩,fun p o=>by simp [Jv],fun p=>by simp [Jv],by simp,by simp⟩;refine KD (fun _=>True) ⟨(),u,trivial⟩ fun _ _=>rfl
 ·rw[Zi b,Zg b];exact⟨_,rfl,K3.nil _⟩
noncomputable def Rm(s:JN)(r:ZK):JN:=((F21 s r).getD ([],1)).1
noncomputable def XR(l:Zu):Zu:=(l.1,l.2.1,l.2.2.1,l.2.2.2.1,Rm l.2.2.2.2.1 l.1.2.2.2.2.1,l.2.2.2.2.2.1,())
def Xq(n:Zf)(l:Zu):Bool:=(Zk n l.1.2.2.1.toNat l.1.2.2.2.1.toNat).2.2.2.2.1
def XN(n:Zf)(s:Int):Int:=(K2 n s).2.2.2.1
noncomputable def JJ(n:Zf)(q:Zq)(l:Zu):List Zu:=
 if l.1.1=1 then HS n l++(if Xq n l=true then YU n q (XR l) (l.2.1+XN n l.1.2.1)++HX n q (XR l) else [])
 else if l.1.1=2 then YU n q l l.2.1
 else YU n q l (l.2.1+(if q.2.2.2.2.2.2.2.2.2.1=true then XN n l.1.2.1 else 0))++HX n q l
def Xt(n:Zf)(q:Zq)(l:Zu):Prop:=(l.1.1=1->Xq n l=true)/\l.1.2.1=q.2.1
instance (n:Zf) (q:Zq) (l:Zu):Decidable (Xt n q l):=by unfold Xt;infer_instance
noncomputable def Jx(n:Zf)(q:Zq)(l:Zu):List Ku:=if Xt n q l then Za4 n q l else []
theorem Zcu{l:Zu}(c:LV F hF n q l)(j:l.1.1=1)(h:(Wp l.2.2.2.2.1).length+1<=8):F21 l.2.2.2.2.1 l.1.2.2.2.2.1=some (Rm l.2.2.2.2.1 l.1.2.2.2.2.1,0)/\H5 F hF (Wp l.2.2.2.2.1++[l.1.2.2.2.2.1]) (Rm l.2.2.2.2.1 l.1.2.2.2.2.1)/\ ∀v∈Wp l.2.2.2.2.1++[l.1.2.2.2.2.1],Yn v:=by
 obtain⟨_,_,_,_,_,_,_,_,a⟩:=c.kind j
 have f:∀v∈Wp l.2.2.2.2.1++[l.1.2.2.2.2.1],Yn v:=fun v b=>by
  rw[Vd,Vb]at b;rcases b with b|rfl
  ·exact c.fare.2 v b
  ·exact a
 obtain⟨k,d,g⟩:=ZtC hF c.fare.1 f h;have e:Rm l.2.2.2.2.1 l.1.2.2.2.2.1=k:=by unfold Rm;rw[d];rfl
 rw[e];exact⟨d,g,f⟩
theorem LV.next{l:Zu}(a:LV F hF n q l)(f:l.1.1=1)(d:(Wp l.2.2.2.2.1).length+1<=8):LV F hF n q (XR l):=by
 obtain⟨g,b,c⟩:=Zcu a f d;have e:=Zen b
 refine⟨⟨?_,?_⟩,a.len,a.rides,a.walk,a.time,a.stop,a.kind,a.first⟩
 ·show H5 F hF (Wp (Rm _ _)) (Rm _ _);rw[e];exact b
 ·show∀v∈Wp (Rm _ _),Yn v;rw[e];exact c
theorem Zuc(A:W2 n)(P:QI q)(hp:n.2.2.2.2.1.length<=4096){st:Wf}{N:Nat}(s:Xm F hF n q st N){l:Zu}(e:LV F hF n q l)(Q:l.1.1=1->(Wp l.2.2.2.2.1).length+1<=8)(a:∀x∈JJ n q l,XG F hF x)
 (hc:∃r,F78 n q (l.2.2.2.2.2.1,())=some r) (t:N+(JJ n q l).length<=549755813888) (O:st.2.2.2.2.1.length+1<=549755813888):
 ∃b,F186 st l=some b/\K3 F hF st (JJ n q l) (Jx n q l) b:=by
 obtain⟨sn,sq,st2⟩:=st;obtain rfl:n=sn:=s.net.symm;obtain rfl:q=sq:=s.que.symm;have a8:=e.len;have a7:=A.change _ e.stop.1 e.stop.2;have a9:=e.time
 have m:idx n.1 l.1.2.1=some (K2 n l.1.2.1):=by
  have hi:ZT l.1.2.1 n.1.length=true:=by unfold ZT;rw[Ze e.stop.1,Ze e.stop.2];rfl
  exact Wy hi s0
 have T:Vg .i64 (l.2.1+(K2 n l.1.2.1).2.2.2.1)=l.2.1+XN n l.1.2.1:=Zx (by omega) (by omega)
 have fin:∀(st:Wf) (M:Nat),Xm F hF n q st M->st.2.2.2.2.1.length+1<=549755813888->(l.1.1=1->Xq n l=true)->
  ∃b,(bif decide (l.1.2.1=st.2.1.2.1) then Vma (F180 (st.1,st.2.1,st.2.2.1,((),st.2.2.2.1.2.1,st.2.2.2.1.2.2.1,()),st.2.2.2.2.1,()) l) fun G=>some (G.1,G.2.1,G.2.2.1,((),G.2.2.2.1.2.1,G.2.2.2.1.2.2.1,()),G.2.2.2.2.1,())
   else some (st.1,st.2.1,st.2.2.1,((),st.2.2.2.1.2.1,st.2.2.2.1.2.2.1,()),st.2.2.2.2.1,()))=some b/\K3 F hF st [] (Jx n q l) b:=fun st M J O j=>by
  have S:st.2.1=q:=J.que;unfold Jx;by_cases W:l.1.2.1=q.2.1
  ·rw[Zo ⟨j,W⟩,Ze (show l.1.2.1=st.2.1.2.1 by rw[S];exact W),Zd];obtain⟨b,h1,h2⟩:=Zqp J (show l.2.2.2.2.2.1.length<=1000 by omega) hc O;exact Wo (fun x=>x=b) ⟨_,h1,rfl⟩ fun x D=>⟨_,rfl,by subst D;exact h2⟩
  ·rw[Zg (fun h=>W h.2),Zi (show¬l.1.2.1=st.2.1.2.1 by rw[S];exact W)];exact⟨_,rfl,K3.nil _⟩
 unfold F186;unfold JJ at t a⊢;by_cases f:l.1.1=1
 ·rw[Zo f]at t a⊢;rw[Ze f,Zd];rw[Vi]at t;obtain⟨i,c,e1,e2,hi,a0,_⟩:=e.kind f;obtain⟨E,a1,V⟩:=ZtF A s e f (by omega);have y:=s.adds (fun x D=>a x (Vx _ D)) V;have a6:E.1=n:=y.net
  have a4:E.2.2.2.2.1.length+1<=549755813888:=by obtain⟨_,_,_,_,⟨_,_,h3⟩,_⟩:=V;rw[h3,Vr];exact O
  have B:idx E.1.2.2.1 l.1.2.2.1=some (rn n (i:Int)):=by rw[a6,e1];exact R1 hi
  have o:idx (rn n (i:Int)).2.2.2.2.2.2.2.1 l.1.2.2.2.1=some (Zk n i c):=by rw[e2];exact R0 a0
  have j:Xq n l=(Zk n i c).2.2.2.2.1:=by unfold Xq;rw[e1,e2,Ve,Ve]
  refine Wo (fun x=>∃b,x=b/\K3 F hF (n,q,st2) (HS n l++(if Xq n l=true then YU n q (XR l) (l.2.1+XN n l.1.2.1)++HX n q (XR l) else [])) (Jx n q l) b) ?_ (by rintro _ ⟨b,rfl,h⟩;exact⟨_,rfl,h⟩)
  unfold F179;refine Wo (fun x=>x=E) ⟨_,a1,rfl⟩ ?_;rintro E rfl;simp only[B,o,Za]
  cases u:Xq n l with
  |false=>
   rw[j]at u;rw[u]
   have a3:Jx n q l=[]:=by unfold Jx;rw[Zg];intro h;have:=h.1 f;rw[j,u]at this;cases this
   rw[a3];simp only[Vo,Zd,Bool.false_eq_true,if_false,Vr]
   exact⟨_,rfl,_,rfl,V⟩
  |true=>
   rw[u,Zo rfl,Vi]at t;rw[u,Zo rfl]at a;obtain⟨g,H,p⟩:=fin E _ y a4 (fun _=>u);rw[j]at u;rw[u];simp only[Vf,Zc];have d:=y.adds (by simp) p;have C:g.1=n:=d.net;obtain⟨c1,c2,c3⟩:=Zcu e f (Q f)
   have R:=e.next f (Q f)
   have K:∀x∈YU n q (XR l) (l.2.1+XN n l.1.2.1),XG F hF x:=fun x D=>a x (Vna _ (Vx _ D));obtain⟨v,I,w⟩:=ZfF A P d R (l.2.1+XN n l.1.2.1) (by simp only[Vha];omega);have z:=d.adds K w;obtain⟨U,Y,Z⟩:=ZmO A P hp z R (by simp only[Vha];omega);refine Wo (fun x=>x=g) ⟨_,H,rfl⟩ ?_;rintro g rfl;have k:idx g.1.1 l.1.2.1=some (K2 n l.1.2.1):=by rw[C];exact m
   simp only[c1,Za,decide_true,Vf,Zc,k,T];refine Wo (fun x=>x=v) ⟨_,I,rfl⟩ ?_;rintro v rfl;refine Wo (fun x=>x=U) ⟨_,Y,rfl⟩ ?_;rintro U rfl;refine⟨_,rfl,_,rfl,?_⟩;have:=(V.trans p).trans (w.trans Z);simpa using this
 ·rw[Zg f]at t a⊢;rw[Zi f,Zc];by_cases X:l.1.1=2
  ·rw[Zo X]at t a⊢;rw[Ze X,Zd];obtain⟨g,H,p⟩:=fin (n,q,st2) N s O (fun h=>absurd h f);have d:=s.adds (by simp) p;obtain⟨v,I,w⟩:=ZfF A P d e l.2.1 (by simp only[Vha];omega);refine Wo (fun x=>x=g) ⟨_,H,rfl⟩ ?_;rintro g rfl;refine Wo (fun x=>x=v) ⟨_,I,rfl⟩ ?_;rintro v rfl;refine⟨_,rfl,?_⟩;have:=p.trans w;simpa using this
  ·rw[Zg X]at t a⊢;rw[Zi X,Zc];rw[Vi]at t;obtain⟨g,H,p⟩:=fin (n,q,st2) N s O (fun h=>absurd h f);have d:=s.adds (by simp) p;have C:g.1=n:=d.net;have a5:g.2.1=q:=d.que;have k:idx g.1.1 l.1.2.1=some (K2 n l.1.2.1):=by rw[C];exact m
   obtain⟨v,I,w⟩:=ZfF A P d e (l.2.1+(if q.2.2.2.2.2.2.2.2.2.1=true then XN n l.1.2.1 else 0)) (by simp only[Vha];omega)
   have z:=d.adds (fun x D=>a x (Vx _ D)) w;obtain⟨U,Y,Z⟩:=ZmO A P hp z e (by simp only[Vha];omega);refine Wo (fun x=>x=g) ⟨_,H,rfl⟩ ?_;rintro g rfl
   refine Wo (fun x=>x=l.2.1+(if q.2.2.2.2.2.2.2.2.2.1=true then XN n l.1.2.1 else 0)) ?_ ?_
   ·rw[a5]
    cases q.2.2.2.2.2.2.2.2.2.1 with
    |true=>simp only[Zd,k,Za,T,if_true];exact⟨_,rfl,rfl⟩
    |false=>exact⟨_,rfl,by simp⟩
   ·rintro _ rfl;refine Wo (fun x=>x=v) ⟨_,I,rfl⟩ ?_;rintro v rfl;refine Wo (fun x=>x=U) ⟨_,Y,rfl⟩ ?_;rintro U rfl;refine⟨_,rfl,?_⟩;have:=p.trans (w.trans Z);simpa using this
end Q
namespace Q
open Tr Go
structure JO (n:Zf):Prop where
 stops:n.1.length<=5
 runs:n.2.2.1.length<=7
 paths:n.2.2.2.2.1.length<=60
 calls:∀i,i<n.2.2.1.length->(Zw n i).length<=6
variable {n:Zf}{q:Zq}
noncomputable def Zbj(n:Zf):Int->Option Int:=K7 n n.2.2.2.1.length
def YL(n:Zf)(a b:Int):Prop:= ∃k,KE (Zbj n) a (k+1)=some b
theorem Zk2(f:Int->Option Int):∀(k:Nat) {a b c:Int}{l:Nat},KE f a k=some b->KE f b l=some c->KE f a (k+l)=some c
 |0,a,b,c,l,d,g=>by
  have:a=b:=Option.some.inj d
  grind
 |k+1,a,b,c,l,d,g=>by
  have e:(f a).bind (fun b=>KE f b k)=some b:=d;obtain⟨j,m,h⟩:=Option.bind_eq_some_iff.1 e;have:=Zk2 f k h g;rw[show k+1+l=(k+l)+1 by omega];show (f a).bind (fun b=>KE f b (k+l))=some c
  grind
theorem YL.trans{a b c:Int}(d:YL n a b)(e:YL n b c):YL n a c:=by obtain⟨k,d⟩:=d;obtain⟨l,e⟩:=e;exact⟨k+l+1,by rw[show k+l+1+1=(k+1)+(l+1) by omega];exact Zk2 _ _ d e⟩
theorem YL.one{a b:Int}(h:Zbj n a=some b):YL n a b:=⟨0,by show (Zbj n a).bind (fun b=>some b)=some b;grind⟩
theorem YL.irr(h:Whole n){a:Int} :¬YL n a a:=by rintro ⟨k,c⟩;exact ZkP (ZdE (fun j b=>WL.1 h.g j b) a) k c
theorem Zmf(h:Whole n){i c j d:Nat}(p:isLink n i c j d true):Zbj n (i:Int)=some (j:Int):=by
 obtain⟨a,k,u⟩:=Vs p;have r:lk n a=((i:Int),(c:Int),(j:Int),(d:Int),true,()):=by unfold lk;grind
 cases l:Zbj n (i:Int) with
 |none=>
  have:=ZgU l a k (by grind)
  grind
 |some b=>
  obtain⟨e,m,o,s,t⟩:=Zcj l
  have:e=a:=by
   rcases Vbb e a with f|rfl|f
   ·have:=(Zaa (WL.1 h.g a k)).2.2 (by grind)
    grind
   ·rfl
   ·have:=(Zaa (WL.1 h.g e m)).2.2 o
    grind
  grind
open Classical in
noncomputable def Xj(n:Zf)(a b:Nat):Nat:=if YL n (a:Int) (b:Int) then 1 else 0
noncomputable def Jk(n:Zf)(a:Nat):Nat:=Xj n a 0+Xj n a 1+Xj n a 2+Xj n a 3+Xj n a 4+Xj n a 5+Xj n a 6
theorem Zsu(a b:Nat):Xj n a b<=1:=by unfold Xj;grind
theorem Zlt(h:Whole n)(a:Nat):Xj n a a=0:=by unfold Xj;rw[Zg (YL.irr h)]
theorem Zst(h:Whole n)(a b:Nat):Xj n a b+Xj n b a<=1:=by
 unfold Xj;by_cases c:YL n (a:Int) (b:Int)
 ·rw[Zo c,Zg (fun d=>YL.irr h (c.trans d))];omega
 grind
theorem ZsO(a:Nat):Jk n a<=7:=by have:=fun b=>Zsu (n:=n) a b;have c:=this 0;have d:=this 1;have e:=this 2;have f:=this 3;have g:=this 4;have h:=this 5;have j:=this 6;unfold Jk;omega
theorem ZsP(h:Whole n):Jk n 0+Jk n 1+Jk n 2+Jk n 3+Jk n 4+Jk n 5+Jk n 6<=21:=by have a:=Zst h;have i:=Zlt h;have s:=i 0;have t:=i 1;have u:=i 2;have v:=i 3;have w:=i 4;have x:=i 5;have y:=i 6;have b:=a 0 1;have c:=a 0 2;have d:=a 0 3;have e:=a 0 4;have f:=a 0 5;have g:=a 0 6;have a12:=a 1 2;have j:=a 1 3;have k:=a 1 4;have l:=a 1 5;have m:=a 1 6;have a23:=a 2 3;have a24:=a 2 4;have a25:=a 2 5;have a26:=a 2 6;have o:=a 3 4;have a35:=a 3 5;have p:=a 3 6;have a45:=a 4 5;have a46:=a 4 6;have r:=a 5 6;unfold Jk;omega
theorem ZlL(h:Whole n){i j:Nat}(f:j<7)(d:Zbj n (i:Int)=some (j:Int)):Jk n j+1<=Jk n i:=by
 have c:=YL.one d
 have a:∀k,Xj n j k<=Xj n i k:=fun k=>by
  unfold Xj;by_cases b:YL n (j:Int) (k:Int)
  ·rw[Zo b,Zo (c.trans b)];omega
  grind
 have b:Xj n i j=1:=by unfold Xj;grind
 have e:=Zlt h j;have g:=a 0;have l:=a 1;have m:=a 2;have o:=a 3;have p:=a 4;have r:=a 5;have s:=a 6;unfold Jk
 grind
def K9:Nat->(Nat->Nat)->Nat
 |0,_=>0
 |m+1,f=>K9 m f+f m
theorem DB{f g:Nat->Nat} :∀{m:Nat},(∀i,i<m->f i<=g i)->K9 m f<=K9 m g
 |0,_=>Vl _
 |m+1,h=>Vgb (DB (by grind)) (by grind)
theorem Zbk(f g:Nat->Nat):∀m,K9 m (fun i=>f i+g i)=K9 m f+K9 m g
 |0=>rfl
 |m+1=>by show K9 m _+(f m+g m)=(K9 m f+f m)+(K9 m g+g m);rw[Zbk f g m];omega
theorem Zbl(c:Nat)(f:Nat->Nat):∀m,K9 m (fun i=>c*f i)=c*K9 m f
 |0=>rfl
 |m+1=>by show K9 m _+_=c* (K9 m f+f m);rw[Zbl c f m,Nat.mul_add]
theorem ZeE{f:Nat->Nat} :∀{m:Nat},(∀i,i<m->f i=0)->K9 m f=0
 |0,_=>rfl
 |m+1,h=>by show K9 m f+f m=0;rw[ZeE (by grind),h m (by omega)]
theorem Zhx{f:Nat->Nat}{j:Nat} :∀{m:Nat},(∀i,i<m->i≠j->f i=0)->K9 m f<=f j
 |0,_=>Vba _
 |m+1,h=>by
  show K9 m f+f m<=f j;by_cases e:m=j
  ·subst e;rw[ZeE (by grind)];omega
  ·rw[h m (by omega) e];exact Zhx (by grind)
theorem Zhw(c:Nat):∀m,K9 m (fun _=>c)=m*c
 |0=>by simp [K9]
 |m+1=>by show K9 m _+c=_;rw[Zhw c m,Nat.succ_mul]
theorem ZcH{β:Type}(w:β->Nat)(f:Nat->List β):∀m,(((List.range m).flatMap f).map w).sum=K9 m fun i=>((f i).map w).sum
 |0=>rfl
 |m+1=>by
  have e: [m].flatMap f=f m:=by simp
  rw[List.range_succ,List.flatMap_append,Vp,Vea,ZcH w f m,e];rfl
def gW:Nat->Nat
 |0=>271
 |l+1=>61+1260*gW l
theorem ZjP(l:Nat):271<=gW l:=by
 induction l with
 |zero=>exact Vl _
 |succ l a=>unfold gW;omega
noncomputable def Ru(n:Zf)(l i c:Nat):Nat:=gW l* (1+if c+1=(Zw n i).length then 5*Jk n i else 0)
noncomputable def wr(n:Zf):Nat->Nat->Nat->Nat
 |0,_,_=>1
 |l+1,i,c=>Ru n l i c
noncomputable def bw(n:Zf)(l i b:Nat):Nat:=K9 ((Zw n i).length - (b+1)) fun k=>wr n l i (b+1+k)
noncomputable def rW(n:Zf)(l:Nat)(s:Int):Nat:=K9 n.2.2.1.length fun i=>K9 (Zw n i).length fun b=>if (Zk n i b).1=s then bw n l i b else 0
noncomputable def tW(n:Zf)(l:Nat):Nat:=K9 n.2.2.1.length fun i=>K9 (Zw n i).length fun b=>bw n l i b
theorem Zkp(l i b:Nat):K9 ((Zw n i).length - (b+1)) (fun k=>Ru n l i (b+1+k))<=gW l* ((Zw n i).length - (b+1)+5*Jk n i):=by
 unfold Ru;rw[Zbl];refine Vga _ ?_;rw[Zbk,Zhw];refine Vgb (by omega) ?_;by_cases a:(Zw n i).length - (b+1)=0
 ·rw[a];exact Vba _
 ·refine Vj (Zhx (j:=(Zw n i).length - (b+1) - 1) (by grind)) ?_
  grind
theorem Zs5(l i:Nat):∀m,m<=(Zw n i).length->(Zw n i).length<=6->K9 m (fun b=>K9 ((Zw n i).length - (b+1)) fun k=>Ru n l i (b+1+k))<=gW l* (15+25*Jk n i):=by
 intro m h e
 refine Vj (DB (g:=fun b=>gW l* ((Zw n i).length - (b+1)+(if b+1<(Zw n i).length then 5*Jk n i else 0))) fun b f=>?_) ?_
 ·by_cases a:b+1<(Zw n i).length
  ·rw[Zo a];exact Zkp l i b
  ·have:(Zw n i).length - (b+1)=0:=by omega
   rw[this];exact Vba _
 ·rw[Zbl];refine Vga _ ?_;generalize (Zw n i).length=k at*;generalize Jk n i=r;have d:k=0\/k=1\/k=2\/k=3\/k=4\/k=5\/k=6:=by omega
  have c:m=0\/m=1\/m=2\/m=3\/m=4\/m=5\/m=6:=by omega
  rcases d with rfl|rfl|rfl|rfl|rfl|rfl|rfl<;>rcases c with rfl|rfl|rfl|rfl|rfl|rfl|rfl<;>simp [K9]<;>omega
theorem ZtP{f:Nat->Nat}{m:Nat}(b:m<=7):K9 m f<=f 0+f 1+f 2+f 3+f 4+f 5+f 6:=by
 have a:m=0\/m=1\/m=2\/m=3\/m=4\/m=5\/m=6\/m=7:=by omega
 rcases a with rfl|rfl|rfl|rfl|rfl|rfl|rfl|rfl<;>simp [K9]<;>omega
theorem ZtQ(c:Whole n)(a:JO n)(l:Nat):61+2*tW n l<=gW l:=by
 cases l with
 |zero=>
  have:tW n 0<=105:=by
   unfold tW;refine Vj (DB (g:=fun _=>15) fun i b=>?_) ?_
   ·have f:=a.calls i b;unfold bw wr;generalize (Zw n i).length=k at*;have d:k=0\/k=1\/k=2\/k=3\/k=4\/k=5\/k=6:=by omega
    rcases d with rfl|rfl|rfl|rfl|rfl|rfl|rfl<;>simp [K9]
   ·rw[Zhw];have:=a.runs;omega
  show 61+2*tW n 0<=271
  omega
 |succ l=>
  have e:tW n (l+1)<=gW l*630:=by unfold tW bw wr;refine Vj (DB (g:=fun i=>gW l* (15+25*Jk n i)) fun i b=>Zs5 l i _ (Vl _) (a.calls i b)) ?_;rw[Zbl];refine Vga _ (Vj (ZtP a.runs) ?_);have:=ZsP c;omega
  show 61+2*tW n (l+1)<=61+1260*gW l;omega
def RT(P:List Kj)(s t:Int):Nat:=(P.filter fun p=>decide (p.1=s) &&decide (p.2.1=t)).length
theorem ZmS(l:Nat)(s:Int):∀P:List Kj,((P.filter fun p=>decide (p.1=s)).map fun p=>rW n l p.2.1).sum=K9 n.2.2.1.length fun i=>K9 (Zw n i).length fun b=>RT P s (Zk n i b).1*bw n l i b
 |[]=>by
  symm
  exact ZeE fun i _=>ZeE fun b _=>by simp [RT]
 |p::P=>by
  have a:=ZmS l s P;rw[Vob];by_cases h:p.1=s
  ·rw[Zo (by grind),Vn,Vu,a];unfold rW;rw[<-Zbk];congr 1;funext i;rw[<-Zbk];congr 1;funext b;unfold RT
   grind
  ·rw[Zg (by grind),a];congr 1;funext i;congr 1;funext b;unfold RT
   grind
theorem ZpJ(o:Whole n)(s t:Int):(if t=s then 1 else 0)+RT n.2.2.2.2.1 s t<=2:=by
 obtain⟨A,r⟩:=Zg5.1 (WL.1 o.q);unfold RT;have e:∀p∈n.2.2.2.2.1.filter (fun p=>decide (p.1=s) &&decide (p.2.1=t)),p.1=s/\p.2.1=t:=by simp
 have d:=r.sublist (List.filter_sublist (p:=fun p:Kj=>decide (p.1=s) &&decide (p.2.1=t)))
 have f:∀p∈n.2.2.2.2.1.filter (fun p=>decide (p.1=s) &&decide (p.2.1=t)),p.1≠p.2.1:=fun p d=>by exact(o.ok.path p (Vq.1 d).1).2.2.1
 generalize n.2.2.2.2.1.filter (fun p=>decide (p.1=s) &&decide (p.2.1=t))=F at*
 match F,e,d,f with
 |[],_,_,_=>grind
 |[a],e,_,f=>
  grind
 |[a,b],e,_,f=>
  grind
 |a::b::c::F,e,d,_=>
  exfalso;have k:=e a (by simp);have l:=e b (by simp);have m:=e c (by simp);rw[Vjb]at d;have g:=d.1 b (by simp);have h:=d.1 c (by simp);have j:=(Vjb.1 d.2).1 c (by simp);unfold JG at g h j;rw[k.1,k.2,l.1,l.2]at g;rw[k.1,k.2,m.1,m.2]at h;rw[l.1,l.2,m.1,m.2]at j;have u:a.2.2.2.1≠b.2.2.2.1:=by grind
  have v:a.2.2.2.1≠c.2.2.2.1:=by grind
  have w:b.2.2.2.1≠c.2.2.2.1:=by grind
  exact(show∀x y z:Bool,x≠y->x≠z->y≠z->False by decide) _ _ _ u v w
theorem ZkN(c:Whole n)(a:JO n)(l:Nat)(s:Int):1+rW n l s+((n.2.2.2.2.1.filter fun p=>decide (p.1=s)).map fun p=>1+rW n l p.2.1).sum<=gW l:=by
 have d:∀P:List Kj,(P.map fun p=>1+rW n l p.2.1).sum=P.length+(P.map fun p=>rW n l p.2.1).sum:=by
  intro P
  induction P with
  |nil=>rfl
  |cons p P g=>grind
 rw[d,ZmS];have f:(n.2.2.2.2.1.filter fun p=>decide (p.1=s)).length<=60:=Vj (Vca _ _) a.paths
 have key:rW n l s+(K9 n.2.2.1.length fun i=>K9 (Zw n i).length fun b=>RT n.2.2.2.2.1 s (Zk n i b).1*bw n l i b)<=2*tW n l:=by
  unfold rW tW;rw[<-Zbk, <-Zbl];refine DB fun i _=>?_;rw[<-Zbk, <-Zbl];refine DB fun b _=>?_;have:=ZpJ c s (Zk n i b).1
  have e:(if (Zk n i b).1=s then bw n l i b else 0)=(if (Zk n i b).1=s then 1 else 0) *bw n l i b:=by grind
  rw[e, <-Nat.add_mul];exact Nat.mul_le_mul_right _ this
 have:=ZtQ c a l;omega
end Q
namespace Q
open Tr Go
variable {F:Ke}{hF:FO F}{n:Zf}{q:Zq}
theorem Zmj{α β:Type}(w:β->Nat)(f:α->List β):∀l:List α,((l.flatMap f).map w).sum=(l.map fun x=>((f x).map w).sum).sum
 |[]=>rfl
 |x::l=>by rw[List.flatMap_cons,Vp,Vea,Zmj w f l];rfl
def KV(q:Zq)(l:Zu):Nat:=(q.2.2.2.2.1 - l.2.2.1).toNat
noncomputable def wL(n:Zf)(q:Zq)(l:Zu):Nat:=if l.1.1=1 then Ru n (KV q l) l.1.2.2.1.toNat l.1.2.2.2.1.toNat else if l.1.1=2 then 1+rW n (KV q l) l.1.2.1 else gW (KV q l)
noncomputable def hL(n:Zf)(q:Zq)(l:Zu):Nat:=20*KV q l+(if l.1.1=1 then 10+Jk n l.1.2.2.1.toNat else if l.1.1=2 then 5 else 19)
theorem Zud(l:Zu)(i b c:Nat)(st:Bool)(v:ZK):wL n q (Xw n l i b c st v)=Ru n (KV q l) i c:=by unfold wL Xw KV;simp only[if_true,Ve]
theorem Zmp(l:Zu)(i b:Nat)(st:Bool)(v:ZK):((DD n l i b st v).map (wL n q)).sum<=K9 ((Zw n i).length - (b+1)) fun k=>Ru n (KV q l) i (b+1+k):=by
 unfold DD;rw[ZcH];refine DB fun k _=>?_;unfold Rq;split
 ·simp only[Vn,Vpa,Vu,Vqa,Zud];exact Vl _
 ·exact Vba _
theorem ZoS{l:Zu}(a:l.2.2.1<=q.2.2.2.2.1)(i c:Nat):((RP n q l i c).map (wL n q)).sum<=bw n (KV q l) i c:=by
 unfold RP;split
 ·exact Vba _
 ·next h=>
  refine Vj (Zmp ..) ?_;unfold bw
  have e:KV q l=KV q (Xe n l i c)+1:=by unfold KV Xe;simp only;omega
  rw[e];exact Vl _
theorem ZfG{l:Zu}(a:l.2.2.1<=q.2.2.2.2.1)(fr:Int):((YU n q l fr).map (wL n q)).sum<=rW n (KV q l) l.1.2.1:=by
 unfold YU rW;rw[ZcH];refine DB fun i _=>?_;rw[ZcH];refine DB fun c _=>?_;unfold HG;split
 ·next h=>rw[Zo h.2.2.1];exact ZoS a i c
 ·exact Vba _
theorem Zue(l:Zu)(p:Kj):wL n q (XP l p)=1+rW n (KV q l) p.2.1:=rfl
theorem ZmP(l:Zu):((HX n q l).map (wL n q)).sum<=((n.2.2.2.2.1.filter fun p=>decide (p.1=l.1.2.1)).map fun p=>1+rW n (KV q l) p.2.1).sum:=by
 unfold HX;rw[Zmj];generalize n.2.2.2.2.1=P
 induction P with
 |nil=>exact Vl _
 |cons p P a=>
  rw[Vn,Vu,Vob];by_cases h:p.1=l.1.2.1
  ·rw[Zo (Ze h),Vn,Vu];refine Vgb ?_ a;unfold GB;split
   ·simp only[Vn,Vpa,Vu,Vqa,Zue];exact Vl _
   ·exact Vba _
  ·rw[Zg (by simpa using h)]
   have:((GB q l p).map (wL n q)).sum=0:=by unfold GB;rw[Zg (fun b=>h b.1)];rfl
   rw[this,Nat.zero_add];exact a
theorem ZtH(h:Whole n){a c:Nat}(f:a<n.2.2.2.1.length)(j:c<n.2.2.2.1.length)(k:(n.2.2.2.1[a]).2.2.2.2.1=true)(l:(n.2.2.2.1[c]).2.2.2.2.1=true)(e:(n.2.2.2.1[a]).1=(n.2.2.2.1[c]).1):a=c:=by
 have g:∀b (m:b<n.2.2.2.1.length),lk n b=n.2.2.2.1[b]:=fun b m=>by unfold lk;rw[Kq m]
 rcases Vbb a c with d|rfl|d
 ·have:=(Zaa (WL.1 h.g c j)).2.2 (by rw[g c j];exact l);exact absurd ⟨a,d,by rw[g a f];exact k,.inl (by rw[g a f,g c j];exact e)⟩ this.1
 ·rfl
 ·have:=(Zaa (WL.1 h.g a f)).2.2 (by rw[g a f];exact k);exact absurd ⟨c,d,by rw[g c j];exact l,.inl (by rw[g a f,g c j];exact e.symm)⟩ this.1
theorem ZtG(p:Whole n)(y:JO n){l:Zu}{i c:Nat}(M:l.1.2.2.1=(i:Int))(N:l.1.2.2.2.1=(c:Int)):((HS n l).map (wL n q)).sum<=gW (KV q l) * (if c+1=(Zw n i).length then 5*Jk n i else 0):=by
 by_cases m:∃a,∃e:a<n.2.2.2.1.length,De n l n.2.2.2.1[a]
 ·obtain⟨a,e,s⟩:=m;unfold HS;rw[Zgf,ZcH];refine Vj (Zhx (j:=a) fun b z u=>?_) ?_
  ·rw[Vc z];show ((Ht n l n.2.2.2.1[b]).map (wL n q)).sum=0;unfold Ht;rw[Zg]
   ·rfl
   ·intro g;exact u (ZtH p z e g.1 s.1 (g.2.1.trans s.2.1.symm))
  ·rw[Vc e];show ((Ht n l n.2.2.2.1[a]).map (wL n q)).sum<=_;obtain⟨r,d,j,C,R,I,Q,J,_,P,H,_,v⟩:=p.ok.link _ (Vh e);have o:=Vh e;generalize n.2.2.2.1[a]=k at*;subst I;obtain⟨w,x,c3,A,B⟩:=s;simp only at w x c3;subst w;have E:r=i:=by omega
   have D:d=c:=by omega
   subst E D;obtain⟨G,O⟩:=v rfl;rw[Zo G];unfold Ht;rw[Zo ⟨rfl,x,c3,A,B⟩];simp only[Ve];refine Vj (Zmp ..) (Vj (Zkp (KV q l) j 0) (Vga _ ?_));have f:isLink n r d j C true:=o;have t:j<7:=by have:=y.runs;omega
   have:=ZlL p t (Zmf p f);have:=y.calls j J;omega
 ·have:HS n l=[]:=by unfold HS;rw[List.flatMap_eq_nil_iff];intro k K;obtain⟨a,e,rfl⟩:=Vs K;unfold Ht;rw[Zg (fun h=>m ⟨a,e,h⟩)]
  rw[this];exact Vba _
theorem Zub(f:Whole n)(e:JO n){l:Zu}(o:LV F hF n q l):1+((JJ n q l).map (wL n q)).sum<=wL n q l:=by
 have h:=o.rides.2;unfold JJ;by_cases a:l.1.1=1
 ·rw[Zo a];obtain⟨i,c,j,k,u,t,_⟩:=o.kind a;have w:=ZtG (q:=q) f e j k
  have b:wL n q l=gW (KV q l) * (1+if c+1=(Zw n i).length then 5*Jk n i else 0):=by unfold wL;rw[Zo a,j,k,Ve,Ve];rfl
  have g:=ZfG (n:=n) (q:=q) (l:=XR l) h (l.2.1+XN n l.1.2.1);have m:=ZmP (n:=n) (q:=q) (XR l);have s:=ZkN f e (KV q l) l.1.2.1;have p:KV q (XR l)=KV q l:=rfl;have r:(XR l).1.2.1=l.1.2.1:=rfl;rw[p,r]at g m;rw[b,Nat.mul_add,Nat.mul_one,Vp,Vea];have v:=ZjP (KV q l);split
  ·rw[Vp,Vea];omega
  ·simp only[Vpa,Vqa];omega
 ·rw[Zg a];by_cases d:l.1.1=2
  ·rw[Zo d];have g:=ZfG (n:=n) h l.2.1;have b:wL n q l=1+rW n (KV q l) l.1.2.1:=by unfold wL;rw[Zg a,Zo d]
   rw[b];omega
  ·rw[Zg d]
   have g:=ZfG (n:=n) h (l.2.1+(if q.2.2.2.2.2.2.2.2.2.1=true then XN n l.1.2.1 else 0))
   have m:=ZmP (n:=n) (q:=q) l;have s:=ZkN f e (KV q l) l.1.2.1;have b:wL n q l=gW (KV q l):=by unfold wL;rw[Zg a,Zg d]
   rw[b,Vp,Vea];omega
theorem Zuf{l:Zu} :1<=wL n q l:=by
 unfold wL Ru;have:=ZjP (KV q l);split
 ·exact Vj (show 1<=gW (KV q l) *1 by omega) (Vga _ (by omega))
 ·split<;>omega
theorem ZjR(l:Zu)(i b c:Nat)(st:Bool)(v:ZK):hL n q (Xw n l i b c st v)=20*KV q l+(10+Jk n i):=by unfold hL Xw KV;simp only[if_true,Ve]
theorem ZfH{l:Zu}(f:l.2.2.1<=q.2.2.2.2.1){fr:Int}{x:Zu}(b:x∈YU n q l fr):hL n q x+3<=20*KV q l/\x.2.2.2.2.2.1.length=l.2.2.2.2.2.1.length+1:=by
 obtain⟨i,c,d,_,_,_,_,a,_,rfl⟩:=Dp.1 b;rw[ZjR];have:=ZsO (n:=n) i
 have e:KV q l=KV q (Xe n l i c)+1:=by unfold KV Xe;simp only;omega
 refine⟨by omega,?_⟩;show (WW _ _++[_]).length=_;rw[Vi,Zin];rfl
theorem ZmR{l:Zu}{x:Zu}(a:x∈HX n q l):hL n q x=20*KV q l+5/\x.2.2.2.2.2.1.length=l.2.2.2.2.2.1.length+1:=by obtain⟨p,_,_,rfl⟩:=Rf.1 a;exact⟨rfl,by show (_++[_]).length=_;simp⟩
theorem ZmM(h:Whole n)(B:JO n){l:Zu}(u:LV F hF n q l){x:Zu}(a:x∈JJ n q l):hL n q x<hL n q l/\x.2.2.2.2.2.1.length=l.2.2.2.2.2.1.length+1:=by
 have f:=u.rides.2;unfold JJ at a;by_cases e:l.1.1=1
 ·rw[Zo e]at a;obtain⟨i,c,z,D,H,E,_⟩:=u.kind e;have m:hL n q l=20*KV q l+(10+Jk n i):=by unfold hL;rw[Zo e,z,Ve]
  have s:KV q (XR l)=KV q l:=rfl;rcases Vd.1 a with a|a
  ·obtain⟨k,t,⟨p,v,_⟩,d,_,G,_,rfl⟩:=ZaZ.1 a;obtain⟨r,y,j,w,J,C,f,I,_⟩:=h.ok.link _ t;subst C;simp only at p v;subst p;have A:r=i:=by omega
   subst A;have b:isLink n r y j w true:=t;have o:j<7:=by have:=B.runs;omega
   have:=ZlL h o (Zmf h b);rw[ZjR,m];simp only[Ve];exact⟨by omega,by show (_++[_]).length=_;simp⟩
  ·split at a
   ·rcases Vd.1 a with a|a
    ·have:=ZfH (n:=n) (q:=q) (l:=XR l) f a;rw[s]at this;exact⟨by omega,this.2⟩
    ·have:=ZmR (n:=n) (q:=q) (l:=XR l) a;rw[s]at this;exact⟨by omega,this.2⟩
   ·simp at a
 ·rw[Zg e]at a;by_cases g:l.1.1=2
  ·rw[Zo g]at a;have:=ZfH f a;have m:hL n q l=20*KV q l+5:=by unfold hL;rw[Zg e,Zo g]
   exact⟨by omega,this.2⟩
  ·rw[Zg g]at a;have m:hL n q l=20*KV q l+19:=by unfold hL;rw[Zg e,Zg g]
   rcases Vd.1 a with a|a
   ·have:=ZfH f a;exact⟨by omega,this.2⟩
   ·have:=ZmR a;exact⟨by omega,this.2⟩
end Q
namespace Q
open Tr Go
variable {F:Ke}{hF:FO F}{n:Zf}{q:Zq}
open Classical in
noncomputable def ZV(l:Zu):Zu:=if l.1.1=1 then XR l else l
noncomputable def Xu(n:Zf)(q:Zq)(l:Zu):Int:=if l.1.1=1 then l.2.1+XN n l.1.2.1 else if l.1.1=2 then l.2.1 else l.2.1+(if q.2.2.2.2.2.2.2.2.2.1=true then XN n l.1.2.1 else 0)
theorem Y1{l x:Zu} :x∈JJ n q l↔(l.1.1=1/\x∈HS n l)\/((l.1.1=1->Xq n l=true)/\x∈YU n q (ZV l) (Xu n q l))\/((l.1.1=1->Xq n l=true)/\l.1.1≠2/\x∈HX n q (ZV l)):=by
 unfold JJ ZV Xu
 grind
theorem ZaG(l:Zu):(ZV l).1=l.1/\(ZV l).2.1=l.2.1/\(ZV l).2.2.1=l.2.2.1/\(ZV l).2.2.2.1=l.2.2.2.1/\(ZV l).2.2.2.2.2.1=l.2.2.2.2.2.1:=by
 unfold ZV
 split<;>exact⟨rfl,rfl,rfl,rfl,rfl⟩
def ZaW(rode:Bool):List Zs->Bool
 |[]=>rode
 |x::l=>ZaW x.1 l
theorem Zkl(rode:Bool)(L:List Zs)(x:Zs):ZaW rode (L++[x])=x.1:=by
 induction L generalizing rode with
 |nil=>rfl
 |cons y L a=>exact a _
theorem Zcw{n:Zf}{x:Zs} :∀{L:List Zs}{rode:Bool}{out o:List ZK},K5 n L rode out=(o,0)->K5 n (L++[x]) rode out=K5 n [x] (ZaW rode L) o
 |[],rode,out,o,h=>by
  have:out=o:=(Vv h).1
  subst this;rfl
 |y::L,rode,out,o,h=>by
  rw[List.cons_append,Gq];rw[Gq]at h;by_cases a:y.1=true/\Ks n y=false
  ·grind
  rw[Zg a]at h⊢;by_cases b:Kw y=true/\(y.1=false\/rode=false)
  ·grind
  rw[Zg b]at h⊢;by_cases c3:y.1=true
  ·rw[Zo c3]at h⊢;rw[Zcw h];show _=K5 n [x] (ZaW y.1 L) o
   grind
  ·rw[Zg c3]at h⊢;rw[Zcw h];show _=K5 n [x] (ZaW y.1 L) o
   grind
theorem ZjQ(s t a b:Int)(rode:Bool)(out:List ZK):K5 n [KM s t a b] rode out=(out,0):=by rfl
theorem ZgH{i b c:Nat}(st:Bool)(f:i<n.2.2.1.length)(d:b<c)(e:c<(Zw n i).length):Ks n (ZY n i b c st)=true:=by
 unfold Ks;have a:ZT (ZY n i b c st).2.1 n.2.2.1.length=true:=by show ZT (i:Int) _=true;unfold ZT;grind
 rw[a];show (true&& (decide (0<=(b:Int)) && (decide ((b:Int)<(c:Int)) &&decide ((c:Int)<((Zw n i).length:Int)))))=true
 grind
theorem ZqN(a:Wa n){i b c:Nat}(j:i<n.2.2.1.length)(g:b<c)(h:c<(Zw n i).length)(rode:Bool)(out:List ZK):K5 n [ZY n i b c false] rode out=(out++[GY n (Rh (Zk n i b).2.2.1) (ZY n i b c false)],0):=by
 have d:=ZgH (n:=n) false j g h;rw[Gq,Zg (by grind),Zg (by simp [ZY,Kw]),Zo (by rfl),Zg (by simp [ZY,Kw])];show (out++[Xi n (ZY n i b c false)],(0:Int))=_
 have e:Xi n (ZY n i b c false)=GY n (Rh (Zk n i b).2.2.1) (ZY n i b c false):=by obtain⟨_,_,k,f⟩:=Zal a d;unfold Xi GY Rh;have z:(0:Int)=((0:Nat):Int):=rfl;simp only;rw[z,HO (by omega) (ZcS a d),HO (by omega) (Y2 f),Nat.zero_or,Nat.zero_or];rfl
 rw[e]
theorem ZqO{i b c:Nat}(g:i<n.2.2.1.length)(d:b<c)(f:c<(Zw n i).length)(out:List ZK)(v:ZK):K5 n [ZY n i b c true] true (out++[v])=(out++[GY n v (ZY n i b c true)],0):=by
 have k:=ZgH (n:=n) true g d f;rw[Gq,Zg (by grind),Zg (by simp [ZY]),Zo (by rfl),Zo (by rfl)];show (XL n _ _,(0:Int))=_
 have e:XL n (ZY n i b c true) (out++[v])=out++[GY n v (ZY n i b c true)]:=by
  have j:(out++[v])[(out++[v]).length - 1]? =some v:=by simp
  have a:XL n (ZY n i b c true) (out++[v])=X1 n (ZY n i b c true) (out++[v]) v:=by unfold XL;simp
  rw[a];unfold X1;have h:(out++[v]).length - 1=out.length:=by simp
  rw[h,List.set_append_right _ _ (Vl _),Nat.sub_self];rfl
 rw[e]
theorem ZsG(a:W2 n){i b c:Nat}(st:Bool)(e:i<n.2.2.1.length)(j:b<c)(d:c<(Zw n i).length){v:ZK}(f:Small v)(k:J9 v.1):Yn (GY n v (ZY n i b c st)):=by have g:=ZgH (n:=n) st e j d;obtain⟨_,_,l,h⟩:=Zal a.sound g;have p:=ZcS a.sound g;have m:=Y2 h;have o:=a.time e d;exact⟨⟨Zem f.1 (by omega),Zem f.2 (by grind)⟩,k,by show 0<=(Zk n i c).2.1;omega,by show (Zk n i c).2.1<=_;omega⟩
structure LI (F:Ke) (hF:FO F) (n:Zf) (q:Zq) (l:Zu):Prop where
 val:LV F hF n q l
 cnt:((Wp l.2.2.2.2.1).length:Int)+(if l.1.1=1 then 1 else 0)=l.2.2.1
 ht:l.2.2.2.2.2.1.length+hL n q l<=79
 zero:l.1.1=0->l.2.2.2.2.2.1=[]/\l.2.2.1=0/\l.2.2.2.1=0/\l.2.1=q.2.2.1
 kinds:l.1.1=0\/l.1.1=1\/l.1.1=2
 rgo:K5 n l.2.2.2.2.2.1 false []=(Wp l.2.2.2.2.1++(if l.1.1=1 then [l.1.2.2.2.2.1] else []),0)
 rode:ZaW false l.2.2.2.2.2.1=decide (l.1.1=1)
 wlk:We l.2.2.2.2.2.1=l.2.2.2.1
 lok:∀x∈l.2.2.2.2.2.1,Hx x
 last:∀L x,l.2.2.2.2.2.1=L++[x]->x.2.2.2.2.2.2.2.1=l.2.1
 some:l.1.1≠0->l.2.2.2.2.2.1≠ []
 adj:∀x,l.2.2.2.2.2.1=[x]->x.1=false->x.2.2.2.2.2.2.1<=x.2.2.2.2.2.2.2.1/\x.2.2.2.2.2.2.2.1<=x.2.2.2.2.2.2.1+14400/\Kw x=false
theorem Zjb(h:QI q){l:Zu}(a:LI F hF n q l):LV F hF n q (ZV l)/\K5 n l.2.2.2.2.2.1 false []=(Wp (ZV l).2.2.2.2.1,0)/\((Wp (ZV l).2.2.2.2.1).length:Int)=l.2.2.1:=by
 have m:=a.val.rides;have k:=h.rides;have f:=a.cnt;have b:=a.rgo;unfold ZV;by_cases c:l.1.1=1
 ·rw[Zo c]at f b⊢;have d:(Wp l.2.2.2.2.1).length+1<=8:=by omega
  have j:=a.val.next c d
  obtain⟨_,g,_⟩:=Zcu a.val c d;have e:Wp (XR l).2.2.2.2.1=Wp l.2.2.2.2.1++[l.1.2.2.2.2.1]:=Zen g
  grind
 ·rw[Zg c]at f b⊢;rw[Vr]at b;exact⟨a.val,b,by omega⟩
theorem ZqM(L:List Zs)(d:Int)(rode:Bool)(out:List ZK)(h:∀x,L=[x]->x.1=false->Kw x=false):K5 n (WW L d) rode out=K5 n L rode out:=by
 match L with
 |[]=>rfl
 |[x]=>
  cases a:x.1 with
  |true=>rw[ZbF a]
  |false=>
   have b:=h x rfl a;rw[RJ a,Gq,Gq]
   grind
 |x::y::L=>rfl
theorem Zkq(r:Whole n)(w:JO n){l x:Zu}(m:LI F hF n q l)(G:x∈JJ n q l){p:Zu}{i b c:Nat}{st:Bool}{v:ZK}(g:i<n.2.2.1.length)(z:b<c)(f:c<(Zw n i).length)
 (ex:x=Xw n p i b c st v) (C:XG F hF p) (D:0<=p.2.2.1/\p.2.2.1<=q.2.2.2.2.1) (e:((Wp p.2.2.2.2.1).length:Int)+1=p.2.2.1) (u:p.2.2.2.1=l.2.2.2.1) (o:We p.2.2.2.2.2.1=l.2.2.2.1)
 (k:K5 n (p.2.2.2.2.2.1++[ZY n i b c st]) false []=(Wp p.2.2.2.2.1++[GY n v (ZY n i b c st)],0)) (t:∀y∈p.2.2.2.2.2.1,Hx y) (E:Small v) (A:J9 v.1):LI F hF n q x:=by
 have j:=r.ok;obtain⟨H,I⟩:=ZmM r w m.val G;have B:=m.ht;have J:=j.time g f;subst ex;have s:(Xw n p i b c st v).2.2.2.2.2.1.length<=79:=by omega
 refine⟨⟨C,by omega,D,by show 0<=p.2.2.2.1/\p.2.2.2.1<=_;rw[u];exact m.val.walk,⟨by show 0<=(Zk n i c).2.1;omega,by show (Zk n i c).2.1<=_;omega⟩,j.stop g f,fun _=>⟨i,c,rfl,rfl,g,f,rfl,rfl,ZsG j st g z f E A⟩,?_⟩,e,by omega,fun h=>absurd h (by show¬(1:Int)=0;decide),.inr (.inl rfl),k,?_,?_,?_,?_,by grind,?_⟩
 ·intro y a d;have:=Vla.1 (by assumption);rcases this with ⟨_,h⟩|⟨_,h⟩
  ·have:y=ZY n i b c st:=(Vab.1 h).symm;subst this;cases d
  grind
 ·exact Zkl _ _ _
 ·show We (p.2.2.2.2.2.1++[ZY n i b c st])=p.2.2.2.1;rw[ZcN,o,u]
  have:We [ZY n i b c st]=0:=by rfl
  omega
 ·intro y a;rcases Vd.1 (by assumption) with a|a
  ·grind
  ·rw[Vb]at a;subst a;show (Zk n i c).2.1<=_;omega
 ·intro L y a;have:=Vdb (show p.2.2.2.2.2.1++[ZY n i b c st]=L++[y] from a) rfl;have:y=ZY n i b c st:=by grind
  subst this;rfl
 ·intro y a d;rcases Vla.1 (by assumption) with ⟨_,h⟩|⟨_,h⟩
  ·have:y=ZY n i b c st:=(Vab.1 h).symm;subst this;cases d
  grind
theorem ZqG(b:W2 n){l:Zu}(a:LV F hF n q l):l.2.1<=Xu n q l:=by have:=b.change _ a.stop.1 a.stop.2;unfold Xu XN;omega
theorem ZiV(b:W2 n){l:Zu}(d:LV F hF n q l){i c:Nat}(h:GQ n (ZV l) (Xu n q l) i c):l.2.1<=(Zk n i c).2.2.1:=by
 have e:=ZqG b d;have f:=(ZaG l).2.1;rcases h.2.2.2.2 with a|a
 all_goals omega
theorem Zkr(D:Whole n)(H:JO n)(Z:QI q){l x:Zu}(b:LI F hF n q l)(G:x∈JJ n q l):LI F hF n q x:=by
 have s:=D.ok;obtain⟨P,W,c3⟩:=Zjb Z b;obtain⟨s1,s2,V,O,s5⟩:=ZaG l;rcases Y1.1 G with ⟨N,hs⟩|⟨_,hb⟩|⟨_,k2,hw⟩
 ·obtain⟨k,hk,⟨_,_,_,a0,C⟩,d,Q,A,_,ex⟩:=ZaZ.1 hs;obtain⟨r,d0,j,d',sy,he,hr,T,_⟩:=s.link _ hk;subst he;simp only[Ve]at*;obtain⟨_,_,_,_,_,_,_,_,o⟩:=b.val.kind N;have E:=b.rgo;have B:=b.rode;have v:=b.cnt;rw[Zo N]at E v;rw[Ze N]at B;refine Zkq D H b G T Q A ex b.val.fare b.val.rides v rfl b.wlk ?_ b.lok o.1 o.2.1;rw[Zcw E,B];exact ZqO T Q A _ _
 ·obtain⟨i,c,d,I,u,A,t,J,_,ex⟩:=Dp.1 hb;have C:=ZiV s b.val t;have hc:c<(Zw n i).length:=by omega
  have ht:=s.time I hc;rw[V]at J;have a5:=b.val.rides
  have f:(Xe n (ZV l) i c).2.2.2.2.2.1=WW l.2.2.2.2.2.1 (Zk n i c).2.2.1:=by
   show WW (ZV l).2.2.2.2.2.1 _=_
   grind
  have M:∀y,l.2.2.2.2.2.1=[y]->y.1=false->Kw y=false:=fun y R S=>(b.adj y R S).2.2;refine Zkq (p:=Xe n (ZV l) i c) D H b G I u A ex P.fare ⟨?_,?_⟩ ?_ O ?_ ?_ ?_ (ZkK _) ⟨by show 0<=(Zk n i c).2.2.1;omega,by show (Zk n i c).2.2.1<=_;omega⟩
  ·show 0<=(ZV l).2.2.1+1;omega
  ·show (ZV l).2.2.1+1<=_;omega
  ·show ((Wp (ZV l).2.2.2.2.1).length:Int)+1=(ZV l).2.2.1+1;omega
  ·rw[f, <-b.wlk]
   match hL:l.2.2.2.2.2.1 with
   |[]=>rfl
   |[y]=>
    cases a:y.1 with
    |true=>rw[ZbF a]
    |false=>
     obtain⟨a1,a2,a3⟩:=b.adj y hL a
     obtain⟨X,f2⟩:=b.val.first y hL a
     rw[RJ a];unfold We HW;simp only[Vn,Vpa,Vu,Vqa,a];have Y:0<=y.2.2.2.2.2.2.1:=X.1
     grind
   |y::z::L=>rfl
  ·rw[f];have E:K5 n (WW l.2.2.2.2.2.1 (Zk n i c).2.2.1) false []=(Wp (ZV l).2.2.2.2.1,0):=by rw[ZqM _ _ _ _ M];omega
   rw[Zcw E];exact ZqN s.sound I u A _ _
  ·rw[f];intro y a
   match hL:l.2.2.2.2.2.1 with
   |[]=>rw[hL]at a;cases a
   |[z]=>
    rw[hL]at a
    cases U:z.1 with
    |true=>
     rw[ZbF U,Vb]at a;subst a
     exact b.lok _ (by grind)
    |false=>
     rw[RJ U,Vb]at a;subst a;show (Zk n i c).2.2.1<=_
     omega
   |z::w::L=>
    rw[hL]at a;exact b.lok _ (by rw[hL];assumption)
 ·obtain⟨p,hp,⟨w1,w2,w3⟩,ex⟩:=Rf.1 hw;rw[O]at w2;rw[s2]at w3;rw[s1]at w1;obtain⟨R,S⟩:=ZmM D H b.val G;have a4:=b.ht;have K:=s.path p hp;have C:=b.val.time;have a6:=b.val.walk;subst ex
  have e:(XP (ZV l) p).2.2.2.2.2.1=l.2.2.2.2.2.1++[KM l.1.2.1 p.2.1 l.2.1 (l.2.1+p.2.2.1)]:=by
   show (ZV l).2.2.2.2.2.1++[KM (ZV l).1.2.1 p.2.1 (ZV l).2.1 ((ZV l).2.1+p.2.2.1)]=_
   grind
  have m:(XP (ZV l) p).2.1=l.2.1+p.2.2.1:=by show (ZV l).2.1+_=_;omega
  have g:∀y,(XP (ZV l) p).2.2.2.2.2.1=[y]->y=KM l.1.2.1 p.2.1 l.2.1 (l.2.1+p.2.2.1):=by grind
  refine⟨⟨P.fare,by omega,?_,?_,?_,K.2.1,fun h=>absurd h (by show¬(2:Int)=1;decide),?_⟩,?_,by omega,fun h=>absurd h (by show¬(2:Int)=0;decide),.inr (.inr rfl),?_,?_,?_,?_,?_,by grind,?_⟩
  ·show 0<=(ZV l).2.2.1/\(ZV l).2.2.1<=_;rw[V];exact b.val.rides
  ·show 0<=(ZV l).2.2.2.1+p.2.2.1/\(ZV l).2.2.2.1+p.2.2.1<=_;omega
  ·omega
  ·intro y a _;rw[g y a,m];exact⟨⟨by show 0<=l.2.1;omega,by show l.2.1<=_;omega⟩,rfl⟩
  ·show ((Wp (ZV l).2.2.2.2.1).length:Int)+(if (2:Int)=1 then 1 else 0)=(ZV l).2.2.1
   omega
  ·rw[e,Zcw W,ZjQ]
   show _=(Wp (ZV l).2.2.2.2.1++(if (2:Int)=1 then _ else []),(0:Int))
   simp
  ·rw[e,Zkl];rfl
  ·rw[e,ZcN,b.wlk];show _=(ZV l).2.2.2.1+p.2.2.1;rw[O]
   have:We [KM l.1.2.1 p.2.1 l.2.1 (l.2.1+p.2.2.1)]=p.2.2.1:=by
    unfold We HW KM
    grind
   omega
  ·rw[e];intro y a;rcases Vd.1 a with a|a
   ·exact b.lok y a
   ·rw[Vb]at a;subst a;show l.2.1+p.2.2.1<=_;omega
  ·intro L y a;rw[e]at a;have:=Vdb a rfl;have:y=KM l.1.2.1 p.2.1 l.2.1 (l.2.1+p.2.2.1):=by grind
   subst this;rw[m];rfl
  ·intro y a _;rw[g y a];exact⟨by show l.2.1<=l.2.1+p.2.2.1;omega,by show l.2.1+p.2.2.1<=l.2.1+14400;omega,rfl⟩
theorem ZmN(c:Whole n)(b:JO n)(a:QI q){l:Zu}(d:LI F hF n q l):∀x∈JJ n q l,XG F hF x:=fun _ e=>(Zkr c b a d e).val.fare
end Q
namespace Q
open Tr Go
variable {F:Ke}{hF:FO F}{n:Zf}{q:Zq}
theorem Zja(v:QI q){a b:Zu}(f:LI F hF n q a)(g:LI F hF n q b)(h:Jy F hF a b):Jy F hF (ZV a) (ZV b):=by
 obtain⟨e,j,k,l,m⟩:=h;unfold ZV;by_cases d:a.1.1=1
 ·have c:b.1.1=1:=by grind
  rw[Zo d,Zo c];refine⟨e,j,k,l,?_⟩;have w:=v.rides;have o:=f.cnt;have x:=f.val.rides;have p:=g.cnt;have y:=g.val.rides;rw[Zo d]at o;rw[Zo c]at p;obtain⟨_,t,_⟩:=Zcu f.val d (by omega);obtain⟨_,u,_⟩:=Zcu g.val c (by omega);have r:Wp (XR a).2.2.2.2.1=Wp a.2.2.2.2.1++[a.1.2.2.2.2.1]:=Zen t;have s:Wp (XR b).2.2.2.2.1=Wp b.2.2.2.2.1++[b.1.2.2.2.2.1]:=Zen u;rw[r,s,e,Vp,Vp];exact m.snoc (Kn b.1.2.2.2.2.1)
 ·have c:¬b.1.1=1:=by grind
  rw[Zg d,Zg c];exact⟨e,j,k,l,m⟩
theorem Zua(Z:W2 n)(E:QI q){a b x:Zu}(G:LI F hF n q a)(u:LI F hF n q b)(h:Jy F hF a b)(V:x∈JJ n q b):∃y∈JJ n q a,Jy F hF y x:=by
 have J:=Zja E G u h;obtain⟨Y,A,B,C,D⟩:=h;have H:Xq n a=Xq n b:=by unfold Xq;grind
 have K:Xu n q a<=Xu n q b:=by
  unfold Xu
  grind
 obtain⟨W,X,c3,w,r⟩:=J;rcases Y1.1 V with ⟨v,T⟩|⟨v,j⟩|⟨v,k2,U⟩
 ·obtain⟨k,N,⟨e,f,s,g,t⟩,d,z,m,o,rfl⟩:=ZaZ.1 T;refine⟨Xw n a k.2.2.1.toNat 0 d true a.1.2.2.2.2.1,Y1.2 (.inl ⟨by grind,ZaZ.2 ⟨k,N,⟨e,by grind,by grind,g,Vkb A t⟩,d,z,m,o,rfl⟩⟩),?_⟩;refine⟨?_,Vsa _,B,C,D⟩;show (_,_)=(_,_)
  grind
 ·obtain⟨i,c,d,M,l,m,⟨e,f,s,g,t⟩,P,o,rfl⟩:=Dp.1 j;have O:Gk n (ZV a) i c=Gk n (ZV b) i c:=by unfold Gk;grind
  have S:=(ZaG b).2.2.1;have R:=(ZaG a).2.2.1;have I:=u.val.rides;refine⟨Xw n (Xe n (ZV a) i c) i c d false (Rh (Zk n i c).2.2.1),Y1.2 (.inr (.inl ⟨by grind,Dp.2 ⟨i,c,d,M,l,m,⟨e,f,by grind,g,?_⟩,?_,o,rfl⟩⟩)),?_⟩
  ·grind
  ·omega
  ·exact⟨rfl,Vsa _,by show (ZV a).2.2.1+1<=(ZV b).2.2.1+1;omega,w,r⟩
 ·obtain⟨p,Q,⟨e,f,s⟩,rfl⟩:=Rf.1 U;refine⟨XP (ZV a) p,Y1.2 (.inr (.inr ⟨by grind,by grind,Rf.2 ⟨p,Q,⟨by grind,by omega,by omega⟩,rfl⟩⟩)),?_⟩;exact⟨rfl,by show (ZV a).2.1+_<=(ZV b).2.1+_;omega,c3,by show (ZV a).2.2.2.1+_<=(ZV b).2.2.2.1+_;omega,r⟩
end Q
namespace Q
open Tr Go
variable {F:Ke}{hF:FO F}{n:Zf}{q:Zq}
inductive Rc (n:Zf) (q:Zq) (s0:Zu):Zu->Prop
 |start:Rc n q s0 s0
 |step {l x:Zu} (h:Rc n q s0 l) (hx:x∈JJ n q l):Rc n q s0 x
theorem Rc.li(d:Whole n)(c:JO n)(b:QI q){s0 l:Zu}(a:LI F hF n q s0)(h:Rc n q s0 l):LI F hF n q l:=by
 induction h with
 |start=>exact a
 |step _ e f=>exact Zkr d c b f e
structure Zfa (F:Ke) (hF:FO F) (n:Zf) (q:Zq) (s0:Zu) (st:Wf) (N:Nat):Prop where
 good:Xm F hF n q st N
 pot:N+((Xy st).map fun l=>wL n q l - 1).sum<=542198816521
 cnt:st.2.2.2.2.1.length+(Xy st).length<=N
 lab:∀p o,o∈Jv st p->Rc n q s0 o/\(o∈Xy st\/((∀c∈JJ n q o,∃o' ∈Jv st c.1,Jy F hF o' c)/\ ∀x∈Jx n q o,x∈st.2.2.2.2.1))
 que:∀o∈Xy st,o∈Jv st o.1
 opt:∀x∈st.2.2.2.2.1,∃l,Rc n q s0 l/\x∈Jx n q l
 first:∃o∈Jv st s0.1,Jy F hF o s0
theorem Zt8(l:Zu):(Jx n q l).length<=1:=by
 unfold Jx Za4;split
 ·split
  ·split<;>simp
  ·simp
 ·simp
theorem Zhy(w:Zu->Nat)(h:∀l,1<=w l)(ls:List Zu):ls.length+(ls.map fun l=>w l - 1).sum=(ls.map w).sum:=by
 induction ls with
 |nil=>rfl
 |cons x ls a=>
  have:=h x;simp only[Vnb,Vn,Vu];omega
theorem Zrk(w:Zu->Nat)(h:∀l,1<=w l)(ls:List Zu):ls.length<=(ls.map w).sum:=by have:=Zhy w h ls;omega
theorem Zs4(O:Whole n)(hT:JO n)(M:QI q)(b0:q.2.2.2.2.1<=3)(hp:n.2.2.2.2.1.length<=4096)(P:∀l,LI F hF n q l->∃r,F78 n q (l.2.2.2.2.2.1,())=some r){s:JN}(c0:Int)
 (Y:LI F hF n q ((0,q.1,0,0,(0,0,0,0,()),()),q.2.2.1,0,0,s,[],())):
 ∃a,F182 (n,q,[],((),[],c0,()),[],()) s=some a/\a.2.2.2.2.1.length<=542198816521/\(∀x∈a.2.2.2.2.1,∃l,Rc n q ((0,q.1,0,0,(0,0,0,0,()),()),q.2.2.1,0,0,s,[],()) l/\x∈Jx n q l)/\
  ∀l,Rc n q ((0,q.1,0,0,(0,0,0,0,()),()),q.2.2.1,0,0,s,[],()) l->∃o,Rc n q ((0,q.1,0,0,(0,0,0,0,()),()),q.2.2.1,0,0,s,[],()) o/\Jy F hF o l/\ ∀x∈Jx n q o,x∈a.2.2.2.2.1:=by
 have hN:=O.ok;generalize U:(((0,q.1,0,0,(0,0,0,0,()),()),q.2.2.1,0,0,s,[],()):Zu)=s0 at Y⊢;have v:∀p,Jv ((n,q,[],((),[],c0,()),[],()):Wf) p=[]:=fun _=>rfl;have a6:Xm F hF n q (n,q,[],((),[],c0,()),[],()) 0:=⟨rfl,rfl,fun p o e=>absurd e (by rw[v];simp),fun p=>(by rw[v];simp),(by simp [Xy])⟩;obtain⟨st1,a1,sub,b1,b2,b3,⟨b4,b5,b6⟩,b7,b8,b9,a5⟩:=Zfp a6 Y.val.fare (by omega);have D:∀l,1<=wL n q l:=fun l=>Zuf
 have c9:wL n q s0<=542198816521:=by
  have:wL n q s0=gW (KV q s0):=by rw[<-U];unfold wL;rfl
  rw[this];have R:KV q s0<=3:=by rw[<-U];unfold KV;simp only;omega
  have t:∀k,gW k<=gW (k+1):=fun k=>by show gW k<=61+1260*gW k;omega
  have:gW (KV q s0)<=gW 3:=by
   generalize KV q s0=k at R;have h3:gW 0<=gW 1:=t 0;have h4:gW 1<=gW 2:=t 1;have h5:gW 2<=gW 3:=t 2
   rcases (show k=0\/k=1\/k=2\/k=3 by omega) with rfl|rfl|rfl|rfl<;>omega
  exact Vj this (by decide)
 have a8:Zfa F hF n q s0 st1 sub.length:=by
  have w:(Xy st1).Perm sub:=by
   have:=b3
   rwa [show Xy ((n,q,[],((),[],c0,()),[],()):Wf)=[] from rfl,Vr]at this
  refine⟨⟨b4,b5,fun p o e=>?_,fun p=>?_,by rw[w.length_eq];exact Vl _⟩,?_,?_,fun p o e=>?_,fun o e=>?_,?_,a5 _ (by simp)⟩
  ·rcases (b7 p o).1 e with h|⟨z,Z⟩
   ·rw[v]at h;cases h
   ·have:=b2 o z;rw[Vb]at this;subst this;exact⟨Z,Y.val.fare⟩
  ·have:=b8 p;rw[v]at this;simpa using this
  ·have:=(w.map fun l=>wL n q l - 1).sum_nat;rw[this,Zhy _ D];have:=b9 (wL n q);simp only[Vn,Vpa,Vu,Vqa]at this;omega
  ·rw[b6,w.length_eq];simp
  ·rcases (b7 p o).1 e with h|⟨z,Z⟩
   ·rw[v]at h;cases h
   ·have:=b2 o z;rw[Vb]at this;refine⟨by rw[this];exact .start,.inl (w.mem_iff.2 z)⟩
  ·exact(b7 _ _).2 (.inr ⟨w.mem_iff.1 e,rfl⟩)
  ·rw[b6];simp
 unfold F182;simp only;rw[U];refine Wo (fun x=>x=st1) ⟨_,a1,rfl⟩ ?_;rintro st1 rfl;refine run_bind (fun st=>∃N,Zfa F hF n q s0 st N) (fun st=>((Xy st).map (wL n q)).sum) (fun r=>∃N,Zfa F hF n q s0 r N/\Xy r=[]) ⟨_,a8⟩ ?_ ?_
 ·rintro ⟨sn,sq,sb,⟨⟨⟩,d,A,⟨⟩⟩,E,⟨⟩⟩ ⟨N,b⟩;obtain rfl:n=sn:=b.good.net.symm;obtain rfl:q=sq:=b.good.que.symm;have H:=b.pot;have G:E.length+(Xy ((n,q,sb,((),d,A,()),E,()):Wf)).length<=N:=b.cnt;have T:Xy ((n,q,sb,((),d,A,()),E,()):Wf)=d.map Via:=rfl;rw[T]at H G;rw[Vm]at G;have a2:F61 ((),d,A,())=some (((),d,A,()),(d.length:Int)):=rfl;simp only[a2,Za];by_cases S:d=[]
  ·right;subst S;refine⟨_,rfl,N,b,rfl⟩
  ·left;have a9:0<d.length:=Vya.2 S;rw[Ze (show (0:Int)<(d.length:Int) by omega),Zd];obtain⟨m,x,p1,p2⟩:=Zty (l:=d) (c:=A) S (by omega);have hx:x.1∈Xy ((n,q,sb,((),d,A,()),E,()):Wf):=Vda.2 ⟨x,p2.mem_iff.2 (by simp),rfl⟩;have Q:x.1∈Jv ((n,q,sb,((),d,A,()),E,()):Wf) x.1.1:=b.que _ hx;have j:LI F hF n q x.1:=((b.lab _ _ Q).1).li O hT M Y;have C:=p2.map (Via)
   have a3:((d.map Via).map (wL n q)).sum=wL n q x.1+((m.map Via).map (wL n q)).sum:=by have:=(C.map (wL n q)).sum_nat;rw[this];simp
   have W:((d.map Via).map fun l=>wL n q l - 1).sum=(wL n q x.1 - 1)+((m.map Via).map fun l=>wL n q l - 1).sum:=by have:=(C.map fun l=>wL n q l - 1).sum_nat;rw[this];simp
   have c4:d.length=m.length+1:=by have:=p2.length_eq;simpa using this
   have c8:=Zub O hT j.val;have c6:=Zrk (wL n q) D (JJ n q x.1);have d0:=D x.1;rw[W]at H
   have a7:Xm F hF n q ((n,q,sb,((),m,A,()),E,()):Wf) N:=by refine⟨rfl,rfl,b.good.lab,b.good.few,?_⟩;show (m.map Via).length<=N;rw[Vm];omega
   have a0:x.1.1.1=1->(Wp x.1.2.2.2.2.1).length+1<=8:=fun k1=>by have c1:=j.cnt;have c2:=j.val.rides;rw[Zo k1]at c1;omega
   obtain⟨a,v1,sub,d1,d2,d3,⟨d4,d5,d6⟩,d7,d8,d9,d10⟩:=Zuc hN M hp a7 j.val a0 (ZmN O hT M j) (P _ j) (by omega) (show E.length+1<=_ by omega);refine⟨a,?_,⟨N+sub.length,?_⟩,?_⟩
   ·refine KD (fun y=>y=(((),m,A,()),x.1,true)) ⟨_,p1,rfl⟩ ?_;rintro _ rfl;refine KD (fun y=>y=a) ⟨_,v1,rfl⟩ ?_;rintro _ rfl;rfl
   ·have f:(Xy a).Perm (sub++m.map Via):=d3;have V:=d9 (wL n q);have c5:=Zhy (wL n q) D sub;have c7:=Zt8 (n:=n) (q:=q) x.1;have g:∀p o,o∈Jv ((n,q,sb,((),d,A,()),E,()):Wf) p->o∈Jv a p:=fun p o e=>(d7 p o).2 (.inl e);have a4:(∀c∈JJ n q x.1,∃X∈Jv a c.1,Jy F hF X c)/\ ∀y∈Jx n q x.1,y∈a.2.2.2.2.1:=⟨d10,fun y hy=>by rw[d6];exact Vna _ hy⟩;refine⟨⟨d4,d5,fun p o e=>?_,fun p=>?_,?_⟩,?_,?_,fun p o e=>?_,fun o e=>?_,fun y hy=>?_,?_⟩
    ·rcases (d7 p o).1 e with h|⟨z,Z⟩
     ·exact b.good.lab p o h
     ·exact⟨Z,ZmN O hT M j o (d2 o z)⟩
    ·have e1:=d8 p;have e2:=b.good.few p;exact Vj e1 (Nat.add_le_add_right e2 _)
    ·rw[f.length_eq,Vi,Vm];omega
    ·have:=(f.map fun l=>wL n q l - 1).sum_nat;rw[this,Vp,Vea];omega
    ·rw[d6,Vi,f.length_eq,Vi,Vm];show E.length+_+_<=_;omega
    ·rcases (d7 p o).1 e with h|⟨z,Z⟩
     ·obtain⟨K,B⟩:=b.lab p o h;refine⟨K,?_⟩;rcases B with B|⟨B,g3⟩
      ·have g4:o∈d.map Via:=B;rw[C.mem_iff,Vn,Vja]at g4;rcases g4 with rfl|g4
       ·exact .inr a4
       ·exact .inl (f.mem_iff.2 (Vna _ g4))
      ·refine .inr ⟨fun c hc=>?_,fun y hy=>?_⟩
       ·obtain⟨X,I,J⟩:=B c hc;exact⟨X,g _ _ I,J⟩
       ·rw[d6];exact Vx _ (g3 y hy)
     ·exact⟨.step (b.lab _ _ Q).1 (d2 o z),.inl (f.mem_iff.2 (Vx _ z))⟩
    ·rcases Vd.1 (f.mem_iff.1 e) with h|h
     ·exact(d7 _ _).2 (.inr ⟨h,rfl⟩)
     ·refine g _ _ (b.que o ?_);show o∈d.map Via;rw[C.mem_iff,Vn];exact Vva _ h
    ·rw[d6]at hy;rcases Vd.1 hy with h|h
     ·exact b.opt y h
     ·exact⟨x.1,(b.lab _ _ Q).1,h⟩
    ·obtain⟨o,I,J⟩:=b.first
     exact⟨o,g _ _ I,J⟩
   ·have f:(Xy a).Perm (sub++m.map Via):=d3;have:=(f.map (wL n q)).sum_nat;rw[this,Vp,Vea];show _<((d.map Via).map (wL n q)).sum;rw[a3];have V:=d9 (wL n q);omega
 ·rintro r ⟨N,b,hq⟩;refine⟨_,rfl,?_,b.opt,?_⟩
  ·have z:=b.cnt;have Z:=b.pot;show r.2.2.2.2.1.length<=_;omega
  ·have u:∀p o,o∈Jv r p->Rc n q s0 o/\(∀c∈JJ n q o,∃X∈Jv r c.1,Jy F hF X c)/\ ∀x∈Jx n q o,x∈r.2.2.2.2.1:=fun p o e=>by obtain⟨K,B⟩:=b.lab p o e;refine⟨K,B.resolve_left ?_⟩;rw[hq];simp
   have key:∀l,Rc n q s0 l->∃o∈Jv r l.1,Jy F hF o l:=by
    intro l R
    induction R with
    |start=>exact b.first
    |step R hx ih=>
     rename_i l x;obtain⟨o,I,J⟩:=ih;obtain⟨K,B,_⟩:=u _ _ I;obtain⟨y,y1,y2⟩:=Zua hN M (K.li O hT M Y) (R.li O hT M Y) J hx;obtain⟨X,k1,k2⟩:=B y y1;exact⟨X,by rw[<-y2.1];exact k1,k2.trans y2⟩
   intro l R;obtain⟨o,I,J⟩:=key l R;obtain⟨K,_,g3⟩:=u _ _ I;exact⟨o,K,J,g3⟩
end Q
namespace Q
open Tr Go
def ZX(a b:List Int):Prop:= ∀i,i<4->(a[i]?).getD 0<=(b[i]?).getD 0
instance (a b:List Int):Decidable (ZX a b):=by unfold ZX;infer_instance
theorem Rb(a:List Int):ZX a a:=fun _ _=>Vsa _
theorem R9{a b c:List Int}(h:ZX a b)(k:ZX b c):ZX a c:=fun i d=>Vkb (h i d) (k i d)
theorem GS:∀a b:List Int,a.length=b.length->Tr.eqEl.eqs (Tr.eqEl (.int .i64)) a b=some (decide (a=b))
 |[],[],_=>rfl
 |[],_::_,h=>by cases h
 |_::_,[],h=>by cases h
 |x::a,y::b,h=>by have c:=GS a b (by grind);unfold Tr.eqEl.eqs;rw[c];simp only[Tr.eqEl,Za];simp
theorem GM{a:List Int}(h:a.length=4){i:Nat}(b:i<4):∃x,a[i]? =some x/\(a[i]?).getD 0=x:=by grind
theorem ZpN{W:List (List Int)}(p:∀w∈W,w.length=4){v:List Int}(A:v.length=4)(I:W.length<=9223372036854775806):∃b,F104 W v=some b/\(b=true↔∃w∈W,ZX w v):=by
 unfold F104;refine Wo (fun r:Bool=>r=true↔∃w∈W,ZX w v) ?_ (by simp);refine Kf W.length _ (fun i (s:Bool×Int)=>s=(false,(i:Int))/\ ∀w∈W.take i,¬ZX w v) ?_ ?_ _ (by simp)
 ·rintro i _ a ⟨rfl,J⟩;have e:idx W (i:Int)=some W[i]:=ZA a;have B:=p _ (Vh a);have y:=Vh a;have z:∀w,w∈W.take (i+1)↔w∈W.take i\/w=W[i]:=fun w=>by rw[Va a,Vd,Vb]
  generalize W[i]=w at*;simp only[ZL a,Zd,e,Za]
  suffices t:∃r:Unit ⊕ Unit,_=some r/\((r=.inr ()/\ZX w v)\/(r=.inl ()/\ ¬ZX w v)) by
   obtain⟨r,f,l⟩:=t;rcases l with ⟨rfl,h⟩|⟨rfl,h⟩
   ·exact .inr ⟨true,KD (fun x=>x=Sum.inr ()) ⟨_,f,rfl⟩ (fun x e=>by subst e;rfl),fun _=>⟨w,y,h⟩,fun _=>rfl⟩
   ·refine .inl ⟨_,KD (fun x=>x=Sum.inl ()) ⟨_,f,rfl⟩ (fun x e=>by subst e;rfl),?_,fun u K=>?_⟩
    ·rw[ZU a (by omega)]
    grind
  refine Kf 4 (fun r:Unit ⊕ Unit=>(r=.inr ()/\ZX w v)\/(r=.inl ()/\ ¬ZX w v)) (fun j (s:Int)=>s=(j:Int)/\ ∀k,k<j->(w[k]?).getD 0<=(v[k]?).getD 0) ?_ ?_ _ (by simp)
  ·rintro j _ c ⟨rfl,d⟩;rw[Ze (by omega)];obtain⟨D,m,E⟩:=GM B c;obtain⟨C,o,G⟩:=GM A c;simp only[Zd,Kg c,Za,m,o];by_cases g:C<D
   ·rw[Ze g];exact .inr ⟨.inl (),rfl,.inr ⟨rfl,fun h=>by have:=h j c;omega⟩⟩
   ·rw[Zi g];refine .inl ⟨_,rfl,ZU c (by omega),fun k H=>?_⟩
    grind
  ·rintro _ ⟨rfl,d⟩;exact⟨.inr (),rfl,.inl ⟨rfl,d⟩⟩
 simp
theorem ZoN{a b:List Int}(o:a.length=4)(p:b.length=4):F107 a b=some (decide (ZX a b)):=by
 unfold F107
 suffices h:∃r:Unit ⊕ Bool,_=some r/\((r=.inl ()/\ZX a b)\/(r=.inr false/\ ¬ZX a b)) by
  obtain⟨r,f,g⟩:=h;rcases g with ⟨rfl,h⟩|⟨rfl,h⟩
  ·rw[Ze h];exact KD (fun x=>x=Sum.inl ()) ⟨_,f,rfl⟩ (fun x t=>by subst t;rfl)
  grind
 refine Kf 4 (fun r:Unit ⊕ Bool=>(r=.inl ()/\ZX a b)\/(r=.inr false/\ ¬ZX a b)) (fun j (s:Int)=>s=(j:Int)/\ ∀k,k<j->(a[k]?).getD 0<=(b[k]?).getD 0) ?_ ?_ _ (by simp)
 ·rintro j _ c ⟨rfl,d⟩;rw[Ze (by omega)];obtain⟨u,l,w⟩:=GM o c;obtain⟨v,m,y⟩:=GM p c;simp only[Zd,Kg c,Za,l,m];by_cases e:v<u
  ·rw[Ze e];exact .inr ⟨.inr false,rfl,.inr ⟨rfl,fun h=>by have:=h j c;omega⟩⟩
  ·rw[Zi e];refine .inl ⟨_,rfl,ZU c (by omega),fun k z=>?_⟩
   grind
 ·rintro _ ⟨rfl,d⟩;exact⟨.inl (),rfl,.inl ⟨rfl,d⟩⟩
theorem Zdz{a b:List Int}(c:a.length=4)(d:b.length=4):F105 a b=some (decide (a≠b/\ZX a b)):=by
 unfold F105;rw[GS a b (by omega)];simp only[Za,ZoN c d]
 grind
theorem ZpD{a b:List Int}(l:a.length=4)(m:b.length=4):∃z,F103 a b=some z:=by
 unfold F103;rw[GS a b (by omega)];simp only[Za];by_cases h:a=b
 ·simp_all
 ·rw[Zi h,Zc]
  suffices h:∃r:Unit ⊕ Int,_=some r/\True by
   obtain⟨r,f,_⟩:=h
   cases r with
   |inl u=>exact⟨_,KD (fun x=>x=Sum.inl ()) ⟨_,f,rfl⟩ (fun x t=>by subst t;rfl)⟩
   |inr z=>simp_all
  refine Kf 4 (fun _:Unit ⊕ Int=>True) (fun j (s:Int)=>s=(j:Int)) ?_ ?_ _ rfl
  ·rintro j _ c rfl;rw[Ze (by omega)];obtain⟨d,g,v⟩:=GM l c;obtain⟨e,k,w⟩:=GM m c;simp only[Zd,Kg c,Za,g,k];by_cases o:d<e
   ·simp_all
   ·rw[Zi o];by_cases p:e<d
    ·simp_all
    ·rw[Zi p];exact .inl ⟨_,rfl,ZU c (by omega)⟩
  simp
open Classical in
theorem Zsm{W:List (List Int)}(G:∀w∈W,w.length=4){v:List Int}(T:v.length=4)(hl:W.length+1<=549755813888):∃y,F108 W v=some y/\y.length<=W.length+1/\(∀w∈y,w∈W\/w=v)/\(∃w∈y,ZX w v)/\ ∀w∈W,∃u∈y,ZX u w:=by
 obtain⟨b,H,I⟩:=ZpN G T (by omega);unfold F108;rw[H]
 cases b with
 |true=>exact⟨W,rfl,by omega,fun w e=>.inl e,I.1 rfl,fun w e=>⟨w,e,Rb w⟩⟩
 |false=>
 simp only[Za,Zc];refine Wo (fun r:List (List Int) ×Int=>∃k:Nat,r.2=(k:Int)/\k<=W.length/\r.1.length=W.length/\r.1.take k=W.filter fun w=> !decide (v≠w/\ZX v w)) ?_ ?_
 ·refine Kf W.length _ (fun i (s:List (List Int) ×Int×Int)=>∃k:Nat,s.2=((k:Int),(i:Int))/\k<=i/\s.1.length=W.length/\(s.1.take k=(W.take i).filter fun w=> !decide (v≠w/\ZX v w))/\s.1.drop i=W.drop i) ?_ ?_ _ ⟨0,rfl,Vl _,rfl,by simp,rfl⟩
  ·rintro i ⟨fr,_⟩ f ⟨k,rfl,Q,c,d,t⟩;left;simp only at c d t;have K:i<fr.length:=by omega
   have O:fr[i]? =some W[i]:=by have g:=congrArg List.head? t;rw[Vwa,Vwa,Vc f]at g;exact g
   have U:(W[i]).length=4:=G _ (Vh f)
   have j:(W.take (i+1)).filter (fun w=> !decide (v≠w/\ZX v w))=(W.take i).filter (fun w=> !decide (v≠w/\ZX v w))++(if v≠W[i]/\ZX v W[i] then [] else [W[i]]):=by
    rw[Va f,Vta];congr 1;by_cases h:v≠W[i]/\ZX v W[i]
    ·rw[Zo h,Vcb (by rw[Ze h];simp)];rfl
    ·rw[Zg h,List.filter_cons_of_pos (by rw[Zi h];rfl)];rfl
   have m:fr.drop (i+1)=W.drop (i+1):=by have g:=congrArg (Vy 1) t;rw[Vza,Vza]at g;exact g
   simp only[ZL f,Zd,Kg K,O,Za,Zdz T U,ZU f (show W.length<=9223372036854775807 by omega)];by_cases p:v≠W[i]/\ZX v W[i]
   ·rw[Zo p,Vr]at j;rw[Ze p];simp only[Vf,Zc];exact⟨_,rfl,k,rfl,by omega,c,by rw[j];exact d,m⟩
   ·rw[Zg p]at j;rw[Zi p];have B:k<fr.length:=by omega
    have V:Vg .i64 ((k:Int)+1)=((k+1:Nat):Int):=by rw[Zx (by omega) (by omega)];omega
    simp only[Vo,Zd,Kg B,Za,Vc B,V];refine⟨_,rfl,k+1,rfl,by omega,by rw[Vrb];exact c,?_,?_⟩
    ·have Z:(fr.set k W[i]).take (k+1)=fr.take k++[W[i]]:=by rw[Va (by rw[Vrb];omega),Vhb (Vl _),Veb]
     rw[Z,j,d]
    ·rw[Vib (by omega)];exact m
  ·rintro ⟨fr,_⟩ ⟨k,rfl,Q,c,d,_⟩;rw[Vk]at d;exact⟨(fr,(k:Int)),by simp only[JE,Zc],k,rfl,Q,c,d⟩
 ·rintro ⟨fr,_⟩ ⟨k,rfl,Q,c,d⟩;simp only at c d
  have A:∀i (f:i<k),∃w,fr[i]? =some w/\w.length=4:=fun i f=>by
   have l:i<fr.length:=by omega
   have g:(fr.take k)[i]? =some fr[i]:=by rw[List.getElem?_take,Zo f,Vc l]
   have E:=List.mem_of_getElem? g;rw[d]at E;exact⟨_,Vc l,G _ (Vq.1 E).1⟩
  refine Wo (fun r:Int=>∃a:Nat,r=(a:Int)/\a<=k) ?_ ?_
  ·refine Kf k _ (fun i (s:Int)=>s=(i:Int)) ?_ ?_ _ rfl
   ·rintro i _ f rfl;obtain⟨w,g,E⟩:=A i f;obtain⟨z,X⟩:=ZpD E T;have l:i<fr.length:=by omega
    simp only[Ze (show (i:Int)<(k:Int) by omega),Zd,Kg l,g,Za,X];by_cases Y:z<0
    ·rw[Ze Y];exact .inl ⟨_,rfl,ZU f (by omega)⟩
    ·rw[Zi Y];exact .inr ⟨_,rfl,i,rfl,by omega⟩
   ·rintro _ rfl;exact⟨_,by simp only[Zi (show¬(k:Int)<(k:Int) by omega),Zc,Za],k,rfl,Vl _⟩
  ·rintro _ ⟨a,rfl,ha⟩;have hm:(ZC:Int)=549755813888:=rfl;have a0:(ZC:Nat)=549755813888:=rfl;have e:Vg .i64 ((k:Int) - (a:Int))=((k - a:Nat):Int):=by rw[Zx (by omega) (by omega)];omega
   have hg:ZF (decide ((0:Int)<=((k - a:Nat):Int)/\((k - a:Nat):Int)<=((k - a:Nat):Int)/\((k - a:Nat):Int)<=(ZC:Int)))=some ():=by rw[Ze ⟨by omega,by omega,by omega⟩];rfl
   have R:sliceB fr.length fr.length (some (a:Int)) (some (k:Int))=some (a,k):=by unfold sliceB;simp only[Za];rw[Zo ⟨by omega,by omega⟩,Ve];simp only[Za];rw[Zo ⟨by omega,by omega⟩,Ve]
   have P:Zn (a:Int) (fr.length+1)=some a:=Kg (by omega)
   have S:sliceB fr.length a none (some (a:Int))=some (0,a):=by unfold sliceB;simp
   have o:Vt (k - a) (Vy a fr)=(W.filter fun w=> !decide (v≠w/\ZX v w)).drop a:=by rw[<-d,List.drop_take]
   have x:(Vt (k - a) (Vy a fr)).length=k - a:=by rw[Vra,List.length_drop];omega
   have C:Vt a fr=(W.filter fun w=> !decide (v≠w/\ZX v w)).take a:=by rw[<-d,Vtb,Nat.min_eq_left ha]
   simp only[e,hg,Za,R,P,S,Ve,List.length_replicate,x,Nat.min_self]
   have J:Vt (k - a) (Vt (k - a) (Vy a fr))++Vy (k - a) (Voa (k - a) (Tr.zeroEl Ky))=Vt (k - a) (Vy a fr):=by have X:Vy (k - a) (Voa (k - a) (Tr.zeroEl Ky))=[]:=List.drop_eq_nil_of_le (by simp);rw[Vtb,Nat.min_self,X,Vr]
   rw[J]
   have M:ZF (decide ((Vt a fr).length+ [v].length<=ZC))=some ():=by rw[Ze (by rw[Vra];simp;omega)];rfl
   have N:ZF (decide ((Vt a fr++[v]).length+(Vt (k - a) (Vy a fr)).length<=ZC))=some ():=by rw[Ze (by rw[Vi,Vra,x];simp;omega)];rfl
   refine⟨Vt a fr++[v]++Vt (k - a) (Vy a fr),?_,?_,?_,⟨v,by simp,Rb v⟩,?_⟩
   ·refine KD (fun _=>True) ⟨(),M,trivial⟩ fun _ _=>?_;exact KD (fun _=>True) ⟨(),N,trivial⟩ fun _ _=>rfl
   ·rw[Vi,Vi,Vra,x];simp;omega
   ·intro w e;rw[Vd,Vd,Vb,C,o]at e;rcases e with (e|e) |e
    ·exact .inl ((Vq.1 (List.mem_of_mem_take e)).1)
    ·exact .inr e
    ·exact .inl ((Vq.1 (List.mem_of_mem_drop e)).1)
   ·intro w e;by_cases p:v≠w/\ZX v w
    ·exact⟨v,by simp,p.2⟩
    ·have D:w∈W.filter fun w=> !decide (v≠w/\ZX v w):=Vq.2 ⟨e,by rw[Zi p];rfl⟩;rw[<-Vfb a (W.filter fun w=> !decide (v≠w/\ZX v w)),Vd]at D;refine⟨w,?_,Rb w⟩;rw[Vd,Vd,C,o];rcases D with h|h
     ·exact .inl (.inl h)
     ·exact .inr h
theorem Zr0{V:List (List Int)}(j:∀w∈V,w.length=4)(z:V.length<=542198816521):∃W,F106 V=some W/\W.length<=V.length/\(∀w∈W,w∈V)/\ ∀v∈V,∃w∈W,ZX w v:=by
 unfold F106;refine Wo (fun W:List (List Int)=>W.length<=V.length/\(∀w∈W,w∈V)/\ ∀v∈V,∃w∈W,ZX w v) ?_ (by simp);refine Kf V.length _ (fun i (s:List (List Int) ×Int)=>s.2=(i:Int)/\s.1.length<=i/\(∀w∈s.1,w∈V.take i)/\ ∀v∈V.take i,∃w∈s.1,ZX w v) ?_ ?_ _ ⟨rfl,Vl _,by simp,by simp⟩
 ·rintro i ⟨W,_⟩ a ⟨rfl,g,h,d⟩;left;simp only at g h d;have k:idx V (i:Int)=some V[i]:=ZA a;have b:∀w,w∈V.take (i+1)↔w∈V.take i\/w=V[i]:=fun w=>by rw[Va a,Vd,Vb]
  obtain⟨r,e,t,x,y,f⟩:=Zsm (W:=W) (by grind) (j _ (Vh a)) (by omega);simp only[ZL a,Zd,k,Za,e,ZU a (by omega)];refine⟨_,rfl,rfl,by grind,by grind,fun v c=>?_⟩;rcases (b v).1 c with c|rfl
  ·obtain⟨w,l,m⟩:=d v c;obtain⟨u,o,p⟩:=f w l;exact⟨u,o,R9 p m⟩
  omega
 grind
def Z3(q:Zq)(c:YH):List Int:=if q.2.2.2.1=true then [Vg .i64 (0 - c.1),c.2.2.1,c.2.2.2.1,c.2.2.2.2.1] else [c.2.1,c.2.2.1,c.2.2.2.1,c.2.2.2.2.1]
theorem DH(q:Zq)(c:YH):F82 q c=some (Z3 q c):=by
 unfold F82 Z3
 grind
theorem Y8(q:Zq)(c:YH):(Z3 q c).length=4:=by
 unfold Z3
 grind
theorem Zpi(q:Zq){O:List Ku}(P:O.length<=542198816521):∃L,F175 q O=some L/\L.length<=O.length/\(∀x∈L,x∈O)/\ ∀y∈O,∃x∈L,ZX (Z3 q x.2.1) (Z3 q y.2.1):=by
 have C:(ZC:Nat)=549755813888:=rfl;unfold F175;refine Wo (fun V:List (List Int)=>V=O.map fun x=>Z3 q x.2.1) ?_ ?_
 ·refine Kf O.length _ (fun i (s:List (List Int) ×Int)=>s=((O.take i).map (fun x=>Z3 q x.2.1),(i:Int))) ?_ ?_ _ rfl
  ·rintro i _ a rfl;left;have o:idx O (i:Int)=some O[i]:=ZA a;simp only[ZL a,Zd,o,Za,DH,ZU a (by omega)];refine⟨_,KD (fun _=>True) ⟨(),?_,trivial⟩ (fun _ _=>rfl),?_⟩
   ·rw[Ze (by grind)];rfl
   ·rw[Va a,Vp];rfl
  simp
 ·rintro _ rfl
  obtain⟨W,J,K,M,N⟩:=Zr0 (V:=O.map fun x=>Z3 q x.2.1) (fun w E=>by obtain⟨x,_,rfl⟩:=Vda.1 E;exact Y8 q x.2.1) (by grind)
  rw[Vm]at K;refine Wo (fun x=>x=W) ⟨_,J,rfl⟩ ?_;rintro _ rfl;rename_i W;refine Wo (fun L:List Ku=>L.length<=O.length/\(∀x∈L,x∈O)/\ ∀w∈W,∃x∈L,Z3 q x.2.1=w) ?_ ?_
  ·refine Kf W.length _ (fun i (s:List Ku×Int)=>s.2=(i:Int)/\s.1.length<=i/\(∀x∈s.1,x∈O)/\ ∀w∈W.take i,∃x∈s.1,Z3 q x.2.1=w) ?_ ?_ _ ⟨rfl,Vl _,by simp,by simp⟩
   ·rintro i ⟨L,_⟩ a ⟨rfl,f,g,r⟩;left;simp only at f g r;have o:idx W (i:Int)=some W[i]:=ZA a;have b:=M _ (Vh a);have m:∀w,w∈W.take (i+1)↔w∈W.take i\/w=W[i]:=fun w=>by rw[Va a,Vd,Vb]
    generalize W[i]=w at*;simp only[ZL a,Zd,o,Za,ZU a (by omega)];refine Xr (fun e:List Ku=>∃x∈O,Z3 q x.2.1=w/\e=L++[x]) ?_ ?_
    ·obtain⟨T,p,v⟩:=Vda.1 b;obtain⟨Q,z,rfl⟩:=Vs p;refine Kf O.length (fun e:List Ku=>∃x∈O,Z3 q x.2.1=w/\e=L++[x]) (fun j (s:List Ku×Int)=>s=(L,(j:Int))/\ ∀k (A:k<O.length),k<j->Z3 q (O[k]).2.1≠w) ?_ ?_ _ (by simp)
     ·rintro j _ c ⟨rfl,D⟩;have d:idx O (j:Int)=some O[j]:=ZA c
      have I:idx (O.map fun x=>Z3 q x.2.1) (j:Int)=some (Z3 q (O[j]).2.1):=by
       have l:j<(O.map fun x=>Z3 q x.2.1).length:=by grind
       rw[ZA l,List.getElem_map]
      simp only[ZL c,Zd,d,I,Za];rw[GS _ _ (by rw[Y8];obtain⟨x,_,rfl⟩:=Vda.1 b;exact(Y8 q x.2.1).symm)];simp only[Za];by_cases h:Z3 q (O[j]).2.1=w
      ·rw[Ze h];right;refine⟨_,KD (fun _=>True) ⟨(),?_,trivial⟩ (by simp),O[j],Vh c,h,rfl⟩;rw[Ze (by grind)];rfl
      ·rw[Zi h];left;refine⟨_,rfl,?_,fun k A B=>?_⟩
       ·rw[ZU c (by omega)]
       grind
     grind
    ·rintro _ ⟨x,G,H,rfl⟩;refine⟨_,rfl,rfl,by grind,fun y d=>?_,fun u t=>?_⟩
     ·grind
     ·rcases (m u).1 t with t|rfl
      all_goals simp_all
   grind
  ·rintro L ⟨f,g,r⟩;refine⟨L,rfl,f,g,fun y d=>?_⟩;obtain⟨w,R,S⟩:=N _ (Vda.2 ⟨y,d,rfl⟩)
   grind
end Q
namespace Q
open Tr Go
variable {n:Zf}{q:Zq}
theorem ZsL{i:Nat}(a:i<n.2.2.1.length):rn (ZO n q) (i:Int)=Xc n q (rn n (i:Int)):=by unfold rn;show ((n.2.2.1.map (Xc n q))[(i:Int).toNat]?).getD u0=_;rw[Ve,List.getElem?_map,Vc a];rfl
theorem ZfL{i:Nat}(a:i<n.2.2.1.length):Zw (ZO n q) i=(Zw n i).map (WY n q):=by unfold Zw;rw[ZsL a];rfl
theorem Zmn(h:JO n):JO (ZO n q):=by
 have b:(ZO n q).2.2.1.length=n.2.2.1.length:=Vm ..;refine⟨h.stops,by rw[b];exact h.runs,?_,fun i a=>?_⟩
 ·show (JX n q).length<=60;unfold JX;split
  ·exact Vj (Vca _ _) h.paths
  ·exact h.paths
 ·rw[b]at a;rw[ZfL a,Vm];exact h.calls i a
theorem Zb0(h:W1 n):W1 (ZO n q):=by
 refine⟨h.stops,h.routes,fun x b=>?_,fun x b=>?_,?_,h.prods⟩
 ·obtain⟨r,a,rfl⟩:=Vda.1 (show x∈n.2.2.1.map (Xc n q) from b);exact h.runs r a
 ·obtain⟨r,a,rfl⟩:=Vda.1 (show x∈n.2.2.1.map (Xc n q) from b);show (r.2.2.2.2.2.2.2.1.map (WY n q)).length<=_;rw[Vm];exact h.calls r a
 ·show (JX n q).length<=4096;unfold JX;split
  ·exact Vj (Vca _ _) h.paths
  ·exact h.paths
def st0(F:Ke):JN:=[(some F,(0,0,0,0,()),0,[0,0,0,0,0,0,0,0,0],())]
def KR(n:Zf)(q:Zq):Zu:=((0,q.1,0,0,(0,0,0,0,()),()),q.2.2.1,0,0,st0 n.2.2.2.2.2.1,[],())
theorem ZtE{F:Ke}(a:(Js F).2=0)(b:∀x∈F.1,x.1.length<=9223372036854775807):F19 F=some (st0 F,0):=by
 have c:=(W5 a).many;unfold F19;rw[Zgd F b]
 have e:ZF (decide ((List.length ([]:List Unit))+List.length F.1<=ZC))=some ():=by rw[Ze (by simp [ZC];omega)];rfl
 simp only[Za,Ze a,Vf,Zc,e];rfl
theorem ZtB{F:Ke}(hF:FO F):H5 F hF [] (st0 F):=by
 refine .start ⟨rfl,fun i a=>?_⟩;have:i=0:=by simpa using a
 subst this;refine⟨0,rfl,.inr ⟨Vsa _,.nil _,fun s b=>b.nonneg⟩⟩
theorem Zkh(c:qB n.1.length q=true)(j:q.2.2.2.2.1<=3){hF:FO n.2.2.2.2.2.1} :LI n.2.2.2.2.2.1 hF n q (KR n q):=by unfold qB at c;simp only[Vw,KL]at c;obtain⟨b,_,d,e,f,_⟩:=c;unfold ZT at b;rw[Vw,KL,KL]at b;refine⟨⟨⟨ZtB hF,fun v g=>absurd g (by show¬v∈([]:List ZK);simp)⟩,by show ([]:List Zs).length<=80;simp,⟨Vsa 0,e.1⟩,⟨Vsa 0,f.1⟩,d,b,fun h=>absurd h (by show¬(0:Int)=1;decide),fun x a=>absurd a (by show¬ []=[x];simp)⟩,rfl,?_,fun _=>⟨rfl,rfl,rfl,rfl⟩,.inl rfl,rfl,rfl,rfl,fun x a=>absurd a (by show¬x∈([]:List Zs);simp),fun L x a=>absurd a (by show¬ []=L++[x];simp),fun h=>absurd rfl h,fun x a=>absurd a (by show¬ []=[x];simp)⟩;show 0+hL n q (KR n q)<=79;have:hL n q (KR n q)=20* (q.2.2.2.2.1 - 0).toNat+19:=rfl;omega
theorem Zro{F:Ke}{hF:FO F}{l:Zu}(b:LI F hF n q l):((l.2.2.2.2.2.1[l.2.2.2.2.2.1.length - 1]?).map fun x=>x.2.2.2.2.2.2.2.1).getD q.2.2.1=l.2.1:=by
 by_cases h:l.2.2.2.2.2.1=[]
 ·have a:l.1.1=0:=by
   by_cases a:l.1.1=0
   ·exact a
   ·exact absurd h (b.some a)
  rw[h];exact(b.zero a).2.2.2.symm
 ·have e:=List.dropLast_concat_getLast h;have:=b.last _ _ e.symm;rw[List.getLast_eq_getElem]at this;rw[Vc (by have:=Vya.2 h;omega)];exact this
open Classical in
theorem Zce(e:W1 n)(b:Whole n)(d:QI q){l:Zu}(a:LI n.2.2.2.2.2.1 (W5 b.sound.fare) n q l):
 (∃s t,Dm.Least (Dm.LS (WA n.2.2.2.2.2.1 (W5 b.sound.fare).fareOk) n.2.2.2.2.2.1.1.length none ((Wp (ZV l).2.2.2.2.1).map Kn)) s/\
   F78 n q (l.2.2.2.2.2.1,())=some ((((l.2.2.2.2.2.1[0]?).map fun x=>x.2.2.2.2.2.2.1).getD q.2.2.1,l.2.1,l.2.2.1,Hh n.2.2.2.2.2.1 s,l.2.2.2.1,()),t,0))\/
 ((∀s,¬Dm.LS (WA n.2.2.2.2.2.1 (W5 b.sound.fare).fareOk) n.2.2.2.2.2.1.1.length none ((Wp (ZV l).2.2.2.2.1).map Kn) s)/\ ∃c,F78 n q (l.2.2.2.2.2.1,())=some (c,[],34)):=by
 obtain⟨f,g,c3⟩:=Zjb d a;have k:=a.val.rides;have j:=d.rides;have h:F121 n=some true:=by rw[GA e,Ze b]
 have:=Zgv e b.sound h q (L:=l.2.2.2.2.2.1) (by have:=a.val.len;omega) a.lok g f.fare.2 (by omega);rw[Zro a,c3,a.wlk]at this;exact this
theorem Zrp(c:W1 n)(a:Whole n)(b:QI q){l:Zu}(d:LI n.2.2.2.2.2.1 (W5 a.sound.fare) n q l):∃r,F78 n q (l.2.2.2.2.2.1,())=some r:=by
 rcases Zce c a b d with ⟨_,_,_,h⟩|⟨_,_,h⟩
 ·exact⟨_,h⟩
 ·exact⟨_,h⟩
theorem ZiW{F:Ke}{a b:Int}(h:a<=b):Hh F a<=Hh F b:=by
 unfold Hh
 split<;>split<;>omega
theorem Zt6(p:W1 n)(d:Whole n)(g:QI q){o l:Zu}(u:LI n.2.2.2.2.2.1 (W5 d.sound.fare) n q o)(r:LI n.2.2.2.2.2.1 (W5 d.sound.fare) n q l)(h:Jy n.2.2.2.2.2.1 (W5 d.sound.fare) o l){y:Ku}(a:y∈Jx n q l):
 ∃x∈Jx n q o,x.2.1.2.1<=y.2.1.2.1/\x.2.1.2.2.1<=y.2.1.2.2.1/\x.2.1.2.2.2.1<=y.2.1.2.2.2.1/\x.2.1.2.2.2.2.1<=y.2.1.2.2.2.2.1:=by
 have z:=Zja g u r h;unfold Jx at a⊢;have e:Xt n q o↔Xt n q l:=by unfold Xt Xq;rw[h.1]
 by_cases j:Xt n q l
 ·rw[Zo j]at a;rw[Zo (e.2 j)];rcases Zce p d g r with ⟨s,t,w,f⟩|⟨_,c,f⟩
  ·obtain⟨v,k,b⟩:=z.2.2.2.2 [] s (by rw[Vr];exact w.1);rw[Vr]at b;rcases Zce p d g u with ⟨C,D,A,B⟩|⟨m,_⟩
   ·rw[Zcn f,Zo rfl,Vb]at a;rw[Zcn B,Zo rfl];subst a;refine⟨_,Vb.2 rfl,h.2.1,h.2.2.1,?_,h.2.2.2.1⟩;exact ZiW (Vkb (A.2 v b) k)
   ·exact absurd b (m v)
  ·rw[Zcn f,Zg (by decide)]at a;cases a
 ·rw[Zg j]at a;cases a
theorem ZqI(u:W1 n)(I:Few n)(G:Yt n q=0)(R:JO n)(E:q.2.2.2.2.1<=3)(t:q.2.2.2.1=false):
 ∃L:List Ku,F172 n q=some (L,0)/\L.length<=542198816521/\(∀x∈L,∃l,Rc (ZO n q) (Zy q) (KR (ZO n q) (Zy q)) l/\x∈Jx (ZO n q) (Zy q) l)/\
  ∀l,Rc (ZO n q) (Zy q) (KR (ZO n q) (Zy q)) l->∀y∈Jx (ZO n q) (Zy q) l,∃x∈L,ZX (Z3 q x.2.1) (Z3 q y.2.1):=by
 obtain⟨r,m⟩:=ZaF.1 G;have a:Whole (ZO n q):=Zfu q I.paths r;have g:JO (ZO n q):=Zmn R;have h:W1 (ZO n q):=Zb0 u;have w:qB (ZO n q).1.length (Zy q)=true:=Zlq m
 have j:QI (Zy q):=by have d:=m;unfold qB at d;simp only[Vw,KL]at d;exact⟨by show q.2.2.2.2.1<=7;omega,d.2.2.2.2.1.2⟩
 have v:(ZO n q).2.2.2.2.1.length<=4096:=h.paths;have f:F19 n.2.2.2.2.2.1=some (st0 n.2.2.2.2.2.1,0):=ZtE r.sound.fare u.prods;have b:LI (ZO n q).2.2.2.2.2.1 (W5 a.sound.fare) (ZO n q) (Zy q) (KR (ZO n q) (Zy q)):=Zkh w E;obtain⟨D,U,V,W,X⟩:=Zs4 a g j E v (fun l p=>Zrp h a j p) (s:=st0 n.2.2.2.2.2.1) 0 b;obtain⟨L,J,c2,c3,K⟩:=Zpi q V;unfold F172;rw[ZnO r.sound I q (by rw[ZbR u,G])];simp only[Za,decide_true,Vf,Zc,t,f];refine⟨L,?_,by omega,fun x A=>?_,fun l p y S=>?_⟩
 ·have k:F75 ()=some ((),[],0,()):=rfl;rw[k];simp only[Za];have e:((q.1,q.2.1,q.2.2.1,false,q.2.2.2.2.1,q.2.2.2.2.2.1,false,false,(0:Int),q.2.2.2.2.2.2.2.2.2):Zq)=Zy q:=by unfold Zy;rw[t]
  rw[e];refine KD (fun x=>x=D) ⟨_,U,rfl⟩ ?_;rintro _ rfl;exact KD (fun x=>x=L) ⟨_,J,rfl⟩ (fun x A=>by subst A;rfl)
 ·obtain⟨l,B,C⟩:=W x (c3 x A);exact⟨l,B,C⟩
 ·obtain⟨o,B,C,T⟩:=X l p;obtain⟨x,M,N,O,P,Q⟩:=Zt6 h a j (B.li a g j b) (Rc.li a g j b p) C S;obtain⟨z,Y,Z⟩:=K x (T x M);refine⟨z,Y,R9 Z ?_⟩;have H:∀c:YH,Z3 q c=[c.2.1,c.2.2.1,c.2.2.2.1,c.2.2.2.2.1]:=fun c=>by unfold Z3;rw[t];rfl
  rw[H,H];intro i hi;rcases (show i=0\/i=1\/i=2\/i=3 by omega) with rfl|rfl|rfl|rfl
  ·exact N
  ·exact O
  ·exact P
  ·exact Q
end Q
namespace Q
open Tr Go
variable {n:Zf}{q:Zq}
theorem ZlE(a b:List Zs):K0 (a++b)=K0 a+K0 b:=by simp [K0]
theorem ZlH(s t a b:Int):K0 [KM s t a b]=0:=rfl
theorem Zhk(n:Zf)(i b c:Nat)(st:Bool):K0 [ZY n i b c st]=if st then 0 else 1:=by cases st<;>rfl
theorem ZaX{L:List Zs}{i:Nat}(h:i<L.length):lg L i=L[i]:=by unfold lg;grind
theorem ZlG{L:List Zs}{i:Nat}(h:i<L.length):K0 (L.take (i+1))=K0 (L.take i)+K0 [lg L i]:=by rw[Va h,ZlE,ZaX h]
theorem Zkt{n:Zf}{q:Zq}{L:List Zs}{i:Nat} :Gj n q L (i+1)=JS n (lg L i) (lg L (i+1)):=by rfl
theorem Zuh(L:List Zs):0<=We L:=(ZhJ L).1
theorem ZmQ(L:List Zs)(i:Nat):We (L.take i)<=We L:=by have:=ZcN (L.take i) (L.drop i);rw[Vfb]at this;have:=Zuh (L.drop i);omega
theorem ZlF(L:List Zs)(i:Nat):K0 (L.take i)<=K0 L:=by
 have:=ZlE (L.take i) (L.drop i)
 simp_all
theorem ZcL{L:List Zs}{i:Nat}(h:i<L.length):L.take (i+1)=L.take i++[lg L i]:=by rw[Va h,ZaX h]
theorem Zim{L:List Zs}(h:∀x,L=[x]->x.1=true)(d:Int):WW L d=L:=by
 by_cases a:L.length=1
 ·obtain⟨x,rfl⟩:=Vua.1 a;exact ZbF (h x rfl) d
 ·exact Zdb a d
theorem Zk5(h:W2 n){L:List Zs}(u:∀i,i<L.length->WD n (Zy q) L i=0){i:Nat}(y:i<L.length){r b c:Nat}{st:Bool}(e:lg L i=ZY n r b c st):HP n r c=true:=by
 unfold HP;rw[Bool.or_eq_true];obtain⟨_,_,x⟩:=Hg.1 (u i y)
 cases m:J7 L i with
 |true=>
  have:=x m;rw[e]at this
  exact .inl (Zft.1 this)
 |false=>
  right;unfold J7 at m;rw[e]at m;have f:(decide (i+1=L.length) || !Kw (lg L (i+1)))=false:=by assumption
  rw[Vfa,decide_eq_false_iff_not,Vaa]at f;have k:i+1<L.length:=by omega
  obtain⟨t,g,_⟩:=Hg.1 (u (i+1) k);rw[Zkt,e]at g
  cases v:(lg L (i+1)).1 with
  |false=>
   obtain⟨p,_,a,w,_⟩:=(Zcd h).1 ⟨t,v⟩;have:=f.2;rw[w]at this
   cases this
  |true=>
   obtain⟨j,d,A,o,s,_⟩:=(ZgI h).1 ⟨t,v⟩;have:=f.2;rw[s]at this;have l:o=true:=this;subst l;rw[s]at g;obtain⟨_,z,_⟩:=(ZjJ h).1 g;exact Vpb.2 ⟨_,z,by simp⟩
def Zbx(n:Zf)(q:Zq)(L:List Zs)(i:Nat):Prop:= ∃l,Rc n (Zy q) (KR n (Zy q)) l/\l.2.2.1=(K0 (L.take (i+1)):Int)/\
 ((∃r b c st,lg L i=ZY n r b c st/\Zh1 n r b c st/\l.1.1=1/\l.1.2.2.1=(r:Int)/\l.1.2.2.2.1=(c:Int)/\l.2.2.2.2.2.1=L.take (i+1))\/
  (∃p∈n.2.2.2.2.1,∃a,lg L i=KM p.1 p.2.1 a (a+p.2.2.1)/\l.1.1=2/\l.1.2.1=p.2.1/\l.2.1<=a+p.2.2.1/\((0<i/\l.2.2.2.2.2.1=L.take (i+1))\/(i=0/\ ∃T,l.2.2.2.2.2.1=[KM p.1 p.2.1 T (T+p.2.2.1)]/\(L.length=1->T=a)))))
theorem Zr9(V:Whole n)(W:q.2.2.2.1=false){hF:FO n.2.2.2.2.2.1}(J:LI n.2.2.2.2.2.1 hF n (Zy q) (KR n (Zy q))){L:List Zs}(hL:0<L.length)(M:∀i,i<L.length->WD n (Zy q) L i=0)(hr:(K0 L:Int)<=q.2.2.2.2.1)(hw:We L<=q.2.2.2.2.2.1):Zbx n q L 0:=by
 have h:=V.ok;obtain⟨K,U,h3⟩:=Hg.1 (M 0 hL);have x:YX n (Zy q) L=0:=U;obtain⟨o,G,f3,u,l,r⟩:=ZaP.1 x;have H:(Zy q).1=q.1:=rfl;have I:(Zy q).2.2.1=q.2.2.1:=rfl;have S:(Zy q).2.2.2.1=q.2.2.2.1:=rfl;have T:(Zy q).2.2.2.2.2.2.2.2.2.1=q.2.2.2.2.2.2.2.2.2.1:=rfl;rw[H]at o;rw[S,W,I]at u l;rw[T,I,H]at r;have f:=J.val.stop;have a2:0<=q.2.2.1/\q.2.2.1<=3155932800:=J.val.time;have A:=h.change _ f.1 f.2;have N:0<=(K2 n q.1).2.2.2.1/\(K2 n q.1).2.2.2.1<=3600:=A;have g:=ZcL hL;have s:K0 (L.take 0)=0:=by rfl
 have m:=ZlG hL
 cases Q:(lg L 0).1 with
 |true=>
  obtain⟨i,b,c,st,e,O⟩:=(ZgI h).1 ⟨K,Q⟩;have C:=O;obtain⟨k1,k2,k3,k4,k5⟩:=C;have t:=Zk5 h M hL e;rw[e]at o G l r m g;have f:st=false:=G;subst f;have z:(Zk n i b).2.2.2.1=true:=by grind
  have k:(Zk n i b).1=q.1:=o
  have j:q.2.2.1+(if q.2.2.2.2.2.2.2.2.2.1=true then XN n q.1 else 0)<=(Zk n i b).2.2.1:=by
   simp only[Vo,Vka,decide_eq_false_iff_not]at l;have v:¬(Zk n i b).2.2.1<q.2.2.1:=l
   cases X:q.2.2.2.2.2.2.2.2.2.1 with
   |false=>grind
   |true=>
    rw[X,Zx (by omega) (by omega)]at r;simp only[Vka]at r;have w:decide ((Zk n i b).2.2.1<q.2.2.1+(K2 n q.1).2.2.2.1)=false:=r;rw[decide_eq_false_iff_not]at w;unfold XN;omega
  rw[s,Zhk]at m;have y:K0 (L.take 1)=1:=m;have D:=ZlF L 1;have d:ZV (KR n (Zy q))=KR n (Zy q):=by rfl
  have B:Xu n (Zy q) (KR n (Zy q))=q.2.2.1+(if q.2.2.2.2.2.2.2.2.2.1=true then XN n q.1 else 0):=by rfl
  refine⟨_,.step .start (Y1.2 (.inr (.inl ⟨fun h=>absurd h (by show¬(0:Int)=1;decide),Dp.2 ⟨i,b,c,k1,k2,k3,?_,?_,t,rfl⟩⟩))),?_,.inl ⟨i,b,c,false,e,O,rfl,rfl,rfl,?_⟩⟩
  ·rw[d,B];exact⟨k4,z,k,by omega,.inl j⟩
  ·rw[d];show (0:Int)≠q.2.2.2.2.1;omega
  ·rw[d,y];rfl
  ·rw[d,g]
   rfl
 |false=>
  obtain⟨p,E,a,e,a0,a1⟩:=(Zcd h).1 ⟨K,Q⟩;have Z:=h.path p E;rw[e]at o u l m g;have P:p.1=q.1:=o;rw[s,ZlH]at m
  have v:¬a<q.2.2.1:=by
   simp only[Vo,Vka,decide_eq_false_iff_not]at l
   assumption
  have a4:=ZmQ L 1
  have a3:We (L.take 1)=p.2.2.1:=by
   rw[g];unfold We HW KM
   grind
  have d:ZV (KR n (Zy q))=KR n (Zy q):=by rfl
  refine⟨_,.step .start (Y1.2 (.inr (.inr ⟨fun h=>absurd h (by show¬(0:Int)=1;decide),by show (0:Int)≠2;decide,Rf.2 ⟨p,E,?_,rfl⟩⟩))),?_,.inr ⟨p,E,a,e,rfl,rfl,?_,.inr ⟨rfl,q.2.2.1,?_,fun Y=>?_⟩⟩⟩
  ·rw[d];refine⟨P,?_,?_⟩
   ·show 0+p.2.2.1<=q.2.2.2.2.2.1;omega
   ·show q.2.2.1+p.2.2.1<=_;omega
  ·rw[d,m];rfl
  ·rw[d];show q.2.2.1+p.2.2.1<=_;omega
  ·rw[d,P];rfl
  ·rw[Ze Y]at u;have R:(!decide (a=q.2.2.1))=false:=u
   grind
theorem Zr8(hW:Whole n)(hT:JO n)(hQ:QI (Zy q)){hF:FO n.2.2.2.2.2.1}(h0:LI n.2.2.2.2.2.1 hF n (Zy q) (KR n (Zy q))){L:List Zs}(O:∀i,i<L.length->WD n (Zy q) L i=0)(hr:(K0 L:Int)<=q.2.2.2.2.1)(hw:We L<=q.2.2.2.2.2.1){i:Nat}(J:i+1<L.length)(u:Zbx n q L i):Zbx n q L (i+1):=by
 have h:=hW.ok;have m:i<L.length:=by omega
 obtain⟨_,_,a3⟩:=Hg.1 (O i m);obtain⟨b1,f,_⟩:=Hg.1 (O (i+1) J);rw[Zkt]at f;have E:=ZlG J;have w:=ZcL J;have a5:=ZlF L (i+1+1);obtain⟨l,s,a6,v⟩:=u;have o:=s.li hW hT hQ h0;obtain⟨s1,s2,s3,s4,s5⟩:=ZaG l
 have M:∀{r b c:Nat}{st:Bool},lg L i=ZY n r b c st->Kw (lg L (i+1))=false->(Zk n r c).2.2.2.2.1=true:=by intro r b c st e hs;refine Zft.1 (?_ :YS n (Zy q) (ZY n r b c st)=0);rw[<-e];refine a3 ?_;unfold J7;rw[e,hs];simp [ZY]
 cases hy:(lg L (i+1)).1 with
 |true=>
  obtain⟨j,d,e,a9,g,Z⟩:=(ZgI h).1 ⟨b1,hy⟩;have a2:=Z;obtain⟨k1,k2,k3,k4,k5⟩:=a2;have K:=Zk5 h O J g;rw[g]at f E w
  cases a9 with
  |true=>
   rw[Zhk]at E;have G:K0 (L.take (i+1+1))=K0 (L.take (i+1)):=by grind
   rcases v with ⟨r,b,c,st,ex,y,z,P,Q,A⟩|⟨p,u,a,ex,_⟩
   ·rw[ex]at f;obtain⟨R,k,c3⟩:=(ZjJ h).1 f;have Y:d=0:=((h.isLink k).2.2.2.2.2.2 rfl).2;subst Y
    have a7:l.2.1=(Zk n r c).2.1:=by
     obtain⟨C,B,e1,e2,_,_,_,e3,_⟩:=o.val.kind z
     grind
    refine⟨_,.step s (Y1.2 (.inl ⟨z,ZaZ.2 ⟨((r:Int),(c:Int),(j:Int),((0:Nat):Int),true,()),k,⟨rfl,P.symm,Q.symm,by grind,by grind⟩,e,k2,by grind,by grind,rfl⟩⟩)),?_,.inl ⟨j,0,e,true,g,Z,rfl,?_,rfl,?_⟩⟩
    ·rw[G];assumption
    ·rfl
    ·simp only[Ve];show l.2.2.2.2.2.1++[ZY n j 0 e true]=_
     grind
   ·rw[ex]at f
    exact absurd f (ZqC _ _ _ _ _ _ _ _)
  |false=>
   rw[Zhk]at E;have G:K0 (L.take (i+1+1))=K0 (L.take (i+1))+1:=by grind
   have H:(Zk n j d).2.2.2.1=true:=by grind
   have t:Kw (lg L (i+1))=false:=by rw[g];rfl
   have go:(l.1.1=1->Xq n l=true)->GQ n (ZV l) (Xu n (Zy q) l) j d->WW l.2.2.2.2.2.1 (Zk n j d).2.2.1=L.take (i+1)->Zbx n q L (i+1):=fun g1 g2 g3=>by
    refine⟨_,.step s (Y1.2 (.inr (.inl ⟨g1,Dp.2 ⟨j,d,e,k1,k2,k3,g2,?_,K,rfl⟩⟩))),?_,.inl ⟨j,d,e,false,g,Z,rfl,rfl,rfl,?_⟩⟩
    ·rw[s3,a6];show _≠q.2.2.2.2.1;omega
    ·show (ZV l).2.2.1+1=_;omega
    ·show WW (ZV l).2.2.2.2.2.1 _++[ZY n j d e false]=_
     grind
   rcases v with ⟨r,b,c,st,ex,y,z,P,Q,A⟩|⟨p,u,a,ex,z,P,Q,A⟩
   ·have X:=M ex t;rw[ex]at f;obtain⟨R,k⟩:=(Zqz h y.1 y.2.2.1).1 f;obtain⟨C,B,e1,e2,_,_,e3,e4,_⟩:=o.val.kind z;have U:C=r:=by omega
    have S:B=c:=by omega
    subst U S
    have I:Xu n (Zy q) l=(Zk n C B).2.1+(K2 n (Zk n C B).1).2.2.2.1:=by
     unfold Xu XN
     grind
    refine go (fun _=>?_) ⟨k4,H,?_,by omega,?_⟩ ?_
    ·unfold Xq
     grind
    ·grind
    ·rw[I,s2,e4];rcases k with k|⟨k,c3⟩
     ·omega
     ·refine .inr ⟨c3,?_⟩;unfold Gk;rw[s1];exact Vpb.2 ⟨_,k,by grind⟩
    ·rw[A];refine Zim (fun x y=>?_) _;rw[ZcL m]at y;rcases Vla.1 y with ⟨_,N⟩|⟨_,N⟩
     ·have:x=lg L i:=(Vab.1 N).symm;rw[this,ex];rfl
     grind
   ·rw[ex]at f;obtain⟨R,k⟩:=ZqB.1 f
    have I:Xu n (Zy q) l=l.2.1:=by unfold Xu;omega
    refine go (by omega) ⟨k4,H,by grind,by omega,by omega⟩ ?_;rcases A with ⟨A,x5⟩|⟨rfl,T,x5,_⟩
    ·rw[x5];refine Zdb ?_ _
     grind
    ·rw[x5,RJ rfl,ZcL m,ex];have N:=(Hg.1 (O 0 m)).2.1;have W:YX n (Zy q) L=0:=N;have V:=(ZaP.1 W).2.2.1;rw[ex,g]at V;have a4:1<L.length:=J;rw[Ze a4]at V;have D:(!decide ((Zk n j d).2.2.1=a+p.2.2.1))=false:=V;simp only[Vaa,KL]at D;rw[D];simp only[List.take_zero,Vxa];unfold KM
     grind
 |false=>
  obtain⟨p,u,a,g,a0,a1⟩:=(Zcd h).1 ⟨b1,hy⟩;rw[g]at f E w;rw[ZlH]at E;have t:Kw (lg L (i+1))=false:=by rw[g];rfl
  have b3:=h.path p u;rcases v with ⟨r,b,c,st,ex,y,z,P,Q,A⟩|⟨p',b0,a',ex,_⟩
  ·have X:=M ex t;rw[ex]at f;obtain⟨R,k⟩:=ZqA.1 f;obtain⟨C,B,e1,e2,_,_,e3,e4,_⟩:=o.val.kind z;have U:C=r:=by omega
   have S:B=c:=by omega
   subst U S;have a8:=ZmQ L (i+1+1);rw[w,ZcN, <-A,o.wlk]at a8
   have b4:We [KM p.1 p.2.1 a (a+p.2.2.1)]=p.2.2.1:=by
    unfold We HW KM
    grind
   refine⟨_,.step s (Y1.2 (.inr (.inr ⟨fun _=>?_,by omega,Rf.2 ⟨p,u,⟨?_,?_,?_⟩,rfl⟩⟩))),?_,.inr ⟨p,u,a,g,rfl,rfl,?_,.inl ⟨by omega,?_⟩⟩⟩
   ·unfold Xq
    grind
   ·grind
   ·show (ZV l).2.2.2.1+p.2.2.1<=q.2.2.2.2.2.1;omega
   ·omega
   ·show (ZV l).2.2.1=_;omega
   ·show (ZV l).2.1+p.2.2.1<=_;omega
   ·show (ZV l).2.2.2.2.2.1++[KM (ZV l).1.2.1 p.2.1 (ZV l).2.1 ((ZV l).2.1+p.2.2.1)]=_
    grind
  ·rw[ex]at f;exact absurd f (ZqD _ _ _ _ _ _ _ _ _)
theorem Zqm(m:Whole n)(w:JO n)(v:QI (Zy q))(H:q.2.2.2.1=false){hF:FO n.2.2.2.2.2.1}(o:LI n.2.2.2.2.2.1 hF n (Zy q) (KR n (Zy q))){L:List Zs}(hL:0<L.length)(s:∀i,i<L.length->WD n (Zy q) L i=0)(y:(K0 L:Int)<=q.2.2.2.2.1)(z:We L<=q.2.2.2.2.2.1):
 ∃l,Rc n (Zy q) (KR n (Zy q)) l/\l.2.2.2.2.2.1=L/\(l.1.1=1->Xq n l=true)/\l.1.2.1=(lg L (L.length - 1)).2.2.2.2.2.1:=by
 have h:=m.ok
 have key:∀i,i<L.length->Zbx n q L i:=by
  intro i
  induction i with
  |zero=>exact fun _=>Zr9 m H o hL s y z
  |succ i S=>exact fun I=>Zr8 m w v o s y z I (by grind)
 obtain⟨l,f,_,k⟩:=key (L.length - 1) (by omega);have t:=f.li m w v o;have d:=(Hg.1 (s (L.length - 1) (by omega))).2.2;rw[show L.length - 1+1=L.length by omega,Vk]at k;rcases k with ⟨r,b,c,st,e,Q,A,u,B,g⟩|⟨p,R,a,e,A,u,B,g⟩
 ·refine⟨l,f,g,fun _=>?_,?_⟩
  ·unfold Xq;rw[u,B,Ve,Ve];refine Zft.1 (?_ :YS n (Zy q) (ZY n r b c st)=0);rw[<-e];refine d ?_;unfold J7;rw[e,Ze (by omega)];rfl
  ·obtain⟨J,C,M,N,_,_,D,O,_⟩:=t.val.kind A;have G:J=r:=by omega
   have E:C=c:=by omega
   subst G E;rw[e,D];rfl
 ·refine⟨l,f,?_,by omega,by rw[e,u];rfl⟩;rcases g with ⟨_,g⟩|⟨P,T,g,K⟩
  ·omega
  ·have j:L.length=1:=by omega
   obtain⟨x,rfl⟩:=Vua.1 j;rw[g,K j];have:lg [x] 0=x:=rfl
   grind
end Q
namespace Q
open Tr Go
variable {n:Zf}{q:Zq}{L:List Zs}{i:Nat}
theorem GR(a:i<L.length):F38 (n,q,L,(i:Int),())=some (lg L i):=by unfold F38;show Vma (idx L (i:Int)) _=_;rw[Y0 a];rfl
theorem Zi9(a:0<i)(b:i<L.length)(c:L.length<=1000):F44 (n,q,L,(i:Int),())=some (lg L (i - 1)):=by
 unfold F44;have e:Vg .i64 ((i:Int) - 1)=((i - 1:Nat):Int):=by rw[Zx (by omega) (by omega)];omega
 show Vma (idx L (Vg .i64 ((i:Int) - 1))) _=_;rw[e,Y0 (by omega)];rfl
theorem Zi7{s:Int}(h:ZT s n.1.length=true):F41 (n,q,L,(i:Int),()) s=some (JW n q s):=by
 unfold F41 JW
 show Vma (bif !q.2.2.2.2.2.2.1 then some true else Vma (idx n.1 s) fun a=>some a.2.2.1) _=_
 rw[show idx n.1 s=some (K2 n s) from Wy h s0];simp only[Za]
 cases q.2.2.2.2.2.2.1<;>cases (K2 n s).2.2.1<;>rfl
theorem Zpj(c:i<L.length)(d:Ks n (lg L i)=true):F33 (n,q,L,(i:Int),())=some (cl (KH n (lg L i)) (lg L i).2.2.1):=by obtain⟨a,_,b,_⟩:=ZbX d;unfold F33;rw[GR c];simp only[Za,a,b]
theorem Zi6(c:i<L.length)(d:Ks n (lg L i)=true):F32 (n,q,L,(i:Int),())=some (cl (KH n (lg L i)) (lg L i).2.2.2.1):=by obtain⟨a,_,_,b⟩:=ZbX d;unfold F32;rw[GR c];simp only[Za,a,b]
def Zbb(n:Zf)(x:Zs):Bool:= !ZT x.2.2.2.2.1 n.1.length|| !ZT x.2.2.2.2.2.1 n.1.length
def Zbc(n:Zf)(x:Zs):Bool:=bif x.1 then !Ks n x else !decide (x.2.1=0) || (!decide (x.2.2.1=0) || (!decide (x.2.2.2.1=0) ||Kw x))
def Zad(x:Zs):Bool:= !decide (0<=x.2.2.2.2.2.2.1/\x.2.2.2.2.2.2.1<=3155932800) || !decide (0<=x.2.2.2.2.2.2.2.1/\x.2.2.2.2.2.2.2.1<=3155932800)
theorem ZdZ(n:Zf)(q:Zq)(x:Zs):JD n q x=bif Zbb n x then 9 else bif Zbc n x then 9 else bif Zad x then 10 else bif x.1 then Y6 n q x else Xl n q x:=rfl
theorem Zpq(d:Wa n)(j:i<L.length):F45 (n,q,L,(i:Int),())=some (bif Zbb n (lg L i) then 9 else bif Zbc n (lg L i) then 9 else 0):=by
 have k:n.1.length<=9223372036854775807:=by have:=d.stops;omega
 have b:n.2.2.1.length<=9223372036854775807:=by have:=d.runs;omega
 unfold F45;rw[GR j];generalize lg L i=x;simp only[Za,ZmW _ k,ZmW _ b]
 refine RO (c:=Zbb n x) (by unfold Zbb;cases ZT x.2.2.2.2.1 n.1.length<;>rfl) fun m=>?_
 unfold Zbc
 cases o:x.1 with
 |false=>
  simp only[Vo,Zd,Zc];refine RO (c:= !decide (x.2.1=0) || (!decide (x.2.2.1=0) || (!decide (x.2.2.2.1=0) ||Kw x))) ?_ fun _=>rfl;unfold Kw
  cases decide (x.2.1=0)<;>cases decide (x.2.2.1=0)<;>cases decide (x.2.2.2.1=0)<;>rfl
 |true=>
  simp only[Vf,Zd,Zc,Za];refine RO (c:= !Ks n x) ?_ fun _=>rfl;unfold Ks
  cases l:ZT x.2.1 n.2.2.1.length with
  |false=>rfl
  |true=>
   have a:idx n.2.2.1 x.2.1=some (rn n x.2.1):=Wy l u0;simp only[Vf,Zc,a,Za,Vka]
   have e:decide (x.2.2.1<0)= !decide (0<=x.2.2.1):=by
    by_cases h:0<=x.2.2.1
    ·rw[Ze h,Zi (by omega)];rfl
    ·rw[Zi h,Ze (by omega)];rfl
   have f:decide (x.2.2.2.1<=x.2.2.1)= !decide (x.2.2.1<x.2.2.2.1):=by
    by_cases h:x.2.2.1<x.2.2.2.1
    ·rw[Ze h,Zi (by omega)];rfl
    ·rw[Zi h,Ze (by omega)];rfl
   have g:decide (((rn n x.2.1).2.2.2.2.2.2.2.1.length:Int)<=x.2.2.2.1)= !decide (x.2.2.2.1<((KH n x).length:Int)):=by
    show decide (((KH n x).length:Int)<=x.2.2.2.1)=_;by_cases h:x.2.2.2.1<((KH n x).length:Int)
    ·rw[Ze h,Zi (by omega)];rfl
    ·rw[Zi h,Ze (by omega)];rfl
   rw[e,f,g]
   cases decide (0<=x.2.2.1)<;>cases decide (x.2.2.1<x.2.2.2.1)<;>rfl
theorem Zpo(a:i<L.length):F40 (n,q,L,(i:Int),())=some (bif Zad (lg L i) then 10 else 0):=by
 unfold F40;rw[GR a];simp only[Za,ZmT];refine RO (c:=Zad (lg L i)) ?_ fun _=>rfl;unfold Zad
 cases decide (0<=(lg L i).2.2.2.2.2.2.1/\(lg L i).2.2.2.2.2.2.1<=3155932800)<;>rfl
theorem Zps(j:n.2.2.2.2.1.length<=4096)(a:i<L.length):F47 (n,q,L,(i:Int),())=some (bif (lg L i).1 then 0 else Xl n q (lg L i)):=by
 unfold F47;rw[GR a];generalize lg L i=x;simp only[Za]
 cases k:x.1 with
 |true=>rfl
 |false=>
 simp only[Zc];refine KD (fun r:Int ⊕ Int=>Sum.elim id id r=Xl n q x) ?_ ?_
 ·refine Kf n.2.2.2.2.1.length _ (fun i (s:Int×Int)=>s=((bif (n.2.2.2.2.1.take i).any (Xh x) then 29 else 18),(i:Int))/\((n.2.2.2.2.1.take i).any fun p=>Xh x p&&XO q p)=false) ?_ ?_ _ ⟨rfl,rfl⟩
  ·rintro i _ a ⟨rfl,b⟩;simp only[ZL a,Zd,ZA a,Za,ZU a (show _<=9223372036854775807 by omega)]
   have g:(bif decide ((n.2.2.2.2.1[i]).1=x.2.2.2.2.1) then bif decide ((n.2.2.2.2.1[i]).2.1=x.2.2.2.2.2.1) then some (decide ((n.2.2.2.2.1[i]).2.2.1=Vg .i64 (x.2.2.2.2.2.2.2.1 - x.2.2.2.2.2.2.1))) else some false else some false)=some (Xh x n.2.2.2.2.1[i]):=by
    unfold Xh
    cases decide ((n.2.2.2.2.1[i]).1=x.2.2.2.2.1)<;>cases decide ((n.2.2.2.2.1[i]).2.1=x.2.2.2.2.2.1)<;>rfl
   have h:(bif (n.2.2.2.2.1[i]).2.2.2.1 then some true else some !q.2.2.2.2.2.2.1)=some (XO q n.2.2.2.2.1[i]):=by
    unfold XO
    cases (n.2.2.2.2.1[i]).2.2.2.1<;>rfl
   rw[g,h];simp only[Za]
   cases d:Xh x n.2.2.2.2.1[i] with
   |false=>
    left;refine⟨_,rfl,?_,?_⟩
    ·rw[HD a,d,Bool.or_false]
    ·rw[HD a,b,d];rfl
   |true=>
    cases c:XO q n.2.2.2.2.1[i] with
    |true=>
     right;refine⟨_,rfl,?_⟩;unfold Xl;rw[Zdf a (f:=fun p=>Xh x p&&XO q p) (by rw[d,c];rfl)]
     rfl
    |false=>
     left;refine⟨_,rfl,?_,?_⟩
     ·rw[HD a,d,Bool.or_true];rfl
     ·rw[HD a,b,d,c];rfl
  ·rintro _ ⟨rfl,b⟩;simp only[JE,Zc];refine⟨_,rfl,?_⟩;rw[Vk]at b⊢;unfold Xl;rw[b];rfl
 ·rintro (r|r) e
  ·exact congrArg some e
  ·exact congrArg some e
theorem Zpr(d:Wa n)(b:i<L.length)(m:(lg L i).1=true->Ks n (lg L i)=true)(j:ZT (lg L i).2.2.2.2.1 n.1.length=true):F46 (n,q,L,(i:Int),())=some (bif (lg L i).1 then Y6 n q (lg L i) else 0):=by
 unfold F46;rw[GR b];simp only[Za]
 cases l:(lg L i).1 with
 |false=>rfl
 |true=>
  have a:=m l;obtain⟨e,f,_,_⟩:=ZbX a;obtain⟨g,h⟩:=Zhm d f;have k:=(d.mode _ h).1;simp only[Vf,Zc,Zd,e,Za,g,Zpj b a,Zi6 b a];unfold Y6;refine Zeg (Zeg (HN (H8 (H8 (Ga (ZkI q _ k) (H8 (Ga (c:= !Kw (lg L i) && !JW n q (lg L i).2.2.2.2.1) ?_ rfl)))))));rw[Zi7 j];unfold Kw
  cases (lg L i).2.2.2.2.2.2.2.2.1<;>rfl
theorem Zpp(e:Wa n)(g:n.2.2.2.2.1.length<=4096)(b:i<L.length):F42 (n,q,L,(i:Int),())=some (JD n q (lg L i)):=by
 unfold F42;rw[ZdZ];simp only[untilF];rw[Zpq e b];simp only[Za]
 cases c:Zbb n (lg L i) with
 |true=>rfl
 |false=>
 cases d:Zbc n (lg L i) with
 |true=>rfl
 |false=>
 simp only[Zc,decide_true,Zd];rw[Zpo b];simp only[Za]
 cases h:Zad (lg L i) with
 |true=>rfl
 |false=>
 simp only[Zc,decide_true,Zd];rw[Zps g b,Zpr e b (fun f=>by unfold Zbc at d;rw[f]at d;simpa using d) (by unfold Zbb at c;rw[Vfa]at c;simpa using c.1)];simp only[Za]
 cases f:(lg L i).1 with
 |true=>
  simp only[Zd,decide_true];by_cases a:Y6 n q (lg L i)=0
  ·rw[Ze a,a];rfl
  ·rw[Zi a];rfl
 |false=>
  simp only[Zc];by_cases a:Xl n q (lg L i)=0
  ·rw[Ze a,a];rfl
  ·rw[Zi a];rfl
theorem Zpk(g:i<L.length)(h:ZT q.1 n.1.length=true)(a:(q.2.2.2.2.2.2.2.2.2.1&&q.2.2.2.1)=false):F35 (n,q,L,(i:Int),())=some (bif decide (i=0) then YX n q L else 0):=by
 unfold F35;by_cases d:i=0
 case neg=>rw[Ze (show (0:Int)<(i:Int) by omega),Zi d];rfl
 subst d;rw[Zi (show¬(0:Int)<((0:Nat):Int) by omega),GR g];simp only[Zc,Za,decide_true,Zd];unfold YX;refine HN (HN ?_)
 refine Ga (c:= !(lg L 0).1&& (decide (1<L.length) && ((lg L 1).1&& !decide ((lg L 1).2.2.2.2.2.2.1=(lg L 0).2.2.2.2.2.2.2.1)))) ?_ (Ga (c:= !(lg L 0).1&& (decide (L.length=1) && (bif q.2.2.2.1 then !decide ((lg L 0).2.2.2.2.2.2.2.1=q.2.2.1) else !decide ((lg L 0).2.2.2.2.2.2.1=q.2.2.1)))) ?_ (H8 (Ga (c:=q.2.2.2.2.2.2.2.2.2.1&& ((lg L 0).1&&decide ((lg L 0).2.2.2.2.2.2.1<Vg .i64 (q.2.2.1+(K2 n q.1).2.2.2.1)))) ?_ rfl)))
 ·by_cases j:L.length=1
  ·rw[Ze (show ((L.length:Nat):Int)=1 by omega),Zi (show¬1<L.length by omega)]
   cases (lg L 0).1<;>rfl
  ·have f:1<L.length:=by omega
   have e:idx L (1:Int)=some (lg L 1):=Y0 (i:=1) f;rw[Zi (show¬((L.length:Nat):Int)=1 by omega),Ze f,e];simp only[Vo,Zd,Za,Vka]
   cases (lg L 0).1<;>cases (lg L 1).1<;>rfl
 ·rw[show decide (((L.length:Nat):Int)=1)=decide (L.length=1) from decide_eq_decide.2 (by omega)]
  cases (lg L 0).1<;>cases decide (L.length=1)<;>cases q.2.2.2.1<;>cases decide ((lg L 0).2.2.2.2.2.2.1=q.2.2.1)<;>rfl
 ·have b:idx n.1 q.1=some (K2 n q.1):=Wy h s0;rw[b];simp only[Za]
  revert a
  cases q.2.2.2.2.2.2.2.2.2.1<;>cases q.2.2.2.1<;>intro a<;>first|(cases a;done) |(cases (lg L 0).1<;>rfl)
theorem Zpn(u:n.2.2.2.1.length<=4096)(o:0<i)(c:i<L.length)(p:L.length<=1000)(stay:Bool):F39 (n,q,L,(i:Int),()) stay=some (Ya n (lg L (i - 1)) (lg L i) stay):=by
 unfold F39;rw[Zi9 o c p,GR c];generalize lg L (i - 1)=a;generalize lg L i=b;simp only[Za];refine KD (fun r:Unit ⊕ Bool=>Sum.elim (fun _=>false) id r=Ya n a b stay) ?_ ?_
 ·unfold Ya;refine Kf n.2.2.2.1.length _ (fun i (s:Int)=>s=(i:Int)/\(n.2.2.2.1.take i).any (Hm a b stay)=false) ?_ ?_ _ ⟨rfl,rfl⟩
  ·rintro i _ c ⟨rfl,d⟩;have t:idx n.2.2.2.1 (i:Int)=some n.2.2.2.1[i]:=ZA c;simp only[ZL c,Zd,t,Za,ZU c (show _<=9223372036854775807 by omega)];have g:=HD c (Hm a b stay);have e:=fun h=>Zdf c (f:=Hm a b stay) h;generalize n.2.2.2.1[i]=k at*
   have m:(bif k.2.2.2.2.1==stay then bif decide (k.1=a.2.1) then bif decide (k.2.1=a.2.2.2.1) then bif decide (k.2.2.1=b.2.1) then some (decide (k.2.2.2.1=b.2.2.1)) else some false else some false else some false else some false)=some (Hm a b stay k):=by
    unfold Hm
    cases decide (k.1=a.2.1)<;>cases decide (k.2.1=a.2.2.2.1)<;>cases decide (k.2.2.1=b.2.1)<;>cases decide (k.2.2.2.1=b.2.2.1)<;>cases (k.2.2.2.2.1==stay)<;>rfl
   rw[m];simp only[Za]
   cases j:Hm a b stay k with
   |false=>
    left;refine⟨_,rfl,rfl,?_⟩
    rw[g,d,j];rfl
   |true=>
    right;refine⟨_,rfl,?_⟩;rw[e j];rfl
  ·rintro _ ⟨rfl,d⟩;simp only[JE,Zc];refine⟨_,rfl,?_⟩;rw[Vk]at d;rw[d];rfl
 ·rintro (r|r) l
  ·exact congrArg some l
  ·exact congrArg some l
theorem Zpl(v:Wa n)(p:0<i)(l:i<L.length)(s:L.length<=1000)(x:ZT (lg L i).2.2.2.2.1 n.1.length=true)(f:(lg L i).1=false->Kw (lg L i)=false){r:List (Option Int)}{z:Int}(c:JS n (lg L (i - 1)) (lg L i)=0->untilF r=some z):
 untilF (F36 (n,q,L,(i:Int),())::F34 (n,q,L,(i:Int),())::r)=some (bif decide (JS n (lg L (i - 1)) (lg L i)=0) then z else JS n (lg L (i - 1)) (lg L i)):=by
 have y:n.2.2.2.1.length<=4096:=by have:=v.links;omega
 have u:¬i=0:=by omega
 unfold F36 F34;simp only[untilF,GR l,Zi9 p l s,Zpn y p l s,Za,Zi (show¬(i:Int)=0 by omega),Zc];have m:idx n.1 (lg L i).2.2.2.2.1=some (K2 n (lg L i).2.2.2.2.1):=Wy x s0;rw[m];unfold JS at c⊢;unfold Kw at c f⊢;generalize Ya n (lg L (i - 1)) (lg L i) true=t at*;generalize Ya n (lg L (i - 1)) (lg L i) false=o at*;generalize lg L (i - 1)=a at*;generalize lg L i=b at*;by_cases d:b.2.2.2.2.1=a.2.2.2.2.2.1
 case neg=>
  rw[Zi d,Zi (show¬a.2.2.2.2.2.1=b.2.2.2.2.1 from fun e=>d e.symm)];rfl
 rw[Ze d,Ze d.symm];rw[Ze d.symm,d.symm]at c;rw[d.symm];simp only[Vf,Zc,Za]at c⊢
 cases k:a.1<;>cases j:b.1
 ·rfl
 ·rw[k,j]at c;simp only[Vo,Vf,Zd,Zc,Za,decide_true,Vka,Vxb,Bool.and_false]at c⊢
  cases h:b.2.2.2.2.2.2.2.2.1 with
  |true=>rfl
  |false=>
   rw[h]at c;simp only[Zc,Za,decide_true,Zd]at c⊢
   cases g:decide (b.2.2.2.2.2.2.1<a.2.2.2.2.2.2.2.1) with
   |true=>rfl
   |false=>rw[g]at c;simp only[Zc,decide_true,Zd,Za]at c⊢;exact c trivial
 ·have h:=f j;rw[k,j,h]at c;rw[h];simp only[Vo,Vf,Zd,Zc,Za,decide_true,Vub]at c⊢;by_cases g:b.2.2.2.2.2.2.1=a.2.2.2.2.2.2.2.1
  ·rw[Ze g]at c⊢;simp only[Vf,Zc,decide_true,Zd,Za]at c⊢;exact c trivial
  ·rw[Zi g];rfl
 ·rw[k,j]at c;simp only[Vf,Zd,Zc,Za,decide_true,Vub,Vvb]at c⊢
  cases h:b.2.2.2.2.2.2.2.2.1 with
  |true=>
   rw[h]at c;simp only[Zd,Za]at c⊢
   cases t with
   |false=>rfl
   |true=>
    simp only[Vf,Zc,Za]at c⊢;by_cases g:b.2.2.2.2.2.2.1<a.2.2.2.2.2.2.2.1
    ·rw[Ze g];rfl
    ·rw[Zi g]at c⊢;simp only[Zc,decide_true,Zd,Za]at c⊢
     exact c trivial
  |false=>
   rw[h]at c;simp only[Zc,Za,decide_true,Zd]at c⊢
   cases g:decide (Vg .i64 (a.2.2.2.2.2.2.2.1+(K2 n b.2.2.2.2.1).2.2.2.1)<=b.2.2.2.2.2.2.1) with
   |true=>rw[g]at c;simp only[Vxb,Zd,decide_true,Za]at c⊢;exact c trivial
   |false=>
    rw[g]at c
    cases w:decide (a.2.2.2.2.2.2.2.1<=b.2.2.2.2.2.2.1) with
    |false=>cases o<;>rfl
    |true=>
     rw[w]at c
     cases o with
     |false=>rfl
     |true=>simp only[Vvb,Vwb,Zd,Zc,decide_true,Za]at c⊢;exact c trivial
theorem Zpm(c:i<L.length)(k:L.length<=1000)(g:(lg L i).1=true->Ks n (lg L i)=true)(f:ZT (lg L i).2.2.2.2.2.1 n.1.length=true):F37 (n,q,L,(i:Int),())=some (bif J7 L i then YS n q (lg L i) else 0):=by
 unfold F37;have h:Vg .i64 ((i:Int)+1)=((i+1:Nat):Int):=by rw[Zx (by omega) (by omega)];omega
 rw[GR c];simp only[Za,h]
 have d:(bif !(lg L i).1 then some true else bif decide (((i+1:Nat):Int)<((L.length:Nat):Int)) then Vma (idx L ((i+1:Nat):Int)) fun j=>some j.2.2.2.2.2.2.2.2.1 else some false)=some (!J7 L i):=by
  unfold J7;by_cases b:i+1=L.length
  ·rw[Ze b,Zi (show¬((i+1:Nat):Int)<((L.length:Nat):Int) by omega)]
   cases (lg L i).1<;>rfl
  ·rw[Zi b,Ze (show ((i+1:Nat):Int)<((L.length:Nat):Int) by omega),Y0 (show i+1<L.length by omega)];unfold Kw;simp only[Za]
   cases (lg L i).1<;>cases (lg L (i+1)).2.2.2.2.2.2.2.2.1<;>rfl
 rw[d];simp only[Za]
 cases a:J7 L i with
 |false=>rfl
 |true=>
  have e:(lg L i).1=true:=by unfold J7 at a;rw[Vw]at a;exact a.1
  simp only[Vf,Zc,Zd];rw[Zi6 c (g e),Zi7 f];simp only[Za];unfold YS
  cases (cl (KH n (lg L i)) (lg L i).2.2.2.1).2.2.2.2.1<;>cases JW n q (lg L i).2.2.2.2.2.1<;>rfl
theorem Zi8(m:Wa n)(p:n.2.2.2.2.1.length<=4096)(r:ZT q.1 n.1.length=true)(g:(q.2.2.2.2.2.2.2.2.2.1&&q.2.2.2.1)=false)(f:i<L.length)(o:L.length<=1000):F43 (n,q,L,(i:Int),())=some (WD n q L i):=by
 unfold F43 WD;rw[untilF,Zpp m p f];simp only[Za];by_cases c:JD n q (lg L i)=0
 case neg=>rw[Zi c];rfl
 rw[Ze c];simp only[Vf,Zc,Zd];obtain⟨s,t,u,v⟩:=ZgG c
 have b:(lg L i).1=false->Kw (lg L i)=false:=fun l=>by rw[ZdZ]at c;rw[Kt (by omega),Kt (by omega)]at c;have:=c.2.1;unfold Zbc at this;rw[l]at this;simp only[Zc,Vfa]at this;exact this.2.2.2
 have a:untilF [F37 (n,q,L,(i:Int),())]=some (bif J7 L i then YS n q (lg L i) else 0):=by
  rw[untilF,Zpm f o (fun l=>(u l).1) t];simp only[Za,untilF]
  by_cases h:(bif J7 L i then YS n q (lg L i) else 0)=0
  ·rw[Ze h,h];rfl
  ·rw[Zi h];rfl
 rw[untilF,Zpk f r g];simp only[Za];unfold Gj;by_cases e:i=0
 ·subst e;simp only[decide_true,Zd];by_cases d:YX n q L=0
  ·rw[Ze d];simp only[Zd,Vf,Zc];have k:F36 (n,q,L,((0:Nat):Int),())=some 0:=rfl;have j:F34 (n,q,L,((0:Nat):Int),())=some 0:=rfl;rw[untilF,k];simp only[Za,decide_true,Zd];rw[untilF,j];simp only[Za,decide_true,Zd];exact a
  ·rw[Zi d];rfl
 ·rw[Zi e];simp only[Zc,decide_true,Zd];rw[Zpl m (by omega) f o s b (fun _=>a)]
  cases decide (JS n (lg L (i - 1)) (lg L i)=0)<;>rfl
end Q
namespace Q
open Tr Go
variable {n:Zf}{q:Zq}{L:List Zs}
theorem ZbM{i:Nat}(h:WD n q L i=0):Hx (lg L i)/\J9 (lg L i).2.2.2.2.2.2.1/\J9 (lg L i).2.2.2.2.2.2.2.1:=by have a:=(Hg.1 h).1;rw[ZdZ,Kt (by omega),Kt (by omega),Kt (by omega)]at a;have:=a.2.2.1;unfold Zad at this;rw[Vfa]at this;simp only[Vaa,KL]at this;exact⟨by show _<=_;omega,⟨by omega,by omega⟩,⟨by omega,by omega⟩⟩
open Classical in
theorem Zqj(o:W1 n)(g:Whole n)(w:L.length<=20)(C:0<L.length)(v:∀i,i<L.length->WD n q L i=0):F48 n q (L,())=some (Yw n q L):=by
 have f:∀x∈L,Hx x:=fun x A=>by
  obtain⟨i,a,rfl⟩:=Vs A;have:=(ZbM (v i a)).1
  rwa [ZaX a]at this
 have z:F121 n=some true:=by rw[GA o];exact congrArg some (Ze g)
 have b:n.2.2.2.2.2.1.1.length<=4096:=by have:=(W5 g.sound.fare).many;omega
 obtain⟨c,d,h⟩:=Zdu g.sound z b q L (by omega);obtain⟨p,k,l,_⟩:=Zdw n q (L,()) o w f;have j:p=c:=by rw[l]at d;exact Option.some.inj d
 subst j;have m:F83 (L,())=some (Rv L):=by rw[ZeO];exact ZcO L (by omega)
 unfold F48 Yw;have e:Vg .i64 ((L.length:Int) - 1)=((L.length - 1:Nat):Int):=by rw[Zx (by omega) (by omega)];omega
 simp only[e,Y0 (show L.length - 1<L.length by omega),Za];refine KD (fun r=>r=(K0 L:Int)) ?_ ?_
 ·refine Kf L.length _ (fun i (s:Int×Int)=>s=((K0 (L.take i):Int),(i:Int))) ?_ ?_ _ rfl
  ·rintro i _ a rfl;left
   have D:K0 (L.take i)<=L.length:=by unfold K0;exact Vj (Vca _ _) (by rw[Vra];omega)
   have t:(bif (L[i]).1 then some !(L[i]).2.2.2.2.2.2.2.2.1 else some false)=some (Dt L[i]):=by
    unfold Dt Kw
    cases (L[i]).1<;>rfl
   have u:K0 (L.take (i+1))=K0 (L.take i)+(if Dt L[i] then 1 else 0):=by
    unfold K0;rw[Va a,Vta,Vi]
    cases y:Dt L[i]<;>simp [y]
   have B:Vg .i64 ((K0 (L.take i):Int)+1)=((K0 (L.take i)+1:Nat):Int):=by rw[Zx (by omega) (by omega)];omega
   simp only[ZL a,Zd,ZA a,Za,ZU a (show _<=9223372036854775807 by omega),B];rw[t,u]
   cases Dt L[i]<;>exact⟨_,rfl,rfl⟩
  ·rintro _ rfl;simp only[JE,Zc];exact⟨_,rfl,by rw[Vk]⟩
 ·rintro _ rfl;refine HN (H8 (HN ?_));rw[m];simp only[Za];refine HN ?_;rw[k];exact congrArg some h
open Classical in
theorem Zqk(d:Wa n)(f:n.2.2.2.2.1.length<=4096)(g:ZT q.1 n.1.length=true)(b:(q.2.2.2.2.2.2.2.2.2.1&&q.2.2.2.1)=false)(e:L.length<=1000):
 F49 n q (L,())=some (match K6 L.length (WD n q L) with|some i=>((i:Int),WD n q L i) |none=>((L.length:Int),0)):=by
 unfold F49;rw[Jl (n:=L.length) (fun i (s:Zf×Zq×List Zs×Int×Unit)=>s=(n,q,L,(i:Int),())) (WD n q L) (fun i=>.inr ((i:Int),WD n q L i)) (.inl ()) ?_ ?_ ?_ (n,q,L,(0:Int),()) rfl]
 ·unfold pick
  cases K6 L.length (WD n q L) with
  |some i=>rfl
  |none=>rfl
 ·rintro i _ a rfl c;refine⟨(n,q,L,((i+1:Nat):Int),()),?_,rfl⟩;simp only[ZL a,Zd,ZU a (show _<=9223372036854775807 by omega),Zi8 d f g b a e,Za];rw[c];rfl
 ·rintro i _ a rfl c;simp only[ZL a,Zd,Zi8 d f g b a e,Za];rw[Zi c];rfl
 ·rintro _ rfl;simp only[JE,Zc]
open Classical in
theorem Zjz(d:W1 n)(j:L.length<=20):F30 n q (L,())=some (WX n q L):=by
 unfold F30 WX;rw[ZbR d q];simp only[Za];by_cases c:Yt n q=0
 case neg=>rw[Zi c];rfl
 obtain⟨f,b⟩:=ZaF.1 c
 have a:ZT q.1 n.1.length=true/\(q.2.2.2.2.2.2.2.2.2.1&&q.2.2.2.1)=false:=by
  unfold qB at b;simp only[Vw]at b;refine⟨b.1,?_⟩;have:=b.2.2.2.2.2.2
  revert this
  cases q.2.2.2.2.2.2.2.2.2.1<;>cases q.2.2.2.1<;>simp
 rw[Ze c];simp only[Vf,Zc];by_cases hL:L.length=0
 ·rw[Ze (show (L.length:Int)=0 by omega),Ze hL]
  cases decide (q.1=q.2.1)<;>rfl
 rw[Zi (show¬(L.length:Int)=0 by omega),Zi hL];simp only[Zc];rw[Zqk f.sound d.paths a.1 a.2 (by omega)];simp only[Za]
 cases g:K6 L.length (WD n q L) with
 |some i=>
  have h:=D7 g;simp only
  rw[Zi h.2];rfl
 |none=>
  simp only;rw[Zqj d f j (by omega) (WL.1 g)];have e:Vg .i64 ((L.length:Int) - 1)=((L.length - 1:Nat):Int):=by rw[Zx (by omega) (by omega)];omega
  simp only[decide_true,Vf,Zc,Za,e]
  cases decide (Yw n q L=0)<;>rfl
end Q
namespace Q
open Tr Go
variable {n:Zf}{q:Zq}{L:List Zs}
open Classical in
theorem Zdv(a:W1 n)(c:Whole n)(q e:Zq)(f:e.2.2.1=q.2.2.1)(d:L.length<=90):F78 (ZO n q) e (L,())=F78 n q (L,()):=by
 have b:Whole (ZO n q):=Zfu q a.paths c
 have g:F80 n (L,())=some (K5 n L false []):=by
  rcases Zeo n (L,()) a d with ⟨_,h⟩|⟨_,_,h⟩
  ·rw[GA a]at h;have:=Option.some.inj h;rw[Ze c]at this;cases this
  ·exact h
 have j:F80 (ZO n q) (L,())=some (K5 n L false []):=by
  rcases Zeo (ZO n q) (L,()) (Zb0 a) d with ⟨_,h⟩|⟨_,_,h⟩
  ·rw[GA (Zb0 a)]at h;have:=Option.some.inj h;rw[Ze b]at this;cases this
  ·rw[Zhj]at h;exact h
 unfold F78;rw[g,j,f];rfl
theorem Zt7(d:W1 n)(c:Whole n){l:Zu}(e:l.2.2.2.2.2.1.length<=90){x:Ku}(a:x∈Jx (ZO n q) (Zy q) l):x.1=(l.2.2.2.2.2.1,())/\Xt (ZO n q) (Zy q) l/\F78 n q x.1=some (x.2.1,x.2.2.1,0):=by
 unfold Jx at a;split at a
 ·next b=>
  unfold Za4 at a;rw[Zdv d c q (Zy q) rfl e]at a
  grind
 grind
theorem Zt9(d:W1 n)(b:Whole n){l:Zu}(e:l.2.2.2.2.2.1.length<=90)(a:Xt (ZO n q) (Zy q) l){c:YH}{t:List (Int×Int×Int×Int×Unit)}(f:F78 n q (l.2.2.2.2.2.1,())=some (c,t,0)):((l.2.2.2.2.2.1,()),c,t,())∈Jx (ZO n q) (Zy q) l:=by unfold Jx;rw[Zo a,Zcn (by rw[Zdv d b q (Zy q) rfl e];omega),Zo rfl];simp
structure Wu (n:Zf) (q:Zq):Prop where
 fit:W1 n
 few:Few n
 chk:Yt n q=0
 tin:JO n
 max:q.2.2.2.2.1<=3
theorem Wu.whole(h:Wu n q):Whole n:=(ZaF.1 h.chk).1
theorem Wu.qb(h:Wu n q):qB n.1.length q=true:=(ZaF.1 h.chk).2
theorem Wu.qnum(h:Wu n q):(0<=q.1/\q.1<(n.1.length:Int))/\(0<=q.2.1/\q.2.1<(n.1.length:Int))/\(0<=q.2.2.1/\q.2.2.1<=3155932800)/\0<=q.2.2.2.2.1/\(0<=q.2.2.2.2.2.1/\q.2.2.2.2.2.1<=86400)/\(q.2.2.2.1=true->q.2.2.2.2.2.2.2.2.2.1=false):=by
 have a:=h.qb;unfold qB at a;simp only[Vw,KL]at a;obtain⟨b,c,f,g,j,_,k⟩:=a;have d:=R3.1 b;have e:=R3.1 c
 grind
theorem Wu.qi(h:Wu n q):QI (Zy q):=⟨by show q.2.2.2.2.1<=7;have:=h.max;omega,h.qnum.2.2.2.2.1.2⟩
theorem Wu.wholeM(h:Wu n q):Whole (ZO n q):=Zfu q h.fit.paths h.whole
theorem Wu.tinM(h:Wu n q):JO (ZO n q):=Zmn h.tin
theorem Wu.li0(h:Wu n q):LI (ZO n q).2.2.2.2.2.1 (W5 h.wholeM.sound.fare) (ZO n q) (Zy q) (KR (ZO n q) (Zy q)):=Zkh (n:=ZO n q) (q:=Zy q) (Zlq h.qb) h.max
theorem Wu.li(h:Wu n q){l:Zu}(a:Rc (ZO n q) (Zy q) (KR (ZO n q) (Zy q)) l):LI (ZO n q).2.2.2.2.2.1 (W5 h.wholeM.sound.fare) (ZO n q) (Zy q) l:=a.li h.wholeM h.tinM h.qi h.li0
theorem ZjA(h:Wu n q)(p:q.2.2.2.1=false)(e:L.length<=1000)(r:(WX n q L).2=0):∃l,Rc (ZO n q) (Zy q) (KR (ZO n q) (Zy q)) l/\l.2.2.2.2.2.1=L/\Xt (ZO n q) (Zy q) l:=by
 obtain⟨_,⟨c,a⟩|⟨c,a,f⟩⟩:=(D2 n q L).1 r
 ·have:L=[]:=Vz c;subst this;exact⟨_,.start,rfl,fun h=>absurd h (by show¬(0:Int)=1;decide),a⟩
 ·have o:∀i,i<L.length->WD (ZO n q) (Zy q) L i=0:=fun i d=>ZfA.2 (a i d);unfold Yw at f;rw[Kt (by omega),Kt (by omega),Kt (by omega),Kt (by omega)]at f;obtain⟨k,_,m,j,_⟩:=f;simp only[Vaa,KL,decide_eq_false_iff_not]at k m j
  have b:∀x∈L,Hx x:=fun x s=>by
   obtain⟨i,d,rfl⟩:=Vs s;have:=(ZbM (a i d)).1
   rwa [ZaX d]at this
  have g:L.length<=1000->Rv L=We L:=fun e=>by
   have c:=ZeP (L,()) e b;rw[ZeO]at c;have a:F138 (L,())=some (Rv L):=ZcO L e
   grind
  rw[g e]at j;obtain⟨l,t,u,v,w⟩:=Zqm h.wholeM h.tinM h.qi p h.li0 (L:=L) (by omega) o (by omega) (by omega);exact⟨l,t,u,v,by rw[w];assumption⟩
theorem ZjN(h:Wu n q)(j:q.2.2.2.1=false):∃R:List Ku,F172 n q=some (R,0)/\R.length<=542198816521/\(∀x∈R,F78 n q x.1=some (x.2.1,x.2.2.1,0)/\ ∃l,Rc (ZO n q) (Zy q) (KR (ZO n q) (Zy q)) l/\x.1=(l.2.2.2.2.2.1,())/\Xt (ZO n q) (Zy q) l)/\
 (∀l,Rc (ZO n q) (Zy q) (KR (ZO n q) (Zy q)) l->Xt (ZO n q) (Zy q) l->∀c t,F78 n q (l.2.2.2.2.2.1,())=some (c,t,0)->∃x∈R,ZX (Z3 q x.2.1) (Z3 q c))/\
 ∀L:List Zs,L.length<=20->(WX n q L).2=0->∀c t,F78 n q (L,())=some (c,t,0)->∃x∈R,ZX (Z3 q x.2.1) (Z3 q c):=by
 obtain⟨R,o,p,r,C⟩:=ZqI h.fit h.few h.chk h.tin h.max j
 have key:∀l,Rc (ZO n q) (Zy q) (KR (ZO n q) (Zy q)) l->Xt (ZO n q) (Zy q) l->∀c t,F78 n q (l.2.2.2.2.2.1,())=some (c,t,0)->∃x∈R,ZX (Z3 q x.2.1) (Z3 q c):=fun l f b c t k=>by
  have d:=(h.li f).val.len;have a:l.2.2.2.2.2.1.length<=90:=by omega
  have y:=Zt9 h.fit h.whole a b k
  grind
 refine⟨R,o,p,fun x m=>?_,key,fun L w e c t k=>?_⟩
 ·obtain⟨l,f,g⟩:=r x m;have d:=(h.li f).val.len;have a:l.2.2.2.2.2.1.length<=90:=by omega
  obtain⟨s,u,v⟩:=Zt7 h.fit h.whole a g
  grind
 ·obtain⟨l,z,A,B⟩:=ZjA h j (by omega) e
  grind
end Q
namespace Q
open Tr Go
def J3(a b:List Int):Prop:= ∃k,k<4/\(∀j,j<k->(a[j]?).getD 0=(b[j]?).getD 0)/\(a[k]?).getD 0<(b[k]?).getD 0
theorem Zd2(a:List Int):¬J3 a a:=fun⟨_,_,_,h⟩=>by omega
theorem Zkz{a b c:List Int}(h:J3 a b)(k:J3 b c):J3 a c:=by
 obtain⟨i,e,g,l⟩:=h;obtain⟨j,f,m,o⟩:=k;rcases Vbb i j with d|rfl|d
 ·exact⟨i,e,by grind,by grind⟩
 ·exact⟨i,e,by grind,by omega⟩
 ·exact⟨j,f,by grind,by grind⟩
theorem Zky{a b:List Int}(h:J3 a b):¬J3 b a:=fun k=>Zd2 a (Zkz h k)
theorem eq4{a b:List Int}(c:a.length=4)(d:b.length=4)(h:∀j,j<4->(a[j]?).getD 0=(b[j]?).getD 0):a=b:=by
 apply Vqb (by omega)
 simp_all
theorem Zry{a b:List Int}(d:a.length=4)(e:b.length=4):a=b\/J3 a b\/J3 b a:=by
 have key:∀k,k<=4->(∀j,j<k->(a[j]?).getD 0=(b[j]?).getD 0)\/J3 a b\/J3 b a:=by
  intro k
  induction k with
  |zero=>simp
  |succ k f=>
   intro g;rcases f (by omega) with h|h
   ·rcases Int.lt_trichotomy ((a[k]?).getD 0) ((b[k]?).getD 0) with c|c|c
    ·exact .inr (.inl ⟨k,by omega,h,c⟩)
    ·grind
    ·exact .inr (.inr ⟨k,by omega,by grind,c⟩)
   grind
 rcases key 4 (Vl _) with h|h
 ·exact .inl (eq4 d e h)
 grind
theorem ZpE{a b:List Int}(f:a.length=4)(g:b.length=4):∃z,F103 a b=some z/\(z<0↔J3 a b)/\(0<z↔J3 b a):=by
 unfold F103;rw[GS a b (by omega)];simp only[Za];by_cases h:a=b
 ·subst h;rw[Ze rfl];exact⟨0,rfl,⟨by simp,fun h=>absurd h (Zd2 a)⟩,⟨by simp,fun h=>absurd h (Zd2 a)⟩⟩
 ·rw[Zi h,Zc]
  suffices y:∃r:Unit ⊕ Int,_=some r/\((r=.inr (-1)/\J3 a b)\/(r=.inr 1/\J3 b a)) by
   obtain⟨r,t,u⟩:=y;rcases u with ⟨rfl,d⟩|⟨rfl,d⟩
   ·exact⟨-1,KD (fun x=>x=Sum.inr (-1)) ⟨_,t,rfl⟩ (fun x A=>by subst A;rfl),by grind,⟨by simp,fun h=>absurd h (Zky d)⟩⟩
   ·exact⟨1,by grind,⟨by simp,fun h=>absurd h (Zky d)⟩,by grind⟩
  refine Kf 4 (fun r:Unit ⊕ Int=>(r=.inr (-1)/\J3 a b)\/(r=.inr 1/\J3 b a)) (fun j (s:Int)=>s=(j:Int)/\ ∀k,k<j->(a[k]?).getD 0=(b[k]?).getD 0) ?_ ?_ _ (by simp)
  ·rintro j _ c ⟨rfl,e⟩;rw[Ze (by omega)];obtain⟨o,v,B⟩:=GM f c;obtain⟨p,w,C⟩:=GM g c;simp only[Zd,Kg c,Za,v,w];by_cases l:o<p
   ·rw[Ze l];exact .inr ⟨.inr (-1),rfl,.inl ⟨rfl,j,c,e,by omega⟩⟩
   ·rw[Zi l];by_cases m:p<o
    ·rw[Ze m];exact .inr ⟨.inr 1,rfl,.inr ⟨rfl,j,c,by grind,by omega⟩⟩
    ·rw[Zi m];refine .inl ⟨_,rfl,ZU c (by omega),fun k D=>?_⟩
     grind
  ·rintro _ ⟨rfl,e⟩;exact absurd (eq4 f g e) h
abbrev KG(q:Zq)(x:Ku):List Int:=Z3 q x.2.1
def W4(q:Zq)(v:List Int)(x:Ku):Bool:=decide (v≠KG q x/\ZX v (KG q x))
theorem ZkV(q:Zq){v:List Int}(a:v.length=4)(x:Ku):F169 x v q=some (W4 q v x):=by unfold F169;rw[DH];simp only[Za,Zdz a (Y8 q x.2.1)];rfl
theorem ZqT(q:Zq){v:List Int}(g:v.length=4){l:List Ku}(k:l.length<=549755813888):(F198 l (v,q,())=some (-1)/\ ∀x∈l,W4 q v x=false)\/ ∃i,∃a:i<l.length,F198 l (v,q,())=some (i:Int)/\(∀x∈l.take i,W4 q v x=false)/\W4 q v l[i]=true:=by
 unfold F198
 suffices e:∃r:Unit ⊕ Int,_=some r/\((r=.inl ()/\ ∀x∈l,W4 q v x=false)\/ ∃i:Nat,∃a:i<l.length,r=.inr (i:Int)/\(∀x∈l.take i,W4 q v x=false)/\W4 q v l[i]=true) by
  obtain⟨r,c,d⟩:=e;rcases d with ⟨rfl,h⟩|⟨i,a,rfl,h⟩
  ·exact .inl ⟨KD (fun x=>x=Sum.inl ()) ⟨_,c,rfl⟩ (fun x b=>by subst b;rfl),h⟩
  grind
 refine Kf l.length (fun r:Unit ⊕ Int=>(r=.inl ()/\ ∀x∈l,W4 q v x=false)\/ ∃i:Nat,∃a:i<l.length,r=.inr (i:Int)/\(∀x∈l.take i,W4 q v x=false)/\W4 q v l[i]=true) (fun i (s:Int)=>s=(i:Int)/\ ∀x∈l.take i,W4 q v x=false) ?_ ?_ _ (by simp)
 ·rintro i _ a ⟨rfl,h⟩;have b:idx l (i:Int)=some l[i]:=ZA a;have f:∀w,w∈l.take (i+1)↔w∈l.take i\/w=l[i]:=fun w=>by rw[Va a,Vd,Vb]
  simp only[ZL a,Zd,b,Za,ZkV q g]
  cases j:W4 q v l[i] with
  |true=>grind
  |false=>
   refine .inl ⟨_,rfl,ZU a (by omega),fun w m=>?_⟩
   grind
 simp
theorem ZpS(q:Zq){v:List Int}(G:v.length=4){l:List Ku}(M:l.length<=549755813888):F197 l (v,q,())=some (l.filter fun x=> !W4 q v x):=by
 unfold F197;rcases ZqT q G M with ⟨d,H⟩|⟨b,w,d,H,D⟩
 ·rw[d];simp only[Za,decide_true,Zd];rw[List.filter_eq_self.2 (by grind)]
 ·rw[d];have A:Vg .i64 ((b:Int)+1)=((b+1:Nat):Int):=by rw[Zx (by omega) (by omega)];omega
  simp only[Za,Zi (show¬(b:Int)= -1 by omega),Zc,A];refine KD (fun r:List Ku×Int=>∃k:Nat,r.2=(k:Int)/\k<=l.length/\r.1.length=l.length/\r.1.take k=l.filter fun x=> !W4 q v x) ?_ ?_
  ·have o:(l.take b).filter (fun x=> !W4 q v x)=l.take b:=by simp_all
   refine Kf (l.length - (b+1)) _ (fun r (s:List Ku×Int×Int)=>∃k:Nat,s.2=((k:Int),((b+1+r:Nat):Int))/\k<=b+1+r/\s.1.length=l.length/\(s.1.take k=(l.take (b+1+r)).filter fun x=> !W4 q v x)/\s.1.drop (b+1+r)=l.drop (b+1+r)) ?_ ?_ _ ⟨b,rfl,by omega,rfl,?_,rfl⟩
   ·rintro r ⟨fr,_⟩ R ⟨k,rfl,p,a,c,f⟩;left;simp only at a c f;have E:b+1+r<l.length:=by omega
    generalize K:b+1+r=i at*;have t:i<fr.length:=by omega
    have u:fr[i]? =some l[i]:=by have d:=congrArg List.head? f;rw[Vwa,Vwa,Vc E]at d;omega
    have h:(l.take (i+1)).filter (fun x=> !W4 q v x)=(l.take i).filter (fun x=> !W4 q v x)++(if W4 q v l[i]=true then [] else [l[i]]):=by
     rw[Va E,Vta]
     grind
    have g:fr.drop (i+1)=l.drop (i+1):=by have d:=congrArg (Vy 1) f;rw[Vza,Vza]at d;omega
    have m:decide ((i:Int)<((fr.length:Nat):Int))=true:=by grind
    have B:Vg .i64 ((i:Int)+1)=((b+1+(r+1):Nat):Int):=by rw[Zx (by omega) (by omega)];omega
    have y:b+1+(r+1)=i+1:=by omega
    simp only[m,Zd,Kg t,u,Za,ZkV q G,B];rw[y]
    cases I:W4 q v l[i] with
    |true=>
     rw[Zo I,Vr]at h
     exact⟨_,rfl,k,rfl,by omega,a,by grind,g⟩
    |false=>
     rw[Zg (by grind)]at h;have j:k<fr.length:=by omega
     have C:Vg .i64 ((k:Int)+1)=((k+1:Nat):Int):=by rw[Zx (by omega) (by omega)];omega
     simp only[Vo,Zd,Kg j,Za,Vc j,C];refine⟨_,rfl,k+1,rfl,by omega,by grind,?_,?_⟩
     ·have Q:(fr.set k l[i]).take (k+1)=fr.take k++[l[i]]:=by rw[Va (by grind),Vhb (Vl _),Veb]
      grind
     ·rw[Vib (by omega)];omega
   ·rintro ⟨fr,_⟩ ⟨k,rfl,p,a,c,_⟩;have e:b+1+(l.length - (b+1))=l.length:=by omega
    rw[e]at c p;rw[Vk]at c;have m:decide (((b+1+(l.length - (b+1)):Nat):Int)<((fr.length:Nat):Int))=false:=by grind
    exact⟨(fr,(k:Int)),by grind,k,rfl,p,a,c⟩
   ·rw[Nat.add_zero,Va w,Vta,o,Vcb (by grind)];simp
  ·rintro ⟨fr,_⟩ ⟨k,rfl,p,a,c⟩;simp only at a c;have z:sliceB fr.length fr.length (some (k:Int)) none=some (k,fr.length):=Zhr (by omega);simp only[z,Za];have J:ZF (decide (k+(fr.length - k)<=fr.length))=some ():=by rw[Ze (by omega)];rfl
   rw[J];simp only[Za];generalize S:Voa (fr.length - k) (((([]:List (El K4)),()),((0:Int),(0:Int),(0:Int),(0:Int),(0:Int),()),([]:List (El HB)),()):Ku)=Z;have P:Z.length=fr.length - k:=by grind
   have N:(Vt k fr++Z++Vy (k+(fr.length - k)) fr).length=fr.length:=by
    grind
   have O:sliceB (Vt k fr++Z++Vy (k+(fr.length - k)) fr).length (Vt k fr++Z++Vy (k+(fr.length - k)) fr).length none (some (k:Int))=some (0,k):=by
    unfold sliceB
    grind
   grind
def Hw(q:Zq)(l:List Ku):Prop:=l.Pairwise fun x y=>¬ZX (KG q x) (KG q y)/\ ¬ZX (KG q y) (KG q x)
theorem ZkW(q:Zq){l:List Ku}(o:Ku)(I:l.length+1<=549755813888):∃c,F168 q l o=some c/\c.length<=l.length+1/\(∀x∈c,x∈l\/x=o)/\(∃y∈c,ZX (KG q y) (KG q o))/\(∀x∈l,∃y∈c,ZX (KG q y) (KG q x))/\(Hw q l->Hw q c):=by
 have p:=Y8 q o.2.1;unfold F168;rw[DH];simp only[Za]
 suffices D:∃r:Unit ⊕ Unit,_=some r/\((r=.inl ()/\ ∀x∈l,¬ZX (KG q x) (KG q o))\/(r=.inr ()/\ ∃x∈l,ZX (KG q x) (KG q o))) by
  obtain⟨r,z,A⟩:=D;rcases A with ⟨rfl,h⟩|⟨rfl,h⟩
  ·have t:=ZpS q p (l:=l) (by omega);have u:=Vca (fun x=> !W4 q (Z3 q o.2.1) x) l
   have H:ZF (decide ((l.filter fun x=> !W4 q (Z3 q o.2.1) x).length+ [o].length<=ZC))=some ():=by have C:(ZC:Nat)=549755813888:=rfl;rw[Ze (by grind)];rfl
   refine⟨(l.filter fun x=> !W4 q (Z3 q o.2.1) x)++[o],?_,?_,fun x b=>?_,⟨o,by simp,Rb _⟩,fun x b=>?_,fun a=>?_⟩
   ·refine KD (fun x=>x=Sum.inl ()) ⟨_,z,rfl⟩ (fun x b=>?_)
    grind
   ·grind
   ·grind
   ·cases g:W4 q (Z3 q o.2.1) x with
    |true=>exact⟨o,by simp,(X2 g).2⟩
    |false=>exact⟨x,by grind,Rb _⟩
   ·refine List.pairwise_append.2 ⟨List.Pairwise.filter _ a,by simp,fun x b y v=>?_⟩;rw[Vb]at v;subst v;obtain⟨B,G⟩:=Vq.1 b;refine⟨h x B,fun k=>?_⟩;have m:W4 q (Z3 q y.2.1) x=false:=by grind
    unfold W4 at m
    grind
  ·refine⟨l,by grind,by omega,by grind,h,fun x b=>⟨x,b,Rb _⟩,id⟩
 refine Kf l.length (fun r:Unit ⊕ Unit=>(r=.inl ()/\ ∀x∈l,¬ZX (KG q x) (KG q o))\/(r=.inr ()/\ ∃x∈l,ZX (KG q x) (KG q o))) (fun i (s:Int)=>s=(i:Int)/\ ∀x∈l.take i,¬ZX (KG q x) (KG q o)) ?_ ?_ _ (by simp)
 ·rintro i _ a ⟨rfl,h⟩;have E:∀w,w∈l.take (i+1)↔w∈l.take i\/w=l[i]:=fun w=>by rw[Va a,Vd,Vb]
  have e:=Vh a;have d:=Vc a;generalize l[i]=x at*;have f:=Y8 q x.2.1;simp only[ZL a,Zd,Kg a,d,Za,DH,GS _ _ (show (Z3 q x.2.1).length=(Z3 q o.2.1).length by rw[f,p]),Zdz f p];by_cases j:Z3 q x.2.1=Z3 q o.2.1
  ·rw[Ze j];exact .inr ⟨_,rfl,.inr ⟨rfl,x,e,by show ZX (Z3 q x.2.1) (Z3 q o.2.1);rw[j];exact Rb _⟩⟩
  ·rw[Zi j];simp only[Zc];by_cases k:ZX (Z3 q x.2.1) (Z3 q o.2.1)
   ·grind
   ·have t:¬(Z3 q x.2.1≠Z3 q o.2.1/\ZX (Z3 q x.2.1) (Z3 q o.2.1)):=by grind
    rw[Zi t];refine .inl ⟨_,rfl,ZU a (by omega),fun w J=>?_⟩
    grind
 simp
end Q
namespace Q
open Tr Go
variable {n:Zf}{q:Zq}
theorem ZgQ:∀(l:List Int) (x y:Int),y∈Yu x l->y∈l
 |[],_,_,h=>by cases h
 |z::l,x,y,h=>by
  unfold Yu at h
  cases a:decide (z=x) with
  |true=>rw[a]at h;exact Vva _ (ZgQ l x y h)
  |false=>
   rw[a]at h;simp only[Zc,Vja]at h;rcases h with rfl|h
   ·simp
   ·exact Vva _ (ZgQ l z y h)
theorem ZfV:∀(l:List Int) (x y:Int),y∈l->y=x\/y∈Yu x l
 |[],_,_,h=>by cases h
 |z::l,x,y,h=>by
  unfold Yu
  cases a:decide (z=x) with
  |true=>
   have b:=X2 a;simp only[Zd];rcases Vja.1 h with rfl|h
   ·omega
   ·exact ZfV l x y h
  |false=>
   simp only[Zc,Vja];rcases Vja.1 h with rfl|h
   ·omega
   ·exact .inr (ZfV l z y h)
theorem ZrB{l:List Int}{y:Int} :y∈Jh l↔y∈l:=by
 cases l with
 |nil=>rfl
 |cons x l=>
  show y∈x::Yu x l↔_;rw[Vja,Vja];constructor
  ·rintro (h|h)
   ·omega
   ·exact .inr (ZgQ l x y h)
  ·rintro (h|h)
   ·omega
   ·exact ZfV l x y h
theorem ZsF(l:List Int)(r:l.length<=4294967296):∃m,F199 l=some m/\m.Perm l:=by
 unfold F199;have h:Vg .i64 ((l.length:Int) - 1)=(l.length:Int) - 1:=Zx (by omega) (by omega);rw[h];refine run_bind (fun s=>∃(fr:List Int) (i:Nat),s=(fr,(i:Int),(l.length:Int) - 1 - (i:Int))/\fr.Perm l/\i<=l.length) (fun s=>l.length - s.2.1.toNat) (fun m=>m.Perm l) ⟨l,0,by simp,.refl _,Vba _⟩ ?_ ?_
 ·rintro _ ⟨fr,i,rfl,g,p⟩;have d:=g.length_eq;by_cases f:(i:Int)<(l.length:Int) - 1 - (i:Int)
  ·left;have a:i<fr.length:=by omega
   obtain⟨j,e⟩:∃j:Nat,(l.length:Int) - 1 - (i:Int)=(j:Int):=⟨l.length - 1 - i,by omega⟩;have b:j<fr.length:=by omega
   have c:j<(fr.set i fr[j]).length:=by grind
   have k:Vg .i64 ((i:Int)+1)=((i+1:Nat):Int):=by rw[Zx (by omega) (by omega)];omega
   have o:Vg .i64 ((j:Int) - 1)=(l.length:Int) - 1 - ((i+1:Nat):Int):=by rw[Zx (by omega) (by omega)];omega
   simp only[e];rw[Ze (by omega)];simp only[Zd,Kg b,Kg a,Vc b,Vc a,Za,Kg c,Vc c,k,o];refine⟨_,rfl,⟨_,i+1,rfl,by grind,by omega⟩,?_⟩
   grind
  grind
 simp
def Rg(n:Zf)(q:Zq)(s:Int)(w:Int):Prop:=(w=0/\s=q.1)\/ ∃p∈n.2.2.2.2.1,p.1=q.1/\p.2.1=s/\w=p.2.2.1
theorem ZpT(S:W2 n)(P:JO n)(hq:0<=q.1/\q.1<(n.1.length:Int)):∃l:List Int,F167 n q=some l/\l.length<=2562/\(∀t∈l,0<=t/\t<=q.2.2.1)/\
 ∀i c,i<n.2.2.1.length->c<(Zw n i).length->∀w,Rg n q (Zk n i c).1 w->0<=(Zk n i c).2.2.1 - w->(Zk n i c).2.2.1 - w<=q.2.2.1->(Zk n i c).2.2.1 - w∈l:=by
 have hm:(ZC:Int)=549755813888:=rfl;have a6:(ZC:Nat)=549755813888:=rfl;have h5:=P.stops;have a3:=P.paths;have h7:=P.runs;obtain⟨a,ha⟩:∃a:Nat,q.1=(a:Int):=⟨q.1.toNat,by omega⟩;have T:a<n.1.length:=by omega
 unfold F167
 have g1:ZF (decide ((0:Int)<=(n.1.length:Int)/\(n.1.length:Int)<=(n.1.length:Int)/\(n.1.length:Int)<=(ZC:Int)))=some ():=by rw[Ze ⟨by omega,by omega,by omega⟩];rfl
 have H:a<(Voa n.1.length ([]:List Int)).length:=by simpa using T
 have a1:idx (Voa n.1.length ([]:List Int)) (a:Int)=some []:=by rw[ZA H,List.getElem_replicate]
 have X:(Voa n.1.length ([]:List Int))[a]? =some []:=by grind
 have g2:ZF (decide (([]:List Int).length+ [(0:Int)].length<=ZC))=some ():=rfl;have g3:ZF (D9 (some a) a)=some ():=by simp [D9];rfl
 rw[g1];simp only[Za,Ve,ha,Kg H,X,a1,g2,g3];refine Wo (fun rows:List (List Int)=>rows.length=n.1.length/\ ∀s:Nat,s<n.1.length->∃r,rows[s]? =some r/\r.length<=61/\(∀w∈r,0<=w/\w<=14400)/\ ∀w,Rg n q (s:Int) w->w∈r) ?_ ?_
 ·refine Kf n.2.2.2.2.1.length _ (fun k (st:List (List Int) ×Int)=>st.2=(k:Int)/\st.1.length=n.1.length/\ ∀s:Nat,s<n.1.length->∃r,st.1[s]? =some r/\r.length<=1+k/\(∀w∈r,0<=w/\w<=14400)/\((s:Int)=q.1->(0:Int)∈r)/\ ∀p∈n.2.2.2.2.1.take k,p.1=q.1->p.2.1=(s:Int)->p.2.2.1∈r) ?_ ?_ _ ⟨rfl,by simp,fun s A=>?_⟩
  ·rintro k ⟨rows,_⟩ j ⟨rfl,g,e⟩;left;simp only at g e;have hx:idx n.2.2.2.2.1 (k:Int)=some n.2.2.2.2.1[k]:=ZA j;have a8:=S.path _ (Vh j);have Y:∀w,w∈n.2.2.2.2.1.take (k+1)↔w∈n.2.2.2.2.1.take k\/w=n.2.2.2.2.1[k]:=fun w=>by rw[Va j,Vd,Vb]
   generalize n.2.2.2.2.1[k]=p at*;simp only[ZL j,Zd,hx,Za,ZU j (by omega)];by_cases a7:p.1=q.1
   ·rw[Ze (show p.1=(a:Int) by omega)];obtain⟨b,U⟩:∃b:Nat,p.2.1=(b:Int):=⟨p.2.1.toNat,by omega⟩;have v:b<n.1.length:=by omega
    have x:b<rows.length:=by omega
    obtain⟨r,r1,r2,r3,r4,r5⟩:=e b v
    have y:idx rows (b:Int)=some r:=by
     assumption
    have V:ZF (decide (r.length+ [p.2.2.1].length<=ZC))=some ():=by rw[Ze (by grind)];rfl
    have hh:ZF (D9 (some b) b)=some ():=by simp [D9];rfl
    simp only[Zd,U,Kg x,r1,y,Za,V,Ve,hh];refine⟨_,rfl,rfl,by grind,fun s A=>?_⟩;by_cases b0:s=b
    ·grind
    ·obtain⟨r',k1,k2,k3,k4,k5⟩:=e s A
     grind
   ·rw[Zi (show¬p.1=(a:Int) by omega)]
    grind
  ·rintro ⟨rows,_⟩ ⟨rfl,g,e⟩;rw[Vk]at e;refine⟨rows,by simp,g,fun s A=>?_⟩;obtain⟨r,k1,k2,k3,k4,k5⟩:=e s A;refine⟨r,k1,by omega,k3,?_⟩;rintro w (⟨rfl,h⟩|⟨p,hp,O,G,rfl⟩)
   all_goals grind
  grind
 ·rintro rows ⟨g,e⟩;refine Wo (fun l:List Int=>l.length<=2562/\(∀t∈l,0<=t/\t<=q.2.2.1)/\ ∀i c,i<n.2.2.1.length->c<(Zw n i).length->∀w,Rg n q (Zk n i c).1 w->0<=(Zk n i c).2.2.1 - w->(Zk n i c).2.2.1 - w<=q.2.2.1->(Zk n i c).2.2.1 - w∈l) ?_ ?_
  ·refine Kf n.2.2.1.length _ (fun i (st:List Int×Int)=>st.2=(i:Int)/\st.1.length<=366*i/\(∀t∈st.1,0<=t/\t<=q.2.2.1)/\ ∀B c,B<i->c<(Zw n B).length->∀w,Rg n q (Zk n B c).1 w->0<=(Zk n B c).2.2.1 - w->(Zk n B c).2.2.1 - w<=q.2.2.1->(Zk n B c).2.2.1 - w∈st.1) ?_ ?_ _ ⟨rfl,by simp,by simp,by omega⟩
   ·rintro i ⟨acc,_⟩ K ⟨rfl,hl,hr,I⟩;left;simp only at hl hr I;have h6:=P.calls i K;simp only[Ze (show (i:Int)<((n.2.2.1.length:Nat):Int) by omega),Zd,R1 K,Za,ZU K (by omega)];refine Xr (fun l:List Int=>l.length<=acc.length+61* (Zw n i).length/\(∀t∈l,0<=t/\t<=q.2.2.1)/\(∀t∈acc,t∈l)/\ ∀c,c<(Zw n i).length->∀w,Rg n q (Zk n i c).1 w->0<=(Zk n i c).2.2.1 - w->(Zk n i c).2.2.1 - w<=q.2.2.1->(Zk n i c).2.2.1 - w∈l) ?_ ?_
    ·refine Kf (Zw n i).length _ (fun c (st:List Int×Int)=>st.2=(c:Int)/\st.1.length<=acc.length+61*c/\(∀t∈st.1,0<=t/\t<=q.2.2.1)/\(∀t∈acc,t∈st.1)/\ ∀z,z<c->∀w,Rg n q (Zk n i z).1 w->0<=(Zk n i z).2.2.1 - w->(Zk n i z).2.2.1 - w<=q.2.2.1->(Zk n i z).2.2.1 - w∈st.1) ?_ ?_ _ ⟨rfl,by simp,hr,by simp,by omega⟩
     ·rintro c ⟨f,_⟩ J ⟨rfl,C,u,D,E⟩;left;simp only at C u D E;have b2:=S.stop K J;have b3:=S.time K J;obtain⟨b,U⟩:∃b:Nat,(Zk n i c).1=(b:Int):=⟨(Zk n i c).1.toNat,by omega⟩;have v:b<n.1.length:=by omega
      have x:b<rows.length:=by omega
      obtain⟨r,r1,r2,r3,r4⟩:=e b v
      have y:idx rows (b:Int)=some r:=by
       assumption
      have M:decide ((c:Int)<((rn n (i:Int)).2.2.2.2.2.2.2.1.length:Int))=true:=Ze (by show (c:Int)<((Zw n i).length:Int);omega);have Z:Vg .i64 ((c:Int)+1)=((c+1:Nat):Int):=by rw[Zx (by omega) (by omega)];omega
      simp only[M,Zd,R0 J,Za,Z];rw[U];simp only[Kg x,r1,y,Za];generalize hd:(Zk n i c).2.2.1=d at*;refine Xr (fun l:List Int=>l.length<=f.length+61/\(∀t∈l,0<=t/\t<=q.2.2.1)/\(∀t∈f,t∈l)/\ ∀w∈r,0<=d - w->d - w<=q.2.2.1->d - w∈l) ?_ ?_
      ·refine Kf r.length _ (fun k (st:List Int×Int)=>st.2=(k:Int)/\st.1.length<=f.length+k/\(∀t∈st.1,0<=t/\t<=q.2.2.1)/\(∀t∈f,t∈st.1)/\ ∀w∈r.take k,0<=d - w->d - w<=q.2.2.1->d - w∈st.1) ?_ ?_ _ ⟨rfl,by simp,u,by simp,by simp⟩
       ·rintro k ⟨o,_⟩ j ⟨rfl,d1,Q,R,d4⟩;left;simp only at d1 Q R d4;have a9:=r3 _ (Vh j);have W:=Vc j;have Y:∀w,w∈r.take (k+1)↔w∈r.take k\/w=r[k]:=fun w=>by rw[Va j,Vd,Vb]
        generalize r[k]=w at*;have a0:Vg .i64 (d - w)=d - w:=Zx (by omega) (by omega);simp only[ZL j,Zd,Kg j,W,Za,a0,ZU j (by omega)];have skip:¬(0<=d - w/\d - w<=q.2.2.1)->∀w' ∈r.take (k+1),0<=d - w' ->d - w' <=q.2.2.1->d - w' ∈o:=by grind
        by_cases O:0<=d - w
        case neg=>rw[Zi O];exact⟨_,rfl,rfl,by simp only;omega,Q,R,by grind⟩
        rw[Ze O];by_cases G:d - w<=q.2.2.1
        case neg=>rw[Zi G];exact⟨_,rfl,rfl,by simp only;omega,Q,R,skip fun h=>G h.2⟩
        rw[Ze G]
        have V:ZF (decide (o.length+ [d - w].length<=ZC))=some ():=by rw[Ze (by grind)];rfl
        simp only[Zd,Za,V];refine⟨_,rfl,rfl,by simp;omega,by grind,by grind,by grind⟩
        all_goals grind
       grind
      ·rintro l ⟨l1,l2,l3,l4⟩;refine⟨_,rfl,rfl,by grind,l2,by grind,fun z a4 w hw O G=>?_⟩
       grind
     ·rintro ⟨f,_⟩ ⟨rfl,C,u,D,E⟩;have M:decide (((Zw n i).length:Int)<((rn n (i:Int)).2.2.2.2.2.2.2.1.length:Int))=false:=Zi (by show¬((Zw n i).length:Int)<((Zw n i).length:Int);omega)
      grind
    grind
   grind
  ·rintro l ⟨l1,l2,l3⟩;have N:=ZdX l
   have A:F202 l=some (X9 l):=by
    show sortI l=_;unfold sortI
    grind
   have b1:=N.length_eq;have a5:=Zjf (X9 l)
   have J:F196 (X9 l)=some (Jh (X9 l)):=by
    show compactI (X9 l)=_;unfold compactI
    grind
   obtain⟨m,m1,m2⟩:=ZsF (Jh (X9 l)) (by omega);have a2:∀t,t∈m↔t∈l:=fun t=>by rw[m2.mem_iff,ZrB,N.mem_iff]
   simp only[A,J,m1,Za];exact⟨m,rfl,by rw[m2.length_eq];omega,by grind,by grind⟩
end Q
namespace Q
open Tr Go
variable {n:Zf}{q:Zq}
def KA(q:Zq)(t:Int):Zq:=(q.1,q.2.1,t,false,q.2.2.2.2)
theorem ZhH(m:Zf)(q:Zq)(t a:Int)(l:Zu):JJ m (Zy (KA q t)) l=JJ m (Zy (KA q a)) l:=rfl
theorem Zl3(f:W2 n){i c d:Nat}(e:i<n.2.2.1.length)(b:c<d)(j:d<(Zw n i).length):(Zk n i c).2.2.1<=(Zk n i d).2.1:=by
 have k:=f.sound.time _ (Vh e)
 have key:∀d,c<d->d<(Zw n i).length->(Zk n i c).2.2.1<=(Zk n i d).2.1:=by
  intro d
  induction d with
  |zero=>intro h;omega
  |succ d l=>
   intro m a
   have g:(Zk n i d).2.2.1<=(Zk n i (d+1)).2.1:=by rw[RR a,RR (show d<(Zw n i).length by omega)];simp only[ZaD e]at a⊢;have:=(k (d+1) a).2.2.2 (by omega);simp only[Nat.add_sub_cancel]at this;exact this.2
   rcases Vlb c d with h|h
   ·have:=l h (by omega);have o:=f.time e (show d<(Zw n i).length by omega);omega
   ·have:c=d:=by omega
    subst this;exact g
 exact key d b j
theorem ZnE(s t a b e d:Int):WW [KM s t a (a+e)] d=[KM s t (d - e) d]/\WW [KM s t b (b+e)] d=[KM s t (d - e) d]:=by
 rw[RJ rfl,RJ rfl];unfold KM
 constructor<;> · simp only;congr 8;omega
theorem Zhc(hW:Whole n)(hT:JO n){ZP:Int}(hQ:QI (Zy (KA q ZP))){hF:FO n.2.2.2.2.2.1}(T:q.2.2.2.2.2.2.2.2.2.1=false)(h0:LI n.2.2.2.2.2.1 hF n (Zy (KA q ZP)) (KR n (Zy (KA q ZP)))){l:Zu}(h:Rc n (Zy (KA q ZP)) (KR n (Zy (KA q ZP))) l):
 (l.2.2.1=0/\(l=KR n (Zy (KA q ZP))\/ ∃p∈n.2.2.2.2.1,D0 (Zy (KA q ZP)) (KR n (Zy (KA q ZP))) p/\l=XP (KR n (Zy (KA q ZP))) p))\/
 ∃d x L,l.2.2.2.2.2.1=x::L/\(L=[]->x.1=true)/\x.2.2.2.2.2.2.1=d/\ZP<=d/\d<=l.2.1/\0<l.2.2.1/\(∃i c w,i<n.2.2.1.length/\c<(Zw n i).length/\Rg n q (Zk n i c).1 w/\d=(Zk n i c).2.2.1 - w)/\Rc n (Zy (KA q d)) (KR n (Zy (KA q d))) l:=by
 have v:=hW.ok
 induction h with
 |start=>exact .inl ⟨rfl,.inl rfl⟩
 |step hl W ih=>
  rename_i l x;have E:=hl.li hW hT hQ h0;obtain⟨s1,s2,s3,s4,s5⟩:=ZaG l;have a1:(Zy (KA q ZP)).2.2.2.2.2.2.2.2.2.1=false:=T;rcases Y1.1 W with ⟨k1,hs⟩|⟨k1,hb⟩|⟨k1,k2,hw⟩
  ·
   right;obtain⟨k,hk,⟨_,_,_,_,I⟩,d,a0,U,_,rfl⟩:=ZaZ.1 hs;obtain⟨r,d0,j,d',sy,he,_,hj,_⟩:=v.link _ hk;subst he;simp only[Ve]at*;rcases ih with ⟨hr,_⟩|⟨g,y,L,M,X,N,O,e5,V,P,Q⟩
   ·have S:=E.cnt;rw[Zo k1]at S;omega
   ·have hm:=Zl3 v hj a0 U;refine⟨g,y,L++[ZY n j 0 d true],by show l.2.2.2.2.2.1++_=_;rw[M];rfl,fun h=>absurd h (by simp),N,O,?_,V,P,.step Q (by rw[ZhH n q g ZP l];exact W)⟩;show g<=(Zk n j d).2.1;omega
  ·
   right;obtain⟨i,c,d,J,A,U,b,s,u,ex⟩:=Dp.1 hb;have I:=ZiV v E.val b;have hm:=Zl3 v J A U;have S:c<(Zw n i).length:=by omega
   have a8:=E.val.rides;rcases ih with ⟨hr,D|⟨p,K,o,G⟩⟩|⟨g,y,L,M,X,N,O,e5,V,P,Q⟩
   ·subst D;have a:∀t,ZV (KR n (Zy (KA q t)))=KR n (Zy (KA q t)):=fun t=>by unfold ZV;rw[Zg (by show¬(0:Int)=1;decide)]
    have B:∀t,Xu n (Zy (KA q t)) (KR n (Zy (KA q t)))=t:=fun t=>by unfold Xu;rw[Zg (by show¬(0:Int)=1;decide),Zg (by show¬(0:Int)=2;decide),Zg (by rw[show (Zy (KA q t)).2.2.2.2.2.2.2.2.2.1=q.2.2.2.2.2.2.2.2.2.1 from rfl,T];decide)];show t+0=t;omega
    rw[a]at ex b s;obtain⟨Y,Z,R,g4,_⟩:=b;have H:(Zk n i c).1=q.1:=R;refine⟨(Zk n i c).2.2.1,ZY n i c d false,[],?_,fun _=>rfl,rfl,I,?_,?_,⟨i,c,0,J,S,.inl ⟨rfl,H⟩,by omega⟩,?_⟩
    ·subst ex;show WW [] (Zk n i c).2.2.1++[ZY n i c d false]=_;rw[Zdb (by simp)];rfl
    ·subst ex;show _<=(Zk n i d).2.1;exact hm
    ·subst ex;show (0:Int)<0+1;omega
    ·refine .step .start (Y1.2 (.inr (.inl ⟨fun h=>absurd h (by show¬(0:Int)=1;decide),Dp.2 ⟨i,c,d,J,A,U,?_,?_,u,?_⟩⟩)))
     ·rw[a,B];exact⟨Y,Z,R,g4,.inl (Vsa _)⟩
     ·rw[a];exact s
     ·rw[a,ex];rfl
   ·subst G;have a2:=v.path p K;obtain⟨w1,w2,w3⟩:=o;have a6:(XP (KR n (Zy (KA q ZP))) p).1.1=2:=rfl;have m:∀t,ZV (XP (KR n (Zy (KA q t))) p)=XP (KR n (Zy (KA q t))) p:=fun t=>by unfold ZV;rw[Zg (by show¬(2:Int)=1;decide)]
    have a:∀t,ZV (KR n (Zy (KA q t)))=KR n (Zy (KA q t)):=fun t=>by unfold ZV;rw[Zg (by show¬(0:Int)=1;decide)]
    have B:∀t,Xu n (Zy (KA q t)) (XP (KR n (Zy (KA q t))) p)=t+p.2.2.1:=fun t=>by unfold Xu;rw[Zg (by show¬(2:Int)=1;decide),Zo (show (XP (KR n (Zy (KA q t))) p).1.1=2 from rfl)];rfl
    rw[m]at ex b s;obtain⟨Y,Z,R,g4,_⟩:=b;have H:(Zk n i c).1=p.2.1:=R;have a4:ZP+p.2.2.1<=(Zk n i c).2.2.1:=I;have a5:=v.time J S;have f:=ZnE q.1 p.2.1 ZP ((Zk n i c).2.2.1 - p.2.2.1) p.2.2.1 (Zk n i c).2.2.1;refine⟨(Zk n i c).2.2.1 - p.2.2.1,KM q.1 p.2.1 ((Zk n i c).2.2.1 - p.2.2.1) (Zk n i c).2.2.1,[ZY n i c d false],?_,fun h=>absurd h (by simp),rfl,by omega,?_,?_,⟨i,c,p.2.2.1,J,S,.inr ⟨p,K,w1,H.symm,rfl⟩,rfl⟩,?_⟩
    ·subst ex;show WW ([]++[KM q.1 p.2.1 ZP (ZP+p.2.2.1)]) (Zk n i c).2.2.1++[ZY n i c d false]=_;rw[Vxa,f.1];rfl
    ·subst ex;show _<=(Zk n i d).2.1;omega
    ·subst ex;show (0:Int)<0+1;omega
    ·refine .step (.step .start (Y1.2 (.inr (.inr ⟨fun h=>absurd h (by show¬(0:Int)=1;decide),by show (0:Int)≠2;decide,Rf.2 ⟨p,K,?_,rfl⟩⟩)))) (Y1.2 (.inr (.inl ⟨fun h=>absurd h (by rw[a];show¬(2:Int)=1;decide),Dp.2 ⟨i,c,d,J,A,U,?_,?_,u,?_⟩⟩)))
     ·rw[a];refine⟨w1,w2,?_⟩;show (Zk n i c).2.2.1 - p.2.2.1+p.2.2.1<=_;omega
     ·rw[a,m,B];exact⟨Y,Z,R,g4,.inl (by omega)⟩
     ·rw[a,m];exact s
     ·rw[a,m,ex];unfold Xw Xe
      have e:WW (XP (KR n (Zy (KA q ZP))) p).2.2.2.2.2.1 (Zk n i c).2.2.1=WW (XP (KR n (Zy (KA q ((Zk n i c).2.2.1 - p.2.2.1)))) p).2.2.2.2.2.1 (Zk n i c).2.2.1:=by show WW ([]++[KM q.1 p.2.1 ZP (ZP+p.2.2.1)]) _=WW ([]++[KM q.1 p.2.1 ((Zk n i c).2.2.1 - p.2.2.1) ((Zk n i c).2.2.1 - p.2.2.1+p.2.2.1)]) _;rw[Vxa,Vxa,f.1,f.2]
      simp only;rw[e];rfl
   ·have C:WW (ZV l).2.2.2.2.2.1 (Zk n i c).2.2.1=y::L:=by rw[s5,M];refine Zim (fun z hz=>?_) _;obtain⟨rfl,hL⟩:=List.cons.inj hz;exact X hL
    refine⟨g,y,L++[ZY n i c d false],?_,fun h=>absurd h (by simp),N,O,?_,?_,P,.step Q (by rw[ZhH n q g ZP l];exact W)⟩
    ·subst ex;show WW (ZV l).2.2.2.2.2.1 (Zk n i c).2.2.1++[ZY n i c d false]=_;rw[C];rfl
    ·subst ex;show _<=(Zk n i d).2.1;omega
    ·subst ex;show (0:Int)<(ZV l).2.2.1+1;rw[s3];omega
  ·
   obtain⟨p,K,o,ex⟩:=Rf.1 hw;have a2:=v.path p K;rcases ih with ⟨hr,D|⟨p',a7,a3,G⟩⟩|⟨g,y,L,M,X,N,O,e5,V,P,Q⟩
   ·subst D;have a:ZV (KR n (Zy (KA q ZP)))=KR n (Zy (KA q ZP)):=by unfold ZV;rw[Zg (by show¬(0:Int)=1;decide)]
    rw[a]at o ex;exact .inl ⟨by rw[ex];rfl,.inr ⟨p,K,o,ex⟩⟩
   ·exact absurd (by rw[G];rfl) k2
   ·right;refine⟨g,y,L++[KM (ZV l).1.2.1 p.2.1 (ZV l).2.1 ((ZV l).2.1+p.2.2.1)],?_,fun h=>absurd h (by simp),N,O,?_,?_,P,.step Q (by rw[ZhH n q g ZP l];exact W)⟩
    ·subst ex;show (ZV l).2.2.2.2.2.1++_=_;rw[s5,M];rfl
    ·subst ex;show g<=(ZV l).2.1+p.2.2.1;rw[s2];omega
    ·subst ex;show (0:Int)<(ZV l).2.2.1;rw[s3];exact V
end Q
namespace Q
open Tr Go
variable {n:Zf}{q:Zq}{L:List Zs}
theorem Zf0(q a:Zq)(hL:L≠ []):F78 n a (L,())=F78 n q (L,()):=by
 have b:0<L.length:=Vya.2 hL;unfold F78
 grind
open Classical in
theorem ZfZ(c:W1 n)(b:Whole n)(q:Zq):∃t,F78 n q ([],())=some ((q.2.2.1,q.2.2.1,0,Hh n.2.2.2.2.2.1 0,0,()),t,0):=by
 have e:F121 n=some true:=by rw[GA c];exact congrArg some (Ze b)
 rcases Zgv c b.sound e q (L:=[]) (by simp) (by simp) (rs:=[]) rfl (by simp) (by simp) with ⟨s,t,a,d⟩|⟨a,_⟩
 ·have:s=0:=Vsb (a.2 0 (.nil _)) a.1.nonneg;subst this;exact⟨t,d⟩
 ·exact absurd (.nil _) (a 0)
open Classical in
theorem Zi3(o:W1 n)(e:Whole n)(v:L.length<=20)(h:(WX n q L).2=0):∃c t,F78 n q (L,())=some (c,t,0):=by
 obtain⟨_,⟨p,_⟩|⟨p,u,g⟩⟩:=(D2 n q L).1 h
 ·have:L=[]:=Vz p;subst this;obtain⟨t,w⟩:=ZfZ o e q;exact⟨_,t,w⟩
 ·have d:∀x∈L,Hx x:=fun x z=>by
   obtain⟨i,r,rfl⟩:=Vs z;have:=(ZbM (u i r)).1
   rwa [ZaX r]at this
  have y:F121 n=some true:=by rw[GA o];exact congrArg some (Ze e)
  have a:n.2.2.2.2.2.1.1.length<=4096:=by have:=(W5 e.sound.fare).many;omega
  obtain⟨c,b,j⟩:=Zdu e.sound y a q L (by omega);obtain⟨f,l,m,_⟩:=Zdw n q (L,()) o v d;have k:f=c:=by rw[m]at b;exact Option.some.inj b
  subst k;unfold Yw at g;rw[Kt (by omega),Kt (by omega),Kt (by omega),Kt (by omega)]at g;have:f.2.2=0:=by rw[j];exact g.2.2.2.2
  obtain⟨s,A,B⟩:=f;simp only at this;subst this;exact⟨s,A,l⟩
theorem ZgT:∀(M:Nat) (l:List Nat),l.Nodup->(∀a∈l,a<M)->l.length<=M
 |0,l,_,h=>by
  cases l with
  |nil=>simp
  |cons a l=>exact absurd (h a (by simp)) (by omega)
 |M+1,l,b,h=>by
  by_cases d:M∈l
  ·have c:=ZgT M (l.erase M) (b.erase M) (by grind)
   grind
  ·have:=ZgT M l b (by grind);omega
def Ze4(a:List Int)(x:Ku):Prop:=x.2.1.1∈a/\(0<=x.2.1.2.2.1/\x.2.1.2.2.1<=3)/\(0<=x.2.1.2.2.2.2.1/\x.2.1.2.2.2.2.1<=86400)
theorem ZqS{q:Zq}(E:q.2.2.2.1=true)(d:List Int){l:List Ku}(f:Hw q l)(g:∀x∈l,Ze4 d x):l.length<=d.length*345604:=by
 have s:∀c:YH,Z3 q c=[Vg .i64 (0 - c.1),c.2.2.1,c.2.2.2.1,c.2.2.2.2.1]:=fun c=>by unfold Z3;grind
 have j:(l.map fun x:Ku=>d.idxOf x.2.1.1*345604+(x.2.1.2.2.1.toNat*86401+x.2.1.2.2.2.2.1.toNat)).Nodup:=by
  rw[List.Nodup,List.pairwise_map];refine List.Pairwise.imp_of_mem ?_ f;intro x y k t b e;obtain⟨p,u,v⟩:=g x k;obtain⟨w,G,H⟩:=g y t;have z:d.idxOf x.2.1.1=d.idxOf y.2.1.1:=by omega
  have A:x.2.1.2.2.1=y.2.1.2.2.1:=by omega
  have B:x.2.1.2.2.2.2.1=y.2.1.2.2.2.2.1:=by omega
  have C:x.2.1.1=y.2.1.1:=by
   have D:=List.getElem_idxOf (List.idxOf_lt_length_iff.2 p)
   grind
  have m:KG q x=[Vg .i64 (0 - x.2.1.1),x.2.1.2.2.1,x.2.1.2.2.2.1,x.2.1.2.2.2.2.1]:=s _;have o:KG q y=[Vg .i64 (0 - x.2.1.1),x.2.1.2.2.1,y.2.1.2.2.2.1,x.2.1.2.2.2.2.1]:=by grind
  rw[m,o]at b;rcases Int.le_total x.2.1.2.2.2.1 y.2.1.2.2.2.1 with h|h
  ·refine b.1 fun i f=>?_
   grind
  ·refine b.2 fun i f=>?_
   grind
 have:=ZgT (d.length*345604) _ j fun a r=>by
  obtain⟨x,k,rfl⟩:=Vda.1 r;obtain⟨p,u,v⟩:=g x k
  grind
 grind
def WQ(q:Zq)(p:Kj):Zs:=KM q.1 q.2.1 (q.2.2.1 - p.2.2.1) q.2.2.1
def JA(n:Zf)(q:Zq)(L:List Zs):Prop:=(L=[]/\q.1=q.2.1)\/ ∃p∈n.2.2.2.2.1,p.1=q.1/\p.2.1=q.2.1/\L=[WQ q p]
theorem ZrK(h:Yt n q=0)(a:q.1=q.2.1):(WX n q []).2=0:=(D2 n q []).2 (by grind)
open Classical in
theorem Zgu(h:Wu n q){p:Kj}(j:p∈n.2.2.2.2.1):∃t,F78 n q ([WQ q p],())=some ((q.2.2.1 - p.2.2.1,q.2.2.1,0,Hh n.2.2.2.2.2.1 0,(if q.2.2.1 - p.2.2.1<0 then 0 else p.2.2.1),()),t,0):=by
 have c:=h.fit;have b:=h.whole;have k:=b.ok.path p j;have l:=h.qnum
 have g:F121 n=some true:=by rw[GA c];exact congrArg some (Ze b)
 rcases Zgv c b.sound g q (L:=[WQ q p]) (by simp) (fun x d=>by rw[Vb]at d;subst d;show q.2.2.1<=_;omega) (rs:=[]) (ZjQ ..) (by simp) (by simp) with ⟨s,t,a,f⟩|⟨a,_⟩
 ·have:s=0:=Vsb (a.2 0 (.nil _)) a.1.nonneg;subst this;refine⟨t,?_⟩;rw[f]
  have e:We [WQ q p]=if q.2.2.1 - p.2.2.1<0 then 0 else p.2.2.1:=by
   unfold We HW WQ KM;simp only[Vn,Vpa,Vu,Vqa]
   split<;>split<;> (try simp at*)<;>omega
  rw[e];rfl
 ·exact absurd (.nil _) (a 0)
open Classical in
theorem Zuk(h:Wu n q)(l:q.2.2.2.1=true){p:Kj}(v:p∈(ZO n q).2.2.2.2.1)(f:p.1=q.1)(m:p.2.1=q.2.1)(I:p.2.2.1<=q.2.2.2.2.2.1)(J:p.2.2.1<=q.2.2.1):(WX n q [WQ q p]).2=0:=by
 have g:=h.wholeM;have E:=g.ok.path p v
 have w:p∈n.2.2.2.2.1:=by
  have a:p∈JX n q:=v;unfold JX at a;split at a
  ·exact(Vq.1 a).1
  ·exact a
 have y:=h.qnum;have s:=y.2.2.2.2.2 l;refine(D2 n q _).2 ⟨h.chk,.inr ⟨by simp,fun i D=>?_,?_⟩⟩
 ·have:i=0:=by simpa using D
  subst this;refine ZfA.1 (Hg.2 ⟨?_,?_,?_⟩)
  ·refine((Zcd g.ok).2 ⟨p,v,q.2.2.1 - p.2.2.1,?_,by omega,by omega⟩).1;show WQ q p=_;unfold WQ;rw[f,m];congr 1;omega
  ·show YX (ZO n q) (Zy q) [WQ q p]=0;refine ZaP.2 ⟨rfl,rfl,rfl,?_,?_,?_⟩
   ·have e:(Zy q).2.2.2.1=true:=l;rw[e];show (!false&& (decide (1=1) && !decide (q.2.2.1=q.2.2.1)))=false;simp
   ·have e:(Zy q).2.2.2.1=true:=l;rw[e];rfl
   ·have e:(Zy q).2.2.2.2.2.2.2.2.2.1=false:=s;rw[e];rfl
  ·intro G;cases G
 ·unfold Yw;have u:lg [WQ q p] ([WQ q p].length - 1)=WQ q p:=rfl;rw[u,Kt (by omega),Kt (by omega),Kt (by omega),Kt (by omega)];obtain⟨t,C⟩:=Zgu h w;have b:∀x∈ [WQ q p],Hx x:=fun x A=>by rw[Vb]at A;subst A;show q.2.2.1<=_;omega
  have z:Rv [WQ q p]=p.2.2.1:=by have f:=ZeP ([WQ q p],()) (by simp) b;rw[ZeO]at f;have m:F138 ([WQ q p],())=some (Rv [WQ q p]):=ZcO _ (by simp);rw[m]at f;rw[Option.some.inj f];unfold We HW WQ KM;simp only[Vn,Vpa,Vu,Vqa];rw[Zg (by simp;omega)];omega
  refine⟨?_,?_,?_,?_,?_⟩
  ·show (!decide (q.2.1=q.2.1))=false;simp
  ·rw[l];show (true&&decide (q.2.2.1<q.2.2.1))=false;simp
  ·have:K0 [WQ q p]=0:=rfl;rw[this];exact Zi (by omega)
  ·rw[z];exact Zi (by omega)
  ·have B:F121 n=some true:=by rw[GA h.fit];exact congrArg some (Ze h.whole)
   have d:n.2.2.2.2.2.1.1.length<=4096:=by have:=(W5 h.whole.sound.fare).many;omega
   obtain⟨c,o,r⟩:=Zdu h.whole.sound B d q [WQ q p] (by simp);obtain⟨H,j,k,_⟩:=Zdw n q ([WQ q p],()) h.fit (by simp) b;rw[o]at k;rw[C]at j;rw[<-r,Option.some.inj k, <-Option.some.inj j]
theorem ZnP(h:Wu n q):∃l,F166 n q=some l/\l.length<=61/\Hw q l/\(∀x∈l,∃L,x.1=(L,())/\JA n q L/\(WX n q L).2=0/\F78 n q (L,())=some (x.2.1,x.2.2.1,0))/\
 ∀L,JA n q L->(WX n q L).2=0->∀c t,F78 n q (L,())=some (c,t,0)->∃x∈l,ZX (KG q x) (Z3 q c):=by
 have U:(ZC:Nat)=549755813888:=rfl;have S:=h.tin.paths;have W:=h.qnum;unfold F166;refine Wo (fun v:List Yh=>v.length<=1/\ ∀j,j∈v↔j=([],())/\q.1=q.2.1) ?_ ?_
 ·by_cases he:q.1=q.2.1
  all_goals simp_all
 ·rintro v ⟨X,j2⟩;refine Wo (fun J:List Yh=>J.length<=61/\ ∀j,j∈J↔JA n q j.1) ?_ ?_
  ·refine Kf n.2.2.2.2.1.length _ (fun k (s:List Yh×Int)=>s.2=(k:Int)/\s.1.length<=1+k/\ ∀j,j∈s.1↔(j.1=[]/\q.1=q.2.1)\/ ∃p∈n.2.2.2.2.1.take k,p.1=q.1/\p.2.1=q.2.1/\j.1=[WQ q p]) ?_ ?_ _ ⟨rfl,by simpa using X,fun j=>?_⟩
   ·rintro k ⟨J,_⟩ d ⟨rfl,u,o⟩;left;simp only at u o;have M:idx n.2.2.2.2.1 (k:Int)=some n.2.2.2.2.1[k]:=ZA d;have V:=h.whole.ok.path _ (Vh d);have m:∀w,w∈n.2.2.2.2.1.take (k+1)↔w∈n.2.2.2.2.1.take k\/w=n.2.2.2.2.1[k]:=fun w=>by rw[Va d,Vd,Vb]
    generalize n.2.2.2.2.1[k]=p at*;have I:Vg .i64 (q.2.2.1 - p.2.2.1)=q.2.2.1 - p.2.2.1:=Zx (by omega) (by omega);simp only[ZL d,Zd,M,Za,I,ZU d (by omega)]
    have skip:¬(p.1=q.1/\p.2.1=q.2.1)->∀j:Yh,j∈J↔(j.1=[]/\q.1=q.2.1)\/ ∃p∈n.2.2.2.2.1.take (k+1),p.1=q.1/\p.2.1=q.2.1/\j.1=[WQ q p]:=fun hn j=>by
     rw[o j];refine or_congr Iff.rfl ⟨fun⟨K,a,b⟩=>⟨K,(m K).2 (.inl a),b⟩,fun⟨K,a,b⟩=>?_⟩
     grind
    by_cases A:p.1=q.1
    case neg=>rw[Zi A];exact⟨_,rfl,rfl,by grind,by grind⟩
    rw[Ze A];by_cases B:p.2.1=q.2.1
    case neg=>rw[Zi B];exact⟨_,rfl,rfl,by grind,by grind⟩
    rw[Ze B];have r:((false,0,0,0,p.1,p.2.1,q.2.2.1 - p.2.2.1,q.2.2.1,false,()):Zs)=WQ q p:=by rw[A,B];rfl
    simp only[Zd,Za];rw[r]
    have hg:ZF (decide (J.length+ [(([WQ q p],()):Yh)].length<=ZC))=some ():=by rw[Ze (by grind)];rfl
    refine⟨(J++[([WQ q p],())],((k+1:Nat):Int)),?_,rfl,by grind,fun j=>?_⟩
    all_goals grind
   ·rintro ⟨J,_⟩ ⟨rfl,u,o⟩;rw[Vk]at o;have Z:J.length<=1+n.2.2.2.2.1.length:=u;exact⟨J,by simp,by omega,o⟩
   grind
  ·rintro J ⟨u,o⟩
   refine Wo (fun l:List Ku=>l.length<=61/\Hw q l/\(∀x∈l,∃L,x.1=(L,())/\JA n q L/\(WX n q L).2=0/\F78 n q (L,())=some (x.2.1,x.2.2.1,0))/\
    ∀L,JA n q L->(WX n q L).2=0->∀c t,F78 n q (L,())=some (c,t,0)->∃x∈l,ZX (KG q x) (Z3 q c)) ?_ (by grind)
   refine Kf J.length _ (fun k (s:List Ku×List Yh×Int)=>s.2=(J,(k:Int))/\s.1.length<=k/\Hw q s.1/\(∀x∈s.1,∃L,x.1=(L,())/\JA n q L/\(WX n q L).2=0/\F78 n q (L,())=some (x.2.1,x.2.2.1,0))/\
    ∀j∈J.take k,(WX n q j.1).2=0->∀c t,F78 n q j=some (c,t,0)->∃x∈s.1,ZX (KG q x) (Z3 q c)) ?_ ?_ _ ⟨rfl,by simp,.nil,by simp,by simp⟩
   ·rintro k ⟨out,_⟩ d ⟨rfl,o1,N,o3,O⟩;left;simp only at o1 N o3 O;have m:∀w,w∈J.take (k+1)↔w∈J.take k\/w=J[k]:=fun w=>by rw[Va d,Vd,Vb]
    have H:=(o _).1 (Vh d);have E:=Vc d;generalize J[k]=j at*;obtain⟨z,⟨⟩⟩:=j
    have f:z.length<=20:=by
     rcases H with ⟨e,_⟩|⟨p,_,_,_,e⟩
     all_goals grind
    simp only[ZL d,Zd,Kg d,E,Za,Zjz h.fit f,ZU d (by omega)];by_cases g:(WX n q z).2=0
    ·rw[Ze g];obtain⟨c,t,T⟩:=Zi3 h.fit h.whole f g;obtain⟨Y,f1,f2,f3,f4,Q,R⟩:=ZkW q (l:=out) ((z,()),c,t,()) (by omega);simp only[Zd,T,Za];refine⟨(Y,J,((k+1:Nat):Int)),?_,rfl,by grind,R N,fun x M=>?_,fun j G D P t' C=>?_⟩
     ·grind
     ·grind
     ·rcases (m j).1 G with G|rfl
      ·obtain⟨x,x1,x2⟩:=O j G D P t' C;obtain⟨y,y1,y2⟩:=Q x x1;exact⟨y,y1,R9 y2 x2⟩
      grind
    ·rw[Zi g]
     grind
   grind
end Q
namespace Q
open Tr Go
variable {n:Zf}{q:Zq}{L:List Zs}
theorem ZoY{i c:Nat}(a:i<n.2.2.1.length):(Zk (ZO n q) i c).1=(Zk n i c).1/\(Zk (ZO n q) i c).2.1=(Zk n i c).2.1/\(Zk (ZO n q) i c).2.2.1=(Zk n i c).2.2.1:=by
 have:Zk (ZO n q) i c=WY n q (Zk n i c):=by unfold Zk;rw[ZfL a,Zdr]
 rw[this,Zds];exact⟨rfl,rfl,rfl⟩
theorem RN(h:Wu n q){t:Int}(g:0<=t)(j:t<=3155932800):Wu n (KA q t):=by refine⟨h.fit,h.few,ZaF.2 ⟨h.whole,?_⟩,h.tin,h.max⟩;have a:=h.qb;unfold qB at a⊢;simp only[Vw,KL]at a⊢;obtain⟨b,c,_,d,e,f,_⟩:=a;refine⟨b,c,⟨g,j⟩,d,e,f,?_⟩;show (!(_&&false))=true;simp
structure Rd (n:Zf) (q:Zq) (l:Zu) (d:Int):Prop where
 rc:Rc (ZO n q) (Zy (KA q d)) (KR (ZO n q) (Zy (KA q d))) l
 fin:Xt (ZO n q) (Zy (KA q d)) l
 rides:0<l.2.2.1
 time:l.2.1<=q.2.2.1
 dep:(l.2.2.2.2.2.1[0]?).map (fun x=>x.2.2.2.2.2.2.1)=some d
 first:0<=d/\d<=q.2.2.1
 near:∃i c w,i<n.2.2.1.length/\c<(Zw n i).length/\Rg n q (Zk n i c).1 w/\d=(Zk n i c).2.2.1 - w
theorem Zhe{l:Zu}{d:Int}(h:Rd n q l d):l.2.2.2.2.2.1≠ []:=fun e=>by have:=h.dep;rw[e]at this;cases this
theorem Zhd(h:Wu n q){l:Zu}{d:Int}(a:Rd n q l d){c:YH}{t:List (Int×Int×Int×Int×Unit)}(m:F78 n q (l.2.2.2.2.2.1,())=some (c,t,0)):
 c.1=d/\c.2.1=l.2.1/\c.2.2.1=l.2.2.1/\c.2.2.2.2.1=l.2.2.2.1/\Hh n.2.2.2.2.2.1 0<=c.2.2.2.1:=by
 have p:=h.qnum
 have g:=RN h a.first.1 (by have:=a.first.2;omega)
 have e:=g.li a.rc;have o:=e.val.len;have b:l.2.2.2.2.2.1.length<=90:=by omega
 have j:=Zdv h.fit h.whole (KA q d) (Zy (KA q d)) rfl b;have k:=Zf0 (n:=n) q (KA q d) (Zhe a);rcases Zce (Zb0 g.fit) g.wholeM g.qi e with ⟨s,v,r,f⟩|⟨_,u,f⟩
 ·rw[j,k,m]at f;obtain⟨rfl,_⟩:=Vv (Option.some.inj f);refine⟨?_,rfl,rfl,rfl,ZiW r.1.nonneg⟩;show ((l.2.2.2.2.2.1[0]?).map fun x=>x.2.2.2.2.2.2.1).getD _=d;rw[a.dep];rfl
 ·rw[j,k,m]at f;have:=(Vv (Vv (Option.some.inj f)).2).2;cases this
theorem Zk1(h:Wu n q)(C:q.2.2.2.1=true){t:Int}(B:0<=t)(Q:t<=q.2.2.1){l:Zu}(I:Rc (ZO n q) (Zy (KA q t)) (KR (ZO n q) (Zy (KA q t))) l)(f:Xt (ZO n q) (Zy (KA q t)) l)(K:0<l.2.2.1)(m:l.2.1<=q.2.2.1):∃d,t<=d/\Rd n q l d:=by
 have k:=h.qnum;have g:=RN h B (by omega);have j:=k.2.2.2.2.2 C;rcases Zhc g.wholeM g.tinM g.qi j g.li0 I with ⟨R,_⟩|⟨d,x,L,s,_,u,v,O,_,⟨i,c,w,G,D,M,E⟩,y⟩
 ·omega
 ·have b:i<n.2.2.1.length:=by have:(ZO n q).2.2.1.length=n.2.2.1.length:=Vm ..;have H:i<(ZO n q).2.2.1.length:=G;omega
  obtain⟨z,P,A⟩:=ZoY (n:=n) (q:=q) (c:=c) b;refine⟨d,v,y,f,K,m,by rw[s, <-u];rfl,⟨by omega,by omega⟩,i,c,w,b,?_,?_,?_⟩
  ·have e:c<(Zw (ZO n q) i).length:=D;rw[ZfL b,Vm]at e;exact e
  ·rw[<-z];rcases M with ⟨o,r⟩|⟨p,J,o,r,N⟩
   ·exact .inl ⟨o,r⟩
   ·refine .inr ⟨p,?_,o,r,N⟩;have a:p∈JX n q:=J;unfold JX at a;split at a
    ·exact(Vq.1 a).1
    ·exact a
  ·rw[<-A];exact E
def Zbv(n:Zf)(q:Zq)(x:Ku):Prop:= ∃L,x.1=(L,())/\F78 n q (L,())=some (x.2.1,x.2.2.1,0)/\((JA n q L/\(WX n q L).2=0)\/ ∃l d,Rd n q l d/\l.2.2.2.2.2.1=L)
theorem ZeK(a:q.2.2.2.1=true)(c:YH)(b:0<=c.1)(d:c.1<=3155932800):Z3 q c=[-c.1,c.2.2.1,c.2.2.2.1,c.2.2.2.2.1]:=by unfold Z3;rw[Zo a,Zx (by omega) (by omega),Int.zero_sub]
theorem ZgC{a b c d e f c' g:Int}(h:a<=e)(j:b<=f)(k:c<=c')(l:d<=g):ZX [a,b,c,d] [e,f,c',g]:=by
 intro i m;rcases (show i=0\/i=1\/i=2\/i=3 by omega) with rfl|rfl|rfl|rfl
 ·exact h
 ·exact j
 ·exact k
 ·exact l
theorem ZrL{a b c d e f c' g:Int}(h:ZX [a,b,c,d] [e,f,c',g]):a<=e/\b<=f/\c<=c' /\d<=g:=⟨h 0 (by omega),h 1 (by omega),h 2 (by omega),h 3 (by omega)⟩
theorem ZrD(h:Wu n q)(g:q.2.2.2.1=true){t:Int}(Z:0<=t)(h1:t<=q.2.2.1):∃R:List Ku,F172 n (KA q t)=some (R,0)/\R.length<=542198816521/\
 (∀x∈R,0<x.2.1.2.2.1->x.2.1.2.1<=q.2.2.1->Zbv n q x/\ ∃l d,Rd n q l d/\t<=d/\x.1=(l.2.2.2.2.2.1,()))/\
 ∀l,Rd n q l t->∀c tk,F78 n q (l.2.2.2.2.2.1,())=some (c,tk,0)->(∃x∈R,0<x.2.1.2.2.1/\x.2.1.2.1<=q.2.2.1/\ZX (KG q x) (Z3 q c))\/ ∃L c' y,JA n q L/\(WX n q L).2=0/\F78 n q (L,())=some (c',y,0)/\ZX (Z3 q c') (Z3 q c):=by
 have o:=h.qnum;have a:=RN h Z (by omega);obtain⟨R,r1,r2,r3,r4,_⟩:=ZjN a rfl;have K:∀c:YH,Z3 (KA q t) c=[c.2.1,c.2.2.1,c.2.2.2.1,c.2.2.2.2.1]:=fun c=>rfl
 have num:∀x:Ku,x∈R->∃l,Rc (ZO n q) (Zy (KA q t)) (KR (ZO n q) (Zy (KA q t))) l/\x.1=(l.2.2.2.2.2.1,())/\Xt (ZO n q) (Zy (KA q t)) l/\x.2.1.2.1=l.2.1/\x.2.1.2.2.1=l.2.2.1/\x.2.1.2.2.2.2.1=l.2.2.2.1:=fun x N=>by
  obtain⟨v,l,r,u,w⟩:=r3 x N;have E:=a.li r;have a0:=E.val.len;have D:l.2.2.2.2.2.1.length<=90:=by omega
  have A:=Zdv h.fit h.whole (KA q t) (Zy (KA q t)) rfl D;rw[u]at v;rcases Zce (Zb0 a.fit) a.wholeM a.qi E with ⟨s,y,g1,B⟩|⟨_,c',B⟩
  ·rw[A,v]at B;have e:=(Vv (Option.some.inj B)).1;exact⟨l,r,u,w,by rw[e],by rw[e],by rw[e]⟩
  ·rw[A,v]at B;have:=(Vv (Vv (Option.some.inj B)).2).2;cases this
 have good:∀x:Ku,x∈R->0<x.2.1.2.2.1->x.2.1.2.1<=q.2.2.1->Zbv n q x/\ ∃l d,Rd n q l d/\t<=d/\x.1=(l.2.2.2.2.2.1,()):=fun x N T a6=>by obtain⟨l,r,u,w,A,e2,_⟩:=num x N;obtain⟨d,z,M⟩:=Zk1 h g Z h1 r w (by omega) (by omega);have v:=(r3 x N).1;rw[u,Zf0 (n:=n) q (KA q t) (Zhe M)]at v;exact⟨⟨l.2.2.2.2.2.1,u,v,.inr ⟨l,d,M,rfl⟩⟩,l,d,M,z,u⟩
 refine⟨R,r1,r2,good,fun l k c tk hc=>?_⟩;obtain⟨n1,n2,n3,n4,n5⟩:=Zhd h k hc;have O:F78 n (KA q t) (l.2.2.2.2.2.1,())=some (c,tk,0):=by rw[Zf0 (n:=n) q (KA q t) (Zhe k)];exact hc
 obtain⟨x,W,x2⟩:=r4 l k.rc k.fin c tk O;rw[K,K]at x2;obtain⟨y1,y2,y3,y4⟩:=ZrL x2;have a2:=k.time;have j:Z3 q c=[-c.1,c.2.2.1,c.2.2.2.1,c.2.2.2.2.1]:=ZeK g c (by omega) (by omega);by_cases T:0<x.2.1.2.2.1
 ·left;obtain⟨⟨L',o1,o2,_⟩,V,d,z,M,X⟩:=good x W T (by omega);have hL:L' =V.2.2.2.2.2.1:=by rw[o1]at X;exact(Vv X).1
  subst hL;obtain⟨m1,_⟩:=Zhd h z o2
  have U:KG q x=[-x.2.1.1,x.2.1.2.2.1,x.2.1.2.2.2.1,x.2.1.2.2.2.2.1]:=ZeK g x.2.1 (by have:=z.first;omega) (by have:=z.first;omega)
  refine⟨x,W,T,by omega,?_⟩;rw[U,j];exact ZgC (by omega) y2 y3 y4
 ·right;obtain⟨V,r,u,w,A,e2,Y⟩:=num x W;have G:=a.li r;have a5:=G.val.rides;have a1:V.2.2.1=0:=by omega
  have P:=o.2.2.2.2.2 g;rcases Zhc a.wholeM a.tinM a.qi P a.li0 r with ⟨_,Q|⟨p,hp,⟨w1,w2,_⟩,S⟩⟩|⟨_,_,_,_,_,_,_,_,e6,_⟩
  ·subst Q;have C:q.1=q.2.1:=w.2;obtain⟨y,f⟩:=ZfZ h.fit h.whole q;refine⟨[],_,y,.inl ⟨rfl,C⟩,ZrK h.chk C,f,?_⟩;rw[j,ZeK g _ o.2.2.1.1 o.2.2.1.2];have a8:x.2.1.2.2.2.2.1=0:=Y;refine ZgC ?_ ?_ n5 ?_
   ·show -q.2.2.1<= -c.1;omega
   ·show (0:Int)<=_;have:=k.rides;omega
   ·show (0:Int)<=_;omega
  ·subst S;have m:p∈(ZO n q).2.2.2.2.1:=hp;have a4:=h.wholeM.ok.path p m
   have J:p∈n.2.2.2.2.1:=by
    have b:p∈JX n q:=m;unfold JX at b;split at b
    ·exact(Vq.1 b).1
    ·exact b
   have H:p.1=q.1:=w1;have I:p.2.1=q.2.1:=w.2;have a3:0+p.2.2.1<=q.2.2.2.2.2.1:=w2;have a7:x.2.1.2.1=t+p.2.2.1:=A;have a9:x.2.1.2.2.2.2.1=0+p.2.2.1:=Y;obtain⟨y,f⟩:=Zgu h J;rw[Zg (by omega)]at f;refine⟨[WQ q p],_,y,.inr ⟨p,J,H,I,rfl⟩,Zuk h g m H I (by omega) (by omega),f,?_⟩;rw[j,ZeK g _ (by show 0<=q.2.2.1 - p.2.2.1;omega) (by show q.2.2.1 - p.2.2.1<=_;omega)];refine ZgC ?_ ?_ n5 ?_
   ·show -(q.2.2.1 - p.2.2.1)<= -c.1;omega
   ·show (0:Int)<=_;have:=k.rides;omega
   ·show p.2.2.1<=_;omega
  ·omega
end Q
namespace Q
open Tr Go
variable {n:Zf}{q:Zq}
def RB(n:Zf)(q:Zq)(a:List Int)(l:List Ku):Prop:=Hw q l/\ ∀x∈l,Zbv n q x/\Ze4 a x
def JZ(q:Zq)(l:List Ku)(v:List Int):Prop:= ∃y∈l,ZX (KG q y) v
theorem Zsv(h:Wu n q){l:Zu}{d:Int}(b:Rd n q l d){c:YH}{t:List (Int×Int×Int×Int×Unit)}(f:F78 n q (l.2.2.2.2.2.1,())=some (c,t,0)):c.1=d/\(0<=c.2.2.1/\c.2.2.1<=3)/\(0<=c.2.2.2.2.1/\c.2.2.2.2.1<=86400):=by
 obtain⟨j,_,r,s,_⟩:=Zhd h b f;have g:=h.qnum
 have e:=RN h b.first.1 (by have:=b.first.2;omega)
 have a:=e.li b.rc;have k:l.2.2.1<=q.2.2.2.2.1:=a.val.rides.2;have m:=a.val.rides.1;have o:l.2.2.2.1<=q.2.2.2.2.2.1:=a.val.walk.2;have p:=a.val.walk.1;have:=h.max;exact⟨j,⟨by omega,by omega⟩,⟨by omega,by omega⟩⟩
theorem ZsE(h:Wu n q)(hb:q.2.2.2.1=true):∃R:List Ku,F164 n q=some (R,0)/\R.length<4294967296/\(R.Pairwise fun x y=>J3 (KG q x) (KG q y))/\Hw q R/\(∀x∈R,Zbv n q x)/\
 ∀L,((JA n q L/\(WX n q L).2=0)\/ ∃l d,Rd n q l d/\l.2.2.2.2.2.1=L)->∀c t,F78 n q (L,())=some (c,t,0)->JZ q R (Z3 q c):=by
 have a7:=h.qnum;have b3:(ZC:Nat)=549755813888:=rfl;obtain⟨A,a1,a2,a3,a4,a5⟩:=ZnP h;obtain⟨ds,d1,d2,d3,d4⟩:=ZpT h.whole.ok h.tin a7.1
 have U:∀D,D=ds++A.map (fun x=>x.2.1.1)->D.length*345604<=906519292:=fun D hD=>by rw[hD,Vi,Vm];omega
 generalize T:ds++A.map (fun x:Ku=>x.2.1.1)=D at U;have hD:=U D rfl;have bound:∀l,RB n q D l->l.length<=906519292:=fun l o=>Vj (ZqS hb D o.1 fun x f=>(o.2 x f).2) hD
 have O:RB n q D A:=by
  refine⟨a3,fun x f=>?_⟩;obtain⟨L,g,m,e3,S⟩:=a4 x f;refine⟨⟨L,g,S,.inl ⟨m,e3⟩⟩,by rw[<-T];exact Vna _ (Vda.2 ⟨x,f,rfl⟩),?_⟩;rcases m with ⟨rfl,_⟩|⟨p,hp,_,_,rfl⟩
  ·obtain⟨t',a⟩:=ZfZ h.fit h.whole q;rw[a]at S;have:=(Vv (Option.some.inj S)).1;rw[<-this];exact⟨⟨by show (0:Int)<=0;omega,by show (0:Int)<=3;omega⟩,⟨by show (0:Int)<=0;omega,by show (0:Int)<=86400;omega⟩⟩
  ·have b4:=h.whole.ok.path p hp;obtain⟨t',a⟩:=Zgu h hp;rw[a]at S;have:=(Vv (Option.some.inj S)).1;rw[<-this];refine⟨⟨by show (0:Int)<=0;omega,by show (0:Int)<=3;omega⟩,?_⟩
   show 0<=(if _ then(0:Int) else p.2.2.1)/\(if _ then(0:Int) else p.2.2.1)<=86400
   split<;>omega
 unfold F164;rw[ZbR h.fit,h.chk,a1,d1];simp only[Za,decide_true,Vf,Zc,hb]
 suffices hs:∃r:List Ku ⊕ (List Ku×Int),_=some r/\ ∃out:List Ku,r=.inl out/\RB n q D out/\(∀v,JZ q A v->JZ q out v)/\ ∀t∈ds,∀l,Rd n q l t->∀c tk,F78 n q (l.2.2.2.2.2.1,())=some (c,tk,0)->JZ q out (Z3 q c) by
  obtain⟨_,g,out,rfl,Q,k2,k3⟩:=hs;have b1:=bound out Q
  have W:∀x∈out,∀y∈out,∃c,F165 x y q=some c/\(c<0↔J3 (KG q x) (KG q y))/\(0<c↔J3 (KG q y) (KG q x)):=fun x _ y _=>by obtain⟨z,z1,z2,z3⟩:=ZpE (Y8 q x.2.1) (Y8 q y.2.1);refine⟨z,?_,z2,z3⟩;unfold F165;rw[DH,DH];simp only[Za,z1]
  obtain⟨R,r1,r2,r3⟩:=Zmd (cmp:=fun x y=>F165 x y q) (fun x y=>J3 (KG q x) (KG q y)) out (by omega) W (fun x _=>Zd2 _) (fun _ _ _ _ _ _=>Zkz) (Q.1.imp fun {x y} u=>by
   rcases Zry (Y8 q x.2.1) (Y8 q y.2.1) with e|e|e
   ·exact absurd (show ZX (KG q x) (KG q y) by show ZX (Z3 q x.2.1) (Z3 q y.2.1);rw[e];exact Rb _) u.1
   ·exact .inl e
   ·exact .inr e)
  refine⟨R,?_,by rw[r2.length_eq];omega,r3,?_,fun x f=>(Q.2 x (r2.mem_iff.1 f)).1,fun L hL c t V=>?_⟩
  ·refine KD (fun x=>x=Sum.inl out) ⟨_,g,rfl⟩ (fun x f=>?_);subst f;simp only[Vmb];refine KD (fun x=>x=R) ⟨_,r1,rfl⟩ (fun x f=>?_);subst f;rfl
  ·exact(List.Perm.pairwise_iff (fun {x y} u=>⟨u.2,u.1⟩) r2.symm).1 Q.1
  ·have X:JZ q out (Z3 q c):=by
    rcases hL with ⟨j1,j2⟩|⟨l,d,o,rfl⟩
    ·exact k2 _ (a5 L j1 j2 c t V)
    ·obtain⟨i,cc,w,hi,I,j,J⟩:=o.near
     have Z:d∈ds:=by rw[J];exact d4 i cc hi I w j (by rw[<-J];exact o.first.1) (by rw[<-J];exact o.first.2)
     exact k3 d Z l o c t V
   obtain⟨y,B,C⟩:=X;exact⟨y,r2.mem_iff.2 B,C⟩
 refine Kf ds.length (fun r:List Ku ⊕ (List Ku×Int)=>∃out:List Ku,r=.inl out/\RB n q D out/\(∀v,JZ q A v->JZ q out v)/\ ∀t∈ds,∀l,Rd n q l t->∀c tk,F78 n q (l.2.2.2.2.2.1,())=some (c,tk,0)->JZ q out (Z3 q c))
  (fun k (s:List Ku×Int)=>s.2=(k:Int)/\RB n q D s.1/\(∀v,JZ q A v->JZ q s.1 v)/\ ∀t∈ds.take k,∀l,Rd n q l t->∀c tk,F78 n q (l.2.2.2.2.2.1,())=some (c,tk,0)->JZ q s.1 (Z3 q c)) ?_ ?_ _ ⟨rfl,O,fun v M=>M,by simp⟩
 ·rintro k ⟨out,_⟩ Y ⟨rfl,o1,o2,o3⟩;left;simp only at o1 o2 o3;have f:idx ds (k:Int)=some ds[k]:=ZA Y;have a0:=d3 _ (Vh Y);have a9:∀w,w∈ds.take (k+1)↔w∈ds.take k\/w=ds[k]:=fun w=>by rw[Va Y,Vd,Vb]
  generalize ds[k]=t at*;obtain⟨R,r1,r2,r3,r4⟩:=ZrD h hb a0.1 a0.2;have a8:F172 n (q.1,q.2.1,t,false,q.2.2.2.2)=some (R,0):=r1;simp only[ZL Y,Zd,f,Za,a8,decide_true,Vf,Zc,ZU Y (show ds.length<=9223372036854775807 by omega)];refine Xr (fun b:List Ku=>RB n q D b/\(∀v,JZ q out v->JZ q b v)/\ ∀x∈R,0<x.2.1.2.2.1->x.2.1.2.1<=q.2.2.1->JZ q b (KG q x)) ?_ ?_
  ·refine Kf R.length _ (fun r (s:List Ku×Int)=>s.2=(r:Int)/\RB n q D s.1/\(∀v,JZ q out v->JZ q s.1 v)/\ ∀x∈R.take r,0<x.2.1.2.2.1->x.2.1.2.1<=q.2.2.1->JZ q s.1 (KG q x)) ?_ ?_ _ ⟨rfl,o1,fun v M=>M,by simp⟩
   ·rintro r ⟨cur,_⟩ hr ⟨rfl,E,P,c3⟩;left;simp only at E P c3;have N:idx R (r:Int)=some R[r]:=ZA hr;have K:=r3 _ (Vh hr);have H:∀w,w∈R.take (r+1)↔w∈R.take r\/w=R[r]:=fun w=>by rw[Va hr,Vd,Vb]
    generalize R[r]=x at*;simp only[ZL hr,Zd,N,Za,ZU hr (show R.length<=9223372036854775807 by omega)]
    have skip:¬(0<x.2.1.2.2.1/\x.2.1.2.1<=q.2.2.1)->∀w∈R.take (r+1),0<w.2.1.2.2.1->w.2.1.2.1<=q.2.2.1->JZ q cur (KG q w):=fun hn w j g m=>by
     rcases (H w).1 j with j|rfl
     ·exact c3 w j g m
     ·exact absurd ⟨g,m⟩ hn
    by_cases g:0<x.2.1.2.2.1
    case neg=>rw[Zi g];exact⟨_,rfl,rfl,E,P,skip fun h=>g h.1⟩
    rw[Ze g];by_cases m:x.2.1.2.1<=q.2.2.1
    case neg=>rw[Zi m];exact⟨_,rfl,rfl,E,P,skip fun h=>m h.2⟩
    rw[Ze m];simp only[Zd,Za];obtain⟨g1,l,d,G,g3,g4⟩:=K g m;have b2:=bound cur E;obtain⟨l',f1,f2,f3,f4,f5,f6⟩:=ZkW q (l:=cur) x (by omega)
    have a6:Ze4 D x:=by
     obtain⟨L',p1,p2,_⟩:=g1;have hL:L' =l.2.2.2.2.2.1:=by rw[p1]at g4;exact(Vv g4).1
     subst hL;obtain⟨Q,k2,k3⟩:=Zsv h G p2;obtain⟨i,cc,w,hi,I,j,J⟩:=G.near;refine⟨?_,k2,k3⟩;rw[Q, <-T];refine Vx _ ?_;rw[J]
     exact d4 i cc hi I w j (by rw[<-J];exact G.first.1) (by rw[<-J];exact G.first.2)
    refine⟨(l',((r+1:Nat):Int)),?_,rfl,⟨f6 E.1,fun y N=>?_⟩,fun v M=>?_,fun w j p1 p2=>?_⟩
    ·exact KD (fun y=>y=l') ⟨_,f1,rfl⟩ (fun y N=>by subst N;rfl)
    ·rcases f3 y N with N|rfl
     ·exact E.2 y N
     ·exact⟨g1,a6⟩
    ·obtain⟨y,B,C⟩:=P v M;obtain⟨z,z1,z2⟩:=f5 y B;exact⟨z,z1,R9 z2 C⟩
    ·rcases (H w).1 j with j|rfl
     ·obtain⟨y,B,C⟩:=c3 w j p1 p2;obtain⟨z,z1,z2⟩:=f5 y B;exact⟨z,z1,R9 z2 C⟩
     ·exact f4
   ·rintro ⟨cur,_⟩ ⟨rfl,E,P,c3⟩;rw[Vk]at c3;exact⟨cur,by simp only[JE,Zc],E,P,c3⟩
  ·rintro b ⟨g1,G,g3⟩;refine⟨_,rfl,rfl,g1,fun v M=>G v (o2 v M),fun t' a l o c tk V=>?_⟩;rcases (a9 t').1 a with a|rfl
   ·exact G _ (o3 t' a l o c tk V)
   ·rcases r4 l o c tk V with ⟨x,x1,x2,x3,x4⟩|⟨L,c',b0,j1,j2,j3,j4⟩
    ·obtain⟨y,B,C⟩:=g3 x x1 x2 x3;exact⟨y,B,R9 C x4⟩
    ·have hA:JZ q A (Z3 q c'):=a5 L j1 j2 c' b0 j3;obtain⟨y,B,C⟩:=G _ (o2 _ hA);exact⟨y,B,R9 C j4⟩
 ·rintro ⟨out,_⟩ ⟨rfl,o1,o2,o3⟩;rw[Vk]at o3;exact⟨.inl out,by simp only[JE,Zc],out,rfl,o1,o2,o3⟩
end Q
namespace Q
open Tr Go
variable {n:Zf}{q:Zq}{L:List Zs}
theorem Zpe(h:Wu n q)(t:q.2.2.2.1=true)(hL:0<L.length)(b:L.length=1->(lg L 0).1=true)(u:(WX n q L).2=0)(k:0<=(lg L 0).2.2.2.2.2.2.1/\(lg L 0).2.2.2.2.2.2.1<=3155932800):(WX n (KA q (lg L 0).2.2.2.2.2.2.1) L).2=0:=by
 have g:=h.qnum.2.2.2.2.2 t;obtain⟨_,⟨f,_⟩|⟨_,s,c⟩⟩:=(D2 n q L).1 u
 ·omega
 refine(D2 n _ L).2 ⟨(RN h k.1 k.2).chk,.inr ⟨by omega,fun i v=>?_,?_⟩⟩
 ·obtain⟨l,a,m⟩:=Hg.1 (s i v);refine Hg.2 ⟨l,?_,m⟩;unfold Gj at a⊢;by_cases j:i=0
  ·rw[Ze j]at a⊢;have d:YX n q L=0:=a;obtain⟨o,p,r,w,x,y⟩:=ZaP.1 d;show YX n (KA q (lg L 0).2.2.2.2.2.2.1) L=0;refine ZaP.2 ⟨o,p,r,?_,?_,?_⟩
   ·by_cases f:L.length=1
    ·rw[b f];rfl
    ·rw[Zi f];simp
   ·show (!false&&decide ((lg L 0).2.2.2.2.2.2.1<(lg L 0).2.2.2.2.2.2.1))=false;simp
   ·have e:(KA q (lg L 0).2.2.2.2.2.2.1).2.2.2.2.2.2.2.2.2.1=false:=g;rw[e];rfl
  ·rw[Zi j]at a⊢;exact a
 ·unfold Yw at c⊢;rw[Kt (by omega),Kt (by omega),Kt (by omega),Kt (by omega)]at c⊢;exact⟨c.1,rfl,c.2.2⟩
theorem Zql(h:Wu n q)(r:q.2.2.2.1=true)(Z:L.length<=1000)(t:(WX n q L).2=0):(JA n q L/\(WX n q L).2=0)\/ ∃l d,Rd n q l d/\l.2.2.2.2.2.1=L:=by
 have N:=h.qnum;have E:=N.2.2.2.2.2 r;have B:=h.wholeM.ok;obtain⟨_,⟨T,m⟩|⟨T,m,A⟩⟩:=(D2 n q L).1 t
 ·exact .inl ⟨.inl ⟨Vz T,m⟩,t⟩
 have hL:0<L.length:=by omega
 unfold Yw at A;rw[Kt (by omega),Kt (by omega),Kt (by omega),Kt (by omega)]at A;obtain⟨w,P,_,_,_⟩:=A;simp only[Vaa,KL]at w;rw[r]at P;simp only[Vka,decide_eq_false_iff_not]at P;have U:=ZbM (m 0 hL);have C:∀i,i<L.length->WD (ZO n q) (Zy q) L i=0:=fun i Y=>ZfA.2 (m i Y);obtain⟨W,X,_⟩:=Hg.1 (C 0 hL);have z:YX (ZO n q) (Zy q) L=0:=X;obtain⟨Q,f2,_,R,_⟩:=ZaP.1 z;by_cases b:L.length=1->(lg L 0).1=true
 ·right
  have u:0<=(lg L 0).2.2.2.2.2.2.1/\(lg L 0).2.2.2.2.2.2.1<=3155932800:=by have S:=(Hg.1 (m 0 hL)).1;rw[ZdZ,Kt (by omega),Kt (by omega),Kt (by omega)]at S;have:=S.2.2.1;unfold Zad at this;rw[Vfa]at this;simp only[Vaa,KL]at this;exact this.1
  have f:=RN h u.1 u.2;obtain⟨l,O,g,k3⟩:=ZjA f rfl Z (Zpe h r hL b t u);have J:=f.li O
  have a2:l.2.1=(lg L (L.length - 1)).2.2.2.2.2.2.2.1:=by
   have:=J.last (L.take (L.length - 1)) (lg L (L.length - 1)) (by rw[g];have:=ZcL (L:=L) (i:=L.length - 1) (by omega);rw[show L.length - 1+1=L.length by omega,Vk]at this;exact this)
   exact this.symm
  rcases Zhc f.wholeM f.tinM f.qi E f.li0 O with ⟨_,H|⟨p,V,_,K⟩⟩|⟨d',x,L',q1,_,q3,q4,q5,q6,_,_⟩
  ·exfalso;rw[H]at g;have:L=[]:=g.symm;rw[this]at hL;simp at hL
  ·exfalso;rw[K]at g;have o:L=[KM q.1 p.2.1 (lg L 0).2.2.2.2.2.2.1 ((lg L 0).2.2.2.2.2.2.1+p.2.2.1)]:=g.symm;have s:L.length=1:=by rw[o];rfl
   have:=b s;rw[o]at this;cases this
  ·have G:(lg L 0).2.2.2.2.2.2.1<=q.2.2.1:=by omega
   obtain⟨d,_,hr⟩:=Zk1 h r u.1 G O k3 q6 (by omega);exact⟨l,d,hr,g⟩
 ·left;refine⟨?_,t⟩
  have I:L.length=1:=by
   by_cases h:L.length=1
   ·exact h
   ·exact absurd (fun e=>absurd e h) b
  have hw:(lg L 0).1=false:=by
   cases v:(lg L 0).1 with
   |false=>rfl
   |true=>exact absurd (fun _=>v) b
  obtain⟨p,V,a,e,a0,a1⟩:=(Zcd B).1 ⟨W,hw⟩
  have M:p∈n.2.2.2.2.1:=by
   have c:p∈JX n q:=V;unfold JX at c;split at c
   ·exact(Vq.1 c).1
   ·exact c
  obtain⟨x,rfl⟩:=Vua.1 I;have v:x=KM p.1 p.2.1 a (a+p.2.2.1):=e;have k:p.1=q.1:=by rw[e]at Q;exact Q
  have j:p.2.1=q.2.1:=by have:(lg [x] ([x].length - 1))=x:=rfl;rw[this,v]at w;exact w
  have ht:a+p.2.2.1=q.2.2.1:=by have D:(Zy q).2.2.2.1=true:=r;rw[D,e]at R;have y:(!false&& (decide (1=1) && !decide (a+p.2.2.1=q.2.2.1)))=false:=R;simpa using y
  refine .inr ⟨p,M,k,j,?_⟩;rw[v];unfold WQ;rw[k,j,ht];congr 2;omega
theorem ZrT(h:Wu n q){x:Ku}(j:Zbv n q x):x.1.1.length<=80:=by
 obtain⟨L,e,_,⟨f,_⟩|⟨l,d,a,rfl⟩⟩:=j
 ·rw[e];rcases f with ⟨rfl,_⟩|⟨p,_,_,_,rfl⟩
  ·exact Vba _
  ·exact Nat.le_of_ble_eq_true rfl
 ·have g:=h.qnum
  have c:=a.first
  have b:=RN h c.1 (by omega);rw[e];exact(b.li a.rc).val.len
theorem ZrU(h:Wu n q):∃R:List Ku,F109 n q=some (R,0)/\R.length<=542198816521/\(∀x∈R,F78 n q x.1=some (x.2.1,x.2.2.1,0)/\x.1.1.length<=80)/\
 ∀L,L.length<=20->(WX n q L).2=0->∀c t,F78 n q (L,())=some (c,t,0)->JZ q R (Z3 q c):=by
 unfold F109;rw[ZbR h.fit,h.chk];simp only[Za,decide_true,Vf,Zc]
 cases e:q.2.2.2.1 with
 |true=>
  obtain⟨R,f,g,_,_,d,s⟩:=ZsE h e;simp only[Zd,f,Za];refine⟨R,rfl,by omega,fun x b=>?_,fun L u o c t a=>s L (Zql h e (by omega) o) c t a⟩;obtain⟨L,k,m,_⟩:=d x b
  exact⟨by rw[k];exact m,ZrT h (d x b)⟩
 |false=>
  obtain⟨R,f,g,j,_,d⟩:=ZjN h e;simp only[Zc,f,Za];refine⟨R,rfl,g,fun x b=>⟨(j x b).1,?_⟩,d⟩;obtain⟨l,p,r,_⟩:=(j x b).2;rw[r];exact(h.li p).val.len
end Q
namespace Q
open Tr Go
theorem ZaA:F205=some true:=by kernel_rfl
end Q
namespace Q
open Tr Go
variable {n:Zf}{q:Zq}
theorem ZjH(h:Yf ZH n)(f:n.2.2.2.2.1.length<=4096):W1 n:=by
 obtain⟨⟨_,c⟩,⟨_,d⟩,⟨_,b⟩,_,_,⟨⟨_,e⟩,_⟩,_⟩:=h;refine⟨fun x a=>?_,fun x a=>?_,fun x a=>?_,fun x a=>?_,f,fun x a=>?_⟩
 ·exact(c x a).1
 ·exact(d x a).1
 ·exact(b x a).2.2.2.1
 ·exact(b x a).2.2.2.2.2.2.2.1.1
 ·exact(e x a).1
open Classical in
theorem Zto(h:Yf ZH n):∃b,F120 n=some b/\(b=true->JO n/\n.2.2.2.1.length<=30/\Whole n):=by
 unfold F120;by_cases t:5<n.1.length
 ·rw[Ze (show (5:Int)<(n.1.length:Int) by omega)];exact⟨false,rfl,fun e=>by cases e⟩
 rw[Zi (show¬(5:Int)<(n.1.length:Int) by omega)];by_cases u:7<n.2.2.1.length
 ·rw[Ze (show (7:Int)<(n.2.2.1.length:Int) by omega)];exact⟨false,rfl,fun e=>by cases e⟩
 rw[Zi (show¬(7:Int)<(n.2.2.1.length:Int) by omega)];by_cases c3:30<n.2.2.2.1.length
 ·rw[Ze (show (30:Int)<(n.2.2.2.1.length:Int) by omega)];exact⟨false,rfl,fun e=>by cases e⟩
 rw[Zi (show¬(30:Int)<(n.2.2.2.1.length:Int) by omega)];by_cases v:60<n.2.2.2.2.1.length
 ·rw[Ze (show (60:Int)<(n.2.2.2.2.1.length:Int) by omega)];exact⟨false,rfl,fun e=>by cases e⟩
 rw[Zi (show¬(60:Int)<(n.2.2.2.2.1.length:Int) by omega)];simp only[Zc,Za];have c:=ZjH h (by omega)
 suffices o:∃r:Unit ⊕ Bool,_=some r/\((r=.inl ()/\ ∀i,i<n.2.2.1.length->(Zw n i).length<=6)\/r=.inr false) by
  obtain⟨r,g,l⟩:=o;rcases l with ⟨rfl,a⟩|rfl
  ·refine⟨decide (Whole n),KD (fun x=>x=Sum.inl ()) ⟨_,g,rfl⟩ (fun x f=>?_),fun p=>⟨⟨by omega,by omega,by omega,a⟩,by omega,X2 p⟩⟩;subst f;simp only[Vmb];rw[GA c];rfl
  ·exact⟨false,KD (fun x=>x=Sum.inr false) ⟨_,g,rfl⟩ (fun x f=>by subst f;rfl),fun e=>by cases e⟩
 refine Kf n.2.2.1.length (fun r:Unit ⊕ Bool=>(r=.inl ()/\ ∀i,i<n.2.2.1.length->(Zw n i).length<=6)\/r=.inr false) (fun i (s:Int)=>s=(i:Int)/\ ∀j,j<i->(Zw n j).length<=6) ?_ ?_ _ ⟨rfl,fun j m=>by omega⟩
 ·rintro i _ d ⟨rfl,a⟩;simp only[ZL d,Zd,R1 d,Za];by_cases w:6<(Zw n i).length
  ·rw[Ze (show (6:Int)<((rn n (i:Int)).2.2.2.2.2.2.2.1.length:Int) by show (6:Int)<((Zw n i).length:Int);omega)];exact .inr ⟨_,rfl,.inr rfl⟩
  ·rw[Zi (show¬(6:Int)<((rn n (i:Int)).2.2.2.2.2.2.2.1.length:Int) by show¬(6:Int)<((Zw n i).length:Int);omega)];refine .inl ⟨_,rfl,ZU d (by omega),fun j m=>?_⟩;rcases Vlb j i with k|k
   ·exact a j k
   ·have:j=i:=by omega
    subst this;omega
 ·rintro _ ⟨rfl,a⟩;exact⟨.inl (),by simp only[JE,Zc],.inl ⟨rfl,a⟩⟩
theorem Zqv(h:Yf ZH n)(q:Zq):∃b,F206 n q=some b/\(b=true->Wu n q):=by
 unfold F206;obtain⟨b,f,g⟩:=Zto h;rw[f]
 cases b with
 |false=>simp
 |true=>
  obtain⟨c,l,d⟩:=g rfl;have a:=ZjH h (by have:=c.paths;omega);simp only[Za,Zd];by_cases j:q.2.2.2.2.1<=3
  case neg=>grind
  rw[Ze j,Zi5 a];refine⟨_,rfl,fun e=>⟨a,⟨by have:=c.stops;omega,?_,by have:=c.runs;omega,by omega,by have:=c.paths;omega,by have:=(W5 d.sound.fare).many;omega,fun r k=>?_⟩,X2 e,c,j⟩⟩
  ·have t:=d.t;unfold Gt at t
   grind
  ·have:=(d.sound.many r k).2;omega
theorem Zqd{a b:Yh}(k:a.1.length<=1000):∃t,F79 a b=some t/\(t=true->a.1=b.1):=by
 obtain⟨a,⟨⟩⟩:=a;obtain⟨b,⟨⟩⟩:=b;simp only at k;unfold F79;by_cases m:a.length=b.length
 case neg=>rw[Zi (by grind)];simp
 rw[Ze (by grind)];simp only[Vf,Zc]
 suffices o:∃r:Unit ⊕ Bool,_=some r/\(r=.inr false\/(r=.inl ()/\ ∀i,i<a.length->a[i]? =b[i]?)) by
  obtain⟨r,f,g⟩:=o;rcases g with rfl|⟨rfl,h⟩
  ·exact⟨false,KD (fun x=>x=Sum.inr false) ⟨_,f,rfl⟩ (fun x p=>by subst p;rfl),fun e=>by cases e⟩
  ·refine⟨true,by grind,fun _=>?_⟩;refine Vqb m fun i w z=>?_
   grind
 refine Kf a.length (fun r:Unit ⊕ Bool=>r=.inr false\/(r=.inl ()/\ ∀i,i<a.length->a[i]? =b[i]?)) (fun i (s:Int)=>s=(i:Int)/\ ∀j,j<i->a[j]? =b[j]?) ?_ ?_ _ (by simp)
 ·rintro i _ d ⟨rfl,A⟩;have c:i<b.length:=by omega
  have f:idx a (i:Int)=some a[i]:=ZA d;have g:idx b (i:Int)=some b[i]:=ZA c;have u:=Vc d;have v:=Vc c;simp only[ZL d,Zd,f,g,Za];generalize a[i]=x at*;generalize b[i]=y at*
  cases l:(x.1==y.1&& (decide (x.2.1=y.2.1) && (decide (x.2.2.1=y.2.2.1) && (decide (x.2.2.2.1=y.2.2.2.1) && (decide (x.2.2.2.2.1=y.2.2.2.2.1) && (decide (x.2.2.2.2.2.1=y.2.2.2.2.2.1) && (decide (x.2.2.2.2.2.2.1=y.2.2.2.2.2.2.1) && (decide (x.2.2.2.2.2.2.2.1=y.2.2.2.2.2.2.2.1) &&x.2.2.2.2.2.2.2.2.1==y.2.2.2.2.2.2.2.2.1)))))))) with
  |false=>simp
  |true=>
   simp only[Vw,KL,Kv]at l;refine .inl ⟨_,rfl,ZU d (by omega),fun j B=>?_⟩
   grind
 simp
theorem ZjE{f:Ku->Option Bool}{P:Ku->Prop}{l:List Ku}(m:l.length<=549755813888)(d:∀x∈l,∃t,f x=some t/\(t=true->P x))(b:∀x∈l,f x=some false->¬P x):
 ∃r:Unit ⊕ (Int×Bool),run (fun s0:Int=>bif decide (s0<(l.length:Int)) then Vma (idx l s0) fun h=>Vma (f h) fun j=>bif j then some (.inr (.inr (s0,true))) else some (.inl (Vg .i64 (s0+(1:Int)))) else some (.inr (.inl ()))) (0:Int)=some r/\
  ((r=.inl ()/\ ∀x∈l,¬P x)\/ ∃i:Nat,∃a:i<l.length,r=.inr ((i:Int),true)/\P l[i]):=by
 refine Kf l.length (fun r:Unit ⊕ (Int×Bool)=>(r=.inl ()/\ ∀x∈l,¬P x)\/ ∃i:Nat,∃a:i<l.length,r=.inr ((i:Int),true)/\P l[i]) (fun i (s:Int)=>s=(i:Int)/\ ∀x∈l.take i,¬P x) ?_ ?_ _ (by simp)
 ·rintro i _ a ⟨rfl,k⟩;have c:idx l (i:Int)=some l[i]:=ZA a;obtain⟨t,g,o⟩:=d _ (Vh a);simp only[ZL a,Zd,c,Za,g]
  cases t with
  |true=>grind
  |false=>
   refine .inl ⟨_,rfl,ZU a (by omega),fun x e=>?_⟩;rw[Va a,Vd,Vb]at e
   grind
 simp
theorem ZnH(q:Zq){j:Yh}{v:List Int}(y:v.length=4){l:List Ku}(p:l.length<=549755813888)(u:∀x∈l,x.1.1.length<=1000)(o:∃x∈l,ZX (KG q x) v):
 ∃(k:Int) (i:Nat) (c:i<l.length),F157 q j v l=some ((k,0,0,(i:Int),()),true)/\((k=1/\(l[i]).1.1=j.1)\/(k=4/\KG q l[i]=v)\/(k=3/\KG q l[i]≠v/\ZX (KG q l[i]) v)):=by
 unfold F157
 have z:∃r:Int×Bool,F161 l (j,())=some r/\((r.2=false)\/ ∃i:Nat,∃c:i<l.length,r=((i:Int),true)/\(l[i]).1.1=j.1):=by
  unfold F161
  suffices C:∃r:Unit ⊕ (Int×Bool),_=some r/\(r=.inl ()\/ ∃i:Nat,∃c:i<l.length,r=.inr ((i:Int),true)/\(l[i]).1.1=j.1) by
   obtain⟨r,g,d⟩:=C;rcases d with rfl|⟨i,c,rfl,m⟩
   ·exact⟨(0,false),KD (fun x=>x=Sum.inl ()) ⟨_,g,rfl⟩ (fun x D=>by subst D;rfl),.inl rfl⟩
   grind
  refine Kf l.length (fun r:Unit ⊕ (Int×Bool)=>r=.inl ()\/ ∃i:Nat,∃c:i<l.length,r=.inr ((i:Int),true)/\(l[i]).1.1=j.1) (fun i (s:Int)=>s=(i:Int)) ?_ ?_ _ rfl
  ·rintro i _ c rfl;have g:idx l (i:Int)=some l[i]:=ZA c;obtain⟨t,O,Q⟩:=Zqd (a:=(l[i]).1) (b:=j) (by grind);have d:F158 l[i] j=some t:=by unfold F158;grind
   simp only[ZL c,Zd,g,Za,d]
   cases t with
   |true=>grind
   |false=>exact .inl ⟨_,rfl,ZU c (by omega)⟩
  simp
 obtain⟨K,A,h⟩:=z;rw[A];simp only[Za];rcases h with h|⟨i,c,rfl,m⟩
 case inr=>grind
 rw[h];simp only[Zc]
 have H:∀x:Ku,F159 x q v=some (decide (KG q x=v)):=fun x=>by unfold F159;rw[DH];simp only[Za,GS _ _ (show (Z3 q x.2.1).length=v.length by rw[Y8,y])]
 have I:∀x:Ku,F160 x q v=some (decide (KG q x≠v/\ZX (KG q x) v)):=fun x=>by unfold F160;rw[DH];simp only[Za,Zdz (Y8 q x.2.1) y]
 obtain⟨M,g,d⟩:=ZjE (f:=fun x=>F159 x q v) (P:=fun x=>KG q x=v) p (by simp_all) (by grind);rcases d with ⟨rfl,B⟩|⟨i,c,rfl,m⟩
 case inr=>
  have e:F162 l (q,v,())=some ((i:Int),true):=by
   unfold F162
   grind
  grind
 have e:F162 l (q,v,())=some (0,false):=by
  unfold F162
  grind
 rw[e];simp only[Za,Zc];obtain⟨N,J,E⟩:=ZjE (f:=fun x=>F160 x q v) (P:=fun x=>KG q x≠v/\ZX (KG q x) v) p (by simp_all) (by grind);rcases E with ⟨rfl,w⟩|⟨i,c,rfl,m⟩
 ·grind
 ·have G:F163 l (q,v,())=some ((i:Int),true):=by
   unfold F163
   grind
  grind
end Q
namespace Q
open Tr Go
variable {n:Zf}{q:Zq}
theorem Zsx(q:Zq)(c:YH):F137 q c=some (Z3 q c):=by
 unfold F137 Z3
 cases q.2.2.2.1<;>rfl
theorem Zsw{a b:List Int}(p:a.length=4)(t:b.length=4):F155 a b=some (decide (a≠b/\ZX a b)):=by
 unfold F155
 suffices h:∃r:Unit ⊕ Bool,_=some r/\((r=.inl ()/\ZX a b)\/(r=.inr false/\ ¬ZX a b)) by
  obtain⟨r,l,v⟩:=h;rcases v with ⟨rfl,h⟩|⟨rfl,h⟩
  ·refine KD (fun x=>x=Sum.inl ()) ⟨_,l,rfl⟩ (fun x g=>?_);subst g;simp only[Vmb];rw[GS a b (by rw[p,t])];simp only[Za];by_cases f:a=b
   ·have d:¬(a≠b/\ZX a b):=fun k=>k.1 f;rw[Ze f,Zi d];rfl
   ·have d:a≠b/\ZX a b:=⟨f,h⟩;rw[Zi f,Ze d];rfl
  ·have d:¬(a≠b/\ZX a b):=fun k=>h k.2;rw[Zi d];exact KD (fun x=>x=Sum.inr false) ⟨_,l,rfl⟩ (fun x g=>by subst g;rfl)
 refine Kf 4 (fun r:Unit ⊕ Bool=>(r=.inl ()/\ZX a b)\/(r=.inr false/\ ¬ZX a b)) (fun j (s:Int)=>s=(j:Int)/\ ∀k,k<j->(a[k]?).getD 0<=(b[k]?).getD 0) ?_ ?_ _ ⟨rfl,fun k z=>by omega⟩
 ·rintro j _ e ⟨rfl,c⟩;rw[Ze (show (j:Int)<4 by omega)];obtain⟨A,w,m⟩:=GM p e;obtain⟨B,y,o⟩:=GM t e;simp only[Zd,Kg e,Za,w,y];by_cases u:B<A
  ·rw[Ze u];exact .inr ⟨.inr false,rfl,.inr ⟨rfl,fun h=>by have:=h j e;rw[m,o]at this;omega⟩⟩
  ·rw[Zi u];refine .inl ⟨_,rfl,ZU e (by omega),fun k z=>?_⟩;rcases Vlb k j with h|h
   ·exact c k h
   ·have:k=j:=by omega
    subst this;rw[m,o];omega
 ·rintro _ ⟨rfl,c⟩;exact⟨.inl (),rfl,.inl ⟨rfl,c⟩⟩
theorem ZsA(n:Zf)(h:Yf ZH n)(q:Zq)(j:Yh):F204 n q j=some true:=by
 obtain⟨L,⟨⟩⟩:=j;unfold F204;obtain⟨b,s,u⟩:=Zqv h q;rw[s]
 cases b with
 |false=>simp only[Za,Vo,Zd,ZaA]
 |true=>
 have d:=u rfl;simp only[Za,Vf,Zc];by_cases P:12<L.length
 ·rw[Ze (show (12:Int)<((L,()).1.length:Int) by show (12:Int)<(L.length:Int);omega)];simp only[Zd,ZaA,Za]
 rw[Zi (show¬(12:Int)<((L,()).1.length:Int) by show¬(12:Int)<(L.length:Int);omega)];simp only[Zc];have z:=Zjz (q:=q) d.fit (show L.length<=20 by omega);have A:=Zpd d.fit (by have:=d.few.prods;omega) q L (by omega);unfold F156;rw[ZbR d.fit,d.chk];simp only[Za,decide_true,Vf,Zc,z,A];by_cases f:(WX n q L).2=0
 case neg=>
  rw[Zi f];simp only[Vo,Zd,Za,decide_true,Vf,Zc,Vwb,ZaA]
 obtain⟨R,S,W,G,T⟩:=ZrU d;obtain⟨c,t,a⟩:=Zi3 d.fit d.whole (show L.length<=20 by omega) f;obtain⟨y,U,V⟩:=T L (by omega) f c t a;have E:=Y8 q c;have m:∀x∈R,x.1.1.length<=1000:=fun x p=>Vj (G x p).2 (by omega);obtain⟨k,i,g,M,N⟩:=ZnH q (j:=(L,())) E (by omega) m ⟨y,U,V⟩
 have o:∀x∈L,Hx x:=by
  obtain⟨_,⟨O,_⟩|⟨_,Q,_⟩⟩:=(D2 n q L).1 f
  ·have:L=[]:=Vz O;rw[this];simp
  ·intro x p;obtain⟨i,g,rfl⟩:=Vs p;have:=(ZbM (Q i g)).1
   rwa [ZaX g]at this
 obtain⟨H,D,I,_⟩:=Zdw n q (L,()) d.fit (show L.length<=20 by omega) o;have v:H=(c,t,0):=by rw[a]at D;exact(Option.some.inj D).symm
 subst v;have l:idx R (i:Int)=some R[i]:=ZA g;have B:=Vh g;generalize R[i]=x at*;have C:=Y8 q x.2.1;rw[Ze f];simp only[Vf,Zc,S,Za,decide_true,a,DH,M,I,Zsx,l];rw[Zi (show¬(i:Int)<0 by omega),Zi (show¬((R.length:Nat):Int)<=(i:Int) by omega)];simp only[Zc,Za];rcases N with ⟨rfl,e⟩|⟨rfl,e⟩|⟨rfl,J,K⟩
 ·have p:x.1=(L,()):=Prod.ext e rfl;have:=(G x B).1;rw[p,a]at this;have w:=(Vv (Option.some.inj this)).1;rw[<-w];simp only[decide_true,Zd,Za,GS _ _ rfl,ZaA]
 ·have r:Z3 q x.2.1=Z3 q c:=e;rw[r,GS _ _ rfl];simp only[decide_true,Zd,Za,ZaA];rfl
 ·have r:Z3 q x.2.1≠Z3 q c/\ZX (Z3 q x.2.1) (Z3 q c):=⟨J,K⟩;rw[Zsw C E,Ze r];simp only[Za,Zd,ZaA];rfl
theorem rejectP(x:KO F204A)(h:Zbu F204A x):F204 x.1 x.2.1 x.2.2.1=some true:=ZsA _ h.1 _ _
end Q
