/- profile's finder: what its state keeps, and how a label is kept. Conditions: valid fares, labels whose fare states are right, fewer than 2^39 labels. -/
import Derived.Test.YtdpenljjnfmgiaaGreatJLxNP
noncomputable section
open Bool renaming not_true ->Vu,false_eq_true ->Vba,not_false ->Vha,and_eq_true ->Vma,true_and ->Vqb,not_eq_false' ->Vrb,not_eq_true' ->Vvb
open Int renaming toNat_natCast ->Vl,le_refl ->Vda,le_trans ->Vra,toNat ->Vta,toNat_of_nonneg ->Vpb
open Go.IntKind renaming wrap ->Vf
open List renaming take_succ_eq_append_getElem ->Va,range ->Vb,mem_flatMap ->Vc,getElem?_eq_getElem ->Vd,mem_append ->Ve,length ->Vh,getElem_mem ->Vi,length_append ->Vj,mem_singleton ->Vk,map_cons ->Vn,sum_cons ->Vo,mem_range ->Vq,map_append ->Vr,flatMap_append ->Vs,length_filter_le ->Vt,replicate ->Vv,length_map ->Vw,length_singleton ->Vx,length_cons ->Vy,getElem?_of_mem ->Vz,mem_append_right ->Vca,mem_filter ->Vea,append_nil ->Vfa,mem_of_getElem? ->Vga,sum_append ->Via,append_assoc ->Vja,filter_cons ->Vka,any_eq_true ->Vla,take_length ->Vna,mem_cons ->Voa,length_set ->Vpa,filter_append ->Vqa,range_succ ->Vsa,eq_nil_of_length_eq_zero ->Vua,getElem_of_mem ->Vza,pairwise_iff_getElem ->Vdb,flatMap_cons ->Veb,eq_of_mem_replicate ->Vfb,getElem_map ->Vgb,getElem_set ->Vhb,mem_map ->Vib,map_map ->Vjb,getElem_set_self ->Vlb,mem_append_left ->Vmb,mem_iff_getElem ->Vnb,mem_cons_of_mem ->Vob,pairwise_map ->Vub,drop ->Vwb,nodup_range ->Vxb,length_take ->Vyb,head?_drop ->Vzb,nil_append ->Vac,drop_drop ->Vbc,take ->Vcc
open Nat renaming le_trans ->Vm,le_refl ->Vp,mul_le_mul_left ->Vaa,add_zero ->Vva,zero_add ->Vwa,succ_mul ->Vxa,le_of_eq ->Vya,add_le_add ->Vab,add_sub_cancel ->Vbb,zero_le ->Vcb,lt_or_ge ->Vsb
open Option renaming bind ->Vg
open Prod.mk renaming inj ->Vkb
open Sum renaming elim_inl ->Vtb
open Option renaming some ->Ua,none ->Ub
open Bool renaming true ->Uc,false ->Ud
open Decidable renaming decide ->Ue
namespace Q
open Tr Go
abbrev KG:=Int×Int×Int×Int×Int×Bool×Hb×V Zx×Unit
abbrev Zk8:=Option KG×Int×Int×Bool×Z8×V Int×Unit
variable {F:KD}{hF:FO F}{n:Zh}{q:Zp}
def W5(F:KD)(m u:KG):Bool:=Ue (m.2.1<=u.2.1)&&(Ue (m.2.2.1<=u.2.2.1)&&(Ue (m.2.2.2.1<=u.2.2.2.1)&&(Ue (m.2.2.2.2.1<=u.2.2.2.2.1)&&((m.2.2.2.2.2.1|| !u.2.2.2.2.2.1)&&Dz F m.2.2.2.2.2.2.1 u.2.2.2.2.2.2.1))))
structure Jc (F:KD) (hF:FO F) (n:Zh) (u:KG):Prop where
 fare:JP F hF (Z3 u.2.2.2.2.2.2.1) u.2.2.2.2.2.2.1
 rok:∀v∈Z3 u.2.2.2.2.2.2.1,Jp v
 stop:0<=u.1/\u.1<(n.1.length:Int)
theorem ZfH{m u}(a:Jc F hF n m)(b:Jc F hF n u):Qn.cov m u=Ua (W5 F m u):=by have c:=ZuG hF a.fare b.fare a.rok b.rok;have⟨ms,e,j,g,k,i,f,h,⟨⟩⟩:=m;have⟨us,l,s,p,t,r,o,ul,⟨⟩⟩:=u;simp at c;unfold Qn.cov Qn.F111 W5;simp[Za];grind
theorem Zt9{A s}(h:JP F hF A s):0<=GU s:=by obtain⟨r,a,t,rfl,_⟩:=h.head;show 0<=(A.length:Int);omega
theorem Zmy{u}(a:Jc F hF n u):W5 F u u=true:=by unfold W5;rw[ZuC (Zt9 a.fare)];simp
theorem Zun(hF:FO F){a b c}(h:W5 F a b=Uc)(k:W5 F b c=Uc):W5 F a c=true:=by have f:0<=F.2.1:=hF.heads.1.1;unfold W5 at*;simp[Bool.or_eq_true]at*;have⟨i,j,l,o,p,e⟩:=h;have⟨r,s,t,v,w,g⟩:=k;refine⟨by omega,by omega,by omega,by omega,?_,ZuD f e g⟩;grind
def ZaY(n:Zh):V (V Int):=(Vb n.2.2.1.length).map λi:Nat=>((Vb n.2.2.2.1.length).filter λk=>Ue ((lk n k).1=i)).map λk:Nat=>k
def Jy(x:FX):V KG:=x.2.2.2.2.1
def Xh(x:FX):V KG:=x.2.2.2.2.2
def KO(x:FX):V (V KG):=x.2.2.2.1
def JK(x:FX)(s:Int):V KG:=((KO x)[s.toNat]?).getD []
structure XG (F:KD) (hF:FO F) (n:Zh) (q:Zp) (x:FX) (N:Nat):Prop where
 net:x.1=n
 que:x.2.1=q
 lnk:x.2.2.1=ZaY n
 rows:(KO x).length=n.1.length
 lab:(∀r∈KO x,∀y∈r,Jc F hF n y)/\(∀y∈Jy x,Jc F hF n y)/\∀y∈Xh x,Jc F hF n y
 bag:∀(i:Nat) (r:V KG),(KO x)[i]? =Ua r->(∀y∈r,y.1=(i:Int))/\r.length<=N
 cvd:(∀y∈Jy x,∃m∈JK x y.1,W5 F m y=Uc)/\∀y∈Xh x,∃m∈JK x y.1,W5 F m y=Uc
 few:(Jy x).length<=N/\(Xh x).length<=N
 fd:∀r∈KO x,∀y∈r,y.1=q.2.1->y∈Xh x
 to:∀y∈Xh x,y.1=q.2.1
def We(F:KD)(x:FX)(ls:V KG)(a:FX):Prop:= ∃sub,sub.length<=ls.length/\(∀o∈sub,o∈ls)/\Jy a=Jy x++sub/\Xh a=Xh x++sub.filter (λy=>Ue (y.1=x.2.1.2.1))/\(a.1=x.1/\a.2.1=x.2.1/\a.2.2.1=x.2.2.1/\(KO a).length=(KO x).length)/\
 (∀(i:Nat) r,(KO a)[i]? =Ua r->∃r0,(KO x)[i]? =Ua r0/\(∀y∈r,y∈r0\/(y∈sub/\y.1=i))/\r.length<=r0.length+sub.length)/\(∀w:KG->Nat,(sub.map w).sum<=(ls.map w).sum)/\
 (∀y,(∃m∈JK x y.1,W5 F m y=Uc)->∃m∈JK a y.1,W5 F m y=Uc)/\∀l∈ls,∃m∈JK a l.1,W5 F m l=Uc
theorem We.nil x:We F x [] x:=⟨[],by simp,by simp,by simp,by simp,⟨rfl,rfl,rfl,rfl⟩,by grind,by simp,λ_ h=>h,by simp⟩
theorem We.trans{x c a ls ms}(h:We F x ls c)(k:We F c ms a):We F x (ls++ms) a:=by
 have⟨O,Q,R,S,T,⟨g,j,p,s⟩,t,e,f,a12⟩:=h;have⟨P,U,W,b3,b4,⟨B,C,D,E⟩,H,v,z,A⟩:=k;refine⟨O++P,by grind,λo ho=>?_,by grind,by grind,⟨B.trans g,C.trans j,D.trans p,E.trans s⟩,λi r K=>?_,λw=>?_,λy M=>by simp[*],λl b=>?_⟩;.grind
 .have⟨N,I,c2,c3⟩:=H i r K;have⟨r0,J,d2,d3⟩:=t i N I;refine⟨r0,J,λy M=>?_,by grind⟩;grind
 .grind
 rw[Ve]at b;obtain b|b:=b;all_goals simp[*]
theorem XG.adds{x w N ls}(h:XG F hF n q x N)(M:∀l∈ls,Jc F hF n l)(k:We F x ls w):XG F hF n q w (N+ls.length):=by
 have⟨sub,H,I,s,f,⟨A,B,C,D⟩,t,z,e,a12⟩:=k;have o:∀y∈sub,Jc F hF n y:=by grind
 have O:x.2.1.2.1=q.2.1:=by rw[h.que]
 have c:∀y,y∈sub.filter (λy=>Ue (y.1=x.2.1.2.1))↔y∈sub/\y.1=q.2.1:=by grind
 refine⟨A.trans h.net,B.trans h.que,C.trans h.lnk,D.trans h.rows,⟨λr j y a=>?_,λy a=>?_,λy a=>?_⟩,λi r j=>?_,⟨λy a=>?_,λy a=>?_⟩,⟨?_,?_⟩,λr j y a E=>?_,λy a=>?_⟩
 .have⟨i,v⟩:=Vz j;have⟨r0,g,p,_⟩:=t i r v;obtain b|⟨b,_⟩:=p y a
  .exact h.lab.1 r0 (Vga g) y b
  grind
 .rw[s,Ve]at a;exact a.elim (h.lab.2.1 y) (o y)
 .rw[f,Ve,c]at a;exact a.elim (h.lab.2.2 y) (by grind)
 .have⟨r0,g,p,c3⟩:=t i r j;have⟨J,K⟩:=h.bag i r0 g;grind
 .rw[s,Ve]at a;exact a.elim (λb=>e y (h.cvd.1 y b)) (by grind)
 .rw[f,Ve,c]at a;exact a.elim (λb=>e y (h.cvd.2 y b)) (by grind)
 .rw[s,Vj];have:=h.few.1;omega
 .rw[f,Vj];have b:=h.few.2;grind
 .have⟨i,v⟩:=Vz j;have⟨r0,g,p,_⟩:=t i r v;rw[f,Ve,c];obtain b|⟨b,_⟩:=p y a
  .exact .inl (h.fd r0 (Vga g) y b E)
  grind
 rw[f,Ve,c]at a;exact a.elim (h.to y) λh=>h.2
theorem ZnK{x N}(h:XG F hF n q x N){u}(k:Jc F hF n u)(hN:N+1<=549755813888):∃J,F105 x (Ua u)=Ua J/\We F x [u] J:=by
 have⟨H,T⟩:=k.stop;have B:u.1.toNat<(KO x).length:=by rw[h.rows];omega
 have U:u.1=((u.1.toNat:Nat):Int):=by omega
 have j:Qn.rowAt x u=(KO x)[u.1.toNat]:=by show (((KO x)[u.1.toNat]?).getD [])=_;grind
 have⟨M,O⟩:=h.bag u.1.toNat _ (Vd B);have a:∀m∈(KO x)[u.1.toNat],Jc F hF n m:=h.lab.1 _ (Vi B);have P:∀m∈(KO x)[u.1.toNat],Qn.covB m u=W5 F m u:=λm c=>by unfold Qn.covB;rw[ZfH (a m c) k];rfl
 have I:∀m∈(KO x)[u.1.toNat],Qn.covB u m=W5 F u m:=λm c=>by unfold Qn.covB;rw[ZfH k (a m c)];rfl
 have b:((Qn.rowAt x u).any λm=>Qn.covB m u)=Uc↔∃m∈(KO x)[u.1.toNat],W5 F m u=true:=by grind
 have t:JK x u.1=(KO x)[u.1.toNat]:=by assumption
 have K:Qn.KeepC x u:=by
  refine⟨H,B,λm c=>?_,?_,?_,?_,?_⟩;.rw[j]at c;rw[ZfH (a m c) k,ZfH k (a m c)];simp
  .grind
  .have:=h.few.1;show (Jy x).length+1<=_;omega
  .have:=h.few.2;show (Xh x).length+1<=_;omega
  rw[b];by_cases w:∃m∈(KO x)[u.1.toNat],W5 F m u=Uc;.grind
  right;intro f;apply w;simp only[JS,Ve,List.mem_flatten]at f;rcases f with (⟨r,D,v⟩|v) |v
  .have⟨i,p⟩:=Vz D;have e:=(h.bag i r p).1 u v;have:i=u.1.toNat:=by omega
   subst this;have E:(KO x)[u.1.toNat]=r:=by have W:(KO x)[u.1.toNat]? =Ua r:=p;grind
   exact⟨u,by grind,Zmy k⟩
  .rw[<-t];exact h.cvd.1 u v
  rw[<-t];exact h.cvd.2 u v
 have Q:F105 x (Ua u)=Ua (Qn.keepZ x u):=by show Qn.keepF x (Ua u)=_;unfold Qn.keepF;grind
 refine⟨_,Q,?_⟩;unfold Qn.keepZ;by_cases w:∃m∈(KO x)[u.1.toNat],W5 F m u=Uc;.rw[Zn (b.2 w)];refine⟨[],by simp,by simp,by simp,by simp,⟨rfl,rfl,rfl,rfl⟩,by grind,by simp,λ_ h=>h,λl C=>?_⟩;grind
 rw[Zg (by grind),j];have o:((KO x)[u.1.toNat]).filter (λm=> !Qn.covB u m)=((KO x)[u.1.toNat]).filter λm=> !W5 F u m:=List.filter_congr (by grind);rw[o];have g:∀s,((((KO x).set u.1.toNat (((KO x)[u.1.toNat]).filter (λm=> !W5 F u m)++[u]))[s.toNat]?).getD [])=if s.toNat=u.1.toNat then((KO x)[u.1.toNat]).filter (λm=> !W5 F u m)++[u] else JK x s:=by
  intro s;by_cases e:s.toNat=u.1.toNat;.grind
  rw[Zg e,List.getElem?_set_ne (by omega)];rfl
 have S:(Ue (u.1=x.2.1.2.1))=Uc\/(Ue (u.1=x.2.1.2.1))=false:=by grind
 refine⟨[u],by simp,by simp,rfl,?_,⟨rfl,rfl,rfl,by show (List.set _ _ _).length=_;rw[Vpa];rfl⟩,λi r D=>?_,by simp,λy ⟨m,c,A⟩=>?_,λl C=>?_⟩;.show (if u.1=x.2.1.2.1 then Xh x++[u] else Xh x)=_;grind
 .have E:((KO x).set u.1.toNat (((KO x)[u.1.toNat]).filter (λm=> !W5 F u m)++[u]))[i]? =Ua r:=D;by_cases e:u.1.toNat=i;all_goals grind
 .show∃m∈(((KO x).set u.1.toNat (((KO x)[u.1.toNat]).filter (λm=> !W5 F u m)++[u]))[y.1.toNat]?).getD [],_;rw[g];by_cases e:y.1.toNat=u.1.toNat
  .rw[Zn e];have R:m∈(KO x)[u.1.toNat]:=by
    have:JK x y.1=(KO x)[u.1.toNat]:=by unfold JK;grind
    grind
   by_cases z:W5 F u m=Uc;.exact⟨u,by simp,Zun hF z A⟩
   grind
  grind
 rw[Vk]at C;subst C;show∃m∈(((KO x).set l.1.toNat (((KO x)[l.1.toNat]).filter (λm=> !W5 F l m)++[l]))[l.1.toNat]?).getD [],_;rw[g,Zn rfl];exact⟨l,by simp,Zmy k⟩
variable {F:KD}{hF:FO F}{n:Zh}{q:Zp}
theorem ZaT{i}(a:i<n.2.2.1.length):idx n.2.2.1 i=Ua (rn n i):=by rw[ZC a];unfold rn;grind
theorem R1{i c}(a:c<(Zj n i).length):idx (rn n i).2.2.2.2.2.2.2.1 c=Ua (Zc n i c):=by
 have:idx (Zj n i) c=Ua (Zc n i c):=by rw[ZC a,Zbu a]
 exact this
theorem ZbA{β:Type}(f:Nat->V β) i:(Vb (i+1)).flatMap f=(Vb i).flatMap f++f i:=by rw[Vsa,Vs];simp
theorem Zvi{β:Type}(f:Nat->V β){i m}(h:i<=m):((Vb i).flatMap f).length<=((Vb m).flatMap f).length:=by
 induction m with
 |zero=>grind|succ m b=>
  obtain a|a:=Vsb m i;.grind
  rw[ZbA,Vj];omega
theorem Zf3{α β:Type}(l:V α)(f:α->V β):l.flatMap f=(Vb l.length).flatMap λi=>(l[i]?).elim [] f:=by
 have key:∀k,k<=l.length->(l.take k).flatMap f=(Vb k).flatMap λi=>(l[i]?).elim [] f:=by
  intro k
  induction k with
  |zero=>simp|succ k a=>
   intro h;rw[ZbA,<-a (by omega),Va (by omega),Vs,Vd (by omega)];simp
 grind
theorem Zda{w τ}{step m g x N}(mk:Nat->FX->w)(fin:FX->τ)(k:XG F hF n q x N)(o:∀i,i<m->∀l∈g i,Jc F hF n l)(y:N+((Vb m).flatMap g).length<=549755813888)
 (b:∀i x N,i<m->XG F hF n q x N->N+(g i).length<=549755813888->∃a,step (mk i x)=Ua (.inl (mk (i+1) a))/\We F x (g i) a)
 (e:∀x N,XG F hF n q x N->step (mk m x)=Ua (.inr (fin x))):∃a,run step (mk 0 x)=Ua (fin a)/\We F x ((Vb m).flatMap g) a:=by
 obtain⟨r,h,a,rfl,j⟩:=Kg m (λr=>∃a,r=fin a/\We F x ((Vb m).flatMap g) a) (λi s=>∃a,s=mk i a/\We F x ((Vb i).flatMap g) a) (by
  rintro i _ t ⟨a,rfl,c⟩;left;have p:=k.adds (by grind) c;have f:=Zvi g (show i+1<=m by omega);rw[ZbA,Vj]at f;have⟨v,h,j⟩:=b i a _ t p (by omega);refine⟨_,h,v,rfl,?_⟩;rw[ZbA];exact c.trans j) (by
  rintro _ ⟨a,rfl,c⟩;exact⟨_,e a _ (k.adds (by grind) c),a,rfl,c⟩) _ ⟨x,rfl,We.nil x⟩
 grind
def GE(s:Hb):Bool:=Ue (0<=GH s)
def Kn(n:Zh)(l:Z6):KG:=(l.1.2.1,l.2.1,(if l.1.1=1 then l.2.1+Yt n l.1.2.1 else l.2.1),l.2.2.1,l.2.2.2.1,Ue (l.1.1=1),(Zq l).2.2.2.2.1,l.2.2.2.2.2.1,())
def YB(n:Zh)(l:Z6):V KG:=if WK n l=Uc/\GE (YA l).2.2.2.2.1=Uc then [Kn n l] else []
def Jw(y:KG):Z6:=((0,0,0,0,(0,0,0,0,()),()),0,y.2.2.2.1+1,y.2.2.2.2.1,y.2.2.2.2.2.2.1,y.2.2.2.2.2.2.2.1,())
def W2(n:Zh)(i:Nat):V Nat:=(Vb n.2.2.2.1.length).filter λk=>Ue ((lk n k).1=i)
def YL(a:Z6->Nat->Nat->Bool->Z8->V KG)(n:Zh)(q:Zp)(y:KG)(j d:Nat):V KG:=if y.2.2.2.1<q.2.2.2.2.1 then a (Jw y) j d Ud (Jt (Zc n j d).2.2.1) else []
def HP(a:Z6->Nat->Nat->Bool->Z8->V KG)(n:Zh)(q:Zp)(l:Z6)(x:Dj):V KG:=
 if x.2.1≠l.1.2.2.2.1\/(Zc n x.2.2.1.toNat x.2.2.2.1.toNat).2.2.1<l.2.1 then [] else
 if x.2.2.2.2.1=Uc then a l x.2.2.1.toNat x.2.2.2.1.toNat Uc l.1.2.2.2.2.1 else
 if YB n l≠ []/\(Zc n x.2.2.1.toNat x.2.2.2.1.toNat).2.2.2.1=Uc then YL a n q (Kn n l) x.2.2.1.toNat x.2.2.2.1.toNat else []
def DK(a:Z6->Nat->Nat->Bool->Z8->V KG)(n:Zh)(q:Zp)(l:Z6):V KG:=YB n l++(W2 n l.1.2.2.1.toNat).flatMap λk=>HP a n q l (lk n k)
def WR(n:Zh)(q:Zp):Nat->Z6->Nat->Nat->Bool->Z8->V KG|0,_,_,_,_,_=>[]|k+1,p,i,b,st,v=>if Ys n i=Uc then [] else(Vb ((Zj n i).length - (b+1))).flatMap λm=>DK (WR n q k) n q (ZH n p i b (b+1+m) st v)
def Hh(n:Zh)(q:Zp)(k:Nat)(y:KG)(j d:Nat):V KG:=YL (WR n q k) n q y j d
structure PB (F:KD) (hF:FO F) (q:Zp) (p:Z6):Prop where
 fare:ZhK F hF p
 cnt:((Z3 p.2.2.2.2.1).length:Int)+1=p.2.2.1
 max:p.2.2.1<=q.2.2.2.2.1
 walk:0<=p.2.2.2.1/\p.2.2.2.1<=1000000
theorem ZxF{b s}(o:JP F hF b s):∃z,F21 s=Ua (z,GE s):=by
 obtain⟨r,f,t,rfl,⟨p,c⟩,i,l⟩:=o.head;have⟨a,j,k⟩:=c b.length (Vp _);have e:idx f b.length=Ua a:=by assumption
 have g:GH ((Ua F,r,b.length,f,())::t)=a:=by show (f[((b.length:Int)).toNat]?).getD (-1)=a;grind
 unfold GE;rw[g];unfold F21;simp[Tr.unc,List.isEmpty_cons,Ze,Za,e];by_cases h:a<0;.simp_all
 rw[Zm h,Zi (show 0<=a by omega)];simp[Ze];by_cases v:F.2.2.2.1=0;.simp_all
 by_cases w:a<F.2.2.2.1;all_goals simp[*]
theorem Zm2{L:V Zx}(x:Zx)(h:L.length<=1000):F98 L x=Ua (L++[x]):=by
 unfold F98 F184 Tr.cloLegG;have c:Zt=549755813888:=rfl;have a:Ue (Vh L<=Zt)=true:=by grind
 have b:Ue (Vh L+Vh [x]<=Zt)=true:=by grind
 rw[a,Zf,Za,b];rfl
theorem Zwh(g:KY n)(W:q.2.2.2.2.1<=3){x N}(D:XG F hF n q x N){p}(j:PB F hF q p){K4:KG}(y:K4.2.2.2.1+1=p.2.2.1)(A:K4.2.2.2.2.1=p.2.2.2.1)(B:K4.2.2.2.2.2.2.1=p.2.2.2.2.1)
 {i b c} st {v} (t:i<n.2.2.1.length) (E:b<c) (s:c<(Zj n i).length) (Q:Small v) (J:Jb v.1) (z:Int×Int×Bool) (S:V Int) L (hL:L=p.2.2.2.2.2.1++[Zy n i b c st]):
 F106 x (Ua K4,z.1,z.2.1,z.2.2,JB n v (Zy n i b c st),S,()) L (Zc n i c).1 (Zc n i c).2.1=Ua (x,if GE (YA (ZH n p i b c st v)).2.2.2.2.1=Uc then Ua (Kn n (ZH n p i b c st v)) else Ub)/\
 Jc F hF n (Kn n (ZH n p i b c st v)):=by
 have O:∀w∈Z3 p.2.2.2.2.1++[JB n v (Zy n i b c st)],Jp w:=λw k=>by
  rw[Ve,Vk]at k;obtain k|rfl:=k;.exact j.fare.2 w k
  exact Zc7 g st t E s Q J
 have I:=j.cnt;have K:=j.max;have⟨l,C,r⟩:=Zkr hF j.fare.1 O (by omega);have e:G9 p.2.2.2.2.1 (JB n v (Zy n i b c st))=l:=by unfold G9;grind
 have o:(YA (ZH n p i b c st v)).2.2.2.2.1=l:=e;have a:(Zq (ZH n p i b c st v)).2.2.2.2.1=l:=by assumption
 have⟨z0,R⟩:=ZxF r;have f:=g.stop t s;have H:=g.change _ f.1 f.2;have P:=g.time t s;have h:idx x.1.1 (Zc n i c).1=Ua (WN n (Zc n i c).1):=by rw[D.net];exact(Zqn g.sound f.1 f.2).1
 constructor
 .unfold F106;simp[Za,B,C,decide_true,Vu,Ze,R,o]
  cases M:GE l with
  |false=>rfl|true=>
   simp[Ze,h,Za,Zn];have T:Vf .i64 ((Zc n i c).2.1+(WN n (Zc n i c).1).2.2.2.1)=(Zc n i c).2.1+(WN n (Zc n i c).1).2.2.2.1:=ZB (by omega) (by omega);have U:Vf .i64 (K4.2.2.2.1+1)=p.2.2.1:=by rw[y];exact ZB (by omega) (by omega)
   rw[T,U,A];unfold Kn;rw[a,Zn (by rfl),hL];rfl
 refine⟨?_,?_,f⟩;.show JP F hF (Z3 (Zq (ZH n p i b c st v)).2.2.2.2.1) (Zq (ZH n p i b c st v)).2.2.2.2.1;rw[a,HW r];omega
 show∀w∈Z3 (Zq (ZH n p i b c st v)).2.2.2.2.1,Jp w;rw[a,HW r];omega
theorem Zud{l:V Int}{a}(h:∀r∈l,a≠r)(c:l.length<=1000):F189 l a=Ua false:=by
 unfold F189;have:F195 l a=Ua (-1):=by
  refine KK (λr=>r=.inl ()) ?_ ?_
  .refine Kg l.length _ (λk s=>s=(k:Int)) ?_ ?_ _ rfl
   .rintro k _ b rfl;left;refine⟨_,?_,rfl⟩;rw[ZL b,Zf,ZC b,Za,Zm (by grind),Ze,ZU b (by omega)]
   simp
  simp
 grind
theorem PB.stay{p}(h:PB F hF q p) i b c st v:PB F hF q (ZH n p i b c st v):=⟨h.fare,h.cnt,h.max,h.walk⟩
theorem Zfy(j:KY n)(C:q.2.2.2.2.1<=3){p}(a:PB F hF q p){i b c st v}(s:i<n.2.2.1.length)(k:b<c)(l:c<(Zj n i).length)(z:Small v)(r:Jb v.1):
 JP F hF (Z3 p.2.2.2.2.1++[JB n v (Zy n i b c st)]) (Zq (ZH n p i b c st v)).2.2.2.2.1/\∀w∈Z3 p.2.2.2.2.1++[JB n v (Zy n i b c st)],Jp w:=by
 have y:∀w∈Z3 p.2.2.2.2.1++[JB n v (Zy n i b c st)],Jp w:=λw f=>by
  rw[Ve,Vk]at f;obtain f|rfl:=f;.exact a.fare.2 w f
  exact Zc7 j st s k l z r
 have o:=a.cnt;have t:=a.max;have⟨h,A,B⟩:=Zkr hF a.fare.1 y (by omega);have e:G9 p.2.2.2.2.1 (JB n v (Zy n i b c st))=h:=by unfold G9;grind
 have g:(Zq (ZH n p i b c st v)).2.2.2.2.1=h:=by assumption
 grind
theorem PB.beg(g:KY n)(f:q.2.2.2.2.1<=3){p}(e:PB F hF q p){i b c st v}(l:i<n.2.2.1.length)(h:b<c)(j:c<(Zj n i).length)(o:Small v)(k:Jb v.1)(s:(Kn n (ZH n p i b c st v)).2.2.2.1<q.2.2.2.2.1):PB F hF q (Jw (Kn n (ZH n p i b c st v))):=by
 have⟨a,r⟩:=Zfy (st:=st) g f e l h j o k;refine⟨⟨?_,?_⟩,?_,?_,e.walk⟩;.show JP F hF (Z3 (Zq (ZH n p i b c st v)).2.2.2.2.1) (Zq (ZH n p i b c st v)).2.2.2.2.1;rw[HW a];omega
 .show∀w∈Z3 (Zq (ZH n p i b c st v)).2.2.2.2.1,Jp w;rw[HW a];omega
 .show ((Z3 (Zq (ZH n p i b c st v)).2.2.2.2.1).length)+1=p.2.2.1+1;rw[HW a,Vj,Vx];have:=e.cnt;omega
 assumption
theorem Zeg{i k}(h:k∈W2 n i):k<n.2.2.2.1.length/\(lk n k).1=i/\lk n k∈n.2.2.2.1:=by unfold W2 at h;rw[Vea,Vq]at h;refine⟨h.1,Xw h.2,?_⟩;unfold lk;grind
theorem ZbO(r:KY n){i k}(h:k∈W2 n i):∃(c j d:Nat) (st:Bool),lk n k=((i:Int),(c:Int),(j:Int),(d:Int),st,())/\j<n.2.2.1.length/\i≠j/\c<(Zj n i).length/\d<(Zj n j).length/\(Zc n i c).1=(Zc n j d).1/\(st=Uc->c+1=(Zj n i).length/\d=0)/\isLink n i c j d st:=by
 have⟨_,v,p⟩:=Zeg h;have⟨s,c,j,d,st,e,t,a,b,f,g,l,o⟩:=r.link _ p;have:s=i:=by grind
 subst this;exact⟨c,j,d,st,e,a,b,f,g,l,o,by unfold isLink;grind⟩
theorem ZjZ{l y}(h:y∈YB n l):y=Kn n l/\WK n l=Uc/\GE (YA l).2.2.2.2.1=true:=by unfold YB at h;grind
theorem Zdg(c:KY n)(h:q.2.2.2.2.1<=3):∀K p i b st v,PB F hF q p->i<n.2.2.1.length->Small v->Jb v.1->∀y∈WR n q K p i b st v,Jc F hF n y
 |0,p,i,b,st,v,_,_,_,_,y,a=>by unfold WR at a;grind|K+1,p,i,b,st,v,B,o,C,r,y,a=>by
  unfold WR at a;split at a;.grind
  have⟨m,J,a⟩:=Vc.1 a;rw[Vq]at J;have f:b<b+1+m:=by omega
  have l:b+1+m<(Zj n i).length:=by omega
  have g:=Zc7 c st o f l C r;unfold DK at a;rw[Ve]at a;obtain a|a:=a
  .obtain⟨rfl,_⟩:=ZjZ a;have⟨D,O⟩:=Zfy (st:=st) c h B o f l C r;refine⟨?_,?_,c.stop o l⟩
   .show JP F hF (Z3 (Zq (ZH n p i b (b+1+m) st v)).2.2.2.2.1) (Zq (ZH n p i b (b+1+m) st v)).2.2.2.2.1;rw[HW D];omega
   show∀w∈Z3 (Zq (ZH n p i b (b+1+m) st v)).2.2.2.2.1,Jp w;rw[HW D];omega
  have⟨k,I,a⟩:=Vc.1 a;have z:k∈W2 n i:=I;have⟨N,j,d,M,e,t,H,E,s,_⟩:=ZbO c z;unfold HP at a;rw[e]at a;split at a;.grind
  split at a;.exact Zdg c h K _ j d Uc _ (B.stay i b (b+1+m) st v) t g.1 g.2.1 y a
  split at a
  .unfold YL at a;split at a
   .rename_i A;have P:=c.time t s;exact Zdg c h K _ j d Ud _ (B.beg c h o f l C r A) t (ZcS _) ⟨by show 0<=(Zc n j d).2.2.1;omega,by show (Zc n j d).2.2.1<=_;omega⟩ y a
   grind
  grind
theorem ZlN{α:Type}{o}{P:α->Prop}(h:∃x,o=Ua x/\P x):∃x,(Vg o λx=>Ua x)=Ua x/\P x:=by grind
def Gv(n:Zh)(q:Zp)(p:Z6)(i:Nat):Nat:=8*K7 q p+K8 n i
def Ze5 F(hF:FO F)(n:Zh)(q:Zp)(K:Nat):Prop:= ∀x N p i b st v (a:V Int) (K4:KG),
 XG F hF n q x N->PB F hF q p->K4.2.2.2.1+1=p.2.2.1->K4.2.2.2.2.1=p.2.2.2.1->K4.2.2.2.2.2.2.1=p.2.2.2.2.1->K4.2.2.2.2.2.2.2.1=p.2.2.2.2.2.1->p.2.2.2.2.2.1.length+K<=300->i<n.2.2.1.length->b<(Zj n i).length->Small v->Jb v.1->
 a.length+K<=300->(∀r∈a,JF n r i)->Gv n q p i<K->N+(WR n q K p i b st v).length<=549755813888->
 ∃c,F110 K x (Ua K4,(i:Int),(b:Int),st,v,a,())=Ua c/\We F x (WR n q K p i b st v) c
theorem ZwC{i}(a:i<n.2.2.1.length):idx (ZaY n) i=Ua ((W2 n i).map λk:Nat=>(k:Int)):=by
 unfold ZaY;have h:i<((Vb n.2.2.1.length).map λi:Nat=>((Vb n.2.2.2.1.length).filter λk=>Ue ((lk n k).1=i)).map λk:Nat=>(k:Int)).length:=by grind
 rw[ZC h,Vgb,List.getElem_range];rfl
theorem ZlM(k:KY n){K}(r:Ze5 F hF n q K){x N}(c:XG F hF n q x N){y}(p:y.2.2.2.1<q.2.2.2.2.1->PB F hF q (Jw y))(o:y.2.2.2.2.2.2.2.1.length+K<=300)(t:K<=300){j d}(f:j<n.2.2.1.length)(e:d<(Zj n j).length)
 (l:y.2.2.2.1<q.2.2.2.2.1->Gv n q (Jw y) j<K) (g:N+(YL (WR n q K) n q y j d).length<=549755813888):
 ∃b,F100 (F110 K) x (Ua y) (j:Int) (d:Int)=Ua b/\We F x (YL (WR n q K) n q y j d) b:=by
 unfold F100 YL at*;simp only[Za,c.net,c.que,ZaT f,R1 e];by_cases a:y.2.2.2.1<q.2.2.2.2.1;.rw[Zn a]at g⊢;rw[Zi a,Zf];have v:=k.time f e;have⟨b,h,s⟩:=r x N (Jw y) j d Ud (Jt (Zc n j d).2.2.1) [] y c (p a) rfl rfl rfl rfl o f e (ZcS _) ⟨by show 0<=(Zc n j d).2.2.1;omega,by show (Zc n j d).2.2.1<=_;omega⟩ (by grind) (by simp) (l a) g;have i:F110 K x (Ua y,(j:Int),(d:Int),Ud,((Zc n j d).2.2.1,(0:Int),(0:Int),(0:Int),()),([]:V Int),())=Ua b:=h;grind
 rw[Zg a,Zm a,Ze];exact⟨x,rfl,We.nil x⟩
theorem Zxv(S:Whole n)(hT:KN n)(R:q.2.2.2.2.1<=3){K}(ih:Ze5 F hF n q K){x N}(hG:XG F hF n q x N){p}(W:PB F hF q p){K4:KG}(e1:K4.2.2.2.1+1=p.2.2.1)(e2:K4.2.2.2.2.1=p.2.2.2.1)(e3:K4.2.2.2.2.2.2.1=p.2.2.2.2.1)
 (a9:p.2.2.2.2.2.1.length+(K+1)<=300) {i b c} (st sx:Bool) {v} (J:i<n.2.2.1.length) (hb:b<c) (T:c<(Zj n i).length) (hv:Small v) (hd:Jb v.1) (bb:Int) {rs:V Int} (b2:rs.length+(K+1)<=300) (hR:∀r∈rs,JF n r i) (hh:Gv n q p i<K+1)
 {L} (hL:L=p.2.2.2.2.2.1++[Zy n i b c st]) {out} (U:out=if WK n (ZH n p i b c st v)=Uc/\GE (YA (ZH n p i b c st v)).2.2.2.2.1=Uc then Ua (Kn n (ZH n p i b c st v)) else Ub)
 (hM:N+((W2 n i).flatMap λk=>HP (WR n q K) n q (ZH n p i b c st v) (lk n k)).length<=549755813888):
 ∃E,F101 (F110 K) x (Ua K4,(i:Int),bb,sx,JB n v (Zy n i b c st),rs++[(i:Int)],()) (c:Int) L out=Ua E/\We F x ((W2 n i).flatMap λk=>HP (WR n q K) n q (ZH n p i b c st v) (lk n k)) E:=by
 have l:=S.ok;have t:=Zc7 l st J hb T hv hd;have a5:(W2 n i).length<=1024:=by have Q:(W2 n i).length<=(Vb n.2.2.2.1.length).length:=Vt _ _;rw[List.length_range]at Q;have:=S.v;omega
 have P:idx x.2.2.1 (i:Int)=Ua ((W2 n i).map λk:Nat=>(k:Int)):=by rw[hG.lnk];exact ZwC J
 rw[Zf3]at hM⊢;unfold F101;simp only[hG.net,ZaT J,Za,R1 T,P,Vw];refine ZlN (Zda (F:=F) (hF:=hF) (n:=n) (q:=q) (λk x=>(x,(k:Int))) (λx=>x) hG ?_ hM ?_ ?_)
 .intro m o y hy;rw[Vd o]at hy;have f:y∈HP (WR n q K) n q (ZH n p i b c st v) (lk n (W2 n i)[m]):=hy;have b4:y∈WR n q (K+1) p i b st v\/Ys n i=true:=by
   by_cases a3:Ys n i=Uc;.grind
   left;unfold WR;rw[Zg a3];refine Vc.2 ⟨c - (b+1),by grind,?_⟩;rw[show b+1+(c - (b+1))=c by omega];unfold DK;refine Vca _ (Vc.2 ⟨_,Vi o,f⟩)
  have⟨H,j,d,D,e,A,a4,a2,g,_⟩:=ZbO l (Vi o);unfold HP at f;rw[e]at f;simp only[Vl]at f;split at f;.grind
  split at f;.exact Zdg l R K _ j d Uc _ (W.stay i b c st v) A t.1 t.2.1 y f
  split at f
  .unfold YL at f;split at f
   .rename_i B;have ht:=l.time A g;exact Zdg l R K _ j d Ud _ (W.beg l R J hb T hv hd B) A (ZcS _) ⟨by show 0<=(Zc n j d).2.2.1;omega,by show (Zc n j d).2.2.1<=_;omega⟩ y f
   grind
  grind
 .intro m s M o z I;rw[Vd o]at I⊢;have a:M+(HP (WR n q K) n q (ZH n p i b c st v) (lk n (W2 n i)[m])).length<=549755813888:=I;show∃E,_/\We F s (HP (WR n q K) n q (ZH n p i b c st v) (lk n (W2 n i)[m])) E;have w:=Zeg (Vi o);have⟨H,j,d,D,e,A,a4,a2,g,a6,b3,O⟩:=ZbO l (Vi o);have a7:idx ((W2 n i).map λk:Nat=>(k:Int)) (m:Int)=Ua (((W2 n i)[m]:Nat):Int):=by rw[ZC (by grind),Vgb]
  have a8:idx n.2.2.2.1 (((W2 n i)[m]:Nat):Int)=Ua ((i:Int),(H:Int),(j:Int),(d:Int),D,()):=by
   have hl:lk n (W2 n i)[m]=n.2.2.2.1[(W2 n i)[m]]'(w.1):=by unfold lk;grind
   rw[ZC w.1,<-hl,e]
  simp only[ZL o,Zf,a7,Za,z.net,a8,ZaT A,R1 g,ZU o (by omega)];unfold HP at a⊢;rw[e]at a⊢;simp only[Vl]at a⊢;have a0:(ZH n p i b c st v).1.2.2.2.1=(c:Int):=rfl;have a1:(ZH n p i b c st v).2.1=(Zc n i c).2.1:=rfl;rw[a0,a1]at a⊢;by_cases k1:(H:Int)≠(c:Int)\/(Zc n j d).2.2.1<(Zc n i c).2.1
  .rw[Zn k1];have:(bif !Ue ((H:Int)=(c:Int)) then Ua Uc else Ua (Ue ((Zc n j d).2.2.1<(Zc n i c).2.1)))=Ua true:=by grind
   rw[this];exact⟨s,rfl,We.nil s⟩
  rw[Zg k1]at a⊢;have k2:(H:Int)=(c:Int):=by omega
  have k3:¬(Zc n j d).2.2.1<(Zc n i c).2.1:=by omega
  rw[Zi k2,Zm k3];simp only[Vu,Ze,Za]
  cases D with
  |true=>
   rw[Zn rfl]at a⊢;simp only[Zf];have C:=Rp S O;have b1:=ZbU S (show j<7 by have:=hT.runs;omega) C;have⟨E,Q,h2⟩:=ih s M (ZH n p i b c st v) j d Uc (JB n v (Zy n i b c st)) (rs++[(i:Int)]) (K4.1,K4.2.1,K4.2.2.1,K4.2.2.2.1,K4.2.2.2.2.1,K4.2.2.2.2.2.1,K4.2.2.2.2.2.2.1,L,K4.2.2.2.2.2.2.2.2) z (W.stay i b c st v) e1 e2 e3 hL
    (by show (p.2.2.2.2.2.1++[Zy n i b c st]).length+K<=300;grind) A g t.1 t.2.1 (by grind) (λr hr=>by
      rw[Ve,Vk]at hr;obtain hr|rfl:=hr;.exact(hR r hr).trans (.one C)
      exact .one C) (by unfold Gv at hh⊢;have:K7 q (ZH n p i b c st v)=K7 q p:=rfl;omega) a
   rw[Q]
   exact⟨E,rfl,h2⟩|false=>
   rw[Zg (by simp)]at a⊢;simp only[Ze];by_cases k4:WK n (ZH n p i b c st v)=Uc/\GE (YA (ZH n p i b c st v)).2.2.2.2.1=Uc
   .rw[Zn k4]at U;have h:YB n (ZH n p i b c st v)≠ []:=by unfold YB;grind
    subst U;simp only[Option.isNone_some,Vha,Zf,Za]
    cases k5:(Zc n j d).2.2.2.1 with
    |false=>
     rw[Zg (by simp)]
     exact⟨s,rfl,We.nil s⟩|true=>
     rw[Zn ⟨h,k5⟩]at a;rw[Zn ⟨h,rfl⟩];simp only[Zf];have⟨E,Q,h2⟩:=ZlM l ih z (y:=Kn n (ZH n p i b c st v)) (W.beg l R J hb T hv hd) (by show (p.2.2.2.2.2.1++[Zy n i b c st]).length+K<=300;grind) (by omega) A g (λB=>by have b0:p.2.2.1<q.2.2.2.2.1:=B;unfold Gv at hh⊢;have e5:K7 q (Jw (Kn n (ZH n p i b c st v)))=(q.2.2.2.2.1 - (p.2.2.1+1)).toNat:=rfl;have e6:K7 q p=(q.2.2.2.2.1 - p.2.2.1).toNat:=rfl;have:=Zac (n:=n) j;omega) a;grind
   rw[Zg k4]at U;subst U;have h:YB n (ZH n p i b c st v)=[]:=by unfold YB;grind
   rw[Zg (by grind)];exact⟨s,rfl,We.nil s⟩
 simp
theorem Zqx(hW:Whole n)(hT:KN n)(h3:q.2.2.2.2.1<=3):∀K,Ze5 F hF n q K
 |0=>λ_ _ _ _ _ _ _ _ _ _ _ _ _ _ _ _ _ _ _ _ _ _ hh _=>by omega|K+1=>by
  intro x N p i b a v B K4 hG hp e1 e2 e3 e4 d4 O hb T hd d7 hR hh hM;have ih:Ze5 F hF n q K:=Zqx hW hT h3 K;have D:=hW.ok;have c4:=D.sound.many _ (Vi O);have b9:(Zj n i).length<=32:=by rw[ZdJ O];omega
  have e:∀c∈Zj n i,0<=c.1/\c.1<(n.1.length:Int):=by rw[ZdJ O];exact D.sound.call _ (Vi O)
  have a6:∀c,(GG n (Zy n i b c a))=(n.2.1[(rn n (i:Int)).2.2.2.2.1.toNat]?).getD r00:=λ_=>rfl;have⟨f,a4,I⟩:idx n.2.1 (rn n (i:Int)).2.2.2.2.1=Ua ((n.2.1[(rn n (i:Int)).2.2.2.2.1.toNat]?).getD r00)/\0<=((n.2.1[(rn n (i:Int)).2.2.2.2.1.toNat]?).getD r00).2.1/\((n.2.1[(rn n (i:Int)).2.2.2.2.1.toNat]?).getD r00).2.1<16:=by
   have hm:rn n (i:Int)∈n.2.2.1:=by unfold rn;grind
   have h1:=D.sound.route _ hm;have b7:Z9 (rn n (i:Int)).2.2.2.2.1 n.2.1.length=true:=by unfold Z9;grind
   refine⟨Jh b7 r00,?_⟩;have hl:(rn n (i:Int)).2.2.2.2.1.toNat<n.2.1.length:=by omega
   rw[KE hl];have:=D.sound.mode _ (Vi hl);omega
  generalize d6:(n.2.1[(rn n (i:Int)).2.2.2.2.1.toNat]?).getD r00=R at f a4 I a6;have⟨d8,c8,a8⟩:=ZeH D.sound (e _ (Vi hb)).1 (by grind);have⟨⟨z,hz⟩,e6⟩:(∃z:Nat,v.2.2.1=(z:Int))/\v.2.2.1<65536:=⟨⟨_,(Vpb T.1.1).symm⟩,T.1.2⟩;have⟨⟨m,hm⟩,e5⟩:(∃z:Nat,v.2.2.2.1=(z:Int))/\v.2.2.2.1<65536:=⟨⟨_,(Vpb T.2.1).symm⟩,T.2.2⟩;have d9:∀k,b+k<=(Zj n i).length->zN n (Zj n i) b k<65536:=λk hk=>Zdm D.sound e k (by omega);have b0:zN n (Zj n i) b 1=2 ^ (Dc n (Zj n i)[b].1).2.1.toNat:=by show zN n (Zj n i) b 0 ||| zn n (Zj n i) (b+0)=_;unfold zn;rw[Vva,KE hb];show 0 ||| _=_;simp
  have d5:Zc n i b=(Zj n i)[b]:=Zbu hb;have a9:idx n.1 (Zc n i b).1=Ua (Dc n (Zj n i)[b].1):=by grind
  have P:F189 B (i:Int)=Ua false:=Zud (λr hr h=>JF.irr hW (h▸hR r hr)) (by omega);have a0:F186 B=Ua B:=by unfold F186 Tr.cloIntG;have c2:(Zt:Nat)=549755813888:=rfl;grind
  have b6:Zw (Ue (B.length+Vh [(i:Int)]<=Zt))=Ua ():=by have c2:(Zt:Nat)=549755813888:=rfl;rw[Zi (by grind)];rfl
  unfold WR at hM⊢;show∃x',F109 (F110 K) x (Ua K4,(i:Int),(b:Int),a,v,B,())=Ua x' /\_;unfold F109;simp only[hG.net,ZaT O,Za,P];by_cases E:Ys n i=Uc;.rw[Zn E];have w:(rn n (i:Int)).2.2.2.2.2.2.1=true:=E;rw[w];exact⟨x,rfl,We.nil x⟩
  rw[Zg E]at hM⊢;have w:(rn n (i:Int)).2.2.2.2.2.2.1=false:=by
   cases h:(rn n (i:Int)).2.2.2.2.2.2.1 with|true=>exact absurd h E|false=>rfl
  rw[w];simp only[Ze,Za,a0,b6,R1 hb,f,Zaf a4 I,a9,Zaf c8 a8];rw[hz,hm,G6 (by omega) (HU a8),G6 (by omega) (HU I),<-b0];have c9:Vf .i64 ((b:Int)+1)=((b+1:Nat):Int):=by rw[ZB (by omega) (by omega)];omega
  rw[c9];refine ZlN (Zda (F:=F) (hF:=hF) (n:=n) (q:=q) (m:=(Zj n i).length - (b+1)) (g:=λk=>DK (WR n q K) n q (ZH n p i b (b+1+k) a v)) (x:=x) (N:=N)
   (λk s=>(s,((Ua K4,(i:Int),(b:Int),a,(v.1,(if k=0 then v.2.1 else(Zc n i (b+k)).2.1),((z ||| zN n (Zj n i) b (k+1):Nat):Int),((m ||| 2 ^ R.2.1.toNat:Nat):Int),v.2.2.2.2),B++[(i:Int)],()):Zk8),((b+1+k:Nat):Int))) (λs=>s) hG ?hlab hM ?hstep ?hend)
  case hlab=>
   intro k hk y hy;refine Zdg D h3 (K+1) p i b a v hp O T hd y ?_;unfold WR;grind
  case hstep=>
   intro k s M hk j t;have W:b+1+k<(Zj n i).length:=by omega
   have b1:Zc n i (b+1+k)=(Zj n i)[b+1+k]:=Zbu W;have⟨t1,t2,t3⟩:=ZeH D.sound (e _ (Vi W)).1 (by grind);rw[<-b1]at t1 t2 t3;have a2:Ue (((b+1+k:Nat):Int)<((rn n (i:Int)).2.2.2.2.2.2.2.1.length:Int))=true:=Zi (by show ((b+1+k:Nat):Int)<((Zj n i).length:Int);omega);have d0:Vf .i64 (((b+1+k:Nat):Int)+1)=((b+1+(k+1):Nat):Int):=by rw[ZB (by omega) (by omega)];omega
   have d1:zN n (Zj n i) b (k+1+1)=zN n (Zj n i) b (k+1) ||| 2 ^ (Dc n (Zc n i (b+1+k)).1).2.1.toNat:=by show zN n (Zj n i) b (k+1) ||| zn n (Zj n i) (b+(k+1))=_;unfold zn;grind
   have c6:Wc .i64 ((z ||| zN n (Zj n i) b (k+1):Nat):Int) ((2 ^ (Dc n (Zc n i (b+1+k)).1).2.1.toNat:Nat):Int)=((z ||| zN n (Zj n i) b (k+1+1):Nat):Int):=by have:z ||| zN n (Zj n i) b (k+1)<2 ^ 16:=Nat.or_lt_two_pow (n:=16) (by omega) (by grind);rw[G6 (by omega) (HU t3),d1,Nat.or_assoc]
   have c7:JB n v (Zy n i b (b+1+k) a)=(v.1,(Zc n i (b+1+k)).2.1,((z ||| zN n (Zj n i) b (k+1+1):Nat):Int),((m ||| 2 ^ R.2.1.toNat:Nat):Int),v.2.2.2.2):=by
    unfold JB;rw[a6,hz,hm];have ez:GJ n (Zy n i b (b+1+k) a)=zN n (Zj n i) b (k+1+1):=by unfold GJ;show zN n (Zj n i) (b:Int).toNat (((b+1+k:Nat):Int).toNat+1 - (b:Int).toNat)=_;rw[Vl,Vl];congr 1;omega
    rw[ez,G6 (by omega) (by grind),G6 (by omega) (HU I)];rfl
   have U:b<b+1+k:=by omega
   have a7:idx s.1.1 (Zc n i (b+1+k)).1=Ua (Dc n (Zc n i (b+1+k)).1):=by rw[j.net];omega
   simp only[a2,Zf,R1 W,Za,a7,Zaf t2 t3,c6,d0];rw[e4];have Q:((Uc,(i:Int),(b:Int),((b+1+k:Nat):Int),(Zc n i b).1,(Zc n i (b+1+k)).1,(Zc n i b).2.2.1,(Zc n i (b+1+k)).2.1,a,()):Zx)=Zy n i b (b+1+k) a:=rfl;rw[Q,Zm2 _ (by omega),Za,<-c7];have S:∀o:FX,((o,(Ua K4,(i:Int),(b:Int),a,JB n v (Zy n i b (b+1+k) a),B++[(i:Int)],()),((b+1+(k+1):Nat):Int)):FX×Zk8×Int)=(o,(Ua K4,(i:Int),(b:Int),a,(v.1,(if k+1=0 then v.2.1 else(Zc n i (b+(k+1))).2.1),((z ||| zN n (Zj n i) b (k+1+1):Nat):Int),((m ||| 2 ^ R.2.1.toNat:Nat):Int),v.2.2.2.2),B++[(i:Int)],()),((b+1+(k+1):Nat):Int)):=by grind
   have⟨c1,a5⟩:=Zwh D h3 j hp e1 e2 e3 a O U W T hd ((i:Int),(b:Int),a) (B++[(i:Int)]) (p.2.2.2.2.2.1++[Zy n i b (b+1+k) a]) rfl;unfold DK at t⊢;have J:(ZH n p i b (b+1+k) a v).1.2.2.1.toNat=i:=rfl;rw[J,Vj]at t;rw[J];have b3:WK n (ZH n p i b (b+1+k) a v)=(Zc n i (b+1+k)).2.2.2.2.1:=rfl;have H:∃s',(bif (Zc n i (b+1+k)).2.2.2.2.1 then
    Vg (F106 s (Ua K4,(i:Int),(b:Int),a,JB n v (Zy n i b (b+1+k) a),B++[(i:Int)],()) (p.2.2.2.2.2.1++[Zy n i b (b+1+k) a]) (Zc n i (b+1+k)).1 (Zc n i (b+1+k)).2.1) λC=>
    Vg (bif !Option.isNone C.2 then Vg (F105 C.1 C.2) λd2=>Ua d2 else Ua C.1)
    λd3=>Ua (d3,C.2) else Ua (s,Ub))=Ua (s',if WK n (ZH n p i b (b+1+k) a v)=Uc/\GE (YA (ZH n p i b (b+1+k) a v)).2.2.2.2.1=Uc then Ua (Kn n (ZH n p i b (b+1+k) a v)) else Ub)/\We F s (YB n (ZH n p i b (b+1+k) a v)) s' :=by
    unfold YB at t⊢;rw[b3]at t⊢
    cases ha:(Zc n i (b+1+k)).2.2.2.2.1 with
    |false=>
     rw[Zg (by simp),Zg (by simp)]
     exact⟨s,rfl,We.nil s⟩|true=>
     have a3:F106 s (Ua K4,(i:Int),(b:Int),a,JB n v (Zy n i b (b+1+k) a),B++[(i:Int)],()) (p.2.2.2.2.2.1++[Zy n i b (b+1+k) a]) (Zc n i (b+1+k)).1 (Zc n i (b+1+k)).2.1=_:=c1;rw[Zf,a3,Za];by_cases A:GE (YA (ZH n p i b (b+1+k) a v)).2.2.2.2.1=Uc;.rw[Zn A,Zn ⟨rfl,A⟩,Zn ⟨rfl,A⟩];rw[ha,Zn ⟨rfl,A⟩]at t;have⟨s',k1,k2⟩:=ZnK j a5 (by grind);simp_all
     rw[Zg A,Zg (by grind),Zg (by grind)];exact⟨s,rfl,We.nil s⟩
   have⟨s1,b8,a1⟩:=H;rw[b8,Za];have c5:∀l∈YB n (ZH n p i b (b+1+k) a v),Jc F hF n l:=λl hl=>by rw[(ZjZ hl).1];omega
   have b2:=j.adds c5 a1;have⟨s2,b4,b5⟩:=Zxv hW hT h3 ih b2 hp e1 e2 e3 (by omega) a a O U W T hd (b:Int) (by omega) hR (by omega) (L:=p.2.2.2.2.2.1++[Zy n i b (b+1+k) a]) rfl rfl (by omega);rw[b4,Za,S];exact⟨s2,rfl,a1.trans b5⟩
  case hend=>
   intro s M j;have:((b+1+((Zj n i).length - (b+1)):Nat):Int)=((Zj n i).length:Int):=by omega
   have a2:Ue (((b+1+((Zj n i).length - (b+1)):Nat):Int)<((rn n (i:Int)).2.2.2.2.2.2.2.1.length:Int))=false:=Zm (by rw[this];show¬((Zj n i).length:Int)<((Zj n i).length:Int);omega);grind
def DY(y:KG)(p:K5):KG:=(p.2.1,y.2.1+p.2.2.1,y.2.1+p.2.2.1,y.2.2.2.1,y.2.2.2.2.1+p.2.2.1,Ud,y.2.2.2.2.2.2.1,y.2.2.2.2.2.2.2.1++[Kc y.1 p.2.1 y.2.1 (y.2.1+p.2.2.1)],())
def Rb(q:Zp)(y:KG)(p:K5):Prop:=p.1=y.1/\y.2.2.2.2.1+p.2.2.1<=q.2.2.2.2.2.1/\y.2.1+p.2.2.1<=3155932800
instance (q:Zp) (y:KG) (p:K5):Decidable (Rb q y p):=by unfold Rb;infer_instance
def ZeO(n:Zh)(q:Zp)(y:KG):V KG:=n.2.2.2.2.1.flatMap λp=>if Rb q y p then [DY y p] else []
def ZdK(n:Zh)(y:KG)(i c:Nat):Prop:=(Zc n i c).1=y.1/\(Zc n i c).2.2.2.1=Uc/\y.2.2.1<=(Zc n i c).2.2.1
instance (n:Zh) (y:KG) (i c:Nat):Decidable (ZdK n y i c):=by unfold ZdK;infer_instance
def R8(n:Zh)(q:Zp)(y:KG):V KG:=(Vb n.2.2.1.length).flatMap λi=>(Vb (Zj n i).length).flatMap λc=>if ZdK n y i c then Hh n q 100 y i c else []
def XA(n:Zh)(q:Zp)(y:KG):V KG:=R8 n q y++if y.2.2.2.2.2.1=Uc then ZeO n q y else []
structure YG (F:KD) (hF:FO F) (n:Zh) (q:Zp) (y:KG):Prop where
 ok:Jc F hF n y
 cnt:((Z3 y.2.2.2.2.2.2.1).length:Int)=y.2.2.2.1
 rides:y.2.2.2.1<=q.2.2.2.2.1
 walk:0<=y.2.2.2.2.1/\y.2.2.2.2.1<=86400
 time:0<=y.2.1/\y.2.1<=4000000000
 legs:y.2.2.2.2.2.2.2.1.length<=200
theorem YG.pb{y}(h:YG F hF n q y)(a:y.2.2.2.1<q.2.2.2.2.1):PB F hF q (Jw y):=by have b:=h.cnt;have c:=h.walk;exact⟨⟨h.ok.fare,h.ok.rok⟩,by show ((Z3 y.2.2.2.2.2.2.1).length)+1=y.2.2.2.1+1;omega,by assumption,by show 0<=y.2.2.2.2.1/\y.2.2.2.2.1<=1000000;omega⟩
theorem Zid(e:KY n)(g:q.2.2.2.2.1<=3){y}(h:YG F hF n q y){k i c}(f:i<n.2.2.1.length)(j:c<(Zj n i).length):∀l∈Hh n q k y i c,Jc F hF n l:=by
 intro l a;unfold Hh YL at a;split at a;.rename_i b;have o:=e.time f j;exact Zdg e g k _ i c Ud _ (h.pb b) f (ZcS _) ⟨by show 0<=(Zc n i c).2.2.1;omega,by show (Zc n i c).2.2.1<=_;omega⟩ l a
 grind
theorem ZkO(a:KY n){y}(h:YG F hF n q y){p}(b:p∈n.2.2.2.2.1):Jc F hF n (DY y p):=⟨h.ok.fare,h.ok.rok,(a.path p b).2.1⟩
theorem ZwW(b:KY n)(g:q.2.2.2.2.1<=3){y}(h:YG F hF n q y):(∀l∈R8 n q y,Jc F hF n l)/\∀l∈XA n q y,Jc F hF n l:=by
 have k:∀l∈R8 n q y,Jc F hF n l:=by
  intro l a;have⟨i,f,a⟩:=Vc.1 a;have⟨c,e,a⟩:=Vc.1 a;rw[Vq]at f e;split at a;.exact Zid b g h f e l a
  grind
 refine⟨k,λl a=>?_⟩;unfold XA at a;rw[Ve]at a;obtain a|a:=a;.grind
 split at a
 .have⟨p,j,a⟩:=Vc.1 a;split at a
  .rw[Vk]at a;subst a;exact ZkO b h j
  grind
 grind
theorem Zo5(A:Whole n)(K:KN n)(I:q.2.2.2.2.1<=3){y}(v:YG F hF n q y)(can:Nat->Nat->Prop)[∀i c,Decidable (can i c)](cond:Jj->Option Bool)(f:∀i c,i<n.2.2.1.length->c<(Zj n i).length->cond (Zc n i c)=Ua (Ue (can i c)))
 {x}{N} (R:XG F hF n q x N) (S:N+((Vb n.2.2.1.length).flatMap λi=>(Vb (Zj n i).length).flatMap λc=>if can i c then Hh n q 100 y i c else []).length<=549755813888):
 ∃r,run (λs0=>
  bif Ue (s0.2<(↑(Vh n.2.2.1))) then
  Vg (idx n.2.2.1 s0.2) λP=>
  Vg
  (run (λa:FX×Int=>
  bif Ue (a.2<(↑(Vh P.2.2.2.2.2.2.2.1))) then
  Vg (idx P.2.2.2.2.2.2.2.1 a.2) λD=>
  Vg (cond D)
  λE=>
  bif E then Vg (F99 a.1 (Ua y) s0.2 a.2) λH=>Ua (.inl (H,Vf .i64 (a.2+1)))
  else Ua (.inl (a.1,Vf .i64 (a.2+1)))
  else Ua (.inr a.1)) (s0.1,0))
  λC=>Ua (.inl (C,Vf .i64 (s0.2+1)))
  else Ua (.inr s0.1)) (x,0)=Ua r/\We F x ((Vb n.2.2.1.length).flatMap λi=>(Vb (Zj n i).length).flatMap λc=>if can i c then Hh n q 100 y i c else []) r:=by
 have J:=A.ok;have hu:=A.u;have lab:∀i,i<n.2.2.1.length->∀c,c<(Zj n i).length->∀l∈(if can i c then Hh n q 100 y i c else []),Jc F hF n l:=by
  intro i e c j l O;split at O;.exact Zid J I v e j l O
  grind
 refine Zda (F:=F) (hF:=hF) (n:=n) (q:=q) (λk x=>(x,(k:Int))) (λx=>x) R ?_ S ?_ ?_;.grind
 .intro i s M e w z;simp only[ZL e,Zf,ZaT e,Za,ZU e (by omega)];have h6:=K.calls i e;have key:=Zda (F:=F) (hF:=hF) (n:=n) (q:=q) (m:=(Zj n i).length) (g:=λc=>if can i c then Hh n q 100 y i c else []) (x:=s) (N:=M) (λk x=>(x,(k:Int))) (λx=>x)
   (step:=λa=>
   bif Ue (a.2<(↑(Vh (rn n (i:Int)).2.2.2.2.2.2.2.1):Int)) then
   Vg (idx (rn n (i:Int)).2.2.2.2.2.2.2.1 a.2) λD=>
   Vg (cond D)
   λE=>
   bif E then Vg (F99 a.1 (Ua y) (i:Int) a.2) λH=>Ua (.inl (H,Vf .i64 (a.2+(1:Int))))
   else Ua (.inl (a.1,Vf .i64 (a.2+(1:Int))))
   else Ua (.inr a.1)) w (by grind) z (by
    intro c t Q j o p;have h:Ue ((c:Int)<(↑(Vh (rn n (i:Int)).2.2.2.2.2.2.2.1):Int))=true:=Zi (by show (c:Int)<((Zj n i).length:Int);omega);simp only[h,Zf,R1 j,Za,f i c e j,ZU j (by omega)];by_cases b:can i c
    .rw[Zn b]at p⊢;rw[Zi b,Zf];have⟨r,T,U⟩:=ZlM J (Zqx A K I 100) o (y:=y) v.pb (by have:=v.legs;omega) (by omega) e j (λh=>by unfold Gv;have W:K7 q (Jw y)=(q.2.2.2.2.1 - (y.2.2.2.1+1)).toNat:=rfl;have:=Zac (n:=n) i;have:=v.cnt;omega) p;have B:F99 t (Ua y) (i:Int) (c:Int)=Ua r:=T;rw[B];exact⟨r,rfl,U⟩
    .rw[Zg b,Zm b,Ze];exact⟨t,rfl,We.nil t⟩) (by
    intro t Q o;have h:Ue (((Zj n i).length:Int)<(↑(Vh (rn n (i:Int)).2.2.2.2.2.2.2.1):Int))=false:=Zm (by show¬((Zj n i).length:Int)<((Zj n i).length:Int);omega);grind)
  grind
 simp
theorem Zw2(U:Whole n)(T:KN n)(R:q.2.2.2.2.1<=3)(_:q.2.2.2.2.2.1<=86400){y}(t:YG F hF n q y){x N}(E:XG F hF n q x N)(hM:N+(XA n q y).length<=549755813888):
 ∃b,F107 x (Ua y)=Ua b/\We F x (XA n q y) b:=by
 have C:=U.ok;have e:=hM;unfold XA at e⊢;rw[Vj]at e;have⟨P,h1,h2⟩:=Zo5 U T R t (λi c=>ZdK n y i c) (λQ=>bif Ue (Q.1=y.1) then bif Q.2.2.2.1 then Ua (Ue (y.2.2.1<=Q.2.2.1)) else Ua Ud else Ua Ud) (by
  intro i c f hc;by_cases j:(Zc n i c).1=y.1
  .rw[Zi j,Zf]
   cases v:(Zc n i c).2.2.2.1 with|true=>rw[Zf];congr 1;exact decide_eq_decide.2 ⟨λh=>⟨j,v,h⟩,λh=>h.2.2⟩|false=>rw[Ze];congr 1;rw[Zm];intro h;rw[h.2.1]at v;grind
  rw[Zm j,Ze];congr 1;rw[Zm];intro h;exact j h.1) E (by unfold R8 at e;omega)
 have S:We F x (R8 n q y) P:=h2;unfold F107;simp only[Za,E.net];rw[h1];simp only[Za];have w:=E.adds (ZwW C R t).1 S
 cases K:y.2.2.2.2.2.1 with
 |false=>
  grind|true=>
  rw[K,Zn rfl]at e;rw[Zn rfl];simp only[Vu,Ze,w.net];have D:n.2.2.2.2.1.length<=60:=T.paths;unfold ZeO at e⊢;rw[Zf3]at e⊢;have J:∀o,(∃b,o=Ua b/\We F P ((Vb n.2.2.2.2.1.length).flatMap λi=>(n.2.2.2.2.1[i]?).elim [] λp=>if Rb q y p then [DY y p] else []) b)->∃b,(Vg o λx=>Ua x)=Ua b/\We F x (R8 n q y++(Vb n.2.2.2.2.1.length).flatMap λi=>(n.2.2.2.2.1[i]?).elim [] λp=>if Rb q y p then [DY y p] else []) b:=λo ⟨b,j,v⟩=>⟨b,by grind,S.trans v⟩;refine J _ (Zda (F:=F) (hF:=hF) (n:=n) (q:=q) (m:=n.2.2.2.2.1.length) (g:=λi=>(n.2.2.2.2.1[i]?).elim [] λp=>if Rb q y p then [DY y p] else []) (x:=P) (N:=N+(R8 n q y).length) (λk x=>(x,(k:Int))) (λx=>x) w (by
   intro i f l W;rw[Vd f]at W;have r:l∈(if Rb q y n.2.2.2.2.1[i] then [DY y n.2.2.2.2.1[i]] else []):=W;split at r;.rw[Vk]at r;subst r;exact ZkO C t (Vi f)
   grind) (by omega) (by
   intro i s M f z A;rw[Vd f]at A⊢;have B:M+(if Rb q y n.2.2.2.2.1[i] then [DY y n.2.2.2.2.1[i]] else []).length<=549755813888:=A;show∃b,_/\We F s (if Rb q y n.2.2.2.2.1[i] then [DY y n.2.2.2.2.1[i]] else []) b;have hp:=C.path _ (Vi f);have O:=ZkO C t (Vi f);generalize I:n.2.2.2.2.1[i]=p at*;have hx:idx n.2.2.2.2.1 (i:Int)=Ua p:=by rw[ZC f,I]
   have h4:=t.walk;have h5:=t.time;have w1:Vf .i64 (y.2.2.2.2.1+p.2.2.1)=y.2.2.2.2.1+p.2.2.1:=ZB (by omega) (by omega);have w2:Vf .i64 (y.2.1+p.2.2.1)=y.2.1+p.2.2.1:=ZB (by omega) (by omega);simp only[ZL f,Zf,hx,Za,ZU f (by omega),z.que,w1,w2];by_cases a:Rb q y p;.rw[Zn a]at B⊢;rw[Zi a.1,Zm (show¬q.2.2.2.2.2.1<y.2.2.2.2.1+p.2.2.1 by have:=a.2.1;omega),Zm (show¬3155932800<y.2.1+p.2.2.1 by have:=a.2.2;omega)];simp only[Vu,Ze,Za];have H:((Ud,(0:Int),(0:Int),(0:Int),y.1,p.2.1,y.2.1,y.2.1+p.2.2.1,Ud,()):Zx)=Kc y.1 p.2.1 y.2.1 (y.2.1+p.2.2.1):=rfl;rw[H,Zm2 _ (by have:=t.legs;omega),Za];have⟨b,j,v⟩:=ZnK z O (by omega);have a0:F105 s (Ua (p.2.1,y.2.1+p.2.2.1,y.2.1+p.2.2.1,y.2.2.2.1,y.2.2.2.2.1+p.2.2.1,Ud,y.2.2.2.2.2.2.1,y.2.2.2.2.2.2.2.1++[Kc y.1 p.2.1 y.2.1 (y.2.1+p.2.2.1)],()))=Ua b:=j;grind
   .rw[Zg a];have:(bif !Ue (p.1=y.1) then Ua Uc else bif Ue (q.2.2.2.2.2.1<y.2.2.2.2.1+p.2.2.1) then Ua Uc else Ua (Ue ((3155932800:Int)<y.2.1+p.2.2.1)))=Ua true:=by
     by_cases j:p.1=y.1
     .by_cases v:q.2.2.2.2.2.1<y.2.2.2.2.1+p.2.2.1
      .grind
      have k3:3155932800<y.2.1+p.2.2.1:=by
       by_cases k3:3155932800<y.2.1+p.2.2.1;.omega
       exact absurd ⟨j,by omega,by omega⟩ a
      grind
     grind
    rw[this];exact⟨s,rfl,We.nil s⟩) (by
   simp))
def wY(n:Zh)(q:Zp)(y:KG):Nat:=1+rW n (q.2.2.2.2.1 - y.2.2.2.1).toNat y.1+if y.2.2.2.2.2.1=Uc then((n.2.2.2.2.1.filter λp=>Ue (p.1=y.1)).map λp=>1+rW n (q.2.2.2.2.1 - y.2.2.2.1).toNat p.2.1).sum else 0
theorem Zg7{α:Type}{f g:α->Nat}:∀{l:V α},(∀x∈l,f x<=g x)->(l.map f).sum<=(l.map g).sum|[],_=>Vp _|x::l,h=>by exact Vab (by grind) (Zg7 (by grind))
theorem Zqt{α:Type}(f g:α->Nat):∀l:V α,(l.map λx=>f x+g x).sum=(l.map f).sum+(l.map g).sum|[]=>rfl|x::l=>by rw[Vn,Vn,Vn,Vo,Vo,Vo,Zqt f g l];omega
theorem Zwz(h:Whole n){a b}(k:a<n.2.2.2.1.length)(l:b<n.2.2.2.1.length)(e:Xj (lk n a)=Xj (lk n b)):a=b:=by
 have key:∀i,i<n.2.2.2.1.length->¬∃j,j<i/\Xj (lk n j)=Xj (lk n i):=by
  intro i f;have c:=W0.1 h.g i f;unfold W1 at c;simp only at c
  repeat (split at c; · omega)
  assumption
 grind
theorem Zky{a}:∀{m j},j<m->Ku m (λi=>if i=j then a else 0)=a
 |0,_,h=>by omega|m+1,j,h=>by
  show Ku m _+(if m=j then a else 0)=a;by_cases e:m=j;.subst e;rw[Zn rfl,Hx (by grind)];omega
  rw[Zg e,Zky (by omega)];omega
theorem ZoR(f:Nat->Nat->Nat) m(len:Nat->Nat):∀P:V (Nat×Nat),P.Nodup->(∀x∈P,x.1<m/\x.2<len x.1)->(P.map λx=>f x.1 x.2).sum=Ku m λi=>Ku (len i) λb=>if (i,b)∈P then f i b else 0
 |[],_,_=>by
  symm
  exact Hx λi _=>Hx (by simp)|x::P,g,j=>by
  rw[List.nodup_cons]at g;have⟨a,k⟩:=j x (by simp);rw[Vn,Vo,ZoR f m len P g.2 (by grind)];have e:∀i b,(if (i,b)∈x::P then f i b else 0)=(if i=x.1 then(if b=x.2 then f x.1 x.2 else 0) else 0)+if (i,b)∈P then f i b else 0:=by grind
  have h:(λi=>Ku (len i) λb=>if (i,b)∈x::P then f i b else 0)=λi=>(if i=x.1 then f x.1 x.2 else 0)+Ku (len i) λb=>if (i,b)∈P then f i b else 0:=by
   funext i;rw[funext (e i),GI];congr 1;by_cases c:i=x.1;.simp[Zn c];exact Zky (by grind)
   simp[Zg c];exact Hx (by omega)
  rw[h,GI,Zky a]
theorem ZwB(y:Whole n){i c:Nat} l:((W2 n i).map λk=>if (lk n k).2.1=c/\(lk n k).2.2.2.2.1=Ud then bw n l (lk n k).2.2.1.toNat (lk n k).2.2.2.1.toNat else 0).sum<=rW n l (Zc n i c).1:=by
 have D:=y.ok;have g:∀L:V Nat,(L.map λk=>if (lk n k).2.1=c/\(lk n k).2.2.2.2.1=Ud then bw n l (lk n k).2.2.1.toNat (lk n k).2.2.2.1.toNat else 0).sum=
  (((L.filter λk=>Ue ((lk n k).2.1=c/\(lk n k).2.2.2.2.1=Ud)).map λk=>((lk n k).2.2.1.toNat,(lk n k).2.2.2.1.toNat)).map λx=>bw n l x.1 x.2).sum:=by
  intro L
  induction L with
  |nil=>rfl|cons k L R=>
   grind
 rw[g];have f:∀k∈(W2 n i).filter λk=>Ue ((lk n k).2.1=c/\(lk n k).2.2.2.2.1=Ud),∃j d:Nat,lk n k=((i:Int),(c:Int),(j:Int),(d:Int),Ud,())/\j<n.2.2.1.length/\d<(Zj n j).length/\(Zc n i c).1=(Zc n j d).1/\k<n.2.2.2.1.length:=by
  intro k M;have⟨h,J⟩:=Vea.1 M;have⟨v,w⟩:=Xw J;have⟨t,j,d,st,e,K,_,I,r,N,_⟩:=ZbO D h;rw[e]at v w;have C:((t:Nat))=(c:Int):=v;have o:st=false:=w;have:t=c:=by omega
  subst this;subst o;exact⟨j,d,e,K,r,N,(Zeg h).1⟩
 rw[ZoR (bw n l) n.2.2.1.length λi=>(Zj n i).length];.unfold rW;refine Xm λj _=>Xm λd _=>?_;grind
 .have s:((W2 n i).filter λk=>Ue ((lk n k).2.1=(c:Int)/\(lk n k).2.2.2.2.1=Ud)).Pairwise (· ≠ ·):=(Vxb.filter _).filter _;refine Vub.2 (s.imp_of_mem ?_);intro a b E H p z;have⟨j,d,A,_,_,_,O⟩:=f a E;have⟨S,Q,B,_,_,_,P⟩:=f b H;rw[A,B]at z;simp[Vl,Prod.mk.injEq]at z;refine p (Zwz y O P ?_);grind
 grind
theorem ZoE{P}[DecidablePred P]{a}:∀{l:V Nat},l.Pairwise (· ≠ ·)->(∀x∈l,∀y∈l,P x->P y->x=y)->(l.map λx=>if P x then a else 0).sum<=a
 |[],_,_=>Vcb _|x::l,b,h=>by
  rw[List.pairwise_cons]at b;rw[Vn,Vo];by_cases e:P x
  .have j:(l.map λx=>if P x then a else 0).sum=0:=by
    have c:=Zg7 (f:=λx=>if P x then a else 0) (g:=λ_=>0) (l:=l) (by grind);have i:∀l:V Nat,(l.map λ_=>0).sum=0:=by
     intro l
     induction l with|nil=>rfl|cons _ l k=>grind
    grind
   grind
  rw[Zg e,Vwa];exact ZoE b.2 (by grind)
theorem ZkF(h:Whole n)(s:KN n):∀K p i b st v,i<n.2.2.1.length->((WR n q K p i b st v).map (wY n q)).sum<=Ku ((Zj n i).length - (b+1)) λk=>Zdj n (K7 q p) i (b+1+k)
 |0,p,i,b,st,v,_=>by unfold WR;simp|K+1,p,i,b,st,v,hi=>by
  have R:=h.ok;unfold WR;split;.simp
  rw[Zah];refine Xm λm hm=>?_;have hc:b+1+m<(Zj n i).length:=by omega
  generalize a0:b+1+m=c at*;generalize J:K7 q p=a;unfold DK;have r:(ZH n p i b c st v).1.2.2.1.toNat=i:=rfl;rw[r,Vr,Via,Zg6];have T:((YB n (ZH n p i b c st v)).map (wY n q)).sum<=1+rW n a (Zc n i c).1+((n.2.2.2.2.1.filter λp=>Ue (p.1=(Zc n i c).1)).map λp=>1+rW n a p.2.1).sum:=by
   unfold YB;split;.rw[<-J];rw[List.map_singleton,List.sum_singleton];unfold wY;have e1:(Kn n (ZH n p i b c st v)).2.2.2.2.2.1=true:=rfl;rw[Zn e1];exact Vp _
   simp
  have Q:∀k∈W2 n i,(lk n k).2.1=(c:Int)/\(lk n k).2.2.2.2.1=Uc->c+1=(Zj n i).length:=by intro k A ⟨W,k2⟩;have⟨w,j,d,t,e,z,I,E,H,_,U,o⟩:=ZbO R A;grind
  have M:∀k∈W2 n i,((HP (WR n q K) n q (ZH n p i b c st v) (lk n k)).map (wY n q)).sum<=
   (if (lk n k).2.1=(c:Int)/\(lk n k).2.2.2.2.1=Ud then bw n a (lk n k).2.2.1.toNat (lk n k).2.2.2.1.toNat else 0)+if (lk n k).2.1=(c:Int)/\(lk n k).2.2.2.2.1=Uc then gW a* (5*K8 n i) else 0:=by
   intro k A;have⟨w,j,d,t,e,z,I,E,H,_,U,o⟩:=ZbO R A;unfold HP;rw[e];simp[Vl];have D:(ZH n p i b c st v).1.2.2.2.1=(c:Int):=rfl;rw[D];split;.simp
   rename_i a1;have W:(w:Int)=(c:Int):=by omega
   cases t with
   |true=>
    rw[Zn rfl,Zg (by simp),Zn ⟨W,rfl⟩,Vwa];obtain⟨_,rfl⟩:=U rfl;have B:=ZkF h s K (ZH n p i b c st v) j 0 Uc (ZH n p i b c st v).1.2.2.2.2.1 z;have C:K7 q (ZH n p i b c st v)=a:=J;rw[C]at B;refine Vm B (Vm (ZnY a j 0) ?_);refine Vaa _ ?_;have:=ZbU h (show j<7 by have:=s.runs;omega) (Rp h o);have:=s.calls j z
    omega|false=>
    have i1:(if (w:Int)=(c:Int)/\Ud=Ud then bw n a j d else 0)=bw n a j d:=by grind
    have i2:(if (w:Int)=(c:Int)/\Ud=Uc then gW a* (5*K8 n i) else 0)=0:=by simp
    rw[Zg (by simp),i1,i2,Vva];split
    .unfold YL;split
     .rename_i N;have S:p.2.2.1<q.2.2.2.2.1:=N;have B:=ZkF h s K (Jw (Kn n (ZH n p i b c st v))) j d Ud (Jt (Zc n j d).2.2.1) z;have C:a=K7 q (Jw (Kn n (ZH n p i b c st v)))+1:=by rw[<-J];show (q.2.2.2.2.1 - p.2.2.1).toNat=(q.2.2.2.2.1 - (p.2.2.1+1)).toNat+1;omega
      unfold bw;rw[C];assumption
     simp
    simp
  have h1:=Zg7 M;rw[Zqt]at h1;have h2:=ZwB h (i:=i) (c:=c) a;have O:(W2 n i).Pairwise (· ≠ ·):=Vxb.filter _;have h3:((W2 n i).map λk=>if (lk n k).2.1=(c:Int)/\(lk n k).2.2.2.2.1=Uc then gW a* (5*K8 n i) else 0).sum<=if c+1=(Zj n i).length then gW a* (5*K8 n i) else 0:=by
   by_cases f:c+1=(Zj n i).length
   .rw[Zn f];refine ZoE (P:=λk=>(lk n k).2.1=(c:Int)/\(lk n k).2.2.2.2.1=Uc) O λx hx y hy px py=>?_;have⟨x1,x2,_⟩:=Zeg hx;have⟨y1,y2,_⟩:=Zeg hy;have g:∀b hb,lk n b=n.2.2.2.1[b]:=λb hb=>by unfold lk;grind
    exact Zze h x1 y1 (by grind) (by grind) (by grind)
   rw[Zg f];refine Vm (Zg7 (g:=λ_=>0) λk A=>?_) ?_;.grind
   have h0:∀l:V Nat,(l.map λ_=>0).sum=0:=by
    intro l
    induction l with|nil=>rfl|cons _ l B=>grind
   grind
  have h4:=Zot h s a (Zc n i c).1;unfold Zdj;rw[Nat.mul_add,Nat.mul_one];have h5:gW a* (if c+1=(Zj n i).length then 5*K8 n i else 0)=if c+1=(Zj n i).length then gW a* (5*K8 n i) else 0:=by grind
  omega
theorem ZsT(e:Whole n)(b:KN n) K y{i c}(f:i<n.2.2.1.length):((Hh n q K y i c).map (wY n q)).sum<=bw n (q.2.2.2.2.1 - y.2.2.2.1).toNat i c:=by
 unfold Hh YL;split
 .rename_i g;have a:(q.2.2.2.2.1 - y.2.2.2.1).toNat=K7 q (Jw y)+1:=by show _=(q.2.2.2.2.1 - (y.2.2.2.1+1)).toNat+1;omega
  rw[a];exact ZkF e b K (Jw y) i c Ud _ f
 simp
theorem ZpE(e:Whole n)(b:KN n) y(can:Nat->Nat->Prop)[∀i c,Decidable (can i c)](a:∀i c,can i c->(Zc n i c).1=y.1):(((Vb n.2.2.1.length).flatMap λi=>(Vb (Zj n i).length).flatMap λc=>if can i c then Hh n q 100 y i c else []).map (wY n q)).sum<=rW n (q.2.2.2.2.1 - y.2.2.2.1).toNat y.1:=by
 rw[Zah];refine Xm λi f=>?_;rw[Zah];refine Xm λc g=>?_;split;.rename_i h;rw[Zn (a i c h)];exact ZsT e b 100 y f
 simp
theorem ZwX(g:Whole n)(f:KN n) y:((XA n q y).map (wY n q)).sum+1<=wY n q y:=by
 unfold XA;rw[Vr,Via];have b:=ZpE (q:=q) g f y (ZdK n y) λi c h=>h.1;unfold R8;have e:((if y.2.2.2.2.2.1=Uc then ZeO n q y else []).map (wY n q)).sum<=if y.2.2.2.2.2.1=Uc then((n.2.2.2.2.1.filter λp=>Ue (p.1=y.1)).map λp=>1+rW n (q.2.2.2.2.1 - y.2.2.2.1).toNat p.2.1).sum else 0:=by
  split
  .unfold ZeO;rw[Zg6];generalize n.2.2.2.2.1=P
   induction P with
   |nil=>simp|cons p P j=>
    rw[Vn,Vo,Vka];by_cases a:p.1=y.1
    .rw[Zn (Zi a),Vn,Vo];refine Vab ?_ j;split
     .exact Vp _
     simp
    rw[Zg λh=>a h.1];grind
  simp
 unfold wY at b e⊢;omega
theorem ZnZ:∀(l:V KG),l.length<=(l.map (wY n q)).sum|[]=>Vp _|y::l=>by rw[Vn,Vo,Vy];have:=ZnZ l;unfold wY at this⊢;omega
theorem ZxK{F}(a:(Xg F).2=0)(b:∀x∈F.1,x.1.length<=9223372036854775807):F19 F=Ua (st0 F,0):=by
 have c:=(JT a).many;unfold F19;rw[Zi5 F b];have e:Zw (Ue ((Vh ([]:V Unit))+Vh F.1<=Zt))=Ua ():=by rw[Zi (by simp[Zt];omega)];rfl
 simp only[Za,Zi a,e];rfl
def XP(n:Zh)(k:Nat):V (V Int):=(Vb n.2.2.1.length).map λi:Nat=>((Vb k).filter λk=>Ue ((lk n k).1=i)).map λk:Nat=>k
def Rk(n:Zh)(q:Zp):FX:=(n,q,ZaY n,Vv n.1.length [],[],[])
theorem ZjI{k a}(h:a<(XP n k).length):(XP n k)[a]=((Vb k).filter λk=>Ue ((lk n k).1=a)).map λk:Nat=>(k:Int):=by simp[XP]
theorem ZwS(z:Whole n)(y:KN n)(q:Zp):ZcR n q=Ua (Rk n q):=by
 have H:=z.ok;have W:=z.v;have T:=y.runs;have U:=y.stops;have S:(Zt:Int)=549755813888:=rfl;have O:(Zt:Nat)=549755813888:=rfl;have C:Zw (Ue ((0:El (Tr.Ty.int .i64))<=(↑(Vh n.2.2.1):Int)/\(↑(Vh n.2.2.1):Int)<=(↑(Vh n.2.2.1):Int)/\(↑(Vh n.2.2.1):Int)<=(↑Zt:El (Tr.Ty.int .i64))))=Ua ():=by rw[Zi ⟨by simp,Vda _,by omega⟩];rfl
 have D:Zw (Ue ((0:El (Tr.Ty.int .i64))<=(↑(Vh n.1):Int)/\(↑(Vh n.1):Int)<=(↑(Vh n.1):Int)/\(↑(Vh n.1):Int)<=(↑Zt:El (Tr.Ty.int .i64))))=Ua ():=by rw[Zi ⟨by simp,Vda _,by omega⟩];rfl
 have J:XP n 0=Vv n.2.2.1.length []:=by
  unfold XP;have:∀m,(Vb m).map (λi:Nat=>((Vb 0).filter λk=>Ue ((lk n k).1=(i:Int))).map λk:Nat=>(k:Int))=Vv m []:=by intro m;rw[List.eq_replicate_iff];simp
  grind
 have f:Zgu n q=Ua (n,q,ZaY n,Vv n.1.length [],[],[],()):=by
  unfold Zgu;rw[C,Za,D,Za];refine KK (λr=>r=(n,q,ZaY n,Vv n.1.length [],[],[],())) ?_ (by simp);refine Kg n.2.2.2.1.length _ (λk s=>s=((n,q,XP n k,Vv n.1.length [],[],[],()),(k:Int))) ?_ ?_ _ (by grind)
  .rintro k _ h rfl;left;have⟨i,c,j,d,st,e,R,_⟩:=H.link _ (Vi h);have M:lk n k=n.2.2.2.1[k]:=by unfold lk;grind
   have B:(XP n k).length=n.2.2.1.length:=by unfold XP;simp
   have w:Zo (i:Int) (XP n k).length=Ua i:=by unfold Zo;grind
   have b:i<(XP n k).length:=by omega
   have A:(XP n k)[i]=((Vb k).filter λk=>Ue ((lk n k).1=(i:Int))).map λk:Nat=>(k:Int):=ZjI b;have N:((XP n k)[i]).length<=1024:=by grind
   have p:Zw (Ue (((XP n k)[i]).length+Vh [(k:Int)]<=Zt))=Ua ():=by rw[Zi (by grind)];rfl
   have t:Zw (ZaS (Ua (Vta ((i:Nat):Int))) i)=Ua ():=by rw[Vl];show Zw (Nat.beq i i)=_;rw[Nat.beq_refl];rfl
   have g:(XP n k).set i ((XP n k)[i]++[(k:Int)])=XP n (k+1):=by
    refine List.ext_getElem (by rw[Vpa];unfold XP;simp) λa Q E=>?_;rw[Vhb];have l:a<(XP n k).length:=by grind
    rw[ZjI E,Vsa,Vqa,Vr];have K:(lk n k).1=(i:Int):=by grind
    by_cases o:i=a;.grind
    have P:¬((i:Int)=(a:Int)):=by omega
    rw[Zg o,ZjI l,show List.filter (λk=>Ue ((lk n k).1=(a:Int))) [k]=[] by grind];simp
   refine⟨((n,q,XP n (k+1),Vv n.1.length [],[],[],()),((k+1:Nat):Int)),?_,rfl⟩;simp only[ZL h,Zf,ZC h,Za,e,w,Vd b,ZC b,p,t,ZU h (by omega),g]
  rintro _ rfl;exact⟨(n,q,ZaY n,Vv n.1.length [],[],[],()),by rw[JJ,Ze];rfl,rfl⟩
 unfold ZcR;rw[f,Za];have I:ZdR (Vv n.1.length ([]:V (El Qn.Y91)))=true:=by unfold ZdR;simp
 simp only;rw[I];show Ua _=Ua _;congr 1;show (n,q,ZaY n,(Vv n.1.length ([]:V (El Qn.Y91))).map λ_=>([]:V KG),[],[])=Rk n q;unfold Rk;simp
theorem Zol n q:XG F hF n q (Rk n q) 0:=by
 have c:∀r∈KO (Rk n q),r=[]:=λr b=>Vfb (by assumption);refine⟨rfl,rfl,rfl,List.length_replicate,⟨λr b y a=>?_,λy a=>(by cases a),λy a=>(by cases a)⟩,λi r b=>?_,⟨λy a=>(by cases a),λy a=>(by cases a)⟩,⟨Vp _,Vp _⟩,λr b y a=>?_,λy a=>(by cases a)⟩;.grind
 .rw[c r (Vga b)];simp
 grind
abbrev RK:=Int×Int×Unit
def G1(n:Zh)(q:Zp)(d:Int)(w:RK):KG:=(w.1,d+w.2.1,d+w.2.1,0,w.2.1,Ud,st0 n.2.2.2.2.2.1,if 0<w.2.1 then [Kc q.1 w.1 d (d+w.2.1)] else [],())
def Zcr(n:Zh)(d:Int)(w:RK)(i c:Nat):Prop:=(Zc n i c).1=w.1/\(Zc n i c).2.2.2.1=Uc/\(Zc n i c).2.2.1=d+w.2.1
instance (n:Zh) (d:Int) (w:RK) (i c:Nat):Decidable (Zcr n d w i c):=by unfold Zcr;infer_instance
def DZ(n:Zh)(q:Zp)(d:Int)(w:RK):V KG:=(Vb n.2.2.1.length).flatMap λi=>(Vb (Zj n i).length).flatMap λc=>if Zcr n d w i c then Hh n q 100 (G1 n q d w) i c else []
def H2(n:Zh)(q:Zp)(ws:V RK)(d:Int):V KG:=ws.flatMap (DZ n q d)
def Zld(n:Zh)(ws:V RK):Prop:= ∀w∈ws,0<=w.1/\w.1<n.1.length/\0<=w.2.1/\w.2.1<=14400
theorem ZkR(_:KY n){hF}(b:0<=q.2.2.2.2.1){d}(f:0<=d/\d<=3155932800){w}(a:0<=w.1/\w.1<(n.1.length:Int)/\0<=w.2.1/\w.2.1<=14400):YG n.2.2.2.2.2.1 hF n q (G1 n q d w):=by
 have c:(G1 n q d w).2.2.2.2.2.2.2.1.length<=200:=by show (if 0<w.2.1 then [Kc q.1 w.1 d (d+w.2.1)] else []).length<=200;grind
 exact⟨⟨Zql hF,λv e=>absurd e (by show¬v∈([]);simp),⟨a.1,a.2.1⟩⟩,rfl,b,⟨a.2.2.1,by show w.2.1<=_;omega⟩,⟨by show 0<=d+w.2.1;omega,by show d+w.2.1<=_;omega⟩,c⟩
theorem ZzY(b:KY n){hF}(h:q.2.2.2.2.1<=3)(g:0<=q.2.2.2.2.1){d}(j:0<=d/\d<=3155932800){w}(k:0<=w.1/\w.1<(n.1.length:Int)/\0<=w.2.1/\w.2.1<=14400):∀l∈DZ n q d w,Jc n.2.2.2.2.2.1 hF n l:=by
 intro l a;have⟨i,f,a⟩:=Vc.1 a;have⟨c,e,a⟩:=Vc.1 a;rw[Vq]at f e;split at a;.exact Zid b h (ZkR b g j k) f e l a
 grind
theorem ZsU(v:Whole n)(J:KN n){hF:FO n.2.2.2.2.2.1}(Q:∀x∈n.2.2.2.2.2.1.1,x.1.length<=9223372036854775807)(E:q.2.2.2.2.1<=3)(D:0<=q.2.2.2.2.1){d}(K:0<=d/\d<=3155932800){ws}(t:Zld n ws)(P:ws.length<=1000)(H:(H2 n q ws d).length<=549755813888):
 ∃x,ZfN n q ws d=Ua (.inl x)/\We n.2.2.2.2.2.1 (Rk n q) (H2 n q ws d) x:=by
 have I:=v.ok;unfold ZfN;rw[ZwS v J,Za,ZxK v.z Q,Za];rw[Zi rfl,Vu,Ze];unfold H2 at H⊢;rw[Zf3]at H⊢;have B:∀o,(∃e,o=Ua e/\We n.2.2.2.2.2.1 (Rk n q) ((Vb ws.length).flatMap λi=>(ws[i]?).elim [] (DZ n q d)) e)->∃e,(Vg o λx=>Ua (Sum.inl x))=Ua (Sum.inl e:FX ⊕ V (Option KG))/\We n.2.2.2.2.2.1 (Rk n q) ((Vb ws.length).flatMap λi=>(ws[i]?).elim [] (DZ n q d)) e:=by grind
 refine B _ (Zda (F:=n.2.2.2.2.2.1) (hF:=hF) (n:=n) (q:=q) (m:=ws.length) (g:=λi=>(ws[i]?).elim [] (DZ n q d)) (x:=Rk n q) (N:=0) (λk x=>(x,(k:Int))) (λx=>x) (Zol n q) (by
  intro i a l O;rw[Vd a]at O;exact ZzY I E D K (t _ (Vi a)) l O) (by omega) (by
  intro i s M a A j;rw[Vd a]at j⊢;have p:M+(DZ n q d ws[i]).length<=549755813888:=j;show∃e,_/\We n.2.2.2.2.2.1 s (DZ n q d ws[i]) e;have R:=t _ (Vi a);have S:idx ws (i:Int)=Ua ws[i]:=ZC a;generalize ws[i]=w at*;have T:Vf .i64 (d+w.2.1)=d+w.2.1:=ZB (by omega) (by omega);simp only[ZL a,Zf,S,Za,ZU a (by omega),T];have r:(bif Ue ((0:Int)<w.2.1) then
   Ua (s,Ua (w.1,d+w.2.1,d+w.2.1,(0:Int),w.2.1,Ud,st0 n.2.2.2.2.2.1,[(Ud,(0:Int),(0:Int),(0:Int),q.1,w.1,d,d+w.2.1,Ud,())],()))
   else Ua (s,Ua (w.1,d+w.2.1,d+w.2.1,(0:Int),w.2.1,Ud,st0 n.2.2.2.2.2.1,([]:V Zx),())))=(Ua (s,Ua (G1 n q d w)):Option (FX×Option KG)):=by
   unfold G1;by_cases b:0<w.2.1;.rw[Zi b,Zn b];rfl
   grind
  rw[r];simp only[Za];have⟨U,f,y⟩:=Zo5 v J E (ZkR (hF:=hF) (q:=q) I D K R) (λi c=>Zcr n d w i c) (λC=>bif Ue (C.1=w.1) then bif C.2.2.2.1 then Ua (Ue (C.2.2.1=(G1 n q d w).2.2.1)) else Ua Ud else Ua Ud) (by
   intro i c a W;by_cases f:(Zc n i c).1=w.1
   .rw[Zi f,Zf]
    cases y:(Zc n i c).2.2.2.1 with|true=>rw[Zf];congr 1;exact decide_eq_decide.2 ⟨λh=>⟨f,y,h⟩,λh=>h.2.2⟩|false=>rw[Ze];congr 1;rw[Zm];intro h;rw[h.2.1]at y;grind
   rw[Zm f,Ze];congr 1;rw[Zm];intro h;exact f h.1) A p
  rw[f];exact⟨U,rfl,y⟩) (by
  simp))
theorem Zdk n q y:1<=wY n q y:=by unfold wY;omega
theorem Zg9{α:Type} w(h:∀l,1<=w l)(ls:V α):ls.length+(ls.map λl=>w l - 1).sum=(ls.map w).sum:=by
 induction ls with
 |nil=>rfl|cons x ls a=>
  grind
def GL(F:KD)(x:FX)(y:KG):Prop:= ∃m∈JK x y.1,W5 F m y=Uc
structure D4 (F:KD) (hF:FO F) (n:Zh) (q:Zp) (S:KG->Prop) (B:Nat) (x:FX) (N:Nat):Prop where
 fin:XG F hF n q x N
 snd:(∀r∈KO x,∀y∈r,S y)/\(∀y∈Jy x,S y)/\∀y∈Xh x,S y
 wgt:N+((Jy x).map (wY n q)).sum<=B+(Jy x).length
 cls:∀r∈KO x,∀m∈r,m∈Jy x\/∀z∈XA n q m,GL F x z
theorem D4.adds{S B N x s u}(T:N+u.length+((Jy x).map (wY n q)).sum+(u.map λl=>wY n q l - 1).sum<=B+(Jy x).length)(h:XG F hF n q x N)(Q:(∀r∈KO x,∀y∈r,S y)/\(∀y∈Jy x,S y)/\∀y∈Xh x,S y)
 (C:∀r∈KO x,∀m∈r,m∈Jy x\/∀z∈XA n q m,GL F x z\/z∈u) (R:∀z∈u,S z/\Jc F hF n z) (k:We F x u s):D4 F hF n q S B s (N+u.length):=by
 have a:=h.adds (by grind) k;have⟨sub,H,I,t,J,⟨K,M,O,P⟩,v,b,c,a12⟩:=k;refine⟨a,⟨λr j y p=>?_,λy p=>?_,λy p=>?_⟩,?_,λr j m D=>?_⟩;.have⟨i,o⟩:=Vz j;grind
 .grind
 .grind
 .rw[t,Vr,Via,Vj];have e:=b λl=>wY n q l - 1;have f:=Zg9 (wY n q) (Zdk n q) sub;omega
 have⟨i,o⟩:=Vz j;have⟨r0,w,A,_⟩:=v i r o;obtain e|⟨e,_⟩:=A m D
 .obtain f|f:=C r0 (Vga w) m e
  .grind
  right;intro z E;obtain g|g:=f z E;.exact c z g
  exact a12 z g
 grind
theorem ZwD(hW:Whole n)(hT:KN n)(h3:q.2.2.2.2.1<=3)(hq:q.2.2.2.2.2.1<=86400){S}(hS:∀y,S y->YG F hF n q y/\∀z∈XA n q y,S z){B}(hB:B<=549755813888):
 ∀m x N,((Jy x).map (wY n q)).sum<=m->D4 F hF n q S B x N->∃l D,run Re x=Ua (Xh l)/\D4 F hF n q S B l D/\Jy l=[]/\∀y,GL F x y->GL F l y:=by
 intro m
 induction m with
 |zero=>
  intro x N hm b;have g:Jy x=[]:=by
   cases h:Jy x with
   |nil=>rfl|cons u rest=>
    rw[h,Vn,Vo]at hm;have:=Zdk n q u;omega
  refine⟨x,N,J3 ?_,b,g,λ_ h=>h⟩;unfold Re;have J:x.2.2.2.2.1=[]:=g
  rw[J];rfl
 |succ m ih=>
  intro x N hm b
  cases g:Jy x with
  |nil=>
   grind|cons u rest=>
   have J:x.2.2.2.2.1=u::rest:=g;have hu:S u:=b.snd.2.1 u (by rw[g];simp);have⟨K,I⟩:=hS u hu;have⟨a7,c2⟩:=K.ok.stop;have hi:u.1.toNat<(KO x).length:=by rw[b.fin.rows];omega
   have b6:Zad x u=JK x u.1:=rfl;have c1:JK x u.1=(KO x)[u.1.toNat]:=by unfold JK;grind
   have b0:=b.fin.bag u.1.toNat _ (Vd hi);have a8:=b.wgt;rw[g,Vn,Vo,Vy]at a8;rw[g,Vn,Vo]at hm;have b8:=ZwX (q:=q) hW hT u;have b9:=Zg9 (wY n q) (Zdk n q) (XA n q u);have c4:=Zdk n q u;have b5:=Zg9 (wY n q) (Zdk n q) rest;have E:N+(XA n q u).length<=549755813888:=by omega
   have b7:(Ue (0<=u.1)&&(Ue (u.1.toNat<x.2.2.2.1.length)&&Ue ((Zad x u).length<=549755813888)))=true:=by rw[Zi a7,Zi (by assumption),Zi (by grind)];rfl
   generalize a:((x.1,x.2.1,x.2.2.1,x.2.2.2.1,rest,x.2.2.2.2.2))=c;have v:KO c=KO x:=by rw[<-a];rfl
   have Q:Jy c=rest:=by rw[<-a];rfl
   have b3:Xh c=Xh x:=by rw[<-a];rfl
   have b4:∀s,JK c s=JK x s:=λs=>by unfold JK;rw[v]
   have p:XG F hF n q c N:=by
    have h:=b.fin;have hl:=h.lab;have U:=h.cvd;have W:=h.few;rw[g]at hl U W;refine⟨by rw[<-a];exact h.net,by rw[<-a];exact h.que,by rw[<-a];exact h.lnk,by rw[v];exact h.rows,by grind,by rw[v];exact h.bag,⟨?_,?_⟩,by grind,by rw[v,b3];exact h.fd,by rw[b3];exact h.to⟩;all_goals grind
   have k:(∀r∈KO c,∀y∈r,S y)/\(∀y∈Jy c,S y)/\∀y∈Xh c,S y:=by have hs:=b.snd;grind
   by_cases a0:u∈JK x u.1
   ·
    have H:(Zad x u).any (λy=>Ue (y=u))=true:=by grind
    have⟨x1,k1,M⟩:=Zw2 hW hT h3 hq K p E;have t:D4 F hF n q S B x1 (N+(XA n q u).length):=by
     refine D4.adds ?_ p k (λr A m f=>?_) (λz C=>⟨I z C,(hS z (I z C)).1.ok⟩) M;.rw[Q];omega
     rw[v]at A;obtain h|h:=b.cls r A m f;.grind
     right;intro z C;have⟨o,w,j⟩:=h z C;exact .inl ⟨o,by grind,j⟩
    have a6:((Jy x1).map (wY n q)).sum<=m:=by have⟨sub,a1,a2,a3,a4,_,a9,O,_⟩:=M;grind
    have⟨l,D,w,j,R,T⟩:=ih x1 _ a6 t;refine⟨l,D,?_,j,R,λy hy=>T y ?_⟩;.rw[<-w];refine YX ?_;unfold Re;grind
    have⟨sub,a1,a2,a3,a4,_,a9,O,P,_⟩:=M;have⟨o,w,j⟩:=hy;exact P y (by grind)
   have H:(Zad x u).any (λy=>Ue (y=u))=false:=by grind
   have t:D4 F hF n q S B c N:=by
    refine⟨p,k,by rw[Q];omega,λr A m f=>?_⟩;rw[v]at A;obtain h|h:=b.cls r A m f
    .rw[g,Voa]at h;obtain rfl|h:=h
     .exfalso;have⟨i,a5⟩:=Vz A;have e:=(b.fin.bag i r a5).1 m f;apply a0;unfold JK;simp[*]
     grind
    right;intro z C;have⟨o,w,j⟩:=h z C;exact⟨o,by grind,j⟩
   have⟨l,D,w,j,R,T⟩:=ih c N (by rw[Q];omega) t;refine⟨l,D,?_,j,R,λy ⟨o,k1,M⟩=>T y ⟨o,by grind,M⟩⟩;rw[<-w];refine YX ?_;unfold Re;grind
def Kd(q:Zp)(t:Int):Zp:=(q.1,q.2.1,t,Ud,q.2.2.2.2)
theorem ZjA{p p'}(a:p.2.2.1=p'.2.2.1)(e:p.2.2.2.1=p'.2.2.2.1)(f:p.2.2.2.2.1=p'.2.2.2.2.1)(g:p.2.2.2.2.2.1=p'.2.2.2.2.2.1) i b c st v:ZH n p i b c st v=ZH n p' i b c st v:=by unfold ZH;grind
theorem Zh2{F hF Q l}(b:LI F hF n Q l)(h:0<l.2.2.1) d:WJ l.2.2.2.2.2.1 d=l.2.2.2.2.2.1:=by
 match hL:l.2.2.2.2.2.1 with
 |[]=>rfl|[x]=>
  cases f:x.1 with
  |true=>exact Zcf f d|false=>
   exfalso;have a:=b.rgo;rw[hL,Db,Zg (by grind),Zg (by grind),Zg (by grind)]at a;have e:([])=Z3 l.2.2.2.2.1++(if l.1.1=1 then [l.1.2.2.2.2.1] else []):=(Vkb a).1;have c:=congrArg Vh e;have g:=b.cnt
   grind
 |x::y::L=>rfl
structure SL (n:Zh) (q:Zp) (d:Int) (l:Z6):Prop where
 rc:Rc n (ZA (Kd q d)) (KF n (ZA (Kd q d))) l
 nz:0<l.2.2.1
 kind:l.1.1=1\/l.1.1=2
 head:∃x L,l.2.2.2.2.2.1=x::L/\x.2.2.2.2.2.2.1=d
def Dq(n:Zh)(q:Zp)(d:Int)(y:KG):Prop:= ∃l,SL n q d l/\(l.1.1=1->WK n l=Uc)/\y=Kn n l
structure Cx (n:Zh) (q:Zp) (d:Int) (hF:FO n.2.2.2.2.2.1):Prop where
 whole:Whole n
 tin:KN n
 li0:LI n.2.2.2.2.2.1 hF n (ZA (Kd q d)) (KF n (ZA (Kd q d)))
 nch:q.2.2.2.2.2.2.2.2.2.1=Ud
 max:q.2.2.2.2.1<=3
 wlk:q.2.2.2.2.2.1<=86400
 mom:0<=d/\d<=3155932800
variable {d:Int}{hF:FO n.2.2.2.2.2.1}
theorem Cx.qi(h:Cx n q d hF):QI (ZA (Kd q d)):=⟨by show q.2.2.2.2.1<=7;have:=h.max;omega,h.wlk⟩
theorem Cx.li(h:Cx n q d hF){l}(a:Rc n (ZA (Kd q d)) (KF n (ZA (Kd q d))) l):LI n.2.2.2.2.2.1 hF n (ZA (Kd q d)) l:=a.li h.whole h.tin h.qi h.li0
theorem RU{l}(h:l.1.1≠1):Zq l=l:=by unfold Zq;grind
theorem Zqa(h:Cx n q d hF){l}(a:SL n q d l)(g:l.1.1=1->WK n l=Uc)(J:l.2.2.1<q.2.2.2.2.1){j b c}(y:j<n.2.2.1.length)(i:b<c)(t:c<(Zj n j).length)(e:Ys n j=Ud)(k:(Zc n j b).2.2.2.1=Uc)(B:(Zc n j b).1=l.1.2.1)
 (f:(Kn n l).2.2.1<=(Zc n j b).2.2.1\/(l.2.1<=(Zc n j b).2.2.1/\DH n l j b=Uc)) (A:GC n j c=Uc):SL n q d (ZH n (Jw (Kn n l)) j b c Ud (Jt (Zc n j b).2.2.1)):=by
 have⟨K,D,M,E,H⟩:=HI l;have o:=h.li a.rc;have w:(Kn n l).2.2.1=JU n (ZA (Kd q d)) l:=by
  unfold Kn JU;obtain z|z:=a.kind;all_goals grind
 have v:ZH n (Jw (Kn n l)) j b c Ud (Jt (Zc n j b).2.2.1)=ZH n (Hi n (Zq l) j b) j b c Ud (Jt (Zc n j b).2.2.1):=by
  refine ZjA (n:=n) (p:=Jw (Kn n l)) (p' :=Hi n (Zq l) j b) ?_ ?_ rfl ?_ j b c Ud (Jt (Zc n j b).2.2.1);.show l.2.2.1+1=(Zq l).2.2.1+1;omega
  .exact E.symm
  show l.2.2.2.2.2.1=WJ (Zq l).2.2.2.2.2.1 _;rw[H,Zh2 o a.nz]
 have C:ZH n (Jw (Kn n l)) j b c Ud (Jt (Zc n j b).2.2.1)∈Rr n (ZA (Kd q d)) l:=by
  refine Xz.2 (.inr (.inl ⟨g,Hq.2 ⟨j,b,c,y,i,t,⟨e,k,by grind,by omega,?_⟩,?_,A,v⟩⟩))
  .rw[D];obtain f|⟨f,r⟩:=f
   .omega
   refine .inr ⟨f,?_⟩;unfold DH at r⊢;grind
  show (Zq l).2.2.1≠q.2.2.2.2.1;omega
 have⟨x,L,I,s⟩:=a.head;refine⟨.step a.rc C,?_,.inl rfl,x,L++[Zy n j b c Ud],?_,s⟩;.show 0<l.2.2.1+1;have:=a.nz;omega
 show l.2.2.2.2.2.1++_=_;grind
theorem Zhf(h:Cx n q d hF):∀K p i b st v,i<n.2.2.1.length->(Ys n i=Ud->∀c,b<c->c<(Zj n i).length->GC n i c=Uc->SL n q d (ZH n p i b c st v))->∀y∈WR n q K p i b st v,Dq n q d y
 |0,p,i,b,st,v,_,_,y,a=>by unfold WR at a;grind|K+1,p,i,b,st,v,hi,W,y,a=>by
  have hN:=h.whole.ok;unfold WR at a;split at a;.grind
  rename_i a2;have f:Ys n i=false:=by grind
  have⟨m,hm,a⟩:=Vc.1 a;rw[Vq]at hm;have s:b<b+1+m:=by omega
  have O:b+1+m<(Zj n i).length:=by omega
  generalize b+1+m=c at*;unfold DK at a;rw[Ve]at a;obtain a|a:=a;.obtain⟨rfl,r,_⟩:=ZjZ a;have w:(Zc n i c).2.2.2.2.1=true:=r;exact⟨_,W f c s O (by unfold GC;grind),λ_=>r,rfl⟩
  have⟨k,hk,a⟩:=Vc.1 a;have Q:k∈W2 n i:=hk;have⟨o,j,J,H,e,P,a4,a1,a3,t,a0,g⟩:=ZbO hN Q;unfold HP at a;rw[e]at a;simp only[Vl]at a;split at a;.grind
  rename_i B;have M:o=c:=by
   by_cases U:((o:Nat))=(c:Int);.omega
   exact absurd (.inl U) B
  subst M;have R:(Zc n i o).2.1<=(Zc n j J).2.2.1:=by have:¬(Zc n j J).2.2.1<(Zc n i o).2.1:=λU=>B (.inr U);omega
  split at a
  .rename_i E;have l:H=true:=E;subst l;obtain⟨_,rfl⟩:=a0 rfl;have a5:Zkt n i o=true:=by unfold Zkt;rw[Vla];exact⟨_,g,by simp⟩
   have A:=W f o s O (by unfold GC;grind);refine Zhf h K _ j 0 Uc _ P (λz I N h2 h3=>?_) y a;have⟨x,L,e1,e2⟩:=A.head;refine⟨.step A.rc (Xz.2 (.inl ⟨rfl,G4.2 ⟨_,g,⟨rfl,rfl,rfl,?_,?_⟩,I,N,?_,?_,rfl⟩⟩)),A.nz,.inl rfl,x,L++[Zy n j 0 I Uc],?_,e2⟩;.grind
   .grind
   .grind
   .grind
   show (ZH n p i b o st v).2.2.2.2.2.1++_=_;grind
  split at a
  .rename_i E T;have l:H=false:=by grind
   subst l;have⟨C,D⟩:=T;have r:WK n (ZH n p i b o st v)=true:=by unfold YB at C;grind
   have w:(Zc n i o).2.2.2.2.1=true:=r;have A:=W f o s O (by unfold GC;grind);unfold YL at a;split at a;.rename_i S;refine Zhf h K _ j J Ud _ P (λz I N h2 h3=>?_) y a;refine Zqa h A (by grind) S P N h2 z D t.symm (.inr ⟨R,?_⟩) h3;unfold DH;rw[Vla];exact⟨_,g,by simp[ZH]⟩
   grind
  grind
theorem Zos(h:Cx n q d hF){y}(D:Dq n q d y):∀z∈XA n q y,Dq n q d z:=by
 obtain⟨l,g,f,rfl⟩:=D;have⟨E,H,I,J,O⟩:=HI l;intro z b;unfold XA at b;rw[Ve]at b;obtain b|b:=b
 .have⟨i,k,b⟩:=Vc.1 b;have⟨c,w,b⟩:=Vc.1 b;rw[Vq]at k w;split at b
  .rename_i a;unfold Hh YL at b;split at b
   .rename_i o;refine Zhf h 100 _ i c Ud _ k (λj K s t v=>?_) z b;exact Zqa h g f o k s t j a.2.1 a.1 (.inl a.2.2) v
   grind
  grind
 split at b
 .rename_i e;have N:l.1.1=1:=Xw e;have⟨p,A,b⟩:=Vc.1 b;split at b
  .rename_i a;rw[Vk]at b;subst b;have C:JW (Zq l) p∈Rr n (ZA (Kd q d)) l:=by
    refine Xz.2 (.inr (.inr ⟨f,by omega,HR.2 ⟨p,A,⟨?_,?_,?_⟩,rfl⟩⟩));.rw[E];exact a.1
    .rw[J];exact a.2.1
    rw[H];exact a.2.2
   have⟨x,L,M,r⟩:=g.head;refine⟨JW (Zq l) p,⟨.step g.rc C,?_,.inr rfl,x,L++[Kc (Zq l).1.2.1 p.2.1 (Zq l).2.1 ((Zq l).2.1+p.2.2.1)],?_,r⟩,λB=>absurd B (by show¬2=1;decide),?_⟩;.show 0<(Zq l).2.2.1;rw[I];exact g.nz
   .show (Zq l).2.2.2.2.2.1++_=_;grind
   unfold DY Kn;rw[RU (l:=JW (Zq l) p) (by show¬2=1;decide),Zg (show¬(JW (Zq l) p).1.1=1 by show¬2=1;decide),Zm (show¬(JW (Zq l) p).1.1=1 by show¬2=1;decide)];show _=((p.2.1,(Zq l).2.1+p.2.2.1,(Zq l).2.1+p.2.2.1,(Zq l).2.2.1,(Zq l).2.2.2.1+p.2.2.1,Ud,(Zq l).2.2.2.2.1,(Zq l).2.2.2.2.2.1++[Kc (Zq l).1.2.1 p.2.1 (Zq l).2.1 ((Zq l).2.1+p.2.2.1)],()));grind
  grind
 grind
end Q
namespace Q
open Tr Go
variable {n:Zh}{q:Zp}{d:Int}{hF:FO n.2.2.2.2.2.1}
theorem Zg4(h:Cx n q d hF){y}(j:Dq n q d y):YG n.2.2.2.2.2.1 hF n q y:=by obtain⟨l,f,e,rfl⟩:=j;have a:=h.li f.rc;have⟨b,k,c3⟩:=Zip h.qi a;have c:=a.val.walk;have o:=h.wlk;have g:=a.val.time;have i:l.2.2.2.1<=q.2.2.2.2.2.1:=c.2;exact⟨⟨b.fare.1,b.fare.2,a.val.stop⟩,c3,a.val.rides.2,⟨c.1,by show l.2.2.2.1<=_;omega⟩,⟨g.1,by show l.2.1<=_;omega⟩,by show l.2.2.2.2.2.1.length<=_;have:=a.val.len;omega⟩
def Zlc(n:Zh)(q:Zp)(w:RK):Prop:=(w.1=q.1/\w.2.1=0)\/∃p∈n.2.2.2.2.1,p.1=q.1/\p.2.2.1<=q.2.2.2.2.2.1/\w.1=p.2.1/\w.2.1=p.2.2.1
theorem ZzZ(h:Cx n q d hF){w}(S:Zlc n q w):∀z∈DZ n q d w,Dq n q d z:=by
 have E:=h.whole.ok;intro z f;unfold DZ at f;have⟨i,k,f⟩:=Vc.1 f;have⟨c,I,f⟩:=Vc.1 f;rw[Vq]at k I;split at f
 .rename_i g;have⟨y,A,N⟩:=g;unfold Hh YL at f;split at f
  .rename_i t;have J:0<q.2.2.2.2.1:=t;refine Zhf h 100 _ i c Ud _ k (λj b B C D=>?_) z f;have a:Zq (KF n (ZA (Kd q d)))=KF n (ZA (Kd q d)):=by rfl
   have O:JU n (ZA (Kd q d)) (KF n (ZA (Kd q d)))=d:=by unfold JU;rw[Zg (by show¬0=1;decide),Zg (by show¬0=2;decide),Zg (by rw[show (ZA (Kd q d)).2.2.2.2.2.2.2.2.2.1=q.2.2.2.2.2.2.2.2.2.1 from rfl,h.nch];decide)];show d+0=d;omega
   obtain⟨v,M⟩|⟨p,K,T,U,v,M⟩:=S
   .have s:ZH n (Jw (G1 n q d w)) i c b Ud (Jt (Zc n i c).2.2.1)=ZH n (Hi n (Zq (KF n (ZA (Kd q d)))) i c) i c b Ud (Jt (Zc n i c).2.2.1):=by
     refine ZjA (n:=n) (p:=Jw (G1 n q d w)) (p' :=Hi n (Zq (KF n (ZA (Kd q d)))) i c) rfl ?_ ?_ ?_ i c b Ud (Jt (Zc n i c).2.2.1);.assumption
     .rfl
     rw[a];show (if 0<w.2.1 then _ else [])=_;rw[Zg (by omega)];rfl
    refine⟨.step .start (Xz.2 (.inr (.inl ⟨λl=>absurd l (by show¬0=1;decide),Hq.2 ⟨i,c,b,k,B,C,⟨j,A,?_,by omega,.inl ?_⟩,?_,D,s⟩⟩))),by show 0<0+1;decide,.inl rfl,Zy n i c b Ud,[],?_,?_⟩;.rw[a,y,v];rfl
    .omega
    .rw[a];show 0≠q.2.2.2.2.1;omega
    .show (if 0<w.2.1 then _ else [])++[Zy n i c b Ud]=_;grind
    show (Zc n i c).2.2.1=d;omega
   have Q:=E.path p K;have R:=E.time k I;have r:JW (Zq (KF n (ZA (Kd q d)))) p∈Rr n (ZA (Kd q d)) (KF n (ZA (Kd q d))):=by
    refine Xz.2 (.inr (.inr ⟨λl=>absurd l (by show¬0=1;decide),by show¬0=2;decide,HR.2 ⟨p,K,⟨?_,?_,?_⟩,rfl⟩⟩));.assumption
    .rw[a];show 0+p.2.2.1<=q.2.2.2.2.2.1;omega
    rw[a];show d+p.2.2.1<=_;omega
   rw[a]at r;have o:Rc n (ZA (Kd q d)) (KF n (ZA (Kd q d))) (JW (KF n (ZA (Kd q d))) p):=.step .start r;have e:Zq (JW (KF n (ZA (Kd q d))) p)=JW (KF n (ZA (Kd q d))) p:=by rfl
   have P:(JW (KF n (ZA (Kd q d))) p).2.2.2.2.2.1=[Kc q.1 p.2.1 d (d+p.2.2.1)]:=rfl;have H:WJ [Kc q.1 p.2.1 d (d+p.2.2.1)] (Zc n i c).2.2.1=[Kc q.1 p.2.1 d (d+p.2.2.1)]:=by rw[ZaC rfl,N,M];unfold Kc;simp
   have s:ZH n (Jw (G1 n q d w)) i c b Ud (Jt (Zc n i c).2.2.1)=ZH n (Hi n (Zq (JW (KF n (ZA (Kd q d))) p)) i c) i c b Ud (Jt (Zc n i c).2.2.1):=by
    refine ZjA (n:=n) (p:=Jw (G1 n q d w)) ?_ ?_ ?_ ?_ i c b Ud (Jt (Zc n i c).2.2.1);.rfl
    .rw[e];show w.2.1=0+p.2.2.1;omega
    .rfl
    rw[e];show (if 0<w.2.1 then [Kc q.1 w.1 d (d+w.2.1)] else [])=WJ (JW (KF n (ZA (Kd q d))) p).2.2.2.2.2.1 _;grind
   refine⟨.step o (Xz.2 (.inr (.inl ⟨λl=>absurd l (by show¬2=1;decide),Hq.2 ⟨i,c,b,k,B,C,⟨j,A,?_,by omega,.inl ?_⟩,?_,D,s⟩⟩))),by show 0<0+1;decide,.inl rfl,Kc q.1 w.1 d (d+w.2.1),[Zy n i c b Ud],?_,rfl⟩;.rw[e,y,v];rfl
   .unfold JU;rw[Zg (show¬(JW (KF n (ZA (Kd q d))) p).1.1=1 by show¬2=1;decide),Zn (by rfl)];show d+p.2.2.1<=_;omega
   .rw[e];show 0≠q.2.2.2.2.1;omega
   show (if 0<w.2.1 then [Kc q.1 w.1 d (d+w.2.1)] else [])++[Zy n i c b Ud]=_;grind
  grind
 grind
def GX(n:Zh)(q:Zp)(l:Z6):Nat:=10*K7 q l+(if l.1.1=1 then 2+K8 n l.1.2.2.1.toNat else if l.1.1=2 then 1 else 10)
theorem Zpg(h:Cx n q d hF){l}(M:Rc n (ZA (Kd q d)) (KF n (ZA (Kd q d))) l):l.2.2.2.2.2.1.length+GX n q l<=40:=by
 induction M with
 |start=>
  have hm:=h.max;show 0+GX n q _<=40;unfold GX;rw[Zg (by show¬0=1;decide),Zg (by show¬0=2;decide)];have:K7 q (KF n (ZA (Kd q d)))=(q.2.2.2.2.1 - 0).toNat:=rfl
  omega|step O T U=>
  rename_i l x;have s:=h.li O;have⟨s1,s2,A,s4,W⟩:=HI l;have N:l.2.2.1<=q.2.2.2.2.1:=s.val.rides.2;obtain⟨k1,Q⟩|⟨_,E⟩|⟨_,k2,S⟩:=Xz.1 T
  .have⟨k,y,⟨e0,e1,e2,H,R⟩,D,h0,J,_,ex⟩:=G4.1 Q;have⟨r,C,j,B,sy,K,P,hj,_⟩:=h.whole.ok.link _ y;subst K;simp[Vl]at*;have v:=Rp h.whole (i:=r) (c:=C) (j:=j) (d:=B) (by rw[e0]at y;assumption);have t:=ZbU h.whole (show j<7 by have:=h.tin.runs;omega) v;have a:x.1.1=1:=by rw[ex];rfl
   have b:K8 n x.1.2.2.1.toNat=K8 n j:=by rw[ex];rfl
   have e:K7 q x=K7 q l:=by rw[ex];rfl
   have f:x.2.2.2.2.2.1.length=l.2.2.2.2.2.1.length+1:=by rw[ex];show (l.2.2.2.2.2.1++[_]).length=_;simp
   unfold GX at U⊢;grind
  .have⟨i,c,D,hi,I,J,w,g,_,ex⟩:=Hq.1 E;rw[A]at g;have z:l.2.2.1≠q.2.2.2.2.1:=g;have a:x.1.1=1:=by rw[ex];rfl
   have b:x.1.2.2.1.toNat=i:=by rw[ex];rfl
   have e:K7 q l=K7 q x+1:=by rw[ex];show (q.2.2.2.2.1 - l.2.2.1).toNat=(q.2.2.2.2.1 - ((Zq l).2.2.1+1)).toNat+1;omega
   have f:x.2.2.2.2.2.1.length=l.2.2.2.2.2.1.length+1:=by rw[ex];show (WJ (Zq l).2.2.2.2.2.1 _++[_]).length=_;rw[Vj,Zlq,W];rfl
   have t:=Zac (n:=n) i;have o:10*K7 q l+1<=GX n q l:=by unfold GX;grind
   unfold GX;grind
  have⟨p,hp,_,ex⟩:=HR.1 S;have a:¬x.1.1=1:=by rw[ex];show¬2=1;decide
  have b:x.1.1=2:=by rw[ex];rfl
  have e:K7 q x=K7 q l:=by rw[ex];show (q.2.2.2.2.1 - (Zq l).2.2.1).toNat=_;rw[A];rfl
  have f:x.2.2.2.2.2.1.length=l.2.2.2.2.2.1.length+1:=by rw[ex];show ((Zq l).2.2.2.2.2.1++[_]).length=_;grind
  have o:10*K7 q l+2<=GX n q l:=by unfold GX;grind
  unfold GX;grind
def Kv(n:Zh)(q:Zp):V RK:=(q.1,0,())::(n.2.2.2.2.1.filter λp=>Ue (p.1=q.1)&&Ue (p.2.2.1<=q.2.2.2.2.2.1)).map λp=>(p.2.1,p.2.2.1,())
theorem Zhu{w}(h:w∈Kv n q):Zlc n q w:=by
 unfold Kv at h;rw[Voa,Vib]at h;obtain rfl|⟨p,a,rfl⟩:=h;.exact .inl ⟨rfl,rfl⟩
 rw[Vea,Vma,KJ,KJ]at a;exact .inr ⟨p,a.1,a.2.1,a.2.2,rfl,rfl⟩
theorem Zq2(b:Whole n)(a:KN n) w:((DZ n q d w).map (wY n q)).sum<=rW n (q.2.2.2.2.1 - 0).toNat w.1:=ZpE b a (G1 n q d w) (λi c=>Zcr n d w i c) λ_ _ h=>h.1
theorem Zzl(b:Whole n)(a:KN n):((H2 n q (Kv n q) d).map (wY n q)).sum<=gW (q.2.2.2.2.1 - 0).toNat:=by
 unfold H2;rw[Zg6];unfold Kv;have e:=Zq2 (q:=q) (d:=d) b a (q.1,0,());have f:((n.2.2.2.2.1.filter λp=>Ue (p.1=q.1)&&Ue (p.2.2.1<=q.2.2.2.2.2.1)).map ((λw=>((DZ n q d w).map (wY n q)).sum) ∘λp=>(p.2.1,p.2.2.1,()))).sum<=((n.2.2.2.2.1.filter λp=>Ue (p.1=q.1)).map λp=>1+rW n (q.2.2.2.2.1 - 0).toNat p.2.1).sum:=by
  generalize n.2.2.2.2.1=P
  induction P with
  |nil=>simp|cons p P i=>
   by_cases h:p.1=q.1
   .by_cases c:p.2.2.1<=q.2.2.2.2.2.1
    .have:=Zq2 (q:=q) (d:=d) b a (p.2.1,p.2.2.1,());grind
    grind
   grind
 have g:=Zot b a (q.2.2.2.2.1 - 0).toNat q.1;grind
theorem ZvF{k}(h:k<=3):gW k<=549755813888:=by
 have a:∀k,gW k<=gW (k+1):=λk=>by show gW k<=61+1890*gW k;omega
 have b:gW 0<=gW 1:=a 0;have c:gW 1<=gW 2:=a 1;have e:gW 2<=gW 3:=a 2;have f:gW 3<=549755813888:=by decide
 rcases (show k=0\/k=1\/k=2\/k=3 by omega) with rfl|rfl|rfl|rfl<;>omega
theorem Zur(h:Cx n q d hF)(I:∀x∈n.2.2.2.2.2.1.1,x.1.length<=9223372036854775807)(t:0<=q.2.2.2.2.1)(f:0<=q.1/\q.1<n.1.length):
 ∃x N,Zbw n q (Kv n q) d=Ua ((Xh x).map Ua)/\(Xh x).length<=549755813888/\D4 n.2.2.2.2.2.1 hF n q (Dq n q d) (((H2 n q (Kv n q) d).map (wY n q)).sum) x N/\Jy x=[]/\∀z∈H2 n q (Kv n q) d,GL n.2.2.2.2.2.1 x z:=by
 have D:=h.whole.ok;have i:Zld n (Kv n q):=λw g=>by
  obtain⟨O,P⟩|⟨p,J,p1,p2,O,P⟩:=Zhu g;.omega
  have:=D.path p J;omega
 have c:(Kv n q).length<=1000:=by unfold Kv;rw[Vy,Vw];have v:=Vt (λp=>Ue (p.1=q.1)&&Ue (p.2.2.1<=q.2.2.2.2.2.1)) n.2.2.2.2.1;have:=h.tin.paths;omega
 have k:((H2 n q (Kv n q) d).map (wY n q)).sum<=549755813888:=Vm (Zzl h.whole h.tin) (ZvF (by have:=h.max;omega));have C:=Vm (ZnZ (n:=n) (q:=q) (H2 n q (Kv n q) d)) k;have⟨Q,k1,l⟩:=ZsU h.whole h.tin (hF:=hF) I h.max t h.mom i c C;have E:∀y,Dq n q d y->YG n.2.2.2.2.2.1 hF n q y/\∀z∈XA n q y,Dq n q d z:=λy b=>⟨Zg4 h b,Zos h b⟩;have e:∀z∈H2 n q (Kv n q) d,Dq n q d z:=λz a=>by have⟨w,g,a⟩:=Vc.1 a;exact ZzZ h (Zhu g) z a
 have H:∀r∈KO (Rk n q),r=[]:=λr hr=>Vfb (by assumption);have A:=D4.adds (B:=((H2 n q (Kv n q) d).map (wY n q)).sum) (hF:=hF) (by have:=Zg9 (wY n q) (Zdk n q) (H2 n q (Kv n q) d);show 0+_+0+_<=_+0;omega) (Zol n q) ⟨by grind,λy b=>(by cases b),λy b=>(by cases b)⟩ (by grind) (λz a=>⟨e z a,(Zg4 h (e z a)).ok⟩) l;have⟨x,N,l1,j,K,M⟩:=ZwD h.whole h.tin h.max h.wlk E k _ Q _ (Vp _) A;refine⟨x,N,?_,?_,j,K,λz a=>M z ?_⟩;.unfold Zbw;grind
 .have v:=j.fin.few.2;have h2:=j.wgt;grind
 have⟨sub,R,S,T,U,_,W,o,s,a12⟩:=l;exact a12 z a
theorem Zv6{s0 l}(h:Rc n q s0 l)(a:l.1.1=0):l=s0:=by
 cases h with
 |start=>rfl|step _ f=>
  exfalso;obtain⟨_,c⟩|⟨_,b⟩|⟨_,_,e⟩:=Xz.1 f;.obtain⟨_,_,_,_,_,_,_,rfl⟩:=G4.1 c;exact absurd a (by show¬1=0;decide)
  .obtain⟨_,_,_,_,_,_,_,_,_,rfl⟩:=Hq.1 b;exact absurd a (by show¬1=0;decide)
  obtain⟨_,_,_,rfl⟩:=HR.1 e;exact absurd a (by show¬2=0;decide)
theorem Zp4(e:KY n){i c d}(b:i<n.2.2.1.length)(f:c<d)(o:d<(Zj n i).length):(Zc n i c).2.2.1<=(Zc n i d).2.1:=by
 have g:=e.sound.time _ (Vi b);have key:∀d,c<d->d<(Zj n i).length->(Zc n i c).2.2.1<=(Zc n i d).2.1:=by
  intro d
  induction d with
  |zero=>omega|succ d p=>
   intro j a;have k:(Zc n i d).2.2.1<=(Zc n i (d+1)).2.1:=by rw[Zbu a,Zbu (by omega)];simp[ZdJ b]at a⊢;have:=(g (d+1) a).2.2.2 (by omega);grind
   obtain h|h:=Vsb c d;.have l:=e.time b (show d<(Zj n i).length by omega);omega
   grind
 grind
def Xq F(hF:FO F)(a:V Z8):Prop:= ∃s,Dm.LS (Ji F hF.fareOk) F.1.length Ub (a.map Kj) s
theorem Zxs{F hF b s}(k:JP F hF b s):GE s=Uc↔Xq F hF b:=by
 obtain⟨o,f,p,rfl,⟨l,c⟩,g,j⟩:=k.head;have⟨a,i,e⟩:=c b.length (Vp _);have r:GH ((Ua F,o,b.length,f,())::p)=a:=by show (f[((b.length:Int)).toNat]?).getD (-1)=a;grind
 unfold GE Xq;obtain⟨rfl,h⟩|⟨t,v,_⟩:=e;all_goals grind
theorem Xq.dom{F hF A B}(h:Dm.Dom (Ji F hF.fareOk) F.1.length (A.map Kj) (B.map Kj))(b:Xq F hF B):Xq F hF A:=by have⟨s,e⟩:=b;have⟨c,_,a⟩:=h [] s (by grind);rw[Vfa]at a;exact⟨c,a⟩
theorem Zv9{l a b}(e:a<=b)(h:∀v∈l,v.dep<=b):Dm.lastD a l<=b:=by
 induction l generalizing a with|nil=>assumption|cons r l c=>exact c (by grind) (by grind)
theorem Xq.init{F hF A r}(h:Xq F hF (A++[r]))(B:∀v∈A,v.1<=r.1):Xq F hF A:=by
 have⟨s,o⟩:=h;rw[Vr,Vn,List.map_nil]at o;obtain⟨s0,P,_,f,_⟩|⟨J,r0,a,e,K,p,s0,Q,z,O,D,E,f,c,N,_⟩:=Dm.LS.cut o (A.map Kj) [Kj r] rfl;.exact⟨s0,f⟩
 have g:e=[Kj r]:=by
  cases e with
  |nil=>grind|cons x e=>
   simp_all
 subst g;have⟨M,i,t,j⟩:=c;have l:∀v∈A.map Kj,v.dep<=(Kj r).dep:=by intro v H;obtain⟨w,I,rfl⟩:=Vib.1 H;exact B w I
 have C:Dm.lastD r0.dep (a++[Kj r])=(Kj r).dep:=by rw[Dm.lastD_append];rfl
 have b:Dm.Cov (Ji F hF.fareOk) p r0 a:=by
  refine⟨?_,?_,?_,?_⟩;.grind
  .have y:Dm.lastD r0.dep a<=(Kj r).dep:=Zv9 (by grind) (by grind);rw[C]at i;exact Vra y i
  .refine(Ji F hF.fareOk).zok_mono p _ _ ?_ t;rw[show r0::(a++[Kj r])=(r0::a)++[Kj r] from rfl,Dm.zns_append,<-Nat.or_assoc,Nat.or_self]
  rw[show r0::(a++[Kj r])=(r0::a)++[Kj r] from rfl,Dm.mds_append]at j;exact(((Ji F hF.fareOk).mok_or p _ _).1 j).1
 have k:=Dm.LS.append f (Dm.LS.cons E b (.nil _));rw[Vfa,<-z]at k;exact⟨_,k⟩
theorem ZdL(h:Cx n q d hF){l}(e:Rc n (ZA (Kd q d)) (KF n (ZA (Kd q d))) l):(l.1.1=1->Z3 (Zq l).2.2.2.2.1=Z3 l.2.2.2.2.1++[l.1.2.2.2.2.1]):=by intro b;have a:=h.li e;have f:=a.cnt;have i:l.2.2.1<=q.2.2.2.2.1:=a.val.rides.2;have g:=h.max;have⟨_,c,_⟩:=Zkd a.val b (by omega);unfold Zq;rw[Zn b];exact HW c
theorem Zx0(h:Cx n q d hF){l}(P:Rc n (ZA (Kd q d)) (KF n (ZA (Kd q d))) l):(∀v∈Z3 (Zq l).2.2.2.2.1,v.1<=l.2.1)/\(l.1.1=1->∀v∈Z3 l.2.2.2.2.1,v.1<=l.1.2.2.2.2.1.1):=by
 have e:=h.whole.ok
 induction P with
 |start=>
  refine⟨λv a=>?_,λy=>absurd y (by show¬0=1;decide)⟩;rw[RU (by show¬0=1;decide)]at a
  cases a|step A E ih=>
  rename_i l x;have z:=h.li A;have⟨i1,i2⟩:=ih;have⟨s1,s2,s3,s4,s5⟩:=HI l;have g:=Rc.step A E;obtain⟨k1,U⟩|⟨_,J⟩|⟨_,k2,hw⟩:=Xz.1 E
  .have⟨k,y,⟨_,_,_,K,B⟩,s,I,w,_,ex⟩:=G4.1 U;have⟨r,d0,j,d',sy,M,_,O,_⟩:=e.link _ y;subst M;simp only[Vl]at*;have Q:=Zp4 e O I w;have b:x.1.1=1:=by rw[ex];rfl
   have H:x.1.2.2.2.2.1.1=l.1.2.2.2.2.1.1:=by rw[ex];rfl
   have o:x.2.2.2.2.1=l.2.2.2.2.1:=by rw[ex];rfl
   have D:x.2.1=(Zc n j s).2.1:=by rw[ex];rfl
   have W:l.1.2.2.2.2.1.1<=l.2.1:=i1 _ (by rw[ZdL h A k1];simp);refine⟨λv a=>?_,by grind⟩;rw[ZdL h g b,o,Ve,Vk]at a;grind
  .have⟨i,c,s,N,t,w,f,R,_,ex⟩:=Hq.1 J;have B:=Zl0 e z.val f;have Q:=Zp4 e N t w;have b:x.1.1=1:=by rw[ex];rfl
   have H:x.1.2.2.2.2.1.1=(Zc n i c).2.2.1:=by rw[ex];rfl
   have o:x.2.2.2.2.1=(Zq l).2.2.2.2.1:=by rw[ex];rfl
   have D:x.2.1=(Zc n i s).2.1:=by rw[ex];rfl
   refine⟨λv a=>?_,by grind⟩;rw[ZdL h g b,o,Ve,Vk]at a;grind
  have⟨p,S,⟨w1,w2,w3⟩,ex⟩:=HR.1 hw;have T:=e.path p S;have C:¬x.1.1=1:=by rw[ex];show¬2=1;decide
  refine⟨λv a=>?_,by omega⟩;rw[RU C]at a;have o:x.2.2.2.2.1=(Zq l).2.2.2.2.1:=by rw[ex];rfl
  have D:x.2.1=l.2.1+p.2.2.1:=by rw[ex];show (Zq l).2.1+p.2.2.1=_;omega
  grind
theorem ZoY(h:Cx n q d hF){l}(c:Rc n (ZA (Kd q d)) (KF n (ZA (Kd q d))) l)(a:Xq n.2.2.2.2.2.1 hF (Z3 (Zq l).2.2.2.2.1)):Xq n.2.2.2.2.2.1 hF (Z3 l.2.2.2.2.1):=by
 by_cases b:l.1.1=1;.rw[ZdL h c b]at a;exact a.init ((Zx0 h c).2 b)
 rw[RU b]at a;omega
variable {x:FX}
abbrev GM F(hF:FO F)(A B:V Z8):Prop:=Dm.Dom (Ji F hF.fareOk) F.1.length (A.map Kj) (B.map Kj)
theorem GM.snoc{F hF A B}(h:GM F hF A B) r:GM F hF (A++[r]) (B++[r]):=by unfold GM;rw[Vr,Vr];exact Dm.Dom.snoc h _
def Zb5 F(hF:FO F)(m y:KG):Prop:=m.1=y.1/\m.2.1<=y.2.1/\m.2.2.1<=y.2.2.1/\m.2.2.2.1<=y.2.2.2.1/\m.2.2.2.2.1<=y.2.2.2.2.1/\(y.2.2.2.2.2.1=Uc->m.2.2.2.2.2.1=Uc)/\GM F hF (Z3 m.2.2.2.2.2.2.1) (Z3 y.2.2.2.2.2.2.1)
theorem Zb5.trans{F hF a b c}(h:Zb5 F hF a b)(k:Zb5 F hF b c):Zb5 F hF a c:=by have⟨e,f,g,i,j,l,o⟩:=h;have⟨p,r,s,t,v,w,y⟩:=k;exact⟨e.trans p,Vra f r,Vra g s,Vra i t,Vra j v,λh=>l (w h),Dm.Dom.trans o y⟩
theorem Zum{F hF m y}(b:Jc F hF n m)(c:Jc F hF n y)(k:m.1=y.1)(h:W5 F m y=Uc):Zb5 F hF m y:=by
 unfold W5 at h;simp[Vvb]at h;have⟨e,f,g,i,a,j⟩:=h;refine⟨k,e,f,g,i,λl=>?_,ZuE hF b.fare c.fare b.rok c.rok j⟩;obtain a|a:=a;.exact a
 rw[l]at a;cases a
def CvB F(hF:FO F)(x:FX)(y:KG):Prop:= ∃m∈JK x y.1,Zb5 F hF m y
theorem Zmz{F hF N}(e:XG F hF n q x N){y}(g:Jc F hF n y)(h:GL F x y):CvB F hF x y:=by
 have⟨m,f,i⟩:=h;have k:=g.stop;have a:=f;unfold JK at a;have c:y.1.toNat<(KO x).length:=by rw[e.rows];omega
 rw[Vd c]at a;have b:m∈(KO x)[y.1.toNat]:=a;have j:=(e.bag _ _ (Vd c)).1 m b;exact⟨m,f,Zum (e.lab.1 _ (Vi c) m b) g (by omega) i⟩
def Dk F(hF:FO F)(n:Zh)(q:Zp)(x:FX)(l:Z6):Prop:= ∃(K:Nat) (p:Z6) (i b c:Nat) (st:Bool) (v:Z8),i<n.2.2.1.length/\b<c/\c<(Zj n i).length/\Gv n q p i<K+1/\PB F hF q p/\Small v/\Jb v.1/\
 (∀y∈DK (WR n q K) n q (ZH n p i b c st v),GL F x y)/\(ZH n p i b c st v).1=l.1/\(ZH n p i b c st v).2.1=l.2.1/\p.2.2.1<=l.2.2.1/\p.2.2.2.1<=l.2.2.2.1/\GM F hF (Z3 p.2.2.2.2.1) (Z3 l.2.2.2.2.1)
theorem Zoy{F hF K p i b c st v l}(z:i<n.2.2.1.length)(r:b<c)(s:c<(Zj n i).length)(a:Ys n i=Ud)(w:Gv n q p i<K)(A:PB F hF q p)(B:Small v)(t:Jb v.1)(f:∀y∈WR n q K p i b st v,GL F x y)
 (g:(ZH n p i b c st v).1=l.1) (h:(ZH n p i b c st v).2.1=l.2.1) (j:p.2.2.1<=l.2.2.1) (k:p.2.2.2.1<=l.2.2.2.1) (o:GM F hF (Z3 p.2.2.2.2.1) (Z3 l.2.2.2.2.1)):Dk F hF n q x l:=by
 obtain⟨e,rfl⟩:∃e,K=e+1:=⟨K - 1,by omega⟩;refine⟨e,p,i,b,c,st,v,z,r,s,w,A,B,t,λy C=>f y ?_,g,h,j,k,o⟩;unfold WR;rw[Zg (by rw[a];simp)];refine Vc.2 ⟨c - (b+1),Vq.2 (by omega),?_⟩;rw[show b+1+(c - (b+1))=c by omega];exact C
theorem Zoz(h:Cx n q d hF){l}(y:Rc n (ZA (Kd q d)) (KF n (ZA (Kd q d))) l)(k1:l.1.1=1)(z:Xq n.2.2.2.2.2.1 hF (Z3 (Zq l).2.2.2.2.1)){p i b c st v}(w:i<n.2.2.1.length)(o:b<c)(r:c<(Zj n i).length)(f:PB n.2.2.2.2.2.1 hF q p)(A:Small v)(t:Jb v.1)
 (g:(ZH n p i b c st v).1=l.1) (j:GM n.2.2.2.2.2.1 hF (Z3 p.2.2.2.2.1) (Z3 l.2.2.2.2.1)):GE (YA (ZH n p i b c st v)).2.2.2.2.1=Uc/\GM n.2.2.2.2.2.1 hF (Z3 (Zq (ZH n p i b c st v)).2.2.2.2.1) (Z3 (Zq l).2.2.2.2.1):=by
 have⟨e,B⟩:=Zfy (st:=st) h.whole.ok h.max f w o r A t;have k:l.1.2.2.2.2.1=JB n v (Zy n i b c st):=by rw[<-g];rfl
 have a:GM n.2.2.2.2.2.1 hF (Z3 (Zq (ZH n p i b c st v)).2.2.2.2.1) (Z3 (Zq l).2.2.2.2.1):=by rw[HW e,ZdL h y k1,k];exact j.snoc _
 refine⟨?_,a⟩;have s:Zq (ZH n p i b c st v)=YA (ZH n p i b c st v):=by unfold Zq;rw[Zn (show (ZH n p i b c st v).1.1=1 from rfl)]
 refine(Zxs e).2 ?_;rw[HW e]at a;exact z.dom a
theorem Zw6(h:Cx n q d hF){N}(T:XG n.2.2.2.2.2.1 hF n q x N){l}(P:Rc n (ZA (Kd q d)) (KF n (ZA (Kd q d))) l)(k1:l.1.1=1)(a:WK n l=Uc)(S:Xq n.2.2.2.2.2.1 hF (Z3 (Zq l).2.2.2.2.1))(R:Dk n.2.2.2.2.2.1 hF n q x l):CvB n.2.2.2.2.2.1 hF x (Kn n l):=by
 have⟨K,p,i,b,c,st,v,y,B,s,U,g,D,C,t,k,A,E,H,I⟩:=R;have⟨M,O⟩:=Zoz h P k1 S y B s g D C k I;have e:WK n (ZH n p i b c st v)=true:=by unfold WK at a⊢;rw[k];exact a
 have f:Kn n (ZH n p i b c st v)∈DK (WR n q K) n q (ZH n p i b c st v):=by unfold DK YB;rw[Zn ⟨e,M⟩];simp
 have⟨o,J⟩:=Zfy (st:=st) h.whole.ok h.max g y B s D C;have z:Jc n.2.2.2.2.2.1 hF n (Kn n (ZH n p i b c st v)):=by
  refine⟨?_,?_,h.whole.ok.stop y s⟩;.show JP _ hF (Z3 (Zq (ZH n p i b c st v)).2.2.2.2.1) (Zq (ZH n p i b c st v)).2.2.2.2.1;rw[HW o];exact o
  show∀w∈Z3 (Zq (ZH n p i b c st v)).2.2.2.2.1,Jp w;rw[HW o];exact J
 have⟨m,Q,r⟩:=Zmz T z (t _ f);have j:(Kn n (ZH n p i b c st v)).1=(Kn n l).1:=by show (ZH n p i b c st v).1.2.1=l.1.2.1;rw[k]
 refine⟨m,by rw[<-j];exact Q,r.trans ⟨j,Int.le_of_eq A,?_,E,H,λ_=>rfl,O⟩⟩;show (if (ZH n p i b c st v).1.1=1 then(ZH n p i b c st v).2.1+Yt n (ZH n p i b c st v).1.2.1 else(ZH n p i b c st v).2.1)<=(if l.1.1=1 then l.2.1+Yt n l.1.2.1 else l.2.1);rw[Zn k1,Zn (show (ZH n p i b c st v).1.1=1 from rfl),k,A];exact Vda _
theorem ZpN(g:KY n){i c j e st}(h:isLink n i c j e st):∃k∈W2 n i,lk n k=((i:Int),(c:Int),(j:Int),(e:Int),st,()):=by
 have⟨k,b,f⟩:=Vza h;have a:lk n k=((i:Int),(c:Int),(j:Int),(e:Int),st,()):=by rw[<-f];exact KE b _
 refine⟨k,?_,a⟩;unfold W2;rw[Vea,Vq];exact⟨b,by rw[a];simp⟩
theorem Zw8(h:Cx n q d hF){l}(hn:Dk n.2.2.2.2.2.1 hF n q x l){i c j e:Nat}(O:l.1.2.2.1=i)(N:l.1.2.2.2.1=c)(D:isLink n i c j 0 Uc)(W:j<n.2.2.1.length)(w:0<e)(S:e<(Zj n j).length)(g:Ys n j=Ud)(a1:l.2.1<=(Zc n j 0).2.2.1):
 Dk n.2.2.2.2.2.1 hF n q x (ZH n l j 0 e Uc l.1.2.2.2.2.1):=by
 have⟨K,p,f,b,a,st,v,U,P,Q,T,B,hv,R,t,r,e2,H,I,J⟩:=hn;have C:=h.whole.ok;have o:=Zc7 C st U P Q hv R;have M:l.1.2.2.2.2.1=JB n v (Zy n f b a st):=by rw[<-r];rfl
 have z:f=i:=by
  have:((f:Nat))=(i:Int):=by rw[<-O,<-r];rfl
  omega
 have s:a=c:=by
  have:((a:Nat))=(c:Int):=by rw[<-N,<-r];rfl
  omega
 subst z;subst s;have⟨k,hk,A⟩:=ZpN C D;have a0:=ZbU h.whole (by have:=h.tin.runs;omega) (Rp h.whole D);rw[M];refine Zoy (p:=ZH n p f b a st v) W w S g (K:=K) ?_ (B.stay f b a st v) o.1 o.2.1 (λy hy=>t y ?_) rfl rfl H I J;.unfold Gv at T⊢;have:K7 q (ZH n p f b a st v)=K7 q p:=rfl;omega
 refine Vca _ (Vc.2 ⟨k,hk,?_⟩);unfold HP;rw[A];simp only[Vl];rw[Zg,Zn trivial];.exact hy
 rintro (E|E);.exact E rfl
 omega
theorem ZjQ{l K pb j b e}(g:j<n.2.2.1.length)(c:b<e)(p:e<(Zj n j).length)(o:KY n)(a:Ys n j=Ud)(r:Gv n q pb j<K)(s:PB n.2.2.2.2.2.1 hF q pb)(f:∀y∈WR n q K pb j b Ud (Jt (Zc n j b).2.2.1),GL n.2.2.2.2.2.1 x y)
 (h:pb.2.2.1<=(Zq l).2.2.1+1) (i:pb.2.2.2.1<=(Zq l).2.2.2.1) (k:GM n.2.2.2.2.2.1 hF (Z3 pb.2.2.2.2.1) (Z3 (Zq l).2.2.2.2.1)):Dk n.2.2.2.2.2.1 hF n q x (ZH n (Hi n (Zq l) j b) j b e Ud (Jt (Zc n j b).2.2.1)):=by
 have t:=o.time g (show b<(Zj n j).length by omega);exact Zoy g c p a r s (ZcS _) ⟨by show 0<=(Zc n j b).2.2.1;omega,by show (Zc n j b).2.2.1<=_;omega⟩ f rfl rfl h i k
theorem Zw7(h:Cx n q d hF){l}(hl:Rc n (ZA (Kd q d)) (KF n (ZA (Kd q d))) l)(k1:l.1.1=1)(a:WK n l=Uc)(hp:Xq n.2.2.2.2.2.1 hF (Z3 (Zq l).2.2.2.2.1))(hn:Dk n.2.2.2.2.2.1 hF n q x l)(hm:l.2.2.1<q.2.2.2.2.1)
 {j b e} (hj:j<n.2.2.1.length) (H:b<e) (he:e<(Zj n j).length) (g:Ys n j=Ud) (E:(Zc n j b).2.2.2.1=Uc) (a0:l.2.1<=(Zc n j b).2.2.1) (M:DH n l j b=Uc):Dk n.2.2.2.2.2.1 hF n q x (ZH n (Hi n (Zq l) j b) j b e Ud (Jt (Zc n j b).2.2.1)):=by
 have D:=h.whole.ok;have⟨s1,s2,s3,s4,s5⟩:=HI l;have⟨K,p,i,B,c,st,v,U,R,S,hh,z,hv,T,I,C,e2,e3,e4,e5⟩:=hn;have⟨g1,g2⟩:=Zoz h hl k1 hp U R S z hv T C e5;have f:WK n (ZH n p i B c st v)=true:=by unfold WK at a⊢;rw[C];exact a
 have w:YB n (ZH n p i B c st v)≠ []:=by unfold YB;rw[Zn ⟨f,g1⟩];simp
 have o:isLink n i c j b false:=by
  have⟨k,J,r⟩:=Vla.1 M;simp[Vma,KJ,Vvb]at r;have⟨q1,_,N,O,P,Q⟩:=r;have r1:l.1.2.2.1=i:=by rw[<-C];rfl
  have r2:l.1.2.2.2.1=c:=by rw[<-C];rfl
  unfold isLink;have⟨a1,a2,a3,a4,a5,⟨⟩⟩:=k;simp at q1 N O P Q;rw[r1]at N;rw[r2]at O;rw[<-N,<-O,<-P,<-Q,<-q1];exact J
 have⟨k,J,s⟩:=ZpN D o;have t:(Kn n (ZH n p i B c st v)).2.2.2.1<q.2.2.2.2.1:=by show p.2.2.1<_;omega
 have A:=z.beg D h.max U R S hv T t;refine ZjQ (K:=K) hj H he D g ?_ A (λy hy=>I y ?_) ?_ ?_ g2;.unfold Gv at hh⊢;have P:K7 q (Jw (Kn n (ZH n p i B c st v)))=(q.2.2.2.2.1 - (p.2.2.1+1)).toNat:=rfl;have Q:K7 q p=(q.2.2.2.2.1 - p.2.2.1).toNat:=rfl;have:=Zac (n:=n) j;omega
 .unfold DK;refine Vca _ (Vc.2 ⟨k,J,?_⟩);unfold HP;rw[s];simp only[Vl];rw[Zg,Zg (by simp),Zn ⟨w,E⟩]
  .unfold YL;rw[Zn t];exact hy
  rintro (W|W);.exact W rfl
  omega
 .show p.2.2.1+1<=_;rw[s3];omega
 rw[s4];exact e4
def Zdp(d:Int)(l:Z6):Prop:= ∃y L,l.2.2.2.2.2.1=y::L/\y.2.2.2.2.2.2.1=d
theorem Zjk{l f z}(e:f.2.2.2.2.2.1=l.2.2.2.2.2.1++[z])(i:l.2.2.2.2.2.1≠ [])(h:Zdp d f):Zdp d l:=by
 have⟨y,L,b,g⟩:=h
 cases c:l.2.2.2.2.2.1 with
 |nil=>grind|cons a K=>
  rw[e,c,List.cons_append]at b;obtain⟨rfl,_⟩:=List.cons.inj b;exact⟨a,K,c,g⟩
theorem Zpj(h:Cx n q d hF){l}(g:Rc n (ZA (Kd q d)) (KF n (ZA (Kd q d))) l)(c:l.2.2.1=0):l=KF n (ZA (Kd q d))\/∃p∈n.2.2.2.2.1,Zct (ZA (Kd q d)) (KF n (ZA (Kd q d))) p/\l=JW (KF n (ZA (Kd q d))) p:=by
 have key:∀{l},Rc n (ZA (Kd q d)) (KF n (ZA (Kd q d))) l->l.2.2.1=0->l.1.1≠1:=by intro l g c y;have v:=(h.li g).cnt;omega
 cases g with
 |start=>simp|step b i=>
  rename_i f;obtain⟨_,o⟩|⟨_,j⟩|⟨_,z,r⟩:=Xz.1 i;.obtain⟨_,_,_,_,_,_,_,rfl⟩:=G4.1 o;exact absurd rfl (key (.step b i) c)
  .obtain⟨_,_,_,_,_,_,_,_,_,rfl⟩:=Hq.1 j;exact absurd rfl (key (.step b i) c)
  obtain⟨p,w,a,rfl⟩:=HR.1 r;have⟨A,B,C,D,E⟩:=HI f;have s:f.2.2.1=0:=by have:(Zq f).2.2.1=0:=c;omega
  have t:f.1.1=0:=by
   obtain k|k|k:=(h.li b).kinds;all_goals grind
  have e:=Zv6 b t;rw[RU (by omega)]at a⊢;grind
theorem Zpi(h:Cx n q d hF){l}(a:Rc n (ZA (Kd q d)) (KF n (ZA (Kd q d))) l):0<=l.2.2.1/\l.2.2.1<=q.2.2.2.2.1:=(h.li a).val.rides
theorem Zow(h:Cx n q d hF)(i:∀z∈H2 n q (Kv n q) d,GL n.2.2.2.2.2.1 x z)(r:0<q.2.2.2.2.1)(g:0<=q.1/\q.1<n.1.length){w}(t:w∈Kv n q){l}(v:(Zq l).2.2.1=0)(A:w.2.1<=(Zq l).2.2.2.1)(B:(Zq l).2.2.2.2.1=st0 n.2.2.2.2.2.1)
 {j b e} (s:j<n.2.2.1.length) (f:b<e) (D:e<(Zj n j).length) (a:Ys n j=Ud) (C:Zcr n d w j b):Dk n.2.2.2.2.2.1 hF n q x (ZH n (Hi n (Zq l) j b) j b e Ud (Jt (Zc n j b).2.2.1)):=by
 have c:=h.whole.ok;have k:0<=w.1/\w.1<n.1.length/\0<=w.2.1/\w.2.1<=14400:=by
  obtain⟨H,I⟩|⟨p,E,M,N,H,I⟩:=Zhu t;.omega
  have:=c.path p E;omega
 have o:=ZkR (hF:=hF) c (Int.le_of_lt r) h.mom k;refine ZjQ (K:=100) s f D c a ?_ (o.pb r) (λy J=>i y ?_) ?_ A ?_;.unfold Gv;have O:K7 q (Jw (G1 n q d w))=(q.2.2.2.2.1 - (0+1)).toNat:=rfl;have:=Zac (n:=n) j;have:=h.max;omega
 .refine Vc.2 ⟨w,t,?_⟩;refine Vc.2 ⟨j,Vq.2 s,Vc.2 ⟨b,by grind,?_⟩⟩;rw[Zn C];unfold Hh YL;rw[Zn (by assumption)];omega
 .rw[v];exact Vda _
 rw[B];exact Dm.Dom.refl _
theorem Zuc(h:Cx n q d hF){B N}(hI:D4 n.2.2.2.2.2.1 hF n q (Dq n q d) B x N)(ho:Jy x=[])(a7:∀z∈H2 n q (Kv n q) d,GL n.2.2.2.2.2.1 x z)(E:0<=q.1/\q.1<n.1.length){l}(hl:Rc n (ZA (Kd q d)) (KF n (ZA (Kd q d))) l):Zdp d l->0<l.2.2.1->
 (l.1.1=1->Xq n.2.2.2.2.2.1 hF (Z3 l.2.2.2.2.1)->Dk n.2.2.2.2.2.1 hF n q x l)/\((l.1.1=1->WK n l=Uc)->Xq n.2.2.2.2.2.1 hF (Z3 (Zq l).2.2.2.2.1)->CvB n.2.2.2.2.2.1 hF x (Kn n l)):=by
 have hN:=h.whole.ok;have H:∀m,(∃s,m∈JK x s)->Dq n q d m/\∀z∈XA n q m,CvB n.2.2.2.2.2.1 hF x z/\GL n.2.2.2.2.2.1 x z:=by
  rintro m ⟨s,hm⟩;unfold JK at hm;have A:∃r∈KO x,m∈r:=by grind
  have⟨r,A,a2⟩:=A;have hs:=hI.snd.1 r A m a2;refine⟨hs,λz hz=>?_⟩;obtain hq|hq:=hI.cls r A m a2;.grind
  exact⟨Zmz hI.fin (Zg4 h (Zos h hs z hz)).ok (hq z hz),hq z hz⟩
 induction hl with
 |start=>intro _ A;exact absurd A (by show¬(0:Int)<0;decide)|step A hx ih=>
  rename_i l a;intro J d6;have a5:=Rc.step A hx;have b:=h.li A;have⟨s1,s2,s3,s4,s5⟩:=HI l;have e7:=Zpi h A;have fin:a.1.1=1->(Xq n.2.2.2.2.2.1 hF (Z3 a.2.2.2.2.1)->Dk n.2.2.2.2.2.1 hF n q x a)->(a.1.1=1->Xq n.2.2.2.2.2.1 hF (Z3 a.2.2.2.2.1)->Dk n.2.2.2.2.2.1 hF n q x a)/\((a.1.1=1->WK n a=Uc)->Xq n.2.2.2.2.2.1 hF (Z3 (Zq a).2.2.2.2.1)->CvB n.2.2.2.2.2.1 hF x (Kn n a)):=
   λk hn=>⟨λ_=>hn,λt v=>Zw6 h hI.fin a5 k (t k) v (hn (ZoY h a5 v))⟩
  obtain⟨R,hs⟩|⟨t,hb⟩|⟨t,k2,hw⟩:=Xz.1 hx
  ·
   have⟨k,C,⟨c1,c2,c3,b8,c9⟩,e,c4,T,_,ex⟩:=G4.1 hs;have⟨r,d0,j,d',sy,c5,_,hj,_,_,_,_,c8⟩:=hN.link _ C;subst c5;have b0:sy=true:=c1;subst b0;obtain⟨_,rfl⟩:=c8 rfl;simp only[Vl]at*;have hc:=b.cnt;rw[Zn R]at hc;have g:a.2.2.2.2.2.1=l.2.2.2.2.2.1++[Zy n j 0 e Uc]:=by rw[ex];rfl
   have hh:=Zjk g (b.some (by omega)) J;refine fin (by rw[ex];rfl) λv=>?_;rw[ex];have S:a.2.2.2.2.1=l.2.2.2.2.1:=by rw[ex];rfl
   rw[S]at v;exact Zw8 h (by grind) c2.symm c3.symm C hj c4 T b8 c9
  ·
   have⟨i,c,e,hi,I,T,⟨g1,g2,g3,g4,U⟩,a3,_,ex⟩:=Hq.1 hb;rw[s3]at a3;have d5:l.2.2.1≠q.2.2.2.2.1:=a3;have c6:l.2.2.1<q.2.2.2.2.1:=by omega
   refine fin (by rw[ex];rfl) λv=>?_;have S:a.2.2.2.2.1=(Zq l).2.2.2.2.1:=by rw[ex];rfl
   rw[S]at v;rw[ex];rw[s1]at g3;by_cases hz:l.2.2.1=0
   .have⟨y,L,y1,y2⟩:=J;have g:a.2.2.2.2.2.1=WJ l.2.2.2.2.2.1 (Zc n i c).2.2.1++[Zy n i c e Ud]:=by rw[ex];show WJ (Zq l).2.2.2.2.2.1 _++_=_;grind
    rw[g]at y1;obtain e0|⟨p,a4,b9,e0⟩:=Zpj h A hz
    .have D:Zq l=l:=RU (by rw[e0];show¬(0:Int)=1;decide);refine Zow h a7 (by omega) E (w:=(q.1,0,())) (by unfold Kv;simp) (by omega) ?_ ?_ hi I T g1 ⟨?_,g2,?_⟩
     .rw[D,e0];exact Vda 0
     .rw[D,e0];rfl
     .rw[g3,e0];rfl
     have P:l.2.2.2.2.2.1=[]:=by rw[e0];rfl
     rw[P]at y1;have:y=Zy n i c e false:=by have f1: [Zy n i c e Ud]=y::L:=y1;grind
     rw[this]at y2;show (Zc n i c).2.2.1=d+0;have d3:(Zc n i c).2.2.1=d:=y2;omega
    have D:Zq l=l:=RU (by rw[e0];show¬(2:Int)=1;decide);have d4:p.1=q.1/\0+p.2.2.1<=q.2.2.2.2.2.1/\_:=b9;refine Zow h a7 (by omega) E (w:=(p.2.1,p.2.2.1,())) ?_ (by omega) ?_ ?_ hi I T g1 ⟨?_,g2,?_⟩;.unfold Kv;grind
    .rw[D,e0];show p.2.2.1<=0+p.2.2.1;omega
    .rw[D,e0];rfl
    .rw[g3,e0];rfl
    have P:l.2.2.2.2.2.1=[Kc q.1 p.2.1 d (d+p.2.2.1)]:=by rw[e0];rfl
    rw[P,(Zh4 q.1 p.2.1 d d p.2.2.1 (Zc n i c).2.2.1).1]at y1;have:y=Kc q.1 p.2.1 ((Zc n i c).2.2.1 - p.2.2.1) (Zc n i c).2.2.1:=(List.cons.inj y1).1.symm;rw[this]at y2;have d3:(Zc n i c).2.2.1 - p.2.2.1=d:=y2;grind
   have f:0<l.2.2.1:=by omega
   have g:a.2.2.2.2.2.1=l.2.2.2.2.2.1++[Zy n i c e Ud]:=by rw[ex];show WJ (Zq l).2.2.2.2.2.1 _++_=_;rw[s5,Zh2 b f]
   have O:l.1.1≠0:=λC=>by have:=(b.zero C).2.1;omega
   have hh:=Zjk g (b.some O) J;have⟨d2,d1⟩:=ih hh f;by_cases e4:JU n (ZA (Kd q d)) l<=(Zc n i c).2.2.1
   .have⟨m,hm,b1,b2,b3,b4,b5,b6,b7⟩:=d1 t v;have⟨a6,Q⟩:=H m ⟨_,hm⟩;have a9:=Zg4 h a6;have e6:(Kn n l).2.2.1=JU n (ZA (Kd q d)) l:=by
     unfold Kn JU;obtain C|C|C:=b.kinds;all_goals grind
    have d9:m.2.2.2.1<=l.2.2.1:=b4;have a1:m.2.2.2.1<q.2.2.2.2.1:=by omega
    refine ZjQ (pb:=Jw m) (K:=100) hi I T hN g1 ?_ (a9.pb a1) (λy hy=>?_) ?_ ?_ b7;.unfold Gv;have q5:K7 q (Jw m)=(q.2.2.2.2.1 - (m.2.2.2.1+1)).toNat:=rfl;have:=Zac (n:=n) i;have:=h.max;have:=a9.cnt;omega
    .refine(Q y ?_).2;unfold XA R8;refine Vmb _ (Vc.2 ⟨i,Vq.2 hi,Vc.2 ⟨c,by grind,?_⟩⟩);rw[Zn ⟨by rw[g3,b1];rfl,g2,by omega⟩];unfold Hh YL;grind
    .show m.2.2.2.1+1<=_;omega
    show m.2.2.2.2.1<=_;rw[s4];assumption
   obtain U|⟨U,g6⟩:=U;.omega
   rw[s2]at U;have W:DH n l i c=true:=by unfold DH at g6⊢;rw[s1]at g6;omega
   have R:l.1.1=1:=by unfold DH at W;grind
   exact Zw7 h A R (t R) v (d2 R (ZoY h A v)) c6 hi I T g1 g2 U W
  
  have⟨p,a4,⟨w1,w2,w3⟩,ex⟩:=HR.1 hw;rw[s1]at w1;rw[s4]at w2;rw[s2]at w3;have M:¬a.1.1=1:=by rw[ex];show¬(2:Int)=1;decide
  have e3:a.2.2.1=l.2.2.1:=by rw[ex];assumption
  have f:0<l.2.2.1:=by omega
  have O:l.1.1≠0:=λC=>by have:=(b.zero C).2.1;omega
  have R:l.1.1=1:=by
   obtain C|C|C:=b.kinds;all_goals omega
  have g:a.2.2.2.2.2.1=l.2.2.2.2.2.1++[Kc (Zq l).1.2.1 p.2.1 (Zq l).2.1 ((Zq l).2.1+p.2.2.1)]:=by rw[ex];show (Zq l).2.2.2.2.2.1++_=_;grind
  have hh:=Zjk g (b.some O) J;refine⟨by omega,λ_ v=>?_⟩;rw[RU M]at v;have S:a.2.2.2.2.1=(Zq l).2.2.2.2.1:=by rw[ex];rfl
  rw[S]at v;have⟨m,hm,b1,b2,b3,b4,b5,b6,b7⟩:=(ih hh f).2 t v;have⟨a6,Q⟩:=H m ⟨_,hm⟩;have d7:m.1=l.1.2.1:=b1;have d8:m.2.1<=l.2.1:=b2;have e1:m.2.2.2.2.1<=l.2.2.2.1:=b5;have e9:l.2.2.2.1+p.2.2.1<=q.2.2.2.2.2.1:=w2;have a0:DY m p∈XA n q m:=by unfold XA;refine Vca _ ?_;rw[Zn (b6 (Zi R))];unfold ZeO;refine Vc.2 ⟨p,a4,?_⟩;rw[Zn ⟨by omega,by omega,by omega⟩];simp
  have⟨⟨o,e5,c7⟩,_⟩:=Q _ a0;have a8:(DY m p).1=(Kn n a).1:=by rw[ex];rfl
  refine⟨o,by grind,c7.trans ⟨a8,?_,?_,?_,?_,λhq=>?_,?_⟩⟩;.show m.2.1+p.2.2.1<=a.2.1;rw[ex];show _<=(Zq l).2.1+p.2.2.1;omega
  .show m.2.1+p.2.2.1<=(if a.1.1=1 then a.2.1+Yt n a.1.2.1 else a.2.1);rw[Zg M,ex];show _<=(Zq l).2.1+p.2.2.1;omega
  .show m.2.2.2.1<=a.2.2.1;rw[e3];assumption
  .show m.2.2.2.2.1+p.2.2.1<=a.2.2.2.1;rw[ex];show _<=(Zq l).2.2.2.1+p.2.2.1;omega
  .exact absurd (Xw hq) M
  show GM _ hF (Z3 m.2.2.2.2.2.2.1) (Z3 (Zq a).2.2.2.2.1);rw[RU M,S];assumption
def Ye(c:Ja):V Int:=[c.1,c.2.1,c.2.2.1]
def KU(c e:Ja):Prop:=c.1=e.1/\c.2.1=e.2.1/\c.2.2.1=e.2.2.1
instance (c e:Ja):Decidable (KU c e):=by unfold KU;infer_instance
def Wa(c e:Ja):Prop:=e.1<=c.1/\c.2.1<=e.2.1/\c.2.2.1<=e.2.2.1
instance (c e:Ja):Decidable (Wa c e):=by unfold Wa;infer_instance
def YE(c e:Ja):Prop:=c.2.2.2.1<e.2.2.2.1\/(c.2.2.2.1=e.2.2.2.1/\c.2.2.2.2.1<=e.2.2.2.2.1)
def WX(c e:Ja):Prop:=Wa c e/\(KU c e->YE c e)
theorem Wa.refl c:Wa c c:=⟨Vda _,Vda _,Vda _⟩
theorem Wa.trans{a b c}(h:Wa a b)(k:Wa b c):Wa a c:=by unfold Wa at*;omega
theorem WX.refl c:WX c c:=⟨Wa.refl c,λ_=>.inr ⟨rfl,Vda _⟩⟩
theorem WX.trans{a b c}(h:WX a b)(k:WX b c):WX a c:=by refine⟨h.1.trans k.1,λi=>?_⟩;have g:=h.1;have j:=k.1;unfold KU Wa at*;have e:=h.2 (by unfold KU;omega);have f:=k.2 (by unfold KU;omega);unfold YE at*;omega
def Jg(c:Ja)(x:JN):Bool:=Ue (¬KU c x.2.1/\Wa c x.2.1)
theorem Zhm{c e}:Ye c=Ye e↔KU c e:=by unfold Ye KU;simp
theorem ZdT:∀a b:V Int,a.length=b.length->Tr.eqEl.eqs (Tr.eqEl (.int .i64)) a b=Ua (Ue (a=b))|[],[],_=>rfl|[],_::_,h|_::_,[],h=>by cases h|x::a,y::b,h=>by have c:=ZdT a b (by grind);unfold Tr.eqEl.eqs;rw[c];simp only[Tr.eqEl];simp
theorem ZoZ c e:F117 (Ye c) (Ye e)=Ua (Ue (¬KU c e/\Wa c e)):=by
 unfold F117;rw[ZdT (Ye c) (Ye e) rfl];have g:∀c,(Ye c)[Vta 0]? =Ua c.1/\(Ye c)[Vta 1]? =Ua c.2.1/\(Ye c)[Vta 2]? =Ua c.2.2.1:=λc=>⟨rfl,rfl,rfl⟩;simp only[Za,(g c).1,(g c).2.1,(g c).2.2,(g e).1,(g e).2.1,(g e).2.2];by_cases a:KU c e;.rw[Zi (Zhm.2 a),Zm (p:= ¬KU c e/\Wa c e) λh=>h.1 a];rfl
 rw[Zm λh=>a (Zhm.1 h)];by_cases b:e.1<=c.1;case neg=>rw[Zm b,Zm (p:= ¬KU c e/\Wa c e) λh=>b h.2.1];rfl
 rw[Zi b];by_cases f:c.2.1<=e.2.1;case neg=>rw[Zm f,Zm (p:= ¬KU c e/\Wa c e) λh=>f h.2.2.1];rfl
 rw[Zi f];by_cases i:c.2.2.1<=e.2.2.1;.rw[Zi i,Zi ⟨a,b,f,i⟩];rfl
 rw[Zm i,Zm λh=>i h.2.2.2];rfl
theorem Zlk c(x:JN):F94 x (Ye c)=Ua (Jg c x):=by unfold F94 F114;have h:F117 (Ye c) [x.2.1.1,x.2.1.2.1,x.2.1.2.2.1]=Ua (Jg c x):=ZoZ c x.2.1;simp[h]
theorem ZrL c{l:V JN}(o:l.length<=549755813888):(F193 l (Ye c,())=Ua (-1)/\∀x∈l,Jg c x=Ud)\/∃i,∃a:i<l.length,F193 l (Ye c,())=Ua (i:Int)/\(∀x∈l.take i,Jg c x=Ud)/\Jg c l[i]=true:=by
 unfold F193
 suffices g:∃r:Unit ⊕ Int,_=Ua r/\((r=.inl ()/\∀x∈l,Jg c x=Ud)\/∃i,∃a:i<l.length,r=.inr i/\(∀x∈l.take i,Jg c x=Ud)/\Jg c l[i]=Uc) by
  obtain⟨r,e,f⟩:=g;obtain⟨rfl,h⟩|⟨i,a,rfl,h⟩:=f;.exact .inl ⟨KK (λx=>x=Sum.inl ()) ⟨_,e,rfl⟩ (λx b=>by subst b;rfl),h⟩
  grind
 refine Kg l.length (λr:Unit ⊕ Int=>(r=.inl ()/\∀x∈l,Jg c x=Ud)\/∃i,∃a:i<l.length,r=.inr i/\(∀x∈l.take i,Jg c x=Ud)/\Jg c l[i]=Uc) (λi s=>s=(i:Int)/\∀x∈l.take i,Jg c x=Ud) ?_ ?_ _ (by simp)
 .rintro i _ a ⟨rfl,h⟩;have b:idx l i=Ua l[i]:=ZC a;have j:∀w,w∈l.take (i+1)↔w∈l.take i\/w=l[i]:=λw=>by rw[Va a,Ve,Vk]
  simp only[ZL a,b,Za,Zlk c]
  cases k:Jg c l[i] with
  |true=>grind|false=>
   refine .inl ⟨_,rfl,ZU a (by omega),λw p=>?_⟩;grind
 simp
theorem ZrH c{l:V JN}(P:l.length<=549755813888):F191 l (Ye c,())=Ua (l.filter λx=> !Jg c x):=by
 unfold F191;obtain⟨g,K⟩|⟨b,A,g,K,I⟩:=ZrL c P;.rw[g];simp only[Za,decide_true,Zf];rw[List.filter_eq_self.2 (by grind)]
 rw[g];have D:Vf .i64 ((b:Int)+1)=((b+1:Nat):Int):=by rw[ZB (by omega) (by omega)];omega
 simp only[Za,Zm (show¬(b:Int)= -1 by omega),Ze,D];refine KK (λr=>∃k:Nat,r.2=(k:Int)/\k<=l.length/\r.1.length=l.length/\r.1.take k=l.filter λx=> !Jg c x) ?_ ?_
 .have v:(l.take b).filter (λx=> !Jg c x)=l.take b:=by simp_all
  refine Kg (l.length - (b+1)) _ (λr (s:V JN×Int×Int)=>∃k:Nat,s.2=((k:Int),((b+1+r:Nat):Int))/\k<=b+1+r/\s.1.length=l.length/\(s.1.take k=(l.take (b+1+r)).filter λx=> !Jg c x)/\s.1.drop (b+1+r)=l.drop (b+1+r)) ?_ ?_ _ ⟨b,rfl,by omega,rfl,?_,rfl⟩
  .rintro r ⟨fr,_⟩ U ⟨k,rfl,w,a,f,h⟩;left;simp only at a f h;have J:b+1+r<l.length:=by omega
   generalize O:b+1+r=i at*;have y:i<fr.length:=by omega
   have z:fr[i]? =Ua l[i]:=by have g:=congrArg List.head? h;rw[Vzb,Vzb,Vd J]at g;omega
   have o:(l.take (i+1)).filter (λx=> !Jg c x)=(l.take i).filter (λx=> !Jg c x)++(if Jg c l[i]=Uc then [] else [l[i]]):=by rw[Va J,Vqa];grind
   have j:fr.drop (i+1)=l.drop (i+1):=by have g:=congrArg (Vwb 1) h;rw[Vbc,Vbc]at g;omega
   have t:Ue ((i:Int)<((fr.length:Nat):Int))=true:=by grind
   have E:Vf .i64 ((i:Int)+1)=((b+1+(r+1):Nat):Int):=by rw[ZB (by omega) (by omega)];omega
   have B:b+1+(r+1)=i+1:=by omega
   simp only[t,Zf,Kz y,z,Za,Zlk c,E];rw[B]
   cases M:Jg c l[i] with
   |true=>
    rw[Zn M,Vfa]at o
    exact⟨_,rfl,k,rfl,by omega,a,by grind,j⟩|false=>
    rw[Zg (by grind)]at o;have p:k<fr.length:=by omega
    have H:Vf .i64 ((k:Int)+1)=((k+1:Nat):Int):=by rw[ZB (by omega) (by omega)];omega
    simp only[Vha,Zf,Kz p,Za,Vd p,H];refine⟨_,rfl,k+1,rfl,by omega,by grind,?_,?_⟩
    .have T:(fr.set k l[i]).take (k+1)=fr.take k++[l[i]]:=by rw[Va (by grind),List.take_set_of_le (Vp _),Vlb]
     grind
    rw[List.drop_set_of_lt (by omega)];omega
  .rintro ⟨fr,_⟩ ⟨k,rfl,w,a,f,_⟩;have e:b+1+(l.length - (b+1))=l.length:=by omega
   rw[e]at f w;rw[Vna]at f;have t:Ue (((b+1+(l.length - (b+1)):Nat):Int)<((fr.length:Nat):Int))=false:=by grind
   exact⟨(fr,(k:Int)),by grind,k,rfl,w,a,f⟩
  rw[Vva,Va A,Vqa,v,List.filter_cons_of_neg (by grind)];simp
 rintro ⟨fr,_⟩ ⟨k,rfl,w,a,f⟩;simp only at a f;have C:sliceB fr.length fr.length (Ua (k:Int)) Ub=Ua (k,fr.length):=Zdd (by omega);simp only[C,Za];have N:Zw (Ue (k+(fr.length - k)<=fr.length))=Ua ():=by rw[Zi (by omega)];rfl
 rw[N];simp only[Za];generalize W:Vv (fr.length - k) (((([]:V (El Ki)),()),((0:Int),(0:Int),(0:Int),(0:Int),(0:Int),()),([]:V (El Gj)),()):JN)=Z;have S:Z.length=fr.length - k:=by grind
 have Q:(Vcc k fr++Z++Vwb (k+(fr.length - k)) fr).length=fr.length:=by grind
 have R:sliceB (Vcc k fr++Z++Vwb (k+(fr.length - k)) fr).length (Vcc k fr++Z++Vwb (k+(fr.length - k)) fr).length Ub (Ua (k:Int))=Ua (0,k):=by unfold sliceB;grind
 grind
def H7(l:V JN):Prop:=l.Pairwise λx y=>¬Wa x.2.1 y.2.1/\ ¬Wa y.2.1 x.2.1
theorem Zxt(c e:Ja):F96 c e=Ua (Ue (c.2.2.2.1<e.2.2.2.1\/(c.2.2.2.1=e.2.2.2.1/\c.2.2.2.2.1<e.2.2.2.2.1))):=by
 unfold F96;by_cases a:c.2.2.2.1<e.2.2.2.1;.rw[Zi a,Zi (p:=c.2.2.2.1<e.2.2.2.1\/(c.2.2.2.1=e.2.2.2.1/\c.2.2.2.2.1<e.2.2.2.2.1)) (.inl a)];rfl
 rw[Zm a];by_cases b:c.2.2.2.1=e.2.2.2.1
 .rw[Zi b];by_cases f:c.2.2.2.2.1<e.2.2.2.2.1
  .rw[Zi f,Zi (.inr ⟨b,f⟩)];rfl
  rw[Zm f,Zm λh=>h.elim a λh=>f h.2];rfl
 rw[Zm b,Zm (p:=c.2.2.2.1<e.2.2.2.1\/(c.2.2.2.1=e.2.2.2.1/\c.2.2.2.2.1<e.2.2.2.2.1)) λh=>h.elim a λh=>b h.1];rfl
theorem Zxp{l}(o:JN)(hl:l.length+1<=549755813888)(J:H7 l):∃f,F93 l o=Ua f/\(∀x∈f,x∈l\/x=o)/\(∃y∈f,WX y.2.1 o.2.1)/\(∀x∈l,∃y∈f,WX y.2.1 x.2.1)/\H7 f:=by
 unfold F93;have E:∀c,F114 c=Ua (Ye c):=λc=>rfl;rw[E];simp only[Za]
 suffices hs:∃r:V JN ⊕ V JN,_=Ua r/\((r=.inl l/\∀x∈l,¬Wa x.2.1 o.2.1)\/(∃f,r=.inr f/\(∀x∈f,x∈l\/x=o)/\(∃y∈f,WX y.2.1 o.2.1)/\(∀x∈l,∃y∈f,WX y.2.1 x.2.1)/\H7 f)) by
  obtain⟨r,Q,W⟩:=hs;obtain⟨rfl,h⟩|⟨f,rfl,h⟩:=W
  .have hd:=ZrH o.2.1 (l:=l) (by omega);have T:=Vt (λx=> !Jg o.2.1 x) l;have hg:Zw (Ue ((l.filter λx=> !Jg o.2.1 x).length+ [o].length<=Zt))=Ua ():=by have a0:(Zt:Nat)=549755813888:=rfl;rw[Zi (by simp[Vx];omega)];rfl
   refine⟨(l.filter λx=> !Jg o.2.1 x)++[o],?_,λx e=>?_,⟨o,by simp,WX.refl _⟩,λx e=>?_,?_⟩;.exact KK (λx=>x=.inl l) ⟨_,Q,rfl⟩ (λx e=>by subst e;simp only[Vtb,hd,Za,hg])
   .rw[Ve,Vk]at e;exact e.imp (λh=>(Vea.1 h).1) id
   .cases A:Jg o.2.1 x with
    |true=>
     have:=Xw A
     exact⟨o,by simp,this.2,λk=>absurd k this.1⟩|false=>exact⟨x,Vmb _ (Vea.2 ⟨e,by rw[A];rfl⟩),WX.refl _⟩
   refine List.pairwise_append.2 ⟨List.Pairwise.filter _ J,by simp,λx e y U=>?_⟩;rw[Vk]at U;subst U;have⟨v,I⟩:=Vea.1 e;refine⟨h x v,λg=>?_⟩;have D:Jg y.2.1 x=false:=by simpa using I
   unfold Jg at D;have:=of_decide_eq_false D;apply this;refine⟨λk=>h x v ?_,g⟩;unfold KU at k;unfold Wa;omega
  exact⟨f,KK (λx=>x=.inr f) ⟨_,Q,rfl⟩ (λx e=>by subst e;rfl),h⟩
 refine Kg l.length _ (λi (s:V JN×Int)=>s=(l,(i:Int))/\∀x∈l.take i,¬Wa x.2.1 o.2.1) ?_ ?_ _ ⟨rfl,by simp⟩
 .rintro i _ t ⟨rfl,h⟩;have O:∀w,w∈l.take (i+1)↔w∈l.take i\/w=l[i]:=λw=>by rw[Va t,Ve,Vk]
  have p:=Vi t;have B:=Vd t;simp only[ZL t,Zf,Kz t,B,Za,E,ZdT _ _ (show (Ye (l[i]).2.1).length=(Ye o.2.1).length from rfl),ZoZ,Zxt];by_cases k:KU (l[i]).2.1 o.2.1
  .right;rw[Zi (Zhm.2 k)];simp only[Zf];by_cases S:o.2.1.2.2.2.1<(l[i]).2.1.2.2.2.1\/(o.2.1.2.2.2.1=(l[i]).2.1.2.2.2.1/\o.2.1.2.2.2.2.1<(l[i]).2.1.2.2.2.2.1)
   .rw[Zi S];simp only[Zf,Za];have M:WX o.2.1 (l[i]).2.1:=by unfold KU at k;refine⟨by unfold Wa;omega,λ_=>by unfold YE;omega⟩
    have H:o∈l.set i o:=Vnb.2 ⟨i,by rw[Vpa];exact t,by rw[Vlb]⟩;refine⟨_,rfl,.inr ⟨l.set i o,rfl,λx e=>List.mem_or_eq_of_mem_set e,⟨o,H,WX.refl _⟩,λx e=>?_,?_⟩⟩
    .obtain⟨j,hj,rfl⟩:=Vza e;by_cases C:i=j
     .subst C;exact⟨o,H,M⟩
     exact⟨l[j],Vnb.2 ⟨j,by rw[Vpa];exact hj,by rw[List.getElem_set_ne C]⟩,WX.refl _⟩
    refine Vdb.2 λa b R z K=>?_;rw[Vpa]at R z;have N:=Vdb.1 J a b R z K;rw[Vhb,Vhb];unfold KU at k;by_cases v:i=a;.subst v;rw[Zn rfl,Zg (by omega)];unfold Wa at N⊢;omega
    rw[Zg v];by_cases I:i=b;.subst I;rw[Zn rfl];unfold Wa at N⊢;omega
    rw[Zg I];exact N
   rw[Zm S];simp only[Ze,Za];refine⟨_,rfl,.inr ⟨l,rfl,λx e=>.inl e,⟨l[i],p,?_⟩,λx e=>⟨x,e,WX.refl _⟩,J⟩⟩;unfold KU at k;refine⟨by unfold Wa;omega,λ_=>by unfold YE;omega⟩
  rw[Zm λh=>k (Zhm.1 h)];simp only[Ze];by_cases g:Wa (l[i]).2.1 o.2.1;.right;rw[Zi ⟨k,g⟩];simp only[Zf];exact⟨_,rfl,.inr ⟨l,rfl,λx e=>.inl e,⟨l[i],p,g,λh=>absurd h k⟩,λx e=>⟨x,e,WX.refl _⟩,J⟩⟩
  left;rw[Zm λh=>g h.2];simp only[Ze];refine⟨_,rfl,by rw[ZU t (by omega)],λw P=>?_⟩;obtain P|rfl:=(O w).1 P;.exact h w P
  exact g
 rintro _ ⟨rfl,h⟩;rw[Vna]at h;exact⟨.inl l,by simp only[JJ,Ze],.inl ⟨rfl,h⟩⟩
theorem ZjN:∀l x y,y∈Hk x l->y∈l
 |[],_,_,h=>by cases h|z::l,x,y,h=>by
  unfold Hk at h
  cases a:Ue (z=x) with
  |true=>rw[a]at h;exact Vob _ (ZjN l x y h)|false=>
   rw[a]at h;simp[Ze]at h;obtain rfl|h:=h;.simp
   exact Vob _ (ZjN l z y h)
theorem ZiE:∀l x y,y∈l->y=x\/y∈Hk x l
 |[],_,_,h=>by cases h|z::l,x,y,h=>by
  unfold Hk
  cases a:Ue (z=x) with
  |true=>
   have b:=Xw a;simp[Zf];obtain rfl|h:=Voa.1 h;.omega
   exact ZiE l x y h|false=>
   simp[Ze];obtain rfl|h:=Voa.1 h;.omega
   exact .inr (ZiE l z y h)
theorem Zoe{l y}:y∈Jx l↔y∈l:=by
 cases l with
 |nil=>rfl|cons x l=>
  show y∈x::Hk x l↔_;rw[Voa,Voa];constructor
  .rintro (h|h)
   .omega
   exact .inr (ZjN l x y h)
  rintro (h|h);.omega
  exact ZiE l x y h
theorem ZgU{α}{m c g step}(acc:V α)(l:∀i,i<m->(g i).length<=c)(b:∀i a,i<m->a.length<=acc.length+i*c->step (a,(i:Int))=Ua (.inl (a++g i,((i+1:Nat)))))(e:∀a,step (a,m)=Ua (.inr a)):
 run step (acc,0)=Ua (acc++(Vb m).flatMap g)/\((Vb m).flatMap g).length<=m*c:=by
 have h:∀i,i<=m->((Vb i).flatMap g).length<=i*c:=by
  intro i
  induction i with
  |zero=>simp|succ i o=>
   intro f;rw[ZbA,Vj,Vxa];grind
 have⟨r,j,k⟩:=Kg m (λr=>r=acc++(Vb m).flatMap g) (λi s=>s=(acc++(Vb i).flatMap g,(i:Int))) (step:=step) (by
  rintro i _ f rfl;left;have:=h i (by omega);refine⟨_,b i _ f (by rw[Vj];omega),?_⟩;rw[ZbA,Vja]) (by
  grind) (acc,0) (by simp)
 grind
theorem ZsC(e:KN n)(q:Zp):F95 n q=Ua (Kv n q):=by
 have k:=e.paths;have h:Zt=549755813888:=rfl;unfold F95;rw[(ZgU (c:=1) (g:=λi=>(n.2.2.2.2.1[i]?).elim [] λp=>if p.1=q.1/\p.2.2.1<=q.2.2.2.2.2.1 then [((p.2.1,p.2.2.1,()))] else []) [(q.1,0,())] ?hg ?hs ?he).1];case hg=>
  grind
 case hs=>
  intro i acc b a;rw[Vd b];have j:idx n.2.2.2.2.1 i=Ua n.2.2.2.2.1[i]:=ZC b;generalize n.2.2.2.2.1[i]=p at*;simp only[ZL b,Zf,j,Za,ZU b (by omega)];simp[Vx]at a;by_cases o:p.1=q.1
  .by_cases r:p.2.2.1<=q.2.2.2.2.2.1
   .have f:Zw (Ue (acc.length+Vh [((p.2.1,p.2.2.1,()))]<=Zt))=Ua ():=by rw[Zi (by grind)];rfl
    grind
   grind
  grind
 case he=>
  simp
 rw[<-Zf3];unfold Kv;congr 1;rw[List.singleton_append];congr 1;generalize n.2.2.2.2.1=P
 induction P with
 |nil=>rfl|cons p P l=>
  grind
def HS(n:Zh)(q:Zp)(u:Int)(i c:Nat)(w:RK):V Int:=if (Zc n i c).1=w.1/\q.2.2.1<=(Zc n i c).2.2.1 - w.2.1/\(Zc n i c).2.2.1 - w.2.1<=u then [(Zc n i c).2.2.1 - w.2.1] else []
theorem ZzX(a:KN n) q:(Kv n q).length<=61:=by unfold Kv;rw[Vy,Vw];have b:=Vt (λp=>Ue (p.1=q.1)&&Ue (p.2.2.1<=q.2.2.2.2.2.1)) n.2.2.2.2.1;have:=a.paths;omega
theorem Zq1(a:KY n){w}(c:w∈Kv n q):0<=w.2.1/\w.2.1<=14400:=by
 obtain⟨e,f⟩|⟨p,b,g,h,e,f⟩:=Zhu c;.omega
 have:=a.path p b;omega
theorem ZwN(J:Whole n)(z:KN n)(q:Zp)(u:Int):∃ds:V Int,F112 n q (Kv n q) u=Ua ds/\ds.length<=2562/\(∀t∈ds,q.2.2.1<=t/\t<=u/\t<=3155932800/\∃i c,i<n.2.2.1.length/\c<(Zj n i).length/\∃w∈Kv n q,(Zc n i c).1=w.1/\(Zc n i c).2.2.1 - w.2.1=t)/\
 ∀i c,i<n.2.2.1.length->c<(Zj n i).length->∀w∈Kv n q,(Zc n i c).1=w.1->q.2.2.1<=(Zc n i c).2.2.1 - w.2.1->(Zc n i c).2.2.1 - w.2.1<=u->(Zc n i c).2.2.1 - w.2.1∈ds:=by
 have y:=J.ok;have hu:=J.u;have U:=ZzX z q;have h7:=z.runs;have Q:(Zt:Nat)=549755813888:=rfl;have K:∀i c,i<n.2.2.1.length->c<(Zj n i).length->∀k,k<(Kv n q).length->(((Kv n q)[k]?).elim [] (HS n q u i c)).length<=1:=by intro i c _ _ k j;rw[Vd j];show (HS n q u i c _).length<=1;unfold HS;grind
 have A:∀m b (g:Nat->V Int),(∀i,i<m->(g i).length<=b)->((Vb m).flatMap g).length<=m*b:=by
  intro m b g hg
  induction m with
  |zero=>simp|succ m ih=>
   rw[ZbA,Vj,Vxa];grind
 have H:∀i c,i<n.2.2.1.length->c<(Zj n i).length->((Vb (Kv n q).length).flatMap λk=>((Kv n q)[k]?).elim [] (HS n q u i c)).length<=61:=by intro i c a f;have:=A _ 1 _ (K i c a f);omega
 have I:∀i,i<n.2.2.1.length->((Vb (Zj n i).length).flatMap λc=>(Vb (Kv n q).length).flatMap λk=>((Kv n q)[k]?).elim [] (HS n q u i c)).length<=366:=by intro i a;have:=A _ 61 _ (H i · a);have:=z.calls i a;omega
 unfold F112;rw[(ZgU (m:=n.2.2.1.length) (c:=366) (g:=λi=>(Vb (Zj n i).length).flatMap λc=>(Vb (Kv n q).length).flatMap λk=>((Kv n q)[k]?).elim [] (HS n q u i c)) [] I ?hs ?he).1];case hs=>
  intro i acc a s;simp only[List.length_nil]at s;have o:acc.length<=2562:=by omega
  simp only[ZL a,Zf,ZaT a,Za,ZU a (by omega)];have h6:=z.calls i a;rw[(ZgU (m:=(Zj n i).length) (c:=61) (g:=λc=>(Vb (Kv n q).length).flatMap λk=>((Kv n q)[k]?).elim [] (HS n q u i c)) acc (H i · a) ?hs2 ?he2).1];.rfl
  case hs2=>
   intro c e f B;have C:e.length<=3000:=by omega
   have v:Ue ((c:Int)<(↑(Vh (rn n (i:Int)).2.2.2.2.2.2.2.1):Int))=true:=Zi (by show (c:Int)<((Zj n i).length:Int);omega);simp only[v,Zf,R1 f,Za,ZU f (by omega)];have D:=y.time a f;rw[(ZgU (m:=(Kv n q).length) (c:=1) (g:=λk=>((Kv n q)[k]?).elim [] (HS n q u i c)) e (by grind) ?hs3 ?O).1];.rfl
   case hs3=>
    intro k l j o;rw[Vd j];have W:idx (Kv n q) (k:Int)=Ua (Kv n q)[k]:=ZC j;have E:=Zq1 y (Vi j);generalize (Kv n q)[k]=w at*;have p:Vf .i64 ((Zc n i c).2.2.1 - w.2.1)=(Zc n i c).2.2.1 - w.2.1:=ZB (by omega) (by omega);simp only[ZL j,Zf,W,Za,ZU j (by omega),p];have P:Zw (Ue (l.length+Vh [(Zc n i c).2.2.1 - w.2.1]<=Zt))=Ua ():=by rw[Zi (by grind)];rfl
    show _=Ua (Sum.inl (l++HS n q u i c w,_));unfold HS;grind
   simp
  case he2=>
   intro e;have v:Ue (((Zj n i).length:Int)<(↑(Vh (rn n (i:Int)).2.2.2.2.2.2.2.1):Int))=false:=Zm (by show¬((Zj n i).length:Int)<((Zj n i).length:Int);omega);grind
 case he=>
  simp
 rw[Vac];have g2:=A _ 366 _ I;generalize M:((Vb n.2.2.1.length).flatMap λi=>(Vb (Zj n i).length).flatMap λc=>(Vb (Kv n q).length).flatMap λk=>((Kv n q)[k]?).elim [] (HS n q u i c))=G at*;have N:G.length<=2562:=by omega
 have r:∀t,t∈G↔∃i,i<n.2.2.1.length/\∃c,c<(Zj n i).length/\∃w∈Kv n q,t∈HS n q u i c w:=by
  intro t;rw[<-M,Vc];constructor;.grind
  rintro ⟨i,a,c,f,w,p,h⟩;obtain⟨k,j,rfl⟩:=Vza p;refine⟨i,Vq.2 a,Vc.2 ⟨c,Vq.2 f,Vc.2 ⟨k,Vq.2 j,?_⟩⟩⟩;grind
 have R:F200 G=Ua (YS G):=by unfold F200 sortI;grind
 have S:(YS G).length=G.length:=(ZcM G).length_eq;have hs2:F188 (YS G)=Ua (Jx (YS G)):=by unfold F188 compactI;grind
 refine⟨Jx (YS G),?_,?_,λt D=>?_,λi c a f w p k1 k2 k3=>?_⟩;.grind
 .have:=Zmt (YS G);omega
 .rw[Zoe,(ZcM G).mem_iff,r]at D;have⟨i,a,c,f,w,p,h⟩:=D;have T:=y.time a f;have E:=Zq1 y p;unfold HS at h;grind
 rw[Zoe,(ZcM G).mem_iff,r];refine⟨i,a,c,f,w,p,?_⟩;unfold HS;grind
variable {L:V Zx}
theorem Zug(q a:Zp)(hL:L≠ []):F52 n a (L,())=F52 n q (L,()):=by have b:0<L.length:=List.length_pos_iff.2 hL;unfold F52;grind
theorem Ztb{F a b}(h:a<=b):YM F a<=YM F b:=by
 unfold YM;split<;>split<;>omega
theorem Zfi(h:JD n q){t}(i:0<=t)(j:t<=3155932800):JD n (Kd q t):=by refine⟨h.fit,h.few,Zcw.2 ⟨h.whole,?_⟩,h.tin,h.max⟩;have a:=h.qb;unfold qB at a⊢;simp only[Vma,KJ]at a⊢;have⟨b,c,_,e,f,g,_⟩:=a;refine⟨b,c,⟨i,j⟩,e,f,g,?_⟩;show (!(_&&Ud))=Uc;simp
theorem Zi8(h:X0 n):X0 (Kl n q):=by
 refine⟨h.stops,h.routes,λx b=>?_,λx b=>?_,?_,h.prods⟩;.obtain⟨r,a,rfl⟩:=Vib.1 (b);exact h.runs r a
 .obtain⟨r,a,rfl⟩:=Vib.1 (b);show (r.2.2.2.2.2.2.2.1.map (Jm n q)).length<=_;rw[Vw];exact h.calls r a
 show (GD n q).length<=4096;unfold GD;split;.exact Vm (Vt _ _) h.paths
 exact h.paths
structure Dg (n:Zh) (q:Zp) (d:Int):Prop where
 ask:JD n q
 nback:q.2.2.2.1=Ud
 nch:q.2.2.2.2.2.2.2.2.2.1=Ud
 mom:0<=d/\d<=3155932800
theorem Dg.cx(h:Dg n q d):Cx (Kl n q) q d (JT h.ask.wholeM.sound.fare):=by have a:=(Zfi h.ask h.mom.1 h.mom.2).li0;have b:=h.ask.qnum;exact⟨h.ask.wholeM,h.ask.tinM,a,h.nch,h.ask.max,by omega,h.mom⟩
abbrev mA(n:Zh)(q:Zp):Zh:=Kl n q
abbrev qD(q:Zp)(d:Int):Zp:=ZA (Kd q d)
structure HD (n:Zh) (q:Zp) (d:Int) (l:Z6):Prop where
 rc:Rc (mA n q) (qD q d) (KF (mA n q) (qD q d)) l
 fin:ZcF (mA n q) (qD q d) l
 rides:0<l.2.2.1
 head:Zdp d l
theorem HD.ne{l}(h:HD n q d l):l.2.2.2.2.2.1≠ []:=by have⟨y,L,e,_⟩:=h.head;rw[e];simp
theorem ZgJ(h:Dg n q d){l}(b:HD n q d l):
 (∃s t,Dm.Least (Dm.LS (Ji (mA n q).2.2.2.2.2.1 (JT h.ask.wholeM.sound.fare).fareOk) (mA n q).2.2.2.2.2.1.1.length Ub ((Z3 (Zq l).2.2.2.2.1).map Kj)) s/\
   F52 (mA n q) q (l.2.2.2.2.2.1,())=Ua ((d,l.2.1,l.2.2.1,YM (mA n q).2.2.2.2.2.1 s,l.2.2.2.1,()),t,0))\/
 (¬Xq (mA n q).2.2.2.2.2.1 (JT h.ask.wholeM.sound.fare) (Z3 (Zq l).2.2.2.2.1)/\∃c,F52 (mA n q) q (l.2.2.2.2.2.1,())=Ua (c,[],34)):=by
 have e:=Zug (n:=mA n q) q (qD q d) b.ne;have a:((l.2.2.2.2.2.1[0]?).map λx=>x.2.2.2.2.2.2.1).getD (qD q d).2.2.1=d:=by have⟨y,L,i,j⟩:=b.head;rw[i];exact j
 obtain⟨s,t,f,g⟩|⟨f,c,g⟩:=Zwt (Zi8 h.ask.fit) h.ask.wholeM h.cx.qi (h.cx.li b.rc);.left;refine⟨s,t,f,?_⟩;rw[<-e,g,a]
 right;refine⟨λ⟨s,k⟩=>f s k,c,?_⟩;rw[<-e,g]
theorem ZwM(h:Dg n q d):∃w:V KG,Zbw (mA n q) q (Kv (mA n q) q) d=Ua (w.map Ua)/\w.length<=549755813888/\(∀y∈w,∃l,HD n q d l/\y=Kn (mA n q) l)/\
 ∀l,HD n q d l->∀c t,F52 (mA n q) q (l.2.2.2.2.2.1,())=Ua (c,t,0)->∃y∈w,∃M J,F52 (mA n q) q (y.2.2.2.2.2.2.2.1,())=Ua (M,J,0)/\WX M c:=by
 have C:=h.ask.qnum;have j:=h.cx;have⟨x,N,k1,k2,v,k4,k5⟩:=Zur j (λy p=>h.ask.fit.prods y p) C.2.2.2.1 (by have e:(mA n q).1.length=n.1.length:=rfl;exact C.1);have b:∀y∈Xh x,∃l,HD n q d l/\y=Kn (mA n q) l:=λy p=>by obtain⟨l,a,z,rfl⟩:=v.snd.2.2 y p;have g:=v.fin.to _ p;exact⟨l,⟨a.rc,⟨z,g⟩,a.nz,a.head⟩,rfl⟩
 refine⟨Xh x,k1,k2,b,λl a c t P=>?_⟩;obtain⟨s,t1,I,i⟩|⟨_,c2,i⟩:=ZgJ h a;case inr=>
  rw[P]at i;have:=(Vkb (Vkb (Kx i)).2).2;cases this
 rw[P]at i;obtain⟨rfl,_⟩:=Vkb (Kx i);have f:0<=q.1/\q.1<((mA n q).1.length):=C.1;have⟨m,k,S,T,b3,U,W,b6,K⟩:=(Zuc j v k4 k5 f a.rc a.head a.rides).2 a.fin.1 ⟨s,I.1⟩;have g:m.1=q.2.1:=by rw[S];exact a.fin.2
 have o:m∈Xh x:=by
  unfold JK at k
  cases D:(KO x)[((Kn (mA n q) l).1).toNat]? with
  |none=>rw[D]at k;cases k|some r=>
   rw[D]at k;exact v.fin.fd r (Vga D) m k g
 refine⟨m,o,?_⟩;obtain⟨R,A,rfl⟩:=b m o;obtain⟨H,J,E,r2⟩|⟨E,_⟩:=ZgJ h A;case inr=>exact absurd (Xq.dom K ⟨s,I.1⟩) E
 refine⟨_,J,r2,⟨Vda _,T,U⟩,λ_=>?_⟩;have⟨i,g1,O⟩:=K [] s (by rw[Vfa];exact I.1);rw[Vfa]at O;have B:H<=s:=Vra (E.2 i O) g1;have Q:=Ztb (F:=(mA n q).2.2.2.2.2.1) B;have a0:R.2.2.2.1<=l.2.2.2.1:=W;show YM _ H<YM _ s\/(YM _ H=YM _ s/\R.2.2.2.1<=l.2.2.2.1);omega
def GA(x y:JN):Prop:=y.2.1.1<x.2.1.1\/(x.2.1.1=y.2.1.1/\(x.2.1.2.1<y.2.1.2.1\/(x.2.1.2.1=y.2.1.2.1/\x.2.1.2.2.1<y.2.1.2.2.1)))
theorem ZwH x:¬GA x x:=by unfold GA;omega
theorem ZwI{x y z}(h:GA x y)(k:GA y z):GA x z:=by unfold GA at*;omega
theorem ZiA{a b P R}(f:P↔a<b)(g:R↔b<a):(Hj a b<0↔P)/\(0<Hj a b↔R):=by
 rw[f,g];unfold Hj;constructor
 .by_cases c:a<b
  .omega
  by_cases e:b<a;.omega
  omega
 by_cases c:a<b;.omega
 by_cases e:b<a;.omega
 omega
theorem Zz1(x y:JN):∃c:Int,F92 x y=Ua c/\(c<0↔GA x y)/\(0<c↔GA y x):=by
 unfold F92 F114 F116;have g:∀a b c,([a,b,c])[Vta 0]? =Ua a/\([a,b,c])[Vta 1]? =Ua b/\([a,b,c]:V Int)[Vta 2]? =Ua c:=λa b c=>⟨rfl,rfl,rfl⟩;simp[Zmp];unfold GA;by_cases e:x.2.1.1=y.2.1.1
 .rw[Zi e];by_cases f:x.2.1.2.1=y.2.1.2.1
  .rw[Zi f];refine⟨Hj x.2.1.2.2.1 y.2.1.2.2.1,rfl,?_⟩;exact ZiA (by omega) (by omega)
  rw[Zm f];refine⟨Hj x.2.1.2.1 y.2.1.2.1,rfl,?_⟩;exact ZiA (by omega) (by omega)
 rw[Zm e];refine⟨Hj y.2.1.1 x.2.1.1,rfl,?_⟩;exact ZiA (by omega) (by omega)
variable {u:Int}
structure Zbg (n:Zh) (q:Zp) (u:Int):Prop where
 ask:JD n q
 nback:q.2.2.2.1=Ud
 nch:q.2.2.2.2.2.2.2.2.2.1=Ud
 until_:q.2.2.1<=u/\u<=3155932800
theorem Zbg.at{d}(h:Zbg n q u)(b:q.2.2.1<=d)(a:d<=3155932800):Dg n q d:=⟨h.ask,h.nback,h.nch,by have:=h.ask.qnum;omega,a⟩
def RC(n:Zh)(q:Zp)(u:Int)(ds:V Int)(x:JN):Prop:= ∃d l,HD n q d l/\d∈ds/\(q.2.2.1<=d/\d<=u)/\x.1=(l.2.2.2.2.2.1,())/\F52 (mA n q) q (l.2.2.2.2.2.1,())=Ua (x.2.1,x.2.2.1,0)/\x.2.1.1=d/\0<x.2.1.2.2.1/\x.2.1.2.2.1<=3
theorem ZjR:∀M (l:V Nat),l.Nodup->(∀a∈l,a<M)->l.length<=M
 |0,l,_,h=>by
  cases l with|nil=>simp|cons a l=>exact absurd (h a (by simp)) (by omega)
 |M+1,l,b,h=>by
  by_cases e:M∈l;.have c:=ZjR M (l.erase M) (b.erase M) (by grind);grind
  have:=ZjR M l b (by grind);omega
theorem Zxh{ds l}(h:H7 l)(i:∀x∈l,RC n q u ds x):l.length<=ds.length*4:=by
 have a:∀x∈l,x.2.1.1∈ds/\0<x.2.1.2.2.1/\x.2.1.2.2.1<=3:=λx c=>by have⟨d,v,_,r,_,_,_,s,t⟩:=i x c;grind
 have b:(l.map λx=>ds.idxOf x.2.1.1*4+x.2.1.2.2.1.toNat).Nodup:=by
  rw[List.Nodup,Vub];refine List.Pairwise.imp_of_mem ?_ h;intro x y c j f e;have⟨g,w⟩:=a x c;have⟨k,z⟩:=a y j;have o:x.2.1.1=y.2.1.1:=by have p:=List.getElem_idxOf (List.idxOf_lt_length_iff.2 g);grind
  unfold Wa at f;omega
 have:=ZjR (ds.length*4) _ b (by grind);grind
theorem Zz4(h:Zbg n q u):∃R:V JN,F91 n q u=Ua (R,0)/\R.length<=10248/\H7 R/\R.Pairwise GA/\(∃ds,∀x∈R,RC n q u ds x)/\
 ∀d l,HD n q d l->q.2.2.1<=d->d<=u->(∃i c,i<(mA n q).2.2.1.length/\c<(Zj (mA n q) i).length/\∃w∈Kv (mA n q) q,(Zc (mA n q) i c).1=w.1/\(Zc (mA n q) i c).2.2.1 - w.2.1=d)->∀c t,F52 (mA n q) q (l.2.2.2.2.2.1,())=Ua (c,t,0)->∃x∈R,WX x.2.1 c:=by
 have a:=h.ask;have⟨ds,d1,d2,d3,d4⟩:=ZwN a.wholeM a.tinM q u;have b4:(Zt:Nat)=549755813888:=rfl;unfold F91;rw[Zl6 a.fit,a.chk];simp only[Za,decide_true,Vu,Ze,h.nback,h.nch];rw[Zm (show¬u<q.2.2.1 by have:=h.until_;omega),Zm (show¬(3155932800:Int)<u by have:=h.until_;omega)];simp only[Ze,Za];rw[ZrV a.whole.sound a.few q (by rw[Zl6 a.fit,a.chk])];simp only[Za,decide_true,Vu,Ze];have a0:F95 (Kl n q) q=Ua (Kv (Kl n q) q):=ZsC a.tinM q;rw[a0];simp only[Za];have a8:F112 (Kl n q) q (Kv (Kl n q) q) u=Ua ds:=d1;rw[a8];simp only[Za];have bound:∀out,H7 out->(∀x∈out,RC n q u ds x)->out.length<=10248:=λout h1 h2=>by have:=Zxh h1 h2;omega
 suffices hs:∃out,run
  (λ(v:V JN×Int)=>
  bif Ue (v.2<(↑(Vh ds):Int)) then
  Vg (idx ds v.2) λx7=>
  Vg (F97 (Kl n q) q (Kv (Kl n q) q) x7) λx8=>
  Vg
  (run
  (λ(b:V JN×Int)=>
  bif Ue (b.2<(↑(Vh x8):Int)) then
  Vg (idx x8 b.2) λj=>
  Vg j λ_=>
  Vg j λo=>
  Vg (F52 (Kl n q) q o.2.2.2.2.2.2.2) λe=>
  bif Ue (e.2.2=(0:Int)) then
  Vg (F93 b.1 (o.2.2.2.2.2.2.2,e.1,e.2.1,())) λz=>
  Ua (.inl (z,Vf .i64 (b.2+(1:Int))))
  else Ua (.inl (b.1,Vf .i64 (b.2+(1:Int))))
  else Ua (.inr b.1))
  (v.1,(0:Int)))
  λP=>Ua (.inl (P,Vf .i64 (v.2+(1:Int))))
  else Ua (.inr v.1))
  ([],(0:Int))=Ua out/\H7 out/\(∀x∈out,RC n q u ds x)/\∀d∈ds,∀l,HD n q d l->∀c t,F52 (mA n q) q (l.2.2.2.2.2.1,())=Ua (c,t,0)->∃x∈out,WX x.2.1 c by
  have⟨out,e1,k1,k2,k3⟩:=hs;have b3:=bound out k1 k2;have⟨R,r1,r2,r3⟩:=Zqe (cmp:=F92) GA out (by omega) (λx _ y _=>Zz1 x y) (λx _=>ZwH x) (λ_ _ _ _ _ _=>ZwI) (k1.imp λ{x y} b1=>by unfold Wa at b1;unfold GA;omega);refine⟨R,?_,by rw[r2.length_eq];omega,(List.Perm.pairwise_iff (by grind) r2.symm).1 k1,r3,⟨ds,by grind⟩,λd l A h0 h1 ⟨i,c,hi,K,w,C,w1,w2⟩ c' t a6=>?_⟩;.rw[e1];simp only[Za];have b5:F199 out ()=Ua R:=r1;grind
  grind
 have⟨out,e1,e2⟩:=Kg ds.length (λout=>H7 out/\(∀x∈out,RC n q u ds x)/\∀d∈ds,∀l,HD n q d l->∀c t,F52 (mA n q) q (l.2.2.2.2.2.1,())=Ua (c,t,0)->∃x∈out,WX x.2.1 c)
  (λk (s:V JN×Int)=>s.2=(k:Int)/\H7 s.1/\(∀x∈s.1,RC n q u ds x)/\∀d∈ds.take k,∀l,HD n q d l->∀c t,F52 (mA n q) q (l.2.2.2.2.2.1,())=Ua (c,t,0)->∃x∈s.1,WX x.2.1 c)
  (step:=λ(v:V JN×Int)=>
   bif Ue (v.2<(↑(Vh ds):Int)) then
   Vg (idx ds v.2) λx7=>
   Vg (F97 (Kl n q) q (Kv (Kl n q) q) x7) λx8=>
   Vg
   (run
   (λ(b:V JN×Int)=>
   bif Ue (b.2<(↑(Vh x8):Int)) then
   Vg (idx x8 b.2) λj=>
   Vg j λ_=>
   Vg j λo=>
   Vg (F52 (Kl n q) q o.2.2.2.2.2.2.2) λe=>
   bif Ue (e.2.2=(0:Int)) then
   Vg (F93 b.1 (o.2.2.2.2.2.2.2,e.1,e.2.1,())) λz=>
   Ua (.inl (z,Vf .i64 (b.2+(1:Int))))
   else Ua (.inl (b.1,Vf .i64 (b.2+(1:Int))))
   else Ua (.inr b.1))
   (v.1,(0:Int)))
   λP=>Ua (.inl (P,Vf .i64 (v.2+(1:Int))))
   else Ua (.inr v.1)) (by
  rintro k ⟨out,_⟩ S ⟨rfl,o1,o2,o3⟩;left;simp only at o1 o2 o3;have D:idx ds (k:Int)=Ua ds[k]:=ZC S;have Q:=Vi S;have g:=d3 _ Q;have b0:∀w,w∈ds.take (k+1)↔w∈ds.take k\/w=ds[k]:=λw=>by rw[Va S,Ve,Vk]
  generalize ds[k]=d at*;have⟨p,y1,y2,y3,y4⟩:=ZwM (h.at g.1 g.2.2.1);have b2:F97 (Kl n q) q (Kv (Kl n q) q) d=Ua (p.map Ua):=y1;simp only[ZL S,Zf,D,Za,b2,ZU S (by omega),Vw];have⟨f,f1,f2⟩:=Kg p.length (λf=>H7 f/\(∀x∈f,RC n q u ds x)/\(∀x∈out,∃U∈f,WX U.2.1 x.2.1)/\∀y∈p,∀c t,F52 (mA n q) q (y.2.2.2.2.2.2.2.1,())=Ua (c,t,0)->∃x∈f,WX x.2.1 c)
   (λr (s:V JN×Int)=>s.2=(r:Int)/\H7 s.1/\(∀x∈s.1,RC n q u ds x)/\(∀x∈out,∃U∈s.1,WX U.2.1 x.2.1)/\∀y∈p.take r,∀c t,F52 (mA n q) q (y.2.2.2.2.2.2.2.1,())=Ua (c,t,0)->∃x∈s.1,WX x.2.1 c)
   (step:=λ(b:V JN×Int)=>
    bif Ue (b.2<(↑(Vh p):Int)) then
    Vg (idx (p.map Ua) b.2) λj=>
    Vg j λ_=>
    Vg j λo=>
    Vg (F52 (Kl n q) q o.2.2.2.2.2.2.2) λe=>
    bif Ue (e.2.2=(0:Int)) then
    Vg (F93 b.1 (o.2.2.2.2.2.2.2,e.1,e.2.1,())) λz=>
    Ua (.inl (z,Vf .i64 (b.2+(1:Int))))
    else Ua (.inl (b.1,Vf .i64 (b.2+(1:Int))))
    else Ua (.inr b.1)) (by
   rintro r ⟨cur,_⟩ hr ⟨rfl,c1,c2,c3,c4⟩;left;simp only at c1 c2 c3 c4;have hy:idx (p.map Ua) (r:Int)=Ua (Ua p[r]):=by rw[ZC (by grind),Vgb]
   have N:=Vi hr;have B:∀w,w∈p.take (r+1)↔w∈p.take r\/w=p[r]:=λw=>by rw[Va hr,Ve,Vk]
   generalize p[r]=y at*;obtain⟨l,A,rfl⟩:=y3 y N;have a7:(Kn (mA n q) l).2.2.2.2.2.2.2=(l.2.2.2.2.2.1,()):=rfl;simp only[ZL hr,Zf,hy,Za,ZU hr (by omega),a7];obtain⟨s,t,s1,s2⟩|⟨_,cc,s2⟩:=ZgJ (h.at g.1 g.2.2.1) A
   .have O:F52 (Kl n q) q (l.2.2.2.2.2.1,())=_:=s2;rw[O];simp only[Za,decide_true,Zf];have hb:=bound cur c1 c2;have⟨l',a1,a2,a3,a4,a5⟩:=Zxp (l:=cur) ((l.2.2.2.2.2.1,()),(d,l.2.1,l.2.2.1,YM (mA n q).2.2.2.2.2.1 s,l.2.2.2.1,()),t,()) (by omega) c1;refine⟨(l',((r+1:Nat):Int)),?_,rfl,a5,λx D=>?_,λx D=>?_,λw C c T K=>?_⟩
    .grind
    .obtain D|rfl:=a2 x D
     .grind
     have a9:=(h.at g.1 g.2.2.1).cx.li A.rc;have h3:l.2.2.1<=q.2.2.2.2.1:=a9.val.rides.2;have:=a.max;exact⟨d,l,A,Q,⟨g.1,g.2.1⟩,rfl,s2,rfl,A.rides,by grind⟩
    .have⟨U,E,H⟩:=c3 x D;have⟨W,I,J⟩:=a4 U E;exact⟨W,I,J.trans H⟩
    obtain C|rfl:=(B w).1 C;.have⟨x,E,H⟩:=c4 w C c T K;have⟨W,I,J⟩:=a4 x E;exact⟨W,I,J.trans H⟩
    grind
   .have O:F52 (Kl n q) q (l.2.2.2.2.2.1,())=_:=s2;rw[O];refine⟨(cur,((r+1:Nat):Int)),rfl,rfl,c1,c2,c3,λw C c T K=>?_⟩;obtain C|rfl:=(B w).1 C
    .exact c4 w C c T K
    grind) (by
   grind) (out,(0:Int)) ⟨rfl,o1,o2,λx D=>⟨x,D,WX.refl _⟩,by simp⟩
  have⟨f3,f4,f5,f6⟩:=f2;refine⟨(f,((k+1:Nat):Int)),?_,rfl,f3,f4,λd' M l A c t K=>?_⟩;.grind
  .obtain M|rfl:=(b0 d').1 M
   .have⟨x,E,H⟩:=o3 d' M l A c t K;have⟨W,I,J⟩:=f5 x E;exact⟨W,I,J.trans H⟩
   have⟨y,hy,c',T,E,H⟩:=y4 l A c t K;have⟨x,I,J⟩:=f6 y hy c' T E;exact⟨x,I,J.trans H⟩) (by
  grind) ([],(0:Int)) ⟨rfl,List.Pairwise.nil,by simp,by simp⟩
 grind
theorem Znb(h:Y0 Zd n)(g:n.2.2.2.2.1.length<=4096):X0 n:=by
 have⟨⟨_,c⟩,⟨_,e⟩,⟨_,b⟩,_,_,⟨⟨_,f⟩,_⟩,_⟩:=h;refine⟨λx a=>?_,λx a=>?_,λx a=>?_,λx a=>?_,g,λx a=>?_⟩;.exact(c x a).1
 .exact(e x a).1
 .exact(b x a).2.2.2.1
 .exact(b x a).2.2.2.2.2.2.2.1.1
 exact(f x a).1
open Classical in
theorem ZyX(h:Y0 Zd n):∃b,F123 n=Ua b/\(b=Uc->KN n/\n.2.2.2.1.length<=30/\Whole n):=by
 unfold F123;by_cases w:5<n.1.length;.rw[Zi (show (5:Int)<(n.1.length:Int) by omega)];exact⟨Ud,rfl,λe=>by cases e⟩
 rw[Zm (show¬(5:Int)<(n.1.length:Int) by omega)];by_cases y:7<n.2.2.1.length;.rw[Zi (show (7:Int)<(n.2.2.1.length:Int) by omega)];exact⟨Ud,rfl,λe=>by cases e⟩
 rw[Zm (show¬(7:Int)<(n.2.2.1.length:Int) by omega)];by_cases c3:30<n.2.2.2.1.length;.rw[Zi (show (30:Int)<(n.2.2.2.1.length:Int) by omega)];exact⟨Ud,rfl,λe=>by cases e⟩
 rw[Zm (show¬(30:Int)<(n.2.2.2.1.length:Int) by omega)];by_cases z:60<n.2.2.2.2.1.length;.rw[Zi (show (60:Int)<(n.2.2.2.2.1.length:Int) by omega)];exact⟨Ud,rfl,λe=>by cases e⟩
 rw[Zm (show¬(60:Int)<(n.2.2.2.2.1.length:Int) by omega)];simp only[Ze,Za];have c:=Znb h (by omega)
 suffices t:∃r:Unit ⊕ Bool,_=Ua r/\((r=.inl ()/\∀i,i<n.2.2.1.length->(Zj n i).length<=6)\/r=.inr Ud) by
  obtain⟨r,k,o⟩:=t;obtain⟨rfl,a⟩|rfl:=o;.refine⟨Ue (Whole n),KK (λx=>x=Sum.inl ()) ⟨_,k,rfl⟩ λx g=>?_,λv=>⟨⟨by omega,by omega,by omega,a⟩,by omega,Xw v⟩⟩;subst g;simp only[Vtb];rw[Zbc c];rfl
  exact⟨Ud,KK (λx=>x=Sum.inr Ud) ⟨_,k,rfl⟩ (λx g=>by subst g;rfl),λe=>by cases e⟩
 refine Kg n.2.2.1.length (λr:Unit ⊕ Bool=>(r=.inl ()/\∀i,i<n.2.2.1.length->(Zj n i).length<=6)\/r=.inr Ud) (λi (s:Int)=>s=(i:Int)/\∀j,j<i->(Zj n j).length<=6) ?_ ?_ _ ⟨rfl,λj p=>by omega⟩
 .rintro i _ f ⟨rfl,a⟩;simp only[ZL f,Zf,ZaT f,Za];by_cases A:6<(Zj n i).length
  .rw[Zi (show (6:Int)<((rn n (i:Int)).2.2.2.2.2.2.2.1.length:Int) by show (6:Int)<((Zj n i).length:Int);omega)];exact .inr ⟨_,rfl,.inr rfl⟩
  rw[Zm (show¬(6:Int)<((rn n (i:Int)).2.2.2.2.2.2.2.1.length:Int) by show¬(6:Int)<((Zj n i).length:Int);omega)];refine .inl ⟨_,rfl,ZU f (by omega),λj p=>?_⟩;obtain l|l:=Vsb j i;.exact a j l
  have:j=i:=by omega
  subst this;omega
 rintro _ ⟨rfl,a⟩;exact⟨.inl (),by simp only[JJ,Ze],.inl ⟨rfl,a⟩⟩
theorem ZyN(h:Y0 Zd n)(q:Zp):∃b,F63 n q=Ua b/\(b=Uc->JD n q/\q.2.2.2.1=Ud/\q.2.2.2.2.2.2.2.2.2.1=Ud):=by
 unfold F63;have⟨b,g,i⟩:=ZyX h;rw[g]
 cases b with
 |false=>simp|true=>
  have⟨a,p,f⟩:=i rfl;have c:=Znb h (by have:=a.paths;omega);rw[ZqN n.1.length (by have:=a.stops;omega) q]
  cases j:qB n.1.length q with
  |false=>simp|true=>
   cases o:q.2.2.2.1 with
   |true=>simp|false=>
    cases l:q.2.2.2.2.2.2.2.2.2.1 with
    |true=>simp|false=>
     simp only[Vha];refine⟨_,rfl,λe=>⟨⟨c,⟨by have:=a.stops;omega,?_,by have:=a.runs;omega,by omega,by have:=a.paths;omega,by have:=(JT f.sound.fare).many;omega,λr k=>?_⟩,Zcw.2 ⟨f,j⟩,a,Xw e⟩,trivial,trivial⟩⟩;.have t:=f.t;unfold DO at t;grind
     have:=(f.sound.many r k).2;omega
theorem Zx5(h:JD n q)(a:q.2.2.2.1=Ud)(b:q.2.2.2.2.2.2.2.2.2.1=Ud)(u:Int):∃e,F62 n q u=Ua e/\(e=0->Zbg n q u):=by
 unfold F62;rw[Zl7 h.fit,h.chk];simp[a,b];by_cases c:u<q.2.2.1;.simp_all
 rw[Zm c];by_cases f:3155932800<u;.simp_all
 rw[Zm f];exact⟨0,rfl,λ_=>⟨h,a,b,by omega⟩⟩
theorem Zq7 n q l a:∀k,zN (Kl n q) (l.map (Jm n q)) a k=zN n l a k
 |0=>rfl|k+1=>by
  have h:zn (Kl n q) (l.map (Jm n q)) (a+k)=zn n l (a+k):=by unfold zn;rw[(Zfz n q l (a+k)).1];rfl
  unfold zN;rw[Zq7 n q l a k,h]
theorem ZwT{n q x}(a:KM n x=Uc):GJ (Kl n q) x=GJ n x/\GG (Kl n q) x=GG n x:=by
 constructor;.unfold GJ;rw[Zfs,Zq7]
 unfold GG;rw[ZpF a];rfl
theorem Zkf n q:∀L w out,Wd (Kl n q) L w out=Wd n L w out
 |[],_,_=>rfl|x::L,w,out=>by
  rw[Db,Db,ZmT];by_cases b:x.1=Uc/\KM n x=Ud;.grind
  rw[Zg b,Zg b];by_cases c:Kq x=Uc/\(x.1=Ud\/w=Ud);.grind
  rw[Zg c,Zg c];by_cases a:x.1=Uc
  .rw[Zn a,Zn a];have g:KM n x=true:=by grind
   have⟨h,i⟩:=ZwT (q:=q) g;have e:XQ (Kl n q) x=XQ n x:=by unfold XQ;grind
   have f:Yo (Kl n q) x out=Yo n x out:=by unfold Yo He;grind
   rw[e,f];exact Zkf n q L _ _
  rw[Zg a,Zg a];exact Zkf n q L _ _
open Classical in
theorem Zmu(a:X0 n)(c:Whole n)(q f:Zp)(g:f.2.2.1=q.2.2.1)(e:L.length<=90):F52 (Kl n q) f (L,())=F52 n q (L,()):=by
 have b:Whole (Kl n q):=Zlt q a.paths c;have i:F53 n (L,())=Ua (Wd n L Ud []):=by
  obtain⟨_,h⟩|⟨_,_,h⟩:=ZgO n (L,()) a e;.rw[Zbc a]at h;have:=Kx h;rw[Zi c]at this;cases this
  exact h
 have j:F53 (Kl n q) (L,())=Ua (Wd n L Ud []):=by
  obtain⟨_,h⟩|⟨_,_,h⟩:=ZgO (Kl n q) (L,()) (Zi8 a) e;.rw[Zbc (Zi8 a)]at h;have:=Kx h;rw[Zi b]at this;cases this
  rw[Zkf]at h;exact h
 unfold F52;rw[i,j,g];rfl
variable {d u:Int}
theorem Zj9(h:Dg n q d){l}(r:Rc (mA n q) (qD q d) (KF (mA n q) (qD q d)) l):(ZK l.2.2.2.2.2.1)=l.2.2.1:=by
 induction r with
 |start=>rfl|step z v A=>
  rename_i l x;have⟨D,E,g,H,j⟩:=HI l;obtain⟨B,s⟩|⟨b,o⟩|⟨b,C,t⟩:=Xz.1 v;.obtain⟨k,w,_,e,_,_,_,rfl⟩:=G4.1 s;show (ZK (l.2.2.2.2.2.1++[_]))=l.2.2.1;rw[Hw,Rn,Zn rfl];omega
  .obtain⟨i,c,e,_,_,_,_,_,_,rfl⟩:=Hq.1 o;have a:∀K d,ZK (WJ K d)=ZK K:=by
    intro K d
    match K with
    |[]=>rfl|[y]=>
     cases f:y.1 with|true=>rw[Zcf f]|false=>rw[ZaC f];unfold ZK;simp[R9,f]
    |_::_::_=>rfl
   show (ZK (WJ (Zq l).2.2.2.2.2.1 _++[_]))=(Zq l).2.2.1+1;rw[Hw,Rn,Zg (by simp),a,j,g];omega
  obtain⟨p,_,_,rfl⟩:=HR.1 t;show (ZK ((Zq l).2.2.2.2.2.1++[_]))=(Zq l).2.2.1;rw[Hw,Zc8,j,g];omega
theorem Zph(h:Dg n q d){l}(J:Rc (mA n q) (qD q d) (KF (mA n q) (qD q d)) l)(v:0<l.2.2.1):∃y K,l.2.2.2.2.2.1=y::K/\(K=[]->y.1=Uc)/\∃i c,i<(mA n q).2.2.1.length/\c<(Zj (mA n q) i).length/\∃w∈Kv (mA n q) q,(Zc (mA n q) i c).1=w.1/\(Zc (mA n q) i c).2.2.1 - w.2.1=y.2.2.2.2.2.2.1:=by
 have b:=h.cx
 induction J with
 |start=>exact absurd v (by show¬0<0;decide)|step g Q z=>
  rename_i l x;have⟨s1,s2,s3,s4,A⟩:=HI l;have t:=b.li g;have N:=Zpi b g;obtain⟨k1,O⟩|⟨r,H⟩|⟨r,k2,P⟩:=Xz.1 Q;.obtain⟨k,hk,_,e,_,_,_,rfl⟩:=G4.1 O;have⟨y,K,o,B,j⟩:=z v;refine⟨y,K++[Zy (mA n q) k.2.2.1.toNat 0 e Uc],?_,by simp,j⟩;show l.2.2.2.2.2.1++[_]=_;grind
  .obtain⟨i,c,e,E,I,he,⟨S,T,C,U,W⟩,_,_,rfl⟩:=Hq.1 H;by_cases R:l.2.2.1=0
   .obtain e0|⟨p,M,s,e0⟩:=Zpj b g R
    .have f:l.2.2.2.2.2.1=[]:=by rw[e0];rfl
     refine⟨Zy (mA n q) i c e Ud,[],?_,λ_=>rfl,i,c,E,by omega,(q.1,0,()),by unfold Kv;simp,by rw[C,e0];rfl,?_⟩;.show WJ (Zq l).2.2.2.2.2.1 _++[_]=_;rw[A,f];rfl
     show (Zc (mA n q) i c).2.2.1 - 0=(Zc (mA n q) i c).2.2.1;omega
    have f:l.2.2.2.2.2.1=[Kc q.1 p.2.1 d (d+p.2.2.1)]:=by rw[e0];rfl
    have D:p.1=q.1/\0+p.2.2.1<=q.2.2.2.2.2.1/\_:=s;refine⟨Kc q.1 p.2.1 ((Zc (mA n q) i c).2.2.1 - p.2.2.1) (Zc (mA n q) i c).2.2.1,[Zy (mA n q) i c e Ud],?_,by simp,i,c,E,by omega,(p.2.1,p.2.2.1,()),?_,by rw[C,e0];rfl,rfl⟩;.show WJ (Zq l).2.2.2.2.2.1 _++[_]=_;rw[A,f,(Zh4 q.1 p.2.1 d d p.2.2.1 (Zc (mA n q) i c).2.2.1).1];rfl
    unfold Kv;grind
   have a:0<l.2.2.1:=by omega
   have⟨y,K,o,B,j⟩:=z a;refine⟨y,K++[Zy (mA n q) i c e Ud],?_,by simp,j⟩;show WJ (Zq l).2.2.2.2.2.1 _++[_]=_;rw[A,Zh2 t a,o];rfl
  obtain⟨p,_,_,rfl⟩:=HR.1 P;have a:0<l.2.2.1:=by have:0<(Zq l).2.2.1:=v;omega
  have⟨y,K,o,B,j⟩:=z a;refine⟨y,K++[Kc (Zq l).1.2.1 p.2.1 (Zq l).2.1 ((Zq l).2.1+p.2.2.1)],?_,by simp,j⟩;show (Zq l).2.2.2.2.2.1++[_]=_;grind
theorem Ztl(h:JD n q)(C:q.2.2.2.1=Ud)(f:q.2.2.2.2.2.2.2.2.2.1=Ud)(hL:0<L.length)(j:L.length=1->(lg L 0).1=Uc)(v:(Wt n q L).2=0)(g:0<=(lg L 0).2.2.2.2.2.2.1/\(lg L 0).2.2.2.2.2.2.1<=3155932800):(Wt n (Kd q (lg L 0).2.2.2.2.2.2.1) L).2=0:=by
 obtain⟨_,⟨B,_⟩|⟨_,t,a⟩⟩:=(Zbv n q L).1 v;.omega
 refine(Zbv n _ L).2 ⟨(Zfi h g.1 g.2).chk,.inr ⟨by omega,λi w=>?_,?_⟩⟩
 .have⟨k,b,l⟩:=Xx.1 (t i w);refine Xx.2 ⟨k,?_,l⟩;unfold Gz at b⊢;by_cases s:i=0
  .rw[Zi s]at b⊢;have c:Yw n q L=0:=b;have⟨o,p,r,y,z,A⟩:=YQ.1 c;refine YQ.2 ⟨o,p,r,?_,?_,?_⟩
   .grind
   .show (!Ud&&Ue ((lg L 0).2.2.2.2.2.2.1<(lg L 0).2.2.2.2.2.2.1))=Ud;simp
   have e:(Kd q (lg L 0).2.2.2.2.2.2.1).2.2.2.2.2.2.2.2.2.1=false:=f;grind
  grind
 unfold DA at a⊢;rw[KQ (by omega),KQ (by omega),KQ (by omega),KQ (by omega)]at a⊢;exact⟨a.1,rfl,a.2.2⟩
theorem Zu7(h:JD n q)(A:q.2.2.2.1=Ud)(f:q.2.2.2.2.2.2.2.2.2.1=Ud)(M:L.length<=1000)(t:0<ZK L)(B:(Wt n q L).2=0):∃d l,q.2.2.1<=d/\Dg n q d/\HD n q d l/\l.2.2.2.2.2.1=L/\
 ∃i c,i<(mA n q).2.2.1.length/\c<(Zj (mA n q) i).length/\∃w∈Kv (mA n q) q,(Zc (mA n q) i c).1=w.1/\(Zc (mA n q) i c).2.2.1 - w.2.1=d:=by
 obtain⟨_,⟨z,_⟩|⟨z,o,h3⟩⟩:=(Zbv n q L).1 B;.have:L=[]:=Vua z;subst this;exact absurd t (by show¬0<0;omega)
 have hL:0<L.length:=by omega
 have g:L.length=1->(lg L 0).1=true:=λN=>by
  match L,N with
  |[y],_=>
   have e:lg [y] 0=y:=rfl;rw[e]
   cases S:y.1 with|true=>rfl|false=>unfold ZK at t;simp[R9,S]at t
 have⟨Q,O,P⟩:=ZlG (o 0 hL);have j:0<=(lg L 0).2.2.2.2.2.2.1/\(lg L 0).2.2.2.2.2.2.1<=3155932800:=by
  have E:=(Xx.1 (o 0 hL)).1;rw[ZnU]at E
  cases r1:Zpm n (lg L 0) with
  |true=>grind|false=>
   cases r2:Zpn n (lg L 0) with
   |true=>grind|false=>
    cases U:Zgt (lg L 0) with
    |true=>grind|false=>
     unfold Zgt at U;grind
 have I:=Zfi h j.1 j.2;have⟨l,v,C,T⟩:=Zu6 I rfl M (Ztl h A f hL g B j);have p:Dg n q (lg L 0).2.2.2.2.2.2.1:=⟨h,A,f,j⟩;have a:0<l.2.2.1:=by have:=Zj9 p (l:=l) v;grind
 have b:Zdp (lg L 0).2.2.2.2.2.2.1 l:=by
  match H:L,hL with|y::K,_=>exact⟨y,K,C,rfl⟩
 have s:q.2.2.1<=(lg L 0).2.2.2.2.2.2.1:=by have⟨_,D,_⟩:=Xx.1 (o 0 hL);have k:Yw n q L=0:=D;have⟨_,_,_,_,f5,_⟩:=YQ.1 k;grind
 refine⟨_,l,s,p,⟨v,T,a,b⟩,C,?_⟩;have⟨y,K,e1,_,i,c,J,r,w,R,W,w2⟩:=Zph p (l:=l) v a;refine⟨i,c,J,r,w,R,W,?_⟩;rw[w2];have⟨y',K',e3,e4⟩:=b;grind
open Classical in
theorem Zxu(h:Dg n q d)(h0:q.2.2.1<=d){l:Z6}(hl:HD n q d l){c:Ja}{t:V (Int×Int×Int×Int×Unit)}(hc:F52 (mA n q) q (l.2.2.2.2.2.1,())=Ua (c,t,0)):l.2.2.2.2.2.1.length<=40/\(∀x∈l.2.2.2.2.2.1,D3 x)/\(Wt n q l.2.2.2.2.2.1).2=0/\F52 n q (l.2.2.2.2.2.1,())=Ua (c,t,0):=by
 have hcx:=h.cx;have hli:=hcx.li hl.rc;have GX:=Zpg hcx hl.rc;have hlen:l.2.2.2.2.2.1.length<=40:=by omega
 have ha:=Zfi h.ask h.mom.1 h.mom.2;have hkind:l.1.1=1\/l.1.1=2:=by
  obtain hk|hk|hk:=hli.kinds;.have:=(hli.zero hk).2.1;have:=hl.rides;omega
  .exact .inl hk
  exact .inr hk
 have hsnd:=Zx1 hcx.whole hcx.tin hcx.qi (q:=Kd q d) rfl hcx.li0 hl.rc;have hat:=ZyY hsnd hli.kinds hl.fin.1;have hne:l.2.2.2.2.2.1.length≠0:=λhq=>hl.ne (Vua hq);have hn:F52 n q (l.2.2.2.2.2.1,())=Ua (c,t,0):=by rw[<-Zmu (L:=l.2.2.2.2.2.1) h.ask.fit h.ask.whole q q rfl (by omega)];exact hc
 refine⟨hlen,hli.lok,(Zbv n q _).2 ⟨h.ask.chk,.inr ⟨hne,λi hi=>?_,?_⟩⟩,hn⟩
 .have e:K2 n (Kd q d) l.2.2.2.2.2.1 i=0:=ZlF.1 (hat i hi);obtain⟨a1,a2,a3⟩:=Xx.1 e;refine Xx.2 ⟨a1,?_,a3⟩;unfold Gz at a2⊢;by_cases hi0:i=0
  .rw[Zi hi0]at a2⊢;have a2' :Yw n (Kd q d) l.2.2.2.2.2.1=0:=a2;obtain⟨f1,f2,f3,f4,f5,f6⟩:=YQ.1 a2';show Yw n q l.2.2.2.2.2.1=0;obtain⟨y,K,e1,e2,_⟩:=Zph h hl.rc hl.rides;obtain⟨y',K',e3,e4⟩:=hl.head;have hlg:lg l.2.2.2.2.2.1 0=y' :=by rw[e3];rfl
   refine YQ.2 ⟨f1,f2,f3,?_,?_,by rw[h.nch];rfl⟩
   .by_cases h1:l.2.2.2.2.2.1.length=1
    .have hK:K=[]:=by rw[e1]at h1;simpa using h1
     have hy:(lg l.2.2.2.2.2.1 0).1=true:=by rw[e1];exact e2 hK
     rw[hy];rfl
    rw[Zm h1];simp
   rw[h.nback,hlg];simp only[Vha,Vqb,decide_eq_false_iff_not];omega
  rw[Zm hi0]at a2⊢;exact a2
 unfold DA;rw[KQ (by omega),KQ (by omega),KQ (by omega),KQ (by omega)];refine⟨?_,by rw[h.nback];rfl,?_,?_,?_⟩
 .simp only[Vrb,KJ];have hto:l.1.2.1=q.2.1:=hl.fin.2;rw[<-hto];obtain hk|hk:=hkind
  .obtain⟨K,r,b,c2,st,e1,_,e3,e4⟩:=hsnd.ride hk;obtain⟨i,c',e5,e6,_,_,e7,_⟩:=hli.val.kind hk;rw[e1,Vj,Vx,Vbb,ZaV,e7];show (Zc (mA n q) r c2).1=_;have g1:r=i:=by rw[e3]at e5;omega
   have g2:c2=c' :=by rw[e4]at e6;omega
   rw[g1,g2]
  obtain⟨K,p,_,a,e1,e2,_⟩:=hsnd.walk hk;rw[e1,Vj,Vx,Vbb,ZaV,e2];rfl
 .rw[decide_eq_false_iff_not,Zj9 h hl.rc];have h3:l.2.2.1<=q.2.2.2.2.1:=hli.val.rides.2;omega
 .rw[decide_eq_false_iff_not];have hww:XE l.2.2.2.2.2.1=WE l.2.2.2.2.2.1:=by have h1:=Zht (l.2.2.2.2.2.1,()) (show l.2.2.2.2.2.1.length<=1000 by omega) hli.lok;rw[ZkP]at h1;have h2:F140 (l.2.2.2.2.2.1,())=Ua (XE l.2.2.2.2.2.1):=ZeN l.2.2.2.2.2.1 (by omega);rw[h2]at h1;exact Kx h1
  rw[hww,hli.wlk];have h3:l.2.2.2.1<=q.2.2.2.2.2.1:=hli.val.walk.2;omega
 have hv:F124 n=Ua true:=by rw[Zbc h.ask.fit];exact congrArg Ua (Zi h.ask.whole)
 have hprod:n.2.2.2.2.2.1.1.length<=4096:=by have:=(JT h.ask.whole.sound.fare).many;omega
 obtain⟨c1,hc1,hc2⟩:=ZiI h.ask.whole.sound hv hprod q l.2.2.2.2.2.1 (by omega);obtain⟨c',hd1,hd2,_⟩:=ZiJ n q (l.2.2.2.2.2.1,()) h.ask.fit hlen hli.lok;rw[hn]at hd1;rw[hd2]at hc1;have e1:=Kx hc1;have e2:=Kx hd1;rw[<-hc2,<-e1,<-e2]
theorem Zxg(h:Zbg n q u){ds x}(t:RC n q u ds x):x.1.1.length<=40/\(Wt n q x.1.1).2=0/\F134 n q x.1=Ua (x.2.1,x.2.2.1,0)/\x.2.2.1.length<=100000:=by have⟨d,l,r,_,⟨i,w⟩,e,p,_⟩:=t;have s:=h.at i (by have:=h.until_;omega);have⟨g,j,k,o⟩:=Zxu s i r p;have⟨v,a,c,b⟩:=ZiJ n q (l.2.2.2.2.2.1,()) h.ask.fit g j;rw[o]at a;have f:=Kx a;rw[e];refine⟨g,k,by rw[c,<-f],by rw[<-f]at b;exact b⟩
theorem Zyh(L:V Zx)(hL:L.length<=1000):F167 (L,())=Ua (ZK L:Int):=by
 refine KK (λr=>r=(ZK L)) ?_ (λr h=>by rw[h]);have c:∀K,ZK K<=K.length:=λK=>Vt _ _;refine Kg L.length _ (λk s=>s=((ZK (L.take k):Int),(k:Int))) ?_ ?_ _ rfl
 .rintro k _ b rfl;left;refine⟨_,?_,rfl⟩;have a:ZK (L.take (k+1))=ZK (L.take k)+ZK [L[k]]:=by rw[Va b,Hw]
  have f:=c (L.take k);rw[Vyb]at f;have i:Vf .i64 ((ZK (L.take k))+1)=((ZK (L.take k)+1:Nat)):=by rw[ZB (by omega) (by omega)];omega
  simp only[ZL b,ZC b,Za,ZU b (by omega),i,a];generalize L[k]=x;have g:ZK [x]=if (x.1&& !Kq x)=Uc then 1 else 0:=by
   unfold ZK;rw[Vka];have:R9 x=(x.1&& !Kq x):=rfl;rw[this];split<;>rfl
  rw[g];have e:Kq x=x.2.2.2.2.2.2.2.2.1:=rfl;rw[e]
  cases x.1 with
  |false=>simp|true=>
   cases x.2.2.2.2.2.2.2.2.1 with|false|true=>simp
 rintro _ rfl;exact⟨(ZK L),by simp only[JJ,Ze];rw[Vna],rfl⟩
theorem Zi9{β:Type}{f:Nat->V β}{c}:∀{i},(∀j,j<i->(f j).length<=c)->((Vb i).flatMap f).length<=i*c
 |0,_=>by simp|i+1,h=>by
  have:=Zi9 (f:=f) (c:=c) (i:=i) (by grind);have a:=h i (by omega);have e: [i].flatMap f=f i:=by simp
  rw[Vsa,Vs,Vj,Vxa,e];omega
theorem Zki{β}{step} acc(m n:Nat)(g:Nat->V β) z(e:z=(m:Int))
 (a:∀i,i<n->step (acc++(Vb i).flatMap g,((m+i:Nat)))=Ua (.inl (acc++(Vb i).flatMap g++g i,((m+i+1:Nat)))))
 (b:step (acc++(Vb n).flatMap g,((m+n:Nat)))=Ua (.inr (acc++(Vb n).flatMap g))):run step (acc,z)=Ua (acc++(Vb n).flatMap g):=by
 refine Exists.elim (Kg (step:=step) n (λr=>r=acc++(Vb n).flatMap g) (λi st=>st=(acc++(Vb i).flatMap g,((m+i):Int))) ?_ ?_ (acc,m) (by simp)) ?_;.rintro i _ c rfl;left;refine⟨_,a i c,?_⟩;rw[Vsa,Vs,Vja];grind
 all_goals grind
theorem Zfl{α β:Type}{o f}{Q:β->Prop}(P:α->Prop)(h:∃r,o=Ua r/\P r)(k:∀r,P r->∃b,f r=Ua b/\Q b):∃b,Vg o f=Ua b/\Q b:=by grind
def XD(s t:Int)(p:K5):Zx:=Kc s p.2.1 t (Vf .i64 (t+p.2.2.1))
def JM(n:Zh)(s t:Int):V Zx:=(n.2.2.2.2.1.filter λp=>Ue (p.1=s)).map (XD s t)
theorem ZkM(c:n.2.2.2.2.1.length<=4096)(s t:Int):F165 n s t=Ua (JM n s t):=by
 refine KK (λr=>r=JM n s t) ?_ (by simp);refine Kg n.2.2.2.2.1.length _ (λi st=>st=(((n.2.2.2.2.1.take i).filter λp=>Ue (p.1=s)).map (XD s t),(i:Int))) ?_ ?_ _ rfl
 .rintro i _ a rfl;left;have b:Zw (Ue (Vh (((n.2.2.2.2.1.take i).filter λp=>Ue (p.1=s)).map (XD s t))+Vh [XD s t n.2.2.2.2.1[i]]<=Zt))=Ua ():=XM (by grind);simp only[ZC a,ZU a (by omega)];rw[Va a,Vqa,Vr];by_cases h:(n.2.2.2.2.1[i]).1=s
  .unfold XD Kc;grind
  grind
 rintro _ rfl;simp only[JJ,Vna];exact⟨_,rfl,rfl⟩
def Zbr(n:Zh)(i b:Nat):V Zx:=(Vb ((Zj n i).length - (b+1))).map λk=>Zy n i b (b+1+k) Ud
def HV(n:Zh)(s t:Int)(i b:Nat):V Zx:=if (Zc n i b).1=s/\t<=(Zc n i b).2.2.1 then Zbr n i b else []
def Da(n:Zh)(s t:Int)(i:Nat):V Zx:=(Vb (Zj n i).length).flatMap (HV n s t i)
def XU(n:Zh)(s t:Int):V Zx:=(Vb n.2.2.1.length).flatMap (Da n s t)
theorem Zyd(a:KN n){i}(c:i<n.2.2.1.length) s t b:(HV n s t i b).length<=6:=by have:=a.calls i c;unfold HV Zbr;grind
theorem Zpx(a:KN n){i}(c:i<n.2.2.1.length) s t{b}(g:b<=(Zj n i).length):((Vb b).flatMap (HV n s t i)).length<=36:=by have e:=a.calls i c;have f:=Zi9 (i:=b) λj _=>Zyd a c s t j;omega
theorem ZeA(a:KN n) s t{i}(c:i<=n.2.2.1.length):((Vb i).flatMap (Da n s t)).length<=252:=by have b:=Zi9 (f:=Da n s t) (i:=i) λj e=>Zpx a (by omega) s t (Vp _);have:=a.runs;omega
theorem Zpw(e:KN n)(s t:Int):F161 n s t=Ua (XU n s t):=by
 have A:=e.runs;unfold F161;refine KK (λr=>r=XU n s t) ?_ (by simp);refine⟨_,Zki [] 0 n.2.2.1.length (Da n s t) 0 rfl ?_ ?_,by rfl⟩
 .intro i c;have p:=e.calls i c;simp only[Vac,Vwa];simp only[ZL c,Zf,ZaT c,Za,ZU c (by omega)];have v:=ZeA e s t (show i<=n.2.2.1.length by omega);refine KK (λr=>r=(Vb i).flatMap (Da n s t)++Da n s t i) ?_ (by simp);refine⟨_,Zki ((Vb i).flatMap (Da n s t)) 0 (Zj n i).length (HV n s t i) 0 rfl ?_ ?_,rfl⟩
  .intro b l;have w:=Zpx e c s t (show b<=(Zj n i).length by omega);have f:Ue (((0+b:Nat):Int)<((rn n (i:Int)).2.2.2.2.2.2.2.1.length:Int))=true:=by rw[Vwa];exact ZL l
   simp only[f,Zf];rw[Vwa];have B:Vf .i64 ((b:Int)+1)=((b+1:Nat):Int):=by rw[ZB (by omega) (by omega)];omega
   simp only[R1 l,Za,B];unfold HV;by_cases h:(Zc n i b).1=s
   .rw[Zi h];by_cases o:(Zc n i b).2.2.1<t
    .grind
    rw[Zm o,Zn ⟨h,by omega⟩];simp only[Vu,Ze,Za];refine KK (λr=>r=(Vb i).flatMap (Da n s t)++(Vb b).flatMap (HV n s t i)++Zbr n i b) ?_ (λr z=>by rw[z];rfl);refine⟨_,Zki ((Vb i).flatMap (Da n s t)++(Vb b).flatMap (HV n s t i)) (b+1) ((Zj n i).length - (b+1)) (λk=>[Zy n i b (b+1+k) Ud]) _ rfl ?_ ?_,by rw[Zja];rfl⟩
    .intro k C;have j:b+1+k<(Zj n i).length:=by omega
     have a:Ue (((b+1+k:Nat):Int)<((rn n (i:Int)).2.2.2.2.2.2.2.1.length:Int))=true:=ZL j;have g:Vf .i64 (((b+1+k:Nat):Int)+1)=((b+1+k+1:Nat):Int):=by rw[ZB (by omega) (by omega)];omega
     simp only[a,Zf,R1 j,Za,g];rw[Zja];have y:((Vb k).map λk=>Zy n i b (b+1+k) Ud).length<=6:=by grind
     rw[XM (by grind)];simp only[Za];unfold Zy;grind
    have:Ue (((b+1+((Zj n i).length - (b+1)):Nat):Int)<((rn n (i:Int)).2.2.2.2.2.2.2.1.length:Int))=false:=Zm (by have:(rn n (i:Int)).2.2.2.2.2.2.2.1.length=(Zj n i).length:=rfl;omega);grind
   grind
  have:Ue (((0+(Zj n i).length:Nat):Int)<((rn n (i:Int)).2.2.2.2.2.2.2.1.length:Int))=false:=Zm (by have:(rn n (i:Int)).2.2.2.2.2.2.2.1.length=(Zj n i).length:=rfl;omega);grind
 simp
theorem Zq3(L:V Zx)(x:Zx)(h:L.length<=1000):F166 (L,()) x=Ua (L++[x],()):=by
 unfold F166;have a:Zw (Ue (Vh ([]:V Unit)+Vh L<=Zt))=Ua ():=by rw[Zi (show Vh ([])+Vh L<=Zt by simp[Zt];omega)];rfl
 have b:Zw (Ue (Vh (([])++L)+Vh [x]<=Zt))=Ua ():=XM (by grind);grind
def Gm(r:Int):V Zx->Bool|[]=>Ud|y::l=>if y.2.1=r then Uc else if Kq y=Uc then Gm r l else Ud
def Zbo(L:V Zx)(x:Zx):Bool:=Kq x&&Gm x.2.1 L.reverse
theorem ZrK(L:V Zx)(x:Zx)(h:L.length<=1000):F150 (L,()) x=Ua (Zbo L x):=by
 unfold F150 Zbo;have key:∀k,k<=L.length->run (λs0=>
 Vg (bif Ue (0<=s0) then Ua x.2.2.2.2.2.2.2.2.1 else Ua Ud) λw=>
 bif w then
 Vg (idx L s0) λz=>
 bif Ue (z.2.1=x.2.1) then Ua (.inr (.inr Uc))
 else
 Vg (idx L s0) λA=>
 bif !A.2.2.2.2.2.2.2.2.1 then Ua (.inr (.inr Ud)) else Ua (.inl (Vf .i64 (s0 - 1)))
 else Ua (.inr (.inl ()))) (k - 1)=Ua (if x.2.2.2.2.2.2.2.2.1=Uc/\Gm x.2.1 (L.take k).reverse=Uc then(.inr true:Unit ⊕ Bool) else if x.2.2.2.2.2.2.2.2.1=Uc/\∃y∈L.take k,Kq y=Ud then .inr Ud else .inl ()):=by
  intro k
  induction k with
  |zero=>
   intro _;refine(J3 (r:=.inl ()) ?_).trans ?_;.rfl
   simp[Gm]|succ k v=>
   intro C;have a:k<L.length:=by omega
   have p:((k+1:Nat):Int) - 1=(k:Int):=by omega
   rw[p];have g:L.take (k+1)=L.take k++[L[k]]:=Va a;have t:(L.take (k+1)).reverse=L[k]::(L.take k).reverse:=by simp
   have i:Ue ((0:Int)<=(k:Int))=true:=by rfl
   cases l:x.2.2.2.2.2.2.2.2.1 with
   |false=>
    rfl|true=>
    rw[t];by_cases c:(L[k]).2.1=x.2.1
    .refine(J3 (r:=.inr Uc) ?_).trans ?_
     .rw[i];simp[Zf,Za,ZC a,Zi c]
     simp[Gm,c]
    cases f:Kq L[k] with
    |false=>
     have b:(L[k]).2.2.2.2.2.2.2.2.1=false:=f;refine(J3 (r:=.inr Ud) ?_).trans ?_;.rw[i];simp[Zf,Za,ZC a,Zm c,Ze,b,Vha]
     rw[Zg (by simp[Gm,c,f]),Zn ⟨rfl,L[k],by grind,f⟩]|true=>
     have b:(L[k]).2.2.2.2.2.2.2.2.1=true:=f;have o:Vf .i64 ((k:Int) - 1)=(k:Int) - 1:=ZB (by omega) (by omega);refine(YX (s' :=(k:Int) - 1) ?_).trans ?_;.rw[i];simp[Zf,Za,ZC a,Zm c,Ze,b,Vu,o]
     have j:=v (by omega);rw[l]at j;rw[j];have e:(∃y∈L.take (k+1),Kq y=Ud)↔∃y∈L.take k,Kq y=false:=by
      rw[g];constructor;.grind
      rintro ⟨y,D,j⟩;grind
     have s:Gm x.2.1 (L[k]::(L.take k).reverse)=Gm x.2.1 (L.take k).reverse:=by show (if (L[k]).2.1=x.2.1 then Uc else if Kq L[k]=Uc then _ else Ud)=_;grind
     rw[s];simp only[true_and,e]
 have o:Vf .i64 ((L.length:Int) - 1)=(L.length:Int) - 1:=ZB (by omega) (by omega);rw[o,key L.length (Vp _),Vna];simp[Za]
 cases l:x.2.2.2.2.2.2.2.2.1 with
 |false=>
  grind|true=>
  have:Kq x=true:=l;rw[this]
  cases B:Gm x.2.1 L.reverse with
  |true=>simp|false=>
   simp only[Vqb,true_and];rw[Zg (by simp)];split<;>rfl
theorem Zyg{L:V Zx}(c:L.length<=1000):F162 (L,())=Ua (ZK L:Int):=by
 refine KK (λr=>r=(ZK L)) ?_ (by simp);refine Kg L.length _ (λi st=>st=((ZK (L.take i):Int),(i:Int))) ?_ ?_ _ rfl
 .rintro i _ a rfl;left;have b:ZK (L.take i)<=L.length:=by unfold ZK;grind
  have f:Vf .i64 ((ZK (L.take i))+1)=((ZK (L.take i)+1:Nat)):=by rw[ZB (by omega) (by omega)];omega
  simp[ZC a,ZU a (by omega)];rw[Va a,Hw];have e:ZK [L[i]]=if R9 L[i] then 1 else 0:=by unfold ZK;grind
  rw[e];unfold R9 Kq;grind
 simp
def ZbE(n:Zh)(q:Zp)(L:V Zx)(i:Nat):Prop:=K2 n q L i=0\/(i+1=L.length/\(K2 n q L i=26\/K2 n q L i=29))
def RA(n:Zh)(q:Zp)(L:V Zx):Prop:=(∀i,i<L.length->ZbE n q L i)/\(ZK L)<=q.2.2.2.2.1/\XE L<=q.2.2.2.2.2.1/\(q.2.2.2.1=Uc->(lg L (L.length - 1)).2.2.2.2.2.2.2.1<=q.2.2.1)
theorem ZvN(p:WI n)(t:n.2.2.2.2.1.length<=4096)(v:Z9 q.1 n.1.length=Uc){L:V Zx}(y:0<L.length)(k:L.length<=1000):∃b,F156 n q (L,())=Ua b/\(b=Uc↔RA n q L):=by
 unfold F156;refine Zfl (λr=>(r=.inl ()/\∀i,i<L.length->ZbE n q L i)\/(r=.inr Ud/\ ¬∀i,i<L.length->ZbE n q L i)) ?_ ?_
 rotate_left
 .rintro r (⟨rfl,f⟩|⟨rfl,f⟩)
  .simp only[Vtb,Zyg k,Za,ZeN L k];by_cases c:(ZK L)<=q.2.2.2.2.1
   .rw[Zi c];by_cases e:XE L<=q.2.2.2.2.2.1
    .rw[Zi e]
     cases s:q.2.2.2.1 with
     |false=>exact⟨Uc,rfl,by simp[true_iff];exact⟨f,c,e,by grind⟩⟩|true=>
      have w:Vf .i64 (L.length - 1)=((L.length - 1:Nat)):=by rw[ZB (by omega) (by omega)];omega
      simp only[Zf,Vu,Ze,w,DG (show L.length - 1<L.length by omega),Za];refine⟨_,rfl,?_⟩;rw[KJ];exact⟨λh=>⟨f,c,e,λ_=>h⟩,λh=>h.2.2.2 s⟩
    rw[Zm e];exact⟨Ud,rfl,by simp[Vba,false_iff];exact λh=>e h.2.2.1⟩
   rw[Zm c];exact⟨Ud,rfl,by simp[Vba,false_iff];exact λh=>c h.2.1⟩
  exact⟨Ud,rfl,by simp[Vba,false_iff];exact λh=>f h.1⟩
 refine Kg L.length _ (λi st=>st=(i:Int)/\∀j,j<i->ZbE n q L j) ?_ ?_ _ (by simp)
 .rintro i _ g ⟨rfl,f⟩;simp only[ZL g,Zf,ZdE p t v g k,Za,ZU g (by omega)];have a:ZbE n q L i->∀j,j<i+1->ZbE n q L j:=by grind
  by_cases c:K2 n q L i=0;.left;rw[Zi c];exact⟨_,rfl,rfl,a (.inl c)⟩
  rw[Zm c];by_cases e:i+1<L.length
  .right;rw[Zi (by omega)];exact⟨_,rfl,.inr ⟨rfl,λh=>by
    obtain h|h:=h i g;all_goals omega⟩⟩
  rw[Zm (by omega)];by_cases l:K2 n q L i=26;.left;rw[Zi l];exact⟨_,rfl,rfl,a (.inr (by omega))⟩
  rw[Zm l];by_cases o:K2 n q L i=29;.left;rw[Zi o];exact⟨_,rfl,rfl,a (.inr (by omega))⟩
  right;rw[Zm o];exact⟨_,rfl,.inr ⟨rfl,λh=>by
   obtain h|⟨_,h|h⟩:=h i g;all_goals omega⟩⟩
 simp
def Xl(x:Zx):Zx:=(x.1,x.2.1,x.2.2.1,x.2.2.2.1,x.2.2.2.2.1,x.2.2.2.2.2.1,x.2.2.2.2.2.2.1,x.2.2.2.2.2.2.2.1,Uc,x.2.2.2.2.2.2.2.2.2)
def JY(n:Zh)(x:Zx):V Zx:=XU n x.2.2.2.2.2.1 x.2.2.2.2.2.2.2.1++if x.1=Uc then JM n x.2.2.2.2.2.1 x.2.2.2.2.2.2.2.1 else []
def Gt(n:Zh)(q:Zp)(L:V Zx)(l:Zx):V (V Zx×Unit):=if K2 n q (L++[l]) (L.length - 1)=0/\K2 n q (L++[l]) L.length≠28 then [(L++[l],())] else []
def Yv(n:Zh)(L:V Zx)(x l:Zx):V (V Zx×Unit):=if (l.1=Uc/\l.2.2.1=0/\x.1=Uc)/\Zbo L (Xl l)=Ud/\WV n x (Xl l)=0 then [(L++[Xl l],())] else []
def HN(n:Zh)(q:Zp)(L:V Zx)(x l:Zx):V (V Zx×Unit):=Gt n q L l++Yv n L x l
def YP(n:Zh)(q:Zp)(L:V Zx):V (V Zx×Unit):=(JY n (lg L (L.length - 1))).flatMap (HN n q L (lg L (L.length - 1)))
theorem ZuZ L x l:(HN n q L x l).length<=2:=by unfold HN Gt Yv;grind
theorem ZbB{α β:Type}{f:α->V β}{c}(h:∀x,(f x).length<=c):∀l:V α,(l.flatMap f).length<=l.length*c|[]=>by simp|x::l=>by have:=ZbB h l;have a:=h x;rw[Veb,Vj,Vy,Vxa];omega
theorem Zhr(a:KN n) s t:(JM n s t).length<=60:=by unfold JM;rw[Vw];exact Vm (Vt _ _) a.paths
theorem ZwY(a:KN n) x:(JY n x).length<=312:=by unfold JY;rw[Vj];have b:=ZeA a x.2.2.2.2.2.1 x.2.2.2.2.2.2.2.1 (Vp _);have c:=Zhr a x.2.2.2.2.2.1 x.2.2.2.2.2.2.2.1;unfold XU;grind
theorem ZgN{s t x}(h:x∈XU n s t):∃i b c,i<n.2.2.1.length/\b<c/\c<(Zj n i).length/\(Zc n i b).1=s/\t<=(Zc n i b).2.2.1/\x=Zy n i b c false:=by
 have⟨i,f,h⟩:=Vc.1 h;have⟨b,a,h⟩:=Vc.1 h;unfold HV at h;split at h
 .next e=>
  unfold Zbr at h;grind
 grind
theorem Zhs{s t x}(h:x∈JM n s t):∃p∈n.2.2.2.2.1,p.1=s/\x=XD s t p:=by unfold JM at h;grind
theorem Zw1(e:KY n){x l}(h:l∈JY n x)(f:l.1=Uc):Z9 (Xl l).2.2.2.2.1 n.1.length=true:=by
 obtain h|h:=Ve.1 h;.obtain⟨i,b,c,a,g,j,k,o,rfl⟩:=ZgN h;have:=e.stop a (show b<(Zj n i).length by omega);exact R2.2 this
 split at h;.obtain⟨p,r,_,rfl⟩:=Zhs h;cases f
 grind
theorem Zu3(p:KN n)(y:KY n)(E:n.2.2.2.1.length<=4096)(J:Z9 q.1 n.1.length=Uc){L:V Zx}(h0:0<L.length)(hj:L.length<=900):F153 n q (L,())=Ua (YP n q L):=by
 have j:n.2.2.2.2.1.length<=4096:=by have:=p.paths;omega
 unfold F153;have w1:Vf .i64 ((L.length:Int) - 1)=((L.length - 1:Nat):Int):=by rw[ZB (by omega) (by omega)];omega
 simp only[w1,DG (show L.length - 1<L.length by omega),Za,Zpw p];unfold YP;generalize hx:lg L (L.length - 1)=x;have W:=ZwY p x;have hr:=ZeA p x.2.2.2.2.2.1 x.2.2.2.2.2.2.2.1 (Vp _);have a1:(XU n x.2.2.2.2.2.1 x.2.2.2.2.2.2.2.1).length<=252:=hr;have hw:=Zhr p x.2.2.2.2.2.1 x.2.2.2.2.2.2.2.1;refine KK (λr=>r=([],JY n x)) ?_ ?_
 .unfold JY
  cases h1:x.1 with
  |true=>
   simp only[Zf,ZkM j,Za,if_true];rw[XM (by omega)]
   simp|false=>simp
 rintro _ rfl;refine KK (λr=>r=(JY n x).flatMap (HN n q L x)) ?_ (by simp);have t:∀i (g:i<(JY n x).length),(JY n x)[i]∈JY n x:=by simp
 have D:=λi (g:i<(JY n x).length)=>Zw1 y (t i g);generalize JY n x=N at*;refine Kg N.length _ (λi (st:V (V Zx×Unit)×V Zx×Int)=>∃cur,st=((N.take i).flatMap (HN n q L x),cur,(i:Int))/\cur.length=N.length/\∀k,i<=k->cur[k]? =N[k]?) ?_ ?_ _ ⟨N,rfl,rfl,by simp⟩
 .rintro i _ g ⟨cur,rfl,T,U⟩;left;have e:i<cur.length:=by omega
  have o:cur[i]? =Ua N[i]:=by grind
  have a0:((N.take i).flatMap (HN n q L x)).length<=700:=by have:=ZbB (f:=HN n q L x) (c:=2) (λl=>ZuZ L x l) (N.take i);grind
  have C:=D i g;have B:Ue ((i:Int)<(cur.length:Int))=true:=by grind
  have P:(N.take (i+1)).flatMap (HN n q L x)=(N.take i).flatMap (HN n q L x)++HN n q L x N[i]:=by rw[Va g,Vs];simp
  have H:∀v k,i+1<=k->(cur.set i v)[k]? =N[k]? :=by grind
  rw[P];generalize hO:(N.take i).flatMap (HN n q L x)=O at*;generalize hl:N[i]=l at*;have z:F151 n q (L++[l],()) ((L.length - 1:Nat):Int)=Ua (K2 n q (L++[l]) (L.length - 1)):=ZdE y.sound j J (by grind) (by grind);have A:F151 n q (L++[l],()) (L.length:Int)=Ua (K2 n q (L++[l]) L.length):=ZdE y.sound j J (by simp) (by grind);simp only[B,Zf,Kz e,Za,o,Zq3 L l (by omega),z,A];refine Gn (λb=>b=Ue (K2 n q (L++[l]) (L.length - 1)=0/\K2 n q (L++[l]) L.length≠28)) ?_ ?_;.grind
  rintro _ rfl;refine Gn (λr=>r=(O++Gt n q L l,cur)) ?_ ?_
  .unfold Gt;by_cases c:K2 n q (L++[l]) (L.length - 1)=0/\K2 n q (L++[l]) L.length≠28
   .rw[Zi c,Zn c];simp only[Zf];rw[XM (by grind)];simp
   grind
  rintro _ rfl;have S:(Gt n q L l).length<=1:=by unfold Gt;grind
  refine Gn (λb=>b=Ue (l.1=Uc/\l.2.2.1=0/\x.1=Uc)) ?_ ?_;.simp only[Kz e,Za,o];grind
  rintro _ rfl;unfold HN;rw[<-Vja];by_cases c:l.1=Uc/\l.2.2.1=0/\x.1=Uc
  .rw[Zi c];have w:(cur.set i (Xl l))[i]? =Ua (Xl l):=ZbZ e _;have I:i<(cur.set i (Xl l)).length:=by grind
   have a:=w;have h:=Kz I;unfold Xl at a h;simp only[Zf,Kz e,Za,o,h,a];have hf:WV n x (Xl l)=WV n x (Xl l):=rfl;have Q:F166 (L,()) (l.1,l.2.1,l.2.2.1,l.2.2.2.1,l.2.2.2.2.1,l.2.2.2.2.2.1,l.2.2.2.2.2.2.1,l.2.2.2.2.2.2.2.1,Uc,l.2.2.2.2.2.2.2.2.2)=Ua (L++[Xl l],()):=Zq3 L (Xl l) (by omega);have K:F150 (L,()) (l.1,l.2.1,l.2.2.1,l.2.2.2.1,l.2.2.2.2.1,l.2.2.2.2.2.1,l.2.2.2.2.2.2.1,l.2.2.2.2.2.2.2.1,Uc,l.2.2.2.2.2.2.2.2.2)=Ua (Zbo L (Xl l)):=ZrK L (Xl l) (by omega);have M:F155 n x (l.1,l.2.1,l.2.2.1,l.2.2.2.1,l.2.2.2.2.1,l.2.2.2.2.2.1,l.2.2.2.2.2.2.1,l.2.2.2.2.2.2.2.1,Uc,l.2.2.2.2.2.2.2.2.2)=Ua (WV n x (Xl l)):=Zni E (C c.1);simp only[Q,K,Za];unfold Yv
   cases R:Zbo L (Xl l) with
   |true=>
    rw[Zg (by simp)];simp only[Vu,Ze,Za];rw[ZU g (by omega)]
    simp_all|false=>
    simp only[Vha,Zf,M,Za];by_cases s:WV n x (Xl l)=0;.rw[Zi s,Zn (by grind)];simp only[Zf];rw[XM (by grind),ZU g (by omega)];grind
    rw[Zm s,Zg (by omega)];simp only[Ze];rw[ZU g (by omega)];simp_all
  rw[Zm c];unfold Yv;rw[Zg (by grind),Vfa,ZU g (by omega)];grind
 grind
def ZaR(q:Zp):Int:=if q.2.2.2.1=Uc then 0 else q.2.2.1
def Zb0(w x:Zx):Zx:=(w.1,w.2.1,w.2.2.1,w.2.2.2.1,w.2.2.2.2.1,w.2.2.2.2.2.1,Vf .i64 (x.2.2.2.2.2.2.1 - w.2.2.2.2.2.2.2.1),x.2.2.2.2.2.2.1,w.2.2.2.2.2.2.2.2)
def HZ(n:Zh)(q:Zp):V (V Zx×Unit):=(XU n q.1 (ZaR q)).map λx=>([x],())
def YD(n:Zh)(q:Zp)(w:Zx):V (V Zx×Unit):=(XU n w.2.2.2.2.2.1 (ZaR q)).map λx=>([Zb0 w x,x],())
def DS(n:Zh)(q:Zp):V (V Zx×Unit):=HZ n q++(JM n q.1 0).flatMap (YD n q)
theorem Zqm(a:KN n) w:(YD n q w).length<=252:=by unfold YD;rw[Vw];exact ZeA a _ _ (Vp _)
theorem Zzc(b:KN n):F163 n q=Ua (DS n q):=by
 have j:n.2.2.2.2.1.length<=4096:=by have:=b.paths;omega
 unfold F163 DS;have l:(bif q.2.2.2.1 then Ua 0 else Ua q.2.2.1)=Ua (ZaR q):=by unfold ZaR;grind
 rw[l];simp only[Za,Zpw b,ZkM j];have t:=Zhr b q.1 0;have e:(HZ n q).length<=252:=by unfold HZ;rw[Vw];exact ZeA b _ _ (Vp _)
 refine KK (λr=>r=HZ n q) ?_ ?_
 .unfold HZ at e⊢;rw[Vw]at e;generalize XU n q.1 (ZaR q)=N at*;refine Kg N.length _ (λi st=>st=((N.take i).map λx=>([x],()),N,(i:Int))) ?_ ?_ _ rfl
  .rintro i _ a rfl;left;simp only[ZL a,Zf,Kz a,Za,Vd a,ZU a (by omega)];rw[XM (by grind)];refine⟨_,rfl,?_⟩;rw[Va a,Vr];rfl
  simp
 rintro _ rfl;refine KK (λr=>r=HZ n q++(JM n q.1 0).flatMap (YD n q)) ?_ (by simp);generalize JM n q.1 0=W at*;refine Kg W.length _ (λi st=>st=(HZ n q++(W.take i).flatMap (YD n q),(i:Int))) ?_ ?_ _ (by simp)
 .rintro i _ a rfl;left;simp only[ZL a,Zf,ZC a,Za,ZU a (by omega)];have p:((W.take i).flatMap (YD n q)).length<=60*252:=by have:=ZbB (f:=YD n q) (c:=252) (λw=>Zqm b w) (W.take i);grind
  refine Gn (λr=>r=HZ n q++(W.take i).flatMap (YD n q)++YD n q W[i]) ?_ ?_
  .have h:=Zqm (q:=q) b W[i];have o:(HZ n q++(W.take i).flatMap (YD n q)).length<=252+60*252:=by grind
   generalize HZ n q++(W.take i).flatMap (YD n q)=O at*;unfold YD at h⊢;rw[Vw]at h;generalize XU n (W[i]).2.2.2.2.2.1 (ZaR q)=N at*;refine Kg N.length _ (λk st=>st=(O++(N.take k).map λx=>([Zb0 W[i] x,x],()),N,(k:Int))) ?_ ?_ _ (by simp)
   .rintro k _ g rfl;left;simp only[ZL g,Zf,Kz g,Za,Vd g,ZU g (by omega)];have s:((N.take k).map λx=>(([Zb0 W[i] x,x],()):V Zx×Unit)).length<=252:=by grind
    rw[XM (by grind)];refine⟨_,rfl,?_⟩;rw[Va g,Vr,<-Vja];rfl
   simp
  rintro _ rfl;refine⟨_,rfl,?_⟩;rw[Va a,Vs,<-Vja];simp
 simp
def gA:Nat->Nat|0=>271|l+1=>61+1260*gA l
theorem ZvE l:271<=gA l:=by
 induction l with|zero=>exact Vp _|succ l a=>unfold gA;omega
def Df(n:Zh)(l i c:Nat):Nat:=gA l* (1+if c+1=(Zj n i).length then 5*K8 n i else 0)
def wrA(n:Zh):Nat->Nat->Nat->Nat|0,_,_=>1|l+1,i,c=>Df n l i c
def bwA(n:Zh)(l i b:Nat):Nat:=Ku ((Zj n i).length - (b+1)) λk=>wrA n l i (b+1+k)
def rA(n:Zh)(l:Nat)(s:Int):Nat:=Ku n.2.2.1.length λi=>Ku (Zj n i).length λb=>if (Zc n i b).1=s then bwA n l i b else 0
def tA(n:Zh)(l:Nat):Nat:=Ku n.2.2.1.length λi=>Ku (Zj n i).length λb=>bwA n l i b
theorem ZnW l i b:Ku ((Zj n i).length - (b+1)) (λk=>Df n l i (b+1+k))<=gA l* ((Zj n i).length - (b+1)+5*K8 n i):=by
 unfold Df;rw[DU];refine Vaa _ ?_;rw[GI,Zg5];refine Vab (by omega) ?_;by_cases a:(Zj n i).length - (b+1)=0;.rw[a];exact Vcb _
 refine Vm (ZeJ (j:=(Zj n i).length - (b+1) - 1) λk e c=>Zg (by omega)) ?_;split<;>omega
theorem Zyt l i:∀m,m<=(Zj n i).length->(Zj n i).length<=6->Ku m (λb=>Ku ((Zj n i).length - (b+1)) λk=>Df n l i (b+1+k))<=gA l* (15+25*K8 n i):=by
 intro m j f;refine Vm (Xm (g:=λb=>gA l* ((Zj n i).length - (b+1)+(if b+1<(Zj n i).length then 5*K8 n i else 0))) λb h=>?_) ?_
 .by_cases a:b+1<(Zj n i).length
  .rw[Zn a];exact ZnW l i b
  have:(Zj n i).length - (b+1)=0:=by omega
  rw[this];exact Vcb _
 rw[DU];refine Vaa _ ?_;generalize (Zj n i).length=k at*;have e:k=0\/k=1\/k=2\/k=3\/k=4\/k=5\/k=6:=by omega
 have c:m=0\/m=1\/m=2\/m=3\/m=4\/m=5\/m=6:=by omega
 obtain rfl|rfl|rfl|rfl|rfl|rfl|rfl:=e<;>obtain rfl|rfl|rfl|rfl|rfl|rfl|rfl:=c<;>simp[Ku]<;>omega
theorem Zzn(c:Whole n)(a:KN n) l:61+2*tA n l<=gA l:=by
 cases l with
 |zero=>
  have:tA n 0<=105:=by
   refine Vm (Xm (g:=λ_=>15) λi b=>?_) ?_
   .have h:=a.calls i b;unfold bwA wrA;generalize (Zj n i).length=k at*;have e:k=0\/k=1\/k=2\/k=3\/k=4\/k=5\/k=6:=by omega
    obtain rfl|rfl|rfl|rfl|rfl|rfl|rfl:=e<;>simp[Ku]
   rw[Zg5];have:=a.runs;omega
  show 61+2*tA n 0<=271
  omega|succ l=>
  have f:tA n (l+1)<=gA l*630:=by refine Vm (Xm λi b=>Zyt l i _ (Vp _) (a.calls i b)) ?_;rw[DU];refine Vaa _ (Vm (Zqr a.runs) ?_);have:=ZpI c;omega
  show 61+2*tA n (l+1)<=61+1260*gA l;omega
theorem ZqZ l s:∀P,((P.filter λp=>Ue (p.1=s)).map λp=>rA n l p.2.1).sum=Ku n.2.2.1.length λi=>Ku (Zj n i).length λb=>GT P s (Zc n i b).1*bwA n l i b
 |[]=>by
  symm
  exact Hx λi _=>Hx λb _=>by simp[GT]|p::P=>by
  have c:=ZqZ l s P;rw[Vka];by_cases h:p.1=s
  .rw[Zn (by rw[Zi h]),Vn,Vo,c];unfold rA;rw[<-GI];congr 1;funext i;rw[<-GI];congr 1;funext b;unfold GT;rw[Vka,Zi h];by_cases a:p.2.1=(Zc n i b).1
   .rw[Zn a.symm,Zi a];simp[Vxa];omega
   rw[Zg λe=>a e.symm,Zm a];simp
  rw[Zg (by rw[Zm h];simp),c];congr 1;funext i;congr 1;funext b;unfold GT;rw[Vka,Zm h];simp
theorem Zoo(c:Whole n)(a:KN n) l s:1+rA n l s+((n.2.2.2.2.1.filter λp=>Ue (p.1=s)).map λp=>1+rA n l p.2.1).sum<=gA l:=by
 have e:∀P:V K5,(P.map λp=>1+rA n l p.2.1).sum=P.length+(P.map λp=>rA n l p.2.1).sum:=by
  intro P
  induction P with|nil=>rfl|cons p P g=>rw[Vn,Vo,g,Vn,Vo,Vy];omega
 rw[e,ZqZ];have h:(n.2.2.2.2.1.filter λp=>Ue (p.1=s)).length<=60:=Vm (Vt _ _) a.paths;have key:rA n l s+(Ku n.2.2.1.length λi=>Ku (Zj n i).length λb=>GT n.2.2.2.2.1 s (Zc n i b).1*bwA n l i b)<=2*tA n l:=by
  unfold rA tA;rw[<-GI,<-DU];refine Xm λi _=>?_;rw[<-GI,<-DU];refine Xm λb _=>?_;have:=Zms c s (Zc n i b).1;have f:(if (Zc n i b).1=s then bwA n l i b else 0)=(if (Zc n i b).1=s then 1 else 0) *bwA n l i b:=by split<;>simp
  rw[f,<-Nat.add_mul];exact Nat.mul_le_mul_right _ this
 have:=Zzn c a l;omega
variable {m:Nat}
def Zhp(n:Zh)(l:Nat)(x:Zx):Nat:=if x.1=Uc then Df n l x.2.1.toNat x.2.2.2.1.toNat else 1+rA n l x.2.2.2.2.2.1
def wJ(n:Zh)(m:Nat)(L:V Zx):Nat:=if ZK L<=m then Zhp n (m - ZK L) (lg L (L.length - 1)) else 1
def hJ(n:Zh)(m:Nat)(L:V Zx):Nat:=if ZK L<=m then 20* (m - ZK L)+(if (lg L (L.length - 1)).1=Uc then 10+K8 n (lg L (L.length - 1)).2.1.toNat else 5) else 0
theorem ZzS l i c:1<=Df n l i c:=by unfold Df;have:=ZvE l;grind
theorem ZqS L:1<=wJ n m L:=by
 unfold wJ Zhp;split
 .split
  .exact ZzS ..
  omega
 omega
theorem ZcO L x:lg (L++[x]) ((L++[x]).length - 1)=x:=by rw[Vj,Vx,Vbb,ZaV]
theorem ZkK{L}(a:ZK L<=m) i b c:wJ n m (L++[Zy n i b c Ud])=wrA n (m - ZK L) i c:=by
 unfold wJ;rw[Hw,Rn,ZcO];simp[Vba];by_cases h:ZK L+1<=m;.rw[Zn h,show m - ZK L=(m - (ZK L+1))+1 by omega];rfl
 rw[Zg h,show m - ZK L=0 by omega];rfl
theorem ZzQ{L}(a:ZK L<=m) i b c:wJ n m (L++[Zy n i b c Uc])=Df n (m - ZK L) i c:=by unfold wJ;rw[Hw,Rn,ZcO];simp[if_true];rw[Zn a];rfl
theorem ZzR{L}(a:ZK L<=m) s t p:wJ n m (L++[XD s t p])=1+rA n (m - ZK L) p.2.1:=by unfold wJ XD;rw[Hw,Zc8,ZcO,Vva,Zn a];rfl
theorem Zkw{α β:Type}(w:β->Nat) f:∀l:V α,((l.flatMap f).map w).sum=(l.map λx=>((f x).map w).sum).sum|[]=>rfl|x::l=>by rw[Veb,Vr,Via,Zkw w f l];rfl
theorem Zkx{α:Type}{f g:α->Nat}:∀{l:V α},(∀x∈l,f x<=g x)->(l.map f).sum<=(l.map g).sum|[],_=>Vp _|x::l,h=>by exact Vab (by grind) (Zkx (by grind))
theorem Zqs{α:Type}(f g:α->Nat):∀l:V α,(l.map λx=>f x+g x).sum=(l.map f).sum+(l.map g).sum|[]=>rfl|x::l=>by simp[Vn];rw[Zqs f g l];omega
theorem Zha{α:Type}{f}:∀{l:V α},(∀x∈l,f x=0)->(l.map f).sum=0|[],_=>rfl|x::l,h=>by rw[Vn,Vo,h x (by simp),Zha (by grind)]
theorem Zke{l f}(a:∀i b c,f (Zy n i b c Ud)<=wrA n l i c) s t:((XU n s t).map f).sum<=rA n l s:=by
 unfold XU rA;rw[Zah];refine Xm λi _=>?_;unfold Da;rw[Zah];refine Xm λb _=>?_;unfold HV;by_cases h:(Zc n i b).1=s
 .split
  .unfold Zbr bwA;rw[Zg8];exact Xm (by grind)
  simp
 grind
theorem Zzf(a:KN n){l j f}(e:j<n.2.2.1.length)(g:∀i b c,(i≠j\/b≠0)->f (Zy n i b c Ud)=0)(p:∀c,f (Zy n j 0 c Ud)<=Df n l j c) s t:((XU n s t).map f).sum<=gA l* (5+5*K8 n j):=by
 have k:∀i b,(i≠j\/b≠0)->((HV n s t i b).map f).sum=0:=by
  intro i b h;unfold HV;split;.unfold Zbr;rw[Zg8];exact Hx (by grind)
  rfl
 unfold XU;rw[Zah];refine Vm (ZeJ (j:=j) λi _ o=>?_) ?_;.unfold Da;rw[Zah];exact Hx (by grind)
 unfold Da;rw[Zah];refine Vm (ZeJ (j:=0) (by grind)) ?_;unfold HV;split;.unfold Zbr;rw[Zg8];refine Vm (Xm (by grind)) (Vm (ZnW l j 0) (Vaa _ ?_));have:=a.calls j e;omega
 simp
theorem Zf6{a b}(h:WV n a b=0)(c:Kq b=Uc):Gy n a b Uc=true:=by unfold WV at h;grind
theorem ZjH(h:KY n){a i b c}(l:Gy n a (Zy n i b c Uc) Uc=Uc):∃k d:Nat,a.2.1=k/\a.2.2.2.1=d/\isLink n k d i b true:=by have⟨x,o,e⟩:=Vla.1 l;obtain⟨p,f,w,r,y,rfl,_⟩:=h.link x o;unfold ZaX Zy at e;simp[Kp]at e;have⟨g,j,s,t,v⟩:=e;refine⟨p,f,g.symm,j.symm,?_⟩;unfold isLink;grind
theorem ZmX L l:((Gt n q L l).map λy=>wJ n m y.1).sum<=wJ n m (L++[l]):=by unfold Gt;grind
theorem Zu0 L x l:((Yv n L x l).map λy=>wJ n m y.1).sum<=wJ n m (L++[Xl l]):=by unfold Yv;grind
theorem ZiX{L x l}(h:¬((l.1=Uc/\l.2.2.1=0/\x.1=Uc)/\WV n x (Xl l)=0)):Yv n L x l=[]:=by unfold Yv;grind
theorem Zu2(a:Whole n)(t:KN n){L}(g:ZK L<=m):1+((YP n q L).map λy=>wJ n m y.1).sum<=wJ n m L:=by
 unfold YP;have E:wJ n m L=Zhp n (m - ZK L) (lg L (L.length - 1)):=Zn g;rw[Zkw,E];generalize lg L (L.length - 1)=x;have D:((JY n x).map λl=>((HN n q L x l).map λy=>wJ n m y.1).sum).sum=((JY n x).map λl=>((Gt n q L l).map λy=>wJ n m y.1).sum).sum+((JY n x).map λl=>((Yv n L x l).map λy=>wJ n m y.1).sum).sum:=by rw[<-Zqs];unfold HN;simp
 rw[D];have W:((XU n x.2.2.2.2.2.1 x.2.2.2.2.2.2.2.1).map λl=>((Gt n q L l).map λy=>wJ n m y.1).sum).sum<=rA n (m - ZK L) x.2.2.2.2.2.1:=
  Zke (λi b c=>Vm (ZmX L _) (Vya (ZkK g i b c))) _ _
 unfold JY Zhp
 cases hx:x.1 with
 |false=>
  simp[Vba,if_false,Vfa];have hS:((XU n x.2.2.2.2.2.1 x.2.2.2.2.2.2.2.1).map λl=>((Yv n L x l).map λy=>wJ n m y.1).sum).sum=0:=
   Zha λl _=>by rw[ZiX (by grind)];rfl
  omega|true=>
  simp[if_true,Vr,Via];have hB:((JM n x.2.2.2.2.2.1 x.2.2.2.2.2.2.2.1).map λl=>((Gt n q L l).map λy=>wJ n m y.1).sum).sum<=((n.2.2.2.2.1.filter λp=>Ue (p.1=x.2.2.2.2.2.1)).map λp=>1+rA n (m - ZK L) p.2.1).sum:=by unfold JM;rw[Vjb];exact Zkx λp _=>Vm (ZmX L _) (Vya (ZzR g _ _ p))
  have hC:((JM n x.2.2.2.2.2.1 x.2.2.2.2.2.2.2.1).map λl=>((Yv n L x l).map λy=>wJ n m y.1).sum).sum=0:=
   Zha λl z=>by obtain⟨p,_,_,rfl⟩:=Zhs z;rfl
  have hN:=Zoo a t (m - ZK L) x.2.2.2.2.2.1;have hD:((XU n x.2.2.2.2.2.1 x.2.2.2.2.2.2.2.1).map λl=>((Yv n L x l).map λy=>wJ n m y.1).sum).sum+gA (m - ZK L)<=Df n (m - ZK L) x.2.1.toNat x.2.2.2.1.toNat:=by
   by_cases M:∃i c j:Nat,x.2.1=i/\x.2.2.2.1=c/\isLink n i c j 0 Uc
   .have⟨i,c,j,J,K,B⟩:=M;have⟨l1,S,l3,l4,l5,l6,T⟩:=a.ok.isLink B;have P:=Rp a B;have w:j<7:=by have:=t.runs;omega
    have O:=ZbU a w P;have:=Zzf (l:=m - ZK L) (f:=λl=>((Yv n L x l).map λy=>wJ n m y.1).sum) t S (λC h e N=>by
     show ((Yv n L x (Zy n C h e Ud)).map λy=>wJ n m y.1).sum=0;rw[ZiX];.rfl
     rintro ⟨⟨_,o,_⟩,s⟩;have r:(h:Int)=0:=o;have v:h=0:=by omega
     subst v;have⟨k,d,H,I,A⟩:=ZjH (i:=C) (b:=0) (c:=e) a.ok (Zf6 s rfl);have Q:=Rp a A;grind) (λe=>Vm (Zu0 L x _) (Vya (ZzQ g j 0 e))) x.2.2.2.2.2.1 x.2.2.2.2.2.2.2.1
    rw[J,K,Vl,Vl];unfold Df;rw[Zn (T rfl).1,Nat.mul_add,Nat.mul_one];have U:gA (m - ZK L) * (5+5*K8 n j)<=gA (m - ZK L) * (5*K8 n i):=Vaa _ (by omega);omega
   have R:((XU n x.2.2.2.2.2.1 x.2.2.2.2.2.2.2.1).map λl=>((Yv n L x l).map λy=>wJ n m y.1).sum).sum=0:=
    Zha λl z=>by
     obtain⟨i,b,c,_,_,_,_,_,rfl⟩:=ZgN z;rw[ZiX];.rfl
     rintro ⟨⟨_,o,_⟩,s⟩;have r:(b:Int)=0:=o;have v:b=0:=by omega
     subst v;have⟨k,d,H,I,A⟩:=ZjH (i:=i) (b:=0) (c:=c) a.ok (Zf6 s rfl);grind
   rw[R];unfold Df;grind
  omega
theorem Zu1(g:Whole n)(B:KN n){L}(o:ZK L<=m){y}(f:y∈YP n q L):y.1.length=L.length+1/\hJ n m y.1<hJ n m L:=by
 unfold YP at f;have⟨l,a,f⟩:=Vc.1 f;have w:hJ n m L=20* (m - ZK L)+(if (lg L (L.length - 1)).1=Uc then 10+K8 n (lg L (L.length - 1)).2.1.toNat else 5):=Zn o;rw[w];generalize lg L (L.length - 1)=x at*;have j:∀i b c,hJ n m (L++[Zy n i b c Ud])<20* (m - ZK L)+(if x.1=Uc then 10+K8 n x.2.1.toNat else 5):=by intro i b c;unfold hJ;rw[Hw,Rn,ZcO];have J:=Zac (n:=n) i;have e:(Zy n i b c Ud).2.1.toNat=i:=Vl i;grind
 obtain f|f:=Ve.1 f
 .unfold Gt at f;split at f
  .rw[Vk]at f;subst f;refine⟨by simp,?_⟩;unfold JY at a;obtain a|a:=Ve.1 a
   .obtain⟨i,b,c,_,_,_,_,_,rfl⟩:=ZgN a;grind
   split at a
   .next E=>
    obtain⟨p,_,_,rfl⟩:=Zhs a;rw[Zn E];unfold hJ XD;rw[Hw,Zc8,ZcO,Vva,Zn o];rw[Zg λe=>Bool.noConfusion e];omega
   grind
  grind
 unfold Yv at f;split at f
 .next D=>
  rw[Vk]at f;subst f;refine⟨by simp,?_⟩;have⟨⟨r,s,c3⟩,_,v⟩:=D;rw[Zn c3];unfold JY at a;obtain a|a:=Ve.1 a
  .obtain⟨i,b,c,I,_,_,_,_,rfl⟩:=ZgN a;have t:(b:Int)=0:=s;have C:b=0:=by omega
   subst C;have⟨k,d,z,H,A⟩:=ZjH (i:=i) (b:=0) (c:=c) g.ok (Zf6 v rfl);have h:i<7:=by have:=B.runs;omega
   have:=ZbU g h (Rp g A);rw[z,Vl];show hJ n m (L++[Zy n i 0 c Uc])<_;unfold hJ;rw[Hw,Rn,ZcO];have e:(Zy n i 0 c Uc).2.1.toNat=i:=Vl i;grind
  rw[Zn c3]at a;obtain⟨p,_,_,rfl⟩:=Zhs a;cases r
 grind
theorem Zm6{n}(a:X0 n)(hF:n.2.2.2.2.2.1.1.length<=4096)(q:Zp)(L:V Zx)(b:L.length<=1000):F147 n q (L,())=Ua (Ue ((Wt n q L).2=0)):=by unfold F147;rw[Ztk a hF q L b];rfl
theorem Zzd(g:Whole n)(e:KN n):((DS n q).map λy=>wJ n m y.1).sum<=gA m:=by
 have a:ZK ([])<=m:=Vcb _;have h:((HZ n q).map λy=>wJ n m y.1).sum<=rA n m q.1:=by unfold HZ;rw[Vjb];refine Zke (f:=(λy=>wJ n m y.1) ∘λx=>([x],())) (λi b c=>?_) _ _;exact Vya (ZkK a i b c)
 have j:(((JM n q.1 0).flatMap (YD n q)).map λy=>wJ n m y.1).sum<=((n.2.2.2.2.1.filter λp=>Ue (p.1=q.1)).map λp=>1+rA n m p.2.1).sum:=by rw[Zkw];unfold JM;rw[Vjb];refine Zkx λp _=>?_;show ((YD n q (XD q.1 0 p)).map λy=>wJ n m y.1).sum<=1+rA n m p.2.1;unfold YD;rw[Vjb];refine Vm (Zke (f:=(λy=>wJ n m y.1) ∘λx=>([Zb0 (XD q.1 0 p) x,x],())) (λi b c=>?_) _ _) (Nat.le_add_left _ _);exact Vya (ZkK (L:=[Zb0 (XD q.1 0 p) (Zy n i b c Ud)]) (Vcb _) i b c)
 have k:=Zoo g e m q.1;unfold DS;grind
theorem Zzb{y}(a:y∈DS n q):0<y.1.length/\y.1.length+hJ n m y.1<=20*m+30:=by
 have b:∀L,hJ n m L<=20*m+17:=λL=>by unfold hJ;have:=Zac (n:=n) (lg L (L.length - 1)).2.1.toNat;grind
 obtain a|a:=Ve.1 a;.unfold HZ at a;grind
 have⟨w,_,a⟩:=Vc.1 a;unfold YD at a;grind
open Classical in
def Ya(n:Zh)(q:Zp)(y:V Zx×Unit):V (V Zx×Unit):=if RA n q y.1 then YP n q y.1 else []
open Classical in
def Yy(n:Zh)(q:Zp)(y:V Zx×Unit):V (V Zx×Unit):=if RA n q y.1/\(Wt n q y.1).2=0 then [y] else []
theorem Zji y:(Yy n q y).length<=1:=by unfold Yy;grind
theorem Znr{L}(h:RA n q L)(a:q.2.2.2.2.1=m):ZK L<=m:=by have:=h.2.1;omega
theorem ZgP(b:Whole n)(a:KN n)(c:q.2.2.2.2.1=m):∀l:V (V Zx×Unit),l.length+((l.flatMap (Ya n q)).map λy=>wJ n m y.1).sum<=(l.map λy=>wJ n m y.1).sum
 |[]=>Vp _|y::l=>by
  have e:=ZgP b a c l;rw[Veb,Vr,Via,Vn,Vo,Vy];have:1+((Ya n q y).map λy=>wJ n m y.1).sum<=wJ n m y.1:=by
   unfold Ya;split;.next h=>exact Zu2 b a (Znr h c)
   exact ZqS _
  omega
theorem Zwn(l:V (V Zx×Unit)):l.length<=(l.map λy=>wJ n m y.1).sum:=by
 induction l with
 |nil=>simp|cons y l a=>
  rw[Vn,Vo,Vy];have:=ZqS (n:=n) (m:=m) y.1;omega
theorem Zzt(l:V (V Zx×Unit)) i:((l.take i).map λy=>wJ n m y.1).sum<=(l.map λy=>wJ n m y.1).sum:=by
 have:l=l.take i++l.drop i:=by simp
 grind
structure Zb4 (n:Zh) (q:Zp) (m:Nat) (s:V (V Zx×Unit)×V (V Zx×Unit)):Prop where
 size:s.1.length+(s.2.map λy=>wJ n m y.1).sum<=549755813000
 good:∀y∈s.1,(Wt n q y.1).2=0/\y.1.length<=100
 low:∀y∈s.2,0<y.1.length/\y.1.length+hJ n m y.1<=100
 done:∃D:V Zx->Prop,(∀L,D L->RA n q L->((Wt n q L).2=0->(L,())∈s.1)/\∀y∈YP n q L,D y.1\/y∈s.2)/\∀y∈DS n q,D y.1\/y∈s.2
theorem ZrP(i:Whole n)(g:KN n)(j:q.2.2.2.2.1=m){s}(I:Zb4 n q m s):Zb4 n q m (s.1++s.2.flatMap (Yy n q),s.2.flatMap (Ya n q)):=by
 have w:=ZgP i g j s.2;have v:=ZbB (f:=Yy n q) (λy=>Zji y) s.2;refine⟨?_,λy a=>?_,λy a=>?_,?_⟩;.have:=I.size;grind
 .obtain a|a:=Ve.1 a
  .exact I.good y a
  have⟨z,c,a⟩:=Vc.1 a;unfold Yy at a;split at a
  .next h=>
   rw[Vk]at a;subst a;exact⟨h.2,by have:=I.low y c;omega⟩
  grind
 .have⟨z,c,a⟩:=Vc.1 a;unfold Ya at a;split at a
  .next h=>
   have⟨p,r⟩:=Zu1 i g (Znr h j) a;have:=I.low z c;omega
  grind
 have⟨D,l,o⟩:=I.done;refine⟨λL=>D L\/∃y∈s.2,y.1=L,?_,λy a=>?_⟩
 .rintro L (b|⟨⟨k,u⟩,b,rfl⟩) t
  .grind
  refine⟨λe=>Vca _ (Vc.2 ⟨_,b,?_⟩),λy a=>.inr (Vc.2 ⟨_,b,?_⟩)⟩;.unfold Yy;grind
  unfold Ya;grind
 grind
structure ZkZ (n:Zh) (q:Zp) (out:V (V Zx×Unit)):Prop where
 size:out.length<=549755813000
 good:∀y∈out,(Wt n q y.1).2=0/\y.1.length<=100
 none:q.1=q.2.1->([],())∈out
 walk:∀w∈JM n q.1 q.2.2.1,(Wt n q [w]).2=0->([w],())∈out
 done:∃D:V Zx->Prop,(∀L,D L->RA n q L->((Wt n q L).2=0->(L,())∈out)/\∀y∈YP n q L,D y.1)/\∀y∈DS n q,D y.1
theorem ZyM(k:X0 n)(p:Whole n)(j:KN n)(hF:n.2.2.2.2.2.1.1.length<=4096)(hq:qB n.1.length q=Uc)(hb:q.2.2.2.1=Ud)(U:q.2.2.2.2.1=m)(h3:m<=3):∃out,F144 n q=Ua out/\ZkZ n q out:=by
 have hN:=p.ok;have E:n.2.2.2.2.1.length<=4096:=by have:=j.paths;omega
 have T:n.2.2.2.1.length<=4096:=by have:=p.v;omega
 have H:Z9 q.1 n.1.length=true:=by unfold qB at hq;grind
 have a8:Gp n q=0:=Zcw.2 ⟨p,hq⟩;have a7:=Zhr j q.1 q.2.2.1;unfold F144;refine Zfl (λr=>r=if q.1=q.2.1 then [([],())] else []) ?_ ?_;.grind
 rintro x0 a5;have c1:x0.length<=1:=by grind
 rw[ZkM E];simp only[Za];have z:∃a,a.length<=61/\(∀y∈a,(Wt n q y.1).2=0/\y.1.length<=100)/\(q.1=q.2.1->([],())∈a)/\(∀w∈JM n q.1 q.2.2.1,(Wt n q [w]).2=0->([w],())∈a)/\a=x0++(JM n q.1 q.2.2.1).flatMap λw=>if (Wt n q [w]).2=0 then [([w],())] else []:=by
  refine⟨_,?_,λy h=>?_,λe=>?_,by grind,rfl⟩;.have:=ZbB (f:=λw=>if (Wt n q [w]).2=0 then [(([w],()):V Zx×Unit)] else []) (c:=1) (by grind) (JM n q.1 q.2.2.1);grind
  .obtain h|h:=Ve.1 h
   .rw[a5]at h;split at h
    .next he=>
     rw[Vk]at h;subst h;exact⟨(Zbv n q []).2 (by grind),by simp⟩
    grind
   grind
  all_goals grind
 have⟨a,b1,b2,b3,b4,b5⟩:=z;refine Zfl (λr=>r=a) ?_ ?_
 .rw[b5];generalize JM n q.1 q.2.2.1=W at*;refine Kg W.length _ (λi (st:V (V Zx×Unit)×Int)=>st=(x0++(W.take i).flatMap (λw=>if (Wt n q [w]).2=0 then [([w],())] else []),(i:Int))) ?_ ?_ _ (by simp)
  .rintro i _ g rfl;left;have hl:((W.take i).flatMap λw=>if (Wt n q [w]).2=0 then [(([w],()):V Zx×Unit)] else []).length<=60:=by have:=ZbB (f:=λw=>if (Wt n q [w]).2=0 then [(([w],()):V Zx×Unit)] else []) (c:=1) (by grind) (W.take i);grind
   have et:(W.take (i+1)).flatMap (λw=>if (Wt n q [w]).2=0 then [(([w],()):V Zx×Unit)] else [])=(W.take i).flatMap (λw=>if (Wt n q [w]).2=0 then [(([w],()):V Zx×Unit)] else [])++if (Wt n q [W[i]]).2=0 then [([W[i]],())] else []:=by rw[Va g,Vs];simp
   have R:F147 n q ([W[i]],())=Ua (Ue ((Wt n q [W[i]]).2=0)):=Zm6 k hF q [W[i]] (by simp);rw[et];simp only[ZL g,Zf,ZC g,Za,hb,Ze,R,ZU g (by omega)];by_cases A:(Wt n q [W[i]]).2=0;.rw[Zi A,Zn A];simp only[Zf];rw[XM (by grind)];simp
   grind
  simp
 rintro r7 a0;rw[a0,Zzc j];simp only[Za];refine Zfl (λr=>Zb4 n q m (r,[])/\∀y∈a,y∈r) ?_ ?_
 rotate_left
 .rintro out ⟨I,J⟩;refine⟨out,rfl,by have:=I.size;grind,I.good,by grind,by grind,?_⟩;have⟨D,d1,d2⟩:=I.done;exact⟨D,by grind,by grind⟩
 have a9:gA m<=542198816521:=by
  have:m=0\/m=1\/m=2\/m=3:=by omega
  obtain rfl|rfl|rfl|rfl:=this<;>decide
 have b9:=Zzd (q:=q) (m:=m) p j;have h0:Zb4 n q m (a,DS n q):=by refine⟨by grind,b2,λy h=>?_,⟨λ_=>False,by simp,by simp⟩⟩;have:=Zzb (m:=m) h;omega
 refine Zkn (Inv:=λs=>Zb4 n q m s/\∀y∈a,y∈s.1) (μ:=λs=>(s.2.map λy=>wJ n m y.1).sum) (WY:=λr=>Zb4 n q m (r,[])/\∀y∈a,y∈r) ?_ (a,DS n q) (by grind);rintro ⟨out,opn⟩ ⟨I,J⟩
 cases opn with
 |nil=>
  grind|cons y0 K=>
  left;generalize b8:y0::K=opn at*;have a6:0<opn.length:=by grind
  have hr:=ZgP p j U opn;have b6:=by omega
  have a4:=I.size;simp only at a4;refine⟨(out++opn.flatMap (Yy n q),opn.flatMap (Ya n q)),?_,⟨ZrP p j U I,by grind⟩,by grind⟩;rw[Zi (show (0:Int)<(opn.length:Int) by omega)];simp only[Zf];refine KK (λr=>r=(out++opn.flatMap (Yy n q),opn.flatMap (Ya n q))) ?_ (by simp);refine Kg opn.length _ (λi (st:V (V Zx×Unit)×V (V Zx×Unit)×Int)=>st=(out++(opn.take i).flatMap (Yy n q),(opn.take i).flatMap (Ya n q),(i:Int))) ?_ ?_ _ (by simp)
  .rintro i _ g rfl;left;have l:=I.low opn[i] (Vi g);have B:=ZbB (f:=Yy n q) (c:=1) (λy=>Zji y) (opn.take i);rw[Vyb]at B;have C:((opn.take (i+1)).flatMap (Ya n q)).length<=549755813000:=by have a1:=Zwn (n:=n) (m:=m) ((opn.take (i+1)).flatMap (Ya n q));have a2:=ZgP p j U (opn.take (i+1));have a3:=Zzt (n:=n) (m:=m) opn (i+1);omega
   have em:(opn.take (i+1)).flatMap (Ya n q)=(opn.take i).flatMap (Ya n q)++Ya n q opn[i]:=by rw[Va g,Vs];simp
   have eg:(opn.take (i+1)).flatMap (Yy n q)=(opn.take i).flatMap (Yy n q)++Yy n q opn[i]:=by rw[Va g,Vs];simp
   rw[em,Vj]at C;rw[em,eg];have S:=Zji (n:=n) (q:=q) opn[i];have⟨b,N,O⟩:=ZvN (n:=n) (q:=q) hN.sound E H (L:=(opn[i]).1) l.1 (by omega);have t:F156 n q opn[i]=Ua b:=N;have Q:F147 n q opn[i]=Ua (Ue ((Wt n q (opn[i]).1).2=0)):=Zm6 k hF q (opn[i]).1 (by omega);have P:F153 n q opn[i]=Ua (YP n q (opn[i]).1):=Zu3 (L:=(opn[i]).1) j hN T H l.1 (by omega);have hw:Vf .i64 ((i:Int)+1)=((i+1:Nat):Int):=by rw[ZB (by omega) (by omega)];omega
   simp only[ZL g,Zf,ZC g,Za,t,hw]
   cases b with
   |false=>
    have b7:¬RA n q (opn[i]).1:=by grind
    simp only[Vha,Zf];refine⟨_,rfl,?_⟩;unfold Yy Ya
    grind|true=>
    have o:RA n q (opn[i]).1:=O.1 rfl;have M:Ya n q opn[i]=YP n q (opn[i]).1:=Zn o;rw[M]at C;simp only[Vu,Ze,Q,Za,P];refine Gn (λr=>r=(out++(opn.take i).flatMap (Yy n q)++Yy n q opn[i],(opn.take i).flatMap (Ya n q))) ?_ ?_
    .unfold Yy at S B⊢;by_cases A:(Wt n q (opn[i]).1).2=0
     .rw[Zi A,Zn ⟨o,A⟩];simp only[Zf];rw[Znm (by grind)];simp
     grind
    rintro _ rfl;have b0:Zw (Ue (((opn.take i).flatMap (Ya n q)).length+(YP n q (opn[i]).1).length<=Zt))=Ua ():=Znm (by omega);grind
  simp
theorem R3{x}(h:W7 n q x=0)(g:x.1=Uc):∃i b c st,x=Zy n i b c st/\i<n.2.2.1.length/\b<c/\c<(Zj n i).length:=by
 have⟨A,a,B,e⟩:=Zgl.1 h;rw[g]at a e;simp[Vrb]at a e;have f:=a;unfold KM K6 at f;simp[R2]at f;have⟨⟨t,v⟩,w,y,z⟩:=f;have⟨⟨j,k⟩,⟨l,o⟩,_⟩:=Zc6.1 e;have⟨O,s,p,r,H,I,E,D,xs,u⟩:=x;simp at g A a B e t v w y z j k l o;obtain⟨i,rfl⟩:∃i:Nat,s=i:=⟨s.toNat,by omega⟩;obtain⟨b,rfl⟩:∃i:Nat,p=i:=⟨p.toNat,by omega⟩;obtain⟨c,rfl⟩:∃i:Nat,r=i:=⟨r.toNat,by omega⟩;have C:c<(Zj n i).length:=by unfold Zj;omega
 refine⟨i,b,c,xs,?_,by omega,by omega,C⟩;have J:(Zc n i b).1=H:=j;have K:(Zc n i c).1=I:=k;have M:(Zc n i b).2.2.1=E:=l;have N:(Zc n i c).2.1=D:=o;unfold Zy;grind
theorem G2(r:KY n){x}(h:W7 n q x=0)(g:x.1=Ud):∃p∈n.2.2.2.2.1,∃a,x=Kc p.1 p.2.1 a (a+p.2.2.1)/\0<=a/\a+p.2.2.1<=3155932800:=by have⟨i,c,j,e⟩:=Zgl.1 h;rw[g]at c e;simp[KJ]at c e;have k:=ZeL.1 e;have⟨p,l,f⟩:=Vla.1 k;rw[Vma]at f;have b:=f.1;unfold HQ at b;simp[Vma]at b;have⟨z,y,t,v,w,A,o,s,xs,u⟩:=x;simp at g i c j b;rw[ZB (by omega) (by omega)]at b;refine⟨p,l,o,?_,by omega,by omega⟩;unfold Kc;grind
theorem ZcP{J k i}(h:i<k):lg (J.take k) i=lg J i:=by unfold lg;grind
theorem ZrO x:Yp n q x=0\/Yp n q x=26\/Yp n q x=29:=by unfold Yp;grind
structure Xp (n:Zh) (q:Zp) (J:V Zx):Prop where
 pos:0<J.length
 leg:∀i,i<J.length->W7 n q (lg J i)=0
 fol:∀i,i+1<J.length->WV n (lg J i) (lg J (i+1))=0/\((lg J i).1=Uc->Kq (lg J (i+1))=Ud->Yp n q (lg J i)=0)
 fst:Yw n q J=0
theorem Zvb{J}(c:0<J.length)(a:∀i,i<J.length->K2 n q J i=0):Xp n q J:=by
 refine⟨c,λi b=>(Xx.1 (a i b)).1,λi b=>⟨?_,λe f=>?_⟩,(Xx.1 (a 0 c)).2.1⟩;.have:=(Xx.1 (a (i+1) b)).2.1;assumption
 refine(Xx.1 (by grind)).2.2 ?_;unfold XW;grind
theorem Xp.at0{J}(h:Xp n q J){i}(b:i+1<J.length):K2 n q J i=0:=by
 refine Xx.2 ⟨h.leg i (by omega),?_,λa=>?_⟩
 .cases i with|zero=>exact h.fst|succ i=>exact(h.fol i (by omega)).1
 unfold XW at a;simp[KJ]at a;exact(h.fol i b).2 a.1 (by grind)
theorem Xp.at1{J}(h:Xp n q J){i}(a:i<J.length):K2 n q J i=0\/K2 n q J i=26\/K2 n q J i=29:=by
 have b:=h.leg i a;have c:Gz n q J i=0:=by
  cases i with|zero=>exact h.fst|succ i=>exact(h.fol i a).1
 unfold K2;have:=ZrO (n:=n) (q:=q) (lg J i);grind
theorem Xp.hope{J}(h:Xp n q J):∀i,i<J.length->ZbE n q J i:=by
 intro i b;by_cases e:i+1<J.length;.exact .inl (h.at0 e)
 obtain a|a:=h.at1 b;.exact .inl a
 exact .inr ⟨by omega,a⟩
theorem Xp.take{J}(h:Xp n q J){k}(r:k<=J.length)(b:0<k)(a:2<=k\/(lg J 0).1=Uc):Xp n q (J.take k):=by
 have e:(J.take k).length=k:=by grind
 refine⟨by omega,λi c=>?_,λi c=>?_,?_⟩;.rw[ZcP (by omega)];exact h.leg i (by omega)
 .rw[ZcP (by omega),ZcP (by omega)];exact h.fol i (by omega)
 have⟨f,g,j,l,o,p⟩:=YQ.1 h.fst;refine YQ.2 ?_;rw[ZcP b,e];obtain a|a:=a;.rw[ZcP (by omega)];grind
 grind
theorem ZpD J k:ZK (J.take k)<=ZK J:=by
 have:J=J.take k++J.drop k:=by simp
 conv=>rhs;rw[this]
 rw[Hw];omega
theorem ZqW L x:XE (L++[x])=Rt (XE L) x:=by unfold XE;simp
theorem ZqU s i b c st:Rt s (Zy n i b c st)=s:=rfl
theorem ZqV{s a w}(c:0<=s)(e:s<=1000000000000)(b:0<=a)(f:a+w<=3155932800)(g:1<=w/\w<=14400) u v:Rt s (Kc u v a (a+w))=s+w:=by unfold Rt Zhq Kc;simp[Vqb];rw[Zi b,Zi (by omega),ZB (by omega) (by omega),Zi (by omega)];simp[Zf];rw[ZB (x:=s+(a+w)) (by omega) (by omega),ZB (by omega) (by omega)];omega
theorem Xp.walks(j:KY n){J}(h:Xp n q J)(H:ZK J<=1000):∀k,k+1<=J.length->0<=XE (J.take k)/\XE (J.take k)<=XE (J.take (k+1))/\XE (J.take (k+1))<=14400* (ZK (J.take (k+1)))+(if (lg J k).1=Uc then 0 else 14400):=by
 intro k
 induction k with
 |zero=>
  intro o;have e:J.take (0+1)=[]++[lg J 0]:=by rw[Va o,ZaW o];rfl
  have e0:XE (J.take 0)=0:=rfl;rw[e,e0,ZqW];have A:XE []=0:=rfl;rw[A]
  cases r:(lg J 0).1 with
  |true=>
   have⟨i,b,c,st,ex,_⟩:=R3 (h.leg 0 o) r;rw[ex,ZqU]
   omega|false=>
   have⟨p,t,a,ex,w,y⟩:=G2 j (h.leg 0 o) r;have g:=j.path p t;rw[ex,ZqV (by omega) (by omega) w y ⟨g.2.2.2.1,g.2.2.2.2⟩]
   grind
 |succ k D=>
  intro o;have⟨I,K,v⟩:=D (by omega);have f:k+1<J.length:=by omega
  have e:J.take (k+1+1)=J.take (k+1)++[lg J (k+1)]:=by rw[Va f,ZaW f]
  have C:=ZpD J (k+1);rw[e,ZqW,Hw]
  cases r:(lg J (k+1)).1 with
  |true=>
   have⟨i,b,c,st,ex,_⟩:=R3 (h.leg (k+1) f) r;have l:=(h.fol k f).1;rw[ex]at l⊢;rw[ZqU,Rn];simp[if_true]
   cases s:(lg J k).1 with
   |true=>
    grind|false=>
    rw[s]at v;simp[Vba,if_false]at v
    cases st with
    |true=>
     have⟨p,t,a,z,_⟩:=G2 j (h.leg k (by omega)) s;rw[z]at l
     exact(Zd3 _ _ _ _ _ _ _ _ l).elim|false=>grind
  |false=>
   have⟨p,t,a,ex,w,y⟩:=G2 j (h.leg (k+1) f) r;have g:=j.path p t;have l:=(h.fol k f).1
   cases s:(lg J k).1 with
   |false=>
    have⟨M,B,E,z,_⟩:=G2 j (h.leg k (by omega)) s;rw[ex,z]at l
    exact(Zf7 _ _ _ _ _ _ _ _ _ l).elim|true=>
    rw[s]at v;simp[if_true]at v;rw[ex,ZqV (by omega) (by omega) w y ⟨g.2.2.2.1,g.2.2.2.2⟩,Zc8];grind
theorem Xp.stay_link(g:KY n){J}(h:Xp n q J){k}(o:k+1<J.length)(l:Kq (lg J (k+1))=Uc):∃i b c st j e,lg J k=Zy n i b c st/\lg J (k+1)=Zy n j 0 e Uc/\isLink n i c j 0 true:=by
 have f:=(h.fol k o).1;have z:=Zf6 f l;have s:(lg J (k+1)).1=true:=by
  cases s:(lg J (k+1)).1 with
  |true=>rfl|false=>
   have⟨p,_,a,e,_⟩:=G2 g (h.leg (k+1) o) s;rw[e]at l;assumption
 have⟨j,d,e,t,w,_⟩:=R3 (h.leg (k+1) o) s;rw[w]at l z f;have r:t=true:=l;subst r
 cases v:(lg J k).1 with
 |false=>
  have⟨p,_,a,ex,_⟩:=G2 g (h.leg k (by omega)) v;rw[ex]at f
  exact(Zd3 _ _ _ _ _ _ _ _ f).elim|true=>
  have⟨i,b,c,st,ex,_⟩:=R3 (h.leg k (by omega)) v;rw[ex]at f;have⟨_,y,_⟩:=(Zd1 g).1 f;have A:=((g.isLink y).2.2.2.2.2.2 rfl).2;grind
theorem Xp.again(f:Whole n){J}(h:Xp n q J){r}:∀k,k<J.length->JF n (lg J k).2.1 r->Gm r (J.take (k+1)).reverse=false:=by
 intro k
 induction k with
 |zero=>
  intro a l;have e:(J.take (0+1)).reverse=[lg J 0]:=by rw[Va a,ZaW a];rfl
  rw[e];unfold Gm;rw[Zg λe=>JF.irr f (by rw[e]at l;omega)];have:=(YQ.1 h.fst).2.1
  grind|succ k s=>
  intro a l;have e:(J.take (k+1+1)).reverse=lg J (k+1)::(J.take (k+1)).reverse:=by rw[Va a,List.reverse_append,ZaW a];rfl
  rw[e];unfold Gm;rw[Zg λe=>JF.irr f (by rw[e]at l;omega)]
  cases p:Kq (lg J (k+1)) with
  |false=>rfl|true=>
   have⟨i,b,c,st,j,t,ex,o,g⟩:=h.stay_link f.ok a p;refine s (by omega) (JF.trans ?_ l);rw[ex,o];exact JF.one (Rp f g)
end Q
end
