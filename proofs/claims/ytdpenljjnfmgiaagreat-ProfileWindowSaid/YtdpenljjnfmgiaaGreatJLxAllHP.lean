/- Exhaustive search: every feasible journey is among those that the reference finds. Conditions: the network is valid and small, the query is asked forward. -/
import Derived.Test.YtdpenljjnfmgiaaGreatJLxPf1
open Bool renaming not_true ->Vl
open Int renaming toNat ->Vaa
open List renaming take_succ_eq_append_getElem ->Va,pairwise_iff_getElem ->Vb,getElem_of_mem ->Vc,mem_singleton ->Vd,mem_append ->Ve,length ->Vf,mem_flatMap ->Vg,getElem_mem ->Vh,getElem?_eq_getElem ->Vi,mem_append_right ->Vj,take_append_drop ->Vk,mem_append_left ->Vm,mem_map ->Vo,length_singleton ->Vp,mem_iff_getElem ->Vq,length_append ->Vr,pairwise_cons ->Vs,take_length ->Vu,getElem_set ->Vv,length_drop ->Vx,length_set ->Vy,nil_append ->Vz,mem_cons ->Vba
open Nat renaming lt_trichotomy ->Vt,le_refl ->Vw
open Option renaming bind ->Vn
open Option renaming some ->Ua,none ->Ub
open Bool renaming true ->Uc,false ->Ud
open Decidable renaming decide ->Ue
namespace Q
open Tr Go
variable {n:Zh}{q:Zp}{m:Nat}
theorem Zef{s t i b c}(a:i<n.2.2.1.length)(f:b<c)(g:c<(Zj n i).length)(d:(Zc n i b).1=s)(e:t<=(Zc n i b).2.2.1):Zy n i b c Ud∈XU n s t:=by refine Vg.2 ⟨i,List.mem_range.2 a,?_⟩;refine Vg.2 ⟨b,by grind,?_⟩;unfold HV;rw[Zn ⟨d,e⟩];refine Vo.2 ⟨c - (b+1),by grind,?_⟩;grind
theorem ZjO{s t p}(a:p∈n.2.2.2.2.1)(b:p.1=s):XD s t p∈JM n s t:=by unfold JM;grind
theorem Zdf{J k}(h:k<J.length):J.take (k+1)=J.take k++[lg J k]:=by rw[Va h,ZaW h]
theorem Xp.mono(a:KY n){J}(h:Xp n q J)(b:ZK J<=1000):∀d k,k+d=J.length->XE (J.take k)<=XE J:=by
 intro d
 induction d with
 |zero=>simp|succ d e=>
  intro k c;exact Int.le_trans (h.walks a b k (by omega)).2.1 (by grind)
theorem Xp.ext(K:Whole n){J}(h:Xp n q J){k}(h0:0<k)(A:k<J.length)(h2:2<=k\/(lg J 0).1=Uc):(J.take (k+1),())∈YP n q (J.take k):=by
 have r:=K.ok;have Q:(J.take k).length=k:=by grind
 obtain⟨f,rfl⟩:∃f,k=f+1:=by simp_all
 have o:lg (J.take (f+1)) ((J.take (f+1)).length - 1)=lg J f:=by rw[Q,Nat.add_sub_cancel,ZcP (by omega)]
 have v:=(h.fol f A).1;have B:=h.take (k:=f+1+1) (by omega) (by omega) (by omega);have a3:(J.take (f+1+1)).length=f+1+1:=by grind
 have W:lg J (f+1)∈JY n (lg J f)->(J.take (f+1+1),())∈YP n q (J.take (f+1)):=λz=>by unfold YP;rw[o];refine Vg.2 ⟨_,z,Vm _ ?_⟩;unfold Gt;rw[<-Zdf A,Q];have a1:=B.at0 (i:=f) (by omega);have a2:=B.at1 (i:=f+1) (by omega);grind
 cases S:(lg J (f+1)).1 with
 |false=>
  have⟨p,R,a,ex,b1,b2⟩:=G2 r (h.leg (f+1) A) S;refine W ?_
  cases D:(lg J f).1 with
  |false=>
   have⟨p',_,T,l,_⟩:=G2 r (h.leg f (by omega)) D;rw[ex,l]at v
   exact(Zf7 _ _ _ _ _ _ _ _ _ v).elim|true=>
   have⟨i,b,c,st,l,_⟩:=R3 (h.leg f (by omega)) D;have a4:=r.path p R;rw[ex,l]at v⊢;have⟨y,E⟩:=Zjf.1 v;unfold JY;refine Vj _ ?_;rw[Zn (by rfl)];show _∈JM n (Zc n i c).1 (Zc n i c).2.1;have:=ZjO (s:=(Zc n i c).1) (t:=(Zc n i c).2.1) R y.symm;unfold XD at this;rw[ZB (by omega) (by omega)]at this
   grind
 |true=>
  have⟨j,d,e,w,ex,F,H,I⟩:=R3 (h.leg (f+1) A) S;have z:∀x,w=x->Zy n j d e Ud∈JY n (lg J f):=by
   intro x C;unfold JY;refine Vm _ ?_
   cases D:(lg J f).1 with
   |false=>
    have⟨p',_,T,l,_⟩:=G2 r (h.leg f (by omega)) D;rw[ex,l]at v
    cases w with
    |true=>exact(Zd3 _ _ _ _ _ _ _ _ v).elim|false=>
     have⟨y,E⟩:=Zd2.1 v;rw[l]
     exact Zef F H I y.symm E
   |true=>
    have⟨i,b,c,st,l,M,k2,N⟩:=R3 (h.leg f (by omega)) D;rw[ex,l]at v;rw[l];have a0:=r.change (Zc n i c).1 (r.stop M N).1 (r.stop M N).2
    cases w with
    |true=>
     have⟨y,_,U⟩:=(Zd1 r).1 v
     exact Zef F H I y.symm U|false=>
     have⟨y,E⟩:=(Zje r M N).1 v;exact Zef F H I y.symm (by show (Zc n i c).2.1<=_;omega)
  cases w with
  |false=>grind|true=>
   have C:Kq (lg J (f+1))=true:=by rw[ex];rfl
   have⟨i,b,c,st,j',e',l,O,g⟩:=h.stay_link r A C;have L:Zbo (J.take (f+1)) (Xl (Zy n j d e Ud))=false:=by
    unfold Zbo;have:Gm j (J.take (f+1)).reverse=false:=by
     refine h.again K f (by omega) ?_;have:(lg J (f+1)).2.1=j:=by rw[ex];rfl
     rw[O]at this;rw[<-this,l];exact JF.one (Rp K g)
    assumption
   have hd:(d:Int)=0:=by
    have P:(lg J (f+1)).2.2.1=d:=by rw[ex];rfl
    rw[O]at P;exact P.symm
   unfold YP;rw[o];refine Vg.2 ⟨_,z Uc rfl,Vj _ ?_⟩;unfold Yv;have hs:Xl (Zy n j d e Ud)=lg J (f+1):=by rw[ex];rfl
   rw[Zn ⟨⟨rfl,hd,by rw[l];rfl⟩,L,by grind⟩,hs,<-Zdf A];simp
theorem ZrT(U:Whole n)(hb:q.2.2.2.1=Ud)(hm:q.2.2.2.2.1<=8){out}(A:ZkZ n q out){J}(hc:(Wt n q J).2=0):(J,())∈out:=by
 have r:=U.ok;obtain⟨S,he⟩|⟨S,K,e⟩:=((Zbv n q J).1 hc).2;.rw[List.eq_nil_of_length_eq_zero S];exact A.none he
 have h:=Zvb (by omega) K;unfold DA at e;rw[KQ (by omega),KQ (by omega),KQ (by omega),KQ (by omega)]at e;have⟨_,_,e3,e4,_⟩:=e;rw[decide_eq_false_iff_not]at e3 e4;have g:ZK J<=1000:=by omega
 have⟨o,Q,B,C,f5,f6⟩:=YQ.1 h.fst;rw[hb]at C f5;have l:q.2.2.1<=(lg J 0).2.2.2.2.2.2.1:=by grind
 have L:ZaR q=q.2.2.1:=by unfold ZaR;grind
 by_cases j:(lg J 0).1=Ud/\J.length=1
 .have⟨p,z,a,ex,b1,b2⟩:=G2 r (h.leg 0 (by omega)) j.1;rw[ex,j.2]at C;have ha:a=q.2.2.1:=by have a0:(Uc&&(Ue (1=1)&& !Ue (a=q.2.2.1)))=false:=C;grind
  rw[ex]at o;have f:p.1=q.1:=o;have M:=r.path p z;have eJ:J=[lg J 0]:=by have:=Zdf (J:=J) (k:=0) (by omega);grind
  have ew:lg J 0=XD q.1 q.2.2.1 p:=by rw[ex];unfold XD;rw[ZB (by omega) (by omega),f,ha]
  have:=A.walk _ (ZjO (t:=q.2.2.1) z f) (by grind);grind
 have⟨D,d1,P⟩:=A.done;have hope:∀k,0<k->k<=J.length->(2<=k\/(lg J 0).1=Uc)->RA n q (J.take k):=by intro k I T v;have hw:=h.mono r g (J.length - k) k (by omega);have a1:=ZpD J k;exact⟨(h.take T I v).hope,by omega,by omega,by grind⟩
 have step:∀k d,0<k->(2<=k\/(lg J 0).1=Uc)->k+d=J.length->D (J.take k)->D J:=by
  intro k d
  induction d generalizing k with
  |zero=>grind|succ d ih=>
   intro I v hk hD;exact ih (k+1) (by omega) (by omega) (by omega) ((d1 _ hD (by grind)).2 _ (h.ext U I (by omega) v))
 have fin:D J->(J,())∈out:=by grind
 cases O:(lg J 0).1 with
 |true=>
  have⟨i,b,c,st,ex,E,F,H⟩:=R3 (h.leg 0 (by omega)) O;rw[ex]at o Q l;have N:st=false:=Q;subst N;refine fin (step 1 (J.length - 1) (by omega) (.inr O) (by omega) (P (J.take 1,()) ?_));unfold DS HZ;refine Vm _ (Vo.2 ⟨Zy n i b c Ud,Zef E F H o (by rw[L];assumption),?_⟩);have:=Zdf (J:=J) (k:=0) (by omega)
  grind|false=>
  have T:2<=J.length:=by grind
  have⟨p,z,a,ex,b1,b2⟩:=G2 r (h.leg 0 (by omega)) O;have M:=r.path p z;have y:=(h.fol 0 (by omega)).1
  cases W:(lg J 1).1 with
  |false=>
   have⟨p',_,a',s,_⟩:=G2 r (h.leg 1 (by omega)) W;rw[show 0+1=1 from rfl,ex,s]at y
   exact(Zf7 _ _ _ _ _ _ _ _ _ y).elim|true=>
   have⟨i,b,c,st,s,E,F,H⟩:=R3 (h.leg 1 (by omega)) W;rw[show 0+1=1 from rfl,ex,s]at y
   cases st with
   |true=>exact(Zd3 _ _ _ _ _ _ _ _ y).elim|false=>
    have⟨v,h4⟩:=Zd2.1 y;rw[ex]at o l B;rw[s]at B;have f:p.1=q.1:=o;have R:q.2.2.1<=a:=l;have w:(Zc n i b).2.2.1=a+p.2.2.1:=by have:(Uc&&(Ue (1<J.length)&&(Uc&& !Ue ((Zc n i b).2.2.1=a+p.2.2.1))))=false:=B;grind
    refine fin (step 2 (J.length - 2) (by omega) (by omega) (by omega) (P (J.take 2,()) ?_));unfold DS;refine Vj _ (Vg.2 ⟨XD q.1 0 p,ZjO z f,?_⟩);unfold YD;refine Vo.2 ⟨Zy n i b c Ud,Zef E F H v.symm (by omega),?_⟩;have t1:=Zdf (J:=J) (k:=1) (by omega);have t0:=Zdf (J:=J) (k:=0) (by omega);rw[show 2=1+1 from rfl,t1,show 1=0+1 from rfl,t0,ex,s];have:Zb0 (XD q.1 0 p) (Zy n i b c Ud)=Kc p.1 p.2.1 a (a+p.2.2.1):=by have e1:(Zy n i b c Ud).2.2.2.2.2.2.1=(Zc n i b).2.2.1:=rfl;have e2:(XD q.1 0 p).2.2.2.2.2.2.2.1=IntKind.wrap .i64 (0+p.2.2.1):=rfl;unfold Zb0;rw[e1,e2,w,ZB (x:=0+p.2.2.1) (by omega) (by omega),ZB (by omega) (by omega),show a+p.2.2.1 - (0+p.2.2.1)=a by omega];unfold XD Kc;grind
    grind
def W8(c e:Ja):Prop:=e.1<c.1\/(c.1=e.1/\(c.2.1<e.2.1\/(c.2.1=e.2.1/\c.2.2.1<e.2.2.1)))
instance (c e:Ja):Decidable (W8 c e):=by unfold W8;infer_instance
def Zdq(c:Ja):Prop:=0<=c.1/\c.1<=3155932800
def Yf(c:Ja):V Int:=[0 - c.1,c.2.1,c.2.2.1]
theorem Zhl{c}(h:Zdq c):F172 c=Ua (Yf c):=by unfold F172 Yf;rw[ZB (by have:=h.2;omega) (by have:=h.1;omega)]
theorem Zhk{c e}:Yf c=Yf e↔KU c e:=by unfold Yf KU;simp only[Hf,and_true];omega
theorem Zx4 c e:F170 (Yf c) (Yf e)=Ua (Ue (¬KU c e/\Wa c e)):=by
 unfold F170;rw[ZdT (Yf c) (Yf e) rfl];have g:∀c,(Yf c)[Vaa 0]? =Ua (0 - c.1)/\(Yf c)[Vaa 1]? =Ua c.2.1/\(Yf c)[Vaa 2]? =Ua c.2.2.1:=λc=>⟨rfl,rfl,rfl⟩;simp only[(g c).1,(g c).2.1,(g c).2.2,(g e).1,(g e).2.1,(g e).2.2];by_cases a:KU c e;.rw[Zi (Zhk.2 a)];simp[a]
 rw[Zm λh=>a (Zhk.1 h)];unfold Wa;by_cases b:e.1<=c.1
 .by_cases d:c.2.1<=e.2.1
  .simp[a,b,d]
  simp[d]
 simp[b]
theorem ZsS c e:F168 (Yf c) (Yf e)=Ua (Ue (W8 c e)):=by
 have f:∀c k,k<3->∃x,(Yf c)[k]? =Ua x/\(k=0->x=0 - c.1)/\(k=1->x=c.2.1)/\(k=2->x=c.2.2.1):=by
  intro c k a;rcases (show k=0\/k=1\/k=2 by omega) with rfl|rfl|rfl;.exact⟨_,rfl,λ_=>rfl,λh=>by omega,λh=>by omega⟩
  .exact⟨_,rfl,λh=>by omega,λ_=>rfl,λh=>by omega⟩
  exact⟨_,rfl,λh=>by omega,λh=>by omega,λ_=>rfl⟩
 refine KK (λr=>(r=.inl ()/\ ¬W8 c e)\/∃b,r=.inr b/\b=Ue (W8 c e)) ?_ (by rintro r (⟨rfl,h⟩|⟨b,rfl,rfl⟩)<;>simp_all);refine Kg 3 _ (λk s=>s=(k:Int)/\(0<k->c.1=e.1)/\(1<k->c.2.1=e.2.1)/\(2<k->c.2.2.1=e.2.2.1)) ?_ ?_ _ (by simp)
 .rintro k _ a ⟨rfl,j,l,o⟩;have⟨x,g,p⟩:=f c k a;have⟨y,i,t⟩:=f e k a;rw[Zi (show (k:Int)<3 by omega)];simp only[Kz a,Za,g,i];by_cases d:x=y
  .left;rw[Zi d];refine⟨((k+1:Nat)),by simp[ZU a (by omega)],rfl,?_⟩;omega
  right;rw[Zm d];refine⟨_,rfl,.inr ⟨_,rfl,?_⟩⟩;have:x<y↔W8 c e:=by unfold W8;omega
  simp[this]
 rintro _ ⟨rfl,j,l,o⟩;refine⟨_,rfl,.inl ⟨rfl,?_⟩⟩;unfold W8;omega
theorem Ztj(c e:Ja):F173 c e=Ua (Ue (c.2.2.2.1<e.2.2.2.1\/(c.2.2.2.1=e.2.2.2.1/\c.2.2.2.2.1<e.2.2.2.2.1))):=by unfold F173;grind
def Gg(C:V Ja)(c:Ja):Prop:= ∀e∈C,Wa e c->KU e c
open Classical in
theorem ZuF{C:V Ja}(j:∀c∈C,Zdq c)(p:C.length<=549755813888){c:Ja}(k:Zdq c):F174 C c=Ua (Ue (¬Gg C c)):=by
 unfold F174;refine KK (λr:Unit ⊕ Bool=>(r=.inl ()/\Gg C c)\/(r=.inr Uc/\ ¬Gg C c)) ?_ (by rintro r (⟨rfl,h⟩|⟨rfl,h⟩)<;>simp[h]);refine Kg C.length _ (λi (s:Int)=>s=(i:Int)/\∀e∈C.take i,Wa e c->KU e c) ?_ ?_ _ (by simp)
 .rintro i _ b ⟨rfl,h⟩;have g:=Vh b;simp only[ZL b,Zf,ZC b,Za,Zhl (j _ g),Zhl k,Zx4];by_cases a:¬KU C[i] c/\Wa C[i] c
  .right;rw[Zi a];exact⟨_,rfl,.inr ⟨rfl,λo=>a.1 (o _ g a.2)⟩⟩
  left;rw[Zm a];refine⟨_,rfl,by rw[ZU b (by omega)],λe d=>?_⟩;rw[Va b,Ve,Vd]at d;obtain d|rfl:=d;.exact h e d
  intro f;exact Classical.byContradiction λl=>a ⟨l,f⟩
 rintro _ ⟨rfl,h⟩;rw[Vu]at h;exact⟨.inl (),by simp only[JJ,Ze],.inl ⟨rfl,h⟩⟩
theorem Zn8{a b c}(h:W8 a b)(k:W8 b c):W8 a c:=by unfold W8 at*;omega
theorem YE.refl c:YE c c:=.inr ⟨rfl,Int.le_refl _⟩
theorem Zof{α:Type}{l:V α}{k x y}:y∈l.take k++[x]++l.drop k↔y∈l\/y=x:=by
 have:y∈l↔y∈l.take k\/y∈l.drop k:=by rw[<-Ve,Vk]
 grind
structure Ga (C:V Ja) (i:Nat) (O:V Ja):Prop where
 srt:O.Pairwise W8
 snd:∀o∈O,o∈C/\Gg C o
 cov:∀c∈C.take i,Gg C c->∃o∈O,KU o c/\YE o c
 len:O.length<=i
theorem Ga.skip{C i O}(h:Ga C i O) b(e:Gg C C[i]->∃o∈O,KU o C[i]/\YE o C[i]):Ga C (i+1) O:=by
 refine⟨h.srt,h.snd,λc a d=>?_,by have:=h.len;omega⟩;rw[Va b,Ve,Vd]at a;obtain a|rfl:=a;.exact h.cov c a d
 grind
theorem Ga.put{C i O}(h:Ga C i O) A(E:Gg C C[i]){k} D(z:KU O[k] C[i])(d:C[i].2.2.2.1<O[k].2.2.2.1\/(C[i].2.2.2.1=O[k].2.2.2.1/\C[i].2.2.2.2.1<O[k].2.2.2.2.1)):Ga C (i+1) (O.set k C[i]):=by
 have e:C[i]∈O.set k C[i]:=Vq.2 (by grind);refine⟨?_,λo f=>?_,λc d l=>?_,by rw[Vy];have:=h.len;omega⟩
 .refine Vb.2 λa b s t g=>?_;rw[Vy]at s t;have v:=Vb.1 h.srt a b s t g;rw[Vv,Vv];unfold KU at z;by_cases r:k=a
  .subst r;rw[Zn rfl,Zg (by omega)];unfold W8 at v⊢;omega
  rw[Zg r];by_cases y:k=b;.subst y;rw[Zn rfl];unfold W8 at v⊢;omega
  grind
 .obtain f|rfl:=List.mem_or_eq_of_mem_set f
  .exact h.snd o f
  grind
 rw[Va A,Ve,Vd]at d;obtain d|rfl:=d
 .have⟨o,f,w,x⟩:=h.cov c d l;obtain⟨j,B,rfl⟩:=Vc f;by_cases p:k=j
  .subst p;refine⟨C[i],e,?_,?_⟩
   .unfold KU at*;omega
   unfold YE at*;omega
  exact⟨O[j],Vq.2 (by grind),w,x⟩
 exact⟨_,e,⟨rfl,rfl,rfl⟩,YE.refl _⟩
theorem Ga.ins{C i O}(h:Ga C i O) f(p:Gg C C[i]){k}(j:∀o∈O.take k,W8 o C[i])(l:∀o∈O.drop k,W8 C[i] o):Ga C (i+1) (O.take k++[C[i]]++O.drop k):=by
 have d:=h.srt;rw[<-Vk k O,List.pairwise_append]at d;refine⟨?_,λo a=>?_,λc b e=>?_,?_⟩;.grind
 .obtain a|rfl:=Zof.1 a
  .exact h.snd o a
  grind
 .rw[Va f,Ve,Vd]at b;obtain b|rfl:=b
  .have⟨o,a,g⟩:=h.cov c b e;exact⟨o,Zof.2 (.inl a),g⟩
  exact⟨_,by simp,⟨rfl,rfl,rfl⟩,YE.refl _⟩
 have:=h.len;grind
open Classical in
theorem ZxI{C:V Ja}(B:∀c∈C,Zdq c)(hl:C.length<=549755813000):∃P,F171 C=Ua P/\Ga C C.length P:=by
 have a3:(Zt:Nat)=549755813888:=rfl;unfold F171;refine Zif (λP=>Ga C C.length P) ?_ λP h=>⟨P,rfl,h⟩;refine Kg C.length _ (λi (s:V Ja×Int)=>s.2=(i:Int)/\Ga C i s.1) ?_ ?_ _ ⟨rfl,List.Pairwise.nil,by simp,by simp,Vw _⟩
 .rintro i ⟨O,_⟩ l ⟨rfl,g⟩;left;simp only at g;have Q:=Vh l;have a0:O.length<=C.length:=by have:=g.len;omega
  have hw:=ZU l (show C.length<=9223372036854775807 by omega);simp only[ZL l,Zf,ZC l,Za,ZuF B (by omega) (B _ Q),hw];by_cases y:Gg C C[i];case neg=>
   rw[Zi (p:= ¬Gg C C[i]) y];exact⟨_,rfl,rfl,g.skip l λh=>absurd h y⟩
  rw[Zm (p:= ¬Gg C C[i]) λh=>h y];simp only[Ze];have z:=Zhl (B _ Q);have A:∀j (E:j<O.length),F172 O[j]=Ua (Yf O[j]):=λj E=>Zhl (B _ (g.snd _ (Vh E)).1);refine Gn (λr:Int=>∃k:Nat,r=(k:Int)/\k<=O.length/\(∀o∈O.take k,W8 o C[i])/\∀d:k<O.length,¬W8 O[k] C[i]) ?_ ?_
  .refine Kg O.length _ (λk (s:Int)=>s=(k:Int)/\∀o∈O.take k,W8 o C[i]) ?_ ?_ _ (by simp)
   .rintro k _ d ⟨rfl,D⟩;have w:O[k]? =Ua O[k]:=Vi d;simp only[ZL d,Zf,Kz d,Za,w,A k d,z,ZsS];by_cases f:W8 O[k] C[i]
    .left;rw[Zi f];refine⟨_,rfl,by rw[ZU d (by omega)],λo t=>?_⟩;rw[Va d,Ve,Vd]at t;obtain t|rfl:=t
     .exact D o t
     exact f
    right;rw[Zm f];exact⟨_,rfl,k,rfl,by omega,D,λ_=>f⟩
   rintro _ ⟨rfl,D⟩;exact⟨_,by simp only[JJ,Ze,Za],O.length,rfl,Vw _,D,λh=>by omega⟩
  rintro _ ⟨k,rfl,d,F,H⟩;have same:∃b,(bif Ue ((k:Int)<(↑(Vf O):Int)) then
       Vn (Zo (k:Int) (Vf O)) λJ=>
       Vn O[J]? λK=>
       Vn (F172 K) λL=>
       Vn (F172 C[i]) λM=>Vn (Tr.eqEl.eqs (Tr.eqEl (Tr.Ty.int .i64)) L M) λN=>Ua N
       else Ua Ud)=Ua b/\(b=Uc->∃d:k<O.length,KU O[k] C[i])/\(b=Ud->∀d:k<O.length,¬KU O[k] C[i]):=by
   by_cases a:k<O.length;.have w:O[k]? =Ua O[k]:=Vi a;simp only[ZL a,Zf,Kz a,Za,w,A k a,z];rw[ZdT (Yf O[k]) (Yf C[i]) rfl];refine⟨_,rfl,λh=>⟨a,Zhk.1 (Xw h)⟩,λh _ he=>of_decide_eq_false h (Zhk.2 he)⟩
   rw[Zm (by omega)];exact⟨Ud,rfl,λh=>(by cases h),λ_ h=>absurd h a⟩
  obtain⟨b,S,T,U⟩:=same;rw[S];simp only[Za]
  cases b with
  |true=>
   obtain⟨a,R⟩:=T rfl;have w:O[k]? =Ua O[k]:=Vi a;simp only[Zf,Kz a,Za,w,Ztj];by_cases I:C[i].2.2.2.1<O[k].2.2.2.1\/(C[i].2.2.2.1=O[k].2.2.2.1/\C[i].2.2.2.2.1<O[k].2.2.2.2.1);.rw[Zi I];exact⟨_,rfl,rfl,g.put l y a R I⟩
   rw[Zm I]
   exact⟨_,rfl,rfl,g.skip l λ_=>⟨_,Vh a,R,by unfold YE;omega⟩⟩|false=>
   have s1:sliceB O.length O.length Ub (Ua (k:Int))=Ua (0,k):=by unfold sliceB;grind
   have s2:sliceB O.length O.length (Ua (k:Int)) Ub=Ua (k,O.length):=Zdd d;have h2:∀o∈O.drop k,W8 C[i] o:=by
    intro o t;obtain⟨j,E,rfl⟩:=Vc t;rw[Vx]at E;rw[List.getElem_drop];have a:k<O.length:=by omega
    have n1:=H a;have n2:=U rfl a;have v:W8 C[i] O[k]:=by unfold W8 KU at*;omega
    obtain rfl|a1:=Nat.eq_zero_or_pos j;.exact v
    exact Zn8 v (Vb.1 g.srt k (k+j) a (by omega) (by omega))
   have x:=g.ins l y F h2;have W:List.take (O.length - k) (List.drop k O)=O.drop k:=by rw[List.take_of_length_le];simp
   have f:(O.take k).length<=O.length:=by rw[List.length_take];omega
   have a2:(O.drop k).length<=O.length:=by rw[Vx];omega
   have g1:Zw (Ue (Vf ([]:V Unit)+Vf (O.take k)<=Zt))=Ua ():=by rw[Zi (by simp only[List.length_nil];omega)];rfl
   have g2:Zw (Ue (Vf ([]++O.take k)+Vf [C[i]]<=Zt))=Ua ():=by rw[Zi (by simp only[Vz,Vp];omega)];rfl
   have g3:Zw (Ue (Vf ([]++O.take k++[C[i]])+Vf (O.drop k)<=Zt))=Ua ():=by
    have e:(O.take k).length+(O.drop k).length=O.length:=by rw[<-Vr,Vk]
    rw[Zi (by rw[Vz,Vr,Vp];omega)];rfl
   simp only[Ze,s1,s2,Za,List.drop_zero,W];rw[g1];simp only[Za];rw[g2];simp only[Za];rw[g3];exact⟨_,rfl,rfl,x⟩
 rintro ⟨O,_⟩ ⟨rfl,g⟩;exact⟨O,by simp only[JJ,Ze],g⟩
variable {u:Int}
theorem Zuh(h:Zbg n q u):∃C,F169 n q u=Ua C/\C.length<=549755813000/\
 (∀c∈C,∃L t,(Wt n q L).2=0/\L.length<=100/\F134 n q (L,())=Ua (c,t,0)/\0<ZK L/\c.1<=u)/\
 ∀L c t,(Wt n q L).2=0->F134 n q (L,())=Ua (c,t,0)->0<ZK L->c.1<=u->c∈C:=by
 have a:=h.ask;have B:(Zt:Nat)=549755813888:=rfl;have H:F124 n=Ua true:=by rw[Zbc a.fit];exact congrArg Ua (by classical exact Zi a.whole)
 have b:n.2.2.2.2.2.1.1.length<=4096:=by have:=(JT a.whole.sound.fare).many;omega
 have v:=a.max;have D:=a.qnum;have⟨out,O,f⟩:=ZyM (m:=q.2.2.2.2.1.toNat) a.fit a.whole a.tin b a.qb h.nback (by omega) (by omega);unfold F169;rw[O];simp only[Za];refine Zif (λC=>C.length<=out.length/\(∀c∈C,∃y∈out,∃t,F134 n q y=Ua (c,t,0)/\0<ZK y.1/\c.1<=u)/\∀y∈out,∀c t,F134 n q y=Ua (c,t,0)->0<ZK y.1->c.1<=u->c∈C) ?_ (λC ⟨g,d,c3⟩=>⟨C,rfl,Nat.le_trans g f.size,λc w=>?_,λL c t hL o p r=>?_⟩)
 rotate_left
 .have⟨y,K,t,o,p,r⟩:=d c w;have⟨M,N⟩:=f.good y K;grind
 .exact c3 _ (ZrT a.whole h.nback (by omega) f hL) c t o p r
 have E:=f.size;refine Kg out.length _ (λi (s:V Ja×Int)=>s.2=(i:Int)/\s.1.length<=i/\(∀c∈s.1,∃y∈out,∃t,F134 n q y=Ua (c,t,0)/\0<ZK y.1/\c.1<=u)/\∀y∈out.take i,∀c t,F134 n q y=Ua (c,t,0)->0<ZK y.1->c.1<=u->c∈s.1) ?_ ?_ _ ⟨rfl,Vw _,by simp,by simp⟩
 .rintro i ⟨C,_⟩ e ⟨rfl,g,d,c3⟩;left;simp only at g d c3;have A:=Vh e;have F:∀y,y∈out.take (i+1)↔y∈out.take i\/y=out[i]:=λy=>by rw[Va e,Ve,Vd]
  have⟨M,N⟩:=f.good _ A;have I:idx out (i:Int)=Ua out[i]:=ZC e;generalize out[i]=y at*;have⟨L,⟨⟩⟩:=y;have⟨x,j,J⟩:=ZiI a.whole.sound H b q L (by grind);simp only[ZL e,Zf,I,Za,j,Zyh L (by grind),ZU e (by omega)];have skip:(∀t,¬(x=(x.1,t,0)/\0<ZK L/\x.1.1<=u))->∀y∈out.take (i+1),∀c t,F134 n q y=Ua (c,t,0)->0<ZK y.1->c.1<=u->c∈C:=by grind
  by_cases e0:x.2.2=0;case neg=>
   rw[Zm e0];exact⟨_,rfl,rfl,by grind,d,by grind⟩
  rw[Zi e0];by_cases k:(0:Int)<(ZK L:Int);case neg=>
   rw[Zm k];exact⟨_,rfl,rfl,by grind,d,by grind⟩
  rw[Zi k];by_cases l:x.1.1<=u;case neg=>
   rw[Zm l];exact⟨_,rfl,rfl,by grind,d,by grind⟩
  rw[Zi l];simp only[Zf,Za];have z:Zw (Ue (C.length+ [x.1].length<=Zt))=Ua ():=by rw[Zi (by grind)];rfl
  rw[z];refine⟨_,rfl,rfl,by grind,by grind,by grind⟩;all_goals grind
 grind
theorem Zuf(h:Zbg n q u){L}{c:Ja}{t:V (Int×Int×Int×Int×Unit)}(B:(Wt n q L).2=0)(hL:L.length<=100)(a:F134 n q (L,())=Ua (c,t,0))(D:0<ZK L):
 ∃d l,q.2.2.1<=d/\Dg n q d/\HD n q d l/\(∃i c,i<(mA n q).2.2.1.length/\c<(Zj (mA n q) i).length/\∃w∈Kv (mA n q) q,(Zc (mA n q) i c).1=w.1/\(Zc (mA n q) i c).2.2.1 - w.2.1=d)/\F52 (mA n q) q (l.2.2.2.2.2.1,())=Ua (c,t,0)/\c.1=d:=by
 have k:=h.ask;have⟨d,l,A,p,o,v,z⟩:=Zu7 k h.nback h.nch (by omega) D B;have y:=p.cx.li o.rc;have GX:=Zpg p.cx o.rc;have b:L.length<=40:=by grind
 have j:∀x∈L,D3 x:=λx I=>y.lok x (by grind);have⟨F,r,g,C⟩:=ZiJ n q (L,()) k.fit b j;rw[a]at g;have e:=Kx g;have f:F52 (mA n q) q (l.2.2.2.2.2.1,())=Ua (c,t,0):=by rw[v,Zmu k.fit k.whole q q rfl (by omega),r,e]
 refine⟨d,l,A,p,o,z,f,?_⟩;obtain⟨s,J,_,E⟩|⟨_,H,E⟩:=ZgJ p o;all_goals grind
theorem Zqg{α:Type}{lt}(irr:∀x,¬lt x x)(g:∀x y z,lt x y->lt y z->lt x z):∀{l m:V α},l.Pairwise lt->m.Pairwise lt->(∀x,x∈l↔x∈m)->l=m
 |[],[],_,_,_=>rfl|[],y::m,_,_,h=>absurd ((h y).2 (by simp)) (by simp)|x::l,[],_,_,h=>absurd ((h x).1 (by simp)) (by simp)|x::l,y::m,c,d,h=>by
  have⟨i,a⟩:=Vs.1 c;have⟨j,b⟩:=Vs.1 d;have f:x=y:=by
   rcases Vba.1 ((h x).1 (by simp)) with e|e;.exact e
   rcases Vba.1 ((h y).2 (by simp)) with k|k;all_goals grind
  rw[Zqg irr g a b (by grind)];all_goals grind
theorem Znu{R}(h:H7 R){x y}(e:x∈R)(f:y∈R)(b:Wa x.2.1 y.2.1):x=y:=by
 obtain⟨i,c,rfl⟩:=Vc e;obtain⟨j,d,rfl⟩:=Vc f;obtain a|rfl|a:=Vt i j;.exact absurd b (Vb.1 h i j c d a).1
 .rfl
 exact absurd b (Vb.1 h j i d c a).2
theorem Zmv{c e}(h:KU c e)(a:YE c e)(b:YE e c):c=e:=by have⟨d,f,c3,g,i,⟨⟩⟩:=c;have⟨j,k,l,o,p,⟨⟩⟩:=e;have⟨r,s,t⟩:=h;unfold YE at a b;grind
theorem ZzP{c e}(h:KU c e):Wa c e:=by unfold KU Wa at*;omega
theorem KU.sym{c e}(h:KU c e):KU e c:=by unfold KU at*;omega
theorem Zz3{R C P}(I:H7 R)(O:R.Pairwise GA)(A:∀x∈R,x.2.1∈C)(B:∀c∈C,∃x∈R,WX x.2.1 c)(b:Ga C C.length P):R.map (λx=>x.2.1)=P:=by
 have a:=b.cov;rw[Vu]at a;have l:∀p∈P,∀c∈C,KU p c->YE p c:=λp w c g z=>by
  have Q:Gg C c:=λe D k=>by have:=(b.snd p w).2 e D (by unfold KU Wa at*;omega);unfold KU at*;omega
  have⟨o,N,v,H⟩:=a c g Q;have:o=p:=by
   obtain⟨i,J,rfl⟩:=Vc N;obtain⟨j,K,rfl⟩:=Vc w;obtain d|rfl|d:=Vt i j;.have:=Vb.1 b.srt i j J K d;unfold W8 KU at*;omega
   .rfl
   have:=Vb.1 b.srt j i K J d;unfold W8 KU at*;omega
  grind
 refine Zqg (lt:=W8) (λx=>by unfold W8;omega) (λ_ _ _=>Zn8) (List.pairwise_map.2 O) b.srt λc=>⟨λg=>?_,λg=>?_⟩
 .obtain⟨x,h,rfl⟩:=Vo.1 g;have E:Gg C x.2.1:=λe D k=>by have⟨y,F,s⟩:=B e D;have f:=Znu I F h (s.1.trans k);subst f;have:=s.1;unfold Wa KU at*;omega
  have⟨p,w,v,H⟩:=a _ (A x h) E;have⟨y,F,t⟩:=B p (b.snd p w).1;have f:=Znu I F h (t.1.trans (ZzP v));subst f;rw[<-Zmv v H (t.2 v.sym)];omega
 have⟨L,M⟩:=b.snd c g;have⟨x,h,r⟩:=B c L;have z:=M _ (A x h) r.1;have:=Zmv z (r.2 z) (l c g _ (A x h) z.sym);grind
theorem Zz2(n:Zh)(hn:Y0 Zd n)(q:Zp)(u:Int):F58 n q u=Ua true:=by
 unfold F58;have⟨b,f,g⟩:=ZyN hn q;rw[f]
 cases b with
 |false=>rfl|true=>
  have⟨T,i,j⟩:=g rfl;simp only[Za,Vl,Ze];have⟨e,v,w⟩:=Zx5 T i j u;rw[v];simp only[Za];by_cases p:e=0;case neg=>
   rw[Zm p];rfl
  have a:=w p;rw[Zi p];simp only[Vl,Ze];have⟨R,r1,r2,r3,r4,⟨ds,I⟩,r6⟩:=Zz4 a;have⟨C,J,K,c3,M⟩:=Zuh a;have hB:∀c∈C,Zdq c/\∃x∈R,WX x.2.1 c:=λc U=>by have⟨L,t,k1,k2,k3,k4,k5⟩:=c3 c U;obtain⟨d,l,E,D,A,W,o,rfl⟩:=Zuf a k1 k2 k3 k4;exact⟨D.mom,by grind⟩
  have Q:∀x∈R,x.2.1∈C:=λx H=>by have⟨g1,N,O,g4⟩:=Zxg a (I x H);have⟨d,l,A,_,⟨E,h1⟩,e1,_,h2,h3,_⟩:=I x H;have D:=a.at E (by have:=a.until_;omega);refine M x.1.1 x.2.1 x.2.2.1 N O ?_ (by grind);have:=Zj9 D A.rc;have hp:=A.rides;grind
  have⟨P,p1,p2⟩:=ZxI (by grind) K;have S:=Zz3 r3 r4 Q (by grind) p2;have F:R.length=P.length:=by grind
  rw[r1,J];simp only[Za,p1,decide_true,Vl,Ze];rw[Zi (by omega)];simp only[Vl,Ze];refine KK (λr=>r=.inl ()) ?_ (λr h=>by rw[h];rfl);refine Kg R.length _ (λk (s:Int)=>s=(k:Int)) ?_ ?_ _ rfl
  .rintro k _ y rfl;left;refine⟨_,?_,rfl⟩;have z:k<P.length:=by omega
   have B:P[k]=(R[k]).2.1:=by grind
   simp only[ZL y,Zf,ZC y,ZC z,B,Za,decide_true,Bool.and_self,Vl,Ze,ZU y (by omega)]
  simp
theorem windowP x(h:Zdo F58A x):F58 x.1 x.2.1 x.2.2.1=Ua true:=Zz2 _ h.1 _ _
end Q
