/- profile's finder: next computes its list. Conditions: a valid and small network, valid fares, at most 3 rides. -/
import Derived.Test.YtdpenljjnfmgiaaGreatJLxFiltP
import Derived.Test.YtdpenljjnfmgiaaGreatDep45
open Bool renaming not_true ->Vq,and_eq_true ->Vz,not_false ->Vla,not_eq_true' ->Vya
open Int renaming toNat_natCast ->Vm,le_refl ->Vr,le_trans ->Vda,toNat ->Via
open Go.IntKind renaming wrap ->Vg
open List renaming mem_flatMap ->Vb,getElem?_eq_getElem ->Vc,range ->Vd,length ->Ve,take_succ_eq_append_getElem ->Vf,map_cons ->Vh,getElem_mem ->Vi,sum_cons ->Vj,mem_singleton ->Vk,mem_range ->Vl,replicate ->Vn,mem_append ->Vo,length_append ->Vp,length_filter_le ->Vs,map_append ->Vt,mem_cons ->Vu,mem_filter ->Vw,mem_of_getElem? ->Vx,mem_cons_of_mem ->Vy,getElem_of_mem ->Vaa,mem_map ->Vca,length_cons ->Vea,any_eq_true ->Vfa,mem_append_right ->Vga,getElem?_of_mem ->Vha,length_map ->Vja,length_pos_iff ->Vka,filter_append ->Vma,pairwise_iff_getElem ->Vna,eq_of_mem_replicate ->Voa,getElem_set ->Vpa,filter_cons_of_pos ->Vqa,sum_append ->Vra,append_nil ->Vsa,length_singleton ->Vta,mem_iff_getElem ->Vua,map_singleton ->Vva,sum_singleton ->Vwa,pairwise_map ->Vxa,drop ->Vza,nodup_range ->Vab,filter_cons ->Vbb,take_length ->Vcb,cons_append ->Vdb,length_set ->Veb,head?_drop ->Vfb,drop_drop ->Vhb,take ->Vib
open Nat renaming le_refl ->Vv,le_trans ->Vba,add_le_add ->Vgb
open Option renaming bind ->Va
open Prod.mk renaming inj ->Vjb
open Option renaming some ->Ua,none ->Ub
open Bool renaming true ->Uc,false ->Ud
open Decidable renaming decide ->Ue
namespace Q
open Tr Go
variable {F:ZR}{hF:FO F}{n:Zc}{q:Zl}
def Dj(y:ZZ)(p:Kl):ZZ:=(p.2.1,y.2.1+p.2.2.1,y.2.1+p.2.2.1,y.2.2.2.1,y.2.2.2.2.1+p.2.2.1,Ud,y.2.2.2.2.2.2.1,y.2.2.2.2.2.2.2.1++[KA y.1 p.2.1 y.2.1 (y.2.1+p.2.2.1)],())
def GR(q:Zl)(y:ZZ)(p:Kl):Prop:=p.1=y.1/\y.2.2.2.2.1+p.2.2.1<=q.2.2.2.2.2.1/\y.2.1+p.2.2.1<=3155932800
instance (q:Zl) (y:ZZ) (p:Kl):Decidable (GR q y p):=by unfold GR;infer_instance
def Za4(n:Zc)(q:Zl)(y:ZZ):List ZZ:=n.2.2.2.2.1.flatMap λp=>if GR q y p then [Dj y p] else []
def ZcM(n:Zc)(y:ZZ)(i c:Nat):Prop:=(Zf n i c).1=y.1/\(Zf n i c).2.2.2.1=Uc/\y.2.2.1<=(Zf n i c).2.2.1
instance (n:Zc) (y:ZZ) (i c:Nat):Decidable (ZcM n y i c):=by unfold ZcM;infer_instance
noncomputable def Da(n:Zc)(q:Zl)(y:ZZ):List ZZ:=(Vd n.2.2.1.length).flatMap λi=>(Vd (Zp n i).length).flatMap λc=>if ZcM n y i c then YQ n q 100 y i c else []
noncomputable def Xp(n:Zc)(q:Zl)(y:ZZ):List ZZ:=Da n q y++if y.2.2.2.2.2.1=Uc then Za4 n q y else []
structure YG (F:ZR) (hF:FO F) (n:Zc) (q:Zl) (y:ZZ):Prop where
 ok:W6 F hF n y
 cnt:((Z7 y.2.2.2.2.2.2.1).length:Int)=y.2.2.2.1
 rides:y.2.2.2.1<=q.2.2.2.2.1
 walk:0<=y.2.2.2.2.1/\y.2.2.2.2.1<=86400
 time:0<=y.2.1/\y.2.1<=4000000000
 legs:y.2.2.2.2.2.2.2.1.length<=200
theorem YG.pb{y:ZZ}(h:YG F hF n q y)(a:y.2.2.2.1<q.2.2.2.2.1):PB F hF q (Ji y):=by have b:=h.cnt;have c:=h.walk;exact⟨⟨h.ok.fare,h.ok.rok⟩,by show ((Z7 y.2.2.2.2.2.2.1).length:Int)+1=y.2.2.2.1+1;omega,by assumption,by show 0<=y.2.2.2.2.1/\y.2.2.2.2.1<=1000000;omega⟩
theorem ZgR(e:WO n)(g:q.2.2.2.2.1<=3){y:ZZ}(h:YG F hF n q y){k i c:Nat}(f:i<n.2.2.1.length)(j:c<(Zp n i).length):∀l∈YQ n q k y i c,W6 F hF n l:=by
 intro l a;unfold YQ Yp at a;split at a
 ·rename_i b;have m:=e.time f j;exact Zcf e g k _ i c Ud _ (h.pb b) f (ZbS _) ⟨by show 0<=(Zf n i c).2.2.1;omega,by show (Zf n i c).2.2.1<=_;omega⟩ l a
 grind
theorem Zji(a:WO n){y:ZZ}(h:YG F hF n q y){p:Kl}(b:p∈n.2.2.2.2.1):W6 F hF n (Dj y p):=⟨h.ok.fare,h.ok.rok,(a.path p b).2.1⟩
theorem ZuI(b:WO n)(g:q.2.2.2.2.1<=3){y:ZZ}(h:YG F hF n q y):(∀l∈Da n q y,W6 F hF n l)/\∀l∈Xp n q y,W6 F hF n l:=by
 have k:∀l∈Da n q y,W6 F hF n l:=by
  intro l a;unfold Da at a;obtain⟨i,f,a⟩:=Vb.1 a;obtain⟨c,e,a⟩:=Vb.1 a;rw[Vl]at f e;split at a
  ·exact ZgR b g h f e l a
  grind
 refine⟨k,λl a=>?_⟩;unfold Xp at a;rw[Vo]at a;rcases a with a|a
 ·grind
 ·split at a
  ·unfold Za4 at a;obtain⟨p,j,a⟩:=Vb.1 a;split at a
   ·rw[Vk]at a;subst a;exact Zji b h j
   grind
  grind
theorem Znc(A:Whole n)(J:WW n)(H:q.2.2.2.2.1<=3){y:ZZ}(v:YG F hF n q y)(can:Nat->Nat->Prop)[∀i c,Decidable (can i c)](cond:Wy->Option Bool)(f:∀i c,i<n.2.2.1.length->c<(Zp n i).length->cond (Zf n i c)=Ua (Ue (can i c)))
 {x:FX}{N:Nat} (Q:Xu F hF n q x N) (R:N+((Vd n.2.2.1.length).flatMap λi=>(Vd (Zp n i).length).flatMap λc=>if can i c then YQ n q 100 y i c else []).length<=549755813888):
 ∃r,run (λs0:FX×Int=>
  bif Ue (s0.2<(↑(Ve n.2.2.1):Int)) then
  Va (idx n.2.2.1 s0.2) λO=>
  Va
  (run (λa:FX×Int=>
  bif Ue (a.2<(↑(Ve O.2.2.2.2.2.2.2.1):Int)) then
  Va (idx O.2.2.2.2.2.2.2.1 a.2) λD=>
  Va (cond D)
  λE=>
  bif E then Va (F98 a.1 (Ua y) s0.2 a.2) λG=>Ua (.inl (G,Vg .i64 (a.2+(1:Int))))
  else Ua (.inl (a.1,Vg .i64 (a.2+(1:Int))))
  else Ua (.inr a.1)) (s0.1,(0:Int)))
  λC=>Ua (.inl (C,Vg .i64 (s0.2+(1:Int))))
  else Ua (.inr s0.1)) (x,(0:Int))=Ua r/\Wc F x ((Vd n.2.2.1.length).flatMap λi=>(Vd (Zp n i).length).flatMap λc=>if can i c then YQ n q 100 y i c else []) r:=by
 have I:=A.ok;have W:=A.u;have lab:∀i,i<n.2.2.1.length->∀c,c<(Zp n i).length->∀l∈(if can i c then YQ n q 100 y i c else []),W6 F hF n l:=by
  intro i e c j l K;split at K
  ·exact ZgR I H v e j l K
  grind
 refine Zb8 (F:=F) (hF:=hF) (n:=n) (q:=q) (λk x=>(x,(k:Int))) (λx=>x) Q ?_ R ?_ ?_
 ·grind
 ·intro i s M e w z;simp only[ZV e,Zd,ZaA e,Za,Z8 e (by omega)];have V:=J.calls i e;have key:=Zb8 (F:=F) (hF:=hF) (n:=n) (q:=q) (m:=(Zp n i).length) (g:=λc=>if can i c then YQ n q 100 y i c else []) (x:=s) (N:=M) (λk x=>(x,(k:Int))) (λx=>x)
   (step:=λa:FX×Int=>
   bif Ue (a.2<(↑(Ve (rn n (i:Int)).2.2.2.2.2.2.2.1):Int)) then
   Va (idx (rn n (i:Int)).2.2.2.2.2.2.2.1 a.2) λD=>
   Va (cond D)
   λE=>
   bif E then Va (F98 a.1 (Ua y) (i:Int) a.2) λG=>Ua (.inl (G,Vg .i64 (a.2+(1:Int))))
   else Ua (.inl (a.1,Vg .i64 (a.2+(1:Int))))
   else Ua (.inr a.1)) w (by grind) z (by
    intro c t P j o p;have h:Ue ((c:Int)<(↑(Ve (rn n (i:Int)).2.2.2.2.2.2.2.1):Int))=true:=Zi (by show (c:Int)<((Zp n i).length:Int);omega);simp only[h,Zd,Zaz j,Za,f i c e j,Z8 j (by omega)];by_cases b:can i c
    ·rw[Zn b]at p⊢;rw[Zi b,Zd];obtain⟨r,S,T⟩:=Zke I (Zou A J H 100) o (y:=y) v.pb (by have:=v.legs;omega) (by omega) e j (λh=>by unfold HP;have U:K8 q (Ji y)=(q.2.2.2.2.1 - (y.2.2.2.1+1)).toNat:=rfl;have:=ZaW (n:=n) i;have:=v.cnt;omega) p
     have B:F98 t (Ua y) (i:Int) (c:Int)=Ua r:=S;rw[B];exact⟨r,rfl,T⟩
    ·rw[Zg b,Zt b,Ze];exact⟨t,rfl,Wc.nil t⟩) (by
    intro t P o;have h:Ue (((Zp n i).length:Int)<(↑(Ve (rn n (i:Int)).2.2.2.2.2.2.2.1):Int))=false:=Zt (by show¬((Zp n i).length:Int)<((Zp n i).length:Int);omega);grind)
  grind
 simp
theorem ZuM(T:Whole n)(S:WW n)(Q:q.2.2.2.2.1<=3)(_:q.2.2.2.2.2.1<=86400){y:ZZ}(t:YG F hF n q y){x:FX}{N:Nat}(E:Xu F hF n q x N)(X:N+(Xp n q y).length<=549755813888):
 ∃b,F106 x (Ua y)=Ua b/\Wc F x (Xp n q y) b:=by
 have C:=T.ok;have e:=X;unfold Xp at e⊢;rw[Vp]at e;obtain⟨O,V,W⟩:=Znc T S Q t (λi c=>ZcM n y i c) (λP=>bif Ue (P.1=y.1) then bif P.2.2.2.1 then Ua (Ue (y.2.2.1<=P.2.2.1)) else Ua Ud else Ua Ud) (by
  intro i c f hc;by_cases j:(Zf n i c).1=y.1
  ·rw[Zi j,Zd]
   cases v:(Zf n i c).2.2.2.1 with
   |true=>rw[Zd];congr 1;exact decide_eq_decide.2 ⟨λh=>⟨j,v,h⟩,λh=>h.2.2⟩
   |false=>rw[Ze];congr 1;rw[Zt];intro h;rw[h.2.1]at v;grind
  ·rw[Zt j,Ze];congr 1;rw[Zt];intro h;exact j h.1) E (by unfold Da at e;omega)
 have R:Wc F x (Da n q y) O:=W;unfold F106;simp only[Za,E.net];rw[V];simp only[Za];have w:=E.adds (ZuI C Q t).1 R
 cases J:y.2.2.2.2.2.1 with
 |false=>
  grind
 |true=>
  rw[J,Zn rfl]at e;rw[Zn rfl];simp only[Vq,Ze,w.net];have D:n.2.2.2.2.1.length<=60:=S.paths;unfold Za4 at e⊢;rw[ZeZ]at e⊢;have I:∀o:Option FX,(∃b,o=Ua b/\Wc F O ((Vd n.2.2.2.2.1.length).flatMap λi=>(n.2.2.2.2.1[i]?).elim [] λp=>if GR q y p then [Dj y p] else []) b)->∃b,(Va o λx=>Ua x)=Ua b/\Wc F x (Da n q y++(Vd n.2.2.2.2.1.length).flatMap λi=>(n.2.2.2.2.1[i]?).elim [] λp=>if GR q y p then [Dj y p] else []) b:=λo ⟨b,j,v⟩=>⟨b,by grind,R.trans v⟩;refine I _ (Zb8 (F:=F) (hF:=hF) (n:=n) (q:=q) (m:=n.2.2.2.2.1.length) (g:=λi=>(n.2.2.2.2.1[i]?).elim [] λp=>if GR q y p then [Dj y p] else []) (x:=O) (N:=N+(Da n q y).length) (λk x=>(x,(k:Int))) (λx=>x) w (by
   intro i f l U;rw[Vc f]at U;have r:l∈(if GR q y n.2.2.2.2.1[i] then [Dj y n.2.2.2.2.1[i]] else []):=U;split at r
   ·rw[Vk]at r;subst r;exact Zji C t (Vi f)
   grind) (by omega) (by
   intro i s M f z A;rw[Vc f]at A⊢;have B:M+(if GR q y n.2.2.2.2.1[i] then [Dj y n.2.2.2.2.1[i]] else []).length<=549755813888:=A;show∃b,_/\Wc F s (if GR q y n.2.2.2.2.1[i] then [Dj y n.2.2.2.2.1[i]] else []) b;have hp:=C.path _ (Vi f);have K:=Zji C t (Vi f);generalize H:n.2.2.2.2.1[i]=p at*;have Y:idx n.2.2.2.2.1 (i:Int)=Ua p:=by rw[ZJ f,H]
   have h4:=t.walk;have h5:=t.time;have w1:Vg .i64 (y.2.2.2.2.1+p.2.2.1)=y.2.2.2.2.1+p.2.2.1:=ZN (by omega) (by omega);have w2:Vg .i64 (y.2.1+p.2.2.1)=y.2.1+p.2.2.1:=ZN (by omega) (by omega);simp only[ZV f,Zd,Y,Za,Z8 f (by omega),z.que,w1,w2];by_cases a:GR q y p
   ·rw[Zn a]at B⊢;rw[Zi a.1,Zt (show¬q.2.2.2.2.2.1<y.2.2.2.2.1+p.2.2.1 by have:=a.2.1;omega),Zt (show¬3155932800<y.2.1+p.2.2.1 by have:=a.2.2;omega)];simp only[Vq,Ze,Za];have G:((Ud,(0:Int),(0:Int),(0:Int),y.1,p.2.1,y.2.1,y.2.1+p.2.2.1,Ud,()):Zw)=KA y.1 p.2.1 y.2.1 (y.2.1+p.2.2.1):=rfl;rw[G,Zlh _ (by have:=t.legs;omega),Za];obtain⟨b,j,v⟩:=ZlW z K (by omega);have Z:F104 s (Ua (p.2.1,y.2.1+p.2.2.1,y.2.1+p.2.2.1,y.2.2.2.1,y.2.2.2.2.1+p.2.2.1,Ud,y.2.2.2.2.2.2.1,y.2.2.2.2.2.2.2.1++[KA y.1 p.2.1 y.2.1 (y.2.1+p.2.2.1)],()))=Ua b:=j;grind
   ·rw[Zg a];have:(bif !Ue (p.1=y.1) then Ua Uc else bif Ue (q.2.2.2.2.2.1<y.2.2.2.2.1+p.2.2.1) then Ua Uc else Ua (Ue ((3155932800:Int)<y.2.1+p.2.2.1)))=Ua true:=by
     by_cases j:p.1=y.1
     ·by_cases v:q.2.2.2.2.2.1<y.2.2.2.2.1+p.2.2.1
      ·grind
      ·have k3:3155932800<y.2.1+p.2.2.1:=by
        by_cases k3:3155932800<y.2.1+p.2.2.1
        ·omega
        ·exact absurd ⟨j,by omega,by omega⟩ a
       grind
     grind
    rw[this];exact⟨s,rfl,Wc.nil s⟩) (by
   simp))
end Q
namespace Q
open Tr Go
variable {F:ZR}{hF:FO F}{n:Zc}{q:Zl}
noncomputable def wY(n:Zc)(q:Zl)(y:ZZ):Nat:=1+rW n (q.2.2.2.2.1 - y.2.2.2.1).toNat y.1+if y.2.2.2.2.2.1=Uc then((n.2.2.2.2.1.filter λp=>Ue (p.1=y.1)).map λp=>1+rW n (q.2.2.2.2.1 - y.2.2.2.1).toNat p.2.1).sum else 0
theorem ZfU{α:Type}{f g:α->Nat}:∀{l:List α},(∀x∈l,f x<=g x)->(l.map f).sum<=(l.map g).sum
 |[],_=>Vv _
 |x::l,h=>by rw[Vh,Vh,Vj,Vj];exact Vgb (by grind) (ZfU (by grind))
theorem Zoo{α:Type}(f g:α->Nat):∀l:List α,(l.map λx=>f x+g x).sum=(l.map f).sum+(l.map g).sum
 |[]=>rfl
 |x::l=>by rw[Vh,Vh,Vh,Vj,Vj,Vj,Zoo f g l];omega
theorem Zun(h:Whole n){a b:Nat}(k:a<n.2.2.2.1.length)(l:b<n.2.2.2.1.length)(e:Xd (lk n a)=Xd (lk n b)):a=b:=by
 have key:∀i,i<n.2.2.2.1.length->¬∃j,j<i/\Xd (lk n j)=Xd (lk n i):=by
  intro i f;have c:=W2.1 h.g i f;unfold W3 at c;simp only at c
  repeat (split at c; · omega)
  assumption
 grind
theorem Zi4{a:Nat}:∀{m j:Nat},j<m->KZ m (λi=>if i=j then a else 0)=a
 |0,_,h=>by omega
 |m+1,j,h=>by
  show KZ m _+(if m=j then a else 0)=a;by_cases e:m=j
  ·subst e;rw[Zn rfl,Dh (by grind)];omega
  ·rw[Zg e,Zi4 (by omega)];omega
theorem ZmY(f:Nat->Nat->Nat)(m:Nat)(len:Nat->Nat):∀P:List (Nat×Nat),P.Nodup->(∀x∈P,x.1<m/\x.2<len x.1)->(P.map λx=>f x.1 x.2).sum=KZ m λi=>KZ (len i) λb=>if (i,b)∈P then f i b else 0
 |[],_,_=>by
  symm
  exact Dh λi _=>Dh (by simp)
 |x::P,g,j=>by
  rw[List.nodup_cons]at g;obtain⟨c,k⟩:=j x (by simp);rw[Vh,Vj,ZmY f m len P g.2 (by grind)];have e:∀i b,(if (i,b)∈x::P then f i b else 0)=(if i=x.1 then(if b=x.2 then f x.1 x.2 else 0) else 0)+if (i,b)∈P then f i b else 0:=by grind
  have h:(λi=>KZ (len i) λb=>if (i,b)∈x::P then f i b else 0)=λi=>(if i=x.1 then f x.1 x.2 else 0)+KZ (len i) λb=>if (i,b)∈P then f i b else 0:=by
   funext i;rw[show (λb=>if (i,b)∈x::P then f i b else 0)=λb=>(if i=x.1 then(if b=x.2 then f x.1 x.2 else 0) else 0)+if (i,b)∈P then f i b else 0 from funext (e i),R8];congr 1;by_cases a:i=x.1
   ·rw[Zn a];simp only[Zn a];exact Zi4 (by grind)
   ·rw[Zg a];simp only[Zg a];exact Dh (by omega)
  rw[h,R8,Zi4 c]
theorem Zup(w:Whole n){i c:Nat}(l:Nat):((W4 n i).map λk=>if (lk n k).2.1=(c:Int)/\(lk n k).2.2.2.2.1=Ud then bw n l (lk n k).2.2.1.toNat (lk n k).2.2.2.1.toNat else 0).sum<=rW n l (Zf n i c).1:=by
 have C:=w.ok;have g:∀L:List Nat,(L.map λk=>if (lk n k).2.1=(c:Int)/\(lk n k).2.2.2.2.1=Ud then bw n l (lk n k).2.2.1.toNat (lk n k).2.2.2.1.toNat else 0).sum=
  (((L.filter λk=>Ue ((lk n k).2.1=(c:Int)/\(lk n k).2.2.2.2.1=Ud)).map λk=>((lk n k).2.2.1.toNat,(lk n k).2.2.2.1.toNat)).map λx=>bw n l x.1 x.2).sum:=by
  intro L
  induction L with
  |nil=>rfl
  |cons k L P=>
   grind
 rw[g];have f:∀k∈(W4 n i).filter (λk=>Ue ((lk n k).2.1=(c:Int)/\(lk n k).2.2.2.2.1=Ud)),∃j d:Nat,lk n k=((i:Int),(c:Int),(j:Int),(d:Int),Ud,())/\j<n.2.2.1.length/\d<(Zp n j).length/\(Zf n i c).1=(Zf n j d).1/\k<n.2.2.2.1.length:=by
  intro k J;obtain⟨h,H⟩:=Vw.1 J;obtain⟨t,v⟩:=Xy H;obtain⟨s,j,d,st,e,I,_,G,p,K,_⟩:=ZaM C h;rw[e]at t v;have B:((s:Nat):Int)=(c:Int):=t;have m:st=false:=v;have:s=c:=by omega
  subst this;subst m;exact⟨j,d,e,I,p,K,(Zde h).1⟩
 rw[ZmY (bw n l) n.2.2.1.length (λi=>(Zp n i).length)]
 ·unfold rW;refine GJ λj _=>GJ λd _=>?_;grind
 ·have r:((W4 n i).filter λk=>Ue ((lk n k).2.1=(c:Int)/\(lk n k).2.2.2.2.1=Ud)).Pairwise (· ≠ ·):=(Vab.filter _).filter _;refine Vxa.2 (r.imp_of_mem ?_);intro a b D E o y;obtain⟨j,d,z,_,_,_,M⟩:=f a D;obtain⟨Q,O,A,_,_,_,N⟩:=f b E;rw[z,A]at y;simp only[Vm,Prod.mk.injEq]at y;refine o (Zun w M N ?_);grind
 grind
end Q
namespace Q
open Tr Go
variable {F:ZR}{hF:FO F}{n:Zc}{q:Zl}
theorem ZmL{P:Nat->Prop}[DecidablePred P]{a:Nat}:∀{l:List Nat},l.Pairwise (· ≠ ·)->(∀x∈l,∀y∈l,P x->P y->x=y)->(l.map λx=>if P x then a else 0).sum<=a
 |[],_,_=>Nat.zero_le _
 |x::l,b,h=>by
  rw[List.pairwise_cons]at b;rw[Vh,Vj];by_cases e:P x
  ·have j:(l.map λx=>if P x then a else 0).sum=0:=by
    have:∀y∈l,¬P y:=by grind
    have c:=ZfU (f:=λx=>if P x then a else 0) (g:=λ_=>0) (l:=l) (by grind);have i:∀l:List Nat,(l.map λ_=>0).sum=0:=by
     intro l
     induction l with
     |nil=>rfl
     |cons _ l k=>grind
    grind
   grind
  ·rw[Zg e,Nat.zero_add];exact ZmL b.2 (by grind)
theorem Zi9(h:Whole n)(s:WW n):∀(K:Nat) (p:Zx) (i b:Nat) (st:Bool) (v:ZF),i<n.2.2.1.length->((WT n q K p i b st v).map (wY n q)).sum<=KZ ((Zp n i).length - (b+1)) λk=>Zcj n (K8 q p) i (b+1+k)
 |0,p,i,b,st,v,_=>by unfold WT;simp
 |K+1,p,i,b,st,v,hi=>by
  have Q:=h.ok;unfold WT;split
  ·simp
  rw[ZfS];refine GJ λm hm=>?_;have hc:b+1+m<(Zp n i).length:=by omega
  generalize Y:b+1+m=c at*;generalize I:K8 q p=a;unfold GC;have r:(ZH n p i b c st v).1.2.2.1.toNat=i:=rfl;rw[r,Vt,Vra,ZfT];have S:((Yh n (ZH n p i b c st v)).map (wY n q)).sum<=1+rW n a (Zf n i c).1+((n.2.2.2.2.1.filter λp=>Ue (p.1=(Zf n i c).1)).map λp=>1+rW n a p.2.1).sum:=by
   unfold Yh;split
   ·rw[<-I];rw[Vva,Vwa];unfold wY;have V:(Kj n (ZH n p i b c st v)).2.2.2.2.2.1=true:=rfl;rw[Zn V];exact Vv _
   simp
  have O:∀k∈W4 n i,(lk n k).2.1=(c:Int)/\(lk n k).2.2.2.2.1=Uc->c+1=(Zp n i).length:=by intro k A ⟨U,k2⟩;obtain⟨w,j,d,t,e,z,H,E,G,_,T,o⟩:=ZaM Q A;grind
  have J:∀k∈W4 n i,((Hq (WT n q K) n q (ZH n p i b c st v) (lk n k)).map (wY n q)).sum<=
   (if (lk n k).2.1=(c:Int)/\(lk n k).2.2.2.2.1=Ud then bw n a (lk n k).2.2.1.toNat (lk n k).2.2.2.1.toNat else 0)+if (lk n k).2.1=(c:Int)/\(lk n k).2.2.2.2.1=Uc then gW a* (5*WF n i) else 0:=by
   intro k A;obtain⟨w,j,d,t,e,z,H,E,G,_,T,o⟩:=ZaM Q A;unfold Hq;rw[e];simp only[Vm];have D:(ZH n p i b c st v).1.2.2.2.1=(c:Int):=rfl;rw[D];split
   ·simp
   rename_i Z;have U:(w:Int)=(c:Int):=by omega
   cases t with
   |true=>
    rw[Zn rfl,Zg (by simp),Zn ⟨U,rfl⟩,Nat.zero_add];obtain⟨_,rfl⟩:=T rfl;have B:=Zi9 h s K (ZH n p i b c st v) j 0 Uc (ZH n p i b c st v).1.2.2.2.2.1 z;have C:K8 q (ZH n p i b c st v)=a:=I;rw[C]at B;refine Vba B (Vba (Zl7 a j 0) ?_);refine Nat.mul_le_mul_left _ ?_;have:=Zdz h (show j<7 by have:=s.runs;omega) (ZdF h o);have:=s.calls j z
    omega
   |false=>
    have i1:(if (w:Int)=(c:Int)/\Ud=Ud then bw n a j d else 0)=bw n a j d:=by grind
    have i2:(if (w:Int)=(c:Int)/\Ud=Uc then gW a* (5*WF n i) else 0)=0:=by simp
    rw[Zg (by simp),i1,i2,Nat.add_zero];split
    ·unfold Yp;split
     ·rename_i M;have R:p.2.2.1<q.2.2.2.2.1:=M;have B:=Zi9 h s K (Ji (Kj n (ZH n p i b c st v))) j d Ud (Jr (Zf n j d).2.2.1) z;have C:a=K8 q (Ji (Kj n (ZH n p i b c st v)))+1:=by rw[<-I];show (q.2.2.2.2.1 - p.2.2.1).toNat=(q.2.2.2.2.1 - (p.2.2.1+1)).toNat+1;omega
      unfold bw;rw[C];assumption
     simp
    simp
  have W:=ZfU J;rw[Zoo]at W;have h2:=Zup h (i:=i) (c:=c) a;have N:(W4 n i).Pairwise (· ≠ ·):=Vab.filter _;have h3:((W4 n i).map λk=>if (lk n k).2.1=(c:Int)/\(lk n k).2.2.2.2.1=Uc then gW a* (5*WF n i) else 0).sum<=if c+1=(Zp n i).length then gW a* (5*WF n i) else 0:=by
   by_cases f:c+1=(Zp n i).length
   ·rw[Zn f];refine ZmL (P:=λk=>(lk n k).2.1=(c:Int)/\(lk n k).2.2.2.2.1=Uc) N λx hx y hy px py=>?_;obtain⟨x1,x2,_⟩:=Zde hx;obtain⟨y1,y2,_⟩:=Zde hy;have g:∀b (X:b<n.2.2.2.1.length),lk n b=n.2.2.2.1[b]:=λb X=>by unfold lk;grind
    exact ZwM h x1 y1 (by grind) (by grind) (by grind)
   ·rw[Zg f];refine Vba (ZfU (g:=λ_=>0) λk A=>?_) ?_
    ·grind
    ·have h0:∀l:List Nat,(l.map λ_=>0).sum=0:=by
      intro l
      induction l with
      |nil=>rfl
      |cons _ l B=>grind
     grind
  have h4:=ZmA h s a (Zf n i c).1;unfold Zcj;rw[Nat.mul_add,Nat.mul_one];have h5:gW a* (if c+1=(Zp n i).length then 5*WF n i else 0)=if c+1=(Zp n i).length then gW a* (5*WF n i) else 0:=by grind
  omega
theorem ZqI(e:Whole n)(b:WW n)(K:Nat)(y:ZZ){i c:Nat}(f:i<n.2.2.1.length):((YQ n q K y i c).map (wY n q)).sum<=bw n (q.2.2.2.2.1 - y.2.2.2.1).toNat i c:=by
 unfold YQ Yp;split
 ·rename_i g;have a:(q.2.2.2.2.1 - y.2.2.2.1).toNat=K8 q (Ji y)+1:=by show _=(q.2.2.2.2.1 - (y.2.2.2.1+1)).toNat+1;omega
  unfold bw;rw[a];exact Zi9 e b K (Ji y) i c Ud _ f
 simp
theorem ZnC(e:Whole n)(b:WW n)(y:ZZ)(can:Nat->Nat->Prop)[∀i c,Decidable (can i c)](a:∀i c,can i c->(Zf n i c).1=y.1):(((Vd n.2.2.1.length).flatMap λi=>(Vd (Zp n i).length).flatMap λc=>if can i c then YQ n q 100 y i c else []).map (wY n q)).sum<=rW n (q.2.2.2.2.1 - y.2.2.2.1).toNat y.1:=by
 rw[ZfS];unfold rW;refine GJ λi f=>?_;rw[ZfS];refine GJ λc g=>?_;split
 ·rename_i h;rw[Zn (a i c h)];exact ZqI e b 100 y f
 simp
theorem ZuJ(g:Whole n)(f:WW n)(y:ZZ):((Xp n q y).map (wY n q)).sum+1<=wY n q y:=by
 unfold Xp;rw[Vt,Vra];have b:=ZnC (q:=q) g f y (ZcM n y) λi c h=>h.1;unfold Da;have e:((if y.2.2.2.2.2.1=Uc then Za4 n q y else []).map (wY n q)).sum<=if y.2.2.2.2.2.1=Uc then((n.2.2.2.2.1.filter λp=>Ue (p.1=y.1)).map λp=>1+rW n (q.2.2.2.2.1 - y.2.2.2.1).toNat p.2.1).sum else 0:=by
  split
  ·unfold Za4;rw[ZfT];generalize n.2.2.2.2.1=P
   induction P with
   |nil=>simp
   |cons p P j=>
    rw[Vh,Vj,Vbb];by_cases a:p.1=y.1
    ·rw[Zn (Zi a),Vh,Vj];refine Vgb ?_ j;split
     ·rw[Vva,Vwa];unfold wY;rw[Zg (by show¬Ud=Uc;simp)];exact Vv _
     simp
    ·rw[Zg (λh:GR q y p=>a h.1)];grind
  simp
 unfold wY at b e⊢;omega
theorem Zl8:∀(l:List ZZ),l.length<=(l.map (wY n q)).sum
 |[]=>Vv _
 |y::l=>by rw[Vh,Vj,Vea];have:=Zl8 l;unfold wY at this⊢;omega
end Q
namespace Q
open Tr Go
variable {F:ZR}{hF:FO F}{n:Zc}{q:Zl}
theorem Zvq{F:ZR}(a:(JN F).2=0)(b:∀x∈F.1,x.1.length<=9223372036854775807):F19 F=Ua (st0 F,0):=by
 have c:=(Hm a).many;unfold F19;rw[ZhK F b];have e:ZD (Ue ((Ve ([]:List Unit))+Ve F.1<=ZI))=Ua ():=by rw[Zi (by simp [ZI];omega)];rfl
 simp only[Za,Zi a,Vq,Ze,e];rfl
def XE(n:Zc)(k:Nat):List (List Int):=(Vd n.2.2.1.length).map λi:Nat=>((Vd k).filter λk=>Ue ((lk n k).1=(i:Int))).map λk:Nat=>(k:Int)
def G6(n:Zc)(q:Zl):FX:=(n,q,RX n,Vn n.1.length [],[],[])
theorem Zii{k a:Nat}(h:a<(XE n k).length):(XE n k)[a]=((Vd k).filter λk=>Ue ((lk n k).1=(a:Int))).map λk:Nat=>(k:Int):=by simp [XE]
theorem ZuE(z:Whole n)(y:WW n)(q:Zl):ZbR n q=Ua (G6 n q):=by
 have G:=z.ok;have U:=z.v;have S:=y.runs;have T:=y.stops;have R:(ZI:Int)=549755813888:=rfl;have N:(ZI:Nat)=549755813888:=rfl;have C:ZD (Ue ((0:El (Tr.Ty.int .i64))<=(↑(Ve n.2.2.1):Int)/\(↑(Ve n.2.2.1):Int)<=(↑(Ve n.2.2.1):Int)/\(↑(Ve n.2.2.1):Int)<=(↑ZI:El (Tr.Ty.int .i64))))=Ua ():=by rw[Zi ⟨by simp,Vr _,by omega⟩];rfl
 have D:ZD (Ue ((0:El (Tr.Ty.int .i64))<=(↑(Ve n.1):Int)/\(↑(Ve n.1):Int)<=(↑(Ve n.1):Int)/\(↑(Ve n.1):Int)<=(↑ZI:El (Tr.Ty.int .i64))))=Ua ():=by rw[Zi ⟨by simp,Vr _,by omega⟩];rfl
 have I:XE n 0=Vn n.2.2.1.length []:=by
  unfold XE;have:∀m:Nat,(Vd m).map (λi:Nat=>((Vd 0).filter λk=>Ue ((lk n k).1=(i:Int))).map λk:Nat=>(k:Int))=Vn m []:=by intro m;rw[List.eq_replicate_iff];simp
  grind
 have f:Zfk n q=Ua (n,q,RX n,Vn n.1.length [],[],[],()):=by
  unfold Zfk;rw[C,Za,D,Za];refine Wj (λr=>r=(n,q,RX n,Vn n.1.length [],[],[],())) ?_ (by simp);refine KP n.2.2.2.1.length _ (λk s=>s=((n,q,XE n k,Vn n.1.length [],[],[],()),(k:Int))) ?_ ?_ _ (by grind)
  ·rintro k _ h rfl;left;obtain⟨i,c,j,d,st,e,Q,_⟩:=G.link _ (Vi h);have K:lk n k=n.2.2.2.1[k]:=by unfold lk;grind
   have B:(XE n k).length=n.2.2.1.length:=by unfold XE;simp
   have w:Zv (i:Int) (XE n k).length=Ua i:=by unfold Zv;grind
   have b:i<(XE n k).length:=by omega
   have A:(XE n k)[i]=((Vd k).filter λk=>Ue ((lk n k).1=(i:Int))).map λk:Nat=>(k:Int):=Zii b;have M:((XE n k)[i]).length<=1024:=by grind
   have p:ZD (Ue (((XE n k)[i]).length+Ve [(k:Int)]<=ZI))=Ua ():=by rw[Zi (by grind)];rfl
   have t:ZD (RW (Ua (Via ((i:Nat):Int))) i)=Ua ():=by rw[Vm];show ZD (Nat.beq i i)=_;rw[Nat.beq_refl];rfl
   have g:(XE n k).set i ((XE n k)[i]++[(k:Int)])=XE n (k+1):=by
    refine List.ext_getElem (by rw[Veb];unfold XE;simp) λa P E=>?_;rw[Vpa];have l:a<(XE n k).length:=by grind
    rw[Zii E,List.range_succ,Vma,Vt];have J:(lk n k).1=(i:Int):=by grind
    by_cases o:i=a
    ·grind
    ·have O:¬((i:Int)=(a:Int)):=by omega
     rw[Zg o,Zii l,show List.filter (λk=>Ue ((lk n k).1=(a:Int))) [k]=[] by grind];simp
   refine⟨((n,q,XE n (k+1),Vn n.1.length [],[],[],()),((k+1:Nat):Int)),?_,rfl⟩;simp only[ZV h,Zd,ZJ h,Za,e,w,Vc b,ZJ b,p,t,Z8 h (by omega),g]
  ·rintro _ rfl;exact⟨(n,q,RX n,Vn n.1.length [],[],[],()),by rw[YU,Ze];rfl,rfl⟩
 unfold ZbR;rw[f,Za];have H:ZcU (Vn n.1.length ([]:List (El Qn.Y91)))=true:=by unfold ZcU;simp
 simp only;rw[H];show Ua _=Ua _;congr 1;show (n,q,RX n,(Vn n.1.length ([]:List (El Qn.Y91))).map (λ_=>([]:List ZZ)),[],[])=G6 n q;unfold G6;simp
theorem Zmt(n:Zc)(q:Zl):Xu F hF n q (G6 n q) 0:=by
 have c:∀r∈KG (G6 n q),r=[]:=λr b=>Voa (by assumption);refine⟨rfl,rfl,rfl,List.length_replicate,⟨λr b y a=>?_,λy a=>(by cases a),λy a=>(by cases a)⟩,λi r b=>?_,⟨λy a=>(by cases a),λy a=>(by cases a)⟩,⟨Vv _,Vv _⟩,λr b y a=>?_,λy a=>(by cases a)⟩
 ·grind
 ·rw[c r (Vx b)];simp
 grind
abbrev Xh:=Int×Int×Unit
def Ho(n:Zc)(q:Zl)(d:Int)(w:Xh):ZZ:=(w.1,d+w.2.1,d+w.2.1,0,w.2.1,Ud,st0 n.2.2.2.2.2.1,if 0<w.2.1 then [KA q.1 w.1 d (d+w.2.1)] else [],())
def Zbq(n:Zc)(d:Int)(w:Xh)(i c:Nat):Prop:=(Zf n i c).1=w.1/\(Zf n i c).2.2.2.1=Uc/\(Zf n i c).2.2.1=d+w.2.1
instance (n:Zc) (d:Int) (w:Xh) (i c:Nat):Decidable (Zbq n d w i c):=by unfold Zbq;infer_instance
noncomputable def H8(n:Zc)(q:Zl)(d:Int)(w:Xh):List ZZ:=(Vd n.2.2.1.length).flatMap λi=>(Vd (Zp n i).length).flatMap λc=>if Zbq n d w i c then YQ n q 100 (Ho n q d w) i c else []
noncomputable def Yj(n:Zc)(q:Zl)(ws:List Xh)(d:Int):List ZZ:=ws.flatMap (H8 n q d)
def ZjF(n:Zc)(ws:List Xh):Prop:= ∀w∈ws,0<=w.1/\w.1<(n.1.length:Int)/\0<=w.2.1/\w.2.1<=14400
theorem Zjk(_:WO n){hF:FO n.2.2.2.2.2.1}(b:0<=q.2.2.2.2.1){d:Int}(f:0<=d/\d<=3155932800){w:Xh}(a:0<=w.1/\w.1<(n.1.length:Int)/\0<=w.2.1/\w.2.1<=14400):YG n.2.2.2.2.2.1 hF n q (Ho n q d w):=by
 have c:(Ho n q d w).2.2.2.2.2.2.2.1.length<=200:=by show (if 0<w.2.1 then [KA q.1 w.1 d (d+w.2.1)] else []).length<=200;grind
 exact⟨⟨Zoh hF,λv e=>absurd e (by show¬v∈([]:List ZF);simp),⟨a.1,a.2.1⟩⟩,rfl,b,⟨a.2.2.1,by show w.2.1<=_;omega⟩,⟨by show 0<=d+w.2.1;omega,by show d+w.2.1<=_;omega⟩,c⟩
theorem Zxp(b:WO n){hF:FO n.2.2.2.2.2.1}(h:q.2.2.2.2.1<=3)(g:0<=q.2.2.2.2.1){d:Int}(j:0<=d/\d<=3155932800){w:Xh}(k:0<=w.1/\w.1<(n.1.length:Int)/\0<=w.2.1/\w.2.1<=14400):∀l∈H8 n q d w,W6 n.2.2.2.2.2.1 hF n l:=by
 intro l a;unfold H8 at a;obtain⟨i,f,a⟩:=Vb.1 a;obtain⟨c,e,a⟩:=Vb.1 a;rw[Vl]at f e;split at a
 ·exact ZgR b h (Zjk b g j k) f e l a
 grind
theorem ZqJ(v:Whole n)(I:WW n){hF:FO n.2.2.2.2.2.1}(P:∀x∈n.2.2.2.2.2.1.1,x.1.length<=9223372036854775807)(E:q.2.2.2.2.1<=3)(D:0<=q.2.2.2.2.1){d:Int}(J:0<=d/\d<=3155932800){ws:List Xh}(t:ZjF n ws)(O:ws.length<=1000)(G:(Yj n q ws d).length<=549755813888):
 ∃x,ZeL n q ws d=Ua (.inl x)/\Wc n.2.2.2.2.2.1 (G6 n q) (Yj n q ws d) x:=by
 have H:=v.ok;unfold ZeL;rw[ZuE v I,Za,Zvq v.z P,Za];rw[Zi rfl,Vq,Ze];unfold Yj at G⊢;rw[ZeZ]at G⊢;have B:∀o:Option FX,(∃e,o=Ua e/\Wc n.2.2.2.2.2.1 (G6 n q) ((Vd ws.length).flatMap λi=>(ws[i]?).elim [] (H8 n q d)) e)->∃e:FX,(Va o λx=>Ua (Sum.inl x))=Ua (Sum.inl e:FX ⊕ List (Option ZZ))/\Wc n.2.2.2.2.2.1 (G6 n q) ((Vd ws.length).flatMap λi=>(ws[i]?).elim [] (H8 n q d)) e:=by grind
 refine B _ (Zb8 (F:=n.2.2.2.2.2.1) (hF:=hF) (n:=n) (q:=q) (m:=ws.length) (g:=λi=>(ws[i]?).elim [] (H8 n q d)) (x:=G6 n q) (N:=0) (λk x=>(x,(k:Int))) (λx=>x) (Zmt n q) (by
  intro i a l K;rw[Vc a]at K;exact Zxp H E D J (t _ (Vi a)) l K) (by omega) (by
  intro i s M a A j;rw[Vc a]at j⊢;have p:M+(H8 n q d ws[i]).length<=549755813888:=j;show∃e,_/\Wc n.2.2.2.2.2.1 s (H8 n q d ws[i]) e;have Q:=t _ (Vi a);have R:idx ws (i:Int)=Ua ws[i]:=ZJ a;generalize ws[i]=w at*;have S:Vg .i64 (d+w.2.1)=d+w.2.1:=ZN (by omega) (by omega);simp only[ZV a,Zd,R,Za,Z8 a (by omega),S];have r:(bif Ue ((0:Int)<w.2.1) then
   Ua (s,Ua (w.1,d+w.2.1,d+w.2.1,(0:Int),w.2.1,Ud,st0 n.2.2.2.2.2.1,[(Ud,(0:Int),(0:Int),(0:Int),q.1,w.1,d,d+w.2.1,Ud,())],()))
   else Ua (s,Ua (w.1,d+w.2.1,d+w.2.1,(0:Int),w.2.1,Ud,st0 n.2.2.2.2.2.1,([]:List Zw),())))=(Ua (s,Ua (Ho n q d w)):Option (FX×Option ZZ)):=by
   unfold Ho;by_cases b:0<w.2.1
   ·rw[Zi b,Zn b];rfl
   grind
  rw[r];simp only[Za];obtain⟨T,f,y⟩:=Znc v I E (Zjk (hF:=hF) (q:=q) H D J Q) (λi c=>Zbq n d w i c) (λC=>bif Ue (C.1=w.1) then bif C.2.2.2.1 then Ua (Ue (C.2.2.1=(Ho n q d w).2.2.1)) else Ua Ud else Ua Ud) (by
   intro i c a U;by_cases f:(Zf n i c).1=w.1
   ·rw[Zi f,Zd]
    cases y:(Zf n i c).2.2.2.1 with
    |true=>rw[Zd];congr 1;exact decide_eq_decide.2 ⟨λh=>⟨f,y,h⟩,λh=>h.2.2⟩
    |false=>rw[Ze];congr 1;rw[Zt];intro h;rw[h.2.1]at y;grind
   ·rw[Zt f,Ze];congr 1;rw[Zt];intro h;exact f h.1) A p
  rw[f];exact⟨T,rfl,y⟩) (by
  simp))
end Q
namespace Q
open Tr Go
variable {F:ZR}{hF:FO F}{n:Zc}{q:Zl}
theorem Zck(n:Zc)(q:Zl)(y:ZZ):1<=wY n q y:=by unfold wY;omega
theorem ZfV{α:Type}(w:α->Nat)(h:∀l,1<=w l)(ls:List α):ls.length+(ls.map λl=>w l - 1).sum=(ls.map w).sum:=by
 induction ls with
 |nil=>rfl
 |cons x ls a=>
  grind
def Gc(F:ZR)(x:FX)(y:ZZ):Prop:= ∃m∈JG x y.1,W9 F m y=Uc
structure Do (F:ZR) (hF:FO F) (n:Zc) (q:Zl) (S:ZZ->Prop) (B:Nat) (x:FX) (N:Nat):Prop where
 fin:Xu F hF n q x N
 snd:(∀r∈KG x,∀y∈r,S y)/\(∀y∈Ju x,S y)/\∀y∈J9 x,S y
 wgt:N+((Ju x).map (wY n q)).sum<=B+(Ju x).length
 cls:∀r∈KG x,∀m∈r,m∈Ju x\/∀z∈Xp n q m,Gc F x z
theorem Do.adds{S:ZZ->Prop}{B N:Nat}{x s:FX}{u:List ZZ}(R:N+u.length+((Ju x).map (wY n q)).sum+(u.map λl=>wY n q l - 1).sum<=B+(Ju x).length)(h:Xu F hF n q x N)(P:(∀r∈KG x,∀y∈r,S y)/\(∀y∈Ju x,S y)/\∀y∈J9 x,S y)
 (C:∀r∈KG x,∀m∈r,m∈Ju x\/∀z∈Xp n q m,Gc F x z\/z∈u) (Q:∀z∈u,S z/\W6 F hF n z) (k:Wc F x u s):Do F hF n q S B s (N+u.length):=by
 have a:=h.adds (by grind) k;obtain⟨sub,G,H,t,I,⟨J,K,M,O⟩,v,b,c,a12⟩:=k;refine⟨a,⟨λr j y p=>?_,λy p=>?_,λy p=>?_⟩,?_,λr j m D=>?_⟩
 ·obtain⟨i,o⟩:=Vha j;grind
 ·grind
 ·grind
 ·rw[t,Vt,Vra,Vp];have e:=b λl=>wY n q l - 1;have f:=ZfV (wY n q) (Zck n q) sub;omega
 ·obtain⟨i,o⟩:=Vha j;obtain⟨r0,w,A,_⟩:=v i r o;rcases A m D with e|⟨e,_⟩
  ·rcases C r0 (Vx w) m e with f|f
   ·grind
   ·right;intro z E;rcases f z E with g|g
    ·exact c z g
    ·exact a12 z g
  grind
theorem Zur(hW:Whole n)(hT:WW n)(h3:q.2.2.2.2.1<=3)(hq:q.2.2.2.2.2.1<=86400){S:ZZ->Prop}(hS:∀y,S y->YG F hF n q y/\∀z∈Xp n q y,S z){B:Nat}(hB:B<=549755813888):
 ∀(m:Nat) (x:FX) (N:Nat),((Ju x).map (wY n q)).sum<=m->Do F hF n q S B x N->∃l D,run Dz x=Ua (J9 l)/\Do F hF n q S B l D/\Ju l=[]/\∀y,Gc F x y->Gc F l y:=by
 intro m
 induction m with
 |zero=>
  intro x N X b;have g:Ju x=[]:=by
   cases h:Ju x with
   |nil=>rfl
   |cons u rest=>
    rw[h,Vh,Vj]at X;have:=Zck n q u;omega
  refine⟨x,N,Y0 ?_,b,g,λ_ h=>h⟩;unfold Dz;have I:x.2.2.2.2.1=[]:=g
  rw[I];rfl
 |succ m ih=>
  intro x N X b
  cases g:Ju x with
  |nil=>
   grind
  |cons u rest=>
   have I:x.2.2.2.2.1=u::rest:=g;have hu:S u:=b.snd.2.1 u (by rw[g];simp);obtain⟨J,H⟩:=hS u hu;obtain⟨Z,b7⟩:=J.ok.stop;have hi:u.1.toNat<(KG x).length:=by rw[b.fin.rows];omega
   have a7:Rl x u=JG x u.1:=rfl;have b6:JG x u.1=(KG x)[u.1.toNat]:=by unfold JG;grind
   have a5:=b.fin.bag u.1.toNat _ (Vc hi);have a0:=b.wgt;rw[g,Vh,Vj,Vea]at a0;rw[g,Vh,Vj]at X;have b0:=ZuJ (q:=q) hW hT u;have b5:=ZfV (wY n q) (Zck n q) (Xp n q u);have b8:=Zck n q u;have a6:=ZfV (wY n q) (Zck n q) rest;have E:N+(Xp n q u).length<=549755813888:=by omega
   have a8:(Ue ((0:Int)<=(u.1:Int))&&(Ue ((u.1:Int).toNat<x.2.2.2.1.length)&&Ue ((Rl x u).length<=549755813888)))=true:=by rw[Zi Z,Zi (by assumption),Zi (by grind)];rfl
   generalize a:((x.1,x.2.1,x.2.2.1,x.2.2.2.1,rest,x.2.2.2.2.2):FX)=c;have v:KG c=KG x:=by rw[<-a];rfl
   have P:Ju c=rest:=by rw[<-a];rfl
   have b3:J9 c=J9 x:=by rw[<-a];rfl
   have b4:∀s,JG c s=JG x s:=λs=>by unfold JG;rw[v]
   have p:Xu F hF n q c N:=by
    have h:=b.fin;have hl:=h.lab;have T:=h.cvd;have U:=h.few;rw[g]at hl T U;refine⟨by rw[<-a];exact h.net,by rw[<-a];exact h.que,by rw[<-a];exact h.lnk,by rw[v];exact h.rows,by grind,by rw[v];exact h.bag,⟨?_,?_⟩,by grind,by rw[v,b3];exact h.fd,by rw[b3];exact h.to⟩
    all_goals grind
   have k:(∀r∈KG c,∀y∈r,S y)/\(∀y∈Ju c,S y)/\∀y∈J9 c,S y:=by have hs:=b.snd;grind
   by_cases V:u∈JG x u.1
   ·
    have G:(Rl x u).any (λy=>Ue (y=u))=true:=by grind
    obtain⟨x1,k1,K⟩:=ZuM hW hT h3 hq J p E;have t:Do F hF n q S B x1 (N+(Xp n q u).length):=by
     refine Do.adds ?_ p k (λr A m f=>?_) (λz C=>⟨H z C,(hS z (H z C)).1.ok⟩) K
     ·rw[P];omega
     ·rw[v]at A;rcases b.cls r A m f with h|h
      ·grind
      ·right;intro z C;obtain⟨o,w,j⟩:=h z C;exact .inl ⟨o,by grind,j⟩
    have Y:((Ju x1).map (wY n q)).sum<=m:=by obtain⟨sub,a1,a2,a3,a4,_,a9,M,_⟩:=K;grind
    obtain⟨l,D,w,j,Q,R⟩:=ih x1 _ Y t;refine⟨l,D,?_,j,Q,λy hy=>R y ?_⟩
    ·rw[<-w];refine H4 ?_;unfold Dz;grind
    ·obtain⟨sub,a1,a2,a3,a4,_,a9,M,O,_⟩:=K;obtain⟨o,w,j⟩:=hy;exact O y (by grind)
   ·have G:(Rl x u).any (λy=>Ue (y=u))=false:=by grind
    have t:Do F hF n q S B c N:=by
     refine⟨p,k,by rw[P];omega,λr A m f=>?_⟩;rw[v]at A;rcases b.cls r A m f with h|h
     ·rw[g,Vu]at h;rcases h with rfl|h
      ·exfalso;obtain⟨i,W⟩:=Vha A;have e:=(b.fin.bag i r W).1 m f;apply V;unfold JG;simp [*]
      grind
     ·right;intro z C;obtain⟨o,w,j⟩:=h z C;exact⟨o,by grind,j⟩
    obtain⟨l,D,w,j,Q,R⟩:=ih c N (by rw[P];omega) t;refine⟨l,D,?_,j,Q,λy ⟨o,k1,K⟩=>R y ⟨o,by grind,K⟩⟩;rw[<-w];refine H4 ?_;unfold Dz;grind
end Q
namespace Q
open Tr Go
variable {n:Zc}{q:Zl}
def Kh(q:Zl)(t:Int):Zl:=(q.1,q.2.1,t,Ud,q.2.2.2.2)
theorem Zh8{p p' :Zx}(a:p.2.2.1=p'.2.2.1)(e:p.2.2.2.1=p'.2.2.2.1)(f:p.2.2.2.2.1=p'.2.2.2.2.1)(g:p.2.2.2.2.2.1=p'.2.2.2.2.2.1)(i b c:Nat)(st:Bool)(v:ZF):ZH n p i b c st v=ZH n p' i b c st v:=by unfold ZH;grind
theorem ZgH{F:ZR}{hF:FO F}{Q:Zl}{l:Zx}(b:LI F hF n Q l)(i:0<l.2.2.1)(d:Int):WP l.2.2.2.2.2.1 d=l.2.2.2.2.2.1:=by
 match hL:l.2.2.2.2.2.1 with
 |[]=>rfl
 |[x]=>
  cases e:x.1 with
  |true=>exact Zbe e d
  |false=>
   exfalso;have g:=(b.adj x hL e).2.2;have c:=b.rgo;rw[hL,GG,Zg (by grind),Zg (by grind),Zg (by grind)]at c;have f:([]:List ZF)=Z7 l.2.2.2.2.1++(if l.1.1=1 then [l.1.2.2.2.2.1] else []):=(Vjb c).1;have a:=congrArg Ve f;rw[Vp]at a;have h:=b.cnt
   grind
 |x::y::L=>rfl
structure SL (n:Zc) (q:Zl) (d:Int) (l:Zx):Prop where
 rc:Rc n (ZG (Kh q d)) (KC n (ZG (Kh q d))) l
 nz:0<l.2.2.1
 kind:l.1.1=1\/l.1.1=2
 head:∃x L,l.2.2.2.2.2.1=x::L/\x.2.2.2.2.2.2.1=d
def Gl(n:Zc)(q:Zl)(d:Int)(y:ZZ):Prop:= ∃l,SL n q d l/\(l.1.1=1->Jh n l=Uc)/\y=Kj n l
structure Cx (n:Zc) (q:Zl) (d:Int) (hF:FO n.2.2.2.2.2.1):Prop where
 whole:Whole n
 tin:WW n
 li0:LI n.2.2.2.2.2.1 hF n (ZG (Kh q d)) (KC n (ZG (Kh q d)))
 nch:q.2.2.2.2.2.2.2.2.2.1=Ud
 max:q.2.2.2.2.1<=3
 wlk:q.2.2.2.2.2.1<=86400
 mom:0<=d/\d<=3155932800
variable {d:Int}{hF:FO n.2.2.2.2.2.1}
theorem Cx.qi(h:Cx n q d hF):QI (ZG (Kh q d)):=⟨by show q.2.2.2.2.1<=7;have:=h.max;omega,h.wlk⟩
theorem Cx.li(h:Cx n q d hF){l:Zx}(a:Rc n (ZG (Kh q d)) (KC n (ZG (Kh q d))) l):LI n.2.2.2.2.2.1 hF n (ZG (Kh q d)) l:=a.li h.whole h.tin h.qi h.li0
theorem D8{l:Zx}(h:l.1.1≠1):Zq l=l:=by unfold Zq;grind
theorem Zn7(h:Cx n q d hF){l:Zx}(a:SL n q d l)(g:l.1.1=1->Jh n l=Uc)(H:l.2.2.1<q.2.2.2.2.1){j b c:Nat}(w:j<n.2.2.1.length)(i:b<c)(s:c<(Zp n j).length)(e:Yc n j=Ud)(k:(Zf n j b).2.2.2.1=Uc)(A:(Zf n j b).1=l.1.2.1)
 (f:(Kj n l).2.2.1<=(Zf n j b).2.2.1\/(l.2.1<=(Zf n j b).2.2.1/\DJ n l j b=Uc)) (z:HW n j c=Uc):SL n q d (ZH n (Ji (Kj n l)) j b c Ud (Jr (Zf n j b).2.2.1)):=by
 obtain⟨I,C,J,D,E⟩:=Gt l;have m:=h.li a.rc;have v:(Kj n l).2.2.1=XC n (ZG (Kh q d)) l:=by
  unfold Kj XC;rcases a.kind with y|y
  all_goals grind
 have t:ZH n (Ji (Kj n l)) j b c Ud (Jr (Zf n j b).2.2.1)=ZH n (Yq n (Zq l) j b) j b c Ud (Jr (Zf n j b).2.2.1):=by
  refine Zh8 (n:=n) (p:=Ji (Kj n l)) (p' :=Yq n (Zq l) j b) ?_ ?_ rfl ?_ j b c Ud (Jr (Zf n j b).2.2.1)
  ·show l.2.2.1+1=(Zq l).2.2.1+1;omega
  ·exact D.symm
  ·show l.2.2.2.2.2.1=WP (Zq l).2.2.2.2.2.1 _;rw[E,ZgH m a.nz]
 have B:ZH n (Ji (Kj n l)) j b c Ud (Jr (Zf n j b).2.2.1)∈DQ n (ZG (Kh q d)) l:=by
  refine XF.2 (.inr (.inl ⟨g,Hr.2 ⟨j,b,c,w,i,s,⟨e,k,by grind,by omega,?_⟩,?_,z,t⟩⟩))
  ·rw[C];rcases f with f|⟨f,o⟩
   ·omega
   ·refine .inr ⟨f,?_⟩;unfold DJ at o⊢;grind
  ·show (Zq l).2.2.1≠q.2.2.2.2.1;omega
 obtain⟨x,L,G,r⟩:=a.head;refine⟨.step a.rc B,?_,.inl rfl,x,L++[ZM n j b c Ud],?_,r⟩
 ·show 0<l.2.2.1+1;have:=a.nz;omega
 ·show l.2.2.2.2.2.1++_=_;grind
theorem Zf2(h:Cx n q d hF):∀(K:Nat) (p:Zx) (i b:Nat) (st:Bool) (v:ZF),i<n.2.2.1.length->(Yc n i=Ud->∀c,b<c->c<(Zp n i).length->HW n i c=Uc->SL n q d (ZH n p i b c st v))->∀y∈WT n q K p i b st v,Gl n q d y
 |0,p,i,b,st,v,_,_,y,a=>by unfold WT at a;grind
 |K+1,p,i,b,st,v,hi,U,y,a=>by
  have Z:=h.whole.ok;unfold WT at a;split at a
  ·grind
  rename_i a1;have f:Yc n i=false:=by grind
  obtain⟨m,hm,a⟩:=Vb.1 a;rw[Vl]at hm;have s:b<b+1+m:=by omega
  have N:b+1+m<(Zp n i).length:=by omega
  generalize b+1+m=c at*;unfold GC at a;rw[Vo]at a;rcases a with a|a
  ·obtain⟨rfl,r,_⟩:=Zix a;have w:(Zf n i c).2.2.2.2.1=true:=r;exact⟨_,U f c s N (by unfold HW;grind),λ_=>r,rfl⟩
  ·obtain⟨k,hk,a⟩:=Vb.1 a;have P:k∈W4 n i:=hk;obtain⟨o,j,I,G,e,O,a3,a0,a2,t,V,g⟩:=ZaM Z P;unfold Hq at a;rw[e]at a;simp only[Vm]at a;split at a
   ·grind
   rename_i B;have J:o=c:=by
    by_cases T:((o:Nat):Int)=(c:Int)
    ·omega
    ·exact absurd (.inl T) B
   subst J;have Q:(Zf n i o).2.1<=(Zf n j I).2.2.1:=by have:¬(Zf n j I).2.2.1<(Zf n i o).2.1:=λT=>B (.inr T);omega
   split at a
   ·rename_i E;have l:G=true:=E;subst l;obtain⟨_,rfl⟩:=V rfl;have a4:Zi1 n i o=true:=by unfold Zi1;rw[Vfa];exact⟨_,g,by simp⟩
    have A:=U f o s N (by unfold HW;grind);refine Zf2 h K _ j 0 Uc _ O (λz H M W X=>?_) y a;obtain⟨x,L,e1,Y⟩:=A.head;refine⟨.step A.rc (XF.2 (.inl ⟨rfl,G3.2 ⟨_,g,⟨rfl,rfl,rfl,?_,?_⟩,H,M,?_,?_,rfl⟩⟩)),A.nz,.inl rfl,x,L++[ZM n j 0 H Uc],?_,Y⟩
    ·grind
    ·grind
    ·grind
    ·grind
    ·show (ZH n p i b o st v).2.2.2.2.2.1++_=_;grind
   ·split at a
    ·rename_i E S;have l:G=false:=by grind
     subst l;obtain⟨C,D⟩:=S;have r:Jh n (ZH n p i b o st v)=true:=by unfold Yh at C;grind
     have w:(Zf n i o).2.2.2.2.1=true:=r;have A:=U f o s N (by unfold HW;grind);unfold Yp at a;split at a
     ·rename_i R;refine Zf2 h K _ j I Ud _ O (λz H M W X=>?_) y a;refine Zn7 h A (by grind) R O M W z D t.symm (.inr ⟨Q,?_⟩) X;unfold DJ;rw[Vfa];exact⟨_,g,by simp [ZH]⟩
     grind
    grind
theorem Zmz(h:Cx n q d hF){y:ZZ}(C:Gl n q d y):∀z∈Xp n q y,Gl n q d z:=by
 obtain⟨l,g,f,rfl⟩:=C;obtain⟨D,E,G,H,M⟩:=Gt l;intro z b;unfold Xp at b;rw[Vo]at b;rcases b with b|b
 ·unfold Da at b;obtain⟨i,k,b⟩:=Vb.1 b;obtain⟨c,v,b⟩:=Vb.1 b;rw[Vl]at k v;split at b
  ·rename_i a;unfold YQ Yp at b;split at b
   ·rename_i m;refine Zf2 h 100 _ i c Ud _ k (λj I r s t=>?_) z b;exact Zn7 h g f m k r s j a.2.1 a.1 (.inl a.2.2) t
   grind
  grind
 ·split at b
  ·rename_i e;have K:l.1.1=1:=Xy e;unfold Za4 at b;obtain⟨p,w,b⟩:=Vb.1 b;split at b
   ·rename_i a;rw[Vk]at b;subst b;have B:Xc (Zq l) p∈DQ n (ZG (Kh q d)) l:=by
     refine XF.2 (.inr (.inr ⟨f,by omega,HU.2 ⟨p,w,⟨?_,?_,?_⟩,rfl⟩⟩))
     ·rw[D];exact a.1
     ·rw[H];exact a.2.1
     ·rw[E];exact a.2.2
    obtain⟨x,L,J,o⟩:=g.head;refine⟨Xc (Zq l) p,⟨.step g.rc B,?_,.inr rfl,x,L++[KA (Zq l).1.2.1 p.2.1 (Zq l).2.1 ((Zq l).2.1+p.2.2.1)],?_,o⟩,λA=>absurd A (by show¬(2:Int)=1;decide),?_⟩
    ·show 0<(Zq l).2.2.1;rw[G];exact g.nz
    ·show (Zq l).2.2.2.2.2.1++_=_;grind
    ·unfold Dj Kj;rw[D8 (l:=Xc (Zq l) p) (by show¬(2:Int)=1;decide),Zg (show¬(Xc (Zq l) p).1.1=1 by show¬(2:Int)=1;decide),Zt (show¬(Xc (Zq l) p).1.1=1 by show¬(2:Int)=1;decide)];show _=((p.2.1,(Zq l).2.1+p.2.2.1,(Zq l).2.1+p.2.2.1,(Zq l).2.2.1,(Zq l).2.2.2.1+p.2.2.1,Ud,(Zq l).2.2.2.2.1,(Zq l).2.2.2.2.2.1++[KA (Zq l).1.2.1 p.2.1 (Zq l).2.1 ((Zq l).2.1+p.2.2.1)],()):ZZ);grind
   grind
  grind
end Q
namespace Q
open Tr Go
variable {n:Zc}{q:Zl}{d:Int}{hF:FO n.2.2.2.2.2.1}
theorem ZfP(h:Cx n q d hF){y:ZZ}(j:Gl n q d y):YG n.2.2.2.2.2.1 hF n q y:=by obtain⟨l,f,e,rfl⟩:=j;have a:=h.li f.rc;obtain⟨b,k,c3⟩:=Zev h.qi a;have c:=a.val.walk;have m:=h.wlk;have g:=a.val.time;have i:l.2.2.2.1<=q.2.2.2.2.2.1:=c.2;exact⟨⟨b.fare.1,b.fare.2,a.val.stop⟩,c3,a.val.rides.2,⟨c.1,by show l.2.2.2.1<=_;omega⟩,⟨g.1,by show l.2.1<=_;omega⟩,by show l.2.2.2.2.2.1.length<=_;have:=a.val.len;omega⟩
def ZjE(n:Zc)(q:Zl)(w:Xh):Prop:=(w.1=q.1/\w.2.1=0)\/∃p∈n.2.2.2.2.1,p.1=q.1/\p.2.2.1<=q.2.2.2.2.2.1/\w.1=p.2.1/\w.2.1=p.2.2.1
theorem Zxq(h:Cx n q d hF){w:Xh}(Q:ZjE n q w):∀z∈H8 n q d w,Gl n q d z:=by
 have D:=h.whole.ok;intro z f;unfold H8 at f;obtain⟨i,k,f⟩:=Vb.1 f;obtain⟨c,G,f⟩:=Vb.1 f;rw[Vl]at k G;split at f
 ·rename_i g;obtain⟨v,y,K⟩:=g;unfold YQ Yp at f;split at f
  ·rename_i s;have H:(0:Int)<q.2.2.2.2.1:=s;refine Zf2 h 100 _ i c Ud _ k (λj b A B C=>?_) z f;have a:Zq (KC n (ZG (Kh q d)))=KC n (ZG (Kh q d)):=by rfl
   have M:XC n (ZG (Kh q d)) (KC n (ZG (Kh q d)))=d:=by unfold XC;rw[Zg (by show¬(0:Int)=1;decide),Zg (by show¬(0:Int)=2;decide),Zg (by rw[show (ZG (Kh q d)).2.2.2.2.2.2.2.2.2.1=q.2.2.2.2.2.2.2.2.2.1 from rfl,h.nch];decide)];show d+0=d;omega
   rcases Q with ⟨t,J⟩|⟨p,I,R,S,t,J⟩
   ·have r:ZH n (Ji (Ho n q d w)) i c b Ud (Jr (Zf n i c).2.2.1)=ZH n (Yq n (Zq (KC n (ZG (Kh q d)))) i c) i c b Ud (Jr (Zf n i c).2.2.1):=by
     refine Zh8 (n:=n) (p:=Ji (Ho n q d w)) (p' :=Yq n (Zq (KC n (ZG (Kh q d)))) i c) rfl ?_ ?_ ?_ i c b Ud (Jr (Zf n i c).2.2.1)
     ·assumption
     ·rfl
     ·rw[a];show (if 0<w.2.1 then _ else [])=_;rw[Zg (by omega)];rfl
    refine⟨.step .start (XF.2 (.inr (.inl ⟨λl=>absurd l (by show¬(0:Int)=1;decide),Hr.2 ⟨i,c,b,k,A,B,⟨j,y,?_,by omega,.inl ?_⟩,?_,C,r⟩⟩))),by show (0:Int)<0+1;decide,.inl rfl,ZM n i c b Ud,[],?_,?_⟩
    ·rw[a,v,t];rfl
    ·omega
    ·rw[a];show (0:Int)≠q.2.2.2.2.1;omega
    ·show (if 0<w.2.1 then _ else [])++[ZM n i c b Ud]=_;grind
    ·show (Zf n i c).2.2.1=d;omega
   ·have O:=D.path p I;have P:=D.time k G;have o:Xc (Zq (KC n (ZG (Kh q d)))) p∈DQ n (ZG (Kh q d)) (KC n (ZG (Kh q d))):=by
     refine XF.2 (.inr (.inr ⟨λl=>absurd l (by show¬(0:Int)=1;decide),by show¬(0:Int)=2;decide,HU.2 ⟨p,I,⟨?_,?_,?_⟩,rfl⟩⟩))
     ·assumption
     ·rw[a];show 0+p.2.2.1<=q.2.2.2.2.2.1;omega
     ·rw[a];show d+p.2.2.1<=_;omega
    rw[a]at o;have m:Rc n (ZG (Kh q d)) (KC n (ZG (Kh q d))) (Xc (KC n (ZG (Kh q d))) p):=.step .start o;have e:Zq (Xc (KC n (ZG (Kh q d))) p)=Xc (KC n (ZG (Kh q d))) p:=by rfl
    have N:(Xc (KC n (ZG (Kh q d))) p).2.2.2.2.2.1=[KA q.1 p.2.1 d (d+p.2.2.1)]:=rfl;have E:WP [KA q.1 p.2.1 d (d+p.2.2.1)] (Zf n i c).2.2.1=[KA q.1 p.2.1 d (d+p.2.2.1)]:=by rw[RE rfl,K,J];unfold KA;simp
    have r:ZH n (Ji (Ho n q d w)) i c b Ud (Jr (Zf n i c).2.2.1)=ZH n (Yq n (Zq (Xc (KC n (ZG (Kh q d))) p)) i c) i c b Ud (Jr (Zf n i c).2.2.1):=by
     refine Zh8 (n:=n) (p:=Ji (Ho n q d w)) (p' :=Yq n (Zq (Xc (KC n (ZG (Kh q d))) p)) i c) ?_ ?_ ?_ ?_ i c b Ud (Jr (Zf n i c).2.2.1)
     ·rfl
     ·rw[e];show w.2.1=0+p.2.2.1;omega
     ·rfl
     ·rw[e];show (if 0<w.2.1 then [KA q.1 w.1 d (d+w.2.1)] else [])=WP (Xc (KC n (ZG (Kh q d))) p).2.2.2.2.2.1 _;grind
    refine⟨.step m (XF.2 (.inr (.inl ⟨λl=>absurd l (by show¬(2:Int)=1;decide),Hr.2 ⟨i,c,b,k,A,B,⟨j,y,?_,by omega,.inl ?_⟩,?_,C,r⟩⟩))),by show (0:Int)<0+1;decide,.inl rfl,KA q.1 w.1 d (d+w.2.1),[ZM n i c b Ud],?_,rfl⟩
    ·rw[e,v,t];rfl
    ·unfold XC;rw[Zg (show¬(Xc (KC n (ZG (Kh q d))) p).1.1=1 by show¬(2:Int)=1;decide),Zn (by rfl)];show d+p.2.2.1<=_;omega
    ·rw[e];show (0:Int)≠q.2.2.2.2.1;omega
    ·show (if 0<w.2.1 then [KA q.1 w.1 d (d+w.2.1)] else [])++[ZM n i c b Ud]=_;grind
  grind
 grind
noncomputable def GZ(n:Zc)(q:Zl)(l:Zx):Nat:=10*K8 q l+(if l.1.1=1 then 2+WF n l.1.2.2.1.toNat else if l.1.1=2 then 1 else 10)
theorem ZvG(h:Cx n q d hF){l:Zx}(J:Rc n (ZG (Kh q d)) (KC n (ZG (Kh q d))) l):l.2.2.2.2.2.1.length+GZ n q l<=40:=by
 induction J with
 |start=>
  have hm:=h.max;show 0+GZ n q _<=40;unfold GZ;rw[Zg (by show¬(0:Int)=1;decide),Zg (by show¬(0:Int)=2;decide)];have:K8 q (KC n (ZG (Kh q d)))=(q.2.2.2.2.1 - 0).toNat:=rfl
  omega
 |step M R S=>
  rename_i l x;have o:=h.li M;obtain⟨s1,s2,z,s4,T⟩:=Gt l;have K:l.2.2.1<=q.2.2.2.2.1:=o.val.rides.2;rcases XF.1 R with ⟨k1,O⟩|⟨_,D⟩|⟨_,k2,Q⟩
  ·obtain⟨k,w,⟨e0,U,V,E,P⟩,C,X,H,_,ex⟩:=G3.1 O;obtain⟨r,B,j,A,sy,I,N,Z,_⟩:=h.whole.ok.link _ w;subst I;simp only[Vm]at*;have t:=ZdF h.whole (i:=r) (c:=B) (j:=j) (d:=A) (by rw[e0]at w;assumption);have s:=Zdz h.whole (show j<7 by have:=h.tin.runs;omega) t;have W:WF n l.1.2.2.1.toNat=WF n r:=by grind
   have a:x.1.1=1:=by rw[ex];rfl
   have b:WF n x.1.2.2.1.toNat=WF n j:=by rw[ex];rfl
   have e:K8 q x=K8 q l:=by rw[ex];rfl
   have f:x.2.2.2.2.2.1.length=l.2.2.2.2.2.1.length+1:=by rw[ex];show (l.2.2.2.2.2.1++[_]).length=_;simp
   unfold GZ at S⊢;grind
  ·obtain⟨i,c,C,Y,G,H,v,g,_,ex⟩:=Hr.1 D;rw[z]at g;have y:l.2.2.1≠q.2.2.2.2.1:=g;have a:x.1.1=1:=by rw[ex];rfl
   have b:x.1.2.2.1.toNat=i:=by rw[ex];rfl
   have e:K8 q l=K8 q x+1:=by rw[ex];show (q.2.2.2.2.1 - l.2.2.1).toNat=(q.2.2.2.2.1 - ((Zq l).2.2.1+1)).toNat+1;omega
   have f:x.2.2.2.2.2.1.length=l.2.2.2.2.2.1.length+1:=by rw[ex];show (WP (Zq l).2.2.2.2.2.1 _++[_]).length=_;rw[Vp,ZjR,T];rfl
   have s:=ZaW (n:=n) i;have m:10*K8 q l+1<=GZ n q l:=by unfold GZ;grind
   unfold GZ;grind
  ·obtain⟨p,hp,_,ex⟩:=HU.1 Q;have a:¬x.1.1=1:=by rw[ex];show¬(2:Int)=1;decide
   have b:x.1.1=2:=by rw[ex];rfl
   have e:K8 q x=K8 q l:=by rw[ex];show (q.2.2.2.2.1 - (Zq l).2.2.1).toNat=_;rw[z];rfl
   have f:x.2.2.2.2.2.1.length=l.2.2.2.2.2.1.length+1:=by rw[ex];show ((Zq l).2.2.2.2.2.1++[_]).length=_;grind
   have m:10*K8 q l+2<=GZ n q l:=by unfold GZ;grind
   unfold GZ;grind
def Kt(n:Zc)(q:Zl):List Xh:=(q.1,0,())::(n.2.2.2.2.1.filter λp=>Ue (p.1=q.1)&&Ue (p.2.2.1<=q.2.2.2.2.2.1)).map λp=>(p.2.1,p.2.2.1,())
theorem Zgc{w:Xh}(h:w∈Kt n q):ZjE n q w:=by
 unfold Kt at h;rw[Vu,Vca]at h;rcases h with rfl|⟨p,a,rfl⟩
 ·exact .inl ⟨rfl,rfl⟩
 ·rw[Vw,Vz,Kx,Kx]at a;exact .inr ⟨p,a.1,a.2.1,a.2.2,rfl,rfl⟩
theorem ZoU(b:Whole n)(a:WW n)(w:Xh):((H8 n q d w).map (wY n q)).sum<=rW n (q.2.2.2.2.1 - 0).toNat w.1:=ZnC (q:=q) b a (Ho n q d w) (λi c=>Zbq n d w i c) λ_ _ h=>h.1
theorem ZwS(b:Whole n)(a:WW n):((Yj n q (Kt n q) d).map (wY n q)).sum<=gW (q.2.2.2.2.1 - 0).toNat:=by
 unfold Yj;rw[ZfT];unfold Kt;rw[Vh,Vj,List.map_map];have f:=ZoU (q:=q) (d:=d) b a (q.1,0,());have g:((n.2.2.2.2.1.filter λp=>Ue (p.1=q.1)&&Ue (p.2.2.1<=q.2.2.2.2.2.1)).map ((λw:Xh=>((H8 n q d w).map (wY n q)).sum) ∘λp=>(p.2.1,p.2.2.1,()))).sum<=((n.2.2.2.2.1.filter λp=>Ue (p.1=q.1)).map λp=>1+rW n (q.2.2.2.2.1 - 0).toNat p.2.1).sum:=by
  generalize n.2.2.2.2.1=P
  induction P with
  |nil=>simp
  |cons p P i=>
   by_cases c:p.1=q.1
   ·rw[Vqa (p:=λp:Kl=>Ue (p.1=q.1)) (Zi c),Vh,Vj];by_cases e:p.2.2.1<=q.2.2.2.2.2.1
    ·rw[Vqa (by grind),Vh,Vj];have:=ZoU (q:=q) (d:=d) b a (p.2.1,p.2.2.1,());grind
    grind
   grind
 have h:=ZmA b a (q.2.2.2.2.1 - 0).toNat q.1;grind
theorem Ztw{k:Nat}(h:k<=3):gW k<=549755813888:=by
 have a:∀k,gW k<=gW (k+1):=λk=>by show gW k<=61+1890*gW k;omega
 have b:gW 0<=gW 1:=a 0;have c:gW 1<=gW 2:=a 1;have e:gW 2<=gW 3:=a 2;have f:gW 3<=549755813888:=by decide
 rcases (show k=0\/k=1\/k=2\/k=3 by omega) with rfl|rfl|rfl|rfl<;>omega
theorem Zse(h:Cx n q d hF)(G:∀x∈n.2.2.2.2.2.1.1,x.1.length<=9223372036854775807)(s:0<=q.2.2.2.2.1)(f:0<=q.1/\q.1<(n.1.length:Int)):
 ∃(x:FX) (N:Nat),Zas n q (Kt n q) d=Ua ((J9 x).map Ua)/\(J9 x).length<=549755813888/\Do n.2.2.2.2.2.1 hF n q (Gl n q d) (((Yj n q (Kt n q) d).map (wY n q)).sum) x N/\Ju x=[]/\∀z∈Yj n q (Kt n q) d,Gc n.2.2.2.2.2.1 x z:=by
 have C:=h.whole.ok;have i:ZjF n (Kt n q):=λw g=>by
  rcases Zgc g with ⟨K,M⟩|⟨p,H,Z,p2,K,M⟩
  ·omega
  ·have:=C.path p H;omega
 have c:(Kt n q).length<=1000:=by unfold Kt;rw[Vea,Vja];have t:=Vs (λp:Kl=>Ue (p.1=q.1)&&Ue (p.2.2.1<=q.2.2.2.2.2.1)) n.2.2.2.2.1;have:=h.tin.paths;omega
 have k:((Yj n q (Kt n q) d).map (wY n q)).sum<=549755813888:=Vba (ZwS h.whole h.tin) (Ztw (by have:=h.max;omega));have A:=Vba (Zl8 (n:=n) (q:=q) (Yj n q (Kt n q) d)) k;obtain⟨O,X,l⟩:=ZqJ h.whole h.tin (hF:=hF) G h.max s h.mom i c A;have D:∀y,Gl n q d y->YG n.2.2.2.2.2.1 hF n q y/\∀z∈Xp n q y,Gl n q d z:=λy b=>⟨ZfP h b,Zmz h b⟩;have e:∀z∈Yj n q (Kt n q) d,Gl n q d z:=λz a=>by unfold Yj at a;obtain⟨w,g,a⟩:=Vb.1 a;exact Zxq h (Zgc g) z a
 have E:∀r∈KG (G6 n q),r=[]:=λr W=>Voa (by assumption);have v:=Do.adds (S:=Gl n q d) (B:=((Yj n q (Kt n q) d).map (wY n q)).sum) (hF:=hF) (x:=G6 n q) (u:=Yj n q (Kt n q) d) (by have:=ZfV (wY n q) (Zck n q) (Yj n q (Kt n q) d);show 0+_+0+_<=_+0;omega) (Zmt n q) ⟨by grind,λy b=>(by cases b),λy b=>(by cases b)⟩ (by grind) (λz a=>⟨e z a,(ZfP h (e z a)).ok⟩) l
 obtain⟨x,N,Y,j,I,J⟩:=Zur h.whole h.tin h.max h.wlk D k _ O _ (Vv _) v;refine⟨x,N,?_,?_,j,I,λz a=>J z ?_⟩
 ·unfold Zas;grind
 ·have t:=j.fin.few.2;have V:=j.wgt;grind
 ·obtain⟨sub,P,Q,R,T,_,U,m,o,a12⟩:=l;exact a12 z a
end Q
namespace Q
open Tr Go
variable {n:Zc}{q:Zl}{d:Int}{hF:FO n.2.2.2.2.2.1}
theorem ZtW{s0 l:Zx}(h:Rc n q s0 l)(a:l.1.1=0):l=s0:=by
 cases h with
 |start=>rfl
 |step _ f=>
  exfalso;rcases XF.1 f with ⟨_,c⟩|⟨_,b⟩|⟨_,_,e⟩
  ·obtain⟨_,_,_,_,_,_,_,rfl⟩:=G3.1 c;exact absurd a (by show¬(1:Int)=0;decide)
  ·obtain⟨_,_,_,_,_,_,_,_,_,rfl⟩:=Hr.1 b;exact absurd a (by show¬(1:Int)=0;decide)
  ·obtain⟨_,_,_,rfl⟩:=HU.1 e;exact absurd a (by show¬(2:Int)=0;decide)
theorem Zn0(f:WO n){i c d:Nat}(e:i<n.2.2.1.length)(b:c<d)(j:d<(Zp n i).length):(Zf n i c).2.2.1<=(Zf n i d).2.1:=by
 have k:=f.sound.time _ (Vi e);have key:∀d,c<d->d<(Zp n i).length->(Zf n i c).2.2.1<=(Zf n i d).2.1:=by
  intro d
  induction d with
  |zero=>intro h;omega
  |succ d l=>
   intro m a;have g:(Zf n i d).2.2.1<=(Zf n i (d+1)).2.1:=by rw[Zao a,Zao (show d<(Zp n i).length by omega)];simp only[ZcL e]at a⊢;have:=(k (d+1) a).2.2.2 (by omega);simp only[Nat.add_sub_cancel]at this;exact this.2
   rcases Nat.lt_or_ge c d with h|h
   ·have:=l h (by omega);have o:=f.time e (show d<(Zp n i).length by omega);omega
   ·have:c=d:=by omega
    subst this;exact g
 exact key d b j
abbrev JY(F:ZR)(hF:FO F)(rs:List ZF):Prop:=Dm.LS (Gz F hF.fareOk) F.1.length (rs.map K0)
theorem Zvc{F:ZR}{hF:FO F}{c:List ZF}{s:WJ}(k:JJ F hF c s):HY s=Uc↔JY F hF c:=by
 obtain⟨m,g,o,rfl,⟨l,e⟩,i,j⟩:=k.head;obtain⟨a,f,_,b⟩:=e c.length (Vv _);rw[Vcb]at b;have h:H5 ((Ua F,m,(c.length:Int),g,())::o)=a:=by show (g[((c.length:Int)).toNat]?).getD (-1)=a;rw[Vm,f];rfl
 unfold HY;rw[h,Kx];exact b
theorem JY.dom{F:ZR}{hF:FO F}{A B:List ZF}(h:Dm.Dom (Gz F hF.fareOk) F.1.length (A.map K0) (B.map K0))(a:JY F hF B):JY F hF A:=by have:=h [] (by rw[Vsa];exact a);rwa [Vsa]at this
theorem ZtZ{l:List Dm.Ride}{a b:Int}(c:a<=b)(h:∀v∈l,v.dep<=b):Dm.lastD a l<=b:=by
 induction l generalizing a with
 |nil=>exact c
 |cons r l f=>exact f (h r (by simp)) λv e=>h v (by simp [e])
theorem JY.init{F:ZR}{hF:FO F}{A:List ZF}{r:ZF}(h:JY F hF (A++[r]))(G:∀v∈A,v.1<=r.1):JY F hF A:=by
 have k:=h;unfold JY at k;rw[Vt,Vh,List.map_nil]at k;rcases Dm.LS.cut k (A.map K0) [K0 r] rfl with ⟨g,_⟩|⟨K,r0,b,f,M,p,t,y,j,I,g,e,N⟩
 ·exact g
 ·have i:f=[K0 r]:=by
   cases f with
   |nil=>exact absurd rfl j
   |cons x f=>
    rw[Vdb]at y;obtain⟨z,B⟩:=List.cons.inj y;obtain⟨C,_⟩:=List.append_eq_nil_iff.1 B.symm;rw[<-z,C]
  subst i;obtain⟨m,o,D,s⟩:=e;have a:∀v∈A.map K0,v.dep<=(K0 r).dep:=by intro v l;obtain⟨w,J,rfl⟩:=Vca.1 l;exact G w J
  rw[t]at a;have H:Dm.lastD r0.dep (b++[K0 r])=(K0 r).dep:=by rw[Dm.lastD_append];rfl
  have c:Dm.Cov (Gz F hF.fareOk) p r0 b:=by
   refine⟨?_,?_,?_,?_⟩
   ·rw[Vp]at m;simp only[Vta]at m;omega
   ·have E:Dm.lastD r0.dep b<=(K0 r).dep:=ZtZ (a r0 (by simp)) λv l=>a v (by simp [l]);rw[H]at o;exact Vda E o
   ·refine(Gz F hF.fareOk).zok_mono p _ _ ?_ D;rw[show r0::(b++[K0 r])=(r0::b)++[K0 r] from rfl,Dm.zns_append,<-Nat.or_assoc,Nat.or_self]
   ·rw[show r0::(b++[K0 r])=(r0::b)++[K0 r] from rfl,Dm.mds_append]at s;exact(((Gz F hF.fareOk).mok_or p _ _).1 s).1
  unfold JY;rw[t];exact g.snoc I c
theorem ZcP(h:Cx n q d hF){l:Zx}(f:Rc n (ZG (Kh q d)) (KC n (ZG (Kh q d))) l):(l.1.1=1->Z7 (Zq l).2.2.2.2.1=Z7 l.2.2.2.2.1++[l.1.2.2.2.2.1]):=by intro b;have a:=h.li f;have e:=a.cnt;rw[Zn b]at e;have i:l.2.2.1<=q.2.2.2.2.1:=a.val.rides.2;have g:=h.max;obtain⟨_,c,_⟩:=ZiL a.val b (by omega);unfold Zq;rw[Zn b];exact Hu c
theorem ZvI(h:Cx n q d hF){l:Zx}(Q:Rc n (ZG (Kh q d)) (KC n (ZG (Kh q d))) l):(∀v∈Z7 (Zq l).2.2.2.2.1,v.1<=l.2.1)/\(l.1.1=1->∀v∈Z7 l.2.2.2.2.1,v.1<=l.1.2.2.2.2.1.1):=by
 have m:=h.whole.ok
 induction Q with
 |start=>
  refine⟨λv a=>?_,λs=>absurd s (by show¬(0:Int)=1;decide)⟩;rw[D8 (by show¬(0:Int)=1;decide)]at a
  cases a
 |step D H Y=>
  rename_i l x;have C:=h.li D;obtain⟨y,I⟩:=Y;obtain⟨s1,Z,s3,s4,s5⟩:=Gt l;have t:=Rc.step D H;rcases XF.1 H with ⟨G,V⟩|⟨_,K⟩|⟨_,k2,X⟩
  ·obtain⟨k,s,⟨_,_,_,M,E⟩,z,J,B,_,ex⟩:=G3.1 V;obtain⟨r,d0,j,d',sy,N,_,P,_⟩:=m.link _ s;subst N;simp only[Vm]at*;have R:=Zn0 m P J B;have e:x.1.1=1:=by rw[ex];rfl
   have f:x.1.2.2.2.2.1.1=l.1.2.2.2.2.1.1:=by rw[ex];rfl
   have b:x.2.2.2.2.1=l.2.2.2.2.1:=by rw[ex];rfl
   have g:x.2.1=(Zf n j z).2.1:=by rw[ex];rfl
   have W:l.1.2.2.2.2.1.1<=l.2.1:=y _ (by rw[ZcP h D G];simp);refine⟨λv a=>?_,λ_ v a=>by rw[f];rw[b]at a;exact I G v a⟩;rw[ZcP h t e,b,Vo,Vk]at a;rw[g];rcases a with a|rfl
   ·have:=I G v a;omega
   ·rw[f];omega
  ·obtain⟨i,c,z,O,A,B,o,S,_,ex⟩:=Hr.1 K;have E:=Zks m C.val o;have R:=Zn0 m O A B;have e:x.1.1=1:=by rw[ex];rfl
   have f:x.1.2.2.2.2.1.1=(Zf n i c).2.2.1:=by rw[ex];rfl
   have b:x.2.2.2.2.1=(Zq l).2.2.2.2.1:=by rw[ex];rfl
   have g:x.2.1=(Zf n i z).2.1:=by rw[ex];rfl
   refine⟨λv a=>?_,λ_ v a=>by rw[f];rw[b]at a;have:=y v a;omega⟩;rw[ZcP h t e,b,Vo,Vk]at a;rw[g];rcases a with a|rfl
   ·have:=y v a;omega
   ·rw[f];omega
  ·obtain⟨p,T,⟨w1,w2,w3⟩,ex⟩:=HU.1 X;have U:=m.path p T;have w:¬x.1.1=1:=by rw[ex];show¬(2:Int)=1;decide
   refine⟨λv a=>?_,λs=>absurd s w⟩;rw[D8 w]at a;have b:x.2.2.2.2.1=(Zq l).2.2.2.2.1:=by rw[ex];rfl
   have g:x.2.1=l.2.1+p.2.2.1:=by rw[ex];show (Zq l).2.1+p.2.2.1=_;rw[Z]
   rw[b]at a;have:=y v a;rw[g];omega
theorem Zm5(h:Cx n q d hF){l:Zx}(c:Rc n (ZG (Kh q d)) (KC n (ZG (Kh q d))) l)(a:JY n.2.2.2.2.2.1 hF (Z7 (Zq l).2.2.2.2.1)):JY n.2.2.2.2.2.1 hF (Z7 l.2.2.2.2.1):=by
 by_cases b:l.1.1=1
 ·rw[ZcP h c b]at a;exact a.init ((ZvI h c).2 b)
 ·rw[D8 b]at a;exact a
end Q
namespace Q
open Tr Go
variable {n:Zc}{q:Zl}{d:Int}{hF:FO n.2.2.2.2.2.1}{x:FX}
abbrev Gd(F:ZR)(hF:FO F)(A B:List ZF):Prop:=Dm.Dom (Gz F hF.fareOk) F.1.length (A.map K0) (B.map K0)
theorem Gd.snoc{F:ZR}{hF:FO F}{A B:List ZF}(h:Gd F hF A B)(r:ZF):Gd F hF (A++[r]) (B++[r]):=by unfold Gd;rw[Vt,Vt];exact Dm.Dom.snoc h _
def Za6(F:ZR)(hF:FO F)(m y:ZZ):Prop:=m.1=y.1/\m.2.1<=y.2.1/\m.2.2.1<=y.2.2.1/\m.2.2.2.1<=y.2.2.2.1/\m.2.2.2.2.1<=y.2.2.2.2.1/\(y.2.2.2.2.2.1=Uc->m.2.2.2.2.2.1=Uc)/\Gd F hF (Z7 m.2.2.2.2.2.2.1) (Z7 y.2.2.2.2.2.2.1)
theorem Za6.trans{F:ZR}{hF:FO F}{a b c:ZZ}(h:Za6 F hF a b)(k:Za6 F hF b c):Za6 F hF a c:=by obtain⟨e,f,g,i,j,l,m⟩:=h;obtain⟨o,p,r,s,t,v,w⟩:=k;exact⟨e.trans o,Vda f p,Vda g r,Vda i s,Vda j t,λh=>l (v h),Dm.Dom.trans m w⟩
theorem Zr9{F:ZR}{hF:FO F}{m y:ZZ}(b:W6 F hF n m)(c:W6 F hF n y)(k:m.1=y.1)(h:W9 F m y=Uc):Za6 F hF m y:=by
 unfold W9 at h;simp only[Vz,Kx,Bool.or_eq_true,Vya]at h;obtain⟨e,f,g,i,a,j⟩:=h;refine⟨k,e,f,g,i,λl=>?_,Zsr hF b.fare c.fare b.rok c.rok j⟩;rcases a with a|a
 ·exact a
 ·rw[l]at a;cases a
def CvB(F:ZR)(hF:FO F)(x:FX)(y:ZZ):Prop:= ∃m∈JG x y.1,Za6 F hF m y
theorem ZkU{F:ZR}{hF:FO F}{N:Nat}(e:Xu F hF n q x N){y:ZZ}(g:W6 F hF n y)(h:Gc F x y):CvB F hF x y:=by
 obtain⟨m,f,i⟩:=h;have k:=g.stop;have a:=f;unfold JG at a;have c:y.1.toNat<(KG x).length:=by rw[e.rows];omega
 rw[Vc c]at a;have b:m∈(KG x)[y.1.toNat]:=a;have j:=(e.bag _ _ (Vc c)).1 m b;exact⟨m,f,Zr9 (e.lab.1 _ (Vi c) m b) g (by omega) i⟩
def GM(F:ZR)(hF:FO F)(n:Zc)(q:Zl)(x:FX)(l:Zx):Prop:= ∃(K:Nat) (p:Zx) (i b c:Nat) (st:Bool) (v:ZF),i<n.2.2.1.length/\b<c/\c<(Zp n i).length/\HP n q p i<K+1/\PB F hF q p/\Small v/\Jc v.1/\
 (∀y∈GC (WT n q K) n q (ZH n p i b c st v),Gc F x y)/\(ZH n p i b c st v).1=l.1/\(ZH n p i b c st v).2.1=l.2.1/\p.2.2.1<=l.2.2.1/\p.2.2.2.1<=l.2.2.2.1/\Gd F hF (Z7 p.2.2.2.2.1) (Z7 l.2.2.2.2.1)
theorem ZmF{F:ZR}{hF:FO F}{K:Nat}{p:Zx}{i b c:Nat}{st:Bool}{v:ZF}{l:Zx}(w:i<n.2.2.1.length)(o:b<c)(r:c<(Zp n i).length)(a:Yc n i=Ud)(t:HP n q p i<K)(z:PB F hF q p)(A:Small v)(s:Jc v.1)(f:∀y∈WT n q K p i b st v,Gc F x y)
 (g:(ZH n p i b c st v).1=l.1) (h:(ZH n p i b c st v).2.1=l.2.1) (j:p.2.2.1<=l.2.2.1) (k:p.2.2.2.1<=l.2.2.2.1) (m:Gd F hF (Z7 p.2.2.2.2.1) (Z7 l.2.2.2.2.1)):GM F hF n q x l:=by
 obtain⟨e,rfl⟩:∃e,K=e+1:=⟨K - 1,by omega⟩;refine⟨e,p,i,b,c,st,v,w,o,r,t,z,A,s,λy B=>f y ?_,g,h,j,k,m⟩;unfold WT;rw[Zg (by rw[a];simp)];refine Vb.2 ⟨c - (b+1),Vl.2 (by omega),?_⟩;rw[show b+1+(c - (b+1))=c by omega];exact B
theorem ZmG(h:Cx n q d hF){l:Zx}(w:Rc n (ZG (Kh q d)) (KC n (ZG (Kh q d))) l)(k1:l.1.1=1)(y:JY n.2.2.2.2.2.1 hF (Z7 (Zq l).2.2.2.2.1)){p:Zx}{i b c:Nat}{st:Bool}{v:ZF}(t:i<n.2.2.1.length)(o:b<c)(r:c<(Zp n i).length)(g:PB n.2.2.2.2.2.1 hF q p)(z:Small v)(s:Jc v.1)
 (j:(ZH n p i b c st v).1=l.1) (k:Gd n.2.2.2.2.2.1 hF (Z7 p.2.2.2.2.1) (Z7 l.2.2.2.2.1)):HY (XX (ZH n p i b c st v)).2.2.2.2.1=Uc/\Gd n.2.2.2.2.2.1 hF (Z7 (Zq (ZH n p i b c st v)).2.2.2.2.1) (Z7 (Zq l).2.2.2.2.1):=by
 obtain⟨e,A⟩:=Zeu (st:=st) h.whole.ok h.max g t o r z s;have m:l.1.2.2.2.2.1=Jw n v (ZM n i b c st):=by rw[<-j];rfl
 have a:Gd n.2.2.2.2.2.1 hF (Z7 (Zq (ZH n p i b c st v)).2.2.2.2.1) (Z7 (Zq l).2.2.2.2.1):=by rw[Hu e,ZcP h w k1,m];exact k.snoc _
 refine⟨?_,a⟩;have f:Zq (ZH n p i b c st v)=XX (ZH n p i b c st v):=by unfold Zq;rw[Zn (show (ZH n p i b c st v).1.1=1 from rfl)]
 rw[<-f];refine(Zvc e).2 ?_;rw[Hu e]at a;exact y.dom a
theorem ZuQ(h:Cx n q d hF){N:Nat}(S:Xu n.2.2.2.2.2.1 hF n q x N){l:Zx}(O:Rc n (ZG (Kh q d)) (KC n (ZG (Kh q d))) l)(k1:l.1.1=1)(a:Jh n l=Uc)(R:JY n.2.2.2.2.2.1 hF (Z7 (Zq l).2.2.2.2.1))(Q:GM n.2.2.2.2.2.1 hF n q x l):CvB n.2.2.2.2.2.1 hF x (Kj n l):=by
 obtain⟨K,p,i,b,c,st,v,y,B,s,T,g,D,C,t,k,A,E,G,H⟩:=Q;obtain⟨J,M⟩:=ZmG h O k1 R y B s g D C k H;have e:Jh n (ZH n p i b c st v)=true:=by unfold Jh at a⊢;rw[k];exact a
 have f:Kj n (ZH n p i b c st v)∈GC (WT n q K) n q (ZH n p i b c st v):=by unfold GC Yh;rw[Zn ⟨e,J⟩];simp
 obtain⟨o,I⟩:=Zeu (st:=st) h.whole.ok h.max g y B s D C;have z:W6 n.2.2.2.2.2.1 hF n (Kj n (ZH n p i b c st v)):=by
  refine⟨?_,?_,h.whole.ok.stop y s⟩
  ·show JJ _ hF (Z7 (Zq (ZH n p i b c st v)).2.2.2.2.1) (Zq (ZH n p i b c st v)).2.2.2.2.1;rw[Hu o];exact o
  ·show∀w∈Z7 (Zq (ZH n p i b c st v)).2.2.2.2.1,JC w;rw[Hu o];exact I
 obtain⟨m,P,r⟩:=ZkU S z (t _ f);have j:(Kj n (ZH n p i b c st v)).1=(Kj n l).1:=by show (ZH n p i b c st v).1.2.1=l.1.2.1;rw[k]
 refine⟨m,by rw[<-j];exact P,r.trans ⟨j,Int.le_of_eq A,?_,E,G,λ_=>rfl,M⟩⟩;show (if (ZH n p i b c st v).1.1=1 then(ZH n p i b c st v).2.1+HL n (ZH n p i b c st v).1.2.1 else(ZH n p i b c st v).2.1)<=(if l.1.1=1 then l.2.1+HL n l.1.2.1 else l.2.1);rw[Zn k1,Zn (show (ZH n p i b c st v).1.1=1 from rfl),k,A];exact Vr _
theorem ZnK(g:WO n){i c j e:Nat}{st:Bool}(h:isLink n i c j e st):∃k∈W4 n i,lk n k=((i:Int),(c:Int),(j:Int),(e:Int),st,()):=by
 obtain⟨k,b,f⟩:=Vaa h;have a:lk n k=((i:Int),(c:Int),(j:Int),(e:Int),st,()):=by rw[<-f];unfold lk;exact Ks b _
 refine⟨k,?_,a⟩;unfold W4;rw[Vw,Vl];exact⟨b,by rw[a];simp⟩
theorem ZuS(h:Cx n q d hF){l:Zx}(W:GM n.2.2.2.2.2.1 hF n q x l){i c j e:Nat}(N:l.1.2.2.1=(i:Int))(M:l.1.2.2.2.1=(c:Int))(D:isLink n i c j 0 Uc)(U:j<n.2.2.1.length)(t:0<e)(R:e<(Zp n j).length)(g:Yc n j=Ud)(Y:l.2.1<=(Zf n j 0).2.2.1):
 GM n.2.2.2.2.2.1 hF n q x (ZH n l j 0 e Uc l.1.2.2.2.2.1):=by
 obtain⟨K,p,f,b,a,st,v,T,O,P,S,A,Z,Q,s,o,E,G,H,I⟩:=W;have C:=h.whole.ok;have m:=Zb4 C st T O P Z Q;have J:l.1.2.2.2.2.1=Jw n v (ZM n f b a st):=by rw[<-o];rfl
 have w:f=i:=by
  have:((f:Nat):Int)=(i:Int):=by rw[<-N,<-o];rfl
  omega
 have r:a=c:=by
  have:((a:Nat):Int)=(c:Int):=by rw[<-M,<-o];rfl
  omega
 subst w;subst r;obtain⟨k,V,z⟩:=ZnK C D;have X:=Zdz h.whole (show j<7 by have:=h.tin.runs;omega) (ZdF h.whole D);rw[J];refine ZmF (p:=ZH n p f b a st v) U t R g (K:=K) ?_ (A.stay f b a st v) m.1 m.2.1 (λy hy=>s y ?_) rfl rfl G H I
 ·unfold HP at S⊢;have:K8 q (ZH n p f b a st v)=K8 q p:=rfl;omega
 ·unfold GC;refine Vga _ (Vb.2 ⟨k,V,?_⟩);unfold Hq;rw[z];simp only[Vm];rw[Zg,Zn trivial]
  ·exact hy
  ·rintro (B|B)
   ·exact B rfl
   ·rw[E]at B;omega
theorem Zio{l:Zx}{K:Nat}{pb:Zx}{j b e:Nat}(g:j<n.2.2.1.length)(c:b<e)(o:e<(Zp n j).length)(m:WO n)(a:Yc n j=Ud)(p:HP n q pb j<K)(r:PB n.2.2.2.2.2.1 hF q pb)(f:∀y∈WT n q K pb j b Ud (Jr (Zf n j b).2.2.1),Gc n.2.2.2.2.2.1 x y)
 (h:pb.2.2.1<=(Zq l).2.2.1+1) (i:pb.2.2.2.1<=(Zq l).2.2.2.1) (k:Gd n.2.2.2.2.2.1 hF (Z7 pb.2.2.2.2.1) (Z7 (Zq l).2.2.2.2.1)):GM n.2.2.2.2.2.1 hF n q x (ZH n (Yq n (Zq l) j b) j b e Ud (Jr (Zf n j b).2.2.1)):=by
 have s:=m.time g (show b<(Zp n j).length by omega);exact ZmF g c o a p r (ZbS _) ⟨by show 0<=(Zf n j b).2.2.1;omega,by show (Zf n j b).2.2.1<=_;omega⟩ f rfl rfl h i k
theorem ZuR(h:Cx n q d hF){l:Zx}(hl:Rc n (ZG (Kh q d)) (KC n (ZG (Kh q d))) l)(k1:l.1.1=1)(g:Jh n l=Uc)(hp:JY n.2.2.2.2.2.1 hF (Z7 (Zq l).2.2.2.2.1))(hn:GM n.2.2.2.2.2.1 hF n q x l)(hm:l.2.2.1<q.2.2.2.2.1)
 {j b e:Nat} (hj:j<n.2.2.1.length) (G:b<e) (he:e<(Zp n j).length) (o:Yc n j=Ud) (E:(Zf n j b).2.2.2.1=Uc) (a0:l.2.1<=(Zf n j b).2.2.1) (t:DJ n l j b=Uc):GM n.2.2.2.2.2.1 hF n q x (ZH n (Yq n (Zq l) j b) j b e Ud (Jr (Zf n j b).2.2.1)):=by
 have D:=h.whole.ok;obtain⟨s1,s2,s3,s4,s5⟩:=Gt l;obtain⟨K,p,i,f,c,st,v,T,Q,R,hh,A,V,S,H,C,X,e3,Y,Z⟩:=hn;obtain⟨g1,g2⟩:=ZmG h hl k1 hp T Q R A V S C Z;have m:Jh n (ZH n p i f c st v)=true:=by unfold Jh at g⊢;rw[C];exact g
 have z:Yh n (ZH n p i f c st v)≠ []:=by unfold Yh;rw[Zn ⟨m,g1⟩];simp
 have r:isLink n i c j b false:=by
  unfold DJ at t;obtain⟨k,I,s⟩:=Vfa.1 t;simp only[Vz,Kx,Vya]at s;obtain⟨W,_,M,N,O,P⟩:=s;have r1:l.1.2.2.1=(i:Int):=by rw[<-C];rfl
  have r2:l.1.2.2.2.1=(c:Int):=by rw[<-C];rfl
  unfold isLink;obtain⟨a1,a2,a3,a4,a5,⟨⟩⟩:=k;simp only at W M N O P;rw[r1]at M;rw[r2]at N;rw[<-M,<-N,<-O,<-P,<-W];exact I
 obtain⟨k,I,w⟩:=ZnK D r;have a:(Kj n (ZH n p i f c st v)).2.2.2.1<q.2.2.2.2.1:=by show p.2.2.1<_;omega
 have B:=A.beg (st:=st) D h.max T Q R V S a;refine Zio (pb:=Ji (Kj n (ZH n p i f c st v))) (K:=K) hj G he D o ?_ B (λy hy=>H y ?_) ?_ ?_ g2
 ·unfold HP at hh⊢;have O:K8 q (Ji (Kj n (ZH n p i f c st v)))=(q.2.2.2.2.1 - (p.2.2.1+1)).toNat:=rfl;have P:K8 q p=(q.2.2.2.2.1 - p.2.2.1).toNat:=rfl;have U:p.2.2.1<q.2.2.2.2.1:=a;have:=ZaW (n:=n) j;omega
 ·unfold GC;refine Vga _ (Vb.2 ⟨k,I,?_⟩);unfold Hq;rw[w];simp only[Vm];rw[Zg,Zg (by simp),Zn ⟨z,E⟩]
  ·unfold Yp;rw[Zn a];exact hy
  ·rintro (J|J)
   ·exact J rfl
   ·rw[X]at J;omega
 ·show p.2.2.1+1<=_;rw[s3];omega
 ·show p.2.2.2.1<=_;rw[s4];exact Y
end Q
namespace Q
open Tr Go
variable {n:Zc}{q:Zl}{d:Int}{hF:FO n.2.2.2.2.2.1}{x:FX}
def Zcr(d:Int)(l:Zx):Prop:= ∃y L,l.2.2.2.2.2.1=y::L/\y.2.2.2.2.2.2.1=d
theorem ZhT{l g:Zx}{z:Zw}(e:g.2.2.2.2.2.1=l.2.2.2.2.2.1++[z])(c:l.2.2.2.2.2.1≠ [])(h:Zcr d g):Zcr d l:=by
 obtain⟨y,L,f,i⟩:=h
 cases b:l.2.2.2.2.2.1 with
 |nil=>exact absurd b c
 |cons a K=>
  rw[e,b,Vdb]at f;obtain⟨rfl,_⟩:=List.cons.inj f;exact⟨a,K,b,i⟩
theorem Zno(h:Cx n q d hF){l:Zx}(g:Rc n (ZG (Kh q d)) (KC n (ZG (Kh q d))) l)(c:l.2.2.1=0):l=KC n (ZG (Kh q d))\/∃p∈n.2.2.2.2.1,Zbs (ZG (Kh q d)) (KC n (ZG (Kh q d))) p/\l=Xc (KC n (ZG (Kh q d))) p:=by
 have key:∀{l:Zx},Rc n (ZG (Kh q d)) (KC n (ZG (Kh q d))) l->l.2.2.1=0->l.1.1≠1:=by intro l g c w;have o:=(h.li g).cnt;rw[Zn w]at o;omega
 cases g with
 |start=>exact .inl rfl
 |step b i=>
  rename_i f;rcases XF.1 i with ⟨_,s⟩|⟨_,m⟩|⟨_,y,t⟩
  ·obtain⟨_,_,_,_,_,_,_,rfl⟩:=G3.1 s;exact absurd rfl (key (.step b i) c)
  ·obtain⟨_,_,_,_,_,_,_,_,_,rfl⟩:=Hr.1 m;exact absurd rfl (key (.step b i) c)
  ·obtain⟨p,r,a,rfl⟩:=HU.1 t;obtain⟨A,B,z,C,D⟩:=Gt f;have j:f.2.2.1=0:=by have:(Zq f).2.2.1=0:=c;rw[z]at this;exact this
   have v:f.1.1=0:=by
    rcases (h.li b).kinds with k|k|k
    ·exact k
    ·exact absurd k (key b j)
    ·exact absurd k y
   have e:=ZtW b v;subst e;rw[D8 (by show¬(0:Int)=1;decide)]at a⊢;exact .inr ⟨p,r,a,rfl⟩
theorem Znn(h:Cx n q d hF){l:Zx}(a:Rc n (ZG (Kh q d)) (KC n (ZG (Kh q d))) l):0<=l.2.2.1/\l.2.2.1<=q.2.2.2.2.1:=(h.li a).val.rides
theorem ZmD(h:Cx n q d hF)(k:∀z∈Yj n q (Kt n q) d,Gc n.2.2.2.2.2.1 x z)(f:0<q.2.2.2.2.1)(a:0<=q.1/\q.1<(n.1.length:Int)){w:Xh}(v:w∈Kt n q){l:Zx}(A:(Zq l).2.2.1=0)(B:w.2.1<=(Zq l).2.2.2.1)(C:(Zq l).2.2.2.2.1=st0 n.2.2.2.2.2.1)
 {j b e:Nat} (t:j<n.2.2.1.length) (i:b<e) (E:e<(Zp n j).length) (c:Yc n j=Ud) (D:Zbq n d w j b):GM n.2.2.2.2.2.1 hF n q x (ZH n (Yq n (Zq l) j b) j b e Ud (Jr (Zf n j b).2.2.1)):=by
 have g:=h.whole.ok;have m:0<=w.1/\w.1<(n.1.length:Int)/\0<=w.2.1/\w.2.1<=14400:=by
  rcases Zgc v with ⟨r,s⟩|⟨p,G,I,J,r,s⟩
  ·rw[r,s];exact⟨a.1,a.2,Vr _,by omega⟩
  ·have:=g.path p G;rw[r,s];omega
 have o:=Zjk (hF:=hF) (q:=q) g (Int.le_of_lt f) h.mom m;refine Zio (pb:=Ji (Ho n q d w)) (K:=100) t i E g c ?_ (o.pb f) (λy H=>k y ?_) ?_ B ?_
 ·unfold HP;have M:K8 q (Ji (Ho n q d w))=(q.2.2.2.2.1 - (0+1)).toNat:=rfl;have:=ZaW (n:=n) j;have:=h.max;omega
 ·unfold Yj;refine Vb.2 ⟨w,v,?_⟩;unfold H8;refine Vb.2 ⟨j,Vl.2 t,Vb.2 ⟨b,Vl.2 (by omega),?_⟩⟩;rw[Zn D];unfold YQ Yp;rw[Zn (show (Ho n q d w).2.2.2.1<q.2.2.2.2.1 from f)];exact H
 ·rw[A];exact Vr _
 ·rw[C];exact Dm.Dom.refl _
theorem Zr1(h:Cx n q d hF){B N:Nat}(hI:Do n.2.2.2.2.2.1 hF n q (Gl n q d) B x N)(ho:Ju x=[])(a6:∀z∈Yj n q (Kt n q) d,Gc n.2.2.2.2.2.1 x z)(E:0<=q.1/\q.1<(n.1.length:Int)){l:Zx}(hl:Rc n (ZG (Kh q d)) (KC n (ZG (Kh q d))) l):Zcr d l->0<l.2.2.1->
 (l.1.1=1->JY n.2.2.2.2.2.1 hF (Z7 l.2.2.2.2.1)->GM n.2.2.2.2.2.1 hF n q x l)/\((l.1.1=1->Jh n l=Uc)->JY n.2.2.2.2.2.1 hF (Z7 (Zq l).2.2.2.2.1)->CvB n.2.2.2.2.2.1 hF x (Kj n l)):=by
 have hN:=h.whole.ok;have H:∀m,(∃s:Int,m∈JG x s)->Gl n q d m/\∀z∈Xp n q m,CvB n.2.2.2.2.2.1 hF x z/\Gc n.2.2.2.2.2.1 x z:=by
  rintro m ⟨s,O⟩;unfold JG at O;have t:∃r∈KG x,m∈r:=by
   cases t:(KG x)[s.toNat]? with
   |none=>rw[t]at O;cases O
   |some r=>rw[t]at O;exact⟨r,Vx t,O⟩
  obtain⟨r,t,a2⟩:=t;have hs:=hI.snd.1 r t m a2;refine⟨hs,λz Y=>?_⟩;rcases hI.cls r t m a2 with X|X
  ·rw[ho]at X;cases X
  ·exact⟨ZkU hI.fin (ZfP h (Zmz h hs z Y)).ok (X z Y),X z Y⟩
 induction hl with
 |start=>intro _ t;exact absurd t (by show¬(0:Int)<0;decide)
 |step t hx ih=>
  rename_i l a;intro M d8;have a4:=Rc.step t hx;have f:=h.li t;obtain⟨s1,s2,s3,s4,s5⟩:=Gt l;have e5:=Znn h t;have fin:a.1.1=1->(JY n.2.2.2.2.2.1 hF (Z7 a.2.2.2.2.1)->GM n.2.2.2.2.2.1 hF n q x a)->(a.1.1=1->JY n.2.2.2.2.2.1 hF (Z7 a.2.2.2.2.1)->GM n.2.2.2.2.2.1 hF n q x a)/\((a.1.1=1->Jh n a=Uc)->JY n.2.2.2.2.2.1 hF (Z7 (Zq a).2.2.2.2.1)->CvB n.2.2.2.2.2.1 hF x (Kj n a)):=
   λk hn=>⟨λ_=>hn,λC A=>ZuQ h hI.fin a4 k (C k) A (hn (Zm5 h a4 A))⟩
  rcases XF.1 hx with ⟨S,hs⟩|⟨C,hb⟩|⟨C,k2,hw⟩
  ·
   obtain⟨k,b,⟨c1,c2,c3,b0,d2⟩,e,b9,he,_,ex⟩:=G3.1 hs;obtain⟨r,d0,j,d',sy,c5,_,hj,_,_,_,_,d1⟩:=hN.link _ b;subst c5;have a9:sy=true:=c1;subst a9;obtain⟨_,rfl⟩:=d1 rfl;simp only[Vm]at*;have hc:=f.cnt;rw[Zn S]at hc;have v:a.2.2.2.2.2.1=l.2.2.2.2.2.1++[ZM n j 0 e Uc]:=by rw[ex];rfl
   have hh:=ZhT v (f.some (by omega)) M;refine fin (by rw[ex];rfl) λA=>?_;rw[ex];have Z:a.2.2.2.2.1=l.2.2.2.2.1:=by rw[ex];rfl
   rw[Z]at A;exact ZuS h ((ih hh (by omega)).1 S A) c2.symm c3.symm b hj b9 he b0 d2
  ·
   obtain⟨i,c,e,hi,J,he,⟨g1,g2,g3,g4,g5⟩,a3,_,ex⟩:=Hr.1 hb;rw[s3]at a3;have d7:l.2.2.1≠q.2.2.2.2.1:=a3;have c6:l.2.2.1<q.2.2.2.2.1:=by omega
   refine fin (by rw[ex];rfl) λA=>?_;have Z:a.2.2.2.2.1=(Zq l).2.2.2.2.1:=by rw[ex];rfl
   rw[Z]at A;rw[ex];rw[s1]at g3;by_cases Y:l.2.2.1=0
   ·obtain⟨y,L,y1,y2⟩:=M;have v:a.2.2.2.2.2.1=WP l.2.2.2.2.2.1 (Zf n i c).2.2.1++[ZM n i c e Ud]:=by rw[ex];show WP (Zq l).2.2.2.2.2.1 _++_=_;rw[s5]
    rw[v]at y1;rcases Zno h t Y with e0|⟨p,W,b8,e0⟩
    ·have D:Zq l=l:=D8 (by rw[e0];show¬(0:Int)=1;decide);refine ZmD h a6 (by omega) E (w:=(q.1,0,())) (by unfold Kt;simp) (by rw[s3];exact Y) ?_ ?_ hi J he g1 ⟨?_,g2,?_⟩
     ·rw[D,e0];exact Vr 0
     ·rw[D,e0];rfl
     ·rw[g3,e0];rfl
     ·have U:l.2.2.2.2.2.1=[]:=by rw[e0];rfl
      rw[U]at y1;have:y=ZM n i c e false:=by have d5: [ZM n i c e Ud]=y::L:=y1;exact(List.cons.inj d5).1.symm
      rw[this]at y2;show (Zf n i c).2.2.1=d+0;have d6:(Zf n i c).2.2.1=d:=y2;omega
    ·have D:Zq l=l:=D8 (by rw[e0];show¬(2:Int)=1;decide);have P:p.1=q.1/\0+p.2.2.1<=q.2.2.2.2.2.1/\_:=b8;refine ZmD h a6 (by omega) E (w:=(p.2.1,p.2.2.1,())) ?_ (by rw[s3];exact Y) ?_ ?_ hi J he g1 ⟨?_,g2,?_⟩
     ·unfold Kt;refine Vy _ (Vca.2 ⟨p,Vw.2 ⟨W,?_⟩,rfl⟩);rw[Zi P.1,Zi (show p.2.2.1<=q.2.2.2.2.2.1 by have:=P.2.1;omega)];rfl
     ·rw[D,e0];show p.2.2.1<=0+p.2.2.1;omega
     ·rw[D,e0];rfl
     ·rw[g3,e0];rfl
     ·have U:l.2.2.2.2.2.1=[KA q.1 p.2.1 d (d+p.2.2.1)]:=by rw[e0];rfl
      rw[U,(ZjT q.1 p.2.1 d d p.2.2.1 (Zf n i c).2.2.1).1]at y1;have:y=KA q.1 p.2.1 ((Zf n i c).2.2.1 - p.2.2.1) (Zf n i c).2.2.1:=(List.cons.inj y1).1.symm;rw[this]at y2;have d6:(Zf n i c).2.2.1 - p.2.2.1=d:=y2;show (Zf n i c).2.2.1=d+p.2.2.1;omega
   ·have g:0<l.2.2.1:=by omega
    have v:a.2.2.2.2.2.1=l.2.2.2.2.2.1++[ZM n i c e Ud]:=by rw[ex];show WP (Zq l).2.2.2.2.2.1 _++_=_;rw[s5,ZgH f g]
    have G:l.1.1≠0:=λb=>by have:=(f.zero b).2.1;omega
    have hh:=ZhT v (f.some G) M;obtain⟨d4,d3⟩:=ih hh g;by_cases c4:XC n (ZG (Kh q d)) l<=(Zf n i c).2.2.1
    ·obtain⟨m,O,b1,b2,b3,b4,b5,b6,b7⟩:=d3 C A;obtain⟨a5,V⟩:=H m ⟨_,O⟩;have a7:=ZfP h a5;have c9:(Kj n l).2.2.1=XC n (ZG (Kh q d)) l:=by
      unfold Kj XC;rcases f.kinds with b|b|b
      ·exact absurd b G
      ·simp only[Zn b]
      ·simp only[Zg (show¬l.1.1=1 by omega),Zn b]
     have e1:m.2.2.2.1<=l.2.2.1:=b4;have Q:m.2.2.2.1<q.2.2.2.2.1:=by omega
     refine Zio (pb:=Ji m) (K:=100) hi J he hN g1 ?_ (a7.pb Q) (λy hy=>?_) ?_ ?_ b7
     ·unfold HP;have q5:K8 q (Ji m)=(q.2.2.2.2.1 - (m.2.2.2.1+1)).toNat:=rfl;have:=ZaW (n:=n) i;have:=h.max;have:=a7.cnt;omega
     ·refine(V y ?_).2;unfold Xp Da;refine List.mem_append_left _ (Vb.2 ⟨i,Vl.2 hi,Vb.2 ⟨c,Vl.2 (by omega),?_⟩⟩);rw[Zn ⟨by rw[g3,b1];rfl,g2,by rw[c9]at b3;omega⟩];unfold YQ Yp;rw[Zn Q];exact hy
     ·show m.2.2.2.1+1<=_;rw[s3];omega
     ·show m.2.2.2.2.1<=_;rw[s4];exact b5
    ·rcases g5 with g5|⟨g5,g6⟩
     ·exact absurd g5 c4
     ·rw[s2]at g5;have T:DJ n l i c=true:=by unfold DJ at g6⊢;rw[s1]at g6;exact g6
      have S:l.1.1=1:=by unfold DJ at T;obtain⟨k,b,a0⟩:=Vfa.1 T;simp only[Vz,Kx]at a0;exact a0.2.1
      exact ZuR h t S (C S) A (d4 S (Zm5 h t A)) c6 hi J he g1 g2 g5 T
  ·
   obtain⟨p,W,⟨w1,w2,w3⟩,ex⟩:=HU.1 hw;rw[s1]at w1;rw[s4]at w2;rw[s2]at w3;have I:¬a.1.1=1:=by rw[ex];show¬(2:Int)=1;decide
   have e3:a.2.2.1=l.2.2.1:=by rw[ex];show (Zq l).2.2.1=_;rw[s3]
   have g:0<l.2.2.1:=by omega
   have G:l.1.1≠0:=λb=>by have:=(f.zero b).2.1;omega
   have S:l.1.1=1:=by
    rcases f.kinds with b|b|b
    ·exact absurd b G
    ·exact b
    ·exact absurd b k2
   have v:a.2.2.2.2.2.1=l.2.2.2.2.2.1++[KA (Zq l).1.2.1 p.2.1 (Zq l).2.1 ((Zq l).2.1+p.2.2.1)]:=by rw[ex];show (Zq l).2.2.2.2.2.1++_=_;rw[s5]
   have hh:=ZhT v (f.some G) M;refine⟨λb=>absurd b I,λ_ A=>?_⟩;rw[D8 I]at A;have Z:a.2.2.2.2.1=(Zq l).2.2.2.2.1:=by rw[ex];rfl
   rw[Z]at A;obtain⟨m,O,b1,b2,b3,b4,b5,b6,b7⟩:=(ih hh g).2 C A;obtain⟨a5,V⟩:=H m ⟨_,O⟩;have a8:m.1=l.1.2.1:=b1;have d9:m.2.1<=l.2.1:=b2;have e4:m.2.2.2.2.1<=l.2.2.2.1:=b5;have e6:l.2.2.2.1+p.2.2.1<=q.2.2.2.2.2.1:=w2;have a1:Dj m p∈Xp n q m:=by unfold Xp;refine Vga _ ?_;rw[Zn (b6 (Zi S))];unfold Za4;refine Vb.2 ⟨p,W,?_⟩;rw[Zn ⟨by rw[w1,a8],by omega,by omega⟩];simp
   obtain⟨⟨o,c7,c8⟩,_⟩:=V _ a1;have R:(Dj m p).1=(Kj n a).1:=by rw[ex];rfl
   refine⟨o,by rw[<-R];exact c7,c8.trans ⟨R,?_,?_,?_,?_,λX=>?_,?_⟩⟩
   ·show m.2.1+p.2.2.1<=a.2.1;rw[ex];show _<=(Zq l).2.1+p.2.2.1;rw[s2];omega
   ·show m.2.1+p.2.2.1<=(if a.1.1=1 then a.2.1+HL n a.1.2.1 else a.2.1);rw[Zg I,ex];show _<=(Zq l).2.1+p.2.2.1;rw[s2];omega
   ·show m.2.2.2.1<=a.2.2.1;rw[e3];exact b4
   ·show m.2.2.2.2.1+p.2.2.1<=a.2.2.2.1;rw[ex];show _<=(Zq l).2.2.2.1+p.2.2.1;rw[s4];omega
   ·exact absurd (Xy X) I
   ·show Gd _ hF (Z7 m.2.2.2.2.2.2.1) (Z7 (Zq a).2.2.2.2.1);rw[D8 I,Z];exact b7
end Q
namespace Q
open Tr Go
def Jx(c:Xt):List Int:=[c.1,c.2.1,c.2.2.1]
def X7(c e:Xt):Prop:=c.1=e.1/\c.2.1=e.2.1/\c.2.2.1=e.2.2.1
instance (c e:Xt):Decidable (X7 c e):=by unfold X7;infer_instance
def KI(c e:Xt):Prop:=e.1<=c.1/\c.2.1<=e.2.1/\c.2.2.1<=e.2.2.1
instance (c e:Xt):Decidable (KI c e):=by unfold KI;infer_instance
theorem KI.refl(c:Xt):KI c c:=⟨Vr _,Vr _,Vr _⟩
theorem KI.trans{a b c:Xt}(h:KI a b)(k:KI b c):KI a c:=by unfold KI at*;omega
def Jf(c:Xt)(x:Wn):Bool:=Ue (¬X7 c x.2.1/\KI c x.2.1)
theorem Zf8{c e:Xt}:Jx c=Jx e↔X7 c e:=by unfold Jx X7;simp
theorem ZhB:∀a b:List Int,a.length=b.length->Tr.eqEl.eqs (Tr.eqEl (.int .i64)) a b=Ua (Ue (a=b))
 |[],[],_=>rfl
 |[],_::_,h=>by cases h
 |_::_,[],h=>by cases h
 |x::a,y::b,h=>by have c:=ZhB a b (by grind);unfold Tr.eqEl.eqs;rw[c];simp only[Tr.eqEl,Za];simp
theorem Zm6(c e:Xt):F116 (Jx c) (Jx e)=Ua (Ue (¬X7 c e/\KI c e)):=by
 unfold F116;rw[ZhB (Jx c) (Jx e) rfl];have g:∀c:Xt,(Jx c)[Via (0:Int)]? =Ua c.1/\(Jx c)[Via (1:Int)]? =Ua c.2.1/\(Jx c)[Via (2:Int)]? =Ua c.2.2.1:=λc=>⟨rfl,rfl,rfl⟩;simp only[Za,(g c).1,(g c).2.1,(g c).2.2,(g e).1,(g e).2.1,(g e).2.2];by_cases i:X7 c e
 ·rw[Zi (p:=Jx c=Jx e) (Zf8.2 i),Zt (p:= ¬X7 c e/\KI c e) (by grind)];rfl
 rw[Zt (p:=Jx c=Jx e) (λh=>i (Zf8.1 h))];simp only[Vla,Zd];by_cases a:e.1<=c.1
 case neg=>rw[Zt a,Zt (p:= ¬X7 c e/\KI c e) (λh=>a h.2.1)];rfl
 rw[Zi a];by_cases b:c.2.1<=e.2.1
 case neg=>rw[Zt b,Zt (p:= ¬X7 c e/\KI c e) (λh=>b h.2.2.1)];rfl
 rw[Zi b];by_cases f:c.2.2.1<=e.2.2.1
 ·rw[Zi f,Zi (p:= ¬X7 c e/\KI c e) ⟨i,a,b,f⟩];rfl
 ·rw[Zt f,Zt (p:= ¬X7 c e/\KI c e) (λh=>f h.2.2.2)];rfl
theorem ZjM(c:Xt)(x:Wn):F93 x (Jx c)=Ua (Jf c x):=by unfold F93 F113;have h:F116 (Jx c) [x.2.1.1,x.2.1.2.1,x.2.1.2.2.1]=Ua (Jf c x):=Zm6 c x.2.1;grind
theorem ZpB(c:Xt){l:List Wn}(m:l.length<=549755813888):(F176 l (Jx c,())=Ua (-1)/\∀x∈l,Jf c x=Ud)\/∃i,∃a:i<l.length,F176 l (Jx c,())=Ua (i:Int)/\(∀x∈l.take i,Jf c x=Ud)/\Jf c l[i]=true:=by
 unfold F176
 suffices g:∃r:Unit ⊕ Int,_=Ua r/\((r=.inl ()/\∀x∈l,Jf c x=Ud)\/∃i:Nat,∃a:i<l.length,r=.inr (i:Int)/\(∀x∈l.take i,Jf c x=Ud)/\Jf c l[i]=Uc) by
  obtain⟨r,e,f⟩:=g;rcases f with ⟨rfl,h⟩|⟨i,a,rfl,h⟩
  ·exact .inl ⟨Wj (λx=>x=Sum.inl ()) ⟨_,e,rfl⟩ (λx b=>by subst b;rfl),h⟩
  grind
 refine KP l.length (λr:Unit ⊕ Int=>(r=.inl ()/\∀x∈l,Jf c x=Ud)\/∃i:Nat,∃a:i<l.length,r=.inr (i:Int)/\(∀x∈l.take i,Jf c x=Ud)/\Jf c l[i]=Uc) (λi (s:Int)=>s=(i:Int)/\∀x∈l.take i,Jf c x=Ud) ?_ ?_ _ (by simp)
 ·rintro i _ a ⟨rfl,h⟩;have b:idx l (i:Int)=Ua l[i]:=ZJ a;have j:∀w,w∈l.take (i+1)↔w∈l.take i\/w=l[i]:=λw=>by rw[Vf a,Vo,Vk]
  simp only[ZV a,Zd,b,Za,ZjM c]
  cases k:Jf c l[i] with
  |true=>grind
  |false=>
   refine .inl ⟨_,rfl,Z8 a (by omega),λw o=>?_⟩;grind
 simp
theorem Zpx(c:Xt){l:List Wn}(N:l.length<=549755813888):F174 l (Jx c,())=Ua (l.filter λx=> !Jf c x):=by
 unfold F174;rcases ZpB c N with ⟨g,I⟩|⟨b,z,g,I,G⟩
 ·rw[g];simp only[Za,decide_true,Zd];rw[List.filter_eq_self.2 (by grind)]
 ·rw[g];have C:Vg .i64 ((b:Int)+1)=((b+1:Nat):Int):=by rw[ZN (by omega) (by omega)];omega
  simp only[Za,Zt (show¬(b:Int)= -1 by omega),Ze,C];refine Wj (λr:List Wn×Int=>∃k:Nat,r.2=(k:Int)/\k<=l.length/\r.1.length=l.length/\r.1.take k=l.filter λx=> !Jf c x) ?_ ?_
  ·have t:(l.take b).filter (λx=> !Jf c x)=l.take b:=by simp_all
   refine KP (l.length - (b+1)) _ (λr (s:List Wn×Int×Int)=>∃k:Nat,s.2=((k:Int),((b+1+r:Nat):Int))/\k<=b+1+r/\s.1.length=l.length/\(s.1.take k=(l.take (b+1+r)).filter λx=> !Jf c x)/\s.1.drop (b+1+r)=l.drop (b+1+r)) ?_ ?_ _ ⟨b,rfl,by omega,rfl,?_,rfl⟩
   ·rintro r ⟨fr,_⟩ S ⟨k,rfl,v,a,f,h⟩;left;simp only at a f h;have H:b+1+r<l.length:=by omega
    generalize M:b+1+r=i at*;have w:i<fr.length:=by omega
    have y:fr[i]? =Ua l[i]:=by have g:=congrArg List.head? h;rw[Vfb,Vfb,Vc H]at g;omega
    have m:(l.take (i+1)).filter (λx=> !Jf c x)=(l.take i).filter (λx=> !Jf c x)++(if Jf c l[i]=Uc then [] else [l[i]]):=by rw[Vf H,Vma];grind
    have j:fr.drop (i+1)=l.drop (i+1):=by have g:=congrArg (Vza 1) h;rw[Vhb,Vhb]at g;omega
    have p:Ue ((i:Int)<((fr.length:Nat):Int))=true:=by grind
    have D:Vg .i64 ((i:Int)+1)=((b+1+(r+1):Nat):Int):=by rw[ZN (by omega) (by omega)];omega
    have A:b+1+(r+1)=i+1:=by omega
    simp only[p,Zd,KS w,y,Za,ZjM c,D];rw[A]
    cases J:Jf c l[i] with
    |true=>
     rw[Zn J,Vsa]at m
     exact⟨_,rfl,k,rfl,by omega,a,by grind,j⟩
    |false=>
     rw[Zg (by grind)]at m;have o:k<fr.length:=by omega
     have E:Vg .i64 ((k:Int)+1)=((k+1:Nat):Int):=by rw[ZN (by omega) (by omega)];omega
     simp only[Vla,Zd,KS o,Za,Vc o,E];refine⟨_,rfl,k+1,rfl,by omega,by grind,?_,?_⟩
     ·have R:(fr.set k l[i]).take (k+1)=fr.take k++[l[i]]:=by rw[Vf (by grind),List.take_set_of_le (Vv _),List.getElem_set_self]
      grind
     ·rw[List.drop_set_of_lt (by omega)];omega
   ·rintro ⟨fr,_⟩ ⟨k,rfl,v,a,f,_⟩;have e:b+1+(l.length - (b+1))=l.length:=by omega
    rw[e]at f v;rw[Vcb]at f;have p:Ue (((b+1+(l.length - (b+1)):Nat):Int)<((fr.length:Nat):Int))=false:=by grind
    exact⟨(fr,(k:Int)),by grind,k,rfl,v,a,f⟩
   ·rw[Nat.add_zero,Vf z,Vma,t,List.filter_cons_of_neg (by grind)];simp
  ·rintro ⟨fr,_⟩ ⟨k,rfl,v,a,f⟩;simp only at a f;have B:sliceB fr.length fr.length (Ua (k:Int)) Ub=Ua (k,fr.length):=ZdC (by omega);simp only[B,Za];have K:ZD (Ue (k+(fr.length - k)<=fr.length))=Ua ():=by rw[Zi (by omega)];rfl
   rw[K];simp only[Za];generalize T:Vn (fr.length - k) (((([]:List (El K3)),()),((0:Int),(0:Int),(0:Int),(0:Int),(0:Int),()),([]:List (El HI)),()):Wn)=Z;have Q:Z.length=fr.length - k:=by grind
   have O:(Vib k fr++Z++Vza (k+(fr.length - k)) fr).length=fr.length:=by grind
   have P:sliceB (Vib k fr++Z++Vza (k+(fr.length - k)) fr).length (Vib k fr++Z++Vza (k+(fr.length - k)) fr).length Ub (Ua (k:Int))=Ua (0,k):=by unfold sliceB;grind
   grind
def GL(l:List Wn):Prop:=l.Pairwise λx y=>¬KI x.2.1 y.2.1/\ ¬KI y.2.1 x.2.1
theorem Zvd(c e:Xt):F95 c e=Ua (Ue (c.2.2.2.1<e.2.2.2.1\/(c.2.2.2.1=e.2.2.2.1/\c.2.2.2.2.1<e.2.2.2.2.1))):=by unfold F95;grind
theorem Zu8{l:List Wn}(o:Wn)(hl:l.length+1<=549755813888)(D:GL l):∃f,F92 l o=Ua f/\(∀x∈f,x∈l\/x=o)/\(∃y∈f,KI y.2.1 o.2.1)/\(∀x∈l,∃y∈f,KI y.2.1 x.2.1)/\GL f:=by
 unfold F92;have C:∀c:Xt,F113 c=Ua (Jx c):=λc=>rfl;rw[C];simp only[Za]
 suffices X:∃r:List Wn ⊕ List Wn,run
  (λ(e:List Wn×Int)=>
  bif Ue (e.2<(↑(Ve l):Int)) then
  Va (Zv e.2 (Ve e.1)) λZ=>
  Va e.1[Z]? λQ=>
  Va (F113 Q.2.1) λR=>
  Va (Tr.eqEl.eqs (Tr.eqEl (Tr.Ty.int .i64)) R (Jx o.2.1)) λx5=>
  bif x5 then
  Va (F95 o.2.1 Q.2.1) λx6=>
  Va
  (bif x6 then Va (Zv e.2 (Ve e.1)) λS=>Va e.1[S]? λ_=>Ua (List.set e.1 S o) else Ua e.1)
  λx9=>Ua (.inr (.inr x9))
  else
  Va (F116 R (Jx o.2.1)) λI=>
  bif I then Ua (.inr (.inr e.1)) else Ua (.inl (e.1,Vg .i64 (e.2+(1:Int))))
  else Ua (.inr (.inl e.1)))
  (l,(0:Int))=Ua r/\((r=.inl l/\∀x∈l,¬KI x.2.1 o.2.1)\/(∃f,r=.inr f/\(∀x∈f,x∈l\/x=o)/\(∃y∈f,KI y.2.1 o.2.1)/\(∀x∈l,∃y∈f,KI y.2.1 x.2.1)/\GL f)) by
  obtain⟨r,e1,T⟩:=X;rcases T with ⟨rfl,h⟩|⟨f,rfl,h⟩
  ·have hd:=Zpx o.2.1 (l:=l) (by omega);have N:=Vs (λx=> !Jf o.2.1 x) l;have hg:ZD (Ue ((l.filter λx=> !Jf o.2.1 x).length+ [o].length<=ZI))=Ua ():=by have W:(ZI:Nat)=549755813888:=rfl;rw[Zi (by grind)];rfl
   refine⟨(l.filter λx=> !Jf o.2.1 x)++[o],?_,λx k=>?_,⟨o,by simp,KI.refl _⟩,λx k=>?_,?_⟩
   ·grind
   ·grind
   ·cases G:Jf o.2.1 x with
    |true=>
     have:=Xy G
     exact⟨o,by simp,this.2⟩
    |false=>exact⟨x,by grind,KI.refl _⟩
   ·refine List.pairwise_append.2 ⟨List.Pairwise.filter _ D,by simp,λx k y P=>?_⟩;rw[Vk]at P;subst P;obtain⟨v,J⟩:=Vw.1 k;refine⟨h x v,λg=>?_⟩;have B:Jf y.2.1 x=false:=by grind
    unfold Jf at B;have:=of_decide_eq_false B;apply this;refine⟨λm=>h x v ?_,g⟩;unfold X7 at m;unfold KI;omega
  grind
 refine KP l.length _ (λi (s:List Wn×Int)=>s=(l,(i:Int))/\∀x∈l.take i,¬KI x.2.1 o.2.1) ?_ ?_ _ (by simp)
 ·rintro i _ t ⟨rfl,h⟩;have Y:∀w,w∈l.take (i+1)↔w∈l.take i\/w=l[i]:=λw=>by rw[Vf t,Vo,Vk]
  have p:=Vi t;have A:=Vc t;simp only[ZV t,Zd,KS t,A,Za,C,ZhB _ _ (show (Jx (l[i]).2.1).length=(Jx o.2.1).length from rfl),Zm6,Zvd];by_cases m:X7 (l[i]).2.1 o.2.1
  ·right;rw[Zi (Zf8.2 m)];simp only[Zd];by_cases M:o.2.1.2.2.2.1<(l[i]).2.1.2.2.2.1\/(o.2.1.2.2.2.1=(l[i]).2.1.2.2.2.1/\o.2.1.2.2.2.2.1<(l[i]).2.1.2.2.2.2.1)
   ·rw[Zi M];simp only[Zd,Za];have U:KI o.2.1 (l[i]).2.1:=by unfold X7 at m;unfold KI;omega
    have H:o∈l.set i o:=Vua.2 (by grind);refine⟨_,rfl,.inr ⟨l.set i o,rfl,by grind,⟨o,H,KI.refl _⟩,λx k=>?_,?_⟩⟩
    ·obtain⟨j,hj,rfl⟩:=Vaa k;by_cases V:i=j
     ·grind
     ·exact⟨l[j],Vua.2 (by grind),KI.refl _⟩
    ·refine Vna.2 λa b K z E=>?_;rw[Veb]at K z;have O:=Vna.1 D a b K z E;rw[Vpa,Vpa];unfold X7 at m;by_cases v:i=a
     ·subst v;rw[Zn rfl,Zg (by omega)];unfold KI at O⊢;omega
     ·rw[Zg v];by_cases J:i=b
      ·subst J;rw[Zn rfl];unfold KI at O⊢;omega
      grind
   ·rw[Zt M];simp only[Ze,Za];refine⟨_,rfl,.inr ⟨l,rfl,by grind,⟨l[i],p,?_⟩,λx k=>⟨x,k,KI.refl _⟩,D⟩⟩;unfold X7 at m;unfold KI;omega
  ·rw[Zt (λh=>m (Zf8.1 h))];simp only[Ze];by_cases g:KI (l[i]).2.1 o.2.1
   ·right;rw[Zi ⟨m,g⟩];simp only[Zd];exact⟨_,rfl,.inr ⟨l,rfl,by grind,⟨l[i],p,g⟩,λx k=>⟨x,k,KI.refl _⟩,D⟩⟩
   ·left;rw[Zt (by grind)];simp only[Ze];refine⟨_,rfl,by rw[Z8 t (by omega)],λw hw=>?_⟩;grind
 grind
end Q
namespace Q
open Tr Go
variable {n:Zc}{q:Zl}
theorem Zim:∀(l:List Int) (x y:Int),y∈YR x l->y∈l
 |[],_,_,h=>by cases h
 |z::l,x,y,h=>by
  unfold YR at h
  cases a:Ue (z=x) with
  |true=>rw[a]at h;exact Vy _ (Zim l x y h)
  |false=>
   rw[a]at h;simp only[Ze,Vu]at h;rcases h with rfl|h
   ·simp
   ·exact Vy _ (Zim l z y h)
theorem Zhh:∀(l:List Int) (x y:Int),y∈l->y=x\/y∈YR x l
 |[],_,_,h=>by cases h
 |z::l,x,y,h=>by
  unfold YR
  cases a:Ue (z=x) with
  |true=>
   have b:=Xy a;simp only[Zd];rcases Vu.1 h with rfl|h
   ·omega
   ·exact Zhh l x y h
  |false=>
   simp only[Ze,Vu];rcases Vu.1 h with rfl|h
   ·omega
   ·exact .inr (Zhh l z y h)
theorem Zmn{l:List Int}{y:Int}:y∈Jt l↔y∈l:=by
 cases l with
 |nil=>rfl
 |cons x l=>
  show y∈x::YR x l↔_;rw[Vu,Vu];constructor
  ·rintro (h|h)
   ·omega
   ·exact .inr (Zim l x y h)
  ·rintro (h|h)
   ·omega
   ·exact Zhh l x y h
theorem ZfE{α:Type}{m c:Nat}{g:Nat->List α}{step:List α×Int->Option ((List α×Int) ⊕ List α)}(acc:List α)(l:∀i,i<m->(g i).length<=c)(b:∀i a,i<m->a.length<=acc.length+i*c->step (a,(i:Int))=Ua (.inl (a++g i,((i+1:Nat):Int))))(e:∀a,step (a,(m:Int))=Ua (.inr a)):
 run step (acc,(0:Int))=Ua (acc++(Vd m).flatMap g)/\((Vd m).flatMap g).length<=m*c:=by
 have h:∀i,i<=m->((Vd i).flatMap g).length<=i*c:=by
  intro i
  induction i with
  |zero=>simp
  |succ i o=>
   intro f;rw[Zaw,Vp,Nat.succ_mul];grind
 obtain⟨r,j,k⟩:=KP m (λr=>r=acc++(Vd m).flatMap g) (λi (s:List α×Int)=>s=(acc++(Vd i).flatMap g,(i:Int))) (step:=step) (by
  rintro i _ f rfl;left;have:=h i (by omega);refine⟨_,b i _ f (by rw[Vp];omega),?_⟩;rw[Zaw,List.append_assoc]) (by
  grind) (acc,(0:Int)) (by simp)
 grind
theorem Zqr(e:WW n)(q:Zl):F94 n q=Ua (Kt n q):=by
 have o:=e.paths;have h:(ZI:Nat)=549755813888:=rfl;unfold F94;rw[(ZfE (m:=n.2.2.2.2.1.length) (c:=1) (g:=λi=>(n.2.2.2.2.1[i]?).elim [] λp=>if p.1=q.1/\p.2.2.1<=q.2.2.2.2.2.1 then [((p.2.1,p.2.2.1,()):Xh)] else []) [(q.1,0,())] ?hg ?hs ?he).1]
 case hg=>
  grind
 case hs=>
  intro i acc b a;rw[Vc b];have j:idx n.2.2.2.2.1 (i:Int)=Ua n.2.2.2.2.1[i]:=ZJ b;generalize n.2.2.2.2.1[i]=p at*;simp only[ZV b,Zd,j,Za,Z8 b (by omega)];simp only[Vta]at a;by_cases k:p.1=q.1
  ·by_cases l:p.2.2.1<=q.2.2.2.2.2.1
   ·rw[Zi k,Zi l];have f:ZD (Ue (acc.length+Ve [((p.2.1,p.2.2.1,()):Xh)]<=ZI))=Ua ():=by rw[Zi (by grind)];rfl
    grind
   grind
  grind
 case he=>
  simp
 rw[<-ZeZ];simp only[Za];unfold Kt;congr 1;rw[List.singleton_append];congr 1;generalize n.2.2.2.2.1=P
 induction P with
 |nil=>rfl
 |cons p P r=>
  grind
def Hs(n:Zc)(q:Zl)(u:Int)(i c:Nat)(w:Xh):List Int:=if (Zf n i c).1=w.1/\q.2.2.1<=(Zf n i c).2.2.1 - w.2.1/\(Zf n i c).2.2.1 - w.2.1<=u then [(Zf n i c).2.2.1 - w.2.1] else []
theorem Zxo(a:WW n)(q:Zl):(Kt n q).length<=61:=by unfold Kt;rw[Vea,Vja];have b:=Vs (λp:Kl=>Ue (p.1=q.1)&&Ue (p.2.2.1<=q.2.2.2.2.2.1)) n.2.2.2.2.1;have:=a.paths;omega
theorem ZoT(a:WO n){w:Xh}(c:w∈Kt n q):0<=w.2.1/\w.2.1<=14400:=by
 rcases Zgc c with ⟨e,f⟩|⟨p,b,g,h,e,f⟩
 ·omega
 ·have:=a.path p b;omega
theorem Zuz(J:Whole n)(z:WW n)(q:Zl)(u:Int):∃ds:List Int,F111 n q (Kt n q) u=Ua ds/\ds.length<=2562/\(∀t∈ds,q.2.2.1<=t/\t<=u/\t<=3155932800/\∃i c,i<n.2.2.1.length/\c<(Zp n i).length/\∃w∈Kt n q,(Zf n i c).1=w.1/\(Zf n i c).2.2.1 - w.2.1=t)/\
 ∀i c,i<n.2.2.1.length->c<(Zp n i).length->∀w∈Kt n q,(Zf n i c).1=w.1->q.2.2.1<=(Zf n i c).2.2.1 - w.2.1->(Zf n i c).2.2.1 - w.2.1<=u->(Zf n i c).2.2.1 - w.2.1∈ds:=by
 have y:=J.ok;have hu:=J.u;have U:=Zxo z q;have Y:=z.runs;have Q:(ZI:Nat)=549755813888:=rfl;have K:∀i c,i<n.2.2.1.length->c<(Zp n i).length->∀k,k<(Kt n q).length->(((Kt n q)[k]?).elim [] (Hs n q u i c)).length<=1:=by intro i c _ _ k j;rw[Vc j];show (Hs n q u i c _).length<=1;unfold Hs;grind
 have A:∀(m b:Nat) (g:Nat->List Int),(∀i,i<m->(g i).length<=b)->((Vd m).flatMap g).length<=m*b:=by
  intro m b g Z
  induction m with
  |zero=>simp
  |succ m ih=>
   rw[Zaw,Vp,Nat.succ_mul];grind
 have H:∀i c,i<n.2.2.1.length->c<(Zp n i).length->((Vd (Kt n q).length).flatMap λk=>((Kt n q)[k]?).elim [] (Hs n q u i c)).length<=61:=by intro i c a f;have:=A _ 1 _ (K i c a f);omega
 have I:∀i,i<n.2.2.1.length->((Vd (Zp n i).length).flatMap λc=>(Vd (Kt n q).length).flatMap λk=>((Kt n q)[k]?).elim [] (Hs n q u i c)).length<=366:=by intro i a;have:=A _ 61 _ (H i · a);have:=z.calls i a;omega
 unfold F111;rw[(ZfE (m:=n.2.2.1.length) (c:=366) (g:=λi=>(Vd (Zp n i).length).flatMap λc=>(Vd (Kt n q).length).flatMap λk=>((Kt n q)[k]?).elim [] (Hs n q u i c)) [] I ?hs ?he).1]
 case hs=>
  intro i acc a s;simp only[List.length_nil]at s;have o:acc.length<=2562:=by omega
  simp only[ZV a,Zd,ZaA a,Za,Z8 a (by omega)];have X:=z.calls i a;rw[(ZfE (m:=(Zp n i).length) (c:=61) (g:=λc=>(Vd (Kt n q).length).flatMap λk=>((Kt n q)[k]?).elim [] (Hs n q u i c)) acc (H i · a) ?hs2 ?he2).1]
  ·rfl
  case hs2=>
   intro c e f B;have C:e.length<=3000:=by omega
   have v:Ue ((c:Int)<(↑(Ve (rn n (i:Int)).2.2.2.2.2.2.2.1):Int))=true:=Zi (by show (c:Int)<((Zp n i).length:Int);omega);simp only[v,Zd,Zaz f,Za,Z8 f (by omega)];have D:=y.time a f;rw[(ZfE (m:=(Kt n q).length) (c:=1) (g:=λk=>((Kt n q)[k]?).elim [] (Hs n q u i c)) e (by grind) ?hs3 ?O).1]
   ·rfl
   case hs3=>
    intro k l j o;rw[Vc j];have V:idx (Kt n q) (k:Int)=Ua (Kt n q)[k]:=ZJ j;have E:=ZoT y (Vi j);generalize (Kt n q)[k]=w at*;have p:Vg .i64 ((Zf n i c).2.2.1 - w.2.1)=(Zf n i c).2.2.1 - w.2.1:=ZN (by omega) (by omega);simp only[ZV j,Zd,V,Za,Z8 j (by omega),p];have P:ZD (Ue (l.length+Ve [(Zf n i c).2.2.1 - w.2.1]<=ZI))=Ua ():=by rw[Zi (by grind)];rfl
    show _=Ua (Sum.inl (l++Hs n q u i c w,_));unfold Hs;grind
   simp
  case he2=>
   intro e;have v:Ue (((Zp n i).length:Int)<(↑(Ve (rn n (i:Int)).2.2.2.2.2.2.2.1):Int))=false:=Zt (by show¬((Zp n i).length:Int)<((Zp n i).length:Int);omega);grind
 case he=>
  simp
 rw[List.nil_append];have W:=A _ 366 _ I;generalize M:((Vd n.2.2.1.length).flatMap λi=>(Vd (Zp n i).length).flatMap λc=>(Vd (Kt n q).length).flatMap λk=>((Kt n q)[k]?).elim [] (Hs n q u i c))=G at*;have N:G.length<=2562:=by omega
 have r:∀t,t∈G↔∃i,i<n.2.2.1.length/\∃c,c<(Zp n i).length/\∃w∈Kt n q,t∈Hs n q u i c w:=by
  intro t;rw[<-M,Vb];constructor
  ·grind
  ·rintro ⟨i,a,c,f,w,p,h⟩;obtain⟨k,j,rfl⟩:=Vaa p;refine⟨i,Vl.2 a,Vb.2 ⟨c,Vl.2 f,Vb.2 ⟨k,Vl.2 j,?_⟩⟩⟩;grind
 have R:F183 G=Ua (Yw G):=by unfold F183 sortI;grind
 have S:(Yw G).length=G.length:=(ZbO G).length_eq;have hs2:F171 (Yw G)=Ua (Jt (Yw G)):=by unfold F171 compactI;grind
 refine⟨Jt (Yw G),?_,?_,λt D=>?_,λi c a f w p k1 k2 k3=>?_⟩
 ·grind
 ·have:=ZkP (Yw G);omega
 ·rw[Zmn,(ZbO G).mem_iff,r]at D;obtain⟨i,a,c,f,w,p,h⟩:=D;have T:=y.time a f;have E:=ZoT y p;unfold Hs at h;grind
 ·rw[Zmn,(ZbO G).mem_iff,r];refine⟨i,a,c,f,w,p,?_⟩;unfold Hs;grind
end Q
namespace Q
open Tr Go
variable {n:Zc}{q:Zl}{L:List Zw}{d:Int}
theorem Zr4(q a:Zl)(hL:L≠ []):F52 n a (L,())=F52 n q (L,()):=by have b:0<L.length:=Vka.2 hL;unfold F52;grind
theorem Zee(h:Jy n q){t:Int}(i:0<=t)(j:t<=3155932800):Jy n (Kh q t):=by refine⟨h.fit,h.few,ZcO.2 ⟨h.whole,?_⟩,h.tin,h.max⟩;have a:=h.qb;unfold qB at a⊢;simp only[Vz,Kx]at a⊢;obtain⟨b,c,_,e,f,g,_⟩:=a;refine⟨b,c,⟨i,j⟩,e,f,g,?_⟩;show (!(_&&Ud))=Uc;simp
theorem ZsY(h:HB n):HB (Kr n q):=by
 refine⟨h.stops,h.routes,λx b=>?_,λx b=>?_,?_,h.prods⟩
 ·obtain⟨r,a,rfl⟩:=Vca.1 (show x∈n.2.2.1.map (Xz n q) from b);exact h.runs r a
 ·obtain⟨r,a,rfl⟩:=Vca.1 (show x∈n.2.2.1.map (Xz n q) from b);show (r.2.2.2.2.2.2.2.1.map (Jj n q)).length<=_;rw[Vja];exact h.calls r a
 ·show (HX n q).length<=4096;unfold HX;split
  ·exact Vba (Vs _ _) h.paths
  ·exact h.paths
structure Y6 (n:Zc) (q:Zl) (d:Int):Prop where
 ask:Jy n q
 nback:q.2.2.2.1=Ud
 nch:q.2.2.2.2.2.2.2.2.2.1=Ud
 mom:0<=d/\d<=3155932800
theorem Y6.cx(h:Y6 n q d):Cx (Kr n q) q d (Hm h.ask.wholeM.sound.fare):=by have a:=(Zee h.ask h.mom.1 h.mom.2).li0;have b:=h.ask.qnum;exact⟨h.ask.wholeM,h.ask.tinM,a,h.nch,h.ask.max,by omega,h.mom⟩
abbrev mA(n:Zc)(q:Zl):Zc:=Kr n q
abbrev qD(q:Zl)(d:Int):Zl:=ZG (Kh q d)
structure Gj (n:Zc) (q:Zl) (d:Int) (l:Zx):Prop where
 rc:Rc (mA n q) (qD q d) (KC (mA n q) (qD q d)) l
 fin:ZbH (mA n q) (qD q d) l
 rides:0<l.2.2.1
 head:Zcr d l
theorem Gj.ne{l:Zx}(h:Gj n q d l):l.2.2.2.2.2.1≠ []:=by obtain⟨y,L,e,_⟩:=h.head;rw[e];simp
def Ry(h:Y6 n q d)(l:Zx):Prop:=JY (mA n q).2.2.2.2.2.1 (Hm h.ask.wholeM.sound.fare) (Z7 (Zq l).2.2.2.2.1)
theorem Zm7(h:Y6 n q d){l:Zx}(b:Gj n q d l):
 (∃s t,t.length<=8/\F52 (mA n q) q (l.2.2.2.2.2.1,())=Ua ((d,l.2.1,l.2.2.1,s,l.2.2.2.1,()),t,0))\/
 (¬Ry h l/\∃c,F52 (mA n q) q (l.2.2.2.2.2.1,())=Ua (c,[],34)):=by
 have k:=Zee h.ask h.mom.1 h.mom.2;have e:=Zr4 (n:=mA n q) q (qD q d) b.ne;have a:((l.2.2.2.2.2.1[0]?).map λx=>x.2.2.2.2.2.2.1).getD (qD q d).2.2.1=d:=by obtain⟨y,L,i,j⟩:=b.head;rw[i];exact j
 rcases Zuh (ZsY h.ask.fit) h.ask.wholeM h.cx.qi (h.cx.li b.rc) with ⟨s,t,f,g⟩|⟨f,c,g⟩
 ·left;refine⟨s,t,f,?_⟩;rw[<-e,g,a]
 ·right;refine⟨f,c,?_⟩;rw[<-e,g]
theorem Zuy(h:Y6 n q d):∃s:List ZZ,Zas (mA n q) q (Kt (mA n q) q) d=Ua (s.map Ua)/\s.length<=549755813888/\(∀y∈s,∃l,Gj n q d l/\y=Kj (mA n q) l)/\
 ∀l,Gj n q d l->Ry h l->∃y∈s,∃c t,F52 (mA n q) q (y.2.2.2.2.2.2.2.1,())=Ua (c,t,0)/\KI c (d,l.2.1,l.2.2.1,0,0,()):=by
 have z:=h.ask.qnum;have i:=h.cx;obtain⟨x,N,H,I,p,J,K⟩:=Zse i (λy o=>h.ask.fit.prods y o) z.2.2.2.1 (by have e:(mA n q).1.length=n.1.length:=rfl;rw[e];exact z.1)
 have b:∀y∈J9 x,∃l,Gj n q d l/\y=Kj (mA n q) l:=λy o=>by obtain⟨l,a,v,rfl⟩:=p.snd.2.2 y o;have g:=p.fin.to _ o;exact⟨l,⟨a.rc,⟨v,g⟩,a.nz,a.head⟩,rfl⟩
 refine⟨J9 x,H,I,b,λl a B=>?_⟩;have f:0<=q.1/\q.1<((mA n q).1.length:Int):=z.1;obtain⟨m,j,C,D,R,E,S,T,G⟩:=(Zr1 i p J K f a.rc a.head a.rides).2 a.fin.1 B;have g:m.1=q.2.1:=by rw[C];exact a.fin.2
 have k:m∈J9 x:=by
  unfold JG at j
  cases A:(KG x)[((Kj (mA n q) l).1).toNat]? with
  |none=>rw[A]at j;cases j
  |some r=>
   rw[A]at j;exact p.fin.fd r (Vx A) m j g
 obtain⟨M,w,rfl⟩:=b m k;rcases Zm7 h w with ⟨U,Q,_,P⟩|⟨O,_⟩
 ·exact⟨_,k,_,Q,P,Vr _,D,E⟩
 ·exact absurd (show Ry h M from JY.dom (hF:=Hm h.ask.wholeM.sound.fare) G B) O
def GB(x y:Wn):Prop:=y.2.1.1<x.2.1.1\/(x.2.1.1=y.2.1.1/\(x.2.1.2.1<y.2.1.2.1\/(x.2.1.2.1=y.2.1.2.1/\x.2.1.2.2.1<y.2.1.2.2.1)))
theorem Zut(x:Wn):¬GB x x:=by unfold GB;omega
theorem Zuu{x y z:Wn}(h:GB x y)(k:GB y z):GB x z:=by unfold GB at*;omega
theorem Zhd{a b:Int}{P R:Prop}(f:P↔a<b)(g:R↔b<a):(XU a b<0↔P)/\(0<XU a b↔R):=by
 rw[f,g];unfold XU;constructor
 ·by_cases c:a<b
  ·rw[Zn c];omega
  ·rw[Zg c];by_cases e:b<a
   ·rw[Zn e];omega
   ·rw[Zg e];omega
 ·by_cases c:a<b
  ·rw[Zn c];omega
  ·rw[Zg c];by_cases e:b<a
   ·rw[Zn e];omega
   ·rw[Zg e];omega
theorem Zxs(x y:Wn):∃c:Int,F91 x y=Ua c/\(c<0↔GB x y)/\(0<c↔GB y x):=by
 unfold F91 F113 F115;have g:∀a b c:Int,([a,b,c]:List Int)[Via (0:Int)]? =Ua a/\([a,b,c]:List Int)[Via (1:Int)]? =Ua b/\([a,b,c]:List Int)[Via (2:Int)]? =Ua c:=λa b c=>⟨rfl,rfl,rfl⟩;simp only[Za,(g _ _ _).1,(g _ _ _).2.1,(g _ _ _).2.2,ZkM];unfold GB;by_cases e:x.2.1.1=y.2.1.1
 ·rw[Zi e];by_cases f:x.2.1.2.1=y.2.1.2.1
  ·rw[Zi f];refine⟨XU x.2.1.2.2.1 y.2.1.2.2.1,rfl,?_⟩;exact Zhd (by omega) (by omega)
  ·rw[Zt f];refine⟨XU x.2.1.2.1 y.2.1.2.1,rfl,?_⟩;exact Zhd (by omega) (by omega)
 ·rw[Zt e];refine⟨XU y.2.1.1 x.2.1.1,rfl,?_⟩;exact Zhd (by omega) (by omega)
end Q
namespace Q
open Tr Go
variable {n:Zc}{q:Zl}{L:List Zw}{u:Int}
structure ZdP (n:Zc) (q:Zl) (u:Int):Prop where
 ask:Jy n q
 nback:q.2.2.2.1=Ud
 nch:q.2.2.2.2.2.2.2.2.2.1=Ud
 until_:q.2.2.1<=u/\u<=3155932800
theorem ZdP.at{d:Int}(h:ZdP n q u)(b:q.2.2.1<=d)(a:d<=3155932800):Y6 n q d:=⟨h.ask,h.nback,h.nch,by have:=h.ask.qnum;omega,a⟩
def Rw(n:Zc)(q:Zl)(u:Int)(ds:List Int)(x:Wn):Prop:= ∃d l,Gj n q d l/\d∈ds/\(q.2.2.1<=d/\d<=u)/\x.1=(l.2.2.2.2.2.1,())/\l.2.2.2.2.2.1.length<=40/\x.2.2.1.length<=8/\x.2.1.1=d/\0<x.2.1.2.2.1/\x.2.1.2.2.1<=3
theorem Zip:∀(M:Nat) (l:List Nat),l.Nodup->(∀a∈l,a<M)->l.length<=M
 |0,l,_,h=>by
  cases l with
  |nil=>simp
  |cons a l=>exact absurd (h a (by simp)) (by omega)
 |M+1,l,b,h=>by
  by_cases e:M∈l
  ·have c:=Zip M (l.erase M) (b.erase M) (by grind);grind
  ·have:=Zip M l b (by grind);omega
theorem Zu0{ds:List Int}{l:List Wn}(h:GL l)(i:∀x∈l,Rw n q u ds x):l.length<=ds.length*4:=by
 have a:∀x∈l,x.2.1.1∈ds/\0<x.2.1.2.2.1/\x.2.1.2.2.1<=3:=λx c=>by obtain⟨d,w,_,s,_,_,_,_,t,v⟩:=i x c;grind
 have b:(l.map λx:Wn=>ds.idxOf x.2.1.1*4+x.2.1.2.2.1.toNat).Nodup:=by
  rw[List.Nodup,Vxa];refine List.Pairwise.imp_of_mem ?_ h;intro x y c j f e;obtain⟨g,z⟩:=a x c;obtain⟨k,A⟩:=a y j;have m:ds.idxOf x.2.1.1=ds.idxOf y.2.1.1:=by omega
  have o:x.2.1.2.2.1=y.2.1.2.2.1:=by omega
  have p:x.2.1.1=y.2.1.1:=by have r:=List.getElem_idxOf (List.idxOf_lt_length_iff.2 g);grind
  unfold KI at f;omega
 have:=Zip (ds.length*4) _ b (by grind);grind
theorem Zxt(h:ZdP n q u):∃R:List Wn,F90 n q u=Ua (R,0)/\R.length<=10248/\GL R/\R.Pairwise GB/\(∃ds,∀x∈R,Rw n q u ds x)/\
 ∀d l,Gj n q d l->q.2.2.1<=d->d<=u->(∃i c,i<(mA n q).2.2.1.length/\c<(Zp (mA n q) i).length/\∃w∈Kt (mA n q) q,(Zf (mA n q) i c).1=w.1/\(Zf (mA n q) i c).2.2.1 - w.2.1=d)->∀o:Y6 n q d,Ry o l->∃x∈R,KI x.2.1 (d,l.2.1,l.2.2.1,0,0,()):=by
 have a:=h.ask;obtain⟨ds,d1,d2,d3,d4⟩:=Zuz a.wholeM a.tinM q u;have b2:(ZI:Nat)=549755813888:=rfl;unfold F90;rw[Zkx a.fit,a.chk];simp only[Za,decide_true,Vq,Ze,h.nback,h.nch];rw[Zt (show¬u<q.2.2.1 by have:=h.until_;omega),Zt (show¬(3155932800:Int)<u by have:=h.until_;omega)];simp only[Ze,Za];rw[ZpJ a.whole.sound a.few q (by rw[Zkx a.fit,a.chk])];simp only[Za,decide_true,Vq,Ze];have Y:F94 (Kr n q) q=Ua (Kt (Kr n q) q):=Zqr a.tinM q;rw[Y];simp only[Za];have a0:F111 (Kr n q) q (Kt (Kr n q) q) u=Ua ds:=d1;rw[a0];simp only[Za];have bound:∀out:List Wn,GL out->(∀x∈out,Rw n q u ds x)->out.length<=10248:=λout h1 h2=>by have:=Zu0 h1 h2;omega
 suffices hs:∃out:List Wn,run
  (λ(v:List Wn×Int)=>
  bif Ue (v.2<(↑(Ve ds):Int)) then
  Va (idx ds v.2) λx7=>
  Va (F96 (Kr n q) q (Kt (Kr n q) q) x7) λT=>
  Va
  (run
  (λ(b:List Wn×Int)=>
  bif Ue (b.2<(↑(Ve T):Int)) then
  Va (idx T b.2) λj=>
  Va j λ_=>
  Va j λm=>
  Va (F52 (Kr n q) q m.2.2.2.2.2.2.2) λe=>
  bif Ue (e.2.2=(0:Int)) then
  Va (F92 b.1 (m.2.2.2.2.2.2.2,e.1,e.2.1,())) λz=>
  Ua (.inl (z,Vg .i64 (b.2+(1:Int))))
  else Ua (.inl (b.1,Vg .i64 (b.2+(1:Int))))
  else Ua (.inr b.1))
  (v.1,(0:Int)))
  λK=>Ua (.inl (K,Vg .i64 (v.2+(1:Int))))
  else Ua (.inr v.1))
  ([],(0:Int))=Ua out/\GL out/\(∀x∈out,Rw n q u ds x)/\∀d∈ds,∀l,Gj n q d l->∀o:Y6 n q d,Ry o l->∃x∈out,KI x.2.1 (d,l.2.1,l.2.2.1,0,0,()) by
  obtain⟨out,e1,k1,k2,k3⟩:=hs;have b1:=bound out k1 k2;obtain⟨R,r1,r2,r3⟩:=Zob (cmp:=F91) GB out (by omega) (λx _ y _=>Zxs x y) (λx _=>Zut x) (λ_ _ _ _ _ _=>Zuu) (k1.imp λ{x y} a9=>by unfold KI at a9;unfold GB;omega)
  refine⟨R,?_,by rw[r2.length_eq];omega,(List.Perm.pairwise_iff (by grind) r2.symm).1 k1,r3,⟨ds,by grind⟩,λd l A h0 h1 ⟨i,c,hi,M,w,o,w1,w2⟩ ha hp=>?_⟩
  ·rw[e1];simp only[Za];have b3:F182 out ()=Ua R:=r1;grind
  grind
 obtain⟨out,e1,e2⟩:=KP ds.length (λout:List Wn=>GL out/\(∀x∈out,Rw n q u ds x)/\∀d∈ds,∀l,Gj n q d l->∀o:Y6 n q d,Ry o l->∃x∈out,KI x.2.1 (d,l.2.1,l.2.2.1,0,0,()))
  (λk (s:List Wn×Int)=>s.2=(k:Int)/\GL s.1/\(∀x∈s.1,Rw n q u ds x)/\∀d∈ds.take k,∀l,Gj n q d l->∀o:Y6 n q d,Ry o l->∃x∈s.1,KI x.2.1 (d,l.2.1,l.2.2.1,0,0,()))
  (step:=λ(v:List Wn×Int)=>
   bif Ue (v.2<(↑(Ve ds):Int)) then
   Va (idx ds v.2) λx7=>
   Va (F96 (Kr n q) q (Kt (Kr n q) q) x7) λT=>
   Va
   (run
   (λ(b:List Wn×Int)=>
   bif Ue (b.2<(↑(Ve T):Int)) then
   Va (idx T b.2) λj=>
   Va j λ_=>
   Va j λm=>
   Va (F52 (Kr n q) q m.2.2.2.2.2.2.2) λe=>
   bif Ue (e.2.2=(0:Int)) then
   Va (F92 b.1 (m.2.2.2.2.2.2.2,e.1,e.2.1,())) λz=>
   Ua (.inl (z,Vg .i64 (b.2+(1:Int))))
   else Ua (.inl (b.1,Vg .i64 (b.2+(1:Int))))
   else Ua (.inr b.1))
   (v.1,(0:Int)))
   λK=>Ua (.inl (K,Vg .i64 (v.2+(1:Int))))
   else Ua (.inr v.1)) (by
  rintro k ⟨out,_⟩ O ⟨rfl,o1,o2,o3⟩;left;simp only at o1 o2 o3;have B:idx ds (k:Int)=Ua ds[k]:=ZJ O;have N:=Vi O;have g:=d3 _ N;have a8:∀w,w∈ds.take (k+1)↔w∈ds.take k\/w=ds[k]:=λw=>by rw[Vf O,Vo,Vk]
  generalize ds[k]=d at*;obtain⟨p,y1,y2,y3,y4⟩:=Zuy (h.at g.1 g.2.2.1);have b0:F96 (Kr n q) q (Kt (Kr n q) q) d=Ua (p.map Ua):=y1;simp only[ZV O,Zd,B,Za,b0,Z8 O (by omega),Vja];obtain⟨f,f1,f2⟩:=KP p.length (λf:List Wn=>GL f/\(∀x∈f,Rw n q u ds x)/\(∀x∈out,∃Q∈f,KI Q.2.1 x.2.1)/\∀y∈p,∀c t,F52 (mA n q) q (y.2.2.2.2.2.2.2.1,())=Ua (c,t,0)->∃x∈f,KI x.2.1 c)
   (λr (s:List Wn×Int)=>s.2=(r:Int)/\GL s.1/\(∀x∈s.1,Rw n q u ds x)/\(∀x∈out,∃Q∈s.1,KI Q.2.1 x.2.1)/\∀y∈p.take r,∀c t,F52 (mA n q) q (y.2.2.2.2.2.2.2.1,())=Ua (c,t,0)->∃x∈s.1,KI x.2.1 c)
   (step:=λ(b:List Wn×Int)=>
    bif Ue (b.2<(↑(Ve p):Int)) then
    Va (idx (p.map Ua) b.2) λj=>
    Va j λ_=>
    Va j λm=>
    Va (F52 (Kr n q) q m.2.2.2.2.2.2.2) λe=>
    bif Ue (e.2.2=(0:Int)) then
    Va (F92 b.1 (m.2.2.2.2.2.2.2,e.1,e.2.1,())) λz=>
    Ua (.inl (z,Vg .i64 (b.2+(1:Int))))
    else Ua (.inl (b.1,Vg .i64 (b.2+(1:Int))))
    else Ua (.inr b.1)) (by
   rintro r ⟨cur,_⟩ V ⟨rfl,U,X,c3,c4⟩;left;simp only at U X c3 c4;have hy:idx (p.map Ua) (r:Int)=Ua (Ua p[r]):=by rw[ZJ (by grind),List.getElem_map]
   have I:=Vi V;have P:∀w,w∈p.take (r+1)↔w∈p.take r\/w=p[r]:=λw=>by rw[Vf V,Vo,Vk]
   generalize p[r]=y at*;obtain⟨l,A,rfl⟩:=y3 y I;have Z:(Kj (mA n q) l).2.2.2.2.2.2.2=(l.2.2.2.2.2.1,()):=rfl;simp only[ZV V,Zd,hy,Za,Z8 V (by omega),Z];rcases Zm7 (by grind) A with ⟨s,t,a7,s2⟩|⟨_,cc,s2⟩
   ·have J:F52 (Kr n q) q (l.2.2.2.2.2.1,())=_:=s2;rw[J];simp only[Za,decide_true,Zd];have hb:=bound cur U X;obtain⟨l',a1,a2,a3,a4,a5⟩:=Zu8 (l:=cur) ((l.2.2.2.2.2.1,()),(d,l.2.1,l.2.2.1,s,l.2.2.2.1,()),t,()) (by omega) U;refine⟨(l',((r+1:Nat):Int)),?_,rfl,a5,λx B=>?_,λx B=>?_,λw o c W M=>?_⟩
    ·grind
    ·rcases a2 x B with B|rfl
     ·grind
     ·have a6:=(h.at g.1 g.2.2.1).cx.li A.rc;have h3:l.2.2.1<=q.2.2.2.2.1:=a6.val.rides.2;have:=a.max;have GZ:=ZvG (h.at g.1 g.2.2.1).cx A.rc;exact⟨d,l,A,N,⟨g.1,g.2.1⟩,rfl,by omega,a7,rfl,A.rides,by grind⟩
    ·obtain⟨Q,C,D⟩:=c3 x B;obtain⟨S,E,G⟩:=a4 Q C;exact⟨S,E,G.trans D⟩
    ·rcases (P w).1 o with o|rfl
     ·obtain⟨x,C,D⟩:=c4 w o c W M;obtain⟨S,E,G⟩:=a4 x C;exact⟨S,E,G.trans D⟩
     grind
   ·have J:F52 (Kr n q) q (l.2.2.2.2.2.1,())=_:=s2;rw[J];refine⟨(cur,((r+1:Nat):Int)),rfl,rfl,U,X,c3,λw o c W M=>?_⟩;grind) (by
   grind) (out,(0:Int)) ⟨rfl,o1,o2,λx B=>⟨x,B,KI.refl _⟩,by simp⟩
  obtain⟨f3,f4,f5,f6⟩:=f2;refine⟨(f,((k+1:Nat):Int)),?_,rfl,f3,f4,λd' H l A o M=>?_⟩
  ·grind
  ·rcases (a8 d').1 H with H|rfl
   ·obtain⟨x,C,D⟩:=o3 d' H l A o M;obtain⟨S,E,G⟩:=f5 x C;exact⟨S,E,G.trans D⟩
   ·obtain⟨y,hy,c',W,C,D⟩:=y4 l A M;obtain⟨x,E,G⟩:=f6 y hy c' W C;exact⟨x,E,G.trans D⟩) (by
  grind) ([],(0:Int)) ⟨rfl,List.Pairwise.nil,by simp,by simp⟩
 grind
end Q
namespace Q
open Tr Go
variable {n:Zc}{q:Zl}{L:List Zw}
theorem Zlq(h:YD Zh n)(g:n.2.2.2.2.1.length<=4096):HB n:=by
 obtain⟨⟨_,c⟩,⟨_,e⟩,⟨_,b⟩,_,_,⟨⟨_,f⟩,_⟩,_⟩:=h;refine⟨λx a=>?_,λx a=>?_,λx a=>?_,λx a=>?_,g,λx a=>?_⟩
 ·exact(c x a).1
 ·exact(e x a).1
 ·exact(b x a).2.2.2.1
 ·exact(b x a).2.2.2.2.2.2.2.1.1
 ·exact(f x a).1
open Classical in
theorem ZwB(h:YD Zh n):∃b,F122 n=Ua b/\(b=Uc->WW n/\n.2.2.2.1.length<=30/\Whole n):=by
 unfold F122;by_cases v:5<n.1.length
 ·rw[Zi (show (5:Int)<(n.1.length:Int) by omega)];exact⟨Ud,rfl,λe=>by cases e⟩
 rw[Zt (show¬(5:Int)<(n.1.length:Int) by omega)];by_cases w:7<n.2.2.1.length
 ·rw[Zi (show (7:Int)<(n.2.2.1.length:Int) by omega)];exact⟨Ud,rfl,λe=>by cases e⟩
 rw[Zt (show¬(7:Int)<(n.2.2.1.length:Int) by omega)];by_cases c3:30<n.2.2.2.1.length
 ·rw[Zi (show (30:Int)<(n.2.2.2.1.length:Int) by omega)];exact⟨Ud,rfl,λe=>by cases e⟩
 rw[Zt (show¬(30:Int)<(n.2.2.2.1.length:Int) by omega)];by_cases y:60<n.2.2.2.2.1.length
 ·rw[Zi (show (60:Int)<(n.2.2.2.2.1.length:Int) by omega)];exact⟨Ud,rfl,λe=>by cases e⟩
 rw[Zt (show¬(60:Int)<(n.2.2.2.2.1.length:Int) by omega)];simp only[Ze,Za];have c:=Zlq h (by omega)
 suffices p:∃r:Unit ⊕ Bool,_=Ua r/\((r=.inl ()/\∀i,i<n.2.2.1.length->(Zp n i).length<=6)\/r=.inr Ud) by
  obtain⟨r,k,m⟩:=p;rcases m with ⟨rfl,a⟩|rfl
  ·refine⟨Ue (Whole n),Wj (λx=>x=Sum.inl ()) ⟨_,k,rfl⟩ (λx g=>?_),λt=>⟨⟨by omega,by omega,by omega,a⟩,by omega,Xy t⟩⟩;subst g;simp only[Sum.elim_inl];rw[ZdG c];rfl
  ·exact⟨Ud,Wj (λx=>x=Sum.inr Ud) ⟨_,k,rfl⟩ (λx g=>by subst g;rfl),λe=>by cases e⟩
 refine KP n.2.2.1.length (λr:Unit ⊕ Bool=>(r=.inl ()/\∀i,i<n.2.2.1.length->(Zp n i).length<=6)\/r=.inr Ud) (λi (s:Int)=>s=(i:Int)/\∀j,j<i->(Zp n j).length<=6) ?_ ?_ _ ⟨rfl,λj o=>by omega⟩
 ·rintro i _ f ⟨rfl,a⟩;simp only[ZV f,Zd,ZaA f,Za];by_cases z:6<(Zp n i).length
  ·rw[Zi (show (6:Int)<((rn n (i:Int)).2.2.2.2.2.2.2.1.length:Int) by show (6:Int)<((Zp n i).length:Int);omega)];exact .inr ⟨_,rfl,.inr rfl⟩
  ·rw[Zt (show¬(6:Int)<((rn n (i:Int)).2.2.2.2.2.2.2.1.length:Int) by show¬(6:Int)<((Zp n i).length:Int);omega)];refine .inl ⟨_,rfl,Z8 f (by omega),λj o=>?_⟩;rcases Nat.lt_or_ge j i with l|l
   ·exact a j l
   ·have:j=i:=by omega
    subst this;omega
 ·rintro _ ⟨rfl,a⟩;exact⟨.inl (),by simp only[YU,Ze],.inl ⟨rfl,a⟩⟩
theorem Zwr(h:YD Zh n)(q:Zl):∃b,F62 n q=Ua b/\(b=Uc->Jy n q/\q.2.2.2.1=Ud/\q.2.2.2.2.2.2.2.2.2.1=Ud):=by
 unfold F62;obtain⟨b,g,i⟩:=ZwB h;rw[g]
 cases b with
 |false=>exact⟨Ud,rfl,λe=>by cases e⟩
 |true=>
  obtain⟨a,o,f⟩:=i rfl;have c:=Zlq h (by have:=a.paths;omega);simp only[Za,Zd];rw[ZoK n.1.length (by have:=a.stops;omega) q];simp only[Za]
  cases j:qB n.1.length q with
  |false=>exact⟨Ud,rfl,λe=>by cases e⟩
  |true=>
   cases m:q.2.2.2.1 with
   |true=>exact⟨Ud,rfl,λe=>by cases e⟩
   |false=>
    cases l:q.2.2.2.2.2.2.2.2.2.1 with
    |true=>exact⟨Ud,rfl,λe=>by cases e⟩
    |false=>
     simp only[Zd,Vla,Za];refine⟨_,rfl,λe=>⟨⟨c,⟨by have:=a.stops;omega,?_,by have:=a.runs;omega,by omega,by have:=a.paths;omega,by have:=(Hm f.sound.fare).many;omega,λr k=>?_⟩,ZcO.2 ⟨f,j⟩,a,Xy e⟩,trivial,trivial⟩⟩
     ·have t:=f.t;unfold Dd at t;grind
     ·have:=(f.sound.many r k).2;omega
theorem ZoV(n:Zc)(q:Zl)(l:List Wy)(a:Nat):∀k,zN (Kr n q) (l.map (Jj n q)) a k=zN n l a k
 |0=>rfl
 |k+1=>by
  have h:zn (Kr n q) (l.map (Jj n q)) (a+k)=zn n l (a+k):=by unfold zn;rw[(Zew n q l (a+k)).1];rfl
  unfold zN;rw[ZoV n q l a k,h]
theorem ZuF{n:Zc}{q:Zl}{x:Zw}(a:KL n x=Uc):H9 (Kr n q) x=H9 n x/\H3 (Kr n q) x=H3 n x:=by
 constructor
 ·unfold H9;rw[Zen,ZoV]
 ·unfold H3;rw[ZnD a];rfl
theorem ZiM(n:Zc)(q:Zl):∀(L:List Zw) (w:Bool) (out:List ZF),Wg (Kr n q) L w out=Wg n L w out
 |[],_,_=>rfl
 |x::L,w,out=>by
  rw[GG,GG,Zla];by_cases a:x.1=Uc/\KL n x=Ud
  ·rw[Zn a,Zn a]
  rw[Zg a,Zg a];by_cases c:KM x=Uc/\(x.1=Ud\/w=Ud)
  ·rw[Zn c,Zn c]
  rw[Zg c,Zg c];by_cases b:x.1=Uc
  ·rw[Zn b,Zn b];have j:KL n x=true:=by
    cases i:KL n x with
    |true=>rfl
    |false=>exact absurd ⟨b,i⟩ a
   obtain⟨e,f⟩:=ZuF (q:=q) j;have g:HV (Kr n q) x=HV n x:=by unfold HV;rw[e,f]
   have h:Ya (Kr n q) x out=Ya n x out:=by unfold Ya GP;rw[e,f]
   rw[g,h];exact ZiM n q L _ _
  ·rw[Zg b,Zg b];exact ZiM n q L _ _
variable {d u:Int}
theorem ZvJ(h:Y6 n q d){l:Zx}(s:Rc (mA n q) (qD q d) (KC (mA n q) (qD q d)) l):(KE l.2.2.2.2.2.1:Int)=l.2.2.1:=by
 have r:=h.cx
 induction s with
 |start=>rfl
 |step A w g=>
  rename_i l x;obtain⟨D,E,j,G,m⟩:=Gt l;rcases XF.1 w with ⟨B,t⟩|⟨b,o⟩|⟨b,C,v⟩
  ·obtain⟨k,z,_,e,_,_,_,rfl⟩:=G3.1 t;show (KE (l.2.2.2.2.2.1++[_]):Int)=l.2.2.1;rw[Zb5,Zdy,Zn rfl];exact g
  ·obtain⟨i,c,e,_,_,_,_,_,_,rfl⟩:=Hr.1 o;have a:∀(K:List Zw) (d:Int),KE (WP K d)=KE K:=by
    intro K d
    match K with
    |[]=>rfl
    |[y]=>
     cases f:y.1 with
     |true=>rw[Zbe f]
     |false=>rw[RE f];unfold KE;simp [ZaV,f]
    |_::_::_=>rfl
   show (KE (WP (Zq l).2.2.2.2.2.1 _++[_]):Int)=(Zq l).2.2.1+1;rw[Zb5,Zdy,Zg (by simp),a,m,j];omega
  ·obtain⟨p,_,_,rfl⟩:=HU.1 v;show (KE ((Zq l).2.2.2.2.2.1++[_]):Int)=(Zq l).2.2.1;rw[Zb5,ZiN,m,j];exact g
theorem ZvH(h:Y6 n q d){l:Zx}(J:Rc (mA n q) (qD q d) (KC (mA n q) (qD q d)) l)(C:0<l.2.2.1):∃y K,l.2.2.2.2.2.1=y::K/\(K=[]->y.1=Uc)/\∃i c,i<(mA n q).2.2.1.length/\c<(Zp (mA n q) i).length/\∃w∈Kt (mA n q) q,(Zf (mA n q) i c).1=w.1/\(Zf (mA n q) i c).2.2.1 - w.2.1=y.2.2.2.2.2.2.1:=by
 have f:=h.cx
 induction J with
 |start=>exact absurd C (by show¬(0:Int)<0;decide)
 |step m P D=>
  rename_i l x;obtain⟨R,s2,S,s4,s⟩:=Gt l;have A:=f.li m;have M:=Znn f m;rcases XF.1 P with ⟨Z,N⟩|⟨v,H⟩|⟨v,k2,O⟩
  ·obtain⟨k,Y,_,e,_,_,_,rfl⟩:=G3.1 N;obtain⟨y,K,o,E,r⟩:=D C;refine⟨y,K++[ZM (mA n q) k.2.2.1.toNat 0 e Uc],?_,λj=>absurd j (by simp),r⟩;show l.2.2.2.2.2.1++[_]=_;rw[o];rfl
  ·obtain⟨i,c,e,G,I,X,⟨T,U,t,V,W⟩,_,_,rfl⟩:=Hr.1 H;by_cases Q:l.2.2.1=0
   ·rw[R]at t;rcases Zno f m Q with e0|⟨p,B,z,e0⟩
    ·have g:l.2.2.2.2.2.1=[]:=by rw[e0];rfl
     refine⟨ZM (mA n q) i c e Ud,[],?_,λ_=>rfl,i,c,G,by omega,(q.1,0,()),by unfold Kt;simp,by rw[t,e0];rfl,?_⟩
     ·show WP (Zq l).2.2.2.2.2.1 _++[_]=_;rw[s,g];rfl
     ·show (Zf (mA n q) i c).2.2.1 - 0=(Zf (mA n q) i c).2.2.1;omega
    ·have g:l.2.2.2.2.2.1=[KA q.1 p.2.1 d (d+p.2.2.1)]:=by rw[e0];rfl
     have b:p.1=q.1/\0+p.2.2.1<=q.2.2.2.2.2.1/\_:=z;refine⟨KA q.1 p.2.1 ((Zf (mA n q) i c).2.2.1 - p.2.2.1) (Zf (mA n q) i c).2.2.1,[ZM (mA n q) i c e Ud],?_,λj=>absurd j (by simp),i,c,G,by omega,(p.2.1,p.2.2.1,()),?_,by rw[t,e0];rfl,rfl⟩
     ·show WP (Zq l).2.2.2.2.2.1 _++[_]=_;rw[s,g,(ZjT q.1 p.2.1 d d p.2.2.1 (Zf (mA n q) i c).2.2.1).1];rfl
     ·unfold Kt;refine Vy _ (Vca.2 ⟨p,Vw.2 ⟨B,?_⟩,rfl⟩);rw[Zi b.1,Zi (show p.2.2.1<=q.2.2.2.2.2.1 by have:=b.2.1;omega)];rfl
   ·have a:0<l.2.2.1:=by omega
    obtain⟨y,K,o,E,r⟩:=D a;refine⟨y,K++[ZM (mA n q) i c e Ud],?_,λj=>absurd j (by simp),r⟩;show WP (Zq l).2.2.2.2.2.1 _++[_]=_;rw[s,ZgH A a,o];rfl
  ·obtain⟨p,_,_,rfl⟩:=HU.1 O;have a:0<l.2.2.1:=by have:0<(Zq l).2.2.1:=C;rw[S]at this;exact this
   obtain⟨y,K,o,E,r⟩:=D a;refine⟨y,K++[KA (Zq l).1.2.1 p.2.1 (Zq l).2.1 ((Zq l).2.1+p.2.2.1)],?_,λj=>absurd j (by simp),r⟩;show (Zq l).2.2.2.2.2.1++[_]=_;rw[s,o];rfl
theorem Zq8(h:Jy n q)(B:q.2.2.2.1=Ud)(j:q.2.2.2.2.2.2.2.2.2.1=Ud)(hL:0<L.length)(b:L.length=1->(lg L 0).1=Uc)(v:(Dx n q L).2=0)(l:0<=(lg L 0).2.2.2.2.2.2.1/\(lg L 0).2.2.2.2.2.2.1<=3155932800):(Dx n (Kh q (lg L 0).2.2.2.2.2.2.1) L).2=0:=by
 obtain⟨_,⟨g,_⟩|⟨_,t,c⟩⟩:=(ZcN n q L).1 v
 ·omega
 refine(ZcN n _ L).2 ⟨(Zee h l.1 l.2).chk,.inr ⟨by omega,λi w=>?_,?_⟩⟩
 ·obtain⟨m,a,o⟩:=Gp.1 (t i w);refine Gp.2 ⟨m,?_,o⟩;unfold DH at a⊢;by_cases k:i=0
  ·rw[Zi k]at a⊢;have f:DC n q L=0:=a;obtain⟨p,r,s,y,z,A⟩:=ZcY.1 f;show DC n (Kh q (lg L 0).2.2.2.2.2.2.1) L=0;refine ZcY.2 ⟨p,r,s,?_,?_,?_⟩
   ·by_cases g:L.length=1
    ·rw[b g];rfl
    ·rw[Zt g];simp
   ·show (!Ud&&Ue ((lg L 0).2.2.2.2.2.2.1<(lg L 0).2.2.2.2.2.2.1))=Ud;simp
   ·have e:(Kh q (lg L 0).2.2.2.2.2.2.1).2.2.2.2.2.2.2.2.2.1=false:=j;rw[e];rfl
  ·rw[Zt k]at a⊢;exact a
 ·unfold DA at c⊢;rw[K4 (by omega),K4 (by omega),K4 (by omega),K4 (by omega)]at c⊢;exact⟨c.1,rfl,c.2.2⟩
theorem ZsR(h:Jy n q)(s:q.2.2.2.1=Ud)(g:q.2.2.2.2.2.2.2.2.2.1=Ud)(R:L.length<=1000)(z:0<KE L)(H:(Dx n q L).2=0):∃d l,q.2.2.1<=d/\Y6 n q d/\Gj n q d l/\l.2.2.2.2.2.1=L/\
 ∃i c,i<(mA n q).2.2.1.length/\c<(Zp (mA n q) i).length/\∃w∈Kt (mA n q) q,(Zf (mA n q) i c).1=w.1/\(Zf (mA n q) i c).2.2.1 - w.2.1=d:=by
 obtain⟨_,⟨G,_⟩|⟨G,p,h3⟩⟩:=(ZcN n q L).1 H
 ·have:L=[]:=List.eq_nil_of_length_eq_zero G;subst this;exact absurd z (by show¬0<0;omega)
 have hL:0<L.length:=by omega
 have j:L.length=1->(lg L 0).1=true:=λS=>by
  match L,S with
  |[y],_=>
   have e:lg [y] 0=y:=rfl;rw[e]
   cases X:y.1 with
   |true=>rfl
   |false=>unfold KE at z;simp [ZaV,X]at z
 obtain⟨V,T,U⟩:=Zj7 (p 0 hL);have k:0<=(lg L 0).2.2.2.2.2.2.1/\(lg L 0).2.2.2.2.2.2.1<=3155932800:=by
  have f:=(Gp.1 (p 0 hL)).1;rw[Zl4]at f
  cases C:Znr n (lg L 0) with
  |true=>rw[C]at f;exact absurd f (by simp)
  |false=>
   cases I:Zns n (lg L 0) with
   |true=>rw[C,I]at f;exact absurd f (by simp)
   |false=>
    cases m:Zfj (lg L 0) with
    |true=>rw[C,I,m]at f;exact absurd f (by simp)
    |false=>
     unfold Zfj at m;rw[Bool.or_eq_false_iff]at m;simpa using m.1
 have P:=Zee h k.1 k.2;obtain⟨l,A,B,Y⟩:=ZsQ P rfl R (Zq8 h s g hL j H k);have r:Y6 n q (lg L 0).2.2.2.2.2.2.1:=⟨h,s,g,k⟩;have a:0<l.2.2.1:=by have:=ZvJ r (l:=l) A;rw[B]at this;omega
 have b:Zcr (lg L 0).2.2.2.2.2.2.1 l:=by
  match O:L,hL with
  |y::K,_=>exact⟨y,K,B,rfl⟩
 have v:q.2.2.1<=(lg L 0).2.2.2.2.2.2.1:=by obtain⟨_,J,_⟩:=Gp.1 (p 0 hL);have o:DC n q L=0:=J;obtain⟨_,_,_,_,E,_⟩:=ZcY.1 o;rw[s]at E;simp only[Vla,Bool.true_and,decide_eq_false_iff_not]at E;omega
 refine⟨_,l,v,r,⟨A,Y,a,b⟩,B,?_⟩;obtain⟨y,K,M,_,i,c,Q,t,w,W,Z,w2⟩:=ZvH r (l:=l) A a;refine⟨i,c,Q,t,w,W,Z,?_⟩;rw[w2];obtain⟨y',K',D,N⟩:=b;rw[M]at D;rw[(List.cons.inj D).1];exact N
end Q
namespace Q
open Tr Go
variable {n:Zc}{q:Zl}{L:List Zw}{u:Int}
theorem ZsL:F61=Ua true:=rfl
theorem ZsT(h:Jy n q)(a:L.length<=1000):F145 n q (L,())=Ua (Ue ((Dx n q L).2=0)):=by unfold F145;rw[Zq6 h.fit (by have:=(Hm h.whole.sound.fare).many;omega) q L a];rfl
theorem ZwD(c e:Xt):∃b,F114 c e=Ua b/\(b=Uc->c.2.1<=e.2.1)/\(b=Ud->e.2.1<=c.2.1):=by
 unfold F114;have i:∀(c:Xt) (k:Nat),k<4->∃x,[c.2.1,c.2.2.1,c.2.2.2.1,c.2.2.2.2.1][k]? =Ua x/\(k=0->x=c.2.1):=by simp_all
 suffices l:∃r:Unit ⊕ Bool,run
  (λ(s0:Int)=>
  bif Ue (s0<(4:Int)) then
  Va (Zv s0 (4:Nat)) λg=>
  Va [c.2.1,c.2.2.1,c.2.2.2.1,c.2.2.2.2.1][g]? λj=>
  Va (Zv s0 (4:Nat)) λm=>
  Va [e.2.1,e.2.2.1,e.2.2.2.1,e.2.2.2.2.1][m]? λo=>
  bif !Ue (j=o) then
  Va (Zv s0 (4:Nat)) λp=>
  Va [c.2.1,c.2.2.1,c.2.2.2.1,c.2.2.2.2.1][p]? λt=>
  Va (Zv s0 (4:Nat)) λv=>
  Va [e.2.1,e.2.2.1,e.2.2.2.1,e.2.2.2.2.1][v]? λw=>Ua (.inr (.inr (Ue (t<w))))
  else Ua (.inl (Vg .i64 (s0+(1:Int))))
  else Ua (.inr (.inl ())))
  (0:Int)=Ua r/\((r=.inl ()/\c.2.1=e.2.1)\/∃b,r=.inr b/\(b=Uc->c.2.1<=e.2.1)/\(b=Ud->e.2.1<=c.2.1)) by
  obtain⟨r,A,⟨rfl,h⟩|⟨b,rfl,h⟩⟩:=l
  all_goals simp_all
 refine KP 4 _ (λk (s:Int)=>s=(k:Int)/\(0<k->c.2.1=e.2.1)) ?_ ?_ _ (by omega)
 ·rintro k _ f ⟨rfl,B⟩;obtain⟨x,g,j⟩:=i c k f;obtain⟨y,z,C⟩:=i e k f;rw[Zi (by omega)];simp only[Zd,KS f,Za,g,z];by_cases a:x=y
  ·left;rw[Zi a];refine⟨((k+1:Nat):Int),?_,rfl,λ_=>?_⟩
   ·simp only[Vq,Ze,Z8 f (by omega)]
   omega
  ·right;rw[Zt a];refine⟨.inr (Ue (x<y)),by rfl,.inr ⟨Ue (x<y),rfl,λh=>?_,λh=>?_⟩⟩
   all_goals grind
 simp
theorem Zu9{R:List Wn}(N:R.length<=10248)(j:∀x∈R,x.1.1.length<=40/\x.2.2.1.length<=8){t:Int}{x0:Wn}(M:x0∈R)(O:t<=x0.2.1.1):∃o:Wn,F86 R t=Ua (o,Uc)/\o.2.1.2.1<=x0.2.1.2.1:=by
 have B:(ZI:Nat)=549755813888:=rfl;unfold F86;obtain⟨r,A,b,c,rfl,e⟩:=KP R.length (λr:Int=>∃b:Nat,∃c:b<R.length,r=(b:Int)/\∀x∈R,t<=x.2.1.1->(R[b]).2.1.2.1<=x.2.1.2.1)
  (λk (s:Int×Int)=>s.2=(k:Int)/\((s.1= -1/\∀x∈R.take k,¬t<=x.2.1.1)\/∃b:Nat,∃c:b<R.length,s.1=(b:Int)/\∀x∈R.take k,t<=x.2.1.1->(R[b]).2.1.2.1<=x.2.1.2.1))
  (step:=λ(s0:Int×Int)=>
   bif Ue (s0.2<(↑(Ve R):Int)) then
   Va (idx R s0.2) λy=>
   Va
   (bif Ue (t<=y.2.1.1) then
   bif Ue (s0.1<(0:Int)) then Ua Uc
   else Va (idx R s0.1) λE=>Va (F114 y.2.1 E.2.1) λG=>Ua G
   else Ua Ud)
   λH=>
   bif H then Ua (.inl (s0.2,Vg .i64 (s0.2+(1:Int)))) else Ua (.inl (s0.1,Vg .i64 (s0.2+(1:Int))))
   else Ua (.inr s0.1)) (by
  rintro k ⟨a,_⟩ f ⟨rfl,i⟩;left;have D:∀w,w∈R.take (k+1)↔w∈R.take k\/w=R[k]:=λw=>by rw[Vf f,Vo,Vk]
  simp only[ZV f,Zd,ZJ f,Za,Z8 f (by omega)];by_cases v:t<=(R[k]).2.1.1
  ·rw[Zi v];simp only[Zd];rcases i with ⟨c,C⟩|⟨b,c,m,e⟩
   ·have l:a= -1:=c;subst l;refine⟨((k:Int),((k+1:Nat):Int)),rfl,rfl,.inr ⟨k,f,rfl,λx p h=>?_⟩⟩;grind
   ·have g:a=(b:Int):=m;subst g;rw[Zt (by omega)];simp only[Ze,ZJ c,Za];obtain⟨z,I,S,T⟩:=ZwD (R[k]).2.1 (R[b]).2.1;rw[I]
    cases z with
    |true=>
     refine⟨((k:Int),((k+1:Nat):Int)),rfl,rfl,.inr ⟨k,f,rfl,λx p h=>?_⟩⟩
     grind
    |false=>
     refine⟨((b:Int),((k+1:Nat):Int)),rfl,rfl,.inr ⟨b,c,rfl,λx p h=>?_⟩⟩;grind
  ·rw[Zt v];refine⟨(a,((k+1:Nat):Int)),rfl,rfl,?_⟩;grind) (by
  grind) ((-1:Int),(0:Int)) (by simp)
 rw[A];obtain⟨P,Q⟩:=j _ (Vi c);simp only[Za];rw[Zt (by omega)];simp only[Ze,ZJ c,Za];have J:F167 (R[b]).1.1=Ua (R[b]).1.1:=by unfold F167 Tr.cloLegG;grind
 have K:F168 (R[b]).2.2.1=Ua (R[b]).2.2.1:=by unfold F168 Tr.clnTicG;grind
 grind
theorem ZvX(L:List Zw)(hL:L.length<=1000):F157 (L,())=Ua (KE L:Int):=by
 unfold F157;refine Wj (λr:Int=>r=(KE L:Int)) ?_ (by simp);have c:∀K:List Zw,KE K<=K.length:=λK=>Vs _ _;refine KP L.length _ (λk (s:Int×Int)=>s=((KE (L.take k):Int),(k:Int))) ?_ ?_ _ rfl
 ·rintro k _ b rfl;left;refine⟨_,?_,rfl⟩;have a:KE (L.take (k+1))=KE (L.take k)+KE [L[k]]:=by rw[Vf b,Zb5]
  have e:=c (L.take k);rw[List.length_take]at e;have f:Vg .i64 ((KE (L.take k):Int)+1)=((KE (L.take k)+1:Nat):Int):=by rw[ZN (by omega) (by omega)];omega
  simp only[ZV b,Zd,ZJ b,Za,Z8 b (by omega),f,a];generalize L[k]=x;have g:KE [x]=if (x.1&& !KM x)=Uc then 1 else 0:=by unfold KE;rw[Vbb];have:ZaV x=(x.1&& !KM x):=rfl;grind
  grind
 simp
theorem Zr5(n:Zc)(hn:YD Zh n)(q:Zl)(j:Zcs):F58 n q j=Ua true:=by
 obtain⟨L,⟨⟩⟩:=j;unfold F58;obtain⟨b,J,M⟩:=Zwr hn q;rw[J]
 cases b with
 |false=>rfl
 |true=>
  obtain⟨a,B,C⟩:=M rfl;simp only[Za,Vq,Ze];by_cases hL:20<L.length
  ·rw[Zi (by omega)];rfl
  rw[Zt (by omega),ZsT a (by omega)];simp only[Ze,Za];by_cases I:(Dx n q L).2=0
  case neg=>
   rw[Zt I];rfl
  rw[Zi I,ZvX L (by omega)];simp only[Vq,Ze,Za];by_cases W:(KE L:Int)<1
  ·rw[Zi W];rfl
  rw[Zt W];simp only[Ze];obtain⟨d,l,h0,H,U,m,i,c,hi,Q,w,Y,w1,w2⟩:=ZsR a B C (by omega) (by omega) I;have hu:ZdP n q d:=⟨a,B,C,by have:=H.mom;omega⟩;have hv:F123 n=Ua true:=by rw[ZdG a.fit];exact congrArg Ua (by classical exact Zi a.whole)
  have v:n.2.2.2.2.2.1.1.length<=4096:=by have:=(Hm a.whole.sound.fare).many;omega
  obtain⟨c1,O,a1,P⟩:=ZkQ a.whole.sound hv v q L (by omega);have z:L≠ []:=by rintro rfl;exact W (by show ((0:Nat):Int)<1;decide)
  have N:c1.2.2=0:=by
   obtain⟨_,⟨g1,_⟩|⟨_,_,g3⟩⟩:=(ZcN n q L).1 I
   ·grind
   ·unfold DA at g3;grind
  obtain⟨rs,f,wk,S,h,s,hs⟩:=P N (Vka.2 z);have p:=H.cx.li U.rc;obtain⟨k1,k2,k3⟩:=Zev H.cx.qi p;rw[m,ZiM,S]at k2;have G:rs=Z7 (Zq l).2.2.2.2.1:=(Vjb k2).1;have h8:rs.length<=8:=by have h3:l.2.2.1<=q.2.2.2.2.1:=p.val.rides.2;have:=a.max;grind
  have E:Ry H l:=by have:=Zsm a.whole.sound.fare (by rw[G];exact k1.fare.2) h8 hs;rw[G]at this;assumption
  have hd:(lg L 0).2.2.2.2.2.2.1=d:=by obtain⟨y,K,e1,e2⟩:=U.head;rw[<-m,e1];assumption
  have A:(lg L (L.length - 1)).2.2.2.2.2.2.2.1=l.2.1:=by
   have g:L.length - 1<L.length:=by have:=Vka.2 z;omega
   have:=Zl9 p;rw[m,Vc g]at this;have e:lg L (L.length - 1)=L[L.length - 1]:=by have:=DG g;rw[ZJ g]at this;grind
   grind
  have X:(rs.length:Int)=l.2.2.1:=by grind
  rw[hd,A,X]at h;obtain⟨cc,t,e⟩:=c1;simp only at h;subst h;rw[O];simp only[Za];obtain⟨R,r1,r2,_,_,⟨ds,r5⟩,r6⟩:=Zxt hu;rw[r1];simp only[Za];obtain⟨x0,x1,x2⟩:=r6 d l U h0 (Vr _) ⟨i,c,hi,Q,w,Y,w1,w2⟩ H E;have Z:q.2.2.1<=x0.2.1.1:=by have:=x2.1;omega
  obtain⟨o,o1,o2⟩:=Zu9 r2 (λx hx=>by obtain⟨d',l',_,_,_,g1,g2,g3,_⟩:=r5 x hx;grind) x1 Z
  rw[o1];simp only[Za,decide_true,Vq,Ze];have V:¬l.2.1<o.2.1.2.1:=Int.not_lt.2 (Vda o2 x2.2.1);rw[Zt V];simp only[Ze];obtain⟨i0,a2,rfl⟩:=Vaa x1;have a3:=x2;refine Wj (λr:Unit ⊕ Bool=>r=.inr Uc) ?_ (by simp);refine KP R.length _ (λk (s:Int)=>s=(k:Int)/\k<=i0) ?_ ?_ _ ⟨rfl,Nat.zero_le _⟩
  ·rintro k _ T ⟨rfl,a0⟩;simp only[ZV T,Zd,ZJ T,Za,Z8 T (by omega),ZsL];by_cases D:d<=(R[k]).2.1.1/\(R[k]).2.1.2.1<=l.2.1/\(R[k]).2.1.2.2.1<=l.2.2.1
   ·grind
   ·left;have a4:k≠i0:=λe=>by subst e;apply D;assumption
    refine⟨_,?_,rfl,by omega⟩;grind
  omega
theorem coversP(x:Kw F58A)(h:Zcq F58A x):F58 x.1 x.2.1 x.2.2.1=Ua true:=Zr5 _ h.1 _ _
end Q
