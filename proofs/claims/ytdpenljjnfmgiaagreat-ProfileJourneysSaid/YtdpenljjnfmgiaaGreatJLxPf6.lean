/- profile's finder: next computes its list. Conditions: a valid and small network, valid fares, at most 3 rides. -/
import Derived.Test.YtdpenljjnfmgiaaGreatJLxNP
import Derived.Test.YtdpenljjnfmgiaaGreatDep45
open Bool renaming not_true ->Vh,not_false ->Vea,and_eq_true ->Vya,and_self ->Veb
open Int renaming toNat_natCast ->Vs,le_refl ->Vy,toNat ->Vba
open Go.IntKind renaming wrap ->Vl
open List renaming range ->Va,getElem?_eq_getElem ->Vb,mem_flatMap ->Vc,length ->Vd,map_cons ->Ve,sum_cons ->Vf,getElem_mem ->Vg,take_succ_eq_append_getElem ->Vi,length_append ->Vj,replicate ->Vk,mem_singleton ->Vm,mem_range ->Vn,mem_cons ->Vp,mem_append ->Vq,length_filter_le ->Vt,length_singleton ->Vu,mem_filter ->Vv,length_cons ->Vx,getElem?_of_mem ->Vz,map_append ->Vaa,length_set ->Vca,length_map ->Vda,filter_append ->Vfa,pairwise_iff_getElem ->Vga,eq_of_mem_replicate ->Vha,getElem_set ->Via,filter_cons_of_pos ->Vja,sum_append ->Vka,getElem_set_self ->Vla,mem_of_getElem? ->Vma,mem_iff_getElem ->Vna,mem_cons_of_mem ->Voa,getElem_of_mem ->Vpa,map_singleton ->Vqa,sum_singleton ->Vra,mem_map ->Vta,pairwise_map ->Vua,drop ->Vva,nodup_range ->Vwa,any_eq_true ->Vxa,take_length ->Vza,head?_drop ->Vab,drop_drop ->Vcb,take ->Vdb
open Nat renaming le_refl ->Vr,le_trans ->Vw,add_sub_cancel ->Vsa,add_le_add ->Vbb
open Option renaming bind ->Vo
open Option renaming some ->Ua,none ->Ub
open Bool renaming true ->Uc,false ->Ud
open Decidable renaming decide ->Ue
namespace Q
open Tr Go
variable {F:Z4}{hF:FO F}{n:Zc}{q:Zl}
def Rj(y:Z5)(p:Kh):Z5:=(p.2.1,y.2.1+p.2.2.1,y.2.1+p.2.2.1,y.2.2.2.1,y.2.2.2.2.1+p.2.2.1,Ud,y.2.2.2.2.2.2.1,y.2.2.2.2.2.2.2.1++[KG y.1 p.2.1 y.2.1 (y.2.1+p.2.2.1)],())
def GF(q:Zl)(y:Z5)(p:Kh):Prop:=p.1=y.1/\y.2.2.2.2.1+p.2.2.1<=q.2.2.2.2.2.1/\y.2.1+p.2.2.1<=3155932800
instance (q:Zl) (y:Z5) (p:Kh):Decidable (GF q y p):=by unfold GF;infer_instance
def Zcl(n:Zc)(q:Zl)(y:Z5):List Z5:=n.2.2.2.2.1.flatMap fun p=>if GF q y p then [Rj y p] else []
def ZcO(n:Zc)(y:Z5)(i c:Nat):Prop:=(Zi n i c).1=y.1/\(Zi n i c).2.2.2.1=Uc/\y.2.2.1<=(Zi n i c).2.2.1
instance (n:Zc) (y:Z5) (i c:Nat):Decidable (ZcO n y i c):=by unfold ZcO;infer_instance
noncomputable def Dp(n:Zc)(q:Zl)(y:Z5):List Z5:=(Va n.2.2.1.length).flatMap fun i=>(Va (Zt n i).length).flatMap fun c=>if ZcO n y i c then HG n q 100 y i c else []
noncomputable def YB(n:Zc)(q:Zl)(y:Z5):List Z5:=Dp n q y++if y.2.2.2.2.2.1=Uc then Zcl n q y else []
structure YG (F:Z4) (hF:FO F) (n:Zc) (q:Zl) (y:Z5):Prop where
 ok:Jt F hF n y
 cnt:((KY y.2.2.2.2.2.2.1).length:Int)=y.2.2.2.1
 rides:y.2.2.2.1<=q.2.2.2.2.1
 walk:0<=y.2.2.2.2.1/\y.2.2.2.2.1<=86400
 time:0<=y.2.1/\y.2.1<=4000000000
 legs:y.2.2.2.2.2.2.2.1.length<=200
theorem YG.pb{y:Z5}(h:YG F hF n q y)(a:y.2.2.2.1<q.2.2.2.2.1):PB F hF q (Xf y):=by have b:=h.cnt;have c:=h.walk;exact⟨⟨h.ok.fare,h.ok.rok⟩,by show ((KY y.2.2.2.2.2.2.1).length:Int)+1=y.2.2.2.1+1;omega,by assumption,by show 0<=y.2.2.2.2.1/\y.2.2.2.2.1<=1000000;omega⟩
theorem ZgC(e:WC n)(g:q.2.2.2.2.1<=3){y:Z5}(h:YG F hF n q y){k i c:Nat}(f:i<n.2.2.1.length)(j:c<(Zt n i).length):∀l∈HG n q k y i c,Jt F hF n l:=by
 intro l a;unfold HG HF at a;split at a
 ·rename_i b;have m:=e.time f j;exact Zcf e g k _ i c Ud _ (h.pb b) f (Zdi _) ⟨by show 0<=(Zi n i c).2.2.1;omega,by show (Zi n i c).2.2.1<=_;omega⟩ l a
 grind
theorem ZiR(a:WC n){y:Z5}(h:YG F hF n q y){p:Kh}(b:p∈n.2.2.2.2.1):Jt F hF n (Rj y p):=⟨h.ok.fare,h.ok.rok,(a.path p b).2.1⟩
theorem Zt0(b:WC n)(g:q.2.2.2.2.1<=3){y:Z5}(h:YG F hF n q y):(∀l∈Dp n q y,Jt F hF n l)/\ ∀l∈YB n q y,Jt F hF n l:=by
 have k:∀l∈Dp n q y,Jt F hF n l:=by
  intro l a;unfold Dp at a;obtain⟨i,f,a⟩:=Vc.1 a;obtain⟨c,e,a⟩:=Vc.1 a;rw[Vn]at f e;split at a
  ·exact ZgC b g h f e l a
  grind
 refine⟨k,fun l a=>?_⟩;unfold YB at a;rw[Vq]at a;rcases a with a|a
 ·grind
 ·split at a
  ·unfold Zcl at a;obtain⟨p,j,a⟩:=Vc.1 a;split at a
   ·rw[Vm]at a;subst a;exact ZiR b h j
   grind
  grind
theorem ZmE(z:Whole n)(I:WR n)(G:q.2.2.2.2.1<=3){y:Z5}(r:YG F hF n q y)(can:Nat->Nat->Prop)[∀i c,Decidable (can i c)](cond:Wu->Option Bool)(e:∀i c,i<n.2.2.1.length->c<(Zt n i).length->cond (Zi n i c)=Ua (Ue (can i c)))
 {x:FX}{N:Nat} (P:XX F hF n q x N) (Q:N+((Va n.2.2.1.length).flatMap fun i=>(Va (Zt n i).length).flatMap fun c=>if can i c then HG n q 100 y i c else []).length<=549755813888):
 ∃p,run (fun s0:FX×Int=>
  bif Ue (s0.2<(↑(Vd n.2.2.1):Int)) then
  Vo (idx n.2.2.1 s0.2) fun K=>
  Vo
  (run (fun s2:FX×Int=>
  bif Ue (s2.2<(↑(Vd K.2.2.2.2.2.2.2.1):Int)) then
  Vo (idx K.2.2.2.2.2.2.2.1 s2.2) fun C=>
  Vo (cond C)
  fun D=>
  bif D then Vo (F99 s2.1 (Ua y) s0.2 s2.2) fun E=>Ua (.inl (E,Vl .i64 (s2.2+(1:Int))))
  else Ua (.inl (s2.1,Vl .i64 (s2.2+(1:Int))))
  else Ua (.inr s2.1)) (s0.1,(0:Int)))
  fun B=>Ua (.inl (B,Vl .i64 (s0.2+(1:Int))))
  else Ua (.inr s0.1)) (x,(0:Int))=Ua p/\K7 F x ((Va n.2.2.1.length).flatMap fun i=>(Va (Zt n i).length).flatMap fun c=>if can i c then HG n q 100 y i c else []) p:=by
 have H:=z.ok;have V:=z.u
 have lab:∀i,i<n.2.2.1.length->∀c,c<(Zt n i).length->∀l∈(if can i c then HG n q 100 y i c else []),Jt F hF n l:=by
  intro i b c h l J;split at J
  ·exact ZgC H G r b h l J
  grind
 refine Zb7 (F:=F) (hF:=hF) (n:=n) (q:=q) (fun k x=>(x,(k:Int))) (fun x=>x) P ?_ Q ?_ ?_
 ·grind
 ·intro i s M b v w;simp only[ZQ b,Ze,ZaA b,Za,Kb b (by omega)];have U:=I.calls i b
  have key:=Zb7 (F:=F) (hF:=hF) (n:=n) (q:=q) (m:=(Zt n i).length) (g:=fun c=>if can i c then HG n q 100 y i c else []) (x:=s) (N:=M) (fun k x=>(x,(k:Int))) (fun x=>x)
   (step:=fun s2:FX×Int=>
   bif Ue (s2.2<(↑(Vd (rn n (i:Int)).2.2.2.2.2.2.2.1):Int)) then
   Vo (idx (rn n (i:Int)).2.2.2.2.2.2.2.1 s2.2) fun C=>
   Vo (cond C)
   fun D=>
   bif D then Vo (F99 s2.1 (Ua y) (i:Int) s2.2) fun E=>Ua (.inl (E,Vl .i64 (s2.2+(1:Int))))
   else Ua (.inl (s2.1,Vl .i64 (s2.2+(1:Int))))
   else Ua (.inr s2.1)) v (by grind) w (by
    intro c t O h j o;have f:Ue ((c:Int)<(↑(Vd (rn n (i:Int)).2.2.2.2.2.2.2.1):Int))=true:=Zj (by show (c:Int)<((Zt n i).length:Int);omega);simp only[f,Ze,Zaz h,Za,e i c b h,Kb h (by omega)];by_cases a:can i c
    ·rw[Zv a]at o⊢;rw[Zj a,Ze]
     obtain⟨p,R,S⟩:=ZjO H (ZnQ z I G 100) j (y:=y) r.pb (by have:=r.legs;omega) (by omega) b h (fun f=>by unfold hgt;have T:WA q (Xf y)=(q.2.2.2.2.1 - (y.2.2.2.1+1)).toNat:=rfl;have:=Zfr (n:=n) i;have:=r.cnt;omega) o
     have A:F99 t (Ua y) (i:Int) (c:Int)=Ua p:=R;rw[A];exact⟨p,rfl,S⟩
    ·rw[Zg a,Zr a,Zd]
     exact⟨t,rfl,K7.nil t⟩) (by
    intro t O j;have f:Ue (((Zt n i).length:Int)<(↑(Vd (rn n (i:Int)).2.2.2.2.2.2.2.1):Int))=false:=Zr (by show¬((Zt n i).length:Int)<((Zt n i).length:Int);omega)
    grind)
  grind
 simp
theorem Zt5(T:Whole n)(S:WR n)(Q:q.2.2.2.2.1<=3)(hq:q.2.2.2.2.2.1<=86400){y:Z5}(t:YG F hF n q y){x:FX}{N:Nat}(E:XX F hF n q x N)(X:N+(YB n q y).length<=549755813888):
 ∃b,F107 x (Ua y)=Ua b/\K7 F x (YB n q y) b:=by
 have C:=T.ok;have e:=X;unfold YB at e⊢;rw[Vj]at e
 obtain⟨O,V,W⟩:=ZmE T S Q t (fun i c=>ZcO n y i c) (fun P=>bif Ue (P.1=y.1) then bif P.2.2.2.1 then Ua (Ue (y.2.2.1<=P.2.2.1)) else Ua Ud else Ua Ud) (by
  intro i c f hc;by_cases j:(Zi n i c).1=y.1
  ·rw[Zj j,Ze]
   cases v:(Zi n i c).2.2.2.1 with
   |true=>rw[Ze];congr 1;exact decide_eq_decide.2 ⟨fun h=>⟨j,v,h⟩,fun h=>h.2.2⟩
   |false=>rw[Zd];congr 1;rw[Zr];intro h;rw[h.2.1]at v;grind
  ·rw[Zr j,Zd];congr 1;rw[Zr];intro h;exact j h.1) E (by unfold Dp at e;omega)
 have R:K7 F x (Dp n q y) O:=W;unfold F107;simp only[Za,E.net];rw[V];simp only[Za];have w:=E.adds (Zt0 C Q t).1 R
 cases J:y.2.2.2.2.2.1 with
 |false=>
  grind
 |true=>
  rw[J,Zv rfl]at e;rw[Zv rfl];simp only[Vh,Zd,w.net];have D:n.2.2.2.2.1.length<=60:=S.paths;unfold Zcl at e⊢;rw[ZeT]at e⊢
  have I:∀o:Option FX,(∃b,o=Ua b/\K7 F O ((Va n.2.2.2.2.1.length).flatMap fun i=>(n.2.2.2.2.1[i]?).elim [] fun p=>if GF q y p then [Rj y p] else []) b)->∃b,(Vo o fun x=>Ua x)=Ua b/\K7 F x (Dp n q y++(Va n.2.2.2.2.1.length).flatMap fun i=>(n.2.2.2.2.1[i]?).elim [] fun p=>if GF q y p then [Rj y p] else []) b:=fun o ⟨b,j,v⟩=>⟨b,by grind,R.trans v⟩
  refine I _ (Zb7 (F:=F) (hF:=hF) (n:=n) (q:=q) (m:=n.2.2.2.2.1.length) (g:=fun i=>(n.2.2.2.2.1[i]?).elim [] fun p=>if GF q y p then [Rj y p] else []) (x:=O) (N:=N+(Dp n q y).length) (fun k x=>(x,(k:Int))) (fun x=>x) w (by
   intro i f l U;rw[Vb f]at U
   have r:l∈(if GF q y n.2.2.2.2.1[i] then [Rj y n.2.2.2.2.1[i]] else []):=U
   split at r
   ·rw[Vm]at r;subst r;exact ZiR C t (Vg f)
   grind) (by omega) (by
   intro i s M f z A;rw[Vb f]at A⊢
   have B:M+(if GF q y n.2.2.2.2.1[i] then [Rj y n.2.2.2.2.1[i]] else []).length<=549755813888:=A
   show∃b,_/\K7 F s (if GF q y n.2.2.2.2.1[i] then [Rj y n.2.2.2.2.1[i]] else []) b
   have hp:=C.path _ (Vg f);have K:=ZiR C t (Vg f);generalize H:n.2.2.2.2.1[i]=p at*;have Y:idx n.2.2.2.2.1 (i:Int)=Ua p:=by rw[ZE f,H]
   have h4:=t.walk;have h5:=t.time;have w1:Vl .i64 (y.2.2.2.2.1+p.2.2.1)=y.2.2.2.2.1+p.2.2.1:=ZH (by omega) (by omega);have w2:Vl .i64 (y.2.1+p.2.2.1)=y.2.1+p.2.2.1:=ZH (by omega) (by omega);simp only[ZQ f,Ze,Y,Za,Kb f (by omega),z.que,w1,w2];by_cases a:GF q y p
   ·rw[Zv a]at B⊢;rw[Zj a.1,Zr (show¬q.2.2.2.2.2.1<y.2.2.2.2.1+p.2.2.1 by have:=a.2.1;omega),Zr (show¬3155932800<y.2.1+p.2.2.1 by have:=a.2.2;omega)];simp only[Vh,Zd,Za];have G:((Ud,(0:Int),(0:Int),(0:Int),y.1,p.2.1,y.2.1,y.2.1+p.2.2.1,Ud,()):Zw)=KG y.1 p.2.1 y.2.1 (y.2.1+p.2.2.1):=rfl;rw[G,ZkV _ (by have:=t.legs;omega),Za];obtain⟨b,j,v⟩:=Zly z K (by omega);have Z:F105 s (Ua (p.2.1,y.2.1+p.2.2.1,y.2.1+p.2.2.1,y.2.2.2.1,y.2.2.2.2.1+p.2.2.1,Ud,y.2.2.2.2.2.2.1,y.2.2.2.2.2.2.2.1++[KG y.1 p.2.1 y.2.1 (y.2.1+p.2.2.1)],()))=Ua b:=j
    grind
   ·rw[Zg a]
    have:(bif !Ue (p.1=y.1) then Ua Uc else bif Ue (q.2.2.2.2.2.1<y.2.2.2.2.1+p.2.2.1) then Ua Uc else Ua (Ue ((3155932800:Int)<y.2.1+p.2.2.1)))=Ua true:=by
     by_cases j:p.1=y.1
     ·by_cases v:q.2.2.2.2.2.1<y.2.2.2.2.1+p.2.2.1
      ·grind
      ·have k3:3155932800<y.2.1+p.2.2.1:=by
        by_cases k3:3155932800<y.2.1+p.2.2.1
        ·omega
        ·exact absurd ⟨j,by omega,by omega⟩ a
       grind
     grind
    rw[this]
    exact⟨s,rfl,K7.nil s⟩) (by
   simp))
end Q
namespace Q
open Tr Go
variable {F:Z4}{hF:FO F}{n:Zc}{q:Zl}
noncomputable def wY(n:Zc)(q:Zl)(y:Z5):Nat:=1+rW n (q.2.2.2.2.1 - y.2.2.2.1).toNat y.1+if y.2.2.2.2.2.1=Uc then((n.2.2.2.2.1.filter fun p=>Ue (p.1=y.1)).map fun p=>1+rW n (q.2.2.2.2.1 - y.2.2.2.1).toNat p.2.1).sum else 0
theorem ZfI{α:Type}{f g:α->Nat} :∀{l:List α},(∀x∈l,f x<=g x)->(l.map f).sum<=(l.map g).sum
 |[],_=>Vr _
 |x::l,h=>by rw[Ve,Ve,Vf,Vf];exact Vbb (by grind) (ZfI (by grind))
theorem ZnL{α:Type}(f g:α->Nat):∀l:List α,(l.map fun x=>f x+g x).sum=(l.map f).sum+(l.map g).sum
 |[]=>rfl
 |x::l=>by rw[Ve,Ve,Ve,Vf,Vf,Vf,ZnL f g l];omega
theorem ZtG(h:Whole n){a b:Nat}(k:a<n.2.2.2.1.length)(l:b<n.2.2.2.1.length)(e:J6 (lk n a)=J6 (lk n b)):a=b:=by
 have key:∀i,i<n.2.2.2.1.length->¬∃j,j<i/\J6 (lk n j)=J6 (lk n i):=by
  intro i f;have c:=WU.1 h.g i f;unfold WV at c;simp only at c
  repeat (split at c; · omega)
  assumption
 grind
theorem ZiD{a:Nat} :∀{m j:Nat},j<m->KV m (fun i=>if i=j then a else 0)=a
 |0,_,h=>by omega
 |m+1,j,h=>by
  show KV m _+(if m=j then a else 0)=a
  by_cases e:m=j
  ·subst e;rw[Zv rfl,GY (by grind)];omega
  ·rw[Zg e,ZiD (by omega)];omega
theorem Zms(f:Nat->Nat->Nat)(m:Nat)(len:Nat->Nat):∀P:List (Nat×Nat),P.Nodup->(∀x∈P,x.1<m/\x.2<len x.1)->(P.map fun x=>f x.1 x.2).sum=KV m fun i=>KV (len i) fun b=>if (i,b)∈P then f i b else 0
 |[],_,_=>by
  symm
  exact GY fun i _=>GY (by simp)
 |x::P,g,j=>by
  rw[List.nodup_cons]at g;obtain⟨c,k⟩:=j x (by simp);rw[Ve,Vf,Zms f m len P g.2 (by grind)]
  have e:∀i b,(if (i,b)∈x::P then f i b else 0)=(if i=x.1 then(if b=x.2 then f x.1 x.2 else 0) else 0)+if (i,b)∈P then f i b else 0:=by
   grind
  have h:(fun i=>KV (len i) fun b=>if (i,b)∈x::P then f i b else 0)=fun i=>(if i=x.1 then f x.1 x.2 else 0)+KV (len i) fun b=>if (i,b)∈P then f i b else 0:=by
   funext i
   rw[show (fun b=>if (i,b)∈x::P then f i b else 0)=fun b=>(if i=x.1 then(if b=x.2 then f x.1 x.2 else 0) else 0)+if (i,b)∈P then f i b else 0 from funext (e i),R1]
   congr 1;by_cases a:i=x.1
   ·rw[Zv a];simp only[Zv a];exact ZiD (by grind)
   ·rw[Zg a];simp only[Zg a];exact GY (by omega)
  rw[h,R1,ZiD c]
theorem ZtI(w:Whole n){i c:Nat}(l:Nat):((W8 n i).map fun k=>if (lk n k).2.1=(c:Int)/\(lk n k).2.2.2.2.1=Ud then bw n l (lk n k).2.2.1.toNat (lk n k).2.2.2.1.toNat else 0).sum<=rW n l (Zi n i c).1:=by
 have C:=w.ok
 have g:∀L:List Nat,(L.map fun k=>if (lk n k).2.1=(c:Int)/\(lk n k).2.2.2.2.1=Ud then bw n l (lk n k).2.2.1.toNat (lk n k).2.2.2.1.toNat else 0).sum=
  (((L.filter fun k=>Ue ((lk n k).2.1=(c:Int)/\(lk n k).2.2.2.2.1=Ud)).map fun k=>((lk n k).2.2.1.toNat,(lk n k).2.2.2.1.toNat)).map fun x=>bw n l x.1 x.2).sum:=by
  intro L
  induction L with
  |nil=>rfl
  |cons k L P=>
   grind
 rw[g]
 have f:∀k∈(W8 n i).filter (fun k=>Ue ((lk n k).2.1=(c:Int)/\(lk n k).2.2.2.2.1=Ud)),∃j d:Nat,lk n k=((i:Int),(c:Int),(j:Int),(d:Int),Ud,())/\j<n.2.2.1.length/\d<(Zt n j).length/\(Zi n i c).1=(Zi n j d).1/\k<n.2.2.2.1.length:=by
  intro k J;obtain⟨h,H⟩:=Vv.1 J;obtain⟨t,v⟩:=Xq H;obtain⟨s,j,d,st,e,I,_,G,p,K,_⟩:=ZaM C h;rw[e]at t v;have B:((s:Nat):Int)=(c:Int):=t;have m:st=false:=v;have:s=c:=by omega
  subst this;subst m;exact⟨j,d,e,I,p,K,(Zdg h).1⟩
 rw[Zms (bw n l) n.2.2.1.length (fun i=>(Zt n i).length)]
 ·unfold rW;refine Gw fun j _=>Gw fun d _=>?_
  grind
 ·have r:((W8 n i).filter fun k=>Ue ((lk n k).2.1=(c:Int)/\(lk n k).2.2.2.2.1=Ud)).Pairwise (· ≠ ·):=(Vwa.filter _).filter _;refine Vua.2 (r.imp_of_mem ?_);intro a b D E o y;obtain⟨j,d,z,_,_,_,M⟩:=f a D;obtain⟨Q,O,A,_,_,_,N⟩:=f b E;rw[z,A]at y;simp only[Vs,Prod.mk.injEq]at y;refine o (ZtG w M N ?_)
  grind
 grind
end Q
namespace Q
open Tr Go
variable {F:Z4}{hF:FO F}{n:Zc}{q:Zl}
theorem Zmg{P:Nat->Prop}[DecidablePred P]{a:Nat} :∀{l:List Nat},l.Pairwise (· ≠ ·)->(∀x∈l,∀y∈l,P x->P y->x=y)->(l.map fun x=>if P x then a else 0).sum<=a
 |[],_,_=>Nat.zero_le _
 |x::l,b,h=>by
  rw[List.pairwise_cons]at b;rw[Ve,Vf];by_cases e:P x
  ·have j:(l.map fun x=>if P x then a else 0).sum=0:=by
    have:∀y∈l,¬P y:=by grind
    have c:=ZfI (f:=fun x=>if P x then a else 0) (g:=fun _=>0) (l:=l) (by grind)
    have i:∀l:List Nat,(l.map fun _=>0).sum=0:=by
     intro l
     induction l with
     |nil=>rfl
     |cons _ l k=>grind
    grind
   grind
  ·rw[Zg e,Nat.zero_add];exact Zmg b.2 (by grind)
theorem ZiJ(h:Whole n)(s:WR n):∀(K:Nat) (p:ZA) (i b:Nat) (st:Bool) (v:ZM),i<n.2.2.1.length->((Jf n q K p i b st v).map (wY n q)).sum<=KV ((Zt n i).length - (b+1)) fun k=>Zci n (WA q p) i (b+1+k)
 |0,p,i,b,st,v,_=>by unfold Jf;simp
 |K+1,p,i,b,st,v,hi=>by
  have Q:=h.ok;unfold Jf;split
  ·simp
  rw[ZfG];refine Gw fun m hm=>?_;have hc:b+1+m<(Zt n i).length:=by omega
  generalize Y:b+1+m=c at*;generalize I:WA q p=a;unfold ZaP;have r:(Z2 n p i b c st v).1.2.2.1.toNat=i:=rfl;rw[r,Vaa,Vka,ZfH]
  have S:((Hm n (Z2 n p i b c st v)).map (wY n q)).sum<=1+rW n a (Zi n i c).1+((n.2.2.2.2.1.filter fun p=>Ue (p.1=(Zi n i c).1)).map fun p=>1+rW n a p.2.1).sum:=by
   unfold Hm;split
   ·rw[<-I];rw[Vqa,Vra];unfold wY;have V:(KI n (Z2 n p i b c st v)).2.2.2.2.2.1=true:=rfl;rw[Zv V];exact Vr _
   simp
  have O:∀k∈W8 n i,(lk n k).2.1=(c:Int)/\(lk n k).2.2.2.2.1=Uc->c+1=(Zt n i).length:=by
   intro k A ⟨U,k2⟩;obtain⟨w,j,d,t,e,z,H,E,G,_,T,o⟩:=ZaM Q A
   grind
  have J:∀k∈W8 n i,((Gj (Jf n q K) n q (Z2 n p i b c st v) (lk n k)).map (wY n q)).sum<=
   (if (lk n k).2.1=(c:Int)/\(lk n k).2.2.2.2.1=Ud then bw n a (lk n k).2.2.1.toNat (lk n k).2.2.2.1.toNat else 0)+if (lk n k).2.1=(c:Int)/\(lk n k).2.2.2.2.1=Uc then gW a* (5*WB n i) else 0:=by
   intro k A;obtain⟨w,j,d,t,e,z,H,E,G,_,T,o⟩:=ZaM Q A;unfold Gj;rw[e];simp only[Vs];have D:(Z2 n p i b c st v).1.2.2.2.1=(c:Int):=rfl;rw[D];split
   ·simp
   rename_i Z
   have U:(w:Int)=(c:Int):=by omega
   cases t with
   |true=>
    rw[Zv rfl,Zg (by simp),Zv ⟨U,rfl⟩,Nat.zero_add];obtain⟨_,rfl⟩:=T rfl;have B:=ZiJ h s K (Z2 n p i b c st v) j 0 Uc (Z2 n p i b c st v).1.2.2.2.2.1 z;have C:WA q (Z2 n p i b c st v)=a:=I;rw[C]at B;refine Vw B (Vw (ZlH a j 0) ?_);refine Nat.mul_le_mul_left _ ?_;have:=Zfs h (show j<7 by have:=s.runs;omega) (ZfF h o);have:=s.calls j z
    omega
   |false=>
    have i1:(if (w:Int)=(c:Int)/\Ud=Ud then bw n a j d else 0)=bw n a j d:=by grind
    have i2:(if (w:Int)=(c:Int)/\Ud=Uc then gW a* (5*WB n i) else 0)=0:=by simp
    rw[Zg (by simp),i1,i2,Nat.add_zero];split
    ·unfold HF;split
     ·rename_i M;have R:p.2.2.1<q.2.2.2.2.1:=M;have B:=ZiJ h s K (Xf (KI n (Z2 n p i b c st v))) j d Ud (J7 (Zi n j d).2.2.1) z
      have C:a=WA q (Xf (KI n (Z2 n p i b c st v)))+1:=by rw[<-I];show (q.2.2.2.2.1 - p.2.2.1).toNat=(q.2.2.2.2.1 - (p.2.2.1+1)).toNat+1;omega
      unfold bw;rw[C]
      assumption
     simp
    simp
  have W:=ZfI J;rw[ZnL]at W;have h2:=ZtI h (i:=i) (c:=c) a;have N:(W8 n i).Pairwise (· ≠ ·):=Vwa.filter _
  have h3:((W8 n i).map fun k=>if (lk n k).2.1=(c:Int)/\(lk n k).2.2.2.2.1=Uc then gW a* (5*WB n i) else 0).sum<=if c+1=(Zt n i).length then gW a* (5*WB n i) else 0:=by
   by_cases f:c+1=(Zt n i).length
   ·rw[Zv f];refine Zmg (P:=fun k=>(lk n k).2.1=(c:Int)/\(lk n k).2.2.2.2.1=Uc) N fun x hx y hy px py=>?_;obtain⟨x1,x2,_⟩:=Zdg hx;obtain⟨y1,y2,_⟩:=Zdg hy;have g:∀b (X:b<n.2.2.2.1.length),lk n b=n.2.2.2.1[b]:=fun b X=>by unfold lk;grind
    exact Zv4 h x1 y1 (by grind) (by grind) (by grind)
   ·rw[Zg f];refine Vw (ZfI (g:=fun _=>0) fun k A=>?_) ?_
    ·grind
    ·have h0:∀l:List Nat,(l.map fun _=>0).sum=0:=by
      intro l
      induction l with
      |nil=>rfl
      |cons _ l B=>grind
     grind
  have h4:=Zl8 h s a (Zi n i c).1;unfold Zci;rw[Nat.mul_add,Nat.mul_one]
  have h5:gW a* (if c+1=(Zt n i).length then 5*WB n i else 0)=if c+1=(Zt n i).length then gW a* (5*WB n i) else 0:=by grind
  omega
theorem Zqc(e:Whole n)(b:WR n)(K:Nat)(y:Z5){i c:Nat}(f:i<n.2.2.1.length):((HG n q K y i c).map (wY n q)).sum<=bw n (q.2.2.2.2.1 - y.2.2.2.1).toNat i c:=by
 unfold HG HF;split
 ·rename_i g
  have a:(q.2.2.2.2.1 - y.2.2.2.1).toNat=WA q (Xf y)+1:=by show _=(q.2.2.2.2.1 - (y.2.2.2.1+1)).toNat+1;omega
  unfold bw;rw[a];exact ZiJ e b K (Xf y) i c Ud _ f
 simp
theorem Zm4(e:Whole n)(b:WR n)(y:Z5)(can:Nat->Nat->Prop)[∀i c,Decidable (can i c)](a:∀i c,can i c->(Zi n i c).1=y.1):(((Va n.2.2.1.length).flatMap fun i=>(Va (Zt n i).length).flatMap fun c=>if can i c then HG n q 100 y i c else []).map (wY n q)).sum<=rW n (q.2.2.2.2.1 - y.2.2.2.1).toNat y.1:=by
 rw[ZfG];unfold rW;refine Gw fun i f=>?_;rw[ZfG];refine Gw fun c g=>?_;split
 ·rename_i h;rw[Zv (a i c h)];exact Zqc e b 100 y f
 simp
theorem Zt1(g:Whole n)(f:WR n)(y:Z5):((YB n q y).map (wY n q)).sum+1<=wY n q y:=by
 unfold YB;rw[Vaa,Vka];have b:=Zm4 (q:=q) g f y (ZcO n y) fun i c h=>h.1;unfold Dp
 have e:((if y.2.2.2.2.2.1=Uc then Zcl n q y else []).map (wY n q)).sum<=if y.2.2.2.2.2.1=Uc then((n.2.2.2.2.1.filter fun p=>Ue (p.1=y.1)).map fun p=>1+rW n (q.2.2.2.2.1 - y.2.2.2.1).toNat p.2.1).sum else 0:=by
  split
  ·unfold Zcl;rw[ZfH];generalize n.2.2.2.2.1=P
   induction P with
   |nil=>simp
   |cons p P j=>
    rw[Ve,Vf,List.filter_cons];by_cases a:p.1=y.1
    ·rw[Zv (Zj a),Ve,Vf];refine Vbb ?_ j;split
     ·rw[Vqa,Vra];unfold wY;rw[Zg (by show¬Ud=Uc;simp)];exact Vr _
     simp
    ·rw[Zg (fun h:GF q y p=>a h.1)]
     grind
  simp
 unfold wY at b e⊢;omega
theorem ZlI:∀(l:List Z5),l.length<=(l.map (wY n q)).sum
 |[]=>Vr _
 |y::l=>by rw[Ve,Vf,Vx];have:=ZlI l;unfold wY at this⊢;omega
end Q
namespace Q
open Tr Go
variable {F:Z4}{hF:FO F}{n:Zc}{q:Zl}
theorem ZuA{F:Z4}(a:(J3 F).2=0)(b:∀x∈F.1,x.1.length<=9223372036854775807):F19 F=Ua (st0 F,0):=by
 have c:=(RQ a).many;unfold F19;rw[Zhu F b]
 have e:Zz (Ue ((Vd ([]:List Unit))+Vd F.1<=ZD))=Ua ():=by rw[Zj (by simp [ZD];omega)];rfl
 simp only[Za,Zj a,Vh,Zd,e];rfl
def Xu(n:Zc)(k:Nat):List (List Int):=(Va n.2.2.1.length).map fun i:Nat=>((Va k).filter fun k=>Ue ((lk n k).1=(i:Int))).map fun k:Nat=>(k:Int)
def GR(n:Zc)(q:Zl):FX:=(n,q,RS n,Vk n.1.length [],[],[])
theorem Zh1{k a:Nat}(h:a<(Xu n k).length):(Xu n k)[a]=((Va k).filter fun k=>Ue ((lk n k).1=(a:Int))).map fun k:Nat=>(k:Int):=by simp [Xu]
theorem ZtW(y:Whole n)(x:WR n)(q:Zl):ZbT n q=Ua (GR n q):=by
 have E:=y.ok;have T:=y.v;have R:=x.runs;have S:=x.stops;have Q:(ZD:Int)=549755813888:=rfl;have M:(ZD:Nat)=549755813888:=rfl
 have B:Zz (Ue ((0:El (Tr.Ty.int .i64))<=(↑(Vd n.2.2.1):Int)/\(↑(Vd n.2.2.1):Int)<=(↑(Vd n.2.2.1):Int)/\(↑(Vd n.2.2.1):Int)<=(↑ZD:El (Tr.Ty.int .i64))))=Ua ():=by rw[Zj ⟨by simp,Vy _,by omega⟩];rfl
 have C:Zz (Ue ((0:El (Tr.Ty.int .i64))<=(↑(Vd n.1):Int)/\(↑(Vd n.1):Int)<=(↑(Vd n.1):Int)/\(↑(Vd n.1):Int)<=(↑ZD:El (Tr.Ty.int .i64))))=Ua ():=by rw[Zj ⟨by simp,Vy _,by omega⟩];rfl
 have H:Xu n 0=Vk n.2.2.1.length []:=by
  unfold Xu
  have:∀m:Nat,(Va m).map (fun i:Nat=>((Va 0).filter fun k=>Ue ((lk n k).1=(i:Int))).map fun k:Nat=>(k:Int))=Vk m []:=by intro m;rw[List.eq_replicate_iff];simp
  grind
 have f:Zfa n q=Ua (n,q,RS n,Vk n.1.length [],[],[],()):=by
  unfold Zfa;rw[B,Za,C,Za];refine K4 (fun r=>r=(n,q,RS n,Vk n.1.length [],[],[],())) ?_ (by simp);refine KC n.2.2.2.1.length _ (fun k s=>s=((n,q,Xu n k,Vk n.1.length [],[],[],()),(k:Int))) ?_ ?_ _ (by grind)
  ·rintro k _ h rfl;left;obtain⟨i,c,j,d,st,e,P,_⟩:=E.link _ (Vg h);have J:lk n k=n.2.2.2.1[k]:=by unfold lk;grind
   have A:(Xu n k).length=n.2.2.1.length:=by unfold Xu;simp
   have w:Zs (i:Int) (Xu n k).length=Ua i:=by unfold Zs;grind
   have b:i<(Xu n k).length:=by omega
   have z:(Xu n k)[i]=((Va k).filter fun k=>Ue ((lk n k).1=(i:Int))).map fun k:Nat=>(k:Int):=Zh1 b
   have K:((Xu n k)[i]).length<=1024:=by
    grind
   have p:Zz (Ue (((Xu n k)[i]).length+Vd [(k:Int)]<=ZD))=Ua ():=by rw[Zj (by grind)];rfl
   have t:Zz (RR (Ua (Vba ((i:Nat):Int))) i)=Ua ():=by rw[Vs];show Zz (Nat.beq i i)=_;rw[Nat.beq_refl];rfl
   have g:(Xu n k).set i ((Xu n k)[i]++[(k:Int)])=Xu n (k+1):=by
    refine List.ext_getElem (by rw[Vca];unfold Xu;simp) fun a O D=>?_;rw[Via];have l:a<(Xu n k).length:=by grind
    rw[Zh1 D,List.range_succ,Vfa,Vaa];have I:(lk n k).1=(i:Int):=by grind
    by_cases o:i=a
    ·grind
    ·have N:¬((i:Int)=(a:Int)):=by omega
     rw[Zg o,Zh1 l,show List.filter (fun k=>Ue ((lk n k).1=(a:Int))) [k]=[] by grind];simp
   refine⟨((n,q,Xu n (k+1),Vk n.1.length [],[],[],()),((k+1:Nat):Int)),?_,rfl⟩;simp only[ZQ h,Ze,ZE h,Za,e,w,Vb b,ZE b,p,t,Kb h (by omega),g]
  ·rintro _ rfl;exact⟨(n,q,RS n,Vk n.1.length [],[],[],()),by rw[XQ,Zd];rfl,rfl⟩
 unfold ZbT;rw[f,Za]
 have G:ZcV (Vk n.1.length ([]:List (El Qn.Y91)))=true:=by unfold ZcV;simp
 simp only;rw[G];show Ua _=Ua _;congr 1;show (n,q,RS n,(Vk n.1.length ([]:List (El Qn.Y91))).map (fun _=>([]:List Z5)),[],[])=GR n q;unfold GR;simp
theorem Zl2(n:Zc)(q:Zl):XX F hF n q (GR n q) 0:=by
 have c:∀r∈KN (GR n q),r=[]:=fun r b=>Vha (by assumption);refine⟨rfl,rfl,rfl,List.length_replicate,⟨fun r b y a=>?_,fun y a=>(by cases a),fun y a=>(by cases a)⟩,fun i r b=>?_,⟨fun y a=>(by cases a),fun y a=>(by cases a)⟩,⟨Vr _,Vr _⟩,fun r b y a=>?_,fun y a=>(by cases a)⟩
 ·grind
 ·rw[c r (Vma b)];simp
 grind
abbrev Xm:=Int×Int×Unit
def GL(n:Zc)(q:Zl)(d:Int)(w:Xm):Z5:=(w.1,d+w.2.1,d+w.2.1,0,w.2.1,Ud,st0 n.2.2.2.2.2.1,if 0<w.2.1 then [KG q.1 w.1 d (d+w.2.1)] else [],())
def ZcN(n:Zc)(d:Int)(w:Xm)(i c:Nat):Prop:=(Zi n i c).1=w.1/\(Zi n i c).2.2.2.1=Uc/\(Zi n i c).2.2.1=d+w.2.1
instance (n:Zc) (d:Int) (w:Xm) (i c:Nat):Decidable (ZcN n d w i c):=by unfold ZcN;infer_instance
noncomputable def Gy(n:Zc)(q:Zl)(d:Int)(w:Xm):List Z5:=(Va n.2.2.1.length).flatMap fun i=>(Va (Zt n i).length).flatMap fun c=>if ZcN n d w i c then HG n q 100 (GL n q d w) i c else []
noncomputable def Hr(n:Zc)(q:Zl)(ws:List Xm)(d:Int):List Z5:=ws.flatMap (Gy n q d)
def Zjc(n:Zc)(ws:List Xm):Prop:= ∀w∈ws,0<=w.1/\w.1<(n.1.length:Int)/\0<=w.2.1/\w.2.1<=14400
theorem Zol(f:WC n){hF:FO n.2.2.2.2.2.1}(b:0<=q.2.2.2.2.1){d:Int}(g:0<=d/\d<=3155932800){w:Xm}(a:0<=w.1/\w.1<(n.1.length:Int)/\0<=w.2.1/\w.2.1<=14400):YG n.2.2.2.2.2.1 hF n q (GL n q d w):=by
 have c:(GL n q d w).2.2.2.2.2.2.2.1.length<=200:=by
  show (if 0<w.2.1 then [KG q.1 w.1 d (d+w.2.1)] else []).length<=200
  grind
 exact⟨⟨ZnE hF,fun v e=>absurd e (by show¬v∈([]:List ZM);simp),⟨a.1,a.2.1⟩⟩,rfl,b,⟨a.2.2.1,by show w.2.1<=_;omega⟩,⟨by show 0<=d+w.2.1;omega,by show d+w.2.1<=_;omega⟩,c⟩
theorem ZwH(b:WC n){hF:FO n.2.2.2.2.2.1}(h:q.2.2.2.2.1<=3)(g:0<=q.2.2.2.2.1){d:Int}(j:0<=d/\d<=3155932800){w:Xm}(k:0<=w.1/\w.1<(n.1.length:Int)/\0<=w.2.1/\w.2.1<=14400):∀l∈Gy n q d w,Jt n.2.2.2.2.2.1 hF n l:=by
 intro l a;unfold Gy at a;obtain⟨i,f,a⟩:=Vc.1 a;obtain⟨c,e,a⟩:=Vc.1 a;rw[Vn]at f e;split at a
 ·exact ZgC b h (Zol b g j k) f e l a
 grind
theorem Zqd(v:Whole n)(I:WR n){hF:FO n.2.2.2.2.2.1}(P:∀x∈n.2.2.2.2.2.1.1,x.1.length<=9223372036854775807)(E:q.2.2.2.2.1<=3)(D:0<=q.2.2.2.2.1){d:Int}(J:0<=d/\d<=3155932800){ws:List Xm}(t:Zjc n ws)(O:ws.length<=1000)(G:(Hr n q ws d).length<=549755813888):
 ∃x,ZeE n q ws d=Ua (.inl x)/\K7 n.2.2.2.2.2.1 (GR n q) (Hr n q ws d) x:=by
 have H:=v.ok;unfold ZeE;rw[ZtW v I,Za,ZuA v.z P,Za];rw[Zj rfl,Vh,Zd];unfold Hr at G⊢;rw[ZeT]at G⊢;have B:∀o:Option FX,(∃e,o=Ua e/\K7 n.2.2.2.2.2.1 (GR n q) ((Va ws.length).flatMap fun i=>(ws[i]?).elim [] (Gy n q d)) e)->∃e:FX,(Vo o fun x=>Ua (Sum.inl x))=Ua (Sum.inl e:FX ⊕ List (Option Z5))/\K7 n.2.2.2.2.2.1 (GR n q) ((Va ws.length).flatMap fun i=>(ws[i]?).elim [] (Gy n q d)) e:=by grind
 refine B _ (Zb7 (F:=n.2.2.2.2.2.1) (hF:=hF) (n:=n) (q:=q) (m:=ws.length) (g:=fun i=>(ws[i]?).elim [] (Gy n q d)) (x:=GR n q) (N:=0) (fun k x=>(x,(k:Int))) (fun x=>x) (Zl2 n q) (by
  intro i a l K;rw[Vb a]at K
  exact ZwH H E D J (t _ (Vg a)) l K) (by omega) (by
  intro i s M a A j;rw[Vb a]at j⊢;have p:M+(Gy n q d ws[i]).length<=549755813888:=j;show∃e,_/\K7 n.2.2.2.2.2.1 s (Gy n q d ws[i]) e;have Q:=t _ (Vg a);have R:idx ws (i:Int)=Ua ws[i]:=ZE a;generalize ws[i]=w at*;have S:Vl .i64 (d+w.2.1)=d+w.2.1:=ZH (by omega) (by omega);simp only[ZQ a,Ze,R,Za,Kb a (by omega),S]
  have r:(bif Ue ((0:Int)<w.2.1) then
   Ua (s,Ua (w.1,d+w.2.1,d+w.2.1,(0:Int),w.2.1,Ud,st0 n.2.2.2.2.2.1,[(Ud,(0:Int),(0:Int),(0:Int),q.1,w.1,d,d+w.2.1,Ud,())],()))
   else Ua (s,Ua (w.1,d+w.2.1,d+w.2.1,(0:Int),w.2.1,Ud,st0 n.2.2.2.2.2.1,([]:List Zw),())))=(Ua (s,Ua (GL n q d w)):Option (FX×Option Z5)):=by
   unfold GL;by_cases b:0<w.2.1
   ·rw[Zj b,Zv b];rfl
   grind
  rw[r];simp only[Za]
  obtain⟨T,f,y⟩:=ZmE v I E (Zol (hF:=hF) (q:=q) H D J Q) (fun i c=>ZcN n d w i c) (fun C=>bif Ue (C.1=w.1) then bif C.2.2.2.1 then Ua (Ue (C.2.2.1=(GL n q d w).2.2.1)) else Ua Ud else Ua Ud) (by
   intro i c a U;by_cases f:(Zi n i c).1=w.1
   ·rw[Zj f,Ze]
    cases y:(Zi n i c).2.2.2.1 with
    |true=>rw[Ze];congr 1;exact decide_eq_decide.2 ⟨fun h=>⟨f,y,h⟩,fun h=>h.2.2⟩
    |false=>rw[Zd];congr 1;rw[Zr];intro h;rw[h.2.1]at y;grind
   ·rw[Zr f,Zd];congr 1;rw[Zr];intro h;exact f h.1) A p
  rw[f]
  exact⟨T,rfl,y⟩) (by
  simp))
end Q
namespace Q
open Tr Go
variable {F:Z4}{hF:FO F}{n:Zc}{q:Zl}
theorem Zcj(n:Zc)(q:Zl)(y:Z5):1<=wY n q y:=by unfold wY;omega
theorem ZfJ{α:Type}(w:α->Nat)(h:∀l,1<=w l)(ls:List α):ls.length+(ls.map fun l=>w l - 1).sum=(ls.map w).sum:=by
 induction ls with
 |nil=>rfl
 |cons x ls a=>
  grind
def Cvd(F:Z4)(x:FX)(y:Z5):Prop:= ∃m∈XU x y.1,Jc F m y=Uc
structure DE (F:Z4) (hF:FO F) (n:Zc) (q:Zl) (S:Z5->Prop) (B:Nat) (x:FX) (N:Nat):Prop where
 fin:XX F hF n q x N
 snd:(∀r∈KN x,∀y∈r,S y)/\(∀y∈JE x,S y)/\ ∀y∈Xt x,S y
 wgt:N+((JE x).map (wY n q)).sum<=B+(JE x).length
 cls:∀r∈KN x,∀m∈r,m∈JE x\/ ∀z∈YB n q m,Cvd F x z
theorem DE.adds{S:Z5->Prop}{B N:Nat}{x s:FX}{u:List Z5}(R:N+u.length+((JE x).map (wY n q)).sum+(u.map fun l=>wY n q l - 1).sum<=B+(JE x).length)(h:XX F hF n q x N)(P:(∀r∈KN x,∀y∈r,S y)/\(∀y∈JE x,S y)/\ ∀y∈Xt x,S y)
 (C:∀r∈KN x,∀m∈r,m∈JE x\/ ∀z∈YB n q m,Cvd F x z\/z∈u) (Q:∀z∈u,S z/\Jt F hF n z) (k:K7 F x u s):DE F hF n q S B s (N+u.length):=by
 have a:=h.adds (by grind) k;obtain⟨sub,G,H,t,I,⟨J,K,M,O⟩,v,b,c,a12⟩:=k;refine⟨a,⟨fun r j y p=>?_,fun y p=>?_,fun y p=>?_⟩,?_,fun r j m D=>?_⟩
 ·obtain⟨i,o⟩:=Vz j
  grind
 ·grind
 ·grind
 ·rw[t,Vaa,Vka,Vj];have e:=b fun l=>wY n q l - 1;have f:=ZfJ (wY n q) (Zcj n q) sub;omega
 ·obtain⟨i,o⟩:=Vz j;obtain⟨r0,w,A,_⟩:=v i r o;rcases A m D with e|⟨e,_⟩
  ·rcases C r0 (Vma w) m e with f|f
   ·grind
   ·right;intro z E;rcases f z E with g|g
    ·exact c z g
    ·exact a12 z g
  grind
theorem ZtK(hW:Whole n)(hT:WR n)(h3:q.2.2.2.2.1<=3)(hq:q.2.2.2.2.2.1<=86400){S:Z5->Prop}(hS:∀y,S y->YG F hF n q y/\ ∀z∈YB n q y,S z){B:Nat}(hB:B<=549755813888):
 ∀(m:Nat) (x:FX) (N:Nat),((JE x).map (wY n q)).sum<=m->DE F hF n q S B x N->∃l D,run Dd x=Ua (Xt l)/\DE F hF n q S B l D/\JE l=[]/\ ∀y,Cvd F x y->Cvd F l y:=by
 intro m
 induction m with
 |zero=>
  intro x N X b
  have g:JE x=[]:=by
   cases h:JE x with
   |nil=>rfl
   |cons u rest=>
    rw[h,Ve,Vf]at X;have:=Zcj n q u;omega
  refine⟨x,N,XA ?_,b,g,fun _ h=>h⟩;unfold Dd;have I:x.2.2.2.2.1=[]:=g
  rw[I];rfl
 |succ m ih=>
  intro x N X b
  cases g:JE x with
  |nil=>
   grind
  |cons u rest=>
   have I:x.2.2.2.2.1=u::rest:=g;have hu:S u:=b.snd.2.1 u (by rw[g];simp);obtain⟨J,H⟩:=hS u hu;obtain⟨Z,b7⟩:=J.ok.stop;have hi:u.1.toNat<(KN x).length:=by rw[b.fin.rows];omega
   have a7:D8 x u=XU x u.1:=rfl;have b6:XU x u.1=(KN x)[u.1.toNat]:=by unfold XU;grind
   have a5:=b.fin.bag u.1.toNat _ (Vb hi);have a0:=b.wgt;rw[g,Ve,Vf,Vx]at a0;rw[g,Ve,Vf]at X;have b0:=Zt1 (q:=q) hW hT u;have b5:=ZfJ (wY n q) (Zcj n q) (YB n q u);have b8:=Zcj n q u;have a6:=ZfJ (wY n q) (Zcj n q) rest;have E:N+(YB n q u).length<=549755813888:=by omega
   have a8:(Ue ((0:Int)<=(u.1:Int)) && (Ue ((u.1:Int).toNat<x.2.2.2.1.length) &&Ue ((D8 x u).length<=549755813888)))=true:=by rw[Zj Z,Zj (by assumption),Zj (by grind)];rfl
   generalize a:((x.1,x.2.1,x.2.2.1,x.2.2.2.1,rest,x.2.2.2.2.2):FX)=c;have v:KN c=KN x:=by rw[<-a];rfl
   have P:JE c=rest:=by rw[<-a];rfl
   have b3:Xt c=Xt x:=by rw[<-a];rfl
   have b4:∀s,XU c s=XU x s:=fun s=>by unfold XU;rw[v]
   have p:XX F hF n q c N:=by
    have h:=b.fin;have hl:=h.lab;have T:=h.cvd;have U:=h.few;rw[g]at hl T U;refine⟨by rw[<-a];exact h.net,by rw[<-a];exact h.que,by rw[<-a];exact h.lnk,by rw[v];exact h.rows,by grind,by rw[v];exact h.bag,⟨?_,?_⟩,by grind,by rw[v,b3];exact h.fd,by rw[b3];exact h.to⟩
    all_goals grind
   have k:(∀r∈KN c,∀y∈r,S y)/\(∀y∈JE c,S y)/\ ∀y∈Xt c,S y:=by
    have hs:=b.snd
    grind
   by_cases V:u∈XU x u.1
   ·
    have G:(D8 x u).any (fun y=>Ue (y=u))=true:=by grind
    obtain⟨x1,k1,K⟩:=Zt5 hW hT h3 hq J p E
    have t:DE F hF n q S B x1 (N+(YB n q u).length):=by
     refine DE.adds ?_ p k (fun r A m f=>?_) (fun z C=>⟨H z C,(hS z (H z C)).1.ok⟩) K
     ·rw[P];omega
     ·rw[v]at A;rcases b.cls r A m f with h|h
      ·grind
      ·right;intro z C;obtain⟨o,w,j⟩:=h z C;exact .inl ⟨o,by grind,j⟩
    have Y:((JE x1).map (wY n q)).sum<=m:=by
     obtain⟨sub,a1,a2,a3,a4,_,a9,M,_⟩:=K
     grind
    obtain⟨l,D,w,j,Q,R⟩:=ih x1 _ Y t;refine⟨l,D,?_,j,Q,fun y hy=>R y ?_⟩
    ·rw[<-w];refine Y1 ?_;unfold Dd
     grind
    ·obtain⟨sub,a1,a2,a3,a4,_,a9,M,O,_⟩:=K;obtain⟨o,w,j⟩:=hy;exact O y (by grind)
   ·have G:(D8 x u).any (fun y=>Ue (y=u))=false:=by
     grind
    have t:DE F hF n q S B c N:=by
     refine⟨p,k,by rw[P];omega,fun r A m f=>?_⟩;rw[v]at A;rcases b.cls r A m f with h|h
     ·rw[g,Vp]at h;rcases h with rfl|h
      ·exfalso;obtain⟨i,W⟩:=Vz A;have e:=(b.fin.bag i r W).1 m f;apply V;unfold XU;simp [*]
      grind
     ·right;intro z C;obtain⟨o,w,j⟩:=h z C;exact⟨o,by grind,j⟩
    obtain⟨l,D,w,j,Q,R⟩:=ih c N (by rw[P];omega) t;refine⟨l,D,?_,j,Q,fun y ⟨o,k1,K⟩=>R y ⟨o,by grind,K⟩⟩;rw[<-w];refine Y1 ?_;unfold Dd
    grind
end Q
namespace Q
open Tr Go
variable {n:Zc}{q:Zl}
def KH(q:Zl)(t:Int):Zl:=(q.1,q.2.1,t,Ud,q.2.2.2.2)
theorem ZhU{p p' :ZA}(a:p.2.2.1=p'.2.2.1)(e:p.2.2.2.1=p'.2.2.2.1)(f:p.2.2.2.2.1=p'.2.2.2.2.1)(g:p.2.2.2.2.2.1=p'.2.2.2.2.2.1)(i b c:Nat)(st:Bool)(v:ZM):Z2 n p i b c st v=Z2 n p' i b c st v:=by
 unfold Z2
 grind
theorem Zjq{F:Z4}{hF:FO F}{Q:Zl}{l:ZA}(b:LI F hF n Q l)(i:0<l.2.2.1)(d:Int):W5 l.2.2.2.2.2.1 d=l.2.2.2.2.2.1:=by
 match hL:l.2.2.2.2.2.1 with
 |[]=>rfl
 |[x]=>
  cases e:x.1 with
  |true=>exact Zbg e d
  |false=>
   exfalso;have g:=(b.adj x hL e).2.2;have c:=b.rgo;rw[hL,Gs,Zg (by grind),Zg (by grind),Zg (by grind)]at c
   have f:([]:List ZM)=KY l.2.2.2.2.1++(if l.1.1=1 then [l.1.2.2.2.2.1] else []):=(Prod.mk.inj c).1
   have a:=congrArg Vd f;rw[Vj]at a;have h:=b.cnt
   grind
 |x::y::L=>rfl
structure SL (n:Zc) (q:Zl) (d:Int) (l:ZA):Prop where
 rc:Rc n (ZU (KH q d)) (Wa n (ZU (KH q d))) l
 nz:0<l.2.2.1
 kind:l.1.1=1\/l.1.1=2
 head:∃x L,l.2.2.2.2.2.1=x::L/\x.2.2.2.2.2.2.1=d
def G3(n:Zc)(q:Zl)(d:Int)(y:Z5):Prop:= ∃l,SL n q d l/\(l.1.1=1->Xp n l=Uc)/\y=KI n l
structure Cx (n:Zc) (q:Zl) (d:Int) (hF:FO n.2.2.2.2.2.1):Prop where
 whole:Whole n
 tin:WR n
 li0:LI n.2.2.2.2.2.1 hF n (ZU (KH q d)) (Wa n (ZU (KH q d)))
 nch:q.2.2.2.2.2.2.2.2.2.1=Ud
 max:q.2.2.2.2.1<=3
 wlk:q.2.2.2.2.2.1<=86400
 mom:0<=d/\d<=3155932800
variable {d:Int}{hF:FO n.2.2.2.2.2.1}
theorem Cx.qi(h:Cx n q d hF):QI (ZU (KH q d)):=⟨by show q.2.2.2.2.1<=7;have:=h.max;omega,h.wlk⟩
theorem Cx.li(h:Cx n q d hF){l:ZA}(a:Rc n (ZU (KH q d)) (Wa n (ZU (KH q d))) l):LI n.2.2.2.2.2.1 hF n (ZU (KH q d)) l:=a.li h.whole h.tin h.qi h.li0
theorem Zke{l:ZA}(h:l.1.1≠1):ZK l=l:=by unfold ZK;grind
theorem Znt(h:Cx n q d hF){l:ZA}(a:SL n q d l)(g:l.1.1=1->Xp n l=Uc)(H:l.2.2.1<q.2.2.2.2.1){j b c:Nat}(w:j<n.2.2.1.length)(i:b<c)(s:c<(Zt n j).length)(e:Ya n j=Ud)(k:(Zi n j b).2.2.2.1=Uc)(A:(Zi n j b).1=l.1.2.1)
 (f:(KI n l).2.2.1<=(Zi n j b).2.2.1\/(l.2.1<=(Zi n j b).2.2.1/\ZbR n l j b=Uc)) (z:GS n j c=Uc):SL n q d (Z2 n (Xf (KI n l)) j b c Ud (J7 (Zi n j b).2.2.1)):=by
 obtain⟨I,C,J,D,E⟩:=Db l;have m:=h.li a.rc
 have v:(KI n l).2.2.1=HJ n (ZU (KH q d)) l:=by
  unfold KI HJ;rcases a.kind with y|y
  all_goals grind
 have t:Z2 n (Xf (KI n l)) j b c Ud (J7 (Zi n j b).2.2.1)=Z2 n (HH n (ZK l) j b) j b c Ud (J7 (Zi n j b).2.2.1):=by
  refine ZhU (n:=n) (p:=Xf (KI n l)) (p' :=HH n (ZK l) j b) ?_ ?_ rfl ?_ j b c Ud (J7 (Zi n j b).2.2.1)
  ·show l.2.2.1+1=(ZK l).2.2.1+1;omega
  ·exact D.symm
  ·show l.2.2.2.2.2.1=W5 (ZK l).2.2.2.2.2.1 _;rw[E,Zjq m a.nz]
 have B:Z2 n (Xf (KI n l)) j b c Ud (J7 (Zi n j b).2.2.1)∈Dw n (ZU (KH q d)) l:=by
  refine HO.2 (.inr (.inl ⟨g,GO.2 ⟨j,b,c,w,i,s,⟨e,k,by grind,by omega,?_⟩,?_,z,t⟩⟩))
  ·rw[C];rcases f with f|⟨f,o⟩
   ·omega
   ·refine .inr ⟨f,?_⟩;unfold ZbR at o⊢
    grind
  ·show (ZK l).2.2.1≠q.2.2.2.2.1;omega
 obtain⟨x,L,G,r⟩:=a.head;refine⟨.step a.rc B,?_,.inl rfl,x,L++[ZR n j b c Ud],?_,r⟩
 ·show 0<l.2.2.1+1;have:=a.nz;omega
 ·show l.2.2.2.2.2.1++_=_
  grind
theorem ZfN(h:Cx n q d hF):∀(K:Nat) (p:ZA) (i b:Nat) (st:Bool) (v:ZM),i<n.2.2.1.length->(Ya n i=Ud->∀c,b<c->c<(Zt n i).length->GS n i c=Uc->SL n q d (Z2 n p i b c st v))->∀y∈Jf n q K p i b st v,G3 n q d y
 |0,p,i,b,st,v,_,_,y,a=>by unfold Jf at a;grind
 |K+1,p,i,b,st,v,hi,U,y,a=>by
  have Z:=h.whole.ok;unfold Jf at a;split at a
  ·grind
  rename_i a1;have f:Ya n i=false:=by grind
  obtain⟨m,hm,a⟩:=Vc.1 a;rw[Vn]at hm;have s:b<b+1+m:=by omega
  have N:b+1+m<(Zt n i).length:=by omega
  generalize b+1+m=c at*;unfold ZaP at a;rw[Vq]at a;rcases a with a|a
  ·obtain⟨rfl,r,_⟩:=Zh8 a;have w:(Zi n i c).2.2.2.2.1=true:=r;exact⟨_,U f c s N (by unfold GS;grind),fun _=>r,rfl⟩
  ·obtain⟨k,hk,a⟩:=Vc.1 a;have P:k∈W8 n i:=hk;obtain⟨o,j,I,G,e,O,a3,a0,a2,t,V,g⟩:=ZaM Z P;unfold Gj at a;rw[e]at a;simp only[Vs]at a;split at a
   ·grind
   rename_i B
   have J:o=c:=by
    by_cases T:((o:Nat):Int)=(c:Int)
    ·omega
    ·exact absurd (.inl T) B
   subst J
   have Q:(Zi n i o).2.1<=(Zi n j I).2.2.1:=by have:¬(Zi n j I).2.2.1<(Zi n i o).2.1:=fun T=>B (.inr T);omega
   split at a
   ·rename_i E;have l:G=true:=E;subst l;obtain⟨_,rfl⟩:=V rfl
    have a4:ZiA n i o=true:=by unfold ZiA;rw[Vxa];exact⟨_,g,by simp⟩
    have A:=U f o s N (by unfold GS;grind);refine ZfN h K _ j 0 Uc _ O (fun z H M W X=>?_) y a;obtain⟨x,L,e1,Y⟩:=A.head;refine⟨.step A.rc (HO.2 (.inl ⟨rfl,D0.2 ⟨_,g,⟨rfl,rfl,rfl,?_,?_⟩,H,M,?_,?_,rfl⟩⟩)),A.nz,.inl rfl,x,L++[ZR n j 0 H Uc],?_,Y⟩
    ·grind
    ·grind
    ·grind
    ·grind
    ·show (Z2 n p i b o st v).2.2.2.2.2.1++_=_
     grind
   ·split at a
    ·rename_i E S;have l:G=false:=by grind
     subst l;obtain⟨C,D⟩:=S
     have r:Xp n (Z2 n p i b o st v)=true:=by
      unfold Hm at C
      grind
     have w:(Zi n i o).2.2.2.2.1=true:=r;have A:=U f o s N (by unfold GS;grind);unfold HF at a;split at a
     ·rename_i R;refine ZfN h K _ j I Ud _ O (fun z H M W X=>?_) y a;refine Znt h A (by grind) R O M W z D t.symm (.inr ⟨Q,?_⟩) X;unfold ZbR;rw[Vxa];exact⟨_,g,by simp [Z2]⟩
     grind
    grind
theorem Zt4(h:Cx n q d hF){y:Z5}(C:G3 n q d y):∀z∈YB n q y,G3 n q d z:=by
 obtain⟨l,g,f,rfl⟩:=C;obtain⟨D,E,G,H,M⟩:=Db l;intro z b;unfold YB at b;rw[Vq]at b;rcases b with b|b
 ·unfold Dp at b;obtain⟨i,k,b⟩:=Vc.1 b;obtain⟨c,v,b⟩:=Vc.1 b;rw[Vn]at k v;split at b
  ·rename_i a;unfold HG HF at b;split at b
   ·rename_i m;refine ZfN h 100 _ i c Ud _ k (fun j I r s t=>?_) z b;exact Znt h g f m k r s j a.2.1 a.1 (.inl a.2.2) t
   grind
  grind
 ·split at b
  ·rename_i e;have K:l.1.1=1:=Xq e;unfold Zcl at b;obtain⟨p,w,b⟩:=Vc.1 b;split at b
   ·rename_i a;rw[Vm]at b;subst b
    have B:JD (ZK l) p∈Dw n (ZU (KH q d)) l:=by
     refine HO.2 (.inr (.inr ⟨f,by omega,Dj.2 ⟨p,w,⟨?_,?_,?_⟩,rfl⟩⟩))
     ·rw[D];exact a.1
     ·rw[H];exact a.2.1
     ·rw[E];exact a.2.2
    obtain⟨x,L,J,o⟩:=g.head;refine⟨JD (ZK l) p,⟨.step g.rc B,?_,.inr rfl,x,L++[KG (ZK l).1.2.1 p.2.1 (ZK l).2.1 ((ZK l).2.1+p.2.2.1)],?_,o⟩,fun A=>absurd A (by show¬(2:Int)=1;decide),?_⟩
    ·show 0<(ZK l).2.2.1;rw[G];exact g.nz
    ·show (ZK l).2.2.2.2.2.1++_=_
     grind
    ·unfold Rj KI;rw[Zke (l:=JD (ZK l) p) (by show¬(2:Int)=1;decide),Zg (show¬(JD (ZK l) p).1.1=1 by show¬(2:Int)=1;decide),Zr (show¬(JD (ZK l) p).1.1=1 by show¬(2:Int)=1;decide)];show _=((p.2.1,(ZK l).2.1+p.2.2.1,(ZK l).2.1+p.2.2.1,(ZK l).2.2.1,(ZK l).2.2.2.1+p.2.2.1,Ud,(ZK l).2.2.2.2.1,(ZK l).2.2.2.2.2.1++[KG (ZK l).1.2.1 p.2.1 (ZK l).2.1 ((ZK l).2.1+p.2.2.1)],()):Z5)
     grind
   grind
  grind
end Q
namespace Q
open Tr Go
variable {n:Zc}{q:Zl}{d:Int}{hF:FO n.2.2.2.2.2.1}
theorem Znv(h:Cx n q d hF){y:Z5}(j:G3 n q d y):YG n.2.2.2.2.2.1 hF n q y:=by obtain⟨l,f,e,rfl⟩:=j;have a:=h.li f.rc;obtain⟨b,k,c3⟩:=ZgN h.qi a;have c:=a.val.walk;have m:=h.wlk;have g:=a.val.time;have i:l.2.2.2.1<=q.2.2.2.2.2.1:=c.2;exact⟨⟨b.fare.1,b.fare.2,a.val.stop⟩,c3,a.val.rides.2,⟨c.1,by show l.2.2.2.1<=_;omega⟩,⟨g.1,by show l.2.1<=_;omega⟩,by show l.2.2.2.2.2.1.length<=_;have:=a.val.len;omega⟩
def Zjb(n:Zc)(q:Zl)(w:Xm):Prop:=(w.1=q.1/\w.2.1=0)\/ ∃p∈n.2.2.2.2.1,p.1=q.1/\p.2.2.1<=q.2.2.2.2.2.1/\w.1=p.2.1/\w.2.1=p.2.2.1
theorem ZwI(h:Cx n q d hF){w:Xm}(P:Zjb n q w):∀z∈Gy n q d w,G3 n q d z:=by
 have C:=h.whole.ok;intro z f;unfold Gy at f;obtain⟨i,k,f⟩:=Vc.1 f;obtain⟨c,E,f⟩:=Vc.1 f;rw[Vn]at k E;split at f
 ·rename_i g;obtain⟨v,x,J⟩:=g;unfold HG HF at f;split at f
  ·rename_i s;have G:(0:Int)<q.2.2.2.2.1:=s;refine ZfN h 100 _ i c Ud _ k (fun j b y A B=>?_) z f;have a:ZK (Wa n (ZU (KH q d)))=Wa n (ZU (KH q d)):=by rfl
   have K:HJ n (ZU (KH q d)) (Wa n (ZU (KH q d)))=d:=by unfold HJ;rw[Zg (by show¬(0:Int)=1;decide),Zg (by show¬(0:Int)=2;decide),Zg (by rw[show (ZU (KH q d)).2.2.2.2.2.2.2.2.2.1=q.2.2.2.2.2.2.2.2.2.1 from rfl,h.nch];decide)];show d+0=d;omega
   rcases P with ⟨t,I⟩|⟨p,H,Q,R,t,I⟩
   ·have r:Z2 n (Xf (GL n q d w)) i c b Ud (J7 (Zi n i c).2.2.1)=Z2 n (HH n (ZK (Wa n (ZU (KH q d)))) i c) i c b Ud (J7 (Zi n i c).2.2.1):=by
     refine ZhU (n:=n) (p:=Xf (GL n q d w)) (p' :=HH n (ZK (Wa n (ZU (KH q d)))) i c) rfl ?_ ?_ ?_ i c b Ud (J7 (Zi n i c).2.2.1)
     ·assumption
     ·rfl
     ·rw[a]
      show (if 0<w.2.1 then _ else [])=_
      rw[Zg (by omega)];rfl
    refine⟨.step .start (HO.2 (.inr (.inl ⟨fun l=>absurd l (by show¬(0:Int)=1;decide),GO.2 ⟨i,c,b,k,y,A,⟨j,x,?_,by omega,.inl ?_⟩,?_,B,r⟩⟩))),by show (0:Int)<0+1;decide,.inl rfl,ZR n i c b Ud,[],?_,?_⟩
    ·rw[a,v,t];rfl
    ·omega
    ·rw[a];show (0:Int)≠q.2.2.2.2.1;omega
    ·show (if 0<w.2.1 then _ else [])++[ZR n i c b Ud]=_
     grind
    ·show (Zi n i c).2.2.1=d;omega
   ·have N:=C.path p H;have O:=C.time k E
    have o:JD (ZK (Wa n (ZU (KH q d)))) p∈Dw n (ZU (KH q d)) (Wa n (ZU (KH q d))):=by
     refine HO.2 (.inr (.inr ⟨fun l=>absurd l (by show¬(0:Int)=1;decide),by show¬(0:Int)=2;decide,Dj.2 ⟨p,H,⟨?_,?_,?_⟩,rfl⟩⟩))
     ·assumption
     ·rw[a];show 0+p.2.2.1<=q.2.2.2.2.2.1;omega
     ·rw[a];show d+p.2.2.1<=_;omega
    rw[a]at o;have m:Rc n (ZU (KH q d)) (Wa n (ZU (KH q d))) (JD (Wa n (ZU (KH q d))) p):=.step .start o;have e:ZK (JD (Wa n (ZU (KH q d))) p)=JD (Wa n (ZU (KH q d))) p:=by rfl
    have M:(JD (Wa n (ZU (KH q d))) p).2.2.2.2.2.1=[KG q.1 p.2.1 d (d+p.2.2.1)]:=rfl
    have D:W5 [KG q.1 p.2.1 d (d+p.2.2.1)] (Zi n i c).2.2.1=[KG q.1 p.2.1 d (d+p.2.2.1)]:=by rw[Zae rfl,J,I];unfold KG;simp
    have r:Z2 n (Xf (GL n q d w)) i c b Ud (J7 (Zi n i c).2.2.1)=Z2 n (HH n (ZK (JD (Wa n (ZU (KH q d))) p)) i c) i c b Ud (J7 (Zi n i c).2.2.1):=by
     refine ZhU (n:=n) (p:=Xf (GL n q d w)) (p' :=HH n (ZK (JD (Wa n (ZU (KH q d))) p)) i c) ?_ ?_ ?_ ?_ i c b Ud (J7 (Zi n i c).2.2.1)
     ·rfl
     ·rw[e];show w.2.1=0+p.2.2.1;omega
     ·rfl
     ·rw[e]
      show (if 0<w.2.1 then [KG q.1 w.1 d (d+w.2.1)] else [])=W5 (JD (Wa n (ZU (KH q d))) p).2.2.2.2.2.1 _
      grind
    refine⟨.step m (HO.2 (.inr (.inl ⟨fun l=>absurd l (by show¬(2:Int)=1;decide),GO.2 ⟨i,c,b,k,y,A,⟨j,x,?_,by omega,.inl ?_⟩,?_,B,r⟩⟩))),by show (0:Int)<0+1;decide,.inl rfl,KG q.1 w.1 d (d+w.2.1),[ZR n i c b Ud],?_,rfl⟩
    ·rw[e,v,t];rfl
    ·unfold HJ;rw[Zg (show¬(JD (Wa n (ZU (KH q d))) p).1.1=1 by show¬(2:Int)=1;decide),Zv (by rfl)];show d+p.2.2.1<=_;omega
    ·rw[e];show (0:Int)≠q.2.2.2.2.1;omega
    ·show (if 0<w.2.1 then [KG q.1 w.1 d (d+w.2.1)] else [])++[ZR n i c b Ud]=_
     grind
  grind
 grind
noncomputable def GI(n:Zc)(q:Zl)(l:ZA):Nat:=10*WA q l+(if l.1.1=1 then 2+WB n l.1.2.2.1.toNat else if l.1.1=2 then 1 else 10)
theorem ZuQ(h:Cx n q d hF){l:ZA}(J:Rc n (ZU (KH q d)) (Wa n (ZU (KH q d))) l):l.2.2.2.2.2.1.length+GI n q l<=40:=by
 induction J with
 |start=>
  have hm:=h.max;show 0+GI n q _<=40;unfold GI;rw[Zg (by show¬(0:Int)=1;decide),Zg (by show¬(0:Int)=2;decide)];have:WA q (Wa n (ZU (KH q d)))=(q.2.2.2.2.1 - 0).toNat:=rfl
  omega
 |step M R S=>
  rename_i l x;have o:=h.li M;obtain⟨s1,s2,z,s4,T⟩:=Db l;have K:l.2.2.1<=q.2.2.2.2.1:=o.val.rides.2;rcases HO.1 R with ⟨k1,O⟩|⟨_,D⟩|⟨_,k2,Q⟩
  ·obtain⟨k,w,⟨e0,U,V,E,P⟩,C,X,H,_,ex⟩:=D0.1 O;obtain⟨r,B,j,A,sy,I,N,Z,_⟩:=h.whole.ok.link _ w;subst I;simp only[Vs]at*;have t:=ZfF h.whole (i:=r) (c:=B) (j:=j) (d:=A) (by rw[e0]at w;assumption);have s:=Zfs h.whole (show j<7 by have:=h.tin.runs;omega) t;have W:WB n l.1.2.2.1.toNat=WB n r:=by grind
   have a:x.1.1=1:=by rw[ex];rfl
   have b:WB n x.1.2.2.1.toNat=WB n j:=by rw[ex];rfl
   have e:WA q x=WA q l:=by rw[ex];rfl
   have f:x.2.2.2.2.2.1.length=l.2.2.2.2.2.1.length+1:=by rw[ex];show (l.2.2.2.2.2.1++[_]).length=_;simp
   unfold GI at S⊢
   grind
  ·obtain⟨i,c,C,Y,G,H,v,g,_,ex⟩:=GO.1 D;rw[z]at g;have y:l.2.2.1≠q.2.2.2.2.1:=g;have a:x.1.1=1:=by rw[ex];rfl
   have b:x.1.2.2.1.toNat=i:=by rw[ex];rfl
   have e:WA q l=WA q x+1:=by rw[ex];show (q.2.2.2.2.1 - l.2.2.1).toNat=(q.2.2.2.2.1 - ((ZK l).2.2.1+1)).toNat+1;omega
   have f:x.2.2.2.2.2.1.length=l.2.2.2.2.2.1.length+1:=by rw[ex];show (W5 (ZK l).2.2.2.2.2.1 _++[_]).length=_;rw[Vj,Zjp,T];rfl
   have s:=Zfr (n:=n) i
   have m:10*WA q l+1<=GI n q l:=by
    unfold GI
    grind
   unfold GI
   grind
  ·obtain⟨p,hp,_,ex⟩:=Dj.1 Q;have a:¬x.1.1=1:=by rw[ex];show¬(2:Int)=1;decide
   have b:x.1.1=2:=by rw[ex];rfl
   have e:WA q x=WA q l:=by rw[ex];show (q.2.2.2.2.1 - (ZK l).2.2.1).toNat=_;rw[z];rfl
   have f:x.2.2.2.2.2.1.length=l.2.2.2.2.2.1.length+1:=by rw[ex];show ((ZK l).2.2.2.2.2.1++[_]).length=_;grind
   have m:10*WA q l+2<=GI n q l:=by
    unfold GI
    grind
   unfold GI
   grind
def KJ(n:Zc)(q:Zl):List Xm:=(q.1,0,())::(n.2.2.2.2.1.filter fun p=>Ue (p.1=q.1) &&Ue (p.2.2.1<=q.2.2.2.2.2.1)).map fun p=>(p.2.1,p.2.2.1,())
theorem ZiU{w:Xm}(h:w∈KJ n q):Zjb n q w:=by
 unfold KJ at h;rw[Vp,Vta]at h;rcases h with rfl|⟨p,a,rfl⟩
 ·exact .inl ⟨rfl,rfl⟩
 ·rw[Vv,Vya,KD,KD]at a;exact .inr ⟨p,a.1,a.2.1,a.2.2,rfl,rfl⟩
theorem Zok(b:Whole n)(a:WR n)(w:Xm):((Gy n q d w).map (wY n q)).sum<=rW n (q.2.2.2.2.1 - 0).toNat w.1:=Zm4 (q:=q) b a (GL n q d w) (fun i c=>ZcN n d w i c) fun _ _ h=>h.1
theorem Zwa(b:Whole n)(a:WR n):((Hr n q (KJ n q) d).map (wY n q)).sum<=gW (q.2.2.2.2.1 - 0).toNat:=by
 unfold Hr;rw[ZfH];unfold KJ;rw[Ve,Vf,List.map_map];have f:=Zok (q:=q) (d:=d) b a (q.1,0,())
 have g:((n.2.2.2.2.1.filter fun p=>Ue (p.1=q.1) &&Ue (p.2.2.1<=q.2.2.2.2.2.1)).map ((fun w:Xm=>((Gy n q d w).map (wY n q)).sum) ∘fun p=>(p.2.1,p.2.2.1,()))).sum<=((n.2.2.2.2.1.filter fun p=>Ue (p.1=q.1)).map fun p=>1+rW n (q.2.2.2.2.1 - 0).toNat p.2.1).sum:=by
  generalize n.2.2.2.2.1=P
  induction P with
  |nil=>simp
  |cons p P i=>
   by_cases c:p.1=q.1
   ·rw[Vja (p:=fun p:Kh=>Ue (p.1=q.1)) (Zj c),Ve,Vf];by_cases e:p.2.2.1<=q.2.2.2.2.2.1
    ·rw[Vja (by grind),Ve,Vf];have:=Zok (q:=q) (d:=d) b a (p.2.1,p.2.2.1,())
     grind
    grind
   grind
 have h:=Zl8 b a (q.2.2.2.2.1 - 0).toNat q.1
 grind
theorem ZsM{k:Nat}(h:k<=3):gW k<=549755813888:=by
 have a:∀k,gW k<=gW (k+1):=fun k=>by show gW k<=61+1890*gW k;omega
 have b:gW 0<=gW 1:=a 0;have c:gW 1<=gW 2:=a 1;have e:gW 2<=gW 3:=a 2;have f:gW 3<=549755813888:=by decide
 rcases (show k=0\/k=1\/k=2\/k=3 by omega) with rfl|rfl|rfl|rfl<;>omega
theorem ZrF(h:Cx n q d hF)(G:∀x∈n.2.2.2.2.2.1.1,x.1.length<=9223372036854775807)(s:0<=q.2.2.2.2.1)(f:0<=q.1/\q.1<(n.1.length:Int)):
 ∃(x:FX) (N:Nat),Zap n q (KJ n q) d=Ua ((Xt x).map Ua)/\(Xt x).length<=549755813888/\DE n.2.2.2.2.2.1 hF n q (G3 n q d) (((Hr n q (KJ n q) d).map (wY n q)).sum) x N/\JE x=[]/\ ∀z∈Hr n q (KJ n q) d,Cvd n.2.2.2.2.2.1 x z:=by
 have C:=h.whole.ok
 have i:Zjc n (KJ n q):=fun w g=>by
  rcases ZiU g with ⟨K,M⟩|⟨p,H,Z,p2,K,M⟩
  ·omega
  ·have:=C.path p H;omega
 have c:(KJ n q).length<=1000:=by unfold KJ;rw[Vx,Vda];have t:=Vt (fun p:Kh=>Ue (p.1=q.1) &&Ue (p.2.2.1<=q.2.2.2.2.2.1)) n.2.2.2.2.1;have:=h.tin.paths;omega
 have k:((Hr n q (KJ n q) d).map (wY n q)).sum<=549755813888:=Vw (Zwa h.whole h.tin) (ZsM (by have:=h.max;omega));have A:=Vw (ZlI (n:=n) (q:=q) (Hr n q (KJ n q) d)) k;obtain⟨O,X,l⟩:=Zqd h.whole h.tin (hF:=hF) G h.max s h.mom i c A;have D:∀y,G3 n q d y->YG n.2.2.2.2.2.1 hF n q y/\ ∀z∈YB n q y,G3 n q d z:=fun y b=>⟨Znv h b,Zt4 h b⟩
 have e:∀z∈Hr n q (KJ n q) d,G3 n q d z:=fun z a=>by unfold Hr at a;obtain⟨w,g,a⟩:=Vc.1 a;exact ZwI h (ZiU g) z a
 have E:∀r∈KN (GR n q),r=[]:=fun r W=>Vha (by assumption)
 have v:=DE.adds (S:=G3 n q d) (B:=((Hr n q (KJ n q) d).map (wY n q)).sum) (hF:=hF) (x:=GR n q) (u:=Hr n q (KJ n q) d) (by have:=ZfJ (wY n q) (Zcj n q) (Hr n q (KJ n q) d);show 0+_+0+_<=_+0;omega) (Zl2 n q) ⟨by grind,fun y b=>(by cases b),fun y b=>(by cases b)⟩ (by grind) (fun z a=>⟨e z a,(Znv h (e z a)).ok⟩) l
 obtain⟨x,N,Y,j,I,J⟩:=ZtK h.whole h.tin h.max h.wlk D k _ O _ (Vr _) v;refine⟨x,N,?_,?_,j,I,fun z a=>J z ?_⟩
 ·unfold Zap
  grind
 ·have t:=j.fin.few.2;have V:=j.wgt
  grind
 ·obtain⟨sub,P,Q,R,T,_,U,m,o,a12⟩:=l;exact a12 z a
end Q
namespace Q
open Tr Go
def JT(c:JH):List Int:=[c.1,c.2.1,c.2.2.1]
def XH(c e:JH):Prop:=c.1=e.1/\c.2.1=e.2.1/\c.2.2.1=e.2.2.1
instance (c e:JH):Decidable (XH c e):=by unfold XH;infer_instance
def Jg(c e:JH):Prop:=e.1<=c.1/\c.2.1<=e.2.1/\c.2.2.1<=e.2.2.1
instance (c e:JH):Decidable (Jg c e):=by unfold Jg;infer_instance
def Zgd(c e:JH):Prop:=c.2.2.2.1<e.2.2.2.1\/(c.2.2.2.1=e.2.2.2.1/\c.2.2.2.2.1<=e.2.2.2.2.1)
def Hu(c e:JH):Prop:=Jg c e/\(XH c e->Zgd c e)
theorem Jg.refl(c:JH):Jg c c:=⟨Vy _,Vy _,Vy _⟩
theorem Hu.refl(c:JH):Hu c c:=⟨Jg.refl c,fun _=>.inr ⟨rfl,Vy _⟩⟩
def W6(c:JH)(x:W3):Bool:=Ue (¬XH c x.2.1/\Jg c x.2.1)
theorem ZfS{c e:JH} :JT c=JT e↔XH c e:=by unfold JT XH;simp
theorem Zhl:∀a b:List Int,a.length=b.length->Tr.eqEl.eqs (Tr.eqEl (.int .i64)) a b=Ua (Ue (a=b))
 |[],[],_=>rfl
 |[],_::_,h=>by cases h
 |_::_,[],h=>by cases h
 |x::a,y::b,h=>by have c:=Zhl a b (by grind);unfold Tr.eqEl.eqs;rw[c];simp only[Tr.eqEl,Za];simp
theorem Zmz(c e:JH):F117 (JT c) (JT e)=Ua (Ue (¬XH c e/\Jg c e)):=by
 unfold F117;rw[Zhl (JT c) (JT e) rfl];have g:∀c:JH,(JT c)[Vba (0:Int)]? =Ua c.1/\(JT c)[Vba (1:Int)]? =Ua c.2.1/\(JT c)[Vba (2:Int)]? =Ua c.2.2.1:=fun c=>⟨rfl,rfl,rfl⟩;simp only[Za,(g c).1,(g c).2.1,(g c).2.2,(g e).1,(g e).2.1,(g e).2.2];by_cases a:XH c e
 ·rw[Zj (p:=JT c=JT e) (ZfS.2 a),Zr (p:= ¬XH c e/\Jg c e) (fun h=>h.1 a)];rfl
 rw[Zr (p:=JT c=JT e) (fun h=>a (ZfS.1 h))];simp only[Vea,Ze];by_cases b:e.1<=c.1
 case neg=>rw[Zr b,Zr (p:= ¬XH c e/\Jg c e) (fun h=>b h.2.1)];rfl
 rw[Zj b];by_cases f:c.2.1<=e.2.1
 case neg=>rw[Zr f,Zr (p:= ¬XH c e/\Jg c e) (fun h=>f h.2.2.1)];rfl
 rw[Zj f];by_cases i:c.2.2.1<=e.2.2.1
 ·rw[Zj i,Zj (p:= ¬XH c e/\Jg c e) ⟨a,b,f,i⟩];rfl
 ·rw[Zr i,Zr (p:= ¬XH c e/\Jg c e) (fun h=>i h.2.2.2)];rfl
theorem Zjk(c:JH)(x:W3):F94 x (JT c)=Ua (W6 c x):=by unfold F94 F114;have h:F117 (JT c) [x.2.1.1,x.2.1.2.1,x.2.1.2.2.1]=Ua (W6 c x):=Zmz c x.2.1;simp only[Za,h]
theorem Zo5(c:JH){l:List W3}(m:l.length<=549755813888):(F177 l (JT c,())=Ua (-1)/\ ∀x∈l,W6 c x=Ud)\/ ∃i,∃a:i<l.length,F177 l (JT c,())=Ua (i:Int)/\(∀x∈l.take i,W6 c x=Ud)/\W6 c l[i]=true:=by
 unfold F177
 suffices g:∃r:Unit ⊕ Int,_=Ua r/\((r=.inl ()/\ ∀x∈l,W6 c x=Ud)\/ ∃i:Nat,∃a:i<l.length,r=.inr (i:Int)/\(∀x∈l.take i,W6 c x=Ud)/\W6 c l[i]=Uc) by
  obtain⟨r,e,f⟩:=g;rcases f with ⟨rfl,h⟩|⟨i,a,rfl,h⟩
  ·exact .inl ⟨K4 (fun x=>x=Sum.inl ()) ⟨_,e,rfl⟩ (fun x b=>by subst b;rfl),h⟩
  grind
 refine KC l.length (fun r:Unit ⊕ Int=>(r=.inl ()/\ ∀x∈l,W6 c x=Ud)\/ ∃i:Nat,∃a:i<l.length,r=.inr (i:Int)/\(∀x∈l.take i,W6 c x=Ud)/\W6 c l[i]=Uc) (fun i (s:Int)=>s=(i:Int)/\ ∀x∈l.take i,W6 c x=Ud) ?_ ?_ _ (by simp)
 ·rintro i _ a ⟨rfl,h⟩;have b:idx l (i:Int)=Ua l[i]:=ZE a;have j:∀w,w∈l.take (i+1)↔w∈l.take i\/w=l[i]:=fun w=>by rw[Vi a,Vq,Vm]
  simp only[ZQ a,Ze,b,Za,Zjk c]
  cases k:W6 c l[i] with
  |true=>grind
  |false=>
   refine .inl ⟨_,rfl,Kb a (by omega),fun w o=>?_⟩
   grind
 simp
theorem Zo1(c:JH){l:List W3}(N:l.length<=549755813888):F175 l (JT c,())=Ua (l.filter fun x=> !W6 c x):=by
 unfold F175;rcases Zo5 c N with ⟨g,I⟩|⟨b,z,g,I,G⟩
 ·rw[g];simp only[Za,decide_true,Ze];rw[List.filter_eq_self.2 (by grind)]
 ·rw[g];have C:Vl .i64 ((b:Int)+1)=((b+1:Nat):Int):=by rw[ZH (by omega) (by omega)];omega
  simp only[Za,Zr (show¬(b:Int)= -1 by omega),Zd,C];refine K4 (fun r:List W3×Int=>∃k:Nat,r.2=(k:Int)/\k<=l.length/\r.1.length=l.length/\r.1.take k=l.filter fun x=> !W6 c x) ?_ ?_
  ·have t:(l.take b).filter (fun x=> !W6 c x)=l.take b:=by simp_all
   refine KC (l.length - (b+1)) _ (fun r (s:List W3×Int×Int)=>∃k:Nat,s.2=((k:Int),((b+1+r:Nat):Int))/\k<=b+1+r/\s.1.length=l.length/\(s.1.take k=(l.take (b+1+r)).filter fun x=> !W6 c x)/\s.1.drop (b+1+r)=l.drop (b+1+r)) ?_ ?_ _ ⟨b,rfl,by omega,rfl,?_,rfl⟩
   ·rintro r ⟨fr,_⟩ S ⟨k,rfl,v,a,f,h⟩;left;simp only at a f h;have H:b+1+r<l.length:=by omega
    generalize M:b+1+r=i at*;have w:i<fr.length:=by omega
    have y:fr[i]? =Ua l[i]:=by have g:=congrArg List.head? h;rw[Vab,Vab,Vb H]at g;omega
    have m:(l.take (i+1)).filter (fun x=> !W6 c x)=(l.take i).filter (fun x=> !W6 c x)++(if W6 c l[i]=Uc then [] else [l[i]]):=by
     rw[Vi H,Vfa]
     grind
    have j:fr.drop (i+1)=l.drop (i+1):=by have g:=congrArg (Vva 1) h;rw[Vcb,Vcb]at g;omega
    have p:Ue ((i:Int)<((fr.length:Nat):Int))=true:=by grind
    have D:Vl .i64 ((i:Int)+1)=((b+1+(r+1):Nat):Int):=by rw[ZH (by omega) (by omega)];omega
    have A:b+1+(r+1)=i+1:=by omega
    simp only[p,Ze,KM w,y,Za,Zjk c,D];rw[A]
    cases J:W6 c l[i] with
    |true=>
     rw[Zv J,List.append_nil]at m
     exact⟨_,rfl,k,rfl,by omega,a,by grind,j⟩
    |false=>
     rw[Zg (by grind)]at m;have o:k<fr.length:=by omega
     have E:Vl .i64 ((k:Int)+1)=((k+1:Nat):Int):=by rw[ZH (by omega) (by omega)];omega
     simp only[Vea,Ze,KM o,Za,Vb o,E];refine⟨_,rfl,k+1,rfl,by omega,by grind,?_,?_⟩
     ·have R:(fr.set k l[i]).take (k+1)=fr.take k++[l[i]]:=by rw[Vi (by grind),List.take_set_of_le (Vr _),Vla]
      grind
     ·rw[List.drop_set_of_lt (by omega)];omega
   ·rintro ⟨fr,_⟩ ⟨k,rfl,v,a,f,_⟩;have e:b+1+(l.length - (b+1))=l.length:=by omega
    rw[e]at f v;rw[Vza]at f;have p:Ue (((b+1+(l.length - (b+1)):Nat):Int)<((fr.length:Nat):Int))=false:=by grind
    exact⟨(fr,(k:Int)),by grind,k,rfl,v,a,f⟩
   ·rw[Nat.add_zero,Vi z,Vfa,t,List.filter_cons_of_neg (by grind)];simp
  ·rintro ⟨fr,_⟩ ⟨k,rfl,v,a,f⟩;simp only at a f;have B:sliceB fr.length fr.length (Ua (k:Int)) Ub=Ua (k,fr.length):=ZdD (by omega);simp only[B,Za];have K:Zz (Ue (k+(fr.length - k)<=fr.length))=Ua ():=by rw[Zj (by omega)];rfl
   rw[K];simp only[Za];generalize T:Vk (fr.length - k) (((([]:List (El KZ)),()),((0:Int),(0:Int),(0:Int),(0:Int),(0:Int),()),([]:List (El HC)),()):W3)=Z;have Q:Z.length=fr.length - k:=by grind
   have O:(Vdb k fr++Z++Vva (k+(fr.length - k)) fr).length=fr.length:=by
    grind
   have P:sliceB (Vdb k fr++Z++Vva (k+(fr.length - k)) fr).length (Vdb k fr++Z++Vva (k+(fr.length - k)) fr).length Ub (Ua (k:Int))=Ua (0,k):=by
    unfold sliceB
    grind
   grind
def DC(l:List W3):Prop:=l.Pairwise fun x y=>¬Jg x.2.1 y.2.1/\ ¬Jg y.2.1 x.2.1
theorem Zum(c e:JH):F96 c e=Ua (Ue (c.2.2.2.1<e.2.2.2.1\/(c.2.2.2.1=e.2.2.2.1/\c.2.2.2.2.1<e.2.2.2.2.1))):=by
 unfold F96;by_cases a:c.2.2.2.1<e.2.2.2.1
 ·rw[Zj a,Zj (p:=c.2.2.2.1<e.2.2.2.1\/(c.2.2.2.1=e.2.2.2.1/\c.2.2.2.2.1<e.2.2.2.2.1)) (.inl a)];rfl
 rw[Zr a];by_cases b:c.2.2.2.1=e.2.2.2.1
 ·rw[Zj b];by_cases f:c.2.2.2.2.1<e.2.2.2.2.1
  ·rw[Zj f,Zj (p:=c.2.2.2.1<e.2.2.2.1\/(c.2.2.2.1=e.2.2.2.1/\c.2.2.2.2.1<e.2.2.2.2.1)) (.inr ⟨b,f⟩)];rfl
  ·rw[Zr f,Zr (p:=c.2.2.2.1<e.2.2.2.1\/(c.2.2.2.1=e.2.2.2.1/\c.2.2.2.2.1<e.2.2.2.2.1)) (fun h=>h.elim a fun h=>f h.2)];rfl
 ·rw[Zr b,Zr (p:=c.2.2.2.1<e.2.2.2.1\/(c.2.2.2.1=e.2.2.2.1/\c.2.2.2.2.1<e.2.2.2.2.1)) (fun h=>h.elim a fun h=>b h.1)];rfl
theorem Zuj{l:List W3}(o:W3)(Z:l.length+1<=549755813888)(H:DC l):∃f,F93 l o=Ua f/\(∀x∈f,x∈l\/x=o)/\(∃y∈f,Hu y.2.1 o.2.1)/\(∀x∈l,∃y∈f,Hu y.2.1 x.2.1)/\DC f:=by
 unfold F93;have D:∀c:JH,F114 c=Ua (JT c):=fun c=>rfl;rw[D];simp only[Za]
 suffices Y:∃r:List W3 ⊕ List W3,_=Ua r/\((r=.inl l/\ ∀x∈l,¬Jg x.2.1 o.2.1)\/(∃f,r=.inr f/\(∀x∈f,x∈l\/x=o)/\(∃y∈f,Hu y.2.1 o.2.1)/\(∀x∈l,∃y∈f,Hu y.2.1 x.2.1)/\DC f)) by
  obtain⟨r,O,T⟩:=Y;rcases T with ⟨rfl,h⟩|⟨f,rfl,h⟩
  ·have U:=Zo1 o.2.1 (l:=l) (by omega);have R:=Vt (fun x=> !W6 o.2.1 x) l
   have V:Zz (Ue ((l.filter fun x=> !W6 o.2.1 x).length+ [o].length<=ZD))=Ua ():=by have X:(ZD:Nat)=549755813888:=rfl;rw[Zj (by simp only[Vu];omega)];rfl
   refine⟨(l.filter fun x=> !W6 o.2.1 x)++[o],?_,fun x e=>?_,⟨o,by simp,Hu.refl _⟩,fun x e=>?_,?_⟩
   ·exact K4 (fun x=>x=.inl l) ⟨_,O,rfl⟩ (fun x e=>by subst e;simp only[Sum.elim_inl,U,Za,V])
   ·rw[Vq,Vm]at e;exact e.imp (fun h=>(Vv.1 h).1) id
   ·cases z:W6 o.2.1 x with
    |true=>
     have:=Xq z
     exact⟨o,by simp,this.2,fun k=>absurd k this.1⟩
    |false=>exact⟨x,List.mem_append_left _ (Vv.2 ⟨e,by rw[z];rfl⟩),Hu.refl _⟩
   ·refine List.pairwise_append.2 ⟨List.Pairwise.filter _ H,by simp,fun x e y S=>?_⟩;rw[Vm]at S;subst S;obtain⟨t,G⟩:=Vv.1 e;refine⟨h x t,fun g=>?_⟩;have C:W6 y.2.1 x=false:=by simpa using G
    unfold W6 at C;have:=of_decide_eq_false C;apply this;refine⟨fun k=>h x t ?_,g⟩;unfold XH at k;unfold Jg;omega
  ·exact⟨f,K4 (fun x=>x=.inr f) ⟨_,O,rfl⟩ (fun x e=>by subst e;rfl),h⟩
 refine KC l.length _ (fun i (s:List W3×Int)=>s=(l,(i:Int))/\ ∀x∈l.take i,¬Jg x.2.1 o.2.1) ?_ ?_ _ ⟨rfl,by simp⟩
 ·rintro i _ p ⟨rfl,h⟩;have M:∀w,w∈l.take (i+1)↔w∈l.take i\/w=l[i]:=fun w=>by rw[Vi p,Vq,Vm]
  have m:=Vg p;have A:=Vb p;simp only[ZQ p,Ze,KM p,A,Za,D,Zhl _ _ (show (JT (l[i]).2.1).length=(JT o.2.1).length from rfl),Zmz,Zum];by_cases k:XH (l[i]).2.1 o.2.1
  ·right;rw[Zj (ZfS.2 k)];simp only[Ze];by_cases Q:o.2.1.2.2.2.1<(l[i]).2.1.2.2.2.1\/(o.2.1.2.2.2.1=(l[i]).2.1.2.2.2.1/\o.2.1.2.2.2.2.1<(l[i]).2.1.2.2.2.2.1)
   ·rw[Zj Q];simp only[Ze,Za]
    have J:Hu o.2.1 (l[i]).2.1:=by unfold XH at k;refine⟨by unfold Jg;omega,fun _=>by unfold Zgd;omega⟩
    have E:o∈l.set i o:=Vna.2 ⟨i,by rw[Vca];exact p,by rw[Vla]⟩;refine⟨_,rfl,.inr ⟨l.set i o,rfl,fun x e=>List.mem_or_eq_of_mem_set e,⟨o,E,Hu.refl _⟩,fun x e=>?_,?_⟩⟩
    ·obtain⟨j,W,rfl⟩:=Vpa e;by_cases B:i=j
     ·subst B;exact⟨o,E,J⟩
     ·exact⟨l[j],Vna.2 ⟨j,by rw[Vca];exact W,by rw[List.getElem_set_ne B]⟩,Hu.refl _⟩
    ·refine Vga.2 fun a b P v I=>?_;rw[Vca]at P v;have K:=Vga.1 H a b P v I;rw[Via,Via];unfold XH at k;by_cases t:i=a
     ·subst t;rw[Zv rfl,Zg (by omega)];unfold Jg at K⊢;omega
     ·rw[Zg t];by_cases G:i=b
      ·subst G;rw[Zv rfl];unfold Jg at K⊢;omega
      ·rw[Zg G];exact K
   ·rw[Zr Q];simp only[Zd,Za];refine⟨_,rfl,.inr ⟨l,rfl,fun x e=>.inl e,⟨l[i],m,?_⟩,fun x e=>⟨x,e,Hu.refl _⟩,H⟩⟩;unfold XH at k;refine⟨by unfold Jg;omega,fun _=>by unfold Zgd;omega⟩
  ·rw[Zr (fun h=>k (ZfS.1 h))];simp only[Zd];by_cases g:Jg (l[i]).2.1 o.2.1
   ·right;rw[Zj ⟨k,g⟩];simp only[Ze];exact⟨_,rfl,.inr ⟨l,rfl,fun x e=>.inl e,⟨l[i],m,g,fun h=>absurd h k⟩,fun x e=>⟨x,e,Hu.refl _⟩,H⟩⟩
   ·left;rw[Zr (fun h=>g h.2)];simp only[Zd];refine⟨_,rfl,by rw[Kb p (by omega)],fun w N=>?_⟩;rcases (M w).1 N with N|rfl
    ·exact h w N
    ·exact g
 ·rintro _ ⟨rfl,h⟩;rw[Vza]at h;exact⟨.inl l,by simp only[XQ,Zd],.inl ⟨rfl,h⟩⟩
end Q
namespace Q
open Tr Go
variable {n:Zc}{q:Zl}
theorem Zh3:∀(l:List Int) (x y:Int),y∈YU x l->y∈l
 |[],_,_,h=>by cases h
 |z::l,x,y,h=>by
  unfold YU at h
  cases a:Ue (z=x) with
  |true=>rw[a]at h;exact Voa _ (Zh3 l x y h)
  |false=>
   rw[a]at h;simp only[Zd,Vp]at h;rcases h with rfl|h
   ·simp
   ·exact Voa _ (Zh3 l z y h)
theorem Zg2:∀(l:List Int) (x y:Int),y∈l->y=x\/y∈YU x l
 |[],_,_,h=>by cases h
 |z::l,x,y,h=>by
  unfold YU
  cases a:Ue (z=x) with
  |true=>
   have b:=Xq a;simp only[Ze];rcases Vp.1 h with rfl|h
   ·omega
   ·exact Zg2 l x y h
  |false=>
   simp only[Zd,Vp];rcases Vp.1 h with rfl|h
   ·omega
   ·exact .inr (Zg2 l z y h)
theorem ZlV{l:List Int}{y:Int} :y∈Ju l↔y∈l:=by
 cases l with
 |nil=>rfl
 |cons x l=>
  show y∈x::YU x l↔_;rw[Vp,Vp];constructor
  ·rintro (h|h)
   ·omega
   ·exact .inr (Zh3 l x y h)
  ·rintro (h|h)
   ·omega
   ·exact Zg2 l x y h
theorem Zfx{α:Type}{m c:Nat}{g:Nat->List α}{step:List α×Int->Option ((List α×Int) ⊕ List α)}(acc:List α)(l:∀i,i<m->(g i).length<=c)(b:∀i a,i<m->a.length<=acc.length+i*c->step (a,(i:Int))=Ua (.inl (a++g i,((i+1:Nat):Int))))(e:∀a,step (a,(m:Int))=Ua (.inr a)):
 run step (acc,(0:Int))=Ua (acc++(Va m).flatMap g)/\((Va m).flatMap g).length<=m*c:=by
 have h:∀i,i<=m->((Va i).flatMap g).length<=i*c:=by
  intro i
  induction i with
  |zero=>simp
  |succ i o=>
   intro f;rw[Zav,Vj,Nat.succ_mul]
   grind
 obtain⟨r,j,k⟩:=KC m (fun r=>r=acc++(Va m).flatMap g) (fun i (s:List α×Int)=>s=(acc++(Va i).flatMap g,(i:Int))) (step:=step) (by
  rintro i _ f rfl;left;have:=h i (by omega);refine⟨_,b i _ f (by rw[Vj];omega),?_⟩
  rw[Zav,List.append_assoc]) (by
  grind) (acc,(0:Int)) (by simp)
 grind
theorem ZpV(e:WR n)(q:Zl):F95 n q=Ua (KJ n q):=by
 have o:=e.paths;have h:(ZD:Nat)=549755813888:=rfl;unfold F95
 rw[(Zfx (m:=n.2.2.2.2.1.length) (c:=1) (g:=fun i=>(n.2.2.2.2.1[i]?).elim [] fun p=>if p.1=q.1/\p.2.2.1<=q.2.2.2.2.2.1 then [((p.2.1,p.2.2.1,()):Xm)] else []) [(q.1,0,())] ?hg ?hs ?he).1]
 case hg=>
  grind
 case hs=>
  intro i acc b a;rw[Vb b];have j:idx n.2.2.2.2.1 (i:Int)=Ua n.2.2.2.2.1[i]:=ZE b;generalize n.2.2.2.2.1[i]=p at*;simp only[ZQ b,Ze,j,Za,Kb b (by omega)];simp only[Vu]at a;by_cases k:p.1=q.1
  ·by_cases l:p.2.2.1<=q.2.2.2.2.2.1
   ·rw[Zj k,Zj l];have f:Zz (Ue (acc.length+Vd [((p.2.1,p.2.2.1,()):Xm)]<=ZD))=Ua ():=by rw[Zj (by grind)];rfl
    grind
   grind
  grind
 case he=>
  simp
 rw[<-ZeT];simp only[Za];unfold KJ;congr 1;rw[List.singleton_append];congr 1;generalize n.2.2.2.2.1=P
 induction P with
 |nil=>rfl
 |cons p P r=>
  grind
def Hl(n:Zc)(q:Zl)(u:Int)(i c:Nat)(w:Xm):List Int:=if (Zi n i c).1=w.1/\q.2.2.1<=(Zi n i c).2.2.1 - w.2.1/\(Zi n i c).2.2.1 - w.2.1<=u then [(Zi n i c).2.2.1 - w.2.1] else []
theorem ZwG(a:WR n)(q:Zl):(KJ n q).length<=61:=by unfold KJ;rw[Vx,Vda];have b:=Vt (fun p:Kh=>Ue (p.1=q.1) &&Ue (p.2.2.1<=q.2.2.2.2.2.1)) n.2.2.2.2.1;have:=a.paths;omega
theorem Zoj(a:WC n){w:Xm}(c:w∈KJ n q):0<=w.2.1/\w.2.1<=14400:=by
 rcases ZiU c with ⟨e,f⟩|⟨p,b,g,h,e,f⟩
 ·omega
 ·have:=a.path p b;omega
theorem ZtS(I:Whole n)(y:WR n)(q:Zl)(u:Int):∃ds:List Int,F112 n q (KJ n q) u=Ua ds/\ds.length<=2562/\(∀t∈ds,q.2.2.1<=t/\t<=u/\t<=3155932800/\ ∃i c,i<n.2.2.1.length/\c<(Zt n i).length/\ ∃w∈KJ n q,(Zi n i c).1=w.1/\(Zi n i c).2.2.1 - w.2.1=t)/\
 ∀i c,i<n.2.2.1.length->c<(Zt n i).length->∀w∈KJ n q,(Zi n i c).1=w.1->q.2.2.1<=(Zi n i c).2.2.1 - w.2.1->(Zi n i c).2.2.1 - w.2.1<=u->(Zi n i c).2.2.1 - w.2.1∈ds:=by
 have x:=I.ok;have Z:=I.u;have T:=ZwG y q;have X:=y.runs;have P:(ZD:Nat)=549755813888:=rfl
 have J:∀i c,i<n.2.2.1.length->c<(Zt n i).length->∀k,k<(KJ n q).length->(((KJ n q)[k]?).elim [] (Hl n q u i c)).length<=1:=by
  intro i c _ _ k j;rw[Vb j];show (Hl n q u i c _).length<=1;unfold Hl
  grind
 have z:∀(m b:Nat) (g:Nat->List Int),(∀i,i<m->(g i).length<=b)->((Va m).flatMap g).length<=m*b:=by
  intro m b g Y
  induction m with
  |zero=>simp
  |succ m ih=>
   rw[Zav,Vj,Nat.succ_mul]
   grind
 have E:∀i c,i<n.2.2.1.length->c<(Zt n i).length->((Va (KJ n q).length).flatMap fun k=>((KJ n q)[k]?).elim [] (Hl n q u i c)).length<=61:=by intro i c a f;have:=z _ 1 _ (J i c a f);omega
 have H:∀i,i<n.2.2.1.length->((Va (Zt n i).length).flatMap fun c=>(Va (KJ n q).length).flatMap fun k=>((KJ n q)[k]?).elim [] (Hl n q u i c)).length<=366:=by intro i a;have:=z _ 61 _ (E i · a);have:=y.calls i a;omega
 unfold F112;rw[(Zfx (m:=n.2.2.1.length) (c:=366) (g:=fun i=>(Va (Zt n i).length).flatMap fun c=>(Va (KJ n q).length).flatMap fun k=>((KJ n q)[k]?).elim [] (Hl n q u i c)) [] H ?hs ?he).1]
 case hs=>
  intro i acc a s;simp only[List.length_nil]at s
  have o:acc.length<=2562:=by omega
  simp only[ZQ a,Ze,ZaA a,Za,Kb a (by omega)];have W:=y.calls i a;rw[(Zfx (m:=(Zt n i).length) (c:=61) (g:=fun c=>(Va (KJ n q).length).flatMap fun k=>((KJ n q)[k]?).elim [] (Hl n q u i c)) acc (E i · a) ?hs2 ?he2).1]
  ·rfl
  case hs2=>
   intro c e f A
   have B:e.length<=3000:=by omega
   have v:Ue ((c:Int)<(↑(Vd (rn n (i:Int)).2.2.2.2.2.2.2.1):Int))=true:=Zj (by show (c:Int)<((Zt n i).length:Int);omega);simp only[v,Ze,Zaz f,Za,Kb f (by omega)];have C:=x.time a f;rw[(Zfx (m:=(KJ n q).length) (c:=1) (g:=fun k=>((KJ n q)[k]?).elim [] (Hl n q u i c)) e (by grind) ?hs3 ?N).1]
   ·rfl
   case hs3=>
    intro k l j o;rw[Vb j];have U:idx (KJ n q) (k:Int)=Ua (KJ n q)[k]:=ZE j;have D:=Zoj x (Vg j);generalize (KJ n q)[k]=w at*;have p:Vl .i64 ((Zi n i c).2.2.1 - w.2.1)=(Zi n i c).2.2.1 - w.2.1:=ZH (by omega) (by omega);simp only[ZQ j,Ze,U,Za,Kb j (by omega),p];have O:Zz (Ue (l.length+Vd [(Zi n i c).2.2.1 - w.2.1]<=ZD))=Ua ():=by rw[Zj (by grind)];rfl
    show _=Ua (Sum.inl (l++Hl n q u i c w,_));unfold Hl
    grind
   simp
  case he2=>
   intro e;have v:Ue (((Zt n i).length:Int)<(↑(Vd (rn n (i:Int)).2.2.2.2.2.2.2.1):Int))=false:=Zr (by show¬((Zt n i).length:Int)<((Zt n i).length:Int);omega)
   grind
 case he=>
  simp
 rw[List.nil_append];have V:=z _ 366 _ H;generalize K:((Va n.2.2.1.length).flatMap fun i=>(Va (Zt n i).length).flatMap fun c=>(Va (KJ n q).length).flatMap fun k=>((KJ n q)[k]?).elim [] (Hl n q u i c))=G at*
 have M:G.length<=2562:=by omega
 have r:∀t,t∈G↔∃i,i<n.2.2.1.length/\ ∃c,c<(Zt n i).length/\ ∃w∈KJ n q,t∈Hl n q u i c w:=by
  intro t;rw[<-K,Vc];constructor
  ·grind
  ·rintro ⟨i,a,c,f,w,p,h⟩;obtain⟨k,j,rfl⟩:=Vpa p;refine⟨i,Vn.2 a,Vc.2 ⟨c,Vn.2 f,Vc.2 ⟨k,Vn.2 j,?_⟩⟩⟩
   grind
 have Q:F184 G=Ua (Yx G):=by
  unfold F184 sortI
  grind
 have R:(Yx G).length=G.length:=(ZbP G).length_eq
 have hs2:F172 (Yx G)=Ua (Ju (Yx G)):=by
  unfold F172 compactI
  grind
 refine⟨Ju (Yx G),?_,?_,fun t C=>?_,fun i c a f w p k1 k2 k3=>?_⟩
 ·grind
 ·have:=Zkt (Yx G);omega
 ·rw[ZlV,(ZbP G).mem_iff,r]at C;obtain⟨i,a,c,f,w,p,h⟩:=C;have S:=x.time a f;have D:=Zoj x p;unfold Hl at h
  grind
 ·rw[ZlV,(ZbP G).mem_iff,r];refine⟨i,a,c,f,w,p,?_⟩;unfold Hl
  grind
end Q
namespace Q
open Tr Go
variable {n:Zc}{q:Zl}{L:List Zw}{d:Int}
theorem Zrv(q a:Zl)(hL:L≠ []):F52 n a (L,())=F52 n q (L,()):=by
 have b:0<L.length:=List.length_pos_iff.2 hL;unfold F52
 grind
theorem Zgx(h:Jy n q){t:Int}(i:0<=t)(j:t<=3155932800):Jy n (KH q t):=by refine⟨h.fit,h.few,ZcQ.2 ⟨h.whole,?_⟩,h.tin,h.max⟩;have a:=h.qb;unfold qB at a⊢;simp only[Vya,KD]at a⊢;obtain⟨b,c,_,e,f,g,_⟩:=a;refine⟨b,c,⟨i,j⟩,e,f,g,?_⟩;show (!(_&&Ud))=Uc;simp
theorem Zhx(h:Yh n):Yh (Kv n q):=by
 refine⟨h.stops,h.routes,fun x b=>?_,fun x b=>?_,?_,h.prods⟩
 ·obtain⟨r,a,rfl⟩:=Vta.1 (by assumption);exact h.runs r a
 ·obtain⟨r,a,rfl⟩:=Vta.1 (by assumption);show (r.2.2.2.2.2.2.2.1.map (Jb n q)).length<=_;rw[Vda];exact h.calls r a
 ·show (HP n q).length<=4096;unfold HP;split
  ·exact Vw (Vt _ _) h.paths
  ·exact h.paths
structure Rm (n:Zc) (q:Zl) (d:Int):Prop where
 ask:Jy n q
 nback:q.2.2.2.1=Ud
 nch:q.2.2.2.2.2.2.2.2.2.1=Ud
 mom:0<=d/\d<=3155932800
theorem Rm.cx(h:Rm n q d):Cx (Kv n q) q d (RQ h.ask.wholeM.sound.fare):=by have a:=(Zgx h.ask h.mom.1 h.mom.2).li0;have b:=h.ask.qnum;exact⟨h.ask.wholeM,h.ask.tinM,a,h.nch,h.ask.max,by omega,h.mom⟩
abbrev mA(n:Zc)(q:Zl):Zc:=Kv n q
abbrev qD(q:Zl)(d:Int):Zl:=ZU (KH q d)
def ZoA(d:Int)(l:ZA):Prop:= ∃y L,l.2.2.2.2.2.1=y::L/\y.2.2.2.2.2.2.1=d
structure PfL (n:Zc) (q:Zl) (d:Int) (l:ZA):Prop where
 rc:Rc (mA n q) (qD q d) (Wa (mA n q) (qD q d)) l
 fin:ZcX (mA n q) (qD q d) l
 rides:0<l.2.2.1
 head:ZoA d l
theorem PfL.ne{l:ZA}(h:PfL n q d l):l.2.2.2.2.2.1≠ []:=by
 obtain⟨y,L,e,_⟩:=h.head
 grind
def GN(x y:W3):Prop:=y.2.1.1<x.2.1.1\/(x.2.1.1=y.2.1.1/\(x.2.1.2.1<y.2.1.2.1\/(x.2.1.2.1=y.2.1.2.1/\x.2.1.2.2.1<y.2.1.2.2.1)))
theorem ZtL(x:W3):¬GN x x:=by unfold GN;omega
theorem ZtM{x y z:W3}(h:GN x y)(k:GN y z):GN x z:=by unfold GN at*;omega
theorem ZgZ{a b:Int}{P R:Prop}(c:P↔a<b)(e:R↔b<a):(XN a b<0↔P)/\(0<XN a b↔R):=by rw[c,e];unfold XN;omega
theorem ZwK(x y:W3):∃c:Int,F92 x y=Ua c/\(c<0↔GN x y)/\(0<c↔GN y x):=by
 unfold F92 F114 F116;have g:∀a b c:Int,([a,b,c]:List Int)[Vba (0:Int)]? =Ua a/\([a,b,c]:List Int)[Vba (1:Int)]? =Ua b/\([a,b,c]:List Int)[Vba (2:Int)]? =Ua c:=by simp
 simp only[Za,(g _ _ _).1,(g _ _ _).2.1,(g _ _ _).2.2,Zkp];unfold GN;by_cases e:x.2.1.1=y.2.1.1
 ·rw[Zj e];by_cases f:x.2.1.2.1=y.2.1.2.1
  ·rw[Zj f];refine⟨XN x.2.1.2.2.1 y.2.1.2.2.1,rfl,?_⟩;exact ZgZ (by omega) (by omega)
  ·rw[Zr f];refine⟨XN x.2.1.2.1 y.2.1.2.1,rfl,?_⟩;exact ZgZ (by omega) (by omega)
 ·rw[Zr e];refine⟨XN y.2.1.1 x.2.1.1,rfl,?_⟩;exact ZgZ (by omega) (by omega)
end Q
namespace Q
open Tr Go
variable {n:Zc}{q:Zl}{L:List Zw}{u:Int}
structure Zcp (n:Zc) (q:Zl) (u:Int):Prop where
 ask:Jy n q
 nback:q.2.2.2.1=Ud
 nch:q.2.2.2.2.2.2.2.2.2.1=Ud
 until_:q.2.2.1<=u/\u<=3155932800
theorem Zcp.at{d:Int}(h:Zcp n q u)(b:q.2.2.1<=d)(a:d<=3155932800):Rm n q d:=⟨h.ask,h.nback,h.nch,by have:=h.ask.qnum;omega,a⟩
theorem Zh4:∀(M:Nat) (l:List Nat),l.Nodup->(∀a∈l,a<M)->l.length<=M
 |0,l,_,h=>by
  cases l with
  |nil=>simp
  |cons a l=>exact absurd (h a (by simp)) (by omega)
 |M+1,l,b,h=>by
  by_cases e:M∈l
  ·have c:=Zh4 M (l.erase M) (b.erase M) (by grind)
   grind
  ·have:=Zh4 M l b (by grind);omega
end Q
namespace Q
open Tr Go
variable {n:Zc}{q:Zl}{L:List Zw}
theorem Zk3(h:YI Zh n)(g:n.2.2.2.2.1.length<=4096):Yh n:=by
 obtain⟨⟨_,c⟩,⟨_,e⟩,⟨_,b⟩,_,_,⟨⟨_,f⟩,_⟩,_⟩:=h;refine⟨fun x a=>?_,fun x a=>?_,fun x a=>?_,fun x a=>?_,g,fun x a=>?_⟩
 ·exact(c x a).1
 ·exact(e x a).1
 ·exact(b x a).2.2.2.1
 ·exact(b x a).2.2.2.2.2.2.2.1.1
 ·exact(f x a).1
open Classical in
theorem ZvQ(h:YI Zh n):∃b,F123 n=Ua b/\(b=Uc->WR n/\n.2.2.2.1.length<=30/\Whole n):=by
 unfold F123;by_cases v:5<n.1.length
 ·rw[Zj (show (5:Int)<(n.1.length:Int) by omega)];exact⟨Ud,rfl,fun e=>by cases e⟩
 rw[Zr (show¬(5:Int)<(n.1.length:Int) by omega)];by_cases w:7<n.2.2.1.length
 ·rw[Zj (show (7:Int)<(n.2.2.1.length:Int) by omega)];exact⟨Ud,rfl,fun e=>by cases e⟩
 rw[Zr (show¬(7:Int)<(n.2.2.1.length:Int) by omega)];by_cases c3:30<n.2.2.2.1.length
 ·rw[Zj (show (30:Int)<(n.2.2.2.1.length:Int) by omega)];exact⟨Ud,rfl,fun e=>by cases e⟩
 rw[Zr (show¬(30:Int)<(n.2.2.2.1.length:Int) by omega)];by_cases y:60<n.2.2.2.2.1.length
 ·rw[Zj (show (60:Int)<(n.2.2.2.2.1.length:Int) by omega)];exact⟨Ud,rfl,fun e=>by cases e⟩
 rw[Zr (show¬(60:Int)<(n.2.2.2.2.1.length:Int) by omega)];simp only[Zd,Za];have c:=Zk3 h (by omega)
 suffices p:∃r:Unit ⊕ Bool,_=Ua r/\((r=.inl ()/\ ∀i,i<n.2.2.1.length->(Zt n i).length<=6)\/r=.inr Ud) by
  obtain⟨r,k,m⟩:=p;rcases m with ⟨rfl,a⟩|rfl
  ·refine⟨Ue (Whole n),K4 (fun x=>x=Sum.inl ()) ⟨_,k,rfl⟩ (fun x g=>?_),fun t=>⟨⟨by omega,by omega,by omega,a⟩,by omega,Xq t⟩⟩;subst g;simp only[Sum.elim_inl];rw[Za4 c];rfl
  ·exact⟨Ud,K4 (fun x=>x=Sum.inr Ud) ⟨_,k,rfl⟩ (fun x g=>by subst g;rfl),fun e=>by cases e⟩
 refine KC n.2.2.1.length (fun r:Unit ⊕ Bool=>(r=.inl ()/\ ∀i,i<n.2.2.1.length->(Zt n i).length<=6)\/r=.inr Ud) (fun i (s:Int)=>s=(i:Int)/\ ∀j,j<i->(Zt n j).length<=6) ?_ ?_ _ ⟨rfl,fun j o=>by omega⟩
 ·rintro i _ f ⟨rfl,a⟩;simp only[ZQ f,Ze,ZaA f,Za];by_cases z:6<(Zt n i).length
  ·rw[Zj (show (6:Int)<((rn n (i:Int)).2.2.2.2.2.2.2.1.length:Int) by show (6:Int)<((Zt n i).length:Int);omega)];exact .inr ⟨_,rfl,.inr rfl⟩
  ·rw[Zr (show¬(6:Int)<((rn n (i:Int)).2.2.2.2.2.2.2.1.length:Int) by show¬(6:Int)<((Zt n i).length:Int);omega)];refine .inl ⟨_,rfl,Kb f (by omega),fun j o=>?_⟩;rcases Nat.lt_or_ge j i with l|l
   ·exact a j l
   ·have:j=i:=by omega
    subst this;omega
 ·rintro _ ⟨rfl,a⟩;exact⟨.inl (),by simp only[XQ,Zd],.inl ⟨rfl,a⟩⟩
theorem ZvG(h:YI Zh n)(q:Zl):∃b,F63 n q=Ua b/\(b=Uc->Jy n q/\q.2.2.2.1=Ud/\q.2.2.2.2.2.2.2.2.2.1=Ud):=by
 unfold F63;obtain⟨b,g,i⟩:=ZvQ h;rw[g]
 cases b with
 |false=>simp
 |true=>
  obtain⟨a,o,f⟩:=i rfl;have c:=Zk3 h (by have:=a.paths;omega);simp only[Za,Ze];rw[Zn9 n.1.length (by have:=a.stops;omega) q];simp only[Za]
  cases j:qB n.1.length q with
  |false=>simp
  |true=>
   cases m:q.2.2.2.1 with
   |true=>simp
   |false=>
    cases l:q.2.2.2.2.2.2.2.2.2.1 with
    |true=>simp
    |false=>
     simp only[Ze,Vea,Za];refine⟨_,rfl,fun e=>⟨⟨c,⟨by have:=a.stops;omega,?_,by have:=a.runs;omega,by omega,by have:=a.paths;omega,by have:=(RQ f.sound.fare).many;omega,fun r k=>?_⟩,ZcQ.2 ⟨f,j⟩,a,Xq e⟩,trivial,trivial⟩⟩
     ·have t:=f.t;unfold GV at t
      grind
     ·have:=(f.sound.many r k).2;omega
theorem ZuY(h:Jy n q)(a:q.2.2.2.1=Ud)(b:q.2.2.2.2.2.2.2.2.2.1=Ud)(u:Int):∃e,F62 n q u=Ua e/\(e=0->Zcp n q u):=by
 unfold F62;rw[Zj8 h.fit,h.chk];simp only[Za,decide_true,Vh,Zd,a,b];by_cases c:u<q.2.2.1
 ·simp_all
 rw[Zr c];by_cases f:(3155932800:Int)<u
 ·simp_all
 rw[Zr f];exact⟨0,rfl,fun _=>⟨h,a,b,by omega⟩⟩
end Q
namespace Q
open Tr Go
variable {n:Zc}{q:Zl}{L:List Zw}{u:Int}
end Q
namespace Q
open Tr Go
variable {n:Zc}{q:Zl}{d:Int}{hF:FO n.2.2.2.2.2.1}
theorem Ztd{s0 l:ZA}(h:Rc n q s0 l)(a:l.1.1=0):l=s0:=by
 cases h with
 |start=>rfl
 |step _ f=>
  exfalso;rcases HO.1 f with ⟨_,c⟩|⟨_,b⟩|⟨_,_,e⟩
  ·obtain⟨_,_,_,_,_,_,_,rfl⟩:=D0.1 c;exact absurd a (by show¬(1:Int)=0;decide)
  ·obtain⟨_,_,_,_,_,_,_,_,_,rfl⟩:=GO.1 b;exact absurd a (by show¬(1:Int)=0;decide)
  ·obtain⟨_,_,_,rfl⟩:=Dj.1 e;exact absurd a (by show¬(2:Int)=0;decide)
theorem ZuV(h:Cx n q d hF){l:ZA}(g:Rc n (ZU (KH q d)) (Wa n (ZU (KH q d))) l)(c:l.2.2.1=0):l=Wa n (ZU (KH q d))\/ ∃p∈n.2.2.2.2.1,Zbs (ZU (KH q d)) (Wa n (ZU (KH q d))) p/\l=JD (Wa n (ZU (KH q d))) p:=by
 have key:∀{l:ZA},Rc n (ZU (KH q d)) (Wa n (ZU (KH q d))) l->l.2.2.1=0->l.1.1≠1:=by intro l g c w;have o:=(h.li g).cnt;rw[Zv w]at o;omega
 cases g with
 |start=>exact .inl rfl
 |step b i=>
  rename_i f;rcases HO.1 i with ⟨_,s⟩|⟨_,m⟩|⟨_,x,t⟩
  ·obtain⟨_,_,_,_,_,_,_,rfl⟩:=D0.1 s;exact absurd rfl (key (.step b i) c)
  ·obtain⟨_,_,_,_,_,_,_,_,_,rfl⟩:=GO.1 m;exact absurd rfl (key (.step b i) c)
  ·obtain⟨p,r,a,rfl⟩:=Dj.1 t;obtain⟨z,A,y,B,C⟩:=Db f
   have j:f.2.2.1=0:=by have:(ZK f).2.2.1=0:=c;rw[y]at this;exact this
   have v:f.1.1=0:=by
    rcases (h.li b).kinds with k|k|k
    ·exact k
    ·exact absurd k (key b j)
    ·exact absurd k x
   have e:=Ztd b v;subst e;rw[Zke (by show¬(0:Int)=1;decide)]at a⊢;exact .inr ⟨p,r,a,rfl⟩
theorem ZuS(h:Cx n q d hF){l:ZA}(a:Rc n (ZU (KH q d)) (Wa n (ZU (KH q d))) l):0<=l.2.2.1/\l.2.2.1<=q.2.2.2.2.1:=(h.li a).val.rides
end Q
namespace Q
open Tr Go
variable {n:Zc}{q:Zl}{L:List Zw}
theorem Zoo(n:Zc)(q:Zl)(l:List Wu)(a:Nat):∀k,zN (Kv n q) (l.map (Jb n q)) a k=zN n l a k
 |0=>rfl
 |k+1=>by
  have h:zn (Kv n q) (l.map (Jb n q)) (a+k)=zn n l (a+k):=by unfold zn;rw[(Zeq n q l (a+k)).1];rfl
  unfold zN;rw[Zoo n q l a k,h]
theorem ZtX{n:Zc}{q:Zl}{x:Zw}(a:KF n x=Uc):HW (Kv n q) x=HW n x/\HS (Kv n q) x=HS n x:=by
 constructor
 ·unfold HW;rw[Zek,Zoo]
 ·unfold HS;rw[Zm5 a];rfl
theorem Zil(n:Zc)(q:Zl):∀(L:List Zw) (w:Bool) (out:List ZM),K6 (Kv n q) L w out=K6 n L w out
 |[],_,_=>rfl
 |x::L,w,out=>by
  rw[Gs,Gs,ZkN];by_cases b:x.1=Uc/\KF n x=Ud
  ·grind
  rw[Zg b,Zg b];by_cases c:K0 x=Uc/\(x.1=Ud\/w=Ud)
  ·grind
  rw[Zg c,Zg c];by_cases a:x.1=Uc
  ·rw[Zv a,Zv a]
   have g:KF n x=true:=by
    grind
   obtain⟨h,i⟩:=ZtX (q:=q) g;have e:Xv (Kv n q) x=Xv n x:=by unfold Xv;grind
   have f:X5 (Kv n q) x out=X5 n x out:=by unfold X5 Yo;grind
   rw[e,f];exact Zil n q L _ _
  ·rw[Zg a,Zg a];exact Zil n q L _ _
open Classical in
theorem Zru(a:Yh n)(c:Whole n)(q f:Zl)(g:f.2.2.1=q.2.2.1)(e:L.length<=90):F52 (Kv n q) f (L,())=F52 n q (L,()):=by
 have b:Whole (Kv n q):=Zjv q a.paths c
 have i:F53 n (L,())=Ua (K6 n L Ud []):=by
  rcases Zfq n (L,()) a e with ⟨_,h⟩|⟨_,_,h⟩
  ·rw[Za4 a]at h;have:=Ky h;rw[Zj c]at this;cases this
  ·exact h
 have j:F53 (Kv n q) (L,())=Ua (K6 n L Ud []):=by
  rcases Zfq (Kv n q) (L,()) (Zhx a) e with ⟨_,h⟩|⟨_,_,h⟩
  ·rw[Za4 (Zhx a)]at h;have:=Ky h;rw[Zj b]at this;cases this
  ·rw[Zil]at h;exact h
 unfold F52;rw[i,j,g];rfl
variable {d u:Int}
theorem ZuT(h:Rm n q d){l:ZA}(r:Rc (mA n q) (qD q d) (Wa (mA n q) (qD q d)) l):(JF l.2.2.2.2.2.1:Int)=l.2.2.1:=by
 have o:=h.cx
 induction r with
 |start=>rfl
 |step z v A=>
  rename_i l x;obtain⟨D,E,g,G,j⟩:=Db l;rcases HO.1 v with ⟨B,s⟩|⟨b,m⟩|⟨b,C,t⟩
  ·obtain⟨k,w,_,e,_,_,_,rfl⟩:=D0.1 s;show (JF (l.2.2.2.2.2.1++[_]):Int)=l.2.2.1;rw[Zim,Zm3,Zv rfl];omega
  ·obtain⟨i,c,e,_,_,_,_,_,_,rfl⟩:=GO.1 m
   have a:∀(K:List Zw) (d:Int),JF (W5 K d)=JF K:=by
    intro K d
    match K with
    |[]=>rfl
    |[y]=>
     cases f:y.1 with
     |true=>rw[Zbg f]
     |false=>rw[Zae f];unfold JF;simp [Zdv,f]
    |_::_::_=>rfl
   show (JF (W5 (ZK l).2.2.2.2.2.1 _++[_]):Int)=(ZK l).2.2.1+1;rw[Zim,Zm3,Zg (by simp),a,j,g];omega
  ·obtain⟨p,_,_,rfl⟩:=Dj.1 t;show (JF ((ZK l).2.2.2.2.2.1++[_]):Int)=(ZK l).2.2.1;rw[Zim,Zu8,j,g];omega
theorem ZuR(h:Rm n q d){l:ZA}(H:Rc (mA n q) (qD q d) (Wa (mA n q) (qD q d)) l)(v:0<l.2.2.1):∃y K,l.2.2.2.2.2.1=y::K/\(K=[]->y.1=Uc)/\ ∃i c,i<(mA n q).2.2.1.length/\c<(Zt (mA n q) i).length/\ ∃w∈KJ (mA n q) q,(Zi (mA n q) i c).1=w.1/\(Zi (mA n q) i c).2.2.1 - w.2.1=y.2.2.2.2.2.2.1:=by
 have b:=h.cx
 induction H with
 |start=>exact absurd v (by show¬(0:Int)<0;decide)
 |step g O z=>
  rename_i l x;obtain⟨Q,Z,s3,s4,A⟩:=Db l;have t:=b.li g;have J:=ZuS b g;rcases HO.1 O with ⟨X,M⟩|⟨r,E⟩|⟨r,Y,N⟩
  ·obtain⟨k,W,_,e,_,_,_,rfl⟩:=D0.1 M;obtain⟨y,K,m,B,j⟩:=z v;refine⟨y,K++[ZR (mA n q) k.2.2.1.toNat 0 e Uc],?_,by simp,j⟩;show l.2.2.2.2.2.1++[_]=_
   grind
  ·obtain⟨i,c,e,D,G,V,⟨R,S,o,T,U⟩,_,_,rfl⟩:=GO.1 E;by_cases P:l.2.2.1=0
   ·rw[Q]at o;rcases ZuV b g P with e0|⟨p,I,s,e0⟩
    ·have f:l.2.2.2.2.2.1=[]:=by rw[e0];rfl
     refine⟨ZR (mA n q) i c e Ud,[],?_,fun _=>rfl,i,c,D,by omega,(q.1,0,()),by unfold KJ;simp,by rw[o,e0];rfl,?_⟩
     ·show W5 (ZK l).2.2.2.2.2.1 _++[_]=_;rw[A,f];rfl
     ·show (Zi (mA n q) i c).2.2.1 - 0=(Zi (mA n q) i c).2.2.1;omega
    ·have f:l.2.2.2.2.2.1=[KG q.1 p.2.1 d (d+p.2.2.1)]:=by rw[e0];rfl
     have C:p.1=q.1/\0+p.2.2.1<=q.2.2.2.2.2.1/\_:=s;refine⟨KG q.1 p.2.1 ((Zi (mA n q) i c).2.2.1 - p.2.2.1) (Zi (mA n q) i c).2.2.1,[ZR (mA n q) i c e Ud],?_,by simp,i,c,D,by omega,(p.2.1,p.2.2.1,()),?_,by rw[o,e0];rfl,rfl⟩
     ·show W5 (ZK l).2.2.2.2.2.1 _++[_]=_;rw[A,f,(Zjs q.1 p.2.1 d d p.2.2.1 (Zi (mA n q) i c).2.2.1).1];rfl
     ·unfold KJ
      grind
   ·have a:0<l.2.2.1:=by omega
    obtain⟨y,K,m,B,j⟩:=z a;refine⟨y,K++[ZR (mA n q) i c e Ud],?_,by simp,j⟩;show W5 (ZK l).2.2.2.2.2.1 _++[_]=_;rw[A,Zjq t a,m];rfl
  ·obtain⟨p,_,_,rfl⟩:=Dj.1 N
   have a:0<l.2.2.1:=by have:0<(ZK l).2.2.1:=v;omega
   obtain⟨y,K,m,B,j⟩:=z a;refine⟨y,K++[KG (ZK l).1.2.1 p.2.1 (ZK l).2.1 ((ZK l).2.1+p.2.2.1)],?_,by simp,j⟩;show (ZK l).2.2.2.2.2.1++[_]=_
   grind
open Classical in
theorem Zun(h:Rm n q d)(h0:q.2.2.1<=d){l:ZA}(hl:PfL n q d l){c:JH}{t:List (Int×Int×Int×Int×Unit)}(hc:F52 (mA n q) q (l.2.2.2.2.2.1,())=Ua (c,t,0)):l.2.2.2.2.2.1.length<=40/\(∀x∈l.2.2.2.2.2.1,R7 x)/\(Zak n q l.2.2.2.2.2.1).2=0/\F52 n q (l.2.2.2.2.2.1,())=Ua (c,t,0):=by
 have hcx:=h.cx;have hli:=hcx.li hl.rc;have GI:=ZuQ hcx hl.rc;have hlen:l.2.2.2.2.2.1.length<=40:=by omega
 have ha:=Zgx h.ask h.mom.1 h.mom.2
 have hkind:l.1.1=1\/l.1.1=2:=by
  rcases hli.kinds with hk|hk|hk
  ·have:=(hli.zero hk).2.1;have:=hl.rides;omega
  ·exact .inl hk
  ·exact .inr hk
 have hsnd:=ZuU hcx.whole hcx.tin hcx.qi (q:=KH q d) rfl hcx.li0 hl.rc;have hat:=ZvR hsnd hli.kinds hl.fin.1;have hne:l.2.2.2.2.2.1.length≠0:=fun hq=>hl.ne (List.eq_nil_of_length_eq_zero hq)
 have hn:F52 n q (l.2.2.2.2.2.1,())=Ua (c,t,0):=by rw[<-Zru (L:=l.2.2.2.2.2.1) h.ask.fit h.ask.whole q q rfl (by omega)];exact hc
 refine⟨hlen,hli.lok,(ZqC n q _).2 ⟨h.ask.chk,.inr ⟨hne,fun i hi=>?_,?_⟩⟩,hn⟩
 ·have e:X8 n (KH q d) l.2.2.2.2.2.1 i=0:=Zp6.1 (hat i hi);obtain⟨a1,a2,a3⟩:=ZgA.1 e;refine ZgA.2 ⟨a1,?_,a3⟩;unfold Di at a2⊢;by_cases hi0:i=0
  ·rw[Zj hi0]at a2⊢;have a2' :Gb n (KH q d) l.2.2.2.2.2.1=0:=a2;obtain⟨f1,f2,f3,f4,f5,f6⟩:=Zau.1 a2';show Gb n q l.2.2.2.2.2.1=0;obtain⟨y,K,e1,e2,_⟩:=ZuR h hl.rc hl.rides;obtain⟨y',K',e3,e4⟩:=hl.head;have hlg:lg l.2.2.2.2.2.1 0=y' :=by rw[e3];rfl
   refine Zau.2 ⟨f1,f2,f3,?_,?_,by rw[h.nch];rfl⟩
   ·by_cases h1:l.2.2.2.2.2.1.length=1
    ·have hK:K=[]:=by rw[e1]at h1;simpa using h1
     have hy:(lg l.2.2.2.2.2.1 0).1=true:=by rw[e1];exact e2 hK
     rw[hy];rfl
    ·rw[Zr h1];simp
   ·rw[h.nback,hlg];simp only[Vea,Bool.true_and,decide_eq_false_iff_not];omega
  ·rw[Zr hi0]at a2⊢;exact a2
 ·unfold RK;rw[WI (by omega),WI (by omega),WI (by omega),WI (by omega)];refine⟨?_,by rw[h.nback];rfl,?_,?_,?_⟩
  ·simp only[Bool.not_eq_false',KD];have hto:l.1.2.1=q.2.1:=hl.fin.2;rw[<-hto];rcases hkind with hk|hk
   ·obtain⟨K,r,b,c2,st,e1,_,e3,e4⟩:=hsnd.ride hk;obtain⟨i,c',e5,e6,_,_,e7,_⟩:=hli.val.kind hk;rw[e1,Vj,Vu,Vsa,ZaJ,e7];show (Zi (mA n q) r c2).1=_;have g1:r=i:=by rw[e3]at e5;omega
    have g2:c2=c' :=by rw[e4]at e6;omega
    rw[g1,g2]
   ·obtain⟨K,p,_,a,e1,e2,_⟩:=hsnd.walk hk;rw[e1,Vj,Vu,Vsa,ZaJ,e2];rfl
  ·rw[decide_eq_false_iff_not,ZuT h hl.rc];have h3:l.2.2.1<=q.2.2.2.2.1:=hli.val.rides.2;omega
  ·rw[decide_eq_false_iff_not]
   have hww:ZdK l.2.2.2.2.2.1=Jr l.2.2.2.2.2.1:=by have h1:=ZiS (l.2.2.2.2.2.1,()) (show l.2.2.2.2.2.1.length<=1000 by omega) hli.lok;rw[Zoh]at h1;have h2:F141 (l.2.2.2.2.2.1,())=Ua (ZdK l.2.2.2.2.2.1):=ZiQ l.2.2.2.2.2.1 (by omega);rw[h2]at h1;exact Ky h1
   rw[hww,hli.wlk];have h3:l.2.2.2.1<=q.2.2.2.2.2.1:=hli.val.walk.2;omega
  ·have hv:F124 n=Ua true:=by rw[Za4 h.ask.fit];exact congrArg Ua (Zj h.ask.whole)
   have hprod:n.2.2.2.2.2.1.1.length<=4096:=by have:=(RQ h.ask.whole.sound.fare).many;omega
   obtain⟨c1,hc1,hc2⟩:=Zkv h.ask.whole.sound hv hprod q l.2.2.2.2.2.1 (by omega);obtain⟨c',hd1,hd2,_⟩:=Zkw n q (l.2.2.2.2.2.1,()) h.ask.fit hlen hli.lok;rw[hn]at hd1;rw[hd2]at hc1;have e1:=Ky hc1;have e2:=Ky hd1;rw[<-hc2, <-e1, <-e2]
end Q
namespace Q
open Tr Go
variable {n:Zc}{q:Zl}{L:List Zw}{u d:Int}
theorem Ztf(h:Rm n q d){l:ZA}(f:PfL n q d l):∃r:JH×List (Int×Int×Int×Int×Unit) ×Int,F52 (mA n q) q (l.2.2.2.2.2.1,())=Ua r/\(r.2.2=0->r.1.1=d/\0<r.1.2.2.1/\r.1.2.2.1<=3):=by
 have m:=Zgx h.ask h.mom.1 h.mom.2;have e:=Zrv (n:=mA n q) q (qD q d) f.ne
 have a:((l.2.2.2.2.2.1[0]?).map fun x=>x.2.2.2.2.2.2.1).getD (qD q d).2.2.1=d:=by
  obtain⟨y,L,i,j⟩:=f.head
  grind
 have b:=h.cx.li f.rc;have k:l.2.2.1<=q.2.2.2.2.1:=b.val.rides.2;have o:=h.ask.max;rcases ZtA (Zhx h.ask.fit) h.ask.wholeM h.cx.qi b with ⟨s,z,t,g⟩|⟨c,g⟩
 ·exact⟨_,by rw[<-e,g],fun _=>⟨a,f.rides,by grind⟩⟩
 grind
theorem ZtR(h:Rm n q d):∃f:List Z5,Zap (mA n q) q (KJ (mA n q) q) d=Ua (f.map Ua)/\f.length<=549755813888/\ ∀y∈f,∃l,PfL n q d l/\y=KI (mA n q) l:=by
 have i:=h.ask.qnum
 obtain⟨x,N,j,k,g,m,o⟩:=ZrF h.cx (fun y a=>h.ask.fit.prods y a) i.2.2.2.1 (by
  have e:(mA n q).1.length=n.1.length:=rfl
  grind)
 refine⟨Xt x,j,k,fun y a=>?_⟩;obtain⟨l,c,b,rfl⟩:=g.snd.2.2 y a;exact⟨l,⟨c.rc,⟨b,g.fin.to _ a⟩,c.nz,c.head⟩,rfl⟩
def Rp(n:Zc)(q:Zl)(u:Int)(ds:List Int)(x:W3):Prop:= ∃d l,PfL n q d l/\d∈ds/\(q.2.2.1<=d/\d<=u)/\x.1=(l.2.2.2.2.2.1,())/\F52 (mA n q) q (l.2.2.2.2.2.1,())=Ua (x.2.1,x.2.2.1,0)/\x.2.1.1=d/\0<x.2.1.2.2.1/\x.2.1.2.2.1<=3
theorem Zub{ds:List Int}{l:List W3}(h:DC l)(i:∀x∈l,Rp n q u ds x):l.length<=ds.length*4:=by
 have a:∀x∈l,x.2.1.1∈ds/\0<x.2.1.2.2.1/\x.2.1.2.2.1<=3:=fun x c=>by
  obtain⟨d,_,_,s,_,_,_,t,v⟩:=i x c
  grind
 have b:(l.map fun x:W3=>ds.idxOf x.2.1.1*4+x.2.1.2.2.1.toNat).Nodup:=by
  rw[List.Nodup,Vua];refine List.Pairwise.imp_of_mem ?_ h;intro x y c j f e;obtain⟨g,w⟩:=a x c;obtain⟨k,z⟩:=a y j;have m:ds.idxOf x.2.1.1=ds.idxOf y.2.1.1:=by omega
  have o:x.2.1.2.2.1=y.2.1.2.2.1:=by omega
  have p:x.2.1.1=y.2.1.1:=by
   have r:=List.getElem_idxOf (List.idxOf_lt_length_iff.2 g)
   grind
  unfold Jg at f;omega
 have:=Zh4 (ds.length*4) _ b (by grind)
 grind
theorem ZwL(h:Zcp n q u):∃(R:List W3) (ds:List Int),F91 n q u=Ua (R,0)/\R.length<=10248/\ ∀x∈R,Rp n q u ds x:=by
 have a:=h.ask;obtain⟨ds,S,d2,T,_⟩:=ZtS a.wholeM a.tinM q u;unfold F91;rw[Zj7 a.fit,a.chk];simp only[Za,decide_true,Vh,Zd,h.nback,h.nch];rw[Zr (show¬u<q.2.2.1 by have:=h.until_;omega),Zr (show¬(3155932800:Int)<u by have:=h.until_;omega)];simp only[Zd,Za];rw[Zpc a.whole.sound a.few q (by rw[Zj7 a.fit,a.chk])];simp only[Za,decide_true,Vh,Zd];have v:F95 (Kv n q) q=Ua (KJ (Kv n q) q):=ZpV a.tinM q;rw[v];simp only[Za];have w:F112 (Kv n q) q (KJ (Kv n q) q) u=Ua ds:=S;rw[w];simp only[Za]
 have bound:∀out:List W3,DC out->(∀x∈out,Rp n q u ds x)->out.length<=10248:=fun out V W=>by have:=Zub V W;omega
 suffices X:∃out:List W3,_=Ua out/\DC out/\ ∀x∈out,Rp n q u ds x by
  obtain⟨out,U,K,Z⟩:=X;have I:=bound out K Z
  obtain⟨R,r1,r2,_⟩:=Zny (cmp:=F92) GN out (by omega) (fun x _ y _=>ZwK x y) (fun x _=>ZtL x) (fun _ _ _ _ _ _=>ZtM) (K.imp fun {x y} A=>by unfold Jg at A;unfold GN;omega)
  have B:F183 out ()=Ua R:=r1;exact⟨R,ds,K4 (fun x=>x=out) ⟨_,U,rfl⟩ (fun x i=>by rw[i,B];rfl),by rw[r2.length_eq];omega,by grind⟩
 refine KC ds.length _ (fun k (s:List W3×Int)=>s.2=(k:Int)/\DC s.1/\ ∀x∈s.1,Rp n q u ds x) ?_ ?_ _ ⟨rfl,List.Pairwise.nil,by simp⟩
 ·rintro k ⟨out,_⟩ o ⟨rfl,M,N⟩;left;simp only at M N;have i:idx ds (k:Int)=Ua ds[k]:=ZE o;have j:=Vg o;have b:=T _ j;generalize ds[k]=d at*;have J:=h.at b.1 b.2.2.1;obtain⟨m,y1,y2,y3⟩:=ZtR J;have D:F97 (Kv n q) q (KJ (Kv n q) q) d=Ua (m.map Ua):=y1;simp only[ZQ o,Ze,i,Za,D,Kb o (by omega),Vda];refine RB (fun f:List W3=>DC f/\ ∀x∈f,Rp n q u ds x) ?_ (by simp);refine KC m.length _ (fun r (s:List W3×Int)=>s.2=(r:Int)/\DC s.1/\ ∀x∈s.1,Rp n q u ds x) ?_ ?_ _ ⟨rfl,M,N⟩
  ·rintro r ⟨cur,_⟩ z ⟨rfl,p,E⟩;left;simp only at p E;have Y:idx (m.map Ua) (r:Int)=Ua (Ua m[r]):=by rw[ZE (by grind),List.getElem_map]
   have g:=Vg z;generalize m[r]=y at*;obtain⟨l,H,rfl⟩:=y3 y g;obtain⟨⟨c,t,e⟩,O,s3⟩:=Ztf J H;have C:F52 (Kv n q) q (KI (mA n q) l).2.2.2.2.2.2.2=Ua (c,t,e):=O;simp only[ZQ z,Ze,Y,Za,Kb z (by omega),C];by_cases G:e=0
   ·subst G;rw[Zj rfl];have hb:=bound cur p E;obtain⟨l',a1,P,_,_,Q⟩:=Zuj (l:=cur) ((KI (mA n q) l).2.2.2.2.2.2.2,c,t,()) (by omega) p;refine⟨(l',((r+1:Nat):Int)),by grind,rfl,Q,fun x i=>?_⟩;rcases P x i with i|rfl
    ·grind
    ·exact⟨d,l,H,j,⟨b.1,b.2.1⟩,rfl,O,s3 rfl⟩
   ·rw[Zr G]
    grind
  grind
 grind
theorem Zsc(h:Jy n q)(a:L.length<=1000):F147 n q (L,())=Ua (Ue ((Zak n q L).2=0)):=by unfold F147;rw[ZqB h.fit (by have:=(RQ h.whole.sound.fare).many;omega) q L a];rfl
theorem Zwk:∀(t:List (Int×Int×Int×Int×Unit)),t.length<=100000->F139 t t=Ua true:=by
 intro t b;unfold F139;rw[Zj rfl];simp only[Vh,Zd];refine K4 (fun r:Unit ⊕ Bool=>r=.inl ()) ?_ (by simp);refine KC t.length _ (fun k (s:Int)=>s=(k:Int)) ?_ ?_ _ rfl
 ·rintro k _ a rfl;left;refine⟨_,?_,rfl⟩;simp only[ZQ a,Ze,ZE a,Za,decide_true,Veb,Vh,Zd,Kb a (by omega)]
 simp
theorem Zua(h:Zcp n q u){ds:List Int}{x:W3}(o:Rp n q u ds x):x.1.1.length<=40/\(Zak n q x.1.1).2=0/\F134 n q x.1=Ua (x.2.1,x.2.2.1,0)/\x.2.2.1.length<=100000:=by
 obtain⟨d,l,k,_,⟨a,t⟩,e,f,_⟩:=o;have m:=h.at a (by have:=h.until_;omega);obtain⟨b,c,r,s⟩:=Zun m a k f;obtain⟨p,g,i,j⟩:=Zkw n q (l.2.2.2.2.2.1,()) h.ask.fit b c
 grind
theorem Zs6(n:Zc)(D:YI Zh n)(q:Zl)(u:Int):F58 n q u=Ua true:=by
 unfold F58;obtain⟨b,f,g⟩:=ZvG D q;rw[f]
 cases b with
 |false=>rfl
 |true=>
  obtain⟨y,i,j⟩:=g rfl;simp only[Za,Vh,Zd];obtain⟨e,o,p⟩:=ZuY y i j u;rw[o];simp only[Za];by_cases m:e=0
  case neg=>
   rw[Zr m];rfl
  have z:=p m;rw[Zj m];simp only[Vh,Zd];obtain⟨R,ds,G,N,H⟩:=ZwL z;rw[G];simp only[Za,decide_true,Vh,Zd];refine K4 (fun r:Unit ⊕ Bool=>r=.inl ()) ?_ (fun r h=>by rw[h];rfl);refine KC R.length _ (fun k (s:Int)=>s=(k:Int)) ?_ ?_ _ rfl
  ·rintro k _ c rfl;left;refine⟨_,?_,rfl⟩;have E:idx R (k:Int)=Ua R[k]:=ZE c;have a:=H _ (Vg c);obtain⟨A,t,v,w⟩:=Zua z a;obtain⟨d,l,_,_,⟨K,M⟩,_,_,B,C,_⟩:=a;generalize R[k]=x at*;obtain⟨⟨I,⟨⟩⟩,O,J,⟨⟩⟩:=x;simp only at A t v w B C;simp only[ZQ c,Ze,E,Za,Kb c (by omega)];rw[Zr (by omega)];simp only[Zd];rw[Zsc y (L:=I) (by omega),Zj t];simp only[Za,Vh,Zd,v,decide_true,Veb,Zwk J w]
   grind
  simp
theorem journeysP(x:Ks F58A)(h:Zct F58A x):F58 x.1 x.2.1 x.2.2.1=Ua true:=Zs6 _ h.1 _ _
end Q
