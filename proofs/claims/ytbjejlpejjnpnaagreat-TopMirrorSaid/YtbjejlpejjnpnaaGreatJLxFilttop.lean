/- filter: usable runs, open stops, the allowed network; queries. Conditions: the network is valid, its lists are short. -/
import Derived.Test.YtbjejlpejjnpnaaGreatJLwJa28top
import Derived.Test.YtbjejlpejjnpnaaGreatETsF
open Bool renaming and_eq_true ->Vf,not_true ->Vg,not_eq_false' ->Vk,not_false ->Vq,or_eq_false_iff ->Vba,false_and ->Vwb,true_and ->Vec,or_eq_true ->Vpc,and_false ->Vsc,and_true ->Vvc,false_or ->Vwc,or_true ->Vyc
open Int renaming toNat_natCast ->Vd,le_refl ->Vz,le_trans ->Vcb,toNat_of_nonneg ->Vdc
open Go.IntKind renaming wrap ->Vb
open List renaming getElem?_eq_getElem ->Va,getElem_mem ->Vc,take_succ_eq_append_getElem ->Ve,mem_singleton ->Vh,length_append ->Vi,mem_append ->Vj,length_map ->Vl,map_append ->Vn,range ->Vp,getElem_of_mem ->Vs,append_nil ->Vt,length_take ->Vu,map_cons ->Vv,take ->Vw,length_nil ->Vx,sum_append ->Vy,replicate ->Vaa,length ->Vda,mem_filter ->Vfa,drop_eq_getElem_cons ->Vga,sum_cons ->Vha,mem_append_left ->Via,take_length ->Vja,mem_flatMap ->Vka,drop ->Vma,mem_map ->Vna,append_eq_singleton_iff ->Voa,length_filter_le ->Vpa,getElem?_map ->Vqa,take_append_drop ->Vra,any_eq_true ->Vsa,flatMap_append ->Vta,pairwise_iff_getElem ->Vua,map_nil ->Vva,append_assoc ->Vwa,length_eq_one_iff ->Vxa,set_append_right ->Vya,perm_append_comm ->Vza,mem_append_right ->Vab,mem_of_mem_drop ->Vbb,sum_nil ->Vdb,length_pos_iff ->Veb,getElem?_take ->Vgb,pairwise_cons ->Vhb,singleton_inj ->Vib,getElem?_eq_some_iff ->Vkb,length_cons ->Vnb,length_drop ->Vob,filter_cons_of_pos ->Vqb,filter_cons_of_neg ->Vrb,drop_eq_nil_of_le ->Vsb,append_inj_right' ->Vtb,mem_range ->Vxb,mem_of_getElem? ->Vzb,mem_of_mem_take ->Vac,pairwise_append ->Vbc,any_cons ->Vcc,filter_append ->Vfc,ext_getElem ->Vhc,filter_cons ->Vjc,set ->Vkc,range_succ ->Vnc,nil_append ->Voc,head?_drop ->Vqc,length_set ->Vrc,drop_drop ->Vtc,take_take ->Vuc,mem_cons ->Vxc,isEmpty ->Vzc
open Nat renaming le_refl ->Vm,le_trans ->Vr,zero_le ->Vea,mul_le_mul_left ->Vla,add_le_add ->Vfb,or_lt_two_pow ->Vlb,lt_trichotomy ->Vmb,zero_add ->Vpb,zero_or ->Vvb,pow_le_pow_right ->Vyb,le_of_lt ->Vgc,min_eq_left ->Vmc
open Option renaming bind ->Vo,isNone_iff_eq_none ->Vjb,getD ->Vub,elim_some ->Vic,map_some ->Vlc
open Prod renaming fst ->Vca
namespace Q
open Tr Go
theorem Ztm{α β τ:Type}{step:List β×Int->Option ((List β×Int) ⊕ τ)}(l:List α)(f:α->List β)(R:List β->τ)
 (a:∀i (b:i<l.length),step ((l.take i).flatMap f,(i:Int))=some (.inl ((l.take i).flatMap f++f l[i],((i+1:Nat):Int))))
 (c:step (l.flatMap f,(l.length:Int))=some (.inr (R (l.flatMap f)))):run step ([],(0:Int))=some (R (l.flatMap f)):=by
 refine Exists.elim (Kq (step:=step) l.length (fun r=>r=R (l.flatMap f)) (fun i st=>st=((l.take i).flatMap f,(i:Int))) ?_ ?_ ([],(0:Int)) (by simp)) ?_
 ·rintro i _ b rfl;left;refine⟨_,a i b,?_⟩;rw[Ve b,Vta];simp
 all_goals grind
theorem ZqN{α β:Type}(f:α->β)(l:List α):l.flatMap (fun x=>[f x])=l.map f:=by
 induction l with
 |nil=>rfl
 |cons x l a=>grind
theorem ZqL{α β:Type}{f:α->List β}(a:∀x,(f x).length<=1)(l:List α):(l.flatMap f).length<=l.length:=by
 induction l with
 |nil=>simp
 |cons x l b=>grind
abbrev Zt:=Int×Int×Int×Bool×Int×Int×Bool×Bool×Int×Bool×Unit
def HS(n:Zh)(r:Xi):Hm:=(n.2.1[r.2.2.2.2.1.toNat]?).getD r0
def HW(n:Zh)(q:Zt)(r:Xi):Bool:=Tr.useB q r (HS n r)
def Wv(n:Zh)(s:Int):GY:=(n.1[s.toNat]?).getD s0
def Xa(n:Zh)(q:Zt)(s:Int):Bool:=(Wv n s).2.2.1|| !q.2.2.2.2.2.2.1
def WJ(n:Zh)(q:Zt)(c:KK):KK:=if Xa n q c.1 then c else(c.1,c.2.1,c.2.2.1,false,false,())
theorem Ztb{n:Zh}(a:Js n){r:Xi}(c:r∈n.2.2.1):idx n.2.1 r.2.2.2.2.1=some (HS n r)/\HS n r∈n.2.1:=by
 have h:=a.route _ c;have b:Kh r.2.2.2.2.1 n.2.1.length=true:=by simp [Kh];omega
 refine⟨J9 b r0,?_⟩;unfold HS
 grind
theorem ZuC{n:Zh}(a:Js n)(q:Zt){r:Xi}(e:r∈n.2.2.1):F54 n q r=some (HW n q r):=by obtain⟨b,c⟩:=Ztb a e;have d:=(a.mode _ c).1;unfold F54 Tr.useF;rw[b];simp only[Za,show decide ((0:Int)<=(HS n r).2.1)=true from Zd d,Vyc,Zc];rfl
theorem Zt7{n:Zh}(a:Js n){r:Xi}(d:r∈n.2.2.1){c:KK}(b:c∈r.2.2.2.2.2.2.2.1):idx n.1 c.1=some (Wv n c.1):=by have h:=a.call _ d _ b;exact J9 (show Kh c.1 n.1.length=true by simp [Kh];omega) s0
theorem Zsl{n:Zh}(q:Zt){s:Int}(h:idx n.1 s=some (Wv n s)):F53 n q s=some (Xa n q s):=by
 unfold F53;rw[h];simp only[Za];unfold Xa
 grind
theorem ZpW{n:Zh}(d:Js n)(q:Zt){r:Xi}(g:r∈n.2.2.1):F52 n q r.2.2.2.2.2.2.2.1=some (r.2.2.2.2.2.2.2.1.map (WJ n q)):=by
 have o:=(d.many _ g).2;unfold F52;rw[Ztm r.2.2.2.2.2.2.2.1 (fun c=>[WJ n q c]) id ?_ ?_]
 ·simp only[Za,id,ZqN,Vl];generalize p:r.2.2.2.2.2.2.2.1.map (WJ n q)=m;have a:m.length=r.2.2.2.2.2.2.2.1.length:=by grind
  rw[<-a]
  have k:Zo (m.length:Int) (m.length+1)=some m.length:=by unfold Zo;rw[Zp (by omega)];simp
  have l:sliceB m.length m.length none (some (m.length:Int))=some (0,m.length):=by unfold sliceB;simp
  grind
 ·intro i b;have j:=Vc b;simp only[ZU b,Zc,ZH b,Za];rw[Zsl q (Zt7 d g j)];have h:=ZqL (f:=fun c=>[WJ n q c]) (by simp) (r.2.2.2.2.2.2.2.1.take i);rw[Vu]at h;simp only[Za]
  have e:(bif !Xa n q (r.2.2.2.2.2.2.2.1[i]).1 then some (((r.2.2.2.2.2.2.2.1[i]).1,(r.2.2.2.2.2.2.2.1[i]).2.1,(r.2.2.2.2.2.2.2.1[i]).2.2.1,false,false,(r.2.2.2.2.2.2.2.1[i]).2.2.2.2.2):KK) else some r.2.2.2.2.2.2.2.1[i])=some (WJ n q r.2.2.2.2.2.2.2.1[i]):=by
   unfold WJ
   grind
  erw[e];simp only[Za];rw[Dk (by grind),Z8 b (by omega)];rfl
 simp
structure Few (n:Zh):Prop where
 stops:n.1.length<=4096
 routes:n.2.1.length<=4096
 runs:n.2.2.1.length<=4096
 links:n.2.2.2.1.length<=4096
 paths:n.2.2.2.2.1.length<=4096
 prods:n.2.2.2.2.2.1.1.length<=4096
 calls:∀r∈n.2.2.1,r.2.2.2.2.2.2.2.1.length<=4096
theorem RX{α:Type}(l:List α)(h:l.length<=4096):(Vo (ZD (decide (Vda ([]:List Unit)+Vda l<=ZE))) fun _=>
 Vo (Zo (↑(Vda ([]++l)):Int) (Vda ([]++l)+(1:Nat))) fun a=>
 Vo (sliceB (Vda ([]++l)) a none (some (↑(Vda ([]++l)):Int))) fun b=>some (Vw b.2 ([]++l)))=some l:=by
  have e0:ZD (decide (Vda ([]:List Unit)+Vda l<=ZE))=some ():=by
   unfold ZD ZE
   grind
  have c:Zo (l.length:Int) (l.length+1)=some l.length:=by unfold Zo;grind
  have d:sliceB l.length l.length none (some (l.length:Int))=some (0,l.length):=by unfold sliceB;simp
  grind
theorem Zjg{n:Zh}(h:Few n):F87 n=some n:=by
 unfold F87;have k:F98 n.1=some n.1:=RX n.1 h.stops;have d:F96 n.2.1=some n.2.1:=RX n.2.1 h.routes;have f:F97 n.2.2.1=some n.2.2.1:=RX n.2.2.1 h.runs;have b:F94 n.2.2.2.1=some n.2.2.2.1:=RX n.2.2.2.1 h.links;have c:F93 n.2.2.2.2.1=some n.2.2.2.2.1:=RX n.2.2.2.2.1 h.paths;have j:F95 n.2.2.2.2.2.1.1=some n.2.2.2.2.2.1.1:=RX n.2.2.2.2.2.1.1 h.prods;rw[k,d,f,b,c];simp only[Za];refine KF (fun r:Zh=>r=(n.1,n.2.1,n.2.2.1,n.2.2.2.1,n.2.2.2.2.1,n.2.2.2.2.2.1,())) (Kq n.2.2.1.length _ (fun i (st:Zh×Int)=>st=((n.1,n.2.1,n.2.2.1,n.2.2.2.1,n.2.2.2.2.1,n.2.2.2.2.2.1,()),(i:Int))) ?_ ?_ _ rfl) ?_
 ·rintro i _ a rfl;left;have g:F92 (n.2.2.1[i]).2.2.2.2.2.2.2.1=some (n.2.2.1[i]).2.2.2.2.2.2.2.1:=RX _ (h.calls _ (Vc a));simp only[ZU a,Zc,Ke a,Za,Va a,g];refine⟨_,rfl,?_⟩;rw[Z8 a (by have:=h.runs;omega)];have e:Vkc n.2.2.1 i ((n.2.2.1[i]).1,(n.2.2.1[i]).2.1,(n.2.2.1[i]).2.2.1,(n.2.2.1[i]).2.2.2.1,(n.2.2.1[i]).2.2.2.2.1,(n.2.2.1[i]).2.2.2.2.2.1,(n.2.2.1[i]).2.2.2.2.2.2.1,(n.2.2.1[i]).2.2.2.2.2.2.2.1,(n.2.2.1[i]).2.2.2.2.2.2.2.2)=n.2.2.1:=List.set_getElem_self a
  grind
 all_goals grind
def Xn(n:Zh)(q:Zt)(r:Xi):Xi:=(r.1,r.2.1,r.2.2.1,r.2.2.2.1,r.2.2.2.2.1,r.2.2.2.2.2.1, !HW n q r,r.2.2.2.2.2.2.2.1.map (WJ n q),())
def JJ(n:Zh)(q:Zt):List ZO:=if q.2.2.2.2.2.2.1 then n.2.2.2.2.1.filter (fun p=>p.2.2.2.1) else n.2.2.2.2.1
def Zz(n:Zh)(q:Zt):Zh:=(n.1,n.2.1,n.2.2.1.map (Xn n q),n.2.2.2.1,JJ n q,n.2.2.2.2.2.1,())
def Gl(n:Zh)(q:Zt)(i:Nat):List Xi:=(n.2.2.1.take i).map (Xn n q)++n.2.2.1.drop i
theorem Ztu(n:Zh)(q:Zt){i:Nat}(a:i<=n.2.2.1.length):(Gl n q i).length=n.2.2.1.length:=by simp [Gl];omega
theorem Ztt(n:Zh)(q:Zt){i:Nat}(a:i<n.2.2.1.length):(Gl n q i)[i]? =some n.2.2.1[i]:=by
 unfold Gl
 grind
theorem Ztv(n:Zh)(q:Zt){i:Nat}(b:i<n.2.2.1.length):(Gl n q i).set i (Xn n q n.2.2.1[i])=Gl n q (i+1):=by
 unfold Gl;have a:((n.2.2.1.take i).map (Xn n q)).length=i:=by grind
 rw[Vya _ _ (by omega),a,Nat.sub_self,Vga b,List.set_cons_zero,Ve b,Vn];simp
theorem Zn8{n:Zh}(d:Js n)(hF:Few n)(q:Zt)(g:F31 n q=some 0):F51 n q=some (Zz n q,0):=by
 unfold F51;rw[g];simp only[Za,decide_true,Vg,Ze];rw[Zjg hF];simp only[Za];refine KF (fun r:Zh=>r=(n.1,n.2.1,n.2.2.1.map (Xn n q),n.2.2.2.1,n.2.2.2.2.1,n.2.2.2.2.2.1,())) (Kq n.2.2.1.length _ (fun i (st:Zh×Int)=>st=((n.1,n.2.1,Gl n q i,n.2.2.2.1,n.2.2.2.2.1,n.2.2.2.2.2.1,()),(i:Int))) ?_ ?_ _ (by rfl)) ?_
 ·rintro i _ a rfl;left;have e:=Vc a;have j:=Ztu n q (Vgc a);have b:i<(Gl n q i).length:=by omega
  simp only[ZU a,Zc,ZH a,Za,ZuC d q e,Ke b,Ztt n q a,ZpW d q e];refine⟨_,?_,rfl⟩;rw[Z8 a (by have:=hF.runs;omega)];have c:i<((Gl n q i).set i ((n.2.2.1[i]).1,(n.2.2.1[i]).2.1,(n.2.2.1[i]).2.2.1,(n.2.2.1[i]).2.2.2.1,(n.2.2.1[i]).2.2.2.2.1,(n.2.2.1[i]).2.2.2.2.2.1, !HW n q n.2.2.1[i],(n.2.2.1[i]).2.2.2.2.2.2.2)).length:=by grind
  erw[Ke c];simp only[Za];erw[List.getElem?_set_self b];simp only[Za];erw[List.set_set];congr 2;have:=Ztv n q a;rw[<-this];rfl
 ·rintro _ rfl;refine⟨_,by simp only[Jy,Ze];rfl,?_⟩;simp [Gl]
 ·rintro _ rfl;unfold Zz JJ
  cases h:q.2.2.2.2.2.2.1 with
  |false=>rfl
  |true=>
   simp only[Zc,if_true];refine KF (fun r:Zh=>r=(n.1,n.2.1,n.2.2.1.map (Xn n q),n.2.2.2.1,n.2.2.2.2.1.filter (fun p=>p.2.2.2.1),n.2.2.2.2.2.1,())) (Kq n.2.2.2.2.1.length _ (fun i (st:Zh×Int)=>st=((n.1,n.2.1,n.2.2.1.map (Xn n q),n.2.2.2.1,(n.2.2.2.2.1.take i).filter (fun p=>p.2.2.2.1),n.2.2.2.2.2.1,()),(i:Int))) ?_ ?_ _ (by simp)) ?_
   ·rintro i _ a rfl;left;have f:=Vpa (fun p:ZO=>p.2.2.2.1) (n.2.2.2.2.1.take i);rw[Vu]at f;have k:=hF.paths;simp only[ZU a,Zc,ZH a,Za];rw[Z8 a (by omega),Ve a,Vfc]
    cases l:(n.2.2.2.2.1[i]).2.2.2.1 with
    |false=>
     grind
    |true=>
     simp only[Zc];rw[Dk (by grind)]
     grind
   all_goals simp
def qB(k:Nat)(q:Zt):Bool:=Kh q.1 k&& (Kh q.2.1 k&& (decide (0<=q.2.2.1/\q.2.2.1<=3155932800) && (decide (0<=q.2.2.2.2.1/\q.2.2.2.2.1<=8) && (decide (0<=q.2.2.2.2.2.1/\q.2.2.2.2.2.1<=86400) && (decide (0<=q.2.2.2.2.2.2.2.2.1/\q.2.2.2.2.2.2.2.2.1<=255) && !(q.2.2.2.2.2.2.2.2.2.1&&q.2.2.2.1))))))
theorem Zni(x a b:Int):F50 x a b=some (decide (a<=x/\x<=b)):=Hd x a b
theorem Zce(x a b:Int):F131 x a b=some (decide (a<=x/\x<=b)):=Hd x a b
theorem Znj(x:Int){m:Nat}(a:m<=9223372036854775807):F50 x 0 (Vb .i64 ((m:Int) - 1))=some (Kh x m):=Zcg x a
theorem ZdZ(x:Int){m:Nat}(a:m<=9223372036854775807):F131 x 0 (Vb .i64 ((m:Int) - 1))=some (Kh x m):=Zcg x a
theorem ZuD(k:Nat)(a:k<=9223372036854775807)(q:Zt):F130 (k:Int) q=some (qB k q):=by
 unfold F130 qB;simp only[Zce];rw[show decide ((0:Int)<=q.1/\q.1<=Vb .i64 ((k:Int) - 1))=Kh q.1 k from Option.some.inj ((Zce _ _ _).symm.trans (ZdZ q.1 a)),show decide ((0:Int)<=q.2.1/\q.2.1<=Vb .i64 ((k:Int) - 1))=Kh q.2.1 k from Option.some.inj ((Zce _ _ _).symm.trans (ZdZ q.2.1 a))]
 grind
open Classical in
noncomputable def D3(n:Zh)(q:Zt):Int:=if Whole n then(if qB n.1.length q=true then 0 else 22) else 21
theorem ZbW{n:Zh}{q:Zt} :D3 n q=0↔Whole n/\qB n.1.length q=true:=by
 unfold D3
 grind
open Classical in
theorem ZcS{n:Zh}(h:Xh n):F120 n=some (decide (Whole n)):=by obtain⟨r,_,a,b⟩:=Zdv n h;unfold F120;rw[a];simp only[Za];congr 1;exact decide_eq_decide.2 b
open Classical in
theorem ZpB{n:Zh}(h:Xh n)(q:Zt):F129 n q=some (D3 n q):=by
 unfold F129 D3;rw[ZcS h];simp only[Za];by_cases a:Whole n
 ·rw[Zd a,Zp a];have b:=a.sound.stops;simp only[Vg,Ze];rw[ZuD n.1.length (by omega)];simp only[Za]
  cases qB n.1.length q<;>rfl
 ·rw[Zk a,Zf a];rfl
theorem ZbV{n:Zh}(h:Xh n)(q:Zt):F31 n q=some (D3 n q):=by
 obtain⟨r,c,_,d⟩:=Zdv n h;unfold F31 D3;rw[c];simp only[Za];by_cases a:Whole n
 ·rw[Zd (d.2 a),Zp a];have b:n.1.length<=9223372036854775807:=by have:=a.sound.stops;omega
  simp only[Vg,Ze,Zni];rw[show decide ((0:Int)<=q.1/\q.1<=Vb .i64 ((n.1.length:Int) - 1))=Kh q.1 n.1.length from Option.some.inj ((Zce _ _ _).symm.trans (ZdZ q.1 b)),show decide ((0:Int)<=q.2.1/\q.2.1<=Vb .i64 ((n.1.length:Int) - 1))=Kh q.2.1 n.1.length from Option.some.inj ((Zce _ _ _).symm.trans (ZdZ q.2.1 b))];unfold qB;simp only[Za]
  grind
 grind
theorem ZpQ{c l:List ZO}(h:JG c l=true):c=l:=by
 unfold JG at h;rw[Vf,KQ,Vjb]at h;obtain⟨e,a⟩:=h;have a:=K6.1 a;refine Vhc e fun i d b=>?_;have:=a i d;unfold Dh at this;rw[Kx d,Kx b]at this
 have f:sameF c[i] l[i]=true:=by
  grind
 unfold sameF at f
 grind
theorem ZpR(l:List ZO):JG l l=true:=by unfold JG;rw[Vf,KQ,Vjb];refine⟨rfl,K6.2 fun i a=>?_⟩;unfold Dh sameF;simp
theorem Zg4{k:Nat}{l:List ZO} :(∀i,i<l.length->KZ k l i=0)↔(∀p∈l,XY k p=false/\Yk p=false)/\l.Pairwise fun a b=>WW a≠WW b:=by
 constructor
 ·intro h;refine⟨fun p o=>?_,Vua.2 fun i j c f d e=>?_⟩
  ·obtain⟨i,c,rfl⟩:=Vs o;have:=Ds (h i c)
   grind
  ·have:=(Ds (h j f)).2.2;refine this ⟨i,d,?_⟩
   grind
 ·rintro ⟨g,m⟩ i c;obtain⟨a,b⟩:=g _ (Vc c);unfold KZ;rw[Kx c,Zf (by grind),Zf (by grind),Zf];rintro ⟨j,f,e⟩;rw[Kx (by omega)]at e;exact Vua.1 m j i (by omega) c f e
theorem ZjM{α β:Type}(p:β->Bool)(f:α->List β)(l:List α):(l.flatMap f).filter p=l.flatMap fun x=>(f x).filter p:=by
 induction l with
 |nil=>rfl
 |cons x l a=>grind
theorem Zrg(a b:Nat)(d f:Int):(WS a b d f).filter (fun p=>p.2.2.2.1)=WS a b f f:=by
 unfold WS
 grind
theorem Zn6(it:Nat->Nat->List Z7)(n m:Nat):(Ww it n m).filter (fun p=>p.2.2.2.1)=Ww (fun a b=>(it a b).filter (fun p=>p.2.2.2.1)) n m:=by
 unfold Ww Xw;rw[ZjM];congr 1;funext a;rw[ZjM]
 grind
theorem ZqR{k:Nat}(g:k<=64){l:List ZO}(s:l.length<=4096)(x:∀i,i<l.length->KZ k l i=0)(G:∀c,F116 l (k:Int)=some c->JG c l=true):
 (∀i,i<(l.filter fun p=>p.2.2.2.1).length->KZ k (l.filter fun p=>p.2.2.2.1) i=0)/\ ∀c,F116 (l.filter fun p=>p.2.2.2.1) (k:Int)=some c->JG c (l.filter fun p=>p.2.2.2.1)=true:=by
 obtain⟨H,I⟩:=Zg4.1 x;have f:∀i,i<(l.filter fun p=>p.2.2.2.1).length->KZ k (l.filter fun p=>p.2.2.2.1) i=0:=Zg4.2 (by grind);refine⟨f,fun c h=>?_⟩;have hF:=ZdT x;have d:=ZdT f;have e:(l.filter fun p=>p.2.2.2.1).length<=4096:=by grind
 obtain⟨c0,A,B,_⟩:=ZdA g hF s;obtain⟨o,C,D,_⟩:=ZdA g d e;have y:=ZdB g hF s (fun a b=>(ZaL hF a b).imp id fun h=>h.2);have z:=ZdB g d e (fun a b=>(ZaL d a b).imp id fun h=>h.2);rw[A]at y;rw[C]at z;have e0:=ZpQ (G c0 B);obtain rfl:o=c:=Option.some.inj (D.symm.trans h)
 have r:∀free,Z6 (l.filter fun p=>p.2.2.2.1) free=Z6 l true:=by
  intro free;funext u v w;refine propext ⟨fun⟨p,t,_,h⟩=>?_,fun⟨p,t,E,h⟩=>?_⟩
  ·obtain⟨j,m⟩:=Vfa.1 t;exact⟨p,j,fun _=>m,h⟩
  ·have:=E rfl;exact⟨p,by grind,fun _=>this,h⟩
 have key:o=l.filter fun p=>p.2.2.2.1:=by
  rw[Option.some.inj z]
  conv=>rhs;rw[<-e0,Option.some.inj y]
  rw[Zn6,r,r];congr 1;funext a b;exact(Zrg a b _ _).symm
 rw[key];exact ZpR _
theorem Zdz(n:Zh)(q:Zt)(l:List KK)(i:Nat):(((l.map (WJ n q))[i]?).getD c0).1=((l[i]?).getD c0).1/\(((l.map (WJ n q))[i]?).getD c0).2.1=((l[i]?).getD c0).2.1/\(((l.map (WJ n q))[i]?).getD c0).2.2.1=((l[i]?).getD c0).2.2.1:=by
 rw[Vqa]
 cases l[i]? with
 |none=>simp
 |some c=>
  simp only[Vlc,Option.getD_some];unfold WJ
  grind
theorem Zpl(n:Zh)(q:Zt)(l:List KK)(k lo a:Int):Ju (l.map (WJ n q)) k lo a=Ju l k lo a:=by
 have h:Jb (l.map (WJ n q)) k lo a=Jb l k lo a:=by
  funext i;obtain⟨b,c,d⟩:=Zdz n q l i;obtain⟨e,f,g⟩:=Zdz n q l (i - 1);unfold Jb D0 G7 G8
  grind
 unfold Ju
 grind
theorem Zl5(n:Zh)(q:Zt)(a:Int):(rn (Zz n q) a).2.2.2.2.2.2.2.1=(rn n a).2.2.2.2.2.2.2.1.map (WJ n q):=by
 unfold rn;show (((n.2.2.1.map (Xn n q))[a.toNat]?).getD u0).2.2.2.2.2.2.2.1=_;rw[Vqa]
 cases n.2.2.1[a.toNat]? <;>rfl
theorem ZrJ(n:Zh)(q:Zt)(i:Nat):WD (Zz n q) i=WD n i:=by have a:(Zz n q).2.2.1.length=n.2.2.1.length:=Vl ..;unfold WD X9 Y5;simp only[Zl5,Vl,a];have b:∀(l:List KK) (x:Int),(cl (l.map (WJ n q)) x).1=(cl l x).1:=fun l x=>(Zdz n q l _).1;simp only[b];rfl
theorem Ztf(n:Zh)(q:Zt){i:Nat}(f:i<n.2.2.1.length):J1 (Zz n q) i=J1 n i:=by
 have c:∀j,j<n.2.2.1.length->((Zz n q).2.2.1[j]?).getD u0=Xn n q ((n.2.2.1[j]?).getD u0):=by
  intro j a;show ((n.2.2.1.map (Xn n q))[j]?).getD u0=_
  grind
 unfold J1;rw[c i f]
 have d:(∃j,j<i/\runK (((Zz n q).2.2.1[j]?).getD u0)=runK (Xn n q ((n.2.2.1[i]?).getD u0)))↔∃j,j<i/\runK ((n.2.2.1[j]?).getD u0)=runK ((n.2.2.1[i]?).getD u0):=by
  constructor
  ·rintro ⟨j,a,e⟩;rw[c j (by omega)]at e;exact⟨j,a,e⟩
  ·rintro ⟨j,a,e⟩;refine⟨j,a,?_⟩;rw[c j (by omega)];exact e
 have b:Ju (Xn n q ((n.2.2.1[i]?).getD u0)).2.2.2.2.2.2.2.1 ((Zz n q).1.length:Int) 0 3155932800=Ju ((n.2.2.1[i]?).getD u0).2.2.2.2.2.2.2.1 (n.1.length:Int) 0 3155932800:=Zpl n q _ _ _ _;simp only[b,d];rfl
theorem Zfy{n:Zh}(q:Zt)(e:n.2.2.2.2.1.length<=4096)(h:Whole n):Whole (Zz n q):=by
 have a:(Zz n q).2.2.1.length=n.2.2.1.length:=Vl ..
 have d:(∀i,i<(JJ n q).length->KZ n.1.length (JJ n q) i=0)/\ ∀c,F116 (JJ n q) (n.1.length:Int)=some c->JG c (JJ n q)=true:=by
  unfold JJ;split
  ·exact ZqR h.sound.stops e (K6.1 h.q) h.w
  ·exact⟨K6.1 h.q,h.w⟩
 refine⟨h.s,h.t,by rw[a];exact h.u,?_,h.v,?_,K6.2 d.1,d.2,h.z⟩
 ·rw[a];exact K6.2 fun i b=>by rw[Ztf n q b];exact K6.1 h.f i b
 ·exact K6.2 fun i b=>by rw[ZrJ];exact K6.1 h.g i b
end Q
namespace Q
open Tr Go
theorem ZiD{c d:Bool}{e:Int}{K:Option Int}{k:Int}(h:K=some k):(Vo (bif c then some d else some false) fun x=>bif x then some e else K)=some (bif c&&d then e else k):=by
 grind
theorem Zel{c:Bool}{e:Int}{K:Option Int}{k:Int}(h:K=some k):(bif c then some e else K)=some (bif c then e else k):=by
 grind
theorem ZfI{o:Option Bool}{c:Bool}{e:Int}{K:Option Int}{k:Int}(a:o=some c)(h:K=some k):(Vo o fun x=>bif x then some e else K)=some (bif c then e else k):=by
 grind
theorem WK{c:Bool}{e k:Int}(a:e≠0):(bif c then e else k)=0↔c=false/\k=0:=by
 grind
def ZgS(q:Zt)(t:Hm):Bool:=decide (q.2.2.2.2.2.2.2.2.1=(0:Int)) ||decide (ZF .i64 (Int.fdiv q.2.2.2.2.2.2.2.2.1 (2 ^ (min (Int.toNat t.2.1) 64))) 1=1)
def GL(n:Zh)(q:Zt)(x:Zv):Int:=
 bif !decide ((cl (Wl n x) x.2.2.1).1=x.2.2.2.2.1) || !decide ((cl (Wl n x) x.2.2.2.1).1=x.2.2.2.2.2.1) then 24 else
 bif !decide ((cl (Wl n x) x.2.2.1).2.2.1=x.2.2.2.2.2.2.1) || !decide ((cl (Wl n x) x.2.2.2.1).2.1=x.2.2.2.2.2.2.2.1) then 10 else
 bif (rn n x.2.1).2.2.2.2.2.2.1 then 27 else
 bif q.2.2.2.2.2.2.1&& !(rn n x.2.1).2.2.2.2.2.1 then 29 else
 bif q.2.2.2.2.2.2.2.1&& !(HS n (rn n x.2.1)).2.2.1 then 30 else
 bif !ZgS q (HS n (rn n x.2.1)) then 31 else
 bif !Kv x&& !(cl (Wl n x) x.2.2.1).2.2.2.1 then 25 else
 bif !Kv x&& !Xa n q x.2.2.2.2.1 then 29 else 0
def He(x:Zv)(p:ZO):Bool:=decide (p.1=x.2.2.2.2.1) && (decide (p.2.1=x.2.2.2.2.2.1) &&decide (p.2.2.1=Vb .i64 (x.2.2.2.2.2.2.2.1 - x.2.2.2.2.2.2.1)))
def Ha(q:Zt)(p:ZO):Bool:=p.2.2.2.1|| !q.2.2.2.2.2.2.1
def Yo(n:Zh)(q:Zt)(x:Zv):Int:=bif n.2.2.2.2.1.any fun p=>He x p&&Ha q p then 0 else bif n.2.2.2.2.1.any (He x) then 29 else 18
theorem Zaz{α:Type}{l:List α}{i:Nat}(h:i<l.length)(f:α->Bool):(l.take (i+1)).any f=((l.take i).any f||f l[i]):=by rw[Ve h,List.any_append];simp
theorem ZfA{α:Type}{l:List α}{i:Nat}(h:i<l.length){f:α->Bool}(a:f l[i]=true):l.any f=true:=by grind
def WN(n:Zh)(q:Zt)(x:Zv):Int:=
 bif !Kh x.2.2.2.2.1 n.1.length|| !Kh x.2.2.2.2.2.1 n.1.length then 9 else
 bif (bif x.1 then !KL n x else !decide (x.2.1=0) || (!decide (x.2.2.1=0) || (!decide (x.2.2.2.1=0) ||Kv x))) then 9 else
 bif !decide (0<=x.2.2.2.2.2.2.1/\x.2.2.2.2.2.2.1<=3155932800) || !decide (0<=x.2.2.2.2.2.2.2.1/\x.2.2.2.2.2.2.2.1<=3155932800) then 10 else
 bif x.1 then GL n q x else Yo n q x
theorem Zdo{o:Option Bool}{c:Bool}{e:Int}{K:Option Int}{k:Int}(a:o=some c)(h:c=false->K=some k):(Vo o fun x=>bif x then some e else K)=some (bif c then e else k):=by
 grind
def ZgH(a b:Zv)(stay:Bool)(l:XC):Bool:=decide (l.1=a.2.1) && (decide (l.2.1=a.2.2.2.1) && (decide (l.2.2.1=b.2.1) && (decide (l.2.2.2.1=b.2.2.1) && (l.2.2.2.2.1==stay))))
def Rh(n:Zh)(a b:Zv)(stay:Bool):Bool:=n.2.2.2.1.any (ZgH a b stay)
def JH(n:Zh)(a b:Zv):Int:=
 bif !decide (a.2.2.2.2.2.1=b.2.2.2.2.1) then 24 else
 bif !a.1&& !b.1 then 32 else
 bif Kv b then(bif !a.1|| !Rh n a b true then 19 else bif decide (b.2.2.2.2.2.2.1<a.2.2.2.2.2.2.2.1) then 10 else 0) else
 bif !b.1 then(bif !decide (b.2.2.2.2.2.2.1=a.2.2.2.2.2.2.2.1) then 10 else 0) else
 bif !a.1 then(bif decide (b.2.2.2.2.2.2.1<a.2.2.2.2.2.2.2.1) then 28 else 0) else
 bif decide (Vb .i64 (a.2.2.2.2.2.2.2.1+(Wv n a.2.2.2.2.2.1).2.2.2.1)<=b.2.2.2.2.2.2.1) || (Rh n a b false&&decide (a.2.2.2.2.2.2.2.1<=b.2.2.2.2.2.2.1)) then 0 else 28
def g0:Zv:=(false,0,0,0,0,0,0,0,false,())
def lg(L:List Zv)(i:Nat):Zv:=(L[i]?).getD g0
def Ji(n:Zh)(q:Zt)(L:List Zv):Int:=
 bif !decide ((lg L 0).2.2.2.2.1=q.1) then 24 else
 bif Kv (lg L 0) then 19 else
 bif !(lg L 0).1&& (decide (1<L.length) && ((lg L 1).1&& !decide ((lg L 1).2.2.2.2.2.2.1=(lg L 0).2.2.2.2.2.2.2.1))) then 10 else
 bif !(lg L 0).1&& (decide (L.length=1) && (bif q.2.2.2.1 then !decide ((lg L 0).2.2.2.2.2.2.2.1=q.2.2.1) else !decide ((lg L 0).2.2.2.2.2.2.1=q.2.2.1))) then 10 else
 bif !q.2.2.2.1&&decide ((lg L 0).2.2.2.2.2.2.1<q.2.2.1) then 10 else
 bif q.2.2.2.2.2.2.2.2.2.1&& ((lg L 0).1&&decide ((lg L 0).2.2.2.2.2.2.1<Vb .i64 (q.2.2.1+(Wv n q.1).2.2.2.1))) then 28 else 0
theorem ZkH{L:List Zv}{i:Nat}(h:i<L.length):idx L (i:Int)=some (lg L i):=by
 rw[ZH h];unfold lg
 grind
end Q
namespace Q
open Tr Go
end Q
namespace Q
open Tr Go
def JL(x:Zv):Bool:=x.1&& !Kv x
def ridesN(L:List Zv):Nat:=(L.filter JL).length
def Xf(L:List Zv)(i:Nat):Bool:=(lg L i).1&& (decide (i+1=L.length) || !Kv (lg L (i+1)))
def YC(n:Zh)(q:Zt)(x:Zv):Int:=bif !(cl (Wl n x) x.2.2.2.1).2.2.2.2.1 then 26 else bif !Xa n q x.2.2.2.2.2.1 then 29 else 0
def GG(n:Zh)(q:Zt)(L:List Zv)(i:Nat):Int:=bif decide (i=0) then Ji n q L else JH n (lg L (i - 1)) (lg L i)
def WI(n:Zh)(q:Zt)(L:List Zv)(i:Nat):Int:=
 bif !decide (WN n q (lg L i)=0) then WN n q (lg L i) else
 bif !decide (GG n q L i=0) then GG n q L i else
 bif Xf L i then YC n q (lg L i) else 0
theorem ZrB{n:Zh}{q:Zt}{x:Zv}(h:WN n q x=0):Kh x.2.2.2.2.1 n.1.length=true/\Kh x.2.2.2.2.2.1 n.1.length=true/\(x.1=true->KL n x=true/\GL n q x=0)/\(x.1=false->Yo n q x=0):=by
 unfold WN at h
 grind
end Q
namespace Q
open Tr Go
abbrev Jq:=Int×Int×Int×Int×Unit
abbrev Zc5:=List UInt8×Int×Int×Int×Int×Int×Unit
abbrev GT:=List Zc5×Int×Int×Int×Unit
abbrev J5:=List (Option GT×(Jq×Int×List Int×Unit))
inductive Yw (S:List Jq->List Int->Prop) (F:GT):List Jq->J5->Prop
 |start {r0:Jq}{sums:List Int} (h:S [] sums):Yw S F [] [(some F,r0,0,sums,())]
 |snoc {rs:List Jq}{s:J5}{r:Jq}{sums:List Int} (hs:Yw S F rs s) (hl:rs.length+1<=8) (h:S (rs++[r]) sums):Yw S F (rs++[r]) ((some F,r,((rs.length+1:Nat):Int),sums,())::s)
theorem Yw.head{S:List Jq->List Int->Prop}{F:GT}{rs:List Jq}{s:J5}(h:Yw S F rs s):∃r a t,s=(some F,r,(rs.length:Int),a,())::t/\S rs a/\rs.length<=8/\(∀x∈rs.getLast?,r=x):=by
 cases h with
 |start h=>exact⟨_,_,_,rfl,h,by simp,by simp⟩
 |snoc c b h=>
  rename_i rs s r a;refine⟨r,a,s,?_,h,by simpa using b,by simp⟩;rw[show (rs++[r]).length=rs.length+1 by simp]
theorem ZkM{S:List Jq->List Int->Prop}{F:GT}{rs:List Jq}{s:J5}(h:Yw S F rs s):F22 s=some rs:=by
 obtain⟨r,c,t,e,_,w,_⟩:=h.head
 have key:∀{rs:List Jq}{s:J5},Yw S F rs s->∀b:List Jq,∀z:Jq,run
  (fun a:J5×List Jq×Int=>
  bif decide ((0:Int)<=a.2.2) then
  Vo (Tr.unc a.1) fun _=>
  Vo (Tr.unc a.1) fun v=>
  Vo (Zo a.2.2 (Vda a.2.1)) fun f=>
  Vo a.2.1[f]? fun _=>
  Vo (Tr.unc a.1) fun _=>
  Vo (Tr.unc a.1) fun d=>some (.inl (d.2.1,Vkc a.2.1 f v.2.2.1,Vb .i64 (a.2.2 - (1:Int))))
  else some (.inr a.2.1)) (s,Vaa rs.length z++b,(rs.length:Int) - 1)=some (rs++b):=by
  intro rs s h
  induction h with
  |start h=>
   intro b z;refine Ym ?_
   simp
  |snoc y x h u=>
   rename_i rs s r c;intro b z;refine(HT (s' :=(s,Vaa rs.length z++r::b,(rs.length:Int) - 1)) ?_).trans ?_
   ·have m:decide ((0:Int)<=((rs++[r]).length:Int) - 1)=true:=Zd (by simp);simp only[m,Zc,Tr.unc,Za];have g:((rs++[r]).length:Int) - 1=(rs.length:Int):=by simp
    rw[g]
    have j:Zo (rs.length:Int) (Vaa (rs++[r]).length z++b).length=some rs.length:=by have:=Ke (i:=rs.length) (n:=(Vaa (rs++[r]).length z++b).length) (by simp;omega);exact this
    rw[j]
    have k:(Vaa (rs++[r]).length z++b)[rs.length]? =some z:=by rw[List.getElem?_append_left (by simp)];simp
    simp only[Za,k]
    have l:Vkc (Vaa (rs++[r]).length z++b) rs.length r=Vaa rs.length z++r::b:=by simp only[Vi,Vnb,Vx,Vpb];rw[List.replicate_succ',Vwa,Vya _ _ (by simp)];simp
    rw[l,Zs (by omega) (by omega)]
   ·rw[u (r::b) z];simp
 unfold F22;subst e;simp only[Tr.unc,Za];have o:decide ((0:Int)<=(rs.length:Int)/\(rs.length:Int)<=(rs.length:Int)/\(rs.length:Int)<=(ZE:Int))=true:=Zd ⟨by omega,by omega,by have:(ZE:Int)=549755813888:=rfl;omega⟩;rw[o,show ZD true=some () from rfl];simp only[Za];have p:Vb .i64 ((rs.length:Int) - 1)=(rs.length:Int) - 1:=Zs (by omega) (by omega);rw[p,Vd];have:=key h [] ((0:Int),(0:Int),(0:Int),(0:Int),());rw[Vt,Vt]at this;refine KF (fun r=>r=rs) ⟨rs,this,rfl⟩ ?_;rintro r rfl;rfl
def YW(x:Int):Prop:=0<=x/\x<=1000000000000
theorem ZeX{x:Int}(a:0<=x)(b:x<=9223372036854775807):Vb .u64 x=x:=by simp [Vb,IntKind.signed,IntKind.bits];omega
theorem ZqZ{a d m:Int}(c:YW a)(e:YW d)(f:YW m):F29 a d m=some (decide (d<=a+m)):=by
 unfold F29;unfold YW at c e f;by_cases h:d<=a
 ·rw[Zd h,Zd (by omega:d<=a+m)];rfl
 ·rw[Zk h,ZeX e.1 (by omega),ZeX c.1 (by omega),ZeX (by omega) (by omega),ZeX f.1 (by omega)]
  have:decide (d - a<=m)=decide (d<=a+m):=by
   by_cases b:d<=a+m
   ·rw[Zd b,Zd (by omega)]
   ·rw[Zk b,Zk (by omega)]
  rw[Ze,this];rfl
theorem Zq7(x y:Int):imax x y=max x y:=by
 unfold imax
 split<;>omega
def tpr(F:GT)(o:Option Int)(p:Zc5)(d:Int):Int:=match o with
 |none=>p.2.1
 |some a=>if d<=a+F.2.2.1 then max 0 (p.2.1 - F.2.1) else p.2.1
structure Zh4 (F:GT):Prop where
 disc:YW F.2.1
 wit:YW F.2.2.1
 price:∀p∈F.1,YW p.2.1
def Zh9(r:Jq):Prop:=YW r.1/\YW r.2.1
theorem ZmC{S:List Jq->List Int->Prop}{F:GT}{o:List Jq}{s:J5}(h:Yw S F o s)(hF:Zh4 F){p:Zc5}(A:p∈F.1){rs:List Jq}(u:∀r∈rs,Zh9 r)(E:rs.length<=8){i:Nat}{r:Jq}(z:rs[i]? =some r):
 F24 s p rs (i:Int)=some (tpr F ((rs.take i).getLast?.map fun x=>x.2.1) p r.1):=by
 obtain⟨r0,v,t,rfl,_,_,_⟩:=h.head;obtain⟨g,c⟩:=Vkb.1 z;unfold F24;have j:=hF.price p A;have f:=hF.disc
 cases i with
 |zero=>
  simp [tpr]
 |succ i=>
  have w:decide ((0:Int)<((i+1:Nat):Int))=true:=Zd (by omega);have y:Vb .i64 (((i+1:Nat):Int) - 1)=(i:Int):=by rw[Zs (by omega) (by omega)];omega
  have C:idx rs (i:Int)=some rs[i]:=ZH (by omega);have D:idx rs ((i+1:Nat):Int)=some r:=by rw[ZH g,c]
  have b:(rs.take (i+1)).getLast?=some rs[i]:=by
   have:i<rs.length:=by omega
   rw[List.getLast?_eq_getElem?,Vu,Vmc (by omega),Vgb,Zp (by omega),Nat.add_sub_cancel,Va this]
  rw[w,Zc,y,b];have k:=u rs[i] (Vc _);have l:=u r (c▸Vc _);have B:=ZqZ (a:=(rs[i]).2.1) (d:=r.1) (m:=F.2.2.1) k.2 l.1 hF.wit;simp only[C,D,Za,Tr.unc,B,Vlc,tpr];by_cases e:r.1<=(rs[i]).2.1+F.2.2.1
  ·rw[Zd e,Zc,Zp e];unfold YW at j f;rw[Zs (by omega) (by omega)];exact congrArg some (Zq7 _ _)
  ·rw[Zk e,Ze,Zf e]
end Q
namespace Q
open Tr Go
structure FO (F:Ku):Prop where
 head:HL F=true
 many:F.1.length<=16
 nums:∀p∈F.1,YK p=true
theorem Dj{F:Ku}(h:(J8 F).2=0):FO F:=by
 unfold J8 at h;by_cases d:HL F=false
 ·grind
 rw[Zf d]at h;by_cases b:16<F.1.length
 ·grind
 rw[Zf b]at h;have f:=Zbb h;refine⟨by grind,by omega,fun p e=>?_⟩;obtain⟨i,c,rfl⟩:=Vs e;have a:=f i c;unfold Hy at a;rw[Kx c]at a;obtain⟨_,_,g⟩:=GE.1 a
 grind
theorem FO.heads{F:Ku}(h:FO F):(0<=F.2.1/\F.2.1<=1000000)/\(0<=F.2.2.1/\F.2.2.1<=86400)/\0<=F.2.2.2.1/\F.2.2.2.1<=1000000:=by
 have:=h.head;unfold HL at this
 grind
theorem FO.prod{F:Ku}(h:FO F){p:XQ}(a:p∈F.1):(0<=p.2.1/\p.2.1<=1000000)/\(1<=p.2.2.1/\p.2.2.1<=8)/\(1<=p.2.2.2.1/\p.2.2.2.1<=16)/\(0<=p.2.2.2.2.1/\p.2.2.2.2.1<=86400)/\1<=p.2.2.2.2.2.1/\p.2.2.2.2.2.1<=255:=by
 have:=h.nums p a;unfold YK at this
 grind
theorem FO.farOk{F:Ku}(h:FO F):Zh4 F where
 disc:=by have:=h.heads;exact⟨by omega,by omega⟩
 wit:=by have:=h.heads;exact⟨by omega,by omega⟩
 price:=fun p a=>by have:=(h.prod a).1;exact⟨by omega,by omega⟩
def Hl(v:ZW):Prop:=Small v/\Zh9 v
end Q
namespace Q
open Tr Go
theorem Wf{α β:Type}{o:Option α}{f:α->Option β}{Q:β->Prop}(P:α->Prop)(h:∃r,o=some r/\P r)(k:∀r,P r->∃z,f r=some z/\Q z):∃z,Vo o f=some z/\Q z:=by
 grind
theorem ZtS{α β:Type}{o:Option β}{g:α->β}{Q:α->Prop}(h:∃z,o=some z/\ ∃s,z=g s/\Q s):∃s,o=some (g s)/\Q s:=by
 grind
theorem Yw.mono{S T:List Jq->List Int->Prop}(c:∀a b,S a b->T a b){F:GT}{rs:List Jq}{s:J5}(h:Yw S F rs s):Yw T F rs s:=by
 induction h with
 |start h=>exact .start (c _ _ h)
 |snoc f d h e=>exact .snoc e d (c _ _ h)
theorem Zhy{n i:Nat}(h:i<=n):sliceB n n (some (i:Int)) none=some (i,n):=by
 unfold sliceB
 grind
theorem ZmI{α:Type}(l:List α)(i:Nat):Vw (l.length - i) (Vma i l)=l.drop i:=by rw[List.take_of_length_le];simp
def Zia(F:Ku)(_:FO F)(rs:List ZW)(a:List Int):Prop:=a.length=9/\ ∀i,i<=rs.length->∃x,a[i]? =some x/\ -1<=x/\x<=1000000* (i:Int)
abbrev HZ(F:Ku)(h:FO F):List ZW->J5->Prop:=Yw (Zia F h) F
theorem Zuq{F:Ku}(h:FO F){p:XQ}(b:p∈F.1)(o:Option Int)(d:Int):0<=tpr F o p d/\tpr F o p d<=1000000:=by
 have a:=(h.prod b).1;have c:=h.heads.1;unfold tpr;split
 ·exact a
 ·split<;>omega
theorem Zt6{F:Ku}(h:FO F){rs:List ZW}{s:J5}(D:HZ F h rs s){r:ZW}(C:∀v∈rs++[r],Hl v)(I:rs.length+1<=8):
 ∃s',F21 s r=some (s',0)/\HZ F h (rs++[r]) s' :=by
 obtain⟨r0,c,t,e,⟨V,H⟩,_,_⟩:=D.head;generalize hL:rs++[r]=l at C;have J:l.length=rs.length+1:=by grind
 have U:F.1.length<=16:=h.many;subst e;have X:Vb .i64 ((rs.length:Int)+1)=((rs.length+1:Nat):Int):=by rw[Zs (by omega) (by omega)];omega
 have z:Yw (fun _ _=>True) F l ((some F,r,((rs.length+1:Nat):Int),c,())::(some F,r0,(rs.length:Int),c,())::t):=hL▸ .snoc (D.mono (by simp)) I trivial;have j:=ZkM z;unfold F21;have O:decide ((8:Int)<=(rs.length:Int))=false:=by grind
 have P:Zo ((rs.length+1:Nat):Int) (9:Nat)=some (rs.length+1):=Ke (by omega);have y:c[rs.length+1]? =some c[rs.length+1]:=by simp
 simp only[Tr.unc,Za,List.isEmpty_cons,Ze,O,X,j,P,y];refine ZtS (g:=fun s' =>(s',(0:Int))) (Wf (fun b=> -1<=b/\b<=1000000* (l.length:Int)) ?_ fun b K=>⟨_,rfl,_,rfl,?_⟩)
 rotate_left
 ·show Yw (Zia F h) F l _;rw[<-hL];refine .snoc D I ?_;rw[hL];refine⟨by grind,fun i k=>?_⟩;by_cases T:i<l.length
  ·obtain⟨x,M,N⟩:=H i (by omega);exact⟨x,by rw[List.getElem?_set_ne (by omega)];exact M,N⟩
  ·have B:i=rs.length+1:=by omega
   subst B;exact⟨b,by grind,K.1,by omega⟩
 refine Kq l.length _ (fun i (s:Int×Int)=>s.2=(i:Int)/\ -1<=s.1/\s.1<=1000000* (l.length:Int)) ?_ (by rintro ⟨b,_⟩ ⟨rfl,d⟩;exact⟨b,by simp only[Jy,Ze],d⟩) _ ⟨rfl,by simp,by simp;omega⟩;rintro i ⟨b,_⟩ k ⟨rfl,d⟩;left;simp only at d;simp only[ZU k,Zc,Z8 k (by omega)];refine XW (fun b=> -1<=b/\b<=1000000* (l.length:Int)) ?_ (by simp);refine Kq F.1.length _ (fun p (s:Int×Int)=>s.2=(p:Int)/\ -1<=s.1/\s.1<=1000000* (l.length:Int)) ?_ (by rintro ⟨b,_⟩ ⟨rfl,d⟩;exact⟨b,by simp only[Jy,Ze],d⟩) _ ⟨rfl,d⟩;rintro p ⟨b,_⟩ m ⟨rfl,d⟩;left;simp only at d;have Y:idx F.1 (p:Int)=some F.1[p]:=ZH m;obtain⟨a,Q,R,S⟩:=H i (by omega)
 have A:l.drop i=l[i]::l.drop (i+1):=Vga k;have w:F110 F.1[p] (l.drop i)=some (cvB F.1[p] (l.drop i)):=Zjr (fun v E=>(C v (Vbb E)).1) (by grind) (by grind) (h.prod (Vc m)).2.2.2.1.1;have f:=ZmC z h.farOk (Vc m) (fun v E=>(C v E).2) (by omega) (Va k);have W:=Zuq h (Vc m) ((l.take i).getLast?.map fun x=>x.2.1) l[i].1;generalize tpr F ((l.take i).getLast?.map fun x=>x.2.1) F.1[p] l[i].1=tp at*;have G:Vb .i64 (a+tp)=a+tp:=Zs (by omega) (by omega);simp only[ZU m,Zc,Y,Za,Ke (show i<9 by omega),Q,Zhy (Vgc k),ZmI,w,f,G,Z8 m (by omega)];by_cases o:a<0
 ·rw[Zd o];exact⟨_,rfl,rfl,d⟩
 rw[Zk o];simp only[Ze,Za]
 cases cvB F.1[p] (l.drop i) with
 |false=>exact⟨_,rfl,rfl,d⟩
 |true=>
  simp only[Vg,Ze];by_cases u:b<0
  ·rw[Zd u];exact⟨_,rfl,rfl,by simp only;omega,by simp only;omega⟩
  rw[Zk u];simp only[Ze,Za]
  cases decide (a+tp<b) with
  |true=>exact⟨_,rfl,rfl,by simp only;omega,by simp only;omega⟩
  |false=>exact⟨_,rfl,rfl,d⟩
abbrev ZbB:=Int×Int×Int×Int×Int×Unit
theorem ZmK{F:Ku}(h:FO F){rs:List ZW}{s:J5}(u:HZ F h rs s)(K:∀v∈rs,Hl v):
 ∃L,F25 s=some L/\L.length<=128:=by
 obtain⟨r0,c,t,rfl,C,B,_⟩:=u.head;have e:F23 ((some F,r0,(rs.length:Int),c,())::t)=some rs:=ZkM u;have I:=h.many;unfold F25;simp only[e,Za,Tr.unc];refine Wf (fun L:List ZbB=>L.length<=16*rs.length) ?_ (fun L hL=>⟨L,rfl,by omega⟩);refine Kq rs.length _ (fun i (s:List ZbB×Int)=>s.2=(i:Int)/\s.1.length<=16*i) ?_ ?_ _ ⟨rfl,by simp⟩
 ·rintro i ⟨L,_⟩ f ⟨rfl,hL⟩;left;simp only at hL;obtain⟨a,D,E,G⟩:=C.2 i (by omega)
  have w:idx c (i:Int)=some a:=by obtain⟨A,k⟩:=Vkb.1 D;rw[ZH A,k]
  have x:idx rs (i:Int)=some rs[i]:=ZH f;simp only[ZU f,Zc,w,Za,Z8 f (show rs.length<=9223372036854775807 by omega)]
  cases decide (a<0) with
  |true=>exact⟨_,rfl,rfl,by simp only;omega⟩
  |false=>
  simp only[Ze,Zhy (Vgc f),Za,ZmI];have H:(rs.drop i).length<=8:=by rw[Vob];omega
  generalize rs.drop i=d at*;refine XW (fun _:Int×Int=>True) ?_ ?_
  ·refine Kq d.length _ (fun i (t:Int×Int×Int)=>t.2.2=(i:Int)) ?_ ?_ _ rfl
   ·rintro j ⟨z,m,_⟩ r rfl;left;simp only[ZU r,Zc,ZH r,Za,Z8 r (show d.length<=9223372036854775807 by omega)];exact⟨_,rfl,rfl⟩
   ·rintro ⟨z,m,_⟩ rfl;simp only[Jy,Ze];exact⟨_,rfl,trivial⟩
  ·rintro ⟨z,m⟩ _;obtain⟨o,J⟩:∃o,F85 z=some o:=⟨_,rfl⟩;refine XW (fun y:List ZbB=>y.length<=16* (i+1)) ?_ fun y k=>⟨_,rfl,rfl,k⟩;refine Kq F.1.length _ (fun p (s:List ZbB×Int)=>s.2=(p:Int)/\s.1.length<=16*i+p) ?_ ?_ _ ⟨rfl,by simpa using hL⟩
   ·rintro p ⟨M,_⟩ g ⟨rfl,l⟩;left;simp only at l;have O:idx F.1 (p:Int)=some F.1[p]:=ZH g;have b:=ZmC u h.farOk (Vc g) (fun v N=>(K v N).2) B (Va f);simp only[ZU g,Zc,O,Za,J,x,b,Z8 g (show F.1.length<=9223372036854775807 by omega)]
    cases decide (Vb .i64 ((rs.length:Int) - (i:Int))<(F.1[p]).2.2.1) with
    |false=>exact⟨_,rfl,rfl,by simp only;omega⟩
    |true=>
    simp only[Zc]
    cases decide (o<=(F.1[p]).2.2.2.1) with
    |false=>exact⟨_,rfl,rfl,by simp only;omega⟩
    |true=>
    simp only[Zc,Za];rw[Dk (by simp;omega)]
    cases decide (Tr.qandNot .u64 m (Vb .u64 (F.1[p]).2.2.2.2.2.1)=0) with
    |false=>exact⟨_,rfl,rfl,by simp only;omega⟩
    |true=>exact⟨_,rfl,rfl,by simp;omega⟩
   ·rintro ⟨M,_⟩ ⟨rfl,l⟩;simp only at l;exact⟨M,by simp only[Jy,Ze],by omega⟩
 ·rintro ⟨L,_⟩ ⟨rfl,hL⟩;exact⟨L,by simp only[Jy,Ze],hL⟩
theorem Zjx{α:Type}{f:α->α->Bool}(b:∀x,f x x=true):∀l:List α,JU.eqDs f l l=true
 |[]=>rfl
 |a::l=>by simp only[JU.eqDs,Vf];exact⟨b a,Zjx b l⟩
theorem Ztz{F:Ku}(h:F.1.length<=4096):F28 (some F) (some F)=some true:=by
 show Qs.sameF (some F) (some F)=some true
 have e:JU K9 F F=true:=by
  have a:∀p:Zc5,JU Y2 p p=true:=fun p=>by simp [JU]
  simp only[JU,Vf];exact⟨Zjx a _,by simp⟩
 simp only[Qs.sameF,Za,e,Zd h,Bool.and_self,Zc]
theorem ZpS{F:Ku}(h:FO F){A B:List ZW}{s t:J5}(k:HZ F h A s)(o:HZ F h B t):∃b,F26 s t=some b:=by
 obtain⟨p,a,u,rfl,⟨l,i⟩,f,_⟩:=k.head;obtain⟨r,c,v,rfl,⟨m,j⟩,g,_⟩:=o.head;have d:idx a (A.length:Int)=some a[A.length]:=ZH (by omega);have e:idx c (B.length:Int)=some c[B.length]:=ZH (by omega);unfold F26;simp only[Tr.unc,Za,d,e]
 cases decide (c[B.length]<0) with
 |true=>exact⟨_,rfl⟩
 |false=>
 cases decide (a[A.length]<0) with
 |true=>exact⟨_,rfl⟩
 |false=>
 simp only[Ze,Za]
 cases decide (c[B.length]<a[A.length]) with
 |true=>exact⟨_,rfl⟩
 |false=>
 cases decide (F.2.1=0) with
 |true=>exact⟨_,rfl⟩
 |false=>
 cases decide ((B.length:Int)=0) with
 |true=>exact⟨_,rfl⟩
 |false=>
 simp only[Ze,Za]
 cases decide (Vb .i64 (a[A.length]+F.2.1)<=c[B.length]) with
 |true=>exact⟨_,rfl⟩
 |false=>
 cases decide ((0:Int)<(A.length:Int))<;>exact⟨_,rfl⟩
theorem ZsZ(o x:ZbB):∃b,F27 o x=some b:=by
 unfold F27
 cases decide (o.1=x.1)<;>cases decide (x.2.1<=o.2.1)<;>cases decide (o.2.2.1<=x.2.2.1)<;>cases decide (o.2.2.2.1<=x.2.2.2.1)<;>exact⟨_,rfl⟩
theorem Zqk{F:Ku}(h:FO F){A B:List ZW}{s t:J5}(w:HZ F h A s)(y:HZ F h B t)(E:∀v∈A,Hl v)(G:∀v∈B,Hl v):∃b,F20 s t=some b:=by
 obtain⟨z,m⟩:=ZpS h w y;obtain⟨L,g,H⟩:=ZmK h w E;obtain⟨M,k,I⟩:=ZmK h y G;have c:F.1.length<=4096:=by have:=h.many;omega
 obtain⟨N,P,R,es,_⟩:=w.head;obtain⟨O,Q,S,C,_⟩:=y.head;have e:Tr.unc s=some (some F,R,N,(A.length:Int),P,()):=by rw[es];rfl
 have f:Tr.unc t=some (some F,S,O,(B.length:Int),Q,()):=by rw[C];rfl
 have K:Vzc s=false:=by grind
 have nt:Vzc t=false:=by grind
 unfold F20;simp only[K,nt,Ze,e,f,Za,Ztz c,Vg,m]
 cases z with
 |false=>exact⟨_,rfl⟩
 |true=>
 simp only[Vg,Ze,g,k,Za]
 suffices l:∃r:Unit ⊕ Bool,_=some r/\True by
  obtain⟨r,d,_⟩:=l
  cases r with
  |inl u=>exact⟨true,KF (fun x=>x=Sum.inl u) ⟨_,d,rfl⟩ (fun x a=>by subst a;rfl)⟩
  |inr u=>exact⟨u,KF (fun x=>x=Sum.inr u) ⟨_,d,rfl⟩ (fun x a=>by subst a;rfl)⟩
 refine Kq M.length _ (fun i (s:Int)=>s=(i:Int)) ?_ ?_ _ rfl
 ·rintro i _ o rfl;have a:idx M (i:Int)=some M[i]:=ZH o;simp only[ZU o,Zc,a,Za,Z8 o (by omega)]
  suffices l:∃r:Bool,_=some r/\True by
   obtain⟨r,d,_⟩:=l
   cases r with
   |false=>exact .inr ⟨_,KF (fun x=>x=false) ⟨_,d,rfl⟩ (fun x a=>by subst a;rfl),trivial⟩
   |true=>exact .inl ⟨_,KF (fun x=>x=true) ⟨_,d,rfl⟩ (fun x a=>by subst a;rfl),rfl⟩
  refine Kq L.length _ (fun j (s:Bool×Int)=>s.2=(j:Int)) ?_ (by simp) _ rfl;rintro j ⟨b,_⟩ p rfl;left;have J:idx L (j:Int)=some L[j]:=ZH p;obtain⟨T,D⟩:=ZsZ L[j] M[i];simp only[ZU p,Zc,J,Za,Z8 p (by omega),D]
  cases b<;>exact⟨_,rfl,rfl⟩
 ·rintro _ rfl;exact⟨.inl (),by simp only[Jy,Ze],trivial⟩
end Q
namespace Q
open Tr Go
abbrev ZbC:=Int×Int×Int×Int×ZW×Unit
abbrev Zu:=ZbC×Int×Int×Int×J5×List Zv×Unit
abbrev JD:=Zu×Int×Unit
abbrev GU:=Unit×List JD×Int×Unit
def Gm(l:List JD)(i k:Nat)(a:i<l.length)(b:k<l.length):List JD:=(l.set i l[k]).set k l[i]
theorem ZcP{l:List JD}{i k:Nat}(a:i<l.length)(b:k<l.length):(Gm l i k a b).Perm l:=List.set_set_perm a b
theorem Zhv{l:List JD}{c:Int}{i k:Nat}(a:i<l.length)(d:k<l.length):∃b:Bool,F65 ((),l,c,()) (i:Int) (k:Int)=some (((),l,c,()),b):=by
 unfold F65 F147;simp only[Ke a,Ke d,Va a,Va d,Za];cases decide ((l[i]).1.2.1<(l[k]).1.2.1)
 ·cases decide ((l[k]).1.2.1<(l[i]).1.2.1)<;>exact⟨_,rfl⟩
 ·exact⟨_,rfl⟩
theorem ZhA{l:List JD}{c:Int}{i k:Nat}(d:i<l.length)(b:k<l.length):F67 ((),l,c,()) (i:Int) (k:Int)=some ((),Gm l i k d b,c,()):=by
 unfold F67;have a:k<(Vkc l i l[k]).length:=by simpa using b
 simp only[Ke d,Ke b,Va d,Va b,Za,Ke a];rw[Va a];rfl
theorem Zt2{l:List JD}{c:Int}(x:Zu)(B:l.length+1<=549755813888):
 ∃(m:List JD) (c' :Int),F64 ((),l,c,()) x=some ((),m,c',())/\m.Perm (l++[(x,c,())]):=by
 have a:(l++[(x,c,())]).length=l.length+1:=by simp
 unfold F64
 have o:ZD (decide (l.length+ [((x,c,()):JD)].length<=ZE))=some ():=by rw[Zd (by simp [ZE];omega)];rfl
 have p:Vb .i64 (((l++[(x,c,())]).length:Int) - 1)=(l.length:Int):=by rw[a,Zs (by omega) (by omega)];omega
 simp only[o,Za,p]
 suffices h:∃z:GU,_=some z/\ ∃m:List JD,z=((),m,Vb .i64 (c+1),())/\m.Perm (l++[(x,c,())]) by obtain⟨_,t,m,rfl,u⟩:=h;exact⟨m,_,t,u⟩
 refine run_bind (fun s=>∃(m:List JD) (i:Nat),s=(((),m,Vb .i64 (c+1),()),(i:Int))/\i<m.length/\m.Perm (l++[(x,c,())])) (fun s=>s.2.toNat)
  (fun r=>∃m:List JD,r=((),m,Vb .i64 (c+1),())/\m.Perm (l++[(x,c,())])) ⟨_,l.length,rfl,by omega,.refl _⟩ ?_ ?_
 ·rintro s ⟨m,i,rfl,e,f⟩;have y:m.length=l.length+1:=by rw[f.length_eq,a]
  by_cases A:0<i
  ·have g:Vb .i64 ((i:Int) - 1)=((i - 1:Nat):Int):=by rw[Zs (by omega) (by omega)];omega
   have j:Int.tdiv ((i - 1:Nat):Int) 2=(((i - 1) / 2:Nat):Int):=by rw[Int.tdiv_eq_ediv_of_nonneg (by omega)];omega
   have k:Vb .i64 ((((i - 1) / 2:Nat)):Int)=(((i - 1) / 2:Nat):Int):=Zs (by omega) (by omega);have d:(i - 1) / 2<m.length:=by omega
   obtain⟨b,w⟩:=Zhv (c:=Vb .i64 (c+1)) e d;simp only[show decide ((0:Int)<(i:Int))=true from Zd (by omega),Zc,g,j,k,w,Za]
   cases b with
   |true=>
    left;refine⟨_,by simp only[Zc,ZhA e d,Za],⟨Gm m i ((i - 1) / 2) e d,(i - 1) / 2,rfl,by rw[(ZcP e d).length_eq];exact d,(ZcP e d).trans f⟩,?_⟩
    simp only[Vd];omega
   |false=>
    right;exact⟨_,rfl,m,rfl,f⟩
  ·right;have:i=0:=by omega
   subst this;exact⟨_,by simp only[show decide ((0:Int)<((0:Nat):Int))=false by simp,Ze],m,rfl,f⟩
 ·rintro r ⟨m,rfl,v⟩;exact⟨_,rfl,m,rfl,v⟩
theorem Zt3{l:List JD}{c:Int}(H:l.length<=549755813888):∃m:List JD,F66 ((),l,c,())=some ((),m,c,())/\m.Perm l:=by
 unfold F66;simp only
 suffices h:∃z:GU,_=some z/\ ∃m:List JD,z=((),m,c,())/\m.Perm l by obtain⟨_,y,m,rfl,A⟩:=h;exact⟨m,y,A⟩
 refine run_bind (fun s=>∃(m:List JD) (i:Nat),s=(((),m,c,()),(i:Int))/\(i<m.length\/i=0)/\m.Perm l) (fun s=>l.length - s.2.toNat)
  (fun r=>∃m:List JD,r=((),m,c,())/\m.Perm l) ⟨l,0,rfl,.inr rfl,.refl _⟩ ?_ ?_
 ·rintro s ⟨m,i,rfl,E,o⟩;have D:m.length=l.length:=o.length_eq;have v:Vb .i64 ((2:Int) * (i:Int))=((2*i:Nat):Int):=by rw[Zs (by omega) (by omega)];omega
  have w:Vb .i64 (((2*i:Nat):Int)+1)=((2*i+1:Nat):Int):=by rw[Zs (by omega) (by omega)];omega
  have x:Vb .i64 (((2*i+1:Nat):Int)+1)=((2*i+2:Nat):Int):=by rw[Zs (by omega) (by omega)];omega
  simp only[v,w,x];by_cases G:m.length<=2*i+1
  ·right;exact⟨_,by simp only[show decide ((m.length:Int)<=((2*i+1:Nat):Int))=true from Zd (by omega),Zc],m,rfl,o⟩
  ·simp only[show decide ((m.length:Int)<=((2*i+1:Nat):Int))=false from Zk (by omega),Ze];have e:i<m.length:=by omega
   have fin:∀d:Nat,(d=2*i+1\/d=2*i+2)->d<m.length->
    (∃u:GU×Int,(Vo (F65 ((),m,c,()) (d:Int) (i:Int)) fun f=>
       bif !f.snd then some (Sum.inr ((),f.fst.snd.fst,f.fst.snd.snd.fst,()))
       else Vo (F67 ((),f.fst.snd.fst,f.fst.snd.snd.fst,()) (i:Int) (d:Int)) fun k=>some (Sum.inl (((),k.snd.fst,k.snd.snd.fst,()),(d:Int))))=some (Sum.inl u:(GU×Int) ⊕ GU)/\
       (∃(g:List JD) (t:Nat),u=(((),g,c,()),(t:Int))/\(t<g.length\/t=0)/\g.Perm l)/\l.length - u.2.toNat<l.length - (i:Int).toNat)\/
    ∃r:GU,(Vo (F65 ((),m,c,()) (d:Int) (i:Int)) fun f=>
       bif !f.snd then some (Sum.inr ((),f.fst.snd.fst,f.fst.snd.snd.fst,()))
       else Vo (F67 ((),f.fst.snd.fst,f.fst.snd.snd.fst,()) (i:Int) (d:Int)) fun k=>some (Sum.inl (((),k.snd.fst,k.snd.snd.fst,()),(d:Int))))=some (Sum.inr r:(GU×Int) ⊕ GU)/\
      ∃g:List JD,r=((),g,c,())/\g.Perm l:=by
    intro d C a;obtain⟨b,p⟩:=Zhv (c:=c) a e;rw[p];simp only[Za]
    cases b with
    |true=>
     left;refine⟨_,by simp only[Vg,Ze,ZhA e a,Za],⟨Gm m i d e a,d,rfl,.inl (by rw[(ZcP e a).length_eq];exact a),(ZcP e a).trans o⟩,?_⟩
     simp only[Vd];omega
    |false=>
     right;exact⟨_,by simp only[Vq,Zc],m,rfl,o⟩
   by_cases j:2*i+2<m.length
   ·obtain⟨b,p⟩:=Zhv (c:=c) j (show 2*i+1<m.length by omega);simp only[show decide (((2*i+2:Nat):Int)<(m.length:Int))=true from Zd (by omega),Zc,p,Za]
    cases b with
    |true=>
     simp only[Zc,Za]
     exact fin (2*i+2) (.inr rfl) j
    |false=>
     simp only[Ze,Za];exact fin (2*i+1) (.inl rfl) (by omega)
   ·simp only[show decide (((2*i+2:Nat):Int)<(m.length:Int))=false from Zk (by omega),Ze];exact fin (2*i+1) (.inl rfl) (by omega)
 ·rintro r ⟨m,rfl,B⟩;exact⟨_,rfl,m,rfl,B⟩
theorem Zt1{l:List JD}{c:Int}(h:l≠ [])(p:l.length<=549755813888):
 ∃(m:List JD) (x:JD),F63 ((),l,c,())=some (((),m,c,()),x.1,true)/\l.Perm (x::m):=by
 have b:0<l.length:=Veb.2 h;have a:l.length - 1<l.length:=by omega
 have d:F62 ((),l,c,())=some (((),l,c,()),(l[0]).1,true):=by unfold F62 F61;simp only[Za,show decide ((l.length:Int)=0)=false from Zk (by omega),Ze];rw[show (0:Int)=((0:Nat):Int) from rfl,Ke b];simp only[Za,Va b]
 have j:Vb .i64 ((l.length:Int) - 1)=((l.length - 1:Nat):Int):=by rw[Zs (by omega) (by omega)];omega
 have f:=ZcP b a;have g:=f.length_eq
 have i:sliceB (Gm l 0 (l.length - 1) b a).length (Gm l 0 (l.length - 1) b a).length none (some ((l.length - 1:Nat):Int))=some (0,l.length - 1):=by unfold sliceB;rw[g];simp
 obtain⟨m,k,o⟩:=Zt3 (l:=Vw (l.length - 1) (Gm l 0 (l.length - 1) b a)) (c:=c) (by simp;omega);refine⟨m,l[0],?_,?_⟩
 ·unfold F63;rw[d];simp only[Za,Vg,Ze,j];rw[show (0:Int)=((0:Nat):Int) from rfl,ZhA b a];simp only[Za,i,k]
 ·have e:Gm l 0 (l.length - 1) b a=Vw (l.length - 1) (Gm l 0 (l.length - 1) b a)++[l[0]]:=by
   conv=>lhs;rw[<-Vra (l.length - 1) (Gm l 0 (l.length - 1) b a)]
   congr 1;rw[Vga (by omega),Vsb (by omega)];unfold Gm;simp
  rw[e]at f;exact f.symm.trans ((Vza).trans (List.Perm.cons _ o.symm))
end Q
namespace Q
open Tr Go
def Zl(n:Zh)(i:Nat):List KK:=(rn n (i:Int)).2.2.2.2.2.2.2.1
def Zg(n:Zh)(i c:Nat):KK:=cl (Zl n i) (c:Int)
def XX(n:Zh)(i:Nat):Bool:=(rn n (i:Int)).2.2.2.2.2.2.1
def Kf(s t a b:Int):Zv:=(false,0,0,0,s,t,a,b,false,())
def ZP(n:Zh)(i b c:Nat)(st:Bool):Zv:=(true,(i:Int),(b:Int),(c:Int),(Zg n i b).1,(Zg n i c).1,(Zg n i b).2.2.1,(Zg n i c).2.1,st,())
def isLink(n:Zh)(i c j d:Nat)(st:Bool):Prop:=((i:Int),(c:Int),(j:Int),(d:Int),st,())∈n.2.2.2.1
structure K1 (n:Zh):Prop where
 sound:Js n
 change:∀s:Int,0<=s->s<(n.1.length:Int)->0<=(Wv n s).2.2.2.1/\(Wv n s).2.2.2.1<=3600
 path:∀p∈n.2.2.2.2.1,(0<=p.1/\p.1<(n.1.length:Int))/\(0<=p.2.1/\p.2.1<(n.1.length:Int))/\p.1≠p.2.1/\1<=p.2.2.1/\p.2.2.1<=14400
 link:∀x∈n.2.2.2.1,∃(i c j d:Nat) (st:Bool),x=((i:Int),(c:Int),(j:Int),(d:Int),st,())/\i<n.2.2.1.length/\j<n.2.2.1.length/\i≠j/\c<(Zl n i).length/\d<(Zl n j).length/\
  (Zg n i c).1=(Zg n j d).1/\(st=true->c+1=(Zl n i).length/\d=0)
theorem G9{n:Zh}{i:Nat}(a:i<n.2.2.1.length):Zl n i=(n.2.2.1[i]).2.2.2.2.2.2.2.1:=by unfold Zl rn;grind
theorem RQ{n:Zh}{i c:Nat}(a:c<(Zl n i).length):Zg n i c=(Zl n i)[c]:=by unfold Zg cl;grind
theorem ZrL{n:Zh}{i:Nat}(h:WD n i=0):(cl (rn n (lk n i).1).2.2.2.2.2.2.2.1 (lk n i).2.1).1=(cl (rn n (lk n i).2.2.1).2.2.2.2.2.2.2.1 (lk n i).2.2.2.1).1/\
 ((lk n i).2.2.2.2.1=true->(lk n i).2.1+1=((rn n (lk n i).1).2.2.2.2.2.2.2.1.length:Int)/\(lk n i).2.2.2.1=0):=by
 unfold WD at h;simp only at h;by_cases a:X9 n (lk n i)=true
 ·grind
 rw[Zf a]at h;by_cases b:Y5 n (lk n i)=true
 all_goals grind
theorem Whole.ok{n:Zh}(h:Whole n):K1 n:=by
 refine⟨h.sound,fun s D f=>?_,fun p z=>?_,fun x B=>?_⟩
 ·have s0:=h.s;unfold HV at s0;split at s0
  ·omega
  obtain⟨j,rfl⟩:∃j:Nat,s=(j:Int):=⟨s.toNat,by omega⟩;have m:j<n.1.length:=by omega
  have o:=Zbb s0 j m;unfold HU at o;have:=(GE.1 o).2.2;unfold Wv
  grind
 ·obtain⟨j,m,rfl⟩:=Vs z;obtain⟨f,l,_⟩:=Ds (K6.1 h.q j m);rw[Kx m]at f l;unfold XY at f;unfold Yk at l
  grind
 ·obtain⟨j,m,rfl⟩:=Vs B;have o:=K6.1 h.g j m;obtain⟨f,l,_⟩:=R7 o;obtain⟨r,t⟩:=ZrL o;have e:lk n j=n.2.2.2.1[j]:=by unfold lk;grind
  rw[e]at f l r t;generalize n.2.2.2.1[j]=x at*;unfold X9 at f;unfold Y5 at l;unfold Kh at f l;simp only[Vba,Vk,decide_eq_false_iff_not,Vf,KQ]at f l;obtain⟨u,v,w,y,C,E⟩:=x;simp only at f l r t;obtain⟨i,rfl⟩:∃i:Nat,u=(i:Int):=⟨u.toNat,by omega⟩;obtain⟨c,rfl⟩:∃i:Nat,v=(i:Int):=⟨v.toNat,by omega⟩;obtain⟨k,rfl⟩:∃i:Nat,w=(i:Int):=⟨w.toNat,by omega⟩;obtain⟨d,rfl⟩:∃i:Nat,y=(i:Int):=⟨y.toNat,by omega⟩;refine⟨i,c,k,d,C,rfl,by omega,by omega,by omega,?_,?_,r,fun A=>?_⟩
  ·unfold Zl;omega
  ·unfold Zl;omega
  ·obtain⟨a,b⟩:=t A;unfold Zl;omega
theorem K1.isLink{n:Zh}(h:K1 n){i c j d:Nat}{st:Bool}(a:isLink n i c j d st):i<n.2.2.1.length/\j<n.2.2.1.length/\i≠j/\c<(Zl n i).length/\d<(Zl n j).length/\(Zg n i c).1=(Zg n j d).1/\(st=true->c+1=(Zl n i).length/\d=0):=by
 obtain⟨l,f,m,g,b,e,k⟩:=h.link _ a
 grind
theorem K1.stop{n:Zh}(h:K1 n){i c:Nat}(a:i<n.2.2.1.length)(b:c<(Zl n i).length):0<=(Zg n i c).1/\(Zg n i c).1<(n.1.length:Int):=by rw[RQ b];refine h.sound.call _ (Vc a) _ ?_;simp only[G9 a];simp
theorem K1.time{n:Zh}(h:K1 n){i c:Nat}(b:i<n.2.2.1.length)(a:c<(Zl n i).length):0<=(Zg n i c).2.1/\(Zg n i c).2.1<=(Zg n i c).2.2.1/\(Zg n i c).2.2.1<=3155932800:=by have d:=h.sound.time _ (Vc b);rw[RQ a];simp only[G9 b]at a⊢;have:=d c a;omega
inductive Zc1 where
 |rdy (k:Nat) (s r:Int)
 |brd (k:Nat) (i c:Nat) (st:Bool)
 |lnk (k:Nat) (i c:Nat)
 |on (k:Nat) (i c:Nat)
 |rid (k:Nat) (s t:Int)
 |arr (k:Nat) (s t:Int)
inductive WY (n:Zh) (s0 t0 w:Int):Zc1->List Zv->Prop
 |init:WY n s0 t0 w (.rdy 0 s0 (t0+w)) []
 |here:WY n s0 t0 w (.arr 0 s0 t0) []
 |rdyW {p:ZO} :p∈n.2.2.2.2.1->p.1=s0->t0+p.2.2.1<=3155932800->WY n s0 t0 w (.rdy 0 p.2.1 (t0+p.2.2.1)) [Kf s0 p.2.1 t0 (t0+p.2.2.1)]
 |arrW {p:ZO} :p∈n.2.2.2.2.1->p.1=s0->t0+p.2.2.1<=3155932800->WY n s0 t0 w (.arr 0 p.2.1 (t0+p.2.2.1)) [Kf s0 p.2.1 t0 (t0+p.2.2.1)]
 |board {k:Nat}{s r:Int}{js:List Zv}{i c:Nat} :WY n s0 t0 w (.rdy k s r) js->i<n.2.2.1.length->c<(Zl n i).length->XX n i=false->(Zg n i c).1=s->(Zg n i c).2.2.2.1=true->r<=(Zg n i c).2.2.1->WY n s0 t0 w (.brd (k+1) i c false) js
 |on {k i b c:Nat}{st:Bool}{js:List Zv} :WY n s0 t0 w (.brd k i b st) js->b<c->c<(Zl n i).length->WY n s0 t0 w (.on k i c) (js++[ZP n i b c st])
 |stay {k i c j d:Nat}{js:List Zv} :WY n s0 t0 w (.on k i c) js->isLink n i c j d true->(Zg n i c).2.1<=(Zg n j d).2.2.1->XX n j=false->WY n s0 t0 w (.brd k j d true) js
 |link {k i c j d:Nat}{js:List Zv} :WY n s0 t0 w (.on k i c) js->(Zg n i c).2.2.2.2.1=true->isLink n i c j d false->(Zg n i c).2.1<=(Zg n j d).2.2.1->(Zg n j d).2.2.2.1=true->WY n s0 t0 w (.lnk (k+1) j d) js
 |linked {k j d:Nat}{js:List Zv} :WY n s0 t0 w (.lnk k j d) js->XX n j=false->WY n s0 t0 w (.brd k j d false) js
 |ride {k i c:Nat}{js:List Zv} :WY n s0 t0 w (.on k i c) js->(Zg n i c).2.2.2.2.1=true->WY n s0 t0 w (.rid k (Zg n i c).1 (Zg n i c).2.1) js
 |change {k:Nat}{s t:Int}{js:List Zv} :WY n s0 t0 w (.rid k s t) js->WY n s0 t0 w (.rdy k s (t+(Wv n s).2.2.2.1)) js
 |rdyV {k:Nat}{s t:Int}{js:List Zv}{p:ZO} :WY n s0 t0 w (.rid k s t) js->p∈n.2.2.2.2.1->p.1=s->t+p.2.2.1<=3155932800->WY n s0 t0 w (.rdy k p.2.1 (t+p.2.2.1)) (js++[Kf s p.2.1 t (t+p.2.2.1)])
 |arrR {k:Nat}{s t:Int}{js:List Zv} :WY n s0 t0 w (.rid k s t) js->WY n s0 t0 w (.arr k s t) js
 |arrV {k:Nat}{s t:Int}{js:List Zv}{p:ZO} :WY n s0 t0 w (.rid k s t) js->p∈n.2.2.2.2.1->p.1=s->t+p.2.2.1<=3155932800->WY n s0 t0 w (.arr k p.2.1 (t+p.2.2.1)) (js++[Kf s p.2.1 t (t+p.2.2.1)])
def Zc1.ok(n:Zh):Zc1->Prop
 |.rdy _ s r=>(0<=s/\s<(n.1.length:Int))/\0<=r/\r<=3155932800+3600
 |.brd k i c _=>0<k/\i<n.2.2.1.length/\c<(Zl n i).length/\XX n i=false
 |.lnk k i c=>0<k/\i<n.2.2.1.length/\c<(Zl n i).length
 |.on k i c=>0<k/\i<n.2.2.1.length/\c<(Zl n i).length/\XX n i=false
 |.rid k s t=>0<k/\(0<=s/\s<(n.1.length:Int))/\0<=t/\t<=3155932800
 |.arr _ s t=>(0<=s/\s<(n.1.length:Int))/\0<=t/\t<=3155932800
theorem WY.ok{n:Zh}(h:K1 n){s0 j w:Int}(k:0<=s0/\s0<(n.1.length:Int))(m:0<=j/\j<=3155932800)(o:0<=w/\w<=3600){f:Zc1}{js:List Zv}(d:WY n s0 j w f js):f.ok n:=by
 induction d with
 |init=>exact⟨k,by omega,by omega⟩
 |here=>exact⟨k,m⟩
 |rdyW b _ i=>have:=h.path _ b;exact⟨this.2.1,by omega,by omega⟩
 |arrW b _ i=>have:=h.path _ b;exact⟨this.2.1,by omega,by omega⟩
 |board _ l e c _ _ _ _=>exact⟨Nat.succ_pos _,l,e,c⟩
 |on _ _ e a=>exact⟨a.1,a.2.1,e,a.2.2.2⟩
 |stay _ g _ c a=>have:=h.isLink g;exact⟨a.1,this.2.1,this.2.2.2.2.1,c⟩
 |link _ _ g _ _ _=>have:=h.isLink g;exact⟨Nat.succ_pos _,this.2.1,this.2.2.2.2.1⟩
 |linked _ c a=>exact⟨a.1,a.2.1,a.2.2,c⟩
 |ride _ _ a=>
  have:=h.time a.2.1 a.2.2.1
  exact⟨a.1,h.stop a.2.1 a.2.2.1,by omega,by omega⟩
 |change _ a=>have:=h.change _ a.2.1.1 a.2.1.2;exact⟨a.2.1,by have:=a.2.2;omega,by have:=a.2.2;omega⟩
 |rdyV _ b _ i a=>have:=h.path _ b;exact⟨this.2.1,by have:=a.2.2;omega,by omega⟩
 |arrR _ a=>exact a.2
 |arrV _ b _ i a=>have:=h.path _ b;exact⟨this.2.1,by have:=a.2.2;omega,by omega⟩
end Q
namespace Q
open Tr Go
def Zn(q:Zt):Zt:=(q.1,q.2.1,q.2.2.1,q.2.2.2.1,q.2.2.2.2.1,q.2.2.2.2.2.1,false,false,0,q.2.2.2.2.2.2.2.2.2)
theorem ZlK{k:Nat}{q:Zt}(h:qB k q=true):qB k (Zn q)=true:=by unfold qB at h⊢;simp only[Vf,KQ]at h⊢;obtain⟨a,b,c,d,e,_,f⟩:=h;exact⟨a,b,c,d,e,⟨Vz 0,by show (0:Int)<=255;decide⟩,f⟩
theorem ZcD{n:Zh}{q:Zt}{x:Zv} :GL n q x=0↔((cl (Wl n x) x.2.2.1).1=x.2.2.2.2.1/\(cl (Wl n x) x.2.2.2.1).1=x.2.2.2.2.2.1)/\((cl (Wl n x) x.2.2.1).2.2.1=x.2.2.2.2.2.2.1/\(cl (Wl n x) x.2.2.2.1).2.1=x.2.2.2.2.2.2.2.1)/\HW n q (rn n x.2.1)=true/\(Kv x=true\/(cl (Wl n x) x.2.2.1).2.2.2.1=true/\Xa n q x.2.2.2.2.1=true):=by
 unfold GL;rw[WK (by omega),WK (by omega),WK (by omega),WK (by omega),WK (by omega),WK (by omega),WK (by omega),WK (by omega)];unfold HW Tr.useB ZgS;rw[Vba,Vba];simp only[Vk,KQ];generalize (rn n x.2.1).2.2.2.2.2.2.1=b;generalize (rn n x.2.1).2.2.2.2.2.1=c;generalize q.2.2.2.2.2.2.1=d;generalize (HS n (rn n x.2.1)).2.2.1=e;generalize q.2.2.2.2.2.2.2.1=f;generalize (decide (q.2.2.2.2.2.2.2.2.1=(0:Int)) ||decide (ZF .i64 (Int.fdiv q.2.2.2.2.2.2.2.2.1 (2 ^ min (Int.toNat (HS n (rn n x.2.1)).2.1) 64)) 1=1))=g;generalize Kv x=a;generalize (cl (Wl n x) x.2.2.1).2.2.2.1=h;generalize Xa n q x.2.2.2.2.1=i
 generalize ((cl (Wl n x) x.2.2.1).1=x.2.2.2.2.1/\(cl (Wl n x) x.2.2.2.1).1=x.2.2.2.2.2.1)=j;generalize ((cl (Wl n x) x.2.2.1).2.2.1=x.2.2.2.2.2.2.1/\(cl (Wl n x) x.2.2.2.1).2.1=x.2.2.2.2.2.2.2.1)=k
 have key:((b=false/\(d&& !c)=false/\(f&& !e)=false/\(!g)=false/\(!a&& !h)=false/\(!a&& !i)=false/\(0:Int)=0)↔((!b&& ((c|| !d) && ((e|| !f) &&g)))=true/\(a=true\/h=true/\i=true))):=by
  cases b<;>cases c<;>cases d<;>cases e<;>cases f<;>cases g<;>cases a<;>cases h<;>cases i<;>simp
 exact and_congr_right fun _=>and_congr_right fun _=>by
  first
  |exact key
  |(simp only[Vk]at key⊢;exact key)
theorem ZpO(n:Zh)(q:Zt):WJ n q c0=c0:=by
 unfold WJ
 split<;>rfl
theorem Zdx(n:Zh)(q:Zt)(l:List KK)(a:Int):cl (l.map (WJ n q)) a=WJ n q (cl l a):=by
 unfold cl;rw[Vqa]
 cases l[a.toNat]? with
 |none=>exact(ZpO n q).symm
 |some c=>rfl
theorem Zdy(n:Zh)(q:Zt)(c:KK):WJ n q c=(c.1,c.2.1,c.2.2.1,c.2.2.2.1&&Xa n q c.1,c.2.2.2.2.1&&Xa n q c.1,()):=by
 unfold WJ
 cases h:Xa n q c.1 with
 |true=>simp
 |false=>simp
theorem Zdt(n:Zh)(q:Zt)(x:Zv):Wl (Zz n q) x=(Wl n x).map (WJ n q):=Zl5 n q x.2.1
theorem ZjB(n:Zh)(q:Zt)(x:Zv):KL (Zz n q) x=KL n x:=by have a:(Zz n q).2.2.1.length=n.2.2.1.length:=Vl ..;unfold KL;rw[Zdt,Vl,a]
theorem Zl4{n:Zh}{q:Zt}{x:Zv}(a:KL n x=true):rn (Zz n q) x.2.1=Xn n q (rn n x.2.1):=by
 unfold KL at a;rw[Vf]at a;have h:=a.1;unfold Kh at h;simp only[Vf,KQ]at h;have b:x.2.1.toNat<n.2.2.1.length:=by omega
 unfold rn;show ((n.2.2.1.map (Xn n q))[x.2.1.toNat]?).getD u0=_;rw[Vqa,Va b];rfl
theorem Zem(n:Zh)(q:Zt)(s:Int):Xa n (Zn q) s=true:=by unfold Xa Zn;simp
theorem Zm4(n:Zh)(q:Zt)(r:Xi):HW n (Zn q) r= !r.2.2.2.2.2.2.1:=by unfold HW Tr.useB Zn;simp
theorem Zs4{n:Zh}{q:Zt}{x:Zv}(c:KL n x=true):GL (Zz n q) (Zn q) x=0↔GL n q x=0:=by rw[ZcD,ZcD,Zdt,Zdx,Zdx,Zdy,Zdy,Zl4 c,Zm4,Zem];have b:(Xn n q (rn n x.2.1)).2.2.2.2.2.2.1= !HW n q (rn n x.2.1):=rfl;rw[b,Bool.not_not];refine and_congr_right fun a=>and_congr_right fun _=>and_congr_right fun _=>?_;simp only[Vf];rw[a.1];simp
theorem Zoe{α:Type}(p f:α->Bool)(l:List α):(l.filter p).any f=l.any fun x=>f x&&p x:=by
 induction l with
 |nil=>rfl
 |cons x l b=>
  cases a:p x with
  |true=>rw[Vqb a,Vcc,Vcc,b,a,Vvc]
  |false=>rw[Vrb (by simp [a]),Vcc,b,a,Vsc,Vwc]
theorem ZeV{n:Zh}{q:Zt}{x:Zv} :Yo n q x=0↔(n.2.2.2.2.1.any fun p=>He x p&&Ha q p)=true:=by
 unfold Yo
 cases (n.2.2.2.2.1.any fun p=>He x p&&Ha q p) with
 |true=>simp
 |false=>cases n.2.2.2.2.1.any (He x)<;>simp
theorem ZuP{n:Zh}{q:Zt}{x:Zv} :Yo (Zz n q) (Zn q) x=0↔Yo n q x=0:=by
 rw[ZeV,ZeV]
 have a:∀p:ZO,Ha (Zn q) p=true:=by intro p;unfold Ha Zn;simp
 show ((JJ n q).any fun p=>He x p&&Ha (Zn q) p)=true↔_;simp only[a,Vvc];unfold JJ Ha
 cases q.2.2.2.2.2.2.1 with
 |true=>simp only[if_true];rw[Zoe];simp
 |false=>simp
theorem ZrC{n:Zh}{q:Zt}{x:Zv} :WN (Zz n q) (Zn q) x=0↔WN n q x=0:=by
 have b:∀(n:Zh) (q:Zt),WN n q x=0↔(!Kh x.2.2.2.2.1 n.1.length|| !Kh x.2.2.2.2.2.1 n.1.length)=false/\(bif x.1 then !KL n x else !decide (x.2.1=0) || (!decide (x.2.2.1=0) || (!decide (x.2.2.2.1=0) ||Kv x)))=false/\(!decide (0<=x.2.2.2.2.2.2.1/\x.2.2.2.2.2.2.1<=3155932800) || !decide (0<=x.2.2.2.2.2.2.2.1/\x.2.2.2.2.2.2.2.1<=3155932800))=false/\(bif x.1 then GL n q x else Yo n q x)=0:=by intro n q;unfold WN;rw[WK (by omega),WK (by omega),WK (by omega)]
 rw[b,b,ZjB];refine and_congr_right fun _=>and_congr_right fun a=>and_congr_right fun _=>?_
 cases c:x.1 with
 |true=>
  rw[c]at a
  exact Zs4 (by simpa using a)
 |false=>exact ZuP
theorem ZiN{n:Zh}{q:Zt}{L:List Zv}{i:Nat} :WI (Zz n q) (Zn q) L i=0↔WI n q L i=0:=by
 have e:∀(n:Zh) (q:Zt),WI n q L i=0↔WN n q (lg L i)=0/\GG n q L i=0/\(Xf L i=true->YC n q (lg L i)=0):=by
  intro n q;unfold WI;by_cases a:WN n q (lg L i)=0
  ·by_cases b:GG n q L i=0
   ·rw[Zd a,Zd b]
    cases Xf L i<;>simp [a,b]
   ·rw[Zd a,Zk b];simp [b]
  ·rw[Zk a];simp [a]
 have d:∀(n:Zh) (q:Zt) (x:Zv),YC n q x=0↔(cl (Wl n x) x.2.2.2.1).2.2.2.2.1=true/\Xa n q x.2.2.2.2.2.1=true:=by intro n q x;unfold YC;rw[WK (by omega),WK (by omega)];simp
 rw[e,e];refine(and_congr ZrC Iff.rfl).trans (and_congr_right fun a=>and_congr Iff.rfl ?_);refine imp_congr_right fun c=>?_
 have h:(lg L i).1=true:=by unfold Xf at c;rw[Vf]at c;exact c.1
 obtain⟨_,_,f,_⟩:=ZrB a;have g:=(ZcD.1 (f h).2).1.2;rw[d,d,Zdt,Zdx,Zdy,Zem];simp only[Vf];rw[g];simp
theorem Znn(n:Zh)(q:Zt)(l:List KK)(a:Nat):∀k,zN (Zz n q) (l.map (WJ n q)) a k=zN n l a k
 |0=>rfl
 |k+1=>by
  have h:zn (Zz n q) (l.map (WJ n q)) (a+k)=zn n l (a+k):=by unfold zn;rw[(Zdz n q l (a+k)).1];rfl
  unfold zN;rw[Znn n q l a k,h]
theorem Zsg{n:Zh}{q:Zt}{x:Zv}(a:KL n x=true):Hi (Zz n q) x=Hi n x/\XZ (Zz n q) x=XZ n x:=by
 constructor
 ·unfold Hi;rw[Zdt,Znn]
 ·unfold XZ;rw[Zl4 a];rfl
theorem Zew(n:Zh)(q:Zt):∀(L:List Zv) (w:Bool) (out:List ZW),WA (Zz n q) L w out=WA n L w out
 |[],_,_=>rfl
 |x::L,w,out=>by
  rw[GN,GN,ZjB];by_cases a:x.1=true/\KL n x=false
  ·rw[Zp a,Zp a]
  rw[Zf a,Zf a];by_cases c:Kv x=true/\(x.1=false\/w=false)
  ·rw[Zp c,Zp c]
  rw[Zf c,Zf c];by_cases b:x.1=true
  ·rw[Zp b,Zp b]
   have i:KL n x=true:=by
    cases h:KL n x with
    |true=>rfl
    |false=>exact absurd ⟨b,h⟩ a
   obtain⟨d,e⟩:=Zsg (q:=q) i;have f:Hf (Zz n q) x=Hf n x:=by unfold Hf;rw[d,e]
   have g:X7 (Zz n q) x out=X7 n x out:=by unfold X7 G2;rw[d,e]
   rw[f,g];exact Zew n q L _ _
  ·rw[Zf b,Zf b];exact Zew n q L _ _
end Q
namespace Q
open Tr Go
variable {n:Zh}{q:Zt}
theorem Zd7{n:Zh}{q:Zt}{x:Zv} :WN n q x=0↔(Kh x.2.2.2.2.1 n.1.length=true/\Kh x.2.2.2.2.2.1 n.1.length=true)/\(bif x.1 then !KL n x else !decide (x.2.1=0) || (!decide (x.2.2.1=0) || (!decide (x.2.2.2.1=0) ||Kv x)))=false/\
 ((0<=x.2.2.2.2.2.2.1/\x.2.2.2.2.2.2.1<=3155932800)/\(0<=x.2.2.2.2.2.2.2.1/\x.2.2.2.2.2.2.2.1<=3155932800))/\(bif x.1 then GL n q x else Yo n q x)=0:=by
 unfold WN;rw[WK (by omega),WK (by omega),WK (by omega)];simp only[Vba,Vk,KQ]
theorem Zcf{a m:Nat} :Kh (a:Int) m=true↔a<m:=by unfold Kh;rw[Vf,KQ,KQ];omega
theorem Re{a:Int}{m:Nat} :Kh a m=true↔0<=a/\a<(m:Int):=by unfold Kh;rw[Vf,KQ,KQ]
theorem Zm3(n:Zh)(q:Zt)(i:Nat):HW n (Zn q) (rn n (i:Int))=true↔XX n i=false:=by
 rw[Zm4];unfold XX
 cases (rn n (i:Int)).2.2.2.2.2.2.1<;>simp
def DM(n:Zh)(i b c:Nat)(st:Bool):Prop:=i<n.2.2.1.length/\b<c/\c<(Zl n i).length/\XX n i=false/\(st=true\/(Zg n i b).2.2.2.1=true)
theorem Zcn(h:K1 n){x:Zv} :(WN n (Zn q) x=0/\x.1=true)↔∃i b c st,x=ZP n i b c st/\DM n i b c st:=by
 rw[Zd7];constructor
 ·rintro ⟨⟨a,f,g,d⟩,m⟩;rw[m]at f d;simp only[Zc,Vk]at f d;have k:=f;unfold KL Wl at k;simp only[Vf,KQ,Re]at k;obtain⟨⟨E,G⟩,H,I,J⟩:=k;obtain⟨⟨p,r⟩,⟨s,t⟩,v,e⟩:=ZcD.1 d;obtain⟨U,z,w,y,S,T,R,Q,xs,u⟩:=x;simp only at m a f g d E G H I J p r s t v e;obtain⟨i,rfl⟩:∃i:Nat,z=(i:Int):=⟨z.toNat,by omega⟩;obtain⟨b,rfl⟩:∃i:Nat,w=(i:Int):=⟨w.toNat,by omega⟩;obtain⟨c,rfl⟩:∃i:Nat,y=(i:Int):=⟨y.toNat,by omega⟩;subst m;have K:c<(Zl n i).length:=by unfold Zl;omega
  refine⟨i,b,c,xs,?_,by omega,by omega,K,(Zm3 n q i).1 v,?_⟩
  ·have A:(Zg n i b).1=S:=p;have B:(Zg n i c).1=T:=r;have C:(Zg n i b).2.2.1=R:=s;have D:(Zg n i c).2.1=Q:=t;unfold ZP;rw[A,B,C,D]
  ·rcases e with e|e
   ·exact .inl e
   ·exact .inr e.1
 ·rintro ⟨i,b,c,st,rfl,a,f,g,d,j⟩;have o:b<(Zl n i).length:=by omega
  have M:=h.stop a o;have N:=h.stop a g;have O:=h.time a o;have P:=h.time a g
  have l:KL n (ZP n i b c st)=true:=by unfold KL Wl;simp only[Vf,KQ];have:c<(rn n (i:Int)).2.2.2.2.2.2.2.1.length:=g;exact⟨Zcf.2 a,by show (0:Int)<=(b:Int);omega,by show (b:Int)<(c:Int);omega,by show (c:Int)<_;show (c:Int)<((rn n (i:Int)).2.2.2.2.2.2.2.1.length:Int);omega⟩
  refine⟨⟨⟨Re.2 M,Re.2 N⟩,?_,⟨⟨by show (0:Int)<=(Zg n i b).2.2.1;omega,O.2.2⟩,⟨P.1,by show (Zg n i c).2.1<=_;omega⟩⟩,?_⟩,rfl⟩
  ·show (!KL n (ZP n i b c st))=false;rw[l];rfl
  ·refine ZcD.2 ⟨⟨rfl,rfl⟩,⟨rfl,rfl⟩,(Zm3 n q i).2 d,?_⟩;rcases j with j|j
   ·exact .inl j
   ·exact .inr ⟨j,Zem ..⟩
theorem R5(h:K1 n){x:Zv} :(WN n (Zn q) x=0/\x.1=false)↔∃p∈n.2.2.2.2.1,∃a,x=Kf p.1 p.2.1 a (a+p.2.2.1)/\0<=a/\a+p.2.2.1<=3155932800:=by
 rw[Zd7];constructor
 ·rintro ⟨⟨f,d,l,g⟩,i⟩;rw[i]at d g;simp only[Ze,Vba,Vk,KQ]at d g;have m:=ZeV.1 g;obtain⟨p,e,j⟩:=Vsa.1 m;rw[Vf]at j;have b:=j.1;unfold He at b;simp only[Vf,KQ]at b;obtain⟨w,v,r,s,t,y,k,o,xs,u⟩:=x;simp only at i f d l b;have c:=h.path p e;rw[Zs (by omega) (by omega)]at b;obtain⟨rfl,rfl,rfl,rfl⟩:=d;subst i;refine⟨p,e,k,?_,by omega,by omega⟩;unfold Kf;rw[<-b.1, <-b.2.1,show o=k+p.2.2.1 by omega]
 ·rintro ⟨p,e,a,rfl,f,d⟩;have c:=h.path p e;refine⟨⟨⟨Re.2 c.1,Re.2 c.2.1⟩,rfl,⟨⟨f,by show a<=_;omega⟩,⟨by show 0<=a+p.2.2.1;omega,d⟩⟩,?_⟩,rfl⟩;show Yo n (Zn q) _=0;rw[ZeV];refine Vsa.2 ⟨p,e,?_⟩;unfold He Ha Zn Kf;simp only[Vf,KQ,Vq,Vyc];exact⟨⟨trivial,trivial,by rw[Zs (by omega) (by omega)];omega⟩,trivial⟩
theorem ZkK(h:K1 n){i b c j d e:Nat}{st f k:Bool} :Rh n (ZP n i b c st) (ZP n j d e f) k=true↔isLink n i c j d k:=by
 unfold Rh;rw[Vsa];constructor
 ·rintro ⟨x,g,a⟩;obtain⟨v,t,w,u,y,rfl,_⟩:=h.link x g;unfold ZgH ZP at a;simp only[Vf,KQ,Ks]at a;obtain⟨l,m,o,p,r⟩:=a;unfold isLink;rw[<-l, <-m, <-o, <-p, <-r];exact g
 ·intro s;refine⟨_,s,?_⟩;unfold ZgH ZP;simp
theorem Zgi(n:Zh)(s t a b s' e c d:Int):JH n (Kf s t a b) (Kf s' e c d)≠0:=by unfold JH Kf;intro h;rw[WK (by omega)]at h;obtain⟨_,h⟩:=h;simp at h
theorem ZjT(n:Zh)(s t a b:Int)(j d e:Nat):JH n (Kf s t a b) (ZP n j d e true)≠0:=by unfold JH Kf ZP;intro h;rw[WK (by omega)]at h;obtain⟨_,h⟩:=h;simp [Kv]at h
theorem Zb8(h:K1 n){i b c j d e:Nat}{st:Bool} :JH n (ZP n i b c st) (ZP n j d e true)=0↔(Zg n i c).1=(Zg n j d).1/\isLink n i c j d true/\(Zg n i c).2.1<=(Zg n j d).2.2.1:=by
 unfold JH;have f:Rh n (ZP n i b c st) (ZP n j d e true) true=true↔isLink n i c j d true:=ZkK h;generalize Rh n (ZP n i b c st) (ZP n j d e true) true=B at*;unfold ZP Kv;simp only[Vg,Vwb,Ze,Zc,Vwc];rw[WK (by omega),WK (by omega)];rw[<-f]
 cases B with
 |false=>simp
 |true=>
  simp only[Vg,Vk,KQ,true_and];refine and_congr_right fun _=>?_;by_cases a:(Zg n j d).2.2.1<(Zg n i c).2.1
  ·rw[Zd a];simp;omega
  ·rw[Zk a];simp;omega
theorem Zb9{i b c:Nat}{st:Bool}{s t a z:Int} :JH n (ZP n i b c st) (Kf s t a z)=0↔(Zg n i c).1=s/\a=(Zg n i c).2.1:=by
 unfold JH ZP Kf Kv;simp only[Vg,Vwb,Ze,Zc,Vq];rw[WK (by omega)];simp only[Vk,KQ];refine and_congr_right fun _=>?_;by_cases d:a=(Zg n i c).2.1
 ·rw[Zd d];simp [d]
 ·rw[Zk d];simp [d]
theorem Zca{j d e:Nat}{s t a z:Int} :JH n (Kf s t a z) (ZP n j d e false)=0↔t=(Zg n j d).1/\z<=(Zg n j d).2.2.1:=by
 unfold JH ZP Kf Kv;simp only[Vg,Vsc,Ze,Zc,Vq];rw[WK (by omega)];simp only[Vk,KQ];refine and_congr_right fun _=>?_;by_cases b:(Zg n j d).2.2.1<z
 ·rw[Zd b];simp;omega
 ·rw[Zk b];simp;omega
theorem ZdU(h:K1 n){i b c j d e:Nat}{st:Bool}(k:i<n.2.2.1.length)(g:c<(Zl n i).length):JH n (ZP n i b c st) (ZP n j d e false)=0↔(Zg n i c).1=(Zg n j d).1/\
 ((Zg n i c).2.1+(Wv n (Zg n i c).1).2.2.2.1<=(Zg n j d).2.2.1\/isLink n i c j d false/\(Zg n i c).2.1<=(Zg n j d).2.2.1):=by
 have r:=h.time k g;have l:=h.stop k g;have o:=h.change _ l.1 l.2;have p:Vb .i64 ((Zg n i c).2.1+(Wv n (Zg n i c).1).2.2.2.1)=(Zg n i c).2.1+(Wv n (Zg n i c).1).2.2.2.1:=Zs (by omega) (by omega);unfold JH;have m:Rh n (ZP n i b c st) (ZP n j d e false) false=true↔isLink n i c j d false:=ZkK h;generalize Rh n (ZP n i b c st) (ZP n j d e false) false=B at*;unfold ZP Kv;simp only[Vg,Vwb,Ze,p];rw[WK (by omega)];simp only[Vk,KQ];refine and_congr_right fun _=>?_;rw[<-m];by_cases a:(Zg n i c).2.1+(Wv n (Zg n i c).1).2.2.2.1<=(Zg n j d).2.2.1
 ·rw[Zd a];simp [a]
 ·rw[Zk a];by_cases f:(Zg n i c).2.1<=(Zg n j d).2.2.1
  ·rw[Zd f]
   cases B with
   |true=>simp [a,f]
   |false=>simp [a]
  ·rw[Zk f];simp [a,f]
theorem DU{i b c:Nat}{st:Bool} :YC n (Zn q) (ZP n i b c st)=0↔(Zg n i c).2.2.2.2.1=true:=by unfold YC;rw[WK (by omega),WK (by omega),Zem];show (!(Zg n i c).2.2.2.2.1)=false/\_↔_;simp
theorem Wr{n:Zh}{q:Zt}{L:List Zv}{i:Nat} :WI n q L i=0↔WN n q (lg L i)=0/\GG n q L i=0/\(Xf L i=true->YC n q (lg L i)=0):=by
 unfold WI;by_cases a:WN n q (lg L i)=0
 ·by_cases b:GG n q L i=0
  ·rw[Zd a,Zd b]
   cases Xf L i<;>simp [a,b]
  ·rw[Zd a,Zk b];simp [b]
 ·rw[Zk a];simp [a]
theorem XF{n:Zh}{q:Zt}{L:List Zv} :Ji n q L=0↔(lg L 0).2.2.2.2.1=q.1/\Kv (lg L 0)=false/\(!(lg L 0).1&& (decide (1<L.length) && ((lg L 1).1&& !decide ((lg L 1).2.2.2.2.2.2.1=(lg L 0).2.2.2.2.2.2.2.1))))=false/\
 (!(lg L 0).1&& (decide (L.length=1) && (bif q.2.2.2.1 then !decide ((lg L 0).2.2.2.2.2.2.2.1=q.2.2.1) else !decide ((lg L 0).2.2.2.2.2.2.1=q.2.2.1))))=false/\
 (!q.2.2.2.1&&decide ((lg L 0).2.2.2.2.2.2.1<q.2.2.1))=false/\(q.2.2.2.2.2.2.2.2.2.1&& ((lg L 0).1&&decide ((lg L 0).2.2.2.2.2.2.1<Vb .i64 (q.2.2.1+(Wv n q.1).2.2.2.1))))=false:=by
 unfold Ji;rw[WK (by omega),WK (by omega),WK (by omega),WK (by omega),WK (by omega)];simp only[Vk,KQ];refine and_congr_right fun _=>and_congr_right fun _=>and_congr_right fun _=>and_congr_right fun _=>and_congr_right fun _=>?_
 cases (q.2.2.2.2.2.2.2.2.2.1&& ((lg L 0).1&&decide ((lg L 0).2.2.2.2.2.2.1<Vb .i64 (q.2.2.1+(Wv n q.1).2.2.2.1))))<;>simp
end Q
namespace Q
open Tr Go
abbrev KA:=GV×YR×List (Int×Int×Int×Int×Unit) ×Unit
abbrev Ze5:=List (ZbC×List Zu)
abbrev Wd:=Zh×Zt×Ze5×GU×List KA×Unit
def WX:J5->List ZW
 |[]=>[]
 |[_]=>[]
 |x::y::t=>WX (y::t)++[x.2.1]
theorem Zl3{S:List Jq->List Int->Prop}{F:GT}{rs:List Jq}{s:J5}(h:Yw S F rs s):WX s=rs:=by
 induction h with
 |start=>rfl
 |snoc a _ _ b=>
  obtain⟨_,_,_,e,_⟩:=a.head;subst e;show WX (_::_)++_=_;rw[b]
def JF(m:Ze5)(p:ZbC):List Zu:=Vub (ZI (Zj Wh) p m) []
def XK(st:Wd):List Zu:=st.2.2.2.1.2.1.map Vca
def Jw(st:Wd)(p:ZbC):List Zu:=JF st.2.2.1 p
section
variable (F:Ku) (hF:FO F)
def XP(l:Zu):Prop:=HZ F hF (WX l.2.2.2.2.1) l.2.2.2.2.1/\ ∀v∈WX l.2.2.2.2.1,Hl v
def JC(F:Ku)(_:FO F)(a b:Zu):Prop:=a.1=b.1/\a.2.1<=b.2.1/\a.2.2.1<=b.2.2.1/\a.2.2.2.1<=b.2.2.2.1
def K3(st:Wd)(ls:List Zu)(os:List KA)(a:Wd):Prop:= ∃sub:List Zu,sub.length<=ls.length/\(∀o∈sub,o∈ls)/\(XK a).Perm (sub++XK st)/\(a.1=st.1/\a.2.1=st.2.1/\a.2.2.2.2.1=st.2.2.2.2.1++os)/\
 (∀p o,o∈Jw a p↔o∈Jw st p\/(o∈sub/\o.1=p))/\(∀p,(Jw a p).length<=(Jw st p).length+sub.length)/\(∀w:Zu->Nat,(sub.map w).sum<=(ls.map w).sum)/\ ∀l∈ls,∃o∈Jw a l.1,JC F hF o l
structure XA (n:Zh) (q:Zt) (st:Wd) (N:Nat):Prop where
 net:st.1=n
 que:st.2.1=q
 lab:∀p,∀o∈Jw st p,o.1=p/\XP F hF o
 few:∀p,(Jw st p).length<=N
 queue:(XK st).length<=N
end
variable {F:Ku}{hF:FO F}{n:Zh}{q:Zt}
theorem JC.refl(a:Zu):JC F hF a a:=⟨rfl,Vz _,Vz _,Vz _⟩
theorem JC.trans{a b c:Zu}(h:JC F hF a b)(k:JC F hF b c):JC F hF a c:=⟨h.1.trans k.1,Vcb h.2.1 k.2.1,Vcb h.2.2.1 k.2.2.1,Vcb h.2.2.2 k.2.2.2⟩
theorem K3.nil(st:Wd):K3 F hF st [] [] st:=⟨[],by simp,by simp,.refl _,⟨rfl,rfl,(Vt _).symm⟩,by simp,by simp,by simp,by simp⟩
theorem K3.trans{st e c:Wd}{ls ms:List Zu}{os m:List KA}(h:K3 F hF st ls os e)(k:K3 F hF e ms m c):K3 F hF st (ls++ms) (os++m) c:=by
 obtain⟨E,G,s,t,f,u,v,x,y⟩:=h;obtain⟨r,H,z,A,g,i,B,C,D⟩:=k;refine⟨E++r,by simp;omega,fun o j=>?_,?_,⟨g.1.trans f.1,g.2.1.trans f.2.1,by rw[g.2.2,f.2.2,Vwa]⟩,fun p o=>?_,fun p=>?_,fun w=>?_,fun l d=>?_⟩
 ·rw[Vj]at j⊢;exact j.imp (s o) (z o)
 ·refine A.trans ((List.Perm.append_left r t).trans ?_);rw[<-Vwa];exact List.Perm.append_right _ Vza
 ·rw[i,u,Vj];constructor
  ·rintro ((h|⟨a,b⟩) |⟨a,b⟩)
   ·exact .inl h
   ·exact .inr ⟨.inl a,b⟩
   ·exact .inr ⟨.inr a,b⟩
  ·rintro (h|⟨a|a,b⟩)
   ·exact .inl (.inl h)
   ·exact .inl (.inr ⟨a,b⟩)
   ·exact .inr ⟨a,b⟩
 ·have:=v p;have:=B p;rw[Vi];omega
 ·rw[Vn,Vn,Vy,Vy];exact Vfb (x w) (C w)
 ·rw[Vj]at d;rcases d with d|d
  ·obtain⟨o,a,b⟩:=y l d;exact⟨o,(i _ _).2 (.inl a),b⟩
  ·exact D l d
theorem XA.adds{st a:Wd}{N:Nat}{ls:List Zu}{os:List KA}(h:XA F hF n q st N)(j:∀l∈ls,XP F hF l)(k:K3 F hF st ls os a):XA F hF n q a (N+ls.length):=by
 obtain⟨u,r,d,e,c,f,g,s,t⟩:=k;refine⟨c.1.trans h.net,c.2.1.trans h.que,fun p o m=>?_,fun p=>?_,?_⟩
 ·rcases (f p o).1 m with b|⟨b,i⟩
  ·exact h.lab p o b
  ·exact⟨i,j o (d o b)⟩
 ·have:=g p;have:=h.few p;omega
 ·rw[e.length_eq,Vi];have:=h.queue;omega
theorem ZtB{a b:Zu}(f:XP F hF a)(g:XP F hF b)(j:a.1=b.1):∃t,F148 a b=some t/\(t=true->JC F hF a b):=by
 obtain⟨d,i⟩:=Zqk hF f.1 g.1 f.2 g.2;unfold F148;by_cases c:a.2.1<=b.2.1
 case neg=>rw[Zk c];exact⟨_,rfl,fun h=>by cases h⟩
 by_cases e:a.2.2.1<=b.2.2.1
 case neg=>rw[Zd c,Zk e];exact⟨_,rfl,fun h=>by cases h⟩
 by_cases c3:a.2.2.2.1<=b.2.2.2.1
 case neg=>rw[Zd c,Zd e,Zk c3];exact⟨_,rfl,fun h=>by cases h⟩
 rw[Zd c,Zd e,Zd c3];simp only[Zc,i,Za];exact⟨_,rfl,fun _=>⟨j,c,e,c3⟩⟩
theorem ZiB{α β:Type}{eq:α->α->Bool}(k:α)(v:β):∀l:List (α×β),idx (ZZ eq k v l) ((Tr.amPos eq k l:Nat):Int)=some (k,v)
 |[]=>rfl
 |e::l=>by
  have a:=ZiB (eq:=eq) k v l;rw[ZZ,Tr.amPos]
  cases h:eq k e.1 with
  |true=>rfl
  |false=>
   simp only[Ze]
   have b:Tr.amPos eq k l<(ZZ eq k v l).length:=by
    by_cases c:Tr.amPos eq k l<(ZZ eq k v l).length
    ·exact c
    ·unfold idx at a;rw[Vd,List.getElem?_eq_none (by omega)]at a
     split at a<;>simp at a
   rw[ZH b]at a;rw[ZH (by simpa using b),List.getElem_cons_succ];exact a
open Classical in
theorem ZfG(m:Ze5)(l:Zu)(p:ZbC):JF (ZZ (Zj Wh) l.1 (JF m l.1++[l]) (ZZ (Zj Wh) l.1 (JF m l.1) m)) p=if p=l.1 then JF m p++[l] else JF m p:=by
 have a:Ty.key Wh=true:=rfl;show Vub (ZI (Zj Wh) p _) []=_;rw[Gy a];by_cases h:p=l.1
 ·rw[Zp h,Zp h,h];rfl
 ·rw[Zf h,Zf h,Gy a,Zf h];rfl
theorem Zft{st:Wd}{N:Nat}(h:XA F hF n q st N){l:Zu}(P:XP F hF l)(U:N+1<=549755813888):∃k,F150 st l=some k/\K3 F hF st [l] [] k:=by
 obtain⟨R,T,a,⟨⟨⟩,D,Q,⟨⟩⟩,S,⟨⟩⟩:=st;unfold F150;simp only;have E:∀o∈JF a l.1,o.1=l.1/\XP F hF o:=h.lab l.1;have G:(JF a l.1).length<=N:=h.few l.1;have V:D.length<=N:=by have:=h.queue;simpa [XK] using this
 have d:Vub (ZI (Zj Wh) l.1 a) []=JF a l.1:=rfl;simp only[d]
 suffices K:∃r:Unit ⊕ Unit,_=some r/\(r=.inr ()->∃o∈JF a l.1,JC F hF o l) by
  obtain⟨r,f,w⟩:=K
  cases r with
  |inr u=>
   refine⟨_,KF (fun x=>x=Sum.inr ()) ⟨_,f,rfl⟩ (fun x B=>by subst B;rfl),[],by simp,by simp,.refl _,⟨rfl,rfl,(Vt _).symm⟩,fun p o=>by simp [Jw],fun p=>by simp [Jw],by simp,?_⟩;intro C b;rw[Vh]at b;subst b
   exact w rfl
  |inl u=>
   have j:Vub (ZI (Zj Wh) l.1 (ZZ (Zj Wh) l.1 (JF a l.1) a)) []=JF a l.1:=by rw[Gy rfl,Zp rfl];rfl
   obtain⟨m,H,z,A⟩:=Zt2 (c:=Q) l (show D.length+1<=549755813888 by omega)
   have M:ZD (decide ((JF a l.1).length+ [l].length<=ZE))=some ():=by rw[Zd (by simp [ZE];omega)];rfl
   have O:ZD (Tr.holeK Wh (some l.1) l.1)=some ():=by have:Tr.holeK Wh (some l.1) l.1=true:=(Jv (t:=Wh) rfl).2 rfl;rw[this];rfl
   refine⟨(R,T,ZZ (Zj Wh) l.1 (JF a l.1++[l]) (ZZ (Zj Wh) l.1 (JF a l.1) a),((),m,H,()),S,()),KF (fun x=>x=Sum.inl ()) ⟨_,f,rfl⟩ (fun x B=>by subst B;simp only[Sum.elim_inl,j,M,Za,ZiB,O,z]),[l],by simp,by simp,?_,⟨rfl,rfl,(Vt _).symm⟩,fun p o=>?_,fun p=>?_,by simp,?_⟩
   ·show (List.map Vca m).Perm ([l]++List.map Vca D);have:=A.map Vca;rw[Vn]at this;exact this.trans Vza
   ·show o∈JF _ p↔o∈JF a p\/_;rw[ZfG];by_cases v:p=l.1
    ·rw[Zp v,Vj,Vh];refine or_congr Iff.rfl ⟨fun e=>⟨e,by rw[e,v]⟩,fun e=>e.1⟩
    ·rw[Zf v];refine⟨.inl,fun e=>e.resolve_right ?_⟩;rintro ⟨f,w⟩;rw[Vh]at f;exact v (by rw[<-w,f])
   ·show (JF _ p).length<=(JF a p).length+_;rw[ZfG]
    split<;>simp
   ·intro C b;rw[Vh]at b;subst b;refine⟨C,?_,JC.refl _⟩;show C∈JF _ _;rw[ZfG,Zp rfl];simp
 refine Kq (JF a l.1).length (fun r:Unit ⊕ Unit=>r=.inr ()->∃o∈JF a l.1,JC F hF o l) (fun i (s:Int)=>s=(i:Int)) ?_ ?_ _ rfl
 ·rintro i _ g rfl;have y:=Vc g;obtain⟨t,I,J⟩:=ZtB (E _ y).2 P (E _ y).1;simp only[ZU g,Zc,Ke g,Va g,Za,I]
  cases t with
  |true=>exact .inr ⟨_,rfl,fun _=>⟨_,y,J rfl⟩⟩
  |false=>exact .inl ⟨_,rfl,Z8 g (by omega)⟩
 ·rintro _ rfl;refine⟨.inl (),by simp only[Jy,Ze],fun e=>?_⟩;cases e
end Q
namespace Q
open Tr Go
variable {F:Ku}{hF:FO F}{n:Zh}{q:Zt}
theorem Dl{i:Nat}(a:i<n.2.2.1.length):idx n.2.2.1 (i:Int)=some (rn n (i:Int)):=by
 rw[ZH a];unfold rn
 grind
theorem RZ{i c:Nat}(a:c<(Zl n i).length):idx (rn n (i:Int)).2.2.2.2.2.2.2.1 (c:Int)=some (Zg n i c):=by
 have:idx (Zl n i) (c:Int)=some (Zg n i c):=by rw[ZH a,RQ a]
 exact this
theorem ZdS{β:Type}(f:Nat->List β)(i:Nat):(Vp (i+1)).flatMap f=(Vp i).flatMap f++f i:=by rw[Vnc,Vta];simp
theorem ZqM{β:Type}(f:Nat->List β){i m:Nat}(h:i<=m):((Vp i).flatMap f).length<=((Vp m).flatMap f).length:=by
 induction m with
 |zero=>grind
 |succ m b=>
  rcases Nat.lt_or_ge m i with a|a
  ·grind
  ·rw[ZdS,Vi];omega
theorem Zgh{α β:Type}(l:List α)(f:α->List β):l.flatMap f=(Vp l.length).flatMap fun i=>(l[i]?).elim [] f:=by
 have key:∀k,k<=l.length->(l.take k).flatMap f=(Vp k).flatMap fun i=>(l[i]?).elim [] f:=by
  intro k
  induction k with
  |zero=>simp
  |succ k a=>
   intro h;rw[ZdS, <-a (by omega),Ve (by omega),Vta,Va (by omega)];simp
 grind
theorem ZcF{σ τ:Type}{step:σ->Option (σ ⊕ τ)}{m:Nat}{g:Nat->List Zu}{st:Wd}{N:Nat}(mk:Nat->Wd->σ)(fin:Wd->τ)(f:XA F hF n q st N)(h:∀i,i<m->∀l∈g i,XP F hF l)(t:N+((Vp m).flatMap g).length<=549755813888)
 (b:∀i st N,i<m->XA F hF n q st N->N+(g i).length<=549755813888->∃s',step (mk i st)=some (.inl s')/\ ∃a,s' =mk (i+1) a/\K3 F hF st (g i) [] a)
 (d:∀st N,XA F hF n q st N->step (mk m st)=some (.inr (fin st))):∃r,run step (mk 0 st)=some r/\ ∃a,r=fin a/\K3 F hF st ((Vp m).flatMap g) [] a:=by
 have lab:∀i,i<=m->∀l∈(Vp i).flatMap g,XP F hF l:=by grind
 refine Kq m (fun r=>∃a,r=fin a/\K3 F hF st ((Vp m).flatMap g) [] a) (fun i s=>∃a,s=mk i a/\K3 F hF st ((Vp i).flatMap g) [] a) ?_ ?_ _ ⟨st,rfl,K3.nil st⟩
 ·rintro i _ p ⟨a,rfl,c⟩;left;have o:=f.adds (by grind) c;have e:=ZqM g (show i+1<=m by omega);rw[ZdS,Vi]at e;obtain⟨s',j,st2,rfl,k⟩:=b i a _ p o (by omega);refine⟨_,j,st2,rfl,?_⟩;rw[ZdS];exact c.trans k
 ·rintro _ ⟨a,rfl,c⟩;exact⟨_,d a _ (f.adds (by grind) c),a,rfl,c⟩
def Zaj(n:Zh)(i c:Nat):Bool:=n.2.2.2.1.any fun l=>l.2.2.2.2.1&& (decide (l.1=(i:Int)) &&decide (l.2.1=(c:Int)))
def Hw(n:Zh)(l:Zu)(j d:Nat):Bool:=n.2.2.2.1.any fun k=> !k.2.2.2.2.1&& (decide (l.1.1=1) && (decide (k.1=l.1.2.2.1) && (decide (k.2.1=l.1.2.2.2.1) && (decide (k.2.2.1=(j:Int)) &&decide (k.2.2.2.1=(d:Int))))))
theorem Zud(st:Wd)(p:st.1.2.2.2.1.length<=1024)(i c:Nat):F158 st (i:Int) (c:Int)=some (st,Zaj st.1 i c):=by
 unfold F158
 refine KF (fun r:Unit ⊕ Bool=>r=if Zaj st.1 i c then .inr true else .inl ()) ?_ ?_
 ·refine Kq st.1.2.2.2.1.length _ (fun k (s:Int)=>s=(k:Int)/\(st.1.2.2.2.1.take k).any (fun l=>l.2.2.2.2.1&& (decide (l.1=(i:Int)) &&decide (l.2.1=(c:Int))))=false) ?_ ?_ _ ⟨rfl,rfl⟩
  ·rintro k _ a ⟨rfl,d⟩;have m:idx st.1.2.2.2.1 (k:Int)=some st.1.2.2.2.1[k]:=ZH a;simp only[ZU a,Zc,m,Za];have e:=Zaz a (fun l:XC=>l.2.2.2.2.1&& (decide (l.1=(i:Int)) &&decide (l.2.1=(c:Int))));have b:=fun h=>ZfA a (f:=fun l:XC=>l.2.2.2.2.1&& (decide (l.1=(i:Int)) &&decide (l.2.1=(c:Int)))) h;generalize o:st.1.2.2.2.1[k]=x at*
   cases j:(x.2.2.2.2.1&& (decide (x.1=(i:Int)) &&decide (x.2.1=(c:Int)))) with
   |true=>
    right;have g:Zaj st.1 i c=true:=b j
    grind
   |false=>
    left;refine⟨((k+1:Nat):Int),?_,rfl,by grind⟩;have t:=Z8 a (by omega)
    grind
  ·rintro _ ⟨rfl,d⟩;rw[Vja]at d;have g:Zaj st.1 i c=false:=d
   grind
 grind
theorem ZtK(st:Wd)(p:st.1.2.2.2.1.length<=1024)(l:Zu)(j d:Nat):F155 st l (j:Int) (d:Int)=some (st,Hw st.1 l j d):=by
 unfold F155
 refine KF (fun r:Unit ⊕ Bool=>r=if Hw st.1 l j d then .inr true else .inl ()) ?_ ?_
 ·refine Kq st.1.2.2.2.1.length _ (fun k (s:Int)=>s=(k:Int)/\(st.1.2.2.2.1.take k).any (fun k=> !k.2.2.2.2.1&& (decide (l.1.1=1) && (decide (k.1=l.1.2.2.1) && (decide (k.2.1=l.1.2.2.2.1) && (decide (k.2.2.1=(j:Int)) &&decide (k.2.2.2.1=(d:Int)))))))=false) ?_ ?_ _ ⟨rfl,rfl⟩
  ·rintro k _ a ⟨rfl,c⟩;have m:idx st.1.2.2.2.1 (k:Int)=some st.1.2.2.2.1[k]:=ZH a;simp only[ZU a,Zc,m,Za];have e:=Zaz a (fun k:XC=> !k.2.2.2.2.1&& (decide (l.1.1=1) && (decide (k.1=l.1.2.2.1) && (decide (k.2.1=l.1.2.2.2.1) && (decide (k.2.2.1=(j:Int)) &&decide (k.2.2.2.1=(d:Int)))))));have b:=fun h=>ZfA a (f:=fun k:XC=> !k.2.2.2.2.1&& (decide (l.1.1=1) && (decide (k.1=l.1.2.2.1) && (decide (k.2.1=l.1.2.2.2.1) && (decide (k.2.2.1=(j:Int)) &&decide (k.2.2.2.1=(d:Int))))))) h;generalize o:st.1.2.2.2.1[k]=x at*;have t:=Z8 a (by omega)
   cases i:(!x.2.2.2.2.1&& (decide (l.1.1=1) && (decide (x.1=l.1.2.2.1) && (decide (x.2.1=l.1.2.2.2.1) && (decide (x.2.2.1=(j:Int)) &&decide (x.2.2.2.1=(d:Int))))))) with
   |true=>
    right;have g:Hw st.1 l j d=true:=b i
    grind
   |false=>
    grind
  ·rintro _ ⟨rfl,c⟩;rw[Vja]at c;have g:Hw st.1 l j d=false:=c
   grind
 grind
theorem ZhJ{L:List Zv}(x:Zv)(h:L.length<=1000):F162 L x=some (L++[x]):=by
 unfold F162;have c:(ZE:Int)=549755813888:=rfl;have b:(ZE:Nat)=549755813888:=rfl;rw[Zs (by omega) (by omega)]
 have a:ZD (decide ((0:Int)<=(0:Int)/\(0:Int)<=(L.length:Int)+1/\(L.length:Int)+1<=(ZE:Int)))=some ():=by rw[Zd ⟨by omega,by omega,by omega⟩];rfl
 rw[a];simp only[Za,Int.toNat_zero,List.replicate_zero,Voc,Vx,Vpb];rw[Zd (by omega),Zd (by grind)];rfl
def GM(n:Zh)(v:ZW)(x:Zv):ZW:=(v.1,x.2.2.2.2.2.2.2.1,Wt .i64 v.2.2.1 ((Hi n x:Nat):Int),Wt .i64 v.2.2.2.1 ((2 ^ (XZ n x).2.1.toNat:Nat):Int),())
def XI(n:Zh)(l:Zu)(i b c:Nat)(st:Bool)(v:ZW):Zu:=((1,(Zg n i c).1,(i:Int),(c:Int),GM n v (ZP n i b c st),()),(Zg n i c).2.1,l.2.2.1,l.2.2.2.1,l.2.2.2.2.1,l.2.2.2.2.2.1++[ZP n i b c st],())
def HQ(n:Zh)(i c:Nat):Bool:=(Zg n i c).2.2.2.2.1||Zaj n i c
def Rt(n:Zh)(l:Zu)(i b:Nat)(st:Bool)(v:ZW)(c:Nat):List Zu:=if HQ n i c=true then [XI n l i b c st v] else []
def DC(n:Zh)(l:Zu)(i b:Nat)(st:Bool)(v:ZW):List Zu:=(Vp ((Zl n i).length - (b+1))).flatMap fun k=>Rt n l i b st v (b+1+k)
theorem ZkU{l:Zu}{i b:Nat}{st:Bool}{v:ZW}{x:Zu} :x∈DC n l i b st v↔∃c,b<c/\c<(Zl n i).length/\HQ n i c=true/\x=XI n l i b c st v:=by
 unfold DC Rt;rw[Vka];constructor
 ·grind
 ·rintro ⟨c,a,d,e,rfl⟩;refine⟨c - (b+1),by grind,?_⟩
  grind
theorem ZmO(p:K1 n){st:Wd}{N:Nat}(hG:XA F hF n q st N){l:Zu}(Y:XP F hF l)(Z:l.2.2.2.2.2.1.length<=999){i b:Nat}(D:i<n.2.2.1.length)(P:b<(Zl n i).length)(a:Bool){v:ZW}(S:Small v)(hM:N+(DC n l i b a v).length<=549755813888):
 ∃d,F159 st l (i:Int) (b:Int) a v=some d/\K3 F hF st (DC n l i b a v) [] d:=by
 have b4:=p.sound.links;have a0:=p.sound.many _ (Vc D);have b0:(Zl n i).length<=32:=by rw[G9 D];omega
 have e:∀c∈Zl n i,0<=c.1/\c.1<(n.1.length:Int):=by rw[G9 D];exact p.sound.call _ (Vc D)
 obtain⟨sn,st2⟩:=st;obtain rfl:n=sn:=hG.net.symm
 have b2:∀c,b<c->c<(Zl n i).length->KL n (ZP n i b c a)=true:=fun c h1 h2=>by
  unfold KL;have U:Kh (ZP n i b c a).2.1 n.2.2.1.length=true:=by show Kh (i:Int) _=true;unfold Kh;grind
  have e2:(Wl n (ZP n i b c a)).length=(Zl n i).length:=rfl;rw[U,e2];show (true&& (decide (0<=(b:Int)) && (decide ((b:Int)<(c:Int)) &&decide ((c:Int)<((Zl n i).length:Int)))))=true
  grind
 have I:∀c,(XZ n (ZP n i b c a))=(n.2.1[(rn n (i:Int)).2.2.2.2.1.toNat]?).getD Rm:=fun _=>rfl
 obtain⟨f,H,j⟩:idx n.2.1 (rn n (i:Int)).2.2.2.2.1=some ((n.2.1[(rn n (i:Int)).2.2.2.2.1.toNat]?).getD Rm)/\0<=((n.2.1[(rn n (i:Int)).2.2.2.2.1.toNat]?).getD Rm).2.1/\((n.2.1[(rn n (i:Int)).2.2.2.2.1.toNat]?).getD Rm).2.1<16:=by
  have Q:rn n (i:Int)∈n.2.2.1:=by unfold rn;grind
  have h1:=p.sound.route _ Q;have X:Kh (rn n (i:Int)).2.2.2.2.1 n.2.1.length=true:=by unfold Kh;grind
  refine⟨J9 X Rm,?_⟩;have Y:(rn n (i:Int)).2.2.2.2.1.toNat<n.2.1.length:=by omega
  rw[Kx Y];have:=p.sound.mode _ (Vc Y);omega
 generalize hR:(n.2.1[(rn n (i:Int)).2.2.2.2.1.toNat]?).getD Rm=R at f H j I;obtain⟨b3,a5,J⟩:=ZeL p.sound (e _ (Vc P)).1 (by grind);obtain⟨⟨z,hz⟩,b7⟩:(∃z:Nat,v.2.2.1=(z:Int))/\v.2.2.1<65536:=⟨⟨_,(Vdc S.1.1).symm⟩,S.1.2⟩;obtain⟨⟨m,Q⟩,b6⟩:(∃z:Nat,v.2.2.2.1=(z:Int))/\v.2.2.2.1<65536:=⟨⟨_,(Vdc S.2.1).symm⟩,S.2.2⟩;have b5:∀k,b+k<=(Zl n i).length->zN n (Zl n i) b k<65536:=fun k hk=>ZeY p.sound e k (by omega)
 have K:zN n (Zl n i) b 1=2 ^ (GQ n (Zl n i)[b].1).2.1.toNat:=by show zN n (Zl n i) b 0 ||| zn n (Zl n i) (b+0)=_;unfold zn;rw[Nat.add_zero,Kx P];show 0 ||| _=_;simp
 unfold F159;have b1:Zg n i b=(Zl n i)[b]:=RQ P;have U:idx n.1 (Zg n i b).1=some (GQ n (Zl n i)[b].1):=by grind
 simp only[Dl D,Za,f,Zhx H j,RZ P,U,Zhx a5 J];rw[hz,Q,GJ (by omega) (Gg J),GJ (by omega) (Gg j), <-K];have a7:Vb .i64 ((b:Int)+1)=((b+1:Nat):Int):=by rw[Zs (by omega) (by omega)];omega
 rw[a7]
 have E:∀k,k<(Zl n i).length - (b+1)->∀x∈Rt n l i b a v (b+1+k),XP F hF x:=by
  intro k _ x T;unfold Rt at T;split at T
  ·rw[Vh]at T;subst T
   assumption
  grind
 refine Wf (fun r=>∃d,r=d/\K3 F hF (n,st2) (DC n l i b a v) [] d) (ZcF (F:=F) (hF:=hF) (n:=n) (q:=q) (m:=(Zl n i).length - (b+1)) (g:=fun k=>Rt n l i b a v (b+1+k)) (st:=(n,st2))
  (fun k s=>(s,(v.1,(if k=0 then v.2.1 else(Zg n i (b+k)).2.1),((z ||| zN n (Zl n i) b (k+1):Nat):Int),((m ||| 2 ^ R.2.1.toNat:Nat):Int),v.2.2.2.2),((b+1+k:Nat):Int))) (fun s=>s) hG E hM ?hstep ?hend) ?fin
 case hstep=>
  intro k s M hk u w;have W:b+1+k<(Zl n i).length:=by omega
  have V:Zg n i (b+1+k)=(Zl n i)[b+1+k]:=RQ W;obtain⟨t1,t2,t3⟩:=ZeL p.sound (e _ (Vc W)).1 (by grind);rw[<-V]at t1 t2 t3;have G:decide (((b+1+k:Nat):Int)<((rn n (i:Int)).2.2.2.2.2.2.2.1.length:Int))=true:=Zd (by show ((b+1+k:Nat):Int)<((Zl n i).length:Int);omega);have a8:Vb .i64 (((b+1+k:Nat):Int)+1)=((b+1+(k+1):Nat):Int):=by rw[Zs (by omega) (by omega)];omega
  have a9:zN n (Zl n i) b (k+1+1)=zN n (Zl n i) b (k+1) ||| 2 ^ (GQ n (Zg n i (b+1+k)).1).2.1.toNat:=by
   show zN n (Zl n i) b (k+1) ||| zn n (Zl n i) (b+(k+1))=_;unfold zn
   grind
  have a3:Wt .i64 ((z ||| zN n (Zl n i) b (k+1):Nat):Int) ((2 ^ (GQ n (Zg n i (b+1+k)).1).2.1.toNat:Nat):Int)=((z ||| zN n (Zl n i) b (k+1+1):Nat):Int):=by have:z ||| zN n (Zl n i) b (k+1)<2 ^ 16:=Vlb (n:=16) (by omega) (by grind);rw[GJ (by omega) (Gg t3),a9,Nat.or_assoc]
  have a6:s.1=n:=u.net;have h:=Zud s (by grind) i (b+1+k);rw[a6]at h
  have a4:GM n v (ZP n i b (b+1+k) a)=(v.1,(Zg n i (b+1+k)).2.1,((z ||| zN n (Zl n i) b (k+1+1):Nat):Int),((m ||| 2 ^ R.2.1.toNat:Nat):Int),v.2.2.2.2):=by
   unfold GM;rw[I,hz,Q]
   have ez:Hi n (ZP n i b (b+1+k) a)=zN n (Zl n i) b (k+1+1):=by unfold Hi;show zN n (Zl n i) (b:Int).toNat (((b+1+k:Nat):Int).toNat+1 - (b:Int).toNat)=_;rw[Vd,Vd];congr 1;omega
   rw[ez,GJ (by omega) (by grind),GJ (by omega) (Gg j)];rfl
  simp only[G,Zc,RZ W,Za];rw[show s.1.1=n.1 by grind];simp only[t1,Za,Zhx t2 t3,a3,a8,ZhJ _ (show l.2.2.2.2.2.1.length<=1000 by omega)]
  have y:∀o:Wd,(o,(v.1,(Zg n i (b+1+k)).2.1,((z ||| zN n (Zl n i) b (k+1+1):Nat):Int),((m ||| 2 ^ R.2.1.toNat:Nat):Int),v.2.2.2.2),((b+1+(k+1):Nat):Int))=((o,(v.1,(if k+1=0 then v.2.1 else(Zg n i (b+(k+1))).2.1),((z ||| zN n (Zl n i) b (k+1+1):Nat):Int),((m ||| 2 ^ R.2.1.toNat:Nat):Int),v.2.2.2.2),((b+1+(k+1):Nat):Int)):Wd×ZW×Int):=by grind
  have B:HQ n i (b+1+k)=true->∃d,F150 s (XI n l i b (b+1+k) a v)=some d/\K3 F hF s [XI n l i b (b+1+k) a v] [] d:=fun t=>by unfold Rt at w;rw[Zp t]at w;exact Zft u (by assumption) w
  unfold Rt;by_cases t:HQ n i (b+1+k)=true
  ·rw[Zp t];obtain⟨d,O,a2⟩:=B t;unfold XI at O;rw[a4]at O
   cases C:(Zg n i (b+1+k)).2.2.2.2.1 with
   |true=>
    simp only[Vg,Ze];refine XW (fun x=>x=d) ⟨d,O,rfl⟩ ?_
    grind
   |false=>
    have A:Zaj n i (b+1+k)=true:=by unfold HQ at t;grind
    rw[A]at h;simp only[Vq,Zc];refine XW (fun x=>x=(s,true)) ⟨_,h,rfl⟩ ?_;rintro _ rfl;simp only[Vg,Ze];refine XW (fun x=>x=d) ⟨d,O,rfl⟩ ?_
    grind
  ·rw[Zf t];unfold HQ at t;rw[Vpc]at t
   have C:(Zg n i (b+1+k)).2.2.2.2.1=false:=by
    grind
   have A:Zaj n i (b+1+k)=false:=by
    grind
   rw[A]at h;simp only[C,Vq,Zc];refine XW (fun x=>x=(s,false)) ⟨_,h,rfl⟩ ?_;rintro _ rfl;simp only[Vq,Zc];exact⟨_,rfl,_,y s,K3.nil s⟩
 case hend=>
  intro s M u;have:((b+1+((Zl n i).length - (b+1)):Nat):Int)=((Zl n i).length:Int):=by omega
  have G:decide (((b+1+((Zl n i).length - (b+1)):Nat):Int)<((rn n (i:Int)).2.2.2.2.2.2.2.1.length:Int))=false:=Zk (by rw[this];show¬((Zl n i).length:Int)<((Zl n i).length:Int);omega)
  grind
 simp
end Q
namespace Q
open Tr Go
variable {n:Zh}
theorem Zhk(a b:List Zv):ridesN (a++b)=ridesN a+ridesN b:=by simp [ridesN]
def Y8:Ku:=([([(102:UInt8),(114:UInt8),(101:UInt8),(101:UInt8)],(0:Int),(1:Int),(16:Int),(0:Int),(255:Int),())],(0:Int),(0:Int),(0:Int),())
def Zat(r:ZW):Prop:= ∃Z M:Nat,r.2.2.1=(Z:Int)/\Z<65536/\r.2.2.2.1=(M:Int)/\M<256
theorem Zk3(h:Js n){x:Zv}(a:KL n x=true):Zat (Hf n x):=by
 refine⟨Hi n x,2 ^ (XZ n x).2.1.toNat,rfl,ZcX h a,rfl,?_⟩
 have c:(XZ n x).2.1<=7:=by
  unfold KL at a;simp only[Vf]at a;have c:=Zag a.1;have d:=h.route _ c;have b:(rn n x.2.1).2.2.2.2.1.toNat<n.2.1.length:=by omega
  unfold XZ;rw[Kx b];exact(h.mode _ (Vc b)).2
 exact Nat.lt_of_le_of_lt (Vyb (by omega) (show (XZ n x).2.1.toNat<=7 by omega)) (by decide)
theorem ZnZ(h:Js n){x:Zv}(u:KL n x=true){l:List ZW}(d:∀r∈l,Zat r):∀r∈X7 n x l,Zat r:=by
 intro r a;unfold X7 at a;split at a
 ·next v t=>
  unfold G2 at a;rcases List.mem_or_eq_of_mem_set a with a|rfl
  ·exact d r a
  ·obtain⟨Z,M,o,i,p,s⟩:=d v (Vzb t);obtain⟨f,e,j,g,k,m⟩:=Zk3 h u;have b:((Hi n x:Nat):Int)=(f:Int):=j;have c:((2 ^ (XZ n x).2.1.toNat:Nat):Int)=(e:Int):=k;refine⟨Z ||| f,M ||| e,?_,Vlb (n:=16) i g,?_,Vlb (n:=8) s m⟩
   ·show Wt .i64 v.2.2.1 ((Hi n x:Nat):Int)=_;rw[o,b,GJ i g]
   ·show Wt .i64 v.2.2.2.1 ((2 ^ (XZ n x).2.1.toNat:Nat):Int)=_;rw[p,c,GJ (by omega) (by omega)]
 ·exact d r a
theorem RY(h:Js n):∀(L:List Zv) (w:Bool) (out:List ZW),(∀r∈out,Zat r)->(∀r∈(WA n L w out).1,Zat r)/\((WA n L w out).2=0->(WA n L w out).1.length=out.length+ridesN L)
 |[],_,out,d=>⟨d,fun _=>rfl⟩
 |x::L,w,out,d=>by
  have m:ridesN (x::L)=ridesN [x]+ridesN L:=Zhk [x] L
  have k:ridesN [x]=if JL x then 1 else 0:=by
   unfold ridesN
   cases l:JL x<;>simp [l]
  rw[GN,m,k];by_cases g:x.1=true/\KL n x=false
  ·rw[Zp g];exact⟨fun r c=>absurd c (by simp),fun h=>absurd h (by simp)⟩
  rw[Zf g];by_cases i:Kv x=true/\(x.1=false\/w=false)
  ·rw[Zp i];exact⟨fun r c=>absurd c (by simp),fun h=>absurd h (by simp)⟩
  rw[Zf i];by_cases c3:x.1=true
  ·rw[Zp c3]
   have f:KL n x=true:=by
    cases e:KL n x with
    |true=>rfl
    |false=>exact absurd ⟨c3,e⟩ g
   cases j:Kv x with
   |true=>
    rw[Zp rfl];obtain⟨a,b⟩:=RY h L true (X7 n x out) (ZnZ h f d);rw[Zfs]at b;refine⟨a,fun h=>?_⟩;have:=b h;have c:JL x=false:=by unfold JL;rw[j];simp
    rw[c,Zf (by simp)]
    omega
   |false=>
    rw[Zf (by simp)]
    obtain⟨a,b⟩:=RY h L true (out++[Hf n x]) (fun r c=>by
     rcases Vj.1 c with c|c
     ·exact d r c
     ·rw[Vh.1 c];exact Zk3 h f)
    refine⟨a,fun h=>?_⟩;have:JL x=true:=by unfold JL;rw[c3,j];rfl
    have b:=b h;rw[this,Zp rfl];rw[Vi,List.length_singleton]at b;omega
  ·rw[Zf c3];obtain⟨a,b⟩:=RY h L false out d;refine⟨a,fun h=>?_⟩;have:=b h
   have c:JL x=false:=by unfold JL;cases f:x.1 with
    |false=>rfl
    |true=>exact absurd f c3
   rw[c,Zf (by simp)];omega
theorem Zr6:((Vp 256).all fun M=>decide (Tr.qandNot .i64 (M:Int) 255=0))=true:=by decide+kernel
theorem Zr7(M:Nat)(h:M<256):Tr.qandNot .i64 (M:Int) 255=0:=X8 (List.all_eq_true.1 Zr6 M (Vxb.2 h))
theorem ZiX{z:Nat}(a:z<65536):∀k,Y6 k z<=k/\Y6 k z<=16
 |0=>⟨Vm _,Vea _⟩
 |k+1=>by
  obtain⟨b,c⟩:=ZiX a k;unfold Y6;by_cases d:k<16
  ·omega
  ·have:z >>> k=0:=by rw[Nat.shiftRight_eq_div_pow];refine Nat.div_eq_of_lt (Nat.lt_of_lt_of_le a ?_);exact Vyb (n:=2) (by omega) (show 16<=k by omega)
   rw[this];omega
theorem Zqg{rs:List ZW}(t:∀r∈rs,Zat r)(x:∀v∈rs,Hl v)(C:rs.length<=8)(h:(J8 Y8).2=0):∀k i,rs.length - i=k->i<=rs.length->Dv.Div (KD Y8 rs) i 0:=by
 intro k
 induction k with
 |zero=>
  intro i j o;have:i=(KD Y8 rs).n:=by show i=rs.length;omega
  subst this
  exact .nil
 |succ k B=>
  intro i j o;have a:i<rs.length:=by omega
  have s:=B (i+1) (by omega) (by omega)
  have u:(KD Y8 rs).pr 0 i=0:=by
   show Dt Y8 _ rs i=0;unfold Dt;split
   ·rfl
   ·rfl
  have:=Dv.Div.cons (L:=KD Y8 rs) (i:=i) (k:=i) (p:=0) (Vm _) a (show 0<1 by omega) ?_ s
  ·rw[u]at this;exact this
  have b:=Zp5 h (l:=rs) (fun v y=>(x v y).1) (by omega) (p:=0) (i:=i) (k:=i) (show 0<1 by omega) (Vm _) a;refine b.trans ?_
  have e:(rs.drop i).take (i+1 - i)=[rs[i]]:=by rw[Vga a,show i+1 - i=1 by omega];rfl
  rw[e];obtain⟨Z,M,c,d,f,g⟩:=t rs[i] (Vc a);generalize rs[i]=r at*;unfold cvB
  have w:Gs ((([r]:List ZW)[0]?).getD rd0).1 ((([r]:List ZW)[([r]:List ZW).length - 1]?).getD rd0).1 0=true:=by show Gs r.1 r.1 0=true;unfold Gs;rw[Zd (Vz _)];rfl
  have z:zF [r]=Z:=by show 0 ||| r.2.2.1.toNat=Z;rw[c,Vvb,Vd]
  have m:mF [r]=M:=by show 0 ||| r.2.2.2.1.toNat=M;rw[f,Vvb,Vd]
  show (decide ((1:Int)<=1) && (decide (((Y6 62 (zF [r]):Nat):Int)<=16) && (Gs _ _ 0&&decide (Tr.qandNot .i64 ((mF [r]:Nat):Int) 255=0))))=true;have A:decide (((Y6 62 Z:Nat):Int)<=16)=true:=Zd (by have:=(ZiX d 62).2;omega);rw[w,z,m,Zd (Zr7 M g),A];rfl
theorem Zjt{F:Ku}(hF:Zby F){rs:List ZW}{i:Nat}{s:Int}(h:Dv.Div (KD F rs) i s):0<=s:=by
 induction h with
 |nil=>exact Vz _
 |cons _ _ a _ _ f=>
  rename_i i k p s b c d e;have:=(Zg6 hF a (i:=i)).1;omega
theorem ZdD{n:Zh}(l:Xh n)(k:Whole n)(m:n.2.2.2.2.2.1=Y8)(q:Zt){L:List Zv}(A:L.length<=90)(z:∀x∈L,Zar x){rs:List ZW}(f:WA n L false []=(rs,0))(C:∀v∈rs,Hl v)(w:rs.length<=8):
 ∃t,F78 n q (L,())=some ((((L[0]?).map fun x=>x.2.2.2.2.2.2.1).getD q.2.2.1,((L[L.length - 1]?).map fun x=>x.2.2.2.2.2.2.2.1).getD q.2.2.1,(ridesN L:Int),0,KE L,()),t,0):=by
 have y:F120 n=some true:=by
  classical
  rw[ZcS l];exact congrArg some (Zd k)
 obtain⟨p,r⟩:=RY k.sound L false [] (by simp);rw[f]at p r
 have g:rs.length=ridesN L:=by have:=r rfl;simpa using this
 have b:F79 n (L,())=some (rs,0):=by
  rcases Zhm n (L,()) l A with ⟨_,d⟩|⟨_,_,d⟩
  ·rw[y]at d;cases d
  ·rw[d,f]
 have D:=Zng (L,()) (show L.length<=1000 by omega) z;have j:=k.sound.fare;have h:=l.prods;unfold F78;rw[b];simp only[Za,decide_true,Vg,Ze];rw[m]at j h⊢;have a:=Dv.tab_best (KD Y8 rs) rs.length (Vm _) 0 (by show rs.length - rs.length<=0;omega) (Vea _);have c:=Zqg p C w j _ 0 rfl (Vea _);rcases ZqP j (fun x E=>h x E) rs (by omega) with ⟨d,_⟩|⟨_,B,u⟩|⟨_,s,t,o,u⟩
 ·omega
 ·rw[B]at a;exact absurd c (a 0)
 ·rw[o]at a;have:s=0:=Int.le_antisymm (a.2 0 c) (Zjt (ZjJ j) a.1);subst this;rw[u];refine⟨t,?_⟩;simp only[Za,decide_true,Vg,Ze,D];rw[g];by_cases e:0<L.length
  ·rw[Zd (show (0:Int)<(L.length:Int) by omega)];have el:Vb .i64 ((L.length:Int) - 1)=((L.length - 1:Nat):Int):=by rw[Zs (by omega) (by omega)];omega
   have G:idx L (0:Int)=some L[0]:=ZH (i:=0) e;simp only[Zc,el,G,ZH (show L.length - 1<L.length by omega),Za];rw[Va e,Va (show L.length - 1<L.length by omega)];rfl
  ·rw[Zk (show¬(0:Int)<(L.length:Int) by omega)];have:L=[]:=List.eq_nil_of_length_eq_zero (by omega);subst this;rfl
end Q
namespace Q
open Tr Go
variable {F:Ku}{hF:FO F}{n:Zh}{q:Zt}
structure LV (F:Ku) (hF:FO F) (n:Zh) (q:Zt) (l:Zu):Prop where
 fare:XP F hF l
 len:l.2.2.2.2.2.1.length<=80
 rides:0<=l.2.2.1/\l.2.2.1<=q.2.2.2.2.1
 walk:0<=l.2.2.2.1/\l.2.2.2.1<=q.2.2.2.2.2.1
 time:0<=l.2.1/\l.2.1<=3155932800
 stop:0<=l.1.2.1/\l.1.2.1<(n.1.length:Int)
 kind:l.1.1=1->∃i c:Nat,l.1.2.2.1=(i:Int)/\l.1.2.2.2.1=(c:Int)/\i<n.2.2.1.length/\c<(Zl n i).length/\l.1.2.1=(Zg n i c).1/\l.2.1=(Zg n i c).2.1/\Hl l.1.2.2.2.2.1
 first:∀x,l.2.2.2.2.2.1=[x]->x.1=false->YW x.2.2.2.2.2.2.1/\x.2.2.2.2.2.2.2.1=l.2.1
structure QI (q:Zt):Prop where
 rides:q.2.2.2.2.1<=7
 walk:q.2.2.2.2.2.1<=86400
def WQ(L:List Zv)(d:Int):List Zv:=match L with
 |[x]=>if x.1=true then [x] else [(x.1,x.2.1,x.2.2.1,x.2.2.2.1,x.2.2.2.2.1,x.2.2.2.2.2.1,x.2.2.2.2.2.2.1+(d - x.2.2.2.2.2.2.2.1),d,x.2.2.2.2.2.2.2.2)]
 |L=>L
theorem Ziv(L:List Zv)(d:Int):(WQ L d).length=L.length:=by
 unfold WQ
 grind
theorem ZbM{x:Zv}(h:x.1=true)(d:Int):WQ [x] d=[x]:=by unfold WQ;grind
theorem RK{x:Zv}(h:x.1=false)(d:Int):WQ [x] d=[(x.1,x.2.1,x.2.2.1,x.2.2.2.1,x.2.2.2.2.1,x.2.2.2.2.2.1,x.2.2.2.2.2.2.1+(d - x.2.2.2.2.2.2.2.1),d,x.2.2.2.2.2.2.2.2)]:=by
 show (if x.1=true then [x] else _)=_
 grind
theorem ZbL{L:List Zv}(h:L.length≠1)(d:Int):WQ L d=L:=by
 unfold WQ
 grind
def Xp(n:Zh)(l:Zu)(i c:Nat):Zu:=(l.1,l.2.1,l.2.2.1+1,l.2.2.2.1,l.2.2.2.2.1,WQ l.2.2.2.2.2.1 (Zg n i c).2.2.1,())
def Rk(d:Int):ZW:=(d,0,0,0,())
def RO(n:Zh)(q:Zt)(l:Zu)(i c:Nat):List Zu:=if l.2.2.1=q.2.2.2.2.1 then [] else DC n (Xp n l i c) i c false (Rk (Zg n i c).2.2.1)
theorem Zk2(d:Int):Small (Rk d):=⟨⟨by show (0:Int)<=0;omega,by show (0:Int)<65536;omega⟩,⟨by show (0:Int)<=0;omega,by show (0:Int)<65536;omega⟩⟩
theorem Zpe(u:K1 n)(w:QI q){st:Wd}{N:Nat}(m:XA F hF n q st N){l:Zu}(f:LV F hF n q l){i c:Nat}(s:i<n.2.2.1.length)(r:c<(Zl n i).length)(o:N+(RO n q l i c).length<=549755813888):
 ∃a,F151 st l (i:Int) (c:Int)=some a/\K3 F hF st (RO n q l i c) [] a:=by
 obtain⟨D,E,st2⟩:=st;obtain rfl:n=D:=m.net.symm;obtain rfl:q=E:=m.que.symm;unfold F151;unfold RO at o⊢;by_cases h:l.2.2.1=q.2.2.2.2.1
 ·rw[Zp h,Zd h];exact⟨_,rfl,K3.nil _⟩
 ·rw[Zf h]at o;rw[Zf h,Zk h];have z:=f.rides;have y:=w.rides;have A:Vb .i64 (l.2.2.1+1)=l.2.2.1+1:=Zs (by omega) (by omega);have J:=u.time s r;have d:idx n.2.2.1 (i:Int)=some (rn n (i:Int)):=Dl s;have v:=f.len
  have p:(Xp n l i c).2.2.2.2.2.1.length<=999:=by show (WQ _ _).length<=999;rw[Ziv];omega
  obtain⟨a,k,I⟩:=ZmO u m (l:=Xp n l i c) f.fare p s r false (Zk2 (Zg n i c).2.2.1) o;simp only[Ze,d,Za,RZ r,A];by_cases g:(l.2.2.2.2.2.1.length:Int)=1
  ·obtain⟨x,j⟩:=Vxa.1 (show l.2.2.2.2.2.1.length=1 by omega);rw[Zd g];have B:idx l.2.2.2.2.2.1 (0:Int)=some x:=by rw[j];rfl
   simp only[Zc,B,Za]
   cases b:x.1 with
   |true=>
    simp only[Vg,Ze]
    refine Wf (fun t=>t=Xp n l i c) ⟨_,rfl,?_⟩ (by rintro _ rfl;exact Wf (fun x=>x=a) ⟨_,k,rfl⟩ (by grind))
    unfold Xp
    rw[j,ZbM b, <-j]
   |false=>
    obtain⟨C,K⟩:=f.first x j b
    have M:=f.time;have G:Vb .i64 ((Zg n i c).2.2.1 - x.2.2.2.2.2.2.2.1)=(Zg n i c).2.2.1 - x.2.2.2.2.2.2.2.1:=Zs (by omega) (by omega)
    have H:Vb .i64 (x.2.2.2.2.2.2.1+((Zg n i c).2.2.1 - x.2.2.2.2.2.2.2.1))=x.2.2.2.2.2.2.1+((Zg n i c).2.2.1 - x.2.2.2.2.2.2.2.1):=by unfold YW at C;exact Zs (by omega) (by omega)
    simp only[Vq,Zc,G,H]
    refine Wf (fun t=>t=Xp n l i c) ⟨_,rfl,?_⟩ (by rintro _ rfl;exact Wf (fun x=>x=a) ⟨_,k,rfl⟩ (by grind))
    unfold Xp;rw[j,RK b,b]
  ·rw[Zk g]
   have e:(l.1,l.2.1,l.2.2.1+1,l.2.2.2)=Xp n l i c:=by unfold Xp;rw[ZbL (by omega)]
   simp only[Ze,Za];rw[e];exact Wf (fun x=>x=a) ⟨_,k,rfl⟩ (by grind)
def GC(n:Zh)(l:Zu)(fr:Int)(i c:Nat):Prop:=XX n i=false/\(Zg n i c).2.2.2.1=true/\(Zg n i c).1=l.1.2.1/\c+1≠(Zl n i).length/\(fr<=(Zg n i c).2.2.1\/(l.2.1<=(Zg n i c).2.2.1/\Hw n l i c=true))
instance (n:Zh) (l:Zu) (fr:Int) (i c:Nat):Decidable (GC n l fr i c):=by unfold GC;infer_instance
def HI(n:Zh)(q:Zt)(l:Zu)(fr:Int)(i c:Nat):List Zu:=if GC n l fr i c then RO n q l i c else []
def YE(n:Zh)(q:Zt)(l:Zu)(fr:Int):List Zu:=(Vp n.2.2.1.length).flatMap fun i=>(Vp (Zl n i).length).flatMap fun c=>HI n q l fr i c
theorem ZgM{l:Zu}{fr:Int}{i c:Nat}{x:Zu} :x∈HI n q l fr i c↔GC n l fr i c/\l.2.2.1≠q.2.2.2.2.1/\ ∃d,c<d/\d<(Zl n i).length/\HQ n i d=true/\x=XI n (Xp n l i c) i c d false (Rk (Zg n i c).2.2.1):=by
 unfold HI RO;by_cases a:GC n l fr i c
 ·rw[Zp a];by_cases b:l.2.2.1=q.2.2.2.2.1
  ·grind
  ·rw[Zf b,ZkU]
   grind
 grind
theorem GH{l:Zu}{fr:Int}{x:Zu} :x∈YE n q l fr↔∃i c d,i<n.2.2.1.length/\c<d/\d<(Zl n i).length/\GC n l fr i c/\l.2.2.1≠q.2.2.2.2.1/\HQ n i d=true/\x=XI n (Xp n l i c) i c d false (Rk (Zg n i c).2.2.1):=by
 unfold YE;rw[Vka];constructor
 ·rintro ⟨i,a,b⟩;obtain⟨c,m,b⟩:=Vka.1 b;rw[Vxb]at a m;obtain⟨e,f,d,g,h,j,k⟩:=ZgM.1 b
  grind
 ·rintro ⟨i,c,d,a,g,h,e,f,j,k⟩;exact⟨i,Vxb.2 a,Vka.2 ⟨c,by grind,ZgM.2 ⟨e,f,d,g,h,j,k⟩⟩⟩
theorem ZfK(v:K1 n)(R:QI q){st:Wd}{N:Nat}(B:XA F hF n q st N){l:Zu}(E:LV F hF n q l)(fr:Int)(Q:N+(YE n q l fr).length<=549755813888):
 ∃a,F152 st l fr=some a/\K3 F hF st (YE n q l fr) [] a:=by
 obtain⟨W,J,st2⟩:=st;obtain rfl:n=W:=B.net.symm;have y:=v.sound.runs
 have hlab:∀i c,∀x∈HI n q l fr i c,XP F hF x:=fun i c x U=>by obtain⟨_,_,d,_,_,_,rfl⟩:=ZgM.1 U;exact E.fare
 unfold F152;refine Wf (fun r=>∃a,r=a/\K3 F hF (n,J,st2) (YE n q l fr) [] a) (ZcF (F:=F) (hF:=hF) (n:=n) (q:=q) (m:=n.2.2.1.length) (g:=fun i=>(Vp (Zl n i).length).flatMap fun c=>HI n q l fr i c) (st:=(n,J,st2)) (fun k s=>(s,(k:Int))) (fun s=>s) B ?hlab Q ?hstep ?D) ?fin
 case hlab=>
  grind
 case hstep=>
  intro i s M w b e
  have S:(Zl n i).length<=32:=by have:=(v.sound.many _ (Vc w)).2;rw[G9 w];omega
  simp only[Zd (show (i:Int)<((n.2.2.1.length:Nat):Int) by omega),Zc,Dl w,Za];refine XW (fun r=>∃a,r=a/\K3 F hF s ((Vp (Zl n i).length).flatMap fun c=>HI n q l fr i c) [] a) (ZcF (F:=F) (hF:=hF) (n:=n) (q:=q) (m:=(Zl n i).length) (g:=fun c=>HI n q l fr i c) (st:=s) (fun k s=>(s,(k:Int))) (fun s=>s) b (by grind) e ?hstep2 ?hend2) ?fin2
  case hstep2=>
   intro c s M C b e;have o:decide ((c:Int)<((rn n (i:Int)).2.2.2.2.2.2.2.1.length:Int))=true:=Zd (by show (c:Int)<((Zl n i).length:Int);omega);have T:Vb .i64 ((c:Int)+1)=((c+1:Nat):Int):=by rw[Zs (by omega) (by omega)];omega
   have p:s.1=n:=b.net;have j:=ZtK s (by rw[p];exact v.sound.links) l i c;rw[p]at j;have f:(rn n (i:Int)).2.2.2.2.2.2.1=XX n i:=rfl;have G:((rn n (i:Int)).2.2.2.2.2.2.2.1.length:Int)=((Zl n i).length:Int):=rfl;simp only[o,Zc,RZ C,Za,T,f];have skip:¬GC n l fr i c->∃a,(s,((c+1:Nat):Int))=((a,((c+1:Nat):Int)):Wd×Int)/\K3 F hF s (HI n q l fr i c) [] a:=fun h=>⟨s,rfl,by unfold HI;rw[Zf h];exact K3.nil s⟩
   have brd:GC n l fr i c->∃a,F151 s l (i:Int) (c:Int)=some a/\K3 F hF s (HI n q l fr i c) [] a:=fun h=>by unfold HI at e⊢;rw[Zp h]at e;rw[Zp h];exact Zpe v R b E w C e
   cases H:XX n i with
   |true=>exact⟨_,rfl,skip fun h=>by have:=h.1;grind⟩
   |false=>
   simp only[Ze]
   cases I:(Zg n i c).2.2.2.1 with
   |false=>exact⟨_,rfl,skip fun h=>by have:=h.2.1;grind⟩
   |true=>
   simp only[Vg,Ze];by_cases t:(Zg n i c).1=l.1.2.1
   case neg=>rw[Zk t];exact⟨_,rfl,skip fun h=>t h.2.2.1⟩
   rw[Zd t];simp only[Vg,Ze];by_cases z:c+1=(Zl n i).length
   ·rw[Zd (by omega)];exact⟨_,rfl,skip fun h=>h.2.2.2.1 z⟩
   rw[Zk (by omega)];simp only[Za,Ze];by_cases u:fr<=(Zg n i c).2.2.1
   ·rw[Zd u,Zc];obtain⟨a,K,O⟩:=brd ⟨H,I,t,z,.inl u⟩
    grind
   rw[Zk u,Ze];by_cases A:l.2.1<=(Zg n i c).2.2.1
   ·rw[Zd A,Zc];refine XW (fun x=>x=(s,Hw n l i c)) ⟨_,j,rfl⟩ ?_;rintro _ rfl
    cases V:Hw n l i c with
    |true=>
     obtain⟨a,K,O⟩:=brd ⟨H,I,t,z,.inr ⟨A,V⟩⟩
     grind
    |false=>
     simp only[Ze];exact⟨_,rfl,skip fun h=>h.2.2.2.2.elim u (by grind)⟩
   ·rw[Zk A,Ze];exact⟨_,rfl,skip fun h=>h.2.2.2.2.elim u (by omega)⟩
  case hend2=>
   intro s M b;have o:decide (((Zl n i).length:Int)<((rn n (i:Int)).2.2.2.2.2.2.2.1.length:Int))=false:=Zk (by show¬((Zl n i).length:Int)<((Zl n i).length:Int);omega)
   grind
  case fin2=>
   rintro _ ⟨a,rfl,P⟩;exact⟨_,rfl,_,by rw[Zs (by omega) (by omega)];rfl,P⟩
 all_goals simp
def Xs(l:Zu)(p:ZO):Zu:=((2,p.2.1,0,0,(0,0,0,0,()),()),l.2.1+p.2.2.1,l.2.2.1,l.2.2.2.1+p.2.2.1,l.2.2.2.2.1,l.2.2.2.2.2.1++[Kf l.1.2.1 p.2.1 l.2.1 (l.2.1+p.2.2.1)],())
def D1(q:Zt)(l:Zu)(p:ZO):Prop:=p.1=l.1.2.1/\l.2.2.2.1+p.2.2.1<=q.2.2.2.2.2.1/\l.2.1+p.2.2.1<=3155932800
instance (q:Zt) (l:Zu) (p:ZO):Decidable (D1 q l p):=by unfold D1;infer_instance
def Gq(q:Zt)(l:Zu)(p:ZO):List Zu:=if D1 q l p then [Xs l p] else []
def HB(n:Zh)(q:Zt)(l:Zu):List Zu:=n.2.2.2.2.1.flatMap (Gq q l)
theorem ZgP{l:Zu}{p:ZO}{x:Zu} :x∈Gq q l p↔D1 q l p/\x=Xs l p:=by unfold Gq;simp
theorem Dr{l:Zu}{x:Zu} :x∈HB n q l↔∃p∈n.2.2.2.2.1,D1 q l p/\x=Xs l p:=by unfold HB;rw[Vka];exact⟨fun⟨p,a,b⟩=>⟨p,a,ZgP.1 b⟩,fun⟨p,a,b⟩=>⟨p,a,ZgP.2 b⟩⟩
theorem Znb(C:K1 n)(D:QI q)(Q:n.2.2.2.2.1.length<=4096){st:Wd}{N:Nat}(t:XA F hF n q st N){l:Zu}(e:LV F hF n q l)(o:N+(HB n q l).length<=549755813888):
 ∃a,F161 st l=some a/\K3 F hF st (HB n q l) [] a:=by
 obtain⟨I,A,st2⟩:=st;obtain rfl:n=I:=t.net.symm;unfold F161;unfold HB at o⊢;rw[Zgh]at o⊢;refine Wf (fun r=>∃a,r=a/\K3 F hF (n,A,st2) ((Vp n.2.2.2.2.1.length).flatMap fun i=>(n.2.2.2.2.1[i]?).elim [] (Gq q l)) [] a) (ZcF (F:=F) (hF:=hF) (n:=n) (q:=q) (m:=n.2.2.2.2.1.length) (g:=fun i=>(n.2.2.2.2.1[i]?).elim [] (Gq q l)) (st:=(n,A,st2)) (fun k s=>(s,(k:Int))) (fun s=>s) t ?hlab o ?hstep ?v) ?fin
 case hlab=>
  intro i d x f;rw[Va d]at f;obtain⟨_,rfl⟩:=ZgP.1 f;exact e.fare
 case hstep=>
  intro i s M d c b;have f:idx n.2.2.2.2.1 (i:Int)=some n.2.2.2.2.1[i]:=ZH d;have G:=C.path _ (Vc d);rw[Va d]at b⊢;generalize n.2.2.2.2.1[i]=p at*;have S:=e.walk;have R:=e.time;have E:=D.walk;have H:s.2.1=q:=c.que;have J:Vb .i64 (l.2.2.2.1+p.2.2.1)=l.2.2.2.1+p.2.2.1:=Zs (by omega) (by omega);have K:Vb .i64 (l.2.1+p.2.2.1)=l.2.1+p.2.2.1:=Zs (by omega) (by omega);have O:Vb .i64 ((i:Int)+1)=((i+1:Nat):Int):=by rw[Zs (by omega) (by omega)];omega
  simp only[Zd (show (i:Int)<((n.2.2.2.2.1.length:Nat):Int) by omega),Zc,f,Za,J,K,O];rw[show s.2.1.2.2.2.2.2.1=q.2.2.2.2.2.1 by grind];have skip:¬D1 q l p->∃a,(s,((i+1:Nat):Int))=((a,((i+1:Nat):Int)):Wd×Int)/\K3 F hF s (Gq q l p) [] a:=fun h=>⟨s,rfl,by unfold Gq;rw[Zf h];exact K3.nil s⟩;by_cases j:p.1=l.1.2.1
  case neg=>rw[Zk j];exact⟨_,rfl,skip fun h=>j h.1⟩
  rw[Zd j];by_cases y:q.2.2.2.2.2.1<l.2.2.2.1+p.2.2.1
  ·rw[Zd y];exact⟨_,rfl,skip fun h=>by have:=h.2.1;omega⟩
  rw[Zk y];by_cases z:3155932800<l.2.1+p.2.2.1
  ·rw[Zd z];exact⟨_,rfl,skip fun h=>by have:=h.2.2;omega⟩
  rw[Zk z];have u:D1 q l p:=⟨j,by omega,by omega⟩;unfold Gq at b⊢;simp only[Vic]at b⊢;rw[Zp u]at b;rw[Zp u];obtain⟨a,B,P⟩:=Zft c (show XP F hF (Xs l p) from e.fare) b;have w:=e.len;simp only[Vg,Ze,Za,ZhJ _ (show l.2.2.2.2.2.1.length<=1000 by omega)];refine XW (fun x=>x=a) ⟨_,B,rfl⟩ ?_
  grind
 all_goals simp
def Da(n:Zh)(l:Zu)(k:XC):Prop:=k.2.2.2.2.1=true/\k.1=l.1.2.2.1/\k.2.1=l.1.2.2.2.1/\XX n k.2.2.1.toNat=false/\l.2.1<=(Zg n k.2.2.1.toNat 0).2.2.1
instance (n:Zh) (l:Zu) (k:XC):Decidable (Da n l k):=by unfold Da;infer_instance
def HA(n:Zh)(l:Zu)(k:XC):List Zu:=if Da n l k then DC n l k.2.2.1.toNat 0 true l.1.2.2.2.2.1 else []
def Hz(n:Zh)(l:Zu):List Zu:=n.2.2.2.1.flatMap (HA n l)
theorem ZgO{l:Zu}{k:XC}{x:Zu} :x∈HA n l k↔Da n l k/\ ∃d,0<d/\d<(Zl n k.2.2.1.toNat).length/\HQ n k.2.2.1.toNat d=true/\x=XI n l k.2.2.1.toNat 0 d true l.1.2.2.2.2.1:=by
 unfold HA;by_cases h:Da n l k
 ·rw[Zp h,ZkU];grind
 grind
theorem Zaa{l:Zu}{x:Zu} :x∈Hz n l↔∃k∈n.2.2.2.1,Da n l k/\ ∃d,0<d/\d<(Zl n k.2.2.1.toNat).length/\HQ n k.2.2.1.toNat d=true/\x=XI n l k.2.2.1.toNat 0 d true l.1.2.2.2.2.1:=by unfold Hz;rw[Vka];exact⟨fun⟨p,a,b⟩=>⟨p,a,ZgO.1 b⟩,fun⟨p,a,b⟩=>⟨p,a,ZgO.2 b⟩⟩
theorem Zua(D:K1 n){st:Wd}{N:Nat}(H:XA F hF n q st N){l:Zu}(w:LV F hF n q l)(R:l.1.1=1)(C:N+(Hz n l).length<=549755813888):
 ∃b,F157 st l=some b/\K3 F hF st (Hz n l) [] b:=by
 obtain⟨T,P,st2⟩:=st;obtain rfl:n=T:=H.net.symm;obtain⟨_,_,_,_,_,_,_,_,v⟩:=w.kind R;have y:=D.sound.links;unfold F157;unfold Hz at C⊢;rw[Zgh]at C⊢;refine Wf (fun r=>∃b,r=b/\K3 F hF (n,P,st2) ((Vp n.2.2.2.1.length).flatMap fun i=>(n.2.2.2.1[i]?).elim [] (HA n l)) [] b) (ZcF (F:=F) (hF:=hF) (n:=n) (q:=q) (m:=n.2.2.2.1.length) (g:=fun i=>(n.2.2.2.1[i]?).elim [] (HA n l)) (st:=(n,P,st2)) (fun k s=>(s,(k:Int))) (fun s=>s) H ?hlab C ?hstep ?I) ?fin
 case hlab=>
  intro i t x z;rw[Va t]at z;obtain⟨_,d,_,_,_,rfl⟩:=ZgO.1 z;exact w.fare
 case hstep=>
  intro i s M t o e;have z:idx n.2.2.2.1 (i:Int)=some n.2.2.2.1[i]:=ZH t;obtain⟨a,c,j,d,G,Q,X,J,_,Y,Z,_,_⟩:=D.link _ (Vc t);rw[Va t]at e⊢;generalize n.2.2.2.1[i]=k at*;subst Q;have S:s.1=n:=o.net;have U:Vb .i64 ((i:Int)+1)=((i+1:Nat):Int):=by rw[Zs (by omega) (by omega)];omega
  simp only[Zd (show (i:Int)<((n.2.2.2.1.length:Nat):Int) by omega),Zc,z,Za,U];have skip:¬Da n l ((a:Int),(c:Int),(j:Int),(d:Int),G,())->∃b,(s,((i+1:Nat):Int))=((b,((i+1:Nat):Int)):Wd×Int)/\K3 F hF s (HA n l ((a:Int),(c:Int),(j:Int),(d:Int),G,())) [] b:=fun h=>⟨s,rfl,by unfold HA;rw[Zf h];exact K3.nil s⟩
  cases G with
  |false=>exact⟨_,rfl,skip fun h=>by cases h.1⟩
  |true=>
  simp only[Vg,Ze];by_cases A:(a:Int)=l.1.2.2.1
  case neg=>rw[Zk A];exact⟨_,rfl,skip fun h=>A h.2.1⟩
  rw[Zd A];by_cases B:(c:Int)=l.1.2.2.2.1
  case neg=>rw[Zk B];exact⟨_,rfl,skip fun h=>B h.2.2.1⟩
  rw[Zd B];simp only[Vg,Ze,Za];rw[show s.1.2.2.1=n.2.2.1 by grind];have u:0<(Zl n j).length:=by omega
  have E:idx (rn n (j:Int)).2.2.2.2.2.2.2.1 (0:Int)=some (Zg n j 0):=RZ u;simp only[Dl J,Za,E];have f:(rn n (j:Int)).2.2.2.2.2.2.1=XX n j:=rfl;rw[f]
  cases k3:XX n j with
  |true=>exact⟨_,rfl,skip fun h=>by
    have:=h.2.2.2.1
    grind⟩
  |false=>
  simp only[Vq,Zc,Za];by_cases O:l.2.1<=(Zg n j 0).2.2.1
  case neg=>rw[Zk O];exact⟨_,rfl,skip fun h=>by
             have:=h.2.2.2.2
             grind⟩
  rw[Zd O];have p:Da n l ((a:Int),(c:Int),(j:Int),(d:Int),true,()):=⟨rfl,A,B,by grind,by grind⟩;unfold HA at e⊢;simp only[Vic]at e⊢;rw[Zp p]at e;rw[Zp p];simp only[Vd]at e⊢;have K:=w.len;obtain⟨b,V,W⟩:=ZmO D o w.fare (by omega) J u true v.1 e
  grind
 all_goals simp
end Q
namespace Q
open Tr Go
variable {F:Ku}{hF:FO F}{n:Zh}{q:Zt}
noncomputable def Za7(n:Zh)(q:Zt)(l:Zu):List KA:=match F78 n q (l.2.2.2.2.2.1,()) with
 |some (c,t,e)=>if e=0 then [((l.2.2.2.2.2.1,()),c,t,())] else []
 |none=>[]
theorem Zen{l:Zu}{c:YR}{t:List (Int×Int×Int×Int×Unit)}{e:Int}(h:F78 n q (l.2.2.2.2.2.1,())=some (c,t,e)):Za7 n q l=if e=0 then [((l.2.2.2.2.2.1,()),c,t,())] else []:=by unfold Za7;rw[h]
theorem ZqG{st:Wd}{N:Nat}(h:XA F hF n q st N){l:Zu}(u:l.2.2.2.2.2.1.length<=1000)(m:∃r,F78 n q (l.2.2.2.2.2.1,())=some r)(j:st.2.2.2.2.1.length+1<=549755813888):
 ∃a,F154 st l=some a/\K3 F hF st [] (Za7 n q l) a:=by
 obtain⟨y,z,w,x,g,⟨⟩⟩:=st;obtain rfl:n=y:=h.net.symm;obtain rfl:q=z:=h.que.symm;obtain⟨⟨c,t,e⟩,i⟩:=m;unfold F154
 have d:sliceB (l.2.2.2.2.2.1++[g0]).length (l.2.2.2.2.2.1++[g0]).length none (some (l.2.2.2.2.2.1.length:Int))=some (0,l.2.2.2.2.2.1.length):=by unfold sliceB;simp only[Za,Vi,Vnb,Vx];rw[Zp ⟨by omega,by omega⟩,Vd];rfl
 have v:F162 l.2.2.2.2.2.1 (false,0,0,0,0,0,0,0,false,())=some (l.2.2.2.2.2.1++[g0]):=ZhJ _ u;have f:Vw (l.2.2.2.2.2.1.length - 0) (Vma 0 (l.2.2.2.2.2.1++[g0]))=l.2.2.2.2.2.1:=by simp
 have k:g.length+1<=549755813888:=j
 have s:ZD (decide (g.length+ [((l.2.2.2.2.2.1,()),c,t,())].length<=ZE))=some ():=by rw[Zd (by simp [ZE];omega)];rfl
 simp only[v,Za,d,f,i];rw[Zen i];by_cases b:e=0
 ·subst b;simp only[decide_true,Zc,if_true];refine⟨(n,q,w,x,g++[((l.2.2.2.2.2.1,()),c,t,())],()),?_,[],by simp,by simp,.refl _,⟨rfl,rfl,rfl⟩,fun p o=>by simp [Jw],fun p=>by simp [Jw],by simp,by simp⟩;refine KF (fun _=>True) ⟨(),s,trivial⟩ fun _ _=>rfl
 ·rw[Zk b,Zf b];exact⟨_,rfl,K3.nil _⟩
noncomputable def Rp(s:J5)(r:ZW):J5:=((F21 s r).getD ([],1)).1
noncomputable def YJ(l:Zu):Zu:=(l.1,l.2.1,l.2.2.1,l.2.2.2.1,Rp l.2.2.2.2.1 l.1.2.2.2.2.1,l.2.2.2.2.2.1,())
def Jg(n:Zh)(l:Zu):Bool:=(Zg n l.1.2.2.1.toNat l.1.2.2.2.1.toNat).2.2.2.2.1
def JT(n:Zh)(s:Int):Int:=(Wv n s).2.2.2.1
noncomputable def JN(n:Zh)(q:Zt)(l:Zu):List Zu:=
 if l.1.1=1 then Hz n l++(if Jg n l=true then YE n q (YJ l) (l.2.1+JT n l.1.2.1)++HB n q (YJ l) else [])
 else if l.1.1=2 then YE n q l l.2.1
 else YE n q l (l.2.1+(if q.2.2.2.2.2.2.2.2.2.1=true then JT n l.1.2.1 else 0))++HB n q l
def Xq(n:Zh)(q:Zt)(l:Zu):Prop:=(l.1.1=1->Jg n l=true)/\l.1.2.1=q.2.1
instance (n:Zh) (q:Zt) (l:Zu):Decidable (Xq n q l):=by unfold Xq;infer_instance
noncomputable def JB(n:Zh)(q:Zt)(l:Zu):List KA:=if Xq n q l then Za7 n q l else []
theorem Zhi{l:Zu}(c:LV F hF n q l)(i:l.1.1=1)(h:(WX l.2.2.2.2.1).length+1<=8):F21 l.2.2.2.2.1 l.1.2.2.2.2.1=some (Rp l.2.2.2.2.1 l.1.2.2.2.2.1,0)/\HZ F hF (WX l.2.2.2.2.1++[l.1.2.2.2.2.1]) (Rp l.2.2.2.2.1 l.1.2.2.2.2.1)/\ ∀v∈WX l.2.2.2.2.1++[l.1.2.2.2.2.1],Hl v:=by
 obtain⟨_,_,_,_,_,_,_,_,a⟩:=c.kind i
 have f:∀v∈WX l.2.2.2.2.1++[l.1.2.2.2.2.1],Hl v:=fun v b=>by
  rw[Vj,Vh]at b;rcases b with b|rfl
  ·exact c.fare.2 v b
  ·exact a
 obtain⟨j,d,g⟩:=Zt6 hF c.fare.1 f h;have e:Rp l.2.2.2.2.1 l.1.2.2.2.2.1=j:=by unfold Rp;rw[d];rfl
 rw[e];exact⟨d,g,f⟩
theorem LV.next{l:Zu}(a:LV F hF n q l)(f:l.1.1=1)(d:(WX l.2.2.2.2.1).length+1<=8):LV F hF n q (YJ l):=by
 obtain⟨g,b,c⟩:=Zhi a f d;have e:=Zl3 b
 refine⟨⟨?_,?_⟩,a.len,a.rides,a.walk,a.time,a.stop,a.kind,a.first⟩
 ·show HZ F hF (WX (Rp _ _)) (Rp _ _);rw[e];exact b
 ·show∀v∈WX (Rp _ _),Hl v;rw[e];exact c
theorem ZuK(A:K1 n)(P:QI q)(hp:n.2.2.2.2.1.length<=4096){st:Wd}{N:Nat}(s:XA F hF n q st N){l:Zu}(e:LV F hF n q l)(Q:l.1.1=1->(WX l.2.2.2.2.1).length+1<=8)(a:∀x∈JN n q l,XP F hF x)
 (hc:∃r,F78 n q (l.2.2.2.2.2.1,())=some r) (t:N+(JN n q l).length<=549755813888) (O:st.2.2.2.2.1.length+1<=549755813888):
 ∃b,F160 st l=some b/\K3 F hF st (JN n q l) (JB n q l) b:=by
 obtain⟨sn,sq,st2⟩:=st;obtain rfl:n=sn:=s.net.symm;obtain rfl:q=sq:=s.que.symm;have a8:=e.len;have a7:=A.change _ e.stop.1 e.stop.2;have a9:=e.time
 have m:idx n.1 l.1.2.1=some (Wv n l.1.2.1):=by
  have hi:Kh l.1.2.1 n.1.length=true:=by unfold Kh;rw[Zd e.stop.1,Zd e.stop.2];rfl
  exact J9 hi s0
 have T:Vb .i64 (l.2.1+(Wv n l.1.2.1).2.2.2.1)=l.2.1+JT n l.1.2.1:=Zs (by omega) (by omega)
 have fin:∀(st:Wd) (M:Nat),XA F hF n q st M->st.2.2.2.2.1.length+1<=549755813888->(l.1.1=1->Jg n l=true)->
  ∃b,(bif decide (l.1.2.1=st.2.1.2.1) then Vo (F154 (st.1,st.2.1,st.2.2.1,((),st.2.2.2.1.2.1,st.2.2.2.1.2.2.1,()),st.2.2.2.2.1,()) l) fun G=>some (G.1,G.2.1,G.2.2.1,((),G.2.2.2.1.2.1,G.2.2.2.1.2.2.1,()),G.2.2.2.2.1,())
   else some (st.1,st.2.1,st.2.2.1,((),st.2.2.2.1.2.1,st.2.2.2.1.2.2.1,()),st.2.2.2.2.1,()))=some b/\K3 F hF st [] (JB n q l) b:=fun st M J O j=>by
  have S:st.2.1=q:=J.que;unfold JB;by_cases W:l.1.2.1=q.2.1
  ·rw[Zp ⟨j,W⟩,Zd (show l.1.2.1=st.2.1.2.1 by rw[S];exact W),Zc];obtain⟨b,h1,h2⟩:=ZqG J (show l.2.2.2.2.2.1.length<=1000 by omega) hc O;exact Wf (fun x=>x=b) ⟨_,h1,rfl⟩ fun x D=>⟨_,rfl,by subst D;exact h2⟩
  ·rw[Zf (fun h=>W h.2),Zk (show¬l.1.2.1=st.2.1.2.1 by rw[S];exact W)];exact⟨_,rfl,K3.nil _⟩
 unfold F160;unfold JN at t a⊢;by_cases f:l.1.1=1
 ·rw[Zp f]at t a⊢;rw[Zd f,Zc];rw[Vi]at t;obtain⟨i,c,e1,e2,hi,a0,_⟩:=e.kind f;obtain⟨E,a1,V⟩:=Zua A s e f (by omega);have y:=s.adds (fun x D=>a x (Via _ D)) V;have a6:E.1=n:=y.net
  have a4:E.2.2.2.2.1.length+1<=549755813888:=by obtain⟨_,_,_,_,⟨_,_,h3⟩,_⟩:=V;rw[h3,Vt];exact O
  have B:idx E.1.2.2.1 l.1.2.2.1=some (rn n (i:Int)):=by rw[a6,e1];exact Dl hi
  have o:idx (rn n (i:Int)).2.2.2.2.2.2.2.1 l.1.2.2.2.1=some (Zg n i c):=by rw[e2];exact RZ a0
  have j:Jg n l=(Zg n i c).2.2.2.2.1:=by unfold Jg;rw[e1,e2,Vd,Vd]
  refine Wf (fun x=>∃b,x=b/\K3 F hF (n,q,st2) (Hz n l++(if Jg n l=true then YE n q (YJ l) (l.2.1+JT n l.1.2.1)++HB n q (YJ l) else [])) (JB n q l) b) ?_ (by rintro _ ⟨b,rfl,h⟩;exact⟨_,rfl,h⟩)
  unfold F153;refine Wf (fun x=>x=E) ⟨_,a1,rfl⟩ ?_;rintro E rfl;simp only[B,o,Za]
  cases u:Jg n l with
  |false=>
   rw[j]at u;rw[u]
   have a3:JB n q l=[]:=by unfold JB;rw[Zf];intro h;have:=h.1 f;rw[j,u]at this;cases this
   rw[a3];simp only[Vq,Zc,Bool.false_eq_true,if_false,Vt]
   exact⟨_,rfl,_,rfl,V⟩
  |true=>
   rw[u,Zp rfl,Vi]at t;rw[u,Zp rfl]at a;obtain⟨g,H,p⟩:=fin E _ y a4 (fun _=>u);rw[j]at u;rw[u];simp only[Vg,Ze];have d:=y.adds (by simp) p;have C:g.1=n:=d.net;obtain⟨c1,c2,c3⟩:=Zhi e f (Q f)
   have R:=e.next f (Q f)
   have K:∀x∈YE n q (YJ l) (l.2.1+JT n l.1.2.1),XP F hF x:=fun x D=>a x (Vab _ (Via _ D));obtain⟨v,I,w⟩:=ZfK A P d R (l.2.1+JT n l.1.2.1) (by simp only[Vx];omega);have z:=d.adds K w;obtain⟨U,Y,Z⟩:=Znb A P hp z R (by simp only[Vx];omega);refine Wf (fun x=>x=g) ⟨_,H,rfl⟩ ?_;rintro g rfl;have k:idx g.1.1 l.1.2.1=some (Wv n l.1.2.1):=by rw[C];exact m
   simp only[c1,Za,decide_true,Vg,Ze,k,T];refine Wf (fun x=>x=v) ⟨_,I,rfl⟩ ?_;rintro v rfl;refine Wf (fun x=>x=U) ⟨_,Y,rfl⟩ ?_;rintro U rfl;refine⟨_,rfl,_,rfl,?_⟩;have:=(V.trans p).trans (w.trans Z);simpa using this
 ·rw[Zf f]at t a⊢;rw[Zk f,Ze];by_cases X:l.1.1=2
  ·rw[Zp X]at t a⊢;rw[Zd X,Zc];obtain⟨g,H,p⟩:=fin (n,q,st2) N s O (fun h=>absurd h f);have d:=s.adds (by simp) p;obtain⟨v,I,w⟩:=ZfK A P d e l.2.1 (by simp only[Vx];omega);refine Wf (fun x=>x=g) ⟨_,H,rfl⟩ ?_;rintro g rfl;refine Wf (fun x=>x=v) ⟨_,I,rfl⟩ ?_;rintro v rfl;refine⟨_,rfl,?_⟩;have:=p.trans w;simpa using this
  ·rw[Zf X]at t a⊢;rw[Zk X,Ze];rw[Vi]at t;obtain⟨g,H,p⟩:=fin (n,q,st2) N s O (fun h=>absurd h f);have d:=s.adds (by simp) p;have C:g.1=n:=d.net;have a5:g.2.1=q:=d.que;have k:idx g.1.1 l.1.2.1=some (Wv n l.1.2.1):=by rw[C];exact m
   obtain⟨v,I,w⟩:=ZfK A P d e (l.2.1+(if q.2.2.2.2.2.2.2.2.2.1=true then JT n l.1.2.1 else 0)) (by simp only[Vx];omega)
   have z:=d.adds (fun x D=>a x (Via _ D)) w;obtain⟨U,Y,Z⟩:=Znb A P hp z e (by simp only[Vx];omega);refine Wf (fun x=>x=g) ⟨_,H,rfl⟩ ?_;rintro g rfl
   refine Wf (fun x=>x=l.2.1+(if q.2.2.2.2.2.2.2.2.2.1=true then JT n l.1.2.1 else 0)) ?_ ?_
   ·rw[a5]
    cases q.2.2.2.2.2.2.2.2.2.1 with
    |true=>simp only[Zc,k,Za,T,if_true];exact⟨_,rfl,rfl⟩
    |false=>exact⟨_,rfl,by simp⟩
   ·rintro _ rfl;refine Wf (fun x=>x=v) ⟨_,I,rfl⟩ ?_;rintro v rfl;refine Wf (fun x=>x=U) ⟨_,Y,rfl⟩ ?_;rintro U rfl;refine⟨_,rfl,?_⟩;have:=p.trans (w.trans Z);simpa using this
end Q
namespace Q
open Tr Go
structure JE (n:Zh):Prop where
 stops:n.1.length<=5
 runs:n.2.2.1.length<=7
 paths:n.2.2.2.2.1.length<=60
 calls:∀i,i<n.2.2.1.length->(Zl n i).length<=6
variable {n:Zh}{q:Zt}
noncomputable def Zbl(n:Zh):Int->Option Int:=K2 n n.2.2.2.1.length
def YY(n:Zh)(a b:Int):Prop:= ∃k,Kn (Zbl n) a (k+1)=some b
theorem Zlm(f:Int->Option Int):∀(k:Nat) {a b c:Int}{l:Nat},Kn f a k=some b->Kn f b l=some c->Kn f a (k+l)=some c
 |0,a,b,c,l,d,g=>by
  have:a=b:=Option.some.inj d
  grind
 |k+1,a,b,c,l,d,g=>by
  have e:(f a).bind (fun b=>Kn f b k)=some b:=d;obtain⟨i,j,h⟩:=Option.bind_eq_some_iff.1 e;have:=Zlm f k h g;rw[show k+1+l=(k+l)+1 by omega];show (f a).bind (fun b=>Kn f b (k+l))=some c
  grind
theorem YY.trans{a b c:Int}(d:YY n a b)(e:YY n b c):YY n a c:=by obtain⟨k,d⟩:=d;obtain⟨l,e⟩:=e;exact⟨k+l+1,by rw[show k+l+1+1=(k+1)+(l+1) by omega];exact Zlm _ _ d e⟩
theorem YY.one{a b:Int}(h:Zbl n a=some b):YY n a b:=⟨0,by show (Zbl n a).bind (fun b=>some b)=some b;grind⟩
theorem YY.irr(h:Whole n){a:Int} :¬YY n a a:=by rintro ⟨k,c⟩;exact Zk8 (ZdI (fun j b=>K6.1 h.g j b) a) k c
theorem ZmB(h:Whole n){i c j d:Nat}(p:isLink n i c j d true):Zbl n (i:Int)=some (j:Int):=by
 obtain⟨a,k,u⟩:=Vs p;have r:lk n a=((i:Int),(c:Int),(j:Int),(d:Int),true,()):=by unfold lk;grind
 cases l:Zbl n (i:Int) with
 |none=>
  have:=ZgV l a k (by grind)
  grind
 |some b=>
  obtain⟨e,m,o,s,t⟩:=Za5 l
  have:e=a:=by
   rcases Vmb e a with f|rfl|f
   ·have:=(R7 (K6.1 h.g a k)).2.2 (by grind)
    grind
   ·rfl
   ·have:=(R7 (K6.1 h.g e m)).2.2 o
    grind
  grind
open Classical in
noncomputable def Xv(n:Zh)(a b:Nat):Nat:=if YY n (a:Int) (b:Int) then 1 else 0
noncomputable def Jm(n:Zh)(a:Nat):Nat:=Xv n a 0+Xv n a 1+Xv n a 2+Xv n a 3+Xv n a 4+Xv n a 5+Xv n a 6
theorem ZsT(a b:Nat):Xv n a b<=1:=by unfold Xv;grind
theorem ZlQ(h:Whole n)(a:Nat):Xv n a a=0:=by unfold Xv;rw[Zf (YY.irr h)]
theorem ZsS(h:Whole n)(a b:Nat):Xv n a b+Xv n b a<=1:=by
 unfold Xv;by_cases c:YY n (a:Int) (b:Int)
 ·rw[Zp c,Zf (fun d=>YY.irr h (c.trans d))];omega
 grind
theorem Zs9(a:Nat):Jm n a<=7:=by have:=fun b=>ZsT (n:=n) a b;have c:=this 0;have d:=this 1;have e:=this 2;have f:=this 3;have g:=this 4;have h:=this 5;have i:=this 6;unfold Jm;omega
theorem Zta(h:Whole n):Jm n 0+Jm n 1+Jm n 2+Jm n 3+Jm n 4+Jm n 5+Jm n 6<=21:=by have a:=ZsS h;have i:=ZlQ h;have s:=i 0;have t:=i 1;have u:=i 2;have v:=i 3;have w:=i 4;have x:=i 5;have y:=i 6;have b:=a 0 1;have c:=a 0 2;have d:=a 0 3;have e:=a 0 4;have f:=a 0 5;have g:=a 0 6;have a12:=a 1 2;have j:=a 1 3;have k:=a 1 4;have l:=a 1 5;have m:=a 1 6;have a23:=a 2 3;have a24:=a 2 4;have a25:=a 2 5;have a26:=a 2 6;have o:=a 3 4;have a35:=a 3 5;have p:=a 3 6;have a45:=a 4 5;have a46:=a 4 6;have r:=a 5 6;unfold Jm;omega
theorem Zl7(h:Whole n){i j:Nat}(f:j<7)(d:Zbl n (i:Int)=some (j:Int)):Jm n j+1<=Jm n i:=by
 have c:=YY.one d
 have a:∀k,Xv n j k<=Xv n i k:=fun k=>by
  unfold Xv;by_cases b:YY n (j:Int) (k:Int)
  ·rw[Zp b,Zp (c.trans b)];omega
  grind
 have b:Xv n i j=1:=by unfold Xv;grind
 have e:=ZlQ h j;have g:=a 0;have l:=a 1;have m:=a 2;have o:=a 3;have p:=a 4;have r:=a 5;have s:=a 6;unfold Jm
 grind
def K7:Nat->(Nat->Nat)->Nat
 |0,_=>0
 |m+1,f=>K7 m f+f m
theorem DA{f g:Nat->Nat} :∀{m:Nat},(∀i,i<m->f i<=g i)->K7 m f<=K7 m g
 |0,_=>Vm _
 |m+1,h=>Vfb (DA (by grind)) (by grind)
theorem Zbm(f g:Nat->Nat):∀m,K7 m (fun i=>f i+g i)=K7 m f+K7 m g
 |0=>rfl
 |m+1=>by show K7 m _+(f m+g m)=(K7 m f+f m)+(K7 m g+g m);rw[Zbm f g m];omega
theorem Zbn(c:Nat)(f:Nat->Nat):∀m,K7 m (fun i=>c*f i)=c*K7 m f
 |0=>rfl
 |m+1=>by show K7 m _+_=c* (K7 m f+f m);rw[Zbn c f m,Nat.mul_add]
theorem ZeM{f:Nat->Nat} :∀{m:Nat},(∀i,i<m->f i=0)->K7 m f=0
 |0,_=>rfl
 |m+1,h=>by show K7 m f+f m=0;rw[ZeM (by grind),h m (by omega)]
theorem ZhF{f:Nat->Nat}{j:Nat} :∀{m:Nat},(∀i,i<m->i≠j->f i=0)->K7 m f<=f j
 |0,_=>Vea _
 |m+1,h=>by
  show K7 m f+f m<=f j;by_cases e:m=j
  ·subst e;rw[ZeM (by grind)];omega
  ·rw[h m (by omega) e];exact ZhF (by grind)
theorem ZhE(c:Nat):∀m,K7 m (fun _=>c)=m*c
 |0=>by simp [K7]
 |m+1=>by show K7 m _+c=_;rw[ZhE c m,Nat.succ_mul]
theorem ZcO{β:Type}(w:β->Nat)(f:Nat->List β):∀m,(((Vp m).flatMap f).map w).sum=K7 m fun i=>((f i).map w).sum
 |0=>rfl
 |m+1=>by
  have e: [m].flatMap f=f m:=by simp
  rw[Vnc,Vta,Vn,Vy,ZcO w f m,e];rfl
def gW:Nat->Nat
 |0=>271
 |l+1=>61+1260*gW l
theorem ZjZ(l:Nat):271<=gW l:=by
 induction l with
 |zero=>exact Vm _
 |succ l a=>unfold gW;omega
noncomputable def Rw(n:Zh)(l i c:Nat):Nat:=gW l* (1+if c+1=(Zl n i).length then 5*Jm n i else 0)
noncomputable def wr(n:Zh):Nat->Nat->Nat->Nat
 |0,_,_=>1
 |l+1,i,c=>Rw n l i c
noncomputable def bw(n:Zh)(l i b:Nat):Nat:=K7 ((Zl n i).length - (b+1)) fun k=>wr n l i (b+1+k)
noncomputable def rW(n:Zh)(l:Nat)(s:Int):Nat:=K7 n.2.2.1.length fun i=>K7 (Zl n i).length fun b=>if (Zg n i b).1=s then bw n l i b else 0
noncomputable def tW(n:Zh)(l:Nat):Nat:=K7 n.2.2.1.length fun i=>K7 (Zl n i).length fun b=>bw n l i b
theorem ZkG(l i b:Nat):K7 ((Zl n i).length - (b+1)) (fun k=>Rw n l i (b+1+k))<=gW l* ((Zl n i).length - (b+1)+5*Jm n i):=by
 unfold Rw;rw[Zbn];refine Vla _ ?_;rw[Zbm,ZhE];refine Vfb (by omega) ?_;by_cases a:(Zl n i).length - (b+1)=0
 ·rw[a];exact Vea _
 ·refine Vr (ZhF (j:=(Zl n i).length - (b+1) - 1) (by grind)) ?_
  grind
theorem Zts(l i:Nat):∀m,m<=(Zl n i).length->(Zl n i).length<=6->K7 m (fun b=>K7 ((Zl n i).length - (b+1)) fun k=>Rw n l i (b+1+k))<=gW l* (15+25*Jm n i):=by
 intro m h e
 refine Vr (DA (g:=fun b=>gW l* ((Zl n i).length - (b+1)+(if b+1<(Zl n i).length then 5*Jm n i else 0))) fun b f=>?_) ?_
 ·by_cases a:b+1<(Zl n i).length
  ·rw[Zp a];exact ZkG l i b
  ·have:(Zl n i).length - (b+1)=0:=by omega
   rw[this];exact Vea _
 ·rw[Zbn];refine Vla _ ?_;generalize (Zl n i).length=k at*;generalize Jm n i=r;have d:k=0\/k=1\/k=2\/k=3\/k=4\/k=5\/k=6:=by omega
  have c:m=0\/m=1\/m=2\/m=3\/m=4\/m=5\/m=6:=by omega
  rcases d with rfl|rfl|rfl|rfl|rfl|rfl|rfl<;>rcases c with rfl|rfl|rfl|rfl|rfl|rfl|rfl<;>simp [K7]<;>omega
theorem Zuk{f:Nat->Nat}{m:Nat}(b:m<=7):K7 m f<=f 0+f 1+f 2+f 3+f 4+f 5+f 6:=by
 have a:m=0\/m=1\/m=2\/m=3\/m=4\/m=5\/m=6\/m=7:=by omega
 rcases a with rfl|rfl|rfl|rfl|rfl|rfl|rfl|rfl<;>simp [K7]<;>omega
theorem Zum(c:Whole n)(a:JE n)(l:Nat):61+2*tW n l<=gW l:=by
 cases l with
 |zero=>
  have:tW n 0<=105:=by
   unfold tW;refine Vr (DA (g:=fun _=>15) fun i b=>?_) ?_
   ·have f:=a.calls i b;unfold bw wr;generalize (Zl n i).length=k at*;have d:k=0\/k=1\/k=2\/k=3\/k=4\/k=5\/k=6:=by omega
    rcases d with rfl|rfl|rfl|rfl|rfl|rfl|rfl<;>simp [K7]
   ·rw[ZhE];have:=a.runs;omega
  show 61+2*tW n 0<=271
  omega
 |succ l=>
  have e:tW n (l+1)<=gW l*630:=by unfold tW bw wr;refine Vr (DA (g:=fun i=>gW l* (15+25*Jm n i)) fun i b=>Zts l i _ (Vm _) (a.calls i b)) ?_;rw[Zbn];refine Vla _ (Vr (Zuk a.runs) ?_);have:=Zta c;omega
  show 61+2*tW n (l+1)<=61+1260*gW l;omega
def RS(P:List ZO)(s t:Int):Nat:=(P.filter fun p=>decide (p.1=s) &&decide (p.2.1=t)).length
theorem Znh(l:Nat)(s:Int):∀P:List ZO,((P.filter fun p=>decide (p.1=s)).map fun p=>rW n l p.2.1).sum=K7 n.2.2.1.length fun i=>K7 (Zl n i).length fun b=>RS P s (Zg n i b).1*bw n l i b
 |[]=>by
  symm
  exact ZeM fun i _=>ZeM fun b _=>by simp [RS]
 |p::P=>by
  have a:=Znh l s P;rw[Vjc];by_cases h:p.1=s
  ·rw[Zp (by grind),Vv,Vha,a];unfold rW;rw[<-Zbm];congr 1;funext i;rw[<-Zbm];congr 1;funext b;unfold RS
   grind
  ·rw[Zf (by grind),a];congr 1;funext i;congr 1;funext b;unfold RS
   grind
theorem Zp1(m:Whole n)(s t:Int):(if t=s then 1 else 0)+RS n.2.2.2.2.1 s t<=2:=by
 obtain⟨w,o⟩:=Zg4.1 (K6.1 m.q);unfold RS;have e:∀p∈n.2.2.2.2.1.filter (fun p=>decide (p.1=s) &&decide (p.2.1=t)),p.1=s/\p.2.1=t:=by simp
 have d:=o.sublist (List.filter_sublist (p:=fun p:ZO=>decide (p.1=s) &&decide (p.2.1=t)))
 have f:∀p∈n.2.2.2.2.1.filter (fun p=>decide (p.1=s) &&decide (p.2.1=t)),p.1≠p.2.1:=fun p d=>by exact(m.ok.path p (Vfa.1 d).1).2.2.1
 generalize n.2.2.2.2.1.filter (fun p=>decide (p.1=s) &&decide (p.2.1=t))=F at*
 match F,e,d,f with
 |[],_,_,_=>grind
 |[a],e,_,f=>
  grind
 |[a,b],e,_,f=>
  grind
 |a::b::c::F,e,d,_=>
  exfalso;have j:=e a (by simp);have k:=e b (by simp);have l:=e c (by simp);rw[Vhb]at d;have g:=d.1 b (by simp);have h:=d.1 c (by simp);have i:=(Vhb.1 d.2).1 c (by simp);unfold WW at g h i;rw[j.1,j.2,k.1,k.2]at g;rw[j.1,j.2,l.1,l.2]at h;rw[k.1,k.2,l.1,l.2]at i;have r:a.2.2.2.1≠b.2.2.2.1:=by grind
  have u:a.2.2.2.1≠c.2.2.2.1:=by grind
  have v:b.2.2.2.1≠c.2.2.2.1:=by grind
  exact(show∀x y z:Bool,x≠y->x≠z->y≠z->False by decide) _ _ _ r u v
theorem Zk6(c:Whole n)(a:JE n)(l:Nat)(s:Int):1+rW n l s+((n.2.2.2.2.1.filter fun p=>decide (p.1=s)).map fun p=>1+rW n l p.2.1).sum<=gW l:=by
 have d:∀P:List ZO,(P.map fun p=>1+rW n l p.2.1).sum=P.length+(P.map fun p=>rW n l p.2.1).sum:=by
  intro P
  induction P with
  |nil=>rfl
  |cons p P g=>grind
 rw[d,Znh];have f:(n.2.2.2.2.1.filter fun p=>decide (p.1=s)).length<=60:=Vr (Vpa _ _) a.paths
 have key:rW n l s+(K7 n.2.2.1.length fun i=>K7 (Zl n i).length fun b=>RS n.2.2.2.2.1 s (Zg n i b).1*bw n l i b)<=2*tW n l:=by
  unfold rW tW;rw[<-Zbm, <-Zbn];refine DA fun i _=>?_;rw[<-Zbm, <-Zbn];refine DA fun b _=>?_;have:=Zp1 c s (Zg n i b).1
  have e:(if (Zg n i b).1=s then bw n l i b else 0)=(if (Zg n i b).1=s then 1 else 0) *bw n l i b:=by grind
  rw[e, <-Nat.add_mul];exact Nat.mul_le_mul_right _ this
 have:=Zum c a l;omega
end Q
namespace Q
open Tr Go
variable {F:Ku}{hF:FO F}{n:Zh}{q:Zt}
theorem ZmF{α β:Type}(w:β->Nat)(f:α->List β):∀l:List α,((l.flatMap f).map w).sum=(l.map fun x=>((f x).map w).sum).sum
 |[]=>rfl
 |x::l=>by rw[List.flatMap_cons,Vn,Vy,ZmF w f l];rfl
def KT(q:Zt)(l:Zu):Nat:=(q.2.2.2.2.1 - l.2.2.1).toNat
noncomputable def wL(n:Zh)(q:Zt)(l:Zu):Nat:=if l.1.1=1 then Rw n (KT q l) l.1.2.2.1.toNat l.1.2.2.2.1.toNat else if l.1.1=2 then 1+rW n (KT q l) l.1.2.1 else gW (KT q l)
noncomputable def hL(n:Zh)(q:Zt)(l:Zu):Nat:=20*KT q l+(if l.1.1=1 then 10+Jm n l.1.2.2.1.toNat else if l.1.1=2 then 5 else 19)
theorem ZuL(l:Zu)(i b c:Nat)(st:Bool)(v:ZW):wL n q (XI n l i b c st v)=Rw n (KT q l) i c:=by unfold wL XI KT;simp only[if_true,Vd]
theorem ZmN(l:Zu)(i b:Nat)(st:Bool)(v:ZW):((DC n l i b st v).map (wL n q)).sum<=K7 ((Zl n i).length - (b+1)) fun k=>Rw n (KT q l) i (b+1+k):=by
 unfold DC;rw[ZcO];refine DA fun k _=>?_;unfold Rt;split
 ·simp only[Vv,Vva,Vha,Vdb,ZuL];exact Vm _
 ·exact Vea _
theorem Zpd{l:Zu}(a:l.2.2.1<=q.2.2.2.2.1)(i c:Nat):((RO n q l i c).map (wL n q)).sum<=bw n (KT q l) i c:=by
 unfold RO;split
 ·exact Vea _
 ·next h=>
  refine Vr (ZmN ..) ?_;unfold bw
  have e:KT q l=KT q (Xp n l i c)+1:=by unfold KT Xp;simp only;omega
  rw[e];exact Vm _
theorem ZfL{l:Zu}(a:l.2.2.1<=q.2.2.2.2.1)(fr:Int):((YE n q l fr).map (wL n q)).sum<=rW n (KT q l) l.1.2.1:=by
 unfold YE rW;rw[ZcO];refine DA fun i _=>?_;rw[ZcO];refine DA fun c _=>?_;unfold HI;split
 ·next h=>rw[Zp h.2.2.1];exact Zpd a i c
 ·exact Vea _
theorem ZuM(l:Zu)(p:ZO):wL n q (Xs l p)=1+rW n (KT q l) p.2.1:=rfl
theorem Znc(l:Zu):((HB n q l).map (wL n q)).sum<=((n.2.2.2.2.1.filter fun p=>decide (p.1=l.1.2.1)).map fun p=>1+rW n (KT q l) p.2.1).sum:=by
 unfold HB;rw[ZmF];generalize n.2.2.2.2.1=P
 induction P with
 |nil=>exact Vm _
 |cons p P a=>
  rw[Vv,Vha,Vjc];by_cases h:p.1=l.1.2.1
  ·rw[Zp (Zd h),Vv,Vha];refine Vfb ?_ a;unfold Gq;split
   ·simp only[Vv,Vva,Vha,Vdb,ZuM];exact Vm _
   ·exact Vea _
  ·rw[Zf (by simpa using h)]
   have:((Gq q l p).map (wL n q)).sum=0:=by unfold Gq;rw[Zf (fun b=>h b.1)];rfl
   rw[this,Vpb];exact a
theorem Zuc(h:Whole n){a c:Nat}(f:a<n.2.2.2.1.length)(i:c<n.2.2.2.1.length)(j:(n.2.2.2.1[a]).2.2.2.2.1=true)(k:(n.2.2.2.1[c]).2.2.2.2.1=true)(e:(n.2.2.2.1[a]).1=(n.2.2.2.1[c]).1):a=c:=by
 have g:∀b (l:b<n.2.2.2.1.length),lk n b=n.2.2.2.1[b]:=fun b l=>by unfold lk;rw[Kx l]
 rcases Vmb a c with d|rfl|d
 ·have:=(R7 (K6.1 h.g c i)).2.2 (by rw[g c i];exact k);exact absurd ⟨a,d,by rw[g a f];exact j,.inl (by rw[g a f,g c i];exact e)⟩ this.1
 ·rfl
 ·have:=(R7 (K6.1 h.g a f)).2.2 (by rw[g a f];exact j);exact absurd ⟨c,d,by rw[g c i];exact k,.inl (by rw[g a f,g c i];exact e.symm)⟩ this.1
theorem Zub(p:Whole n)(y:JE n){l:Zu}{i c:Nat}(M:l.1.2.2.1=(i:Int))(N:l.1.2.2.2.1=(c:Int)):((Hz n l).map (wL n q)).sum<=gW (KT q l) * (if c+1=(Zl n i).length then 5*Jm n i else 0):=by
 by_cases m:∃a,∃e:a<n.2.2.2.1.length,Da n l n.2.2.2.1[a]
 ·obtain⟨a,e,s⟩:=m;unfold Hz;rw[Zgh,ZcO];refine Vr (ZhF (j:=a) fun b z u=>?_) ?_
  ·rw[Va z];show ((HA n l n.2.2.2.1[b]).map (wL n q)).sum=0;unfold HA;rw[Zf]
   ·rfl
   ·intro g;exact u (Zuc p z e g.1 s.1 (g.2.1.trans s.2.1.symm))
  ·rw[Va e];show ((HA n l n.2.2.2.1[a]).map (wL n q)).sum<=_;obtain⟨r,d,j,C,R,I,Q,J,_,P,H,_,v⟩:=p.ok.link _ (Vc e);have o:=Vc e;generalize n.2.2.2.1[a]=k at*;subst I;obtain⟨w,x,c3,A,B⟩:=s;simp only at w x c3;subst w;have E:r=i:=by omega
   have D:d=c:=by omega
   subst E D;obtain⟨G,O⟩:=v rfl;rw[Zp G];unfold HA;rw[Zp ⟨rfl,x,c3,A,B⟩];simp only[Vd];refine Vr (ZmN ..) (Vr (ZkG (KT q l) j 0) (Vla _ ?_));have f:isLink n r d j C true:=o;have t:j<7:=by have:=y.runs;omega
   have:=Zl7 p t (ZmB p f);have:=y.calls j J;omega
 ·have:Hz n l=[]:=by unfold Hz;rw[List.flatMap_eq_nil_iff];intro k K;obtain⟨a,e,rfl⟩:=Vs K;unfold HA;rw[Zf (fun h=>m ⟨a,e,h⟩)]
  rw[this];exact Vea _
theorem ZuJ(f:Whole n)(e:JE n){l:Zu}(o:LV F hF n q l):1+((JN n q l).map (wL n q)).sum<=wL n q l:=by
 have h:=o.rides.2;unfold JN;by_cases a:l.1.1=1
 ·rw[Zp a];obtain⟨i,c,j,k,u,t,_⟩:=o.kind a;have w:=Zub (q:=q) f e j k
  have b:wL n q l=gW (KT q l) * (1+if c+1=(Zl n i).length then 5*Jm n i else 0):=by unfold wL;rw[Zp a,j,k,Vd,Vd];rfl
  have g:=ZfL (n:=n) (q:=q) (l:=YJ l) h (l.2.1+JT n l.1.2.1);have m:=Znc (n:=n) (q:=q) (YJ l);have s:=Zk6 f e (KT q l) l.1.2.1;have p:KT q (YJ l)=KT q l:=rfl;have r:(YJ l).1.2.1=l.1.2.1:=rfl;rw[p,r]at g m;rw[b,Nat.mul_add,Nat.mul_one,Vn,Vy];have v:=ZjZ (KT q l);split
  ·rw[Vn,Vy];omega
  ·simp only[Vva,Vdb];omega
 ·rw[Zf a];by_cases d:l.1.1=2
  ·rw[Zp d];have g:=ZfL (n:=n) h l.2.1;have b:wL n q l=1+rW n (KT q l) l.1.2.1:=by unfold wL;rw[Zf a,Zp d]
   rw[b];omega
  ·rw[Zf d]
   have g:=ZfL (n:=n) h (l.2.1+(if q.2.2.2.2.2.2.2.2.2.1=true then JT n l.1.2.1 else 0))
   have m:=Znc (n:=n) (q:=q) l;have s:=Zk6 f e (KT q l) l.1.2.1;have b:wL n q l=gW (KT q l):=by unfold wL;rw[Zf a,Zf d]
   rw[b,Vn,Vy];omega
theorem ZuN{l:Zu} :1<=wL n q l:=by
 unfold wL Rw;have:=ZjZ (KT q l);split
 ·exact Vr (show 1<=gW (KT q l) *1 by omega) (Vla _ (by omega))
 ·split<;>omega
theorem Zj2(l:Zu)(i b c:Nat)(st:Bool)(v:ZW):hL n q (XI n l i b c st v)=20*KT q l+(10+Jm n i):=by unfold hL XI KT;simp only[if_true,Vd]
theorem ZfM{l:Zu}(f:l.2.2.1<=q.2.2.2.2.1){fr:Int}{x:Zu}(b:x∈YE n q l fr):hL n q x+3<=20*KT q l/\x.2.2.2.2.2.1.length=l.2.2.2.2.2.1.length+1:=by
 obtain⟨i,c,d,_,_,_,_,a,_,rfl⟩:=GH.1 b;rw[Zj2];have:=Zs9 (n:=n) i
 have e:KT q l=KT q (Xp n l i c)+1:=by unfold KT Xp;simp only;omega
 refine⟨by omega,?_⟩;show (WQ _ _++[_]).length=_;rw[Vi,Ziv];rfl
theorem Zne{l:Zu}{x:Zu}(a:x∈HB n q l):hL n q x=20*KT q l+5/\x.2.2.2.2.2.1.length=l.2.2.2.2.2.1.length+1:=by obtain⟨p,_,_,rfl⟩:=Dr.1 a;exact⟨rfl,by show (_++[_]).length=_;simp⟩
theorem Zm8(h:Whole n)(B:JE n){l:Zu}(u:LV F hF n q l){x:Zu}(a:x∈JN n q l):hL n q x<hL n q l/\x.2.2.2.2.2.1.length=l.2.2.2.2.2.1.length+1:=by
 have f:=u.rides.2;unfold JN at a;by_cases e:l.1.1=1
 ·rw[Zp e]at a;obtain⟨i,c,z,D,H,E,_⟩:=u.kind e;have m:hL n q l=20*KT q l+(10+Jm n i):=by unfold hL;rw[Zp e,z,Vd]
  have s:KT q (YJ l)=KT q l:=rfl;rcases Vj.1 a with a|a
  ·obtain⟨k,t,⟨p,v,_⟩,d,_,G,_,rfl⟩:=Zaa.1 a;obtain⟨r,y,j,w,J,C,f,I,_⟩:=h.ok.link _ t;subst C;simp only at p v;subst p;have A:r=i:=by omega
   subst A;have b:isLink n r y j w true:=t;have o:j<7:=by have:=B.runs;omega
   have:=Zl7 h o (ZmB h b);rw[Zj2,m];simp only[Vd];exact⟨by omega,by show (_++[_]).length=_;simp⟩
  ·split at a
   ·rcases Vj.1 a with a|a
    ·have:=ZfM (n:=n) (q:=q) (l:=YJ l) f a;rw[s]at this;exact⟨by omega,this.2⟩
    ·have:=Zne (n:=n) (q:=q) (l:=YJ l) a;rw[s]at this;exact⟨by omega,this.2⟩
   ·simp at a
 ·rw[Zf e]at a;by_cases g:l.1.1=2
  ·rw[Zp g]at a;have:=ZfM f a;have m:hL n q l=20*KT q l+5:=by unfold hL;rw[Zf e,Zp g]
   exact⟨by omega,this.2⟩
  ·rw[Zf g]at a;have m:hL n q l=20*KT q l+19:=by unfold hL;rw[Zf e,Zf g]
   rcases Vj.1 a with a|a
   ·have:=ZfM f a;exact⟨by omega,this.2⟩
   ·have:=Zne a;exact⟨by omega,this.2⟩
end Q
namespace Q
open Tr Go
variable {F:Ku}{hF:FO F}{n:Zh}{q:Zt}
open Classical in
noncomputable def ZS(l:Zu):Zu:=if l.1.1=1 then YJ l else l
noncomputable def JW(n:Zh)(q:Zt)(l:Zu):Int:=if l.1.1=1 then l.2.1+JT n l.1.2.1 else if l.1.1=2 then l.2.1 else l.2.1+(if q.2.2.2.2.2.2.2.2.2.1=true then JT n l.1.2.1 else 0)
theorem YI{l x:Zu} :x∈JN n q l↔(l.1.1=1/\x∈Hz n l)\/((l.1.1=1->Jg n l=true)/\x∈YE n q (ZS l) (JW n q l))\/((l.1.1=1->Jg n l=true)/\l.1.1≠2/\x∈HB n q (ZS l)):=by
 unfold JN ZS JW
 grind
theorem D4(l:Zu):(ZS l).1=l.1/\(ZS l).2.1=l.2.1/\(ZS l).2.2.1=l.2.2.1/\(ZS l).2.2.2.1=l.2.2.2.1/\(ZS l).2.2.2.2.2.1=l.2.2.2.2.2.1:=by
 unfold ZS
 split<;>exact⟨rfl,rfl,rfl,rfl,rfl⟩
def ZaZ(rode:Bool):List Zv->Bool
 |[]=>rode
 |x::l=>ZaZ x.1 l
theorem ZkC(rode:Bool)(L:List Zv)(x:Zv):ZaZ rode (L++[x])=x.1:=by
 induction L generalizing rode with
 |nil=>rfl
 |cons y L a=>exact a _
theorem ZcE{n:Zh}{x:Zv} :∀{L:List Zv}{rode:Bool}{out o:List ZW},WA n L rode out=(o,0)->WA n (L++[x]) rode out=WA n [x] (ZaZ rode L) o
 |[],rode,out,o,h=>by
  have:out=o:=(Prod.mk.inj h).1
  subst this;rfl
 |y::L,rode,out,o,h=>by
  rw[List.cons_append,GN];rw[GN]at h;by_cases a:y.1=true/\KL n y=false
  ·grind
  rw[Zf a]at h⊢;by_cases b:Kv y=true/\(y.1=false\/rode=false)
  ·grind
  rw[Zf b]at h⊢;by_cases c3:y.1=true
  ·rw[Zp c3]at h⊢;rw[ZcE h];show _=WA n [x] (ZaZ y.1 L) o
   grind
  ·rw[Zf c3]at h⊢;rw[ZcE h];show _=WA n [x] (ZaZ y.1 L) o
   grind
theorem Zj0(s t a b:Int)(rode:Bool)(out:List ZW):WA n [Kf s t a b] rode out=(out,0):=by rfl
theorem ZgF{i b c:Nat}(st:Bool)(f:i<n.2.2.1.length)(d:b<c)(e:c<(Zl n i).length):KL n (ZP n i b c st)=true:=by
 unfold KL;have a:Kh (ZP n i b c st).2.1 n.2.2.1.length=true:=by show Kh (i:Int) _=true;unfold Kh;grind
 rw[a];show (true&& (decide (0<=(b:Int)) && (decide ((b:Int)<(c:Int)) &&decide ((c:Int)<((Zl n i).length:Int)))))=true
 grind
theorem Zq3(a:Js n){i b c:Nat}(j:i<n.2.2.1.length)(g:b<c)(h:c<(Zl n i).length)(rode:Bool)(out:List ZW):WA n [ZP n i b c false] rode out=(out++[GM n (Rk (Zg n i b).2.2.1) (ZP n i b c false)],0):=by
 have d:=ZgF (n:=n) false j g h;rw[GN,Zf (by grind),Zf (by simp [ZP,Kv]),Zp (by rfl),Zf (by simp [ZP,Kv])];show (out++[Hf n (ZP n i b c false)],(0:Int))=_
 have e:Hf n (ZP n i b c false)=GM n (Rk (Zg n i b).2.2.1) (ZP n i b c false):=by obtain⟨_,_,k,f⟩:=Zex a d;unfold Hf GM Rk;have z:(0:Int)=((0:Nat):Int):=rfl;simp only;rw[z,GJ (by omega) (ZcX a d),GJ (by omega) (Gg f),Vvb,Vvb];rfl
 rw[e]
theorem Zq4{i b c:Nat}(g:i<n.2.2.1.length)(d:b<c)(f:c<(Zl n i).length)(out:List ZW)(v:ZW):WA n [ZP n i b c true] true (out++[v])=(out++[GM n v (ZP n i b c true)],0):=by
 have k:=ZgF (n:=n) true g d f;rw[GN,Zf (by grind),Zf (by simp [ZP]),Zp (by rfl),Zp (by rfl)];show (X7 n _ _,(0:Int))=_
 have e:X7 n (ZP n i b c true) (out++[v])=out++[GM n v (ZP n i b c true)]:=by
  have j:(out++[v])[(out++[v]).length - 1]? =some v:=by simp
  have a:X7 n (ZP n i b c true) (out++[v])=G2 n (ZP n i b c true) (out++[v]) v:=by unfold X7;simp
  rw[a];unfold G2;have h:(out++[v]).length - 1=out.length:=by simp
  rw[h,Vya _ _ (Vm _),Nat.sub_self];rfl
 rw[e]
theorem Zs3(a:K1 n){i b c:Nat}(st:Bool)(e:i<n.2.2.1.length)(j:b<c)(d:c<(Zl n i).length){v:ZW}(f:Small v)(k:YW v.1):Hl (GM n v (ZP n i b c st)):=by have g:=ZgF (n:=n) st e j d;obtain⟨_,_,l,h⟩:=Zex a.sound g;have p:=ZcX a.sound g;have m:=Gg h;have o:=a.time e d;exact⟨⟨ZlM f.1 (by omega),ZlM f.2 (by grind)⟩,k,by show 0<=(Zg n i c).2.1;omega,by show (Zg n i c).2.1<=_;omega⟩
structure LI (F:Ku) (hF:FO F) (n:Zh) (q:Zt) (l:Zu):Prop where
 val:LV F hF n q l
 cnt:((WX l.2.2.2.2.1).length:Int)+(if l.1.1=1 then 1 else 0)=l.2.2.1
 ht:l.2.2.2.2.2.1.length+hL n q l<=79
 zero:l.1.1=0->l.2.2.2.2.2.1=[]/\l.2.2.1=0/\l.2.2.2.1=0/\l.2.1=q.2.2.1
 kinds:l.1.1=0\/l.1.1=1\/l.1.1=2
 rgo:WA n l.2.2.2.2.2.1 false []=(WX l.2.2.2.2.1++(if l.1.1=1 then [l.1.2.2.2.2.1] else []),0)
 rode:ZaZ false l.2.2.2.2.2.1=decide (l.1.1=1)
 wlk:KE l.2.2.2.2.2.1=l.2.2.2.1
 lok:∀x∈l.2.2.2.2.2.1,Zar x
 last:∀L x,l.2.2.2.2.2.1=L++[x]->x.2.2.2.2.2.2.2.1=l.2.1
 some:l.1.1≠0->l.2.2.2.2.2.1≠ []
 adj:∀x,l.2.2.2.2.2.1=[x]->x.1=false->x.2.2.2.2.2.2.1<=x.2.2.2.2.2.2.2.1/\x.2.2.2.2.2.2.2.1<=x.2.2.2.2.2.2.1+14400/\Kv x=false
theorem ZbX(h:QI q){l:Zu}(a:LI F hF n q l):LV F hF n q (ZS l)/\WA n l.2.2.2.2.2.1 false []=(WX (ZS l).2.2.2.2.1,0)/\((WX (ZS l).2.2.2.2.1).length:Int)=l.2.2.1:=by
 have k:=a.val.rides;have j:=h.rides;have f:=a.cnt;have b:=a.rgo;unfold ZS;by_cases c:l.1.1=1
 ·rw[Zp c]at f b⊢;have d:(WX l.2.2.2.2.1).length+1<=8:=by omega
  have i:=a.val.next c d
  obtain⟨_,g,_⟩:=Zhi a.val c d;have e:WX (YJ l).2.2.2.2.1=WX l.2.2.2.2.1++[l.1.2.2.2.2.1]:=Zl3 g
  grind
 ·rw[Zf c]at f b⊢;rw[Vt]at b;exact⟨a.val,b,by omega⟩
theorem Zq2(L:List Zv)(d:Int)(rode:Bool)(out:List ZW)(h:∀x,L=[x]->x.1=false->Kv x=false):WA n (WQ L d) rode out=WA n L rode out:=by
 match L with
 |[]=>rfl
 |[x]=>
  cases a:x.1 with
  |true=>rw[ZbM a]
  |false=>
   have b:=h x rfl a;rw[RK a,GN,GN]
   grind
 |x::y::L=>rfl
theorem ZkI(r:Whole n)(w:JE n){l x:Zu}(m:LI F hF n q l)(G:x∈JN n q l){p:Zu}{i b c:Nat}{st:Bool}{v:ZW}(g:i<n.2.2.1.length)(z:b<c)(f:c<(Zl n i).length)
 (ex:x=XI n p i b c st v) (C:XP F hF p) (D:0<=p.2.2.1/\p.2.2.1<=q.2.2.2.2.1) (e:((WX p.2.2.2.2.1).length:Int)+1=p.2.2.1) (u:p.2.2.2.1=l.2.2.2.1) (o:KE p.2.2.2.2.2.1=l.2.2.2.1)
 (k:WA n (p.2.2.2.2.2.1++[ZP n i b c st]) false []=(WX p.2.2.2.2.1++[GM n v (ZP n i b c st)],0)) (t:∀y∈p.2.2.2.2.2.1,Zar y) (E:Small v) (A:YW v.1):LI F hF n q x:=by
 have j:=r.ok;obtain⟨H,I⟩:=Zm8 r w m.val G;have B:=m.ht;have J:=j.time g f;subst ex;have s:(XI n p i b c st v).2.2.2.2.2.1.length<=79:=by omega
 refine⟨⟨C,by omega,D,by show 0<=p.2.2.2.1/\p.2.2.2.1<=_;rw[u];exact m.val.walk,⟨by show 0<=(Zg n i c).2.1;omega,by show (Zg n i c).2.1<=_;omega⟩,j.stop g f,fun _=>⟨i,c,rfl,rfl,g,f,rfl,rfl,Zs3 j st g z f E A⟩,?_⟩,e,by omega,fun h=>absurd h (by show¬(1:Int)=0;decide),.inr (.inl rfl),k,?_,?_,?_,?_,by grind,?_⟩
 ·intro y a d;have:=Voa.1 (by assumption);rcases this with ⟨_,h⟩|⟨_,h⟩
  ·have:y=ZP n i b c st:=(Vib.1 h).symm;subst this;cases d
  grind
 ·exact ZkC _ _ _
 ·show KE (p.2.2.2.2.2.1++[ZP n i b c st])=p.2.2.2.1;rw[ZcT,o,u]
  have:KE [ZP n i b c st]=0:=by rfl
  omega
 ·intro y a;rcases Vj.1 (by assumption) with a|a
  ·grind
  ·rw[Vh]at a;subst a;show (Zg n i c).2.1<=_;omega
 ·intro L y a;have:=Vtb (show p.2.2.2.2.2.1++[ZP n i b c st]=L++[y] from a) rfl;have:y=ZP n i b c st:=by grind
  subst this;rfl
 ·intro y a d;rcases Voa.1 (by assumption) with ⟨_,h⟩|⟨_,h⟩
  ·have:y=ZP n i b c st:=(Vib.1 h).symm;subst this;cases d
  grind
theorem ZqT(b:K1 n){l:Zu}(a:LV F hF n q l):l.2.1<=JW n q l:=by have:=b.change _ a.stop.1 a.stop.2;unfold JW JT;omega
theorem Zi9(b:K1 n){l:Zu}(d:LV F hF n q l){i c:Nat}(h:GC n (ZS l) (JW n q l) i c):l.2.1<=(Zg n i c).2.2.1:=by
 have e:=ZqT b d;have f:=(D4 l).2.1;rcases h.2.2.2.2 with a|a
 all_goals omega
theorem ZkJ(D:Whole n)(H:JE n)(Z:QI q){l x:Zu}(b:LI F hF n q l)(G:x∈JN n q l):LI F hF n q x:=by
 have s:=D.ok;obtain⟨P,W,c3⟩:=ZbX Z b;obtain⟨s1,s2,V,O,s5⟩:=D4 l;rcases YI.1 G with ⟨N,hs⟩|⟨_,hb⟩|⟨_,k2,hw⟩
 ·obtain⟨k,hk,⟨_,_,_,a0,C⟩,d,Q,A,_,ex⟩:=Zaa.1 hs;obtain⟨r,d0,j,d',sy,he,hr,T,_⟩:=s.link _ hk;subst he;simp only[Vd]at*;obtain⟨_,_,_,_,_,_,_,_,o⟩:=b.val.kind N;have E:=b.rgo;have B:=b.rode;have v:=b.cnt;rw[Zp N]at E v;rw[Zd N]at B;refine ZkI D H b G T Q A ex b.val.fare b.val.rides v rfl b.wlk ?_ b.lok o.1 o.2.1;rw[ZcE E,B];exact Zq4 T Q A _ _
 ·obtain⟨i,c,d,I,u,A,t,J,_,ex⟩:=GH.1 hb;have C:=Zi9 s b.val t;have hc:c<(Zl n i).length:=by omega
  have ht:=s.time I hc;rw[V]at J;have a5:=b.val.rides
  have f:(Xp n (ZS l) i c).2.2.2.2.2.1=WQ l.2.2.2.2.2.1 (Zg n i c).2.2.1:=by
   show WQ (ZS l).2.2.2.2.2.1 _=_
   grind
  have M:∀y,l.2.2.2.2.2.1=[y]->y.1=false->Kv y=false:=fun y R S=>(b.adj y R S).2.2;refine ZkI (p:=Xp n (ZS l) i c) D H b G I u A ex P.fare ⟨?_,?_⟩ ?_ O ?_ ?_ ?_ (Zk2 _) ⟨by show 0<=(Zg n i c).2.2.1;omega,by show (Zg n i c).2.2.1<=_;omega⟩
  ·show 0<=(ZS l).2.2.1+1;omega
  ·show (ZS l).2.2.1+1<=_;omega
  ·show ((WX (ZS l).2.2.2.2.1).length:Int)+1=(ZS l).2.2.1+1;omega
  ·rw[f, <-b.wlk]
   match hL:l.2.2.2.2.2.1 with
   |[]=>rfl
   |[y]=>
    cases a:y.1 with
    |true=>rw[ZbM a]
    |false=>
     obtain⟨a1,a2,a3⟩:=b.adj y hL a
     obtain⟨X,f2⟩:=b.val.first y hL a
     rw[RK a];unfold KE Yn;simp only[Vv,Vva,Vha,Vdb,a];have Y:0<=y.2.2.2.2.2.2.1:=X.1
     grind
   |y::z::L=>rfl
  ·rw[f];have E:WA n (WQ l.2.2.2.2.2.1 (Zg n i c).2.2.1) false []=(WX (ZS l).2.2.2.2.1,0):=by rw[Zq2 _ _ _ _ M];omega
   rw[ZcE E];exact Zq3 s.sound I u A _ _
  ·rw[f];intro y a
   match hL:l.2.2.2.2.2.1 with
   |[]=>rw[hL]at a;cases a
   |[z]=>
    rw[hL]at a
    cases U:z.1 with
    |true=>
     rw[ZbM U,Vh]at a;subst a
     exact b.lok _ (by grind)
    |false=>
     rw[RK U,Vh]at a;subst a;show (Zg n i c).2.2.1<=_
     omega
   |z::w::L=>
    rw[hL]at a;exact b.lok _ (by rw[hL];assumption)
 ·obtain⟨p,hp,⟨w1,w2,w3⟩,ex⟩:=Dr.1 hw;rw[O]at w2;rw[s2]at w3;rw[s1]at w1;obtain⟨R,S⟩:=Zm8 D H b.val G;have a4:=b.ht;have K:=s.path p hp;have C:=b.val.time;have a6:=b.val.walk;subst ex
  have e:(Xs (ZS l) p).2.2.2.2.2.1=l.2.2.2.2.2.1++[Kf l.1.2.1 p.2.1 l.2.1 (l.2.1+p.2.2.1)]:=by
   show (ZS l).2.2.2.2.2.1++[Kf (ZS l).1.2.1 p.2.1 (ZS l).2.1 ((ZS l).2.1+p.2.2.1)]=_
   grind
  have m:(Xs (ZS l) p).2.1=l.2.1+p.2.2.1:=by show (ZS l).2.1+_=_;omega
  have g:∀y,(Xs (ZS l) p).2.2.2.2.2.1=[y]->y=Kf l.1.2.1 p.2.1 l.2.1 (l.2.1+p.2.2.1):=by grind
  refine⟨⟨P.fare,by omega,?_,?_,?_,K.2.1,fun h=>absurd h (by show¬(2:Int)=1;decide),?_⟩,?_,by omega,fun h=>absurd h (by show¬(2:Int)=0;decide),.inr (.inr rfl),?_,?_,?_,?_,?_,by grind,?_⟩
  ·show 0<=(ZS l).2.2.1/\(ZS l).2.2.1<=_;rw[V];exact b.val.rides
  ·show 0<=(ZS l).2.2.2.1+p.2.2.1/\(ZS l).2.2.2.1+p.2.2.1<=_;omega
  ·omega
  ·intro y a _;rw[g y a,m];exact⟨⟨by show 0<=l.2.1;omega,by show l.2.1<=_;omega⟩,rfl⟩
  ·show ((WX (ZS l).2.2.2.2.1).length:Int)+(if (2:Int)=1 then 1 else 0)=(ZS l).2.2.1
   omega
  ·rw[e,ZcE W,Zj0]
   show _=(WX (ZS l).2.2.2.2.1++(if (2:Int)=1 then _ else []),(0:Int))
   simp
  ·rw[e,ZkC];rfl
  ·rw[e,ZcT,b.wlk];show _=(ZS l).2.2.2.1+p.2.2.1;rw[O]
   have:KE [Kf l.1.2.1 p.2.1 l.2.1 (l.2.1+p.2.2.1)]=p.2.2.1:=by
    unfold KE Yn Kf
    grind
   omega
  ·rw[e];intro y a;rcases Vj.1 a with a|a
   ·exact b.lok y a
   ·rw[Vh]at a;subst a;show l.2.1+p.2.2.1<=_;omega
  ·intro L y a;rw[e]at a;have:=Vtb a rfl;have:y=Kf l.1.2.1 p.2.1 l.2.1 (l.2.1+p.2.2.1):=by grind
   subst this;rw[m];rfl
  ·intro y a _;rw[g y a];exact⟨by show l.2.1<=l.2.1+p.2.2.1;omega,by show l.2.1+p.2.2.1<=l.2.1+14400;omega,rfl⟩
theorem Zm9(c:Whole n)(b:JE n)(a:QI q){l:Zu}(d:LI F hF n q l):∀x∈JN n q l,XP F hF x:=fun _ e=>(ZkJ c b a d e).val.fare
end Q
namespace Q
open Tr Go
variable {F:Ku}{hF:FO F}{n:Zh}{q:Zt}
theorem ZpL{a b:Zu}(h:JC F hF a b):JC F hF (ZS a) (ZS b):=by
 obtain⟨c,d,e,f⟩:=h;unfold ZS
 split<;>split<;>exact⟨c,d,e,f⟩
theorem ZuI(V:K1 n)(W:QI q){a b x:Zu}(X:LI F hF n q a)(C:LI F hF n q b)(h:JC F hF a b)(R:x∈JN n q b):∃y∈JN n q a,JC F hF y x:=by
 have E:=ZpL h;obtain⟨U,w,z,A⟩:=h;have B:Jg n a=Jg n b:=by unfold Jg;grind
 have G:JW n q a<=JW n q b:=by
  unfold JW
  grind
 obtain⟨S,T,c3,u⟩:=E;rcases YI.1 R with ⟨t,P⟩|⟨t,j⟩|⟨t,Y,Q⟩
 ·obtain⟨k,I,⟨e,f,r,g,s⟩,d,v,m,o,rfl⟩:=Zaa.1 P;refine⟨XI n a k.2.2.1.toNat 0 d true a.1.2.2.2.2.1,YI.2 (.inl ⟨by grind,Zaa.2 ⟨k,I,⟨e,by grind,by grind,g,Vcb w s⟩,d,v,m,o,rfl⟩⟩),?_⟩;refine⟨?_,Vz _,z,A⟩;show (_,_)=(_,_)
  grind
 ·obtain⟨i,c,d,H,l,m,⟨e,f,r,g,s⟩,K,o,rfl⟩:=GH.1 j;have J:Hw n (ZS a) i c=Hw n (ZS b) i c:=by unfold Hw;grind
  have O:=(D4 b).2.2.1;have N:=(D4 a).2.2.1;have D:=C.val.rides;refine⟨XI n (Xp n (ZS a) i c) i c d false (Rk (Zg n i c).2.2.1),YI.2 (.inr (.inl ⟨by grind,GH.2 ⟨i,c,d,H,l,m,⟨e,f,by grind,g,?_⟩,?_,o,rfl⟩⟩)),?_⟩
  ·grind
  ·omega
  ·exact⟨rfl,Vz _,by show (ZS a).2.2.1+1<=(ZS b).2.2.1+1;omega,u⟩
 ·obtain⟨p,M,⟨e,f,r⟩,rfl⟩:=Dr.1 Q;refine⟨Xs (ZS a) p,YI.2 (.inr (.inr ⟨by grind,by grind,Dr.2 ⟨p,M,⟨by grind,by omega,by omega⟩,rfl⟩⟩)),?_⟩;exact⟨rfl,by show (ZS a).2.1+_<=(ZS b).2.1+_;omega,c3,by show (ZS a).2.2.2.1+_<=(ZS b).2.2.2.1+_;omega⟩
end Q
namespace Q
open Tr Go
variable {F:Ku}{hF:FO F}{n:Zh}{q:Zt}
inductive Rc (n:Zh) (q:Zt) (s0:Zu):Zu->Prop
 |start:Rc n q s0 s0
 |step {l x:Zu} (h:Rc n q s0 l) (hx:x∈JN n q l):Rc n q s0 x
theorem Rc.li(d:Whole n)(c:JE n)(b:QI q){s0 l:Zu}(a:LI F hF n q s0)(h:Rc n q s0 l):LI F hF n q l:=by
 induction h with
 |start=>exact a
 |step _ e f=>exact ZkJ d c b f e
structure Zfh (F:Ku) (hF:FO F) (n:Zh) (q:Zt) (s0:Zu) (st:Wd) (N:Nat):Prop where
 good:XA F hF n q st N
 pot:N+((XK st).map fun l=>wL n q l - 1).sum<=542198816521
 cnt:st.2.2.2.2.1.length+(XK st).length<=N
 lab:∀p o,o∈Jw st p->Rc n q s0 o/\(o∈XK st\/((∀c∈JN n q o,∃o' ∈Jw st c.1,JC F hF o' c)/\ ∀x∈JB n q o,x∈st.2.2.2.2.1))
 que:∀o∈XK st,o∈Jw st o.1
 opt:∀x∈st.2.2.2.2.1,∃l,Rc n q s0 l/\x∈JB n q l
 first:∃o∈Jw st s0.1,JC F hF o s0
theorem ZuG(l:Zu):(JB n q l).length<=1:=by
 unfold JB Za7;split
 ·split
  ·split<;>simp
  ·simp
 ·simp
theorem ZhG(w:Zu->Nat)(h:∀l,1<=w l)(ls:List Zu):ls.length+(ls.map fun l=>w l - 1).sum=(ls.map w).sum:=by
 induction ls with
 |nil=>rfl
 |cons x ls a=>
  have:=h x;simp only[Vnb,Vv,Vha];omega
theorem ZrE(w:Zu->Nat)(h:∀l,1<=w l)(ls:List Zu):ls.length<=(ls.map w).sum:=by have:=ZhG w h ls;omega
theorem Ztr(M:Whole n)(Z:JE n)(K:QI q)(b0:q.2.2.2.2.1<=3)(hp:n.2.2.2.2.1.length<=4096)(O:∀l,LI F hF n q l->∃r,F78 n q (l.2.2.2.2.2.1,())=some r){s:J5}(c0:Int)
 (X:LI F hF n q ((0,q.1,0,0,(0,0,0,0,()),()),q.2.2.1,0,0,s,[],())):
 ∃a,F156 (n,q,[],((),[],c0,()),[],()) s=some a/\a.2.2.2.2.1.length<=542198816521/\(∀x∈a.2.2.2.2.1,∃l,Rc n q ((0,q.1,0,0,(0,0,0,0,()),()),q.2.2.1,0,0,s,[],()) l/\x∈JB n q l)/\
  ∀l,Rc n q ((0,q.1,0,0,(0,0,0,0,()),()),q.2.2.1,0,0,s,[],()) l->∃o,Rc n q ((0,q.1,0,0,(0,0,0,0,()),()),q.2.2.1,0,0,s,[],()) o/\JC F hF o l/\ ∀x∈JB n q o,x∈a.2.2.2.2.1:=by
 have hN:=M.ok;generalize T:(((0,q.1,0,0,(0,0,0,0,()),()),q.2.2.1,0,0,s,[],()):Zu)=s0 at X⊢;have u:∀p,Jw ((n,q,[],((),[],c0,()),[],()):Wd) p=[]:=fun _=>rfl;have a6:XA F hF n q (n,q,[],((),[],c0,()),[],()) 0:=⟨rfl,rfl,fun p o e=>absurd e (by rw[u];simp),fun p=>(by rw[u];simp),(by simp [XK])⟩;obtain⟨st1,a1,sub,b1,b2,b3,⟨b4,b5,b6⟩,b7,b8,b9,a5⟩:=Zft a6 X.val.fare (by omega);have C:∀l,1<=wL n q l:=fun l=>ZuN
 have c9:wL n q s0<=542198816521:=by
  have:wL n q s0=gW (KT q s0):=by rw[<-T];unfold wL;rfl
  rw[this];have Q:KT q s0<=3:=by rw[<-T];unfold KT;simp only;omega
  have j:∀k,gW k<=gW (k+1):=fun k=>by show gW k<=61+1260*gW k;omega
  have:gW (KT q s0)<=gW 3:=by
   generalize KT q s0=k at Q;have h3:gW 0<=gW 1:=j 0;have h4:gW 1<=gW 2:=j 1;have h5:gW 2<=gW 3:=j 2
   rcases (show k=0\/k=1\/k=2\/k=3 by omega) with rfl|rfl|rfl|rfl<;>omega
  exact Vr this (by decide)
 have a8:Zfh F hF n q s0 st1 sub.length:=by
  have v:(XK st1).Perm sub:=by
   have:=b3
   rwa [show XK ((n,q,[],((),[],c0,()),[],()):Wd)=[] from rfl,Vt]at this
  refine⟨⟨b4,b5,fun p o e=>?_,fun p=>?_,by rw[v.length_eq];exact Vm _⟩,?_,?_,fun p o e=>?_,fun o e=>?_,?_,a5 _ (by simp)⟩
  ·rcases (b7 p o).1 e with h|⟨w,Y⟩
   ·rw[u]at h;cases h
   ·have:=b2 o w;rw[Vh]at this;subst this;exact⟨Y,X.val.fare⟩
  ·have:=b8 p;rw[u]at this;simpa using this
  ·have:=(v.map fun l=>wL n q l - 1).sum_nat;rw[this,ZhG _ C];have:=b9 (wL n q);simp only[Vv,Vva,Vha,Vdb]at this;omega
  ·rw[b6,v.length_eq];simp
  ·rcases (b7 p o).1 e with h|⟨w,Y⟩
   ·rw[u]at h;cases h
   ·have:=b2 o w;rw[Vh]at this;refine⟨by rw[this];exact .start,.inl (v.mem_iff.2 w)⟩
  ·exact(b7 _ _).2 (.inr ⟨v.mem_iff.1 e,rfl⟩)
  ·rw[b6];simp
 unfold F156;simp only;rw[T];refine Wf (fun x=>x=st1) ⟨_,a1,rfl⟩ ?_;rintro st1 rfl;refine run_bind (fun st=>∃N,Zfh F hF n q s0 st N) (fun st=>((XK st).map (wL n q)).sum) (fun r=>∃N,Zfh F hF n q s0 r N/\XK r=[]) ⟨_,a8⟩ ?_ ?_
 ·rintro ⟨sn,sq,sb,⟨⟨⟩,d,z,⟨⟩⟩,D,⟨⟩⟩ ⟨N,b⟩;obtain rfl:n=sn:=b.good.net.symm;obtain rfl:q=sq:=b.good.que.symm;have G:=b.pot;have E:D.length+(XK ((n,q,sb,((),d,z,()),D,()):Wd)).length<=N:=b.cnt;have S:XK ((n,q,sb,((),d,z,()),D,()):Wd)=d.map Vca:=rfl;rw[S]at G E;rw[Vl]at E;have a2:F61 ((),d,z,())=some (((),d,z,()),(d.length:Int)):=rfl;simp only[a2,Za];by_cases R:d=[]
  ·right;subst R;refine⟨_,rfl,N,b,rfl⟩
  ·left;have a9:0<d.length:=Veb.2 R;rw[Zd (show (0:Int)<(d.length:Int) by omega),Zc];obtain⟨m,x,p1,p2⟩:=Zt1 (l:=d) (c:=z) R (by omega);have hx:x.1∈XK ((n,q,sb,((),d,z,()),D,()):Wd):=Vna.2 ⟨x,p2.mem_iff.2 (by simp),rfl⟩;have P:x.1∈Jw ((n,q,sb,((),d,z,()),D,()):Wd) x.1.1:=b.que _ hx;have i:LI F hF n q x.1:=((b.lab _ _ P).1).li M Z K X;have B:=p2.map (Vca)
   have a3:((d.map Vca).map (wL n q)).sum=wL n q x.1+((m.map Vca).map (wL n q)).sum:=by have:=(B.map (wL n q)).sum_nat;rw[this];simp
   have V:((d.map Vca).map fun l=>wL n q l - 1).sum=(wL n q x.1 - 1)+((m.map Vca).map fun l=>wL n q l - 1).sum:=by have:=(B.map fun l=>wL n q l - 1).sum_nat;rw[this];simp
   have c4:d.length=m.length+1:=by have:=p2.length_eq;simpa using this
   have c8:=ZuJ M Z i.val;have c6:=ZrE (wL n q) C (JN n q x.1);have d0:=C x.1;rw[V]at G
   have a7:XA F hF n q ((n,q,sb,((),m,z,()),D,()):Wd) N:=by refine⟨rfl,rfl,b.good.lab,b.good.few,?_⟩;show (m.map Vca).length<=N;rw[Vl];omega
   have a0:x.1.1.1=1->(WX x.1.2.2.2.2.1).length+1<=8:=fun k1=>by have c1:=i.cnt;have c2:=i.val.rides;rw[Zp k1]at c1;omega
   obtain⟨a,v1,sub,d1,d2,d3,⟨d4,d5,d6⟩,d7,d8,d9,d10⟩:=ZuK hN K hp a7 i.val a0 (Zm9 M Z K i) (O _ i) (by omega) (show D.length+1<=_ by omega);refine⟨a,?_,⟨N+sub.length,?_⟩,?_⟩
   ·refine KF (fun y=>y=(((),m,z,()),x.1,true)) ⟨_,p1,rfl⟩ ?_;rintro _ rfl;refine KF (fun y=>y=a) ⟨_,v1,rfl⟩ ?_;rintro _ rfl;rfl
   ·have f:(XK a).Perm (sub++m.map Vca):=d3;have U:=d9 (wL n q);have c5:=ZhG (wL n q) C sub;have c7:=ZuG (n:=n) (q:=q) x.1;have g:∀p o,o∈Jw ((n,q,sb,((),d,z,()),D,()):Wd) p->o∈Jw a p:=fun p o e=>(d7 p o).2 (.inl e);have a4:(∀c∈JN n q x.1,∃W∈Jw a c.1,JC F hF W c)/\ ∀y∈JB n q x.1,y∈a.2.2.2.2.1:=⟨d10,fun y hy=>by rw[d6];exact Vab _ hy⟩;refine⟨⟨d4,d5,fun p o e=>?_,fun p=>?_,?_⟩,?_,?_,fun p o e=>?_,fun o e=>?_,fun y hy=>?_,?_⟩
    ·rcases (d7 p o).1 e with h|⟨w,Y⟩
     ·exact b.good.lab p o h
     ·exact⟨Y,Zm9 M Z K i o (d2 o w)⟩
    ·have e1:=d8 p;have e2:=b.good.few p;exact Vr e1 (Nat.add_le_add_right e2 _)
    ·rw[f.length_eq,Vi,Vl];omega
    ·have:=(f.map fun l=>wL n q l - 1).sum_nat;rw[this,Vn,Vy];omega
    ·rw[d6,Vi,f.length_eq,Vi,Vl];show D.length+_+_<=_;omega
    ·rcases (d7 p o).1 e with h|⟨w,Y⟩
     ·obtain⟨J,A⟩:=b.lab p o h;refine⟨J,?_⟩;rcases A with A|⟨A,g3⟩
      ·have g4:o∈d.map Vca:=A;rw[B.mem_iff,Vv,Vxc]at g4;rcases g4 with rfl|g4
       ·exact .inr a4
       ·exact .inl (f.mem_iff.2 (Vab _ g4))
      ·refine .inr ⟨fun c hc=>?_,fun y hy=>?_⟩
       ·obtain⟨W,H,I⟩:=A c hc;exact⟨W,g _ _ H,I⟩
       ·rw[d6];exact Via _ (g3 y hy)
     ·exact⟨.step (b.lab _ _ P).1 (d2 o w),.inl (f.mem_iff.2 (Via _ w))⟩
    ·rcases Vj.1 (f.mem_iff.1 e) with h|h
     ·exact(d7 _ _).2 (.inr ⟨h,rfl⟩)
     ·refine g _ _ (b.que o ?_);show o∈d.map Vca;rw[B.mem_iff,Vv];exact List.mem_cons_of_mem _ h
    ·rw[d6]at hy;rcases Vj.1 hy with h|h
     ·exact b.opt y h
     ·exact⟨x.1,(b.lab _ _ P).1,h⟩
    ·obtain⟨o,H,I⟩:=b.first
     exact⟨o,g _ _ H,I⟩
   ·have f:(XK a).Perm (sub++m.map Vca):=d3;have:=(f.map (wL n q)).sum_nat;rw[this,Vn,Vy];show _<((d.map Vca).map (wL n q)).sum;rw[a3];have U:=d9 (wL n q);omega
 ·rintro r ⟨N,b,hq⟩;refine⟨_,rfl,?_,b.opt,?_⟩
  ·have w:=b.cnt;have Y:=b.pot;show r.2.2.2.2.1.length<=_;omega
  ·have t:∀p o,o∈Jw r p->Rc n q s0 o/\(∀c∈JN n q o,∃W∈Jw r c.1,JC F hF W c)/\ ∀x∈JB n q o,x∈r.2.2.2.2.1:=fun p o e=>by obtain⟨J,A⟩:=b.lab p o e;refine⟨J,A.resolve_left ?_⟩;rw[hq];simp
   have key:∀l,Rc n q s0 l->∃o∈Jw r l.1,JC F hF o l:=by
    intro l Q
    induction Q with
    |start=>exact b.first
    |step Q hx ih=>
     rename_i l x;obtain⟨o,H,I⟩:=ih;obtain⟨J,A,_⟩:=t _ _ H;obtain⟨y,y1,y2⟩:=ZuI hN K (J.li M Z K X) (Q.li M Z K X) I hx;obtain⟨W,k1,k2⟩:=A y y1;exact⟨W,by rw[<-y2.1];exact k1,k2.trans y2⟩
   intro l Q;obtain⟨o,H,I⟩:=key l Q;obtain⟨J,_,g3⟩:=t _ _ H;exact⟨o,J,I,g3⟩
end Q
namespace Q
open Tr Go
def ZT(a b:List Int):Prop:= ∀i,i<4->(a[i]?).getD 0<=(b[i]?).getD 0
instance (a b:List Int):Decidable (ZT a b):=by unfold ZT;infer_instance
theorem Dp(a:List Int):ZT a a:=fun _ _=>Vz _
theorem Rf{a b c:List Int}(h:ZT a b)(k:ZT b c):ZT a c:=fun i d=>Vcb (h i d) (k i d)
theorem Zb2:∀a b:List Int,a.length=b.length->Tr.eqEl.eqs (Tr.eqEl (.int .i64)) a b=some (decide (a=b))
 |[],[],_=>rfl
 |[],_::_,h=>by cases h
 |_::_,[],h=>by cases h
 |x::a,y::b,h=>by have c:=Zb2 a b (by grind);unfold Tr.eqEl.eqs;rw[c];simp only[Tr.eqEl,Za];simp
theorem at4{a:List Int}(h:a.length=4){i:Nat}(b:i<4):∃x,a[i]? =some x/\(a[i]?).getD 0=x:=by grind
theorem Zp6{W:List (List Int)}(p:∀w∈W,w.length=4){v:List Int}(A:v.length=4)(I:W.length<=9223372036854775806):∃b,F103 W v=some b/\(b=true↔∃w∈W,ZT w v):=by
 unfold F103;refine Wf (fun r:Bool=>r=true↔∃w∈W,ZT w v) ?_ (by simp);refine Kq W.length _ (fun i (s:Bool×Int)=>s=(false,(i:Int))/\ ∀w∈W.take i,¬ZT w v) ?_ ?_ _ (by simp)
 ·rintro i _ a ⟨rfl,J⟩;have e:idx W (i:Int)=some W[i]:=ZH a;have B:=p _ (Vc a);have y:=Vc a;have z:∀w,w∈W.take (i+1)↔w∈W.take i\/w=W[i]:=fun w=>by rw[Ve a,Vj,Vh]
  generalize W[i]=w at*;simp only[ZU a,Zc,e,Za]
  suffices t:∃r:Unit ⊕ Unit,_=some r/\((r=.inr ()/\ZT w v)\/(r=.inl ()/\ ¬ZT w v)) by
   obtain⟨r,f,l⟩:=t;rcases l with ⟨rfl,h⟩|⟨rfl,h⟩
   ·exact .inr ⟨true,KF (fun x=>x=Sum.inr ()) ⟨_,f,rfl⟩ (fun x e=>by subst e;rfl),fun _=>⟨w,y,h⟩,fun _=>rfl⟩
   ·refine .inl ⟨_,KF (fun x=>x=Sum.inl ()) ⟨_,f,rfl⟩ (fun x e=>by subst e;rfl),?_,fun u K=>?_⟩
    ·rw[Z8 a (by omega)]
    grind
  refine Kq 4 (fun r:Unit ⊕ Unit=>(r=.inr ()/\ZT w v)\/(r=.inl ()/\ ¬ZT w v)) (fun j (s:Int)=>s=(j:Int)/\ ∀k,k<j->(w[k]?).getD 0<=(v[k]?).getD 0) ?_ ?_ _ (by simp)
  ·rintro j _ c ⟨rfl,d⟩;rw[Zd (by omega)];obtain⟨D,m,E⟩:=at4 B c;obtain⟨C,o,G⟩:=at4 A c;simp only[Zc,Ke c,Za,m,o];by_cases g:C<D
   ·rw[Zd g];exact .inr ⟨.inl (),rfl,.inr ⟨rfl,fun h=>by have:=h j c;omega⟩⟩
   ·rw[Zk g];refine .inl ⟨_,rfl,Z8 c (by omega),fun k H=>?_⟩
    grind
  ·rintro _ ⟨rfl,d⟩;exact⟨.inr (),rfl,.inl ⟨rfl,d⟩⟩
 simp
theorem Zo7{a b:List Int}(m:a.length=4)(o:b.length=4):F106 a b=some (decide (ZT a b)):=by
 unfold F106
 suffices h:∃r:Unit ⊕ Bool,_=some r/\((r=.inl ()/\ZT a b)\/(r=.inr false/\ ¬ZT a b)) by
  obtain⟨r,f,g⟩:=h;rcases g with ⟨rfl,h⟩|⟨rfl,h⟩
  ·rw[Zd h];exact KF (fun x=>x=Sum.inl ()) ⟨_,f,rfl⟩ (fun x p=>by subst p;rfl)
  grind
 refine Kq 4 (fun r:Unit ⊕ Bool=>(r=.inl ()/\ZT a b)\/(r=.inr false/\ ¬ZT a b)) (fun j (s:Int)=>s=(j:Int)/\ ∀k,k<j->(a[k]?).getD 0<=(b[k]?).getD 0) ?_ ?_ _ (by simp)
 ·rintro j _ c ⟨rfl,d⟩;rw[Zd (by omega)];obtain⟨t,i,v⟩:=at4 m c;obtain⟨u,l,w⟩:=at4 o c;simp only[Zc,Ke c,Za,i,l];by_cases e:u<t
  ·rw[Zd e];exact .inr ⟨.inr false,rfl,.inr ⟨rfl,fun h=>by have:=h j c;omega⟩⟩
  ·rw[Zk e];refine .inl ⟨_,rfl,Z8 c (by omega),fun k y=>?_⟩
   grind
 ·rintro _ ⟨rfl,d⟩;exact⟨.inl (),rfl,.inl ⟨rfl,d⟩⟩
theorem Zf4{a b:List Int}(c:a.length=4)(d:b.length=4):F104 a b=some (decide (a≠b/\ZT a b)):=by
 unfold F104;rw[Zb2 a b (by omega)];simp only[Za,Zo7 c d]
 grind
def Wy(a b:List Int):Prop:= ∃k,k<4/\(∀j,j<k->(a[j]?).getD 0=(b[j]?).getD 0)/\(a[k]?).getD 0<(b[k]?).getD 0
theorem Zcq(a:List Int):¬Wy a a:=fun⟨_,_,_,h⟩=>by omega
theorem ZgK{a b c:List Int}(h:Wy a b)(k:Wy b c):Wy a c:=by
 obtain⟨i,e,g,l⟩:=h;obtain⟨j,f,m,o⟩:=k;rcases Vmb i j with d|rfl|d
 ·exact⟨i,e,by grind,by grind⟩
 ·exact⟨i,e,by grind,by omega⟩
 ·exact⟨j,f,by grind,by grind⟩
theorem ZgJ{a b:List Int}(h:Wy a b):¬Wy b a:=fun k=>Zcq a (ZgK h k)
theorem eq4{a b:List Int}(c:a.length=4)(d:b.length=4)(h:∀j,j<4->(a[j]?).getD 0=(b[j]?).getD 0):a=b:=by
 apply Vhc (by omega)
 simp_all
theorem ZkP{a b:List Int}(d:a.length=4)(e:b.length=4):a=b\/Wy a b\/Wy b a:=by
 have key:∀k,k<=4->(∀j,j<k->(a[j]?).getD 0=(b[j]?).getD 0)\/Wy a b\/Wy b a:=by
  intro k
  induction k with
  |zero=>simp
  |succ k f=>
   intro g;rcases f (by omega) with h|h
   ·rcases Int.lt_trichotomy ((a[k]?).getD 0) ((b[k]?).getD 0) with c|c|c
    ·exact .inr (.inl ⟨k,by omega,h,c⟩)
    ·grind
    ·exact .inr (.inr ⟨k,by omega,by grind,c⟩)
   grind
 rcases key 4 (Vm _) with h|h
 ·exact .inl (eq4 d e h)
 grind
theorem Zjk{a b:List Int}(f:a.length=4)(g:b.length=4):∃z,F102 a b=some z/\(z<0↔Wy a b)/\(0<z↔Wy b a):=by
 unfold F102;rw[Zb2 a b (by omega)];simp only[Za];by_cases h:a=b
 ·subst h;rw[Zd rfl];exact⟨0,rfl,⟨by simp,fun h=>absurd h (Zcq a)⟩,⟨by simp,fun h=>absurd h (Zcq a)⟩⟩
 ·rw[Zk h,Ze]
  suffices w:∃r:Unit ⊕ Int,_=some r/\((r=.inr (-1)/\Wy a b)\/(r=.inr 1/\Wy b a)) by
   obtain⟨r,p,t⟩:=w;rcases t with ⟨rfl,d⟩|⟨rfl,d⟩
   ·exact⟨-1,KF (fun x=>x=Sum.inr (-1)) ⟨_,p,rfl⟩ (fun x y=>by subst y;rfl),by grind,⟨by simp,fun h=>absurd h (ZgJ d)⟩⟩
   ·exact⟨1,by grind,⟨by simp,fun h=>absurd h (ZgJ d)⟩,by grind⟩
  refine Kq 4 (fun r:Unit ⊕ Int=>(r=.inr (-1)/\Wy a b)\/(r=.inr 1/\Wy b a)) (fun j (s:Int)=>s=(j:Int)/\ ∀k,k<j->(a[k]?).getD 0=(b[k]?).getD 0) ?_ ?_ _ (by simp)
  ·rintro j _ c ⟨rfl,e⟩;rw[Zd (by omega)];obtain⟨m,u,A⟩:=at4 f c;obtain⟨o,v,B⟩:=at4 g c;simp only[Zc,Ke c,Za,u,v];by_cases i:m<o
   ·rw[Zd i];exact .inr ⟨.inr (-1),rfl,.inl ⟨rfl,j,c,e,by omega⟩⟩
   ·rw[Zk i];by_cases l:o<m
    ·rw[Zd l];exact .inr ⟨.inr 1,rfl,.inr ⟨rfl,j,c,by grind,by omega⟩⟩
    ·rw[Zk l];refine .inl ⟨_,rfl,Z8 c (by omega),fun k C=>?_⟩
     grind
  ·rintro _ ⟨rfl,e⟩;exact absurd (eq4 f g e) h
def Yr(a b:List Int):Prop:=Wy a b/\ ¬ZT a b/\ ¬ZT b a
theorem ZsM{W:List (List Int)}(U:∀w∈W,w.length=4){v:List Int}(X:v.length=4)(hl:W.length+1<=549755813888)(hS:W.Pairwise Yr):∃I,F107 W v=some I/\I.length<=W.length+1/\(∀w∈I,w∈W\/w=v)/\(∃w∈I,ZT w v)/\(∀w∈W,∃u∈I,ZT u w)/\I.Pairwise Yr:=by
 obtain⟨b,Y,N⟩:=Zp6 U X (by omega);unfold F107;rw[Y]
 cases b with
 |true=>exact⟨W,rfl,by omega,fun w f=>.inl f,N.1 rfl,fun w f=>⟨w,f,Dp w⟩,hS⟩
 |false=>
 simp only[Za,Ze];refine Wf (fun r:List (List Int) ×Int=>∃k:Nat,r.2=(k:Int)/\k<=W.length/\r.1.length=W.length/\r.1.take k=W.filter fun w=> !decide (v≠w/\ZT v w)) ?_ ?_
 ·refine Kq W.length _ (fun i (s:List (List Int) ×Int×Int)=>∃k:Nat,s.2=((k:Int),(i:Int))/\k<=i/\s.1.length=W.length/\(s.1.take k=(W.take i).filter fun w=> !decide (v≠w/\ZT v w))/\s.1.drop i=W.drop i) ?_ ?_ _ ⟨0,rfl,Vm _,rfl,by simp,rfl⟩
  ·rintro i ⟨fr,_⟩ g ⟨k,rfl,hk,d,c,D⟩;left;simp only at d c D;have a0:i<fr.length:=by omega
   have a3:fr[i]? =some W[i]:=by have m:=congrArg List.head? D;rw[Vqc,Vqc,Va g]at m;exact m
   have a8:(W[i]).length=4:=U _ (Vc g)
   have p:(W.take (i+1)).filter (fun w=> !decide (v≠w/\ZT v w))=(W.take i).filter (fun w=> !decide (v≠w/\ZT v w))++(if v≠W[i]/\ZT v W[i] then [] else [W[i]]):=by
    rw[Ve g,Vfc];congr 1;by_cases h:v≠W[i]/\ZT v W[i]
    ·rw[Zp h,Vrb (by rw[Zd h];simp)];rfl
    ·rw[Zf h,Vqb (by rw[Zk h];rfl)];rfl
   have A:fr.drop (i+1)=W.drop (i+1):=by have m:=congrArg (Vma 1) D;rw[Vtc,Vtc]at m;exact m
   simp only[ZU g,Zc,Ke a0,a3,Za,Zf4 X a8,Z8 g (show W.length<=9223372036854775807 by omega)];by_cases C:v≠W[i]/\ZT v W[i]
   ·rw[Zp C,Vt]at p;rw[Zd C];simp only[Vg,Ze];exact⟨_,rfl,k,rfl,by omega,d,by rw[p];exact c,A⟩
   ·rw[Zf C]at p;rw[Zk C];have Q:k<fr.length:=by omega
    have a9:Vb .i64 ((k:Int)+1)=((k+1:Nat):Int):=by rw[Zs (by omega) (by omega)];omega
    simp only[Vq,Zc,Ke Q,Za,Va Q,a9];refine⟨_,rfl,k+1,rfl,by omega,by rw[Vrc];exact d,?_,?_⟩
    ·have e1:(fr.set k W[i]).take (k+1)=fr.take k++[W[i]]:=by rw[Ve (by rw[Vrc];omega),List.take_set_of_le (Vm _),List.getElem_set_self]
     rw[e1,p,c]
    ·rw[List.drop_set_of_lt (by omega)];exact A
  ·rintro ⟨fr,_⟩ ⟨k,rfl,hk,d,c,_⟩;rw[Vja]at c;exact⟨(fr,(k:Int)),by simp only[Jy,Ze],k,rfl,hk,d,c⟩
 ·rintro ⟨fr,_⟩ ⟨k,rfl,hk,d,c⟩;simp only at d c
  have P:∀i (g:i<k),∃w,fr[i]? =some w/\w.length=4:=fun i g=>by
   have t:i<fr.length:=by omega
   have m:(fr.take k)[i]? =some fr[i]:=by rw[Vgb,Zp g,Va t]
   have T:=Vzb m;rw[c]at T;exact⟨_,Va t,U _ (Vfa.1 T).1⟩
  refine Wf (fun r:Int=>∃a:Nat,r=(a:Int)/\a<=k/\(∀i w,i<a->fr[i]? =some w->Wy w v)/\(a<k->∀w,fr[a]? =some w->¬Wy w v)) ?_ ?_
  ·refine Kq k _ (fun i (s:Int)=>s=(i:Int)/\ ∀j w,j<i->fr[j]? =some w->Wy w v) ?_ ?_ _ ⟨rfl,fun j w hj=>by omega⟩
   ·rintro i _ g ⟨rfl,x⟩;obtain⟨w,m,T⟩:=P i g;obtain⟨z,hz,S,_⟩:=Zjk T X;have t:i<fr.length:=by omega
    simp only[Zd (show (i:Int)<(k:Int) by omega),Zc,Ke t,m,Za,hz];by_cases V:z<0
    ·rw[Zd V];refine .inl ⟨_,rfl,Z8 g (by omega),fun j u hj l=>?_⟩;by_cases a5:j=i
     ·subst a5;rw[m]at l;cases l;exact S.1 V
     ·exact x j u (by omega) l
    ·rw[Zk V];exact .inr ⟨_,rfl,i,rfl,by omega,x,fun _ u l hl=>by rw[m]at l;cases l;exact V (S.2 hl)⟩
   ·rintro _ ⟨rfl,x⟩;exact⟨_,by simp only[Zk (show¬(k:Int)<(k:Int) by omega),Ze,Za],k,rfl,Vm _,x,fun h=>by omega⟩
  ·rintro _ ⟨a,rfl,ha,O,K⟩;have hm:(ZE:Int)=549755813888:=rfl;have b4:(ZE:Nat)=549755813888:=rfl;have f:Vb .i64 ((k:Int) - (a:Int))=((k - a:Nat):Int):=by rw[Zs (by omega) (by omega)];omega
   have hg:ZD (decide ((0:Int)<=((k - a:Nat):Int)/\((k - a:Nat):Int)<=((k - a:Nat):Int)/\((k - a:Nat):Int)<=(ZE:Int)))=some ():=by rw[Zd ⟨by omega,by omega,by omega⟩];rfl
   have a6:sliceB fr.length fr.length (some (a:Int)) (some (k:Int))=some (a,k):=by unfold sliceB;simp only;rw[Zp ⟨by omega,by omega⟩,Vd];simp only[Za];rw[Zp ⟨by omega,by omega⟩,Vd]
   have a4:Zo (a:Int) (fr.length+1)=some a:=Ke (by omega)
   have a7:sliceB fr.length a none (some (a:Int))=some (0,a):=by unfold sliceB;simp
   have o:Vw (k - a) (Vma a fr)=(W.filter fun w=> !decide (v≠w/\ZT v w)).drop a:=by rw[<-c,List.drop_take]
   have G:(Vw (k - a) (Vma a fr)).length=k - a:=by rw[Vu,Vob];omega
   have H:Vw a fr=(W.filter fun w=> !decide (v≠w/\ZT v w)).take a:=by rw[<-c,Vuc,Vmc ha]
   simp only[f,hg,Za,a6,a4,a7,Vd,List.length_replicate,G,Nat.min_self]
   have Z:Vw (k - a) (Vw (k - a) (Vma a fr))++Vma (k - a) (Vaa (k - a) (Tr.zeroEl KP))=Vw (k - a) (Vma a fr):=by have hz:Vma (k - a) (Vaa (k - a) (Tr.zeroEl KP))=[]:=Vsb (by simp);rw[Vuc,Nat.min_self,hz,Vt]
   rw[Z]
   have a1:ZD (decide ((Vw a fr).length+ [v].length<=ZE))=some ():=by rw[Zd (by rw[Vu];simp;omega)];rfl
   have a2:ZD (decide ((Vw a fr++[v]).length+(Vw (k - a) (Vma a fr)).length<=ZE))=some ():=by rw[Zd (by rw[Vi,Vu,G];simp;omega)];rfl
   refine⟨Vw a fr++[v]++Vw (k - a) (Vma a fr),?_,?_,?_,⟨v,by simp,Dp v⟩,?_,?_⟩
   ·refine KF (fun _=>True) ⟨(),a1,trivial⟩ fun _ _=>?_;exact KF (fun _=>True) ⟨(),a2,trivial⟩ fun _ _=>rfl
   ·rw[Vi,Vi,Vu,G];simp;omega
   ·intro w f;rw[Vj,Vj,Vh,H,o]at f;rcases f with (f|f) |f
    ·exact .inl ((Vfa.1 (Vac f)).1)
    ·exact .inr f
    ·exact .inl ((Vfa.1 (Vbb f)).1)
   ·intro w f;by_cases C:v≠w/\ZT v w
    ·exact⟨v,by simp,C.2⟩
    ·have R:w∈W.filter fun w=> !decide (v≠w/\ZT v w):=Vfa.2 ⟨f,by rw[Zk C];rfl⟩;rw[<-Vra a (W.filter fun w=> !decide (v≠w/\ZT v w)),Vj]at R;refine⟨w,?_,Dp w⟩;rw[Vj,Vj,H,o];rcases R with h|h
     ·exact .inl (.inl h)
     ·exact .inr h
   ·have J:(W.filter fun w=> !decide (v≠w/\ZT v w)).Pairwise Yr:=hS.filter _;have b0:(W.filter fun w=> !decide (v≠w/\ZT v w)).length=k:=by rw[<-c,Vu];omega
    have E:∀w∈W.filter (fun w=> !decide (v≠w/\ZT v w)),¬ZT w v/\ ¬ZT v w/\v≠w/\w.length=4:=fun w f=>by
     obtain⟨w1,w2⟩:=Vfa.1 f
     have n1:¬ZT w v:=fun h=>by have:=N.2 ⟨w,w1,h⟩;cases this
     have n2:v≠w:=fun e=>n1 (e▸Dp v);rw[Bool.not_eq_true',decide_eq_false_iff_not]at w2;exact⟨n1,fun h=>w2 ⟨n2,h⟩,n2,U w w1⟩
    have B:∀i,i<k->fr[i]? =(W.filter fun w=> !decide (v≠w/\ZT v w))[i]? :=fun i g=>by rw[<-c,Vgb,Zp g]
    rw[H,o];generalize (W.filter fun w=> !decide (v≠w/\ZT v w))=F at*
    have b1:∀u∈F.take a,Wy u v:=fun u l=>by obtain⟨i,g,rfl⟩:=Vs l;rw[Vu]at g;exact O i _ (by omega) (by rw[B i (by omega),List.getElem_take,Va])
    have b2:∀u∈F.drop a,Wy v u:=fun u l=>by
     obtain⟨i,g,rfl⟩:=Vs l;rw[Vob]at g;have M:a<k:=by omega
     have h0:=K M F[a] (by rw[B a M,Va]);have hm:=E F[a] (Vc (by omega))
     have m:Wy v F[a]:=by
      rcases ZkP X hm.2.2.2 with e|e|e
      ·exact absurd e hm.2.2.1
      ·exact e
      ·exact absurd e h0
     rw[List.getElem_drop];rcases Nat.eq_zero_or_pos i with rfl|b3
     ·exact m
     ·exact ZgK m (Vua.1 J a (a+i) (by omega) (by omega) (by omega)).1
    have y:=J;rw[<-Vra a F,Vbc]at y;rw[Vwa,Vbc];refine⟨y.1,Vhb.2 ⟨fun u l=>⟨b2 u l,?_⟩,y.2.1⟩,fun u l w f=>?_⟩
    ·have:=E u (Vbb l);exact⟨this.2.1,this.1⟩
    ·rw[List.singleton_append,Vxc]at f;rcases f with rfl|f
     ·have:=E u (Vac l);exact⟨b1 u l,this.1,this.2.1⟩
     ·exact y.2.2 u l w f
theorem Zst{V:List (List Int)}(o:∀w∈V,w.length=4)(C:V.length<=542198816521):∃W,F105 V=some W/\W.length<=V.length/\(∀w∈W,w∈V)/\(∀v∈V,∃w∈W,ZT w v)/\W.Pairwise Yr:=by
 unfold F105;refine Wf (fun W:List (List Int)=>W.length<=V.length/\(∀w∈W,w∈V)/\(∀v∈V,∃w∈W,ZT w v)/\W.Pairwise Yr) ?_ (fun W h=>⟨W,rfl,h⟩);refine Kq V.length _ (fun i (s:List (List Int) ×Int)=>s.2=(i:Int)/\s.1.length<=i/\(∀w∈s.1,w∈V.take i)/\(∀v∈V.take i,∃w∈s.1,ZT w v)/\s.1.Pairwise Yr) ?_ ?_ _ ⟨rfl,Vm _,by simp,by simp,.nil⟩
 ·rintro i ⟨W,_⟩ b ⟨rfl,e,c,a,d⟩;left;simp only at e c a d;have p:idx V (i:Int)=some V[i]:=ZH b;have f:∀w,w∈V.take (i+1)↔w∈V.take i\/w=V[i]:=fun w=>by rw[Ve b,Vj,Vh]
  obtain⟨z,j,A,B,k,l,m⟩:=ZsM (W:=W) (by grind) (o _ (Vc b)) (by omega) d;simp only[ZU b,Zc,p,Za,j,Z8 b (by omega)];refine⟨_,rfl,rfl,by grind,by grind,fun v g=>?_,m⟩;rcases (f v).1 g with g|rfl
  ·obtain⟨w,r,t⟩:=a v g;obtain⟨u,x,y⟩:=l w r;exact⟨u,x,Rf y t⟩
  ·exact k
 ·rintro ⟨W,_⟩ ⟨rfl,e,c,a,d⟩;rw[Vja]at c a;exact⟨W,by simp only[Jy,Ze],e,c,a,d⟩
def Z2(q:Zt)(c:YR):List Int:=if q.2.2.2.1=true then [Vb .i64 (0 - c.1),c.2.2.1,c.2.2.2.1,c.2.2.2.2.1] else [c.2.1,c.2.2.1,c.2.2.2.1,c.2.2.2.2.1]
theorem Zbt(q:Zt)(c:YR):F81 q c=some (Z2 q c):=by
 unfold F81 Z2
 grind
theorem Gp(q:Zt)(c:YR):(Z2 q c).length=4:=by
 unfold Z2
 grind
theorem ZpC(q:Zt){O:List KA}(Q:O.length<=542198816521):∃L,F149 q O=some L/\L.length<=O.length/\(∀x∈L,x∈O)/\(∀y∈O,∃x∈L,ZT (Z2 q x.2.1) (Z2 q y.2.1))/\(L.map fun x=>Z2 q x.2.1).Pairwise Yr:=by
 have D:(ZE:Nat)=549755813888:=rfl;unfold F149;refine Wf (fun V:List (List Int)=>V=O.map fun x=>Z2 q x.2.1) ?_ ?_
 ·refine Kq O.length _ (fun i (s:List (List Int) ×Int)=>s=((O.take i).map (fun x=>Z2 q x.2.1),(i:Int))) ?_ ?_ _ rfl
  ·rintro i _ a rfl;left;have f:idx O (i:Int)=some O[i]:=ZH a;simp only[ZU a,Zc,f,Za,Zbt,Z8 a (by omega)];refine⟨_,KF (fun _=>True) ⟨(),?_,trivial⟩ (fun _ _=>rfl),?_⟩
   ·rw[Zd (by grind)];rfl
   ·rw[Ve a,Vn];rfl
  simp
 ·rintro _ rfl
  obtain⟨W,K,u,M,N,P⟩:=Zst (V:=O.map fun x=>Z2 q x.2.1) (fun w G=>by obtain⟨x,_,rfl⟩:=Vna.1 G;exact Gp q x.2.1) (by grind)
  rw[Vl]at u;refine Wf (fun x=>x=W) ⟨_,K,rfl⟩ ?_;rintro _ rfl;rename_i W;refine Wf (fun L:List KA=>(∀x∈L,x∈O)/\L.map (fun x=>Z2 q x.2.1)=W) ?_ ?_
  ·refine Kq W.length _ (fun i (s:List KA×Int)=>s.2=(i:Int)/\s.1.length<=i/\(∀x∈s.1,x∈O)/\s.1.map (fun x=>Z2 q x.2.1)=W.take i) ?_ ?_ _ ⟨rfl,Vm _,by simp,rfl⟩
   ·rintro i ⟨L,_⟩ a ⟨rfl,c,d,e⟩;left;simp only at c d e;have f:idx W (i:Int)=some W[i]:=ZH a;have b:=M _ (Vc a);have o:W.take (i+1)=W.take i++[W[i]]:=Ve a;generalize W[i]=w at*;simp only[ZU a,Zc,f,Za,Z8 a (by omega)];refine XW (fun h:List KA=>∃x∈O,Z2 q x.2.1=w/\h=L++[x]) ?_ ?_
    ·obtain⟨S,p,z⟩:=Vna.1 b;obtain⟨R,A,rfl⟩:=Vs p;refine Kq O.length (fun h:List KA=>∃x∈O,Z2 q x.2.1=w/\h=L++[x]) (fun j (s:List KA×Int)=>s=(L,(j:Int))/\ ∀k (B:k<O.length),k<j->Z2 q (O[k]).2.1≠w) ?_ ?_ _ (by simp)
     ·rintro j _ g ⟨rfl,E⟩;have t:idx O (j:Int)=some O[j]:=ZH g
      have I:idx (O.map fun x=>Z2 q x.2.1) (j:Int)=some (Z2 q (O[j]).2.1):=by
       have m:j<(O.map fun x=>Z2 q x.2.1).length:=by grind
       rw[ZH m,List.getElem_map]
      simp only[ZU g,Zc,t,I,Za];rw[Zb2 _ _ (by rw[Gp];obtain⟨x,_,rfl⟩:=Vna.1 b;exact(Gp q x.2.1).symm)];simp only[Za];by_cases l:Z2 q (O[j]).2.1=w
      ·rw[Zd l];right;refine⟨_,KF (fun _=>True) ⟨(),?_,trivial⟩ (by simp),O[j],Vc g,l,rfl⟩;rw[Zd (by grind)];rfl
      ·rw[Zk l];left;refine⟨_,rfl,?_,fun k B C=>?_⟩
       ·rw[Z8 g (by omega)]
       grind
     grind
    ·rintro _ ⟨x,H,r,rfl⟩;exact⟨_,rfl,rfl,by grind,by grind,by simp only[Vn,e,o,Vv,Vva,r]⟩
   ·rintro ⟨L,_⟩ ⟨rfl,c,d,e⟩;rw[Vja]at e;exact⟨L,by simp only[Jy,Ze],d,e⟩
  ·rintro L ⟨d,c⟩;refine⟨L,rfl,?_,d,fun y t=>?_,by rw[c];exact P⟩
   ·rw[<-c,Vl]at u;exact u
   ·obtain⟨w,v,J⟩:=N _ (Vna.2 ⟨y,t,rfl⟩);rw[<-c]at v;obtain⟨x,f,rfl⟩:=Vna.1 v;exact⟨x,f,J⟩
end Q
namespace Q
open Tr Go
variable {n:Zh}{q:Zt}
theorem Zhn{i:Nat}(a:i<n.2.2.1.length):rn (Zz n q) (i:Int)=Xn n q (rn n (i:Int)):=by unfold rn;show ((n.2.2.1.map (Xn n q))[(i:Int).toNat]?).getD u0=_;rw[Vd,Vqa,Va a];rfl
theorem ZaH{i:Nat}(a:i<n.2.2.1.length):Zl (Zz n q) i=(Zl n i).map (WJ n q):=by unfold Zl;rw[Zhn a];rfl
theorem ZmL(h:JE n):JE (Zz n q):=by
 have b:(Zz n q).2.2.1.length=n.2.2.1.length:=Vl ..;refine⟨h.stops,by rw[b];exact h.runs,?_,fun i a=>?_⟩
 ·show (JJ n q).length<=60;unfold JJ;split
  ·exact Vr (Vpa _ _) h.paths
  ·exact h.paths
 ·rw[b]at a;rw[ZaH a,Vl];exact h.calls i a
theorem Zb5(h:Xh n):Xh (Zz n q):=by
 refine⟨h.stops,h.routes,fun x b=>?_,fun x b=>?_,?_,h.prods⟩
 ·obtain⟨r,a,rfl⟩:=Vna.1 (show x∈n.2.2.1.map (Xn n q) from b);exact h.runs r a
 ·obtain⟨r,a,rfl⟩:=Vna.1 (show x∈n.2.2.1.map (Xn n q) from b);show (r.2.2.2.2.2.2.2.1.map (WJ n q)).length<=_;rw[Vl];exact h.calls r a
 ·show (JJ n q).length<=4096;unfold JJ;split
  ·exact Vr (Vpa _ _) h.paths
  ·exact h.paths
def st0(F:Ku):J5:=[(some F,(0,0,0,0,()),0,[0,0,0,0,0,0,0,0,0],())]
def KG(n:Zh)(q:Zt):Zu:=((0,q.1,0,0,(0,0,0,0,()),()),q.2.2.1,0,0,st0 n.2.2.2.2.2.1,[],())
theorem Zt9{F:Ku}(a:(J8 F).2=0)(b:∀x∈F.1,x.1.length<=9223372036854775807):F19 F=some (st0 F,0):=by
 have c:=(Dj a).many;unfold F19;rw[Zgf F b]
 have e:ZD (decide ((Vda ([]:List Unit))+Vda F.1<=ZE))=some ():=by rw[Zd (by simp [ZE];omega)];rfl
 simp only[Za,Zd a,Vg,Ze,e];rfl
theorem Zt4{F:Ku}(hF:FO F):HZ F hF [] (st0 F):=by
 refine .start ⟨rfl,fun i a=>?_⟩;have:i=0:=by simpa using a
 subst this;exact⟨0,rfl,by omega,by omega⟩
theorem ZkA(c:qB n.1.length q=true)(i:q.2.2.2.2.1<=3){hF:FO n.2.2.2.2.2.1} :LI n.2.2.2.2.2.1 hF n q (KG n q):=by unfold qB at c;simp only[Vf,KQ]at c;obtain⟨b,_,d,e,f,_⟩:=c;unfold Kh at b;rw[Vf,KQ,KQ]at b;refine⟨⟨⟨Zt4 hF,fun v g=>absurd g (by show¬v∈([]:List ZW);simp)⟩,by show ([]:List Zv).length<=80;simp,⟨Vz 0,e.1⟩,⟨Vz 0,f.1⟩,d,b,fun h=>absurd h (by show¬(0:Int)=1;decide),fun x a=>absurd a (by show¬ []=[x];simp)⟩,rfl,?_,fun _=>⟨rfl,rfl,rfl,rfl⟩,.inl rfl,rfl,rfl,rfl,fun x a=>absurd a (by show¬x∈([]:List Zv);simp),fun L x a=>absurd a (by show¬ []=L++[x];simp),fun h=>absurd rfl h,fun x a=>absurd a (by show¬ []=[x];simp)⟩;show 0+hL n q (KG n q)<=79;have:hL n q (KG n q)=20* (q.2.2.2.2.1 - 0).toNat+19:=rfl;omega
theorem ZrI{F:Ku}{hF:FO F}{l:Zu}(b:LI F hF n q l):((l.2.2.2.2.2.1[l.2.2.2.2.2.1.length - 1]?).map fun x=>x.2.2.2.2.2.2.2.1).getD q.2.2.1=l.2.1:=by
 by_cases h:l.2.2.2.2.2.1=[]
 ·have a:l.1.1=0:=by
   by_cases a:l.1.1=0
   ·exact a
   ·exact absurd h (b.some a)
  rw[h];exact(b.zero a).2.2.2.symm
 ·have e:=List.dropLast_concat_getLast h;have:=b.last _ _ e.symm;rw[List.getLast_eq_getElem]at this;rw[Va (by have:=Veb.2 h;omega)];exact this
theorem Zcp(h:Xh n)(b:Whole n)(c:n.2.2.2.2.2.1=Y8)(f:QI q){l:Zu}(a:LI n.2.2.2.2.2.1 (Dj b.sound.fare) n q l):
 ∃t,F78 n q (l.2.2.2.2.2.1,())=some ((((l.2.2.2.2.2.1[0]?).map fun x=>x.2.2.2.2.2.2.1).getD q.2.2.1,l.2.1,l.2.2.1,0,l.2.2.2.1,()),t,0):=by
 obtain⟨g,d,c3⟩:=ZbX f a;have j:=a.val.rides;have i:=f.rides;have e:=(RY b.sound l.2.2.2.2.2.1 false [] (by simp)).2;rw[d]at e;have e:=e rfl;obtain⟨t,this⟩:=ZdD h b c q (L:=l.2.2.2.2.2.1) (by have:=a.val.len;omega) a.lok d g.fare.2 (by omega);rw[ZrI a,a.wlk,show (ridesN l.2.2.2.2.2.1:Int)=l.2.2.1 by simp only[Vx,Vpb]at e;omega]at this;exact⟨t,this⟩
theorem ZuE(g:Xh n)(b:Whole n)(d:n.2.2.2.2.2.1=Y8)(f:QI q){o l:Zu}(k:LI n.2.2.2.2.2.1 (Dj b.sound.fare) n q o)(j:LI n.2.2.2.2.2.1 (Dj b.sound.fare) n q l)(h:JC n.2.2.2.2.2.1 (Dj b.sound.fare) o l){y:KA}(a:y∈JB n q l):
 ∃x∈JB n q o,x.2.1.2.1<=y.2.1.2.1/\x.2.1.2.2.1<=y.2.1.2.2.1/\x.2.1.2.2.2.1<=y.2.1.2.2.2.1/\x.2.1.2.2.2.2.1<=y.2.1.2.2.2.2.1:=by
 unfold JB at a⊢;have c:Xq n q o↔Xq n q l:=by unfold Xq Jg;rw[h.1]
 by_cases e:Xq n q l
 ·rw[Zp e]at a;rw[Zp (c.2 e)];obtain⟨t,i⟩:=Zcp g b d f j;obtain⟨p,m⟩:=Zcp g b d f k;rw[Zen i,Zp rfl,Vh]at a;rw[Zen m,Zp rfl];subst a;exact⟨_,Vh.2 rfl,h.2.1,h.2.2.1,Vz _,h.2.2.2⟩
 ·rw[Zf e]at a;cases a
theorem ZqV(m:n.2.2.2.2.2.1=Y8)(w:Xh n)(K:Few n)(I:D3 n q=0)(U:JE n)(H:q.2.2.2.2.1<=3)(v:q.2.2.2.1=false):
 ∃L:List KA,F146 n q=some (L,0)/\L.length<=542198816521/\(∀x∈L,∃l,Rc (Zz n q) (Zn q) (KG (Zz n q) (Zn q)) l/\x∈JB (Zz n q) (Zn q) l)/\
  (∀l,Rc (Zz n q) (Zn q) (KG (Zz n q) (Zn q)) l->∀y∈JB (Zz n q) (Zn q) l,∃x∈L,ZT (Z2 q x.2.1) (Z2 q y.2.1))/\(L.map fun x=>Z2 q x.2.1).Pairwise Yr:=by
 obtain⟨u,r⟩:=ZbW.1 I;have a:Whole (Zz n q):=Zfy q K.paths u;have g:JE (Zz n q):=ZmL U;have j:Xh (Zz n q):=Zb5 w;have B:qB (Zz n q).1.length (Zn q)=true:=ZlK r
 have k:QI (Zn q):=by have d:=r;unfold qB at d;simp only[Vf,KQ]at d;exact⟨by show q.2.2.2.2.1<=7;omega,d.2.2.2.2.1.2⟩
 have A:(Zz n q).2.2.2.2.1.length<=4096:=j.paths;have f:F19 n.2.2.2.2.2.1=some (st0 n.2.2.2.2.2.1,0):=Zt9 u.sound.fare w.prods;have b:LI (Zz n q).2.2.2.2.2.1 (Dj a.sound.fare) (Zz n q) (Zn q) (KG (Zz n q) (Zn q)):=ZkA B H
 obtain⟨G,X,Y,Z,r4⟩:=Ztr a g k H A (fun l t=>let ⟨_,h⟩:=Zcp j a m k t;⟨_,h⟩) (s:=st0 n.2.2.2.2.2.1) 0 b
 obtain⟨L,M,c2,c3,N,O⟩:=ZpC q Y;unfold F146;rw[Zn8 u.sound K q (by rw[ZbV w,I])];simp only[Za,decide_true,Vg,Ze,v,f];refine⟨L,?_,by omega,fun x C=>?_,fun l t y V=>?_,O⟩
 ·have p:F75 ()=some ((),[],0,()):=rfl;rw[p];simp only[Za];have e:((q.1,q.2.1,q.2.2.1,false,q.2.2.2.2.1,q.2.2.2.2.2.1,false,false,(0:Int),q.2.2.2.2.2.2.2.2.2):Zt)=Zn q:=by unfold Zn;rw[v]
  rw[e];refine KF (fun x=>x=G) ⟨_,X,rfl⟩ ?_;rintro _ rfl;exact KF (fun x=>x=L) ⟨_,M,rfl⟩ (fun x C=>by subst C;rfl)
 ·obtain⟨l,D,E⟩:=Z x (c3 x C);exact⟨l,D,E⟩
 ·obtain⟨o,D,E,W⟩:=r4 l t;obtain⟨x,P,Q,R,S,T⟩:=ZuE j a m k (D.li a g k b) (Rc.li a g k b t) E V;obtain⟨z,z1,z2⟩:=N x (W x P);refine⟨z,z1,Rf z2 ?_⟩;have J:∀c:YR,Z2 q c=[c.2.1,c.2.2.1,c.2.2.2.1,c.2.2.2.2.1]:=fun c=>by unfold Z2;rw[v];rfl
  rw[J,J];intro i hi;rcases (show i=0\/i=1\/i=2\/i=3 by omega) with rfl|rfl|rfl|rfl
  ·exact Q
  ·exact R
  ·exact S
  ·exact T
end Q
namespace Q
open Tr Go
variable {n:Zh}{q:Zt}
theorem Zl2(s t a b:Int):ridesN [Kf s t a b]=0:=rfl
theorem Zhl(n:Zh)(i b c:Nat)(st:Bool):ridesN [ZP n i b c st]=if st then 0 else 1:=by cases st<;>rfl
theorem Za0{L:List Zv}{i:Nat}(h:i<L.length):lg L i=L[i]:=by unfold lg;grind
theorem Zl1{L:List Zv}{i:Nat}(h:i<L.length):ridesN (L.take (i+1))=ridesN (L.take i)+ridesN [lg L i]:=by rw[Ve h,Zhk,Za0 h]
theorem ZkL{n:Zh}{q:Zt}{L:List Zv}{i:Nat} :GG n q L (i+1)=JH n (lg L i) (lg L (i+1)):=by rfl
theorem ZuO(L:List Zv):0<=KE L:=(ZhT L).1
theorem Znd(L:List Zv)(i:Nat):KE (L.take i)<=KE L:=by have:=ZcT (L.take i) (L.drop i);rw[Vra]at this;have:=ZuO (L.drop i);omega
theorem ZlZ(L:List Zv)(i:Nat):ridesN (L.take i)<=ridesN L:=by
 have:=Zhk (L.take i) (L.drop i)
 simp_all
theorem Zbo{L:List Zv}{i:Nat}(h:i<L.length):L.take (i+1)=L.take i++[lg L i]:=by rw[Ve h,Za0 h]
theorem Zfu{L:List Zv}(h:∀x,L=[x]->x.1=true)(d:Int):WQ L d=L:=by
 by_cases a:L.length=1
 ·obtain⟨x,rfl⟩:=Vxa.1 a;exact ZbM (h x rfl) d
 ·exact ZbL a d
theorem Zlr(h:K1 n){L:List Zv}(u:∀i,i<L.length->WI n (Zn q) L i=0){i:Nat}(y:i<L.length){r b c:Nat}{st:Bool}(e:lg L i=ZP n r b c st):HQ n r c=true:=by
 unfold HQ;rw[Vpc];obtain⟨_,_,x⟩:=Wr.1 (u i y)
 cases m:Xf L i with
 |true=>
  have:=x m;rw[e]at this
  exact .inl (DU.1 this)
 |false=>
  right;unfold Xf at m;rw[e]at m;have f:(decide (i+1=L.length) || !Kv (lg L (i+1)))=false:=by assumption
  rw[Vba,decide_eq_false_iff_not,Vk]at f;have k:i+1<L.length:=by omega
  obtain⟨t,g,_⟩:=Wr.1 (u (i+1) k);rw[ZkL,e]at g
  cases v:(lg L (i+1)).1 with
  |false=>
   obtain⟨p,_,a,w,_⟩:=(R5 h).1 ⟨t,v⟩;have:=f.2;rw[w]at this
   cases this
  |true=>
   obtain⟨j,d,A,o,s,_⟩:=(Zcn h).1 ⟨t,v⟩;have:=f.2;rw[s]at this;have l:o=true:=this;subst l;rw[s]at g;obtain⟨_,z,_⟩:=(Zb8 h).1 g;exact Vsa.2 ⟨_,z,by simp⟩
def ZbD(n:Zh)(q:Zt)(L:List Zv)(i:Nat):Prop:= ∃l,Rc n (Zn q) (KG n (Zn q)) l/\l.2.2.1=(ridesN (L.take (i+1)):Int)/\
 ((∃r b c st,lg L i=ZP n r b c st/\DM n r b c st/\l.1.1=1/\l.1.2.2.1=(r:Int)/\l.1.2.2.2.1=(c:Int)/\l.2.2.2.2.2.1=L.take (i+1))\/
  (∃p∈n.2.2.2.2.1,∃a,lg L i=Kf p.1 p.2.1 a (a+p.2.2.1)/\l.1.1=2/\l.1.2.1=p.2.1/\l.2.1<=a+p.2.2.1/\((0<i/\l.2.2.2.2.2.1=L.take (i+1))\/(i=0/\ ∃T,l.2.2.2.2.2.1=[Kf p.1 p.2.1 T (T+p.2.2.1)]/\(L.length=1->T=a)))))
theorem ZsC(V:Whole n)(W:q.2.2.2.1=false){hF:FO n.2.2.2.2.2.1}(J:LI n.2.2.2.2.2.1 hF n (Zn q) (KG n (Zn q))){L:List Zv}(hL:0<L.length)(M:∀i,i<L.length->WI n (Zn q) L i=0)(hr:(ridesN L:Int)<=q.2.2.2.2.1)(hw:KE L<=q.2.2.2.2.2.1):ZbD n q L 0:=by
 have h:=V.ok;obtain⟨K,U,h3⟩:=Wr.1 (M 0 hL);have x:Ji n (Zn q) L=0:=U;obtain⟨o,G,f3,u,l,r⟩:=XF.1 x;have H:(Zn q).1=q.1:=rfl;have I:(Zn q).2.2.1=q.2.2.1:=rfl;have S:(Zn q).2.2.2.1=q.2.2.2.1:=rfl;have T:(Zn q).2.2.2.2.2.2.2.2.2.1=q.2.2.2.2.2.2.2.2.2.1:=rfl;rw[H]at o;rw[S,W,I]at u l;rw[T,I,H]at r;have f:=J.val.stop;have a2:0<=q.2.2.1/\q.2.2.1<=3155932800:=J.val.time;have A:=h.change _ f.1 f.2;have N:0<=(Wv n q.1).2.2.2.1/\(Wv n q.1).2.2.2.1<=3600:=A;have g:=Zbo hL;have s:ridesN (L.take 0)=0:=by rfl
 have m:=Zl1 hL
 cases Q:(lg L 0).1 with
 |true=>
  obtain⟨i,b,c,st,e,O⟩:=(Zcn h).1 ⟨K,Q⟩;have C:=O;obtain⟨k1,k2,k3,k4,k5⟩:=C;have t:=Zlr h M hL e;rw[e]at o G l r m g;have f:st=false:=G;subst f;have z:(Zg n i b).2.2.2.1=true:=by grind
  have k:(Zg n i b).1=q.1:=o
  have j:q.2.2.1+(if q.2.2.2.2.2.2.2.2.2.1=true then JT n q.1 else 0)<=(Zg n i b).2.2.1:=by
   simp only[Vq,Vec,decide_eq_false_iff_not]at l;have v:¬(Zg n i b).2.2.1<q.2.2.1:=l
   cases X:q.2.2.2.2.2.2.2.2.2.1 with
   |false=>grind
   |true=>
    rw[X,Zs (by omega) (by omega)]at r;simp only[Vec]at r;have w:decide ((Zg n i b).2.2.1<q.2.2.1+(Wv n q.1).2.2.2.1)=false:=r;rw[decide_eq_false_iff_not]at w;unfold JT;omega
  rw[s,Zhl]at m;have y:ridesN (L.take 1)=1:=m;have D:=ZlZ L 1;have d:ZS (KG n (Zn q))=KG n (Zn q):=by rfl
  have B:JW n (Zn q) (KG n (Zn q))=q.2.2.1+(if q.2.2.2.2.2.2.2.2.2.1=true then JT n q.1 else 0):=by rfl
  refine⟨_,.step .start (YI.2 (.inr (.inl ⟨fun h=>absurd h (by show¬(0:Int)=1;decide),GH.2 ⟨i,b,c,k1,k2,k3,?_,?_,t,rfl⟩⟩))),?_,.inl ⟨i,b,c,false,e,O,rfl,rfl,rfl,?_⟩⟩
  ·rw[d,B];exact⟨k4,z,k,by omega,.inl j⟩
  ·rw[d];show (0:Int)≠q.2.2.2.2.1;omega
  ·rw[d,y];rfl
  ·rw[d,g]
   rfl
 |false=>
  obtain⟨p,E,a,e,a0,a1⟩:=(R5 h).1 ⟨K,Q⟩;have Z:=h.path p E;rw[e]at o u l m g;have P:p.1=q.1:=o;rw[s,Zl2]at m
  have v:¬a<q.2.2.1:=by
   simp only[Vq,Vec,decide_eq_false_iff_not]at l
   assumption
  have a4:=Znd L 1
  have a3:KE (L.take 1)=p.2.2.1:=by
   rw[g];unfold KE Yn Kf
   grind
  have d:ZS (KG n (Zn q))=KG n (Zn q):=by rfl
  refine⟨_,.step .start (YI.2 (.inr (.inr ⟨fun h=>absurd h (by show¬(0:Int)=1;decide),by show (0:Int)≠2;decide,Dr.2 ⟨p,E,?_,rfl⟩⟩))),?_,.inr ⟨p,E,a,e,rfl,rfl,?_,.inr ⟨rfl,q.2.2.1,?_,fun Y=>?_⟩⟩⟩
  ·rw[d];refine⟨P,?_,?_⟩
   ·show 0+p.2.2.1<=q.2.2.2.2.2.1;omega
   ·show q.2.2.1+p.2.2.1<=_;omega
  ·rw[d,m];rfl
  ·rw[d];show q.2.2.1+p.2.2.1<=_;omega
  ·rw[d,P];rfl
  ·rw[Zd Y]at u;have R:(!decide (a=q.2.2.1))=false:=u
   grind
theorem ZsB(hW:Whole n)(hT:JE n)(hQ:QI (Zn q)){hF:FO n.2.2.2.2.2.1}(h0:LI n.2.2.2.2.2.1 hF n (Zn q) (KG n (Zn q))){L:List Zv}(O:∀i,i<L.length->WI n (Zn q) L i=0)(hr:(ridesN L:Int)<=q.2.2.2.2.1)(hw:KE L<=q.2.2.2.2.2.1){i:Nat}(J:i+1<L.length)(u:ZbD n q L i):ZbD n q L (i+1):=by
 have h:=hW.ok;have m:i<L.length:=by omega
 obtain⟨_,_,a3⟩:=Wr.1 (O i m);obtain⟨b1,f,_⟩:=Wr.1 (O (i+1) J);rw[ZkL]at f;have E:=Zl1 J;have w:=Zbo J;have a5:=ZlZ L (i+1+1);obtain⟨l,s,a6,v⟩:=u;have o:=s.li hW hT hQ h0;obtain⟨s1,s2,s3,s4,s5⟩:=D4 l
 have M:∀{r b c:Nat}{st:Bool},lg L i=ZP n r b c st->Kv (lg L (i+1))=false->(Zg n r c).2.2.2.2.1=true:=by intro r b c st e hs;refine DU.1 (?_ :YC n (Zn q) (ZP n r b c st)=0);rw[<-e];refine a3 ?_;unfold Xf;rw[e,hs];simp [ZP]
 cases hy:(lg L (i+1)).1 with
 |true=>
  obtain⟨j,d,e,a9,g,Z⟩:=(Zcn h).1 ⟨b1,hy⟩;have a2:=Z;obtain⟨k1,k2,k3,k4,k5⟩:=a2;have K:=Zlr h O J g;rw[g]at f E w
  cases a9 with
  |true=>
   rw[Zhl]at E;have G:ridesN (L.take (i+1+1))=ridesN (L.take (i+1)):=by grind
   rcases v with ⟨r,b,c,st,ex,y,z,P,Q,A⟩|⟨p,u,a,ex,_⟩
   ·rw[ex]at f;obtain⟨R,k,c3⟩:=(Zb8 h).1 f;have Y:d=0:=((h.isLink k).2.2.2.2.2.2 rfl).2;subst Y
    have a7:l.2.1=(Zg n r c).2.1:=by
     obtain⟨C,B,e1,e2,_,_,_,e3,_⟩:=o.val.kind z
     grind
    refine⟨_,.step s (YI.2 (.inl ⟨z,Zaa.2 ⟨((r:Int),(c:Int),(j:Int),((0:Nat):Int),true,()),k,⟨rfl,P.symm,Q.symm,by grind,by grind⟩,e,k2,by grind,by grind,rfl⟩⟩)),?_,.inl ⟨j,0,e,true,g,Z,rfl,?_,rfl,?_⟩⟩
    ·rw[G];assumption
    ·rfl
    ·simp only[Vd];show l.2.2.2.2.2.1++[ZP n j 0 e true]=_
     grind
   ·rw[ex]at f
    exact absurd f (ZjT _ _ _ _ _ _ _ _)
  |false=>
   rw[Zhl]at E;have G:ridesN (L.take (i+1+1))=ridesN (L.take (i+1))+1:=by grind
   have H:(Zg n j d).2.2.2.1=true:=by grind
   have t:Kv (lg L (i+1))=false:=by rw[g];rfl
   have go:(l.1.1=1->Jg n l=true)->GC n (ZS l) (JW n (Zn q) l) j d->WQ l.2.2.2.2.2.1 (Zg n j d).2.2.1=L.take (i+1)->ZbD n q L (i+1):=fun g1 g2 g3=>by
    refine⟨_,.step s (YI.2 (.inr (.inl ⟨g1,GH.2 ⟨j,d,e,k1,k2,k3,g2,?_,K,rfl⟩⟩))),?_,.inl ⟨j,d,e,false,g,Z,rfl,rfl,rfl,?_⟩⟩
    ·rw[s3,a6];show _≠q.2.2.2.2.1;omega
    ·show (ZS l).2.2.1+1=_;omega
    ·show WQ (ZS l).2.2.2.2.2.1 _++[ZP n j d e false]=_
     grind
   rcases v with ⟨r,b,c,st,ex,y,z,P,Q,A⟩|⟨p,u,a,ex,z,P,Q,A⟩
   ·have X:=M ex t;rw[ex]at f;obtain⟨R,k⟩:=(ZdU h y.1 y.2.2.1).1 f;obtain⟨C,B,e1,e2,_,_,e3,e4,_⟩:=o.val.kind z;have U:C=r:=by omega
    have S:B=c:=by omega
    subst U S
    have I:JW n (Zn q) l=(Zg n C B).2.1+(Wv n (Zg n C B).1).2.2.2.1:=by
     unfold JW JT
     grind
    refine go (fun _=>?_) ⟨k4,H,?_,by omega,?_⟩ ?_
    ·unfold Jg
     grind
    ·grind
    ·rw[I,s2,e4];rcases k with k|⟨k,c3⟩
     ·omega
     ·refine .inr ⟨c3,?_⟩;unfold Hw;rw[s1];exact Vsa.2 ⟨_,k,by grind⟩
    ·rw[A];refine Zfu (fun x y=>?_) _;rw[Zbo m]at y;rcases Voa.1 y with ⟨_,N⟩|⟨_,N⟩
     ·have:x=lg L i:=(Vib.1 N).symm;rw[this,ex];rfl
     grind
   ·rw[ex]at f;obtain⟨R,k⟩:=Zca.1 f
    have I:JW n (Zn q) l=l.2.1:=by unfold JW;omega
    refine go (by omega) ⟨k4,H,by grind,by omega,by omega⟩ ?_;rcases A with ⟨A,x5⟩|⟨rfl,T,x5,_⟩
    ·rw[x5];refine ZbL ?_ _
     grind
    ·rw[x5,RK rfl,Zbo m,ex];have N:=(Wr.1 (O 0 m)).2.1;have W:Ji n (Zn q) L=0:=N;have V:=(XF.1 W).2.2.1;rw[ex,g]at V;have a4:1<L.length:=J;rw[Zd a4]at V;have D:(!decide ((Zg n j d).2.2.1=a+p.2.2.1))=false:=V;simp only[Vk,KQ]at D;rw[D];simp only[List.take_zero,Voc];unfold Kf
     grind
 |false=>
  obtain⟨p,u,a,g,a0,a1⟩:=(R5 h).1 ⟨b1,hy⟩;rw[g]at f E w;rw[Zl2]at E;have t:Kv (lg L (i+1))=false:=by rw[g];rfl
  have b3:=h.path p u;rcases v with ⟨r,b,c,st,ex,y,z,P,Q,A⟩|⟨p',b0,a',ex,_⟩
  ·have X:=M ex t;rw[ex]at f;obtain⟨R,k⟩:=Zb9.1 f;obtain⟨C,B,e1,e2,_,_,e3,e4,_⟩:=o.val.kind z;have U:C=r:=by omega
   have S:B=c:=by omega
   subst U S;have a8:=Znd L (i+1+1);rw[w,ZcT, <-A,o.wlk]at a8
   have b4:KE [Kf p.1 p.2.1 a (a+p.2.2.1)]=p.2.2.1:=by
    unfold KE Yn Kf
    grind
   refine⟨_,.step s (YI.2 (.inr (.inr ⟨fun _=>?_,by omega,Dr.2 ⟨p,u,⟨?_,?_,?_⟩,rfl⟩⟩))),?_,.inr ⟨p,u,a,g,rfl,rfl,?_,.inl ⟨by omega,?_⟩⟩⟩
   ·unfold Jg
    grind
   ·grind
   ·show (ZS l).2.2.2.1+p.2.2.1<=q.2.2.2.2.2.1;omega
   ·omega
   ·show (ZS l).2.2.1=_;omega
   ·show (ZS l).2.1+p.2.2.1<=_;omega
   ·show (ZS l).2.2.2.2.2.1++[Kf (ZS l).1.2.1 p.2.1 (ZS l).2.1 ((ZS l).2.1+p.2.2.1)]=_
    grind
  ·rw[ex]at f;exact absurd f (Zgi _ _ _ _ _ _ _ _ _)
theorem ZjK(m:Whole n)(w:JE n)(v:QI (Zn q))(H:q.2.2.2.1=false){hF:FO n.2.2.2.2.2.1}(o:LI n.2.2.2.2.2.1 hF n (Zn q) (KG n (Zn q))){L:List Zv}(hL:0<L.length)(s:∀i,i<L.length->WI n (Zn q) L i=0)(y:(ridesN L:Int)<=q.2.2.2.2.1)(z:KE L<=q.2.2.2.2.2.1):
 ∃l,Rc n (Zn q) (KG n (Zn q)) l/\l.2.2.2.2.2.1=L/\(l.1.1=1->Jg n l=true)/\l.1.2.1=(lg L (L.length - 1)).2.2.2.2.2.1:=by
 have h:=m.ok
 have key:∀i,i<L.length->ZbD n q L i:=by
  intro i
  induction i with
  |zero=>exact fun _=>ZsC m H o hL s y z
  |succ i S=>exact fun I=>ZsB m w v o s y z I (by grind)
 obtain⟨l,f,_,k⟩:=key (L.length - 1) (by omega);have t:=f.li m w v o;have d:=(Wr.1 (s (L.length - 1) (by omega))).2.2;rw[show L.length - 1+1=L.length by omega,Vja]at k;rcases k with ⟨r,b,c,st,e,Q,A,u,B,g⟩|⟨p,R,a,e,A,u,B,g⟩
 ·refine⟨l,f,g,fun _=>?_,?_⟩
  ·unfold Jg;rw[u,B,Vd,Vd];refine DU.1 (?_ :YC n (Zn q) (ZP n r b c st)=0);rw[<-e];refine d ?_;unfold Xf;rw[e,Zd (by omega)];rfl
  ·obtain⟨J,C,M,N,_,_,D,O,_⟩:=t.val.kind A;have G:J=r:=by omega
   have E:C=c:=by omega
   subst G E;rw[e,D];rfl
 ·refine⟨l,f,?_,by omega,by rw[e,u];rfl⟩;rcases g with ⟨_,g⟩|⟨P,T,g,K⟩
  ·omega
  ·have j:L.length=1:=by omega
   obtain⟨x,rfl⟩:=Vxa.1 j;rw[g,K j];have:lg [x] 0=x:=rfl
   grind
end Q
namespace Q
open Tr Go
variable {n:Zh}{q:Zt}{L:List Zv}
open Classical in
theorem ZdC(a:Xh n)(c:Whole n)(q e:Zt)(f:e.2.2.1=q.2.2.1)(d:L.length<=90):F78 (Zz n q) e (L,())=F78 n q (L,()):=by
 have b:Whole (Zz n q):=Zfy q a.paths c
 have g:F79 n (L,())=some (WA n L false []):=by
  rcases Zhm n (L,()) a d with ⟨_,h⟩|⟨_,_,h⟩
  ·rw[ZcS a]at h;have:=Option.some.inj h;rw[Zd c]at this;cases this
  ·exact h
 have i:F79 (Zz n q) (L,())=some (WA n L false []):=by
  rcases Zhm (Zz n q) (L,()) (Zb5 a) d with ⟨_,h⟩|⟨_,_,h⟩
  ·rw[ZcS (Zb5 a)]at h;have:=Option.some.inj h;rw[Zd b]at this;cases this
  ·rw[Zew]at h;exact h
 unfold F78;rw[g,i,f];rfl
theorem ZuF(d:Xh n)(c:Whole n){l:Zu}(e:l.2.2.2.2.2.1.length<=90){x:KA}(a:x∈JB (Zz n q) (Zn q) l):x.1=(l.2.2.2.2.2.1,())/\Xq (Zz n q) (Zn q) l/\F78 n q x.1=some (x.2.1,x.2.2.1,0):=by
 unfold JB at a;split at a
 ·next b=>
  unfold Za7 at a;rw[ZdC d c q (Zn q) rfl e]at a
  grind
 grind
theorem ZuH(d:Xh n)(b:Whole n){l:Zu}(e:l.2.2.2.2.2.1.length<=90)(a:Xq (Zz n q) (Zn q) l){c:YR}{t:List (Int×Int×Int×Int×Unit)}(f:F78 n q (l.2.2.2.2.2.1,())=some (c,t,0)):((l.2.2.2.2.2.1,()),c,t,())∈JB (Zz n q) (Zn q) l:=by unfold JB;rw[Zp a,Zen (by rw[ZdC d b q (Zn q) rfl e];omega),Zp rfl];simp
structure Kz (n:Zh) (q:Zt):Prop where
 fr:n.2.2.2.2.2.1=Y8
 fit:Xh n
 few:Few n
 chk:D3 n q=0
 tin:JE n
 max:q.2.2.2.2.1<=3
theorem Kz.whole(h:Kz n q):Whole n:=(ZbW.1 h.chk).1
theorem Kz.qb(h:Kz n q):qB n.1.length q=true:=(ZbW.1 h.chk).2
theorem Kz.qnum(h:Kz n q):(0<=q.1/\q.1<(n.1.length:Int))/\(0<=q.2.1/\q.2.1<(n.1.length:Int))/\(0<=q.2.2.1/\q.2.2.1<=3155932800)/\0<=q.2.2.2.2.1/\(0<=q.2.2.2.2.2.1/\q.2.2.2.2.2.1<=86400)/\(q.2.2.2.1=true->q.2.2.2.2.2.2.2.2.2.1=false):=by
 have a:=h.qb;unfold qB at a;simp only[Vf,KQ]at a;obtain⟨b,c,f,g,i,_,j⟩:=a;have d:=Re.1 b;have e:=Re.1 c
 grind
theorem Kz.qi(h:Kz n q):QI (Zn q):=⟨by show q.2.2.2.2.1<=7;have:=h.max;omega,h.qnum.2.2.2.2.1.2⟩
theorem Kz.wholeM(h:Kz n q):Whole (Zz n q):=Zfy q h.fit.paths h.whole
theorem Kz.tinM(h:Kz n q):JE (Zz n q):=ZmL h.tin
theorem Kz.li0(h:Kz n q):LI (Zz n q).2.2.2.2.2.1 (Dj h.wholeM.sound.fare) (Zz n q) (Zn q) (KG (Zz n q) (Zn q)):=ZkA (n:=Zz n q) (q:=Zn q) (ZlK h.qb) h.max
theorem Kz.li(h:Kz n q){l:Zu}(a:Rc (Zz n q) (Zn q) (KG (Zz n q) (Zn q)) l):LI (Zz n q).2.2.2.2.2.1 (Dj h.wholeM.sound.fare) (Zz n q) (Zn q) l:=a.li h.wholeM h.tinM h.qi h.li0
theorem ZjX(h:Kz n q)(g:q.2.2.2.1=false):∃R:List KA,F146 n q=some (R,0)/\R.length<=542198816521/\(∀x∈R,F78 n q x.1=some (x.2.1,x.2.2.1,0)/\ ∃l,Rc (Zz n q) (Zn q) (KG (Zz n q) (Zn q)) l/\x.1=(l.2.2.2.2.2.1,())/\Xq (Zz n q) (Zn q) l)/\
 (∀l,Rc (Zz n q) (Zn q) (KG (Zz n q) (Zn q)) l->Xq (Zz n q) (Zn q) l->∀c t,F78 n q (l.2.2.2.2.2.1,())=some (c,t,0)->∃x∈R,ZT (Z2 q x.2.1) (Z2 q c))/\(R.map fun x=>Z2 q x.2.1).Pairwise Yr:=by
 obtain⟨R,k,m,o,w,p⟩:=ZqV h.fr h.fit h.few h.chk h.tin h.max g
 have key:∀l,Rc (Zz n q) (Zn q) (KG (Zz n q) (Zn q)) l->Xq (Zz n q) (Zn q) l->∀c t,F78 n q (l.2.2.2.2.2.1,())=some (c,t,0)->∃x∈R,ZT (Z2 q x.2.1) (Z2 q c):=fun l e b c t i=>by
  have d:=(h.li e).val.len;have a:l.2.2.2.2.2.1.length<=90:=by omega
  have v:=ZuH h.fit h.whole a b i
  grind
 refine⟨R,k,m,fun x j=>?_,key,p⟩
 ·obtain⟨l,e,f⟩:=o x j;have d:=(h.li e).val.len;have a:l.2.2.2.2.2.1.length<=90:=by omega
  obtain⟨r,s,u⟩:=ZuF h.fit h.whole a f
  grind
end Q
