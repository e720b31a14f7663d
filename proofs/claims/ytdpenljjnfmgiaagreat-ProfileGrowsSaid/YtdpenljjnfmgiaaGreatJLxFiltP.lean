/- filter: usable runs, open stops, the allowed network; queries. Conditions: the network is valid, its lists are short. -/
import Derived.Test.YtdpenljjnfmgiaaGreatJLwJa28P
import Derived.Test.YtdpenljjnfmgiaaGreatETsF
import Derived.Test.YtdpenljjnfmgiaaGreatDep45
open BitVec renaming ofInt ->Vu,getLsbD_zero ->Vqb,getLsbD_and ->Vub,getLsbD_not ->Vvb
open Bool renaming and_eq_true ->Vl,not_true ->Vq,not_false ->Vqa,true_and ->Vqc
open Int renaming toNat_natCast ->Vk,le_refl ->Vga,toNat ->Vua,toNat_of_nonneg ->Vrb
open Go.IntKind renaming wrap ->Ve,u64 ->Vca,signed ->Voc,bits ->Vrc
open List renaming getElem?_eq_getElem ->Va,range ->Vb,getElem_mem ->Vc,mem_flatMap ->Vd,length ->Vg,take_succ_eq_append_getElem ->Vh,mem_append ->Vi,mem_singleton ->Vj,length_append ->Vm,replicate ->Vn,map_cons ->Vo,sum_cons ->Vp,mem_range ->Vr,length_filter_le ->Vs,getElem_of_mem ->Vv,length_map ->Vw,length_singleton ->Vx,append_nil ->Vz,getElem?_of_mem ->Vaa,mem_filter ->Vba,map_append ->Vda,pairwise_iff_getElem ->Vea,mem_cons ->Vfa,mem_of_getElem? ->Vja,length_cons ->Vka,flatMap_append ->Vla,sum_append ->Vna,length_set ->Voa,filter_append ->Vpa,set_append_right ->Vra,any_eq_true ->Vsa,take_length ->Vta,append_eq_singleton_iff ->Vva,pairwise_cons ->Vxa,drop_eq_getElem_cons ->Vya,getElem?_map ->Vab,getElem?_eq_some_iff ->Vbb,eq_of_mem_replicate ->Vcb,length_take ->Vdb,filter_cons ->Veb,all_eq_true ->Vfb,getElem_set ->Vgb,filter_cons_of_pos ->Vhb,range_succ ->Vib,append_inj_right' ->Vjb,take ->Vkb,drop ->Vlb,getElem_set_self ->Vmb,getElem?_set_ne ->Vnb,mem_iff_getElem ->Vob,mem_cons_of_mem ->Vpb,set ->Vsb,singleton_inj ->Vtb,map_singleton ->Vxb,sum_singleton ->Vyb,mem_map ->Vdc,append_assoc ->Vec,isEmpty_cons ->Vfc,flatMap_cons ->Vhc,ext_getElem ->Vic,getElem_map ->Vjc,nodup_range ->Vkc,length_nil ->Vmc,head?_drop ->Vnc,drop_drop ->Vpc,isEmpty ->Vsc
open Nat renaming le_refl ->Vt,le_trans ->Vy,zero_le ->Vha,mul_le_mul_right ->Via,mul_le_mul_left ->Vma,add_le_add ->Vwa,le_of_lt ->Vzb,zero_add ->Vac,succ_mul ->Vbc,add_zero ->Vcc,lt_trichotomy ->Vgc
open Option renaming bind ->Vf,isNone_iff_eq_none ->Vza,isNone_some ->Vwb,map_some ->Vlc
open Prod.mk renaming inj ->Vtc
namespace Q
open Tr Go
theorem Ztg{α β τ:Type}{step:List β×Int->Option ((List β×Int) ⊕ τ)}(l:List α)(f:α->List β)(R:List β->τ)
 (a:∀i (b:i<l.length),step ((l.take i).flatMap f,(i:Int))=some (.inl ((l.take i).flatMap f++f l[i],((i+1:Nat):Int))))
 (c:step (l.flatMap f,(l.length:Int))=some (.inr (R (l.flatMap f)))):run step ([],(0:Int))=some (R (l.flatMap f)):=by
 refine Exists.elim (Wa (step:=step) l.length (fun r=>r=R (l.flatMap f)) (fun i st=>st=((l.take i).flatMap f,(i:Int))) ?_ ?_ ([],(0:Int)) (by simp)) ?_
 ·rintro i _ b rfl;left;refine⟨_,a i b,?_⟩;rw[Vh b,Vla];simp
 all_goals grind
theorem Zqw{α β:Type}(f:α->β)(l:List α):l.flatMap (fun x=>[f x])=l.map f:=by
 induction l with
 |nil=>rfl
 |cons x l a=>grind
theorem Zqu{α β:Type}{f:α->List β}(a:∀x,(f x).length<=1)(l:List α):(l.flatMap f).length<=l.length:=by
 induction l with
 |nil=>simp
 |cons x l b=>grind
abbrev Zw:=Int×Int×Int×Bool×Int×Int×Bool×Bool×Int×Bool×Unit
def Zcu(n:Zg)(r:Y7):Hw:=(n.2.1[r.2.2.2.2.1.toNat]?).getD r0
def ZhJ(n:Zg)(q:Zw)(r:Y7):Bool:=Tr.useB q r (Zcu n r)
def YD(n:Zg)(s:Int):GX:=(n.1[s.toNat]?).getD s0
def Zeh(n:Zg)(q:Zw)(s:Int):Bool:=(YD n s).2.2.1|| !q.2.2.2.2.2.2.1
def XN(n:Zg)(q:Zw)(c:Wv):Wv:=if Zeh n q c.1 then c else(c.1,c.2.1,c.2.2.1,false,false,())
theorem Zs3{n:Zg}(a:JR n){r:Y7}(c:r∈n.2.2.1):idx n.2.1 r.2.2.2.2.1=some (Zcu n r)/\Zcu n r∈n.2.1:=by
 have h:=a.route _ c;have b:Kz r.2.2.2.2.1 n.2.1.length=true:=by simp [Kz];omega
 refine⟨Xu b r0,?_⟩;unfold Zcu
 grind
theorem Zuh{n:Zg}(a:JR n)(q:Zw){r:Y7}(f:r∈n.2.2.1):F36 n q r=some (ZhJ n q r):=by obtain⟨b,c⟩:=Zs3 a f;have e:=(a.mode _ c).1;unfold F36 Tr.useF;rw[b];simp only[Za,show decide ((0:Int)<=(Zcu n r).2.1)=true from Zi e,Bool.or_true,Zc];rfl
theorem ZtN{n:Zg}(a:JR n){r:Y7}(e:r∈n.2.2.1){c:Wv}(b:c∈r.2.2.2.2.2.2.2.1):idx n.1 c.1=some (YD n c.1):=by have h:=a.call _ e _ b;exact Xu (show Kz c.1 n.1.length=true by simp [Kz];omega) s0
theorem Zsb{n:Zg}(q:Zw){s:Int}(h:idx n.1 s=some (YD n s)):F35 n q s=some (Zeh n q s):=by
 unfold F35;rw[h];simp only[Za];unfold Zeh
 grind
theorem Zpo{n:Zg}(g:JR n)(q:Zw){r:Y7}(h:r∈n.2.2.1):F34 n q r.2.2.2.2.2.2.2.1=some (r.2.2.2.2.2.2.2.1.map (XN n q)):=by
 have p:=(g.many _ h).2;unfold F34;rw[Ztg r.2.2.2.2.2.2.2.1 (fun c=>[XN n q c]) id ?_ ?_]
 ·simp only[Za,id,Zqw,Vw];generalize s:r.2.2.2.2.2.2.2.1.map (XN n q)=m;have a:m.length=r.2.2.2.2.2.2.2.1.length:=by grind
  rw[<-a]
  have l:ZA (m.length:Int) (m.length+1)=some m.length:=by unfold ZA;rw[Zr (by omega)];simp
  have o:sliceB m.length m.length none (some (m.length:Int))=some (0,m.length):=by unfold sliceB;simp
  grind
 ·intro i b;have k:=Vc b;simp only[ZV b,Zc,ZI b,Za];rw[Zsb q (ZtN g h k)];have j:=Zqu (f:=fun c=>[XN n q c]) (by simp) (r.2.2.2.2.2.2.2.1.take i);rw[Vdb]at j;simp only[Za]
  have e:(bif !Zeh n q (r.2.2.2.2.2.2.2.1[i]).1 then some (((r.2.2.2.2.2.2.2.1[i]).1,(r.2.2.2.2.2.2.2.1[i]).2.1,(r.2.2.2.2.2.2.2.1[i]).2.2.1,false,false,(r.2.2.2.2.2.2.2.1[i]).2.2.2.2.2):Wv) else some r.2.2.2.2.2.2.2.1[i])=some (XN n q r.2.2.2.2.2.2.2.1[i]):=by
   unfold XN
   grind
  erw[e];simp only[Za];rw[De (by grind),Ka b (by omega)];rfl
 simp
structure Few (n:Zg):Prop where
 stops:n.1.length<=4096
 routes:n.2.1.length<=4096
 runs:n.2.2.1.length<=4096
 links:n.2.2.2.1.length<=4096
 paths:n.2.2.2.2.1.length<=4096
 prods:n.2.2.2.2.2.1.1.length<=4096
 calls:∀r∈n.2.2.1,r.2.2.2.2.2.2.2.1.length<=4096
theorem RA{α:Type}(l:List α)(h:l.length<=4096):(Vf (Zy (decide (Vg ([]:List Unit)+Vg l<=ZC))) fun _=>
 Vf (ZA (↑(Vg ([]++l)):Int) (Vg ([]++l)+(1:Nat))) fun a=>
 Vf (sliceB (Vg ([]++l)) a none (some (↑(Vg ([]++l)):Int))) fun b=>some (Vkb b.2 ([]++l)))=some l:=by
  have e0:Zy (decide (Vg ([]:List Unit)+Vg l<=ZC))=some ():=by
   unfold Zy ZC
   grind
  have c:ZA (l.length:Int) (l.length+1)=some l.length:=by unfold ZA;grind
  have e:sliceB l.length l.length none (some (l.length:Int))=some (0,l.length):=by unfold sliceB;simp
  grind
theorem Zpi{n:Zg}(h:Few n):F67 n=some n:=by
 unfold F67;have l:F78 n.1=some n.1:=RA n.1 h.stops;have f:F76 n.2.1=some n.2.1:=RA n.2.1 h.routes;have g:F77 n.2.2.1=some n.2.2.1:=RA n.2.2.1 h.runs;have b:F74 n.2.2.2.1=some n.2.2.2.1:=RA n.2.2.2.1 h.links;have c:F73 n.2.2.2.2.1=some n.2.2.2.2.1:=RA n.2.2.2.2.1 h.paths;have k:F75 n.2.2.2.2.2.1.1=some n.2.2.2.2.2.1.1:=RA n.2.2.2.2.2.1.1 h.prods;rw[l,f,g,b,c];simp only[Za];refine WE (fun r:Zg=>r=(n.1,n.2.1,n.2.2.1,n.2.2.2.1,n.2.2.2.2.1,n.2.2.2.2.2.1,())) (Wa n.2.2.1.length _ (fun i (st:Zg×Int)=>st=((n.1,n.2.1,n.2.2.1,n.2.2.2.1,n.2.2.2.2.1,n.2.2.2.2.2.1,()),(i:Int))) ?_ ?_ _ rfl) ?_
 ·rintro i _ a rfl;left;have j:F72 (n.2.2.1[i]).2.2.2.2.2.2.2.1=some (n.2.2.1[i]).2.2.2.2.2.2.2.1:=RA _ (h.calls _ (Vc a));simp only[ZV a,Zc,KT a,Za,Va a,j];refine⟨_,rfl,?_⟩;rw[Ka a (by have:=h.runs;omega)];have e:Vsb n.2.2.1 i ((n.2.2.1[i]).1,(n.2.2.1[i]).2.1,(n.2.2.1[i]).2.2.1,(n.2.2.1[i]).2.2.2.1,(n.2.2.1[i]).2.2.2.2.1,(n.2.2.1[i]).2.2.2.2.2.1,(n.2.2.1[i]).2.2.2.2.2.2.1,(n.2.2.1[i]).2.2.2.2.2.2.2.1,(n.2.2.1[i]).2.2.2.2.2.2.2.2)=n.2.2.1:=List.set_getElem_self a
  grind
 all_goals grind
def X0(n:Zg)(q:Zw)(r:Y7):Y7:=(r.1,r.2.1,r.2.2.1,r.2.2.2.1,r.2.2.2.2.1,r.2.2.2.2.2.1, !ZhJ n q r,r.2.2.2.2.2.2.2.1.map (XN n q),())
def Gb(n:Zg)(q:Zw):List Kg:=if q.2.2.2.2.2.2.1 then n.2.2.2.2.1.filter (fun p=>p.2.2.2.1) else n.2.2.2.2.1
def KS(n:Zg)(q:Zw):Zg:=(n.1,n.2.1,n.2.2.1.map (X0 n q),n.2.2.2.1,Gb n q,n.2.2.2.2.2.1,())
def Gg(n:Zg)(q:Zw)(i:Nat):List Y7:=(n.2.2.1.take i).map (X0 n q)++n.2.2.1.drop i
theorem Ztm(n:Zg)(q:Zw){i:Nat}(a:i<=n.2.2.1.length):(Gg n q i).length=n.2.2.1.length:=by simp [Gg];omega
theorem Ztl(n:Zg)(q:Zw){i:Nat}(a:i<n.2.2.1.length):(Gg n q i)[i]? =some n.2.2.1[i]:=by
 unfold Gg
 grind
theorem Ztn(n:Zg)(q:Zw){i:Nat}(b:i<n.2.2.1.length):(Gg n q i).set i (X0 n q n.2.2.1[i])=Gg n q (i+1):=by
 unfold Gg;have a:((n.2.2.1.take i).map (X0 n q)).length=i:=by grind
 rw[Vra _ _ (by omega),a,Nat.sub_self,Vya b,List.set_cons_zero,Vh b,Vda];simp
theorem Znw{n:Zg}(e:JR n)(hF:Few n)(q:Zw)(h:F31 n q=some 0):F33 n q=some (KS n q,0):=by
 unfold F33;rw[h];simp only[Za,decide_true,Vq,Ze];rw[Zpi hF];simp only[Za];refine WE (fun r:Zg=>r=(n.1,n.2.1,n.2.2.1.map (X0 n q),n.2.2.2.1,n.2.2.2.2.1,n.2.2.2.2.2.1,())) (Wa n.2.2.1.length _ (fun i (st:Zg×Int)=>st=((n.1,n.2.1,Gg n q i,n.2.2.2.1,n.2.2.2.2.1,n.2.2.2.2.2.1,()),(i:Int))) ?_ ?_ _ (by rfl)) ?_
 ·rintro i _ a rfl;left;have f:=Vc a;have k:=Ztm n q (Vzb a);have b:i<(Gg n q i).length:=by omega
  simp only[ZV a,Zc,ZI a,Za,Zuh e q f,KT b,Ztl n q a,Zpo e q f];refine⟨_,?_,rfl⟩;rw[Ka a (by have:=hF.runs;omega)];have c:i<((Gg n q i).set i ((n.2.2.1[i]).1,(n.2.2.1[i]).2.1,(n.2.2.1[i]).2.2.1,(n.2.2.1[i]).2.2.2.1,(n.2.2.1[i]).2.2.2.2.1,(n.2.2.1[i]).2.2.2.2.2.1, !ZhJ n q n.2.2.1[i],(n.2.2.1[i]).2.2.2.2.2.2.2)).length:=by grind
  erw[KT c];simp only[Za];erw[List.getElem?_set_self b];simp only[Za];erw[List.set_set];congr 2;have:=Ztn n q a;rw[<-this];rfl
 ·rintro _ rfl;refine⟨_,by simp only[J1,Ze];rfl,?_⟩;simp [Gg]
 ·rintro _ rfl;unfold KS Gb
  cases j:q.2.2.2.2.2.2.1 with
  |false=>rfl
  |true=>
   simp only[Zc,if_true];refine WE (fun r:Zg=>r=(n.1,n.2.1,n.2.2.1.map (X0 n q),n.2.2.2.1,n.2.2.2.2.1.filter (fun p=>p.2.2.2.1),n.2.2.2.2.2.1,())) (Wa n.2.2.2.2.1.length _ (fun i (st:Zg×Int)=>st=((n.1,n.2.1,n.2.2.1.map (X0 n q),n.2.2.2.1,(n.2.2.2.2.1.take i).filter (fun p=>p.2.2.2.1),n.2.2.2.2.2.1,()),(i:Int))) ?_ ?_ _ (by simp)) ?_
   ·rintro i _ a rfl;left;have g:=Vs (fun p:Kg=>p.2.2.2.1) (n.2.2.2.2.1.take i);rw[Vdb]at g;have l:=hF.paths;simp only[ZV a,Zc,ZI a,Za];rw[Ka a (by omega),Vh a,Vpa]
    cases m:(n.2.2.2.2.1[i]).2.2.2.1 with
    |false=>
     grind
    |true=>
     simp only[Zc];rw[De (by grind)]
     grind
   all_goals simp
def qB(k:Nat)(q:Zw):Bool:=Kz q.1 k&& (Kz q.2.1 k&& (decide (0<=q.2.2.1/\q.2.2.1<=3155932800) && (decide (0<=q.2.2.2.2.1/\q.2.2.2.2.1<=8) && (decide (0<=q.2.2.2.2.2.1/\q.2.2.2.2.2.1<=86400) && (decide (0<=q.2.2.2.2.2.2.2.2.1/\q.2.2.2.2.2.2.2.2.1<=255) && !(q.2.2.2.2.2.2.2.2.2.1&&q.2.2.2.1))))))
theorem Zuw(x a b:Int):F32 x a b=some (decide (a<=x/\x<=b)):=YT x a b
theorem Zb3(x a b:Int):F136 x a b=some (decide (a<=x/\x<=b)):=YT x a b
theorem ZdW(x:Int){m:Nat}(a:m<=9223372036854775807):F136 x 0 (Ve .i64 ((m:Int) - 1))=some (Kz x m):=ZdX x a
theorem Zmy(k:Nat)(a:k<=9223372036854775807)(q:Zw):F135 (k:Int) q=some (qB k q):=by
 unfold F135 qB;simp only[Zb3];rw[show decide ((0:Int)<=q.1/\q.1<=Ve .i64 ((k:Int) - 1))=Kz q.1 k from Option.some.inj ((Zb3 _ _ _).symm.trans (ZdW q.1 a)),show decide ((0:Int)<=q.2.1/\q.2.1<=Ve .i64 ((k:Int) - 1))=Kz q.2.1 k from Option.some.inj ((Zb3 _ _ _).symm.trans (ZdW q.2.1 a))]
 grind
open Classical in
noncomputable def Rr(n:Zg)(q:Zw):Int:=if Whole n then(if qB n.1.length q=true then 0 else 22) else 21
theorem Zdi{n:Zg}{q:Zw} :Rr n q=0↔Whole n/\qB n.1.length q=true:=by
 unfold Rr
 grind
open Classical in
theorem ZhK{n:Zg}(h:Hu n):F125 n=some (decide (Whole n)):=by obtain⟨r,_,a,b⟩:=ZfH n h;unfold F125;rw[a];simp only[Za];congr 1;exact decide_eq_decide.2 b
open Classical in
theorem ZoR{n:Zg}(h:Hu n)(q:Zw):F134 n q=some (Rr n q):=by
 unfold F134 Rr;rw[ZhK h];simp only[Za];by_cases a:Whole n
 ·rw[Zi a,Zr a];have b:=a.sound.stops;simp only[Vq,Ze];rw[Zmy n.1.length (by omega)];simp only[Za]
  cases qB n.1.length q<;>rfl
 ·rw[Zv a,Zf a];rfl
theorem ZiX{n:Zg}(h:Hu n)(q:Zw):F31 n q=some (Rr n q):=by
 obtain⟨r,c,_,e⟩:=ZfH n h;unfold F31 Rr;rw[c];simp only[Za];by_cases a:Whole n
 ·rw[Zi (e.2 a),Zr a];have b:n.1.length<=9223372036854775807:=by have:=a.sound.stops;omega
  simp only[Vq,Ze,Zuw];rw[show decide ((0:Int)<=q.1/\q.1<=Ve .i64 ((n.1.length:Int) - 1))=Kz q.1 n.1.length from Option.some.inj ((Zb3 _ _ _).symm.trans (ZdW q.1 b)),show decide ((0:Int)<=q.2.1/\q.2.1<=Ve .i64 ((n.1.length:Int) - 1))=Kz q.2.1 n.1.length from Option.some.inj ((Zb3 _ _ _).symm.trans (ZdW q.2.1 b))];unfold qB;simp only[Za]
  grind
 grind
theorem Zpk{c l:List Kg}(h:Xs c l=true):c=l:=by
 unfold Xs at h;rw[Vl,WC,Vza]at h;obtain⟨f,a⟩:=h;have a:=WK.1 a;refine Vic f fun i e b=>?_;have:=a i e;unfold Rw at this;rw[Kr e,Kr b]at this
 have g:sameF c[i] l[i]=true:=by
  grind
 unfold sameF at g
 grind
theorem Zpl(l:List Kg):Xs l l=true:=by unfold Xs;rw[Vl,WC,Vza];refine⟨rfl,WK.2 fun i a=>?_⟩;unfold Rw sameF;simp
theorem Zg3{k:Nat}{l:List Kg} :(∀i,i<l.length->K1 k l i=0)↔(∀p∈l,YA k p=false/\YB p=false)/\l.Pairwise fun a b=>JB a≠JB b:=by
 constructor
 ·intro h;refine⟨fun p r=>?_,Vea.2 fun i j c g f e=>?_⟩
  ·obtain⟨i,c,rfl⟩:=Vv r;have:=RY (h i c)
   grind
  ·have:=(RY (h j g)).2.2;refine this ⟨i,f,?_⟩
   grind
 ·rintro ⟨m,o⟩ i c;obtain⟨a,b⟩:=m _ (Vc c);unfold K1;rw[Kr c,Zf (by grind),Zf (by grind),Zf];rintro ⟨j,g,e⟩;rw[Kr (by omega)]at e;exact Vea.1 o j i (by omega) c g e
theorem ZjI{α β:Type}(p:β->Bool)(f:α->List β)(l:List α):(l.flatMap f).filter p=l.flatMap fun x=>(f x).filter p:=by
 induction l with
 |nil=>rfl
 |cons x l a=>grind
theorem Zrc(a b:Nat)(d f:Int):(Jq a b d f).filter (fun p=>p.2.2.2.1)=Jq a b f f:=by
 unfold Jq
 grind
theorem Zns(it:Nat->Nat->List Ju)(n m:Nat):(Wx it n m).filter (fun p=>p.2.2.2.1)=Wx (fun a b=>(it a b).filter (fun p=>p.2.2.2.1)) n m:=by
 unfold Wx Xx;rw[ZjI];congr 1;funext a;rw[ZjI]
 grind
theorem ZqP{k:Nat}(j:k<=64){l:List Kg}(t:l.length<=4096)(y:∀i,i<l.length->K1 k l i=0)(H:∀c,F121 l (k:Int)=some c->Xs c l=true):
 (∀i,i<(l.filter fun p=>p.2.2.2.1).length->K1 k (l.filter fun p=>p.2.2.2.1) i=0)/\ ∀c,F121 (l.filter fun p=>p.2.2.2.1) (k:Int)=some c->Xs c (l.filter fun p=>p.2.2.2.1)=true:=by
 obtain⟨I,J⟩:=Zg3.1 y;have g:∀i,i<(l.filter fun p=>p.2.2.2.1).length->K1 k (l.filter fun p=>p.2.2.2.1) i=0:=Zg3.2 (by grind);refine⟨g,fun c h=>?_⟩;have hF:=Zgs y;have e:=Zgs g;have f:(l.filter fun p=>p.2.2.2.1).length<=4096:=by grind
 obtain⟨c0,B,C,_⟩:=ZfK j hF t;obtain⟨r,D,E,_⟩:=ZfK j e f;have z:=ZfL j hF t (fun a b=>(Zdy hF a b).imp id fun h=>h.2);have A:=ZfL j e f (fun a b=>(Zdy e a b).imp id fun h=>h.2);rw[B]at z;rw[D]at A;have e0:=Zpk (H c0 C);obtain rfl:r=c:=Option.some.inj (E.symm.trans h)
 have s:∀free,Kb (l.filter fun p=>p.2.2.2.1) free=Kb l true:=by
  intro free;funext u v w;refine propext ⟨fun⟨p,x,_,h⟩=>?_,fun⟨p,x,G,h⟩=>?_⟩
  ·obtain⟨m,o⟩:=Vba.1 x;exact⟨p,m,fun _=>o,h⟩
  ·have:=G rfl;exact⟨p,by grind,fun _=>this,h⟩
 have key:r=l.filter fun p=>p.2.2.2.1:=by
  rw[Option.some.inj A]
  conv=>rhs;rw[<-e0,Option.some.inj z]
  rw[Zns,s,s];congr 1;funext a b;exact(Zrc a b _ _).symm
 rw[key];exact Zpl _
theorem ZfJ(n:Zg)(q:Zw)(l:List Wv)(i:Nat):(((l.map (XN n q))[i]?).getD c0).1=((l[i]?).getD c0).1/\(((l.map (XN n q))[i]?).getD c0).2.1=((l[i]?).getD c0).2.1/\(((l.map (XN n q))[i]?).getD c0).2.2.1=((l[i]?).getD c0).2.2.1:=by
 rw[Vab]
 cases l[i]? with
 |none=>simp
 |some c=>
  simp only[Vlc,Option.getD_some];unfold XN
  grind
theorem ZoC(n:Zg)(q:Zw)(l:List Wv)(k lo a:Int):Xb (l.map (XN n q)) k lo a=Xb l k lo a:=by
 have h:Xf (l.map (XN n q)) k lo a=Xf l k lo a:=by
  funext i;obtain⟨b,c,e⟩:=ZfJ n q l i;obtain⟨f,g,j⟩:=ZfJ n q l (i - 1);unfold Xf ZbH ZbI ZbJ
  grind
 unfold Xb
 grind
theorem ZsZ(n:Zg)(q:Zw)(a:Int):(rn (KS n q) a).2.2.2.2.2.2.2.1=(rn n a).2.2.2.2.2.2.2.1.map (XN n q):=by
 unfold rn;show (((n.2.2.1.map (X0 n q))[a.toNat]?).getD u0).2.2.2.2.2.2.2.1=_;rw[Vab]
 cases n.2.2.1[a.toNat]? <;>rfl
theorem ZrG(n:Zg)(q:Zw)(i:Nat):WF (KS n q) i=WF n i:=by have a:(KS n q).2.2.1.length=n.2.2.1.length:=Vw ..;unfold WF YO HB;simp only[ZsZ,Vw,a];have b:∀(l:List Wv) (x:Int),(cl (l.map (XN n q)) x).1=(cl l x).1:=fun l x=>(ZfJ n q l _).1;simp only[b];rfl
theorem Zta(n:Zg)(q:Zw){i:Nat}(g:i<n.2.2.1.length):Xy (KS n q) i=Xy n i:=by
 have c:∀j,j<n.2.2.1.length->((KS n q).2.2.1[j]?).getD u0=X0 n q ((n.2.2.1[j]?).getD u0):=by
  intro j a;show ((n.2.2.1.map (X0 n q))[j]?).getD u0=_
  grind
 unfold Xy;rw[c i g]
 have f:(∃j,j<i/\runK (((KS n q).2.2.1[j]?).getD u0)=runK (X0 n q ((n.2.2.1[i]?).getD u0)))↔∃j,j<i/\runK ((n.2.2.1[j]?).getD u0)=runK ((n.2.2.1[i]?).getD u0):=by
  constructor
  ·rintro ⟨j,a,e⟩;rw[c j (by omega)]at e;exact⟨j,a,e⟩
  ·rintro ⟨j,a,e⟩;refine⟨j,a,?_⟩;rw[c j (by omega)];exact e
 have b:Xb (X0 n q ((n.2.2.1[i]?).getD u0)).2.2.2.2.2.2.2.1 ((KS n q).1.length:Int) 0 3155932800=Xb ((n.2.2.1[i]?).getD u0).2.2.2.2.2.2.2.1 (n.1.length:Int) 0 3155932800:=ZoC n q _ _ _ _;simp only[b,f];rfl
theorem Znv{n:Zg}(q:Zw)(j:n.2.2.2.2.1.length<=4096)(h:Whole n):Whole (KS n q):=by
 have a:(KS n q).2.2.1.length=n.2.2.1.length:=Vw ..
 have e:(∀i,i<(Gb n q).length->K1 n.1.length (Gb n q) i=0)/\ ∀c,F121 (Gb n q) (n.1.length:Int)=some c->Xs c (Gb n q)=true:=by
  unfold Gb;split
  ·exact ZqP h.sound.stops j (WK.1 h.q) h.w
  ·exact⟨WK.1 h.q,h.w⟩
 refine⟨h.s,h.t,by rw[a];exact h.u,?_,h.v,?_,WK.2 e.1,e.2,h.z⟩
 ·rw[a];exact WK.2 fun i b=>by rw[Zta n q b];exact WK.1 h.f i b
 ·exact WK.2 fun i b=>by rw[ZrG];exact WK.1 h.g i b
end Q
namespace Q
open Tr Go
theorem ZtP{n:Zg}(h:JR n){a:Int}(e:0<=a)(f:a<(n.1.length:Int)):idx n.1 a=some (YD n a)/\0<=(YD n a).2.1/\(YD n a).2.1<16:=by
 have c:Kz a n.1.length=true:=by unfold Kz;grind
 refine⟨Xu c s0,?_⟩;have b:a.toNat<n.1.length:=by omega
 unfold YD;rw[Kr b];exact h.zone _ (Vc b)
end Q
namespace Q
open Tr Go
end Q
namespace Q
open Tr Go
end Q
namespace Q
open Tr Go
abbrev Jm:=Int×Int×Int×Int×Unit
abbrev ZcS:=List UInt8×Int×Int×Int×Int×Int×Unit
abbrev GR:=List ZcS×Int×Int×Int×Unit
abbrev Ww:=List (Option GR×(Jm×Int×List Int×Unit))
inductive Yr (S:List Jm->List Int->Prop) (F:GR):List Jm->Ww->Prop
 |start {r0:Jm}{sums:List Int} (h:S [] sums):Yr S F [] [(some F,r0,0,sums,())]
 |snoc {rs:List Jm}{s:Ww}{r:Jm}{sums:List Int} (hs:Yr S F rs s) (hl:rs.length+1<=8) (h:S (rs++[r]) sums):Yr S F (rs++[r]) ((some F,r,((rs.length+1:Nat):Int),sums,())::s)
theorem Yr.head{S:List Jm->List Int->Prop}{F:GR}{b:List Jm}{s:Ww}(h:Yr S F b s):∃r a t,s=(some F,r,(b.length:Int),a,())::t/\S b a/\b.length<=8/\(∀x∈b.getLast?,r=x):=by
 cases h with
 |start h=>exact⟨_,_,_,rfl,h,by simp,by simp⟩
 |snoc e c h=>
  rename_i b s r a;refine⟨r,a,s,?_,h,by simpa using c,by simp⟩;rw[show (b++[r]).length=b.length+1 by simp]
theorem Zkp{S:List Jm->List Int->Prop}{F:GR}{a:List Jm}{s:Ww}(h:Yr S F a s):F23 s=some a:=by
 obtain⟨r,f,t,e,_,A,_⟩:=h.head
 have key:∀{a:List Jm}{s:Ww},Yr S F a s->∀c:List Jm,∀z:Jm,run
  (fun b:Ww×List Jm×Int=>
  bif decide ((0:Int)<=b.2.2) then
  Vf (Tr.unc b.1) fun _=>
  Vf (Tr.unc b.1) fun y=>
  Vf (ZA b.2.2 (Vg b.2.1)) fun j=>
  Vf b.2.1[j]? fun _=>
  Vf (Tr.unc b.1) fun _=>
  Vf (Tr.unc b.1) fun g=>some (.inl (g.2.1,Vsb b.2.1 j y.2.2.1,Ve .i64 (b.2.2 - (1:Int))))
  else some (.inr b.2.1)) (s,Vn a.length z++c,(a.length:Int) - 1)=some (a++c):=by
  intro a s h
  induction h with
  |start h=>
   intro c z;refine YC ?_
   simp
  |snoc C B h x=>
   rename_i a s r f;intro c z;refine(Ho (s' :=(s,Vn a.length z++r::c,(a.length:Int) - 1)) ?_).trans ?_
   ·have p:decide ((0:Int)<=((a++[r]).length:Int) - 1)=true:=Zi (by simp);simp only[p,Zc,Tr.unc,Za];have k:((a++[r]).length:Int) - 1=(a.length:Int):=by simp
    rw[k]
    have l:ZA (a.length:Int) (Vn (a++[r]).length z++c).length=some a.length:=by have:=KT (i:=a.length) (n:=(Vn (a++[r]).length z++c).length) (by simp;omega);exact this
    rw[l]
    have m:(Vn (a++[r]).length z++c)[a.length]? =some z:=by rw[List.getElem?_append_left (by simp)];simp
    simp only[Za,m]
    have o:Vsb (Vn (a++[r]).length z++c) a.length r=Vn a.length z++r::c:=by simp only[Vm,Vka,Vmc,Vac];rw[List.replicate_succ',Vec,Vra _ _ (by simp)];simp
    rw[o,Z1 (by omega) (by omega)]
   ·rw[x (r::c) z];simp
 unfold F23;subst e;simp only[Tr.unc,Za];have v:decide ((0:Int)<=(a.length:Int)/\(a.length:Int)<=(a.length:Int)/\(a.length:Int)<=(ZC:Int))=true:=Zi ⟨by omega,by omega,by have:(ZC:Int)=549755813888:=rfl;omega⟩;rw[v,show Zy true=some () from rfl];simp only[Za];have w:Ve .i64 ((a.length:Int) - 1)=(a.length:Int) - 1:=Z1 (by omega) (by omega);rw[w,Vk];have:=key h [] ((0:Int),(0:Int),(0:Int),(0:Int),());rw[Vz,Vz]at this;refine WE (fun r=>r=a) ⟨a,this,rfl⟩ ?_;rintro r rfl;rfl
def J5(x:Int):Prop:=0<=x/\x<=1000000000000
theorem ZeU{x:Int}(a:0<=x)(b:x<=9223372036854775807):Ve .u64 x=x:=by simp [Ve,Voc,Vrc];omega
theorem ZqT{a d m:Int}(c:J5 a)(e:J5 d)(f:J5 m):F30 a d m=some (decide (d<=a+m)):=by
 unfold F30;unfold J5 at c e f;by_cases h:d<=a
 ·rw[Zi h,Zi (by omega:d<=a+m)];rfl
 ·rw[Zv h,ZeU e.1 (by omega),ZeU c.1 (by omega),ZeU (by omega) (by omega),ZeU f.1 (by omega)]
  have:decide (d - a<=m)=decide (d<=a+m):=by
   by_cases b:d<=a+m
   ·rw[Zi b,Zi (by omega)]
   ·rw[Zv b,Zv (by omega)]
  rw[Ze,this];rfl
theorem Zq3(x y:Int):imax x y=max x y:=by
 unfold imax
 split<;>omega
def R5(F:GR)(o:Option Int)(p:ZcS)(d:Int):Int:=match o with
 |none=>p.2.1
 |some a=>if d<=a+F.2.2.1 then max 0 (p.2.1 - F.2.1) else p.2.1
structure ZhV (F:GR):Prop where
 disc:J5 F.2.1
 wit:J5 F.2.2.1
 price:∀p∈F.1,J5 p.2.1
def ZhZ(r:Jm):Prop:=J5 r.1/\J5 r.2.1
theorem Zl8{S:List Jm->List Int->Prop}{F:GR}{v:List Jm}{s:Ww}(h:Yr S F v s)(hF:ZhV F){p:ZcS}(C:p∈F.1){b:List Jm}(w:∀r∈b,ZhZ r)(H:b.length<=8){i:Nat}{r:Jm}(B:b[i]? =some r):
 F25 s p b (i:Int)=some (R5 F ((b.take i).getLast?.map fun x=>x.2.1) p r.1):=by
 obtain⟨r0,y,t,rfl,_,_,_⟩:=h.head;obtain⟨j,e⟩:=Vbb.1 B;unfold F25;have k:=hF.price p C;have g:=hF.disc
 cases i with
 |zero=>
  simp [R5]
 |succ i=>
  have z:decide ((0:Int)<((i+1:Nat):Int))=true:=Zi (by omega);have A:Ve .i64 (((i+1:Nat):Int) - 1)=(i:Int):=by rw[Z1 (by omega) (by omega)];omega
  have E:idx b (i:Int)=some b[i]:=ZI (by omega);have G:idx b ((i+1:Nat):Int)=some r:=by rw[ZI j,e]
  have c:(b.take (i+1)).getLast?=some b[i]:=by
   have:i<b.length:=by omega
   rw[List.getLast?_eq_getElem?,Vdb,Nat.min_eq_left (by omega),List.getElem?_take,Zr (by omega),Nat.add_sub_cancel,Va this]
  rw[z,Zc,A,c];have l:=w b[i] (Vc _);have o:=w r (e▸Vc _);have D:=ZqT (a:=(b[i]).2.1) (d:=r.1) (m:=F.2.2.1) l.2 o.1 hF.wit;simp only[E,G,Za,Tr.unc,D,Vlc,R5];by_cases f:r.1<=(b[i]).2.1+F.2.2.1
  ·rw[Zi f,Zc,Zr f];unfold J5 at k g;rw[Z1 (by omega) (by omega)];exact congrArg some (Zq3 _ _)
  ·rw[Zv f,Ze,Zf f]
end Q
namespace Q
open Tr Go
structure FO (F:Z9):Prop where
 head:HZ F=true
 many:F.1.length<=16
 nums:∀p∈F.1,Hn p=true
theorem ZaL{F:Z9}(h:(X5 F).2=0):FO F:=by
 unfold X5 at h;by_cases e:HZ F=false
 ·grind
 rw[Zf e]at h;by_cases b:16<F.1.length
 ·grind
 rw[Zf b]at h;have g:=Zcp h;refine⟨by grind,by omega,fun p f=>?_⟩;obtain⟨i,c,rfl⟩:=Vv f;have a:=g i c;unfold HM at a;rw[Kr c]at a;obtain⟨_,_,j⟩:=Dc.1 a
 grind
theorem FO.heads{F:Z9}(h:FO F):(0<=F.2.1/\F.2.1<=1000000)/\(0<=F.2.2.1/\F.2.2.1<=86400)/\0<=F.2.2.2.1/\F.2.2.2.1<=1000000:=by
 have:=h.head;unfold HZ at this
 grind
theorem FO.prod{F:Z9}(h:FO F){p:XE}(a:p∈F.1):(0<=p.2.1/\p.2.1<=1000000)/\(1<=p.2.2.1/\p.2.2.1<=8)/\(1<=p.2.2.2.1/\p.2.2.2.1<=16)/\(0<=p.2.2.2.2.1/\p.2.2.2.2.1<=86400)/\1<=p.2.2.2.2.2.1/\p.2.2.2.2.2.1<=255:=by
 have:=h.nums p a;unfold Hn at this
 grind
theorem FO.farOk{F:Z9}(h:FO F):ZhV F where
 disc:=by have:=h.heads;exact⟨by omega,by omega⟩
 wit:=by have:=h.heads;exact⟨by omega,by omega⟩
 price:=fun p a=>by have:=(h.prod a).1;exact⟨by omega,by omega⟩
def XH(v:ZT):Prop:=Small v/\ZhZ v
end Q
namespace Q
open Tr Go
theorem ZiH{α β:Type}{o:Option α}{f:α->Option β}{Q:β->Prop}(P:α->Prop)(h:∃r,o=some r/\P r)(k:∀r,P r->∃z,f r=some z/\Q z):∃z,Vf o f=some z/\Q z:=by
 grind
theorem ZtF{α β:Type}{o:Option β}{g:α->β}{Q:α->Prop}(h:∃z,o=some z/\ ∃s,z=g s/\Q s):∃s,o=some (g s)/\Q s:=by
 grind
theorem Yr.mono{S T:List Jm->List Int->Prop}(c:∀a b,S a b->T a b){F:GR}{e:List Jm}{s:Ww}(h:Yr S F e s):Yr T F e s:=by
 induction h with
 |start h=>exact .start (c _ _ h)
 |snoc j f h g=>exact .snoc g f (c _ _ h)
theorem Zcz{n i:Nat}(h:i<=n):sliceB n n (some (i:Int)) none=some (i,n):=by
 unfold sliceB
 grind
theorem Zmf{α:Type}(l:List α)(i:Nat):Vkb (l.length - i) (Vlb i l)=l.drop i:=by rw[List.take_of_length_le];simp
def Zh1(F:Z9)(_:FO F)(b:List ZT)(a:List Int):Prop:=a.length=9/\ ∀i,i<=b.length->∃x,a[i]? =some x/\ -1<=x/\x<=1000000* (i:Int)
abbrev Xn(F:Z9)(h:FO F):List ZT->Ww->Prop:=Yr (Zh1 F h) F
theorem Zt5{F:Z9}(h:FO F){p:XE}(b:p∈F.1)(o:Option Int)(d:Int):0<=R5 F o p d/\R5 F o p d<=1000000:=by
 have a:=(h.prod b).1;have c:=h.heads.1;unfold R5;split
 ·exact a
 ·split<;>omega
theorem Zht{F:Z9}(h:FO F){c:List ZT}{s:Ww}(H:Xn F h c s){r:ZT}(G:∀v∈c++[r],XH v)(M:c.length+1<=8):
 ∃s',F22 s r=some (s',0)/\Xn F h (c++[r]) s' :=by
 obtain⟨r0,f,t,e,⟨Y,K⟩,_,_⟩:=H.head;generalize hL:c++[r]=l at G;have N:l.length=c.length+1:=by grind
 have X:F.1.length<=16:=h.many;subst e;have hw:Ve .i64 ((c.length:Int)+1)=((c.length+1:Nat):Int):=by rw[Z1 (by omega) (by omega)];omega
 have C:Yr (fun _ _=>True) F l ((some F,r,((c.length+1:Nat):Int),f,())::(some F,r0,(c.length:Int),f,())::t):=hL▸ .snoc (H.mono (by simp)) M trivial;have m:=Zkp C;unfold F22;have R:decide ((8:Int)<=(c.length:Int))=false:=by grind
 have S:ZA ((c.length+1:Nat):Int) (9:Nat)=some (c.length+1):=KT (by omega);have B:f[c.length+1]? =some f[c.length+1]:=by simp
 simp only[Tr.unc,Za,Vfc,Ze,R,hw,m,S,B];refine ZtF (g:=fun s' =>(s',(0:Int))) (ZiH (fun b=> -1<=b/\b<=1000000* (l.length:Int)) ?_ fun b O=>⟨_,rfl,_,rfl,?_⟩)
 rotate_left
 ·show Yr (Zh1 F h) F l _;rw[<-hL];refine .snoc H M ?_;rw[hL];refine⟨by grind,fun i o=>?_⟩;by_cases W:i<l.length
  ·obtain⟨x,P,Q⟩:=K i (by omega);exact⟨x,by rw[Vnb (by omega)];exact P,Q⟩
  ·have E:i=c.length+1:=by omega
   subst E;exact⟨b,by grind,O.1,by omega⟩
 refine Wa l.length _ (fun i (s:Int×Int)=>s.2=(i:Int)/\ -1<=s.1/\s.1<=1000000* (l.length:Int)) ?_ (by rintro ⟨b,_⟩ ⟨rfl,j⟩;exact⟨b,by simp only[J1,Ze],j⟩) _ ⟨rfl,by simp,by simp;omega⟩;rintro i ⟨b,_⟩ o ⟨rfl,j⟩;left;simp only at j;simp only[ZV o,Zc,Ka o (by omega)];refine ZbE (fun b=> -1<=b/\b<=1000000* (l.length:Int)) ?_ (by simp);refine Wa F.1.length _ (fun p (s:Int×Int)=>s.2=(p:Int)/\ -1<=s.1/\s.1<=1000000* (l.length:Int)) ?_ (by rintro ⟨b,_⟩ ⟨rfl,j⟩;exact⟨b,by simp only[J1,Ze],j⟩) _ ⟨rfl,j⟩;rintro p ⟨b,_⟩ w ⟨rfl,j⟩;left;simp only at j;have hx:idx F.1 (p:Int)=some F.1[p]:=ZI w;obtain⟨a,T,U,V⟩:=K i (by omega)
 have D:l.drop i=l[i]::l.drop (i+1):=Vya o;have A:F84 F.1[p] (l.drop i)=some (cvB F.1[p] (l.drop i)):=ZpK (fun v I=>(G v (List.mem_of_mem_drop I)).1) (by grind) (by grind) (h.prod (Vc w)).2.2.2.1.1;have k:=Zl8 C h.farOk (Vc w) (fun v I=>(G v I).2) (by omega) (Va o);have Z:=Zt5 h (Vc w) ((l.take i).getLast?.map fun x=>x.2.1) l[i].1;generalize R5 F ((l.take i).getLast?.map fun x=>x.2.1) F.1[p] l[i].1=tp at*;have J:Ve .i64 (a+tp)=a+tp:=Z1 (by omega) (by omega);simp only[ZV w,Zc,hx,Za,KT (show i<9 by omega),T,Zcz (Vzb o),Zmf,A,k,J,Ka w (by omega)];by_cases y:a<0
 ·rw[Zi y];exact⟨_,rfl,rfl,j⟩
 rw[Zv y];simp only[Ze,Za]
 cases cvB F.1[p] (l.drop i) with
 |false=>exact⟨_,rfl,rfl,j⟩
 |true=>
  simp only[Vq,Ze];by_cases z:b<0
  ·rw[Zi z];exact⟨_,rfl,rfl,by simp only;omega,by simp only;omega⟩
  rw[Zv z];simp only[Ze,Za]
  cases decide (a+tp<b) with
  |true=>exact⟨_,rfl,rfl,by simp only;omega,by simp only;omega⟩
  |false=>exact⟨_,rfl,rfl,j⟩
abbrev GV:=Int×Int×Int×Int×Int×Unit
theorem Zmh{F:Z9}(h:FO F){b:List ZT}{s:Ww}(x:Xn F h b s)(O:∀v∈b,XH v):
 ∃L,F26 s=some L/\L.length<=128:=by
 obtain⟨r0,e,t,rfl,E,D,_⟩:=x.head;have f:F24 ((some F,r0,(b.length:Int),e,())::t)=some b:=Zkp x;have K:=h.many;unfold F26;simp only[f,Za,Tr.unc];refine ZiH (fun L:List GV=>L.length<=16*b.length) ?_ (fun L hL=>⟨L,rfl,by omega⟩);refine Wa b.length _ (fun i (s:List GV×Int)=>s.2=(i:Int)/\s.1.length<=16*i) ?_ ?_ _ ⟨rfl,by simp⟩
 ·rintro i ⟨L,_⟩ g ⟨rfl,hL⟩;left;simp only at hL;obtain⟨a,G,H,I⟩:=E.2 i (by omega)
  have y:idx e (i:Int)=some a:=by obtain⟨C,l⟩:=Vbb.1 G;rw[ZI C,l]
  have A:idx b (i:Int)=some b[i]:=ZI g;simp only[ZV g,Zc,y,Za,Ka g (show b.length<=9223372036854775807 by omega)]
  cases decide (a<0) with
  |true=>exact⟨_,rfl,rfl,by simp only;omega⟩
  |false=>
  simp only[Ze,Zcz (Vzb g),Za,Zmf];have J:(b.drop i).length<=8:=by rw[List.length_drop];omega
  generalize b.drop i=d at*;refine ZbE (fun _:Int×Int=>True) ?_ ?_
  ·refine Wa d.length _ (fun i (t:Int×Int×Int)=>t.2.2=(i:Int)) ?_ ?_ _ rfl
   ·rintro j ⟨z,m,_⟩ w rfl;left;simp only[ZV w,Zc,ZI w,Za,Ka w (show d.length<=9223372036854775807 by omega)];exact⟨_,rfl,rfl⟩
   ·rintro ⟨z,m,_⟩ rfl;simp only[J1,Ze];exact⟨_,rfl,trivial⟩
  ·rintro ⟨z,m⟩ _;obtain⟨o,N⟩:∃o,F65 z=some o:=⟨_,rfl⟩;refine ZbE (fun B:List GV=>B.length<=16* (i+1)) ?_ fun B l=>⟨_,rfl,rfl,l⟩;refine Wa F.1.length _ (fun p (s:List GV×Int)=>s.2=(p:Int)/\s.1.length<=16*i+p) ?_ ?_ _ ⟨rfl,by simpa using hL⟩
   ·rintro p ⟨M,_⟩ k ⟨rfl,r⟩;left;simp only at r;have Q:idx F.1 (p:Int)=some F.1[p]:=ZI k;have c:=Zl8 x h.farOk (Vc k) (fun v P=>(O v P).2) D (Va g);simp only[ZV k,Zc,Q,Za,N,A,c,Ka k (show F.1.length<=9223372036854775807 by omega)]
    cases decide (Ve .i64 ((b.length:Int) - (i:Int))<(F.1[p]).2.2.1) with
    |false=>exact⟨_,rfl,rfl,by simp only;omega⟩
    |true=>
    simp only[Zc]
    cases decide (o<=(F.1[p]).2.2.2.1) with
    |false=>exact⟨_,rfl,rfl,by simp only;omega⟩
    |true=>
    simp only[Zc,Za];rw[De (by simp;omega)]
    cases decide (Tr.qandNot .u64 m (Ve .u64 (F.1[p]).2.2.2.2.2.1)=0) with
    |false=>exact⟨_,rfl,rfl,by simp only;omega⟩
    |true=>exact⟨_,rfl,rfl,by simp;omega⟩
   ·rintro ⟨M,_⟩ ⟨rfl,r⟩;simp only at r;exact⟨M,by simp only[J1,Ze],by omega⟩
 ·rintro ⟨L,_⟩ ⟨rfl,hL⟩;exact⟨L,by simp only[J1,Ze],hL⟩
theorem Zjs{α:Type}{f:α->α->Bool}(b:∀x,f x x=true):∀l:List α,JK.eqDs f l l=true
 |[]=>rfl
 |a::l=>by simp only[JK.eqDs,Vl];exact⟨b a,Zjs b l⟩
theorem Ztr{F:Z9}(h:F.1.length<=4096):F29 (some F) (some F)=some true:=by
 show Qs.sameF (some F) (some F)=some true
 have e:JK KK F F=true:=by
  have a:∀p:ZcS,JK XJ p p=true:=fun p=>by simp [JK]
  simp only[JK,Vl];exact⟨Zjs a _,by simp⟩
 simp only[Qs.sameF,Za,e,Zi h,Bool.and_self,Zc]
end Q
namespace Q
open Tr Go
abbrev ZmY:=Int×Int×Int×Int×ZT×Unit
abbrev ZB:=ZmY×Int×Int×Int×Ww×List Z7×Unit
end Q
namespace Q
open Tr Go
def Zs(n:Zg)(i:Nat):List Wv:=(rn n (i:Int)).2.2.2.2.2.2.2.1
def Zk(n:Zg)(i c:Nat):Wv:=cl (Zs n i) (c:Int)
def YP(n:Zg)(i:Nat):Bool:=(rn n (i:Int)).2.2.2.2.2.2.1
def WY(s t a b:Int):Z7:=(false,0,0,0,s,t,a,b,false,())
def Km(n:Zg)(i b c:Nat)(st:Bool):Z7:=(true,(i:Int),(b:Int),(c:Int),(Zk n i b).1,(Zk n i c).1,(Zk n i b).2.2.1,(Zk n i c).2.1,st,())
def isLink(n:Zg)(i c j d:Nat)(st:Bool):Prop:=((i:Int),(c:Int),(j:Int),(d:Int),st,())∈n.2.2.2.1
structure Jl (n:Zg):Prop where
 sound:JR n
 change:∀s:Int,0<=s->s<(n.1.length:Int)->0<=(YD n s).2.2.2.1/\(YD n s).2.2.2.1<=3600
 path:∀p∈n.2.2.2.2.1,(0<=p.1/\p.1<(n.1.length:Int))/\(0<=p.2.1/\p.2.1<(n.1.length:Int))/\p.1≠p.2.1/\1<=p.2.2.1/\p.2.2.1<=14400
 link:∀x∈n.2.2.2.1,∃(i c j d:Nat) (st:Bool),x=((i:Int),(c:Int),(j:Int),(d:Int),st,())/\i<n.2.2.1.length/\j<n.2.2.1.length/\i≠j/\c<(Zs n i).length/\d<(Zs n j).length/\
  (Zk n i c).1=(Zk n j d).1/\(st=true->c+1=(Zs n i).length/\d=0)
theorem Zdg{n:Zg}{i:Nat}(a:i<n.2.2.1.length):Zs n i=(n.2.2.1[i]).2.2.2.2.2.2.2.1:=by unfold Zs rn;grind
theorem ZbG{n:Zg}{i c:Nat}(a:c<(Zs n i).length):Zk n i c=(Zs n i)[c]:=by unfold Zk cl;grind
theorem ZrH{n:Zg}{i:Nat}(h:WF n i=0):(cl (rn n (lk n i).1).2.2.2.2.2.2.2.1 (lk n i).2.1).1=(cl (rn n (lk n i).2.2.1).2.2.2.2.2.2.2.1 (lk n i).2.2.2.1).1/\
 ((lk n i).2.2.2.2.1=true->(lk n i).2.1+1=((rn n (lk n i).1).2.2.2.2.2.2.2.1.length:Int)/\(lk n i).2.2.2.1=0):=by
 unfold WF at h;simp only at h;by_cases a:YO n (lk n i)=true
 ·grind
 rw[Zf a]at h;by_cases b:HB n (lk n i)=true
 all_goals grind
theorem Whole.ok{n:Zg}(h:Whole n):Jl n:=by
 refine⟨h.sound,fun s E f=>?_,fun p A=>?_,fun x C=>?_⟩
 ·have s0:=h.s;unfold HP at s0;split at s0
  ·omega
  obtain⟨j,rfl⟩:∃j:Nat,s=(j:Int):=⟨s.toNat,by omega⟩;have m:j<n.1.length:=by omega
  have o:=Zcp s0 j m;unfold HO at o;have:=(Dc.1 o).2.2;unfold YD
  grind
 ·obtain⟨j,m,rfl⟩:=Vv A;obtain⟨f,l,_⟩:=RY (WK.1 h.q j m);rw[Kr m]at f l;unfold YA at f;unfold YB at l
  grind
 ·obtain⟨j,m,rfl⟩:=Vv C;have o:=WK.1 h.g j m;obtain⟨f,l,_⟩:=RO o;obtain⟨r,t⟩:=ZrH o;have e:lk n j=n.2.2.2.1[j]:=by unfold lk;grind
  rw[e]at f l r t;generalize n.2.2.2.1[j]=x at*;unfold YO at f;unfold HB at l;unfold Kz at f l;simp only[Bool.or_eq_false_iff,Bool.not_eq_false',decide_eq_false_iff_not,Vl,WC]at f l;obtain⟨v,w,y,z,D,G⟩:=x;simp only at f l r t;obtain⟨i,rfl⟩:∃i:Nat,v=(i:Int):=⟨v.toNat,by omega⟩;obtain⟨c,rfl⟩:∃i:Nat,w=(i:Int):=⟨w.toNat,by omega⟩;obtain⟨k,rfl⟩:∃i:Nat,y=(i:Int):=⟨y.toNat,by omega⟩;obtain⟨d,rfl⟩:∃i:Nat,z=(i:Int):=⟨z.toNat,by omega⟩;refine⟨i,c,k,d,D,rfl,by omega,by omega,by omega,?_,?_,r,fun B=>?_⟩
  ·unfold Zs;omega
  ·unfold Zs;omega
  ·obtain⟨a,b⟩:=t B;unfold Zs;omega
theorem Jl.isLink{n:Zg}(h:Jl n){i c j d:Nat}{st:Bool}(a:isLink n i c j d st):i<n.2.2.1.length/\j<n.2.2.1.length/\i≠j/\c<(Zs n i).length/\d<(Zs n j).length/\(Zk n i c).1=(Zk n j d).1/\(st=true->c+1=(Zs n i).length/\d=0):=by
 obtain⟨l,f,m,g,b,e,k⟩:=h.link _ a
 grind
theorem Jl.stop{n:Zg}(h:Jl n){i c:Nat}(a:i<n.2.2.1.length)(b:c<(Zs n i).length):0<=(Zk n i c).1/\(Zk n i c).1<(n.1.length:Int):=by rw[ZbG b];refine h.sound.call _ (Vc a) _ ?_;simp only[Zdg a];simp
theorem Jl.time{n:Zg}(h:Jl n){i c:Nat}(b:i<n.2.2.1.length)(a:c<(Zs n i).length):0<=(Zk n i c).2.1/\(Zk n i c).2.1<=(Zk n i c).2.2.1/\(Zk n i c).2.2.1<=3155932800:=by have e:=h.sound.time _ (Vc b);rw[ZbG a];simp only[Zdg b]at a⊢;have:=e c a;omega
inductive ZcK where
 |rdy (k:Nat) (s r:Int)
 |brd (k:Nat) (i c:Nat) (st:Bool)
 |lnk (k:Nat) (i c:Nat)
 |on (k:Nat) (i c:Nat)
 |rid (k:Nat) (s t:Int)
 |arr (k:Nat) (s t:Int)
inductive WU (n:Zg) (s0 t0 w:Int):ZcK->List Z7->Prop
 |init:WU n s0 t0 w (.rdy 0 s0 (t0+w)) []
 |here:WU n s0 t0 w (.arr 0 s0 t0) []
 |rdyW {p:Kg} :p∈n.2.2.2.2.1->p.1=s0->t0+p.2.2.1<=3155932800->WU n s0 t0 w (.rdy 0 p.2.1 (t0+p.2.2.1)) [WY s0 p.2.1 t0 (t0+p.2.2.1)]
 |arrW {p:Kg} :p∈n.2.2.2.2.1->p.1=s0->t0+p.2.2.1<=3155932800->WU n s0 t0 w (.arr 0 p.2.1 (t0+p.2.2.1)) [WY s0 p.2.1 t0 (t0+p.2.2.1)]
 |board {k:Nat}{s r:Int}{js:List Z7}{i c:Nat} :WU n s0 t0 w (.rdy k s r) js->i<n.2.2.1.length->c<(Zs n i).length->YP n i=false->(Zk n i c).1=s->(Zk n i c).2.2.2.1=true->r<=(Zk n i c).2.2.1->WU n s0 t0 w (.brd (k+1) i c false) js
 |on {k i b c:Nat}{st:Bool}{js:List Z7} :WU n s0 t0 w (.brd k i b st) js->b<c->c<(Zs n i).length->WU n s0 t0 w (.on k i c) (js++[Km n i b c st])
 |stay {k i c j d:Nat}{js:List Z7} :WU n s0 t0 w (.on k i c) js->isLink n i c j d true->(Zk n i c).2.1<=(Zk n j d).2.2.1->YP n j=false->WU n s0 t0 w (.brd k j d true) js
 |link {k i c j d:Nat}{js:List Z7} :WU n s0 t0 w (.on k i c) js->(Zk n i c).2.2.2.2.1=true->isLink n i c j d false->(Zk n i c).2.1<=(Zk n j d).2.2.1->(Zk n j d).2.2.2.1=true->WU n s0 t0 w (.lnk (k+1) j d) js
 |linked {k j d:Nat}{js:List Z7} :WU n s0 t0 w (.lnk k j d) js->YP n j=false->WU n s0 t0 w (.brd k j d false) js
 |ride {k i c:Nat}{js:List Z7} :WU n s0 t0 w (.on k i c) js->(Zk n i c).2.2.2.2.1=true->WU n s0 t0 w (.rid k (Zk n i c).1 (Zk n i c).2.1) js
 |change {k:Nat}{s t:Int}{js:List Z7} :WU n s0 t0 w (.rid k s t) js->WU n s0 t0 w (.rdy k s (t+(YD n s).2.2.2.1)) js
 |rdyV {k:Nat}{s t:Int}{js:List Z7}{p:Kg} :WU n s0 t0 w (.rid k s t) js->p∈n.2.2.2.2.1->p.1=s->t+p.2.2.1<=3155932800->WU n s0 t0 w (.rdy k p.2.1 (t+p.2.2.1)) (js++[WY s p.2.1 t (t+p.2.2.1)])
 |arrR {k:Nat}{s t:Int}{js:List Z7} :WU n s0 t0 w (.rid k s t) js->WU n s0 t0 w (.arr k s t) js
 |arrV {k:Nat}{s t:Int}{js:List Z7}{p:Kg} :WU n s0 t0 w (.rid k s t) js->p∈n.2.2.2.2.1->p.1=s->t+p.2.2.1<=3155932800->WU n s0 t0 w (.arr k p.2.1 (t+p.2.2.1)) (js++[WY s p.2.1 t (t+p.2.2.1)])
def ZcK.ok(n:Zg):ZcK->Prop
 |.rdy _ s r=>(0<=s/\s<(n.1.length:Int))/\0<=r/\r<=3155932800+3600
 |.brd k i c _=>0<k/\i<n.2.2.1.length/\c<(Zs n i).length/\YP n i=false
 |.lnk k i c=>0<k/\i<n.2.2.1.length/\c<(Zs n i).length
 |.on k i c=>0<k/\i<n.2.2.1.length/\c<(Zs n i).length/\YP n i=false
 |.rid k s t=>0<k/\(0<=s/\s<(n.1.length:Int))/\0<=t/\t<=3155932800
 |.arr _ s t=>(0<=s/\s<(n.1.length:Int))/\0<=t/\t<=3155932800
theorem WU.ok{n:Zg}(h:Jl n){s0 k w:Int}(l:0<=s0/\s0<(n.1.length:Int))(o:0<=k/\k<=3155932800)(p:0<=w/\w<=3600){f:ZcK}{js:List Z7}(d:WU n s0 k w f js):f.ok n:=by
 induction d with
 |init=>exact⟨l,by omega,by omega⟩
 |here=>exact⟨l,o⟩
 |rdyW b _ j=>have:=h.path _ b;exact⟨this.2.1,by omega,by omega⟩
 |arrW b _ j=>have:=h.path _ b;exact⟨this.2.1,by omega,by omega⟩
 |board _ m e c _ _ _ _=>exact⟨Nat.succ_pos _,m,e,c⟩
 |on _ _ e a=>exact⟨a.1,a.2.1,e,a.2.2.2⟩
 |stay _ g _ c a=>have:=h.isLink g;exact⟨a.1,this.2.1,this.2.2.2.2.1,c⟩
 |link _ _ g _ _ _=>have:=h.isLink g;exact⟨Nat.succ_pos _,this.2.1,this.2.2.2.2.1⟩
 |linked _ c a=>exact⟨a.1,a.2.1,a.2.2,c⟩
 |ride _ _ a=>
  have:=h.time a.2.1 a.2.2.1
  exact⟨a.1,h.stop a.2.1 a.2.2.1,by omega,by omega⟩
 |change _ a=>have:=h.change _ a.2.1.1 a.2.1.2;exact⟨a.2.1,by have:=a.2.2;omega,by have:=a.2.2;omega⟩
 |rdyV _ b _ j a=>have:=h.path _ b;exact⟨this.2.1,by have:=a.2.2;omega,by omega⟩
 |arrR _ a=>exact a.2
 |arrV _ b _ j a=>have:=h.path _ b;exact⟨this.2.1,by have:=a.2.2;omega,by omega⟩
end Q
namespace Q
open Tr Go
def KQ(q:Zw):Zw:=(q.1,q.2.1,q.2.2.1,q.2.2.2.1,q.2.2.2.2.1,q.2.2.2.2.2.1,false,false,0,q.2.2.2.2.2.2.2.2.2)
theorem ZsG{k:Nat}{q:Zw}(h:qB k q=true):qB k (KQ q)=true:=by unfold qB at h⊢;simp only[Vl,WC]at h⊢;obtain⟨a,b,c,e,f,_,g⟩:=h;exact⟨a,b,c,e,f,⟨Vga 0,by show (0:Int)<=255;decide⟩,g⟩
end Q
namespace Q
open Tr Go
variable {n:Zg}{q:Zw}
theorem ZjY{a:Int}{m:Nat} :Kz a m=true↔0<=a/\a<(m:Int):=by unfold Kz;rw[Vl,WC,WC]
end Q
namespace Q
open Tr Go
abbrev Wp:=Ze9×Jc×List (Int×Int×Int×Int×Unit) ×Unit
def KL:Ww->List ZT
 |[]=>[]
 |[_]=>[]
 |x::y::t=>KL (y::t)++[x.2.1]
theorem Dk{S:List Jm->List Int->Prop}{F:GR}{a:List Jm}{s:Ww}(h:Yr S F a s):KL s=a:=by
 induction h with
 |start=>rfl
 |snoc b _ _ c=>
  obtain⟨_,_,_,e,_⟩:=b.head;subst e;show KL (_::_)++_=_;rw[c]
section
variable (F:Z9) (hF:FO F)
def Zfa(l:ZB):Prop:=Xn F hF (KL l.2.2.2.2.1) l.2.2.2.2.1/\ ∀v∈KL l.2.2.2.2.1,XH v
end
variable {F:Z9}{hF:FO F}{n:Zg}{q:Zw}
end Q
namespace Q
open Tr Go
variable {F:Z9}{hF:FO F}{n:Zg}{q:Zw}
def Zhw(n:Zg)(i c:Nat):Bool:=n.2.2.2.1.any fun l=>l.2.2.2.2.1&& (decide (l.1=(i:Int)) &&decide (l.2.1=(c:Int)))
def Zd4(n:Zg)(l:ZB)(j d:Nat):Bool:=n.2.2.2.1.any fun k=> !k.2.2.2.2.1&& (decide (l.1.1=1) && (decide (k.1=l.1.2.2.1) && (decide (k.2.1=l.1.2.2.2.1) && (decide (k.2.2.1=(j:Int)) &&decide (k.2.2.2.1=(d:Int))))))
def JD(n:Zg)(v:ZT)(x:Z7):ZT:=(v.1,x.2.2.2.2.2.2.2.1,Wy .i64 v.2.2.1 ((D8 n x:Nat):Int),Wy .i64 v.2.2.2.1 ((2 ^ (D2 n x).2.1.toNat:Nat):Int),())
def ZU(n:Zg)(l:ZB)(i b c:Nat)(st:Bool)(v:ZT):ZB:=((1,(Zk n i c).1,(i:Int),(c:Int),JD n v (Km n i b c st),()),(Zk n i c).2.1,l.2.2.1,l.2.2.2.1,l.2.2.2.2.1,l.2.2.2.2.2.1++[Km n i b c st],())
def H9(n:Zg)(i c:Nat):Bool:=(Zk n i c).2.2.2.2.1||Zhw n i c
def Zmi(n:Zg)(l:ZB)(i b:Nat)(st:Bool)(v:ZT)(c:Nat):List ZB:=if H9 n i c=true then [ZU n l i b c st v] else []
def ZeJ(n:Zg)(l:ZB)(i b:Nat)(st:Bool)(v:ZT):List ZB:=(Vb ((Zs n i).length - (b+1))).flatMap fun k=>Zmi n l i b st v (b+1+k)
theorem Zkz{l:ZB}{i b:Nat}{st:Bool}{v:ZT}{x:ZB} :x∈ZeJ n l i b st v↔∃c,b<c/\c<(Zs n i).length/\H9 n i c=true/\x=ZU n l i b c st v:=by
 unfold ZeJ Zmi;rw[Vd];constructor
 ·grind
 ·rintro ⟨c,a,e,f,rfl⟩;refine⟨c - (b+1),by grind,?_⟩
  grind
end Q
namespace Q
open Tr Go
theorem Zre{n:Zg}(j:Hu n)(k:JR n)(l:F125 n=some true)(q:Zw){L:List Z7}(o:L.length<=90)(m:∀x∈L,Zbs x){e:List ZT}(f:Ji n L false []=(e,0))(w:e.length<=8):
 (∃s z t,F52 n q (L,())=some ((((L[0]?).map fun x=>x.2.2.2.2.2.2.1).getD q.2.2.1,z,(e.length:Int),s,Js L,()),t,0))\/ ∃c,F52 n q (L,())=some (c,[],34):=by
 have a:F53 n (L,())=some (e,0):=by
  rcases ZsX n (L,()) j o with ⟨_,b⟩|⟨_,_,b⟩
  ·rw[l]at b;cases b
  ·rw[b,f]
 have p:=Zun (L,()) (show L.length<=1000 by omega) m;unfold F52;rw[a];simp only[Za,decide_true,Vq,Ze];rcases ZqO k.fare (fun x r=>j.prods x r) e (by omega) with ⟨b,_⟩|⟨_,_,g⟩|⟨_,s,t,_,g⟩
 ·omega
 ·right;rw[g];exact⟨_,rfl⟩
 ·left;rw[g];simp only[Za,decide_true,Vq,Ze,p];by_cases h:0<L.length
  ·rw[Zi (show (0:Int)<(L.length:Int) by omega)];have el:Ve .i64 ((L.length:Int) - 1)=((L.length - 1:Nat):Int):=by rw[Z1 (by omega) (by omega)];omega
   have v:idx L (0:Int)=some L[0]:=ZI (i:=0) h;simp only[Zc,el,v,ZI (show L.length - 1<L.length by omega),Za];rw[Va h];exact⟨_,_,_,rfl⟩
  ·rw[Zv (by omega)];have:L=[]:=List.eq_nil_of_length_eq_zero (by omega);subst this;exact⟨_,_,_,rfl⟩
end Q
namespace Q
open Tr Go
variable {F:Z9}{hF:FO F}{n:Zg}{q:Zw}
structure LV (F:Z9) (hF:FO F) (n:Zg) (q:Zw) (l:ZB):Prop where
 fare:Zfa F hF l
 len:l.2.2.2.2.2.1.length<=80
 rides:0<=l.2.2.1/\l.2.2.1<=q.2.2.2.2.1
 walk:0<=l.2.2.2.1/\l.2.2.2.1<=q.2.2.2.2.2.1
 time:0<=l.2.1/\l.2.1<=3155932800
 stop:0<=l.1.2.1/\l.1.2.1<(n.1.length:Int)
 kind:l.1.1=1->∃i c:Nat,l.1.2.2.1=(i:Int)/\l.1.2.2.2.1=(c:Int)/\i<n.2.2.1.length/\c<(Zs n i).length/\l.1.2.1=(Zk n i c).1/\l.2.1=(Zk n i c).2.1/\XH l.1.2.2.2.2.1
 first:∀x,l.2.2.2.2.2.1=[x]->x.1=false->J5 x.2.2.2.2.2.2.1/\x.2.2.2.2.2.2.2.1=l.2.1
structure QI (q:Zw):Prop where
 rides:q.2.2.2.2.1<=7
 walk:q.2.2.2.2.2.1<=86400
def Yu(L:List Z7)(d:Int):List Z7:=match L with
 |[x]=>if x.1=true then [x] else [(x.1,x.2.1,x.2.2.1,x.2.2.2.1,x.2.2.2.2.1,x.2.2.2.2.2.1,x.2.2.2.2.2.2.1+(d - x.2.2.2.2.2.2.2.1),d,x.2.2.2.2.2.2.2.2)]
 |L=>L
theorem Znk(L:List Z7)(d:Int):(Yu L d).length=L.length:=by
 unfold Yu
 grind
theorem Zc4{x:Z7}(h:x.1=true)(d:Int):Yu [x] d=[x]:=by unfold Yu;grind
theorem Zc5{x:Z7}(h:x.1=false)(d:Int):Yu [x] d=[(x.1,x.2.1,x.2.2.1,x.2.2.2.1,x.2.2.2.2.1,x.2.2.2.2.2.1,x.2.2.2.2.2.2.1+(d - x.2.2.2.2.2.2.2.1),d,x.2.2.2.2.2.2.2.2)]:=by
 show (if x.1=true then [x] else _)=_
 grind
def Hi(n:Zg)(l:ZB)(i c:Nat):ZB:=(l.1,l.2.1,l.2.2.1+1,l.2.2.2.1,l.2.2.2.2.1,Yu l.2.2.2.2.2.1 (Zk n i c).2.2.1,())
def JO(d:Int):ZT:=(d,0,0,0,())
def ZiK(n:Zg)(q:Zw)(l:ZB)(i c:Nat):List ZB:=if l.2.2.1=q.2.2.2.2.1 then [] else ZeJ n (Hi n l i c) i c false (JO (Zk n i c).2.2.1)
theorem Zcf(d:Int):Small (JO d):=⟨⟨by show (0:Int)<=0;omega,by show (0:Int)<65536;omega⟩,⟨by show (0:Int)<=0;omega,by show (0:Int)<65536;omega⟩⟩
def Rp(n:Zg)(l:ZB)(fr:Int)(i c:Nat):Prop:=YP n i=false/\(Zk n i c).2.2.2.1=true/\(Zk n i c).1=l.1.2.1/\c+1≠(Zs n i).length/\(fr<=(Zk n i c).2.2.1\/(l.2.1<=(Zk n i c).2.2.1/\Zd4 n l i c=true))
instance (n:Zg) (l:ZB) (fr:Int) (i c:Nat):Decidable (Rp n l fr i c):=by unfold Rp;infer_instance
def ZfA(n:Zg)(q:Zw)(l:ZB)(fr:Int)(i c:Nat):List ZB:=if Rp n l fr i c then ZiK n q l i c else []
def Rm(n:Zg)(q:Zw)(l:ZB)(fr:Int):List ZB:=(Vb n.2.2.1.length).flatMap fun i=>(Vb (Zs n i).length).flatMap fun c=>ZfA n q l fr i c
theorem Zkv{l:ZB}{fr:Int}{i c:Nat}{x:ZB} :x∈ZfA n q l fr i c↔Rp n l fr i c/\l.2.2.1≠q.2.2.2.2.1/\ ∃d,c<d/\d<(Zs n i).length/\H9 n i d=true/\x=ZU n (Hi n l i c) i c d false (JO (Zk n i c).2.2.1):=by
 unfold ZfA ZiK;by_cases a:Rp n l fr i c
 ·rw[Zr a];by_cases b:l.2.2.1=q.2.2.2.2.1
  ·grind
  ·rw[Zf b,Zkz]
   grind
 grind
theorem Zcc{l:ZB}{fr:Int}{x:ZB} :x∈Rm n q l fr↔∃i c d,i<n.2.2.1.length/\c<d/\d<(Zs n i).length/\Rp n l fr i c/\l.2.2.1≠q.2.2.2.2.1/\H9 n i d=true/\x=ZU n (Hi n l i c) i c d false (JO (Zk n i c).2.2.1):=by
 unfold Rm;rw[Vd];constructor
 ·rintro ⟨i,a,b⟩;obtain⟨c,m,b⟩:=Vd.1 b;rw[Vr]at a m;obtain⟨e,f,d,g,h,j,k⟩:=Zkv.1 b
  grind
 ·rintro ⟨i,c,d,a,g,h,e,f,j,k⟩;exact⟨i,Vr.2 a,Vd.2 ⟨c,by grind,Zkv.2 ⟨e,f,d,g,h,j,k⟩⟩⟩
def JZ(l:ZB)(p:Kg):ZB:=((2,p.2.1,0,0,(0,0,0,0,()),()),l.2.1+p.2.2.1,l.2.2.1,l.2.2.2.1+p.2.2.1,l.2.2.2.2.1,l.2.2.2.2.2.1++[WY l.1.2.1 p.2.1 l.2.1 (l.2.1+p.2.2.1)],())
def ZbM(q:Zw)(l:ZB)(p:Kg):Prop:=p.1=l.1.2.1/\l.2.2.2.1+p.2.2.1<=q.2.2.2.2.2.1/\l.2.1+p.2.2.1<=3155932800
instance (q:Zw) (l:ZB) (p:Kg):Decidable (ZbM q l p):=by unfold ZbM;infer_instance
def ZhM(q:Zw)(l:ZB)(p:Kg):List ZB:=if ZbM q l p then [JZ l p] else []
def Zbj(n:Zg)(q:Zw)(l:ZB):List ZB:=n.2.2.2.2.1.flatMap (ZhM q l)
theorem ZkA{l:ZB}{p:Kg}{x:ZB} :x∈ZhM q l p↔ZbM q l p/\x=JZ l p:=by unfold ZhM;simp
theorem Zd8{l:ZB}{x:ZB} :x∈Zbj n q l↔∃p∈n.2.2.2.2.1,ZbM q l p/\x=JZ l p:=by unfold Zbj;rw[Vd];exact⟨fun⟨p,a,b⟩=>⟨p,a,ZkA.1 b⟩,fun⟨p,a,b⟩=>⟨p,a,ZkA.2 b⟩⟩
def Zaq(n:Zg)(l:ZB)(k:HS):Prop:=k.2.2.2.2.1=true/\k.1=l.1.2.2.1/\k.2.1=l.1.2.2.2.1/\YP n k.2.2.1.toNat=false/\l.2.1<=(Zk n k.2.2.1.toNat 0).2.2.1
instance (n:Zg) (l:ZB) (k:HS):Decidable (Zaq n l k):=by unfold Zaq;infer_instance
def Zhu(n:Zg)(l:ZB)(k:HS):List ZB:=if Zaq n l k then ZeJ n l k.2.2.1.toNat 0 true l.1.2.2.2.2.1 else []
def ZeB(n:Zg)(l:ZB):List ZB:=n.2.2.2.1.flatMap (Zhu n l)
theorem Zkx{l:ZB}{k:HS}{x:ZB} :x∈Zhu n l k↔Zaq n l k/\ ∃d,0<d/\d<(Zs n k.2.2.1.toNat).length/\H9 n k.2.2.1.toNat d=true/\x=ZU n l k.2.2.1.toNat 0 d true l.1.2.2.2.2.1:=by
 unfold Zhu;by_cases h:Zaq n l k
 ·rw[Zr h,Zkz];grind
 grind
theorem ZgU{l:ZB}{x:ZB} :x∈ZeB n l↔∃k∈n.2.2.2.1,Zaq n l k/\ ∃d,0<d/\d<(Zs n k.2.2.1.toNat).length/\H9 n k.2.2.1.toNat d=true/\x=ZU n l k.2.2.1.toNat 0 d true l.1.2.2.2.2.1:=by unfold ZeB;rw[Vd];exact⟨fun⟨p,a,b⟩=>⟨p,a,Zkx.1 b⟩,fun⟨p,a,b⟩=>⟨p,a,Zkx.2 b⟩⟩
end Q
namespace Q
open Tr Go
variable {F:Z9}{hF:FO F}{n:Zg}{q:Zw}
noncomputable def HN(s:Ww)(r:ZT):Ww:=((F22 s r).getD ([],1)).1
noncomputable def Yd(l:ZB):ZB:=(l.1,l.2.1,l.2.2.1,l.2.2.2.1,HN l.2.2.2.2.1 l.1.2.2.2.2.1,l.2.2.2.2.2.1,())
def Hf(n:Zg)(l:ZB):Bool:=(Zk n l.1.2.2.1.toNat l.1.2.2.2.1.toNat).2.2.2.2.1
def chg(n:Zg)(s:Int):Int:=(YD n s).2.2.2.1
noncomputable def GM(n:Zg)(q:Zw)(l:ZB):List ZB:=
 if l.1.1=1 then ZeB n l++(if Hf n l=true then Rm n q (Yd l) (l.2.1+chg n l.1.2.1)++Zbj n q (Yd l) else [])
 else if l.1.1=2 then Rm n q l l.2.1
 else Rm n q l (l.2.1+(if q.2.2.2.2.2.2.2.2.2.1=true then chg n l.1.2.1 else 0))++Zbj n q l
def ZbT(n:Zg)(q:Zw)(l:ZB):Prop:=(l.1.1=1->Hf n l=true)/\l.1.2.1=q.2.1
instance (n:Zg) (q:Zw) (l:ZB):Decidable (ZbT n q l):=by unfold ZbT;infer_instance
theorem Zlz{l:ZB}(c:LV F hF n q l)(k:l.1.1=1)(j:(KL l.2.2.2.2.1).length+1<=8):F22 l.2.2.2.2.1 l.1.2.2.2.2.1=some (HN l.2.2.2.2.1 l.1.2.2.2.2.1,0)/\Xn F hF (KL l.2.2.2.2.1++[l.1.2.2.2.2.1]) (HN l.2.2.2.2.1 l.1.2.2.2.2.1)/\ ∀v∈KL l.2.2.2.2.1++[l.1.2.2.2.2.1],XH v:=by
 obtain⟨_,_,_,_,_,_,_,_,a⟩:=c.kind k
 have g:∀v∈KL l.2.2.2.2.1++[l.1.2.2.2.2.1],XH v:=fun v b=>by
  rw[Vi,Vj]at b;rcases b with b|rfl
  ·exact c.fare.2 v b
  ·exact a
 obtain⟨m,f,h⟩:=Zht hF c.fare.1 g j;have e:HN l.2.2.2.2.1 l.1.2.2.2.2.1=m:=by unfold HN;rw[f];rfl
 rw[e];exact⟨f,h,g⟩
theorem LV.next{l:ZB}(a:LV F hF n q l)(g:l.1.1=1)(f:(KL l.2.2.2.2.1).length+1<=8):LV F hF n q (Yd l):=by
 obtain⟨h,b,c⟩:=Zlz a g f;have e:=Dk b
 refine⟨⟨?_,?_⟩,a.len,a.rides,a.walk,a.time,a.stop,a.kind,a.first⟩
 ·show Xn F hF (KL (HN _ _)) (HN _ _);rw[e];exact b
 ·show∀v∈KL (HN _ _),XH v;rw[e];exact c
end Q
namespace Q
open Tr Go
structure WB (n:Zg):Prop where
 stops:n.1.length<=5
 runs:n.2.2.1.length<=7
 paths:n.2.2.2.2.1.length<=60
 calls:∀i,i<n.2.2.1.length->(Zs n i).length<=6
variable {n:Zg}{q:Zw}
noncomputable def Zba(n:Zg):Int->Option Int:=KW n n.2.2.2.1.length
def XF(n:Zg)(a b:Int):Prop:= ∃k,Ks (Zba n) a (k+1)=some b
theorem ZkT(f:Int->Option Int):∀(k:Nat) {a b c:Int}{l:Nat},Ks f a k=some b->Ks f b l=some c->Ks f a (k+l)=some c
 |0,a,b,c,l,e,h=>by
  have:a=b:=Option.some.inj e
  grind
 |k+1,a,b,c,l,e,h=>by
  have g:(f a).bind (fun b=>Ks f b k)=some b:=e;obtain⟨m,o,j⟩:=Option.bind_eq_some_iff.1 g;have:=ZkT f k j h;rw[show k+1+l=(k+l)+1 by omega];show (f a).bind (fun b=>Ks f b (k+l))=some c
  grind
theorem XF.trans{a b c:Int}(e:XF n a b)(f:XF n b c):XF n a c:=by obtain⟨k,e⟩:=e;obtain⟨l,f⟩:=f;exact⟨k+l+1,by rw[show k+l+1+1=(k+1)+(l+1) by omega];exact ZkT _ _ e f⟩
theorem XF.one{a b:Int}(h:Zba n a=some b):XF n a b:=⟨0,by show (Zba n a).bind (fun b=>some b)=some b;grind⟩
theorem XF.irr(h:Whole n){a:Int} :¬XF n a a:=by rintro ⟨k,c⟩;exact ZkL (ZdH (fun j b=>WK.1 h.g j b) a) k c
theorem Zhv(h:Whole n){i c j d:Nat}(p:isLink n i c j d true):Zba n (i:Int)=some (j:Int):=by
 obtain⟨a,k,v⟩:=Vv p;have r:lk n a=((i:Int),(c:Int),(j:Int),(d:Int),true,()):=by unfold lk;grind
 cases l:Zba n (i:Int) with
 |none=>
  have:=ZgX l a k (by grind)
  grind
 |some b=>
  obtain⟨e,m,o,s,t⟩:=Zci l
  have:e=a:=by
   rcases Vgc e a with f|rfl|f
   ·have:=(RO (WK.1 h.g a k)).2.2 (by grind)
    grind
   ·rfl
   ·have:=(RO (WK.1 h.g e m)).2.2 o
    grind
  grind
open Classical in
noncomputable def Xg(n:Zg)(a b:Nat):Nat:=if XF n (a:Int) (b:Int) then 1 else 0
noncomputable def WG(n:Zg)(a:Nat):Nat:=Xg n a 0+Xg n a 1+Xg n a 2+Xg n a 3+Xg n a 4+Xg n a 5+Xg n a 6
theorem ZsN(a b:Nat):Xg n a b<=1:=by unfold Xg;grind
theorem Zlp(h:Whole n)(a:Nat):Xg n a a=0:=by unfold Xg;rw[Zf (XF.irr h)]
theorem ZsM(h:Whole n)(a b:Nat):Xg n a b+Xg n b a<=1:=by
 unfold Xg;by_cases c:XF n (a:Int) (b:Int)
 ·rw[Zr c,Zf (fun e=>XF.irr h (c.trans e))];omega
 grind
theorem Zhe(a:Nat):WG n a<=7:=by have:=fun b=>ZsN (n:=n) a b;have c:=this 0;have e:=this 1;have f:=this 2;have g:=this 3;have h:=this 4;have j:=this 5;have k:=this 6;unfold WG;omega
theorem Zs2(h:Whole n):WG n 0+WG n 1+WG n 2+WG n 3+WG n 4+WG n 5+WG n 6<=21:=by have a:=ZsM h;have i:=Zlp h;have t:=i 0;have v:=i 1;have w:=i 2;have x:=i 3;have y:=i 4;have z:=i 5;have A:=i 6;have b:=a 0 1;have c:=a 0 2;have e:=a 0 3;have f:=a 0 4;have g:=a 0 5;have j:=a 0 6;have a12:=a 1 2;have k:=a 1 3;have l:=a 1 4;have m:=a 1 5;have o:=a 1 6;have a23:=a 2 3;have a24:=a 2 4;have a25:=a 2 5;have a26:=a 2 6;have p:=a 3 4;have a35:=a 3 5;have r:=a 3 6;have a45:=a 4 5;have a46:=a 4 6;have s:=a 5 6;unfold WG;omega
theorem Zhf(h:Whole n){i j:Nat}(g:j<7)(e:Zba n (i:Int)=some (j:Int)):WG n j+1<=WG n i:=by
 have c:=XF.one e
 have a:∀k,Xg n j k<=Xg n i k:=fun k=>by
  unfold Xg;by_cases b:XF n (j:Int) (k:Int)
  ·rw[Zr b,Zr (c.trans b)];omega
  grind
 have b:Xg n i j=1:=by unfold Xg;grind
 have f:=Zlp h j;have l:=a 0;have m:=a 1;have o:=a 2;have p:=a 3;have r:=a 4;have s:=a 5;have t:=a 6;unfold WG
 grind
def KI:Nat->(Nat->Nat)->Nat
 |0,_=>0
 |m+1,f=>KI m f+f m
theorem HQ{f g:Nat->Nat} :∀{m:Nat},(∀i,i<m->f i<=g i)->KI m f<=KI m g
 |0,_=>Vt _
 |m+1,h=>Vwa (HQ (by grind)) (by grind)
theorem D5(f g:Nat->Nat):∀m,KI m (fun i=>f i+g i)=KI m f+KI m g
 |0=>rfl
 |m+1=>by show KI m _+(f m+g m)=(KI m f+f m)+(KI m g+g m);rw[D5 f g m];omega
theorem Zbb(c:Nat)(f:Nat->Nat):∀m,KI m (fun i=>c*f i)=c*KI m f
 |0=>rfl
 |m+1=>by show KI m _+_=c* (KI m f+f m);rw[Zbb c f m,Nat.mul_add]
theorem Gj{f:Nat->Nat} :∀{m:Nat},(∀i,i<m->f i=0)->KI m f=0
 |0,_=>rfl
 |m+1,h=>by show KI m f+f m=0;rw[Gj (by grind),h m (by omega)]
theorem Zmc{f:Nat->Nat}{j:Nat} :∀{m:Nat},(∀i,i<m->i≠j->f i=0)->KI m f<=f j
 |0,_=>Vha _
 |m+1,h=>by
  show KI m f+f m<=f j;by_cases e:m=j
  ·subst e;rw[Gj (by grind)];omega
  ·rw[h m (by omega) e];exact Zmc (by grind)
theorem Zmb(c:Nat):∀m,KI m (fun _=>c)=m*c
 |0=>by simp [KI]
 |m+1=>by show KI m _+c=_;rw[Zmb c m,Vbc]
theorem ZeD{β:Type}(w:β->Nat)(f:Nat->List β):∀m,(((Vb m).flatMap f).map w).sum=KI m fun i=>((f i).map w).sum
 |0=>rfl
 |m+1=>by
  have e: [m].flatMap f=f m:=by simp
  rw[Vib,Vla,Vda,Vna,ZeD w f m,e];rfl
def gW:Nat->Nat
 |0=>61
 |l+1=>61+1890*gW l
noncomputable def Zbh(n:Zg)(l i c:Nat):Nat:=gW l* (1+if c+1=(Zs n i).length then 5*WG n i else 0)
noncomputable def wr(n:Zg):Nat->Nat->Nat->Nat
 |0,_,_=>0
 |l+1,i,c=>Zbh n l i c
noncomputable def bw(n:Zg)(l i b:Nat):Nat:=KI ((Zs n i).length - (b+1)) fun k=>wr n l i (b+1+k)
noncomputable def rW(n:Zg)(l:Nat)(s:Int):Nat:=KI n.2.2.1.length fun i=>KI (Zs n i).length fun b=>if (Zk n i b).1=s then bw n l i b else 0
noncomputable def tW(n:Zg)(l:Nat):Nat:=KI n.2.2.1.length fun i=>KI (Zs n i).length fun b=>bw n l i b
theorem Zkl(l i b:Nat):KI ((Zs n i).length - (b+1)) (fun k=>Zbh n l i (b+1+k))<=gW l* ((Zs n i).length - (b+1)+5*WG n i):=by
 unfold Zbh;rw[Zbb];refine Vma _ ?_;rw[D5,Zmb];refine Vwa (by omega) ?_;by_cases a:(Zs n i).length - (b+1)=0
 ·rw[a];exact Vha _
 ·refine Vy (Zmc (j:=(Zs n i).length - (b+1) - 1) (by grind)) ?_
  grind
theorem Ztk(l i:Nat):∀m,m<=(Zs n i).length->(Zs n i).length<=6->KI m (fun b=>KI ((Zs n i).length - (b+1)) fun k=>Zbh n l i (b+1+k))<=gW l* (15+25*WG n i):=by
 intro m j f
 refine Vy (HQ (g:=fun b=>gW l* ((Zs n i).length - (b+1)+(if b+1<(Zs n i).length then 5*WG n i else 0))) fun b h=>?_) ?_
 ·by_cases a:b+1<(Zs n i).length
  ·rw[Zr a];exact Zkl l i b
  ·have:(Zs n i).length - (b+1)=0:=by omega
   rw[this];exact Vha _
 ·rw[Zbb];refine Vma _ ?_;generalize (Zs n i).length=k at*;generalize WG n i=r;have e:k=0\/k=1\/k=2\/k=3\/k=4\/k=5\/k=6:=by omega
  have c:m=0\/m=1\/m=2\/m=3\/m=4\/m=5\/m=6:=by omega
  rcases e with rfl|rfl|rfl|rfl|rfl|rfl|rfl<;>rcases c with rfl|rfl|rfl|rfl|rfl|rfl|rfl<;>simp [KI]<;>omega
theorem ZtX{f:Nat->Nat}{m:Nat}(b:m<=7):KI m f<=f 0+f 1+f 2+f 3+f 4+f 5+f 6:=by
 have a:m=0\/m=1\/m=2\/m=3\/m=4\/m=5\/m=6\/m=7:=by omega
 rcases a with rfl|rfl|rfl|rfl|rfl|rfl|rfl|rfl<;>simp [KI]<;>omega
theorem ZtY(c:Whole n)(a:WB n)(l:Nat):61+3*tW n l<=gW l:=by
 cases l with
 |zero=>
  have:tW n 0=0:=by unfold tW;refine Gj fun i _=>Gj fun b _=>?_;unfold bw wr;exact Gj fun k _=>rfl
  show 61+3*tW n 0<=61
  omega
 |succ l=>
  have f:tW n (l+1)<=gW l*630:=by unfold tW bw wr;refine Vy (HQ (g:=fun i=>gW l* (15+25*WG n i)) fun i e=>Ztk l i _ (Vt _) (a.calls i e)) ?_;rw[Zbb];refine Vma _ (Vy (ZtX a.runs) ?_);have:=Zs2 c;omega
  show 61+3*tW n (l+1)<=61+1890*gW l;omega
def Ru(P:List Kg)(s t:Int):Nat:=(P.filter fun p=>decide (p.1=s) &&decide (p.2.1=t)).length
theorem ZmF(l:Nat)(s:Int):∀P:List Kg,((P.filter fun p=>decide (p.1=s)).map fun p=>rW n l p.2.1).sum=KI n.2.2.1.length fun i=>KI (Zs n i).length fun b=>Ru P s (Zk n i b).1*bw n l i b
 |[]=>by
  symm
  exact Gj fun i _=>Gj fun b _=>by simp [Ru]
 |p::P=>by
  have a:=ZmF l s P;rw[Veb];by_cases h:p.1=s
  ·rw[Zr (by grind),Vo,Vp,a];unfold rW;rw[<-D5];congr 1;funext i;rw[<-D5];congr 1;funext b;unfold Ru
   grind
  ·rw[Zf (by grind),a];congr 1;funext i;congr 1;funext b;unfold Ru
   grind
theorem ZpD(r:Whole n)(s t:Int):(if t=s then 1 else 0)+Ru n.2.2.2.2.1 s t<=2:=by
 obtain⟨C,v⟩:=Zg3.1 (WK.1 r.q);unfold Ru;have f:∀p∈n.2.2.2.2.1.filter (fun p=>decide (p.1=s) &&decide (p.2.1=t)),p.1=s/\p.2.1=t:=by simp
 have e:=v.sublist (List.filter_sublist (p:=fun p:Kg=>decide (p.1=s) &&decide (p.2.1=t)))
 have g:∀p∈n.2.2.2.2.1.filter (fun p=>decide (p.1=s) &&decide (p.2.1=t)),p.1≠p.2.1:=fun p e=>by exact(r.ok.path p (Vba.1 e).1).2.2.1
 generalize n.2.2.2.2.1.filter (fun p=>decide (p.1=s) &&decide (p.2.1=t))=F at*
 match F,f,e,g with
 |[],_,_,_=>grind
 |[a],f,_,g=>
  grind
 |[a,b],f,_,g=>
  grind
 |a::b::c::F,f,e,_=>
  exfalso;have l:=f a (by simp);have m:=f b (by simp);have o:=f c (by simp);rw[Vxa]at e;have h:=e.1 b (by simp);have j:=e.1 c (by simp);have k:=(Vxa.1 e.2).1 c (by simp);unfold JB at h j k;rw[l.1,l.2,m.1,m.2]at h;rw[l.1,l.2,o.1,o.2]at j;rw[m.1,m.2,o.1,o.2]at k;have w:a.2.2.2.1≠b.2.2.2.1:=by grind
  have A:a.2.2.2.1≠c.2.2.2.1:=by grind
  have B:b.2.2.2.1≠c.2.2.2.1:=by grind
  exact(show∀x y z:Bool,x≠y->x≠z->y≠z->False by decide) _ _ _ w A B
theorem ZkJ(c:Whole n)(a:WB n)(l:Nat)(s:Int):1+2*rW n l s+((n.2.2.2.2.1.filter fun p=>decide (p.1=s)).map fun p=>1+rW n l p.2.1).sum<=gW l:=by
 have e:∀P:List Kg,(P.map fun p=>1+rW n l p.2.1).sum=P.length+(P.map fun p=>rW n l p.2.1).sum:=by
  intro P
  induction P with
  |nil=>rfl
  |cons p P j=>grind
 rw[e,ZmF];have g:(n.2.2.2.2.1.filter fun p=>decide (p.1=s)).length<=60:=Vy (Vs _ _) a.paths
 have key:rW n l s+(KI n.2.2.1.length fun i=>KI (Zs n i).length fun b=>Ru n.2.2.2.2.1 s (Zk n i b).1*bw n l i b)<=2*tW n l:=by
  unfold rW tW;rw[<-D5, <-Zbb];refine HQ fun i _=>?_;rw[<-D5, <-Zbb];refine HQ fun b _=>?_;have:=ZpD c s (Zk n i b).1
  have f:(if (Zk n i b).1=s then bw n l i b else 0)=(if (Zk n i b).1=s then 1 else 0) *bw n l i b:=by grind
  rw[f, <-Nat.add_mul];exact Via _ this
 have h:rW n l s<=tW n l:=by
  unfold rW tW;refine HQ fun i _=>HQ fun b _=>?_;split
  ·exact Vt _
  ·exact Vha _
 have:=ZtY c a l;omega
end Q
namespace Q
open Tr Go
variable {F:Z9}{hF:FO F}{n:Zg}{q:Zw}
theorem ZeE{α β:Type}(w:β->Nat)(f:α->List β):∀l:List α,((l.flatMap f).map w).sum=(l.map fun x=>((f x).map w).sum).sum
 |[]=>rfl
 |x::l=>by rw[Vhc,Vda,Vna,ZeE w f l];rfl
def Jg(q:Zw)(l:ZB):Nat:=(q.2.2.2.2.1 - l.2.2.1).toNat
noncomputable def hL(n:Zg)(q:Zw)(l:ZB):Nat:=20*Jg q l+(if l.1.1=1 then 10+WG n l.1.2.2.1.toNat else if l.1.1=2 then 5 else 19)
theorem ZtO(h:Whole n){a c:Nat}(j:a<n.2.2.2.1.length)(k:c<n.2.2.2.1.length)(l:(n.2.2.2.1[a]).2.2.2.2.1=true)(m:(n.2.2.2.1[c]).2.2.2.2.1=true)(e:(n.2.2.2.1[a]).1=(n.2.2.2.1[c]).1):a=c:=by
 have g:∀b (o:b<n.2.2.2.1.length),lk n b=n.2.2.2.1[b]:=fun b o=>by unfold lk;rw[Kr o]
 rcases Vgc a c with f|rfl|f
 ·have:=(RO (WK.1 h.g c k)).2.2 (by rw[g c k];exact m);exact absurd ⟨a,f,by rw[g a j];exact l,.inl (by rw[g a j,g c k];exact e)⟩ this.1
 ·rfl
 ·have:=(RO (WK.1 h.g a j)).2.2 (by rw[g a j];exact l);exact absurd ⟨c,f,by rw[g c k];exact m,.inl (by rw[g a j,g c k];exact e.symm)⟩ this.1
theorem ZjT(l:ZB)(i b c:Nat)(st:Bool)(v:ZT):hL n q (ZU n l i b c st v)=20*Jg q l+(10+WG n i):=by unfold hL ZU Jg;simp only[if_true,Vk]
theorem ZfB{l:ZB}(f:l.2.2.1<=q.2.2.2.2.1){fr:Int}{x:ZB}(b:x∈Rm n q l fr):hL n q x+3<=20*Jg q l/\x.2.2.2.2.2.1.length=l.2.2.2.2.2.1.length+1:=by
 obtain⟨i,c,d,_,_,_,_,a,_,rfl⟩:=Zcc.1 b;rw[ZjT];have:=Zhe (n:=n) i
 have e:Jg q l=Jg q (Hi n l i c)+1:=by unfold Jg Hi;simp only;omega
 refine⟨by omega,?_⟩;show (Yu _ _++[_]).length=_;rw[Vm,Znk];rfl
theorem ZmE{l:ZB}{x:ZB}(a:x∈Zbj n q l):hL n q x=20*Jg q l+5/\x.2.2.2.2.2.1.length=l.2.2.2.2.2.1.length+1:=by obtain⟨p,_,_,rfl⟩:=Zd8.1 a;exact⟨rfl,by show (_++[_]).length=_;simp⟩
theorem ZmC(h:Whole n)(C:WB n){l:ZB}(v:LV F hF n q l){x:ZB}(a:x∈GM n q l):hL n q x<hL n q l/\x.2.2.2.2.2.1.length=l.2.2.2.2.2.1.length+1:=by
 have f:=v.rides.2;unfold GM at a;by_cases e:l.1.1=1
 ·rw[Zr e]at a;obtain⟨i,c,A,E,I,G,_⟩:=v.kind e;have m:hL n q l=20*Jg q l+(10+WG n i):=by unfold hL;rw[Zr e,A,Vk]
  have s:Jg q (Yd l)=Jg q l:=rfl;rcases Vi.1 a with a|a
  ·obtain⟨k,t,⟨p,w,_⟩,d,_,H,_,rfl⟩:=ZgU.1 a;obtain⟨r,z,j,y,K,D,f,J,_⟩:=h.ok.link _ t;subst D;simp only at p w;subst p;have B:r=i:=by omega
   subst B;have b:isLink n r z j y true:=t;have o:j<7:=by have:=C.runs;omega
   have:=Zhf h o (Zhv h b);rw[ZjT,m];simp only[Vk];exact⟨by omega,by show (_++[_]).length=_;simp⟩
  ·split at a
   ·rcases Vi.1 a with a|a
    ·have:=ZfB (n:=n) (q:=q) (l:=Yd l) f a;rw[s]at this;exact⟨by omega,this.2⟩
    ·have:=ZmE (n:=n) (q:=q) (l:=Yd l) a;rw[s]at this;exact⟨by omega,this.2⟩
   ·simp at a
 ·rw[Zf e]at a;by_cases g:l.1.1=2
  ·rw[Zr g]at a;have:=ZfB f a;have m:hL n q l=20*Jg q l+5:=by unfold hL;rw[Zf e,Zr g]
   exact⟨by omega,this.2⟩
  ·rw[Zf g]at a;have m:hL n q l=20*Jg q l+19:=by unfold hL;rw[Zf e,Zf g]
   rcases Vi.1 a with a|a
   ·have:=ZfB f a;exact⟨by omega,this.2⟩
   ·have:=ZmE a;exact⟨by omega,this.2⟩
end Q
namespace Q
open Tr Go
variable {F:Z9}{hF:FO F}{n:Zg}{q:Zw}
open Classical in
noncomputable def ZR(l:ZB):ZB:=if l.1.1=1 then Yd l else l
noncomputable def GC(n:Zg)(q:Zw)(l:ZB):Int:=if l.1.1=1 then l.2.1+chg n l.1.2.1 else if l.1.1=2 then l.2.1 else l.2.1+(if q.2.2.2.2.2.2.2.2.2.1=true then chg n l.1.2.1 else 0)
theorem RR{l x:ZB} :x∈GM n q l↔(l.1.1=1/\x∈ZeB n l)\/((l.1.1=1->Hf n l=true)/\x∈Rm n q (ZR l) (GC n q l))\/((l.1.1=1->Hf n l=true)/\l.1.1≠2/\x∈Zbj n q (ZR l)):=by
 unfold GM ZR GC
 grind
theorem Zdn(l:ZB):(ZR l).1=l.1/\(ZR l).2.1=l.2.1/\(ZR l).2.2.1=l.2.2.1/\(ZR l).2.2.2.1=l.2.2.2.1/\(ZR l).2.2.2.2.2.1=l.2.2.2.2.2.1:=by
 unfold ZR
 split<;>exact⟨rfl,rfl,rfl,rfl,rfl⟩
def ZaQ(rode:Bool):List Z7->Bool
 |[]=>rode
 |x::l=>ZaQ x.1 l
theorem Zkj(rode:Bool)(L:List Z7)(x:Z7):ZaQ rode (L++[x])=x.1:=by
 induction L generalizing rode with
 |nil=>rfl
 |cons y L a=>exact a _
theorem Zct{n:Zg}{x:Z7} :∀{L:List Z7}{rode:Bool}{out o:List ZT},Ji n L rode out=(o,0)->Ji n (L++[x]) rode out=Ji n [x] (ZaQ rode L) o
 |[],rode,out,o,h=>by
  have:out=o:=(Vtc h).1
  subst this;rfl
 |y::L,rode,out,o,h=>by
  rw[List.cons_append,D1];rw[D1]at h;by_cases a:y.1=true/\X2 n y=false
  ·grind
  rw[Zf a]at h⊢;by_cases b:YY y=true/\(y.1=false\/rode=false)
  ·grind
  rw[Zf b]at h⊢;by_cases c3:y.1=true
  ·rw[Zr c3]at h⊢;rw[Zct h];show _=Ji n [x] (ZaQ y.1 L) o
   grind
  ·rw[Zf c3]at h⊢;rw[Zct h];show _=Ji n [x] (ZaQ y.1 L) o
   grind
theorem Zq0(s t a b:Int)(rode:Bool)(out:List ZT):Ji n [WY s t a b] rode out=(out,0):=by rfl
theorem ZgP{i b c:Nat}(st:Bool)(g:i<n.2.2.1.length)(e:b<c)(f:c<(Zs n i).length):X2 n (Km n i b c st)=true:=by
 unfold X2;have a:Kz (Km n i b c st).2.1 n.2.2.1.length=true:=by show Kz (i:Int) _=true;unfold Kz;grind
 rw[a];show (true&& (decide (0<=(b:Int)) && (decide ((b:Int)<(c:Int)) &&decide ((c:Int)<((Zs n i).length:Int)))))=true
 grind
theorem ZqY(a:JR n){i b c:Nat}(k:i<n.2.2.1.length)(h:b<c)(j:c<(Zs n i).length)(rode:Bool)(out:List ZT):Ji n [Km n i b c false] rode out=(out++[JD n (JO (Zk n i b).2.2.1) (Km n i b c false)],0):=by
 have f:=ZgP (n:=n) false k h j;rw[D1,Zf (by grind),Zf (by simp [Km,YY]),Zr (by rfl),Zf (by simp [Km,YY])];show (out++[Dg n (Km n i b c false)],(0:Int))=_
 have e:Dg n (Km n i b c false)=JD n (JO (Zk n i b).2.2.1) (Km n i b c false):=by obtain⟨_,_,l,g⟩:=Zeq a f;unfold Dg JD JO;have z:(0:Int)=((0:Nat):Int):=rfl;simp only;rw[z,DY (by omega) (Ze2 a f),DY (by omega) (Gc g),Nat.zero_or,Nat.zero_or];rfl
 rw[e]
theorem ZqZ{i b c:Nat}(h:i<n.2.2.1.length)(f:b<c)(g:c<(Zs n i).length)(out:List ZT)(v:ZT):Ji n [Km n i b c true] true (out++[v])=(out++[JD n v (Km n i b c true)],0):=by
 have l:=ZgP (n:=n) true h f g;rw[D1,Zf (by grind),Zf (by simp [Km]),Zr (by rfl),Zr (by rfl)];show (Gu n _ _,(0:Int))=_
 have e:Gu n (Km n i b c true) (out++[v])=out++[JD n v (Km n i b c true)]:=by
  have k:(out++[v])[(out++[v]).length - 1]? =some v:=by simp
  have a:Gu n (Km n i b c true) (out++[v])=Rj n (Km n i b c true) (out++[v]) v:=by unfold Gu;simp
  rw[a];unfold Rj;have j:(out++[v]).length - 1=out.length:=by simp
  rw[j,Vra _ _ (Vt _),Nat.sub_self];rfl
 rw[e]
theorem Zcs(a:Jl n){i b c:Nat}(st:Bool)(f:i<n.2.2.1.length)(k:b<c)(e:c<(Zs n i).length){v:ZT}(g:Small v)(l:J5 v.1):XH (JD n v (Km n i b c st)):=by have h:=ZgP (n:=n) st f k e;obtain⟨_,_,m,j⟩:=Zeq a.sound h;have r:=Ze2 a.sound h;have o:=Gc j;have p:=a.time f e;exact⟨⟨Zln g.1 (by omega),Zln g.2 (by grind)⟩,l,by show 0<=(Zk n i c).2.1;omega,by show (Zk n i c).2.1<=_;omega⟩
structure LI (F:Z9) (hF:FO F) (n:Zg) (q:Zw) (l:ZB):Prop where
 val:LV F hF n q l
 cnt:((KL l.2.2.2.2.1).length:Int)+(if l.1.1=1 then 1 else 0)=l.2.2.1
 ht:l.2.2.2.2.2.1.length+hL n q l<=79
 zero:l.1.1=0->l.2.2.2.2.2.1=[]/\l.2.2.1=0/\l.2.2.2.1=0/\l.2.1=q.2.2.1
 kinds:l.1.1=0\/l.1.1=1\/l.1.1=2
 rgo:Ji n l.2.2.2.2.2.1 false []=(KL l.2.2.2.2.1++(if l.1.1=1 then [l.1.2.2.2.2.1] else []),0)
 rode:ZaQ false l.2.2.2.2.2.1=decide (l.1.1=1)
 wlk:Js l.2.2.2.2.2.1=l.2.2.2.1
 lok:∀x∈l.2.2.2.2.2.1,Zbs x
 last:∀L x,l.2.2.2.2.2.1=L++[x]->x.2.2.2.2.2.2.2.1=l.2.1
 some:l.1.1≠0->l.2.2.2.2.2.1≠ []
 adj:∀x,l.2.2.2.2.2.1=[x]->x.1=false->x.2.2.2.2.2.2.1<=x.2.2.2.2.2.2.2.1/\x.2.2.2.2.2.2.2.1<=x.2.2.2.2.2.2.1+14400/\YY x=false
theorem ZfI(j:QI q){l:ZB}(a:LI F hF n q l):LV F hF n q (ZR l)/\Ji n l.2.2.2.2.2.1 false []=(KL (ZR l).2.2.2.2.1,0)/\((KL (ZR l).2.2.2.2.1).length:Int)=l.2.2.1:=by
 have o:=a.val.rides;have m:=j.rides;have g:=a.cnt;have b:=a.rgo;unfold ZR;by_cases c:l.1.1=1
 ·rw[Zr c]at g b⊢;have f:(KL l.2.2.2.2.1).length+1<=8:=by omega
  have k:=a.val.next c f
  obtain⟨_,h,_⟩:=Zlz a.val c f;have e:KL (Yd l).2.2.2.2.1=KL l.2.2.2.2.1++[l.1.2.2.2.2.1]:=Dk h
  grind
 ·rw[Zf c]at g b⊢;rw[Vz]at b;exact⟨a.val,b,by omega⟩
theorem ZqX(L:List Z7)(d:Int)(rode:Bool)(out:List ZT)(h:∀x,L=[x]->x.1=false->YY x=false):Ji n (Yu L d) rode out=Ji n L rode out:=by
 match L with
 |[]=>rfl
 |[x]=>
  cases a:x.1 with
  |true=>rw[Zc4 a]
  |false=>
   have b:=h x rfl a;rw[Zc5 a,D1,D1]
   grind
 |x::y::L=>rfl
theorem Zkn(s:Whole n)(A:WB n){l x:ZB}(o:LI F hF n q l)(I:x∈GM n q l){p:ZB}{i b c:Nat}{st:Bool}{v:ZT}(j:i<n.2.2.1.length)(B:b<c)(g:c<(Zs n i).length)
 (ex:x=ZU n p i b c st v) (E:Zfa F hF p) (G:0<=p.2.2.1/\p.2.2.1<=q.2.2.2.2.1) (f:((KL p.2.2.2.2.1).length:Int)+1=p.2.2.1) (z:p.2.2.2.1=l.2.2.2.1) (r:Js p.2.2.2.2.2.1=l.2.2.2.1)
 (m:Ji n (p.2.2.2.2.2.1++[Km n i b c st]) false []=(KL p.2.2.2.2.1++[JD n v (Km n i b c st)],0)) (w:∀y∈p.2.2.2.2.2.1,Zbs y) (H:Small v) (C:J5 v.1):LI F hF n q x:=by
 have k:=s.ok;obtain⟨J,K⟩:=ZmC s A o.val I;have D:=o.ht;have M:=k.time j g;subst ex;have t:(ZU n p i b c st v).2.2.2.2.2.1.length<=79:=by omega
 refine⟨⟨E,by omega,G,by show 0<=p.2.2.2.1/\p.2.2.2.1<=_;rw[z];exact o.val.walk,⟨by show 0<=(Zk n i c).2.1;omega,by show (Zk n i c).2.1<=_;omega⟩,k.stop j g,fun _=>⟨i,c,rfl,rfl,j,g,rfl,rfl,Zcs k st j B g H C⟩,?_⟩,f,by omega,fun h=>absurd h (by show¬(1:Int)=0;decide),.inr (.inl rfl),m,?_,?_,?_,?_,by grind,?_⟩
 ·intro y a e;have:=Vva.1 (by assumption);rcases this with ⟨_,h⟩|⟨_,h⟩
  ·have:y=Km n i b c st:=(Vtb.1 h).symm;subst this;cases e
  grind
 ·exact Zkj _ _ _
 ·show Js (p.2.2.2.2.2.1++[Km n i b c st])=p.2.2.2.1;rw[ZhL,r,z]
  have:Js [Km n i b c st]=0:=by rfl
  omega
 ·intro y a;rcases Vi.1 (by assumption) with a|a
  ·grind
  ·rw[Vj]at a;subst a;show (Zk n i c).2.1<=_;omega
 ·intro L y a;have:=Vjb (show p.2.2.2.2.2.1++[Km n i b c st]=L++[y] from a) rfl;have:y=Km n i b c st:=by grind
  subst this;rfl
 ·intro y a e;rcases Vva.1 (by assumption) with ⟨_,h⟩|⟨_,h⟩
  ·have:y=Km n i b c st:=(Vtb.1 h).symm;subst this;cases e
  grind
theorem ZqQ(b:Jl n){l:ZB}(a:LV F hF n q l):l.2.1<=GC n q l:=by have:=b.change _ a.stop.1 a.stop.2;unfold GC chg;omega
theorem ZoH(b:Jl n){l:ZB}(e:LV F hF n q l){i c:Nat}(h:Rp n (ZR l) (GC n q l) i c):l.2.1<=(Zk n i c).2.2.1:=by
 have f:=ZqQ b e;have g:=(Zdn l).2.1;rcases h.2.2.2.2 with a|a
 all_goals omega
theorem ZrE(E:Whole n)(I:WB n)(hQ:QI q){l x:ZB}(b:LI F hF n q l)(H:x∈GM n q l):LI F hF n q x:=by
 have s:=E.ok;obtain⟨Q,X,c3⟩:=ZfI hQ b;obtain⟨s1,s2,W,P,s5⟩:=Zdn l;rcases RR.1 H with ⟨O,hs⟩|⟨_,hb⟩|⟨_,k2,hw⟩
 ·obtain⟨k,hk,⟨_,_,_,a0,D⟩,d,R,B,_,ex⟩:=ZgU.1 hs;obtain⟨r,d0,j,d',sy,he,hr,U,_⟩:=s.link _ hk;subst he;simp only[Vk]at*;obtain⟨_,_,_,_,_,_,_,_,o⟩:=b.val.kind O;have G:=b.rgo;have C:=b.rode;have A:=b.cnt;rw[Zr O]at G A;rw[Zi O]at C;refine Zkn E I b H U R B ex b.val.fare b.val.rides A rfl b.wlk ?_ b.lok o.1 o.2.1;rw[Zct G,C];exact ZqZ U R B _ _
 ·obtain⟨i,c,d,J,v,B,t,K,_,ex⟩:=Zcc.1 hb;have D:=ZoH s b.val t;have hc:c<(Zs n i).length:=by omega
  have ht:=s.time J hc;rw[W]at K;have a5:=b.val.rides
  have f:(Hi n (ZR l) i c).2.2.2.2.2.1=Yu l.2.2.2.2.2.1 (Zk n i c).2.2.1:=by
   show Yu (ZR l).2.2.2.2.2.1 _=_
   grind
  have N:∀y,l.2.2.2.2.2.1=[y]->y.1=false->YY y=false:=fun y S T=>(b.adj y S T).2.2;refine Zkn (p:=Hi n (ZR l) i c) E I b H J v B ex Q.fare ⟨?_,?_⟩ ?_ P ?_ ?_ ?_ (Zcf _) ⟨by show 0<=(Zk n i c).2.2.1;omega,by show (Zk n i c).2.2.1<=_;omega⟩
  ·show 0<=(ZR l).2.2.1+1;omega
  ·show (ZR l).2.2.1+1<=_;omega
  ·show ((KL (ZR l).2.2.2.2.1).length:Int)+1=(ZR l).2.2.1+1;omega
  ·rw[f, <-b.wlk]
   match hL:l.2.2.2.2.2.1 with
   |[]=>rfl
   |[y]=>
    cases a:y.1 with
    |true=>rw[Zc4 a]
    |false=>
     obtain⟨a1,a2,a3⟩:=b.adj y hL a
     obtain⟨Y,f2⟩:=b.val.first y hL a
     rw[Zc5 a];unfold Js D7;simp only[Vo,List.map_nil,Vp,List.sum_nil,a];have Z:0<=y.2.2.2.2.2.2.1:=Y.1
     grind
   |y::z::L=>rfl
  ·rw[f];have G:Ji n (Yu l.2.2.2.2.2.1 (Zk n i c).2.2.1) false []=(KL (ZR l).2.2.2.2.1,0):=by rw[ZqX _ _ _ _ N];omega
   rw[Zct G];exact ZqY s.sound J v B _ _
  ·rw[f];intro y a
   match hL:l.2.2.2.2.2.1 with
   |[]=>rw[hL]at a;cases a
   |[z]=>
    rw[hL]at a
    cases V:z.1 with
    |true=>
     rw[Zc4 V,Vj]at a;subst a
     exact b.lok _ (by grind)
    |false=>
     rw[Zc5 V,Vj]at a;subst a;show (Zk n i c).2.2.1<=_
     omega
   |z::w::L=>
    rw[hL]at a;exact b.lok _ (by rw[hL];assumption)
 ·obtain⟨p,hp,⟨w1,w2,w3⟩,ex⟩:=Zd8.1 hw;rw[P]at w2;rw[s2]at w3;rw[s1]at w1;obtain⟨S,T⟩:=ZmC E I b.val H;have a4:=b.ht;have M:=s.path p hp;have D:=b.val.time;have a6:=b.val.walk;subst ex
  have e:(JZ (ZR l) p).2.2.2.2.2.1=l.2.2.2.2.2.1++[WY l.1.2.1 p.2.1 l.2.1 (l.2.1+p.2.2.1)]:=by
   show (ZR l).2.2.2.2.2.1++[WY (ZR l).1.2.1 p.2.1 (ZR l).2.1 ((ZR l).2.1+p.2.2.1)]=_
   grind
  have m:(JZ (ZR l) p).2.1=l.2.1+p.2.2.1:=by show (ZR l).2.1+_=_;omega
  have g:∀y,(JZ (ZR l) p).2.2.2.2.2.1=[y]->y=WY l.1.2.1 p.2.1 l.2.1 (l.2.1+p.2.2.1):=by grind
  refine⟨⟨Q.fare,by omega,?_,?_,?_,M.2.1,fun h=>absurd h (by show¬(2:Int)=1;decide),?_⟩,?_,by omega,fun h=>absurd h (by show¬(2:Int)=0;decide),.inr (.inr rfl),?_,?_,?_,?_,?_,by grind,?_⟩
  ·show 0<=(ZR l).2.2.1/\(ZR l).2.2.1<=_;rw[W];exact b.val.rides
  ·show 0<=(ZR l).2.2.2.1+p.2.2.1/\(ZR l).2.2.2.1+p.2.2.1<=_;omega
  ·omega
  ·intro y a _;rw[g y a,m];exact⟨⟨by show 0<=l.2.1;omega,by show l.2.1<=_;omega⟩,rfl⟩
  ·show ((KL (ZR l).2.2.2.2.1).length:Int)+(if (2:Int)=1 then 1 else 0)=(ZR l).2.2.1
   omega
  ·rw[e,Zct X,Zq0]
   show _=(KL (ZR l).2.2.2.2.1++(if (2:Int)=1 then _ else []),(0:Int))
   simp
  ·rw[e,Zkj];rfl
  ·rw[e,ZhL,b.wlk];show _=(ZR l).2.2.2.1+p.2.2.1;rw[P]
   have:Js [WY l.1.2.1 p.2.1 l.2.1 (l.2.1+p.2.2.1)]=p.2.2.1:=by
    unfold Js D7 WY
    grind
   omega
  ·rw[e];intro y a;rcases Vi.1 a with a|a
   ·exact b.lok y a
   ·rw[Vj]at a;subst a;show l.2.1+p.2.2.1<=_;omega
  ·intro L y a;rw[e]at a;have:=Vjb a rfl;have:y=WY l.1.2.1 p.2.1 l.2.1 (l.2.1+p.2.2.1):=by grind
   subst this;rw[m];rfl
  ·intro y a _;rw[g y a];exact⟨by show l.2.1<=l.2.1+p.2.2.1;omega,by show l.2.1+p.2.2.1<=l.2.1+14400;omega,rfl⟩
end Q
namespace Q
open Tr Go
variable {F:Z9}{hF:FO F}{n:Zg}{q:Zw}
end Q
namespace Q
open Tr Go
variable {F:Z9}{hF:FO F}{n:Zg}{q:Zw}
inductive Rc (n:Zg) (q:Zw) (s0:ZB):ZB->Prop
 |start:Rc n q s0 s0
 |step {l x:ZB} (h:Rc n q s0 l) (hx:x∈GM n q l):Rc n q s0 x
theorem Rc.li(e:Whole n)(c:WB n)(b:QI q){s0 l:ZB}(a:LI F hF n q s0)(h:Rc n q s0 l):LI F hF n q l:=by
 induction h with
 |start=>exact a
 |step _ f g=>exact ZrE e c b g f
end Q
namespace Q
open Tr Go
def le4(a b:List Int):Prop:= ∀i,i<4->(a[i]?).getD 0<=(b[i]?).getD 0
instance (a b:List Int):Decidable (le4 a b):=by unfold le4;infer_instance
end Q
namespace Q
open Tr Go
variable {n:Zg}{q:Zw}
theorem ZsY{i:Nat}(a:i<n.2.2.1.length):rn (KS n q) (i:Int)=X0 n q (rn n (i:Int)):=by unfold rn;show ((n.2.2.1.map (X0 n q))[(i:Int).toNat]?).getD u0=_;rw[Vk,Vab,Va a];rfl
theorem ZoF{i:Nat}(a:i<n.2.2.1.length):Zs (KS n q) i=(Zs n i).map (XN n q):=by unfold Zs;rw[ZsY a];rfl
theorem Zt4(h:WB n):WB (KS n q):=by
 have b:(KS n q).2.2.1.length=n.2.2.1.length:=Vw ..;refine⟨h.stops,by rw[b];exact h.runs,?_,fun i a=>?_⟩
 ·show (Gb n q).length<=60;unfold Gb;split
  ·exact Vy (Vs _ _) h.paths
  ·exact h.paths
 ·rw[b]at a;rw[ZoF a,Vw];exact h.calls i a
def st0(F:Z9):Ww:=[(some F,(0,0,0,0,()),0,[0,0,0,0,0,0,0,0,0],())]
def W8(n:Zg)(q:Zw):ZB:=((0,q.1,0,0,(0,0,0,0,()),()),q.2.2.1,0,0,st0 n.2.2.2.2.2.1,[],())
theorem Zl7{F:Z9}(hF:FO F):Xn F hF [] (st0 F):=by
 refine .start ⟨rfl,fun i a=>?_⟩;have:i=0:=by simpa using a
 subst this;exact⟨0,rfl,by omega,by omega⟩
theorem Zrl(c:qB n.1.length q=true)(k:q.2.2.2.2.1<=3){hF:FO n.2.2.2.2.2.1} :LI n.2.2.2.2.2.1 hF n q (W8 n q):=by unfold qB at c;simp only[Vl,WC]at c;obtain⟨b,_,e,f,g,_⟩:=c;unfold Kz at b;rw[Vl,WC,WC]at b;refine⟨⟨⟨Zl7 hF,fun v j=>absurd j (by show¬v∈([]:List ZT);simp)⟩,by show ([]:List Z7).length<=80;simp,⟨Vga 0,f.1⟩,⟨Vga 0,g.1⟩,e,b,fun h=>absurd h (by show¬(0:Int)=1;decide),fun x a=>absurd a (by show¬ []=[x];simp)⟩,rfl,?_,fun _=>⟨rfl,rfl,rfl,rfl⟩,.inl rfl,rfl,rfl,rfl,fun x a=>absurd a (by show¬x∈([]:List Z7);simp),fun L x a=>absurd a (by show¬ []=L++[x];simp),fun h=>absurd rfl h,fun x a=>absurd a (by show¬ []=[x];simp)⟩;show 0+hL n q (W8 n q)<=79;have:hL n q (W8 n q)=20* (q.2.2.2.2.1 - 0).toNat+19:=rfl;omega
open Classical in
theorem ZrD(f:Hu n)(b:Whole n)(e:QI q){l:ZB}(a:LI n.2.2.2.2.2.1 (ZaL b.sound.fare) n q l):
 (∃s z t,F52 n q (l.2.2.2.2.2.1,())=some ((((l.2.2.2.2.2.1[0]?).map fun x=>x.2.2.2.2.2.2.1).getD q.2.2.1,z,l.2.2.1,s,Js l.2.2.2.2.2.1,()),t,0))\/ ∃c,F52 n q (l.2.2.2.2.2.1,())=some (c,[],34):=by
 obtain⟨j,g,c3⟩:=ZfI e a;have m:=a.val.rides;have k:=e.rides;have h:F125 n=some true:=by rw[ZhK f,Zi b]
 have:=Zre f b.sound h q (L:=l.2.2.2.2.2.1) (by have:=a.val.len;omega) a.lok g (by omega);rw[c3]at this;exact this
end Q
namespace Q
open Tr Go
variable {n:Zg}{q:Zw}
end Q
namespace Q
open Tr Go
variable {n:Zg}{q:Zw}{L:List Z7}{i:Nat}
end Q
namespace Q
open Tr Go
variable {n:Zg}{q:Zw}{L:List Z7}
end Q
namespace Q
open Tr Go
variable {n:Zg}{q:Zw}{L:List Z7}
structure Jt (n:Zg) (q:Zw):Prop where
 fit:Hu n
 few:Few n
 chk:Rr n q=0
 tin:WB n
 max:q.2.2.2.2.1<=3
theorem Jt.whole(h:Jt n q):Whole n:=(Zdi.1 h.chk).1
theorem Jt.qb(h:Jt n q):qB n.1.length q=true:=(Zdi.1 h.chk).2
theorem Jt.qnum(h:Jt n q):(0<=q.1/\q.1<(n.1.length:Int))/\(0<=q.2.1/\q.2.1<(n.1.length:Int))/\(0<=q.2.2.1/\q.2.2.1<=3155932800)/\0<=q.2.2.2.2.1/\(0<=q.2.2.2.2.2.1/\q.2.2.2.2.2.1<=86400)/\(q.2.2.2.1=true->q.2.2.2.2.2.2.2.2.2.1=false):=by
 have a:=h.qb;unfold qB at a;simp only[Vl,WC]at a;obtain⟨b,c,g,j,k,_,l⟩:=a;have e:=ZjY.1 b;have f:=ZjY.1 c
 grind
theorem Jt.qi(h:Jt n q):QI (KQ q):=⟨by show q.2.2.2.2.1<=7;have:=h.max;omega,h.qnum.2.2.2.2.1.2⟩
theorem Jt.wholeM(h:Jt n q):Whole (KS n q):=Znv q h.fit.paths h.whole
theorem Jt.tinM(h:Jt n q):WB (KS n q):=Zt4 h.tin
theorem Jt.li0(h:Jt n q):LI (KS n q).2.2.2.2.2.1 (ZaL h.wholeM.sound.fare) (KS n q) (KQ q) (W8 (KS n q) (KQ q)):=Zrl (n:=KS n q) (q:=KQ q) (ZsG h.qb) h.max
theorem Jt.li(h:Jt n q){l:ZB}(a:Rc (KS n q) (KQ q) (W8 (KS n q) (KQ q)) l):LI (KS n q).2.2.2.2.2.1 (ZaL h.wholeM.sound.fare) (KS n q) (KQ q) l:=a.li h.wholeM h.tinM h.qi h.li0
end Q
namespace Q
open Tr Go
variable {n:Zg}{q:Zw}
end Q
namespace Q
open Tr Go
def XS(o x:GV):Bool:=decide (o.1=x.1) && (decide (x.2.1<=o.2.1) && (decide (o.2.2.1<=x.2.2.1) && (decide (o.2.2.2.1<=x.2.2.2.1) &&decide (Tr.qandNot .u64 o.2.2.2.2.1 x.2.2.2.2.1=0))))
theorem ZsU(o x:GV):F28 o x=some (XS o x):=by
 unfold F28 XS;by_cases a:o.1=x.1
 case neg=>simp_all
 by_cases b:x.2.1<=o.2.1
 case neg=>simp [*]
 by_cases c3:o.2.2.1<=x.2.2.1
 case neg=>simp [*]
 by_cases c:o.2.2.2.1<=x.2.2.2.1
 all_goals simp [*]
theorem Zjl{a b:Int} :Tr.qandNot .u64 a b=0↔∀i,i<64->(Vu 64 a).getLsbD i=true->(Vu 64 b).getLsbD i=true:=by
 have e:Tr.qandNot .u64 a b=0↔(Vu 64 a &&& ~~~ Vu 64 b)=0#64:=by
  unfold Tr.qandNot;have c:=(Vu Vca.bits a &&& ~~~ Vu Vca.bits b).isLt;constructor
  ·intro h
   have f:(Vu Vca.bits a &&& ~~~ Vu Vca.bits b).toNat=0:=by generalize (Vu Vca.bits a &&& ~~~ Vu Vca.bits b).toNat=N at*;have c:N<2 ^ 64:=c;simp [Ve,Vrc,Voc]at h;omega
   apply BitVec.eq_of_toNat_eq
   assumption
  ·intro h
   have f:(Vu Vca.bits a &&& ~~~ Vu Vca.bits b).toNat=0:=by have:(Vu Vca.bits a &&& ~~~ Vu Vca.bits b)=0#64:=h;rw[this];rfl
   rw[f];rfl
 rw[e];constructor
 ·intro h i g j;have:=congrArg (fun v=>v.getLsbD i) h;simp only[Vub,Vvb,Vqb]at this
  grind
 ·intro h;apply BitVec.eq_of_getLsbD_eq;intro i g;have:=h i g;simp only[Vub,Vvb,Vqb]
  grind
theorem ZsS(o:GV):XS o o=true:=by unfold XS;rw[Zi (Zjl.2 fun _ _ h=>h)];simp
theorem ZsT{a b c:GV}(h:XS a b=true)(k:XS b c=true):XS a c=true:=by unfold XS at*;simp only[Vl,WC]at*;obtain⟨j,l,m,o,f⟩:=h;obtain⟨p,r,s,t,g⟩:=k;rw[Zjl]at*;exact⟨by omega,by omega,by omega,by omega,fun i e x=>g i e (f i e x)⟩
def HC(D a b c e f g:Int):Prop:=b<0\/(¬a<0/\ ¬b<a/\(D=0\/e=0\/a+D<=b\/(0<c/\g<=f)))
instance (D a b na nb ua ub:Int):Decidable (HC D a b na nb ua ub):=by unfold HC;infer_instance
theorem ZoT{D a b c e f g j l m:Int}(o:0<=D)(h:HC D a b e f j l)(k:HC D b c f g l m):HC D a c e g j m:=by unfold HC at*;omega
theorem ZoS{D a b c:Int}(e:0<=b):HC D a a b b c c:=by unfold HC;omega
def GK(s:Ww):Int:=match s with|x::_=>(x.2.2.2.1[x.2.2.1.toNat]?).getD (-1) |[]=> -1
def Gz(s:Ww):Int:=match s with|x::_=>x.2.2.1|[]=>0
def DG(s:Ww):Int:=match s with|x::_=>x.2.1.2.1|[]=>0
noncomputable def tkS(s:Ww):List GV:=(F26 s).getD []
noncomputable def G9(F:Z9)(s t:Ww):Bool:=decide (HC F.2.1 (GK s) (GK t) (Gz s) (Gz t) (DG s) (DG t)) && (tkS t).all fun x=>(tkS s).any fun o=>XS o x
theorem ZpZ{F:Z9}{s:Ww}(a:0<=Gz s):G9 F s s=true:=by unfold G9;rw[Zi (ZoS a),Vqc,Vfb];exact fun x b=>Vsa.2 ⟨x,b,ZsS x⟩
theorem Zp0{F:Z9}(g:0<=F.2.1){a b c:Ww}(h:G9 F a b=true)(k:G9 F b c=true):G9 F a c=true:=by unfold G9 at*;simp only[Vl,WC,Vfb,Vsa]at*;refine⟨ZoT g h.1 k.1,fun x m=>?_⟩;obtain⟨o,j,e⟩:=k.2 x m;obtain⟨p,l,f⟩:=h.2 o j;exact⟨p,l,ZsT f e⟩
theorem ZpO{F:Z9}(h:FO F){A B:List ZT}{s t:Ww}(W:Xn F h A s)(Z:Xn F h B t):F27 s t=some (decide (HC F.2.1 (GK s) (GK t) (Gz s) (Gz t) (DG s) (DG t))):=by
 obtain⟨j,f,z,rfl,⟨X,l⟩,Q,U⟩:=W.head;obtain⟨k,g,C,rfl,⟨Y,m⟩,R,V⟩:=Z.head;obtain⟨a,p,S⟩:=l A.length (Vt _);obtain⟨b,v,T⟩:=m B.length (Vt _)
 have x:idx f (A.length:Int)=some a:=by
  assumption
 have y:idx g (B.length:Int)=some b:=by
  assumption
 have hd:=h.heads.1;have O:GK ((some F,j,(A.length:Int),f,())::z)=a:=by show (f[((A.length:Int)).toNat]?).getD (-1)=a;rw[Vk,p];rfl
 have P:GK ((some F,k,(B.length:Int),g,())::C)=b:=by show (g[((B.length:Int)).toNat]?).getD (-1)=b;rw[Vk,v];rfl
 have J:Gz ((some F,j,(A.length:Int),f,())::z)=(A.length:Int):=rfl;have K:Gz ((some F,k,(B.length:Int),g,())::C)=(B.length:Int):=rfl;have M:DG ((some F,j,(A.length:Int),f,())::z)=j.2.1:=rfl;have N:DG ((some F,k,(B.length:Int),g,())::C)=k.2.1:=rfl;rw[O,P,J,K,M,N];unfold F27 HC;simp only[Tr.unc,Za,x,y];by_cases c:b<0
 ·rw[Zi c];simp [c]
 rw[Zv c,Ze];by_cases o:a<0
 ·simp_all
 rw[Zv o];simp only[Ze,Za];by_cases r:b<a
 ·simp_all
 rw[Zv r]
 have a8:a<=8000000:=by omega
 have w:Ve .i64 (a+F.2.1)=a+F.2.1:=Z1 (by omega) (by omega);simp only[Ze,w];by_cases E:F.2.1=0
 ·simp [*]
 rw[Zv E];by_cases D:(B.length:Int)=0
 ·simp_all
 rw[Zv D];by_cases c3:a+F.2.1<=b
 ·simp_all
 rw[Zv c3];by_cases H:(0:Int)<(A.length:Int)
 case neg=>simp_all
 rw[Zi H];simp only[Zc,Ze,Za];have I:0<A.length:=by omega
 have G:B≠ []:=by intro e;subst e;simp at D
 simp [*]
theorem Zp1{F:Z9}(h:FO F){A B:List ZT}{s t:Ww}(H:Xn F h A s)(I:Xn F h B t)(O:∀v∈A,XH v)(P:∀v∈B,XH v):F20 s t=some (G9 F s t):=by
 have E:=ZpO h H I;obtain⟨L,l,Q⟩:=Zmh h H O;obtain⟨M,m,R⟩:=Zmh h I P;obtain⟨V,X,ta,es,_⟩:=H.head;obtain⟨W,Y,tb,J,_⟩:=I.head;have e:F.1.length<=4096:=by have:=h.many;omega
 have C:Tr.unc s=some (some F,ta,V,(A.length:Int),X,()):=by rw[es];rfl
 have D:Tr.unc t=some (some F,tb,W,(B.length:Int),Y,()):=by rw[J];rfl
 have U:Vsc s=false:=by grind
 have nt:Vsc t=false:=by grind
 have Z:tkS s=L:=by unfold tkS;rw[l];rfl
 have tM:tkS t=M:=by unfold tkS;rw[m];rfl
 unfold F20 G9;rw[Z,tM];simp only[U,nt,Ze,C,D,Za,Ztr e,Vq,E]
 cases decide (HC F.2.1 (GK s) (GK t) (Gz s) (Gz t) (DG s) (DG t)) with
 |false=>simp
 |true=>
 simp only[Vq,Ze,l,m,Za,Vqc]
 refine WE (fun r:Unit ⊕ Bool=>r=if (M.all fun x=>L.any fun o=>XS o x)=true then .inl () else .inr false) ?_ ?_
 ·refine Wa M.length _ (fun i (s:Int)=>s=(i:Int)/\(M.take i).all (fun x=>L.any fun o=>XS o x)=true) ?_ ?_ _ (by simp)
  ·rintro i _ w ⟨rfl,z⟩;have S:idx M (i:Int)=some M[i]:=ZI w;simp only[ZV w,Zc,S,Za,Ka w (by omega)]
   have G:run (fun a:Bool×Int=>
    bif decide (a.2<(↑(Vg L):Int)) then
    Vf (idx L a.2) fun f=>
    Vf (bif a.1 then some true else Vf (F28 f M[i]) fun g=>some g) fun k=>
    some (.inl (k,Ve .i64 (a.2+(1:Int))))
    else some (.inr a.1)) (false,(0:Int))=some (L.any fun o=>XS o M[i]):=by
    obtain⟨r,K,N⟩:=Wa (step:=fun a:Bool×Int=>
     bif decide (a.2<(↑(Vg L):Int)) then
     Vf (idx L a.2) fun f=>
     Vf (bif a.1 then some true else Vf (F28 f M[i]) fun g=>some g) fun k=>
     some (.inl (k,Ve .i64 (a.2+(1:Int))))
     else some (.inr a.1)) L.length (fun r:Bool=>r=L.any fun o=>XS o M[i]) (fun j (s:Bool×Int)=>s.2=(j:Int)/\s.1=(L.take j).any fun o=>XS o M[i]) (by
      rintro j ⟨b,_⟩ y ⟨rfl,c⟩;left;have T:idx L (j:Int)=some L[j]:=ZI y;simp only at c;simp only[ZV y,Zc,T,Za,Ka y (by omega),ZsU];rw[Vh y,List.any_append];subst c
      cases c:(L.take j).any fun o=>XS o M[i] with
      |true=>exact⟨_,rfl,rfl,by simp⟩
      |false=>exact⟨_,rfl,rfl,by simp⟩) (by
      rintro ⟨b,_⟩ ⟨rfl,c⟩;rw[Vta]at c;exact⟨_,by simp only[J1,Ze],c⟩) (false,0) (by simp)
    rw[K,N]
   rw[G];simp only[Za]
   cases c:L.any fun o=>XS o M[i] with
   |false=>
    right;refine⟨_,rfl,?_⟩;rw[Zf];intro p;have:=Vfb.1 p M[i] (Vc w)
    rw[c]at this;cases this
   |true=>
    left;refine⟨_,rfl,rfl,?_⟩;rw[Vh w,List.all_append,z];simp [c]
  ·rintro _ ⟨rfl,z⟩;rw[Vta]at z;exact⟨_,by simp only[J1,Ze];rfl,by rw[Zr z]⟩
 ·rintro r rfl
  cases c:(M.all fun x=>L.any fun o=>XS o x) with
  |true=>rfl
  |false=>rfl
end Q
namespace Q
open Tr Go
abbrev ZW:=Int×Int×Int×Int×Int×Bool×Ww×List Z7×Unit
abbrev Zh0:=Option ZW×Int×Int×Bool×ZT×List Int×Unit
variable {F:Z9}{hF:FO F}{n:Zg}{q:Zw}
noncomputable def WW(F:Z9)(m u:ZW):Bool:=decide (m.2.1<=u.2.1) && (decide (m.2.2.1<=u.2.2.1) && (decide (m.2.2.2.1<=u.2.2.2.1) && (decide (m.2.2.2.2.1<=u.2.2.2.2.1) && ((m.2.2.2.2.2.1|| !u.2.2.2.2.2.1) &&G9 F m.2.2.2.2.2.2.1 u.2.2.2.2.2.2.1))))
structure Je (F:Z9) (hF:FO F) (n:Zg) (u:ZW):Prop where
 fare:Xn F hF (KL u.2.2.2.2.2.2.1) u.2.2.2.2.2.2.1
 rok:∀v∈KL u.2.2.2.2.2.2.1,XH v
 stop:0<=u.1/\u.1<(n.1.length:Int)
theorem Zdw{m u:ZW}(a:Je F hF n m)(b:Je F hF n u):Qn.cov m u=some (WW F m u):=by
 have c:=Zp1 hF a.fare b.fare a.rok b.rok;obtain⟨ms,e,k,g,l,j,f,h,⟨⟩⟩:=m;obtain⟨us,o,t,r,v,s,p,ul,⟨⟩⟩:=u;simp only at c;unfold Qn.cov Qn.F112 WW;simp only[Za]
 grind
theorem ZpC{A:List ZT}{s:Ww}(h:Xn F hF A s):0<=Gz s:=by obtain⟨r,a,t,rfl,_⟩:=h.head;show (0:Int)<=(A.length:Int);omega
theorem Zjk{u:ZW}(a:Je F hF n u):WW F u u=true:=by unfold WW;rw[ZpZ (ZpC a.fare)];simp
theorem ZpN(hF:FO F){a b c:ZW}(h:WW F a b=true)(k:WW F b c=true):WW F a c=true:=by
 have f:0<=F.2.1:=hF.heads.1.1;unfold WW at*;simp only[Vl,WC,Bool.or_eq_true,Bool.not_eq_true']at*;obtain⟨j,l,m,o,p,e⟩:=h;obtain⟨r,s,t,v,w,g⟩:=k;refine⟨by omega,by omega,by omega,by omega,?_,Zp0 f e g⟩
 grind
def DT(n:Zg):List (List Int):=(Vb n.2.2.1.length).map fun i:Nat=>((Vb n.2.2.2.1.length).filter fun k=>decide ((lk n k).1=(i:Int))).map fun k:Nat=>(k:Int)
def Jr(x:FX):List ZW:=x.2.2.2.2.1
def Xc(x:FX):List ZW:=x.2.2.2.2.2
def KA(x:FX):List (List ZW):=x.2.2.2.1
def Xz(x:FX)(s:Int):List ZW:=((KA x)[s.toNat]?).getD []
structure XC (F:Z9) (hF:FO F) (n:Zg) (q:Zw) (x:FX) (N:Nat):Prop where
 net:x.1=n
 que:x.2.1=q
 lnk:x.2.2.1=DT n
 rows:(KA x).length=n.1.length
 lab:(∀r∈KA x,∀y∈r,Je F hF n y)/\(∀y∈Jr x,Je F hF n y)/\ ∀y∈Xc x,Je F hF n y
 bag:∀(i:Nat) (r:List ZW),(KA x)[i]? =some r->(∀y∈r,y.1=(i:Int))/\r.length<=N
 cvd:(∀y∈Jr x,∃m∈Xz x y.1,WW F m y=true)/\ ∀y∈Xc x,∃m∈Xz x y.1,WW F m y=true
 few:(Jr x).length<=N/\(Xc x).length<=N
 fd:∀r∈KA x,∀y∈r,y.1=q.2.1->y∈Xc x
 to:∀y∈Xc x,y.1=q.2.1
def KU(F:Z9)(x:FX)(ls:List ZW)(a:FX):Prop:= ∃sub:List ZW,sub.length<=ls.length/\(∀o∈sub,o∈ls)/\Jr a=Jr x++sub/\Xc a=Xc x++sub.filter (fun y=>decide (y.1=x.2.1.2.1))/\(a.1=x.1/\a.2.1=x.2.1/\a.2.2.1=x.2.2.1/\(KA a).length=(KA x).length)/\
 (∀(i:Nat) (r:List ZW),(KA a)[i]? =some r->∃r0,(KA x)[i]? =some r0/\(∀y∈r,y∈r0\/(y∈sub/\y.1=(i:Int)))/\r.length<=r0.length+sub.length)/\(∀w:ZW->Nat,(sub.map w).sum<=(ls.map w).sum)/\
 (∀y:ZW,(∃m∈Xz x y.1,WW F m y=true)->∃m∈Xz a y.1,WW F m y=true)/\ ∀l∈ls,∃m∈Xz a l.1,WW F m l=true
theorem KU.nil(x:FX):KU F x [] x:=⟨[],by simp,by simp,by simp,by simp,⟨rfl,rfl,rfl,rfl⟩,by grind,by simp,fun _ h=>h,by simp⟩
theorem KU.trans{x c a:FX}{ls ms:List ZW}(h:KU F x ls c)(k:KU F c ms a):KU F x (ls++ms) a:=by
 obtain⟨M,O,P,Q,R,⟨g,j,m,p⟩,s,e,f,a12⟩:=h;obtain⟨N,S,T,U,V,⟨A,B,C,D⟩,E,t,v,z⟩:=k;refine⟨M++N,by grind,fun o Z=>?_,by grind,by grind,⟨A.trans g,B.trans j,C.trans m,D.trans p⟩,fun i r I=>?_,fun w=>?_,fun y J=>by simp [*],fun l b=>?_⟩
 ·grind
 ·obtain⟨K,G,W,c3⟩:=E i r I;obtain⟨r0,H,X,Y⟩:=s i K G;refine⟨r0,H,fun y J=>?_,by grind⟩
  grind
 ·grind
 ·rw[Vi]at b;rcases b with b|b
  all_goals simp [*]
theorem XC.adds{x v:FX}{N:Nat}{ls:List ZW}(h:XC F hF n q x N)(J:∀l∈ls,Je F hF n l)(k:KU F x ls v):XC F hF n q v (N+ls.length):=by
 obtain⟨sub,E,G,p,f,⟨z,A,B,C⟩,s,w,e,a12⟩:=k;have m:∀y∈sub,Je F hF n y:=by grind
 have K:x.2.1.2.1=q.2.1:=by rw[h.que]
 have c:∀y,y∈sub.filter (fun y=>decide (y.1=x.2.1.2.1))↔y∈sub/\y.1=q.2.1:=by grind
 refine⟨z.trans h.net,A.trans h.que,B.trans h.lnk,C.trans h.rows,⟨fun r j y a=>?_,fun y a=>?_,fun y a=>?_⟩,fun i r j=>?_,⟨fun y a=>?_,fun y a=>?_⟩,⟨?_,?_⟩,fun r j y a D=>?_,fun y a=>?_⟩
 ·obtain⟨i,t⟩:=Vaa j;obtain⟨r0,g,o,_⟩:=s i r t;rcases o y a with b|⟨b,_⟩
  ·exact h.lab.1 r0 (Vja g) y b
  grind
 ·rw[p,Vi]at a;exact a.elim (h.lab.2.1 y) (m y)
 ·rw[f,Vi,c]at a;exact a.elim (h.lab.2.2 y) (by grind)
 ·obtain⟨r0,g,o,c3⟩:=s i r j;obtain⟨H,I⟩:=h.bag i r0 g
  grind
 ·rw[p,Vi]at a;exact a.elim (fun b=>e y (h.cvd.1 y b)) (by grind)
 ·rw[f,Vi,c]at a;exact a.elim (fun b=>e y (h.cvd.2 y b)) (by grind)
 ·rw[p,Vm];have:=h.few.1;omega
 ·rw[f,Vm];have b:=h.few.2
  grind
 ·obtain⟨i,t⟩:=Vaa j;obtain⟨r0,g,o,_⟩:=s i r t;rw[f,Vi,c];rcases o y a with b|⟨b,_⟩
  ·exact .inl (h.fd r0 (Vja g) y b D)
  grind
 ·rw[f,Vi,c]at a;exact a.elim (h.to y) fun h=>h.2
theorem Zkf{x:FX}{N:Nat}(h:XC F hF n q x N){u:ZW}(k:Je F hF n u)(V:N+1<=549755813888):∃I,F106 x (some u)=some I/\KU F x [u] I:=by
 obtain⟨G,S⟩:=k.stop;have B:u.1.toNat<(KA x).length:=by rw[h.rows];omega
 have T:u.1=((u.1.toNat:Nat):Int):=by omega
 have j:Qn.rowAt x u=(KA x)[u.1.toNat]:=by
  show (((KA x)[u.1.toNat]?).getD [])=_
  grind
 obtain⟨K,M⟩:=h.bag u.1.toNat _ (Va B);have a:∀m∈(KA x)[u.1.toNat],Je F hF n m:=h.lab.1 _ (Vc B);have O:∀m∈(KA x)[u.1.toNat],Qn.covB m u=WW F m u:=fun m c=>by unfold Qn.covB;rw[Zdw (a m c) k];rfl
 have H:∀m∈(KA x)[u.1.toNat],Qn.covB u m=WW F u m:=fun m c=>by unfold Qn.covB;rw[Zdw k (a m c)];rfl
 have b:((Qn.rowAt x u).any fun m=>Qn.covB m u)=true↔∃m∈(KA x)[u.1.toNat],WW F m u=true:=by
  grind
 have t:Xz x u.1=(KA x)[u.1.toNat]:=by assumption
 have J:Qn.KeepC x u:=by
  refine⟨G,B,fun m c=>?_,?_,?_,?_,?_⟩
  ·rw[j]at c;rw[Zdw (a m c) k,Zdw k (a m c)];simp
  ·grind
  ·have:=h.few.1;show (Jr x).length+1<=_;omega
  ·have:=h.few.2;show (Xc x).length+1<=_;omega
  ·rw[b];by_cases w:∃m∈(KA x)[u.1.toNat],WW F m u=true
   ·grind
   ·right;intro f;apply w;simp only[Jz,Vi,List.mem_flatten]at f;rcases f with (⟨r,D,v⟩|v) |v
    ·obtain⟨i,p⟩:=Vaa D;have e:=(h.bag i r p).1 u v;have:i=u.1.toNat:=by omega
     subst this
     have E:(KA x)[u.1.toNat]=r:=by
      have U:(KA x)[u.1.toNat]? =some r:=p
      grind
     exact⟨u,by grind,Zjk k⟩
    ·rw[<-t];exact h.cvd.1 u v
    ·rw[<-t];exact h.cvd.2 u v
 have P:F106 x (some u)=some (Qn.keepZ x u):=by
  show Qn.keepF x (some u)=_;unfold Qn.keepF
  grind
 refine⟨_,P,?_⟩;unfold Qn.keepZ;by_cases w:∃m∈(KA x)[u.1.toNat],WW F m u=true
 ·rw[Zr (b.2 w)];refine⟨[],by simp,by simp,by simp,by simp,⟨rfl,rfl,rfl,rfl⟩,by grind,by simp,fun _ h=>h,fun l C=>?_⟩
  grind
 ·rw[Zf (by grind),j];have o:((KA x)[u.1.toNat]).filter (fun m=> !Qn.covB u m)=((KA x)[u.1.toNat]).filter fun m=> !WW F u m:=List.filter_congr (by grind);rw[o]
  have g:∀s:Int,((((KA x).set u.1.toNat (((KA x)[u.1.toNat]).filter (fun m=> !WW F u m)++[u]))[s.toNat]?).getD [])=if s.toNat=u.1.toNat then((KA x)[u.1.toNat]).filter (fun m=> !WW F u m)++[u] else Xz x s:=by
   intro s;by_cases e:s.toNat=u.1.toNat
   ·grind
   ·rw[Zf e,Vnb (by omega)];rfl
  have R:(decide (u.1=x.2.1.2.1))=true\/(decide (u.1=x.2.1.2.1))=false:=by grind
  refine⟨[u],by simp,by simp,rfl,?_,⟨rfl,rfl,rfl,by show (Vsb _ _ _).length=_;rw[Voa];rfl⟩,fun i r D=>?_,by simp,fun y ⟨m,c,A⟩=>?_,fun l C=>?_⟩
  ·show (if u.1=x.2.1.2.1 then Xc x++[u] else Xc x)=_
   grind
  ·have E:((KA x).set u.1.toNat (((KA x)[u.1.toNat]).filter (fun m=> !WW F u m)++[u]))[i]? =some r:=D;by_cases e:u.1.toNat=i
   all_goals grind
  ·show∃m∈(((KA x).set u.1.toNat (((KA x)[u.1.toNat]).filter (fun m=> !WW F u m)++[u]))[y.1.toNat]?).getD [],_;rw[g];by_cases e:y.1.toNat=u.1.toNat
   ·rw[Zr e]
    have Q:m∈(KA x)[u.1.toNat]:=by
     have:Xz x y.1=(KA x)[u.1.toNat]:=by unfold Xz;grind
     grind
    by_cases z:WW F u m=true
    ·exact⟨u,by simp,ZpN hF z A⟩
    grind
   grind
  ·rw[Vj]at C;subst C;show∃m∈(((KA x).set l.1.toNat (((KA x)[l.1.toNat]).filter (fun m=> !WW F l m)++[l]))[l.1.toNat]?).getD [],_;rw[g,Zr rfl];exact⟨l,by simp,Zjk k⟩
end Q
namespace Q
open Tr Go
variable {F:Z9}{hF:FO F}{n:Zg}{q:Zw}
theorem RD{i:Nat}(a:i<n.2.2.1.length):idx n.2.2.1 (i:Int)=some (rn n (i:Int)):=by
 rw[ZI a];unfold rn
 grind
theorem RC{i c:Nat}(a:c<(Zs n i).length):idx (rn n (i:Int)).2.2.2.2.2.2.2.1 (c:Int)=some (Zk n i c):=by
 have:idx (Zs n i) (c:Int)=some (Zk n i c):=by rw[ZI a,ZbG a]
 exact this
theorem Ry{β:Type}(f:Nat->List β)(i:Nat):(Vb (i+1)).flatMap f=(Vb i).flatMap f++f i:=by rw[Vib,Vla];simp
theorem Zqv{β:Type}(f:Nat->List β){i m:Nat}(h:i<=m):((Vb i).flatMap f).length<=((Vb m).flatMap f).length:=by
 induction m with
 |zero=>grind
 |succ m b=>
  rcases Nat.lt_or_ge m i with a|a
  ·grind
  ·rw[Ry,Vm];omega
theorem ZdR{α β:Type}(l:List α)(f:α->List β):l.flatMap f=(Vb l.length).flatMap fun i=>(l[i]?).elim [] f:=by
 have key:∀k,k<=l.length->(l.take k).flatMap f=(Vb k).flatMap fun i=>(l[i]?).elim [] f:=by
  intro k
  induction k with
  |zero=>simp
  |succ k a=>
   intro h;rw[Ry, <-a (by omega),Vh (by omega),Vla,Va (by omega)];simp
 grind
theorem Za5{σ τ:Type}{step:σ->Option (σ ⊕ τ)}{m:Nat}{g:Nat->List ZW}{x:FX}{N:Nat}(mk:Nat->FX->σ)(fin:FX->τ)(k:XC F hF n q x N)(o:∀i,i<m->∀l∈g i,Je F hF n l)(w:N+((Vb m).flatMap g).length<=549755813888)
 (b:∀i x N,i<m->XC F hF n q x N->N+(g i).length<=549755813888->∃a,step (mk i x)=some (.inl (mk (i+1) a))/\KU F x (g i) a)
 (e:∀x N,XC F hF n q x N->step (mk m x)=some (.inr (fin x))):∃a,run step (mk 0 x)=some (fin a)/\KU F x ((Vb m).flatMap g) a:=by
 have lab:∀i,i<=m->∀l∈(Vb i).flatMap g,Je F hF n l:=by
  grind
 obtain⟨r,h,a,rfl,j⟩:=Wa m (fun r=>∃a,r=fin a/\KU F x ((Vb m).flatMap g) a) (fun i s=>∃a,s=mk i a/\KU F x ((Vb i).flatMap g) a) (step:=step) (by
  rintro i _ t ⟨a,rfl,c⟩;left;have p:=k.adds (by grind) c;have f:=Zqv g (show i+1<=m by omega);rw[Ry,Vm]at f;obtain⟨v,h,j⟩:=b i a _ t p (by omega);refine⟨_,h,v,rfl,?_⟩;rw[Ry]
  exact c.trans j) (by
  rintro _ ⟨a,rfl,c⟩;exact⟨_,e a _ (k.adds (by grind) c),a,rfl,c⟩) _ ⟨x,rfl,KU.nil x⟩
 grind
noncomputable def GG(s:Ww):Bool:=decide (0<=GK s)
noncomputable def Kw(n:Zg)(l:ZB):ZW:=(l.1.2.1,l.2.1,(if l.1.1=1 then l.2.1+chg n l.1.2.1 else l.2.1),l.2.2.1,l.2.2.2.1,decide (l.1.1=1),(ZR l).2.2.2.2.1,l.2.2.2.2.2.1,())
noncomputable def YV(n:Zg)(l:ZB):List ZW:=if Hf n l=true/\GG (Yd l).2.2.2.2.1=true then [Kw n l] else []
def JV(y:ZW):ZB:=((0,0,0,0,(0,0,0,0,()),()),0,y.2.2.2.1+1,y.2.2.2.2.1,y.2.2.2.2.2.2.1,y.2.2.2.2.2.2.2.1,())
def WT(n:Zg)(i:Nat):List Nat:=(Vb n.2.2.2.1.length).filter fun k=>decide ((lk n k).1=(i:Int))
noncomputable def Hg(a:ZB->Nat->Nat->Bool->ZT->List ZW)(n:Zg)(q:Zw)(y:ZW)(j d:Nat):List ZW:=if y.2.2.2.1<q.2.2.2.2.1 then a (JV y) j d false (JO (Zk n j d).2.2.1) else []
noncomputable def HI(a:ZB->Nat->Nat->Bool->ZT->List ZW)(n:Zg)(q:Zw)(l:ZB)(x:HS):List ZW:=
 if x.2.1≠l.1.2.2.2.1\/(Zk n x.2.2.1.toNat x.2.2.2.1.toNat).2.2.1<l.2.1 then [] else
 if x.2.2.2.2.1=true then a l x.2.2.1.toNat x.2.2.2.1.toNat true l.1.2.2.2.2.1 else
 if YV n l≠ []/\(Zk n x.2.2.1.toNat x.2.2.2.1.toNat).2.2.2.1=true then Hg a n q (Kw n l) x.2.2.1.toNat x.2.2.2.1.toNat else []
noncomputable def RT(a:ZB->Nat->Nat->Bool->ZT->List ZW)(n:Zg)(q:Zw)(l:ZB):List ZW:=YV n l++(WT n l.1.2.2.1.toNat).flatMap fun k=>HI a n q l (lk n k)
noncomputable def W0(n:Zg)(q:Zw):Nat->ZB->Nat->Nat->Bool->ZT->List ZW
 |0,_,_,_,_,_=>[]
 |k+1,p,i,b,st,v=>if YP n i=true then [] else(Vb ((Zs n i).length - (b+1))).flatMap fun m=>RT (W0 n q k) n q (ZU n p i b (b+1+m) st v)
noncomputable def Hh(n:Zg)(q:Zw)(k:Nat)(y:ZW)(j d:Nat):List ZW:=Hg (W0 n q k) n q y j d
structure PB (F:Z9) (hF:FO F) (q:Zw) (p:ZB):Prop where
 fare:Zfa F hF p
 cnt:((KL p.2.2.2.2.1).length:Int)+1=p.2.2.1
 max:p.2.2.1<=q.2.2.2.2.1
 walk:0<=p.2.2.2.1/\p.2.2.2.1<=1000000
theorem Zsv{b:List ZT}{s:Ww}(p:Xn F hF b s):∃z,F21 s=some (z,GG s):=by
 obtain⟨t,c,v,rfl,⟨r,e⟩,k,o⟩:=p.head;obtain⟨a,l,m⟩:=e b.length (Vt _);have x:b.length<c.length:=by omega
 have f:idx c (b.length:Int)=some a:=by assumption
 have g:GK ((some F,t,(b.length:Int),c,())::v)=a:=by show (c[((b.length:Int)).toNat]?).getD (-1)=a;grind
 unfold GG;rw[g];unfold F21;simp only[Tr.unc,Vfc,Ze,Za,f];by_cases h:a<0
 ·simp_all
 ·rw[Zv h,Zi (show 0<=a by omega)];simp only[Ze];by_cases j:F.2.2.2.1=0
  ·simp_all
  ·rw[Zv j];by_cases w:a<F.2.2.2.1
   all_goals simp [*]
theorem ZjD{L:List Z7}(x:Z7)(h:L.length<=1000):F99 L x=some (L++[x]):=by
 unfold F99 F146 Tr.cloLegG;have c:(ZC:Nat)=549755813888:=rfl;have a:decide (Vg L<=ZC)=true:=by grind
 have b:decide (Vg L+Vg [x]<=ZC)=true:=by grind
 rw[a,Zc,Za,b];rfl
theorem Zrv(g:Jl n)(T:q.2.2.2.2.1<=3){x:FX}{N:Nat}(C:XC F hF n q x N){p:ZB}(j:PB F hF q p){KG:ZW}(t:KG.2.2.2.1+1=p.2.2.1)(y:KG.2.2.2.2.1=p.2.2.2.1)(A:KG.2.2.2.2.2.2.1=p.2.2.2.2.1)
 {i b c:Nat} (st:Bool) {v:ZT} (s:i<n.2.2.1.length) (D:b<c) (r:c<(Zs n i).length) (O:Small v) (H:J5 v.1) (z:Int×Int×Bool) (Q:List Int) (L:List Z7) (hL:L=p.2.2.2.2.2.1++[Km n i b c st]):
 F107 x (some KG,z.1,z.2.1,z.2.2,JD n v (Km n i b c st),Q,()) L (Zk n i c).1 (Zk n i c).2.1=some (x,if GG (Yd (ZU n p i b c st v)).2.2.2.2.1=true then some (Kw n (ZU n p i b c st v)) else none)/\
 Je F hF n (Kw n (ZU n p i b c st v)):=by
 have K:∀w∈KL p.2.2.2.2.1++[JD n v (Km n i b c st)],XH w:=fun w k=>by
  rw[Vi,Vj]at k;rcases k with k|rfl
  ·exact j.fare.2 w k
  ·exact Zcs g st s D r O H
 have G:=j.cnt;have I:=j.max;obtain⟨l,B,o⟩:=Zht hF j.fare.1 K (by omega);have e:HN p.2.2.2.2.1 (JD n v (Km n i b c st))=l:=by unfold HN;grind
 have m:(Yd (ZU n p i b c st v)).2.2.2.2.1=l:=e;have a:(ZR (ZU n p i b c st v)).2.2.2.2.1=l:=by assumption
 obtain⟨U,P⟩:=Zsv o;have f:=g.stop s r;have E:=g.change _ f.1 f.2;have M:=g.time s r;have h:idx x.1.1 (Zk n i c).1=some (YD n (Zk n i c).1):=by rw[C.net];exact(ZtP g.sound f.1 f.2).1
 constructor
 ·unfold F107;simp only[Za,A,B,decide_true,Vq,Ze,P,m]
  cases J:GG l with
  |false=>rfl
  |true=>
   simp only[Vq,Ze,h,Za,Zr];have R:Ve .i64 ((Zk n i c).2.1+(YD n (Zk n i c).1).2.2.2.1)=(Zk n i c).2.1+(YD n (Zk n i c).1).2.2.2.1:=Z1 (by omega) (by omega);have S:Ve .i64 (KG.2.2.2.1+1)=p.2.2.1:=by rw[t];exact Z1 (by omega) (by omega)
   rw[R,S,y];unfold Kw;rw[a,Zr (by rfl),hL];rfl
 ·refine⟨?_,?_,f⟩
  ·show Xn F hF (KL (ZR (ZU n p i b c st v)).2.2.2.2.1) (ZR (ZU n p i b c st v)).2.2.2.2.1;rw[a,Dk o];omega
  ·show∀w∈KL (ZR (ZU n p i b c st v)).2.2.2.2.1,XH w;rw[a,Dk o];omega
end Q
namespace Q
open Tr Go
variable {F:Z9}{hF:FO F}{n:Zg}{q:Zw}
theorem ZpG{l:List Int}{a:Int}(h:∀r∈l,a≠r)(c:l.length<=1000):F151 l a=some false:=by
 unfold F151
 have:F157 l a=some (-1):=by
  unfold F157;refine WE (fun r:Unit ⊕ Int=>r=.inl ()) ?_ ?_
  ·refine Wa l.length _ (fun k (s:Int)=>s=(k:Int)) ?_ ?_ _ rfl
   ·rintro k _ b rfl;left;refine⟨_,?_,rfl⟩;rw[ZV b,Zc,ZI b,Za,Zv (by grind),Ze,Ka b (by omega)]
   simp
  simp
 grind
theorem PB.stay{p:ZB}(h:PB F hF q p)(i b c:Nat)(st:Bool)(v:ZT):PB F hF q (ZU n p i b c st v):=⟨h.fare,h.cnt,h.max,h.walk⟩
theorem Zi1(j:Jl n)(A:q.2.2.2.2.1<=3){p:ZB}(a:PB F hF q p){i b c:Nat}{st:Bool}{v:ZT}(r:i<n.2.2.1.length)(k:b<c)(l:c<(Zs n i).length)(x:Small v)(o:J5 v.1):
 Xn F hF (KL p.2.2.2.2.1++[JD n v (Km n i b c st)]) (ZR (ZU n p i b c st v)).2.2.2.2.1/\ ∀w∈KL p.2.2.2.2.1++[JD n v (Km n i b c st)],XH w:=by
 have t:∀w∈KL p.2.2.2.2.1++[JD n v (Km n i b c st)],XH w:=fun w f=>by
  rw[Vi,Vj]at f;rcases f with f|rfl
  ·exact a.fare.2 w f
  ·exact Zcs j st r k l x o
 have m:=a.cnt;have s:=a.max;obtain⟨h,y,z⟩:=Zht hF a.fare.1 t (by omega);have e:HN p.2.2.2.2.1 (JD n v (Km n i b c st))=h:=by unfold HN;grind
 have g:(ZR (ZU n p i b c st v)).2.2.2.2.1=h:=by assumption
 grind
theorem PB.beg(g:Jl n)(f:q.2.2.2.2.1<=3){p:ZB}(e:PB F hF q p){i b c:Nat}{st:Bool}{v:ZT}(l:i<n.2.2.1.length)(h:b<c)(j:c<(Zs n i).length)(r:Small v)(k:J5 v.1)(m:(Kw n (ZU n p i b c st v)).2.2.2.1<q.2.2.2.2.1):PB F hF q (JV (Kw n (ZU n p i b c st v))):=by
 obtain⟨a,s⟩:=Zi1 (st:=st) g f e l h j r k;have o:p.2.2.1<q.2.2.2.2.1:=m;refine⟨⟨?_,?_⟩,?_,?_,e.walk⟩
 ·show Xn F hF (KL (ZR (ZU n p i b c st v)).2.2.2.2.1) (ZR (ZU n p i b c st v)).2.2.2.2.1;rw[Dk a];omega
 ·show∀w∈KL (ZR (ZU n p i b c st v)).2.2.2.2.1,XH w;rw[Dk a];omega
 ·show ((KL (ZR (ZU n p i b c st v)).2.2.2.2.1).length:Int)+1=p.2.2.1+1;rw[Dk a,Vm,Vx];have:=e.cnt;omega
 assumption
theorem Zcd{i k:Nat}(h:k∈WT n i):k<n.2.2.2.1.length/\(lk n k).1=(i:Int)/\lk n k∈n.2.2.2.1:=by
 unfold WT at h;rw[Vba,Vr]at h;refine⟨h.1,J9 h.2,?_⟩;unfold lk
 grind
theorem RP(p:Jl n){i k:Nat}(h:k∈WT n i):∃(c j d:Nat) (st:Bool),lk n k=((i:Int),(c:Int),(j:Int),(d:Int),st,())/\j<n.2.2.1.length/\i≠j/\c<(Zs n i).length/\d<(Zs n j).length/\(Zk n i c).1=(Zk n j d).1/\(st=true->c+1=(Zs n i).length/\d=0)/\isLink n i c j d st:=by
 obtain⟨_,t,o⟩:=Zcd h;obtain⟨r,c,j,d,st,e,s,a,b,f,g,l,m⟩:=p.link _ o
 have:r=i:=by
  grind
 subst this;exact⟨c,j,d,st,e,a,b,f,g,l,m,by unfold isLink;grind⟩
theorem Zg0{l:ZB}{y:ZW}(h:y∈YV n l):y=Kw n l/\Hf n l=true/\GG (Yd l).2.2.2.2.1=true:=by
 unfold YV at h
 grind
theorem Zbd(c:Jl n)(h:q.2.2.2.2.1<=3):∀(K:Nat) (p:ZB) (i b:Nat) (st:Bool) (v:ZT),PB F hF q p->i<n.2.2.1.length->Small v->J5 v.1->∀y∈W0 n q K p i b st v,Je F hF n y
 |0,p,i,b,st,v,_,_,_,_,y,a=>by unfold W0 at a;grind
 |K+1,p,i,b,st,v,A,o,B,r,y,a=>by
  unfold W0 at a;split at a
  ·grind
  obtain⟨m,H,a⟩:=Vd.1 a;rw[Vr]at H;have f:b<b+1+m:=by omega
  have l:b+1+m<(Zs n i).length:=by omega
  have g:=Zcs c st o f l B r;unfold RT at a;rw[Vi]at a;rcases a with a|a
  ·obtain⟨rfl,_⟩:=Zg0 a;obtain⟨C,M⟩:=Zi1 (st:=st) c h A o f l B r;refine⟨?_,?_,c.stop o l⟩
   ·show Xn F hF (KL (ZR (ZU n p i b (b+1+m) st v)).2.2.2.2.1) (ZR (ZU n p i b (b+1+m) st v)).2.2.2.2.1;rw[Dk C];omega
   ·show∀w∈KL (ZR (ZU n p i b (b+1+m) st v)).2.2.2.2.1,XH w;rw[Dk C];omega
  ·obtain⟨k,G,a⟩:=Vd.1 a;have x:k∈WT n i:=G;obtain⟨J,j,d,I,e,t,E,D,s,_⟩:=RP c x;unfold HI at a;rw[e]at a;simp only[Vk]at a;split at a
   ·grind
   split at a
   ·exact Zbd c h K _ j d true _ (A.stay i b (b+1+m) st v) t g.1 g.2.1 y a
   split at a
   ·unfold Hg at a;split at a
    ·rename_i z;have N:=c.time t s;exact Zbd c h K _ j d false _ (A.beg c h o f l B r z) t (Zcf _) ⟨by show 0<=(Zk n j d).2.2.1;omega,by show (Zk n j d).2.2.1<=_;omega⟩ y a
    grind
   grind
end Q
namespace Q
open Tr Go
variable {F:Z9}{hF:FO F}{n:Zg}{q:Zw}
theorem ZiG{α:Type}{o:Option α}{P:α->Prop}(h:∃x,o=some x/\P x):∃x,(Vf o fun x=>some x)=some x/\P x:=by
 grind
noncomputable def RB(n:Zg)(q:Zw)(p:ZB)(i:Nat):Nat:=8*Jg q p+WG n i
def ZcX(F:Z9)(hF:FO F)(n:Zg)(q:Zw)(K:Nat):Prop:= ∀(x:FX) (N:Nat) (p:ZB) (i b:Nat) (st:Bool) (v:ZT) (a:List Int) (KG:ZW),
 XC F hF n q x N->PB F hF q p->KG.2.2.2.1+1=p.2.2.1->KG.2.2.2.2.1=p.2.2.2.1->KG.2.2.2.2.2.2.1=p.2.2.2.2.1->KG.2.2.2.2.2.2.2.1=p.2.2.2.2.2.1->p.2.2.2.2.2.1.length+K<=300->i<n.2.2.1.length->b<(Zs n i).length->Small v->J5 v.1->
 a.length+K<=300->(∀r∈a,XF n r (i:Int))->RB n q p i<K->N+(W0 n q K p i b st v).length<=549755813888->
 ∃c,F111 K x (some KG,(i:Int),(b:Int),st,v,a,())=some c/\KU F x (W0 n q K p i b st v) c
theorem ZrM{i:Nat}(a:i<n.2.2.1.length):idx (DT n) (i:Int)=some ((WT n i).map fun k:Nat=>(k:Int)):=by
 unfold DT;have h:i<((Vb n.2.2.1.length).map fun i:Nat=>((Vb n.2.2.2.1.length).filter fun k=>decide ((lk n k).1=(i:Int))).map fun k:Nat=>(k:Int)).length:=by grind
 rw[ZI h,Vjc,List.getElem_range];rfl
theorem ZiF(l:Jl n){K:Nat}(r:ZcX F hF n q K){x:FX}{N:Nat}(c:XC F hF n q x N){y:ZW}(p:y.2.2.2.1<q.2.2.2.2.1->PB F hF q (JV y))(o:y.2.2.2.2.2.2.2.1.length+K<=300)(t:K<=300){j d:Nat}(f:j<n.2.2.1.length)(e:d<(Zs n j).length)
 (m:y.2.2.2.1<q.2.2.2.2.1->RB n q (JV y) j<K) (g:N+(Hg (W0 n q K) n q y j d).length<=549755813888):
 ∃b,F101 (F111 K) x (some y) (j:Int) (d:Int)=some b/\KU F x (Hg (W0 n q K) n q y j d) b:=by
 unfold F101 Hg at*;simp only[Za,c.net,c.que,RD f,RC e];by_cases a:y.2.2.2.1<q.2.2.2.2.1
 ·rw[Zr a]at g⊢;rw[Zi a,Zc];have v:=l.time f e;obtain⟨b,h,s⟩:=r x N (JV y) j d false (JO (Zk n j d).2.2.1) [] y c (p a) rfl rfl rfl rfl o f e (Zcf _) ⟨by show 0<=(Zk n j d).2.2.1;omega,by show (Zk n j d).2.2.1<=_;omega⟩ (by grind) (by simp) (m a) g;have k:F111 K x (some y,(j:Int),(d:Int),false,((Zk n j d).2.2.1,(0:Int),(0:Int),(0:Int),()),([]:List Int),())=some b:=h
  grind
 ·rw[Zf a,Zv a,Ze];exact⟨x,rfl,KU.nil x⟩
theorem Zso(R:Whole n)(hT:WB n)(Q:q.2.2.2.2.1<=3){K:Nat}(ih:ZcX F hF n q K){x:FX}{N:Nat}(Z:XC F hF n q x N){p:ZB}(U:PB F hF q p){KG:ZW}(e1:KG.2.2.2.1+1=p.2.2.1)(e2:KG.2.2.2.2.1=p.2.2.2.1)(e3:KG.2.2.2.2.2.2.1=p.2.2.2.2.1)
 (a7:p.2.2.2.2.2.1.length+(K+1)<=300) {i b c:Nat} (st sx:Bool) {v:ZT} (I:i<n.2.2.1.length) (hb:b<c) (S:c<(Zs n i).length) (hv:Small v) (hd:J5 v.1) (bb:Int) {W:List Int} (b0:W.length+(K+1)<=300) (hR:∀r∈W,XF n r (i:Int)) (hh:RB n q p i<K+1)
 {L:List Z7} (hL:L=p.2.2.2.2.2.1++[Km n i b c st]) {out:Option ZW} (T:out=if Hf n (ZU n p i b c st v)=true/\GG (Yd (ZU n p i b c st v)).2.2.2.2.1=true then some (Kw n (ZU n p i b c st v)) else none)
 (hM:N+((WT n i).flatMap fun k=>HI (W0 n q K) n q (ZU n p i b c st v) (lk n k)).length<=549755813888):
 ∃E,F102 (F111 K) x (some KG,(i:Int),bb,sx,JD n v (Km n i b c st),W++[(i:Int)],()) (c:Int) L out=some E/\KU F x ((WT n i).flatMap fun k=>HI (W0 n q K) n q (ZU n p i b c st v) (lk n k)) E:=by
 have l:=R.ok;have t:=Zcs l st I hb S hv hd
 have a3:(WT n i).length<=1024:=by have P:(WT n i).length<=(Vb n.2.2.2.1.length).length:=Vs _ _;rw[List.length_range]at P;have:=R.v;omega
 have O:idx x.2.2.1 (i:Int)=some ((WT n i).map fun k:Nat=>(k:Int)):=by rw[Z.lnk];exact ZrM I
 rw[ZdR]at hM⊢;unfold F102;simp only[Z.net,RD I,Za,RC S,O,Vw];refine ZiG (Za5 (F:=F) (hF:=hF) (n:=n) (q:=q) (fun k x=>(x,(k:Int))) (fun x=>x) Z ?_ hM ?_ ?_)
 ·intro m o y hy;rw[Va o]at hy;have f:y∈HI (W0 n q K) n q (ZU n p i b c st v) (lk n (WT n i)[m]):=hy
  have b2:y∈W0 n q (K+1) p i b st v\/YP n i=true:=by
   by_cases a1:YP n i=true
   ·grind
   left;unfold W0;rw[Zf a1];refine Vd.2 ⟨c - (b+1),by grind,?_⟩;rw[show b+1+(c - (b+1))=c by omega];unfold RT;refine List.mem_append_right _ (Vd.2 ⟨_,Vc o,f⟩)
  obtain⟨G,j,d,D,e,A,a2,a0,g,_⟩:=RP l (Vc o);unfold HI at f;rw[e]at f;simp only[Vk]at f;split at f
  ·grind
  split at f
  ·exact Zbd l Q K _ j d true _ (U.stay i b c st v) A t.1 t.2.1 y f
  split at f
  ·unfold Hg at f;split at f
   ·rename_i B;have ht:=l.time A g;exact Zbd l Q K _ j d false _ (U.beg l Q I hb S hv hd B) A (Zcf _) ⟨by show 0<=(Zk n j d).2.2.1;omega,by show (Zk n j d).2.2.1<=_;omega⟩ y f
   grind
  grind
 ·intro m s M o z H;rw[Va o]at H⊢;have a:M+(HI (W0 n q K) n q (ZU n p i b c st v) (lk n (WT n i)[m])).length<=549755813888:=H;show∃E,_/\KU F s (HI (W0 n q K) n q (ZU n p i b c st v) (lk n (WT n i)[m])) E;have w:=Zcd (Vc o);obtain⟨G,j,d,D,e,A,a2,a0,g,a4,b1,J⟩:=RP l (Vc o)
  have a5:idx ((WT n i).map fun k:Nat=>(k:Int)) (m:Int)=some (((WT n i)[m]:Nat):Int):=by rw[ZI (by grind),Vjc]
  have a6:idx n.2.2.2.1 (((WT n i)[m]:Nat):Int)=some ((i:Int),(G:Int),(j:Int),(d:Int),D,()):=by
   have hl:lk n (WT n i)[m]=n.2.2.2.1[(WT n i)[m]]'(w.1):=by unfold lk;grind
   rw[ZI w.1, <-hl,e]
  simp only[ZV o,Zc,a5,Za,z.net,a6,RD A,RC g,Ka o (by omega)];unfold HI at a⊢;rw[e]at a⊢;simp only[Vk]at a⊢;have X:(ZU n p i b c st v).1.2.2.2.1=(c:Int):=rfl;have Y:(ZU n p i b c st v).2.1=(Zk n i c).2.1:=rfl;rw[X,Y]at a⊢;by_cases k1:(G:Int)≠(c:Int)\/(Zk n j d).2.2.1<(Zk n i c).2.1
  ·rw[Zr k1]
   have:(bif !decide ((G:Int)=(c:Int)) then some true else some (decide ((Zk n j d).2.2.1<(Zk n i c).2.1)))=some true:=by
    grind
   rw[this];exact⟨s,rfl,KU.nil s⟩
  rw[Zf k1]at a⊢
  have k2:(G:Int)=(c:Int):=by omega
  have k3:¬(Zk n j d).2.2.1<(Zk n i c).2.1:=by omega
  rw[Zi k2,Zv k3];simp only[Vq,Ze,Za]
  cases D with
  |true=>
   rw[Zr rfl]at a⊢;simp only[Zc];have C:=Zhv R J;have a9:=Zhf R (show j<7 by have:=hT.runs;omega) C
   obtain⟨E,P,h2⟩:=ih s M (ZU n p i b c st v) j d true (JD n v (Km n i b c st)) (W++[(i:Int)]) (KG.1,KG.2.1,KG.2.2.1,KG.2.2.2.1,KG.2.2.2.2.1,KG.2.2.2.2.2.1,KG.2.2.2.2.2.2.1,L,KG.2.2.2.2.2.2.2.2) z (U.stay i b c st v) e1 e2 e3 hL
    (by show (p.2.2.2.2.2.1++[Km n i b c st]).length+K<=300;grind) A g t.1 t.2.1 (by grind) (fun r V=>by
      rw[Vi,Vj]at V;rcases V with V|rfl
      ·exact(hR r V).trans (.one C)
      ·exact .one C) (by unfold RB at hh⊢;have:Jg q (ZU n p i b c st v)=Jg q p:=rfl;omega) a
   rw[P]
   exact⟨E,rfl,h2⟩
  |false=>
   rw[Zf (by simp)]at a⊢;simp only[Ze];by_cases k4:Hf n (ZU n p i b c st v)=true/\GG (Yd (ZU n p i b c st v)).2.2.2.2.1=true
   ·rw[Zr k4]at T;have h:YV n (ZU n p i b c st v)≠ []:=by unfold YV;grind
    subst T;simp only[Vwb,Vqa,Zc,Za]
    cases k5:(Zk n j d).2.2.2.1 with
    |false=>
     rw[Zf (by simp)]
     exact⟨s,rfl,KU.nil s⟩
    |true=>
     rw[Zr ⟨h,k5⟩]at a;rw[Zr ⟨h,rfl⟩];simp only[Zc]
     obtain⟨E,P,h2⟩:=ZiF l ih z (y:=Kw n (ZU n p i b c st v)) (U.beg l Q I hb S hv hd) (by show (p.2.2.2.2.2.1++[Km n i b c st]).length+K<=300;grind) (by omega) A g (fun B=>by have a8:p.2.2.1<q.2.2.2.2.1:=B;unfold RB at hh⊢;have e5:Jg q (JV (Kw n (ZU n p i b c st v)))=(q.2.2.2.2.1 - (p.2.2.1+1)).toNat:=rfl;have e6:Jg q p=(q.2.2.2.2.1 - p.2.2.1).toNat:=rfl;have:=Zhe (n:=n) j;omega) a
     grind
   ·rw[Zf k4]at T;subst T;have h:YV n (ZU n p i b c st v)=[]:=by unfold YV;grind
    rw[Zf (by grind)];exact⟨s,rfl,KU.nil s⟩
 simp
end Q
namespace Q
open Tr Go
variable {F:Z9}{hF:FO F}{n:Zg}{q:Zw}
theorem Zmj(hW:Whole n)(hT:WB n)(h3:q.2.2.2.2.1<=3):∀K,ZcX F hF n q K
 |0=>fun _ _ _ _ _ _ _ _ _ _ _ _ _ _ _ _ _ _ _ _ _ _ hh _=>absurd hh (by omega)
 |K+1=>by
  intro x N p i b a v C KG hG hp e1 e2 e3 e4 c9 J hb U hd d2 hR hh hM;have ih:ZcX F hF n q K:=Zmj hW hT h3 K;have E:=hW.ok;have b8:=E.sound.many _ (Vc J);have b5:(Zs n i).length<=32:=by rw[Zdg J];omega
  have e:∀c∈Zs n i,0<=c.1/\c.1<(n.1.length:Int):=by rw[Zdg J];exact E.sound.call _ (Vc J)
  have a1:∀c,(D2 n (Km n i b c a))=(n.2.1[(rn n (i:Int)).2.2.2.2.1.toNat]?).getD DZ:=fun _=>rfl
  obtain⟨j,a0,H⟩:idx n.2.1 (rn n (i:Int)).2.2.2.2.1=some ((n.2.1[(rn n (i:Int)).2.2.2.2.1.toNat]?).getD DZ)/\0<=((n.2.1[(rn n (i:Int)).2.2.2.2.1.toNat]?).getD DZ).2.1/\((n.2.1[(rn n (i:Int)).2.2.2.2.1.toNat]?).getD DZ).2.1<16:=by
   have hm:rn n (i:Int)∈n.2.2.1:=by unfold rn;grind
   have h1:=E.sound.route _ hm;have b3:Kz (rn n (i:Int)).2.2.2.2.1 n.2.1.length=true:=by unfold Kz;grind
   refine⟨Xu b3 DZ,?_⟩;have hl:(rn n (i:Int)).2.2.2.2.1.toNat<n.2.1.length:=by omega
   rw[Kr hl];have:=E.sound.mode _ (Vc hl);omega
  generalize d1:(n.2.1[(rn n (i:Int)).2.2.2.2.1.toNat]?).getD DZ=R at j a0 H a1;obtain⟨d3,c2,a4⟩:=ZeC E.sound (e _ (Vc hb)).1 (by grind);obtain⟨⟨z,hz⟩,d6⟩:(∃z:Nat,v.2.2.1=(z:Int))/\v.2.2.1<65536:=⟨⟨_,(Vrb U.1.1).symm⟩,U.1.2⟩;obtain⟨⟨m,hm⟩,d5⟩:(∃z:Nat,v.2.2.2.1=(z:Int))/\v.2.2.2.1<65536:=⟨⟨_,(Vrb U.2.1).symm⟩,U.2.2⟩;have d4:∀k,b+k<=(Zs n i).length->zN n (Zs n i) b k<65536:=fun k hk=>ZeV E.sound e k (by omega)
  have a6:zN n (Zs n i) b 1=2 ^ (Gi n (Zs n i)[b].1).2.1.toNat:=by show zN n (Zs n i) b 0 ||| zn n (Zs n i) (b+0)=_;unfold zn;rw[Vcc,Kr hb];show 0 ||| _=_;simp
  have d0:Zk n i b=(Zs n i)[b]:=ZbG hb;have a5:idx n.1 (Zk n i b).1=some (Gi n (Zs n i)[b].1):=by grind
  have P:F151 C (i:Int)=some false:=ZpG (fun r hr h=>XF.irr hW (h▸hR r hr)) (by omega)
  have X:F148 C=some C:=by unfold F148 Tr.cloIntG;have b7:(ZC:Nat)=549755813888:=rfl;rw[Zi (by omega)];rfl
  have b2:Zy (decide (C.length+Vg [(i:Int)]<=ZC))=some ():=by have b7:(ZC:Nat)=549755813888:=rfl;rw[Zi (by simp only[Vx];omega)];rfl
  unfold W0 at hM⊢;show∃x',F110 (F111 K) x (some KG,(i:Int),(b:Int),a,v,C,())=some x' /\_;unfold F110;simp only[hG.net,RD J,Za,P];by_cases A:YP n i=true
  ·rw[Zr A];have B:(rn n (i:Int)).2.2.2.2.2.2.1=true:=A;rw[B];exact⟨x,rfl,KU.nil x⟩
  rw[Zf A]at hM⊢
  have B:(rn n (i:Int)).2.2.2.2.2.2.1=false:=by
   cases h:(rn n (i:Int)).2.2.2.2.2.2.1 with
   |true=>exact absurd h A
   |false=>rfl
  rw[B];simp only[Ze,Za,X,b2,RC hb,j,Zhq a0 H,a5,Zhq c2 a4];rw[hz,hm,DY (by omega) (Gc a4),DY (by omega) (Gc H), <-a6];have c4:Ve .i64 ((b:Int)+1)=((b+1:Nat):Int):=by rw[Z1 (by omega) (by omega)];omega
  rw[c4]
  refine ZiG (Za5 (F:=F) (hF:=hF) (n:=n) (q:=q) (m:=(Zs n i).length - (b+1)) (g:=fun k=>RT (W0 n q K) n q (ZU n p i b (b+1+k) a v)) (x:=x) (N:=N)
   (fun k s=>(s,((some KG,(i:Int),(b:Int),a,(v.1,(if k=0 then v.2.1 else(Zk n i (b+k)).2.1),((z ||| zN n (Zs n i) b (k+1):Nat):Int),((m ||| 2 ^ R.2.1.toNat:Nat):Int),v.2.2.2.2),C++[(i:Int)],()):Zh0),((b+1+k:Nat):Int))) (fun s=>s) hG ?hlab hM ?hstep ?hend)
  case hlab=>
   intro k hk y hy;refine Zbd E h3 (K+1) p i b a v hp J U hd y ?_;unfold W0;rw[Zf A];exact Vd.2 ⟨k,Vr.2 hk,hy⟩
  case hstep=>
   intro k s M hk w t;have W:b+1+k<(Zs n i).length:=by omega
   have a7:Zk n i (b+1+k)=(Zs n i)[b+1+k]:=ZbG W;obtain⟨t1,t2,t3⟩:=ZeC E.sound (e _ (Vc W)).1 (by grind);rw[<-a7]at t1 t2 t3;have S:decide (((b+1+k:Nat):Int)<((rn n (i:Int)).2.2.2.2.2.2.2.1.length:Int))=true:=Zi (by show ((b+1+k:Nat):Int)<((Zs n i).length:Int);omega);have c5:Ve .i64 (((b+1+k:Nat):Int)+1)=((b+1+(k+1):Nat):Int):=by rw[Z1 (by omega) (by omega)];omega
   have c6:zN n (Zs n i) b (k+1+1)=zN n (Zs n i) b (k+1) ||| 2 ^ (Gi n (Zk n i (b+1+k)).1).2.1.toNat:=by
    show zN n (Zs n i) b (k+1) ||| zn n (Zs n i) (b+(k+1))=_;unfold zn
    grind
   have c1:Wy .i64 ((z ||| zN n (Zs n i) b (k+1):Nat):Int) ((2 ^ (Gi n (Zk n i (b+1+k)).1).2.1.toNat:Nat):Int)=((z ||| zN n (Zs n i) b (k+1+1):Nat):Int):=by have:z ||| zN n (Zs n i) b (k+1)<2 ^ 16:=Nat.or_lt_two_pow (n:=16) (by omega) (by grind);rw[DY (by omega) (Gc t3),c6,Nat.or_assoc]
   have a2:JD n v (Km n i b (b+1+k) a)=(v.1,(Zk n i (b+1+k)).2.1,((z ||| zN n (Zs n i) b (k+1+1):Nat):Int),((m ||| 2 ^ R.2.1.toNat:Nat):Int),v.2.2.2.2):=by
    unfold JD;rw[a1,hz,hm]
    have ez:D8 n (Km n i b (b+1+k) a)=zN n (Zs n i) b (k+1+1):=by unfold D8;show zN n (Zs n i) (b:Int).toNat (((b+1+k:Nat):Int).toNat+1 - (b:Int).toNat)=_;rw[Vk,Vk];congr 1;omega
    rw[ez,DY (by omega) (by grind),DY (by omega) (Gc H)];rfl
   have V:b<b+1+k:=by omega
   have a3:idx s.1.1 (Zk n i (b+1+k)).1=some (Gi n (Zk n i (b+1+k)).1):=by rw[w.net];exact t1
   simp only[S,Zc,RC W,Za,a3,Zhq t2 t3,c1,c5];rw[e4];have Q:((true,(i:Int),(b:Int),((b+1+k:Nat):Int),(Zk n i b).1,(Zk n i (b+1+k)).1,(Zk n i b).2.2.1,(Zk n i (b+1+k)).2.1,a,()):Z7)=Km n i b (b+1+k) a:=rfl;rw[Q,ZjD _ (show p.2.2.2.2.2.1.length<=1000 by omega),Za, <-a2]
   have T:∀o:FX,((o,(some KG,(i:Int),(b:Int),a,JD n v (Km n i b (b+1+k) a),C++[(i:Int)],()),((b+1+(k+1):Nat):Int)):FX×Zh0×Int)=(o,(some KG,(i:Int),(b:Int),a,(v.1,(if k+1=0 then v.2.1 else(Zk n i (b+(k+1))).2.1),((z ||| zN n (Zs n i) b (k+1+1):Nat):Int),((m ||| 2 ^ R.2.1.toNat:Nat):Int),v.2.2.2.2),C++[(i:Int)],()),((b+1+(k+1):Nat):Int)):=by intro o;rw[a2,Zf (by omega),show b+(k+1)=b+1+k by omega]
   obtain⟨b6,O⟩:=Zrv E h3 w hp e1 e2 e3 a J V W U hd ((i:Int),(b:Int),a) (C++[(i:Int)]) (p.2.2.2.2.2.1++[Km n i b (b+1+k) a]) rfl;unfold RT at t⊢;have I:(ZU n p i b (b+1+k) a v).1.2.2.1.toNat=i:=rfl;rw[I,Vm]at t;rw[I];have a9:Hf n (ZU n p i b (b+1+k) a v)=(Zk n i (b+1+k)).2.2.2.2.1:=rfl
   have G:∃s',(bif (Zk n i (b+1+k)).2.2.2.2.1 then
    Vf (F107 s (some KG,(i:Int),(b:Int),a,JD n v (Km n i b (b+1+k) a),C++[(i:Int)],()) (p.2.2.2.2.2.1++[Km n i b (b+1+k) a]) (Zk n i (b+1+k)).1 (Zk n i (b+1+k)).2.1) fun D=>
    Vf (bif !Option.isNone D.2 then Vf (F106 D.1 D.2) fun c7=>some c7 else some D.1)
    fun c8=>some (c8,D.2) else some (s,none))=some (s',if Hf n (ZU n p i b (b+1+k) a v)=true/\GG (Yd (ZU n p i b (b+1+k) a v)).2.2.2.2.1=true then some (Kw n (ZU n p i b (b+1+k) a v)) else none)/\KU F s (YV n (ZU n p i b (b+1+k) a v)) s' :=by
    unfold YV at t⊢;rw[a9]at t⊢
    cases ha:(Zk n i (b+1+k)).2.2.2.2.1 with
    |false=>
     rw[Zf (by simp),Zf (by simp)]
     exact⟨s,rfl,KU.nil s⟩
    |true=>
     have Z:F107 s (some KG,(i:Int),(b:Int),a,JD n v (Km n i b (b+1+k) a),C++[(i:Int)],()) (p.2.2.2.2.2.1++[Km n i b (b+1+k) a]) (Zk n i (b+1+k)).1 (Zk n i (b+1+k)).2.1=_:=b6;rw[Zc,Z,Za];by_cases f:GG (Yd (ZU n p i b (b+1+k) a v)).2.2.2.2.1=true
     ·rw[Zr f,Zr ⟨rfl,f⟩,Zr ⟨rfl,f⟩];rw[ha,Zr ⟨rfl,f⟩]at t;obtain⟨s',k1,k2⟩:=Zkf w O (by simp only[Vx]at t;omega);simp only[Vwb,Vqa,Zc];rw[k1];exact⟨s',rfl,k2⟩
     ·rw[Zf f,Zf (fun h=>f h.2),Zf (fun h=>f h.2)];exact⟨s,rfl,KU.nil s⟩
   obtain⟨s1,b4,Y⟩:=G;rw[b4,Za];have b9:∀l∈YV n (ZU n p i b (b+1+k) a v),Je F hF n l:=fun l hl=>by rw[(Zg0 hl).1];exact O
   have a8:=w.adds b9 Y;obtain⟨s2,b0,b1⟩:=Zso hW hT h3 ih a8 hp e1 e2 e3 (by omega) a a J V W U hd (b:Int) (by omega) hR (by omega) (L:=p.2.2.2.2.2.1++[Km n i b (b+1+k) a]) rfl rfl (by omega);rw[b0,Za,T];exact⟨s2,rfl,Y.trans b1⟩
  case hend=>
   intro s M w;have:((b+1+((Zs n i).length - (b+1)):Nat):Int)=((Zs n i).length:Int):=by omega
   have S:decide (((b+1+((Zs n i).length - (b+1)):Nat):Int)<((rn n (i:Int)).2.2.2.2.2.2.2.1.length:Int))=false:=Zv (by rw[this];show¬((Zs n i).length:Int)<((Zs n i).length:Int);omega);simp only[S,Ze]
end Q
namespace Q
open Tr Go
variable {F:Z9}{hF:FO F}{n:Zg}{q:Zw}
def Du(y:ZW)(p:Kg):ZW:=(p.2.1,y.2.1+p.2.2.1,y.2.1+p.2.2.1,y.2.2.2.1,y.2.2.2.2.1+p.2.2.1,false,y.2.2.2.2.2.2.1,y.2.2.2.2.2.2.2.1++[WY y.1 p.2.1 y.2.1 (y.2.1+p.2.2.1)],())
def HW(q:Zw)(y:ZW)(p:Kg):Prop:=p.1=y.1/\y.2.2.2.2.1+p.2.2.1<=q.2.2.2.2.2.1/\y.2.1+p.2.2.1<=3155932800
instance (q:Zw) (y:ZW) (p:Kg):Decidable (HW q y p):=by unfold HW;infer_instance
def Zbk(n:Zg)(q:Zw)(y:ZW):List ZW:=n.2.2.2.2.1.flatMap fun p=>if HW q y p then [Du y p] else []
def ZbL(n:Zg)(y:ZW)(i c:Nat):Prop:=(Zk n i c).1=y.1/\(Zk n i c).2.2.2.1=true/\y.2.2.1<=(Zk n i c).2.2.1
instance (n:Zg) (y:ZW) (i c:Nat):Decidable (ZbL n y i c):=by unfold ZbL;infer_instance
noncomputable def GI(n:Zg)(q:Zw)(y:ZW):List ZW:=(Vb n.2.2.1.length).flatMap fun i=>(Vb (Zs n i).length).flatMap fun c=>if ZbL n y i c then Hh n q 100 y i c else []
noncomputable def Ye(n:Zg)(q:Zw)(y:ZW):List ZW:=GI n q y++if y.2.2.2.2.2.1=true then Zbk n q y else []
structure YG (F:Z9) (hF:FO F) (n:Zg) (q:Zw) (y:ZW):Prop where
 ok:Je F hF n y
 cnt:((KL y.2.2.2.2.2.2.1).length:Int)=y.2.2.2.1
 rides:y.2.2.2.1<=q.2.2.2.2.1
 walk:0<=y.2.2.2.2.1/\y.2.2.2.2.1<=86400
 time:0<=y.2.1/\y.2.1<=4000000000
 legs:y.2.2.2.2.2.2.2.1.length<=200
theorem YG.pb{y:ZW}(h:YG F hF n q y)(a:y.2.2.2.1<q.2.2.2.2.1):PB F hF q (JV y):=by have b:=h.cnt;have c:=h.walk;exact⟨⟨h.ok.fare,h.ok.rok⟩,by show ((KL y.2.2.2.2.2.2.1).length:Int)+1=y.2.2.2.1+1;omega,by assumption,by show 0<=y.2.2.2.2.1/\y.2.2.2.2.1<=1000000;omega⟩
theorem Zfy(e:Jl n)(g:q.2.2.2.2.1<=3){y:ZW}(h:YG F hF n q y){k i c:Nat}(f:i<n.2.2.1.length)(j:c<(Zs n i).length):∀l∈Hh n q k y i c,Je F hF n l:=by
 intro l a;unfold Hh Hg at a;split at a
 ·rename_i b;have m:=e.time f j;exact Zbd e g k _ i c false _ (h.pb b) f (Zcf _) ⟨by show 0<=(Zk n i c).2.2.1;omega,by show (Zk n i c).2.2.1<=_;omega⟩ l a
 grind
theorem ZhN(a:Jl n){y:ZW}(h:YG F hF n q y){p:Kg}(b:p∈n.2.2.2.2.1):Je F hF n (Du y p):=⟨h.ok.fare,h.ok.rok,(a.path p b).2.1⟩
theorem Zr2(b:Jl n)(g:q.2.2.2.2.1<=3){y:ZW}(h:YG F hF n q y):(∀l∈GI n q y,Je F hF n l)/\ ∀l∈Ye n q y,Je F hF n l:=by
 have k:∀l∈GI n q y,Je F hF n l:=by
  intro l a;unfold GI at a;obtain⟨i,f,a⟩:=Vd.1 a;obtain⟨c,e,a⟩:=Vd.1 a;rw[Vr]at f e;split at a
  ·exact Zfy b g h f e l a
  grind
 refine⟨k,fun l a=>?_⟩;unfold Ye at a;rw[Vi]at a;rcases a with a|a
 ·grind
 ·split at a
  ·unfold Zbk at a;obtain⟨p,j,a⟩:=Vd.1 a;split at a
   ·rw[Vj]at a;subst a;exact ZhN b h j
   grind
  grind
theorem Zld(z:Whole n)(I:WB n)(G:q.2.2.2.2.1<=3){y:ZW}(r:YG F hF n q y)(can:Nat->Nat->Prop)[∀i c,Decidable (can i c)](cond:Wv->Option Bool)(e:∀i c,i<n.2.2.1.length->c<(Zs n i).length->cond (Zk n i c)=some (decide (can i c)))
 {x:FX}{N:Nat} (P:XC F hF n q x N) (Q:N+((Vb n.2.2.1.length).flatMap fun i=>(Vb (Zs n i).length).flatMap fun c=>if can i c then Hh n q 100 y i c else []).length<=549755813888):
 ∃p,run (fun s0:FX×Int=>
  bif decide (s0.2<(↑(Vg n.2.2.1):Int)) then
  Vf (idx n.2.2.1 s0.2) fun K=>
  Vf
  (run (fun s2:FX×Int=>
  bif decide (s2.2<(↑(Vg K.2.2.2.2.2.2.2.1):Int)) then
  Vf (idx K.2.2.2.2.2.2.2.1 s2.2) fun C=>
  Vf (cond C)
  fun D=>
  bif D then Vf (F100 s2.1 (some y) s0.2 s2.2) fun E=>some (.inl (E,Ve .i64 (s2.2+(1:Int))))
  else some (.inl (s2.1,Ve .i64 (s2.2+(1:Int))))
  else some (.inr s2.1)) (s0.1,(0:Int)))
  fun B=>some (.inl (B,Ve .i64 (s0.2+(1:Int))))
  else some (.inr s0.1)) (x,(0:Int))=some p/\KU F x ((Vb n.2.2.1.length).flatMap fun i=>(Vb (Zs n i).length).flatMap fun c=>if can i c then Hh n q 100 y i c else []) p:=by
 have H:=z.ok;have V:=z.u
 have lab:∀i,i<n.2.2.1.length->∀c,c<(Zs n i).length->∀l∈(if can i c then Hh n q 100 y i c else []),Je F hF n l:=by
  intro i b c h l J;split at J
  ·exact Zfy H G r b h l J
  grind
 refine Za5 (F:=F) (hF:=hF) (n:=n) (q:=q) (fun k x=>(x,(k:Int))) (fun x=>x) P ?_ Q ?_ ?_
 ·grind
 ·intro i s M b v w;simp only[ZV b,Zc,RD b,Za,Ka b (by omega)];have U:=I.calls i b
  have key:=Za5 (F:=F) (hF:=hF) (n:=n) (q:=q) (m:=(Zs n i).length) (g:=fun c=>if can i c then Hh n q 100 y i c else []) (x:=s) (N:=M) (fun k x=>(x,(k:Int))) (fun x=>x)
   (step:=fun s2:FX×Int=>
   bif decide (s2.2<(↑(Vg (rn n (i:Int)).2.2.2.2.2.2.2.1):Int)) then
   Vf (idx (rn n (i:Int)).2.2.2.2.2.2.2.1 s2.2) fun C=>
   Vf (cond C)
   fun D=>
   bif D then Vf (F100 s2.1 (some y) (i:Int) s2.2) fun E=>some (.inl (E,Ve .i64 (s2.2+(1:Int))))
   else some (.inl (s2.1,Ve .i64 (s2.2+(1:Int))))
   else some (.inr s2.1)) v (by grind) w (by
    intro c t O h j o;have f:decide ((c:Int)<(↑(Vg (rn n (i:Int)).2.2.2.2.2.2.2.1):Int))=true:=Zi (by show (c:Int)<((Zs n i).length:Int);omega);simp only[f,Zc,RC h,Za,e i c b h,Ka h (by omega)];by_cases a:can i c
    ·rw[Zr a]at o⊢;rw[Zi a,Zc]
     obtain⟨p,R,S⟩:=ZiF H (Zmj z I G 100) j (y:=y) r.pb (by have:=r.legs;omega) (by omega) b h (fun f=>by unfold RB;have T:Jg q (JV y)=(q.2.2.2.2.1 - (y.2.2.2.1+1)).toNat:=rfl;have:=Zhe (n:=n) i;have:=r.cnt;omega) o
     have A:F100 t (some y) (i:Int) (c:Int)=some p:=R;rw[A];exact⟨p,rfl,S⟩
    ·rw[Zf a,Zv a,Ze]
     exact⟨t,rfl,KU.nil t⟩) (by
    intro t O j;have f:decide (((Zs n i).length:Int)<(↑(Vg (rn n (i:Int)).2.2.2.2.2.2.2.1):Int))=false:=Zv (by show¬((Zs n i).length:Int)<((Zs n i).length:Int);omega)
    grind)
  grind
 simp
theorem Zr7(T:Whole n)(S:WB n)(Q:q.2.2.2.2.1<=3)(hq:q.2.2.2.2.2.1<=86400){y:ZW}(t:YG F hF n q y){x:FX}{N:Nat}(E:XC F hF n q x N)(X:N+(Ye n q y).length<=549755813888):
 ∃b,F108 x (some y)=some b/\KU F x (Ye n q y) b:=by
 have C:=T.ok;have e:=X;unfold Ye at e⊢;rw[Vm]at e
 obtain⟨O,V,W⟩:=Zld T S Q t (fun i c=>ZbL n y i c) (fun P=>bif decide (P.1=y.1) then bif P.2.2.2.1 then some (decide (y.2.2.1<=P.2.2.1)) else some false else some false) (by
  intro i c f hc;by_cases j:(Zk n i c).1=y.1
  ·rw[Zi j,Zc]
   cases v:(Zk n i c).2.2.2.1 with
   |true=>rw[Zc];congr 1;exact decide_eq_decide.2 ⟨fun h=>⟨j,v,h⟩,fun h=>h.2.2⟩
   |false=>rw[Ze];congr 1;rw[Zv];intro h;rw[h.2.1]at v;grind
  ·rw[Zv j,Ze];congr 1;rw[Zv];intro h;exact j h.1) E (by unfold GI at e;omega)
 have R:KU F x (GI n q y) O:=W;unfold F108;simp only[Za,E.net];rw[V];simp only[Za];have w:=E.adds (Zr2 C Q t).1 R
 cases J:y.2.2.2.2.2.1 with
 |false=>
  grind
 |true=>
  rw[J,Zr rfl]at e;rw[Zr rfl];simp only[Vq,Ze,w.net];have D:n.2.2.2.2.1.length<=60:=S.paths;unfold Zbk at e⊢;rw[ZdR]at e⊢
  have I:∀o:Option FX,(∃b,o=some b/\KU F O ((Vb n.2.2.2.2.1.length).flatMap fun i=>(n.2.2.2.2.1[i]?).elim [] fun p=>if HW q y p then [Du y p] else []) b)->∃b,(Vf o fun x=>some x)=some b/\KU F x (GI n q y++(Vb n.2.2.2.2.1.length).flatMap fun i=>(n.2.2.2.2.1[i]?).elim [] fun p=>if HW q y p then [Du y p] else []) b:=fun o ⟨b,j,v⟩=>⟨b,by grind,R.trans v⟩
  refine I _ (Za5 (F:=F) (hF:=hF) (n:=n) (q:=q) (m:=n.2.2.2.2.1.length) (g:=fun i=>(n.2.2.2.2.1[i]?).elim [] fun p=>if HW q y p then [Du y p] else []) (x:=O) (N:=N+(GI n q y).length) (fun k x=>(x,(k:Int))) (fun x=>x) w (by
   intro i f l U;rw[Va f]at U
   have r:l∈(if HW q y n.2.2.2.2.1[i] then [Du y n.2.2.2.2.1[i]] else []):=U
   split at r
   ·rw[Vj]at r;subst r;exact ZhN C t (Vc f)
   grind) (by omega) (by
   intro i s M f z A;rw[Va f]at A⊢
   have B:M+(if HW q y n.2.2.2.2.1[i] then [Du y n.2.2.2.2.1[i]] else []).length<=549755813888:=A
   show∃b,_/\KU F s (if HW q y n.2.2.2.2.1[i] then [Du y n.2.2.2.2.1[i]] else []) b
   have hp:=C.path _ (Vc f);have K:=ZhN C t (Vc f);generalize H:n.2.2.2.2.1[i]=p at*;have Y:idx n.2.2.2.2.1 (i:Int)=some p:=by rw[ZI f,H]
   have h4:=t.walk;have h5:=t.time;have w1:Ve .i64 (y.2.2.2.2.1+p.2.2.1)=y.2.2.2.2.1+p.2.2.1:=Z1 (by omega) (by omega);have w2:Ve .i64 (y.2.1+p.2.2.1)=y.2.1+p.2.2.1:=Z1 (by omega) (by omega);simp only[ZV f,Zc,Y,Za,Ka f (by omega),z.que,w1,w2];by_cases a:HW q y p
   ·rw[Zr a]at B⊢;rw[Zi a.1,Zv (show¬q.2.2.2.2.2.1<y.2.2.2.2.1+p.2.2.1 by have:=a.2.1;omega),Zv (show¬3155932800<y.2.1+p.2.2.1 by have:=a.2.2;omega)];simp only[Vq,Ze,Za];have G:((false,(0:Int),(0:Int),(0:Int),y.1,p.2.1,y.2.1,y.2.1+p.2.2.1,false,()):Z7)=WY y.1 p.2.1 y.2.1 (y.2.1+p.2.2.1):=rfl;rw[G,ZjD _ (by have:=t.legs;omega),Za];obtain⟨b,j,v⟩:=Zkf z K (by omega);have Z:F106 s (some (p.2.1,y.2.1+p.2.2.1,y.2.1+p.2.2.1,y.2.2.2.1,y.2.2.2.2.1+p.2.2.1,false,y.2.2.2.2.2.2.1,y.2.2.2.2.2.2.2.1++[WY y.1 p.2.1 y.2.1 (y.2.1+p.2.2.1)],()))=some b:=j
    grind
   ·rw[Zf a]
    have:(bif !decide (p.1=y.1) then some true else bif decide (q.2.2.2.2.2.1<y.2.2.2.2.1+p.2.2.1) then some true else some (decide ((3155932800:Int)<y.2.1+p.2.2.1)))=some true:=by
     by_cases j:p.1=y.1
     ·by_cases v:q.2.2.2.2.2.1<y.2.2.2.2.1+p.2.2.1
      ·grind
      ·have k3:3155932800<y.2.1+p.2.2.1:=by
        by_cases k3:3155932800<y.2.1+p.2.2.1
        ·omega
        ·exact absurd ⟨j,by omega,by omega⟩ a
       grind
     grind
    rw[this]
    exact⟨s,rfl,KU.nil s⟩) (by
   simp))
end Q
namespace Q
open Tr Go
variable {F:Z9}{hF:FO F}{n:Zg}{q:Zw}
noncomputable def wY(n:Zg)(q:Zw)(y:ZW):Nat:=1+rW n (q.2.2.2.2.1 - y.2.2.2.1).toNat y.1+if y.2.2.2.2.2.1=true then((n.2.2.2.2.1.filter fun p=>decide (p.1=y.1)).map fun p=>1+rW n (q.2.2.2.2.1 - y.2.2.2.1).toNat p.2.1).sum else 0
theorem ZeF{α:Type}{f g:α->Nat} :∀{l:List α},(∀x∈l,f x<=g x)->(l.map f).sum<=(l.map g).sum
 |[],_=>Vt _
 |x::l,h=>by rw[Vo,Vo,Vp,Vp];exact Vwa (by grind) (ZeF (by grind))
theorem Zmd{α:Type}(f g:α->Nat):∀l:List α,(l.map fun x=>f x+g x).sum=(l.map f).sum+(l.map g).sum
 |[]=>rfl
 |x::l=>by rw[Vo,Vo,Vo,Vp,Vp,Vp,Zmd f g l];omega
theorem ZrJ(h:Whole n){a b:Nat}(k:a<n.2.2.2.1.length)(l:b<n.2.2.2.1.length)(e:JN (lk n a)=JN (lk n b)):a=b:=by
 have key:∀i,i<n.2.2.2.1.length->¬∃j,j<i/\JN (lk n j)=JN (lk n i):=by
  intro i f;have c:=WK.1 h.g i f;unfold WF at c;simp only at c
  repeat (split at c; · omega)
  assumption
 grind
theorem Zhz{a:Nat} :∀{m j:Nat},j<m->KI m (fun i=>if i=j then a else 0)=a
 |0,_,h=>by omega
 |m+1,j,h=>by
  show KI m _+(if m=j then a else 0)=a
  by_cases e:m=j
  ·subst e;rw[Zr rfl,Gj (by grind)];omega
  ·rw[Zf e,Zhz (by omega)];omega
theorem Zk1(f:Nat->Nat->Nat)(m:Nat)(len:Nat->Nat):∀P:List (Nat×Nat),P.Nodup->(∀x∈P,x.1<m/\x.2<len x.1)->(P.map fun x=>f x.1 x.2).sum=KI m fun i=>KI (len i) fun b=>if (i,b)∈P then f i b else 0
 |[],_,_=>by
  symm
  exact Gj fun i _=>Gj (by simp)
 |x::P,g,j=>by
  rw[List.nodup_cons]at g;obtain⟨c,k⟩:=j x (by simp);rw[Vo,Vp,Zk1 f m len P g.2 (by grind)]
  have e:∀i b,(if (i,b)∈x::P then f i b else 0)=(if i=x.1 then(if b=x.2 then f x.1 x.2 else 0) else 0)+if (i,b)∈P then f i b else 0:=by
   grind
  have h:(fun i=>KI (len i) fun b=>if (i,b)∈x::P then f i b else 0)=fun i=>(if i=x.1 then f x.1 x.2 else 0)+KI (len i) fun b=>if (i,b)∈P then f i b else 0:=by
   funext i
   rw[show (fun b=>if (i,b)∈x::P then f i b else 0)=fun b=>(if i=x.1 then(if b=x.2 then f x.1 x.2 else 0) else 0)+if (i,b)∈P then f i b else 0 from funext (e i),D5]
   congr 1;by_cases a:i=x.1
   ·rw[Zr a];simp only[Zr a];exact Zhz (by grind)
   ·rw[Zf a];simp only[Zf a];exact Gj (by omega)
  rw[h,D5,Zhz c]
theorem ZrL(w:Whole n){i c:Nat}(l:Nat):((WT n i).map fun k=>if (lk n k).2.1=(c:Int)/\(lk n k).2.2.2.2.1=false then bw n l (lk n k).2.2.1.toNat (lk n k).2.2.2.1.toNat else 0).sum<=rW n l (Zk n i c).1:=by
 have C:=w.ok
 have g:∀L:List Nat,(L.map fun k=>if (lk n k).2.1=(c:Int)/\(lk n k).2.2.2.2.1=false then bw n l (lk n k).2.2.1.toNat (lk n k).2.2.2.1.toNat else 0).sum=
  (((L.filter fun k=>decide ((lk n k).2.1=(c:Int)/\(lk n k).2.2.2.2.1=false)).map fun k=>((lk n k).2.2.1.toNat,(lk n k).2.2.2.1.toNat)).map fun x=>bw n l x.1 x.2).sum:=by
  intro L
  induction L with
  |nil=>rfl
  |cons k L P=>
   grind
 rw[g]
 have f:∀k∈(WT n i).filter (fun k=>decide ((lk n k).2.1=(c:Int)/\(lk n k).2.2.2.2.1=false)),∃j d:Nat,lk n k=((i:Int),(c:Int),(j:Int),(d:Int),false,())/\j<n.2.2.1.length/\d<(Zs n j).length/\(Zk n i c).1=(Zk n j d).1/\k<n.2.2.2.1.length:=by
  intro k J;obtain⟨h,H⟩:=Vba.1 J;obtain⟨t,v⟩:=J9 H;obtain⟨s,j,d,st,e,I,_,G,p,K,_⟩:=RP C h;rw[e]at t v;have B:((s:Nat):Int)=(c:Int):=t;have m:st=false:=v;have:s=c:=by omega
  subst this;subst m;exact⟨j,d,e,I,p,K,(Zcd h).1⟩
 rw[Zk1 (bw n l) n.2.2.1.length (fun i=>(Zs n i).length)]
 ·unfold rW;refine HQ fun j _=>HQ fun d _=>?_
  grind
 ·have r:((WT n i).filter fun k=>decide ((lk n k).2.1=(c:Int)/\(lk n k).2.2.2.2.1=false)).Pairwise (· ≠ ·):=(Vkc.filter _).filter _;refine List.pairwise_map.2 (r.imp_of_mem ?_);intro a b D E o y;obtain⟨j,d,z,_,_,_,M⟩:=f a D;obtain⟨Q,O,A,_,_,_,N⟩:=f b E;rw[z,A]at y;simp only[Vk,Prod.mk.injEq]at y;refine o (ZrJ w M N ?_)
  grind
 grind
end Q
namespace Q
open Tr Go
variable {F:Z9}{hF:FO F}{n:Zg}{q:Zw}
theorem ZkR{P:Nat->Prop}[DecidablePred P]{a:Nat} :∀{l:List Nat},l.Pairwise (· ≠ ·)->(∀x∈l,∀y∈l,P x->P y->x=y)->(l.map fun x=>if P x then a else 0).sum<=a
 |[],_,_=>Vha _
 |x::l,b,h=>by
  rw[Vxa]at b;rw[Vo,Vp];by_cases e:P x
  ·have k:(l.map fun x=>if P x then a else 0).sum=0:=by
    have:∀y∈l,¬P y:=by grind
    have c:=ZeF (f:=fun x=>if P x then a else 0) (g:=fun _=>0) (l:=l) (by grind)
    have j:∀l:List Nat,(l.map fun _=>0).sum=0:=by
     intro l
     induction l with
     |nil=>rfl
     |cons _ l m=>grind
    grind
   grind
  ·rw[Zf e,Vac];exact ZkR b.2 (by grind)
theorem ZhF(h:Whole n)(s:WB n):∀(K:Nat) (p:ZB) (i b:Nat) (st:Bool) (v:ZT),i<n.2.2.1.length->((W0 n q K p i b st v).map (wY n q)).sum<=KI ((Zs n i).length - (b+1)) fun k=>Zbh n (Jg q p) i (b+1+k)
 |0,p,i,b,st,v,_=>by unfold W0;simp
 |K+1,p,i,b,st,v,hi=>by
  have Q:=h.ok;unfold W0;split
  ·simp
  rw[ZeD];refine HQ fun m hm=>?_;have hc:b+1+m<(Zs n i).length:=by omega
  generalize Y:b+1+m=c at*;generalize I:Jg q p=a;unfold RT;have r:(ZU n p i b c st v).1.2.2.1.toNat=i:=rfl;rw[r,Vda,Vna,ZeE]
  have S:((YV n (ZU n p i b c st v)).map (wY n q)).sum<=1+rW n a (Zk n i c).1+((n.2.2.2.2.1.filter fun p=>decide (p.1=(Zk n i c).1)).map fun p=>1+rW n a p.2.1).sum:=by
   unfold YV;split
   ·rw[<-I];rw[Vxb,Vyb];unfold wY;have V:(Kw n (ZU n p i b c st v)).2.2.2.2.2.1=true:=rfl;rw[Zr V];exact Vt _
   simp
  have O:∀k∈WT n i,(lk n k).2.1=(c:Int)/\(lk n k).2.2.2.2.1=true->c+1=(Zs n i).length:=by
   intro k A ⟨U,k2⟩;obtain⟨w,j,d,t,e,z,H,E,G,_,T,o⟩:=RP Q A
   grind
  have J:∀k∈WT n i,((HI (W0 n q K) n q (ZU n p i b c st v) (lk n k)).map (wY n q)).sum<=
   (if (lk n k).2.1=(c:Int)/\(lk n k).2.2.2.2.1=false then bw n a (lk n k).2.2.1.toNat (lk n k).2.2.2.1.toNat else 0)+if (lk n k).2.1=(c:Int)/\(lk n k).2.2.2.2.1=true then gW a* (5*WG n i) else 0:=by
   intro k A;obtain⟨w,j,d,t,e,z,H,E,G,_,T,o⟩:=RP Q A;unfold HI;rw[e];simp only[Vk];have D:(ZU n p i b c st v).1.2.2.2.1=(c:Int):=rfl;rw[D];split
   ·simp
   rename_i Z
   have U:(w:Int)=(c:Int):=by omega
   cases t with
   |true=>
    rw[Zr rfl,Zf (by simp),Zr ⟨U,rfl⟩,Vac];obtain⟨_,rfl⟩:=T rfl;have B:=ZhF h s K (ZU n p i b c st v) j 0 true (ZU n p i b c st v).1.2.2.2.2.1 z;have C:Jg q (ZU n p i b c st v)=a:=I;rw[C]at B;refine Vy B (Vy (Zkl a j 0) ?_);refine Vma _ ?_;have:=Zhf h (show j<7 by have:=s.runs;omega) (Zhv h o);have:=s.calls j z
    omega
   |false=>
    have i1:(if (w:Int)=(c:Int)/\false=false then bw n a j d else 0)=bw n a j d:=by grind
    have i2:(if (w:Int)=(c:Int)/\false=true then gW a* (5*WG n i) else 0)=0:=by simp
    rw[Zf (by simp),i1,i2,Vcc];split
    ·unfold Hg;split
     ·rename_i M;have R:p.2.2.1<q.2.2.2.2.1:=M;have B:=ZhF h s K (JV (Kw n (ZU n p i b c st v))) j d false (JO (Zk n j d).2.2.1) z
      have C:a=Jg q (JV (Kw n (ZU n p i b c st v)))+1:=by rw[<-I];show (q.2.2.2.2.1 - p.2.2.1).toNat=(q.2.2.2.2.1 - (p.2.2.1+1)).toNat+1;omega
      unfold bw;rw[C]
      assumption
     simp
    simp
  have W:=ZeF J;rw[Zmd]at W;have h2:=ZrL h (i:=i) (c:=c) a;have N:(WT n i).Pairwise (· ≠ ·):=Vkc.filter _
  have h3:((WT n i).map fun k=>if (lk n k).2.1=(c:Int)/\(lk n k).2.2.2.2.1=true then gW a* (5*WG n i) else 0).sum<=if c+1=(Zs n i).length then gW a* (5*WG n i) else 0:=by
   by_cases f:c+1=(Zs n i).length
   ·rw[Zr f];refine ZkR (P:=fun k=>(lk n k).2.1=(c:Int)/\(lk n k).2.2.2.2.1=true) N fun x hx y hy px py=>?_;obtain⟨x1,x2,_⟩:=Zcd hx;obtain⟨y1,y2,_⟩:=Zcd hy;have g:∀b (X:b<n.2.2.2.1.length),lk n b=n.2.2.2.1[b]:=fun b X=>by unfold lk;grind
    exact ZtO h x1 y1 (by grind) (by grind) (by grind)
   ·rw[Zf f];refine Vy (ZeF (g:=fun _=>0) fun k A=>?_) ?_
    ·grind
    ·have h0:∀l:List Nat,(l.map fun _=>0).sum=0:=by
      intro l
      induction l with
      |nil=>rfl
      |cons _ l B=>grind
     grind
  have h4:=ZkJ h s a (Zk n i c).1;unfold Zbh;rw[Nat.mul_add,Nat.mul_one]
  have h5:gW a* (if c+1=(Zs n i).length then 5*WG n i else 0)=if c+1=(Zs n i).length then gW a* (5*WG n i) else 0:=by grind
  omega
theorem Zou(e:Whole n)(b:WB n)(K:Nat)(y:ZW){i c:Nat}(f:i<n.2.2.1.length):((Hh n q K y i c).map (wY n q)).sum<=bw n (q.2.2.2.2.1 - y.2.2.2.1).toNat i c:=by
 unfold Hh Hg;split
 ·rename_i g
  have a:(q.2.2.2.2.1 - y.2.2.2.1).toNat=Jg q (JV y)+1:=by show _=(q.2.2.2.2.1 - (y.2.2.2.1+1)).toNat+1;omega
  unfold bw;rw[a];exact ZhF e b K (JV y) i c false _ f
 simp
theorem ZlA(e:Whole n)(b:WB n)(y:ZW)(can:Nat->Nat->Prop)[∀i c,Decidable (can i c)](a:∀i c,can i c->(Zk n i c).1=y.1):(((Vb n.2.2.1.length).flatMap fun i=>(Vb (Zs n i).length).flatMap fun c=>if can i c then Hh n q 100 y i c else []).map (wY n q)).sum<=rW n (q.2.2.2.2.1 - y.2.2.2.1).toNat y.1:=by
 rw[ZeD];unfold rW;refine HQ fun i f=>?_;rw[ZeD];refine HQ fun c g=>?_;split
 ·rename_i h;rw[Zr (a i c h)];exact Zou e b 100 y f
 simp
theorem Zr3(g:Whole n)(f:WB n)(y:ZW):((Ye n q y).map (wY n q)).sum+1<=wY n q y:=by
 unfold Ye;rw[Vda,Vna];have b:=ZlA (q:=q) g f y (ZbL n y) fun i c h=>h.1;unfold GI
 have e:((if y.2.2.2.2.2.1=true then Zbk n q y else []).map (wY n q)).sum<=if y.2.2.2.2.2.1=true then((n.2.2.2.2.1.filter fun p=>decide (p.1=y.1)).map fun p=>1+rW n (q.2.2.2.2.1 - y.2.2.2.1).toNat p.2.1).sum else 0:=by
  split
  ·unfold Zbk;rw[ZeE];generalize n.2.2.2.2.1=P
   induction P with
   |nil=>simp
   |cons p P j=>
    rw[Vo,Vp,Veb];by_cases a:p.1=y.1
    ·rw[Zr (Zi a),Vo,Vp];refine Vwa ?_ j;split
     ·rw[Vxb,Vyb];unfold wY;rw[Zf (by show¬false=true;simp)];exact Vt _
     simp
    ·rw[Zf (fun h:HW q y p=>a h.1)]
     grind
  simp
 unfold wY at b e⊢;omega
theorem Zkm:∀(l:List ZW),l.length<=(l.map (wY n q)).sum
 |[]=>Vt _
 |y::l=>by rw[Vo,Vp,Vka];have:=Zkm l;unfold wY at this⊢;omega
end Q
namespace Q
open Tr Go
variable {F:Z9}{hF:FO F}{n:Zg}{q:Zw}
theorem Zsx{F:Z9}(a:(X5 F).2=0)(b:∀x∈F.1,x.1.length<=9223372036854775807):F19 F=some (st0 F,0):=by
 have c:=(ZaL a).many;unfold F19;rw[Zgn F b]
 have e:Zy (decide ((Vg ([]:List Unit))+Vg F.1<=ZC))=some ():=by rw[Zi (by simp [ZC];omega)];rfl
 simp only[Za,Zi a,Vq,Ze,e];rfl
def Xd(n:Zg)(k:Nat):List (List Int):=(Vb n.2.2.1.length).map fun i:Nat=>((Vb k).filter fun k=>decide ((lk n k).1=(i:Int))).map fun k:Nat=>(k:Int)
def H8(n:Zg)(q:Zw):FX:=(n,q,DT n,Vn n.1.length [],[],[])
theorem ZgR{k a:Nat}(h:a<(Xd n k).length):(Xd n k)[a]=((Vb k).filter fun k=>decide ((lk n k).1=(a:Int))).map fun k:Nat=>(k:Int):=by simp [Xd]
theorem ZrZ(y:Whole n)(x:WB n)(q:Zw):ZaS n q=some (H8 n q):=by
 have E:=y.ok;have T:=y.v;have R:=x.runs;have S:=x.stops;have Q:(ZC:Int)=549755813888:=rfl;have M:(ZC:Nat)=549755813888:=rfl
 have B:Zy (decide ((0:El (Tr.Ty.int .i64))<=(↑(Vg n.2.2.1):Int)/\(↑(Vg n.2.2.1):Int)<=(↑(Vg n.2.2.1):Int)/\(↑(Vg n.2.2.1):Int)<=(↑ZC:El (Tr.Ty.int .i64))))=some ():=by rw[Zi ⟨by simp,Vga _,by omega⟩];rfl
 have C:Zy (decide ((0:El (Tr.Ty.int .i64))<=(↑(Vg n.1):Int)/\(↑(Vg n.1):Int)<=(↑(Vg n.1):Int)/\(↑(Vg n.1):Int)<=(↑ZC:El (Tr.Ty.int .i64))))=some ():=by rw[Zi ⟨by simp,Vga _,by omega⟩];rfl
 have H:Xd n 0=Vn n.2.2.1.length []:=by
  unfold Xd
  have:∀m:Nat,(Vb m).map (fun i:Nat=>((Vb 0).filter fun k=>decide ((lk n k).1=(i:Int))).map fun k:Nat=>(k:Int))=Vn m []:=by intro m;rw[List.eq_replicate_iff];simp
  grind
 have f:Zd9 n q=some (n,q,DT n,Vn n.1.length [],[],[],()):=by
  unfold Zd9;rw[B,Za,C,Za];refine WE (fun r=>r=(n,q,DT n,Vn n.1.length [],[],[],())) ?_ (by simp);refine Wa n.2.2.2.1.length _ (fun k s=>s=((n,q,Xd n k,Vn n.1.length [],[],[],()),(k:Int))) ?_ ?_ _ (by grind)
  ·rintro k _ h rfl;left;obtain⟨i,c,j,d,st,e,P,_⟩:=E.link _ (Vc h);have J:lk n k=n.2.2.2.1[k]:=by unfold lk;grind
   have A:(Xd n k).length=n.2.2.1.length:=by unfold Xd;simp
   have w:ZA (i:Int) (Xd n k).length=some i:=by unfold ZA;grind
   have b:i<(Xd n k).length:=by omega
   have z:(Xd n k)[i]=((Vb k).filter fun k=>decide ((lk n k).1=(i:Int))).map fun k:Nat=>(k:Int):=ZgR b
   have K:((Xd n k)[i]).length<=1024:=by
    grind
   have p:Zy (decide (((Xd n k)[i]).length+Vg [(k:Int)]<=ZC))=some ():=by rw[Zi (by grind)];rfl
   have t:Zy (DS (some (Vua ((i:Nat):Int))) i)=some ():=by rw[Vk];show Zy (Nat.beq i i)=_;rw[Nat.beq_refl];rfl
   have g:(Xd n k).set i ((Xd n k)[i]++[(k:Int)])=Xd n (k+1):=by
    refine Vic (by rw[Voa];unfold Xd;simp) fun a O D=>?_;rw[Vgb];have l:a<(Xd n k).length:=by grind
    rw[ZgR D,Vib,Vpa,Vda];have I:(lk n k).1=(i:Int):=by grind
    by_cases o:i=a
    ·grind
    ·have N:¬((i:Int)=(a:Int)):=by omega
     rw[Zf o,ZgR l,show List.filter (fun k=>decide ((lk n k).1=(a:Int))) [k]=[] by grind];simp
   refine⟨((n,q,Xd n (k+1),Vn n.1.length [],[],[],()),((k+1:Nat):Int)),?_,rfl⟩;simp only[ZV h,Zc,ZI h,Za,e,w,Va b,ZI b,p,t,Ka h (by omega),g]
  ·rintro _ rfl;exact⟨(n,q,DT n,Vn n.1.length [],[],[],()),by rw[J1,Ze];rfl,rfl⟩
 unfold ZaS;rw[f,Za]
 have G:ZbR (Vn n.1.length ([]:List (El Qn.Y91)))=true:=by unfold ZbR;simp
 simp only;rw[G];show some _=some _;congr 1;show (n,q,DT n,(Vn n.1.length ([]:List (El Qn.Y91))).map (fun _=>([]:List ZW)),[],[])=H8 n q;unfold H8;simp
theorem ZkD(n:Zg)(q:Zw):XC F hF n q (H8 n q) 0:=by
 have c:∀r∈KA (H8 n q),r=[]:=fun r b=>Vcb (by assumption);refine⟨rfl,rfl,rfl,List.length_replicate,⟨fun r b y a=>?_,fun y a=>(by cases a),fun y a=>(by cases a)⟩,fun i r b=>?_,⟨fun y a=>(by cases a),fun y a=>(by cases a)⟩,⟨Vt _,Vt _⟩,fun r b y a=>?_,fun y a=>(by cases a)⟩
 ·grind
 ·rw[c r (Vja b)];simp
 grind
abbrev Jn:=Int×Int×Unit
def H4(n:Zg)(q:Zw)(d:Int)(w:Jn):ZW:=(w.1,d+w.2.1,d+w.2.1,0,w.2.1,false,st0 n.2.2.2.2.2.1,if 0<w.2.1 then [WY q.1 w.1 d (d+w.2.1)] else [],())
def ZbK(n:Zg)(d:Int)(w:Jn)(i c:Nat):Prop:=(Zk n i c).1=w.1/\(Zk n i c).2.2.2.1=true/\(Zk n i c).2.2.1=d+w.2.1
instance (n:Zg) (d:Int) (w:Jn) (i c:Nat):Decidable (ZbK n d w i c):=by unfold ZbK;infer_instance
noncomputable def HR(n:Zg)(q:Zw)(d:Int)(w:Jn):List ZW:=(Vb n.2.2.1.length).flatMap fun i=>(Vb (Zs n i).length).flatMap fun c=>if ZbK n d w i c then Hh n q 100 (H4 n q d w) i c else []
noncomputable def YZ(n:Zg)(q:Zw)(ws:List Jn)(d:Int):List ZW:=ws.flatMap (HR n q d)
def Zh6(n:Zg)(ws:List Jn):Prop:= ∀w∈ws,0<=w.1/\w.1<(n.1.length:Int)/\0<=w.2.1/\w.2.1<=14400
theorem ZmI(f:Jl n){hF:FO n.2.2.2.2.2.1}(b:0<=q.2.2.2.2.1){d:Int}(g:0<=d/\d<=3155932800){w:Jn}(a:0<=w.1/\w.1<(n.1.length:Int)/\0<=w.2.1/\w.2.1<=14400):YG n.2.2.2.2.2.1 hF n q (H4 n q d w):=by
 have c:(H4 n q d w).2.2.2.2.2.2.2.1.length<=200:=by
  show (if 0<w.2.1 then [WY q.1 w.1 d (d+w.2.1)] else []).length<=200
  grind
 exact⟨⟨Zl7 hF,fun v e=>absurd e (by show¬v∈([]:List ZT);simp),⟨a.1,a.2.1⟩⟩,rfl,b,⟨a.2.2.1,by show w.2.1<=_;omega⟩,⟨by show 0<=d+w.2.1;omega,by show d+w.2.1<=_;omega⟩,c⟩
theorem Zup(b:Jl n){hF:FO n.2.2.2.2.2.1}(h:q.2.2.2.2.1<=3)(g:0<=q.2.2.2.2.1){d:Int}(j:0<=d/\d<=3155932800){w:Jn}(k:0<=w.1/\w.1<(n.1.length:Int)/\0<=w.2.1/\w.2.1<=14400):∀l∈HR n q d w,Je n.2.2.2.2.2.1 hF n l:=by
 intro l a;unfold HR at a;obtain⟨i,f,a⟩:=Vd.1 a;obtain⟨c,e,a⟩:=Vd.1 a;rw[Vr]at f e;split at a
 ·exact Zfy b h (ZmI b g j k) f e l a
 grind
theorem Zov(v:Whole n)(I:WB n){hF:FO n.2.2.2.2.2.1}(P:∀x∈n.2.2.2.2.2.1.1,x.1.length<=9223372036854775807)(E:q.2.2.2.2.1<=3)(D:0<=q.2.2.2.2.1){d:Int}(J:0<=d/\d<=3155932800){ws:List Jn}(t:Zh6 n ws)(O:ws.length<=1000)(G:(YZ n q ws d).length<=549755813888):
 ∃x,ZdC n q ws d=some (.inl x)/\KU n.2.2.2.2.2.1 (H8 n q) (YZ n q ws d) x:=by
 have H:=v.ok;unfold ZdC;rw[ZrZ v I,Za,Zsx v.z P,Za];rw[Zi rfl,Vq,Ze];unfold YZ at G⊢;rw[ZdR]at G⊢;have B:∀o:Option FX,(∃e,o=some e/\KU n.2.2.2.2.2.1 (H8 n q) ((Vb ws.length).flatMap fun i=>(ws[i]?).elim [] (HR n q d)) e)->∃e:FX,(Vf o fun x=>some (Sum.inl x))=some (Sum.inl e:FX ⊕ List (Option ZW))/\KU n.2.2.2.2.2.1 (H8 n q) ((Vb ws.length).flatMap fun i=>(ws[i]?).elim [] (HR n q d)) e:=by grind
 refine B _ (Za5 (F:=n.2.2.2.2.2.1) (hF:=hF) (n:=n) (q:=q) (m:=ws.length) (g:=fun i=>(ws[i]?).elim [] (HR n q d)) (x:=H8 n q) (N:=0) (fun k x=>(x,(k:Int))) (fun x=>x) (ZkD n q) (by
  intro i a l K;rw[Va a]at K
  exact Zup H E D J (t _ (Vc a)) l K) (by omega) (by
  intro i s M a A j;rw[Va a]at j⊢;have p:M+(HR n q d ws[i]).length<=549755813888:=j;show∃e,_/\KU n.2.2.2.2.2.1 s (HR n q d ws[i]) e;have Q:=t _ (Vc a);have R:idx ws (i:Int)=some ws[i]:=ZI a;generalize ws[i]=w at*;have S:Ve .i64 (d+w.2.1)=d+w.2.1:=Z1 (by omega) (by omega);simp only[ZV a,Zc,R,Za,Ka a (by omega),S]
  have r:(bif decide ((0:Int)<w.2.1) then
   some (s,some (w.1,d+w.2.1,d+w.2.1,(0:Int),w.2.1,false,st0 n.2.2.2.2.2.1,[(false,(0:Int),(0:Int),(0:Int),q.1,w.1,d,d+w.2.1,false,())],()))
   else some (s,some (w.1,d+w.2.1,d+w.2.1,(0:Int),w.2.1,false,st0 n.2.2.2.2.2.1,([]:List Z7),())))=(some (s,some (H4 n q d w)):Option (FX×Option ZW)):=by
   unfold H4;by_cases b:0<w.2.1
   ·rw[Zi b,Zr b];rfl
   grind
  rw[r];simp only[Za]
  obtain⟨T,f,y⟩:=Zld v I E (ZmI (hF:=hF) (q:=q) H D J Q) (fun i c=>ZbK n d w i c) (fun C=>bif decide (C.1=w.1) then bif C.2.2.2.1 then some (decide (C.2.2.1=(H4 n q d w).2.2.1)) else some false else some false) (by
   intro i c a U;by_cases f:(Zk n i c).1=w.1
   ·rw[Zi f,Zc]
    cases y:(Zk n i c).2.2.2.1 with
    |true=>rw[Zc];congr 1;exact decide_eq_decide.2 ⟨fun h=>⟨f,y,h⟩,fun h=>h.2.2⟩
    |false=>rw[Ze];congr 1;rw[Zv];intro h;rw[h.2.1]at y;grind
   ·rw[Zv f,Ze];congr 1;rw[Zv];intro h;exact f h.1) A p
  rw[f]
  exact⟨T,rfl,y⟩) (by
  simp))
end Q
namespace Q
open Tr Go
variable {F:Z9}{hF:FO F}{n:Zg}{q:Zw}
theorem Zbi(n:Zg)(q:Zw)(y:ZW):1<=wY n q y:=by unfold wY;omega
theorem ZeG{α:Type}(w:α->Nat)(h:∀l,1<=w l)(ls:List α):ls.length+(ls.map fun l=>w l - 1).sum=(ls.map w).sum:=by
 induction ls with
 |nil=>rfl
 |cons x ls a=>
  grind
def Cvd(F:Z9)(x:FX)(y:ZW):Prop:= ∃m∈Xz x y.1,WW F m y=true
structure GU (F:Z9) (hF:FO F) (n:Zg) (q:Zw) (S:ZW->Prop) (B:Nat) (x:FX) (N:Nat):Prop where
 fin:XC F hF n q x N
 snd:(∀r∈KA x,∀y∈r,S y)/\(∀y∈Jr x,S y)/\ ∀y∈Xc x,S y
 wgt:N+((Jr x).map (wY n q)).sum<=B+(Jr x).length
 cls:∀r∈KA x,∀m∈r,m∈Jr x\/ ∀z∈Ye n q m,Cvd F x z
theorem GU.adds{S:ZW->Prop}{B N:Nat}{x s:FX}{u:List ZW}(R:N+u.length+((Jr x).map (wY n q)).sum+(u.map fun l=>wY n q l - 1).sum<=B+(Jr x).length)(h:XC F hF n q x N)(P:(∀r∈KA x,∀y∈r,S y)/\(∀y∈Jr x,S y)/\ ∀y∈Xc x,S y)
 (C:∀r∈KA x,∀m∈r,m∈Jr x\/ ∀z∈Ye n q m,Cvd F x z\/z∈u) (Q:∀z∈u,S z/\Je F hF n z) (k:KU F x u s):GU F hF n q S B s (N+u.length):=by
 have a:=h.adds (by grind) k;obtain⟨sub,G,H,t,I,⟨J,K,M,O⟩,v,b,c,a12⟩:=k;refine⟨a,⟨fun r j y p=>?_,fun y p=>?_,fun y p=>?_⟩,?_,fun r j m D=>?_⟩
 ·obtain⟨i,o⟩:=Vaa j
  grind
 ·grind
 ·grind
 ·rw[t,Vda,Vna,Vm];have e:=b fun l=>wY n q l - 1;have f:=ZeG (wY n q) (Zbi n q) sub;omega
 ·obtain⟨i,o⟩:=Vaa j;obtain⟨r0,w,A,_⟩:=v i r o;rcases A m D with e|⟨e,_⟩
  ·rcases C r0 (Vja w) m e with f|f
   ·grind
   ·right;intro z E;rcases f z E with g|g
    ·exact c z g
    ·exact a12 z g
  grind
theorem ZrN(hW:Whole n)(hT:WB n)(h3:q.2.2.2.2.1<=3)(hq:q.2.2.2.2.2.1<=86400){S:ZW->Prop}(hS:∀y,S y->YG F hF n q y/\ ∀z∈Ye n q y,S z){B:Nat}(hB:B<=549755813888):
 ∀(m:Nat) (x:FX) (N:Nat),((Jr x).map (wY n q)).sum<=m->GU F hF n q S B x N->∃l D,run GA x=some (Xc l)/\GU F hF n q S B l D/\Jr l=[]/\ ∀y,Cvd F x y->Cvd F l y:=by
 intro m
 induction m with
 |zero=>
  intro x N X b
  have g:Jr x=[]:=by
   cases h:Jr x with
   |nil=>rfl
   |cons u rest=>
    rw[h,Vo,Vp]at X;have:=Zbi n q u;omega
  refine⟨x,N,YC ?_,b,g,fun _ h=>h⟩;unfold GA;have I:x.2.2.2.2.1=[]:=g
  rw[I];rfl
 |succ m ih=>
  intro x N X b
  cases g:Jr x with
  |nil=>
   grind
  |cons u rest=>
   have I:x.2.2.2.2.1=u::rest:=g;have hu:S u:=b.snd.2.1 u (by rw[g];simp);obtain⟨J,H⟩:=hS u hu;obtain⟨Z,b7⟩:=J.ok.stop;have hi:u.1.toNat<(KA x).length:=by rw[b.fin.rows];omega
   have a7:Dm x u=Xz x u.1:=rfl;have b6:Xz x u.1=(KA x)[u.1.toNat]:=by unfold Xz;grind
   have a5:=b.fin.bag u.1.toNat _ (Va hi);have a0:=b.wgt;rw[g,Vo,Vp,Vka]at a0;rw[g,Vo,Vp]at X;have b0:=Zr3 (q:=q) hW hT u;have b5:=ZeG (wY n q) (Zbi n q) (Ye n q u);have b8:=Zbi n q u;have a6:=ZeG (wY n q) (Zbi n q) rest;have E:N+(Ye n q u).length<=549755813888:=by omega
   have a8:(decide ((0:Int)<=(u.1:Int)) && (decide ((u.1:Int).toNat<x.2.2.2.1.length) &&decide ((Dm x u).length<=549755813888)))=true:=by rw[Zi Z,Zi (by assumption),Zi (by grind)];rfl
   generalize a:((x.1,x.2.1,x.2.2.1,x.2.2.2.1,rest,x.2.2.2.2.2):FX)=c;have v:KA c=KA x:=by rw[<-a];rfl
   have P:Jr c=rest:=by rw[<-a];rfl
   have b3:Xc c=Xc x:=by rw[<-a];rfl
   have b4:∀s,Xz c s=Xz x s:=fun s=>by unfold Xz;rw[v]
   have p:XC F hF n q c N:=by
    have h:=b.fin;have hl:=h.lab;have T:=h.cvd;have U:=h.few;rw[g]at hl T U;refine⟨by rw[<-a];exact h.net,by rw[<-a];exact h.que,by rw[<-a];exact h.lnk,by rw[v];exact h.rows,by grind,by rw[v];exact h.bag,⟨?_,?_⟩,by grind,by rw[v,b3];exact h.fd,by rw[b3];exact h.to⟩
    all_goals grind
   have k:(∀r∈KA c,∀y∈r,S y)/\(∀y∈Jr c,S y)/\ ∀y∈Xc c,S y:=by
    have hs:=b.snd
    grind
   by_cases V:u∈Xz x u.1
   ·
    have G:(Dm x u).any (fun y=>decide (y=u))=true:=by grind
    obtain⟨x1,k1,K⟩:=Zr7 hW hT h3 hq J p E
    have t:GU F hF n q S B x1 (N+(Ye n q u).length):=by
     refine GU.adds ?_ p k (fun r A m f=>?_) (fun z C=>⟨H z C,(hS z (H z C)).1.ok⟩) K
     ·rw[P];omega
     ·rw[v]at A;rcases b.cls r A m f with h|h
      ·grind
      ·right;intro z C;obtain⟨o,w,j⟩:=h z C;exact .inl ⟨o,by grind,j⟩
    have Y:((Jr x1).map (wY n q)).sum<=m:=by
     obtain⟨sub,a1,a2,a3,a4,_,a9,M,_⟩:=K
     grind
    obtain⟨l,D,w,j,Q,R⟩:=ih x1 _ Y t;refine⟨l,D,?_,j,Q,fun y hy=>R y ?_⟩
    ·rw[<-w];refine Ho ?_;unfold GA
     grind
    ·obtain⟨sub,a1,a2,a3,a4,_,a9,M,O,_⟩:=K;obtain⟨o,w,j⟩:=hy;exact O y (by grind)
   ·have G:(Dm x u).any (fun y=>decide (y=u))=false:=by
     grind
    have t:GU F hF n q S B c N:=by
     refine⟨p,k,by rw[P];omega,fun r A m f=>?_⟩;rw[v]at A;rcases b.cls r A m f with h|h
     ·rw[g,Vfa]at h;rcases h with rfl|h
      ·exfalso;obtain⟨i,W⟩:=Vaa A;have e:=(b.fin.bag i r W).1 m f;apply V;unfold Xz;simp [*]
      grind
     ·right;intro z C;obtain⟨o,w,j⟩:=h z C;exact⟨o,by grind,j⟩
    obtain⟨l,D,w,j,Q,R⟩:=ih c N (by rw[P];omega) t;refine⟨l,D,?_,j,Q,fun y ⟨o,k1,K⟩=>R y ⟨o,by grind,K⟩⟩;rw[<-w];refine Ho ?_;unfold GA
    grind
end Q
namespace Q
open Tr Go
variable {n:Zg}{q:Zw}
def Wn(q:Zw)(t:Int):Zw:=(q.1,q.2.1,t,false,q.2.2.2.2)
theorem ZgK{p p' :ZB}(a:p.2.2.1=p'.2.2.1)(e:p.2.2.2.1=p'.2.2.2.1)(f:p.2.2.2.2.1=p'.2.2.2.2.1)(g:p.2.2.2.2.2.1=p'.2.2.2.2.2.1)(i b c:Nat)(st:Bool)(v:ZT):ZU n p i b c st v=ZU n p' i b c st v:=by
 unfold ZU
 grind
theorem Znl{F:Z9}{hF:FO F}{Q:Zw}{l:ZB}(b:LI F hF n Q l)(j:0<l.2.2.1)(d:Int):Yu l.2.2.2.2.2.1 d=l.2.2.2.2.2.1:=by
 match hL:l.2.2.2.2.2.1 with
 |[]=>rfl
 |[x]=>
  cases e:x.1 with
  |true=>exact Zc4 e d
  |false=>
   exfalso;have g:=(b.adj x hL e).2.2;have c:=b.rgo;rw[hL,D1,Zf (by grind),Zf (by grind),Zf (by grind)]at c
   have f:([]:List ZT)=KL l.2.2.2.2.1++(if l.1.1=1 then [l.1.2.2.2.2.1] else []):=(Vtc c).1
   have a:=congrArg Vg f;rw[Vm]at a;have h:=b.cnt
   grind
 |x::y::L=>rfl
structure SL (n:Zg) (q:Zw) (d:Int) (l:ZB):Prop where
 rc:Rc n (KQ (Wn q d)) (W8 n (KQ (Wn q d))) l
 nz:0<l.2.2.1
 kind:l.1.1=1\/l.1.1=2
 head:∃x L,l.2.2.2.2.2.1=x::L/\x.2.2.2.2.2.2.1=d
def Gp(n:Zg)(q:Zw)(d:Int)(y:ZW):Prop:= ∃l,SL n q d l/\(l.1.1=1->Hf n l=true)/\y=Kw n l
structure Cx (n:Zg) (q:Zw) (d:Int) (hF:FO n.2.2.2.2.2.1):Prop where
 whole:Whole n
 tin:WB n
 li0:LI n.2.2.2.2.2.1 hF n (KQ (Wn q d)) (W8 n (KQ (Wn q d)))
 nch:q.2.2.2.2.2.2.2.2.2.1=false
 max:q.2.2.2.2.1<=3
 wlk:q.2.2.2.2.2.1<=86400
 mom:0<=d/\d<=3155932800
variable {d:Int}{hF:FO n.2.2.2.2.2.1}
theorem Cx.qi(h:Cx n q d hF):QI (KQ (Wn q d)):=⟨by show q.2.2.2.2.1<=7;have:=h.max;omega,h.wlk⟩
theorem Cx.li(h:Cx n q d hF){l:ZB}(a:Rc n (KQ (Wn q d)) (W8 n (KQ (Wn q d))) l):LI n.2.2.2.2.2.1 hF n (KQ (Wn q d)) l:=a.li h.whole h.tin h.qi h.li0
theorem Zph{l:ZB}(h:l.1.1≠1):ZR l=l:=by unfold ZR;grind
theorem ZlW(h:Cx n q d hF){l:ZB}(a:SL n q d l)(g:l.1.1=1->Hf n l=true)(I:l.2.2.1<q.2.2.2.2.1){j b c:Nat}(y:j<n.2.2.1.length)(k:b<c)(t:c<(Zs n j).length)(e:YP n j=false)(m:(Zk n j b).2.2.2.1=true)(B:(Zk n j b).1=l.1.2.1)
 (f:(Kw n l).2.2.1<=(Zk n j b).2.2.1\/(l.2.1<=(Zk n j b).2.2.1/\Zd4 n l j b=true)) (A:H9 n j c=true):SL n q d (ZU n (JV (Kw n l)) j b c false (JO (Zk n j b).2.2.1)):=by
 obtain⟨J,D,K,E,G⟩:=Zdn l;have o:=h.li a.rc
 have w:(Kw n l).2.2.1=GC n (KQ (Wn q d)) l:=by
  unfold Kw GC;rcases a.kind with z|z
  all_goals grind
 have v:ZU n (JV (Kw n l)) j b c false (JO (Zk n j b).2.2.1)=ZU n (Hi n (ZR l) j b) j b c false (JO (Zk n j b).2.2.1):=by
  refine ZgK (n:=n) (p:=JV (Kw n l)) (p' :=Hi n (ZR l) j b) ?_ ?_ rfl ?_ j b c false (JO (Zk n j b).2.2.1)
  ·show l.2.2.1+1=(ZR l).2.2.1+1;omega
  ·exact E.symm
  ·show l.2.2.2.2.2.1=Yu (ZR l).2.2.2.2.2.1 _;rw[G,Znl o a.nz]
 have C:ZU n (JV (Kw n l)) j b c false (JO (Zk n j b).2.2.1)∈GM n (KQ (Wn q d)) l:=by
  refine RR.2 (.inr (.inl ⟨g,Zcc.2 ⟨j,b,c,y,k,t,⟨e,m,by grind,by omega,?_⟩,?_,A,v⟩⟩))
  ·rw[D];rcases f with f|⟨f,r⟩
   ·omega
   ·refine .inr ⟨f,?_⟩;unfold Zd4 at r⊢
    grind
  ·show (ZR l).2.2.1≠q.2.2.2.2.1;omega
 obtain⟨x,L,H,s⟩:=a.head;refine⟨.step a.rc C,?_,.inl rfl,x,L++[Km n j b c false],?_,s⟩
 ·show 0<l.2.2.1+1;have:=a.nz;omega
 ·show l.2.2.2.2.2.1++_=_
  grind
theorem ZeK(h:Cx n q d hF):∀(K:Nat) (p:ZB) (i b:Nat) (st:Bool) (v:ZT),i<n.2.2.1.length->(YP n i=false->∀c,b<c->c<(Zs n i).length->H9 n i c=true->SL n q d (ZU n p i b c st v))->∀y∈W0 n q K p i b st v,Gp n q d y
 |0,p,i,b,st,v,_,_,y,a=>by unfold W0 at a;grind
 |K+1,p,i,b,st,v,hi,U,y,a=>by
  have Z:=h.whole.ok;unfold W0 at a;split at a
  ·grind
  rename_i a1;have f:YP n i=false:=by grind
  obtain⟨m,hm,a⟩:=Vd.1 a;rw[Vr]at hm;have s:b<b+1+m:=by omega
  have N:b+1+m<(Zs n i).length:=by omega
  generalize b+1+m=c at*;unfold RT at a;rw[Vi]at a;rcases a with a|a
  ·obtain⟨rfl,r,_⟩:=Zg0 a;have w:(Zk n i c).2.2.2.2.1=true:=r;exact⟨_,U f c s N (by unfold H9;grind),fun _=>r,rfl⟩
  ·obtain⟨k,hk,a⟩:=Vd.1 a;have P:k∈WT n i:=hk;obtain⟨o,j,I,G,e,O,a3,a0,a2,t,V,g⟩:=RP Z P;unfold HI at a;rw[e]at a;simp only[Vk]at a;split at a
   ·grind
   rename_i B
   have J:o=c:=by
    by_cases T:((o:Nat):Int)=(c:Int)
    ·omega
    ·exact absurd (.inl T) B
   subst J
   have Q:(Zk n i o).2.1<=(Zk n j I).2.2.1:=by have:¬(Zk n j I).2.2.1<(Zk n i o).2.1:=fun T=>B (.inr T);omega
   split at a
   ·rename_i E;have l:G=true:=E;subst l;obtain⟨_,rfl⟩:=V rfl
    have a4:Zhw n i o=true:=by unfold Zhw;rw[Vsa];exact⟨_,g,by simp⟩
    have A:=U f o s N (by unfold H9;grind);refine ZeK h K _ j 0 true _ O (fun z H M W X=>?_) y a;obtain⟨x,L,e1,Y⟩:=A.head;refine⟨.step A.rc (RR.2 (.inl ⟨rfl,ZgU.2 ⟨_,g,⟨rfl,rfl,rfl,?_,?_⟩,H,M,?_,?_,rfl⟩⟩)),A.nz,.inl rfl,x,L++[Km n j 0 H true],?_,Y⟩
    ·grind
    ·grind
    ·grind
    ·grind
    ·show (ZU n p i b o st v).2.2.2.2.2.1++_=_
     grind
   ·split at a
    ·rename_i E S;have l:G=false:=by grind
     subst l;obtain⟨C,D⟩:=S
     have r:Hf n (ZU n p i b o st v)=true:=by
      unfold YV at C
      grind
     have w:(Zk n i o).2.2.2.2.1=true:=r;have A:=U f o s N (by unfold H9;grind);unfold Hg at a;split at a
     ·rename_i R;refine ZeK h K _ j I false _ O (fun z H M W X=>?_) y a;refine ZlW h A (by grind) R O M W z D t.symm (.inr ⟨Q,?_⟩) X;unfold Zd4;rw[Vsa];exact⟨_,g,by simp [ZU]⟩
     grind
    grind
theorem Zr6(h:Cx n q d hF){y:ZW}(C:Gp n q d y):∀z∈Ye n q y,Gp n q d z:=by
 obtain⟨l,g,f,rfl⟩:=C;obtain⟨D,E,G,H,M⟩:=Zdn l;intro z b;unfold Ye at b;rw[Vi]at b;rcases b with b|b
 ·unfold GI at b;obtain⟨i,k,b⟩:=Vd.1 b;obtain⟨c,v,b⟩:=Vd.1 b;rw[Vr]at k v;split at b
  ·rename_i a;unfold Hh Hg at b;split at b
   ·rename_i m;refine ZeK h 100 _ i c false _ k (fun j I r s t=>?_) z b;exact ZlW h g f m k r s j a.2.1 a.1 (.inl a.2.2) t
   grind
  grind
 ·split at b
  ·rename_i e;have K:l.1.1=1:=J9 e;unfold Zbk at b;obtain⟨p,w,b⟩:=Vd.1 b;split at b
   ·rename_i a;rw[Vj]at b;subst b
    have B:JZ (ZR l) p∈GM n (KQ (Wn q d)) l:=by
     refine RR.2 (.inr (.inr ⟨f,by omega,Zd8.2 ⟨p,w,⟨?_,?_,?_⟩,rfl⟩⟩))
     ·rw[D];exact a.1
     ·rw[H];exact a.2.1
     ·rw[E];exact a.2.2
    obtain⟨x,L,J,o⟩:=g.head;refine⟨JZ (ZR l) p,⟨.step g.rc B,?_,.inr rfl,x,L++[WY (ZR l).1.2.1 p.2.1 (ZR l).2.1 ((ZR l).2.1+p.2.2.1)],?_,o⟩,fun A=>absurd A (by show¬(2:Int)=1;decide),?_⟩
    ·show 0<(ZR l).2.2.1;rw[G];exact g.nz
    ·show (ZR l).2.2.2.2.2.1++_=_
     grind
    ·unfold Du Kw;rw[Zph (l:=JZ (ZR l) p) (by show¬(2:Int)=1;decide),Zf (show¬(JZ (ZR l) p).1.1=1 by show¬(2:Int)=1;decide),Zv (show¬(JZ (ZR l) p).1.1=1 by show¬(2:Int)=1;decide)];show _=((p.2.1,(ZR l).2.1+p.2.2.1,(ZR l).2.1+p.2.2.1,(ZR l).2.2.1,(ZR l).2.2.2.1+p.2.2.1,false,(ZR l).2.2.2.2.1,(ZR l).2.2.2.2.2.1++[WY (ZR l).1.2.1 p.2.1 (ZR l).2.1 ((ZR l).2.1+p.2.2.1)],()):ZW)
     grind
   grind
  grind
end Q
namespace Q
open Tr Go
variable {n:Zg}{q:Zw}{d:Int}{hF:FO n.2.2.2.2.2.1}
theorem ZlY(h:Cx n q d hF){y:ZW}(k:Gp n q d y):YG n.2.2.2.2.2.1 hF n q y:=by obtain⟨l,f,e,rfl⟩:=k;have a:=h.li f.rc;obtain⟨b,m,c3⟩:=ZfI h.qi a;have c:=a.val.walk;have o:=h.wlk;have g:=a.val.time;have j:l.2.2.2.1<=q.2.2.2.2.2.1:=c.2;exact⟨⟨b.fare.1,b.fare.2,a.val.stop⟩,c3,a.val.rides.2,⟨c.1,by show l.2.2.2.1<=_;omega⟩,⟨g.1,by show l.2.1<=_;omega⟩,by show l.2.2.2.2.2.1.length<=_;have:=a.val.len;omega⟩
def Zh5(n:Zg)(q:Zw)(w:Jn):Prop:=(w.1=q.1/\w.2.1=0)\/ ∃p∈n.2.2.2.2.1,p.1=q.1/\p.2.2.1<=q.2.2.2.2.2.1/\w.1=p.2.1/\w.2.1=p.2.2.1
theorem Zuq(h:Cx n q d hF){w:Jn}(P:Zh5 n q w):∀z∈HR n q d w,Gp n q d z:=by
 have C:=h.whole.ok;intro z f;unfold HR at f;obtain⟨i,k,f⟩:=Vd.1 f;obtain⟨c,E,f⟩:=Vd.1 f;rw[Vr]at k E;split at f
 ·rename_i g;obtain⟨v,x,J⟩:=g;unfold Hh Hg at f;split at f
  ·rename_i s;have G:(0:Int)<q.2.2.2.2.1:=s;refine ZeK h 100 _ i c false _ k (fun j b y A B=>?_) z f;have a:ZR (W8 n (KQ (Wn q d)))=W8 n (KQ (Wn q d)):=by rfl
   have K:GC n (KQ (Wn q d)) (W8 n (KQ (Wn q d)))=d:=by unfold GC;rw[Zf (by show¬(0:Int)=1;decide),Zf (by show¬(0:Int)=2;decide),Zf (by rw[show (KQ (Wn q d)).2.2.2.2.2.2.2.2.2.1=q.2.2.2.2.2.2.2.2.2.1 from rfl,h.nch];decide)];show d+0=d;omega
   rcases P with ⟨t,I⟩|⟨p,H,Q,R,t,I⟩
   ·have r:ZU n (JV (H4 n q d w)) i c b false (JO (Zk n i c).2.2.1)=ZU n (Hi n (ZR (W8 n (KQ (Wn q d)))) i c) i c b false (JO (Zk n i c).2.2.1):=by
     refine ZgK (n:=n) (p:=JV (H4 n q d w)) (p' :=Hi n (ZR (W8 n (KQ (Wn q d)))) i c) rfl ?_ ?_ ?_ i c b false (JO (Zk n i c).2.2.1)
     ·assumption
     ·rfl
     ·rw[a]
      show (if 0<w.2.1 then _ else [])=_
      rw[Zf (by omega)];rfl
    refine⟨.step .start (RR.2 (.inr (.inl ⟨fun l=>absurd l (by show¬(0:Int)=1;decide),Zcc.2 ⟨i,c,b,k,y,A,⟨j,x,?_,by omega,.inl ?_⟩,?_,B,r⟩⟩))),by show (0:Int)<0+1;decide,.inl rfl,Km n i c b false,[],?_,?_⟩
    ·rw[a,v,t];rfl
    ·omega
    ·rw[a];show (0:Int)≠q.2.2.2.2.1;omega
    ·show (if 0<w.2.1 then _ else [])++[Km n i c b false]=_
     grind
    ·show (Zk n i c).2.2.1=d;omega
   ·have N:=C.path p H;have O:=C.time k E
    have o:JZ (ZR (W8 n (KQ (Wn q d)))) p∈GM n (KQ (Wn q d)) (W8 n (KQ (Wn q d))):=by
     refine RR.2 (.inr (.inr ⟨fun l=>absurd l (by show¬(0:Int)=1;decide),by show¬(0:Int)=2;decide,Zd8.2 ⟨p,H,⟨?_,?_,?_⟩,rfl⟩⟩))
     ·assumption
     ·rw[a];show 0+p.2.2.1<=q.2.2.2.2.2.1;omega
     ·rw[a];show d+p.2.2.1<=_;omega
    rw[a]at o;have m:Rc n (KQ (Wn q d)) (W8 n (KQ (Wn q d))) (JZ (W8 n (KQ (Wn q d))) p):=.step .start o;have e:ZR (JZ (W8 n (KQ (Wn q d))) p)=JZ (W8 n (KQ (Wn q d))) p:=by rfl
    have M:(JZ (W8 n (KQ (Wn q d))) p).2.2.2.2.2.1=[WY q.1 p.2.1 d (d+p.2.2.1)]:=rfl
    have D:Yu [WY q.1 p.2.1 d (d+p.2.2.1)] (Zk n i c).2.2.1=[WY q.1 p.2.1 d (d+p.2.2.1)]:=by rw[Zc5 rfl,J,I];unfold WY;simp
    have r:ZU n (JV (H4 n q d w)) i c b false (JO (Zk n i c).2.2.1)=ZU n (Hi n (ZR (JZ (W8 n (KQ (Wn q d))) p)) i c) i c b false (JO (Zk n i c).2.2.1):=by
     refine ZgK (n:=n) (p:=JV (H4 n q d w)) (p' :=Hi n (ZR (JZ (W8 n (KQ (Wn q d))) p)) i c) ?_ ?_ ?_ ?_ i c b false (JO (Zk n i c).2.2.1)
     ·rfl
     ·rw[e];show w.2.1=0+p.2.2.1;omega
     ·rfl
     ·rw[e]
      show (if 0<w.2.1 then [WY q.1 w.1 d (d+w.2.1)] else [])=Yu (JZ (W8 n (KQ (Wn q d))) p).2.2.2.2.2.1 _
      grind
    refine⟨.step m (RR.2 (.inr (.inl ⟨fun l=>absurd l (by show¬(2:Int)=1;decide),Zcc.2 ⟨i,c,b,k,y,A,⟨j,x,?_,by omega,.inl ?_⟩,?_,B,r⟩⟩))),by show (0:Int)<0+1;decide,.inl rfl,WY q.1 w.1 d (d+w.2.1),[Km n i c b false],?_,rfl⟩
    ·rw[e,v,t];rfl
    ·unfold GC;rw[Zf (show¬(JZ (W8 n (KQ (Wn q d))) p).1.1=1 by show¬(2:Int)=1;decide),Zr (by rfl)];show d+p.2.2.1<=_;omega
    ·rw[e];show (0:Int)≠q.2.2.2.2.1;omega
    ·show (if 0<w.2.1 then [WY q.1 w.1 d (d+w.2.1)] else [])++[Km n i c b false]=_
     grind
  grind
 grind
def Kt(n:Zg)(q:Zw):List Jn:=(q.1,0,())::(n.2.2.2.2.1.filter fun p=>decide (p.1=q.1) &&decide (p.2.2.1<=q.2.2.2.2.2.1)).map fun p=>(p.2.1,p.2.2.1,())
theorem ZhP{w:Jn}(h:w∈Kt n q):Zh5 n q w:=by
 unfold Kt at h;rw[Vfa,Vdc]at h;rcases h with rfl|⟨p,a,rfl⟩
 ·exact .inl ⟨rfl,rfl⟩
 ·rw[Vba,Vl,WC,WC]at a;exact .inr ⟨p,a.1,a.2.1,a.2.2,rfl,rfl⟩
theorem ZmH(b:Whole n)(a:WB n)(w:Jn):((HR n q d w).map (wY n q)).sum<=rW n (q.2.2.2.2.1 - 0).toNat w.1:=ZlA (q:=q) b a (H4 n q d w) (fun i c=>ZbK n d w i c) fun i c h=>h.1
theorem ZtV(b:Whole n)(a:WB n):((YZ n q (Kt n q) d).map (wY n q)).sum<=gW (q.2.2.2.2.1 - 0).toNat:=by
 unfold YZ;rw[ZeE];unfold Kt;rw[Vo,Vp,List.map_map];have f:=ZmH (q:=q) (d:=d) b a (q.1,0,())
 have g:((n.2.2.2.2.1.filter fun p=>decide (p.1=q.1) &&decide (p.2.2.1<=q.2.2.2.2.2.1)).map ((fun w:Jn=>((HR n q d w).map (wY n q)).sum) ∘fun p=>(p.2.1,p.2.2.1,()))).sum<=((n.2.2.2.2.1.filter fun p=>decide (p.1=q.1)).map fun p=>1+rW n (q.2.2.2.2.1 - 0).toNat p.2.1).sum:=by
  generalize n.2.2.2.2.1=P
  induction P with
  |nil=>simp
  |cons p P j=>
   by_cases c:p.1=q.1
   ·rw[Vhb (p:=fun p:Kg=>decide (p.1=q.1)) (Zi c),Vo,Vp];by_cases e:p.2.2.1<=q.2.2.2.2.2.1
    ·rw[Vhb (by grind),Vo,Vp];have:=ZmH (q:=q) (d:=d) b a (p.2.1,p.2.2.1,())
     grind
    grind
   grind
 have h:=ZkJ b a (q.2.2.2.2.1 - 0).toNat q.1
 grind
theorem ZqU{k:Nat}(h:k<=3):gW k<=549755813888:=by
 have a:∀k,gW k<=gW (k+1):=fun k=>by show gW k<=61+1890*gW k;omega
 have b:gW 0<=gW 1:=a 0;have c:gW 1<=gW 2:=a 1;have e:gW 2<=gW 3:=a 2;have f:gW 3<=549755813888:=by decide
 rcases (show k=0\/k=1\/k=2\/k=3 by omega) with rfl|rfl|rfl|rfl<;>omega
theorem ZpR(h:Cx n q d hF)(H:∀x∈n.2.2.2.2.2.1.1,x.1.length<=9223372036854775807)(t:0<=q.2.2.2.2.1)(f:0<=q.1/\q.1<(n.1.length:Int)):
 ∃(x:FX) (N:Nat),DL n q (Kt n q) d=some ((Xc x).map some)/\(Xc x).length<=549755813888/\GU n.2.2.2.2.2.1 hF n q (Gp n q d) (((YZ n q (Kt n q) d).map (wY n q)).sum) x N/\Jr x=[]/\ ∀z∈YZ n q (Kt n q) d,Cvd n.2.2.2.2.2.1 x z:=by
 have D:=h.whole.ok
 have j:Zh6 n (Kt n q):=fun w g=>by
  rcases ZhP g with ⟨M,O⟩|⟨p,I,p1,p2,M,O⟩
  ·omega
  ·have:=D.path p I;omega
 have c:(Kt n q).length<=1000:=by unfold Kt;rw[Vka,Vw];have v:=Vs (fun p:Kg=>decide (p.1=q.1) &&decide (p.2.2.1<=q.2.2.2.2.2.1)) n.2.2.2.2.1;have:=h.tin.paths;omega
 have l:((YZ n q (Kt n q) d).map (wY n q)).sum<=549755813888:=Vy (ZtV h.whole h.tin) (ZqU (by have:=h.max;omega));have C:=Vy (Zkm (n:=n) (q:=q) (YZ n q (Kt n q) d)) l;obtain⟨P,Y,m⟩:=Zov h.whole h.tin (hF:=hF) H h.max t h.mom j c C;have E:∀y,Gp n q d y->YG n.2.2.2.2.2.1 hF n q y/\ ∀z∈Ye n q y,Gp n q d z:=fun y b=>⟨ZlY h b,Zr6 h b⟩
 have e:∀z∈YZ n q (Kt n q) d,Gp n q d z:=fun z a=>by unfold YZ at a;obtain⟨w,g,a⟩:=Vd.1 a;exact Zuq h (ZhP g) z a
 have G:∀r∈KA (H8 n q),r=[]:=fun r X=>Vcb (by assumption)
 have A:=GU.adds (S:=Gp n q d) (B:=((YZ n q (Kt n q) d).map (wY n q)).sum) (hF:=hF) (x:=H8 n q) (u:=YZ n q (Kt n q) d) (by have:=ZeG (wY n q) (Zbi n q) (YZ n q (Kt n q) d);show 0+_+0+_<=_+0;omega) (ZkD n q) ⟨by grind,fun y b=>(by cases b),fun y b=>(by cases b)⟩ (by grind) (fun z a=>⟨e z a,(ZlY h (e z a)).ok⟩) m
 obtain⟨x,N,Z,k,J,K⟩:=ZrN h.whole h.tin h.max h.wlk E l _ P _ (Vt _) A;refine⟨x,N,?_,?_,k,J,fun z a=>K z ?_⟩
 ·unfold DL
  grind
 ·have v:=k.fin.few.2;have W:=k.wgt
  grind
 ·obtain⟨sub,Q,R,T,U,_,V,o,s,a12⟩:=m;exact a12 z a
end Q
namespace Q
open Tr Go
def Jj(c:Jc):List Int:=[c.1,c.2.1,c.2.2.1]
def JH(c e:Jc):Prop:=c.1=e.1/\c.2.1=e.2.1/\c.2.2.1=e.2.2.1
instance (c e:Jc):Decidable (JH c e):=by unfold JH;infer_instance
def Wi(c e:Jc):Prop:=e.1<=c.1/\c.2.1<=e.2.1/\c.2.2.1<=e.2.2.1
instance (c e:Jc):Decidable (Wi c e):=by unfold Wi;infer_instance
def ZcP(c e:Jc):Prop:=c.2.2.2.1<e.2.2.2.1\/(c.2.2.2.1=e.2.2.2.1/\c.2.2.2.2.1<=e.2.2.2.2.1)
def W1(c e:Jc):Prop:=Wi c e/\(JH c e->ZcP c e)
theorem Wi.refl(c:Jc):Wi c c:=⟨Vga _,Vga _,Vga _⟩
theorem Wi.trans{a b c:Jc}(h:Wi a b)(k:Wi b c):Wi a c:=by unfold Wi at*;omega
theorem W1.refl(c:Jc):W1 c c:=⟨Wi.refl c,fun _=>.inr ⟨rfl,Vga _⟩⟩
theorem W1.trans{a b c:Jc}(h:W1 a b)(k:W1 b c):W1 a c:=by refine⟨h.1.trans k.1,fun j=>?_⟩;have g:=h.1;have l:=k.1;unfold JH Wi at*;have e:=h.2 (by unfold JH;omega);have f:=k.2 (by unfold JH;omega);unfold ZcP at*;omega
def WR(c:Jc)(x:Wp):Bool:=decide (¬JH c x.2.1/\Wi c x.2.1)
theorem ZeQ{c e:Jc} :Jj c=Jj e↔JH c e:=by unfold Jj JH;simp
theorem Zgf:∀a b:List Int,a.length=b.length->Tr.eqEl.eqs (Tr.eqEl (.int .i64)) a b=some (decide (a=b))
 |[],[],_=>rfl
 |[],_::_,h=>by cases h
 |_::_,[],h=>by cases h
 |x::a,y::b,h=>by have c:=Zgf a b (by grind);unfold Tr.eqEl.eqs;rw[c];simp only[Tr.eqEl,Za];simp
theorem Zk8(c e:Jc):F118 (Jj c) (Jj e)=some (decide (¬JH c e/\Wi c e)):=by
 unfold F118;rw[Zgf (Jj c) (Jj e) rfl];have g:∀c:Jc,(Jj c)[Vua (0:Int)]? =some c.1/\(Jj c)[Vua (1:Int)]? =some c.2.1/\(Jj c)[Vua (2:Int)]? =some c.2.2.1:=fun c=>⟨rfl,rfl,rfl⟩;simp only[Za,(g c).1,(g c).2.1,(g c).2.2,(g e).1,(g e).2.1,(g e).2.2];by_cases a:JH c e
 ·rw[Zi (p:=Jj c=Jj e) (ZeQ.2 a),Zv (p:= ¬JH c e/\Wi c e) (fun h=>h.1 a)];rfl
 rw[Zv (p:=Jj c=Jj e) (fun h=>a (ZeQ.1 h))];simp only[Vqa,Zc];by_cases b:e.1<=c.1
 case neg=>rw[Zv b,Zv (p:= ¬JH c e/\Wi c e) (fun h=>b h.2.1)];rfl
 rw[Zi b];by_cases f:c.2.1<=e.2.1
 case neg=>rw[Zv f,Zv (p:= ¬JH c e/\Wi c e) (fun h=>f h.2.2.1)];rfl
 rw[Zi f];by_cases j:c.2.2.1<=e.2.2.1
 ·rw[Zi j,Zi (p:= ¬JH c e/\Wi c e) ⟨a,b,f,j⟩];rfl
 ·rw[Zv j,Zv (p:= ¬JH c e/\Wi c e) (fun h=>j h.2.2.2)];rfl
theorem Zif(c:Jc)(x:Wp):F95 x (Jj c)=some (WR c x):=by unfold F95 F115;have h:F118 (Jj c) [x.2.1.1,x.2.1.2.1,x.2.1.2.2.1]=some (WR c x):=Zk8 c x.2.1;simp only[Za,h]
theorem Zno(c:Jc){l:List Wp}(m:l.length<=549755813888):(F155 l (Jj c,())=some (-1)/\ ∀x∈l,WR c x=false)\/ ∃i,∃a:i<l.length,F155 l (Jj c,())=some (i:Int)/\(∀x∈l.take i,WR c x=false)/\WR c l[i]=true:=by
 unfold F155
 suffices g:∃r:Unit ⊕ Int,_=some r/\((r=.inl ()/\ ∀x∈l,WR c x=false)\/ ∃i:Nat,∃a:i<l.length,r=.inr (i:Int)/\(∀x∈l.take i,WR c x=false)/\WR c l[i]=true) by
  obtain⟨r,e,f⟩:=g;rcases f with ⟨rfl,h⟩|⟨i,a,rfl,h⟩
  ·exact .inl ⟨WE (fun x=>x=Sum.inl ()) ⟨_,e,rfl⟩ (fun x b=>by subst b;rfl),h⟩
  grind
 refine Wa l.length (fun r:Unit ⊕ Int=>(r=.inl ()/\ ∀x∈l,WR c x=false)\/ ∃i:Nat,∃a:i<l.length,r=.inr (i:Int)/\(∀x∈l.take i,WR c x=false)/\WR c l[i]=true) (fun i (s:Int)=>s=(i:Int)/\ ∀x∈l.take i,WR c x=false) ?_ ?_ _ (by simp)
 ·rintro i _ a ⟨rfl,h⟩;have b:idx l (i:Int)=some l[i]:=ZI a;have j:∀w,w∈l.take (i+1)↔w∈l.take i\/w=l[i]:=fun w=>by rw[Vh a,Vi,Vj]
  simp only[ZV a,Zc,b,Za,Zif c]
  cases k:WR c l[i] with
  |true=>grind
  |false=>
   refine .inl ⟨_,rfl,Ka a (by omega),fun w o=>?_⟩
   grind
 simp
theorem Znj(c:Jc){l:List Wp}(N:l.length<=549755813888):F153 l (Jj c,())=some (l.filter fun x=> !WR c x):=by
 unfold F153;rcases Zno c N with ⟨g,I⟩|⟨b,z,g,I,G⟩
 ·rw[g];simp only[Za,decide_true,Zc];rw[List.filter_eq_self.2 (by grind)]
 ·rw[g];have C:Ve .i64 ((b:Int)+1)=((b+1:Nat):Int):=by rw[Z1 (by omega) (by omega)];omega
  simp only[Za,Zv (show¬(b:Int)= -1 by omega),Ze,C];refine WE (fun r:List Wp×Int=>∃k:Nat,r.2=(k:Int)/\k<=l.length/\r.1.length=l.length/\r.1.take k=l.filter fun x=> !WR c x) ?_ ?_
  ·have t:(l.take b).filter (fun x=> !WR c x)=l.take b:=by simp_all
   refine Wa (l.length - (b+1)) _ (fun r (s:List Wp×Int×Int)=>∃k:Nat,s.2=((k:Int),((b+1+r:Nat):Int))/\k<=b+1+r/\s.1.length=l.length/\(s.1.take k=(l.take (b+1+r)).filter fun x=> !WR c x)/\s.1.drop (b+1+r)=l.drop (b+1+r)) ?_ ?_ _ ⟨b,rfl,by omega,rfl,?_,rfl⟩
   ·rintro r ⟨fr,_⟩ S ⟨k,rfl,v,a,f,h⟩;left;simp only at a f h;have H:b+1+r<l.length:=by omega
    generalize M:b+1+r=i at*;have w:i<fr.length:=by omega
    have y:fr[i]? =some l[i]:=by have g:=congrArg List.head? h;rw[Vnc,Vnc,Va H]at g;omega
    have m:(l.take (i+1)).filter (fun x=> !WR c x)=(l.take i).filter (fun x=> !WR c x)++(if WR c l[i]=true then [] else [l[i]]):=by
     rw[Vh H,Vpa]
     grind
    have j:fr.drop (i+1)=l.drop (i+1):=by have g:=congrArg (Vlb 1) h;rw[Vpc,Vpc]at g;omega
    have p:decide ((i:Int)<((fr.length:Nat):Int))=true:=by grind
    have D:Ve .i64 ((i:Int)+1)=((b+1+(r+1):Nat):Int):=by rw[Z1 (by omega) (by omega)];omega
    have A:b+1+(r+1)=i+1:=by omega
    simp only[p,Zc,KT w,y,Za,Zif c,D];rw[A]
    cases J:WR c l[i] with
    |true=>
     rw[Zr J,Vz]at m
     exact⟨_,rfl,k,rfl,by omega,a,by grind,j⟩
    |false=>
     rw[Zf (by grind)]at m;have o:k<fr.length:=by omega
     have E:Ve .i64 ((k:Int)+1)=((k+1:Nat):Int):=by rw[Z1 (by omega) (by omega)];omega
     simp only[Vqa,Zc,KT o,Za,Va o,E];refine⟨_,rfl,k+1,rfl,by omega,by grind,?_,?_⟩
     ·have R:(fr.set k l[i]).take (k+1)=fr.take k++[l[i]]:=by rw[Vh (by grind),List.take_set_of_le (Vt _),Vmb]
      grind
     ·rw[List.drop_set_of_lt (by omega)];omega
   ·rintro ⟨fr,_⟩ ⟨k,rfl,v,a,f,_⟩;have e:b+1+(l.length - (b+1))=l.length:=by omega
    rw[e]at f v;rw[Vta]at f;have p:decide (((b+1+(l.length - (b+1)):Nat):Int)<((fr.length:Nat):Int))=false:=by grind
    exact⟨(fr,(k:Int)),by grind,k,rfl,v,a,f⟩
   ·rw[Vcc,Vh z,Vpa,t,List.filter_cons_of_neg (by grind)];simp
  ·rintro ⟨fr,_⟩ ⟨k,rfl,v,a,f⟩;simp only at a f;have B:sliceB fr.length fr.length (some (k:Int)) none=some (k,fr.length):=Zcz (by omega);simp only[B,Za];have K:Zy (decide (k+(fr.length - k)<=fr.length))=some ():=by rw[Zi (by omega)];rfl
   rw[K];simp only[Za];generalize T:Vn (fr.length - k) (((([]:List (El Jp)),()),((0:Int),(0:Int),(0:Int),(0:Int),(0:Int),()),([]:List (El Gq)),()):Wp)=Z;have Q:Z.length=fr.length - k:=by grind
   have O:(Vkb k fr++Z++Vlb (k+(fr.length - k)) fr).length=fr.length:=by
    grind
   have P:sliceB (Vkb k fr++Z++Vlb (k+(fr.length - k)) fr).length (Vkb k fr++Z++Vlb (k+(fr.length - k)) fr).length none (some (k:Int))=some (0,k):=by
    unfold sliceB
    grind
   grind
def GS(l:List Wp):Prop:=l.Pairwise fun x y=>¬Wi x.2.1 y.2.1/\ ¬Wi y.2.1 x.2.1
theorem Zsn(c e:Jc):F97 c e=some (decide (c.2.2.2.1<e.2.2.2.1\/(c.2.2.2.1=e.2.2.2.1/\c.2.2.2.2.1<e.2.2.2.2.1))):=by
 unfold F97;by_cases a:c.2.2.2.1<e.2.2.2.1
 ·rw[Zi a,Zi (p:=c.2.2.2.1<e.2.2.2.1\/(c.2.2.2.1=e.2.2.2.1/\c.2.2.2.2.1<e.2.2.2.2.1)) (.inl a)];rfl
 rw[Zv a];by_cases b:c.2.2.2.1=e.2.2.2.1
 ·rw[Zi b];by_cases f:c.2.2.2.2.1<e.2.2.2.2.1
  ·rw[Zi f,Zi (p:=c.2.2.2.1<e.2.2.2.1\/(c.2.2.2.1=e.2.2.2.1/\c.2.2.2.2.1<e.2.2.2.2.1)) (.inr ⟨b,f⟩)];rfl
  ·rw[Zv f,Zv (p:=c.2.2.2.1<e.2.2.2.1\/(c.2.2.2.1=e.2.2.2.1/\c.2.2.2.2.1<e.2.2.2.2.1)) (fun h=>h.elim a fun h=>f h.2)];rfl
 ·rw[Zv b,Zv (p:=c.2.2.2.1<e.2.2.2.1\/(c.2.2.2.1=e.2.2.2.1/\c.2.2.2.2.1<e.2.2.2.2.1)) (fun h=>h.elim a fun h=>b h.1)];rfl
theorem Zsk{l:List Wp}(o:Wp)(hl:l.length+1<=549755813888)(I:GS l):∃g,F94 l o=some g/\(∀x∈g,x∈l\/x=o)/\(∃y∈g,W1 y.2.1 o.2.1)/\(∀x∈l,∃y∈g,W1 y.2.1 x.2.1)/\GS g:=by
 unfold F94;have E:∀c:Jc,F115 c=some (Jj c):=fun c=>rfl;rw[E];simp only[Za]
 suffices hs:∃r:List Wp ⊕ List Wp,run
  (fun(k:List Wp×Int)=>
  bif decide (k.2<(↑(Vg l):Int)) then
  Vf (ZA k.2 (Vg k.1)) fun x2=>
  Vf k.1[x2]? fun V=>
  Vf (F115 V.2.1) fun W=>
  Vf (Tr.eqEl.eqs (Tr.eqEl (Tr.Ty.int .i64)) W (Jj o.2.1)) fun x5=>
  bif x5 then
  Vf (F97 o.2.1 V.2.1) fun x6=>
  Vf
  (bif x6 then Vf (ZA k.2 (Vg k.1)) fun X=>Vf k.1[X]? fun _=>some (Vsb k.1 X o) else some k.1)
  fun x9=>some (.inr (.inr x9))
  else
  Vf (F118 W (Jj o.2.1)) fun P=>
  bif P then some (.inr (.inr k.1)) else some (.inl (k.1,Ve .i64 (k.2+(1:Int))))
  else some (.inr (.inl k.1)))
  (l,(0:Int))=some r/\((r=.inl l/\ ∀x∈l,¬Wi x.2.1 o.2.1)\/(∃g,r=.inr g/\(∀x∈g,x∈l\/x=o)/\(∃y∈g,W1 y.2.1 o.2.1)/\(∀x∈l,∃y∈g,W1 y.2.1 x.2.1)/\GS g)) by
  obtain⟨r,Q,Y⟩:=hs;rcases Y with ⟨rfl,h⟩|⟨g,rfl,h⟩
  ·have Z:=Znj o.2.1 (l:=l) (by omega);have T:=Vs (fun x=> !WR o.2.1 x) l
   have hg:Zy (decide ((l.filter fun x=> !WR o.2.1 x).length+ [o].length<=ZC))=some ():=by have a0:(ZC:Nat)=549755813888:=rfl;rw[Zi (by simp only[Vx];omega)];rfl
   refine⟨(l.filter fun x=> !WR o.2.1 x)++[o],?_,fun x e=>?_,⟨o,by simp,W1.refl _⟩,fun x e=>?_,?_⟩
   ·rw[Q];simp only[Za,Sum.elim_inl,Z,hg]
   ·rw[Vi,Vj]at e;exact e.imp (fun h=>(Vba.1 h).1) id
   ·cases A:WR o.2.1 x with
    |true=>
     have:=J9 A
     exact⟨o,by simp,this.2,fun m=>absurd m this.1⟩
    |false=>exact⟨x,List.mem_append_left _ (Vba.2 ⟨e,by rw[A];rfl⟩),W1.refl _⟩
   ·refine List.pairwise_append.2 ⟨List.Pairwise.filter _ I,by simp,fun x e y U=>?_⟩;rw[Vj]at U;subst U;obtain⟨v,H⟩:=Vba.1 e;refine⟨h x v,fun f=>?_⟩;have D:WR y.2.1 x=false:=by simpa using H
    unfold WR at D;have:=of_decide_eq_false D;apply this;refine⟨fun m=>h x v ?_,f⟩;unfold JH at m;unfold Wi;omega
  ·exact⟨g,by rw[Q];rfl,h⟩
 refine Wa l.length _ (fun i (s:List Wp×Int)=>s=(l,(i:Int))/\ ∀x∈l.take i,¬Wi x.2.1 o.2.1) ?_ ?_ _ ⟨rfl,by simp⟩
 ·rintro i _ t ⟨rfl,h⟩;have N:∀w,w∈l.take (i+1)↔w∈l.take i\/w=l[i]:=fun w=>by rw[Vh t,Vi,Vj]
  have p:=Vc t;have B:=Va t;simp only[ZV t,Zc,KT t,B,Za,E,Zgf _ _ (show (Jj (l[i]).2.1).length=(Jj o.2.1).length from rfl),Zk8,Zsn];by_cases m:JH (l[i]).2.1 o.2.1
  ·right;rw[Zi (ZeQ.2 m)];simp only[Zc];by_cases S:o.2.1.2.2.2.1<(l[i]).2.1.2.2.2.1\/(o.2.1.2.2.2.1=(l[i]).2.1.2.2.2.1/\o.2.1.2.2.2.2.1<(l[i]).2.1.2.2.2.2.1)
   ·rw[Zi S];simp only[Zc,Za]
    have K:W1 o.2.1 (l[i]).2.1:=by unfold JH at m;refine⟨by unfold Wi;omega,fun _=>by unfold ZcP;omega⟩
    have G:o∈l.set i o:=Vob.2 ⟨i,by rw[Voa];exact t,by rw[Vmb]⟩;refine⟨_,rfl,.inr ⟨l.set i o,rfl,fun x e=>List.mem_or_eq_of_mem_set e,⟨o,G,W1.refl _⟩,fun x e=>?_,?_⟩⟩
    ·obtain⟨j,hj,rfl⟩:=Vv e;by_cases C:i=j
     ·subst C;exact⟨o,G,K⟩
     ·exact⟨l[j],Vob.2 ⟨j,by rw[Voa];exact hj,by rw[List.getElem_set_ne C]⟩,W1.refl _⟩
    ·refine Vea.2 fun a b R z J=>?_;rw[Voa]at R z;have M:=Vea.1 I a b R z J;rw[Vgb,Vgb];unfold JH at m;by_cases v:i=a
     ·subst v;rw[Zr rfl,Zf (by omega)];unfold Wi at M⊢;omega
     ·rw[Zf v];by_cases H:i=b
      ·subst H;rw[Zr rfl];unfold Wi at M⊢;omega
      ·rw[Zf H];exact M
   ·rw[Zv S];simp only[Ze,Za];refine⟨_,rfl,.inr ⟨l,rfl,fun x e=>.inl e,⟨l[i],p,?_⟩,fun x e=>⟨x,e,W1.refl _⟩,I⟩⟩;unfold JH at m;refine⟨by unfold Wi;omega,fun _=>by unfold ZcP;omega⟩
  ·rw[Zv (fun h=>m (ZeQ.1 h))];simp only[Ze];by_cases f:Wi (l[i]).2.1 o.2.1
   ·right;rw[Zi ⟨m,f⟩];simp only[Zc];exact⟨_,rfl,.inr ⟨l,rfl,fun x e=>.inl e,⟨l[i],p,f,fun h=>absurd h m⟩,fun x e=>⟨x,e,W1.refl _⟩,I⟩⟩
   ·left;rw[Zv (fun h=>f h.2)];simp only[Ze];refine⟨_,rfl,by rw[Ka t (by omega)],fun w O=>?_⟩;rcases (N w).1 O with O|rfl
    ·exact h w O
    ·exact f
 ·rintro _ ⟨rfl,h⟩;rw[Vta]at h;exact⟨.inl l,by simp only[J1,Ze],.inl ⟨rfl,h⟩⟩
end Q
namespace Q
open Tr Go
variable {n:Zg}{q:Zw}
theorem ZgT:∀(l:List Int) (x y:Int),y∈Yw x l->y∈l
 |[],_,_,h=>by cases h
 |z::l,x,y,h=>by
  unfold Yw at h
  cases a:decide (z=x) with
  |true=>rw[a]at h;exact Vpb _ (ZgT l x y h)
  |false=>
   rw[a]at h;simp only[Ze,Vfa]at h;rcases h with rfl|h
   ·simp
   ·exact Vpb _ (ZgT l z y h)
theorem ZfX:∀(l:List Int) (x y:Int),y∈l->y=x\/y∈Yw x l
 |[],_,_,h=>by cases h
 |z::l,x,y,h=>by
  unfold Yw
  cases a:decide (z=x) with
  |true=>
   have b:=J9 a;simp only[Zc];rcases Vfa.1 h with rfl|h
   ·omega
   ·exact ZfX l x y h
  |false=>
   simp only[Ze,Vfa];rcases Vfa.1 h with rfl|h
   ·omega
   ·exact .inr (ZfX l z y h)
theorem Zkw{l:List Int}{y:Int} :y∈Jf l↔y∈l:=by
 cases l with
 |nil=>rfl
 |cons x l=>
  show y∈x::Yw x l↔_;rw[Vfa,Vfa];constructor
  ·rintro (h|h)
   ·omega
   ·exact .inr (ZgT l x y h)
  ·rintro (h|h)
   ·omega
   ·exact ZfX l x y h
theorem Zet{α:Type}{m c:Nat}{g:Nat->List α}{step:List α×Int->Option ((List α×Int) ⊕ List α)}(acc:List α)(l:∀i,i<m->(g i).length<=c)(b:∀i a,i<m->a.length<=acc.length+i*c->step (a,(i:Int))=some (.inl (a++g i,((i+1:Nat):Int))))(e:∀a,step (a,(m:Int))=some (.inr a)):
 run step (acc,(0:Int))=some (acc++(Vb m).flatMap g)/\((Vb m).flatMap g).length<=m*c:=by
 have h:∀i,i<=m->((Vb i).flatMap g).length<=i*c:=by
  intro i
  induction i with
  |zero=>intro _;exact Vha _
  |succ i o=>
   intro f;rw[Ry,Vm,Vbc];have:=o (by omega);have:=l i (by omega);omega
 obtain⟨r,j,k⟩:=Wa m (fun r=>r=acc++(Vb m).flatMap g) (fun i (s:List α×Int)=>s=(acc++(Vb i).flatMap g,(i:Int))) (step:=step) (by
  rintro i _ f rfl;left;have:=h i (by omega);refine⟨_,b i _ f (by rw[Vm];omega),?_⟩
  rw[Ry,Vec]) (by
  rintro _ rfl;exact⟨_,e _,rfl⟩) (acc,(0:Int)) (by simp)
 exact⟨by rw[j,k],h m (Vt _)⟩
theorem Zoe(k:WB n)(q:Zw):F96 n q=some (Kt n q):=by
 have s:=k.paths;have l:(ZC:Nat)=549755813888:=rfl;unfold F96
 rw[(Zet (m:=n.2.2.2.2.1.length) (c:=1) (g:=fun i=>(n.2.2.2.2.1[i]?).elim [] fun p=>if p.1=q.1/\p.2.2.1<=q.2.2.2.2.2.1 then [((p.2.1,p.2.2.1,()):Jn)] else []) [(q.1,0,())] ?hg ?hs ?he).1]
 case hg=>
  intro i b;rw[Va b]
  show (if _ then _ else _:List Jn).length<=1
  split<;>simp
 case hs=>
  intro i acc b e;rw[Va b];have o:idx n.2.2.2.2.1 (i:Int)=some n.2.2.2.2.1[i]:=ZI b;generalize n.2.2.2.2.1[i]=p at*;simp only[ZV b,Zc,o,Za,Ka b (by omega)];simp only[Vx]at e;by_cases a:p.1=q.1
  ·by_cases f:p.2.2.1<=q.2.2.2.2.2.1
   ·rw[Zi a,Zi f];have j:Zy (decide (acc.length+Vg [((p.2.1,p.2.2.1,()):Jn)]<=ZC))=some ():=by rw[Zi (by simp only[Vx];omega)];rfl
    simp only[Zc,Za];rw[j]
    show _=some (Sum.inl (acc++(if p.1=q.1/\p.2.2.1<=q.2.2.2.2.2.1 then [((p.2.1,p.2.2.1,()):Jn)] else []),_))
    rw[Zr ⟨a,f⟩];rfl
   ·rw[Zi a,Zv f]
    show _=some (Sum.inl (acc++(if p.1=q.1/\p.2.2.1<=q.2.2.2.2.2.1 then [((p.2.1,p.2.2.1,()):Jn)] else []),_))
    rw[Zf (fun h=>f h.2),Vz];rfl
  ·rw[Zv a]
   show _=some (Sum.inl (acc++(if p.1=q.1/\p.2.2.1<=q.2.2.2.2.2.1 then [((p.2.1,p.2.2.1,()):Jn)] else []),_))
   rw[Zf (fun h=>a h.1),Vz];rfl
 case he=>
  intro acc;simp only[J1,Ze]
 rw[<-ZdR];simp only[Za];unfold Kt;congr 1;rw[List.singleton_append];congr 1;generalize n.2.2.2.2.1=P
 induction P with
 |nil=>rfl
 |cons p P r=>
  rw[Vhc,r,Veb];by_cases a:p.1=q.1/\p.2.2.1<=q.2.2.2.2.2.1
  ·rw[Zr a,Zi a.1,Zi a.2];rfl
  ·rw[Zf a,Zf (by rw[Vl,WC,WC];exact a)];rfl
def YU(n:Zg)(q:Zw)(u:Int)(i c:Nat)(w:Jn):List Int:=if (Zk n i c).1=w.1/\q.2.2.1<=(Zk n i c).2.2.1 - w.2.1/\(Zk n i c).2.2.1 - w.2.1<=u then [(Zk n i c).2.2.1 - w.2.1] else []
theorem Zuo(a:WB n)(q:Zw):(Kt n q).length<=61:=by unfold Kt;rw[Vka,Vw];have b:=Vs (fun p:Kg=>decide (p.1=q.1) &&decide (p.2.2.1<=q.2.2.2.2.2.1)) n.2.2.2.2.1;have:=a.paths;omega
theorem ZmG(a:Jl n){w:Jn}(c:w∈Kt n q):0<=w.2.1/\w.2.1<=14400:=by
 rcases ZhP c with ⟨e,f⟩|⟨p,b,g,h,e,f⟩
 ·omega
 ·have:=a.path p b;omega
theorem ZgV(P:Whole n)(B:WB n)(q:Zw)(u:Int):∃ds:List Int,F113 n q (Kt n q) u=some ds/\ds.length<=2562/\(∀t∈ds,q.2.2.1<=t/\t<=u/\t<=3155932800/\ ∃i c,i<n.2.2.1.length/\c<(Zs n i).length/\ ∃w∈Kt n q,(Zk n i c).1=w.1/\(Zk n i c).2.2.1 - w.2.1=t)/\
 ∀i c,i<n.2.2.1.length->c<(Zs n i).length->∀w∈Kt n q,(Zk n i c).1=w.1->q.2.2.1<=(Zk n i c).2.2.1 - w.2.1->(Zk n i c).2.2.1 - w.2.1<=u->(Zk n i c).2.2.1 - w.2.1∈ds:=by
 have A:=P.ok;have hu:=P.u;have X:=Zuo B q;have R:=B.runs;have U:(ZC:Nat)=549755813888:=rfl
 have M:∀i c,i<n.2.2.1.length->c<(Zs n i).length->∀k,k<(Kt n q).length->(((Kt n q)[k]?).elim [] (YU n q u i c)).length<=1:=by
  intro i c _ _ k e;rw[Va e];show (YU n q u i c _).length<=1;unfold YU
  split<;>simp
 have C:∀(m b:Nat) (g:Nat->List Int),(∀i,i<m->(g i).length<=b)->((Vb m).flatMap g).length<=m*b:=by
  intro m b g Q
  induction m with
  |zero=>exact Vha _
  |succ m Z=>
   rw[Ry,Vm,Vbc];have:=Z fun i a=>Q i (by omega);have:=Q m (by omega);omega
 have N:∀i c,i<n.2.2.1.length->c<(Zs n i).length->((Vb (Kt n q).length).flatMap fun k=>((Kt n q)[k]?).elim [] (YU n q u i c)).length<=61:=by intro i c a f;have:=C _ 1 _ (M i c a f);omega
 have O:∀i,i<n.2.2.1.length->((Vb (Zs n i).length).flatMap fun c=>(Vb (Kt n q).length).flatMap fun k=>((Kt n q)[k]?).elim [] (YU n q u i c)).length<=366:=by intro i a;have:=C _ 61 _ (N i · a);have:=B.calls i a;omega
 unfold F113;rw[(Zet (m:=n.2.2.1.length) (c:=366) (g:=fun i=>(Vb (Zs n i).length).flatMap fun c=>(Vb (Kt n q).length).flatMap fun k=>((Kt n q)[k]?).elim [] (YU n q u i c)) [] O ?hs ?he).1]
 case hs=>
  intro i acc a z;simp only[Vmc]at z
  have r:acc.length<=2562:=by have:i*366<=7*366:=Via _ (by omega);omega
  simp only[ZV a,Zc,RD a,Za,Ka a (by omega)];have h6:=B.calls i a;rw[(Zet (m:=(Zs n i).length) (c:=61) (g:=fun c=>(Vb (Kt n q).length).flatMap fun k=>((Kt n q)[k]?).elim [] (YU n q u i c)) acc (N i · a) ?hs2 ?he2).1]
  ·rfl
  case hs2=>
   intro c j f D
   have E:j.length<=3000:=by have:c*61<=6*61:=Via _ (by omega);omega
   have s:decide ((c:Int)<(↑(Vg (rn n (i:Int)).2.2.2.2.2.2.2.1):Int))=true:=Zi (by show (c:Int)<((Zs n i).length:Int);omega);simp only[s,Zc,RC f,Za,Ka f (by omega)];have J:=A.time a f;rw[(Zet (m:=(Kt n q).length) (c:=1) (g:=fun k=>((Kt n q)[k]?).elim [] (YU n q u i c)) j (M i c a f) ?hs3 ?he3).1]
   ·rfl
   case hs3=>
    intro k l e r;rw[Va e];have Y:idx (Kt n q) (k:Int)=some (Kt n q)[k]:=ZI e;have K:=ZmG A (Vc e);generalize (Kt n q)[k]=w at*;have o:Ve .i64 ((Zk n i c).2.2.1 - w.2.1)=(Zk n i c).2.2.1 - w.2.1:=Z1 (by omega) (by omega);simp only[ZV e,Zc,Y,Za,Ka e (by omega),o];have H:Zy (decide (l.length+Vg [(Zk n i c).2.2.1 - w.2.1]<=ZC))=some ():=by rw[Zi (by simp only[Vx];omega)];rfl
    show _=some (Sum.inl (l++YU n q u i c w,_));unfold YU;by_cases p:(Zk n i c).1=w.1
    case neg=>rw[Zv p,Zf (fun h=>p h.1),Vz];rfl
    by_cases v:q.2.2.1<=(Zk n i c).2.2.1 - w.2.1
    case neg=>rw[Zi p,Zv v,Zf (fun h=>v h.2.1),Vz];rfl
    by_cases x:(Zk n i c).2.2.1 - w.2.1<=u
    case neg=>rw[Zi p,Zi v,Zv x,Zf (fun h=>x h.2.2),Vz];rfl
    rw[Zi p,Zi v,Zi x,Zr ⟨p,v,x⟩];simp only[Zc,Za];rw[H];rfl
   case he3=>
    intro l;simp only[J1,Ze]
  case he2=>
   intro j;have s:decide (((Zs n i).length:Int)<(↑(Vg (rn n (i:Int)).2.2.2.2.2.2.2.1):Int))=false:=Zv (by show¬((Zs n i).length:Int)<((Zs n i).length:Int);omega);simp only[s,Ze]
 case he=>
  intro acc;simp only[J1,Ze]
 rw[List.nil_append];have g2:=C _ 366 _ O;generalize S:((Vb n.2.2.1.length).flatMap fun i=>(Vb (Zs n i).length).flatMap fun c=>(Vb (Kt n q).length).flatMap fun k=>((Kt n q)[k]?).elim [] (YU n q u i c))=G at*
 have T:G.length<=2562:=by have:n.2.2.1.length*366<=7*366:=Via _ R;omega
 have y:∀t,t∈G↔∃i,i<n.2.2.1.length/\ ∃c,c<(Zs n i).length/\ ∃w∈Kt n q,t∈YU n q u i c w:=by
  intro t;rw[<-S,Vd];constructor
  ·rintro ⟨i,a,h⟩;obtain⟨c,f,h⟩:=Vd.1 h;obtain⟨k,e,h⟩:=Vd.1 h;rw[Vr]at a f e;rw[Va e]at h;exact⟨i,a,c,f,_,Vc e,h⟩
  ·rintro ⟨i,a,c,f,w,o,h⟩;obtain⟨k,e,rfl⟩:=Vv o;refine⟨i,Vr.2 a,Vd.2 ⟨c,Vr.2 f,Vd.2 ⟨k,Vr.2 e,?_⟩⟩⟩;rw[Va e];exact h
 have I:F162 G=some (Ya G):=by unfold F162 sortI;rw[Zi (by omega)];rfl
 have V:(Ya G).length=G.length:=(ZaP G).length_eq
 have hs2:F150 (Ya G)=some (Jf (Ya G)):=by unfold F150 compactI;rw[Zi (by omega)];rfl
 refine⟨Jf (Ya G),?_,?_,fun t J=>?_,fun i c a f w o p v x=>?_⟩
 ·simp only[Za,I,hs2]
 ·have:=Zjh (Ya G);omega
 ·rw[Zkw,(ZaP G).mem_iff,y]at J;obtain⟨i,a,c,f,w,o,h⟩:=J;have W:=A.time a f;have K:=ZmG A o;unfold YU at h;split at h
  ·rename_i e;rw[Vj]at h;subst h;exact⟨e.2.1,e.2.2,by omega,i,c,a,f,w,o,e.1,rfl⟩
  ·cases h
 ·rw[Zkw,(ZaP G).mem_iff,y];refine⟨i,a,c,f,w,o,?_⟩;unfold YU;rw[Zr ⟨p,v,x⟩];simp
theorem ZrV(g:Whole n)(f:WB n){u v:Int}(s:u<=v){ds a:List Int}(l:F113 n q (Kt n q) u=some ds)(m:F113 n q (Kt n q) v=some a):∀d∈ds,d∈a:=by obtain⟨_,b,_,j,_⟩:=ZgV g f q u;obtain⟨_,e,_,_,k⟩:=ZgV g f q v;rw[l]at b;rw[m]at e;cases b;cases e;intro d p;obtain⟨h,x,_,i,c,r,o,w,t,y,z⟩:=j d p;rw[<-z]at h x⊢;exact k i c r o w t y h (by omega)
end Q
namespace Q
open Tr Go
variable {n:Zg}{q:Zw}{L:List Z7}{d:Int}
theorem ZpI(q a:Zw)(hL:L≠ []):F52 n a (L,())=F52 n q (L,()):=by
 have b:0<L.length:=List.length_pos_iff.2 hL;unfold F52
 grind
theorem Ziy(h:Jt n q){t:Int}(j:0<=t)(k:t<=3155932800):Jt n (Wn q t):=by refine⟨h.fit,h.few,Zdi.2 ⟨h.whole,?_⟩,h.tin,h.max⟩;have a:=h.qb;unfold qB at a⊢;simp only[Vl,WC]at a⊢;obtain⟨b,c,_,e,f,g,_⟩:=a;refine⟨b,c,⟨j,k⟩,e,f,g,?_⟩;show (!(_&&false))=true;simp
theorem Zqr(h:Hu n):Hu (KS n q):=by
 refine⟨h.stops,h.routes,fun x b=>?_,fun x b=>?_,?_,h.prods⟩
 ·obtain⟨r,a,rfl⟩:=Vdc.1 (show x∈n.2.2.1.map (X0 n q) from b);exact h.runs r a
 ·obtain⟨r,a,rfl⟩:=Vdc.1 (show x∈n.2.2.1.map (X0 n q) from b);show (r.2.2.2.2.2.2.2.1.map (XN n q)).length<=_;rw[Vw];exact h.calls r a
 ·show (Gb n q).length<=4096;unfold Gb;split
  ·exact Vy (Vs _ _) h.paths
  ·exact h.paths
structure Zbn (n:Zg) (q:Zw) (d:Int):Prop where
 ask:Jt n q
 nback:q.2.2.2.1=false
 nch:q.2.2.2.2.2.2.2.2.2.1=false
 mom:0<=d/\d<=3155932800
theorem Zbn.cx(h:Zbn n q d):Cx (KS n q) q d (ZaL h.ask.wholeM.sound.fare):=by have a:=(Ziy h.ask h.mom.1 h.mom.2).li0;have b:=h.ask.qnum;exact⟨h.ask.wholeM,h.ask.tinM,a,h.nch,h.ask.max,by omega,h.mom⟩
abbrev mA(n:Zg)(q:Zw):Zg:=KS n q
abbrev qD(q:Zw)(d:Int):Zw:=KQ (Wn q d)
def ZmU(d:Int)(l:ZB):Prop:= ∃y L,l.2.2.2.2.2.1=y::L/\y.2.2.2.2.2.2.1=d
structure PfL (n:Zg) (q:Zw) (d:Int) (l:ZB):Prop where
 rc:Rc (mA n q) (qD q d) (W8 (mA n q) (qD q d)) l
 fin:ZbT (mA n q) (qD q d) l
 rides:0<l.2.2.1
 head:ZmU d l
theorem PfL.ne{l:ZB}(h:PfL n q d l):l.2.2.2.2.2.1≠ []:=by obtain⟨y,L,e,_⟩:=h.head;rw[e];simp
def H5(x y:Wp):Prop:=y.2.1.1<x.2.1.1\/(x.2.1.1=y.2.1.1/\(x.2.1.2.1<y.2.1.2.1\/(x.2.1.2.1=y.2.1.2.1/\x.2.1.2.2.1<y.2.1.2.2.1)))
theorem ZrO(x:Wp):¬H5 x x:=by unfold H5;omega
theorem ZrP{x y z:Wp}(h:H5 x y)(k:H5 y z):H5 x z:=by unfold H5 at*;omega
theorem ZfU{a b:Int}{P R:Prop}(f:P↔a<b)(g:R↔b<a):(Xt a b<0↔P)/\(0<Xt a b↔R):=by
 rw[f,g];unfold Xt;constructor
 ·by_cases c:a<b
  ·rw[Zr c];omega
  ·rw[Zf c];by_cases e:b<a
   ·rw[Zr e];omega
   ·rw[Zf e];omega
 ·by_cases c:a<b
  ·rw[Zr c];omega
  ·rw[Zf c];by_cases e:b<a
   ·rw[Zr e];omega
   ·rw[Zf e];omega
theorem Zus(x y:Wp):∃c:Int,F93 x y=some c/\(c<0↔H5 x y)/\(0<c↔H5 y x):=by
 unfold F93 F115 F117;have g:∀a b c:Int,([a,b,c]:List Int)[Vua (0:Int)]? =some a/\([a,b,c]:List Int)[Vua (1:Int)]? =some b/\([a,b,c]:List Int)[Vua (2:Int)]? =some c:=fun a b c=>⟨rfl,rfl,rfl⟩;simp only[Za,(g _ _ _).1,(g _ _ _).2.1,(g _ _ _).2.2,Zjd];unfold H5;by_cases e:x.2.1.1=y.2.1.1
 ·rw[Zi e];by_cases f:x.2.1.2.1=y.2.1.2.1
  ·rw[Zi f];refine⟨Xt x.2.1.2.2.1 y.2.1.2.2.1,rfl,?_⟩;exact ZfU (by omega) (by omega)
  ·rw[Zv f];refine⟨Xt x.2.1.2.1 y.2.1.2.1,rfl,?_⟩;exact ZfU (by omega) (by omega)
 ·rw[Zv e];refine⟨Xt y.2.1.1 x.2.1.1,rfl,?_⟩;exact ZfU (by omega) (by omega)
end Q
namespace Q
open Tr Go
variable {n:Zg}{q:Zw}{L:List Z7}{u:Int}
structure ZcF (n:Zg) (q:Zw) (u:Int):Prop where
 ask:Jt n q
 nback:q.2.2.2.1=false
 nch:q.2.2.2.2.2.2.2.2.2.1=false
 until_:q.2.2.1<=u/\u<=3155932800
theorem ZcF.at{d:Int}(h:ZcF n q u)(b:q.2.2.1<=d)(a:d<=3155932800):Zbn n q d:=⟨h.ask,h.nback,h.nch,by have:=h.ask.qnum;omega,a⟩
theorem ZgW:∀(M:Nat) (l:List Nat),l.Nodup->(∀a∈l,a<M)->l.length<=M
 |0,l,_,h=>by
  cases l with
  |nil=>simp
  |cons a l=>exact absurd (h a (by simp)) (by omega)
 |M+1,l,b,h=>by
  by_cases e:M∈l
  ·have c:=ZgW M (l.erase M) (b.erase M) (by grind)
   grind
  ·have:=ZgW M l b (by grind);omega
end Q
namespace Q
open Tr Go
variable {n:Zg}{q:Zw}{L:List Z7}
theorem ZjL(h:Yj Zh n)(g:n.2.2.2.2.1.length<=4096):Hu n:=by
 obtain⟨⟨_,c⟩,⟨_,e⟩,⟨_,b⟩,_,_,⟨⟨_,f⟩,_⟩,_⟩:=h;refine⟨fun x a=>?_,fun x a=>?_,fun x a=>?_,fun x a=>?_,g,fun x a=>?_⟩
 ·exact(c x a).1
 ·exact(e x a).1
 ·exact(b x a).2.2.2.1
 ·exact(b x a).2.2.2.2.2.2.2.1.1
 ·exact(f x a).1
open Classical in
theorem ZtE(h:Yj Zh n):∃b,F124 n=some b/\(b=true->WB n/\n.2.2.2.1.length<=30/\Whole n):=by
 unfold F124;by_cases v:5<n.1.length
 ·rw[Zi (show (5:Int)<(n.1.length:Int) by omega)];exact⟨false,rfl,fun e=>by cases e⟩
 rw[Zv (show¬(5:Int)<(n.1.length:Int) by omega)];by_cases w:7<n.2.2.1.length
 ·rw[Zi (show (7:Int)<(n.2.2.1.length:Int) by omega)];exact⟨false,rfl,fun e=>by cases e⟩
 rw[Zv (show¬(7:Int)<(n.2.2.1.length:Int) by omega)];by_cases c3:30<n.2.2.2.1.length
 ·rw[Zi (show (30:Int)<(n.2.2.2.1.length:Int) by omega)];exact⟨false,rfl,fun e=>by cases e⟩
 rw[Zv (show¬(30:Int)<(n.2.2.2.1.length:Int) by omega)];by_cases y:60<n.2.2.2.2.1.length
 ·rw[Zi (show (60:Int)<(n.2.2.2.2.1.length:Int) by omega)];exact⟨false,rfl,fun e=>by cases e⟩
 rw[Zv (show¬(60:Int)<(n.2.2.2.2.1.length:Int) by omega)];simp only[Ze,Za];have c:=ZjL h (by omega)
 suffices p:∃r:Unit ⊕ Bool,_=some r/\((r=.inl ()/\ ∀i,i<n.2.2.1.length->(Zs n i).length<=6)\/r=.inr false) by
  obtain⟨r,k,m⟩:=p;rcases m with ⟨rfl,a⟩|rfl
  ·refine⟨decide (Whole n),WE (fun x=>x=Sum.inl ()) ⟨_,k,rfl⟩ (fun x g=>?_),fun t=>⟨⟨by omega,by omega,by omega,a⟩,by omega,J9 t⟩⟩;subst g;simp only[Sum.elim_inl];rw[ZhK c];rfl
  ·exact⟨false,WE (fun x=>x=Sum.inr false) ⟨_,k,rfl⟩ (fun x g=>by subst g;rfl),fun e=>by cases e⟩
 refine Wa n.2.2.1.length (fun r:Unit ⊕ Bool=>(r=.inl ()/\ ∀i,i<n.2.2.1.length->(Zs n i).length<=6)\/r=.inr false) (fun i (s:Int)=>s=(i:Int)/\ ∀j,j<i->(Zs n j).length<=6) ?_ ?_ _ ⟨rfl,fun j o=>by omega⟩
 ·rintro i _ f ⟨rfl,a⟩;simp only[ZV f,Zc,RD f,Za];by_cases z:6<(Zs n i).length
  ·rw[Zi (show (6:Int)<((rn n (i:Int)).2.2.2.2.2.2.2.1.length:Int) by show (6:Int)<((Zs n i).length:Int);omega)];exact .inr ⟨_,rfl,.inr rfl⟩
  ·rw[Zv (show¬(6:Int)<((rn n (i:Int)).2.2.2.2.2.2.2.1.length:Int) by show¬(6:Int)<((Zs n i).length:Int);omega)];refine .inl ⟨_,rfl,Ka f (by omega),fun j o=>?_⟩;rcases Nat.lt_or_ge j i with l|l
   ·exact a j l
   ·have:j=i:=by omega
    subst this;omega
 ·rintro _ ⟨rfl,a⟩;exact⟨.inl (),by simp only[J1,Ze],.inl ⟨rfl,a⟩⟩
theorem Ztu(h:Yj Zh n)(q:Zw):∃b,F64 n q=some b/\(b=true->Jt n q/\q.2.2.2.1=false/\q.2.2.2.2.2.2.2.2.2.1=false):=by
 unfold F64;obtain⟨b,g,j⟩:=ZtE h;rw[g]
 cases b with
 |false=>exact⟨false,rfl,fun e=>by cases e⟩
 |true=>
  obtain⟨a,p,f⟩:=j rfl;have c:=ZjL h (by have:=a.paths;omega);simp only[Za,Zc];rw[Zmy n.1.length (by have:=a.stops;omega) q];simp only[Za]
  cases k:qB n.1.length q with
  |false=>exact⟨false,rfl,fun e=>by cases e⟩
  |true=>
   cases o:q.2.2.2.1 with
   |true=>exact⟨false,rfl,fun e=>by cases e⟩
   |false=>
    cases m:q.2.2.2.2.2.2.2.2.2.1 with
    |true=>exact⟨false,rfl,fun e=>by cases e⟩
    |false=>
     simp only[Zc,Vqa,Za];refine⟨_,rfl,fun e=>⟨⟨c,⟨by have:=a.stops;omega,?_,by have:=a.runs;omega,by omega,by have:=a.paths;omega,by have:=(ZaL f.sound.fare).many;omega,fun r l=>?_⟩,Zdi.2 ⟨f,k⟩,a,J9 e⟩,trivial,trivial⟩⟩
     ·have t:=f.t;unfold Ge at t
      grind
     ·have:=(f.sound.many r l).2;omega
theorem Zlr(h:Jt n q)(c:q.2.2.2.1=false)(f:q.2.2.2.2.2.2.2.2.2.1=false)(u:Int):∃e,F63 n q u=some e/\(e=0->ZcF n q u):=by
 unfold F63;rw[ZoR h.fit,h.chk];simp only[Za,decide_true,Vq,Ze,c,f];by_cases a:u<q.2.2.1
 ·rw[Zi a];exact⟨10,rfl,fun e=>absurd e (by decide)⟩
 rw[Zv a];by_cases b:(3155932800:Int)<u
 ·rw[Zi b];exact⟨10,rfl,fun e=>absurd e (by decide)⟩
 rw[Zv b];exact⟨0,rfl,fun _=>⟨h,c,f,by omega⟩⟩
end Q
namespace Q
open Tr Go
variable {n:Zg}{q:Zw}{L:List Z7}{u:Int}
theorem ZdI:F62=some true:=rfl
theorem ZpJ{R:List Wp}{c:Jc}(w:R.length<=10248){x:Wp}(v:x∈R)(o:Wi x.2.1 c):F59 R c=some true:=by
 unfold F59;obtain⟨m,p,rfl⟩:=Vv v;refine WE (fun r:Unit ⊕ Bool=>r=.inr true) ?_ (fun r h=>by rw[h];rfl);refine Wa R.length _ (fun k (s:Int)=>s=(k:Int)/\k<=m) ?_ ?_ _ ⟨rfl,Vha _⟩
 ·rintro k _ f ⟨rfl,g⟩;simp only[ZV f,Zc,ZI f,Za,Ka f (by omega)];by_cases a:Wi (R[k]).2.1 c
  ·right;rw[Zi a.1,Zi a.2.1,Zi a.2.2];exact⟨_,rfl,rfl⟩
  ·left;have t:k≠m:=fun e=>by subst e;exact a o
   refine⟨_,?_,rfl,by omega⟩;by_cases b:c.1<=(R[k]).2.1.1
   ·by_cases j:(R[k]).2.1.2.1<=c.2.1
    ·have l:¬(R[k]).2.1.2.2.1<=c.2.2.1:=fun l=>a ⟨b,j,l⟩;rw[Zi b,Zi j,Zv l];rfl
    ·rw[Zi b,Zv j];rfl
   ·rw[Zv b];rfl
 ·rintro _ ⟨rfl,g⟩;omega
end Q
