/- filter: usable runs, open stops, the allowed network; queries. Conditions: the network is valid, its lists are short. -/
import Derived.KernelRfl
import Derived.Test.YtdpenljjnfmgiaaGreatJLwJa28P
import Derived.Test.YtdpenljjnfmgiaaGreatETsF
import Derived.Test.YtdpenljjnfmgiaaGreatLxPop
open BitVec renaming ofInt ->Vc,eq_of_toNat_eq ->Vbb,ofInt_natCast ->Vgc,toNat_ofNat ->Vlc,toNat_and ->Vuc,ofNat ->Vpd
open Bool renaming and_eq_true ->Vb,not_true ->Vg,not_eq_false' ->Vk,or_eq_false_iff ->Vt,true_and ->Vha,not_false ->Vna,false_and ->Vec,or_true ->Vnc,or_eq_true ->Vfd,and_false ->Vgd,and_true ->Vld,false_or ->Vmd
open Iff renaming rfl ->Vkd
open Int renaming toNat_natCast ->Vi,toNat ->Vda,toNat_of_nonneg ->Vta,fdiv ->Vxa,natCast_add ->Vhb,le_refl ->Vdc
open Go.IntKind renaming wrap ->Va,u64 ->Vp,signed ->Vz,i64 ->Vaa,bits ->Vfa
open List renaming take_succ_eq_append_getElem ->Vd,getElem?_eq_getElem ->Ve,getElem_mem ->Vf,mem_append ->Vj,length_append ->Vl,length ->Vm,range ->Vn,length_map ->Vo,mem_singleton ->Vq,drop_eq_getElem_cons ->Vr,mem_flatMap ->Vs,any_eq_true ->Vv,replicate ->Vw,getElem_of_mem ->Vx,map_cons ->Vy,mem_of_mem_drop ->Vba,length_cons ->Vca,map_append ->Vga,take_append_of_le_length ->Via,append_eq_singleton_iff ->Vja,length_filter_le ->Vka,getElem?_map ->Vla,take_append_drop ->Vma,mem_of_mem_take ->Voa,take_length ->Vpa,cons_append ->Vqa,flatMap_append ->Vra,append_nil ->Vva,map_eq_append_iff ->Vya,set_append_right ->Vab,all_eq_true ->Vdb,getElem?_set_ne ->Vfb,getElem?_of_mem ->Vgb,eq_nil_of_length_eq_zero ->Vib,mem_range ->Vlb,singleton_inj ->Vnb,pairwise_iff_getElem ->Vpb,foldl_append ->Vqb,append_assoc ->Vrb,getElem?_eq_some_iff ->Vsb,length_take ->Vtb,length_drop ->Vwb,mem_filter ->Vxb,length_set ->Vyb,length_nil ->Vzb,take_of_length_le ->Vac,append_inj_right' ->Vbc,length_eq_one_iff ->Vcc,map_eq_cons_iff ->Vfc,mem_of_getElem? ->Vhc,any_cons ->Vic,take_succ_cons ->Vjc,filter_append ->Vkc,pairwise_cons ->Vmc,isEmpty_cons ->Vrc,drop_length ->Vtc,getElem_map ->Vvc,set ->Vwc,any_append ->Vyc,foldr_cons ->Vzc,nil_append ->Vad,foldl_cons ->Vbd,range_succ ->Vdd,sum_append ->Ved,drop_drop ->Vhd,sum_cons ->Vnd,set_set ->Vod,map_nil ->Vqd,isEmpty ->Vrd
open Nat renaming le_refl ->Vu,or_assoc ->Vea,shiftRight_eq_div_pow ->Vsa,zero_le ->Vua,le_trans ->Vwa,testBit_eq_decide_div_mod_eq ->Vza,zero_or ->Vcb,and_two_pow_sub_one_eq_mod ->Veb,lt_or_ge ->Vjb,mul_le_mul_left ->Vkb,lt_of_le_of_lt ->Vmb,mod_eq_of_lt ->Vub,mod_lt ->Vvb,le_of_lt ->Voc,zero_add ->Vpc,pow_succ ->Vqc,lt_trichotomy ->Vsc,div_le_self ->Vcd,add_le_add ->Vid,mul_assoc ->Vjd
open Option renaming bind ->Vh,isNone_iff_eq_none ->Vob,map_some ->Vxc
open Sum renaming elim ->Vsd
open Option renaming some ->Ua,none ->Ub
open Bool renaming true ->Uc,false ->Ud
open Decidable renaming decide ->Ue
namespace Q
open Tr Go
theorem Zwd{α β τ:Type}{step:List β×Int->Option ((List β×Int) ⊕ τ)}(l:List α)(f:α->List β)(R:List β->τ)
 (a:∀i (b:i<l.length),step ((l.take i).flatMap f,(i:Int))=Ua (.inl ((l.take i).flatMap f++f l[i],((i+1:Nat):Int))))
 (c:step (l.flatMap f,(l.length:Int))=Ua (.inr (R (l.flatMap f)))):run step ([],(0:Int))=Ua (R (l.flatMap f)):=by
 refine Exists.elim (KP (step:=step) l.length (λr=>r=R (l.flatMap f)) (λi st=>st=((l.take i).flatMap f,(i:Int))) ?_ ?_ ([],(0:Int)) (by simp)) ?_
 ·rintro i _ b rfl;left;refine⟨_,a i b,?_⟩;rw[Vd b,Vra];simp
 all_goals grind
theorem Zs3{α β:Type}(f:α->β)(l:List α):l.flatMap (λx=>[f x])=l.map f:=by
 induction l with
 |nil=>rfl
 |cons x l a=>grind
theorem Zs1{α β:Type}{f:α->List β}(a:∀x,(f x).length<=1)(l:List α):(l.flatMap f).length<=l.length:=by
 induction l with
 |nil=>simp
 |cons x l b=>grind
abbrev Zl:=Int×Int×Int×Bool×Int×Int×Bool×Bool×Int×Bool×Unit
def Rk(n:Zc)(r:He):Hc:=(n.2.1[r.2.2.2.2.1.toNat]?).getD r0
def Rs(n:Zc)(q:Zl)(r:He):Bool:=Tr.useB q r (Rk n r)
def WN(n:Zc)(s:Int):DZ:=(n.1[s.toNat]?).getD s0
def Yg(n:Zc)(q:Zl)(s:Int):Bool:=(WN n s).2.2.1|| !q.2.2.2.2.2.2.1
def Jj(n:Zc)(q:Zl)(c:Wy):Wy:=if Yg n q c.1 then c else(c.1,c.2.1,c.2.2.1,Ud,Ud,())
theorem ZnG{n:Zc}(a:WV n){r:He}(c:r∈n.2.2.1):idx n.2.1 r.2.2.2.2.1=Ua (Rk n r)/\Rk n r∈n.2.1:=by
 have h:=a.route _ c;have b:Kc r.2.2.2.2.1 n.2.1.length=true:=by simp [Kc];omega
 refine⟨Jl b r0,?_⟩;unfold Rk;grind
theorem Zxe{n:Zc}(a:WV n)(q:Zl){r:He}(e:r∈n.2.2.1):F36 n q r=Ua (Rs n q r):=by obtain⟨b,c⟩:=ZnG a e;have d:=(a.mode _ c).1;unfold F36 Tr.useF;rw[b];simp only[Za,show Ue ((0:Int)<=(Rk n r).2.1)=Uc from Zi d,Vnc,Zd];rfl
theorem ZwL{n:Zc}(a:WV n){r:He}(d:r∈n.2.2.1){c:Wy}(b:c∈r.2.2.2.2.2.2.2.1):idx n.1 c.1=Ua (WN n c.1):=by have h:=a.call _ d _ b;exact Jl (show Kc c.1 n.1.length=Uc by simp [Kc];omega) s0
theorem ZuZ{n:Zc}(q:Zl){s:Int}(h:idx n.1 s=Ua (WN n s)):F35 n q s=Ua (Yg n q s):=by unfold F35;rw[h];simp only[Za];unfold Yg;grind
theorem ZrJ{n:Zc}(d:WV n)(q:Zl){r:He}(g:r∈n.2.2.1):F34 n q r.2.2.2.2.2.2.2.1=Ua (r.2.2.2.2.2.2.2.1.map (Jj n q)):=by
 have o:=(d.many _ g).2;unfold F34;rw[Zwd r.2.2.2.2.2.2.2.1 (λc=>[Jj n q c]) id ?_ ?_]
 ·simp only[Za,id,Zs3,Vo];generalize p:r.2.2.2.2.2.2.2.1.map (Jj n q)=m;have a:m.length=r.2.2.2.2.2.2.2.1.length:=by grind
  rw[<-a];have k:Zv (m.length:Int) (m.length+1)=Ua m.length:=by unfold Zv;rw[Zn (by omega)];simp
  have l:sliceB m.length m.length Ub (Ua (m.length:Int))=Ua (0,m.length):=by unfold sliceB;simp
  grind
 ·intro i b;have j:=Vf b;simp only[ZV b,Zd,ZJ b,Za];rw[ZuZ q (ZwL d g j)];have h:=Zs1 (f:=λc=>[Jj n q c]) (by simp) (r.2.2.2.2.2.2.2.1.take i);rw[Vtb]at h;simp only[Za];have e:(bif !Yg n q (r.2.2.2.2.2.2.2.1[i]).1 then Ua (((r.2.2.2.2.2.2.2.1[i]).1,(r.2.2.2.2.2.2.2.1[i]).2.1,(r.2.2.2.2.2.2.2.1[i]).2.2.1,Ud,Ud,(r.2.2.2.2.2.2.2.1[i]).2.2.2.2.2):Wy) else Ua r.2.2.2.2.2.2.2.1[i])=Ua (Jj n q r.2.2.2.2.2.2.2.1[i]):=by unfold Jj;grind
  erw[e];simp only[Za];rw[DE (by grind),Z8 b (by omega)];rfl
 simp
structure Few (n:Zc):Prop where
 stops:n.1.length<=4096
 routes:n.2.1.length<=4096
 runs:n.2.2.1.length<=4096
 links:n.2.2.2.1.length<=4096
 paths:n.2.2.2.2.1.length<=4096
 prods:n.2.2.2.2.2.1.1.length<=4096
 calls:∀r∈n.2.2.1,r.2.2.2.2.2.2.2.1.length<=4096
theorem Zay{α:Type}(l:List α)(h:l.length<=4096):(Vh (ZD (Ue (Vm ([]:List Unit)+Vm l<=ZI))) λ_=>
 Vh (Zv (↑(Vm ([]++l)):Int) (Vm ([]++l)+(1:Nat))) λa=>
 Vh (sliceB (Vm ([]++l)) a Ub (Ua (↑(Vm ([]++l)):Int))) λb=>Ua (List.take b.2 ([]++l)))=Ua l:=by
  have e0:ZD (Ue (Vm ([]:List Unit)+Vm l<=ZI))=Ua ():=by unfold ZD ZI;grind
  have c:Zv (l.length:Int) (l.length+1)=Ua l.length:=by unfold Zv;grind
  have d:sliceB l.length l.length Ub (Ua (l.length:Int))=Ua (0,l.length):=by unfold sliceB;simp
  grind
theorem ZrC{n:Zc}(h:Few n):F65 n=Ua n:=by
 unfold F65;have k:F76 n.1=Ua n.1:=Zay n.1 h.stops;have d:F74 n.2.1=Ua n.2.1:=Zay n.2.1 h.routes;have f:F75 n.2.2.1=Ua n.2.2.1:=Zay n.2.2.1 h.runs;have b:F72 n.2.2.2.1=Ua n.2.2.2.1:=Zay n.2.2.2.1 h.links;have c:F71 n.2.2.2.2.1=Ua n.2.2.2.2.1:=Zay n.2.2.2.2.1 h.paths;have j:F73 n.2.2.2.2.2.1.1=Ua n.2.2.2.2.2.1.1:=Zay n.2.2.2.2.2.1.1 h.prods;rw[k,d,f,b,c];simp only[Za];refine Wj (λr:Zc=>r=(n.1,n.2.1,n.2.2.1,n.2.2.2.1,n.2.2.2.2.1,n.2.2.2.2.2.1,())) (KP n.2.2.1.length _ (λi (st:Zc×Int)=>st=((n.1,n.2.1,n.2.2.1,n.2.2.2.1,n.2.2.2.2.1,n.2.2.2.2.2.1,()),(i:Int))) ?_ ?_ _ rfl) ?_
 ·rintro i _ a rfl;left;have g:F70 (n.2.2.1[i]).2.2.2.2.2.2.2.1=Ua (n.2.2.1[i]).2.2.2.2.2.2.2.1:=Zay _ (h.calls _ (Vf a));simp only[ZV a,Zd,KS a,Za,Ve a,g];refine⟨_,rfl,?_⟩;rw[Z8 a (by have:=h.runs;omega)];have e:Vwc n.2.2.1 i ((n.2.2.1[i]).1,(n.2.2.1[i]).2.1,(n.2.2.1[i]).2.2.1,(n.2.2.1[i]).2.2.2.1,(n.2.2.1[i]).2.2.2.2.1,(n.2.2.1[i]).2.2.2.2.2.1,(n.2.2.1[i]).2.2.2.2.2.2.1,(n.2.2.1[i]).2.2.2.2.2.2.2.1,(n.2.2.1[i]).2.2.2.2.2.2.2.2)=n.2.2.1:=List.set_getElem_self a;grind
 all_goals grind
def Xz(n:Zc)(q:Zl)(r:He):He:=(r.1,r.2.1,r.2.2.1,r.2.2.2.1,r.2.2.2.2.1,r.2.2.2.2.2.1, !Rs n q r,r.2.2.2.2.2.2.2.1.map (Jj n q),())
def HX(n:Zc)(q:Zl):List Kl:=if q.2.2.2.2.2.2.1 then n.2.2.2.2.1.filter (λp=>p.2.2.2.1) else n.2.2.2.2.1
def Kr(n:Zc)(q:Zl):Zc:=(n.1,n.2.1,n.2.2.1.map (Xz n q),n.2.2.2.1,HX n q,n.2.2.2.2.2.1,())
def Df(n:Zc)(q:Zl)(i:Nat):List He:=(n.2.2.1.take i).map (Xz n q)++n.2.2.1.drop i
theorem Zwj(n:Zc)(q:Zl){i:Nat}(a:i<=n.2.2.1.length):(Df n q i).length=n.2.2.1.length:=by simp [Df];omega
theorem Zwi(n:Zc)(q:Zl){i:Nat}(a:i<n.2.2.1.length):(Df n q i)[i]? =Ua n.2.2.1[i]:=by unfold Df;grind
theorem Zwk(n:Zc)(q:Zl){i:Nat}(b:i<n.2.2.1.length):(Df n q i).set i (Xz n q n.2.2.1[i])=Df n q (i+1):=by
 unfold Df;have a:((n.2.2.1.take i).map (Xz n q)).length=i:=by grind
 rw[Vab _ _ (by omega),a,Nat.sub_self,Vr b,List.set_cons_zero,Vd b,Vga];simp
theorem ZpJ{n:Zc}(d:WV n)(hF:Few n)(q:Zl)(g:F31 n q=Ua 0):F33 n q=Ua (Kr n q,0):=by
 unfold F33;rw[g];simp only[Za,decide_true,Vg,Ze];rw[ZrC hF];simp only[Za];refine Wj (λr:Zc=>r=(n.1,n.2.1,n.2.2.1.map (Xz n q),n.2.2.2.1,n.2.2.2.2.1,n.2.2.2.2.2.1,())) (KP n.2.2.1.length _ (λi (st:Zc×Int)=>st=((n.1,n.2.1,Df n q i,n.2.2.2.1,n.2.2.2.2.1,n.2.2.2.2.2.1,()),(i:Int))) ?_ ?_ _ (by rfl)) ?_
 ·rintro i _ a rfl;left;have e:=Vf a;have j:=Zwj n q (Voc a);have b:i<(Df n q i).length:=by omega
  simp only[ZV a,Zd,ZJ a,Za,Zxe d q e,KS b,Zwi n q a,ZrJ d q e];refine⟨_,?_,rfl⟩;rw[Z8 a (by have:=hF.runs;omega)];have c:i<((Df n q i).set i ((n.2.2.1[i]).1,(n.2.2.1[i]).2.1,(n.2.2.1[i]).2.2.1,(n.2.2.1[i]).2.2.2.1,(n.2.2.1[i]).2.2.2.2.1,(n.2.2.1[i]).2.2.2.2.2.1, !Rs n q n.2.2.1[i],(n.2.2.1[i]).2.2.2.2.2.2.2)).length:=by grind
  erw[KS c];simp only[Za];erw[List.getElem?_set_self b];simp only[Za];erw[Vod];congr 2;have:=Zwk n q a;rw[<-this];rfl
 ·rintro _ rfl;refine⟨_,by simp only[YU,Ze];rfl,?_⟩;simp [Df]
 ·rintro _ rfl;unfold Kr HX
  cases h:q.2.2.2.2.2.2.1 with
  |false=>rfl
  |true=>
   simp only[Zd,if_true];refine Wj (λr:Zc=>r=(n.1,n.2.1,n.2.2.1.map (Xz n q),n.2.2.2.1,n.2.2.2.2.1.filter (λp=>p.2.2.2.1),n.2.2.2.2.2.1,())) (KP n.2.2.2.2.1.length _ (λi (st:Zc×Int)=>st=((n.1,n.2.1,n.2.2.1.map (Xz n q),n.2.2.2.1,(n.2.2.2.2.1.take i).filter (λp=>p.2.2.2.1),n.2.2.2.2.2.1,()),(i:Int))) ?_ ?_ _ (by simp)) ?_
   ·rintro i _ a rfl;left;have f:=Vka (λp:Kl=>p.2.2.2.1) (n.2.2.2.2.1.take i);rw[Vtb]at f;have k:=hF.paths;simp only[ZV a,Zd,ZJ a,Za];rw[Z8 a (by omega),Vd a,Vkc]
    cases l:(n.2.2.2.2.1[i]).2.2.2.1 with
    |false=>
     grind
    |true=>
     simp only[Zd];rw[DE (by grind)];grind
   all_goals simp
def qB(k:Nat)(q:Zl):Bool:=Kc q.1 k&&(Kc q.2.1 k&&(Ue (0<=q.2.2.1/\q.2.2.1<=3155932800)&&(Ue (0<=q.2.2.2.2.1/\q.2.2.2.2.1<=8)&&(Ue (0<=q.2.2.2.2.2.1/\q.2.2.2.2.2.1<=86400)&&(Ue (0<=q.2.2.2.2.2.2.2.2.1/\q.2.2.2.2.2.2.2.2.1<=255)&& !(q.2.2.2.2.2.2.2.2.2.1&&q.2.2.2.1))))))
theorem Zxx(x a b:Int):F32 x a b=Ua (Ue (a<=x/\x<=b)):=Hn x a b
theorem ZaB(x a b:Int):F152 x a b=Ua (Ue (a<=x/\x<=b)):=Hn x a b
theorem ZbN(x:Int){m:Nat}(a:m<=9223372036854775807):F152 x 0 (Va .i64 ((m:Int) - 1))=Ua (Kc x m):=Ze7 x a
theorem ZoK(k:Nat)(a:k<=9223372036854775807)(q:Zl):F147 (k:Int) q=Ua (qB k q):=by unfold F147 qB;simp only[ZaB];rw[show Ue ((0:Int)<=q.1/\q.1<=Va .i64 ((k:Int) - 1))=Kc q.1 k from KO ((ZaB _ _ _).symm.trans (ZbN q.1 a)),show Ue ((0:Int)<=q.2.1/\q.2.1<=Va .i64 ((k:Int) - 1))=Kc q.2.1 k from KO ((ZaB _ _ _).symm.trans (ZbN q.2.1 a))];grind
open Classical in
noncomputable def Gs(n:Zc)(q:Zl):Int:=if Whole n then(if qB n.1.length q=Uc then 0 else 22) else 21
theorem ZcO{n:Zc}{q:Zl}:Gs n q=0↔Whole n/\qB n.1.length q=true:=by unfold Gs;grind
open Classical in
theorem ZdG{n:Zc}(h:HB n):F123 n=Ua (Ue (Whole n)):=by obtain⟨r,_,a,b⟩:=Zg0 n h;unfold F123;rw[a];simp only[Za];congr 1;exact decide_eq_decide.2 b
open Classical in
theorem Zra{n:Zc}(h:HB n)(q:Zl):F144 n q=Ua (Gs n q):=by
 unfold F144 Gs;rw[ZdG h];simp only[Za];by_cases a:Whole n
 ·rw[Zi a,Zn a];have b:=a.sound.stops;simp only[Vg,Ze];rw[ZoK n.1.length (by omega)];simp only[Za];cases qB n.1.length q<;>rfl
 ·rw[Zt a,Zg a];rfl
theorem Zkx{n:Zc}(h:HB n)(q:Zl):F31 n q=Ua (Gs n q):=by
 obtain⟨r,c,_,d⟩:=Zg0 n h;unfold F31 Gs;rw[c];simp only[Za];by_cases a:Whole n
 ·rw[Zi (d.2 a),Zn a];have b:n.1.length<=9223372036854775807:=by have:=a.sound.stops;omega
  simp only[Vg,Ze,Zxx];rw[show Ue ((0:Int)<=q.1/\q.1<=Va .i64 ((n.1.length:Int) - 1))=Kc q.1 n.1.length from KO ((ZaB _ _ _).symm.trans (ZbN q.1 b)),show Ue ((0:Int)<=q.2.1/\q.2.1<=Va .i64 ((n.1.length:Int) - 1))=Kc q.2.1 n.1.length from KO ((ZaB _ _ _).symm.trans (ZbN q.2.1 b))];unfold qB;simp only[Za];grind
 grind
theorem ZrF{c l:List Kl}(h:XT c l=Uc):c=l:=by
 unfold XT at h;rw[Vb,Kx,Vob]at h;obtain⟨e,a⟩:=h;have a:=W2.1 a;refine List.ext_getElem e λi d b=>?_;have:=a i d;unfold eqF at this;rw[Ks d,Ks b]at this;have f:sameF c[i] l[i]=true:=by grind
 unfold sameF at f;grind
theorem ZrG(l:List Kl):XT l l=true:=by unfold XT;rw[Vb,Kx,Vob];refine⟨rfl,W2.2 λi a=>?_⟩;unfold eqF sameF;simp
theorem ZiA{k:Nat}{l:List Kl}:(∀i,i<l.length->Wm k l i=0)↔(∀p∈l,YY k p=Ud/\YZ p=Ud)/\l.Pairwise λa b=>JT a≠JT b:=by
 constructor
 ·intro h;refine⟨λp o=>?_,Vpb.2 λi j c f d e=>?_⟩
  ·obtain⟨i,c,rfl⟩:=Vx o;have:=ZaS (h i c);grind
  ·have:=(ZaS (h j f)).2.2;refine this ⟨i,d,?_⟩;grind
 ·rintro ⟨g,m⟩ i c;obtain⟨a,b⟩:=g _ (Vf c);unfold Wm;rw[Ks c,Zg (by grind),Zg (by grind),Zg];rintro ⟨j,f,e⟩;rw[Ks (by omega)]at e;exact Vpb.1 m j i (by omega) c f e
theorem Zln{α β:Type}(p:β->Bool)(f:α->List β)(l:List α):(l.flatMap f).filter p=l.flatMap λx=>(f x).filter p:=by
 induction l with
 |nil=>rfl
 |cons x l a=>grind
theorem ZtN(a b:Nat)(d f:Int):(JF a b d f).filter (λp=>p.2.2.2.1)=JF a b f f:=by unfold JF;grind
theorem ZpF(it:Nat->Nat->List JH)(n m:Nat):(WX it n m).filter (λp=>p.2.2.2.1)=WX (λa b=>(it a b).filter (λp=>p.2.2.2.1)) n m:=by unfold WX XZ;rw[Zln];congr 1;funext a;rw[Zln];grind
theorem Zts{k:Nat}(g:k<=64){l:List Kl}(s:l.length<=4096)(x:∀i,i<l.length->Wm k l i=0)(G:∀c,F119 l (k:Int)=Ua c->XT c l=Uc):
 (∀i,i<(l.filter λp=>p.2.2.2.1).length->Wm k (l.filter λp=>p.2.2.2.1) i=0)/\∀c,F119 (l.filter λp=>p.2.2.2.1) (k:Int)=Ua c->XT c (l.filter λp=>p.2.2.2.1)=true:=by
 obtain⟨H,I⟩:=ZiA.1 x;have f:∀i,i<(l.filter λp=>p.2.2.2.1).length->Wm k (l.filter λp=>p.2.2.2.1) i=0:=ZiA.2 (by grind);refine⟨f,λc h=>?_⟩;have hF:=ZhP x;have d:=ZhP f;have e:(l.filter λp=>p.2.2.2.1).length<=4096:=by grind
 obtain⟨c0,A,B,_⟩:=Zg3 g hF s;obtain⟨o,C,D,_⟩:=Zg3 g d e;have y:=Zg4 g hF s (λa b=>(ZeH hF a b).imp id λh=>h.2);have z:=Zg4 g d e (λa b=>(ZeH d a b).imp id λh=>h.2);rw[A]at y;rw[C]at z;have e0:=ZrF (G c0 B);obtain rfl:o=c:=KO (D.symm.trans h);have r:∀free,Kf (l.filter λp=>p.2.2.2.1) free=Kf l true:=by
  intro free;funext u v w;refine propext ⟨λ⟨p,t,_,h⟩=>?_,λ⟨p,t,E,h⟩=>?_⟩
  ·obtain⟨j,m⟩:=Vxb.1 t;exact⟨p,j,λ_=>m,h⟩
  ·have:=E rfl;exact⟨p,by grind,λ_=>this,h⟩
 have key:o=l.filter λp=>p.2.2.2.1:=by
  rw[KO z]
  conv=>rhs;rw[<-e0,KO y]
  rw[ZpF,r,r];congr 1;funext a b;exact(ZtN a b _ _).symm
 rw[key];exact ZrG _
theorem Zew(n:Zc)(q:Zl)(l:List Wy)(i:Nat):(((l.map (Jj n q))[i]?).getD c0).1=((l[i]?).getD c0).1/\(((l.map (Jj n q))[i]?).getD c0).2.1=((l[i]?).getD c0).2.1/\(((l.map (Jj n q))[i]?).getD c0).2.2.1=((l[i]?).getD c0).2.2.1:=by
 rw[Vla]
 cases l[i]? with
 |none=>simp
 |some c=>
  simp only[Vxc,Option.getD_some];unfold Jj;grind
theorem ZqS(n:Zc)(q:Zl)(l:List Wy)(k b a:Int):XB (l.map (Jj n q)) k b a=XB l k b a:=by
 have h:XH (l.map (Jj n q)) k b a=XH l k b a:=by funext i;obtain⟨c,d,e⟩:=Zew n q l i;obtain⟨f,g,j⟩:=Zew n q l (i - 1);unfold XH ZcI ZcJ ZcK;grind
 unfold XB;grind
theorem ZnE(n:Zc)(q:Zl)(a:Int):(rn (Kr n q) a).2.2.2.2.2.2.2.1=(rn n a).2.2.2.2.2.2.2.1.map (Jj n q):=by
 unfold rn;show (((n.2.2.1.map (Xz n q))[a.toNat]?).getD u0).2.2.2.2.2.2.2.1=_;rw[Vla];cases n.2.2.1[a.toNat]? <;>rfl
theorem Zuk(n:Zc)(q:Zl)(i:Nat):W3 (Kr n q) i=W3 n i:=by have a:(Kr n q).2.2.1.length=n.2.2.1.length:=Vo ..;unfold W3 Hh Gq;simp only[ZnE,Vo,a];have b:∀(l:List Wy) (x:Int),(cl (l.map (Jj n q)) x).1=(cl l x).1:=λl x=>(Zew n q l _).1;simp only[b];rfl
theorem Zwa(n:Zc)(q:Zl){i:Nat}(f:i<n.2.2.1.length):X0 (Kr n q) i=X0 n i:=by
 have c:∀j,j<n.2.2.1.length->((Kr n q).2.2.1[j]?).getD u0=Xz n q ((n.2.2.1[j]?).getD u0):=by intro j a;show ((n.2.2.1.map (Xz n q))[j]?).getD u0=_;grind
 unfold X0;rw[c i f];have d:(∃j,j<i/\runK (((Kr n q).2.2.1[j]?).getD u0)=runK (Xz n q ((n.2.2.1[i]?).getD u0)))↔∃j,j<i/\runK ((n.2.2.1[j]?).getD u0)=runK ((n.2.2.1[i]?).getD u0):=by
  constructor
  ·rintro ⟨j,a,e⟩;rw[c j (by omega)]at e;exact⟨j,a,e⟩
  ·rintro ⟨j,a,e⟩;refine⟨j,a,?_⟩;rw[c j (by omega)];exact e
 have b:XB (Xz n q ((n.2.2.1[i]?).getD u0)).2.2.2.2.2.2.2.1 ((Kr n q).1.length:Int) 0 3155932800=XB ((n.2.2.1[i]?).getD u0).2.2.2.2.2.2.2.1 (n.1.length:Int) 0 3155932800:=ZqS n q _ _ _ _;simp only[b,d];rfl
theorem ZpI{n:Zc}(q:Zl)(e:n.2.2.2.2.1.length<=4096)(h:Whole n):Whole (Kr n q):=by
 have a:(Kr n q).2.2.1.length=n.2.2.1.length:=Vo ..;have d:(∀i,i<(HX n q).length->Wm n.1.length (HX n q) i=0)/\∀c,F119 (HX n q) (n.1.length:Int)=Ua c->XT c (HX n q)=true:=by
  unfold HX;split
  ·exact Zts h.sound.stops e (W2.1 h.q) h.w
  ·exact⟨W2.1 h.q,h.w⟩
 refine⟨h.s,h.t,by rw[a];exact h.u,?_,h.v,?_,W2.2 d.1,d.2,h.z⟩
 ·rw[a];exact W2.2 λi b=>by rw[Zwa n q b];exact W2.1 h.f i b
 ·exact W2.2 λi b=>by rw[Zuk];exact W2.1 h.g i b
end Q
namespace Q
open Tr Go
def Zo1(n:Zc)(l:List Wy)(j:Nat):Nat:=2 ^ (WN n ((l[j]?).getD c0).1).2.1.toNat
theorem Zoi{n:Zc}(h:WV n){a:Int}(d:0<=a)(e:a<(n.1.length:Int)):idx n.1 a=Ua (WN n a)/\0<=(WN n a).2.1/\(WN n a).2.1<16:=by
 have c:Kc a n.1.length=true:=by unfold Kc;grind
 refine⟨Jl c s0,?_⟩;have b:a.toNat<n.1.length:=by omega
 unfold WN;rw[Ks b];exact h.zone _ (Vf b)
theorem ZxN{n:Zc}(h:WV n){x:Zw}(o:KL n x=Uc):F142 n x=Ua ((zN n (K9 n x) x.2.2.1.toNat (x.2.2.2.1.toNat+1 - x.2.2.1.toNat):Nat):Int):=by
 unfold KL at o;simp only[Vb,Kx]at o;obtain⟨w,y,p,z⟩:=o;have v:=R4 w;have f:=(h.many _ v).2;have t:∀c∈K9 n x,0<=c.1/\c.1<(n.1.length:Int):=h.call _ v;have e:idx n.2.2.1 x.2.1=Ua (rn n x.2.1):=Jl w u0;unfold F142;rw[e];simp only[Za];have d:(rn n x.2.1).2.2.2.2.2.2.2.1=K9 n x:=rfl;simp only[d]at f⊢;generalize K9 n x=l at*;obtain⟨a,r⟩:∃a:Nat,x.2.2.1=(a:Int):=⟨x.2.2.1.toNat,by omega⟩;obtain⟨b,s⟩:∃b:Nat,x.2.2.2.1=(b:Int):=⟨x.2.2.2.1.toNat,by omega⟩;rw[r]at y p;rw[s]at p z;rw[r,s];simp only[Vi];rw[JV (n:=b+1 - a) (λi (st:Int×Int)=>st=(((zN n l a i:Nat):Int),((a+i:Nat):Int))) (λ_=>0) (λ_=>((zN n l a (b+1 - a):Nat):Int)) ((zN n l a (b+1 - a):Nat):Int) ?_ ?_ ?_ ((0:Int),(a:Int)) rfl]
 ·unfold pick;grind
 ·rintro i _ B rfl _;have u:a+i<l.length:=by omega
  have g:=t _ (Vf u);obtain⟨k,m,j⟩:=Zoi h g.1 g.2;refine⟨(((zN n l a (i+1):Nat):Int),((a+(i+1):Nat):Int)),?_,rfl⟩;have A:Va .i64 (((a+i:Nat):Int)+1)=((a+(i+1):Nat):Int):=by rw[ZN (by omega) (by omega)];omega
  simp only[Zi (show ((a+i:Nat):Int)<=(b:Int) by omega),Zd,ZJ u,Za,k,Zcb m j,A];rw[G7 (ZdK h t (a:=a) i (by omega)) (HZ j)];have:zN n l a (i+1)=zN n l a i ||| 2 ^ (WN n l[a+i].1).2.1.toNat:=by show zN n l a i ||| Zo1 n l (a+i)=_;unfold Zo1;grind
  grind
 all_goals grind
theorem ZmO{c d:Bool}{e:Int}{K:Option Int}{k:Int}(h:K=Ua k):(Vh (bif c then Ua Uc else Ua d) λx=>bif x then Ua e else K)=Ua (bif c||d then e else k):=by grind
theorem Zbj{c d:Bool}{e:Int}{K:Option Int}{k:Int}(h:K=Ua k):(Vh (bif c then Ua d else Ua Ud) λx=>bif x then Ua e else K)=Ua (bif c&&d then e else k):=by grind
theorem ZbV{c:Bool}{e:Int}{K:Option Int}{k:Int}(h:K=Ua k):(bif c then Ua e else K)=Ua (bif c then e else k):=by grind
theorem Zbn{o:Option Bool}{c:Bool}{e:Int}{K:Option Int}{k:Int}(a:o=Ua c)(h:K=Ua k):(Vh o λx=>bif x then Ua e else K)=Ua (bif c then e else k):=by grind
theorem K4{c:Bool}{e k:Int}(a:e≠0):(bif c then e else k)=0↔c=Ud/\k=0:=by grind
def Zfi(q:Zl)(t:Hc):Bool:=Ue (q.2.2.2.2.2.2.2.2.1=(0:Int)) ||decide (ZC .i64 (Vxa q.2.2.2.2.2.2.2.2.1 (2 ^ (min (Vda t.2.1) 64))) 1=1)
theorem ZvA(a:Int):ZC .i64 a 1=0\/ZC .i64 a 1=1:=by
 unfold ZC;have h:(Vc Vaa.bits a &&& Vc Vaa.bits 1).toNat=(Vc Vaa.bits a).toNat % 2:=by grind
 rw[h];have:(Vc Vaa.bits a).toNat % 2=0\/(Vc Vaa.bits a).toNat % 2=1:=by omega
 rcases this with h|h<;>rw[h]
 ·left;rfl
 ·right;rfl
theorem Zux(q:Zl)(t:Hc)(b:0<=t.2.1):(bif !Ue (q.2.2.2.2.2.2.2.2.1=(0:Int)) then Vh (G9 .i64 q.2.2.2.2.2.2.2.2.1 t.2.1) λx=>Ua (Ue (ZC .i64 x (1:Int)=(0:Int))) else Ua Ud)=Ua (!Zfi q t):=by
 unfold Zfi;have a:G9 .i64 q.2.2.2.2.2.2.2.2.1 t.2.1=Ua (Vxa q.2.2.2.2.2.2.2.2.1 (2 ^ (min (Vda t.2.1) 64))):=by unfold G9;rw[Zg (by omega)];rfl
 rw[a];simp only[Za]
 cases Ue (q.2.2.2.2.2.2.2.2.1=(0:Int)) with
 |true=>rfl
 |false=>
  rcases ZvA (Vxa q.2.2.2.2.2.2.2.2.1 (2 ^ (min (Vda t.2.1) 64))) with h|h<;>rw[h]<;>rfl
def Db(n:Zc)(q:Zl)(x:Zw):Int:=
 bif !Ue ((cl (K9 n x) x.2.2.1).1=x.2.2.2.2.1) || !Ue ((cl (K9 n x) x.2.2.2.1).1=x.2.2.2.2.2.1) then 24 else
 bif !Ue ((cl (K9 n x) x.2.2.1).2.2.1=x.2.2.2.2.2.2.1) || !Ue ((cl (K9 n x) x.2.2.2.1).2.1=x.2.2.2.2.2.2.2.1) then 10 else
 bif (rn n x.2.1).2.2.2.2.2.2.1 then 27 else
 bif q.2.2.2.2.2.2.1&& !(rn n x.2.1).2.2.2.2.2.1 then 29 else
 bif q.2.2.2.2.2.2.2.1&& !(Rk n (rn n x.2.1)).2.2.1 then 30 else
 bif !Zfi q (Rk n (rn n x.2.1)) then 31 else
 bif !KM x&& !(cl (K9 n x) x.2.2.1).2.2.2.1 then 25 else
 bif !KM x&& !Yg n q x.2.2.2.2.1 then 29 else 0
theorem Zlb{n:Zc}{x:Zw}(a:KL n x=Uc):idx n.2.2.1 x.2.1=Ua (rn n x.2.1)/\rn n x.2.1∈n.2.2.1/\idx (rn n x.2.1).2.2.2.2.2.2.2.1 x.2.2.1=Ua (cl (K9 n x) x.2.2.1)/\idx (rn n x.2.1).2.2.2.2.2.2.2.1 x.2.2.2.1=Ua (cl (K9 n x) x.2.2.2.1):=by
 unfold KL at a;simp only[Vb,Kx]at a;obtain⟨b,d,e,c⟩:=a;unfold K9 at c;refine⟨Jl b u0,R4 b,Jl ?_ c0,Jl ?_ c0⟩<;> (unfold Kc;grind)
theorem ZmN{n:Zc}(q:Zl){s:Int}(h:Kc s n.1.length=Uc):F146 n q s=Ua (Yg n q s):=by unfold F146 Yg;rw[show idx n.1 s=Ua (WN n s) from Jl h s0];grind
theorem ZvU{n:Zc}(a:WV n)(q:Zl){x:Zw}(l:KL n x=Uc)(j:Kc x.2.2.2.2.1 n.1.length=Uc):F155 n q x=Ua (Db n q x):=by obtain⟨b,d,e,f⟩:=Zlb l;obtain⟨g,h⟩:=ZnG a d;have k:=(a.mode _ h).1;unfold F155 Db;rw[b];simp only[Za];rw[e,f,g];simp only[Za];refine ZmO (ZmO (ZbV (Zbj (Zbj (Zbn (Zux q _ k) (Zbj (Zbn (c:= !KM x&& !Yg n q x.2.2.2.2.1) ?_ rfl)))))));rw[ZmN q j];grind
def HS(x:Zw)(p:Kl):Bool:=Ue (p.1=x.2.2.2.2.1)&&(Ue (p.2.1=x.2.2.2.2.2.1)&&Ue (p.2.2.1=Va .i64 (x.2.2.2.2.2.2.2.1 - x.2.2.2.2.2.2.1)))
def Gv(q:Zl)(p:Kl):Bool:=p.2.2.2.1|| !q.2.2.2.2.2.2.1
def Hy(n:Zc)(q:Zl)(x:Zw):Int:=bif n.2.2.2.2.1.any λp=>HS x p&&Gv q p then 0 else bif n.2.2.2.2.1.any (HS x) then 29 else 18
theorem ZcC{α:Type}{l:List α}{i:Nat}(h:i<l.length)(f:α->Bool):(l.take (i+1)).any f=((l.take i).any f||f l[i]):=by rw[Vd h,Vyc];simp
theorem Zxl{n:Zc}(g:n.2.2.2.2.1.length<=4096)(q:Zl)(x:Zw):F156 n q x=Ua (Hy n q x):=by
 unfold F156;refine Wj (λr:Int ⊕ Int=>Vsd id id r=Hy n q x) ?_ ?_
 ·refine KP n.2.2.2.2.1.length _ (λi (s:Int×Int)=>s=((bif (n.2.2.2.2.1.take i).any (HS x) then 29 else 18),(i:Int))/\((n.2.2.2.2.1.take i).any λp=>HS x p&&Gv q p)=Ud) ?_ ?_ _ ⟨rfl,rfl⟩
  ·rintro i _ a ⟨rfl,b⟩;simp only[ZV a,Zd,ZJ a,Za,Z8 a (by omega)];have e:(bif !Ue ((n.2.2.2.2.1[i]).1=x.2.2.2.2.1) then Ua Uc else bif !Ue ((n.2.2.2.2.1[i]).2.1=x.2.2.2.2.2.1) then Ua Uc else Ua !Ue ((n.2.2.2.2.1[i]).2.2.1=Va .i64 (x.2.2.2.2.2.2.2.1 - x.2.2.2.2.2.2.1)))=Ua (!HS x n.2.2.2.2.1[i]):=by unfold HS;grind
   have f:(bif (n.2.2.2.2.1[i]).2.2.2.1 then Ua Uc else Ua !q.2.2.2.2.2.2.1)=Ua (Gv q n.2.2.2.2.1[i]):=by unfold Gv;grind
   rw[e,f];simp only[Za]
   cases c:HS x n.2.2.2.2.1[i] with
   |false=>
    left;refine⟨_,rfl,?_,?_⟩
    ·rw[ZcC a,c,Bool.or_false]
    ·rw[ZcC a,b,c];rfl
   |true=>
    cases d:Gv q n.2.2.2.2.1[i] with
    |true=>
     right;refine⟨_,rfl,?_⟩;unfold Hy
     grind
    |false=>
     left;refine⟨_,rfl,?_,?_⟩
     ·rw[ZcC a,c,Vnc];rfl
     ·rw[ZcC a,b,c,d];rfl
  ·rintro _ ⟨rfl,b⟩;simp only[YU,Ze];refine⟨_,rfl,?_⟩;rw[Vpa]at b⊢;unfold Hy;grind
 grind
def Xo(n:Zc)(q:Zl)(x:Zw):Int:=
 bif !Kc x.2.2.2.2.1 n.1.length|| !Kc x.2.2.2.2.2.1 n.1.length then 9 else
 bif (bif x.1 then !KL n x else !Ue (x.2.1=0) || (!Ue (x.2.2.1=0) || (!Ue (x.2.2.2.1=0) ||KM x))) then 9 else
 bif !Ue (0<=x.2.2.2.2.2.2.1/\x.2.2.2.2.2.2.1<=3155932800) || !Ue (0<=x.2.2.2.2.2.2.2.1/\x.2.2.2.2.2.2.2.1<=3155932800) then 10 else
 bif x.1 then Db n q x else Hy n q x
theorem ZgT{o:Option Bool}{c:Bool}{e:Int}{K:Option Int}{k:Int}(a:o=Ua c)(h:c=Ud->K=Ua k):(Vh o λx=>bif x then Ua e else K)=Ua (bif c then e else k):=by grind
theorem Zuc{n:Zc}(d:WV n)(f:n.2.2.2.2.1.length<=4096)(q:Zl)(x:Zw):F153 n q x=Ua (Xo n q x):=by
 have e:n.1.length<=9223372036854775807:=by have:=d.stops;omega
 unfold F153 Xo;rw[ZbN _ e,ZbN _ e];refine ZgT (c:= !Kc x.2.2.2.2.1 n.1.length|| !Kc x.2.2.2.2.2.1 n.1.length) (by grind) λg=>?_;rw[Zk9];refine ZgT (c:=bif x.1 then !KL n x else !Ue (x.2.1=0) || (!Ue (x.2.2.1=0) || (!Ue (x.2.2.2.1=0) ||KM x))) ?_ λa=>?_
 ·grind
 ·rw[ZaB,ZaB];refine ZgT (c:= !Ue (0<=x.2.2.2.2.2.2.1/\x.2.2.2.2.2.2.1<=3155932800) || !Ue (0<=x.2.2.2.2.2.2.2.1/\x.2.2.2.2.2.2.2.1<=3155932800)) ?_ λ_=>?_
  ·grind
  ·cases b:x.1 with
   |false=>
    simp only[Ze]
    rw[Zxl f];rfl
   |true=>
    rw[b]at a;simp only[Zd]at a⊢;rw[ZvU d q (by grind) (by grind)]
    rfl
def ZaL(a b:Zw)(stay:Bool)(l:Gg):Bool:=Ue (l.1=a.2.1)&&(Ue (l.2.1=a.2.2.2.1)&&(Ue (l.2.2.1=b.2.1)&&(Ue (l.2.2.2.1=b.2.2.1)&&(l.2.2.2.2.1==stay))))
def G2(n:Zc)(a b:Zw)(stay:Bool):Bool:=n.2.2.2.1.any (ZaL a b stay)
theorem Zme{n:Zc}(g:n.2.2.2.1.length<=4096)(a b:Zw)(stay:Bool):F154 n a b stay=Ua (G2 n a b stay):=by
 unfold F154;refine Wj (λr:Unit ⊕ Bool=>Vsd (λ_=>Ud) id r=G2 n a b stay) ?_ ?_
 ·unfold G2;refine KP n.2.2.2.1.length _ (λi (s:Int)=>s=(i:Int)/\(n.2.2.2.1.take i).any (ZaL a b stay)=Ud) ?_ ?_ _ ⟨rfl,rfl⟩
  ·rintro i _ c ⟨rfl,e⟩;simp only[ZV c,Zd,ZJ c,Za,Z8 c (by omega)];have d:(bif Ue ((n.2.2.2.1[i]).1=a.2.1) then
 bif Ue ((n.2.2.2.1[i]).2.1=a.2.2.2.1) then
 bif Ue ((n.2.2.2.1[i]).2.2.1=b.2.1) then
 bif Ue ((n.2.2.2.1[i]).2.2.2.1=b.2.2.1) then Ua ((n.2.2.2.1[i]).2.2.2.2.1==stay) else Ua Ud
 else Ua Ud
 else Ua Ud
 else Ua Ud)=Ua (ZaL a b stay n.2.2.2.1[i]):=by unfold ZaL;grind
   erw[d];simp only[Za]
   cases f:ZaL a b stay n.2.2.2.1[i] with
   |false=>
    left;refine⟨_,rfl,rfl,?_⟩
    rw[ZcC c,e,f];rfl
   |true=>
    grind
  simp
 grind
def Yv(n:Zc)(a b:Zw):Int:=
 bif !Ue (a.2.2.2.2.2.1=b.2.2.2.2.1) then 24 else
 bif !a.1&& !b.1 then 32 else
 bif KM b then(bif !a.1|| !G2 n a b Uc then 19 else bif Ue (b.2.2.2.2.2.2.1<a.2.2.2.2.2.2.2.1) then 10 else 0) else
 bif !b.1 then(bif !Ue (b.2.2.2.2.2.2.1=a.2.2.2.2.2.2.2.1) then 10 else 0) else
 bif !a.1 then(bif Ue (b.2.2.2.2.2.2.1<a.2.2.2.2.2.2.2.1) then 28 else 0) else
 bif Ue (Va .i64 (a.2.2.2.2.2.2.2.1+(WN n a.2.2.2.2.2.1).2.2.2.1)<=b.2.2.2.2.2.2.1) || (G2 n a b Ud&&Ue (a.2.2.2.2.2.2.2.1<=b.2.2.2.2.2.2.1)) then 0 else 28
theorem Ztq{n:Zc}(d:n.2.2.2.1.length<=4096){a b:Zw}(e:Kc b.2.2.2.2.1 n.1.length=Uc):F151 n a b=Ua (Yv n a b):=by
 unfold F151 Yv;rw[Zme d,Zme d];by_cases c:a.2.2.2.2.2.1=b.2.2.2.2.1
 case neg=>grind
 rw[Zi c];simp only[Vg,Ze,Za];refine Zbj ?_;unfold KM
 cases b.2.2.2.2.2.2.2.2.1 with
 |true=>
  grind
 |false=>
  simp only[Ze]
  cases b.1 with
  |false=>
   grind
  |true=>
   simp only[Vg,Ze]
   cases a.1 with
   |false=>
    grind
   |true=>
    simp only[Vg,Ze];have f:idx n.1 a.2.2.2.2.2.1=Ua (WN n a.2.2.2.2.2.1):=by rw[c];exact Jl e s0
    grind
def g0:Zw:=(Ud,0,0,0,0,0,0,0,Ud,())
def lg(L:List Zw)(i:Nat):Zw:=(L[i]?).getD g0
def DC(n:Zc)(q:Zl)(L:List Zw):Int:=
 bif !Ue ((lg L 0).2.2.2.2.1=q.1) then 24 else
 bif KM (lg L 0) then 19 else
 bif !(lg L 0).1&&(Ue (1<L.length)&&((lg L 1).1&& !Ue ((lg L 1).2.2.2.2.2.2.1=(lg L 0).2.2.2.2.2.2.2.1))) then 10 else
 bif !(lg L 0).1&&(Ue (L.length=1)&&(bif q.2.2.2.1 then !Ue ((lg L 0).2.2.2.2.2.2.2.1=q.2.2.1) else !Ue ((lg L 0).2.2.2.2.2.2.1=q.2.2.1))) then 10 else
 bif !q.2.2.2.1&&Ue ((lg L 0).2.2.2.2.2.2.1<q.2.2.1) then 10 else
 bif q.2.2.2.2.2.2.2.2.2.1&&((lg L 0).1&&Ue ((lg L 0).2.2.2.2.2.2.1<Va .i64 (q.2.2.1+(WN n q.1).2.2.2.1))) then 28 else 0
theorem DG{L:List Zw}{i:Nat}(h:i<L.length):idx L (i:Int)=Ua (lg L i):=by rw[ZJ h];unfold lg;grind
theorem ZsX{n:Zc}{q:Zl}{L:List Zw}(a:0<L.length)(d:Kc q.1 n.1.length=Uc):F150 n q (L,())=Ua (DC n q L):=by
 unfold F150 DC;have e0:idx (L,()).1 (0:Int)=Ua (lg L 0):=DG a;rw[e0];simp only[Za];refine ZbV (Zbn (c:=KM (lg L 0)) rfl ?_ :(Vh (Ua _) λ_=>_)=_);refine Zbn (c:= !(lg L 0).1&&(Ue (1<L.length)&&((lg L 1).1&& !Ue ((lg L 1).2.2.2.2.2.2.1=(lg L 0).2.2.2.2.2.2.2.1)))) ?_ (Zbn (c:= !(lg L 0).1&&(Ue (L.length=1)&&(bif q.2.2.2.1 then !Ue ((lg L 0).2.2.2.2.2.2.2.1=q.2.2.1) else !Ue ((lg L 0).2.2.2.2.2.2.1=q.2.2.1)))) ?_ (Zbj (Zbn (c:=q.2.2.2.2.2.2.2.2.2.1&&((lg L 0).1&&Ue ((lg L 0).2.2.2.2.2.2.1<Va .i64 (q.2.2.1+(WN n q.1).2.2.2.1)))) ?_ rfl)))
 ·by_cases b:1<L.length
  ·have e:idx L (1:Int)=Ua (lg L 1):=DG b;grind
  grind
 ·rw[show Ue ((L.length:Int)=1)=Ue (L.length=1) from (by grind)];grind
 ·rw[show idx n.1 q.1=Ua (WN n q.1) from Jl d s0];grind
end Q
namespace Q
open Tr Go
def ZaX(L:List Zw)(i:Nat):Bool:=Ue (0<i)&&(lg L (i - 1)).1
theorem ZvY{n:Zc}(h:WV n)(o:F123 n=Ua Uc)(L:List Zw)(K:L.length<=1000):F137 n (L,())=Ua (Wg n L Ud []):=by
 unfold F137;rw[o];simp only[Za,Vg,Ze];refine Wj (λr=>Wg n L Ud []=Vsd (λl:List ZF=>(l,(0:Int))) (λy=>y) r) ?_ ?_
 ·refine KP L.length _ (λi (s:List ZF×Int)=>∃l,s=(l,(i:Int))/\l.length<=i/\(ZaX L i=Uc->0<l.length)/\Wg n L Ud []=Wg n (L.drop i) (ZaX L i) l) ?_ ?_ _ ⟨[],rfl,by simp,λe=>(nomatch e),rfl⟩
  ·rintro i _ d ⟨l,rfl,H,E,a⟩;have g:L.length<=9223372036854775807:=by omega
   rw[Vr d]at a;have j:ZaX L (i+1)=(L[i]).1:=by unfold ZaX lg;grind
   have m:(bif !(L[i]).1 then Ua Uc else bif Ue ((i:Int)=(0:Int)) then Ua Uc else Vh (idx L (Va .i64 ((i:Int) - (1:Int)))) λI=>Ua !I.1)=Ua (!((L[i]).1&&ZaX L i)):=by
    cases (L[i]).1 with
    |false=>rfl
    |true=>
     unfold ZaX;by_cases J:i=0
     ·grind
     ·rw[Zt (by omega),Zi (by omega)];have e:Va .i64 ((i:Int) - 1)=((i - 1:Nat):Int):=by rw[ZN (by omega) (by omega)];omega
      rw[e,DG (by omega)];rfl
   simp only[ZV d,Zd,ZJ d,Za,Z8 d g,Zk9];rw[m];generalize L[i]=x at*;rw[GG]at a;generalize ZaX L i=w at*
   cases t:x.1 with
   |false=>
    grind
   |true=>
    rw[t]at a j;simp only[Zd,Za,Vg,Ze,Vha]
    cases p:KL n x with
    |false=>
     grind
    |true=>
     rw[p]at a;obtain⟨u,z,A,B⟩:=Zb6 h p;have D:=ZxN h p;simp only[Vg,Ze]
     cases f:KM x with
     |false=>
      left;rw[f]at a;have b:=f;unfold KM at b;rw[b];simp only[Ze,Za];rw[u];simp only[Za];rw[z];simp only[Za];rw[Zcb A B,D];simp only[Za];rw[DE (by grind)];refine⟨_,rfl,l++[HV n x],rfl,by grind,by simp,?_⟩
      grind
     |true=>
      rw[f]at a;have b:=f;unfold KM at b;rw[b];simp only[Zd,Za]
      cases w with
      |false=>
       grind
      |true=>
       left;have c:=E rfl;obtain⟨v,o⟩:∃v,l[l.length - 1]? =Ua v:=⟨_,Ve (by omega)⟩;simp only[Vg,Ze];rw[u];simp only[Za];rw[z];simp only[Za];rw[Zcb A B,D];have G:=ZlG (k:=l.length) c (by omega);simp only[Za,Vyb];rw[G];simp only[Za,o,ZfN (show l.length - 1<l.length by omega)];rw[ZfN (by grind)];simp only[Za,Vod];have C:Ya n x l=GP n x l v:=by unfold Ya;grind
       refine⟨_,rfl,GP n x l v,rfl,by rw[<-C,Zd7];omega,λ_=>by rw[<-C,Zd7];omega,?_⟩;grind
  ·rintro _ ⟨l,rfl,H,E,a⟩;simp only[YU,Ze];refine⟨_,rfl,?_⟩;rw[a,Vtc];rfl
 grind
theorem Zxy(a b d:Int):∃r,F141 a b d=Ua r:=by
 unfold F141;cases Ue (b<=a)<;>exact⟨_,rfl⟩
theorem Zw0(F:ZR)(p:Xf){l:List ZF}{i:Nat}(b:i<l.length)(f:l.length<=100):∃r,F138 F p l (i:Int)=Ua r:=by
 unfold F138;by_cases d:0<i
 ·have e:Va .i64 ((i:Int) - 1)=((i - 1:Nat):Int):=by rw[ZN (by omega) (by omega)];omega
  obtain⟨c,a⟩:=Zxy (l[i - 1]).2.1 (l[i]).1 F.2.2.1;rw[Zi (by omega),e];simp only[Zd,ZJ (show i - 1<l.length by omega),ZJ b,Za,a];cases c<;>exact⟨_,rfl⟩
 simp_all
abbrev TkT:=Int×Int×Int×Int×Unit
abbrev GK:=Bool×Int×List TkT×Unit
def HG(F:ZR)(l:List ZF)(T:List GK):Prop:=T.length=l.length+1/\∀j r,T[j]? =Ua r->r.2.2.1.length+j<=l.length/\(r.1=Uc->∃s,Dv.Div (Km F l) j s)
theorem HG.get{F:ZR}{l:List ZF}{T:List GK}(h:HG F l T){j:Nat}(a:j<=l.length):∃r,T[j]? =Ua r/\r.2.2.1.length+j<=l.length/\(r.1=Uc->∃s,Dv.Div (Km F l) j s):=by have b:=h.1;exact⟨_,Ve (show j<T.length by omega),h.2 _ _ (by simp)⟩
theorem HG.put{F:ZR}{l:List ZF}{T:List GK}(h:HG F l T){i:Nat}{r:GK}(c:r.2.2.1.length+i<=l.length/\(r.1=Uc->∃s,Dv.Div (Km F l) i s)):HG F l (T.set i r):=by
 refine⟨by rw[Vyb];exact h.1,λj s b=>?_⟩;by_cases a:i=j
 ·grind
 ·rw[Vfb a]at b;exact h.2 j s b
theorem ZgS{β σ τ:Type}{o:Option β}{f:β->Option (σ ⊕ τ)}{Q:σ->Prop}(P:β->Prop)(h:∃r,o=Ua r/\P r)(k:∀r,P r->∃s,f r=Ua (.inl s)/\Q s):∃s,Vh o f=Ua (.inl s)/\Q s:=by grind
theorem Zvo{F:ZR}(hF:F.1.length<=4096)(N:(JN F).2=0){l:List ZF}(K:∀v∈l,Small v)(hl:l.length<=8):∃R,F136 F l=Ua R/\(R.2.2=Uc->∃s,Dv.Div (Km F l) 0 s):=by
 unfold F136;have Z:Va .i64 ((l.length:Int)+1)=((l.length+1:Nat):Int):=by rw[ZN (by omega) (by omega)];omega
 have S:ZD (Ue ((0:Int)<=((l.length+1:Nat):Int)/\((l.length+1:Nat):Int)<=((l.length+1:Nat):Int)/\((l.length+1:Nat):Int)<=(ZI:Int)))=Ua ():=by
  have V:(ZI:Int)=549755813888:=by rfl
  rw[Zi (by omega)];rfl
 have h:∀o:List GK,o=Vw (l.length+1) (Ud,0,[],())->Zv (l.length:Int) o.length=Ua l.length/\o[l.length]? =Ua (Ud,0,[],()):=by rintro o rfl;exact⟨KS (by simp),by simp⟩
 obtain⟨W,X⟩:=h _ rfl;rw[Z];erw[S];simp only[Za,Vi];erw[W];simp only[Za];erw[X];simp only[Za];have key:∀(o:Option (List GK)) (k:List GK->Option (Int×List TkT×Bool)),(∃T,o=Ua T/\HG F l T)->(∀T,HG F l T->∃R,k T=Ua R/\(R.2.2=Uc->∃s,Dv.Div (Km F l) 0 s))->∃R,Vh o k=Ua R/\(R.2.2=Uc->∃s,Dv.Div (Km F l) 0 s):=by grind
 refine key _ _ (KP l.length _ (λc (s:List GK×Int)=>∃T,s=(T,(l.length:Int) - 1 - (c:Int))/\HG F l T) ?_ ?_ _ ?_) ?_
 ·rintro c _ hc ⟨T,rfl,a⟩;left;obtain⟨i,U⟩:∃i:Nat,(l.length:Int) - 1 - (c:Int)=(i:Int):=⟨l.length - 1 - c,by omega⟩;have B:i<l.length:=by omega
  rw[U];rw[Zi (by omega)];simp only[Zd];refine ZgS (λt=>HG F l t) ?_ ?_
  ·refine KP (l.length - i) _ (λm (s:List GK×Int)=>∃T,s=(T,((i+m:Nat):Int))/\HG F l T) ?_ ?_ _ ⟨T,rfl,a⟩
   ·rintro m _ V ⟨T,rfl,a⟩;left;have u:i+m<l.length:=by omega
    have J:Va .i64 (((i+m:Nat):Int)+1)=((i+m+1:Nat):Int):=by rw[ZN (by omega) (by omega)];omega
    have x:=a.1;have d:Zv ((i+m+1:Nat):Int) T.length=Ua (i+m+1):=KS (by omega);obtain⟨r,D,z⟩:=a.get (show i+m+1<=l.length by omega);simp only[ZV u,Zd,J,d,D,Za]
    cases E:r.1 with
    |false=>grind
    |true=>
     obtain⟨sd,I⟩:=z.2 E;simp only[Vg,Ze];refine ZgS (λt=>HG F l t) ?_ ?_
     ·refine KP F.1.length _ (λp (s:List GK×Int)=>∃T,s=(T,(p:Int))/\HG F l T) ?_ ?_ _ ⟨T,rfl,a⟩
      ·rintro p _ w ⟨T,rfl,a⟩;left;have M:Va .i64 ((p:Int)+1)=((p+1:Nat):Int):=by rw[ZN (by omega) (by omega)];omega
       have x:=a.1;have d:Zv ((i+m+1:Nat):Int) T.length=Ua (i+m+1):=by grind
       have y:Zv (i:Int) T.length=Ua i:=KS (by omega);obtain⟨Y,H,Q⟩:=a.get (show i+m+1<=l.length by omega);obtain⟨ri,G,P⟩:=a.get (show i<=l.length by omega);have e:=Zr6 (p:=F.1[p]) K (show i<=i+m by omega) u (by omega);rw[<-Zhl N K (by omega) w (show i<=i+m by omega) u]at e;obtain⟨pr,C⟩:=Zw0 F F.1[p] B (by omega);simp only[ZV w,Zd,ZJ w,Za,e,C,d,y,H,G,M]
       cases f:(Km F l).cov p i (i+m) with
       |false=>grind
       |true=>
        have g:=Dv.Div.cons (show i<=i+m by omega) u w f I;simp only[Vg,Ze];refine ZgS (λ_=>True) ?_ λb _=>?_
        ·grind
        ·cases b with
         |true=>grind
         |false=>
          simp only[Ze];have A:ZD (Ue (Vm [((p:Int),(i:Int),((i+m:Nat):Int),pr,())]+Vm Y.2.2.1<=ZI))=Ua ():=by rw[Zi (by simp only[Vca,Vzb,ZI];omega)];rfl
          rw[A];simp only[Za];exact⟨_,rfl,_,rfl,a.put ⟨by grind,λ_=>⟨_,g⟩⟩⟩
      simp
     grind
   grind
  ·intro t O;have J:Va .i64 ((i:Int) - 1)=(l.length:Int) - 1 - ((c+1:Nat):Int):=by rw[ZN (by omega) (by omega)];omega
   grind
 ·grind
 ·refine⟨(Vw (l.length+1) ((Ud,0,[],()):GK)).set l.length (Uc,0,[],()),?_,HG.put ⟨by simp,λj r D=>?_⟩ ⟨by simp,λ_=>⟨0,.nil⟩⟩⟩
  ·rw[ZN (by omega) (by omega)];simp
  grind
 ·intro T a;obtain⟨r,D,_⟩:=a.get (Vua _);have hb:Zv (0:Int) T.length=Ua 0:=KS (i:=0) (by grind);simp_all
end Q
namespace Q
open Tr Go
def Zje(x:Zw):Bool:= !x.1&&(Ue (0<=x.2.2.2.2.2.2.1)&&(Ue (x.2.2.2.2.2.2.1<=x.2.2.2.2.2.2.2.1)&&Ue (Va .i64 (x.2.2.2.2.2.2.2.1 - x.2.2.2.2.2.2.1)<=14400)))
def Zcm(s:Int)(x:Zw):Int:=bif Zje x then Va .i64 (Va .i64 (s+x.2.2.2.2.2.2.2.1) - x.2.2.2.2.2.2.1) else s
def ZdI(L:List Zw):Int:=L.foldl Zcm 0
theorem Zjh(L:List Zw)(d:L.length<=1000):F139 (L,())=Ua (ZdI L):=by
 unfold F139;refine Wj (λr=>r=ZdI L) ?_ (by simp);refine KP L.length _ (λi (s:Int×Int)=>s=((L.take i).foldl Zcm 0,(i:Int))) ?_ ?_ _ rfl
 ·rintro i _ a rfl;left;have b:(bif !(L[i]).1 then
 bif Ue ((0:Int)<=(L[i]).2.2.2.2.2.2.1) then
 bif Ue ((L[i]).2.2.2.2.2.2.1<=(L[i]).2.2.2.2.2.2.2.1) then
 Ua (Ue (Va .i64 ((L[i]).2.2.2.2.2.2.2.1 - (L[i]).2.2.2.2.2.2.1)<=(14400:Int)))
 else Ua Ud
 else Ua Ud
 else Ua Ud)=Ua (Zje L[i]):=by unfold Zje;grind
  have c:(L.take (i+1)).foldl Zcm 0=Zcm ((L.take i).foldl Zcm 0) L[i]:=by rw[Vd a,Vqb];rfl
  simp only[ZV a,Zd,ZJ a,Za,Z8 a (by omega)];rw[b,c];unfold Zcm;grind
 ·rintro _ rfl;simp only[YU,Ze];exact⟨_,rfl,by rw[Vpa];rfl⟩
def ZaV(x:Zw):Bool:=x.1&& !KM x
def KE(L:List Zw):Nat:=(L.filter ZaV).length
noncomputable def Znb(F:ZR)(l:List ZF):Int:=match F136 F l with
 |some r=>bif r.2.2 then 0 else 34
 |none=>0
noncomputable def Zhk(n:Zc)(L:List Zw):Int:=
 bif !Ue ((Wg n L Ud []).2=0) then(Wg n L Ud []).2 else
 bif Ue (8<(Wg n L Ud []).1.length) then 33 else Znb n.2.2.2.2.2.1 (Wg n L Ud []).1
theorem Zq1(F:ZR)(s:Int):∃r,F132 F s=Ua r:=by
 unfold F132;cases Ue ((0:Int)<F.2.2.2.1)<;>exact⟨_,rfl⟩
theorem ZkQ{n:Zc}(h:WV n)(r:F123 n=Ua Uc)(hF:n.2.2.2.2.2.1.1.length<=4096)(q:Zl)(L:List Zw)(j:L.length<=1000):∃c,F133 n q (L,())=Ua c/\c.2.2=Zhk n L/\(c.2.2=0->0<L.length->∃a f w,Wg n L Ud []=(a,0)/\c.1=((lg L 0).2.2.2.2.2.2.1,(lg L (L.length - 1)).2.2.2.2.2.2.2.1,(a.length:Int),f,w,())/\∃s,Dv.Div (Km n.2.2.2.2.2.1 a) 0 s):=by
 have d:=ZhR h L Ud [];unfold F133 Zhk;rw[ZvY h r L j];simp only[Za];generalize Wg n L Ud []=R at*;obtain⟨a,e⟩:=R;by_cases k:e=0
 case neg=>simp_all
 subst k;simp only[decide_true,Vg,Ze];by_cases g:8<a.length
 ·rw[Zi (show (8:Int)<(a.length:Int) by omega),Zi g];simp
 rw[Zt (show¬(8:Int)<(a.length:Int) by omega),Zt g];simp only[Ze];obtain⟨p,o,m⟩:=Zvo hF h.fare (d a 0 rfl (by simp)) (by omega);unfold Znb;rw[o];simp only[Za]
 cases b:p.2.2 with
 |false=>simp
 |true=>
  simp only[Vg,Ze,Zd];obtain⟨c,l⟩:=Zq1 n.2.2.2.2.2.1 p.1;rw[l,Zjh L j];simp only[Za];by_cases hL:0<L.length
  ·have e:Va .i64 ((L.length:Int) - 1)=((L.length - 1:Nat):Int):=by rw[ZN (by omega) (by omega)];omega
   have t:idx L (0:Int)=Ua (lg L 0):=DG hL;rw[Zi (show (0:Int)<(L.length:Int) by omega),e,t,DG (show L.length - 1<L.length by omega)];exact⟨_,rfl,rfl,λ_ _=>⟨a,_,_,rfl,rfl,m b⟩⟩
  simp_all
def H7(L:List Zw)(i:Nat):Bool:=(lg L i).1&&(Ue (i+1=L.length) || !KM (lg L (i+1)))
def Du(n:Zc)(q:Zl)(x:Zw):Int:=bif !(cl (K9 n x) x.2.2.2.1).2.2.2.2.1 then 26 else bif !Yg n q x.2.2.2.2.2.1 then 29 else 0
def DH(n:Zc)(q:Zl)(L:List Zw)(i:Nat):Int:=bif Ue (i=0) then DC n q L else Yv n (lg L (i - 1)) (lg L i)
def J5(n:Zc)(q:Zl)(L:List Zw)(i:Nat):Int:=
 bif !Ue (Xo n q (lg L i)=0) then Xo n q (lg L i) else
 bif !Ue (DH n q L i=0) then DH n q L i else
 bif H7 L i then Du n q (lg L i) else 0
theorem Zl5{n:Zc}{q:Zl}{x:Zw}(h:Xo n q x=0):Kc x.2.2.2.2.1 n.1.length=Uc/\Kc x.2.2.2.2.2.1 n.1.length=Uc/\(x.1=Uc->KL n x=Uc/\Db n q x=0)/\(x.1=Ud->Hy n q x=0):=by unfold Xo at h;grind
theorem Zj9{n:Zc}(d:WV n)(k:n.2.2.2.2.1.length<=4096){q:Zl}(l:Kc q.1 n.1.length=Uc){L:List Zw}{i:Nat}(f:i<L.length)(y:L.length<=1000):F148 n q (L,()) (i:Int)=Ua (J5 n q L i):=by
 unfold F148 J5;rw[show idx (L,()).1 (i:Int)=Ua (lg L i) from DG f];simp only[Za];rw[Zuc d k q];simp only[Za];by_cases c:Xo n q (lg L i)=0
 case neg=>grind
 rw[Zi c];simp only[Vg,Ze];obtain⟨v,w,x,z⟩:=Zl5 c;have g:(bif Ue ((i:Int)=(0:Int)) then Vh (F150 n q (L,())) λs=>Ua s
 else Vh (idx L (Va .i64 ((i:Int) - (1:Int)))) λt=>Vh (F151 n t (lg L i)) λb=>Ua b)=Ua (DH n q L i):=by
  unfold DH;by_cases a:i=0
  ·subst a;rw[ZsX f l];rfl
  ·have e:Va .i64 ((i:Int) - 1)=((i - 1:Nat):Int):=by rw[ZN (by omega) (by omega)];omega
   rw[Zt (by omega),Zt a,e,DG (by omega)];simp only[Ze,Za];rw[Ztq (by have:=d.links;omega) v];rfl
 rw[g];simp only[Za];refine ZbV ?_;have p:Va .i64 ((i:Int)+1)=((i+1:Nat):Int):=by rw[ZN (by omega) (by omega)];omega
 rw[p];have h:(bif (lg L i).1 then bif Ue (((i+1:Nat):Int)=(↑(Vm L):Int)) then Ua Uc
 else Vh (idx L ((i+1:Nat):Int)) λu=>Ua !u.2.2.2.2.2.2.2.2.1
 else Ua Ud)=Ua (H7 L i):=by
  unfold H7;rw[show Ue (((i+1:Nat):Int)=(L.length:Int))=Ue (i+1=L.length) from (by grind)];by_cases j:i+1=L.length
  ·grind
  ·rw[Zt j,DG (by omega)];grind
 rw[h];simp only[Za]
 cases o:H7 L i with
 |false=>rfl
 |true=>
  have m:(lg L i).1=true:=by grind
  obtain⟨r,_,_,b⟩:=Zlb (x m).1;simp only[Zd];rw[r];simp only[Za];rw[b];simp only[Za];rw[ZmN q w];unfold Du;grind
noncomputable def DA(n:Zc)(q:Zl)(L:List Zw):Int:=
 bif !Ue ((lg L (L.length - 1)).2.2.2.2.2.1=q.2.1) then 24 else
 bif q.2.2.2.1&&Ue (q.2.2.1<(lg L (L.length - 1)).2.2.2.2.2.2.2.1) then 10 else
 bif Ue (q.2.2.2.2.1<(KE L:Int)) then 33 else
 bif Ue (q.2.2.2.2.2.1<ZdI L) then 32 else Zhk n L
theorem ZsB{n:Zc}(d:WV n)(f:F123 n=Ua Uc)(hF:n.2.2.2.2.2.1.1.length<=4096)(q:Zl){L:List Zw}(k:0<L.length)(b:L.length<=1000):F149 n q (L,())=Ua (DA n q L):=by
 unfold F149 DA;have e:Va .i64 ((L.length:Int) - 1)=((L.length - 1:Nat):Int):=by rw[ZN (by omega) (by omega)];omega
 simp only[e,DG (show L.length - 1<L.length by omega),Za];refine ZbV (Zbj ?_);refine Wj (λr=>r=(KE L:Int)) ?_ ?_
 ·refine KP L.length _ (λi (s:Int×Int)=>s=((KE (L.take i):Int),(i:Int))) ?_ ?_ _ rfl
  ·rintro i _ a rfl;left;have o:KE (L.take i)<=L.length:=by unfold KE;grind
   have h:(bif (L[i]).1 then Ua !(L[i]).2.2.2.2.2.2.2.2.1 else Ua Ud)=Ua (ZaV L[i]):=by unfold ZaV KM;grind
   have j:KE (L.take (i+1))=KE (L.take i)+(if ZaV L[i] then 1 else 0):=by unfold KE;rw[Vd a,Vkc,Vl];grind
   have g:Va .i64 ((KE (L.take i):Int)+1)=((KE (L.take i)+1:Nat):Int):=by rw[ZN (by omega) (by omega)];omega
   simp only[ZV a,Zd,ZJ a,Za,Z8 a (by omega),g];grind
  simp
 ·rintro _ rfl;refine ZbV ?_;rw[Zjh L b];simp only[Za];refine ZbV ?_;obtain⟨c,l,m,_⟩:=ZkQ d f hF q L b;grind
noncomputable def Dx(n:Zc)(q:Zl)(L:List Zw):Int×Int:=
 bif !Ue (Gs n q=0) then(0,Gs n q) else
 bif Ue (L.length=0) then(bif !Ue (q.1=q.2.1) then(0,24) else(0,0)) else
 match Wt L.length (J5 n q L) with
 |some i=>((i:Int),J5 n q L i)
 |none=>bif !Ue (DA n q L=0) then(((L.length - 1:Nat):Int),DA n q L) else(0,0)
open Classical in
theorem Zq6{n:Zc}(c:HB n)(hF:n.2.2.2.2.2.1.1.length<=4096)(q:Zl)(L:List Zw)(h:L.length<=1000):F143 n q (L,())=Ua (Dx n q L):=by
 unfold F143 Dx;rw[Zra c q];simp only[Za];by_cases d:Gs n q=0
 case neg=>rw[Zt d];rfl
 obtain⟨k,j⟩:=ZcO.1 d;have f:=k.sound;have l:F123 n=Ua true:=by rw[ZdG c,Zi k]
 have b:Kc q.1 n.1.length=true:=by unfold qB at j;rw[Vb]at j;exact j.1
 rw[Zi d];simp only[Vg,Ze];by_cases hL:L.length=0
 ·rw[Zi (show (L.length:Int)=0 by omega),Zi hL];cases Ue (q.1=q.2.1)<;>rfl
 rw[Zt (show¬(L.length:Int)=0 by omega),Zt hL];simp only[Ze];rw[JV (n:=L.length) (λi (s:Int)=>s=(i:Int)) (J5 n q L) (λi=>.inr ((i:Int),J5 n q L i)) (.inl ()) ?_ ?_ ?_ (0:Int) rfl]
 ·unfold pick
  cases Wt L.length (J5 n q L) with
  |some i=>rfl
  |none=>
   simp only[Za];show (Vh (F149 n q (L,())) _)=_;rw[ZsB f l hF q (by omega) h];have e:Va .i64 ((L.length:Int) - 1)=((L.length - 1:Nat):Int):=by rw[ZN (by omega) (by omega)];omega
   rw[e];simp only[Za];cases Ue (DA n q L=0)<;>rfl
 ·rintro i _ a rfl g;refine⟨((i+1:Nat):Int),?_,rfl⟩;simp only[ZV a,Zd,Z8 a (show _<=9223372036854775807 by omega)];rw[Zj9 f c.paths b a h];simp only[Za];rw[g];rfl
 ·rintro i _ a rfl g;simp only[ZV a,Zd];rw[Zj9 f c.paths b a h];simp only[Za];rw[Zt g];rfl
 ·rintro _ rfl;simp only[YU,Ze]
open Classical in
theorem ZcN(n:Zc)(q:Zl)(L:List Zw):(Dx n q L).2=0↔Gs n q=0/\((L.length=0/\q.1=q.2.1)\/(L.length≠0/\(∀i,i<L.length->J5 n q L i=0)/\DA n q L=0)):=by
 unfold Dx;by_cases h0:Gs n q=0
 case neg=>rw[Zt h0];simp [h0]
 rw[Zi h0];simp only[Vg,Ze];by_cases hL:L.length=0
 ·rw[Zi hL];by_cases he:q.1=q.2.1
  ·rw[Zi he];simp [h0,hL,he]
  ·rw[Zt he];simp [h0,hL,he]
 ·rw[Zt hL];simp only[Ze]
  cases hb:Wt L.length (J5 n q L) with
  |some i=>
   have hi:=Zav hb;simp only;constructor
   ·intro e;exact absurd e hi.2
   ·rintro ⟨_,⟨e,_⟩|⟨_,e,_⟩⟩
    ·exact absurd e hL
    ·exact e i hi.1
  |none=>
   have ha:=W2.1 hb;simp only;by_cases he:DA n q L=0
   ·rw[Zi he];simp [h0,hL,he];exact ha
   ·rw[Zt he];simp [h0,hL,he]
end Q
namespace Dm
structure Ride where
 dep:Int
 zn:Nat
 md:Nat
structure Law where
 len:Nat->Nat
 ok:Nat->Int->Int->Prop
 zok:Nat->Nat->Prop
 mok:Nat->Nat->Prop
 ok_mono:∀p a b d,a<=b->ok p a d->ok p b d
 zok_mono:∀p z z',z ||| z' =z' ->zok p z' ->zok p z
 mok_or:∀p m m',mok p (m ||| m')↔mok p m/\mok p m'
def zns(l:List Ride):Nat:=l.foldr (λr z=>r.zn ||| z) 0
def mds(l:List Ride):Nat:=l.foldr (λr z=>r.md ||| z) 0
def lastD(d:Int):List Ride->Int
 |[]=>d
 |r::l=>lastD r.dep l
theorem zns_append(l m:List Ride):zns (l++m)=zns l ||| zns m:=by
 induction l with
 |nil=>simp [zns]
 |cons r l a=>simp only[zns,Vqa,Vzc]at a⊢;rw[a,Vea]
theorem mds_append(l m:List Ride):mds (l++m)=mds l ||| mds m:=by
 induction l with
 |nil=>simp [mds]
 |cons r l a=>simp only[mds,Vqa,Vzc]at a⊢;rw[a,Vea]
theorem lastD_append(d:Int)(l m:List Ride):lastD d (l++m)=lastD (lastD d l) m:=by
 induction l generalizing d with
 |nil=>rfl
 |cons r l a=>exact a _
variable (L:Law)
def Cov(p:Nat)(r:Ride)(l:List Ride):Prop:=l.length+1<=L.len p/\L.ok p r.dep (lastD r.dep l)/\L.zok p (zns (r::l))/\L.mok p (mds (r::l))
inductive LS (np:Nat):List Ride->Prop
 |nil:LS np []
 |cons {r:Ride}{l c:List Ride}{p:Nat} (hp:p<np) (hc:Cov L p r l) (h:LS np c):LS np (r::(l++c))
variable {L}{np:Nat}
theorem LS.append{l m:List Ride}(h:LS L np l)(k:LS L np m):LS L np (l++m):=by
 induction h with
 |nil=>exact k
 |cons b a h c=>
  rw[Vqa,Vrb];exact .cons b a c
theorem LS.snoc{l0 a:List Ride}{r:Ride}{p:Nat}(b:LS L np l0)(e:p<np)(d:Cov L p r a):LS L np (l0++r::a):=by have:=b.append (.cons (c:=[]) e d .nil);rwa [Vva]at this
theorem LS.last{l:List Ride}(h:LS L np l):l=[]\/∃l0 r a p,l=l0++r::a/\LS L np l0/\p<np/\Cov L p r a:=by
 induction h with
 |nil=>exact .inl rfl
 |cons f e h j=>
  rename_i r l c p;rcases j with rfl|⟨l0,m,a,k,rfl,g,d,b⟩
  ·exact .inr ⟨[],r,l,p,by simp,.nil,f,e⟩
  ·exact .inr ⟨r::(l++l0),m,a,k,by simp,.cons f e g,d,b⟩
theorem LS.cut{l:List Ride}(h:LS L np l):∀B c,l=B++c->(LS L np B/\LS L np c)\/
 ∃e r f b g p,B=e++r::f/\c=b++g/\b≠ []/\p<np/\LS L np e/\Cov L p r (f++b)/\LS L np g:=by
 induction h with
 |nil=>
  intro B c h;obtain⟨rfl,rfl⟩:=List.append_eq_nil_iff.1 h.symm
  exact .inl ⟨.nil,.nil⟩
 |cons d a h y=>
  rename_i r l v p;intro B c j
  cases B with
  |nil=>
   rw[Vad]at j
   exact .inl ⟨.nil,j▸ .cons d a h⟩
  |cons D B=>
   rw[Vqa]at j;obtain⟨rfl,m⟩:=List.cons.inj j;rcases List.append_eq_append_iff.1 m with ⟨t,rfl,rfl⟩|⟨t,rfl,rfl⟩
   ·rcases y t c rfl with ⟨k,w⟩|⟨e,A,f,b,g,z,rfl,rfl,s,u,k,o,x⟩
    ·exact .inl ⟨.cons d a k,w⟩
    ·exact .inr ⟨r::(l++e),A,f,b,g,z,by simp,rfl,s,u,.cons d a k,o,x⟩
   ·cases t with
    |nil=>
     rw[Vva]at a;have:=LS.snoc .nil d a
     exact .inl ⟨this,h⟩
    |cons C t=>exact .inr ⟨[],r,B,C::t,v,p,rfl,rfl,by simp,d,.nil,a,h⟩
def Dom(L:Law)(np:Nat)(A B:List Ride):Prop:= ∀c,LS L np (B++c)->LS L np (A++c)
theorem Dom.refl(A:List Ride):Dom L np A A:=λ_ h=>h
theorem Dom.trans{A B C:List Ride}(h:Dom L np A B)(k:Dom L np B C):Dom L np A C:=λc a=>h c (k c a)
theorem Dom.snoc{A B:List Ride}(h:Dom L np A B)(r:Ride):Dom L np (A++[r]) (B++[r]):=λc a=>by rw[Vrb]at a⊢;exact h _ a
theorem dom_of{A B:List Ride}(e:LS L np B->LS L np A)
 (g:∀l r a p,B=l++r::a->p<np->LS L np l->a.length+1<L.len p->L.zok p (zns (r::a))->L.mok p (mds (r::a))->
   ∃m d b,A=m++d::b/\LS L np m/\L.mok p (mds (d::b))/\r.dep<=d.dep/\b.length<=a.length/\zns (d::b) ||| zns (r::a)=zns (r::a)):
 Dom L np A B:=by
 intro c K;rcases LS.cut K B c rfl with ⟨o,E⟩|⟨l,r,a,M,N,p,H,rfl,u,C,o,⟨k,v,D,s⟩,G⟩
 ·exact(e o).append E
 ·obtain⟨x,y,rfl⟩:=List.exists_cons_of_ne_nil u;rw[Vl,Vca]at k;have z:zns (r::(a++x::y))=zns (r::a) ||| zns (x::y):=zns_append (r::a) _;have em:mds (r::(a++x::y))=mds (r::a) ||| mds (x::y):=mds_append (r::a) _;rw[em,L.mok_or]at s;obtain⟨m,d,b,rfl,I,t,j,J,w⟩:=g l r a p H C o (by omega) (L.zok_mono p _ _ (by rw[z,<-Vea,Nat.or_self]) D) s.1;have f:lastD d.dep (b++x::y)=lastD r.dep (a++x::y):=by rw[lastD_append,lastD_append];rfl
  have h:Cov L p d (b++x::y):=by
   refine⟨by rw[Vl,Vca];omega,?_,?_,?_⟩
   ·rw[f];exact L.ok_mono _ _ _ _ j v
   ·refine L.zok_mono p _ _ ?_ D;rw[z,show zns (d::(b++x::y))=zns (d::b) ||| zns (x::y) from zns_append (d::b) _];rw[Vea,<-Vea (zns (x::y)),Nat.or_comm (zns (x::y)) (zns (r::a)),Vea (zns (r::a)),Nat.or_self,<-Vea,w]
   ·rw[show mds (d::(b++x::y))=mds (d::b) ||| mds (x::y) from mds_append (d::b) _,L.mok_or];exact⟨t,s.2⟩
  have:=I.append (.cons C h G);simpa using this
end Dm
namespace Q
open Tr Go
abbrev JB:=Int×Int×Int×Int×Unit
abbrev ZdX:=List UInt8×Int×Int×Int×Int×Int×Unit
abbrev DX:=List ZdX×Int×Int×Int×Unit
abbrev WJ:=List (Option DX×(JB×Int×List Int×Unit))
inductive YM (S:List JB->List Int->Prop) (F:DX):List JB->WJ->Prop
 |start {r0:JB}{sums:List Int} (h:S [] sums):YM S F [] [(Ua F,r0,0,sums,())]
 |snoc {rs:List JB}{s:WJ}{r:JB}{sums:List Int} (hs:YM S F rs s) (hl:rs.length+1<=8) (h:S (rs++[r]) sums):YM S F (rs++[r]) ((Ua F,r,((rs.length+1:Nat):Int),sums,())::s)
theorem YM.head{S:List JB->List Int->Prop}{F:DX}{b:List JB}{s:WJ}(h:YM S F b s):∃r a t,s=(Ua F,r,(b.length:Int),a,())::t/\S b a/\b.length<=8/\(∀x∈b.getLast?,r=x):=by
 cases h with
 |start h=>exact⟨_,_,_,rfl,h,by simp,by simp⟩
 |snoc d c h=>
  rename_i b s r a;refine⟨r,a,s,?_,h,by simpa using c,by simp⟩;rw[show (b++[r]).length=b.length+1 by simp]
theorem Zmf{S:List JB->List Int->Prop}{F:DX}{a:List JB}{s:WJ}(h:YM S F a s):F23 s=Ua a:=by
 obtain⟨r,d,t,e,_,x,_⟩:=h.head;have key:∀{a:List JB}{s:WJ},YM S F a s->∀c:List JB,∀z:JB,run
  (λb:WJ×List JB×Int=>
  bif Ue ((0:Int)<=b.2.2) then
  Vh (Tr.unc b.1) λ_=>
  Vh (Tr.unc b.1) λw=>
  Vh (Zv b.2.2 (Vm b.2.1)) λg=>
  Vh b.2.1[g]? λ_=>
  Vh (Tr.unc b.1) λ_=>
  Vh (Tr.unc b.1) λf=>Ua (.inl (f.2.1,Vwc b.2.1 g w.2.2.1,Va .i64 (b.2.2 - (1:Int))))
  else Ua (.inr b.2.1)) (s,Vw a.length z++c,(a.length:Int) - 1)=Ua (a++c):=by
  intro a s h
  induction h with
  |start h=>
   intro c z;refine Y0 ?_
   simp
  |snoc A y h v=>
   rename_i a s r d;intro c z;refine(H4 (s' :=(s,Vw a.length z++r::c,(a.length:Int) - 1)) ?_).trans ?_
   ·have o:Ue ((0:Int)<=((a++[r]).length:Int) - 1)=true:=Zi (by simp);simp only[o,Zd,Tr.unc,Za];have j:((a++[r]).length:Int) - 1=(a.length:Int):=by simp
    rw[j];have k:Zv (a.length:Int) (Vw (a++[r]).length z++c).length=Ua a.length:=by have:=KS (i:=a.length) (n:=(Vw (a++[r]).length z++c).length) (by simp;omega);exact this
    rw[k];have l:(Vw (a++[r]).length z++c)[a.length]? =Ua z:=by rw[List.getElem?_append_left (by simp)];simp
    simp only[Za,l];have m:Vwc (Vw (a++[r]).length z++c) a.length r=Vw a.length z++r::c:=by simp only[Vl,Vca,Vzb,Vpc];rw[List.replicate_succ',Vrb,Vab _ _ (by simp)];simp
    rw[m,ZN (by omega) (by omega)]
   ·rw[v (r::c) z];simp
 unfold F23;subst e;simp only[Tr.unc,Za];have p:Ue ((0:Int)<=(a.length:Int)/\(a.length:Int)<=(a.length:Int)/\(a.length:Int)<=(ZI:Int))=true:=Zi ⟨by omega,by omega,by have:(ZI:Int)=549755813888:=rfl;omega⟩;rw[p,show ZD Uc=Ua () from rfl];simp only[Za];have u:Va .i64 ((a.length:Int) - 1)=(a.length:Int) - 1:=ZN (by omega) (by omega);rw[u,Vi];have:=key h [] ((0:Int),(0:Int),(0:Int),(0:Int),());rw[Vva,Vva]at this;refine Wj (λr=>r=a) ⟨a,this,rfl⟩ ?_;rintro r rfl;rfl
def Jc(x:Int):Prop:=0<=x/\x<=1000000000000
theorem Zge{x:Int}(a:0<=x)(b:x<=9223372036854775807):Va .u64 x=x:=by simp [Va,Vz,Vfa];omega
theorem Zlz{a d m:Int}(c:Jc a)(e:Jc d)(f:Jc m):F30 a d m=Ua (Ue (d<=a+m)):=by
 unfold F30;unfold Jc at c e f;by_cases h:d<=a
 ·rw[Zi h,Zi (by omega:d<=a+m)];rfl
 ·rw[Zt h,Zge e.1 (by omega),Zge c.1 (by omega),Zge (by omega) (by omega),Zge f.1 (by omega)];have:Ue (d - a<=m)=Ue (d<=a+m):=by
   by_cases b:d<=a+m
   ·rw[Zi b,Zi (by omega)]
   ·rw[Zt b,Zt (by omega)]
  rw[Ze,this];rfl
theorem ZtE(x y:Int):imax x y=max x y:=by
 unfold imax;split<;>omega
def DP(F:DX)(o:Option Int)(p:ZdX)(d:Int):Int:=match o with
 |none=>p.2.1
 |some a=>if d<=a+F.2.2.1 then max 0 (p.2.1 - F.2.1) else p.2.1
structure Zju (F:DX):Prop where
 disc:Jc F.2.1
 wit:Jc F.2.2.1
 price:∀p∈F.1,Jc p.2.1
def Zjy(r:JB):Prop:=Jc r.1/\Jc r.2.1
theorem Zoj{S:List JB->List Int->Prop}{F:DX}{u:List JB}{s:WJ}(h:YM S F u s)(hF:Zju F){p:ZdX}(B:p∈F.1){b:List JB}(v:∀r∈b,Zjy r)(G:b.length<=8){i:Nat}{r:JB}(A:b[i]? =Ua r):
 F25 s p b (i:Int)=Ua (DP F ((b.take i).getLast?.map λx=>x.2.1) p r.1):=by
 obtain⟨r0,w,t,rfl,_,_,_⟩:=h.head;obtain⟨j,e⟩:=Vsb.1 A;unfold F25;have k:=hF.price p B;have g:=hF.disc
 cases i with
 |zero=>
  simp [DP]
 |succ i=>
  have y:Ue ((0:Int)<((i+1:Nat):Int))=true:=Zi (by omega);have z:Va .i64 (((i+1:Nat):Int) - 1)=(i:Int):=by rw[ZN (by omega) (by omega)];omega
  have D:idx b (i:Int)=Ua b[i]:=ZJ (by omega);have E:idx b ((i+1:Nat):Int)=Ua r:=by rw[ZJ j,e]
  have c:(b.take (i+1)).getLast?=Ua b[i]:=by
   have:i<b.length:=by omega
   rw[List.getLast?_eq_getElem?,Vtb,Nat.min_eq_left (by omega),List.getElem?_take,Zn (by omega),Nat.add_sub_cancel,Ve this]
  rw[y,Zd,z,c];have l:=v b[i] (Vf _);have o:=v r (e▸Vf _);have C:=Zlz (a:=(b[i]).2.1) (d:=r.1) (m:=F.2.2.1) l.2 o.1 hF.wit;simp only[D,E,Za,Tr.unc,C,Vxc,DP];by_cases f:r.1<=(b[i]).2.1+F.2.2.1
  ·rw[Zi f,Zd,Zn f];unfold Jc at k g;rw[ZN (by omega) (by omega)];exact congrArg Ua (ZtE _ _)
  ·rw[Zt f,Ze,Zg f]
end Q
namespace Q
open Tr Go
def K0(v:ZF):Dm.Ride:=⟨v.1,v.2.2.1.toNat,v.2.2.2.1.toNat⟩
def WE(F:ZR)(p:Nat):Xf:=(F.1[p]?).getD p0
theorem Zki{z a:Nat}(h:z ||| a=a):∀k,Ws k z<=Ws k a
 |0=>Vu _
 |k+1=>by
  have f:=Zki h k;have c:(z >>> k) % 2<=(a >>> k) % 2:=by
   have b:z.testBit k=Uc->a.testBit k=true:=by grind
   have e:∀y:Nat,(y >>> k) % 2=(y.testBit k).toNat:=by
    intro y;rw[Vza,Vsa];have:y / 2 ^ k % 2<2:=by omega
    by_cases d:y / 2 ^ k % 2=1
    all_goals grind
   grind
  show Ws k z+(z >>> k) % 2<=Ws k a+(a >>> k) % 2;omega
theorem ZxF(x:Nat)(h:x<2 ^ 64):Va .i64 (x:Int)=0↔x=0:=by simp [Va,Vz,Vfa];omega
theorem ZpK(a b:Nat)(c:Int):Tr.qandNot .i64 ((a ||| b:Nat):Int) c=0↔Tr.qandNot .i64 (a:Int) c=0/\Tr.qandNot .i64 (b:Int) c=0:=by
 unfold Tr.qandNot;have d:∀x:BitVec 64,x.toNat<2 ^ 64:=λx=>x.isLt;have e:Vc Vaa.bits ((a ||| b:Nat):Int)=Vc Vaa.bits (a:Int) ||| Vc Vaa.bits (b:Int):=by simp
 have f:∀x:BitVec 64,Va .i64 (x.toNat:Int)=0↔x=0#64:=λx=>by
  rw[ZxF _ (d _)];constructor
  ·intro h;exact Vbb h
  grind
 rw[e];refine(f _).trans (Iff.trans ?_ (and_congr (f _) (f _)).symm);show (Vc 64 (a:Int) ||| Vc 64 (b:Int))&&& ~~~ Vc 64 c=0#64↔Vc 64 (a:Int)&&& ~~~ Vc 64 c=0#64/\Vc 64 (b:Int)&&& ~~~ Vc 64 c=0#64;grind
def Gz(F:ZR)(_:Za9 F):Dm.Law where
 len p:=(WE F p).2.2.1.toNat
 ok p a d:=d<=a+(WE F p).2.2.2.2.1
 zok p z:=((Ws 62 z:Nat):Int)<=(WE F p).2.2.2.1
 mok p m:=Tr.qandNot .i64 (m:Int) (WE F p).2.2.2.2.2.1=0
 ok_mono:=by intro p a b d c e;omega
 zok_mono:=by intro p z g c e;have:=Zki c 62;omega
 mok_or:=λp m f=>ZpK m f _
end Q
namespace Q
open Tr Go
structure FO (F:ZR):Prop where
 head:Gw F=Uc
 many:F.1.length<=16
 nums:∀p∈F.1,YV p=Uc
theorem Hm{F:ZR}(h:(JN F).2=0):FO F:=by
 unfold JN at h;by_cases d:Gw F=Ud
 ·grind
 rw[Zg d]at h;by_cases b:16<F.1.length
 ·grind
 rw[Zg b]at h;have f:=ZbZ h;refine⟨by grind,by omega,λp e=>?_⟩;obtain⟨i,c,rfl⟩:=Vx e;have a:=f i c;unfold H2 at a;rw[Ks c]at a;obtain⟨_,_,g⟩:=DB.1 a;grind
theorem FO.heads{F:ZR}(h:FO F):(0<=F.2.1/\F.2.1<=1000000)/\(0<=F.2.2.1/\F.2.2.1<=86400)/\0<=F.2.2.2.1/\F.2.2.2.1<=1000000:=by have:=h.head;unfold Gw at this;grind
theorem FO.prod{F:ZR}(h:FO F){p:Xf}(a:p∈F.1):(0<=p.2.1/\p.2.1<=1000000)/\(1<=p.2.2.1/\p.2.2.1<=8)/\(1<=p.2.2.2.1/\p.2.2.2.1<=16)/\(0<=p.2.2.2.2.1/\p.2.2.2.2.1<=86400)/\1<=p.2.2.2.2.2.1/\p.2.2.2.2.2.1<=255:=by have:=h.nums p a;unfold YV at this;grind
theorem FO.fareOk{F:ZR}(h:FO F):Za9 F:=⟨h.heads.1,h.heads.2.2.1,λp a=>(h.prod a).1,h.many⟩
theorem FO.farOk{F:ZR}(h:FO F):Zju F where
 disc:=by have:=h.heads;exact⟨by omega,by omega⟩
 wit:=by have:=h.heads;exact⟨by omega,by omega⟩
 price:=λp a=>by have:=(h.prod a).1;exact⟨by omega,by omega⟩
def JC(v:ZF):Prop:=Small v/\Zjy v
theorem ZxG{a b d:Int}(c:Jc a)(e:Jc b)(f:Jc d):Dk a b d=Ue (b<=a+d):=by have:=Zlz c e f;unfold F30 at this;unfold Dk;grind
theorem Zjn:∀(s:List ZF) (a:Nat),s.foldl (λa v=>a ||| v.2.2.1.toNat) a=a ||| Dm.zns (s.map K0)
 |[],a=>by simp [Dm.zns]
 |v::s,a=>by rw[Vbd,Zjn s];show _=a ||| (v.2.2.1.toNat ||| Dm.zns (s.map K0));grind
theorem Zik:∀(s:List ZF) (a:Nat),s.foldl (λa v=>a ||| v.2.2.2.1.toNat) a=a ||| Dm.mds (s.map K0)
 |[],a=>by simp [Dm.mds]
 |v::s,a=>by rw[Vbd,Zik s];show _=a ||| (v.2.2.2.1.toNat ||| Dm.mds (s.map K0));grind
theorem Zl1:∀(l:List ZF) (r:ZF),Dm.lastD r.1 (l.map K0)=(((r::l)[(r::l).length - 1]?).getD DM).1
 |[],r=>rfl
 |x::l,r=>by show Dm.lastD x.1 (l.map K0)=_;rw[Zl1 l x];simp
theorem ZeG{F:ZR}(h:FO F){p:Nat}(u:p<F.1.length){r:ZF}{l:List ZF}(j:∀v∈r::l,JC v):GU (WE F p) (r::l)=Uc↔Dm.Cov (Gz F h.fareOk) p (K0 r) (l.map K0):=by
 have o:WE F p∈F.1:=by unfold WE;grind
 have s:=h.prod o;have c:(((r::l)[(r::l).length - 1]?).getD DM)∈r::l:=by simp
 have t:=ZxG (a:=r.1) (b:=(((r::l)[(r::l).length - 1]?).getD DM).1) (d:=(WE F p).2.2.2.2.1) (j r (by simp)).2.1 (j _ c).2.1 ⟨by omega,by omega⟩;unfold GU;rw[show (((r::l)[0]?).getD DM)=r from rfl,t];simp only[Vb,Kx];have k:zF (r::l)=Dm.zns (K0 r::l.map K0):=by have:=Zjn (r::l) 0;rw[Vcb]at this;assumption
 have em:mF (r::l)=Dm.mds (K0 r::l.map K0):=by have:=Zik (r::l) 0;rw[Vcb]at this;assumption
 rw[k,em,<-Zl1];unfold Dm.Cov;show _↔(l.map K0).length+1<=((WE F p).2.2.1).toNat/\Dm.lastD r.1 (l.map K0)<=r.1+(WE F p).2.2.2.2.1/\_/\_;rw[Vo,Vca];constructor
 ·rintro ⟨m,e,f,g⟩;exact⟨by omega,f,e,g⟩
 ·rintro ⟨m,e,f,g⟩;exact⟨by omega,f,e,g⟩
end Q
namespace Q
open Tr Go
theorem ZqM{α β:Type}{o:Option α}{f:α->Option β}{Q:β->Prop}(P:α->Prop)(h:∃r,o=Ua r/\P r)(k:∀r,P r->∃z,f r=Ua z/\Q z):∃z,Vh o f=Ua z/\Q z:=by grind
theorem ZwC{α β:Type}{o:Option β}{g:α->β}{Q:α->Prop}(h:∃z,o=Ua z/\∃s,z=g s/\Q s):∃s,o=Ua (g s)/\Q s:=by grind
theorem YM.mono{S T:List JB->List Int->Prop}(c:∀a b,S a b->T a b){F:DX}{d:List JB}{s:WJ}(h:YM S F d s):YM T F d s:=by
 induction h with
 |start h=>exact .start (c _ _ h)
 |snoc g e h f=>exact .snoc f e (c _ _ h)
theorem ZdC{n i:Nat}(h:i<=n):sliceB n n (Ua (i:Int)) Ub=Ua (i,n):=by unfold sliceB;grind
theorem Zoq{α:Type}(l:List α)(i:Nat):List.take (l.length - i) (List.drop i l)=l.drop i:=by rw[Vac];simp
def Zgw(F:ZR)(h:FO F)(b:List ZF)(a:List Int):Prop:=a.length=9/\∀i,i<=b.length->∃x,a[i]? =Ua x/\(-1<=x/\x<=1000000* (i:Int))/\(0<=x↔Dm.LS (Gz F h.fareOk) F.1.length ((b.take i).map K0))
abbrev JJ(F:ZR)(h:FO F):List ZF->WJ->Prop:=YM (Zgw F h) F
theorem Zos{F:ZR}(h:FO F){p:Xf}(b:p∈F.1)(o:Option Int)(d:Int):0<=DP F o p d/\DP F o p d<=1000000:=by
 have a:=(h.prod b).1;have c:=h.heads.1;unfold DP;split
 ·exact a
 ·split<;>omega
def Gb(F:ZR)(l:List ZF)(b:List Int)(i p:Nat):Prop:=(∃a,b[i]? =Ua a/\0<=a)/\GU (WE F p) (l.drop i)=Uc
theorem Zk8{C:Nat->Prop}{p:Nat}:(∃k,k<p+1/\C k)↔(∃k,k<p/\C k)\/C p:=by
 constructor
 ·rintro ⟨k,b,a⟩;by_cases h:k=p
  ·exact .inr (h▸a)
  ·exact .inl ⟨k,by omega,a⟩
 ·rintro (⟨k,b,a⟩|h)
  ·exact⟨k,by omega,a⟩
  ·exact⟨p,by omega,h⟩
theorem ZiZ{F:ZR}(h:FO F){f:List ZF}{s:WJ}(Y:JJ F h f s){r:ZF}(X:∀v∈f++[r],JC v)(hl:f.length+1<=8):
 ∃s',F22 s r=Ua (s',0)/\JJ F h (f++[r]) s' :=by
 obtain⟨r0,d,t,e,⟨a8,P⟩,_,_⟩:=Y.head;generalize hL:f++[r]=l at X;have a2:l.length=f.length+1:=by grind
 have a7:F.1.length<=16:=h.many;subst e;have hw:Va .i64 ((f.length:Int)+1)=((f.length+1:Nat):Int):=by rw[ZN (by omega) (by omega)];omega
 have K:YM (λ_ _=>True) F l ((Ua F,r,((f.length+1:Nat):Int),d,())::(Ua F,r0,(f.length:Int),d,())::t):=hL▸ .snoc (Y.mono (by simp)) hl trivial;have E:=Zmf K;unfold F22;have h8:Ue ((8:Int)<=(f.length:Int))=false:=by grind
 have h9:Zv ((f.length+1:Nat):Int) (9:Nat)=Ua (f.length+1):=KS (by omega);have J:d[f.length+1]? =Ua d[f.length+1]:=by simp
 simp only[Tr.unc,Za,Vrc,Ze,h8,hw,E,h9,J];refine ZwC (g:=λs' =>(s',(0:Int))) (ZqM (λb=>(-1<=b/\b<=1000000* (l.length:Int))/\(0<=b↔∃i,i<l.length/\∃p,p<F.1.length/\Gb F l d i p)) ?_ λb e2=>⟨_,rfl,_,rfl,?_⟩)
 rotate_left
 ·show YM (Zgw F h) F l _;rw[<-hL];refine .snoc Y hl ?_;rw[hL];refine⟨by grind,λi A=>?_⟩;by_cases a6:i<l.length
  ·obtain⟨x,u,G⟩:=P i (by omega);have e:f.take i=l.take i:=by rw[<-hL,Via (by omega)]
   exact⟨x,by rw[Vfb (by omega)];exact u,by rw[<-e];exact G⟩
  ·have T:i=f.length+1:=by omega
   subst T;refine⟨b,by grind,⟨e2.1.1,by omega⟩,e2.2.trans ⟨?_,λV=>?_⟩⟩<;>rw[Vac (by omega)]at*
   ·rintro ⟨i,A,p,o,⟨a,Q,w⟩,y⟩;obtain⟨x,u,_,G⟩:=P i (by omega);rw[Q]at u;cases u;have e:f.take i=l.take i:=by rw[<-hL,Via (by omega)]
    have m:l.drop i=l[i]::l.drop (i+1):=Vr A;rw[m]at y;have:=(G.1 w).snoc o ((ZeG h o (by grind)).1 y);rw[e,<-Vy,<-m,<-Vga,Vma]at this;exact this
   ·rcases V.last with u|⟨l0,r1,l1,p,u,G,o,hc⟩
    ·simp_all
    ·obtain⟨B,b0,a3,k1,k2⟩:=Vya.1 u;obtain⟨r',m1,O,k3,k4⟩:=Vfc.1 k2;subst O;have U:l.length=B.length+(m1.length+1):=by grind
     have Z:f.take B.length=B:=by
      have e:f.take B.length=l.take B.length:=by rw[<-hL,Via (by omega)]
      rw[e];grind
     have S:l.drop B.length=r' ::m1:=by grind
     obtain⟨x,a1,_,M⟩:=P B.length (by omega);rw[Z,k1]at M;refine⟨B.length,by omega,p,o,⟨x,a1,M.2 G⟩,?_⟩;rw[S];refine(ZeG h o (by grind)).2 ?_;grind
 refine KP l.length _ (λi (s:Int×Int)=>s.2=(i:Int)/\(-1<=s.1/\s.1<=1000000* (l.length:Int))/\(0<=s.1↔∃k,k<i/\∃p,p<F.1.length/\Gb F l d k p)) ?_ (by rintro ⟨b,_⟩ ⟨rfl,j⟩;exact⟨b,by simp only[YU,Ze],j⟩) _ ⟨rfl,by simp;omega,by simp⟩;rintro i ⟨b,_⟩ A ⟨rfl,j⟩;left;simp only at j;simp only[ZV A,Zd,Z8 A (by omega)];refine ZcG (λb=>(-1<=b/\b<=1000000* (l.length:Int))/\(0<=b↔∃k,k<i+1/\∃p,p<F.1.length/\Gb F l d k p)) ?_ (by simp);refine KP F.1.length _ (λp (s:Int×Int)=>s.2=(p:Int)/\(-1<=s.1/\s.1<=1000000* (l.length:Int))/\(0<=s.1↔(∃k,k<i/\∃p,p<F.1.length/\Gb F l d k p)\/∃C,C<p/\Gb F l d i C)) ?_ (by rintro ⟨b,_⟩ ⟨rfl,j⟩;exact⟨b,by simp only[YU,Ze],j.1,j.2.trans Zk8.symm⟩) _ ⟨rfl,j.1,by simpa using j.2⟩;rintro p ⟨b,_⟩ o ⟨rfl,j⟩;left;simp only at j;obtain⟨j,R⟩:=j;have W:WE F p=F.1[p]:=by unfold WE;grind
 have hx:idx F.1 (p:Int)=Ua F.1[p]:=ZJ o;obtain⟨a,Q,⟨a4,a5⟩,_⟩:=P i (by omega);have m:l.drop i=l[i]::l.drop (i+1):=Vr A;have I:F82 F.1[p] (l.drop i)=Ua (GU F.1[p] (l.drop i)):=ZkS (λv hv=>(X v (Vba hv)).1) (by grind) (by grind) (h.prod (Vf o)).2.2.2.1.1;have z:=Zoj K h.farOk (Vf o) (λv hv=>(X v hv).2) (by omega) (Ve A);have a9:=Zos h (Vf o) ((l.take i).getLast?.map λx=>x.2.1) l[i].1;generalize DP F ((l.take i).getLast?.map λx=>x.2.1) F.1[p] l[i].1=tp at*;have a0:Va .i64 (a+tp)=a+tp:=ZN (by omega) (by omega);simp only[ZV o,Zd,hx,Za,KS (show i<9 by omega),Q,ZdC (Voc A),Zoq,I,z,a0,Z8 o (by omega)];have N:¬Gb F l d i p->(0<=b↔(∃k,k<i/\∃p,p<F.1.length/\Gb F l d k p)\/∃C,C<p+1/\Gb F l d i C):=λhn=>by rw[Zk8,R];simp [hn]
 have nw:∀{c:Int},0<=c->Gb F l d i p->(0<=c↔(∃k,k<i/\∃p,p<F.1.length/\Gb F l d k p)\/∃C,C<p+1/\Gb F l d i C):=λh0 hc=>
  ⟨λ_=>.inr ⟨p,by omega,hc⟩,λ_=>h0⟩
 by_cases w:a<0
 ·rw[Zi w];refine⟨_,rfl,rfl,j,N ?_⟩;rintro ⟨⟨a',u,G⟩,_⟩;grind
 rw[Zt w];simp only[Ze,Za]
 cases y:GU F.1[p] (l.drop i) with
 |false=>
  refine⟨_,rfl,rfl,j,N ?_⟩;rintro ⟨_,u⟩
  grind
 |true=>
  have D:Gb F l d i p:=⟨⟨a,Q,by omega⟩,by rw[W];exact y⟩;simp only[Vg,Ze];by_cases H:b<0
  ·rw[Zi H];exact⟨_,rfl,rfl,by simp only;omega,nw (by omega) D⟩
  rw[Zt H];simp only[Ze,Za]
  cases Ue (a+tp<b) with
  |true=>exact⟨_,rfl,rfl,by simp only;omega,nw (by omega) D⟩
  |false=>exact⟨_,rfl,rfl,j,nw (by omega) D⟩
end Q
namespace Q
open Tr Go
def on1(x:Int):Int:=Va .u64 (ZC .u64 (Vxa x ((2:Int) ^ Min.min (Vda (1:Int)) (Go.IntKind.bits .u64))) (6148914691236517205:Int)+ZC .u64 x (6148914691236517205:Int))
def on2(x:Int):Int:=Va .u64 (ZC .u64 (Vxa x ((2:Int) ^ Min.min (Vda (2:Int)) (Go.IntKind.bits .u64))) (3689348814741910323:Int)+ZC .u64 x (3689348814741910323:Int))
def on3(x:Int):Int:=ZC .u64 (Va .u64 (Vxa x ((2:Int) ^ Min.min (Vda (4:Int)) (Go.IntKind.bits .u64))+x)) (1085102592571150095:Int)
def on4(k:Int)(x:Int):Int:=Va .u64 (x+Vxa x ((2:Int) ^ Min.min (Vda k) (Go.IntKind.bits .u64)))
def Zft(a:Int):Int:=ZC .i64 (Va .i64 (on4 32 (on4 16 (on4 8 (on3 (on2 (on1 a))))))) 127
def no1(x:Nat):Nat:=((x / 2 &&& 6148914691236517205)+(x &&& 6148914691236517205)) % 18446744073709551616
def no2(x:Nat):Nat:=((x / 4 &&& 3689348814741910323)+(x &&& 3689348814741910323)) % 18446744073709551616
def no3(x:Nat):Nat:=((x / 16+x) % 18446744073709551616)&&& 1085102592571150095
def Rg(m:Nat)(x:Nat):Nat:=(x+x / m) % 18446744073709551616
def Zdo(a:Nat):Nat:=(Rg 4294967296 (Rg 65536 (Rg 256 (no3 (no2 (no1 a))))) % 9223372036854775808)&&& 127
theorem ZdJ(x:Nat):Va .u64 (x:Int)=((x % 18446744073709551616:Nat):Int):=by simp [Va,Vfa,Vz]
theorem Zdt{a b:Nat}(c:a<18446744073709551616)(d:b<18446744073709551616):ZC .u64 (a:Int) (b:Int)=((a &&& b:Nat):Int):=by
 unfold ZC;have:(Vc Vp.bits (a:Int)&&& Vc Vp.bits (b:Int)).toNat=a &&& b:=by rw[Vuc,Vgc,Vgc,Vlc,Vlc];show a % 18446744073709551616 &&& b % 18446744073709551616=_;rw[Vub c,Vub d]
 rw[this,ZdJ,Vub (Vmb Nat.and_le_left c)]
theorem ZeS(x:Nat)(k:Nat):Vxa (x:Int) ((2:Int) ^ k)=((x / 2 ^ k:Nat):Int):=by rw[Int.fdiv_eq_ediv_of_nonneg _ (by exact Int.le_of_lt (Int.pow_pos (by omega)))];simp
theorem ZuT{x:Nat}(h:x<18446744073709551616):on1 (x:Int)=((no1 x:Nat):Int):=by unfold on1 no1;have e:Min.min (Vda (1:Int)) (Go.IntKind.bits .u64)=1:=rfl;have a:x / 2 ^ 1<18446744073709551616:=Vmb (Vcd _ _) h;rw[e,ZeS,show (6148914691236517205:Int)=((6148914691236517205:Nat):Int) from rfl,Zdt a (by decide),Zdt h (by decide),<-Vhb,ZdJ]
theorem ZuU{x:Nat}(h:x<18446744073709551616):on2 (x:Int)=((no2 x:Nat):Int):=by unfold on2 no2;have e:Min.min (Vda (2:Int)) (Go.IntKind.bits .u64)=2:=rfl;have a:x / 2 ^ 2<18446744073709551616:=Vmb (Vcd _ _) h;rw[e,ZeS,show (3689348814741910323:Int)=((3689348814741910323:Nat):Int) from rfl,Zdt a (by decide),Zdt h (by decide),<-Vhb,ZdJ]
theorem ZuV(x:Nat):on3 (x:Int)=((no3 x:Nat):Int):=by unfold on3 no3;have e:Min.min (Vda (4:Int)) (Go.IntKind.bits .u64)=4:=rfl;rw[e,ZeS,<-Vhb,ZdJ,show (1085102592571150095:Int)=((1085102592571150095:Nat):Int) from rfl,Zdt (Vvb _ (by decide)) (by decide)]
theorem Ziv{k m:Nat}(a:2 ^ Min.min k 64=m)(x:Nat):on4 (k:Int) (x:Int)=((Rg m x:Nat):Int):=by unfold on4 Rg;rw[Vi,show Go.IntKind.bits .u64=64 from rfl,ZeS,<-Vhb,ZdJ,a]
theorem ZuX{a:Nat}(h:a<18446744073709551616):Zft (a:Int)=((Zdo a:Nat):Int):=by
 unfold Zft;have e:no1 a<18446744073709551616:=Vvb _ (by decide);rw[ZuT h,ZuU e,ZuV,show (8:Int)=((8:Nat):Int) from rfl,Ziv (k:=8) rfl,show (16:Int)=((16:Nat):Int) from rfl,Ziv (k:=16) rfl,show (32:Int)=((32:Nat):Int) from rfl,Ziv (k:=32) rfl];unfold Zdo;rw[show (2:Nat) ^ Min.min 32 64=4294967296 from rfl,show (2:Nat) ^ Min.min 16 64=65536 from rfl,show (2:Nat) ^ Min.min 8 64=256 from rfl];generalize g:Rg 65536 (Rg 256 (no3 (no2 (no1 a))))=Y;have f:Rg 4294967296 Y<18446744073709551616:=Vvb _ (by decide);generalize Rg 4294967296 Y=X at*;unfold ZC;have b:∀x:BitVec 64,(x &&& Vc 64 127).toNat=x.toNat % 128:=λx=>by rw[Vuc,show (Vc 64 127).toNat=2 ^ 7 - 1 from rfl,Veb]
 have c:(Vc Vaa.bits (Va .i64 (X:Int))&&& Vc Vaa.bits 127).toNat=X % 128:=by
  refine(b _).trans ?_;have d:(Vc 64 (Va .i64 (X:Int))).toNat=X:=by
   rw[BitVec.toNat_ofInt];simp only[Va,Vfa,Vz];simp;split<;>omega
  exact congrArg (· % 128) d
 rw[c,ZN (by omega) (by omega),show X % 9223372036854775808 &&& 127=X % 9223372036854775808 % 128 from Veb _ 7];omega
def chk:Nat->Nat->Nat->Bool:=λk=>Nat.rec (λb c=>Nat.beq (Zdo b) c) (λ_ a b c=>(a (2*b) c).and (a (2*b+1) (c+1))) k
theorem Zrc:chk 16 0 0=true:=by kernel_rfl
theorem Zkh(s m:Nat):∀k,k<=m->Ws k (s % 2 ^ m)=Ws k s
 |0,_=>rfl
 |k+1,h=>by
  rw[Ws,Ws,Zkh s m k (by omega)];have e:∀y:Nat,(y >>> k) % 2=(y.testBit k).toNat:=by
   intro y;rw[Vza,Vsa];have:y / 2 ^ k % 2<2:=Vvb _ (by omega);by_cases a:y / 2 ^ k % 2=1
   ·simp [a]
   ·rw[Zt a];simp only[Bool.toNat_false];omega
  rw[e,e,Nat.testBit_mod_two_pow,Zi (show k<m by omega),Vha]
theorem Zrb:∀(k b c z:Nat),chk k b c=Uc->z<2 ^ k->Zdo (2 ^ k*b+z)=c+Ws k z:=by
 intro k
 induction k with
 |zero=>
  intro b c z h f;have:z=0:=by simpa using f
  subst this;have:=Nat.eq_of_beq_eq_true (show Nat.beq (Zdo b) c=Uc from h)
  simpa [Ws] using this
 |succ k m=>
  intro b c z h f;have a:(chk k (2*b) c).and (chk k (2*b+1) (c+1))=true:=h;rw[Vb]at a;have j:0<2 ^ k:=Nat.pow_pos (by omega);rw[Vqc]at f;have p:Ws k (z % 2 ^ k)=Ws k z:=Zkh z k k (Vu _);have e:z % 2 ^ k<2 ^ k:=Vvb _ j;have d:2 ^ k* (z / 2 ^ k)+z % 2 ^ k=z:=Nat.div_add_mod z (2 ^ k);rw[Ws,Vsa];by_cases l:z<2 ^ k
  ·have o:z / 2 ^ k=0:=Nat.div_eq_of_lt l;have:=m (2*b) c z a.1 l;rw[o,<-Nat.add_assoc,Vqc,show 2 ^ k*2*b=2 ^ k* (2*b) by rw[Vjd],this];rfl
  ·have g:z / 2 ^ k=1:=by
    rw[Nat.div_eq_iff j];constructor<;>omega
   have:=m (2*b+1) (c+1) (z % 2 ^ k) a.2 e;rw[p]at this;rw[g,Nat.mul_one]at d;rw[g,show 2 ^ (k+1) *b+z=2 ^ k* (2*b+1)+z % 2 ^ k by rw[Vqc,Nat.mul_add,Nat.mul_one,Vjd];omega,this];omega
theorem ZuW{z:Nat}(h:z<65536):Zft (z:Int)=((Ws 62 z:Nat):Int):=by rw[ZuX (by omega)];have:=Zrb 16 0 0 z Zrc h;rw[Nat.mul_zero,Vpc,Vpc]at this;rw[this,Zeh,Zeh,Zhe 16 62 z h (by omega)]
end Q
namespace Q
open Tr Go
theorem ZuY{z:Nat}(h:z<65536):F63 (z:Int)=Ua ((Ws 62 z:Nat):Int):=by have:F63 (z:Int)=Ua (Zft (z:Int)):=rfl;rw[this,ZuW h]
abbrev Dp:=Int×Int×Int×Int×Int×Unit
def GN(F:ZR)(l:List ZF)(b:List Int)(i p:Nat)(x:Dp):Prop:=
 ∃a r,l[i]? =Ua r/\b[i]? =Ua a/\0<=a/\((l.length:Int) - (i:Int)<(WE F p).2.2.1/\((Ws 62 (zF (l.drop i)):Nat):Int)<=(WE F p).2.2.2.1/\Tr.qandNot .i64 ((mF (l.drop i):Nat):Int) (WE F p).2.2.2.2.2.1=0)/\
  x=((p:Int),r.1,(l.length:Int) - (i:Int),a+DP F ((l.take i).getLast?.map λx=>x.2.1) (WE F p) r.1,((zF (l.drop i):Nat):Int),())
theorem ZfY{F:ZR}(h:FO F){c:List ZF}{s:WJ}(U:JJ F h c s)(hr:∀v∈c,JC v):
 ∃L,F26 s=Ua L/\L.length<=128/\∃r0 b t,s=(Ua F,r0,(c.length:Int),b,())::t/\Zgw F h c b/\∀x,x∈L↔∃i,i<c.length/\∃p,p<F.1.length/\GN F c b i p x:=by
 obtain⟨r0,b,t,rfl,hS,h8,_⟩:=U.head;have A:F24 ((Ua F,r0,(c.length:Int),b,())::t)=Ua c:=Zmf U;have a8:=h.many;unfold F26;simp only[A,Za,Tr.unc]
 suffices hb:∃L:List Dp,_=Ua L/\(L.length<=16*c.length/\∀x,x∈L↔∃i,i<c.length/\∃p,p<F.1.length/\GN F c b i p x) by obtain⟨L,e1,e2,e3⟩:=hb;exact⟨L,Wj (λx=>x=L) ⟨L,e1,rfl⟩ (λx G=>by subst G;rfl),by omega,_,_,_,rfl,hS,e3⟩
 refine KP c.length (λL:List Dp=>L.length<=16*c.length/\∀x,x∈L↔∃i,i<c.length/\∃p,p<F.1.length/\GN F c b i p x) (λi s=>s.2=(i:Int)/\s.1.length<=16*i/\∀x,x∈s.1↔∃f,f<i/\∃p,p<F.1.length/\GN F c b f p x) ?_ ?_ _ ⟨rfl,by simp,λx=>by simp⟩
 ·rintro i ⟨L,_⟩ z ⟨rfl,hL,J⟩;left;simp only at hL J;obtain⟨a,P,⟨a5,a6⟩,_⟩:=hS.2 i (by omega);have X:idx b (i:Int)=Ua a:=by obtain⟨m,e⟩:=Vsb.1 P;rw[ZJ m,e]
  have Y:idx c (i:Int)=Ua c[i]:=ZJ z;simp only[ZV z,Zd,X,Za,Z8 z (show c.length<=9223372036854775807 by omega)];have skip:(∀p x,¬GN F c b i p x)->∀x,x∈L↔∃f,f<i+1/\∃p,p<F.1.length/\GN F c b f p x:=λT x=>by
   rw[J x];constructor
   ·rintro ⟨f,m,e⟩;exact⟨f,by omega,e⟩
   ·rintro ⟨f,m,p,e,R⟩;rcases Vjb f i with l|l
    ·exact⟨f,l,p,e,R⟩
    ·have:f=i:=by omega
     exact absurd (this▸R) (T p x)
  by_cases I:a<0
  ·rw[Zi I];refine⟨_,rfl,rfl,by simp only;omega,skip ?_⟩;rintro p x ⟨a',r',_,e,R,_⟩;rw[P]at e;cases e;omega
  ·rw[Zt I];simp only[Ze,ZdC (Voc z),Za,Zoq];generalize D:c.drop i=d;have u:∀v∈d,Small v:=λv w=>(hr v (Vba (D▸w))).1;have a7:d.length<=8:=by rw[<-D,Vwb];omega
   refine ZcG (λr:Int×Int=>r=(((zF d:Nat):Int),((mF d:Nat):Int))) ?_ ?_
   ·refine KP d.length _ (λi (t:Int×Int×Int)=>t=(((zF (d.take i):Nat):Int),((mF (d.take i):Nat):Int),(i:Int))) ?_ ?_ _ rfl
    ·rintro j _ E rfl;left;have w:=u _ (Vf E);have z1:=Zaa (s:=d.take j) (λv w=>u v (Voa w));have z2:=Zil (s:=d.take j) (λv w=>u v (Voa w));have ez:zF (d.take (j+1))=zF (d.take j) ||| (d[j]).2.2.1.toNat:=by unfold zF;rw[Vd E,Vqb];rfl
     have em:mF (d.take (j+1))=mF (d.take j) ||| (d[j]).2.2.2.1.toNat:=by unfold mF;rw[Vd E,Vqb];rfl
     refine⟨_,?_,rfl⟩;rw[ez,em];generalize zF (d.take j)=Z at*;generalize mF (d.take j)=M at*;simp only[ZV E,Zd,ZJ E,Za,Z8 E (show d.length<=9223372036854775807 by omega)];generalize d[j]=v at*;obtain⟨⟨a1,a2⟩,b1,b2⟩:=w;obtain⟨x,G⟩:∃x:Nat,v.2.2.1=(x:Int):=⟨_,(Vta a1).symm⟩;obtain⟨y,hy⟩:∃y:Nat,v.2.2.2.1=(y:Int):=⟨_,(Vta b1).symm⟩;have w1:Va .u64 (x:Int)=(x:Int):=by simp [Va,Vfa,Vz];omega
     have w2:Va .u64 (y:Int)=(y:Int):=by simp [Va,Vfa,Vz];omega
     rw[G,hy,w1,w2,ZbW (by omega) (by omega),ZbW (by omega) (by omega)];simp
    ·rintro _ rfl;simp only[YU,Ze];rw[Vpa];exact⟨_,rfl,rfl⟩
   ·rintro _ rfl;have B:=ZuY (Zaa u);refine ZcG (λQ:List Dp=>Q.length<=16* (i+1)/\∀x,x∈Q↔∃f,f<i+1/\∃p,p<F.1.length/\GN F c b f p x) ?_ λQ e=>⟨_,rfl,rfl,e⟩;have conv:∀x,(x∈L\/∃p,p<F.1.length/\GN F c b i p x)↔∃f,f<i+1/\∃p,p<F.1.length/\GN F c b f p x:=λx=>by
     rw[J x];constructor
     ·rintro (⟨f,m,e⟩|e)
      ·exact⟨f,by omega,e⟩
      ·exact⟨i,by omega,e⟩
     ·rintro ⟨f,m,e⟩;rcases Vjb f i with l|l
      ·exact .inl ⟨f,l,e⟩
      ·have:f=i:=by omega
       subst this;exact .inr e
    refine KP F.1.length _ (λp (s:List Dp×Int)=>s.2=(p:Int)/\s.1.length<=16*i+p/\∀x,x∈s.1↔x∈L\/∃g,g<p/\GN F c b i g x) ?_ ?_ _ ⟨rfl,by simpa using hL,λx=>by simp⟩
    ·rintro p ⟨M,_⟩ K ⟨rfl,S,k⟩;left;simp only at S k;have G:idx F.1 (p:Int)=Ua F.1[p]:=ZJ K;have O:WE F p=F.1[p]:=by unfold WE;rw[Ks K]
     have N:WE F p∈F.1:=O▸Vf K;have V:Va .i64 ((c.length:Int) - (i:Int))=(c.length:Int) - (i:Int):=ZN (by omega) (by omega);have o:=Zoj U h.farOk N (λv w=>(hr v w).2) h8 (Ve z);rw[<-O]at G;obtain⟨a3,a4⟩:=Zos h N ((c.take i).getLast?.map λx=>x.2.1) c[i].1;have W:Va .i64 (a+DP F ((c.take i).getLast?.map λx=>x.2.1) (WE F p) c[i].1)=a+DP F ((c.take i).getLast?.map λx=>x.2.1) (WE F p) c[i].1:=ZN (by omega) (by omega);simp only[ZV K,Zd,G,Za,V,B,Y,o,W,ZjX,Z8 K (show F.1.length<=9223372036854775807 by omega)];have no:¬((c.length:Int) - (i:Int)<(WE F p).2.2.1/\((Ws 62 (zF d):Nat):Int)<=(WE F p).2.2.2.1/\Tr.qandNot .i64 ((mF d:Nat):Int) (WE F p).2.2.2.2.2.1=0)->∀x,x∈M↔x∈L\/∃g,g<p+1/\GN F c b i g x:=λT x=>by
      rw[k x];refine or_congr Vkd ⟨λ⟨g,m,e⟩=>⟨g,by omega,e⟩,λ⟨g,m,e⟩=>?_⟩;rcases Vjb g p with l|l
      ·exact⟨g,l,e⟩
      ·have:g=p:=by omega
       subst this;obtain⟨a',r',_,_,_,h5,_⟩:=e;rw[D]at h5;exact absurd h5 T
     by_cases C:(c.length:Int) - (i:Int)<(WE F p).2.2.1
     case neg=>
      rw[Zt C];exact⟨_,rfl,rfl,by simp only;omega,no λh=>C h.1⟩
     by_cases H:((Ws 62 (zF d):Nat):Int)<=(WE F p).2.2.2.1
     case neg=>
      rw[Zi C,Zt H];exact⟨_,rfl,rfl,by simp only;omega,no λh=>H h.2.1⟩
     by_cases c3:Tr.qandNot .i64 ((mF d:Nat):Int) (WE F p).2.2.2.2.2.1=0
     case neg=>
      rw[Zi C,Zi H,Zt c3];exact⟨_,rfl,rfl,by simp only;omega,no λh=>c3 h.2.2⟩
     rw[Zi C,Zi H,Zi c3];have a0:(ZI:Nat)=549755813888:=rfl;simp only[Zd,Za];rw[DE (by simp;omega)];refine⟨_,rfl,rfl,by simp;omega,λx=>?_⟩;rw[Vj,k x,Vq,or_assoc];refine or_congr Vkd ⟨?_,?_⟩
     ·rintro (⟨g,m,e⟩|rfl)
      ·exact⟨g,by omega,e⟩
      ·exact⟨p,by omega,a,c[i],Ve z,P,by omega,by rw[D];exact⟨C,H,c3⟩,by rw[D]⟩
     ·rintro ⟨g,m,e⟩;rcases Vjb g p with l|l
      ·exact .inl ⟨g,l,e⟩
      ·have:g=p:=by omega
       subst this;obtain⟨a',r',k1,k2,_,_,rfl⟩:=e;rw[P]at k2;cases k2;rw[Ve z]at k1;cases k1;rw[D];exact .inr rfl
    ·rintro ⟨M,_⟩ ⟨rfl,S,k⟩;simp only at S k;exact⟨M,by simp only[YU,Ze],by omega,λx=>(k x).trans (conv x)⟩
 ·rintro ⟨L,_⟩ ⟨rfl,hL,J⟩;exact⟨L,by simp only[YU,Ze],hL,J⟩
end Q
namespace Q
open Tr Go
theorem Zk2{α:Type}{f:α->α->Bool}(b:∀x,f x x=Uc):∀l:List α,J8.eqDs f l l=Uc
 |[]=>rfl
 |a::l=>by simp only[J8.eqDs,Vb];exact⟨b a,Zk2 b l⟩
theorem Zwo{F:ZR}(h:F.1.length<=4096):F29 (Ua F) (Ua F)=Ua true:=by
 show Qs.sameF (Ua F) (Ua F)=Ua Uc;have e:J8 KJ F F=true:=by
  have a:∀p:ZdX,J8 J2 p p=true:=λp=>by simp [J8]
  simp only[J8,Vb];exact⟨Zk2 a _,by simp⟩
 simp only[Qs.sameF,Za,e,Zi h,Bool.and_self,Zd]
theorem Zjo(l:List ZF):zF l=Dm.zns (l.map K0):=by have:=Zjn l 0;rw[Vcb]at this;exact this
theorem Zmi(l:List ZF):mF l=Dm.mds (l.map K0):=by have:=Zik l 0;rw[Vcb]at this;exact this
theorem ZpL{a b:Nat}(e:a<65536)(g:b<65536)(h:Tr.qandNot .u64 (a:Int) (b:Int)=0):a ||| b=b:=by
 unfold Tr.qandNot at h;have c:=(Vc Vp.bits (a:Int)&&& ~~~ Vc Vp.bits (b:Int)).isLt;have f:(Vc Vp.bits (a:Int)&&& ~~~ Vc Vp.bits (b:Int)).toNat=0:=by generalize (Vc Vp.bits (a:Int)&&& ~~~ Vc Vp.bits (b:Int)).toNat=N at*;have c:N<2 ^ 64:=c;simp [Va,Vfa,Vz]at h;omega
 have d:(Vpd 64 a &&& ~~~ Vpd 64 b)=0#64:=by apply Vbb;assumption
 apply Nat.eq_of_testBit_eq;intro i;rw[Nat.testBit_or];by_cases j:i<64
 ·have:=congrArg (λv=>v.getLsbD i) d;grind
 ·have:a.testBit i=false:=Nat.testBit_lt_two_pow (Nat.lt_of_lt_of_le e (show 2 ^ 16<=2 ^ i from Nat.pow_le_pow_right (by omega) (by omega)));grind
end Q
namespace Q
open Tr Go
abbrev Zo9:=Int×Int×Int×Int×ZF×Unit
abbrev Zx:=Zo9×Int×Int×Int×WJ×List Zw×Unit
end Q
namespace Q
open Tr Go
def Zp(n:Zc)(i:Nat):List Wy:=(rn n (i:Int)).2.2.2.2.2.2.2.1
def Zf(n:Zc)(i c:Nat):Wy:=cl (Zp n i) (c:Int)
def Yc(n:Zc)(i:Nat):Bool:=(rn n (i:Int)).2.2.2.2.2.2.1
def KA(s t a b:Int):Zw:=(Ud,0,0,0,s,t,a,b,Ud,())
def ZM(n:Zc)(i b c:Nat)(st:Bool):Zw:=(Uc,(i:Int),(b:Int),(c:Int),(Zf n i b).1,(Zf n i c).1,(Zf n i b).2.2.1,(Zf n i c).2.1,st,())
def isLink(n:Zc)(i c j d:Nat)(st:Bool):Prop:=((i:Int),(c:Int),(j:Int),(d:Int),st,())∈n.2.2.2.1
structure WO (n:Zc):Prop where
 sound:WV n
 change:∀s:Int,0<=s->s<(n.1.length:Int)->0<=(WN n s).2.2.2.1/\(WN n s).2.2.2.1<=3600
 path:∀p∈n.2.2.2.2.1,(0<=p.1/\p.1<(n.1.length:Int))/\(0<=p.2.1/\p.2.1<(n.1.length:Int))/\p.1≠p.2.1/\1<=p.2.2.1/\p.2.2.1<=14400
 link:∀x∈n.2.2.2.1,∃(i c j d:Nat) (st:Bool),x=((i:Int),(c:Int),(j:Int),(d:Int),st,())/\i<n.2.2.1.length/\j<n.2.2.1.length/\i≠j/\c<(Zp n i).length/\d<(Zp n j).length/\
  (Zf n i c).1=(Zf n j d).1/\(st=Uc->c+1=(Zp n i).length/\d=0)
theorem ZcL{n:Zc}{i:Nat}(a:i<n.2.2.1.length):Zp n i=(n.2.2.1[i]).2.2.2.2.2.2.2.1:=by unfold Zp rn;grind
theorem Zao{n:Zc}{i c:Nat}(a:c<(Zp n i).length):Zf n i c=(Zp n i)[c]:=by unfold Zf cl;grind
theorem Zul{n:Zc}{i:Nat}(h:W3 n i=0):(cl (rn n (lk n i).1).2.2.2.2.2.2.2.1 (lk n i).2.1).1=(cl (rn n (lk n i).2.2.1).2.2.2.2.2.2.2.1 (lk n i).2.2.2.1).1/\
 ((lk n i).2.2.2.2.1=Uc->(lk n i).2.1+1=((rn n (lk n i).1).2.2.2.2.2.2.2.1.length:Int)/\(lk n i).2.2.2.1=0):=by
 unfold W3 at h;simp only at h;by_cases a:Hh n (lk n i)=Uc
 ·grind
 rw[Zg a]at h;by_cases b:Gq n (lk n i)=Uc
 all_goals grind
theorem Whole.ok{n:Zc}(h:Whole n):WO n:=by
 refine⟨h.sound,λs D f=>?_,λp z=>?_,λx B=>?_⟩
 ·have s0:=h.s;unfold GI at s0;split at s0
  ·omega
  obtain⟨j,rfl⟩:∃j:Nat,s=(j:Int):=⟨s.toNat,by omega⟩;have m:j<n.1.length:=by omega
  have o:=ZbZ s0 j m;unfold GH at o;have:=(DB.1 o).2.2;unfold WN;grind
 ·obtain⟨j,m,rfl⟩:=Vx z;obtain⟨f,l,_⟩:=ZaS (W2.1 h.q j m);rw[Ks m]at f l;unfold YY at f;unfold YZ at l;grind
 ·obtain⟨j,m,rfl⟩:=Vx B;have o:=W2.1 h.g j m;obtain⟨f,l,_⟩:=ZaK o;obtain⟨r,t⟩:=Zul o;have e:lk n j=n.2.2.2.1[j]:=by unfold lk;grind
  rw[e]at f l r t;generalize n.2.2.2.1[j]=x at*;unfold Hh at f;unfold Gq at l;unfold Kc at f l;simp only[Vt,Vk,decide_eq_false_iff_not,Vb,Kx]at f l;obtain⟨u,v,w,y,C,E⟩:=x;simp only at f l r t;obtain⟨i,rfl⟩:∃i:Nat,u=(i:Int):=⟨u.toNat,by omega⟩;obtain⟨c,rfl⟩:∃i:Nat,v=(i:Int):=⟨v.toNat,by omega⟩;obtain⟨k,rfl⟩:∃i:Nat,w=(i:Int):=⟨w.toNat,by omega⟩;obtain⟨d,rfl⟩:∃i:Nat,y=(i:Int):=⟨y.toNat,by omega⟩;refine⟨i,c,k,d,C,rfl,by omega,by omega,by omega,?_,?_,r,λA=>?_⟩
  ·unfold Zp;omega
  ·unfold Zp;omega
  ·obtain⟨a,b⟩:=t A;unfold Zp;omega
theorem WO.isLink{n:Zc}(h:WO n){i c j d:Nat}{st:Bool}(a:isLink n i c j d st):i<n.2.2.1.length/\j<n.2.2.1.length/\i≠j/\c<(Zp n i).length/\d<(Zp n j).length/\(Zf n i c).1=(Zf n j d).1/\(st=Uc->c+1=(Zp n i).length/\d=0):=by obtain⟨l,f,m,g,b,e,k⟩:=h.link _ a;grind
theorem WO.stop{n:Zc}(h:WO n){i c:Nat}(a:i<n.2.2.1.length)(b:c<(Zp n i).length):0<=(Zf n i c).1/\(Zf n i c).1<(n.1.length:Int):=by rw[Zao b];refine h.sound.call _ (Vf a) _ ?_;simp only[ZcL a];simp
theorem WO.time{n:Zc}(h:WO n){i c:Nat}(b:i<n.2.2.1.length)(a:c<(Zp n i).length):0<=(Zf n i c).2.1/\(Zf n i c).2.1<=(Zf n i c).2.2.1/\(Zf n i c).2.2.1<=3155932800:=by have d:=h.sound.time _ (Vf b);rw[Zao a];simp only[ZcL b]at a⊢;have:=d c a;omega
end Q
namespace Q
open Tr Go
def ZG(q:Zl):Zl:=(q.1,q.2.1,q.2.2.1,q.2.2.2.1,q.2.2.2.2.1,q.2.2.2.2.2.1,Ud,Ud,0,q.2.2.2.2.2.2.2.2.2)
theorem Zvz{k:Nat}{q:Zl}(h:qB k q=Uc):qB k (ZG q)=true:=by unfold qB at h⊢;simp only[Vb,Kx]at h⊢;obtain⟨a,b,c,d,e,_,f⟩:=h;exact⟨a,b,c,d,e,⟨Vdc 0,by show (0:Int)<=255;decide⟩,f⟩
theorem Zdw{n:Zc}{q:Zl}{x:Zw}:Db n q x=0↔((cl (K9 n x) x.2.2.1).1=x.2.2.2.2.1/\(cl (K9 n x) x.2.2.2.1).1=x.2.2.2.2.2.1)/\((cl (K9 n x) x.2.2.1).2.2.1=x.2.2.2.2.2.2.1/\(cl (K9 n x) x.2.2.2.1).2.1=x.2.2.2.2.2.2.2.1)/\Rs n q (rn n x.2.1)=Uc/\(KM x=Uc\/(cl (K9 n x) x.2.2.1).2.2.2.1=Uc/\Yg n q x.2.2.2.2.1=Uc):=by
 unfold Db;rw[K4 (by omega),K4 (by omega),K4 (by omega),K4 (by omega),K4 (by omega),K4 (by omega),K4 (by omega),K4 (by omega)];unfold Rs Tr.useB Zfi;rw[Vt,Vt];simp only[Vk,Kx];generalize (rn n x.2.1).2.2.2.2.2.2.1=b;generalize (rn n x.2.1).2.2.2.2.2.1=c;generalize q.2.2.2.2.2.2.1=d;generalize (Rk n (rn n x.2.1)).2.2.1=e;generalize q.2.2.2.2.2.2.2.1=f;generalize (Ue (q.2.2.2.2.2.2.2.2.1=(0:Int)) ||decide (ZC .i64 (Vxa q.2.2.2.2.2.2.2.2.1 (2 ^ min (Vda (Rk n (rn n x.2.1)).2.1) 64)) 1=1))=g;generalize KM x=a;generalize (cl (K9 n x) x.2.2.1).2.2.2.1=h;generalize Yg n q x.2.2.2.2.1=j;generalize ((cl (K9 n x) x.2.2.1).1=x.2.2.2.2.1/\(cl (K9 n x) x.2.2.2.1).1=x.2.2.2.2.2.1)=k;generalize ((cl (K9 n x) x.2.2.1).2.2.1=x.2.2.2.2.2.2.1/\(cl (K9 n x) x.2.2.2.1).2.1=x.2.2.2.2.2.2.2.1)=l;have key:((b=Ud/\(d&& !c)=Ud/\(f&& !e)=Ud/\(!g)=Ud/\(!a&& !h)=Ud/\(!a&& !j)=Ud/\(0:Int)=0)↔((!b&&((c|| !d)&&((e|| !f)&&g)))=Uc/\(a=Uc\/h=Uc/\j=Uc))):=by
  cases b<;>cases c<;>cases d<;>cases e<;>cases f<;>cases g<;>cases a<;>cases h<;>cases j<;>simp
 exact and_congr_right λ_=>and_congr_right λ_=>by
  first
  |exact key
  |(simp only[Vk]at key⊢;exact key)
theorem ZrD(n:Zc)(q:Zl):Jj n q c0=c0:=by
 unfold Jj;split<;>rfl
theorem Zg1(n:Zc)(q:Zl)(l:List Wy)(a:Int):cl (l.map (Jj n q)) a=Jj n q (cl l a):=by
 unfold cl;rw[Vla]
 cases l[a.toNat]? with
 |none=>exact(ZrD n q).symm
 |some c=>rfl
theorem Zg2(n:Zc)(q:Zl)(c:Wy):Jj n q c=(c.1,c.2.1,c.2.2.1,c.2.2.2.1&&Yg n q c.1,c.2.2.2.2.1&&Yg n q c.1,()):=by
 unfold Jj
 cases h:Yg n q c.1 with
 |true=>simp
 |false=>simp
theorem Zen(n:Zc)(q:Zl)(x:Zw):K9 (Kr n q) x=(K9 n x).map (Jj n q):=ZnE n q x.2.1
theorem Zla(n:Zc)(q:Zl)(x:Zw):KL (Kr n q) x=KL n x:=by have a:(Kr n q).2.2.1.length=n.2.2.1.length:=Vo ..;unfold KL;rw[Zen,Vo,a]
theorem ZnD{n:Zc}{q:Zl}{x:Zw}(a:KL n x=Uc):rn (Kr n q) x.2.1=Xz n q (rn n x.2.1):=by
 unfold KL at a;rw[Vb]at a;have h:=a.1;unfold Kc at h;simp only[Vb,Kx]at h;have b:x.2.1.toNat<n.2.2.1.length:=by omega
 unfold rn;show ((n.2.2.1.map (Xz n q))[x.2.1.toNat]?).getD u0=_;rw[Vla,Ve b];rfl
theorem Zfu(n:Zc)(q:Zl)(s:Int):Yg n (ZG q) s=true:=by unfold Yg ZG;simp
theorem ZoJ(n:Zc)(q:Zl)(r:He):Rs n (ZG q) r= !r.2.2.2.2.2.2.1:=by unfold Rs Tr.useB ZG;simp
theorem ZvT{n:Zc}{q:Zl}{x:Zw}(c:KL n x=Uc):Db (Kr n q) (ZG q) x=0↔Db n q x=0:=by rw[Zdw,Zdw,Zen,Zg1,Zg1,Zg2,Zg2,ZnD c,ZoJ,Zfu];have b:(Xz n q (rn n x.2.1)).2.2.2.2.2.2.1= !Rs n q (rn n x.2.1):=rfl;rw[b,Bool.not_not];refine and_congr_right λa=>and_congr_right λ_=>and_congr_right λ_=>?_;simp only[Vb];rw[a.1];simp
theorem ZpP{α:Type}(p f:α->Bool)(l:List α):(l.filter p).any f=l.any λx=>f x&&p x:=by
 induction l with
 |nil=>rfl
 |cons x l b=>
  cases a:p x with
  |true=>rw[List.filter_cons_of_pos a,Vic,Vic,b,a,Vld]
  |false=>rw[List.filter_cons_of_neg (by simp [a]),Vic,b,a,Vgd,Vmd]
theorem Zgb{n:Zc}{q:Zl}{x:Zw}:Hy n q x=0↔(n.2.2.2.2.1.any λp=>HS x p&&Gv q p)=true:=by
 unfold Hy
 cases (n.2.2.2.2.1.any λp=>HS x p&&Gv q p) with
 |true=>simp
 |false=>cases n.2.2.2.2.1.any (HS x)<;>simp
theorem Zxm{n:Zc}{q:Zl}{x:Zw}:Hy (Kr n q) (ZG q) x=0↔Hy n q x=0:=by
 rw[Zgb,Zgb];have a:∀p:Kl,Gv (ZG q) p=true:=by intro p;unfold Gv ZG;simp
 show ((HX n q).any λp=>HS x p&&Gv (ZG q) p)=Uc↔_;simp only[a,Vld];unfold HX Gv
 cases q.2.2.2.2.2.2.1 with
 |true=>simp only[if_true];rw[ZpP];simp
 |false=>simp
theorem Zub{n:Zc}{q:Zl}{x:Zw}:Xo (Kr n q) (ZG q) x=0↔Xo n q x=0:=by
 have b:∀(n:Zc) (q:Zl),Xo n q x=0↔(!Kc x.2.2.2.2.1 n.1.length|| !Kc x.2.2.2.2.2.1 n.1.length)=Ud/\(bif x.1 then !KL n x else !Ue (x.2.1=0) || (!Ue (x.2.2.1=0) || (!Ue (x.2.2.2.1=0) ||KM x)))=Ud/\(!Ue (0<=x.2.2.2.2.2.2.1/\x.2.2.2.2.2.2.1<=3155932800) || !Ue (0<=x.2.2.2.2.2.2.2.1/\x.2.2.2.2.2.2.2.1<=3155932800))=Ud/\(bif x.1 then Db n q x else Hy n q x)=0:=by intro n q;unfold Xo;rw[K4 (by omega),K4 (by omega),K4 (by omega)]
 rw[b,b,Zla];refine and_congr_right λ_=>and_congr_right λa=>and_congr_right λ_=>?_
 cases c:x.1 with
 |true=>
  rw[c]at a
  exact ZvT (by simpa using a)
 |false=>exact Zxm
theorem ZqC{n:Zc}{q:Zl}{L:List Zw}{i:Nat}:J5 (Kr n q) (ZG q) L i=0↔J5 n q L i=0:=by
 have e:∀(n:Zc) (q:Zl),J5 n q L i=0↔Xo n q (lg L i)=0/\DH n q L i=0/\(H7 L i=Uc->Du n q (lg L i)=0):=by
  intro n q;unfold J5;by_cases a:Xo n q (lg L i)=0
  ·by_cases b:DH n q L i=0
   ·rw[Zi a,Zi b];cases H7 L i<;>simp [a,b]
   ·rw[Zi a,Zt b];simp [b]
  ·rw[Zt a];simp [a]
 have d:∀(n:Zc) (q:Zl) (x:Zw),Du n q x=0↔(cl (K9 n x) x.2.2.2.1).2.2.2.2.1=Uc/\Yg n q x.2.2.2.2.2.1=true:=by intro n q x;unfold Du;rw[K4 (by omega),K4 (by omega)];simp
 rw[e,e];refine(and_congr Zub Vkd).trans (and_congr_right λa=>and_congr Vkd ?_);refine imp_congr_right λc=>?_;have h:(lg L i).1=true:=by unfold H7 at c;rw[Vb]at c;exact c.1
 obtain⟨_,_,f,_⟩:=Zl5 a;have g:=(Zdw.1 (f h).2).1.2;rw[d,d,Zen,Zg1,Zg2,Zfu];simp only[Vb];rw[g];simp
end Q
namespace Q
open Tr Go
variable {n:Zc}{q:Zl}
theorem Zl6{n:Zc}{q:Zl}{x:Zw}:Xo n q x=0↔(Kc x.2.2.2.2.1 n.1.length=Uc/\Kc x.2.2.2.2.2.1 n.1.length=Uc)/\(bif x.1 then !KL n x else !Ue (x.2.1=0) || (!Ue (x.2.2.1=0) || (!Ue (x.2.2.2.1=0) ||KM x)))=Ud/\
 ((0<=x.2.2.2.2.2.2.1/\x.2.2.2.2.2.2.1<=3155932800)/\(0<=x.2.2.2.2.2.2.2.1/\x.2.2.2.2.2.2.2.1<=3155932800))/\(bif x.1 then Db n q x else Hy n q x)=0:=by
 unfold Xo;rw[K4 (by omega),K4 (by omega),K4 (by omega)];simp only[Vt,Vk,Kx]
theorem ZtF{a m:Nat}:Kc (a:Int) m=Uc↔a<m:=by unfold Kc;rw[Vb,Kx,Kx];omega
theorem ZaC{a:Int}{m:Nat}:Kc a m=Uc↔0<=a/\a<(m:Int):=by unfold Kc;rw[Vb,Kx,Kx]
theorem ZoI(n:Zc)(q:Zl)(i:Nat):Rs n (ZG q) (rn n (i:Int))=Uc↔Yc n i=false:=by
 rw[ZoJ];unfold Yc;cases (rn n (i:Int)).2.2.2.2.2.2.1<;>simp
def ZjA(n:Zc)(i b c:Nat)(st:Bool):Prop:=i<n.2.2.1.length/\b<c/\c<(Zp n i).length/\Yc n i=Ud/\(st=Uc\/(Zf n i b).2.2.2.1=Uc)
theorem Zie(h:WO n){x:Zw}:(Xo n (ZG q) x=0/\x.1=Uc)↔∃i b c st,x=ZM n i b c st/\ZjA n i b c st:=by
 rw[Zl6];constructor
 ·rintro ⟨⟨a,f,g,d⟩,m⟩;rw[m]at f d;simp only[Zd,Vk]at f d;have k:=f;unfold KL K9 at k;simp only[Vb,Kx,ZaC]at k;obtain⟨⟨E,G⟩,H,I,J⟩:=k;obtain⟨⟨p,r⟩,⟨s,t⟩,v,e⟩:=Zdw.1 d;obtain⟨U,z,w,y,S,T,R,Q,xs,u⟩:=x;simp only at m a f g d E G H I J p r s t v e;obtain⟨i,rfl⟩:∃i:Nat,z=(i:Int):=⟨z.toNat,by omega⟩;obtain⟨b,rfl⟩:∃i:Nat,w=(i:Int):=⟨w.toNat,by omega⟩;obtain⟨c,rfl⟩:∃i:Nat,y=(i:Int):=⟨y.toNat,by omega⟩;subst m;have K:c<(Zp n i).length:=by unfold Zp;omega
  refine⟨i,b,c,xs,?_,by omega,by omega,K,(ZoI n q i).1 v,?_⟩
  ·have A:(Zf n i b).1=S:=p;have B:(Zf n i c).1=T:=r;have C:(Zf n i b).2.2.1=R:=s;have D:(Zf n i c).2.1=Q:=t;unfold ZM;rw[A,B,C,D]
  ·rcases e with e|e
   ·exact .inl e
   ·exact .inr e.1
 ·rintro ⟨i,b,c,st,rfl,a,f,g,d,j⟩;have o:b<(Zp n i).length:=by omega
  have M:=h.stop a o;have N:=h.stop a g;have O:=h.time a o;have P:=h.time a g;have l:KL n (ZM n i b c st)=true:=by unfold KL K9;simp only[Vb,Kx];have:c<(rn n (i:Int)).2.2.2.2.2.2.2.1.length:=g;exact⟨ZtF.2 a,by show (0:Int)<=(b:Int);omega,by show (b:Int)<(c:Int);omega,by show (c:Int)<_;show (c:Int)<((rn n (i:Int)).2.2.2.2.2.2.2.1.length:Int);omega⟩
  refine⟨⟨⟨ZaC.2 M,ZaC.2 N⟩,?_,⟨⟨by show (0:Int)<=(Zf n i b).2.2.1;omega,O.2.2⟩,⟨P.1,by show (Zf n i c).2.1<=_;omega⟩⟩,?_⟩,rfl⟩
  ·show (!KL n (ZM n i b c st))=Ud;rw[l];rfl
  ·refine Zdw.2 ⟨⟨rfl,rfl⟩,⟨rfl,rfl⟩,(ZoI n q i).2 d,?_⟩;rcases j with j|j
   ·exact .inl j
   ·exact .inr ⟨j,Zfu ..⟩
theorem Zif(h:WO n){x:Zw}:(Xo n (ZG q) x=0/\x.1=Ud)↔∃p∈n.2.2.2.2.1,∃a,x=KA p.1 p.2.1 a (a+p.2.2.1)/\0<=a/\a+p.2.2.1<=3155932800:=by
 rw[Zl6];constructor
 ·rintro ⟨⟨f,d,m,g⟩,j⟩;rw[j]at d g;simp only[Ze,Vt,Vk,Kx]at d g;have o:=Zgb.1 g;obtain⟨p,e,k⟩:=Vv.1 o;rw[Vb]at k;have b:=k.1;unfold HS at b;simp only[Vb,Kx]at b;obtain⟨y,w,s,t,v,z,l,r,xs,u⟩:=x;simp only at j f d m b;have c:=h.path p e;rw[ZN (by omega) (by omega)]at b;obtain⟨rfl,rfl,rfl,rfl⟩:=d;subst j;refine⟨p,e,l,?_,by omega,by omega⟩;unfold KA;rw[<-b.1,<-b.2.1,show r=l+p.2.2.1 by omega]
 ·rintro ⟨p,e,a,rfl,f,d⟩;have c:=h.path p e;refine⟨⟨⟨ZaC.2 c.1,ZaC.2 c.2.1⟩,rfl,⟨⟨f,by show a<=_;omega⟩,⟨by show 0<=a+p.2.2.1;omega,d⟩⟩,?_⟩,rfl⟩;show Hy n (ZG q) _=0;rw[Zgb];refine Vv.2 ⟨p,e,?_⟩;unfold HS Gv ZG KA;simp only[Vb,Kx,Vna,Vnc];exact⟨⟨trivial,trivial,by rw[ZN (by omega) (by omega)];omega⟩,trivial⟩
theorem Zmc(h:WO n){i b c j d e:Nat}{st f k:Bool}:G2 n (ZM n i b c st) (ZM n j d e f) k=Uc↔isLink n i c j d k:=by
 unfold G2;rw[Vv];constructor
 ·rintro ⟨x,g,a⟩;obtain⟨v,t,w,u,y,rfl,_⟩:=h.link x g;unfold ZaL ZM at a;simp only[Vb,Kx,Ki]at a;obtain⟨l,m,o,p,r⟩:=a;unfold isLink;rw[<-l,<-m,<-o,<-p,<-r];exact g
 ·intro s;refine⟨_,s,?_⟩;unfold ZaL ZM;simp
theorem Ztp(n:Zc)(s t a b s' e c d:Int):Yv n (KA s t a b) (KA s' e c d)≠0:=by unfold Yv KA;intro h;rw[K4 (by omega)]at h;obtain⟨_,h⟩:=h;simp at h
theorem Zto(n:Zc)(s t a b:Int)(j d e:Nat):Yv n (KA s t a b) (ZM n j d e Uc)≠0:=by unfold Yv KA ZM;intro h;rw[K4 (by omega)]at h;obtain⟨_,h⟩:=h;simp [KM]at h
theorem Zlw(h:WO n){i b c j d e:Nat}{st:Bool}:Yv n (ZM n i b c st) (ZM n j d e Uc)=0↔(Zf n i c).1=(Zf n j d).1/\isLink n i c j d Uc/\(Zf n i c).2.1<=(Zf n j d).2.2.1:=by
 unfold Yv;have f:G2 n (ZM n i b c st) (ZM n j d e Uc) Uc=Uc↔isLink n i c j d true:=Zmc h;generalize G2 n (ZM n i b c st) (ZM n j d e Uc) Uc=B at*;unfold ZM KM;simp only[Vg,Vec,Ze,Zd,Vmd];rw[K4 (by omega),K4 (by omega)];rw[<-f]
 cases B with
 |false=>simp
 |true=>
  simp only[Vg,Vk,Kx,true_and];refine and_congr_right λ_=>?_;by_cases a:(Zf n j d).2.2.1<(Zf n i c).2.1
  ·rw[Zi a];simp;omega
  ·rw[Zt a];simp;omega
theorem Ztm{i b c:Nat}{st:Bool}{s t a z:Int}:Yv n (ZM n i b c st) (KA s t a z)=0↔(Zf n i c).1=s/\a=(Zf n i c).2.1:=by
 unfold Yv ZM KA KM;simp only[Vg,Vec,Ze,Zd,Vna];rw[K4 (by omega)];simp only[Vk,Kx];refine and_congr_right λ_=>?_;by_cases d:a=(Zf n i c).2.1
 ·rw[Zi d];simp [d]
 ·rw[Zt d];simp [d]
theorem Ztn{j d e:Nat}{s t a z:Int}:Yv n (KA s t a z) (ZM n j d e Ud)=0↔t=(Zf n j d).1/\z<=(Zf n j d).2.2.1:=by
 unfold Yv ZM KA KM;simp only[Vg,Vgd,Ze,Zd,Vna];rw[K4 (by omega)];simp only[Vk,Kx];refine and_congr_right λ_=>?_;by_cases b:(Zf n j d).2.2.1<z
 ·rw[Zi b];simp;omega
 ·rw[Zt b];simp;omega
theorem Ztl(h:WO n){i b c j d e:Nat}{st:Bool}(k:i<n.2.2.1.length)(g:c<(Zp n i).length):Yv n (ZM n i b c st) (ZM n j d e Ud)=0↔(Zf n i c).1=(Zf n j d).1/\
 ((Zf n i c).2.1+(WN n (Zf n i c).1).2.2.2.1<=(Zf n j d).2.2.1\/isLink n i c j d Ud/\(Zf n i c).2.1<=(Zf n j d).2.2.1):=by
 have r:=h.time k g;have l:=h.stop k g;have o:=h.change _ l.1 l.2;have p:Va .i64 ((Zf n i c).2.1+(WN n (Zf n i c).1).2.2.2.1)=(Zf n i c).2.1+(WN n (Zf n i c).1).2.2.2.1:=ZN (by omega) (by omega);unfold Yv;have m:G2 n (ZM n i b c st) (ZM n j d e Ud) Ud=Uc↔isLink n i c j d false:=Zmc h;generalize G2 n (ZM n i b c st) (ZM n j d e Ud) Ud=B at*;unfold ZM KM;simp only[Vg,Vec,Ze,p];rw[K4 (by omega)];simp only[Vk,Kx];refine and_congr_right λ_=>?_;rw[<-m];by_cases a:(Zf n i c).2.1+(WN n (Zf n i c).1).2.2.2.1<=(Zf n j d).2.2.1
 ·rw[Zi a];simp [a]
 ·rw[Zt a];by_cases f:(Zf n i c).2.1<=(Zf n j d).2.2.1
  ·rw[Zi f]
   cases B with
   |true=>simp [a,f]
   |false=>simp [a]
  ·rw[Zt f];simp [a,f]
theorem ZgL{i b c:Nat}{st:Bool}:Du n (ZG q) (ZM n i b c st)=0↔(Zf n i c).2.2.2.2.1=true:=by unfold Du;rw[K4 (by omega),K4 (by omega),Zfu];show (!(Zf n i c).2.2.2.2.1)=Ud/\_↔_;simp
theorem Gp{n:Zc}{q:Zl}{L:List Zw}{i:Nat}:J5 n q L i=0↔Xo n q (lg L i)=0/\DH n q L i=0/\(H7 L i=Uc->Du n q (lg L i)=0):=by
 unfold J5;by_cases a:Xo n q (lg L i)=0
 ·by_cases b:DH n q L i=0
  ·rw[Zi a,Zi b];cases H7 L i<;>simp [a,b]
  ·rw[Zi a,Zt b];simp [b]
 ·rw[Zt a];simp [a]
theorem ZcY{n:Zc}{q:Zl}{L:List Zw}:DC n q L=0↔(lg L 0).2.2.2.2.1=q.1/\KM (lg L 0)=Ud/\(!(lg L 0).1&&(Ue (1<L.length)&&((lg L 1).1&& !Ue ((lg L 1).2.2.2.2.2.2.1=(lg L 0).2.2.2.2.2.2.2.1))))=Ud/\
 (!(lg L 0).1&&(Ue (L.length=1)&&(bif q.2.2.2.1 then !Ue ((lg L 0).2.2.2.2.2.2.2.1=q.2.2.1) else !Ue ((lg L 0).2.2.2.2.2.2.1=q.2.2.1))))=Ud/\
 (!q.2.2.2.1&&Ue ((lg L 0).2.2.2.2.2.2.1<q.2.2.1))=Ud/\(q.2.2.2.2.2.2.2.2.2.1&&((lg L 0).1&&Ue ((lg L 0).2.2.2.2.2.2.1<Va .i64 (q.2.2.1+(WN n q.1).2.2.2.1))))=false:=by
 unfold DC;rw[K4 (by omega),K4 (by omega),K4 (by omega),K4 (by omega),K4 (by omega)];simp only[Vk,Kx];refine and_congr_right λ_=>and_congr_right λ_=>and_congr_right λ_=>and_congr_right λ_=>and_congr_right λ_=>?_;cases (q.2.2.2.2.2.2.2.2.2.1&&((lg L 0).1&&Ue ((lg L 0).2.2.2.2.2.2.1<Va .i64 (q.2.2.1+(WN n q.1).2.2.2.1))))<;>simp
end Q
namespace Q
open Tr Go
abbrev Wn:=Zcs×Xt×List (Int×Int×Int×Int×Unit)×Unit
def Z7:WJ->List ZF
 |[]=>[]
 |[_]=>[]
 |x::y::t=>Z7 (y::t)++[x.2.1]
theorem Hu{S:List JB->List Int->Prop}{F:DX}{a:List JB}{s:WJ}(h:YM S F a s):Z7 s=a:=by
 induction h with
 |start=>rfl
 |snoc b _ _ c=>
  obtain⟨_,_,_,e,_⟩:=b.head;subst e;show Z7 (_::_)++_=_;rw[c]
section
variable (F:ZR) (hF:FO F)
def Zgp(l:Zx):Prop:=JJ F hF (Z7 l.2.2.2.2.1) l.2.2.2.2.1/\∀v∈Z7 l.2.2.2.2.1,JC v
end
variable {F:ZR}{hF:FO F}{n:Zc}{q:Zl}
end Q
namespace Q
open Tr Go
variable {F:ZR}{hF:FO F}{n:Zc}{q:Zl}
def Zi1(n:Zc)(i c:Nat):Bool:=n.2.2.2.1.any λl=>l.2.2.2.2.1&&(Ue (l.1=(i:Int))&&Ue (l.2.1=(c:Int)))
def DJ(n:Zc)(l:Zx)(j d:Nat):Bool:=n.2.2.2.1.any λk=> !k.2.2.2.2.1&&(Ue (l.1.1=1)&&(Ue (k.1=l.1.2.2.1)&&(Ue (k.2.1=l.1.2.2.2.1)&&(Ue (k.2.2.1=(j:Int))&&Ue (k.2.2.2.1=(d:Int))))))
def Jw(n:Zc)(v:ZF)(x:Zw):ZF:=(v.1,x.2.2.2.2.2.2.2.1,Wa .i64 v.2.2.1 ((H9 n x:Nat):Int),Wa .i64 v.2.2.2.1 ((2 ^ (H3 n x).2.1.toNat:Nat):Int),())
def ZH(n:Zc)(l:Zx)(i b c:Nat)(st:Bool)(v:ZF):Zx:=((1,(Zf n i c).1,(i:Int),(c:Int),Jw n v (ZM n i b c st),()),(Zf n i c).2.1,l.2.2.1,l.2.2.2.1,l.2.2.2.2.1,l.2.2.2.2.2.1++[ZM n i b c st],())
def HW(n:Zc)(i c:Nat):Bool:=(Zf n i c).2.2.2.2.1||Zi1 n i c
def Zot(n:Zc)(l:Zx)(i b:Nat)(st:Bool)(v:ZF)(c:Nat):List Zx:=if HW n i c=Uc then [ZH n l i b c st v] else []
def Zf1(n:Zc)(l:Zx)(i b:Nat)(st:Bool)(v:ZF):List Zx:=(Vn ((Zp n i).length - (b+1))).flatMap λk=>Zot n l i b st v (b+1+k)
theorem Zmq{l:Zx}{i b:Nat}{st:Bool}{v:ZF}{x:Zx}:x∈Zf1 n l i b st v↔∃c,b<c/\c<(Zp n i).length/\HW n i c=Uc/\x=ZH n l i b c st v:=by
 unfold Zf1 Zot;rw[Vs];constructor
 ·grind
 ·rintro ⟨c,a,d,e,rfl⟩;refine⟨c - (b+1),by grind,?_⟩;grind
end Q
namespace Q
open Tr Go
theorem Zsm{F:ZR}(h:(JN F).2=0){a:List ZF}(u:∀v∈a,JC v)(B:a.length<=8){i:Nat}{s:Int}(t:Dv.Div (Km F a) i s):
 Dm.LS (Gz F (Hm h).fareOk) F.1.length ((a.drop i).map K0):=by
 induction t with
 |nil=>
  have:(Km F a).n=a.length:=rfl;rw[this,Vtc,Vqd]
  exact .nil
 |cons m y z w t A=>
  rename_i i k p s;have o:k<a.length:=y;have x:i<a.length:=by omega
  have c:p<F.1.length:=z;have j:=Zhl h (λv g=>(u v g).1) (by omega) c m o;have b:(a.drop i)=a[i]::(a.drop (i+1)):=Vr x;have d:a.drop i=a[i]::((a.drop (i+1)).take (k - i)++a.drop (k+1)):=by rw[b];congr 1;have:=Vma (k - i) (a.drop (i+1));rw[Vhd,show i+1+(k - i)=k+1 by omega]at this;exact this.symm
  have f:(a.drop i).take (k+1 - i)=a[i]::(a.drop (i+1)).take (k - i):=by rw[b,show k+1 - i=(k - i)+1 by omega,Vjc]
  have l:GU (WE F p) (a[i]::(a.drop (i+1)).take (k - i))=true:=by
   have r:WE F p=F.1[p]:=by unfold WE;rw[Ks c]
   rw[<-f,r,<-j];exact w
  have e:=(ZeG (Hm h) c (λv g=>u v (by rw[<-f]at g;exact Vba (Voa g)))).1 l
  rw[d,Vy,Vga];exact .cons c e A
theorem Zus{F:ZR}(m:(JN F).2=0){a:List ZF}(z:∀v∈a,JC v)(J:a.length<=8){l:List Dm.Ride}(G:Dm.LS (Gz F (Hm m).fareOk) F.1.length l):
 ∀i,i<=a.length->l=(a.drop i).map K0->∃s,Dv.Div (Km F a) i s:=by
 induction G with
 |nil=>
  intro i E f;have:=congrArg Vm f;rw[Vo,Vwb,Vzb]at this;have:i=(Km F a).n:=by show i=a.length;omega
  subst this
  exact⟨0,.nil⟩
 |cons u C h H=>
  rename_i r l c p;intro i E f;have e:=congrArg Vm f;rw[Vo,Vwb,Vca,Vl]at e;have t:i<a.length:=by omega
  have b:(a.drop i)=a[i]::(a.drop (i+1)):=Vr t;rw[b,Vy]at f;obtain⟨rfl,B⟩:=List.cons.inj f;obtain⟨d,I,x,rfl,rfl⟩:=Vya.1 B.symm;rw[Vo,Vo]at e;have A:I=a.drop (i+d.length+1):=by have:=congrArg (List.drop d.length) x;rw[Vhd,List.drop_left]at this;rw[<-this];congr 1;omega
  have y:(a.drop i).take (i+d.length+1 - i)=a[i]::d:=by rw[b,x,show i+d.length+1 - i=d.length+1 by omega,Vjc,List.take_left]
  obtain⟨s,D⟩:=H (i+d.length+1) (by omega) (by rw[A]);refine⟨_,.cons (k:=i+d.length) (by omega) (show i+d.length<a.length by omega) u ?_ D⟩;have o:=Zhl m (λv j=>(z v j).1) (by omega) (p:=p) (i:=i) (k:=i+d.length) (by omega) (by omega) (by omega);have g:=(ZeG (Hm m) u (r:=a[i]) (l:=d) (λv j=>z v (by rw[<-y]at j;exact Vba (Voa j)))).2 C
  have w:WE F p=F.1[p]:=by unfold WE;rw[Ks u]
  rw[<-y,w]at g;exact o.trans g
theorem ZtP{n:Zc}(m:HB n)(l:WV n)(o:F123 n=Ua Uc)(q:Zl){L:List Zw}(u:L.length<=90)(r:∀x∈L,Zad x){a:List ZF}(h:Wg n L Ud []=(a,0))(A:a.length<=8):
 (∃s t,t.length<=8/\F52 n q (L,())=Ua ((((L[0]?).map λx=>x.2.2.2.2.2.2.1).getD q.2.2.1,((L[L.length - 1]?).map λx=>x.2.2.2.2.2.2.2.1).getD q.2.2.1,(a.length:Int),s,WI L,()),t,0))\/
 ((∀s,¬Dv.Div (Km n.2.2.2.2.2.1 a) 0 s)/\∃c,F52 n q (L,())=Ua (c,[],34)):=by
 have hF:=Zll l.fare;have d:F53 n (L,())=Ua (a,0):=by
  rcases ZvZ n (L,()) m u with ⟨_,f⟩|⟨_,_,f⟩
  ·rw[o]at f;cases f
  ·rw[f,h]
 have w:=ZoR (L,()) (show L.length<=1000 by omega) r;have b:=Dv.tab_best (Km n.2.2.2.2.2.1 a) a.length (Vu _) 0 (by show a.length - a.length<=0;omega) (Vua _);unfold F52;rw[d];simp only[Za,decide_true,Vg,Ze];rcases Ztr l.fare (λx y=>m.prods x y) a (by omega) with ⟨f,_⟩|⟨_,v,g⟩|⟨_,s,t,j,g⟩
 ·omega
 ·right;rw[v]at b;rw[g];exact⟨b,_,rfl⟩
 ·left;obtain⟨_,_,e⟩:=ZfW (L:=Km n.2.2.2.2.2.1 a) (λp i g=>ZiC hF g) a.length (Vu _) 0 s t j;have e:t.length<=a.length:=e;rw[g];refine⟨Zeo n.2.2.2.2.2.1 s,t,by omega,?_⟩;simp only[Za,decide_true,Vg,Ze,w];by_cases k:0<L.length
  ·rw[Zi (show (0:Int)<(L.length:Int) by omega)];have el:Va .i64 ((L.length:Int) - 1)=((L.length - 1:Nat):Int):=by rw[ZN (by omega) (by omega)];omega
   have z:idx L (0:Int)=Ua L[0]:=ZJ (i:=0) k;simp only[Zd,el,z,ZJ (show L.length - 1<L.length by omega),Za];rw[Ve k,Ve (show L.length - 1<L.length by omega)];rfl
  ·rw[Zt (show¬(0:Int)<(L.length:Int) by omega)];have:L=[]:=Vib (by omega);subst this;rfl
end Q
namespace Q
open Tr Go
variable {F:ZR}{hF:FO F}{n:Zc}{q:Zl}
structure LV (F:ZR) (hF:FO F) (n:Zc) (q:Zl) (l:Zx):Prop where
 fare:Zgp F hF l
 len:l.2.2.2.2.2.1.length<=80
 rides:0<=l.2.2.1/\l.2.2.1<=q.2.2.2.2.1
 walk:0<=l.2.2.2.1/\l.2.2.2.1<=q.2.2.2.2.2.1
 time:0<=l.2.1/\l.2.1<=3155932800
 stop:0<=l.1.2.1/\l.1.2.1<(n.1.length:Int)
 kind:l.1.1=1->∃i c:Nat,l.1.2.2.1=(i:Int)/\l.1.2.2.2.1=(c:Int)/\i<n.2.2.1.length/\c<(Zp n i).length/\l.1.2.1=(Zf n i c).1/\l.2.1=(Zf n i c).2.1/\JC l.1.2.2.2.2.1
 first:∀x,l.2.2.2.2.2.1=[x]->x.1=Ud->Jc x.2.2.2.2.2.2.1/\x.2.2.2.2.2.2.2.1=l.2.1
structure QI (q:Zl):Prop where
 rides:q.2.2.2.2.1<=7
 walk:q.2.2.2.2.2.1<=86400
def WP(L:List Zw)(d:Int):List Zw:=match L with
 |[x]=>if x.1=Uc then [x] else [(x.1,x.2.1,x.2.2.1,x.2.2.2.1,x.2.2.2.2.1,x.2.2.2.2.2.1,x.2.2.2.2.2.2.1+(d - x.2.2.2.2.2.2.2.1),d,x.2.2.2.2.2.2.2.2)]
 |L=>L
theorem ZjR(L:List Zw)(d:Int):(WP L d).length=L.length:=by unfold WP;grind
theorem Zbe{x:Zw}(h:x.1=Uc)(d:Int):WP [x] d=[x]:=by unfold WP;grind
theorem RE{x:Zw}(h:x.1=Ud)(d:Int):WP [x] d=[(x.1,x.2.1,x.2.2.1,x.2.2.2.1,x.2.2.2.2.1,x.2.2.2.2.2.1,x.2.2.2.2.2.2.1+(d - x.2.2.2.2.2.2.2.1),d,x.2.2.2.2.2.2.2.2)]:=by show (if x.1=Uc then [x] else _)=_;grind
theorem ZjS{L:List Zw}(h:L.length≠1)(d:Int):WP L d=L:=by unfold WP;grind
def Yq(n:Zc)(l:Zx)(i c:Nat):Zx:=(l.1,l.2.1,l.2.2.1+1,l.2.2.2.1,l.2.2.2.2.1,WP l.2.2.2.2.2.1 (Zf n i c).2.2.1,())
def Jr(d:Int):ZF:=(d,0,0,0,())
def Zkj(n:Zc)(q:Zl)(l:Zx)(i c:Nat):List Zx:=if l.2.2.1=q.2.2.2.2.1 then [] else Zf1 n (Yq n l i c) i c Ud (Jr (Zf n i c).2.2.1)
theorem ZbS(d:Int):Small (Jr d):=⟨⟨by show (0:Int)<=0;omega,by show (0:Int)<65536;omega⟩,⟨by show (0:Int)<=0;omega,by show (0:Int)<65536;omega⟩⟩
def RN(n:Zc)(l:Zx)(fr:Int)(i c:Nat):Prop:=Yc n i=Ud/\(Zf n i c).2.2.2.1=Uc/\(Zf n i c).1=l.1.2.1/\c+1≠(Zp n i).length/\(fr<=(Zf n i c).2.2.1\/(l.2.1<=(Zf n i c).2.2.1/\DJ n l i c=Uc))
instance (n:Zc) (l:Zx) (fr:Int) (i c:Nat):Decidable (RN n l fr i c):=by unfold RN;infer_instance
def ZgU(n:Zc)(q:Zl)(l:Zx)(fr:Int)(i c:Nat):List Zx:=if RN n l fr i c then Zkj n q l i c else []
def Zal(n:Zc)(q:Zl)(l:Zx)(fr:Int):List Zx:=(Vn n.2.2.1.length).flatMap λi=>(Vn (Zp n i).length).flatMap λc=>ZgU n q l fr i c
theorem Zmm{l:Zx}{fr:Int}{i c:Nat}{x:Zx}:x∈ZgU n q l fr i c↔RN n l fr i c/\l.2.2.1≠q.2.2.2.2.1/\∃d,c<d/\d<(Zp n i).length/\HW n i d=Uc/\x=ZH n (Yq n l i c) i c d Ud (Jr (Zf n i c).2.2.1):=by
 unfold ZgU Zkj;by_cases a:RN n l fr i c
 ·rw[Zn a];by_cases b:l.2.2.1=q.2.2.2.2.1
  ·grind
  ·rw[Zg b,Zmq];grind
 grind
theorem Hr{l:Zx}{fr:Int}{x:Zx}:x∈Zal n q l fr↔∃i c d,i<n.2.2.1.length/\c<d/\d<(Zp n i).length/\RN n l fr i c/\l.2.2.1≠q.2.2.2.2.1/\HW n i d=Uc/\x=ZH n (Yq n l i c) i c d Ud (Jr (Zf n i c).2.2.1):=by
 unfold Zal;rw[Vs];constructor
 ·rintro ⟨i,a,b⟩;obtain⟨c,m,b⟩:=Vs.1 b;rw[Vlb]at a m;obtain⟨e,f,d,g,h,j,k⟩:=Zmm.1 b;grind
 ·rintro ⟨i,c,d,a,g,h,e,f,j,k⟩;exact⟨i,Vlb.2 a,Vs.2 ⟨c,by grind,Zmm.2 ⟨e,f,d,g,h,j,k⟩⟩⟩
def Xc(l:Zx)(p:Kl):Zx:=((2,p.2.1,0,0,(0,0,0,0,()),()),l.2.1+p.2.2.1,l.2.2.1,l.2.2.2.1+p.2.2.1,l.2.2.2.2.1,l.2.2.2.2.2.1++[KA l.1.2.1 p.2.1 l.2.1 (l.2.1+p.2.2.1)],())
def Zbs(q:Zl)(l:Zx)(p:Kl):Prop:=p.1=l.1.2.1/\l.2.2.2.1+p.2.2.1<=q.2.2.2.2.2.1/\l.2.1+p.2.2.1<=3155932800
instance (q:Zl) (l:Zx) (p:Kl):Decidable (Zbs q l p):=by unfold Zbs;infer_instance
def Zjg(q:Zl)(l:Zx)(p:Kl):List Zx:=if Zbs q l p then [Xc l p] else []
def Zcl(n:Zc)(q:Zl)(l:Zx):List Zx:=n.2.2.2.2.1.flatMap (Zjg q l)
theorem Zmr{l:Zx}{p:Kl}{x:Zx}:x∈Zjg q l p↔Zbs q l p/\x=Xc l p:=by unfold Zjg;simp
theorem HU{l:Zx}{x:Zx}:x∈Zcl n q l↔∃p∈n.2.2.2.2.1,Zbs q l p/\x=Xc l p:=by unfold Zcl;rw[Vs];exact⟨λ⟨p,a,b⟩=>⟨p,a,Zmr.1 b⟩,λ⟨p,a,b⟩=>⟨p,a,Zmr.2 b⟩⟩
def Zbr(n:Zc)(l:Zx)(k:Gg):Prop:=k.2.2.2.2.1=Uc/\k.1=l.1.2.2.1/\k.2.1=l.1.2.2.2.1/\Yc n k.2.2.1.toNat=Ud/\l.2.1<=(Zf n k.2.2.1.toNat 0).2.2.1
instance (n:Zc) (l:Zx) (k:Gg):Decidable (Zbr n l k):=by unfold Zbr;infer_instance
def Zi0(n:Zc)(l:Zx)(k:Gg):List Zx:=if Zbr n l k then Zf1 n l k.2.2.1.toNat 0 Uc l.1.2.2.2.2.1 else []
def ZfQ(n:Zc)(l:Zx):List Zx:=n.2.2.2.1.flatMap (Zi0 n l)
theorem Zmo{l:Zx}{k:Gg}{x:Zx}:x∈Zi0 n l k↔Zbr n l k/\∃d,0<d/\d<(Zp n k.2.2.1.toNat).length/\HW n k.2.2.1.toNat d=Uc/\x=ZH n l k.2.2.1.toNat 0 d Uc l.1.2.2.2.2.1:=by
 unfold Zi0;by_cases h:Zbr n l k
 ·rw[Zn h,Zmq];grind
 grind
theorem G3{l:Zx}{x:Zx}:x∈ZfQ n l↔∃k∈n.2.2.2.1,Zbr n l k/\∃d,0<d/\d<(Zp n k.2.2.1.toNat).length/\HW n k.2.2.1.toNat d=Uc/\x=ZH n l k.2.2.1.toNat 0 d Uc l.1.2.2.2.2.1:=by unfold ZfQ;rw[Vs];exact⟨λ⟨p,a,b⟩=>⟨p,a,Zmo.1 b⟩,λ⟨p,a,b⟩=>⟨p,a,Zmo.2 b⟩⟩
end Q
namespace Q
open Tr Go
variable {F:ZR}{hF:FO F}{n:Zc}{q:Zl}
noncomputable def GF(s:WJ)(r:ZF):WJ:=((F22 s r).getD ([],1)).1
noncomputable def XX(l:Zx):Zx:=(l.1,l.2.1,l.2.2.1,l.2.2.2.1,GF l.2.2.2.2.1 l.1.2.2.2.2.1,l.2.2.2.2.2.1,())
def Jh(n:Zc)(l:Zx):Bool:=(Zf n l.1.2.2.1.toNat l.1.2.2.2.1.toNat).2.2.2.2.1
def HL(n:Zc)(s:Int):Int:=(WN n s).2.2.2.1
noncomputable def DQ(n:Zc)(q:Zl)(l:Zx):List Zx:=
 if l.1.1=1 then ZfQ n l++(if Jh n l=Uc then Zal n q (XX l) (l.2.1+HL n l.1.2.1)++Zcl n q (XX l) else [])
 else if l.1.1=2 then Zal n q l l.2.1
 else Zal n q l (l.2.1+(if q.2.2.2.2.2.2.2.2.2.1=Uc then HL n l.1.2.1 else 0))++Zcl n q l
def ZbH(n:Zc)(q:Zl)(l:Zx):Prop:=(l.1.1=1->Jh n l=Uc)/\l.1.2.1=q.2.1
instance (n:Zc) (q:Zl) (l:Zx):Decidable (ZbH n q l):=by unfold ZbH;infer_instance
theorem ZiL{l:Zx}(c:LV F hF n q l)(j:l.1.1=1)(h:(Z7 l.2.2.2.2.1).length+1<=8):F22 l.2.2.2.2.1 l.1.2.2.2.2.1=Ua (GF l.2.2.2.2.1 l.1.2.2.2.2.1,0)/\JJ F hF (Z7 l.2.2.2.2.1++[l.1.2.2.2.2.1]) (GF l.2.2.2.2.1 l.1.2.2.2.2.1)/\∀v∈Z7 l.2.2.2.2.1++[l.1.2.2.2.2.1],JC v:=by
 obtain⟨_,_,_,_,_,_,_,_,a⟩:=c.kind j;have f:∀v∈Z7 l.2.2.2.2.1++[l.1.2.2.2.2.1],JC v:=λv b=>by
  rw[Vj,Vq]at b;rcases b with b|rfl
  ·exact c.fare.2 v b
  ·exact a
 obtain⟨k,d,g⟩:=ZiZ hF c.fare.1 f h;have e:GF l.2.2.2.2.1 l.1.2.2.2.2.1=k:=by unfold GF;rw[d];rfl
 rw[e];exact⟨d,g,f⟩
theorem LV.next{l:Zx}(a:LV F hF n q l)(f:l.1.1=1)(d:(Z7 l.2.2.2.2.1).length+1<=8):LV F hF n q (XX l):=by
 obtain⟨g,b,c⟩:=ZiL a f d;have e:=Hu b;refine⟨⟨?_,?_⟩,a.len,a.rides,a.walk,a.time,a.stop,a.kind,a.first⟩
 ·show JJ F hF (Z7 (GF _ _)) (GF _ _);rw[e];exact b
 ·show∀v∈Z7 (GF _ _),JC v;rw[e];exact c
end Q
namespace Q
open Tr Go
structure WW (n:Zc):Prop where
 stops:n.1.length<=5
 runs:n.2.2.1.length<=7
 paths:n.2.2.2.2.1.length<=60
 calls:∀i,i<n.2.2.1.length->(Zp n i).length<=6
variable {n:Zc}{q:Zl}
noncomputable def Zcd(n:Zc):Int->Option Int:=Wf n n.2.2.2.1.length
def X4(n:Zc)(a b:Int):Prop:= ∃k,KD (Zcd n) a (k+1)=Ua b
theorem ZmP(f:Int->Option Int):∀(k:Nat) {a b c:Int}{l:Nat},KD f a k=Ua b->KD f b l=Ua c->KD f a (k+l)=Ua c
 |0,a,b,c,l,d,g=>by
  have:a=b:=KO d
  grind
 |k+1,a,b,c,l,d,g=>by have e:(f a).bind (λb=>KD f b k)=Ua b:=d;obtain⟨j,m,h⟩:=Option.bind_eq_some_iff.1 e;have:=ZmP f k h g;rw[show k+1+l=(k+l)+1 by omega];show (f a).bind (λb=>KD f b (k+l))=Ua c;grind
theorem X4.trans{a b c:Int}(d:X4 n a b)(e:X4 n b c):X4 n a c:=by obtain⟨k,d⟩:=d;obtain⟨l,e⟩:=e;exact⟨k+l+1,by rw[show k+l+1+1=(k+1)+(l+1) by omega];exact ZmP _ _ d e⟩
theorem X4.one{a b:Int}(h:Zcd n a=Ua b):X4 n a b:=⟨0,by show (Zcd n a).bind (λb=>Ua b)=Ua b;grind⟩
theorem X4.irr(h:Whole n){a:Int}:¬X4 n a a:=by rintro ⟨k,c⟩;exact ZmC (ZeQ (λj b=>W2.1 h.g j b) a) k c
theorem ZdF(h:Whole n){i c j d:Nat}(p:isLink n i c j d Uc):Zcd n (i:Int)=Ua (j:Int):=by
 obtain⟨a,k,u⟩:=Vx p;have r:lk n a=((i:Int),(c:Int),(j:Int),(d:Int),Uc,()):=by unfold lk;grind
 cases l:Zcd n (i:Int) with
 |none=>
  have:=Ziq l a k (by grind)
  grind
 |some b=>
  obtain⟨e,m,o,s,t⟩:=Zdj l;have:e=a:=by
   rcases Vsc e a with f|rfl|f
   ·have:=(ZaK (W2.1 h.g a k)).2.2 (by grind);grind
   ·rfl
   ·have:=(ZaK (W2.1 h.g e m)).2.2 o;grind
  grind
open Classical in
noncomputable def XI(n:Zc)(a b:Nat):Nat:=if X4 n (a:Int) (b:Int) then 1 else 0
noncomputable def WF(n:Zc)(a:Nat):Nat:=XI n a 0+XI n a 1+XI n a 2+XI n a 3+XI n a 4+XI n a 5+XI n a 6
theorem ZvL(a b:Nat):XI n a b<=1:=by unfold XI;grind
theorem Znp(h:Whole n)(a:Nat):XI n a a=0:=by unfold XI;rw[Zg (X4.irr h)]
theorem ZvK(h:Whole n)(a b:Nat):XI n a b+XI n b a<=1:=by
 unfold XI;by_cases c:X4 n (a:Int) (b:Int)
 ·rw[Zn c,Zg (λd=>X4.irr h (c.trans d))];omega
 grind
theorem ZaW(a:Nat):WF n a<=7:=by have:=λb=>ZvL (n:=n) a b;have c:=this 0;have d:=this 1;have e:=this 2;have f:=this 3;have g:=this 4;have h:=this 5;have j:=this 6;unfold WF;omega
theorem Zv3(h:Whole n):WF n 0+WF n 1+WF n 2+WF n 3+WF n 4+WF n 5+WF n 6<=21:=by have a:=ZvK h;have i:=Znp h;have s:=i 0;have t:=i 1;have u:=i 2;have v:=i 3;have w:=i 4;have x:=i 5;have y:=i 6;have b:=a 0 1;have c:=a 0 2;have d:=a 0 3;have e:=a 0 4;have f:=a 0 5;have g:=a 0 6;have a12:=a 1 2;have j:=a 1 3;have k:=a 1 4;have l:=a 1 5;have m:=a 1 6;have a23:=a 2 3;have a24:=a 2 4;have a25:=a 2 5;have a26:=a 2 6;have o:=a 3 4;have a35:=a 3 5;have p:=a 3 6;have a45:=a 4 5;have a46:=a 4 6;have r:=a 5 6;unfold WF;omega
theorem Zdz(h:Whole n){i j:Nat}(f:j<7)(d:Zcd n (i:Int)=Ua (j:Int)):WF n j+1<=WF n i:=by
 have c:=X4.one d;have a:∀k,XI n j k<=XI n i k:=λk=>by
  unfold XI;by_cases b:X4 n (j:Int) (k:Int)
  ·rw[Zn b,Zn (c.trans b)];omega
  grind
 have b:XI n i j=1:=by unfold XI;grind
 have e:=Znp h j;have g:=a 0;have l:=a 1;have m:=a 2;have o:=a 3;have p:=a 4;have r:=a 5;have s:=a 6;unfold WF;grind
def KZ:Nat->(Nat->Nat)->Nat
 |0,_=>0
 |m+1,f=>KZ m f+f m
theorem GJ{f g:Nat->Nat}:∀{m:Nat},(∀i,i<m->f i<=g i)->KZ m f<=KZ m g
 |0,_=>Vu _
 |m+1,h=>Vid (GJ (by grind)) (by grind)
theorem R8(f g:Nat->Nat):∀m,KZ m (λi=>f i+g i)=KZ m f+KZ m g
 |0=>rfl
 |m+1=>by show KZ m _+(f m+g m)=(KZ m f+f m)+(KZ m g+g m);rw[R8 f g m];omega
theorem Zce(c:Nat)(f:Nat->Nat):∀m,KZ m (λi=>c*f i)=c*KZ m f
 |0=>rfl
 |m+1=>by show KZ m _+_=c* (KZ m f+f m);rw[Zce c f m,Nat.mul_add]
theorem Dh{f:Nat->Nat}:∀{m:Nat},(∀i,i<m->f i=0)->KZ m f=0
 |0,_=>rfl
 |m+1,h=>by show KZ m f+f m=0;rw[Dh (by grind),h m (by omega)]
theorem Zon{f:Nat->Nat}{j:Nat}:∀{m:Nat},(∀i,i<m->i≠j->f i=0)->KZ m f<=f j
 |0,_=>Vua _
 |m+1,h=>by
  show KZ m f+f m<=f j;by_cases e:m=j
  ·subst e;rw[Dh (by grind)];omega
  ·rw[h m (by omega) e];exact Zon (by grind)
theorem Zom(c:Nat):∀m,KZ m (λ_=>c)=m*c
 |0=>by simp [KZ]
 |m+1=>by show KZ m _+c=_;rw[Zom c m,Nat.succ_mul]
theorem ZfS{β:Type}(w:β->Nat)(f:Nat->List β):∀m,(((Vn m).flatMap f).map w).sum=KZ m λi=>((f i).map w).sum
 |0=>rfl
 |m+1=>by
  have e: [m].flatMap f=f m:=by simp
  rw[Vdd,Vra,Vga,Ved,ZfS w f m,e];rfl
def gW:Nat->Nat
 |0=>61
 |l+1=>61+1890*gW l
noncomputable def Zcj(n:Zc)(l i c:Nat):Nat:=gW l* (1+if c+1=(Zp n i).length then 5*WF n i else 0)
noncomputable def wr(n:Zc):Nat->Nat->Nat->Nat
 |0,_,_=>0
 |l+1,i,c=>Zcj n l i c
noncomputable def bw(n:Zc)(l i b:Nat):Nat:=KZ ((Zp n i).length - (b+1)) λk=>wr n l i (b+1+k)
noncomputable def rW(n:Zc)(l:Nat)(s:Int):Nat:=KZ n.2.2.1.length λi=>KZ (Zp n i).length λb=>if (Zf n i b).1=s then bw n l i b else 0
noncomputable def tW(n:Zc)(l:Nat):Nat:=KZ n.2.2.1.length λi=>KZ (Zp n i).length λb=>bw n l i b
theorem Zl7(l i b:Nat):KZ ((Zp n i).length - (b+1)) (λk=>Zcj n l i (b+1+k))<=gW l* ((Zp n i).length - (b+1)+5*WF n i):=by
 unfold Zcj;rw[Zce];refine Vkb _ ?_;rw[R8,Zom];refine Vid (by omega) ?_;by_cases a:(Zp n i).length - (b+1)=0
 ·rw[a];exact Vua _
 ·refine Vwa (Zon (j:=(Zp n i).length - (b+1) - 1) (by grind)) ?_;grind
theorem Zwh(l i:Nat):∀m,m<=(Zp n i).length->(Zp n i).length<=6->KZ m (λb=>KZ ((Zp n i).length - (b+1)) λk=>Zcj n l i (b+1+k))<=gW l* (15+25*WF n i):=by
 intro m h e;refine Vwa (GJ (g:=λb=>gW l* ((Zp n i).length - (b+1)+(if b+1<(Zp n i).length then 5*WF n i else 0))) λb f=>?_) ?_
 ·by_cases a:b+1<(Zp n i).length
  ·rw[Zn a];exact Zl7 l i b
  ·have:(Zp n i).length - (b+1)=0:=by omega
   rw[this];exact Vua _
 ·rw[Zce];refine Vkb _ ?_;generalize (Zp n i).length=k at*;generalize WF n i=r;have d:k=0\/k=1\/k=2\/k=3\/k=4\/k=5\/k=6:=by omega
  have c:m=0\/m=1\/m=2\/m=3\/m=4\/m=5\/m=6:=by omega
  rcases d with rfl|rfl|rfl|rfl|rfl|rfl|rfl<;>rcases c with rfl|rfl|rfl|rfl|rfl|rfl|rfl<;>simp [KZ]<;>omega
theorem ZwU{f:Nat->Nat}{m:Nat}(b:m<=7):KZ m f<=f 0+f 1+f 2+f 3+f 4+f 5+f 6:=by
 have a:m=0\/m=1\/m=2\/m=3\/m=4\/m=5\/m=6\/m=7:=by omega
 rcases a with rfl|rfl|rfl|rfl|rfl|rfl|rfl|rfl<;>simp [KZ]<;>omega
theorem ZwV(c:Whole n)(a:WW n)(l:Nat):61+3*tW n l<=gW l:=by
 cases l with
 |zero=>
  have:tW n 0=0:=by unfold tW;refine Dh λi _=>Dh λb _=>?_;unfold bw wr;exact Dh λk _=>rfl
  show 61+3*tW n 0<=61
  omega
 |succ l=>
  have e:tW n (l+1)<=gW l*630:=by unfold tW bw wr;refine Vwa (GJ (g:=λi=>gW l* (15+25*WF n i)) λi d=>Zwh l i _ (Vu _) (a.calls i d)) ?_;rw[Zce];refine Vkb _ (Vwa (ZwU a.runs) ?_);have:=Zv3 c;omega
  show 61+3*tW n (l+1)<=61+1890*gW l;omega
def Zar(P:List Kl)(s t:Int):Nat:=(P.filter λp=>Ue (p.1=s)&&Ue (p.2.1=t)).length
theorem ZoS(l:Nat)(s:Int):∀P:List Kl,((P.filter λp=>Ue (p.1=s)).map λp=>rW n l p.2.1).sum=KZ n.2.2.1.length λi=>KZ (Zp n i).length λb=>Zar P s (Zf n i b).1*bw n l i b
 |[]=>by
  symm
  exact Dh λi _=>Dh λb _=>by simp [Zar]
 |p::P=>by
  have a:=ZoS l s P;rw[List.filter_cons];by_cases h:p.1=s
  ·rw[Zn (by grind),Vy,Vnd,a];unfold rW;rw[<-R8];congr 1;funext i;rw[<-R8];congr 1;funext b;unfold Zar;grind
  ·rw[Zg (by grind),a];congr 1;funext i;congr 1;funext b;unfold Zar;grind
theorem ZrY(o:Whole n)(s t:Int):(if t=s then 1 else 0)+Zar n.2.2.2.2.1 s t<=2:=by
 obtain⟨A,r⟩:=ZiA.1 (W2.1 o.q);unfold Zar;have e:∀p∈n.2.2.2.2.1.filter (λp=>Ue (p.1=s)&&Ue (p.2.1=t)),p.1=s/\p.2.1=t:=by simp
 have d:=r.sublist (List.filter_sublist (p:=λp:Kl=>Ue (p.1=s)&&Ue (p.2.1=t)));have f:∀p∈n.2.2.2.2.1.filter (λp=>Ue (p.1=s)&&Ue (p.2.1=t)),p.1≠p.2.1:=λp d=>by exact(o.ok.path p (Vxb.1 d).1).2.2.1
 generalize n.2.2.2.2.1.filter (λp=>Ue (p.1=s)&&Ue (p.2.1=t))=F at*
 match F,e,d,f with
 |[],_,_,_=>grind
 |[a],e,_,f=>
  grind
 |[a,b],e,_,f=>
  grind
 |a::b::c::F,e,d,_=>
  exfalso;have k:=e a (by simp);have l:=e b (by simp);have m:=e c (by simp);rw[Vmc]at d;have g:=d.1 b (by simp);have h:=d.1 c (by simp);have j:=(Vmc.1 d.2).1 c (by simp);unfold JT at g h j;rw[k.1,k.2,l.1,l.2]at g;rw[k.1,k.2,m.1,m.2]at h;rw[l.1,l.2,m.1,m.2]at j;have u:a.2.2.2.1≠b.2.2.2.1:=by grind
  have v:a.2.2.2.1≠c.2.2.2.1:=by grind
  have w:b.2.2.2.1≠c.2.2.2.1:=by grind
  exact(show∀x y z:Bool,x≠y->x≠z->y≠z->False by decide) _ _ _ u v w
theorem ZmA(c:Whole n)(a:WW n)(l:Nat)(s:Int):1+2*rW n l s+((n.2.2.2.2.1.filter λp=>Ue (p.1=s)).map λp=>1+rW n l p.2.1).sum<=gW l:=by
 have d:∀P:List Kl,(P.map λp=>1+rW n l p.2.1).sum=P.length+(P.map λp=>rW n l p.2.1).sum:=by
  intro P
  induction P with
  |nil=>rfl
  |cons p P h=>grind
 rw[d,ZoS];have f:(n.2.2.2.2.1.filter λp=>Ue (p.1=s)).length<=60:=Vwa (Vka _ _) a.paths;have key:rW n l s+(KZ n.2.2.1.length λi=>KZ (Zp n i).length λb=>Zar n.2.2.2.2.1 s (Zf n i b).1*bw n l i b)<=2*tW n l:=by
  unfold rW tW;rw[<-R8,<-Zce];refine GJ λi _=>?_;rw[<-R8,<-Zce];refine GJ λb _=>?_;have:=ZrY c s (Zf n i b).1;have e:(if (Zf n i b).1=s then bw n l i b else 0)=(if (Zf n i b).1=s then 1 else 0) *bw n l i b:=by grind
  rw[e,<-Nat.add_mul];exact Nat.mul_le_mul_right _ this
 have g:rW n l s<=tW n l:=by
  unfold rW tW;refine GJ λi _=>GJ λb _=>?_;split
  ·exact Vu _
  ·exact Vua _
 have:=ZwV c a l;omega
end Q
namespace Q
open Tr Go
variable {F:ZR}{hF:FO F}{n:Zc}{q:Zl}
theorem ZfT{α β:Type}(w:β->Nat)(f:α->List β):∀l:List α,((l.flatMap f).map w).sum=(l.map λx=>((f x).map w).sum).sum
 |[]=>rfl
 |x::l=>by rw[List.flatMap_cons,Vga,Ved,ZfT w f l];rfl
def K8(q:Zl)(l:Zx):Nat:=(q.2.2.2.2.1 - l.2.2.1).toNat
noncomputable def hL(n:Zc)(q:Zl)(l:Zx):Nat:=20*K8 q l+(if l.1.1=1 then 10+WF n l.1.2.2.1.toNat else if l.1.1=2 then 5 else 19)
theorem ZwM(h:Whole n){a c:Nat}(f:a<n.2.2.2.1.length)(j:c<n.2.2.2.1.length)(k:(n.2.2.2.1[a]).2.2.2.2.1=Uc)(l:(n.2.2.2.1[c]).2.2.2.2.1=Uc)(e:(n.2.2.2.1[a]).1=(n.2.2.2.1[c]).1):a=c:=by
 have g:∀b (m:b<n.2.2.2.1.length),lk n b=n.2.2.2.1[b]:=λb m=>by unfold lk;rw[Ks m]
 rcases Vsc a c with d|rfl|d
 ·have:=(ZaK (W2.1 h.g c j)).2.2 (by rw[g c j];exact l);exact absurd ⟨a,d,by rw[g a f];exact k,.inl (by rw[g a f,g c j];exact e)⟩ this.1
 ·rfl
 ·have:=(ZaK (W2.1 h.g a f)).2.2 (by rw[g a f];exact k);exact absurd ⟨c,d,by rw[g c j];exact l,.inl (by rw[g a f,g c j];exact e.symm)⟩ this.1
theorem ZlA(l:Zx)(i b c:Nat)(st:Bool)(v:ZF):hL n q (ZH n l i b c st v)=20*K8 q l+(10+WF n i):=by unfold hL ZH K8;simp only[if_true,Vi]
theorem ZgV{l:Zx}(f:l.2.2.1<=q.2.2.2.2.1){fr:Int}{x:Zx}(b:x∈Zal n q l fr):hL n q x+3<=20*K8 q l/\x.2.2.2.2.2.1.length=l.2.2.2.2.2.1.length+1:=by
 obtain⟨i,c,d,_,_,_,_,a,_,rfl⟩:=Hr.1 b;rw[ZlA];have:=ZaW (n:=n) i;have e:K8 q l=K8 q (Yq n l i c)+1:=by unfold K8 Yq;simp only;omega
 refine⟨by omega,?_⟩;show (WP _ _++[_]).length=_;rw[Vl,ZjR];rfl
theorem ZoQ{l:Zx}{x:Zx}(a:x∈Zcl n q l):hL n q x=20*K8 q l+5/\x.2.2.2.2.2.1.length=l.2.2.2.2.2.1.length+1:=by obtain⟨p,_,_,rfl⟩:=HU.1 a;exact⟨rfl,by show (_++[_]).length=_;simp⟩
theorem ZoO(h:Whole n)(B:WW n){l:Zx}(u:LV F hF n q l){x:Zx}(a:x∈DQ n q l):hL n q x<hL n q l/\x.2.2.2.2.2.1.length=l.2.2.2.2.2.1.length+1:=by
 have f:=u.rides.2;unfold DQ at a;by_cases e:l.1.1=1
 ·rw[Zn e]at a;obtain⟨i,c,z,D,H,E,_⟩:=u.kind e;have m:hL n q l=20*K8 q l+(10+WF n i):=by unfold hL;rw[Zn e,z,Vi]
  have s:K8 q (XX l)=K8 q l:=rfl;rcases Vj.1 a with a|a
  ·obtain⟨k,t,⟨p,v,_⟩,d,_,G,_,rfl⟩:=G3.1 a;obtain⟨r,y,j,w,J,C,f,I,_⟩:=h.ok.link _ t;subst C;simp only at p v;subst p;have A:r=i:=by omega
   subst A;have b:isLink n r y j w true:=t;have o:j<7:=by have:=B.runs;omega
   have:=Zdz h o (ZdF h b);rw[ZlA,m];simp only[Vi];exact⟨by omega,by show (_++[_]).length=_;simp⟩
  ·split at a
   ·rcases Vj.1 a with a|a
    ·have:=ZgV (n:=n) (q:=q) (l:=XX l) f a;rw[s]at this;exact⟨by omega,this.2⟩
    ·have:=ZoQ (n:=n) (q:=q) (l:=XX l) a;rw[s]at this;exact⟨by omega,this.2⟩
   ·simp at a
 ·rw[Zg e]at a;by_cases g:l.1.1=2
  ·rw[Zn g]at a;have:=ZgV f a;have m:hL n q l=20*K8 q l+5:=by unfold hL;rw[Zg e,Zn g]
   exact⟨by omega,this.2⟩
  ·rw[Zg g]at a;have m:hL n q l=20*K8 q l+19:=by unfold hL;rw[Zg e,Zg g]
   rcases Vj.1 a with a|a
   ·have:=ZgV f a;exact⟨by omega,this.2⟩
   ·have:=ZoQ a;exact⟨by omega,this.2⟩
end Q
namespace Q
open Tr Go
variable {F:ZR}{hF:FO F}{n:Zc}{q:Zl}
open Classical in
noncomputable def Zq(l:Zx):Zx:=if l.1.1=1 then XX l else l
noncomputable def XC(n:Zc)(q:Zl)(l:Zx):Int:=if l.1.1=1 then l.2.1+HL n l.1.2.1 else if l.1.1=2 then l.2.1 else l.2.1+(if q.2.2.2.2.2.2.2.2.2.1=Uc then HL n l.1.2.1 else 0)
theorem XF{l x:Zx}:x∈DQ n q l↔(l.1.1=1/\x∈ZfQ n l)\/((l.1.1=1->Jh n l=Uc)/\x∈Zal n q (Zq l) (XC n q l))\/((l.1.1=1->Jh n l=Uc)/\l.1.1≠2/\x∈Zcl n q (Zq l)):=by unfold DQ Zq XC;grind
theorem Gt(l:Zx):(Zq l).1=l.1/\(Zq l).2.1=l.2.1/\(Zq l).2.2.1=l.2.2.1/\(Zq l).2.2.2.1=l.2.2.2.1/\(Zq l).2.2.2.2.2.1=l.2.2.2.2.2.1:=by
 unfold Zq;split<;>exact⟨rfl,rfl,rfl,rfl,rfl⟩
def ZbP(rode:Bool):List Zw->Bool
 |[]=>rode
 |x::l=>ZbP x.1 l
theorem Zl2(rode:Bool)(L:List Zw)(x:Zw):ZbP rode (L++[x])=x.1:=by
 induction L generalizing rode with
 |nil=>rfl
 |cons y L a=>exact a _
theorem Zdx{n:Zc}{x:Zw}:∀{L:List Zw}{rode:Bool}{out o:List ZF},Wg n L rode out=(o,0)->Wg n (L++[x]) rode out=Wg n [x] (ZbP rode L) o
 |[],rode,out,o,h=>by
  have:out=o:=(Prod.mk.inj h).1
  subst this;rfl
 |y::L,rode,out,o,h=>by
  rw[Vqa,GG];rw[GG]at h;by_cases a:y.1=Uc/\KL n y=Ud
  ·grind
  rw[Zg a]at h⊢;by_cases b:KM y=Uc/\(y.1=Ud\/rode=Ud)
  ·grind
  rw[Zg b]at h⊢;by_cases c3:y.1=Uc
  ·rw[Zn c3]at h⊢;rw[Zdx h];show _=Wg n [x] (ZbP y.1 L) o;grind
  ·rw[Zg c3]at h⊢;rw[Zdx h];show _=Wg n [x] (ZbP y.1 L) o;grind
theorem ZtC(s t a b:Int)(rode:Bool)(out:List ZF):Wg n [KA s t a b] rode out=(out,0):=by rfl
theorem Zid{i b c:Nat}(st:Bool)(f:i<n.2.2.1.length)(d:b<c)(e:c<(Zp n i).length):KL n (ZM n i b c st)=true:=by
 unfold KL;have a:Kc (ZM n i b c st).2.1 n.2.2.1.length=true:=by show Kc (i:Int) _=Uc;unfold Kc;grind
 rw[a];show (Uc&&(Ue (0<=(b:Int))&&(Ue ((b:Int)<(c:Int))&&Ue ((c:Int)<((Zp n i).length:Int)))))=Uc;grind
theorem ZtA(a:WV n){i b c:Nat}(j:i<n.2.2.1.length)(g:b<c)(h:c<(Zp n i).length)(rode:Bool)(out:List ZF):Wg n [ZM n i b c Ud] rode out=(out++[Jw n (Jr (Zf n i b).2.2.1) (ZM n i b c Ud)],0):=by
 have d:=Zid (n:=n) Ud j g h;rw[GG,Zg (by grind),Zg (by simp [ZM,KM]),Zn (by rfl),Zg (by simp [ZM,KM])];show (out++[HV n (ZM n i b c Ud)],(0:Int))=_;have e:HV n (ZM n i b c Ud)=Jw n (Jr (Zf n i b).2.2.1) (ZM n i b c Ud):=by obtain⟨_,_,k,f⟩:=Zb6 a d;unfold HV Jw Jr;have z:(0:Int)=((0:Nat):Int):=rfl;simp only;rw[z,G7 (by omega) (ZdO a d),G7 (by omega) (HZ f),Vcb,Vcb];rfl
 rw[e]
theorem ZtB{i b c:Nat}(g:i<n.2.2.1.length)(d:b<c)(f:c<(Zp n i).length)(out:List ZF)(v:ZF):Wg n [ZM n i b c Uc] Uc (out++[v])=(out++[Jw n v (ZM n i b c Uc)],0):=by
 have k:=Zid (n:=n) Uc g d f;rw[GG,Zg (by grind),Zg (by simp [ZM]),Zn (by rfl),Zn (by rfl)];show (Ya n _ _,(0:Int))=_;have e:Ya n (ZM n i b c Uc) (out++[v])=out++[Jw n v (ZM n i b c Uc)]:=by
  have j:(out++[v])[(out++[v]).length - 1]? =Ua v:=by simp
  have a:Ya n (ZM n i b c Uc) (out++[v])=GP n (ZM n i b c Uc) (out++[v]) v:=by unfold Ya;simp
  rw[a];unfold GP;have h:(out++[v]).length - 1=out.length:=by simp
  rw[h,Vab _ _ (Vu _),Nat.sub_self];rfl
 rw[e]
theorem Zb4(a:WO n){i b c:Nat}(st:Bool)(e:i<n.2.2.1.length)(j:b<c)(d:c<(Zp n i).length){v:ZF}(f:Small v)(k:Jc v.1):JC (Jw n v (ZM n i b c st)):=by have g:=Zid (n:=n) st e j d;obtain⟨_,_,l,h⟩:=Zb6 a.sound g;have p:=ZdO a.sound g;have m:=HZ h;have o:=a.time e d;exact⟨⟨ZfB f.1 (by omega),ZfB f.2 (by grind)⟩,k,by show 0<=(Zf n i c).2.1;omega,by show (Zf n i c).2.1<=_;omega⟩
structure LI (F:ZR) (hF:FO F) (n:Zc) (q:Zl) (l:Zx):Prop where
 val:LV F hF n q l
 cnt:((Z7 l.2.2.2.2.1).length:Int)+(if l.1.1=1 then 1 else 0)=l.2.2.1
 ht:l.2.2.2.2.2.1.length+hL n q l<=79
 zero:l.1.1=0->l.2.2.2.2.2.1=[]/\l.2.2.1=0/\l.2.2.2.1=0/\l.2.1=q.2.2.1
 kinds:l.1.1=0\/l.1.1=1\/l.1.1=2
 rgo:Wg n l.2.2.2.2.2.1 Ud []=(Z7 l.2.2.2.2.1++(if l.1.1=1 then [l.1.2.2.2.2.1] else []),0)
 rode:ZbP Ud l.2.2.2.2.2.1=Ue (l.1.1=1)
 wlk:WI l.2.2.2.2.2.1=l.2.2.2.1
 lok:∀x∈l.2.2.2.2.2.1,Zad x
 last:∀L x,l.2.2.2.2.2.1=L++[x]->x.2.2.2.2.2.2.2.1=l.2.1
 some:l.1.1≠0->l.2.2.2.2.2.1≠ []
 adj:∀x,l.2.2.2.2.2.1=[x]->x.1=Ud->x.2.2.2.2.2.2.1<=x.2.2.2.2.2.2.2.1/\x.2.2.2.2.2.2.2.1<=x.2.2.2.2.2.2.1+14400/\KM x=Ud
theorem Zev(h:QI q){l:Zx}(a:LI F hF n q l):LV F hF n q (Zq l)/\Wg n l.2.2.2.2.2.1 Ud []=(Z7 (Zq l).2.2.2.2.1,0)/\((Z7 (Zq l).2.2.2.2.1).length:Int)=l.2.2.1:=by
 have m:=a.val.rides;have k:=h.rides;have f:=a.cnt;have b:=a.rgo;unfold Zq;by_cases c:l.1.1=1
 ·rw[Zn c]at f b⊢;have d:(Z7 l.2.2.2.2.1).length+1<=8:=by omega
  have j:=a.val.next c d
  obtain⟨_,g,_⟩:=ZiL a.val c d;have e:Z7 (XX l).2.2.2.2.1=Z7 l.2.2.2.2.1++[l.1.2.2.2.2.1]:=Hu g;grind
 ·rw[Zg c]at f b⊢;rw[Vva]at b;exact⟨a.val,b,by omega⟩
theorem Ztz(L:List Zw)(d:Int)(rode:Bool)(out:List ZF)(h:∀x,L=[x]->x.1=Ud->KM x=Ud):Wg n (WP L d) rode out=Wg n L rode out:=by
 match L with
 |[]=>rfl
 |[x]=>
  cases a:x.1 with
  |true=>rw[Zbe a]
  |false=>
   have b:=h x rfl a;rw[RE a,GG,GG]
   grind
 |x::y::L=>rfl
theorem Zma(r:Whole n)(w:WW n){l x:Zx}(m:LI F hF n q l)(G:x∈DQ n q l){p:Zx}{i b c:Nat}{st:Bool}{v:ZF}(g:i<n.2.2.1.length)(z:b<c)(f:c<(Zp n i).length)
 (ex:x=ZH n p i b c st v) (C:Zgp F hF p) (D:0<=p.2.2.1/\p.2.2.1<=q.2.2.2.2.1) (e:((Z7 p.2.2.2.2.1).length:Int)+1=p.2.2.1) (u:p.2.2.2.1=l.2.2.2.1) (o:WI p.2.2.2.2.2.1=l.2.2.2.1)
 (k:Wg n (p.2.2.2.2.2.1++[ZM n i b c st]) Ud []=(Z7 p.2.2.2.2.1++[Jw n v (ZM n i b c st)],0)) (t:∀y∈p.2.2.2.2.2.1,Zad y) (E:Small v) (A:Jc v.1):LI F hF n q x:=by
 have j:=r.ok;obtain⟨H,I⟩:=ZoO r w m.val G;have B:=m.ht;have J:=j.time g f;subst ex;have s:(ZH n p i b c st v).2.2.2.2.2.1.length<=79:=by omega
 refine⟨⟨C,by omega,D,by show 0<=p.2.2.2.1/\p.2.2.2.1<=_;rw[u];exact m.val.walk,⟨by show 0<=(Zf n i c).2.1;omega,by show (Zf n i c).2.1<=_;omega⟩,j.stop g f,λ_=>⟨i,c,rfl,rfl,g,f,rfl,rfl,Zb4 j st g z f E A⟩,?_⟩,e,by omega,λh=>absurd h (by show¬(1:Int)=0;decide),.inr (.inl rfl),k,?_,?_,?_,?_,by grind,?_⟩
 ·intro y a d;have:=Vja.1 (by assumption);rcases this with ⟨_,h⟩|⟨_,h⟩
  ·have:y=ZM n i b c st:=(Vnb.1 h).symm;subst this;cases d
  grind
 ·exact Zl2 _ _ _
 ·show WI (p.2.2.2.2.2.1++[ZM n i b c st])=p.2.2.2.1;rw[ZdH,o,u];have:WI [ZM n i b c st]=0:=by rfl
  omega
 ·intro y a;rcases Vj.1 (by assumption) with a|a
  ·grind
  ·rw[Vq]at a;subst a;show (Zf n i c).2.1<=_;omega
 ·intro L y a;have:=Vbc (show p.2.2.2.2.2.1++[ZM n i b c st]=L++[y] from a) rfl;have:y=ZM n i b c st:=by grind
  subst this;rfl
 ·intro y a d;rcases Vja.1 (by assumption) with ⟨_,h⟩|⟨_,h⟩
  ·have:y=ZM n i b c st:=(Vnb.1 h).symm;subst this;cases d
  grind
theorem Ztt(b:WO n){l:Zx}(a:LV F hF n q l):l.2.1<=XC n q l:=by have:=b.change _ a.stop.1 a.stop.2;unfold XC HL;omega
theorem Zks(b:WO n){l:Zx}(d:LV F hF n q l){i c:Nat}(h:RN n (Zq l) (XC n q l) i c):l.2.1<=(Zf n i c).2.2.1:=by
 have e:=Ztt b d;have f:=(Gt l).2.1;rcases h.2.2.2.2 with a|a
 all_goals omega
theorem Zui(D:Whole n)(H:WW n)(Z:QI q){l x:Zx}(b:LI F hF n q l)(G:x∈DQ n q l):LI F hF n q x:=by
 have s:=D.ok;obtain⟨P,W,c3⟩:=Zev Z b;obtain⟨s1,s2,V,O,s5⟩:=Gt l;rcases XF.1 G with ⟨N,hs⟩|⟨_,hb⟩|⟨_,k2,hw⟩
 ·obtain⟨k,hk,⟨_,_,_,a0,C⟩,d,Q,A,_,ex⟩:=G3.1 hs;obtain⟨r,d0,j,d',sy,he,hr,T,_⟩:=s.link _ hk;subst he;simp only[Vi]at*;obtain⟨_,_,_,_,_,_,_,_,o⟩:=b.val.kind N;have E:=b.rgo;have B:=b.rode;have v:=b.cnt;rw[Zn N]at E v;rw[Zi N]at B;refine Zma D H b G T Q A ex b.val.fare b.val.rides v rfl b.wlk ?_ b.lok o.1 o.2.1;rw[Zdx E,B];exact ZtB T Q A _ _
 ·obtain⟨i,c,d,I,u,A,t,J,_,ex⟩:=Hr.1 hb;have C:=Zks s b.val t;have hc:c<(Zp n i).length:=by omega
  have ht:=s.time I hc;rw[V]at J;have a5:=b.val.rides;have f:(Yq n (Zq l) i c).2.2.2.2.2.1=WP l.2.2.2.2.2.1 (Zf n i c).2.2.1:=by show WP (Zq l).2.2.2.2.2.1 _=_;grind
  have M:∀y,l.2.2.2.2.2.1=[y]->y.1=Ud->KM y=false:=λy R S=>(b.adj y R S).2.2;refine Zma (p:=Yq n (Zq l) i c) D H b G I u A ex P.fare ⟨?_,?_⟩ ?_ O ?_ ?_ ?_ (ZbS _) ⟨by show 0<=(Zf n i c).2.2.1;omega,by show (Zf n i c).2.2.1<=_;omega⟩
  ·show 0<=(Zq l).2.2.1+1;omega
  ·show (Zq l).2.2.1+1<=_;omega
  ·show ((Z7 (Zq l).2.2.2.2.1).length:Int)+1=(Zq l).2.2.1+1;omega
  ·rw[f,<-b.wlk]
   match hL:l.2.2.2.2.2.1 with
   |[]=>rfl
   |[y]=>
    cases a:y.1 with
    |true=>rw[Zbe a]
    |false=>
     obtain⟨a1,a2,a3⟩:=b.adj y hL a;obtain⟨X,f2⟩:=b.val.first y hL a
     rw[RE a];unfold WI DR;simp only[Vy,Vqd,Vnd,List.sum_nil,a];have Y:0<=y.2.2.2.2.2.2.1:=X.1
     grind
   |y::z::L=>rfl
  ·rw[f];have E:Wg n (WP l.2.2.2.2.2.1 (Zf n i c).2.2.1) Ud []=(Z7 (Zq l).2.2.2.2.1,0):=by rw[Ztz _ _ _ _ M];omega
   rw[Zdx E];exact ZtA s.sound I u A _ _
  ·rw[f];intro y a
   match hL:l.2.2.2.2.2.1 with
   |[]=>rw[hL]at a;cases a
   |[z]=>
    rw[hL]at a
    cases U:z.1 with
    |true=>
     rw[Zbe U,Vq]at a;subst a
     exact b.lok _ (by grind)
    |false=>
     rw[RE U,Vq]at a;subst a;show (Zf n i c).2.2.1<=_
     omega
   |z::w::L=>
    rw[hL]at a;exact b.lok _ (by rw[hL];assumption)
 ·obtain⟨p,hp,⟨w1,w2,w3⟩,ex⟩:=HU.1 hw;rw[O]at w2;rw[s2]at w3;rw[s1]at w1;obtain⟨R,S⟩:=ZoO D H b.val G;have a4:=b.ht;have K:=s.path p hp;have C:=b.val.time;have a6:=b.val.walk;subst ex;have e:(Xc (Zq l) p).2.2.2.2.2.1=l.2.2.2.2.2.1++[KA l.1.2.1 p.2.1 l.2.1 (l.2.1+p.2.2.1)]:=by show (Zq l).2.2.2.2.2.1++[KA (Zq l).1.2.1 p.2.1 (Zq l).2.1 ((Zq l).2.1+p.2.2.1)]=_;grind
  have m:(Xc (Zq l) p).2.1=l.2.1+p.2.2.1:=by show (Zq l).2.1+_=_;omega
  have g:∀y,(Xc (Zq l) p).2.2.2.2.2.1=[y]->y=KA l.1.2.1 p.2.1 l.2.1 (l.2.1+p.2.2.1):=by grind
  refine⟨⟨P.fare,by omega,?_,?_,?_,K.2.1,λh=>absurd h (by show¬(2:Int)=1;decide),?_⟩,?_,by omega,λh=>absurd h (by show¬(2:Int)=0;decide),.inr (.inr rfl),?_,?_,?_,?_,?_,by grind,?_⟩
  ·show 0<=(Zq l).2.2.1/\(Zq l).2.2.1<=_;rw[V];exact b.val.rides
  ·show 0<=(Zq l).2.2.2.1+p.2.2.1/\(Zq l).2.2.2.1+p.2.2.1<=_;omega
  ·omega
  ·intro y a _;rw[g y a,m];exact⟨⟨by show 0<=l.2.1;omega,by show l.2.1<=_;omega⟩,rfl⟩
  ·show ((Z7 (Zq l).2.2.2.2.1).length:Int)+(if (2:Int)=1 then 1 else 0)=(Zq l).2.2.1;omega
  ·rw[e,Zdx W,ZtC];show _=(Z7 (Zq l).2.2.2.2.1++(if (2:Int)=1 then _ else []),(0:Int));simp
  ·rw[e,Zl2];rfl
  ·rw[e,ZdH,b.wlk];show _=(Zq l).2.2.2.1+p.2.2.1;rw[O];have:WI [KA l.1.2.1 p.2.1 l.2.1 (l.2.1+p.2.2.1)]=p.2.2.1:=by unfold WI DR KA;grind
   omega
  ·rw[e];intro y a;rcases Vj.1 a with a|a
   ·exact b.lok y a
   ·rw[Vq]at a;subst a;show l.2.1+p.2.2.1<=_;omega
  ·intro L y a;rw[e]at a;have:=Vbc a rfl;have:y=KA l.1.2.1 p.2.1 l.2.1 (l.2.1+p.2.2.1):=by grind
   subst this;rw[m];rfl
  ·intro y a _;rw[g y a];exact⟨by show l.2.1<=l.2.1+p.2.2.1;omega,by show l.2.1+p.2.2.1<=l.2.1+14400;omega,rfl⟩
end Q
namespace Q
open Tr Go
variable {F:ZR}{hF:FO F}{n:Zc}{q:Zl}
end Q
namespace Q
open Tr Go
variable {F:ZR}{hF:FO F}{n:Zc}{q:Zl}
inductive Rc (n:Zc) (q:Zl) (s0:Zx):Zx->Prop
 |start:Rc n q s0 s0
 |step {l x:Zx} (h:Rc n q s0 l) (hx:x∈DQ n q l):Rc n q s0 x
theorem Rc.li(d:Whole n)(c:WW n)(b:QI q){s0 l:Zx}(a:LI F hF n q s0)(h:Rc n q s0 l):LI F hF n q l:=by
 induction h with
 |start=>exact a
 |step _ e f=>exact Zui d c b f e
end Q
namespace Q
open Tr Go
def le4(a b:List Int):Prop:= ∀i,i<4->(a[i]?).getD 0<=(b[i]?).getD 0
instance (a b:List Int):Decidable (le4 a b):=by unfold le4;infer_instance
end Q
namespace Q
open Tr Go
variable {n:Zc}{q:Zl}
theorem Zv0{i:Nat}(a:i<n.2.2.1.length):rn (Kr n q) (i:Int)=Xz n q (rn n (i:Int)):=by unfold rn;show ((n.2.2.1.map (Xz n q))[(i:Int).toNat]?).getD u0=_;rw[Vi,Vla,Ve a];rfl
theorem ZqV{i:Nat}(a:i<n.2.2.1.length):Zp (Kr n q) i=(Zp n i).map (Jj n q):=by unfold Zp;rw[Zv0 a];rfl
theorem Zw2(h:WW n):WW (Kr n q):=by
 have b:(Kr n q).2.2.1.length=n.2.2.1.length:=Vo ..;refine⟨h.stops,by rw[b];exact h.runs,?_,λi a=>?_⟩
 ·show (HX n q).length<=60;unfold HX;split
  ·exact Vwa (Vka _ _) h.paths
  ·exact h.paths
 ·rw[b]at a;rw[ZqV a,Vo];exact h.calls i a
def st0(F:ZR):WJ:=[(Ua F,(0,0,0,0,()),0,[0,0,0,0,0,0,0,0,0],())]
def KC(n:Zc)(q:Zl):Zx:=((0,q.1,0,0,(0,0,0,0,()),()),q.2.2.1,0,0,st0 n.2.2.2.2.2.1,[],())
theorem Zoh{F:ZR}(hF:FO F):JJ F hF [] (st0 F):=by
 refine .start ⟨rfl,λi a=>?_⟩;have:i=0:=by simpa using a
 subst this;exact⟨0,rfl,by omega,λ_=>.nil,λ_=>Vdc _⟩
theorem ZtX(c:qB n.1.length q=Uc)(j:q.2.2.2.2.1<=3){hF:FO n.2.2.2.2.2.1}:LI n.2.2.2.2.2.1 hF n q (KC n q):=by unfold qB at c;simp only[Vb,Kx]at c;obtain⟨b,_,d,e,f,_⟩:=c;unfold Kc at b;rw[Vb,Kx,Kx]at b;refine⟨⟨⟨Zoh hF,λv g=>absurd g (by show¬v∈([]:List ZF);simp)⟩,by show ([]:List Zw).length<=80;simp,⟨Vdc 0,e.1⟩,⟨Vdc 0,f.1⟩,d,b,λh=>absurd h (by show¬(0:Int)=1;decide),λx a=>absurd a (by show¬ []=[x];simp)⟩,rfl,?_,λ_=>⟨rfl,rfl,rfl,rfl⟩,.inl rfl,rfl,rfl,rfl,λx a=>absurd a (by show¬x∈([]:List Zw);simp),λL x a=>absurd a (by show¬ []=L++[x];simp),λh=>absurd rfl h,λx a=>absurd a (by show¬ []=[x];simp)⟩;show 0+hL n q (KC n q)<=79;have:hL n q (KC n q)=20* (q.2.2.2.2.1 - 0).toNat+19:=rfl;omega
theorem Zl9{F:ZR}{hF:FO F}{l:Zx}(b:LI F hF n q l):((l.2.2.2.2.2.1[l.2.2.2.2.2.1.length - 1]?).map λx=>x.2.2.2.2.2.2.2.1).getD q.2.2.1=l.2.1:=by
 by_cases h:l.2.2.2.2.2.1=[]
 ·have a:l.1.1=0:=by
   by_cases a:l.1.1=0
   ·exact a
   ·exact absurd h (b.some a)
  rw[h];exact(b.zero a).2.2.2.symm
 ·have e:=List.dropLast_concat_getLast h;have:=b.last _ _ e.symm;rw[List.getLast_eq_getElem]at this;rw[Ve (by have:=List.length_pos_iff.2 h;omega)];exact this
open Classical in
theorem Zuh(f:HB n)(b:Whole n)(e:QI q){l:Zx}(a:LI n.2.2.2.2.2.1 (Hm b.sound.fare) n q l):
 (∃s t,t.length<=8/\F52 n q (l.2.2.2.2.2.1,())=Ua ((((l.2.2.2.2.2.1[0]?).map λx=>x.2.2.2.2.2.2.1).getD q.2.2.1,l.2.1,l.2.2.1,s,l.2.2.2.1,()),t,0))\/
 (¬Dm.LS (Gz n.2.2.2.2.2.1 (Hm b.sound.fare).fareOk) n.2.2.2.2.2.1.1.length ((Z7 (Zq l).2.2.2.2.1).map K0)/\∃c,F52 n q (l.2.2.2.2.2.1,())=Ua (c,[],34)):=by
 obtain⟨g,h,c3⟩:=Zev e a;have p:=a.val.rides;have o:=e.rides;have m:F123 n=Ua true:=by rw[ZdG f,Zi b]
 have:=ZtP f b.sound m q (L:=l.2.2.2.2.2.1) (by have:=a.val.len;omega) a.lok h (by omega);rw[Zl9 a,c3,a.wlk]at this;refine this.imp_right λ⟨j,k⟩=>⟨λd=>?_,k⟩;obtain⟨s,d⟩:=Zus b.sound.fare g.fare.2 (by omega) d 0 (Vua _) rfl;exact j s d
end Q
namespace Q
open Tr Go
variable {n:Zc}{q:Zl}
theorem Zb5(a b:List Zw):KE (a++b)=KE a+KE b:=by simp [KE]
theorem ZiN(s t a b:Int):KE [KA s t a b]=0:=rfl
theorem Zdy(n:Zc)(i b c:Nat)(st:Bool):KE [ZM n i b c st]=if st then 0 else 1:=by cases st<;>rfl
theorem Zih{L:List Zw}{i:Nat}(h:i<L.length):lg L i=L[i]:=by unfold lg;grind
theorem ZnB{L:List Zw}{i:Nat}(h:i<L.length):KE (L.take (i+1))=KE (L.take i)+KE [lg L i]:=by rw[Vd h,Zb5,Zih h]
theorem Zmd{n:Zc}{q:Zl}{L:List Zw}{i:Nat}:DH n q L (i+1)=Yv n (lg L i) (lg L (i+1)):=by rfl
theorem Zxk(L:List Zw):0<=WI L:=(Zjf L).1
theorem ZoP(L:List Zw)(i:Nat):WI (L.take i)<=WI L:=by have:=ZdH (L.take i) (L.drop i);rw[Vma]at this;have:=Zxk (L.drop i);omega
theorem ZnA(L:List Zw)(i:Nat):KE (L.take i)<=KE L:=by have:=Zb5 (L.take i) (L.drop i);simp_all
theorem ZfX{L:List Zw}{i:Nat}(h:i<L.length):L.take (i+1)=L.take i++[lg L i]:=by rw[Vd h,Zih h]
theorem Zpy{L:List Zw}(h:∀x,L=[x]->x.1=Uc)(d:Int):WP L d=L:=by
 by_cases a:L.length=1
 ·obtain⟨x,rfl⟩:=Vcc.1 a;exact Zbe (h x rfl) d
 ·exact ZjS a d
theorem ZmR(h:WO n){L:List Zw}(u:∀i,i<L.length->J5 n (ZG q) L i=0){i:Nat}(y:i<L.length){r b c:Nat}{st:Bool}(e:lg L i=ZM n r b c st):HW n r c=true:=by
 unfold HW;rw[Vfd];obtain⟨_,_,x⟩:=Gp.1 (u i y)
 cases m:H7 L i with
 |true=>
  have:=x m;rw[e]at this
  exact .inl (ZgL.1 this)
 |false=>
  right;unfold H7 at m;rw[e]at m;have f:(Ue (i+1=L.length) || !KM (lg L (i+1)))=false:=by assumption
  rw[Vt,decide_eq_false_iff_not,Vk]at f;have k:i+1<L.length:=by omega
  obtain⟨t,g,_⟩:=Gp.1 (u (i+1) k);rw[Zmd,e]at g
  cases v:(lg L (i+1)).1 with
  |false=>
   obtain⟨p,_,a,w,_⟩:=(Zif h).1 ⟨t,v⟩;have:=f.2;rw[w]at this
   cases this
  |true=>
   obtain⟨j,d,A,o,s,_⟩:=(Zie h).1 ⟨t,v⟩;have:=f.2;rw[s]at this;have l:o=true:=this;subst l;rw[s]at g;obtain⟨_,z,_⟩:=(Zlw h).1 g;exact Vv.2 ⟨_,z,by simp⟩
def Zct(n:Zc)(q:Zl)(L:List Zw)(i:Nat):Prop:= ∃l,Rc n (ZG q) (KC n (ZG q)) l/\l.2.2.1=(KE (L.take (i+1)):Int)/\
 ((∃r b c st,lg L i=ZM n r b c st/\ZjA n r b c st/\l.1.1=1/\l.1.2.2.1=(r:Int)/\l.1.2.2.2.1=(c:Int)/\l.2.2.2.2.2.1=L.take (i+1))\/
  (∃p∈n.2.2.2.2.1,∃a,lg L i=KA p.1 p.2.1 a (a+p.2.2.1)/\l.1.1=2/\l.1.2.1=p.2.1/\l.2.1<=a+p.2.2.1/\((0<i/\l.2.2.2.2.2.1=L.take (i+1))\/(i=0/\∃T,l.2.2.2.2.2.1=[KA p.1 p.2.1 T (T+p.2.2.1)]/\(L.length=1->T=a)))))
theorem Zvm(V:Whole n)(W:q.2.2.2.1=Ud){hF:FO n.2.2.2.2.2.1}(J:LI n.2.2.2.2.2.1 hF n (ZG q) (KC n (ZG q))){L:List Zw}(hL:0<L.length)(M:∀i,i<L.length->J5 n (ZG q) L i=0)(hr:(KE L:Int)<=q.2.2.2.2.1)(hw:WI L<=q.2.2.2.2.2.1):Zct n q L 0:=by
 have h:=V.ok;obtain⟨K,U,h3⟩:=Gp.1 (M 0 hL);have x:DC n (ZG q) L=0:=U;obtain⟨o,G,f3,u,l,r⟩:=ZcY.1 x;have H:(ZG q).1=q.1:=rfl;have I:(ZG q).2.2.1=q.2.2.1:=rfl;have S:(ZG q).2.2.2.1=q.2.2.2.1:=rfl;have T:(ZG q).2.2.2.2.2.2.2.2.2.1=q.2.2.2.2.2.2.2.2.2.1:=rfl;rw[H]at o;rw[S,W,I]at u l;rw[T,I,H]at r;have f:=J.val.stop;have a2:0<=q.2.2.1/\q.2.2.1<=3155932800:=J.val.time;have A:=h.change _ f.1 f.2;have N:0<=(WN n q.1).2.2.2.1/\(WN n q.1).2.2.2.1<=3600:=A;have g:=ZfX hL;have s:KE (L.take 0)=0:=by rfl
 have m:=ZnB hL
 cases Q:(lg L 0).1 with
 |true=>
  obtain⟨i,b,c,st,e,O⟩:=(Zie h).1 ⟨K,Q⟩;have C:=O;obtain⟨k1,k2,k3,k4,k5⟩:=C;have t:=ZmR h M hL e;rw[e]at o G l r m g;have f:st=false:=G;subst f;have z:(Zf n i b).2.2.2.1=true:=by grind
  have k:(Zf n i b).1=q.1:=o;have j:q.2.2.1+(if q.2.2.2.2.2.2.2.2.2.1=Uc then HL n q.1 else 0)<=(Zf n i b).2.2.1:=by
   simp only[Vna,Vha,decide_eq_false_iff_not]at l;have v:¬(Zf n i b).2.2.1<q.2.2.1:=l
   cases X:q.2.2.2.2.2.2.2.2.2.1 with
   |false=>grind
   |true=>
    rw[X,ZN (by omega) (by omega)]at r;simp only[Vha]at r;have w:Ue ((Zf n i b).2.2.1<q.2.2.1+(WN n q.1).2.2.2.1)=false:=r;rw[decide_eq_false_iff_not]at w;unfold HL;omega
  rw[s,Zdy]at m;have y:KE (L.take 1)=1:=m;have D:=ZnA L 1;have d:Zq (KC n (ZG q))=KC n (ZG q):=by rfl
  have B:XC n (ZG q) (KC n (ZG q))=q.2.2.1+(if q.2.2.2.2.2.2.2.2.2.1=Uc then HL n q.1 else 0):=by rfl
  refine⟨_,.step .start (XF.2 (.inr (.inl ⟨λh=>absurd h (by show¬(0:Int)=1;decide),Hr.2 ⟨i,b,c,k1,k2,k3,?_,?_,t,rfl⟩⟩))),?_,.inl ⟨i,b,c,Ud,e,O,rfl,rfl,rfl,?_⟩⟩
  ·rw[d,B];exact⟨k4,z,k,by omega,.inl j⟩
  ·rw[d];show (0:Int)≠q.2.2.2.2.1;omega
  ·rw[d,y];rfl
  ·rw[d,g]
   rfl
 |false=>
  obtain⟨p,E,a,e,a0,a1⟩:=(Zif h).1 ⟨K,Q⟩;have Z:=h.path p E;rw[e]at o u l m g;have P:p.1=q.1:=o;rw[s,ZiN]at m;have v:¬a<q.2.2.1:=by simp only[Vna,Vha,decide_eq_false_iff_not]at l;assumption
  have a4:=ZoP L 1;have a3:WI (L.take 1)=p.2.2.1:=by rw[g];unfold WI DR KA;grind
  have d:Zq (KC n (ZG q))=KC n (ZG q):=by rfl
  refine⟨_,.step .start (XF.2 (.inr (.inr ⟨λh=>absurd h (by show¬(0:Int)=1;decide),by show (0:Int)≠2;decide,HU.2 ⟨p,E,?_,rfl⟩⟩))),?_,.inr ⟨p,E,a,e,rfl,rfl,?_,.inr ⟨rfl,q.2.2.1,?_,λY=>?_⟩⟩⟩
  ·rw[d];refine⟨P,?_,?_⟩
   ·show 0+p.2.2.1<=q.2.2.2.2.2.1;omega
   ·show q.2.2.1+p.2.2.1<=_;omega
  ·rw[d,m];rfl
  ·rw[d];show q.2.2.1+p.2.2.1<=_;omega
  ·rw[d,P];rfl
  ·rw[Zi Y]at u;have R:(!Ue (a=q.2.2.1))=false:=u;grind
theorem Zvl(hW:Whole n)(hT:WW n)(hQ:QI (ZG q)){hF:FO n.2.2.2.2.2.1}(h0:LI n.2.2.2.2.2.1 hF n (ZG q) (KC n (ZG q))){L:List Zw}(O:∀i,i<L.length->J5 n (ZG q) L i=0)(hr:(KE L:Int)<=q.2.2.2.2.1)(hw:WI L<=q.2.2.2.2.2.1){i:Nat}(J:i+1<L.length)(u:Zct n q L i):Zct n q L (i+1):=by
 have h:=hW.ok;have m:i<L.length:=by omega
 obtain⟨_,_,a3⟩:=Gp.1 (O i m);obtain⟨b1,f,_⟩:=Gp.1 (O (i+1) J);rw[Zmd]at f;have E:=ZnB J;have w:=ZfX J;have a5:=ZnA L (i+1+1);obtain⟨l,s,a6,v⟩:=u;have o:=s.li hW hT hQ h0;obtain⟨s1,s2,s3,s4,s5⟩:=Gt l;have M:∀{r b c:Nat}{st:Bool},lg L i=ZM n r b c st->KM (lg L (i+1))=Ud->(Zf n r c).2.2.2.2.1=true:=by intro r b c st e hs;refine ZgL.1 (?_ :Du n (ZG q) (ZM n r b c st)=0);rw[<-e];refine a3 ?_;unfold H7;rw[e,hs];simp [ZM]
 cases hy:(lg L (i+1)).1 with
 |true=>
  obtain⟨j,d,e,a9,g,Z⟩:=(Zie h).1 ⟨b1,hy⟩;have a2:=Z;obtain⟨k1,k2,k3,k4,k5⟩:=a2;have K:=ZmR h O J g;rw[g]at f E w
  cases a9 with
  |true=>
   rw[Zdy]at E;have G:KE (L.take (i+1+1))=KE (L.take (i+1)):=by grind
   rcases v with ⟨r,b,c,st,ex,y,z,P,Q,A⟩|⟨p,u,a,ex,_⟩
   ·rw[ex]at f;obtain⟨R,k,c3⟩:=(Zlw h).1 f;have Y:d=0:=((h.isLink k).2.2.2.2.2.2 rfl).2;subst Y;have a7:l.2.1=(Zf n r c).2.1:=by obtain⟨C,B,e1,e2,_,_,_,e3,_⟩:=o.val.kind z;grind
    refine⟨_,.step s (XF.2 (.inl ⟨z,G3.2 ⟨((r:Int),(c:Int),(j:Int),((0:Nat):Int),Uc,()),k,⟨rfl,P.symm,Q.symm,by grind,by grind⟩,e,k2,by grind,by grind,rfl⟩⟩)),?_,.inl ⟨j,0,e,Uc,g,Z,rfl,?_,rfl,?_⟩⟩
    ·rw[G];assumption
    ·rfl
    ·simp only[Vi];show l.2.2.2.2.2.1++[ZM n j 0 e Uc]=_;grind
   ·rw[ex]at f
    exact absurd f (Zto _ _ _ _ _ _ _ _)
  |false=>
   rw[Zdy]at E;have G:KE (L.take (i+1+1))=KE (L.take (i+1))+1:=by grind
   have H:(Zf n j d).2.2.2.1=true:=by grind
   have t:KM (lg L (i+1))=false:=by rw[g];rfl
   have go:(l.1.1=1->Jh n l=Uc)->RN n (Zq l) (XC n (ZG q) l) j d->WP l.2.2.2.2.2.1 (Zf n j d).2.2.1=L.take (i+1)->Zct n q L (i+1):=λg1 g2 g3=>by
    refine⟨_,.step s (XF.2 (.inr (.inl ⟨g1,Hr.2 ⟨j,d,e,k1,k2,k3,g2,?_,K,rfl⟩⟩))),?_,.inl ⟨j,d,e,Ud,g,Z,rfl,rfl,rfl,?_⟩⟩
    ·rw[s3,a6];show _≠q.2.2.2.2.1;omega
    ·show (Zq l).2.2.1+1=_;omega
    ·show WP (Zq l).2.2.2.2.2.1 _++[ZM n j d e Ud]=_;grind
   rcases v with ⟨r,b,c,st,ex,y,z,P,Q,A⟩|⟨p,u,a,ex,z,P,Q,A⟩
   ·have X:=M ex t;rw[ex]at f;obtain⟨R,k⟩:=(Ztl h y.1 y.2.2.1).1 f;obtain⟨C,B,e1,e2,_,_,e3,e4,_⟩:=o.val.kind z;have U:C=r:=by omega
    have S:B=c:=by omega
    subst U S;have I:XC n (ZG q) l=(Zf n C B).2.1+(WN n (Zf n C B).1).2.2.2.1:=by unfold XC HL;grind
    refine go (λ_=>?_) ⟨k4,H,?_,by omega,?_⟩ ?_
    ·unfold Jh;grind
    ·grind
    ·rw[I,s2,e4];rcases k with k|⟨k,c3⟩
     ·omega
     ·refine .inr ⟨c3,?_⟩;unfold DJ;rw[s1];exact Vv.2 ⟨_,k,by grind⟩
    ·rw[A];refine Zpy (λx y=>?_) _;rw[ZfX m]at y;rcases Vja.1 y with ⟨_,N⟩|⟨_,N⟩
     ·have:x=lg L i:=(Vnb.1 N).symm;rw[this,ex];rfl
     grind
   ·rw[ex]at f;obtain⟨R,k⟩:=Ztn.1 f;have I:XC n (ZG q) l=l.2.1:=by unfold XC;omega
    refine go (by omega) ⟨k4,H,by grind,by omega,by omega⟩ ?_;rcases A with ⟨A,x5⟩|⟨rfl,T,x5,_⟩
    ·rw[x5];refine ZjS ?_ _;grind
    ·rw[x5,RE rfl,ZfX m,ex];have N:=(Gp.1 (O 0 m)).2.1;have W:DC n (ZG q) L=0:=N;have V:=(ZcY.1 W).2.2.1;rw[ex,g]at V;have a4:1<L.length:=J;rw[Zi a4]at V;have D:(!Ue ((Zf n j d).2.2.1=a+p.2.2.1))=false:=V;simp only[Vk,Kx]at D;rw[D];simp only[List.take_zero,Vad];unfold KA
     grind
 |false=>
  obtain⟨p,u,a,g,a0,a1⟩:=(Zif h).1 ⟨b1,hy⟩;rw[g]at f E w;rw[ZiN]at E;have t:KM (lg L (i+1))=false:=by rw[g];rfl
  have b3:=h.path p u;rcases v with ⟨r,b,c,st,ex,y,z,P,Q,A⟩|⟨p',b0,a',ex,_⟩
  ·have X:=M ex t;rw[ex]at f;obtain⟨R,k⟩:=Ztm.1 f;obtain⟨C,B,e1,e2,_,_,e3,e4,_⟩:=o.val.kind z;have U:C=r:=by omega
   have S:B=c:=by omega
   subst U S;have a8:=ZoP L (i+1+1);rw[w,ZdH,<-A,o.wlk]at a8;have b4:WI [KA p.1 p.2.1 a (a+p.2.2.1)]=p.2.2.1:=by unfold WI DR KA;grind
   refine⟨_,.step s (XF.2 (.inr (.inr ⟨λ_=>?_,by omega,HU.2 ⟨p,u,⟨?_,?_,?_⟩,rfl⟩⟩))),?_,.inr ⟨p,u,a,g,rfl,rfl,?_,.inl ⟨by omega,?_⟩⟩⟩
   ·unfold Jh;grind
   ·grind
   ·show (Zq l).2.2.2.1+p.2.2.1<=q.2.2.2.2.2.1;omega
   ·omega
   ·show (Zq l).2.2.1=_;omega
   ·show (Zq l).2.1+p.2.2.1<=_;omega
   ·show (Zq l).2.2.2.2.2.1++[KA (Zq l).1.2.1 p.2.1 (Zq l).2.1 ((Zq l).2.1+p.2.2.1)]=_;grind
  ·rw[ex]at f;exact absurd f (Ztp _ _ _ _ _ _ _ _ _)
theorem ZsS(m:Whole n)(w:WW n)(v:QI (ZG q))(H:q.2.2.2.1=Ud){hF:FO n.2.2.2.2.2.1}(o:LI n.2.2.2.2.2.1 hF n (ZG q) (KC n (ZG q))){L:List Zw}(hL:0<L.length)(s:∀i,i<L.length->J5 n (ZG q) L i=0)(y:(KE L:Int)<=q.2.2.2.2.1)(z:WI L<=q.2.2.2.2.2.1):
 ∃l,Rc n (ZG q) (KC n (ZG q)) l/\l.2.2.2.2.2.1=L/\(l.1.1=1->Jh n l=Uc)/\l.1.2.1=(lg L (L.length - 1)).2.2.2.2.2.1:=by
 have h:=m.ok;have key:∀i,i<L.length->Zct n q L i:=by
  intro i
  induction i with
  |zero=>exact λ_=>Zvm m H o hL s y z
  |succ i S=>exact λI=>Zvl m w v o s y z I (by grind)
 obtain⟨l,f,_,k⟩:=key (L.length - 1) (by omega);have t:=f.li m w v o;have d:=(Gp.1 (s (L.length - 1) (by omega))).2.2;rw[show L.length - 1+1=L.length by omega,Vpa]at k;rcases k with ⟨r,b,c,st,e,Q,A,u,B,g⟩|⟨p,R,a,e,A,u,B,g⟩
 ·refine⟨l,f,g,λ_=>?_,?_⟩
  ·unfold Jh;rw[u,B,Vi,Vi];refine ZgL.1 (?_ :Du n (ZG q) (ZM n r b c st)=0);rw[<-e];refine d ?_;unfold H7;rw[e,Zi (by omega)];rfl
  ·obtain⟨J,C,M,N,_,_,D,O,_⟩:=t.val.kind A;have G:J=r:=by omega
   have E:C=c:=by omega
   subst G E;rw[e,D];rfl
 ·refine⟨l,f,?_,by omega,by rw[e,u];rfl⟩;rcases g with ⟨_,g⟩|⟨P,T,g,K⟩
  ·omega
  ·have j:L.length=1:=by omega
   obtain⟨x,rfl⟩:=Vcc.1 j;rw[g,K j];have:lg [x] 0=x:=rfl;grind
end Q
namespace Q
open Tr Go
variable {n:Zc}{q:Zl}{L:List Zw}{i:Nat}
def Znr(n:Zc)(x:Zw):Bool:= !Kc x.2.2.2.2.1 n.1.length|| !Kc x.2.2.2.2.2.1 n.1.length
def Zns(n:Zc)(x:Zw):Bool:=bif x.1 then !KL n x else !Ue (x.2.1=0) || (!Ue (x.2.2.1=0) || (!Ue (x.2.2.2.1=0) ||KM x))
def Zfj(x:Zw):Bool:= !Ue (0<=x.2.2.2.2.2.2.1/\x.2.2.2.2.2.2.1<=3155932800) || !Ue (0<=x.2.2.2.2.2.2.2.1/\x.2.2.2.2.2.2.2.1<=3155932800)
theorem Zl4(n:Zc)(q:Zl)(x:Zw):Xo n q x=bif Znr n x then 9 else bif Zns n x then 9 else bif Zfj x then 10 else bif x.1 then Db n q x else Hy n q x:=rfl
end Q
namespace Q
open Tr Go
variable {n:Zc}{q:Zl}{L:List Zw}
theorem Zj7{i:Nat}(h:J5 n q L i=0):Zad (lg L i)/\Jc (lg L i).2.2.2.2.2.2.1/\Jc (lg L i).2.2.2.2.2.2.2.1:=by have a:=(Gp.1 h).1;rw[Zl4,K4 (by omega),K4 (by omega),K4 (by omega)]at a;have:=a.2.2.1;unfold Zfj at this;rw[Vt]at this;simp only[Vk,Kx]at this;exact⟨by show _<=_;omega,⟨by omega,by omega⟩,⟨by omega,by omega⟩⟩
end Q
namespace Q
open Tr Go
variable {n:Zc}{q:Zl}{L:List Zw}
structure Jy (n:Zc) (q:Zl):Prop where
 fit:HB n
 few:Few n
 chk:Gs n q=0
 tin:WW n
 max:q.2.2.2.2.1<=3
theorem Jy.whole(h:Jy n q):Whole n:=(ZcO.1 h.chk).1
theorem Jy.qb(h:Jy n q):qB n.1.length q=true:=(ZcO.1 h.chk).2
theorem Jy.qnum(h:Jy n q):(0<=q.1/\q.1<(n.1.length:Int))/\(0<=q.2.1/\q.2.1<(n.1.length:Int))/\(0<=q.2.2.1/\q.2.2.1<=3155932800)/\0<=q.2.2.2.2.1/\(0<=q.2.2.2.2.2.1/\q.2.2.2.2.2.1<=86400)/\(q.2.2.2.1=Uc->q.2.2.2.2.2.2.2.2.2.1=Ud):=by have a:=h.qb;unfold qB at a;simp only[Vb,Kx]at a;obtain⟨b,c,f,g,j,_,k⟩:=a;have d:=ZaC.1 b;have e:=ZaC.1 c;grind
theorem Jy.qi(h:Jy n q):QI (ZG q):=⟨by show q.2.2.2.2.1<=7;have:=h.max;omega,h.qnum.2.2.2.2.1.2⟩
theorem Jy.wholeM(h:Jy n q):Whole (Kr n q):=ZpI q h.fit.paths h.whole
theorem Jy.tinM(h:Jy n q):WW (Kr n q):=Zw2 h.tin
theorem Jy.li0(h:Jy n q):LI (Kr n q).2.2.2.2.2.1 (Hm h.wholeM.sound.fare) (Kr n q) (ZG q) (KC (Kr n q) (ZG q)):=ZtX (n:=Kr n q) (q:=ZG q) (Zvz h.qb) h.max
theorem ZsQ(h:Jy n q)(p:q.2.2.2.1=Ud)(e:L.length<=1000)(r:(Dx n q L).2=0):∃l,Rc (Kr n q) (ZG q) (KC (Kr n q) (ZG q)) l/\l.2.2.2.2.2.1=L/\ZbH (Kr n q) (ZG q) l:=by
 obtain⟨_,⟨c,a⟩|⟨c,a,f⟩⟩:=(ZcN n q L).1 r
 ·have:L=[]:=Vib c;subst this;exact⟨_,.start,rfl,λh=>absurd h (by show¬(0:Int)=1;decide),a⟩
 ·have o:∀i,i<L.length->J5 (Kr n q) (ZG q) L i=0:=λi d=>ZqC.2 (a i d);unfold DA at f;rw[K4 (by omega),K4 (by omega),K4 (by omega),K4 (by omega)]at f;obtain⟨k,_,m,j,_⟩:=f;simp only[Vk,Kx,decide_eq_false_iff_not]at k m j;have b:∀x∈L,Zad x:=λx s=>by obtain⟨i,d,rfl⟩:=Vx s;have:=(Zj7 (a i d)).1;rwa [Zih d]at this
  have g:L.length<=1000->ZdI L=WI L:=λe=>by have c:=ZoR (L,()) e b;rw[Zxn]at c;have a:F139 (L,())=Ua (ZdI L):=Zjh L e;grind
  rw[g e]at j;obtain⟨l,t,u,v,w⟩:=ZsS h.wholeM h.tinM h.qi p h.li0 (L:=L) (by omega) o (by omega) (by omega);exact⟨l,t,u,v,by rw[w];assumption⟩
end Q
namespace Q
open Tr Go
variable {n:Zc}{q:Zl}
theorem ZjT(s t a b e d:Int):WP [KA s t a (a+e)] d=[KA s t (d - e) d]/\WP [KA s t b (b+e)] d=[KA s t (d - e) d]:=by rw[RE rfl,RE rfl];unfold KA;grind
end Q
namespace Q
open Tr Go
def Yi(o x:Dp):Bool:=Ue (o.1=x.1)&&(Ue (x.2.1<=o.2.1)&&(Ue (o.2.2.1<=x.2.2.1)&&(Ue (o.2.2.2.1<=x.2.2.2.1)&&Ue (Tr.qandNot .u64 o.2.2.2.2.1 x.2.2.2.2.1=0))))
theorem ZvS(o x:Dp):F28 o x=Ua (Yi o x):=by unfold F28 Yi;grind
theorem ZkV{a b:Int}:Tr.qandNot .u64 a b=0↔∀i,i<64->(Vc 64 a).getLsbD i=Uc->(Vc 64 b).getLsbD i=true:=by
 have e:Tr.qandNot .u64 a b=0↔(Vc 64 a &&& ~~~ Vc 64 b)=0#64:=by
  unfold Tr.qandNot;have c:=(Vc Vp.bits a &&& ~~~ Vc Vp.bits b).isLt;constructor
  ·intro h;have d:(Vc Vp.bits a &&& ~~~ Vc Vp.bits b).toNat=0:=by generalize (Vc Vp.bits a &&& ~~~ Vc Vp.bits b).toNat=N at*;have c:N<2 ^ 64:=c;simp [Va,Vfa,Vz]at h;omega
   apply Vbb;assumption
  ·intro h;have d:(Vc Vp.bits a &&& ~~~ Vc Vp.bits b).toNat=0:=by have:(Vc Vp.bits a &&& ~~~ Vc Vp.bits b)=0#64:=h;grind
   rw[d];rfl
 rw[e];constructor
 ·intro h i g f;have:=congrArg (λv=>v.getLsbD i) h;grind
 grind
theorem ZvQ(o:Dp):Yi o o=true:=by unfold Yi;rw[Zi (ZkV.2 (by simp))];simp
theorem ZvR{a b c:Dp}(h:Yi a b=Uc)(k:Yi b c=Uc):Yi a c=true:=by unfold Yi at*;simp only[Vb,Kx]at*;obtain⟨d,e,f,g,j⟩:=h;obtain⟨l,m,o,p,r⟩:=k;rw[ZkV]at*;grind
def HM(D a b c d e f:Int):Prop:=b<0\/(¬a<0/\ ¬b<a/\(D=0\/d=0\/a+D<=b\/(0<c/\f<=e)))
instance (D a b na nb ua ub:Int):Decidable (HM D a b na nb ua ub):=by unfold HM;infer_instance
theorem Zre{D a b c d e f g j l:Int}(m:0<=D)(h:HM D a b d e g j)(k:HM D b c e f j l):HM D a c d f g l:=by unfold HM at*;omega
theorem Zrd{D a b c:Int}(d:0<=b):HM D a a b b c c:=by unfold HM;omega
def H5(s:WJ):Int:=match s with|x::_=>(x.2.2.2.1[x.2.2.1.toNat]?).getD (-1) |[]=> -1
def Dy(s:WJ):Int:=match s with|x::_=>x.2.2.1|[]=>0
def RJ(s:WJ):Int:=match s with|x::_=>x.2.1.2.1|[]=>0
noncomputable def DO(s:WJ):List Dp:=(F26 s).getD []
noncomputable def GV(F:ZR)(s t:WJ):Bool:=Ue (HM F.2.1 (H5 s) (H5 t) (Dy s) (Dy t) (RJ s) (RJ t))&&(DO t).all λx=>(DO s).any λo=>Yi o x
theorem Zsp{F:ZR}{s:WJ}(a:0<=Dy s):GV F s s=true:=by unfold GV;rw[Zi (Zrd a),Vha,Vdb];exact λx b=>Vv.2 ⟨x,b,ZvQ x⟩
theorem Zsq{F:ZR}(f:0<=F.2.1){a b c:WJ}(h:GV F a b=Uc)(k:GV F b c=Uc):GV F a c=true:=by unfold GV at*;simp only[Vb,Kx,Vdb,Vv]at*;refine⟨Zre f h.1 k.1,λx l=>?_⟩;obtain⟨o,g,d⟩:=k.2 x l;obtain⟨p,j,e⟩:=h.2 o g;exact⟨p,j,ZvR e d⟩
theorem Zsb{F:ZR}(h:FO F){A B:List ZF}{s t:WJ}(z:JJ F h A s)(C:JJ F h B t):F27 s t=Ua (Ue (HM F.2.1 (H5 s) (H5 t) (Dy s) (Dy t) (RJ s) (RJ t))):=by
 obtain⟨g,e,x,rfl,⟨P,c⟩,K,r⟩:=z.head;obtain⟨j,f,y,rfl,⟨Q,d⟩,M,u⟩:=C.head;obtain⟨a,l,N, -⟩:=c A.length (Vu _);obtain⟨b,p,O, -⟩:=d B.length (Vu _);have v:idx e (A.length:Int)=Ua a:=by assumption
 have w:idx f (B.length:Int)=Ua b:=by assumption
 have T:=h.heads.1;have I:H5 ((Ua F,g,(A.length:Int),e,())::x)=a:=by show (e[((A.length:Int)).toNat]?).getD (-1)=a;rw[Vi,l];rfl
 have J:H5 ((Ua F,j,(B.length:Int),f,())::y)=b:=by show (f[((B.length:Int)).toNat]?).getD (-1)=b;rw[Vi,p];rfl
 have D:Dy ((Ua F,g,(A.length:Int),e,())::x)=(A.length:Int):=rfl;have E:Dy ((Ua F,j,(B.length:Int),f,())::y)=(B.length:Int):=rfl;have G:RJ ((Ua F,g,(A.length:Int),e,())::x)=g.2.1:=rfl;have H:RJ ((Ua F,j,(B.length:Int),f,())::y)=j.2.1:=rfl;rw[I,J,D,E,G,H];unfold F27 HM;simp only[Tr.unc,Za,v,w];by_cases o:b<0
 ·grind
 rw[Zt o,Ze];by_cases k:a<0
 ·simp_all
 rw[Zt k];simp only[Ze,Za];by_cases m:b<a
 ·simp_all
 rw[Zt m];have S:a<=8000000:=by omega
 have R:Va .i64 (a+F.2.1)=a+F.2.1:=ZN (by omega) (by omega);clear c d z C r u;grind
theorem Zss{F:ZR}(h:FO F){A B:List ZF}{s t:WJ}(D:JJ F h A s)(E:JJ F h B t)(H:∀v∈A,JC v)(I:∀v∈B,JC v):F20 s t=Ua (GV F s t):=by
 have z:=Zsb h D E;obtain⟨L,w,J,_⟩:=ZfY h D H;obtain⟨M,y,K,_⟩:=ZfY h E I;obtain⟨R,T,X,es,_⟩:=D.head;obtain⟨S,U,Y,G,_⟩:=E.head;have c:F.1.length<=4096:=by have:=h.many;omega
 have p:Tr.unc s=Ua (Ua F,X,R,(A.length:Int),T,()):=by rw[es];rfl
 have u:Tr.unc t=Ua (Ua F,Y,S,(B.length:Int),U,()):=by rw[G];rfl
 have Q:Vrd s=false:=by grind
 have nt:Vrd t=false:=by grind
 have V:DO s=L:=by unfold DO;grind
 have W:DO t=M:=by unfold DO;grind
 unfold F20 GV;rw[V,W];simp only[Q,nt,Ze,p,u,Za,Zwo c,Vg,z]
 cases Ue (HM F.2.1 (H5 s) (H5 t) (Dy s) (Dy t) (RJ s) (RJ t)) with
 |false=>simp
 |true=>
 simp only[Vg,Ze,w,y,Za,Vha];refine Wj (λr:Unit ⊕ Bool=>r=if (M.all λx=>L.any λo=>Yi o x)=Uc then .inl () else .inr Ud) ?_ ?_
 ·refine KP M.length _ (λi (s:Int)=>s=(i:Int)/\(M.take i).all (λx=>L.any λo=>Yi o x)=Uc) ?_ ?_ _ (by simp)
  ·rintro i _ k ⟨rfl,N⟩;have O:idx M (i:Int)=Ua M[i]:=ZJ k;simp only[ZV k,Zd,O,Za,Z8 k (by omega)];have C:run (λa:Bool×Int=>
    bif Ue (a.2<(↑(Vm L):Int)) then
    Vh (idx L a.2) λd=>
    Vh (bif a.1 then Ua Uc else Vh (F28 d M[i]) λe=>Ua e) λf=>
    Ua (.inl (f,Va .i64 (a.2+(1:Int))))
    else Ua (.inr a.1)) (Ud,(0:Int))=Ua (L.any λo=>Yi o M[i]):=by
    obtain⟨r,Z,h2⟩:=KP (step:=λa:Bool×Int=>
     bif Ue (a.2<(↑(Vm L):Int)) then
     Vh (idx L a.2) λd=>
     Vh (bif a.1 then Ua Uc else Vh (F28 d M[i]) λe=>Ua e) λf=>
     Ua (.inl (f,Va .i64 (a.2+(1:Int))))
     else Ua (.inr a.1)) L.length (λr:Bool=>r=L.any λo=>Yi o M[i]) (λj (s:Bool×Int)=>s.2=(j:Int)/\s.1=(L.take j).any λo=>Yi o M[i]) (by
      rintro j ⟨b,_⟩ m ⟨rfl,l⟩;left;have P:idx L (j:Int)=Ua L[j]:=ZJ m;simp only at l;simp only[ZV m,Zd,P,Za,Z8 m (by omega),ZvS];rw[Vd m,Vyc];subst l
      cases l:(L.take j).any λo=>Yi o M[i] with
      |true=>simp
      |false=>simp) (by
      simp) (Ud,0) (by simp)
    grind
   rw[C];simp only[Za]
   cases l:L.any λo=>Yi o M[i] with
   |false=>
    right;refine⟨_,rfl,?_⟩;rw[Zg];intro g;have:=Vdb.1 g M[i] (Vf k)
    grind
   |true=>
    left;refine⟨_,rfl,rfl,?_⟩;rw[Vd k,List.all_append,N];grind
  simp
 grind
theorem Zsr{F:ZR}(h:FO F){A B:List ZF}{s t:WJ}(hs:JJ F h A s)(ht:JJ F h B t)(Q:∀v∈A,JC v)(R:∀v∈B,JC v)(I:GV F s t=Uc):Dm.Dom (Gz F h.fareOk) F.1.length (A.map K0) (B.map K0):=by
 obtain⟨L,a0,_,ra,sa,ta,es,f,C⟩:=ZfY h hs Q;obtain⟨M,a1,_,rb,sb,tb,Y,g,D⟩:=ZfY h ht R;have tL:DO s=L:=by unfold DO;grind
 have tM:DO t=M:=by unfold DO;grind
 unfold GV at I;rw[tL,tM,Vb,Kx,Vdb]at I;obtain⟨S,k⟩:=I;refine Dm.dom_of (λG=>?_) ?_
 ·obtain⟨a,E,_,j⟩:=f.2 A.length (Vu _);obtain⟨b,H,_,l⟩:=g.2 B.length (Vu _);rw[Vpa]at j l;have W:H5 s=a:=by rw[es];show (sa[((A.length:Int)).toNat]?).getD (-1)=a;rw[Vi,E];rfl
  have X:H5 t=b:=by rw[Y];show (sb[((B.length:Int)).toNat]?).getD (-1)=b;rw[Vi,H];rfl
  have:=l.2 G;rw[W,X]at S;unfold HM at S;exact j.1 (by omega)
 ·intro B0 r B1 p z hp G m hz hm;obtain⟨e,a4,rfl,k1,k2⟩:=Vya.1 z;obtain⟨x,w,rfl,k3,k4⟩:=Vfc.1 k2;subst k1 k3 k4;have K:(e++x::w).take e.length=e:=by simp
  have d:(e++x::w).drop e.length=x::w:=by simp
  obtain⟨y,N,_,u⟩:=g.2 e.length (by simp);rw[K]at u;have hx:=(D _).2 ⟨e.length,by simp,p,hp,y,x,by simp,N,u.2 G,⟨by have a2:(w.map K0).length+1<(WE F p).2.2.1.toNat:=m;grind,by rw[d,Zjo];assumption,by rw[d,Zmi];assumption⟩,rfl⟩
  obtain⟨o,ho,q⟩:=Vv.1 (k _ hx);unfold Yi at q;simp only[Vb,Kx]at q;obtain⟨q1,U,q3,_,O⟩:=q;obtain⟨i,hi,p',a3,a,ro,g1,Z,g3,⟨g4,g5,g6⟩,rfl⟩:=(C o).1 ho;simp only at q1 U q3 O;have J:p' =p:=by grind
  subst J;obtain⟨a',P,_,V⟩:=f.2 i (by omega);rw[Z]at P;cases P;have c:A.drop i=ro::A.drop (i+1):=by rw[Vr hi];grind
  refine⟨(A.take i).map K0,K0 ro,(A.drop (i+1)).map K0,?_,V.1 g3,?_,U,?_,?_⟩
  ·rw[<-Vy,<-c,<-Vga,Vma]
  ·rw[<-Vy,<-c,<-Zmi];assumption
  ·grind
  ·rw[<-Vy,<-c,<-Vy,<-Zjo,<-Zjo];rw[d]at O;exact ZpL (Zaa λv T=>(Q v (Vba T)).1) (Zaa λv T=>(R v (by grind)).1) O
end Q
namespace Q
open Tr Go
abbrev ZZ:=Int×Int×Int×Int×Int×Bool×WJ×List Zw×Unit
abbrev Zjz:=Option ZZ×Int×Int×Bool×ZF×List Int×Unit
variable {F:ZR}{hF:FO F}{n:Zc}{q:Zl}
noncomputable def W9(F:ZR)(m u:ZZ):Bool:=Ue (m.2.1<=u.2.1)&&(Ue (m.2.2.1<=u.2.2.1)&&(Ue (m.2.2.2.1<=u.2.2.2.1)&&(Ue (m.2.2.2.2.1<=u.2.2.2.2.1)&&((m.2.2.2.2.2.1|| !u.2.2.2.2.2.1)&&GV F m.2.2.2.2.2.2.1 u.2.2.2.2.2.2.1))))
structure W6 (F:ZR) (hF:FO F) (n:Zc) (u:ZZ):Prop where
 fare:JJ F hF (Z7 u.2.2.2.2.2.2.1) u.2.2.2.2.2.2.1
 rok:∀v∈Z7 u.2.2.2.2.2.2.1,JC v
 stop:0<=u.1/\u.1<(n.1.length:Int)
theorem ZeF{m u:ZZ}(a:W6 F hF n m)(b:W6 F hF n u):Qn.cov m u=Ua (W9 F m u):=by have c:=Zss hF a.fare b.fare a.rok b.rok;obtain⟨ms,d,j,f,k,h,e,g,⟨⟩⟩:=m;obtain⟨us,l,s,p,t,r,o,ul,⟨⟩⟩:=u;simp only at c;unfold Qn.cov Qn.F110 W9;simp only[Za];grind
theorem ZrX{A:List ZF}{s:WJ}(h:JJ F hF A s):0<=Dy s:=by obtain⟨r,a,t,rfl,_⟩:=h.head;show (0:Int)<=(A.length:Int);omega
theorem ZkT{u:ZZ}(a:W6 F hF n u):W9 F u u=true:=by unfold W9;rw[Zsp (ZrX a.fare)];simp
theorem Zsa(hF:FO F){a b c:ZZ}(h:W9 F a b=Uc)(k:W9 F b c=Uc):W9 F a c=true:=by have e:0<=F.2.1:=hF.heads.1.1;unfold W9 at*;simp only[Vb,Kx,Vfd,Bool.not_eq_true']at*;obtain⟨g,j,l,m,o,d⟩:=h;obtain⟨p,r,s,t,u,f⟩:=k;refine⟨by omega,by omega,by omega,by omega,?_,Zsq e d f⟩;grind
def RX(n:Zc):List (List Int):=(Vn n.2.2.1.length).map λi:Nat=>((Vn n.2.2.2.1.length).filter λk=>Ue ((lk n k).1=(i:Int))).map λk:Nat=>(k:Int)
def Ju(x:FX):List ZZ:=x.2.2.2.2.1
def J9(x:FX):List ZZ:=x.2.2.2.2.2
def KG(x:FX):List (List ZZ):=x.2.2.2.1
def JG(x:FX)(s:Int):List ZZ:=((KG x)[s.toNat]?).getD []
structure Xu (F:ZR) (hF:FO F) (n:Zc) (q:Zl) (x:FX) (N:Nat):Prop where
 net:x.1=n
 que:x.2.1=q
 lnk:x.2.2.1=RX n
 rows:(KG x).length=n.1.length
 lab:(∀r∈KG x,∀y∈r,W6 F hF n y)/\(∀y∈Ju x,W6 F hF n y)/\∀y∈J9 x,W6 F hF n y
 bag:∀(i:Nat) (r:List ZZ),(KG x)[i]? =Ua r->(∀y∈r,y.1=(i:Int))/\r.length<=N
 cvd:(∀y∈Ju x,∃m∈JG x y.1,W9 F m y=Uc)/\∀y∈J9 x,∃m∈JG x y.1,W9 F m y=Uc
 few:(Ju x).length<=N/\(J9 x).length<=N
 fd:∀r∈KG x,∀y∈r,y.1=q.2.1->y∈J9 x
 to:∀y∈J9 x,y.1=q.2.1
def Wc(F:ZR)(x:FX)(ls:List ZZ)(a:FX):Prop:= ∃sub:List ZZ,sub.length<=ls.length/\(∀o∈sub,o∈ls)/\Ju a=Ju x++sub/\J9 a=J9 x++sub.filter (λy=>Ue (y.1=x.2.1.2.1))/\(a.1=x.1/\a.2.1=x.2.1/\a.2.2.1=x.2.2.1/\(KG a).length=(KG x).length)/\
 (∀(i:Nat) (r:List ZZ),(KG a)[i]? =Ua r->∃r0,(KG x)[i]? =Ua r0/\(∀y∈r,y∈r0\/(y∈sub/\y.1=(i:Int)))/\r.length<=r0.length+sub.length)/\(∀w:ZZ->Nat,(sub.map w).sum<=(ls.map w).sum)/\
 (∀y:ZZ,(∃m∈JG x y.1,W9 F m y=Uc)->∃m∈JG a y.1,W9 F m y=Uc)/\∀l∈ls,∃m∈JG a l.1,W9 F m l=Uc
theorem Wc.nil(x:FX):Wc F x [] x:=⟨[],by simp,by simp,by simp,by simp,⟨rfl,rfl,rfl,rfl⟩,by grind,by simp,λ_ h=>h,by simp⟩
theorem Wc.trans{x c a:FX}{ls ms:List ZZ}(h:Wc F x ls c)(k:Wc F c ms a):Wc F x (ls++ms) a:=by
 obtain⟨J,M,N,O,P,⟨f,g,j,m⟩,p,d,e,a12⟩:=h;obtain⟨K,Q,R,S,T,⟨v,z,A,B⟩,C,s,t,u⟩:=k;refine⟨J++K,by grind,λo X=>?_,by grind,by grind,⟨v.trans f,z.trans g,A.trans j,B.trans m⟩,λi r G=>?_,λw=>?_,λy H=>by simp [*],λl b=>?_⟩
 ·grind
 ·obtain⟨I,D,U,c3⟩:=C i r G;obtain⟨r0,E,V,W⟩:=p i I D;refine⟨r0,E,λy H=>?_,by grind⟩;grind
 ·grind
 ·rw[Vj]at b;rcases b with b|b
  all_goals simp [*]
theorem Xu.adds{x t:FX}{N:Nat}{ls:List ZZ}(h:Xu F hF n q x N)(H:∀l∈ls,W6 F hF n l)(k:Wc F x ls t):Xu F hF n q t (N+ls.length):=by
 obtain⟨sub,C,D,o,e,⟨v,w,z,A⟩,p,u,d,a12⟩:=k;have j:∀y∈sub,W6 F hF n y:=by grind
 have I:x.2.1.2.1=q.2.1:=by rw[h.que]
 have c:∀y,y∈sub.filter (λy=>Ue (y.1=x.2.1.2.1))↔y∈sub/\y.1=q.2.1:=by grind
 refine⟨v.trans h.net,w.trans h.que,z.trans h.lnk,A.trans h.rows,⟨λr g y a=>?_,λy a=>?_,λy a=>?_⟩,λi r g=>?_,⟨λy a=>?_,λy a=>?_⟩,⟨?_,?_⟩,λr g y a B=>?_,λy a=>?_⟩
 ·obtain⟨i,s⟩:=Vgb g;obtain⟨r0,f,m,_⟩:=p i r s;rcases m y a with b|⟨b,_⟩
  ·exact h.lab.1 r0 (Vhc f) y b
  grind
 ·rw[o,Vj]at a;exact a.elim (h.lab.2.1 y) (j y)
 ·rw[e,Vj,c]at a;exact a.elim (h.lab.2.2 y) (by grind)
 ·obtain⟨r0,f,m,c3⟩:=p i r g;obtain⟨E,G⟩:=h.bag i r0 f;grind
 ·rw[o,Vj]at a;exact a.elim (λb=>d y (h.cvd.1 y b)) (by grind)
 ·rw[e,Vj,c]at a;exact a.elim (λb=>d y (h.cvd.2 y b)) (by grind)
 ·rw[o,Vl];have:=h.few.1;omega
 ·rw[e,Vl];have b:=h.few.2;grind
 ·obtain⟨i,s⟩:=Vgb g;obtain⟨r0,f,m,_⟩:=p i r s;rw[e,Vj,c];rcases m y a with b|⟨b,_⟩
  ·exact .inl (h.fd r0 (Vhc f) y b B)
  grind
 ·rw[e,Vj,c]at a;exact a.elim (h.to y) λh=>h.2
theorem ZlW{x:FX}{N:Nat}(h:Xu F hF n q x N){u:ZZ}(j:W6 F hF n u)(U:N+1<=549755813888):∃H,F104 x (Ua u)=Ua H/\Wc F x [u] H:=by
 obtain⟨E,R⟩:=j.stop;have A:u.1.toNat<(KG x).length:=by rw[h.rows];omega
 have S:u.1=((u.1.toNat:Nat):Int):=by omega
 have g:Qn.rowAt x u=(KG x)[u.1.toNat]:=by show (((KG x)[u.1.toNat]?).getD [])=_;grind
 obtain⟨J,K⟩:=h.bag u.1.toNat _ (Ve A);have a:∀m∈(KG x)[u.1.toNat],W6 F hF n m:=h.lab.1 _ (Vf A);have M:∀m∈(KG x)[u.1.toNat],Qn.covB m u=W9 F m u:=λm c=>by unfold Qn.covB;rw[ZeF (a m c) j];rfl
 have G:∀m∈(KG x)[u.1.toNat],Qn.covB u m=W9 F u m:=λm c=>by unfold Qn.covB;rw[ZeF j (a m c)];rfl
 have b:((Qn.rowAt x u).any λm=>Qn.covB m u)=Uc↔∃m∈(KG x)[u.1.toNat],W9 F m u=true:=by grind
 have p:JG x u.1=(KG x)[u.1.toNat]:=by assumption
 have I:Qn.KeepC x u:=by
  refine⟨E,A,λm c=>?_,?_,?_,?_,?_⟩
  ·rw[g]at c;rw[ZeF (a m c) j,ZeF j (a m c)];simp
  ·grind
  ·have:=h.few.1;show (Ju x).length+1<=_;omega
  ·have:=h.few.2;show (J9 x).length+1<=_;omega
  ·rw[b];by_cases v:∃m∈(KG x)[u.1.toNat],W9 F m u=Uc
   ·grind
   ·right;intro d;apply v;simp only[JO,Vj,List.mem_flatten]at d;rcases d with (⟨r,C,t⟩|t) |t
    ·obtain⟨i,o⟩:=Vgb C;have e:=(h.bag i r o).1 u t;have:i=u.1.toNat:=by omega
     subst this;have D:(KG x)[u.1.toNat]=r:=by have T:(KG x)[u.1.toNat]? =Ua r:=o;grind
     exact⟨u,by grind,ZkT j⟩
    ·rw[<-p];exact h.cvd.1 u t
    ·rw[<-p];exact h.cvd.2 u t
 have O:F104 x (Ua u)=Ua (Qn.keepZ x u):=by show Qn.keepF x (Ua u)=_;unfold Qn.keepF;grind
 refine⟨_,O,?_⟩;unfold Qn.keepZ;by_cases v:∃m∈(KG x)[u.1.toNat],W9 F m u=Uc
 ·rw[Zn (b.2 v)];refine⟨[],by simp,by simp,by simp,by simp,⟨rfl,rfl,rfl,rfl⟩,by grind,by simp,λ_ h=>h,λl B=>?_⟩;grind
 ·rw[Zg (by grind),g];have k:((KG x)[u.1.toNat]).filter (λm=> !Qn.covB u m)=((KG x)[u.1.toNat]).filter λm=> !W9 F u m:=List.filter_congr (by grind);rw[k];have f:∀s:Int,((((KG x).set u.1.toNat (((KG x)[u.1.toNat]).filter (λm=> !W9 F u m)++[u]))[s.toNat]?).getD [])=if s.toNat=u.1.toNat then((KG x)[u.1.toNat]).filter (λm=> !W9 F u m)++[u] else JG x s:=by
   intro s;by_cases e:s.toNat=u.1.toNat
   ·grind
   ·rw[Zg e,Vfb (by omega)];rfl
  have Q:(Ue (u.1=x.2.1.2.1))=Uc\/(Ue (u.1=x.2.1.2.1))=false:=by grind
  refine⟨[u],by simp,by simp,rfl,?_,⟨rfl,rfl,rfl,by show (Vwc _ _ _).length=_;rw[Vyb];rfl⟩,λi r C=>?_,by simp,λy ⟨m,c,z⟩=>?_,λl B=>?_⟩
  ·show (if u.1=x.2.1.2.1 then J9 x++[u] else J9 x)=_;grind
  ·have D:((KG x).set u.1.toNat (((KG x)[u.1.toNat]).filter (λm=> !W9 F u m)++[u]))[i]? =Ua r:=C;by_cases e:u.1.toNat=i
   all_goals grind
  ·show∃m∈(((KG x).set u.1.toNat (((KG x)[u.1.toNat]).filter (λm=> !W9 F u m)++[u]))[y.1.toNat]?).getD [],_;rw[f];by_cases e:y.1.toNat=u.1.toNat
   ·rw[Zn e];have P:m∈(KG x)[u.1.toNat]:=by
     have:JG x y.1=(KG x)[u.1.toNat]:=by unfold JG;grind
     grind
    by_cases w:W9 F u m=Uc
    ·exact⟨u,by simp,Zsa hF w z⟩
    grind
   grind
  ·rw[Vq]at B;subst B;show∃m∈(((KG x).set l.1.toNat (((KG x)[l.1.toNat]).filter (λm=> !W9 F l m)++[l]))[l.1.toNat]?).getD [],_;rw[f,Zn rfl];exact⟨l,by simp,ZkT j⟩
end Q
namespace Q
open Tr Go
variable {F:ZR}{hF:FO F}{n:Zc}{q:Zl}
theorem ZaA{i:Nat}(a:i<n.2.2.1.length):idx n.2.2.1 (i:Int)=Ua (rn n (i:Int)):=by rw[ZJ a];unfold rn;grind
theorem Zaz{i c:Nat}(a:c<(Zp n i).length):idx (rn n (i:Int)).2.2.2.2.2.2.2.1 (c:Int)=Ua (Zf n i c):=by
 have:idx (Zp n i) (c:Int)=Ua (Zf n i c):=by rw[ZJ a,Zao a]
 exact this
theorem Zaw{β:Type}(f:Nat->List β)(i:Nat):(Vn (i+1)).flatMap f=(Vn i).flatMap f++f i:=by rw[Vdd,Vra];simp
theorem Zs2{β:Type}(f:Nat->List β){i m:Nat}(h:i<=m):((Vn i).flatMap f).length<=((Vn m).flatMap f).length:=by
 induction m with
 |zero=>grind
 |succ m b=>
  rcases Vjb m i with a|a
  ·grind
  ·rw[Zaw,Vl];omega
theorem ZeZ{α β:Type}(l:List α)(f:α->List β):l.flatMap f=(Vn l.length).flatMap λi=>(l[i]?).elim [] f:=by
 have key:∀k,k<=l.length->(l.take k).flatMap f=(Vn k).flatMap λi=>(l[i]?).elim [] f:=by
  intro k
  induction k with
  |zero=>simp
  |succ k a=>
   intro h;rw[Zaw,<-a (by omega),Vd (by omega),Vra,Ve (by omega)];simp
 grind
theorem Zb8{σ τ:Type}{step:σ->Option (σ ⊕ τ)}{m:Nat}{g:Nat->List ZZ}{x:FX}{N:Nat}(mk:Nat->FX->σ)(fin:FX->τ)(j:Xu F hF n q x N)(k:∀i,i<m->∀l∈g i,W6 F hF n l)(u:N+((Vn m).flatMap g).length<=549755813888)
 (b:∀i x N,i<m->Xu F hF n q x N->N+(g i).length<=549755813888->∃a,step (mk i x)=Ua (.inl (mk (i+1) a))/\Wc F x (g i) a)
 (d:∀x N,Xu F hF n q x N->step (mk m x)=Ua (.inr (fin x))):∃a,run step (mk 0 x)=Ua (fin a)/\Wc F x ((Vn m).flatMap g) a:=by
 have lab:∀i,i<=m->∀l∈(Vn i).flatMap g,W6 F hF n l:=by grind
 obtain⟨r,f,a,rfl,h⟩:=KP m (λr=>∃a,r=fin a/\Wc F x ((Vn m).flatMap g) a) (λi s=>∃a,s=mk i a/\Wc F x ((Vn i).flatMap g) a) (step:=step) (by
  rintro i _ p ⟨a,rfl,c⟩;left;have o:=j.adds (by grind) c;have e:=Zs2 g (show i+1<=m by omega);rw[Zaw,Vl]at e;obtain⟨t,f,h⟩:=b i a _ p o (by omega);refine⟨_,f,t,rfl,?_⟩;rw[Zaw];exact c.trans h) (by
  rintro _ ⟨a,rfl,c⟩;exact⟨_,d a _ (j.adds (by grind) c),a,rfl,c⟩) _ ⟨x,rfl,Wc.nil x⟩
 grind
noncomputable def HY(s:WJ):Bool:=Ue (0<=H5 s)
noncomputable def Kj(n:Zc)(l:Zx):ZZ:=(l.1.2.1,l.2.1,(if l.1.1=1 then l.2.1+HL n l.1.2.1 else l.2.1),l.2.2.1,l.2.2.2.1,Ue (l.1.1=1),(Zq l).2.2.2.2.1,l.2.2.2.2.2.1,())
noncomputable def Yh(n:Zc)(l:Zx):List ZZ:=if Jh n l=Uc/\HY (XX l).2.2.2.2.1=Uc then [Kj n l] else []
def Ji(y:ZZ):Zx:=((0,0,0,0,(0,0,0,0,()),()),0,y.2.2.2.1+1,y.2.2.2.2.1,y.2.2.2.2.2.2.1,y.2.2.2.2.2.2.2.1,())
def W4(n:Zc)(i:Nat):List Nat:=(Vn n.2.2.2.1.length).filter λk=>Ue ((lk n k).1=(i:Int))
noncomputable def Yp(a:Zx->Nat->Nat->Bool->ZF->List ZZ)(n:Zc)(q:Zl)(y:ZZ)(j d:Nat):List ZZ:=if y.2.2.2.1<q.2.2.2.2.1 then a (Ji y) j d Ud (Jr (Zf n j d).2.2.1) else []
noncomputable def Hq(a:Zx->Nat->Nat->Bool->ZF->List ZZ)(n:Zc)(q:Zl)(l:Zx)(x:Gg):List ZZ:=
 if x.2.1≠l.1.2.2.2.1\/(Zf n x.2.2.1.toNat x.2.2.2.1.toNat).2.2.1<l.2.1 then [] else
 if x.2.2.2.2.1=Uc then a l x.2.2.1.toNat x.2.2.2.1.toNat Uc l.1.2.2.2.2.1 else
 if Yh n l≠ []/\(Zf n x.2.2.1.toNat x.2.2.2.1.toNat).2.2.2.1=Uc then Yp a n q (Kj n l) x.2.2.1.toNat x.2.2.2.1.toNat else []
noncomputable def GC(a:Zx->Nat->Nat->Bool->ZF->List ZZ)(n:Zc)(q:Zl)(l:Zx):List ZZ:=Yh n l++(W4 n l.1.2.2.1.toNat).flatMap λk=>Hq a n q l (lk n k)
noncomputable def WT(n:Zc)(q:Zl):Nat->Zx->Nat->Nat->Bool->ZF->List ZZ
 |0,_,_,_,_,_=>[]
 |k+1,p,i,b,st,v=>if Yc n i=Uc then [] else(Vn ((Zp n i).length - (b+1))).flatMap λm=>GC (WT n q k) n q (ZH n p i b (b+1+m) st v)
noncomputable def YQ(n:Zc)(q:Zl)(k:Nat)(y:ZZ)(j d:Nat):List ZZ:=Yp (WT n q k) n q y j d
structure PB (F:ZR) (hF:FO F) (q:Zl) (p:Zx):Prop where
 fare:Zgp F hF p
 cnt:((Z7 p.2.2.2.2.1).length:Int)+1=p.2.2.1
 max:p.2.2.1<=q.2.2.2.2.1
 walk:0<=p.2.2.2.1/\p.2.2.2.1<=1000000
theorem Zvn{b:List ZF}{s:WJ}(h:JJ F hF b s):∃z,F21 s=Ua (z,HY s):=by
 obtain⟨r,d,t,rfl,⟨p,c⟩,l,e⟩:=h.head;obtain⟨a,m,o⟩:=c b.length (Vu _);have v:b.length<d.length:=by omega
 have f:idx d (b.length:Int)=Ua a:=by assumption
 have j:H5 ((Ua F,r,(b.length:Int),d,())::t)=a:=by show (d[((b.length:Int)).toNat]?).getD (-1)=a;grind
 unfold HY;rw[j];unfold F21;simp only[Tr.unc,Vrc,Ze,Za,f];clear c h e;by_cases g:a<0
 ·rw[Zi g,Zt (show¬0<=a by omega)];simp
 ·rw[Zt g,Zi (show 0<=a by omega)];simp only[Ze];by_cases k:F.2.2.2.1=0
  ·simp_all
  ·rw[Zt k];by_cases u:a<F.2.2.2.1
   all_goals simp [*]
theorem Zlh{L:List Zw}(x:Zw)(h:L.length<=1000):F97 L x=Ua (L++[x]):=by
 unfold F97 F167 Tr.cloLegG;have c:(ZI:Nat)=549755813888:=rfl;have a:Ue (Vm L<=ZI)=true:=by grind
 have b:Ue (Vm L+Vm [x]<=ZI)=true:=by grind
 rw[a,Zd,Za,b];rfl
theorem Zt7(f:WO n)(R:q.2.2.2.2.1<=3){x:FX}{N:Nat}(A:Xu F hF n q x N){p:Zx}(h:PB F hF q p){KX:ZZ}(s:KX.2.2.2.1+1=p.2.2.1)(t:KX.2.2.2.2.1=p.2.2.2.1)(u:KX.2.2.2.2.2.2.1=p.2.2.2.2.1)
 {i b c:Nat} (st:Bool) {v:ZF} (r:i<n.2.2.1.length) (B:b<c) (o:c<(Zp n i).length) (K:Small v) (E:Jc v.1) (z:Int×Int×Bool) (O:List Int) (L:List Zw) (hL:L=p.2.2.2.2.2.1++[ZM n i b c st]):
 F105 x (Ua KX,z.1,z.2.1,z.2.2,Jw n v (ZM n i b c st),O,()) L (Zf n i c).1 (Zf n i c).2.1=Ua (x,if HY (XX (ZH n p i b c st v)).2.2.2.2.1=Uc then Ua (Kj n (ZH n p i b c st v)) else Ub)/\
 W6 F hF n (Kj n (ZH n p i b c st v)):=by
 have I:∀w∈Z7 p.2.2.2.2.1++[Jw n v (ZM n i b c st)],JC w:=λw j=>by
  rw[Vj,Vq]at j;rcases j with j|rfl
  ·exact h.fare.2 w j
  ·exact Zb4 f st r B o K E
 have D:=h.cnt;have G:=h.max;obtain⟨k,y,m⟩:=ZiZ hF h.fare.1 I (by omega);have e:GF p.2.2.2.2.1 (Jw n v (ZM n i b c st))=k:=by unfold GF;grind
 have l:(XX (ZH n p i b c st v)).2.2.2.2.1=k:=e;have a:(Zq (ZH n p i b c st v)).2.2.2.2.1=k:=by assumption
 obtain⟨S,M⟩:=Zvn m;have d:=f.stop r o;have C:=f.change _ d.1 d.2;have J:=f.time r o;have g:idx x.1.1 (Zf n i c).1=Ua (WN n (Zf n i c).1):=by rw[A.net];exact(Zoi f.sound d.1 d.2).1
 constructor
 ·unfold F105;simp only[Za,u,y,decide_true,Vg,Ze,M,l]
  cases H:HY k with
  |false=>rfl
  |true=>
   simp only[Vg,Ze,g,Za,Zn];have P:Va .i64 ((Zf n i c).2.1+(WN n (Zf n i c).1).2.2.2.1)=(Zf n i c).2.1+(WN n (Zf n i c).1).2.2.2.1:=ZN (by omega) (by omega);have Q:Va .i64 (KX.2.2.2.1+1)=p.2.2.1:=by rw[s];exact ZN (by omega) (by omega)
   rw[P,Q,t];unfold Kj;rw[a,Zn (by rfl),hL];rfl
 ·refine⟨?_,?_,d⟩
  ·show JJ F hF (Z7 (Zq (ZH n p i b c st v)).2.2.2.2.1) (Zq (ZH n p i b c st v)).2.2.2.2.1;rw[a,Hu m];omega
  ·show∀w∈Z7 (Zq (ZH n p i b c st v)).2.2.2.2.1,JC w;rw[a,Hu m];omega
end Q
namespace Q
open Tr Go
variable {F:ZR}{hF:FO F}{n:Zc}{q:Zl}
theorem Zr2{l:List Int}{a:Int}(h:∀r∈l,a≠r)(c:l.length<=1000):F172 l a=Ua false:=by
 unfold F172;have:F178 l a=Ua (-1):=by
  unfold F178;refine Wj (λr:Unit ⊕ Int=>r=.inl ()) ?_ ?_
  ·refine KP l.length _ (λk (s:Int)=>s=(k:Int)) ?_ ?_ _ rfl
   ·rintro k _ b rfl;left;refine⟨_,?_,rfl⟩;rw[ZV b,Zd,ZJ b,Za,Zt (by grind),Ze,Z8 b (by omega)]
   simp
  simp
 grind
theorem PB.stay{p:Zx}(h:PB F hF q p)(i b c:Nat)(st:Bool)(v:ZF):PB F hF q (ZH n p i b c st v):=⟨h.fare,h.cnt,h.max,h.walk⟩
theorem Zeu(h:WO n)(y:q.2.2.2.2.1<=3){p:Zx}(a:PB F hF q p){i b c:Nat}{st:Bool}{v:ZF}(o:i<n.2.2.1.length)(j:b<c)(k:c<(Zp n i).length)(t:Small v)(m:Jc v.1):
 JJ F hF (Z7 p.2.2.2.2.1++[Jw n v (ZM n i b c st)]) (Zq (ZH n p i b c st v)).2.2.2.2.1/\∀w∈Z7 p.2.2.2.2.1++[Jw n v (ZM n i b c st)],JC w:=by
 have s:∀w∈Z7 p.2.2.2.2.1++[Jw n v (ZM n i b c st)],JC w:=λw d=>by
  rw[Vj,Vq]at d;rcases d with d|rfl
  ·exact a.fare.2 w d
  ·exact Zb4 h st o j k t m
 have l:=a.cnt;have r:=a.max;obtain⟨g,u,x⟩:=ZiZ hF a.fare.1 s (by omega);have e:GF p.2.2.2.2.1 (Jw n v (ZM n i b c st))=g:=by unfold GF;grind
 have f:(Zq (ZH n p i b c st v)).2.2.2.2.1=g:=by assumption
 grind
theorem PB.beg(f:WO n)(e:q.2.2.2.2.1<=3){p:Zx}(d:PB F hF q p){i b c:Nat}{st:Bool}{v:ZF}(k:i<n.2.2.1.length)(g:b<c)(h:c<(Zp n i).length)(o:Small v)(j:Jc v.1)(l:(Kj n (ZH n p i b c st v)).2.2.2.1<q.2.2.2.2.1):PB F hF q (Ji (Kj n (ZH n p i b c st v))):=by
 obtain⟨a,r⟩:=Zeu (st:=st) f e d k g h o j;have m:p.2.2.1<q.2.2.2.2.1:=l;refine⟨⟨?_,?_⟩,?_,?_,d.walk⟩
 ·show JJ F hF (Z7 (Zq (ZH n p i b c st v)).2.2.2.2.1) (Zq (ZH n p i b c st v)).2.2.2.2.1;rw[Hu a];omega
 ·show∀w∈Z7 (Zq (ZH n p i b c st v)).2.2.2.2.1,JC w;rw[Hu a];omega
 ·show ((Z7 (Zq (ZH n p i b c st v)).2.2.2.2.1).length:Int)+1=p.2.2.1+1;rw[Hu a,Vl,List.length_singleton];have:=d.cnt;omega
 assumption
theorem Zde{i k:Nat}(h:k∈W4 n i):k<n.2.2.2.1.length/\(lk n k).1=(i:Int)/\lk n k∈n.2.2.2.1:=by unfold W4 at h;rw[Vxb,Vlb]at h;refine⟨h.1,Xy h.2,?_⟩;unfold lk;grind
theorem ZaM(p:WO n){i k:Nat}(h:k∈W4 n i):∃(c j d:Nat) (st:Bool),lk n k=((i:Int),(c:Int),(j:Int),(d:Int),st,())/\j<n.2.2.1.length/\i≠j/\c<(Zp n i).length/\d<(Zp n j).length/\(Zf n i c).1=(Zf n j d).1/\(st=Uc->c+1=(Zp n i).length/\d=0)/\isLink n i c j d st:=by
 obtain⟨_,t,o⟩:=Zde h;obtain⟨r,c,j,d,st,e,s,a,b,f,g,l,m⟩:=p.link _ o;have:r=i:=by grind
 subst this;exact⟨c,j,d,st,e,a,b,f,g,l,m,by unfold isLink;grind⟩
theorem Zix{l:Zx}{y:ZZ}(h:y∈Yh n l):y=Kj n l/\Jh n l=Uc/\HY (XX l).2.2.2.2.1=true:=by unfold Yh at h;grind
theorem Zcf(c:WO n)(h:q.2.2.2.2.1<=3):∀(K:Nat) (p:Zx) (i b:Nat) (st:Bool) (v:ZF),PB F hF q p->i<n.2.2.1.length->Small v->Jc v.1->∀y∈WT n q K p i b st v,W6 F hF n y
 |0,p,i,b,st,v,_,_,_,_,y,a=>by unfold WT at a;grind
 |K+1,p,i,b,st,v,z,o,A,r,y,a=>by
  unfold WT at a;split at a
  ·grind
  obtain⟨m,G,a⟩:=Vs.1 a;rw[Vlb]at G;have f:b<b+1+m:=by omega
  have l:b+1+m<(Zp n i).length:=by omega
  have g:=Zb4 c st o f l A r;unfold GC at a;rw[Vj]at a;rcases a with a|a
  ·obtain⟨rfl,_⟩:=Zix a;obtain⟨B,J⟩:=Zeu (st:=st) c h z o f l A r;refine⟨?_,?_,c.stop o l⟩
   ·show JJ F hF (Z7 (Zq (ZH n p i b (b+1+m) st v)).2.2.2.2.1) (Zq (ZH n p i b (b+1+m) st v)).2.2.2.2.1;rw[Hu B];omega
   ·show∀w∈Z7 (Zq (ZH n p i b (b+1+m) st v)).2.2.2.2.1,JC w;rw[Hu B];omega
  ·obtain⟨k,E,a⟩:=Vs.1 a;have u:k∈W4 n i:=E;obtain⟨I,j,d,H,e,t,D,C,s,_⟩:=ZaM c u;unfold Hq at a;rw[e]at a;simp only[Vi]at a;split at a
   ·grind
   split at a
   ·exact Zcf c h K _ j d Uc _ (z.stay i b (b+1+m) st v) t g.1 g.2.1 y a
   split at a
   ·unfold Yp at a;split at a
    ·rename_i x;have M:=c.time t s;exact Zcf c h K _ j d Ud _ (z.beg c h o f l A r x) t (ZbS _) ⟨by show 0<=(Zf n j d).2.2.1;omega,by show (Zf n j d).2.2.1<=_;omega⟩ y a
    grind
   grind
end Q
namespace Q
open Tr Go
variable {F:ZR}{hF:FO F}{n:Zc}{q:Zl}
theorem Zkf{α:Type}{o:Option α}{P:α->Prop}(h:∃x,o=Ua x/\P x):∃x,(Vh o λx=>Ua x)=Ua x/\P x:=by grind
noncomputable def HP(n:Zc)(q:Zl)(p:Zx)(i:Nat):Nat:=8*K8 q p+WF n i
def Zd1(F:ZR)(hF:FO F)(n:Zc)(q:Zl)(K:Nat):Prop:= ∀(x:FX) (N:Nat) (p:Zx) (i b:Nat) (st:Bool) (v:ZF) (a:List Int) (KX:ZZ),
 Xu F hF n q x N->PB F hF q p->KX.2.2.2.1+1=p.2.2.1->KX.2.2.2.2.1=p.2.2.2.1->KX.2.2.2.2.2.2.1=p.2.2.2.2.1->KX.2.2.2.2.2.2.2.1=p.2.2.2.2.2.1->p.2.2.2.2.2.1.length+K<=300->i<n.2.2.1.length->b<(Zp n i).length->Small v->Jc v.1->
 a.length+K<=300->(∀r∈a,X4 n r (i:Int))->HP n q p i<K->N+(WT n q K p i b st v).length<=549755813888->
 ∃c,F109 K x (Ua KX,(i:Int),(b:Int),st,v,a,())=Ua c/\Wc F x (WT n q K p i b st v) c
theorem Zuq{i:Nat}(a:i<n.2.2.1.length):idx (RX n) (i:Int)=Ua ((W4 n i).map λk:Nat=>(k:Int)):=by
 unfold RX;have h:i<((Vn n.2.2.1.length).map λi:Nat=>((Vn n.2.2.2.1.length).filter λk=>Ue ((lk n k).1=(i:Int))).map λk:Nat=>(k:Int)).length:=by grind
 rw[ZJ h,Vvc,List.getElem_range];rfl
theorem Zke(l:WO n){K:Nat}(r:Zd1 F hF n q K){x:FX}{N:Nat}(c:Xu F hF n q x N){y:ZZ}(p:y.2.2.2.1<q.2.2.2.2.1->PB F hF q (Ji y))(o:y.2.2.2.2.2.2.2.1.length+K<=300)(t:K<=300){j d:Nat}(f:j<n.2.2.1.length)(e:d<(Zp n j).length)
 (m:y.2.2.2.1<q.2.2.2.2.1->HP n q (Ji y) j<K) (g:N+(Yp (WT n q K) n q y j d).length<=549755813888):
 ∃b,F99 (F109 K) x (Ua y) (j:Int) (d:Int)=Ua b/\Wc F x (Yp (WT n q K) n q y j d) b:=by
 unfold F99 Yp at*;simp only[Za,c.net,c.que,ZaA f,Zaz e];by_cases a:y.2.2.2.1<q.2.2.2.2.1
 ·rw[Zn a]at g⊢;rw[Zi a,Zd];have u:=l.time f e;obtain⟨b,h,s⟩:=r x N (Ji y) j d Ud (Jr (Zf n j d).2.2.1) [] y c (p a) rfl rfl rfl rfl o f e (ZbS _) ⟨by show 0<=(Zf n j d).2.2.1;omega,by show (Zf n j d).2.2.1<=_;omega⟩ (by grind) (by simp) (m a) g;have k:F109 K x (Ua y,(j:Int),(d:Int),Ud,((Zf n j d).2.2.1,(0:Int),(0:Int),(0:Int),()),([]:List Int),())=Ua b:=h;grind
 ·rw[Zg a,Zt a,Ze];exact⟨x,rfl,Wc.nil x⟩
theorem Zve(Q:Whole n)(hT:WW n)(P:q.2.2.2.2.1<=3){K:Nat}(ih:Zd1 F hF n q K){x:FX}{N:Nat}(Y:Xu F hF n q x N){p:Zx}(T:PB F hF q p){KX:ZZ}(e1:KX.2.2.2.1+1=p.2.2.1)(e2:KX.2.2.2.2.1=p.2.2.2.1)(e3:KX.2.2.2.2.2.2.1=p.2.2.2.2.1)
 (a7:p.2.2.2.2.2.1.length+(K+1)<=300) {i b c:Nat} (st sx:Bool) {v:ZF} (H:i<n.2.2.1.length) (Z:b<c) (R:c<(Zp n i).length) (hv:Small v) (hd:Jc v.1) (bb:Int) {V:List Int} (b0:V.length+(K+1)<=300) (hR:∀r∈V,X4 n r (i:Int)) (hh:HP n q p i<K+1)
 {L:List Zw} (hL:L=p.2.2.2.2.2.1++[ZM n i b c st]) {out:Option ZZ} (S:out=if Jh n (ZH n p i b c st v)=Uc/\HY (XX (ZH n p i b c st v)).2.2.2.2.1=Uc then Ua (Kj n (ZH n p i b c st v)) else Ub)
 (hM:N+((W4 n i).flatMap λk=>Hq (WT n q K) n q (ZH n p i b c st v) (lk n k)).length<=549755813888):
 ∃D,F100 (F109 K) x (Ua KX,(i:Int),bb,sx,Jw n v (ZM n i b c st),V++[(i:Int)],()) (c:Int) L out=Ua D/\Wc F x ((W4 n i).flatMap λk=>Hq (WT n q K) n q (ZH n p i b c st v) (lk n k)) D:=by
 have l:=Q.ok;have t:=Zb4 l st H Z R hv hd;have a3:(W4 n i).length<=1024:=by have O:(W4 n i).length<=(Vn n.2.2.2.1.length).length:=Vka _ _;rw[List.length_range]at O;have:=Q.v;omega
 have J:idx x.2.2.1 (i:Int)=Ua ((W4 n i).map λk:Nat=>(k:Int)):=by rw[Y.lnk];exact Zuq H
 rw[ZeZ]at hM⊢;unfold F100;simp only[Y.net,ZaA H,Za,Zaz R,J,Vo];refine Zkf (Zb8 (F:=F) (hF:=hF) (n:=n) (q:=q) (λk x=>(x,(k:Int))) (λx=>x) Y ?_ hM ?_ ?_)
 ·intro m o y hy;rw[Ve o]at hy;have f:y∈Hq (WT n q K) n q (ZH n p i b c st v) (lk n (W4 n i)[m]):=hy;have b2:y∈WT n q (K+1) p i b st v\/Yc n i=true:=by
   by_cases a1:Yc n i=Uc
   ·grind
   left;unfold WT;rw[Zg a1];refine Vs.2 ⟨c - (b+1),by grind,?_⟩;rw[show b+1+(c - (b+1))=c by omega];unfold GC;refine List.mem_append_right _ (Vs.2 ⟨_,Vf o,f⟩)
  obtain⟨E,j,d,C,e,z,a2,a0,g,_⟩:=ZaM l (Vf o);unfold Hq at f;rw[e]at f;simp only[Vi]at f;split at f
  ·grind
  split at f
  ·exact Zcf l P K _ j d Uc _ (T.stay i b c st v) z t.1 t.2.1 y f
  split at f
  ·unfold Yp at f;split at f
   ·rename_i A;have ht:=l.time z g;exact Zcf l P K _ j d Ud _ (T.beg l P H Z R hv hd A) z (ZbS _) ⟨by show 0<=(Zf n j d).2.2.1;omega,by show (Zf n j d).2.2.1<=_;omega⟩ y f
   grind
  grind
 ·intro m s M o w G;rw[Ve o]at G⊢;have a:M+(Hq (WT n q K) n q (ZH n p i b c st v) (lk n (W4 n i)[m])).length<=549755813888:=G;show∃D,_/\Wc F s (Hq (WT n q K) n q (ZH n p i b c st v) (lk n (W4 n i)[m])) D;have u:=Zde (Vf o);obtain⟨E,j,d,C,e,z,a2,a0,g,a4,b1,I⟩:=ZaM l (Vf o);have a5:idx ((W4 n i).map λk:Nat=>(k:Int)) (m:Int)=Ua (((W4 n i)[m]:Nat):Int):=by rw[ZJ (by grind),Vvc]
  have a6:idx n.2.2.2.1 (((W4 n i)[m]:Nat):Int)=Ua ((i:Int),(E:Int),(j:Int),(d:Int),C,()):=by
   have hl:lk n (W4 n i)[m]=n.2.2.2.1[(W4 n i)[m]]'(u.1):=by unfold lk;grind
   rw[ZJ u.1,<-hl,e]
  simp only[ZV o,Zd,a5,Za,w.net,a6,ZaA z,Zaz g,Z8 o (by omega)];unfold Hq at a⊢;rw[e]at a⊢;simp only[Vi]at a⊢;have W:(ZH n p i b c st v).1.2.2.2.1=(c:Int):=rfl;have X:(ZH n p i b c st v).2.1=(Zf n i c).2.1:=rfl;rw[W,X]at a⊢;by_cases k1:(E:Int)≠(c:Int)\/(Zf n j d).2.2.1<(Zf n i c).2.1
  ·rw[Zn k1];have:(bif !Ue ((E:Int)=(c:Int)) then Ua Uc else Ua (Ue ((Zf n j d).2.2.1<(Zf n i c).2.1)))=Ua true:=by grind
   rw[this];exact⟨s,rfl,Wc.nil s⟩
  rw[Zg k1]at a⊢;have k2:(E:Int)=(c:Int):=by omega
  have k3:¬(Zf n j d).2.2.1<(Zf n i c).2.1:=by omega
  rw[Zi k2,Zt k3];simp only[Vg,Ze,Za]
  cases C with
  |true=>
   rw[Zn rfl]at a⊢;simp only[Zd];have B:=ZdF Q I;have a9:=Zdz Q (show j<7 by have:=hT.runs;omega) B;obtain⟨D,O,h2⟩:=ih s M (ZH n p i b c st v) j d Uc (Jw n v (ZM n i b c st)) (V++[(i:Int)]) (KX.1,KX.2.1,KX.2.2.1,KX.2.2.2.1,KX.2.2.2.2.1,KX.2.2.2.2.2.1,KX.2.2.2.2.2.2.1,L,KX.2.2.2.2.2.2.2.2) w (T.stay i b c st v) e1 e2 e3 hL
    (by show (p.2.2.2.2.2.1++[ZM n i b c st]).length+K<=300;grind) z g t.1 t.2.1 (by grind) (λr U=>by
      rw[Vj,Vq]at U;rcases U with U|rfl
      ·exact(hR r U).trans (.one B)
      ·exact .one B) (by unfold HP at hh⊢;have:K8 q (ZH n p i b c st v)=K8 q p:=rfl;omega) a
   rw[O]
   exact⟨D,rfl,h2⟩
  |false=>
   rw[Zg (by simp)]at a⊢;simp only[Ze];by_cases k4:Jh n (ZH n p i b c st v)=Uc/\HY (XX (ZH n p i b c st v)).2.2.2.2.1=Uc
   ·rw[Zn k4]at S;have h:Yh n (ZH n p i b c st v)≠ []:=by unfold Yh;grind
    subst S;simp only[Option.isNone_some,Vna,Zd,Za]
    cases k5:(Zf n j d).2.2.2.1 with
    |false=>
     rw[Zg (by simp)]
     exact⟨s,rfl,Wc.nil s⟩
    |true=>
     rw[Zn ⟨h,k5⟩]at a;rw[Zn ⟨h,rfl⟩];simp only[Zd];obtain⟨D,O,h2⟩:=Zke l ih w (y:=Kj n (ZH n p i b c st v)) (T.beg l P H Z R hv hd) (by show (p.2.2.2.2.2.1++[ZM n i b c st]).length+K<=300;grind) (by omega) z g (λA=>by have a8:p.2.2.1<q.2.2.2.2.1:=A;unfold HP at hh⊢;have e5:K8 q (Ji (Kj n (ZH n p i b c st v)))=(q.2.2.2.2.1 - (p.2.2.1+1)).toNat:=rfl;have e6:K8 q p=(q.2.2.2.2.1 - p.2.2.1).toNat:=rfl;have:=ZaW (n:=n) j;omega) a
     grind
   ·rw[Zg k4]at S;subst S;have h:Yh n (ZH n p i b c st v)=[]:=by unfold Yh;grind
    rw[Zg (by grind)];exact⟨s,rfl,Wc.nil s⟩
 simp
end Q
namespace Q
open Tr Go
variable {F:ZR}{hF:FO F}{n:Zc}{q:Zl}
theorem Zou(hW:Whole n)(hT:WW n)(h3:q.2.2.2.2.1<=3):∀K,Zd1 F hF n q K
 |0=>λ_ _ _ _ _ _ _ _ _ _ _ _ _ _ _ _ _ _ _ _ _ _ hh _=>by omega
 |K+1=>by
  intro x N p i b a v w KX hG hp e1 e2 e3 e4 c7 H hb P hd d0 hR hh hM;have ih:Zd1 F hF n q K:=Zou hW hT h3 K;have B:=hW.ok;have b5:=B.sound.many _ (Vf H);have b2:(Zp n i).length<=32:=by rw[ZcL H];omega
  have d:∀c∈Zp n i,0<=c.1/\c.1<(n.1.length:Int):=by rw[ZcL H];exact B.sound.call _ (Vf H)
  have Z:∀c,(H3 n (ZM n i b c a))=(n.2.1[(rn n (i:Int)).2.2.2.2.1.toNat]?).getD R1:=λ_=>rfl;obtain⟨e,X,E⟩:idx n.2.1 (rn n (i:Int)).2.2.2.2.1=Ua ((n.2.1[(rn n (i:Int)).2.2.2.2.1.toNat]?).getD R1)/\0<=((n.2.1[(rn n (i:Int)).2.2.2.2.1.toNat]?).getD R1).2.1/\((n.2.1[(rn n (i:Int)).2.2.2.2.1.toNat]?).getD R1).2.1<16:=by
   have hm:rn n (i:Int)∈n.2.2.1:=by unfold rn;grind
   have h1:=B.sound.route _ hm;have b0:Kc (rn n (i:Int)).2.2.2.2.1 n.2.1.length=true:=by unfold Kc;grind
   refine⟨Jl b0 R1,?_⟩;have hl:(rn n (i:Int)).2.2.2.2.1.toNat<n.2.1.length:=by omega
   rw[Ks hl];have:=B.sound.mode _ (Vf hl);omega
  generalize c9:(n.2.1[(rn n (i:Int)).2.2.2.2.1.toNat]?).getD R1=R at e X E Z;obtain⟨d1,b9,a1⟩:=ZfR B.sound (d _ (Vf hb)).1 (by grind);obtain⟨⟨z,hz⟩,d4⟩:(∃z:Nat,v.2.2.1=(z:Int))/\v.2.2.1<65536:=⟨⟨_,(Vta P.1.1).symm⟩,P.1.2⟩;obtain⟨⟨m,hm⟩,d3⟩:(∃z:Nat,v.2.2.2.1=(z:Int))/\v.2.2.2.1<65536:=⟨⟨_,(Vta P.2.1).symm⟩,P.2.2⟩;have d2:∀k,b+k<=(Zp n i).length->zN n (Zp n i) b k<65536:=λk hk=>ZdK B.sound d k (by omega);have a3:zN n (Zp n i) b 1=2 ^ (Dg n (Zp n i)[b].1).2.1.toNat:=by show zN n (Zp n i) b 0 ||| zn n (Zp n i) (b+0)=_;unfold zn;rw[Nat.add_zero,Ks hb];show 0 ||| _=_;simp
  have c8:Zf n i b=(Zp n i)[b]:=Zao hb;have a2:idx n.1 (Zf n i b).1=Ua (Dg n (Zp n i)[b].1):=by grind
  have I:F172 w (i:Int)=Ua false:=Zr2 (λr hr h=>X4.irr hW (h▸hR r hr)) (by omega);have T:F169 w=Ua w:=by unfold F169 Tr.cloIntG;have b4:(ZI:Nat)=549755813888:=rfl;grind
  have a9:ZD (Ue (w.length+Vm [(i:Int)]<=ZI))=Ua ():=by have b4:(ZI:Nat)=549755813888:=rfl;rw[Zi (by grind)];rfl
  unfold WT at hM⊢;show∃x',F108 (F109 K) x (Ua KX,(i:Int),(b:Int),a,v,w,())=Ua x' /\_;unfold F108;simp only[hG.net,ZaA H,Za,I];by_cases C:Yc n i=Uc
  ·rw[Zn C];have t:(rn n (i:Int)).2.2.2.2.2.2.1=true:=C;rw[t];exact⟨x,rfl,Wc.nil x⟩
  rw[Zg C]at hM⊢;have t:(rn n (i:Int)).2.2.2.2.2.2.1=false:=by
   cases h:(rn n (i:Int)).2.2.2.2.2.2.1 with
   |true=>exact absurd h C
   |false=>rfl
  rw[t];simp only[Ze,Za,T,a9,Zaz hb,e,Zcb X E,a2,Zcb b9 a1];rw[hz,hm,G7 (by omega) (HZ a1),G7 (by omega) (HZ E),<-a3];have c1:Va .i64 ((b:Int)+1)=((b+1:Nat):Int):=by rw[ZN (by omega) (by omega)];omega
  rw[c1];refine Zkf (Zb8 (F:=F) (hF:=hF) (n:=n) (q:=q) (m:=(Zp n i).length - (b+1)) (g:=λk=>GC (WT n q K) n q (ZH n p i b (b+1+k) a v)) (x:=x) (N:=N)
   (λk s=>(s,((Ua KX,(i:Int),(b:Int),a,(v.1,(if k=0 then v.2.1 else(Zf n i (b+k)).2.1),((z ||| zN n (Zp n i) b (k+1):Nat):Int),((m ||| 2 ^ R.2.1.toNat:Nat):Int),v.2.2.2.2),w++[(i:Int)],()):Zjz),((b+1+k:Nat):Int))) (λs=>s) hG ?hlab hM ?hstep ?hend)
  case hlab=>
   intro k hk y hy;refine Zcf B h3 (K+1) p i b a v hp H P hd y ?_;unfold WT;grind
  case hstep=>
   intro k s M hk f j;have S:b+1+k<(Zp n i).length:=by omega
   have a4:Zf n i (b+1+k)=(Zp n i)[b+1+k]:=Zao S;obtain⟨t1,t2,t3⟩:=ZfR B.sound (d _ (Vf S)).1 (by grind);rw[<-a4]at t1 t2 t3;have V:Ue (((b+1+k:Nat):Int)<((rn n (i:Int)).2.2.2.2.2.2.2.1.length:Int))=true:=Zi (by show ((b+1+k:Nat):Int)<((Zp n i).length:Int);omega);have c2:Va .i64 (((b+1+k:Nat):Int)+1)=((b+1+(k+1):Nat):Int):=by rw[ZN (by omega) (by omega)];omega
   have c4:zN n (Zp n i) b (k+1+1)=zN n (Zp n i) b (k+1) ||| 2 ^ (Dg n (Zf n i (b+1+k)).1).2.1.toNat:=by show zN n (Zp n i) b (k+1) ||| zn n (Zp n i) (b+(k+1))=_;unfold zn;grind
   have b7:Wa .i64 ((z ||| zN n (Zp n i) b (k+1):Nat):Int) ((2 ^ (Dg n (Zf n i (b+1+k)).1).2.1.toNat:Nat):Int)=((z ||| zN n (Zp n i) b (k+1+1):Nat):Int):=by have:z ||| zN n (Zp n i) b (k+1)<2 ^ 16:=Nat.or_lt_two_pow (n:=16) (by omega) (by grind);rw[G7 (by omega) (HZ t3),c4,Vea]
   have b8:Jw n v (ZM n i b (b+1+k) a)=(v.1,(Zf n i (b+1+k)).2.1,((z ||| zN n (Zp n i) b (k+1+1):Nat):Int),((m ||| 2 ^ R.2.1.toNat:Nat):Int),v.2.2.2.2):=by
    unfold Jw;rw[Z,hz,hm];have ez:H9 n (ZM n i b (b+1+k) a)=zN n (Zp n i) b (k+1+1):=by unfold H9;show zN n (Zp n i) (b:Int).toNat (((b+1+k:Nat):Int).toNat+1 - (b:Int).toNat)=_;rw[Vi,Vi];congr 1;omega
    rw[ez,G7 (by omega) (by grind),G7 (by omega) (HZ E)];rfl
   have Q:b<b+1+k:=by omega
   have a0:idx s.1.1 (Zf n i (b+1+k)).1=Ua (Dg n (Zf n i (b+1+k)).1):=by rw[f.net];omega
   simp only[V,Zd,Zaz S,Za,a0,Zcb t2 t3,b7,c2];rw[e4];have J:((Uc,(i:Int),(b:Int),((b+1+k:Nat):Int),(Zf n i b).1,(Zf n i (b+1+k)).1,(Zf n i b).2.2.1,(Zf n i (b+1+k)).2.1,a,()):Zw)=ZM n i b (b+1+k) a:=rfl;rw[J,Zlh _ (by omega),Za,<-b8];have O:∀o:FX,((o,(Ua KX,(i:Int),(b:Int),a,Jw n v (ZM n i b (b+1+k) a),w++[(i:Int)],()),((b+1+(k+1):Nat):Int)):FX×Zjz×Int)=(o,(Ua KX,(i:Int),(b:Int),a,(v.1,(if k+1=0 then v.2.1 else(Zf n i (b+(k+1))).2.1),((z ||| zN n (Zp n i) b (k+1+1):Nat):Int),((m ||| 2 ^ R.2.1.toNat:Nat):Int),v.2.2.2.2),w++[(i:Int)],()),((b+1+(k+1):Nat):Int)):=by grind
   obtain⟨b3,Y⟩:=Zt7 B h3 f hp e1 e2 e3 a H Q S P hd ((i:Int),(b:Int),a) (w++[(i:Int)]) (p.2.2.2.2.2.1++[ZM n i b (b+1+k) a]) rfl;unfold GC at j⊢;have G:(ZH n p i b (b+1+k) a v).1.2.2.1.toNat=i:=rfl;rw[G,Vl]at j;rw[G];have a6:Jh n (ZH n p i b (b+1+k) a v)=(Zf n i (b+1+k)).2.2.2.2.1:=rfl;have D:∃s',(bif (Zf n i (b+1+k)).2.2.2.2.1 then
    Vh (F105 s (Ua KX,(i:Int),(b:Int),a,Jw n v (ZM n i b (b+1+k) a),w++[(i:Int)],()) (p.2.2.2.2.2.1++[ZM n i b (b+1+k) a]) (Zf n i (b+1+k)).1 (Zf n i (b+1+k)).2.1) λA=>
    Vh (bif !Option.isNone A.2 then Vh (F104 A.1 A.2) λc5=>Ua c5 else Ua A.1)
    λc6=>Ua (c6,A.2) else Ua (s,Ub))=Ua (s',if Jh n (ZH n p i b (b+1+k) a v)=Uc/\HY (XX (ZH n p i b (b+1+k) a v)).2.2.2.2.1=Uc then Ua (Kj n (ZH n p i b (b+1+k) a v)) else Ub)/\Wc F s (Yh n (ZH n p i b (b+1+k) a v)) s' :=by
    unfold Yh at j⊢;rw[a6]at j⊢
    cases ha:(Zf n i (b+1+k)).2.2.2.2.1 with
    |false=>
     rw[Zg (by simp),Zg (by simp)]
     exact⟨s,rfl,Wc.nil s⟩
    |true=>
     have W:F105 s (Ua KX,(i:Int),(b:Int),a,Jw n v (ZM n i b (b+1+k) a),w++[(i:Int)],()) (p.2.2.2.2.2.1++[ZM n i b (b+1+k) a]) (Zf n i (b+1+k)).1 (Zf n i (b+1+k)).2.1=_:=b3;rw[Zd,W,Za];by_cases u:HY (XX (ZH n p i b (b+1+k) a v)).2.2.2.2.1=Uc
     ·rw[Zn u,Zn ⟨rfl,u⟩,Zn ⟨rfl,u⟩];rw[ha,Zn ⟨rfl,u⟩]at j;obtain⟨s',k1,k2⟩:=ZlW f Y (by grind);simp_all
     ·rw[Zg u,Zg (by grind),Zg (by grind)];exact⟨s,rfl,Wc.nil s⟩
   obtain⟨s1,b1,U⟩:=D;rw[b1,Za];have b6:∀l∈Yh n (ZH n p i b (b+1+k) a v),W6 F hF n l:=λl hl=>by rw[(Zix hl).1];omega
   have a5:=f.adds b6 U;obtain⟨s2,a7,a8⟩:=Zve hW hT h3 ih a5 hp e1 e2 e3 (by omega) a a H Q S P hd (b:Int) (by omega) hR (by omega) (L:=p.2.2.2.2.2.1++[ZM n i b (b+1+k) a]) rfl rfl (by omega);rw[a7,Za,O];exact⟨s2,rfl,U.trans a8⟩
  case hend=>
   intro s M f;have:((b+1+((Zp n i).length - (b+1)):Nat):Int)=((Zp n i).length:Int):=by omega
   have V:Ue (((b+1+((Zp n i).length - (b+1)):Nat):Int)<((rn n (i:Int)).2.2.2.2.2.2.2.1.length:Int))=false:=Zt (by rw[this];show¬((Zp n i).length:Int)<((Zp n i).length:Int);omega);grind
end Q
