/- Chapter 38: prices by the program and by the reference. -/
import Derived.Test.YtdpenljjnfmgiaaGreatJLwJa28P
import Derived.Test.YtdpenljjnfmgiaaGreatETsF
open BitVec renaming ofInt ->Vi,eq_of_toNat_eq ->Vib,toNat_ofInt ->Vob
open Bool renaming not_true ->Vc,and_eq_true ->Ve,not_eq_false' ->Vm,or_eq_false_iff ->Vx,not_false ->Vy,true_and ->Vza,and_false ->Vkb,false_and ->Vlb,false_eq_true ->Vpb,or_true ->Vtb,not_eq_true' ->Vxb,and_true ->Vic,false_or ->Vjc
open Int renaming toNat_natCast ->Vj,toNat_of_nonneg ->Vha,toNat ->Vjb,le_refl ->Vzb,fdiv ->Vdc
open Go.IntKind renaming wrap ->Va,u64 ->Vs,signed ->Vv,i64 ->Vz,bits ->Vba
open List renaming getElem_mem ->Vd,take_succ_eq_append_getElem ->Vf,length ->Vg,getElem?_eq_getElem ->Vh,mem_append ->Vk,range ->Vl,mem_singleton ->Vn,mem_flatMap ->Vo,length_append ->Vp,replicate ->Vq,length_map ->Vr,getElem_of_mem ->Vu,getElem?_set_ne ->Vw,any_eq_true ->Vaa,append_eq_singleton_iff ->Vca,foldl_append ->Vda,length_filter_le ->Vfa,getElem?_map ->Vga,flatMap_append ->Via,drop_eq_getElem_cons ->Vja,mem_range ->Vla,getElem?_set_self ->Vma,set_append_right ->Vna,length_singleton ->Voa,mem_of_getElem? ->Vpa,getElem?_of_mem ->Vqa,length_set ->Vra,append_nil ->Vsa,singleton_inj ->Vua,pairwise_iff_getElem ->Vya,getElem?_eq_some_iff ->Vab,length_cons ->Vbb,length_take ->Vcb,all_eq_true ->Vdb,length_nil ->Veb,map_append ->Vfb,mem_filter ->Vgb,append_inj_right' ->Vhb,any_cons ->Vmb,set ->Vnb,filter_append ->Vqb,pairwise_cons ->Vrb,isEmpty_cons ->Vvb,take_length ->Vyb,getElem_map ->Vac,any_append ->Vec,range_succ ->Vfc,sum_append ->Vgc,map_cons ->Vkc,sum_cons ->Vlc,set_set ->Vmc,isEmpty ->Vnc
open Nat renaming le_refl ->Vt,zero_le ->Vea,le_trans ->Vka,mul_le_mul_left ->Vta,or_lt_two_pow ->Vva,shiftRight_eq_div_pow ->Vwa,le_of_lt ->Vub,lt_trichotomy ->Vwb,min_eq_left ->Vbc,add_le_add ->Vhc
open Option renaming bind ->Vb,isNone_iff_eq_none ->Vxa,isNone_some ->Vsb,map_some ->Vcc
open Sum renaming elim ->Voc
open Option renaming some ->Ua,none ->Ub
open Bool renaming true ->Uc,false ->Ud
open Decidable renaming decide ->Ue
namespace Q
open Tr Go Dv
def Small(v:ZM):Prop:=(0<=v.2.2.1/\v.2.2.1<65536)/\(0<=v.2.2.2.1/\v.2.2.2.1<65536)
theorem Zfp{a b:Int}(c:0<=a/\a<65536)(d:0<=b/\b<65536):0<=K5 .i64 a b/\K5 .i64 a b<65536:=by obtain⟨x,rfl⟩:∃x:Nat,a=(x:Int):=⟨_,(Vha c.1).symm⟩;obtain⟨y,rfl⟩:∃y:Nat,b=(y:Int):=⟨_,(Vha d.1).symm⟩;rw[Gn (by omega) (by omega)];have:x ||| y<2 ^ 16:=Vva (n:=16) (by omega) (by omega);omega
theorem ZlS{n:Zc}(h:WJ n){x:Zw}(a:KF n x=Uc):(0<=((HW n x:Nat):Int)/\((HW n x:Nat):Int)<65536)/\(0<=((2 ^ (HS n x).2.1.toNat:Nat):Int)/\((2 ^ (HS n x).2.1.toNat:Nat):Int)<65536):=by
 have d:=ZdN h a;obtain⟨_,_,c,b⟩:=ZaW h a;have e:=Ho b
 grind
theorem ZoZ{n:Zc}(h:WJ n){x:Zw}(e:KF n x=Uc){out:List ZM}(c:∀v∈out,Small v):∀v∈X5 n x out,Small v:=by
 intro v a;unfold X5 at a;split at a
 ·rename_i u d;unfold Yo at a;rcases List.mem_or_eq_of_mem_set a with a|rfl
  ·grind
  ·obtain⟨f,g⟩:=ZlS h e;have b:=c u (Vpa d);exact⟨Zfp b.1 f,Zfp b.2 g⟩
 grind
theorem ZhC{n:Zc}(h:WJ n):∀(L:List Zw) (rode:Bool) (out l:List ZM) (e:Int),K6 n L rode out=(l,e)->(∀v∈out,Small v)->∀v∈l,Small v
 |[],_,out,l,e,a,c=>by
  unfold K6 at a
  grind
 |x::L,rode,out,l,e,a,c=>by
  rw[Gs]at a;by_cases f:x.1=Uc/\KF n x=Ud
  ·grind
  rw[Zg f]at a;by_cases g:K0 x=Uc/\(x.1=Ud\/rode=Ud)
  ·grind
  rw[Zg g]at a;by_cases c3:x.1=Uc
  ·rw[Zv c3]at a
   have d:KF n x=true:=by
    grind
   refine ZhC h L Uc _ l e a ?_;split
   ·exact ZoZ h d c
   ·intro v b;rcases Vk.1 b with b|b
    ·grind
    ·simp only[Vn]at b;subst b;exact ZlS h d
  ·rw[Zg c3]at a;exact ZhC h L Ud out l e a c
theorem Ztj(a b d:Int)(f:0<=d):F85 a b d=Ua (!Rk a b d):=by
 unfold F85 Rk
 have g:∀x:Int,0<=Va .u64 x:=fun x=>by simp [Va,Vba,Vv];omega
 rw[Zr (show¬d<0 by omega)];by_cases h:a<=b
 ·rw[Zj h];by_cases c:b<=a
  ·have e:a=b:=by omega
   subst e;rw[Zj c];have e0:Va .u64 (Va .u64 a - Va .u64 a)=0:=by rw[Int.sub_self];rfl
   grind
  ·rw[Zr c];simp only[Ze,Zd,Za];congr 1
   grind
 grind
def zF(s:List ZM):Nat:=s.foldl (fun a v=>a ||| v.2.2.1.toNat) 0
def mF(s:List ZM):Nat:=s.foldl (fun a v=>a ||| v.2.2.2.1.toNat) 0
theorem ZhB{f:ZM->Int} :∀(s:List ZM) (a:Nat),(∀v∈s,0<=f v/\f v<65536)->a<65536->s.foldl (fun a v=>a ||| (f v).toNat) a<65536
 |[],a,_,h=>h
 |v::s,a,b,h=>by rw[List.foldl_cons];refine ZhB s _ (by grind) ?_;have c:=b v List.mem_cons_self;have:a ||| (f v).toNat<2 ^ 16:=Vva (n:=16) (by omega) (by omega);omega
theorem ZfY{s:List ZM}(a:∀v∈s,Small v):zF s<65536:=ZhB (f:=fun v=>v.2.2.1) s 0 (fun v b=>(a v b).1) (by omega)
theorem ZlQ{s:List ZM}(a:∀v∈s,Small v):mF s<65536:=ZhB (f:=fun v=>v.2.2.2.1) s 0 (fun v b=>(a v b).2) (by omega)
def cvB(p:JV)(s:List ZM):Bool:=
 Ue ((s.length:Int)<=p.2.2.1) && (Ue (((X9 62 (zF s):Nat):Int)<=p.2.2.2.1) && (Rk ((s[0]?).getD rd0).1 ((s[s.length - 1]?).getD rd0).1 p.2.2.2.2.1&&Ue (Tr.qandNot .i64 ((mF s:Nat):Int) p.2.2.2.2.2.1=0)))
theorem Zpd(a b:Int):Ue (Tr.qandNot .u64 a (Va .u64 b)=0)=Ue (Tr.qandNot .i64 a b=0):=by
 have d:Vi 64 (Va .u64 b)=Vi 64 b:=by apply Vib;rw[Vob,Vob];simp only[Va,Vba,Vv];omega
 unfold Tr.qandNot;show Ue (Vs.wrap ((Vi 64 a &&& ~~~ Vi 64 (Va .u64 b)).toNat:Int)=0)=Ue (Vz.wrap ((Vi 64 a &&& ~~~ Vi 64 b).toNat:Int)=0);rw[d];have c:=by omega
 generalize (Vi 64 a &&& ~~~ Vi 64 b).toNat=N at*;refine decide_eq_decide.2 ?_;simp only[Va,Vba,Vv]
 grind
theorem Zky{p:JV}{s:List ZM}(e:∀v∈s,Small v)(c:0<s.length)(d:s.length<=100)(h:0<=p.2.2.2.2.1):F83 p s=Ua (cvB p s):=by
 unfold F83 cvB;rw[Zr (by omega)];have el:Va .i64 ((s.length:Int) - 1)=((s.length - 1:Nat):Int):=by rw[ZH (by omega) (by omega)];omega
 have m:idx s (0:Int)=Ua s[0]:=ZE (i:=0) c;have b:s.length - 1<s.length:=by omega
 simp only[Zd,el,ZE b,m,Za,Ztj _ _ _ h];rw[Ku c,Ku b];by_cases g:p.2.2.1<(s.length:Int)
 ·grind
 rw[Zr g,Zj (by omega)]
 cases C:Rk (s[0]).1 (s[s.length - 1]).1 p.2.2.2.2.1 with
 |false=>
  simp
 |true=>
  simp only[Vc,Zd,Za];refine K4 (fun r:Int×Int=>r=(((zF s:Nat):Int),((mF s:Nat):Int))) ?_ ?_
  ·refine KC s.length _ (fun i (t:Int×Int×Int)=>t=(((zF (s.take i):Nat):Int),((mF (s.take i):Nat):Int),(i:Int))) ?_ ?_ _ rfl
   ·rintro i _ a rfl;left;have j:=e _ (Vd a);have E:=ZfY (s:=s.take i) (by grind);have G:=ZlQ (s:=s.take i) (by grind);have f:zF (s.take (i+1))=zF (s.take i) ||| (s[i]).2.2.1.toNat:=by unfold zF;rw[Vf a,Vda];rfl
    have em:mF (s.take (i+1))=mF (s.take i) ||| (s[i]).2.2.2.1.toNat:=by unfold mF;rw[Vf a,Vda];rfl
    refine⟨_,?_,rfl⟩;rw[f,em];generalize zF (s.take i)=Z at*;generalize mF (s.take i)=M at*;simp only[ZQ a,Ze,ZE a,Za,Kb a (by omega),F84,F2];generalize s[i]=v at*;obtain⟨⟨w,z⟩,A,B⟩:=j;obtain⟨x,k⟩:∃x:Nat,v.2.2.1=(x:Int):=by grind
    obtain⟨y,l⟩:∃y:Nat,v.2.2.2.1=(y:Int):=by grind
    have o:Va .u64 (x:Int)=(x:Int):=by simp [Va,Vba,Vv];omega
    have u:Va .u64 (y:Int)=(y:Int):=by simp [Va,Vba,Vv];omega
    rw[k,l,o,u,Zfj (by omega) (by omega),Zfj (by omega) (by omega)];simp
   simp
  ·rintro r rfl;have D:=ZfY e
   have d:F1 ((zF s:Nat):Int)=Ua ((X9 62 (zF s):Nat):Int):=by show lenF ((zF s:Nat):Int)=_;unfold lenF;rw[Zj ⟨by omega,by omega⟩,Vj,Zuq (by omega)];rfl
   simp only[d,Za,F4,Zpd]
   grind
theorem Zqh{z:Nat}(_:z<65536):F142 (z:Int)=Ua ((X9 62 z:Nat):Int):=by
 unfold F142;refine K4 (fun r=>r=((X9 62 z:Nat):Int)) ?_ (by simp)
 have a:∀k,X9 k z<=k:=by
  intro k
  induction k with
  |zero=>exact Vt _
  |succ k l=>rw[X9];omega
 refine KC 62 _ (fun i (s:Int×Int)=>s=(((X9 i z:Nat):Int),(i:Int))) ?_ ?_ _ rfl
 ·rintro i _ j rfl;left;refine⟨_,?_,rfl⟩;have h:=a i
  have e:HR .i64 (z:Int) (i:Int)=Ua ((z >>> i:Nat):Int):=by unfold HR;rw[Zg (by omega),Vj,show min i (Vz.bits)=i from Vbc (show i<=64 by omega),Vwa,Int.fdiv_eq_ediv_of_nonneg _ (by grind)];simp
  have d:z >>> i<=z:=by rw[Vwa];exact Nat.div_le_self _ _
  have c:ZG .i64 ((z >>> i:Nat):Int) 1=((z >>> i % 2:Nat):Int):=by
   unfold ZG
   have b:(Vi Vz.bits ((z >>> i:Nat):Int) &&& Vi Vz.bits 1).toNat=z >>> i % 2:=by rw[BitVec.toNat_and,BitVec.ofInt_natCast,BitVec.toNat_ofNat];show (z >>> i) % 2 ^ 64 &&& 1=z >>> i % 2;simp
   rw[b,ZH (by omega) (by omega)]
  have f:Va .i64 (((X9 i z:Nat):Int)+1)=((X9 i z+1:Nat):Int):=by rw[ZH (by omega) (by omega)];omega
  have g:Va .i64 ((i:Int)+1)=((i+1:Nat):Int):=by rw[ZH (by omega) (by omega)];omega
  rw[Zj (by omega)];simp only[Ze,e,Za,c,f,g];rw[X9]
  grind
 simp
theorem Zon(a b d:Int):F143 a b d=Ua (Rk a b d):=by
 unfold F143 Rk
 grind
theorem Zrx{p:JV}{l:List ZM}(K:∀v∈l,Small v){i k:Nat}(u:i<=k)(w:k<l.length)(J:l.length<=100):F135 p l (i:Int) (k:Int)=Ua (cvB p ((l.drop i).take (k+1 - i))):=by
 have g:((l.drop i).take (k+1 - i)).length=k+1 - i:=by grind
 have b:∀c,c<k+1 - i->((l.drop i).take (k+1 - i))[c]? =l[i+c]? :=by grind
 have d:∀v∈(l.drop i).take (k+1 - i),Small v:=by grind
 unfold F135 cvB;generalize I:(l.drop i).take (k+1 - i)=s at*;refine K4 (fun r:Int×Int=>r=(((zF s:Nat):Int),((mF s:Nat):Int))) ?_ ?_
 ·refine KC (k+1 - i) _ (fun c (t:Int×Int×Int)=>t=(((zF (s.take c):Nat):Int),((mF (s.take c):Nat):Int),((i+c:Nat):Int))) ?_ ?_ _ rfl
  ·rintro c _ o rfl;left;have a:c<s.length:=by omega
   have e:=b c o;rw[Vh a,Vh (by omega)]at e;have e:=(Ky e).symm;have z:=d _ (Vd a);have N:=ZfY (s:=s.take c) (by grind);have O:=ZlQ (s:=s.take c) (by grind);have j:zF (s.take (c+1))=zF (s.take c) ||| (s[c]).2.2.1.toNat:=by unfold zF;rw[Vf a,Vda];rfl
   have em:mF (s.take (c+1))=mF (s.take c) ||| (s[c]).2.2.2.1.toNat:=by unfold mF;rw[Vf a,Vda];rfl
   have f:Va .i64 (((i+c:Nat):Int)+1)=((i+(c+1):Nat):Int):=by rw[ZH (by omega) (by omega)];omega
   refine⟨_,?_,rfl⟩;rw[j,em,Zj (show ((i+c:Nat):Int)<=(k:Int) by omega)];generalize zF (s.take c)=Z at*;generalize mF (s.take c)=M at*;simp only[Ze,ZE (show i+c<l.length by omega),Za,e,f];generalize s[c]=v at*;obtain⟨⟨D,E⟩,G,H⟩:=z;obtain⟨x,A⟩:∃x:Nat,v.2.2.1=(x:Int):=by grind
   obtain⟨y,B⟩:∃y:Nat,v.2.2.2.1=(y:Int):=by grind
   rw[A,B,Gn (by omega) (by omega),Gn (by omega) (by omega)];simp
  grind
 ·rintro r rfl;have C:=ZfY d;have f:Va .i64 ((k:Int) - (i:Int))=((k - i:Nat):Int):=by rw[ZH (by omega) (by omega)];omega
  have h:Va .i64 (((k - i:Nat):Int)+1)=(s.length:Int):=by rw[ZH (by omega) (by omega)];omega
  have g0:((s[0]?).getD rd0)=l[i]:=by grind
  have m:((s[s.length - 1]?).getD rd0)=l[k]:=by grind
  rw[f,h,g0,m];simp only[Zqh C,Za,ZE (show i<l.length by omega),ZE w,Zon]
  grind
end Q
namespace Q
open Tr Go Dv
theorem ZwU(x:Int):Va .i64 x=(x+9223372036854775808) % 18446744073709551616 - 9223372036854775808:=by simp [Va,Vv,Vba];omega
theorem Zoh(j:Za9):F55 j=F141 j:=by
 unfold F55 F141;congr 2;funext s;congr 1;congr 1;funext x
 cases g:x.1 with
 |true=>simp
 |false=>
  simp only[Zd,Vy,Ze];by_cases d:x.2.2.2.2.2.2.1<0
  ·grind
  ·rw[show Ue (x.2.2.2.2.2.2.1<0)=Ud from Zr d,show Ue ((0:Int)<=x.2.2.2.2.2.2.1)=Uc from (by grind)];simp only[Zd,Ze];by_cases e:x.2.2.2.2.2.2.2.1<x.2.2.2.2.2.2.1
   ·grind
   ·rw[show Ue (x.2.2.2.2.2.2.2.1<x.2.2.2.2.2.2.1)=Ud from Zr e,show Ue (x.2.2.2.2.2.2.1<=x.2.2.2.2.2.2.2.1)=Uc from (by grind)];simp only[Zd,Ze,Za];by_cases f:(14400:Int)<Va .i64 (x.2.2.2.2.2.2.2.1 - x.2.2.2.2.2.2.1)
    ·grind
    ·rw[show Ue ((14400:Int)<Va .i64 (x.2.2.2.2.2.2.2.1 - x.2.2.2.2.2.2.1))=Ud from Zr f,show Ue (Va .i64 (x.2.2.2.2.2.2.2.1 - x.2.2.2.2.2.2.1)<=(14400:Int))=Uc from (by grind)];simp only[Zd,Ze]
     have:∀a b c:Int,Va .i64 (a+Va .i64 (b - c))=Va .i64 (Va .i64 (a+b) - c):=by intro a b c;simp only[ZwU];omega
     simp_all
theorem Zsa{F:Z4}(h:(J3 F).2=0):∀p∈F.1,0<=p.2.2.2.2.1:=by
 unfold J3 at h;by_cases e:Gf F=Ud
 ·grind
 rw[Zg e]at h;by_cases b:16<F.1.length
 ·grind
 rw[Zg b]at h;have g:=Zb1 h;intro p f;obtain⟨i,d,rfl⟩:=Vu f;have a:=g i d;unfold HQ at a;rw[Ku d]at a;obtain⟨_,_,c⟩:=De.1 a;have c:YW F.1[i]=true:=by grind
 unfold YW at c
 grind
theorem Zuv(F:Z4)(p:JV)(l:List ZM)(i:Nat)(b:i<l.length)(g:l.length<=100)(e:0<=p.2.1/\p.2.1<=1000000)(f:0<=F.2.1/\F.2.1<=1000000):F140 F p l (i:Int)=Ua (Do F p l i):=by
 unfold F140 Do;have c:Va .i64 (p.2.1 - F.2.1)=p.2.1 - F.2.1:=ZH (by omega) (by omega)
 have em:Tr.imax 0 (p.2.1 - F.2.1)=if 0<p.2.1 - F.2.1 then p.2.1 - F.2.1 else 0:=rfl
 by_cases d:0<i
 ·have a:Va .i64 ((i:Int) - 1)=((i - 1:Nat):Int):=by rw[ZH (by omega) (by omega)];omega
  rw[Zj (by omega)];simp only[Ze,a,ZE (show i - 1<l.length by omega),ZE b,Za,Zon]
  grind
 grind
theorem Zrw{F:Z4}(c:(J3 F).2=0){l:List ZM}(g:∀v∈l,Small v)(f:l.length<=100){p i k:Nat}(b:p<F.1.length)(d:i<=k)(e:k<l.length):(ZV F l).cov p i k=cvB F.1[p] ((l.drop i).take (k+1 - i)):=by
 show covB ((F.1[p]?).getD p0) ((l.drop i).take (k+1 - i))=_;rw[Ku b];have a:((l.drop i).take (k+1 - i)).length=k+1 - i:=by grind
 have:=Zky (p:=F.1[p]) (s:=(l.drop i).take (k+1 - i)) (by grind) (by omega) (by omega) (Zsa c _ (Vd b));unfold covB
 grind
abbrev Yg:=Bool×Int×List Tk×Unit
def GA(c:KA)(r:Yg):Prop:=match c with
 |none=>r.1=Ud
 |some (s,t)=>r.1=Uc/\r.2.1=s/\r.2.2.1=t
def YO(n:Nat)(f:Nat->KA)(T:List Yg):Prop:=T.length=n+1/\ ∀j,j<=n->∃r,T[j]? =Ua r/\GA (f j) r
theorem GA.ok{s:Int}{t:List Tk}{r:Yg}(h:GA (Ua (s,t)) r):r.1=Uc/\r.2.1=s/\r.2.2.1=t:=h
theorem YO.congr{n:Nat}{f g:Nat->KA}{T:List Yg}(h:YO n f T)(e:∀j,j<=n->g j=f j):YO n g T:=
 ⟨h.1,fun j a=>by rw[e j a];exact h.2 j a⟩
theorem YO.set{n:Nat}{f:Nat->KA}{T:List Yg}(h:YO n f T){i:Nat}(d:i<=n){c:KA}{r:Yg}(e:GA c r):YO n (Jx f i c) (T.set i r):=by
 refine⟨by rw[Vra];exact h.1,fun j b=>?_⟩;unfold Jx;by_cases a:j=i
 ·subst a;rw[Zv rfl,Vma (by rw[h.1];omega)]
  grind
 ·rw[Zg a,Vw (Ne.symm a)];exact h.2 j b
theorem Zn2(f:Nat->KA)(i:Nat):Jx f i (f i)=f:=by
 funext j;unfold Jx
 grind
theorem Znc(L:Yi)(i k:Nat)(cur:KA):∀m,Dr L Ub i k cur m=cur
 |0=>rfl
 |m+1=>by rw[Dr,Znc L i k cur m];rfl
def bz:Yg:=(Ud,0,[],())
theorem Zuz{F:Z4}(Z:(J3 F).2=0){l:List ZM}(hl:l.length<=8)(hs:∀v∈l,Small v){f:Nat->KA}{T:List Yg}(g:YO l.length f T)(hB:Bd l.length f){i k p:Nat}(o:i<=k)(hk:k<l.length)(B:p<F.1.length){s:Int}{t:List Tk}(A:f (k+1)=Ua (s,t)):
 ∃X,(Vb (idx F.1 (p:Int)) fun x8=>
 Vb (F135 x8 l (i:Int) (k:Int)) fun x9=>
 bif !x9 then Ua (.inl (T,Va .i64 ((p:Int)+(1:Int))))
 else
 Vb (idx F.1 (p:Int)) fun G=>
 Vb (F140 F G l (i:Int)) fun a=>
 Vb (Zs (Va .i64 ((k:Int)+(1:Int))) (Vg T)) fun H=>
 Vb T[H]? fun e=>
 Vb
 (Vb (Zs (i:Int) (Vg T)) fun I=>
 Vb T[I]? fun J=>
 bif J.1 then
 Vb (Zs (i:Int) (Vg T)) fun K=>
 Vb T[K]? fun M=>
 bif Ue (M.2.1<Va .i64 (a+e.2.1)) then Ua Uc
 else
 Vb (Zs (i:Int) (Vg T)) fun N=>
 Vb T[N]? fun O=>
 bif Ue (Va .i64 (a+e.2.1)=O.2.1) then
 Vb (Zs (Va .i64 ((k:Int)+(1:Int))) (Vg T)) fun P=>
 Vb T[P]? fun Q=>
 Vb (Zs (i:Int) (Vg T)) fun R=>
 Vb T[R]? fun U=>
 Ua
 (decide
 ((↑(Vg U.2.2.1):Int)<=
 Va .i64 ((1:Int)+(↑(Vg Q.2.2.1):Int))))
 else Ua Ud
 else Ua Ud)
 fun V=>
 bif V then Ua (.inl (T,Va .i64 ((p:Int)+(1:Int))))
 else
 Vb (Zs (Va .i64 ((k:Int)+(1:Int))) (Vg T)) fun W=>
 Vb T[W]? fun u=>
 Vb (Zz (Ue (Vg [((p:Int),(i:Int),(k:Int),a,())]+Vg u.2.2.1<=ZD)))
 fun _=>
 Vb (Zs (i:Int) (Vg T)) fun w=>
 Vb T[w]? fun _=>
 Ua
 (.inl
 (Vnb T w
 (Uc,Va .i64 (a+e.2.1),[((p:Int),(i:Int),(k:Int),a,())]++u.2.2.1,()),
 Va .i64 ((p:Int)+(1:Int)))))=(Ua (.inl (X,((p+1:Nat):Int))):Option ((List Yg×Int) ⊕ List Yg))/\YO l.length (Jx f i (DN (ZV F l) (f (k+1)) i k p (f i))) X:=by
 have hF:=ZeM Z;have d:=hF.price _ (Vd B);have hm:=hF.many;obtain⟨b1,b2,b3⟩:=hB (k+1) s t (by omega) A;have e1:Va .i64 ((k:Int)+1)=((k+1:Nat):Int):=by rw[ZH (by omega) (by omega)];omega
 have e2:Va .i64 ((p:Int)+1)=((p+1:Nat):Int):=by rw[ZH (by omega) (by omega)];omega
 obtain⟨rk,E,h⟩:=g.2 (k+1) (by omega);obtain⟨r,D,b⟩:=g.2 i (by omega);rw[A]at h;obtain⟨c1,c2,c3⟩:=GA.ok h;have a1:=g.1;have z:Zs ((k+1:Nat):Int) T.length=Ua (k+1):=KM (by omega);have y:Zs (i:Int) T.length=Ua i:=KM (by omega)
 have C:F140 F F.1[p] l (i:Int)=Ua ((ZV F l).pr p i):=by
  rw[Zuv F F.1[p] l i (by omega) (by omega) d hF.disc];show _=Ua (Do F ((F.1[p]?).getD p0) l i)
  grind
 have a3:=Zds hF (l:=l) (i:=i) (by assumption);have w1:Va .i64 ((ZV F l).pr p i+s)=(ZV F l).pr p i+s:=ZH (by omega) (by omega);have w2:Va .i64 ((1:Int)+(t.length:Int))=((1+t.length:Nat):Int):=by rw[ZH (by omega) (by omega)];omega
 simp only[ZE B,Za,e1,e2,Zrx hs o hk (by omega), <-Zrw Z hs (by omega) B o hk,C,z,y,E,D,c2,c3,w1,w2];rw[A];unfold DN;simp only
 cases a0:(ZV F l).cov p i k with
 |false=>
  refine⟨T,rfl,g.congr fun j hj=>?_⟩;simp only[Vpb,if_false]
  rw[Zn2]
 |true=>
  simp only[Vc,Zd,if_true]
  have hx:(bif r.1 then bif Ue (r.2.1<(ZV F l).pr p i+s) then Ua Uc else bif Ue ((ZV F l).pr p i+s=r.2.1) then Ua (Ue ((r.2.2.1.length:Int)<=((1+t.length:Nat):Int))) else Ua Ud else Ua Ud)=Ua (!ZcH (f i) ((ZV F l).pr p i+s) (1+t.length)):=by
   generalize (ZV F l).pr p i+s=S;generalize 1+t.length=c
   cases m:f i with
   |none=>
    rw[m]at b
    rw[show r.1=Ud from b];rfl
   |some x=>
    obtain⟨cs,Y⟩:=x;rw[m]at b;obtain⟨d1,d2,d3⟩:=GA.ok b;rw[d1,d2,d3];show _=Ua (!(Ue (S<cs) || (Ue (S=cs) &&Ue (c<Y.length))));by_cases q1:cs<S
    ·rw[Zj q1,Zr (show¬S<cs by omega),Zr (by omega)];rfl
    ·rw[Zr q1];by_cases q2:S=cs
     ·rw[Zj q2,Zr (show¬S<cs by omega)];by_cases q3:c<Y.length
      all_goals grind
     ·rw[Zr q2,Zj (show S<cs by omega)];rfl
  rw[hx];simp only[Za]
  cases a2:ZcH (f i) ((ZV F l).pr p i+s) (1+t.length) with
  |false=>
   refine⟨T,rfl,g.congr fun j hj=>?_⟩;simp only[Vpb,if_false]
   rw[Zn2]
  |true=>
   simp only[Vc,Zd]
   have hg:Zz (Ue (Vg [((p:Int),(i:Int),(k:Int),(ZV F l).pr p i,())]+Vg t<=ZD))=Ua ():=by rw[Zj (by simp only[Vbb,Veb,ZD];omega)];rfl
   rw[hg];simp only[Za,if_true];exact⟨_,rfl,g.set (by omega) ⟨rfl,rfl,rfl⟩⟩
theorem ZmR{F:Z4}(H:(J3 F).2=0){l:List ZM}(X:l.length<=8)(Z:∀v∈l,Small v):∃R,F137 F l=Ua R/\GA (Kl (ZV F l) l.length 0) (R.2.2,R.1,R.2.1,()):=by
 have hF:=ZeM H;have G:∀p i,p<(ZV F l).np->0<=(ZV F l).pr p i/\(ZV F l).pr p i<=1000000:=fun p i y=>Zds hF y;have C:(ZV F l).n=l.length:=rfl;unfold F137;have w0:Va .i64 ((l.length:Int)+1)=((l.length+1:Nat):Int):=by rw[ZH (by omega) (by omega)];omega
 have S:Zz (Ue ((0:Int)<=((l.length+1:Nat):Int)/\((l.length+1:Nat):Int)<=((l.length+1:Nat):Int)/\((l.length+1:Nat):Int)<=(ZD:Int)))=Ua ():=by
  have Y:(ZD:Int)=549755813888:=by rfl
  rw[Zj (by omega)];rfl
 have w:∀o:List Yg,o=Vq (l.length+1) bz->Zs (l.length:Int) o.length=Ua l.length/\o[l.length]? =Ua bz:=by rintro o rfl;exact⟨KM (by simp),by simp⟩
 obtain⟨r1,r2⟩:=w _ rfl;rw[w0];erw[S];simp only[Za,Vj];erw[r1];simp only[Za];erw[r2];simp only[Za]
 have key:∀(o:Option (List Yg)) (k:List Yg->Option (Int×List Tk×Bool)),(∃T,o=Ua T/\YO l.length (Kl (ZV F l) l.length) T)->(∀T,YO l.length (Kl (ZV F l) l.length) T->∃R,k T=Ua R/\GA (Kl (ZV F l) l.length 0) (R.2.2,R.1,R.2.1,()))->∃R,Vb o k=Ua R/\GA (Kl (ZV F l) l.length 0) (R.2.2,R.1,R.2.1,()):=by
  grind
 refine key _ _ (KC l.length _ (fun c (s:List Yg×Int)=>∃T,s=(T,(l.length:Int) - 1 - (c:Int))/\YO l.length (Kl (ZV F l) c) T) ?_ ?_ _ ?_) ?_
 ·rintro c _ Q ⟨T,rfl,b⟩;left;obtain⟨i,U⟩:∃i:Nat,(l.length:Int) - 1 - (c:Int)=(i:Int):=⟨l.length - 1 - c,by omega⟩;have W:i<l.length:=by omega
  have V:i=l.length - (c+1):=by omega
  rw[U];rw[Zj (by omega)];simp only[Ze];refine RB (fun h=>YO l.length (Kl (ZV F l) (c+1)) h) ?_ ?_
  ·refine KC (l.length - i) _ (fun m (s:List Yg×Int)=>∃T,s=(T,((i+m:Nat):Int))/\YO l.length (Jx (Kl (ZV F l) c) i (rowK (ZV F l) (Kl (ZV F l) c) i m)) T) ?_ ?_ _ ⟨T,rfl,b.congr fun j E=>?_⟩
   ·rintro m _ Y ⟨T,rfl,b⟩;left;have I:i+m<l.length:=by omega
    have z:Va .i64 (((i+m:Nat):Int)+1)=((i+m+1:Nat):Int):=by rw[ZH (by omega) (by omega)];omega
    have P:=b.1;have D:Zs ((i+m+1:Nat):Int) T.length=Ua (i+m+1):=KM (by omega);obtain⟨r,J,d⟩:=b.2 (i+m+1) (by omega);rw[Gx _ _ (by omega)]at d;simp only[ZQ I,Ze,z,D,J,Za]
    cases f:Kl (ZV F l) c (i+m+1) with
    |none=>
     rw[f]at d;rw[show r.1=Ud from d];refine⟨_,rfl,T,rfl,?_⟩
     have e:rowK (ZV F l) (Kl (ZV F l) c) i (m+1)=rowK (ZV F l) (Kl (ZV F l) c) i m:=by rw[Dv.rowK,f,Znc]
     grind
    |some x=>
     obtain⟨s,t⟩:=x;rw[f]at d;obtain⟨q1,_⟩:=GA.ok d;rw[q1];simp only[Vc,Zd];refine RB (fun h=>YO l.length (Jx (Kl (ZV F l) c) i (rowK (ZV F l) (Kl (ZV F l) c) i (m+1))) h) ?_ ?_
     ·refine KC F.1.length _ (fun p (s:List Yg×Int)=>∃T,s=(T,(p:Int))/\YO l.length (Jx (Kl (ZV F l) c) i (Dr (ZV F l) (Kl (ZV F l) c (i+m+1)) i (i+m) (rowK (ZV F l) (Kl (ZV F l) c) i m) p)) T) ?_ ?_ _ ⟨T,rfl,b⟩
      ·rintro p _ y ⟨T,rfl,b⟩;left
       have B:Bd l.length (Jx (Kl (ZV F l) c) i (Dr (ZV F l) (Kl (ZV F l) c (i+m+1)) i (i+m) (rowK (ZV F l) (Kl (ZV F l) c) i m) p)):=by
        intro j K M E e;have g:=ZdI G c (by omega);by_cases a:j=i
        ·subst a;rw[R2]at e;exact Zfv (n:=l.length) (by grind) (by omega) (by omega) (g _) (Zft (by grind) g m (by omega)) p (show p<=F.1.length by omega) K M e
        ·rw[Gx _ _ a]at e;exact g j K M e
       obtain⟨h,A,N⟩:=Zuz H X Z b B (i:=i) (k:=i+m) (p:=p) (by omega) I y (s:=s) (t:=t) (by rw[Gx _ _ (by omega)];omega);simp only[ZQ y,Ze];rw[z]at A;rw[show ((i+m+1:Nat):Int)=((i+m+1:Nat):Int) from rfl]at A;refine⟨_,A,h,rfl,?_⟩;rw[Zn3,R2,Gx _ _ (by omega)]at N
       assumption
      ·rintro _ ⟨T,rfl,b⟩;simp only[XQ,Zd];exact⟨_,rfl,b⟩
     grind
   ·rintro _ ⟨T,rfl,b⟩;rw[show i+(l.length - i)=l.length by omega];simp only[XQ,Zd];refine⟨_,rfl,b.congr fun j E=>?_⟩;rw[Kl];by_cases a:j=i
    ·subst a;rw[Zv (by omega),R2];rfl
    ·rw[Zg (by omega),Gx _ _ a]
   ·by_cases a:j=i
    ·subst a;rw[R2,ZiG (ZV F l) c (by omega) j (by omega)];rfl
    ·rw[Gx _ _ a]
  ·intro h O;have z:Va .i64 ((i:Int) - 1)=(l.length:Int) - 1 - ((c+1:Nat):Int):=by rw[ZH (by omega) (by omega)];omega
   grind
 ·grind
 ·refine⟨(Vq (l.length+1) bz).set l.length (Uc,bz.2),?_,by simp,fun j E=>?_⟩
  ·rw[ZH (by omega) (by omega)];simp only[Int.natCast_zero,Int.sub_zero];rfl
  ·rw[Kl];by_cases u:j=l.length
   ·subst u;rw[Zv C.symm,Vma (by simp)];exact⟨_,rfl,rfl,rfl,rfl⟩
   ·rw[Zg (by omega),Vw (Ne.symm u),List.getElem?_replicate,Zv (by omega)];exact⟨_,rfl,rfl⟩
 ·intro T b;obtain⟨r,J,Q⟩:=b.2 0 (Vea _);have hb:Zs (0:Int) T.length=Ua 0:=KM (i:=0) (by grind)
  simp_all
end Q
namespace Q
open Tr Go Dv
theorem Zwj{F:Z4}{l:List ZM}(O:l.length<=8){T:List Yk}(D:X0 (Kl (ZV F l) l.length) T):∀(m i:Nat) (acc:List Tk),l.length - i=m->i<=l.length->acc.length<=i->∀(t:List Tk),(∃s,Kl (ZV F l) l.length i=Ua (s,t))->run
 (fun d:List Tk×Int=>
 bif Ue (d.2<(↑(Vg l):Int)) then
 Vb (Zs d.2 (9:Nat)) fun h=>
 Vb T[h]? fun e=>
 Vb (Zz (Ue (Vg d.1+Vg [e.2.2.2.1]<=ZD))) fun _=>
 Vb (Zs d.2 (9:Nat)) fun j=>
 Vb T[j]? fun o=>Ua (.inl (d.1++[e.2.2.2.1],Va .i64 (o.2.2.2.1.2.2.1+(1:Int))))
 else Ua (.inr d.1))
 (acc,(i:Int))=Ua (acc++t):=by
  intro m
  induction m using Nat.strongRecOn with
  |_ m H=>
   intro i acc P M v t x;by_cases g:i<l.length
   ·obtain⟨s,b⟩:=x;obtain⟨p,k,q,I,J,u,K,B,C⟩:=Zwf (ZV F l) (by assumption) s t b;obtain⟨r,E,w⟩:=D.2 i (by omega);rw[b]at w;obtain⟨_,_,_,y⟩:=G2.ok w;have a:=y _ _ u;have f:Zs (i:Int) 9=Ua i:=KM (by omega);have N:k<l.length:=B;have A:Va .i64 ((k:Int)+1)=((k+1:Nat):Int):=by rw[ZH (by omega) (by omega)];omega
    have c:∀z:List Tk×Int,z=(acc++[((p:Int),(i:Int),((k:Nat):Int),(q:Int),())],((k+1:Nat):Int))->(bif Ue ((i:Int)<(↑(Vg l):Int)) then
     Vb (Zs (i:Int) (9:Nat)) fun h=>
     Vb T[h]? fun e=>
     Vb (Zz (Ue (Vg acc+Vg [e.2.2.2.1]<=ZD))) fun _=>
     Vb (Zs (i:Int) (9:Nat)) fun j=>
     Vb T[j]? fun o=>(Ua (.inl (acc++[e.2.2.2.1],Va .i64 (o.2.2.2.1.2.2.1+(1:Int)))):Option ((List Tk×Int) ⊕ List Tk))
     else Ua (.inr acc))=Ua (.inl z):=by
     rintro z rfl;simp only[ZQ g,Ze,f,E,Za,a,A];rw[Dg (by grind)];rfl
    rw[Y1 (c _ rfl)];rw[H (l.length - (k+1)) (by omega) (k+1) _ rfl (by omega) (by grind) J ⟨I,C⟩,u];simp
   ·have:i=l.length:=by omega
    subst this;obtain⟨s,b⟩:=x;rw[ZiH (ZV F l) 0 l.length l.length (by assumption) (Vea _) (Vt _),Kl,Zv (by rfl)]at b;have G:t=[]:=by grind
    subst G;rw[Vsa];exact XA (by simp)
theorem Zlb{F:Z4}(d:(J3 F).2=0)(j:∀x∈F.1,x.1.length<=9223372036854775807)(l:List ZM)(o:l.length<=1000):
 (8<l.length/\F11 F l=Ua (0,[],33))\/(l.length<=8/\Kl (ZV F l) l.length 0=Ub/\F11 F l=Ua (0,[],34))\/(l.length<=8/\ ∃s t,Kl (ZV F l) l.length 0=Ua (s,t)/\F11 F l=Ua (ZcP F s,t,0)):=by
 have hF:=ZeM d;unfold F11 F17;rw[Zhu F j];simp only[Za,Zj d,Vc,Zd];by_cases m:8<l.length
 ·grind
 ·right;rw[Zr (by omega)];simp only[Zd,Za,decide_true,Vc];obtain⟨T,h,e⟩:=ZrL hF (show l.length<=8 by omega);rw[h];simp only[Za];obtain⟨r,k,b⟩:=e.2 0 (by omega);rw[show Vjb (0:Int)=0 from rfl,k];simp only[Za]
  cases a:Kl (ZV F l) l.length 0 with
  |none=>
   left;rw[a]at b;rw[show r.1=Ud from b]
   grind
  |some x=>
   right;obtain⟨s,t⟩:=x;rw[a]at b;obtain⟨f,g,_,_⟩:=G2.ok b;have c:=Zwj (by omega) e l.length 0 [] rfl (Vea _) (Vt _) t ⟨s,a⟩;refine⟨by omega,s,t,rfl,?_⟩;rw[f];simp only[Vc,Zd];refine K4 (fun y=>y=t) ⟨_,c,rfl⟩ ?_;rintro y rfl;simp only[g,Zqx,Za]
theorem Zqu(F:Z4)(s:Int):F133 F s=Ua (ZcP F s):=by
 unfold F133 ZcP;by_cases h:0<F.2.2.2.1
 ·rw[Zj h];show Ua (Tr.imin F.2.2.2.1 s)=_;unfold Tr.imin
  grind
 grind
abbrev JH:=Int×Int×Int×Int×Int×Unit
theorem Zkw(n:Zc)(q:El Zk)(j:Za9)(u:Yh n)(I:j.1.length<=40)(H:∀x∈j.1,R7 x):∃c:JH×List Tk×Int,F52 n q j=Ua c/\F134 n q j=Ua c/\c.2.1.length<=100000:=by
 obtain⟨r,g,y,z⟩:=Zva n j u I;unfold F52 F134;have K:=ZiS j (by omega) H;have A:F141 j=Ua (Jr j.1):=by rw[<-Zoh];omega
 rw[g,y];simp only[Za];by_cases D:r.2=0
 case neg=>
  simp_all
 rw[Zj D];simp only[Vc,Zd];rcases Zfq n j u (by omega) with ⟨m,_⟩|⟨d,_,m⟩
 ·grind
 rw[g]at m;have w:=(Ky m).symm;obtain⟨l,e⟩:=r;simp only at D z⊢;have E:∀v∈l,Small v:=ZhC d j.1 Ud [] l e w (by simp);rcases Zlb d.fare (fun x M=>u.prods x M) l (by omega) with ⟨k,b⟩|⟨k,J,b⟩|⟨k,s,t,h,b⟩
 ·rw[b,Zj (show (8:Int)<(l.length:Int) by omega)];simp
 ·rw[b,Zr (show¬(8:Int)<(l.length:Int) by omega)];obtain⟨R,o,f⟩:=ZmR d.fare k E;rw[J]at f;simp only[Zd,o,Za];rw[show R.2.2=Ud from f];simp
 ·rw[b,Zr (show¬(8:Int)<(l.length:Int) by omega)];obtain⟨R,o,f⟩:=ZmR d.fare k E;rw[h]at f;obtain⟨B,C,c3⟩:=GA.ok f;simp only at B C c3;simp only[Zd,o,Za,B,C,c3,Vc,decide_true,Zqu,K,A];have hF:=ZeM d.fare;obtain⟨_,_,a⟩:=ZdI (L:=ZV n.2.2.2.2.2.1 l) (fun p i b=>Zds hF b) l.length (Vt _) 0 s t h;have a:t.length<=l.length:=a;by_cases G:0<j.1.length
  ·rw[Zj (by omega)];have el:Va .i64 ((j.1.length:Int) - 1)=((j.1.length - 1:Nat):Int):=by rw[ZH (by omega) (by omega)];omega
   have N:idx j.1 (0:Int)=Ua j.1[0]:=ZE (i:=0) G;simp only[Ze,el,N,ZE (show j.1.length - 1<j.1.length by omega),Za]
   grind
  ·rw[Zr (by omega)];exact⟨_,rfl,rfl,by grind⟩
end Q
namespace Q
open Tr Go
theorem Zvr{α β τ:Type}{step:List β×Int->Option ((List β×Int) ⊕ τ)}(l:List α)(f:α->List β)(R:List β->τ)
 (a:∀i (b:i<l.length),step ((l.take i).flatMap f,(i:Int))=Ua (.inl ((l.take i).flatMap f++f l[i],((i+1:Nat):Int))))
 (c:step (l.flatMap f,(l.length:Int))=Ua (.inr (R (l.flatMap f)))):run step ([],(0:Int))=Ua (R (l.flatMap f)):=by
 refine Exists.elim (KC (step:=step) l.length (fun r=>r=R (l.flatMap f)) (fun i st=>st=((l.take i).flatMap f,(i:Int))) ?_ ?_ ([],(0:Int)) (by simp)) ?_
 ·rintro i _ b rfl;left;refine⟨_,a i b,?_⟩;rw[Vf b,Via];simp
 all_goals grind
theorem Zsl{α β:Type}(f:α->β)(l:List α):l.flatMap (fun x=>[f x])=l.map f:=by
 induction l with
 |nil=>rfl
 |cons x l a=>grind
theorem Zsj{α β:Type}{f:α->List β}(a:∀x,(f x).length<=1)(l:List α):(l.flatMap f).length<=l.length:=by
 induction l with
 |nil=>simp
 |cons x l b=>grind
abbrev Zl:=Int×Int×Int×Bool×Int×Int×Bool×Bool×Int×Bool×Unit
def D7(n:Zc)(r:Hd):Hb:=(n.2.1[r.2.2.2.2.1.toNat]?).getD r0
def Ri(n:Zc)(q:Zl)(r:Hd):Bool:=Tr.useB q r (D7 n r)
def WO(n:Zc)(s:Int):DH:=(n.1[s.toNat]?).getD s0
def Ye(n:Zc)(q:Zl)(s:Int):Bool:=(WO n s).2.2.1|| !q.2.2.2.2.2.2.1
def Jb(n:Zc)(q:Zl)(c:Wu):Wu:=if Ye n q c.1 then c else(c.1,c.2.1,c.2.2.1,Ud,Ud,())
theorem Zm8{n:Zc}(a:WJ n){r:Hd}(c:r∈n.2.2.1):idx n.2.1 r.2.2.2.2.1=Ua (D7 n r)/\D7 n r∈n.2.1:=by
 have h:=a.route _ c;have b:Ke r.2.2.2.2.1 n.2.1.length=true:=by simp [Ke];omega
 refine⟨W7 b r0,?_⟩;unfold D7
 grind
theorem Zwy{n:Zc}(a:WJ n)(q:Zl){r:Hd}(e:r∈n.2.2.1):F36 n q r=Ua (Ri n q r):=by obtain⟨b,c⟩:=Zm8 a e;have d:=(a.mode _ c).1;unfold F36 Tr.useF;rw[b];simp only[Za,show Ue ((0:Int)<=(D7 n r).2.1)=Uc from Zj d,Vtb,Ze];rfl
theorem Zv3{n:Zc}(a:WJ n){r:Hd}(d:r∈n.2.2.1){c:Wu}(b:c∈r.2.2.2.2.2.2.2.1):idx n.1 c.1=Ua (WO n c.1):=by have h:=a.call _ d _ b;exact W7 (show Ke c.1 n.1.length=Uc by simp [Ke];omega) s0
theorem Zt9{n:Zc}(q:Zl){s:Int}(h:idx n.1 s=Ua (WO n s)):F35 n q s=Ua (Ye n q s):=by
 unfold F35;rw[h];simp only[Za];unfold Ye
 grind
theorem Zra{n:Zc}(d:WJ n)(q:Zl){r:Hd}(g:r∈n.2.2.1):F34 n q r.2.2.2.2.2.2.2.1=Ua (r.2.2.2.2.2.2.2.1.map (Jb n q)):=by
 have o:=(d.many _ g).2;unfold F34;rw[Zvr r.2.2.2.2.2.2.2.1 (fun c=>[Jb n q c]) id ?_ ?_]
 ·simp only[Za,id,Zsl,Vr];generalize p:r.2.2.2.2.2.2.2.1.map (Jb n q)=m;have a:m.length=r.2.2.2.2.2.2.2.1.length:=by grind
  rw[<-a]
  have k:Zs (m.length:Int) (m.length+1)=Ua m.length:=by unfold Zs;rw[Zv (by omega)];simp
  have l:sliceB m.length m.length Ub (Ua (m.length:Int))=Ua (0,m.length):=by unfold sliceB;simp
  grind
 ·intro i b;have j:=Vd b;simp only[ZQ b,Ze,ZE b,Za];rw[Zt9 q (Zv3 d g j)];have h:=Zsj (f:=fun c=>[Jb n q c]) (by simp) (r.2.2.2.2.2.2.2.1.take i);rw[Vcb]at h;simp only[Za]
  have e:(bif !Ye n q (r.2.2.2.2.2.2.2.1[i]).1 then Ua (((r.2.2.2.2.2.2.2.1[i]).1,(r.2.2.2.2.2.2.2.1[i]).2.1,(r.2.2.2.2.2.2.2.1[i]).2.2.1,Ud,Ud,(r.2.2.2.2.2.2.2.1[i]).2.2.2.2.2):Wu) else Ua r.2.2.2.2.2.2.2.1[i])=Ua (Jb n q r.2.2.2.2.2.2.2.1[i]):=by
   unfold Jb
   grind
  erw[e];simp only[Za];rw[Dg (by grind),Kb b (by omega)];rfl
 simp
structure Few (n:Zc):Prop where
 stops:n.1.length<=4096
 routes:n.2.1.length<=4096
 runs:n.2.2.1.length<=4096
 links:n.2.2.2.1.length<=4096
 paths:n.2.2.2.2.1.length<=4096
 prods:n.2.2.2.2.2.1.1.length<=4096
 calls:∀r∈n.2.2.1,r.2.2.2.2.2.2.2.1.length<=4096
theorem Zax{α:Type}(l:List α)(h:l.length<=4096):(Vb (Zz (Ue (Vg ([]:List Unit)+Vg l<=ZD))) fun _=>
 Vb (Zs (↑(Vg ([]++l)):Int) (Vg ([]++l)+(1:Nat))) fun a=>
 Vb (sliceB (Vg ([]++l)) a Ub (Ua (↑(Vg ([]++l)):Int))) fun b=>Ua (List.take b.2 ([]++l)))=Ua l:=by
  have e0:Zz (Ue (Vg ([]:List Unit)+Vg l<=ZD))=Ua ():=by
   unfold Zz ZD
   grind
  have c:Zs (l.length:Int) (l.length+1)=Ua l.length:=by unfold Zs;grind
  have d:sliceB l.length l.length Ub (Ua (l.length:Int))=Ua (0,l.length):=by unfold sliceB;simp
  grind
theorem Zq3{n:Zc}(h:Few n):F66 n=Ua n:=by
 unfold F66;have k:F77 n.1=Ua n.1:=Zax n.1 h.stops;have d:F75 n.2.1=Ua n.2.1:=Zax n.2.1 h.routes;have f:F76 n.2.2.1=Ua n.2.2.1:=Zax n.2.2.1 h.runs;have b:F73 n.2.2.2.1=Ua n.2.2.2.1:=Zax n.2.2.2.1 h.links;have c:F72 n.2.2.2.2.1=Ua n.2.2.2.2.1:=Zax n.2.2.2.2.1 h.paths;have j:F74 n.2.2.2.2.2.1.1=Ua n.2.2.2.2.2.1.1:=Zax n.2.2.2.2.2.1.1 h.prods;rw[k,d,f,b,c];simp only[Za];refine K4 (fun r:Zc=>r=(n.1,n.2.1,n.2.2.1,n.2.2.2.1,n.2.2.2.2.1,n.2.2.2.2.2.1,())) (KC n.2.2.1.length _ (fun i (st:Zc×Int)=>st=((n.1,n.2.1,n.2.2.1,n.2.2.2.1,n.2.2.2.2.1,n.2.2.2.2.2.1,()),(i:Int))) ?_ ?_ _ rfl) ?_
 ·rintro i _ a rfl;left;have g:F71 (n.2.2.1[i]).2.2.2.2.2.2.2.1=Ua (n.2.2.1[i]).2.2.2.2.2.2.2.1:=Zax _ (h.calls _ (Vd a));simp only[ZQ a,Ze,KM a,Za,Vh a,g];refine⟨_,rfl,?_⟩;rw[Kb a (by have:=h.runs;omega)];have e:Vnb n.2.2.1 i ((n.2.2.1[i]).1,(n.2.2.1[i]).2.1,(n.2.2.1[i]).2.2.1,(n.2.2.1[i]).2.2.2.1,(n.2.2.1[i]).2.2.2.2.1,(n.2.2.1[i]).2.2.2.2.2.1,(n.2.2.1[i]).2.2.2.2.2.2.1,(n.2.2.1[i]).2.2.2.2.2.2.2.1,(n.2.2.1[i]).2.2.2.2.2.2.2.2)=n.2.2.1:=List.set_getElem_self a
  grind
 all_goals grind
def X6(n:Zc)(q:Zl)(r:Hd):Hd:=(r.1,r.2.1,r.2.2.1,r.2.2.2.1,r.2.2.2.2.1,r.2.2.2.2.2.1, !Ri n q r,r.2.2.2.2.2.2.2.1.map (Jb n q),())
def HP(n:Zc)(q:Zl):List Kh:=if q.2.2.2.2.2.2.1 then n.2.2.2.2.1.filter (fun p=>p.2.2.2.1) else n.2.2.2.2.1
def Kv(n:Zc)(q:Zl):Zc:=(n.1,n.2.1,n.2.2.1.map (X6 n q),n.2.2.2.1,HP n q,n.2.2.2.2.2.1,())
def GX(n:Zc)(q:Zl)(i:Nat):List Hd:=(n.2.2.1.take i).map (X6 n q)++n.2.2.1.drop i
theorem Zvy(n:Zc)(q:Zl){i:Nat}(a:i<=n.2.2.1.length):(GX n q i).length=n.2.2.1.length:=by simp [GX];omega
theorem Zvx(n:Zc)(q:Zl){i:Nat}(a:i<n.2.2.1.length):(GX n q i)[i]? =Ua n.2.2.1[i]:=by
 unfold GX
 grind
theorem Zvz(n:Zc)(q:Zl){i:Nat}(b:i<n.2.2.1.length):(GX n q i).set i (X6 n q n.2.2.1[i])=GX n q (i+1):=by
 unfold GX;have a:((n.2.2.1.take i).map (X6 n q)).length=i:=by grind
 rw[Vna _ _ (by omega),a,Nat.sub_self,Vja b,List.set_cons_zero,Vf b,Vfb];simp
theorem Zpc{n:Zc}(d:WJ n)(hF:Few n)(q:Zl)(g:F31 n q=Ua 0):F33 n q=Ua (Kv n q,0):=by
 unfold F33;rw[g];simp only[Za,decide_true,Vc,Zd];rw[Zq3 hF];simp only[Za];refine K4 (fun r:Zc=>r=(n.1,n.2.1,n.2.2.1.map (X6 n q),n.2.2.2.1,n.2.2.2.2.1,n.2.2.2.2.2.1,())) (KC n.2.2.1.length _ (fun i (st:Zc×Int)=>st=((n.1,n.2.1,GX n q i,n.2.2.2.1,n.2.2.2.2.1,n.2.2.2.2.2.1,()),(i:Int))) ?_ ?_ _ (by rfl)) ?_
 ·rintro i _ a rfl;left;have e:=Vd a;have j:=Zvy n q (Vub a);have b:i<(GX n q i).length:=by omega
  simp only[ZQ a,Ze,ZE a,Za,Zwy d q e,KM b,Zvx n q a,Zra d q e];refine⟨_,?_,rfl⟩;rw[Kb a (by have:=hF.runs;omega)];have c:i<((GX n q i).set i ((n.2.2.1[i]).1,(n.2.2.1[i]).2.1,(n.2.2.1[i]).2.2.1,(n.2.2.1[i]).2.2.2.1,(n.2.2.1[i]).2.2.2.2.1,(n.2.2.1[i]).2.2.2.2.2.1, !Ri n q n.2.2.1[i],(n.2.2.1[i]).2.2.2.2.2.2.2)).length:=by grind
  erw[KM c];simp only[Za];erw[Vma b];simp only[Za];erw[Vmc];congr 2;have:=Zvz n q a;rw[<-this];rfl
 ·rintro _ rfl;refine⟨_,by simp only[XQ,Zd];rfl,?_⟩;simp [GX]
 ·rintro _ rfl;unfold Kv HP
  cases h:q.2.2.2.2.2.2.1 with
  |false=>rfl
  |true=>
   simp only[Ze,if_true];refine K4 (fun r:Zc=>r=(n.1,n.2.1,n.2.2.1.map (X6 n q),n.2.2.2.1,n.2.2.2.2.1.filter (fun p=>p.2.2.2.1),n.2.2.2.2.2.1,())) (KC n.2.2.2.2.1.length _ (fun i (st:Zc×Int)=>st=((n.1,n.2.1,n.2.2.1.map (X6 n q),n.2.2.2.1,(n.2.2.2.2.1.take i).filter (fun p=>p.2.2.2.1),n.2.2.2.2.2.1,()),(i:Int))) ?_ ?_ _ (by simp)) ?_
   ·rintro i _ a rfl;left;have f:=Vfa (fun p:Kh=>p.2.2.2.1) (n.2.2.2.2.1.take i);rw[Vcb]at f;have k:=hF.paths;simp only[ZQ a,Ze,ZE a,Za];rw[Kb a (by omega),Vf a,Vqb]
    cases l:(n.2.2.2.2.1[i]).2.2.2.1 with
    |false=>
     grind
    |true=>
     simp only[Ze];rw[Dg (by grind)]
     grind
   all_goals simp
def qB(k:Nat)(q:Zl):Bool:=Ke q.1 k&& (Ke q.2.1 k&& (Ue (0<=q.2.2.1/\q.2.2.1<=3155932800) && (Ue (0<=q.2.2.2.2.1/\q.2.2.2.2.1<=8) && (Ue (0<=q.2.2.2.2.2.1/\q.2.2.2.2.2.1<=86400) && (Ue (0<=q.2.2.2.2.2.2.2.2.1/\q.2.2.2.2.2.2.2.2.1<=255) && !(q.2.2.2.2.2.2.2.2.2.1&&q.2.2.2.1))))))
theorem ZwP(x a b:Int):F32 x a b=Ua (Ue (a<=x/\x<=b)):=Hk x a b
theorem ZaB(x a b:Int):F154 x a b=Ua (Ue (a<=x/\x<=b)):=Hk x a b
theorem ZbN(x:Int){m:Nat}(a:m<=9223372036854775807):F154 x 0 (Va .i64 ((m:Int) - 1))=Ua (Ke x m):=ZeY x a
theorem Zn9(k:Nat)(a:k<=9223372036854775807)(q:Zl):F149 (k:Int) q=Ua (qB k q):=by
 unfold F149 qB;simp only[ZaB];rw[show Ue ((0:Int)<=q.1/\q.1<=Va .i64 ((k:Int) - 1))=Ke q.1 k from Ky ((ZaB _ _ _).symm.trans (ZbN q.1 a)),show Ue ((0:Int)<=q.2.1/\q.2.1<=Va .i64 ((k:Int) - 1))=Ke q.2.1 k from Ky ((ZaB _ _ _).symm.trans (ZbN q.2.1 a))]
 grind
open Classical in
noncomputable def H8(n:Zc)(q:Zl):Int:=if Whole n then(if qB n.1.length q=Uc then 0 else 22) else 21
theorem ZcQ{n:Zc}{q:Zl} :H8 n q=0↔Whole n/\qB n.1.length q=true:=by
 unfold H8
 grind
open Classical in
theorem Za4{n:Zc}(h:Yh n):F124 n=Ua (Ue (Whole n)):=by obtain⟨r,_,a,b⟩:=ZgL n h;unfold F124;rw[a];simp only[Za];congr 1;exact decide_eq_decide.2 b
open Classical in
theorem Zj8{n:Zc}(h:Yh n)(q:Zl):F146 n q=Ua (H8 n q):=by
 unfold F146 H8;rw[Za4 h];simp only[Za];by_cases a:Whole n
 ·rw[Zj a,Zv a];have b:=a.sound.stops;simp only[Vc,Zd];rw[Zn9 n.1.length (by omega)];simp only[Za]
  cases qB n.1.length q<;>rfl
 ·rw[Zr a,Zg a];rfl
theorem Zj7{n:Zc}(h:Yh n)(q:Zl):F31 n q=Ua (H8 n q):=by
 obtain⟨r,c,_,d⟩:=ZgL n h;unfold F31 H8;rw[c];simp only[Za];by_cases a:Whole n
 ·rw[Zj (d.2 a),Zv a];have b:n.1.length<=9223372036854775807:=by have:=a.sound.stops;omega
  simp only[Vc,Zd,ZwP];rw[show Ue ((0:Int)<=q.1/\q.1<=Va .i64 ((n.1.length:Int) - 1))=Ke q.1 n.1.length from Ky ((ZaB _ _ _).symm.trans (ZbN q.1 b)),show Ue ((0:Int)<=q.2.1/\q.2.1<=Va .i64 ((n.1.length:Int) - 1))=Ke q.2.1 n.1.length from Ky ((ZaB _ _ _).symm.trans (ZbN q.2.1 b))];unfold qB;simp only[Za]
  grind
 grind
theorem Zq6{c l:List Kh}(h:XM c l=Uc):c=l:=by
 unfold XM at h;rw[Ve,KD,Vxa]at h;obtain⟨e,a⟩:=h;have a:=WU.1 a;refine List.ext_getElem e fun i d b=>?_;have:=a i d;unfold eqF at this;rw[Ku d,Ku b]at this
 have f:sameF c[i] l[i]=true:=by
  grind
 unfold sameF at f
 grind
theorem Zq7(l:List Kh):XM l l=true:=by unfold XM;rw[Ve,KD,Vxa];refine⟨rfl,WU.2 fun i a=>?_⟩;unfold eqF sameF;simp
theorem Zib{k:Nat}{l:List Kh} :(∀i,i<l.length->Wh k l i=0)↔(∀p∈l,YZ k p=Ud/\Y0 p=Ud)/\l.Pairwise fun a b=>JP a≠JP b:=by
 constructor
 ·intro h;refine⟨fun p o=>?_,Vya.2 fun i j c f d e=>?_⟩
  ·obtain⟨i,c,rfl⟩:=Vu o;have:=ZaT (h i c)
   grind
  ·have:=(ZaT (h j f)).2.2;refine this ⟨i,d,?_⟩
   grind
 ·rintro ⟨g,m⟩ i c;obtain⟨a,b⟩:=g _ (Vd c);unfold Wh;rw[Ku c,Zg (by grind),Zg (by grind),Zg];rintro ⟨j,f,e⟩;rw[Ku (by omega)]at e;exact Vya.1 m j i (by omega) c f e
theorem Zk0{α β:Type}(p:β->Bool)(f:α->List β)(l:List α):(l.flatMap f).filter p=l.flatMap fun x=>(f x).filter p:=by
 induction l with
 |nil=>rfl
 |cons x l a=>grind
theorem Zs3(a b:Nat)(d f:Int):(JC a b d f).filter (fun p=>p.2.2.2.1)=JC a b f f:=by
 unfold JC
 grind
theorem Zo9(it:Nat->Nat->List JI)(n m:Nat):(WN it n m).filter (fun p=>p.2.2.2.1)=WN (fun a b=>(it a b).filter (fun p=>p.2.2.2.1)) n m:=by
 unfold WN XS;rw[Zk0];congr 1;funext a;rw[Zk0]
 grind
theorem ZsH{k:Nat}(g:k<=64){l:List Kh}(s:l.length<=4096)(x:∀i,i<l.length->Wh k l i=0)(G:∀c,F120 l (k:Int)=Ua c->XM c l=Uc):
 (∀i,i<(l.filter fun p=>p.2.2.2.1).length->Wh k (l.filter fun p=>p.2.2.2.1) i=0)/\ ∀c,F120 (l.filter fun p=>p.2.2.2.1) (k:Int)=Ua c->XM c (l.filter fun p=>p.2.2.2.1)=true:=by
 obtain⟨H,I⟩:=Zib.1 x;have f:∀i,i<(l.filter fun p=>p.2.2.2.1).length->Wh k (l.filter fun p=>p.2.2.2.1) i=0:=Zib.2 (by grind);refine⟨f,fun c h=>?_⟩;have hF:=ZhA x;have d:=ZhA f;have e:(l.filter fun p=>p.2.2.2.1).length<=4096:=by grind
 obtain⟨c0,A,B,_⟩:=ZgP g hF s;obtain⟨o,C,D,_⟩:=ZgP g d e;have y:=ZgQ g hF s (fun a b=>(ZeA hF a b).imp id fun h=>h.2);have z:=ZgQ g d e (fun a b=>(ZeA d a b).imp id fun h=>h.2);rw[A]at y;rw[C]at z;have e0:=Zq6 (G c0 B);obtain rfl:o=c:=Ky (D.symm.trans h)
 have r:∀free,Kg (l.filter fun p=>p.2.2.2.1) free=Kg l true:=by
  intro free;funext u v w;refine propext ⟨fun⟨p,t,_,h⟩=>?_,fun⟨p,t,E,h⟩=>?_⟩
  ·obtain⟨j,m⟩:=Vgb.1 t;exact⟨p,j,fun _=>m,h⟩
  ·have:=E rfl;exact⟨p,by grind,fun _=>this,h⟩
 have key:o=l.filter fun p=>p.2.2.2.1:=by
  rw[Ky z]
  conv=>rhs;rw[<-e0,Ky y]
  rw[Zo9,r,r];congr 1;funext a b;exact(Zs3 a b _ _).symm
 rw[key];exact Zq7 _
theorem Zeq(n:Zc)(q:Zl)(l:List Wu)(i:Nat):(((l.map (Jb n q))[i]?).getD c0).1=((l[i]?).getD c0).1/\(((l.map (Jb n q))[i]?).getD c0).2.1=((l[i]?).getD c0).2.1/\(((l.map (Jb n q))[i]?).getD c0).2.2.1=((l[i]?).getD c0).2.2.1:=by
 rw[Vga]
 cases l[i]? with
 |none=>simp
 |some c=>
  simp only[Vcc,Option.getD_some];unfold Jb
  grind
theorem Zqm(n:Zc)(q:Zl)(l:List Wu)(k lo a:Int):Xs (l.map (Jb n q)) k lo a=Xs l k lo a:=by
 have h:Xx (l.map (Jb n q)) k lo a=Xx l k lo a:=by
  funext i;obtain⟨b,c,d⟩:=Zeq n q l i;obtain⟨e,f,g⟩:=Zeq n q l (i - 1);unfold Xx ZcK ZcL ZcM
  grind
 unfold Xs
 grind
theorem Zm6(n:Zc)(q:Zl)(a:Int):(rn (Kv n q) a).2.2.2.2.2.2.2.1=(rn n a).2.2.2.2.2.2.2.1.map (Jb n q):=by
 unfold rn;show (((n.2.2.1.map (X6 n q))[a.toNat]?).getD u0).2.2.2.2.2.2.2.1=_;rw[Vga]
 cases n.2.2.1[a.toNat]? <;>rfl
theorem ZtD(n:Zc)(q:Zl)(i:Nat):WV (Kv n q) i=WV n i:=by have a:(Kv n q).2.2.1.length=n.2.2.1.length:=Vr ..;unfold WV Hg H7;simp only[Zm6,Vr,a];have b:∀(l:List Wu) (x:Int),(cl (l.map (Jb n q)) x).1=(cl l x).1:=fun l x=>(Zeq n q l _).1;simp only[b];rfl
theorem Zvl(n:Zc)(q:Zl){i:Nat}(f:i<n.2.2.1.length):XT (Kv n q) i=XT n i:=by
 have c:∀j,j<n.2.2.1.length->((Kv n q).2.2.1[j]?).getD u0=X6 n q ((n.2.2.1[j]?).getD u0):=by
  intro j a;show ((n.2.2.1.map (X6 n q))[j]?).getD u0=_
  grind
 unfold XT;rw[c i f]
 have d:(∃j,j<i/\runK (((Kv n q).2.2.1[j]?).getD u0)=runK (X6 n q ((n.2.2.1[i]?).getD u0)))↔∃j,j<i/\runK ((n.2.2.1[j]?).getD u0)=runK ((n.2.2.1[i]?).getD u0):=by
  constructor
  ·rintro ⟨j,a,e⟩;rw[c j (by omega)]at e;exact⟨j,a,e⟩
  ·rintro ⟨j,a,e⟩;refine⟨j,a,?_⟩;rw[c j (by omega)];exact e
 have b:Xs (X6 n q ((n.2.2.1[i]?).getD u0)).2.2.2.2.2.2.2.1 ((Kv n q).1.length:Int) 0 3155932800=Xs ((n.2.2.1[i]?).getD u0).2.2.2.2.2.2.2.1 (n.1.length:Int) 0 3155932800:=Zqm n q _ _ _ _;simp only[b,d];rfl
theorem Zjv{n:Zc}(q:Zl)(e:n.2.2.2.2.1.length<=4096)(h:Whole n):Whole (Kv n q):=by
 have a:(Kv n q).2.2.1.length=n.2.2.1.length:=Vr ..
 have d:(∀i,i<(HP n q).length->Wh n.1.length (HP n q) i=0)/\ ∀c,F120 (HP n q) (n.1.length:Int)=Ua c->XM c (HP n q)=true:=by
  unfold HP;split
  ·exact ZsH h.sound.stops e (WU.1 h.q) h.w
  ·exact⟨WU.1 h.q,h.w⟩
 refine⟨h.s,h.t,by rw[a];exact h.u,?_,h.v,?_,WU.2 d.1,d.2,h.z⟩
 ·rw[a];exact WU.2 fun i b=>by rw[Zvl n q b];exact WU.1 h.f i b
 ·exact WU.2 fun i b=>by rw[ZtD];exact WU.1 h.g i b
end Q
namespace Q
open Tr Go
def Zou(n:Zc)(l:List Wu)(j:Nat):Nat:=2 ^ (WO n ((l[j]?).getD c0).1).2.1.toNat
theorem ZnF{n:Zc}(h:WJ n){a:Int}(d:0<=a)(e:a<(n.1.length:Int)):idx n.1 a=Ua (WO n a)/\0<=(WO n a).2.1/\(WO n a).2.1<16:=by
 have c:Ke a n.1.length=true:=by unfold Ke;grind
 refine⟨W7 c s0,?_⟩;have b:a.toNat<n.1.length:=by omega
 unfold WO;rw[Ku b];exact h.zone _ (Vd b)
theorem Zw1{n:Zc}(h:WJ n){x:Zw}(o:KF n x=Uc):F144 n x=Ua ((zN n (KT n x) x.2.2.1.toNat (x.2.2.2.1.toNat+1 - x.2.2.1.toNat):Nat):Int):=by
 unfold KF at o;simp only[Ve,KD]at o;obtain⟨w,y,p,z⟩:=o;have v:=D5 w;have f:=(h.many _ v).2;have t:∀c∈KT n x,0<=c.1/\c.1<(n.1.length:Int):=h.call _ v;have e:idx n.2.2.1 x.2.1=Ua (rn n x.2.1):=W7 w u0;unfold F144;rw[e];simp only[Za];have d:(rn n x.2.1).2.2.2.2.2.2.2.1=KT n x:=rfl;simp only[d]at f⊢;generalize KT n x=l at*;obtain⟨a,r⟩:∃a:Nat,x.2.2.1=(a:Int):=⟨x.2.2.1.toNat,by omega⟩;obtain⟨b,s⟩:∃b:Nat,x.2.2.2.1=(b:Int):=⟨x.2.2.2.1.toNat,by omega⟩;rw[r]at y p;rw[s]at p z;rw[r,s];simp only[Vj];rw[JG (n:=b+1 - a) (fun i (st:Int×Int)=>st=(((zN n l a i:Nat):Int),((a+i:Nat):Int))) (fun _=>0) (fun _=>((zN n l a (b+1 - a):Nat):Int)) ((zN n l a (b+1 - a):Nat):Int) ?_ ?_ ?_ ((0:Int),(a:Int)) rfl]
 ·unfold pick
  grind
 ·rintro i _ B rfl _;have u:a+i<l.length:=by omega
  have g:=t _ (Vd u);obtain⟨k,m,j⟩:=ZnF h g.1 g.2;refine⟨(((zN n l a (i+1):Nat):Int),((a+(i+1):Nat):Int)),?_,rfl⟩;have A:Va .i64 (((a+i:Nat):Int)+1)=((a+(i+1):Nat):Int):=by rw[ZH (by omega) (by omega)];omega
  simp only[Zj (show ((a+i:Nat):Int)<=(b:Int) by omega),Ze,ZE u,Za,k,Rb m j,A];rw[Gn (Zcn h t (a:=a) i (by omega)) (Ho j)]
  have:zN n l a (i+1)=zN n l a i ||| 2 ^ (WO n l[a+i].1).2.1.toNat:=by
   show zN n l a i ||| Zou n l (a+i)=_;unfold Zou
   grind
  grind
 all_goals grind
theorem Zmj{c d:Bool}{e:Int}{K:Option Int}{k:Int}(h:K=Ua k):(Vb (bif c then Ua Uc else Ua d) fun x=>bif x then Ua e else K)=Ua (bif c||d then e else k):=by
 grind
theorem Zbj{c d:Bool}{e:Int}{K:Option Int}{k:Int}(h:K=Ua k):(Vb (bif c then Ua d else Ua Ud) fun x=>bif x then Ua e else K)=Ua (bif c&&d then e else k):=by
 grind
theorem ZbW{c:Bool}{e:Int}{K:Option Int}{k:Int}(h:K=Ua k):(bif c then Ua e else K)=Ua (bif c then e else k):=by
 grind
theorem Zbn{o:Option Bool}{c:Bool}{e:Int}{K:Option Int}{k:Int}(a:o=Ua c)(h:K=Ua k):(Vb o fun x=>bif x then Ua e else K)=Ua (bif c then e else k):=by
 grind
theorem WI{c:Bool}{e k:Int}(a:e≠0):(bif c then e else k)=0↔c=Ud/\k=0:=by
 grind
def Ze9(q:Zl)(t:Hb):Bool:=Ue (q.2.2.2.2.2.2.2.2.1=(0:Int)) ||decide (ZG .i64 (Vdc q.2.2.2.2.2.2.2.2.1 (2 ^ (min (Vjb t.2.1) 64))) 1=1)
theorem ZuK(a:Int):ZG .i64 a 1=0\/ZG .i64 a 1=1:=by
 unfold ZG
 have h:(Vi Vz.bits a &&& Vi Vz.bits 1).toNat=(Vi Vz.bits a).toNat % 2:=by
  grind
 rw[h];have:(Vi Vz.bits a).toNat % 2=0\/(Vi Vz.bits a).toNat % 2=1:=by omega
 rcases this with h|h<;>rw[h]
 ·left;rfl
 ·right;rfl
theorem ZtQ(q:Zl)(t:Hb)(b:0<=t.2.1):(bif !Ue (q.2.2.2.2.2.2.2.2.1=(0:Int)) then Vb (HR .i64 q.2.2.2.2.2.2.2.2.1 t.2.1) fun x=>Ua (Ue (ZG .i64 x (1:Int)=(0:Int))) else Ua Ud)=Ua (!Ze9 q t):=by
 unfold Ze9
 have a:HR .i64 q.2.2.2.2.2.2.2.2.1 t.2.1=Ua (Vdc q.2.2.2.2.2.2.2.2.1 (2 ^ (min (Vjb t.2.1) 64))):=by unfold HR;rw[Zg (by omega)];rfl
 rw[a];simp only[Za]
 cases Ue (q.2.2.2.2.2.2.2.2.1=(0:Int)) with
 |true=>rfl
 |false=>
  rcases ZuK (Vdc q.2.2.2.2.2.2.2.2.1 (2 ^ (min (Vjb t.2.1) 64))) with h|h<;>rw[h]<;>rfl
def Dq(n:Zc)(q:Zl)(x:Zw):Int:=
 bif !Ue ((cl (KT n x) x.2.2.1).1=x.2.2.2.2.1) || !Ue ((cl (KT n x) x.2.2.2.1).1=x.2.2.2.2.2.1) then 24 else
 bif !Ue ((cl (KT n x) x.2.2.1).2.2.1=x.2.2.2.2.2.2.1) || !Ue ((cl (KT n x) x.2.2.2.1).2.1=x.2.2.2.2.2.2.2.1) then 10 else
 bif (rn n x.2.1).2.2.2.2.2.2.1 then 27 else
 bif q.2.2.2.2.2.2.1&& !(rn n x.2.1).2.2.2.2.2.1 then 29 else
 bif q.2.2.2.2.2.2.2.1&& !(D7 n (rn n x.2.1)).2.2.1 then 30 else
 bif !Ze9 q (D7 n (rn n x.2.1)) then 31 else
 bif !K0 x&& !(cl (KT n x) x.2.2.1).2.2.2.1 then 25 else
 bif !K0 x&& !Ye n q x.2.2.2.2.1 then 29 else 0
theorem ZkO{n:Zc}{x:Zw}(a:KF n x=Uc):idx n.2.2.1 x.2.1=Ua (rn n x.2.1)/\rn n x.2.1∈n.2.2.1/\idx (rn n x.2.1).2.2.2.2.2.2.2.1 x.2.2.1=Ua (cl (KT n x) x.2.2.1)/\idx (rn n x.2.1).2.2.2.2.2.2.2.1 x.2.2.2.1=Ua (cl (KT n x) x.2.2.2.1):=by
 unfold KF at a;simp only[Ve,KD]at a;obtain⟨b,d,e,c⟩:=a;unfold KT at c
 refine⟨W7 b u0,D5 b,W7 ?_ c0,W7 ?_ c0⟩<;> (unfold Ke;grind)
theorem Zmi{n:Zc}(q:Zl){s:Int}(h:Ke s n.1.length=Uc):F148 n q s=Ua (Ye n q s):=by
 unfold F148 Ye;rw[show idx n.1 s=Ua (WO n s) from W7 h s0]
 grind
theorem Zu7{n:Zc}(a:WJ n)(q:Zl){x:Zw}(l:KF n x=Uc)(j:Ke x.2.2.2.2.1 n.1.length=Uc):F157 n q x=Ua (Dq n q x):=by
 obtain⟨b,d,e,f⟩:=ZkO l;obtain⟨g,h⟩:=Zm8 a d;have k:=(a.mode _ h).1;unfold F157 Dq;rw[b];simp only[Za];rw[e,f,g];simp only[Za];refine Zmj (Zmj (ZbW (Zbj (Zbj (Zbn (ZtQ q _ k) (Zbj (Zbn (c:= !K0 x&& !Ye n q x.2.2.2.2.1) ?_ rfl)))))));rw[Zmi q j]
 grind
def HM(x:Zw)(p:Kh):Bool:=Ue (p.1=x.2.2.2.2.1) && (Ue (p.2.1=x.2.2.2.2.2.1) &&Ue (p.2.2.1=Va .i64 (x.2.2.2.2.2.2.2.1 - x.2.2.2.2.2.2.1)))
def Gd(q:Zl)(p:Kh):Bool:=p.2.2.2.1|| !q.2.2.2.2.2.2.1
def HV(n:Zc)(q:Zl)(x:Zw):Int:=bif n.2.2.2.2.1.any fun p=>HM x p&&Gd q p then 0 else bif n.2.2.2.2.1.any (HM x) then 29 else 18
theorem ZcD{α:Type}{l:List α}{i:Nat}(h:i<l.length)(f:α->Bool):(l.take (i+1)).any f=((l.take i).any f||f l[i]):=by rw[Vf h,Vec];simp
theorem ZwE{n:Zc}(g:n.2.2.2.2.1.length<=4096)(q:Zl)(x:Zw):F158 n q x=Ua (HV n q x):=by
 unfold F158;refine K4 (fun r:Int ⊕ Int=>Voc id id r=HV n q x) ?_ ?_
 ·refine KC n.2.2.2.2.1.length _ (fun i (s:Int×Int)=>s=((bif (n.2.2.2.2.1.take i).any (HM x) then 29 else 18),(i:Int))/\((n.2.2.2.2.1.take i).any fun p=>HM x p&&Gd q p)=Ud) ?_ ?_ _ ⟨rfl,rfl⟩
  ·rintro i _ a ⟨rfl,b⟩;simp only[ZQ a,Ze,ZE a,Za,Kb a (by omega)]
   have e:(bif !Ue ((n.2.2.2.2.1[i]).1=x.2.2.2.2.1) then Ua Uc else bif !Ue ((n.2.2.2.2.1[i]).2.1=x.2.2.2.2.2.1) then Ua Uc else Ua !Ue ((n.2.2.2.2.1[i]).2.2.1=Va .i64 (x.2.2.2.2.2.2.2.1 - x.2.2.2.2.2.2.1)))=Ua (!HM x n.2.2.2.2.1[i]):=by
    unfold HM
    grind
   have f:(bif (n.2.2.2.2.1[i]).2.2.2.1 then Ua Uc else Ua !q.2.2.2.2.2.2.1)=Ua (Gd q n.2.2.2.2.1[i]):=by
    unfold Gd
    grind
   rw[e,f];simp only[Za]
   cases c:HM x n.2.2.2.2.1[i] with
   |false=>
    left;refine⟨_,rfl,?_,?_⟩
    ·rw[ZcD a,c,Bool.or_false]
    ·rw[ZcD a,b,c];rfl
   |true=>
    cases d:Gd q n.2.2.2.2.1[i] with
    |true=>
     right;refine⟨_,rfl,?_⟩;unfold HV
     grind
    |false=>
     left;refine⟨_,rfl,?_,?_⟩
     ·rw[ZcD a,c,Vtb];rfl
     ·rw[ZcD a,b,c,d];rfl
  ·rintro _ ⟨rfl,b⟩;simp only[XQ,Zd];refine⟨_,rfl,?_⟩;rw[Vyb]at b⊢;unfold HV
   grind
 grind
def Jv(n:Zc)(q:Zl)(x:Zw):Int:=
 bif !Ke x.2.2.2.2.1 n.1.length|| !Ke x.2.2.2.2.2.1 n.1.length then 9 else
 bif (bif x.1 then !KF n x else !Ue (x.2.1=0) || (!Ue (x.2.2.1=0) || (!Ue (x.2.2.2.1=0) ||K0 x))) then 9 else
 bif !Ue (0<=x.2.2.2.2.2.2.1/\x.2.2.2.2.2.2.1<=3155932800) || !Ue (0<=x.2.2.2.2.2.2.2.1/\x.2.2.2.2.2.2.2.1<=3155932800) then 10 else
 bif x.1 then Dq n q x else HV n q x
theorem ZgE{o:Option Bool}{c:Bool}{e:Int}{K:Option Int}{k:Int}(a:o=Ua c)(h:c=Ud->K=Ua k):(Vb o fun x=>bif x then Ua e else K)=Ua (bif c then e else k):=by
 grind
theorem Ztu{n:Zc}(d:WJ n)(f:n.2.2.2.2.1.length<=4096)(q:Zl)(x:Zw):F155 n q x=Ua (Jv n q x):=by
 have e:n.1.length<=9223372036854775807:=by have:=d.stops;omega
 unfold F155 Jv;rw[ZbN _ e,ZbN _ e];refine ZgE (c:= !Ke x.2.2.2.2.1 n.1.length|| !Ke x.2.2.2.2.2.1 n.1.length) (by grind) fun g=>?_;rw[Zhm]
 refine ZgE (c:=bif x.1 then !KF n x else !Ue (x.2.1=0) || (!Ue (x.2.2.1=0) || (!Ue (x.2.2.2.1=0) ||K0 x))) ?_ fun a=>?_
 ·grind
 ·rw[ZaB,ZaB];refine ZgE (c:= !Ue (0<=x.2.2.2.2.2.2.1/\x.2.2.2.2.2.2.1<=3155932800) || !Ue (0<=x.2.2.2.2.2.2.2.1/\x.2.2.2.2.2.2.2.1<=3155932800)) ?_ fun _=>?_
  ·grind
  ·cases b:x.1 with
   |false=>
    simp only[Zd]
    rw[ZwE f];rfl
   |true=>
    rw[b]at a;simp only[Ze]at a⊢
    rw[Zu7 d q (by grind) (by
     grind)]
    rfl
def ZaL(a b:Zw)(stay:Bool)(l:H2):Bool:=Ue (l.1=a.2.1) && (Ue (l.2.1=a.2.2.2.1) && (Ue (l.2.2.1=b.2.1) && (Ue (l.2.2.2.1=b.2.2.1) && (l.2.2.2.2.1==stay))))
def GM(n:Zc)(a b:Zw)(stay:Bool):Bool:=n.2.2.2.1.any (ZaL a b stay)
theorem ZlM{n:Zc}(g:n.2.2.2.1.length<=4096)(a b:Zw)(stay:Bool):F156 n a b stay=Ua (GM n a b stay):=by
 unfold F156;refine K4 (fun r:Unit ⊕ Bool=>Voc (fun _=>Ud) id r=GM n a b stay) ?_ ?_
 ·unfold GM;refine KC n.2.2.2.1.length _ (fun i (s:Int)=>s=(i:Int)/\(n.2.2.2.1.take i).any (ZaL a b stay)=Ud) ?_ ?_ _ ⟨rfl,rfl⟩
  ·rintro i _ c ⟨rfl,e⟩;simp only[ZQ c,Ze,ZE c,Za,Kb c (by omega)]
   have d:(bif Ue ((n.2.2.2.1[i]).1=a.2.1) then
 bif Ue ((n.2.2.2.1[i]).2.1=a.2.2.2.1) then
 bif Ue ((n.2.2.2.1[i]).2.2.1=b.2.1) then
 bif Ue ((n.2.2.2.1[i]).2.2.2.1=b.2.2.1) then Ua ((n.2.2.2.1[i]).2.2.2.2.1==stay) else Ua Ud
 else Ua Ud
 else Ua Ud
 else Ua Ud)=Ua (ZaL a b stay n.2.2.2.1[i]):=by
    unfold ZaL
    grind
   erw[d];simp only[Za]
   cases f:ZaL a b stay n.2.2.2.1[i] with
   |false=>
    left;refine⟨_,rfl,rfl,?_⟩
    rw[ZcD c,e,f];rfl
   |true=>
    grind
  simp
 grind
def Yt(n:Zc)(a b:Zw):Int:=
 bif !Ue (a.2.2.2.2.2.1=b.2.2.2.2.1) then 24 else
 bif !a.1&& !b.1 then 32 else
 bif K0 b then(bif !a.1|| !GM n a b Uc then 19 else bif Ue (b.2.2.2.2.2.2.1<a.2.2.2.2.2.2.2.1) then 10 else 0) else
 bif !b.1 then(bif !Ue (b.2.2.2.2.2.2.1=a.2.2.2.2.2.2.2.1) then 10 else 0) else
 bif !a.1 then(bif Ue (b.2.2.2.2.2.2.1<a.2.2.2.2.2.2.2.1) then 28 else 0) else
 bif Ue (Va .i64 (a.2.2.2.2.2.2.2.1+(WO n a.2.2.2.2.2.1).2.2.2.1)<=b.2.2.2.2.2.2.1) || (GM n a b Ud&&Ue (a.2.2.2.2.2.2.2.1<=b.2.2.2.2.2.2.1)) then 0 else 28
theorem ZsG{n:Zc}(d:n.2.2.2.1.length<=4096){a b:Zw}(e:Ke b.2.2.2.2.1 n.1.length=Uc):F153 n a b=Ua (Yt n a b):=by
 unfold F153 Yt;rw[ZlM d,ZlM d];by_cases c:a.2.2.2.2.2.1=b.2.2.2.2.1
 case neg=>grind
 rw[Zj c];simp only[Vc,Zd,Za];refine Zbj ?_;unfold K0
 cases b.2.2.2.2.2.2.2.2.1 with
 |true=>
  grind
 |false=>
  simp only[Zd]
  cases b.1 with
  |false=>
   grind
  |true=>
   simp only[Vc,Zd]
   cases a.1 with
   |false=>
    grind
   |true=>
    simp only[Vc,Zd];have f:idx n.1 a.2.2.2.2.2.1=Ua (WO n a.2.2.2.2.2.1):=by rw[c];exact W7 e s0
    grind
def g0:Zw:=(Ud,0,0,0,0,0,0,0,Ud,())
def lg(L:List Zw)(i:Nat):Zw:=(L[i]?).getD g0
def Gb(n:Zc)(q:Zl)(L:List Zw):Int:=
 bif !Ue ((lg L 0).2.2.2.2.1=q.1) then 24 else
 bif K0 (lg L 0) then 19 else
 bif !(lg L 0).1&& (Ue (1<L.length) && ((lg L 1).1&& !Ue ((lg L 1).2.2.2.2.2.2.1=(lg L 0).2.2.2.2.2.2.2.1))) then 10 else
 bif !(lg L 0).1&& (Ue (L.length=1) && (bif q.2.2.2.1 then !Ue ((lg L 0).2.2.2.2.2.2.2.1=q.2.2.1) else !Ue ((lg L 0).2.2.2.2.2.2.1=q.2.2.1))) then 10 else
 bif !q.2.2.2.1&&Ue ((lg L 0).2.2.2.2.2.2.1<q.2.2.1) then 10 else
 bif q.2.2.2.2.2.2.2.2.2.1&& ((lg L 0).1&&Ue ((lg L 0).2.2.2.2.2.2.1<Va .i64 (q.2.2.1+(WO n q.1).2.2.2.1))) then 28 else 0
theorem DZ{L:List Zw}{i:Nat}(h:i<L.length):idx L (i:Int)=Ua (lg L i):=by
 rw[ZE h];unfold lg
 grind
theorem Zsg{n:Zc}{q:Zl}{L:List Zw}(a:0<L.length)(d:Ke q.1 n.1.length=Uc):F152 n q (L,())=Ua (Gb n q L):=by
 unfold F152 Gb;have e0:idx (L,()).1 (0:Int)=Ua (lg L 0):=DZ a;rw[e0];simp only[Za];refine ZbW (Zbn (c:=K0 (lg L 0)) rfl ?_ :(Vb (Ua _) fun _=>_)=_)
 refine Zbn (c:= !(lg L 0).1&& (Ue (1<L.length) && ((lg L 1).1&& !Ue ((lg L 1).2.2.2.2.2.2.1=(lg L 0).2.2.2.2.2.2.2.1)))) ?_ (Zbn (c:= !(lg L 0).1&& (Ue (L.length=1) && (bif q.2.2.2.1 then !Ue ((lg L 0).2.2.2.2.2.2.2.1=q.2.2.1) else !Ue ((lg L 0).2.2.2.2.2.2.1=q.2.2.1)))) ?_ (Zbj (Zbn (c:=q.2.2.2.2.2.2.2.2.2.1&& ((lg L 0).1&&Ue ((lg L 0).2.2.2.2.2.2.1<Va .i64 (q.2.2.1+(WO n q.1).2.2.2.1)))) ?_ rfl)))
 ·by_cases b:1<L.length
  ·have e:idx L (1:Int)=Ua (lg L 1):=DZ b
   grind
  grind
 ·rw[show Ue ((L.length:Int)=1)=Ue (L.length=1) from (by grind)]
  grind
 ·rw[show idx n.1 q.1=Ua (WO n q.1) from W7 d s0]
  grind
end Q
namespace Q
open Tr Go
def ZaV(L:List Zw)(i:Nat):Bool:=Ue (0<i) && (lg L (i - 1)).1
theorem Zu9{n:Zc}(h:WJ n)(o:F124 n=Ua Uc)(L:List Zw)(K:L.length<=1000):F138 n (L,())=Ua (K6 n L Ud []):=by
 unfold F138;rw[o];simp only[Za,Vc,Zd];refine K4 (fun r=>K6 n L Ud []=Voc (fun l:List ZM=>(l,(0:Int))) (fun y=>y) r) ?_ ?_
 ·refine KC L.length _ (fun i (s:List ZM×Int)=>∃l,s=(l,(i:Int))/\l.length<=i/\(ZaV L i=Uc->0<l.length)/\K6 n L Ud []=K6 n (L.drop i) (ZaV L i) l) ?_ ?_ _ ⟨[],rfl,by simp,fun e=>(nomatch e),rfl⟩
  ·rintro i _ d ⟨l,rfl,H,E,a⟩;have g:L.length<=9223372036854775807:=by omega
   rw[Vja d]at a
   have j:ZaV L (i+1)=(L[i]).1:=by
    unfold ZaV lg
    grind
   have m:(bif !(L[i]).1 then Ua Uc else bif Ue ((i:Int)=(0:Int)) then Ua Uc else Vb (idx L (Va .i64 ((i:Int) - (1:Int)))) fun I=>Ua !I.1)=Ua (!((L[i]).1&&ZaV L i)):=by
    cases (L[i]).1 with
    |false=>rfl
    |true=>
     unfold ZaV;by_cases J:i=0
     ·grind
     ·rw[Zr (by omega),Zj (by omega)];have e:Va .i64 ((i:Int) - 1)=((i - 1:Nat):Int):=by rw[ZH (by omega) (by omega)];omega
      rw[e,DZ (by omega)];rfl
   simp only[ZQ d,Ze,ZE d,Za,Kb d g,Zhm];rw[m];generalize L[i]=x at*;rw[Gs]at a;generalize ZaV L i=w at*
   cases t:x.1 with
   |false=>
    grind
   |true=>
    rw[t]at a j;simp only[Ze,Za,Vc,Zd,Vza]
    cases p:KF n x with
    |false=>
     grind
    |true=>
     rw[p]at a;obtain⟨u,z,A,B⟩:=ZaW h p;have D:=Zw1 h p;simp only[Vc,Zd]
     cases f:K0 x with
     |false=>
      left;rw[f]at a;have b:=f;unfold K0 at b;rw[b];simp only[Zd,Za];rw[u];simp only[Za];rw[z];simp only[Za];rw[Rb A B,D];simp only[Za];rw[Dg (by grind)];refine⟨_,rfl,l++[Xv n x],rfl,by grind,by simp,?_⟩
      grind
     |true=>
      rw[f]at a;have b:=f;unfold K0 at b;rw[b];simp only[Ze,Za]
      cases w with
      |false=>
       grind
      |true=>
       left;have c:=E rfl;obtain⟨v,o⟩:∃v,l[l.length - 1]? =Ua v:=⟨_,Vh (by omega)⟩;simp only[Vc,Zd];rw[u];simp only[Za];rw[z];simp only[Za];rw[Rb A B,D];have G:=ZhE (k:=l.length) c (by omega);simp only[Za,Vra];rw[G];simp only[Za,o,Zca (show l.length - 1<l.length by omega)];rw[Zca (by grind)];simp only[Za,Vmc];have C:X5 n x l=Yo n x l v:=by unfold X5;grind
       refine⟨_,rfl,Yo n x l v,rfl,by rw[<-C,Zd8];omega,fun _=>by rw[<-C,Zd8];omega,?_⟩
       grind
  ·rintro _ ⟨l,rfl,H,E,a⟩;simp only[XQ,Zd];refine⟨_,rfl,?_⟩;rw[a,List.drop_length];rfl
 grind
theorem Zqg(z:Int):∃r,F142 z=Ua r:=by
 unfold F142
 suffices h:∃r,run _ ((0:Int),(0:Int))=Ua r/\True by obtain⟨r,h,_⟩:=h;exact⟨r,by rw[h];rfl⟩
 refine KC 62 (fun _=>True) (fun i (s:Int×Int)=>s.2=(i:Int)) ?_ ?_ _ rfl
 ·rintro i ⟨a,b⟩ g c;left;simp only at c;subst c;have f:Va .i64 ((i:Int)+1)=((i+1:Nat):Int):=by rw[ZH (by omega) (by omega)];omega
  have d:∃y,HR .i64 z (i:Int)=Ua y:=by unfold HR;simp
  obtain⟨y,e⟩:=d;simp only[Zj (show (i:Int)<62 by omega),Ze,e,Za,f]
  cases Ue (ZG .i64 y 1=1) with
  |true=>simp
  |false=>simp
 simp
theorem Zom(a b d:Int):∃r,F143 a b d=Ua r:=by
 unfold F143
 cases Ue (b<=a)<;>exact⟨_,rfl⟩
theorem Zrz(p:JV){l:List ZM}{i k:Nat}(m:i<=k)(o:k<l.length)(s:l.length<=100):∃r,F135 p l (i:Int) (k:Int)=Ua r:=by
 unfold F135
 suffices h:∃r,run _ ((0:Int),(0:Int),(i:Int))=Ua r/\True by
  obtain⟨r,h,_⟩:=h;rw[h];simp only[Za];obtain⟨b,j⟩:=Zqg r.1;obtain⟨c,f⟩:=Zom (l[i]).1 (l[k]).1 p.2.2.2.2.1;rw[j];simp only[Za,ZE (show i<l.length by omega),ZE o,f]
  grind
 refine KC (k+1 - i) (fun _=>True) (fun c (t:Int×Int×Int)=>t.2.2=((i+c:Nat):Int)) ?_ ?_ _ rfl
 ·rintro c ⟨a,b,d⟩ f e;left;simp only at e;subst e;have g:Va .i64 (((i+c:Nat):Int)+1)=((i+(c+1):Nat):Int):=by rw[ZH (by omega) (by omega)];omega
  simp only[Zj (show ((i+c:Nat):Int)<=(k:Int) by omega),Ze,ZE (show i+c<l.length by omega),Za,g];simp
 ·rintro ⟨a,b,d⟩ e;simp only at e;subst e;rw[Zr (show¬((i+(k+1 - i):Nat):Int)<=(k:Int) by omega)];simp
theorem Zwi(F:Z4)(p:JV){l:List ZM}{i:Nat}(b:i<l.length)(f:l.length<=100):∃r,F140 F p l (i:Int)=Ua r:=by
 unfold F140;by_cases d:0<i
 ·have e:Va .i64 ((i:Int) - 1)=((i - 1:Nat):Int):=by rw[ZH (by omega) (by omega)];omega
  obtain⟨c,a⟩:=Zom (l[i - 1]).2.1 (l[i]).1 F.2.2.1;rw[Zj (by omega),e];simp only[Ze,ZE (show i - 1<l.length by omega),ZE b,Za,a]
  cases c<;>exact⟨_,rfl⟩
 simp_all
abbrev TkT:=Int×Int×Int×Int×Unit
abbrev Gz:=Bool×Int×List TkT×Unit
def HA(n:Nat)(T:List Gz):Prop:=T.length=n+1/\ ∀j r,T[j]? =Ua r->r.2.2.1.length+j<=n
theorem HA.get{n:Nat}{T:List Gz}(h:HA n T){j:Nat}(a:j<=n):∃r,T[j]? =Ua r/\r.2.2.1.length+j<=n:=by have b:=h.1;exact⟨_,Vh (show j<T.length by omega),h.2 _ _ (by simp)⟩
theorem HA.put{n:Nat}{T:List Gz}(h:HA n T){i:Nat}{r:Gz}(c:r.2.2.1.length+i<=n):HA n (T.set i r):=by
 refine⟨by rw[Vra];exact h.1,fun j s b=>?_⟩;by_cases a:i=j
 ·grind
 ·rw[Vw a]at b;exact h.2 j s b
theorem ZgD{β σ τ:Type}{o:Option β}{f:β->Option (σ ⊕ τ)}{Q:σ->Prop}(P:β->Prop)(h:∃r,o=Ua r/\P r)(k:∀r,P r->∃s,f r=Ua (.inl s)/\Q s):∃s,Vb o f=Ua (.inl s)/\Q s:=by
 grind
theorem Zux(F:Z4)(hF:F.1.length<=4096)(l:List ZM)(W:l.length<=8):∃R,F137 F l=Ua R:=by
 unfold F137;have S:Va .i64 ((l.length:Int)+1)=((l.length+1:Nat):Int):=by rw[ZH (by omega) (by omega)];omega
 have K:Zz (Ue ((0:Int)<=((l.length+1:Nat):Int)/\((l.length+1:Nat):Int)<=((l.length+1:Nat):Int)/\((l.length+1:Nat):Int)<=(ZD:Int)))=Ua ():=by
  have N:(ZD:Int)=549755813888:=by rfl
  rw[Zj (by omega)];rfl
 have e:∀o:List Gz,o=Vq (l.length+1) (Ud,0,[],())->Zs (l.length:Int) o.length=Ua l.length/\o[l.length]? =Ua (Ud,0,[],()):=by rintro o rfl;exact⟨KM (by simp),by simp⟩
 obtain⟨O,P⟩:=e _ rfl;rw[S];erw[K];simp only[Za,Vj];erw[O];simp only[Za];erw[P];simp only[Za]
 have key:∀(o:Option (List Gz)) (k:List Gz->Option (Int×List TkT×Bool)),(∃T,o=Ua T/\HA l.length T)->(∀T,HA l.length T->∃R,k T=Ua R)->∃R,Vb o k=Ua R:=by
  grind
 refine key _ _ (KC l.length _ (fun c (s:List Gz×Int)=>∃T,s=(T,(l.length:Int) - 1 - (c:Int))/\HA l.length T) ?_ ?_ _ ?_) ?_
 ·rintro c _ V ⟨T,rfl,a⟩;left;obtain⟨i,M⟩:∃i:Nat,(l.length:Int) - 1 - (c:Int)=(i:Int):=⟨l.length - 1 - c,by omega⟩;have v:i<l.length:=by omega
  rw[M];rw[Zj (by omega)];simp only[Ze];refine ZgD (fun f=>HA l.length f) ?_ ?_
  ·refine KC (l.length - i) _ (fun m (s:List Gz×Int)=>∃T,s=(T,((i+m:Nat):Int))/\HA l.length T) ?_ ?_ _ ⟨T,rfl,a⟩
   ·rintro m _ N ⟨T,rfl,a⟩;left;have B:i+m<l.length:=by omega
    have A:Va .i64 (((i+m:Nat):Int)+1)=((i+m+1:Nat):Int):=by rw[ZH (by omega) (by omega)];omega
    have g:=a.1;have d:Zs ((i+m+1:Nat):Int) T.length=Ua (i+m+1):=KM (by omega);obtain⟨r,x,J⟩:=a.get (show i+m+1<=l.length by omega);simp only[ZQ B,Ze,A,d,x,Za]
    cases r.1 with
    |false=>grind
    |true=>
     simp only[Vc,Zd];refine ZgD (fun f=>HA l.length f) ?_ ?_
     ·refine KC F.1.length _ (fun p (s:List Gz×Int)=>∃T,s=(T,(p:Int))/\HA l.length T) ?_ ?_ _ ⟨T,rfl,a⟩
      ·rintro p _ C ⟨T,rfl,a⟩;left;have E:Va .i64 ((p:Int)+1)=((p+1:Nat):Int):=by rw[ZH (by omega) (by omega)];omega
       have g:=a.1;have d:Zs ((i+m+1:Nat):Int) T.length=Ua (i+m+1):=by grind
       have h:Zs (i:Int) T.length=Ua i:=KM (by omega);obtain⟨Q,z,I⟩:=a.get (show i+m+1<=l.length by omega);obtain⟨X,y,H⟩:=a.get (show i<=l.length by omega);obtain⟨D,t⟩:=Zrz F.1[p] (show i<=i+m by omega) B (by omega);obtain⟨pr,w⟩:=Zwi F F.1[p] v (by omega);simp only[ZQ C,Ze,ZE C,Za,t,w,d,h,z,y,E]
       cases D with
       |false=>grind
       |true=>
        simp only[Vc,Zd];refine ZgD (fun _=>True) ?_ fun b _=>?_
        ·grind
        ·cases b with
         |true=>grind
         |false=>
          simp only[Zd]
          have u:Zz (Ue (Vg [((p:Int),(i:Int),((i+m:Nat):Int),pr,())]+Vg Q.2.2.1<=ZD))=Ua ():=by rw[Zj (by simp only[Vbb,Veb,ZD];omega)];rfl
          rw[u];simp only[Za];exact⟨_,rfl,_,rfl,a.put (by grind)⟩
      simp
     grind
   grind
  ·intro f G;have A:Va .i64 ((i:Int) - 1)=(l.length:Int) - 1 - ((c+1:Nat):Int):=by rw[ZH (by omega) (by omega)];omega
   grind
 ·grind
 ·refine⟨(Vq (l.length+1) ((Ud,0,[],()):Gz)).set l.length (Uc,0,[],()),?_,HA.put ⟨by simp,fun j r x=>?_⟩ (by simp)⟩
  ·rw[ZH (by omega) (by omega)];simp
  grind
 ·intro T a;obtain⟨r,x,_⟩:=a.get (Vea _);have U:Zs (0:Int) T.length=Ua 0:=KM (i:=0) (by grind)
  simp_all
end Q
namespace Q
open Tr Go
def ZiN(x:Zw):Bool:= !x.1&& (Ue (0<=x.2.2.2.2.2.2.1) && (Ue (x.2.2.2.2.2.2.1<=x.2.2.2.2.2.2.2.1) &&Ue (Va .i64 (x.2.2.2.2.2.2.2.1 - x.2.2.2.2.2.2.1)<=14400)))
def Zck(s:Int)(x:Zw):Int:=bif ZiN x then Va .i64 (Va .i64 (s+x.2.2.2.2.2.2.2.1) - x.2.2.2.2.2.2.1) else s
def ZdK(L:List Zw):Int:=L.foldl Zck 0
theorem ZiQ(L:List Zw)(d:L.length<=1000):F141 (L,())=Ua (ZdK L):=by
 unfold F141;refine K4 (fun r=>r=ZdK L) ?_ (by simp);refine KC L.length _ (fun i (s:Int×Int)=>s=((L.take i).foldl Zck 0,(i:Int))) ?_ ?_ _ rfl
 ·rintro i _ a rfl;left
  have b:(bif !(L[i]).1 then
 bif Ue ((0:Int)<=(L[i]).2.2.2.2.2.2.1) then
 bif Ue ((L[i]).2.2.2.2.2.2.1<=(L[i]).2.2.2.2.2.2.2.1) then
 Ua (Ue (Va .i64 ((L[i]).2.2.2.2.2.2.2.1 - (L[i]).2.2.2.2.2.2.1)<=(14400:Int)))
 else Ua Ud
 else Ua Ud
 else Ua Ud)=Ua (ZiN L[i]):=by
   unfold ZiN
   grind
  have c:(L.take (i+1)).foldl Zck 0=Zck ((L.take i).foldl Zck 0) L[i]:=by rw[Vf a,Vda];rfl
  simp only[ZQ a,Ze,ZE a,Za,Kb a (by omega)];rw[b,c];unfold Zck
  grind
 ·rintro _ rfl;simp only[XQ,Zd];exact⟨_,rfl,by rw[Vyb];rfl⟩
def Zdv(x:Zw):Bool:=x.1&& !K0 x
def JF(L:List Zw):Nat:=(L.filter Zdv).length
noncomputable def ZmD(F:Z4)(l:List ZM):Int:=match F137 F l with
 |some r=>bif r.2.2 then 0 else 34
 |none=>0
noncomputable def Zg5(n:Zc)(L:List Zw):Int:=
 bif !Ue ((K6 n L Ud []).2=0) then(K6 n L Ud []).2 else
 bif Ue (8<(K6 n L Ud []).1.length) then 33 else ZmD n.2.2.2.2.2.1 (K6 n L Ud []).1
theorem Zqw(F:Z4)(s:Int):∃r,F133 F s=Ua r:=by
 unfold F133
 cases Ue ((0:Int)<F.2.2.2.1)<;>exact⟨_,rfl⟩
theorem Zkv{n:Zc}(h:WJ n)(j:F124 n=Ua Uc)(hF:n.2.2.2.2.2.1.1.length<=4096)(q:Zl)(L:List Zw)(b:L.length<=1000):∃c,F134 n q (L,())=Ua c/\c.2.2=Zg5 n L:=by
 unfold F134 Zg5;rw[Zu9 h j L b];simp only[Za];generalize K6 n L Ud []=R;by_cases d:R.2=0
 case neg=>simp_all
 rw[Zj d];simp only[Vc,Zd];by_cases a:8<R.1.length
 ·rw[Zj (by omega),Zj a];simp
 rw[Zr (by omega),Zr a];simp only[Zd];obtain⟨p,g⟩:=Zux n.2.2.2.2.2.1 hF R.1 (by omega);unfold ZmD;rw[g];simp only[Za]
 cases p.2.2 with
 |false=>simp
 |true=>
  simp only[Vc,Zd,Ze];obtain⟨c,f⟩:=Zqw n.2.2.2.2.2.1 p.1;rw[f,ZiQ L b];simp only[Za];by_cases hL:0<L.length
  ·have e:Va .i64 ((L.length:Int) - 1)=((L.length - 1:Nat):Int):=by rw[ZH (by omega) (by omega)];omega
   have k:idx L (0:Int)=Ua (lg L 0):=DZ hL;rw[Zj (by omega),e,k,DZ (by omega)];simp
  simp_all
def HU(L:List Zw)(i:Nat):Bool:=(lg L i).1&& (Ue (i+1=L.length) || !K0 (lg L (i+1)))
def G6(n:Zc)(q:Zl)(x:Zw):Int:=bif !(cl (KT n x) x.2.2.2.1).2.2.2.2.1 then 26 else bif !Ye n q x.2.2.2.2.2.1 then 29 else 0
def Di(n:Zc)(q:Zl)(L:List Zw)(i:Nat):Int:=bif Ue (i=0) then Gb n q L else Yt n (lg L (i - 1)) (lg L i)
def X8(n:Zc)(q:Zl)(L:List Zw)(i:Nat):Int:=
 bif !Ue (Jv n q (lg L i)=0) then Jv n q (lg L i) else
 bif !Ue (Di n q L i=0) then Di n q L i else
 bif HU L i then G6 n q (lg L i) else 0
theorem ZlE{n:Zc}{q:Zl}{x:Zw}(h:Jv n q x=0):Ke x.2.2.2.2.1 n.1.length=Uc/\Ke x.2.2.2.2.2.1 n.1.length=Uc/\(x.1=Uc->KF n x=Uc/\Dq n q x=0)/\(x.1=Ud->HV n q x=0):=by
 unfold Jv at h
 grind
theorem ZjI{n:Zc}(d:WJ n)(k:n.2.2.2.2.1.length<=4096){q:Zl}(l:Ke q.1 n.1.length=Uc){L:List Zw}{i:Nat}(f:i<L.length)(y:L.length<=1000):F150 n q (L,()) (i:Int)=Ua (X8 n q L i):=by
 unfold F150 X8;rw[show idx (L,()).1 (i:Int)=Ua (lg L i) from DZ f];simp only[Za];rw[Ztu d k q];simp only[Za];by_cases c:Jv n q (lg L i)=0
 case neg=>grind
 rw[Zj c];simp only[Vc,Zd];obtain⟨v,w,x,z⟩:=ZlE c
 have g:(bif Ue ((i:Int)=(0:Int)) then Vb (F152 n q (L,())) fun s=>Ua s
 else Vb (idx L (Va .i64 ((i:Int) - (1:Int)))) fun t=>Vb (F153 n t (lg L i)) fun b=>Ua b)=Ua (Di n q L i):=by
  unfold Di;by_cases a:i=0
  ·subst a;rw[Zsg f l];rfl
  ·have e:Va .i64 ((i:Int) - 1)=((i - 1:Nat):Int):=by rw[ZH (by omega) (by omega)];omega
   rw[Zr (by omega),Zr a,e,DZ (by omega)];simp only[Zd,Za];rw[ZsG (by have:=d.links;omega) v];rfl
 rw[g];simp only[Za];refine ZbW ?_;have p:Va .i64 ((i:Int)+1)=((i+1:Nat):Int):=by rw[ZH (by omega) (by omega)];omega
 rw[p]
 have h:(bif (lg L i).1 then bif Ue (((i+1:Nat):Int)=(↑(Vg L):Int)) then Ua Uc
 else Vb (idx L ((i+1:Nat):Int)) fun u=>Ua !u.2.2.2.2.2.2.2.2.1
 else Ua Ud)=Ua (HU L i):=by
  unfold HU;rw[show Ue (((i+1:Nat):Int)=(L.length:Int))=Ue (i+1=L.length) from (by grind)];by_cases j:i+1=L.length
  ·grind
  ·rw[Zr j,DZ (by omega)]
   grind
 rw[h];simp only[Za]
 cases o:HU L i with
 |false=>rfl
 |true=>
  have m:(lg L i).1=true:=by
   grind
  obtain⟨r,_,_,b⟩:=ZkO (x m).1;simp only[Ze];rw[r];simp only[Za];rw[b];simp only[Za];rw[Zmi q w];unfold G6
  grind
noncomputable def RK(n:Zc)(q:Zl)(L:List Zw):Int:=
 bif !Ue ((lg L (L.length - 1)).2.2.2.2.2.1=q.2.1) then 24 else
 bif q.2.2.2.1&&Ue (q.2.2.1<(lg L (L.length - 1)).2.2.2.2.2.2.2.1) then 10 else
 bif Ue (q.2.2.2.2.1<(JF L:Int)) then 33 else
 bif Ue (q.2.2.2.2.2.1<ZdK L) then 32 else Zg5 n L
theorem ZrY{n:Zc}(d:WJ n)(f:F124 n=Ua Uc)(hF:n.2.2.2.2.2.1.1.length<=4096)(q:Zl){L:List Zw}(k:0<L.length)(b:L.length<=1000):F151 n q (L,())=Ua (RK n q L):=by
 unfold F151 RK;have e:Va .i64 ((L.length:Int) - 1)=((L.length - 1:Nat):Int):=by rw[ZH (by omega) (by omega)];omega
 simp only[e,DZ (show L.length - 1<L.length by omega),Za];refine ZbW (Zbj ?_);refine K4 (fun r=>r=(JF L:Int)) ?_ ?_
 ·refine KC L.length _ (fun i (s:Int×Int)=>s=((JF (L.take i):Int),(i:Int))) ?_ ?_ _ rfl
  ·rintro i _ a rfl;left
   have o:JF (L.take i)<=L.length:=by
    unfold JF
    grind
   have h:(bif (L[i]).1 then Ua !(L[i]).2.2.2.2.2.2.2.2.1 else Ua Ud)=Ua (Zdv L[i]):=by
    unfold Zdv K0
    grind
   have j:JF (L.take (i+1))=JF (L.take i)+(if Zdv L[i] then 1 else 0):=by
    unfold JF;rw[Vf a,Vqb,Vp]
    grind
   have g:Va .i64 ((JF (L.take i):Int)+1)=((JF (L.take i)+1:Nat):Int):=by rw[ZH (by omega) (by omega)];omega
   simp only[ZQ a,Ze,ZE a,Za,Kb a (by omega),g]
   grind
  simp
 ·rintro _ rfl;refine ZbW ?_;rw[ZiQ L b];simp only[Za];refine ZbW ?_;obtain⟨c,l,m⟩:=Zkv d f hF q L b
  grind
noncomputable def Zak(n:Zc)(q:Zl)(L:List Zw):Int×Int:=
 bif !Ue (H8 n q=0) then(0,H8 n q) else
 bif Ue (L.length=0) then(bif !Ue (q.1=q.2.1) then(0,24) else(0,0)) else
 match Wq L.length (X8 n q L) with
 |some i=>((i:Int),X8 n q L i)
 |none=>bif !Ue (RK n q L=0) then(((L.length - 1:Nat):Int),RK n q L) else(0,0)
open Classical in
theorem ZqB{n:Zc}(c:Yh n)(hF:n.2.2.2.2.2.1.1.length<=4096)(q:Zl)(L:List Zw)(h:L.length<=1000):F145 n q (L,())=Ua (Zak n q L):=by
 unfold F145 Zak;rw[Zj8 c q];simp only[Za];by_cases d:H8 n q=0
 case neg=>rw[Zr d];rfl
 obtain⟨k,j⟩:=ZcQ.1 d;have f:=k.sound;have l:F124 n=Ua true:=by rw[Za4 c,Zj k]
 have b:Ke q.1 n.1.length=true:=by unfold qB at j;rw[Ve]at j;exact j.1
 rw[Zj d];simp only[Vc,Zd];by_cases hL:L.length=0
 ·rw[Zj (show (L.length:Int)=0 by omega),Zj hL]
  cases Ue (q.1=q.2.1)<;>rfl
 rw[Zr (show¬(L.length:Int)=0 by omega),Zr hL];simp only[Zd];rw[JG (n:=L.length) (fun i (s:Int)=>s=(i:Int)) (X8 n q L) (fun i=>.inr ((i:Int),X8 n q L i)) (.inl ()) ?_ ?_ ?_ (0:Int) rfl]
 ·unfold pick
  cases Wq L.length (X8 n q L) with
  |some i=>rfl
  |none=>
   simp only[Za];show (Vb (F151 n q (L,())) _)=_;rw[ZrY f l hF q (by omega) h];have e:Va .i64 ((L.length:Int) - 1)=((L.length - 1:Nat):Int):=by rw[ZH (by omega) (by omega)];omega
   rw[e];simp only[Za]
   cases Ue (RK n q L=0)<;>rfl
 ·rintro i _ a rfl g;refine⟨((i+1:Nat):Int),?_,rfl⟩;simp only[ZQ a,Ze,Kb a (show _<=9223372036854775807 by omega)];rw[ZjI f c.paths b a h];simp only[Za];rw[g];rfl
 ·rintro i _ a rfl g;simp only[ZQ a,Ze];rw[ZjI f c.paths b a h];simp only[Za];rw[Zr g];rfl
 ·rintro _ rfl;simp only[XQ,Zd]
open Classical in
theorem ZqC(n:Zc)(q:Zl)(L:List Zw):(Zak n q L).2=0↔H8 n q=0/\((L.length=0/\q.1=q.2.1)\/(L.length≠0/\(∀i,i<L.length->X8 n q L i=0)/\RK n q L=0)):=by
 unfold Zak;by_cases h0:H8 n q=0
 case neg=>rw[Zr h0];simp [h0]
 rw[Zj h0];simp only[Vc,Zd];by_cases hL:L.length=0
 ·rw[Zj hL];by_cases he:q.1=q.2.1
  ·rw[Zj he];simp [h0,hL,he]
  ·rw[Zr he];simp [h0,hL,he]
 ·rw[Zr hL];simp only[Zd]
  cases hb:Wq L.length (X8 n q L) with
  |some i=>
   have hi:=Zat hb;simp only;constructor
   ·intro e;exact absurd e hi.2
   ·rintro ⟨_,⟨e,_⟩|⟨_,e,_⟩⟩
    ·exact absurd e hL
    ·exact e i hi.1
  |none=>
   have ha:=WU.1 hb;simp only;by_cases he:RK n q L=0
   ·rw[Zj he];simp [h0,hL,he];exact ha
   ·rw[Zr he];simp [h0,hL,he]
end Q
namespace Q
open Tr Go
abbrev JA:=Int×Int×Int×Int×Unit
abbrev ZdX:=List UInt8×Int×Int×Int×Int×Int×Unit
abbrev DB:=List ZdX×Int×Int×Int×Unit
abbrev WM:=List (Option DB×(JA×Int×List Int×Unit))
inductive YQ (S:List JA->List Int->Prop) (F:DB):List JA->WM->Prop
 |start {r0:JA}{sums:List Int} (h:S [] sums):YQ S F [] [(Ua F,r0,0,sums,())]
 |snoc {rs:List JA}{s:WM}{r:JA}{sums:List Int} (hs:YQ S F rs s) (hl:rs.length+1<=8) (h:S (rs++[r]) sums):YQ S F (rs++[r]) ((Ua F,r,((rs.length+1:Nat):Int),sums,())::s)
theorem YQ.head{S:List JA->List Int->Prop}{F:DB}{b:List JA}{s:WM}(h:YQ S F b s):∃r a t,s=(Ua F,r,(b.length:Int),a,())::t/\S b a/\b.length<=8/\(∀x∈b.getLast?,r=x):=by
 cases h with
 |start h=>exact⟨_,_,_,rfl,h,by simp,by simp⟩
 |snoc d c h=>
  rename_i b s r a;refine⟨r,a,s,?_,h,by simpa using c,by simp⟩;rw[show (b++[r]).length=b.length+1 by simp]
theorem ZlN{S:List JA->List Int->Prop}{F:DB}{a:List JA}{s:WM}(h:YQ S F a s):F23 s=Ua a:=by
 obtain⟨r,d,t,e,_,x,_⟩:=h.head
 have key:∀{a:List JA}{s:WM},YQ S F a s->∀c:List JA,∀z:JA,run
  (fun b:WM×List JA×Int=>
  bif Ue ((0:Int)<=b.2.2) then
  Vb (Tr.unc b.1) fun _=>
  Vb (Tr.unc b.1) fun w=>
  Vb (Zs b.2.2 (Vg b.2.1)) fun g=>
  Vb b.2.1[g]? fun _=>
  Vb (Tr.unc b.1) fun _=>
  Vb (Tr.unc b.1) fun f=>Ua (.inl (f.2.1,Vnb b.2.1 g w.2.2.1,Va .i64 (b.2.2 - (1:Int))))
  else Ua (.inr b.2.1)) (s,Vq a.length z++c,(a.length:Int) - 1)=Ua (a++c):=by
  intro a s h
  induction h with
  |start h=>
   intro c z;refine XA ?_
   simp
  |snoc A y h v=>
   rename_i a s r d;intro c z;refine(Y1 (s' :=(s,Vq a.length z++r::c,(a.length:Int) - 1)) ?_).trans ?_
   ·have o:Ue ((0:Int)<=((a++[r]).length:Int) - 1)=true:=Zj (by simp);simp only[o,Ze,Tr.unc,Za];have j:((a++[r]).length:Int) - 1=(a.length:Int):=by simp
    rw[j]
    have k:Zs (a.length:Int) (Vq (a++[r]).length z++c).length=Ua a.length:=by have:=KM (i:=a.length) (n:=(Vq (a++[r]).length z++c).length) (by simp;omega);exact this
    rw[k]
    have l:(Vq (a++[r]).length z++c)[a.length]? =Ua z:=by rw[List.getElem?_append_left (by simp)];simp
    simp only[Za,l]
    have m:Vnb (Vq (a++[r]).length z++c) a.length r=Vq a.length z++r::c:=by simp only[Vp,Vbb,Veb,Nat.zero_add];rw[List.replicate_succ',List.append_assoc,Vna _ _ (by simp)];simp
    rw[m,ZH (by omega) (by omega)]
   ·rw[v (r::c) z];simp
 unfold F23;subst e;simp only[Tr.unc,Za];have p:Ue ((0:Int)<=(a.length:Int)/\(a.length:Int)<=(a.length:Int)/\(a.length:Int)<=(ZD:Int))=true:=Zj ⟨by omega,by omega,by have:(ZD:Int)=549755813888:=rfl;omega⟩;rw[p,show Zz Uc=Ua () from rfl];simp only[Za];have u:Va .i64 ((a.length:Int) - 1)=(a.length:Int) - 1:=ZH (by omega) (by omega);rw[u,Vj];have:=key h [] ((0:Int),(0:Int),(0:Int),(0:Int),());rw[Vsa,Vsa]at this;refine K4 (fun r=>r=a) ⟨a,this,rfl⟩ ?_;rintro r rfl;rfl
def Xl(x:Int):Prop:=0<=x/\x<=1000000000000
theorem ZfX{x:Int}(a:0<=x)(b:x<=9223372036854775807):Va .u64 x=x:=by simp [Va,Vv,Vba];omega
theorem ZsL{a d m:Int}(c:Xl a)(e:Xl d)(f:Xl m):F30 a d m=Ua (Ue (d<=a+m)):=by
 unfold F30;unfold Xl at c e f;by_cases h:d<=a
 ·rw[Zj h,Zj (by omega:d<=a+m)];rfl
 ·rw[Zr h,ZfX e.1 (by omega),ZfX c.1 (by omega),ZfX (by omega) (by omega),ZfX f.1 (by omega)]
  have:Ue (d - a<=m)=Ue (d<=a+m):=by
   by_cases b:d<=a+m
   ·rw[Zj b,Zj (by omega)]
   ·rw[Zr b,Zr (by omega)]
  rw[Zd,this];rfl
theorem ZsU(x y:Int):imax x y=max x y:=by
 unfold imax
 split<;>omega
def tpr(F:DB)(o:Option Int)(p:ZdX)(d:Int):Int:=match o with
 |none=>p.2.1
 |some a=>if d<=a+F.2.2.1 then max 0 (p.2.1 - F.2.1) else p.2.1
structure Zi0 (F:DB):Prop where
 disc:Xl F.2.1
 wit:Xl F.2.2.1
 price:∀p∈F.1,Xl p.2.1
def Zi4(r:JA):Prop:=Xl r.1/\Xl r.2.1
theorem ZnG{S:List JA->List Int->Prop}{F:DB}{u:List JA}{s:WM}(h:YQ S F u s)(hF:Zi0 F){p:ZdX}(B:p∈F.1){b:List JA}(v:∀r∈b,Zi4 r)(G:b.length<=8){i:Nat}{r:JA}(A:b[i]? =Ua r):
 F25 s p b (i:Int)=Ua (tpr F ((b.take i).getLast?.map fun x=>x.2.1) p r.1):=by
 obtain⟨r0,w,t,rfl,_,_,_⟩:=h.head;obtain⟨j,e⟩:=Vab.1 A;unfold F25;have k:=hF.price p B;have g:=hF.disc
 cases i with
 |zero=>
  simp [tpr]
 |succ i=>
  have y:Ue ((0:Int)<((i+1:Nat):Int))=true:=Zj (by omega);have z:Va .i64 (((i+1:Nat):Int) - 1)=(i:Int):=by rw[ZH (by omega) (by omega)];omega
  have D:idx b (i:Int)=Ua b[i]:=ZE (by omega);have E:idx b ((i+1:Nat):Int)=Ua r:=by rw[ZE j,e]
  have c:(b.take (i+1)).getLast?=Ua b[i]:=by
   have:i<b.length:=by omega
   rw[List.getLast?_eq_getElem?,Vcb,Vbc (by omega),List.getElem?_take,Zv (by omega),Nat.add_sub_cancel,Vh this]
  rw[y,Ze,z,c];have l:=v b[i] (Vd _);have o:=v r (e▸Vd _);have C:=ZsL (a:=(b[i]).2.1) (d:=r.1) (m:=F.2.2.1) l.2 o.1 hF.wit;simp only[D,E,Za,Tr.unc,C,Vcc,tpr];by_cases f:r.1<=(b[i]).2.1+F.2.2.1
  ·rw[Zj f,Ze,Zv f];unfold Xl at k g;rw[ZH (by omega) (by omega)];exact congrArg Ua (ZsU _ _)
  ·rw[Zr f,Zd,Zg f]
end Q
namespace Q
open Tr Go
structure FO (F:Z4):Prop where
 head:Gf F=Uc
 many:F.1.length<=16
 nums:∀p∈F.1,YW p=Uc
theorem RQ{F:Z4}(h:(J3 F).2=0):FO F:=by
 unfold J3 at h;by_cases d:Gf F=Ud
 ·grind
 rw[Zg d]at h;by_cases b:16<F.1.length
 ·grind
 rw[Zg b]at h;have f:=Zb1 h;refine⟨by grind,by omega,fun p e=>?_⟩;obtain⟨i,c,rfl⟩:=Vu e;have a:=f i c;unfold HQ at a;rw[Ku c]at a;obtain⟨_,_,g⟩:=De.1 a
 grind
theorem FO.heads{F:Z4}(h:FO F):(0<=F.2.1/\F.2.1<=1000000)/\(0<=F.2.2.1/\F.2.2.1<=86400)/\0<=F.2.2.2.1/\F.2.2.2.1<=1000000:=by
 have:=h.head;unfold Gf at this
 grind
theorem FO.prod{F:Z4}(h:FO F){p:JV}(a:p∈F.1):(0<=p.2.1/\p.2.1<=1000000)/\(1<=p.2.2.1/\p.2.2.1<=8)/\(1<=p.2.2.2.1/\p.2.2.2.1<=16)/\(0<=p.2.2.2.2.1/\p.2.2.2.2.1<=86400)/\1<=p.2.2.2.2.2.1/\p.2.2.2.2.2.1<=255:=by
 have:=h.nums p a;unfold YW at this
 grind
theorem FO.farOk{F:Z4}(h:FO F):Zi0 F where
 disc:=by have:=h.heads;exact⟨by omega,by omega⟩
 wit:=by have:=h.heads;exact⟨by omega,by omega⟩
 price:=fun p a=>by have:=(h.prod a).1;exact⟨by omega,by omega⟩
def X1(v:ZM):Prop:=Small v/\Zi4 v
end Q
namespace Q
open Tr Go
theorem ZjQ{α β:Type}{o:Option α}{f:α->Option β}{Q:β->Prop}(P:α->Prop)(h:∃r,o=Ua r/\P r)(k:∀r,P r->∃z,f r=Ua z/\Q z):∃z,Vb o f=Ua z/\Q z:=by
 grind
theorem ZvV{α β:Type}{o:Option β}{g:α->β}{Q:α->Prop}(h:∃z,o=Ua z/\ ∃s,z=g s/\Q s):∃s,o=Ua (g s)/\Q s:=by
 grind
theorem YQ.mono{S T:List JA->List Int->Prop}(c:∀a b,S a b->T a b){F:DB}{d:List JA}{s:WM}(h:YQ S F d s):YQ T F d s:=by
 induction h with
 |start h=>exact .start (c _ _ h)
 |snoc g e h f=>exact .snoc f e (c _ _ h)
theorem ZdD{n i:Nat}(h:i<=n):sliceB n n (Ua (i:Int)) Ub=Ua (i,n):=by
 unfold sliceB
 grind
theorem ZnM{α:Type}(l:List α)(i:Nat):List.take (l.length - i) (List.drop i l)=l.drop i:=by rw[List.take_of_length_le];simp
def Zi6(F:Z4)(_:FO F)(b:List ZM)(a:List Int):Prop:=a.length=9/\ ∀i,i<=b.length->∃x,a[i]? =Ua x/\ -1<=x/\x<=1000000* (i:Int)
abbrev XG(F:Z4)(h:FO F):List ZM->WM->Prop:=YQ (Zi6 F h) F
theorem Zwm{F:Z4}(h:FO F){p:JV}(b:p∈F.1)(o:Option Int)(d:Int):0<=tpr F o p d/\tpr F o p d<=1000000:=by
 have a:=(h.prod b).1;have c:=h.heads.1;unfold tpr;split
 ·exact a
 ·split<;>omega
theorem Ziy{F:Z4}(h:FO F){c:List ZM}{s:WM}(E:XG F h c s){r:ZM}(D:∀v∈c++[r],X1 v)(J:c.length+1<=8):
 ∃s',F22 s r=Ua (s',0)/\XG F h (c++[r]) s' :=by
 obtain⟨r0,d,t,e,⟨W,I⟩,_,_⟩:=E.head;generalize hL:c++[r]=l at D;have K:l.length=c.length+1:=by grind
 have V:F.1.length<=16:=h.many;subst e;have Y:Va .i64 ((c.length:Int)+1)=((c.length+1:Nat):Int):=by rw[ZH (by omega) (by omega)];omega
 have A:YQ (fun _ _=>True) F l ((Ua F,r,((c.length+1:Nat):Int),d,())::(Ua F,r0,(c.length:Int),d,())::t):=hL▸ .snoc (E.mono (by simp)) J trivial;have k:=ZlN A;unfold F22;have P:Ue ((8:Int)<=(c.length:Int))=false:=by grind
 have Q:Zs ((c.length+1:Nat):Int) (9:Nat)=Ua (c.length+1):=KM (by omega);have z:d[c.length+1]? =Ua d[c.length+1]:=by simp
 simp only[Tr.unc,Za,Vvb,Zd,P,Y,k,Q,z];refine ZvV (g:=fun s' =>(s',(0:Int))) (ZjQ (fun b=> -1<=b/\b<=1000000* (l.length:Int)) ?_ fun b M=>⟨_,rfl,_,rfl,?_⟩)
 rotate_left
 ·show YQ (Zi6 F h) F l _;rw[<-hL];refine .snoc E J ?_;rw[hL];refine⟨by grind,fun i m=>?_⟩;by_cases U:i<l.length
  ·obtain⟨x,N,O⟩:=I i (by omega);exact⟨x,by rw[Vw (by omega)];exact N,O⟩
  ·have C:i=c.length+1:=by omega
   subst C;exact⟨b,by grind,M.1,by omega⟩
 refine KC l.length _ (fun i (s:Int×Int)=>s.2=(i:Int)/\ -1<=s.1/\s.1<=1000000* (l.length:Int)) ?_ (by rintro ⟨b,_⟩ ⟨rfl,f⟩;exact⟨b,by simp only[XQ,Zd],f⟩) _ ⟨rfl,by simp,by simp;omega⟩;rintro i ⟨b,_⟩ m ⟨rfl,f⟩;left;simp only at f;simp only[ZQ m,Ze,Kb m (by omega)];refine RB (fun b=> -1<=b/\b<=1000000* (l.length:Int)) ?_ (by simp);refine KC F.1.length _ (fun p (s:Int×Int)=>s.2=(p:Int)/\ -1<=s.1/\s.1<=1000000* (l.length:Int)) ?_ (by rintro ⟨b,_⟩ ⟨rfl,f⟩;exact⟨b,by simp only[XQ,Zd],f⟩) _ ⟨rfl,f⟩;rintro p ⟨b,_⟩ o ⟨rfl,f⟩;left;simp only at f;have Z:idx F.1 (p:Int)=Ua F.1[p]:=ZE o;obtain⟨a,R,S,T⟩:=I i (by omega)
 have B:l.drop i=l[i]::l.drop (i+1):=Vja m;have y:F83 F.1[p] (l.drop i)=Ua (cvB F.1[p] (l.drop i)):=Zky (fun v G=>(D v (List.mem_of_mem_drop G)).1) (by grind) (by grind) (h.prod (Vd o)).2.2.2.1.1;have j:=ZnG A h.farOk (Vd o) (fun v G=>(D v G).2) (by omega) (Vh m);have X:=Zwm h (Vd o) ((l.take i).getLast?.map fun x=>x.2.1) l[i].1;generalize tpr F ((l.take i).getLast?.map fun x=>x.2.1) F.1[p] l[i].1=tp at*;have H:Va .i64 (a+tp)=a+tp:=ZH (by omega) (by omega);simp only[ZQ o,Ze,Z,Za,KM (show i<9 by omega),R,ZdD (Vub m),ZnM,y,j,H,Kb o (by omega)];by_cases u:a<0
 ·rw[Zj u];exact⟨_,rfl,rfl,f⟩
 rw[Zr u];simp only[Zd,Za]
 cases cvB F.1[p] (l.drop i) with
 |false=>exact⟨_,rfl,rfl,f⟩
 |true=>
  simp only[Vc,Zd];by_cases w:b<0
  ·rw[Zj w];exact⟨_,rfl,rfl,by simp only;omega,by simp only;omega⟩
  rw[Zr w];simp only[Zd,Za]
  cases Ue (a+tp<b) with
  |true=>exact⟨_,rfl,rfl,by simp only;omega,by simp only;omega⟩
  |false=>exact⟨_,rfl,rfl,f⟩
abbrev DF:=Int×Int×Int×Int×Int×Unit
theorem ZnO{F:Z4}(h:FO F){b:List ZM}{s:WM}(w:XG F h b s)(N:∀v∈b,X1 v):
 ∃L,F26 s=Ua L/\L.length<=128:=by
 obtain⟨r0,e,t,rfl,D,C,_⟩:=w.head;have f:F24 ((Ua F,r0,(b.length:Int),e,())::t)=Ua b:=ZlN w;have J:=h.many;unfold F26;simp only[f,Za,Tr.unc];refine ZjQ (fun L:List DF=>L.length<=16*b.length) ?_ (fun L hL=>⟨L,rfl,by omega⟩);refine KC b.length _ (fun i (s:List DF×Int)=>s.2=(i:Int)/\s.1.length<=16*i) ?_ ?_ _ ⟨rfl,by simp⟩
 ·rintro i ⟨L,_⟩ g ⟨rfl,hL⟩;left;simp only at hL;obtain⟨a,E,G,H⟩:=D.2 i (by omega)
  have x:idx e (i:Int)=Ua a:=by obtain⟨B,l⟩:=Vab.1 E;rw[ZE B,l]
  have y:idx b (i:Int)=Ua b[i]:=ZE g;simp only[ZQ g,Ze,x,Za,Kb g (show b.length<=9223372036854775807 by omega)]
  cases Ue (a<0) with
  |true=>exact⟨_,rfl,rfl,by simp only;omega⟩
  |false=>
  simp only[Zd,ZdD (Vub g),Za,ZnM];have I:(b.drop i).length<=8:=by rw[List.length_drop];omega
  generalize b.drop i=d at*;refine RB (fun _:Int×Int=>True) ?_ ?_
  ·refine KC d.length _ (fun i (t:Int×Int×Int)=>t.2.2=(i:Int)) ?_ ?_ _ rfl
   ·rintro j ⟨z,m,_⟩ u rfl;left;simp only[ZQ u,Ze,ZE u,Za,Kb u (show d.length<=9223372036854775807 by omega)];exact⟨_,rfl,rfl⟩
   ·rintro ⟨z,m,_⟩ rfl;simp only[XQ,Zd];exact⟨_,rfl,trivial⟩
  ·rintro ⟨z,m⟩ _;obtain⟨o,K⟩:∃o,F64 z=Ua o:=⟨_,rfl⟩;refine RB (fun A:List DF=>A.length<=16* (i+1)) ?_ fun A l=>⟨_,rfl,rfl,l⟩;refine KC F.1.length _ (fun p (s:List DF×Int)=>s.2=(p:Int)/\s.1.length<=16*i+p) ?_ ?_ _ ⟨rfl,by simpa using hL⟩
   ·rintro p ⟨M,_⟩ k ⟨rfl,r⟩;left;simp only at r;have P:idx F.1 (p:Int)=Ua F.1[p]:=ZE k;have c:=ZnG w h.farOk (Vd k) (fun v O=>(N v O).2) C (Vh g);simp only[ZQ k,Ze,P,Za,K,y,c,Kb k (show F.1.length<=9223372036854775807 by omega)]
    cases Ue (Va .i64 ((b.length:Int) - (i:Int))<(F.1[p]).2.2.1) with
    |false=>exact⟨_,rfl,rfl,by simp only;omega⟩
    |true=>
    simp only[Ze]
    cases Ue (o<=(F.1[p]).2.2.2.1) with
    |false=>exact⟨_,rfl,rfl,by simp only;omega⟩
    |true=>
    simp only[Ze,Za];rw[Dg (by simp;omega)]
    cases Ue (Tr.qandNot .u64 m (Va .u64 (F.1[p]).2.2.2.2.2.1)=0) with
    |false=>exact⟨_,rfl,rfl,by simp only;omega⟩
    |true=>exact⟨_,rfl,rfl,by simp;omega⟩
   ·rintro ⟨M,_⟩ ⟨rfl,r⟩;simp only at r;exact⟨M,by simp only[XQ,Zd],by omega⟩
 ·rintro ⟨L,_⟩ ⟨rfl,hL⟩;exact⟨L,by simp only[XQ,Zd],hL⟩
theorem ZkH{α:Type}{f:α->α->Bool}(b:∀x,f x x=Uc):∀l:List α,J2.eqDs f l l=Uc
 |[]=>rfl
 |a::l=>by simp only[J2.eqDs,Ve];exact⟨b a,ZkH b l⟩
theorem ZvD{F:Z4}(h:F.1.length<=4096):F29 (Ua F) (Ua F)=Ua true:=by
 show Qs.sameF (Ua F) (Ua F)=Ua Uc
 have e:J2 KL F F=true:=by
  have a:∀p:ZdX,J2 JX p p=true:=fun p=>by simp [J2]
  simp only[J2,Ve];exact⟨ZkH a _,by simp⟩
 simp only[Qs.sameF,Za,e,Zj h,Bool.and_self,Ze]
end Q
namespace Q
open Tr Go
abbrev ZoE:=Int×Int×Int×Int×ZM×Unit
abbrev ZA:=ZoE×Int×Int×Int×WM×List Zw×Unit
end Q
namespace Q
open Tr Go
def Zt(n:Zc)(i:Nat):List Wu:=(rn n (i:Int)).2.2.2.2.2.2.2.1
def Zi(n:Zc)(i c:Nat):Wu:=cl (Zt n i) (c:Int)
def Ya(n:Zc)(i:Nat):Bool:=(rn n (i:Int)).2.2.2.2.2.2.1
def KG(s t a b:Int):Zw:=(Ud,0,0,0,s,t,a,b,Ud,())
def ZR(n:Zc)(i b c:Nat)(st:Bool):Zw:=(Uc,(i:Int),(b:Int),(c:Int),(Zi n i b).1,(Zi n i c).1,(Zi n i b).2.2.1,(Zi n i c).2.1,st,())
def isLink(n:Zc)(i c j d:Nat)(st:Bool):Prop:=((i:Int),(c:Int),(j:Int),(d:Int),st,())∈n.2.2.2.1
structure WC (n:Zc):Prop where
 sound:WJ n
 change:∀s:Int,0<=s->s<(n.1.length:Int)->0<=(WO n s).2.2.2.1/\(WO n s).2.2.2.1<=3600
 path:∀p∈n.2.2.2.2.1,(0<=p.1/\p.1<(n.1.length:Int))/\(0<=p.2.1/\p.2.1<(n.1.length:Int))/\p.1≠p.2.1/\1<=p.2.2.1/\p.2.2.1<=14400
 link:∀x∈n.2.2.2.1,∃(i c j d:Nat) (st:Bool),x=((i:Int),(c:Int),(j:Int),(d:Int),st,())/\i<n.2.2.1.length/\j<n.2.2.1.length/\i≠j/\c<(Zt n i).length/\d<(Zt n j).length/\
  (Zi n i c).1=(Zi n j d).1/\(st=Uc->c+1=(Zt n i).length/\d=0)
theorem Zej{n:Zc}{i:Nat}(a:i<n.2.2.1.length):Zt n i=(n.2.2.1[i]).2.2.2.2.2.2.2.1:=by unfold Zt rn;grind
theorem ZcJ{n:Zc}{i c:Nat}(a:c<(Zt n i).length):Zi n i c=(Zt n i)[c]:=by unfold Zi cl;grind
theorem ZtE{n:Zc}{i:Nat}(h:WV n i=0):(cl (rn n (lk n i).1).2.2.2.2.2.2.2.1 (lk n i).2.1).1=(cl (rn n (lk n i).2.2.1).2.2.2.2.2.2.2.1 (lk n i).2.2.2.1).1/\
 ((lk n i).2.2.2.2.1=Uc->(lk n i).2.1+1=((rn n (lk n i).1).2.2.2.2.2.2.2.1.length:Int)/\(lk n i).2.2.2.1=0):=by
 unfold WV at h;simp only at h;by_cases a:Hg n (lk n i)=Uc
 ·grind
 rw[Zg a]at h;by_cases b:H7 n (lk n i)=Uc
 all_goals grind
theorem Whole.ok{n:Zc}(h:Whole n):WC n:=by
 refine⟨h.sound,fun s D f=>?_,fun p z=>?_,fun x B=>?_⟩
 ·have s0:=h.s;unfold Gv at s0;split at s0
  ·omega
  obtain⟨j,rfl⟩:∃j:Nat,s=(j:Int):=⟨s.toNat,by omega⟩;have m:j<n.1.length:=by omega
  have o:=Zb1 s0 j m;unfold Gu at o;have:=(De.1 o).2.2;unfold WO
  grind
 ·obtain⟨j,m,rfl⟩:=Vu z;obtain⟨f,l,_⟩:=ZaT (WU.1 h.q j m);rw[Ku m]at f l;unfold YZ at f;unfold Y0 at l
  grind
 ·obtain⟨j,m,rfl⟩:=Vu B;have o:=WU.1 h.g j m;obtain⟨f,l,_⟩:=ZaK o;obtain⟨r,t⟩:=ZtE o;have e:lk n j=n.2.2.2.1[j]:=by unfold lk;grind
  rw[e]at f l r t;generalize n.2.2.2.1[j]=x at*;unfold Hg at f;unfold H7 at l;unfold Ke at f l;simp only[Vx,Vm,decide_eq_false_iff_not,Ve,KD]at f l;obtain⟨u,v,w,y,C,E⟩:=x;simp only at f l r t;obtain⟨i,rfl⟩:∃i:Nat,u=(i:Int):=⟨u.toNat,by omega⟩;obtain⟨c,rfl⟩:∃i:Nat,v=(i:Int):=⟨v.toNat,by omega⟩;obtain⟨k,rfl⟩:∃i:Nat,w=(i:Int):=⟨w.toNat,by omega⟩;obtain⟨d,rfl⟩:∃i:Nat,y=(i:Int):=⟨y.toNat,by omega⟩;refine⟨i,c,k,d,C,rfl,by omega,by omega,by omega,?_,?_,r,fun A=>?_⟩
  ·unfold Zt;omega
  ·unfold Zt;omega
  ·obtain⟨a,b⟩:=t A;unfold Zt;omega
theorem WC.isLink{n:Zc}(h:WC n){i c j d:Nat}{st:Bool}(a:isLink n i c j d st):i<n.2.2.1.length/\j<n.2.2.1.length/\i≠j/\c<(Zt n i).length/\d<(Zt n j).length/\(Zi n i c).1=(Zi n j d).1/\(st=Uc->c+1=(Zt n i).length/\d=0):=by
 obtain⟨l,f,m,g,b,e,k⟩:=h.link _ a
 grind
theorem WC.stop{n:Zc}(h:WC n){i c:Nat}(a:i<n.2.2.1.length)(b:c<(Zt n i).length):0<=(Zi n i c).1/\(Zi n i c).1<(n.1.length:Int):=by rw[ZcJ b];refine h.sound.call _ (Vd a) _ ?_;simp only[Zej a];simp
theorem WC.time{n:Zc}(h:WC n){i c:Nat}(b:i<n.2.2.1.length)(a:c<(Zt n i).length):0<=(Zi n i c).2.1/\(Zi n i c).2.1<=(Zi n i c).2.2.1/\(Zi n i c).2.2.1<=3155932800:=by have d:=h.sound.time _ (Vd b);rw[ZcJ a];simp only[Zej b]at a⊢;have:=d c a;omega
inductive ZdS where
 |rdy (k:Nat) (s r:Int)
 |brd (k:Nat) (i c:Nat) (st:Bool)
 |lnk (k:Nat) (i c:Nat)
 |on (k:Nat) (i c:Nat)
 |rid (k:Nat) (s t:Int)
 |arr (k:Nat) (s t:Int)
inductive W9 (n:Zc) (s0 t0 w:Int):ZdS->List Zw->Prop
 |init:W9 n s0 t0 w (.rdy 0 s0 (t0+w)) []
 |here:W9 n s0 t0 w (.arr 0 s0 t0) []
 |rdyW {p:Kh} :p∈n.2.2.2.2.1->p.1=s0->t0+p.2.2.1<=3155932800->W9 n s0 t0 w (.rdy 0 p.2.1 (t0+p.2.2.1)) [KG s0 p.2.1 t0 (t0+p.2.2.1)]
 |arrW {p:Kh} :p∈n.2.2.2.2.1->p.1=s0->t0+p.2.2.1<=3155932800->W9 n s0 t0 w (.arr 0 p.2.1 (t0+p.2.2.1)) [KG s0 p.2.1 t0 (t0+p.2.2.1)]
 |board {k:Nat}{s r:Int}{js:List Zw}{i c:Nat} :W9 n s0 t0 w (.rdy k s r) js->i<n.2.2.1.length->c<(Zt n i).length->Ya n i=Ud->(Zi n i c).1=s->(Zi n i c).2.2.2.1=Uc->r<=(Zi n i c).2.2.1->W9 n s0 t0 w (.brd (k+1) i c Ud) js
 |on {k i b c:Nat}{st:Bool}{js:List Zw} :W9 n s0 t0 w (.brd k i b st) js->b<c->c<(Zt n i).length->W9 n s0 t0 w (.on k i c) (js++[ZR n i b c st])
 |stay {k i c j d:Nat}{js:List Zw} :W9 n s0 t0 w (.on k i c) js->isLink n i c j d Uc->(Zi n i c).2.1<=(Zi n j d).2.2.1->Ya n j=Ud->W9 n s0 t0 w (.brd k j d Uc) js
 |link {k i c j d:Nat}{js:List Zw} :W9 n s0 t0 w (.on k i c) js->(Zi n i c).2.2.2.2.1=Uc->isLink n i c j d Ud->(Zi n i c).2.1<=(Zi n j d).2.2.1->(Zi n j d).2.2.2.1=Uc->W9 n s0 t0 w (.lnk (k+1) j d) js
 |linked {k j d:Nat}{js:List Zw} :W9 n s0 t0 w (.lnk k j d) js->Ya n j=Ud->W9 n s0 t0 w (.brd k j d Ud) js
 |ride {k i c:Nat}{js:List Zw} :W9 n s0 t0 w (.on k i c) js->(Zi n i c).2.2.2.2.1=Uc->W9 n s0 t0 w (.rid k (Zi n i c).1 (Zi n i c).2.1) js
 |change {k:Nat}{s t:Int}{js:List Zw} :W9 n s0 t0 w (.rid k s t) js->W9 n s0 t0 w (.rdy k s (t+(WO n s).2.2.2.1)) js
 |rdyV {k:Nat}{s t:Int}{js:List Zw}{p:Kh} :W9 n s0 t0 w (.rid k s t) js->p∈n.2.2.2.2.1->p.1=s->t+p.2.2.1<=3155932800->W9 n s0 t0 w (.rdy k p.2.1 (t+p.2.2.1)) (js++[KG s p.2.1 t (t+p.2.2.1)])
 |arrR {k:Nat}{s t:Int}{js:List Zw} :W9 n s0 t0 w (.rid k s t) js->W9 n s0 t0 w (.arr k s t) js
 |arrV {k:Nat}{s t:Int}{js:List Zw}{p:Kh} :W9 n s0 t0 w (.rid k s t) js->p∈n.2.2.2.2.1->p.1=s->t+p.2.2.1<=3155932800->W9 n s0 t0 w (.arr k p.2.1 (t+p.2.2.1)) (js++[KG s p.2.1 t (t+p.2.2.1)])
def ZdS.ok(n:Zc):ZdS->Prop
 |.rdy _ s r=>(0<=s/\s<(n.1.length:Int))/\0<=r/\r<=3155932800+3600
 |.brd k i c _=>0<k/\i<n.2.2.1.length/\c<(Zt n i).length/\Ya n i=Ud
 |.lnk k i c=>0<k/\i<n.2.2.1.length/\c<(Zt n i).length
 |.on k i c=>0<k/\i<n.2.2.1.length/\c<(Zt n i).length/\Ya n i=Ud
 |.rid k s t=>0<k/\(0<=s/\s<(n.1.length:Int))/\0<=t/\t<=3155932800
 |.arr _ s t=>(0<=s/\s<(n.1.length:Int))/\0<=t/\t<=3155932800
theorem W9.ok{n:Zc}(h:WC n){s0 k w:Int}(l:0<=s0/\s0<(n.1.length:Int))(o:0<=k/\k<=3155932800)(p:0<=w/\w<=3600){f:ZdS}{js:List Zw}(d:W9 n s0 k w f js):f.ok n:=by
 induction d with
 |init=>exact⟨l,by omega,by omega⟩
 |here=>exact⟨l,o⟩
 |rdyW b _ j=>have:=h.path _ b;exact⟨this.2.1,by omega,by omega⟩
 |arrW b _ j=>have:=h.path _ b;exact⟨this.2.1,by omega,by omega⟩
 |board _ m e c _ _ _ _=>exact⟨Nat.succ_pos _,m,e,c⟩
 |on _ _ e a=>exact⟨a.1,a.2.1,e,a.2.2.2⟩
 |stay _ g _ c a=>have:=h.isLink g;exact⟨a.1,this.2.1,this.2.2.2.2.1,c⟩
 |link _ _ g _ _ _=>have:=h.isLink g;exact⟨Nat.succ_pos _,this.2.1,this.2.2.2.2.1⟩
 |linked _ c a=>exact⟨a.1,a.2.1,a.2.2,c⟩
 |ride _ _ a=>
  have:=h.time a.2.1 a.2.2.1
  exact⟨a.1,h.stop a.2.1 a.2.2.1,by omega,by omega⟩
 |change _ a=>have:=h.change _ a.2.1.1 a.2.1.2;exact⟨a.2.1,by have:=a.2.2;omega,by have:=a.2.2;omega⟩
 |rdyV _ b _ j a=>have:=h.path _ b;exact⟨this.2.1,by have:=a.2.2;omega,by omega⟩
 |arrR _ a=>exact a.2
 |arrV _ b _ j a=>have:=h.path _ b;exact⟨this.2.1,by have:=a.2.2;omega,by omega⟩
end Q
namespace Q
open Tr Go
def ZU(q:Zl):Zl:=(q.1,q.2.1,q.2.2.1,q.2.2.2.1,q.2.2.2.2.1,q.2.2.2.2.2.1,Ud,Ud,0,q.2.2.2.2.2.2.2.2.2)
theorem ZuJ{k:Nat}{q:Zl}(h:qB k q=Uc):qB k (ZU q)=true:=by unfold qB at h⊢;simp only[Ve,KD]at h⊢;obtain⟨a,b,c,d,e,_,f⟩:=h;exact⟨a,b,c,d,e,⟨Vzb 0,by show (0:Int)<=255;decide⟩,f⟩
theorem Zdw{n:Zc}{q:Zl}{x:Zw} :Dq n q x=0↔((cl (KT n x) x.2.2.1).1=x.2.2.2.2.1/\(cl (KT n x) x.2.2.2.1).1=x.2.2.2.2.2.1)/\((cl (KT n x) x.2.2.1).2.2.1=x.2.2.2.2.2.2.1/\(cl (KT n x) x.2.2.2.1).2.1=x.2.2.2.2.2.2.2.1)/\Ri n q (rn n x.2.1)=Uc/\(K0 x=Uc\/(cl (KT n x) x.2.2.1).2.2.2.1=Uc/\Ye n q x.2.2.2.2.1=Uc):=by
 unfold Dq;rw[WI (by omega),WI (by omega),WI (by omega),WI (by omega),WI (by omega),WI (by omega),WI (by omega),WI (by omega)];unfold Ri Tr.useB Ze9;rw[Vx,Vx];simp only[Vm,KD];generalize (rn n x.2.1).2.2.2.2.2.2.1=b;generalize (rn n x.2.1).2.2.2.2.2.1=c;generalize q.2.2.2.2.2.2.1=d;generalize (D7 n (rn n x.2.1)).2.2.1=e;generalize q.2.2.2.2.2.2.2.1=f;generalize (Ue (q.2.2.2.2.2.2.2.2.1=(0:Int)) ||decide (ZG .i64 (Vdc q.2.2.2.2.2.2.2.2.1 (2 ^ min (Vjb (D7 n (rn n x.2.1)).2.1) 64)) 1=1))=g;generalize K0 x=a;generalize (cl (KT n x) x.2.2.1).2.2.2.1=h;generalize Ye n q x.2.2.2.2.1=j;generalize ((cl (KT n x) x.2.2.1).1=x.2.2.2.2.1/\(cl (KT n x) x.2.2.2.1).1=x.2.2.2.2.2.1)=k
 generalize ((cl (KT n x) x.2.2.1).2.2.1=x.2.2.2.2.2.2.1/\(cl (KT n x) x.2.2.2.1).2.1=x.2.2.2.2.2.2.2.1)=l
 have key:((b=Ud/\(d&& !c)=Ud/\(f&& !e)=Ud/\(!g)=Ud/\(!a&& !h)=Ud/\(!a&& !j)=Ud/\(0:Int)=0)↔((!b&& ((c|| !d) && ((e|| !f) &&g)))=Uc/\(a=Uc\/h=Uc/\j=Uc))):=by
  cases b<;>cases c<;>cases d<;>cases e<;>cases f<;>cases g<;>cases a<;>cases h<;>cases j<;>simp
 exact and_congr_right fun _=>and_congr_right fun _=>by
  first
  |exact key
  |(simp only[Vm]at key⊢;exact key)
theorem Zq4(n:Zc)(q:Zl):Jb n q c0=c0:=by
 unfold Jb
 split<;>rfl
theorem ZgM(n:Zc)(q:Zl)(l:List Wu)(a:Int):cl (l.map (Jb n q)) a=Jb n q (cl l a):=by
 unfold cl;rw[Vga]
 cases l[a.toNat]? with
 |none=>exact(Zq4 n q).symm
 |some c=>rfl
theorem ZgO(n:Zc)(q:Zl)(c:Wu):Jb n q c=(c.1,c.2.1,c.2.2.1,c.2.2.2.1&&Ye n q c.1,c.2.2.2.2.1&&Ye n q c.1,()):=by
 unfold Jb
 cases h:Ye n q c.1 with
 |true=>simp
 |false=>simp
theorem Zek(n:Zc)(q:Zl)(x:Zw):KT (Kv n q) x=(KT n x).map (Jb n q):=Zm6 n q x.2.1
theorem ZkN(n:Zc)(q:Zl)(x:Zw):KF (Kv n q) x=KF n x:=by have a:(Kv n q).2.2.1.length=n.2.2.1.length:=Vr ..;unfold KF;rw[Zek,Vr,a]
theorem Zm5{n:Zc}{q:Zl}{x:Zw}(a:KF n x=Uc):rn (Kv n q) x.2.1=X6 n q (rn n x.2.1):=by
 unfold KF at a;rw[Ve]at a;have h:=a.1;unfold Ke at h;simp only[Ve,KD]at h;have b:x.2.1.toNat<n.2.2.1.length:=by omega
 unfold rn;show ((n.2.2.1.map (X6 n q))[x.2.1.toNat]?).getD u0=_;rw[Vga,Vh b];rfl
theorem Zfi(n:Zc)(q:Zl)(s:Int):Ye n (ZU q) s=true:=by unfold Ye ZU;simp
theorem Zn8(n:Zc)(q:Zl)(r:Hd):Ri n (ZU q) r= !r.2.2.2.2.2.2.1:=by unfold Ri Tr.useB ZU;simp
theorem Zu6{n:Zc}{q:Zl}{x:Zw}(c:KF n x=Uc):Dq (Kv n q) (ZU q) x=0↔Dq n q x=0:=by rw[Zdw,Zdw,Zek,ZgM,ZgM,ZgO,ZgO,Zm5 c,Zn8,Zfi];have b:(X6 n q (rn n x.2.1)).2.2.2.2.2.2.1= !Ri n q (rn n x.2.1):=rfl;rw[b,Bool.not_not];refine and_congr_right fun a=>and_congr_right fun _=>and_congr_right fun _=>?_;simp only[Ve];rw[a.1];simp
theorem Zph{α:Type}(p f:α->Bool)(l:List α):(l.filter p).any f=l.any fun x=>f x&&p x:=by
 induction l with
 |nil=>rfl
 |cons x l b=>
  cases a:p x with
  |true=>rw[List.filter_cons_of_pos a,Vmb,Vmb,b,a,Vic]
  |false=>rw[List.filter_cons_of_neg (by simp [a]),Vmb,b,a,Vkb,Vjc]
theorem ZfV{n:Zc}{q:Zl}{x:Zw} :HV n q x=0↔(n.2.2.2.2.1.any fun p=>HM x p&&Gd q p)=true:=by
 unfold HV
 cases (n.2.2.2.2.1.any fun p=>HM x p&&Gd q p) with
 |true=>simp
 |false=>cases n.2.2.2.2.1.any (HM x)<;>simp
theorem ZwF{n:Zc}{q:Zl}{x:Zw} :HV (Kv n q) (ZU q) x=0↔HV n q x=0:=by
 rw[ZfV,ZfV]
 have a:∀p:Kh,Gd (ZU q) p=true:=by intro p;unfold Gd ZU;simp
 show ((HP n q).any fun p=>HM x p&&Gd (ZU q) p)=Uc↔_;simp only[a,Vic];unfold HP Gd
 cases q.2.2.2.2.2.2.1 with
 |true=>simp only[if_true];rw[Zph];simp
 |false=>simp
theorem Zts{n:Zc}{q:Zl}{x:Zw} :Jv (Kv n q) (ZU q) x=0↔Jv n q x=0:=by
 have b:∀(n:Zc) (q:Zl),Jv n q x=0↔(!Ke x.2.2.2.2.1 n.1.length|| !Ke x.2.2.2.2.2.1 n.1.length)=Ud/\(bif x.1 then !KF n x else !Ue (x.2.1=0) || (!Ue (x.2.2.1=0) || (!Ue (x.2.2.2.1=0) ||K0 x)))=Ud/\(!Ue (0<=x.2.2.2.2.2.2.1/\x.2.2.2.2.2.2.1<=3155932800) || !Ue (0<=x.2.2.2.2.2.2.2.1/\x.2.2.2.2.2.2.2.1<=3155932800))=Ud/\(bif x.1 then Dq n q x else HV n q x)=0:=by intro n q;unfold Jv;rw[WI (by omega),WI (by omega),WI (by omega)]
 rw[b,b,ZkN];refine and_congr_right fun _=>and_congr_right fun a=>and_congr_right fun _=>?_
 cases c:x.1 with
 |true=>
  rw[c]at a
  exact Zu6 (by simpa using a)
 |false=>exact ZwF
theorem Zp6{n:Zc}{q:Zl}{L:List Zw}{i:Nat} :X8 (Kv n q) (ZU q) L i=0↔X8 n q L i=0:=by
 have e:∀(n:Zc) (q:Zl),X8 n q L i=0↔Jv n q (lg L i)=0/\Di n q L i=0/\(HU L i=Uc->G6 n q (lg L i)=0):=by
  intro n q;unfold X8;by_cases a:Jv n q (lg L i)=0
  ·by_cases b:Di n q L i=0
   ·rw[Zj a,Zj b]
    cases HU L i<;>simp [a,b]
   ·rw[Zj a,Zr b];simp [b]
  ·rw[Zr a];simp [a]
 have d:∀(n:Zc) (q:Zl) (x:Zw),G6 n q x=0↔(cl (KT n x) x.2.2.2.1).2.2.2.2.1=Uc/\Ye n q x.2.2.2.2.2.1=true:=by intro n q x;unfold G6;rw[WI (by omega),WI (by omega)];simp
 rw[e,e];refine(and_congr Zts Iff.rfl).trans (and_congr_right fun a=>and_congr Iff.rfl ?_);refine imp_congr_right fun c=>?_
 have h:(lg L i).1=true:=by unfold HU at c;rw[Ve]at c;exact c.1
 obtain⟨_,_,f,_⟩:=ZlE a;have g:=(Zdw.1 (f h).2).1.2;rw[d,d,Zek,ZgM,ZgO,Zfi];simp only[Ve];rw[g];simp
end Q
namespace Q
open Tr Go
variable {n:Zc}{q:Zl}
theorem ZlF{n:Zc}{q:Zl}{x:Zw} :Jv n q x=0↔(Ke x.2.2.2.2.1 n.1.length=Uc/\Ke x.2.2.2.2.2.1 n.1.length=Uc)/\(bif x.1 then !KF n x else !Ue (x.2.1=0) || (!Ue (x.2.2.1=0) || (!Ue (x.2.2.2.1=0) ||K0 x)))=Ud/\
 ((0<=x.2.2.2.2.2.2.1/\x.2.2.2.2.2.2.1<=3155932800)/\(0<=x.2.2.2.2.2.2.2.1/\x.2.2.2.2.2.2.2.1<=3155932800))/\(bif x.1 then Dq n q x else HV n q x)=0:=by
 unfold Jv;rw[WI (by omega),WI (by omega),WI (by omega)];simp only[Vx,Vm,KD]
theorem ZsV{a m:Nat} :Ke (a:Int) m=Uc↔a<m:=by unfold Ke;rw[Ve,KD,KD];omega
theorem ZaC{a:Int}{m:Nat} :Ke a m=Uc↔0<=a/\a<(m:Int):=by unfold Ke;rw[Ve,KD,KD]
theorem Zn7(n:Zc)(q:Zl)(i:Nat):Ri n (ZU q) (rn n (i:Int))=Uc↔Ya n i=false:=by
 rw[Zn8];unfold Ya
 cases (rn n (i:Int)).2.2.2.2.2.2.1<;>simp
def Zcu(n:Zc)(i b c:Nat)(st:Bool):Prop:=i<n.2.2.1.length/\b<c/\c<(Zt n i).length/\Ya n i=Ud/\(st=Uc\/(Zi n i b).2.2.2.1=Uc)
theorem Ztt(h:WC n){x:Zw} :(Jv n (ZU q) x=0/\x.1=Uc)↔∃i b c st,x=ZR n i b c st/\Zcu n i b c st:=by
 rw[ZlF];constructor
 ·rintro ⟨⟨a,f,g,d⟩,m⟩;rw[m]at f d;simp only[Ze,Vm]at f d;have k:=f;unfold KF KT at k;simp only[Ve,KD,ZaC]at k;obtain⟨⟨E,G⟩,H,I,J⟩:=k;obtain⟨⟨p,r⟩,⟨s,t⟩,v,e⟩:=Zdw.1 d;obtain⟨U,z,w,y,S,T,R,Q,xs,u⟩:=x;simp only at m a f g d E G H I J p r s t v e;obtain⟨i,rfl⟩:∃i:Nat,z=(i:Int):=⟨z.toNat,by omega⟩;obtain⟨b,rfl⟩:∃i:Nat,w=(i:Int):=⟨w.toNat,by omega⟩;obtain⟨c,rfl⟩:∃i:Nat,y=(i:Int):=⟨y.toNat,by omega⟩;subst m;have K:c<(Zt n i).length:=by unfold Zt;omega
  refine⟨i,b,c,xs,?_,by omega,by omega,K,(Zn7 n q i).1 v,?_⟩
  ·have A:(Zi n i b).1=S:=p;have B:(Zi n i c).1=T:=r;have C:(Zi n i b).2.2.1=R:=s;have D:(Zi n i c).2.1=Q:=t;unfold ZR;rw[A,B,C,D]
  ·rcases e with e|e
   ·exact .inl e
   ·exact .inr e.1
 ·rintro ⟨i,b,c,st,rfl,a,f,g,d,j⟩;have o:b<(Zt n i).length:=by omega
  have M:=h.stop a o;have N:=h.stop a g;have O:=h.time a o;have P:=h.time a g
  have l:KF n (ZR n i b c st)=true:=by unfold KF KT;simp only[Ve,KD];have:c<(rn n (i:Int)).2.2.2.2.2.2.2.1.length:=g;exact⟨ZsV.2 a,by show (0:Int)<=(b:Int);omega,by show (b:Int)<(c:Int);omega,by show (c:Int)<_;show (c:Int)<((rn n (i:Int)).2.2.2.2.2.2.2.1.length:Int);omega⟩
  refine⟨⟨⟨ZaC.2 M,ZaC.2 N⟩,?_,⟨⟨by show (0:Int)<=(Zi n i b).2.2.1;omega,O.2.2⟩,⟨P.1,by show (Zi n i c).2.1<=_;omega⟩⟩,?_⟩,rfl⟩
  ·show (!KF n (ZR n i b c st))=Ud;rw[l];rfl
  ·refine Zdw.2 ⟨⟨rfl,rfl⟩,⟨rfl,rfl⟩,(Zn7 n q i).2 d,?_⟩;rcases j with j|j
   ·exact .inl j
   ·exact .inr ⟨j,Zfi ..⟩
theorem Ztv(h:WC n){x:Zw} :(Jv n (ZU q) x=0/\x.1=Ud)↔∃p∈n.2.2.2.2.1,∃a,x=KG p.1 p.2.1 a (a+p.2.2.1)/\0<=a/\a+p.2.2.1<=3155932800:=by
 rw[ZlF];constructor
 ·rintro ⟨⟨f,d,m,g⟩,j⟩;rw[j]at d g;simp only[Zd,Vx,Vm,KD]at d g;have o:=ZfV.1 g;obtain⟨p,e,k⟩:=Vaa.1 o;rw[Ve]at k;have b:=k.1;unfold HM at b;simp only[Ve,KD]at b;obtain⟨y,w,s,t,v,z,l,r,xs,u⟩:=x;simp only at j f d m b;have c:=h.path p e;rw[ZH (by omega) (by omega)]at b;obtain⟨rfl,rfl,rfl,rfl⟩:=d;subst j;refine⟨p,e,l,?_,by omega,by omega⟩;unfold KG;rw[<-b.1, <-b.2.1,show r=l+p.2.2.1 by omega]
 ·rintro ⟨p,e,a,rfl,f,d⟩;have c:=h.path p e;refine⟨⟨⟨ZaC.2 c.1,ZaC.2 c.2.1⟩,rfl,⟨⟨f,by show a<=_;omega⟩,⟨by show 0<=a+p.2.2.1;omega,d⟩⟩,?_⟩,rfl⟩;show HV n (ZU q) _=0;rw[ZfV];refine Vaa.2 ⟨p,e,?_⟩;unfold HM Gd ZU KG;simp only[Ve,KD,Vy,Vtb];exact⟨⟨trivial,trivial,by rw[ZH (by omega) (by omega)];omega⟩,trivial⟩
theorem ZlL(h:WC n){i b c j d e:Nat}{st f k:Bool} :GM n (ZR n i b c st) (ZR n j d e f) k=Uc↔isLink n i c j d k:=by
 unfold GM;rw[Vaa];constructor
 ·rintro ⟨x,g,a⟩;obtain⟨v,t,w,u,y,rfl,_⟩:=h.link x g;unfold ZaL ZR at a;simp only[Ve,KD,Kj]at a;obtain⟨l,m,o,p,r⟩:=a;unfold isLink;rw[<-l, <-m, <-o, <-p, <-r];exact g
 ·intro s;refine⟨_,s,?_⟩;unfold ZaL ZR;simp
theorem ZsE(h:WC n){i b c j d e:Nat}{st:Bool} :Yt n (ZR n i b c st) (ZR n j d e Uc)=0↔(Zi n i c).1=(Zi n j d).1/\isLink n i c j d Uc/\(Zi n i c).2.1<=(Zi n j d).2.2.1:=by
 unfold Yt;have f:GM n (ZR n i b c st) (ZR n j d e Uc) Uc=Uc↔isLink n i c j d true:=ZlL h;generalize GM n (ZR n i b c st) (ZR n j d e Uc) Uc=B at*;unfold ZR K0;simp only[Vc,Vlb,Zd,Ze,Vjc];rw[WI (by omega),WI (by omega)];rw[<-f]
 cases B with
 |false=>simp
 |true=>
  simp only[Vc,Vm,KD,true_and];refine and_congr_right fun _=>?_;by_cases a:(Zi n j d).2.2.1<(Zi n i c).2.1
  ·rw[Zj a];simp;omega
  ·rw[Zr a];simp;omega
theorem ZsF{i b c:Nat}{st:Bool}{s t a z:Int} :Yt n (ZR n i b c st) (KG s t a z)=0↔(Zi n i c).1=s/\a=(Zi n i c).2.1:=by
 unfold Yt ZR KG K0;simp only[Vc,Vlb,Zd,Ze,Vy];rw[WI (by omega)];simp only[Vm,KD];refine and_congr_right fun _=>?_;by_cases d:a=(Zi n i c).2.1
 ·rw[Zj d];simp [d]
 ·rw[Zr d];simp [d]
theorem Zk9{j d e:Nat}{s t a z:Int} :Yt n (KG s t a z) (ZR n j d e Ud)=0↔t=(Zi n j d).1/\z<=(Zi n j d).2.2.1:=by
 unfold Yt ZR KG K0;simp only[Vc,Vkb,Zd,Ze,Vy];rw[WI (by omega)];simp only[Vm,KD];refine and_congr_right fun _=>?_;by_cases b:(Zi n j d).2.2.1<z
 ·rw[Zj b];simp;omega
 ·rw[Zr b];simp;omega
theorem ZsD(h:WC n){i b c j d e:Nat}{st:Bool}(k:i<n.2.2.1.length)(g:c<(Zt n i).length):Yt n (ZR n i b c st) (ZR n j d e Ud)=0↔(Zi n i c).1=(Zi n j d).1/\
 ((Zi n i c).2.1+(WO n (Zi n i c).1).2.2.2.1<=(Zi n j d).2.2.1\/isLink n i c j d Ud/\(Zi n i c).2.1<=(Zi n j d).2.2.1):=by
 have r:=h.time k g;have l:=h.stop k g;have o:=h.change _ l.1 l.2;have p:Va .i64 ((Zi n i c).2.1+(WO n (Zi n i c).1).2.2.2.1)=(Zi n i c).2.1+(WO n (Zi n i c).1).2.2.2.1:=ZH (by omega) (by omega);unfold Yt;have m:GM n (ZR n i b c st) (ZR n j d e Ud) Ud=Uc↔isLink n i c j d false:=ZlL h;generalize GM n (ZR n i b c st) (ZR n j d e Ud) Ud=B at*;unfold ZR K0;simp only[Vc,Vlb,Zd,p];rw[WI (by omega)];simp only[Vm,KD];refine and_congr_right fun _=>?_;rw[<-m];by_cases a:(Zi n i c).2.1+(WO n (Zi n i c).1).2.2.2.1<=(Zi n j d).2.2.1
 ·rw[Zj a];simp [a]
 ·rw[Zr a];by_cases f:(Zi n i c).2.1<=(Zi n j d).2.2.1
  ·rw[Zj f]
   cases B with
   |true=>simp [a,f]
   |false=>simp [a]
  ·rw[Zr f];simp [a,f]
theorem Zgu{i b c:Nat}{st:Bool} :G6 n (ZU q) (ZR n i b c st)=0↔(Zi n i c).2.2.2.2.1=true:=by unfold G6;rw[WI (by omega),WI (by omega),Zfi];show (!(Zi n i c).2.2.2.2.1)=Ud/\_↔_;simp
theorem ZgA{n:Zc}{q:Zl}{L:List Zw}{i:Nat} :X8 n q L i=0↔Jv n q (lg L i)=0/\Di n q L i=0/\(HU L i=Uc->G6 n q (lg L i)=0):=by
 unfold X8;by_cases a:Jv n q (lg L i)=0
 ·by_cases b:Di n q L i=0
  ·rw[Zj a,Zj b]
   cases HU L i<;>simp [a,b]
  ·rw[Zj a,Zr b];simp [b]
 ·rw[Zr a];simp [a]
theorem Zau{n:Zc}{q:Zl}{L:List Zw} :Gb n q L=0↔(lg L 0).2.2.2.2.1=q.1/\K0 (lg L 0)=Ud/\(!(lg L 0).1&& (Ue (1<L.length) && ((lg L 1).1&& !Ue ((lg L 1).2.2.2.2.2.2.1=(lg L 0).2.2.2.2.2.2.2.1))))=Ud/\
 (!(lg L 0).1&& (Ue (L.length=1) && (bif q.2.2.2.1 then !Ue ((lg L 0).2.2.2.2.2.2.2.1=q.2.2.1) else !Ue ((lg L 0).2.2.2.2.2.2.1=q.2.2.1))))=Ud/\
 (!q.2.2.2.1&&Ue ((lg L 0).2.2.2.2.2.2.1<q.2.2.1))=Ud/\(q.2.2.2.2.2.2.2.2.2.1&& ((lg L 0).1&&Ue ((lg L 0).2.2.2.2.2.2.1<Va .i64 (q.2.2.1+(WO n q.1).2.2.2.1))))=false:=by
 unfold Gb;rw[WI (by omega),WI (by omega),WI (by omega),WI (by omega),WI (by omega)];simp only[Vm,KD];refine and_congr_right fun _=>and_congr_right fun _=>and_congr_right fun _=>and_congr_right fun _=>and_congr_right fun _=>?_
 cases (q.2.2.2.2.2.2.2.2.2.1&& ((lg L 0).1&&Ue ((lg L 0).2.2.2.2.2.2.1<Va .i64 (q.2.2.1+(WO n q.1).2.2.2.1))))<;>simp
end Q
namespace Q
open Tr Go
abbrev W3:=Za9×JH×List (Int×Int×Int×Int×Unit) ×Unit
def KY:WM->List ZM
 |[]=>[]
 |[_]=>[]
 |x::y::t=>KY (y::t)++[x.2.1]
theorem D4{S:List JA->List Int->Prop}{F:DB}{a:List JA}{s:WM}(h:YQ S F a s):KY s=a:=by
 induction h with
 |start=>rfl
 |snoc b _ _ c=>
  obtain⟨_,_,_,e,_⟩:=b.head;subst e;show KY (_::_)++_=_;rw[c]
section
variable (F:Z4) (hF:FO F)
def Zgb(l:ZA):Prop:=XG F hF (KY l.2.2.2.2.1) l.2.2.2.2.1/\ ∀v∈KY l.2.2.2.2.1,X1 v
end
variable {F:Z4}{hF:FO F}{n:Zc}{q:Zl}
end Q
namespace Q
open Tr Go
variable {F:Z4}{hF:FO F}{n:Zc}{q:Zl}
def ZiA(n:Zc)(i c:Nat):Bool:=n.2.2.2.1.any fun l=>l.2.2.2.2.1&& (Ue (l.1=(i:Int)) &&Ue (l.2.1=(c:Int)))
def ZbR(n:Zc)(l:ZA)(j d:Nat):Bool:=n.2.2.2.1.any fun k=> !k.2.2.2.2.1&& (Ue (l.1.1=1) && (Ue (k.1=l.1.2.2.1) && (Ue (k.2.1=l.1.2.2.2.1) && (Ue (k.2.2.1=(j:Int)) &&Ue (k.2.2.2.1=(d:Int))))))
def JR(n:Zc)(v:ZM)(x:Zw):ZM:=(v.1,x.2.2.2.2.2.2.2.1,K5 .i64 v.2.2.1 ((HW n x:Nat):Int),K5 .i64 v.2.2.2.1 ((2 ^ (HS n x).2.1.toNat:Nat):Int),())
def Z2(n:Zc)(l:ZA)(i b c:Nat)(st:Bool)(v:ZM):ZA:=((1,(Zi n i c).1,(i:Int),(c:Int),JR n v (ZR n i b c st),()),(Zi n i c).2.1,l.2.2.1,l.2.2.2.1,l.2.2.2.2.1,l.2.2.2.2.2.1++[ZR n i b c st],())
def GS(n:Zc)(i c:Nat):Bool:=(Zi n i c).2.2.2.2.1||ZiA n i c
def ZnP(n:Zc)(l:ZA)(i b:Nat)(st:Bool)(v:ZM)(c:Nat):List ZA:=if GS n i c=Uc then [Z2 n l i b c st v] else []
def ZfM(n:Zc)(l:ZA)(i b:Nat)(st:Bool)(v:ZM):List ZA:=(Vl ((Zt n i).length - (b+1))).flatMap fun k=>ZnP n l i b st v (b+1+k)
theorem ZlY{l:ZA}{i b:Nat}{st:Bool}{v:ZM}{x:ZA} :x∈ZfM n l i b st v↔∃c,b<c/\c<(Zt n i).length/\GS n i c=Uc/\x=Z2 n l i b c st v:=by
 unfold ZfM ZnP;rw[Vo];constructor
 ·grind
 ·rintro ⟨c,a,d,e,rfl⟩;refine⟨c - (b+1),by grind,?_⟩
  grind
end Q
namespace Q
open Tr Go
theorem Zs5{n:Zc}(h:Yh n)(j:WJ n)(k:F124 n=Ua Uc)(q:Zl){L:List Zw}(m:L.length<=90)(l:∀x∈L,R7 x){d:List ZM}(e:K6 n L Ud []=(d,0))(u:d.length<=8):
 (∃s z t,F52 n q (L,())=Ua ((((L[0]?).map fun x=>x.2.2.2.2.2.2.1).getD q.2.2.1,z,(d.length:Int),s,Jr L,()),t,0))\/ ∃c,F52 n q (L,())=Ua (c,[],34):=by
 have a:F53 n (L,())=Ua (d,0):=by
  rcases Zfq n (L,()) h m with ⟨_,b⟩|⟨_,_,b⟩
  ·rw[k]at b;cases b
  ·rw[b,e]
 have o:=ZiS (L,()) (show L.length<=1000 by omega) l;unfold F52;rw[a];simp only[Za,decide_true,Vc,Zd];rcases Zlb j.fare (fun x p=>h.prods x p) d (by omega) with ⟨b,_⟩|⟨_,_,f⟩|⟨_,s,t,_,f⟩
 ·omega
 ·right;rw[f];exact⟨_,rfl⟩
 ·left;rw[f];simp only[Za,decide_true,Vc,Zd,o];by_cases g:0<L.length
  ·rw[Zj (show (0:Int)<(L.length:Int) by omega)];have el:Va .i64 ((L.length:Int) - 1)=((L.length - 1:Nat):Int):=by rw[ZH (by omega) (by omega)];omega
   have r:idx L (0:Int)=Ua L[0]:=ZE (i:=0) g;simp only[Ze,el,r,ZE (show L.length - 1<L.length by omega),Za];rw[Vh g];exact⟨_,_,_,rfl⟩
  ·rw[Zr (by omega)];have:L=[]:=List.eq_nil_of_length_eq_zero (by omega);subst this;exact⟨_,_,_,rfl⟩
end Q
namespace Q
open Tr Go
variable {F:Z4}{hF:FO F}{n:Zc}{q:Zl}
structure LV (F:Z4) (hF:FO F) (n:Zc) (q:Zl) (l:ZA):Prop where
 fare:Zgb F hF l
 len:l.2.2.2.2.2.1.length<=80
 rides:0<=l.2.2.1/\l.2.2.1<=q.2.2.2.2.1
 walk:0<=l.2.2.2.1/\l.2.2.2.1<=q.2.2.2.2.2.1
 time:0<=l.2.1/\l.2.1<=3155932800
 stop:0<=l.1.2.1/\l.1.2.1<(n.1.length:Int)
 kind:l.1.1=1->∃i c:Nat,l.1.2.2.1=(i:Int)/\l.1.2.2.2.1=(c:Int)/\i<n.2.2.1.length/\c<(Zt n i).length/\l.1.2.1=(Zi n i c).1/\l.2.1=(Zi n i c).2.1/\X1 l.1.2.2.2.2.1
 first:∀x,l.2.2.2.2.2.1=[x]->x.1=Ud->Xl x.2.2.2.2.2.2.1/\x.2.2.2.2.2.2.2.1=l.2.1
structure QI (q:Zl):Prop where
 rides:q.2.2.2.2.1<=7
 walk:q.2.2.2.2.2.1<=86400
def W5(L:List Zw)(d:Int):List Zw:=match L with
 |[x]=>if x.1=Uc then [x] else [(x.1,x.2.1,x.2.2.1,x.2.2.2.1,x.2.2.2.2.1,x.2.2.2.2.2.1,x.2.2.2.2.2.2.1+(d - x.2.2.2.2.2.2.2.1),d,x.2.2.2.2.2.2.2.2)]
 |L=>L
theorem Zjp(L:List Zw)(d:Int):(W5 L d).length=L.length:=by
 unfold W5
 grind
theorem Zbg{x:Zw}(h:x.1=Uc)(d:Int):W5 [x] d=[x]:=by unfold W5;grind
theorem Zae{x:Zw}(h:x.1=Ud)(d:Int):W5 [x] d=[(x.1,x.2.1,x.2.2.1,x.2.2.2.1,x.2.2.2.2.1,x.2.2.2.2.2.1,x.2.2.2.2.2.2.1+(d - x.2.2.2.2.2.2.2.1),d,x.2.2.2.2.2.2.2.2)]:=by
 show (if x.1=Uc then [x] else _)=_
 grind
theorem Zjr{L:List Zw}(h:L.length≠1)(d:Int):W5 L d=L:=by
 unfold W5
 grind
def HH(n:Zc)(l:ZA)(i c:Nat):ZA:=(l.1,l.2.1,l.2.2.1+1,l.2.2.2.1,l.2.2.2.2.1,W5 l.2.2.2.2.2.1 (Zi n i c).2.2.1,())
def J7(d:Int):ZM:=(d,0,0,0,())
def ZjT(n:Zc)(q:Zl)(l:ZA)(i c:Nat):List ZA:=if l.2.2.1=q.2.2.2.2.1 then [] else ZfM n (HH n l i c) i c Ud (J7 (Zi n i c).2.2.1)
theorem Zdi(d:Int):Small (J7 d):=⟨⟨by show (0:Int)<=0;omega,by show (0:Int)<65536;omega⟩,⟨by show (0:Int)<=0;omega,by show (0:Int)<65536;omega⟩⟩
def Zaj(n:Zc)(l:ZA)(fr:Int)(i c:Nat):Prop:=Ya n i=Ud/\(Zi n i c).2.2.2.1=Uc/\(Zi n i c).1=l.1.2.1/\c+1≠(Zt n i).length/\(fr<=(Zi n i c).2.2.1\/(l.2.1<=(Zi n i c).2.2.1/\ZbR n l i c=Uc))
instance (n:Zc) (l:ZA) (fr:Int) (i c:Nat):Decidable (Zaj n l fr i c):=by unfold Zaj;infer_instance
def ZgF(n:Zc)(q:Zl)(l:ZA)(fr:Int)(i c:Nat):List ZA:=if Zaj n l fr i c then ZjT n q l i c else []
def RC(n:Zc)(q:Zl)(l:ZA)(fr:Int):List ZA:=(Vl n.2.2.1.length).flatMap fun i=>(Vl (Zt n i).length).flatMap fun c=>ZgF n q l fr i c
theorem ZlU{l:ZA}{fr:Int}{i c:Nat}{x:ZA} :x∈ZgF n q l fr i c↔Zaj n l fr i c/\l.2.2.1≠q.2.2.2.2.1/\ ∃d,c<d/\d<(Zt n i).length/\GS n i d=Uc/\x=Z2 n (HH n l i c) i c d Ud (J7 (Zi n i c).2.2.1):=by
 unfold ZgF ZjT;by_cases a:Zaj n l fr i c
 ·rw[Zv a];by_cases b:l.2.2.1=q.2.2.2.2.1
  ·grind
  ·rw[Zg b,ZlY]
   grind
 grind
theorem GO{l:ZA}{fr:Int}{x:ZA} :x∈RC n q l fr↔∃i c d,i<n.2.2.1.length/\c<d/\d<(Zt n i).length/\Zaj n l fr i c/\l.2.2.1≠q.2.2.2.2.1/\GS n i d=Uc/\x=Z2 n (HH n l i c) i c d Ud (J7 (Zi n i c).2.2.1):=by
 unfold RC;rw[Vo];constructor
 ·rintro ⟨i,a,b⟩;obtain⟨c,m,b⟩:=Vo.1 b;rw[Vla]at a m;obtain⟨e,f,d,g,h,j,k⟩:=ZlU.1 b
  grind
 ·rintro ⟨i,c,d,a,g,h,e,f,j,k⟩;exact⟨i,Vla.2 a,Vo.2 ⟨c,by grind,ZlU.2 ⟨e,f,d,g,h,j,k⟩⟩⟩
def JD(l:ZA)(p:Kh):ZA:=((2,p.2.1,0,0,(0,0,0,0,()),()),l.2.1+p.2.2.1,l.2.2.1,l.2.2.2.1+p.2.2.1,l.2.2.2.2.1,l.2.2.2.2.2.1++[KG l.1.2.1 p.2.1 l.2.1 (l.2.1+p.2.2.1)],())
def Zbs(q:Zl)(l:ZA)(p:Kh):Prop:=p.1=l.1.2.1/\l.2.2.2.1+p.2.2.1<=q.2.2.2.2.2.1/\l.2.1+p.2.2.1<=3155932800
instance (q:Zl) (l:ZA) (p:Kh):Decidable (Zbs q l p):=by unfold Zbs;infer_instance
def ZiP(q:Zl)(l:ZA)(p:Kh):List ZA:=if Zbs q l p then [JD l p] else []
def Za5(n:Zc)(q:Zl)(l:ZA):List ZA:=n.2.2.2.2.1.flatMap (ZiP q l)
theorem ZlZ{l:ZA}{p:Kh}{x:ZA} :x∈ZiP q l p↔Zbs q l p/\x=JD l p:=by unfold ZiP;simp
theorem Dj{l:ZA}{x:ZA} :x∈Za5 n q l↔∃p∈n.2.2.2.2.1,Zbs q l p/\x=JD l p:=by unfold Za5;rw[Vo];exact⟨fun⟨p,a,b⟩=>⟨p,a,ZlZ.1 b⟩,fun⟨p,a,b⟩=>⟨p,a,ZlZ.2 b⟩⟩
def Zbr(n:Zc)(l:ZA)(k:H2):Prop:=k.2.2.2.2.1=Uc/\k.1=l.1.2.2.1/\k.2.1=l.1.2.2.2.1/\Ya n k.2.2.1.toNat=Ud/\l.2.1<=(Zi n k.2.2.1.toNat 0).2.2.1
instance (n:Zc) (l:ZA) (k:H2):Decidable (Zbr n l k):=by unfold Zbr;infer_instance
def Ziz(n:Zc)(l:ZA)(k:H2):List ZA:=if Zbr n l k then ZfM n l k.2.2.1.toNat 0 Uc l.1.2.2.2.2.1 else []
def ZdG(n:Zc)(l:ZA):List ZA:=n.2.2.2.1.flatMap (Ziz n l)
theorem ZlW{l:ZA}{k:H2}{x:ZA} :x∈Ziz n l k↔Zbr n l k/\ ∃d,0<d/\d<(Zt n k.2.2.1.toNat).length/\GS n k.2.2.1.toNat d=Uc/\x=Z2 n l k.2.2.1.toNat 0 d Uc l.1.2.2.2.2.1:=by
 unfold Ziz;by_cases h:Zbr n l k
 ·rw[Zv h,ZlY];grind
 grind
theorem D0{l:ZA}{x:ZA} :x∈ZdG n l↔∃k∈n.2.2.2.1,Zbr n l k/\ ∃d,0<d/\d<(Zt n k.2.2.1.toNat).length/\GS n k.2.2.1.toNat d=Uc/\x=Z2 n l k.2.2.1.toNat 0 d Uc l.1.2.2.2.2.1:=by unfold ZdG;rw[Vo];exact⟨fun⟨p,a,b⟩=>⟨p,a,ZlW.1 b⟩,fun⟨p,a,b⟩=>⟨p,a,ZlW.2 b⟩⟩
end Q
namespace Q
open Tr Go
variable {F:Z4}{hF:FO F}{n:Zc}{q:Zl}
noncomputable def Gq(s:WM)(r:ZM):WM:=((F22 s r).getD ([],1)).1
noncomputable def YA(l:ZA):ZA:=(l.1,l.2.1,l.2.2.1,l.2.2.2.1,Gq l.2.2.2.2.1 l.1.2.2.2.2.1,l.2.2.2.2.2.1,())
def Xp(n:Zc)(l:ZA):Bool:=(Zi n l.1.2.2.1.toNat l.1.2.2.2.1.toNat).2.2.2.2.1
def Da(n:Zc)(s:Int):Int:=(WO n s).2.2.2.1
noncomputable def Dw(n:Zc)(q:Zl)(l:ZA):List ZA:=
 if l.1.1=1 then ZdG n l++(if Xp n l=Uc then RC n q (YA l) (l.2.1+Da n l.1.2.1)++Za5 n q (YA l) else [])
 else if l.1.1=2 then RC n q l l.2.1
 else RC n q l (l.2.1+(if q.2.2.2.2.2.2.2.2.2.1=Uc then Da n l.1.2.1 else 0))++Za5 n q l
def ZcX(n:Zc)(q:Zl)(l:ZA):Prop:=(l.1.1=1->Xp n l=Uc)/\l.1.2.1=q.2.1
instance (n:Zc) (q:Zl) (l:ZA):Decidable (ZcX n q l):=by unfold ZcX;infer_instance
theorem ZmZ{l:ZA}(c:LV F hF n q l)(j:l.1.1=1)(h:(KY l.2.2.2.2.1).length+1<=8):F22 l.2.2.2.2.1 l.1.2.2.2.2.1=Ua (Gq l.2.2.2.2.1 l.1.2.2.2.2.1,0)/\XG F hF (KY l.2.2.2.2.1++[l.1.2.2.2.2.1]) (Gq l.2.2.2.2.1 l.1.2.2.2.2.1)/\ ∀v∈KY l.2.2.2.2.1++[l.1.2.2.2.2.1],X1 v:=by
 obtain⟨_,_,_,_,_,_,_,_,a⟩:=c.kind j
 have f:∀v∈KY l.2.2.2.2.1++[l.1.2.2.2.2.1],X1 v:=fun v b=>by
  rw[Vk,Vn]at b;rcases b with b|rfl
  ·exact c.fare.2 v b
  ·exact a
 obtain⟨k,d,g⟩:=Ziy hF c.fare.1 f h;have e:Gq l.2.2.2.2.1 l.1.2.2.2.2.1=k:=by unfold Gq;rw[d];rfl
 rw[e];exact⟨d,g,f⟩
theorem LV.next{l:ZA}(a:LV F hF n q l)(f:l.1.1=1)(d:(KY l.2.2.2.2.1).length+1<=8):LV F hF n q (YA l):=by
 obtain⟨g,b,c⟩:=ZmZ a f d;have e:=D4 b
 refine⟨⟨?_,?_⟩,a.len,a.rides,a.walk,a.time,a.stop,a.kind,a.first⟩
 ·show XG F hF (KY (Gq _ _)) (Gq _ _);rw[e];exact b
 ·show∀v∈KY (Gq _ _),X1 v;rw[e];exact c
end Q
namespace Q
open Tr Go
structure WR (n:Zc):Prop where
 stops:n.1.length<=5
 runs:n.2.2.1.length<=7
 paths:n.2.2.2.2.1.length<=60
 calls:∀i,i<n.2.2.1.length->(Zt n i).length<=6
variable {n:Zc}{q:Zl}
noncomputable def Zcc(n:Zc):Int->Option Int:=Wc n n.2.2.2.1.length
def XZ(n:Zc)(a b:Int):Prop:= ∃k,Kz (Zcc n) a (k+1)=Ua b
theorem Zmk(f:Int->Option Int):∀(k:Nat) {a b c:Int}{l:Nat},Kz f a k=Ua b->Kz f b l=Ua c->Kz f a (k+l)=Ua c
 |0,a,b,c,l,d,g=>by
  have:a=b:=Ky d
  grind
 |k+1,a,b,c,l,d,g=>by
  have e:(f a).bind (fun b=>Kz f b k)=Ua b:=d;obtain⟨j,m,h⟩:=Option.bind_eq_some_iff.1 e;have:=Zmk f k h g;rw[show k+1+l=(k+l)+1 by omega];show (f a).bind (fun b=>Kz f b (k+l))=Ua c
  grind
theorem XZ.trans{a b c:Int}(d:XZ n a b)(e:XZ n b c):XZ n a c:=by obtain⟨k,d⟩:=d;obtain⟨l,e⟩:=e;exact⟨k+l+1,by rw[show k+l+1+1=(k+1)+(l+1) by omega];exact Zmk _ _ d e⟩
theorem XZ.one{a b:Int}(h:Zcc n a=Ua b):XZ n a b:=⟨0,by show (Zcc n a).bind (fun b=>Ua b)=Ua b;grind⟩
theorem XZ.irr(h:Whole n){a:Int} :¬XZ n a a:=by rintro ⟨k,c⟩;exact Zma (ZeJ (fun j b=>WU.1 h.g j b) a) k c
theorem ZfF(h:Whole n){i c j d:Nat}(p:isLink n i c j d Uc):Zcc n (i:Int)=Ua (j:Int):=by
 obtain⟨a,k,u⟩:=Vu p;have r:lk n a=((i:Int),(c:Int),(j:Int),(d:Int),Uc,()):=by unfold lk;grind
 cases l:Zcc n (i:Int) with
 |none=>
  have:=Zh5 l a k (by grind)
  grind
 |some b=>
  obtain⟨e,m,o,s,t⟩:=Zdl l
  have:e=a:=by
   rcases Vwb e a with f|rfl|f
   ·have:=(ZaK (WU.1 h.g a k)).2.2 (by grind)
    grind
   ·rfl
   ·have:=(ZaK (WU.1 h.g e m)).2.2 o
    grind
  grind
open Classical in
noncomputable def Xy(n:Zc)(a b:Nat):Nat:=if XZ n (a:Int) (b:Int) then 1 else 0
noncomputable def WB(n:Zc)(a:Nat):Nat:=Xy n a 0+Xy n a 1+Xy n a 2+Xy n a 3+Xy n a 4+Xy n a 5+Xy n a 6
theorem ZuX(a b:Nat):Xy n a b<=1:=by unfold Xy;grind
theorem ZmP(h:Whole n)(a:Nat):Xy n a a=0:=by unfold Xy;rw[Zg (XZ.irr h)]
theorem ZuW(h:Whole n)(a b:Nat):Xy n a b+Xy n b a<=1:=by
 unfold Xy;by_cases c:XZ n (a:Int) (b:Int)
 ·rw[Zv c,Zg (fun d=>XZ.irr h (c.trans d))];omega
 grind
theorem Zfr(a:Nat):WB n a<=7:=by have:=fun b=>ZuX (n:=n) a b;have c:=this 0;have d:=this 1;have e:=this 2;have f:=this 3;have g:=this 4;have h:=this 5;have j:=this 6;unfold WB;omega
theorem Zve(h:Whole n):WB n 0+WB n 1+WB n 2+WB n 3+WB n 4+WB n 5+WB n 6<=21:=by have a:=ZuW h;have i:=ZmP h;have s:=i 0;have t:=i 1;have u:=i 2;have v:=i 3;have w:=i 4;have x:=i 5;have y:=i 6;have b:=a 0 1;have c:=a 0 2;have d:=a 0 3;have e:=a 0 4;have f:=a 0 5;have g:=a 0 6;have a12:=a 1 2;have j:=a 1 3;have k:=a 1 4;have l:=a 1 5;have m:=a 1 6;have a23:=a 2 3;have a24:=a 2 4;have a25:=a 2 5;have a26:=a 2 6;have o:=a 3 4;have a35:=a 3 5;have p:=a 3 6;have a45:=a 4 5;have a46:=a 4 6;have r:=a 5 6;unfold WB;omega
theorem Zfs(h:Whole n){i j:Nat}(f:j<7)(d:Zcc n (i:Int)=Ua (j:Int)):WB n j+1<=WB n i:=by
 have c:=XZ.one d
 have a:∀k,Xy n j k<=Xy n i k:=fun k=>by
  unfold Xy;by_cases b:XZ n (j:Int) (k:Int)
  ·rw[Zv b,Zv (c.trans b)];omega
  grind
 have b:Xy n i j=1:=by unfold Xy;grind
 have e:=ZmP h j;have g:=a 0;have l:=a 1;have m:=a 2;have o:=a 3;have p:=a 4;have r:=a 5;have s:=a 6;unfold WB
 grind
def KV:Nat->(Nat->Nat)->Nat
 |0,_=>0
 |m+1,f=>KV m f+f m
theorem Gw{f g:Nat->Nat} :∀{m:Nat},(∀i,i<m->f i<=g i)->KV m f<=KV m g
 |0,_=>Vt _
 |m+1,h=>Vhc (Gw (by grind)) (by grind)
theorem R1(f g:Nat->Nat):∀m,KV m (fun i=>f i+g i)=KV m f+KV m g
 |0=>rfl
 |m+1=>by show KV m _+(f m+g m)=(KV m f+f m)+(KV m g+g m);rw[R1 f g m];omega
theorem Zcd(c:Nat)(f:Nat->Nat):∀m,KV m (fun i=>c*f i)=c*KV m f
 |0=>rfl
 |m+1=>by show KV m _+_=c* (KV m f+f m);rw[Zcd c f m,Nat.mul_add]
theorem GY{f:Nat->Nat} :∀{m:Nat},(∀i,i<m->f i=0)->KV m f=0
 |0,_=>rfl
 |m+1,h=>by show KV m f+f m=0;rw[GY (by grind),h m (by omega)]
theorem ZnK{f:Nat->Nat}{j:Nat} :∀{m:Nat},(∀i,i<m->i≠j->f i=0)->KV m f<=f j
 |0,_=>Vea _
 |m+1,h=>by
  show KV m f+f m<=f j;by_cases e:m=j
  ·subst e;rw[GY (by grind)];omega
  ·rw[h m (by omega) e];exact ZnK (by grind)
theorem ZnJ(c:Nat):∀m,KV m (fun _=>c)=m*c
 |0=>by simp [KV]
 |m+1=>by show KV m _+c=_;rw[ZnJ c m,Nat.succ_mul]
theorem ZfG{β:Type}(w:β->Nat)(f:Nat->List β):∀m,(((Vl m).flatMap f).map w).sum=KV m fun i=>((f i).map w).sum
 |0=>rfl
 |m+1=>by
  have e: [m].flatMap f=f m:=by simp
  rw[Vfc,Via,Vfb,Vgc,ZfG w f m,e];rfl
def gW:Nat->Nat
 |0=>61
 |l+1=>61+1890*gW l
noncomputable def Zci(n:Zc)(l i c:Nat):Nat:=gW l* (1+if c+1=(Zt n i).length then 5*WB n i else 0)
noncomputable def wr(n:Zc):Nat->Nat->Nat->Nat
 |0,_,_=>0
 |l+1,i,c=>Zci n l i c
noncomputable def bw(n:Zc)(l i b:Nat):Nat:=KV ((Zt n i).length - (b+1)) fun k=>wr n l i (b+1+k)
noncomputable def rW(n:Zc)(l:Nat)(s:Int):Nat:=KV n.2.2.1.length fun i=>KV (Zt n i).length fun b=>if (Zi n i b).1=s then bw n l i b else 0
noncomputable def tW(n:Zc)(l:Nat):Nat:=KV n.2.2.1.length fun i=>KV (Zt n i).length fun b=>bw n l i b
theorem ZlH(l i b:Nat):KV ((Zt n i).length - (b+1)) (fun k=>Zci n l i (b+1+k))<=gW l* ((Zt n i).length - (b+1)+5*WB n i):=by
 unfold Zci;rw[Zcd];refine Vta _ ?_;rw[R1,ZnJ];refine Vhc (by omega) ?_;by_cases a:(Zt n i).length - (b+1)=0
 ·rw[a];exact Vea _
 ·refine Vka (ZnK (j:=(Zt n i).length - (b+1) - 1) (by grind)) ?_
  grind
theorem Zvw(l i:Nat):∀m,m<=(Zt n i).length->(Zt n i).length<=6->KV m (fun b=>KV ((Zt n i).length - (b+1)) fun k=>Zci n l i (b+1+k))<=gW l* (15+25*WB n i):=by
 intro m h e
 refine Vka (Gw (g:=fun b=>gW l* ((Zt n i).length - (b+1)+(if b+1<(Zt n i).length then 5*WB n i else 0))) fun b f=>?_) ?_
 ·by_cases a:b+1<(Zt n i).length
  ·rw[Zv a];exact ZlH l i b
  ·have:(Zt n i).length - (b+1)=0:=by omega
   rw[this];exact Vea _
 ·rw[Zcd];refine Vta _ ?_;generalize (Zt n i).length=k at*;generalize WB n i=r;have d:k=0\/k=1\/k=2\/k=3\/k=4\/k=5\/k=6:=by omega
  have c:m=0\/m=1\/m=2\/m=3\/m=4\/m=5\/m=6:=by omega
  rcases d with rfl|rfl|rfl|rfl|rfl|rfl|rfl<;>rcases c with rfl|rfl|rfl|rfl|rfl|rfl|rfl<;>simp [KV]<;>omega
theorem Zwc{f:Nat->Nat}{m:Nat}(b:m<=7):KV m f<=f 0+f 1+f 2+f 3+f 4+f 5+f 6:=by
 have a:m=0\/m=1\/m=2\/m=3\/m=4\/m=5\/m=6\/m=7:=by omega
 rcases a with rfl|rfl|rfl|rfl|rfl|rfl|rfl|rfl<;>simp [KV]<;>omega
theorem Zwd(c:Whole n)(a:WR n)(l:Nat):61+3*tW n l<=gW l:=by
 cases l with
 |zero=>
  have:tW n 0=0:=by unfold tW;refine GY fun i _=>GY fun b _=>?_;unfold bw wr;exact GY fun k _=>rfl
  show 61+3*tW n 0<=61
  omega
 |succ l=>
  have e:tW n (l+1)<=gW l*630:=by unfold tW bw wr;refine Vka (Gw (g:=fun i=>gW l* (15+25*WB n i)) fun i d=>Zvw l i _ (Vt _) (a.calls i d)) ?_;rw[Zcd];refine Vta _ (Vka (Zwc a.runs) ?_);have:=Zve c;omega
  show 61+3*tW n (l+1)<=61+1890*gW l;omega
def Zan(P:List Kh)(s t:Int):Nat:=(P.filter fun p=>Ue (p.1=s) &&Ue (p.2.1=t)).length
theorem Zoi(l:Nat)(s:Int):∀P:List Kh,((P.filter fun p=>Ue (p.1=s)).map fun p=>rW n l p.2.1).sum=KV n.2.2.1.length fun i=>KV (Zt n i).length fun b=>Zan P s (Zi n i b).1*bw n l i b
 |[]=>by
  symm
  exact GY fun i _=>GY fun b _=>by simp [Zan]
 |p::P=>by
  have a:=Zoi l s P;rw[List.filter_cons];by_cases h:p.1=s
  ·rw[Zv (by grind),Vkc,Vlc,a];unfold rW;rw[<-R1];congr 1;funext i;rw[<-R1];congr 1;funext b;unfold Zan
   grind
  ·rw[Zg (by grind),a];congr 1;funext i;congr 1;funext b;unfold Zan
   grind
theorem Zrp(o:Whole n)(s t:Int):(if t=s then 1 else 0)+Zan n.2.2.2.2.1 s t<=2:=by
 obtain⟨A,r⟩:=Zib.1 (WU.1 o.q);unfold Zan;have e:∀p∈n.2.2.2.2.1.filter (fun p=>Ue (p.1=s) &&Ue (p.2.1=t)),p.1=s/\p.2.1=t:=by simp
 have d:=r.sublist (List.filter_sublist (p:=fun p:Kh=>Ue (p.1=s) &&Ue (p.2.1=t)))
 have f:∀p∈n.2.2.2.2.1.filter (fun p=>Ue (p.1=s) &&Ue (p.2.1=t)),p.1≠p.2.1:=fun p d=>by exact(o.ok.path p (Vgb.1 d).1).2.2.1
 generalize n.2.2.2.2.1.filter (fun p=>Ue (p.1=s) &&Ue (p.2.1=t))=F at*
 match F,e,d,f with
 |[],_,_,_=>grind
 |[a],e,_,f=>
  grind
 |[a,b],e,_,f=>
  grind
 |a::b::c::F,e,d,_=>
  exfalso;have k:=e a (by simp);have l:=e b (by simp);have m:=e c (by simp);rw[Vrb]at d;have g:=d.1 b (by simp);have h:=d.1 c (by simp);have j:=(Vrb.1 d.2).1 c (by simp);unfold JP at g h j;rw[k.1,k.2,l.1,l.2]at g;rw[k.1,k.2,m.1,m.2]at h;rw[l.1,l.2,m.1,m.2]at j;have u:a.2.2.2.1≠b.2.2.2.1:=by grind
  have v:a.2.2.2.1≠c.2.2.2.1:=by grind
  have w:b.2.2.2.1≠c.2.2.2.1:=by grind
  exact(show∀x y z:Bool,x≠y->x≠z->y≠z->False by decide) _ _ _ u v w
theorem Zl8(c:Whole n)(a:WR n)(l:Nat)(s:Int):1+2*rW n l s+((n.2.2.2.2.1.filter fun p=>Ue (p.1=s)).map fun p=>1+rW n l p.2.1).sum<=gW l:=by
 have d:∀P:List Kh,(P.map fun p=>1+rW n l p.2.1).sum=P.length+(P.map fun p=>rW n l p.2.1).sum:=by
  intro P
  induction P with
  |nil=>rfl
  |cons p P h=>grind
 rw[d,Zoi];have f:(n.2.2.2.2.1.filter fun p=>Ue (p.1=s)).length<=60:=Vka (Vfa _ _) a.paths
 have key:rW n l s+(KV n.2.2.1.length fun i=>KV (Zt n i).length fun b=>Zan n.2.2.2.2.1 s (Zi n i b).1*bw n l i b)<=2*tW n l:=by
  unfold rW tW;rw[<-R1, <-Zcd];refine Gw fun i _=>?_;rw[<-R1, <-Zcd];refine Gw fun b _=>?_;have:=Zrp c s (Zi n i b).1
  have e:(if (Zi n i b).1=s then bw n l i b else 0)=(if (Zi n i b).1=s then 1 else 0) *bw n l i b:=by grind
  rw[e, <-Nat.add_mul];exact Nat.mul_le_mul_right _ this
 have g:rW n l s<=tW n l:=by
  unfold rW tW;refine Gw fun i _=>Gw fun b _=>?_;split
  ·exact Vt _
  ·exact Vea _
 have:=Zwd c a l;omega
end Q
namespace Q
open Tr Go
variable {F:Z4}{hF:FO F}{n:Zc}{q:Zl}
theorem ZfH{α β:Type}(w:β->Nat)(f:α->List β):∀l:List α,((l.flatMap f).map w).sum=(l.map fun x=>((f x).map w).sum).sum
 |[]=>rfl
 |x::l=>by rw[List.flatMap_cons,Vfb,Vgc,ZfH w f l];rfl
def WA(q:Zl)(l:ZA):Nat:=(q.2.2.2.2.1 - l.2.2.1).toNat
noncomputable def hL(n:Zc)(q:Zl)(l:ZA):Nat:=20*WA q l+(if l.1.1=1 then 10+WB n l.1.2.2.1.toNat else if l.1.1=2 then 5 else 19)
theorem Zv4(h:Whole n){a c:Nat}(f:a<n.2.2.2.1.length)(j:c<n.2.2.2.1.length)(k:(n.2.2.2.1[a]).2.2.2.2.1=Uc)(l:(n.2.2.2.1[c]).2.2.2.2.1=Uc)(e:(n.2.2.2.1[a]).1=(n.2.2.2.1[c]).1):a=c:=by
 have g:∀b (m:b<n.2.2.2.1.length),lk n b=n.2.2.2.1[b]:=fun b m=>by unfold lk;rw[Ku m]
 rcases Vwb a c with d|rfl|d
 ·have:=(ZaK (WU.1 h.g c j)).2.2 (by rw[g c j];exact l);exact absurd ⟨a,d,by rw[g a f];exact k,.inl (by rw[g a f,g c j];exact e)⟩ this.1
 ·rfl
 ·have:=(ZaK (WU.1 h.g a f)).2.2 (by rw[g a f];exact k);exact absurd ⟨c,d,by rw[g c j];exact l,.inl (by rw[g a f,g c j];exact e.symm)⟩ this.1
theorem Zld(l:ZA)(i b c:Nat)(st:Bool)(v:ZM):hL n q (Z2 n l i b c st v)=20*WA q l+(10+WB n i):=by unfold hL Z2 WA;simp only[if_true,Vj]
theorem ZgG{l:ZA}(f:l.2.2.1<=q.2.2.2.2.1){fr:Int}{x:ZA}(b:x∈RC n q l fr):hL n q x+3<=20*WA q l/\x.2.2.2.2.2.1.length=l.2.2.2.2.2.1.length+1:=by
 obtain⟨i,c,d,_,_,_,_,a,_,rfl⟩:=GO.1 b;rw[Zld];have:=Zfr (n:=n) i
 have e:WA q l=WA q (HH n l i c)+1:=by unfold WA HH;simp only;omega
 refine⟨by omega,?_⟩;show (W5 _ _++[_]).length=_;rw[Vp,Zjp];rfl
theorem Zof{l:ZA}{x:ZA}(a:x∈Za5 n q l):hL n q x=20*WA q l+5/\x.2.2.2.2.2.1.length=l.2.2.2.2.2.1.length+1:=by obtain⟨p,_,_,rfl⟩:=Dj.1 a;exact⟨rfl,by show (_++[_]).length=_;simp⟩
theorem Zod(h:Whole n)(B:WR n){l:ZA}(u:LV F hF n q l){x:ZA}(a:x∈Dw n q l):hL n q x<hL n q l/\x.2.2.2.2.2.1.length=l.2.2.2.2.2.1.length+1:=by
 have f:=u.rides.2;unfold Dw at a;by_cases e:l.1.1=1
 ·rw[Zv e]at a;obtain⟨i,c,z,D,H,E,_⟩:=u.kind e;have m:hL n q l=20*WA q l+(10+WB n i):=by unfold hL;rw[Zv e,z,Vj]
  have s:WA q (YA l)=WA q l:=rfl;rcases Vk.1 a with a|a
  ·obtain⟨k,t,⟨p,v,_⟩,d,_,G,_,rfl⟩:=D0.1 a;obtain⟨r,y,j,w,J,C,f,I,_⟩:=h.ok.link _ t;subst C;simp only at p v;subst p;have A:r=i:=by omega
   subst A;have b:isLink n r y j w true:=t;have o:j<7:=by have:=B.runs;omega
   have:=Zfs h o (ZfF h b);rw[Zld,m];simp only[Vj];exact⟨by omega,by show (_++[_]).length=_;simp⟩
  ·split at a
   ·rcases Vk.1 a with a|a
    ·have:=ZgG (n:=n) (q:=q) (l:=YA l) f a;rw[s]at this;exact⟨by omega,this.2⟩
    ·have:=Zof (n:=n) (q:=q) (l:=YA l) a;rw[s]at this;exact⟨by omega,this.2⟩
   ·simp at a
 ·rw[Zg e]at a;by_cases g:l.1.1=2
  ·rw[Zv g]at a;have:=ZgG f a;have m:hL n q l=20*WA q l+5:=by unfold hL;rw[Zg e,Zv g]
   exact⟨by omega,this.2⟩
  ·rw[Zg g]at a;have m:hL n q l=20*WA q l+19:=by unfold hL;rw[Zg e,Zg g]
   rcases Vk.1 a with a|a
   ·have:=ZgG f a;exact⟨by omega,this.2⟩
   ·have:=Zof a;exact⟨by omega,this.2⟩
end Q
namespace Q
open Tr Go
variable {F:Z4}{hF:FO F}{n:Zc}{q:Zl}
open Classical in
noncomputable def ZK(l:ZA):ZA:=if l.1.1=1 then YA l else l
noncomputable def HJ(n:Zc)(q:Zl)(l:ZA):Int:=if l.1.1=1 then l.2.1+Da n l.1.2.1 else if l.1.1=2 then l.2.1 else l.2.1+(if q.2.2.2.2.2.2.2.2.2.1=Uc then Da n l.1.2.1 else 0)
theorem HO{l x:ZA} :x∈Dw n q l↔(l.1.1=1/\x∈ZdG n l)\/((l.1.1=1->Xp n l=Uc)/\x∈RC n q (ZK l) (HJ n q l))\/((l.1.1=1->Xp n l=Uc)/\l.1.1≠2/\x∈Za5 n q (ZK l)):=by
 unfold Dw ZK HJ
 grind
theorem Db(l:ZA):(ZK l).1=l.1/\(ZK l).2.1=l.2.1/\(ZK l).2.2.1=l.2.2.1/\(ZK l).2.2.2.1=l.2.2.2.1/\(ZK l).2.2.2.2.2.1=l.2.2.2.2.2.1:=by
 unfold ZK
 split<;>exact⟨rfl,rfl,rfl,rfl,rfl⟩
def ZbQ(rode:Bool):List Zw->Bool
 |[]=>rode
 |x::l=>ZbQ x.1 l
theorem ZlC(rode:Bool)(L:List Zw)(x:Zw):ZbQ rode (L++[x])=x.1:=by
 induction L generalizing rode with
 |nil=>rfl
 |cons y L a=>exact a _
theorem Zdy{n:Zc}{x:Zw} :∀{L:List Zw}{rode:Bool}{out o:List ZM},K6 n L rode out=(o,0)->K6 n (L++[x]) rode out=K6 n [x] (ZbQ rode L) o
 |[],rode,out,o,h=>by
  have:out=o:=(Prod.mk.inj h).1
  subst this;rfl
 |y::L,rode,out,o,h=>by
  rw[List.cons_append,Gs];rw[Gs]at h;by_cases a:y.1=Uc/\KF n y=Ud
  ·grind
  rw[Zg a]at h⊢;by_cases b:K0 y=Uc/\(y.1=Ud\/rode=Ud)
  ·grind
  rw[Zg b]at h⊢;by_cases c3:y.1=Uc
  ·rw[Zv c3]at h⊢;rw[Zdy h];show _=K6 n [x] (ZbQ y.1 L) o
   grind
  ·rw[Zg c3]at h⊢;rw[Zdy h];show _=K6 n [x] (ZbQ y.1 L) o
   grind
theorem ZsS(s t a b:Int)(rode:Bool)(out:List ZM):K6 n [KG s t a b] rode out=(out,0):=by rfl
theorem ZhZ{i b c:Nat}(st:Bool)(f:i<n.2.2.1.length)(d:b<c)(e:c<(Zt n i).length):KF n (ZR n i b c st)=true:=by
 unfold KF;have a:Ke (ZR n i b c st).2.1 n.2.2.1.length=true:=by show Ke (i:Int) _=Uc;unfold Ke;grind
 rw[a];show (Uc&& (Ue (0<=(b:Int)) && (Ue ((b:Int)<(c:Int)) &&Ue ((c:Int)<((Zt n i).length:Int)))))=Uc
 grind
theorem ZsQ(a:WJ n){i b c:Nat}(j:i<n.2.2.1.length)(g:b<c)(h:c<(Zt n i).length)(rode:Bool)(out:List ZM):K6 n [ZR n i b c Ud] rode out=(out++[JR n (J7 (Zi n i b).2.2.1) (ZR n i b c Ud)],0):=by
 have d:=ZhZ (n:=n) Ud j g h;rw[Gs,Zg (by grind),Zg (by simp [ZR,K0]),Zv (by rfl),Zg (by simp [ZR,K0])];show (out++[Xv n (ZR n i b c Ud)],(0:Int))=_
 have e:Xv n (ZR n i b c Ud)=JR n (J7 (Zi n i b).2.2.1) (ZR n i b c Ud):=by obtain⟨_,_,k,f⟩:=ZaW a d;unfold Xv JR J7;have z:(0:Int)=((0:Nat):Int):=rfl;simp only;rw[z,Gn (by omega) (ZdN a d),Gn (by omega) (Ho f),Nat.zero_or,Nat.zero_or];rfl
 rw[e]
theorem ZsR{i b c:Nat}(g:i<n.2.2.1.length)(d:b<c)(f:c<(Zt n i).length)(out:List ZM)(v:ZM):K6 n [ZR n i b c Uc] Uc (out++[v])=(out++[JR n v (ZR n i b c Uc)],0):=by
 have k:=ZhZ (n:=n) Uc g d f;rw[Gs,Zg (by grind),Zg (by simp [ZR]),Zv (by rfl),Zv (by rfl)];show (X5 n _ _,(0:Int))=_
 have e:X5 n (ZR n i b c Uc) (out++[v])=out++[JR n v (ZR n i b c Uc)]:=by
  have j:(out++[v])[(out++[v]).length - 1]? =Ua v:=by simp
  have a:X5 n (ZR n i b c Uc) (out++[v])=Yo n (ZR n i b c Uc) (out++[v]) v:=by unfold X5;simp
  rw[a];unfold Yo;have h:(out++[v]).length - 1=out.length:=by simp
  rw[h,Vna _ _ (Vt _),Nat.sub_self];rfl
 rw[e]
theorem Zdx(a:WC n){i b c:Nat}(st:Bool)(e:i<n.2.2.1.length)(j:b<c)(d:c<(Zt n i).length){v:ZM}(f:Small v)(k:Xl v.1):X1 (JR n v (ZR n i b c st)):=by have g:=ZhZ (n:=n) st e j d;obtain⟨_,_,l,h⟩:=ZaW a.sound g;have p:=ZdN a.sound g;have m:=Ho h;have o:=a.time e d;exact⟨⟨Zfp f.1 (by omega),Zfp f.2 (by grind)⟩,k,by show 0<=(Zi n i c).2.1;omega,by show (Zi n i c).2.1<=_;omega⟩
structure LI (F:Z4) (hF:FO F) (n:Zc) (q:Zl) (l:ZA):Prop where
 val:LV F hF n q l
 cnt:((KY l.2.2.2.2.1).length:Int)+(if l.1.1=1 then 1 else 0)=l.2.2.1
 ht:l.2.2.2.2.2.1.length+hL n q l<=79
 zero:l.1.1=0->l.2.2.2.2.2.1=[]/\l.2.2.1=0/\l.2.2.2.1=0/\l.2.1=q.2.2.1
 kinds:l.1.1=0\/l.1.1=1\/l.1.1=2
 rgo:K6 n l.2.2.2.2.2.1 Ud []=(KY l.2.2.2.2.1++(if l.1.1=1 then [l.1.2.2.2.2.1] else []),0)
 rode:ZbQ Ud l.2.2.2.2.2.1=Ue (l.1.1=1)
 wlk:Jr l.2.2.2.2.2.1=l.2.2.2.1
 lok:∀x∈l.2.2.2.2.2.1,R7 x
 last:∀L x,l.2.2.2.2.2.1=L++[x]->x.2.2.2.2.2.2.2.1=l.2.1
 some:l.1.1≠0->l.2.2.2.2.2.1≠ []
 adj:∀x,l.2.2.2.2.2.1=[x]->x.1=Ud->x.2.2.2.2.2.2.1<=x.2.2.2.2.2.2.2.1/\x.2.2.2.2.2.2.2.1<=x.2.2.2.2.2.2.1+14400/\K0 x=Ud
theorem ZgN(h:QI q){l:ZA}(a:LI F hF n q l):LV F hF n q (ZK l)/\K6 n l.2.2.2.2.2.1 Ud []=(KY (ZK l).2.2.2.2.1,0)/\((KY (ZK l).2.2.2.2.1).length:Int)=l.2.2.1:=by
 have m:=a.val.rides;have k:=h.rides;have f:=a.cnt;have b:=a.rgo;unfold ZK;by_cases c:l.1.1=1
 ·rw[Zv c]at f b⊢;have d:(KY l.2.2.2.2.1).length+1<=8:=by omega
  have j:=a.val.next c d
  obtain⟨_,g,_⟩:=ZmZ a.val c d;have e:KY (YA l).2.2.2.2.1=KY l.2.2.2.2.1++[l.1.2.2.2.2.1]:=D4 g
  grind
 ·rw[Zg c]at f b⊢;rw[Vsa]at b;exact⟨a.val,b,by omega⟩
theorem ZsP(L:List Zw)(d:Int)(rode:Bool)(out:List ZM)(h:∀x,L=[x]->x.1=Ud->K0 x=Ud):K6 n (W5 L d) rode out=K6 n L rode out:=by
 match L with
 |[]=>rfl
 |[x]=>
  cases a:x.1 with
  |true=>rw[Zbg a]
  |false=>
   have b:=h x rfl a;rw[Zae a,Gs,Gs]
   grind
 |x::y::L=>rfl
theorem ZlJ(r:Whole n)(w:WR n){l x:ZA}(m:LI F hF n q l)(G:x∈Dw n q l){p:ZA}{i b c:Nat}{st:Bool}{v:ZM}(g:i<n.2.2.1.length)(z:b<c)(f:c<(Zt n i).length)
 (ex:x=Z2 n p i b c st v) (C:Zgb F hF p) (D:0<=p.2.2.1/\p.2.2.1<=q.2.2.2.2.1) (e:((KY p.2.2.2.2.1).length:Int)+1=p.2.2.1) (u:p.2.2.2.1=l.2.2.2.1) (o:Jr p.2.2.2.2.2.1=l.2.2.2.1)
 (k:K6 n (p.2.2.2.2.2.1++[ZR n i b c st]) Ud []=(KY p.2.2.2.2.1++[JR n v (ZR n i b c st)],0)) (t:∀y∈p.2.2.2.2.2.1,R7 y) (E:Small v) (A:Xl v.1):LI F hF n q x:=by
 have j:=r.ok;obtain⟨H,I⟩:=Zod r w m.val G;have B:=m.ht;have J:=j.time g f;subst ex;have s:(Z2 n p i b c st v).2.2.2.2.2.1.length<=79:=by omega
 refine⟨⟨C,by omega,D,by show 0<=p.2.2.2.1/\p.2.2.2.1<=_;rw[u];exact m.val.walk,⟨by show 0<=(Zi n i c).2.1;omega,by show (Zi n i c).2.1<=_;omega⟩,j.stop g f,fun _=>⟨i,c,rfl,rfl,g,f,rfl,rfl,Zdx j st g z f E A⟩,?_⟩,e,by omega,fun h=>absurd h (by show¬(1:Int)=0;decide),.inr (.inl rfl),k,?_,?_,?_,?_,by grind,?_⟩
 ·intro y a d;have:=Vca.1 (by assumption);rcases this with ⟨_,h⟩|⟨_,h⟩
  ·have:y=ZR n i b c st:=(Vua.1 h).symm;subst this;cases d
  grind
 ·exact ZlC _ _ _
 ·show Jr (p.2.2.2.2.2.1++[ZR n i b c st])=p.2.2.2.1;rw[ZiO,o,u]
  have:Jr [ZR n i b c st]=0:=by rfl
  omega
 ·intro y a;rcases Vk.1 (by assumption) with a|a
  ·grind
  ·rw[Vn]at a;subst a;show (Zi n i c).2.1<=_;omega
 ·intro L y a;have:=Vhb (show p.2.2.2.2.2.1++[ZR n i b c st]=L++[y] from a) rfl;have:y=ZR n i b c st:=by grind
  subst this;rfl
 ·intro y a d;rcases Vca.1 (by assumption) with ⟨_,h⟩|⟨_,h⟩
  ·have:y=ZR n i b c st:=(Vua.1 h).symm;subst this;cases d
  grind
theorem ZsI(b:WC n){l:ZA}(a:LV F hF n q l):l.2.1<=HJ n q l:=by have:=b.change _ a.stop.1 a.stop.2;unfold HJ Da;omega
theorem Zqr(b:WC n){l:ZA}(d:LV F hF n q l){i c:Nat}(h:Zaj n (ZK l) (HJ n q l) i c):l.2.1<=(Zi n i c).2.2.1:=by
 have e:=ZsI b d;have f:=(Db l).2.1;rcases h.2.2.2.2 with a|a
 all_goals omega
theorem ZtB(D:Whole n)(H:WR n)(Z:QI q){l x:ZA}(b:LI F hF n q l)(G:x∈Dw n q l):LI F hF n q x:=by
 have s:=D.ok;obtain⟨P,W,c3⟩:=ZgN Z b;obtain⟨s1,s2,V,O,s5⟩:=Db l;rcases HO.1 G with ⟨N,hs⟩|⟨_,hb⟩|⟨_,k2,hw⟩
 ·obtain⟨k,hk,⟨_,_,_,a0,C⟩,d,Q,A,_,ex⟩:=D0.1 hs;obtain⟨r,d0,j,d',sy,he,hr,T,_⟩:=s.link _ hk;subst he;simp only[Vj]at*;obtain⟨_,_,_,_,_,_,_,_,o⟩:=b.val.kind N;have E:=b.rgo;have B:=b.rode;have v:=b.cnt;rw[Zv N]at E v;rw[Zj N]at B;refine ZlJ D H b G T Q A ex b.val.fare b.val.rides v rfl b.wlk ?_ b.lok o.1 o.2.1;rw[Zdy E,B];exact ZsR T Q A _ _
 ·obtain⟨i,c,d,I,u,A,t,J,_,ex⟩:=GO.1 hb;have C:=Zqr s b.val t;have hc:c<(Zt n i).length:=by omega
  have ht:=s.time I hc;rw[V]at J;have a5:=b.val.rides
  have f:(HH n (ZK l) i c).2.2.2.2.2.1=W5 l.2.2.2.2.2.1 (Zi n i c).2.2.1:=by
   show W5 (ZK l).2.2.2.2.2.1 _=_
   grind
  have M:∀y,l.2.2.2.2.2.1=[y]->y.1=Ud->K0 y=false:=fun y R S=>(b.adj y R S).2.2;refine ZlJ (p:=HH n (ZK l) i c) D H b G I u A ex P.fare ⟨?_,?_⟩ ?_ O ?_ ?_ ?_ (Zdi _) ⟨by show 0<=(Zi n i c).2.2.1;omega,by show (Zi n i c).2.2.1<=_;omega⟩
  ·show 0<=(ZK l).2.2.1+1;omega
  ·show (ZK l).2.2.1+1<=_;omega
  ·show ((KY (ZK l).2.2.2.2.1).length:Int)+1=(ZK l).2.2.1+1;omega
  ·rw[f, <-b.wlk]
   match hL:l.2.2.2.2.2.1 with
   |[]=>rfl
   |[y]=>
    cases a:y.1 with
    |true=>rw[Zbg a]
    |false=>
     obtain⟨a1,a2,a3⟩:=b.adj y hL a
     obtain⟨X,f2⟩:=b.val.first y hL a
     rw[Zae a];unfold Jr R4;simp only[Vkc,List.map_nil,Vlc,List.sum_nil,a];have Y:0<=y.2.2.2.2.2.2.1:=X.1
     grind
   |y::z::L=>rfl
  ·rw[f];have E:K6 n (W5 l.2.2.2.2.2.1 (Zi n i c).2.2.1) Ud []=(KY (ZK l).2.2.2.2.1,0):=by rw[ZsP _ _ _ _ M];omega
   rw[Zdy E];exact ZsQ s.sound I u A _ _
  ·rw[f];intro y a
   match hL:l.2.2.2.2.2.1 with
   |[]=>rw[hL]at a;cases a
   |[z]=>
    rw[hL]at a
    cases U:z.1 with
    |true=>
     rw[Zbg U,Vn]at a;subst a
     exact b.lok _ (by grind)
    |false=>
     rw[Zae U,Vn]at a;subst a;show (Zi n i c).2.2.1<=_
     omega
   |z::w::L=>
    rw[hL]at a;exact b.lok _ (by rw[hL];assumption)
 ·obtain⟨p,hp,⟨w1,w2,w3⟩,ex⟩:=Dj.1 hw;rw[O]at w2;rw[s2]at w3;rw[s1]at w1;obtain⟨R,S⟩:=Zod D H b.val G;have a4:=b.ht;have K:=s.path p hp;have C:=b.val.time;have a6:=b.val.walk;subst ex
  have e:(JD (ZK l) p).2.2.2.2.2.1=l.2.2.2.2.2.1++[KG l.1.2.1 p.2.1 l.2.1 (l.2.1+p.2.2.1)]:=by
   show (ZK l).2.2.2.2.2.1++[KG (ZK l).1.2.1 p.2.1 (ZK l).2.1 ((ZK l).2.1+p.2.2.1)]=_
   grind
  have m:(JD (ZK l) p).2.1=l.2.1+p.2.2.1:=by show (ZK l).2.1+_=_;omega
  have g:∀y,(JD (ZK l) p).2.2.2.2.2.1=[y]->y=KG l.1.2.1 p.2.1 l.2.1 (l.2.1+p.2.2.1):=by grind
  refine⟨⟨P.fare,by omega,?_,?_,?_,K.2.1,fun h=>absurd h (by show¬(2:Int)=1;decide),?_⟩,?_,by omega,fun h=>absurd h (by show¬(2:Int)=0;decide),.inr (.inr rfl),?_,?_,?_,?_,?_,by grind,?_⟩
  ·show 0<=(ZK l).2.2.1/\(ZK l).2.2.1<=_;rw[V];exact b.val.rides
  ·show 0<=(ZK l).2.2.2.1+p.2.2.1/\(ZK l).2.2.2.1+p.2.2.1<=_;omega
  ·omega
  ·intro y a _;rw[g y a,m];exact⟨⟨by show 0<=l.2.1;omega,by show l.2.1<=_;omega⟩,rfl⟩
  ·show ((KY (ZK l).2.2.2.2.1).length:Int)+(if (2:Int)=1 then 1 else 0)=(ZK l).2.2.1
   omega
  ·rw[e,Zdy W,ZsS]
   show _=(KY (ZK l).2.2.2.2.1++(if (2:Int)=1 then _ else []),(0:Int))
   simp
  ·rw[e,ZlC];rfl
  ·rw[e,ZiO,b.wlk];show _=(ZK l).2.2.2.1+p.2.2.1;rw[O]
   have:Jr [KG l.1.2.1 p.2.1 l.2.1 (l.2.1+p.2.2.1)]=p.2.2.1:=by
    unfold Jr R4 KG
    grind
   omega
  ·rw[e];intro y a;rcases Vk.1 a with a|a
   ·exact b.lok y a
   ·rw[Vn]at a;subst a;show l.2.1+p.2.2.1<=_;omega
  ·intro L y a;rw[e]at a;have:=Vhb a rfl;have:y=KG l.1.2.1 p.2.1 l.2.1 (l.2.1+p.2.2.1):=by grind
   subst this;rw[m];rfl
  ·intro y a _;rw[g y a];exact⟨by show l.2.1<=l.2.1+p.2.2.1;omega,by show l.2.1+p.2.2.1<=l.2.1+14400;omega,rfl⟩
end Q
namespace Q
open Tr Go
variable {F:Z4}{hF:FO F}{n:Zc}{q:Zl}
end Q
namespace Q
open Tr Go
variable {F:Z4}{hF:FO F}{n:Zc}{q:Zl}
inductive Rc (n:Zc) (q:Zl) (s0:ZA):ZA->Prop
 |start:Rc n q s0 s0
 |step {l x:ZA} (h:Rc n q s0 l) (hx:x∈Dw n q l):Rc n q s0 x
theorem Rc.li(d:Whole n)(c:WR n)(b:QI q){s0 l:ZA}(a:LI F hF n q s0)(h:Rc n q s0 l):LI F hF n q l:=by
 induction h with
 |start=>exact a
 |step _ e f=>exact ZtB d c b f e
end Q
namespace Q
open Tr Go
def le4(a b:List Int):Prop:= ∀i,i<4->(a[i]?).getD 0<=(b[i]?).getD 0
instance (a b:List Int):Decidable (le4 a b):=by unfold le4;infer_instance
end Q
namespace Q
open Tr Go
variable {n:Zc}{q:Zl}
theorem Zvb{i:Nat}(a:i<n.2.2.1.length):rn (Kv n q) (i:Int)=X6 n q (rn n (i:Int)):=by unfold rn;show ((n.2.2.1.map (X6 n q))[(i:Int).toNat]?).getD u0=_;rw[Vj,Vga,Vh a];rfl
theorem Zqp{i:Nat}(a:i<n.2.2.1.length):Zt (Kv n q) i=(Zt n i).map (Jb n q):=by unfold Zt;rw[Zvb a];rfl
theorem Zwl(h:WR n):WR (Kv n q):=by
 have b:(Kv n q).2.2.1.length=n.2.2.1.length:=Vr ..;refine⟨h.stops,by rw[b];exact h.runs,?_,fun i a=>?_⟩
 ·show (HP n q).length<=60;unfold HP;split
  ·exact Vka (Vfa _ _) h.paths
  ·exact h.paths
 ·rw[b]at a;rw[Zqp a,Vr];exact h.calls i a
def st0(F:Z4):WM:=[(Ua F,(0,0,0,0,()),0,[0,0,0,0,0,0,0,0,0],())]
def Wa(n:Zc)(q:Zl):ZA:=((0,q.1,0,0,(0,0,0,0,()),()),q.2.2.1,0,0,st0 n.2.2.2.2.2.1,[],())
theorem ZnE{F:Z4}(hF:FO F):XG F hF [] (st0 F):=by
 refine .start ⟨rfl,fun i a=>?_⟩;have:i=0:=by simpa using a
 subst this;exact⟨0,rfl,by omega,by omega⟩
theorem Zte(c:qB n.1.length q=Uc)(j:q.2.2.2.2.1<=3){hF:FO n.2.2.2.2.2.1} :LI n.2.2.2.2.2.1 hF n q (Wa n q):=by unfold qB at c;simp only[Ve,KD]at c;obtain⟨b,_,d,e,f,_⟩:=c;unfold Ke at b;rw[Ve,KD,KD]at b;refine⟨⟨⟨ZnE hF,fun v g=>absurd g (by show¬v∈([]:List ZM);simp)⟩,by show ([]:List Zw).length<=80;simp,⟨Vzb 0,e.1⟩,⟨Vzb 0,f.1⟩,d,b,fun h=>absurd h (by show¬(0:Int)=1;decide),fun x a=>absurd a (by show¬ []=[x];simp)⟩,rfl,?_,fun _=>⟨rfl,rfl,rfl,rfl⟩,.inl rfl,rfl,rfl,rfl,fun x a=>absurd a (by show¬x∈([]:List Zw);simp),fun L x a=>absurd a (by show¬ []=L++[x];simp),fun h=>absurd rfl h,fun x a=>absurd a (by show¬ []=[x];simp)⟩;show 0+hL n q (Wa n q)<=79;have:hL n q (Wa n q)=20* (q.2.2.2.2.1 - 0).toNat+19:=rfl;omega
open Classical in
theorem ZtA(e:Yh n)(b:Whole n)(d:QI q){l:ZA}(a:LI n.2.2.2.2.2.1 (RQ b.sound.fare) n q l):
 (∃s z t,F52 n q (l.2.2.2.2.2.1,())=Ua ((((l.2.2.2.2.2.1[0]?).map fun x=>x.2.2.2.2.2.2.1).getD q.2.2.1,z,l.2.2.1,s,Jr l.2.2.2.2.2.1,()),t,0))\/ ∃c,F52 n q (l.2.2.2.2.2.1,())=Ua (c,[],34):=by
 obtain⟨h,f,c3⟩:=ZgN d a;have k:=a.val.rides;have j:=d.rides;have g:F124 n=Ua true:=by rw[Za4 e,Zj b]
 have:=Zs5 e b.sound g q (L:=l.2.2.2.2.2.1) (by have:=a.val.len;omega) a.lok f (by omega);rw[c3]at this;exact this
end Q
namespace Q
open Tr Go
variable {n:Zc}{q:Zl}
theorem Zim(a b:List Zw):JF (a++b)=JF a+JF b:=by simp [JF]
theorem Zu8(s t a b:Int):JF [KG s t a b]=0:=rfl
theorem Zm3(n:Zc)(i b c:Nat)(st:Bool):JF [ZR n i b c st]=if st then 0 else 1:=by cases st<;>rfl
theorem Zo2{L:List Zw}(h:∀x,L=[x]->x.1=Uc)(d:Int):W5 L d=L:=by
 by_cases a:L.length=1
 ·obtain⟨x,rfl⟩:=List.length_eq_one_iff.1 a;exact Zbg (h x rfl) d
 ·exact Zjr a d
end Q
namespace Q
open Tr Go
variable {n:Zc}{q:Zl}{L:List Zw}{i:Nat}
end Q
namespace Q
open Tr Go
variable {n:Zc}{q:Zl}{L:List Zw}
end Q
namespace Q
open Tr Go
variable {n:Zc}{q:Zl}{L:List Zw}
structure Jy (n:Zc) (q:Zl):Prop where
 fit:Yh n
 few:Few n
 chk:H8 n q=0
 tin:WR n
 max:q.2.2.2.2.1<=3
theorem Jy.whole(h:Jy n q):Whole n:=(ZcQ.1 h.chk).1
theorem Jy.qb(h:Jy n q):qB n.1.length q=true:=(ZcQ.1 h.chk).2
theorem Jy.qnum(h:Jy n q):(0<=q.1/\q.1<(n.1.length:Int))/\(0<=q.2.1/\q.2.1<(n.1.length:Int))/\(0<=q.2.2.1/\q.2.2.1<=3155932800)/\0<=q.2.2.2.2.1/\(0<=q.2.2.2.2.2.1/\q.2.2.2.2.2.1<=86400)/\(q.2.2.2.1=Uc->q.2.2.2.2.2.2.2.2.2.1=Ud):=by
 have a:=h.qb;unfold qB at a;simp only[Ve,KD]at a;obtain⟨b,c,f,g,j,_,k⟩:=a;have d:=ZaC.1 b;have e:=ZaC.1 c
 grind
theorem Jy.qi(h:Jy n q):QI (ZU q):=⟨by show q.2.2.2.2.1<=7;have:=h.max;omega,h.qnum.2.2.2.2.1.2⟩
theorem Jy.wholeM(h:Jy n q):Whole (Kv n q):=Zjv q h.fit.paths h.whole
theorem Jy.tinM(h:Jy n q):WR (Kv n q):=Zwl h.tin
theorem Jy.li0(h:Jy n q):LI (Kv n q).2.2.2.2.2.1 (RQ h.wholeM.sound.fare) (Kv n q) (ZU q) (Wa (Kv n q) (ZU q)):=Zte (n:=Kv n q) (q:=ZU q) (ZuJ h.qb) h.max
theorem Jy.li(h:Jy n q){l:ZA}(a:Rc (Kv n q) (ZU q) (Wa (Kv n q) (ZU q)) l):LI (Kv n q).2.2.2.2.2.1 (RQ h.wholeM.sound.fare) (Kv n q) (ZU q) l:=a.li h.wholeM h.tinM h.qi h.li0
end Q
namespace Q
open Tr Go
variable {n:Zc}{q:Zl}
def R8(n:Zc)(q:Zl)(L:List Zw):Prop:= ∀i,i<L.length->Jv n q (lg L i)=0/\Di n q L i=0/\(i+1<L.length->HU L i=Uc->G6 n q (lg L i)=0)
theorem Zde{L K:List Zw}{i:Nat}(h:i<L.length):lg (L++K) i=lg L i:=by unfold lg;grind
theorem ZaJ(L:List Zw)(x:Zw):lg (L++[x]) L.length=x:=by unfold lg;simp
theorem ZlG{x:Zw}(h:Jv n q x=0)(a:Gb n q [x]=0):R8 n q [x]:=by
 intro i b;have:i=0:=by grind
 subst this;exact⟨h,a,by simp⟩
theorem Ze5{L:List Zw}{y x:Zw}(hL:R8 n q (L++[y]))(u:Jv n q x=0)(E:Yt n y x=0)(D:L=[]->y.1=Ud->x.1=Uc->x.2.2.2.2.2.2.1=y.2.2.2.2.2.2.2.1)(I:y.1=Uc->K0 x=Ud->G6 n q y=0):R8 n q (L++[y]++[x]):=by
 intro i G;have h:(L++[y]++[x]).length=L.length+2:=by simp
 have b:(L++[y]).length=L.length+1:=by simp
 have t:lg (L++[y]++[x]) L.length=y:=by rw[Zde (by omega),ZaJ]
 have f:lg (L++[y]++[x]) (L.length+1)=x:=by rw[<-b,ZaJ]
 by_cases r:i<L.length+1
 ·obtain⟨w,g,k⟩:=hL i (by omega);have c:lg (L++[y]++[x]) i=lg (L++[y]) i:=Zde (by omega);refine⟨by grind,?_,fun _ d=>?_⟩
  ·cases i with
   |zero=>
    have a:Gb n q (L++[y])=0:=g;show Gb n q (L++[y]++[x])=0;rw[Zau]at a⊢;obtain⟨l,m,B,C,o,p⟩:=a;rw[c];refine⟨l,m,?_,?_,o,p⟩
    ·cases e:L with
     |nil=>
      grind
     |cons z v=>
      rw[<-e];have H:0<L.length:=by grind
      have A:lg (L++[y]++[x]) 1=lg (L++[y]) 1:=Zde (by omega)
      grind
    simp
   |succ i=>
    have a:Yt n (lg (L++[y]) i) (lg (L++[y]) (i+1))=0:=g;show Yt n (lg (L++[y]++[x]) i) (lg (L++[y]++[x]) (i+1))=0;rw[Zde (by omega),c];omega
  ·rw[c];by_cases s:i+1<L.length+1
   ·refine k (by omega) ?_;have j:lg (L++[y]++[x]) (i+1)=lg (L++[y]) (i+1):=Zde (by omega);unfold HU at d⊢
    grind
   ·have:i=L.length:=by omega
    subst this;rw[ZaJ];unfold HU at d
    grind
 ·have:i=L.length+1:=by omega
  subst this;rw[f];refine⟨u,?_,by omega⟩;show Yt n (lg (L++[y]++[x]) L.length) (lg (L++[y]++[x]) (L.length+1))=0
  grind
structure Rr (n:Zc) (q:Zl) (l:ZA):Prop where
 legs:R8 n (ZU q) l.2.2.2.2.2.1
 ride:l.1.1=1->∃L r b c st,l.2.2.2.2.2.1=L++[ZR n r b c st]/\Zcu n r b c st/\l.1.2.2.1=(r:Int)/\l.1.2.2.2.1=(c:Int)
 walk:l.1.1=2->∃L,∃p∈n.2.2.2.2.1,∃a,l.2.2.2.2.2.1=L++[KG p.1 p.2.1 a (a+p.2.2.1)]/\l.1.2.1=p.2.1/\l.2.1=a+p.2.2.1/\0<=a
 zero:l.1.1=0->l=Wa n (ZU q)
theorem Zm0(h:WC n){i b c:Nat}{st:Bool}(a:Zcu n i b c st):Jv n (ZU q) (ZR n i b c st)=0:=((Ztt h).2 ⟨i,b,c,st,rfl,a⟩).1
theorem Zjs(s t a b e d:Int):W5 [KG s t a (a+e)] d=[KG s t (d - e) d]/\W5 [KG s t b (b+e)] d=[KG s t (d - e) d]:=by
 rw[Zae rfl,Zae rfl];unfold KG
 grind
theorem Zog(h:WC n){p:Kh}(d:p∈n.2.2.2.2.1){a:Int}(b:0<=a)(c:a+p.2.2.1<=3155932800):Jv n (ZU q) (KG p.1 p.2.1 a (a+p.2.2.1))=0:=((Ztv h).2 ⟨p,d,a,rfl,b,c⟩).1
theorem ZvT(h:WC n){F:Z4}{hF:FO F}{l x:ZA}(H:LV F hF n (ZU q) l)(u:Rr n q l)(k1:l.1.1=1)(I:x∈ZdG n l):Rr n q x:=by
 obtain⟨k,t,⟨p,w,c3,e,s⟩,d,z,f,_,rfl⟩:=D0.1 I;obtain⟨i,c,j,N,M,rfl,_,D,_,_,_,o,B⟩:=h.link _ t;simp only at p w c3 e s f;subst p;obtain⟨_,rfl⟩:=B rfl;simp only[Vj]at e s f⊢;obtain⟨L,r,b,y,st,A,O,P,Q⟩:=u.ride k1;obtain⟨K,v,R,S,_,_,T,U,_⟩:=H.kind k1;have E:r=i:=by omega
 have C:y=c:=by omega
 have m:K=i:=by omega
 have g:v=c:=by omega
 subst E C m g;have a:Zcu n j 0 d true:=⟨D,z,f,e,.inl rfl⟩;refine⟨?_,fun _=>⟨_,j,0,d,Uc,rfl,a,rfl,rfl⟩,fun h=>absurd h (by show¬(1:Int)=2;decide),fun h=>absurd h (by show¬(1:Int)=0;decide)⟩;show R8 n (ZU q) (l.2.2.2.2.2.1++[_]);have hL:=u.legs;rw[A]at hL⊢;refine Ze5 hL (Zm0 h a) ((ZsE h).2 ⟨o,t,by omega⟩) (fun _ J=>absurd J (by show¬(Uc=Ud);decide)) (fun _ G=>absurd G (by show¬(Uc=Ud);decide))
theorem ZvU(h:WC n)(O:q.2.2.2.1=Ud){F:Z4}{hF:FO F}{l x:ZA}(m:LV F hF n (ZU q) l)(g:Rr n q l)(f:l.1.1=0\/l.1.1=1\/l.1.1=2)(k1:l.1.1=1->Xp n l=Uc)(k2:l.1.1≠2)(y:x∈Za5 n (ZU q) (ZK l)):Rr n q x:=by
 obtain⟨C,D,P,Q,R⟩:=Db l;obtain⟨p,j,⟨k,E,c3⟩,rfl⟩:=Dj.1 y;rw[C]at k;rw[D]at c3;have d:=m.time;have v:=h.path p j
 have e:JD (ZK l) p=((2,p.2.1,0,0,(0,0,0,0,()),()),l.2.1+p.2.2.1,(ZK l).2.2.1,(ZK l).2.2.2.1+p.2.2.1,(ZK l).2.2.2.2.1,l.2.2.2.2.2.1++[KG p.1 p.2.1 l.2.1 (l.2.1+p.2.2.1)],()):=by
  unfold JD
  grind
 rw[e];refine⟨?_,by simp,fun _=>⟨_,p,j,l.2.1,rfl,rfl,rfl,d.1⟩,by simp⟩;show R8 n (ZU q) (l.2.2.2.2.2.1++[_]);have a:=Zog (q:=q) h j d.1 c3;rcases f with c|c|c
 ·have A:=g.zero c;subst A;refine ZlG a ?_;rw[Zau];refine⟨k,rfl,?_,?_,?_,?_⟩
  ·rfl
  ·show (Uc&& (Uc&& (bif q.2.2.2.1 then _ else !Ue (q.2.2.1=q.2.2.1))))=Ud
   grind
  ·show (!q.2.2.2.1&&Ue (q.2.2.1<q.2.2.1))=Ud;simp
  ·show (_&& (Ud&&_))=Ud;simp
 ·obtain⟨L,r,b,s,st,t,G,H,I⟩:=g.ride c;obtain⟨B,o,J,K,_,_,M,N,_⟩:=m.kind c;have w:B=r:=by omega
  have u:o=s:=by omega
  subst w u;have hL:=g.legs;rw[t]at hL⊢;refine Ze5 hL a (ZsF.2 (by omega)) (fun _ z=>absurd z (by show¬(Uc=Ud);decide)) (fun _ _=>Zgu.2 ?_);have:=k1 c;unfold Xp at this
  grind
 omega
theorem ZvS(h:WC n)(hb:q.2.2.2.1=Ud){F:Z4}{hF:FO F}{l x:ZA}(v:LV F hF n (ZU q) l)(t:Rr n q l)(I:l.1.1=0\/l.1.1=1\/l.1.1=2)(k1:l.1.1=1->Xp n l=Uc)(hx:x∈RC n (ZU q) (ZK l) (HJ n (ZU q) l)):Rr n q x:=by
 obtain⟨S,s2,s3,s4,s5⟩:=Db l;obtain⟨i,c,d,O,C,hd,⟨U,V,c3,c4,e⟩,_,_,rfl⟩:=GO.1 hx;rw[S]at c3;rw[s2]at e;have j:Zcu n i c d false:=⟨O,C,hd,U,.inr V⟩;have g:=Zm0 (q:=q) h j;have K:=v.time;refine⟨?_,fun _=>⟨_,i,c,d,Ud,rfl,j,rfl,rfl⟩,fun h=>absurd h (by show¬(1:Int)=2;decide),fun h=>absurd h (by show¬(1:Int)=0;decide)⟩;show R8 n (ZU q) (W5 (ZK l).2.2.2.2.2.1 (Zi n i c).2.2.1++[ZR n i c d Ud]);rw[s5];rcases I with m|m|m
 ·have hz:=t.zero m;subst hz;have a0:=h.change q.1 v.stop.1 v.stop.2;have Q:0<=q.2.2.1/\q.2.2.1<=3155932800:=K;refine ZlG g ?_;have a7:(ZU q).2.2.1=q.2.2.1:=rfl
  have f:q.2.2.1+(if q.2.2.2.2.2.2.2.2.2.1=Uc then Da n q.1 else 0)<=(Zi n i c).2.2.1:=by
   rcases e with e|⟨_,e⟩
   ·assumption
   ·unfold ZbR at e
    grind
  rw[Zau];refine⟨c3,rfl,rfl,rfl,?_,?_⟩
  ·show (!q.2.2.2.1&&Ue ((Zi n i c).2.2.1<q.2.2.1))=Ud;rw[Zr,Vkb];unfold Da at f;omega
  ·show (q.2.2.2.2.2.2.2.2.2.1&& (Uc&&Ue ((Zi n i c).2.2.1<Va .i64 (q.2.2.1+(WO n q.1).2.2.2.1))))=Ud;rw[ZH (by omega) (by omega)]
   cases D:q.2.2.2.2.2.2.2.2.2.1 with
   |false=>rfl
   |true=>
    rw[D,Zv rfl]at f;unfold Da at f
    grind
 ·obtain⟨L,r,b,W,st,w,X,Y,Z⟩:=t.ride m;obtain⟨r',T,g1,g2,E,B,g3,g4,_⟩:=v.kind m;have hr:r' =r:=by omega
  have hc:T=W:=by omega
  subst hr hc;have hL:=t.legs;rw[w]at hL⊢
  rw[Zo2 (fun y u=>by
   rcases Vca.1 u with ⟨_,N⟩|⟨_,N⟩
   ·rw[<-Vua.1 N];rfl
   grind)]
  refine Ze5 hL g ((ZsD h E B).2 ⟨by omega,?_⟩) (fun _ u=>absurd u (by show¬(Uc=Ud);decide)) (fun _ _=>Zgu.2 ?_)
  ·unfold HJ at e;rw[Zv m]at e;unfold Da at e;rw[g3,g4]at e;rcases e with e|⟨e,M⟩
   ·omega
   ·refine .inr ⟨?_,e⟩;unfold ZbR at M;obtain⟨k,H,j⟩:=Vaa.1 M;obtain⟨i0,c0,j0,d0,st0,rfl,_⟩:=h.link _ H;simp only[S,Ve,Vxb,KD]at j;obtain⟨a1,_,a3,a4,a5,a6⟩:=j;unfold isLink
    grind
  ·have:=k1 m;unfold Xp at this
   grind
 ·obtain⟨L,p,P,a,w,X,Y,Z⟩:=t.walk m;have a8:=h.path p P;have hL:=t.legs
  have f:a+p.2.2.1<=(Zi n i c).2.2.1:=by unfold HJ at e;omega
  have a2:=h.time O (show c<(Zt n i).length by omega);rw[w]at hL⊢
  cases L with
  |nil=>
   rw[List.nil_append]at hL⊢;have J:=hL 0 (by simp);have hf:Gb n (ZU q) [KG p.1 p.2.1 a (a+p.2.2.1)]=0:=J.2.1;obtain⟨f1,f2,_,_,f5,f6⟩:=Zau.1 hf;have A:p.1=q.1:=f1;have o:(!q.2.2.2.1&&Ue (a<q.2.2.1))=false:=f5;rw[hb]at o;simp only[Vy,Vza,decide_eq_false_iff_not]at o;rw[(Zjs p.1 p.2.1 a a p.2.2.1 (Zi n i c).2.2.1).1]
   have ew:KG p.1 p.2.1 ((Zi n i c).2.2.1 - p.2.2.1) (Zi n i c).2.2.1=KG p.1 p.2.1 ((Zi n i c).2.2.1 - p.2.2.1) (((Zi n i c).2.2.1 - p.2.2.1)+p.2.2.1):=by simp
   have R:=Zog (q:=q) h P (a:=(Zi n i c).2.2.1 - p.2.2.1) (by omega) (by omega);rw[<-ew]at R;have s:Yt n (KG p.1 p.2.1 ((Zi n i c).2.2.1 - p.2.2.1) (Zi n i c).2.2.1) (ZR n i c d Ud)=0:=Zk9.2 (by omega);intro k m;have G:k=0\/k=1:=by grind
   rcases G with rfl|rfl
   ·refine⟨R,?_,fun _ ht=>absurd ht (by show¬((Ud&&_)=Uc);simp)⟩;show Gb n (ZU q) _=0;rw[Zau];refine⟨A,rfl,?_,?_,?_,?_⟩
    ·show (Uc&& (_&& (Uc&& !Ue ((Zi n i c).2.2.1=(Zi n i c).2.2.1))))=Ud;simp
    ·rfl
    ·show (!q.2.2.2.1&&Ue ((Zi n i c).2.2.1 - p.2.2.1<q.2.2.1))=Ud
     grind
    assumption
   ·exact⟨g,s,by simp⟩
  |cons z L=>
   rw[Zjr (by simp)];refine Ze5 hL g (Zk9.2 (by omega)) (by simp) (fun u=>absurd u (by show¬(Ud=Uc);decide))
theorem ZuU(d:Whole n)(m:WR n)(k:QI (ZU q))(g:q.2.2.2.1=Ud){hF:FO n.2.2.2.2.2.1}(j:LI n.2.2.2.2.2.1 hF n (ZU q) (Wa n (ZU q))){l:ZA}(e:Rc n (ZU q) (Wa n (ZU q)) l):Rr n q l:=by
 induction e with
 |start=>exact⟨fun i o=>absurd o (by show¬i<0;omega),fun h=>absurd h (by show¬(0:Int)=1;decide),fun h=>absurd h (by show¬(0:Int)=2;decide),fun _=>rfl⟩
 |step e p f=>
  have a:=Rc.li d m k j e;rcases HO.1 p with ⟨c,b⟩|⟨c,b⟩|⟨c,r,b⟩
  ·exact ZvT d.ok a.val f c b
  ·exact ZvS d.ok g a.val f a.kinds c b
  ·exact ZvU d.ok g a.val f a.kinds c r b
theorem ZvR{l:ZA}(g:Rr n q l)(d:l.1.1=0\/l.1.1=1\/l.1.1=2)(f:l.1.1=1->Xp n l=Uc):∀i,i<l.2.2.2.2.2.1.length->X8 n (ZU q) l.2.2.2.2.2.1 i=0:=by
 intro i j;obtain⟨m,o,s⟩:=g.legs i j;refine ZgA.2 ⟨m,o,fun k=>?_⟩;by_cases w:i+1<l.2.2.2.2.2.1.length
 ·grind
 rcases d with d|d|d
 ·have:=g.zero d;rw[this]at j;exact absurd j (by show¬i<0;omega)
 ·obtain⟨L,r,b,c,st,h,t,u,v⟩:=g.ride d;have e:i=L.length:=by grind
  rw[h,e,ZaJ];refine Zgu.2 ?_;have:=f d;unfold Xp at this
  grind
 ·obtain⟨L,p,x,a,h,_⟩:=g.walk d;have e:i=L.length:=by grind
  unfold HU at k;rw[h,e,ZaJ]at k;exact absurd k (by show¬((Ud&&_)=Uc);simp)
end Q
namespace Q
open Tr Go
def YD(o x:DF):Bool:=Ue (o.1=x.1) && (Ue (x.2.1<=o.2.1) && (Ue (o.2.2.1<=x.2.2.1) && (Ue (o.2.2.2.1<=x.2.2.2.1) &&Ue (Tr.qandNot .u64 o.2.2.2.2.1 x.2.2.2.2.1=0))))
theorem Zu5(o x:DF):F28 o x=Ua (YD o x):=by
 unfold F28 YD
 grind
theorem ZkA{a b:Int} :Tr.qandNot .u64 a b=0↔∀i,i<64->(Vi 64 a).getLsbD i=Uc->(Vi 64 b).getLsbD i=true:=by
 have e:Tr.qandNot .u64 a b=0↔(Vi 64 a &&& ~~~ Vi 64 b)=0#64:=by
  unfold Tr.qandNot;have c:=(Vi Vs.bits a &&& ~~~ Vi Vs.bits b).isLt;constructor
  ·intro h
   have d:(Vi Vs.bits a &&& ~~~ Vi Vs.bits b).toNat=0:=by generalize (Vi Vs.bits a &&& ~~~ Vi Vs.bits b).toNat=N at*;have c:N<2 ^ 64:=c;simp [Va,Vba,Vv]at h;omega
   apply Vib
   assumption
  ·intro h
   have d:(Vi Vs.bits a &&& ~~~ Vi Vs.bits b).toNat=0:=by
    have:(Vi Vs.bits a &&& ~~~ Vi Vs.bits b)=0#64:=h
    grind
   rw[d];rfl
 rw[e];constructor
 ·intro h i g f;have:=congrArg (fun v=>v.getLsbD i) h
  grind
 grind
theorem Zu3(o:DF):YD o o=true:=by unfold YD;rw[Zj (ZkA.2 (by simp))];simp
theorem Zu4{a b c:DF}(h:YD a b=Uc)(k:YD b c=Uc):YD a c=true:=by
 unfold YD at*;simp only[Ve,KD]at*;obtain⟨d,e,f,g,j⟩:=h;obtain⟨l,m,o,p,r⟩:=k;rw[ZkA]at*
 grind
def H9(D a b c d e f:Int):Prop:=b<0\/(¬a<0/\ ¬b<a/\(D=0\/d=0\/a+D<=b\/(0<c/\f<=e)))
instance (D a b na nb ua ub:Int):Decidable (H9 D a b na nb ua ub):=by unfold H9;infer_instance
theorem ZqF{D a b c d e f g j l:Int}(m:0<=D)(h:H9 D a b d e g j)(k:H9 D b c e f j l):H9 D a c d f g l:=by unfold H9 at*;omega
theorem ZqE{D a b c:Int}(d:0<=b):H9 D a a b b c c:=by unfold H9;omega
def Dt(s:WM):Int:=match s with|x::_=>(x.2.2.2.1[x.2.2.1.toNat]?).getD (-1) |[]=> -1
def Dc(s:WM):Int:=match s with|x::_=>x.2.2.1|[]=>0
def Rz(s:WM):Int:=match s with|x::_=>x.2.1.2.1|[]=>0
noncomputable def tkS(s:WM):List DF:=(F26 s).getD []
noncomputable def DT(F:Z4)(s t:WM):Bool:=Ue (H9 F.2.1 (Dt s) (Dt t) (Dc s) (Dc t) (Rz s) (Rz t)) && (tkS t).all fun x=>(tkS s).any fun o=>YD o x
theorem ZrN{F:Z4}{s:WM}(a:0<=Dc s):DT F s s=true:=by unfold DT;rw[Zj (ZqE a),Vza,Vdb];exact fun x b=>Vaa.2 ⟨x,b,Zu3 x⟩
theorem ZrO{F:Z4}(f:0<=F.2.1){a b c:WM}(h:DT F a b=Uc)(k:DT F b c=Uc):DT F a c=true:=by unfold DT at*;simp only[Ve,KD,Vdb,Vaa]at*;refine⟨ZqF f h.1 k.1,fun x l=>?_⟩;obtain⟨o,g,d⟩:=k.2 x l;obtain⟨p,j,e⟩:=h.2 o g;exact⟨p,j,Zu4 e d⟩
theorem ZrC{F:Z4}(h:FO F){A B:List ZM}{s t:WM}(N:XG F h A s)(Q:XG F h B t):F27 s t=Ua (Ue (H9 F.2.1 (Dt s) (Dt t) (Dc s) (Dc t) (Rz s) (Rz t))):=by
 obtain⟨e,c,r,rfl,⟨O,g⟩,D,K⟩:=N.head;obtain⟨f,d,u,rfl,⟨P,j⟩,E,M⟩:=Q.head;obtain⟨a,G,H⟩:=g A.length (Vt _);obtain⟨b,I,J⟩:=j B.length (Vt _)
 have o:idx c (A.length:Int)=Ua a:=by
  assumption
 have p:idx d (B.length:Int)=Ua b:=by
  assumption
 have T:=h.heads.1;have z:Dt ((Ua F,e,(A.length:Int),c,())::r)=a:=by show (c[((A.length:Int)).toNat]?).getD (-1)=a;grind
 have C:Dt ((Ua F,f,(B.length:Int),d,())::u)=b:=by show (d[((B.length:Int)).toNat]?).getD (-1)=b;grind
 have v:Dc ((Ua F,e,(A.length:Int),c,())::r)=(A.length:Int):=rfl;have w:Dc ((Ua F,f,(B.length:Int),d,())::u)=(B.length:Int):=rfl;have x:Rz ((Ua F,e,(A.length:Int),c,())::r)=e.2.1:=rfl;have y:Rz ((Ua F,f,(B.length:Int),d,())::u)=f.2.1:=rfl;rw[z,C,v,w,x,y];unfold F27 H9;simp only[Tr.unc,Za,o,p];by_cases m:b<0
 ·grind
 rw[Zr m,Zd];by_cases k:a<0
 ·simp_all
 rw[Zr k];simp only[Zd,Za];by_cases l:b<a
 ·simp_all
 rw[Zr l]
 have S:a<=8000000:=by omega
 have R:Va .i64 (a+F.2.1)=a+F.2.1:=ZH (by omega) (by omega)
 grind
theorem ZrP{F:Z4}(h:FO F){A B:List ZM}{s t:WM}(D:XG F h A s)(E:XG F h B t)(H:∀v∈A,X1 v)(I:∀v∈B,X1 v):F20 s t=Ua (DT F s t):=by
 have z:=ZrC h D E;obtain⟨L,w,J⟩:=ZnO h D H;obtain⟨M,y,K⟩:=ZnO h E I;obtain⟨R,T,X,es,_⟩:=D.head;obtain⟨S,U,Y,G,_⟩:=E.head;have c:F.1.length<=4096:=by have:=h.many;omega
 have p:Tr.unc s=Ua (Ua F,X,R,(A.length:Int),T,()):=by rw[es];rfl
 have u:Tr.unc t=Ua (Ua F,Y,S,(B.length:Int),U,()):=by rw[G];rfl
 have Q:Vnc s=false:=by grind
 have nt:Vnc t=false:=by grind
 have V:tkS s=L:=by unfold tkS;grind
 have W:tkS t=M:=by unfold tkS;grind
 unfold F20 DT;rw[V,W];simp only[Q,nt,Zd,p,u,Za,ZvD c,Vc,z]
 cases Ue (H9 F.2.1 (Dt s) (Dt t) (Dc s) (Dc t) (Rz s) (Rz t)) with
 |false=>simp
 |true=>
 simp only[Vc,Zd,w,y,Za,Vza]
 refine K4 (fun r:Unit ⊕ Bool=>r=if (M.all fun x=>L.any fun o=>YD o x)=Uc then .inl () else .inr Ud) ?_ ?_
 ·refine KC M.length _ (fun i (s:Int)=>s=(i:Int)/\(M.take i).all (fun x=>L.any fun o=>YD o x)=Uc) ?_ ?_ _ (by simp)
  ·rintro i _ k ⟨rfl,N⟩;have O:idx M (i:Int)=Ua M[i]:=ZE k;simp only[ZQ k,Ze,O,Za,Kb k (by omega)]
   have C:run (fun a:Bool×Int=>
    bif Ue (a.2<(↑(Vg L):Int)) then
    Vb (idx L a.2) fun d=>
    Vb (bif a.1 then Ua Uc else Vb (F28 d M[i]) fun e=>Ua e) fun f=>
    Ua (.inl (f,Va .i64 (a.2+(1:Int))))
    else Ua (.inr a.1)) (Ud,(0:Int))=Ua (L.any fun o=>YD o M[i]):=by
    obtain⟨r,Z,h2⟩:=KC (step:=fun a:Bool×Int=>
     bif Ue (a.2<(↑(Vg L):Int)) then
     Vb (idx L a.2) fun d=>
     Vb (bif a.1 then Ua Uc else Vb (F28 d M[i]) fun e=>Ua e) fun f=>
     Ua (.inl (f,Va .i64 (a.2+(1:Int))))
     else Ua (.inr a.1)) L.length (fun r:Bool=>r=L.any fun o=>YD o M[i]) (fun j (s:Bool×Int)=>s.2=(j:Int)/\s.1=(L.take j).any fun o=>YD o M[i]) (by
      rintro j ⟨b,_⟩ m ⟨rfl,l⟩;left;have P:idx L (j:Int)=Ua L[j]:=ZE m;simp only at l;simp only[ZQ m,Ze,P,Za,Kb m (by omega),Zu5];rw[Vf m,Vec];subst l
      cases l:(L.take j).any fun o=>YD o M[i] with
      |true=>simp
      |false=>simp) (by
      simp) (Ud,0) (by simp)
    grind
   rw[C];simp only[Za]
   cases l:L.any fun o=>YD o M[i] with
   |false=>
    right;refine⟨_,rfl,?_⟩;rw[Zg];intro g;have:=Vdb.1 g M[i] (Vd k)
    grind
   |true=>
    left;refine⟨_,rfl,rfl,?_⟩;rw[Vf k,List.all_append,N]
    grind
  simp
 grind
end Q
namespace Q
open Tr Go
abbrev Z5:=Int×Int×Int×Int×Int×Bool×WM×List Zw×Unit
abbrev Zi5:=Option Z5×Int×Int×Bool×ZM×List Int×Unit
variable {F:Z4}{hF:FO F}{n:Zc}{q:Zl}
noncomputable def Jc(F:Z4)(m u:Z5):Bool:=Ue (m.2.1<=u.2.1) && (Ue (m.2.2.1<=u.2.2.1) && (Ue (m.2.2.2.1<=u.2.2.2.1) && (Ue (m.2.2.2.2.1<=u.2.2.2.2.1) && ((m.2.2.2.2.2.1|| !u.2.2.2.2.2.1) &&DT F m.2.2.2.2.2.2.1 u.2.2.2.2.2.2.1))))
structure Jt (F:Z4) (hF:FO F) (n:Zc) (u:Z5):Prop where
 fare:XG F hF (KY u.2.2.2.2.2.2.1) u.2.2.2.2.2.2.1
 rok:∀v∈KY u.2.2.2.2.2.2.1,X1 v
 stop:0<=u.1/\u.1<(n.1.length:Int)
theorem Zez{m u:Z5}(a:Jt F hF n m)(b:Jt F hF n u):Qn.cov m u=Ua (Jc F m u):=by
 have c:=ZrP hF a.fare b.fare a.rok b.rok;obtain⟨ms,d,j,f,k,h,e,g,⟨⟩⟩:=m;obtain⟨us,l,s,p,t,r,o,ul,⟨⟩⟩:=u;simp only at c;unfold Qn.cov Qn.F111 Jc;simp only[Za]
 grind
theorem Zro{A:List ZM}{s:WM}(h:XG F hF A s):0<=Dc s:=by obtain⟨r,a,t,rfl,_⟩:=h.head;show (0:Int)<=(A.length:Int);omega
theorem Zkz{u:Z5}(a:Jt F hF n u):Jc F u u=true:=by unfold Jc;rw[ZrN (Zro a.fare)];simp
theorem ZrB(hF:FO F){a b c:Z5}(h:Jc F a b=Uc)(k:Jc F b c=Uc):Jc F a c=true:=by
 have e:0<=F.2.1:=hF.heads.1.1;unfold Jc at*;simp only[Ve,KD,Bool.or_eq_true,Vxb]at*;obtain⟨g,j,l,m,o,d⟩:=h;obtain⟨p,r,s,t,u,f⟩:=k;refine⟨by omega,by omega,by omega,by omega,?_,ZrO e d f⟩
 grind
def RS(n:Zc):List (List Int):=(Vl n.2.2.1.length).map fun i:Nat=>((Vl n.2.2.2.1.length).filter fun k=>Ue ((lk n k).1=(i:Int))).map fun k:Nat=>(k:Int)
def JE(x:FX):List Z5:=x.2.2.2.2.1
def Xt(x:FX):List Z5:=x.2.2.2.2.2
def KN(x:FX):List (List Z5):=x.2.2.2.1
def XU(x:FX)(s:Int):List Z5:=((KN x)[s.toNat]?).getD []
structure XX (F:Z4) (hF:FO F) (n:Zc) (q:Zl) (x:FX) (N:Nat):Prop where
 net:x.1=n
 que:x.2.1=q
 lnk:x.2.2.1=RS n
 rows:(KN x).length=n.1.length
 lab:(∀r∈KN x,∀y∈r,Jt F hF n y)/\(∀y∈JE x,Jt F hF n y)/\ ∀y∈Xt x,Jt F hF n y
 bag:∀(i:Nat) (r:List Z5),(KN x)[i]? =Ua r->(∀y∈r,y.1=(i:Int))/\r.length<=N
 cvd:(∀y∈JE x,∃m∈XU x y.1,Jc F m y=Uc)/\ ∀y∈Xt x,∃m∈XU x y.1,Jc F m y=Uc
 few:(JE x).length<=N/\(Xt x).length<=N
 fd:∀r∈KN x,∀y∈r,y.1=q.2.1->y∈Xt x
 to:∀y∈Xt x,y.1=q.2.1
def K7(F:Z4)(x:FX)(ls:List Z5)(a:FX):Prop:= ∃sub:List Z5,sub.length<=ls.length/\(∀o∈sub,o∈ls)/\JE a=JE x++sub/\Xt a=Xt x++sub.filter (fun y=>Ue (y.1=x.2.1.2.1))/\(a.1=x.1/\a.2.1=x.2.1/\a.2.2.1=x.2.2.1/\(KN a).length=(KN x).length)/\
 (∀(i:Nat) (r:List Z5),(KN a)[i]? =Ua r->∃r0,(KN x)[i]? =Ua r0/\(∀y∈r,y∈r0\/(y∈sub/\y.1=(i:Int)))/\r.length<=r0.length+sub.length)/\(∀w:Z5->Nat,(sub.map w).sum<=(ls.map w).sum)/\
 (∀y:Z5,(∃m∈XU x y.1,Jc F m y=Uc)->∃m∈XU a y.1,Jc F m y=Uc)/\ ∀l∈ls,∃m∈XU a l.1,Jc F m l=Uc
theorem K7.nil(x:FX):K7 F x [] x:=⟨[],by simp,by simp,by simp,by simp,⟨rfl,rfl,rfl,rfl⟩,by grind,by simp,fun _ h=>h,by simp⟩
theorem K7.trans{x c a:FX}{ls ms:List Z5}(h:K7 F x ls c)(k:K7 F c ms a):K7 F x (ls++ms) a:=by
 obtain⟨J,M,N,O,P,⟨f,g,j,m⟩,p,d,e,a12⟩:=h;obtain⟨K,Q,R,S,T,⟨v,z,A,B⟩,C,s,t,u⟩:=k;refine⟨J++K,by grind,fun o X=>?_,by grind,by grind,⟨v.trans f,z.trans g,A.trans j,B.trans m⟩,fun i r G=>?_,fun w=>?_,fun y H=>by simp [*],fun l b=>?_⟩
 ·grind
 ·obtain⟨I,D,U,c3⟩:=C i r G;obtain⟨r0,E,V,W⟩:=p i I D;refine⟨r0,E,fun y H=>?_,by grind⟩
  grind
 ·grind
 ·rw[Vk]at b;rcases b with b|b
  all_goals simp [*]
theorem XX.adds{x t:FX}{N:Nat}{ls:List Z5}(h:XX F hF n q x N)(H:∀l∈ls,Jt F hF n l)(k:K7 F x ls t):XX F hF n q t (N+ls.length):=by
 obtain⟨sub,C,D,o,e,⟨v,w,z,A⟩,p,u,d,a12⟩:=k;have j:∀y∈sub,Jt F hF n y:=by grind
 have I:x.2.1.2.1=q.2.1:=by rw[h.que]
 have c:∀y,y∈sub.filter (fun y=>Ue (y.1=x.2.1.2.1))↔y∈sub/\y.1=q.2.1:=by grind
 refine⟨v.trans h.net,w.trans h.que,z.trans h.lnk,A.trans h.rows,⟨fun r g y a=>?_,fun y a=>?_,fun y a=>?_⟩,fun i r g=>?_,⟨fun y a=>?_,fun y a=>?_⟩,⟨?_,?_⟩,fun r g y a B=>?_,fun y a=>?_⟩
 ·obtain⟨i,s⟩:=Vqa g;obtain⟨r0,f,m,_⟩:=p i r s;rcases m y a with b|⟨b,_⟩
  ·exact h.lab.1 r0 (Vpa f) y b
  grind
 ·rw[o,Vk]at a;exact a.elim (h.lab.2.1 y) (j y)
 ·rw[e,Vk,c]at a;exact a.elim (h.lab.2.2 y) (by grind)
 ·obtain⟨r0,f,m,c3⟩:=p i r g;obtain⟨E,G⟩:=h.bag i r0 f
  grind
 ·rw[o,Vk]at a;exact a.elim (fun b=>d y (h.cvd.1 y b)) (by grind)
 ·rw[e,Vk,c]at a;exact a.elim (fun b=>d y (h.cvd.2 y b)) (by grind)
 ·rw[o,Vp];have:=h.few.1;omega
 ·rw[e,Vp];have b:=h.few.2
  grind
 ·obtain⟨i,s⟩:=Vqa g;obtain⟨r0,f,m,_⟩:=p i r s;rw[e,Vk,c];rcases m y a with b|⟨b,_⟩
  ·exact .inl (h.fd r0 (Vpa f) y b B)
  grind
 ·rw[e,Vk,c]at a;exact a.elim (h.to y) fun h=>h.2
theorem Zly{x:FX}{N:Nat}(h:XX F hF n q x N){u:Z5}(j:Jt F hF n u)(U:N+1<=549755813888):∃H,F105 x (Ua u)=Ua H/\K7 F x [u] H:=by
 obtain⟨E,R⟩:=j.stop;have A:u.1.toNat<(KN x).length:=by rw[h.rows];omega
 have S:u.1=((u.1.toNat:Nat):Int):=by omega
 have g:Qn.rowAt x u=(KN x)[u.1.toNat]:=by
  show (((KN x)[u.1.toNat]?).getD [])=_
  grind
 obtain⟨J,K⟩:=h.bag u.1.toNat _ (Vh A);have a:∀m∈(KN x)[u.1.toNat],Jt F hF n m:=h.lab.1 _ (Vd A);have M:∀m∈(KN x)[u.1.toNat],Qn.covB m u=Jc F m u:=fun m c=>by unfold Qn.covB;rw[Zez (a m c) j];rfl
 have G:∀m∈(KN x)[u.1.toNat],Qn.covB u m=Jc F u m:=fun m c=>by unfold Qn.covB;rw[Zez j (a m c)];rfl
 have b:((Qn.rowAt x u).any fun m=>Qn.covB m u)=Uc↔∃m∈(KN x)[u.1.toNat],Jc F m u=true:=by
  grind
 have p:XU x u.1=(KN x)[u.1.toNat]:=by assumption
 have I:Qn.KeepC x u:=by
  refine⟨E,A,fun m c=>?_,?_,?_,?_,?_⟩
  ·rw[g]at c;rw[Zez (a m c) j,Zez j (a m c)];simp
  ·grind
  ·have:=h.few.1;show (JE x).length+1<=_;omega
  ·have:=h.few.2;show (Xt x).length+1<=_;omega
  ·rw[b];by_cases v:∃m∈(KN x)[u.1.toNat],Jc F m u=Uc
   ·grind
   ·right;intro d;apply v;simp only[JN,Vk,List.mem_flatten]at d;rcases d with (⟨r,C,t⟩|t) |t
    ·obtain⟨i,o⟩:=Vqa C;have e:=(h.bag i r o).1 u t;have:i=u.1.toNat:=by omega
     subst this
     have D:(KN x)[u.1.toNat]=r:=by
      have T:(KN x)[u.1.toNat]? =Ua r:=o
      grind
     exact⟨u,by grind,Zkz j⟩
    ·rw[<-p];exact h.cvd.1 u t
    ·rw[<-p];exact h.cvd.2 u t
 have O:F105 x (Ua u)=Ua (Qn.keepZ x u):=by
  show Qn.keepF x (Ua u)=_;unfold Qn.keepF
  grind
 refine⟨_,O,?_⟩;unfold Qn.keepZ;by_cases v:∃m∈(KN x)[u.1.toNat],Jc F m u=Uc
 ·rw[Zv (b.2 v)];refine⟨[],by simp,by simp,by simp,by simp,⟨rfl,rfl,rfl,rfl⟩,by grind,by simp,fun _ h=>h,fun l B=>?_⟩
  grind
 ·rw[Zg (by grind),g];have k:((KN x)[u.1.toNat]).filter (fun m=> !Qn.covB u m)=((KN x)[u.1.toNat]).filter fun m=> !Jc F u m:=List.filter_congr (by grind);rw[k]
  have f:∀s:Int,((((KN x).set u.1.toNat (((KN x)[u.1.toNat]).filter (fun m=> !Jc F u m)++[u]))[s.toNat]?).getD [])=if s.toNat=u.1.toNat then((KN x)[u.1.toNat]).filter (fun m=> !Jc F u m)++[u] else XU x s:=by
   intro s;by_cases e:s.toNat=u.1.toNat
   ·grind
   ·rw[Zg e,Vw (by omega)];rfl
  have Q:(Ue (u.1=x.2.1.2.1))=Uc\/(Ue (u.1=x.2.1.2.1))=false:=by grind
  refine⟨[u],by simp,by simp,rfl,?_,⟨rfl,rfl,rfl,by show (Vnb _ _ _).length=_;rw[Vra];rfl⟩,fun i r C=>?_,by simp,fun y ⟨m,c,z⟩=>?_,fun l B=>?_⟩
  ·show (if u.1=x.2.1.2.1 then Xt x++[u] else Xt x)=_
   grind
  ·have D:((KN x).set u.1.toNat (((KN x)[u.1.toNat]).filter (fun m=> !Jc F u m)++[u]))[i]? =Ua r:=C;by_cases e:u.1.toNat=i
   all_goals grind
  ·show∃m∈(((KN x).set u.1.toNat (((KN x)[u.1.toNat]).filter (fun m=> !Jc F u m)++[u]))[y.1.toNat]?).getD [],_;rw[f];by_cases e:y.1.toNat=u.1.toNat
   ·rw[Zv e]
    have P:m∈(KN x)[u.1.toNat]:=by
     have:XU x y.1=(KN x)[u.1.toNat]:=by unfold XU;grind
     grind
    by_cases w:Jc F u m=Uc
    ·exact⟨u,by simp,ZrB hF w z⟩
    grind
   grind
  ·rw[Vn]at B;subst B;show∃m∈(((KN x).set l.1.toNat (((KN x)[l.1.toNat]).filter (fun m=> !Jc F l m)++[l]))[l.1.toNat]?).getD [],_;rw[f,Zv rfl];exact⟨l,by simp,Zkz j⟩
end Q
namespace Q
open Tr Go
variable {F:Z4}{hF:FO F}{n:Zc}{q:Zl}
theorem ZaA{i:Nat}(a:i<n.2.2.1.length):idx n.2.2.1 (i:Int)=Ua (rn n (i:Int)):=by
 rw[ZE a];unfold rn
 grind
theorem Zaz{i c:Nat}(a:c<(Zt n i).length):idx (rn n (i:Int)).2.2.2.2.2.2.2.1 (c:Int)=Ua (Zi n i c):=by
 have:idx (Zt n i) (c:Int)=Ua (Zi n i c):=by rw[ZE a,ZcJ a]
 exact this
theorem Zav{β:Type}(f:Nat->List β)(i:Nat):(Vl (i+1)).flatMap f=(Vl i).flatMap f++f i:=by rw[Vfc,Via];simp
theorem Zsk{β:Type}(f:Nat->List β){i m:Nat}(h:i<=m):((Vl i).flatMap f).length<=((Vl m).flatMap f).length:=by
 induction m with
 |zero=>grind
 |succ m b=>
  rcases Nat.lt_or_ge m i with a|a
  ·grind
  ·rw[Zav,Vp];omega
theorem ZeT{α β:Type}(l:List α)(f:α->List β):l.flatMap f=(Vl l.length).flatMap fun i=>(l[i]?).elim [] f:=by
 have key:∀k,k<=l.length->(l.take k).flatMap f=(Vl k).flatMap fun i=>(l[i]?).elim [] f:=by
  intro k
  induction k with
  |zero=>simp
  |succ k a=>
   intro h;rw[Zav, <-a (by omega),Vf (by omega),Via,Vh (by omega)];simp
 grind
theorem Zb7{σ τ:Type}{step:σ->Option (σ ⊕ τ)}{m:Nat}{g:Nat->List Z5}{x:FX}{N:Nat}(mk:Nat->FX->σ)(fin:FX->τ)(j:XX F hF n q x N)(k:∀i,i<m->∀l∈g i,Jt F hF n l)(u:N+((Vl m).flatMap g).length<=549755813888)
 (b:∀i x N,i<m->XX F hF n q x N->N+(g i).length<=549755813888->∃a,step (mk i x)=Ua (.inl (mk (i+1) a))/\K7 F x (g i) a)
 (d:∀x N,XX F hF n q x N->step (mk m x)=Ua (.inr (fin x))):∃a,run step (mk 0 x)=Ua (fin a)/\K7 F x ((Vl m).flatMap g) a:=by
 have lab:∀i,i<=m->∀l∈(Vl i).flatMap g,Jt F hF n l:=by
  grind
 obtain⟨r,f,a,rfl,h⟩:=KC m (fun r=>∃a,r=fin a/\K7 F x ((Vl m).flatMap g) a) (fun i s=>∃a,s=mk i a/\K7 F x ((Vl i).flatMap g) a) (step:=step) (by
  rintro i _ p ⟨a,rfl,c⟩;left;have o:=j.adds (by grind) c;have e:=Zsk g (show i+1<=m by omega);rw[Zav,Vp]at e;obtain⟨t,f,h⟩:=b i a _ p o (by omega);refine⟨_,f,t,rfl,?_⟩;rw[Zav]
  exact c.trans h) (by
  rintro _ ⟨a,rfl,c⟩;exact⟨_,d a _ (j.adds (by grind) c),a,rfl,c⟩) _ ⟨x,rfl,K7.nil x⟩
 grind
noncomputable def Dm(s:WM):Bool:=Ue (0<=Dt s)
noncomputable def KI(n:Zc)(l:ZA):Z5:=(l.1.2.1,l.2.1,(if l.1.1=1 then l.2.1+Da n l.1.2.1 else l.2.1),l.2.2.1,l.2.2.2.1,Ue (l.1.1=1),(ZK l).2.2.2.2.1,l.2.2.2.2.2.1,())
noncomputable def Hm(n:Zc)(l:ZA):List Z5:=if Xp n l=Uc/\Dm (YA l).2.2.2.2.1=Uc then [KI n l] else []
def Xf(y:Z5):ZA:=((0,0,0,0,(0,0,0,0,()),()),0,y.2.2.2.1+1,y.2.2.2.2.1,y.2.2.2.2.2.2.1,y.2.2.2.2.2.2.2.1,())
def W8(n:Zc)(i:Nat):List Nat:=(Vl n.2.2.2.1.length).filter fun k=>Ue ((lk n k).1=(i:Int))
noncomputable def HF(a:ZA->Nat->Nat->Bool->ZM->List Z5)(n:Zc)(q:Zl)(y:Z5)(j d:Nat):List Z5:=if y.2.2.2.1<q.2.2.2.2.1 then a (Xf y) j d Ud (J7 (Zi n j d).2.2.1) else []
noncomputable def Gj(a:ZA->Nat->Nat->Bool->ZM->List Z5)(n:Zc)(q:Zl)(l:ZA)(x:H2):List Z5:=
 if x.2.1≠l.1.2.2.2.1\/(Zi n x.2.2.1.toNat x.2.2.2.1.toNat).2.2.1<l.2.1 then [] else
 if x.2.2.2.2.1=Uc then a l x.2.2.1.toNat x.2.2.2.1.toNat Uc l.1.2.2.2.2.1 else
 if Hm n l≠ []/\(Zi n x.2.2.1.toNat x.2.2.2.1.toNat).2.2.2.1=Uc then HF a n q (KI n l) x.2.2.1.toNat x.2.2.2.1.toNat else []
noncomputable def ZaP(a:ZA->Nat->Nat->Bool->ZM->List Z5)(n:Zc)(q:Zl)(l:ZA):List Z5:=Hm n l++(W8 n l.1.2.2.1.toNat).flatMap fun k=>Gj a n q l (lk n k)
noncomputable def Jf(n:Zc)(q:Zl):Nat->ZA->Nat->Nat->Bool->ZM->List Z5
 |0,_,_,_,_,_=>[]
 |k+1,p,i,b,st,v=>if Ya n i=Uc then [] else(Vl ((Zt n i).length - (b+1))).flatMap fun m=>ZaP (Jf n q k) n q (Z2 n p i b (b+1+m) st v)
noncomputable def HG(n:Zc)(q:Zl)(k:Nat)(y:Z5)(j d:Nat):List Z5:=HF (Jf n q k) n q y j d
structure PB (F:Z4) (hF:FO F) (q:Zl) (p:ZA):Prop where
 fare:Zgb F hF p
 cnt:((KY p.2.2.2.2.1).length:Int)+1=p.2.2.1
 max:p.2.2.1<=q.2.2.2.2.1
 walk:0<=p.2.2.2.1/\p.2.2.2.1<=1000000
theorem Zuw{b:List ZM}{s:WM}(o:XG F hF b s):∃z,F21 s=Ua (z,Dm s):=by
 obtain⟨r,c,t,rfl,⟨p,d⟩,j,m⟩:=o.head;obtain⟨a,k,l⟩:=d b.length (Vt _);have v:b.length<c.length:=by omega
 have e:idx c (b.length:Int)=Ua a:=by assumption
 have f:Dt ((Ua F,r,(b.length:Int),c,())::t)=a:=by show (c[((b.length:Int)).toNat]?).getD (-1)=a;grind
 unfold Dm;rw[f];unfold F21;simp only[Tr.unc,Vvb,Zd,Za,e];by_cases g:a<0
 ·simp_all
 ·rw[Zr g,Zj (show 0<=a by omega)];simp only[Zd];by_cases h:F.2.2.2.1=0
  ·simp_all
  ·rw[Zr h];by_cases u:a<F.2.2.2.1
   all_goals simp [*]
theorem ZkV{L:List Zw}(x:Zw)(h:L.length<=1000):F98 L x=Ua (L++[x]):=by
 unfold F98 F168 Tr.cloLegG;have c:(ZD:Nat)=549755813888:=rfl;have a:Ue (Vg L<=ZD)=true:=by grind
 have b:Ue (Vg L+Vg [x]<=ZD)=true:=by grind
 rw[a,Ze,Za,b];rfl
theorem Zto(f:WC n)(R:q.2.2.2.2.1<=3){x:FX}{N:Nat}(A:XX F hF n q x N){p:ZA}(h:PB F hF q p){KS:Z5}(s:KS.2.2.2.1+1=p.2.2.1)(t:KS.2.2.2.2.1=p.2.2.2.1)(u:KS.2.2.2.2.2.2.1=p.2.2.2.2.1)
 {i b c:Nat} (st:Bool) {v:ZM} (r:i<n.2.2.1.length) (B:b<c) (o:c<(Zt n i).length) (K:Small v) (E:Xl v.1) (z:Int×Int×Bool) (O:List Int) (L:List Zw) (hL:L=p.2.2.2.2.2.1++[ZR n i b c st]):
 F106 x (Ua KS,z.1,z.2.1,z.2.2,JR n v (ZR n i b c st),O,()) L (Zi n i c).1 (Zi n i c).2.1=Ua (x,if Dm (YA (Z2 n p i b c st v)).2.2.2.2.1=Uc then Ua (KI n (Z2 n p i b c st v)) else Ub)/\
 Jt F hF n (KI n (Z2 n p i b c st v)):=by
 have I:∀w∈KY p.2.2.2.2.1++[JR n v (ZR n i b c st)],X1 w:=fun w j=>by
  rw[Vk,Vn]at j;rcases j with j|rfl
  ·exact h.fare.2 w j
  ·exact Zdx f st r B o K E
 have D:=h.cnt;have G:=h.max;obtain⟨k,y,m⟩:=Ziy hF h.fare.1 I (by omega);have e:Gq p.2.2.2.2.1 (JR n v (ZR n i b c st))=k:=by unfold Gq;grind
 have l:(YA (Z2 n p i b c st v)).2.2.2.2.1=k:=e;have a:(ZK (Z2 n p i b c st v)).2.2.2.2.1=k:=by assumption
 obtain⟨S,M⟩:=Zuw m;have d:=f.stop r o;have C:=f.change _ d.1 d.2;have J:=f.time r o;have g:idx x.1.1 (Zi n i c).1=Ua (WO n (Zi n i c).1):=by rw[A.net];exact(ZnF f.sound d.1 d.2).1
 constructor
 ·unfold F106;simp only[Za,u,y,decide_true,Vc,Zd,M,l]
  cases H:Dm k with
  |false=>rfl
  |true=>
   simp only[Vc,Zd,g,Za,Zv];have P:Va .i64 ((Zi n i c).2.1+(WO n (Zi n i c).1).2.2.2.1)=(Zi n i c).2.1+(WO n (Zi n i c).1).2.2.2.1:=ZH (by omega) (by omega);have Q:Va .i64 (KS.2.2.2.1+1)=p.2.2.1:=by rw[s];exact ZH (by omega) (by omega)
   rw[P,Q,t];unfold KI;rw[a,Zv (by rfl),hL];rfl
 ·refine⟨?_,?_,d⟩
  ·show XG F hF (KY (ZK (Z2 n p i b c st v)).2.2.2.2.1) (ZK (Z2 n p i b c st v)).2.2.2.2.1;rw[a,D4 m];omega
  ·show∀w∈KY (ZK (Z2 n p i b c st v)).2.2.2.2.1,X1 w;rw[a,D4 m];omega
end Q
namespace Q
open Tr Go
variable {F:Z4}{hF:FO F}{n:Zc}{q:Zl}
theorem Zrs{l:List Int}{a:Int}(h:∀r∈l,a≠r)(c:l.length<=1000):F173 l a=Ua false:=by
 unfold F173
 have:F179 l a=Ua (-1):=by
  unfold F179;refine K4 (fun r:Unit ⊕ Int=>r=.inl ()) ?_ ?_
  ·refine KC l.length _ (fun k (s:Int)=>s=(k:Int)) ?_ ?_ _ rfl
   ·rintro k _ b rfl;left;refine⟨_,?_,rfl⟩;rw[ZQ b,Ze,ZE b,Za,Zr (by grind),Zd,Kb b (by omega)]
   simp
  simp
 grind
theorem PB.stay{p:ZA}(h:PB F hF q p)(i b c:Nat)(st:Bool)(v:ZM):PB F hF q (Z2 n p i b c st v):=⟨h.fare,h.cnt,h.max,h.walk⟩
theorem Zkc(h:WC n)(y:q.2.2.2.2.1<=3){p:ZA}(a:PB F hF q p){i b c:Nat}{st:Bool}{v:ZM}(o:i<n.2.2.1.length)(j:b<c)(k:c<(Zt n i).length)(t:Small v)(m:Xl v.1):
 XG F hF (KY p.2.2.2.2.1++[JR n v (ZR n i b c st)]) (ZK (Z2 n p i b c st v)).2.2.2.2.1/\ ∀w∈KY p.2.2.2.2.1++[JR n v (ZR n i b c st)],X1 w:=by
 have s:∀w∈KY p.2.2.2.2.1++[JR n v (ZR n i b c st)],X1 w:=fun w d=>by
  rw[Vk,Vn]at d;rcases d with d|rfl
  ·exact a.fare.2 w d
  ·exact Zdx h st o j k t m
 have l:=a.cnt;have r:=a.max;obtain⟨g,u,x⟩:=Ziy hF a.fare.1 s (by omega);have e:Gq p.2.2.2.2.1 (JR n v (ZR n i b c st))=g:=by unfold Gq;grind
 have f:(ZK (Z2 n p i b c st v)).2.2.2.2.1=g:=by assumption
 grind
theorem PB.beg(f:WC n)(e:q.2.2.2.2.1<=3){p:ZA}(d:PB F hF q p){i b c:Nat}{st:Bool}{v:ZM}(k:i<n.2.2.1.length)(g:b<c)(h:c<(Zt n i).length)(o:Small v)(j:Xl v.1)(l:(KI n (Z2 n p i b c st v)).2.2.2.1<q.2.2.2.2.1):PB F hF q (Xf (KI n (Z2 n p i b c st v))):=by
 obtain⟨a,r⟩:=Zkc (st:=st) f e d k g h o j;have m:p.2.2.1<q.2.2.2.2.1:=l;refine⟨⟨?_,?_⟩,?_,?_,d.walk⟩
 ·show XG F hF (KY (ZK (Z2 n p i b c st v)).2.2.2.2.1) (ZK (Z2 n p i b c st v)).2.2.2.2.1;rw[D4 a];omega
 ·show∀w∈KY (ZK (Z2 n p i b c st v)).2.2.2.2.1,X1 w;rw[D4 a];omega
 ·show ((KY (ZK (Z2 n p i b c st v)).2.2.2.2.1).length:Int)+1=p.2.2.1+1;rw[D4 a,Vp,Voa];have:=d.cnt;omega
 assumption
theorem Zdg{i k:Nat}(h:k∈W8 n i):k<n.2.2.2.1.length/\(lk n k).1=(i:Int)/\lk n k∈n.2.2.2.1:=by
 unfold W8 at h;rw[Vgb,Vla]at h;refine⟨h.1,Xq h.2,?_⟩;unfold lk
 grind
theorem ZaM(p:WC n){i k:Nat}(h:k∈W8 n i):∃(c j d:Nat) (st:Bool),lk n k=((i:Int),(c:Int),(j:Int),(d:Int),st,())/\j<n.2.2.1.length/\i≠j/\c<(Zt n i).length/\d<(Zt n j).length/\(Zi n i c).1=(Zi n j d).1/\(st=Uc->c+1=(Zt n i).length/\d=0)/\isLink n i c j d st:=by
 obtain⟨_,t,o⟩:=Zdg h;obtain⟨r,c,j,d,st,e,s,a,b,f,g,l,m⟩:=p.link _ o
 have:r=i:=by
  grind
 subst this;exact⟨c,j,d,st,e,a,b,f,g,l,m,by unfold isLink;grind⟩
theorem Zh8{l:ZA}{y:Z5}(h:y∈Hm n l):y=KI n l/\Xp n l=Uc/\Dm (YA l).2.2.2.2.1=true:=by
 unfold Hm at h
 grind
theorem Zcf(c:WC n)(h:q.2.2.2.2.1<=3):∀(K:Nat) (p:ZA) (i b:Nat) (st:Bool) (v:ZM),PB F hF q p->i<n.2.2.1.length->Small v->Xl v.1->∀y∈Jf n q K p i b st v,Jt F hF n y
 |0,p,i,b,st,v,_,_,_,_,y,a=>by unfold Jf at a;grind
 |K+1,p,i,b,st,v,z,o,A,r,y,a=>by
  unfold Jf at a;split at a
  ·grind
  obtain⟨m,G,a⟩:=Vo.1 a;rw[Vla]at G;have f:b<b+1+m:=by omega
  have l:b+1+m<(Zt n i).length:=by omega
  have g:=Zdx c st o f l A r;unfold ZaP at a;rw[Vk]at a;rcases a with a|a
  ·obtain⟨rfl,_⟩:=Zh8 a;obtain⟨B,J⟩:=Zkc (st:=st) c h z o f l A r;refine⟨?_,?_,c.stop o l⟩
   ·show XG F hF (KY (ZK (Z2 n p i b (b+1+m) st v)).2.2.2.2.1) (ZK (Z2 n p i b (b+1+m) st v)).2.2.2.2.1;rw[D4 B];omega
   ·show∀w∈KY (ZK (Z2 n p i b (b+1+m) st v)).2.2.2.2.1,X1 w;rw[D4 B];omega
  ·obtain⟨k,E,a⟩:=Vo.1 a;have u:k∈W8 n i:=E;obtain⟨I,j,d,H,e,t,D,C,s,_⟩:=ZaM c u;unfold Gj at a;rw[e]at a;simp only[Vj]at a;split at a
   ·grind
   split at a
   ·exact Zcf c h K _ j d Uc _ (z.stay i b (b+1+m) st v) t g.1 g.2.1 y a
   split at a
   ·unfold HF at a;split at a
    ·rename_i x;have M:=c.time t s;exact Zcf c h K _ j d Ud _ (z.beg c h o f l A r x) t (Zdi _) ⟨by show 0<=(Zi n j d).2.2.1;omega,by show (Zi n j d).2.2.1<=_;omega⟩ y a
    grind
   grind
end Q
namespace Q
open Tr Go
variable {F:Z4}{hF:FO F}{n:Zc}{q:Zl}
theorem ZjP{α:Type}{o:Option α}{P:α->Prop}(h:∃x,o=Ua x/\P x):∃x,(Vb o fun x=>Ua x)=Ua x/\P x:=by
 grind
noncomputable def hgt(n:Zc)(q:Zl)(p:ZA)(i:Nat):Nat:=8*WA q p+WB n i
def Zd1(F:Z4)(hF:FO F)(n:Zc)(q:Zl)(K:Nat):Prop:= ∀(x:FX) (N:Nat) (p:ZA) (i b:Nat) (st:Bool) (v:ZM) (a:List Int) (KS:Z5),
 XX F hF n q x N->PB F hF q p->KS.2.2.2.1+1=p.2.2.1->KS.2.2.2.2.1=p.2.2.2.1->KS.2.2.2.2.2.2.1=p.2.2.2.2.1->KS.2.2.2.2.2.2.2.1=p.2.2.2.2.2.1->p.2.2.2.2.2.1.length+K<=300->i<n.2.2.1.length->b<(Zt n i).length->Small v->Xl v.1->
 a.length+K<=300->(∀r∈a,XZ n r (i:Int))->hgt n q p i<K->N+(Jf n q K p i b st v).length<=549755813888->
 ∃c,F110 K x (Ua KS,(i:Int),(b:Int),st,v,a,())=Ua c/\K7 F x (Jf n q K p i b st v) c
theorem ZtJ{i:Nat}(a:i<n.2.2.1.length):idx (RS n) (i:Int)=Ua ((W8 n i).map fun k:Nat=>(k:Int)):=by
 unfold RS;have h:i<((Vl n.2.2.1.length).map fun i:Nat=>((Vl n.2.2.2.1.length).filter fun k=>Ue ((lk n k).1=(i:Int))).map fun k:Nat=>(k:Int)).length:=by grind
 rw[ZE h,Vac,List.getElem_range];rfl
theorem ZjO(l:WC n){K:Nat}(r:Zd1 F hF n q K){x:FX}{N:Nat}(c:XX F hF n q x N){y:Z5}(p:y.2.2.2.1<q.2.2.2.2.1->PB F hF q (Xf y))(o:y.2.2.2.2.2.2.2.1.length+K<=300)(t:K<=300){j d:Nat}(f:j<n.2.2.1.length)(e:d<(Zt n j).length)
 (m:y.2.2.2.1<q.2.2.2.2.1->hgt n q (Xf y) j<K) (g:N+(HF (Jf n q K) n q y j d).length<=549755813888):
 ∃b,F100 (F110 K) x (Ua y) (j:Int) (d:Int)=Ua b/\K7 F x (HF (Jf n q K) n q y j d) b:=by
 unfold F100 HF at*;simp only[Za,c.net,c.que,ZaA f,Zaz e];by_cases a:y.2.2.2.1<q.2.2.2.2.1
 ·rw[Zv a]at g⊢;rw[Zj a,Ze];have u:=l.time f e;obtain⟨b,h,s⟩:=r x N (Xf y) j d Ud (J7 (Zi n j d).2.2.1) [] y c (p a) rfl rfl rfl rfl o f e (Zdi _) ⟨by show 0<=(Zi n j d).2.2.1;omega,by show (Zi n j d).2.2.1<=_;omega⟩ (by grind) (by simp) (m a) g;have k:F110 K x (Ua y,(j:Int),(d:Int),Ud,((Zi n j d).2.2.1,(0:Int),(0:Int),(0:Int),()),([]:List Int),())=Ua b:=h
  grind
 ·rw[Zg a,Zr a,Zd];exact⟨x,rfl,K7.nil x⟩
theorem Zuo(Q:Whole n)(hT:WR n)(P:q.2.2.2.2.1<=3){K:Nat}(ih:Zd1 F hF n q K){x:FX}{N:Nat}(Y:XX F hF n q x N){p:ZA}(T:PB F hF q p){KS:Z5}(e1:KS.2.2.2.1+1=p.2.2.1)(e2:KS.2.2.2.2.1=p.2.2.2.1)(e3:KS.2.2.2.2.2.2.1=p.2.2.2.2.1)
 (a7:p.2.2.2.2.2.1.length+(K+1)<=300) {i b c:Nat} (st sx:Bool) {v:ZM} (H:i<n.2.2.1.length) (Z:b<c) (R:c<(Zt n i).length) (hv:Small v) (hd:Xl v.1) (bb:Int) {V:List Int} (b0:V.length+(K+1)<=300) (hR:∀r∈V,XZ n r (i:Int)) (hh:hgt n q p i<K+1)
 {L:List Zw} (hL:L=p.2.2.2.2.2.1++[ZR n i b c st]) {out:Option Z5} (S:out=if Xp n (Z2 n p i b c st v)=Uc/\Dm (YA (Z2 n p i b c st v)).2.2.2.2.1=Uc then Ua (KI n (Z2 n p i b c st v)) else Ub)
 (hM:N+((W8 n i).flatMap fun k=>Gj (Jf n q K) n q (Z2 n p i b c st v) (lk n k)).length<=549755813888):
 ∃D,F101 (F110 K) x (Ua KS,(i:Int),bb,sx,JR n v (ZR n i b c st),V++[(i:Int)],()) (c:Int) L out=Ua D/\K7 F x ((W8 n i).flatMap fun k=>Gj (Jf n q K) n q (Z2 n p i b c st v) (lk n k)) D:=by
 have l:=Q.ok;have t:=Zdx l st H Z R hv hd
 have a3:(W8 n i).length<=1024:=by have O:(W8 n i).length<=(Vl n.2.2.2.1.length).length:=Vfa _ _;rw[List.length_range]at O;have:=Q.v;omega
 have J:idx x.2.2.1 (i:Int)=Ua ((W8 n i).map fun k:Nat=>(k:Int)):=by rw[Y.lnk];exact ZtJ H
 rw[ZeT]at hM⊢;unfold F101;simp only[Y.net,ZaA H,Za,Zaz R,J,Vr];refine ZjP (Zb7 (F:=F) (hF:=hF) (n:=n) (q:=q) (fun k x=>(x,(k:Int))) (fun x=>x) Y ?_ hM ?_ ?_)
 ·intro m o y hy;rw[Vh o]at hy;have f:y∈Gj (Jf n q K) n q (Z2 n p i b c st v) (lk n (W8 n i)[m]):=hy
  have b2:y∈Jf n q (K+1) p i b st v\/Ya n i=true:=by
   by_cases a1:Ya n i=Uc
   ·grind
   left;unfold Jf;rw[Zg a1];refine Vo.2 ⟨c - (b+1),by grind,?_⟩;rw[show b+1+(c - (b+1))=c by omega];unfold ZaP;refine List.mem_append_right _ (Vo.2 ⟨_,Vd o,f⟩)
  obtain⟨E,j,d,C,e,z,a2,a0,g,_⟩:=ZaM l (Vd o);unfold Gj at f;rw[e]at f;simp only[Vj]at f;split at f
  ·grind
  split at f
  ·exact Zcf l P K _ j d Uc _ (T.stay i b c st v) z t.1 t.2.1 y f
  split at f
  ·unfold HF at f;split at f
   ·rename_i A;have ht:=l.time z g;exact Zcf l P K _ j d Ud _ (T.beg l P H Z R hv hd A) z (Zdi _) ⟨by show 0<=(Zi n j d).2.2.1;omega,by show (Zi n j d).2.2.1<=_;omega⟩ y f
   grind
  grind
 ·intro m s M o w G;rw[Vh o]at G⊢;have a:M+(Gj (Jf n q K) n q (Z2 n p i b c st v) (lk n (W8 n i)[m])).length<=549755813888:=G;show∃D,_/\K7 F s (Gj (Jf n q K) n q (Z2 n p i b c st v) (lk n (W8 n i)[m])) D;have u:=Zdg (Vd o);obtain⟨E,j,d,C,e,z,a2,a0,g,a4,b1,I⟩:=ZaM l (Vd o)
  have a5:idx ((W8 n i).map fun k:Nat=>(k:Int)) (m:Int)=Ua (((W8 n i)[m]:Nat):Int):=by rw[ZE (by grind),Vac]
  have a6:idx n.2.2.2.1 (((W8 n i)[m]:Nat):Int)=Ua ((i:Int),(E:Int),(j:Int),(d:Int),C,()):=by
   have hl:lk n (W8 n i)[m]=n.2.2.2.1[(W8 n i)[m]]'(u.1):=by unfold lk;grind
   rw[ZE u.1, <-hl,e]
  simp only[ZQ o,Ze,a5,Za,w.net,a6,ZaA z,Zaz g,Kb o (by omega)];unfold Gj at a⊢;rw[e]at a⊢;simp only[Vj]at a⊢;have W:(Z2 n p i b c st v).1.2.2.2.1=(c:Int):=rfl;have X:(Z2 n p i b c st v).2.1=(Zi n i c).2.1:=rfl;rw[W,X]at a⊢;by_cases k1:(E:Int)≠(c:Int)\/(Zi n j d).2.2.1<(Zi n i c).2.1
  ·rw[Zv k1]
   have:(bif !Ue ((E:Int)=(c:Int)) then Ua Uc else Ua (Ue ((Zi n j d).2.2.1<(Zi n i c).2.1)))=Ua true:=by
    grind
   rw[this];exact⟨s,rfl,K7.nil s⟩
  rw[Zg k1]at a⊢
  have k2:(E:Int)=(c:Int):=by omega
  have k3:¬(Zi n j d).2.2.1<(Zi n i c).2.1:=by omega
  rw[Zj k2,Zr k3];simp only[Vc,Zd,Za]
  cases C with
  |true=>
   rw[Zv rfl]at a⊢;simp only[Ze];have B:=ZfF Q I;have a9:=Zfs Q (show j<7 by have:=hT.runs;omega) B
   obtain⟨D,O,h2⟩:=ih s M (Z2 n p i b c st v) j d Uc (JR n v (ZR n i b c st)) (V++[(i:Int)]) (KS.1,KS.2.1,KS.2.2.1,KS.2.2.2.1,KS.2.2.2.2.1,KS.2.2.2.2.2.1,KS.2.2.2.2.2.2.1,L,KS.2.2.2.2.2.2.2.2) w (T.stay i b c st v) e1 e2 e3 hL
    (by show (p.2.2.2.2.2.1++[ZR n i b c st]).length+K<=300;grind) z g t.1 t.2.1 (by grind) (fun r U=>by
      rw[Vk,Vn]at U;rcases U with U|rfl
      ·exact(hR r U).trans (.one B)
      ·exact .one B) (by unfold hgt at hh⊢;have:WA q (Z2 n p i b c st v)=WA q p:=rfl;omega) a
   rw[O]
   exact⟨D,rfl,h2⟩
  |false=>
   rw[Zg (by simp)]at a⊢;simp only[Zd];by_cases k4:Xp n (Z2 n p i b c st v)=Uc/\Dm (YA (Z2 n p i b c st v)).2.2.2.2.1=Uc
   ·rw[Zv k4]at S;have h:Hm n (Z2 n p i b c st v)≠ []:=by unfold Hm;grind
    subst S;simp only[Vsb,Vy,Ze,Za]
    cases k5:(Zi n j d).2.2.2.1 with
    |false=>
     rw[Zg (by simp)]
     exact⟨s,rfl,K7.nil s⟩
    |true=>
     rw[Zv ⟨h,k5⟩]at a;rw[Zv ⟨h,rfl⟩];simp only[Ze]
     obtain⟨D,O,h2⟩:=ZjO l ih w (y:=KI n (Z2 n p i b c st v)) (T.beg l P H Z R hv hd) (by show (p.2.2.2.2.2.1++[ZR n i b c st]).length+K<=300;grind) (by omega) z g (fun A=>by have a8:p.2.2.1<q.2.2.2.2.1:=A;unfold hgt at hh⊢;have e5:WA q (Xf (KI n (Z2 n p i b c st v)))=(q.2.2.2.2.1 - (p.2.2.1+1)).toNat:=rfl;have e6:WA q p=(q.2.2.2.2.1 - p.2.2.1).toNat:=rfl;have:=Zfr (n:=n) j;omega) a
     grind
   ·rw[Zg k4]at S;subst S;have h:Hm n (Z2 n p i b c st v)=[]:=by unfold Hm;grind
    rw[Zg (by grind)];exact⟨s,rfl,K7.nil s⟩
 simp
end Q
namespace Q
open Tr Go
variable {F:Z4}{hF:FO F}{n:Zc}{q:Zl}
theorem ZnQ(hW:Whole n)(hT:WR n)(h3:q.2.2.2.2.1<=3):∀K,Zd1 F hF n q K
 |0=>fun _ _ _ _ _ _ _ _ _ _ _ _ _ _ _ _ _ _ _ _ _ _ hh _=>absurd hh (by omega)
 |K+1=>by
  intro x N p i b a v A KS hG hp e1 e2 e3 e4 c7 H hb S hd d0 hR hh hM;have ih:Zd1 F hF n q K:=ZnQ hW hT h3 K;have C:=hW.ok;have b6:=C.sound.many _ (Vd H);have b3:(Zt n i).length<=32:=by rw[Zej H];omega
  have d:∀c∈Zt n i,0<=c.1/\c.1<(n.1.length:Int):=by rw[Zej H];exact C.sound.call _ (Vd H)
  have Z:∀c,(HS n (ZR n i b c a))=(n.2.1[(rn n (i:Int)).2.2.2.2.1.toNat]?).getD RX:=fun _=>rfl
  obtain⟨f,Y,E⟩:idx n.2.1 (rn n (i:Int)).2.2.2.2.1=Ua ((n.2.1[(rn n (i:Int)).2.2.2.2.1.toNat]?).getD RX)/\0<=((n.2.1[(rn n (i:Int)).2.2.2.2.1.toNat]?).getD RX).2.1/\((n.2.1[(rn n (i:Int)).2.2.2.2.1.toNat]?).getD RX).2.1<16:=by
   have hm:rn n (i:Int)∈n.2.2.1:=by unfold rn;grind
   have h1:=C.sound.route _ hm;have b1:Ke (rn n (i:Int)).2.2.2.2.1 n.2.1.length=true:=by unfold Ke;grind
   refine⟨W7 b1 RX,?_⟩;have hl:(rn n (i:Int)).2.2.2.2.1.toNat<n.2.1.length:=by omega
   rw[Ku hl];have:=C.sound.mode _ (Vd hl);omega
  generalize c9:(n.2.1[(rn n (i:Int)).2.2.2.2.1.toNat]?).getD RX=R at f Y E Z;obtain⟨d1,b9,a2⟩:=ZdH C.sound (d _ (Vd hb)).1 (by grind);obtain⟨⟨z,hz⟩,d4⟩:(∃z:Nat,v.2.2.1=(z:Int))/\v.2.2.1<65536:=⟨⟨_,(Vha S.1.1).symm⟩,S.1.2⟩;obtain⟨⟨m,hm⟩,d3⟩:(∃z:Nat,v.2.2.2.1=(z:Int))/\v.2.2.2.1<65536:=⟨⟨_,(Vha S.2.1).symm⟩,S.2.2⟩;have d2:∀k,b+k<=(Zt n i).length->zN n (Zt n i) b k<65536:=fun k hk=>Zcn C.sound d k (by omega)
  have a4:zN n (Zt n i) b 1=2 ^ (Gt n (Zt n i)[b].1).2.1.toNat:=by show zN n (Zt n i) b 0 ||| zn n (Zt n i) (b+0)=_;unfold zn;rw[Nat.add_zero,Ku hb];show 0 ||| _=_;simp
  have c8:Zi n i b=(Zt n i)[b]:=ZcJ hb;have a3:idx n.1 (Zi n i b).1=Ua (Gt n (Zt n i)[b].1):=by grind
  have J:F173 A (i:Int)=Ua false:=Zrs (fun r hr h=>XZ.irr hW (h▸hR r hr)) (by omega)
  have V:F170 A=Ua A:=by unfold F170 Tr.cloIntG;have b5:(ZD:Nat)=549755813888:=rfl;rw[Zj (by omega)];rfl
  have b0:Zz (Ue (A.length+Vg [(i:Int)]<=ZD))=Ua ():=by have b5:(ZD:Nat)=549755813888:=rfl;rw[Zj (by simp only[Voa];omega)];rfl
  unfold Jf at hM⊢;show∃x',F109 (F110 K) x (Ua KS,(i:Int),(b:Int),a,v,A,())=Ua x' /\_;unfold F109;simp only[hG.net,ZaA H,Za,J];by_cases u:Ya n i=Uc
  ·rw[Zv u];have w:(rn n (i:Int)).2.2.2.2.2.2.1=true:=u;rw[w];exact⟨x,rfl,K7.nil x⟩
  rw[Zg u]at hM⊢
  have w:(rn n (i:Int)).2.2.2.2.2.2.1=false:=by
   cases h:(rn n (i:Int)).2.2.2.2.2.2.1 with
   |true=>exact absurd h u
   |false=>rfl
  rw[w];simp only[Zd,Za,V,b0,Zaz hb,f,Rb Y E,a3,Rb b9 a2];rw[hz,hm,Gn (by omega) (Ho a2),Gn (by omega) (Ho E), <-a4];have c1:Va .i64 ((b:Int)+1)=((b+1:Nat):Int):=by rw[ZH (by omega) (by omega)];omega
  rw[c1]
  refine ZjP (Zb7 (F:=F) (hF:=hF) (n:=n) (q:=q) (m:=(Zt n i).length - (b+1)) (g:=fun k=>ZaP (Jf n q K) n q (Z2 n p i b (b+1+k) a v)) (x:=x) (N:=N)
   (fun k s=>(s,((Ua KS,(i:Int),(b:Int),a,(v.1,(if k=0 then v.2.1 else(Zi n i (b+k)).2.1),((z ||| zN n (Zt n i) b (k+1):Nat):Int),((m ||| 2 ^ R.2.1.toNat:Nat):Int),v.2.2.2.2),A++[(i:Int)],()):Zi5),((b+1+k:Nat):Int))) (fun s=>s) hG ?hlab hM ?hstep ?hend)
  case hlab=>
   intro k hk y hy;refine Zcf C h3 (K+1) p i b a v hp H S hd y ?_;unfold Jf;rw[Zg u];exact Vo.2 ⟨k,Vla.2 hk,hy⟩
  case hstep=>
   intro k s M hk t j;have U:b+1+k<(Zt n i).length:=by omega
   have a5:Zi n i (b+1+k)=(Zt n i)[b+1+k]:=ZcJ U;obtain⟨t1,t2,t3⟩:=ZdH C.sound (d _ (Vd U)).1 (by grind);rw[<-a5]at t1 t2 t3;have P:Ue (((b+1+k:Nat):Int)<((rn n (i:Int)).2.2.2.2.2.2.2.1.length:Int))=true:=Zj (by show ((b+1+k:Nat):Int)<((Zt n i).length:Int);omega);have c2:Va .i64 (((b+1+k:Nat):Int)+1)=((b+1+(k+1):Nat):Int):=by rw[ZH (by omega) (by omega)];omega
   have c4:zN n (Zt n i) b (k+1+1)=zN n (Zt n i) b (k+1) ||| 2 ^ (Gt n (Zi n i (b+1+k)).1).2.1.toNat:=by
    show zN n (Zt n i) b (k+1) ||| zn n (Zt n i) (b+(k+1))=_;unfold zn
    grind
   have b8:K5 .i64 ((z ||| zN n (Zt n i) b (k+1):Nat):Int) ((2 ^ (Gt n (Zi n i (b+1+k)).1).2.1.toNat:Nat):Int)=((z ||| zN n (Zt n i) b (k+1+1):Nat):Int):=by have:z ||| zN n (Zt n i) b (k+1)<2 ^ 16:=Vva (n:=16) (by omega) (by grind);rw[Gn (by omega) (Ho t3),c4,Nat.or_assoc]
   have a0:JR n v (ZR n i b (b+1+k) a)=(v.1,(Zi n i (b+1+k)).2.1,((z ||| zN n (Zt n i) b (k+1+1):Nat):Int),((m ||| 2 ^ R.2.1.toNat:Nat):Int),v.2.2.2.2):=by
    unfold JR;rw[Z,hz,hm]
    have ez:HW n (ZR n i b (b+1+k) a)=zN n (Zt n i) b (k+1+1):=by unfold HW;show zN n (Zt n i) (b:Int).toNat (((b+1+k:Nat):Int).toNat+1 - (b:Int).toNat)=_;rw[Vj,Vj];congr 1;omega
    rw[ez,Gn (by omega) (by grind),Gn (by omega) (Ho E)];rfl
   have T:b<b+1+k:=by omega
   have a1:idx s.1.1 (Zi n i (b+1+k)).1=Ua (Gt n (Zi n i (b+1+k)).1):=by rw[t.net];exact t1
   simp only[P,Ze,Zaz U,Za,a1,Rb t2 t3,b8,c2];rw[e4];have O:((Uc,(i:Int),(b:Int),((b+1+k:Nat):Int),(Zi n i b).1,(Zi n i (b+1+k)).1,(Zi n i b).2.2.1,(Zi n i (b+1+k)).2.1,a,()):Zw)=ZR n i b (b+1+k) a:=rfl;rw[O,ZkV _ (show p.2.2.2.2.2.1.length<=1000 by omega),Za, <-a0]
   have Q:∀o:FX,((o,(Ua KS,(i:Int),(b:Int),a,JR n v (ZR n i b (b+1+k) a),A++[(i:Int)],()),((b+1+(k+1):Nat):Int)):FX×Zi5×Int)=(o,(Ua KS,(i:Int),(b:Int),a,(v.1,(if k+1=0 then v.2.1 else(Zi n i (b+(k+1))).2.1),((z ||| zN n (Zt n i) b (k+1+1):Nat):Int),((m ||| 2 ^ R.2.1.toNat:Nat):Int),v.2.2.2.2),A++[(i:Int)],()),((b+1+(k+1):Nat):Int)):=by intro o;rw[a0,Zg (by omega),show b+(k+1)=b+1+k by omega]
   obtain⟨b4,I⟩:=Zto C h3 t hp e1 e2 e3 a H T U S hd ((i:Int),(b:Int),a) (A++[(i:Int)]) (p.2.2.2.2.2.1++[ZR n i b (b+1+k) a]) rfl;unfold ZaP at j⊢;have G:(Z2 n p i b (b+1+k) a v).1.2.2.1.toNat=i:=rfl;rw[G,Vp]at j;rw[G];have a7:Xp n (Z2 n p i b (b+1+k) a v)=(Zi n i (b+1+k)).2.2.2.2.1:=rfl
   have D:∃s',(bif (Zi n i (b+1+k)).2.2.2.2.1 then
    Vb (F106 s (Ua KS,(i:Int),(b:Int),a,JR n v (ZR n i b (b+1+k) a),A++[(i:Int)],()) (p.2.2.2.2.2.1++[ZR n i b (b+1+k) a]) (Zi n i (b+1+k)).1 (Zi n i (b+1+k)).2.1) fun B=>
    Vb (bif !Option.isNone B.2 then Vb (F105 B.1 B.2) fun c5=>Ua c5 else Ua B.1)
    fun c6=>Ua (c6,B.2) else Ua (s,Ub))=Ua (s',if Xp n (Z2 n p i b (b+1+k) a v)=Uc/\Dm (YA (Z2 n p i b (b+1+k) a v)).2.2.2.2.1=Uc then Ua (KI n (Z2 n p i b (b+1+k) a v)) else Ub)/\K7 F s (Hm n (Z2 n p i b (b+1+k) a v)) s' :=by
    unfold Hm at j⊢;rw[a7]at j⊢
    cases ha:(Zi n i (b+1+k)).2.2.2.2.1 with
    |false=>
     rw[Zg (by simp),Zg (by simp)]
     exact⟨s,rfl,K7.nil s⟩
    |true=>
     have X:F106 s (Ua KS,(i:Int),(b:Int),a,JR n v (ZR n i b (b+1+k) a),A++[(i:Int)],()) (p.2.2.2.2.2.1++[ZR n i b (b+1+k) a]) (Zi n i (b+1+k)).1 (Zi n i (b+1+k)).2.1=_:=b4;rw[Ze,X,Za];by_cases e:Dm (YA (Z2 n p i b (b+1+k) a v)).2.2.2.2.1=Uc
     ·rw[Zv e,Zv ⟨rfl,e⟩,Zv ⟨rfl,e⟩];rw[ha,Zv ⟨rfl,e⟩]at j;obtain⟨s',k1,k2⟩:=Zly t I (by simp only[Voa]at j;omega);simp only[Vsb,Vy,Ze];rw[k1];exact⟨s',rfl,k2⟩
     ·rw[Zg e,Zg (fun h=>e h.2),Zg (fun h=>e h.2)];exact⟨s,rfl,K7.nil s⟩
   obtain⟨s1,b2,W⟩:=D;rw[b2,Za];have b7:∀l∈Hm n (Z2 n p i b (b+1+k) a v),Jt F hF n l:=fun l hl=>by rw[(Zh8 hl).1];exact I
   have a6:=t.adds b7 W;obtain⟨s2,a8,a9⟩:=Zuo hW hT h3 ih a6 hp e1 e2 e3 (by omega) a a H T U S hd (b:Int) (by omega) hR (by omega) (L:=p.2.2.2.2.2.1++[ZR n i b (b+1+k) a]) rfl rfl (by omega);rw[a8,Za,Q];exact⟨s2,rfl,W.trans a9⟩
  case hend=>
   intro s M t;have:((b+1+((Zt n i).length - (b+1)):Nat):Int)=((Zt n i).length:Int):=by omega
   have P:Ue (((b+1+((Zt n i).length - (b+1)):Nat):Int)<((rn n (i:Int)).2.2.2.2.2.2.2.1.length:Int))=false:=Zr (by rw[this];show¬((Zt n i).length:Int)<((Zt n i).length:Int);omega);simp only[P,Zd]
end Q
