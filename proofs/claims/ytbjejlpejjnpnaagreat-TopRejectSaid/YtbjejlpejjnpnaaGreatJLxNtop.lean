/- Chapter 38: prices by the program and by the reference. -/
import Derived.KernelRfl
import Derived.Test.YtbjejlpejjnpnaaGreatJLwJa28top
import Derived.Test.YtbjejlpejjnpnaaGreatETsF
import Derived.Test.YtbjejlpejjnpnaaGreatLxPop
open BitVec renaming ofInt ->Vg,eq_of_toNat_eq ->Vab,ofInt_natCast ->Vfb,toNat_ofInt ->Vjb,toNat_ofNat ->Vkb,toNat_and ->Vtb,ofNat ->Vnd
open Bool renaming not_true ->Vd,and_eq_true ->Vi,not_eq_false' ->Vl,not_false ->Vu,or_eq_false_iff ->Vga,false_and ->Vic,false_eq_true ->Voc,or_true ->Vrc,and_false ->Vcd,true_and ->Vhd,and_true ->Vkd,false_or ->Vld
open Iff renaming rfl ->Vvc
open Int renaming toNat_natCast ->Vj,toNat_of_nonneg ->Vz,toNat ->Vea,le_refl ->Vna,fdiv ->Vxa,natCast_add ->Vhb,fdiv_eq_ediv_of_nonneg ->Vnb,le_trans ->Vyb,le_antisymm ->Vzc
open Go.IntKind renaming wrap ->Va,signed ->Vm,bits ->Vq,i64 ->Vs,u64 ->Vha
open List renaming getElem?_eq_getElem ->Vc,getElem_mem ->Ve,take_succ_eq_append_getElem ->Vf,length ->Vh,drop_eq_getElem_cons ->Vk,length_map ->Vn,range ->Vo,length_append ->Vp,replicate ->Vr,mem_singleton ->Vt,map_append ->Vv,take_append_drop ->Vx,foldl_append ->Vy,map_cons ->Vaa,mem_append ->Vca,append_nil ->Vda,mem_of_mem_drop ->Vfa,getElem_of_mem ->Via,take_length ->Vja,mem_flatMap ->Vka,append_assoc ->Vma,mem_of_mem_take ->Voa,length_cons ->Vpa,length_take ->Vqa,getElem?_eq_some_iff ->Vra,length_nil ->Vta,getElem?_map ->Vva,getElem?_set_self ->Vwa,map_eq_append_iff ->Vya,cons_append ->Vcb,perm_append_comm ->Vdb,getElem?_set_ne ->Vgb,flatMap_append ->Vib,take ->Vpb,pairwise_iff_getElem ->Vrb,getLast?_eq_getElem? ->Vsb,length_drop ->Vwb,any_eq_true ->Vxb,foldl_cons ->Vac,length_set ->Vcc,take_of_length_le ->Vec,set_append_right ->Vfc,mem_of_getElem? ->Vjc,map_eq_cons_iff ->Vkc,any_cons ->Vlc,take_succ_cons ->Vmc,set ->Vnc,filter_append ->Vpc,getElem?_take ->Vqc,drop_length ->Vuc,foldr_cons ->Vxc,nil_append ->Vyc,sum_append ->Vbd,drop_drop ->Vdd,take_take ->Ved,drop_take ->Vfd,mem_range ->Vgd,drop ->Vid,set_set ->Vmd,isEmpty ->Vod,map ->Vqd
open Nat renaming shiftRight_eq_div_pow ->Vw,le_refl ->Vba,or_assoc ->Vla,min_eq_left ->Vsa,lt_or_ge ->Vua,testBit_eq_decide_div_mod_eq ->Vza,zero_le ->Vbb,and_two_pow_sub_one_eq_mod ->Veb,add_sub_cancel ->Vlb,lt_of_le_of_lt ->Vmb,or_lt_two_pow ->Vob,mod_eq_of_lt ->Vub,mod_lt ->Vvb,zero_add ->Vzb,div_le_self ->Vbc,zero_or ->Vgc,le_of_lt ->Vsc,pow_succ ->Vtc,mul_assoc ->Vjd
open Option renaming bind ->Vb,isNone_iff_eq_none ->Vqb,map_some ->Vdc,getD ->Vhc,elim_some ->Vwc
open Prod renaming fst ->Vad
open Sum renaming elim ->Vpd
namespace Q
open Tr Go Dv
def Small(v:ZK):Prop:=(0<=v.2.2.1/\v.2.2.1<65536)/\(0<=v.2.2.2.1/\v.2.2.2.1<65536)
theorem Zem{a b:Int}(c:0<=a/\a<65536)(d:0<=b/\b<65536):0<=KN .i64 a b/\KN .i64 a b<65536:=by obtain⟨x,rfl⟩:∃x:Nat,a=(x:Int):=⟨_,(Vz c.1).symm⟩;obtain⟨y,rfl⟩:∃y:Nat,b=(y:Int):=⟨_,(Vz d.1).symm⟩;rw[HO (by omega) (by omega)];have:x ||| y<2 ^ 16:=Vob (n:=16) (by omega) (by omega);omega
theorem ZkC{n:Zf}(h:Wa n){x:Zs}(a:Ks n x=true):(0<=((Hu n x:Nat):Int)/\((Hu n x:Nat):Int)<65536)/\(0<=((2 ^ (Hr n x).2.1.toNat:Nat):Int)/\((2 ^ (Hr n x).2.1.toNat:Nat):Int)<65536):=by
 have d:=ZcS h a;obtain⟨_,_,c,b⟩:=Zal h a;have e:=Y2 b
 grind
theorem ZnC{n:Zf}(h:Wa n){x:Zs}(e:Ks n x=true){out:List ZK}(c:∀v∈out,Small v):∀v∈XL n x out,Small v:=by
 intro v a;unfold XL at a;split at a
 ·rename_i u d;unfold X1 at a;rcases List.mem_or_eq_of_mem_set a with a|rfl
  ·grind
  ·obtain⟨f,g⟩:=ZkC h e;have b:=c u (Vjc d);exact⟨Zem b.1 f,Zem b.2 g⟩
 grind
theorem Zgj{n:Zf}(h:Wa n):∀(L:List Zs) (rode:Bool) (out l:List ZK) (e:Int),K5 n L rode out=(l,e)->(∀v∈out,Small v)->∀v∈l,Small v
 |[],_,out,l,e,a,c=>by
  unfold K5 at a
  grind
 |x::L,rode,out,l,e,a,c=>by
  rw[Gq]at a;by_cases f:x.1=true/\Ks n x=false
  ·grind
  rw[Zg f]at a;by_cases g:Kw x=true/\(x.1=false\/rode=false)
  ·grind
  rw[Zg g]at a;by_cases c3:x.1=true
  ·rw[Zo c3]at a
   have d:Ks n x=true:=by
    grind
   refine Zgj h L true _ l e a ?_;split
   ·exact ZnC h d c
   ·intro v b;rcases Vca.1 b with b|b
    ·grind
    ·simp only[Vt]at b;subst b;exact ZkC h d
  ·rw[Zg c3]at a;exact Zgj h L false out l e a c
theorem Zq9(a b d:Int)(f:0<=d):F113 a b d=some (!GC a b d):=by
 unfold F113 GC
 have g:∀x:Int,0<=Va .u64 x:=fun x=>by simp [Va,Vq,Vm];omega
 rw[Zi (show¬d<0 by omega)];by_cases h:a<=b
 ·rw[Ze h];by_cases c:b<=a
  ·have e:a=b:=by omega
   subst e;rw[Ze c];have e0:Va .u64 (Va .u64 a - Va .u64 a)=0:=by rw[Int.sub_self];rfl
   grind
  ·rw[Zi c];simp only[Zd,Zc,Za];congr 1
   grind
 grind
def zF(s:List ZK):Nat:=s.foldl (fun a v=>a ||| v.2.2.1.toNat) 0
def mF(s:List ZK):Nat:=s.foldl (fun a v=>a ||| v.2.2.2.1.toNat) 0
theorem Zgh{f:ZK->Int} :∀(s:List ZK) (a:Nat),(∀v∈s,0<=f v/\f v<65536)->a<65536->s.foldl (fun a v=>a ||| (f v).toNat) a<65536
 |[],a,_,h=>h
 |v::s,a,b,h=>by rw[Vac];refine Zgh s _ (by grind) ?_;have c:=b v List.mem_cons_self;have:a ||| (f v).toNat<2 ^ 16:=Vob (n:=16) (by omega) (by omega);omega
theorem Rw{s:List ZK}(a:∀v∈s,Small v):zF s<65536:=Zgh (f:=fun v=>v.2.2.1) s 0 (fun v b=>(a v b).1) (by omega)
theorem ZgO{s:List ZK}(a:∀v∈s,Small v):mF s<65536:=Zgh (f:=fun v=>v.2.2.2.1) s 0 (fun v b=>(a v b).2) (by omega)
def Ge(p:JM)(s:List ZK):Bool:=
 decide ((s.length:Int)<=p.2.2.1) && (decide (((Wi 62 (zF s):Nat):Int)<=p.2.2.2.1) && (GC ((s[0]?).getD GX).1 ((s[s.length - 1]?).getD GX).1 p.2.2.2.2.1&&decide (Tr.qandNot .i64 ((mF s:Nat):Int) p.2.2.2.2.2.1=0)))
theorem Zit(a b:Int):decide (Tr.qandNot .u64 a (Va .u64 b)=0)=decide (Tr.qandNot .i64 a b=0):=by
 have d:Vg 64 (Va .u64 b)=Vg 64 b:=by apply Vab;rw[Vjb,Vjb];simp only[Va,Vq,Vm];omega
 unfold Tr.qandNot;show decide (Vha.wrap ((Vg 64 a &&& ~~~ Vg 64 (Va .u64 b)).toNat:Int)=0)=decide (Vs.wrap ((Vg 64 a &&& ~~~ Vg 64 b).toNat:Int)=0);rw[d];have c:=by omega
 generalize (Vg 64 a &&& ~~~ Vg 64 b).toNat=N at*;refine decide_eq_decide.2 ?_;simp only[Va,Vq,Vm]
 grind
theorem Zjh{p:JM}{s:List ZK}(e:∀v∈s,Small v)(c:0<s.length)(d:s.length<=100)(h:0<=p.2.2.2.2.1):F111 p s=some (Ge p s):=by
 unfold F111 Ge;rw[Zi (by omega)];have el:Va .i64 ((s.length:Int) - 1)=((s.length - 1:Nat):Int):=by rw[Zx (by omega) (by omega)];omega
 have m:idx s (0:Int)=some s[0]:=ZA (i:=0) c;have b:s.length - 1<s.length:=by omega
 simp only[Zc,el,ZA b,m,Za,Zq9 _ _ _ h];rw[Kq c,Kq b];by_cases g:p.2.2.1<(s.length:Int)
 ·grind
 rw[Zi g,Ze (by omega)]
 cases C:GC (s[0]).1 (s[s.length - 1]).1 p.2.2.2.2.1 with
 |false=>
  simp
 |true=>
  simp only[Vd,Zc,Za];refine KD (fun r:Int×Int=>r=(((zF s:Nat):Int),((mF s:Nat):Int))) ?_ ?_
  ·refine Kf s.length _ (fun i (t:Int×Int×Int)=>t=(((zF (s.take i):Nat):Int),((mF (s.take i):Nat):Int),(i:Int))) ?_ ?_ _ rfl
   ·rintro i _ a rfl;left;have j:=e _ (Ve a);have E:=Rw (s:=s.take i) (by grind);have G:=ZgO (s:=s.take i) (by grind);have f:zF (s.take (i+1))=zF (s.take i) ||| (s[i]).2.2.1.toNat:=by unfold zF;rw[Vf a,Vy];rfl
    have em:mF (s.take (i+1))=mF (s.take i) ||| (s[i]).2.2.2.1.toNat:=by unfold mF;rw[Vf a,Vy];rfl
    refine⟨_,?_,rfl⟩;rw[f,em];generalize zF (s.take i)=Z at*;generalize mF (s.take i)=M at*;simp only[ZL a,Zd,ZA a,Za,ZU a (by omega),F112,F2];generalize s[i]=v at*;obtain⟨⟨w,z⟩,A,B⟩:=j;obtain⟨x,k⟩:∃x:Nat,v.2.2.1=(x:Int):=by grind
    obtain⟨y,l⟩:∃y:Nat,v.2.2.2.1=(y:Int):=by grind
    have o:Va .u64 (x:Int)=(x:Int):=by simp [Va,Vq,Vm];omega
    have u:Va .u64 (y:Int)=(y:Int):=by simp [Va,Vq,Vm];omega
    rw[k,l,o,u,Za5 (by omega) (by omega),Za5 (by omega) (by omega)];simp
   simp
  ·rintro r rfl;have D:=Rw e
   have d:F1 ((zF s:Nat):Int)=some ((Wi 62 (zF s):Nat):Int):=by show lenF ((zF s:Nat):Int)=_;unfold lenF;rw[Ze ⟨by omega,by omega⟩,Vj,Zr3 (by omega)];rfl
   simp only[d,Za,F4,Zit]
   grind
theorem ZoR{z:Nat}(l:z<65536):F139 (z:Int)=some ((Wi 62 z:Nat):Int):=by
 unfold F139;refine KD (fun r=>r=((Wi 62 z:Nat):Int)) ?_ (by simp)
 have a:∀k,Wi k z<=k:=by
  intro k
  induction k with
  |zero=>exact Vba _
  |succ k m=>rw[Wi];omega
 refine Kf 62 _ (fun i (s:Int×Int)=>s=(((Wi i z:Nat):Int),(i:Int))) ?_ ?_ _ rfl
 ·rintro i _ j rfl;left;refine⟨_,?_,rfl⟩;have h:=a i
  have e:Y5 .i64 (z:Int) (i:Int)=some ((z >>> i:Nat):Int):=by unfold Y5;rw[Zg (by omega),Vj,show min i (Vs.bits)=i from Vsa (show i<=64 by omega),Vw,Vnb _ (by grind)];simp
  have d:z >>> i<=z:=by rw[Vw];exact Vbc _ _
  have c:ZB .i64 ((z >>> i:Nat):Int) 1=((z >>> i % 2:Nat):Int):=by
   unfold ZB
   have b:(Vg Vs.bits ((z >>> i:Nat):Int) &&& Vg Vs.bits 1).toNat=z >>> i % 2:=by rw[Vtb,Vfb,Vkb];show (z >>> i) % 2 ^ 64 &&& 1=z >>> i % 2;simp
   rw[b,Zx (by omega) (by omega)]
  have f:Va .i64 (((Wi i z:Nat):Int)+1)=((Wi i z+1:Nat):Int):=by rw[Zx (by omega) (by omega)];omega
  have g:Va .i64 ((i:Int)+1)=((i+1:Nat):Int):=by rw[Zx (by omega) (by omega)];omega
  rw[Ze (by omega)];simp only[Zd,e,Za,c,f,g];rw[Wi]
  grind
 simp
theorem ZmV(a b d:Int):F140 a b d=some (GC a b d):=by
 unfold F140 GC
 grind
theorem ZpO{p:JM}{l:List ZK}(K:∀v∈l,Small v){i k:Nat}(u:i<=k)(w:k<l.length)(J:l.length<=100):F132 p l (i:Int) (k:Int)=some (Ge p ((l.drop i).take (k+1 - i))):=by
 have g:((l.drop i).take (k+1 - i)).length=k+1 - i:=by grind
 have b:∀c,c<k+1 - i->((l.drop i).take (k+1 - i))[c]? =l[i+c]? :=by grind
 have d:∀v∈(l.drop i).take (k+1 - i),Small v:=by grind
 unfold F132 Ge;generalize I:(l.drop i).take (k+1 - i)=s at*;refine KD (fun r:Int×Int=>r=(((zF s:Nat):Int),((mF s:Nat):Int))) ?_ ?_
 ·refine Kf (k+1 - i) _ (fun c (t:Int×Int×Int)=>t=(((zF (s.take c):Nat):Int),((mF (s.take c):Nat):Int),((i+c:Nat):Int))) ?_ ?_ _ rfl
  ·rintro c _ o rfl;left;have a:c<s.length:=by omega
   have e:=b c o;rw[Vc a,Vc (by omega)]at e;have e:=(Option.some.inj e).symm;have z:=d _ (Ve a);have N:=Rw (s:=s.take c) (by grind);have O:=ZgO (s:=s.take c) (by grind);have j:zF (s.take (c+1))=zF (s.take c) ||| (s[c]).2.2.1.toNat:=by unfold zF;rw[Vf a,Vy];rfl
   have em:mF (s.take (c+1))=mF (s.take c) ||| (s[c]).2.2.2.1.toNat:=by unfold mF;rw[Vf a,Vy];rfl
   have f:Va .i64 (((i+c:Nat):Int)+1)=((i+(c+1):Nat):Int):=by rw[Zx (by omega) (by omega)];omega
   refine⟨_,?_,rfl⟩;rw[j,em,Ze (show ((i+c:Nat):Int)<=(k:Int) by omega)];generalize zF (s.take c)=Z at*;generalize mF (s.take c)=M at*;simp only[Zd,ZA (show i+c<l.length by omega),Za,e,f];generalize s[c]=v at*;obtain⟨⟨D,E⟩,G,H⟩:=z;obtain⟨x,A⟩:∃x:Nat,v.2.2.1=(x:Int):=by grind
   obtain⟨y,B⟩:∃y:Nat,v.2.2.2.1=(y:Int):=by grind
   rw[A,B,HO (by omega) (by omega),HO (by omega) (by omega)];simp
  grind
 ·rintro r rfl;have C:=Rw d;have f:Va .i64 ((k:Int) - (i:Int))=((k - i:Nat):Int):=by rw[Zx (by omega) (by omega)];omega
  have h:Va .i64 (((k - i:Nat):Int)+1)=(s.length:Int):=by rw[Zx (by omega) (by omega)];omega
  have g0:((s[0]?).getD GX)=l[i]:=by grind
  have m:((s[s.length - 1]?).getD GX)=l[k]:=by grind
  rw[f,h,g0,m];simp only[ZoR C,Za,ZA (show i<l.length by omega),ZA w,ZmV]
  grind
end Q
namespace Q
open Tr Go Dv
theorem Zur(x:Int):Va .i64 x=(x+9223372036854775808) % 18446744073709551616 - 9223372036854775808:=by simp [Va,Vm,Vq];omega
theorem ZeO(j:Yh):F83 j=F138 j:=by
 unfold F83 F138;congr 2;funext s;congr 1;congr 1;funext x
 cases g:x.1 with
 |true=>simp
 |false=>
  simp only[Zc,Vu,Zd];by_cases d:x.2.2.2.2.2.2.1<0
  ·grind
  ·rw[show decide (x.2.2.2.2.2.2.1<0)=false from Zi d,show decide ((0:Int)<=x.2.2.2.2.2.2.1)=true from (by grind)];simp only[Zc,Zd];by_cases e:x.2.2.2.2.2.2.2.1<x.2.2.2.2.2.2.1
   ·grind
   ·rw[show decide (x.2.2.2.2.2.2.2.1<x.2.2.2.2.2.2.1)=false from Zi e,show decide (x.2.2.2.2.2.2.1<=x.2.2.2.2.2.2.2.1)=true from (by grind)];simp only[Zc,Zd,Za];by_cases f:(14400:Int)<Va .i64 (x.2.2.2.2.2.2.2.1 - x.2.2.2.2.2.2.1)
    ·grind
    ·rw[show decide ((14400:Int)<Va .i64 (x.2.2.2.2.2.2.2.1 - x.2.2.2.2.2.2.1))=false from Zi f,show decide (Va .i64 (x.2.2.2.2.2.2.2.1 - x.2.2.2.2.2.2.1)<=(14400:Int))=true from (by grind)];simp only[Zc,Zd]
     have:∀a b c:Int,Va .i64 (a+Va .i64 (b - c))=Va .i64 (Va .i64 (a+b) - c):=by intro a b c;simp only[Zur];omega
     simp_all
theorem Zqh{F:Ke}(h:(Js F).2=0):∀p∈F.1,0<=p.2.2.2.2.1:=by
 unfold Js at h;by_cases e:HI F=false
 ·grind
 rw[Zg e]at h;by_cases b:16<F.1.length
 ·grind
 rw[Zg b]at h;have g:=Za9 h;intro p f;obtain⟨i,d,rfl⟩:=Via f;have a:=g i d;unfold Ho at a;rw[Kq d]at a;obtain⟨_,_,c⟩:=GT.1 a;have c:Yz F.1[i]=true:=by grind
 unfold Yz at c
 grind
theorem Zsa(F:Ke)(p:JM)(l:List ZK)(i:Nat)(b:i<l.length)(g:l.length<=100)(e:0<=p.2.1/\p.2.1<=1000000)(f:0<=F.2.1/\F.2.1<=1000000):F136 F p l (i:Int)=some (HR F p l i):=by
 unfold F136 HR;have c:Va .i64 (p.2.1 - F.2.1)=p.2.1 - F.2.1:=Zx (by omega) (by omega)
 have em:Tr.imax 0 (p.2.1 - F.2.1)=if 0<p.2.1 - F.2.1 then p.2.1 - F.2.1 else 0:=rfl
 by_cases d:0<i
 ·have a:Va .i64 ((i:Int) - 1)=((i - 1:Nat):Int):=by rw[Zx (by omega) (by omega)];omega
  rw[Ze (by omega)];simp only[Zd,a,ZA (show i - 1<l.length by omega),ZA b,Za,ZmV]
  grind
 grind
theorem Zf1{F:Ke}(c:(Js F).2=0){l:List ZK}(g:∀v∈l,Small v)(f:l.length<=100){p i k:Nat}(b:p<F.1.length)(d:i<=k)(e:k<l.length):(ZN F l).cov p i k=Ge F.1[p] ((l.drop i).take (k+1 - i)):=by
 show RU ((F.1[p]?).getD p0) ((l.drop i).take (k+1 - i))=_;rw[Kq b];have a:((l.drop i).take (k+1 - i)).length=k+1 - i:=by grind
 have:=Zjh (p:=F.1[p]) (s:=(l.drop i).take (k+1 - i)) (by grind) (by omega) (by omega) (Zqh c _ (Ve b));unfold RU
 grind
abbrev XT:=Bool×Int×List Tk×Unit
def H4(c:Kx)(r:XT):Prop:=match c with
 |none=>r.1=false
 |some (s,t)=>r.1=true/\r.2.1=s/\r.2.2.1=t
def Yl(n:Nat)(f:Nat->Kx)(T:List XT):Prop:=T.length=n+1/\ ∀j,j<=n->∃r,T[j]? =some r/\H4 (f j) r
theorem H4.ok{s:Int}{t:List Tk}{r:XT}(h:H4 (some (s,t)) r):r.1=true/\r.2.1=s/\r.2.2.1=t:=h
theorem Yl.congr{n:Nat}{f g:Nat->Kx}{T:List XT}(h:Yl n f T)(e:∀j,j<=n->g j=f j):Yl n g T:=
 ⟨h.1,fun j a=>by rw[e j a];exact h.2 j a⟩
theorem Yl.set{n:Nat}{f:Nat->Kx}{T:List XT}(h:Yl n f T){i:Nat}(d:i<=n){c:Kx}{r:XT}(e:H4 c r):Yl n (Jm f i c) (T.set i r):=by
 refine⟨by rw[Vcc];exact h.1,fun j b=>?_⟩;unfold Jm;by_cases a:j=i
 ·subst a;rw[Zo rfl,Vwa (by rw[h.1];omega)]
  grind
 ·rw[Zg a,Vgb (Ne.symm a)];exact h.2 j b
theorem ZmC(f:Nat->Kx)(i:Nat):Jm f i (f i)=f:=by
 funext j;unfold Jm
 grind
theorem ZlR(L:Law)(i k:Nat)(cur:Kx):∀m,Gv L none i k cur m=cur
 |0=>rfl
 |m+1=>by rw[Gv,ZlR L i k cur m];rfl
def bz:XT:=(false,0,[],())
theorem Zsd{F:Ke}(Z:(Js F).2=0){l:List ZK}(hl:l.length<=8)(hs:∀v∈l,Small v){f:Nat->Kx}{T:List XT}(g:Yl l.length f T)(hB:Bd l.length f){i k p:Nat}(o:i<=k)(hk:k<l.length)(B:p<F.1.length){s:Int}{t:List Tk}(A:f (k+1)=some (s,t)):
 ∃X,(Vb (idx F.1 (p:Int)) fun x8=>
 Vb (F132 x8 l (i:Int) (k:Int)) fun x9=>
 bif !x9 then some (.inl (T,Va .i64 ((p:Int)+(1:Int))))
 else
 Vb (idx F.1 (p:Int)) fun G=>
 Vb (F136 F G l (i:Int)) fun a=>
 Vb (Zn (Va .i64 ((k:Int)+(1:Int))) (Vh T)) fun H=>
 Vb T[H]? fun e=>
 Vb
 (Vb (Zn (i:Int) (Vh T)) fun I=>
 Vb T[I]? fun J=>
 bif J.1 then
 Vb (Zn (i:Int) (Vh T)) fun K=>
 Vb T[K]? fun M=>
 bif decide (M.2.1<Va .i64 (a+e.2.1)) then some true
 else
 Vb (Zn (i:Int) (Vh T)) fun N=>
 Vb T[N]? fun O=>
 bif decide (Va .i64 (a+e.2.1)=O.2.1) then
 Vb (Zn (Va .i64 ((k:Int)+(1:Int))) (Vh T)) fun P=>
 Vb T[P]? fun Q=>
 Vb (Zn (i:Int) (Vh T)) fun R=>
 Vb T[R]? fun U=>
 some
 (decide
 ((↑(Vh U.2.2.1):Int)<=
 Va .i64 ((1:Int)+(↑(Vh Q.2.2.1):Int))))
 else some false
 else some false)
 fun V=>
 bif V then some (.inl (T,Va .i64 ((p:Int)+(1:Int))))
 else
 Vb (Zn (Va .i64 ((k:Int)+(1:Int))) (Vh T)) fun W=>
 Vb T[W]? fun u=>
 Vb (ZF (decide (Vh [((p:Int),(i:Int),(k:Int),a,())]+Vh u.2.2.1<=ZC)))
 fun _=>
 Vb (Zn (i:Int) (Vh T)) fun w=>
 Vb T[w]? fun _=>
 some
 (.inl
 (Vnc T w
 (true,Va .i64 (a+e.2.1),[((p:Int),(i:Int),(k:Int),a,())]++u.2.2.1,()),
 Va .i64 ((p:Int)+(1:Int)))))=(some (.inl (X,((p+1:Nat):Int))):Option ((List XT×Int) ⊕ List XT))/\Yl l.length (Jm f i (Gb (ZN F l) (f (k+1)) i k p (f i))) X:=by
 have hF:=ZbZ Z;have d:=hF.price _ (Ve B);have hm:=hF.many;obtain⟨b1,b2,b3⟩:=hB (k+1) s t (by omega) A;have e1:Va .i64 ((k:Int)+1)=((k+1:Nat):Int):=by rw[Zx (by omega) (by omega)];omega
 have e2:Va .i64 ((p:Int)+1)=((p+1:Nat):Int):=by rw[Zx (by omega) (by omega)];omega
 obtain⟨rk,E,h⟩:=g.2 (k+1) (by omega);obtain⟨r,D,b⟩:=g.2 i (by omega);rw[A]at h;obtain⟨c1,c2,c3⟩:=H4.ok h;have a1:=g.1;have z:Zn ((k+1:Nat):Int) T.length=some (k+1):=Kg (by omega);have y:Zn (i:Int) T.length=some i:=Kg (by omega)
 have C:F136 F F.1[p] l (i:Int)=some ((ZN F l).pr p i):=by
  rw[Zsa F F.1[p] l i (by omega) (by omega) d hF.disc];show _=some (HR F ((F.1[p]?).getD p0) l i)
  grind
 have a3:=Zcq hF (l:=l) (i:=i) (by assumption);have w1:Va .i64 ((ZN F l).pr p i+s)=(ZN F l).pr p i+s:=Zx (by omega) (by omega);have w2:Va .i64 ((1:Int)+(t.length:Int))=((1+t.length:Nat):Int):=by rw[Zx (by omega) (by omega)];omega
 simp only[ZA B,Za,e1,e2,ZpO hs o hk (by omega), <-Zf1 Z hs (by omega) B o hk,C,z,y,E,D,c2,c3,w1,w2];rw[A];unfold Gb;simp only
 cases a0:(ZN F l).cov p i k with
 |false=>
  refine⟨T,rfl,g.congr fun j hj=>?_⟩;simp only[Voc,if_false]
  rw[ZmC]
 |true=>
  simp only[Vd,Zc,if_true]
  have hx:(bif r.1 then bif decide (r.2.1<(ZN F l).pr p i+s) then some true else bif decide ((ZN F l).pr p i+s=r.2.1) then some (decide ((r.2.2.1.length:Int)<=((1+t.length:Nat):Int))) else some false else some false)=some (!DY (f i) ((ZN F l).pr p i+s) (1+t.length)):=by
   generalize (ZN F l).pr p i+s=S;generalize 1+t.length=c
   cases m:f i with
   |none=>
    rw[m]at b
    rw[show r.1=false from b];rfl
   |some x=>
    obtain⟨cs,Y⟩:=x;rw[m]at b;obtain⟨d1,d2,d3⟩:=H4.ok b;rw[d1,d2,d3];show _=some (!(decide (S<cs) || (decide (S=cs) &&decide (c<Y.length))));by_cases q1:cs<S
    ·rw[Ze q1,Zi (show¬S<cs by omega),Zi (by omega)];rfl
    ·rw[Zi q1];by_cases q2:S=cs
     ·rw[Ze q2,Zi (show¬S<cs by omega)];by_cases q3:c<Y.length
      all_goals grind
     ·rw[Zi q2,Ze (show S<cs by omega)];rfl
  rw[hx];simp only[Za]
  cases a2:DY (f i) ((ZN F l).pr p i+s) (1+t.length) with
  |false=>
   refine⟨T,rfl,g.congr fun j hj=>?_⟩;simp only[Voc,if_false]
   rw[ZmC]
  |true=>
   simp only[Vd,Zc]
   have hg:ZF (decide (Vh [((p:Int),(i:Int),(k:Int),(ZN F l).pr p i,())]+Vh t<=ZC))=some ():=by rw[Ze (by simp only[Vpa,Vta,ZC];omega)];rfl
   rw[hg];simp only[Za,if_true];exact⟨_,rfl,g.set (by omega) ⟨rfl,rfl,rfl⟩⟩
theorem Zlu{F:Ke}(H:(Js F).2=0){l:List ZK}(X:l.length<=8)(Z:∀v∈l,Small v):∃R,F134 F l=some R/\H4 (Kh (ZN F l) l.length 0) (R.2.2,R.1,R.2.1,()):=by
 have hF:=ZbZ H;have G:∀p i,p<(ZN F l).np->0<=(ZN F l).pr p i/\(ZN F l).pr p i<=1000000:=fun p i y=>Zcq hF y;have C:(ZN F l).n=l.length:=rfl;unfold F134;have w0:Va .i64 ((l.length:Int)+1)=((l.length+1:Nat):Int):=by rw[Zx (by omega) (by omega)];omega
 have S:ZF (decide ((0:Int)<=((l.length+1:Nat):Int)/\((l.length+1:Nat):Int)<=((l.length+1:Nat):Int)/\((l.length+1:Nat):Int)<=(ZC:Int)))=some ():=by
  have Y:(ZC:Int)=549755813888:=by rfl
  rw[Ze (by omega)];rfl
 have w:∀o:List XT,o=Vr (l.length+1) bz->Zn (l.length:Int) o.length=some l.length/\o[l.length]? =some bz:=by rintro o rfl;exact⟨Kg (by simp),by simp⟩
 obtain⟨r1,r2⟩:=w _ rfl;rw[w0];erw[S];simp only[Za,Vj];erw[r1];simp only[Za];erw[r2];simp only[Za]
 have key:∀(o:Option (List XT)) (k:List XT->Option (Int×List Tk×Bool)),(∃T,o=some T/\Yl l.length (Kh (ZN F l) l.length) T)->(∀T,Yl l.length (Kh (ZN F l) l.length) T->∃R,k T=some R/\H4 (Kh (ZN F l) l.length 0) (R.2.2,R.1,R.2.1,()))->∃R,Vb o k=some R/\H4 (Kh (ZN F l) l.length 0) (R.2.2,R.1,R.2.1,()):=by
  grind
 refine key _ _ (Kf l.length _ (fun c (s:List XT×Int)=>∃T,s=(T,(l.length:Int) - 1 - (c:Int))/\Yl l.length (Kh (ZN F l) c) T) ?_ ?_ _ ?_) ?_
 ·rintro c _ Q ⟨T,rfl,b⟩;left;obtain⟨i,U⟩:∃i:Nat,(l.length:Int) - 1 - (c:Int)=(i:Int):=⟨l.length - 1 - c,by omega⟩;have W:i<l.length:=by omega
  have V:i=l.length - (c+1):=by omega
  rw[U];rw[Ze (by omega)];simp only[Zd];refine Xr (fun h=>Yl l.length (Kh (ZN F l) (c+1)) h) ?_ ?_
  ·refine Kf (l.length - i) _ (fun m (s:List XT×Int)=>∃T,s=(T,((i+m:Nat):Int))/\Yl l.length (Jm (Kh (ZN F l) c) i (rowK (ZN F l) (Kh (ZN F l) c) i m)) T) ?_ ?_ _ ⟨T,rfl,b.congr fun j E=>?_⟩
   ·rintro m _ Y ⟨T,rfl,b⟩;left;have I:i+m<l.length:=by omega
    have z:Va .i64 (((i+m:Nat):Int)+1)=((i+m+1:Nat):Int):=by rw[Zx (by omega) (by omega)];omega
    have P:=b.1;have D:Zn ((i+m+1:Nat):Int) T.length=some (i+m+1):=Kg (by omega);obtain⟨r,J,d⟩:=b.2 (i+m+1) (by omega);rw[HV _ _ (by omega)]at d;simp only[ZL I,Zd,z,D,J,Za]
    cases f:Kh (ZN F l) c (i+m+1) with
    |none=>
     rw[f]at d;rw[show r.1=false from d];refine⟨_,rfl,T,rfl,?_⟩
     have e:rowK (ZN F l) (Kh (ZN F l) c) i (m+1)=rowK (ZN F l) (Kh (ZN F l) c) i m:=by rw[Dv.rowK,f,ZlR]
     grind
    |some x=>
     obtain⟨s,t⟩:=x;rw[f]at d;obtain⟨q1,_⟩:=H4.ok d;rw[q1];simp only[Vd,Zc];refine Xr (fun h=>Yl l.length (Jm (Kh (ZN F l) c) i (rowK (ZN F l) (Kh (ZN F l) c) i (m+1))) h) ?_ ?_
     ·refine Kf F.1.length _ (fun p (s:List XT×Int)=>∃T,s=(T,(p:Int))/\Yl l.length (Jm (Kh (ZN F l) c) i (Gv (ZN F l) (Kh (ZN F l) c (i+m+1)) i (i+m) (rowK (ZN F l) (Kh (ZN F l) c) i m) p)) T) ?_ ?_ _ ⟨T,rfl,b⟩
      ·rintro p _ y ⟨T,rfl,b⟩;left
       have B:Bd l.length (Jm (Kh (ZN F l) c) i (Gv (ZN F l) (Kh (ZN F l) c (i+m+1)) i (i+m) (rowK (ZN F l) (Kh (ZN F l) c) i m) p)):=by
        intro j K M E e;have g:=ZcK G c (by omega);by_cases a:j=i
        ·subst a;rw[Rs]at e;exact Zer (n:=l.length) (by grind) (by omega) (by omega) (g _) (Zep (by grind) g m (by omega)) p (show p<=F.1.length by omega) K M e
        ·rw[HV _ _ a]at e;exact g j K M e
       obtain⟨h,A,N⟩:=Zsd H X Z b B (i:=i) (k:=i+m) (p:=p) (by omega) I y (s:=s) (t:=t) (by rw[HV _ _ (by omega)];omega);simp only[ZL y,Zd];rw[z]at A;rw[show ((i+m+1:Nat):Int)=((i+m+1:Nat):Int) from rfl]at A;refine⟨_,A,h,rfl,?_⟩;rw[ZmD,Rs,HV _ _ (by omega)]at N
       assumption
      ·rintro _ ⟨T,rfl,b⟩;simp only[JE,Zc];exact⟨_,rfl,b⟩
     grind
   ·rintro _ ⟨T,rfl,b⟩;rw[show i+(l.length - i)=l.length by omega];simp only[JE,Zc];refine⟨_,rfl,b.congr fun j E=>?_⟩;rw[Kh];by_cases a:j=i
    ·subst a;rw[Zo (by omega),Rs];rfl
    ·rw[Zg (by omega),HV _ _ a]
   ·by_cases a:j=i
    ·subst a;rw[Rs,ZhC (ZN F l) c (by omega) j (by omega)];rfl
    ·rw[HV _ _ a]
  ·intro h O;have z:Va .i64 ((i:Int) - 1)=(l.length:Int) - 1 - ((c+1:Nat):Int):=by rw[Zx (by omega) (by omega)];omega
   grind
 ·grind
 ·refine⟨(Vr (l.length+1) bz).set l.length (true,bz.2),?_,by simp,fun j E=>?_⟩
  ·rw[Zx (by omega) (by omega)];simp only[Int.natCast_zero,Int.sub_zero];rfl
  ·rw[Kh];by_cases u:j=l.length
   ·subst u;rw[Zo C.symm,Vwa (by simp)];exact⟨_,rfl,rfl,rfl,rfl⟩
   ·rw[Zg (by omega),Vgb (Ne.symm u),List.getElem?_replicate,Zo (by omega)];exact⟨_,rfl,rfl⟩
 ·intro T b;obtain⟨r,J,Q⟩:=b.2 0 (Vbb _);have hb:Zn (0:Int) T.length=some 0:=Kg (i:=0) (by grind)
  simp_all
end Q
namespace Q
open Tr Go Dv
theorem ZtT{F:Ke}{l:List ZK}(O:l.length<=8){T:List XW}(D:XH (Kh (ZN F l) l.length) T):∀(m i:Nat) (acc:List Tk),l.length - i=m->i<=l.length->acc.length<=i->∀(t:List Tk),(∃s,Kh (ZN F l) l.length i=some (s,t))->run
 (fun d:List Tk×Int=>
 bif decide (d.2<(↑(Vh l):Int)) then
 Vb (Zn d.2 (9:Nat)) fun h=>
 Vb T[h]? fun e=>
 Vb (ZF (decide (Vh d.1+Vh [e.2.2.2.1]<=ZC))) fun _=>
 Vb (Zn d.2 (9:Nat)) fun j=>
 Vb T[j]? fun o=>some (.inl (d.1++[e.2.2.2.1],Va .i64 (o.2.2.2.1.2.2.1+(1:Int))))
 else some (.inr d.1))
 (acc,(i:Int))=some (acc++t):=by
  intro m
  induction m using Nat.strongRecOn with
  |_ m H=>
   intro i acc P M v t x;by_cases g:i<l.length
   ·obtain⟨s,b⟩:=x;obtain⟨p,k,q,I,J,u,K,B,C⟩:=ZtR (ZN F l) (by assumption) s t b;obtain⟨r,E,w⟩:=D.2 i (by omega);rw[b]at w;obtain⟨_,_,_,y⟩:=GG.ok w;have a:=y _ _ u;have f:Zn (i:Int) 9=some i:=Kg (by omega);have N:k<l.length:=B;have A:Va .i64 ((k:Int)+1)=((k+1:Nat):Int):=by rw[Zx (by omega) (by omega)];omega
    have c:∀z:List Tk×Int,z=(acc++[((p:Int),(i:Int),((k:Nat):Int),(q:Int),())],((k+1:Nat):Int))->(bif decide ((i:Int)<(↑(Vh l):Int)) then
     Vb (Zn (i:Int) (9:Nat)) fun h=>
     Vb T[h]? fun e=>
     Vb (ZF (decide (Vh acc+Vh [e.2.2.2.1]<=ZC))) fun _=>
     Vb (Zn (i:Int) (9:Nat)) fun j=>
     Vb T[j]? fun o=>(some (.inl (acc++[e.2.2.2.1],Va .i64 (o.2.2.2.1.2.2.1+(1:Int)))):Option ((List Tk×Int) ⊕ List Tk))
     else some (.inr acc))=some (.inl z):=by
     rintro z rfl;simp only[ZL g,Zd,f,E,Za,a,A];rw[GU (by grind)];rfl
    rw[Hs (c _ rfl)];rw[H (l.length - (k+1)) (by omega) (k+1) _ rfl (by omega) (by grind) J ⟨I,C⟩,u];simp
   ·have:i=l.length:=by omega
    subst this;obtain⟨s,b⟩:=x;rw[ZhD (ZN F l) 0 l.length l.length (by assumption) (Vbb _) (Vba _),Kh,Zo (by rfl)]at b;have G:t=[]:=by grind
    subst G;rw[Vda];exact XB (by simp)
theorem ZjL{F:Ke}(d:(Js F).2=0)(i:∀x∈F.1,x.1.length<=9223372036854775807)(l:List ZK)(m:l.length<=1000):
 (8<l.length/\F11 F l=some (0,[],33))\/(l.length<=8/\Kh (ZN F l) l.length 0=none/\F11 F l=some (0,[],34))\/(l.length<=8/\ ∃s t,Kh (ZN F l) l.length 0=some (s,t)/\F11 F l=some (Hh F s,t,0)):=by
 have hF:=ZbZ d;unfold F11 F17;rw[Zgd F i];simp only[Za,Ze d,Vd,Zc];by_cases k:8<l.length
 ·grind
 ·right;rw[Zi (by omega)];simp only[Zc,Za,decide_true,Vd];obtain⟨T,h,e⟩:=Zp0 hF (show l.length<=8 by omega);rw[h];simp only[Za];obtain⟨r,j,b⟩:=e.2 0 (by omega);rw[show Vea (0:Int)=0 from rfl,j];simp only[Za]
  cases a:Kh (ZN F l) l.length 0 with
  |none=>
   left;rw[a]at b;rw[show r.1=false from b]
   grind
  |some x=>
   right;obtain⟨s,t⟩:=x;rw[a]at b;obtain⟨f,g,_,_⟩:=GG.ok b;have c:=ZtT (by omega) e l.length 0 [] rfl (Vbb _) (Vba _) t ⟨s,a⟩;refine⟨by omega,s,t,rfl,?_⟩;rw[f];simp only[Vd,Zc];refine KD (fun y=>y=t) ⟨_,c,rfl⟩ ?_;rintro y rfl;simp only[g,Zo9,Za]
theorem Zo6(F:Ke)(s:Int):F130 F s=some (Hh F s):=by
 unfold F130 Hh;by_cases h:0<F.2.2.2.1
 ·rw[Ze h];show some (Tr.imin F.2.2.2.1 s)=_;unfold Tr.imin
  grind
 grind
abbrev YH:=Int×Int×Int×Int×Int×Unit
theorem Zdw(n:Zf)(q:El ZR)(j:Yh)(u:W1 n)(I:j.1.length<=20)(H:∀x∈j.1,Hx x):∃c:YH×List Tk×Int,F78 n q j=some c/\F131 n q j=some c/\c.2.1.length<=100000:=by
 obtain⟨r,g,y,z⟩:=ZsK n j u I;unfold F78 F131;have K:=ZeP j (by omega) H;have A:F138 j=some (We j.1):=by rw[<-ZeO];omega
 rw[g,y];simp only[Za];by_cases D:r.2=0
 case neg=>
  simp_all
 rw[Ze D];simp only[Vd,Zc];rcases Zeo n j u (by omega) with ⟨m,_⟩|⟨d,_,m⟩
 ·grind
 rw[g]at m;have w:=(Option.some.inj m).symm;obtain⟨l,e⟩:=r;simp only at D z⊢;have E:∀v∈l,Small v:=Zgj d j.1 false [] l e w (by simp);rcases ZjL d.fare (fun x M=>u.prods x M) l (by omega) with ⟨k,b⟩|⟨k,J,b⟩|⟨k,s,t,h,b⟩
 ·rw[b,Ze (show (8:Int)<(l.length:Int) by omega)];simp
 ·rw[b,Zi (show¬(8:Int)<(l.length:Int) by omega)];obtain⟨R,o,f⟩:=Zlu d.fare k E;rw[J]at f;simp only[Zc,o,Za];rw[show R.2.2=false from f];simp
 ·rw[b,Zi (show¬(8:Int)<(l.length:Int) by omega)];obtain⟨R,o,f⟩:=Zlu d.fare k E;rw[h]at f;obtain⟨B,C,c3⟩:=H4.ok f;simp only at B C c3;simp only[Zc,o,Za,B,C,c3,Vd,decide_true,Zo6,K,A];have hF:=ZbZ d.fare;obtain⟨_,_,a⟩:=ZcK (L:=ZN n.2.2.2.2.2.1 l) (fun p i b=>Zcq hF b) l.length (Vba _) 0 s t h;have a:t.length<=l.length:=a;by_cases G:0<j.1.length
  ·rw[Ze (by omega)];have el:Va .i64 ((j.1.length:Int) - 1)=((j.1.length - 1:Nat):Int):=by rw[Zx (by omega) (by omega)];omega
   have N:idx j.1 (0:Int)=some j.1[0]:=ZA (i:=0) G;simp only[Zd,el,N,ZA (show j.1.length - 1<j.1.length by omega),Za]
   grind
  ·rw[Zi (by omega)];exact⟨_,rfl,rfl,by grind⟩
end Q
namespace Q
open Tr Go
theorem ZsY{α β τ:Type}{step:List β×Int->Option ((List β×Int) ⊕ τ)}(l:List α)(f:α->List β)(R:List β->τ)
 (a:∀i (b:i<l.length),step ((l.take i).flatMap f,(i:Int))=some (.inl ((l.take i).flatMap f++f l[i],((i+1:Nat):Int))))
 (c:step (l.flatMap f,(l.length:Int))=some (.inr (R (l.flatMap f)))):run step ([],(0:Int))=some (R (l.flatMap f)):=by
 refine Exists.elim (Kf (step:=step) l.length (fun r=>r=R (l.flatMap f)) (fun i st=>st=((l.take i).flatMap f,(i:Int))) ?_ ?_ ([],(0:Int)) (by simp)) ?_
 ·rintro i _ b rfl;left;refine⟨_,a i b,?_⟩;rw[Vf b,Vib];simp
 all_goals grind
theorem Zqy{α β:Type}(f:α->β)(l:List α):l.flatMap (fun x=>[f x])=l.map f:=by
 induction l with
 |nil=>rfl
 |cons x l a=>grind
theorem Zqw{α β:Type}{f:α->List β}(a:∀x,(f x).length<=1)(l:List α):(l.flatMap f).length<=l.length:=by
 induction l with
 |nil=>simp
 |cons x l b=>grind
abbrev Zq:=Int×Int×Int×Bool×Int×Int×Bool×Bool×Int×Bool×Unit
def Dx(n:Zf)(r:YN):YM:=(n.2.1[r.2.2.2.2.1.toNat]?).getD r0
def DG(n:Zf)(q:Zq)(r:YN):Bool:=Tr.useB q r (Dx n r)
def K2(n:Zf)(s:Int):G7:=(n.1[s.toNat]?).getD s0
def JW(n:Zf)(q:Zq)(s:Int):Bool:=(K2 n s).2.2.1|| !q.2.2.2.2.2.2.1
def WY(n:Zf)(q:Zq)(c:Wv):Wv:=if JW n q c.1 then c else(c.1,c.2.1,c.2.2.1,false,false,())
theorem Zhm{n:Zf}(a:Wa n){r:YN}(c:r∈n.2.2.1):idx n.2.1 r.2.2.2.2.1=some (Dx n r)/\Dx n r∈n.2.1:=by
 have h:=a.route _ c;have b:ZT r.2.2.2.2.1 n.2.1.length=true:=by simp [ZT];omega
 refine⟨Wy b r0,?_⟩;unfold Dx
 grind
theorem Zt4{n:Zf}(a:Wa n)(q:Zq){r:YN}(e:r∈n.2.2.1):F54 n q r=some (DG n q r):=by obtain⟨b,c⟩:=Zhm a e;have d:=(a.mode _ c).1;unfold F54 Tr.useF;rw[b];simp only[Za,show decide ((0:Int)<=(Dx n r).2.1)=true from Ze d,Vrc,Zd];rfl
theorem ZtD{n:Zf}(a:Wa n){r:YN}(d:r∈n.2.2.1){c:Wv}(b:c∈r.2.2.2.2.2.2.2.1):idx n.1 c.1=some (K2 n c.1):=by have h:=a.call _ d _ b;exact Wy (show ZT c.1 n.1.length=true by simp [ZT];omega) s0
theorem ZrS{n:Zf}(q:Zq){s:Int}(h:idx n.1 s=some (K2 n s)):F53 n q s=some (JW n q s):=by
 unfold F53;rw[h];simp only[Za];unfold JW
 grind
theorem ZpC{n:Zf}(d:Wa n)(q:Zq){r:YN}(g:r∈n.2.2.1):F52 n q r.2.2.2.2.2.2.2.1=some (r.2.2.2.2.2.2.2.1.map (WY n q)):=by
 have o:=(d.many _ g).2;unfold F52;rw[ZsY r.2.2.2.2.2.2.2.1 (fun c=>[WY n q c]) id ?_ ?_]
 ·simp only[Za,id,Zqy,Vn];generalize p:r.2.2.2.2.2.2.2.1.map (WY n q)=m;have a:m.length=r.2.2.2.2.2.2.2.1.length:=by grind
  rw[<-a]
  have k:Zn (m.length:Int) (m.length+1)=some m.length:=by unfold Zn;rw[Zo (by omega)];simp
  have l:sliceB m.length m.length none (some (m.length:Int))=some (0,m.length):=by unfold sliceB;simp
  grind
 ·intro i b;have j:=Ve b;simp only[ZL b,Zd,ZA b,Za];rw[ZrS q (ZtD d g j)];have h:=Zqw (f:=fun c=>[WY n q c]) (by simp) (r.2.2.2.2.2.2.2.1.take i);rw[Vqa]at h;simp only[Za]
  have e:(bif !JW n q (r.2.2.2.2.2.2.2.1[i]).1 then some (((r.2.2.2.2.2.2.2.1[i]).1,(r.2.2.2.2.2.2.2.1[i]).2.1,(r.2.2.2.2.2.2.2.1[i]).2.2.1,false,false,(r.2.2.2.2.2.2.2.1[i]).2.2.2.2.2):Wv) else some r.2.2.2.2.2.2.2.1[i])=some (WY n q r.2.2.2.2.2.2.2.1[i]):=by
   unfold WY
   grind
  erw[e];simp only[Za];rw[GU (by grind),ZU b (by omega)];rfl
 simp
structure Few (n:Zf):Prop where
 stops:n.1.length<=4096
 routes:n.2.1.length<=4096
 runs:n.2.2.1.length<=4096
 links:n.2.2.2.1.length<=4096
 paths:n.2.2.2.2.1.length<=4096
 prods:n.2.2.2.2.2.1.1.length<=4096
 calls:∀r∈n.2.2.1,r.2.2.2.2.2.2.2.1.length<=4096
theorem RZ{α:Type}(l:List α)(h:l.length<=4096):(Vb (ZF (decide (Vh ([]:List Unit)+Vh l<=ZC))) fun _=>
 Vb (Zn (↑(Vh ([]++l)):Int) (Vh ([]++l)+(1:Nat))) fun a=>
 Vb (sliceB (Vh ([]++l)) a none (some (↑(Vh ([]++l)):Int))) fun b=>some (Vpb b.2 ([]++l)))=some l:=by
  have e0:ZF (decide (Vh ([]:List Unit)+Vh l<=ZC))=some ():=by
   unfold ZF ZC
   grind
  have c:Zn (l.length:Int) (l.length+1)=some l.length:=by unfold Zn;grind
  have d:sliceB l.length l.length none (some (l.length:Int))=some (0,l.length):=by unfold sliceB;simp
  grind
theorem Zpu{n:Zf}(h:Few n):F88 n=some n:=by
 unfold F88;have k:F99 n.1=some n.1:=RZ n.1 h.stops;have d:F97 n.2.1=some n.2.1:=RZ n.2.1 h.routes;have f:F98 n.2.2.1=some n.2.2.1:=RZ n.2.2.1 h.runs;have b:F95 n.2.2.2.1=some n.2.2.2.1:=RZ n.2.2.2.1 h.links;have c:F94 n.2.2.2.2.1=some n.2.2.2.2.1:=RZ n.2.2.2.2.1 h.paths;have j:F96 n.2.2.2.2.2.1.1=some n.2.2.2.2.2.1.1:=RZ n.2.2.2.2.2.1.1 h.prods;rw[k,d,f,b,c];simp only[Za];refine KD (fun r:Zf=>r=(n.1,n.2.1,n.2.2.1,n.2.2.2.1,n.2.2.2.2.1,n.2.2.2.2.2.1,())) (Kf n.2.2.1.length _ (fun i (st:Zf×Int)=>st=((n.1,n.2.1,n.2.2.1,n.2.2.2.1,n.2.2.2.2.1,n.2.2.2.2.2.1,()),(i:Int))) ?_ ?_ _ rfl) ?_
 ·rintro i _ a rfl;left;have g:F93 (n.2.2.1[i]).2.2.2.2.2.2.2.1=some (n.2.2.1[i]).2.2.2.2.2.2.2.1:=RZ _ (h.calls _ (Ve a));simp only[ZL a,Zd,Kg a,Za,Vc a,g];refine⟨_,rfl,?_⟩;rw[ZU a (by have:=h.runs;omega)];have e:Vnc n.2.2.1 i ((n.2.2.1[i]).1,(n.2.2.1[i]).2.1,(n.2.2.1[i]).2.2.1,(n.2.2.1[i]).2.2.2.1,(n.2.2.1[i]).2.2.2.2.1,(n.2.2.1[i]).2.2.2.2.2.1,(n.2.2.1[i]).2.2.2.2.2.2.1,(n.2.2.1[i]).2.2.2.2.2.2.2.1,(n.2.2.1[i]).2.2.2.2.2.2.2.2)=n.2.2.1:=List.set_getElem_self a
  grind
 all_goals grind
def Xc(n:Zf)(q:Zq)(r:YN):YN:=(r.1,r.2.1,r.2.2.1,r.2.2.2.1,r.2.2.2.2.1,r.2.2.2.2.2.1, !DG n q r,r.2.2.2.2.2.2.2.1.map (WY n q),())
def JX(n:Zf)(q:Zq):List Kj:=if q.2.2.2.2.2.2.1 then n.2.2.2.2.1.filter (fun p=>p.2.2.2.1) else n.2.2.2.2.1
def ZO(n:Zf)(q:Zq):Zf:=(n.1,n.2.1,n.2.2.1.map (Xc n q),n.2.2.2.1,JX n q,n.2.2.2.2.2.1,())
def Gw(n:Zf)(q:Zq)(i:Nat):List YN:=(n.2.2.1.take i).map (Xc n q)++n.2.2.1.drop i
theorem Zs7(n:Zf)(q:Zq){i:Nat}(a:i<=n.2.2.1.length):(Gw n q i).length=n.2.2.1.length:=by simp [Gw];omega
theorem Zs6(n:Zf)(q:Zq){i:Nat}(a:i<n.2.2.1.length):(Gw n q i)[i]? =some n.2.2.1[i]:=by
 unfold Gw
 grind
theorem Zs8(n:Zf)(q:Zq){i:Nat}(b:i<n.2.2.1.length):(Gw n q i).set i (Xc n q n.2.2.1[i])=Gw n q (i+1):=by
 unfold Gw;have a:((n.2.2.1.take i).map (Xc n q)).length=i:=by grind
 rw[Vfc _ _ (by omega),a,Nat.sub_self,Vk b,List.set_cons_zero,Vf b,Vv];simp
theorem ZnO{n:Zf}(d:Wa n)(hF:Few n)(q:Zq)(g:F31 n q=some 0):F51 n q=some (ZO n q,0):=by
 unfold F51;rw[g];simp only[Za,decide_true,Vd,Zc];rw[Zpu hF];simp only[Za];refine KD (fun r:Zf=>r=(n.1,n.2.1,n.2.2.1.map (Xc n q),n.2.2.2.1,n.2.2.2.2.1,n.2.2.2.2.2.1,())) (Kf n.2.2.1.length _ (fun i (st:Zf×Int)=>st=((n.1,n.2.1,Gw n q i,n.2.2.2.1,n.2.2.2.2.1,n.2.2.2.2.2.1,()),(i:Int))) ?_ ?_ _ (by rfl)) ?_
 ·rintro i _ a rfl;left;have e:=Ve a;have j:=Zs7 n q (Vsc a);have b:i<(Gw n q i).length:=by omega
  simp only[ZL a,Zd,ZA a,Za,Zt4 d q e,Kg b,Zs6 n q a,ZpC d q e];refine⟨_,?_,rfl⟩;rw[ZU a (by have:=hF.runs;omega)];have c:i<((Gw n q i).set i ((n.2.2.1[i]).1,(n.2.2.1[i]).2.1,(n.2.2.1[i]).2.2.1,(n.2.2.1[i]).2.2.2.1,(n.2.2.1[i]).2.2.2.2.1,(n.2.2.1[i]).2.2.2.2.2.1, !DG n q n.2.2.1[i],(n.2.2.1[i]).2.2.2.2.2.2.2)).length:=by grind
  erw[Kg c];simp only[Za];erw[Vwa b];simp only[Za];erw[Vmd];congr 2;have:=Zs8 n q a;rw[<-this];rfl
 ·rintro _ rfl;refine⟨_,by simp only[JE,Zc];rfl,?_⟩;simp [Gw]
 ·rintro _ rfl;unfold ZO JX
  cases h:q.2.2.2.2.2.2.1 with
  |false=>rfl
  |true=>
   simp only[Zd,if_true];refine KD (fun r:Zf=>r=(n.1,n.2.1,n.2.2.1.map (Xc n q),n.2.2.2.1,n.2.2.2.2.1.filter (fun p=>p.2.2.2.1),n.2.2.2.2.2.1,())) (Kf n.2.2.2.2.1.length _ (fun i (st:Zf×Int)=>st=((n.1,n.2.1,n.2.2.1.map (Xc n q),n.2.2.2.1,(n.2.2.2.2.1.take i).filter (fun p=>p.2.2.2.1),n.2.2.2.2.2.1,()),(i:Int))) ?_ ?_ _ (by simp)) ?_
   ·rintro i _ a rfl;left;have f:=List.length_filter_le (fun p:Kj=>p.2.2.2.1) (n.2.2.2.2.1.take i);rw[Vqa]at f;have k:=hF.paths;simp only[ZL a,Zd,ZA a,Za];rw[ZU a (by omega),Vf a,Vpc]
    cases l:(n.2.2.2.2.1[i]).2.2.2.1 with
    |false=>
     grind
    |true=>
     simp only[Zd];rw[GU (by grind)]
     grind
   all_goals simp
def qB(k:Nat)(q:Zq):Bool:=ZT q.1 k&& (ZT q.2.1 k&& (decide (0<=q.2.2.1/\q.2.2.1<=3155932800) && (decide (0<=q.2.2.2.2.1/\q.2.2.2.2.1<=8) && (decide (0<=q.2.2.2.2.2.1/\q.2.2.2.2.2.1<=86400) && (decide (0<=q.2.2.2.2.2.2.2.2.1/\q.2.2.2.2.2.2.2.2.1<=255) && !(q.2.2.2.2.2.2.2.2.2.1&&q.2.2.2.1))))))
theorem ZmT(x a b:Int):F50 x a b=some (decide (a<=x/\x<=b)):=YZ x a b
theorem R2(x a b:Int):F150 x a b=some (decide (a<=x/\x<=b)):=YZ x a b
theorem ZmW(x:Int){m:Nat}(a:m<=9223372036854775807):F50 x 0 (Va .i64 ((m:Int) - 1))=some (ZT x m):=Zb6 x a
theorem ZaT(x:Int){m:Nat}(a:m<=9223372036854775807):F150 x 0 (Va .i64 ((m:Int) - 1))=some (ZT x m):=Zb6 x a
theorem Zt5(k:Nat)(a:k<=9223372036854775807)(q:Zq):F145 (k:Int) q=some (qB k q):=by
 unfold F145 qB;simp only[R2];rw[show decide ((0:Int)<=q.1/\q.1<=Va .i64 ((k:Int) - 1))=ZT q.1 k from Option.some.inj ((R2 _ _ _).symm.trans (ZaT q.1 a)),show decide ((0:Int)<=q.2.1/\q.2.1<=Va .i64 ((k:Int) - 1))=ZT q.2.1 k from Option.some.inj ((R2 _ _ _).symm.trans (ZaT q.2.1 a))]
 grind
open Classical in
noncomputable def Yt(n:Zf)(q:Zq):Int:=if Whole n then(if qB n.1.length q=true then 0 else 22) else 21
theorem ZaF{n:Zf}{q:Zq} :Yt n q=0↔Whole n/\qB n.1.length q=true:=by
 unfold Yt
 grind
open Classical in
theorem GA{n:Zf}(h:W1 n):F121 n=some (decide (Whole n)):=by obtain⟨r,_,a,b⟩:=ZfN n h;unfold F121;rw[a];simp only[Za];congr 1;exact decide_eq_decide.2 b
open Classical in
theorem Zi5{n:Zf}(h:W1 n)(q:Zq):F143 n q=some (Yt n q):=by
 unfold F143 Yt;rw[GA h];simp only[Za];by_cases a:Whole n
 ·rw[Ze a,Zo a];have b:=a.sound.stops;simp only[Vd,Zc];rw[Zt5 n.1.length (by omega)];simp only[Za]
  cases qB n.1.length q<;>rfl
 ·rw[Zi a,Zg a];rfl
theorem ZbR{n:Zf}(h:W1 n)(q:Zq):F31 n q=some (Yt n q):=by
 obtain⟨r,c,_,d⟩:=ZfN n h;unfold F31 Yt;rw[c];simp only[Za];by_cases a:Whole n
 ·rw[Ze (d.2 a),Zo a];have b:n.1.length<=9223372036854775807:=by have:=a.sound.stops;omega
  simp only[Vd,Zc,ZmT];rw[show decide ((0:Int)<=q.1/\q.1<=Va .i64 ((n.1.length:Int) - 1))=ZT q.1 n.1.length from Option.some.inj ((R2 _ _ _).symm.trans (ZaT q.1 b)),show decide ((0:Int)<=q.2.1/\q.2.1<=Va .i64 ((n.1.length:Int) - 1))=ZT q.2.1 n.1.length from Option.some.inj ((R2 _ _ _).symm.trans (ZaT q.2.1 b))];unfold qB;simp only[Za]
  grind
 grind
theorem Zpx{c l:List Kj}(h:Xs c l=true):c=l:=by
 unfold Xs at h;rw[Vi,KL,Vqb]at h;obtain⟨e,a⟩:=h;have a:=WL.1 a;refine List.ext_getElem e fun i d b=>?_;have:=a i d;unfold RX at this;rw[Kq d,Kq b]at this
 have f:sameF c[i] l[i]=true:=by
  grind
 unfold sameF at f
 grind
theorem Zpy(l:List Kj):Xs l l=true:=by unfold Xs;rw[Vi,KL,Vqb];refine⟨rfl,WL.2 fun i a=>?_⟩;unfold RX sameF;simp
theorem Zg5{k:Nat}{l:List Kj} :(∀i,i<l.length->K8 k l i=0)↔(∀p∈l,YC k p=false/\YD p=false)/\l.Pairwise fun a b=>JG a≠JG b:=by
 constructor
 ·intro h;refine⟨fun p o=>?_,Vrb.2 fun i j c f d e=>?_⟩
  ·obtain⟨i,c,rfl⟩:=Via o;have:=Zai (h i c)
   grind
  ·have:=(Zai (h j f)).2.2;refine this ⟨i,d,?_⟩
   grind
 ·rintro ⟨g,m⟩ i c;obtain⟨a,b⟩:=g _ (Ve c);unfold K8;rw[Kq c,Zg (by grind),Zg (by grind),Zg];rintro ⟨j,f,e⟩;rw[Kq (by omega)]at e;exact Vrb.1 m j i (by omega) c f e
theorem ZjC{α β:Type}(p:β->Bool)(f:α->List β)(l:List α):(l.flatMap f).filter p=l.flatMap fun x=>(f x).filter p:=by
 induction l with
 |nil=>rfl
 |cons x l a=>grind
theorem Zq0(a b:Nat)(d f:Int):(Jt a b d f).filter (fun p=>p.2.2.2.1)=Jt a b f f:=by
 unfold Jt
 grind
theorem ZnL(it:Nat->Nat->List Jz)(n m:Nat):(WJ it n m).filter (fun p=>p.2.2.2.1)=WJ (fun a b=>(it a b).filter (fun p=>p.2.2.2.1)) n m:=by
 unfold WJ Xz;rw[ZjC];congr 1;funext a;rw[ZjC]
 grind
theorem ZqF{k:Nat}(g:k<=64){l:List Kj}(s:l.length<=4096)(x:∀i,i<l.length->K8 k l i=0)(G:∀c,F117 l (k:Int)=some c->Xs c l=true):
 (∀i,i<(l.filter fun p=>p.2.2.2.1).length->K8 k (l.filter fun p=>p.2.2.2.1) i=0)/\ ∀c,F117 (l.filter fun p=>p.2.2.2.1) (k:Int)=some c->Xs c (l.filter fun p=>p.2.2.2.1)=true:=by
 obtain⟨H,I⟩:=Zg5.1 x;have f:∀i,i<(l.filter fun p=>p.2.2.2.1).length->K8 k (l.filter fun p=>p.2.2.2.1) i=0:=Zg5.2 (by grind);refine⟨f,fun c h=>?_⟩;have hF:=Zgg x;have d:=Zgg f;have e:(l.filter fun p=>p.2.2.2.1).length<=4096:=by grind
 obtain⟨c0,A,B,_⟩:=ZfO g hF s;obtain⟨o,C,D,_⟩:=ZfO g d e;have y:=ZfP g hF s (fun a b=>(Zdy hF a b).imp id fun h=>h.2);have z:=ZfP g d e (fun a b=>(Zdy d a b).imp id fun h=>h.2);rw[A]at y;rw[C]at z;have e0:=Zpx (G c0 B);obtain rfl:o=c:=Option.some.inj (D.symm.trans h)
 have r:∀free,Ki (l.filter fun p=>p.2.2.2.1) free=Ki l true:=by
  intro free;funext u v w;refine propext ⟨fun⟨p,t,_,h⟩=>?_,fun⟨p,t,E,h⟩=>?_⟩
  ·obtain⟨j,m⟩:=List.mem_filter.1 t;exact⟨p,j,fun _=>m,h⟩
  ·have:=E rfl;exact⟨p,by grind,fun _=>this,h⟩
 have key:o=l.filter fun p=>p.2.2.2.1:=by
  rw[Option.some.inj z]
  conv=>rhs;rw[<-e0,Option.some.inj y]
  rw[ZnL,r,r];congr 1;funext a b;exact(Zq0 a b _ _).symm
 rw[key];exact Zpy _
theorem Zdt(n:Zf)(q:Zq)(l:List Wv)(i:Nat):(((l.map (WY n q))[i]?).getD c0).1=((l[i]?).getD c0).1/\(((l.map (WY n q))[i]?).getD c0).2.1=((l[i]?).getD c0).2.1/\(((l.map (WY n q))[i]?).getD c0).2.2.1=((l[i]?).getD c0).2.2.1:=by
 rw[Vva]
 cases l[i]? with
 |none=>simp
 |some c=>
  simp only[Vdc,Option.getD_some];unfold WY
  grind
theorem ZoZ(n:Zf)(q:Zq)(l:List Wv)(k lo a:Int):Xf (l.map (WY n q)) k lo a=Xf l k lo a:=by
 have h:JV (l.map (WY n q)) k lo a=JV l k lo a:=by
  funext i;obtain⟨b,c,d⟩:=Zdt n q l i;obtain⟨e,f,g⟩:=Zdt n q l (i - 1);unfold JV ZbO ZbP ZbQ
  grind
 unfold Xf
 grind
theorem ZlJ(n:Zf)(q:Zq)(a:Int):(rn (ZO n q) a).2.2.2.2.2.2.2.1=(rn n a).2.2.2.2.2.2.2.1.map (WY n q):=by
 unfold rn;show (((n.2.2.1.map (Xc n q))[a.toNat]?).getD u0).2.2.2.2.2.2.2.1=_;rw[Vva]
 cases n.2.2.1[a.toNat]? <;>rfl
theorem Zrq(n:Zf)(q:Zq)(i:Nat):WR (ZO n q) i=WR n i:=by have a:(ZO n q).2.2.1.length=n.2.2.1.length:=Vn ..;unfold WR YT HF;simp only[ZlJ,Vn,a];have b:∀(l:List Wv) (x:Int),(cl (l.map (WY n q)) x).1=(cl l x).1:=fun l x=>(Zdt n q l _).1;simp only[b];rfl
theorem ZsS(n:Zf)(q:Zq){i:Nat}(f:i<n.2.2.1.length):XA (ZO n q) i=XA n i:=by
 have c:∀j,j<n.2.2.1.length->((ZO n q).2.2.1[j]?).getD u0=Xc n q ((n.2.2.1[j]?).getD u0):=by
  intro j a;show ((n.2.2.1.map (Xc n q))[j]?).getD u0=_
  grind
 unfold XA;rw[c i f]
 have d:(∃j,j<i/\runK (((ZO n q).2.2.1[j]?).getD u0)=runK (Xc n q ((n.2.2.1[i]?).getD u0)))↔∃j,j<i/\runK ((n.2.2.1[j]?).getD u0)=runK ((n.2.2.1[i]?).getD u0):=by
  constructor
  ·rintro ⟨j,a,e⟩;rw[c j (by omega)]at e;exact⟨j,a,e⟩
  ·rintro ⟨j,a,e⟩;refine⟨j,a,?_⟩;rw[c j (by omega)];exact e
 have b:Xf (Xc n q ((n.2.2.1[i]?).getD u0)).2.2.2.2.2.2.2.1 ((ZO n q).1.length:Int) 0 3155932800=Xf ((n.2.2.1[i]?).getD u0).2.2.2.2.2.2.2.1 (n.1.length:Int) 0 3155932800:=ZoZ n q _ _ _ _;simp only[b,d];rfl
theorem Zfu{n:Zf}(q:Zq)(e:n.2.2.2.2.1.length<=4096)(h:Whole n):Whole (ZO n q):=by
 have a:(ZO n q).2.2.1.length=n.2.2.1.length:=Vn ..
 have d:(∀i,i<(JX n q).length->K8 n.1.length (JX n q) i=0)/\ ∀c,F117 (JX n q) (n.1.length:Int)=some c->Xs c (JX n q)=true:=by
  unfold JX;split
  ·exact ZqF h.sound.stops e (WL.1 h.q) h.w
  ·exact⟨WL.1 h.q,h.w⟩
 refine⟨h.s,h.t,by rw[a];exact h.u,?_,h.v,?_,WL.2 d.1,d.2,h.z⟩
 ·rw[a];exact WL.2 fun i b=>by rw[ZsS n q b];exact WL.1 h.f i b
 ·exact WL.2 fun i b=>by rw[Zrq];exact WL.1 h.g i b
end Q
namespace Q
open Tr Go
def Zm4(n:Zf)(l:List Wv)(j:Nat):Nat:=2 ^ (K2 n ((l[j]?).getD c0).1).2.1.toNat
theorem ZtJ{n:Zf}(h:Wa n){a:Int}(d:0<=a)(e:a<(n.1.length:Int)):idx n.1 a=some (K2 n a)/\0<=(K2 n a).2.1/\(K2 n a).2.1<16:=by
 have c:ZT a n.1.length=true:=by unfold ZT;grind
 refine⟨Wy c s0,?_⟩;have b:a.toNat<n.1.length:=by omega
 unfold K2;rw[Kq b];exact h.zone _ (Ve b)
theorem Zuz{n:Zf}(h:Wa n){x:Zs}(o:Ks n x=true):F141 n x=some ((zN n (KH n x) x.2.2.1.toNat (x.2.2.2.1.toNat+1 - x.2.2.1.toNat):Nat):Int):=by
 unfold Ks at o;simp only[Vi,KL]at o;obtain⟨w,y,p,z⟩:=o;have v:=Du w;have f:=(h.many _ v).2;have t:∀c∈KH n x,0<=c.1/\c.1<(n.1.length:Int):=h.call _ v;have e:idx n.2.2.1 x.2.1=some (rn n x.2.1):=Wy w u0;unfold F141;rw[e];simp only[Za];have d:(rn n x.2.1).2.2.2.2.2.2.2.1=KH n x:=rfl;simp only[d]at f⊢;generalize KH n x=l at*;obtain⟨a,r⟩:∃a:Nat,x.2.2.1=(a:Int):=⟨x.2.2.1.toNat,by omega⟩;obtain⟨b,s⟩:∃b:Nat,x.2.2.2.1=(b:Int):=⟨x.2.2.2.1.toNat,by omega⟩;rw[r]at y p;rw[s]at p z;rw[r,s];simp only[Vj];rw[Jl (n:=b+1 - a) (fun i (st:Int×Int)=>st=(((zN n l a i:Nat):Int),((a+i:Nat):Int))) (fun _=>0) (fun _=>((zN n l a (b+1 - a):Nat):Int)) ((zN n l a (b+1 - a):Nat):Int) ?_ ?_ ?_ ((0:Int),(a:Int)) rfl]
 ·unfold pick
  grind
 ·rintro i _ B rfl _;have u:a+i<l.length:=by omega
  have g:=t _ (Ve u);obtain⟨k,m,j⟩:=ZtJ h g.1 g.2;refine⟨(((zN n l a (i+1):Nat):Int),((a+(i+1):Nat):Int)),?_,rfl⟩;have A:Va .i64 (((a+i:Nat):Int)+1)=((a+(i+1):Nat):Int):=by rw[Zx (by omega) (by omega)];omega
  simp only[Ze (show ((a+i:Nat):Int)<=(b:Int) by omega),Zd,ZA u,Za,k,Dz m j,A];rw[HO (Zbq h t (a:=a) i (by omega)) (Y2 j)]
  have:zN n l a (i+1)=zN n l a i ||| 2 ^ (K2 n l[a+i].1).2.1.toNat:=by
   show zN n l a i ||| Zm4 n l (a+i)=_;unfold Zm4
   grind
  grind
 all_goals grind
theorem Zeg{c d:Bool}{e:Int}{K:Option Int}{k:Int}(h:K=some k):(Vb (bif c then some true else some d) fun x=>bif x then some e else K)=some (bif c||d then e else k):=by
 grind
theorem H8{c d:Bool}{e:Int}{K:Option Int}{k:Int}(h:K=some k):(Vb (bif c then some d else some false) fun x=>bif x then some e else K)=some (bif c&&d then e else k):=by
 grind
theorem HN{c:Bool}{e:Int}{K:Option Int}{k:Int}(h:K=some k):(bif c then some e else K)=some (bif c then e else k):=by
 grind
theorem Ga{o:Option Bool}{c:Bool}{e:Int}{K:Option Int}{k:Int}(a:o=some c)(h:K=some k):(Vb o fun x=>bif x then some e else K)=some (bif c then e else k):=by
 grind
theorem Kt{c:Bool}{e k:Int}(a:e≠0):(bif c then e else k)=0↔c=false/\k=0:=by
 grind
def Zd4(q:Zq)(t:YM):Bool:=decide (q.2.2.2.2.2.2.2.2.1=(0:Int)) ||decide (ZB .i64 (Vxa q.2.2.2.2.2.2.2.2.1 (2 ^ (min (Vea t.2.1) 64))) 1=1)
theorem Zsn(a:Int):ZB .i64 a 1=0\/ZB .i64 a 1=1:=by
 unfold ZB
 have h:(Vg Vs.bits a &&& Vg Vs.bits 1).toNat=(Vg Vs.bits a).toNat % 2:=by
  grind
 rw[h];have:(Vg Vs.bits a).toNat % 2=0\/(Vg Vs.bits a).toNat % 2=1:=by omega
 rcases this with h|h<;>rw[h]
 ·left;rfl
 ·right;rfl
theorem ZkI(q:Zq)(t:YM)(b:0<=t.2.1):(bif !decide (q.2.2.2.2.2.2.2.2.1=(0:Int)) then Vb (Y5 .i64 q.2.2.2.2.2.2.2.2.1 t.2.1) fun x=>some (decide (ZB .i64 x (1:Int)=(0:Int))) else some false)=some (!Zd4 q t):=by
 unfold Zd4
 have a:Y5 .i64 q.2.2.2.2.2.2.2.2.1 t.2.1=some (Vxa q.2.2.2.2.2.2.2.2.1 (2 ^ (min (Vea t.2.1) 64))):=by unfold Y5;rw[Zg (by omega)];rfl
 rw[a];simp only[Za]
 cases decide (q.2.2.2.2.2.2.2.2.1=(0:Int)) with
 |true=>rfl
 |false=>
  rcases Zsn (Vxa q.2.2.2.2.2.2.2.2.1 (2 ^ (min (Vea t.2.1) 64))) with h|h<;>rw[h]<;>rfl
def Y6(n:Zf)(q:Zq)(x:Zs):Int:=
 bif !decide ((cl (KH n x) x.2.2.1).1=x.2.2.2.2.1) || !decide ((cl (KH n x) x.2.2.2.1).1=x.2.2.2.2.2.1) then 24 else
 bif !decide ((cl (KH n x) x.2.2.1).2.2.1=x.2.2.2.2.2.2.1) || !decide ((cl (KH n x) x.2.2.2.1).2.1=x.2.2.2.2.2.2.2.1) then 10 else
 bif (rn n x.2.1).2.2.2.2.2.2.1 then 27 else
 bif q.2.2.2.2.2.2.1&& !(rn n x.2.1).2.2.2.2.2.1 then 29 else
 bif q.2.2.2.2.2.2.2.1&& !(Dx n (rn n x.2.1)).2.2.1 then 30 else
 bif !Zd4 q (Dx n (rn n x.2.1)) then 31 else
 bif !Kw x&& !(cl (KH n x) x.2.2.1).2.2.2.1 then 25 else
 bif !Kw x&& !JW n q x.2.2.2.2.1 then 29 else 0
theorem ZbX{n:Zf}{x:Zs}(a:Ks n x=true):idx n.2.2.1 x.2.1=some (rn n x.2.1)/\rn n x.2.1∈n.2.2.1/\idx (rn n x.2.1).2.2.2.2.2.2.2.1 x.2.2.1=some (cl (KH n x) x.2.2.1)/\idx (rn n x.2.1).2.2.2.2.2.2.2.1 x.2.2.2.1=some (cl (KH n x) x.2.2.2.1):=by
 unfold Ks at a;simp only[Vi,KL]at a;obtain⟨b,d,e,c⟩:=a;unfold KH at c
 refine⟨Wy b u0,Du b,Wy ?_ c0,Wy ?_ c0⟩<;> (unfold ZT;grind)
theorem Zk0{n:Zf}(q:Zq){s:Int}(h:ZT s n.1.length=true):F144 n q s=some (JW n q s):=by
 unfold F144 JW;rw[show idx n.1 s=some (K2 n s) from Wy h s0]
 grind
theorem ZsI{n:Zf}(a:Wa n)(q:Zq){x:Zs}(k:Ks n x=true)(i:ZT x.2.2.2.2.1 n.1.length=true):F153 n q x=some (Y6 n q x):=by
 obtain⟨b,d,e,f⟩:=ZbX k;obtain⟨g,h⟩:=Zhm a d;have j:=(a.mode _ h).1;unfold F153 Y6;rw[b];simp only[Za];rw[e,f,g];simp only[Za];refine Zeg (Zeg (HN (H8 (H8 (Ga (ZkI q _ j) (H8 (Ga (c:= !Kw x&& !JW n q x.2.2.2.2.1) ?_ rfl)))))));rw[Zk0 q i]
 grind
def Xh(x:Zs)(p:Kj):Bool:=decide (p.1=x.2.2.2.2.1) && (decide (p.2.1=x.2.2.2.2.2.1) &&decide (p.2.2.1=Va .i64 (x.2.2.2.2.2.2.2.1 - x.2.2.2.2.2.2.1)))
def XO(q:Zq)(p:Kj):Bool:=p.2.2.2.1|| !q.2.2.2.2.2.2.1
def Xl(n:Zf)(q:Zq)(x:Zs):Int:=bif n.2.2.2.2.1.any fun p=>Xh x p&&XO q p then 0 else bif n.2.2.2.2.1.any (Xh x) then 29 else 18
theorem HD{α:Type}{l:List α}{i:Nat}(h:i<l.length)(f:α->Bool):(l.take (i+1)).any f=((l.take i).any f||f l[i]):=by rw[Vf h,List.any_append];simp
theorem Zdf{α:Type}{l:List α}{i:Nat}(h:i<l.length){f:α->Bool}(a:f l[i]=true):l.any f=true:=by grind
theorem Zui{n:Zf}(g:n.2.2.2.2.1.length<=4096)(q:Zq)(x:Zs):F154 n q x=some (Xl n q x):=by
 unfold F154;refine KD (fun r:Int ⊕ Int=>Vpd id id r=Xl n q x) ?_ ?_
 ·refine Kf n.2.2.2.2.1.length _ (fun i (s:Int×Int)=>s=((bif (n.2.2.2.2.1.take i).any (Xh x) then 29 else 18),(i:Int))/\((n.2.2.2.2.1.take i).any fun p=>Xh x p&&XO q p)=false) ?_ ?_ _ ⟨rfl,rfl⟩
  ·rintro i _ a ⟨rfl,b⟩;simp only[ZL a,Zd,ZA a,Za,ZU a (by omega)]
   have e:(bif !decide ((n.2.2.2.2.1[i]).1=x.2.2.2.2.1) then some true else bif !decide ((n.2.2.2.2.1[i]).2.1=x.2.2.2.2.2.1) then some true else some !decide ((n.2.2.2.2.1[i]).2.2.1=Va .i64 (x.2.2.2.2.2.2.2.1 - x.2.2.2.2.2.2.1)))=some (!Xh x n.2.2.2.2.1[i]):=by
    unfold Xh
    grind
   have f:(bif (n.2.2.2.2.1[i]).2.2.2.1 then some true else some !q.2.2.2.2.2.2.1)=some (XO q n.2.2.2.2.1[i]):=by
    unfold XO
    grind
   rw[e,f];simp only[Za]
   cases c:Xh x n.2.2.2.2.1[i] with
   |false=>
    left;refine⟨_,rfl,?_,?_⟩
    ·rw[HD a,c,Bool.or_false]
    ·rw[HD a,b,c];rfl
   |true=>
    cases d:XO q n.2.2.2.2.1[i] with
    |true=>
     right;refine⟨_,rfl,?_⟩;unfold Xl
     grind
    |false=>
     left;refine⟨_,rfl,?_,?_⟩
     ·rw[HD a,c,Vrc];rfl
     ·rw[HD a,b,c,d];rfl
  ·rintro _ ⟨rfl,b⟩;simp only[JE,Zc];refine⟨_,rfl,?_⟩;rw[Vja]at b⊢;unfold Xl
   grind
 grind
def JD(n:Zf)(q:Zq)(x:Zs):Int:=
 bif !ZT x.2.2.2.2.1 n.1.length|| !ZT x.2.2.2.2.2.1 n.1.length then 9 else
 bif (bif x.1 then !Ks n x else !decide (x.2.1=0) || (!decide (x.2.2.1=0) || (!decide (x.2.2.2.1=0) ||Kw x))) then 9 else
 bif !decide (0<=x.2.2.2.2.2.2.1/\x.2.2.2.2.2.2.1<=3155932800) || !decide (0<=x.2.2.2.2.2.2.2.1/\x.2.2.2.2.2.2.2.1<=3155932800) then 10 else
 bif x.1 then Y6 n q x else Xl n q x
theorem RO{o:Option Bool}{c:Bool}{e:Int}{K:Option Int}{k:Int}(a:o=some c)(h:c=false->K=some k):(Vb o fun x=>bif x then some e else K)=some (bif c then e else k):=by
 grind
theorem Zri{n:Zf}(d:Wa n)(f:n.2.2.2.2.1.length<=4096)(q:Zq)(x:Zs):F151 n q x=some (JD n q x):=by
 have e:n.1.length<=9223372036854775807:=by have:=d.stops;omega
 unfold F151 JD;rw[ZaT _ e,ZaT _ e];refine RO (c:= !ZT x.2.2.2.2.1 n.1.length|| !ZT x.2.2.2.2.2.1 n.1.length) (by grind) fun g=>?_;rw[Zf7]
 refine RO (c:=bif x.1 then !Ks n x else !decide (x.2.1=0) || (!decide (x.2.2.1=0) || (!decide (x.2.2.2.1=0) ||Kw x))) ?_ fun a=>?_
 ·grind
 ·rw[R2,R2];refine RO (c:= !decide (0<=x.2.2.2.2.2.2.1/\x.2.2.2.2.2.2.1<=3155932800) || !decide (0<=x.2.2.2.2.2.2.2.1/\x.2.2.2.2.2.2.2.1<=3155932800)) ?_ fun _=>?_
  ·grind
  ·cases b:x.1 with
   |false=>
    simp only[Zc]
    rw[Zui f];rfl
   |true=>
    rw[b]at a;simp only[Zd]at a⊢
    rw[ZsI d q (by grind) (by
     grind)]
    rfl
def Hm(a b:Zs)(stay:Bool)(l:Yi):Bool:=decide (l.1=a.2.1) && (decide (l.2.1=a.2.2.2.1) && (decide (l.2.2.1=b.2.1) && (decide (l.2.2.2.1=b.2.2.1) && (l.2.2.2.2.1==stay))))
def Ya(n:Zf)(a b:Zs)(stay:Bool):Bool:=n.2.2.2.1.any (Hm a b stay)
theorem Zku{n:Zf}(g:n.2.2.2.1.length<=4096)(a b:Zs)(stay:Bool):F152 n a b stay=some (Ya n a b stay):=by
 unfold F152;refine KD (fun r:Unit ⊕ Bool=>Vpd (fun _=>false) id r=Ya n a b stay) ?_ ?_
 ·unfold Ya;refine Kf n.2.2.2.1.length _ (fun i (s:Int)=>s=(i:Int)/\(n.2.2.2.1.take i).any (Hm a b stay)=false) ?_ ?_ _ ⟨rfl,rfl⟩
  ·rintro i _ c ⟨rfl,e⟩;simp only[ZL c,Zd,ZA c,Za,ZU c (by omega)]
   have d:(bif decide ((n.2.2.2.1[i]).1=a.2.1) then
 bif decide ((n.2.2.2.1[i]).2.1=a.2.2.2.1) then
 bif decide ((n.2.2.2.1[i]).2.2.1=b.2.1) then
 bif decide ((n.2.2.2.1[i]).2.2.2.1=b.2.2.1) then some ((n.2.2.2.1[i]).2.2.2.2.1==stay) else some false
 else some false
 else some false
 else some false)=some (Hm a b stay n.2.2.2.1[i]):=by
    unfold Hm
    grind
   erw[d];simp only[Za]
   cases f:Hm a b stay n.2.2.2.1[i] with
   |false=>
    left;refine⟨_,rfl,rfl,?_⟩
    rw[HD c,e,f];rfl
   |true=>
    grind
  simp
 grind
def JS(n:Zf)(a b:Zs):Int:=
 bif !decide (a.2.2.2.2.2.1=b.2.2.2.2.1) then 24 else
 bif !a.1&& !b.1 then 32 else
 bif Kw b then(bif !a.1|| !Ya n a b true then 19 else bif decide (b.2.2.2.2.2.2.1<a.2.2.2.2.2.2.2.1) then 10 else 0) else
 bif !b.1 then(bif !decide (b.2.2.2.2.2.2.1=a.2.2.2.2.2.2.2.1) then 10 else 0) else
 bif !a.1 then(bif decide (b.2.2.2.2.2.2.1<a.2.2.2.2.2.2.2.1) then 28 else 0) else
 bif decide (Va .i64 (a.2.2.2.2.2.2.2.1+(K2 n a.2.2.2.2.2.1).2.2.2.1)<=b.2.2.2.2.2.2.1) || (Ya n a b false&&decide (a.2.2.2.2.2.2.2.1<=b.2.2.2.2.2.2.1)) then 0 else 28
theorem ZqE{n:Zf}(d:n.2.2.2.1.length<=4096){a b:Zs}(e:ZT b.2.2.2.2.1 n.1.length=true):F149 n a b=some (JS n a b):=by
 unfold F149 JS;rw[Zku d,Zku d];by_cases c:a.2.2.2.2.2.1=b.2.2.2.2.1
 case neg=>grind
 rw[Ze c];simp only[Vd,Zc,Za];refine H8 ?_;unfold Kw
 cases b.2.2.2.2.2.2.2.2.1 with
 |true=>
  grind
 |false=>
  simp only[Zc]
  cases b.1 with
  |false=>
   grind
  |true=>
   simp only[Vd,Zc]
   cases a.1 with
   |false=>
    grind
   |true=>
    simp only[Vd,Zc];have f:idx n.1 a.2.2.2.2.2.1=some (K2 n a.2.2.2.2.2.1):=by rw[c];exact Wy e s0
    grind
def g0:Zs:=(false,0,0,0,0,0,0,0,false,())
def lg(L:List Zs)(i:Nat):Zs:=(L[i]?).getD g0
def YX(n:Zf)(q:Zq)(L:List Zs):Int:=
 bif !decide ((lg L 0).2.2.2.2.1=q.1) then 24 else
 bif Kw (lg L 0) then 19 else
 bif !(lg L 0).1&& (decide (1<L.length) && ((lg L 1).1&& !decide ((lg L 1).2.2.2.2.2.2.1=(lg L 0).2.2.2.2.2.2.2.1))) then 10 else
 bif !(lg L 0).1&& (decide (L.length=1) && (bif q.2.2.2.1 then !decide ((lg L 0).2.2.2.2.2.2.2.1=q.2.2.1) else !decide ((lg L 0).2.2.2.2.2.2.1=q.2.2.1))) then 10 else
 bif !q.2.2.2.1&&decide ((lg L 0).2.2.2.2.2.2.1<q.2.2.1) then 10 else
 bif q.2.2.2.2.2.2.2.2.2.1&& ((lg L 0).1&&decide ((lg L 0).2.2.2.2.2.2.1<Va .i64 (q.2.2.1+(K2 n q.1).2.2.2.1))) then 28 else 0
theorem Y0{L:List Zs}{i:Nat}(h:i<L.length):idx L (i:Int)=some (lg L i):=by
 rw[ZA h];unfold lg
 grind
theorem Zqr{n:Zf}{q:Zq}{L:List Zs}(a:0<L.length)(d:ZT q.1 n.1.length=true):F148 n q (L,())=some (YX n q L):=by
 unfold F148 YX;have e0:idx (L,()).1 (0:Int)=some (lg L 0):=Y0 a;rw[e0];simp only[Za];refine HN (Ga (c:=Kw (lg L 0)) rfl ?_ :(Vb (some _) fun _=>_)=_)
 refine Ga (c:= !(lg L 0).1&& (decide (1<L.length) && ((lg L 1).1&& !decide ((lg L 1).2.2.2.2.2.2.1=(lg L 0).2.2.2.2.2.2.2.1)))) ?_ (Ga (c:= !(lg L 0).1&& (decide (L.length=1) && (bif q.2.2.2.1 then !decide ((lg L 0).2.2.2.2.2.2.2.1=q.2.2.1) else !decide ((lg L 0).2.2.2.2.2.2.1=q.2.2.1)))) ?_ (H8 (Ga (c:=q.2.2.2.2.2.2.2.2.2.1&& ((lg L 0).1&&decide ((lg L 0).2.2.2.2.2.2.1<Va .i64 (q.2.2.1+(K2 n q.1).2.2.2.1)))) ?_ rfl)))
 ·by_cases b:1<L.length
  ·have e:idx L (1:Int)=some (lg L 1):=Y0 b
   grind
  grind
 ·rw[show decide ((L.length:Int)=1)=decide (L.length=1) from (by grind)]
  grind
 ·rw[show idx n.1 q.1=some (K2 n q.1) from Wy d s0]
  grind
end Q
namespace Q
open Tr Go
def Zak(L:List Zs)(i:Nat):Bool:=decide (0<i) && (lg L (i - 1)).1
theorem ZsJ{n:Zf}(h:Wa n)(o:F121 n=some true)(L:List Zs)(K:L.length<=1000):F135 n (L,())=some (K5 n L false []):=by
 unfold F135;rw[o];simp only[Za,Vd,Zc];refine KD (fun r=>K5 n L false []=Vpd (fun l:List ZK=>(l,(0:Int))) (fun y=>y) r) ?_ ?_
 ·refine Kf L.length _ (fun i (s:List ZK×Int)=>∃l,s=(l,(i:Int))/\l.length<=i/\(Zak L i=true->0<l.length)/\K5 n L false []=K5 n (L.drop i) (Zak L i) l) ?_ ?_ _ ⟨[],rfl,by simp,fun e=>(nomatch e),rfl⟩
  ·rintro i _ d ⟨l,rfl,H,E,a⟩;have g:L.length<=9223372036854775807:=by omega
   rw[Vk d]at a
   have j:Zak L (i+1)=(L[i]).1:=by
    unfold Zak lg
    grind
   have m:(bif !(L[i]).1 then some true else bif decide ((i:Int)=(0:Int)) then some true else Vb (idx L (Va .i64 ((i:Int) - (1:Int)))) fun I=>some !I.1)=some (!((L[i]).1&&Zak L i)):=by
    cases (L[i]).1 with
    |false=>rfl
    |true=>
     unfold Zak;by_cases J:i=0
     ·grind
     ·rw[Zi (by omega),Ze (by omega)];have e:Va .i64 ((i:Int) - 1)=((i - 1:Nat):Int):=by rw[Zx (by omega) (by omega)];omega
      rw[e,Y0 (by omega)];rfl
   simp only[ZL d,Zd,ZA d,Za,ZU d g,Zf7];rw[m];generalize L[i]=x at*;rw[Gq]at a;generalize Zak L i=w at*
   cases t:x.1 with
   |false=>
    grind
   |true=>
    rw[t]at a j;simp only[Zd,Za,Vd,Zc,Vhd]
    cases p:Ks n x with
    |false=>
     grind
    |true=>
     rw[p]at a;obtain⟨u,z,A,B⟩:=Zal h p;have D:=Zuz h p;simp only[Vd,Zc]
     cases f:Kw x with
     |false=>
      left;rw[f]at a;have b:=f;unfold Kw at b;rw[b];simp only[Zc,Za];rw[u];simp only[Za];rw[z];simp only[Za];rw[Dz A B,D];simp only[Za];rw[GU (by grind)];refine⟨_,rfl,l++[Xi n x],rfl,by grind,by simp,?_⟩
      grind
     |true=>
      rw[f]at a;have b:=f;unfold Kw at b;rw[b];simp only[Zd,Za]
      cases w with
      |false=>
       grind
      |true=>
       left;have c:=E rfl;obtain⟨v,o⟩:∃v,l[l.length - 1]? =some v:=⟨_,Vc (by omega)⟩;simp only[Vd,Zc];rw[u];simp only[Za];rw[z];simp only[Za];rw[Dz A B,D];have G:=Zgk (k:=l.length) c (by omega);simp only[Za,Vcc];rw[G];simp only[Za,o,Zbh (show l.length - 1<l.length by omega)];rw[Zbh (by grind)];simp only[Za,Vmd];have C:XL n x l=X1 n x l v:=by unfold XL;grind
       refine⟨_,rfl,X1 n x l v,rfl,by rw[<-C,Zda];omega,fun _=>by rw[<-C,Zda];omega,?_⟩
       grind
  ·rintro _ ⟨l,rfl,H,E,a⟩;simp only[JE,Zc];refine⟨_,rfl,?_⟩;rw[a,Vuc];rfl
 grind
theorem ZoQ(z:Int):∃r,F139 z=some r:=by
 unfold F139
 suffices h:∃r,run _ ((0:Int),(0:Int))=some r/\True by obtain⟨r,h,_⟩:=h;exact⟨r,by rw[h];rfl⟩
 refine Kf 62 (fun _=>True) (fun i (s:Int×Int)=>s.2=(i:Int)) ?_ ?_ _ rfl
 ·rintro i ⟨a,b⟩ g c;left;simp only at c;subst c;have f:Va .i64 ((i:Int)+1)=((i+1:Nat):Int):=by rw[Zx (by omega) (by omega)];omega
  have d:∃y,Y5 .i64 z (i:Int)=some y:=by unfold Y5;simp
  obtain⟨y,e⟩:=d;simp only[Ze (show (i:Int)<62 by omega),Zd,e,Za,f]
  cases decide (ZB .i64 y 1=1) with
  |true=>simp
  |false=>simp
 simp
theorem ZmU(a b d:Int):∃r,F140 a b d=some r:=by
 unfold F140
 cases decide (b<=a)<;>exact⟨_,rfl⟩
theorem ZpQ(p:JM){l:List ZK}{i k:Nat}(m:i<=k)(o:k<l.length)(s:l.length<=100):∃r,F132 p l (i:Int) (k:Int)=some r:=by
 unfold F132
 suffices h:∃r,run _ ((0:Int),(0:Int),(i:Int))=some r/\True by
  obtain⟨r,h,_⟩:=h;rw[h];simp only[Za];obtain⟨b,j⟩:=ZoQ r.1;obtain⟨c,f⟩:=ZmU (l[i]).1 (l[k]).1 p.2.2.2.2.1;rw[j];simp only[Za,ZA (show i<l.length by omega),ZA o,f]
  grind
 refine Kf (k+1 - i) (fun _=>True) (fun c (t:Int×Int×Int)=>t.2.2=((i+c:Nat):Int)) ?_ ?_ _ rfl
 ·rintro c ⟨a,b,d⟩ f e;left;simp only at e;subst e;have g:Va .i64 (((i+c:Nat):Int)+1)=((i+(c+1):Nat):Int):=by rw[Zx (by omega) (by omega)];omega
  simp only[Ze (show ((i+c:Nat):Int)<=(k:Int) by omega),Zd,ZA (show i+c<l.length by omega),Za,g];simp
 ·rintro ⟨a,b,d⟩ e;simp only at e;subst e;rw[Zi (show¬((i+(k+1 - i):Nat):Int)<=(k:Int) by omega)];simp
theorem ZtS(F:Ke)(p:JM){l:List ZK}{i:Nat}(b:i<l.length)(f:l.length<=100):∃r,F136 F p l (i:Int)=some r:=by
 unfold F136;by_cases d:0<i
 ·have e:Va .i64 ((i:Int) - 1)=((i - 1:Nat):Int):=by rw[Zx (by omega) (by omega)];omega
  obtain⟨c,a⟩:=ZmU (l[i - 1]).2.1 (l[i]).1 F.2.2.1;rw[Ze (by omega),e];simp only[Zd,ZA (show i - 1<l.length by omega),ZA b,Za,a]
  cases c<;>exact⟨_,rfl⟩
 simp_all
abbrev TkT:=Int×Int×Int×Int×Unit
abbrev HZ:=Bool×Int×List TkT×Unit
def Hf(n:Nat)(T:List HZ):Prop:=T.length=n+1/\ ∀j r,T[j]? =some r->r.2.2.1.length+j<=n
theorem Hf.get{n:Nat}{T:List HZ}(h:Hf n T){j:Nat}(a:j<=n):∃r,T[j]? =some r/\r.2.2.1.length+j<=n:=by have b:=h.1;exact⟨_,Vc (show j<T.length by omega),h.2 _ _ (by simp)⟩
theorem Hf.put{n:Nat}{T:List HZ}(h:Hf n T){i:Nat}{r:HZ}(c:r.2.2.1.length+i<=n):Hf n (T.set i r):=by
 refine⟨by rw[Vcc];exact h.1,fun j s b=>?_⟩;by_cases a:i=j
 ·grind
 ·rw[Vgb a]at b;exact h.2 j s b
theorem ZfD{β σ τ:Type}{o:Option β}{f:β->Option (σ ⊕ τ)}{Q:σ->Prop}(P:β->Prop)(h:∃r,o=some r/\P r)(k:∀r,P r->∃s,f r=some (.inl s)/\Q s):∃s,Vb o f=some (.inl s)/\Q s:=by
 grind
theorem Zsb(F:Ke)(hF:F.1.length<=4096)(l:List ZK)(W:l.length<=8):∃R,F134 F l=some R:=by
 unfold F134;have S:Va .i64 ((l.length:Int)+1)=((l.length+1:Nat):Int):=by rw[Zx (by omega) (by omega)];omega
 have K:ZF (decide ((0:Int)<=((l.length+1:Nat):Int)/\((l.length+1:Nat):Int)<=((l.length+1:Nat):Int)/\((l.length+1:Nat):Int)<=(ZC:Int)))=some ():=by
  have N:(ZC:Int)=549755813888:=by rfl
  rw[Ze (by omega)];rfl
 have e:∀o:List HZ,o=Vr (l.length+1) (false,0,[],())->Zn (l.length:Int) o.length=some l.length/\o[l.length]? =some (false,0,[],()):=by rintro o rfl;exact⟨Kg (by simp),by simp⟩
 obtain⟨O,P⟩:=e _ rfl;rw[S];erw[K];simp only[Za,Vj];erw[O];simp only[Za];erw[P];simp only[Za]
 have key:∀(o:Option (List HZ)) (k:List HZ->Option (Int×List TkT×Bool)),(∃T,o=some T/\Hf l.length T)->(∀T,Hf l.length T->∃R,k T=some R)->∃R,Vb o k=some R:=by
  grind
 refine key _ _ (Kf l.length _ (fun c (s:List HZ×Int)=>∃T,s=(T,(l.length:Int) - 1 - (c:Int))/\Hf l.length T) ?_ ?_ _ ?_) ?_
 ·rintro c _ V ⟨T,rfl,a⟩;left;obtain⟨i,M⟩:∃i:Nat,(l.length:Int) - 1 - (c:Int)=(i:Int):=⟨l.length - 1 - c,by omega⟩;have v:i<l.length:=by omega
  rw[M];rw[Ze (by omega)];simp only[Zd];refine ZfD (fun f=>Hf l.length f) ?_ ?_
  ·refine Kf (l.length - i) _ (fun m (s:List HZ×Int)=>∃T,s=(T,((i+m:Nat):Int))/\Hf l.length T) ?_ ?_ _ ⟨T,rfl,a⟩
   ·rintro m _ N ⟨T,rfl,a⟩;left;have B:i+m<l.length:=by omega
    have A:Va .i64 (((i+m:Nat):Int)+1)=((i+m+1:Nat):Int):=by rw[Zx (by omega) (by omega)];omega
    have g:=a.1;have d:Zn ((i+m+1:Nat):Int) T.length=some (i+m+1):=Kg (by omega);obtain⟨r,x,J⟩:=a.get (show i+m+1<=l.length by omega);simp only[ZL B,Zd,A,d,x,Za]
    cases r.1 with
    |false=>grind
    |true=>
     simp only[Vd,Zc];refine ZfD (fun f=>Hf l.length f) ?_ ?_
     ·refine Kf F.1.length _ (fun p (s:List HZ×Int)=>∃T,s=(T,(p:Int))/\Hf l.length T) ?_ ?_ _ ⟨T,rfl,a⟩
      ·rintro p _ C ⟨T,rfl,a⟩;left;have E:Va .i64 ((p:Int)+1)=((p+1:Nat):Int):=by rw[Zx (by omega) (by omega)];omega
       have g:=a.1;have d:Zn ((i+m+1:Nat):Int) T.length=some (i+m+1):=by grind
       have h:Zn (i:Int) T.length=some i:=Kg (by omega);obtain⟨Q,z,I⟩:=a.get (show i+m+1<=l.length by omega);obtain⟨X,y,H⟩:=a.get (show i<=l.length by omega);obtain⟨D,t⟩:=ZpQ F.1[p] (show i<=i+m by omega) B (by omega);obtain⟨pr,w⟩:=ZtS F F.1[p] v (by omega);simp only[ZL C,Zd,ZA C,Za,t,w,d,h,z,y,E]
       cases D with
       |false=>grind
       |true=>
        simp only[Vd,Zc];refine ZfD (fun _=>True) ?_ fun b _=>?_
        ·grind
        ·cases b with
         |true=>grind
         |false=>
          simp only[Zc]
          have u:ZF (decide (Vh [((p:Int),(i:Int),((i+m:Nat):Int),pr,())]+Vh Q.2.2.1<=ZC))=some ():=by rw[Ze (by simp only[Vpa,Vta,ZC];omega)];rfl
          rw[u];simp only[Za];exact⟨_,rfl,_,rfl,a.put (by grind)⟩
      simp
     grind
   grind
  ·intro f G;have A:Va .i64 ((i:Int) - 1)=(l.length:Int) - 1 - ((c+1:Nat):Int):=by rw[Zx (by omega) (by omega)];omega
   grind
 ·grind
 ·refine⟨(Vr (l.length+1) ((false,0,[],()):HZ)).set l.length (true,0,[],()),?_,Hf.put ⟨by simp,fun j r x=>?_⟩ (by simp)⟩
  ·rw[Zx (by omega) (by omega)];simp
  grind
 ·intro T a;obtain⟨r,x,_⟩:=a.get (Vbb _);have U:Zn (0:Int) T.length=some 0:=Kg (i:=0) (by grind)
  simp_all
end Q
namespace Q
open Tr Go
def ZhI(x:Zs):Bool:= !x.1&& (decide (0<=x.2.2.2.2.2.2.1) && (decide (x.2.2.2.2.2.2.1<=x.2.2.2.2.2.2.2.1) &&decide (Va .i64 (x.2.2.2.2.2.2.2.1 - x.2.2.2.2.2.2.1)<=14400)))
def Zbp(s:Int)(x:Zs):Int:=bif ZhI x then Va .i64 (Va .i64 (s+x.2.2.2.2.2.2.2.1) - x.2.2.2.2.2.2.1) else s
def Rv(L:List Zs):Int:=L.foldl Zbp 0
theorem ZcO(L:List Zs)(d:L.length<=1000):F138 (L,())=some (Rv L):=by
 unfold F138;refine KD (fun r=>r=Rv L) ?_ (by simp);refine Kf L.length _ (fun i (s:Int×Int)=>s=((L.take i).foldl Zbp 0,(i:Int))) ?_ ?_ _ rfl
 ·rintro i _ a rfl;left
  have b:(bif !(L[i]).1 then
 bif decide ((0:Int)<=(L[i]).2.2.2.2.2.2.1) then
 bif decide ((L[i]).2.2.2.2.2.2.1<=(L[i]).2.2.2.2.2.2.2.1) then
 some (decide (Va .i64 ((L[i]).2.2.2.2.2.2.2.1 - (L[i]).2.2.2.2.2.2.1)<=(14400:Int)))
 else some false
 else some false
 else some false)=some (ZhI L[i]):=by
   unfold ZhI
   grind
  have c:(L.take (i+1)).foldl Zbp 0=Zbp ((L.take i).foldl Zbp 0) L[i]:=by rw[Vf a,Vy];rfl
  simp only[ZL a,Zd,ZA a,Za,ZU a (by omega)];rw[b,c];unfold Zbp
  grind
 ·rintro _ rfl;simp only[JE,Zc];exact⟨_,rfl,by rw[Vja];rfl⟩
def Dt(x:Zs):Bool:=x.1&& !Kw x
def K0(L:List Zs):Nat:=(L.filter Dt).length
noncomputable def Zli(F:Ke)(l:List ZK):Int:=match F134 F l with
 |some r=>bif r.2.2 then 0 else 34
 |none=>0
noncomputable def ZfY(n:Zf)(L:List Zs):Int:=
 bif !decide ((K5 n L false []).2=0) then(K5 n L false []).2 else
 bif decide (8<(K5 n L false []).1.length) then 33 else Zli n.2.2.2.2.2.1 (K5 n L false []).1
theorem Zo8(F:Ke)(s:Int):∃r,F130 F s=some r:=by
 unfold F130
 cases decide ((0:Int)<F.2.2.2.1)<;>exact⟨_,rfl⟩
theorem Zdu{n:Zf}(h:Wa n)(i:F121 n=some true)(hF:n.2.2.2.2.2.1.1.length<=4096)(q:Zq)(L:List Zs)(b:L.length<=1000):∃c,F131 n q (L,())=some c/\c.2.2=ZfY n L:=by
 unfold F131 ZfY;rw[ZsJ h i L b];simp only[Za];generalize K5 n L false []=R;by_cases d:R.2=0
 case neg=>simp_all
 rw[Ze d];simp only[Vd,Zc];by_cases a:8<R.1.length
 ·rw[Ze (by omega),Ze a];simp
 rw[Zi (by omega),Zi a];simp only[Zc];obtain⟨p,g⟩:=Zsb n.2.2.2.2.2.1 hF R.1 (by omega);unfold Zli;rw[g];simp only[Za]
 cases p.2.2 with
 |false=>simp
 |true=>
  simp only[Vd,Zc,Zd];obtain⟨c,f⟩:=Zo8 n.2.2.2.2.2.1 p.1;rw[f,ZcO L b];simp only[Za];by_cases hL:0<L.length
  ·have e:Va .i64 ((L.length:Int) - 1)=((L.length - 1:Nat):Int):=by rw[Zx (by omega) (by omega)];omega
   have j:idx L (0:Int)=some (lg L 0):=Y0 hL;rw[Ze (by omega),e,j,Y0 (by omega)];simp
  simp_all
def J7(L:List Zs)(i:Nat):Bool:=(lg L i).1&& (decide (i+1=L.length) || !Kw (lg L (i+1)))
def YS(n:Zf)(q:Zq)(x:Zs):Int:=bif !(cl (KH n x) x.2.2.2.1).2.2.2.2.1 then 26 else bif !JW n q x.2.2.2.2.2.1 then 29 else 0
def Gj(n:Zf)(q:Zq)(L:List Zs)(i:Nat):Int:=bif decide (i=0) then YX n q L else JS n (lg L (i - 1)) (lg L i)
def WD(n:Zf)(q:Zq)(L:List Zs)(i:Nat):Int:=
 bif !decide (JD n q (lg L i)=0) then JD n q (lg L i) else
 bif !decide (Gj n q L i=0) then Gj n q L i else
 bif J7 L i then YS n q (lg L i) else 0
theorem ZgG{n:Zf}{q:Zq}{x:Zs}(h:JD n q x=0):ZT x.2.2.2.2.1 n.1.length=true/\ZT x.2.2.2.2.2.1 n.1.length=true/\(x.1=true->Ks n x=true/\Y6 n q x=0)/\(x.1=false->Xl n q x=0):=by
 unfold JD at h
 grind
theorem ZiD{n:Zf}(d:Wa n)(k:n.2.2.2.2.1.length<=4096){q:Zq}(l:ZT q.1 n.1.length=true){L:List Zs}{i:Nat}(f:i<L.length)(y:L.length<=1000):F146 n q (L,()) (i:Int)=some (WD n q L i):=by
 unfold F146 WD;rw[show idx (L,()).1 (i:Int)=some (lg L i) from Y0 f];simp only[Za];rw[Zri d k q];simp only[Za];by_cases c:JD n q (lg L i)=0
 case neg=>grind
 rw[Ze c];simp only[Vd,Zc];obtain⟨v,w,x,z⟩:=ZgG c
 have g:(bif decide ((i:Int)=(0:Int)) then Vb (F148 n q (L,())) fun s=>some s
 else Vb (idx L (Va .i64 ((i:Int) - (1:Int)))) fun t=>Vb (F149 n t (lg L i)) fun b=>some b)=some (Gj n q L i):=by
  unfold Gj;by_cases a:i=0
  ·subst a;rw[Zqr f l];rfl
  ·have e:Va .i64 ((i:Int) - 1)=((i - 1:Nat):Int):=by rw[Zx (by omega) (by omega)];omega
   rw[Zi (by omega),Zi a,e,Y0 (by omega)];simp only[Zc,Za];rw[ZqE (by have:=d.links;omega) v];rfl
 rw[g];simp only[Za];refine HN ?_;have p:Va .i64 ((i:Int)+1)=((i+1:Nat):Int):=by rw[Zx (by omega) (by omega)];omega
 rw[p]
 have h:(bif (lg L i).1 then bif decide (((i+1:Nat):Int)=(↑(Vh L):Int)) then some true
 else Vb (idx L ((i+1:Nat):Int)) fun u=>some !u.2.2.2.2.2.2.2.2.1
 else some false)=some (J7 L i):=by
  unfold J7;rw[show decide (((i+1:Nat):Int)=(L.length:Int))=decide (i+1=L.length) from (by grind)];by_cases j:i+1=L.length
  ·grind
  ·rw[Zi j,Y0 (by omega)]
   grind
 rw[h];simp only[Za]
 cases o:J7 L i with
 |false=>rfl
 |true=>
  have m:(lg L i).1=true:=by
   grind
  obtain⟨r,_,_,b⟩:=ZbX (x m).1;simp only[Zd];rw[r];simp only[Za];rw[b];simp only[Za];rw[Zk0 q w];unfold YS
  grind
noncomputable def Yw(n:Zf)(q:Zq)(L:List Zs):Int:=
 bif !decide ((lg L (L.length - 1)).2.2.2.2.2.1=q.2.1) then 24 else
 bif q.2.2.2.1&&decide (q.2.2.1<(lg L (L.length - 1)).2.2.2.2.2.2.2.1) then 10 else
 bif decide (q.2.2.2.2.1<(K0 L:Int)) then 33 else
 bif decide (q.2.2.2.2.2.1<Rv L) then 32 else ZfY n L
theorem Zp4{n:Zf}(d:Wa n)(f:F121 n=some true)(hF:n.2.2.2.2.2.1.1.length<=4096)(q:Zq){L:List Zs}(k:0<L.length)(b:L.length<=1000):F147 n q (L,())=some (Yw n q L):=by
 unfold F147 Yw;have e:Va .i64 ((L.length:Int) - 1)=((L.length - 1:Nat):Int):=by rw[Zx (by omega) (by omega)];omega
 simp only[e,Y0 (show L.length - 1<L.length by omega),Za];refine HN (H8 ?_);refine KD (fun r=>r=(K0 L:Int)) ?_ ?_
 ·refine Kf L.length _ (fun i (s:Int×Int)=>s=((K0 (L.take i):Int),(i:Int))) ?_ ?_ _ rfl
  ·rintro i _ a rfl;left
   have o:K0 (L.take i)<=L.length:=by
    unfold K0
    grind
   have h:(bif (L[i]).1 then some !(L[i]).2.2.2.2.2.2.2.2.1 else some false)=some (Dt L[i]):=by
    unfold Dt Kw
    grind
   have j:K0 (L.take (i+1))=K0 (L.take i)+(if Dt L[i] then 1 else 0):=by
    unfold K0;rw[Vf a,Vpc,Vp]
    grind
   have g:Va .i64 ((K0 (L.take i):Int)+1)=((K0 (L.take i)+1:Nat):Int):=by rw[Zx (by omega) (by omega)];omega
   simp only[ZL a,Zd,ZA a,Za,ZU a (by omega),g]
   grind
  simp
 ·rintro _ rfl;refine HN ?_;rw[ZcO L b];simp only[Za];refine HN ?_;obtain⟨c,l,m⟩:=Zdu d f hF q L b
  grind
noncomputable def WX(n:Zf)(q:Zq)(L:List Zs):Int×Int:=
 bif !decide (Yt n q=0) then(0,Yt n q) else
 bif decide (L.length=0) then(bif !decide (q.1=q.2.1) then(0,24) else(0,0)) else
 match K6 L.length (WD n q L) with
 |some i=>((i:Int),WD n q L i)
 |none=>bif !decide (Yw n q L=0) then(((L.length - 1:Nat):Int),Yw n q L) else(0,0)
open Classical in
theorem Zpd{n:Zf}(c:W1 n)(hF:n.2.2.2.2.2.1.1.length<=4096)(q:Zq)(L:List Zs)(h:L.length<=1000):F142 n q (L,())=some (WX n q L):=by
 unfold F142 WX;rw[Zi5 c q];simp only[Za];by_cases d:Yt n q=0
 case neg=>rw[Zi d];rfl
 obtain⟨k,j⟩:=ZaF.1 d;have f:=k.sound;have l:F121 n=some true:=by rw[GA c,Ze k]
 have b:ZT q.1 n.1.length=true:=by unfold qB at j;rw[Vi]at j;exact j.1
 rw[Ze d];simp only[Vd,Zc];by_cases hL:L.length=0
 ·rw[Ze (show (L.length:Int)=0 by omega),Ze hL]
  cases decide (q.1=q.2.1)<;>rfl
 rw[Zi (show¬(L.length:Int)=0 by omega),Zi hL];simp only[Zc];rw[Jl (n:=L.length) (fun i (s:Int)=>s=(i:Int)) (WD n q L) (fun i=>.inr ((i:Int),WD n q L i)) (.inl ()) ?_ ?_ ?_ (0:Int) rfl]
 ·unfold pick
  cases K6 L.length (WD n q L) with
  |some i=>rfl
  |none=>
   simp only[Za];show (Vb (F147 n q (L,())) _)=_;rw[Zp4 f l hF q (by omega) h];have e:Va .i64 ((L.length:Int) - 1)=((L.length - 1:Nat):Int):=by rw[Zx (by omega) (by omega)];omega
   rw[e];simp only[Za]
   cases decide (Yw n q L=0)<;>rfl
 ·rintro i _ a rfl g;refine⟨((i+1:Nat):Int),?_,rfl⟩;simp only[ZL a,Zd,ZU a (show _<=9223372036854775807 by omega)];rw[ZiD f c.paths b a h];simp only[Za];rw[g];rfl
 ·rintro i _ a rfl g;simp only[ZL a,Zd];rw[ZiD f c.paths b a h];simp only[Za];rw[Zi g];rfl
 ·rintro _ rfl;simp only[JE,Zc]
open Classical in
theorem D2(n:Zf)(q:Zq)(L:List Zs):(WX n q L).2=0↔Yt n q=0/\((L.length=0/\q.1=q.2.1)\/(L.length≠0/\(∀i,i<L.length->WD n q L i=0)/\Yw n q L=0)):=by
 unfold WX;by_cases h0:Yt n q=0
 case neg=>rw[Zi h0];simp [h0]
 rw[Ze h0];simp only[Vd,Zc];by_cases hL:L.length=0
 ·rw[Ze hL];by_cases he:q.1=q.2.1
  ·rw[Ze he];simp [h0,hL,he]
  ·rw[Zi he];simp [h0,hL,he]
 ·rw[Zi hL];simp only[Zc]
  cases hb:K6 L.length (WD n q L) with
  |some i=>
   have hi:=D7 hb;simp only;constructor
   ·intro e;exact absurd e hi.2
   ·rintro ⟨_,⟨e,_⟩|⟨_,e,_⟩⟩
    ·exact absurd e hL
    ·exact e i hi.1
  |none=>
   have ha:=WL.1 hb;simp only;by_cases he:Yw n q L=0
   ·rw[Ze he];simp [h0,hL,he];exact ha
   ·rw[Zi he];simp [h0,hL,he]
end Q
namespace Dm
structure Ride where
 dep:Int
 arr:Int
 zn:Nat
 md:Nat
structure Law where
 len:Nat->Nat
 ok:Nat->Int->Int->Prop
 zok:Nat->Nat->Prop
 mok:Nat->Nat->Prop
 tp:Option Int->Nat->Int->Int
 D:Int
 ok_mono:∀p a b d,a<=b->ok p a d->ok p b d
 zok_mono:∀p z z',z ||| z' =z' ->zok p z' ->zok p z
 mok_or:∀p m m',mok p (m ||| m')↔mok p m/\mok p m'
 tp_none:∀o p d,tp o p d<=tp none p d
 tp_disc:∀o p d,tp none p d<=tp o p d+D
 tp_nonneg:∀o p d,0<=tp o p d
 tp_late:∀a b p d,a<=b->tp (some b) p d<=tp (some a) p d
def zns(l:List Ride):Nat:=l.foldr (fun r z=>r.zn ||| z) 0
def mds(l:List Ride):Nat:=l.foldr (fun r z=>r.md ||| z) 0
def lastO(o:Option Int):List Ride->Option Int
 |[]=>o
 |r::l=>lastO (some r.arr) l
def lastD(d:Int):List Ride->Int
 |[]=>d
 |r::l=>lastD r.dep l
theorem Zm5(l m:List Ride):zns (l++m)=zns l ||| zns m:=by
 induction l with
 |nil=>simp [zns]
 |cons r l a=>simp only[zns,Vcb,Vxc]at a⊢;rw[a,Vla]
theorem ZkE(l m:List Ride):mds (l++m)=mds l ||| mds m:=by
 induction l with
 |nil=>simp [mds]
 |cons r l a=>simp only[mds,Vcb,Vxc]at a⊢;rw[a,Vla]
theorem lastO_append(o:Option Int)(l m:List Ride):lastO o (l++m)=lastO (lastO o l) m:=by
 induction l generalizing o with
 |nil=>rfl
 |cons r l a=>exact a _
theorem Zki(d:Int)(l m:List Ride):lastD d (l++m)=lastD (lastD d l) m:=by
 induction l generalizing d with
 |nil=>rfl
 |cons r l a=>exact a _
variable (L:Law)
def Cov(p:Nat)(r:Ride)(l:List Ride):Prop:=l.length+1<=L.len p/\L.ok p r.dep (lastD r.dep l)/\L.zok p (zns (r::l))/\L.mok p (mds (r::l))
inductive LS (np:Nat):Option Int->List Ride->Int->Prop
 |nil (o:Option Int):LS np o [] 0
 |cons {o:Option Int}{r:Ride}{l c:List Ride}{p:Nat}{s:Int} (hp:p<np) (hc:Cov L p r l) (h:LS np (lastO none (r::l)) c s):LS np o (r::(l++c)) (L.tp o p r.dep+s)
variable {L}{np:Nat}
theorem LS.append{o:Option Int}{l m:List Ride}{a s:Int}(h:LS L np o l a):LS L np (lastO o l) m s->LS L np o (l++m) (a+s):=by
 induction h with
 |nil o=>intro h;rw[Int.zero_add];exact h
 |cons e d h f=>
  rename_i o r l c p g;intro b;rw[Vcb,Vma,Int.add_assoc];refine .cons e d (f ?_)
  have:lastO o (r::(l++c))=lastO (lastO none (r::l)) c:=by show lastO (some r.arr) (l++c)=_;rw[lastO_append];rfl
  rw[<-this];exact b
theorem LS.cut{o:Option Int}{l:List Ride}{s:Int}(h:LS L np o l s):∀B c,l=B++c->
 (∃s0 j,s=s0+j/\LS L np o B s0/\LS L np (lastO o B) c j)\/
 ∃a r f b g p s0 s2,B=a++r::f/\c=b++g/\b≠ []/\p<np/\LS L np o a s0/\Cov L p r (f++b)/\LS L np (lastO none b) g s2/\s=s0+(L.tp (lastO o a) p r.dep+s2):=by
 induction h with
 |nil o=>
  intro B c h;obtain⟨rfl,rfl⟩:=List.append_eq_nil_iff.1 h.symm
  exact .inl ⟨0,0,rfl,.nil _,.nil _⟩
 |cons e d h D=>
  rename_i o r l y p z;intro B c m
  cases B with
  |nil=>
   refine .inl ⟨0,_,(Int.zero_add _).symm,.nil _,?_⟩;rw[<- (show r::(l++y)=c from m)]
   exact .cons e d h
  |cons H B=>
   rw[Vcb]at m;obtain⟨rfl,u⟩:=List.cons.inj m;rcases List.append_eq_append_iff.1 u with ⟨t,rfl,rfl⟩|⟨t,rfl,rfl⟩
   ·
    rcases D t c rfl with ⟨s0,j,rfl,k,A⟩|⟨a,G,f,b,g,E,s0,s2,rfl,rfl,w,x,k,v,C,rfl⟩
    ·refine .inl ⟨L.tp o p r.dep+s0,j,by omega,.cons e d k,?_⟩
     have:lastO o (r::(l++t))=lastO (lastO none (r::l)) t:=by show lastO (some r.arr) (l++t)=_;rw[lastO_append];rfl
     rw[this];exact A
    ·refine .inr ⟨r::(l++a),G,f,b,g,E,L.tp o p r.dep+s0,s2,by simp,rfl,w,x,.cons e d k,v,C,?_⟩
     have:lastO o (r::(l++a))=lastO (lastO none (r::l)) a:=by show lastO (some r.arr) (l++a)=_;rw[lastO_append];rfl
     rw[this];omega
   ·
    cases t with
    |nil=>
     simp only[Vda,Vyc]at*;refine .inl ⟨L.tp o p r.dep+0,z,by omega,?_,?_⟩
     ·have:=LS.cons (c:=[]) (o:=o) e d (.nil _);simpa using this
     ·exact h
    |cons i t=>
     refine .inr ⟨[],r,B,i::t,y,p,0,z,rfl,rfl,by simp,e,.nil _,d,?_,by simp [lastO]⟩
     have:lastO none (r::(B++i::t))=lastO none (i::t):=by show lastO (some r.arr) (B++i::t)=_;rw[lastO_append];rfl
     rw[<-this];exact h
def Least(S:Int->Prop)(b:Int):Prop:=S b/\ ∀s,S s->b<=s
theorem LS.nonneg{o:Option Int}{l:List Ride}{s:Int}(h:LS L np o l s):0<=s:=by
 induction h with
 |nil=>exact Vna _
 |cons b a h c=>have:=L.tp_nonneg ‹_› ‹_› ‹Ride›.dep;omega
theorem Zkn{S:Int->Prop}(f:∀s,S s->0<=s){s:Int}(h:S s):∃b,Least S b:=by
 have:∀(n:Nat) (s:Int),S s->s.toNat<=n->∃b,Least S b:=by
  intro n
  induction n with
  |zero=>intro s e g;exact⟨s,e,fun t a=>by have:=f t a;have:=f s e;omega⟩
  |succ n i=>
   intro s e g;by_cases c:∃t,S t/\t<s
   ·obtain⟨t,a,d⟩:=c;exact i t a (by have:=f t a;omega)
   ·exact⟨s,e,fun t a=>by
     by_cases d:t<s
     ·exact absurd ⟨t,a,d⟩ c
     ·omega⟩
 exact this s.toNat s h (Vba _)
def Dom(L:Law)(np:Nat)(A B:List Ride):Prop:= ∀c s,LS L np none (B++c) s->∃a,a<=s/\LS L np none (A++c) a
theorem Dom.refl(A:List Ride):Dom L np A A:=fun _ s h=>⟨s,Vna _,h⟩
theorem Dom.trans{A B C:List Ride}(h:Dom L np A B)(k:Dom L np B C):Dom L np A C:=fun c s f=>by obtain⟨g,a,b⟩:=k c s f;obtain⟨i,d,e⟩:=h c g b;exact⟨i,Vyb d a,e⟩
theorem Dom.snoc{A B:List Ride}(h:Dom L np A B)(r:Ride):Dom L np (A++[r]) (B++[r]):=fun c s a=>by rw[Vma]at a⊢;exact h _ s a
theorem Zqs{A B:List Ride}{a b:Int}(f:a<=b)(d:L.D=0\/B=[]\/a+L.D<=b\/ ∃x y,lastO none A=some x/\lastO none B=some y/\y<=x){c:List Ride}{s:Int}(h:LS L np (lastO none B) c s):∃s',a+s' <=b+s/\LS L np (lastO none A) c s' :=by
 cases h with
 |nil=>exact⟨0,by omega,.nil _⟩
 |cons i g h=>
  rename_i r l c p s;refine⟨L.tp (lastO none A) p r.dep+s,?_,.cons i g h⟩;have m:=L.tp_none (lastO none A) p r.dep;have o:=L.tp_disc (lastO none B) p r.dep;rcases d with u|rfl|t|⟨x,y,j,k,e⟩
  ·omega
  ·show a+(_+s)<=b+(L.tp none p r.dep+s);omega
  ·omega
  ·rw[j,k];have:=L.tp_late y x p r.dep e;omega
theorem dom_of{A B:List Ride}
 (i:∀b,Least (LS L np none B) b->∃a,LS L np none A a/\a<=b/\(L.D=0\/B=[]\/a+L.D<=b\/ ∃x y,lastO none A=some x/\lastO none B=some y/\y<=x))
 (m:∀o r f p b,B=o++r::f->p<np->Least (LS L np none o) b->f.length+1<L.len p->L.zok p (zns (r::f))->L.mok p (mds (r::f))->
   ∃j e g a,A=j++e::g/\LS L np none j a/\L.mok p (mds (e::g))/\r.dep<=e.dep/\g.length<=f.length/\a+L.tp (lastO none j) p e.dep<=b+L.tp (lastO none o) p r.dep/\zns (e::g) ||| zns (r::f)=zns (r::f)):
 Dom L np A B:=by
 intro c s hs;rcases LS.cut hs B c rfl with ⟨s0,s1,rfl,t,S⟩|⟨o,r,f,d,R,p,s0,Q,V,rfl,l,O,t,W,T,rfl⟩
 ·obtain⟨b,u⟩:=Zkn (fun _ h=>h.nonneg) t;obtain⟨a,E,G,H⟩:=i b u;obtain⟨s',h3,U⟩:=Zqs (A:=A) (B:=B) G H S;have:=u.2 s0 t;exact⟨a+s',by omega,E.append U⟩
 ·obtain⟨b,u⟩:=Zkn (fun _ h=>h.nonneg) t;obtain⟨C,K,P,I⟩:=W;have X:1<=d.length:=by cases d with|nil=>exact absurd rfl l|cons=>simp
  rw[Vp]at C;have N:zns (r::(f++d))=zns (r::f) ||| zns d:=Zm5 (r::f) d;have em:mds (r::(f++d))=mds (r::f) ||| mds d:=ZkE (r::f) d;rw[em,L.mok_or]at I;obtain⟨j,e,g,a,rfl,E,J,w,Y,Z,M⟩:=m o r f p b V O u (by omega) (L.zok_mono p _ _ (by rw[N, <-Vla,Nat.or_self]) P) I.1
  have k:lastD e.dep (g++d)=lastD r.dep (f++d):=by
   rw[Zki,Zki]
   cases d with
   |nil=>exact absurd rfl l
   |cons x y=>rfl
  have v:Cov L p e (g++d):=by
   refine⟨by rw[Vp];omega,?_,?_,?_⟩
   ·rw[k];exact L.ok_mono _ _ _ _ w K
   ·refine L.zok_mono p _ _ ?_ P;rw[N,show zns (e::(g++d))=zns (e::g) ||| zns d from Zm5 (e::g) d];rw[Vla, <-Vla (zns d),Nat.or_comm (zns d) (zns (r::f)),Vla (zns (r::f)),Nat.or_self, <-Vla,M]
   ·rw[show mds (e::(g++d))=mds (e::g) ||| mds d from ZkE (e::g) d,L.mok_or];exact⟨J,I.2⟩
  have z:LS L np (lastO none j) (e::((g++d)++R)) (L.tp (lastO none j) p e.dep+Q):=by
   refine .cons O v ?_
   have:lastO none (e::(g++d))=lastO none d:=by
    show lastO (some e.arr) (g++d)=_;rw[lastO_append]
    cases d with
    |nil=>exact absurd rfl l
    |cons x y=>rfl
   rw[this];exact T
  refine⟨a+(L.tp (lastO none j) p e.dep+Q),?_,?_⟩
  ·have:=u.2 s0 t;omega
  ·have:=E.append z;simpa using this
end Dm
namespace Q
open Tr Go
abbrev Jo:=Int×Int×Int×Int×Unit
abbrev ZcZ:=List UInt8×Int×Int×Int×Int×Int×Unit
abbrev G3:=List ZcZ×Int×Int×Int×Unit
abbrev JN:=List (Option G3×(Jo×Int×List Int×Unit))
inductive XX (S:List Jo->List Int->Prop) (F:G3):List Jo->JN->Prop
 |start {r0:Jo}{sums:List Int} (h:S [] sums):XX S F [] [(some F,r0,0,sums,())]
 |snoc {rs:List Jo}{s:JN}{r:Jo}{sums:List Int} (hs:XX S F rs s) (hl:rs.length+1<=8) (h:S (rs++[r]) sums):XX S F (rs++[r]) ((some F,r,((rs.length+1:Nat):Int),sums,())::s)
theorem XX.head{S:List Jo->List Int->Prop}{F:G3}{rs:List Jo}{s:JN}(h:XX S F rs s):∃r a t,s=(some F,r,(rs.length:Int),a,())::t/\S rs a/\rs.length<=8/\(∀x∈rs.getLast?,r=x):=by
 cases h with
 |start h=>exact⟨_,_,_,rfl,h,by simp,by simp⟩
 |snoc c b h=>
  rename_i rs s r a;refine⟨r,a,s,?_,h,by simpa using b,by simp⟩;rw[show (rs++[r]).length=rs.length+1 by simp]
theorem Zkv{S:List Jo->List Int->Prop}{F:G3}{rs:List Jo}{s:JN}(h:XX S F rs s):F22 s=some rs:=by
 obtain⟨r,c,t,e,_,w,_⟩:=h.head
 have key:∀{rs:List Jo}{s:JN},XX S F rs s->∀b:List Jo,∀z:Jo,run
  (fun a:JN×List Jo×Int=>
  bif decide ((0:Int)<=a.2.2) then
  Vb (Tr.unc a.1) fun _=>
  Vb (Tr.unc a.1) fun v=>
  Vb (Zn a.2.2 (Vh a.2.1)) fun f=>
  Vb a.2.1[f]? fun _=>
  Vb (Tr.unc a.1) fun _=>
  Vb (Tr.unc a.1) fun d=>some (.inl (d.2.1,Vnc a.2.1 f v.2.2.1,Va .i64 (a.2.2 - (1:Int))))
  else some (.inr a.2.1)) (s,Vr rs.length z++b,(rs.length:Int) - 1)=some (rs++b):=by
  intro rs s h
  induction h with
  |start h=>
   intro b z;refine XB ?_
   simp
  |snoc y x h u=>
   rename_i rs s r c;intro b z;refine(Hs (s' :=(s,Vr rs.length z++r::b,(rs.length:Int) - 1)) ?_).trans ?_
   ·have m:decide ((0:Int)<=((rs++[r]).length:Int) - 1)=true:=Ze (by simp);simp only[m,Zd,Tr.unc,Za];have g:((rs++[r]).length:Int) - 1=(rs.length:Int):=by simp
    rw[g]
    have j:Zn (rs.length:Int) (Vr (rs++[r]).length z++b).length=some rs.length:=by have:=Kg (i:=rs.length) (n:=(Vr (rs++[r]).length z++b).length) (by simp;omega);exact this
    rw[j]
    have k:(Vr (rs++[r]).length z++b)[rs.length]? =some z:=by rw[List.getElem?_append_left (by simp)];simp
    simp only[Za,k]
    have l:Vnc (Vr (rs++[r]).length z++b) rs.length r=Vr rs.length z++r::b:=by simp only[Vp,Vpa,Vta,Vzb];rw[List.replicate_succ',Vma,Vfc _ _ (by simp)];simp
    rw[l,Zx (by omega) (by omega)]
   ·rw[u (r::b) z];simp
 unfold F22;subst e;simp only[Tr.unc,Za];have o:decide ((0:Int)<=(rs.length:Int)/\(rs.length:Int)<=(rs.length:Int)/\(rs.length:Int)<=(ZC:Int))=true:=Ze ⟨by omega,by omega,by have:(ZC:Int)=549755813888:=rfl;omega⟩;rw[o,show ZF true=some () from rfl];simp only[Za];have p:Va .i64 ((rs.length:Int) - 1)=(rs.length:Int) - 1:=Zx (by omega) (by omega);rw[p,Vj];have:=key h [] ((0:Int),(0:Int),(0:Int),(0:Int),());rw[Vda,Vda]at this;refine KD (fun r=>r=rs) ⟨rs,this,rfl⟩ ?_;rintro r rfl;rfl
def J9(x:Int):Prop:=0<=x/\x<=1000000000000
theorem ZeR{x:Int}(a:0<=x)(b:x<=9223372036854775807):Va .u64 x=x:=by simp [Va,Vm,Vq];omega
theorem ZjO{a d m:Int}(c:J9 a)(e:J9 d)(f:J9 m):F29 a d m=some (decide (d<=a+m)):=by
 unfold F29;unfold J9 at c e f;by_cases h:d<=a
 ·rw[Ze h,Ze (by omega:d<=a+m)];rfl
 ·rw[Zi h,ZeR e.1 (by omega),ZeR c.1 (by omega),ZeR (by omega) (by omega),ZeR f.1 (by omega)]
  have:decide (d - a<=m)=decide (d<=a+m):=by
   by_cases b:d<=a+m
   ·rw[Ze b,Ze (by omega)]
   ·rw[Zi b,Zi (by omega)]
  rw[Zc,this];rfl
theorem ZqQ(x y:Int):imax x y=max x y:=by
 unfold imax
 split<;>omega
def W8(F:G3)(o:Option Int)(p:ZcZ)(d:Int):Int:=match o with
 |none=>p.2.1
 |some a=>if d<=a+F.2.2.1 then max 0 (p.2.1 - F.2.1) else p.2.1
structure ZhV (F:G3):Prop where
 disc:J9 F.2.1
 wit:J9 F.2.2.1
 price:∀p∈F.1,J9 p.2.1
def Zh0(r:Jo):Prop:=J9 r.1/\J9 r.2.1
theorem Zmg{S:List Jo->List Int->Prop}{F:G3}{o:List Jo}{s:JN}(h:XX S F o s)(hF:ZhV F){p:ZcZ}(A:p∈F.1){rs:List Jo}(u:∀r∈rs,Zh0 r)(E:rs.length<=8){i:Nat}{r:Jo}(z:rs[i]? =some r):
 F24 s p rs (i:Int)=some (W8 F ((rs.take i).getLast?.map fun x=>x.2.1) p r.1):=by
 obtain⟨r0,v,t,rfl,_,_,_⟩:=h.head;obtain⟨g,c⟩:=Vra.1 z;unfold F24;have j:=hF.price p A;have f:=hF.disc
 cases i with
 |zero=>
  simp [W8]
 |succ i=>
  have w:decide ((0:Int)<((i+1:Nat):Int))=true:=Ze (by omega);have y:Va .i64 (((i+1:Nat):Int) - 1)=(i:Int):=by rw[Zx (by omega) (by omega)];omega
  have C:idx rs (i:Int)=some rs[i]:=ZA (by omega);have D:idx rs ((i+1:Nat):Int)=some r:=by rw[ZA g,c]
  have b:(rs.take (i+1)).getLast?=some rs[i]:=by
   have:i<rs.length:=by omega
   rw[Vsb,Vqa,Vsa (by omega),Vqc,Zo (by omega),Vlb,Vc this]
  rw[w,Zd,y,b];have k:=u rs[i] (Ve _);have l:=u r (c▸Ve _);have B:=ZjO (a:=(rs[i]).2.1) (d:=r.1) (m:=F.2.2.1) k.2 l.1 hF.wit;simp only[C,D,Za,Tr.unc,B,Vdc,W8];by_cases e:r.1<=(rs[i]).2.1+F.2.2.1
  ·rw[Ze e,Zd,Zo e];unfold J9 at j f;rw[Zx (by omega) (by omega)];exact congrArg some (ZqQ _ _)
  ·rw[Zi e,Zc,Zg e]
end Q
namespace Q
open Tr Go
def Kn(v:ZK):Dm.Ride:=⟨v.1,v.2.1,v.2.2.1.toNat,v.2.2.2.1.toNat⟩
def KF(F:Ke)(p:Nat):JM:=(F.1[p]?).getD p0
theorem ZiL{z a:Nat}(h:z ||| a=a):∀k,Wi k z<=Wi k a
 |0=>Vba _
 |k+1=>by
  have f:=ZiL h k
  have c:(z >>> k) % 2<=(a >>> k) % 2:=by
   have b:z.testBit k=true->a.testBit k=true:=by
    grind
   have e:∀y:Nat,(y >>> k) % 2=(y.testBit k).toNat:=by
    intro y;rw[Vza,Vw];have:y / 2 ^ k % 2<2:=by omega
    by_cases d:y / 2 ^ k % 2=1
    all_goals grind
   grind
  show Wi k z+(z >>> k) % 2<=Wi k a+(a >>> k) % 2;omega
theorem Zus(x:Nat)(h:x<2 ^ 64):Va .i64 (x:Int)=0↔x=0:=by simp [Va,Vm,Vq];omega
theorem ZnQ(a b:Nat)(c:Int):Tr.qandNot .i64 ((a ||| b:Nat):Int) c=0↔Tr.qandNot .i64 (a:Int) c=0/\Tr.qandNot .i64 (b:Int) c=0:=by
 unfold Tr.qandNot;have d:∀x:BitVec 64,x.toNat<2 ^ 64:=fun x=>x.isLt
 have e:Vg Vs.bits ((a ||| b:Nat):Int)=Vg Vs.bits (a:Int) ||| Vg Vs.bits (b:Int):=by simp
 have f:∀x:BitVec 64,Va .i64 (x.toNat:Int)=0↔x=0#64:=fun x=>by
  rw[Zus _ (d _)];constructor
  ·intro h;exact Vab h
  grind
 rw[e];refine(f _).trans (Iff.trans ?_ (and_congr (f _) (f _)).symm);show (Vg 64 (a:Int) ||| Vg 64 (b:Int)) &&& ~~~ Vg 64 c=0#64↔Vg 64 (a:Int) &&& ~~~ Vg 64 c=0#64/\Vg 64 (b:Int) &&& ~~~ Vg 64 c=0#64
 grind
theorem Zek{F:Ke}(hF:RA F)(p:Nat):0<=(KF F p).2.1:=by
 unfold KF
 cases h:F.1[p]? with
 |none=>exact Vna _
 |some x=>exact(hF.price x (Vjc h)).1
def WA(F:Ke)(hF:RA F):Dm.Law where
 len p:=(KF F p).2.2.1.toNat
 ok p a d:=d<=a+(KF F p).2.2.2.2.1
 zok p z:=((Wi 62 z:Nat):Int)<=(KF F p).2.2.2.1
 mok p m:=Tr.qandNot .i64 (m:Int) (KF F p).2.2.2.2.2.1=0
 tp o p d:=W8 F o (KF F p) d
 D:=F.2.1
 ok_mono:=by intro p a b d c e;omega
 zok_mono:=by intro p z g c e;have:=ZiL c 62;omega
 mok_or:=fun p m f=>ZnQ m f _
 tp_none:=by
  intro o p d;have:=Zek hF p;have:=hF.disc
  cases o with
  |none=>exact Vna _
  |some a=>simp only[W8];split<;>omega
 tp_disc:=by
  intro o p d;have:=Zek hF p;have:=hF.disc
  cases o with
  |none=>simp only[W8];omega
  |some a=>simp only[W8];split<;>omega
 tp_nonneg:=by
  intro o p d;have:=Zek hF p
  cases o with
  |none=>exact this
  |some a=>simp only[W8];split<;>omega
 tp_late:=by
  intro a b p d h;have:=Zek hF p;have:=hF.disc
  simp only[W8];split<;>split<;>omega
end Q
namespace Q
open Tr Go
structure FO (F:Ke):Prop where
 head:HI F=true
 many:F.1.length<=16
 nums:∀p∈F.1,Yz p=true
theorem W5{F:Ke}(h:(Js F).2=0):FO F:=by
 unfold Js at h;by_cases d:HI F=false
 ·grind
 rw[Zg d]at h;by_cases b:16<F.1.length
 ·grind
 rw[Zg b]at h;have f:=Za9 h;refine⟨by grind,by omega,fun p e=>?_⟩;obtain⟨i,c,rfl⟩:=Via e;have a:=f i c;unfold Ho at a;rw[Kq c]at a;obtain⟨_,_,g⟩:=GT.1 a
 grind
theorem FO.heads{F:Ke}(h:FO F):(0<=F.2.1/\F.2.1<=1000000)/\(0<=F.2.2.1/\F.2.2.1<=86400)/\0<=F.2.2.2.1/\F.2.2.2.1<=1000000:=by
 have:=h.head;unfold HI at this
 grind
theorem FO.prod{F:Ke}(h:FO F){p:JM}(a:p∈F.1):(0<=p.2.1/\p.2.1<=1000000)/\(1<=p.2.2.1/\p.2.2.1<=8)/\(1<=p.2.2.2.1/\p.2.2.2.1<=16)/\(0<=p.2.2.2.2.1/\p.2.2.2.2.1<=86400)/\1<=p.2.2.2.2.2.1/\p.2.2.2.2.2.1<=255:=by
 have:=h.nums p a;unfold Yz at this
 grind
theorem FO.fareOk{F:Ke}(h:FO F):RA F:=⟨h.heads.1,h.heads.2.2.1,fun p a=>(h.prod a).1,h.many⟩
theorem FO.farOk{F:Ke}(h:FO F):ZhV F where
 disc:=by have:=h.heads;exact⟨by omega,by omega⟩
 wit:=by have:=h.heads;exact⟨by omega,by omega⟩
 price:=fun p a=>by have:=(h.prod a).1;exact⟨by omega,by omega⟩
def Yn(v:ZK):Prop:=Small v/\Zh0 v
theorem ZmY{a b d:Int}(c:J9 a)(e:J9 b)(f:J9 d):GC a b d=decide (b<=a+d):=by
 have:=ZjO c e f;unfold F29 at this;unfold GC
 grind
theorem ZhO:∀(s:List ZK) (a:Nat),s.foldl (fun a v=>a ||| v.2.2.1.toNat) a=a ||| Dm.zns (s.map Kn)
 |[],a=>by simp [Dm.zns]
 |v::s,a=>by
  rw[Vac,ZhO s];show _=a ||| (v.2.2.1.toNat ||| Dm.zns (s.map Kn))
  grind
theorem ZgN:∀(s:List ZK) (a:Nat),s.foldl (fun a v=>a ||| v.2.2.2.1.toNat) a=a ||| Dm.mds (s.map Kn)
 |[],a=>by simp [Dm.mds]
 |v::s,a=>by
  rw[Vac,ZgN s];show _=a ||| (v.2.2.2.1.toNat ||| Dm.mds (s.map Kn))
  grind
theorem Zkj:∀(l:List ZK) (r:ZK),Dm.lastD r.1 (l.map Kn)=(((r::l)[(r::l).length - 1]?).getD GX).1
 |[],r=>rfl
 |x::l,r=>by show Dm.lastD x.1 (l.map Kn)=_;rw[Zkj l x];simp
theorem Zdx{F:Ke}(h:FO F){p:Nat}(t:p<F.1.length){r:ZK}{l:List ZK}(i:∀v∈r::l,Yn v):Ge (KF F p) (r::l)=true↔Dm.Cov (WA F h.fareOk) p (Kn r) (l.map Kn):=by
 have m:KF F p∈F.1:=by
  unfold KF
  grind
 have o:=h.prod m
 have c:(((r::l)[(r::l).length - 1]?).getD GX)∈r::l:=by simp
 have s:=ZmY (a:=r.1) (b:=(((r::l)[(r::l).length - 1]?).getD GX).1) (d:=(KF F p).2.2.2.2.1) (i r (by simp)).2.1 (i _ c).2.1 ⟨by omega,by omega⟩;unfold Ge;rw[show (((r::l)[0]?).getD GX)=r from rfl,s];simp only[Vi,KL]
 have j:zF (r::l)=Dm.zns (Kn r::l.map Kn):=by
  have:=ZhO (r::l) 0;rw[Vgc]at this
  assumption
 have em:mF (r::l)=Dm.mds (Kn r::l.map Kn):=by
  have:=ZgN (r::l) 0;rw[Vgc]at this
  assumption
 rw[j,em, <-Zkj];unfold Dm.Cov;show _↔(l.map Kn).length+1<=((KF F p).2.2.1).toNat/\Dm.lastD r.1 (l.map Kn)<=r.1+(KF F p).2.2.2.2.1/\_/\_;rw[Vn,Vpa];constructor
 ·rintro ⟨k,e,f,g⟩;exact⟨by omega,f,e,g⟩
 ·rintro ⟨k,e,f,g⟩;exact⟨by omega,f,e,g⟩
end Q
namespace Q
open Tr Go
def JY(S:Int->Prop)(b:Int):Prop:=(b= -1/\ ∀s,¬S s)\/(0<=b/\Dm.Least S b)
theorem JY.congr{S T:Int->Prop}{b:Int}(h:JY S b)(e:∀s,S s↔T s):JY T b:=by
 have:S=T:=by grind
 grind
theorem JY.add{S:Int->Prop}{b c:Int}(h:JY S b)(d:0<=c):JY (fun s=>S s\/s=c) (if b<0\/c<b then c else b):=by
 rcases h with ⟨rfl,h⟩|⟨e,f,g⟩
 ·rw[Zo (by omega)];refine .inr ⟨d,.inr rfl,?_⟩
  grind
 ·by_cases a:c<b
  ·rw[Zo (.inr a)];refine .inr ⟨d,.inr rfl,?_⟩
   grind
  ·rw[Zg (by omega)];refine .inr ⟨e,.inl f,?_⟩
   grind
theorem Zrw{L:Dm.Law}{np:Nat}{o:Option Int}{l:List Dm.Ride}{s:Int}(h:Dm.LS L np o l s):(l=[]/\s=0)\/ ∃l0 r b p a,l=l0++r::b/\Dm.LS L np o l0 a/\p<np/\Dm.Cov L p r b/\s=a+L.tp (Dm.lastO o l0) p r.dep:=by
 induction h with
 |nil o=>simp
 |cons g f h j=>
  rename_i o r l c p s;rcases j with ⟨rfl,rfl⟩|⟨l0,m,b,k,a,rfl,i,e,d,rfl⟩
  ·exact .inr ⟨[],r,l,p,0,by simp,.nil _,g,f,by simp [Dm.lastO]⟩
  ·refine .inr ⟨r::(l++l0),m,b,k,L.tp o p r.dep+a,by simp,.cons g f i,e,d,?_⟩
   have:Dm.lastO o (r::(l++l0))=Dm.lastO (Dm.lastO none (r::l)) l0:=by show Dm.lastO (some r.arr) (l++l0)=_;rw[Dm.lastO_append];rfl
   grind
theorem Zrx{L:Dm.Law}{np:Nat}{o:Option Int}{l0 b:List Dm.Ride}{r:Dm.Ride}{p:Nat}{a:Int}(d:Dm.LS L np o l0 a)(f:p<np)(e:Dm.Cov L p r b):Dm.LS L np o (l0++r::b) (a+L.tp (Dm.lastO o l0) p r.dep):=by
 refine d.append ?_;have:=Dm.LS.cons (c:=[]) (o:=Dm.lastO o l0) f e (.nil _)
 grind
theorem ZgL{F:Ke}(h:FO F){o:Option Int}{l:List Dm.Ride}{s:Int}(a:Dm.LS (WA F h.fareOk) F.1.length o l s):s<=1000000* (l.length:Int):=by
 induction a with
 |nil=>simp
 |cons i f g j=>
  rename_i o r l c p s;have b:=(WA F h.fareOk).tp_none o p r.dep;have d:(WA F h.fareOk).tp none p r.dep=(KF F p).2.1:=rfl
  have e:(KF F p).2.1<=1000000:=by
   have:KF F p∈F.1:=by unfold KF;grind
   exact(h.prod this).1.2
  grind
def Zfc(F:Ke)(h:FO F)(rs:List ZK)(a:List Int):Prop:=a.length=9/\ ∀i,i<=rs.length->∃x,a[i]? =some x/\JY (Dm.LS (WA F h.fareOk) F.1.length none ((rs.take i).map Kn)) x
abbrev H5(F:Ke)(h:FO F):List ZK->JN->Prop:=XX (Zfc F h) F
theorem Ra(l:List ZK):Dm.lastO none (l.map Kn)=l.getLast?.map fun x=>x.2.1:=by
 have:∀(l:List ZK) (o:Option Int),Dm.lastO o (l.map Kn)=(l.getLast?.map fun x=>x.2.1).or o:=by
  intro l
  induction l with
  |nil=>intro o;rfl
  |cons r l a=>
   intro o;show Dm.lastO (some r.2.1) (l.map Kn)=_
   grind
 grind
end Q
namespace Q
open Tr Go
theorem Wo{α β:Type}{o:Option α}{f:α->Option β}{Q:β->Prop}(P:α->Prop)(h:∃r,o=some r/\P r)(k:∀r,P r->∃z,f r=some z/\Q z):∃z,Vb o f=some z/\Q z:=by
 grind
theorem Ztp{α β:Type}{o:Option β}{g:α->β}{Q:α->Prop}(h:∃z,o=some z/\ ∃s,z=g s/\Q s):∃s,o=some (g s)/\Q s:=by
 grind
theorem XX.mono{S T:List Jo->List Int->Prop}(c:∀a b,S a b->T a b){F:G3}{rs:List Jo}{s:JN}(h:XX S F rs s):XX T F rs s:=by
 induction h with
 |start h=>exact .start (c _ _ h)
 |snoc f d h e=>exact .snoc e d (c _ _ h)
theorem Zhr{n i:Nat}(h:i<=n):sliceB n n (some (i:Int)) none=some (i,n):=by
 unfold sliceB
 grind
theorem Zmk{α:Type}(l:List α)(i:Nat):Vpb (l.length - i) (Vid i l)=l.drop i:=by rw[Vec];simp
theorem JY.cof{S T:Int->Prop}{b:Int}(h:JY S b)(c:∀s,S s->T s)(e:∀t,T t->∃s,s<=t/\S s):JY T b:=by
 rcases h with ⟨rfl,h⟩|⟨a,d,f⟩
 ·exact .inl (by grind)
 ·exact .inr ⟨a,c _ d,by grind⟩
def GF(F:Ke)(l:List ZK)(b:List Int)(i p:Nat)(s:Int):Prop:= ∃a r,b[i]? =some a/\0<=a/\l[i]? =some r/\Ge (KF F p) (l.drop i)=true/\s=a+W8 F ((l.take i).getLast?.map fun x=>x.2.1) (KF F p) r.1
theorem ZtC{F:Ke}(h:FO F){rs:List ZK}{s:JN}(hs:H5 F h rs s){r:ZK}(hr:∀v∈rs++[r],Yn v)(hl:rs.length+1<=8):
 ∃s',F21 s r=some (s',0)/\H5 F h (rs++[r]) s' :=by
 obtain⟨r0,d,t,e,⟨d0,hS⟩,_,_⟩:=hs.head;generalize hL:rs++[r]=l at hr;have b8:l.length=rs.length+1:=by grind
 have D:∀i,i<l.length->∃x,d[i]? =some x/\JY (Dm.LS (WA F h.fareOk) F.1.length none ((l.take i).map Kn)) x/\x<=8000000:=by
  intro i o;obtain⟨x,j,k⟩:=hS i (by omega);have:l.take i=rs.take i:=by grind
  rw[this];refine⟨x,j,k,?_⟩;rcases k with ⟨rfl,_⟩|⟨_,Z,_⟩
  ·omega
  ·have:=ZgL h Z
   grind
 have c8:F.1.length<=16:=h.many
 have inner:∀(nd:JN),XX (fun _ _=>True) F l nd->∀i,i<l.length->∀(C:Int->Prop) (Y:Int),JY C Y->
  ∃b,run (fun f:Int×Int=>
   bif decide (f.2<(F.1.length:Int)) then
   Vb (idx F.1 f.2) fun U=>
   Vb
   (Vb (Zn (i:Int) (9:Nat)) fun b2=>
   Vb d[b2]? fun b3=>
   bif decide (b3<(0:Int)) then some true
   else
   Vb (sliceB (Vh l) (Vh l) (some (i:Int)) none) fun I=>
   Vb (F111 U (Vpb (I.2 - I.1) (Vid I.1 l))) fun b4=>some !b4)
   fun b5=>
   bif b5 then some (.inl (f.1,Va .i64 (f.2+(1:Int))))
   else
   Vb (Zn (i:Int) (9:Nat)) fun b6=>
   Vb d[b6]? fun V=>
   Vb (F24 nd U l (i:Int)) fun W=>
   Vb
   (bif decide (f.1<(0:Int)) then some true
   else some (decide (Va .i64 (V+W)<f.1)))
   fun b7=>
   bif b7 then some (.inl (Va .i64 (V+W),Va .i64 (f.2+(1:Int))))
   else some (.inl (f.1,Va .i64 (f.2+(1:Int))))
   else some (.inr f.1)) (Y,0)=some b/\JY (fun s=>C s\/ ∃p,p<F.1.length/\GF F l d i p s) b:=by
  intro nd z i o C Y c5;refine Kf F.1.length (fun b=>JY (fun s=>C s\/ ∃p,p<F.1.length/\GF F l d i p s) b) (fun p s=>s.2=(p:Int)/\JY (fun s=>C s\/ ∃w,w<p/\GF F l d i w s) s.1) ?_ ?_ _ (by grind)
  ·rintro p ⟨b,_⟩ u ⟨rfl,J⟩;left;simp only at J;have hx:idx F.1 (p:Int)=some F.1[p]:=ZA u;have c9:KF F p=F.1[p]:=by unfold KF;grind
   obtain⟨a,X,c4,c2⟩:=D i o;have m:l.drop i=l[i]::l.drop (i+1):=Vk o;have K:F111 F.1[p] (l.drop i)=some (Ge F.1[p] (l.drop i)):=Zjh (fun v hv=>(hr v (Vfa hv)).1) (by grind) (by grind) (h.prod (Ve u)).2.2.2.1.1;have A:=Zmg z h.farOk (Ve u) (fun v hv=>(hr v hv).2) (by omega) (Vc o);simp only[ZL u,Zd,hx,Za,Kg (show i<9 by omega),X,Zhr (Vsc o),Zmk,K,A,ZU u (by omega)];have skip:(∀s,¬GF F l d i p s)->JY (fun s=>C s\/ ∃w,w<p+1/\GF F l d i w s) b:=fun hn=>J.congr (by grind);by_cases E:a<0
   ·rw[Ze E];refine⟨_,rfl,rfl,skip ?_⟩;rintro s ⟨a',y,j,k,_⟩
    grind
   ·rw[Zi E];simp only[Zc,Za]
    cases G:Ge F.1[p] (l.drop i) with
    |false=>
     refine⟨_,rfl,rfl,skip ?_⟩;rintro s ⟨a',y,_,_,_,j,_⟩
     grind
    |true=>
     simp only[Vd,Zc]
     have O:0<=W8 F ((l.take i).getLast?.map fun x=>x.2.1) F.1[p] l[i].1:=by
      have:=(WA F h.fareOk).tp_nonneg ((l.take i).getLast?.map fun x=>x.2.1) p l[i].1;have e2:(WA F h.fareOk).tp ((l.take i).getLast?.map fun x=>x.2.1) p l[i].1=W8 F ((l.take i).getLast?.map fun x=>x.2.1) (KF F p) l[i].1:=rfl
      grind
     have P:W8 F ((l.take i).getLast?.map fun x=>x.2.1) F.1[p] l[i].1<=1000000:=by
      have j:=(h.prod (Ve u)).1;have k:=h.heads.1;unfold W8;split
      all_goals omega
     generalize d1:W8 F ((l.take i).getLast?.map fun x=>x.2.1) F.1[p] l[i].1=tp at O P;have hw:Va .i64 (a+tp)=a+tp:=Zx (by omega) (by omega);rw[hw]
     have b9:=(J.add (c:=a+tp) (by omega)).congr (T:=fun s=>C s\/ ∃w,w<p+1/\GF F l d i w s) fun s=>by
      constructor
      ·rintro ((j|⟨w,j,k⟩) |rfl)
       ·grind
       ·grind
       ·exact .inr ⟨p,by omega,a,l[i],X,by omega,Vc o,by grind,by grind⟩
      ·rintro (j|⟨w,j,k⟩)
       ·grind
       ·rcases Vua w p with Z|Z
        ·grind
        ·have:w=p:=by omega
         subst this;obtain⟨a',y,k1,k2,k3,k4,rfl⟩:=k
         grind
     by_cases a0:b<0
     ·simp_all
     ·rw[Zi a0];simp only[Zc,Za];by_cases a1:a+tp<b
      ·simp_all
      ·rw[Zi a1]
       grind
  simp
 subst e;have hw:Va .i64 ((rs.length:Int)+1)=((rs.length+1:Nat):Int):=by rw[Zx (by omega) (by omega)];omega
 have z:XX (fun _ _=>True) F l ((some F,r,((rs.length+1:Nat):Int),d,())::(some F,r0,(rs.length:Int),d,())::t):=hL▸ .snoc (hs.mono (by simp)) hl trivial;have H:=Zkv z;unfold F21;have h8:decide ((8:Int)<=(rs.length:Int))=false:=by grind
 have h9:Zn ((rs.length+1:Nat):Int) (9:Nat)=some (rs.length+1):=Kg (by omega);have M:d[rs.length+1]? =some d[rs.length+1]:=by simp
 simp only[Tr.unc,Za,List.isEmpty_cons,Zc,h8,hw,H,h9,M];refine Ztp (g:=fun s' =>(s',(0:Int))) (Wo (fun b=>JY (fun s=>∃i,i<l.length/\ ∃p,p<F.1.length/\GF F l d i p s) b) ?_ fun b e2=>⟨_,rfl,_,rfl,?_⟩)
 rotate_left
 ·show XX (Zfc F h) F l _;rw[<-hL];refine .snoc hs hl ?_;rw[hL];refine⟨by grind,fun i o=>?_⟩;by_cases c6:i<l.length
  ·grind
  ·have a3:i=rs.length+1:=by omega
   subst a3
   refine⟨b,by grind,e2.cof (fun s=>?_) fun s=>?_⟩<;>rw[Vec (by omega)]
   ·rintro ⟨i,o,p,u,a,y,X,E,a6,G,rfl⟩;obtain⟨x,j,k,_⟩:=D i o;rw[X]at j;cases j;rcases k with ⟨rfl,_⟩|⟨_,k,_⟩
    ·omega
    have a7:=Vra.1 a6;have m:l.drop i=y::l.drop (i+1):=by rw[Vk o,a7.2]
    rw[m]at G;have hc:=(Zdx h u (by grind)).1 G;have:=Zrx k u hc;rw[Ra]at this
    have e3:(l.take i).map Kn++Kn y::(l.drop (i+1)).map Kn=l.map Kn:=by rw[<-Vaa, <-m, <-Vv,Vx]
    rw[e3]at this
    assumption
   ·intro a5;rcases Zrw a5 with ⟨j,_⟩|⟨l0,r1,l1,p,a,j,k,u,hc,rfl⟩
    ·simp_all
    ·obtain⟨B,d3,c1,k1,k2⟩:=Vya.1 j;obtain⟨y,m1,S,k3,k4⟩:=Vkc.1 k2;subst S;have a4:l.length=B.length+(m1.length+1):=by grind
     have N:l.take B.length=B:=by grind
     have a2:l.drop B.length=y::m1:=by grind
     obtain⟨x,a9,Q,_⟩:=D B.length (by omega);rw[N,k1]at Q;rcases Q with ⟨_,c7⟩|⟨a8,d2,b1⟩
     ·grind
     refine⟨x+W8 F ((l.take B.length).getLast?.map fun x=>x.2.1) (KF F p) y.1,?_,B.length,by omega,p,u,x,y,a9,a8,?_,?_,rfl⟩
     ·have:=b1 a k
      have e5:(WA F h.fareOk).tp (Dm.lastO none l0) p r1.dep=W8 F ((l.take B.length).getLast?.map fun x=>x.2.1) (KF F p) y.1:=by rw[N, <-Ra,k1, <-k3];rfl
      omega
     ·grind
     ·rw[a2];refine(Zdx h u (by grind)).2 ?_
      grind
 refine Kf l.length (fun b=>JY (fun s=>∃i,i<l.length/\ ∃p,p<F.1.length/\GF F l d i p s) b) (fun i s=>s.2=(i:Int)/\JY (fun s=>∃R,R<i/\ ∃p,p<F.1.length/\GF F l d R p s) s.1) ?_ ?_ _ ⟨rfl,.inl (by simp)⟩
 ·rintro i ⟨b,_⟩ o ⟨rfl,J⟩;left;simp only[ZL o,Zd,ZU o (by omega)];refine Xr (fun b=>JY (fun s=>∃R,R<i+1/\ ∃p,p<F.1.length/\GF F l d R p s) b) ?_ (by simp);obtain⟨b',j,k⟩:=inner _ z i o _ b J;refine⟨b',j,k.congr fun s=>?_⟩
  grind
 simp
end Q
namespace Q
open Tr Go
def on1(x:Int):Int:=Va .u64 (ZB .u64 (Vxa x ((2:Int) ^ Min.min (Vea (1:Int)) (Go.IntKind.bits .u64))) (6148914691236517205:Int)+ZB .u64 x (6148914691236517205:Int))
def on2(x:Int):Int:=Va .u64 (ZB .u64 (Vxa x ((2:Int) ^ Min.min (Vea (2:Int)) (Go.IntKind.bits .u64))) (3689348814741910323:Int)+ZB .u64 x (3689348814741910323:Int))
def on3(x:Int):Int:=ZB .u64 (Va .u64 (Vxa x ((2:Int) ^ Min.min (Vea (4:Int)) (Go.IntKind.bits .u64))+x)) (1085102592571150095:Int)
def on4(k:Int)(x:Int):Int:=Va .u64 (x+Vxa x ((2:Int) ^ Min.min (Vea k) (Go.IntKind.bits .u64)))
def Zee(a:Int):Int:=ZB .i64 (Va .i64 (on4 32 (on4 16 (on4 8 (on3 (on2 (on1 a))))))) 127
def no1(x:Nat):Nat:=((x / 2 &&& 6148914691236517205)+(x &&& 6148914691236517205)) % 18446744073709551616
def no2(x:Nat):Nat:=((x / 4 &&& 3689348814741910323)+(x &&& 3689348814741910323)) % 18446744073709551616
def no3(x:Nat):Nat:=((x / 16+x) % 18446744073709551616) &&& 1085102592571150095
def Dq(m:Nat)(x:Nat):Nat:=(x+x / m) % 18446744073709551616
def Zcm(a:Nat):Nat:=(Dq 4294967296 (Dq 65536 (Dq 256 (no3 (no2 (no1 a))))) % 9223372036854775808) &&& 127
theorem ZcP(x:Nat):Va .u64 (x:Int)=((x % 18446744073709551616:Nat):Int):=by simp [Va,Vq,Vm]
theorem Zcr{a b:Nat}(c:a<18446744073709551616)(d:b<18446744073709551616):ZB .u64 (a:Int) (b:Int)=((a &&& b:Nat):Int):=by
 unfold ZB
 have:(Vg Vha.bits (a:Int) &&& Vg Vha.bits (b:Int)).toNat=a &&& b:=by rw[Vtb,Vfb,Vfb,Vkb,Vkb];show a % 18446744073709551616 &&& b % 18446744073709551616=_;rw[Vub c,Vub d]
 rw[this,ZcP,Vub (Vmb Nat.and_le_left c)]
theorem ZdH(x:Nat)(k:Nat):Vxa (x:Int) ((2:Int) ^ k)=((x / 2 ^ k:Nat):Int):=by rw[Vnb _ (by exact Int.le_of_lt (Int.pow_pos (by omega)))];simp
theorem ZrM{x:Nat}(h:x<18446744073709551616):on1 (x:Int)=((no1 x:Nat):Int):=by unfold on1 no1;have e:Min.min (Vea (1:Int)) (Go.IntKind.bits .u64)=1:=rfl;have a:x / 2 ^ 1<18446744073709551616:=Vmb (Vbc _ _) h;rw[e,ZdH,show (6148914691236517205:Int)=((6148914691236517205:Nat):Int) from rfl,Zcr a (by decide),Zcr h (by decide), <-Vhb,ZcP]
theorem ZrN{x:Nat}(h:x<18446744073709551616):on2 (x:Int)=((no2 x:Nat):Int):=by unfold on2 no2;have e:Min.min (Vea (2:Int)) (Go.IntKind.bits .u64)=2:=rfl;have a:x / 2 ^ 2<18446744073709551616:=Vmb (Vbc _ _) h;rw[e,ZdH,show (3689348814741910323:Int)=((3689348814741910323:Nat):Int) from rfl,Zcr a (by decide),Zcr h (by decide), <-Vhb,ZcP]
theorem ZrO(x:Nat):on3 (x:Int)=((no3 x:Nat):Int):=by unfold on3 no3;have e:Min.min (Vea (4:Int)) (Go.IntKind.bits .u64)=4:=rfl;rw[e,ZdH, <-Vhb,ZcP,show (1085102592571150095:Int)=((1085102592571150095:Nat):Int) from rfl,Zcr (Vvb _ (by decide)) (by decide)]
theorem ZgY{k m:Nat}(a:2 ^ Min.min k 64=m)(x:Nat):on4 (k:Int) (x:Int)=((Dq m x:Nat):Int):=by unfold on4 Dq;rw[Vj,show Go.IntKind.bits .u64=64 from rfl,ZdH, <-Vhb,ZcP,a]
theorem ZrQ{a:Nat}(h:a<18446744073709551616):Zee (a:Int)=((Zcm a:Nat):Int):=by
 unfold Zee;have e:no1 a<18446744073709551616:=Vvb _ (by decide);rw[ZrM h,ZrN e,ZrO,show (8:Int)=((8:Nat):Int) from rfl,ZgY (k:=8) rfl,show (16:Int)=((16:Nat):Int) from rfl,ZgY (k:=16) rfl,show (32:Int)=((32:Nat):Int) from rfl,ZgY (k:=32) rfl];unfold Zcm;rw[show (2:Nat) ^ Min.min 32 64=4294967296 from rfl,show (2:Nat) ^ Min.min 16 64=65536 from rfl,show (2:Nat) ^ Min.min 8 64=256 from rfl];generalize g:Dq 65536 (Dq 256 (no3 (no2 (no1 a))))=Y;have f:Dq 4294967296 Y<18446744073709551616:=Vvb _ (by decide);generalize Dq 4294967296 Y=X at*;unfold ZB
 have b:∀x:BitVec 64,(x &&& Vg 64 127).toNat=x.toNat % 128:=fun x=>by rw[Vtb,show (Vg 64 127).toNat=2 ^ 7 - 1 from rfl,Veb]
 have c:(Vg Vs.bits (Va .i64 (X:Int)) &&& Vg Vs.bits 127).toNat=X % 128:=by
  refine(b _).trans ?_
  have d:(Vg 64 (Va .i64 (X:Int))).toNat=X:=by
   rw[Vjb];simp only[Va,Vq,Vm];simp
   split<;>omega
  exact congrArg (· % 128) d
 rw[c,Zx (by omega) (by omega),show X % 9223372036854775808 &&& 127=X % 9223372036854775808 % 128 from Veb _ 7];omega
def chk:Nat->Nat->Nat->Bool:=fun k=>Nat.rec (fun b c=>Nat.beq (Zcm b) c) (fun _ a b c=>(a (2*b) c).and (a (2*b+1) (c+1))) k
theorem Zph:chk 16 0 0=true:=by kernel_rfl
theorem ZiK(s m:Nat):∀k,k<=m->Wi k (s % 2 ^ m)=Wi k s
 |0,_=>rfl
 |k+1,h=>by
  rw[Wi,Wi,ZiK s m k (by omega)]
  have e:∀y:Nat,(y >>> k) % 2=(y.testBit k).toNat:=by
   intro y;rw[Vza,Vw];have:y / 2 ^ k % 2<2:=Vvb _ (by omega);by_cases a:y / 2 ^ k % 2=1
   ·simp [a]
   ·rw[Zi a];simp only[Bool.toNat_false];omega
  rw[e,e,Nat.testBit_mod_two_pow,Ze (show k<m by omega),Vhd]
theorem Zpg:∀(k b c z:Nat),chk k b c=true->z<2 ^ k->Zcm (2 ^ k*b+z)=c+Wi k z:=by
 intro k
 induction k with
 |zero=>
  intro b c z h f;have:z=0:=by simpa using f
  subst this;have:=Nat.eq_of_beq_eq_true (show Nat.beq (Zcm b) c=true from h)
  simpa [Wi] using this
 |succ k l=>
  intro b c z h f;have a:(chk k (2*b) c).and (chk k (2*b+1) (c+1))=true:=h;rw[Vi]at a;have i:0<2 ^ k:=Nat.pow_pos (by omega);rw[Vtc]at f;have o:Wi k (z % 2 ^ k)=Wi k z:=ZiK z k k (Vba _);have e:z % 2 ^ k<2 ^ k:=Vvb _ i;have d:2 ^ k* (z / 2 ^ k)+z % 2 ^ k=z:=Nat.div_add_mod z (2 ^ k);rw[Wi,Vw];by_cases j:z<2 ^ k
  ·have m:z / 2 ^ k=0:=Nat.div_eq_of_lt j;have:=l (2*b) c z a.1 j;rw[m, <-Nat.add_assoc,Vtc,show 2 ^ k*2*b=2 ^ k* (2*b) by rw[Vjd],this];rfl
  ·have g:z / 2 ^ k=1:=by
    rw[Nat.div_eq_iff i];constructor<;>omega
   have:=l (2*b+1) (c+1) (z % 2 ^ k) a.2 e;rw[o]at this;rw[g,Nat.mul_one]at d;rw[g,show 2 ^ (k+1) *b+z=2 ^ k* (2*b+1)+z % 2 ^ k by rw[Vtc,Nat.mul_add,Nat.mul_one,Vjd];omega,this];omega
theorem ZrP{z:Nat}(h:z<65536):Zee (z:Int)=((Wi 62 z:Nat):Int):=by rw[ZrQ (by omega)];have:=Zpg 16 0 0 z Zph h;rw[Nat.mul_zero,Vzb,Vzb]at this;rw[this,Zdj,Zdj,ZfS 16 62 z h (by omega)]
end Q
namespace Q
open Tr Go
theorem ZrR{z:Nat}(h:z<65536):F86 (z:Int)=some ((Wi 62 z:Nat):Int):=by have:F86 (z:Int)=some (Zee (z:Int)):=rfl;rw[this,ZrP h]
abbrev Zas:=Int×Int×Int×Int×Int×Unit
def H2(F:Ke)(l:List ZK)(b:List Int)(i p:Nat)(x:Zas):Prop:=
 ∃a r,l[i]? =some r/\b[i]? =some a/\0<=a/\((l.length:Int) - (i:Int)<(KF F p).2.2.1/\((Wi 62 (zF (l.drop i)):Nat):Int)<=(KF F p).2.2.2.1/\Tr.qandNot .i64 ((mF (l.drop i):Nat):Int) (KF F p).2.2.2.2.2.1=0)/\
  x=((p:Int),r.1,(l.length:Int) - (i:Int),a+W8 F ((l.take i).getLast?.map fun x=>x.2.1) (KF F p) r.1,((zF (l.drop i):Nat):Int),())
theorem Zmm{F:Ke}(h:FO F){rs:List ZK}{s:JN}(U:H5 F h rs s)(hr:∀v∈rs,Yn v):
 ∃L,F25 s=some L/\L.length<=128/\ ∃r0 b t,s=(some F,r0,(rs.length:Int),b,())::t/\Zfc F h rs b/\ ∀x,x∈L↔∃i,i<rs.length/\ ∃p,p<F.1.length/\H2 F rs b i p x:=by
 obtain⟨r0,b,t,rfl,hS,h8,_⟩:=U.head;have z:F23 ((some F,r0,(rs.length:Int),b,())::t)=some rs:=Zkv U;have a7:=h.many;unfold F25;simp only[z,Za,Tr.unc]
 suffices hb:∃L:List Zas,_=some L/\(L.length<=16*rs.length/\ ∀x,x∈L↔∃i,i<rs.length/\ ∃p,p<F.1.length/\H2 F rs b i p x) by obtain⟨L,e1,e2,e3⟩:=hb;exact⟨L,KD (fun x=>x=L) ⟨L,e1,rfl⟩ (fun x B=>by subst B;rfl),by omega,_,_,_,rfl,hS,e3⟩
 refine Kf rs.length (fun L:List Zas=>L.length<=16*rs.length/\ ∀x,x∈L↔∃i,i<rs.length/\ ∃p,p<F.1.length/\H2 F rs b i p x) (fun i s=>s.2=(i:Int)/\s.1.length<=16*i/\ ∀x,x∈s.1↔∃e,e<i/\ ∃p,p<F.1.length/\H2 F rs b e p x) ?_ ?_ _ ⟨rfl,by simp,fun x=>by simp⟩
 ·rintro i ⟨L,_⟩ w ⟨rfl,hL,J⟩;left;simp only at hL J;obtain⟨a,P,S⟩:=hS.2 i (by omega)
  have X:idx b (i:Int)=some a:=by obtain⟨k,c⟩:=Vra.1 P;rw[ZA k,c]
  have Y:idx rs (i:Int)=some rs[i]:=ZA w;simp only[ZL w,Zd,X,Za,ZU w (show rs.length<=9223372036854775807 by omega)]
  have skip:(∀p x,¬H2 F rs b i p x)->∀x,x∈L↔∃e,e<i+1/\ ∃p,p<F.1.length/\H2 F rs b e p x:=fun T x=>by
   rw[J x];constructor
   ·rintro ⟨e,k,c⟩;exact⟨e,by omega,c⟩
   ·rintro ⟨e,k,p,c,H⟩;rcases Vua e i with l|l
    ·exact⟨e,l,p,c,H⟩
    ·have:e=i:=by omega
     exact absurd (this▸H) (T p x)
  by_cases I:a<0
  ·rw[Ze I];refine⟨_,rfl,rfl,by simp only;omega,skip ?_⟩;rintro p x ⟨a',r',_,c,H,_⟩;rw[P]at c;cases c;omega
  ·rw[Zi I];simp only[Zc,Zhr (Vsc w),Za,Zmk]
   have a5:a<=8000000:=by
    rcases S with ⟨rfl,_⟩|⟨_,H,_⟩
    ·omega
    ·have:=ZgL h H;have B:(((rs.take i).map Kn).length:Int)<=8:=by rw[Vn,Vqa];omega
     omega
   generalize D:rs.drop i=d;have o:∀v∈d,Small v:=fun v u=>(hr v (Vfa (D▸u))).1;have a6:d.length<=8:=by rw[<-D,Vwb];omega
   refine Xr (fun r:Int×Int=>r=(((zF d:Nat):Int),((mF d:Nat):Int))) ?_ ?_
   ·refine Kf d.length _ (fun i (t:Int×Int×Int)=>t=(((zF (d.take i):Nat):Int),((mF (d.take i):Nat):Int),(i:Int))) ?_ ?_ _ rfl
    ·rintro j _ E rfl;left;have u:=o _ (Ve E);have z1:=Rw (s:=d.take j) (fun v u=>o v (Voa u));have z2:=ZgO (s:=d.take j) (fun v u=>o v (Voa u));have ez:zF (d.take (j+1))=zF (d.take j) ||| (d[j]).2.2.1.toNat:=by unfold zF;rw[Vf E,Vy];rfl
     have em:mF (d.take (j+1))=mF (d.take j) ||| (d[j]).2.2.2.1.toNat:=by unfold mF;rw[Vf E,Vy];rfl
     refine⟨_,?_,rfl⟩;rw[ez,em];generalize zF (d.take j)=Z at*;generalize mF (d.take j)=M at*;simp only[ZL E,Zd,ZA E,Za,ZU E (show d.length<=9223372036854775807 by omega)];generalize d[j]=v at*;obtain⟨⟨a1,a2⟩,b1,b2⟩:=u;obtain⟨x,B⟩:∃x:Nat,v.2.2.1=(x:Int):=⟨_,(Vz a1).symm⟩;obtain⟨y,hy⟩:∃y:Nat,v.2.2.2.1=(y:Int):=⟨_,(Vz b1).symm⟩;have w1:Va .u64 (x:Int)=(x:Int):=by simp [Va,Vq,Vm];omega
     have w2:Va .u64 (y:Int)=(y:Int):=by simp [Va,Vq,Vm];omega
     rw[B,hy,w1,w2,Za5 (by omega) (by omega),Za5 (by omega) (by omega)];simp
    ·rintro _ rfl;simp only[JE,Zc];rw[Vja];exact⟨_,rfl,rfl⟩
   ·rintro _ rfl;have A:=ZrR (Rw o);refine Xr (fun Q:List Zas=>Q.length<=16* (i+1)/\ ∀x,x∈Q↔∃e,e<i+1/\ ∃p,p<F.1.length/\H2 F rs b e p x) ?_ fun Q c=>⟨_,rfl,rfl,c⟩
    have conv:∀x,(x∈L\/ ∃p,p<F.1.length/\H2 F rs b i p x)↔∃e,e<i+1/\ ∃p,p<F.1.length/\H2 F rs b e p x:=fun x=>by
     rw[J x];constructor
     ·rintro (⟨e,k,c⟩|c)
      ·exact⟨e,by omega,c⟩
      ·exact⟨i,by omega,c⟩
     ·rintro ⟨e,k,c⟩;rcases Vua e i with l|l
      ·exact .inl ⟨e,l,c⟩
      ·have:e=i:=by omega
       subst this;exact .inr c
    refine Kf F.1.length _ (fun p (s:List Zas×Int)=>s.2=(p:Int)/\s.1.length<=16*i+p/\ ∀x,x∈s.1↔x∈L\/ ∃f,f<p/\H2 F rs b i f x) ?_ ?_ _ ⟨rfl,by simpa using hL,fun x=>by simp⟩
    ·rintro p ⟨M,_⟩ K ⟨rfl,R,g⟩;left;simp only at R g;have B:idx F.1 (p:Int)=some F.1[p]:=ZA K;have O:KF F p=F.1[p]:=by unfold KF;rw[Kq K]
     have N:KF F p∈F.1:=O▸Ve K;have V:Va .i64 ((rs.length:Int) - (i:Int))=(rs.length:Int) - (i:Int):=Zx (by omega) (by omega);have m:=Zmg U h.farOk N (fun v u=>(hr v u).2) h8 (Vc w);rw[<-O]at B;have a3:0<=W8 F ((rs.take i).getLast?.map fun x=>x.2.1) (KF F p) rs[i].1:=(WA F h.fareOk).tp_nonneg ((rs.take i).getLast?.map fun x:ZK=>x.2.1) p rs[i].1
     have a4:W8 F ((rs.take i).getLast?.map fun x=>x.2.1) (KF F p) rs[i].1<=1000000:=by
      have k:=(h.prod N).1;have c:=h.heads.1;unfold W8;split
      ·exact k.2
      ·split<;>omega
     have W:Va .i64 (a+W8 F ((rs.take i).getLast?.map fun x=>x.2.1) (KF F p) rs[i].1)=a+W8 F ((rs.take i).getLast?.map fun x=>x.2.1) (KF F p) rs[i].1:=Zx (by omega) (by omega);simp only[ZL K,Zd,B,Za,V,A,Y,m,W,Zit,ZU K (show F.1.length<=9223372036854775807 by omega)]
     have no:¬((rs.length:Int) - (i:Int)<(KF F p).2.2.1/\((Wi 62 (zF d):Nat):Int)<=(KF F p).2.2.2.1/\Tr.qandNot .i64 ((mF d:Nat):Int) (KF F p).2.2.2.2.2.1=0)->∀x,x∈M↔x∈L\/ ∃f,f<p+1/\H2 F rs b i f x:=fun T x=>by
      rw[g x];refine or_congr Vvc ⟨fun⟨f,k,c⟩=>⟨f,by omega,c⟩,fun⟨f,k,c⟩=>?_⟩;rcases Vua f p with l|l
      ·exact⟨f,l,c⟩
      ·have:f=p:=by omega
       subst this;obtain⟨a',r',_,_,_,h5,_⟩:=c;rw[D]at h5;exact absurd h5 T
     by_cases C:(rs.length:Int) - (i:Int)<(KF F p).2.2.1
     case neg=>
      rw[Zi C];exact⟨_,rfl,rfl,by simp only;omega,no fun h=>C h.1⟩
     by_cases G:((Wi 62 (zF d):Nat):Int)<=(KF F p).2.2.2.1
     case neg=>
      rw[Ze C,Zi G];exact⟨_,rfl,rfl,by simp only;omega,no fun h=>G h.2.1⟩
     by_cases c3:Tr.qandNot .i64 ((mF d:Nat):Int) (KF F p).2.2.2.2.2.1=0
     case neg=>
      rw[Ze C,Ze G,Zi c3];exact⟨_,rfl,rfl,by simp only;omega,no fun h=>c3 h.2.2⟩
     rw[Ze C,Ze G,Ze c3];have a0:(ZC:Nat)=549755813888:=rfl;simp only[Zd,Za];rw[GU (by simp;omega)];refine⟨_,rfl,rfl,by simp;omega,fun x=>?_⟩;rw[Vca,g x,Vt,or_assoc];refine or_congr Vvc ⟨?_,?_⟩
     ·rintro (⟨f,k,c⟩|rfl)
      ·exact⟨f,by omega,c⟩
      ·exact⟨p,by omega,a,rs[i],Vc w,P,by omega,by rw[D];exact⟨C,G,c3⟩,by rw[D]⟩
     ·rintro ⟨f,k,c⟩;rcases Vua f p with l|l
      ·exact .inl ⟨f,l,c⟩
      ·have:f=p:=by omega
       subst this;obtain⟨a',r',k1,k2,_,_,rfl⟩:=c;rw[P]at k2;cases k2;rw[Vc w]at k1;cases k1;rw[D];exact .inr rfl
    ·rintro ⟨M,_⟩ ⟨rfl,R,g⟩;simp only at R g
     exact⟨M,by simp only[JE,Zc],by omega,fun x=>(g x).trans (conv x)⟩
 ·rintro ⟨L,_⟩ ⟨rfl,hL,J⟩;exact⟨L,by simp only[JE,Zc],hL,J⟩
end Q
namespace Q
open Tr Go
theorem Zjm{α:Type}{f:α->α->Bool}(b:∀x,f x x=true):∀l:List α,JQ.eqDs f l l=true
 |[]=>rfl
 |a::l=>by simp only[JQ.eqDs,Vi];exact⟨b a,Zjm b l⟩
theorem Ztc{F:Ke}(h:F.1.length<=4096):F28 (some F) (some F)=some true:=by
 show Qs.sameF (some F) (some F)=some true
 have e:JQ KU F F=true:=by
  have a:∀p:ZcZ,JQ XK p p=true:=fun p=>by simp [JQ]
  simp only[JQ,Vi];exact⟨Zjm a _,by simp⟩
 simp only[Qs.sameF,Za,e,Ze h,Bool.and_self,Zd]
theorem ZhP(l:List ZK):zF l=Dm.zns (l.map Kn):=by have:=ZhO l 0;rw[Vgc]at this;exact this
theorem ZkA(l:List ZK):mF l=Dm.mds (l.map Kn):=by have:=ZgN l 0;rw[Vgc]at this;exact this
theorem ZnR{a b:Nat}(e:a<65536)(g:b<65536)(h:Tr.qandNot .u64 (a:Int) (b:Int)=0):a ||| b=b:=by
 unfold Tr.qandNot at h;have c:=(Vg Vha.bits (a:Int) &&& ~~~ Vg Vha.bits (b:Int)).isLt
 have f:(Vg Vha.bits (a:Int) &&& ~~~ Vg Vha.bits (b:Int)).toNat=0:=by generalize (Vg Vha.bits (a:Int) &&& ~~~ Vg Vha.bits (b:Int)).toNat=N at*;have c:N<2 ^ 64:=c;simp [Va,Vq,Vm]at h;omega
 have d:(Vnd 64 a &&& ~~~ Vnd 64 b)=0#64:=by
  apply Vab
  assumption
 apply Nat.eq_of_testBit_eq;intro i;rw[Nat.testBit_or];by_cases j:i<64
 ·have:=congrArg (fun v=>v.getLsbD i) d
  grind
 ·have:a.testBit i=false:=Nat.testBit_lt_two_pow (Nat.lt_of_lt_of_le e (show 2 ^ 16<=2 ^ i from Nat.pow_le_pow_right (by omega) (by omega)))
  grind
theorem Zpz{F:Ke}(h:FO F){A B:List ZK}{s t:JN}(O:H5 F h A s)(S:H5 F h B t):
 ∃b,F26 s t=some b/\(b=true->∀y,Dm.Least (Dm.LS (WA F h.fareOk) F.1.length none (B.map Kn)) y->∃x,Dm.LS (WA F h.fareOk) F.1.length none (A.map Kn) x/\x<=y/\
  ((WA F h.fareOk).D=0\/B.map Kn=[]\/x+(WA F h.fareOk).D<=y\/ ∃u v,Dm.lastO none (A.map Kn)=some u/\Dm.lastO none (B.map Kn)=some v/\v<=u)):=by
 obtain⟨T,V,ta,rfl,⟨Q,k⟩,H,M⟩:=O.head;obtain⟨U,W,tb,rfl,⟨R,l⟩,I,N⟩:=S.head;obtain⟨a,J,d⟩:=k A.length (Vba _);obtain⟨b,K,c⟩:=l B.length (Vba _);rw[Vja]at d c
 have w:idx V (A.length:Int)=some a:=by
  assumption
 have z:idx W (B.length:Int)=some b:=by
  assumption
 have hD:(WA F h.fareOk).D=F.2.1:=rfl;have hd:=h.heads.1;unfold F26;simp only[Tr.unc,Za,w,z];by_cases e:b<0
 ·rw[Ze e];refine⟨_,rfl,fun _ y g=>?_⟩;rcases c with ⟨_,E⟩|⟨E,_⟩
  ·exact absurd g.1 (E y)
  ·omega
 rw[Zi e,Zc];by_cases m:a<0
 ·simp_all
 rw[Zi m];simp only[Zc,Za];by_cases p:b<a
 ·simp_all
 rw[Zi p];rcases d with ⟨rfl,_⟩|⟨_,o,_⟩
 ·omega
 rcases c with ⟨rfl,_⟩|⟨_,f⟩
 ·omega
 have X:a<=8000000:=by
  have:=ZgL h o
  grind
 have out:∀{P:Prop},((WA F h.fareOk).D=0\/B.map Kn=[]\/a+(WA F h.fareOk).D<=b\/ ∃u v,Dm.lastO none (A.map Kn)=some u/\Dm.lastO none (B.map Kn)=some v/\v<=u)->P->∀y,Dm.Least (Dm.LS (WA F h.fareOk) F.1.length none (B.map Kn)) y->∃x,Dm.LS (WA F h.fareOk) F.1.length none (A.map Kn) x/\x<=y/\
  ((WA F h.fareOk).D=0\/B.map Kn=[]\/x+(WA F h.fareOk).D<=y\/ ∃u v,Dm.lastO none (A.map Kn)=some u/\Dm.lastO none (B.map Kn)=some v/\v<=u):=fun hc _ y g=>by
  have:y=b:=Vzc (g.2 b f.1) (f.2 y g.1)
  grind
 have r:Va .i64 (a+F.2.1)=a+F.2.1:=Zx (by omega) (by omega);simp only[Zc,r];by_cases i:F.2.1=0
 ·rw[Ze i];exact⟨_,rfl,out (.inl i)⟩
 rw[Zi i];by_cases C:(B.length:Int)=0
 ·rw[Ze C];refine⟨_,rfl,out (.inr (.inl ?_))⟩
  simp_all
 rw[Zi C];by_cases c3:a+F.2.1<=b
 ·rw[Ze c3];exact⟨_,rfl,out (by omega)⟩
 rw[Zi c3];by_cases G:(0:Int)<(A.length:Int)
 case neg=>
  simp_all
 rw[Ze G];simp only[Zd,Zc,Za];refine⟨_,rfl,fun j=>?_⟩;have j:=X2 j;refine out (.inr (.inr (.inr ⟨T.2.1,U.2.1,?_,?_,j⟩))) trivial
 ·rw[Ra]
  cases Y:A.getLast? with
  |none=>grind
  |some x=>simp_all
 ·rw[Ra]
  cases Z:B.getLast? with
  |none=>grind
  |some x=>simp_all
theorem ZsD(o x:Zas):∃b,F27 o x=some b/\(b=true->o.1=x.1/\x.2.1<=o.2.1/\o.2.2.1<=x.2.2.1/\o.2.2.2.1<=x.2.2.2.1/\Tr.qandNot .u64 o.2.2.2.2.1 x.2.2.2.2.1=0):=by
 unfold F27;by_cases a:o.1=x.1
 case neg=>simp_all
 by_cases c:x.2.1<=o.2.1
 case neg=>simp [*]
 by_cases c3:o.2.2.1<=x.2.2.1
 case neg=>simp [*]
 by_cases d:o.2.2.2.1<=x.2.2.2.1
 all_goals simp [*]
theorem Zp2{F:Ke}(h:FO F){A B:List ZK}{s t:JN}(hs:H5 F h A s)(ht:H5 F h B t)(hA:∀v∈A,Yn v)(hB:∀v∈B,Yn v):
 ∃b,F20 s t=some b/\(b=true->Dm.Dom (WA F h.fareOk) F.1.length (A.map Kn) (B.map Kn)):=by
 obtain⟨cb,T,U⟩:=Zpz h hs ht;obtain⟨L,N,a1,ra,sa,ta,es,R,O⟩:=Zmm h hs hA;obtain⟨M,P,a2,rb,sb,tb,et,S,Q⟩:=Zmm h ht hB;have l:F.1.length<=4096:=by have:=h.many;omega
 have H:Tr.unc s=some (some F,ta,ra,(A.length:Int),sa,()):=by rw[es];rfl
 have I:Tr.unc t=some (some F,tb,rb,(B.length:Int),sb,()):=by rw[et];rfl
 have ns:Vod s=false:=by grind
 have nt:Vod t=false:=by grind
 unfold F20;simp only[ns,nt,Zc,H,I,Za,Ztc l,Vd,T]
 cases cb with
 |false=>simp
 |true=>
 simp only[Vd,Zc,N,P,Za]
 suffices d:∃r:Unit ⊕ Bool,_=some r/\((r=.inr false)\/(r=.inl ()/\ ∀x∈M,∃o∈L,o.1=x.1/\x.2.1<=o.2.1/\o.2.2.1<=x.2.2.1/\o.2.2.2.1<=x.2.2.2.1/\Tr.qandNot .u64 o.2.2.2.2.1 x.2.2.2.2.1=0)) by
  obtain⟨r,u,w⟩:=d;rcases w with rfl|⟨rfl,C⟩
  ·exact⟨false,KD (fun x=>x=Sum.inr false) ⟨_,u,rfl⟩ (fun x e=>by subst e;rfl),fun h=>by cases h⟩
  refine⟨true,by grind,fun _=>?_⟩;refine Dm.dom_of (U rfl) ?_;intro B0 r B1 p b K hp d D hz hm;obtain⟨c,a6,rfl,k1,k2⟩:=Vya.1 K;obtain⟨f,m,rfl,k3,k4⟩:=Vkc.1 k2;subst k1 k3 k4;have E:(c++f::m).take c.length=c:=by simp
  have k:(c++f::m).drop c.length=f::m:=by simp
  obtain⟨y,Z,G⟩:=S.2 c.length (by simp);rw[E]at G
  have a0:y=b/\0<=y:=by
   rcases G with ⟨_,W⟩|⟨h0,J,h2⟩
   ·exact absurd d.1 (W b)
   ·exact⟨Vzc (h2 b d.1) (d.2 y J),h0⟩
  obtain⟨rfl,Y⟩:=a0;have a5:KF F p∈F.1:=by unfold KF;grind
  have e:((p:Int),f.1,((c++f::m).length:Int) - (c.length:Int),y+W8 F (((c++f::m).take c.length).getLast?.map fun x=>x.2.1) (KF F p) f.1,((zF ((c++f::m).drop c.length):Nat):Int),())∈M:=by
   refine(Q _).2 ⟨c.length,by simp,p,hp,y,f,by simp,Z,Y,⟨?_,?_,?_⟩,rfl⟩
   ·have a3:(m.map Kn).length+1<(KF F p).2.2.1.toNat:=D
    grind
   ·rw[k,ZhP];assumption
   ·rw[k,ZkA];assumption
  obtain⟨o,ho,q1,q2,q3,q4,q5⟩:=C _ e;obtain⟨i,z,p',a4,a,ro,g1,g2,g3,⟨g4,g5,g6⟩,rfl⟩:=(O o).1 ho;simp only at q1 q2 q3 q4 q5
  have X:p' =p:=by
   grind
  subst X;obtain⟨a',u,w⟩:=R.2 i (by omega);rw[g2]at u;cases u;rcases w with ⟨rfl,_⟩|⟨_,w,_⟩
  ·omega
  have g:A.drop i=ro::A.drop (i+1):=by
   rw[Vk z]
   grind
  refine⟨(A.take i).map Kn,Kn ro,(A.drop (i+1)).map Kn,a,?_,w,?_,q2,?_,?_,?_⟩
  ·rw[<-Vaa, <-g, <-Vv,Vx]
  ·rw[<-Vaa, <-g, <-ZkA];assumption
  ·grind
  ·rw[Ra,Ra];rw[E]at q4
   assumption
  ·rw[<-Vaa, <-g, <-Vaa, <-ZhP, <-ZhP];rw[k]at q5;exact ZnR (Rw fun v hv=>(hA v (Vfa hv)).1) (Rw fun v hv=>(hB v (by grind)).1) q5
 refine Kf M.length _ (fun i (s:Int)=>s=(i:Int)/\ ∀x∈M.take i,∃o∈L,o.1=x.1/\x.2.1<=o.2.1/\o.2.2.1<=x.2.2.1/\o.2.2.2.1<=x.2.2.2.1/\Tr.qandNot .u64 o.2.2.2.2.1 x.2.2.2.2.1=0) ?_ ?_ _ (by simp)
 ·rintro i _ z ⟨rfl,hm⟩;have e:idx M (i:Int)=some M[i]:=ZA z;simp only[ZL z,Zd,e,Za,ZU z (by omega)]
  suffices d:∃r:Bool,_=some r/\(r=true->∃o∈L,o.1=M[i].1/\M[i].2.1<=o.2.1/\o.2.2.1<=M[i].2.2.1/\o.2.2.2.1<=M[i].2.2.2.1/\Tr.qandNot .u64 o.2.2.2.2.1 M[i].2.2.2.2.1=0) by
   obtain⟨r,u,w⟩:=d
   cases r with
   |false=>exact .inr ⟨_,KD (fun x=>x=false) ⟨_,u,rfl⟩ (fun x e=>by subst e;rfl),.inl rfl⟩
   |true=>
    refine .inl ⟨_,by grind,rfl,fun x e=>?_⟩;rw[Vf z,Vca,Vt]at e
    grind
  refine Kf L.length _ (fun j (s:Bool×Int)=>s.2=(j:Int)/\(s.1=true->∃o∈L,o.1=M[i].1/\M[i].2.1<=o.2.1/\o.2.2.1<=M[i].2.2.1/\o.2.2.2.1<=M[i].2.2.2.1/\Tr.qandNot .u64 o.2.2.2.2.1 M[i].2.2.2.2.1=0)) ?_ ?_ _ (by simp)
  ·rintro j ⟨b,_⟩ V ⟨rfl,d⟩;left;have hy:idx L (j:Int)=some L[j]:=ZA V;obtain⟨b',J,h2⟩:=ZsD L[j] M[i];simp only[ZL V,Zd,hy,Za,ZU V (by omega),J]
   cases b with
   |true=>exact⟨_,rfl,rfl,d⟩
   |false=>exact⟨_,rfl,rfl,by grind⟩
  simp
 grind
end Q
namespace Q
open Tr Go
abbrev Zbw:=Int×Int×Int×Int×ZK×Unit
abbrev Zu:=Zbw×Int×Int×Int×JN×List Zs×Unit
abbrev JB:=Zu×Int×Unit
abbrev G4:=Unit×List JB×Int×Unit
def Gy(l:List JB)(i k:Nat)(a:i<l.length)(b:k<l.length):List JB:=(l.set i l[k]).set k l[i]
theorem ZcI{l:List JB}{i k:Nat}(a:i<l.length)(b:k<l.length):(Gy l i k a b).Perm l:=List.set_set_perm a b
theorem Zhq{l:List JB}{c:Int}{i k:Nat}(a:i<l.length)(d:k<l.length):∃b:Bool,F65 ((),l,c,()) (i:Int) (k:Int)=some (((),l,c,()),b):=by
 unfold F65 F173;simp only[Kg a,Kg d,Vc a,Vc d,Za];cases decide ((l[i]).1.2.1<(l[k]).1.2.1)
 ·cases decide ((l[k]).1.2.1<(l[i]).1.2.1)<;>exact⟨_,rfl⟩
 ·exact⟨_,rfl⟩
theorem Zht{l:List JB}{c:Int}{i k:Nat}(d:i<l.length)(b:k<l.length):F67 ((),l,c,()) (i:Int) (k:Int)=some ((),Gy l i k d b,c,()):=by
 unfold F67;have a:k<(Vnc l i l[k]).length:=by simpa using b
 simp only[Kg d,Kg b,Vc d,Vc b,Za,Kg a];rw[Vc a];rfl
theorem Ztz{l:List JB}{c:Int}(x:Zu)(B:l.length+1<=549755813888):
 ∃(m:List JB) (c' :Int),F64 ((),l,c,()) x=some ((),m,c',())/\m.Perm (l++[(x,c,())]):=by
 have a:(l++[(x,c,())]).length=l.length+1:=by simp
 unfold F64
 have o:ZF (decide (l.length+ [((x,c,()):JB)].length<=ZC))=some ():=by rw[Ze (by simp [ZC];omega)];rfl
 have p:Va .i64 (((l++[(x,c,())]).length:Int) - 1)=(l.length:Int):=by rw[a,Zx (by omega) (by omega)];omega
 simp only[o,Za,p]
 suffices h:∃z:G4,_=some z/\ ∃m:List JB,z=((),m,Va .i64 (c+1),())/\m.Perm (l++[(x,c,())]) by obtain⟨_,t,m,rfl,u⟩:=h;exact⟨m,_,t,u⟩
 refine run_bind (fun s=>∃(m:List JB) (i:Nat),s=(((),m,Va .i64 (c+1),()),(i:Int))/\i<m.length/\m.Perm (l++[(x,c,())])) (fun s=>s.2.toNat)
  (fun r=>∃m:List JB,r=((),m,Va .i64 (c+1),())/\m.Perm (l++[(x,c,())])) ⟨_,l.length,rfl,by omega,.refl _⟩ ?_ ?_
 ·rintro s ⟨m,i,rfl,e,f⟩;have y:m.length=l.length+1:=by rw[f.length_eq,a]
  by_cases A:0<i
  ·have g:Va .i64 ((i:Int) - 1)=((i - 1:Nat):Int):=by rw[Zx (by omega) (by omega)];omega
   have j:Int.tdiv ((i - 1:Nat):Int) 2=(((i - 1) / 2:Nat):Int):=by rw[Int.tdiv_eq_ediv_of_nonneg (by omega)];omega
   have k:Va .i64 ((((i - 1) / 2:Nat)):Int)=(((i - 1) / 2:Nat):Int):=Zx (by omega) (by omega);have d:(i - 1) / 2<m.length:=by omega
   obtain⟨b,w⟩:=Zhq (c:=Va .i64 (c+1)) e d;simp only[show decide ((0:Int)<(i:Int))=true from Ze (by omega),Zd,g,j,k,w,Za]
   cases b with
   |true=>
    left;refine⟨_,by simp only[Zd,Zht e d,Za],⟨Gy m i ((i - 1) / 2) e d,(i - 1) / 2,rfl,by rw[(ZcI e d).length_eq];exact d,(ZcI e d).trans f⟩,?_⟩
    simp only[Vj];omega
   |false=>
    right;exact⟨_,rfl,m,rfl,f⟩
  ·right;have:i=0:=by omega
   subst this;exact⟨_,by simp only[show decide ((0:Int)<((0:Nat):Int))=false by simp,Zc],m,rfl,f⟩
 ·rintro r ⟨m,rfl,v⟩;exact⟨_,rfl,m,rfl,v⟩
theorem ZtA{l:List JB}{c:Int}(H:l.length<=549755813888):∃m:List JB,F66 ((),l,c,())=some ((),m,c,())/\m.Perm l:=by
 unfold F66;simp only
 suffices h:∃z:G4,_=some z/\ ∃m:List JB,z=((),m,c,())/\m.Perm l by obtain⟨_,y,m,rfl,A⟩:=h;exact⟨m,y,A⟩
 refine run_bind (fun s=>∃(m:List JB) (i:Nat),s=(((),m,c,()),(i:Int))/\(i<m.length\/i=0)/\m.Perm l) (fun s=>l.length - s.2.toNat)
  (fun r=>∃m:List JB,r=((),m,c,())/\m.Perm l) ⟨l,0,rfl,.inr rfl,.refl _⟩ ?_ ?_
 ·rintro s ⟨m,i,rfl,E,o⟩;have D:m.length=l.length:=o.length_eq;have v:Va .i64 ((2:Int) * (i:Int))=((2*i:Nat):Int):=by rw[Zx (by omega) (by omega)];omega
  have w:Va .i64 (((2*i:Nat):Int)+1)=((2*i+1:Nat):Int):=by rw[Zx (by omega) (by omega)];omega
  have x:Va .i64 (((2*i+1:Nat):Int)+1)=((2*i+2:Nat):Int):=by rw[Zx (by omega) (by omega)];omega
  simp only[v,w,x];by_cases G:m.length<=2*i+1
  ·right;exact⟨_,by simp only[show decide ((m.length:Int)<=((2*i+1:Nat):Int))=true from Ze (by omega),Zd],m,rfl,o⟩
  ·simp only[show decide ((m.length:Int)<=((2*i+1:Nat):Int))=false from Zi (by omega),Zc];have e:i<m.length:=by omega
   have fin:∀d:Nat,(d=2*i+1\/d=2*i+2)->d<m.length->
    (∃u:G4×Int,(Vb (F65 ((),m,c,()) (d:Int) (i:Int)) fun f=>
       bif !f.snd then some (Sum.inr ((),f.fst.snd.fst,f.fst.snd.snd.fst,()))
       else Vb (F67 ((),f.fst.snd.fst,f.fst.snd.snd.fst,()) (i:Int) (d:Int)) fun k=>some (Sum.inl (((),k.snd.fst,k.snd.snd.fst,()),(d:Int))))=some (Sum.inl u:(G4×Int) ⊕ G4)/\
       (∃(g:List JB) (t:Nat),u=(((),g,c,()),(t:Int))/\(t<g.length\/t=0)/\g.Perm l)/\l.length - u.2.toNat<l.length - (i:Int).toNat)\/
    ∃r:G4,(Vb (F65 ((),m,c,()) (d:Int) (i:Int)) fun f=>
       bif !f.snd then some (Sum.inr ((),f.fst.snd.fst,f.fst.snd.snd.fst,()))
       else Vb (F67 ((),f.fst.snd.fst,f.fst.snd.snd.fst,()) (i:Int) (d:Int)) fun k=>some (Sum.inl (((),k.snd.fst,k.snd.snd.fst,()),(d:Int))))=some (Sum.inr r:(G4×Int) ⊕ G4)/\
      ∃g:List JB,r=((),g,c,())/\g.Perm l:=by
    intro d C a;obtain⟨b,p⟩:=Zhq (c:=c) a e;rw[p];simp only[Za]
    cases b with
    |true=>
     left;refine⟨_,by simp only[Vd,Zc,Zht e a,Za],⟨Gy m i d e a,d,rfl,.inl (by rw[(ZcI e a).length_eq];exact a),(ZcI e a).trans o⟩,?_⟩
     simp only[Vj];omega
    |false=>
     right;exact⟨_,by simp only[Vu,Zd],m,rfl,o⟩
   by_cases j:2*i+2<m.length
   ·obtain⟨b,p⟩:=Zhq (c:=c) j (show 2*i+1<m.length by omega);simp only[show decide (((2*i+2:Nat):Int)<(m.length:Int))=true from Ze (by omega),Zd,p,Za]
    cases b with
    |true=>
     simp only[Zd,Za]
     exact fin (2*i+2) (.inr rfl) j
    |false=>
     simp only[Zc,Za];exact fin (2*i+1) (.inl rfl) (by omega)
   ·simp only[show decide (((2*i+2:Nat):Int)<(m.length:Int))=false from Zi (by omega),Zc];exact fin (2*i+1) (.inl rfl) (by omega)
 ·rintro r ⟨m,rfl,B⟩;exact⟨_,rfl,m,rfl,B⟩
theorem Zty{l:List JB}{c:Int}(h:l≠ [])(p:l.length<=549755813888):
 ∃(m:List JB) (x:JB),F63 ((),l,c,())=some (((),m,c,()),x.1,true)/\l.Perm (x::m):=by
 have b:0<l.length:=List.length_pos_iff.2 h;have a:l.length - 1<l.length:=by omega
 have d:F62 ((),l,c,())=some (((),l,c,()),(l[0]).1,true):=by unfold F62 F61;simp only[Za,show decide ((l.length:Int)=0)=false from Zi (by omega),Zc];rw[show (0:Int)=((0:Nat):Int) from rfl,Kg b];simp only[Za,Vc b]
 have j:Va .i64 ((l.length:Int) - 1)=((l.length - 1:Nat):Int):=by rw[Zx (by omega) (by omega)];omega
 have f:=ZcI b a;have g:=f.length_eq
 have i:sliceB (Gy l 0 (l.length - 1) b a).length (Gy l 0 (l.length - 1) b a).length none (some ((l.length - 1:Nat):Int))=some (0,l.length - 1):=by unfold sliceB;rw[g];simp
 obtain⟨m,k,o⟩:=ZtA (l:=Vpb (l.length - 1) (Gy l 0 (l.length - 1) b a)) (c:=c) (by simp;omega);refine⟨m,l[0],?_,?_⟩
 ·unfold F63;rw[d];simp only[Za,Vd,Zc,j];rw[show (0:Int)=((0:Nat):Int) from rfl,Zht b a];simp only[Za,i,k]
 ·have e:Gy l 0 (l.length - 1) b a=Vpb (l.length - 1) (Gy l 0 (l.length - 1) b a)++[l[0]]:=by
   conv=>lhs;rw[<-Vx (l.length - 1) (Gy l 0 (l.length - 1) b a)]
   congr 1;rw[Vk (by omega),List.drop_eq_nil_of_le (by omega)];unfold Gy;simp
  rw[e]at f;exact f.symm.trans ((Vdb).trans (List.Perm.cons _ o.symm))
end Q
namespace Q
open Tr Go
def Zw(n:Zf)(i:Nat):List Wv:=(rn n (i:Int)).2.2.2.2.2.2.2.1
def Zk(n:Zf)(i c:Nat):Wv:=cl (Zw n i) (c:Int)
def YV(n:Zf)(i:Nat):Bool:=(rn n (i:Int)).2.2.2.2.2.2.1
def KM(s t a b:Int):Zs:=(false,0,0,0,s,t,a,b,false,())
def ZY(n:Zf)(i b c:Nat)(st:Bool):Zs:=(true,(i:Int),(b:Int),(c:Int),(Zk n i b).1,(Zk n i c).1,(Zk n i b).2.2.1,(Zk n i c).2.1,st,())
def isLink(n:Zf)(i c j d:Nat)(st:Bool):Prop:=((i:Int),(c:Int),(j:Int),(d:Int),st,())∈n.2.2.2.1
structure W2 (n:Zf):Prop where
 sound:Wa n
 change:∀s:Int,0<=s->s<(n.1.length:Int)->0<=(K2 n s).2.2.2.1/\(K2 n s).2.2.2.1<=3600
 path:∀p∈n.2.2.2.2.1,(0<=p.1/\p.1<(n.1.length:Int))/\(0<=p.2.1/\p.2.1<(n.1.length:Int))/\p.1≠p.2.1/\1<=p.2.2.1/\p.2.2.1<=14400
 link:∀x∈n.2.2.2.1,∃(i c j d:Nat) (st:Bool),x=((i:Int),(c:Int),(j:Int),(d:Int),st,())/\i<n.2.2.1.length/\j<n.2.2.1.length/\i≠j/\c<(Zw n i).length/\d<(Zw n j).length/\
  (Zk n i c).1=(Zk n j d).1/\(st=true->c+1=(Zw n i).length/\d=0)
theorem ZaD{n:Zf}{i:Nat}(a:i<n.2.2.1.length):Zw n i=(n.2.2.1[i]).2.2.2.2.2.2.2.1:=by unfold Zw rn;grind
theorem RR{n:Zf}{i c:Nat}(a:c<(Zw n i).length):Zk n i c=(Zw n i)[c]:=by unfold Zk cl;grind
theorem Zrr{n:Zf}{i:Nat}(h:WR n i=0):(cl (rn n (lk n i).1).2.2.2.2.2.2.2.1 (lk n i).2.1).1=(cl (rn n (lk n i).2.2.1).2.2.2.2.2.2.2.1 (lk n i).2.2.2.1).1/\
 ((lk n i).2.2.2.2.1=true->(lk n i).2.1+1=((rn n (lk n i).1).2.2.2.2.2.2.2.1.length:Int)/\(lk n i).2.2.2.1=0):=by
 unfold WR at h;simp only at h;by_cases a:YT n (lk n i)=true
 ·grind
 rw[Zg a]at h;by_cases b:HF n (lk n i)=true
 all_goals grind
theorem Whole.ok{n:Zf}(h:Whole n):W2 n:=by
 refine⟨h.sound,fun s D f=>?_,fun p z=>?_,fun x B=>?_⟩
 ·have s0:=h.s;unfold HU at s0;split at s0
  ·omega
  obtain⟨j,rfl⟩:∃j:Nat,s=(j:Int):=⟨s.toNat,by omega⟩;have m:j<n.1.length:=by omega
  have o:=Za9 s0 j m;unfold HT at o;have:=(GT.1 o).2.2;unfold K2
  grind
 ·obtain⟨j,m,rfl⟩:=Via z;obtain⟨f,l,_⟩:=Zai (WL.1 h.q j m);rw[Kq m]at f l;unfold YC at f;unfold YD at l
  grind
 ·obtain⟨j,m,rfl⟩:=Via B;have o:=WL.1 h.g j m;obtain⟨f,l,_⟩:=Zaa o;obtain⟨r,t⟩:=Zrr o;have e:lk n j=n.2.2.2.1[j]:=by unfold lk;grind
  rw[e]at f l r t;generalize n.2.2.2.1[j]=x at*;unfold YT at f;unfold HF at l;unfold ZT at f l;simp only[Vga,Vl,decide_eq_false_iff_not,Vi,KL]at f l;obtain⟨u,v,w,y,C,E⟩:=x;simp only at f l r t;obtain⟨i,rfl⟩:∃i:Nat,u=(i:Int):=⟨u.toNat,by omega⟩;obtain⟨c,rfl⟩:∃i:Nat,v=(i:Int):=⟨v.toNat,by omega⟩;obtain⟨k,rfl⟩:∃i:Nat,w=(i:Int):=⟨w.toNat,by omega⟩;obtain⟨d,rfl⟩:∃i:Nat,y=(i:Int):=⟨y.toNat,by omega⟩;refine⟨i,c,k,d,C,rfl,by omega,by omega,by omega,?_,?_,r,fun A=>?_⟩
  ·unfold Zw;omega
  ·unfold Zw;omega
  ·obtain⟨a,b⟩:=t A;unfold Zw;omega
theorem W2.isLink{n:Zf}(h:W2 n){i c j d:Nat}{st:Bool}(a:isLink n i c j d st):i<n.2.2.1.length/\j<n.2.2.1.length/\i≠j/\c<(Zw n i).length/\d<(Zw n j).length/\(Zk n i c).1=(Zk n j d).1/\(st=true->c+1=(Zw n i).length/\d=0):=by
 obtain⟨l,f,m,g,b,e,k⟩:=h.link _ a
 grind
theorem W2.stop{n:Zf}(h:W2 n){i c:Nat}(a:i<n.2.2.1.length)(b:c<(Zw n i).length):0<=(Zk n i c).1/\(Zk n i c).1<(n.1.length:Int):=by rw[RR b];refine h.sound.call _ (Ve a) _ ?_;simp only[ZaD a];simp
theorem W2.time{n:Zf}(h:W2 n){i c:Nat}(b:i<n.2.2.1.length)(a:c<(Zw n i).length):0<=(Zk n i c).2.1/\(Zk n i c).2.1<=(Zk n i c).2.2.1/\(Zk n i c).2.2.1<=3155932800:=by have d:=h.sound.time _ (Ve b);rw[RR a];simp only[ZaD b]at a⊢;have:=d c a;omega
inductive ZcW where
 |rdy (k:Nat) (s r:Int)
 |brd (k:Nat) (i c:Nat) (st:Bool)
 |lnk (k:Nat) (i c:Nat)
 |on (k:Nat) (i c:Nat)
 |rid (k:Nat) (s t:Int)
 |arr (k:Nat) (s t:Int)
inductive WZ (n:Zf) (s0 t0 w:Int):ZcW->List Zs->Prop
 |init:WZ n s0 t0 w (.rdy 0 s0 (t0+w)) []
 |here:WZ n s0 t0 w (.arr 0 s0 t0) []
 |rdyW {p:Kj} :p∈n.2.2.2.2.1->p.1=s0->t0+p.2.2.1<=3155932800->WZ n s0 t0 w (.rdy 0 p.2.1 (t0+p.2.2.1)) [KM s0 p.2.1 t0 (t0+p.2.2.1)]
 |arrW {p:Kj} :p∈n.2.2.2.2.1->p.1=s0->t0+p.2.2.1<=3155932800->WZ n s0 t0 w (.arr 0 p.2.1 (t0+p.2.2.1)) [KM s0 p.2.1 t0 (t0+p.2.2.1)]
 |board {k:Nat}{s r:Int}{js:List Zs}{i c:Nat} :WZ n s0 t0 w (.rdy k s r) js->i<n.2.2.1.length->c<(Zw n i).length->YV n i=false->(Zk n i c).1=s->(Zk n i c).2.2.2.1=true->r<=(Zk n i c).2.2.1->WZ n s0 t0 w (.brd (k+1) i c false) js
 |on {k i b c:Nat}{st:Bool}{js:List Zs} :WZ n s0 t0 w (.brd k i b st) js->b<c->c<(Zw n i).length->WZ n s0 t0 w (.on k i c) (js++[ZY n i b c st])
 |stay {k i c j d:Nat}{js:List Zs} :WZ n s0 t0 w (.on k i c) js->isLink n i c j d true->(Zk n i c).2.1<=(Zk n j d).2.2.1->YV n j=false->WZ n s0 t0 w (.brd k j d true) js
 |link {k i c j d:Nat}{js:List Zs} :WZ n s0 t0 w (.on k i c) js->(Zk n i c).2.2.2.2.1=true->isLink n i c j d false->(Zk n i c).2.1<=(Zk n j d).2.2.1->(Zk n j d).2.2.2.1=true->WZ n s0 t0 w (.lnk (k+1) j d) js
 |linked {k j d:Nat}{js:List Zs} :WZ n s0 t0 w (.lnk k j d) js->YV n j=false->WZ n s0 t0 w (.brd k j d false) js
 |ride {k i c:Nat}{js:List Zs} :WZ n s0 t0 w (.on k i c) js->(Zk n i c).2.2.2.2.1=true->WZ n s0 t0 w (.rid k (Zk n i c).1 (Zk n i c).2.1) js
 |change {k:Nat}{s t:Int}{js:List Zs} :WZ n s0 t0 w (.rid k s t) js->WZ n s0 t0 w (.rdy k s (t+(K2 n s).2.2.2.1)) js
 |rdyV {k:Nat}{s t:Int}{js:List Zs}{p:Kj} :WZ n s0 t0 w (.rid k s t) js->p∈n.2.2.2.2.1->p.1=s->t+p.2.2.1<=3155932800->WZ n s0 t0 w (.rdy k p.2.1 (t+p.2.2.1)) (js++[KM s p.2.1 t (t+p.2.2.1)])
 |arrR {k:Nat}{s t:Int}{js:List Zs} :WZ n s0 t0 w (.rid k s t) js->WZ n s0 t0 w (.arr k s t) js
 |arrV {k:Nat}{s t:Int}{js:List Zs}{p:Kj} :WZ n s0 t0 w (.rid k s t) js->p∈n.2.2.2.2.1->p.1=s->t+p.2.2.1<=3155932800->WZ n s0 t0 w (.arr k p.2.1 (t+p.2.2.1)) (js++[KM s p.2.1 t (t+p.2.2.1)])
def ZcW.ok(n:Zf):ZcW->Prop
 |.rdy _ s r=>(0<=s/\s<(n.1.length:Int))/\0<=r/\r<=3155932800+3600
 |.brd k i c _=>0<k/\i<n.2.2.1.length/\c<(Zw n i).length/\YV n i=false
 |.lnk k i c=>0<k/\i<n.2.2.1.length/\c<(Zw n i).length
 |.on k i c=>0<k/\i<n.2.2.1.length/\c<(Zw n i).length/\YV n i=false
 |.rid k s t=>0<k/\(0<=s/\s<(n.1.length:Int))/\0<=t/\t<=3155932800
 |.arr _ s t=>(0<=s/\s<(n.1.length:Int))/\0<=t/\t<=3155932800
theorem WZ.ok{n:Zf}(h:W2 n){s0 j w:Int}(k:0<=s0/\s0<(n.1.length:Int))(m:0<=j/\j<=3155932800)(o:0<=w/\w<=3600){f:ZcW}{js:List Zs}(d:WZ n s0 j w f js):f.ok n:=by
 induction d with
 |init=>exact⟨k,by omega,by omega⟩
 |here=>exact⟨k,m⟩
 |rdyW b _ i=>have:=h.path _ b;exact⟨this.2.1,by omega,by omega⟩
 |arrW b _ i=>have:=h.path _ b;exact⟨this.2.1,by omega,by omega⟩
 |board _ l e c _ _ _ _=>exact⟨Nat.succ_pos _,l,e,c⟩
 |on _ _ e a=>exact⟨a.1,a.2.1,e,a.2.2.2⟩
 |stay _ g _ c a=>have:=h.isLink g;exact⟨a.1,this.2.1,this.2.2.2.2.1,c⟩
 |link _ _ g _ _ _=>have:=h.isLink g;exact⟨Nat.succ_pos _,this.2.1,this.2.2.2.2.1⟩
 |linked _ c a=>exact⟨a.1,a.2.1,a.2.2,c⟩
 |ride _ _ a=>
  have:=h.time a.2.1 a.2.2.1
  exact⟨a.1,h.stop a.2.1 a.2.2.1,by omega,by omega⟩
 |change _ a=>have:=h.change _ a.2.1.1 a.2.1.2;exact⟨a.2.1,by have:=a.2.2;omega,by have:=a.2.2;omega⟩
 |rdyV _ b _ i a=>have:=h.path _ b;exact⟨this.2.1,by have:=a.2.2;omega,by omega⟩
 |arrR _ a=>exact a.2
 |arrV _ b _ i a=>have:=h.path _ b;exact⟨this.2.1,by have:=a.2.2;omega,by omega⟩
end Q
namespace Q
open Tr Go
def Zy(q:Zq):Zq:=(q.1,q.2.1,q.2.2.1,q.2.2.2.1,q.2.2.2.2.1,q.2.2.2.2.2.1,false,false,0,q.2.2.2.2.2.2.2.2.2)
theorem Zlq{k:Nat}{q:Zq}(h:qB k q=true):qB k (Zy q)=true:=by unfold qB at h⊢;simp only[Vi,KL]at h⊢;obtain⟨a,b,c,d,e,_,f⟩:=h;exact⟨a,b,c,d,e,⟨Vna 0,by show (0:Int)<=255;decide⟩,f⟩
theorem Zcv{n:Zf}{q:Zq}{x:Zs} :Y6 n q x=0↔((cl (KH n x) x.2.2.1).1=x.2.2.2.2.1/\(cl (KH n x) x.2.2.2.1).1=x.2.2.2.2.2.1)/\((cl (KH n x) x.2.2.1).2.2.1=x.2.2.2.2.2.2.1/\(cl (KH n x) x.2.2.2.1).2.1=x.2.2.2.2.2.2.2.1)/\DG n q (rn n x.2.1)=true/\(Kw x=true\/(cl (KH n x) x.2.2.1).2.2.2.1=true/\JW n q x.2.2.2.2.1=true):=by
 unfold Y6;rw[Kt (by omega),Kt (by omega),Kt (by omega),Kt (by omega),Kt (by omega),Kt (by omega),Kt (by omega),Kt (by omega)];unfold DG Tr.useB Zd4;rw[Vga,Vga];simp only[Vl,KL];generalize (rn n x.2.1).2.2.2.2.2.2.1=b;generalize (rn n x.2.1).2.2.2.2.2.1=c;generalize q.2.2.2.2.2.2.1=d;generalize (Dx n (rn n x.2.1)).2.2.1=e;generalize q.2.2.2.2.2.2.2.1=f;generalize (decide (q.2.2.2.2.2.2.2.2.1=(0:Int)) ||decide (ZB .i64 (Vxa q.2.2.2.2.2.2.2.2.1 (2 ^ min (Vea (Dx n (rn n x.2.1)).2.1) 64)) 1=1))=g;generalize Kw x=a;generalize (cl (KH n x) x.2.2.1).2.2.2.1=h;generalize JW n q x.2.2.2.2.1=i;generalize ((cl (KH n x) x.2.2.1).1=x.2.2.2.2.1/\(cl (KH n x) x.2.2.2.1).1=x.2.2.2.2.2.1)=j
 generalize ((cl (KH n x) x.2.2.1).2.2.1=x.2.2.2.2.2.2.1/\(cl (KH n x) x.2.2.2.1).2.1=x.2.2.2.2.2.2.2.1)=k
 have key:((b=false/\(d&& !c)=false/\(f&& !e)=false/\(!g)=false/\(!a&& !h)=false/\(!a&& !i)=false/\(0:Int)=0)↔((!b&& ((c|| !d) && ((e|| !f) &&g)))=true/\(a=true\/h=true/\i=true))):=by
  cases b<;>cases c<;>cases d<;>cases e<;>cases f<;>cases g<;>cases a<;>cases h<;>cases i<;>simp
 exact and_congr_right fun _=>and_congr_right fun _=>by
  first
  |exact key
  |(simp only[Vl]at key⊢;exact key)
theorem Zpv(n:Zf)(q:Zq):WY n q c0=c0:=by
 unfold WY
 split<;>rfl
theorem Zdr(n:Zf)(q:Zq)(l:List Wv)(a:Int):cl (l.map (WY n q)) a=WY n q (cl l a):=by
 unfold cl;rw[Vva]
 cases l[a.toNat]? with
 |none=>exact(Zpv n q).symm
 |some c=>rfl
theorem Zds(n:Zf)(q:Zq)(c:Wv):WY n q c=(c.1,c.2.1,c.2.2.1,c.2.2.2.1&&JW n q c.1,c.2.2.2.2.1&&JW n q c.1,()):=by
 unfold WY
 cases h:JW n q c.1 with
 |true=>simp
 |false=>simp
theorem Zdo(n:Zf)(q:Zq)(x:Zs):KH (ZO n q) x=(KH n x).map (WY n q):=ZlJ n q x.2.1
theorem Zjq(n:Zf)(q:Zq)(x:Zs):Ks (ZO n q) x=Ks n x:=by have a:(ZO n q).2.2.1.length=n.2.2.1.length:=Vn ..;unfold Ks;rw[Zdo,Vn,a]
theorem ZlI{n:Zf}{q:Zq}{x:Zs}(a:Ks n x=true):rn (ZO n q) x.2.1=Xc n q (rn n x.2.1):=by
 unfold Ks at a;rw[Vi]at a;have h:=a.1;unfold ZT at h;simp only[Vi,KL]at h;have b:x.2.1.toNat<n.2.2.1.length:=by omega
 unfold rn;show ((n.2.2.1.map (Xc n q))[x.2.1.toNat]?).getD u0=_;rw[Vva,Vc b];rfl
theorem Zef(n:Zf)(q:Zq)(s:Int):JW n (Zy q) s=true:=by unfold JW Zy;simp
theorem ZmI(n:Zf)(q:Zq)(r:YN):DG n (Zy q) r= !r.2.2.2.2.2.2.1:=by unfold DG Tr.useB Zy;simp
theorem ZsH{n:Zf}{q:Zq}{x:Zs}(c:Ks n x=true):Y6 (ZO n q) (Zy q) x=0↔Y6 n q x=0:=by rw[Zcv,Zcv,Zdo,Zdr,Zdr,Zds,Zds,ZlI c,ZmI,Zef];have b:(Xc n q (rn n x.2.1)).2.2.2.2.2.2.1= !DG n q (rn n x.2.1):=rfl;rw[b,Bool.not_not];refine and_congr_right fun a=>and_congr_right fun _=>and_congr_right fun _=>?_;simp only[Vi];rw[a.1];simp
theorem ZnV{α:Type}(p f:α->Bool)(l:List α):(l.filter p).any f=l.any fun x=>f x&&p x:=by
 induction l with
 |nil=>rfl
 |cons x l b=>
  cases a:p x with
  |true=>rw[List.filter_cons_of_pos a,Vlc,Vlc,b,a,Vkd]
  |false=>rw[List.filter_cons_of_neg (by simp [a]),Vlc,b,a,Vcd,Vld]
theorem ZeN{n:Zf}{q:Zq}{x:Zs} :Xl n q x=0↔(n.2.2.2.2.1.any fun p=>Xh x p&&XO q p)=true:=by
 unfold Xl
 cases (n.2.2.2.2.1.any fun p=>Xh x p&&XO q p) with
 |true=>simp
 |false=>cases n.2.2.2.2.1.any (Xh x)<;>simp
theorem Zuj{n:Zf}{q:Zq}{x:Zs} :Xl (ZO n q) (Zy q) x=0↔Xl n q x=0:=by
 rw[ZeN,ZeN]
 have a:∀p:Kj,XO (Zy q) p=true:=by intro p;unfold XO Zy;simp
 show ((JX n q).any fun p=>Xh x p&&XO (Zy q) p)=true↔_;simp only[a,Vkd];unfold JX XO
 cases q.2.2.2.2.2.2.1 with
 |true=>simp only[if_true];rw[ZnV];simp
 |false=>simp
theorem Zrh{n:Zf}{q:Zq}{x:Zs} :JD (ZO n q) (Zy q) x=0↔JD n q x=0:=by
 have b:∀(n:Zf) (q:Zq),JD n q x=0↔(!ZT x.2.2.2.2.1 n.1.length|| !ZT x.2.2.2.2.2.1 n.1.length)=false/\(bif x.1 then !Ks n x else !decide (x.2.1=0) || (!decide (x.2.2.1=0) || (!decide (x.2.2.2.1=0) ||Kw x)))=false/\(!decide (0<=x.2.2.2.2.2.2.1/\x.2.2.2.2.2.2.1<=3155932800) || !decide (0<=x.2.2.2.2.2.2.2.1/\x.2.2.2.2.2.2.2.1<=3155932800))=false/\(bif x.1 then Y6 n q x else Xl n q x)=0:=by intro n q;unfold JD;rw[Kt (by omega),Kt (by omega),Kt (by omega)]
 rw[b,b,Zjq];refine and_congr_right fun _=>and_congr_right fun a=>and_congr_right fun _=>?_
 cases c:x.1 with
 |true=>
  rw[c]at a
  exact ZsH (by simpa using a)
 |false=>exact Zuj
theorem ZfA{n:Zf}{q:Zq}{L:List Zs}{i:Nat} :WD (ZO n q) (Zy q) L i=0↔WD n q L i=0:=by
 have e:∀(n:Zf) (q:Zq),WD n q L i=0↔JD n q (lg L i)=0/\Gj n q L i=0/\(J7 L i=true->YS n q (lg L i)=0):=by
  intro n q;unfold WD;by_cases a:JD n q (lg L i)=0
  ·by_cases b:Gj n q L i=0
   ·rw[Ze a,Ze b]
    cases J7 L i<;>simp [a,b]
   ·rw[Ze a,Zi b];simp [b]
  ·rw[Zi a];simp [a]
 have d:∀(n:Zf) (q:Zq) (x:Zs),YS n q x=0↔(cl (KH n x) x.2.2.2.1).2.2.2.2.1=true/\JW n q x.2.2.2.2.2.1=true:=by intro n q x;unfold YS;rw[Kt (by omega),Kt (by omega)];simp
 rw[e,e];refine(and_congr Zrh Vvc).trans (and_congr_right fun a=>and_congr Vvc ?_);refine imp_congr_right fun c=>?_
 have h:(lg L i).1=true:=by unfold J7 at c;rw[Vi]at c;exact c.1
 obtain⟨_,_,f,_⟩:=ZgG a;have g:=(Zcv.1 (f h).2).1.2;rw[d,d,Zdo,Zdr,Zds,Zef];simp only[Vi];rw[g];simp
theorem ZmZ(n:Zf)(q:Zq)(l:List Wv)(a:Nat):∀k,zN (ZO n q) (l.map (WY n q)) a k=zN n l a k
 |0=>rfl
 |k+1=>by
  have h:zn (ZO n q) (l.map (WY n q)) (a+k)=zn n l (a+k):=by unfold zn;rw[(Zdt n q l (a+k)).1];rfl
  unfold zN;rw[ZmZ n q l a k,h]
theorem ZrG{n:Zf}{q:Zq}{x:Zs}(a:Ks n x=true):Hu (ZO n q) x=Hu n x/\Hr (ZO n q) x=Hr n x:=by
 constructor
 ·unfold Hu;rw[Zdo,ZmZ]
 ·unfold Hr;rw[ZlI a];rfl
theorem Zhj(n:Zf)(q:Zq):∀(L:List Zs) (w:Bool) (out:List ZK),K5 (ZO n q) L w out=K5 n L w out
 |[],_,_=>rfl
 |x::L,w,out=>by
  rw[Gq,Gq,Zjq];by_cases a:x.1=true/\Ks n x=false
  ·rw[Zo a,Zo a]
  rw[Zg a,Zg a];by_cases c:Kw x=true/\(x.1=false\/w=false)
  ·rw[Zo c,Zo c]
  rw[Zg c,Zg c];by_cases b:x.1=true
  ·rw[Zo b,Zo b]
   have i:Ks n x=true:=by
    cases h:Ks n x with
    |true=>rfl
    |false=>exact absurd ⟨b,h⟩ a
   obtain⟨d,e⟩:=ZrG (q:=q) i;have f:Xi (ZO n q) x=Xi n x:=by unfold Xi;rw[d,e]
   have g:XL (ZO n q) x out=XL n x out:=by unfold XL X1;rw[d,e]
   rw[f,g];exact Zhj n q L _ _
  ·rw[Zg b,Zg b];exact Zhj n q L _ _
end Q
namespace Q
open Tr Go
variable {n:Zf}{q:Zq}
theorem Zko{n:Zf}{q:Zq}{x:Zs} :JD n q x=0↔(ZT x.2.2.2.2.1 n.1.length=true/\ZT x.2.2.2.2.2.1 n.1.length=true)/\(bif x.1 then !Ks n x else !decide (x.2.1=0) || (!decide (x.2.2.1=0) || (!decide (x.2.2.2.1=0) ||Kw x)))=false/\
 ((0<=x.2.2.2.2.2.2.1/\x.2.2.2.2.2.2.1<=3155932800)/\(0<=x.2.2.2.2.2.2.2.1/\x.2.2.2.2.2.2.2.1<=3155932800))/\(bif x.1 then Y6 n q x else Xl n q x)=0:=by
 unfold JD;rw[Kt (by omega),Kt (by omega),Kt (by omega)];simp only[Vga,Vl,KL]
theorem ZqR{a m:Nat} :ZT (a:Int) m=true↔a<m:=by unfold ZT;rw[Vi,KL,KL];omega
theorem R3{a:Int}{m:Nat} :ZT a m=true↔0<=a/\a<(m:Int):=by unfold ZT;rw[Vi,KL,KL]
theorem ZmH(n:Zf)(q:Zq)(i:Nat):DG n (Zy q) (rn n (i:Int))=true↔YV n i=false:=by
 rw[ZmI];unfold YV
 cases (rn n (i:Int)).2.2.2.2.2.2.1<;>simp
def Zh1(n:Zf)(i b c:Nat)(st:Bool):Prop:=i<n.2.2.1.length/\b<c/\c<(Zw n i).length/\YV n i=false/\(st=true\/(Zk n i b).2.2.2.1=true)
theorem ZgI(h:W2 n){x:Zs} :(JD n (Zy q) x=0/\x.1=true)↔∃i b c st,x=ZY n i b c st/\Zh1 n i b c st:=by
 rw[Zko];constructor
 ·rintro ⟨⟨a,f,g,d⟩,m⟩;rw[m]at f d;simp only[Zd,Vl]at f d;have k:=f;unfold Ks KH at k;simp only[Vi,KL,R3]at k;obtain⟨⟨E,G⟩,H,I,J⟩:=k;obtain⟨⟨p,r⟩,⟨s,t⟩,v,e⟩:=Zcv.1 d;obtain⟨U,z,w,y,S,T,R,Q,xs,u⟩:=x;simp only at m a f g d E G H I J p r s t v e;obtain⟨i,rfl⟩:∃i:Nat,z=(i:Int):=⟨z.toNat,by omega⟩;obtain⟨b,rfl⟩:∃i:Nat,w=(i:Int):=⟨w.toNat,by omega⟩;obtain⟨c,rfl⟩:∃i:Nat,y=(i:Int):=⟨y.toNat,by omega⟩;subst m;have K:c<(Zw n i).length:=by unfold Zw;omega
  refine⟨i,b,c,xs,?_,by omega,by omega,K,(ZmH n q i).1 v,?_⟩
  ·have A:(Zk n i b).1=S:=p;have B:(Zk n i c).1=T:=r;have C:(Zk n i b).2.2.1=R:=s;have D:(Zk n i c).2.1=Q:=t;unfold ZY;rw[A,B,C,D]
  ·rcases e with e|e
   ·exact .inl e
   ·exact .inr e.1
 ·rintro ⟨i,b,c,st,rfl,a,f,g,d,j⟩;have o:b<(Zw n i).length:=by omega
  have M:=h.stop a o;have N:=h.stop a g;have O:=h.time a o;have P:=h.time a g
  have l:Ks n (ZY n i b c st)=true:=by unfold Ks KH;simp only[Vi,KL];have:c<(rn n (i:Int)).2.2.2.2.2.2.2.1.length:=g;exact⟨ZqR.2 a,by show (0:Int)<=(b:Int);omega,by show (b:Int)<(c:Int);omega,by show (c:Int)<_;show (c:Int)<((rn n (i:Int)).2.2.2.2.2.2.2.1.length:Int);omega⟩
  refine⟨⟨⟨R3.2 M,R3.2 N⟩,?_,⟨⟨by show (0:Int)<=(Zk n i b).2.2.1;omega,O.2.2⟩,⟨P.1,by show (Zk n i c).2.1<=_;omega⟩⟩,?_⟩,rfl⟩
  ·show (!Ks n (ZY n i b c st))=false;rw[l];rfl
  ·refine Zcv.2 ⟨⟨rfl,rfl⟩,⟨rfl,rfl⟩,(ZmH n q i).2 d,?_⟩;rcases j with j|j
   ·exact .inl j
   ·exact .inr ⟨j,Zef ..⟩
theorem Zcd(h:W2 n){x:Zs} :(JD n (Zy q) x=0/\x.1=false)↔∃p∈n.2.2.2.2.1,∃a,x=KM p.1 p.2.1 a (a+p.2.2.1)/\0<=a/\a+p.2.2.1<=3155932800:=by
 rw[Zko];constructor
 ·rintro ⟨⟨f,d,l,g⟩,i⟩;rw[i]at d g;simp only[Zc,Vga,Vl,KL]at d g;have m:=ZeN.1 g;obtain⟨p,e,j⟩:=Vxb.1 m;rw[Vi]at j;have b:=j.1;unfold Xh at b;simp only[Vi,KL]at b;obtain⟨w,v,r,s,t,y,k,o,xs,u⟩:=x;simp only at i f d l b;have c:=h.path p e;rw[Zx (by omega) (by omega)]at b;obtain⟨rfl,rfl,rfl,rfl⟩:=d;subst i;refine⟨p,e,k,?_,by omega,by omega⟩;unfold KM;rw[<-b.1, <-b.2.1,show o=k+p.2.2.1 by omega]
 ·rintro ⟨p,e,a,rfl,f,d⟩;have c:=h.path p e;refine⟨⟨⟨R3.2 c.1,R3.2 c.2.1⟩,rfl,⟨⟨f,by show a<=_;omega⟩,⟨by show 0<=a+p.2.2.1;omega,d⟩⟩,?_⟩,rfl⟩;show Xl n (Zy q) _=0;rw[ZeN];refine Vxb.2 ⟨p,e,?_⟩;unfold Xh XO Zy KM;simp only[Vi,KL,Vu,Vrc];exact⟨⟨trivial,trivial,by rw[Zx (by omega) (by omega)];omega⟩,trivial⟩
theorem Zks(h:W2 n){i b c j d e:Nat}{st f k:Bool} :Ya n (ZY n i b c st) (ZY n j d e f) k=true↔isLink n i c j d k:=by
 unfold Ya;rw[Vxb];constructor
 ·rintro ⟨x,g,a⟩;obtain⟨v,t,w,u,y,rfl,_⟩:=h.link x g;unfold Hm ZY at a;simp only[Vi,KL,Kv]at a;obtain⟨l,m,o,p,r⟩:=a;unfold isLink;rw[<-l, <-m, <-o, <-p, <-r];exact g
 ·intro s;refine⟨_,s,?_⟩;unfold Hm ZY;simp
theorem ZqD(n:Zf)(s t a b s' e c d:Int):JS n (KM s t a b) (KM s' e c d)≠0:=by unfold JS KM;intro h;rw[Kt (by omega)]at h;obtain⟨_,h⟩:=h;simp at h
theorem ZqC(n:Zf)(s t a b:Int)(j d e:Nat):JS n (KM s t a b) (ZY n j d e true)≠0:=by unfold JS KM ZY;intro h;rw[Kt (by omega)]at h;obtain⟨_,h⟩:=h;simp [Kw]at h
theorem ZjJ(h:W2 n){i b c j d e:Nat}{st:Bool} :JS n (ZY n i b c st) (ZY n j d e true)=0↔(Zk n i c).1=(Zk n j d).1/\isLink n i c j d true/\(Zk n i c).2.1<=(Zk n j d).2.2.1:=by
 unfold JS;have f:Ya n (ZY n i b c st) (ZY n j d e true) true=true↔isLink n i c j d true:=Zks h;generalize Ya n (ZY n i b c st) (ZY n j d e true) true=B at*;unfold ZY Kw;simp only[Vd,Vic,Zc,Zd,Vld];rw[Kt (by omega),Kt (by omega)];rw[<-f]
 cases B with
 |false=>simp
 |true=>
  simp only[Vd,Vl,KL,true_and];refine and_congr_right fun _=>?_;by_cases a:(Zk n j d).2.2.1<(Zk n i c).2.1
  ·rw[Ze a];simp;omega
  ·rw[Zi a];simp;omega
theorem ZqA{i b c:Nat}{st:Bool}{s t a z:Int} :JS n (ZY n i b c st) (KM s t a z)=0↔(Zk n i c).1=s/\a=(Zk n i c).2.1:=by
 unfold JS ZY KM Kw;simp only[Vd,Vic,Zc,Zd,Vu];rw[Kt (by omega)];simp only[Vl,KL];refine and_congr_right fun _=>?_;by_cases d:a=(Zk n i c).2.1
 ·rw[Ze d];simp [d]
 ·rw[Zi d];simp [d]
theorem ZqB{j d e:Nat}{s t a z:Int} :JS n (KM s t a z) (ZY n j d e false)=0↔t=(Zk n j d).1/\z<=(Zk n j d).2.2.1:=by
 unfold JS ZY KM Kw;simp only[Vd,Vcd,Zc,Zd,Vu];rw[Kt (by omega)];simp only[Vl,KL];refine and_congr_right fun _=>?_;by_cases b:(Zk n j d).2.2.1<z
 ·rw[Ze b];simp;omega
 ·rw[Zi b];simp;omega
theorem Zqz(h:W2 n){i b c j d e:Nat}{st:Bool}(k:i<n.2.2.1.length)(g:c<(Zw n i).length):JS n (ZY n i b c st) (ZY n j d e false)=0↔(Zk n i c).1=(Zk n j d).1/\
 ((Zk n i c).2.1+(K2 n (Zk n i c).1).2.2.2.1<=(Zk n j d).2.2.1\/isLink n i c j d false/\(Zk n i c).2.1<=(Zk n j d).2.2.1):=by
 have r:=h.time k g;have l:=h.stop k g;have o:=h.change _ l.1 l.2;have p:Va .i64 ((Zk n i c).2.1+(K2 n (Zk n i c).1).2.2.2.1)=(Zk n i c).2.1+(K2 n (Zk n i c).1).2.2.2.1:=Zx (by omega) (by omega);unfold JS;have m:Ya n (ZY n i b c st) (ZY n j d e false) false=true↔isLink n i c j d false:=Zks h;generalize Ya n (ZY n i b c st) (ZY n j d e false) false=B at*;unfold ZY Kw;simp only[Vd,Vic,Zc,p];rw[Kt (by omega)];simp only[Vl,KL];refine and_congr_right fun _=>?_;rw[<-m];by_cases a:(Zk n i c).2.1+(K2 n (Zk n i c).1).2.2.2.1<=(Zk n j d).2.2.1
 ·rw[Ze a];simp [a]
 ·rw[Zi a];by_cases f:(Zk n i c).2.1<=(Zk n j d).2.2.1
  ·rw[Ze f]
   cases B with
   |true=>simp [a,f]
   |false=>simp [a]
  ·rw[Zi f];simp [a,f]
theorem Zft{i b c:Nat}{st:Bool} :YS n (Zy q) (ZY n i b c st)=0↔(Zk n i c).2.2.2.2.1=true:=by unfold YS;rw[Kt (by omega),Kt (by omega),Zef];show (!(Zk n i c).2.2.2.2.1)=false/\_↔_;simp
theorem Hg{n:Zf}{q:Zq}{L:List Zs}{i:Nat} :WD n q L i=0↔JD n q (lg L i)=0/\Gj n q L i=0/\(J7 L i=true->YS n q (lg L i)=0):=by
 unfold WD;by_cases a:JD n q (lg L i)=0
 ·by_cases b:Gj n q L i=0
  ·rw[Ze a,Ze b]
   cases J7 L i<;>simp [a,b]
  ·rw[Ze a,Zi b];simp [b]
 ·rw[Zi a];simp [a]
theorem ZaP{n:Zf}{q:Zq}{L:List Zs} :YX n q L=0↔(lg L 0).2.2.2.2.1=q.1/\Kw (lg L 0)=false/\(!(lg L 0).1&& (decide (1<L.length) && ((lg L 1).1&& !decide ((lg L 1).2.2.2.2.2.2.1=(lg L 0).2.2.2.2.2.2.2.1))))=false/\
 (!(lg L 0).1&& (decide (L.length=1) && (bif q.2.2.2.1 then !decide ((lg L 0).2.2.2.2.2.2.2.1=q.2.2.1) else !decide ((lg L 0).2.2.2.2.2.2.1=q.2.2.1))))=false/\
 (!q.2.2.2.1&&decide ((lg L 0).2.2.2.2.2.2.1<q.2.2.1))=false/\(q.2.2.2.2.2.2.2.2.2.1&& ((lg L 0).1&&decide ((lg L 0).2.2.2.2.2.2.1<Va .i64 (q.2.2.1+(K2 n q.1).2.2.2.1))))=false:=by
 unfold YX;rw[Kt (by omega),Kt (by omega),Kt (by omega),Kt (by omega),Kt (by omega)];simp only[Vl,KL];refine and_congr_right fun _=>and_congr_right fun _=>and_congr_right fun _=>and_congr_right fun _=>and_congr_right fun _=>?_
 cases (q.2.2.2.2.2.2.2.2.2.1&& ((lg L 0).1&&decide ((lg L 0).2.2.2.2.2.2.1<Va .i64 (q.2.2.1+(K2 n q.1).2.2.2.1))))<;>simp
end Q
namespace Q
open Tr Go
abbrev Ku:=Yh×YH×List (Int×Int×Int×Int×Unit) ×Unit
abbrev ZeY:=List (Zbw×List Zu)
abbrev Wf:=Zf×Zq×ZeY×G4×List Ku×Unit
def Wp:JN->List ZK
 |[]=>[]
 |[_]=>[]
 |x::y::t=>Wp (y::t)++[x.2.1]
theorem Zen{S:List Jo->List Int->Prop}{F:G3}{rs:List Jo}{s:JN}(h:XX S F rs s):Wp s=rs:=by
 induction h with
 |start=>rfl
 |snoc a _ _ b=>
  obtain⟨_,_,_,e,_⟩:=a.head;subst e;show Wp (_::_)++_=_;rw[b]
def JC(m:ZeY)(p:Zbw):List Zu:=Vhc (ZJ (Zl Wl) p m) []
def Xy(st:Wf):List Zu:=st.2.2.2.1.2.1.map Vad
def Jv(st:Wf)(p:Zbw):List Zu:=JC st.2.2.1 p
section
variable (F:Ke) (hF:FO F)
def XG(l:Zu):Prop:=H5 F hF (Wp l.2.2.2.2.1) l.2.2.2.2.1/\ ∀v∈Wp l.2.2.2.2.1,Yn v
def Jy(a b:Zu):Prop:=a.1=b.1/\a.2.1<=b.2.1/\a.2.2.1<=b.2.2.1/\a.2.2.2.1<=b.2.2.2.1/\Dm.Dom (WA F hF.fareOk) F.1.length ((Wp a.2.2.2.2.1).map Kn) ((Wp b.2.2.2.2.1).map Kn)
def K3(st:Wf)(ls:List Zu)(os:List Ku)(a:Wf):Prop:= ∃sub:List Zu,sub.length<=ls.length/\(∀o∈sub,o∈ls)/\(Xy a).Perm (sub++Xy st)/\(a.1=st.1/\a.2.1=st.2.1/\a.2.2.2.2.1=st.2.2.2.2.1++os)/\
 (∀p o,o∈Jv a p↔o∈Jv st p\/(o∈sub/\o.1=p))/\(∀p,(Jv a p).length<=(Jv st p).length+sub.length)/\(∀w:Zu->Nat,(sub.map w).sum<=(ls.map w).sum)/\ ∀l∈ls,∃o∈Jv a l.1,Jy F hF o l
structure Xm (n:Zf) (q:Zq) (st:Wf) (N:Nat):Prop where
 net:st.1=n
 que:st.2.1=q
 lab:∀p,∀o∈Jv st p,o.1=p/\XG F hF o
 few:∀p,(Jv st p).length<=N
 queue:(Xy st).length<=N
end
variable {F:Ke}{hF:FO F}{n:Zf}{q:Zq}
theorem Jy.refl(a:Zu):Jy F hF a a:=⟨rfl,Vna _,Vna _,Vna _,Dm.Dom.refl _⟩
theorem Jy.trans{a b c:Zu}(h:Jy F hF a b)(k:Jy F hF b c):Jy F hF a c:=⟨h.1.trans k.1,Vyb h.2.1 k.2.1,Vyb h.2.2.1 k.2.2.1,Vyb h.2.2.2.1 k.2.2.2.1,h.2.2.2.2.trans k.2.2.2.2⟩
theorem K3.nil(st:Wf):K3 F hF st [] [] st:=⟨[],by simp,by simp,.refl _,⟨rfl,rfl,(Vda _).symm⟩,by simp,by simp,by simp,by simp⟩
theorem K3.trans{st e c:Wf}{ls ms:List Zu}{os m:List Ku}(h:K3 F hF st ls os e)(k:K3 F hF e ms m c):K3 F hF st (ls++ms) (os++m) c:=by
 obtain⟨E,G,s,t,f,u,v,x,y⟩:=h;obtain⟨r,H,z,A,g,i,B,C,D⟩:=k;refine⟨E++r,by simp;omega,fun o j=>?_,?_,⟨g.1.trans f.1,g.2.1.trans f.2.1,by rw[g.2.2,f.2.2,Vma]⟩,fun p o=>?_,fun p=>?_,fun w=>?_,fun l d=>?_⟩
 ·rw[Vca]at j⊢;exact j.imp (s o) (z o)
 ·refine A.trans ((List.Perm.append_left r t).trans ?_);rw[<-Vma];exact List.Perm.append_right _ Vdb
 ·rw[i,u,Vca];constructor
  ·rintro ((h|⟨a,b⟩) |⟨a,b⟩)
   ·exact .inl h
   ·exact .inr ⟨.inl a,b⟩
   ·exact .inr ⟨.inr a,b⟩
  ·rintro (h|⟨a|a,b⟩)
   ·exact .inl (.inl h)
   ·exact .inl (.inr ⟨a,b⟩)
   ·exact .inr ⟨a,b⟩
 ·have:=v p;have:=B p;rw[Vp];omega
 ·rw[Vv,Vv,Vbd,Vbd];exact Nat.add_le_add (x w) (C w)
 ·rw[Vca]at d;rcases d with d|d
  ·obtain⟨o,a,b⟩:=y l d;exact⟨o,(i _ _).2 (.inl a),b⟩
  ·exact D l d
theorem Xm.adds{st a:Wf}{N:Nat}{ls:List Zu}{os:List Ku}(h:Xm F hF n q st N)(j:∀l∈ls,XG F hF l)(k:K3 F hF st ls os a):Xm F hF n q a (N+ls.length):=by
 obtain⟨u,r,d,e,c,f,g,s,t⟩:=k;refine⟨c.1.trans h.net,c.2.1.trans h.que,fun p o m=>?_,fun p=>?_,?_⟩
 ·rcases (f p o).1 m with b|⟨b,i⟩
  ·exact h.lab p o b
  ·exact⟨i,j o (d o b)⟩
 ·have:=g p;have:=h.few p;omega
 ·rw[e.length_eq,Vp];have:=h.queue;omega
theorem Zte{a b:Zu}(f:XG F hF a)(g:XG F hF b)(k:a.1=b.1):∃t,F174 a b=some t/\(t=true->Jy F hF a b):=by
 obtain⟨d,i,j⟩:=Zp2 hF f.1 g.1 f.2 g.2;unfold F174;by_cases c:a.2.1<=b.2.1
 case neg=>rw[Zi c];exact⟨_,rfl,fun h=>by cases h⟩
 by_cases e:a.2.2.1<=b.2.2.1
 case neg=>rw[Ze c,Zi e];exact⟨_,rfl,fun h=>by cases h⟩
 by_cases c3:a.2.2.2.1<=b.2.2.2.1
 case neg=>rw[Ze c,Ze e,Zi c3];exact⟨_,rfl,fun h=>by cases h⟩
 rw[Ze c,Ze e,Ze c3];simp only[Zd,i,Za];exact⟨_,rfl,fun h=>⟨k,c,e,c3,j h⟩⟩
theorem Zir{α β:Type}{eq:α->α->Bool}(k:α)(v:β):∀l:List (α×β),idx (Z0 eq k v l) ((Tr.amPos eq k l:Nat):Int)=some (k,v)
 |[]=>rfl
 |e::l=>by
  have a:=Zir (eq:=eq) k v l;rw[Z0,Tr.amPos]
  cases h:eq k e.1 with
  |true=>rfl
  |false=>
   simp only[Zc]
   have b:Tr.amPos eq k l<(Z0 eq k v l).length:=by
    by_cases c:Tr.amPos eq k l<(Z0 eq k v l).length
    ·exact c
    ·unfold idx at a;rw[Vj,List.getElem?_eq_none (by omega)]at a
     split at a<;>simp at a
   rw[ZA b]at a;rw[ZA (by simpa using b),List.getElem_cons_succ];exact a
open Classical in
theorem ZfB(m:ZeY)(l:Zu)(p:Zbw):JC (Z0 (Zl Wl) l.1 (JC m l.1++[l]) (Z0 (Zl Wl) l.1 (JC m l.1) m)) p=if p=l.1 then JC m p++[l] else JC m p:=by
 have a:Ty.key Wl=true:=rfl;show Vhc (ZJ (Zl Wl) p _) []=_;rw[GL a];by_cases h:p=l.1
 ·rw[Zo h,Zo h,h];rfl
 ·rw[Zg h,Zg h,GL a,Zg h];rfl
theorem Zfp{st:Wf}{N:Nat}(h:Xm F hF n q st N){l:Zu}(P:XG F hF l)(U:N+1<=549755813888):∃k,F176 st l=some k/\K3 F hF st [l] [] k:=by
 obtain⟨R,T,a,⟨⟨⟩,D,Q,⟨⟩⟩,S,⟨⟩⟩:=st;unfold F176;simp only;have E:∀o∈JC a l.1,o.1=l.1/\XG F hF o:=h.lab l.1;have G:(JC a l.1).length<=N:=h.few l.1;have V:D.length<=N:=by have:=h.queue;simpa [Xy] using this
 have d:Vhc (ZJ (Zl Wl) l.1 a) []=JC a l.1:=rfl;simp only[d]
 suffices K:∃r:Unit ⊕ Unit,_=some r/\(r=.inr ()->∃o∈JC a l.1,Jy F hF o l) by
  obtain⟨r,f,w⟩:=K
  cases r with
  |inr u=>
   refine⟨_,KD (fun x=>x=Sum.inr ()) ⟨_,f,rfl⟩ (fun x B=>by subst B;rfl),[],by simp,by simp,.refl _,⟨rfl,rfl,(Vda _).symm⟩,fun p o=>by simp [Jv],fun p=>by simp [Jv],by simp,?_⟩;intro C b;rw[Vt]at b;subst b
   exact w rfl
  |inl u=>
   have j:Vhc (ZJ (Zl Wl) l.1 (Z0 (Zl Wl) l.1 (JC a l.1) a)) []=JC a l.1:=by rw[GL rfl,Zo rfl];rfl
   obtain⟨m,H,z,A⟩:=Ztz (c:=Q) l (show D.length+1<=549755813888 by omega)
   have M:ZF (decide ((JC a l.1).length+ [l].length<=ZC))=some ():=by rw[Ze (by simp [ZC];omega)];rfl
   have O:ZF (Tr.holeK Wl (some l.1) l.1)=some ():=by have:Tr.holeK Wl (some l.1) l.1=true:=(Ju (t:=Wl) rfl).2 rfl;rw[this];rfl
   refine⟨(R,T,Z0 (Zl Wl) l.1 (JC a l.1++[l]) (Z0 (Zl Wl) l.1 (JC a l.1) a),((),m,H,()),S,()),KD (fun x=>x=Sum.inl ()) ⟨_,f,rfl⟩ (fun x B=>by subst B;simp only[Sum.elim_inl,j,M,Za,Zir,O,z]),[l],by simp,by simp,?_,⟨rfl,rfl,(Vda _).symm⟩,fun p o=>?_,fun p=>?_,by simp,?_⟩
   ·show (Vqd Vad m).Perm ([l]++Vqd Vad D);have:=A.map Vad;rw[Vv]at this;exact this.trans Vdb
   ·show o∈JC _ p↔o∈JC a p\/_;rw[ZfB];by_cases v:p=l.1
    ·rw[Zo v,Vca,Vt];refine or_congr Vvc ⟨fun e=>⟨e,by rw[e,v]⟩,fun e=>e.1⟩
    ·rw[Zg v];refine⟨.inl,fun e=>e.resolve_right ?_⟩;rintro ⟨f,w⟩;rw[Vt]at f;exact v (by rw[<-w,f])
   ·show (JC _ p).length<=(JC a p).length+_;rw[ZfB]
    split<;>simp
   ·intro C b;rw[Vt]at b;subst b;refine⟨C,?_,Jy.refl _⟩;show C∈JC _ _;rw[ZfB,Zo rfl];simp
 refine Kf (JC a l.1).length (fun r:Unit ⊕ Unit=>r=.inr ()->∃o∈JC a l.1,Jy F hF o l) (fun i (s:Int)=>s=(i:Int)) ?_ ?_ _ rfl
 ·rintro i _ g rfl;have y:=Ve g;obtain⟨t,I,J⟩:=Zte (E _ y).2 P (E _ y).1;simp only[ZL g,Zd,Kg g,Vc g,Za,I]
  cases t with
  |true=>exact .inr ⟨_,rfl,fun _=>⟨_,y,J rfl⟩⟩
  |false=>exact .inl ⟨_,rfl,ZU g (by omega)⟩
 ·rintro _ rfl;refine⟨.inl (),by simp only[JE,Zc],fun e=>?_⟩;cases e
end Q
namespace Q
open Tr Go
variable {F:Ke}{hF:FO F}{n:Zf}{q:Zq}
theorem R1{i:Nat}(a:i<n.2.2.1.length):idx n.2.2.1 (i:Int)=some (rn n (i:Int)):=by
 rw[ZA a];unfold rn
 grind
theorem R0{i c:Nat}(a:c<(Zw n i).length):idx (rn n (i:Int)).2.2.2.2.2.2.2.1 (c:Int)=some (Zk n i c):=by
 have:idx (Zw n i) (c:Int)=some (Zk n i c):=by rw[ZA a,RR a]
 exact this
theorem ZdP{β:Type}(f:Nat->List β)(i:Nat):(Vo (i+1)).flatMap f=(Vo i).flatMap f++f i:=by rw[List.range_succ,Vib];simp
theorem Zqx{β:Type}(f:Nat->List β){i m:Nat}(h:i<=m):((Vo i).flatMap f).length<=((Vo m).flatMap f).length:=by
 induction m with
 |zero=>grind
 |succ m b=>
  rcases Vua m i with a|a
  ·grind
  ·rw[ZdP,Vp];omega
theorem Zgf{α β:Type}(l:List α)(f:α->List β):l.flatMap f=(Vo l.length).flatMap fun i=>(l[i]?).elim [] f:=by
 have key:∀k,k<=l.length->(l.take k).flatMap f=(Vo k).flatMap fun i=>(l[i]?).elim [] f:=by
  intro k
  induction k with
  |zero=>simp
  |succ k a=>
   intro h;rw[ZdP, <-a (by omega),Vf (by omega),Vib,Vc (by omega)];simp
 grind
theorem Zcx{σ τ:Type}{step:σ->Option (σ ⊕ τ)}{m:Nat}{g:Nat->List Zu}{st:Wf}{N:Nat}(mk:Nat->Wf->σ)(fin:Wf->τ)(f:Xm F hF n q st N)(h:∀i,i<m->∀l∈g i,XG F hF l)(t:N+((Vo m).flatMap g).length<=549755813888)
 (b:∀i st N,i<m->Xm F hF n q st N->N+(g i).length<=549755813888->∃s',step (mk i st)=some (.inl s')/\ ∃a,s' =mk (i+1) a/\K3 F hF st (g i) [] a)
 (d:∀st N,Xm F hF n q st N->step (mk m st)=some (.inr (fin st))):∃r,run step (mk 0 st)=some r/\ ∃a,r=fin a/\K3 F hF st ((Vo m).flatMap g) [] a:=by
 have lab:∀i,i<=m->∀l∈(Vo i).flatMap g,XG F hF l:=by grind
 refine Kf m (fun r=>∃a,r=fin a/\K3 F hF st ((Vo m).flatMap g) [] a) (fun i s=>∃a,s=mk i a/\K3 F hF st ((Vo i).flatMap g) [] a) ?_ ?_ _ ⟨st,rfl,K3.nil st⟩
 ·rintro i _ p ⟨a,rfl,c⟩;left;have o:=f.adds (by grind) c;have e:=Zqx g (show i+1<=m by omega);rw[ZdP,Vp]at e;obtain⟨s',j,st2,rfl,k⟩:=b i a _ p o (by omega);refine⟨_,j,st2,rfl,?_⟩;rw[ZdP];exact c.trans k
 ·rintro _ ⟨a,rfl,c⟩;exact⟨_,d a _ (f.adds (by grind) c),a,rfl,c⟩
def Zan(n:Zf)(i c:Nat):Bool:=n.2.2.2.1.any fun l=>l.2.2.2.2.1&& (decide (l.1=(i:Int)) &&decide (l.2.1=(c:Int)))
def Gk(n:Zf)(l:Zu)(j d:Nat):Bool:=n.2.2.2.1.any fun k=> !k.2.2.2.2.1&& (decide (l.1.1=1) && (decide (k.1=l.1.2.2.1) && (decide (k.2.1=l.1.2.2.2.1) && (decide (k.2.2.1=(j:Int)) &&decide (k.2.2.2.1=(d:Int))))))
theorem ZtI(st:Wf)(p:st.1.2.2.2.1.length<=1024)(i c:Nat):F184 st (i:Int) (c:Int)=some (st,Zan st.1 i c):=by
 unfold F184
 refine KD (fun r:Unit ⊕ Bool=>r=if Zan st.1 i c then .inr true else .inl ()) ?_ ?_
 ·refine Kf st.1.2.2.2.1.length _ (fun k (s:Int)=>s=(k:Int)/\(st.1.2.2.2.1.take k).any (fun l=>l.2.2.2.2.1&& (decide (l.1=(i:Int)) &&decide (l.2.1=(c:Int))))=false) ?_ ?_ _ ⟨rfl,rfl⟩
  ·rintro k _ a ⟨rfl,d⟩;have m:idx st.1.2.2.2.1 (k:Int)=some st.1.2.2.2.1[k]:=ZA a;simp only[ZL a,Zd,m,Za];have e:=HD a (fun l:Yi=>l.2.2.2.2.1&& (decide (l.1=(i:Int)) &&decide (l.2.1=(c:Int))));have b:=fun h=>Zdf a (f:=fun l:Yi=>l.2.2.2.2.1&& (decide (l.1=(i:Int)) &&decide (l.2.1=(c:Int)))) h;generalize o:st.1.2.2.2.1[k]=x at*
   cases j:(x.2.2.2.2.1&& (decide (x.1=(i:Int)) &&decide (x.2.1=(c:Int)))) with
   |true=>
    right;have g:Zan st.1 i c=true:=b j
    grind
   |false=>
    left;refine⟨((k+1:Nat):Int),?_,rfl,by grind⟩;have t:=ZU a (by omega)
    grind
  ·rintro _ ⟨rfl,d⟩;rw[Vja]at d;have g:Zan st.1 i c=false:=d
   grind
 grind
theorem Ztl(st:Wf)(p:st.1.2.2.2.1.length<=1024)(l:Zu)(j d:Nat):F181 st l (j:Int) (d:Int)=some (st,Gk st.1 l j d):=by
 unfold F181
 refine KD (fun r:Unit ⊕ Bool=>r=if Gk st.1 l j d then .inr true else .inl ()) ?_ ?_
 ·refine Kf st.1.2.2.2.1.length _ (fun k (s:Int)=>s=(k:Int)/\(st.1.2.2.2.1.take k).any (fun k=> !k.2.2.2.2.1&& (decide (l.1.1=1) && (decide (k.1=l.1.2.2.1) && (decide (k.2.1=l.1.2.2.2.1) && (decide (k.2.2.1=(j:Int)) &&decide (k.2.2.2.1=(d:Int)))))))=false) ?_ ?_ _ ⟨rfl,rfl⟩
  ·rintro k _ a ⟨rfl,c⟩;have m:idx st.1.2.2.2.1 (k:Int)=some st.1.2.2.2.1[k]:=ZA a;simp only[ZL a,Zd,m,Za];have e:=HD a (fun k:Yi=> !k.2.2.2.2.1&& (decide (l.1.1=1) && (decide (k.1=l.1.2.2.1) && (decide (k.2.1=l.1.2.2.2.1) && (decide (k.2.2.1=(j:Int)) &&decide (k.2.2.2.1=(d:Int)))))));have b:=fun h=>Zdf a (f:=fun k:Yi=> !k.2.2.2.2.1&& (decide (l.1.1=1) && (decide (k.1=l.1.2.2.1) && (decide (k.2.1=l.1.2.2.2.1) && (decide (k.2.2.1=(j:Int)) &&decide (k.2.2.2.1=(d:Int))))))) h;generalize o:st.1.2.2.2.1[k]=x at*;have t:=ZU a (by omega)
   cases i:(!x.2.2.2.2.1&& (decide (l.1.1=1) && (decide (x.1=l.1.2.2.1) && (decide (x.2.1=l.1.2.2.2.1) && (decide (x.2.2.1=(j:Int)) &&decide (x.2.2.2.1=(d:Int))))))) with
   |true=>
    right;have g:Gk st.1 l j d=true:=b i
    grind
   |false=>
    grind
  ·rintro _ ⟨rfl,c⟩;rw[Vja]at c;have g:Gk st.1 l j d=false:=c
   grind
 grind
theorem ZhB{L:List Zs}(x:Zs)(h:L.length<=1000):F188 L x=some (L++[x]):=by
 unfold F188;have c:(ZC:Int)=549755813888:=rfl;have b:(ZC:Nat)=549755813888:=rfl;rw[Zx (by omega) (by omega)]
 have a:ZF (decide ((0:Int)<=(0:Int)/\(0:Int)<=(L.length:Int)+1/\(L.length:Int)+1<=(ZC:Int)))=some ():=by rw[Ze ⟨by omega,by omega,by omega⟩];rfl
 rw[a];simp only[Za,Int.toNat_zero,List.replicate_zero,Vyc,Vta,Vzb];rw[Ze (by omega),Ze (by grind)];rfl
def GY(n:Zf)(v:ZK)(x:Zs):ZK:=(v.1,x.2.2.2.2.2.2.2.1,KN .i64 v.2.2.1 ((Hu n x:Nat):Int),KN .i64 v.2.2.2.1 ((2 ^ (Hr n x).2.1.toNat:Nat):Int),())
def Xw(n:Zf)(l:Zu)(i b c:Nat)(st:Bool)(v:ZK):Zu:=((1,(Zk n i c).1,(i:Int),(c:Int),GY n v (ZY n i b c st),()),(Zk n i c).2.1,l.2.2.1,l.2.2.2.1,l.2.2.2.2.1,l.2.2.2.2.2.1++[ZY n i b c st],())
def HP(n:Zf)(i c:Nat):Bool:=(Zk n i c).2.2.2.2.1||Zan n i c
def Rq(n:Zf)(l:Zu)(i b:Nat)(st:Bool)(v:ZK)(c:Nat):List Zu:=if HP n i c=true then [Xw n l i b c st v] else []
def DD(n:Zf)(l:Zu)(i b:Nat)(st:Bool)(v:ZK):List Zu:=(Vo ((Zw n i).length - (b+1))).flatMap fun k=>Rq n l i b st v (b+1+k)
theorem ZkG{l:Zu}{i b:Nat}{st:Bool}{v:ZK}{x:Zu} :x∈DD n l i b st v↔∃c,b<c/\c<(Zw n i).length/\HP n i c=true/\x=Xw n l i b c st v:=by
 unfold DD Rq;rw[Vka];constructor
 ·grind
 ·rintro ⟨c,a,d,e,rfl⟩;refine⟨c - (b+1),by grind,?_⟩
  grind
theorem Zmq(p:W2 n){st:Wf}{N:Nat}(hG:Xm F hF n q st N){l:Zu}(Y:XG F hF l)(Z:l.2.2.2.2.2.1.length<=999){i b:Nat}(D:i<n.2.2.1.length)(P:b<(Zw n i).length)(a:Bool){v:ZK}(S:Small v)(hM:N+(DD n l i b a v).length<=549755813888):
 ∃d,F185 st l (i:Int) (b:Int) a v=some d/\K3 F hF st (DD n l i b a v) [] d:=by
 have b4:=p.sound.links;have a0:=p.sound.many _ (Ve D);have b0:(Zw n i).length<=32:=by rw[ZaD D];omega
 have e:∀c∈Zw n i,0<=c.1/\c.1<(n.1.length:Int):=by rw[ZaD D];exact p.sound.call _ (Ve D)
 obtain⟨sn,st2⟩:=st;obtain rfl:n=sn:=hG.net.symm
 have b2:∀c,b<c->c<(Zw n i).length->Ks n (ZY n i b c a)=true:=fun c h1 h2=>by
  unfold Ks;have U:ZT (ZY n i b c a).2.1 n.2.2.1.length=true:=by show ZT (i:Int) _=true;unfold ZT;grind
  have e2:(KH n (ZY n i b c a)).length=(Zw n i).length:=rfl;rw[U,e2];show (true&& (decide (0<=(b:Int)) && (decide ((b:Int)<(c:Int)) &&decide ((c:Int)<((Zw n i).length:Int)))))=true
  grind
 have I:∀c,(Hr n (ZY n i b c a))=(n.2.1[(rn n (i:Int)).2.2.2.2.1.toNat]?).getD Rj:=fun _=>rfl
 obtain⟨f,H,j⟩:idx n.2.1 (rn n (i:Int)).2.2.2.2.1=some ((n.2.1[(rn n (i:Int)).2.2.2.2.1.toNat]?).getD Rj)/\0<=((n.2.1[(rn n (i:Int)).2.2.2.2.1.toNat]?).getD Rj).2.1/\((n.2.1[(rn n (i:Int)).2.2.2.2.1.toNat]?).getD Rj).2.1<16:=by
  have Q:rn n (i:Int)∈n.2.2.1:=by unfold rn;grind
  have h1:=p.sound.route _ Q;have X:ZT (rn n (i:Int)).2.2.2.2.1 n.2.1.length=true:=by unfold ZT;grind
  refine⟨Wy X Rj,?_⟩;have Y:(rn n (i:Int)).2.2.2.2.1.toNat<n.2.1.length:=by omega
  rw[Kq Y];have:=p.sound.mode _ (Ve Y);omega
 generalize hR:(n.2.1[(rn n (i:Int)).2.2.2.2.1.toNat]?).getD Rj=R at f H j I;obtain⟨b3,a5,J⟩:=ZcG p.sound (e _ (Ve P)).1 (by grind);obtain⟨⟨z,hz⟩,b7⟩:(∃z:Nat,v.2.2.1=(z:Int))/\v.2.2.1<65536:=⟨⟨_,(Vz S.1.1).symm⟩,S.1.2⟩;obtain⟨⟨m,Q⟩,b6⟩:(∃z:Nat,v.2.2.2.1=(z:Int))/\v.2.2.2.1<65536:=⟨⟨_,(Vz S.2.1).symm⟩,S.2.2⟩;have b5:∀k,b+k<=(Zw n i).length->zN n (Zw n i) b k<65536:=fun k hk=>Zbq p.sound e k (by omega)
 have K:zN n (Zw n i) b 1=2 ^ (Gx n (Zw n i)[b].1).2.1.toNat:=by show zN n (Zw n i) b 0 ||| zn n (Zw n i) (b+0)=_;unfold zn;rw[Nat.add_zero,Kq P];show 0 ||| _=_;simp
 unfold F185;have b1:Zk n i b=(Zw n i)[b]:=RR P;have U:idx n.1 (Zk n i b).1=some (Gx n (Zw n i)[b].1):=by grind
 simp only[R1 D,Za,f,Dz H j,R0 P,U,Dz a5 J];rw[hz,Q,HO (by omega) (Y2 J),HO (by omega) (Y2 j), <-K];have a7:Va .i64 ((b:Int)+1)=((b+1:Nat):Int):=by rw[Zx (by omega) (by omega)];omega
 rw[a7]
 have E:∀k,k<(Zw n i).length - (b+1)->∀x∈Rq n l i b a v (b+1+k),XG F hF x:=by
  intro k _ x T;unfold Rq at T;split at T
  ·rw[Vt]at T;subst T
   assumption
  grind
 refine Wo (fun r=>∃d,r=d/\K3 F hF (n,st2) (DD n l i b a v) [] d) (Zcx (F:=F) (hF:=hF) (n:=n) (q:=q) (m:=(Zw n i).length - (b+1)) (g:=fun k=>Rq n l i b a v (b+1+k)) (st:=(n,st2))
  (fun k s=>(s,(v.1,(if k=0 then v.2.1 else(Zk n i (b+k)).2.1),((z ||| zN n (Zw n i) b (k+1):Nat):Int),((m ||| 2 ^ R.2.1.toNat:Nat):Int),v.2.2.2.2),((b+1+k:Nat):Int))) (fun s=>s) hG E hM ?hstep ?hend) ?fin
 case hstep=>
  intro k s M hk u w;have W:b+1+k<(Zw n i).length:=by omega
  have V:Zk n i (b+1+k)=(Zw n i)[b+1+k]:=RR W;obtain⟨t1,t2,t3⟩:=ZcG p.sound (e _ (Ve W)).1 (by grind);rw[<-V]at t1 t2 t3;have G:decide (((b+1+k:Nat):Int)<((rn n (i:Int)).2.2.2.2.2.2.2.1.length:Int))=true:=Ze (by show ((b+1+k:Nat):Int)<((Zw n i).length:Int);omega);have a8:Va .i64 (((b+1+k:Nat):Int)+1)=((b+1+(k+1):Nat):Int):=by rw[Zx (by omega) (by omega)];omega
  have a9:zN n (Zw n i) b (k+1+1)=zN n (Zw n i) b (k+1) ||| 2 ^ (Gx n (Zk n i (b+1+k)).1).2.1.toNat:=by
   show zN n (Zw n i) b (k+1) ||| zn n (Zw n i) (b+(k+1))=_;unfold zn
   grind
  have a3:KN .i64 ((z ||| zN n (Zw n i) b (k+1):Nat):Int) ((2 ^ (Gx n (Zk n i (b+1+k)).1).2.1.toNat:Nat):Int)=((z ||| zN n (Zw n i) b (k+1+1):Nat):Int):=by have:z ||| zN n (Zw n i) b (k+1)<2 ^ 16:=Vob (n:=16) (by omega) (by grind);rw[HO (by omega) (Y2 t3),a9,Vla]
  have a6:s.1=n:=u.net;have h:=ZtI s (by grind) i (b+1+k);rw[a6]at h
  have a4:GY n v (ZY n i b (b+1+k) a)=(v.1,(Zk n i (b+1+k)).2.1,((z ||| zN n (Zw n i) b (k+1+1):Nat):Int),((m ||| 2 ^ R.2.1.toNat:Nat):Int),v.2.2.2.2):=by
   unfold GY;rw[I,hz,Q]
   have ez:Hu n (ZY n i b (b+1+k) a)=zN n (Zw n i) b (k+1+1):=by unfold Hu;show zN n (Zw n i) (b:Int).toNat (((b+1+k:Nat):Int).toNat+1 - (b:Int).toNat)=_;rw[Vj,Vj];congr 1;omega
   rw[ez,HO (by omega) (by grind),HO (by omega) (Y2 j)];rfl
  simp only[G,Zd,R0 W,Za];rw[show s.1.1=n.1 by grind];simp only[t1,Za,Dz t2 t3,a3,a8,ZhB _ (show l.2.2.2.2.2.1.length<=1000 by omega)]
  have y:∀o:Wf,(o,(v.1,(Zk n i (b+1+k)).2.1,((z ||| zN n (Zw n i) b (k+1+1):Nat):Int),((m ||| 2 ^ R.2.1.toNat:Nat):Int),v.2.2.2.2),((b+1+(k+1):Nat):Int))=((o,(v.1,(if k+1=0 then v.2.1 else(Zk n i (b+(k+1))).2.1),((z ||| zN n (Zw n i) b (k+1+1):Nat):Int),((m ||| 2 ^ R.2.1.toNat:Nat):Int),v.2.2.2.2),((b+1+(k+1):Nat):Int)):Wf×ZK×Int):=by grind
  have B:HP n i (b+1+k)=true->∃d,F176 s (Xw n l i b (b+1+k) a v)=some d/\K3 F hF s [Xw n l i b (b+1+k) a v] [] d:=fun t=>by unfold Rq at w;rw[Zo t]at w;exact Zfp u (by assumption) w
  unfold Rq;by_cases t:HP n i (b+1+k)=true
  ·rw[Zo t];obtain⟨d,O,a2⟩:=B t;unfold Xw at O;rw[a4]at O
   cases C:(Zk n i (b+1+k)).2.2.2.2.1 with
   |true=>
    simp only[Vd,Zc];refine Xr (fun x=>x=d) ⟨d,O,rfl⟩ ?_
    grind
   |false=>
    have A:Zan n i (b+1+k)=true:=by unfold HP at t;grind
    rw[A]at h;simp only[Vu,Zd];refine Xr (fun x=>x=(s,true)) ⟨_,h,rfl⟩ ?_;rintro _ rfl;simp only[Vd,Zc];refine Xr (fun x=>x=d) ⟨d,O,rfl⟩ ?_
    grind
  ·rw[Zg t];unfold HP at t;rw[Bool.or_eq_true]at t
   have C:(Zk n i (b+1+k)).2.2.2.2.1=false:=by
    grind
   have A:Zan n i (b+1+k)=false:=by
    grind
   rw[A]at h;simp only[C,Vu,Zd];refine Xr (fun x=>x=(s,false)) ⟨_,h,rfl⟩ ?_;rintro _ rfl;simp only[Vu,Zd];exact⟨_,rfl,_,y s,K3.nil s⟩
 case hend=>
  intro s M u;have:((b+1+((Zw n i).length - (b+1)):Nat):Int)=((Zw n i).length:Int):=by omega
  have G:decide (((b+1+((Zw n i).length - (b+1)):Nat):Int)<((rn n (i:Int)).2.2.2.2.2.2.2.1.length:Int))=false:=Zi (by rw[this];show¬((Zw n i).length:Int)<((Zw n i).length:Int);omega)
  grind
 simp
end Q
namespace Q
open Tr Go
theorem Zlg{F:Ke}(h:FO F){rs:List ZK}(j:∀v∈rs,Yn v){i p:Nat}(g:i<rs.length):HR F (KF F p) rs i=W8 F ((rs.take i).getLast?.map fun x=>x.2.1) (KF F p) rs[i].1:=by
 unfold HR W8
 cases i with
 |zero=>simp
 |succ i=>
  have c:i<rs.length:=by omega
  have e:(rs.take (i+1)).getLast?=some rs[i]:=by rw[Vsb,Vqa,Vsa (by omega),Vqc,Zo (by omega),Vlb,Vc c]
  rw[e,Vlb,Kq c,Kq g];have l:=h.heads;have k:=ZmY (a:=(rs[i]).2.1) (b:=(rs[i+1]).1) (d:=F.2.2.1) (j _ (Ve c)).2.2 (j _ (Ve g)).2.1 ⟨by omega,by omega⟩;rw[k];simp only[Vdc,KL];by_cases f:(rs[i+1]).1<=(rs[i]).2.1+F.2.2.1
  ·rw[Zo ⟨by omega,f⟩,Zo f]
   split<;>omega
  ·rw[Zg (fun h=>f h.2),Zg f]
theorem Zkk(o:Option Int){l:List Dm.Ride}(h:l≠ []):Dm.lastO o l=Dm.lastO none l:=by
 cases l with
 |nil=>exact absurd rfl h
 |cons r l=>rfl
theorem ZpZ{F:Ke}(f:(Js F).2=0){rs:List ZK}(u:∀v∈rs,Yn v)(D:rs.length<=8){i:Nat}{s:Int}(x:Dv.Div (ZN F rs) i s):
 Dm.LS (WA F (W5 f).fareOk) F.1.length (Dm.lastO none ((rs.take i).map Kn)) ((rs.drop i).map Kn) s:=by
 induction x with
 |nil=>
  have:(ZN F rs).n=rs.length:=rfl;rw[this,Vuc,List.map_nil]
  exact .nil _
 |cons m B C A x z=>
  rename_i i k p s;have o:k<rs.length:=B;have y:i<rs.length:=by omega
  have b:p<F.1.length:=C;have j:=Zf1 f (fun v h=>(u v h).1) (by omega) b m o;have a:(rs.drop i)=rs[i]::(rs.drop (i+1)):=Vk y
  have c:rs.drop i=rs[i]::((rs.drop (i+1)).take (k - i)++rs.drop (k+1)):=by rw[a];congr 1;have:=Vx (k - i) (rs.drop (i+1));rw[Vdd,show i+1+(k - i)=k+1 by omega]at this;exact this.symm
  have e:(rs.drop i).take (k+1 - i)=rs[i]::(rs.drop (i+1)).take (k - i):=by rw[a,show k+1 - i=(k - i)+1 by omega,Vmc]
  have l:Ge (KF F p) (rs[i]::(rs.drop (i+1)).take (k - i))=true:=by
   have r:KF F p=F.1[p]:=by unfold KF;rw[Kq b]
   rw[<-e,r, <-j];exact A
  have g:=(Zdx (W5 f) b (fun v h=>u v (by rw[<-e]at h;exact Vfa (Voa h)))).1 l
  have d:rs.take (k+1)=rs.take i++rs[i]::(rs.drop (i+1)).take (k - i):=by have w:=Vx i (rs.take (k+1));rw[Ved,Vsa (by omega),Vfd,e]at w;exact w.symm
  rw[d,Vv,Dm.lastO_append,Vaa,Zkk _ (by simp)]at z
  have t:(ZN F rs).pr p i=(WA F (W5 f).fareOk).tp (Dm.lastO none ((rs.take i).map Kn)) p (Kn rs[i]).dep:=by rw[Ra];exact Zlg (W5 f) u y
  rw[c,Vaa,Vv,t];exact .cons b g z
theorem Zrv{F:Ke}(f:(Js F).2=0){rs:List ZK}(B:∀v∈rs,Yn v)(N:rs.length<=8){o:Option Int}{l:List Dm.Ride}{s:Int}(J:Dm.LS (WA F (W5 f).fareOk) F.1.length o l s):
 ∀i,i<=rs.length->o=Dm.lastO none ((rs.take i).map Kn)->l=(rs.drop i).map Kn->Dv.Div (ZN F rs) i s:=by
 induction J with
 |nil o=>
  intro i I _ g;have:=congrArg Vh g;rw[Vn,Vwb,Vta]at this;have:i=(ZN F rs).n:=by show i=rs.length;omega
  subst this
  exact .nil
 |cons y G h K=>
  rename_i o r l c p s;intro i I t g;have d:=congrArg Vh g;rw[Vn,Vwb,Vpa,Vp]at d;have m:i<rs.length:=by omega
  have b:(rs.drop i)=rs[i]::(rs.drop (i+1)):=Vk m;rw[b,Vaa]at g;obtain⟨rfl,E⟩:=List.cons.inj g;obtain⟨a,M,C,rfl,rfl⟩:=Vya.1 E.symm;rw[Vn,Vn]at d
  have D:M=rs.drop (i+a.length+1):=by have:=congrArg (Vid a.length) C;rw[Vdd,List.drop_left]at this;rw[<-this];congr 1;omega
  have w:(rs.drop i).take (i+a.length+1 - i)=rs[i]::a:=by rw[b,C,show i+a.length+1 - i=a.length+1 by omega,Vmc,List.take_left]
  have e:rs.take (i+a.length+1)=rs.take i++rs[i]::a:=by have t:=Vx i (rs.take (i+a.length+1));rw[Ved,Vsa (by omega),Vfd,w]at t;exact t.symm
  have H:=K (i+a.length+1) (by omega) (by rw[e,Vv,Dm.lastO_append,Vaa,Zkk (Dm.lastO none (Vqd Kn (Vpb i rs))) (by simp)]) (by rw[D])
  have A:(WA F (W5 f).fareOk).tp o p (Kn rs[i]).dep=(ZN F rs).pr p i:=by rw[t,Ra];exact(Zlg (W5 f) B m).symm
  rw[A];refine .cons (k:=i+a.length) (by omega) (show i+a.length<rs.length by omega) y ?_ H;have x:=Zf1 f (fun v u=>(B v u).1) (by omega) (p:=p) (i:=i) (k:=i+a.length) (by omega) (by omega) (by omega)
  have j:=(Zdx (W5 f) y (r:=rs[i]) (l:=a) (fun v u=>B v (by rw[<-w]at u;exact Vfa (Voa u)))).2 G
  have z:KF F p=F.1[p]:=by unfold KF;rw[Kq y]
  rw[<-w,z]at j;exact x.trans j
theorem Zgv{n:Zf}(r:W1 n)(e:Wa n)(y:F121 n=some true)(q:Zq){L:List Zs}(A:L.length<=90)(z:∀x∈L,Hx x){rs:List ZK}(j:K5 n L false []=(rs,0))(u:∀v∈rs,Yn v)(p:rs.length<=8):
 (∃s t,Dm.Least (Dm.LS (WA n.2.2.2.2.2.1 (W5 e.fare).fareOk) n.2.2.2.2.2.1.1.length none (rs.map Kn)) s/\
   F78 n q (L,())=some ((((L[0]?).map fun x=>x.2.2.2.2.2.2.1).getD q.2.2.1,((L[L.length - 1]?).map fun x=>x.2.2.2.2.2.2.2.1).getD q.2.2.1,(rs.length:Int),Hh n.2.2.2.2.2.1 s,We L,()),t,0))\/
 ((∀s,¬Dm.LS (WA n.2.2.2.2.2.1 (W5 e.fare).fareOk) n.2.2.2.2.2.1.1.length none (rs.map Kn) s)/\ ∃c,F78 n q (L,())=some (c,[],34)):=by
 have g:=W5 e.fare;have hF:=ZbZ e.fare
 have d:F80 n (L,())=some (rs,0):=by
  rcases Zeo n (L,()) r A with ⟨_,f⟩|⟨_,_,f⟩
  ·rw[y]at f;cases f
  ·rw[f,j]
 have D:=ZeP (L,()) (show L.length<=1000 by omega) z;have a:=Dv.tab_best (ZN n.2.2.2.2.2.1 rs) rs.length (Vba _) 0 (by show rs.length - rs.length<=0;omega) (Vbb _)
 have b:∀s,Dv.Div (ZN n.2.2.2.2.2.1 rs) 0 s↔Dm.LS (WA n.2.2.2.2.2.1 g.fareOk) n.2.2.2.2.2.1.1.length none (rs.map Kn) s:=fun s=>
  ⟨fun h=>ZpZ e.fare u p h,fun h=>Zrv e.fare u p h 0 (Vbb _) rfl rfl⟩
 unfold F78;rw[d];simp only[Za,decide_true,Vd,Zc];rcases ZjL e.fare (fun x E=>r.prods x E) rs (by omega) with ⟨f,_⟩|⟨_,B,k⟩|⟨_,s,t,m,k⟩
 ·omega
 ·right;rw[B]at a;rw[k];exact⟨fun s C=>a s ((b s).2 C),_,rfl⟩
 ·left;rw[m]at a;rw[k];refine⟨s,t,⟨(b s).1 a.1,fun w l=>a.2 w ((b w).2 l)⟩,?_⟩;simp only[Za,decide_true,Vd,Zc,D];by_cases o:0<L.length
  ·rw[Ze (show (0:Int)<(L.length:Int) by omega)];have el:Va .i64 ((L.length:Int) - 1)=((L.length - 1:Nat):Int):=by rw[Zx (by omega) (by omega)];omega
   have G:idx L (0:Int)=some L[0]:=ZA (i:=0) o;simp only[Zd,el,G,ZA (show L.length - 1<L.length by omega),Za];rw[Vc o,Vc (show L.length - 1<L.length by omega)];rfl
  ·rw[Zi (show¬(0:Int)<(L.length:Int) by omega)];have:L=[]:=List.eq_nil_of_length_eq_zero (by omega);subst this;rfl
end Q
namespace Q
open Tr Go
variable {F:Ke}{hF:FO F}{n:Zf}{q:Zq}
structure LV (F:Ke) (hF:FO F) (n:Zf) (q:Zq) (l:Zu):Prop where
 fare:XG F hF l
 len:l.2.2.2.2.2.1.length<=80
 rides:0<=l.2.2.1/\l.2.2.1<=q.2.2.2.2.1
 walk:0<=l.2.2.2.1/\l.2.2.2.1<=q.2.2.2.2.2.1
 time:0<=l.2.1/\l.2.1<=3155932800
 stop:0<=l.1.2.1/\l.1.2.1<(n.1.length:Int)
 kind:l.1.1=1->∃i c:Nat,l.1.2.2.1=(i:Int)/\l.1.2.2.2.1=(c:Int)/\i<n.2.2.1.length/\c<(Zw n i).length/\l.1.2.1=(Zk n i c).1/\l.2.1=(Zk n i c).2.1/\Yn l.1.2.2.2.2.1
 first:∀x,l.2.2.2.2.2.1=[x]->x.1=false->J9 x.2.2.2.2.2.2.1/\x.2.2.2.2.2.2.2.1=l.2.1
structure QI (q:Zq):Prop where
 rides:q.2.2.2.2.1<=7
 walk:q.2.2.2.2.2.1<=86400
def WW(L:List Zs)(d:Int):List Zs:=match L with
 |[x]=>if x.1=true then [x] else [(x.1,x.2.1,x.2.2.1,x.2.2.2.1,x.2.2.2.2.1,x.2.2.2.2.2.1,x.2.2.2.2.2.2.1+(d - x.2.2.2.2.2.2.2.1),d,x.2.2.2.2.2.2.2.2)]
 |L=>L
theorem Zin(L:List Zs)(d:Int):(WW L d).length=L.length:=by
 unfold WW
 grind
theorem ZbF{x:Zs}(h:x.1=true)(d:Int):WW [x] d=[x]:=by unfold WW;grind
theorem RJ{x:Zs}(h:x.1=false)(d:Int):WW [x] d=[(x.1,x.2.1,x.2.2.1,x.2.2.2.1,x.2.2.2.2.1,x.2.2.2.2.2.1,x.2.2.2.2.2.2.1+(d - x.2.2.2.2.2.2.2.1),d,x.2.2.2.2.2.2.2.2)]:=by
 show (if x.1=true then [x] else _)=_
 grind
theorem Zdb{L:List Zs}(h:L.length≠1)(d:Int):WW L d=L:=by
 unfold WW
 grind
def Xe(n:Zf)(l:Zu)(i c:Nat):Zu:=(l.1,l.2.1,l.2.2.1+1,l.2.2.2.1,l.2.2.2.2.1,WW l.2.2.2.2.2.1 (Zk n i c).2.2.1,())
def Rh(d:Int):ZK:=(d,0,0,0,())
def RP(n:Zf)(q:Zq)(l:Zu)(i c:Nat):List Zu:=if l.2.2.1=q.2.2.2.2.1 then [] else DD n (Xe n l i c) i c false (Rh (Zk n i c).2.2.1)
theorem ZkK(d:Int):Small (Rh d):=⟨⟨by show (0:Int)<=0;omega,by show (0:Int)<65536;omega⟩,⟨by show (0:Int)<=0;omega,by show (0:Int)<65536;omega⟩⟩
theorem ZoT(u:W2 n)(w:QI q){st:Wf}{N:Nat}(m:Xm F hF n q st N){l:Zu}(f:LV F hF n q l){i c:Nat}(s:i<n.2.2.1.length)(r:c<(Zw n i).length)(o:N+(RP n q l i c).length<=549755813888):
 ∃a,F177 st l (i:Int) (c:Int)=some a/\K3 F hF st (RP n q l i c) [] a:=by
 obtain⟨D,E,st2⟩:=st;obtain rfl:n=D:=m.net.symm;obtain rfl:q=E:=m.que.symm;unfold F177;unfold RP at o⊢;by_cases h:l.2.2.1=q.2.2.2.2.1
 ·rw[Zo h,Ze h];exact⟨_,rfl,K3.nil _⟩
 ·rw[Zg h]at o;rw[Zg h,Zi h];have z:=f.rides;have y:=w.rides;have A:Va .i64 (l.2.2.1+1)=l.2.2.1+1:=Zx (by omega) (by omega);have J:=u.time s r;have d:idx n.2.2.1 (i:Int)=some (rn n (i:Int)):=R1 s;have v:=f.len
  have p:(Xe n l i c).2.2.2.2.2.1.length<=999:=by show (WW _ _).length<=999;rw[Zin];omega
  obtain⟨a,k,I⟩:=Zmq u m (l:=Xe n l i c) f.fare p s r false (ZkK (Zk n i c).2.2.1) o;simp only[Zc,d,Za,R0 r,A];by_cases g:(l.2.2.2.2.2.1.length:Int)=1
  ·obtain⟨x,j⟩:=List.length_eq_one_iff.1 (show l.2.2.2.2.2.1.length=1 by omega);rw[Ze g];have B:idx l.2.2.2.2.2.1 (0:Int)=some x:=by rw[j];rfl
   simp only[Zd,B,Za]
   cases b:x.1 with
   |true=>
    simp only[Vd,Zc]
    refine Wo (fun t=>t=Xe n l i c) ⟨_,rfl,?_⟩ (by rintro _ rfl;exact Wo (fun x=>x=a) ⟨_,k,rfl⟩ (by grind))
    unfold Xe
    rw[j,ZbF b, <-j]
   |false=>
    obtain⟨C,K⟩:=f.first x j b
    have M:=f.time;have G:Va .i64 ((Zk n i c).2.2.1 - x.2.2.2.2.2.2.2.1)=(Zk n i c).2.2.1 - x.2.2.2.2.2.2.2.1:=Zx (by omega) (by omega)
    have H:Va .i64 (x.2.2.2.2.2.2.1+((Zk n i c).2.2.1 - x.2.2.2.2.2.2.2.1))=x.2.2.2.2.2.2.1+((Zk n i c).2.2.1 - x.2.2.2.2.2.2.2.1):=by unfold J9 at C;exact Zx (by omega) (by omega)
    simp only[Vu,Zd,G,H]
    refine Wo (fun t=>t=Xe n l i c) ⟨_,rfl,?_⟩ (by rintro _ rfl;exact Wo (fun x=>x=a) ⟨_,k,rfl⟩ (by grind))
    unfold Xe;rw[j,RJ b,b]
  ·rw[Zi g]
   have e:(l.1,l.2.1,l.2.2.1+1,l.2.2.2)=Xe n l i c:=by unfold Xe;rw[Zdb (by omega)]
   simp only[Zc,Za];rw[e];exact Wo (fun x=>x=a) ⟨_,k,rfl⟩ (by grind)
def GQ(n:Zf)(l:Zu)(fr:Int)(i c:Nat):Prop:=YV n i=false/\(Zk n i c).2.2.2.1=true/\(Zk n i c).1=l.1.2.1/\c+1≠(Zw n i).length/\(fr<=(Zk n i c).2.2.1\/(l.2.1<=(Zk n i c).2.2.1/\Gk n l i c=true))
instance (n:Zf) (l:Zu) (fr:Int) (i c:Nat):Decidable (GQ n l fr i c):=by unfold GQ;infer_instance
def HG(n:Zf)(q:Zq)(l:Zu)(fr:Int)(i c:Nat):List Zu:=if GQ n l fr i c then RP n q l i c else []
def YU(n:Zf)(q:Zq)(l:Zu)(fr:Int):List Zu:=(Vo n.2.2.1.length).flatMap fun i=>(Vo (Zw n i).length).flatMap fun c=>HG n q l fr i c
theorem ZgP{l:Zu}{fr:Int}{i c:Nat}{x:Zu} :x∈HG n q l fr i c↔GQ n l fr i c/\l.2.2.1≠q.2.2.2.2.1/\ ∃d,c<d/\d<(Zw n i).length/\HP n i d=true/\x=Xw n (Xe n l i c) i c d false (Rh (Zk n i c).2.2.1):=by
 unfold HG RP;by_cases a:GQ n l fr i c
 ·rw[Zo a];by_cases b:l.2.2.1=q.2.2.2.2.1
  ·grind
  ·rw[Zg b,ZkG]
   grind
 grind
theorem Dp{l:Zu}{fr:Int}{x:Zu} :x∈YU n q l fr↔∃i c d,i<n.2.2.1.length/\c<d/\d<(Zw n i).length/\GQ n l fr i c/\l.2.2.1≠q.2.2.2.2.1/\HP n i d=true/\x=Xw n (Xe n l i c) i c d false (Rh (Zk n i c).2.2.1):=by
 unfold YU;rw[Vka];constructor
 ·rintro ⟨i,a,b⟩;obtain⟨c,m,b⟩:=Vka.1 b;rw[Vgd]at a m;obtain⟨e,f,d,g,h,j,k⟩:=ZgP.1 b
  grind
 ·rintro ⟨i,c,d,a,g,h,e,f,j,k⟩;exact⟨i,Vgd.2 a,Vka.2 ⟨c,by grind,ZgP.2 ⟨e,f,d,g,h,j,k⟩⟩⟩
theorem ZfF(v:W2 n)(R:QI q){st:Wf}{N:Nat}(B:Xm F hF n q st N){l:Zu}(E:LV F hF n q l)(fr:Int)(Q:N+(YU n q l fr).length<=549755813888):
 ∃a,F178 st l fr=some a/\K3 F hF st (YU n q l fr) [] a:=by
 obtain⟨W,J,st2⟩:=st;obtain rfl:n=W:=B.net.symm;have y:=v.sound.runs
 have hlab:∀i c,∀x∈HG n q l fr i c,XG F hF x:=fun i c x U=>by obtain⟨_,_,d,_,_,_,rfl⟩:=ZgP.1 U;exact E.fare
 unfold F178;refine Wo (fun r=>∃a,r=a/\K3 F hF (n,J,st2) (YU n q l fr) [] a) (Zcx (F:=F) (hF:=hF) (n:=n) (q:=q) (m:=n.2.2.1.length) (g:=fun i=>(Vo (Zw n i).length).flatMap fun c=>HG n q l fr i c) (st:=(n,J,st2)) (fun k s=>(s,(k:Int))) (fun s=>s) B ?hlab Q ?hstep ?D) ?fin
 case hlab=>
  grind
 case hstep=>
  intro i s M w b e
  have S:(Zw n i).length<=32:=by have:=(v.sound.many _ (Ve w)).2;rw[ZaD w];omega
  simp only[Ze (show (i:Int)<((n.2.2.1.length:Nat):Int) by omega),Zd,R1 w,Za];refine Xr (fun r=>∃a,r=a/\K3 F hF s ((Vo (Zw n i).length).flatMap fun c=>HG n q l fr i c) [] a) (Zcx (F:=F) (hF:=hF) (n:=n) (q:=q) (m:=(Zw n i).length) (g:=fun c=>HG n q l fr i c) (st:=s) (fun k s=>(s,(k:Int))) (fun s=>s) b (by grind) e ?hstep2 ?hend2) ?fin2
  case hstep2=>
   intro c s M C b e;have o:decide ((c:Int)<((rn n (i:Int)).2.2.2.2.2.2.2.1.length:Int))=true:=Ze (by show (c:Int)<((Zw n i).length:Int);omega);have T:Va .i64 ((c:Int)+1)=((c+1:Nat):Int):=by rw[Zx (by omega) (by omega)];omega
   have p:s.1=n:=b.net;have j:=Ztl s (by rw[p];exact v.sound.links) l i c;rw[p]at j;have f:(rn n (i:Int)).2.2.2.2.2.2.1=YV n i:=rfl;have G:((rn n (i:Int)).2.2.2.2.2.2.2.1.length:Int)=((Zw n i).length:Int):=rfl;simp only[o,Zd,R0 C,Za,T,f];have skip:¬GQ n l fr i c->∃a,(s,((c+1:Nat):Int))=((a,((c+1:Nat):Int)):Wf×Int)/\K3 F hF s (HG n q l fr i c) [] a:=fun h=>⟨s,rfl,by unfold HG;rw[Zg h];exact K3.nil s⟩
   have brd:GQ n l fr i c->∃a,F177 s l (i:Int) (c:Int)=some a/\K3 F hF s (HG n q l fr i c) [] a:=fun h=>by unfold HG at e⊢;rw[Zo h]at e;rw[Zo h];exact ZoT v R b E w C e
   cases H:YV n i with
   |true=>exact⟨_,rfl,skip fun h=>by have:=h.1;grind⟩
   |false=>
   simp only[Zc]
   cases I:(Zk n i c).2.2.2.1 with
   |false=>exact⟨_,rfl,skip fun h=>by have:=h.2.1;grind⟩
   |true=>
   simp only[Vd,Zc];by_cases t:(Zk n i c).1=l.1.2.1
   case neg=>rw[Zi t];exact⟨_,rfl,skip fun h=>t h.2.2.1⟩
   rw[Ze t];simp only[Vd,Zc];by_cases z:c+1=(Zw n i).length
   ·rw[Ze (by omega)];exact⟨_,rfl,skip fun h=>h.2.2.2.1 z⟩
   rw[Zi (by omega)];simp only[Za,Zc];by_cases u:fr<=(Zk n i c).2.2.1
   ·rw[Ze u,Zd];obtain⟨a,K,O⟩:=brd ⟨H,I,t,z,.inl u⟩
    grind
   rw[Zi u,Zc];by_cases A:l.2.1<=(Zk n i c).2.2.1
   ·rw[Ze A,Zd];refine Xr (fun x=>x=(s,Gk n l i c)) ⟨_,j,rfl⟩ ?_;rintro _ rfl
    cases V:Gk n l i c with
    |true=>
     obtain⟨a,K,O⟩:=brd ⟨H,I,t,z,.inr ⟨A,V⟩⟩
     grind
    |false=>
     simp only[Zc];exact⟨_,rfl,skip fun h=>h.2.2.2.2.elim u (by grind)⟩
   ·rw[Zi A,Zc];exact⟨_,rfl,skip fun h=>h.2.2.2.2.elim u (by omega)⟩
  case hend2=>
   intro s M b;have o:decide (((Zw n i).length:Int)<((rn n (i:Int)).2.2.2.2.2.2.2.1.length:Int))=false:=Zi (by show¬((Zw n i).length:Int)<((Zw n i).length:Int);omega)
   grind
  case fin2=>
   rintro _ ⟨a,rfl,P⟩;exact⟨_,rfl,_,by rw[Zx (by omega) (by omega)];rfl,P⟩
 all_goals simp
def XP(l:Zu)(p:Kj):Zu:=((2,p.2.1,0,0,(0,0,0,0,()),()),l.2.1+p.2.2.1,l.2.2.1,l.2.2.2.1+p.2.2.1,l.2.2.2.2.1,l.2.2.2.2.2.1++[KM l.1.2.1 p.2.1 l.2.1 (l.2.1+p.2.2.1)],())
def D0(q:Zq)(l:Zu)(p:Kj):Prop:=p.1=l.1.2.1/\l.2.2.2.1+p.2.2.1<=q.2.2.2.2.2.1/\l.2.1+p.2.2.1<=3155932800
instance (q:Zq) (l:Zu) (p:Kj):Decidable (D0 q l p):=by unfold D0;infer_instance
def GB(q:Zq)(l:Zu)(p:Kj):List Zu:=if D0 q l p then [XP l p] else []
def HX(n:Zf)(q:Zq)(l:Zu):List Zu:=n.2.2.2.2.1.flatMap (GB q l)
theorem ZgS{l:Zu}{p:Kj}{x:Zu} :x∈GB q l p↔D0 q l p/\x=XP l p:=by unfold GB;simp
theorem Rf{l:Zu}{x:Zu} :x∈HX n q l↔∃p∈n.2.2.2.2.1,D0 q l p/\x=XP l p:=by unfold HX;rw[Vka];exact⟨fun⟨p,a,b⟩=>⟨p,a,ZgS.1 b⟩,fun⟨p,a,b⟩=>⟨p,a,ZgS.2 b⟩⟩
theorem ZmO(C:W2 n)(D:QI q)(Q:n.2.2.2.2.1.length<=4096){st:Wf}{N:Nat}(t:Xm F hF n q st N){l:Zu}(e:LV F hF n q l)(o:N+(HX n q l).length<=549755813888):
 ∃a,F187 st l=some a/\K3 F hF st (HX n q l) [] a:=by
 obtain⟨I,A,st2⟩:=st;obtain rfl:n=I:=t.net.symm;unfold F187;unfold HX at o⊢;rw[Zgf]at o⊢;refine Wo (fun r=>∃a,r=a/\K3 F hF (n,A,st2) ((Vo n.2.2.2.2.1.length).flatMap fun i=>(n.2.2.2.2.1[i]?).elim [] (GB q l)) [] a) (Zcx (F:=F) (hF:=hF) (n:=n) (q:=q) (m:=n.2.2.2.2.1.length) (g:=fun i=>(n.2.2.2.2.1[i]?).elim [] (GB q l)) (st:=(n,A,st2)) (fun k s=>(s,(k:Int))) (fun s=>s) t ?hlab o ?hstep ?v) ?fin
 case hlab=>
  intro i d x f;rw[Vc d]at f;obtain⟨_,rfl⟩:=ZgS.1 f;exact e.fare
 case hstep=>
  intro i s M d c b;have f:idx n.2.2.2.2.1 (i:Int)=some n.2.2.2.2.1[i]:=ZA d;have G:=C.path _ (Ve d);rw[Vc d]at b⊢;generalize n.2.2.2.2.1[i]=p at*;have S:=e.walk;have R:=e.time;have E:=D.walk;have H:s.2.1=q:=c.que;have J:Va .i64 (l.2.2.2.1+p.2.2.1)=l.2.2.2.1+p.2.2.1:=Zx (by omega) (by omega);have K:Va .i64 (l.2.1+p.2.2.1)=l.2.1+p.2.2.1:=Zx (by omega) (by omega);have O:Va .i64 ((i:Int)+1)=((i+1:Nat):Int):=by rw[Zx (by omega) (by omega)];omega
  simp only[Ze (show (i:Int)<((n.2.2.2.2.1.length:Nat):Int) by omega),Zd,f,Za,J,K,O];rw[show s.2.1.2.2.2.2.2.1=q.2.2.2.2.2.1 by grind];have skip:¬D0 q l p->∃a,(s,((i+1:Nat):Int))=((a,((i+1:Nat):Int)):Wf×Int)/\K3 F hF s (GB q l p) [] a:=fun h=>⟨s,rfl,by unfold GB;rw[Zg h];exact K3.nil s⟩;by_cases j:p.1=l.1.2.1
  case neg=>rw[Zi j];exact⟨_,rfl,skip fun h=>j h.1⟩
  rw[Ze j];by_cases y:q.2.2.2.2.2.1<l.2.2.2.1+p.2.2.1
  ·rw[Ze y];exact⟨_,rfl,skip fun h=>by have:=h.2.1;omega⟩
  rw[Zi y];by_cases z:3155932800<l.2.1+p.2.2.1
  ·rw[Ze z];exact⟨_,rfl,skip fun h=>by have:=h.2.2;omega⟩
  rw[Zi z];have u:D0 q l p:=⟨j,by omega,by omega⟩;unfold GB at b⊢;simp only[Vwc]at b⊢;rw[Zo u]at b;rw[Zo u];obtain⟨a,B,P⟩:=Zfp c (show XG F hF (XP l p) from e.fare) b;have w:=e.len;simp only[Vd,Zc,Za,ZhB _ (show l.2.2.2.2.2.1.length<=1000 by omega)];refine Xr (fun x=>x=a) ⟨_,B,rfl⟩ ?_
  grind
 all_goals simp
def De(n:Zf)(l:Zu)(k:Yi):Prop:=k.2.2.2.2.1=true/\k.1=l.1.2.2.1/\k.2.1=l.1.2.2.2.1/\YV n k.2.2.1.toNat=false/\l.2.1<=(Zk n k.2.2.1.toNat 0).2.2.1
instance (n:Zf) (l:Zu) (k:Yi):Decidable (De n l k):=by unfold De;infer_instance
def Ht(n:Zf)(l:Zu)(k:Yi):List Zu:=if De n l k then DD n l k.2.2.1.toNat 0 true l.1.2.2.2.2.1 else []
def HS(n:Zf)(l:Zu):List Zu:=n.2.2.2.1.flatMap (Ht n l)
theorem ZgR{l:Zu}{k:Yi}{x:Zu} :x∈Ht n l k↔De n l k/\ ∃d,0<d/\d<(Zw n k.2.2.1.toNat).length/\HP n k.2.2.1.toNat d=true/\x=Xw n l k.2.2.1.toNat 0 d true l.1.2.2.2.2.1:=by
 unfold Ht;by_cases h:De n l k
 ·rw[Zo h,ZkG];grind
 grind
theorem ZaZ{l:Zu}{x:Zu} :x∈HS n l↔∃k∈n.2.2.2.1,De n l k/\ ∃d,0<d/\d<(Zw n k.2.2.1.toNat).length/\HP n k.2.2.1.toNat d=true/\x=Xw n l k.2.2.1.toNat 0 d true l.1.2.2.2.2.1:=by unfold HS;rw[Vka];exact⟨fun⟨p,a,b⟩=>⟨p,a,ZgR.1 b⟩,fun⟨p,a,b⟩=>⟨p,a,ZgR.2 b⟩⟩
theorem ZtF(D:W2 n){st:Wf}{N:Nat}(H:Xm F hF n q st N){l:Zu}(w:LV F hF n q l)(R:l.1.1=1)(C:N+(HS n l).length<=549755813888):
 ∃b,F183 st l=some b/\K3 F hF st (HS n l) [] b:=by
 obtain⟨T,P,st2⟩:=st;obtain rfl:n=T:=H.net.symm;obtain⟨_,_,_,_,_,_,_,_,v⟩:=w.kind R;have y:=D.sound.links;unfold F183;unfold HS at C⊢;rw[Zgf]at C⊢;refine Wo (fun r=>∃b,r=b/\K3 F hF (n,P,st2) ((Vo n.2.2.2.1.length).flatMap fun i=>(n.2.2.2.1[i]?).elim [] (Ht n l)) [] b) (Zcx (F:=F) (hF:=hF) (n:=n) (q:=q) (m:=n.2.2.2.1.length) (g:=fun i=>(n.2.2.2.1[i]?).elim [] (Ht n l)) (st:=(n,P,st2)) (fun k s=>(s,(k:Int))) (fun s=>s) H ?hlab C ?hstep ?I) ?fin
 case hlab=>
  intro i t x z;rw[Vc t]at z;obtain⟨_,d,_,_,_,rfl⟩:=ZgR.1 z;exact w.fare
 case hstep=>
  intro i s M t o e;have z:idx n.2.2.2.1 (i:Int)=some n.2.2.2.1[i]:=ZA t;obtain⟨a,c,j,d,G,Q,X,J,_,Y,Z,_,_⟩:=D.link _ (Ve t);rw[Vc t]at e⊢;generalize n.2.2.2.1[i]=k at*;subst Q;have S:s.1=n:=o.net;have U:Va .i64 ((i:Int)+1)=((i+1:Nat):Int):=by rw[Zx (by omega) (by omega)];omega
  simp only[Ze (show (i:Int)<((n.2.2.2.1.length:Nat):Int) by omega),Zd,z,Za,U];have skip:¬De n l ((a:Int),(c:Int),(j:Int),(d:Int),G,())->∃b,(s,((i+1:Nat):Int))=((b,((i+1:Nat):Int)):Wf×Int)/\K3 F hF s (Ht n l ((a:Int),(c:Int),(j:Int),(d:Int),G,())) [] b:=fun h=>⟨s,rfl,by unfold Ht;rw[Zg h];exact K3.nil s⟩
  cases G with
  |false=>exact⟨_,rfl,skip fun h=>by cases h.1⟩
  |true=>
  simp only[Vd,Zc];by_cases A:(a:Int)=l.1.2.2.1
  case neg=>rw[Zi A];exact⟨_,rfl,skip fun h=>A h.2.1⟩
  rw[Ze A];by_cases B:(c:Int)=l.1.2.2.2.1
  case neg=>rw[Zi B];exact⟨_,rfl,skip fun h=>B h.2.2.1⟩
  rw[Ze B];simp only[Vd,Zc,Za];rw[show s.1.2.2.1=n.2.2.1 by grind];have u:0<(Zw n j).length:=by omega
  have E:idx (rn n (j:Int)).2.2.2.2.2.2.2.1 (0:Int)=some (Zk n j 0):=R0 u;simp only[R1 J,Za,E];have f:(rn n (j:Int)).2.2.2.2.2.2.1=YV n j:=rfl;rw[f]
  cases k3:YV n j with
  |true=>exact⟨_,rfl,skip fun h=>by
    have:=h.2.2.2.1
    grind⟩
  |false=>
  simp only[Vu,Zd,Za];by_cases O:l.2.1<=(Zk n j 0).2.2.1
  case neg=>rw[Zi O];exact⟨_,rfl,skip fun h=>by
             have:=h.2.2.2.2
             grind⟩
  rw[Ze O];have p:De n l ((a:Int),(c:Int),(j:Int),(d:Int),true,()):=⟨rfl,A,B,by grind,by grind⟩;unfold Ht at e⊢;simp only[Vwc]at e⊢;rw[Zo p]at e;rw[Zo p];simp only[Vj]at e⊢;have K:=w.len;obtain⟨b,V,W⟩:=Zmq D o w.fare (by omega) J u true v.1 e
  grind
 all_goals simp
end Q
