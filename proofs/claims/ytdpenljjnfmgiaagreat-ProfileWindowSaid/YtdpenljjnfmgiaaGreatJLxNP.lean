/- Chapter 38: prices by the program and by the reference. -/
import Derived.KernelRfl
import Derived.Test.YtdpenljjnfmgiaaGreatJLwJa28P
noncomputable section
open BitVec renaming ofInt ->Vc,eq_of_toNat_eq ->Vka,ofInt_natCast ->Vhc,toNat_ofNat ->Voc,toNat_and ->Vxc,ofNat ->Vrd
open Bool renaming and_eq_true ->Vf,not_true ->Vj,not_eq_false' ->Vk,true_and ->Vga,or_eq_false_iff ->Vpa,not_false ->Vnb,false_eq_true ->Vlc,or_true ->Vqd
open Iff renaming rfl ->Vnd
open Int renaming toNat_natCast ->Vi,le_refl ->Vma,toNat_of_nonneg ->Vra,toNat ->Vwa,natCast_add ->Vkb,fdiv_eq_ediv_of_nonneg ->Vqb,fdiv ->Vkc,le_antisymm ->Vgd
open Go.IntKind renaming wrap ->Va,u64 ->Vl,bits ->Vp,i64 ->Vr,signed ->Vca
open List renaming take_succ_eq_append_getElem ->Vd,getElem?_eq_getElem ->Ve,length ->Vg,getElem_mem ->Vh,drop_eq_getElem_cons ->Vm,length_map ->Vn,replicate ->Vq,map_append ->Vs,any_eq_true ->Vt,map_cons ->Vu,getElem_of_mem ->Vv,take_append_drop ->Vw,mem_singleton ->Vx,mem_append ->Vy,foldl_append ->Vz,append_eq_singleton_iff ->Vaa,take_length ->Vba,length_append ->Vda,mem_of_mem_drop ->Vha,mem_flatMap ->Via,eq_nil_of_length_eq_zero ->Vja,getElem?_map ->Vla,mem_of_mem_take ->Voa,length_cons ->Vqa,getElem?_eq_some_iff ->Vsa,singleton_inj ->Vua,getElem?_set_self ->Vxa,map_eq_append_iff ->Vya,set_append_right ->Vab,length_filter_le ->Vbb,length_take ->Vcb,cons_append ->Vdb,all_eq_true ->Vfb,getElem?_set_ne ->Vhb,length_nil ->Vib,append_nil ->Vjb,pairwise_iff_getElem ->Vsb,append_assoc ->Vtb,getLast?_eq_getElem? ->Vub,getLast?_eq_none_iff ->Vvb,length_drop ->Vyb,range ->Vzb,length_set ->Vac,take_of_length_le ->Vbc,sum_append ->Vcc,append_inj_right' ->Vdc,length_eq_one_iff ->Vec,mem_of_getElem? ->Vfc,map_eq_cons_iff ->Vgc,flatMap_append ->Vic,take_succ_cons ->Vjc,filter_append ->Vmc,getElem?_take ->Vnc,pairwise_cons ->Vpc,take ->Vuc,drop_length ->Vwc,set ->Vyc,mem_filter ->Vzc,any_append ->Vad,foldl_cons ->Vcd,range_succ ->Ved,nil_append ->Vfd,drop_drop ->Vhd,take_take ->Vid,drop_take ->Vjd,drop ->Vld,sum_cons ->Vod,set_set ->Vpd,map_nil ->Vsd,isEmpty ->Vtd
open Nat renaming le_refl ->Vo,zero_le ->Vea,shiftRight_eq_div_pow ->Vfa,or_assoc ->Vna,min_eq_left ->Vta,le_trans ->Vva,testBit_eq_decide_div_mod_eq ->Vza,zero_or ->Veb,and_two_pow_sub_one_eq_mod ->Vgb,lt_or_ge ->Vlb,mul_le_mul_left ->Vmb,add_sub_cancel ->Vob,lt_of_le_of_lt ->Vpb,mod_eq_of_lt ->Vwb,mod_lt ->Vxb,le_of_lt ->Vqc,zero_add ->Vrc,pow_succ ->Vsc,or_lt_two_pow ->Vtc,lt_trichotomy ->Vvc,div_le_self ->Vdd,add_le_add ->Vkd,mul_assoc ->Vmd
open Option renaming bind ->Vb,isNone_iff_eq_none ->Vrb,map_some ->Vbd
open Sum renaming elim ->Vud
open Option renaming some ->Ua,none ->Ub
open Bool renaming true ->Uc,false ->Ud
open Decidable renaming decide ->Ue
namespace Q
open Tr Go Dv
def Small(v:Z8):Prop:=(0<=v.2.2.1/\v.2.2.1<65536)/\(0<=v.2.2.2.1/\v.2.2.2.1<65536)
theorem ZgM{a b}(c:0<=a/\a<65536)(d:0<=b/\b<65536):0<=Wc .i64 a b/\Wc .i64 a b<65536:=by obtain⟨x,rfl⟩:∃x:Nat,a=x:=⟨_,(Vra c.1).symm⟩;obtain⟨y,rfl⟩:∃y:Nat,b=y:=⟨_,(Vra d.1).symm⟩;rw[G6 (by omega) (by omega)];have:x ||| y<2 ^ 16:=Vtc (by omega) (by omega);omega
theorem Zob{n}(h:WI n){x}(a:KM n x=Uc):(0<=((GJ n x):Int)/\((GJ n x):Int)<65536)/\(0<=((2 ^ (GG n x).2.1.toNat:Nat):Int)/\((2 ^ (GG n x).2.1.toNat:Nat):Int)<65536):=by have d:=ZeT h a;have⟨_,_,c,b⟩:=ZbW h a;have e:=HU b;grind
theorem ZrF{n}(h:WI n){x}(e:KM n x=Uc){out}(c:∀v∈out,Small v):∀v∈Yo n x out,Small v:=by
 intro v a;unfold Yo at a;split at a
 .rename_i u d;obtain a|rfl:=List.mem_or_eq_of_mem_set a
  .grind
  have⟨f,g⟩:=Zob h e;have b:=c u (Vfc d);exact⟨ZgM b.1 f,ZgM b.2 g⟩
 grind
theorem Zjh{n}(h:WI n):∀L rode out l e,Wd n L rode out=(l,e)->(∀v∈out,Small v)->∀v∈l,Small v
 |[],_,out,l,e,a,c=>by
  unfold Wd at a
  grind|x::L,rode,out,l,e,a,c=>by
  rw[Db]at a;by_cases f:x.1=Uc/\KM n x=Ud;.grind
  rw[Zg f]at a;by_cases g:Kq x=Uc/\(x.1=Ud\/rode=Ud);.grind
  rw[Zg g]at a;by_cases c3:x.1=Uc
  .rw[Zn c3]at a;have d:KM n x=true:=by grind
   refine Zjh h L Uc _ l e a ?_;split;.exact ZrF h d c
   intro v b;obtain b|b:=Vy.1 b;.grind
   simp[Vx]at b;subst b;exact Zob h d
  rw[Zg c3]at a;exact Zjh h L Ud out l e a c
theorem Zwc(a b d:Int)(e:0<=d):F85 a b d=Ua (!D0 a b d):=by
 unfold F85 D0;have f:∀x,0<=Va .u64 x:=λx=>by simp[Va,Vca];omega
 rw[Zm (show¬d<0 by omega)];by_cases h:a<=b
 .rw[Zi h];by_cases c:b<=a
  .have e0:Va .u64 (Va .u64 a - Va .u64 a)=0:=by rw[Int.sub_self];rfl
   grind
  simp[Ze];congr 1;grind
 grind
def zF(s:V Z8):Nat:=s.foldl (λa v=>a ||| v.2.2.1.toNat) 0
def mF(s:V Z8):Nat:=s.foldl (λa v=>a ||| v.2.2.2.1.toNat) 0
theorem Zjg{f:Z8->Int}:∀(s:V Z8) a,(∀v∈s,0<=f v/\f v<65536)->a<65536->s.foldl (λa v=>a ||| (f v).toNat) a<65536|[],a,_,h=>h|v::s,a,b,h=>by refine Zjg s _ (by grind) ?_;have c:=b v List.mem_cons_self;have:a ||| (f v).toNat<2 ^ 16:=Vtc (by omega) (by omega);omega
theorem Zbd{s}(a:∀v∈s,Small v):zF s<65536:=Zjg s 0 (λv b=>(a v b).1) (by omega)
theorem ZjM{s}(a:∀v∈s,Small v):mF s<65536:=Zjg s 0 (λv b=>(a v b).2) (by omega)
def Dy(p:Xr)(s:V Z8):Bool:=
 Ue (s.length<=p.2.2.1)&&(Ue (((Ws 62 (zF s):Nat))<=p.2.2.2.1)&&(D0 ((s[0]?).getD R7).1 ((s[s.length - 1]?).getD R7).1 p.2.2.2.2.1&&Ue (Tr.qandNot .i64 ((mF s:Nat)) p.2.2.2.2.2.1=0)))
theorem Zlv a b:Ue (Tr.qandNot .u64 a (Va .u64 b)=0)=Ue (Tr.qandNot .i64 a b=0):=by
 have c:Vc 64 (Va .u64 b)=Vc 64 b:=by apply Vka;simp[Va,Vp];omega
 show Ue (Vl.wrap ((Vc 64 a &&& ~~~ Vc 64 (Va .u64 b)).toNat)=0)=Ue (Vr.wrap ((Vc 64 a &&& ~~~ Vc 64 b).toNat)=0);rw[c];refine decide_eq_decide.2 ?_;simp[Va,Vp];grind
theorem Zmx{p:Xr}{s:V Z8}(e:∀v∈s,Small v)(c:0<s.length)(d:s.length<=100)(h:0<=p.2.2.2.2.1):F83 p s=Ua (Dy p s):=by
 unfold F83 Dy;rw[Zm (by omega)];have el:Va .i64 (s.length - 1)=((s.length - 1:Nat)):=by rw[ZB (by omega) (by omega)];omega
 have m:idx s 0=Ua s[0]:=ZC (i:=0) c;have b:s.length - 1<s.length:=by omega
 simp[Ze,el,ZC b,m,Za,Zwc _ _ _ h];rw[KE c,KE b];by_cases g:p.2.2.1<s.length;.grind
 rw[Zm g,Zi (by omega)]
 cases C:D0 (s[0]).1 (s[s.length - 1]).1 p.2.2.2.2.1 with
 |false=>
  simp|true=>
  simp[Vj,Ze,Za];refine KK (λr=>r=(((zF s:Nat):Int),((mF s:Nat):Int))) ?_ ?_
  .refine Kg s.length _ (λi (t:Int×Int×Int)=>t=(((zF (s.take i):Nat):Int),((mF (s.take i):Nat):Int),(i:Int))) ?_ ?_ _ rfl
   .rintro i _ a rfl;left;have j:=e _ (Vh a);have E:=Zbd (s:=s.take i) (by grind);have H:=ZjM (s:=s.take i) (by grind);have f:zF (s.take (i+1))=zF (s.take i) ||| (s[i]).2.2.1.toNat:=by unfold zF;rw[Vd a,Vz];rfl
    have em:mF (s.take (i+1))=mF (s.take i) ||| (s[i]).2.2.2.1.toNat:=by unfold mF;rw[Vd a,Vz];rfl
    refine⟨_,?_,rfl⟩;rw[f,em];simp only[ZL a,Zf,ZC a,Za,ZU a (by omega),F84,F2];generalize s[i]=v at*;have⟨⟨w,z⟩,A,B⟩:=j;have⟨x,k⟩:∃x:Nat,v.2.2.1=(x:Int):=by grind
    have⟨y,l⟩:∃y:Nat,v.2.2.2.1=(y:Int):=by grind
    have o:Va .u64 (x:Int)=(x:Int):=by simp[Va,Vp,Vca];omega
    have u:Va .u64 (y:Int)=(y:Int):=by simp[Va,Vp,Vca];omega
    rw[k,l,o,u,ZcX (by omega) (by omega),ZcX (by omega) (by omega)];simp
   simp
  rintro r rfl;have D:=Zbd e;have d:F1 ((zF s:Nat):Int)=Ua ((Ws 62 (zF s):Nat):Int):=by show lenF ((zF s:Nat):Int)=_;unfold lenF;rw[Zi ⟨by omega,by omega⟩,Vi,Zxx (by omega)];rfl
  simp[d,Za,F4,Zlv];grind
theorem ZsY{z:Nat}(_:z<65536):F141 (z:Int)=Ua ((Ws 62 z):Int):=by
 refine KK (λr=>r=((Ws 62 z:Nat))) ?_ (by simp);have a:∀k,Ws k z<=k:=by
  intro k
  induction k with|zero=>exact Vo _|succ k g=>rw[Ws];omega
 refine Kg 62 _ (λi s=>s=(((Ws i z):Int),(i:Int))) ?_ ?_ _ rfl
 .rintro i _ e rfl;left;refine⟨_,?_,rfl⟩;have d:=a i;have f:GF .i64 z i=Ua ((z >>> i:Nat)):=by unfold GF;rw[Zg (by omega),Vi,show min i (Vr.bits)=i from Vta (show i<=64 by omega),Vfa,Vqb _ (by grind)];simp
  have c:JA .i64 ((z >>> i:Nat)) 1=((z >>> i % 2:Nat)):=by
   unfold JA;have b:(Vc Vr.bits ((z >>> i:Nat))&&& Vc Vr.bits 1).toNat=z >>> i % 2:=by show (z >>> i) % 2 ^ 64 &&& 1=z >>> i % 2;simp
   rw[b,ZB (by omega) (by omega)]
  have h:Va .i64 (((Ws i z:Nat))+1)=((Ws i z+1:Nat)):=by rw[ZB (by omega) (by omega)];omega
  have j:Va .i64 (i+1)=((i+1:Nat)):=by rw[ZB (by omega) (by omega)];omega
  rw[Ws];grind
 simp
theorem Zq5(a b d:Int):F142 a b d=Ua (D0 a b d):=by unfold F142 D0;grind
theorem Zui{p:Xr}{l:V Z8}(N:∀v∈l,Small v){i k}(u:i<=k)(w:k<l.length)(K:l.length<=100):F135 p l (i:Int) (k:Int)=Ua (Dy p ((l.drop i).take (k+1 - i))):=by
 have g:((l.drop i).take (k+1 - i)).length=k+1 - i:=by grind
 have b:∀c,c<k+1 - i->((l.drop i).take (k+1 - i))[c]? =l[i+c]? :=by grind
 have d:∀v∈(l.drop i).take (k+1 - i),Small v:=by grind
 unfold F135 Dy;generalize J:(l.drop i).take (k+1 - i)=s at*;refine KK (λr=>r=(((zF s:Nat):Int),((mF s:Nat):Int))) ?_ ?_
 .refine Kg (k+1 - i) _ (λc (t:Int×Int×Int)=>t=(((zF (s.take c):Nat):Int),((mF (s.take c):Nat):Int),((i+c:Nat):Int))) ?_ ?_ _ rfl
  .rintro c _ o rfl;left;have a:c<s.length:=by omega
   have e:=b c o;rw[Ve a,Ve (by omega)]at e;have e:=(Kx e).symm;have z:=d _ (Vh a);have O:=Zbd (s:=s.take c) (by grind);have P:=ZjM (s:=s.take c) (by grind);have j:zF (s.take (c+1))=zF (s.take c) ||| (s[c]).2.2.1.toNat:=by unfold zF;rw[Vd a,Vz];rfl
   have em:mF (s.take (c+1))=mF (s.take c) ||| (s[c]).2.2.2.1.toNat:=by unfold mF;rw[Vd a,Vz];rfl
   have f:Va .i64 (((i+c:Nat):Int)+1)=((i+(c+1):Nat):Int):=by rw[ZB (by omega) (by omega)];omega
   refine⟨_,?_,rfl⟩;rw[j,em,Zi (show ((i+c:Nat):Int)<=(k:Int) by omega)];generalize zF (s.take c)=Z at*;generalize mF (s.take c)=M at*;simp only[Zf,ZC (show i+c<l.length by omega),Za,e,f];generalize s[c]=v at*;have⟨⟨D,E⟩,H,I⟩:=z;have⟨x,A⟩:∃x:Nat,v.2.2.1=(x:Int):=by grind
   have⟨y,B⟩:∃y:Nat,v.2.2.2.1=(y:Int):=by grind
   rw[A,B,G6 (by omega) (by omega),G6 (by omega) (by omega)];simp
  grind
 rintro r rfl;have C:=Zbd d;have f:Va .i64 ((k:Int) - (i:Int))=((k - i:Nat):Int):=by rw[ZB (by omega) (by omega)];omega
 have h:Va .i64 (((k - i:Nat):Int)+1)=(s.length:Int):=by rw[ZB (by omega) (by omega)];omega
 have g0:((s[0]?).getD R7)=l[i]:=by grind
 have m:((s[s.length - 1]?).getD R7)=l[k]:=by grind
 rw[f,h,g0,m];simp only[ZsY C,Za,ZC (show i<l.length by omega),ZC w,Zq5];grind
theorem ZAd x:Va .i64 x=(x+9223372036854775808) % 18446744073709551616 - 9223372036854775808:=by simp[Va,Vca,Vp];omega
theorem ZkP(j:Zb8):F55 j=F140 j:=by
 unfold F55 F140;congr 2;funext s;congr 1;congr 1;funext x
 cases g:x.1 with
 |true=>simp|false=>
  by_cases d:x.2.2.2.2.2.2.1<0;.grind
  rw[Zm d,show Ue (0<=x.2.2.2.2.2.2.1)=Uc from (by grind)];by_cases e:x.2.2.2.2.2.2.2.1<x.2.2.2.2.2.2.1;.grind
  rw[Zm e,show Ue (x.2.2.2.2.2.2.1<=x.2.2.2.2.2.2.2.1)=Uc from (by grind)];by_cases f:14400<Va .i64 (x.2.2.2.2.2.2.2.1 - x.2.2.2.2.2.2.1);.grind
  rw[Zm f,show Ue (Va .i64 (x.2.2.2.2.2.2.2.1 - x.2.2.2.2.2.2.1)<=14400)=Uc from (by grind)];have:∀a b c,Va .i64 (a+Va .i64 (b - c))=Va .i64 (Va .i64 (a+b) - c):=by intro a b c;simp[ZAd];omega
  simp_all
theorem Zu4{F}(h:(Xg F).2=0):∀p∈F.1,0<=p.2.2.2.2.1:=by
 unfold Xg at h;by_cases d:GY F=Ud;.grind
 rw[Zg d]at h;by_cases a:16<F.1.length;.grind
 rw[Zg a]at h;have g:=Zc0 h;intro p f;obtain⟨i,e,rfl⟩:=Vv f;have c:=g i e;have⟨_,_,b⟩:=Rf.1 c;have b:Hr F.1[i]=true:=by grind
 unfold Hr at b;grind
theorem ZxE(F:KD)(p:Xr)(l:V Z8) i(b:i<l.length)(g:l.length<=100)(e:0<=p.2.1/\p.2.1<=1000000)(f:0<=F.2.1/\F.2.1<=1000000):F139 F p l (i:Int)=Ua (G7 F p l i):=by
 unfold F139 G7;have c:Va .i64 (p.2.1 - F.2.1)=p.2.1 - F.2.1:=ZB (by omega) (by omega);have em:Tr.imax 0 (p.2.1 - F.2.1)=if 0<p.2.1 - F.2.1 then p.2.1 - F.2.1 else 0:=rfl;by_cases d:0<i
 .have a:Va .i64 (i - 1)=((i - 1:Nat)):=by rw[ZB (by omega) (by omega)];omega
  simp[a,ZC (show i - 1<l.length by omega),ZC b,Zq5];grind
 grind
theorem ZiK{F}(b:(Xg F).2=0){l}(g:∀v∈l,Small v)(f:l.length<=100){p i k} d(c:i<=k)(e:k<l.length):(ZQ F l).cov p i k=Dy F.1[p] ((l.drop i).take (k+1 - i)):=by
 show covB ((F.1[p]?).getD p0) ((l.drop i).take (k+1 - i))=_;have a:((l.drop i).take (k+1 - i)).length=k+1 - i:=by grind
 have:=Zmx (s:=(l.drop i).take (k+1 - i)) (by grind) (by omega) (by omega) (Zu4 b _ (Vh d));unfold covB;grind
abbrev Rx:=Bool×Int×V Tk×Unit
def Dp(c:Jk)(r:Rx):Prop:=match c with|none=>r.1=Ud|some (s,t)=>r.1=Uc/\r.2.1=s/\r.2.2.1=t
def Y8(n:Nat)(f:Nat->Jk)(T:V Rx):Prop:=T.length=n+1/\∀j,j<=n->∃r,T[j]? =Ua r/\Dp (f j) r
theorem Dp.ok{s t r}(h:Dp (Ua (s,t)) r):r.1=Uc/\r.2.1=s/\r.2.2.1=t:=h
theorem Y8.congr{n f g T}(h:Y8 n f T)(e:∀j,j<=n->g j=f j):Y8 n g T:=
 ⟨h.1,λj a=>by rw[e j a];exact h.2 j a⟩
theorem Y8.set{n f T}(h:Y8 n f T){i}(d:i<=n){c r}(e:Dp c r):Y8 n (JC f i c) (T.set i r):=by
 refine⟨by rw[Vac];exact h.1,λj b=>?_⟩;unfold JC;by_cases a:j=i;.subst a;rw[Zn rfl,Vxa (by rw[h.1];omega)];grind
 rw[Zg a,Vhb (Ne.symm a)];exact h.2 j b
theorem ZqH f i:JC f i (f i)=f:=by funext j;unfold JC;grind
theorem ZpQ L i k cur:∀m,DQ L Ub i k cur m=cur|0=>rfl|m+1=>by rw[DQ,ZpQ L i k cur m];rfl
def bz:Rx:=(Ud,0,[],())
theorem ZxJ{F}(h0:(Xg F).2=0){l:V Z8}(hl:l.length<=8)(hs:∀v∈l,Small v){f T}(g:Y8 l.length f T)(hB:Bd l.length f){i k p}(o:i<=k)(hk:k<l.length)(B:p<F.1.length){s t}(A:f (k+1)=Ua (s,t)):
 ∃T',(Vb (idx F.1 p) λx8=>
 Vb (F135 x8 l (i:Int) (k:Int)) λx9=>
 bif !x9 then Ua (.inl (T,Va .i64 (p+1)))
 else
 Vb (idx F.1 p) λH=>
 Vb (F139 F H l (i:Int)) λa=>
 Vb (Zo (Va .i64 (k+1)) (Vg T)) λI=>
 Vb T[I]? λe=>
 Vb
 (Vb (Zo i (Vg T)) λJ=>
 Vb T[J]? λK=>
 bif K.1 then
 Vb (Zo i (Vg T)) λM=>
 Vb T[M]? λN=>
 bif Ue (N.2.1<Va .i64 (a+e.2.1)) then Ua Uc
 else
 Vb (Zo i (Vg T)) λO=>
 Vb T[O]? λP=>
 bif Ue (Va .i64 (a+e.2.1)=P.2.1) then
 Vb (Zo (Va .i64 (k+1)) (Vg T)) λQ=>
 Vb T[Q]? λR=>
 Vb (Zo i (Vg T)) λU=>
 Vb T[U]? λW=>
 Ua
 (decide
 ((↑(Vg W.2.2.1))<=
 Va .i64 (1+(↑(Vg R.2.2.1)))))
 else Ua Ud
 else Ua Ud)
 λa0=>
 bif a0 then Ua (.inl (T,Va .i64 (p+1)))
 else
 Vb (Zo (Va .i64 (k+1)) (Vg T)) λa1=>
 Vb T[a1]? λu=>
 Vb (Zw (Ue (Vg [((p:Int),(i:Int),(k:Int),a,())]+Vg u.2.2.1<=Zt)))
 λ_=>
 Vb (Zo i (Vg T)) λw=>
 Vb T[w]? λ_=>
 Ua
 (.inl
 (Vyc T w
 (Uc,Va .i64 (a+e.2.1),[((p:Int),(i:Int),(k:Int),a,())]++u.2.2.1,()),
 Va .i64 (p+1))))=(Ua (.inl (T',((p+1:Nat)))):Option ((V Rx×Int) ⊕ V Rx))/\Y8 l.length (JC f i (Du (ZQ F l) (f (k+1)) i k p (f i))) T' :=by
 have hF:=ZfV h0;have d:=hF.price _ (Vh B);have hm:=hF.many;have⟨b1,b2,b3⟩:=hB (k+1) s t (by omega) A;have e1:Va .i64 ((k:Int)+1)=((k+1:Nat):Int):=by rw[ZB (by omega) (by omega)];omega
 have e2:Va .i64 ((p:Int)+1)=((p+1:Nat):Int):=by rw[ZB (by omega) (by omega)];omega
 have⟨rk,E,h⟩:=g.2 (k+1) (by omega);have⟨r,D,b⟩:=g.2 i (by omega);rw[A]at h;have⟨c1,c2,c3⟩:=Dp.ok h;have a3:=g.1;have z:Zo ((k+1:Nat):Int) T.length=Ua (k+1):=Kz (by omega);have y:Zo (i:Int) T.length=Ua i:=Kz (by omega);have C:F139 F F.1[p] l (i:Int)=Ua ((ZQ F l).pr p i):=by rw[ZxE F F.1[p] l i (by omega) (by omega) d hF.disc];show _=Ua (G7 F ((F.1[p]?).getD p0) l i);grind
 have a5:=Zew hF (l:=l) (i:=i) (by assumption);have w1:Va .i64 ((ZQ F l).pr p i+s)=(ZQ F l).pr p i+s:=ZB (by omega) (by omega);have w2:Va .i64 ((1:Int)+(t.length:Int))=((1+t.length:Nat):Int):=by rw[ZB (by omega) (by omega)];omega
 simp only[ZC B,Za,e1,e2,Zui hs o hk (by omega),<-ZiK h0 hs (by omega) B o hk,C,z,y,E,D,c2,c3,w1,w2];rw[A];unfold Du;simp only
 cases a2:(ZQ F l).cov p i k with
 |false=>
  refine⟨T,rfl,g.congr λj hj=>?_⟩;simp[Vlc,if_false]
  rw[ZqH]|true=>
  simp only[Vj,Ze,if_true];have hx:(bif r.1 then bif Ue (r.2.1<(ZQ F l).pr p i+s) then Ua Uc else bif Ue ((ZQ F l).pr p i+s=r.2.1) then Ua (Ue ((r.2.2.1.length:Int)<=((1+t.length:Nat):Int))) else Ua Ud else Ua Ud)=Ua (!ZaF (f i) ((ZQ F l).pr p i+s) (1+t.length)):=by
   generalize (ZQ F l).pr p i+s=S;generalize 1+t.length=c
   cases m:f i with
   |none=>
    rw[m]at b
    rw[show r.1=Ud from b];rfl|some x=>
    have⟨cs,ct⟩:=x;rw[m]at b;have⟨d1,d2,d3⟩:=Dp.ok b;rw[d1,d2,d3];show _=Ua (!(Ue (S<cs) || (Ue (S=cs)&&Ue (c<ct.length))));by_cases q1:cs<S;.rw[Zi q1,Zm (show¬S<cs by omega),Zm (by omega)];rfl
    rw[Zm q1];by_cases q2:S=cs
    .by_cases q3:c<ct.length;all_goals grind
    rw[Zm q2,Zi (show S<cs by omega)];rfl
  rw[hx];simp only[Za]
  cases a4:ZaF (f i) ((ZQ F l).pr p i+s) (1+t.length) with
  |false=>
   refine⟨T,rfl,g.congr λj hj=>?_⟩;simp[Vlc,if_false]
   rw[ZqH]|true=>
   simp only[Vj,Ze];have hg:Zw (Ue (Vg [((p:Int),(i:Int),(k:Int),(ZQ F l).pr p i,())]+Vg t<=Zt))=Ua ():=by rw[Zi (by simp only[Vqa,Vib,Zt];omega)];rfl
   rw[hg];simp only[Za,if_true];exact⟨_,rfl,g.set (by omega) ⟨rfl,rfl,rfl⟩⟩
theorem Zpo{F}(I:(Xg F).2=0){l:V Z8}(hl:l.length<=8)(hs:∀v∈l,Small v):∃R,F137 F l=Ua R/\Dp (Ke (ZQ F l) l.length 0) (R.2.2,R.1,R.2.1,()):=by
 have hF:=ZfV I;have E:∀p i,p<(ZQ F l).np->0<=(ZQ F l).pr p i/\(ZQ F l).pr p i<=1000000:=λp i y=>Zew hF y;have B:(ZQ F l).n=l.length:=rfl;unfold F137;have w0:Va .i64 ((l.length:Int)+1)=((l.length+1:Nat):Int):=by rw[ZB (by omega) (by omega)];omega
 have U:Zw (Ue ((0:Int)<=((l.length+1:Nat):Int)/\((l.length+1:Nat):Int)<=((l.length+1:Nat):Int)/\((l.length+1:Nat):Int)<=(Zt:Int)))=Ua ():=by
  have hm:(Zt:Int)=549755813888:=by rfl
  rw[Zi (by omega)];rfl
 have w:∀o,o=Vq (l.length+1) bz->Zo (l.length:Int) o.length=Ua l.length/\o[l.length]? =Ua bz:=by rintro o rfl;exact⟨Kz (by simp),by simp⟩
 have⟨r1,r2⟩:=w _ rfl;rw[w0];erw[U];simp only[Za,Vi];erw[r1];simp only[Za];erw[r2];simp only[Za];have key:∀o (k:V Rx->Option (Int×V Tk×Bool)),(∃T,o=Ua T/\Y8 l.length (Ke (ZQ F l) l.length) T)->(∀T,Y8 l.length (Ke (ZQ F l) l.length) T->∃R,k T=Ua R/\Dp (Ke (ZQ F l) l.length 0) (R.2.2,R.1,R.2.1,()))->∃R,Vb o k=Ua R/\Dp (Ke (ZQ F l) l.length 0) (R.2.2,R.1,R.2.1,()):=by grind
 refine key _ _ (Kg l.length _ (λc (s:V Rx×Int)=>∃T,s=(T,(l.length:Int) - 1 - (c:Int))/\Y8 l.length (Ke (ZQ F l) c) T) ?_ ?_ _ ?_) ?_
 .rintro c _ S ⟨T,rfl,b⟩;left;obtain⟨i,W⟩:∃i:Nat,(l.length:Int) - 1 - (c:Int)=(i:Int):=⟨l.length - 1 - c,by omega⟩;have a0:i<l.length:=by omega
  rw[W];rw[Zi (by omega)];simp only[Zf];refine Gn (λh=>Y8 l.length (Ke (ZQ F l) (c+1)) h) ?_ ?_
  .refine Kg (l.length - i) _ (λm (s:V Rx×Int)=>∃T,s=(T,((i+m:Nat):Int))/\Y8 l.length (JC (Ke (ZQ F l) c) i (rowK (ZQ F l) (Ke (ZQ F l) c) i m)) T) ?_ ?_ _ ⟨T,rfl,b.congr λj D=>?_⟩
   .rintro m _ hm ⟨T,rfl,b⟩;left;have J:i+m<l.length:=by omega
    have z:Va .i64 (((i+m:Nat):Int)+1)=((i+m+1:Nat):Int):=by rw[ZB (by omega) (by omega)];omega
    have Q:=b.1;have C:Zo ((i+m+1:Nat):Int) T.length=Ua (i+m+1):=Kz (by omega);have⟨r,K,d⟩:=b.2 (i+m+1) (by omega);rw[De _ _ (by omega)]at d;simp only[ZL J,Zf,z,C,K,Za]
    cases f:Ke (ZQ F l) c (i+m+1) with
    |none=>
     rw[f]at d;rw[show r.1=Ud from d];refine⟨_,rfl,T,rfl,?_⟩;have e:rowK (ZQ F l) (Ke (ZQ F l) c) i (m+1)=rowK (ZQ F l) (Ke (ZQ F l) c) i m:=by rw[Dv.rowK,f,ZpQ]
     grind|some x=>
     have⟨s,t⟩:=x;rw[f]at d;have⟨q1,_⟩:=Dp.ok d;rw[q1];simp only[Vj,Ze];refine Gn (λh=>Y8 l.length (JC (Ke (ZQ F l) c) i (rowK (ZQ F l) (Ke (ZQ F l) c) i (m+1))) h) ?_ ?_
     .refine Kg F.1.length _ (λp (s:V Rx×Int)=>∃T,s=(T,(p:Int))/\Y8 l.length (JC (Ke (ZQ F l) c) i (DQ (ZQ F l) (Ke (ZQ F l) c (i+m+1)) i (i+m) (rowK (ZQ F l) (Ke (ZQ F l) c) i m) p)) T) ?_ ?_ _ ⟨T,rfl,b⟩
      .rintro p _ y ⟨T,rfl,b⟩;left;have A:Bd l.length (JC (Ke (ZQ F l) c) i (DQ (ZQ F l) (Ke (ZQ F l) c (i+m+1)) i (i+m) (rowK (ZQ F l) (Ke (ZQ F l) c) i m) p)):=by
        intro j M N D e;have g:=ZeK E c (by omega);by_cases a:j=i;.subst a;rw[Zba]at e;exact ZgS (n:=l.length) (by grind) (by omega) (by omega) (g _) (ZgQ (by grind) g m (by omega)) p (show p<=F.1.length by omega) M N e
        rw[De _ _ a]at e;exact g j M N e
       have⟨h,H,O⟩:=ZxJ I hl hs b A (i:=i) (k:=i+m) (p:=p) (by omega) J y (s:=s) (t:=t) (by rw[De _ _ (by omega)];omega);simp only[ZL y,Zf];rw[z]at H;refine⟨_,H,h,rfl,?_⟩;rw[ZqI,Zba,De _ _ (by omega)]at O;assumption
      rintro _ ⟨T,rfl,b⟩;simp only[JJ,Ze];exact⟨_,rfl,b⟩
     grind
   .rintro _ ⟨T,rfl,b⟩;rw[show i+(l.length - i)=l.length by omega];simp only[JJ,Ze];refine⟨_,rfl,b.congr λj D=>?_⟩;rw[Ke];by_cases a:j=i
    .subst a;rw[Zn (by omega),Zba];rfl
    rw[Zg (by omega),De _ _ a]
   by_cases a:j=i;.subst a;rw[Zba,ZkB (ZQ F l) c (by omega) j (by omega)];rfl
   rw[De _ _ a]
  intro h P;have z:Va .i64 ((i:Int) - 1)=(l.length:Int) - 1 - ((c+1:Nat):Int):=by rw[ZB (by omega) (by omega)];omega
  grind
 .grind
 .refine⟨(Vq (l.length+1) bz).set l.length (Uc,bz.2),?_,by simp,λj D=>?_⟩
  .rw[ZB (by omega) (by omega)];simp only[Int.natCast_zero,Int.sub_zero];rfl
  rw[Ke];by_cases u:j=l.length;.subst u;rw[Zn B.symm,Vxa (by simp)];exact⟨_,rfl,rfl,rfl,rfl⟩
  rw[Zg (by omega),Vhb (Ne.symm u),List.getElem?_replicate,Zn (by omega)];exact⟨_,rfl,rfl⟩
 intro T b;have⟨r,K,S⟩:=b.2 0 (Vea _);have hb:Zo (0:Int) T.length=Ua 0:=Kz (i:=0) (by grind);simp_all
theorem Zzv{F l}(P:l.length<=8){T}(D:Yk (Ke (ZQ F l) l.length) T):∀m i acc,l.length - i=m->i<=l.length->acc.length<=i->∀t,(∃s,Ke (ZQ F l) l.length i=Ua (s,t))->run
 (λd=>
 bif Ue (d.2<(↑(Vg l))) then
 Vb (Zo d.2 9) λh=>
 Vb T[h]? λe=>
 Vb (Zw (Ue (Vg d.1+Vg [e.2.2.2.1]<=Zt))) λ_=>
 Vb (Zo d.2 9) λj=>
 Vb T[j]? λo=>Ua (.inl (d.1++[e.2.2.2.1],Va .i64 (o.2.2.2.1.2.2.1+1)))
 else Ua (.inr d.1))
 (acc,i)=Ua (acc++t):=by
  intro m
  induction m using Nat.strongRecOn with
  |_ m I=>
   intro i acc Q N v t x;by_cases g:i<l.length
   .have⟨s,b⟩:=x;have⟨p,k,q,J,K,u,M,B,C⟩:=Zzq (ZQ F l) (by assumption) s t b;have⟨r,E,w⟩:=D.2 i (by omega);rw[b]at w;have⟨_,_,_,y⟩:=D5.ok w;have a:=y _ _ u;have f:Zo i 9=Ua i:=Kz (by omega);have O:k<l.length:=B;have A:Va .i64 (k+1)=((k+1:Nat)):=by rw[ZB (by omega) (by omega)];omega
    have c:∀z,z=(acc++[(p,(i:Int),((k:Nat):Int),q,())],((k+1:Nat):Int))->(bif Ue (i<(↑(Vg l):Int)) then
     Vb (Zo (i:Int) (9:Nat)) λh=>
     Vb T[h]? λe=>
     Vb (Zw (Ue (Vg acc+Vg [e.2.2.2.1]<=Zt))) λ_=>
     Vb (Zo (i:Int) (9:Nat)) λj=>
     Vb T[j]? λo=>(Ua (.inl (acc++[e.2.2.2.1],Va .i64 (o.2.2.2.1.2.2.1+(1:Int)))):Option ((V Tk×Int) ⊕ V Tk))
     else Ua (.inr acc))=Ua (.inl z):=by
     rintro z rfl;simp only[ZL g,Zf,f,E,Za,a,A];rw[XM (by grind)];rfl
    rw[YX (c _ rfl)];rw[I (l.length - (k+1)) (by omega) (k+1) _ rfl (by omega) (by grind) K ⟨J,C⟩,u];simp
   have:i=l.length:=by omega
   subst this;have⟨s,b⟩:=x;rw[ZkC (ZQ F l) 0 l.length l.length (by assumption) (Vea _) (Vo _),Ke,Zn (by rfl)]at b;have H:t=[]:=by grind
   subst H;exact J3 (by simp)
theorem Znj{F}(d:(Xg F).2=0)(j:∀x∈F.1,x.1.length<=9223372036854775807)(l:V Z8)(o:l.length<=1000):
 (8<l.length/\F11 F l=Ua (0,[],33))\/(l.length<=8/\Ke (ZQ F l) l.length 0=Ub/\F11 F l=Ua (0,[],34))\/(l.length<=8/\∃s t,Ke (ZQ F l) l.length 0=Ua (s,t)/\F11 F l=Ua (YM F s,t,0)):=by
 have hF:=ZfV d;unfold F11 F17;rw[Zi5 F j];simp only[Za,Zi d,Ze];by_cases m:8<l.length;.grind
 right;rw[Zm (by omega)];have⟨T,h,e⟩:=ZuA hF (show l.length<=8 by omega);rw[h];simp only[Za];have⟨r,k,b⟩:=e.2 0 (by omega);rw[show Vwa 0=0 from rfl,k];simp[Za]
 cases a:Ke (ZQ F l) l.length 0 with
 |none=>
  left;rw[a]at b;rw[b]
  grind|some x=>
  right;have⟨s,t⟩:=x;rw[a]at b;have⟨f,g,_,_⟩:=D5.ok b;have c:=Zzv (by omega) e l.length 0 [] rfl (Vea _) (Vo _) t ⟨s,a⟩;refine⟨by omega,s,t,rfl,?_⟩;rw[f];refine KK (λy=>y=t) ⟨_,c,rfl⟩ ?_;rintro y rfl;simp[g,Ztf]
theorem Ztc(F:KD)(s:Int):F133 F s=Ua (YM F s):=by
 unfold F133 YM;by_cases h:0<F.2.2.2.1;.unfold Tr.imin;grind
 grind
abbrev Ja:=Int×Int×Int×Int×Int×Unit
theorem ZiJ n q(j:Zb8)(u:X0 n)(J:j.1.length<=40)(I:∀x∈j.1,D3 x):∃c:Ja×V Tk×Int,F52 n q j=Ua c/\F134 n q j=Ua c/\c.2.1.length<=100000:=by
 have⟨r,g,y,z⟩:=Zyj n j u J;unfold F52 F134;have M:=Zht j (by omega) I;have A:F140 j=Ua (WE j.1):=by rw[<-ZkP];omega
 rw[g,y];simp only[Za];by_cases D:r.2=0;case neg=>
  simp_all
 rw[Zi D];rcases ZgO n j u (by omega) with ⟨m,_⟩|⟨d,_,m⟩;.grind
 rw[g]at m;have w:=(Kx m).symm;have⟨l,e⟩:=r;simp only at D z⊢;have E:∀v∈l,Small v:=Zjh d j.1 Ud [] l e w (by simp);rcases Znj d.fare (λx N=>u.prods x N) l (by omega) with ⟨k,b⟩|⟨k,K,b⟩|⟨k,s,t,h,b⟩;.rw[b,Zi (show (8:Int)<(l.length:Int) by omega)];simp
 .rw[b,Zm (show¬(8:Int)<(l.length:Int) by omega)];have⟨R,o,f⟩:=Zpo d.fare k E;rw[K]at f;simp[Ze,o,Za];rw[show R.2.2=Ud from f];simp
 rw[b,Zm (show¬(8:Int)<(l.length:Int) by omega)];have⟨R,o,f⟩:=Zpo d.fare k E;rw[h]at f;have⟨B,C,c3⟩:=Dp.ok f;simp at B C c3;simp only[Ze,o,Za,B,C,c3,Vj,decide_true,Ztc,M,A];have hF:=ZfV d.fare;have⟨_,_,a⟩:=ZeK (λp i b=>Zew hF b) l.length (Vo _) 0 s t h;have a:t.length<=l.length:=a;by_cases H:0<j.1.length
 .rw[Zi (by omega)];have el:Va .i64 ((j.1.length:Int) - 1)=((j.1.length - 1:Nat):Int):=by rw[ZB (by omega) (by omega)];omega
  have O:idx j.1 (0:Int)=Ua j.1[0]:=ZC (i:=0) H;simp only[Zf,el,O,ZC (show j.1.length - 1<j.1.length by omega),Za];grind
 rw[Zm (by omega)];exact⟨_,rfl,rfl,by grind⟩
end Q
namespace Q
open Tr Go
theorem Zyx{α β τ:Type}{step}(l:V α) f(R:V β->τ)
 (a:∀i b,step ((l.take i).flatMap f,(i:Int))=Ua (.inl ((l.take i).flatMap f++f l[i],((i+1:Nat)))))
 (c:step (l.flatMap f,l.length)=Ua (.inr (R (l.flatMap f)))):run step ([],0)=Ua (R (l.flatMap f)):=by
 refine Exists.elim (Kg (step:=step) l.length (λr=>r=R (l.flatMap f)) (λi st=>st=((l.take i).flatMap f,(i:Int))) ?_ ?_ ([],0) (by simp)) ?_;.rintro i _ b rfl;left;refine⟨_,a i b,?_⟩;rw[Vd b,Vic];simp
 all_goals grind
theorem Zja{α β:Type}(f:α->β)(l:V α):l.flatMap (λx=>[f x])=l.map f:=by
 induction l with|nil=>rfl|cons x l a=>grind
theorem Zvh{α β:Type}{f:α->V β}(a:∀x,(f x).length<=1)(l:V α):(l.flatMap f).length<=l.length:=by
 induction l with|nil=>simp|cons x l b=>grind
abbrev Zp:=Int×Int×Int×Bool×Int×Int×Bool×Bool×Int×Bool×Unit
def Za5(n:Zh)(r:RG):Gb:=(n.2.1[r.2.2.2.2.1.toNat]?).getD r0
def Zam(n:Zh)(q:Zp)(r:RG):Bool:=Tr.useB q r (Za5 n r)
def WN(n:Zh)(s:Int):RJ:=(n.1[s.toNat]?).getD s0
def YV(n:Zh)(q:Zp)(s:Int):Bool:=(WN n s).2.2.1|| !q.2.2.2.2.2.2.1
def Jm(n:Zh)(q:Zp)(c:Jj):Jj:=if YV n q c.1 then c else(c.1,c.2.1,c.2.2.1,Ud,Ud,())
theorem ZpJ{n}(a:WI n){r}(c:r∈n.2.2.1):idx n.2.1 r.2.2.2.2.1=Ua (Za5 n r)/\Za5 n r∈n.2.1:=by
 have h:=a.route _ c;have b:Z9 r.2.2.2.2.1 n.2.1.length=true:=by simp[Z9];omega
 refine⟨Jh b r0,?_⟩;unfold Za5;grind
theorem ZzK{n}(a:WI n)(q:Zp){r}(e:r∈n.2.2.1):F36 n q r=Ua (Zam n q r):=by have⟨b,c⟩:=ZpJ a e;have d:=(a.mode _ c).1;unfold F36 Tr.useF;rw[b];simp[Zi d];rfl
theorem Zza{n}(a:WI n){r}(d:r∈n.2.2.1){c}(b:c∈r.2.2.2.2.2.2.2.1):idx n.1 c.1=Ua (WN n c.1):=by have h:=a.call _ d _ b;exact Jh (by simp[Z9];omega) s0
theorem Zxf{n}(q:Zp){s}(h:idx n.1 s=Ua (WN n s)):F35 n q s=Ua (YV n q s):=by unfold F35;unfold YV;grind
theorem ZtV{n}(b:WI n)(q:Zp){r}(d:r∈n.2.2.1):F34 n q r.2.2.2.2.2.2.2.1=Ua (r.2.2.2.2.2.2.2.1.map (Jm n q)):=by
 have l:=(b.many _ d).2;unfold F34;rw[Zyx r.2.2.2.2.2.2.2.1 (λc=>[Jm n q c]) id ?_ ?_]
 .simp[Zja];generalize o:r.2.2.2.2.2.2.2.1.map (Jm n q)=m;have h:Zo m.length (m.length+1)=Ua m.length:=by unfold Zo;rw[Zn (by omega)];simp
  have j:sliceB m.length m.length Ub (Ua m.length)=Ua (0,m.length):=by unfold sliceB;simp
  grind
 .intro i a;have g:=Vh a;simp only[ZL a,ZC a,Za];rw[Zxf q (Zza b d g)];have k:=Zvh (f:=λc=>[Jm n q c]) (by simp) (r.2.2.2.2.2.2.2.1.take i);simp only[Za];have e:(bif !YV n q (r.2.2.2.2.2.2.2.1[i]).1 then Ua (((r.2.2.2.2.2.2.2.1[i]).1,(r.2.2.2.2.2.2.2.1[i]).2.1,(r.2.2.2.2.2.2.2.1[i]).2.2.1,Ud,Ud,(r.2.2.2.2.2.2.2.1[i]).2.2.2.2.2)) else Ua r.2.2.2.2.2.2.2.1[i])=Ua (Jm n q r.2.2.2.2.2.2.2.1[i]):=by unfold Jm;grind
  erw[e];simp only[Za];rw[XM (by grind),ZU a (by omega)];rfl
 simp
structure Few (n:Zh):Prop where
 stops:n.1.length<=4096
 routes:n.2.1.length<=4096
 runs:n.2.2.1.length<=4096
 links:n.2.2.2.1.length<=4096
 paths:n.2.2.2.2.1.length<=4096
 prods:n.2.2.2.2.2.1.1.length<=4096
 calls:∀r∈n.2.2.1,r.2.2.2.2.2.2.2.1.length<=4096
theorem ZbD{α:Type}(l:V α)(h:l.length<=4096):(Vb (Zw (Ue (Vg ([]:V Unit)+Vg l<=Zt))) λ_=>
 Vb (Zo (↑(Vg ([]++l))) (Vg ([]++l)+1)) λa=>
 Vb (sliceB (Vg ([]++l)) a Ub (Ua (↑(Vg ([]++l))))) λb=>Ua (Vuc b.2 ([]++l)))=Ua l:=by
  have e0:Zw (Ue (Vg ([]:V Unit)+Vg l<=Zt))=Ua ():=by unfold Zw Zt;grind
  have c:Zo l.length (l.length+1)=Ua l.length:=by unfold Zo;grind
  have d:sliceB l.length l.length Ub (Ua l.length)=Ua (0,l.length):=by unfold sliceB;simp
  grind
theorem ZtO{n}(h:Few n):F66 n=Ua n:=by
 unfold F66;have k:F77 n.1=Ua n.1:=ZbD n.1 h.stops;have d:F75 n.2.1=Ua n.2.1:=ZbD n.2.1 h.routes;have f:F76 n.2.2.1=Ua n.2.2.1:=ZbD n.2.2.1 h.runs;have b:F73 n.2.2.2.1=Ua n.2.2.2.1:=ZbD n.2.2.2.1 h.links;have c:F72 n.2.2.2.2.1=Ua n.2.2.2.2.1:=ZbD n.2.2.2.2.1 h.paths;have j:F74 n.2.2.2.2.2.1.1=Ua n.2.2.2.2.2.1.1:=ZbD n.2.2.2.2.2.1.1 h.prods;rw[k,d,f,b,c];simp[Za];refine KK (λr=>r=(n.1,n.2.1,n.2.2.1,n.2.2.2.1,n.2.2.2.2.1,n.2.2.2.2.2.1,())) (Kg n.2.2.1.length _ (λi st=>st=((n.1,n.2.1,n.2.2.1,n.2.2.2.1,n.2.2.2.2.1,n.2.2.2.2.2.1,()),(i:Int))) ?_ ?_ _ rfl) ?_;.rintro i _ a rfl;left;have g:F71 (n.2.2.1[i]).2.2.2.2.2.2.2.1=Ua (n.2.2.1[i]).2.2.2.2.2.2.2.1:=ZbD _ (h.calls _ (Vh a));simp only[ZL a,Kz a,Za,Ve a,g];refine⟨_,rfl,?_⟩;rw[ZU a (by have:=h.runs;omega)];have e:Vyc n.2.2.1 i ((n.2.2.1[i]).1,(n.2.2.1[i]).2.1,(n.2.2.1[i]).2.2.1,(n.2.2.1[i]).2.2.2.1,(n.2.2.1[i]).2.2.2.2.1,(n.2.2.1[i]).2.2.2.2.2.1,(n.2.2.1[i]).2.2.2.2.2.2.1,(n.2.2.1[i]).2.2.2.2.2.2.2.1,(n.2.2.1[i]).2.2.2.2.2.2.2.2)=n.2.2.1:=List.set_getElem_self a;grind
 all_goals grind
def Yq(n:Zh)(q:Zp)(r:RG):RG:=(r.1,r.2.1,r.2.2.1,r.2.2.2.1,r.2.2.2.2.1,r.2.2.2.2.2.1, !Zam n q r,r.2.2.2.2.2.2.2.1.map (Jm n q),())
def GD(n:Zh)(q:Zp):V K5:=if q.2.2.2.2.2.2.1 then n.2.2.2.2.1.filter (λp=>p.2.2.2.1) else n.2.2.2.2.1
def Kl(n:Zh)(q:Zp):Zh:=(n.1,n.2.1,n.2.2.1.map (Yq n q),n.2.2.2.1,GD n q,n.2.2.2.2.2.1,())
def DR(n:Zh)(q:Zp)(i:Nat):V RG:=(n.2.2.1.take i).map (Yq n q)++n.2.2.1.drop i
theorem ZyE n q{i}(a:i<=n.2.2.1.length):(DR n q i).length=n.2.2.1.length:=by simp[DR];omega
theorem ZyD n q{i} a:(DR n q i)[i]? =Ua n.2.2.1[i]:=by unfold DR;grind
theorem ZyF n q{i} b:(DR n q i).set i (Yq n q n.2.2.1[i])=DR n q (i+1):=by
 unfold DR;have a:((n.2.2.1.take i).map (Yq n q)).length=i:=by grind
 rw[Vab _ _ (by omega),a,Nat.sub_self,Vm b,List.set_cons_zero,Vd b,Vs];simp
theorem ZrV{n}(d:WI n)(hF:Few n)(q:Zp)(g:F31 n q=Ua 0):F33 n q=Ua (Kl n q,0):=by
 unfold F33;rw[g];rw[ZtO hF];simp only[Za];refine KK (λr=>r=(n.1,n.2.1,n.2.2.1.map (Yq n q),n.2.2.2.1,n.2.2.2.2.1,n.2.2.2.2.2.1,())) (Kg n.2.2.1.length _ (λi st=>st=((n.1,n.2.1,DR n q i,n.2.2.2.1,n.2.2.2.2.1,n.2.2.2.2.2.1,()),(i:Int))) ?_ ?_ _ (by rfl)) ?_
 .rintro i _ a rfl;left;have e:=Vh a;have j:=ZyE n q (Vqc a);have b:i<(DR n q i).length:=by omega
  simp only[ZL a,Zf,ZC a,Za,ZzK d q e,Kz b,ZyD n q a,ZtV d q e];refine⟨_,?_,rfl⟩;rw[ZU a (by have:=hF.runs;omega)];have c:i<((DR n q i).set i ((n.2.2.1[i]).1,(n.2.2.1[i]).2.1,(n.2.2.1[i]).2.2.1,(n.2.2.1[i]).2.2.2.1,(n.2.2.1[i]).2.2.2.2.1,(n.2.2.1[i]).2.2.2.2.2.1, !Zam n q n.2.2.1[i],(n.2.2.1[i]).2.2.2.2.2.2.2)).length:=by grind
  erw[Kz c];simp only[Za];erw[Vxa b];simp only[Za];erw[Vpd];congr 2;have:=ZyF n q a;rw[<-this];rfl
 .rintro _ rfl;refine⟨_,by simp[JJ,Ze];rfl,?_⟩;simp[DR]
 rintro _ rfl;unfold Kl GD
 cases h:q.2.2.2.2.2.2.1 with
 |false=>rfl|true=>
  refine KK (λr=>r=(n.1,n.2.1,n.2.2.1.map (Yq n q),n.2.2.2.1,n.2.2.2.2.1.filter λp=>p.2.2.2.1,n.2.2.2.2.2.1,())) (Kg n.2.2.2.2.1.length _ (λi st=>st=((n.1,n.2.1,n.2.2.1.map (Yq n q),n.2.2.2.1,(n.2.2.2.2.1.take i).filter λp=>p.2.2.2.1,n.2.2.2.2.2.1,()),(i:Int))) ?_ ?_ _ (by simp)) ?_
  .rintro i _ a rfl;left;have f:=Vbb (λp=>p.2.2.2.1) (n.2.2.2.2.1.take i);rw[Vcb]at f;have k:=hF.paths;simp only[ZL a,Zf,ZC a,Za];rw[ZU a (by omega),Vd a,Vmc]
   cases l:(n.2.2.2.2.1[i]).2.2.2.1 with
   |false=>
    grind|true=>
    simp only[Zf];rw[XM (by grind)];grind
  all_goals simp
def qB(k:Nat)(q:Zp):Bool:=Z9 q.1 k&&(Z9 q.2.1 k&&(Ue (0<=q.2.2.1/\q.2.2.1<=3155932800)&&(Ue (0<=q.2.2.2.2.1/\q.2.2.2.2.1<=8)&&(Ue (0<=q.2.2.2.2.2.1/\q.2.2.2.2.2.1<=86400)&&(Ue (0<=q.2.2.2.2.2.2.2.2.1/\q.2.2.2.2.2.2.2.2.1<=255)&& !(q.2.2.2.2.2.2.2.2.2.1&&q.2.2.2.1))))))
theorem Zz8(x a b:Int):F32 x a b=Ua (Ue (a<=x/\x<=b)):=HO x a b
theorem ZbF(x a b:Int):F157 x a b=Ua (Ue (a<=x/\x<=b)):=HO x a b
theorem ZcL(x:Int){m:Nat}(a:m<=9223372036854775807):F157 x 0 (Va .i64 (m - 1))=Ua (Z9 x m):=Zgd x a
theorem ZqN(k:Nat)(a:k<=9223372036854775807)(q:Zp):F149 (k:Int) q=Ua (qB k q):=by unfold F149 qB;simp only[ZbF];rw[Kx ((ZbF _ _ _).symm.trans (ZcL q.1 a)),Kx ((ZbF _ _ _).symm.trans (ZcL q.2.1 a))];grind
open Classical in
def Gp(n:Zh)(q:Zp):Int:=if Whole n then(if qB n.1.length q=Uc then 0 else 22) else 21
theorem Zcw{n q}:Gp n q=0↔Whole n/\qB n.1.length q=true:=by unfold Gp;grind
open Classical in
theorem Zbc{n:Zh}(h:X0 n):F124 n=Ua (Ue (Whole n)):=by obtain⟨r,_,a,b⟩:=Zin n h;unfold F124;rw[a];simp only[Za];congr 1;exact decide_eq_decide.2 b
open Classical in
theorem Zl7{n:Zh}(h:X0 n)(q:Zp):F146 n q=Ua (Gp n q):=by
 unfold F146 Gp;rw[Zbc h];simp only[Za];by_cases a:Whole n;.rw[Zi a,Zn a];have b:=a.sound.stops;simp only[Vj,Ze];rw[ZqN n.1.length (by omega)];simp only[Za];cases qB n.1.length q<;>rfl
 rw[Zm a,Zg a];rfl
theorem Zl6{n}(h:X0 n)(q:Zp):F31 n q=Ua (Gp n q):=by
 have⟨r,b,_,d⟩:=Zin n h;unfold F31 Gp;rw[b];by_cases c:Whole n
 .have a:n.1.length<=9223372036854775807:=by have:=c.sound.stops;omega
  simp only[Zz8];rw[Kx ((ZbF _ _ _).symm.trans (ZcL q.1 a)),Kx ((ZbF _ _ _).symm.trans (ZcL q.2.1 a))];unfold qB;simp[Za];grind
 grind
theorem ZtR{c l}(h:X7 c l=Uc):c=l:=by
 unfold X7 at h;rw[Vf,KJ,Vrb]at h;have⟨b,a⟩:=h;have a:=W0.1 a;refine List.ext_getElem b λi d e=>?_;have:=a i d;unfold eqF at this;have f:sameF c[i] l[i]=true:=by grind
 unfold sameF at f;grind
theorem ZtS l:X7 l l=true:=by unfold X7;rw[Vf,KJ,Vrb];refine⟨rfl,W0.2 λi a=>?_⟩;unfold eqF sameF;simp
theorem Zj2{k l}:(∀i,i<l.length->Wo k l i=0)↔(∀p∈l,Hu k p=Ud/\Hv p=Ud)/\l.Pairwise λa b=>J2 a≠J2 b:=by
 constructor
 .intro h;refine⟨λp m=>?_,Vsb.2 λi j c f d e=>?_⟩
  .obtain⟨i,c,rfl⟩:=Vv m;have:=ZbT (h i c);grind
  have:=(ZbT (h j f)).2.2;refine this ⟨i,d,?_⟩;grind
 rintro ⟨o,g⟩ i c;unfold Wo;rw[KE c,Zg (by grind),Zg (by grind),Zg];rintro ⟨j,f,e⟩;rw[KE (by omega)]at e;exact Vsb.1 g j i (by omega) c f e
theorem Zm8{α β:Type} p(f:α->V β)(l:V α):(l.flatMap f).filter p=l.flatMap λx=>(f x).filter p:=by
 induction l with|nil=>rfl|cons x l a=>grind
theorem ZvX a b d f:(JI a b d f).filter (λp=>p.2.2.2.1)=JI a b f f:=by unfold JI;grind
theorem ZrR it n m:(WU it n m).filter (λp=>p.2.2.2.1)=WU (λa b=>(it a b).filter λp=>p.2.2.2.1) n m:=by unfold WU YC;rw[Zm8];congr 1;funext a;rw[Zm8];grind
theorem ZvA{k}(g:k<=64){l}(s:l.length<=4096)(x:∀i,i<l.length->Wo k l i=0)(H:∀c,F120 l (k:Int)=Ua c->X7 c l=Uc):
 (∀i,i<(l.filter λp=>p.2.2.2.1).length->Wo k (l.filter λp=>p.2.2.2.1) i=0)/\∀c,F120 (l.filter λp=>p.2.2.2.1) (k:Int)=Ua c->X7 c (l.filter λp=>p.2.2.2.1)=true:=by
 have⟨I,J⟩:=Zj2.1 x;have f:∀i,i<(l.filter λp=>p.2.2.2.1).length->Wo k (l.filter λp=>p.2.2.2.1) i=0:=Zj2.2 (by grind);refine⟨f,λc h=>?_⟩;have hF:=Zjd x;have d:=Zjd f;have e:(l.filter λp=>p.2.2.2.1).length<=4096:=by grind
 have⟨c0,A,B,_⟩:=Zir g hF s;have⟨o,C,D,_⟩:=Zir g d e;have y:=Zis g hF s λa b=>(ZfJ hF a b).imp id λh=>h.2;have z:=Zis g d e λa b=>(ZfJ d a b).imp id λh=>h.2;rw[A]at y;rw[C]at z;have e0:=ZtR (H c0 B);obtain rfl:o=c:=Kx (D.symm.trans h);have r:∀free,Kf (l.filter λp=>p.2.2.2.1) free=Kf l true:=by
  intro free;funext u v w;refine propext ⟨λ⟨p,t,_,h⟩=>?_,λ⟨p,t,E,h⟩=>?_⟩;.have⟨j,m⟩:=Vzc.1 t;exact⟨p,j,λ_=>m,h⟩
  have:=E rfl;exact⟨p,by grind,λ_=>this,h⟩
 have key:o=l.filter λp=>p.2.2.2.1:=by
  rw[Kx z]
  conv=>rhs;rw[<-e0,Kx y]
  rw[ZrR,r,r];congr 1;funext a b;exact(ZvX a b _ _).symm
 rw[key];exact ZtS _
theorem Zfz n q(l:V Jj)(i:Nat):(((l.map (Jm n q))[i]?).getD c0).1=((l[i]?).getD c0).1/\(((l.map (Jm n q))[i]?).getD c0).2.1=((l[i]?).getD c0).2.1/\(((l.map (Jm n q))[i]?).getD c0).2.2.1=((l[i]?).getD c0).2.2.1:=by
 rw[Vla]
 cases l[i]? with
 |none=>simp|some c=>
  unfold Jm;grind
theorem Zs3 n q l k b a:XL (l.map (Jm n q)) k b a=XL l k b a:=by
 have h:XS (l.map (Jm n q)) k b a=XS l k b a:=by funext i;have⟨c,d,e⟩:=Zfz n q l i;have⟨f,g,j⟩:=Zfz n q l (i - 1);unfold XS ZdG ZdH ZdI;grind
 unfold XL;grind
theorem ZpG n q a:(rn (Kl n q) a).2.2.2.2.2.2.2.1=(rn n a).2.2.2.2.2.2.2.1.map (Jm n q):=by
 unfold rn;show (((n.2.2.1.map (Yq n q))[a.toNat]?).getD u0).2.2.2.2.2.2.2.1=_;rw[Vla];cases n.2.2.1[a.toNat]? <;>rfl
theorem Zww n q i:W1 (Kl n q) i=W1 n i:=by have a:(Kl n q).2.2.1.length=n.2.2.1.length:=Vn ..;unfold W1 HH GS;simp[ZpG,a];have b:∀l x,(cl (l.map (Jm n q)) x).1=(cl l x).1:=λl x=>(Zfz n q l _).1;simp[b];rfl
theorem Zyu n q{i}(f:i<n.2.2.1.length):Yd (Kl n q) i=Yd n i:=by
 have c:∀j,j<n.2.2.1.length->((Kl n q).2.2.1[j]?).getD u0=Yq n q ((n.2.2.1[j]?).getD u0):=by intro j a;show ((n.2.2.1.map (Yq n q))[j]?).getD u0=_;grind
 unfold Yd;rw[c i f];have d:(∃j,j<i/\runK (((Kl n q).2.2.1[j]?).getD u0)=runK (Yq n q ((n.2.2.1[i]?).getD u0)))↔∃j,j<i/\runK ((n.2.2.1[j]?).getD u0)=runK ((n.2.2.1[i]?).getD u0):=by
  constructor;.rintro ⟨j,a,e⟩;rw[c j (by omega)]at e;exact⟨j,a,e⟩
  rintro ⟨j,a,e⟩;refine⟨j,a,?_⟩;rw[c j (by omega)];exact e
 have b:XL (Yq n q ((n.2.2.1[i]?).getD u0)).2.2.2.2.2.2.2.1 ((Kl n q).1.length) 0 3155932800=XL ((n.2.2.1[i]?).getD u0).2.2.2.2.2.2.2.1 n.1.length 0 3155932800:=Zs3 n q _ _ _ _;simp[b,d];rfl
theorem Zlt{n} q(e:n.2.2.2.2.1.length<=4096)(h:Whole n):Whole (Kl n q):=by
 have a:(Kl n q).2.2.1.length=n.2.2.1.length:=Vn ..;have d:(∀i,i<(GD n q).length->Wo n.1.length (GD n q) i=0)/\∀c,F120 (GD n q) n.1.length=Ua c->X7 c (GD n q)=true:=by
  unfold GD;split;.exact ZvA h.sound.stops e (W0.1 h.q) h.w
  exact⟨W0.1 h.q,h.w⟩
 refine⟨h.s,h.t,by rw[a];exact h.u,?_,h.v,?_,W0.2 d.1,d.2,h.z⟩;.rw[a];exact W0.2 λi b=>by rw[Zyu n q b];exact W0.1 h.f i b
 exact W0.2 λi b=>by rw[Zww];exact W0.1 h.g i b
def Zrd(n:Zh)(l:V Jj)(j:Nat):Nat:=2 ^ (WN n ((l[j]?).getD c0).1).2.1.toNat
theorem Zqn{n}(h:WI n){a}(d:0<=a)(e:a<(n.1.length:Int)):idx n.1 a=Ua (WN n a)/\0<=(WN n a).2.1/\(WN n a).2.1<16:=by
 have c:Z9 a n.1.length=true:=by unfold Z9;grind
 refine⟨Jh c s0,?_⟩;have b:a.toNat<n.1.length:=by omega
 unfold WN;rw[KE b];exact h.zone _ (Vh b)
theorem ZAl{n}(h:WI n){x}(o:KM n x=Uc):F143 n x=Ua ((zN n (K6 n x) x.2.2.1.toNat (x.2.2.2.1.toNat+1 - x.2.2.1.toNat)):Int):=by
 unfold KM at o;simp[Vf,KJ]at o;have⟨w,y,p,z⟩:=o;have v:=Zaa w;have f:=(h.many _ v).2;have t:∀c∈K6 n x,0<=c.1/\c.1<n.1.length:=h.call _ v;have e:idx n.2.2.1 x.2.1=Ua (rn n x.2.1):=Jh w u0;unfold F143;rw[e];simp[Za];have d:(rn n x.2.1).2.2.2.2.2.2.2.1=K6 n x:=rfl;simp[d]at f⊢;generalize K6 n x=l at*;have⟨a,r⟩:∃a:Nat,x.2.2.1=a:=⟨x.2.2.1.toNat,by omega⟩;have⟨b,s⟩:∃b:Nat,x.2.2.2.1=b:=⟨x.2.2.2.1.toNat,by omega⟩;rw[r]at y p;rw[s]at p z;rw[r,s];simp[Vi];rw[JL (n:=b+1 - a) (λi st=>st=(((zN n l a i):Int),((a+i:Nat):Int))) (λ_=>0) (λ_=>((zN n l a (b+1 - a)):Int)) ((zN n l a (b+1 - a):Nat)) ?_ ?_ ?_ (0,a) rfl];.unfold pick;grind
 .rintro i _ B rfl _;have u:a+i<l.length:=by omega
  have g:=t _ (Vh u);have⟨k,m,j⟩:=Zqn h g.1 g.2;refine⟨(((zN n l a (i+1):Nat)),((a+(i+1):Nat))),?_,rfl⟩;have A:Va .i64 (((a+i:Nat))+1)=((a+(i+1):Nat)):=by rw[ZB (by omega) (by omega)];omega
  simp only[Zi (show ((a+i:Nat))<=b by omega),Zf,ZC u,Za,k,Zaf m j,A];rw[G6 (Zdm h t (a:=a) i (by omega)) (HU j)];have:zN n l a (i+1)=zN n l a i ||| 2 ^ (WN n l[a+i].1).2.1.toNat:=by show zN n l a i ||| Zrd n l (a+i)=_;unfold Zrd;grind
  grind
 all_goals grind
theorem ZoH{c d e K}{k:Int}(h:K=Ua k):(Vb (bif c then Ua Uc else Ua d) λx=>bif x then Ua e else K)=Ua (bif c||d then e else k):=by grind
theorem Zcl{c d e K}{k:Int}(h:K=Ua k):(Vb (bif c then Ua d else Ua Ud) λx=>bif x then Ua e else K)=Ua (bif c&&d then e else k):=by grind
theorem ZcW{c e K}{k:Int}(h:K=Ua k):(bif c then Ua e else K)=Ua (bif c then e else k):=by grind
theorem Zco{o c e K}{k:Int}(a:o=Ua c)(h:K=Ua k):(Vb o λx=>bif x then Ua e else K)=Ua (bif c then e else k):=by grind
theorem KQ{c}{e k:Int}(a:e≠0):(bif c then e else k)=0↔c=Ud/\k=0:=by grind
def Zgs(q:Zp)(t:Gb):Bool:=Ue (q.2.2.2.2.2.2.2.2.1=0) ||decide (JA .i64 (Vkc q.2.2.2.2.2.2.2.2.1 (2 ^ (min (Vwa t.2.1) 64))) 1=1)
theorem ZxU a:JA .i64 a 1=0\/JA .i64 a 1=1:=by
 unfold JA;have h:(Vc Vr.bits a &&& Vc Vr.bits 1).toNat=(Vc Vr.bits a).toNat % 2:=by grind
 rw[h];have:(Vc Vr.bits a).toNat % 2=0\/(Vc Vr.bits a).toNat % 2=1:=by omega
 obtain h|h:=this<;>rw[h];.left;rfl
 right;rfl
theorem ZwL q t(b:0<=t.2.1):(bif !Ue (q.2.2.2.2.2.2.2.2.1=0) then Vb (GF .i64 q.2.2.2.2.2.2.2.2.1 t.2.1) λx=>Ua (Ue (JA .i64 x 1=0)) else Ua Ud)=Ua (!Zgs q t):=by
 unfold Zgs;have a:GF .i64 q.2.2.2.2.2.2.2.2.1 t.2.1=Ua (Vkc q.2.2.2.2.2.2.2.2.1 (2 ^ (min (Vwa t.2.1) 64))):=by unfold GF;rw[Zg (by omega)];rfl
 rw[a];simp[Za]
 cases Ue (q.2.2.2.2.2.2.2.2.1=0) with
 |true=>rfl|false=>
  obtain h|h:=ZxU (Vkc q.2.2.2.2.2.2.2.2.1 (2 ^ (min (Vwa t.2.1) 64)))<;>rw[h]<;>rfl
def DM(n:Zh)(q:Zp)(x:Zx):Int:=
 bif !Ue ((cl (K6 n x) x.2.2.1).1=x.2.2.2.2.1) || !Ue ((cl (K6 n x) x.2.2.2.1).1=x.2.2.2.2.2.1) then 24 else
 bif !Ue ((cl (K6 n x) x.2.2.1).2.2.1=x.2.2.2.2.2.2.1) || !Ue ((cl (K6 n x) x.2.2.2.1).2.1=x.2.2.2.2.2.2.2.1) then 10 else
 bif (rn n x.2.1).2.2.2.2.2.2.1 then 27 else
 bif q.2.2.2.2.2.2.1&& !(rn n x.2.1).2.2.2.2.2.1 then 29 else
 bif q.2.2.2.2.2.2.2.1&& !(Za5 n (rn n x.2.1)).2.2.1 then 30 else
 bif !Zgs q (Za5 n (rn n x.2.1)) then 31 else
 bif !Kq x&& !(cl (K6 n x) x.2.2.1).2.2.2.1 then 25 else
 bif !Kq x&& !YV n q x.2.2.2.2.1 then 29 else 0
theorem ZmU{n x}(a:KM n x=Uc):idx n.2.2.1 x.2.1=Ua (rn n x.2.1)/\rn n x.2.1∈n.2.2.1/\idx (rn n x.2.1).2.2.2.2.2.2.2.1 x.2.2.1=Ua (cl (K6 n x) x.2.2.1)/\idx (rn n x.2.1).2.2.2.2.2.2.2.1 x.2.2.2.1=Ua (cl (K6 n x) x.2.2.2.1):=by
 unfold KM at a;simp[KJ]at a;have⟨b,d,e,c⟩:=a;unfold K6 at c;refine⟨Jh b u0,Zaa b,Jh ?_ c0,Jh ?_ c0⟩<;> (unfold Z9;grind)
theorem ZoG{n:Zh}(q:Zp){s}(h:Z9 s n.1.length=Uc):F148 n q s=Ua (YV n q s):=by unfold F148 YV;rw[show idx n.1 s=Ua (WN n s) from Jh h s0];grind
theorem Zyf{n}(a:WI n)(q:Zp){x}(k:KM n x=Uc)(h:Z9 x.2.2.2.2.1 n.1.length=Uc):F160 n q x=Ua (DM n q x):=by have⟨b,c,d,e⟩:=ZmU k;have⟨f,g⟩:=ZpJ a c;have j:=(a.mode _ g).1;unfold F160 DM;rw[b];simp only[Za];rw[d,e,f];refine ZoH (ZoH (ZcW (Zcl (Zcl (Zco (ZwL q _ j) (Zcl (Zco ?_ rfl)))))));rw[ZoG q h];grind
def HQ(x:Zx)(p:K5):Bool:=Ue (p.1=x.2.2.2.2.1)&&(Ue (p.2.1=x.2.2.2.2.2.1)&&Ue (p.2.2.1=Va .i64 (x.2.2.2.2.2.2.2.1 - x.2.2.2.2.2.2.1)))
def GW(q:Zp)(p:K5):Bool:=p.2.2.2.1|| !q.2.2.2.2.2.2.1
def H4(n:Zh)(q:Zp)(x:Zx):Int:=bif n.2.2.2.2.1.any λp=>HQ x p&&GW q p then 0 else bif n.2.2.2.2.1.any (HQ x) then 29 else 18
theorem ZdA{α:Type}{l:V α}{i} h f:(l.take (i+1)).any f=((l.take i).any f||f l[i]):=by rw[Vd h,Vad];simp
theorem ZzV{n:Zh}(g:n.2.2.2.2.1.length<=4096)(q:Zp)(x:Zx):F164 n q x=Ua (H4 n q x):=by
 refine KK (λr=>Vud id id r=H4 n q x) ?_ ?_
 .refine Kg n.2.2.2.2.1.length _ (λi s=>s=((bif (n.2.2.2.2.1.take i).any (HQ x) then 29 else 18),(i:Int))/\((n.2.2.2.2.1.take i).any λp=>HQ x p&&GW q p)=Ud) ?_ ?_ _ ⟨rfl,rfl⟩
  .rintro i _ a ⟨rfl,c⟩;simp only[ZL a,Zf,ZC a,Za,ZU a (by omega)];have e:(bif !Ue ((n.2.2.2.2.1[i]).1=x.2.2.2.2.1) then Ua Uc else bif !Ue ((n.2.2.2.2.1[i]).2.1=x.2.2.2.2.2.1) then Ua Uc else Ua !Ue ((n.2.2.2.2.1[i]).2.2.1=Va .i64 (x.2.2.2.2.2.2.2.1 - x.2.2.2.2.2.2.1)))=Ua (!HQ x n.2.2.2.2.1[i]):=by unfold HQ;grind
   have f:(bif (n.2.2.2.2.1[i]).2.2.2.1 then Ua Uc else Ua !q.2.2.2.2.2.2.1)=Ua (GW q n.2.2.2.2.1[i]):=by unfold GW;grind
   rw[e,f]
   cases b:HQ x n.2.2.2.2.1[i] with
   |false=>
    left;refine⟨_,rfl,?_,?_⟩;.rw[ZdA a,b,Bool.or_false]
    rw[ZdA a,c,b];rfl|true=>
    cases d:GW q n.2.2.2.2.1[i] with
    |true=>
     right;refine⟨_,rfl,?_⟩;unfold H4
     grind|false=>
     left;refine⟨_,rfl,?_,?_⟩;.rw[ZdA a,b,Vqd];rfl
     rw[ZdA a,c,b,d];rfl
  rintro _ ⟨rfl,c⟩;simp only[JJ];refine⟨_,rfl,?_⟩;unfold H4;grind
 grind
def W7(n:Zh)(q:Zp)(x:Zx):Int:=
 bif !Z9 x.2.2.2.2.1 n.1.length|| !Z9 x.2.2.2.2.2.1 n.1.length then 9 else
 bif (bif x.1 then !KM n x else !Ue (x.2.1=0) || (!Ue (x.2.2.1=0) || (!Ue (x.2.2.2.1=0) ||Kq x))) then 9 else
 bif !Ue (0<=x.2.2.2.2.2.2.1/\x.2.2.2.2.2.2.1<=3155932800) || !Ue (0<=x.2.2.2.2.2.2.2.1/\x.2.2.2.2.2.2.2.1<=3155932800) then 10 else
 bif x.1 then DM n q x else H4 n q x
theorem Zig{o c e K}{k:Int}(a:o=Ua c)(h:c=Ud->K=Ua k):(Vb o λx=>bif x then Ua e else K)=Ua (bif c then e else k):=by grind
theorem Zwm{n}(a:WI n)(d:n.2.2.2.2.1.length<=4096)(q:Zp)(x:Zx):F158 n q x=Ua (W7 n q x):=by
 have b:n.1.length<=9223372036854775807:=by have:=a.stops;omega
 unfold F158 W7;rw[ZcL _ b,ZcL _ b];refine Zig (by grind) λe=>?_;rw[ZiV];refine Zig ?_ λc=>?_;.grind
 rw[ZbF,ZbF];refine Zig ?_ λ_=>?_;.grind
 cases f:x.1 with
 |false=>
  rw[ZzV d];rfl|true=>
  rw[Zyf a q (by grind) (by grind)];rfl
def ZaX(a b:Zx)(stay:Bool)(l:Dj):Bool:=Ue (l.1=a.2.1)&&(Ue (l.2.1=a.2.2.2.1)&&(Ue (l.2.2.1=b.2.1)&&(Ue (l.2.2.2.1=b.2.2.1)&&(l.2.2.2.2.1==stay))))
def Gy(n:Zh)(a b:Zx)(stay:Bool):Bool:=n.2.2.2.1.any (ZaX a b stay)
theorem Zn4{n:Zh}(g:n.2.2.2.1.length<=4096)(a b:Zx)(stay:Bool):F159 n a b stay=Ua (Gy n a b stay):=by
 refine KK (λr=>Vud (λ_=>Ud) id r=Gy n a b stay) ?_ ?_
 .unfold Gy;refine Kg n.2.2.2.1.length _ (λi s=>s=(i:Int)/\(n.2.2.2.1.take i).any (ZaX a b stay)=Ud) ?_ ?_ _ ⟨rfl,rfl⟩
  .rintro i _ c ⟨rfl,e⟩;simp only[ZL c,ZC c,Za,ZU c (by omega)];have d:(bif Ue ((n.2.2.2.1[i]).1=a.2.1) then
 bif Ue ((n.2.2.2.1[i]).2.1=a.2.2.2.1) then
 bif Ue ((n.2.2.2.1[i]).2.2.1=b.2.1) then
 bif Ue ((n.2.2.2.1[i]).2.2.2.1=b.2.2.1) then Ua ((n.2.2.2.1[i]).2.2.2.2.1==stay) else Ua Ud
 else Ua Ud
 else Ua Ud
 else Ua Ud)=Ua (ZaX a b stay n.2.2.2.1[i]):=by unfold ZaX;grind
   erw[d];simp only[Za]
   cases f:ZaX a b stay n.2.2.2.1[i] with
   |false=>
    left;refine⟨_,rfl,rfl,?_⟩
    rw[ZdA c,e,f];rfl|true=>
    grind
  simp
 grind
def WV(n:Zh)(a b:Zx):Int:=
 bif !Ue (a.2.2.2.2.2.1=b.2.2.2.2.1) then 24 else
 bif !a.1&& !b.1 then 32 else
 bif Kq b then(bif !a.1|| !Gy n a b Uc then 19 else bif Ue (b.2.2.2.2.2.2.1<a.2.2.2.2.2.2.2.1) then 10 else 0) else
 bif !b.1 then(bif !Ue (b.2.2.2.2.2.2.1=a.2.2.2.2.2.2.2.1) then 10 else 0) else
 bif !a.1 then(bif Ue (b.2.2.2.2.2.2.1<a.2.2.2.2.2.2.2.1) then 28 else 0) else
 bif Ue (Va .i64 (a.2.2.2.2.2.2.2.1+(WN n a.2.2.2.2.2.1).2.2.2.1)<=b.2.2.2.2.2.2.1) || (Gy n a b Ud&&Ue (a.2.2.2.2.2.2.2.1<=b.2.2.2.2.2.2.1)) then 0 else 28
theorem Zni{n:Zh}(d:n.2.2.2.1.length<=4096){a b:Zx}(e:Z9 b.2.2.2.2.1 n.1.length=Uc):F155 n a b=Ua (WV n a b):=by
 unfold F155 WV;rw[Zn4 d,Zn4 d];by_cases c:a.2.2.2.2.2.1=b.2.2.2.2.1;case neg=>grind
 rw[Zi c];refine Zcl ?_;unfold Kq
 cases b.2.2.2.2.2.2.2.2.1 with
 |true=>
  grind|false=>
  cases b.1 with
  |false=>
   grind|true=>
   simp[Ze]
   cases a.1 with
   |false=>
    grind|true=>
    simp[Ze];have f:idx n.1 a.2.2.2.2.2.1=Ua (WN n a.2.2.2.2.2.1):=by rw[c];exact Jh e s0
    grind
def g0:Zx:=(Ud,0,0,0,0,0,0,0,Ud,())
def lg(L:V Zx)(i:Nat):Zx:=(L[i]?).getD g0
def Yw(n:Zh)(q:Zp)(L:V Zx):Int:=
 bif !Ue ((lg L 0).2.2.2.2.1=q.1) then 24 else
 bif Kq (lg L 0) then 19 else
 bif !(lg L 0).1&&(Ue (1<L.length)&&((lg L 1).1&& !Ue ((lg L 1).2.2.2.2.2.2.1=(lg L 0).2.2.2.2.2.2.2.1))) then 10 else
 bif !(lg L 0).1&&(Ue (L.length=1)&&(bif q.2.2.2.1 then !Ue ((lg L 0).2.2.2.2.2.2.2.1=q.2.2.1) else !Ue ((lg L 0).2.2.2.2.2.2.1=q.2.2.1))) then 10 else
 bif !q.2.2.2.1&&Ue ((lg L 0).2.2.2.2.2.2.1<q.2.2.1) then 10 else
 bif q.2.2.2.2.2.2.2.2.2.1&&((lg L 0).1&&Ue ((lg L 0).2.2.2.2.2.2.1<Va .i64 (q.2.2.1+(WN n q.1).2.2.2.1))) then 28 else 0
theorem DG{L}{i:Nat}(h:i<L.length):idx L i=Ua (lg L i):=by rw[ZC h];unfold lg;grind
theorem Zvd{n:Zh}{q:Zp}{L:V Zx}(a:0<L.length)(d:Z9 q.1 n.1.length=Uc):F154 n q (L,())=Ua (Yw n q L):=by
 unfold F154 Yw;have e0:idx (L,()).1 0=Ua (lg L 0):=DG a;rw[e0];refine ZcW (Zco (c:=Kq (lg L 0)) rfl ?_);refine Zco ?_ (Zco ?_ (Zcl (Zco ?_ rfl)))
 .by_cases b:1<L.length
  .have e:idx L 1=Ua (lg L 1):=DG b;grind
  grind
 .rw[show Ue ((L.length:Int)=1)=Ue (L.length=1) from (by grind)];grind
 rw[show idx n.1 q.1=Ua (WN n q.1) from Jh d s0];grind
def ZbV(L:V Zx)(i:Nat):Bool:=Ue (0<i)&&(lg L (i - 1)).1
theorem Zyi{n}(h:WI n)(o:F124 n=Ua Uc)(L:V Zx)(M:L.length<=1000):F138 n (L,())=Ua (Wd n L Ud []):=by
 unfold F138;rw[o];simp only[Za,Vj,Ze];refine KK (λr=>Wd n L Ud []=Vud (λl=>(l,(0:Int))) (λy=>y) r) ?_ ?_
 .refine Kg L.length _ (λi (s:V Z8×Int)=>∃l,s=(l,(i:Int))/\l.length<=i/\(ZbV L i=Uc->0<l.length)/\Wd n L Ud []=Wd n (L.drop i) (ZbV L i) l) ?_ ?_ _ ⟨[],rfl,by simp,λe=>(nomatch e),rfl⟩
  .rintro i _ d ⟨l,rfl,I,E,a⟩;have g:L.length<=9223372036854775807:=by omega
   rw[Vm d]at a;have j:ZbV L (i+1)=(L[i]).1:=by unfold ZbV lg;grind
   have m:(bif !(L[i]).1 then Ua Uc else bif Ue ((i:Int)=(0:Int)) then Ua Uc else Vb (idx L (Va .i64 ((i:Int) - (1:Int)))) λJ=>Ua !J.1)=Ua (!((L[i]).1&&ZbV L i)):=by
    cases (L[i]).1 with
    |false=>rfl|true=>
     unfold ZbV;by_cases K:i=0;.grind
     rw[Zm (by omega),Zi (by omega)];have e:Va .i64 ((i:Int) - 1)=((i - 1:Nat):Int):=by rw[ZB (by omega) (by omega)];omega
     rw[e,DG (by omega)];rfl
   simp only[ZL d,Zf,ZC d,Za,ZU d g,ZiV];rw[m];generalize L[i]=x at*;rw[Db]at a;generalize ZbV L i=w at*
   cases t:x.1 with
   |false=>
    grind|true=>
    rw[t]at a j;simp only[Zf,Za,Vj,Ze,Vga]
    cases p:KM n x with
    |false=>
     grind|true=>
     rw[p]at a;have⟨u,z,A,B⟩:=ZbW h p;have D:=ZAl h p;simp only[Vj,Ze]
     cases f:Kq x with
     |false=>
      left;rw[f]at a;have b:=f;unfold Kq at b;rw[b];simp only[Ze,Za];rw[u];simp only[Za];rw[z];simp only[Za];rw[Zaf A B,D];simp only[Za];rw[XM (by grind)];refine⟨_,rfl,l++[XQ n x],rfl,by grind,by simp,?_⟩
      grind|true=>
      rw[f]at a;have b:=f;unfold Kq at b;rw[b];simp only[Zf,Za]
      cases w with
      |false=>
       grind|true=>
       left;have c:=E rfl;obtain⟨v,o⟩:∃v,l[l.length - 1]? =Ua v:=⟨_,Ve (by omega)⟩;simp only[Vj,Ze];rw[u];simp only[Za];rw[z];simp only[Za];rw[Zaf A B,D];have H:=Zjl (k:=l.length) c (by omega);simp only[Za,Vac];rw[H];simp only[Za,o,ZbZ (show l.length - 1<l.length by omega)];rw[ZbZ (by grind)];simp only[Za,Vpd];have C:Yo n x l=He n x l v:=by unfold Yo;grind
       refine⟨_,rfl,He n x l v,rfl,by rw[<-C,Zfb];omega,λ_=>by rw[<-C,Zfb];omega,?_⟩;grind
  rintro _ ⟨l,rfl,I,E,a⟩;simp only[JJ,Ze];refine⟨_,rfl,?_⟩;rw[a,Vwc];rfl
 grind
theorem ZsX(z:Int):∃r,F141 z=Ua r:=by
 unfold F141
 suffices h:∃r,run _ ((0:Int),(0:Int))=Ua r/\True by obtain⟨r,h,_⟩:=h;exact⟨r,by rw[h];rfl⟩
 refine Kg 62 (λ_=>True) (λi s=>s.2=(i:Int)) ?_ ?_ _ rfl
 .rintro i ⟨a,b⟩ g c;left;simp at c;subst c;have f:Va .i64 (i+1)=((i+1:Nat)):=by rw[ZB (by omega) (by omega)];omega
  have d:∃y,GF .i64 z i=Ua y:=by unfold GF;simp
  have⟨y,e⟩:=d;simp[Zi (show (i:Int)<62 by omega),e,f]
  cases Ue (JA .i64 y 1=1) with|true|false=>simp
 simp
theorem Zq4(a b d:Int):∃r,F142 a b d=Ua r:=by
 unfold F142;cases Ue (b<=a)<;>exact⟨_,rfl⟩
theorem Zuk(p:Xr){l:V Z8}{i k}(j:i<=k)(m:k<l.length)(s:l.length<=100):∃r,F135 p l (i:Int) (k:Int)=Ua r:=by
 unfold F135
 suffices h:∃r,run _ ((0:Int),(0:Int),(i:Int))=Ua r/\True by obtain⟨r,h,_⟩:=h;rw[h];simp only[Za];have⟨b,o⟩:=ZsX r.1;have⟨c,g⟩:=Zq4 (l[i]).1 (l[k]).1 p.2.2.2.2.1;simp only[ZC (show i<l.length by omega),ZC m];grind
 refine Kg (k+1 - i) (λ_=>True) (λc t=>t.2.2=((i+c:Nat):Int)) ?_ ?_ _ rfl
 .rintro c ⟨a,b,d⟩ g e;left;subst e;have f:Va .i64 (((i+c:Nat))+1)=((i+(c+1):Nat)):=by rw[ZB (by omega) (by omega)];omega
  simp only[Zi (show ((i+c:Nat))<=(k:Int) by omega),ZC (show i+c<l.length by omega),Za,f];simp
 rintro ⟨a,b,d⟩ e;subst e;rw[Zm (show¬((i+(k+1 - i):Nat))<=(k:Int) by omega)];simp
theorem Zzu(F:KD)(p:Xr){l:V Z8}{i}(b:i<l.length)(f:l.length<=100):∃r,F139 F p l (i:Int)=Ua r:=by
 unfold F139;by_cases d:0<i
 .have e:Va .i64 (i - 1)=((i - 1:Nat)):=by rw[ZB (by omega) (by omega)];omega
  have⟨c,a⟩:=Zq4 (l[i - 1]).2.1 (l[i]).1 F.2.2.1;rw[Zi (by omega),e];simp[ZC (show i - 1<l.length by omega),ZC b,a];cases c<;>exact⟨_,rfl⟩
 simp_all
abbrev TkT:=Int×Int×Int×Int×Unit
abbrev Zbh:=Bool×Int×V TkT×Unit
def Ge(n:Nat)(T:V Zbh):Prop:=T.length=n+1/\∀j r,T[j]? =Ua r->r.2.2.1.length+j<=n
theorem Ge.get{n T}(h:Ge n T){j}(a:j<=n):∃r,T[j]? =Ua r/\r.2.2.1.length+j<=n:=by have b:=h.1;exact⟨_,Ve (by omega),h.2 _ _ (by simp)⟩
theorem Ge.put{n T}(h:Ge n T){i r}(c:r.2.2.1.length+i<=n):Ge n (T.set i r):=by
 refine⟨by rw[Vac];exact h.1,λj s b=>?_⟩;by_cases a:i=j;.grind
 rw[Vhb a]at b;exact h.2 j s b
theorem Zie{β a τ:Type}{o}{f:β->Option (a ⊕ τ)}{Q:a->Prop}(P:β->Prop)(h:∃r,o=Ua r/\P r)(k:∀r,P r->∃s,f r=Ua (.inl s)/\Q s):∃s,Vb o f=Ua (.inl s)/\Q s:=by grind
theorem ZxG(F:KD)(hF:F.1.length<=4096)(l:V Z8)(hl:l.length<=8):∃R,F137 F l=Ua R:=by
 unfold F137;have U:Va .i64 ((l.length:Int)+1)=((l.length+1:Nat):Int):=by rw[ZB (by omega) (by omega)];omega
 have M:Zw (Ue ((0:Int)<=((l.length+1:Nat):Int)/\((l.length+1:Nat):Int)<=((l.length+1:Nat):Int)/\((l.length+1:Nat):Int)<=(Zt:Int)))=Ua ():=by
  have O:(Zt:Int)=549755813888:=by rfl
  rw[Zi (by omega)];rfl
 have e:∀o:V Zbh,o=Vq (l.length+1) (Ud,0,[],())->Zo (l.length:Int) o.length=Ua l.length/\o[l.length]? =Ua (Ud,0,[],()):=by rintro o rfl;exact⟨Kz (by simp),by simp⟩
 have⟨P,Q⟩:=e _ rfl;rw[U];erw[M];simp only[Za,Vi];erw[P];simp only[Za];erw[Q];simp only[Za];have key:∀o (k:V Zbh->Option (Int×V TkT×Bool)),(∃T,o=Ua T/\Ge l.length T)->(∀T,Ge l.length T->∃R,k T=Ua R)->∃R,Vb o k=Ua R:=by grind
 refine key _ _ (Kg l.length _ (λc (s:V Zbh×Int)=>∃T,s=(T,(l.length:Int) - 1 - (c:Int))/\Ge l.length T) ?_ ?_ _ ?_) ?_
 .rintro c _ hc ⟨T,rfl,a⟩;left;obtain⟨i,N⟩:∃i:Nat,(l.length:Int) - 1 - (c:Int)=(i:Int):=⟨l.length - 1 - c,by omega⟩;have v:i<l.length:=by omega
  rw[N];rw[Zi (by omega)];simp only[Zf];refine Zie (λf=>Ge l.length f) ?_ ?_
  .refine Kg (l.length - i) _ (λm (s:V Zbh×Int)=>∃T,s=(T,((i+m:Nat):Int))/\Ge l.length T) ?_ ?_ _ ⟨T,rfl,a⟩
   .rintro m _ O ⟨T,rfl,a⟩;left;have B:i+m<l.length:=by omega
    have A:Va .i64 (((i+m:Nat):Int)+1)=((i+m+1:Nat):Int):=by rw[ZB (by omega) (by omega)];omega
    have g:=a.1;have d:Zo ((i+m+1:Nat):Int) T.length=Ua (i+m+1):=Kz (by omega);have⟨r,x,K⟩:=a.get (show i+m+1<=l.length by omega);simp only[ZL B,Zf,A,d,x,Za]
    cases r.1 with
    |false=>grind|true=>
     simp only[Vj,Ze];refine Zie (λf=>Ge l.length f) ?_ ?_
     .refine Kg F.1.length _ (λp (s:V Zbh×Int)=>∃T,s=(T,(p:Int))/\Ge l.length T) ?_ ?_ _ ⟨T,rfl,a⟩
      .rintro p _ C ⟨T,rfl,a⟩;left;have E:Va .i64 ((p:Int)+1)=((p+1:Nat):Int):=by rw[ZB (by omega) (by omega)];omega
       have g:=a.1;have d:Zo ((i+m+1:Nat):Int) T.length=Ua (i+m+1):=by grind
       have h:Zo (i:Int) T.length=Ua i:=Kz (by omega);have⟨S,z,J⟩:=a.get (show i+m+1<=l.length by omega);have⟨ri,y,I⟩:=a.get (show i<=l.length by omega);have⟨D,t⟩:=Zuk F.1[p] (show i<=i+m by omega) B (by omega);have⟨pr,w⟩:=Zzu F F.1[p] v (by omega);simp only[ZL C,Zf,ZC C,Za,t,w,d,h,z,y,E]
       cases D with
       |false=>grind|true=>
        simp only[Vj,Ze];refine Zie (λ_=>True) ?_ λb _=>?_;.grind
        cases b with
        |true=>grind|false=>
         simp only[Ze];have u:Zw (Ue (Vg [((p:Int),(i:Int),((i+m:Nat):Int),pr,())]+Vg S.2.2.1<=Zt))=Ua ():=by rw[Zi (by simp only[Vqa,Vib,Zt];omega)];rfl
         rw[u];simp only[Za];exact⟨_,rfl,_,rfl,a.put (by grind)⟩
      simp
     grind
   grind
  intro f H;have A:Va .i64 ((i:Int) - 1)=(l.length:Int) - 1 - ((c+1:Nat):Int):=by rw[ZB (by omega) (by omega)];omega
  grind
 .grind
 .refine⟨(Vq (l.length+1) ((Ud,0,[],()):Zbh)).set l.length (Uc,0,[],()),?_,Ge.put ⟨by simp,λj r x=>?_⟩ (by simp)⟩
  .rw[ZB (by omega) (by omega)];simp
  grind
 intro T a;have⟨r,x,_⟩:=a.get (Vea _);have W:Zo (0:Int) T.length=Ua 0:=Kz (i:=0) (by grind);simp_all
def Zhq(x:Zx):Bool:= !x.1&&(Ue (0<=x.2.2.2.2.2.2.1)&&(Ue (x.2.2.2.2.2.2.1<=x.2.2.2.2.2.2.2.1)&&Ue (Va .i64 (x.2.2.2.2.2.2.2.1 - x.2.2.2.2.2.2.1)<=14400)))
def Rt(s:Int)(x:Zx):Int:=bif Zhq x then Va .i64 (Va .i64 (s+x.2.2.2.2.2.2.2.1) - x.2.2.2.2.2.2.1) else s
def XE(L:V Zx):Int:=L.foldl Rt 0
theorem ZeN(L:V Zx)(d:L.length<=1000):F140 (L,())=Ua (XE L):=by
 refine KK (λr=>r=XE L) ?_ (by simp);refine Kg L.length _ (λi s=>s=((L.take i).foldl Rt 0,(i:Int))) ?_ ?_ _ rfl
 .rintro i _ a rfl;left;have b:(bif !(L[i]).1 then
 bif Ue (0<=(L[i]).2.2.2.2.2.2.1) then
 bif Ue ((L[i]).2.2.2.2.2.2.1<=(L[i]).2.2.2.2.2.2.2.1) then
 Ua (Ue (Va .i64 ((L[i]).2.2.2.2.2.2.2.1 - (L[i]).2.2.2.2.2.2.1)<=14400))
 else Ua Ud
 else Ua Ud
 else Ua Ud)=Ua (Zhq L[i]):=by unfold Zhq;grind
  have c:(L.take (i+1)).foldl Rt 0=Rt ((L.take i).foldl Rt 0) L[i]:=by rw[Vd a,Vz];rfl
  simp only[ZC a,Za,ZU a (by omega)];rw[b,c];unfold Rt;grind
 rintro _ rfl;simp only[JJ];exact⟨_,rfl,by rw[Vba];rfl⟩
def R9(x:Zx):Bool:=x.1&& !Kq x
def ZK(L:V Zx):Nat:=(L.filter R9).length
def Zo4(F:KD)(l:V Z8):Int:=match F137 F l with|some r=>bif r.2.2 then 0 else 34|none=>0
def ZiH(n:Zh)(L:V Zx):Int:=
 bif !Ue ((Wd n L Ud []).2=0) then(Wd n L Ud []).2 else
 bif Ue (8<(Wd n L Ud []).1.length) then 33 else Zo4 n.2.2.2.2.2.1 (Wd n L Ud []).1
theorem Zte(F:KD)(s:Int):∃r,F133 F s=Ua r:=by
 unfold F133;cases Ue (0<F.2.2.2.1)<;>exact⟨_,rfl⟩
theorem ZiI{n}(h:WI n)(j:F124 n=Ua Uc)(hF:n.2.2.2.2.2.1.1.length<=4096)(q:Zp)(L:V Zx)(b:L.length<=1000):∃c,F134 n q (L,())=Ua c/\c.2.2=ZiH n L:=by
 unfold F134 ZiH;rw[Zyi h j L b];simp[Za];generalize Wd n L Ud []=R;by_cases d:R.2=0;case neg=>simp_all
 rw[Zi d];simp[Vj,Ze];by_cases a:8<R.1.length;.rw[Zi (by omega),Zi a];simp
 rw[Zm (by omega),Zm a];simp[Ze];have⟨p,g⟩:=ZxG n.2.2.2.2.2.1 hF R.1 (by omega);unfold Zo4;rw[g];simp[Za]
 cases p.2.2 with
 |false=>simp|true=>
  simp[Vj,Ze,Zf];have⟨c,f⟩:=Zte n.2.2.2.2.2.1 p.1;rw[f,ZeN L b];simp[Za];by_cases hL:0<L.length
  .have e:Va .i64 (L.length - 1)=((L.length - 1:Nat)):=by rw[ZB (by omega) (by omega)];omega
   have k:idx L 0=Ua (lg L 0):=DG hL;rw[Zi (by omega),e,k,DG (by omega)];simp
  simp_all
def XW(L:V Zx)(i:Nat):Bool:=(lg L i).1&&(Ue (i+1=L.length) || !Kq (lg L (i+1)))
def Yp(n:Zh)(q:Zp)(x:Zx):Int:=bif !(cl (K6 n x) x.2.2.2.1).2.2.2.2.1 then 26 else bif !YV n q x.2.2.2.2.2.1 then 29 else 0
def Gz(n:Zh)(q:Zp)(L:V Zx)(i:Nat):Int:=bif Ue (i=0) then Yw n q L else WV n (lg L (i - 1)) (lg L i)
def K2(n:Zh)(q:Zp)(L:V Zx)(i:Nat):Int:=
 bif !Ue (W7 n q (lg L i)=0) then W7 n q (lg L i) else
 bif !Ue (Gz n q L i=0) then Gz n q L i else
 bif XW L i then Yp n q (lg L i) else 0
theorem ZnV{n q x}(h:W7 n q x=0):Z9 x.2.2.2.2.1 n.1.length=Uc/\Z9 x.2.2.2.2.2.1 n.1.length=Uc/\(x.1=Uc->KM n x=Uc/\DM n q x=0)/\(x.1=Ud->H4 n q x=0):=by unfold W7 at h;grind
theorem ZdE{n}(d:WI n)(k:n.2.2.2.2.1.length<=4096){q:Zp}(l:Z9 q.1 n.1.length=Uc){L:V Zx}{i}(f:i<L.length)(y:L.length<=1000):F151 n q (L,()) (i:Int)=Ua (K2 n q L i):=by
 unfold F151 K2;rw[show idx (L,()).1 i=Ua (lg L i) from DG f];simp only[Za];rw[Zwm d k q];simp only[Za];by_cases c:W7 n q (lg L i)=0;case neg=>grind
 rw[Zi c];simp only[Vj,Ze];have⟨v,w,x,z⟩:=ZnV c;have g:(bif Ue (i=(0:Int)) then Vb (F154 n q (L,())) λs=>Ua s
 else Vb (idx L (Va .i64 (i - 1))) λt=>Vb (F155 n t (lg L i)) λb=>Ua b)=Ua (Gz n q L i):=by
  unfold Gz;by_cases a:i=0;.subst a;rw[Zvd f l];rfl
  have e:Va .i64 (i - 1)=((i - 1:Nat)):=by rw[ZB (by omega) (by omega)];omega
  rw[Zm (by omega),Zm a,e,DG (by omega)];simp only[Ze,Za];rw[Zni (by have:=d.links;omega) v];rfl
 rw[g];simp only[Za];refine ZcW ?_;have p:Va .i64 ((i:Int)+1)=((i+1:Nat):Int):=by rw[ZB (by omega) (by omega)];omega
 rw[p];have h:(bif (lg L i).1 then bif Ue (((i+1:Nat):Int)=(↑(Vg L):Int)) then Ua Uc
 else Vb (idx L ((i+1:Nat):Int)) λu=>Ua !u.2.2.2.2.2.2.2.2.1
 else Ua Ud)=Ua (XW L i):=by
  unfold XW;rw[show Ue (((i+1:Nat):Int)=(L.length:Int))=Ue (i+1=L.length) from (by grind)];by_cases j:i+1=L.length;.grind
  rw[Zm j,DG (by omega)];grind
 rw[h];simp[Za]
 cases o:XW L i with
 |false=>rfl|true=>
  have m:(lg L i).1=true:=by grind
  have⟨r,_,_,b⟩:=ZmU (x m).1;simp[Zf];rw[r];simp[Za];rw[b];simp[Za];rw[ZoG q w];unfold Yp;grind
def DA(n:Zh)(q:Zp)(L:V Zx):Int:=
 bif !Ue ((lg L (L.length - 1)).2.2.2.2.2.1=q.2.1) then 24 else
 bif q.2.2.2.1&&Ue (q.2.2.1<(lg L (L.length - 1)).2.2.2.2.2.2.2.1) then 10 else
 bif Ue (q.2.2.2.2.1<(ZK L)) then 33 else
 bif Ue (q.2.2.2.2.2.1<XE L) then 32 else ZiH n L
theorem ZuO{n}(d:WI n)(f:F124 n=Ua Uc)(hF:n.2.2.2.2.2.1.1.length<=4096)(q:Zp){L:V Zx}(k:0<L.length)(b:L.length<=1000):F152 n q (L,())=Ua (DA n q L):=by
 unfold F152 DA;have e:Va .i64 (L.length - 1)=((L.length - 1:Nat)):=by rw[ZB (by omega) (by omega)];omega
 simp only[e,DG (show L.length - 1<L.length by omega),Za];refine ZcW (Zcl ?_);refine KK (λr=>r=(ZK L)) ?_ ?_
 .refine Kg L.length _ (λi s=>s=((ZK (L.take i):Int),(i:Int))) ?_ ?_ _ rfl
  .rintro i _ a rfl;left;have o:ZK (L.take i)<=L.length:=by unfold ZK;grind
   have h:(bif (L[i]).1 then Ua !(L[i]).2.2.2.2.2.2.2.2.1 else Ua Ud)=Ua (R9 L[i]):=by unfold R9 Kq;grind
   have j:ZK (L.take (i+1))=ZK (L.take i)+(if R9 L[i] then 1 else 0):=by unfold ZK;rw[Vd a,Vmc,Vda];grind
   have g:Va .i64 ((ZK (L.take i))+1)=((ZK (L.take i)+1:Nat)):=by rw[ZB (by omega) (by omega)];omega
   simp[ZL a,Zf,ZC a,Za,ZU a (by omega),g];grind
  simp
 rintro _ rfl;refine ZcW ?_;rw[ZeN L b];simp[Za];refine ZcW ?_;have⟨c,l,m⟩:=ZiI d f hF q L b;grind
def Wt(n:Zh)(q:Zp)(L:V Zx):Int×Int:=
 bif !Ue (Gp n q=0) then(0,Gp n q) else
 bif Ue (L.length=0) then(bif !Ue (q.1=q.2.1) then(0,24) else(0,0)) else
 match Wu L.length (K2 n q L) with|some i=>(i,K2 n q L i)|none=>bif !Ue (DA n q L=0) then(((L.length - 1:Nat)),DA n q L) else(0,0)
open Classical in
theorem Ztk{n:Zh}(c:X0 n)(hF:n.2.2.2.2.2.1.1.length<=4096)(q:Zp)(L:V Zx)(h:L.length<=1000):F145 n q (L,())=Ua (Wt n q L):=by
 unfold F145 Wt;rw[Zl7 c q];simp only[Za];by_cases d:Gp n q=0;case neg=>rw[Zm d];rfl
 obtain⟨k,j⟩:=Zcw.1 d;have f:=k.sound;have l:F124 n=Ua true:=by rw[Zbc c,Zi k]
 have b:Z9 q.1 n.1.length=true:=by unfold qB at j;rw[Vf]at j;exact j.1
 rw[Zi d];simp only[Vj,Ze];by_cases hL:L.length=0;.rw[Zi (show (L.length:Int)=0 by omega),Zi hL];cases Ue (q.1=q.2.1)<;>rfl
 rw[Zm (show¬(L.length:Int)=0 by omega),Zm hL];simp only[Ze];rw[JL (n:=L.length) (λi (s:Int)=>s=(i:Int)) (K2 n q L) (λi=>.inr ((i:Int),K2 n q L i)) (.inl ()) ?_ ?_ ?_ (0:Int) rfl]
 .unfold pick
  cases Wu L.length (K2 n q L) with
  |some i=>rfl|none=>
   simp only[Za];show (Vb (F152 n q (L,())) _)=_;rw[ZuO f l hF q (by omega) h];have e:Va .i64 ((L.length:Int) - 1)=((L.length - 1:Nat):Int):=by rw[ZB (by omega) (by omega)];omega
   rw[e];simp only[Za];cases Ue (DA n q L=0)<;>rfl
 .rintro i _ a rfl g;refine⟨((i+1:Nat):Int),?_,rfl⟩;simp only[ZL a,Zf,ZU a (show _<=9223372036854775807 by omega)];rw[ZdE f c.paths b a h];simp only[Za];rw[g];rfl
 .rintro i _ a rfl g;simp only[ZL a,Zf];rw[ZdE f c.paths b a h];simp only[Za];rw[Zm g];rfl
 rintro _ rfl;simp only[JJ,Ze]
open Classical in
theorem Zbv(n:Zh)(q:Zp)(L:V Zx):(Wt n q L).2=0↔Gp n q=0/\((L.length=0/\q.1=q.2.1)\/(L.length≠0/\(∀i,i<L.length->K2 n q L i=0)/\DA n q L=0)):=by
 unfold Wt;by_cases h0:Gp n q=0;case neg=>rw[Zm h0];simp[h0]
 rw[Zi h0];simp only[Vj,Ze];by_cases hL:L.length=0
 .rw[Zi hL];by_cases he:q.1=q.2.1
  .rw[Zi he];simp[h0,hL,he]
  rw[Zm he];simp[h0,hL,he]
 rw[Zm hL];simp only[Ze]
 cases hb:Wu L.length (K2 n q L) with
 |some i=>
  have hi:=Zbz hb;simp only;constructor;.intro e;exact absurd e hi.2
  rintro ⟨_,⟨e,_⟩|⟨_,e,_⟩⟩;.exact absurd e hL
  exact e i hi.1|none=>
  have ha:=W0.1 hb;simp only;by_cases he:DA n q L=0;.rw[Zi he];simp[h0,hL,he];exact ha
  rw[Zm he];simp[h0,hL,he]
end Q
namespace Dm
structure Ride where
 dep:Int
 arr:Int
 zn:Nat
 md:Nat
structure Law where
 len:Nat->Nat
 ok:Nat->Int->Int->Prop
 zok:Nat->Nat->Prop
 mok:Nat->Nat->Prop
 tp:Option Int->Nat->Int->Int
 D:Int
 ok_mono:∀p a b d,a<=b->ok p a d->ok p b d
 zok_mono:∀p z z',z ||| z' =z' ->zok p z' ->zok p z
 mok_or:∀p m m',mok p (m ||| m')↔mok p m/\mok p m'
 tp_none:∀o p d,tp o p d<=tp Ub p d
 tp_disc:∀o p d,tp Ub p d<=tp o p d+D
 tp_nonneg:∀o p d,0<=tp o p d
 tp_late:∀a b p d,a<=b->tp (Ua b) p d<=tp (Ua a) p d
def zns(l:V Ride):Nat:=l.foldr (λr z=>r.zn ||| z) 0
def mds(l:V Ride):Nat:=l.foldr (λr z=>r.md ||| z) 0
def lastO(o:Option Int):V Ride->Option Int|[]=>o|r::l=>lastO (Ua r.arr) l
def lastD(d:Int):V Ride->Int|[]=>d|r::l=>lastD r.dep l
theorem zns_append l m:zns (l++m)=zns l ||| zns m:=by
 induction l with|nil=>simp[zns]|cons r l a=>simp[zns,Vdb]at a⊢;rw[a,Vna]
theorem mds_append l m:mds (l++m)=mds l ||| mds m:=by
 induction l with|nil=>simp[mds]|cons r l a=>simp[mds,Vdb]at a⊢;rw[a,Vna]
theorem lastO_append o l m:lastO o (l++m)=lastO (lastO o l) m:=by
 induction l generalizing o with|nil=>rfl|cons r l a=>exact a _
theorem lastD_append d l m:lastD d (l++m)=lastD (lastD d l) m:=by
 induction l generalizing d with|nil=>rfl|cons r l a=>exact a _
variable (L:Law)
def Cov(p:Nat)(r:Ride)(l:V Ride):Prop:=l.length+1<=L.len p/\L.ok p r.dep (lastD r.dep l)/\L.zok p (zns (r::l))/\L.mok p (mds (r::l))
inductive LS (np:Nat):Option Int->V Ride->Int->Prop
 |nil (o:Option Int):LS np o [] 0
 |cons {o:Option Int}{r:Ride}{l c:V Ride}{p:Nat}{s:Int} (hp:p<np) (hc:Cov L p r l) (h:LS np (lastO Ub (r::l)) c s):LS np o (r::(l++c)) (L.tp o p r.dep+s)
variable {L}{np:Nat}
theorem LS.append{o l m a s}(h:LS L np o l a):LS L np (lastO o l) m s->LS L np o (l++m) (a+s):=by
 induction h with
 |nil o=>intro h;rw[Int.zero_add];exact h|cons e d h f=>
  rename_i o r l c p g;intro b;rw[Vdb,Vtb,Int.add_assoc];refine .cons e d (f ?_);have:lastO o (r::(l++c))=lastO (lastO Ub (r::l)) c:=by show lastO (Ua r.arr) (l++c)=_;rw[lastO_append];rfl
  rw[<-this];exact b
theorem LS.cut{o l s}(h:LS L np o l s):∀B c,l=B++c->
 (∃s0 k,s=s0+k/\LS L np o B s0/\LS L np (lastO o B) c k)\/
 ∃a r f b g p s0 m,B=a++r::f/\c=b++g/\b≠ []/\p<np/\LS L np o a s0/\Cov L p r (f++b)/\LS L np (lastO Ub b) g m/\s=s0+(L.tp (lastO o a) p r.dep+m):=by
 induction h with
 |nil o=>
  intro B c h;obtain⟨rfl,rfl⟩:=List.append_eq_nil_iff.1 h.symm
  exact .inl ⟨0,0,rfl,.nil _,.nil _⟩|cons e d h H=>
  rename_i o r l z p C;intro B c A
  cases B with
  |nil=>
   refine .inl ⟨0,_,(Int.zero_add _).symm,.nil _,?_⟩;rw[<- (show r::(l++z)=c from A)]
   exact .cons e d h|cons K B=>
   obtain⟨rfl,v⟩:=List.cons.inj A;obtain⟨t,rfl,rfl⟩|⟨t,rfl,rfl⟩:=List.append_eq_append_iff.1 v
   ·
    obtain⟨s0,k,rfl,u,D⟩|⟨a,J,f,b,g,I,s0,m,rfl,rfl,x,y,u,w,E,rfl⟩:=H t c rfl
    .refine .inl ⟨L.tp o p r.dep+s0,k,by omega,.cons e d u,?_⟩;have:lastO o (r::(l++t))=lastO (lastO Ub (r::l)) t:=by show lastO (Ua r.arr) (l++t)=_;rw[lastO_append];rfl
     rw[this];exact D
    refine .inr ⟨r::(l++a),J,f,b,g,I,L.tp o p r.dep+s0,m,by simp,rfl,x,y,.cons e d u,w,E,?_⟩;have:lastO o (r::(l++a))=lastO (lastO Ub (r::l)) a:=by show lastO (Ua r.arr) (l++a)=_;rw[lastO_append];rfl
    rw[this];omega
   
   cases t with
   |nil=>
    simp[Vjb]at*;refine .inl ⟨L.tp o p r.dep+0,C,by omega,?_,?_⟩;.have:=LS.cons (o:=o) e d (.nil _);simpa using this
    exact h|cons j t=>
    refine .inr ⟨[],r,B,j::t,z,p,0,C,rfl,rfl,by simp,e,.nil _,d,?_,by simp[lastO]⟩;have:lastO Ub (r::(B++j::t))=lastO Ub (j::t):=by show lastO (Ua r.arr) (B++j::t)=_;rw[lastO_append];rfl
    rw[<-this];exact h
def Least(S:Int->Prop)(b:Int):Prop:=S b/\∀s,S s->b<=s
theorem LS.nonneg{o l s}(h:LS L np o l s):0<=s:=by
 induction h with|nil=>exact Vma _|cons b a h c=>have:=L.tp_nonneg ‹_› ‹_› ‹Ride›.dep;omega
theorem ZnT{S}(f:∀s,S s->0<=s){s}(h:S s):∃b,Least S b:=by
 have:∀n s,S s->s.toNat<=n->∃b,Least S b:=by
  intro n
  induction n with
  |zero=>intro s e g;exact⟨s,e,λt a=>by have:=f t a;have:=f s e;omega⟩|succ n j=>
   intro s e g;by_cases c:∃t,S t/\t<s;.have⟨t,a,d⟩:=c;exact j t a (by have:=f t a;omega)
   exact⟨s,e,λt a=>by
    by_cases d:t<s;.exact absurd ⟨t,a,d⟩ c
    omega⟩
 exact this s.toNat s h (Vo _)
def Dom(L:Law)(np:Nat)(A B:V Ride):Prop:= ∀c s,LS L np Ub (B++c) s->∃a,a<=s/\LS L np Ub (A++c) a
theorem Dom.refl A:Dom L np A A:=λ_ s h=>⟨s,Vma _,h⟩
theorem Dom.trans{A B C}(h:Dom L np A B)(k:Dom L np B C):Dom L np A C:=λc s f=>by have⟨g,a,b⟩:=k c s f;have⟨j,d,e⟩:=h c g b;exact⟨j,Int.le_trans d a,e⟩
theorem Dom.snoc{A B}(h:Dom L np A B) r:Dom L np (A++[r]) (B++[r]):=λc s a=>by rw[Vtb]at a⊢;exact h _ s a
theorem Zve{A B a b}(f:a<=b)(d:L.D=0\/B=[]\/a+L.D<=b\/∃x y,lastO Ub A=Ua x/\lastO Ub B=Ua y/\y<=x){c s}(h:LS L np (lastO Ub B) c s):∃s',a+s' <=b+s/\LS L np (lastO Ub A) c s' :=by
 cases h with
 |nil=>exact⟨0,by omega,.nil _⟩|cons j g h=>
  rename_i r l c p s;refine⟨L.tp (lastO Ub A) p r.dep+s,?_,.cons j g h⟩;have o:=L.tp_none (lastO Ub A) p r.dep;have t:=L.tp_disc (lastO Ub B) p r.dep;obtain v|rfl|u|⟨x,y,k,m,e⟩:=d;.omega
  .show a+(_+s)<=b+(L.tp Ub p r.dep+s);omega
  .omega
  rw[k,m];have:=L.tp_late y x p r.dep e;omega
theorem dom_of{A B}
 (j:∀b,Least (LS L np Ub B) b->∃a,LS L np Ub A a/\a<=b/\(L.D=0\/B=[]\/a+L.D<=b\/∃x y,lastO Ub A=Ua x/\lastO Ub B=Ua y/\y<=x))
 (o:∀t r f p b,B=t++r::f->p<np->Least (LS L np Ub t) b->f.length+1<L.len p->L.zok p (zns (r::f))->L.mok p (mds (r::f))->
   ∃k e g a,A=k++e::g/\LS L np Ub k a/\L.mok p (mds (e::g))/\r.dep<=e.dep/\g.length<=f.length/\a+L.tp (lastO Ub k) p e.dep<=b+L.tp (lastO Ub t) p r.dep/\zns (e::g) ||| zns (r::f)=zns (r::f)):
 Dom L np A B:=by
 intro c s hs;obtain⟨s0,s1,rfl,u,U⟩|⟨t,r,f,d,T,p,s0,S,hB,rfl,m,Q,u,hc,W,rfl⟩:=LS.cut hs B c rfl;.have⟨b,v⟩:=ZnT (λ_ h=>h.nonneg) u;have⟨a,H,I,J⟩:=j b v;have⟨s',h3,h4⟩:=Zve I J U;have:=v.2 s0 u;exact⟨a+s',by omega,H.append h4⟩
 have⟨b,v⟩:=ZnT (λ_ h=>h.nonneg) u;have⟨E,N,R,K⟩:=hc;have a0:1<=d.length:=by cases d with|nil=>exact absurd rfl m|cons=>simp
 rw[Vda]at E;have P:zns (r::(f++d))=zns (r::f) ||| zns d:=zns_append (r::f) d;have em:mds (r::(f++d))=mds (r::f) ||| mds d:=mds_append (r::f) d;rw[em,L.mok_or]at K;obtain⟨k,e,g,a,rfl,H,M,z,a1,a2,O⟩:=o t r f p b hB Q v (by omega) (L.zok_mono p _ _ (by rw[P,<-Vna,Nat.or_self]) R) K.1;have l:lastD e.dep (g++d)=lastD r.dep (f++d):=by
  rw[lastD_append,lastD_append]
  cases d with|nil=>exact absurd rfl m|cons x y=>rfl
 have w:Cov L p e (g++d):=by
  refine⟨by rw[Vda];omega,?_,?_,?_⟩;.rw[l];exact L.ok_mono _ _ _ _ z N
  .refine L.zok_mono p _ _ ?_ R;rw[P,show zns (e::(g++d))=zns (e::g) ||| zns d from zns_append (e::g) d];rw[Vna,<-Vna (zns d),Nat.or_comm (zns d) (zns (r::f)),Vna (zns (r::f)),Nat.or_self,<-Vna,O]
  rw[show mds (e::(g++d))=mds (e::g) ||| mds d from mds_append (e::g) d,L.mok_or];exact⟨M,K.2⟩
 have C:LS L np (lastO Ub k) (e::((g++d)++T)) (L.tp (lastO Ub k) p e.dep+S):=by
  refine .cons Q w ?_;have:lastO Ub (e::(g++d))=lastO Ub d:=by
   show lastO (Ua e.arr) (g++d)=_;rw[lastO_append]
   cases d with|nil=>exact absurd rfl m|cons x y=>rfl
  rw[this];exact W
 refine⟨a+(L.tp (lastO Ub k) p e.dep+S),?_,?_⟩;.have:=v.2 s0 u;omega
 have:=H.append C;simpa using this
end Dm
namespace Q
open Tr Go
abbrev Zav:=Int×Int×Int×Int×Unit
abbrev Zk6:=V UInt8×Int×Int×Int×Int×Int×Unit
abbrev ZeZ:=V Zk6×Int×Int×Int×Unit
abbrev Hb:=V (Option ZeZ×(Zav×Int×V Int×Unit))
inductive YF (S:V Zav->V Int->Prop) (F:ZeZ):V Zav->Hb->Prop
 |start {r0:Zav}{sums:V Int} (h:S [] sums):YF S F [] [(Ua F,r0,0,sums,())]
 |snoc {rs:V Zav}{s:Hb}{r:Zav}{sums:V Int} (hs:YF S F rs s) (hl:rs.length+1<=8) (h:S (rs++[r]) sums):YF S F (rs++[r]) ((Ua F,r,((rs.length+1:Nat):Int),sums,())::s)
theorem YF.head{S F b s}(h:YF S F b s):∃r a t,s=(Ua F,r,(b.length:Int),a,())::t/\S b a/\b.length<=8/\(∀x∈b.getLast?,r=x):=by
 cases h with
 |start h=>exact⟨_,_,_,rfl,h,by simp,by simp⟩|snoc d c h=>
  rename_i b s r a;refine⟨r,a,s,?_,h,by simpa using c,by simp⟩;rw[show (b++[r]).length=b.length+1 by simp]
theorem Zn5{S F a s}(h:YF S F a s):F23 s=Ua a:=by
 have⟨r,d,t,e,_,x,_⟩:=h.head;have key:∀{a}{s},YF S F a s->∀c,∀z,run
  (λb=>
  bif Ue (0<=b.2.2) then
  Vb (Tr.unc b.1) λ_=>
  Vb (Tr.unc b.1) λw=>
  Vb (Zo b.2.2 (Vg b.2.1)) λg=>
  Vb b.2.1[g]? λ_=>
  Vb (Tr.unc b.1) λ_=>
  Vb (Tr.unc b.1) λf=>Ua (.inl (f.2.1,Vyc b.2.1 g w.2.2.1,Va .i64 (b.2.2 - 1)))
  else Ua (.inr b.2.1)) (s,Vq a.length z++c,a.length - 1)=Ua (a++c):=by
  intro a s h
  induction h with
  |start h=>
   intro c z;refine J3 ?_
   simp|snoc A y h v=>
   rename_i a s r d;intro c z;refine(YX (s' :=(s,Vq a.length z++r::c,(a.length:Int) - 1)) ?_).trans ?_
   .have o:Ue (0<=((a++[r]).length:Int) - 1)=true:=Zi (by simp);simp only[o,Zf,Tr.unc,Za];have j:((a++[r]).length) - 1=(a.length:Int):=by simp
    rw[j];have k:Zo a.length (Vq (a++[r]).length z++c).length=Ua a.length:=by have:=Kz (i:=a.length) (n:=(Vq (a++[r]).length z++c).length) (by simp;omega);exact this
    rw[k];have l:(Vq (a++[r]).length z++c)[a.length]? =Ua z:=by rw[List.getElem?_append_left (by simp)];simp
    simp only[Za,l];have m:Vyc (Vq (a++[r]).length z++c) a.length r=Vq a.length z++r::c:=by simp only[Vda,Vqa,Vib,Vrc];rw[List.replicate_succ',Vtb,Vab _ _ (by simp)];simp
    rw[m,ZB (by omega) (by omega)]
   rw[v (r::c) z];simp
 unfold F23;subst e;simp only[Tr.unc,Za];have p:Ue (0<=(a.length:Int)/\a.length<=(a.length:Int)/\a.length<=(Zt:Int))=true:=Zi ⟨by omega,by omega,by have:Zt=549755813888:=rfl;omega⟩;rw[p,show Zw Uc=Ua () from rfl];simp only[Za];have u:Va .i64 (a.length - 1)=a.length - 1:=ZB (by omega) (by omega);rw[u,Vi];have:=key h [] (0,0,0,0,());rw[Vjb,Vjb]at this;refine KK (λr=>r=a) ⟨a,this,rfl⟩ ?_;rintro r rfl;rfl
def Jb(x:Int):Prop:=0<=x/\x<=1000000000000
theorem Zhx{x}(a:0<=x)(b:x<=9223372036854775807):Va .u64 x=x:=by simp[Va,Vp];omega
theorem Znl{a d m}(c:Jb a)(e:Jb d)(f:Jb m):F30 a d m=Ua (Ue (d<=a+m)):=by
 unfold F30;unfold Jb at c e f;by_cases h:d<=a;.rw[Zi h,Zi (by omega:d<=a+m)];rfl
 rw[Zm h,Zhx e.1 (by omega),Zhx c.1 (by omega),Zhx (by omega) (by omega),Zhx f.1 (by omega)];have:Ue (d - a<=m)=Ue (d<=a+m):=by
  by_cases b:d<=a+m;.rw[Zi b,Zi (by omega)]
  rw[Zm b,Zm (by omega)]
 rw[Ze,this];rfl
theorem ZvO x y:imax x y=max x y:=by
 unfold imax;split<;>omega
def Jv(F:ZeZ)(o:Option Int)(p:Zk6)(d:Int):Int:=match o with|none=>p.2.1|some a=>if d<=a+F.2.2.1 then max 0 (p.2.1 - F.2.1) else p.2.1
structure Zk2 (F:ZeZ):Prop where
 disc:Jb F.2.1
 wit:Jb F.2.2.1
 price:∀p∈F.1,Jb p.2.1
def Zk7(r:Zav):Prop:=Jb r.1/\Jb r.2.1
theorem Zqo{S F l s}(h:YF S F l s)(hF:Zk2 F){p}(y:p∈F.1){a:V Zav}(m:∀r∈a,Zk7 r)(C:a.length<=8){i:Nat}{r}(w:a[i]? =Ua r):
 F25 s p a (i:Int)=Ua (Jv F ((a.take i).getLast?.map λx=>x.2.1) p r.1):=by
 obtain⟨r0,o,t,rfl,_,_,_⟩:=h.head;have⟨f,c⟩:=Vsa.1 w;unfold F25;have g:=hF.price p y;have e:=hF.disc
 cases i with
 |zero=>
  simp[Jv]|succ i=>
  have u:Ue (0<((i+1:Nat):Int))=true:=Zi (by omega);have v:Va .i64 (((i+1:Nat)) - 1)=i:=by rw[ZB (by omega) (by omega)];omega
  have A:idx a i=Ua a[i]:=ZC (by omega);have B:idx a ((i+1:Nat))=Ua r:=by rw[ZC f,c]
  have b:(a.take (i+1)).getLast?=Ua a[i]:=by
   have:i<a.length:=by omega
   rw[Vub,Vcb,Vta (by omega),Vnc,Zn (by omega),Vob,Ve this]
  rw[u,Zf,v,b];have j:=m a[i] (Vh _);have k:=m r (c▸Vh _);have z:=Znl j.2 k.1 hF.wit;simp only[A,B,Za,Tr.unc,z,Vbd,Jv];by_cases d:r.1<=(a[i]).2.1+F.2.2.1;.rw[Zi d,Zf,Zn d];unfold Jb at g e;rw[ZB (by omega) (by omega)];exact congrArg Ua (ZvO _ _)
  rw[Zm d,Ze,Zg d]
def Kj(v:Z8):Dm.Ride:=⟨v.1,v.2.1,v.2.2.1.toNat,v.2.2.2.1.toNat⟩
def KP(F:KD)(p:Nat):Xr:=(F.1[p]?).getD p0
theorem ZlQ{z a}(h:z ||| a=a):∀k,Ws k z<=Ws k a
 |0=>Vo _|k+1=>by
  have d:=ZlQ h k;have b:(z >>> k) % 2<=(a >>> k) % 2:=by
   have e:∀y,(y >>> k) % 2=(y.testBit k).toNat:=by
    intro y;rw[Vza,Vfa];by_cases c:y / 2 ^ k % 2=1;all_goals grind
   grind
  show Ws k z+(z >>> k) % 2<=Ws k a+(a >>> k) % 2;omega
theorem ZAe(x:Nat)(h:x<2 ^ 64):Va .i64 x=0↔x=0:=by simp[Va,Vp];omega
theorem ZrW a b c:Tr.qandNot .i64 ((a ||| b:Nat)) c=0↔Tr.qandNot .i64 a c=0/\Tr.qandNot .i64 b c=0:=by
 unfold Tr.qandNot;have d:∀x:BitVec 64,x.toNat<2 ^ 64:=λx=>x.isLt;have e:Vc Vr.bits ((a ||| b:Nat))=Vc Vr.bits a ||| Vc Vr.bits b:=by simp
 have f:∀x,Va .i64 x.toNat=0↔x=0#64:=λx=>by
  rw[ZAe _ (d _)];constructor;.intro h;exact Vka h
  grind
 rw[e];refine(f _).trans (Iff.trans ?_ (and_congr (f _) (f _)).symm);show (Vc 64 a ||| Vc 64 b)&&& ~~~ Vc 64 c=0#64↔Vc 64 a &&& ~~~ Vc 64 c=0#64/\Vc 64 b &&& ~~~ Vc 64 c=0#64;grind
theorem ZgK{F}(hF:Zbi F) p:0<=(KP F p).2.1:=by
 unfold KP
 cases h:F.1[p]? with|none=>exact Vma _|some x=>exact(hF.price x (Vfc h)).1
def Ji F(hF:Zbi F):Dm.Law where
 len p:=(KP F p).2.2.1.toNat
 ok p a d:=d<=a+(KP F p).2.2.2.2.1
 zok p z:=((Ws 62 z:Nat))<=(KP F p).2.2.2.1
 mok p m:=Tr.qandNot .i64 m (KP F p).2.2.2.2.2.1=0
 tp o p d:=Jv F o (KP F p) d
 D:=F.2.1
 ok_mono:=by intro p a b d c e;omega
 zok_mono:=by intro p z g c e;have:=ZlQ c 62;omega
 mok_or:=λp m f=>ZrW m f _
 tp_none:=by
  intro o p d;have:=ZgK hF p;have:=hF.disc
  cases o with|none=>exact Vma _|some a=>simp only[Jv];split<;>omega
 tp_disc:=by
  intro o p d;have:=ZgK hF p;have:=hF.disc
  cases o with|none=>simp only[Jv];omega|some a=>simp only[Jv];split<;>omega
 tp_nonneg:=by
  intro o p d;have:=ZgK hF p
  cases o with|none=>exact this|some a=>simp only[Jv];split<;>omega
 tp_late:=by
  intro a b p d h;have:=ZgK hF p;have:=hF.disc;simp only[Jv];split<;>split<;>omega
structure FO (F:KD):Prop where
 head:GY F=Uc
 many:F.1.length<=16
 nums:∀p∈F.1,Hr p=Uc
theorem JT{F}(h:(Xg F).2=0):FO F:=by
 unfold Xg at h;by_cases c:GY F=Ud;.grind
 rw[Zg c]at h;by_cases a:16<F.1.length;.grind
 rw[Zg a]at h;have f:=Zc0 h;refine⟨by grind,by omega,λp e=>?_⟩;obtain⟨i,d,rfl⟩:=Vv e;have b:=f i d;have⟨_,_,g⟩:=Rf.1 b;grind
theorem FO.heads{F}(h:FO F):(0<=F.2.1/\F.2.1<=1000000)/\(0<=F.2.2.1/\F.2.2.1<=86400)/\0<=F.2.2.2.1/\F.2.2.2.1<=1000000:=by have:=h.head;unfold GY at this;grind
theorem FO.prod{F}(h:FO F){p}(a:p∈F.1):(0<=p.2.1/\p.2.1<=1000000)/\(1<=p.2.2.1/\p.2.2.1<=8)/\(1<=p.2.2.2.1/\p.2.2.2.1<=16)/\(0<=p.2.2.2.2.1/\p.2.2.2.2.1<=86400)/\1<=p.2.2.2.2.2.1/\p.2.2.2.2.2.1<=255:=by have:=h.nums p a;unfold Hr at this;grind
theorem FO.fareOk{F}(h:FO F):Zbi F:=⟨h.heads.1,h.heads.2.2.1,λp a=>(h.prod a).1,h.many⟩
theorem FO.farOk{F}(h:FO F):Zk2 F where
 disc:=by have:=h.heads;exact⟨by omega,by omega⟩
 wit:=by have:=h.heads;exact⟨by omega,by omega⟩
 price:=λp a=>by have:=(h.prod a).1;exact⟨by omega,by omega⟩
def Jp(v:Z8):Prop:=Small v/\Zk7 v
theorem Zq6{a b d}(c:Jb a)(e:Jb b)(f:Jb d):D0 a b d=Ue (b<=a+d):=by have:=Znl c e f;unfold F30 at this;unfold D0;grind
theorem ZkU:∀(s:V Z8) a,s.foldl (λa v=>a ||| v.2.2.1.toNat) a=a ||| Dm.zns (s.map Kj)|[],a=>by simp[Dm.zns]|v::s,a=>by rw[Vcd,ZkU s];show _=a ||| (v.2.2.1.toNat ||| Dm.zns (s.map Kj));grind
theorem ZjL:∀(s:V Z8) a,s.foldl (λa v=>a ||| v.2.2.2.1.toNat) a=a ||| Dm.mds (s.map Kj)|[],a=>by simp[Dm.mds]|v::s,a=>by rw[Vcd,ZjL s];show _=a ||| (v.2.2.2.1.toNat ||| Dm.mds (s.map Kj));grind
theorem ZnP:∀l r,Dm.lastD r.1 (l.map Kj)=(((r::l)[(r::l).length - 1]?).getD R7).1|[],r=>rfl|x::l,r=>by show Dm.lastD x.1 (l.map Kj)=_;rw[ZnP l x];simp
theorem ZfI{F}(h:FO F){p}(s:p<F.1.length){r l}(f:∀v∈r::l,Jp v):Dy (KP F p) (r::l)=Uc↔Dm.Cov (Ji F h.fareOk) p (Kj r) (l.map Kj):=by
 have k:KP F p∈F.1:=by unfold KP;grind
 have m:=h.prod k;have a:(((r::l)[(r::l).length - 1]?).getD R7)∈r::l:=by simp
 have o:=Zq6 (d:=(KP F p).2.2.2.2.1) (f r (by simp)).2.1 (f _ a).2.1 ⟨by omega,by omega⟩;unfold Dy;rw[show (((r::l)[0]?).getD R7)=r from rfl,o];simp only[Vf,KJ];have g:zF (r::l)=Dm.zns (Kj r::l.map Kj):=by have:=ZkU (r::l) 0;rw[Veb]at this;assumption
 have em:mF (r::l)=Dm.mds (Kj r::l.map Kj):=by have:=ZjL (r::l) 0;rw[Veb]at this;assumption
 rw[g,em,<-ZnP];show _↔(l.map Kj).length+1<=((KP F p).2.2.1).toNat/\Dm.lastD r.1 (l.map Kj)<=r.1+(KP F p).2.2.2.2.1/\_/\_;rw[Vn,Vqa];constructor;.rintro ⟨j,b,c,e⟩;exact⟨by omega,c,b,e⟩
 rintro ⟨j,b,c,e⟩;exact⟨by omega,c,b,e⟩
def Xn(S:Int->Prop)(b:Int):Prop:=(b= -1/\∀s,¬S s)\/(0<=b/\Dm.Least S b)
theorem Xn.congr{S T b}(h:Xn S b)(e:∀s,S s↔T s):Xn T b:=by
 have:S=T:=by grind
 grind
theorem Xn.add{S b c}(h:Xn S b)(d:0<=c):Xn (λs=>S s\/s=c) (if b<0\/c<b then c else b):=by
 obtain⟨rfl,h⟩|⟨e,f,g⟩:=h;.refine .inr ⟨d,.inr rfl,?_⟩;grind
 by_cases a:c<b;.rw[Zn (.inr a)];refine .inr ⟨d,.inr rfl,?_⟩;grind
 rw[Zg (by omega)];refine .inr ⟨e,.inl f,?_⟩;grind
theorem ZwF{L np o l s}(h:Dm.LS L np o l s):(l=[]/\s=0)\/∃l0 r b p a,l=l0++r::b/\Dm.LS L np o l0 a/\p<np/\Dm.Cov L p r b/\s=a+L.tp (Dm.lastO o l0) p r.dep:=by
 induction h with
 |nil o=>simp|cons g f h k=>
  rename_i o r l c p s;obtain⟨rfl,rfl⟩|⟨l0,t,b,m,a,rfl,j,e,d,rfl⟩:=k;.exact .inr ⟨[],r,l,p,0,by simp,.nil _,g,f,by simp[Dm.lastO]⟩
  refine .inr ⟨r::(l++l0),t,b,m,L.tp o p r.dep+a,by simp,.cons g f j,e,d,?_⟩;have:Dm.lastO o (r::(l++l0))=Dm.lastO (Dm.lastO Ub (r::l)) l0:=by show Dm.lastO (Ua r.arr) (l++l0)=_;rw[Dm.lastO_append];rfl
  grind
theorem ZwG{L np o l0 b r p a}(c:Dm.LS L np o l0 a)(e:p<np)(d:Dm.Cov L p r b):Dm.LS L np o (l0++r::b) (a+L.tp (Dm.lastO o l0) p r.dep):=by refine c.append ?_;have:=Dm.LS.cons (o:=Dm.lastO o l0) e d (.nil _);grind
theorem ZjJ{F}(h:FO F){o l s}(a:Dm.LS (Ji F h.fareOk) F.1.length o l s):s<=1000000*l.length:=by
 induction a with
 |nil=>simp|cons j f g k=>
  rename_i o r l c p s;have b:=(Ji F h.fareOk).tp_none o p r.dep;have d:(Ji F h.fareOk).tp Ub p r.dep=(KP F p).2.1:=rfl;have e:(KP F p).2.1<=1000000:=by
   have:KP F p∈F.1:=by unfold KP;grind
   exact(h.prod this).1.2
  grind
def ZhR F(h:FO F)(b:V Z8)(a:V Int):Prop:=a.length=9/\∀i,i<=b.length->∃x,a[i]? =Ua x/\Xn (Dm.LS (Ji F h.fareOk) F.1.length Ub ((b.take i).map Kj)) x
abbrev JP F(h:FO F):V Z8->Hb->Prop:=YF (ZhR F h) F
theorem ZaU(l:V Z8):Dm.lastO Ub (l.map Kj)=l.getLast?.map λx=>x.2.1:=by
 have:∀(l:V Z8) o,Dm.lastO o (l.map Kj)=(l.getLast?.map λx=>x.2.1).or o:=by
  intro l
  induction l with
  |nil=>intro o;rfl|cons r l a=>
   intro o;show Dm.lastO (Ua r.2.1) (l.map Kj)=_;grind
 grind
theorem Zif{α β:Type}{o f}{Q:β->Prop}(P:α->Prop)(h:∃r,o=Ua r/\P r)(k:∀r,P r->∃z,f r=Ua z/\Q z):∃z,Vb o f=Ua z/\Q z:=by grind
theorem Zy2{α β:Type}{o}{g:α->β}{Q:α->Prop}(h:∃z,o=Ua z/\∃s,z=g s/\Q s):∃s,o=Ua (g s)/\Q s:=by grind
theorem YF.mono{S T}(c:∀a b,S a b->T a b){F d s}(h:YF S F d s):YF T F d s:=by
 induction h with|start h=>exact .start (c _ _ h)|snoc g e h f=>exact .snoc f e (c _ _ h)
theorem Zdd{n i}(h:i<=n):sliceB n n (Ua i) Ub=Ua (i,n):=by unfold sliceB;grind
theorem Zqu{α:Type}(l:V α) i:Vuc (l.length - i) (Vld i l)=l.drop i:=by rw[Vbc];simp
theorem Xn.cof{S T b}(h:Xn S b)(c:∀s,S s->T s)(e:∀t,T t->∃s,s<=t/\S s):Xn T b:=by
 obtain⟨rfl,h⟩|⟨a,d,f⟩:=h;.exact .inl (by grind)
 exact .inr ⟨a,c _ d,by grind⟩
def D2(F:KD)(l:V Z8)(b:V Int)(i p:Nat)(s:Int):Prop:= ∃a r,b[i]? =Ua a/\0<=a/\l[i]? =Ua r/\Dy (KP F p) (l.drop i)=Uc/\s=a+Jv F ((l.take i).getLast?.map λx=>x.2.1) (KP F p) r.1
theorem Zkr{F} h{j s}(hs:JP F h j s){r:Z8}(hr:∀v∈j++[r],Jp v)(hl:j.length+1<=8):
 ∃s',F22 s r=Ua (s',0)/\JP F h (j++[r]) s' :=by
 have⟨r0,d,t,e,⟨d3,hS⟩,_,_⟩:=hs.head;generalize hL:j++[r]=l at hr;have c2:l.length=j.length+1:=by grind
 have E:∀i,i<l.length->∃x,d[i]? =Ua x/\Xn (Dm.LS (Ji F h.fareOk) F.1.length Ub ((l.take i).map Kj)) x/\x<=8000000:=by
  intro i u;have⟨x,k,m⟩:=hS i (by omega);have:l.take i=j.take i:=by grind
  rw[this];refine⟨x,k,m,?_⟩;obtain⟨rfl,_⟩|⟨_,h3,_⟩:=m;.omega
  have:=ZjJ h h3;grind
 have d1:F.1.length<=16:=h.many;have inner:∀nd,YF (λ_ _=>True) F l nd->∀i,i<l.length->∀D b0,Xn D b0->
  ∃b,run (λf=>
   bif Ue (f.2<(F.1.length:Int)) then
   Vb (idx F.1 f.2) λa0=>
   Vb
   (Vb (Zo (i:Int) (9:Nat)) λb5=>
   Vb d[b5]? λb6=>
   bif Ue (b6<(0:Int)) then Ua Uc
   else
   Vb (sliceB (Vg l) (Vg l) (Ua (i:Int)) Ub) λK=>
   Vb (F83 a0 (Vuc (K.2 - K.1) (Vld K.1 l))) λb7=>Ua !b7)
   λb8=>
   bif b8 then Ua (.inl (f.1,Va .i64 (f.2+(1:Int))))
   else
   Vb (Zo (i:Int) (9:Nat)) λb9=>
   Vb d[b9]? λa1=>
   Vb (F25 nd a0 l (i:Int)) λa2=>
   Vb
   (bif Ue (f.1<(0:Int)) then Ua Uc
   else Ua (Ue (Va .i64 (a1+a2)<f.1)))
   λc1=>
   bif c1 then Ua (.inl (Va .i64 (a1+a2),Va .i64 (f.2+(1:Int))))
   else Ua (.inl (f.1,Va .i64 (f.2+(1:Int))))
   else Ua (.inr f.1)) (b0,0)=Ua b/\Xn (λs=>D s\/∃p,p<F.1.length/\D2 F l d i p s) b:=by
  intro nd A i u D b0 c8;refine Kg F.1.length (λb=>Xn (λs=>D s\/∃p,p<F.1.length/\D2 F l d i p s) b) (λp s=>s.2=(p:Int)/\Xn (λs=>D s\/∃y,y<p/\D2 F l d i y s) s.1) ?_ ?_ _ (by grind)
  .rintro p ⟨b,_⟩ w ⟨rfl,M⟩;left;simp only at M;have hx:idx F.1 (p:Int)=Ua F.1[p]:=ZC w;have d2:KP F p=F.1[p]:=by unfold KP;grind
   have⟨a,ha,c7,c6⟩:=E i u;have o:l.drop i=l[i]::l.drop (i+1):=Vm u;have N:F83 F.1[p] (l.drop i)=Ua (Dy F.1[p] (l.drop i)):=Zmx (λv hv=>(hr v (Vha hv)).1) (by grind) (by grind) (h.prod (Vh w)).2.2.2.1.1;have B:=Zqo A h.farOk (Vh w) (λv hv=>(hr v hv).2) (by omega) (Ve u);simp only[ZL w,Zf,hx,Za,Kz (show i<9 by omega),ha,Zdd (Vqc u),Zqu,N,B,ZU w (by omega)];have skip:(∀s,¬D2 F l d i p s)->Xn (λs=>D s\/∃y,y<p+1/\D2 F l d i y s) b:=λhn=>M.congr (by grind);by_cases H:a<0;.rw[Zi H];refine⟨_,rfl,rfl,skip ?_⟩;rintro s ⟨a',z,k,m,_⟩;grind
   rw[Zm H];simp only[Ze,Za]
   cases I:Dy F.1[p] (l.drop i) with
   |false=>
    refine⟨_,rfl,rfl,skip ?_⟩;rintro s ⟨a',z,_,_,_,k,_⟩
    grind
   |true=>
    simp only[Vj,Ze];have Q:0<=Jv F ((l.take i).getLast?.map λx=>x.2.1) F.1[p] l[i].1:=by have:=(Ji F h.fareOk).tp_nonneg ((l.take i).getLast?.map λx=>x.2.1) p l[i].1;have e2:(Ji F h.fareOk).tp ((l.take i).getLast?.map λx=>x.2.1) p l[i].1=Jv F ((l.take i).getLast?.map λx=>x.2.1) (KP F p) l[i].1:=rfl;grind
    have R:Jv F ((l.take i).getLast?.map λx=>x.2.1) F.1[p] l[i].1<=1000000:=by
     have k:=(h.prod (Vh w)).1;have m:=h.heads.1;unfold Jv;split;all_goals omega
    generalize d4:Jv F ((l.take i).getLast?.map λx=>x.2.1) F.1[p] l[i].1=tp at Q R;have hw:Va .i64 (a+tp)=a+tp:=ZB (by omega) (by omega);rw[hw];have c4:=(M.add (c:=a+tp) (by omega)).congr (T:=λs=>D s\/∃y,y<p+1/\D2 F l d i y s) λs=>by
     constructor
     .rintro ((k|⟨y,k,m⟩) |rfl)
      .grind
      .grind
      exact .inr ⟨p,by omega,a,l[i],ha,by omega,Ve u,by grind,by grind⟩
     rintro (k|⟨y,k,m⟩);.grind
     obtain h3|h3:=Vlb y p;.grind
     have:y=p:=by omega
     subst this;obtain⟨a',z,k1,k2,k3,k4,rfl⟩:=m;grind
    by_cases a3:b<0;.simp_all
    rw[Zm a3];simp only[Ze,Za];by_cases a4:a+tp<b;.simp_all
    rw[Zm a4];grind
  simp
 subst e;have hw:Va .i64 ((j.length:Int)+1)=((j.length+1:Nat):Int):=by rw[ZB (by omega) (by omega)];omega
 have A:YF (λ_ _=>True) F l ((Ua F,r,((j.length+1:Nat):Int),d,())::(Ua F,r0,(j.length:Int),d,())::t):=hL▸ .snoc (hs.mono (by simp)) hl trivial;have J:=Zn5 A;unfold F22;have h8:Ue ((8:Int)<=(j.length:Int))=false:=by grind
 have h9:Zo ((j.length+1:Nat):Int) (9:Nat)=Ua (j.length+1):=Kz (by omega);have O:d[j.length+1]? =Ua d[j.length+1]:=by simp
 simp only[Tr.unc,Za,List.isEmpty_cons,Ze,h8,hw,J,h9,O];refine Zy2 (g:=λs' =>(s',(0:Int))) (Zif (λb=>Xn (λs=>∃i,i<l.length/\∃p,p<F.1.length/\D2 F l d i p s) b) ?_ λb e2=>⟨_,rfl,_,rfl,?_⟩)
 rotate_left
 .show YF (ZhR F h) F l _;rw[<-hL];refine .snoc hs hl ?_;rw[hL];refine⟨by grind,λi u=>?_⟩;by_cases c9:i<l.length
  .grind
  have a6:i=j.length+1:=by omega
  subst a6;refine⟨b,by grind,e2.cof (λs=>?_) λs=>?_⟩<;>rw[Vbc (by omega)]
  .rintro ⟨i,u,p,w,a,z,ha,H,a9,I,rfl⟩;have⟨x,k,m,_⟩:=E i u;rw[ha]at k;cases k;obtain⟨rfl,_⟩|⟨_,m,_⟩:=m
   .omega
   have b1:=Vsa.1 a9;have o:l.drop i=z::l.drop (i+1):=by rw[Vm u,b1.2]
   rw[o]at I;have hc:=(ZfI h w (by grind)).1 I;have:=ZwG m w hc;rw[ZaU]at this;have e3:(l.take i).map Kj++Kj z::(l.drop (i+1)).map Kj=l.map Kj:=by rw[<-Vu,<-o,<-Vs,Vw]
   rw[e3]at this;assumption
  intro a8;obtain⟨k,_⟩|⟨l0,r1,l1,p,a,k,m,w,hc,rfl⟩:=ZwF a8;.simp_all
  have⟨C,d6,c5,k1,k2⟩:=Vya.1 k;have⟨z,m1,W,k3,k4⟩:=Vgc.1 k2;subst W;have a7:l.length=C.length+(m1.length+1):=by grind
  have P:l.take C.length=C:=by grind
  have a5:l.drop C.length=z::m1:=by grind
  have⟨x,b3,S,_⟩:=E C.length (by omega);rw[P,k1]at S;obtain⟨_,d0⟩|⟨b2,d5,b4⟩:=S;.grind
  refine⟨x+Jv F ((l.take C.length).getLast?.map λx=>x.2.1) (KP F p) z.1,?_,C.length,by omega,p,w,x,z,b3,b2,?_,?_,rfl⟩
  .have:=b4 a m;have e5:(Ji F h.fareOk).tp (Dm.lastO Ub l0) p r1.dep=Jv F ((l.take C.length).getLast?.map λx=>x.2.1) (KP F p) z.1:=by rw[P,<-ZaU,k1,<-k3];rfl
   omega
  .grind
  rw[a5];refine(ZfI h w (by grind)).2 ?_;grind
 refine Kg l.length (λb=>Xn (λs=>∃i,i<l.length/\∃p,p<F.1.length/\D2 F l d i p s) b) (λi s=>s.2=(i:Int)/\Xn (λs=>∃U,U<i/\∃p,p<F.1.length/\D2 F l d U p s) s.1) ?_ ?_ _ ⟨rfl,.inl (by simp)⟩;.rintro i ⟨b,_⟩ u ⟨rfl,M⟩;left;simp only[ZL u,Zf,ZU u (by omega)];refine Gn (λb=>Xn (λs=>∃U,U<i+1/\∃p,p<F.1.length/\D2 F l d U p s) b) ?_ (by simp);have⟨b',k,m⟩:=inner _ A i u _ b M;refine⟨b',k,m.congr λs=>?_⟩;grind
 simp
def no1(x:Nat):Nat:=((x / 2 &&& 6148914691236517205)+(x &&& 6148914691236517205)) % 18446744073709551616
def no2(x:Nat):Nat:=((x / 4 &&& 3689348814741910323)+(x &&& 3689348814741910323)) % 18446744073709551616
def no3(x:Nat):Nat:=((x / 16+x) % 18446744073709551616)&&& 1085102592571150095
def R4(m:Nat)(x:Nat):Nat:=(x+x / m) % 18446744073709551616
def Zer(a:Nat):Nat:=(R4 4294967296 (R4 65536 (R4 256 (no3 (no2 (no1 a))))) % 9223372036854775808)&&& 127
theorem ZeP(x:Nat):Va .u64 (x:Int)=((x % 18446744073709551616:Nat):Int):=by simp[Va,Vp,Vca]
theorem Zex{a b:Nat}(c:a<18446744073709551616)(d:b<18446744073709551616):JA .u64 (a:Int) (b:Int)=((a &&& b:Nat):Int):=by
 unfold JA;have:(Vc Vl.bits (a:Int)&&& Vc Vl.bits (b:Int)).toNat=a &&& b:=by rw[Vxc,Vhc,Vhc,Voc,Voc];show a % 18446744073709551616 &&& b % 18446744073709551616=_;rw[Vwb c,Vwb d]
 rw[this,ZeP,Vwb (Vpb Nat.and_le_left c)]
theorem ZfW(x:Nat)(k:Nat):Vkc (x:Int) ((2:Int) ^ k)=((x / 2 ^ k:Nat):Int):=by rw[Vqb _ (by exact Int.le_of_lt (Int.pow_pos (by omega)))];simp
theorem Zw9{x:Nat}(h:x<18446744073709551616):on1 (x:Int)=((no1 x:Nat):Int):=by unfold on1 no1;have e:Min.min (Vwa (1:Int)) (Go.IntKind.bits .u64)=1:=rfl;have a:x / 2 ^ 1<18446744073709551616:=Vpb (Vdd _ _) h;rw[e,ZfW,show (6148914691236517205:Int)=((6148914691236517205:Nat):Int) from rfl,Zex a (by decide),Zex h (by decide),<-Vkb,ZeP]
theorem Zxa{x:Nat}(h:x<18446744073709551616):on2 (x:Int)=((no2 x:Nat):Int):=by unfold on2 no2;have e:Min.min (Vwa (2:Int)) (Go.IntKind.bits .u64)=2:=rfl;have a:x / 2 ^ 2<18446744073709551616:=Vpb (Vdd _ _) h;rw[e,ZfW,show (3689348814741910323:Int)=((3689348814741910323:Nat):Int) from rfl,Zex a (by decide),Zex h (by decide),<-Vkb,ZeP]
theorem Zxb(x:Nat):on3 (x:Int)=((no3 x:Nat):Int):=by unfold on3 no3;have e:Min.min (Vwa (4:Int)) (Go.IntKind.bits .u64)=4:=rfl;rw[e,ZfW,<-Vkb,ZeP,show (1085102592571150095:Int)=((1085102592571150095:Nat):Int) from rfl,Zex (Vxb _ (by decide)) (by decide)]
theorem ZjX{k m:Nat}(a:2 ^ Min.min k 64=m)(x:Nat):on4 (k:Int) (x:Int)=((R4 m x:Nat):Int):=by unfold on4 R4;rw[Vi,show Go.IntKind.bits .u64=64 from rfl,ZfW,<-Vkb,ZeP,a]
theorem Zxd{a:Nat}(h:a<18446744073709551616):Zeq (a:Int)=((Zer a:Nat):Int):=by
 unfold Zeq;have e:no1 a<18446744073709551616:=Vxb _ (by decide);rw[Zw9 h,Zxa e,Zxb,show (8:Int)=((8:Nat):Int) from rfl,ZjX (k:=8) rfl,show (16:Int)=((16:Nat):Int) from rfl,ZjX (k:=16) rfl,show (32:Int)=((32:Nat):Int) from rfl,ZjX (k:=32) rfl];unfold Zer;rw[show (2:Nat) ^ Min.min 32 64=4294967296 from rfl,show (2:Nat) ^ Min.min 16 64=65536 from rfl,show (2:Nat) ^ Min.min 8 64=256 from rfl];generalize g:R4 65536 (R4 256 (no3 (no2 (no1 a))))=Y;have f:R4 4294967296 Y<18446744073709551616:=Vxb _ (by decide);generalize R4 4294967296 Y=X at*;unfold JA;have b:∀x:BitVec 64,(x &&& Vc 64 127).toNat=x.toNat % 128:=λx=>by rw[Vxc,show (Vc 64 127).toNat=2 ^ 7 - 1 from rfl,Vgb]
 have c:(Vc Vr.bits (Va .i64 (X:Int))&&& Vc Vr.bits 127).toNat=X % 128:=by
  refine(b _).trans ?_;have d:(Vc 64 (Va .i64 (X:Int))).toNat=X:=by
   rw[BitVec.toNat_ofInt];simp only[Va,Vp,Vca];simp;split<;>omega
  exact congrArg (· % 128) d
 rw[c,ZB (by omega) (by omega),show X % 9223372036854775808 &&& 127=X % 9223372036854775808 % 128 from Vgb _ 7];omega
def chk:Nat->Nat->Nat->Bool:=λk=>Nat.rec (λb c=>Nat.beq (Zer b) c) (λ_ a b c=>(a (2*b) c).and (a (2*b+1) (c+1))) k
theorem Zto:chk 16 0 0=true:=by kernel_rfl
theorem ZlP(s m:Nat):∀k,k<=m->Ws k (s % 2 ^ m)=Ws k s
 |0,_=>rfl|k+1,h=>by
  rw[Ws,Ws,ZlP s m k (by omega)];have e:∀y:Nat,(y >>> k) % 2=(y.testBit k).toNat:=by
   intro y;rw[Vza,Vfa];have:y / 2 ^ k % 2<2:=Vxb _ (by omega);by_cases a:y / 2 ^ k % 2=1;.simp[a]
   rw[Zm a];simp only[Bool.toNat_false];omega
  rw[e,e,Nat.testBit_mod_two_pow,Zi (show k<m by omega),Vga]
theorem Ztn:∀(k b c z:Nat),chk k b c=Uc->z<2 ^ k->Zer (2 ^ k*b+z)=c+Ws k z:=by
 intro k
 induction k with
 |zero=>
  intro b c z h f;have:z=0:=by simpa using f
  subst this;have:=Nat.eq_of_beq_eq_true (show Nat.beq (Zer b) c=Uc from h)
  simpa[Ws] using this|succ k m=>
  intro b c z h f;have a:(chk k (2*b) c).and (chk k (2*b+1) (c+1))=true:=h;rw[Vf]at a;have j:0<2 ^ k:=Nat.pow_pos (by omega);rw[Vsc]at f;have p:Ws k (z % 2 ^ k)=Ws k z:=ZlP z k k (Vo _);have e:z % 2 ^ k<2 ^ k:=Vxb _ j;have d:2 ^ k* (z / 2 ^ k)+z % 2 ^ k=z:=Nat.div_add_mod z (2 ^ k);rw[Ws,Vfa];by_cases l:z<2 ^ k;.have o:z / 2 ^ k=0:=Nat.div_eq_of_lt l;have:=m (2*b) c z a.1 l;rw[o,<-Nat.add_assoc,Vsc,show 2 ^ k*2*b=2 ^ k* (2*b) by rw[Vmd],this];rfl
  have g:z / 2 ^ k=1:=by
   rw[Nat.div_eq_iff j];constructor<;>omega
  have:=m (2*b+1) (c+1) (z % 2 ^ k) a.2 e;rw[p]at this;rw[g,Nat.mul_one]at d;rw[g,show 2 ^ (k+1) *b+z=2 ^ k* (2*b+1)+z % 2 ^ k by rw[Vsc,Nat.mul_add,Nat.mul_one,Vmd];omega,this];omega
theorem Zxc{z:Nat}(h:z<65536):Zeq (z:Int)=((Ws 62 z:Nat):Int):=by rw[Zxd (by omega)];have:=Ztn 16 0 0 z Zto h;rw[Nat.mul_zero,Vrc,Vrc]at this;rw[this,Zfm,Zfm,ZiB 16 62 z h (by omega)]
theorem Zxe{z:Nat}(h:z<65536):F64 (z:Int)=Ua ((Ws 62 z):Int):=by have:F64 z=Ua (Zeq z):=rfl;rw[this,Zxc h]
abbrev Zar:=Int×Int×Int×Int×Int×Unit
def Dl(F:KD)(l:V Z8)(b:V Int)(i p:Nat)(x:Zar):Prop:=
 ∃a r,l[i]? =Ua r/\b[i]? =Ua a/\0<=a/\(l.length - i<(KP F p).2.2.1/\((Ws 62 (zF (l.drop i)):Nat))<=(KP F p).2.2.2.1/\Tr.qandNot .i64 ((mF (l.drop i):Nat)) (KP F p).2.2.2.2.2.1=0)/\
  x=((p:Int),r.1,l.length - (i:Int),a+Jv F ((l.take i).getLast?.map λx=>x.2.1) (KP F p) r.1,((zF (l.drop i)):Int),())
theorem Zhc{F} h{c s}(hs:JP F h c s)(hr:∀v∈c,Jp v):
 ∃L,F26 s=Ua L/\L.length<=128/\∃r0 b t,s=(Ua F,r0,(c.length:Int),b,())::t/\ZhR F h c b/\∀x,x∈L↔∃i,i<c.length/\∃p,p<F.1.length/\Dl F c b i p x:=by
 obtain⟨r0,b,t,rfl,hS,h8,_⟩:=hs.head;have A:F24 ((Ua F,r0,(c.length:Int),b,())::t)=Ua c:=Zn5 hs;have b3:=h.many;unfold F26;simp only[A,Za,Tr.unc]
 suffices hb:∃L:V Zar,_=Ua L/\(L.length<=16*c.length/\∀x,x∈L↔∃i,i<c.length/\∃p,p<F.1.length/\Dl F c b i p x) by obtain⟨L,e1,e2,e3⟩:=hb;exact⟨L,KK (λx=>x=L) ⟨L,e1,rfl⟩ (λx C=>by subst C;rfl),by omega,_,_,_,rfl,hS,e3⟩
 refine Kg c.length (λL:V Zar=>L.length<=16*c.length/\∀x,x∈L↔∃i,i<c.length/\∃p,p<F.1.length/\Dl F c b i p x) (λi s=>s.2=(i:Int)/\s.1.length<=16*i/\∀x,x∈s.1↔∃f,f<i/\∃p,p<F.1.length/\Dl F c b f p x) ?_ ?_ _ ⟨rfl,by simp,λx=>by simp⟩
 .rintro i ⟨L,_⟩ z ⟨rfl,hL,N⟩;left;simp only at hL N;have⟨a,R,U⟩:=hS.2 i (by omega);have a4:idx b (i:Int)=Ua a:=by have⟨l,e⟩:=Vsa.1 R;rw[ZC l,e]
  have a5:idx c (i:Int)=Ua c[i]:=ZC z;simp only[ZL z,Zf,a4,Za,ZU z (show c.length<=9223372036854775807 by omega)];have skip:(∀p x,¬Dl F c b i p x)->∀x,x∈L↔∃f,f<i+1/\∃p,p<F.1.length/\Dl F c b f p x:=λW x=>by
   rw[N x];constructor;.rintro ⟨f,l,e⟩;exact⟨f,by omega,e⟩
   rintro ⟨f,l,p,e,J⟩;obtain m|m:=Vlb f i;.exact⟨f,m,p,e,J⟩
   have:f=i:=by omega
   exact absurd (this▸J) (W p x)
  by_cases K:a<0;.rw[Zi K];refine⟨_,rfl,rfl,by simp only;omega,skip ?_⟩;rintro p x ⟨a',r',_,e,J,_⟩;rw[R]at e;cases e;omega
  rw[Zm K];simp only[Ze,Zdd (Vqc z),Za,Zqu];have a9:a<=8000000:=by
   obtain⟨rfl,_⟩|⟨_,J,_⟩:=U;.omega
   have:=ZjJ h J;have C:(((c.take i).map Kj).length:Int)<=8:=by rw[Vn,Vcb];omega
   omega
  generalize E:c.drop i=d;have u:∀v∈d,Small v:=λv w=>(hr v (Vha (E▸w))).1;have b0:d.length<=8:=by rw[<-E,Vyb];omega
  refine Gn (λr=>r=(((zF d:Nat):Int),((mF d:Nat):Int))) ?_ ?_
  .refine Kg d.length _ (λi (t:Int×Int×Int)=>t=(((zF (d.take i):Nat):Int),((mF (d.take i):Nat):Int),(i:Int))) ?_ ?_ _ rfl
   .rintro j _ H rfl;left;have w:=u _ (Vh H);have z1:=Zbd (s:=d.take j) λv w=>u v (Voa w);have z2:=ZjM (s:=d.take j) λv w=>u v (Voa w);have ez:zF (d.take (j+1))=zF (d.take j) ||| (d[j]).2.2.1.toNat:=by unfold zF;rw[Vd H,Vz];rfl
    have em:mF (d.take (j+1))=mF (d.take j) ||| (d[j]).2.2.2.1.toNat:=by unfold mF;rw[Vd H,Vz];rfl
    refine⟨_,?_,rfl⟩;rw[ez,em];generalize zF (d.take j)=Z at*;generalize mF (d.take j)=M at*;simp only[ZL H,Zf,ZC H,Za,ZU H (show d.length<=9223372036854775807 by omega)];generalize d[j]=v at*;have⟨⟨a1,a2⟩,b1,b2⟩:=w;have⟨x,C⟩:∃x:Nat,v.2.2.1=(x:Int):=⟨_,(Vra a1).symm⟩;have⟨y,hy⟩:∃y:Nat,v.2.2.2.1=(y:Int):=⟨_,(Vra b1).symm⟩;have w1:Va .u64 (x:Int)=(x:Int):=by simp[Va,Vp,Vca];omega
    have w2:Va .u64 (y:Int)=(y:Int):=by simp[Va,Vp,Vca];omega
    rw[C,hy,w1,w2,ZcX (by omega) (by omega),ZcX (by omega) (by omega)];simp
   rintro _ rfl;simp only[JJ,Ze];rw[Vba];exact⟨_,rfl,rfl⟩
  rintro _ rfl;have B:=Zxe (Zbd u);refine Gn (λS:V Zar=>S.length<=16* (i+1)/\∀x,x∈S↔∃f,f<i+1/\∃p,p<F.1.length/\Dl F c b f p x) ?_ λS e=>⟨_,rfl,rfl,e⟩;have conv:∀x,(x∈L\/∃p,p<F.1.length/\Dl F c b i p x)↔∃f,f<i+1/\∃p,p<F.1.length/\Dl F c b f p x:=λx=>by
   rw[N x];constructor
   .rintro (⟨f,l,e⟩|e)
    .exact⟨f,by omega,e⟩
    exact⟨i,by omega,e⟩
   rintro ⟨f,l,e⟩;obtain m|m:=Vlb f i;.exact .inl ⟨f,m,e⟩
   have:f=i:=by omega
   subst this;exact .inr e
  refine Kg F.1.length _ (λp (s:V Zar×Int)=>s.2=(p:Int)/\s.1.length<=16*i+p/\∀x,x∈s.1↔x∈L\/∃g,g<p/\Dl F c b i g x) ?_ ?_ _ ⟨rfl,by simpa using hL,λx=>by simp⟩
  .rintro p ⟨M,_⟩ O ⟨rfl,T,k⟩;left;simp only at T k;have C:idx F.1 (p:Int)=Ua F.1[p]:=ZC O;have Q:KP F p=F.1[p]:=by unfold KP;rw[KE O]
   have P:KP F p∈F.1:=Q▸Vh O;have a0:Va .i64 ((c.length:Int) - (i:Int))=(c.length:Int) - (i:Int):=ZB (by omega) (by omega);have o:=Zqo hs h.farOk P (λv w=>(hr v w).2) h8 (Ve z);rw[<-Q]at C;have a7:0<=Jv F ((c.take i).getLast?.map λx=>x.2.1) (KP F p) c[i].1:=(Ji F h.fareOk).tp_nonneg ((c.take i).getLast?.map λx:Z8=>x.2.1) p c[i].1;have a8:Jv F ((c.take i).getLast?.map λx=>x.2.1) (KP F p) c[i].1<=1000000:=by
    have l:=(h.prod P).1;have e:=h.heads.1;unfold Jv;split;.exact l.2
    split<;>omega
   have a3:Va .i64 (a+Jv F ((c.take i).getLast?.map λx=>x.2.1) (KP F p) c[i].1)=a+Jv F ((c.take i).getLast?.map λx=>x.2.1) (KP F p) c[i].1:=ZB (by omega) (by omega);simp only[ZL O,Zf,C,Za,a0,B,a5,o,a3,Zlv,ZU O (show F.1.length<=9223372036854775807 by omega)];have no:¬((c.length:Int) - (i:Int)<(KP F p).2.2.1/\((Ws 62 (zF d):Nat):Int)<=(KP F p).2.2.2.1/\Tr.qandNot .i64 ((mF d:Nat):Int) (KP F p).2.2.2.2.2.1=0)->∀x,x∈M↔x∈L\/∃g,g<p+1/\Dl F c b i g x:=λW x=>by
    rw[k x];refine or_congr Vnd ⟨λ⟨g,l,e⟩=>⟨g,by omega,e⟩,λ⟨g,l,e⟩=>?_⟩;obtain m|m:=Vlb g p;.exact⟨g,m,e⟩
    have:g=p:=by omega
    subst this;have⟨a',r',_,_,_,h5,_⟩:=e;rw[E]at h5;exact absurd h5 W
   by_cases D:(c.length:Int) - (i:Int)<(KP F p).2.2.1;case neg=>
    rw[Zm D];exact⟨_,rfl,rfl,by simp only;omega,no λh=>D h.1⟩
   by_cases I:((Ws 62 (zF d):Nat):Int)<=(KP F p).2.2.2.1;case neg=>
    rw[Zi D,Zm I];exact⟨_,rfl,rfl,by simp only;omega,no λh=>I h.2.1⟩
   by_cases c3:Tr.qandNot .i64 ((mF d:Nat):Int) (KP F p).2.2.2.2.2.1=0;case neg=>
    rw[Zi D,Zi I,Zm c3];exact⟨_,rfl,rfl,by simp only;omega,no λh=>c3 h.2.2⟩
   rw[Zi D,Zi I,Zi c3];have a6:(Zt:Nat)=549755813888:=rfl;simp only[Zf,Za];rw[XM (by simp;omega)];refine⟨_,rfl,rfl,by simp;omega,λx=>?_⟩;rw[Vy,k x,Vx,or_assoc];refine or_congr Vnd ⟨?_,?_⟩
   .rintro (⟨g,l,e⟩|rfl)
    .exact⟨g,by omega,e⟩
    exact⟨p,by omega,a,c[i],Ve z,R,by omega,by rw[E];exact⟨D,I,c3⟩,by rw[E]⟩
   rintro ⟨g,l,e⟩;obtain m|m:=Vlb g p;.exact .inl ⟨g,m,e⟩
   have:g=p:=by omega
   subst this;obtain⟨a',r',k1,k2,_,_,rfl⟩:=e;rw[R]at k2;cases k2;rw[Ve z]at k1;cases k1;rw[E];exact .inr rfl
  rintro ⟨M,_⟩ ⟨rfl,T,k⟩;simp only at T k;exact⟨M,by simp only[JJ,Ze],by omega,λx=>(k x).trans (conv x)⟩
 rintro ⟨L,_⟩ ⟨rfl,hL,N⟩;exact⟨L,by simp only[JJ,Ze],hL,N⟩
theorem ZmN{α}{f}(b:∀x,f x x=Uc):∀l:V α,Xf.eqDs f l l=Uc|[]=>rfl|a::l=>by simp[Xf.eqDs];exact⟨b a,ZmN b l⟩
theorem ZyJ{F:KD}(h:F.1.length<=4096):F29 (Ua F) (Ua F)=Ua true:=by
 show Qs.sameF (Ua F) (Ua F)=Ua Uc;have e:Xf KV F F=true:=by
  have a:∀p,Xf Xc p p=true:=λp=>by simp[Xf]
  simp only[Xf,Vf];exact⟨ZmN a _,by simp⟩
 simp[Qs.sameF,e,Zi h,Bool.and_self]
theorem ZkV l:zF l=Dm.zns (l.map Kj):=by have:=ZkU l 0;rw[Veb]at this;exact this
theorem Zn9 l:mF l=Dm.mds (l.map Kj):=by have:=ZjL l 0;rw[Veb]at this;exact this
theorem ZrX{a b:Nat}(e:a<65536)(g:b<65536)(h:Tr.qandNot .u64 a b=0):a ||| b=b:=by
 unfold Tr.qandNot at h;have c:=(Vc Vl.bits a &&& ~~~ Vc Vl.bits b).isLt;have f:(Vc Vl.bits a &&& ~~~ Vc Vl.bits b).toNat=0:=by generalize (Vc Vl.bits a &&& ~~~ Vc Vl.bits b).toNat=N at*;have c:N<2 ^ 64:=c;simp[Va,Vp]at h;omega
 have d:(Vrd 64 a &&& ~~~ Vrd 64 b)=0#64:=by apply Vka;assumption
 apply Nat.eq_of_testBit_eq;intro i;by_cases j:i<64;.have:=congrArg (λv=>v.getLsbD i) d;grind
 have:a.testBit i=false:=Nat.testBit_lt_two_pow (Nat.lt_of_lt_of_le e (show 2 ^ 16<=2 ^ i from Nat.pow_le_pow_right (by omega) (by omega)));grind
abbrev Zrm:=Int×Int×Int×Int×Z8×Unit
abbrev Z6:=Zrm×Int×Int×Int×Hb×V Zx×Unit
def Zj(n:Zh)(i:Nat):V Jj:=(rn n i).2.2.2.2.2.2.2.1
def Zc(n:Zh)(i c:Nat):Jj:=cl (Zj n i) c
def Ys(n:Zh)(i:Nat):Bool:=(rn n i).2.2.2.2.2.2.1
def Kc(s t a b:Int):Zx:=(Ud,0,0,0,s,t,a,b,Ud,())
def Zy(n:Zh)(i b c:Nat)(st:Bool):Zx:=(Uc,i,b,c,(Zc n i b).1,(Zc n i c).1,(Zc n i b).2.2.1,(Zc n i c).2.1,st,())
def isLink(n:Zh)(i c j d:Nat)(st:Bool):Prop:=((i:Int),(c:Int),(j:Int),(d:Int),st,())∈n.2.2.2.1
structure KY (n:Zh):Prop where
 sound:WI n
 change:∀s:Int,0<=s->s<(n.1.length:Int)->0<=(WN n s).2.2.2.1/\(WN n s).2.2.2.1<=3600
 path:∀p∈n.2.2.2.2.1,(0<=p.1/\p.1<(n.1.length:Int))/\(0<=p.2.1/\p.2.1<(n.1.length:Int))/\p.1≠p.2.1/\1<=p.2.2.1/\p.2.2.1<=14400
 link:∀x∈n.2.2.2.1,∃(i c j d:Nat) (st:Bool),x=((i:Int),(c:Int),(j:Int),(d:Int),st,())/\i<n.2.2.1.length/\j<n.2.2.1.length/\i≠j/\c<(Zj n i).length/\d<(Zj n j).length/\
  (Zc n i c).1=(Zc n j d).1/\(st=Uc->c+1=(Zj n i).length/\d=0)
theorem ZdJ{n i} a:Zj n i=(n.2.2.1[i]).2.2.2.2.2.2.2.1:=by unfold Zj rn;grind
theorem Zbu{n i c} a:Zc n i c=(Zj n i)[c]:=by unfold Zc cl;grind
theorem Zwx{n i}(h:W1 n i=0):(cl (rn n (lk n i).1).2.2.2.2.2.2.2.1 (lk n i).2.1).1=(cl (rn n (lk n i).2.2.1).2.2.2.2.2.2.2.1 (lk n i).2.2.2.1).1/\
 ((lk n i).2.2.2.2.1=Uc->(lk n i).2.1+1=((rn n (lk n i).1).2.2.2.2.2.2.2.1.length)/\(lk n i).2.2.2.1=0):=by
 unfold W1 at h;simp at h;by_cases a:HH n (lk n i)=Uc;.grind
 by_cases b:GS n (lk n i)=Uc;all_goals grind
theorem Whole.ok{n}(h:Whole n):KY n:=by
 refine⟨h.sound,λs D f=>?_,λp z=>?_,λx B=>?_⟩
 .have s0:=h.s;unfold Dd at s0;split at s0
  .omega
  obtain⟨j,rfl⟩:∃j:Nat,s=j:=⟨s.toNat,by omega⟩;have m:j<n.1.length:=by omega
  have o:=Zc0 s0 j m;have:=(Rf.1 o).2.2;unfold WN;grind
 .obtain⟨j,m,rfl⟩:=Vv z;have⟨f,l,_⟩:=ZbT (W0.1 h.q j m);unfold Hu at f;unfold Hv at l;grind
 obtain⟨j,m,rfl⟩:=Vv B;have o:=W0.1 h.g j m;have⟨f,l,_⟩:=ZbN o;have⟨r,t⟩:=Zwx o;have e:lk n j=n.2.2.2.1[j]:=by unfold lk;grind
 rw[e]at f l r t;generalize n.2.2.2.1[j]=x at*;unfold HH at f;unfold GS at l;unfold Z9 at f l;simp[Vpa,Vk,decide_eq_false_iff_not,Vf,KJ]at f l;have⟨u,v,w,y,C,E⟩:=x;simp at f l r t;obtain⟨i,rfl⟩:∃i:Nat,u=i:=⟨u.toNat,by omega⟩;obtain⟨c,rfl⟩:∃i:Nat,v=i:=⟨v.toNat,by omega⟩;obtain⟨k,rfl⟩:∃i:Nat,w=i:=⟨w.toNat,by omega⟩;obtain⟨d,rfl⟩:∃i:Nat,y=i:=⟨y.toNat,by omega⟩;refine⟨i,c,k,d,C,rfl,by omega,by omega,by omega,?_,?_,r,λA=>?_⟩;.unfold Zj;omega
 .unfold Zj;omega
 have⟨a,b⟩:=t A;unfold Zj;omega
theorem KY.isLink{n}(h:KY n){i c j d st}(a:isLink n i c j d st):i<n.2.2.1.length/\j<n.2.2.1.length/\i≠j/\c<(Zj n i).length/\d<(Zj n j).length/\(Zc n i c).1=(Zc n j d).1/\(st=Uc->c+1=(Zj n i).length/\d=0):=by have⟨l,f,m,g,b,e,k⟩:=h.link _ a;grind
theorem KY.stop{n}(h:KY n){i c}(a:i<n.2.2.1.length)(b:c<(Zj n i).length):0<=(Zc n i c).1/\(Zc n i c).1<n.1.length:=by rw[Zbu b];refine h.sound.call _ (Vh a) _ ?_;simp only[ZdJ a];simp
theorem KY.time{n}(h:KY n){i c}(b:i<n.2.2.1.length)(a:c<(Zj n i).length):0<=(Zc n i c).2.1/\(Zc n i c).2.1<=(Zc n i c).2.2.1/\(Zc n i c).2.2.1<=3155932800:=by have d:=h.sound.time _ (Vh b);rw[Zbu a];simp[ZdJ b]at a⊢;have:=d c a;omega
def ZA(q:Zp):Zp:=(q.1,q.2.1,q.2.2.1,q.2.2.2.1,q.2.2.2.2.1,q.2.2.2.2.2.1,Ud,Ud,0,q.2.2.2.2.2.2.2.2.2)
theorem ZxT{k q}(h:qB k q=Uc):qB k (ZA q)=true:=by unfold qB at h⊢;simp[KJ]at h⊢;have⟨a,b,c,d,e,_,f⟩:=h;exact⟨a,b,c,d,e,⟨Vma 0,by show 0<=255;decide⟩,f⟩
theorem Zc6{n q x}:DM n q x=0↔((cl (K6 n x) x.2.2.1).1=x.2.2.2.2.1/\(cl (K6 n x) x.2.2.2.1).1=x.2.2.2.2.2.1)/\((cl (K6 n x) x.2.2.1).2.2.1=x.2.2.2.2.2.2.1/\(cl (K6 n x) x.2.2.2.1).2.1=x.2.2.2.2.2.2.2.1)/\Zam n q (rn n x.2.1)=Uc/\(Kq x=Uc\/(cl (K6 n x) x.2.2.1).2.2.2.1=Uc/\YV n q x.2.2.2.2.1=Uc):=by
 unfold DM;rw[KQ (by omega),KQ (by omega),KQ (by omega),KQ (by omega),KQ (by omega),KQ (by omega),KQ (by omega),KQ (by omega)];unfold Zam Tr.useB Zgs;rw[Vpa,Vpa];simp only[Vk,KJ];generalize (rn n x.2.1).2.2.2.2.2.2.1=b;generalize (rn n x.2.1).2.2.2.2.2.1=c;generalize q.2.2.2.2.2.2.1=d;generalize (Za5 n (rn n x.2.1)).2.2.1=e;generalize q.2.2.2.2.2.2.2.1=f;generalize (Ue (q.2.2.2.2.2.2.2.2.1=0) ||decide (JA .i64 (Vkc q.2.2.2.2.2.2.2.2.1 (2 ^ min (Vwa (Za5 n (rn n x.2.1)).2.1) 64)) 1=1))=g;generalize Kq x=a;generalize (cl (K6 n x) x.2.2.1).2.2.2.1=h;generalize YV n q x.2.2.2.2.1=j;have key:((b=Ud/\(d&& !c)=Ud/\(f&& !e)=Ud/\(!g)=Ud/\(!a&& !h)=Ud/\(!a&& !j)=Ud/\0=0)↔((!b&&((c|| !d)&&((e|| !f)&&g)))=Uc/\(a=Uc\/h=Uc/\j=Uc))):=by
  cases b<;>cases c<;>cases d<;>cases e<;>cases f<;>cases g<;>cases a<;>cases h<;>cases j<;>simp
 exact and_congr_right λ_=>and_congr_right λ_=>by
  first
  |exact key|(simp[Vk]at key⊢;exact key)
theorem ZtP n q:Jm n q c0=c0:=by
 unfold Jm;split<;>rfl
theorem Zio n q l a:cl (l.map (Jm n q)) a=Jm n q (cl l a):=by
 unfold cl;rw[Vla]
 cases l[a.toNat]? with|none=>exact(ZtP n q).symm|some c=>rfl
theorem Ziq n q c:Jm n q c=(c.1,c.2.1,c.2.2.1,c.2.2.2.1&&YV n q c.1,c.2.2.2.2.1&&YV n q c.1,()):=by
 unfold Jm
 cases h:YV n q c.1 with|true|false=>simp
theorem Zfs n q x:K6 (Kl n q) x=(K6 n x).map (Jm n q):=ZpG n q x.2.1
theorem ZmT n q x:KM (Kl n q) x=KM n x:=by have a:(Kl n q).2.2.1.length=n.2.2.1.length:=Vn ..;unfold KM;rw[Zfs,Vn,a]
theorem ZpF{n q x}(a:KM n x=Uc):rn (Kl n q) x.2.1=Yq n q (rn n x.2.1):=by
 unfold KM at a;rw[Vf]at a;have h:=a.1;unfold Z9 at h;simp[Vf]at h;have b:x.2.1.toNat<n.2.2.1.length:=by omega
 unfold rn;show ((n.2.2.1.map (Yq n q))[x.2.1.toNat]?).getD u0=_;rw[Vla,Ve b];rfl
theorem ZgD n q s:YV n (ZA q) s=true:=by unfold YV ZA;simp
theorem ZqM n q r:Zam n (ZA q) r= !r.2.2.2.2.2.2.1:=by unfold Zam Tr.useB ZA;simp
theorem Zye{n q x}(c:KM n x=Uc):DM (Kl n q) (ZA q) x=0↔DM n q x=0:=by rw[Zc6,Zc6,Zfs,Zio,Zio,Ziq,Ziq,ZpF c,ZqM,ZgD];have b:(Yq n q (rn n x.2.1)).2.2.2.2.2.2.1= !Zam n q (rn n x.2.1):=rfl;rw[b,Bool.not_not];refine and_congr_right λa=>and_congr_right λ_=>and_congr_right λ_=>?_;rw[a.1];simp
theorem ZeL{n q x}:H4 n q x=0↔(n.2.2.2.2.1.any λp=>HQ x p&&GW q p)=true:=by
 unfold H4
 cases (n.2.2.2.2.1.any λp=>HQ x p&&GW q p) with|true=>simp|false=>cases n.2.2.2.2.1.any (HQ x)<;>simp
theorem ZzW{n q x}:H4 (Kl n q) (ZA q) x=0↔H4 n q x=0:=by
 rw[ZeL,ZeL];have a:∀p,GW (ZA q) p=true:=by intro p;unfold GW ZA;simp
 show ((GD n q).any λp=>HQ x p&&GW (ZA q) p)=Uc↔_;simp only[a];unfold GD GW
 cases q.2.2.2.2.2.2.1 with|true=>simp only[if_true];simp|false=>simp
theorem Zwl{n q x}:W7 (Kl n q) (ZA q) x=0↔W7 n q x=0:=by
 have b:∀n q,W7 n q x=0↔(!Z9 x.2.2.2.2.1 n.1.length|| !Z9 x.2.2.2.2.2.1 n.1.length)=Ud/\(bif x.1 then !KM n x else !Ue (x.2.1=0) || (!Ue (x.2.2.1=0) || (!Ue (x.2.2.2.1=0) ||Kq x)))=Ud/\(!Ue (0<=x.2.2.2.2.2.2.1/\x.2.2.2.2.2.2.1<=3155932800) || !Ue (0<=x.2.2.2.2.2.2.2.1/\x.2.2.2.2.2.2.2.1<=3155932800))=Ud/\(bif x.1 then DM n q x else H4 n q x)=0:=by intro n q;unfold W7;rw[KQ (by omega),KQ (by omega),KQ (by omega)]
 rw[b,b,ZmT];refine and_congr_right λ_=>and_congr_right λa=>and_congr_right λ_=>?_
 cases c:x.1 with
 |true=>
  rw[c]at a
  exact Zye (by simpa using a)|false=>exact ZzW
theorem ZlF{n q L i}:K2 (Kl n q) (ZA q) L i=0↔K2 n q L i=0:=by
 have e:∀n q,K2 n q L i=0↔W7 n q (lg L i)=0/\Gz n q L i=0/\(XW L i=Uc->Yp n q (lg L i)=0):=by
  intro n q;unfold K2;by_cases a:W7 n q (lg L i)=0
  .by_cases b:Gz n q L i=0
   .cases XW L i<;>simp[a,b]
   rw[Zi a,Zm b];simp[b]
  simp[a]
 have d:∀n q x,Yp n q x=0↔(cl (K6 n x) x.2.2.2.1).2.2.2.2.1=Uc/\YV n q x.2.2.2.2.2.1=true:=by intro n q x;unfold Yp;rw[KQ (by omega),KQ (by omega)];simp
 rw[e,e];refine(and_congr Zwl Vnd).trans (and_congr_right λa=>and_congr Vnd ?_);refine imp_congr_right λc=>?_;have h:(lg L i).1=true:=by unfold XW at c;rw[Vf]at c;exact c.1
 have⟨_,_,f,_⟩:=ZnV a;have g:=(Zc6.1 (f h).2).1.2;rw[d,d,Zfs,Zio,Ziq,ZgD];simp[Vf];rw[g];simp
variable {n:Zh}{q:Zp}
theorem Zgl{n q x}:W7 n q x=0↔(Z9 x.2.2.2.2.1 n.1.length=Uc/\Z9 x.2.2.2.2.2.1 n.1.length=Uc)/\(bif x.1 then !KM n x else !Ue (x.2.1=0) || (!Ue (x.2.2.1=0) || (!Ue (x.2.2.2.1=0) ||Kq x)))=Ud/\
 ((0<=x.2.2.2.2.2.2.1/\x.2.2.2.2.2.2.1<=3155932800)/\(0<=x.2.2.2.2.2.2.2.1/\x.2.2.2.2.2.2.2.1<=3155932800))/\(bif x.1 then DM n q x else H4 n q x)=0:=by
 unfold W7;rw[KQ (by omega),KQ (by omega),KQ (by omega)];simp[Vk]
theorem ZvP{a m:Nat}:Z9 a m=Uc↔a<m:=by unfold Z9;rw[Vf,KJ,KJ];omega
theorem R2{a m}:Z9 a m=Uc↔0<=a/\a<m:=by unfold Z9;rw[Vf,KJ,KJ]
theorem ZqL n q(i:Nat):Zam n (ZA q) (rn n i)=Uc↔Ys n i=false:=by
 rw[ZqM];unfold Ys;cases (rn n i).2.2.2.2.2.2.1<;>simp
def Zcb(n:Zh)(i b c:Nat)(st:Bool):Prop:=i<n.2.2.1.length/\b<c/\c<(Zj n i).length/\Ys n i=Ud/\(st=Uc\/(Zc n i b).2.2.2.1=Uc)
theorem Zgm(h:KY n){x}:(W7 n (ZA q) x=0/\x.1=Uc)↔∃i b c st,x=Zy n i b c st/\Zcb n i b c st:=by
 rw[Zgl];constructor
 .rintro ⟨⟨a,f,g,d⟩,m⟩;rw[m]at f d;simp[Zf,Vk]at f d;have k:=f;unfold KM K6 at k;simp[Vf,KJ,R2]at k;have⟨⟨E,H⟩,I,J,K⟩:=k;have⟨⟨p,r⟩,⟨s,t⟩,v,e⟩:=Zc6.1 d;have⟨W,z,w,y,T,U,S,R,xs,u⟩:=x;simp at m a f g d E H I J K p r s t v e;obtain⟨i,rfl⟩:∃i:Nat,z=i:=⟨z.toNat,by omega⟩;obtain⟨b,rfl⟩:∃i:Nat,w=i:=⟨w.toNat,by omega⟩;obtain⟨c,rfl⟩:∃i:Nat,y=i:=⟨y.toNat,by omega⟩;subst m;have M:c<(Zj n i).length:=by unfold Zj;omega
  refine⟨i,b,c,xs,?_,by omega,by omega,M,(ZqL n q i).1 v,?_⟩;.have A:(Zc n i b).1=T:=p;have B:(Zc n i c).1=U:=r;have C:(Zc n i b).2.2.1=S:=s;have D:(Zc n i c).2.1=R:=t;unfold Zy;rw[A,B,C,D]
  obtain e|e:=e;.exact .inl e
  exact .inr e.1
 rintro ⟨i,b,c,st,rfl,a,f,g,d,j⟩;have o:b<(Zj n i).length:=by omega
 have N:=h.stop a o;have O:=h.stop a g;have P:=h.time a o;have Q:=h.time a g;have l:KM n (Zy n i b c st)=true:=by unfold KM K6;simp[Vf,KJ];have:c<(rn n i).2.2.2.2.2.2.2.1.length:=g;exact⟨ZvP.2 a,by show 0<=(b:Int);omega,by show (b:Int)<(c:Int);omega,by show (c:Int)<_;show (c:Int)<((rn n (i:Int)).2.2.2.2.2.2.2.1.length:Int);omega⟩
 refine⟨⟨⟨R2.2 N,R2.2 O⟩,?_,⟨⟨by show (0:Int)<=(Zc n i b).2.2.1;omega,P.2.2⟩,⟨Q.1,by show (Zc n i c).2.1<=_;omega⟩⟩,?_⟩,rfl⟩;.show (!KM n (Zy n i b c st))=Ud;rw[l];rfl
 refine Zc6.2 ⟨⟨rfl,rfl⟩,⟨rfl,rfl⟩,(ZqL n q i).2 d,?_⟩;obtain j|j:=j;.exact .inl j
 exact .inr ⟨j,ZgD ..⟩
theorem Zgn(h:KY n){x}:(W7 n (ZA q) x=0/\x.1=Ud)↔∃p∈n.2.2.2.2.1,∃a,x=Kc p.1 p.2.1 a (a+p.2.2.1)/\0<=a/\a+p.2.2.1<=3155932800:=by
 rw[Zgl];constructor;.rintro ⟨⟨f,d,m,g⟩,j⟩;rw[j]at d g;simp[KJ]at d g;have o:=ZeL.1 g;have⟨p,e,k⟩:=Vt.1 o;rw[Vf]at k;have b:=k.1;unfold HQ at b;simp[KJ]at b;have⟨y,w,s,t,v,z,l,r,xs,u⟩:=x;simp at j f d m b;have c:=h.path p e;rw[ZB (by omega) (by omega)]at b;obtain⟨rfl,rfl,rfl,rfl⟩:=d;subst j;refine⟨p,e,l,?_,by omega,by omega⟩;unfold Kc;rw[<-b.1,<-b.2.1,show r=l+p.2.2.1 by omega]
 rintro ⟨p,e,a,rfl,f,d⟩;have c:=h.path p e;refine⟨⟨⟨R2.2 c.1,R2.2 c.2.1⟩,rfl,⟨⟨f,by show a<=_;omega⟩,⟨by show 0<=a+p.2.2.1;omega,d⟩⟩,?_⟩,rfl⟩;show H4 n (ZA q) _=0;rw[ZeL];refine Vt.2 ⟨p,e,?_⟩;unfold HQ GW ZA Kc;simp only[Vf,KJ,Vnb,Vqd];exact⟨⟨trivial,trivial,by rw[ZB (by omega) (by omega)];omega⟩,trivial⟩
theorem Zn2(h:KY n){i b c j d e st f g}:Gy n (Zy n i b c st) (Zy n j d e f) g=Uc↔isLink n i c j d g:=by
 unfold Gy;rw[Vt];constructor;.rintro ⟨x,s,a⟩;unfold ZaX Zy at a;simp[Kp]at a;have⟨k,l,m,o,p⟩:=a;unfold isLink;rw[<-k,<-l,<-m,<-o,<-p];exact s
 intro r;refine⟨_,r,?_⟩;unfold ZaX Zy;simp
theorem Zf7 n s t a b s' e c d:WV n (Kc s t a b) (Kc s' e c d)≠0:=by unfold WV Kc;intro h;rw[KQ (by omega)]at h;have⟨_,h⟩:=h;simp at h
theorem Zd3 n s t a b j d e:WV n (Kc s t a b) (Zy n j d e Uc)≠0:=by unfold WV Kc Zy;intro h;rw[KQ (by omega)]at h;have⟨_,h⟩:=h;simp[Kq]at h
theorem Zd1(h:KY n){i b c j d e st}:WV n (Zy n i b c st) (Zy n j d e Uc)=0↔(Zc n i c).1=(Zc n j d).1/\isLink n i c j d Uc/\(Zc n i c).2.1<=(Zc n j d).2.2.1:=by
 unfold WV;have f:Gy n (Zy n i b c st) (Zy n j d e Uc) Uc=Uc↔isLink n i c j d true:=Zn2 h;generalize Gy n (Zy n i b c st) (Zy n j d e Uc) Uc=B at*;unfold Zy Kq;rw[KQ (by omega),KQ (by omega)];rw[<-f]
 cases B with
 |false=>simp|true=>
  simp only[Vk,KJ];refine and_congr_right λ_=>?_;by_cases a:(Zc n j d).2.2.1<(Zc n i c).2.1;.rw[Zi a];simp;omega
  rw[Zm a];simp;omega
theorem Zjf{i b c st s t a z}:WV n (Zy n i b c st) (Kc s t a z)=0↔(Zc n i c).1=s/\a=(Zc n i c).2.1:=by
 unfold WV Zy Kc Kq;rw[KQ (by omega)];simp only[Vk,KJ];refine and_congr_right λ_=>?_;by_cases d:a=(Zc n i c).2.1;.simp[d]
 simp[d]
theorem Zd2{j d e s t a z}:WV n (Kc s t a z) (Zy n j d e Ud)=0↔t=(Zc n j d).1/\z<=(Zc n j d).2.2.1:=by
 unfold WV Zy Kc Kq;rw[KQ (by omega)];simp only[Vk,KJ];refine and_congr_right λ_=>?_;by_cases b:(Zc n j d).2.2.1<z;.rw[Zi b];simp;omega
 rw[Zm b];simp;omega
theorem Zje(h:KY n){i b c j d e st}(k:i<n.2.2.1.length)(g:c<(Zj n i).length):WV n (Zy n i b c st) (Zy n j d e Ud)=0↔(Zc n i c).1=(Zc n j d).1/\
 ((Zc n i c).2.1+(WN n (Zc n i c).1).2.2.2.1<=(Zc n j d).2.2.1\/isLink n i c j d Ud/\(Zc n i c).2.1<=(Zc n j d).2.2.1):=by
 have r:=h.time k g;have l:=h.stop k g;have o:=h.change _ l.1 l.2;have p:Va .i64 ((Zc n i c).2.1+(WN n (Zc n i c).1).2.2.2.1)=(Zc n i c).2.1+(WN n (Zc n i c).1).2.2.2.1:=ZB (by omega) (by omega);unfold WV;have m:Gy n (Zy n i b c st) (Zy n j d e Ud) Ud=Uc↔isLink n i c j d false:=Zn2 h;generalize Gy n (Zy n i b c st) (Zy n j d e Ud) Ud=B at*;unfold Zy Kq;simp only[p];rw[KQ (by omega)];simp only[Vk,KJ];refine and_congr_right λ_=>?_;rw[<-m];by_cases a:(Zc n i c).2.1+(WN n (Zc n i c).1).2.2.2.1<=(Zc n j d).2.2.1;.simp[a]
 by_cases f:(Zc n i c).2.1<=(Zc n j d).2.2.1
 .cases B with|true=>simp[f]|false=>simp[a]
 simp[a,f]
theorem Zch{i b c st}:Yp n (ZA q) (Zy n i b c st)=0↔(Zc n i c).2.2.2.2.1=true:=by unfold Yp;rw[KQ (by omega),KQ (by omega),ZgD];show (!(Zc n i c).2.2.2.2.1)=Ud/\_↔_;simp
theorem Xx{n q L i}:K2 n q L i=0↔W7 n q (lg L i)=0/\Gz n q L i=0/\(XW L i=Uc->Yp n q (lg L i)=0):=by
 unfold K2;by_cases a:W7 n q (lg L i)=0
 .by_cases b:Gz n q L i=0
  .cases XW L i<;>simp[a,b]
  rw[Zi a,Zm b];simp[b]
 simp[a]
theorem YQ{n q L}:Yw n q L=0↔(lg L 0).2.2.2.2.1=q.1/\Kq (lg L 0)=Ud/\(!(lg L 0).1&&(Ue (1<L.length)&&((lg L 1).1&& !Ue ((lg L 1).2.2.2.2.2.2.1=(lg L 0).2.2.2.2.2.2.2.1))))=Ud/\
 (!(lg L 0).1&&(Ue (L.length=1)&&(bif q.2.2.2.1 then !Ue ((lg L 0).2.2.2.2.2.2.2.1=q.2.2.1) else !Ue ((lg L 0).2.2.2.2.2.2.1=q.2.2.1))))=Ud/\
 (!q.2.2.2.1&&Ue ((lg L 0).2.2.2.2.2.2.1<q.2.2.1))=Ud/\(q.2.2.2.2.2.2.2.2.2.1&&((lg L 0).1&&Ue ((lg L 0).2.2.2.2.2.2.1<Va .i64 (q.2.2.1+(WN n q.1).2.2.2.1))))=false:=by
 unfold Yw;rw[KQ (by omega),KQ (by omega),KQ (by omega),KQ (by omega),KQ (by omega)];simp only[Vk,KJ];refine and_congr_right λ_=>and_congr_right λ_=>and_congr_right λ_=>and_congr_right λ_=>and_congr_right λ_=>?_;cases (q.2.2.2.2.2.2.2.2.2.1&&((lg L 0).1&&Ue ((lg L 0).2.2.2.2.2.2.1<Va .i64 (q.2.2.1+(WN n q.1).2.2.2.1))))<;>simp
abbrev JN:=Zb8×Ja×V (Int×Int×Int×Int×Unit)×Unit
def Z3:Hb->V Z8|[]|[_]=>[]|x::y::t=>Z3 (y::t)++[x.2.1]
theorem HW{S F a s}(h:YF S F a s):Z3 s=a:=by
 induction h with
 |start=>rfl|snoc b _ _ c=>
  have⟨_,_,_,e,_⟩:=b.head;subst e;show Z3 (_::_)++_=_;rw[c]
section
variable (F:KD) (hF:FO F)
def ZhK(l:Z6):Prop:=JP F hF (Z3 l.2.2.2.2.1) l.2.2.2.2.1/\∀v∈Z3 l.2.2.2.2.1,Jp v
end
variable {F:KD}{hF:FO F}{n:Zh}{q:Zp}
variable {F:KD}{hF:FO F}
def Zkt(n:Zh)(i c:Nat):Bool:=n.2.2.2.1.any λl=>l.2.2.2.2.1&&(Ue (l.1=i)&&Ue (l.2.1=c))
def DH(n:Zh)(l:Z6)(j d:Nat):Bool:=n.2.2.2.1.any λk=> !k.2.2.2.2.1&&(Ue (l.1.1=1)&&(Ue (k.1=l.1.2.2.1)&&(Ue (k.2.1=l.1.2.2.2.1)&&(Ue (k.2.2.1=j)&&Ue (k.2.2.2.1=d)))))
def JB(n:Zh)(v:Z8)(x:Zx):Z8:=(v.1,x.2.2.2.2.2.2.2.1,Wc .i64 v.2.2.1 ((GJ n x:Nat)),Wc .i64 v.2.2.2.1 ((2 ^ (GG n x).2.1.toNat:Nat)),())
def ZH(n:Zh)(l:Z6)(i b c:Nat)(st:Bool)(v:Z8):Z6:=((1,(Zc n i c).1,i,c,JB n v (Zy n i b c st),()),(Zc n i c).2.1,l.2.2.1,l.2.2.2.1,l.2.2.2.2.1,l.2.2.2.2.2.1++[Zy n i b c st],())
def GC(n:Zh)(i c:Nat):Bool:=(Zc n i c).2.2.2.2.1||Zkt n i c
def Zqw(n:Zh)(l:Z6)(i b:Nat)(st:Bool)(v:Z8)(c:Nat):V Z6:=if GC n i c=Uc then [ZH n l i b c st v] else []
def Zhe(n:Zh)(l:Z6)(i b:Nat)(st:Bool)(v:Z8):V Z6:=(Vzb ((Zj n i).length - (b+1))).flatMap λk=>Zqw n l i b st v (b+1+k)
theorem Zoi{l i b st v x}:x∈Zhe n l i b st v↔∃c,b<c/\c<(Zj n i).length/\GC n i c=Uc/\x=ZH n l i b c st v:=by
 unfold Zhe Zqw;rw[Via];constructor;.grind
 rintro ⟨c,a,d,e,rfl⟩;refine⟨c - (b+1),by grind,?_⟩;grind
theorem Zo2{F}(h:FO F){a}(g:∀v∈a,Jp v){i p} f:G7 F (KP F p) a i=Jv F ((a.take i).getLast?.map λx=>x.2.1) (KP F p) a[i].1:=by
 unfold G7 Jv
 cases i with
 |zero=>simp|succ i=>
  have b:i<a.length:=by omega
  have c:(a.take (i+1)).getLast?=Ua a[i]:=by rw[Vub,Vcb,Vta (by omega),Vnc,Zn (by omega),Vob,Ve b]
  rw[c,Vob,KE b,KE f];have k:=h.heads;have j:=Zq6 (d:=F.2.2.1) (g _ (Vh b)).2.2 (g _ (Vh f)).2.1 ⟨by omega,by omega⟩;rw[j];simp only[Vbd,KJ];by_cases e:(a[i+1]).1<=(a[i]).2.1+F.2.2.1;.split<;>omega
  rw[Zg λh=>e h.2,Zg e]
theorem ZnQ o{l}(h:l≠ []):Dm.lastO o l=Dm.lastO Ub l:=by
 cases l with|nil=>exact absurd rfl h|cons r l=>rfl
theorem Zuz{F} g{a}(w:∀v∈a,Jp v)(E:a.length<=8){i s}(y:Dv.Div (ZQ F a) i s):
 Dm.LS (Ji F (JT g).fareOk) F.1.length (Dm.lastO Ub ((a.take i).map Kj)) ((a.drop i).map Kj) s:=by
 induction y with
 |nil=>
  have:(ZQ F a).n=a.length:=rfl;rw[this,Vwc,Vsd]
  exact .nil _|cons o C D B y A=>
  rename_i i k p s;have r:k<a.length:=C;have z:i<a.length:=by omega
  have c:p<F.1.length:=D;have l:=ZiK g (λv j=>(w v j).1) (by omega) c o r;have b:(a.drop i)=a[i]::(a.drop (i+1)):=Vm z;have d:a.drop i=a[i]::((a.drop (i+1)).take (k - i)++a.drop (k+1)):=by rw[b];congr 1;have:=Vw (k - i) (a.drop (i+1));rw[Vhd,show i+1+(k - i)=k+1 by omega]at this;exact this.symm
  have f:(a.drop i).take (k+1 - i)=a[i]::(a.drop (i+1)).take (k - i):=by rw[b,show k+1 - i=(k - i)+1 by omega,Vjc]
  have m:Dy (KP F p) (a[i]::(a.drop (i+1)).take (k - i))=true:=by
   have t:KP F p=F.1[p]:=by unfold KP;rw[KE c]
   rw[<-f,t,<-l];exact B
  have h:=(ZfI (JT g) c λv j=>w v (by rw[<-f]at j;exact Vha (Voa j))).1 m;have e:a.take (k+1)=a.take i++a[i]::(a.drop (i+1)).take (k - i):=by have x:=Vw i (a.take (k+1));rw[Vid,Vta (by omega),Vjd,f]at x;exact x.symm
  rw[e,Vs,Dm.lastO_append,Vu,ZnQ _ (by simp)]at A;have u:(ZQ F a).pr p i=(Ji F (JT g).fareOk).tp (Dm.lastO Ub ((a.take i).map Kj)) p (Kj a[i]).dep:=by rw[ZaU];exact Zo2 (JT g) w z
  rw[d,Vu,Vs,u];exact .cons c h A
theorem ZwE{F} g{a}(C:∀v∈a,Jp v)(P:a.length<=8){o l s}(M:Dm.LS (Ji F (JT g).fareOk) F.1.length o l s):
 ∀i,i<=a.length->o=Dm.lastO Ub ((a.take i).map Kj)->l=(a.drop i).map Kj->Dv.Div (ZQ F a) i s:=by
 induction M with
 |nil o=>
  intro i K _ j;have:=congrArg Vg j;rw[Vn,Vyb,Vib]at this;have:i=(ZQ F a).n:=by show i=a.length;omega
  subst this
  exact .nil|cons z I h N=>
  rename_i o r l c p s;intro i K u j;have e:=congrArg Vg j;rw[Vn,Vyb,Vqa,Vda]at e;have t:i<a.length:=by omega
  have d:(a.drop i)=a[i]::(a.drop (i+1)):=Vm t;rw[d,Vu]at j;obtain⟨rfl,H⟩:=List.cons.inj j;obtain⟨b,O,D,rfl,rfl⟩:=Vya.1 H.symm;rw[Vn,Vn]at e;have E:O=a.drop (i+b.length+1):=by have:=congrArg (Vld b.length) D;rw[Vhd,List.drop_left]at this;rw[<-this];congr 1;omega
  have x:(a.drop i).take (i+b.length+1 - i)=a[i]::b:=by rw[d,D,show i+b.length+1 - i=b.length+1 by omega,Vjc,List.take_left]
  have f:a.take (i+b.length+1)=a.take i++a[i]::b:=by have u:=Vw i (a.take (i+b.length+1));rw[Vid,Vta (by omega),Vjd,x]at u;exact u.symm
  have J:=N (i+b.length+1) (by omega) (by rw[f,Vs,Dm.lastO_append,Vu,ZnQ (Dm.lastO Ub (List.map Kj (Vuc i a))) (by simp)]) (by rw[E]);have B:(Ji F (JT g).fareOk).tp o p (Kj a[i]).dep=(ZQ F a).pr p i:=by rw[u,ZaU];exact(Zo2 (JT g) C t).symm
  rw[B];refine .cons (by omega) (show i+b.length<a.length by omega) z ?_ J;have y:=ZiK g (λv w=>(C v w).1) (by omega) (i:=i) (k:=i+b.length) (by omega) (by omega) (by omega);have m:=(ZfI (JT g) z λv w=>C v (by rw[<-x]at w;exact Vha (Voa w))).2 I;have A:KP F p=F.1[p]:=by unfold KP;rw[KE z]
  rw[<-x,A]at m;exact y.trans m
theorem ZvZ{n}(u:X0 n)(f:WI n)(z:F124 n=Ua Uc)(q:Zp){L}(B:L.length<=90)(A:∀x∈L,D3 x){b}(k:Wd n L Ud []=(b,0))(w:∀v∈b,Jp v)(r:b.length<=8):
 (∃s t,Dm.Least (Dm.LS (Ji n.2.2.2.2.2.1 (JT f.fare).fareOk) n.2.2.2.2.2.1.1.length Ub (b.map Kj)) s/\
   F52 n q (L,())=Ua ((((L[0]?).map λx=>x.2.2.2.2.2.2.1).getD q.2.2.1,((L[L.length - 1]?).map λx=>x.2.2.2.2.2.2.2.1).getD q.2.2.1,(b.length:Int),YM n.2.2.2.2.2.1 s,WE L,()),t,0))\/
 ((∀s,¬Dm.LS (Ji n.2.2.2.2.2.1 (JT f.fare).fareOk) n.2.2.2.2.2.1.1.length Ub (b.map Kj) s)/\∃c,F52 n q (L,())=Ua (c,[],34)):=by
 have j:=JT f.fare;have e:F53 n (L,())=Ua (b,0):=by
  obtain⟨_,g⟩|⟨_,_,g⟩:=ZgO n (L,()) u B;.rw[z]at g;cases g
  rw[g,k]
 have E:=Zht (L,()) (show L.length<=1000 by omega) A;have a:=Dv.tab_best (ZQ n.2.2.2.2.2.1 b) b.length (Vo _) 0 (by show b.length - b.length<=0;omega) (Vea _);have d:∀s,Dv.Div (ZQ n.2.2.2.2.2.1 b) 0 s↔Dm.LS (Ji n.2.2.2.2.2.1 j.fareOk) n.2.2.2.2.2.1.1.length Ub (b.map Kj) s:=λs=>
  ⟨λh=>Zuz f.fare w r h,λh=>ZwE f.fare w r h 0 (Vea _) rfl rfl⟩
 unfold F52;rw[e];simp only[Za,Vj,Ze];rcases Znj f.fare (λx H=>u.prods x H) b (by omega) with ⟨g,_⟩|⟨_,C,l⟩|⟨_,s,t,o,l⟩;.omega
 .right;rw[C]at a;rw[l];exact⟨λs D=>a s ((d s).2 D),_,rfl⟩
 left;rw[o]at a;rw[l];refine⟨s,t,⟨(d s).1 a.1,λy m=>a.2 y ((d y).2 m)⟩,?_⟩;simp only[decide_true,Ze,E];by_cases p:0<L.length
 .rw[Zi (show 0<(L.length:Int) by omega)];have el:Va .i64 (L.length - 1)=((L.length - 1:Nat)):=by rw[ZB (by omega) (by omega)];omega
  have I:idx L 0=Ua L[0]:=ZC p;simp only[Zf,el,I,ZC (show L.length - 1<L.length by omega),Za];rw[Ve p,Ve (by omega)];rfl
 rw[Zm (show¬0<(L.length:Int) by omega)];have:L=[]:=Vja (by omega);subst this;rfl
structure LV (F:KD) (hF:FO F) (n:Zh) (q:Zp) (l:Z6):Prop where
 fare:ZhK F hF l
 len:l.2.2.2.2.2.1.length<=80
 rides:0<=l.2.2.1/\l.2.2.1<=q.2.2.2.2.1
 walk:0<=l.2.2.2.1/\l.2.2.2.1<=q.2.2.2.2.2.1
 time:0<=l.2.1/\l.2.1<=3155932800
 stop:0<=l.1.2.1/\l.1.2.1<(n.1.length:Int)
 kind:l.1.1=1->∃i c:Nat,l.1.2.2.1=(i:Int)/\l.1.2.2.2.1=(c:Int)/\i<n.2.2.1.length/\c<(Zj n i).length/\l.1.2.1=(Zc n i c).1/\l.2.1=(Zc n i c).2.1/\Jp l.1.2.2.2.2.1
 first:∀x,l.2.2.2.2.2.1=[x]->x.1=Ud->Jb x.2.2.2.2.2.2.1/\x.2.2.2.2.2.2.2.1=l.2.1
structure QI (q:Zp):Prop where
 rides:q.2.2.2.2.1<=7
 walk:q.2.2.2.2.2.1<=86400
def WJ(L:V Zx)(d:Int):V Zx:=match L with|[x]=>if x.1=Uc then [x] else [(x.1,x.2.1,x.2.2.1,x.2.2.2.1,x.2.2.2.2.1,x.2.2.2.2.2.1,x.2.2.2.2.2.2.1+(d - x.2.2.2.2.2.2.2.1),d,x.2.2.2.2.2.2.2.2)]|L=>L
theorem Zlq L d:(WJ L d).length=L.length:=by unfold WJ;grind
theorem Zcf{x}(h:x.1=Uc) d:WJ [x] d=[x]:=by unfold WJ;grind
theorem ZaC{x}(h:x.1=Ud) d:WJ [x] d=[(x.1,x.2.1,x.2.2.1,x.2.2.2.1,x.2.2.2.2.1,x.2.2.2.2.2.1,x.2.2.2.2.2.2.1+(d - x.2.2.2.2.2.2.2.1),d,x.2.2.2.2.2.2.2.2)]:=by show (if x.1=Uc then [x] else _)=_;grind
theorem Zh3{L}(h:L.length≠1) d:WJ L d=L:=by unfold WJ;grind
def Hi(n:Zh)(l:Z6)(i c:Nat):Z6:=(l.1,l.2.1,l.2.2.1+1,l.2.2.2.1,l.2.2.2.2.1,WJ l.2.2.2.2.2.1 (Zc n i c).2.2.1,())
def Jt(d:Int):Z8:=(d,0,0,0,())
def ZlR(n:Zh)(q:Zp)(l:Z6)(i c:Nat):V Z6:=if l.2.2.1=q.2.2.2.2.1 then [] else Zhe n (Hi n l i c) i c Ud (Jt (Zc n i c).2.2.1)
theorem ZcS d:Small (Jt d):=⟨⟨by show 0<=0;omega,by show 0<65536;omega⟩,⟨by show 0<=0;omega,by show 0<65536;omega⟩⟩
def ZaJ(n:Zh)(l:Z6)(fr:Int)(i c:Nat):Prop:=Ys n i=Ud/\(Zc n i c).2.2.2.1=Uc/\(Zc n i c).1=l.1.2.1/\c+1≠(Zj n i).length/\(fr<=(Zc n i c).2.2.1\/(l.2.1<=(Zc n i c).2.2.1/\DH n l i c=Uc))
instance (n:Zh) (l:Z6) (fr:Int) (i c:Nat):Decidable (ZaJ n l fr i c):=by unfold ZaJ;infer_instance
def Zih(n:Zh)(q:Zp)(l:Z6)(fr:Int)(i c:Nat):V Z6:=if ZaJ n l fr i c then ZlR n q l i c else []
def ZaG(n:Zh)(q:Zp)(l:Z6)(fr:Int):V Z6:=(Vzb n.2.2.1.length).flatMap λi=>(Vzb (Zj n i).length).flatMap λc=>Zih n q l fr i c
theorem Zod{l fr i c x}:x∈Zih n q l fr i c↔ZaJ n l fr i c/\l.2.2.1≠q.2.2.2.2.1/\∃d,c<d/\d<(Zj n i).length/\GC n i d=Uc/\x=ZH n (Hi n l i c) i c d Ud (Jt (Zc n i c).2.2.1):=by
 unfold Zih ZlR;by_cases a:ZaJ n l fr i c
 .rw[Zn a];by_cases b:l.2.2.1=q.2.2.2.2.1
  .grind
  rw[Zg b,Zoi];grind
 grind
theorem Hq{l fr x}:x∈ZaG n q l fr↔∃i c d,i<n.2.2.1.length/\c<d/\d<(Zj n i).length/\ZaJ n l fr i c/\l.2.2.1≠q.2.2.2.2.1/\GC n i d=Uc/\x=ZH n (Hi n l i c) i c d Ud (Jt (Zc n i c).2.2.1):=by
 unfold ZaG;rw[Via];constructor;.rintro ⟨i,k,a⟩;have⟨c,m,a⟩:=Via.1 a;have⟨b,e,d,f,g,h,j⟩:=Zod.1 a;grind
 rintro ⟨i,c,d,k,f,g,b,e,h,j⟩;exact⟨i,List.mem_range.2 k,Via.2 ⟨c,by grind,Zod.2 ⟨b,e,d,f,g,h,j⟩⟩⟩
def JW(l:Z6)(p:K5):Z6:=((2,p.2.1,0,0,(0,0,0,0,()),()),l.2.1+p.2.2.1,l.2.2.1,l.2.2.2.1+p.2.2.1,l.2.2.2.2.1,l.2.2.2.2.2.1++[Kc l.1.2.1 p.2.1 l.2.1 (l.2.1+p.2.2.1)],())
def Zct(q:Zp)(l:Z6)(p:K5):Prop:=p.1=l.1.2.1/\l.2.2.2.1+p.2.2.1<=q.2.2.2.2.2.1/\l.2.1+p.2.2.1<=3155932800
instance (q:Zp) (l:Z6) (p:K5):Decidable (Zct q l p):=by unfold Zct;infer_instance
def ZkN(q:Zp)(l:Z6)(p:K5):V Z6:=if Zct q l p then [JW l p] else []
def Zb3(n:Zh)(q:Zp)(l:Z6):V Z6:=n.2.2.2.2.1.flatMap (ZkN q l)
theorem Zoj{l p x}:x∈ZkN q l p↔Zct q l p/\x=JW l p:=by unfold ZkN;simp
theorem HR{l x}:x∈Zb3 n q l↔∃p∈n.2.2.2.2.1,Zct q l p/\x=JW l p:=by unfold Zb3;rw[Via];exact⟨λ⟨p,a,b⟩=>⟨p,a,Zoj.1 b⟩,λ⟨p,a,b⟩=>⟨p,a,Zoj.2 b⟩⟩
def Zcs(n:Zh)(l:Z6)(k:Dj):Prop:=k.2.2.2.2.1=Uc/\k.1=l.1.2.2.1/\k.2.1=l.1.2.2.2.1/\Ys n k.2.2.1.toNat=Ud/\l.2.1<=(Zc n k.2.2.1.toNat 0).2.2.1
instance (n:Zh) (l:Z6) (k:Dj):Decidable (Zcs n l k):=by unfold Zcs;infer_instance
def Zks(n:Zh)(l:Z6)(k:Dj):V Z6:=if Zcs n l k then Zhe n l k.2.2.1.toNat 0 Uc l.1.2.2.2.2.1 else []
def ZeG(n:Zh)(l:Z6):V Z6:=n.2.2.2.1.flatMap (Zks n l)
theorem Zog{l k x}:x∈Zks n l k↔Zcs n l k/\∃d,0<d/\d<(Zj n k.2.2.1.toNat).length/\GC n k.2.2.1.toNat d=Uc/\x=ZH n l k.2.2.1.toNat 0 d Uc l.1.2.2.2.2.1:=by
 unfold Zks;by_cases h:Zcs n l k;.rw[Zn h,Zoi];grind
 grind
theorem G4{l x}:x∈ZeG n l↔∃k∈n.2.2.2.1,Zcs n l k/\∃d,0<d/\d<(Zj n k.2.2.1.toNat).length/\GC n k.2.2.1.toNat d=Uc/\x=ZH n l k.2.2.1.toNat 0 d Uc l.1.2.2.2.2.1:=by unfold ZeG;rw[Via];exact⟨λ⟨p,a,b⟩=>⟨p,a,Zog.1 b⟩,λ⟨p,a,b⟩=>⟨p,a,Zog.2 b⟩⟩
def G9(s:Hb)(r:Z8):Hb:=((F22 s r).getD ([],1)).1
def YA(l:Z6):Z6:=(l.1,l.2.1,l.2.2.1,l.2.2.2.1,G9 l.2.2.2.2.1 l.1.2.2.2.2.1,l.2.2.2.2.2.1,())
def WK(n:Zh)(l:Z6):Bool:=(Zc n l.1.2.2.1.toNat l.1.2.2.2.1.toNat).2.2.2.2.1
def Yt(n:Zh)(s:Int):Int:=(WN n s).2.2.2.1
def Rr(n:Zh)(q:Zp)(l:Z6):V Z6:=
 if l.1.1=1 then ZeG n l++(if WK n l=Uc then ZaG n q (YA l) (l.2.1+Yt n l.1.2.1)++Zb3 n q (YA l) else [])
 else if l.1.1=2 then ZaG n q l l.2.1
 else ZaG n q l (l.2.1+(if q.2.2.2.2.2.2.2.2.2.1=Uc then Yt n l.1.2.1 else 0))++Zb3 n q l
def ZcF(n:Zh)(q:Zp)(l:Z6):Prop:=(l.1.1=1->WK n l=Uc)/\l.1.2.1=q.2.1
instance (n:Zh) (q:Zp) (l:Z6):Decidable (ZcF n q l):=by unfold ZcF;infer_instance
theorem Zkd{l}(c:LV F hF n q l)(j:l.1.1=1)(h:(Z3 l.2.2.2.2.1).length+1<=8):F22 l.2.2.2.2.1 l.1.2.2.2.2.1=Ua (G9 l.2.2.2.2.1 l.1.2.2.2.2.1,0)/\JP F hF (Z3 l.2.2.2.2.1++[l.1.2.2.2.2.1]) (G9 l.2.2.2.2.1 l.1.2.2.2.2.1)/\∀v∈Z3 l.2.2.2.2.1++[l.1.2.2.2.2.1],Jp v:=by
 have⟨_,_,_,_,_,_,_,_,a⟩:=c.kind j;have f:∀v∈Z3 l.2.2.2.2.1++[l.1.2.2.2.2.1],Jp v:=λv b=>by
  rw[Vy,Vx]at b;obtain b|rfl:=b;.exact c.fare.2 v b
  exact a
 have⟨k,d,g⟩:=Zkr hF c.fare.1 f h;have e:G9 l.2.2.2.2.1 l.1.2.2.2.2.1=k:=by unfold G9;rw[d];rfl
 rw[e];exact⟨d,g,f⟩
theorem LV.next{l}(a:LV F hF n q l)(f:l.1.1=1)(d:(Z3 l.2.2.2.2.1).length+1<=8):LV F hF n q (YA l):=by
 have⟨g,b,c⟩:=Zkd a f d;have e:=HW b;refine⟨⟨?_,?_⟩,a.len,a.rides,a.walk,a.time,a.stop,a.kind,a.first⟩
 .show JP F hF (Z3 (G9 _ _)) (G9 _ _);rw[e];exact b
 show∀v∈Z3 (G9 _ _),Jp v;rw[e];exact c
structure KN (n:Zh):Prop where
 stops:n.1.length<=5
 runs:n.2.2.1.length<=7
 paths:n.2.2.2.2.1.length<=60
 calls:∀i,i<n.2.2.1.length->(Zj n i).length<=6
variable {n:Zh}{q:Zp}
def Zde(n:Zh):Int->Option Int:=Wj n n.2.2.2.1.length
def JF(n:Zh)(a b:Int):Prop:= ∃k,KI (Zde n) a (k+1)=Ua b
theorem ZoI f:∀k {a b c}{l},KI f a k=Ua b->KI f b l=Ua c->KI f a (k+l)=Ua c
 |0,a,b,c,l,d,g=>by
  have:a=b:=Kx d
  grind|k+1,a,b,c,l,d,g=>by have e:(f a).bind (λb=>KI f b k)=Ua b:=d;have⟨j,m,h⟩:=Option.bind_eq_some_iff.1 e;have:=ZoI f k h g;rw[show k+1+l=(k+l)+1 by omega];show (f a).bind (λb=>KI f b (k+l))=Ua c;grind
theorem JF.trans{a b c}(d:JF n a b)(e:JF n b c):JF n a c:=by have⟨k,d⟩:=d;have⟨l,e⟩:=e;exact⟨k+l+1,by rw[show k+l+1+1=(k+1)+(l+1) by omega];exact ZoI _ _ d e⟩
theorem JF.one{a b}(h:Zde n a=Ua b):JF n a b:=⟨0,by show (Zde n a).bind (λb=>Ua b)=Ua b;grind⟩
theorem JF.irr(h:Whole n){a}:¬JF n a a:=by rintro ⟨k,c⟩;exact Zov (ZfT (λj b=>W0.1 h.g j b) a) k c
theorem Rp(h:Whole n){i c j d}(p:isLink n i c j d Uc):Zde n i=Ua (j:Int):=by
 have⟨a,k,u⟩:=Vv p;have r:lk n a=((i:Int),(c:Int),(j:Int),(d:Int),Uc,()):=by unfold lk;grind
 cases l:Zde n i with
 |none=>
  have:=ZjS l a k (by grind)
  grind|some b=>
  have⟨e,m,o,s,t⟩:=Zel l;have:e=a:=by
   obtain f|rfl|f:=Vvc e a;.have:=(ZbN (W0.1 h.g a k)).2.2 (by grind);grind
   .rfl
   have:=(ZbN (W0.1 h.g e m)).2.2 o;grind
  grind
open Classical in
def XT(n:Zh)(a b:Nat):Nat:=if JF n (a:Int) (b:Int) then 1 else 0
def K8(n:Zh)(a:Nat):Nat:=XT n a 0+XT n a 1+XT n a 2+XT n a 3+XT n a 4+XT n a 5+XT n a 6
theorem Zx3 a b:XT n a b<=1:=by unfold XT;grind
theorem Zpk(h:Whole n) a:XT n a a=0:=by unfold XT;rw[Zg (JF.irr h)]
theorem Zx2(h:Whole n) a b:XT n a b+XT n b a<=1:=by
 unfold XT;by_cases c:JF n a b;.rw[Zn c,Zg λd=>JF.irr h (c.trans d)];omega
 grind
theorem Zac a:K8 n a<=7:=by have:=λb=>Zx3 (n:=n) a b;have c:=this 0;have d:=this 1;have e:=this 2;have f:=this 3;have g:=this 4;have h:=this 5;have j:=this 6;unfold K8;omega
theorem ZpI(h:Whole n):K8 n 0+K8 n 1+K8 n 2+K8 n 3+K8 n 4+K8 n 5+K8 n 6<=21:=by have a:=Zx2 h;have i:=Zpk h;have s:=i 0;have t:=i 1;have u:=i 2;have v:=i 3;have w:=i 4;have x:=i 5;have y:=i 6;have b:=a 0 1;have c:=a 0 2;have d:=a 0 3;have e:=a 0 4;have f:=a 0 5;have g:=a 0 6;have a12:=a 1 2;have j:=a 1 3;have k:=a 1 4;have l:=a 1 5;have m:=a 1 6;have a23:=a 2 3;have a24:=a 2 4;have a25:=a 2 5;have a26:=a 2 6;have o:=a 3 4;have a35:=a 3 5;have p:=a 3 6;have a45:=a 4 5;have a46:=a 4 6;have r:=a 5 6;unfold K8;omega
theorem ZbU(h:Whole n){i j:Nat}(e:j<7)(c:Zde n i=Ua (j:Int)):K8 n j+1<=K8 n i:=by
 have b:=JF.one c;have f:∀k,XT n j k<=XT n i k:=λk=>by
  unfold XT;by_cases a:JF n j k;.rw[Zn a,Zn (b.trans a)];omega
  grind
 have a:XT n i j=1:=by unfold XT;grind
 have d:=Zpk h j;unfold K8;grind
def Ku:Nat->(Nat->Nat)->Nat|0,_=>0|m+1,f=>Ku m f+f m
theorem Xm{f g}:∀{m},(∀i,i<m->f i<=g i)->Ku m f<=Ku m g|0,_=>Vo _|m+1,h=>Vkd (Xm (by grind)) (by grind)
theorem GI f g:∀m,Ku m (λi=>f i+g i)=Ku m f+Ku m g|0=>rfl|m+1=>by show Ku m _+(f m+g m)=(Ku m f+f m)+(Ku m g+g m);rw[GI f g m];omega
theorem DU c f:∀m,Ku m (λi=>c*f i)=c*Ku m f|0=>rfl|m+1=>by show Ku m _+_=c* (Ku m f+f m);rw[DU c f m,Nat.mul_add]
theorem Hx{f}:∀{m},(∀i,i<m->f i=0)->Ku m f=0|0,_=>rfl|m+1,h=>by show Ku m f+f m=0;rw[Hx (by grind),h m (by omega)]
theorem ZeJ{f j}:∀{m},(∀i,i<m->i≠j->f i=0)->Ku m f<=f j
 |0,_=>Vea _|m+1,h=>by
  show Ku m f+f m<=f j;by_cases e:m=j;.subst e;rw[Hx (by grind)];omega
  rw[h m (by omega) e];exact ZeJ (by grind)
theorem Zg5 c:∀m,Ku m (λ_=>c)=m*c|0=>by simp[Ku]|m+1=>by show Ku m _+c=_;rw[Zg5 c m,Nat.succ_mul]
theorem Zah{β:Type} w(f:Nat->V β):∀m,(((Vzb m).flatMap f).map w).sum=Ku m λi=>((f i).map w).sum
 |0=>rfl|m+1=>by
  have e: [m].flatMap f=f m:=by simp
  rw[Ved,Vic,Vs,Vcc,Zah w f m,e];rfl
theorem Zg8{β:Type} w(f:Nat->β):∀m,(((Vzb m).map f).map w).sum=Ku m λi=>w (f i)|0=>rfl|m+1=>by rw[Ved,Vs,Vs,Vcc,Zg8 w f m];rfl
def gW:Nat->Nat|0=>61|l+1=>61+1890*gW l
def Zdj(n:Zh)(l i c:Nat):Nat:=gW l* (1+if c+1=(Zj n i).length then 5*K8 n i else 0)
def wr(n:Zh):Nat->Nat->Nat->Nat|0,_,_=>0|l+1,i,c=>Zdj n l i c
def bw(n:Zh)(l i b:Nat):Nat:=Ku ((Zj n i).length - (b+1)) λk=>wr n l i (b+1+k)
def rW(n:Zh)(l:Nat)(s:Int):Nat:=Ku n.2.2.1.length λi=>Ku (Zj n i).length λb=>if (Zc n i b).1=s then bw n l i b else 0
def tW(n:Zh)(l:Nat):Nat:=Ku n.2.2.1.length λi=>Ku (Zj n i).length λb=>bw n l i b
theorem ZnY l i b:Ku ((Zj n i).length - (b+1)) (λk=>Zdj n l i (b+1+k))<=gW l* ((Zj n i).length - (b+1)+5*K8 n i):=by
 unfold Zdj;rw[DU];refine Vmb _ ?_;rw[GI,Zg5];refine Vkd (by omega) ?_;by_cases a:(Zj n i).length - (b+1)=0;.rw[a];exact Vea _
 refine Vva (ZeJ (j:=(Zj n i).length - (b+1) - 1) (by grind)) ?_;grind
theorem ZyC l i:∀m,m<=(Zj n i).length->(Zj n i).length<=6->Ku m (λb=>Ku ((Zj n i).length - (b+1)) λk=>Zdj n l i (b+1+k))<=gW l* (15+25*K8 n i):=by
 intro m h e;refine Vva (Xm (g:=λb=>gW l* ((Zj n i).length - (b+1)+(if b+1<(Zj n i).length then 5*K8 n i else 0))) λb f=>?_) ?_
 .by_cases a:b+1<(Zj n i).length
  .rw[Zn a];exact ZnY l i b
  have:(Zj n i).length - (b+1)=0:=by omega
  rw[this];exact Vea _
 rw[DU];refine Vmb _ ?_;generalize (Zj n i).length=k at*;have d:k=0\/k=1\/k=2\/k=3\/k=4\/k=5\/k=6:=by omega
 have c:m=0\/m=1\/m=2\/m=3\/m=4\/m=5\/m=6:=by omega
 obtain rfl|rfl|rfl|rfl|rfl|rfl|rfl:=d<;>obtain rfl|rfl|rfl|rfl|rfl|rfl|rfl:=c<;>simp[Ku]<;>omega
theorem Zqr{f m}(b:m<=7):Ku m f<=f 0+f 1+f 2+f 3+f 4+f 5+f 6:=by
 have a:m=0\/m=1\/m=2\/m=3\/m=4\/m=5\/m=6\/m=7:=by omega
 obtain rfl|rfl|rfl|rfl|rfl|rfl|rfl|rfl:=a<;>simp[Ku]<;>omega
theorem Zzo(c:Whole n)(a:KN n) l:61+3*tW n l<=gW l:=by
 cases l with
 |zero=>
  have:tW n 0=0:=by refine Hx λi _=>Hx λb _=>?_;exact Hx λk _=>rfl
  show 61+3*tW n 0<=61
  omega|succ l=>
  have e:tW n (l+1)<=gW l*630:=by refine Vva (Xm λi d=>ZyC l i _ (Vo _) (a.calls i d)) ?_;rw[DU];refine Vmb _ (Vva (Zqr a.runs) ?_);have:=ZpI c;omega
  show 61+3*tW n (l+1)<=61+1890*gW l;omega
def GT(P:V K5)(s t:Int):Nat:=(P.filter λp=>Ue (p.1=s)&&Ue (p.2.1=t)).length
theorem Zq0 l s:∀P,((P.filter λp=>Ue (p.1=s)).map λp=>rW n l p.2.1).sum=Ku n.2.2.1.length λi=>Ku (Zj n i).length λb=>GT P s (Zc n i b).1*bw n l i b
 |[]=>by
  symm
  exact Hx λi _=>Hx λb _=>by simp[GT]|p::P=>by
  have a:=Zq0 l s P;rw[List.filter_cons];by_cases h:p.1=s;.rw[Zn (by grind),Vu,Vod,a];unfold rW;rw[<-GI];congr 1;funext i;rw[<-GI];congr 1;funext b;unfold GT;grind
  rw[Zg (by grind),a];congr 1;funext i;congr 1;funext b;unfold GT;grind
theorem Zms(k:Whole n) s t:(if t=s then 1 else 0)+GT n.2.2.2.2.1 s t<=2:=by
 have⟨u,l⟩:=Zj2.1 (W0.1 k.q);unfold GT;have e:∀p∈n.2.2.2.2.1.filter λp=>Ue (p.1=s)&&Ue (p.2.1=t),p.1=s/\p.2.1=t:=by simp
 have d:=l.sublist (List.filter_sublist (p:=λp=>Ue (p.1=s)&&Ue (p.2.1=t)));have f:∀p∈n.2.2.2.2.1.filter λp=>Ue (p.1=s)&&Ue (p.2.1=t),p.1≠p.2.1:=λp d=>by exact(k.ok.path p (Vzc.1 d).1).2.2.1
 generalize n.2.2.2.2.1.filter (λp=>Ue (p.1=s)&&Ue (p.2.1=t))=F at*
 match F,e,d,f with
 |[],_,_,_=>grind|[a],e,_,f=>
  grind|[a,b],e,_,f=>
  grind|a::b::c::F,e,d,_=>
  exfalso;have v:=e a (by simp);have w:=e b (by simp);have A:=e c (by simp);rw[Vpc]at d;have g:=d.1 b (by simp);have h:=d.1 c (by simp);have j:=(Vpc.1 d.2).1 c (by simp);unfold J2 at g h j;have m:a.2.2.2.1≠b.2.2.2.1:=by grind
  have o:a.2.2.2.1≠c.2.2.2.1:=by grind
  have r:b.2.2.2.1≠c.2.2.2.1:=by grind
  exact(show∀x y z,x≠y->x≠z->y≠z->False by decide) _ _ _ m o r
theorem Zot(c:Whole n)(a:KN n) l s:1+2*rW n l s+((n.2.2.2.2.1.filter λp=>Ue (p.1=s)).map λp=>1+rW n l p.2.1).sum<=gW l:=by
 have d:∀P:V K5,(P.map λp=>1+rW n l p.2.1).sum=P.length+(P.map λp=>rW n l p.2.1).sum:=by
  intro P
  induction P with|nil=>rfl|cons p P h=>grind
 rw[d,Zq0];have f:(n.2.2.2.2.1.filter λp=>Ue (p.1=s)).length<=60:=Vva (Vbb _ _) a.paths;have key:rW n l s+(Ku n.2.2.1.length λi=>Ku (Zj n i).length λb=>GT n.2.2.2.2.1 s (Zc n i b).1*bw n l i b)<=2*tW n l:=by
  unfold rW tW;rw[<-GI,<-DU];refine Xm λi _=>?_;rw[<-GI,<-DU];refine Xm λb _=>?_;have:=Zms c s (Zc n i b).1;have e:(if (Zc n i b).1=s then bw n l i b else 0)=(if (Zc n i b).1=s then 1 else 0) *bw n l i b:=by grind
  rw[e,<-Nat.add_mul];exact Nat.mul_le_mul_right _ this
 have g:rW n l s<=tW n l:=by
  refine Xm λi _=>Xm λb _=>?_;split;.exact Vo _
  exact Vea _
 have:=Zzo c a l;omega
theorem Zg6{α β:Type}(w:β->Nat) f:∀l:V α,((l.flatMap f).map w).sum=(l.map λx=>((f x).map w).sum).sum|[]=>rfl|x::l=>by rw[List.flatMap_cons,Vs,Vcc,Zg6 w f l];rfl
def K7(q:Zp)(l:Z6):Nat:=(q.2.2.2.2.1 - l.2.2.1).toNat
def hL(n:Zh)(q:Zp)(l:Z6):Nat:=20*K7 q l+(if l.1.1=1 then 10+K8 n l.1.2.2.1.toNat else if l.1.1=2 then 5 else 19)
theorem Zze(h:Whole n){a c} f(j:c<n.2.2.2.1.length)(k:(n.2.2.2.1[a]).2.2.2.2.1=Uc)(l:(n.2.2.2.1[c]).2.2.2.2.1=Uc)(e:(n.2.2.2.1[a]).1=(n.2.2.2.1[c]).1):a=c:=by
 have g:∀b m,lk n b=n.2.2.2.1[b]:=λb m=>by unfold lk;rw[KE m]
 obtain d|rfl|d:=Vvc a c;.have:=(ZbN (W0.1 h.g c j)).2.2 (by rw[g c j];exact l);exact absurd ⟨a,d,by rw[g a f];exact k,.inl (by rw[g a f,g c j];exact e)⟩ this.1
 .rfl
 have:=(ZbN (W0.1 h.g a f)).2.2 (by rw[g a f];exact k);exact absurd ⟨c,d,by rw[g c j];exact l,.inl (by rw[g a f,g c j];exact e.symm)⟩ this.1
theorem Znn l i b c st v:hL n q (ZH n l i b c st v)=20*K7 q l+(10+K8 n i):=by unfold hL ZH K7;simp[if_true]
theorem Zii{l}(f:l.2.2.1<=q.2.2.2.2.1){fr x}(b:x∈ZaG n q l fr):hL n q x+3<=20*K7 q l/\x.2.2.2.2.2.1.length=l.2.2.2.2.2.1.length+1:=by
 obtain⟨i,c,d,_,_,_,_,a,_,rfl⟩:=Hq.1 b;rw[Znn];have:=Zac (n:=n) i;have e:K7 q l=K7 q (Hi n l i c)+1:=by unfold K7 Hi;simp;omega
 refine⟨by omega,?_⟩;show (WJ _ _++[_]).length=_;rw[Vda,Zlq];rfl
theorem ZqX{l x}(a:x∈Zb3 n q l):hL n q x=20*K7 q l+5/\x.2.2.2.2.2.1.length=l.2.2.2.2.2.1.length+1:=by obtain⟨p,_,_,rfl⟩:=HR.1 a;exact⟨rfl,by show (_++[_]).length=_;simp⟩
theorem ZqR(h:Whole n)(A:KN n){l}(t:LV F hF n q l){x}(a:x∈Rr n q l):hL n q x<hL n q l/\x.2.2.2.2.2.1.length=l.2.2.2.2.2.1.length+1:=by
 have f:=t.rides.2;unfold Rr at a;by_cases e:l.1.1=1
 .rw[Zn e]at a;have⟨i,c,y,C,I,E,_⟩:=t.kind e;have m:hL n q l=20*K7 q l+(10+K8 n i):=by unfold hL;rw[Zn e,y,Vi]
  have D:K7 q (YA l)=K7 q l:=rfl;obtain a|a:=Vy.1 a
  .obtain⟨k,s,⟨p,u,_⟩,d,_,H,_,rfl⟩:=G4.1 a;have⟨r,w,j,v,K,B,f,J,_⟩:=h.ok.link _ s;subst B;simp at p u;subst p;have z:r=i:=by omega
   subst z;have b:isLink n r w j v true:=s;have o:j<7:=by have:=A.runs;omega
   have:=ZbU h o (Rp h b);rw[Znn,m];simp[Vi];exact⟨by omega,by show (_++[_]).length=_;simp⟩
  split at a
  .obtain a|a:=Vy.1 a
   .have:=Zii (n:=n) (q:=q) (l:=YA l) f a;exact⟨by omega,this.2⟩
   have:=ZqX (n:=n) (q:=q) a;exact⟨by omega,this.2⟩
  simp at a
 rw[Zg e]at a;by_cases g:l.1.1=2
 .rw[Zn g]at a;have:=Zii f a;have m:hL n q l=20*K7 q l+5:=by unfold hL;rw[Zg e,Zn g]
  exact⟨by omega,this.2⟩
 rw[Zg g]at a;have m:hL n q l=20*K7 q l+19:=by unfold hL;rw[Zg e,Zg g]
 obtain a|a:=Vy.1 a;.have:=Zii f a;exact⟨by omega,this.2⟩
 have:=ZqX a;exact⟨by omega,this.2⟩
end Q
namespace Q
open Tr Go
variable {F:KD}{hF:FO F}{n:Zh}{q:Zp}
open Classical in
def Zq(l:Z6):Z6:=if l.1.1=1 then YA l else l
def JU(n:Zh)(q:Zp)(l:Z6):Int:=if l.1.1=1 then l.2.1+Yt n l.1.2.1 else if l.1.1=2 then l.2.1 else l.2.1+(if q.2.2.2.2.2.2.2.2.2.1=Uc then Yt n l.1.2.1 else 0)
theorem Xz{l x}:x∈Rr n q l↔(l.1.1=1/\x∈ZeG n l)\/((l.1.1=1->WK n l=Uc)/\x∈ZaG n q (Zq l) (JU n q l))\/((l.1.1=1->WK n l=Uc)/\l.1.1≠2/\x∈Zb3 n q (Zq l)):=by unfold Rr Zq JU;grind
theorem HI l:(Zq l).1=l.1/\(Zq l).2.1=l.2.1/\(Zq l).2.2.1=l.2.2.1/\(Zq l).2.2.2.1=l.2.2.2.1/\(Zq l).2.2.2.2.2.1=l.2.2.2.2.2.1:=by
 unfold Zq;split<;>exact⟨rfl,rfl,rfl,rfl,rfl⟩
def ZcN(rode:Bool):V Zx->Bool|[]=>rode|x::l=>ZcN x.1 l
theorem ZnR rode L x:ZcN rode (L++[x])=x.1:=by
 induction L generalizing rode with|nil=>rfl|cons y L a=>exact a _
theorem ZeB{n x}:∀{L}{rode}{out o},Wd n L rode out=(o,0)->Wd n (L++[x]) rode out=Wd n [x] (ZcN rode L) o
 |[],rode,out,o,h=>by
  have:out=o:=(Prod.mk.inj h).1
  subst this;rfl|y::L,rode,out,o,h=>by
  rw[Vdb,Db];rw[Db]at h;by_cases a:y.1=Uc/\KM n y=Ud;.grind
  rw[Zg a]at h⊢;by_cases b:Kq y=Uc/\(y.1=Ud\/rode=Ud);.grind
  rw[Zg b]at h⊢;by_cases c3:y.1=Uc;.rw[Zn c3]at h⊢;rw[ZeB h];show _=Wd n [x] (ZcN y.1 L) o;grind
  rw[Zg c3]at h⊢;rw[ZeB h];show _=Wd n [x] (ZcN y.1 L) o;grind
theorem ZvL s t a b rode out:Wd n [Kc s t a b] rode out=(out,0):=by rfl
theorem ZjF{i b c} st(f:i<n.2.2.1.length)(d:b<c)(e:c<(Zj n i).length):KM n (Zy n i b c st)=true:=by
 unfold KM;have a:Z9 (Zy n i b c st).2.1 n.2.2.1.length=true:=by show Z9 i _=Uc;unfold Z9;grind
 rw[a];show (Uc&&(Ue (0<=b)&&(Ue (b<(c:Int))&&Ue (c<((Zj n i).length:Int)))))=Uc;grind
theorem ZvJ(a:WI n){i b c}(j:i<n.2.2.1.length)(g:b<c)(h:c<(Zj n i).length) rode out:Wd n [Zy n i b c Ud] rode out=(out++[JB n (Jt (Zc n i b).2.2.1) (Zy n i b c Ud)],0):=by
 have d:=ZjF Ud j g h;rw[Db,Zg (by grind),Zg (by simp[Zy]),Zn (by rfl),Zg (by simp[Zy])];show (out++[XQ n (Zy n i b c Ud)],0)=_;have e:XQ n (Zy n i b c Ud)=JB n (Jt (Zc n i b).2.2.1) (Zy n i b c Ud):=by have⟨_,_,k,f⟩:=ZbW a d;unfold XQ JB Jt;have z:0=((0:Nat):Int):=rfl;rw[z,G6 (by omega) (ZeT a d),G6 (by omega) (HU f),Veb,Veb];rfl
 rw[e]
theorem ZvK{i b c}(g:i<n.2.2.1.length)(d:b<c)(f:c<(Zj n i).length) out v:Wd n [Zy n i b c Uc] Uc (out++[v])=(out++[JB n v (Zy n i b c Uc)],0):=by
 have j:=ZjF Uc g d f;rw[Db,Zg (by grind),Zg (by simp[Zy]),Zn (by rfl),Zn (by rfl)];show (Yo n _ _,0)=_;have e:Yo n (Zy n i b c Uc) (out++[v])=out++[JB n v (Zy n i b c Uc)]:=by
  have a:Yo n (Zy n i b c Uc) (out++[v])=He n (Zy n i b c Uc) (out++[v]) v:=by unfold Yo;simp
  rw[a];unfold He;have h:(out++[v]).length - 1=out.length:=by simp
  rw[h,Vab _ _ (Vo _),Nat.sub_self];rfl
 rw[e]
theorem Zc7(a:KY n){i b c} st(e:i<n.2.2.1.length)(j:b<c)(d:c<(Zj n i).length){v}(f:Small v)(k:Jb v.1):Jp (JB n v (Zy n i b c st)):=by have g:=ZjF st e j d;have⟨_,_,l,h⟩:=ZbW a.sound g;have p:=ZeT a.sound g;have m:=HU h;have o:=a.time e d;exact⟨⟨ZgM f.1 (by omega),ZgM f.2 (by grind)⟩,k,by show 0<=(Zc n i c).2.1;omega,by show (Zc n i c).2.1<=_;omega⟩
structure LI (F:KD) (hF:FO F) (n:Zh) (q:Zp) (l:Z6):Prop where
 val:LV F hF n q l
 cnt:((Z3 l.2.2.2.2.1).length:Int)+(if l.1.1=1 then 1 else 0)=l.2.2.1
 ht:l.2.2.2.2.2.1.length+hL n q l<=79
 zero:l.1.1=0->l.2.2.2.2.2.1=[]/\l.2.2.1=0/\l.2.2.2.1=0/\l.2.1=q.2.2.1
 kinds:l.1.1=0\/l.1.1=1\/l.1.1=2
 rgo:Wd n l.2.2.2.2.2.1 Ud []=(Z3 l.2.2.2.2.1++(if l.1.1=1 then [l.1.2.2.2.2.1] else []),0)
 rode:ZcN Ud l.2.2.2.2.2.1=Ue (l.1.1=1)
 wlk:WE l.2.2.2.2.2.1=l.2.2.2.1
 lok:∀x∈l.2.2.2.2.2.1,D3 x
 last:∀L x,l.2.2.2.2.2.1=L++[x]->x.2.2.2.2.2.2.2.1=l.2.1
 some:l.1.1≠0->l.2.2.2.2.2.1≠ []
 adj:∀x,l.2.2.2.2.2.1=[x]->x.1=Ud->x.2.2.2.2.2.2.1<=x.2.2.2.2.2.2.2.1/\x.2.2.2.2.2.2.2.1<=x.2.2.2.2.2.2.1+14400/\Kq x=Ud
theorem Zip(g:QI q){l}(a:LI F hF n q l):LV F hF n q (Zq l)/\Wd n l.2.2.2.2.2.1 Ud []=(Z3 (Zq l).2.2.2.2.1,0)/\((Z3 (Zq l).2.2.2.2.1).length)=l.2.2.1:=by
 have m:=a.val.rides;have k:=g.rides;have h:=a.cnt;have b:=a.rgo;unfold Zq;by_cases c:l.1.1=1
 .have d:(Z3 l.2.2.2.2.1).length+1<=8:=by omega
  have j:=a.val.next c d
  have⟨_,f,_⟩:=Zkd a.val c d;have e:Z3 (YA l).2.2.2.2.1=Z3 l.2.2.2.2.1++[l.1.2.2.2.2.1]:=HW f;grind
 rw[Zg c]at h b⊢;rw[Vjb]at b;exact⟨a.val,b,by omega⟩
theorem ZvI L d rode out(h:∀x,L=[x]->x.1=Ud->Kq x=Ud):Wd n (WJ L d) rode out=Wd n L rode out:=by
 match L with
 |[]=>rfl|[x]=>
  cases a:x.1 with
  |true=>rw[Zcf a]|false=>
   rw[ZaC a,Db,Db]
   grind
 |x::y::L=>rfl
theorem Zn0(r:Whole n)(u:KN n){l x}(m:LI F hF n q l)(E:x∈Rr n q l){p i b c st v}(g:i<n.2.2.1.length)(w:b<c)(f:c<(Zj n i).length)
 (ex:x=ZH n p i b c st v) (B:ZhK F hF p) (C:0<=p.2.2.1/\p.2.2.1<=q.2.2.2.2.1) (e:((Z3 p.2.2.2.2.1).length)+1=p.2.2.1) (t:p.2.2.2.1=l.2.2.2.1) (o:WE p.2.2.2.2.2.1=l.2.2.2.1)
 (k:Wd n (p.2.2.2.2.2.1++[Zy n i b c st]) Ud []=(Z3 p.2.2.2.2.1++[JB n v (Zy n i b c st)],0)) (s:∀y∈p.2.2.2.2.2.1,D3 y) (D:Small v) (z:Jb v.1):LI F hF n q x:=by
 have j:=r.ok;have⟨H,I⟩:=ZqR r u m.val E;have A:=m.ht;have J:=j.time g f;subst ex;refine⟨⟨B,by omega,C,by show 0<=p.2.2.2.1/\p.2.2.2.1<=_;rw[t];exact m.val.walk,⟨by show 0<=(Zc n i c).2.1;omega,by show (Zc n i c).2.1<=_;omega⟩,j.stop g f,λ_=>⟨i,c,rfl,rfl,g,f,rfl,rfl,Zc7 j st g w f D z⟩,?_⟩,e,by omega,λh=>absurd h (by show¬1=0;decide),.inr (.inl rfl),k,?_,?_,?_,?_,by grind,?_⟩
 .intro y a d;have:=Vaa.1 (by assumption);obtain⟨_,h⟩|⟨_,h⟩:=this
  .have:y=Zy n i b c st:=(Vua.1 h).symm;subst this;cases d
  grind
 .exact ZnR _ _ _
 .show WE (p.2.2.2.2.2.1++[Zy n i b c st])=p.2.2.2.1;rw[ZeM,o,t];have:WE [Zy n i b c st]=0:=by rfl
  omega
 .intro y a;rcases Vy.1 (by assumption) with a|a
  .grind
  rw[Vx]at a;subst a;show (Zc n i c).2.1<=_;omega
 .intro L y a;have:=Vdc (a) rfl;have:y=Zy n i b c st:=by grind
  subst this;rfl
 intro y a d;rcases Vaa.1 (by assumption) with ⟨_,h⟩|⟨_,h⟩;.have:y=Zy n i b c st:=(Vua.1 h).symm;subst this;cases d
 grind
theorem ZvB(b:KY n){l}(a:LV F hF n q l):l.2.1<=JU n q l:=by have:=b.change _ a.stop.1 a.stop.2;unfold JU Yt;omega
theorem Zl0(b:KY n){l}(d:LV F hF n q l){i c}(h:ZaJ n (Zq l) (JU n q l) i c):l.2.1<=(Zc n i c).2.2.1:=by
 have e:=ZvB b d;have f:=(HI l).2.1;obtain a|a:=h.2.2.2.2;all_goals omega
theorem Zwu(D:Whole n)(I:KN n)(hQ:QI q){l x}(b:LI F hF n q l)(H:x∈Rr n q l):LI F hF n q x:=by
 have s:=D.ok;have⟨Q,c2,c3⟩:=Zip hQ b;have⟨s1,s2,s3,P,s5⟩:=HI l;obtain⟨O,hs⟩|⟨_,hb⟩|⟨_,k2,hw⟩:=Xz.1 H;.have⟨k,hk,⟨_,_,_,a4,C⟩,d,R,A,_,ex⟩:=G4.1 hs;have⟨r,d0,j,d',sy,he,hr,U,_⟩:=s.link _ hk;subst he;simp[Vi]at*;have⟨_,_,_,_,_,_,_,_,o⟩:=b.val.kind O;have E:=b.rgo;have B:=b.rode;have v:=b.cnt;rw[Zn O]at E v;rw[Zi O]at B;refine Zn0 D I b H U R A ex b.val.fare b.val.rides v rfl b.wlk ?_ b.lok o.1 o.2.1;rw[ZeB E,B];exact ZvK U R A _ _
 .have⟨i,c,d,J,u,A,t,K,_,ex⟩:=Hq.1 hb;have C:=Zl0 s b.val t;have hc:c<(Zj n i).length:=by omega
  have ht:=s.time J hc;rw[s3]at K;have a6:=b.val.rides;have f:(Hi n (Zq l) i c).2.2.2.2.2.1=WJ l.2.2.2.2.2.1 (Zc n i c).2.2.1:=by show WJ (Zq l).2.2.2.2.2.1 _=_;grind
  have N:∀y,l.2.2.2.2.2.1=[y]->y.1=Ud->Kq y=false:=λy S T=>(b.adj y S T).2.2;refine Zn0 (p:=Hi n (Zq l) i c) D I b H J u A ex Q.fare ⟨?_,?_⟩ ?_ P ?_ ?_ ?_ (ZcS _) ⟨by show 0<=(Zc n i c).2.2.1;omega,by show (Zc n i c).2.2.1<=_;omega⟩;.show 0<=(Zq l).2.2.1+1;omega
  .show (Zq l).2.2.1+1<=_;omega
  .show ((Z3 (Zq l).2.2.2.2.1).length)+1=(Zq l).2.2.1+1;omega
  .rw[f,<-b.wlk]
   match hL:l.2.2.2.2.2.1 with
   |[]=>rfl|[y]=>
    cases a:y.1 with
    |true=>rw[Zcf a]|false=>
     have⟨a1,a2,a3⟩:=b.adj y hL a;have⟨f1,f2⟩:=b.val.first y hL a
     rw[ZaC a];unfold WE Rs;simp[Vu,Vsd,Vod,List.sum_nil,a];have a0:0<=y.2.2.2.2.2.2.1:=f1.1
     grind
   |y::z::L=>rfl
  .rw[f];have E:Wd n (WJ l.2.2.2.2.2.1 (Zc n i c).2.2.1) Ud []=(Z3 (Zq l).2.2.2.2.1,0):=by rw[ZvI _ _ _ _ N];omega
   rw[ZeB E];exact ZvJ s.sound J u A _ _
  rw[f];intro y a
  match hL:l.2.2.2.2.2.1 with
  |[]=>rw[hL]at a;cases a|[z]=>
   rw[hL]at a
   cases W:z.1 with
   |true=>
    rw[Zcf W,Vx]at a;subst a
    exact b.lok _ (by grind)|false=>
    rw[ZaC W,Vx]at a;subst a;show (Zc n i c).2.2.1<=_
    omega
  |z::w::L=>
   rw[hL]at a;exact b.lok _ (by rw[hL];assumption)
 have⟨p,hp,⟨w1,w2,w3⟩,ex⟩:=HR.1 hw;rw[P]at w2;rw[s2]at w3;rw[s1]at w1;have⟨S,T⟩:=ZqR D I b.val H;have a5:=b.ht;have M:=s.path p hp;have C:=b.val.time;have a7:=b.val.walk;subst ex;have e:(JW (Zq l) p).2.2.2.2.2.1=l.2.2.2.2.2.1++[Kc l.1.2.1 p.2.1 l.2.1 (l.2.1+p.2.2.1)]:=by show (Zq l).2.2.2.2.2.1++[Kc (Zq l).1.2.1 p.2.1 (Zq l).2.1 ((Zq l).2.1+p.2.2.1)]=_;grind
 have m:(JW (Zq l) p).2.1=l.2.1+p.2.2.1:=by show (Zq l).2.1+_=_;omega
 have g:∀y,(JW (Zq l) p).2.2.2.2.2.1=[y]->y=Kc l.1.2.1 p.2.1 l.2.1 (l.2.1+p.2.2.1):=by grind
 refine⟨⟨Q.fare,by omega,?_,?_,?_,M.2.1,λh=>absurd h (by show¬2=1;decide),?_⟩,?_,by omega,λh=>absurd h (by show¬2=0;decide),.inr (.inr rfl),?_,?_,?_,?_,?_,by grind,?_⟩;.show 0<=(Zq l).2.2.1/\(Zq l).2.2.1<=_;rw[s3];exact b.val.rides
 .show 0<=(Zq l).2.2.2.1+p.2.2.1/\(Zq l).2.2.2.1+p.2.2.1<=_;omega
 .omega
 .intro y a _;rw[g y a,m];exact⟨⟨by show 0<=l.2.1;omega,by show l.2.1<=_;omega⟩,rfl⟩
 .show ((Z3 (Zq l).2.2.2.2.1).length)+(if 2=1 then 1 else 0)=(Zq l).2.2.1;omega
 .rw[e,ZeB c2,ZvL];show _=(Z3 (Zq l).2.2.2.2.1++(if 2=1 then _ else []),0);simp
 .rw[e,ZnR];rfl
 .rw[e,ZeM,b.wlk];show _=(Zq l).2.2.2.1+p.2.2.1;rw[P];have:WE [Kc l.1.2.1 p.2.1 l.2.1 (l.2.1+p.2.2.1)]=p.2.2.1:=by unfold WE Rs Kc;grind
  omega
 .rw[e];intro y a;obtain a|a:=Vy.1 a
  .exact b.lok y a
  rw[Vx]at a;subst a;show l.2.1+p.2.2.1<=_;omega
 .intro L y a;rw[e]at a;have:=Vdc a rfl;have:y=Kc l.1.2.1 p.2.1 l.2.1 (l.2.1+p.2.2.1):=by grind
  subst this;rw[m];rfl
 intro y a _;rw[g y a];exact⟨by show l.2.1<=l.2.1+p.2.2.1;omega,by show l.2.1+p.2.2.1<=l.2.1+14400;omega,rfl⟩
end Q
namespace Q
open Tr Go
variable {F:KD}{hF:FO F}{n:Zh}{q:Zp}
inductive Rc (n:Zh) (q:Zp) (s0:Z6):Z6->Prop
 |start:Rc n q s0 s0
 |step {l x:Z6} (h:Rc n q s0 l) (hx:x∈Rr n q l):Rc n q s0 x
theorem Rc.li(d:Whole n)(c:KN n)(b:QI q){s0 l}(a:LI F hF n q s0)(h:Rc n q s0 l):LI F hF n q l:=by
 induction h with|start=>exact a|step _ e f=>exact Zwu d c b f e
def le4(a b:V Int):Prop:= ∀i,i<4->(a[i]?).getD 0<=(b[i]?).getD 0
instance (a b:V Int):Decidable (le4 a b):=by unfold le4;infer_instance
theorem Zyk{i}(a:i<n.2.2.1.length):rn (Kl n q) i=Yq n q (rn n i):=by unfold rn;show ((n.2.2.1.map (Yq n q))[(i:Int).toNat]?).getD u0=_;rw[Vi,Vla,Ve a];rfl
theorem Zs6{i}(a:i<n.2.2.1.length):Zj (Kl n q) i=(Zj n i).map (Jm n q):=by unfold Zj;rw[Zyk a];rfl
theorem Zzw(h:KN n):KN (Kl n q):=by
 have b:(Kl n q).2.2.1.length=n.2.2.1.length:=Vn ..;refine⟨h.stops,by rw[b];exact h.runs,?_,λi a=>?_⟩
 .show (GD n q).length<=60;unfold GD;split
  .exact Vva (Vbb _ _) h.paths
  exact h.paths
 rw[b]at a;rw[Zs6 a,Vn];exact h.calls i a
def st0(F:KD):Hb:=[(Ua F,(0,0,0,0,()),0,[0,0,0,0,0,0,0,0,0],())]
def KF(n:Zh)(q:Zp):Z6:=((0,q.1,0,0,(0,0,0,0,()),()),q.2.2.1,0,0,st0 n.2.2.2.2.2.1,[],())
theorem Zql{F} hF:JP F hF [] (st0 F):=by
 refine .start ⟨rfl,λi a=>?_⟩;have:i=0:=by simpa using a
 subst this;refine⟨0,rfl,.inr ⟨Vma _,.nil _,λs b=>b.nonneg⟩⟩
theorem Zv7(c:qB n.1.length q=Uc)(j:q.2.2.2.2.1<=3){hF}:LI n.2.2.2.2.2.1 hF n q (KF n q):=by unfold qB at c;simp[Vf]at c;have⟨b,_,d,e,f,_⟩:=c;unfold Z9 at b;rw[Vf,KJ,KJ]at b;refine⟨⟨⟨Zql hF,λv g=>absurd g (by show¬v∈([]);simp)⟩,by show ([]).length<=80;simp,⟨Vma 0,e.1⟩,⟨Vma 0,f.1⟩,d,b,λh=>absurd h (by show¬0=1;decide),λx a=>absurd a (by show¬ []=[x];simp)⟩,rfl,?_,λ_=>⟨rfl,rfl,rfl,rfl⟩,.inl rfl,rfl,rfl,rfl,λx a=>absurd a (by show¬x∈([]);simp),λL x a=>absurd a (by show¬ []=L++[x];simp),λh=>absurd rfl h,λx a=>absurd a (by show¬ []=[x];simp)⟩;show 0+hL n q (KF n q)<=79;have:hL n q (KF n q)=20* (q.2.2.2.2.1 - 0).toNat+19:=rfl;omega
theorem Zws{F hF l}(b:LI F hF n q l):((l.2.2.2.2.2.1[l.2.2.2.2.2.1.length - 1]?).map λx=>x.2.2.2.2.2.2.2.1).getD q.2.2.1=l.2.1:=by
 by_cases h:l.2.2.2.2.2.1=[]
 .have a:l.1.1=0:=by
   by_cases a:l.1.1=0;.exact a
   exact absurd h (b.some a)
  rw[h];exact(b.zero a).2.2.2.symm
 have e:=List.dropLast_concat_getLast h;have:=b.last _ _ e.symm;rw[List.getLast_eq_getElem]at this;rw[Ve (by have:=List.length_pos_iff.2 h;omega)];exact this
open Classical in
theorem Zwt(e:X0 n)(b:Whole n)(d:QI q){l:Z6}(a:LI n.2.2.2.2.2.1 (JT b.sound.fare) n q l):
 (∃s t,Dm.Least (Dm.LS (Ji n.2.2.2.2.2.1 (JT b.sound.fare).fareOk) n.2.2.2.2.2.1.1.length Ub ((Z3 (Zq l).2.2.2.2.1).map Kj)) s/\
   F52 n q (l.2.2.2.2.2.1,())=Ua ((((l.2.2.2.2.2.1[0]?).map λx=>x.2.2.2.2.2.2.1).getD q.2.2.1,l.2.1,l.2.2.1,YM n.2.2.2.2.2.1 s,l.2.2.2.1,()),t,0))\/
 ((∀s,¬Dm.LS (Ji n.2.2.2.2.2.1 (JT b.sound.fare).fareOk) n.2.2.2.2.2.1.1.length Ub ((Z3 (Zq l).2.2.2.2.1).map Kj) s)/\∃c,F52 n q (l.2.2.2.2.2.1,())=Ua (c,[],34)):=by
 obtain⟨f,g,c3⟩:=Zip d a;have k:=a.val.rides;have j:=d.rides;have h:F124 n=Ua true:=by rw[Zbc e,Zi b]
 have:=ZvZ e b.sound h q (L:=l.2.2.2.2.2.1) (by have:=a.val.len;omega) a.lok g f.fare.2 (by omega);rw[Zws a,c3,a.wlk]at this;exact this
theorem Hw a b:ZK (a++b)=ZK a+ZK b:=by simp[ZK]
theorem Zc8 s t a b:ZK [Kc s t a b]=0:=rfl
theorem Rn n i b c st:ZK [Zy n i b c st]=if st then 0 else 1:=by cases st<;>rfl
theorem ZaW{L i} h:lg L i=L[i]:=by unfold lg;grind
theorem ZpC{L i}(h:i<L.length):ZK (L.take (i+1))=ZK (L.take i)+ZK [lg L i]:=by rw[Vd h,Hw,ZaW h]
theorem Zn3{n q L i}:Gz n q L (i+1)=WV n (lg L i) (lg L (i+1)):=by rfl
theorem ZzU L:0<=WE L:=(ZkL L).1
theorem ZqT L i:WE (L.take i)<=WE L:=by have:=ZeM (L.take i) (L.drop i);rw[Vw]at this;have:=ZzU (L.drop i);omega
theorem ZpB L i:ZK (L.take i)<=ZK L:=by have:=Hw (L.take i) (L.drop i);simp_all
theorem Zhb{L i}(h:i<L.length):L.take (i+1)=L.take i++[lg L i]:=by rw[Vd h,ZaW h]
theorem Zlp{L}(h:∀x,L=[x]->x.1=Uc) d:WJ L d=L:=by
 by_cases a:L.length=1;.obtain⟨x,rfl⟩:=Vec.1 a;exact Zcf (h x rfl) d
 exact Zh3 a d
theorem ZoK(h:KY n){L}(u:∀i,i<L.length->K2 n (ZA q) L i=0){i}(y:i<L.length){r b c st}(e:lg L i=Zy n r b c st):GC n r c=true:=by
 unfold GC;rw[Bool.or_eq_true];have⟨_,_,x⟩:=Xx.1 (u i y)
 cases m:XW L i with
 |true=>
  have:=x m;rw[e]at this
  exact .inl (Zch.1 this)|false=>
  right;unfold XW at m;rw[e]at m;have f:(Ue (i+1=L.length) || !Kq (lg L (i+1)))=false:=by assumption
  rw[Vpa,decide_eq_false_iff_not,Vk]at f;have k:i+1<L.length:=by omega
  have⟨t,g,_⟩:=Xx.1 (u (i+1) k);rw[Zn3,e]at g
  cases v:(lg L (i+1)).1 with
  |false=>
   have⟨p,_,a,w,_⟩:=(Zgn h).1 ⟨t,v⟩;have:=f.2;rw[w]at this
   cases this|true=>
   have⟨j,d,A,o,s,_⟩:=(Zgm h).1 ⟨t,v⟩;have:=f.2;rw[s]at this;have l:o=true:=this;subst l;rw[s]at g;have⟨_,z,_⟩:=(Zd1 h).1 g;exact Vt.2 ⟨_,z,by simp⟩
def Zdr(n:Zh)(q:Zp)(L:V Zx)(i:Nat):Prop:= ∃l,Rc n (ZA q) (KF n (ZA q)) l/\l.2.2.1=(ZK (L.take (i+1)))/\
 ((∃r b c st,lg L i=Zy n r b c st/\Zcb n r b c st/\l.1.1=1/\l.1.2.2.1=r/\l.1.2.2.2.1=c/\l.2.2.2.2.2.1=L.take (i+1))\/
  (∃p∈n.2.2.2.2.1,∃a,lg L i=Kc p.1 p.2.1 a (a+p.2.2.1)/\l.1.1=2/\l.1.2.1=p.2.1/\l.2.1<=a+p.2.2.1/\((0<i/\l.2.2.2.2.2.1=L.take (i+1))\/(i=0/\∃T,l.2.2.2.2.2.1=[Kc p.1 p.2.1 T (T+p.2.2.1)]/\(L.length=1->T=a)))))
theorem ZxD(hW:Whole n)(hb:q.2.2.2.1=Ud){hF}(K:LI n.2.2.2.2.2.1 hF n (ZA q) (KF n (ZA q))){L}(hL:0<L.length)(N:∀i,i<L.length->K2 n (ZA q) L i=0)(hr:(ZK L)<=q.2.2.2.2.1)(hw:WE L<=q.2.2.2.2.2.1):Zdr n q L 0:=by
 have h:=hW.ok;have⟨M,W,h3⟩:=Xx.1 (N 0 hL);have x:Yw n (ZA q) L=0:=W;have⟨o,H,f3,u,l,r⟩:=YQ.1 x;have I:(ZA q).1=q.1:=rfl;have J:(ZA q).2.2.1=q.2.2.1:=rfl;have T:(ZA q).2.2.2.1=q.2.2.2.1:=rfl;have U:(ZA q).2.2.2.2.2.2.2.2.2.1=q.2.2.2.2.2.2.2.2.2.1:=rfl;rw[I]at o;rw[T,hb,J]at u l;rw[U,J,I]at r;have f:=K.val.stop;have a3:0<=q.2.2.1/\q.2.2.1<=3155932800:=K.val.time;have A:=h.change _ f.1 f.2;have O:0<=(WN n q.1).2.2.2.1/\(WN n q.1).2.2.2.1<=3600:=A;have g:=Zhb hL;have s:ZK (L.take 0)=0:=by rfl
 have m:=ZpC hL
 cases R:(lg L 0).1 with
 |true=>
  have⟨i,b,c,st,e,P⟩:=(Zgm h).1 ⟨M,R⟩;have C:=P;have⟨k1,k2,k3,k4,k5⟩:=C;have t:=ZoK h N hL e;rw[e]at o H l r m g;have f:st=false:=H;subst f;have z:(Zc n i b).2.2.2.1=true:=by grind
  have k:(Zc n i b).1=q.1:=o;have j:q.2.2.1+(if q.2.2.2.2.2.2.2.2.2.1=Uc then Yt n q.1 else 0)<=(Zc n i b).2.2.1:=by
   simp only[Vnb,Vga,decide_eq_false_iff_not]at l;have v:¬(Zc n i b).2.2.1<q.2.2.1:=l
   cases hc:q.2.2.2.2.2.2.2.2.2.1 with
   |false=>grind|true=>
    rw[hc,ZB (by omega) (by omega)]at r;simp only[Vga]at r;have w:Ue ((Zc n i b).2.2.1<q.2.2.1+(WN n q.1).2.2.2.1)=false:=r;rw[decide_eq_false_iff_not]at w;unfold Yt;omega
  rw[s,Rn]at m;have y:ZK (L.take 1)=1:=m;have D:=ZpB L 1;have d:Zq (KF n (ZA q))=KF n (ZA q):=by rfl
  have B:JU n (ZA q) (KF n (ZA q))=q.2.2.1+(if q.2.2.2.2.2.2.2.2.2.1=Uc then Yt n q.1 else 0):=by rfl
  refine⟨_,.step .start (Xz.2 (.inr (.inl ⟨λh=>absurd h (by show¬0=1;decide),Hq.2 ⟨i,b,c,k1,k2,k3,?_,?_,t,rfl⟩⟩))),?_,.inl ⟨i,b,c,Ud,e,P,rfl,rfl,rfl,?_⟩⟩;.rw[d,B];exact⟨k4,z,k,by omega,.inl j⟩
  .rw[d];show 0≠q.2.2.2.2.1;omega
  .rw[d,y];rfl
  rw[d,g]
  rfl
 |false=>
  have⟨p,E,a,e,a0,a1⟩:=(Zgn h).1 ⟨M,R⟩;have a2:=h.path p E;rw[e]at o u l m g;have Q:p.1=q.1:=o;rw[s,Zc8]at m;have v:¬a<q.2.2.1:=by simp only[Vnb,Vga,decide_eq_false_iff_not]at l;assumption
  have a5:=ZqT L 1;have a4:WE (L.take 1)=p.2.2.1:=by rw[g];unfold WE Rs Kc;grind
  have d:Zq (KF n (ZA q))=KF n (ZA q):=by rfl
  refine⟨_,.step .start (Xz.2 (.inr (.inr ⟨λh=>absurd h (by show¬0=1;decide),by show 0≠2;decide,HR.2 ⟨p,E,?_,rfl⟩⟩))),?_,.inr ⟨p,E,a,e,rfl,rfl,?_,.inr ⟨rfl,q.2.2.1,?_,λhl=>?_⟩⟩⟩
  .rw[d];refine⟨Q,?_,?_⟩
   .show 0+p.2.2.1<=q.2.2.2.2.2.1;omega
   show q.2.2.1+p.2.2.1<=_;omega
  .rw[d,m];rfl
  .rw[d];show q.2.2.1+p.2.2.1<=_;omega
  .rw[d,Q];rfl
  rw[Zi hl]at u;have S:(!Ue (a=q.2.2.1))=false:=u;grind
theorem ZxC(hW:Whole n)(hT:KN n)(hQ:QI (ZA q)){hF}(h0:LI n.2.2.2.2.2.1 hF n (ZA q) (KF n (ZA q))){L}(P:∀i,i<L.length->K2 n (ZA q) L i=0)(hr:(ZK L)<=q.2.2.2.2.1)(hw:WE L<=q.2.2.2.2.2.1){i}(K:i+1<L.length)(u:Zdr n q L i):Zdr n q L (i+1):=by
 have h:=hW.ok;have m:i<L.length:=by omega
 have⟨_,_,a3⟩:=Xx.1 (P i m);have⟨b1,f,_⟩:=Xx.1 (P (i+1) K);rw[Zn3]at f;have E:=ZpC K;have w:=Zhb K;have a8:=ZpB L (i+1+1);have⟨l,s,a9,v⟩:=u;have o:=s.li hW hT hQ h0;have⟨s1,s2,s3,s4,s5⟩:=HI l;have N:∀{r b c}{st},lg L i=Zy n r b c st->Kq (lg L (i+1))=Ud->(Zc n r c).2.2.2.2.1=true:=by intro r b c st e hs;refine Zch.1 (?_ :Yp n (ZA q) (Zy n r b c st)=0);rw[<-e];refine a3 ?_;unfold XW;rw[e,hs];simp[Zy]
 cases hy:(lg L (i+1)).1 with
 |true=>
  have⟨j,d,e,b4,g,hk⟩:=(Zgm h).1 ⟨b1,hy⟩;have a6:=hk;have⟨k1,k2,k3,k4,k5⟩:=a6;have M:=ZoK h P K g;rw[g]at f E w
  cases b4 with
  |true=>
   rw[Rn]at E;have H:ZK (L.take (i+1+1))=ZK (L.take (i+1)):=by grind
   obtain⟨r,b,c,st,ex,y,z,Q,R,A⟩|⟨p,u,a,ex,_⟩:=v
   .rw[ex]at f;have⟨S,k,c3⟩:=(Zd1 h).1 f;have a5:d=0:=((h.isLink k).2.2.2.2.2.2 rfl).2;subst a5;have b0:l.2.1=(Zc n r c).2.1:=by have⟨C,B,e1,e2,_,_,_,e3,_⟩:=o.val.kind z;grind
    refine⟨_,.step s (Xz.2 (.inl ⟨z,G4.2 ⟨((r:Int),(c:Int),(j:Int),((0:Nat):Int),Uc,()),k,⟨rfl,Q.symm,R.symm,by grind,by grind⟩,e,k2,by grind,by grind,rfl⟩⟩)),?_,.inl ⟨j,0,e,Uc,g,hk,rfl,?_,rfl,?_⟩⟩;.rw[H];assumption
    .rfl
    simp[Vi];show l.2.2.2.2.2.1++[Zy n j 0 e Uc]=_;grind
   rw[ex]at f
   exact absurd f (Zd3 _ _ _ _ _ _ _ _)|false=>
   rw[Rn]at E;have H:ZK (L.take (i+1+1))=ZK (L.take (i+1))+1:=by grind
   have I:(Zc n j d).2.2.2.1=true:=by grind
   have t:Kq (lg L (i+1))=false:=by rw[g];rfl
   have go:(l.1.1=1->WK n l=Uc)->ZaJ n (Zq l) (JU n (ZA q) l) j d->WJ l.2.2.2.2.2.1 (Zc n j d).2.2.1=L.take (i+1)->Zdr n q L (i+1):=λg1 g2 g3=>by
    refine⟨_,.step s (Xz.2 (.inr (.inl ⟨g1,Hq.2 ⟨j,d,e,k1,k2,k3,g2,?_,M,rfl⟩⟩))),?_,.inl ⟨j,d,e,Ud,g,hk,rfl,rfl,rfl,?_⟩⟩;.rw[s3,a9];show _≠q.2.2.2.2.1;omega
    .show (Zq l).2.2.1+1=_;omega
    show WJ (Zq l).2.2.2.2.2.1 _++[Zy n j d e Ud]=_;grind
   obtain⟨r,b,c,st,ex,y,z,Q,R,A⟩|⟨p,u,a,ex,z,Q,R,A⟩:=v
   .have a4:=N ex t;rw[ex]at f;have⟨S,k⟩:=(Zje h y.1 y.2.2.1).1 f;have⟨C,B,e1,e2,_,_,e3,e4,_⟩:=o.val.kind z;have W:C=r:=by omega
    have U:B=c:=by omega
    subst W U;have J:JU n (ZA q) l=(Zc n C B).2.1+(WN n (Zc n C B).1).2.2.2.1:=by unfold JU Yt;grind
    refine go (λ_=>?_) ⟨k4,I,?_,by omega,?_⟩ ?_;.unfold WK;grind
    .grind
    .rw[J,s2,e4];obtain k|⟨k,c3⟩:=k
     .omega
     refine .inr ⟨c3,?_⟩;unfold DH;rw[s1];exact Vt.2 ⟨_,k,by grind⟩
    rw[A];refine Zlp (λx y=>?_) _;rw[Zhb m]at y;obtain⟨_,O⟩|⟨_,O⟩:=Vaa.1 y;.have:x=lg L i:=(Vua.1 O).symm;rw[this,ex];rfl
    grind
   rw[ex]at f;have⟨S,k⟩:=Zd2.1 f;have J:JU n (ZA q) l=l.2.1:=by unfold JU;omega
   refine go (by omega) ⟨k4,I,by grind,by omega,by omega⟩ ?_;obtain⟨A,x5⟩|⟨rfl,T,x5,_⟩:=A;.rw[x5];refine Zh3 ?_ _;grind
   rw[x5,ZaC rfl,Zhb m,ex];have O:=(Xx.1 (P 0 m)).2.1;have a2:Yw n (ZA q) L=0:=O;have f3:=(YQ.1 a2).2.2.1;rw[ex,g]at f3;have a7:1<L.length:=K;rw[Zi a7]at f3;have D:(!Ue ((Zc n j d).2.2.1=a+p.2.2.1))=false:=f3;simp[Vk,KJ]at D;rw[D];simp[List.take_zero,Vfd];unfold Kc
   grind
 |false=>
  have⟨p,u,a,g,a0,a1⟩:=(Zgn h).1 ⟨b1,hy⟩;rw[g]at f E w;rw[Zc8]at E;have t:Kq (lg L (i+1))=false:=by rw[g];rfl
  have b6:=h.path p u;obtain⟨r,b,c,st,ex,y,z,Q,R,A⟩|⟨p',b5,a',ex,_⟩:=v
  .have a4:=N ex t;rw[ex]at f;have⟨S,k⟩:=Zjf.1 f;have⟨C,B,e1,e2,_,_,e3,e4,_⟩:=o.val.kind z;have W:C=r:=by omega
   have U:B=c:=by omega
   subst W U;have b3:=ZqT L (i+1+1);rw[w,ZeM,<-A,o.wlk]at b3;have b7:WE [Kc p.1 p.2.1 a (a+p.2.2.1)]=p.2.2.1:=by unfold WE Rs Kc;grind
   refine⟨_,.step s (Xz.2 (.inr (.inr ⟨λ_=>?_,by omega,HR.2 ⟨p,u,⟨?_,?_,?_⟩,rfl⟩⟩))),?_,.inr ⟨p,u,a,g,rfl,rfl,?_,.inl ⟨by omega,?_⟩⟩⟩;.unfold WK;grind
   .grind
   .show (Zq l).2.2.2.1+p.2.2.1<=q.2.2.2.2.2.1;omega
   .omega
   .show (Zq l).2.2.1=_;omega
   .show (Zq l).2.1+p.2.2.1<=_;omega
   show (Zq l).2.2.2.2.2.1++[Kc (Zq l).1.2.1 p.2.1 (Zq l).2.1 ((Zq l).2.1+p.2.2.1)]=_;grind
  rw[ex]at f;exact absurd f (Zf7 _ _ _ _ _ _ _ _ _)
theorem Zu8(k:Whole n)(v:KN n)(u:QI (ZA q))(H:q.2.2.2.1=Ud){hF}(j:LI n.2.2.2.2.2.1 hF n (ZA q) (KF n (ZA q))){L}(hL:0<L.length)(m:∀i,i<L.length->K2 n (ZA q) L i=0)(w:(ZK L)<=q.2.2.2.2.1)(y:WE L<=q.2.2.2.2.2.1):
 ∃l,Rc n (ZA q) (KF n (ZA q)) l/\l.2.2.2.2.2.1=L/\(l.1.1=1->WK n l=Uc)/\l.1.2.1=(lg L (L.length - 1)).2.2.2.2.2.1:=by
 have key:∀i,i<L.length->Zdr n q L i:=by
  intro i
  induction i with|zero=>exact λ_=>ZxD k H j hL m w y|succ i R=>exact λI=>ZxC k v u j m w y I (by grind)
 have⟨l,f,_,g⟩:=key (L.length - 1) (by omega);have s:=f.li k v u j;have d:=(Xx.1 (m (L.length - 1) (by omega))).2.2;rw[show L.length - 1+1=L.length by omega,Vba]at g;obtain⟨r,b,c,st,e,P,z,t,A,h⟩|⟨p,Q,a,e,z,t,A,h⟩:=g
 .refine⟨l,f,h,λ_=>?_,?_⟩
  .unfold WK;rw[t,A,Vi,Vi];refine Zch.1 (?_ :Yp n (ZA q) (Zy n r b c st)=0);rw[<-e];refine d ?_;unfold XW;rw[e,Zi (by omega)];rfl
  have⟨J,B,K,M,_,_,C,N,_⟩:=s.val.kind z;have E:J=r:=by omega
  have D:B=c:=by omega
  subst E D;rw[e,C];rfl
 refine⟨l,f,?_,by omega,by rw[e,t];rfl⟩;obtain⟨_,h⟩|⟨O,T,h,S⟩:=h;.omega
 have o:L.length=1:=by omega
 obtain⟨x,rfl⟩:=Vec.1 o;have:lg [x] 0=x:=rfl;grind
variable {L:V Zx}{i:Nat}
def Zpm(n:Zh)(x:Zx):Bool:= !Z9 x.2.2.2.2.1 n.1.length|| !Z9 x.2.2.2.2.2.1 n.1.length
def Zpn(n:Zh)(x:Zx):Bool:=bif x.1 then !KM n x else !Ue (x.2.1=0) || (!Ue (x.2.2.1=0) || (!Ue (x.2.2.2.1=0) ||Kq x))
def Zgt(x:Zx):Bool:= !Ue (0<=x.2.2.2.2.2.2.1/\x.2.2.2.2.2.2.1<=3155932800) || !Ue (0<=x.2.2.2.2.2.2.2.1/\x.2.2.2.2.2.2.2.1<=3155932800)
theorem ZnU n q x:W7 n q x=bif Zpm n x then 9 else bif Zpn n x then 9 else bif Zgt x then 10 else bif x.1 then DM n q x else H4 n q x:=rfl
theorem ZlG{i}(h:K2 n q L i=0):D3 (lg L i)/\Jb (lg L i).2.2.2.2.2.2.1/\Jb (lg L i).2.2.2.2.2.2.2.1:=by have a:=(Xx.1 h).1;rw[ZnU,KQ (by omega),KQ (by omega),KQ (by omega)]at a;have:=a.2.2.1;unfold Zgt at this;simp[KJ]at this;exact⟨by show _<=_;omega,⟨by omega,by omega⟩,⟨by omega,by omega⟩⟩
structure JD (n:Zh) (q:Zp):Prop where
 fit:X0 n
 few:Few n
 chk:Gp n q=0
 tin:KN n
 max:q.2.2.2.2.1<=3
theorem JD.whole(h:JD n q):Whole n:=(Zcw.1 h.chk).1
theorem JD.qb(h:JD n q):qB n.1.length q=true:=(Zcw.1 h.chk).2
theorem JD.qnum(h:JD n q):(0<=q.1/\q.1<n.1.length)/\(0<=q.2.1/\q.2.1<n.1.length)/\(0<=q.2.2.1/\q.2.2.1<=3155932800)/\0<=q.2.2.2.2.1/\(0<=q.2.2.2.2.2.1/\q.2.2.2.2.2.1<=86400)/\(q.2.2.2.1=Uc->q.2.2.2.2.2.2.2.2.2.1=Ud):=by have a:=h.qb;unfold qB at a;simp[Vf]at a;have⟨b,c,f,g,j,_,k⟩:=a;have d:=R2.1 b;have e:=R2.1 c;grind
theorem JD.qi(h:JD n q):QI (ZA q):=⟨by show q.2.2.2.2.1<=7;have:=h.max;omega,h.qnum.2.2.2.2.1.2⟩
theorem JD.wholeM(h:JD n q):Whole (Kl n q):=Zlt q h.fit.paths h.whole
theorem JD.tinM(h:JD n q):KN (Kl n q):=Zzw h.tin
theorem JD.li0(h:JD n q):LI (Kl n q).2.2.2.2.2.1 (JT h.wholeM.sound.fare) (Kl n q) (ZA q) (KF (Kl n q) (ZA q)):=Zv7 (n:=Kl n q) (ZxT h.qb) h.max
theorem Zu6(h:JD n q)(o:q.2.2.2.1=Ud)(f:L.length<=1000)(p:(Wt n q L).2=0):∃l,Rc (Kl n q) (ZA q) (KF (Kl n q) (ZA q)) l/\l.2.2.2.2.2.1=L/\ZcF (Kl n q) (ZA q) l:=by
 obtain⟨_,⟨c,a⟩|⟨c,a,e⟩⟩:=(Zbv n q L).1 p;.have:L=[]:=Vja c;subst this;exact⟨_,.start,rfl,λh=>absurd h (by show¬0=1;decide),a⟩
 have m:∀i,i<L.length->K2 (Kl n q) (ZA q) L i=0:=λi d=>ZlF.2 (a i d);unfold DA at e;rw[KQ (by omega),KQ (by omega),KQ (by omega),KQ (by omega)]at e;have⟨g,_,j,k,_⟩:=e;simp[KJ]at g j k;have b:∀x∈L,D3 x:=λx s=>by obtain⟨i,d,rfl⟩:=Vv s;have:=(ZlG (a i d)).1;rwa [ZaW d]at this
 have r:L.length<=1000->XE L=WE L:=λf=>by have c:=Zht (L,()) f b;rw[ZkP]at c;have a:F140 (L,())=Ua (XE L):=ZeN L f;grind
 have⟨l,t,u,v,w⟩:=Zu8 h.wholeM h.tinM h.qi o h.li0 (by omega) m (by omega) (by omega);exact⟨l,t,u,v,by rw[w];assumption⟩
def Zca(n:Zh)(q:Zp)(L:V Zx):Prop:= ∀i,i<L.length->W7 n q (lg L i)=0/\Gz n q L i=0/\(i+1<L.length->XW L i=Uc->Yp n q (lg L i)=0)
theorem Zed{L K i}(h:i<L.length):lg (L++K) i=lg L i:=by unfold lg;grind
theorem ZaV L x:lg (L++[x]) L.length=x:=by unfold lg;simp
theorem ZnX{x}(h:W7 n q x=0)(a:Yw n q [x]=0):Zca n q [x]:=by
 intro i b;have:i=0:=by grind
 subst this;exact⟨h,a,by simp⟩
theorem Zgo{L y x}(hL:Zca n q (L++[y]))(u:W7 n q x=0)(E:WV n y x=0)(D:L=[]->y.1=Ud->x.1=Uc->x.2.2.2.2.2.2.1=y.2.2.2.2.2.2.2.1)(J:y.1=Uc->Kq x=Ud->Yp n q y=0):Zca n q (L++[y]++[x]):=by
 intro i H;have h:(L++[y]++[x]).length=L.length+2:=by simp
 have b:(L++[y]).length=L.length+1:=by simp
 have t:lg (L++[y]++[x]) L.length=y:=by rw[Zed (by omega),ZaV]
 have f:lg (L++[y]++[x]) (L.length+1)=x:=by rw[<-b,ZaV]
 by_cases r:i<L.length+1
 .have⟨w,g,k⟩:=hL i (by omega);have c:lg (L++[y]++[x]) i=lg (L++[y]) i:=Zed (by omega);refine⟨by grind,?_,λ_ d=>?_⟩
  .cases i with
   |zero=>
    have a:Yw n q (L++[y])=0:=g;show Yw n q (L++[y]++[x])=0;rw[YQ]at a⊢;have⟨l,m,B,C,o,p⟩:=a;rw[c];refine⟨l,m,?_,?_,o,p⟩
    .cases e:L with
     |nil=>
      grind|cons z v=>
      rw[<-e];have I:0<L.length:=by grind
      have A:lg (L++[y]++[x]) 1=lg (L++[y]) 1:=Zed (by omega);grind
    simp
   |succ i=>
    have a:WV n (lg (L++[y]) i) (lg (L++[y]) (i+1))=0:=g;show WV n (lg (L++[y]++[x]) i) (lg (L++[y]++[x]) (i+1))=0;rw[Zed (by omega),c];omega
  rw[c];by_cases s:i+1<L.length+1;.refine k (by omega) ?_;have j:lg (L++[y]++[x]) (i+1)=lg (L++[y]) (i+1):=Zed (by omega);unfold XW at d⊢;grind
  have:i=L.length:=by omega
  subst this;rw[ZaV];unfold XW at d;grind
 have:i=L.length+1:=by omega
 subst this;rw[f];refine⟨u,?_,by omega⟩;show WV n (lg (L++[y]++[x]) L.length) (lg (L++[y]++[x]) (L.length+1))=0;grind
structure Snd (n:Zh) (q:Zp) (l:Z6):Prop where
 legs:Zca n (ZA q) l.2.2.2.2.2.1
 ride:l.1.1=1->∃L r b c st,l.2.2.2.2.2.1=L++[Zy n r b c st]/\Zcb n r b c st/\l.1.2.2.1=(r:Int)/\l.1.2.2.2.1=(c:Int)
 walk:l.1.1=2->∃L,∃p∈n.2.2.2.2.1,∃a,l.2.2.2.2.2.1=L++[Kc p.1 p.2.1 a (a+p.2.2.1)]/\l.1.2.1=p.2.1/\l.2.1=a+p.2.2.1/\0<=a
 zero:l.1.1=0->l=KF n (ZA q)
theorem Zpy(h:KY n){i b c st}(a:Zcb n i b c st):W7 n (ZA q) (Zy n i b c st)=0:=((Zgm h).2 ⟨i,b,c,st,rfl,a⟩).1
theorem Zh4 s t a b e d:WJ [Kc s t a (a+e)] d=[Kc s t (d - e) d]/\WJ [Kc s t b (b+e)] d=[Kc s t (d - e) d]:=by rw[ZaC rfl,ZaC rfl];unfold Kc;grind
theorem ZqY(h:KY n){p}(d:p∈n.2.2.2.2.1){a}(b:0<=a)(c:a+p.2.2.1<=3155932800):W7 n (ZA q) (Kc p.1 p.2.1 a (a+p.2.2.1))=0:=((Zgn h).2 ⟨p,d,a,rfl,b,c⟩).1
theorem Zy0(h:KY n){F hF l x}(I:LV F hF n (ZA q) l)(u:Snd n q l)(k1:l.1.1=1)(J:x∈ZeG n l):Snd n q x:=by
 obtain⟨k,t,⟨p,w,c3,e,s⟩,d,z,f,_,rfl⟩:=G4.1 J;obtain⟨i,c,j,O,N,rfl,_,D,_,_,_,o,B⟩:=h.link _ t;simp at p w c3 e s f;subst p;obtain⟨_,rfl⟩:=B rfl;simp[Vi]at e s f⊢;have⟨L,r,b,y,st,A,P,Q,R⟩:=u.ride k1;have⟨M,v,S,T,_,_,U,W,_⟩:=I.kind k1;have E:r=i:=by omega
 have C:y=c:=by omega
 have m:M=i:=by omega
 have g:v=c:=by omega
 subst E C m g;have a:Zcb n j 0 d true:=⟨D,z,f,e,.inl rfl⟩;refine⟨?_,λ_=>⟨_,j,0,d,Uc,rfl,a,rfl,rfl⟩,λh=>absurd h (by show¬1=2;decide),λh=>absurd h (by show¬1=0;decide)⟩;show Zca n (ZA q) (l.2.2.2.2.2.1++[_]);have hL:=u.legs;rw[A]at hL⊢;refine Zgo hL (Zpy h a) ((Zd1 h).2 ⟨o,t,by omega⟩) (λ_ K=>absurd K (by show¬(Uc=Ud);decide)) (λ_ H=>absurd H (by show¬(Uc=Ud);decide))
theorem Zy1(h:KY n)(O:q.2.2.2.1=Ud){F hF l x}(m:LV F hF n (ZA q) l)(g:Snd n q l)(f:l.1.1=0\/l.1.1=1\/l.1.1=2)(k1:l.1.1=1->WK n l=Uc)(k2:l.1.1≠2)(w:x∈Zb3 n (ZA q) (Zq l)):Snd n q x:=by
 have⟨B,C,P,Q,R⟩:=HI l;obtain⟨p,k,⟨j,D,c3⟩,rfl⟩:=HR.1 w;rw[B]at j;rw[C]at c3;have d:=m.time;have e:JW (Zq l) p=((2,p.2.1,0,0,(0,0,0,0,()),()),l.2.1+p.2.2.1,(Zq l).2.2.1,(Zq l).2.2.2.1+p.2.2.1,(Zq l).2.2.2.2.1,l.2.2.2.2.2.1++[Kc p.1 p.2.1 l.2.1 (l.2.1+p.2.2.1)],()):=by unfold JW;grind
 rw[e];refine⟨?_,by simp,λ_=>⟨_,p,k,l.2.1,rfl,rfl,rfl,d.1⟩,by simp⟩;have a:=ZqY (q:=q) h k d.1 c3;obtain c|c|c:=f
 .have z:=g.zero c;subst z;refine ZnX a ?_;rw[YQ];refine⟨j,rfl,?_,?_,?_,?_⟩
  .rfl
  .show (Uc&&(Uc&&(bif q.2.2.2.1 then _ else !Ue (q.2.2.1=q.2.2.1))))=Ud;grind
  .show (!q.2.2.2.1&&Ue (q.2.2.1<q.2.2.1))=Ud;simp
  show (_&&(Ud&&_))=Ud;simp
 .have⟨L,r,b,s,st,t,E,H,I⟩:=g.ride c;have⟨A,o,J,K,_,_,M,N,_⟩:=m.kind c;have v:A=r:=by omega
  have u:o=s:=by omega
  subst v u;have hL:=g.legs;rw[t]at hL⊢;refine Zgo hL a (Zjf.2 (by omega)) (λ_ y=>absurd y (by show¬(Uc=Ud);decide)) λ_ _=>Zch.2 ?_;have:=k1 c;unfold WK at this;grind
 omega
theorem ZyZ(h:KY n)(hb:q.2.2.2.1=Ud){F hF l x}(v:LV F hF n (ZA q) l)(t:Snd n q l)(J:l.1.1=0\/l.1.1=1\/l.1.1=2)(k1:l.1.1=1->WK n l=Uc)(hx:x∈ZaG n (ZA q) (Zq l) (JU n (ZA q) l)):Snd n q x:=by
 have⟨T,s2,s3,s4,s5⟩:=HI l;obtain⟨i,c,d,P,C,hd,⟨W,c2,c3,c4,e⟩,_,_,rfl⟩:=Hq.1 hx;rw[T]at c3;rw[s2]at e;have j:Zcb n i c d false:=⟨P,C,hd,W,.inr c2⟩;have g:=Zpy (q:=q) h j;have M:=v.time;refine⟨?_,λ_=>⟨_,i,c,d,Ud,rfl,j,rfl,rfl⟩,λh=>absurd h (by show¬1=2;decide),λh=>absurd h (by show¬1=0;decide)⟩;show Zca n (ZA q) (WJ (Zq l).2.2.2.2.2.1 (Zc n i c).2.2.1++[Zy n i c d Ud]);rw[s5];obtain m|m|m:=J
 .have hz:=t.zero m;subst hz;have a0:=h.change q.1 v.stop.1 v.stop.2;have R:0<=q.2.2.1/\q.2.2.1<=3155932800:=M;refine ZnX g ?_;have a7:(ZA q).2.2.1=q.2.2.1:=rfl;have f:q.2.2.1+(if q.2.2.2.2.2.2.2.2.2.1=Uc then Yt n q.1 else 0)<=(Zc n i c).2.2.1:=by
   obtain e|⟨_,e⟩:=e;.assumption
   unfold DH at e;grind
  rw[YQ];refine⟨c3,rfl,rfl,rfl,?_,?_⟩;.show (!q.2.2.2.1&&Ue ((Zc n i c).2.2.1<q.2.2.1))=Ud;rw[Zm,Bool.and_false];unfold Yt at f;omega
  show (q.2.2.2.2.2.2.2.2.2.1&&(Uc&&Ue ((Zc n i c).2.2.1<Va .i64 (q.2.2.1+(WN n q.1).2.2.2.1))))=Ud;rw[ZB (by omega) (by omega)]
  cases D:q.2.2.2.2.2.2.2.2.2.1 with
  |false=>rfl|true=>
   rw[D,Zn rfl]at f;unfold Yt at f;grind
 .have⟨L,r,b,cc,st,w,e2,e3,e4⟩:=t.ride m;have⟨r',U,g1,g2,E,B,g3,g4,_⟩:=v.kind m;have hr:r' =r:=by omega
  have hc:U=cc:=by omega
  subst hr hc;have hL:=t.legs;rw[w]at hL⊢;rw[Zlp (λy u=>by
   obtain⟨_,O⟩|⟨_,O⟩:=Vaa.1 u;.rw[<-Vua.1 O];rfl
   grind)]
  refine Zgo hL g ((Zje h E B).2 ⟨by omega,?_⟩) (λ_ u=>absurd u (by show¬(Uc=Ud);decide)) (λ_ _=>Zch.2 ?_)
  .unfold JU at e;rw[Zn m]at e;unfold Yt at e;rw[g3,g4]at e;obtain e|⟨e,N⟩:=e
   .omega
   refine .inr ⟨?_,e⟩;unfold DH at N;have⟨k,I,j⟩:=Vt.1 N;obtain⟨i0,c0,j0,d0,st0,rfl,_⟩:=h.link _ I;simp[T,Vf,Bool.not_eq_true',KJ]at j;have⟨a1,_,a3,a4,a5,a6⟩:=j;unfold isLink;grind
  have:=k1 m;unfold WK at this;grind
 have⟨L,p,Q,a,w,e2,e3,e4⟩:=t.walk m;have a8:=h.path p Q;have hL:=t.legs;have f:a+p.2.2.1<=(Zc n i c).2.2.1:=by unfold JU at e;omega
 have a2:=h.time P (show c<(Zj n i).length by omega);rw[w]at hL⊢
 cases L with
 |nil=>
  rw[Vfd]at hL⊢;have K:=hL 0 (by simp);have hf:Yw n (ZA q) [Kc p.1 p.2.1 a (a+p.2.2.1)]=0:=K.2.1;have⟨f1,f2,_,_,f5,f6⟩:=YQ.1 hf;have A:p.1=q.1:=f1;have o:(!q.2.2.2.1&&Ue (a<q.2.2.1))=false:=f5;rw[hb]at o;simp[Vnb,Vga,decide_eq_false_iff_not]at o;rw[(Zh4 p.1 p.2.1 a a p.2.2.1 (Zc n i c).2.2.1).1];have ew:Kc p.1 p.2.1 ((Zc n i c).2.2.1 - p.2.2.1) (Zc n i c).2.2.1=Kc p.1 p.2.1 ((Zc n i c).2.2.1 - p.2.2.1) (((Zc n i c).2.2.1 - p.2.2.1)+p.2.2.1):=by simp
  have S:=ZqY (q:=q) h Q (a:=(Zc n i c).2.2.1 - p.2.2.1) (by omega) (by omega);rw[<-ew]at S;have s:WV n (Kc p.1 p.2.1 ((Zc n i c).2.2.1 - p.2.2.1) (Zc n i c).2.2.1) (Zy n i c d Ud)=0:=Zd2.2 (by omega);intro k m;have H:k=0\/k=1:=by grind
  obtain rfl|rfl:=H
  .refine⟨S,?_,λ_ ht=>absurd ht (by show¬((Ud&&_)=Uc);simp)⟩;show Yw n (ZA q) _=0;rw[YQ];refine⟨A,rfl,?_,?_,?_,?_⟩
   .show (Uc&&(_&&(Uc&& !Ue ((Zc n i c).2.2.1=(Zc n i c).2.2.1))))=Ud;simp
   .rfl
   .show (!q.2.2.2.1&&Ue ((Zc n i c).2.2.1 - p.2.2.1<q.2.2.1))=Ud;grind
   assumption
  exact⟨g,s,by simp⟩|cons z L=>
  rw[Zh3 (by simp)];refine Zgo hL g (Zd2.2 (by omega)) (by simp) (λu=>absurd u (by show¬(Ud=Uc);decide))
theorem Zx1(d:Whole n)(m:KN n)(k:QI (ZA q))(g:q.2.2.2.1=Ud){hF}(j:LI n.2.2.2.2.2.1 hF n (ZA q) (KF n (ZA q))){l}(e:Rc n (ZA q) (KF n (ZA q)) l):Snd n q l:=by
 induction e with
 |start=>exact⟨λi o=>absurd o (by show¬i<0;omega),λh=>absurd h (by show¬0=1;decide),λh=>absurd h (by show¬0=2;decide),λ_=>rfl⟩|step e p f=>
  have a:=Rc.li d m k j e;obtain⟨c,b⟩|⟨c,b⟩|⟨c,r,b⟩:=Xz.1 p;.exact Zy0 d.ok a.val f c b
  .exact ZyZ d.ok g a.val f a.kinds c b
  exact Zy1 d.ok g a.val f a.kinds c r b
theorem ZyY{l}(g:Snd n q l)(d:l.1.1=0\/l.1.1=1\/l.1.1=2)(f:l.1.1=1->WK n l=Uc):∀i,i<l.2.2.2.2.2.1.length->K2 n (ZA q) l.2.2.2.2.2.1 i=0:=by
 intro i j;have⟨m,o,s⟩:=g.legs i j;refine Xx.2 ⟨m,o,λk=>?_⟩;by_cases w:i+1<l.2.2.2.2.2.1.length;.grind
 obtain d|d|d:=d;.have:=g.zero d;rw[this]at j;exact absurd j (by show¬i<0;omega)
 .have⟨L,r,b,c,st,h,t,u,v⟩:=g.ride d;have e:i=L.length:=by grind
  rw[h,e,ZaV];refine Zch.2 ?_;have:=f d;unfold WK at this;grind
 have⟨L,p,x,a,h,_⟩:=g.walk d;have e:i=L.length:=by grind
 unfold XW at k;rw[h,e,ZaV]at k;exact absurd k (by show¬((Ud&&_)=Uc);simp)
def Yc(o x:Zar):Bool:=Ue (o.1=x.1)&&(Ue (x.2.1<=o.2.1)&&(Ue (o.2.2.1<=x.2.2.1)&&(Ue (o.2.2.2.1<=x.2.2.2.1)&&Ue (Tr.qandNot .u64 o.2.2.2.2.1 x.2.2.2.2.1=0))))
theorem Zyc(o x:Zar):F28 o x=Ua (Yc o x):=by
 unfold F28 Yc;by_cases a:o.1=x.1;case neg=>simp_all
 by_cases b:x.2.1<=o.2.1;case neg=>simp[*]
 by_cases c3:o.2.2.1<=x.2.2.1;case neg=>simp[*]
 by_cases c:o.2.2.2.1<=x.2.2.2.1;all_goals simp[*]
theorem ZmA{a b}:Tr.qandNot .u64 a b=0↔∀i,i<64->(Vc 64 a).getLsbD i=Uc->(Vc 64 b).getLsbD i=true:=by
 have e:Tr.qandNot .u64 a b=0↔(Vc 64 a &&& ~~~ Vc 64 b)=0#64:=by
  unfold Tr.qandNot;have c:=(Vc Vl.bits a &&& ~~~ Vc Vl.bits b).isLt;constructor
  .intro h;have d:(Vc Vl.bits a &&& ~~~ Vc Vl.bits b).toNat=0:=by generalize (Vc Vl.bits a &&& ~~~ Vc Vl.bits b).toNat=N at*;have c:N<2 ^ 64:=c;simp[Va,Vp]at h;omega
   apply Vka;assumption
  intro h;have d:(Vc Vl.bits a &&& ~~~ Vc Vl.bits b).toNat=0:=by have:(Vc Vl.bits a &&& ~~~ Vc Vl.bits b)=0#64:=h;rw[this];rfl
  rw[d];rfl
 rw[e];constructor;.intro h i f g;have:=congrArg (λv=>v.getLsbD i) h;simp[BitVec.getLsbD_zero]at this;grind
 intro h;apply BitVec.eq_of_getLsbD_eq;intro i f;simp[BitVec.getLsbD_not];grind
theorem Zya o:Yc o o=true:=by unfold Yc;rw[Zi (ZmA.2 λ_ _ h=>h)];simp
theorem Zyb{a b c}(h:Yc a b=Uc)(k:Yc b c=Uc):Yc a c=true:=by unfold Yc at*;simp[Vf]at*;have⟨g,j,l,m,e⟩:=h;have⟨o,p,r,s,f⟩:=k;rw[ZmA]at*;exact⟨by omega,by omega,by omega,by omega,λi d x=>f i d (e i d x)⟩
def Gq(D a b c d e f:Int):Prop:=b<0\/(¬a<0/\ ¬b<a/\(D=0\/d=0\/a+D<=b\/(0<c/\f<=e)))
instance (D a b na nb ua ub:Int):Decidable (Gq D a b na nb ua ub):=by unfold Gq;infer_instance
theorem Ztq{D a b c d e f g j l}(m:0<=D)(h:Gq D a b d e g j)(k:Gq D b c e f j l):Gq D a c d f g l:=by unfold Gq at*;omega
theorem Ztp{D a b c}(d:0<=b):Gq D a a b b c c:=by unfold Gq;omega
def GH(s:Hb):Int:=match s with|x::_=>(x.2.2.2.1[x.2.2.1.toNat]?).getD (-1) |[]=> -1
def GU(s:Hb):Int:=match s with|x::_=>x.2.2.1|[]=>0
def D9(s:Hb):Int:=match s with|x::_=>x.2.1.2.1|[]=>0
def Rq(s:Hb):V Zar:=(F26 s).getD []
def Dz(F:KD)(s t:Hb):Bool:=Ue (Gq F.2.1 (GH s) (GH t) (GU s) (GU t) (D9 s) (D9 t))&&(Rq t).all λx=>(Rq s).any λo=>Yc o x
theorem ZuC{F s}(a:0<=GU s):Dz F s s=true:=by unfold Dz;rw[Zi (Ztp a),Vga,Vfb];exact λx b=>Vt.2 ⟨x,b,Zya x⟩
theorem ZuD{F}(f:0<=F.2.1){a b c}(h:Dz F a b=Uc)(k:Dz F b c=Uc):Dz F a c=true:=by unfold Dz at*;simp only[Vf,KJ,Vfb,Vt]at*;refine⟨Ztq f h.1 k.1,λx l=>?_⟩;have⟨o,g,d⟩:=k.2 x l;have⟨p,j,e⟩:=h.2 o g;exact⟨p,j,Zyb e d⟩
theorem Zuo{F} h{A B s t}(hs:JP F h A s)(ht:JP F h B t):F27 s t=Ua (Ue (Gq F.2.1 (GH s) (GH t) (GU s) (GU t) (D9 s) (D9 t))):=by
 obtain⟨j,f,C,rfl,⟨a0,l⟩,S,U⟩:=hs.head;obtain⟨k,g,D,rfl,⟨a1,m⟩,T,W⟩:=ht.head;have⟨a,p,d⟩:=l A.length (Vo _);have⟨b,v,w⟩:=m B.length (Vo _);rw[Vba]at d w;have y:idx f A.length=Ua a:=by assumption
 have z:idx g B.length=Ua b:=by assumption
 have hd:=h.heads.1;have Q:GH ((Ua F,j,A.length,f,())::C)=a:=by show (f[((A.length:Int)).toNat]?).getD (-1)=a;rw[Vi,p];rfl
 have R:GH ((Ua F,k,(B.length:Int),g,())::D)=b:=by show (g[((B.length:Int)).toNat]?).getD (-1)=b;rw[Vi,v];rfl
 have M:GU ((Ua F,j,(A.length:Int),f,())::C)=(A.length:Int):=rfl;have N:GU ((Ua F,k,(B.length:Int),g,())::D)=(B.length:Int):=rfl;have O:D9 ((Ua F,j,(A.length:Int),f,())::C)=j.2.1:=rfl;have P:D9 ((Ua F,k,(B.length:Int),g,())::D)=k.2.1:=rfl;rw[Q,R,M,N,O,P];unfold F27 Gq;simp only[Tr.unc,Za,y,z];by_cases c:b<0;.rw[Zi c];simp[c]
 rw[Zm c,Ze];by_cases o:a<0;.simp_all
 rw[Zm o];simp only[Ze,Za];by_cases u:b<a;.simp_all
 rw[Zm u];have a8:a<=8000000:=by
  obtain⟨rfl,_⟩|⟨_,r,_⟩:=d;.omega
  have:=ZjJ h r;grind
 have x:Va .i64 (a+F.2.1)=a+F.2.1:=ZB (by omega) (by omega);simp only[Ze,x];by_cases H:F.2.1=0;.simp[*]
 rw[Zm H];by_cases E:(B.length:Int)=0;.simp_all
 rw[Zm E];by_cases c3:a+F.2.1<=b;.simp_all
 rw[Zm c3];by_cases J:(0:Int)<(A.length:Int);case neg=>simp_all
 rw[Zi J];simp only[Zf,Ze,Za];have K:0<A.length:=by omega
 have I:B≠ []:=by intro e;subst e;simp at E
 simp[*]
theorem ZuG{F} h{A B s t}(E:JP F h A s)(H:JP F h B t)(N:∀v∈A,Jp v)(O:∀v∈B,Jp v):F20 s t=Ua (Dz F s t):=by
 have C:=Zuo h E H;have⟨L,k,P,ra,sa,ta,es,T,Q⟩:=Zhc h E N;have⟨M,l,R,rb,sb,tb,I,U,S⟩:=Zhc h H O;have d:F.1.length<=4096:=by have:=h.many;omega
 have y:Tr.unc s=Ua (Ua F,ta,ra,(A.length:Int),sa,()):=by rw[es];rfl
 have z:Tr.unc t=Ua (Ua F,tb,rb,(B.length:Int),sb,()):=by rw[I];rfl
 have ns:Vtd s=false:=by grind
 have nt:Vtd t=false:=by grind
 have tL:Rq s=L:=by unfold Rq;rw[k];rfl
 have tM:Rq t=M:=by unfold Rq;rw[l];rfl
 unfold F20 Dz;rw[tL,tM];simp only[ns,nt,Ze,y,z,Za,ZyJ d,Vj,C]
 cases Ue (Gq F.2.1 (GH s) (GH t) (GU s) (GU t) (D9 s) (D9 t)) with
 |false=>simp|true=>
 simp only[Vj,Ze,k,l,Za,Vga];refine KK (λr=>r=if (M.all λx=>L.any λo=>Yc o x)=Uc then .inl () else .inr Ud) ?_ ?_
 .refine Kg M.length _ (λi s=>s=(i:Int)/\(M.take i).all (λx=>L.any λo=>Yc o x)=Uc) ?_ ?_ _ (by simp)
  .rintro i _ p ⟨rfl,w⟩;have W:idx M (i:Int)=Ua M[i]:=ZC p;simp only[ZL p,Zf,W,Za,ZU p (by omega)];have D:run (λa=>
    bif Ue (a.2<(↑(Vg L):Int)) then
    Vb (idx L a.2) λe=>
    Vb (bif a.1 then Ua Uc else Vb (F28 e M[i]) λf=>Ua f) λg=>
    Ua (.inl (g,Va .i64 (a.2+(1:Int))))
    else Ua (.inr a.1)) (Ud,(0:Int))=Ua (L.any λo=>Yc o M[i]):=by
    have⟨r,J,K⟩:=Kg (step:=λa=>
     bif Ue (a.2<(↑(Vg L):Int)) then
     Vb (idx L a.2) λe=>
     Vb (bif a.1 then Ua Uc else Vb (F28 e M[i]) λf=>Ua f) λg=>
     Ua (.inl (g,Va .i64 (a.2+(1:Int))))
     else Ua (.inr a.1)) L.length (λr=>r=L.any λo=>Yc o M[i]) (λj (s:Bool×Int)=>s.2=(j:Int)/\s.1=(L.take j).any λo=>Yc o M[i]) (by
      rintro j ⟨b,_⟩ u ⟨rfl,c⟩;left;have hy:idx L (j:Int)=Ua L[j]:=ZC u;simp at c;simp only[ZL u,Zf,hy,Za,ZU u (by omega),Zyc];rw[Vd u,Vad];subst c
      cases c:(L.take j).any λo=>Yc o M[i] with
      |true=>exact⟨_,rfl,rfl,by simp⟩|false=>exact⟨_,rfl,rfl,by simp⟩) (by
      rintro ⟨b,_⟩ ⟨rfl,c⟩;rw[Vba]at c;exact⟨_,by simp[JJ,Ze],c⟩) (Ud,0) (by simp)
    rw[J,K]
   rw[D];simp only[Za]
   cases c:L.any λo=>Yc o M[i] with
   |false=>
    right;refine⟨_,rfl,?_⟩;rw[Zg];intro m;have:=Vfb.1 m M[i] (Vh p)
    rw[c]at this;cases this|true=>
    left;refine⟨_,rfl,rfl,?_⟩;rw[Vd p,List.all_append,w];simp[c]
  rintro _ ⟨rfl,w⟩;rw[Vba]at w;exact⟨_,by simp[JJ,Ze];rfl,by rw[Zn w]⟩
 rintro r rfl
 cases c:(M.all λx=>L.any λo=>Yc o x) with|true|false=>rfl
theorem ZuE{F} h{A B s t}(hs:JP F h A s)(ht:JP F h B t)(hA:∀v∈A,Jp v)(hB:∀v∈B,Jp v)(hd:Dz F s t=Uc):Dm.Dom (Ji F h.fareOk) F.1.length (A.map Kj) (B.map Kj):=by
 have⟨H,b5,b7,P,_,_,a4⟩:=hs.head;have⟨I,b6,b8,Q,_,_,a5⟩:=ht.head;have⟨L,T,_,ra,sa,ta,es,k,U⟩:=Zhc h hs hA;have⟨M,W,_,rb,sb,tb,et,l,a0⟩:=Zhc h ht hB;have tL:Rq s=L:=by unfold Rq;rw[T];rfl
 have tM:Rq t=M:=by unfold Rq;rw[W];rfl
 unfold Dz at hd;rw[tL,tM,Vf,KJ,Vfb]at hd;have⟨J,u⟩:=hd;refine Dm.dom_of (λy hy=>?_) ?_
 .have⟨a,a1,m⟩:=k.2 A.length (Vo _);have⟨b,a3,w⟩:=l.2 B.length (Vo _);rw[Vba]at m w;have ea:GH s=a:=by rw[es];show (sa[((A.length:Int)).toNat]?).getD (-1)=a;rw[Vi,a1];rfl
  have eb:GH t=b:=by rw[et];show (sb[((B.length:Int)).toNat]?).getD (-1)=b;rw[Vi,a3];rfl
  have n1:GU s=(A.length:Int):=by rw[es];rfl
  have n2:GU t=(B.length:Int):=by rw[et];rfl
  have u1:D9 s=H.2.1:=by rw[P];rfl
  have u2:D9 t=I.2.1:=by rw[Q];rfl
  rw[ea,eb,n1,n2,u1,u2]at J;obtain⟨_,R⟩|⟨b1,z⟩:=w;.exact absurd hy.1 (R y)
  have b0:y=b:=Vgd (hy.2 b z.1) (z.2 y hy.1);subst b0;unfold Gq at J;obtain J|⟨c1,c2,c3⟩:=J;.omega
  obtain⟨rfl,_⟩|⟨_,a2,_⟩:=m;.omega
  refine⟨a,a2,by omega,?_⟩;show F.2.1=0\/_\/a+F.2.1<=y\/_;obtain c3|c3|c3|⟨c3,c4⟩:=c3;.exact .inl c3
  .have:B=[]:=Vja (by omega);subst this;exact .inr (.inl rfl)
  .exact .inr (.inr (.inl c3))
  by_cases j:B=[];.subst j;exact .inr (.inl rfl)
  refine .inr (.inr (.inr ⟨H.2.1,I.2.1,?_,?_,c4⟩))
  .rw[ZaU]
   cases c:A.getLast? with|none=>rw[Vvb]at c;subst c;exact absurd c3 (by simp)|some x=>rw[a4 x (by rw[c];simp)];rfl
  rw[ZaU]
  cases d:B.getLast? with|none=>rw[Vvb]at d;exact absurd d j|some x=>rw[a5 x (by rw[d];simp)];rfl
 intro B0 r B1 p b S hp hb C hz hm;obtain⟨g,b4,rfl,k1,k2⟩:=Vya.1 S;obtain⟨N,K,rfl,k3,k4⟩:=Vgc.1 k2;subst k1 k3 k4;have D:(g++N::K).take g.length=g:=by simp
 have f:(g++N::K).drop g.length=N::K:=by simp
 have⟨y,a9,E⟩:=l.2 g.length (by simp);rw[D]at E;obtain⟨rfl,a8⟩:y=b/\0<=y:=by
  obtain⟨_,a6⟩|⟨h0,h1,R⟩:=E;.exact absurd hb.1 (a6 b)
  exact⟨Vgd (R b hb.1) (hb.2 y h1),h0⟩
 have hx:=(a0 _).2 ⟨g.length,by simp,p,hp,y,N,by simp,a9,a8,⟨by have b2:(K.map Kj).length+1<(KP F p).2.2.1.toNat:=C;grind,by rw[f,ZkV];assumption,by rw[f,Zn9];assumption⟩,rfl⟩;have⟨o,ho,q⟩:=Vt.1 (u _ hx);unfold Yc at q;simp only[Vf,KJ]at q;have⟨q1,q2,q3,q4,q5⟩:=q;obtain⟨i,hi,p',b3,a,ro,g1,g2,g3,⟨g4,g5,g6⟩,rfl⟩:=(U o).1 ho;simp only at q1 q2 q3 q4 q5;have a7:p' =p:=by grind
 subst a7;have⟨a',e1,O⟩:=k.2 i (by omega);rw[g2]at e1;cases e1;obtain⟨rfl,_⟩|⟨_,O,_⟩:=O;.omega
 have e:A.drop i=ro::A.drop (i+1):=by rw[Vm hi];grind
 refine⟨(A.take i).map Kj,Kj ro,(A.drop (i+1)).map Kj,a,?_,O,?_,q2,?_,?_,?_⟩;.rw[<-Vu,<-e,<-Vs,Vw]
 .rw[<-Vu,<-e,<-Zn9];assumption
 .grind
 .rw[ZaU,ZaU];rw[D]at q4;assumption
 rw[<-Vu,<-e,<-Vu,<-ZkV,<-ZkV];rw[f]at q5;exact ZrX (Zbd λv hv=>(hA v (Vha hv)).1) (Zbd λv hv=>(hB v (by grind)).1) q5
end Q
end
