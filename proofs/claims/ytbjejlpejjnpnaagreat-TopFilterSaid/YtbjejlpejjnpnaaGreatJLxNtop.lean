/- Chapter 38: prices by the program and by the reference. -/
import Derived.KernelRfl
import Derived.Test.YtbjejlpejjnpnaaGreatJLwJa28top
import Derived.Test.YtbjejlpejjnpnaaGreatETsF
import Derived.Test.YtbjejlpejjnpnaaGreatLxPop
open BitVec renaming ofInt ->Vf,eq_of_toNat_eq ->Vab,ofInt_natCast ->Vfb,toNat_ofInt ->Vlb,toNat_ofNat ->Vmb,toNat_and ->Vvb,ofNat ->Vod
open Bool renaming not_true ->Vd,and_eq_true ->Vi,not_eq_false' ->Vn,not_false ->Vt,or_eq_false_iff ->Vha,false_eq_true ->Vnb,false_and ->Vlc,and_false ->Vdd,true_and ->Vid,and_true ->Vkd,false_or ->Vld,or_true ->Vmd
open Iff renaming rfl ->Voc
open Int renaming toNat_natCast ->Vj,toNat_of_nonneg ->Vca,toNat ->Vfa,le_refl ->Voa,fdiv ->Vxa,natCast_add ->Vjb,fdiv_eq_ediv_of_nonneg ->Vqb,le_trans ->Vac,le_antisymm ->Vad
open Go.IntKind renaming wrap ->Va,signed ->Vo,bits ->Vs,i64 ->Vv,u64 ->Via
open List renaming getElem?_eq_getElem ->Vc,getElem_mem ->Ve,take_succ_eq_append_getElem ->Vg,length ->Vh,length_append ->Vk,length_map ->Vl,drop_eq_getElem_cons ->Vm,range ->Vp,length_nil ->Vq,mem_singleton ->Vr,replicate ->Vu,append_nil ->Vw,map_append ->Vx,take_append_drop ->Vz,mem_append ->Vaa,foldl_append ->Vba,map_cons ->Vda,mem_of_mem_drop ->Vga,getElem_of_mem ->Vja,length_cons ->Vka,mem_flatMap ->Vla,append_assoc ->Vna,mem_of_mem_take ->Vpa,length_take ->Vqa,take_length ->Vra,getElem?_eq_some_iff ->Vsa,getElem?_map ->Vva,getElem?_set_self ->Vwa,map_eq_append_iff ->Vya,cons_append ->Vcb,perm_append_comm ->Vdb,getElem?_set_ne ->Vgb,mem_append_left ->Vhb,take ->Vib,flatMap_append ->Vkb,pairwise_iff_getElem ->Vtb,getLast?_eq_getElem? ->Vub,length_drop ->Vyb,any_eq_true ->Vzb,foldl_cons ->Vcc,length_set ->Vec,take_of_length_le ->Vgc,set_append_right ->Vhc,length_filter_le ->Vic,mem_of_getElem? ->Vmc,map_eq_cons_iff ->Vnc,any_cons ->Vpc,take_succ_cons ->Vqc,set ->Vrc,getElem?_take ->Vsc,drop ->Vvc,drop_length ->Vwc,foldr_cons ->Vyc,nil_append ->Vzc,sum_append ->Vcd,drop_drop ->Ved,take_take ->Vfd,drop_take ->Vgd,mem_range ->Vhd,set_set ->Vnd,isEmpty ->Vpd,map ->Vqd
open Nat renaming shiftRight_eq_div_pow ->Vy,le_refl ->Vea,or_assoc ->Vma,min_eq_left ->Vta,lt_or_ge ->Vua,testBit_eq_decide_div_mod_eq ->Vza,zero_le ->Vbb,and_two_pow_sub_one_eq_mod ->Veb,add_sub_cancel ->Vob,lt_of_le_of_lt ->Vpb,or_lt_two_pow ->Vrb,mod_eq_of_lt ->Vwb,mod_lt ->Vxb,zero_add ->Vbc,div_le_self ->Vdc,zero_or ->Vjc,le_of_lt ->Vtc,pow_succ ->Vuc,mul_assoc ->Vjd
open Option renaming bind ->Vb,isNone_iff_eq_none ->Vsb,map_some ->Vfc,getD ->Vkc,elim_some ->Vxc
open Prod renaming fst ->Vbd
namespace Q
open Tr Go Dv
def Small(v:ZJ):Prop:=(0<=v.2.2.1/\v.2.2.1<65536)/\(0<=v.2.2.2.1/\v.2.2.2.1<65536)
theorem Zej{a b:Int}(c:0<=a/\a<65536)(d:0<=b/\b<65536):0<=KJ .i64 a b/\KJ .i64 a b<65536:=by obtain⟨x,rfl⟩:∃x:Nat,a=(x:Int):=⟨_,(Vca c.1).symm⟩;obtain⟨y,rfl⟩:∃y:Nat,b=(y:Int):=⟨_,(Vca d.1).symm⟩;rw[HG (by omega) (by omega)];have:x ||| y<2 ^ 16:=Vrb (n:=16) (by omega) (by omega);omega
theorem ZkE{n:Zf}(h:Ws n){x:Zt}(a:Ku n x=true):(0<=((Hn n x:Nat):Int)/\((Hn n x:Nat):Int)<65536)/\(0<=((2 ^ (Hk n x).2.1.toNat:Nat):Int)/\((2 ^ (Hk n x).2.1.toNat:Nat):Int)<65536):=by
 have d:=ZcQ h a;obtain⟨_,_,c,b⟩:=Zaf h a;have e:=YW b
 grind
theorem ZnE{n:Zf}(h:Ws n){x:Zt}(e:Ku n x=true){out:List ZJ}(c:∀v∈out,Small v):∀v∈XH n x out,Small v:=by
 intro v a;unfold XH at a;split at a
 ·rename_i u d;unfold XX at a;rcases List.mem_or_eq_of_mem_set a with a|rfl
  ·grind
  ·obtain⟨f,g⟩:=ZkE h e;have b:=c u (Vmc d);exact⟨Zej b.1 f,Zej b.2 g⟩
 grind
theorem Zgm{n:Zf}(h:Ws n):∀(L:List Zt) (rode:Bool) (out l:List ZJ) (e:Int),K2 n L rode out=(l,e)->(∀v∈out,Small v)->∀v∈l,Small v
 |[],_,out,l,e,a,c=>by
  unfold K2 at a
  grind
 |x::L,rode,out,l,e,a,c=>by
  rw[Gg]at a;by_cases f:x.1=true/\Ku n x=false
  ·grind
  rw[Zg f]at a;by_cases g:KG x=true/\(x.1=false\/rode=false)
  ·grind
  rw[Zg g]at a;by_cases c3:x.1=true
  ·rw[Zn c3]at a
   have d:Ku n x=true:=by
    grind
   refine Zgm h L true _ l e a ?_;split
   ·exact ZnE h d c
   ·intro v b;rcases Vaa.1 b with b|b
    ·grind
    ·simp only[Vr]at b;subst b;exact ZkE h d
  ·rw[Zg c3]at a;exact Zgm h L false out l e a c
theorem Zrd(a b d:Int)(f:0<=d):F112 a b d=some (!Gt a b d):=by
 unfold F112 Gt
 have g:∀x:Int,0<=Va .u64 x:=fun x=>by simp [Va,Vs,Vo];omega
 rw[Zk (show¬d<0 by omega)];by_cases h:a<=b
 ·rw[Ze h];by_cases c:b<=a
  ·have e:a=b:=by omega
   subst e;rw[Ze c];have e0:Va .u64 (Va .u64 a - Va .u64 a)=0:=by rw[Int.sub_self];rfl
   grind
  ·rw[Zk c];simp only[Zc,Zd,Za];congr 1
   grind
 grind
def zF(s:List ZJ):Nat:=s.foldl (fun a v=>a ||| v.2.2.1.toNat) 0
def mF(s:List ZJ):Nat:=s.foldl (fun a v=>a ||| v.2.2.2.1.toNat) 0
theorem Zgk{f:ZJ->Int} :∀(s:List ZJ) (a:Nat),(∀v∈s,0<=f v/\f v<65536)->a<65536->s.foldl (fun a v=>a ||| (f v).toNat) a<65536
 |[],a,_,h=>h
 |v::s,a,b,h=>by rw[Vcc];refine Zgk s _ (by grind) ?_;have c:=b v List.mem_cons_self;have:a ||| (f v).toNat<2 ^ 16:=Vrb (n:=16) (by omega) (by omega);omega
theorem Rr{s:List ZJ}(a:∀v∈s,Small v):zF s<65536:=Zgk (f:=fun v=>v.2.2.1) s 0 (fun v b=>(a v b).1) (by omega)
theorem ZgS{s:List ZJ}(a:∀v∈s,Small v):mF s<65536:=Zgk (f:=fun v=>v.2.2.2.1) s 0 (fun v b=>(a v b).2) (by omega)
def H7(p:JO)(s:List ZJ):Bool:=
 decide ((s.length:Int)<=p.2.2.1) && (decide (((We 62 (zF s):Nat):Int)<=p.2.2.2.1) && (Gt ((s[0]?).getD GM).1 ((s[s.length - 1]?).getD GM).1 p.2.2.2.2.1&&decide (Tr.qandNot .i64 ((mF s:Nat):Int) p.2.2.2.2.2.1=0)))
theorem Ziz(a b:Int):decide (Tr.qandNot .u64 a (Va .u64 b)=0)=decide (Tr.qandNot .i64 a b=0):=by
 have d:Vf 64 (Va .u64 b)=Vf 64 b:=by apply Vab;rw[Vlb,Vlb];simp only[Va,Vs,Vo];omega
 unfold Tr.qandNot;show decide (Via.wrap ((Vf 64 a &&& ~~~ Vf 64 (Va .u64 b)).toNat:Int)=0)=decide (Vv.wrap ((Vf 64 a &&& ~~~ Vf 64 b).toNat:Int)=0);rw[d];have c:=by omega
 generalize (Vf 64 a &&& ~~~ Vf 64 b).toNat=N at*;refine decide_eq_decide.2 ?_;simp only[Va,Vs,Vo]
 grind
theorem Zjl{p:JO}{s:List ZJ}(e:∀v∈s,Small v)(c:0<s.length)(d:s.length<=100)(h:0<=p.2.2.2.2.1):F110 p s=some (H7 p s):=by
 unfold F110 H7;rw[Zk (by omega)];have el:Va .i64 ((s.length:Int) - 1)=((s.length - 1:Nat):Int):=by rw[Zy (by omega) (by omega)];omega
 have m:idx s (0:Int)=some s[0]:=ZC (i:=0) c;have b:s.length - 1<s.length:=by omega
 simp only[Zd,el,ZC b,m,Za,Zrd _ _ _ h];rw[Kq c,Kq b];by_cases g:p.2.2.1<(s.length:Int)
 ·grind
 rw[Zk g,Ze (by omega)]
 cases C:Gt (s[0]).1 (s[s.length - 1]).1 p.2.2.2.2.1 with
 |false=>
  simp
 |true=>
  simp only[Vd,Zd,Za];refine KM (fun r:Int×Int=>r=(((zF s:Nat):Int),((mF s:Nat):Int))) ?_ ?_
  ·refine Ki s.length _ (fun i (t:Int×Int×Int)=>t=(((zF (s.take i):Nat):Int),((mF (s.take i):Nat):Int),(i:Int))) ?_ ?_ _ rfl
   ·rintro i _ a rfl;left;have j:=e _ (Ve a);have E:=Rr (s:=s.take i) (by grind);have G:=ZgS (s:=s.take i) (by grind);have f:zF (s.take (i+1))=zF (s.take i) ||| (s[i]).2.2.1.toNat:=by unfold zF;rw[Vg a,Vba];rfl
    have em:mF (s.take (i+1))=mF (s.take i) ||| (s[i]).2.2.2.1.toNat:=by unfold mF;rw[Vg a,Vba];rfl
    refine⟨_,?_,rfl⟩;rw[f,em];generalize zF (s.take i)=Z at*;generalize mF (s.take i)=M at*;simp only[ZO a,Zc,ZC a,Za,ZW a (by omega),F111,F2];generalize s[i]=v at*;obtain⟨⟨w,z⟩,A,B⟩:=j;obtain⟨x,k⟩:∃x:Nat,v.2.2.1=(x:Int):=by grind
    obtain⟨y,l⟩:∃y:Nat,v.2.2.2.1=(y:Int):=by grind
    have o:Va .u64 (x:Int)=(x:Int):=by simp [Va,Vs,Vo];omega
    have u:Va .u64 (y:Int)=(y:Int):=by simp [Va,Vs,Vo];omega
    rw[k,l,o,u,Za1 (by omega) (by omega),Za1 (by omega) (by omega)];simp
   simp
  ·rintro r rfl;have D:=Rr e
   have d:F1 ((zF s:Nat):Int)=some ((We 62 (zF s):Nat):Int):=by show lenF ((zF s:Nat):Int)=_;unfold lenF;rw[Ze ⟨by omega,by omega⟩,Vj,Zr7 (by omega)];rfl
   simp only[d,Za,F4,Ziz]
   grind
theorem ZoS{z:Nat}(l:z<65536):F138 (z:Int)=some ((We 62 z:Nat):Int):=by
 unfold F138;refine KM (fun r=>r=((We 62 z:Nat):Int)) ?_ (by simp)
 have a:∀k,We k z<=k:=by
  intro k
  induction k with
  |zero=>exact Vea _
  |succ k m=>rw[We];omega
 refine Ki 62 _ (fun i (s:Int×Int)=>s=(((We i z:Nat):Int),(i:Int))) ?_ ?_ _ rfl
 ·rintro i _ j rfl;left;refine⟨_,?_,rfl⟩;have h:=a i
  have e:Hj .i64 (z:Int) (i:Int)=some ((z >>> i:Nat):Int):=by unfold Hj;rw[Zg (by omega),Vj,show min i (Vv.bits)=i from Vta (show i<=64 by omega),Vy,Vqb _ (by grind)];simp
  have d:z >>> i<=z:=by rw[Vy];exact Vdc _ _
  have c:ZB .i64 ((z >>> i:Nat):Int) 1=((z >>> i % 2:Nat):Int):=by
   unfold ZB
   have b:(Vf Vv.bits ((z >>> i:Nat):Int) &&& Vf Vv.bits 1).toNat=z >>> i % 2:=by rw[Vvb,Vfb,Vmb];show (z >>> i) % 2 ^ 64 &&& 1=z >>> i % 2;simp
   rw[b,Zy (by omega) (by omega)]
  have f:Va .i64 (((We i z:Nat):Int)+1)=((We i z+1:Nat):Int):=by rw[Zy (by omega) (by omega)];omega
  have g:Va .i64 ((i:Int)+1)=((i+1:Nat):Int):=by rw[Zy (by omega) (by omega)];omega
  rw[Ze (by omega)];simp only[Zc,e,Za,c,f,g];rw[We]
  grind
 simp
theorem ZmX(a b d:Int):F139 a b d=some (Gt a b d):=by
 unfold F139 Gt
 grind
theorem ZpS{p:JO}{l:List ZJ}(K:∀v∈l,Small v){i k:Nat}(u:i<=k)(w:k<l.length)(J:l.length<=100):F131 p l (i:Int) (k:Int)=some (H7 p ((l.drop i).take (k+1 - i))):=by
 have g:((l.drop i).take (k+1 - i)).length=k+1 - i:=by grind
 have b:∀c,c<k+1 - i->((l.drop i).take (k+1 - i))[c]? =l[i+c]? :=by grind
 have d:∀v∈(l.drop i).take (k+1 - i),Small v:=by grind
 unfold F131 H7;generalize I:(l.drop i).take (k+1 - i)=s at*;refine KM (fun r:Int×Int=>r=(((zF s:Nat):Int),((mF s:Nat):Int))) ?_ ?_
 ·refine Ki (k+1 - i) _ (fun c (t:Int×Int×Int)=>t=(((zF (s.take c):Nat):Int),((mF (s.take c):Nat):Int),((i+c:Nat):Int))) ?_ ?_ _ rfl
  ·rintro c _ o rfl;left;have a:c<s.length:=by omega
   have e:=b c o;rw[Vc a,Vc (by omega)]at e;have e:=(Option.some.inj e).symm;have z:=d _ (Ve a);have N:=Rr (s:=s.take c) (by grind);have O:=ZgS (s:=s.take c) (by grind);have j:zF (s.take (c+1))=zF (s.take c) ||| (s[c]).2.2.1.toNat:=by unfold zF;rw[Vg a,Vba];rfl
   have em:mF (s.take (c+1))=mF (s.take c) ||| (s[c]).2.2.2.1.toNat:=by unfold mF;rw[Vg a,Vba];rfl
   have f:Va .i64 (((i+c:Nat):Int)+1)=((i+(c+1):Nat):Int):=by rw[Zy (by omega) (by omega)];omega
   refine⟨_,?_,rfl⟩;rw[j,em,Ze (show ((i+c:Nat):Int)<=(k:Int) by omega)];generalize zF (s.take c)=Z at*;generalize mF (s.take c)=M at*;simp only[Zc,ZC (show i+c<l.length by omega),Za,e,f];generalize s[c]=v at*;obtain⟨⟨D,E⟩,G,H⟩:=z;obtain⟨x,A⟩:∃x:Nat,v.2.2.1=(x:Int):=by grind
   obtain⟨y,B⟩:∃y:Nat,v.2.2.2.1=(y:Int):=by grind
   rw[A,B,HG (by omega) (by omega),HG (by omega) (by omega)];simp
  grind
 ·rintro r rfl;have C:=Rr d;have f:Va .i64 ((k:Int) - (i:Int))=((k - i:Nat):Int):=by rw[Zy (by omega) (by omega)];omega
  have h:Va .i64 (((k - i:Nat):Int)+1)=(s.length:Int):=by rw[Zy (by omega) (by omega)];omega
  have g0:((s[0]?).getD GM)=l[i]:=by grind
  have m:((s[s.length - 1]?).getD GM)=l[k]:=by grind
  rw[f,h,g0,m];simp only[ZoS C,Za,ZC (show i<l.length by omega),ZC w,ZmX]
  grind
end Q
namespace Q
open Tr Go Dv
theorem Zus(x:Int):Va .i64 x=(x+9223372036854775808) % 18446744073709551616 - 9223372036854775808:=by simp [Va,Vo,Vs];omega
theorem ZeN(j:Hq):F82 j=F137 j:=by
 unfold F82 F137;congr 2;funext s;congr 1;congr 1;funext x
 cases g:x.1 with
 |true=>simp
 |false=>
  simp only[Zd,Vt,Zc];by_cases d:x.2.2.2.2.2.2.1<0
  ·grind
  ·rw[show decide (x.2.2.2.2.2.2.1<0)=false from Zk d,show decide ((0:Int)<=x.2.2.2.2.2.2.1)=true from (by grind)];simp only[Zd,Zc];by_cases e:x.2.2.2.2.2.2.2.1<x.2.2.2.2.2.2.1
   ·grind
   ·rw[show decide (x.2.2.2.2.2.2.2.1<x.2.2.2.2.2.2.1)=false from Zk e,show decide (x.2.2.2.2.2.2.1<=x.2.2.2.2.2.2.2.1)=true from (by grind)];simp only[Zd,Zc,Za];by_cases f:(14400:Int)<Va .i64 (x.2.2.2.2.2.2.2.1 - x.2.2.2.2.2.2.1)
    ·grind
    ·rw[show decide ((14400:Int)<Va .i64 (x.2.2.2.2.2.2.2.1 - x.2.2.2.2.2.2.1))=false from Zk f,show decide (Va .i64 (x.2.2.2.2.2.2.2.1 - x.2.2.2.2.2.2.1)<=(14400:Int))=true from (by grind)];simp only[Zd,Zc]
     have:∀a b c:Int,Va .i64 (a+Va .i64 (b - c))=Va .i64 (Va .i64 (a+b) - c):=by intro a b c;simp only[Zus];omega
     simp_all
theorem Zqk{F:Kc}(h:(Jq F).2=0):∀p∈F.1,0<=p.2.2.2.2.1:=by
 unfold Jq at h;by_cases e:HB F=false
 ·grind
 rw[Zg e]at h;by_cases b:16<F.1.length
 ·grind
 rw[Zg b]at h;have g:=Za5 h;intro p f;obtain⟨i,d,rfl⟩:=Vja f;have a:=g i d;unfold Hh at a;rw[Kq d]at a;obtain⟨_,_,c⟩:=GI.1 a;have c:Yu F.1[i]=true:=by grind
 unfold Yu at c
 grind
theorem Zse(F:Kc)(p:JO)(l:List ZJ)(i:Nat)(b:i<l.length)(g:l.length<=100)(e:0<=p.2.1/\p.2.1<=1000000)(f:0<=F.2.1/\F.2.1<=1000000):F135 F p l (i:Int)=some (HJ F p l i):=by
 unfold F135 HJ;have c:Va .i64 (p.2.1 - F.2.1)=p.2.1 - F.2.1:=Zy (by omega) (by omega)
 have em:Tr.imax 0 (p.2.1 - F.2.1)=if 0<p.2.1 - F.2.1 then p.2.1 - F.2.1 else 0:=rfl
 by_cases d:0<i
 ·have a:Va .i64 ((i:Int) - 1)=((i - 1:Nat):Int):=by rw[Zy (by omega) (by omega)];omega
  rw[Ze (by omega)];simp only[Zc,a,ZC (show i - 1<l.length by omega),ZC b,Za,ZmX]
  grind
 grind
theorem Zf2{F:Kc}(c:(Jq F).2=0){l:List ZJ}(g:∀v∈l,Small v)(f:l.length<=100){p i k:Nat}(b:p<F.1.length)(d:i<=k)(e:k<l.length):(ZM F l).cov p i k=H7 F.1[p] ((l.drop i).take (k+1 - i)):=by
 show RP ((F.1[p]?).getD p0) ((l.drop i).take (k+1 - i))=_;rw[Kq b];have a:((l.drop i).take (k+1 - i)).length=k+1 - i:=by grind
 have:=Zjl (p:=F.1[p]) (s:=(l.drop i).take (k+1 - i)) (by grind) (by omega) (by omega) (Zqk c _ (Ve b));unfold RP
 grind
abbrev XP:=Bool×Int×List Tk×Unit
def HX(c:Kw)(r:XP):Prop:=match c with
 |none=>r.1=false
 |some (s,t)=>r.1=true/\r.2.1=s/\r.2.2.1=t
def Yg(n:Nat)(f:Nat->Kw)(T:List XP):Prop:=T.length=n+1/\ ∀j,j<=n->∃r,T[j]? =some r/\HX (f j) r
theorem HX.ok{s:Int}{t:List Tk}{r:XP}(h:HX (some (s,t)) r):r.1=true/\r.2.1=s/\r.2.2.1=t:=h
theorem Yg.congr{n:Nat}{f g:Nat->Kw}{T:List XP}(h:Yg n f T)(e:∀j,j<=n->g j=f j):Yg n g T:=
 ⟨h.1,fun j a=>by rw[e j a];exact h.2 j a⟩
theorem Yg.set{n:Nat}{f:Nat->Kw}{T:List XP}(h:Yg n f T){i:Nat}(d:i<=n){c:Kw}{r:XP}(e:HX c r):Yg n (Jj f i c) (T.set i r):=by
 refine⟨by rw[Vec];exact h.1,fun j b=>?_⟩;unfold Jj;by_cases a:j=i
 ·subst a;rw[Zn rfl,Vwa (by rw[h.1];omega)]
  grind
 ·rw[Zg a,Vgb (Ne.symm a)];exact h.2 j b
theorem ZmE(f:Nat->Kw)(i:Nat):Jj f i (f i)=f:=by
 funext j;unfold Jj
 grind
theorem ZlS(L:Law)(i k:Nat)(cur:Kw):∀m,Gl L none i k cur m=cur
 |0=>rfl
 |m+1=>by rw[Gl,ZlS L i k cur m];rfl
def bz:XP:=(false,0,[],())
theorem Zsh{F:Kc}(Z:(Jq F).2=0){l:List ZJ}(hl:l.length<=8)(hs:∀v∈l,Small v){f:Nat->Kw}{T:List XP}(g:Yg l.length f T)(hB:Bd l.length f){i k p:Nat}(o:i<=k)(hk:k<l.length)(B:p<F.1.length){s:Int}{t:List Tk}(A:f (k+1)=some (s,t)):
 ∃X,(Vb (idx F.1 (p:Int)) fun x8=>
 Vb (F131 x8 l (i:Int) (k:Int)) fun x9=>
 bif !x9 then some (.inl (T,Va .i64 ((p:Int)+(1:Int))))
 else
 Vb (idx F.1 (p:Int)) fun G=>
 Vb (F135 F G l (i:Int)) fun a=>
 Vb (Zp (Va .i64 ((k:Int)+(1:Int))) (Vh T)) fun H=>
 Vb T[H]? fun e=>
 Vb
 (Vb (Zp (i:Int) (Vh T)) fun I=>
 Vb T[I]? fun J=>
 bif J.1 then
 Vb (Zp (i:Int) (Vh T)) fun K=>
 Vb T[K]? fun M=>
 bif decide (M.2.1<Va .i64 (a+e.2.1)) then some true
 else
 Vb (Zp (i:Int) (Vh T)) fun N=>
 Vb T[N]? fun O=>
 bif decide (Va .i64 (a+e.2.1)=O.2.1) then
 Vb (Zp (Va .i64 ((k:Int)+(1:Int))) (Vh T)) fun P=>
 Vb T[P]? fun Q=>
 Vb (Zp (i:Int) (Vh T)) fun R=>
 Vb T[R]? fun U=>
 some
 (decide
 ((↑(Vh U.2.2.1):Int)<=
 Va .i64 ((1:Int)+(↑(Vh Q.2.2.1):Int))))
 else some false
 else some false)
 fun V=>
 bif V then some (.inl (T,Va .i64 ((p:Int)+(1:Int))))
 else
 Vb (Zp (Va .i64 ((k:Int)+(1:Int))) (Vh T)) fun W=>
 Vb T[W]? fun u=>
 Vb (ZE (decide (Vh [((p:Int),(i:Int),(k:Int),a,())]+Vh u.2.2.1<=Zz)))
 fun _=>
 Vb (Zp (i:Int) (Vh T)) fun w=>
 Vb T[w]? fun _=>
 some
 (.inl
 (Vrc T w
 (true,Va .i64 (a+e.2.1),[((p:Int),(i:Int),(k:Int),a,())]++u.2.2.1,()),
 Va .i64 ((p:Int)+(1:Int)))))=(some (.inl (X,((p+1:Nat):Int))):Option ((List XP×Int) ⊕ List XP))/\Yg l.length (Jj f i (H4 (ZM F l) (f (k+1)) i k p (f i))) X:=by
 have hF:=ZbV Z;have d:=hF.price _ (Ve B);have hm:=hF.many;obtain⟨b1,b2,b3⟩:=hB (k+1) s t (by omega) A;have e1:Va .i64 ((k:Int)+1)=((k+1:Nat):Int):=by rw[Zy (by omega) (by omega)];omega
 have e2:Va .i64 ((p:Int)+1)=((p+1:Nat):Int):=by rw[Zy (by omega) (by omega)];omega
 obtain⟨rk,E,h⟩:=g.2 (k+1) (by omega);obtain⟨r,D,b⟩:=g.2 i (by omega);rw[A]at h;obtain⟨c1,c2,c3⟩:=HX.ok h;have a1:=g.1;have z:Zp ((k+1:Nat):Int) T.length=some (k+1):=Kg (by omega);have y:Zp (i:Int) T.length=some i:=Kg (by omega)
 have C:F135 F F.1[p] l (i:Int)=some ((ZM F l).pr p i):=by
  rw[Zse F F.1[p] l i (by omega) (by omega) d hF.disc];show _=some (HJ F ((F.1[p]?).getD p0) l i)
  grind
 have a3:=Zcp hF (l:=l) (i:=i) (by assumption);have w1:Va .i64 ((ZM F l).pr p i+s)=(ZM F l).pr p i+s:=Zy (by omega) (by omega);have w2:Va .i64 ((1:Int)+(t.length:Int))=((1+t.length:Nat):Int):=by rw[Zy (by omega) (by omega)];omega
 simp only[ZC B,Za,e1,e2,ZpS hs o hk (by omega), <-Zf2 Z hs (by omega) B o hk,C,z,y,E,D,c2,c3,w1,w2];rw[A];unfold H4;simp only
 cases a0:(ZM F l).cov p i k with
 |false=>
  refine⟨T,rfl,g.congr fun j hj=>?_⟩;simp only[Vnb,if_false]
  rw[ZmE]
 |true=>
  simp only[Vd,Zd,if_true]
  have hx:(bif r.1 then bif decide (r.2.1<(ZM F l).pr p i+s) then some true else bif decide ((ZM F l).pr p i+s=r.2.1) then some (decide ((r.2.2.1.length:Int)<=((1+t.length:Nat):Int))) else some false else some false)=some (!DQ (f i) ((ZM F l).pr p i+s) (1+t.length)):=by
   generalize (ZM F l).pr p i+s=S;generalize 1+t.length=c
   cases m:f i with
   |none=>
    rw[m]at b
    rw[show r.1=false from b];rfl
   |some x=>
    obtain⟨cs,Y⟩:=x;rw[m]at b;obtain⟨d1,d2,d3⟩:=HX.ok b;rw[d1,d2,d3];show _=some (!(decide (S<cs) || (decide (S=cs) &&decide (c<Y.length))));by_cases q1:cs<S
    ·rw[Ze q1,Zk (show¬S<cs by omega),Zk (by omega)];rfl
    ·rw[Zk q1];by_cases q2:S=cs
     ·rw[Ze q2,Zk (show¬S<cs by omega)];by_cases q3:c<Y.length
      all_goals grind
     ·rw[Zk q2,Ze (show S<cs by omega)];rfl
  rw[hx];simp only[Za]
  cases a2:DQ (f i) ((ZM F l).pr p i+s) (1+t.length) with
  |false=>
   refine⟨T,rfl,g.congr fun j hj=>?_⟩;simp only[Vnb,if_false]
   rw[ZmE]
  |true=>
   simp only[Vd,Zd]
   have hg:ZE (decide (Vh [((p:Int),(i:Int),(k:Int),(ZM F l).pr p i,())]+Vh t<=Zz))=some ():=by rw[Ze (by simp only[Vka,Vq,Zz];omega)];rfl
   rw[hg];simp only[Za,if_true];exact⟨_,rfl,g.set (by omega) ⟨rfl,rfl,rfl⟩⟩
theorem Zlt{F:Kc}(H:(Jq F).2=0){l:List ZJ}(X:l.length<=8)(Z:∀v∈l,Small v):∃R,F133 F l=some R/\HX (Kd (ZM F l) l.length 0) (R.2.2,R.1,R.2.1,()):=by
 have hF:=ZbV H;have G:∀p i,p<(ZM F l).np->0<=(ZM F l).pr p i/\(ZM F l).pr p i<=1000000:=fun p i y=>Zcp hF y;have C:(ZM F l).n=l.length:=rfl;unfold F133;have w0:Va .i64 ((l.length:Int)+1)=((l.length+1:Nat):Int):=by rw[Zy (by omega) (by omega)];omega
 have S:ZE (decide ((0:Int)<=((l.length+1:Nat):Int)/\((l.length+1:Nat):Int)<=((l.length+1:Nat):Int)/\((l.length+1:Nat):Int)<=(Zz:Int)))=some ():=by
  have Y:(Zz:Int)=549755813888:=by rfl
  rw[Ze (by omega)];rfl
 have w:∀o:List XP,o=Vu (l.length+1) bz->Zp (l.length:Int) o.length=some l.length/\o[l.length]? =some bz:=by rintro o rfl;exact⟨Kg (by simp),by simp⟩
 obtain⟨r1,r2⟩:=w _ rfl;rw[w0];erw[S];simp only[Za,Vj];erw[r1];simp only[Za];erw[r2];simp only[Za]
 have key:∀(o:Option (List XP)) (k:List XP->Option (Int×List Tk×Bool)),(∃T,o=some T/\Yg l.length (Kd (ZM F l) l.length) T)->(∀T,Yg l.length (Kd (ZM F l) l.length) T->∃R,k T=some R/\HX (Kd (ZM F l) l.length 0) (R.2.2,R.1,R.2.1,()))->∃R,Vb o k=some R/\HX (Kd (ZM F l) l.length 0) (R.2.2,R.1,R.2.1,()):=by
  grind
 refine key _ _ (Ki l.length _ (fun c (s:List XP×Int)=>∃T,s=(T,(l.length:Int) - 1 - (c:Int))/\Yg l.length (Kd (ZM F l) c) T) ?_ ?_ _ ?_) ?_
 ·rintro c _ Q ⟨T,rfl,b⟩;left;obtain⟨i,U⟩:∃i:Nat,(l.length:Int) - 1 - (c:Int)=(i:Int):=⟨l.length - 1 - c,by omega⟩;have W:i<l.length:=by omega
  have V:i=l.length - (c+1):=by omega
  rw[U];rw[Ze (by omega)];simp only[Zc];refine Xn (fun h=>Yg l.length (Kd (ZM F l) (c+1)) h) ?_ ?_
  ·refine Ki (l.length - i) _ (fun m (s:List XP×Int)=>∃T,s=(T,((i+m:Nat):Int))/\Yg l.length (Jj (Kd (ZM F l) c) i (rowK (ZM F l) (Kd (ZM F l) c) i m)) T) ?_ ?_ _ ⟨T,rfl,b.congr fun j E=>?_⟩
   ·rintro m _ Y ⟨T,rfl,b⟩;left;have I:i+m<l.length:=by omega
    have z:Va .i64 (((i+m:Nat):Int)+1)=((i+m+1:Nat):Int):=by rw[Zy (by omega) (by omega)];omega
    have P:=b.1;have D:Zp ((i+m+1:Nat):Int) T.length=some (i+m+1):=Kg (by omega);obtain⟨r,J,d⟩:=b.2 (i+m+1) (by omega);rw[HO _ _ (by omega)]at d;simp only[ZO I,Zc,z,D,J,Za]
    cases f:Kd (ZM F l) c (i+m+1) with
    |none=>
     rw[f]at d;rw[show r.1=false from d];refine⟨_,rfl,T,rfl,?_⟩
     have e:rowK (ZM F l) (Kd (ZM F l) c) i (m+1)=rowK (ZM F l) (Kd (ZM F l) c) i m:=by rw[Dv.rowK,f,ZlS]
     grind
    |some x=>
     obtain⟨s,t⟩:=x;rw[f]at d;obtain⟨q1,_⟩:=HX.ok d;rw[q1];simp only[Vd,Zd];refine Xn (fun h=>Yg l.length (Jj (Kd (ZM F l) c) i (rowK (ZM F l) (Kd (ZM F l) c) i (m+1))) h) ?_ ?_
     ·refine Ki F.1.length _ (fun p (s:List XP×Int)=>∃T,s=(T,(p:Int))/\Yg l.length (Jj (Kd (ZM F l) c) i (Gl (ZM F l) (Kd (ZM F l) c (i+m+1)) i (i+m) (rowK (ZM F l) (Kd (ZM F l) c) i m) p)) T) ?_ ?_ _ ⟨T,rfl,b⟩
      ·rintro p _ y ⟨T,rfl,b⟩;left
       have B:Bd l.length (Jj (Kd (ZM F l) c) i (Gl (ZM F l) (Kd (ZM F l) c (i+m+1)) i (i+m) (rowK (ZM F l) (Kd (ZM F l) c) i m) p)):=by
        intro j K M E e;have g:=ZcJ G c (by omega);by_cases a:j=i
        ·subst a;rw[Rn]at e;exact Zep (n:=l.length) (by grind) (by omega) (by omega) (g _) (Zen (by grind) g m (by omega)) p (show p<=F.1.length by omega) K M e
        ·rw[HO _ _ a]at e;exact g j K M e
       obtain⟨h,A,N⟩:=Zsh H X Z b B (i:=i) (k:=i+m) (p:=p) (by omega) I y (s:=s) (t:=t) (by rw[HO _ _ (by omega)];omega);simp only[ZO y,Zc];rw[z]at A;rw[show ((i+m+1:Nat):Int)=((i+m+1:Nat):Int) from rfl]at A;refine⟨_,A,h,rfl,?_⟩;rw[ZmF,Rn,HO _ _ (by omega)]at N
       assumption
      ·rintro _ ⟨T,rfl,b⟩;simp only[JF,Zd];exact⟨_,rfl,b⟩
     grind
   ·rintro _ ⟨T,rfl,b⟩;rw[show i+(l.length - i)=l.length by omega];simp only[JF,Zd];refine⟨_,rfl,b.congr fun j E=>?_⟩;rw[Kd];by_cases a:j=i
    ·subst a;rw[Zn (by omega),Rn];rfl
    ·rw[Zg (by omega),HO _ _ a]
   ·by_cases a:j=i
    ·subst a;rw[Rn,ZhG (ZM F l) c (by omega) j (by omega)];rfl
    ·rw[HO _ _ a]
  ·intro h O;have z:Va .i64 ((i:Int) - 1)=(l.length:Int) - 1 - ((c+1:Nat):Int):=by rw[Zy (by omega) (by omega)];omega
   grind
 ·grind
 ·refine⟨(Vu (l.length+1) bz).set l.length (true,bz.2),?_,by simp,fun j E=>?_⟩
  ·rw[Zy (by omega) (by omega)];simp only[Int.natCast_zero,Int.sub_zero];rfl
  ·rw[Kd];by_cases u:j=l.length
   ·subst u;rw[Zn C.symm,Vwa (by simp)];exact⟨_,rfl,rfl,rfl,rfl⟩
   ·rw[Zg (by omega),Vgb (Ne.symm u),List.getElem?_replicate,Zn (by omega)];exact⟨_,rfl,rfl⟩
 ·intro T b;obtain⟨r,J,Q⟩:=b.2 0 (Vbb _);have hb:Zp (0:Int) T.length=some 0:=Kg (i:=0) (by grind)
  simp_all
end Q
namespace Q
open Tr Go Dv
theorem ZtV{F:Kc}{l:List ZJ}(O:l.length<=8){T:List XS}(D:XE (Kd (ZM F l) l.length) T):∀(m i:Nat) (acc:List Tk),l.length - i=m->i<=l.length->acc.length<=i->∀(t:List Tk),(∃s,Kd (ZM F l) l.length i=some (s,t))->run
 (fun d:List Tk×Int=>
 bif decide (d.2<(↑(Vh l):Int)) then
 Vb (Zp d.2 (9:Nat)) fun h=>
 Vb T[h]? fun e=>
 Vb (ZE (decide (Vh d.1+Vh [e.2.2.2.1]<=Zz))) fun _=>
 Vb (Zp d.2 (9:Nat)) fun j=>
 Vb T[j]? fun o=>some (.inl (d.1++[e.2.2.2.1],Va .i64 (o.2.2.2.1.2.2.1+(1:Int))))
 else some (.inr d.1))
 (acc,(i:Int))=some (acc++t):=by
  intro m
  induction m using Nat.strongRecOn with
  |_ m H=>
   intro i acc P M v t x;by_cases g:i<l.length
   ·obtain⟨s,b⟩:=x;obtain⟨p,k,q,I,J,u,K,B,C⟩:=ZtT (ZM F l) (by assumption) s t b;obtain⟨r,E,w⟩:=D.2 i (by omega);rw[b]at w;obtain⟨_,_,_,y⟩:=Gx.ok w;have a:=y _ _ u;have f:Zp (i:Int) 9=some i:=Kg (by omega);have N:k<l.length:=B;have A:Va .i64 ((k:Int)+1)=((k+1:Nat):Int):=by rw[Zy (by omega) (by omega)];omega
    have c:∀z:List Tk×Int,z=(acc++[((p:Int),(i:Int),((k:Nat):Int),(q:Int),())],((k+1:Nat):Int))->(bif decide ((i:Int)<(↑(Vh l):Int)) then
     Vb (Zp (i:Int) (9:Nat)) fun h=>
     Vb T[h]? fun e=>
     Vb (ZE (decide (Vh acc+Vh [e.2.2.2.1]<=Zz))) fun _=>
     Vb (Zp (i:Int) (9:Nat)) fun j=>
     Vb T[j]? fun o=>(some (.inl (acc++[e.2.2.2.1],Va .i64 (o.2.2.2.1.2.2.1+(1:Int)))):Option ((List Tk×Int) ⊕ List Tk))
     else some (.inr acc))=some (.inl z):=by
     rintro z rfl;simp only[ZO g,Zc,f,E,Za,a,A];rw[GJ (by grind)];rfl
    rw[Hl (c _ rfl)];rw[H (l.length - (k+1)) (by omega) (k+1) _ rfl (by omega) (by grind) J ⟨I,C⟩,u];simp
   ·have:i=l.length:=by omega
    subst this;obtain⟨s,b⟩:=x;rw[ZhH (ZM F l) 0 l.length l.length (by assumption) (Vbb _) (Vea _),Kd,Zn (by rfl)]at b;have G:t=[]:=by grind
    subst G;rw[Vw];exact Xy (by simp)
theorem ZjO{F:Kc}(d:(Jq F).2=0)(i:∀x∈F.1,x.1.length<=9223372036854775807)(l:List ZJ)(m:l.length<=1000):
 (8<l.length/\F11 F l=some (0,[],33))\/(l.length<=8/\Kd (ZM F l) l.length 0=none/\F11 F l=some (0,[],34))\/(l.length<=8/\ ∃s t,Kd (ZM F l) l.length 0=some (s,t)/\F11 F l=some (Y8 F s,t,0)):=by
 have hF:=ZbV d;unfold F11 F17;rw[Zgg F i];simp only[Za,Ze d,Vd,Zd];by_cases k:8<l.length
 ·grind
 ·right;rw[Zk (by omega)];simp only[Zd,Za,decide_true,Vd];obtain⟨T,h,e⟩:=Zp4 hF (show l.length<=8 by omega);rw[h];simp only[Za];obtain⟨r,j,b⟩:=e.2 0 (by omega);rw[show Vfa (0:Int)=0 from rfl,j];simp only[Za]
  cases a:Kd (ZM F l) l.length 0 with
  |none=>
   left;rw[a]at b;rw[show r.1=false from b]
   grind
  |some x=>
   right;obtain⟨s,t⟩:=x;rw[a]at b;obtain⟨f,g,_,_⟩:=Gx.ok b;have c:=ZtV (by omega) e l.length 0 [] rfl (Vbb _) (Vea _) t ⟨s,a⟩;refine⟨by omega,s,t,rfl,?_⟩;rw[f];simp only[Vd,Zd];refine KM (fun y=>y=t) ⟨_,c,rfl⟩ ?_;rintro y rfl;simp only[g,Zpb,Za]
theorem Zo8(F:Kc)(s:Int):F129 F s=some (Y8 F s):=by
 unfold F129 Y8;by_cases h:0<F.2.2.2.1
 ·rw[Ze h];show some (Tr.imin F.2.2.2.1 s)=_;unfold Tr.imin
  grind
 grind
abbrev YD:=Int×Int×Int×Int×Int×Unit
theorem Zf0(n:Zf)(q:El Kf)(j:Hq)(u:W6 n)(I:j.1.length<=20)(H:∀x∈j.1,HU x):∃c:YD×List Tk×Int,F78 n q j=some c/\F130 n q j=some c/\c.2.1.length<=100000:=by
 obtain⟨r,g,y,z⟩:=ZsM n j u I;unfold F78 F130;have K:=ZeO j (by omega) H;have A:F137 j=some (K9 j.1):=by rw[<-ZeN];omega
 rw[g,y];simp only[Za];by_cases D:r.2=0
 case neg=>
  simp_all
 rw[Ze D];simp only[Vd,Zd];rcases Zem n j u (by omega) with ⟨m,_⟩|⟨d,_,m⟩
 ·grind
 rw[g]at m;have w:=(Option.some.inj m).symm;obtain⟨l,e⟩:=r;simp only at D z⊢;have E:∀v∈l,Small v:=Zgm d j.1 false [] l e w (by simp);rcases ZjO d.fare (fun x M=>u.prods x M) l (by omega) with ⟨k,b⟩|⟨k,J,b⟩|⟨k,s,t,h,b⟩
 ·rw[b,Ze (show (8:Int)<(l.length:Int) by omega)];simp
 ·rw[b,Zk (show¬(8:Int)<(l.length:Int) by omega)];obtain⟨R,o,f⟩:=Zlt d.fare k E;rw[J]at f;simp only[Zd,o,Za];rw[show R.2.2=false from f];simp
 ·rw[b,Zk (show¬(8:Int)<(l.length:Int) by omega)];obtain⟨R,o,f⟩:=Zlt d.fare k E;rw[h]at f;obtain⟨B,C,c3⟩:=HX.ok f;simp only at B C c3;simp only[Zd,o,Za,B,C,c3,Vd,decide_true,Zo8,K,A];have hF:=ZbV d.fare;obtain⟨_,_,a⟩:=ZcJ (L:=ZM n.2.2.2.2.2.1 l) (fun p i b=>Zcp hF b) l.length (Vea _) 0 s t h;have a:t.length<=l.length:=a;by_cases G:0<j.1.length
  ·rw[Ze (by omega)];have el:Va .i64 ((j.1.length:Int) - 1)=((j.1.length - 1:Nat):Int):=by rw[Zy (by omega) (by omega)];omega
   have N:idx j.1 (0:Int)=some j.1[0]:=ZC (i:=0) G;simp only[Zc,el,N,ZC (show j.1.length - 1<j.1.length by omega),Za]
   grind
  ·rw[Zk (by omega)];exact⟨_,rfl,rfl,by grind⟩
end Q
namespace Q
open Tr Go
theorem Zs0{α β τ:Type}{step:List β×Int->Option ((List β×Int) ⊕ τ)}(l:List α)(f:α->List β)(R:List β->τ)
 (a:∀i (b:i<l.length),step ((l.take i).flatMap f,(i:Int))=some (.inl ((l.take i).flatMap f++f l[i],((i+1:Nat):Int))))
 (c:step (l.flatMap f,(l.length:Int))=some (.inr (R (l.flatMap f)))):run step ([],(0:Int))=some (R (l.flatMap f)):=by
 refine Exists.elim (Ki (step:=step) l.length (fun r=>r=R (l.flatMap f)) (fun i st=>st=((l.take i).flatMap f,(i:Int))) ?_ ?_ ([],(0:Int)) (by simp)) ?_
 ·rintro i _ b rfl;left;refine⟨_,a i b,?_⟩;rw[Vg b,Vkb];simp
 all_goals grind
theorem ZqB{α β:Type}(f:α->β)(l:List α):l.flatMap (fun x=>[f x])=l.map f:=by
 induction l with
 |nil=>rfl
 |cons x l a=>grind
theorem Zqz{α β:Type}{f:α->List β}(a:∀x,(f x).length<=1)(l:List α):(l.flatMap f).length<=l.length:=by
 induction l with
 |nil=>simp
 |cons x l b=>grind
abbrev Zr:=Int×Int×Int×Bool×Int×Int×Bool×Bool×Int×Bool×Unit
def Dq(n:Zf)(r:YK):YJ:=(n.2.1[r.2.2.2.2.1.toNat]?).getD r0
def DA(n:Zf)(q:Zr)(r:YK):Bool:=Tr.useB q r (Dq n r)
def Wg(n:Zf)(s:Int):GX:=(n.1[s.toNat]?).getD s0
def Xu(n:Zf)(q:Zr)(s:Int):Bool:=(Wg n s).2.2.1|| !q.2.2.2.2.2.2.1
def WF(n:Zf)(q:Zr)(c:Wr):Wr:=if Xu n q c.1 then c else(c.1,c.2.1,c.2.2.1,false,false,())
theorem ZlM{n:Zf}(a:Ws n){r:YK}(c:r∈n.2.2.1):idx n.2.1 r.2.2.2.2.1=some (Dq n r)/\Dq n r∈n.2.1:=by
 have h:=a.route _ c;have b:ZU r.2.2.2.2.1 n.2.1.length=true:=by simp [ZU];omega
 refine⟨WI b r0,?_⟩;unfold Dq
 grind
theorem Zt6{n:Zf}(a:Ws n)(q:Zr){r:YK}(e:r∈n.2.2.1):F54 n q r=some (DA n q r):=by obtain⟨b,c⟩:=ZlM a e;have d:=(a.mode _ c).1;unfold F54 Tr.useF;rw[b];simp only[Za,show decide ((0:Int)<=(Dq n r).2.1)=true from Ze d,Vmd,Zc];rfl
theorem ZtF{n:Zf}(a:Ws n){r:YK}(d:r∈n.2.2.1){c:Wr}(b:c∈r.2.2.2.2.2.2.2.1):idx n.1 c.1=some (Wg n c.1):=by have h:=a.call _ d _ b;exact WI (show ZU c.1 n.1.length=true by simp [ZU];omega) s0
theorem ZrX{n:Zf}(q:Zr){s:Int}(h:idx n.1 s=some (Wg n s)):F53 n q s=some (Xu n q s):=by
 unfold F53;rw[h];simp only[Za];unfold Xu
 grind
theorem ZpG{n:Zf}(d:Ws n)(q:Zr){r:YK}(g:r∈n.2.2.1):F52 n q r.2.2.2.2.2.2.2.1=some (r.2.2.2.2.2.2.2.1.map (WF n q)):=by
 have o:=(d.many _ g).2;unfold F52;rw[Zs0 r.2.2.2.2.2.2.2.1 (fun c=>[WF n q c]) id ?_ ?_]
 ·simp only[Za,id,ZqB,Vl];generalize p:r.2.2.2.2.2.2.2.1.map (WF n q)=m;have a:m.length=r.2.2.2.2.2.2.2.1.length:=by grind
  rw[<-a]
  have k:Zp (m.length:Int) (m.length+1)=some m.length:=by unfold Zp;rw[Zn (by omega)];simp
  have l:sliceB m.length m.length none (some (m.length:Int))=some (0,m.length):=by unfold sliceB;simp
  grind
 ·intro i b;have j:=Ve b;simp only[ZO b,Zc,ZC b,Za];rw[ZrX q (ZtF d g j)];have h:=Zqz (f:=fun c=>[WF n q c]) (by simp) (r.2.2.2.2.2.2.2.1.take i);rw[Vqa]at h;simp only[Za]
  have e:(bif !Xu n q (r.2.2.2.2.2.2.2.1[i]).1 then some (((r.2.2.2.2.2.2.2.1[i]).1,(r.2.2.2.2.2.2.2.1[i]).2.1,(r.2.2.2.2.2.2.2.1[i]).2.2.1,false,false,(r.2.2.2.2.2.2.2.1[i]).2.2.2.2.2):Wr) else some r.2.2.2.2.2.2.2.1[i])=some (WF n q r.2.2.2.2.2.2.2.1[i]):=by
   unfold WF
   grind
  erw[e];simp only[Za];rw[GJ (by grind),ZW b (by omega)];rfl
 simp
structure Few (n:Zf):Prop where
 stops:n.1.length<=4096
 routes:n.2.1.length<=4096
 runs:n.2.2.1.length<=4096
 links:n.2.2.2.1.length<=4096
 paths:n.2.2.2.2.1.length<=4096
 prods:n.2.2.2.2.2.1.1.length<=4096
 calls:∀r∈n.2.2.1,r.2.2.2.2.2.2.2.1.length<=4096
theorem RU{α:Type}(l:List α)(h:l.length<=4096):(Vb (ZE (decide (Vh ([]:List Unit)+Vh l<=Zz))) fun _=>
 Vb (Zp (↑(Vh ([]++l)):Int) (Vh ([]++l)+(1:Nat))) fun a=>
 Vb (sliceB (Vh ([]++l)) a none (some (↑(Vh ([]++l)):Int))) fun b=>some (Vib b.2 ([]++l)))=some l:=by
  have e0:ZE (decide (Vh ([]:List Unit)+Vh l<=Zz))=some ():=by
   unfold ZE Zz
   grind
  have c:Zp (l.length:Int) (l.length+1)=some l.length:=by unfold Zp;grind
  have d:sliceB l.length l.length none (some (l.length:Int))=some (0,l.length):=by unfold sliceB;simp
  grind
theorem Zpy{n:Zf}(h:Few n):F87 n=some n:=by
 unfold F87;have k:F98 n.1=some n.1:=RU n.1 h.stops;have d:F96 n.2.1=some n.2.1:=RU n.2.1 h.routes;have f:F97 n.2.2.1=some n.2.2.1:=RU n.2.2.1 h.runs;have b:F94 n.2.2.2.1=some n.2.2.2.1:=RU n.2.2.2.1 h.links;have c:F93 n.2.2.2.2.1=some n.2.2.2.2.1:=RU n.2.2.2.2.1 h.paths;have j:F95 n.2.2.2.2.2.1.1=some n.2.2.2.2.2.1.1:=RU n.2.2.2.2.2.1.1 h.prods;rw[k,d,f,b,c];simp only[Za];refine KM (fun r:Zf=>r=(n.1,n.2.1,n.2.2.1,n.2.2.2.1,n.2.2.2.2.1,n.2.2.2.2.2.1,())) (Ki n.2.2.1.length _ (fun i (st:Zf×Int)=>st=((n.1,n.2.1,n.2.2.1,n.2.2.2.1,n.2.2.2.2.1,n.2.2.2.2.2.1,()),(i:Int))) ?_ ?_ _ rfl) ?_
 ·rintro i _ a rfl;left;have g:F92 (n.2.2.1[i]).2.2.2.2.2.2.2.1=some (n.2.2.1[i]).2.2.2.2.2.2.2.1:=RU _ (h.calls _ (Ve a));simp only[ZO a,Zc,Kg a,Za,Vc a,g];refine⟨_,rfl,?_⟩;rw[ZW a (by have:=h.runs;omega)];have e:Vrc n.2.2.1 i ((n.2.2.1[i]).1,(n.2.2.1[i]).2.1,(n.2.2.1[i]).2.2.1,(n.2.2.1[i]).2.2.2.1,(n.2.2.1[i]).2.2.2.2.1,(n.2.2.1[i]).2.2.2.2.2.1,(n.2.2.1[i]).2.2.2.2.2.2.1,(n.2.2.1[i]).2.2.2.2.2.2.2.1,(n.2.2.1[i]).2.2.2.2.2.2.2.2)=n.2.2.1:=List.set_getElem_self a
  grind
 all_goals grind
def JD(n:Zf)(q:Zr)(r:YK):YK:=(r.1,r.2.1,r.2.2.1,r.2.2.2.1,r.2.2.2.2.1,r.2.2.2.2.2.1, !DA n q r,r.2.2.2.2.2.2.2.1.map (WF n q),())
def Ju(n:Zf)(q:Zr):List Kh:=if q.2.2.2.2.2.2.1 then n.2.2.2.2.1.filter (fun p=>p.2.2.2.1) else n.2.2.2.2.1
def ZG(n:Zf)(q:Zr):Zf:=(n.1,n.2.1,n.2.2.1.map (JD n q),n.2.2.2.1,Ju n q,n.2.2.2.2.2.1,())
def Gm(n:Zf)(q:Zr)(i:Nat):List YK:=(n.2.2.1.take i).map (JD n q)++n.2.2.1.drop i
theorem Zs9(n:Zf)(q:Zr){i:Nat}(a:i<=n.2.2.1.length):(Gm n q i).length=n.2.2.1.length:=by simp [Gm];omega
theorem Zs8(n:Zf)(q:Zr){i:Nat}(a:i<n.2.2.1.length):(Gm n q i)[i]? =some n.2.2.1[i]:=by
 unfold Gm
 grind
theorem Zta(n:Zf)(q:Zr){i:Nat}(b:i<n.2.2.1.length):(Gm n q i).set i (JD n q n.2.2.1[i])=Gm n q (i+1):=by
 unfold Gm;have a:((n.2.2.1.take i).map (JD n q)).length=i:=by grind
 rw[Vhc _ _ (by omega),a,Nat.sub_self,Vm b,List.set_cons_zero,Vg b,Vx];simp
theorem Zdb{n:Zf}(d:Ws n)(hF:Few n)(q:Zr)(g:F31 n q=some 0):F51 n q=some (ZG n q,0):=by
 unfold F51;rw[g];simp only[Za,decide_true,Vd,Zd];rw[Zpy hF];simp only[Za];refine KM (fun r:Zf=>r=(n.1,n.2.1,n.2.2.1.map (JD n q),n.2.2.2.1,n.2.2.2.2.1,n.2.2.2.2.2.1,())) (Ki n.2.2.1.length _ (fun i (st:Zf×Int)=>st=((n.1,n.2.1,Gm n q i,n.2.2.2.1,n.2.2.2.2.1,n.2.2.2.2.2.1,()),(i:Int))) ?_ ?_ _ (by rfl)) ?_
 ·rintro i _ a rfl;left;have e:=Ve a;have j:=Zs9 n q (Vtc a);have b:i<(Gm n q i).length:=by omega
  simp only[ZO a,Zc,ZC a,Za,Zt6 d q e,Kg b,Zs8 n q a,ZpG d q e];refine⟨_,?_,rfl⟩;rw[ZW a (by have:=hF.runs;omega)];have c:i<((Gm n q i).set i ((n.2.2.1[i]).1,(n.2.2.1[i]).2.1,(n.2.2.1[i]).2.2.1,(n.2.2.1[i]).2.2.2.1,(n.2.2.1[i]).2.2.2.2.1,(n.2.2.1[i]).2.2.2.2.2.1, !DA n q n.2.2.1[i],(n.2.2.1[i]).2.2.2.2.2.2.2)).length:=by grind
  erw[Kg c];simp only[Za];erw[Vwa b];simp only[Za];erw[Vnd];congr 2;have:=Zta n q a;rw[<-this];rfl
 ·rintro _ rfl;refine⟨_,by simp only[JF,Zd];rfl,?_⟩;simp [Gm]
 ·rintro _ rfl;unfold ZG Ju
  cases h:q.2.2.2.2.2.2.1 with
  |false=>rfl
  |true=>
   simp only[Zc,if_true];refine KM (fun r:Zf=>r=(n.1,n.2.1,n.2.2.1.map (JD n q),n.2.2.2.1,n.2.2.2.2.1.filter (fun p=>p.2.2.2.1),n.2.2.2.2.2.1,())) (Ki n.2.2.2.2.1.length _ (fun i (st:Zf×Int)=>st=((n.1,n.2.1,n.2.2.1.map (JD n q),n.2.2.2.1,(n.2.2.2.2.1.take i).filter (fun p=>p.2.2.2.1),n.2.2.2.2.2.1,()),(i:Int))) ?_ ?_ _ (by simp)) ?_
   ·rintro i _ a rfl;left;have f:=Vic (fun p:Kh=>p.2.2.2.1) (n.2.2.2.2.1.take i);rw[Vqa]at f;have k:=hF.paths;simp only[ZO a,Zc,ZC a,Za];rw[ZW a (by omega),Vg a,List.filter_append]
    cases l:(n.2.2.2.2.1[i]).2.2.2.1 with
    |false=>
     grind
    |true=>
     simp only[Zc];rw[GJ (by grind)]
     grind
   all_goals simp
def qB(k:Nat)(q:Zr):Bool:=ZU q.1 k&& (ZU q.2.1 k&& (decide (0<=q.2.2.1/\q.2.2.1<=3155932800) && (decide (0<=q.2.2.2.2.1/\q.2.2.2.2.1<=8) && (decide (0<=q.2.2.2.2.2.1/\q.2.2.2.2.2.1<=86400) && (decide (0<=q.2.2.2.2.2.2.2.2.1/\q.2.2.2.2.2.2.2.2.1<=255) && !(q.2.2.2.2.2.2.2.2.2.1&&q.2.2.2.1))))))
theorem ZmV(x a b:Int):F50 x a b=some (decide (a<=x/\x<=b)):=YT x a b
theorem Zb1(x a b:Int):F143 x a b=some (decide (a<=x/\x<=b)):=YT x a b
theorem ZmY(x:Int){m:Nat}(a:m<=9223372036854775807):F50 x 0 (Va .i64 ((m:Int) - 1))=some (ZU x m):=Zb2 x a
theorem ZdR(x:Int){m:Nat}(a:m<=9223372036854775807):F143 x 0 (Va .i64 ((m:Int) - 1))=some (ZU x m):=Zb2 x a
theorem Zt7(k:Nat)(a:k<=9223372036854775807)(q:Zr):F142 (k:Int) q=some (qB k q):=by
 unfold F142 qB;simp only[Zb1];rw[show decide ((0:Int)<=q.1/\q.1<=Va .i64 ((k:Int) - 1))=ZU q.1 k from Option.some.inj ((Zb1 _ _ _).symm.trans (ZdR q.1 a)),show decide ((0:Int)<=q.2.1/\q.2.1<=Va .i64 ((k:Int) - 1))=ZU q.2.1 k from Option.some.inj ((Zb1 _ _ _).symm.trans (ZdR q.2.1 a))]
 grind
open Classical in
noncomputable def XZ(n:Zf)(q:Zr):Int:=if Whole n then(if qB n.1.length q=true then 0 else 22) else 21
theorem ZaA{n:Zf}{q:Zr} :XZ n q=0↔Whole n/\qB n.1.length q=true:=by
 unfold XZ
 grind
open Classical in
theorem GQ{n:Zf}(h:W6 n):F120 n=some (decide (Whole n)):=by obtain⟨r,_,a,b⟩:=ZfN n h;unfold F120;rw[a];simp only[Za];congr 1;exact decide_eq_decide.2 b
open Classical in
theorem Zpj{n:Zf}(h:W6 n)(q:Zr):F141 n q=some (XZ n q):=by
 unfold F141 XZ;rw[GQ h];simp only[Za];by_cases a:Whole n
 ·rw[Ze a,Zn a];have b:=a.sound.stops;simp only[Vd,Zd];rw[Zt7 n.1.length (by omega)];simp only[Za]
  cases qB n.1.length q<;>rfl
 ·rw[Zk a,Zg a];rfl
theorem DU{n:Zf}(h:W6 n)(q:Zr):F31 n q=some (XZ n q):=by
 obtain⟨r,c,_,d⟩:=ZfN n h;unfold F31 XZ;rw[c];simp only[Za];by_cases a:Whole n
 ·rw[Ze (d.2 a),Zn a];have b:n.1.length<=9223372036854775807:=by have:=a.sound.stops;omega
  simp only[Vd,Zd,ZmV];rw[show decide ((0:Int)<=q.1/\q.1<=Va .i64 ((n.1.length:Int) - 1))=ZU q.1 n.1.length from Option.some.inj ((Zb1 _ _ _).symm.trans (ZdR q.1 b)),show decide ((0:Int)<=q.2.1/\q.2.1<=Va .i64 ((n.1.length:Int) - 1))=ZU q.2.1 n.1.length from Option.some.inj ((Zb1 _ _ _).symm.trans (ZdR q.2.1 b))];unfold qB;simp only[Za]
  grind
 grind
theorem ZpB{c l:List Kh}(h:Xo c l=true):c=l:=by
 unfold Xo at h;rw[Vi,KL,Vsb]at h;obtain⟨e,a⟩:=h;have a:=WH.1 a;refine List.ext_getElem e fun i d b=>?_;have:=a i d;unfold RR at this;rw[Kq d,Kq b]at this
 have f:sameF c[i] l[i]=true:=by
  grind
 unfold sameF at f
 grind
theorem ZpC(l:List Kh):Xo l l=true:=by unfold Xo;rw[Vi,KL,Vsb];refine⟨rfl,WH.2 fun i a=>?_⟩;unfold RR sameF;simp
theorem Zg9{k:Nat}{l:List Kh} :(∀i,i<l.length->K4 k l i=0)↔(∀p∈l,Yx k p=false/\Yy p=false)/\l.Pairwise fun a b=>JH a≠JH b:=by
 constructor
 ·intro h;refine⟨fun p o=>?_,Vtb.2 fun i j c f d e=>?_⟩
  ·obtain⟨i,c,rfl⟩:=Vja o;have:=Zac (h i c)
   grind
  ·have:=(Zac (h j f)).2.2;refine this ⟨i,d,?_⟩
   grind
 ·rintro ⟨g,m⟩ i c;obtain⟨a,b⟩:=g _ (Ve c);unfold K4;rw[Kq c,Zg (by grind),Zg (by grind),Zg];rintro ⟨j,f,e⟩;rw[Kq (by omega)]at e;exact Vtb.1 m j i (by omega) c f e
theorem ZjG{α β:Type}(p:β->Bool)(f:α->List β)(l:List α):(l.flatMap f).filter p=l.flatMap fun x=>(f x).filter p:=by
 induction l with
 |nil=>rfl
 |cons x l a=>grind
theorem Zq4(a b:Nat)(d f:Int):(Jr a b d f).filter (fun p=>p.2.2.2.1)=Jr a b f f:=by
 unfold Jr
 grind
theorem ZnM(it:Nat->Nat->List Jz)(n m:Nat):(WE it n m).filter (fun p=>p.2.2.2.1)=WE (fun a b=>(it a b).filter (fun p=>p.2.2.2.1)) n m:=by
 unfold WE Xw;rw[ZjG];congr 1;funext a;rw[ZjG]
 grind
theorem ZqH{k:Nat}(g:k<=64){l:List Kh}(s:l.length<=4096)(x:∀i,i<l.length->K4 k l i=0)(G:∀c,F116 l (k:Int)=some c->Xo c l=true):
 (∀i,i<(l.filter fun p=>p.2.2.2.1).length->K4 k (l.filter fun p=>p.2.2.2.1) i=0)/\ ∀c,F116 (l.filter fun p=>p.2.2.2.1) (k:Int)=some c->Xo c (l.filter fun p=>p.2.2.2.1)=true:=by
 obtain⟨H,I⟩:=Zg9.1 x;have f:∀i,i<(l.filter fun p=>p.2.2.2.1).length->K4 k (l.filter fun p=>p.2.2.2.1) i=0:=Zg9.2 (by grind);refine⟨f,fun c h=>?_⟩;have hF:=Zgj x;have d:=Zgj f;have e:(l.filter fun p=>p.2.2.2.1).length<=4096:=by grind
 obtain⟨c0,A,B,_⟩:=ZfO g hF s;obtain⟨o,C,D,_⟩:=ZfO g d e;have y:=ZfP g hF s (fun a b=>(Zdx hF a b).imp id fun h=>h.2);have z:=ZfP g d e (fun a b=>(Zdx d a b).imp id fun h=>h.2);rw[A]at y;rw[C]at z;have e0:=ZpB (G c0 B);obtain rfl:o=c:=Option.some.inj (D.symm.trans h)
 have r:∀free,Ke (l.filter fun p=>p.2.2.2.1) free=Ke l true:=by
  intro free;funext u v w;refine propext ⟨fun⟨p,t,_,h⟩=>?_,fun⟨p,t,E,h⟩=>?_⟩
  ·obtain⟨j,m⟩:=List.mem_filter.1 t;exact⟨p,j,fun _=>m,h⟩
  ·have:=E rfl;exact⟨p,by grind,fun _=>this,h⟩
 have key:o=l.filter fun p=>p.2.2.2.1:=by
  rw[Option.some.inj z]
  conv=>rhs;rw[<-e0,Option.some.inj y]
  rw[ZnM,r,r];congr 1;funext a b;exact(Zq4 a b _ _).symm
 rw[key];exact ZpC _
theorem Zdv(n:Zf)(q:Zr)(l:List Wr)(i:Nat):(((l.map (WF n q))[i]?).getD c0).1=((l[i]?).getD c0).1/\(((l.map (WF n q))[i]?).getD c0).2.1=((l[i]?).getD c0).2.1/\(((l.map (WF n q))[i]?).getD c0).2.2.1=((l[i]?).getD c0).2.2.1:=by
 rw[Vva]
 cases l[i]? with
 |none=>simp
 |some c=>
  simp only[Vfc,Option.getD_some];unfold WF
  grind
theorem Zo1(n:Zf)(q:Zr)(l:List Wr)(k lo a:Int):Xb (l.map (WF n q)) k lo a=Xb l k lo a:=by
 have h:JW (l.map (WF n q)) k lo a=JW l k lo a:=by
  funext i;obtain⟨b,c,d⟩:=Zdv n q l i;obtain⟨e,f,g⟩:=Zdv n q l (i - 1);unfold JW ZbL ZbM ZbN
  grind
 unfold Xb
 grind
theorem ZlJ(n:Zf)(q:Zr)(a:Int):(rn (ZG n q) a).2.2.2.2.2.2.2.1=(rn n a).2.2.2.2.2.2.2.1.map (WF n q):=by
 unfold rn;show (((n.2.2.1.map (JD n q))[a.toNat]?).getD u0).2.2.2.2.2.2.2.1=_;rw[Vva]
 cases n.2.2.1[a.toNat]? <;>rfl
theorem Zru(n:Zf)(q:Zr)(i:Nat):WP (ZG n q) i=WP n i:=by have a:(ZG n q).2.2.1.length=n.2.2.1.length:=Vl ..;unfold WP YO Hx;simp only[ZlJ,Vl,a];have b:∀(l:List Wr) (x:Int),(cl (l.map (WF n q)) x).1=(cl l x).1:=fun l x=>(Zdv n q l _).1;simp only[b];rfl
theorem ZsU(n:Zf)(q:Zr){i:Nat}(f:i<n.2.2.1.length):Xx (ZG n q) i=Xx n i:=by
 have c:∀j,j<n.2.2.1.length->((ZG n q).2.2.1[j]?).getD u0=JD n q ((n.2.2.1[j]?).getD u0):=by
  intro j a;show ((n.2.2.1.map (JD n q))[j]?).getD u0=_
  grind
 unfold Xx;rw[c i f]
 have d:(∃j,j<i/\runK (((ZG n q).2.2.1[j]?).getD u0)=runK (JD n q ((n.2.2.1[i]?).getD u0)))↔∃j,j<i/\runK ((n.2.2.1[j]?).getD u0)=runK ((n.2.2.1[i]?).getD u0):=by
  constructor
  ·rintro ⟨j,a,e⟩;rw[c j (by omega)]at e;exact⟨j,a,e⟩
  ·rintro ⟨j,a,e⟩;refine⟨j,a,?_⟩;rw[c j (by omega)];exact e
 have b:Xb (JD n q ((n.2.2.1[i]?).getD u0)).2.2.2.2.2.2.2.1 ((ZG n q).1.length:Int) 0 3155932800=Xb ((n.2.2.1[i]?).getD u0).2.2.2.2.2.2.2.1 (n.1.length:Int) 0 3155932800:=Zo1 n q _ _ _ _;simp only[b,d];rfl
theorem Zfu{n:Zf}(q:Zr)(e:n.2.2.2.2.1.length<=4096)(h:Whole n):Whole (ZG n q):=by
 have a:(ZG n q).2.2.1.length=n.2.2.1.length:=Vl ..
 have d:(∀i,i<(Ju n q).length->K4 n.1.length (Ju n q) i=0)/\ ∀c,F116 (Ju n q) (n.1.length:Int)=some c->Xo c (Ju n q)=true:=by
  unfold Ju;split
  ·exact ZqH h.sound.stops e (WH.1 h.q) h.w
  ·exact⟨WH.1 h.q,h.w⟩
 refine⟨h.s,h.t,by rw[a];exact h.u,?_,h.v,?_,WH.2 d.1,d.2,h.z⟩
 ·rw[a];exact WH.2 fun i b=>by rw[ZsU n q b];exact WH.1 h.f i b
 ·exact WH.2 fun i b=>by rw[Zru];exact WH.1 h.g i b
theorem ZnP{n:Zf}(q:Zr)(h:Few n):Few (ZG n q):=by
 refine⟨h.stops,h.routes,by show (n.2.2.1.map _).length<=_;rw[Vl];exact h.runs,h.links,?_,h.prods,?_⟩
 ·show (Ju n q).length<=_;unfold Ju;split
  ·exact Nat.le_trans (Vic _ _) h.paths
  ·exact h.paths
 ·intro r b;obtain⟨x,a,rfl⟩:=List.mem_map.1 (by assumption);show (x.2.2.2.2.2.2.2.1.map _).length<=_;rw[Vl];exact h.calls x a
end Q
namespace Q
open Tr Go
def Zm6(n:Zf)(l:List Wr)(j:Nat):Nat:=2 ^ (Wg n ((l[j]?).getD c0).1).2.1.toNat
theorem ZtL{n:Zf}(h:Ws n){a:Int}(d:0<=a)(e:a<(n.1.length:Int)):idx n.1 a=some (Wg n a)/\0<=(Wg n a).2.1/\(Wg n a).2.1<16:=by
 have c:ZU a n.1.length=true:=by unfold ZU;grind
 refine⟨WI c s0,?_⟩;have b:a.toNat<n.1.length:=by omega
 unfold Wg;rw[Kq b];exact h.zone _ (Ve b)
theorem ZuA{n:Zf}(h:Ws n){x:Zt}(o:Ku n x=true):F140 n x=some ((zN n (KE n x) x.2.2.1.toNat (x.2.2.2.1.toNat+1 - x.2.2.1.toNat):Nat):Int):=by
 unfold Ku at o;simp only[Vi,KL]at o;obtain⟨w,y,p,z⟩:=o;have v:=Do w;have f:=(h.many _ v).2;have t:∀c∈KE n x,0<=c.1/\c.1<(n.1.length:Int):=h.call _ v;have e:idx n.2.2.1 x.2.1=some (rn n x.2.1):=WI w u0;unfold F140;rw[e];simp only[Za];have d:(rn n x.2.1).2.2.2.2.2.2.2.1=KE n x:=rfl;simp only[d]at f⊢;generalize KE n x=l at*;obtain⟨a,r⟩:∃a:Nat,x.2.2.1=(a:Int):=⟨x.2.2.1.toNat,by omega⟩;obtain⟨b,s⟩:∃b:Nat,x.2.2.2.1=(b:Int):=⟨x.2.2.2.1.toNat,by omega⟩;rw[r]at y p;rw[s]at p z;rw[r,s];simp only[Vj];rw[Jv (n:=b+1 - a) (fun i (st:Int×Int)=>st=(((zN n l a i:Nat):Int),((a+i:Nat):Int))) (fun _=>0) (fun _=>((zN n l a (b+1 - a):Nat):Int)) ((zN n l a (b+1 - a):Nat):Int) ?_ ?_ ?_ ((0:Int),(a:Int)) rfl]
 ·unfold pick
  grind
 ·rintro i _ B rfl _;have u:a+i<l.length:=by omega
  have g:=t _ (Ve u);obtain⟨k,m,j⟩:=ZtL h g.1 g.2;refine⟨(((zN n l a (i+1):Nat):Int),((a+(i+1):Nat):Int)),?_,rfl⟩;have A:Va .i64 (((a+i:Nat):Int)+1)=((a+(i+1):Nat):Int):=by rw[Zy (by omega) (by omega)];omega
  simp only[Ze (show ((a+i:Nat):Int)<=(b:Int) by omega),Zc,ZC u,Za,k,Ds m j,A];rw[HG (Zbo h t (a:=a) i (by omega)) (YW j)]
  have:zN n l a (i+1)=zN n l a i ||| 2 ^ (Wg n l[a+i].1).2.1.toNat:=by
   show zN n l a i ||| Zm6 n l (a+i)=_;unfold Zm6
   grind
  grind
 all_goals grind
theorem Zk1{c d:Bool}{e:Int}{K:Option Int}{k:Int}(h:K=some k):(Vb (bif c then some true else some d) fun x=>bif x then some e else K)=some (bif c||d then e else k):=by
 grind
theorem ZbE{c d:Bool}{e:Int}{K:Option Int}{k:Int}(h:K=some k):(Vb (bif c then some d else some false) fun x=>bif x then some e else K)=some (bif c&&d then e else k):=by
 grind
theorem ZaZ{c:Bool}{e:Int}{K:Option Int}{k:Int}(h:K=some k):(bif c then some e else K)=some (bif c then e else k):=by
 grind
theorem ZbJ{o:Option Bool}{c:Bool}{e:Int}{K:Option Int}{k:Int}(a:o=some c)(h:K=some k):(Vb o fun x=>bif x then some e else K)=some (bif c then e else k):=by
 grind
theorem Kt{c:Bool}{e k:Int}(a:e≠0):(bif c then e else k)=0↔c=false/\k=0:=by
 grind
def Zd2(q:Zr)(t:YJ):Bool:=decide (q.2.2.2.2.2.2.2.2.1=(0:Int)) ||decide (ZB .i64 (Vxa q.2.2.2.2.2.2.2.2.1 (2 ^ (min (Vfa t.2.1) 64))) 1=1)
theorem Zsr(a:Int):ZB .i64 a 1=0\/ZB .i64 a 1=1:=by
 unfold ZB
 have h:(Vf Vv.bits a &&& Vf Vv.bits 1).toNat=(Vf Vv.bits a).toNat % 2:=by
  grind
 rw[h];have:(Vf Vv.bits a).toNat % 2=0\/(Vf Vv.bits a).toNat % 2=1:=by omega
 rcases this with h|h<;>rw[h]
 ·left;rfl
 ·right;rfl
theorem ZrH(q:Zr)(t:YJ)(b:0<=t.2.1):(bif !decide (q.2.2.2.2.2.2.2.2.1=(0:Int)) then Vb (Hj .i64 q.2.2.2.2.2.2.2.2.1 t.2.1) fun x=>some (decide (ZB .i64 x (1:Int)=(0:Int))) else some false)=some (!Zd2 q t):=by
 unfold Zd2
 have a:Hj .i64 q.2.2.2.2.2.2.2.2.1 t.2.1=some (Vxa q.2.2.2.2.2.2.2.2.1 (2 ^ (min (Vfa t.2.1) 64))):=by unfold Hj;rw[Zg (by omega)];rfl
 rw[a];simp only[Za]
 cases decide (q.2.2.2.2.2.2.2.2.1=(0:Int)) with
 |true=>rfl
 |false=>
  rcases Zsr (Vxa q.2.2.2.2.2.2.2.2.1 (2 ^ (min (Vfa t.2.1) 64))) with h|h<;>rw[h]<;>rfl
def HK(n:Zf)(q:Zr)(x:Zt):Int:=
 bif !decide ((cl (KE n x) x.2.2.1).1=x.2.2.2.2.1) || !decide ((cl (KE n x) x.2.2.2.1).1=x.2.2.2.2.2.1) then 24 else
 bif !decide ((cl (KE n x) x.2.2.1).2.2.1=x.2.2.2.2.2.2.1) || !decide ((cl (KE n x) x.2.2.2.1).2.1=x.2.2.2.2.2.2.2.1) then 10 else
 bif (rn n x.2.1).2.2.2.2.2.2.1 then 27 else
 bif q.2.2.2.2.2.2.1&& !(rn n x.2.1).2.2.2.2.2.1 then 29 else
 bif q.2.2.2.2.2.2.2.1&& !(Dq n (rn n x.2.1)).2.2.1 then 30 else
 bif !Zd2 q (Dq n (rn n x.2.1)) then 31 else
 bif !KG x&& !(cl (KE n x) x.2.2.1).2.2.2.1 then 25 else
 bif !KG x&& !Xu n q x.2.2.2.2.1 then 29 else 0
theorem Zga{n:Zf}{x:Zt}(a:Ku n x=true):idx n.2.2.1 x.2.1=some (rn n x.2.1)/\rn n x.2.1∈n.2.2.1/\idx (rn n x.2.1).2.2.2.2.2.2.2.1 x.2.2.1=some (cl (KE n x) x.2.2.1)/\idx (rn n x.2.1).2.2.2.2.2.2.2.1 x.2.2.2.1=some (cl (KE n x) x.2.2.2.1):=by
 unfold Ku at a;simp only[Vi,KL]at a;obtain⟨b,d,e,c⟩:=a;unfold KE at c
 refine⟨WI b u0,Do b,WI ?_ c0,WI ?_ c0⟩<;> (unfold ZU;grind)
def YU(x:Zt)(p:Kh):Bool:=decide (p.1=x.2.2.2.2.1) && (decide (p.2.1=x.2.2.2.2.2.1) &&decide (p.2.2.1=Va .i64 (x.2.2.2.2.2.2.2.1 - x.2.2.2.2.2.2.1)))
def Hb(q:Zr)(p:Kh):Bool:=p.2.2.2.1|| !q.2.2.2.2.2.2.1
def Yz(n:Zf)(q:Zr)(x:Zt):Int:=bif n.2.2.2.2.1.any fun p=>YU x p&&Hb q p then 0 else bif n.2.2.2.2.1.any (YU x) then 29 else 18
theorem RE{α:Type}{l:List α}{i:Nat}(h:i<l.length)(f:α->Bool):(l.take (i+1)).any f=((l.take i).any f||f l[i]):=by rw[Vg h,List.any_append];simp
theorem Zdd{α:Type}{l:List α}{i:Nat}(h:i<l.length){f:α->Bool}(a:f l[i]=true):l.any f=true:=by grind
def Xd(n:Zf)(q:Zr)(x:Zt):Int:=
 bif !ZU x.2.2.2.2.1 n.1.length|| !ZU x.2.2.2.2.2.1 n.1.length then 9 else
 bif (bif x.1 then !Ku n x else !decide (x.2.1=0) || (!decide (x.2.2.1=0) || (!decide (x.2.2.2.1=0) ||KG x))) then 9 else
 bif !decide (0<=x.2.2.2.2.2.2.1/\x.2.2.2.2.2.2.1<=3155932800) || !decide (0<=x.2.2.2.2.2.2.2.1/\x.2.2.2.2.2.2.2.1<=3155932800) then 10 else
 bif x.1 then HK n q x else Yz n q x
theorem Zdk{o:Option Bool}{c:Bool}{e:Int}{K:Option Int}{k:Int}(a:o=some c)(h:c=false->K=some k):(Vb o fun x=>bif x then some e else K)=some (bif c then e else k):=by
 grind
def Dg(a b:Zt)(stay:Bool)(l:Yd):Bool:=decide (l.1=a.2.1) && (decide (l.2.1=a.2.2.2.1) && (decide (l.2.2.1=b.2.1) && (decide (l.2.2.2.1=b.2.2.1) && (l.2.2.2.2.1==stay))))
def Hf(n:Zf)(a b:Zt)(stay:Bool):Bool:=n.2.2.2.1.any (Dg a b stay)
def Xc(n:Zf)(a b:Zt):Int:=
 bif !decide (a.2.2.2.2.2.1=b.2.2.2.2.1) then 24 else
 bif !a.1&& !b.1 then 32 else
 bif KG b then(bif !a.1|| !Hf n a b true then 19 else bif decide (b.2.2.2.2.2.2.1<a.2.2.2.2.2.2.2.1) then 10 else 0) else
 bif !b.1 then(bif !decide (b.2.2.2.2.2.2.1=a.2.2.2.2.2.2.2.1) then 10 else 0) else
 bif !a.1 then(bif decide (b.2.2.2.2.2.2.1<a.2.2.2.2.2.2.2.1) then 28 else 0) else
 bif decide (Va .i64 (a.2.2.2.2.2.2.2.1+(Wg n a.2.2.2.2.2.1).2.2.2.1)<=b.2.2.2.2.2.2.1) || (Hf n a b false&&decide (a.2.2.2.2.2.2.2.1<=b.2.2.2.2.2.2.1)) then 0 else 28
def g0:Zt:=(false,0,0,0,0,0,0,0,false,())
def lg(L:List Zt)(i:Nat):Zt:=(L[i]?).getD g0
def HA(n:Zf)(q:Zr)(L:List Zt):Int:=
 bif !decide ((lg L 0).2.2.2.2.1=q.1) then 24 else
 bif KG (lg L 0) then 19 else
 bif !(lg L 0).1&& (decide (1<L.length) && ((lg L 1).1&& !decide ((lg L 1).2.2.2.2.2.2.1=(lg L 0).2.2.2.2.2.2.2.1))) then 10 else
 bif !(lg L 0).1&& (decide (L.length=1) && (bif q.2.2.2.1 then !decide ((lg L 0).2.2.2.2.2.2.2.1=q.2.2.1) else !decide ((lg L 0).2.2.2.2.2.2.1=q.2.2.1))) then 10 else
 bif !q.2.2.2.1&&decide ((lg L 0).2.2.2.2.2.2.1<q.2.2.1) then 10 else
 bif q.2.2.2.2.2.2.2.2.2.1&& ((lg L 0).1&&decide ((lg L 0).2.2.2.2.2.2.1<Va .i64 (q.2.2.1+(Wg n q.1).2.2.2.1))) then 28 else 0
theorem D6{L:List Zt}{i:Nat}(h:i<L.length):idx L (i:Int)=some (lg L i):=by
 rw[ZC h];unfold lg
 grind
end Q
namespace Q
open Tr Go
def Zae(L:List Zt)(i:Nat):Bool:=decide (0<i) && (lg L (i - 1)).1
theorem ZsL{n:Zf}(h:Ws n)(o:F120 n=some true)(L:List Zt)(K:L.length<=1000):F134 n (L,())=some (K2 n L false []):=by
 unfold F134;rw[o];simp only[Za,Vd,Zd];refine KM (fun r=>K2 n L false []=Sum.elim (fun l:List ZJ=>(l,(0:Int))) (fun y=>y) r) ?_ ?_
 ·refine Ki L.length _ (fun i (s:List ZJ×Int)=>∃l,s=(l,(i:Int))/\l.length<=i/\(Zae L i=true->0<l.length)/\K2 n L false []=K2 n (L.drop i) (Zae L i) l) ?_ ?_ _ ⟨[],rfl,by simp,fun e=>(nomatch e),rfl⟩
  ·rintro i _ d ⟨l,rfl,H,E,a⟩;have g:L.length<=9223372036854775807:=by omega
   rw[Vm d]at a
   have j:Zae L (i+1)=(L[i]).1:=by
    unfold Zae lg
    grind
   have m:(bif !(L[i]).1 then some true else bif decide ((i:Int)=(0:Int)) then some true else Vb (idx L (Va .i64 ((i:Int) - (1:Int)))) fun I=>some !I.1)=some (!((L[i]).1&&Zae L i)):=by
    cases (L[i]).1 with
    |false=>rfl
    |true=>
     unfold Zae;by_cases J:i=0
     ·grind
     ·rw[Zk (by omega),Ze (by omega)];have e:Va .i64 ((i:Int) - 1)=((i - 1:Nat):Int):=by rw[Zy (by omega) (by omega)];omega
      rw[e,D6 (by omega)];rfl
   simp only[ZO d,Zc,ZC d,Za,ZW d g,Zjt];rw[m];generalize L[i]=x at*;rw[Gg]at a;generalize Zae L i=w at*
   cases t:x.1 with
   |false=>
    grind
   |true=>
    rw[t]at a j;simp only[Zc,Za,Vd,Zd,Vid]
    cases p:Ku n x with
    |false=>
     grind
    |true=>
     rw[p]at a;obtain⟨u,z,A,B⟩:=Zaf h p;have D:=ZuA h p;simp only[Vd,Zd]
     cases f:KG x with
     |false=>
      left;rw[f]at a;have b:=f;unfold KG at b;rw[b];simp only[Zd,Za];rw[u];simp only[Za];rw[z];simp only[Za];rw[Ds A B,D];simp only[Za];rw[GJ (by grind)];refine⟨_,rfl,l++[Xf n x],rfl,by grind,by simp,?_⟩
      grind
     |true=>
      rw[f]at a;have b:=f;unfold KG at b;rw[b];simp only[Zc,Za]
      cases w with
      |false=>
       grind
      |true=>
       left;have c:=E rfl;obtain⟨v,o⟩:∃v,l[l.length - 1]? =some v:=⟨_,Vc (by omega)⟩;simp only[Vd,Zd];rw[u];simp only[Za];rw[z];simp only[Za];rw[Ds A B,D];have G:=Zgn (k:=l.length) c (by omega);simp only[Za,Vec];rw[G];simp only[Za,o,Zbe (show l.length - 1<l.length by omega)];rw[Zbe (by grind)];simp only[Za,Vnd];have C:XH n x l=XX n x l v:=by unfold XH;grind
       refine⟨_,rfl,XX n x l v,rfl,by rw[<-C,Zc7];omega,fun _=>by rw[<-C,Zc7];omega,?_⟩
       grind
  ·rintro _ ⟨l,rfl,H,E,a⟩;simp only[JF,Zd];refine⟨_,rfl,?_⟩;rw[a,Vwc];rfl
 grind
theorem ZoR(z:Int):∃r,F138 z=some r:=by
 unfold F138
 suffices h:∃r,run _ ((0:Int),(0:Int))=some r/\True by obtain⟨r,h,_⟩:=h;exact⟨r,by rw[h];rfl⟩
 refine Ki 62 (fun _=>True) (fun i (s:Int×Int)=>s.2=(i:Int)) ?_ ?_ _ rfl
 ·rintro i ⟨a,b⟩ g c;left;simp only at c;subst c;have f:Va .i64 ((i:Int)+1)=((i+1:Nat):Int):=by rw[Zy (by omega) (by omega)];omega
  have d:∃y,Hj .i64 z (i:Int)=some y:=by unfold Hj;simp
  obtain⟨y,e⟩:=d;simp only[Ze (show (i:Int)<62 by omega),Zc,e,Za,f]
  cases decide (ZB .i64 y 1=1) with
  |true=>simp
  |false=>simp
 simp
theorem ZmW(a b d:Int):∃r,F139 a b d=some r:=by
 unfold F139
 cases decide (b<=a)<;>exact⟨_,rfl⟩
theorem ZpU(p:JO){l:List ZJ}{i k:Nat}(m:i<=k)(o:k<l.length)(s:l.length<=100):∃r,F131 p l (i:Int) (k:Int)=some r:=by
 unfold F131
 suffices h:∃r,run _ ((0:Int),(0:Int),(i:Int))=some r/\True by
  obtain⟨r,h,_⟩:=h;rw[h];simp only[Za];obtain⟨b,j⟩:=ZoR r.1;obtain⟨c,f⟩:=ZmW (l[i]).1 (l[k]).1 p.2.2.2.2.1;rw[j];simp only[Za,ZC (show i<l.length by omega),ZC o,f]
  grind
 refine Ki (k+1 - i) (fun _=>True) (fun c (t:Int×Int×Int)=>t.2.2=((i+c:Nat):Int)) ?_ ?_ _ rfl
 ·rintro c ⟨a,b,d⟩ f e;left;simp only at e;subst e;have g:Va .i64 (((i+c:Nat):Int)+1)=((i+(c+1):Nat):Int):=by rw[Zy (by omega) (by omega)];omega
  simp only[Ze (show ((i+c:Nat):Int)<=(k:Int) by omega),Zc,ZC (show i+c<l.length by omega),Za,g];simp
 ·rintro ⟨a,b,d⟩ e;simp only at e;subst e;rw[Zk (show¬((i+(k+1 - i):Nat):Int)<=(k:Int) by omega)];simp
theorem ZtU(F:Kc)(p:JO){l:List ZJ}{i:Nat}(b:i<l.length)(f:l.length<=100):∃r,F135 F p l (i:Int)=some r:=by
 unfold F135;by_cases d:0<i
 ·have e:Va .i64 ((i:Int) - 1)=((i - 1:Nat):Int):=by rw[Zy (by omega) (by omega)];omega
  obtain⟨c,a⟩:=ZmW (l[i - 1]).2.1 (l[i]).1 F.2.2.1;rw[Ze (by omega),e];simp only[Zc,ZC (show i - 1<l.length by omega),ZC b,Za,a]
  cases c<;>exact⟨_,rfl⟩
 simp_all
abbrev TkT:=Int×Int×Int×Int×Unit
abbrev HT:=Bool×Int×List TkT×Unit
def Y5(n:Nat)(T:List HT):Prop:=T.length=n+1/\ ∀j r,T[j]? =some r->r.2.2.1.length+j<=n
theorem Y5.get{n:Nat}{T:List HT}(h:Y5 n T){j:Nat}(a:j<=n):∃r,T[j]? =some r/\r.2.2.1.length+j<=n:=by have b:=h.1;exact⟨_,Vc (show j<T.length by omega),h.2 _ _ (by simp)⟩
theorem Y5.put{n:Nat}{T:List HT}(h:Y5 n T){i:Nat}{r:HT}(c:r.2.2.1.length+i<=n):Y5 n (T.set i r):=by
 refine⟨by rw[Vec];exact h.1,fun j s b=>?_⟩;by_cases a:i=j
 ·grind
 ·rw[Vgb a]at b;exact h.2 j s b
theorem ZfC{β σ τ:Type}{o:Option β}{f:β->Option (σ ⊕ τ)}{Q:σ->Prop}(P:β->Prop)(h:∃r,o=some r/\P r)(k:∀r,P r->∃s,f r=some (.inl s)/\Q s):∃s,Vb o f=some (.inl s)/\Q s:=by
 grind
theorem Zsf(F:Kc)(hF:F.1.length<=4096)(l:List ZJ)(W:l.length<=8):∃R,F133 F l=some R:=by
 unfold F133;have S:Va .i64 ((l.length:Int)+1)=((l.length+1:Nat):Int):=by rw[Zy (by omega) (by omega)];omega
 have K:ZE (decide ((0:Int)<=((l.length+1:Nat):Int)/\((l.length+1:Nat):Int)<=((l.length+1:Nat):Int)/\((l.length+1:Nat):Int)<=(Zz:Int)))=some ():=by
  have N:(Zz:Int)=549755813888:=by rfl
  rw[Ze (by omega)];rfl
 have e:∀o:List HT,o=Vu (l.length+1) (false,0,[],())->Zp (l.length:Int) o.length=some l.length/\o[l.length]? =some (false,0,[],()):=by rintro o rfl;exact⟨Kg (by simp),by simp⟩
 obtain⟨O,P⟩:=e _ rfl;rw[S];erw[K];simp only[Za,Vj];erw[O];simp only[Za];erw[P];simp only[Za]
 have key:∀(o:Option (List HT)) (k:List HT->Option (Int×List TkT×Bool)),(∃T,o=some T/\Y5 l.length T)->(∀T,Y5 l.length T->∃R,k T=some R)->∃R,Vb o k=some R:=by
  grind
 refine key _ _ (Ki l.length _ (fun c (s:List HT×Int)=>∃T,s=(T,(l.length:Int) - 1 - (c:Int))/\Y5 l.length T) ?_ ?_ _ ?_) ?_
 ·rintro c _ V ⟨T,rfl,a⟩;left;obtain⟨i,M⟩:∃i:Nat,(l.length:Int) - 1 - (c:Int)=(i:Int):=⟨l.length - 1 - c,by omega⟩;have v:i<l.length:=by omega
  rw[M];rw[Ze (by omega)];simp only[Zc];refine ZfC (fun f=>Y5 l.length f) ?_ ?_
  ·refine Ki (l.length - i) _ (fun m (s:List HT×Int)=>∃T,s=(T,((i+m:Nat):Int))/\Y5 l.length T) ?_ ?_ _ ⟨T,rfl,a⟩
   ·rintro m _ N ⟨T,rfl,a⟩;left;have B:i+m<l.length:=by omega
    have A:Va .i64 (((i+m:Nat):Int)+1)=((i+m+1:Nat):Int):=by rw[Zy (by omega) (by omega)];omega
    have g:=a.1;have d:Zp ((i+m+1:Nat):Int) T.length=some (i+m+1):=Kg (by omega);obtain⟨r,x,J⟩:=a.get (show i+m+1<=l.length by omega);simp only[ZO B,Zc,A,d,x,Za]
    cases r.1 with
    |false=>grind
    |true=>
     simp only[Vd,Zd];refine ZfC (fun f=>Y5 l.length f) ?_ ?_
     ·refine Ki F.1.length _ (fun p (s:List HT×Int)=>∃T,s=(T,(p:Int))/\Y5 l.length T) ?_ ?_ _ ⟨T,rfl,a⟩
      ·rintro p _ C ⟨T,rfl,a⟩;left;have E:Va .i64 ((p:Int)+1)=((p+1:Nat):Int):=by rw[Zy (by omega) (by omega)];omega
       have g:=a.1;have d:Zp ((i+m+1:Nat):Int) T.length=some (i+m+1):=by grind
       have h:Zp (i:Int) T.length=some i:=Kg (by omega);obtain⟨Q,z,I⟩:=a.get (show i+m+1<=l.length by omega);obtain⟨X,y,H⟩:=a.get (show i<=l.length by omega);obtain⟨D,t⟩:=ZpU F.1[p] (show i<=i+m by omega) B (by omega);obtain⟨pr,w⟩:=ZtU F F.1[p] v (by omega);simp only[ZO C,Zc,ZC C,Za,t,w,d,h,z,y,E]
       cases D with
       |false=>grind
       |true=>
        simp only[Vd,Zd];refine ZfC (fun _=>True) ?_ fun b _=>?_
        ·grind
        ·cases b with
         |true=>grind
         |false=>
          simp only[Zd]
          have u:ZE (decide (Vh [((p:Int),(i:Int),((i+m:Nat):Int),pr,())]+Vh Q.2.2.1<=Zz))=some ():=by rw[Ze (by simp only[Vka,Vq,Zz];omega)];rfl
          rw[u];simp only[Za];exact⟨_,rfl,_,rfl,a.put (by grind)⟩
      simp
     grind
   grind
  ·intro f G;have A:Va .i64 ((i:Int) - 1)=(l.length:Int) - 1 - ((c+1:Nat):Int):=by rw[Zy (by omega) (by omega)];omega
   grind
 ·grind
 ·refine⟨(Vu (l.length+1) ((false,0,[],()):HT)).set l.length (true,0,[],()),?_,Y5.put ⟨by simp,fun j r x=>?_⟩ (by simp)⟩
  ·rw[Zy (by omega) (by omega)];simp
  grind
 ·intro T a;obtain⟨r,x,_⟩:=a.get (Vbb _);have U:Zp (0:Int) T.length=some 0:=Kg (i:=0) (by grind)
  simp_all
end Q
namespace Q
open Tr Go
def ZhN(x:Zt):Bool:= !x.1&& (decide (0<=x.2.2.2.2.2.2.1) && (decide (x.2.2.2.2.2.2.1<=x.2.2.2.2.2.2.2.1) &&decide (Va .i64 (x.2.2.2.2.2.2.2.1 - x.2.2.2.2.2.2.1)<=14400)))
def Zbn(s:Int)(x:Zt):Int:=bif ZhN x then Va .i64 (Va .i64 (s+x.2.2.2.2.2.2.2.1) - x.2.2.2.2.2.2.1) else s
def Rq(L:List Zt):Int:=L.foldl Zbn 0
theorem ZeM(L:List Zt)(d:L.length<=1000):F137 (L,())=some (Rq L):=by
 unfold F137;refine KM (fun r=>r=Rq L) ?_ (by simp);refine Ki L.length _ (fun i (s:Int×Int)=>s=((L.take i).foldl Zbn 0,(i:Int))) ?_ ?_ _ rfl
 ·rintro i _ a rfl;left
  have b:(bif !(L[i]).1 then
 bif decide ((0:Int)<=(L[i]).2.2.2.2.2.2.1) then
 bif decide ((L[i]).2.2.2.2.2.2.1<=(L[i]).2.2.2.2.2.2.2.1) then
 some (decide (Va .i64 ((L[i]).2.2.2.2.2.2.2.1 - (L[i]).2.2.2.2.2.2.1)<=(14400:Int)))
 else some false
 else some false
 else some false)=some (ZhN L[i]):=by
   unfold ZhN
   grind
  have c:(L.take (i+1)).foldl Zbn 0=Zbn ((L.take i).foldl Zbn 0) L[i]:=by rw[Vg a,Vba];rfl
  simp only[ZO a,Zc,ZC a,Za,ZW a (by omega)];rw[b,c];unfold Zbn
  grind
 ·rintro _ rfl;simp only[JF,Zd];exact⟨_,rfl,by rw[Vra];rfl⟩
def Zba(x:Zt):Bool:=x.1&& !KG x
def Ww(L:List Zt):Nat:=(L.filter Zba).length
noncomputable def Zli(F:Kc)(l:List ZJ):Int:=match F133 F l with
 |some r=>bif r.2.2 then 0 else 34
 |none=>0
noncomputable def ZaC(n:Zf)(L:List Zt):Int:=
 bif !decide ((K2 n L false []).2=0) then(K2 n L false []).2 else
 bif decide (8<(K2 n L false []).1.length) then 33 else Zli n.2.2.2.2.2.1 (K2 n L false []).1
theorem Zpa(F:Kc)(s:Int):∃r,F129 F s=some r:=by
 unfold F129
 cases decide ((0:Int)<F.2.2.2.1)<;>exact⟨_,rfl⟩
theorem ZfY{n:Zf}(h:Ws n)(i:F120 n=some true)(hF:n.2.2.2.2.2.1.1.length<=4096)(q:Zr)(L:List Zt)(b:L.length<=1000):∃c,F130 n q (L,())=some c/\c.2.2=ZaC n L:=by
 unfold F130 ZaC;rw[ZsL h i L b];simp only[Za];generalize K2 n L false []=R;by_cases d:R.2=0
 case neg=>simp_all
 rw[Ze d];simp only[Vd,Zd];by_cases a:8<R.1.length
 ·rw[Ze (by omega),Ze a];simp
 rw[Zk (by omega),Zk a];simp only[Zd];obtain⟨p,g⟩:=Zsf n.2.2.2.2.2.1 hF R.1 (by omega);unfold Zli;rw[g];simp only[Za]
 cases p.2.2 with
 |false=>simp
 |true=>
  simp only[Vd,Zd,Zc];obtain⟨c,f⟩:=Zpa n.2.2.2.2.2.1 p.1;rw[f,ZeM L b];simp only[Za];by_cases hL:0<L.length
  ·have e:Va .i64 ((L.length:Int) - 1)=((L.length - 1:Nat):Int):=by rw[Zy (by omega) (by omega)];omega
   have j:idx L (0:Int)=some (lg L 0):=D6 hL;rw[Ze (by omega),e,j,D6 (by omega)];simp
  simp_all
def XN(L:List Zt)(i:Nat):Bool:=(lg L i).1&& (decide (i+1=L.length) || !KG (lg L (i+1)))
def Y6(n:Zf)(q:Zr)(x:Zt):Int:=bif !(cl (KE n x) x.2.2.2.1).2.2.2.2.1 then 26 else bif !Xu n q x.2.2.2.2.2.1 then 29 else 0
def Df(n:Zf)(q:Zr)(L:List Zt)(i:Nat):Int:=bif decide (i=0) then HA n q L else Xc n (lg L (i - 1)) (lg L i)
def WY(n:Zf)(q:Zr)(L:List Zt)(i:Nat):Int:=
 bif !decide (Xd n q (lg L i)=0) then Xd n q (lg L i) else
 bif !decide (Df n q L i=0) then Df n q L i else
 bif XN L i then Y6 n q (lg L i) else 0
theorem Zkr{n:Zf}{q:Zr}{x:Zt}(h:Xd n q x=0):ZU x.2.2.2.2.1 n.1.length=true/\ZU x.2.2.2.2.2.1 n.1.length=true/\(x.1=true->Ku n x=true/\HK n q x=0)/\(x.1=false->Yz n q x=0):=by
 unfold Xd at h
 grind
noncomputable def Yr(n:Zf)(q:Zr)(L:List Zt):Int:=
 bif !decide ((lg L (L.length - 1)).2.2.2.2.2.1=q.2.1) then 24 else
 bif q.2.2.2.1&&decide (q.2.2.1<(lg L (L.length - 1)).2.2.2.2.2.2.2.1) then 10 else
 bif decide (q.2.2.2.2.1<(Ww L:Int)) then 33 else
 bif decide (q.2.2.2.2.2.1<Rq L) then 32 else ZaC n L
noncomputable def WZ(n:Zf)(q:Zr)(L:List Zt):Int×Int:=
 bif !decide (XZ n q=0) then(0,XZ n q) else
 bif decide (L.length=0) then(bif !decide (q.1=q.2.1) then(0,24) else(0,0)) else
 match K8 L.length (WY n q L) with
 |some i=>((i:Int),WY n q L i)
 |none=>bif !decide (Yr n q L=0) then(((L.length - 1:Nat):Int),Yr n q L) else(0,0)
open Classical in
theorem G8(n:Zf)(q:Zr)(L:List Zt):(WZ n q L).2=0↔XZ n q=0/\((L.length=0/\q.1=q.2.1)\/(L.length≠0/\(∀i,i<L.length->WY n q L i=0)/\Yr n q L=0)):=by
 unfold WZ;by_cases h0:XZ n q=0
 case neg=>rw[Zk h0];simp [h0]
 rw[Ze h0];simp only[Vd,Zd];by_cases hL:L.length=0
 ·rw[Ze hL];by_cases he:q.1=q.2.1
  ·rw[Ze he];simp [h0,hL,he]
  ·rw[Zk he];simp [h0,hL,he]
 ·rw[Zk hL];simp only[Zd]
  cases hb:K8 L.length (WY n q L) with
  |some i=>
   have hi:=D0 hb;simp only;constructor
   ·intro e;exact absurd e hi.2
   ·rintro ⟨_,⟨e,_⟩|⟨_,e,_⟩⟩
    ·exact absurd e hL
    ·exact e i hi.1
  |none=>
   have ha:=WH.1 hb;simp only;by_cases he:Yr n q L=0
   ·rw[Ze he];simp [h0,hL,he];exact ha
   ·rw[Zk he];simp [h0,hL,he]
end Q
namespace Dm
structure Ride where
 dep:Int
 arr:Int
 zn:Nat
 md:Nat
structure Law where
 len:Nat->Nat
 ok:Nat->Int->Int->Prop
 zok:Nat->Nat->Prop
 mok:Nat->Nat->Prop
 tp:Option Int->Nat->Int->Int
 D:Int
 ok_mono:∀p a b d,a<=b->ok p a d->ok p b d
 zok_mono:∀p z z',z ||| z' =z' ->zok p z' ->zok p z
 mok_or:∀p m m',mok p (m ||| m')↔mok p m/\mok p m'
 tp_none:∀o p d,tp o p d<=tp none p d
 tp_disc:∀o p d,tp none p d<=tp o p d+D
 tp_nonneg:∀o p d,0<=tp o p d
 tp_late:∀a b p d,a<=b->tp (some b) p d<=tp (some a) p d
def zns(l:List Ride):Nat:=l.foldr (fun r z=>r.zn ||| z) 0
def mds(l:List Ride):Nat:=l.foldr (fun r z=>r.md ||| z) 0
def lastO(o:Option Int):List Ride->Option Int
 |[]=>o
 |r::l=>lastO (some r.arr) l
def lastD(d:Int):List Ride->Int
 |[]=>d
 |r::l=>lastD r.dep l
theorem Zm7(l m:List Ride):zns (l++m)=zns l ||| zns m:=by
 induction l with
 |nil=>simp [zns]
 |cons r l a=>simp only[zns,Vcb,Vyc]at a⊢;rw[a,Vma]
theorem ZkG(l m:List Ride):mds (l++m)=mds l ||| mds m:=by
 induction l with
 |nil=>simp [mds]
 |cons r l a=>simp only[mds,Vcb,Vyc]at a⊢;rw[a,Vma]
theorem lastO_append(o:Option Int)(l m:List Ride):lastO o (l++m)=lastO (lastO o l) m:=by
 induction l generalizing o with
 |nil=>rfl
 |cons r l a=>exact a _
theorem Zkl(d:Int)(l m:List Ride):lastD d (l++m)=lastD (lastD d l) m:=by
 induction l generalizing d with
 |nil=>rfl
 |cons r l a=>exact a _
variable (L:Law)
def Cov(p:Nat)(r:Ride)(l:List Ride):Prop:=l.length+1<=L.len p/\L.ok p r.dep (lastD r.dep l)/\L.zok p (zns (r::l))/\L.mok p (mds (r::l))
inductive LS (np:Nat):Option Int->List Ride->Int->Prop
 |nil (o:Option Int):LS np o [] 0
 |cons {o:Option Int}{r:Ride}{l c:List Ride}{p:Nat}{s:Int} (hp:p<np) (hc:Cov L p r l) (h:LS np (lastO none (r::l)) c s):LS np o (r::(l++c)) (L.tp o p r.dep+s)
variable {L}{np:Nat}
theorem LS.append{o:Option Int}{l m:List Ride}{a s:Int}(h:LS L np o l a):LS L np (lastO o l) m s->LS L np o (l++m) (a+s):=by
 induction h with
 |nil o=>intro h;rw[Int.zero_add];exact h
 |cons e d h f=>
  rename_i o r l c p g;intro b;rw[Vcb,Vna,Int.add_assoc];refine .cons e d (f ?_)
  have:lastO o (r::(l++c))=lastO (lastO none (r::l)) c:=by show lastO (some r.arr) (l++c)=_;rw[lastO_append];rfl
  rw[<-this];exact b
theorem LS.cut{o:Option Int}{l:List Ride}{s:Int}(h:LS L np o l s):∀B c,l=B++c->
 (∃s0 j,s=s0+j/\LS L np o B s0/\LS L np (lastO o B) c j)\/
 ∃a r f b g p s0 s2,B=a++r::f/\c=b++g/\b≠ []/\p<np/\LS L np o a s0/\Cov L p r (f++b)/\LS L np (lastO none b) g s2/\s=s0+(L.tp (lastO o a) p r.dep+s2):=by
 induction h with
 |nil o=>
  intro B c h;obtain⟨rfl,rfl⟩:=List.append_eq_nil_iff.1 h.symm
  exact .inl ⟨0,0,rfl,.nil _,.nil _⟩
 |cons e d h D=>
  rename_i o r l y p z;intro B c m
  cases B with
  |nil=>
   refine .inl ⟨0,_,(Int.zero_add _).symm,.nil _,?_⟩;rw[<- (show r::(l++y)=c from m)]
   exact .cons e d h
  |cons H B=>
   rw[Vcb]at m;obtain⟨rfl,u⟩:=List.cons.inj m;rcases List.append_eq_append_iff.1 u with ⟨t,rfl,rfl⟩|⟨t,rfl,rfl⟩
   ·
    rcases D t c rfl with ⟨s0,j,rfl,k,A⟩|⟨a,G,f,b,g,E,s0,s2,rfl,rfl,w,x,k,v,C,rfl⟩
    ·refine .inl ⟨L.tp o p r.dep+s0,j,by omega,.cons e d k,?_⟩
     have:lastO o (r::(l++t))=lastO (lastO none (r::l)) t:=by show lastO (some r.arr) (l++t)=_;rw[lastO_append];rfl
     rw[this];exact A
    ·refine .inr ⟨r::(l++a),G,f,b,g,E,L.tp o p r.dep+s0,s2,by simp,rfl,w,x,.cons e d k,v,C,?_⟩
     have:lastO o (r::(l++a))=lastO (lastO none (r::l)) a:=by show lastO (some r.arr) (l++a)=_;rw[lastO_append];rfl
     rw[this];omega
   ·
    cases t with
    |nil=>
     simp only[Vw,Vzc]at*;refine .inl ⟨L.tp o p r.dep+0,z,by omega,?_,?_⟩
     ·have:=LS.cons (c:=[]) (o:=o) e d (.nil _);simpa using this
     ·exact h
    |cons i t=>
     refine .inr ⟨[],r,B,i::t,y,p,0,z,rfl,rfl,by simp,e,.nil _,d,?_,by simp [lastO]⟩
     have:lastO none (r::(B++i::t))=lastO none (i::t):=by show lastO (some r.arr) (B++i::t)=_;rw[lastO_append];rfl
     rw[<-this];exact h
def Least(S:Int->Prop)(b:Int):Prop:=S b/\ ∀s,S s->b<=s
theorem LS.nonneg{o:Option Int}{l:List Ride}{s:Int}(h:LS L np o l s):0<=s:=by
 induction h with
 |nil=>exact Voa _
 |cons b a h c=>have:=L.tp_nonneg ‹_› ‹_› ‹Ride›.dep;omega
theorem Zkq{S:Int->Prop}(f:∀s,S s->0<=s){s:Int}(h:S s):∃b,Least S b:=by
 have:∀(n:Nat) (s:Int),S s->s.toNat<=n->∃b,Least S b:=by
  intro n
  induction n with
  |zero=>intro s e g;exact⟨s,e,fun t a=>by have:=f t a;have:=f s e;omega⟩
  |succ n i=>
   intro s e g;by_cases c:∃t,S t/\t<s
   ·obtain⟨t,a,d⟩:=c;exact i t a (by have:=f t a;omega)
   ·exact⟨s,e,fun t a=>by
     by_cases d:t<s
     ·exact absurd ⟨t,a,d⟩ c
     ·omega⟩
 exact this s.toNat s h (Vea _)
def Dom(L:Law)(np:Nat)(A B:List Ride):Prop:= ∀c s,LS L np none (B++c) s->∃a,a<=s/\LS L np none (A++c) a
theorem Dom.refl(A:List Ride):Dom L np A A:=fun _ s h=>⟨s,Voa _,h⟩
theorem Dom.trans{A B C:List Ride}(h:Dom L np A B)(k:Dom L np B C):Dom L np A C:=fun c s f=>by obtain⟨g,a,b⟩:=k c s f;obtain⟨i,d,e⟩:=h c g b;exact⟨i,Vac d a,e⟩
theorem Dom.snoc{A B:List Ride}(h:Dom L np A B)(r:Ride):Dom L np (A++[r]) (B++[r]):=fun c s a=>by rw[Vna]at a⊢;exact h _ s a
theorem Zqv{A B:List Ride}{a b:Int}(f:a<=b)(d:L.D=0\/B=[]\/a+L.D<=b\/ ∃x y,lastO none A=some x/\lastO none B=some y/\y<=x){c:List Ride}{s:Int}(h:LS L np (lastO none B) c s):∃s',a+s' <=b+s/\LS L np (lastO none A) c s' :=by
 cases h with
 |nil=>exact⟨0,by omega,.nil _⟩
 |cons i g h=>
  rename_i r l c p s;refine⟨L.tp (lastO none A) p r.dep+s,?_,.cons i g h⟩;have m:=L.tp_none (lastO none A) p r.dep;have o:=L.tp_disc (lastO none B) p r.dep;rcases d with u|rfl|t|⟨x,y,j,k,e⟩
  ·omega
  ·show a+(_+s)<=b+(L.tp none p r.dep+s);omega
  ·omega
  ·rw[j,k];have:=L.tp_late y x p r.dep e;omega
theorem dom_of{A B:List Ride}
 (i:∀b,Least (LS L np none B) b->∃a,LS L np none A a/\a<=b/\(L.D=0\/B=[]\/a+L.D<=b\/ ∃x y,lastO none A=some x/\lastO none B=some y/\y<=x))
 (m:∀o r f p b,B=o++r::f->p<np->Least (LS L np none o) b->f.length+1<L.len p->L.zok p (zns (r::f))->L.mok p (mds (r::f))->
   ∃j e g a,A=j++e::g/\LS L np none j a/\L.mok p (mds (e::g))/\r.dep<=e.dep/\g.length<=f.length/\a+L.tp (lastO none j) p e.dep<=b+L.tp (lastO none o) p r.dep/\zns (e::g) ||| zns (r::f)=zns (r::f)):
 Dom L np A B:=by
 intro c s hs;rcases LS.cut hs B c rfl with ⟨s0,s1,rfl,t,S⟩|⟨o,r,f,d,R,p,s0,Q,V,rfl,l,O,t,W,T,rfl⟩
 ·obtain⟨b,u⟩:=Zkq (fun _ h=>h.nonneg) t;obtain⟨a,E,G,H⟩:=i b u;obtain⟨s',h3,U⟩:=Zqv (A:=A) (B:=B) G H S;have:=u.2 s0 t;exact⟨a+s',by omega,E.append U⟩
 ·obtain⟨b,u⟩:=Zkq (fun _ h=>h.nonneg) t;obtain⟨C,K,P,I⟩:=W;have X:1<=d.length:=by cases d with|nil=>exact absurd rfl l|cons=>simp
  rw[Vk]at C;have N:zns (r::(f++d))=zns (r::f) ||| zns d:=Zm7 (r::f) d;have em:mds (r::(f++d))=mds (r::f) ||| mds d:=ZkG (r::f) d;rw[em,L.mok_or]at I;obtain⟨j,e,g,a,rfl,E,J,w,Y,Z,M⟩:=m o r f p b V O u (by omega) (L.zok_mono p _ _ (by rw[N, <-Vma,Nat.or_self]) P) I.1
  have k:lastD e.dep (g++d)=lastD r.dep (f++d):=by
   rw[Zkl,Zkl]
   cases d with
   |nil=>exact absurd rfl l
   |cons x y=>rfl
  have v:Cov L p e (g++d):=by
   refine⟨by rw[Vk];omega,?_,?_,?_⟩
   ·rw[k];exact L.ok_mono _ _ _ _ w K
   ·refine L.zok_mono p _ _ ?_ P;rw[N,show zns (e::(g++d))=zns (e::g) ||| zns d from Zm7 (e::g) d];rw[Vma, <-Vma (zns d),Nat.or_comm (zns d) (zns (r::f)),Vma (zns (r::f)),Nat.or_self, <-Vma,M]
   ·rw[show mds (e::(g++d))=mds (e::g) ||| mds d from ZkG (e::g) d,L.mok_or];exact⟨J,I.2⟩
  have z:LS L np (lastO none j) (e::((g++d)++R)) (L.tp (lastO none j) p e.dep+Q):=by
   refine .cons O v ?_
   have:lastO none (e::(g++d))=lastO none d:=by
    show lastO (some e.arr) (g++d)=_;rw[lastO_append]
    cases d with
    |nil=>exact absurd rfl l
    |cons x y=>rfl
   rw[this];exact T
  refine⟨a+(L.tp (lastO none j) p e.dep+Q),?_,?_⟩
  ·have:=u.2 s0 t;omega
  ·have:=E.append z;simpa using this
end Dm
namespace Q
open Tr Go
abbrev Jl:=Int×Int×Int×Int×Unit
abbrev ZcW:=List UInt8×Int×Int×Int×Int×Int×Unit
abbrev GT:=List ZcW×Int×Int×Int×Unit
abbrev JP:=List (Option GT×(Jl×Int×List Int×Unit))
inductive XT (S:List Jl->List Int->Prop) (F:GT):List Jl->JP->Prop
 |start {r0:Jl}{sums:List Int} (h:S [] sums):XT S F [] [(some F,r0,0,sums,())]
 |snoc {rs:List Jl}{s:JP}{r:Jl}{sums:List Int} (hs:XT S F rs s) (hl:rs.length+1<=8) (h:S (rs++[r]) sums):XT S F (rs++[r]) ((some F,r,((rs.length+1:Nat):Int),sums,())::s)
theorem XT.head{S:List Jl->List Int->Prop}{F:GT}{rs:List Jl}{s:JP}(h:XT S F rs s):∃r a t,s=(some F,r,(rs.length:Int),a,())::t/\S rs a/\rs.length<=8/\(∀x∈rs.getLast?,r=x):=by
 cases h with
 |start h=>exact⟨_,_,_,rfl,h,by simp,by simp⟩
 |snoc c b h=>
  rename_i rs s r a;refine⟨r,a,s,?_,h,by simpa using b,by simp⟩;rw[show (rs++[r]).length=rs.length+1 by simp]
theorem Zky{S:List Jl->List Int->Prop}{F:GT}{rs:List Jl}{s:JP}(h:XT S F rs s):F22 s=some rs:=by
 obtain⟨r,c,t,e,_,w,_⟩:=h.head
 have key:∀{rs:List Jl}{s:JP},XT S F rs s->∀b:List Jl,∀z:Jl,run
  (fun a:JP×List Jl×Int=>
  bif decide ((0:Int)<=a.2.2) then
  Vb (Tr.unc a.1) fun _=>
  Vb (Tr.unc a.1) fun v=>
  Vb (Zp a.2.2 (Vh a.2.1)) fun f=>
  Vb a.2.1[f]? fun _=>
  Vb (Tr.unc a.1) fun _=>
  Vb (Tr.unc a.1) fun d=>some (.inl (d.2.1,Vrc a.2.1 f v.2.2.1,Va .i64 (a.2.2 - (1:Int))))
  else some (.inr a.2.1)) (s,Vu rs.length z++b,(rs.length:Int) - 1)=some (rs++b):=by
  intro rs s h
  induction h with
  |start h=>
   intro b z;refine Xy ?_
   simp
  |snoc y x h u=>
   rename_i rs s r c;intro b z;refine(Hl (s' :=(s,Vu rs.length z++r::b,(rs.length:Int) - 1)) ?_).trans ?_
   ·have m:decide ((0:Int)<=((rs++[r]).length:Int) - 1)=true:=Ze (by simp);simp only[m,Zc,Tr.unc,Za];have g:((rs++[r]).length:Int) - 1=(rs.length:Int):=by simp
    rw[g]
    have j:Zp (rs.length:Int) (Vu (rs++[r]).length z++b).length=some rs.length:=by have:=Kg (i:=rs.length) (n:=(Vu (rs++[r]).length z++b).length) (by simp;omega);exact this
    rw[j]
    have k:(Vu (rs++[r]).length z++b)[rs.length]? =some z:=by rw[List.getElem?_append_left (by simp)];simp
    simp only[Za,k]
    have l:Vrc (Vu (rs++[r]).length z++b) rs.length r=Vu rs.length z++r::b:=by simp only[Vk,Vka,Vq,Vbc];rw[List.replicate_succ',Vna,Vhc _ _ (by simp)];simp
    rw[l,Zy (by omega) (by omega)]
   ·rw[u (r::b) z];simp
 unfold F22;subst e;simp only[Tr.unc,Za];have o:decide ((0:Int)<=(rs.length:Int)/\(rs.length:Int)<=(rs.length:Int)/\(rs.length:Int)<=(Zz:Int))=true:=Ze ⟨by omega,by omega,by have:(Zz:Int)=549755813888:=rfl;omega⟩;rw[o,show ZE true=some () from rfl];simp only[Za];have p:Va .i64 ((rs.length:Int) - 1)=(rs.length:Int) - 1:=Zy (by omega) (by omega);rw[p,Vj];have:=key h [] ((0:Int),(0:Int),(0:Int),(0:Int),());rw[Vw,Vw]at this;refine KM (fun r=>r=rs) ⟨rs,this,rfl⟩ ?_;rintro r rfl;rfl
def J5(x:Int):Prop:=0<=x/\x<=1000000000000
theorem ZeQ{x:Int}(a:0<=x)(b:x<=9223372036854775807):Va .u64 x=x:=by simp [Va,Vo,Vs];omega
theorem ZjR{a d m:Int}(c:J5 a)(e:J5 d)(f:J5 m):F29 a d m=some (decide (d<=a+m)):=by
 unfold F29;unfold J5 at c e f;by_cases h:d<=a
 ·rw[Ze h,Ze (by omega:d<=a+m)];rfl
 ·rw[Zk h,ZeQ e.1 (by omega),ZeQ c.1 (by omega),ZeQ (by omega) (by omega),ZeQ f.1 (by omega)]
  have:decide (d - a<=m)=decide (d<=a+m):=by
   by_cases b:d<=a+m
   ·rw[Ze b,Ze (by omega)]
   ·rw[Zk b,Zk (by omega)]
  rw[Zd,this];rfl
theorem ZqT(x y:Int):imax x y=max x y:=by
 unfold imax
 split<;>omega
def W4(F:GT)(o:Option Int)(p:ZcW)(d:Int):Int:=match o with
 |none=>p.2.1
 |some a=>if d<=a+F.2.2.1 then max 0 (p.2.1 - F.2.1) else p.2.1
structure Zh0 (F:GT):Prop where
 disc:J5 F.2.1
 wit:J5 F.2.2.1
 price:∀p∈F.1,J5 p.2.1
def Zh5(r:Jl):Prop:=J5 r.1/\J5 r.2.1
theorem Zmh{S:List Jl->List Int->Prop}{F:GT}{o:List Jl}{s:JP}(h:XT S F o s)(hF:Zh0 F){p:ZcW}(A:p∈F.1){rs:List Jl}(u:∀r∈rs,Zh5 r)(E:rs.length<=8){i:Nat}{r:Jl}(z:rs[i]? =some r):
 F24 s p rs (i:Int)=some (W4 F ((rs.take i).getLast?.map fun x=>x.2.1) p r.1):=by
 obtain⟨r0,v,t,rfl,_,_,_⟩:=h.head;obtain⟨g,c⟩:=Vsa.1 z;unfold F24;have j:=hF.price p A;have f:=hF.disc
 cases i with
 |zero=>
  simp [W4]
 |succ i=>
  have w:decide ((0:Int)<((i+1:Nat):Int))=true:=Ze (by omega);have y:Va .i64 (((i+1:Nat):Int) - 1)=(i:Int):=by rw[Zy (by omega) (by omega)];omega
  have C:idx rs (i:Int)=some rs[i]:=ZC (by omega);have D:idx rs ((i+1:Nat):Int)=some r:=by rw[ZC g,c]
  have b:(rs.take (i+1)).getLast?=some rs[i]:=by
   have:i<rs.length:=by omega
   rw[Vub,Vqa,Vta (by omega),Vsc,Zn (by omega),Vob,Vc this]
  rw[w,Zc,y,b];have k:=u rs[i] (Ve _);have l:=u r (c▸Ve _);have B:=ZjR (a:=(rs[i]).2.1) (d:=r.1) (m:=F.2.2.1) k.2 l.1 hF.wit;simp only[C,D,Za,Tr.unc,B,Vfc,W4];by_cases e:r.1<=(rs[i]).2.1+F.2.2.1
  ·rw[Ze e,Zc,Zn e];unfold J5 at j f;rw[Zy (by omega) (by omega)];exact congrArg some (ZqT _ _)
  ·rw[Zk e,Zd,Zg e]
end Q
namespace Q
open Tr Go
def Km(v:ZJ):Dm.Ride:=⟨v.1,v.2.1,v.2.2.1.toNat,v.2.2.2.1.toNat⟩
def KD(F:Kc)(p:Nat):JO:=(F.1[p]?).getD p0
theorem ZiR{z a:Nat}(h:z ||| a=a):∀k,We k z<=We k a
 |0=>Vea _
 |k+1=>by
  have f:=ZiR h k
  have c:(z >>> k) % 2<=(a >>> k) % 2:=by
   have b:z.testBit k=true->a.testBit k=true:=by
    grind
   have e:∀y:Nat,(y >>> k) % 2=(y.testBit k).toNat:=by
    intro y;rw[Vza,Vy];have:y / 2 ^ k % 2<2:=by omega
    by_cases d:y / 2 ^ k % 2=1
    all_goals grind
   grind
  show We k z+(z >>> k) % 2<=We k a+(a >>> k) % 2;omega
theorem Zut(x:Nat)(h:x<2 ^ 64):Va .i64 (x:Int)=0↔x=0:=by simp [Va,Vo,Vs];omega
theorem ZnR(a b:Nat)(c:Int):Tr.qandNot .i64 ((a ||| b:Nat):Int) c=0↔Tr.qandNot .i64 (a:Int) c=0/\Tr.qandNot .i64 (b:Int) c=0:=by
 unfold Tr.qandNot;have d:∀x:BitVec 64,x.toNat<2 ^ 64:=fun x=>x.isLt
 have e:Vf Vv.bits ((a ||| b:Nat):Int)=Vf Vv.bits (a:Int) ||| Vf Vv.bits (b:Int):=by simp
 have f:∀x:BitVec 64,Va .i64 (x.toNat:Int)=0↔x=0#64:=fun x=>by
  rw[Zut _ (d _)];constructor
  ·intro h;exact Vab h
  grind
 rw[e];refine(f _).trans (Iff.trans ?_ (and_congr (f _) (f _)).symm);show (Vf 64 (a:Int) ||| Vf 64 (b:Int)) &&& ~~~ Vf 64 c=0#64↔Vf 64 (a:Int) &&& ~~~ Vf 64 c=0#64/\Vf 64 (b:Int) &&& ~~~ Vf 64 c=0#64
 grind
theorem Zeh{F:Kc}(hF:Rv F)(p:Nat):0<=(KD F p).2.1:=by
 unfold KD
 cases h:F.1[p]? with
 |none=>exact Voa _
 |some x=>exact(hF.price x (Vmc h)).1
def Wv(F:Kc)(hF:Rv F):Dm.Law where
 len p:=(KD F p).2.2.1.toNat
 ok p a d:=d<=a+(KD F p).2.2.2.2.1
 zok p z:=((We 62 z:Nat):Int)<=(KD F p).2.2.2.1
 mok p m:=Tr.qandNot .i64 (m:Int) (KD F p).2.2.2.2.2.1=0
 tp o p d:=W4 F o (KD F p) d
 D:=F.2.1
 ok_mono:=by intro p a b d c e;omega
 zok_mono:=by intro p z g c e;have:=ZiR c 62;omega
 mok_or:=fun p m f=>ZnR m f _
 tp_none:=by
  intro o p d;have:=Zeh hF p;have:=hF.disc
  cases o with
  |none=>exact Voa _
  |some a=>simp only[W4];split<;>omega
 tp_disc:=by
  intro o p d;have:=Zeh hF p;have:=hF.disc
  cases o with
  |none=>simp only[W4];omega
  |some a=>simp only[W4];split<;>omega
 tp_nonneg:=by
  intro o p d;have:=Zeh hF p
  cases o with
  |none=>exact this
  |some a=>simp only[W4];split<;>omega
 tp_late:=by
  intro a b p d h;have:=Zeh hF p;have:=hF.disc
  simp only[W4];split<;>split<;>omega
end Q
namespace Q
open Tr Go
structure FO (F:Kc):Prop where
 head:HB F=true
 many:F.1.length<=16
 nums:∀p∈F.1,Yu p=true
theorem W1{F:Kc}(h:(Jq F).2=0):FO F:=by
 unfold Jq at h;by_cases d:HB F=false
 ·grind
 rw[Zg d]at h;by_cases b:16<F.1.length
 ·grind
 rw[Zg b]at h;have f:=Za5 h;refine⟨by grind,by omega,fun p e=>?_⟩;obtain⟨i,c,rfl⟩:=Vja e;have a:=f i c;unfold Hh at a;rw[Kq c]at a;obtain⟨_,_,g⟩:=GI.1 a
 grind
theorem FO.heads{F:Kc}(h:FO F):(0<=F.2.1/\F.2.1<=1000000)/\(0<=F.2.2.1/\F.2.2.1<=86400)/\0<=F.2.2.2.1/\F.2.2.2.1<=1000000:=by
 have:=h.head;unfold HB at this
 grind
theorem FO.prod{F:Kc}(h:FO F){p:JO}(a:p∈F.1):(0<=p.2.1/\p.2.1<=1000000)/\(1<=p.2.2.1/\p.2.2.1<=8)/\(1<=p.2.2.2.1/\p.2.2.2.1<=16)/\(0<=p.2.2.2.2.1/\p.2.2.2.2.1<=86400)/\1<=p.2.2.2.2.2.1/\p.2.2.2.2.2.1<=255:=by
 have:=h.nums p a;unfold Yu at this
 grind
theorem FO.fareOk{F:Kc}(h:FO F):Rv F:=⟨h.heads.1,h.heads.2.2.1,fun p a=>(h.prod a).1,h.many⟩
theorem FO.farOk{F:Kc}(h:FO F):Zh0 F where
 disc:=by have:=h.heads;exact⟨by omega,by omega⟩
 wit:=by have:=h.heads;exact⟨by omega,by omega⟩
 price:=fun p a=>by have:=(h.prod a).1;exact⟨by omega,by omega⟩
def Yi(v:ZJ):Prop:=Small v/\Zh5 v
theorem Zm0{a b d:Int}(c:J5 a)(e:J5 b)(f:J5 d):Gt a b d=decide (b<=a+d):=by
 have:=ZjR c e f;unfold F29 at this;unfold Gt
 grind
theorem ZhT:∀(s:List ZJ) (a:Nat),s.foldl (fun a v=>a ||| v.2.2.1.toNat) a=a ||| Dm.zns (s.map Km)
 |[],a=>by simp [Dm.zns]
 |v::s,a=>by
  rw[Vcc,ZhT s];show _=a ||| (v.2.2.1.toNat ||| Dm.zns (s.map Km))
  grind
theorem ZgR:∀(s:List ZJ) (a:Nat),s.foldl (fun a v=>a ||| v.2.2.2.1.toNat) a=a ||| Dm.mds (s.map Km)
 |[],a=>by simp [Dm.mds]
 |v::s,a=>by
  rw[Vcc,ZgR s];show _=a ||| (v.2.2.2.1.toNat ||| Dm.mds (s.map Km))
  grind
theorem Zkm:∀(l:List ZJ) (r:ZJ),Dm.lastD r.1 (l.map Km)=(((r::l)[(r::l).length - 1]?).getD GM).1
 |[],r=>rfl
 |x::l,r=>by show Dm.lastD x.1 (l.map Km)=_;rw[Zkm l x];simp
theorem Zdw{F:Kc}(h:FO F){p:Nat}(t:p<F.1.length){r:ZJ}{l:List ZJ}(i:∀v∈r::l,Yi v):H7 (KD F p) (r::l)=true↔Dm.Cov (Wv F h.fareOk) p (Km r) (l.map Km):=by
 have m:KD F p∈F.1:=by
  unfold KD
  grind
 have o:=h.prod m
 have c:(((r::l)[(r::l).length - 1]?).getD GM)∈r::l:=by simp
 have s:=Zm0 (a:=r.1) (b:=(((r::l)[(r::l).length - 1]?).getD GM).1) (d:=(KD F p).2.2.2.2.1) (i r (by simp)).2.1 (i _ c).2.1 ⟨by omega,by omega⟩;unfold H7;rw[show (((r::l)[0]?).getD GM)=r from rfl,s];simp only[Vi,KL]
 have j:zF (r::l)=Dm.zns (Km r::l.map Km):=by
  have:=ZhT (r::l) 0;rw[Vjc]at this
  assumption
 have em:mF (r::l)=Dm.mds (Km r::l.map Km):=by
  have:=ZgR (r::l) 0;rw[Vjc]at this
  assumption
 rw[j,em, <-Zkm];unfold Dm.Cov;show _↔(l.map Km).length+1<=((KD F p).2.2.1).toNat/\Dm.lastD r.1 (l.map Km)<=r.1+(KD F p).2.2.2.2.1/\_/\_;rw[Vl,Vka];constructor
 ·rintro ⟨k,e,f,g⟩;exact⟨by omega,f,e,g⟩
 ·rintro ⟨k,e,f,g⟩;exact⟨by omega,f,e,g⟩
end Q
namespace Q
open Tr Go
def JX(S:Int->Prop)(b:Int):Prop:=(b= -1/\ ∀s,¬S s)\/(0<=b/\Dm.Least S b)
theorem JX.congr{S T:Int->Prop}{b:Int}(h:JX S b)(e:∀s,S s↔T s):JX T b:=by
 have:S=T:=by grind
 grind
theorem JX.add{S:Int->Prop}{b c:Int}(h:JX S b)(d:0<=c):JX (fun s=>S s\/s=c) (if b<0\/c<b then c else b):=by
 rcases h with ⟨rfl,h⟩|⟨e,f,g⟩
 ·rw[Zn (by omega)];refine .inr ⟨d,.inr rfl,?_⟩
  grind
 ·by_cases a:c<b
  ·rw[Zn (.inr a)];refine .inr ⟨d,.inr rfl,?_⟩
   grind
  ·rw[Zg (by omega)];refine .inr ⟨e,.inl f,?_⟩
   grind
theorem ZrA{L:Dm.Law}{np:Nat}{o:Option Int}{l:List Dm.Ride}{s:Int}(h:Dm.LS L np o l s):(l=[]/\s=0)\/ ∃l0 r b p a,l=l0++r::b/\Dm.LS L np o l0 a/\p<np/\Dm.Cov L p r b/\s=a+L.tp (Dm.lastO o l0) p r.dep:=by
 induction h with
 |nil o=>simp
 |cons g f h j=>
  rename_i o r l c p s;rcases j with ⟨rfl,rfl⟩|⟨l0,m,b,k,a,rfl,i,e,d,rfl⟩
  ·exact .inr ⟨[],r,l,p,0,by simp,.nil _,g,f,by simp [Dm.lastO]⟩
  ·refine .inr ⟨r::(l++l0),m,b,k,L.tp o p r.dep+a,by simp,.cons g f i,e,d,?_⟩
   have:Dm.lastO o (r::(l++l0))=Dm.lastO (Dm.lastO none (r::l)) l0:=by show Dm.lastO (some r.arr) (l++l0)=_;rw[Dm.lastO_append];rfl
   grind
theorem ZrB{L:Dm.Law}{np:Nat}{o:Option Int}{l0 b:List Dm.Ride}{r:Dm.Ride}{p:Nat}{a:Int}(d:Dm.LS L np o l0 a)(f:p<np)(e:Dm.Cov L p r b):Dm.LS L np o (l0++r::b) (a+L.tp (Dm.lastO o l0) p r.dep):=by
 refine d.append ?_;have:=Dm.LS.cons (c:=[]) (o:=Dm.lastO o l0) f e (.nil _)
 grind
theorem ZgO{F:Kc}(h:FO F){o:Option Int}{l:List Dm.Ride}{s:Int}(a:Dm.LS (Wv F h.fareOk) F.1.length o l s):s<=1000000* (l.length:Int):=by
 induction a with
 |nil=>simp
 |cons i f g j=>
  rename_i o r l c p s;have b:=(Wv F h.fareOk).tp_none o p r.dep;have d:(Wv F h.fareOk).tp none p r.dep=(KD F p).2.1:=rfl
  have e:(KD F p).2.1<=1000000:=by
   have:KD F p∈F.1:=by unfold KD;grind
   exact(h.prod this).1.2
  grind
def Zfb(F:Kc)(h:FO F)(rs:List ZJ)(a:List Int):Prop:=a.length=9/\ ∀i,i<=rs.length->∃x,a[i]? =some x/\JX (Dm.LS (Wv F h.fareOk) F.1.length none ((rs.take i).map Km)) x
abbrev HY(F:Kc)(h:FO F):List ZJ->JP->Prop:=XT (Zfb F h) F
theorem D3(l:List ZJ):Dm.lastO none (l.map Km)=l.getLast?.map fun x=>x.2.1:=by
 have:∀(l:List ZJ) (o:Option Int),Dm.lastO o (l.map Km)=(l.getLast?.map fun x=>x.2.1).or o:=by
  intro l
  induction l with
  |nil=>intro o;rfl
  |cons r l a=>
   intro o;show Dm.lastO (some r.2.1) (l.map Km)=_
   grind
 grind
end Q
namespace Q
open Tr Go
theorem Wl{α β:Type}{o:Option α}{f:α->Option β}{Q:β->Prop}(P:α->Prop)(h:∃r,o=some r/\P r)(k:∀r,P r->∃z,f r=some z/\Q z):∃z,Vb o f=some z/\Q z:=by
 grind
theorem Ztq{α β:Type}{o:Option β}{g:α->β}{Q:α->Prop}(h:∃z,o=some z/\ ∃s,z=g s/\Q s):∃s,o=some (g s)/\Q s:=by
 grind
theorem XT.mono{S T:List Jl->List Int->Prop}(c:∀a b,S a b->T a b){F:GT}{rs:List Jl}{s:JP}(h:XT S F rs s):XT T F rs s:=by
 induction h with
 |start h=>exact .start (c _ _ h)
 |snoc f d h e=>exact .snoc e d (c _ _ h)
theorem Zhv{n i:Nat}(h:i<=n):sliceB n n (some (i:Int)) none=some (i,n):=by
 unfold sliceB
 grind
theorem Zmm{α:Type}(l:List α)(i:Nat):Vib (l.length - i) (Vvc i l)=l.drop i:=by rw[Vgc];simp
theorem JX.cof{S T:Int->Prop}{b:Int}(h:JX S b)(c:∀s,S s->T s)(e:∀t,T t->∃s,s<=t/\S s):JX T b:=by
 rcases h with ⟨rfl,h⟩|⟨a,d,f⟩
 ·exact .inl (by grind)
 ·exact .inr ⟨a,c _ d,by grind⟩
def Gw(F:Kc)(l:List ZJ)(b:List Int)(i p:Nat)(s:Int):Prop:= ∃a r,b[i]? =some a/\0<=a/\l[i]? =some r/\H7 (KD F p) (l.drop i)=true/\s=a+W4 F ((l.take i).getLast?.map fun x=>x.2.1) (KD F p) r.1
theorem ZtE{F:Kc}(h:FO F){rs:List ZJ}{s:JP}(hs:HY F h rs s){r:ZJ}(hr:∀v∈rs++[r],Yi v)(hl:rs.length+1<=8):
 ∃s',F21 s r=some (s',0)/\HY F h (rs++[r]) s' :=by
 obtain⟨r0,d,t,e,⟨d0,hS⟩,_,_⟩:=hs.head;generalize hL:rs++[r]=l at hr;have b8:l.length=rs.length+1:=by grind
 have D:∀i,i<l.length->∃x,d[i]? =some x/\JX (Dm.LS (Wv F h.fareOk) F.1.length none ((l.take i).map Km)) x/\x<=8000000:=by
  intro i o;obtain⟨x,j,k⟩:=hS i (by omega);have:l.take i=rs.take i:=by grind
  rw[this];refine⟨x,j,k,?_⟩;rcases k with ⟨rfl,_⟩|⟨_,Z,_⟩
  ·omega
  ·have:=ZgO h Z
   grind
 have c8:F.1.length<=16:=h.many
 have inner:∀(nd:JP),XT (fun _ _=>True) F l nd->∀i,i<l.length->∀(C:Int->Prop) (Y:Int),JX C Y->
  ∃b,run (fun f:Int×Int=>
   bif decide (f.2<(F.1.length:Int)) then
   Vb (idx F.1 f.2) fun U=>
   Vb
   (Vb (Zp (i:Int) (9:Nat)) fun b2=>
   Vb d[b2]? fun b3=>
   bif decide (b3<(0:Int)) then some true
   else
   Vb (sliceB (Vh l) (Vh l) (some (i:Int)) none) fun I=>
   Vb (F110 U (Vib (I.2 - I.1) (Vvc I.1 l))) fun b4=>some !b4)
   fun b5=>
   bif b5 then some (.inl (f.1,Va .i64 (f.2+(1:Int))))
   else
   Vb (Zp (i:Int) (9:Nat)) fun b6=>
   Vb d[b6]? fun V=>
   Vb (F24 nd U l (i:Int)) fun W=>
   Vb
   (bif decide (f.1<(0:Int)) then some true
   else some (decide (Va .i64 (V+W)<f.1)))
   fun b7=>
   bif b7 then some (.inl (Va .i64 (V+W),Va .i64 (f.2+(1:Int))))
   else some (.inl (f.1,Va .i64 (f.2+(1:Int))))
   else some (.inr f.1)) (Y,0)=some b/\JX (fun s=>C s\/ ∃p,p<F.1.length/\Gw F l d i p s) b:=by
  intro nd z i o C Y c5;refine Ki F.1.length (fun b=>JX (fun s=>C s\/ ∃p,p<F.1.length/\Gw F l d i p s) b) (fun p s=>s.2=(p:Int)/\JX (fun s=>C s\/ ∃w,w<p/\Gw F l d i w s) s.1) ?_ ?_ _ (by grind)
  ·rintro p ⟨b,_⟩ u ⟨rfl,J⟩;left;simp only at J;have hx:idx F.1 (p:Int)=some F.1[p]:=ZC u;have c9:KD F p=F.1[p]:=by unfold KD;grind
   obtain⟨a,X,c4,c2⟩:=D i o;have m:l.drop i=l[i]::l.drop (i+1):=Vm o;have K:F110 F.1[p] (l.drop i)=some (H7 F.1[p] (l.drop i)):=Zjl (fun v hv=>(hr v (Vga hv)).1) (by grind) (by grind) (h.prod (Ve u)).2.2.2.1.1;have A:=Zmh z h.farOk (Ve u) (fun v hv=>(hr v hv).2) (by omega) (Vc o);simp only[ZO u,Zc,hx,Za,Kg (show i<9 by omega),X,Zhv (Vtc o),Zmm,K,A,ZW u (by omega)];have skip:(∀s,¬Gw F l d i p s)->JX (fun s=>C s\/ ∃w,w<p+1/\Gw F l d i w s) b:=fun hn=>J.congr (by grind);by_cases E:a<0
   ·rw[Ze E];refine⟨_,rfl,rfl,skip ?_⟩;rintro s ⟨a',y,j,k,_⟩
    grind
   ·rw[Zk E];simp only[Zd,Za]
    cases G:H7 F.1[p] (l.drop i) with
    |false=>
     refine⟨_,rfl,rfl,skip ?_⟩;rintro s ⟨a',y,_,_,_,j,_⟩
     grind
    |true=>
     simp only[Vd,Zd]
     have O:0<=W4 F ((l.take i).getLast?.map fun x=>x.2.1) F.1[p] l[i].1:=by
      have:=(Wv F h.fareOk).tp_nonneg ((l.take i).getLast?.map fun x=>x.2.1) p l[i].1;have e2:(Wv F h.fareOk).tp ((l.take i).getLast?.map fun x=>x.2.1) p l[i].1=W4 F ((l.take i).getLast?.map fun x=>x.2.1) (KD F p) l[i].1:=rfl
      grind
     have P:W4 F ((l.take i).getLast?.map fun x=>x.2.1) F.1[p] l[i].1<=1000000:=by
      have j:=(h.prod (Ve u)).1;have k:=h.heads.1;unfold W4;split
      all_goals omega
     generalize d1:W4 F ((l.take i).getLast?.map fun x=>x.2.1) F.1[p] l[i].1=tp at O P;have hw:Va .i64 (a+tp)=a+tp:=Zy (by omega) (by omega);rw[hw]
     have b9:=(J.add (c:=a+tp) (by omega)).congr (T:=fun s=>C s\/ ∃w,w<p+1/\Gw F l d i w s) fun s=>by
      constructor
      ·rintro ((j|⟨w,j,k⟩) |rfl)
       ·grind
       ·grind
       ·exact .inr ⟨p,by omega,a,l[i],X,by omega,Vc o,by grind,by grind⟩
      ·rintro (j|⟨w,j,k⟩)
       ·grind
       ·rcases Vua w p with Z|Z
        ·grind
        ·have:w=p:=by omega
         subst this;obtain⟨a',y,k1,k2,k3,k4,rfl⟩:=k
         grind
     by_cases a0:b<0
     ·simp_all
     ·rw[Zk a0];simp only[Zd,Za];by_cases a1:a+tp<b
      ·simp_all
      ·rw[Zk a1]
       grind
  simp
 subst e;have hw:Va .i64 ((rs.length:Int)+1)=((rs.length+1:Nat):Int):=by rw[Zy (by omega) (by omega)];omega
 have z:XT (fun _ _=>True) F l ((some F,r,((rs.length+1:Nat):Int),d,())::(some F,r0,(rs.length:Int),d,())::t):=hL▸ .snoc (hs.mono (by simp)) hl trivial;have H:=Zky z;unfold F21;have h8:decide ((8:Int)<=(rs.length:Int))=false:=by grind
 have h9:Zp ((rs.length+1:Nat):Int) (9:Nat)=some (rs.length+1):=Kg (by omega);have M:d[rs.length+1]? =some d[rs.length+1]:=by simp
 simp only[Tr.unc,Za,List.isEmpty_cons,Zd,h8,hw,H,h9,M];refine Ztq (g:=fun s' =>(s',(0:Int))) (Wl (fun b=>JX (fun s=>∃i,i<l.length/\ ∃p,p<F.1.length/\Gw F l d i p s) b) ?_ fun b e2=>⟨_,rfl,_,rfl,?_⟩)
 rotate_left
 ·show XT (Zfb F h) F l _;rw[<-hL];refine .snoc hs hl ?_;rw[hL];refine⟨by grind,fun i o=>?_⟩;by_cases c6:i<l.length
  ·grind
  ·have a3:i=rs.length+1:=by omega
   subst a3
   refine⟨b,by grind,e2.cof (fun s=>?_) fun s=>?_⟩<;>rw[Vgc (by omega)]
   ·rintro ⟨i,o,p,u,a,y,X,E,a6,G,rfl⟩;obtain⟨x,j,k,_⟩:=D i o;rw[X]at j;cases j;rcases k with ⟨rfl,_⟩|⟨_,k,_⟩
    ·omega
    have a7:=Vsa.1 a6;have m:l.drop i=y::l.drop (i+1):=by rw[Vm o,a7.2]
    rw[m]at G;have hc:=(Zdw h u (by grind)).1 G;have:=ZrB k u hc;rw[D3]at this
    have e3:(l.take i).map Km++Km y::(l.drop (i+1)).map Km=l.map Km:=by rw[<-Vda, <-m, <-Vx,Vz]
    rw[e3]at this
    assumption
   ·intro a5;rcases ZrA a5 with ⟨j,_⟩|⟨l0,r1,l1,p,a,j,k,u,hc,rfl⟩
    ·simp_all
    ·obtain⟨B,d3,c1,k1,k2⟩:=Vya.1 j;obtain⟨y,m1,S,k3,k4⟩:=Vnc.1 k2;subst S;have a4:l.length=B.length+(m1.length+1):=by grind
     have N:l.take B.length=B:=by grind
     have a2:l.drop B.length=y::m1:=by grind
     obtain⟨x,a9,Q,_⟩:=D B.length (by omega);rw[N,k1]at Q;rcases Q with ⟨_,c7⟩|⟨a8,d2,b1⟩
     ·grind
     refine⟨x+W4 F ((l.take B.length).getLast?.map fun x=>x.2.1) (KD F p) y.1,?_,B.length,by omega,p,u,x,y,a9,a8,?_,?_,rfl⟩
     ·have:=b1 a k
      have e5:(Wv F h.fareOk).tp (Dm.lastO none l0) p r1.dep=W4 F ((l.take B.length).getLast?.map fun x=>x.2.1) (KD F p) y.1:=by rw[N, <-D3,k1, <-k3];rfl
      omega
     ·grind
     ·rw[a2];refine(Zdw h u (by grind)).2 ?_
      grind
 refine Ki l.length (fun b=>JX (fun s=>∃i,i<l.length/\ ∃p,p<F.1.length/\Gw F l d i p s) b) (fun i s=>s.2=(i:Int)/\JX (fun s=>∃R,R<i/\ ∃p,p<F.1.length/\Gw F l d R p s) s.1) ?_ ?_ _ ⟨rfl,.inl (by simp)⟩
 ·rintro i ⟨b,_⟩ o ⟨rfl,J⟩;left;simp only[ZO o,Zc,ZW o (by omega)];refine Xn (fun b=>JX (fun s=>∃R,R<i+1/\ ∃p,p<F.1.length/\Gw F l d R p s) b) ?_ (by simp);obtain⟨b',j,k⟩:=inner _ z i o _ b J;refine⟨b',j,k.congr fun s=>?_⟩
  grind
 simp
end Q
namespace Q
open Tr Go
def on1(x:Int):Int:=Va .u64 (ZB .u64 (Vxa x ((2:Int) ^ Min.min (Vfa (1:Int)) (Go.IntKind.bits .u64))) (6148914691236517205:Int)+ZB .u64 x (6148914691236517205:Int))
def on2(x:Int):Int:=Va .u64 (ZB .u64 (Vxa x ((2:Int) ^ Min.min (Vfa (2:Int)) (Go.IntKind.bits .u64))) (3689348814741910323:Int)+ZB .u64 x (3689348814741910323:Int))
def on3(x:Int):Int:=ZB .u64 (Va .u64 (Vxa x ((2:Int) ^ Min.min (Vfa (4:Int)) (Go.IntKind.bits .u64))+x)) (1085102592571150095:Int)
def on4(k:Int)(x:Int):Int:=Va .u64 (x+Vxa x ((2:Int) ^ Min.min (Vfa k) (Go.IntKind.bits .u64)))
def Zec(a:Int):Int:=ZB .i64 (Va .i64 (on4 32 (on4 16 (on4 8 (on3 (on2 (on1 a))))))) 127
def no1(x:Nat):Nat:=((x / 2 &&& 6148914691236517205)+(x &&& 6148914691236517205)) % 18446744073709551616
def no2(x:Nat):Nat:=((x / 4 &&& 3689348814741910323)+(x &&& 3689348814741910323)) % 18446744073709551616
def no3(x:Nat):Nat:=((x / 16+x) % 18446744073709551616) &&& 1085102592571150095
def Dj(m:Nat)(x:Nat):Nat:=(x+x / m) % 18446744073709551616
def Zck(a:Nat):Nat:=(Dj 4294967296 (Dj 65536 (Dj 256 (no3 (no2 (no1 a))))) % 9223372036854775808) &&& 127
theorem ZcN(x:Nat):Va .u64 (x:Int)=((x % 18446744073709551616:Nat):Int):=by simp [Va,Vs,Vo]
theorem Zcq{a b:Nat}(c:a<18446744073709551616)(d:b<18446744073709551616):ZB .u64 (a:Int) (b:Int)=((a &&& b:Nat):Int):=by
 unfold ZB
 have:(Vf Via.bits (a:Int) &&& Vf Via.bits (b:Int)).toNat=a &&& b:=by rw[Vvb,Vfb,Vfb,Vmb,Vmb];show a % 18446744073709551616 &&& b % 18446744073709551616=_;rw[Vwb c,Vwb d]
 rw[this,ZcN,Vwb (Vpb Nat.and_le_left c)]
theorem ZdF(x:Nat)(k:Nat):Vxa (x:Int) ((2:Int) ^ k)=((x / 2 ^ k:Nat):Int):=by rw[Vqb _ (by exact Int.le_of_lt (Int.pow_pos (by omega)))];simp
theorem ZrR{x:Nat}(h:x<18446744073709551616):on1 (x:Int)=((no1 x:Nat):Int):=by unfold on1 no1;have e:Min.min (Vfa (1:Int)) (Go.IntKind.bits .u64)=1:=rfl;have a:x / 2 ^ 1<18446744073709551616:=Vpb (Vdc _ _) h;rw[e,ZdF,show (6148914691236517205:Int)=((6148914691236517205:Nat):Int) from rfl,Zcq a (by decide),Zcq h (by decide), <-Vjb,ZcN]
theorem ZrS{x:Nat}(h:x<18446744073709551616):on2 (x:Int)=((no2 x:Nat):Int):=by unfold on2 no2;have e:Min.min (Vfa (2:Int)) (Go.IntKind.bits .u64)=2:=rfl;have a:x / 2 ^ 2<18446744073709551616:=Vpb (Vdc _ _) h;rw[e,ZdF,show (3689348814741910323:Int)=((3689348814741910323:Nat):Int) from rfl,Zcq a (by decide),Zcq h (by decide), <-Vjb,ZcN]
theorem ZrT(x:Nat):on3 (x:Int)=((no3 x:Nat):Int):=by unfold on3 no3;have e:Min.min (Vfa (4:Int)) (Go.IntKind.bits .u64)=4:=rfl;rw[e,ZdF, <-Vjb,ZcN,show (1085102592571150095:Int)=((1085102592571150095:Nat):Int) from rfl,Zcq (Vxb _ (by decide)) (by decide)]
theorem Zg2{k m:Nat}(a:2 ^ Min.min k 64=m)(x:Nat):on4 (k:Int) (x:Int)=((Dj m x:Nat):Int):=by unfold on4 Dj;rw[Vj,show Go.IntKind.bits .u64=64 from rfl,ZdF, <-Vjb,ZcN,a]
theorem ZrV{a:Nat}(h:a<18446744073709551616):Zec (a:Int)=((Zck a:Nat):Int):=by
 unfold Zec;have e:no1 a<18446744073709551616:=Vxb _ (by decide);rw[ZrR h,ZrS e,ZrT,show (8:Int)=((8:Nat):Int) from rfl,Zg2 (k:=8) rfl,show (16:Int)=((16:Nat):Int) from rfl,Zg2 (k:=16) rfl,show (32:Int)=((32:Nat):Int) from rfl,Zg2 (k:=32) rfl];unfold Zck;rw[show (2:Nat) ^ Min.min 32 64=4294967296 from rfl,show (2:Nat) ^ Min.min 16 64=65536 from rfl,show (2:Nat) ^ Min.min 8 64=256 from rfl];generalize g:Dj 65536 (Dj 256 (no3 (no2 (no1 a))))=Y;have f:Dj 4294967296 Y<18446744073709551616:=Vxb _ (by decide);generalize Dj 4294967296 Y=X at*;unfold ZB
 have b:∀x:BitVec 64,(x &&& Vf 64 127).toNat=x.toNat % 128:=fun x=>by rw[Vvb,show (Vf 64 127).toNat=2 ^ 7 - 1 from rfl,Veb]
 have c:(Vf Vv.bits (Va .i64 (X:Int)) &&& Vf Vv.bits 127).toNat=X % 128:=by
  refine(b _).trans ?_
  have d:(Vf 64 (Va .i64 (X:Int))).toNat=X:=by
   rw[Vlb];simp only[Va,Vs,Vo];simp
   split<;>omega
  exact congrArg (· % 128) d
 rw[c,Zy (by omega) (by omega),show X % 9223372036854775808 &&& 127=X % 9223372036854775808 % 128 from Veb _ 7];omega
def chk:Nat->Nat->Nat->Bool:=fun k=>Nat.rec (fun b c=>Nat.beq (Zck b) c) (fun _ a b c=>(a (2*b) c).and (a (2*b+1) (c+1))) k
theorem Zpl:chk 16 0 0=true:=by kernel_rfl
theorem ZiQ(s m:Nat):∀k,k<=m->We k (s % 2 ^ m)=We k s
 |0,_=>rfl
 |k+1,h=>by
  rw[We,We,ZiQ s m k (by omega)]
  have e:∀y:Nat,(y >>> k) % 2=(y.testBit k).toNat:=by
   intro y;rw[Vza,Vy];have:y / 2 ^ k % 2<2:=Vxb _ (by omega);by_cases a:y / 2 ^ k % 2=1
   ·simp [a]
   ·rw[Zk a];simp only[Bool.toNat_false];omega
  rw[e,e,Nat.testBit_mod_two_pow,Ze (show k<m by omega),Vid]
theorem Zpk:∀(k b c z:Nat),chk k b c=true->z<2 ^ k->Zck (2 ^ k*b+z)=c+We k z:=by
 intro k
 induction k with
 |zero=>
  intro b c z h f;have:z=0:=by simpa using f
  subst this;have:=Nat.eq_of_beq_eq_true (show Nat.beq (Zck b) c=true from h)
  simpa [We] using this
 |succ k l=>
  intro b c z h f;have a:(chk k (2*b) c).and (chk k (2*b+1) (c+1))=true:=h;rw[Vi]at a;have i:0<2 ^ k:=Nat.pow_pos (by omega);rw[Vuc]at f;have o:We k (z % 2 ^ k)=We k z:=ZiQ z k k (Vea _);have e:z % 2 ^ k<2 ^ k:=Vxb _ i;have d:2 ^ k* (z / 2 ^ k)+z % 2 ^ k=z:=Nat.div_add_mod z (2 ^ k);rw[We,Vy];by_cases j:z<2 ^ k
  ·have m:z / 2 ^ k=0:=Nat.div_eq_of_lt j;have:=l (2*b) c z a.1 j;rw[m, <-Nat.add_assoc,Vuc,show 2 ^ k*2*b=2 ^ k* (2*b) by rw[Vjd],this];rfl
  ·have g:z / 2 ^ k=1:=by
    rw[Nat.div_eq_iff i];constructor<;>omega
   have:=l (2*b+1) (c+1) (z % 2 ^ k) a.2 e;rw[o]at this;rw[g,Nat.mul_one]at d;rw[g,show 2 ^ (k+1) *b+z=2 ^ k* (2*b+1)+z % 2 ^ k by rw[Vuc,Nat.mul_add,Nat.mul_one,Vjd];omega,this];omega
theorem ZrU{z:Nat}(h:z<65536):Zec (z:Int)=((We 62 z:Nat):Int):=by rw[ZrV (by omega)];have:=Zpk 16 0 0 z Zpl h;rw[Nat.mul_zero,Vbc,Vbc]at this;rw[this,Zdl,Zdl,ZfS 16 62 z h (by omega)]
end Q
namespace Q
open Tr Go
theorem ZrW{z:Nat}(h:z<65536):F85 (z:Int)=some ((We 62 z:Nat):Int):=by have:F85 (z:Int)=some (Zec (z:Int)):=rfl;rw[this,ZrU h]
abbrev Zan:=Int×Int×Int×Int×Int×Unit
def HV(F:Kc)(l:List ZJ)(b:List Int)(i p:Nat)(x:Zan):Prop:=
 ∃a r,l[i]? =some r/\b[i]? =some a/\0<=a/\((l.length:Int) - (i:Int)<(KD F p).2.2.1/\((We 62 (zF (l.drop i)):Nat):Int)<=(KD F p).2.2.2.1/\Tr.qandNot .i64 ((mF (l.drop i):Nat):Int) (KD F p).2.2.2.2.2.1=0)/\
  x=((p:Int),r.1,(l.length:Int) - (i:Int),a+W4 F ((l.take i).getLast?.map fun x=>x.2.1) (KD F p) r.1,((zF (l.drop i):Nat):Int),())
theorem Zmo{F:Kc}(h:FO F){rs:List ZJ}{s:JP}(U:HY F h rs s)(hr:∀v∈rs,Yi v):
 ∃L,F25 s=some L/\L.length<=128/\ ∃r0 b t,s=(some F,r0,(rs.length:Int),b,())::t/\Zfb F h rs b/\ ∀x,x∈L↔∃i,i<rs.length/\ ∃p,p<F.1.length/\HV F rs b i p x:=by
 obtain⟨r0,b,t,rfl,hS,h8,_⟩:=U.head;have z:F23 ((some F,r0,(rs.length:Int),b,())::t)=some rs:=Zky U;have a7:=h.many;unfold F25;simp only[z,Za,Tr.unc]
 suffices hb:∃L:List Zan,_=some L/\(L.length<=16*rs.length/\ ∀x,x∈L↔∃i,i<rs.length/\ ∃p,p<F.1.length/\HV F rs b i p x) by obtain⟨L,e1,e2,e3⟩:=hb;exact⟨L,KM (fun x=>x=L) ⟨L,e1,rfl⟩ (fun x B=>by subst B;rfl),by omega,_,_,_,rfl,hS,e3⟩
 refine Ki rs.length (fun L:List Zan=>L.length<=16*rs.length/\ ∀x,x∈L↔∃i,i<rs.length/\ ∃p,p<F.1.length/\HV F rs b i p x) (fun i s=>s.2=(i:Int)/\s.1.length<=16*i/\ ∀x,x∈s.1↔∃e,e<i/\ ∃p,p<F.1.length/\HV F rs b e p x) ?_ ?_ _ ⟨rfl,by simp,fun x=>by simp⟩
 ·rintro i ⟨L,_⟩ w ⟨rfl,hL,J⟩;left;simp only at hL J;obtain⟨a,P,S⟩:=hS.2 i (by omega)
  have X:idx b (i:Int)=some a:=by obtain⟨k,c⟩:=Vsa.1 P;rw[ZC k,c]
  have Y:idx rs (i:Int)=some rs[i]:=ZC w;simp only[ZO w,Zc,X,Za,ZW w (show rs.length<=9223372036854775807 by omega)]
  have skip:(∀p x,¬HV F rs b i p x)->∀x,x∈L↔∃e,e<i+1/\ ∃p,p<F.1.length/\HV F rs b e p x:=fun T x=>by
   rw[J x];constructor
   ·rintro ⟨e,k,c⟩;exact⟨e,by omega,c⟩
   ·rintro ⟨e,k,p,c,H⟩;rcases Vua e i with l|l
    ·exact⟨e,l,p,c,H⟩
    ·have:e=i:=by omega
     exact absurd (this▸H) (T p x)
  by_cases I:a<0
  ·rw[Ze I];refine⟨_,rfl,rfl,by simp only;omega,skip ?_⟩;rintro p x ⟨a',r',_,c,H,_⟩;rw[P]at c;cases c;omega
  ·rw[Zk I];simp only[Zd,Zhv (Vtc w),Za,Zmm]
   have a5:a<=8000000:=by
    rcases S with ⟨rfl,_⟩|⟨_,H,_⟩
    ·omega
    ·have:=ZgO h H;have B:(((rs.take i).map Km).length:Int)<=8:=by rw[Vl,Vqa];omega
     omega
   generalize D:rs.drop i=d;have o:∀v∈d,Small v:=fun v u=>(hr v (Vga (D▸u))).1;have a6:d.length<=8:=by rw[<-D,Vyb];omega
   refine Xn (fun r:Int×Int=>r=(((zF d:Nat):Int),((mF d:Nat):Int))) ?_ ?_
   ·refine Ki d.length _ (fun i (t:Int×Int×Int)=>t=(((zF (d.take i):Nat):Int),((mF (d.take i):Nat):Int),(i:Int))) ?_ ?_ _ rfl
    ·rintro j _ E rfl;left;have u:=o _ (Ve E);have z1:=Rr (s:=d.take j) (fun v u=>o v (Vpa u));have z2:=ZgS (s:=d.take j) (fun v u=>o v (Vpa u));have ez:zF (d.take (j+1))=zF (d.take j) ||| (d[j]).2.2.1.toNat:=by unfold zF;rw[Vg E,Vba];rfl
     have em:mF (d.take (j+1))=mF (d.take j) ||| (d[j]).2.2.2.1.toNat:=by unfold mF;rw[Vg E,Vba];rfl
     refine⟨_,?_,rfl⟩;rw[ez,em];generalize zF (d.take j)=Z at*;generalize mF (d.take j)=M at*;simp only[ZO E,Zc,ZC E,Za,ZW E (show d.length<=9223372036854775807 by omega)];generalize d[j]=v at*;obtain⟨⟨a1,a2⟩,b1,b2⟩:=u;obtain⟨x,B⟩:∃x:Nat,v.2.2.1=(x:Int):=⟨_,(Vca a1).symm⟩;obtain⟨y,hy⟩:∃y:Nat,v.2.2.2.1=(y:Int):=⟨_,(Vca b1).symm⟩;have w1:Va .u64 (x:Int)=(x:Int):=by simp [Va,Vs,Vo];omega
     have w2:Va .u64 (y:Int)=(y:Int):=by simp [Va,Vs,Vo];omega
     rw[B,hy,w1,w2,Za1 (by omega) (by omega),Za1 (by omega) (by omega)];simp
    ·rintro _ rfl;simp only[JF,Zd];rw[Vra];exact⟨_,rfl,rfl⟩
   ·rintro _ rfl;have A:=ZrW (Rr o);refine Xn (fun Q:List Zan=>Q.length<=16* (i+1)/\ ∀x,x∈Q↔∃e,e<i+1/\ ∃p,p<F.1.length/\HV F rs b e p x) ?_ fun Q c=>⟨_,rfl,rfl,c⟩
    have conv:∀x,(x∈L\/ ∃p,p<F.1.length/\HV F rs b i p x)↔∃e,e<i+1/\ ∃p,p<F.1.length/\HV F rs b e p x:=fun x=>by
     rw[J x];constructor
     ·rintro (⟨e,k,c⟩|c)
      ·exact⟨e,by omega,c⟩
      ·exact⟨i,by omega,c⟩
     ·rintro ⟨e,k,c⟩;rcases Vua e i with l|l
      ·exact .inl ⟨e,l,c⟩
      ·have:e=i:=by omega
       subst this;exact .inr c
    refine Ki F.1.length _ (fun p (s:List Zan×Int)=>s.2=(p:Int)/\s.1.length<=16*i+p/\ ∀x,x∈s.1↔x∈L\/ ∃f,f<p/\HV F rs b i f x) ?_ ?_ _ ⟨rfl,by simpa using hL,fun x=>by simp⟩
    ·rintro p ⟨M,_⟩ K ⟨rfl,R,g⟩;left;simp only at R g;have B:idx F.1 (p:Int)=some F.1[p]:=ZC K;have O:KD F p=F.1[p]:=by unfold KD;rw[Kq K]
     have N:KD F p∈F.1:=O▸Ve K;have V:Va .i64 ((rs.length:Int) - (i:Int))=(rs.length:Int) - (i:Int):=Zy (by omega) (by omega);have m:=Zmh U h.farOk N (fun v u=>(hr v u).2) h8 (Vc w);rw[<-O]at B;have a3:0<=W4 F ((rs.take i).getLast?.map fun x=>x.2.1) (KD F p) rs[i].1:=(Wv F h.fareOk).tp_nonneg ((rs.take i).getLast?.map fun x:ZJ=>x.2.1) p rs[i].1
     have a4:W4 F ((rs.take i).getLast?.map fun x=>x.2.1) (KD F p) rs[i].1<=1000000:=by
      have k:=(h.prod N).1;have c:=h.heads.1;unfold W4;split
      ·exact k.2
      ·split<;>omega
     have W:Va .i64 (a+W4 F ((rs.take i).getLast?.map fun x=>x.2.1) (KD F p) rs[i].1)=a+W4 F ((rs.take i).getLast?.map fun x=>x.2.1) (KD F p) rs[i].1:=Zy (by omega) (by omega);simp only[ZO K,Zc,B,Za,V,A,Y,m,W,Ziz,ZW K (show F.1.length<=9223372036854775807 by omega)]
     have no:¬((rs.length:Int) - (i:Int)<(KD F p).2.2.1/\((We 62 (zF d):Nat):Int)<=(KD F p).2.2.2.1/\Tr.qandNot .i64 ((mF d:Nat):Int) (KD F p).2.2.2.2.2.1=0)->∀x,x∈M↔x∈L\/ ∃f,f<p+1/\HV F rs b i f x:=fun T x=>by
      rw[g x];refine or_congr Voc ⟨fun⟨f,k,c⟩=>⟨f,by omega,c⟩,fun⟨f,k,c⟩=>?_⟩;rcases Vua f p with l|l
      ·exact⟨f,l,c⟩
      ·have:f=p:=by omega
       subst this;obtain⟨a',r',_,_,_,h5,_⟩:=c;rw[D]at h5;exact absurd h5 T
     by_cases C:(rs.length:Int) - (i:Int)<(KD F p).2.2.1
     case neg=>
      rw[Zk C];exact⟨_,rfl,rfl,by simp only;omega,no fun h=>C h.1⟩
     by_cases G:((We 62 (zF d):Nat):Int)<=(KD F p).2.2.2.1
     case neg=>
      rw[Ze C,Zk G];exact⟨_,rfl,rfl,by simp only;omega,no fun h=>G h.2.1⟩
     by_cases c3:Tr.qandNot .i64 ((mF d:Nat):Int) (KD F p).2.2.2.2.2.1=0
     case neg=>
      rw[Ze C,Ze G,Zk c3];exact⟨_,rfl,rfl,by simp only;omega,no fun h=>c3 h.2.2⟩
     rw[Ze C,Ze G,Ze c3];have a0:(Zz:Nat)=549755813888:=rfl;simp only[Zc,Za];rw[GJ (by simp;omega)];refine⟨_,rfl,rfl,by simp;omega,fun x=>?_⟩;rw[Vaa,g x,Vr,or_assoc];refine or_congr Voc ⟨?_,?_⟩
     ·rintro (⟨f,k,c⟩|rfl)
      ·exact⟨f,by omega,c⟩
      ·exact⟨p,by omega,a,rs[i],Vc w,P,by omega,by rw[D];exact⟨C,G,c3⟩,by rw[D]⟩
     ·rintro ⟨f,k,c⟩;rcases Vua f p with l|l
      ·exact .inl ⟨f,l,c⟩
      ·have:f=p:=by omega
       subst this;obtain⟨a',r',k1,k2,_,_,rfl⟩:=c;rw[P]at k2;cases k2;rw[Vc w]at k1;cases k1;rw[D];exact .inr rfl
    ·rintro ⟨M,_⟩ ⟨rfl,R,g⟩;simp only at R g
     exact⟨M,by simp only[JF,Zd],by omega,fun x=>(g x).trans (conv x)⟩
 ·rintro ⟨L,_⟩ ⟨rfl,hL,J⟩;exact⟨L,by simp only[JF,Zd],hL,J⟩
end Q
namespace Q
open Tr Go
theorem Zjp{α:Type}{f:α->α->Bool}(b:∀x,f x x=true):∀l:List α,JS.eqDs f l l=true
 |[]=>rfl
 |a::l=>by simp only[JS.eqDs,Vi];exact⟨b a,Zjp b l⟩
theorem Zte{F:Kc}(h:F.1.length<=4096):F28 (some F) (some F)=some true:=by
 show Qs.sameF (some F) (some F)=some true
 have e:JS KY F F=true:=by
  have a:∀p:ZcW,JS Ym p p=true:=fun p=>by simp [JS]
  simp only[JS,Vi];exact⟨Zjp a _,by simp⟩
 simp only[Qs.sameF,Za,e,Ze h,Bool.and_self,Zc]
theorem ZhU(l:List ZJ):zF l=Dm.zns (l.map Km):=by have:=ZhT l 0;rw[Vjc]at this;exact this
theorem ZkC(l:List ZJ):mF l=Dm.mds (l.map Km):=by have:=ZgR l 0;rw[Vjc]at this;exact this
theorem ZnS{a b:Nat}(e:a<65536)(g:b<65536)(h:Tr.qandNot .u64 (a:Int) (b:Int)=0):a ||| b=b:=by
 unfold Tr.qandNot at h;have c:=(Vf Via.bits (a:Int) &&& ~~~ Vf Via.bits (b:Int)).isLt
 have f:(Vf Via.bits (a:Int) &&& ~~~ Vf Via.bits (b:Int)).toNat=0:=by generalize (Vf Via.bits (a:Int) &&& ~~~ Vf Via.bits (b:Int)).toNat=N at*;have c:N<2 ^ 64:=c;simp [Va,Vs,Vo]at h;omega
 have d:(Vod 64 a &&& ~~~ Vod 64 b)=0#64:=by
  apply Vab
  assumption
 apply Nat.eq_of_testBit_eq;intro i;rw[Nat.testBit_or];by_cases j:i<64
 ·have:=congrArg (fun v=>v.getLsbD i) d
  grind
 ·have:a.testBit i=false:=Nat.testBit_lt_two_pow (Nat.lt_of_lt_of_le e (show 2 ^ 16<=2 ^ i from Nat.pow_le_pow_right (by omega) (by omega)))
  grind
theorem ZpD{F:Kc}(h:FO F){A B:List ZJ}{s t:JP}(O:HY F h A s)(S:HY F h B t):
 ∃b,F26 s t=some b/\(b=true->∀y,Dm.Least (Dm.LS (Wv F h.fareOk) F.1.length none (B.map Km)) y->∃x,Dm.LS (Wv F h.fareOk) F.1.length none (A.map Km) x/\x<=y/\
  ((Wv F h.fareOk).D=0\/B.map Km=[]\/x+(Wv F h.fareOk).D<=y\/ ∃u v,Dm.lastO none (A.map Km)=some u/\Dm.lastO none (B.map Km)=some v/\v<=u)):=by
 obtain⟨T,V,ta,rfl,⟨Q,k⟩,H,M⟩:=O.head;obtain⟨U,W,tb,rfl,⟨R,l⟩,I,N⟩:=S.head;obtain⟨a,J,d⟩:=k A.length (Vea _);obtain⟨b,K,c⟩:=l B.length (Vea _);rw[Vra]at d c
 have w:idx V (A.length:Int)=some a:=by
  assumption
 have z:idx W (B.length:Int)=some b:=by
  assumption
 have hD:(Wv F h.fareOk).D=F.2.1:=rfl;have hd:=h.heads.1;unfold F26;simp only[Tr.unc,Za,w,z];by_cases e:b<0
 ·rw[Ze e];refine⟨_,rfl,fun _ y g=>?_⟩;rcases c with ⟨_,E⟩|⟨E,_⟩
  ·exact absurd g.1 (E y)
  ·omega
 rw[Zk e,Zd];by_cases m:a<0
 ·simp_all
 rw[Zk m];simp only[Zd,Za];by_cases p:b<a
 ·simp_all
 rw[Zk p];rcases d with ⟨rfl,_⟩|⟨_,o,_⟩
 ·omega
 rcases c with ⟨rfl,_⟩|⟨_,f⟩
 ·omega
 have X:a<=8000000:=by
  have:=ZgO h o
  grind
 have out:∀{P:Prop},((Wv F h.fareOk).D=0\/B.map Km=[]\/a+(Wv F h.fareOk).D<=b\/ ∃u v,Dm.lastO none (A.map Km)=some u/\Dm.lastO none (B.map Km)=some v/\v<=u)->P->∀y,Dm.Least (Dm.LS (Wv F h.fareOk) F.1.length none (B.map Km)) y->∃x,Dm.LS (Wv F h.fareOk) F.1.length none (A.map Km) x/\x<=y/\
  ((Wv F h.fareOk).D=0\/B.map Km=[]\/x+(Wv F h.fareOk).D<=y\/ ∃u v,Dm.lastO none (A.map Km)=some u/\Dm.lastO none (B.map Km)=some v/\v<=u):=fun hc _ y g=>by
  have:y=b:=Vad (g.2 b f.1) (f.2 y g.1)
  grind
 have r:Va .i64 (a+F.2.1)=a+F.2.1:=Zy (by omega) (by omega);simp only[Zd,r];by_cases i:F.2.1=0
 ·rw[Ze i];exact⟨_,rfl,out (.inl i)⟩
 rw[Zk i];by_cases C:(B.length:Int)=0
 ·rw[Ze C];refine⟨_,rfl,out (.inr (.inl ?_))⟩
  simp_all
 rw[Zk C];by_cases c3:a+F.2.1<=b
 ·rw[Ze c3];exact⟨_,rfl,out (by omega)⟩
 rw[Zk c3];by_cases G:(0:Int)<(A.length:Int)
 case neg=>
  simp_all
 rw[Ze G];simp only[Zc,Zd,Za];refine⟨_,rfl,fun j=>?_⟩;have j:=XY j;refine out (.inr (.inr (.inr ⟨T.2.1,U.2.1,?_,?_,j⟩))) trivial
 ·rw[D3]
  cases Y:A.getLast? with
  |none=>grind
  |some x=>simp_all
 ·rw[D3]
  cases Z:B.getLast? with
  |none=>grind
  |some x=>simp_all
theorem ZsH(o x:Zan):∃b,F27 o x=some b/\(b=true->o.1=x.1/\x.2.1<=o.2.1/\o.2.2.1<=x.2.2.1/\o.2.2.2.1<=x.2.2.2.1/\Tr.qandNot .u64 o.2.2.2.2.1 x.2.2.2.2.1=0):=by
 unfold F27;by_cases a:o.1=x.1
 case neg=>simp_all
 by_cases c:x.2.1<=o.2.1
 case neg=>simp [*]
 by_cases c3:o.2.2.1<=x.2.2.1
 case neg=>simp [*]
 by_cases d:o.2.2.2.1<=x.2.2.2.1
 all_goals simp [*]
theorem Zp6{F:Kc}(h:FO F){A B:List ZJ}{s t:JP}(hs:HY F h A s)(ht:HY F h B t)(hA:∀v∈A,Yi v)(hB:∀v∈B,Yi v):
 ∃b,F20 s t=some b/\(b=true->Dm.Dom (Wv F h.fareOk) F.1.length (A.map Km) (B.map Km)):=by
 obtain⟨cb,T,U⟩:=ZpD h hs ht;obtain⟨L,N,a1,ra,sa,ta,es,R,O⟩:=Zmo h hs hA;obtain⟨M,P,a2,rb,sb,tb,et,S,Q⟩:=Zmo h ht hB;have l:F.1.length<=4096:=by have:=h.many;omega
 have H:Tr.unc s=some (some F,ta,ra,(A.length:Int),sa,()):=by rw[es];rfl
 have I:Tr.unc t=some (some F,tb,rb,(B.length:Int),sb,()):=by rw[et];rfl
 have ns:Vpd s=false:=by grind
 have nt:Vpd t=false:=by grind
 unfold F20;simp only[ns,nt,Zd,H,I,Za,Zte l,Vd,T]
 cases cb with
 |false=>simp
 |true=>
 simp only[Vd,Zd,N,P,Za]
 suffices d:∃r:Unit ⊕ Bool,_=some r/\((r=.inr false)\/(r=.inl ()/\ ∀x∈M,∃o∈L,o.1=x.1/\x.2.1<=o.2.1/\o.2.2.1<=x.2.2.1/\o.2.2.2.1<=x.2.2.2.1/\Tr.qandNot .u64 o.2.2.2.2.1 x.2.2.2.2.1=0)) by
  obtain⟨r,u,w⟩:=d;rcases w with rfl|⟨rfl,C⟩
  ·exact⟨false,KM (fun x=>x=Sum.inr false) ⟨_,u,rfl⟩ (fun x e=>by subst e;rfl),fun h=>by cases h⟩
  refine⟨true,by grind,fun _=>?_⟩;refine Dm.dom_of (U rfl) ?_;intro B0 r B1 p b K hp d D hz hm;obtain⟨c,a6,rfl,k1,k2⟩:=Vya.1 K;obtain⟨f,m,rfl,k3,k4⟩:=Vnc.1 k2;subst k1 k3 k4;have E:(c++f::m).take c.length=c:=by simp
  have k:(c++f::m).drop c.length=f::m:=by simp
  obtain⟨y,Z,G⟩:=S.2 c.length (by simp);rw[E]at G
  have a0:y=b/\0<=y:=by
   rcases G with ⟨_,W⟩|⟨h0,J,h2⟩
   ·exact absurd d.1 (W b)
   ·exact⟨Vad (h2 b d.1) (d.2 y J),h0⟩
  obtain⟨rfl,Y⟩:=a0;have a5:KD F p∈F.1:=by unfold KD;grind
  have e:((p:Int),f.1,((c++f::m).length:Int) - (c.length:Int),y+W4 F (((c++f::m).take c.length).getLast?.map fun x=>x.2.1) (KD F p) f.1,((zF ((c++f::m).drop c.length):Nat):Int),())∈M:=by
   refine(Q _).2 ⟨c.length,by simp,p,hp,y,f,by simp,Z,Y,⟨?_,?_,?_⟩,rfl⟩
   ·have a3:(m.map Km).length+1<(KD F p).2.2.1.toNat:=D
    grind
   ·rw[k,ZhU];assumption
   ·rw[k,ZkC];assumption
  obtain⟨o,ho,q1,q2,q3,q4,q5⟩:=C _ e;obtain⟨i,z,p',a4,a,ro,g1,g2,g3,⟨g4,g5,g6⟩,rfl⟩:=(O o).1 ho;simp only at q1 q2 q3 q4 q5
  have X:p' =p:=by
   grind
  subst X;obtain⟨a',u,w⟩:=R.2 i (by omega);rw[g2]at u;cases u;rcases w with ⟨rfl,_⟩|⟨_,w,_⟩
  ·omega
  have g:A.drop i=ro::A.drop (i+1):=by
   rw[Vm z]
   grind
  refine⟨(A.take i).map Km,Km ro,(A.drop (i+1)).map Km,a,?_,w,?_,q2,?_,?_,?_⟩
  ·rw[<-Vda, <-g, <-Vx,Vz]
  ·rw[<-Vda, <-g, <-ZkC];assumption
  ·grind
  ·rw[D3,D3];rw[E]at q4
   assumption
  ·rw[<-Vda, <-g, <-Vda, <-ZhU, <-ZhU];rw[k]at q5;exact ZnS (Rr fun v hv=>(hA v (Vga hv)).1) (Rr fun v hv=>(hB v (by grind)).1) q5
 refine Ki M.length _ (fun i (s:Int)=>s=(i:Int)/\ ∀x∈M.take i,∃o∈L,o.1=x.1/\x.2.1<=o.2.1/\o.2.2.1<=x.2.2.1/\o.2.2.2.1<=x.2.2.2.1/\Tr.qandNot .u64 o.2.2.2.2.1 x.2.2.2.2.1=0) ?_ ?_ _ (by simp)
 ·rintro i _ z ⟨rfl,hm⟩;have e:idx M (i:Int)=some M[i]:=ZC z;simp only[ZO z,Zc,e,Za,ZW z (by omega)]
  suffices d:∃r:Bool,_=some r/\(r=true->∃o∈L,o.1=M[i].1/\M[i].2.1<=o.2.1/\o.2.2.1<=M[i].2.2.1/\o.2.2.2.1<=M[i].2.2.2.1/\Tr.qandNot .u64 o.2.2.2.2.1 M[i].2.2.2.2.1=0) by
   obtain⟨r,u,w⟩:=d
   cases r with
   |false=>exact .inr ⟨_,KM (fun x=>x=false) ⟨_,u,rfl⟩ (fun x e=>by subst e;rfl),.inl rfl⟩
   |true=>
    refine .inl ⟨_,by grind,rfl,fun x e=>?_⟩;rw[Vg z,Vaa,Vr]at e
    grind
  refine Ki L.length _ (fun j (s:Bool×Int)=>s.2=(j:Int)/\(s.1=true->∃o∈L,o.1=M[i].1/\M[i].2.1<=o.2.1/\o.2.2.1<=M[i].2.2.1/\o.2.2.2.1<=M[i].2.2.2.1/\Tr.qandNot .u64 o.2.2.2.2.1 M[i].2.2.2.2.1=0)) ?_ ?_ _ (by simp)
  ·rintro j ⟨b,_⟩ V ⟨rfl,d⟩;left;have hy:idx L (j:Int)=some L[j]:=ZC V;obtain⟨b',J,h2⟩:=ZsH L[j] M[i];simp only[ZO V,Zc,hy,Za,ZW V (by omega),J]
   cases b with
   |true=>exact⟨_,rfl,rfl,d⟩
   |false=>exact⟨_,rfl,rfl,by grind⟩
  simp
 grind
end Q
namespace Q
open Tr Go
abbrev Zbt:=Int×Int×Int×Int×ZJ×Unit
abbrev Zs:=Zbt×Int×Int×Int×JP×List Zt×Unit
abbrev JB:=Zs×Int×Unit
abbrev GU:=Unit×List JB×Int×Unit
def Gp(l:List JB)(i k:Nat)(a:i<l.length)(b:k<l.length):List JB:=(l.set i l[k]).set k l[i]
theorem ZcH{l:List JB}{i k:Nat}(a:i<l.length)(b:k<l.length):(Gp l i k a b).Perm l:=List.set_set_perm a b
theorem Zhu{l:List JB}{c:Int}{i k:Nat}(a:i<l.length)(d:k<l.length):∃b:Bool,F65 ((),l,c,()) (i:Int) (k:Int)=some (((),l,c,()),b):=by
 unfold F65 F155;simp only[Kg a,Kg d,Vc a,Vc d,Za];cases decide ((l[i]).1.2.1<(l[k]).1.2.1)
 ·cases decide ((l[k]).1.2.1<(l[i]).1.2.1)<;>exact⟨_,rfl⟩
 ·exact⟨_,rfl⟩
theorem Zhx{l:List JB}{c:Int}{i k:Nat}(d:i<l.length)(b:k<l.length):F67 ((),l,c,()) (i:Int) (k:Int)=some ((),Gp l i k d b,c,()):=by
 unfold F67;have a:k<(Vrc l i l[k]).length:=by simpa using b
 simp only[Kg d,Kg b,Vc d,Vc b,Za,Kg a];rw[Vc a];rfl
theorem ZtB{l:List JB}{c:Int}(x:Zs)(B:l.length+1<=549755813888):
 ∃(m:List JB) (c' :Int),F64 ((),l,c,()) x=some ((),m,c',())/\m.Perm (l++[(x,c,())]):=by
 have a:(l++[(x,c,())]).length=l.length+1:=by simp
 unfold F64
 have o:ZE (decide (l.length+ [((x,c,()):JB)].length<=Zz))=some ():=by rw[Ze (by simp [Zz];omega)];rfl
 have p:Va .i64 (((l++[(x,c,())]).length:Int) - 1)=(l.length:Int):=by rw[a,Zy (by omega) (by omega)];omega
 simp only[o,Za,p]
 suffices h:∃z:GU,_=some z/\ ∃m:List JB,z=((),m,Va .i64 (c+1),())/\m.Perm (l++[(x,c,())]) by obtain⟨_,t,m,rfl,u⟩:=h;exact⟨m,_,t,u⟩
 refine run_bind (fun s=>∃(m:List JB) (i:Nat),s=(((),m,Va .i64 (c+1),()),(i:Int))/\i<m.length/\m.Perm (l++[(x,c,())])) (fun s=>s.2.toNat)
  (fun r=>∃m:List JB,r=((),m,Va .i64 (c+1),())/\m.Perm (l++[(x,c,())])) ⟨_,l.length,rfl,by omega,.refl _⟩ ?_ ?_
 ·rintro s ⟨m,i,rfl,e,f⟩;have y:m.length=l.length+1:=by rw[f.length_eq,a]
  by_cases A:0<i
  ·have g:Va .i64 ((i:Int) - 1)=((i - 1:Nat):Int):=by rw[Zy (by omega) (by omega)];omega
   have j:Int.tdiv ((i - 1:Nat):Int) 2=(((i - 1) / 2:Nat):Int):=by rw[Int.tdiv_eq_ediv_of_nonneg (by omega)];omega
   have k:Va .i64 ((((i - 1) / 2:Nat)):Int)=(((i - 1) / 2:Nat):Int):=Zy (by omega) (by omega);have d:(i - 1) / 2<m.length:=by omega
   obtain⟨b,w⟩:=Zhu (c:=Va .i64 (c+1)) e d;simp only[show decide ((0:Int)<(i:Int))=true from Ze (by omega),Zc,g,j,k,w,Za]
   cases b with
   |true=>
    left;refine⟨_,by simp only[Zc,Zhx e d,Za],⟨Gp m i ((i - 1) / 2) e d,(i - 1) / 2,rfl,by rw[(ZcH e d).length_eq];exact d,(ZcH e d).trans f⟩,?_⟩
    simp only[Vj];omega
   |false=>
    right;exact⟨_,rfl,m,rfl,f⟩
  ·right;have:i=0:=by omega
   subst this;exact⟨_,by simp only[show decide ((0:Int)<((0:Nat):Int))=false by simp,Zd],m,rfl,f⟩
 ·rintro r ⟨m,rfl,v⟩;exact⟨_,rfl,m,rfl,v⟩
theorem ZtC{l:List JB}{c:Int}(H:l.length<=549755813888):∃m:List JB,F66 ((),l,c,())=some ((),m,c,())/\m.Perm l:=by
 unfold F66;simp only
 suffices h:∃z:GU,_=some z/\ ∃m:List JB,z=((),m,c,())/\m.Perm l by obtain⟨_,y,m,rfl,A⟩:=h;exact⟨m,y,A⟩
 refine run_bind (fun s=>∃(m:List JB) (i:Nat),s=(((),m,c,()),(i:Int))/\(i<m.length\/i=0)/\m.Perm l) (fun s=>l.length - s.2.toNat)
  (fun r=>∃m:List JB,r=((),m,c,())/\m.Perm l) ⟨l,0,rfl,.inr rfl,.refl _⟩ ?_ ?_
 ·rintro s ⟨m,i,rfl,E,o⟩;have D:m.length=l.length:=o.length_eq;have v:Va .i64 ((2:Int) * (i:Int))=((2*i:Nat):Int):=by rw[Zy (by omega) (by omega)];omega
  have w:Va .i64 (((2*i:Nat):Int)+1)=((2*i+1:Nat):Int):=by rw[Zy (by omega) (by omega)];omega
  have x:Va .i64 (((2*i+1:Nat):Int)+1)=((2*i+2:Nat):Int):=by rw[Zy (by omega) (by omega)];omega
  simp only[v,w,x];by_cases G:m.length<=2*i+1
  ·right;exact⟨_,by simp only[show decide ((m.length:Int)<=((2*i+1:Nat):Int))=true from Ze (by omega),Zc],m,rfl,o⟩
  ·simp only[show decide ((m.length:Int)<=((2*i+1:Nat):Int))=false from Zk (by omega),Zd];have e:i<m.length:=by omega
   have fin:∀d:Nat,(d=2*i+1\/d=2*i+2)->d<m.length->
    (∃u:GU×Int,(Vb (F65 ((),m,c,()) (d:Int) (i:Int)) fun f=>
       bif !f.snd then some (Sum.inr ((),f.fst.snd.fst,f.fst.snd.snd.fst,()))
       else Vb (F67 ((),f.fst.snd.fst,f.fst.snd.snd.fst,()) (i:Int) (d:Int)) fun k=>some (Sum.inl (((),k.snd.fst,k.snd.snd.fst,()),(d:Int))))=some (Sum.inl u:(GU×Int) ⊕ GU)/\
       (∃(g:List JB) (t:Nat),u=(((),g,c,()),(t:Int))/\(t<g.length\/t=0)/\g.Perm l)/\l.length - u.2.toNat<l.length - (i:Int).toNat)\/
    ∃r:GU,(Vb (F65 ((),m,c,()) (d:Int) (i:Int)) fun f=>
       bif !f.snd then some (Sum.inr ((),f.fst.snd.fst,f.fst.snd.snd.fst,()))
       else Vb (F67 ((),f.fst.snd.fst,f.fst.snd.snd.fst,()) (i:Int) (d:Int)) fun k=>some (Sum.inl (((),k.snd.fst,k.snd.snd.fst,()),(d:Int))))=some (Sum.inr r:(GU×Int) ⊕ GU)/\
      ∃g:List JB,r=((),g,c,())/\g.Perm l:=by
    intro d C a;obtain⟨b,p⟩:=Zhu (c:=c) a e;rw[p];simp only[Za]
    cases b with
    |true=>
     left;refine⟨_,by simp only[Vd,Zd,Zhx e a,Za],⟨Gp m i d e a,d,rfl,.inl (by rw[(ZcH e a).length_eq];exact a),(ZcH e a).trans o⟩,?_⟩
     simp only[Vj];omega
    |false=>
     right;exact⟨_,by simp only[Vt,Zc],m,rfl,o⟩
   by_cases j:2*i+2<m.length
   ·obtain⟨b,p⟩:=Zhu (c:=c) j (show 2*i+1<m.length by omega);simp only[show decide (((2*i+2:Nat):Int)<(m.length:Int))=true from Ze (by omega),Zc,p,Za]
    cases b with
    |true=>
     simp only[Zc,Za]
     exact fin (2*i+2) (.inr rfl) j
    |false=>
     simp only[Zd,Za];exact fin (2*i+1) (.inl rfl) (by omega)
   ·simp only[show decide (((2*i+2:Nat):Int)<(m.length:Int))=false from Zk (by omega),Zd];exact fin (2*i+1) (.inl rfl) (by omega)
 ·rintro r ⟨m,rfl,B⟩;exact⟨_,rfl,m,rfl,B⟩
theorem ZtA{l:List JB}{c:Int}(h:l≠ [])(p:l.length<=549755813888):
 ∃(m:List JB) (x:JB),F63 ((),l,c,())=some (((),m,c,()),x.1,true)/\l.Perm (x::m):=by
 have b:0<l.length:=List.length_pos_iff.2 h;have a:l.length - 1<l.length:=by omega
 have d:F62 ((),l,c,())=some (((),l,c,()),(l[0]).1,true):=by unfold F62 F61;simp only[Za,show decide ((l.length:Int)=0)=false from Zk (by omega),Zd];rw[show (0:Int)=((0:Nat):Int) from rfl,Kg b];simp only[Za,Vc b]
 have j:Va .i64 ((l.length:Int) - 1)=((l.length - 1:Nat):Int):=by rw[Zy (by omega) (by omega)];omega
 have f:=ZcH b a;have g:=f.length_eq
 have i:sliceB (Gp l 0 (l.length - 1) b a).length (Gp l 0 (l.length - 1) b a).length none (some ((l.length - 1:Nat):Int))=some (0,l.length - 1):=by unfold sliceB;rw[g];simp
 obtain⟨m,k,o⟩:=ZtC (l:=Vib (l.length - 1) (Gp l 0 (l.length - 1) b a)) (c:=c) (by simp;omega);refine⟨m,l[0],?_,?_⟩
 ·unfold F63;rw[d];simp only[Za,Vd,Zd,j];rw[show (0:Int)=((0:Nat):Int) from rfl,Zhx b a];simp only[Za,i,k]
 ·have e:Gp l 0 (l.length - 1) b a=Vib (l.length - 1) (Gp l 0 (l.length - 1) b a)++[l[0]]:=by
   conv=>lhs;rw[<-Vz (l.length - 1) (Gp l 0 (l.length - 1) b a)]
   congr 1;rw[Vm (by omega),List.drop_eq_nil_of_le (by omega)];unfold Gp;simp
  rw[e]at f;exact f.symm.trans ((Vdb).trans (List.Perm.cons _ o.symm))
end Q
namespace Q
open Tr Go
def Zw(n:Zf)(i:Nat):List Wr:=(rn n (i:Int)).2.2.2.2.2.2.2.1
def Zi(n:Zf)(i c:Nat):Wr:=cl (Zw n i) (c:Int)
def YQ(n:Zf)(i:Nat):Bool:=(rn n (i:Int)).2.2.2.2.2.2.1
def KI(s t a b:Int):Zt:=(false,0,0,0,s,t,a,b,false,())
def ZV(n:Zf)(i b c:Nat)(st:Bool):Zt:=(true,(i:Int),(b:Int),(c:Int),(Zi n i b).1,(Zi n i c).1,(Zi n i b).2.2.1,(Zi n i c).2.1,st,())
def isLink(n:Zf)(i c j d:Nat)(st:Bool):Prop:=((i:Int),(c:Int),(j:Int),(d:Int),st,())∈n.2.2.2.1
structure WW (n:Zf):Prop where
 sound:Ws n
 change:∀s:Int,0<=s->s<(n.1.length:Int)->0<=(Wg n s).2.2.2.1/\(Wg n s).2.2.2.1<=3600
 path:∀p∈n.2.2.2.2.1,(0<=p.1/\p.1<(n.1.length:Int))/\(0<=p.2.1/\p.2.1<(n.1.length:Int))/\p.1≠p.2.1/\1<=p.2.2.1/\p.2.2.1<=14400
 link:∀x∈n.2.2.2.1,∃(i c j d:Nat) (st:Bool),x=((i:Int),(c:Int),(j:Int),(d:Int),st,())/\i<n.2.2.1.length/\j<n.2.2.1.length/\i≠j/\c<(Zw n i).length/\d<(Zw n j).length/\
  (Zi n i c).1=(Zi n j d).1/\(st=true->c+1=(Zw n i).length/\d=0)
theorem Zay{n:Zf}{i:Nat}(a:i<n.2.2.1.length):Zw n i=(n.2.2.1[i]).2.2.2.2.2.2.2.1:=by unfold Zw rn;grind
theorem RM{n:Zf}{i c:Nat}(a:c<(Zw n i).length):Zi n i c=(Zw n i)[c]:=by unfold Zi cl;grind
theorem Zrv{n:Zf}{i:Nat}(h:WP n i=0):(cl (rn n (lk n i).1).2.2.2.2.2.2.2.1 (lk n i).2.1).1=(cl (rn n (lk n i).2.2.1).2.2.2.2.2.2.2.1 (lk n i).2.2.2.1).1/\
 ((lk n i).2.2.2.2.1=true->(lk n i).2.1+1=((rn n (lk n i).1).2.2.2.2.2.2.2.1.length:Int)/\(lk n i).2.2.2.1=0):=by
 unfold WP at h;simp only at h;by_cases a:YO n (lk n i)=true
 ·grind
 rw[Zg a]at h;by_cases b:Hx n (lk n i)=true
 all_goals grind
theorem Whole.ok{n:Zf}(h:Whole n):WW n:=by
 refine⟨h.sound,fun s D f=>?_,fun p z=>?_,fun x B=>?_⟩
 ·have s0:=h.s;unfold HN at s0;split at s0
  ·omega
  obtain⟨j,rfl⟩:∃j:Nat,s=(j:Int):=⟨s.toNat,by omega⟩;have m:j<n.1.length:=by omega
  have o:=Za5 s0 j m;unfold HM at o;have:=(GI.1 o).2.2;unfold Wg
  grind
 ·obtain⟨j,m,rfl⟩:=Vja z;obtain⟨f,l,_⟩:=Zac (WH.1 h.q j m);rw[Kq m]at f l;unfold Yx at f;unfold Yy at l
  grind
 ·obtain⟨j,m,rfl⟩:=Vja B;have o:=WH.1 h.g j m;obtain⟨f,l,_⟩:=R4 o;obtain⟨r,t⟩:=Zrv o;have e:lk n j=n.2.2.2.1[j]:=by unfold lk;grind
  rw[e]at f l r t;generalize n.2.2.2.1[j]=x at*;unfold YO at f;unfold Hx at l;unfold ZU at f l;simp only[Vha,Vn,decide_eq_false_iff_not,Vi,KL]at f l;obtain⟨u,v,w,y,C,E⟩:=x;simp only at f l r t;obtain⟨i,rfl⟩:∃i:Nat,u=(i:Int):=⟨u.toNat,by omega⟩;obtain⟨c,rfl⟩:∃i:Nat,v=(i:Int):=⟨v.toNat,by omega⟩;obtain⟨k,rfl⟩:∃i:Nat,w=(i:Int):=⟨w.toNat,by omega⟩;obtain⟨d,rfl⟩:∃i:Nat,y=(i:Int):=⟨y.toNat,by omega⟩;refine⟨i,c,k,d,C,rfl,by omega,by omega,by omega,?_,?_,r,fun A=>?_⟩
  ·unfold Zw;omega
  ·unfold Zw;omega
  ·obtain⟨a,b⟩:=t A;unfold Zw;omega
theorem WW.isLink{n:Zf}(h:WW n){i c j d:Nat}{st:Bool}(a:isLink n i c j d st):i<n.2.2.1.length/\j<n.2.2.1.length/\i≠j/\c<(Zw n i).length/\d<(Zw n j).length/\(Zi n i c).1=(Zi n j d).1/\(st=true->c+1=(Zw n i).length/\d=0):=by
 obtain⟨l,f,m,g,b,e,k⟩:=h.link _ a
 grind
theorem WW.stop{n:Zf}(h:WW n){i c:Nat}(a:i<n.2.2.1.length)(b:c<(Zw n i).length):0<=(Zi n i c).1/\(Zi n i c).1<(n.1.length:Int):=by rw[RM b];refine h.sound.call _ (Ve a) _ ?_;simp only[Zay a];simp
theorem WW.time{n:Zf}(h:WW n){i c:Nat}(b:i<n.2.2.1.length)(a:c<(Zw n i).length):0<=(Zi n i c).2.1/\(Zi n i c).2.1<=(Zi n i c).2.2.1/\(Zi n i c).2.2.1<=3155932800:=by have d:=h.sound.time _ (Ve b);rw[RM a];simp only[Zay b]at a⊢;have:=d c a;omega
inductive ZcU where
 |rdy (k:Nat) (s r:Int)
 |brd (k:Nat) (i c:Nat) (st:Bool)
 |lnk (k:Nat) (i c:Nat)
 |on (k:Nat) (i c:Nat)
 |rid (k:Nat) (s t:Int)
 |arr (k:Nat) (s t:Int)
inductive WU (n:Zf) (s0 t0 w:Int):ZcU->List Zt->Prop
 |init:WU n s0 t0 w (.rdy 0 s0 (t0+w)) []
 |here:WU n s0 t0 w (.arr 0 s0 t0) []
 |rdyW {p:Kh} :p∈n.2.2.2.2.1->p.1=s0->t0+p.2.2.1<=3155932800->WU n s0 t0 w (.rdy 0 p.2.1 (t0+p.2.2.1)) [KI s0 p.2.1 t0 (t0+p.2.2.1)]
 |arrW {p:Kh} :p∈n.2.2.2.2.1->p.1=s0->t0+p.2.2.1<=3155932800->WU n s0 t0 w (.arr 0 p.2.1 (t0+p.2.2.1)) [KI s0 p.2.1 t0 (t0+p.2.2.1)]
 |board {k:Nat}{s r:Int}{js:List Zt}{i c:Nat} :WU n s0 t0 w (.rdy k s r) js->i<n.2.2.1.length->c<(Zw n i).length->YQ n i=false->(Zi n i c).1=s->(Zi n i c).2.2.2.1=true->r<=(Zi n i c).2.2.1->WU n s0 t0 w (.brd (k+1) i c false) js
 |on {k i b c:Nat}{st:Bool}{js:List Zt} :WU n s0 t0 w (.brd k i b st) js->b<c->c<(Zw n i).length->WU n s0 t0 w (.on k i c) (js++[ZV n i b c st])
 |stay {k i c j d:Nat}{js:List Zt} :WU n s0 t0 w (.on k i c) js->isLink n i c j d true->(Zi n i c).2.1<=(Zi n j d).2.2.1->YQ n j=false->WU n s0 t0 w (.brd k j d true) js
 |link {k i c j d:Nat}{js:List Zt} :WU n s0 t0 w (.on k i c) js->(Zi n i c).2.2.2.2.1=true->isLink n i c j d false->(Zi n i c).2.1<=(Zi n j d).2.2.1->(Zi n j d).2.2.2.1=true->WU n s0 t0 w (.lnk (k+1) j d) js
 |linked {k j d:Nat}{js:List Zt} :WU n s0 t0 w (.lnk k j d) js->YQ n j=false->WU n s0 t0 w (.brd k j d false) js
 |ride {k i c:Nat}{js:List Zt} :WU n s0 t0 w (.on k i c) js->(Zi n i c).2.2.2.2.1=true->WU n s0 t0 w (.rid k (Zi n i c).1 (Zi n i c).2.1) js
 |change {k:Nat}{s t:Int}{js:List Zt} :WU n s0 t0 w (.rid k s t) js->WU n s0 t0 w (.rdy k s (t+(Wg n s).2.2.2.1)) js
 |rdyV {k:Nat}{s t:Int}{js:List Zt}{p:Kh} :WU n s0 t0 w (.rid k s t) js->p∈n.2.2.2.2.1->p.1=s->t+p.2.2.1<=3155932800->WU n s0 t0 w (.rdy k p.2.1 (t+p.2.2.1)) (js++[KI s p.2.1 t (t+p.2.2.1)])
 |arrR {k:Nat}{s t:Int}{js:List Zt} :WU n s0 t0 w (.rid k s t) js->WU n s0 t0 w (.arr k s t) js
 |arrV {k:Nat}{s t:Int}{js:List Zt}{p:Kh} :WU n s0 t0 w (.rid k s t) js->p∈n.2.2.2.2.1->p.1=s->t+p.2.2.1<=3155932800->WU n s0 t0 w (.arr k p.2.1 (t+p.2.2.1)) (js++[KI s p.2.1 t (t+p.2.2.1)])
def ZcU.ok(n:Zf):ZcU->Prop
 |.rdy _ s r=>(0<=s/\s<(n.1.length:Int))/\0<=r/\r<=3155932800+3600
 |.brd k i c _=>0<k/\i<n.2.2.1.length/\c<(Zw n i).length/\YQ n i=false
 |.lnk k i c=>0<k/\i<n.2.2.1.length/\c<(Zw n i).length
 |.on k i c=>0<k/\i<n.2.2.1.length/\c<(Zw n i).length/\YQ n i=false
 |.rid k s t=>0<k/\(0<=s/\s<(n.1.length:Int))/\0<=t/\t<=3155932800
 |.arr _ s t=>(0<=s/\s<(n.1.length:Int))/\0<=t/\t<=3155932800
theorem WU.ok{n:Zf}(h:WW n){s0 j w:Int}(k:0<=s0/\s0<(n.1.length:Int))(m:0<=j/\j<=3155932800)(o:0<=w/\w<=3600){f:ZcU}{js:List Zt}(d:WU n s0 j w f js):f.ok n:=by
 induction d with
 |init=>exact⟨k,by omega,by omega⟩
 |here=>exact⟨k,m⟩
 |rdyW b _ i=>have:=h.path _ b;exact⟨this.2.1,by omega,by omega⟩
 |arrW b _ i=>have:=h.path _ b;exact⟨this.2.1,by omega,by omega⟩
 |board _ l e c _ _ _ _=>exact⟨Nat.succ_pos _,l,e,c⟩
 |on _ _ e a=>exact⟨a.1,a.2.1,e,a.2.2.2⟩
 |stay _ g _ c a=>have:=h.isLink g;exact⟨a.1,this.2.1,this.2.2.2.2.1,c⟩
 |link _ _ g _ _ _=>have:=h.isLink g;exact⟨Nat.succ_pos _,this.2.1,this.2.2.2.2.1⟩
 |linked _ c a=>exact⟨a.1,a.2.1,a.2.2,c⟩
 |ride _ _ a=>
  have:=h.time a.2.1 a.2.2.1
  exact⟨a.1,h.stop a.2.1 a.2.2.1,by omega,by omega⟩
 |change _ a=>have:=h.change _ a.2.1.1 a.2.1.2;exact⟨a.2.1,by have:=a.2.2;omega,by have:=a.2.2;omega⟩
 |rdyV _ b _ i a=>have:=h.path _ b;exact⟨this.2.1,by have:=a.2.2;omega,by omega⟩
 |arrR _ a=>exact a.2
 |arrV _ b _ i a=>have:=h.path _ b;exact⟨this.2.1,by have:=a.2.2;omega,by omega⟩
end Q
namespace Q
open Tr Go
def Zo(q:Zr):Zr:=(q.1,q.2.1,q.2.2.1,q.2.2.2.1,q.2.2.2.2.1,q.2.2.2.2.2.1,false,false,0,q.2.2.2.2.2.2.2.2.2)
theorem Zhe{k:Nat}{q:Zr}(h:qB k q=true):qB k (Zo q)=true:=by unfold qB at h⊢;simp only[Vi,KL]at h⊢;obtain⟨a,b,c,d,e,_,f⟩:=h;exact⟨a,b,c,d,e,⟨Voa 0,by show (0:Int)<=255;decide⟩,f⟩
theorem Zcu{n:Zf}{q:Zr}{x:Zt} :HK n q x=0↔((cl (KE n x) x.2.2.1).1=x.2.2.2.2.1/\(cl (KE n x) x.2.2.2.1).1=x.2.2.2.2.2.1)/\((cl (KE n x) x.2.2.1).2.2.1=x.2.2.2.2.2.2.1/\(cl (KE n x) x.2.2.2.1).2.1=x.2.2.2.2.2.2.2.1)/\DA n q (rn n x.2.1)=true/\(KG x=true\/(cl (KE n x) x.2.2.1).2.2.2.1=true/\Xu n q x.2.2.2.2.1=true):=by
 unfold HK;rw[Kt (by omega),Kt (by omega),Kt (by omega),Kt (by omega),Kt (by omega),Kt (by omega),Kt (by omega),Kt (by omega)];unfold DA Tr.useB Zd2;rw[Vha,Vha];simp only[Vn,KL];generalize (rn n x.2.1).2.2.2.2.2.2.1=b;generalize (rn n x.2.1).2.2.2.2.2.1=c;generalize q.2.2.2.2.2.2.1=d;generalize (Dq n (rn n x.2.1)).2.2.1=e;generalize q.2.2.2.2.2.2.2.1=f;generalize (decide (q.2.2.2.2.2.2.2.2.1=(0:Int)) ||decide (ZB .i64 (Vxa q.2.2.2.2.2.2.2.2.1 (2 ^ min (Vfa (Dq n (rn n x.2.1)).2.1) 64)) 1=1))=g;generalize KG x=a;generalize (cl (KE n x) x.2.2.1).2.2.2.1=h;generalize Xu n q x.2.2.2.2.1=i;generalize ((cl (KE n x) x.2.2.1).1=x.2.2.2.2.1/\(cl (KE n x) x.2.2.2.1).1=x.2.2.2.2.2.1)=j
 generalize ((cl (KE n x) x.2.2.1).2.2.1=x.2.2.2.2.2.2.1/\(cl (KE n x) x.2.2.2.1).2.1=x.2.2.2.2.2.2.2.1)=k
 have key:((b=false/\(d&& !c)=false/\(f&& !e)=false/\(!g)=false/\(!a&& !h)=false/\(!a&& !i)=false/\(0:Int)=0)↔((!b&& ((c|| !d) && ((e|| !f) &&g)))=true/\(a=true\/h=true/\i=true))):=by
  cases b<;>cases c<;>cases d<;>cases e<;>cases f<;>cases g<;>cases a<;>cases h<;>cases i<;>simp
 exact and_congr_right fun _=>and_congr_right fun _=>by
  first
  |exact key
  |(simp only[Vn]at key⊢;exact key)
theorem Zpz(n:Zf)(q:Zr):WF n q c0=c0:=by
 unfold WF
 split<;>rfl
theorem Zdt(n:Zf)(q:Zr)(l:List Wr)(a:Int):cl (l.map (WF n q)) a=WF n q (cl l a):=by
 unfold cl;rw[Vva]
 cases l[a.toNat]? with
 |none=>exact(Zpz n q).symm
 |some c=>rfl
theorem Zdu(n:Zf)(q:Zr)(c:Wr):WF n q c=(c.1,c.2.1,c.2.2.1,c.2.2.2.1&&Xu n q c.1,c.2.2.2.2.1&&Xu n q c.1,()):=by
 unfold WF
 cases h:Xu n q c.1 with
 |true=>simp
 |false=>simp
theorem Zdq(n:Zf)(q:Zr)(x:Zt):KE (ZG n q) x=(KE n x).map (WF n q):=ZlJ n q x.2.1
theorem Zju(n:Zf)(q:Zr)(x:Zt):Ku (ZG n q) x=Ku n x:=by have a:(ZG n q).2.2.1.length=n.2.2.1.length:=Vl ..;unfold Ku;rw[Zdq,Vl,a]
theorem ZlI{n:Zf}{q:Zr}{x:Zt}(a:Ku n x=true):rn (ZG n q) x.2.1=JD n q (rn n x.2.1):=by
 unfold Ku at a;rw[Vi]at a;have h:=a.1;unfold ZU at h;simp only[Vi,KL]at h;have b:x.2.1.toNat<n.2.2.1.length:=by omega
 unfold rn;show ((n.2.2.1.map (JD n q))[x.2.1.toNat]?).getD u0=_;rw[Vva,Vc b];rfl
theorem Zcl(n:Zf)(q:Zr)(s:Int):Xu n (Zo q) s=true:=by unfold Xu Zo;simp
theorem ZhL(n:Zf)(q:Zr)(r:YK):DA n (Zo q) r= !r.2.2.2.2.2.2.1:=by unfold DA Tr.useB Zo;simp
theorem ZsK{n:Zf}{q:Zr}{x:Zt}(c:Ku n x=true):HK (ZG n q) (Zo q) x=0↔HK n q x=0:=by rw[Zcu,Zcu,Zdq,Zdt,Zdt,Zdu,Zdu,ZlI c,ZhL,Zcl];have b:(JD n q (rn n x.2.1)).2.2.2.2.2.2.1= !DA n q (rn n x.2.1):=rfl;rw[b,Bool.not_not];refine and_congr_right fun a=>and_congr_right fun _=>and_congr_right fun _=>?_;simp only[Vi];rw[a.1];simp
theorem ZnW{α:Type}(p f:α->Bool)(l:List α):(l.filter p).any f=l.any fun x=>f x&&p x:=by
 induction l with
 |nil=>rfl
 |cons x l b=>
  cases a:p x with
  |true=>rw[List.filter_cons_of_pos a,Vpc,Vpc,b,a,Vkd]
  |false=>rw[List.filter_cons_of_neg (by simp [a]),Vpc,b,a,Vdd,Vld]
theorem ZeL{n:Zf}{q:Zr}{x:Zt} :Yz n q x=0↔(n.2.2.2.2.1.any fun p=>YU x p&&Hb q p)=true:=by
 unfold Yz
 cases (n.2.2.2.2.1.any fun p=>YU x p&&Hb q p) with
 |true=>simp
 |false=>cases n.2.2.2.2.1.any (YU x)<;>simp
theorem Zuk{n:Zf}{q:Zr}{x:Zt} :Yz (ZG n q) (Zo q) x=0↔Yz n q x=0:=by
 rw[ZeL,ZeL]
 have a:∀p:Kh,Hb (Zo q) p=true:=by intro p;unfold Hb Zo;simp
 show ((Ju n q).any fun p=>YU x p&&Hb (Zo q) p)=true↔_;simp only[a,Vkd];unfold Ju Hb
 cases q.2.2.2.2.2.2.1 with
 |true=>simp only[if_true];rw[ZnW];simp
 |false=>simp
theorem Zrm{n:Zf}{q:Zr}{x:Zt} :Xd (ZG n q) (Zo q) x=0↔Xd n q x=0:=by
 have b:∀(n:Zf) (q:Zr),Xd n q x=0↔(!ZU x.2.2.2.2.1 n.1.length|| !ZU x.2.2.2.2.2.1 n.1.length)=false/\(bif x.1 then !Ku n x else !decide (x.2.1=0) || (!decide (x.2.2.1=0) || (!decide (x.2.2.2.1=0) ||KG x)))=false/\(!decide (0<=x.2.2.2.2.2.2.1/\x.2.2.2.2.2.2.1<=3155932800) || !decide (0<=x.2.2.2.2.2.2.2.1/\x.2.2.2.2.2.2.2.1<=3155932800))=false/\(bif x.1 then HK n q x else Yz n q x)=0:=by intro n q;unfold Xd;rw[Kt (by omega),Kt (by omega),Kt (by omega)]
 rw[b,b,Zju];refine and_congr_right fun _=>and_congr_right fun a=>and_congr_right fun _=>?_
 cases c:x.1 with
 |true=>
  rw[c]at a
  exact ZsK (by simpa using a)
 |false=>exact Zuk
theorem Zdh{n:Zf}{q:Zr}{L:List Zt}{i:Nat} :WY (ZG n q) (Zo q) L i=0↔WY n q L i=0:=by
 have e:∀(n:Zf) (q:Zr),WY n q L i=0↔Xd n q (lg L i)=0/\Df n q L i=0/\(XN L i=true->Y6 n q (lg L i)=0):=by
  intro n q;unfold WY;by_cases a:Xd n q (lg L i)=0
  ·by_cases b:Df n q L i=0
   ·rw[Ze a,Ze b]
    cases XN L i<;>simp [a,b]
   ·rw[Ze a,Zk b];simp [b]
  ·rw[Zk a];simp [a]
 have d:∀(n:Zf) (q:Zr) (x:Zt),Y6 n q x=0↔(cl (KE n x) x.2.2.2.1).2.2.2.2.1=true/\Xu n q x.2.2.2.2.2.1=true:=by intro n q x;unfold Y6;rw[Kt (by omega),Kt (by omega)];simp
 rw[e,e];refine(and_congr Zrm Voc).trans (and_congr_right fun a=>and_congr Voc ?_);refine imp_congr_right fun c=>?_
 have h:(lg L i).1=true:=by unfold XN at c;rw[Vi]at c;exact c.1
 obtain⟨_,_,f,_⟩:=Zkr a;have g:=(Zcu.1 (f h).2).1.2;rw[d,d,Zdq,Zdt,Zdu,Zcl];simp only[Vi];rw[g];simp
theorem Zm1(n:Zf)(q:Zr)(l:List Wr)(a:Nat):∀k,zN (ZG n q) (l.map (WF n q)) a k=zN n l a k
 |0=>rfl
 |k+1=>by
  have h:zn (ZG n q) (l.map (WF n q)) (a+k)=zn n l (a+k):=by unfold zn;rw[(Zdv n q l (a+k)).1];rfl
  unfold zN;rw[Zm1 n q l a k,h]
theorem ZrL{n:Zf}{q:Zr}{x:Zt}(a:Ku n x=true):Hn (ZG n q) x=Hn n x/\Hk (ZG n q) x=Hk n x:=by
 constructor
 ·unfold Hn;rw[Zdq,Zm1]
 ·unfold Hk;rw[ZlI a];rfl
theorem Zek(n:Zf)(q:Zr):∀(L:List Zt) (w:Bool) (out:List ZJ),K2 (ZG n q) L w out=K2 n L w out
 |[],_,_=>rfl
 |x::L,w,out=>by
  rw[Gg,Gg,Zju];by_cases a:x.1=true/\Ku n x=false
  ·rw[Zn a,Zn a]
  rw[Zg a,Zg a];by_cases c:KG x=true/\(x.1=false\/w=false)
  ·rw[Zn c,Zn c]
  rw[Zg c,Zg c];by_cases b:x.1=true
  ·rw[Zn b,Zn b]
   have i:Ku n x=true:=by
    cases h:Ku n x with
    |true=>rfl
    |false=>exact absurd ⟨b,h⟩ a
   obtain⟨d,e⟩:=ZrL (q:=q) i;have f:Xf (ZG n q) x=Xf n x:=by unfold Xf;rw[d,e]
   have g:XH (ZG n q) x out=XH n x out:=by unfold XH XX;rw[d,e]
   rw[f,g];exact Zek n q L _ _
  ·rw[Zg b,Zg b];exact Zek n q L _ _
theorem Zp8(n:Zf)(q:Zr)(L:List Zt):Yr (ZG n q) (Zo q) L=Yr n q L:=by
 have a:ZaC (ZG n q) L=ZaC n L:=by unfold ZaC;rw[Zek];rfl
 unfold Yr;rw[a];rfl
theorem Zpg{n:Zf}{q:Zr}(L:List Zt)(a:XZ n q=0)(b:XZ (ZG n q) (Zo q)=0):(WZ (ZG n q) (Zo q) L).2=0↔(WZ n q L).2=0:=by
 rw[G8,G8];refine and_congr ⟨fun _=>a,fun _=>b⟩ (or_congr Voc (and_congr_right fun _=>and_congr ?_ ?_))
 ·exact forall_congr' fun i=>imp_congr_right fun _=>Zdh
 ·rw[Zp8]
end Q
namespace Q
open Tr Go
variable {n:Zf}{q:Zr}
theorem Zks{n:Zf}{q:Zr}{x:Zt} :Xd n q x=0↔(ZU x.2.2.2.2.1 n.1.length=true/\ZU x.2.2.2.2.2.1 n.1.length=true)/\(bif x.1 then !Ku n x else !decide (x.2.1=0) || (!decide (x.2.2.1=0) || (!decide (x.2.2.2.1=0) ||KG x)))=false/\
 ((0<=x.2.2.2.2.2.2.1/\x.2.2.2.2.2.2.1<=3155932800)/\(0<=x.2.2.2.2.2.2.2.1/\x.2.2.2.2.2.2.2.1<=3155932800))/\(bif x.1 then HK n q x else Yz n q x)=0:=by
 unfold Xd;rw[Kt (by omega),Kt (by omega),Kt (by omega)];simp only[Vha,Vn,KL]
theorem ZqU{a m:Nat} :ZU (a:Int) m=true↔a<m:=by unfold ZU;rw[Vi,KL,KL];omega
theorem RY{a:Int}{m:Nat} :ZU a m=true↔0<=a/\a<(m:Int):=by unfold ZU;rw[Vi,KL,KL]
theorem ZmJ(n:Zf)(q:Zr)(i:Nat):DA n (Zo q) (rn n (i:Int))=true↔YQ n i=false:=by
 rw[ZhL];unfold YQ
 cases (rn n (i:Int)).2.2.2.2.2.2.1<;>simp
def Zh6(n:Zf)(i b c:Nat)(st:Bool):Prop:=i<n.2.2.1.length/\b<c/\c<(Zw n i).length/\YQ n i=false/\(st=true\/(Zi n i b).2.2.2.1=true)
theorem ZgL(h:WW n){x:Zt} :(Xd n (Zo q) x=0/\x.1=true)↔∃i b c st,x=ZV n i b c st/\Zh6 n i b c st:=by
 rw[Zks];constructor
 ·rintro ⟨⟨a,f,g,d⟩,m⟩;rw[m]at f d;simp only[Zc,Vn]at f d;have k:=f;unfold Ku KE at k;simp only[Vi,KL,RY]at k;obtain⟨⟨E,G⟩,H,I,J⟩:=k;obtain⟨⟨p,r⟩,⟨s,t⟩,v,e⟩:=Zcu.1 d;obtain⟨U,z,w,y,S,T,R,Q,xs,u⟩:=x;simp only at m a f g d E G H I J p r s t v e;obtain⟨i,rfl⟩:∃i:Nat,z=(i:Int):=⟨z.toNat,by omega⟩;obtain⟨b,rfl⟩:∃i:Nat,w=(i:Int):=⟨w.toNat,by omega⟩;obtain⟨c,rfl⟩:∃i:Nat,y=(i:Int):=⟨y.toNat,by omega⟩;subst m;have K:c<(Zw n i).length:=by unfold Zw;omega
  refine⟨i,b,c,xs,?_,by omega,by omega,K,(ZmJ n q i).1 v,?_⟩
  ·have A:(Zi n i b).1=S:=p;have B:(Zi n i c).1=T:=r;have C:(Zi n i b).2.2.1=R:=s;have D:(Zi n i c).2.1=Q:=t;unfold ZV;rw[A,B,C,D]
  ·rcases e with e|e
   ·exact .inl e
   ·exact .inr e.1
 ·rintro ⟨i,b,c,st,rfl,a,f,g,d,j⟩;have o:b<(Zw n i).length:=by omega
  have M:=h.stop a o;have N:=h.stop a g;have O:=h.time a o;have P:=h.time a g
  have l:Ku n (ZV n i b c st)=true:=by unfold Ku KE;simp only[Vi,KL];have:c<(rn n (i:Int)).2.2.2.2.2.2.2.1.length:=g;exact⟨ZqU.2 a,by show (0:Int)<=(b:Int);omega,by show (b:Int)<(c:Int);omega,by show (c:Int)<_;show (c:Int)<((rn n (i:Int)).2.2.2.2.2.2.2.1.length:Int);omega⟩
  refine⟨⟨⟨RY.2 M,RY.2 N⟩,?_,⟨⟨by show (0:Int)<=(Zi n i b).2.2.1;omega,O.2.2⟩,⟨P.1,by show (Zi n i c).2.1<=_;omega⟩⟩,?_⟩,rfl⟩
  ·show (!Ku n (ZV n i b c st))=false;rw[l];rfl
  ·refine Zcu.2 ⟨⟨rfl,rfl⟩,⟨rfl,rfl⟩,(ZmJ n q i).2 d,?_⟩;rcases j with j|j
   ·exact .inl j
   ·exact .inr ⟨j,Zcl ..⟩
theorem Zb9(h:WW n){x:Zt} :(Xd n (Zo q) x=0/\x.1=false)↔∃p∈n.2.2.2.2.1,∃a,x=KI p.1 p.2.1 a (a+p.2.2.1)/\0<=a/\a+p.2.2.1<=3155932800:=by
 rw[Zks];constructor
 ·rintro ⟨⟨f,d,l,g⟩,i⟩;rw[i]at d g;simp only[Zd,Vha,Vn,KL]at d g;have m:=ZeL.1 g;obtain⟨p,e,j⟩:=Vzb.1 m;rw[Vi]at j;have b:=j.1;unfold YU at b;simp only[Vi,KL]at b;obtain⟨w,v,r,s,t,y,k,o,xs,u⟩:=x;simp only at i f d l b;have c:=h.path p e;rw[Zy (by omega) (by omega)]at b;obtain⟨rfl,rfl,rfl,rfl⟩:=d;subst i;refine⟨p,e,k,?_,by omega,by omega⟩;unfold KI;rw[<-b.1, <-b.2.1,show o=k+p.2.2.1 by omega]
 ·rintro ⟨p,e,a,rfl,f,d⟩;have c:=h.path p e;refine⟨⟨⟨RY.2 c.1,RY.2 c.2.1⟩,rfl,⟨⟨f,by show a<=_;omega⟩,⟨by show 0<=a+p.2.2.1;omega,d⟩⟩,?_⟩,rfl⟩;show Yz n (Zo q) _=0;rw[ZeL];refine Vzb.2 ⟨p,e,?_⟩;unfold YU Hb Zo KI;simp only[Vi,KL,Vt,Vmd];exact⟨⟨trivial,trivial,by rw[Zy (by omega) (by omega)];omega⟩,trivial⟩
theorem Zkw(h:WW n){i b c j d e:Nat}{st f k:Bool} :Hf n (ZV n i b c st) (ZV n j d e f) k=true↔isLink n i c j d k:=by
 unfold Hf;rw[Vzb];constructor
 ·rintro ⟨x,g,a⟩;obtain⟨v,t,w,u,y,rfl,_⟩:=h.link x g;unfold Dg ZV at a;simp only[Vi,KL,Kv]at a;obtain⟨l,m,o,p,r⟩:=a;unfold isLink;rw[<-l, <-m, <-o, <-p, <-r];exact g
 ·intro s;refine⟨_,s,?_⟩;unfold Dg ZV;simp
theorem ZqG(n:Zf)(s t a b s' e c d:Int):Xc n (KI s t a b) (KI s' e c d)≠0:=by unfold Xc KI;intro h;rw[Kt (by omega)]at h;obtain⟨_,h⟩:=h;simp at h
theorem ZqF(n:Zf)(s t a b:Int)(j d e:Nat):Xc n (KI s t a b) (ZV n j d e true)≠0:=by unfold Xc KI ZV;intro h;rw[Kt (by omega)]at h;obtain⟨_,h⟩:=h;simp [KG]at h
theorem ZjM(h:WW n){i b c j d e:Nat}{st:Bool} :Xc n (ZV n i b c st) (ZV n j d e true)=0↔(Zi n i c).1=(Zi n j d).1/\isLink n i c j d true/\(Zi n i c).2.1<=(Zi n j d).2.2.1:=by
 unfold Xc;have f:Hf n (ZV n i b c st) (ZV n j d e true) true=true↔isLink n i c j d true:=Zkw h;generalize Hf n (ZV n i b c st) (ZV n j d e true) true=B at*;unfold ZV KG;simp only[Vd,Vlc,Zd,Zc,Vld];rw[Kt (by omega),Kt (by omega)];rw[<-f]
 cases B with
 |false=>simp
 |true=>
  simp only[Vd,Vn,KL,true_and];refine and_congr_right fun _=>?_;by_cases a:(Zi n j d).2.2.1<(Zi n i c).2.1
  ·rw[Ze a];simp;omega
  ·rw[Zk a];simp;omega
theorem ZqD{i b c:Nat}{st:Bool}{s t a z:Int} :Xc n (ZV n i b c st) (KI s t a z)=0↔(Zi n i c).1=s/\a=(Zi n i c).2.1:=by
 unfold Xc ZV KI KG;simp only[Vd,Vlc,Zd,Zc,Vt];rw[Kt (by omega)];simp only[Vn,KL];refine and_congr_right fun _=>?_;by_cases d:a=(Zi n i c).2.1
 ·rw[Ze d];simp [d]
 ·rw[Zk d];simp [d]
theorem ZqE{j d e:Nat}{s t a z:Int} :Xc n (KI s t a z) (ZV n j d e false)=0↔t=(Zi n j d).1/\z<=(Zi n j d).2.2.1:=by
 unfold Xc ZV KI KG;simp only[Vd,Vdd,Zd,Zc,Vt];rw[Kt (by omega)];simp only[Vn,KL];refine and_congr_right fun _=>?_;by_cases b:(Zi n j d).2.2.1<z
 ·rw[Ze b];simp;omega
 ·rw[Zk b];simp;omega
theorem ZqC(h:WW n){i b c j d e:Nat}{st:Bool}(k:i<n.2.2.1.length)(g:c<(Zw n i).length):Xc n (ZV n i b c st) (ZV n j d e false)=0↔(Zi n i c).1=(Zi n j d).1/\
 ((Zi n i c).2.1+(Wg n (Zi n i c).1).2.2.2.1<=(Zi n j d).2.2.1\/isLink n i c j d false/\(Zi n i c).2.1<=(Zi n j d).2.2.1):=by
 have r:=h.time k g;have l:=h.stop k g;have o:=h.change _ l.1 l.2;have p:Va .i64 ((Zi n i c).2.1+(Wg n (Zi n i c).1).2.2.2.1)=(Zi n i c).2.1+(Wg n (Zi n i c).1).2.2.2.1:=Zy (by omega) (by omega);unfold Xc;have m:Hf n (ZV n i b c st) (ZV n j d e false) false=true↔isLink n i c j d false:=Zkw h;generalize Hf n (ZV n i b c st) (ZV n j d e false) false=B at*;unfold ZV KG;simp only[Vd,Vlc,Zd,p];rw[Kt (by omega)];simp only[Vn,KL];refine and_congr_right fun _=>?_;rw[<-m];by_cases a:(Zi n i c).2.1+(Wg n (Zi n i c).1).2.2.2.1<=(Zi n j d).2.2.1
 ·rw[Ze a];simp [a]
 ·rw[Zk a];by_cases f:(Zi n i c).2.1<=(Zi n j d).2.2.1
  ·rw[Ze f]
   cases B with
   |true=>simp [a,f]
   |false=>simp [a]
  ·rw[Zk f];simp [a,f]
theorem Zfs{i b c:Nat}{st:Bool} :Y6 n (Zo q) (ZV n i b c st)=0↔(Zi n i c).2.2.2.2.1=true:=by unfold Y6;rw[Kt (by omega),Kt (by omega),Zcl];show (!(Zi n i c).2.2.2.2.1)=false/\_↔_;simp
theorem Y7{n:Zf}{q:Zr}{L:List Zt}{i:Nat} :WY n q L i=0↔Xd n q (lg L i)=0/\Df n q L i=0/\(XN L i=true->Y6 n q (lg L i)=0):=by
 unfold WY;by_cases a:Xd n q (lg L i)=0
 ·by_cases b:Df n q L i=0
  ·rw[Ze a,Ze b]
   cases XN L i<;>simp [a,b]
  ·rw[Ze a,Zk b];simp [b]
 ·rw[Zk a];simp [a]
theorem ZaL{n:Zf}{q:Zr}{L:List Zt} :HA n q L=0↔(lg L 0).2.2.2.2.1=q.1/\KG (lg L 0)=false/\(!(lg L 0).1&& (decide (1<L.length) && ((lg L 1).1&& !decide ((lg L 1).2.2.2.2.2.2.1=(lg L 0).2.2.2.2.2.2.2.1))))=false/\
 (!(lg L 0).1&& (decide (L.length=1) && (bif q.2.2.2.1 then !decide ((lg L 0).2.2.2.2.2.2.2.1=q.2.2.1) else !decide ((lg L 0).2.2.2.2.2.2.1=q.2.2.1))))=false/\
 (!q.2.2.2.1&&decide ((lg L 0).2.2.2.2.2.2.1<q.2.2.1))=false/\(q.2.2.2.2.2.2.2.2.2.1&& ((lg L 0).1&&decide ((lg L 0).2.2.2.2.2.2.1<Va .i64 (q.2.2.1+(Wg n q.1).2.2.2.1))))=false:=by
 unfold HA;rw[Kt (by omega),Kt (by omega),Kt (by omega),Kt (by omega),Kt (by omega)];simp only[Vn,KL];refine and_congr_right fun _=>and_congr_right fun _=>and_congr_right fun _=>and_congr_right fun _=>and_congr_right fun _=>?_
 cases (q.2.2.2.2.2.2.2.2.2.1&& ((lg L 0).1&&decide ((lg L 0).2.2.2.2.2.2.1<Va .i64 (q.2.2.1+(Wg n q.1).2.2.2.1))))<;>simp
end Q
namespace Q
open Tr Go
abbrev Kx:=Hq×YD×List (Int×Int×Int×Int×Unit) ×Unit
abbrev ZeX:=List (Zbt×List Zs)
abbrev Wa:=Zf×Zr×ZeX×GU×List Kx×Unit
def Wm:JP->List ZJ
 |[]=>[]
 |[_]=>[]
 |x::y::t=>Wm (y::t)++[x.2.1]
theorem Zel{S:List Jl->List Int->Prop}{F:GT}{rs:List Jl}{s:JP}(h:XT S F rs s):Wm s=rs:=by
 induction h with
 |start=>rfl
 |snoc a _ _ b=>
  obtain⟨_,_,_,e,_⟩:=a.head;subst e;show Wm (_::_)++_=_;rw[b]
def JE(m:ZeX)(p:Zbt):List Zs:=Vkc (ZI (Zj Wh) p m) []
def Xv(st:Wa):List Zs:=st.2.2.2.1.2.1.map Vbd
def Jt(st:Wa)(p:Zbt):List Zs:=JE st.2.2.1 p
section
variable (F:Kc) (hF:FO F)
def XD(l:Zs):Prop:=HY F hF (Wm l.2.2.2.2.1) l.2.2.2.2.1/\ ∀v∈Wm l.2.2.2.2.1,Yi v
def Jy(a b:Zs):Prop:=a.1=b.1/\a.2.1<=b.2.1/\a.2.2.1<=b.2.2.1/\a.2.2.2.1<=b.2.2.2.1/\Dm.Dom (Wv F hF.fareOk) F.1.length ((Wm a.2.2.2.2.1).map Km) ((Wm b.2.2.2.2.1).map Km)
def KZ(st:Wa)(ls:List Zs)(os:List Kx)(a:Wa):Prop:= ∃sub:List Zs,sub.length<=ls.length/\(∀o∈sub,o∈ls)/\(Xv a).Perm (sub++Xv st)/\(a.1=st.1/\a.2.1=st.2.1/\a.2.2.2.2.1=st.2.2.2.2.1++os)/\
 (∀p o,o∈Jt a p↔o∈Jt st p\/(o∈sub/\o.1=p))/\(∀p,(Jt a p).length<=(Jt st p).length+sub.length)/\(∀w:Zs->Nat,(sub.map w).sum<=(ls.map w).sum)/\ ∀l∈ls,∃o∈Jt a l.1,Jy F hF o l
structure Xi (n:Zf) (q:Zr) (st:Wa) (N:Nat):Prop where
 net:st.1=n
 que:st.2.1=q
 lab:∀p,∀o∈Jt st p,o.1=p/\XD F hF o
 few:∀p,(Jt st p).length<=N
 queue:(Xv st).length<=N
end
variable {F:Kc}{hF:FO F}{n:Zf}{q:Zr}
theorem Jy.refl(a:Zs):Jy F hF a a:=⟨rfl,Voa _,Voa _,Voa _,Dm.Dom.refl _⟩
theorem Jy.trans{a b c:Zs}(h:Jy F hF a b)(k:Jy F hF b c):Jy F hF a c:=⟨h.1.trans k.1,Vac h.2.1 k.2.1,Vac h.2.2.1 k.2.2.1,Vac h.2.2.2.1 k.2.2.2.1,h.2.2.2.2.trans k.2.2.2.2⟩
theorem KZ.nil(st:Wa):KZ F hF st [] [] st:=⟨[],by simp,by simp,.refl _,⟨rfl,rfl,(Vw _).symm⟩,by simp,by simp,by simp,by simp⟩
theorem KZ.trans{st e c:Wa}{ls ms:List Zs}{os m:List Kx}(h:KZ F hF st ls os e)(k:KZ F hF e ms m c):KZ F hF st (ls++ms) (os++m) c:=by
 obtain⟨E,G,s,t,f,u,v,x,y⟩:=h;obtain⟨r,H,z,A,g,i,B,C,D⟩:=k;refine⟨E++r,by simp;omega,fun o j=>?_,?_,⟨g.1.trans f.1,g.2.1.trans f.2.1,by rw[g.2.2,f.2.2,Vna]⟩,fun p o=>?_,fun p=>?_,fun w=>?_,fun l d=>?_⟩
 ·rw[Vaa]at j⊢;exact j.imp (s o) (z o)
 ·refine A.trans ((List.Perm.append_left r t).trans ?_);rw[<-Vna];exact List.Perm.append_right _ Vdb
 ·rw[i,u,Vaa];constructor
  ·rintro ((h|⟨a,b⟩) |⟨a,b⟩)
   ·exact .inl h
   ·exact .inr ⟨.inl a,b⟩
   ·exact .inr ⟨.inr a,b⟩
  ·rintro (h|⟨a|a,b⟩)
   ·exact .inl (.inl h)
   ·exact .inl (.inr ⟨a,b⟩)
   ·exact .inr ⟨a,b⟩
 ·have:=v p;have:=B p;rw[Vk];omega
 ·rw[Vx,Vx,Vcd,Vcd];exact Nat.add_le_add (x w) (C w)
 ·rw[Vaa]at d;rcases d with d|d
  ·obtain⟨o,a,b⟩:=y l d;exact⟨o,(i _ _).2 (.inl a),b⟩
  ·exact D l d
theorem Xi.adds{st a:Wa}{N:Nat}{ls:List Zs}{os:List Kx}(h:Xi F hF n q st N)(j:∀l∈ls,XD F hF l)(k:KZ F hF st ls os a):Xi F hF n q a (N+ls.length):=by
 obtain⟨u,r,d,e,c,f,g,s,t⟩:=k;refine⟨c.1.trans h.net,c.2.1.trans h.que,fun p o m=>?_,fun p=>?_,?_⟩
 ·rcases (f p o).1 m with b|⟨b,i⟩
  ·exact h.lab p o b
  ·exact⟨i,j o (d o b)⟩
 ·have:=g p;have:=h.few p;omega
 ·rw[e.length_eq,Vk];have:=h.queue;omega
theorem Ztf{a b:Zs}(f:XD F hF a)(g:XD F hF b)(k:a.1=b.1):∃t,F156 a b=some t/\(t=true->Jy F hF a b):=by
 obtain⟨d,i,j⟩:=Zp6 hF f.1 g.1 f.2 g.2;unfold F156;by_cases c:a.2.1<=b.2.1
 case neg=>rw[Zk c];exact⟨_,rfl,fun h=>by cases h⟩
 by_cases e:a.2.2.1<=b.2.2.1
 case neg=>rw[Ze c,Zk e];exact⟨_,rfl,fun h=>by cases h⟩
 by_cases c3:a.2.2.2.1<=b.2.2.2.1
 case neg=>rw[Ze c,Ze e,Zk c3];exact⟨_,rfl,fun h=>by cases h⟩
 rw[Ze c,Ze e,Ze c3];simp only[Zc,i,Za];exact⟨_,rfl,fun h=>⟨k,c,e,c3,j h⟩⟩
theorem Zix{α β:Type}{eq:α->α->Bool}(k:α)(v:β):∀l:List (α×β),idx (ZY eq k v l) ((Tr.amPos eq k l:Nat):Int)=some (k,v)
 |[]=>rfl
 |e::l=>by
  have a:=Zix (eq:=eq) k v l;rw[ZY,Tr.amPos]
  cases h:eq k e.1 with
  |true=>rfl
  |false=>
   simp only[Zd]
   have b:Tr.amPos eq k l<(ZY eq k v l).length:=by
    by_cases c:Tr.amPos eq k l<(ZY eq k v l).length
    ·exact c
    ·unfold idx at a;rw[Vj,List.getElem?_eq_none (by omega)]at a
     split at a<;>simp at a
   rw[ZC b]at a;rw[ZC (by simpa using b),List.getElem_cons_succ];exact a
open Classical in
theorem ZfA(m:ZeX)(l:Zs)(p:Zbt):JE (ZY (Zj Wh) l.1 (JE m l.1++[l]) (ZY (Zj Wh) l.1 (JE m l.1) m)) p=if p=l.1 then JE m p++[l] else JE m p:=by
 have a:Ty.key Wh=true:=rfl;show Vkc (ZI (Zj Wh) p _) []=_;rw[GC a];by_cases h:p=l.1
 ·rw[Zn h,Zn h,h];rfl
 ·rw[Zg h,Zg h,GC a,Zg h];rfl
theorem Zfo{st:Wa}{N:Nat}(h:Xi F hF n q st N){l:Zs}(P:XD F hF l)(U:N+1<=549755813888):∃k,F158 st l=some k/\KZ F hF st [l] [] k:=by
 obtain⟨R,T,a,⟨⟨⟩,D,Q,⟨⟩⟩,S,⟨⟩⟩:=st;unfold F158;simp only;have E:∀o∈JE a l.1,o.1=l.1/\XD F hF o:=h.lab l.1;have G:(JE a l.1).length<=N:=h.few l.1;have V:D.length<=N:=by have:=h.queue;simpa [Xv] using this
 have d:Vkc (ZI (Zj Wh) l.1 a) []=JE a l.1:=rfl;simp only[d]
 suffices K:∃r:Unit ⊕ Unit,_=some r/\(r=.inr ()->∃o∈JE a l.1,Jy F hF o l) by
  obtain⟨r,f,w⟩:=K
  cases r with
  |inr u=>
   refine⟨_,KM (fun x=>x=Sum.inr ()) ⟨_,f,rfl⟩ (fun x B=>by subst B;rfl),[],by simp,by simp,.refl _,⟨rfl,rfl,(Vw _).symm⟩,fun p o=>by simp [Jt],fun p=>by simp [Jt],by simp,?_⟩;intro C b;rw[Vr]at b;subst b
   exact w rfl
  |inl u=>
   have j:Vkc (ZI (Zj Wh) l.1 (ZY (Zj Wh) l.1 (JE a l.1) a)) []=JE a l.1:=by rw[GC rfl,Zn rfl];rfl
   obtain⟨m,H,z,A⟩:=ZtB (c:=Q) l (show D.length+1<=549755813888 by omega)
   have M:ZE (decide ((JE a l.1).length+ [l].length<=Zz))=some ():=by rw[Ze (by simp [Zz];omega)];rfl
   have O:ZE (Tr.holeK Wh (some l.1) l.1)=some ():=by have:Tr.holeK Wh (some l.1) l.1=true:=(Js (t:=Wh) rfl).2 rfl;rw[this];rfl
   refine⟨(R,T,ZY (Zj Wh) l.1 (JE a l.1++[l]) (ZY (Zj Wh) l.1 (JE a l.1) a),((),m,H,()),S,()),KM (fun x=>x=Sum.inl ()) ⟨_,f,rfl⟩ (fun x B=>by subst B;simp only[Sum.elim_inl,j,M,Za,Zix,O,z]),[l],by simp,by simp,?_,⟨rfl,rfl,(Vw _).symm⟩,fun p o=>?_,fun p=>?_,by simp,?_⟩
   ·show (Vqd Vbd m).Perm ([l]++Vqd Vbd D);have:=A.map Vbd;rw[Vx]at this;exact this.trans Vdb
   ·show o∈JE _ p↔o∈JE a p\/_;rw[ZfA];by_cases v:p=l.1
    ·rw[Zn v,Vaa,Vr];refine or_congr Voc ⟨fun e=>⟨e,by rw[e,v]⟩,fun e=>e.1⟩
    ·rw[Zg v];refine⟨.inl,fun e=>e.resolve_right ?_⟩;rintro ⟨f,w⟩;rw[Vr]at f;exact v (by rw[<-w,f])
   ·show (JE _ p).length<=(JE a p).length+_;rw[ZfA]
    split<;>simp
   ·intro C b;rw[Vr]at b;subst b;refine⟨C,?_,Jy.refl _⟩;show C∈JE _ _;rw[ZfA,Zn rfl];simp
 refine Ki (JE a l.1).length (fun r:Unit ⊕ Unit=>r=.inr ()->∃o∈JE a l.1,Jy F hF o l) (fun i (s:Int)=>s=(i:Int)) ?_ ?_ _ rfl
 ·rintro i _ g rfl;have y:=Ve g;obtain⟨t,I,J⟩:=Ztf (E _ y).2 P (E _ y).1;simp only[ZO g,Zc,Kg g,Vc g,Za,I]
  cases t with
  |true=>exact .inr ⟨_,rfl,fun _=>⟨_,y,J rfl⟩⟩
  |false=>exact .inl ⟨_,rfl,ZW g (by omega)⟩
 ·rintro _ rfl;refine⟨.inl (),by simp only[JF,Zd],fun e=>?_⟩;cases e
end Q
namespace Q
open Tr Go
variable {F:Kc}{hF:FO F}{n:Zf}{q:Zr}
theorem RX{i:Nat}(a:i<n.2.2.1.length):idx n.2.2.1 (i:Int)=some (rn n (i:Int)):=by
 rw[ZC a];unfold rn
 grind
theorem RW{i c:Nat}(a:c<(Zw n i).length):idx (rn n (i:Int)).2.2.2.2.2.2.2.1 (c:Int)=some (Zi n i c):=by
 have:idx (Zw n i) (c:Int)=some (Zi n i c):=by rw[ZC a,RM a]
 exact this
theorem ZdN{β:Type}(f:Nat->List β)(i:Nat):(Vp (i+1)).flatMap f=(Vp i).flatMap f++f i:=by rw[List.range_succ,Vkb];simp
theorem ZqA{β:Type}(f:Nat->List β){i m:Nat}(h:i<=m):((Vp i).flatMap f).length<=((Vp m).flatMap f).length:=by
 induction m with
 |zero=>grind
 |succ m b=>
  rcases Vua m i with a|a
  ·grind
  ·rw[ZdN,Vk];omega
theorem Zgi{α β:Type}(l:List α)(f:α->List β):l.flatMap f=(Vp l.length).flatMap fun i=>(l[i]?).elim [] f:=by
 have key:∀k,k<=l.length->(l.take k).flatMap f=(Vp k).flatMap fun i=>(l[i]?).elim [] f:=by
  intro k
  induction k with
  |zero=>simp
  |succ k a=>
   intro h;rw[ZdN, <-a (by omega),Vg (by omega),Vkb,Vc (by omega)];simp
 grind
theorem Zcw{σ τ:Type}{step:σ->Option (σ ⊕ τ)}{m:Nat}{g:Nat->List Zs}{st:Wa}{N:Nat}(mk:Nat->Wa->σ)(fin:Wa->τ)(f:Xi F hF n q st N)(h:∀i,i<m->∀l∈g i,XD F hF l)(t:N+((Vp m).flatMap g).length<=549755813888)
 (b:∀i st N,i<m->Xi F hF n q st N->N+(g i).length<=549755813888->∃s',step (mk i st)=some (.inl s')/\ ∃a,s' =mk (i+1) a/\KZ F hF st (g i) [] a)
 (d:∀st N,Xi F hF n q st N->step (mk m st)=some (.inr (fin st))):∃r,run step (mk 0 st)=some r/\ ∃a,r=fin a/\KZ F hF st ((Vp m).flatMap g) [] a:=by
 have lab:∀i,i<=m->∀l∈(Vp i).flatMap g,XD F hF l:=by grind
 refine Ki m (fun r=>∃a,r=fin a/\KZ F hF st ((Vp m).flatMap g) [] a) (fun i s=>∃a,s=mk i a/\KZ F hF st ((Vp i).flatMap g) [] a) ?_ ?_ _ ⟨st,rfl,KZ.nil st⟩
 ·rintro i _ p ⟨a,rfl,c⟩;left;have o:=f.adds (by grind) c;have e:=ZqA g (show i+1<=m by omega);rw[ZdN,Vk]at e;obtain⟨s',j,st2,rfl,k⟩:=b i a _ p o (by omega);refine⟨_,j,st2,rfl,?_⟩;rw[ZdN];exact c.trans k
 ·rintro _ ⟨a,rfl,c⟩;exact⟨_,d a _ (f.adds (by grind) c),a,rfl,c⟩
def Zah(n:Zf)(i c:Nat):Bool:=n.2.2.2.1.any fun l=>l.2.2.2.2.1&& (decide (l.1=(i:Int)) &&decide (l.2.1=(c:Int)))
def Gb(n:Zf)(l:Zs)(j d:Nat):Bool:=n.2.2.2.1.any fun k=> !k.2.2.2.2.1&& (decide (l.1.1=1) && (decide (k.1=l.1.2.2.1) && (decide (k.2.1=l.1.2.2.2.1) && (decide (k.2.2.1=(j:Int)) &&decide (k.2.2.2.1=(d:Int))))))
theorem ZtK(st:Wa)(p:st.1.2.2.2.1.length<=1024)(i c:Nat):F166 st (i:Int) (c:Int)=some (st,Zah st.1 i c):=by
 unfold F166
 refine KM (fun r:Unit ⊕ Bool=>r=if Zah st.1 i c then .inr true else .inl ()) ?_ ?_
 ·refine Ki st.1.2.2.2.1.length _ (fun k (s:Int)=>s=(k:Int)/\(st.1.2.2.2.1.take k).any (fun l=>l.2.2.2.2.1&& (decide (l.1=(i:Int)) &&decide (l.2.1=(c:Int))))=false) ?_ ?_ _ ⟨rfl,rfl⟩
  ·rintro k _ a ⟨rfl,d⟩;have m:idx st.1.2.2.2.1 (k:Int)=some st.1.2.2.2.1[k]:=ZC a;simp only[ZO a,Zc,m,Za];have e:=RE a (fun l:Yd=>l.2.2.2.2.1&& (decide (l.1=(i:Int)) &&decide (l.2.1=(c:Int))));have b:=fun h=>Zdd a (f:=fun l:Yd=>l.2.2.2.2.1&& (decide (l.1=(i:Int)) &&decide (l.2.1=(c:Int)))) h;generalize o:st.1.2.2.2.1[k]=x at*
   cases j:(x.2.2.2.2.1&& (decide (x.1=(i:Int)) &&decide (x.2.1=(c:Int)))) with
   |true=>
    right;have g:Zah st.1 i c=true:=b j
    grind
   |false=>
    left;refine⟨((k+1:Nat):Int),?_,rfl,by grind⟩;have t:=ZW a (by omega)
    grind
  ·rintro _ ⟨rfl,d⟩;rw[Vra]at d;have g:Zah st.1 i c=false:=d
   grind
 grind
theorem Ztm(st:Wa)(p:st.1.2.2.2.1.length<=1024)(l:Zs)(j d:Nat):F163 st l (j:Int) (d:Int)=some (st,Gb st.1 l j d):=by
 unfold F163
 refine KM (fun r:Unit ⊕ Bool=>r=if Gb st.1 l j d then .inr true else .inl ()) ?_ ?_
 ·refine Ki st.1.2.2.2.1.length _ (fun k (s:Int)=>s=(k:Int)/\(st.1.2.2.2.1.take k).any (fun k=> !k.2.2.2.2.1&& (decide (l.1.1=1) && (decide (k.1=l.1.2.2.1) && (decide (k.2.1=l.1.2.2.2.1) && (decide (k.2.2.1=(j:Int)) &&decide (k.2.2.2.1=(d:Int)))))))=false) ?_ ?_ _ ⟨rfl,rfl⟩
  ·rintro k _ a ⟨rfl,c⟩;have m:idx st.1.2.2.2.1 (k:Int)=some st.1.2.2.2.1[k]:=ZC a;simp only[ZO a,Zc,m,Za];have e:=RE a (fun k:Yd=> !k.2.2.2.2.1&& (decide (l.1.1=1) && (decide (k.1=l.1.2.2.1) && (decide (k.2.1=l.1.2.2.2.1) && (decide (k.2.2.1=(j:Int)) &&decide (k.2.2.2.1=(d:Int)))))));have b:=fun h=>Zdd a (f:=fun k:Yd=> !k.2.2.2.2.1&& (decide (l.1.1=1) && (decide (k.1=l.1.2.2.1) && (decide (k.2.1=l.1.2.2.2.1) && (decide (k.2.2.1=(j:Int)) &&decide (k.2.2.2.1=(d:Int))))))) h;generalize o:st.1.2.2.2.1[k]=x at*;have t:=ZW a (by omega)
   cases i:(!x.2.2.2.2.1&& (decide (l.1.1=1) && (decide (x.1=l.1.2.2.1) && (decide (x.2.1=l.1.2.2.2.1) && (decide (x.2.2.1=(j:Int)) &&decide (x.2.2.2.1=(d:Int))))))) with
   |true=>
    right;have g:Gb st.1 l j d=true:=b i
    grind
   |false=>
    grind
  ·rintro _ ⟨rfl,c⟩;rw[Vra]at c;have g:Gb st.1 l j d=false:=c
   grind
 grind
theorem ZhF{L:List Zt}(x:Zt)(h:L.length<=1000):F170 L x=some (L++[x]):=by
 unfold F170;have c:(Zz:Int)=549755813888:=rfl;have b:(Zz:Nat)=549755813888:=rfl;rw[Zy (by omega) (by omega)]
 have a:ZE (decide ((0:Int)<=(0:Int)/\(0:Int)<=(L.length:Int)+1/\(L.length:Int)+1<=(Zz:Int)))=some ():=by rw[Ze ⟨by omega,by omega,by omega⟩];rfl
 rw[a];simp only[Za,Int.toNat_zero,List.replicate_zero,Vzc,Vq,Vbc];rw[Ze (by omega),Ze (by grind)];rfl
def GN(n:Zf)(v:ZJ)(x:Zt):ZJ:=(v.1,x.2.2.2.2.2.2.2.1,KJ .i64 v.2.2.1 ((Hn n x:Nat):Int),KJ .i64 v.2.2.2.1 ((2 ^ (Hk n x).2.1.toNat:Nat):Int),())
def Xs(n:Zf)(l:Zs)(i b c:Nat)(st:Bool)(v:ZJ):Zs:=((1,(Zi n i c).1,(i:Int),(c:Int),GN n v (ZV n i b c st),()),(Zi n i c).2.1,l.2.2.1,l.2.2.2.1,l.2.2.2.2.1,l.2.2.2.2.2.1++[ZV n i b c st],())
def HH(n:Zf)(i c:Nat):Bool:=(Zi n i c).2.2.2.2.1||Zah n i c
def Rl(n:Zf)(l:Zs)(i b:Nat)(st:Bool)(v:ZJ)(c:Nat):List Zs:=if HH n i c=true then [Xs n l i b c st v] else []
def Dx(n:Zf)(l:Zs)(i b:Nat)(st:Bool)(v:ZJ):List Zs:=(Vp ((Zw n i).length - (b+1))).flatMap fun k=>Rl n l i b st v (b+1+k)
theorem ZkI{l:Zs}{i b:Nat}{st:Bool}{v:ZJ}{x:Zs} :x∈Dx n l i b st v↔∃c,b<c/\c<(Zw n i).length/\HH n i c=true/\x=Xs n l i b c st v:=by
 unfold Dx Rl;rw[Vla];constructor
 ·grind
 ·rintro ⟨c,a,d,e,rfl⟩;refine⟨c - (b+1),by grind,?_⟩
  grind
theorem Zms(p:WW n){st:Wa}{N:Nat}(hG:Xi F hF n q st N){l:Zs}(Y:XD F hF l)(Z:l.2.2.2.2.2.1.length<=999){i b:Nat}(D:i<n.2.2.1.length)(P:b<(Zw n i).length)(a:Bool){v:ZJ}(S:Small v)(hM:N+(Dx n l i b a v).length<=549755813888):
 ∃d,F167 st l (i:Int) (b:Int) a v=some d/\KZ F hF st (Dx n l i b a v) [] d:=by
 have b4:=p.sound.links;have a0:=p.sound.many _ (Ve D);have b0:(Zw n i).length<=32:=by rw[Zay D];omega
 have e:∀c∈Zw n i,0<=c.1/\c.1<(n.1.length:Int):=by rw[Zay D];exact p.sound.call _ (Ve D)
 obtain⟨sn,st2⟩:=st;obtain rfl:n=sn:=hG.net.symm
 have b2:∀c,b<c->c<(Zw n i).length->Ku n (ZV n i b c a)=true:=fun c h1 h2=>by
  unfold Ku;have U:ZU (ZV n i b c a).2.1 n.2.2.1.length=true:=by show ZU (i:Int) _=true;unfold ZU;grind
  have e2:(KE n (ZV n i b c a)).length=(Zw n i).length:=rfl;rw[U,e2];show (true&& (decide (0<=(b:Int)) && (decide ((b:Int)<(c:Int)) &&decide ((c:Int)<((Zw n i).length:Int)))))=true
  grind
 have I:∀c,(Hk n (ZV n i b c a))=(n.2.1[(rn n (i:Int)).2.2.2.2.1.toNat]?).getD Re:=fun _=>rfl
 obtain⟨f,H,j⟩:idx n.2.1 (rn n (i:Int)).2.2.2.2.1=some ((n.2.1[(rn n (i:Int)).2.2.2.2.1.toNat]?).getD Re)/\0<=((n.2.1[(rn n (i:Int)).2.2.2.2.1.toNat]?).getD Re).2.1/\((n.2.1[(rn n (i:Int)).2.2.2.2.1.toNat]?).getD Re).2.1<16:=by
  have Q:rn n (i:Int)∈n.2.2.1:=by unfold rn;grind
  have h1:=p.sound.route _ Q;have X:ZU (rn n (i:Int)).2.2.2.2.1 n.2.1.length=true:=by unfold ZU;grind
  refine⟨WI X Re,?_⟩;have Y:(rn n (i:Int)).2.2.2.2.1.toNat<n.2.1.length:=by omega
  rw[Kq Y];have:=p.sound.mode _ (Ve Y);omega
 generalize hR:(n.2.1[(rn n (i:Int)).2.2.2.2.1.toNat]?).getD Re=R at f H j I;obtain⟨b3,a5,J⟩:=ZcF p.sound (e _ (Ve P)).1 (by grind);obtain⟨⟨z,hz⟩,b7⟩:(∃z:Nat,v.2.2.1=(z:Int))/\v.2.2.1<65536:=⟨⟨_,(Vca S.1.1).symm⟩,S.1.2⟩;obtain⟨⟨m,Q⟩,b6⟩:(∃z:Nat,v.2.2.2.1=(z:Int))/\v.2.2.2.1<65536:=⟨⟨_,(Vca S.2.1).symm⟩,S.2.2⟩;have b5:∀k,b+k<=(Zw n i).length->zN n (Zw n i) b k<65536:=fun k hk=>Zbo p.sound e k (by omega)
 have K:zN n (Zw n i) b 1=2 ^ (Gn n (Zw n i)[b].1).2.1.toNat:=by show zN n (Zw n i) b 0 ||| zn n (Zw n i) (b+0)=_;unfold zn;rw[Nat.add_zero,Kq P];show 0 ||| _=_;simp
 unfold F167;have b1:Zi n i b=(Zw n i)[b]:=RM P;have U:idx n.1 (Zi n i b).1=some (Gn n (Zw n i)[b].1):=by grind
 simp only[RX D,Za,f,Ds H j,RW P,U,Ds a5 J];rw[hz,Q,HG (by omega) (YW J),HG (by omega) (YW j), <-K];have a7:Va .i64 ((b:Int)+1)=((b+1:Nat):Int):=by rw[Zy (by omega) (by omega)];omega
 rw[a7]
 have E:∀k,k<(Zw n i).length - (b+1)->∀x∈Rl n l i b a v (b+1+k),XD F hF x:=by
  intro k _ x T;unfold Rl at T;split at T
  ·rw[Vr]at T;subst T
   assumption
  grind
 refine Wl (fun r=>∃d,r=d/\KZ F hF (n,st2) (Dx n l i b a v) [] d) (Zcw (F:=F) (hF:=hF) (n:=n) (q:=q) (m:=(Zw n i).length - (b+1)) (g:=fun k=>Rl n l i b a v (b+1+k)) (st:=(n,st2))
  (fun k s=>(s,(v.1,(if k=0 then v.2.1 else(Zi n i (b+k)).2.1),((z ||| zN n (Zw n i) b (k+1):Nat):Int),((m ||| 2 ^ R.2.1.toNat:Nat):Int),v.2.2.2.2),((b+1+k:Nat):Int))) (fun s=>s) hG E hM ?hstep ?hend) ?fin
 case hstep=>
  intro k s M hk u w;have W:b+1+k<(Zw n i).length:=by omega
  have V:Zi n i (b+1+k)=(Zw n i)[b+1+k]:=RM W;obtain⟨t1,t2,t3⟩:=ZcF p.sound (e _ (Ve W)).1 (by grind);rw[<-V]at t1 t2 t3;have G:decide (((b+1+k:Nat):Int)<((rn n (i:Int)).2.2.2.2.2.2.2.1.length:Int))=true:=Ze (by show ((b+1+k:Nat):Int)<((Zw n i).length:Int);omega);have a8:Va .i64 (((b+1+k:Nat):Int)+1)=((b+1+(k+1):Nat):Int):=by rw[Zy (by omega) (by omega)];omega
  have a9:zN n (Zw n i) b (k+1+1)=zN n (Zw n i) b (k+1) ||| 2 ^ (Gn n (Zi n i (b+1+k)).1).2.1.toNat:=by
   show zN n (Zw n i) b (k+1) ||| zn n (Zw n i) (b+(k+1))=_;unfold zn
   grind
  have a3:KJ .i64 ((z ||| zN n (Zw n i) b (k+1):Nat):Int) ((2 ^ (Gn n (Zi n i (b+1+k)).1).2.1.toNat:Nat):Int)=((z ||| zN n (Zw n i) b (k+1+1):Nat):Int):=by have:z ||| zN n (Zw n i) b (k+1)<2 ^ 16:=Vrb (n:=16) (by omega) (by grind);rw[HG (by omega) (YW t3),a9,Vma]
  have a6:s.1=n:=u.net;have h:=ZtK s (by grind) i (b+1+k);rw[a6]at h
  have a4:GN n v (ZV n i b (b+1+k) a)=(v.1,(Zi n i (b+1+k)).2.1,((z ||| zN n (Zw n i) b (k+1+1):Nat):Int),((m ||| 2 ^ R.2.1.toNat:Nat):Int),v.2.2.2.2):=by
   unfold GN;rw[I,hz,Q]
   have ez:Hn n (ZV n i b (b+1+k) a)=zN n (Zw n i) b (k+1+1):=by unfold Hn;show zN n (Zw n i) (b:Int).toNat (((b+1+k:Nat):Int).toNat+1 - (b:Int).toNat)=_;rw[Vj,Vj];congr 1;omega
   rw[ez,HG (by omega) (by grind),HG (by omega) (YW j)];rfl
  simp only[G,Zc,RW W,Za];rw[show s.1.1=n.1 by grind];simp only[t1,Za,Ds t2 t3,a3,a8,ZhF _ (show l.2.2.2.2.2.1.length<=1000 by omega)]
  have y:∀o:Wa,(o,(v.1,(Zi n i (b+1+k)).2.1,((z ||| zN n (Zw n i) b (k+1+1):Nat):Int),((m ||| 2 ^ R.2.1.toNat:Nat):Int),v.2.2.2.2),((b+1+(k+1):Nat):Int))=((o,(v.1,(if k+1=0 then v.2.1 else(Zi n i (b+(k+1))).2.1),((z ||| zN n (Zw n i) b (k+1+1):Nat):Int),((m ||| 2 ^ R.2.1.toNat:Nat):Int),v.2.2.2.2),((b+1+(k+1):Nat):Int)):Wa×ZJ×Int):=by grind
  have B:HH n i (b+1+k)=true->∃d,F158 s (Xs n l i b (b+1+k) a v)=some d/\KZ F hF s [Xs n l i b (b+1+k) a v] [] d:=fun t=>by unfold Rl at w;rw[Zn t]at w;exact Zfo u (by assumption) w
  unfold Rl;by_cases t:HH n i (b+1+k)=true
  ·rw[Zn t];obtain⟨d,O,a2⟩:=B t;unfold Xs at O;rw[a4]at O
   cases C:(Zi n i (b+1+k)).2.2.2.2.1 with
   |true=>
    simp only[Vd,Zd];refine Xn (fun x=>x=d) ⟨d,O,rfl⟩ ?_
    grind
   |false=>
    have A:Zah n i (b+1+k)=true:=by unfold HH at t;grind
    rw[A]at h;simp only[Vt,Zc];refine Xn (fun x=>x=(s,true)) ⟨_,h,rfl⟩ ?_;rintro _ rfl;simp only[Vd,Zd];refine Xn (fun x=>x=d) ⟨d,O,rfl⟩ ?_
    grind
  ·rw[Zg t];unfold HH at t;rw[Bool.or_eq_true]at t
   have C:(Zi n i (b+1+k)).2.2.2.2.1=false:=by
    grind
   have A:Zah n i (b+1+k)=false:=by
    grind
   rw[A]at h;simp only[C,Vt,Zc];refine Xn (fun x=>x=(s,false)) ⟨_,h,rfl⟩ ?_;rintro _ rfl;simp only[Vt,Zc];exact⟨_,rfl,_,y s,KZ.nil s⟩
 case hend=>
  intro s M u;have:((b+1+((Zw n i).length - (b+1)):Nat):Int)=((Zw n i).length:Int):=by omega
  have G:decide (((b+1+((Zw n i).length - (b+1)):Nat):Int)<((rn n (i:Int)).2.2.2.2.2.2.2.1.length:Int))=false:=Zk (by rw[this];show¬((Zw n i).length:Int)<((Zw n i).length:Int);omega)
  grind
 simp
end Q
namespace Q
open Tr Go
theorem Zlg{F:Kc}(h:FO F){rs:List ZJ}(j:∀v∈rs,Yi v){i p:Nat}(g:i<rs.length):HJ F (KD F p) rs i=W4 F ((rs.take i).getLast?.map fun x=>x.2.1) (KD F p) rs[i].1:=by
 unfold HJ W4
 cases i with
 |zero=>simp
 |succ i=>
  have c:i<rs.length:=by omega
  have e:(rs.take (i+1)).getLast?=some rs[i]:=by rw[Vub,Vqa,Vta (by omega),Vsc,Zn (by omega),Vob,Vc c]
  rw[e,Vob,Kq c,Kq g];have l:=h.heads;have k:=Zm0 (a:=(rs[i]).2.1) (b:=(rs[i+1]).1) (d:=F.2.2.1) (j _ (Ve c)).2.2 (j _ (Ve g)).2.1 ⟨by omega,by omega⟩;rw[k];simp only[Vfc,KL];by_cases f:(rs[i+1]).1<=(rs[i]).2.1+F.2.2.1
  ·rw[Zn ⟨by omega,f⟩,Zn f]
   split<;>omega
  ·rw[Zg (fun h=>f h.2),Zg f]
theorem Zkn(o:Option Int){l:List Dm.Ride}(h:l≠ []):Dm.lastO o l=Dm.lastO none l:=by
 cases l with
 |nil=>exact absurd rfl h
 |cons r l=>rfl
theorem Zp3{F:Kc}(f:(Jq F).2=0){rs:List ZJ}(u:∀v∈rs,Yi v)(D:rs.length<=8){i:Nat}{s:Int}(x:Dv.Div (ZM F rs) i s):
 Dm.LS (Wv F (W1 f).fareOk) F.1.length (Dm.lastO none ((rs.take i).map Km)) ((rs.drop i).map Km) s:=by
 induction x with
 |nil=>
  have:(ZM F rs).n=rs.length:=rfl;rw[this,Vwc,List.map_nil]
  exact .nil _
 |cons m B C A x z=>
  rename_i i k p s;have o:k<rs.length:=B;have y:i<rs.length:=by omega
  have b:p<F.1.length:=C;have j:=Zf2 f (fun v h=>(u v h).1) (by omega) b m o;have a:(rs.drop i)=rs[i]::(rs.drop (i+1)):=Vm y
  have c:rs.drop i=rs[i]::((rs.drop (i+1)).take (k - i)++rs.drop (k+1)):=by rw[a];congr 1;have:=Vz (k - i) (rs.drop (i+1));rw[Ved,show i+1+(k - i)=k+1 by omega]at this;exact this.symm
  have e:(rs.drop i).take (k+1 - i)=rs[i]::(rs.drop (i+1)).take (k - i):=by rw[a,show k+1 - i=(k - i)+1 by omega,Vqc]
  have l:H7 (KD F p) (rs[i]::(rs.drop (i+1)).take (k - i))=true:=by
   have r:KD F p=F.1[p]:=by unfold KD;rw[Kq b]
   rw[<-e,r, <-j];exact A
  have g:=(Zdw (W1 f) b (fun v h=>u v (by rw[<-e]at h;exact Vga (Vpa h)))).1 l
  have d:rs.take (k+1)=rs.take i++rs[i]::(rs.drop (i+1)).take (k - i):=by have w:=Vz i (rs.take (k+1));rw[Vfd,Vta (by omega),Vgd,e]at w;exact w.symm
  rw[d,Vx,Dm.lastO_append,Vda,Zkn _ (by simp)]at z
  have t:(ZM F rs).pr p i=(Wv F (W1 f).fareOk).tp (Dm.lastO none ((rs.take i).map Km)) p (Km rs[i]).dep:=by rw[D3];exact Zlg (W1 f) u y
  rw[c,Vda,Vx,t];exact .cons b g z
theorem Zrz{F:Kc}(f:(Jq F).2=0){rs:List ZJ}(B:∀v∈rs,Yi v)(N:rs.length<=8){o:Option Int}{l:List Dm.Ride}{s:Int}(J:Dm.LS (Wv F (W1 f).fareOk) F.1.length o l s):
 ∀i,i<=rs.length->o=Dm.lastO none ((rs.take i).map Km)->l=(rs.drop i).map Km->Dv.Div (ZM F rs) i s:=by
 induction J with
 |nil o=>
  intro i I _ g;have:=congrArg Vh g;rw[Vl,Vyb,Vq]at this;have:i=(ZM F rs).n:=by show i=rs.length;omega
  subst this
  exact .nil
 |cons y G h K=>
  rename_i o r l c p s;intro i I t g;have d:=congrArg Vh g;rw[Vl,Vyb,Vka,Vk]at d;have m:i<rs.length:=by omega
  have b:(rs.drop i)=rs[i]::(rs.drop (i+1)):=Vm m;rw[b,Vda]at g;obtain⟨rfl,E⟩:=List.cons.inj g;obtain⟨a,M,C,rfl,rfl⟩:=Vya.1 E.symm;rw[Vl,Vl]at d
  have D:M=rs.drop (i+a.length+1):=by have:=congrArg (Vvc a.length) C;rw[Ved,List.drop_left]at this;rw[<-this];congr 1;omega
  have w:(rs.drop i).take (i+a.length+1 - i)=rs[i]::a:=by rw[b,C,show i+a.length+1 - i=a.length+1 by omega,Vqc,List.take_left]
  have e:rs.take (i+a.length+1)=rs.take i++rs[i]::a:=by have t:=Vz i (rs.take (i+a.length+1));rw[Vfd,Vta (by omega),Vgd,w]at t;exact t.symm
  have H:=K (i+a.length+1) (by omega) (by rw[e,Vx,Dm.lastO_append,Vda,Zkn (Dm.lastO none (Vqd Km (Vib i rs))) (by simp)]) (by rw[D])
  have A:(Wv F (W1 f).fareOk).tp o p (Km rs[i]).dep=(ZM F rs).pr p i:=by rw[t,D3];exact(Zlg (W1 f) B m).symm
  rw[A];refine .cons (k:=i+a.length) (by omega) (show i+a.length<rs.length by omega) y ?_ H;have x:=Zf2 f (fun v u=>(B v u).1) (by omega) (p:=p) (i:=i) (k:=i+a.length) (by omega) (by omega) (by omega)
  have j:=(Zdw (W1 f) y (r:=rs[i]) (l:=a) (fun v u=>B v (by rw[<-w]at u;exact Vga (Vpa u)))).2 G
  have z:KD F p=F.1[p]:=by unfold KD;rw[Kq y]
  rw[<-w,z]at j;exact x.trans j
theorem Zgz{n:Zf}(r:W6 n)(e:Ws n)(y:F120 n=some true)(q:Zr){L:List Zt}(A:L.length<=90)(z:∀x∈L,HU x){rs:List ZJ}(j:K2 n L false []=(rs,0))(u:∀v∈rs,Yi v)(p:rs.length<=8):
 (∃s t,Dm.Least (Dm.LS (Wv n.2.2.2.2.2.1 (W1 e.fare).fareOk) n.2.2.2.2.2.1.1.length none (rs.map Km)) s/\
   F78 n q (L,())=some ((((L[0]?).map fun x=>x.2.2.2.2.2.2.1).getD q.2.2.1,((L[L.length - 1]?).map fun x=>x.2.2.2.2.2.2.2.1).getD q.2.2.1,(rs.length:Int),Y8 n.2.2.2.2.2.1 s,K9 L,()),t,0))\/
 ((∀s,¬Dm.LS (Wv n.2.2.2.2.2.1 (W1 e.fare).fareOk) n.2.2.2.2.2.1.1.length none (rs.map Km) s)/\ ∃c,F78 n q (L,())=some (c,[],34)):=by
 have g:=W1 e.fare;have hF:=ZbV e.fare
 have d:F79 n (L,())=some (rs,0):=by
  rcases Zem n (L,()) r A with ⟨_,f⟩|⟨_,_,f⟩
  ·rw[y]at f;cases f
  ·rw[f,j]
 have D:=ZeO (L,()) (show L.length<=1000 by omega) z;have a:=Dv.tab_best (ZM n.2.2.2.2.2.1 rs) rs.length (Vea _) 0 (by show rs.length - rs.length<=0;omega) (Vbb _)
 have b:∀s,Dv.Div (ZM n.2.2.2.2.2.1 rs) 0 s↔Dm.LS (Wv n.2.2.2.2.2.1 g.fareOk) n.2.2.2.2.2.1.1.length none (rs.map Km) s:=fun s=>
  ⟨fun h=>Zp3 e.fare u p h,fun h=>Zrz e.fare u p h 0 (Vbb _) rfl rfl⟩
 unfold F78;rw[d];simp only[Za,decide_true,Vd,Zd];rcases ZjO e.fare (fun x E=>r.prods x E) rs (by omega) with ⟨f,_⟩|⟨_,B,k⟩|⟨_,s,t,m,k⟩
 ·omega
 ·right;rw[B]at a;rw[k];exact⟨fun s C=>a s ((b s).2 C),_,rfl⟩
 ·left;rw[m]at a;rw[k];refine⟨s,t,⟨(b s).1 a.1,fun w l=>a.2 w ((b w).2 l)⟩,?_⟩;simp only[Za,decide_true,Vd,Zd,D];by_cases o:0<L.length
  ·rw[Ze (show (0:Int)<(L.length:Int) by omega)];have el:Va .i64 ((L.length:Int) - 1)=((L.length - 1:Nat):Int):=by rw[Zy (by omega) (by omega)];omega
   have G:idx L (0:Int)=some L[0]:=ZC (i:=0) o;simp only[Zc,el,G,ZC (show L.length - 1<L.length by omega),Za];rw[Vc o,Vc (show L.length - 1<L.length by omega)];rfl
  ·rw[Zk (show¬(0:Int)<(L.length:Int) by omega)];have:L=[]:=List.eq_nil_of_length_eq_zero (by omega);subst this;rfl
end Q
namespace Q
open Tr Go
variable {F:Kc}{hF:FO F}{n:Zf}{q:Zr}
structure LV (F:Kc) (hF:FO F) (n:Zf) (q:Zr) (l:Zs):Prop where
 fare:XD F hF l
 len:l.2.2.2.2.2.1.length<=80
 rides:0<=l.2.2.1/\l.2.2.1<=q.2.2.2.2.1
 walk:0<=l.2.2.2.1/\l.2.2.2.1<=q.2.2.2.2.2.1
 time:0<=l.2.1/\l.2.1<=3155932800
 stop:0<=l.1.2.1/\l.1.2.1<(n.1.length:Int)
 kind:l.1.1=1->∃i c:Nat,l.1.2.2.1=(i:Int)/\l.1.2.2.2.1=(c:Int)/\i<n.2.2.1.length/\c<(Zw n i).length/\l.1.2.1=(Zi n i c).1/\l.2.1=(Zi n i c).2.1/\Yi l.1.2.2.2.2.1
 first:∀x,l.2.2.2.2.2.1=[x]->x.1=false->J5 x.2.2.2.2.2.2.1/\x.2.2.2.2.2.2.2.1=l.2.1
structure QI (q:Zr):Prop where
 rides:q.2.2.2.2.1<=7
 walk:q.2.2.2.2.2.1<=86400
def WT(L:List Zt)(d:Int):List Zt:=match L with
 |[x]=>if x.1=true then [x] else [(x.1,x.2.1,x.2.2.1,x.2.2.2.1,x.2.2.2.2.1,x.2.2.2.2.2.1,x.2.2.2.2.2.2.1+(d - x.2.2.2.2.2.2.2.1),d,x.2.2.2.2.2.2.2.2)]
 |L=>L
theorem Zit(L:List Zt)(d:Int):(WT L d).length=L.length:=by
 unfold WT
 grind
theorem ZbB{x:Zt}(h:x.1=true)(d:Int):WT [x] d=[x]:=by unfold WT;grind
theorem RB{x:Zt}(h:x.1=false)(d:Int):WT [x] d=[(x.1,x.2.1,x.2.2.1,x.2.2.2.1,x.2.2.2.2.1,x.2.2.2.2.2.1,x.2.2.2.2.2.2.1+(d - x.2.2.2.2.2.2.2.1),d,x.2.2.2.2.2.2.2.2)]:=by
 show (if x.1=true then [x] else _)=_
 grind
theorem Zc8{L:List Zt}(h:L.length≠1)(d:Int):WT L d=L:=by
 unfold WT
 grind
def Xa(n:Zf)(l:Zs)(i c:Nat):Zs:=(l.1,l.2.1,l.2.2.1+1,l.2.2.2.1,l.2.2.2.2.1,WT l.2.2.2.2.2.1 (Zi n i c).2.2.1,())
def Ra(d:Int):ZJ:=(d,0,0,0,())
def RJ(n:Zf)(q:Zr)(l:Zs)(i c:Nat):List Zs:=if l.2.2.1=q.2.2.2.2.1 then [] else Dx n (Xa n l i c) i c false (Ra (Zi n i c).2.2.1)
theorem ZkL(d:Int):Small (Ra d):=⟨⟨by show (0:Int)<=0;omega,by show (0:Int)<65536;omega⟩,⟨by show (0:Int)<=0;omega,by show (0:Int)<65536;omega⟩⟩
theorem ZoV(u:WW n)(w:QI q){st:Wa}{N:Nat}(m:Xi F hF n q st N){l:Zs}(f:LV F hF n q l){i c:Nat}(s:i<n.2.2.1.length)(r:c<(Zw n i).length)(o:N+(RJ n q l i c).length<=549755813888):
 ∃a,F159 st l (i:Int) (c:Int)=some a/\KZ F hF st (RJ n q l i c) [] a:=by
 obtain⟨D,E,st2⟩:=st;obtain rfl:n=D:=m.net.symm;obtain rfl:q=E:=m.que.symm;unfold F159;unfold RJ at o⊢;by_cases h:l.2.2.1=q.2.2.2.2.1
 ·rw[Zn h,Ze h];exact⟨_,rfl,KZ.nil _⟩
 ·rw[Zg h]at o;rw[Zg h,Zk h];have z:=f.rides;have y:=w.rides;have A:Va .i64 (l.2.2.1+1)=l.2.2.1+1:=Zy (by omega) (by omega);have J:=u.time s r;have d:idx n.2.2.1 (i:Int)=some (rn n (i:Int)):=RX s;have v:=f.len
  have p:(Xa n l i c).2.2.2.2.2.1.length<=999:=by show (WT _ _).length<=999;rw[Zit];omega
  obtain⟨a,k,I⟩:=Zms u m (l:=Xa n l i c) f.fare p s r false (ZkL (Zi n i c).2.2.1) o;simp only[Zd,d,Za,RW r,A];by_cases g:(l.2.2.2.2.2.1.length:Int)=1
  ·obtain⟨x,j⟩:=List.length_eq_one_iff.1 (show l.2.2.2.2.2.1.length=1 by omega);rw[Ze g];have B:idx l.2.2.2.2.2.1 (0:Int)=some x:=by rw[j];rfl
   simp only[Zc,B,Za]
   cases b:x.1 with
   |true=>
    simp only[Vd,Zd]
    refine Wl (fun t=>t=Xa n l i c) ⟨_,rfl,?_⟩ (by rintro _ rfl;exact Wl (fun x=>x=a) ⟨_,k,rfl⟩ (by grind))
    unfold Xa
    rw[j,ZbB b, <-j]
   |false=>
    obtain⟨C,K⟩:=f.first x j b
    have M:=f.time;have G:Va .i64 ((Zi n i c).2.2.1 - x.2.2.2.2.2.2.2.1)=(Zi n i c).2.2.1 - x.2.2.2.2.2.2.2.1:=Zy (by omega) (by omega)
    have H:Va .i64 (x.2.2.2.2.2.2.1+((Zi n i c).2.2.1 - x.2.2.2.2.2.2.2.1))=x.2.2.2.2.2.2.1+((Zi n i c).2.2.1 - x.2.2.2.2.2.2.2.1):=by unfold J5 at C;exact Zy (by omega) (by omega)
    simp only[Vt,Zc,G,H]
    refine Wl (fun t=>t=Xa n l i c) ⟨_,rfl,?_⟩ (by rintro _ rfl;exact Wl (fun x=>x=a) ⟨_,k,rfl⟩ (by grind))
    unfold Xa;rw[j,RB b,b]
  ·rw[Zk g]
   have e:(l.1,l.2.1,l.2.2.1+1,l.2.2.2)=Xa n l i c:=by unfold Xa;rw[Zc8 (by omega)]
   simp only[Zd,Za];rw[e];exact Wl (fun x=>x=a) ⟨_,k,rfl⟩ (by grind)
def GG(n:Zf)(l:Zs)(fr:Int)(i c:Nat):Prop:=YQ n i=false/\(Zi n i c).2.2.2.1=true/\(Zi n i c).1=l.1.2.1/\c+1≠(Zw n i).length/\(fr<=(Zi n i c).2.2.1\/(l.2.1<=(Zi n i c).2.2.1/\Gb n l i c=true))
instance (n:Zf) (l:Zs) (fr:Int) (i c:Nat):Decidable (GG n l fr i c):=by unfold GG;infer_instance
def Hy(n:Zf)(q:Zr)(l:Zs)(fr:Int)(i c:Nat):List Zs:=if GG n l fr i c then RJ n q l i c else []
def YP(n:Zf)(q:Zr)(l:Zs)(fr:Int):List Zs:=(Vp n.2.2.1.length).flatMap fun i=>(Vp (Zw n i).length).flatMap fun c=>Hy n q l fr i c
theorem ZgT{l:Zs}{fr:Int}{i c:Nat}{x:Zs} :x∈Hy n q l fr i c↔GG n l fr i c/\l.2.2.1≠q.2.2.2.2.1/\ ∃d,c<d/\d<(Zw n i).length/\HH n i d=true/\x=Xs n (Xa n l i c) i c d false (Ra (Zi n i c).2.2.1):=by
 unfold Hy RJ;by_cases a:GG n l fr i c
 ·rw[Zn a];by_cases b:l.2.2.1=q.2.2.2.2.1
  ·grind
  ·rw[Zg b,ZkI]
   grind
 grind
theorem Di{l:Zs}{fr:Int}{x:Zs} :x∈YP n q l fr↔∃i c d,i<n.2.2.1.length/\c<d/\d<(Zw n i).length/\GG n l fr i c/\l.2.2.1≠q.2.2.2.2.1/\HH n i d=true/\x=Xs n (Xa n l i c) i c d false (Ra (Zi n i c).2.2.1):=by
 unfold YP;rw[Vla];constructor
 ·rintro ⟨i,a,b⟩;obtain⟨c,m,b⟩:=Vla.1 b;rw[Vhd]at a m;obtain⟨e,f,d,g,h,j,k⟩:=ZgT.1 b
  grind
 ·rintro ⟨i,c,d,a,g,h,e,f,j,k⟩;exact⟨i,Vhd.2 a,Vla.2 ⟨c,by grind,ZgT.2 ⟨e,f,d,g,h,j,k⟩⟩⟩
theorem ZfF(v:WW n)(R:QI q){st:Wa}{N:Nat}(B:Xi F hF n q st N){l:Zs}(E:LV F hF n q l)(fr:Int)(Q:N+(YP n q l fr).length<=549755813888):
 ∃a,F160 st l fr=some a/\KZ F hF st (YP n q l fr) [] a:=by
 obtain⟨W,J,st2⟩:=st;obtain rfl:n=W:=B.net.symm;have y:=v.sound.runs
 have hlab:∀i c,∀x∈Hy n q l fr i c,XD F hF x:=fun i c x U=>by obtain⟨_,_,d,_,_,_,rfl⟩:=ZgT.1 U;exact E.fare
 unfold F160;refine Wl (fun r=>∃a,r=a/\KZ F hF (n,J,st2) (YP n q l fr) [] a) (Zcw (F:=F) (hF:=hF) (n:=n) (q:=q) (m:=n.2.2.1.length) (g:=fun i=>(Vp (Zw n i).length).flatMap fun c=>Hy n q l fr i c) (st:=(n,J,st2)) (fun k s=>(s,(k:Int))) (fun s=>s) B ?hlab Q ?hstep ?D) ?fin
 case hlab=>
  grind
 case hstep=>
  intro i s M w b e
  have S:(Zw n i).length<=32:=by have:=(v.sound.many _ (Ve w)).2;rw[Zay w];omega
  simp only[Ze (show (i:Int)<((n.2.2.1.length:Nat):Int) by omega),Zc,RX w,Za];refine Xn (fun r=>∃a,r=a/\KZ F hF s ((Vp (Zw n i).length).flatMap fun c=>Hy n q l fr i c) [] a) (Zcw (F:=F) (hF:=hF) (n:=n) (q:=q) (m:=(Zw n i).length) (g:=fun c=>Hy n q l fr i c) (st:=s) (fun k s=>(s,(k:Int))) (fun s=>s) b (by grind) e ?hstep2 ?hend2) ?fin2
  case hstep2=>
   intro c s M C b e;have o:decide ((c:Int)<((rn n (i:Int)).2.2.2.2.2.2.2.1.length:Int))=true:=Ze (by show (c:Int)<((Zw n i).length:Int);omega);have T:Va .i64 ((c:Int)+1)=((c+1:Nat):Int):=by rw[Zy (by omega) (by omega)];omega
   have p:s.1=n:=b.net;have j:=Ztm s (by rw[p];exact v.sound.links) l i c;rw[p]at j;have f:(rn n (i:Int)).2.2.2.2.2.2.1=YQ n i:=rfl;have G:((rn n (i:Int)).2.2.2.2.2.2.2.1.length:Int)=((Zw n i).length:Int):=rfl;simp only[o,Zc,RW C,Za,T,f];have skip:¬GG n l fr i c->∃a,(s,((c+1:Nat):Int))=((a,((c+1:Nat):Int)):Wa×Int)/\KZ F hF s (Hy n q l fr i c) [] a:=fun h=>⟨s,rfl,by unfold Hy;rw[Zg h];exact KZ.nil s⟩
   have brd:GG n l fr i c->∃a,F159 s l (i:Int) (c:Int)=some a/\KZ F hF s (Hy n q l fr i c) [] a:=fun h=>by unfold Hy at e⊢;rw[Zn h]at e;rw[Zn h];exact ZoV v R b E w C e
   cases H:YQ n i with
   |true=>exact⟨_,rfl,skip fun h=>by have:=h.1;grind⟩
   |false=>
   simp only[Zd]
   cases I:(Zi n i c).2.2.2.1 with
   |false=>exact⟨_,rfl,skip fun h=>by have:=h.2.1;grind⟩
   |true=>
   simp only[Vd,Zd];by_cases t:(Zi n i c).1=l.1.2.1
   case neg=>rw[Zk t];exact⟨_,rfl,skip fun h=>t h.2.2.1⟩
   rw[Ze t];simp only[Vd,Zd];by_cases z:c+1=(Zw n i).length
   ·rw[Ze (by omega)];exact⟨_,rfl,skip fun h=>h.2.2.2.1 z⟩
   rw[Zk (by omega)];simp only[Za,Zd];by_cases u:fr<=(Zi n i c).2.2.1
   ·rw[Ze u,Zc];obtain⟨a,K,O⟩:=brd ⟨H,I,t,z,.inl u⟩
    grind
   rw[Zk u,Zd];by_cases A:l.2.1<=(Zi n i c).2.2.1
   ·rw[Ze A,Zc];refine Xn (fun x=>x=(s,Gb n l i c)) ⟨_,j,rfl⟩ ?_;rintro _ rfl
    cases V:Gb n l i c with
    |true=>
     obtain⟨a,K,O⟩:=brd ⟨H,I,t,z,.inr ⟨A,V⟩⟩
     grind
    |false=>
     simp only[Zd];exact⟨_,rfl,skip fun h=>h.2.2.2.2.elim u (by grind)⟩
   ·rw[Zk A,Zd];exact⟨_,rfl,skip fun h=>h.2.2.2.2.elim u (by omega)⟩
  case hend2=>
   intro s M b;have o:decide (((Zw n i).length:Int)<((rn n (i:Int)).2.2.2.2.2.2.2.1.length:Int))=false:=Zk (by show¬((Zw n i).length:Int)<((Zw n i).length:Int);omega)
   grind
  case fin2=>
   rintro _ ⟨a,rfl,P⟩;exact⟨_,rfl,_,by rw[Zy (by omega) (by omega)];rfl,P⟩
 all_goals simp
def XK(l:Zs)(p:Kh):Zs:=((2,p.2.1,0,0,(0,0,0,0,()),()),l.2.1+p.2.2.1,l.2.2.1,l.2.2.2.1+p.2.2.1,l.2.2.2.2.1,l.2.2.2.2.2.1++[KI l.1.2.1 p.2.1 l.2.1 (l.2.1+p.2.2.1)],())
def DS(q:Zr)(l:Zs)(p:Kh):Prop:=p.1=l.1.2.1/\l.2.2.2.1+p.2.2.1<=q.2.2.2.2.2.1/\l.2.1+p.2.2.1<=3155932800
instance (q:Zr) (l:Zs) (p:Kh):Decidable (DS q l p):=by unfold DS;infer_instance
def Gs(q:Zr)(l:Zs)(p:Kh):List Zs:=if DS q l p then [XK l p] else []
def HR(n:Zf)(q:Zr)(l:Zs):List Zs:=n.2.2.2.2.1.flatMap (Gs q l)
theorem ZgW{l:Zs}{p:Kh}{x:Zs} :x∈Gs q l p↔DS q l p/\x=XK l p:=by unfold Gs;simp
theorem D8{l:Zs}{x:Zs} :x∈HR n q l↔∃p∈n.2.2.2.2.1,DS q l p/\x=XK l p:=by unfold HR;rw[Vla];exact⟨fun⟨p,a,b⟩=>⟨p,a,ZgW.1 b⟩,fun⟨p,a,b⟩=>⟨p,a,ZgW.2 b⟩⟩
theorem ZmQ(C:WW n)(D:QI q)(Q:n.2.2.2.2.1.length<=4096){st:Wa}{N:Nat}(t:Xi F hF n q st N){l:Zs}(e:LV F hF n q l)(o:N+(HR n q l).length<=549755813888):
 ∃a,F169 st l=some a/\KZ F hF st (HR n q l) [] a:=by
 obtain⟨I,A,st2⟩:=st;obtain rfl:n=I:=t.net.symm;unfold F169;unfold HR at o⊢;rw[Zgi]at o⊢;refine Wl (fun r=>∃a,r=a/\KZ F hF (n,A,st2) ((Vp n.2.2.2.2.1.length).flatMap fun i=>(n.2.2.2.2.1[i]?).elim [] (Gs q l)) [] a) (Zcw (F:=F) (hF:=hF) (n:=n) (q:=q) (m:=n.2.2.2.2.1.length) (g:=fun i=>(n.2.2.2.2.1[i]?).elim [] (Gs q l)) (st:=(n,A,st2)) (fun k s=>(s,(k:Int))) (fun s=>s) t ?hlab o ?hstep ?v) ?fin
 case hlab=>
  intro i d x f;rw[Vc d]at f;obtain⟨_,rfl⟩:=ZgW.1 f;exact e.fare
 case hstep=>
  intro i s M d c b;have f:idx n.2.2.2.2.1 (i:Int)=some n.2.2.2.2.1[i]:=ZC d;have G:=C.path _ (Ve d);rw[Vc d]at b⊢;generalize n.2.2.2.2.1[i]=p at*;have S:=e.walk;have R:=e.time;have E:=D.walk;have H:s.2.1=q:=c.que;have J:Va .i64 (l.2.2.2.1+p.2.2.1)=l.2.2.2.1+p.2.2.1:=Zy (by omega) (by omega);have K:Va .i64 (l.2.1+p.2.2.1)=l.2.1+p.2.2.1:=Zy (by omega) (by omega);have O:Va .i64 ((i:Int)+1)=((i+1:Nat):Int):=by rw[Zy (by omega) (by omega)];omega
  simp only[Ze (show (i:Int)<((n.2.2.2.2.1.length:Nat):Int) by omega),Zc,f,Za,J,K,O];rw[show s.2.1.2.2.2.2.2.1=q.2.2.2.2.2.1 by grind];have skip:¬DS q l p->∃a,(s,((i+1:Nat):Int))=((a,((i+1:Nat):Int)):Wa×Int)/\KZ F hF s (Gs q l p) [] a:=fun h=>⟨s,rfl,by unfold Gs;rw[Zg h];exact KZ.nil s⟩;by_cases j:p.1=l.1.2.1
  case neg=>rw[Zk j];exact⟨_,rfl,skip fun h=>j h.1⟩
  rw[Ze j];by_cases y:q.2.2.2.2.2.1<l.2.2.2.1+p.2.2.1
  ·rw[Ze y];exact⟨_,rfl,skip fun h=>by have:=h.2.1;omega⟩
  rw[Zk y];by_cases z:3155932800<l.2.1+p.2.2.1
  ·rw[Ze z];exact⟨_,rfl,skip fun h=>by have:=h.2.2;omega⟩
  rw[Zk z];have u:DS q l p:=⟨j,by omega,by omega⟩;unfold Gs at b⊢;simp only[Vxc]at b⊢;rw[Zn u]at b;rw[Zn u];obtain⟨a,B,P⟩:=Zfo c (show XD F hF (XK l p) from e.fare) b;have w:=e.len;simp only[Vd,Zd,Za,ZhF _ (show l.2.2.2.2.2.1.length<=1000 by omega)];refine Xn (fun x=>x=a) ⟨_,B,rfl⟩ ?_
  grind
 all_goals simp
def G6(n:Zf)(l:Zs)(k:Yd):Prop:=k.2.2.2.2.1=true/\k.1=l.1.2.2.1/\k.2.1=l.1.2.2.2.1/\YQ n k.2.2.1.toNat=false/\l.2.1<=(Zi n k.2.2.1.toNat 0).2.2.1
instance (n:Zf) (l:Zs) (k:Yd):Decidable (G6 n l k):=by unfold G6;infer_instance
def Hm(n:Zf)(l:Zs)(k:Yd):List Zs:=if G6 n l k then Dx n l k.2.2.1.toNat 0 true l.1.2.2.2.2.1 else []
def HL(n:Zf)(l:Zs):List Zs:=n.2.2.2.1.flatMap (Hm n l)
theorem ZgV{l:Zs}{k:Yd}{x:Zs} :x∈Hm n l k↔G6 n l k/\ ∃d,0<d/\d<(Zw n k.2.2.1.toNat).length/\HH n k.2.2.1.toNat d=true/\x=Xs n l k.2.2.1.toNat 0 d true l.1.2.2.2.2.1:=by
 unfold Hm;by_cases h:G6 n l k
 ·rw[Zn h,ZkI];grind
 grind
theorem ZaU{l:Zs}{x:Zs} :x∈HL n l↔∃k∈n.2.2.2.1,G6 n l k/\ ∃d,0<d/\d<(Zw n k.2.2.1.toNat).length/\HH n k.2.2.1.toNat d=true/\x=Xs n l k.2.2.1.toNat 0 d true l.1.2.2.2.2.1:=by unfold HL;rw[Vla];exact⟨fun⟨p,a,b⟩=>⟨p,a,ZgV.1 b⟩,fun⟨p,a,b⟩=>⟨p,a,ZgV.2 b⟩⟩
theorem ZtH(D:WW n){st:Wa}{N:Nat}(H:Xi F hF n q st N){l:Zs}(w:LV F hF n q l)(R:l.1.1=1)(C:N+(HL n l).length<=549755813888):
 ∃b,F165 st l=some b/\KZ F hF st (HL n l) [] b:=by
 obtain⟨T,P,st2⟩:=st;obtain rfl:n=T:=H.net.symm;obtain⟨_,_,_,_,_,_,_,_,v⟩:=w.kind R;have y:=D.sound.links;unfold F165;unfold HL at C⊢;rw[Zgi]at C⊢;refine Wl (fun r=>∃b,r=b/\KZ F hF (n,P,st2) ((Vp n.2.2.2.1.length).flatMap fun i=>(n.2.2.2.1[i]?).elim [] (Hm n l)) [] b) (Zcw (F:=F) (hF:=hF) (n:=n) (q:=q) (m:=n.2.2.2.1.length) (g:=fun i=>(n.2.2.2.1[i]?).elim [] (Hm n l)) (st:=(n,P,st2)) (fun k s=>(s,(k:Int))) (fun s=>s) H ?hlab C ?hstep ?I) ?fin
 case hlab=>
  intro i t x z;rw[Vc t]at z;obtain⟨_,d,_,_,_,rfl⟩:=ZgV.1 z;exact w.fare
 case hstep=>
  intro i s M t o e;have z:idx n.2.2.2.1 (i:Int)=some n.2.2.2.1[i]:=ZC t;obtain⟨a,c,j,d,G,Q,X,J,_,Y,Z,_,_⟩:=D.link _ (Ve t);rw[Vc t]at e⊢;generalize n.2.2.2.1[i]=k at*;subst Q;have S:s.1=n:=o.net;have U:Va .i64 ((i:Int)+1)=((i+1:Nat):Int):=by rw[Zy (by omega) (by omega)];omega
  simp only[Ze (show (i:Int)<((n.2.2.2.1.length:Nat):Int) by omega),Zc,z,Za,U];have skip:¬G6 n l ((a:Int),(c:Int),(j:Int),(d:Int),G,())->∃b,(s,((i+1:Nat):Int))=((b,((i+1:Nat):Int)):Wa×Int)/\KZ F hF s (Hm n l ((a:Int),(c:Int),(j:Int),(d:Int),G,())) [] b:=fun h=>⟨s,rfl,by unfold Hm;rw[Zg h];exact KZ.nil s⟩
  cases G with
  |false=>exact⟨_,rfl,skip fun h=>by cases h.1⟩
  |true=>
  simp only[Vd,Zd];by_cases A:(a:Int)=l.1.2.2.1
  case neg=>rw[Zk A];exact⟨_,rfl,skip fun h=>A h.2.1⟩
  rw[Ze A];by_cases B:(c:Int)=l.1.2.2.2.1
  case neg=>rw[Zk B];exact⟨_,rfl,skip fun h=>B h.2.2.1⟩
  rw[Ze B];simp only[Vd,Zd,Za];rw[show s.1.2.2.1=n.2.2.1 by grind];have u:0<(Zw n j).length:=by omega
  have E:idx (rn n (j:Int)).2.2.2.2.2.2.2.1 (0:Int)=some (Zi n j 0):=RW u;simp only[RX J,Za,E];have f:(rn n (j:Int)).2.2.2.2.2.2.1=YQ n j:=rfl;rw[f]
  cases k3:YQ n j with
  |true=>exact⟨_,rfl,skip fun h=>by
    have:=h.2.2.2.1
    grind⟩
  |false=>
  simp only[Vt,Zc,Za];by_cases O:l.2.1<=(Zi n j 0).2.2.1
  case neg=>rw[Zk O];exact⟨_,rfl,skip fun h=>by
             have:=h.2.2.2.2
             grind⟩
  rw[Ze O];have p:G6 n l ((a:Int),(c:Int),(j:Int),(d:Int),true,()):=⟨rfl,A,B,by grind,by grind⟩;unfold Hm at e⊢;simp only[Vxc]at e⊢;rw[Zn p]at e;rw[Zn p];simp only[Vj]at e⊢;have K:=w.len;obtain⟨b,V,W⟩:=Zms D o w.fare (by omega) J u true v.1 e
  grind
 all_goals simp
end Q
namespace Q
open Tr Go
variable {F:Kc}{hF:FO F}{n:Zf}{q:Zr}
noncomputable def Za0(n:Zf)(q:Zr)(l:Zs):List Kx:=match F78 n q (l.2.2.2.2.2.1,()) with
 |some (c,t,e)=>if e=0 then [((l.2.2.2.2.2.1,()),c,t,())] else []
 |none=>[]
theorem Zcm{l:Zs}{c:YD}{t:List (Int×Int×Int×Int×Unit)}{e:Int}(h:F78 n q (l.2.2.2.2.2.1,())=some (c,t,e)):Za0 n q l=if e=0 then [((l.2.2.2.2.2.1,()),c,t,())] else []:=by unfold Za0;rw[h]
theorem Zqt{st:Wa}{N:Nat}(h:Xi F hF n q st N){l:Zs}(u:l.2.2.2.2.2.1.length<=1000)(m:∃r,F78 n q (l.2.2.2.2.2.1,())=some r)(j:st.2.2.2.2.1.length+1<=549755813888):
 ∃a,F162 st l=some a/\KZ F hF st [] (Za0 n q l) a:=by
 obtain⟨y,z,w,x,g,⟨⟩⟩:=st;obtain rfl:n=y:=h.net.symm;obtain rfl:q=z:=h.que.symm;obtain⟨⟨c,t,e⟩,i⟩:=m;unfold F162
 have d:sliceB (l.2.2.2.2.2.1++[g0]).length (l.2.2.2.2.2.1++[g0]).length none (some (l.2.2.2.2.2.1.length:Int))=some (0,l.2.2.2.2.2.1.length):=by unfold sliceB;simp only[Za,Vk,Vka,Vq];rw[Zn ⟨by omega,by omega⟩,Vj];rfl
 have v:F170 l.2.2.2.2.2.1 (false,0,0,0,0,0,0,0,false,())=some (l.2.2.2.2.2.1++[g0]):=ZhF _ u;have f:Vib (l.2.2.2.2.2.1.length - 0) (Vvc 0 (l.2.2.2.2.2.1++[g0]))=l.2.2.2.2.2.1:=by simp
 have k:g.length+1<=549755813888:=j
 have s:ZE (decide (g.length+ [((l.2.2.2.2.2.1,()),c,t,())].length<=Zz))=some ():=by rw[Ze (by simp [Zz];omega)];rfl
 simp only[v,Za,d,f,i];rw[Zcm i];by_cases b:e=0
 ·subst b;simp only[decide_true,Zc,if_true];refine⟨(n,q,w,x,g++[((l.2.2.2.2.2.1,()),c,t,())],()),?_,[],by simp,by simp,.refl _,⟨rfl,rfl,rfl⟩,fun p o=>by simp [Jt],fun p=>by simp [Jt],by simp,by simp⟩;refine KM (fun _=>True) ⟨(),s,trivial⟩ fun _ _=>rfl
 ·rw[Zk b,Zg b];exact⟨_,rfl,KZ.nil _⟩
noncomputable def Rh(s:JP)(r:ZJ):JP:=((F21 s r).getD ([],1)).1
noncomputable def XM(l:Zs):Zs:=(l.1,l.2.1,l.2.2.1,l.2.2.2.1,Rh l.2.2.2.2.1 l.1.2.2.2.2.1,l.2.2.2.2.2.1,())
def Xm(n:Zf)(l:Zs):Bool:=(Zi n l.1.2.2.1.toNat l.1.2.2.2.1.toNat).2.2.2.2.1
def XJ(n:Zf)(s:Int):Int:=(Wg n s).2.2.2.1
noncomputable def JK(n:Zf)(q:Zr)(l:Zs):List Zs:=
 if l.1.1=1 then HL n l++(if Xm n l=true then YP n q (XM l) (l.2.1+XJ n l.1.2.1)++HR n q (XM l) else [])
 else if l.1.1=2 then YP n q l l.2.1
 else YP n q l (l.2.1+(if q.2.2.2.2.2.2.2.2.2.1=true then XJ n l.1.2.1 else 0))++HR n q l
def Xp(n:Zf)(q:Zr)(l:Zs):Prop:=(l.1.1=1->Xm n l=true)/\l.1.2.1=q.2.1
instance (n:Zf) (q:Zr) (l:Zs):Decidable (Xp n q l):=by unfold Xp;infer_instance
noncomputable def Jx(n:Zf)(q:Zr)(l:Zs):List Kx:=if Xp n q l then Za0 n q l else []
theorem Zct{l:Zs}(c:LV F hF n q l)(i:l.1.1=1)(h:(Wm l.2.2.2.2.1).length+1<=8):F21 l.2.2.2.2.1 l.1.2.2.2.2.1=some (Rh l.2.2.2.2.1 l.1.2.2.2.2.1,0)/\HY F hF (Wm l.2.2.2.2.1++[l.1.2.2.2.2.1]) (Rh l.2.2.2.2.1 l.1.2.2.2.2.1)/\ ∀v∈Wm l.2.2.2.2.1++[l.1.2.2.2.2.1],Yi v:=by
 obtain⟨_,_,_,_,_,_,_,_,a⟩:=c.kind i
 have f:∀v∈Wm l.2.2.2.2.1++[l.1.2.2.2.2.1],Yi v:=fun v b=>by
  rw[Vaa,Vr]at b;rcases b with b|rfl
  ·exact c.fare.2 v b
  ·exact a
 obtain⟨j,d,g⟩:=ZtE hF c.fare.1 f h;have e:Rh l.2.2.2.2.1 l.1.2.2.2.2.1=j:=by unfold Rh;rw[d];rfl
 rw[e];exact⟨d,g,f⟩
theorem LV.next{l:Zs}(a:LV F hF n q l)(f:l.1.1=1)(d:(Wm l.2.2.2.2.1).length+1<=8):LV F hF n q (XM l):=by
 obtain⟨g,b,c⟩:=Zct a f d;have e:=Zel b
 refine⟨⟨?_,?_⟩,a.len,a.rides,a.walk,a.time,a.stop,a.kind,a.first⟩
 ·show HY F hF (Wm (Rh _ _)) (Rh _ _);rw[e];exact b
 ·show∀v∈Wm (Rh _ _),Yi v;rw[e];exact c
theorem Zue(A:WW n)(P:QI q)(hp:n.2.2.2.2.1.length<=4096){st:Wa}{N:Nat}(s:Xi F hF n q st N){l:Zs}(e:LV F hF n q l)(Q:l.1.1=1->(Wm l.2.2.2.2.1).length+1<=8)(a:∀x∈JK n q l,XD F hF x)
 (hc:∃r,F78 n q (l.2.2.2.2.2.1,())=some r) (t:N+(JK n q l).length<=549755813888) (O:st.2.2.2.2.1.length+1<=549755813888):
 ∃b,F168 st l=some b/\KZ F hF st (JK n q l) (Jx n q l) b:=by
 obtain⟨sn,sq,st2⟩:=st;obtain rfl:n=sn:=s.net.symm;obtain rfl:q=sq:=s.que.symm;have a8:=e.len;have a7:=A.change _ e.stop.1 e.stop.2;have a9:=e.time
 have m:idx n.1 l.1.2.1=some (Wg n l.1.2.1):=by
  have hi:ZU l.1.2.1 n.1.length=true:=by unfold ZU;rw[Ze e.stop.1,Ze e.stop.2];rfl
  exact WI hi s0
 have T:Va .i64 (l.2.1+(Wg n l.1.2.1).2.2.2.1)=l.2.1+XJ n l.1.2.1:=Zy (by omega) (by omega)
 have fin:∀(st:Wa) (M:Nat),Xi F hF n q st M->st.2.2.2.2.1.length+1<=549755813888->(l.1.1=1->Xm n l=true)->
  ∃b,(bif decide (l.1.2.1=st.2.1.2.1) then Vb (F162 (st.1,st.2.1,st.2.2.1,((),st.2.2.2.1.2.1,st.2.2.2.1.2.2.1,()),st.2.2.2.2.1,()) l) fun G=>some (G.1,G.2.1,G.2.2.1,((),G.2.2.2.1.2.1,G.2.2.2.1.2.2.1,()),G.2.2.2.2.1,())
   else some (st.1,st.2.1,st.2.2.1,((),st.2.2.2.1.2.1,st.2.2.2.1.2.2.1,()),st.2.2.2.2.1,()))=some b/\KZ F hF st [] (Jx n q l) b:=fun st M J O j=>by
  have S:st.2.1=q:=J.que;unfold Jx;by_cases W:l.1.2.1=q.2.1
  ·rw[Zn ⟨j,W⟩,Ze (show l.1.2.1=st.2.1.2.1 by rw[S];exact W),Zc];obtain⟨b,h1,h2⟩:=Zqt J (show l.2.2.2.2.2.1.length<=1000 by omega) hc O;exact Wl (fun x=>x=b) ⟨_,h1,rfl⟩ fun x D=>⟨_,rfl,by subst D;exact h2⟩
  ·rw[Zg (fun h=>W h.2),Zk (show¬l.1.2.1=st.2.1.2.1 by rw[S];exact W)];exact⟨_,rfl,KZ.nil _⟩
 unfold F168;unfold JK at t a⊢;by_cases f:l.1.1=1
 ·rw[Zn f]at t a⊢;rw[Ze f,Zc];rw[Vk]at t;obtain⟨i,c,e1,e2,hi,a0,_⟩:=e.kind f;obtain⟨E,a1,V⟩:=ZtH A s e f (by omega);have y:=s.adds (fun x D=>a x (Vhb _ D)) V;have a6:E.1=n:=y.net
  have a4:E.2.2.2.2.1.length+1<=549755813888:=by obtain⟨_,_,_,_,⟨_,_,h3⟩,_⟩:=V;rw[h3,Vw];exact O
  have B:idx E.1.2.2.1 l.1.2.2.1=some (rn n (i:Int)):=by rw[a6,e1];exact RX hi
  have o:idx (rn n (i:Int)).2.2.2.2.2.2.2.1 l.1.2.2.2.1=some (Zi n i c):=by rw[e2];exact RW a0
  have j:Xm n l=(Zi n i c).2.2.2.2.1:=by unfold Xm;rw[e1,e2,Vj,Vj]
  refine Wl (fun x=>∃b,x=b/\KZ F hF (n,q,st2) (HL n l++(if Xm n l=true then YP n q (XM l) (l.2.1+XJ n l.1.2.1)++HR n q (XM l) else [])) (Jx n q l) b) ?_ (by rintro _ ⟨b,rfl,h⟩;exact⟨_,rfl,h⟩)
  unfold F161;refine Wl (fun x=>x=E) ⟨_,a1,rfl⟩ ?_;rintro E rfl;simp only[B,o,Za]
  cases u:Xm n l with
  |false=>
   rw[j]at u;rw[u]
   have a3:Jx n q l=[]:=by unfold Jx;rw[Zg];intro h;have:=h.1 f;rw[j,u]at this;cases this
   rw[a3];simp only[Vt,Zc,Vnb,if_false,Vw]
   exact⟨_,rfl,_,rfl,V⟩
  |true=>
   rw[u,Zn rfl,Vk]at t;rw[u,Zn rfl]at a;obtain⟨g,H,p⟩:=fin E _ y a4 (fun _=>u);rw[j]at u;rw[u];simp only[Vd,Zd];have d:=y.adds (by simp) p;have C:g.1=n:=d.net;obtain⟨c1,c2,c3⟩:=Zct e f (Q f)
   have R:=e.next f (Q f)
   have K:∀x∈YP n q (XM l) (l.2.1+XJ n l.1.2.1),XD F hF x:=fun x D=>a x (List.mem_append_right _ (Vhb _ D));obtain⟨v,I,w⟩:=ZfF A P d R (l.2.1+XJ n l.1.2.1) (by simp only[Vq];omega);have z:=d.adds K w;obtain⟨U,Y,Z⟩:=ZmQ A P hp z R (by simp only[Vq];omega);refine Wl (fun x=>x=g) ⟨_,H,rfl⟩ ?_;rintro g rfl;have k:idx g.1.1 l.1.2.1=some (Wg n l.1.2.1):=by rw[C];exact m
   simp only[c1,Za,decide_true,Vd,Zd,k,T];refine Wl (fun x=>x=v) ⟨_,I,rfl⟩ ?_;rintro v rfl;refine Wl (fun x=>x=U) ⟨_,Y,rfl⟩ ?_;rintro U rfl;refine⟨_,rfl,_,rfl,?_⟩;have:=(V.trans p).trans (w.trans Z);simpa using this
 ·rw[Zg f]at t a⊢;rw[Zk f,Zd];by_cases X:l.1.1=2
  ·rw[Zn X]at t a⊢;rw[Ze X,Zc];obtain⟨g,H,p⟩:=fin (n,q,st2) N s O (fun h=>absurd h f);have d:=s.adds (by simp) p;obtain⟨v,I,w⟩:=ZfF A P d e l.2.1 (by simp only[Vq];omega);refine Wl (fun x=>x=g) ⟨_,H,rfl⟩ ?_;rintro g rfl;refine Wl (fun x=>x=v) ⟨_,I,rfl⟩ ?_;rintro v rfl;refine⟨_,rfl,?_⟩;have:=p.trans w;simpa using this
  ·rw[Zg X]at t a⊢;rw[Zk X,Zd];rw[Vk]at t;obtain⟨g,H,p⟩:=fin (n,q,st2) N s O (fun h=>absurd h f);have d:=s.adds (by simp) p;have C:g.1=n:=d.net;have a5:g.2.1=q:=d.que;have k:idx g.1.1 l.1.2.1=some (Wg n l.1.2.1):=by rw[C];exact m
   obtain⟨v,I,w⟩:=ZfF A P d e (l.2.1+(if q.2.2.2.2.2.2.2.2.2.1=true then XJ n l.1.2.1 else 0)) (by simp only[Vq];omega)
   have z:=d.adds (fun x D=>a x (Vhb _ D)) w;obtain⟨U,Y,Z⟩:=ZmQ A P hp z e (by simp only[Vq];omega);refine Wl (fun x=>x=g) ⟨_,H,rfl⟩ ?_;rintro g rfl
   refine Wl (fun x=>x=l.2.1+(if q.2.2.2.2.2.2.2.2.2.1=true then XJ n l.1.2.1 else 0)) ?_ ?_
   ·rw[a5]
    cases q.2.2.2.2.2.2.2.2.2.1 with
    |true=>simp only[Zc,k,Za,T,if_true];exact⟨_,rfl,rfl⟩
    |false=>exact⟨_,rfl,by simp⟩
   ·rintro _ rfl;refine Wl (fun x=>x=v) ⟨_,I,rfl⟩ ?_;rintro v rfl;refine Wl (fun x=>x=U) ⟨_,Y,rfl⟩ ?_;rintro U rfl;refine⟨_,rfl,?_⟩;have:=p.trans (w.trans Z);simpa using this
end Q
