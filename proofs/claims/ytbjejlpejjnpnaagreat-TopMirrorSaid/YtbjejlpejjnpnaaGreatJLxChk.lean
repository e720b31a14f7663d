/- Feasible journeys, and what feasible.Check answers for a walk alone. Conditions: a valid and small network, a valid query. -/
import Derived.Test.YtbjejlpejjnpnaaGreatJLxFilttop
import Derived.Test.YtbjejlpejjnpnaaGreatFintopd
import Derived.Test.YtbjejlpejjnpnaaGreatJLwJa28top
open Bool renaming not_true ->Vl,not_false ->Vx,and_eq_true ->Vaa,true_and ->Vca,and_eq_false_iff ->Veb,not_eq_false' ->Vib,not_eq_true' ->Vmb,and_false ->Vyb,or_eq_false_iff ->Vbc,false_or ->Vfc,and_self ->Vgc
open Int renaming toNat_natCast ->Vq,toNat ->Vwa,le_refl ->Vjb,lt_irrefl ->Vnb,fdiv ->Vsb,neg_neg ->Vtc
open Go.IntKind renaming wrap ->Vb
open List renaming getElem?_eq_getElem ->Va,length_append ->Vc,take_succ_eq_append_getElem ->Vd,eq_nil_of_length_eq_zero ->Ve,length_map ->Vf,mem_map ->Vg,getElem_of_mem ->Vh,getElem_mem ->Vi,mem_singleton ->Vj,pairwise_append ->Vm,getElem?_append_right ->Vn,getElem?_append_left ->Vo,pairwise_iff_getElem ->Vp,drop_eq_getElem_cons ->Vr,append_assoc ->Vs,length_reverse ->Vt,mem_append ->Vu,take_append_drop ->Vv,take_length ->Vw,length ->Vy,mem_cons ->Vz,append_nil ->Vba,length_cons ->Vda,length_drop ->Vea,map_map ->Vfa,nil_append ->Vga,map_append ->Vha,pairwise_map ->Via,replicate ->Vja,length_take ->Vka,mem_filter ->Vla,length_eq_one_iff ->Vma,take_of_length_le ->Vna,take_append_of_le_length ->Voa,getElem?_map ->Vsa,mem_of_getElem? ->Vta,range ->Vva,length_nil ->Vxa,pairwise_cons ->Vya,mem_append_right ->Vbb,map_reverse ->Vcb,perm_middle ->Vdb,getElem_reverse ->Vfb,sum_append ->Vgb,drop_append_of_le_length ->Vhb,perm_ext_iff_of_nodup ->Vlb,getElem?_eq_some_iff ->Vob,drop_of_length_le ->Vtb,drop ->Vub,eq_nil_or_concat ->Vvb,drop_drop ->Vxb,drop_zero ->Vzb,mem_cons_of_mem ->Vac,length_pos_iff ->Vcc,map_cons ->Vdc,sum_cons ->Vec,filter_append ->Vic,take ->Vmc,reverse_cons ->Vnc,getElem_take ->Voc,getElem_drop ->Vpc,any_eq_true ->Vqc,ext_getElem ->Vrc,getElem_map ->Vsc,head?_drop ->Vuc,mem_range ->Vwc,map_nil ->Vyc,sum_nil ->Vzc
open Nat renaming le_refl ->Vqa,eq_zero_or_pos ->Vza,lt_or_ge ->Vab,mul_one ->Vkb,lt_trichotomy ->Vpb,add_sub_cancel_left ->Vrb,mul_add ->Vwb,mul_le_mul_left ->Vhc,add_zero ->Vjc,mul_zero ->Vlc
open Option renaming bind ->Vpa,getD_some ->Vua,isNone_iff_eq_none ->Vqb,map_some ->Vvc
open Prod renaming ext ->Vk
open Prod.mk renaming inj ->Vra,injEq ->Vxc
open Sum renaming elim_inl ->Vkc
namespace Q
open Tr Go
variable {n:Zh}{q:Zt}{L:List Zv}{i:Nat}
theorem ZaJ(a:i<L.length):F38 (n,q,L,(i:Int),())=some (lg L i):=by unfold F38;show Vpa (idx L (i:Int)) _=_;rw[ZkH a];rfl
def ZcA(n:Zh)(x:Zv):Bool:= !Kh x.2.2.2.2.1 n.1.length|| !Kh x.2.2.2.2.2.1 n.1.length
def Zev(n:Zh)(x:Zv):Bool:=bif x.1 then !KL n x else !decide (x.2.1=0) || (!decide (x.2.2.1=0) || (!decide (x.2.2.2.1=0) ||Kv x))
def Zct(x:Zv):Bool:= !decide (0<=x.2.2.2.2.2.2.1/\x.2.2.2.2.2.2.1<=3155932800) || !decide (0<=x.2.2.2.2.2.2.2.1/\x.2.2.2.2.2.2.2.1<=3155932800)
theorem ZrA(n:Zh)(q:Zt)(x:Zv):WN n q x=bif ZcA n x then 9 else bif Zev n x then 9 else bif Zct x then 10 else bif x.1 then GL n q x else Yo n q x:=rfl
theorem ZpH(d:Js n)(j:i<L.length):F45 (n,q,L,(i:Int),())=some (bif ZcA n (lg L i) then 9 else bif Zev n (lg L i) then 9 else 0):=by
 have k:n.1.length<=9223372036854775807:=by have:=d.stops;omega
 have b:n.2.2.1.length<=9223372036854775807:=by have:=d.runs;omega
 unfold F45;rw[ZaJ j];generalize lg L i=x;simp only[Za,Znj _ k,Znj _ b]
 refine Zdo (c:=ZcA n x) (by unfold ZcA;cases Kh x.2.2.2.2.1 n.1.length<;>rfl) fun o=>?_
 unfold Zev
 cases p:x.1 with
 |false=>
  simp only[Vx,Zc,Ze];refine Zdo (c:= !decide (x.2.1=0) || (!decide (x.2.2.1=0) || (!decide (x.2.2.2.1=0) ||Kv x))) ?_ fun _=>rfl;unfold Kv
  cases decide (x.2.1=0)<;>cases decide (x.2.2.1=0)<;>cases decide (x.2.2.2.1=0)<;>rfl
 |true=>
  simp only[Vl,Zc,Ze,Za];refine Zdo (c:= !KL n x) ?_ fun _=>rfl;unfold KL
  cases l:Kh x.2.1 n.2.2.1.length with
  |false=>rfl
  |true=>
   have a:idx n.2.2.1 x.2.1=some (rn n x.2.1):=J9 l u0;simp only[Vl,Ze,a,Za,Vca]
   have e:decide (x.2.2.1<0)= !decide (0<=x.2.2.1):=by
    by_cases h:0<=x.2.2.1
    ·rw[Zd h,Zk (by omega)];rfl
    ·rw[Zk h,Zd (by omega)];rfl
   have f:decide (x.2.2.2.1<=x.2.2.1)= !decide (x.2.2.1<x.2.2.2.1):=by
    by_cases h:x.2.2.1<x.2.2.2.1
    ·rw[Zd h,Zk (by omega)];rfl
    ·rw[Zk h,Zd (by omega)];rfl
   have g:decide (((rn n x.2.1).2.2.2.2.2.2.2.1.length:Int)<=x.2.2.2.1)= !decide (x.2.2.2.1<((Wl n x).length:Int)):=by
    show decide (((Wl n x).length:Int)<=x.2.2.2.1)=_;by_cases h:x.2.2.2.1<((Wl n x).length:Int)
    ·rw[Zd h,Zk (by omega)];rfl
    ·rw[Zk h,Zd (by omega)];rfl
   rw[e,f,g]
   cases decide (0<=x.2.2.1)<;>cases decide (x.2.2.1<x.2.2.2.1)<;>rfl
theorem ZpE(a:i<L.length):F40 (n,q,L,(i:Int),())=some (bif Zct (lg L i) then 10 else 0):=by
 unfold F40;rw[ZaJ a];simp only[Za,Zni];refine Zdo (c:=Zct (lg L i)) ?_ fun _=>rfl;unfold Zct
 cases decide (0<=(lg L i).2.2.2.2.2.2.1/\(lg L i).2.2.2.2.2.2.1<=3155932800)<;>rfl
theorem ZpJ(g:n.2.2.2.2.1.length<=4096)(a:i<L.length):F47 (n,q,L,(i:Int),())=some (bif (lg L i).1 then 0 else Yo n q (lg L i)):=by
 unfold F47;rw[ZaJ a];generalize lg L i=x;simp only[Za]
 cases h:x.1 with
 |true=>rfl
 |false=>
 simp only[Ze];refine KF (fun r:Int ⊕ Int=>Sum.elim id id r=Yo n q x) ?_ ?_
 ·refine Kq n.2.2.2.2.1.length _ (fun i (s:Int×Int)=>s=((bif (n.2.2.2.2.1.take i).any (He x) then 29 else 18),(i:Int))/\((n.2.2.2.2.1.take i).any fun p=>He x p&&Ha q p)=false) ?_ ?_ _ ⟨rfl,rfl⟩
  ·rintro i _ a ⟨rfl,ha⟩;simp only[ZU a,Zc,ZH a,Za,Z8 a (show _<=9223372036854775807 by omega)]
   have d:(bif decide ((n.2.2.2.2.1[i]).1=x.2.2.2.2.1) then bif decide ((n.2.2.2.2.1[i]).2.1=x.2.2.2.2.2.1) then some (decide ((n.2.2.2.2.1[i]).2.2.1=Vb .i64 (x.2.2.2.2.2.2.2.1 - x.2.2.2.2.2.2.1))) else some false else some false)=some (He x n.2.2.2.2.1[i]):=by
    unfold He
    cases decide ((n.2.2.2.2.1[i]).1=x.2.2.2.2.1)<;>cases decide ((n.2.2.2.2.1[i]).2.1=x.2.2.2.2.2.1)<;>rfl
   have e:(bif (n.2.2.2.2.1[i]).2.2.2.1 then some true else some !q.2.2.2.2.2.2.1)=some (Ha q n.2.2.2.2.1[i]):=by
    unfold Ha
    cases (n.2.2.2.2.1[i]).2.2.2.1<;>rfl
   rw[d,e];simp only[Za]
   cases hm:He x n.2.2.2.2.1[i] with
   |false=>
    left;refine⟨_,rfl,?_,?_⟩
    ·rw[Zaz a,hm,Bool.or_false]
    ·rw[Zaz a,ha,hm];rfl
   |true=>
    cases b:Ha q n.2.2.2.2.1[i] with
    |true=>
     right;refine⟨_,rfl,?_⟩;unfold Yo;rw[ZfA a (f:=fun p=>He x p&&Ha q p) (by rw[hm,b];rfl)]
     rfl
    |false=>
     left;refine⟨_,rfl,?_,?_⟩
     ·rw[Zaz a,hm,Bool.or_true];rfl
     ·rw[Zaz a,ha,hm,b];rfl
  ·rintro _ ⟨rfl,ha⟩;simp only[Jy,Ze];refine⟨_,rfl,?_⟩;rw[Vw]at ha⊢;unfold Yo;rw[ha];rfl
 ·rintro (r|r) c
  ·exact congrArg some c
  ·exact congrArg some c
theorem ZpI(a:i<L.length)(b:(lg L i).1=false):F46 (n,q,L,(i:Int),())=some 0:=by unfold F46;rw[ZaJ a];simp only[Za];rw[b];rfl
theorem ZpF(d:Js n)(e:n.2.2.2.2.1.length<=4096)(a:i<L.length)(c:(lg L i).1=false):F42 (n,q,L,(i:Int),())=some (WN n q (lg L i)):=by
 unfold F42;rw[ZrA];simp only[untilF];rw[ZpH d a];simp only[Za]
 cases f:ZcA n (lg L i) with
 |true=>rfl
 |false=>
 cases g:Zev n (lg L i) with
 |true=>rfl
 |false=>
 simp only[Ze,decide_true,Zc];rw[ZpE a];simp only[Za]
 cases h:Zct (lg L i) with
 |true=>rfl
 |false=>
 simp only[Ze,decide_true,Zc];rw[ZpJ e a,ZpI a c,c];simp only[Za,Ze];by_cases b:Yo n q (lg L i)=0
 ·rw[Zd b,b];rfl
 ·rw[Zk b];rfl
theorem ZpD(g:i<L.length)(h:Kh q.1 n.1.length=true)(a:(q.2.2.2.2.2.2.2.2.2.1&&q.2.2.2.1)=false):F35 (n,q,L,(i:Int),())=some (bif decide (i=0) then Ji n q L else 0):=by
 unfold F35;by_cases d:i=0
 case neg=>rw[Zd (show (0:Int)<(i:Int) by omega),Zk d];rfl
 subst d;rw[Zk (show¬(0:Int)<((0:Nat):Int) by omega),ZaJ g];simp only[Ze,Za,decide_true,Zc];unfold Ji;refine Zel (Zel ?_)
 refine ZfI (c:= !(lg L 0).1&& (decide (1<L.length) && ((lg L 1).1&& !decide ((lg L 1).2.2.2.2.2.2.1=(lg L 0).2.2.2.2.2.2.2.1)))) ?_ (ZfI (c:= !(lg L 0).1&& (decide (L.length=1) && (bif q.2.2.2.1 then !decide ((lg L 0).2.2.2.2.2.2.2.1=q.2.2.1) else !decide ((lg L 0).2.2.2.2.2.2.1=q.2.2.1)))) ?_ (ZiD (ZfI (c:=q.2.2.2.2.2.2.2.2.2.1&& ((lg L 0).1&&decide ((lg L 0).2.2.2.2.2.2.1<Vb .i64 (q.2.2.1+(Wv n q.1).2.2.2.1)))) ?_ rfl)))
 ·by_cases j:L.length=1
  ·rw[Zd (show ((L.length:Nat):Int)=1 by omega),Zk (show¬1<L.length by omega)]
   cases (lg L 0).1<;>rfl
  ·have f:1<L.length:=by omega
   have e:idx L (1:Int)=some (lg L 1):=ZkH (i:=1) f;rw[Zk (show¬((L.length:Nat):Int)=1 by omega),Zd f,e];simp only[Vx,Zc,Za,Vca]
   cases (lg L 0).1<;>cases (lg L 1).1<;>rfl
 ·rw[show decide (((L.length:Nat):Int)=1)=decide (L.length=1) from decide_eq_decide.2 (by omega)]
  cases (lg L 0).1<;>cases decide (L.length=1)<;>cases q.2.2.2.1<;>cases decide ((lg L 0).2.2.2.2.2.2.1=q.2.2.1)<;>rfl
 ·have b:idx n.1 q.1=some (Wv n q.1):=J9 h s0;rw[b];simp only[Za]
  revert a
  cases q.2.2.2.2.2.2.2.2.2.1<;>cases q.2.2.2.1<;>intro a<;>first|(cases a;done) |(cases (lg L 0).1<;>rfl)
structure Jn (n:Zh) (q:Zt) (L:List Zv):Prop where
 fine:∀i,i<L.length->WI (Zz n q) (Zn q) L i=0
 to:0<L.length->(lg L (L.length - 1)).2.2.2.2.2.1=q.2.1
 nil:L.length=0->q.1=q.2.1
 arr:0<L.length->q.2.2.2.1=true->(lg L (L.length - 1)).2.2.2.2.2.2.2.1<=q.2.2.1
 rides:(ridesN L:Int)<=q.2.2.2.2.1
 walk:KE L<=q.2.2.2.2.2.1
 len:L.length<=80
theorem ZpG(h:Kz n q){x:Zv}(j:x.1=false):F43 (n,q,[x],(0:Int),())=some (WI n q [x] 0):=by
 have b:=h.qnum;have e:0< [x].length:=by simp
 have c:(q.2.2.2.2.2.2.2.2.2.1&&q.2.2.2.1)=false:=by
  have:=b.2.2.2.2.2
  revert this
  cases q.2.2.2.2.2.2.2.2.2.1<;>cases q.2.2.2.1<;>simp
 have p:=ZpF (q:=q) (L:=[x]) (i:=0) h.whole.sound h.fit.paths e j;have l:=ZpD (n:=n) (q:=q) (L:=[x]) (i:=0) e (Re.2 b.1) c
 have g:F37 (n,q,[x],(0:Int),())=some 0:=by have o:=ZaJ (n:=n) (q:=q) (L:=[x]) (i:=0) e;unfold F37;erw[o];simp only[Za];have:(lg [x] 0).1=false:=j;rw[this];rfl
 have r:Xf [x] 0=false:=by unfold Xf;have:(lg [x] 0).1=false:=j;rw[this];rfl
 unfold F43 WI;erw[untilF,p];simp only[Za];by_cases k:WN n q (lg [x] 0)=0
 case neg=>rw[Zk k];rfl
 rw[Zd k];simp only[Vl,Ze,Zc];erw[untilF,l];simp only[Za];unfold GG;simp only[decide_true,Zc];by_cases a:Ji n q [x]=0
 case neg=>rw[Zk a];rfl
 rw[Zd a,r];simp only[Vl,Ze,Zc];have f:F36 (n,q,[x],(0:Int),())=some 0:=rfl;have d:F34 (n,q,[x],(0:Int),())=some 0:=rfl;simp only[untilF,f,d,g,Za,decide_true,Zc]
end Q
namespace Q
open Tr Go
abbrev KI(q:Zt)(x:KA):List Int:=Z2 q x.2.1
def W1(q:Zt)(v:List Int)(x:KA):Bool:=decide (v≠KI q x/\ZT v (KI q x))
theorem Zlg(q:Zt){v:List Int}(a:v.length=4)(x:KA):F142 x v q=some (W1 q v x):=by unfold F142;rw[Zbt];simp only[Za,Zf4 a (Gp q x.2.1)];rfl
theorem Zra(q:Zt){v:List Int}(g:v.length=4){l:List KA}(k:l.length<=549755813888):(F172 l (v,q,())=some (-1)/\ ∀x∈l,W1 q v x=false)\/ ∃i,∃a:i<l.length,F172 l (v,q,())=some (i:Int)/\(∀x∈l.take i,W1 q v x=false)/\W1 q v l[i]=true:=by
 unfold F172
 suffices e:∃r:Unit ⊕ Int,_=some r/\((r=.inl ()/\ ∀x∈l,W1 q v x=false)\/ ∃i:Nat,∃a:i<l.length,r=.inr (i:Int)/\(∀x∈l.take i,W1 q v x=false)/\W1 q v l[i]=true) by
  obtain⟨r,c,d⟩:=e;rcases d with ⟨rfl,h⟩|⟨i,a,rfl,h⟩
  ·exact .inl ⟨KF (fun x=>x=Sum.inl ()) ⟨_,c,rfl⟩ (fun x b=>by subst b;rfl),h⟩
  grind
 refine Kq l.length (fun r:Unit ⊕ Int=>(r=.inl ()/\ ∀x∈l,W1 q v x=false)\/ ∃i:Nat,∃a:i<l.length,r=.inr (i:Int)/\(∀x∈l.take i,W1 q v x=false)/\W1 q v l[i]=true) (fun i (s:Int)=>s=(i:Int)/\ ∀x∈l.take i,W1 q v x=false) ?_ ?_ _ (by simp)
 ·rintro i _ a ⟨rfl,h⟩;have b:idx l (i:Int)=some l[i]:=ZH a;have f:∀w,w∈l.take (i+1)↔w∈l.take i\/w=l[i]:=fun w=>by rw[Vd a,Vu,Vj]
  simp only[ZU a,Zc,b,Za,Zlg q g]
  cases j:W1 q v l[i] with
  |true=>grind
  |false=>
   refine .inl ⟨_,rfl,Z8 a (by omega),fun w o=>?_⟩
   grind
 simp
theorem Zp9(q:Zt){v:List Int}(G:v.length=4){l:List KA}(M:l.length<=549755813888):F171 l (v,q,())=some (l.filter fun x=> !W1 q v x):=by
 unfold F171;rcases Zra q G M with ⟨d,H⟩|⟨b,y,d,H,E⟩
 ·rw[d];simp only[Za,decide_true,Zc];rw[List.filter_eq_self.2 (by grind)]
 ·rw[d];have B:Vb .i64 ((b:Int)+1)=((b+1:Nat):Int):=by rw[Zs (by omega) (by omega)];omega
  simp only[Za,Zk (show¬(b:Int)= -1 by omega),Ze,B];refine KF (fun r:List KA×Int=>∃k:Nat,r.2=(k:Int)/\k<=l.length/\r.1.length=l.length/\r.1.take k=l.filter fun x=> !W1 q v x) ?_ ?_
  ·have p:(l.take b).filter (fun x=> !W1 q v x)=l.take b:=by simp_all
   refine Kq (l.length - (b+1)) _ (fun r (s:List KA×Int×Int)=>∃k:Nat,s.2=((k:Int),((b+1+r:Nat):Int))/\k<=b+1+r/\s.1.length=l.length/\(s.1.take k=(l.take (b+1+r)).filter fun x=> !W1 q v x)/\s.1.drop (b+1+r)=l.drop (b+1+r)) ?_ ?_ _ ⟨b,rfl,by omega,rfl,?_,rfl⟩
   ·rintro r ⟨fr,_⟩ S ⟨k,rfl,t,a,c,f⟩;left;simp only at a c f;have F:b+1+r<l.length:=by omega
    generalize K:b+1+r=i at*;have u:i<fr.length:=by omega
    have w:fr[i]? =some l[i]:=by have d:=congrArg List.head? f;rw[Vuc,Vuc,Va F]at d;omega
    have h:(l.take (i+1)).filter (fun x=> !W1 q v x)=(l.take i).filter (fun x=> !W1 q v x)++(if W1 q v l[i]=true then [] else [l[i]]):=by
     rw[Vd F,Vic]
     grind
    have g:fr.drop (i+1)=l.drop (i+1):=by have d:=congrArg (Vub 1) f;rw[Vxb,Vxb]at d;omega
    have o:decide ((i:Int)<((fr.length:Nat):Int))=true:=by grind
    have C:Vb .i64 ((i:Int)+1)=((b+1+(r+1):Nat):Int):=by rw[Zs (by omega) (by omega)];omega
    have z:b+1+(r+1)=i+1:=by omega
    simp only[o,Zc,Ke u,w,Za,Zlg q G,C];rw[z]
    cases I:W1 q v l[i] with
    |true=>
     rw[Zp I,Vba]at h
     exact⟨_,rfl,k,rfl,by omega,a,by grind,g⟩
    |false=>
     rw[Zf (by grind)]at h;have j:k<fr.length:=by omega
     have D:Vb .i64 ((k:Int)+1)=((k+1:Nat):Int):=by rw[Zs (by omega) (by omega)];omega
     simp only[Vx,Zc,Ke j,Za,Va j,D];refine⟨_,rfl,k+1,rfl,by omega,by grind,?_,?_⟩
     ·have R:(fr.set k l[i]).take (k+1)=fr.take k++[l[i]]:=by rw[Vd (by grind),List.take_set_of_le (Vqa _),List.getElem_set_self]
      grind
     ·rw[List.drop_set_of_lt (by omega)];omega
   ·rintro ⟨fr,_⟩ ⟨k,rfl,t,a,c,_⟩;have e:b+1+(l.length - (b+1))=l.length:=by omega
    rw[e]at c t;rw[Vw]at c;have o:decide (((b+1+(l.length - (b+1)):Nat):Int)<((fr.length:Nat):Int))=false:=by grind
    exact⟨(fr,(k:Int)),by grind,k,rfl,t,a,c⟩
   ·rw[Vjc,Vd y,Vic,p,List.filter_cons_of_neg (by grind)];simp
  ·rintro ⟨fr,_⟩ ⟨k,rfl,t,a,c⟩;simp only at a c;have A:sliceB fr.length fr.length (some (k:Int)) none=some (k,fr.length):=Zhy (by omega);simp only[A,Za];have J:ZD (decide (k+(fr.length - k)<=fr.length))=some ():=by rw[Zd (by omega)];rfl
   rw[J];simp only[Za];generalize T:Vja (fr.length - k) (((([]:List (El JR)),()),((0:Int),(0:Int),(0:Int),(0:Int),(0:Int),()),([]:List (El G0)),()):KA)=Z;have Q:Z.length=fr.length - k:=by grind
   have N:(Vmc k fr++Z++Vub (k+(fr.length - k)) fr).length=fr.length:=by
    grind
   have O:sliceB (Vmc k fr++Z++Vub (k+(fr.length - k)) fr).length (Vmc k fr++Z++Vub (k+(fr.length - k)) fr).length none (some (k:Int))=some (0,k):=by
    unfold sliceB
    grind
   grind
def HD(q:Zt)(l:List KA):Prop:=l.Pairwise fun x y=>¬ZT (KI q x) (KI q y)/\ ¬ZT (KI q y) (KI q x)
theorem Zlh(q:Zt){l:List KA}(o:KA)(I:l.length+1<=549755813888):∃c,F141 q l o=some c/\c.length<=l.length+1/\(∀x∈c,x∈l\/x=o)/\(∃y∈c,ZT (KI q y) (KI q o))/\(∀x∈l,∃y∈c,ZT (KI q y) (KI q x))/\(HD q l->HD q c):=by
 have t:=Gp q o.2.1;unfold F141;rw[Zbt];simp only[Za]
 suffices E:∃r:Unit ⊕ Unit,_=some r/\((r=.inl ()/\ ∀x∈l,¬ZT (KI q x) (KI q o))\/(r=.inr ()/\ ∃x∈l,ZT (KI q x) (KI q o))) by
  obtain⟨r,A,B⟩:=E;rcases B with ⟨rfl,h⟩|⟨rfl,h⟩
  ·have u:=Zp9 q t (l:=l) (by omega);have v:=List.length_filter_le (fun x=> !W1 q (Z2 q o.2.1) x) l
   have H:ZD (decide ((l.filter fun x=> !W1 q (Z2 q o.2.1) x).length+ [o].length<=ZE))=some ():=by have D:(ZE:Nat)=549755813888:=rfl;rw[Zd (by grind)];rfl
   refine⟨(l.filter fun x=> !W1 q (Z2 q o.2.1) x)++[o],?_,?_,fun x b=>?_,⟨o,by simp,Dp _⟩,fun x b=>?_,fun a=>?_⟩
   ·refine KF (fun x=>x=Sum.inl ()) ⟨_,A,rfl⟩ (fun x b=>?_)
    grind
   ·grind
   ·grind
   ·cases g:W1 q (Z2 q o.2.1) x with
    |true=>exact⟨o,by simp,(X8 g).2⟩
    |false=>exact⟨x,by grind,Dp _⟩
   ·refine Vm.2 ⟨List.Pairwise.filter _ a,by simp,fun x b y z=>?_⟩;rw[Vj]at z;subst z;obtain⟨C,G⟩:=Vla.1 b;refine⟨h x C,fun k=>?_⟩;have p:W1 q (Z2 q y.2.1) x=false:=by grind
    unfold W1 at p
    grind
  ·refine⟨l,by grind,by omega,by grind,h,fun x b=>⟨x,b,Dp _⟩,id⟩
 refine Kq l.length (fun r:Unit ⊕ Unit=>(r=.inl ()/\ ∀x∈l,¬ZT (KI q x) (KI q o))\/(r=.inr ()/\ ∃x∈l,ZT (KI q x) (KI q o))) (fun i (s:Int)=>s=(i:Int)/\ ∀x∈l.take i,¬ZT (KI q x) (KI q o)) ?_ ?_ _ (by simp)
 ·rintro i _ a ⟨rfl,h⟩;have F:∀w,w∈l.take (i+1)↔w∈l.take i\/w=l[i]:=fun w=>by rw[Vd a,Vu,Vj]
  have e:=Vi a;have d:=Va a;generalize l[i]=x at*;have f:=Gp q x.2.1;simp only[ZU a,Zc,Ke a,d,Za,Zbt,Zb2 _ _ (show (Z2 q x.2.1).length=(Z2 q o.2.1).length by rw[f,t]),Zf4 f t];by_cases j:Z2 q x.2.1=Z2 q o.2.1
  ·rw[Zd j];exact .inr ⟨_,rfl,.inr ⟨rfl,x,e,by show ZT (Z2 q x.2.1) (Z2 q o.2.1);rw[j];exact Dp _⟩⟩
  ·rw[Zk j];simp only[Ze];by_cases k:ZT (Z2 q x.2.1) (Z2 q o.2.1)
   ·grind
   ·have u:¬(Z2 q x.2.1≠Z2 q o.2.1/\ZT (Z2 q x.2.1) (Z2 q o.2.1)):=by grind
    rw[Zk u];refine .inl ⟨_,rfl,Z8 a (by omega),fun w J=>?_⟩
    grind
 simp
end Q
namespace Q
open Tr Go
variable {n:Zh}{q:Zt}
theorem ZgN:∀(l:List Int) (x y:Int),y∈YF x l->y∈l
 |[],_,_,h=>by cases h
 |z::l,x,y,h=>by
  unfold YF at h
  cases a:decide (z=x) with
  |true=>rw[a]at h;exact Vac _ (ZgN l x y h)
  |false=>
   rw[a]at h;simp only[Ze,Vz]at h;rcases h with rfl|h
   ·simp
   ·exact Vac _ (ZgN l z y h)
theorem ZfX:∀(l:List Int) (x y:Int),y∈l->y=x\/y∈YF x l
 |[],_,_,h=>by cases h
 |z::l,x,y,h=>by
  unfold YF
  cases a:decide (z=x) with
  |true=>
   have b:=X8 a;simp only[Zc];rcases Vz.1 h with rfl|h
   ·omega
   ·exact ZfX l x y h
  |false=>
   simp only[Ze,Vz];rcases Vz.1 h with rfl|h
   ·omega
   ·exact .inr (ZfX l z y h)
theorem ZrT{l:List Int}{y:Int} :y∈Jh l↔y∈l:=by
 cases l with
 |nil=>rfl
 |cons x l=>
  show y∈x::YF x l↔_;rw[Vz,Vz];constructor
  ·rintro (h|h)
   ·omega
   ·exact .inr (ZgN l x y h)
  ·rintro (h|h)
   ·omega
   ·exact ZfX l x y h
theorem Zs2(l:List Int)(r:l.length<=4294967296):∃m,F174 l=some m/\m.Perm l:=by
 unfold F174;have h:Vb .i64 ((l.length:Int) - 1)=(l.length:Int) - 1:=Zs (by omega) (by omega);rw[h];refine run_bind (fun s=>∃(fr:List Int) (i:Nat),s=(fr,(i:Int),(l.length:Int) - 1 - (i:Int))/\fr.Perm l/\i<=l.length) (fun s=>l.length - s.2.1.toNat) (fun m=>m.Perm l) ⟨l,0,by simp,.refl _,Nat.zero_le _⟩ ?_ ?_
 ·rintro _ ⟨fr,i,rfl,g,p⟩;have d:=g.length_eq;by_cases f:(i:Int)<(l.length:Int) - 1 - (i:Int)
  ·left;have a:i<fr.length:=by omega
   obtain⟨j,e⟩:∃j:Nat,(l.length:Int) - 1 - (i:Int)=(j:Int):=⟨l.length - 1 - i,by omega⟩;have b:j<fr.length:=by omega
   have c:j<(fr.set i fr[j]).length:=by grind
   have k:Vb .i64 ((i:Int)+1)=((i+1:Nat):Int):=by rw[Zs (by omega) (by omega)];omega
   have o:Vb .i64 ((j:Int) - 1)=(l.length:Int) - 1 - ((i+1:Nat):Int):=by rw[Zs (by omega) (by omega)];omega
   simp only[e];rw[Zd (by omega)];simp only[Zc,Ke b,Ke a,Va b,Va a,Za,Ke c,Va c,k,o];refine⟨_,rfl,⟨_,i+1,rfl,by grind,by omega⟩,?_⟩
   grind
  grind
 simp
def Rj(n:Zh)(q:Zt)(s:Int)(w:Int):Prop:=(w=0/\s=q.1)\/ ∃p∈n.2.2.2.2.1,p.1=q.1/\p.2.1=s/\w=p.2.2.1
theorem Zqa(S:K1 n)(O:JE n)(hq:0<=q.1/\q.1<(n.1.length:Int)):∃l:List Int,F137 n q=some l/\l.length<=2562/\(∀t∈l,0<=t/\t<=q.2.2.1)/\
 ∀i c,i<n.2.2.1.length->c<(Zl n i).length->∀w,Rj n q (Zg n i c).1 w->0<=(Zg n i c).2.2.1 - w->(Zg n i c).2.2.1 - w<=q.2.2.1->(Zg n i c).2.2.1 - w∈l:=by
 have hm:(ZE:Int)=549755813888:=rfl;have a6:(ZE:Nat)=549755813888:=rfl;have h5:=O.stops;have a3:=O.paths;have h7:=O.runs;obtain⟨a,ha⟩:∃a:Nat,q.1=(a:Int):=⟨q.1.toNat,by omega⟩;have T:a<n.1.length:=by omega
 unfold F137
 have g1:ZD (decide ((0:Int)<=(n.1.length:Int)/\(n.1.length:Int)<=(n.1.length:Int)/\(n.1.length:Int)<=(ZE:Int)))=some ():=by rw[Zd ⟨by omega,by omega,by omega⟩];rfl
 have G:a<(Vja n.1.length ([]:List Int)).length:=by simpa using T
 have a1:idx (Vja n.1.length ([]:List Int)) (a:Int)=some []:=by rw[ZH G,List.getElem_replicate]
 have X:(Vja n.1.length ([]:List Int))[a]? =some []:=by grind
 have g2:ZD (decide (([]:List Int).length+ [(0:Int)].length<=ZE))=some ():=rfl;have g3:ZD (Rb (some a) a)=some ():=by simp [Rb];rfl
 rw[g1];simp only[Za,Vq,ha,Ke G,X,a1,g2,g3];refine Wf (fun rows:List (List Int)=>rows.length=n.1.length/\ ∀s:Nat,s<n.1.length->∃r,rows[s]? =some r/\r.length<=61/\(∀w∈r,0<=w/\w<=14400)/\ ∀w,Rj n q (s:Int) w->w∈r) ?_ ?_
 ·refine Kq n.2.2.2.2.1.length _ (fun k (st:List (List Int) ×Int)=>st.2=(k:Int)/\st.1.length=n.1.length/\ ∀s:Nat,s<n.1.length->∃r,st.1[s]? =some r/\r.length<=1+k/\(∀w∈r,0<=w/\w<=14400)/\((s:Int)=q.1->(0:Int)∈r)/\ ∀p∈n.2.2.2.2.1.take k,p.1=q.1->p.2.1=(s:Int)->p.2.2.1∈r) ?_ ?_ _ ⟨rfl,by simp,fun s A=>?_⟩
  ·rintro k ⟨rows,_⟩ j ⟨rfl,g,e⟩;left;simp only at g e;have hx:idx n.2.2.2.2.1 (k:Int)=some n.2.2.2.2.1[k]:=ZH j;have a8:=S.path _ (Vi j);have Y:∀w,w∈n.2.2.2.2.1.take (k+1)↔w∈n.2.2.2.2.1.take k\/w=n.2.2.2.2.1[k]:=fun w=>by rw[Vd j,Vu,Vj]
   generalize n.2.2.2.2.1[k]=p at*;simp only[ZU j,Zc,hx,Za,Z8 j (by omega)];by_cases a7:p.1=q.1
   ·rw[Zd (show p.1=(a:Int) by omega)];obtain⟨b,U⟩:∃b:Nat,p.2.1=(b:Int):=⟨p.2.1.toNat,by omega⟩;have v:b<n.1.length:=by omega
    have x:b<rows.length:=by omega
    obtain⟨r,r1,r2,r3,r4,r5⟩:=e b v
    have y:idx rows (b:Int)=some r:=by
     assumption
    have V:ZD (decide (r.length+ [p.2.2.1].length<=ZE))=some ():=by rw[Zd (by grind)];rfl
    have hh:ZD (Rb (some b) b)=some ():=by simp [Rb];rfl
    simp only[Zc,U,Ke x,r1,y,Za,V,Vq,hh];refine⟨_,rfl,rfl,by grind,fun s A=>?_⟩;by_cases b0:s=b
    ·grind
    ·obtain⟨r',k1,k2,k3,k4,k5⟩:=e s A
     grind
   ·rw[Zk (show¬p.1=(a:Int) by omega)]
    grind
  ·rintro ⟨rows,_⟩ ⟨rfl,g,e⟩;rw[Vw]at e;refine⟨rows,by simp,g,fun s A=>?_⟩;obtain⟨r,k1,k2,k3,k4,k5⟩:=e s A;refine⟨r,k1,by omega,k3,?_⟩;rintro w (⟨rfl,h⟩|⟨p,hp,N,F,rfl⟩)
   all_goals grind
  grind
 ·rintro rows ⟨g,e⟩;refine Wf (fun l:List Int=>l.length<=2562/\(∀t∈l,0<=t/\t<=q.2.2.1)/\ ∀i c,i<n.2.2.1.length->c<(Zl n i).length->∀w,Rj n q (Zg n i c).1 w->0<=(Zg n i c).2.2.1 - w->(Zg n i c).2.2.1 - w<=q.2.2.1->(Zg n i c).2.2.1 - w∈l) ?_ ?_
  ·refine Kq n.2.2.1.length _ (fun i (st:List Int×Int)=>st.2=(i:Int)/\st.1.length<=366*i/\(∀t∈st.1,0<=t/\t<=q.2.2.1)/\ ∀B c,B<i->c<(Zl n B).length->∀w,Rj n q (Zg n B c).1 w->0<=(Zg n B c).2.2.1 - w->(Zg n B c).2.2.1 - w<=q.2.2.1->(Zg n B c).2.2.1 - w∈st.1) ?_ ?_ _ ⟨rfl,by simp,by simp,by omega⟩
   ·rintro i ⟨acc,_⟩ J ⟨rfl,hl,hr,H⟩;left;simp only at hl hr H;have h6:=O.calls i J;simp only[Zd (show (i:Int)<((n.2.2.1.length:Nat):Int) by omega),Zc,Dl J,Za,Z8 J (by omega)];refine XW (fun l:List Int=>l.length<=acc.length+61* (Zl n i).length/\(∀t∈l,0<=t/\t<=q.2.2.1)/\(∀t∈acc,t∈l)/\ ∀c,c<(Zl n i).length->∀w,Rj n q (Zg n i c).1 w->0<=(Zg n i c).2.2.1 - w->(Zg n i c).2.2.1 - w<=q.2.2.1->(Zg n i c).2.2.1 - w∈l) ?_ ?_
    ·refine Kq (Zl n i).length _ (fun c (st:List Int×Int)=>st.2=(c:Int)/\st.1.length<=acc.length+61*c/\(∀t∈st.1,0<=t/\t<=q.2.2.1)/\(∀t∈acc,t∈st.1)/\ ∀z,z<c->∀w,Rj n q (Zg n i z).1 w->0<=(Zg n i z).2.2.1 - w->(Zg n i z).2.2.1 - w<=q.2.2.1->(Zg n i z).2.2.1 - w∈st.1) ?_ ?_ _ ⟨rfl,by simp,hr,by simp,by omega⟩
     ·rintro c ⟨f,_⟩ I ⟨rfl,C,u,D,E⟩;left;simp only at C u D E;have b2:=S.stop J I;have b3:=S.time J I;obtain⟨b,U⟩:∃b:Nat,(Zg n i c).1=(b:Int):=⟨(Zg n i c).1.toNat,by omega⟩;have v:b<n.1.length:=by omega
      have x:b<rows.length:=by omega
      obtain⟨r,r1,r2,r3,r4⟩:=e b v
      have y:idx rows (b:Int)=some r:=by
       assumption
      have K:decide ((c:Int)<((rn n (i:Int)).2.2.2.2.2.2.2.1.length:Int))=true:=Zd (by show (c:Int)<((Zl n i).length:Int);omega);have Z:Vb .i64 ((c:Int)+1)=((c+1:Nat):Int):=by rw[Zs (by omega) (by omega)];omega
      simp only[K,Zc,RZ I,Za,Z];rw[U];simp only[Ke x,r1,y,Za];generalize hd:(Zg n i c).2.2.1=d at*;refine XW (fun l:List Int=>l.length<=f.length+61/\(∀t∈l,0<=t/\t<=q.2.2.1)/\(∀t∈f,t∈l)/\ ∀w∈r,0<=d - w->d - w<=q.2.2.1->d - w∈l) ?_ ?_
      ·refine Kq r.length _ (fun k (st:List Int×Int)=>st.2=(k:Int)/\st.1.length<=f.length+k/\(∀t∈st.1,0<=t/\t<=q.2.2.1)/\(∀t∈f,t∈st.1)/\ ∀w∈r.take k,0<=d - w->d - w<=q.2.2.1->d - w∈st.1) ?_ ?_ _ ⟨rfl,by simp,u,by simp,by simp⟩
       ·rintro k ⟨o,_⟩ j ⟨rfl,d1,Q,R,d4⟩;left;simp only at d1 Q R d4;have a9:=r3 _ (Vi j);have W:=Va j;have Y:∀w,w∈r.take (k+1)↔w∈r.take k\/w=r[k]:=fun w=>by rw[Vd j,Vu,Vj]
        generalize r[k]=w at*;have a0:Vb .i64 (d - w)=d - w:=Zs (by omega) (by omega);simp only[ZU j,Zc,Ke j,W,Za,a0,Z8 j (by omega)];have skip:¬(0<=d - w/\d - w<=q.2.2.1)->∀w' ∈r.take (k+1),0<=d - w' ->d - w' <=q.2.2.1->d - w' ∈o:=by grind
        by_cases N:0<=d - w
        case neg=>rw[Zk N];exact⟨_,rfl,rfl,by simp only;omega,Q,R,by grind⟩
        rw[Zd N];by_cases F:d - w<=q.2.2.1
        case neg=>rw[Zk F];exact⟨_,rfl,rfl,by simp only;omega,Q,R,skip fun h=>F h.2⟩
        rw[Zd F]
        have V:ZD (decide (o.length+ [d - w].length<=ZE))=some ():=by rw[Zd (by grind)];rfl
        simp only[Zc,Za,V];refine⟨_,rfl,rfl,by simp;omega,by grind,by grind,by grind⟩
        all_goals grind
       grind
      ·rintro l ⟨l1,l2,l3,l4⟩;refine⟨_,rfl,rfl,by grind,l2,by grind,fun z a4 w hw N F=>?_⟩
       grind
     ·rintro ⟨f,_⟩ ⟨rfl,C,u,D,E⟩;have K:decide (((Zl n i).length:Int)<((rn n (i:Int)).2.2.2.2.2.2.2.1.length:Int))=false:=Zk (by show¬((Zl n i).length:Int)<((Zl n i).length:Int);omega)
      grind
    grind
   grind
  ·rintro l ⟨l1,l2,l3⟩;have M:=Zd4 l
   have A:F178 l=some (Yf l):=by
    show sortI l=_;unfold sortI
    grind
   have b1:=M.length_eq;have a5:=Zjo (Yf l)
   have I:F170 (Yf l)=some (Jh (Yf l)):=by
    show compactI (Yf l)=_;unfold compactI
    grind
   obtain⟨m,m1,m2⟩:=Zs2 (Jh (Yf l)) (by omega);have a2:∀t,t∈m↔t∈l:=fun t=>by rw[m2.mem_iff,ZrT,M.mem_iff]
   simp only[A,I,m1,Za];exact⟨m,rfl,by rw[m2.length_eq];omega,by grind,by grind⟩
end Q
namespace Q
open Tr Go
variable {n:Zh}{q:Zt}
def Kr(q:Zt)(t:Int):Zt:=(q.1,q.2.1,t,false,q.2.2.2.2)
theorem ZhR(m:Zh)(q:Zt)(t a:Int)(l:Zu):JN m (Zn (Kr q t)) l=JN m (Zn (Kr q a)) l:=rfl
theorem Zmo(f:K1 n){i c d:Nat}(e:i<n.2.2.1.length)(b:c<d)(j:d<(Zl n i).length):(Zg n i c).2.2.1<=(Zg n i d).2.1:=by
 have k:=f.sound.time _ (Vi e)
 have key:∀d,c<d->d<(Zl n i).length->(Zg n i c).2.2.1<=(Zg n i d).2.1:=by
  intro d
  induction d with
  |zero=>intro h;omega
  |succ d l=>
   intro o a
   have g:(Zg n i d).2.2.1<=(Zg n i (d+1)).2.1:=by rw[RQ a,RQ (show d<(Zl n i).length by omega)];simp only[G9 e]at a⊢;have:=(k (d+1) a).2.2.2 (by omega);simp only[Nat.add_sub_cancel]at this;exact this.2
   rcases Vab c d with h|h
   ·have:=l h (by omega);have p:=f.time e (show d<(Zl n i).length by omega);omega
   ·have:c=d:=by omega
    subst this;exact g
 exact key d b j
theorem Ziw(s t a b e d:Int):WQ [Kf s t a (a+e)] d=[Kf s t (d - e) d]/\WQ [Kf s t b (b+e)] d=[Kf s t (d - e) d]:=by
 rw[RK rfl,RK rfl];unfold Kf
 constructor<;> · simp only;congr 8;omega
theorem Zhc(hW:Whole n)(hT:JE n){ZN:Int}(hQ:QI (Zn (Kr q ZN))){hF:FO n.2.2.2.2.2.1}(U:q.2.2.2.2.2.2.2.2.2.1=false)(h0:LI n.2.2.2.2.2.1 hF n (Zn (Kr q ZN)) (KG n (Zn (Kr q ZN)))){l:Zu}(h:Rc n (Zn (Kr q ZN)) (KG n (Zn (Kr q ZN))) l):
 (l.2.2.1=0/\(l=KG n (Zn (Kr q ZN))\/ ∃p∈n.2.2.2.2.1,D1 (Zn (Kr q ZN)) (KG n (Zn (Kr q ZN))) p/\l=Xs (KG n (Zn (Kr q ZN))) p))\/
 ∃d x L,l.2.2.2.2.2.1=x::L/\(L=[]->x.1=true)/\x.2.2.2.2.2.2.1=d/\ZN<=d/\d<=l.2.1/\0<l.2.2.1/\(∃i c w,i<n.2.2.1.length/\c<(Zl n i).length/\Rj n q (Zg n i c).1 w/\d=(Zg n i c).2.2.1 - w)/\Rc n (Zn (Kr q d)) (KG n (Zn (Kr q d))) l:=by
 have A:=hW.ok
 induction h with
 |start=>exact .inl ⟨rfl,.inl rfl⟩
 |step hl X ih=>
  rename_i l x;have F:=hl.li hW hT hQ h0;obtain⟨s1,s2,s3,s4,s5⟩:=D4 l;have a1:(Zn (Kr q ZN)).2.2.2.2.2.2.2.2.2.1=false:=U;rcases YI.1 X with ⟨k1,hs⟩|⟨k1,hb⟩|⟨k1,k2,hw⟩
  ·
   right;obtain⟨k,hk,⟨_,_,_,_,I⟩,d,a0,V,_,rfl⟩:=Zaa.1 hs;obtain⟨r,d0,j,d',sy,he,_,hj,_⟩:=A.link _ hk;subst he;simp only[Vq]at*;rcases ih with ⟨hr,_⟩|⟨g,y,L,M,Y,N,O,e5,W,Q,R⟩
   ·have T:=F.cnt;rw[Zp k1]at T;omega
   ·have hm:=Zmo A hj a0 V;refine⟨g,y,L++[ZP n j 0 d true],by show l.2.2.2.2.2.1++_=_;rw[M];rfl,fun h=>absurd h (by simp),N,O,?_,W,Q,.step R (by rw[ZhR n q g ZN l];exact X)⟩;show g<=(Zg n j d).2.1;omega
  ·
   right;obtain⟨i,c,d,J,B,V,b,u,v,ex⟩:=GH.1 hb;have I:=Zi9 A F.val b;have hm:=Zmo A J B V;have T:c<(Zl n i).length:=by omega
   have a8:=F.val.rides;rcases ih with ⟨hr,E|⟨p,K,s,G⟩⟩|⟨g,y,L,M,Y,N,O,e5,W,Q,R⟩
   ·subst E;have a:∀t,ZS (KG n (Zn (Kr q t)))=KG n (Zn (Kr q t)):=fun t=>by unfold ZS;rw[Zf (by show¬(0:Int)=1;decide)]
    have C:∀t,JW n (Zn (Kr q t)) (KG n (Zn (Kr q t)))=t:=fun t=>by unfold JW;rw[Zf (by show¬(0:Int)=1;decide),Zf (by show¬(0:Int)=2;decide),Zf (by rw[show (Zn (Kr q t)).2.2.2.2.2.2.2.2.2.1=q.2.2.2.2.2.2.2.2.2.1 from rfl,U];decide)];show t+0=t;omega
    rw[a]at ex b u;obtain⟨Z,g2,S,g4,_⟩:=b;have H:(Zg n i c).1=q.1:=S;refine⟨(Zg n i c).2.2.1,ZP n i c d false,[],?_,fun _=>rfl,rfl,I,?_,?_,⟨i,c,0,J,T,.inl ⟨rfl,H⟩,by omega⟩,?_⟩
    ·subst ex;show WQ [] (Zg n i c).2.2.1++[ZP n i c d false]=_;rw[ZbL (by simp)];rfl
    ·subst ex;show _<=(Zg n i d).2.1;exact hm
    ·subst ex;show (0:Int)<0+1;omega
    ·refine .step .start (YI.2 (.inr (.inl ⟨fun h=>absurd h (by show¬(0:Int)=1;decide),GH.2 ⟨i,c,d,J,B,V,?_,?_,v,?_⟩⟩)))
     ·rw[a,C];exact⟨Z,g2,S,g4,.inl (Vjb _)⟩
     ·rw[a];exact u
     ·rw[a,ex];rfl
   ·subst G;have a2:=A.path p K;obtain⟨w1,w2,w3⟩:=s;have a6:(Xs (KG n (Zn (Kr q ZN))) p).1.1=2:=rfl;have o:∀t,ZS (Xs (KG n (Zn (Kr q t))) p)=Xs (KG n (Zn (Kr q t))) p:=fun t=>by unfold ZS;rw[Zf (by show¬(2:Int)=1;decide)]
    have a:∀t,ZS (KG n (Zn (Kr q t)))=KG n (Zn (Kr q t)):=fun t=>by unfold ZS;rw[Zf (by show¬(0:Int)=1;decide)]
    have C:∀t,JW n (Zn (Kr q t)) (Xs (KG n (Zn (Kr q t))) p)=t+p.2.2.1:=fun t=>by unfold JW;rw[Zf (by show¬(2:Int)=1;decide),Zp (show (Xs (KG n (Zn (Kr q t))) p).1.1=2 from rfl)];rfl
    rw[o]at ex b u;obtain⟨Z,g2,S,g4,_⟩:=b;have H:(Zg n i c).1=p.2.1:=S;have a4:ZN+p.2.2.1<=(Zg n i c).2.2.1:=I;have a5:=A.time J T;have f:=Ziw q.1 p.2.1 ZN ((Zg n i c).2.2.1 - p.2.2.1) p.2.2.1 (Zg n i c).2.2.1;refine⟨(Zg n i c).2.2.1 - p.2.2.1,Kf q.1 p.2.1 ((Zg n i c).2.2.1 - p.2.2.1) (Zg n i c).2.2.1,[ZP n i c d false],?_,fun h=>absurd h (by simp),rfl,by omega,?_,?_,⟨i,c,p.2.2.1,J,T,.inr ⟨p,K,w1,H.symm,rfl⟩,rfl⟩,?_⟩
    ·subst ex;show WQ ([]++[Kf q.1 p.2.1 ZN (ZN+p.2.2.1)]) (Zg n i c).2.2.1++[ZP n i c d false]=_;rw[Vga,f.1];rfl
    ·subst ex;show _<=(Zg n i d).2.1;omega
    ·subst ex;show (0:Int)<0+1;omega
    ·refine .step (.step .start (YI.2 (.inr (.inr ⟨fun h=>absurd h (by show¬(0:Int)=1;decide),by show (0:Int)≠2;decide,Dr.2 ⟨p,K,?_,rfl⟩⟩)))) (YI.2 (.inr (.inl ⟨fun h=>absurd h (by rw[a];show¬(2:Int)=1;decide),GH.2 ⟨i,c,d,J,B,V,?_,?_,v,?_⟩⟩)))
     ·rw[a];refine⟨w1,w2,?_⟩;show (Zg n i c).2.2.1 - p.2.2.1+p.2.2.1<=_;omega
     ·rw[a,o,C];exact⟨Z,g2,S,g4,.inl (by omega)⟩
     ·rw[a,o];exact u
     ·rw[a,o,ex];unfold XI Xp
      have e:WQ (Xs (KG n (Zn (Kr q ZN))) p).2.2.2.2.2.1 (Zg n i c).2.2.1=WQ (Xs (KG n (Zn (Kr q ((Zg n i c).2.2.1 - p.2.2.1)))) p).2.2.2.2.2.1 (Zg n i c).2.2.1:=by show WQ ([]++[Kf q.1 p.2.1 ZN (ZN+p.2.2.1)]) _=WQ ([]++[Kf q.1 p.2.1 ((Zg n i c).2.2.1 - p.2.2.1) ((Zg n i c).2.2.1 - p.2.2.1+p.2.2.1)]) _;rw[Vga,Vga,f.1,f.2]
      simp only;rw[e];rfl
   ·have D:WQ (ZS l).2.2.2.2.2.1 (Zg n i c).2.2.1=y::L:=by rw[s5,M];refine Zfu (fun z hz=>?_) _;obtain⟨rfl,hL⟩:=List.cons.inj hz;exact Y hL
    refine⟨g,y,L++[ZP n i c d false],?_,fun h=>absurd h (by simp),N,O,?_,?_,Q,.step R (by rw[ZhR n q g ZN l];exact X)⟩
    ·subst ex;show WQ (ZS l).2.2.2.2.2.1 (Zg n i c).2.2.1++[ZP n i c d false]=_;rw[D];rfl
    ·subst ex;show _<=(Zg n i d).2.1;omega
    ·subst ex;show (0:Int)<(ZS l).2.2.1+1;rw[s3];omega
  ·
   obtain⟨p,K,s,ex⟩:=Dr.1 hw;have a2:=A.path p K;rcases ih with ⟨hr,E|⟨p',a7,a3,G⟩⟩|⟨g,y,L,M,Y,N,O,e5,W,Q,R⟩
   ·subst E;have a:ZS (KG n (Zn (Kr q ZN)))=KG n (Zn (Kr q ZN)):=by unfold ZS;rw[Zf (by show¬(0:Int)=1;decide)]
    rw[a]at s ex;exact .inl ⟨by rw[ex];rfl,.inr ⟨p,K,s,ex⟩⟩
   ·exact absurd (by rw[G];rfl) k2
   ·right;refine⟨g,y,L++[Kf (ZS l).1.2.1 p.2.1 (ZS l).2.1 ((ZS l).2.1+p.2.2.1)],?_,fun h=>absurd h (by simp),N,O,?_,?_,Q,.step R (by rw[ZhR n q g ZN l];exact X)⟩
    ·subst ex;show (ZS l).2.2.2.2.2.1++_=_;rw[s5,M];rfl
    ·subst ex;show g<=(ZS l).2.1+p.2.2.1;rw[s2];omega
    ·subst ex;show (0:Int)<(ZS l).2.2.1;rw[s3];exact W
end Q
namespace Q
open Tr Go
variable {n:Zh}{q:Zt}{L:List Zv}
theorem Zf1(q a:Zt)(hL:L≠ []):F78 n a (L,())=F78 n q (L,()):=by
 have b:0<L.length:=Vcc.2 hL;unfold F78
 grind
theorem Zf0(h:Kz n q):∃t,F78 n q ([],())=some ((q.2.2.1,q.2.2.1,0,0,0,()),t,0):=ZdD h.fit h.whole h.fr q (L:=[]) (by simp) (by simp) (rs:=[]) rfl (by simp) (by simp)
theorem ZgU:∀(M:Nat) (l:List Nat),l.Nodup->(∀a∈l,a<M)->l.length<=M
 |0,l,_,h=>by
  cases l with
  |nil=>simp
  |cons a l=>exact absurd (h a (by simp)) (by omega)
 |M+1,l,hn,h=>by
  by_cases hm:M∈l
  ·have b:=ZgU M (l.erase M) (hn.erase M) (by grind)
   grind
  ·have:=ZgU M l hn (by grind);omega
def Zfb(a:List Int)(x:KA):Prop:=x.2.1.1∈a/\(0<=x.2.1.2.2.1/\x.2.1.2.2.1<=3)/\(0<=x.2.1.2.2.2.2.1/\x.2.1.2.2.2.2.1<=86400)
theorem Zq9{q:Zt}(E:q.2.2.2.1=true)(d:List Int){l:List KA}(f:HD q l)(g:∀x∈l,Zfb d x):l.length<=d.length*345604:=by
 have s:∀c:YR,Z2 q c=[Vb .i64 (0 - c.1),c.2.2.1,c.2.2.2.1,c.2.2.2.2.1]:=fun c=>by unfold Z2;grind
 have j:(l.map fun x:KA=>d.idxOf x.2.1.1*345604+(x.2.1.2.2.1.toNat*86401+x.2.1.2.2.2.2.1.toNat)).Nodup:=by
  rw[List.Nodup,Via];refine List.Pairwise.imp_of_mem ?_ f;intro x y k t b e;obtain⟨r,u,v⟩:=g x k;obtain⟨w,F,G⟩:=g y t;have z:d.idxOf x.2.1.1=d.idxOf y.2.1.1:=by omega
  have A:x.2.1.2.2.1=y.2.1.2.2.1:=by omega
  have B:x.2.1.2.2.2.2.1=y.2.1.2.2.2.2.1:=by omega
  have C:x.2.1.1=y.2.1.1:=by
   have D:=List.getElem_idxOf (List.idxOf_lt_length_iff.2 r)
   grind
  have o:KI q x=[Vb .i64 (0 - x.2.1.1),x.2.1.2.2.1,x.2.1.2.2.2.1,x.2.1.2.2.2.2.1]:=s _;have p:KI q y=[Vb .i64 (0 - x.2.1.1),x.2.1.2.2.1,y.2.1.2.2.2.1,x.2.1.2.2.2.2.1]:=by grind
  rw[o,p]at b;rcases Int.le_total x.2.1.2.2.2.1 y.2.1.2.2.2.1 with h|h
  ·refine b.1 fun i f=>?_
   grind
  ·refine b.2 fun i f=>?_
   grind
 have:=ZgU (d.length*345604) _ j fun a ha=>by
  obtain⟨x,k,rfl⟩:=Vg.1 ha;obtain⟨r,u,v⟩:=g x k
  grind
 grind
def KN(q:Zt)(p:ZO):Zv:=Kf q.1 q.2.1 (q.2.2.1 - p.2.2.1) q.2.2.1
def JA(n:Zh)(q:Zt)(L:List Zv):Prop:=(L=[]/\q.1=q.2.1)\/ ∃p∈n.2.2.2.2.1,p.1=q.1/\p.2.1=q.2.1/\L=[KN q p]
theorem Zkt(h:Kz n q)(a:q.1=q.2.1):Jn n q []:=by have c:=h.qnum;exact⟨fun i b=>absurd b (by simp),fun h=>absurd h (by simp),fun _=>a,fun h=>absurd h (by simp),by show (0:Int)<=_;omega,by show (0:Int)<=_;omega,by simp⟩
theorem Zd5(h:Kz n q){p:ZO}(b:p∈n.2.2.2.2.1):∃t,F78 n q ([KN q p],())=some ((q.2.2.1 - p.2.2.1,q.2.2.1,0,0,KE [KN q p],()),t,0):=by have c:=h.whole.ok.path p b;have d:=h.qnum;exact ZdD h.fit h.whole h.fr q (L:=[KN q p]) (by simp) (fun x a=>by rw[Vj]at a;subst a;show q.2.2.1<=_;omega) (rs:=[]) (Zj0 ..) (by simp) (by simp)
theorem Znf{p:ZO}(a:0<=q.2.2.1 - p.2.2.1)(b:0<=p.2.2.1/\p.2.2.1<=14400):KE [KN q p]=p.2.2.1:=by unfold KE Yn KN Kf;simp only[Vdc,Vyc,Vec,Vzc];rw[Zf (by simp;omega)];omega
theorem ZuQ(h:Kz n q)(c:q.2.2.2.1=true){p:ZO}(f:p∈(Zz n q).2.2.2.2.1)(g:p.1=q.1)(j:p.2.1=q.2.1)(k:p.2.2.1<=q.2.2.2.2.2.1)(s:p.2.2.1<=q.2.2.1):Jn n q [KN q p]:=by
 have a:=h.wholeM;have o:=a.ok.path p f;have b:=h.qnum;have d:=b.2.2.2.2.2 c;refine⟨fun i l=>?_,fun _=>rfl,fun h=>absurd h (by simp),fun _ _=>Vjb _,b.2.2.2.1,by rw[Znf (by omega) (by omega)];exact k,by simp⟩;have:i=0:=by simpa using l
 subst this;refine Wr.2 ⟨?_,?_,?_⟩
 ·refine((R5 a.ok).2 ⟨p,f,q.2.2.1 - p.2.2.1,?_,by omega,by omega⟩).1;show KN q p=_;unfold KN;rw[g,j];congr 1;omega
 ·show Ji (Zz n q) (Zn q) [KN q p]=0;refine XF.2 ⟨rfl,rfl,rfl,?_,?_,?_⟩
  ·have e:(Zn q).2.2.2.1=true:=c;rw[e];show (!false&& (decide (1=1) && !decide (q.2.2.1=q.2.2.1)))=false;simp
  ·have e:(Zn q).2.2.2.1=true:=c;rw[e];rfl
  ·have e:(Zn q).2.2.2.2.2.2.2.2.2.1=false:=d;rw[e];rfl
 ·intro r;cases r
theorem ZqC(h:Kz n q){p:ZO}(f:p∈n.2.2.2.2.1):F48 n q ([KN q p],())=some (bif q.2.2.2.1&&decide (q.2.2.1<q.2.2.1) then 10 else bif decide (q.2.2.2.2.1<0) then 33 else bif decide (q.2.2.2.2.2.1<KE [KN q p]) then 32 else 0):=by
 have g:=h.qnum;obtain⟨t,d⟩:=Zd5 h f;have b:F82 ([KN q p],())=some (KE [KN q p]):=Zng ([KN q p],()) (by simp) (fun x a=>by rw[Vj]at a;subst a;show q.2.2.1<=_;omega);have a:idx [KN q p] (0:Int)=some (KN q p):=rfl;have e:Vb .i64 (([KN q p].length:Int) - 1)=0:=by show Vb .i64 ((1:Int) - 1)=0;decide
 unfold F48;simp only[e,a,Za];refine KF (fun r:Int=>r=0) ?_ ?_
 ·refine Kq 1 _ (fun i (s:Int×Int)=>s=((0:Int),(i:Int))) ?_ ?_ _ rfl
  ·rintro i _ j rfl;left;have:i=0:=by omega
   subst this;exact⟨_,rfl,by decide⟩
  ·rintro _ rfl;exact⟨_,rfl,rfl⟩
 ·rintro _ rfl;have c:(!decide ((KN q p).2.2.2.2.2.1=q.2.1))=false:=by show (!decide (q.2.1=q.2.1))=false;simp
  rw[c];simp only[Ze];refine ZiD (Zel ?_);rw[b];simp only[Za];refine Zel ?_;rw[d];rfl
theorem ZqB(h:Kz n q)(v:q.2.2.2.1=true){L:List Zv}(d:JA n q L):∃i e,F30 n q (L,())=some (i,e)/\(e=0↔Jn n q L):=by
 have k:=h.qnum;unfold F30;rw[ZbV h.fit,h.chk];simp only[Za,decide_true,Vl,Ze];rcases d with ⟨rfl,l⟩|⟨p,t,x,y,rfl⟩
 ·refine⟨0,0,?_,fun _=>Zkt h l,fun _=>rfl⟩;rw[Zd l];rfl
 have w:=h.whole.ok.path p t;have f:decide (([KN q p].length:Int)=0)=false:=by show decide ((1:Int)=0)=false;decide
 rw[f];simp only[Ze]
 have b:F49 n q ([KN q p],())=some (if WI n q [KN q p] 0=0 then((1:Int),(0:Int)) else(0,WI n q [KN q p] 0)):=by
  unfold F49
  refine KF (fun r:Unit ⊕ (Int×Int)=>r=if WI n q [KN q p] 0=0 then .inl () else .inr (0,WI n q [KN q p] 0)) ?_ ?_
  ·refine Kq 1 _ (fun i (s:Zh×Zt×List Zv×Int×Unit)=>s=(n,q,[KN q p],(i:Int),())/\(0<i->WI n q [KN q p] 0=0)) ?_ ?_ _ ⟨rfl,fun h=>by omega⟩
   ·rintro i _ o ⟨rfl,_⟩;have:i=0:=by omega
    subst this;have j:F43 (n,q,[KN q p],((0:Nat):Int),())=some (WI n q [KN q p] 0):=ZpG h rfl;have g:decide (((0:Nat):Int)<([KN q p].length:Int))=true:=by show decide ((0:Int)<(1:Int))=true;decide
    simp only[g,Zc,j,Za];by_cases a:WI n q [KN q p] 0=0
    ·left;rw[Zd a];exact⟨_,rfl,rfl,fun _=>a⟩
    ·right;rw[Zk a,Zf a];exact⟨_,rfl,rfl⟩
   ·rintro _ ⟨rfl,a⟩;rw[Zp (a (by omega))];exact⟨_,rfl,rfl⟩
  ·rintro _ rfl;split
   ·rfl
   ·rfl
 rw[b];simp only[Za];by_cases a:WI n q [KN q p] 0=0
 case neg=>
  rw[Zf a];simp only;rw[Zk a];exact⟨_,_,rfl,fun e=>absurd e a,fun c=>absurd (ZiN.1 (c.fine 0 (by simp))) a⟩
 rw[Zp a];simp only[decide_true,Vl,Ze];rw[ZqC h t,v,Zk (show¬q.2.2.1<q.2.2.1 by omega),Zk (show¬q.2.2.2.2.1<0 by omega)];simp only[Vyb,Ze,Za];by_cases u:q.2.2.2.2.2.1<KE [KN q p]
 ·rw[Zd u];exact⟨_,_,rfl,fun e=>absurd e (by simp),fun c=>by have:=c.walk;omega⟩
 ·rw[Zk u];refine⟨_,_,rfl,fun _=>⟨fun i o=>?_,fun _=>rfl,fun h=>absurd h (by simp),fun _ _=>Vjb _,k.2.2.2.1,by omega,by simp⟩,fun _=>rfl⟩;have:i=0:=by simpa using o
  subst this;exact ZiN.2 a
theorem Zri(h:Kz n q){L:List Zv}(a:JA n q L):∃c t,F78 n q (L,())=some (c,t,0):=by
 rcases a with ⟨rfl,_⟩|⟨p,d,_,_,rfl⟩
 ·obtain⟨t,b⟩:=Zf0 h;exact⟨_,t,b⟩
 ·obtain⟨t,b⟩:=Zd5 h d;exact⟨_,t,b⟩
theorem Zn9(h:Kz n q)(V:q.2.2.2.1=true):∃l,F136 n q=some l/\l.length<=61/\HD q l/\(∀x∈l,∃L,x.1=(L,())/\JA n q L/\Jn n q L/\F78 n q (L,())=some (x.2.1,x.2.2.1,0))/\
 ∀L,JA n q L->Jn n q L->∀c t,F78 n q (L,())=some (c,t,0)->∃x∈l,ZT (KI q x) (Z2 q c):=by
 have X:(ZE:Nat)=549755813888:=rfl;have U:=h.tin.paths;have Z:=h.qnum;unfold F136;refine Wf (fun A:List GV=>A.length<=1/\ ∀j,j∈A↔j=([],())/\q.1=q.2.1) ?_ ?_
 ·by_cases he:q.1=q.2.1
  all_goals simp_all
 ·rintro A ⟨j1,j2⟩;refine Wf (fun J:List GV=>J.length<=61/\ ∀j,j∈J↔JA n q j.1) ?_ ?_
  ·refine Kq n.2.2.2.2.1.length _ (fun k (s:List GV×Int)=>s.2=(k:Int)/\s.1.length<=1+k/\ ∀j,j∈s.1↔(j.1=[]/\q.1=q.2.1)\/ ∃p∈n.2.2.2.2.1.take k,p.1=q.1/\p.2.1=q.2.1/\j.1=[KN q p]) ?_ ?_ _ ⟨rfl,by simpa using j1,fun j=>?_⟩
   ·rintro k ⟨J,_⟩ e ⟨rfl,z,g⟩;left;simp only at z g;have M:idx n.2.2.2.2.1 (k:Int)=some n.2.2.2.2.1[k]:=ZH e;have Y:=h.whole.ok.path _ (Vi e);have f:∀w,w∈n.2.2.2.2.1.take (k+1)↔w∈n.2.2.2.2.1.take k\/w=n.2.2.2.2.1[k]:=fun w=>by rw[Vd e,Vu,Vj]
    generalize n.2.2.2.2.1[k]=p at*;have I:Vb .i64 (q.2.2.1 - p.2.2.1)=q.2.2.1 - p.2.2.1:=Zs (by omega) (by omega);simp only[ZU e,Zc,M,Za,I,Z8 e (by omega)]
    have skip:¬(p.1=q.1/\p.2.1=q.2.1)->∀j:GV,j∈J↔(j.1=[]/\q.1=q.2.1)\/ ∃p∈n.2.2.2.2.1.take (k+1),p.1=q.1/\p.2.1=q.2.1/\j.1=[KN q p]:=fun hn j=>by
     rw[g j];refine or_congr Iff.rfl ⟨fun⟨K,a,b⟩=>⟨K,(f K).2 (.inl a),b⟩,fun⟨K,a,b⟩=>?_⟩
     grind
    by_cases B:p.1=q.1
    case neg=>rw[Zk B];exact⟨_,rfl,rfl,by grind,by grind⟩
    rw[Zd B];by_cases C:p.2.1=q.2.1
    case neg=>rw[Zk C];exact⟨_,rfl,rfl,by grind,by grind⟩
    rw[Zd C];have v:((false,0,0,0,p.1,p.2.1,q.2.2.1 - p.2.2.1,q.2.2.1,false,()):Zv)=KN q p:=by rw[B,C];rfl
    simp only[Zc,Za];rw[v]
    have hg:ZD (decide (J.length+ [(([KN q p],()):GV)].length<=ZE))=some ():=by rw[Zd (by grind)];rfl
    refine⟨(J++[([KN q p],())],((k+1:Nat):Int)),?_,rfl,by grind,fun j=>?_⟩
    all_goals grind
   ·rintro ⟨J,_⟩ ⟨rfl,z,g⟩;rw[Vw]at g;have a0:J.length<=1+n.2.2.2.2.1.length:=z;exact⟨J,by simp,by omega,g⟩
   grind
  ·rintro J ⟨z,g⟩
   refine Wf (fun l:List KA=>l.length<=61/\HD q l/\(∀x∈l,∃L,x.1=(L,())/\JA n q L/\Jn n q L/\F78 n q (L,())=some (x.2.1,x.2.2.1,0))/\
    ∀L,JA n q L->Jn n q L->∀c t,F78 n q (L,())=some (c,t,0)->∃x∈l,ZT (KI q x) (Z2 q c)) ?_ (by grind)
   refine Kq J.length _ (fun k (s:List KA×List GV×Int)=>s.2=(J,(k:Int))/\s.1.length<=k/\HD q s.1/\(∀x∈s.1,∃L,x.1=(L,())/\JA n q L/\Jn n q L/\F78 n q (L,())=some (x.2.1,x.2.2.1,0))/\
    ∀j∈J.take k,Jn n q j.1->∀c t,F78 n q j=some (c,t,0)->∃x∈s.1,ZT (KI q x) (Z2 q c)) ?_ ?_ _ ⟨rfl,by simp,.nil,by simp,by simp⟩
   ·rintro k ⟨out,_⟩ e ⟨rfl,o1,N,o3,O⟩;left;simp only at o1 N o3 O;have f:∀w,w∈J.take (k+1)↔w∈J.take k\/w=J[k]:=fun w=>by rw[Vd e,Vu,Vj]
    have u:=(g _).1 (Vi e);have H:=Va e;generalize J[k]=j at*;obtain⟨Q,⟨⟩⟩:=j;obtain⟨i0,e0,G,o⟩:=ZqB h V u;simp only[ZU e,Zc,Ke e,H,Za,G,Z8 e (by omega)];by_cases d:e0=0
    ·have F:=o.1 d;rw[Zd d];obtain⟨c,t,W⟩:=Zri h u;obtain⟨l',f1,f2,f3,f4,S,T⟩:=Zlh q (l:=out) ((Q,()),c,t,()) (by omega);simp only[Zc,W,Za];refine⟨(l',J,((k+1:Nat):Int)),?_,rfl,by grind,T N,fun x M=>?_,fun j r E R t' D=>?_⟩
     ·grind
     ·grind
     ·rcases (f j).1 r with r|rfl
      ·obtain⟨x,x1,x2⟩:=O j r E R t' D;obtain⟨y,y1,y2⟩:=S x x1;exact⟨y,y1,Rf y2 x2⟩
      grind
    ·have F:=fun r=>d (o.2 r);rw[Zk d]
     grind
   grind
end Q
namespace Q
open Tr Go
variable {n:Zh}{q:Zt}{L:List Zv}
theorem Zpk{i c:Nat}(a:i<n.2.2.1.length):(Zg (Zz n q) i c).1=(Zg n i c).1/\(Zg (Zz n q) i c).2.1=(Zg n i c).2.1/\(Zg (Zz n q) i c).2.2.1=(Zg n i c).2.2.1:=by
 have:Zg (Zz n q) i c=WJ n q (Zg n i c):=by unfold Zg;rw[ZaH a,Zdx]
 rw[this,Zdy];exact⟨rfl,rfl,rfl⟩
theorem ZaC(h:Kz n q){t:Int}(g:0<=t)(j:t<=3155932800):Kz n (Kr q t):=by refine⟨h.fr,h.fit,h.few,ZbW.2 ⟨h.whole,?_⟩,h.tin,h.max⟩;have a:=h.qb;unfold qB at a⊢;simp only[Vaa,KQ]at a⊢;obtain⟨b,c,_,d,e,f,_⟩:=a;refine⟨b,c,⟨g,j⟩,d,e,f,?_⟩;show (!(_&&false))=true;simp
structure Rd (n:Zh) (q:Zt) (l:Zu) (d:Int):Prop where
 rc:Rc (Zz n q) (Zn (Kr q d)) (KG (Zz n q) (Zn (Kr q d))) l
 fin:Xq (Zz n q) (Zn (Kr q d)) l
 rides:0<l.2.2.1
 time:l.2.1<=q.2.2.1
 dep:(l.2.2.2.2.2.1[0]?).map (fun x=>x.2.2.2.2.2.2.1)=some d
 first:0<=d/\d<=q.2.2.1
 near:∃i c w,i<n.2.2.1.length/\c<(Zl n i).length/\Rj n q (Zg n i c).1 w/\d=(Zg n i c).2.2.1 - w
theorem Zeu{l:Zu}{d:Int}(h:Rd n q l d):l.2.2.2.2.2.1≠ []:=fun e=>by have:=h.dep;rw[e]at this;cases this
theorem Zhd(h:Kz n q){l:Zu}{d:Int}(a:Rd n q l d){c:YR}{t:List (Int×Int×Int×Int×Unit)}(o:F78 n q (l.2.2.2.2.2.1,())=some (c,t,0)):
 c.1=d/\c.2.1=l.2.1/\c.2.2.1=l.2.2.1/\c.2.2.2.2.1=l.2.2.2.1/\0<=c.2.2.2.1:=by
 have p:=h.qnum
 have ha:=ZaC h a.first.1 (by have:=a.first.2;omega)
 have e:=ha.li a.rc;have f:=e.val.len;have b:l.2.2.2.2.2.1.length<=90:=by omega
 have j:=ZdC h.fit h.whole (Kr q d) (Zn (Kr q d)) rfl b;have k:=Zf1 (n:=n) q (Kr q d) (Zeu a);obtain⟨r,g⟩:=Zcp (Zb5 ha.fit) ha.wholeM ha.fr ha.qi e;rw[j,k,o]at g;obtain⟨rfl,_⟩:=Vra (Option.some.inj g);refine⟨?_,rfl,rfl,rfl,Vjb _⟩;show ((l.2.2.2.2.2.1[0]?).map fun x=>x.2.2.2.2.2.2.1).getD _=d;rw[a.dep];rfl
theorem Zll(h:Kz n q)(C:q.2.2.2.1=true){t:Int}(B:0<=t)(Q:t<=q.2.2.1){l:Zu}(H:Rc (Zz n q) (Zn (Kr q t)) (KG (Zz n q) (Zn (Kr q t))) l)(f:Xq (Zz n q) (Zn (Kr q t)) l)(J:0<l.2.2.1)(k:l.2.1<=q.2.2.1):∃d,t<=d/\Rd n q l d:=by
 have j:=h.qnum;have ha:=ZaC h B (by omega);have g:=j.2.2.2.2.2 C;rcases Zhc ha.wholeM ha.tinM ha.qi g ha.li0 H with ⟨R,_⟩|⟨d,x,L,s,_,u,v,N,_,⟨i,c,w,F,D,K,E⟩,y⟩
 ·omega
 ·have b:i<n.2.2.1.length:=by have:(Zz n q).2.2.1.length=n.2.2.1.length:=Vf ..;have G:i<(Zz n q).2.2.1.length:=F;omega
  obtain⟨z,O,A⟩:=Zpk (n:=n) (q:=q) (c:=c) b;refine⟨d,v,y,f,J,k,by rw[s, <-u];rfl,⟨by omega,by omega⟩,i,c,w,b,?_,?_,?_⟩
  ·have e:c<(Zl (Zz n q) i).length:=D;rw[ZaH b,Vf]at e;exact e
  ·rw[<-z];rcases K with ⟨o,r⟩|⟨p,I,o,r,M⟩
   ·exact .inl ⟨o,r⟩
   ·refine .inr ⟨p,?_,o,r,M⟩;have a:p∈JJ n q:=I;unfold JJ at a;split at a
    ·exact(Vla.1 a).1
    ·exact a
  ·rw[<-A];exact E
def Zc4(n:Zh)(q:Zt)(x:KA):Prop:= ∃L,x.1=(L,())/\F78 n q (L,())=some (x.2.1,x.2.2.1,0)/\((JA n q L/\Jn n q L)\/ ∃l d,Rd n q l d/\l.2.2.2.2.2.1=L)
theorem Zbs(a:q.2.2.2.1=true)(c:YR)(b:0<=c.1)(d:c.1<=3155932800):Z2 q c=[-c.1,c.2.2.1,c.2.2.2.1,c.2.2.2.2.1]:=by unfold Z2;rw[Zp a,Zs (by omega) (by omega),Int.zero_sub]
theorem ZgB{a b c d e f c' g:Int}(h:a<=e)(j:b<=f)(k:c<=c')(l:d<=g):ZT [a,b,c,d] [e,f,c',g]:=by
 intro i o;rcases (show i=0\/i=1\/i=2\/i=3 by omega) with rfl|rfl|rfl|rfl
 ·exact h
 ·exact j
 ·exact k
 ·exact l
theorem Zsk{a b c d e f c' g:Int}(h:ZT [a,b,c,d] [e,f,c',g]):a<=e/\b<=f/\c<=c' /\d<=g:=⟨h 0 (by omega),h 1 (by omega),h 2 (by omega),h 3 (by omega)⟩
theorem Zr8(h:Kz n q)(f:q.2.2.2.1=true){t:Int}(Y:0<=t)(h1:t<=q.2.2.1):∃R:List KA,F146 n (Kr q t)=some (R,0)/\R.length<=542198816521/\
 (∀x∈R,0<x.2.1.2.2.1->x.2.1.2.1<=q.2.2.1->Zc4 n q x/\ ∃l d,Rd n q l d/\t<=d/\x.1=(l.2.2.2.2.2.1,()))/\
 ∀l,Rd n q l t->∀c tk,F78 n q (l.2.2.2.2.2.1,())=some (c,tk,0)->(∃x∈R,0<x.2.1.2.2.1/\x.2.1.2.1<=q.2.2.1/\ZT (KI q x) (Z2 q c))\/ ∃L c' v,JA n q L/\Jn n q L/\F78 n q (L,())=some (c',v,0)/\ZT (Z2 q c') (Z2 q c):=by
 have o:=h.qnum;have ha:=ZaC h Y (by omega);obtain⟨R,r1,r2,r3,r4,_⟩:=ZjX ha rfl;have F:∀c:YR,Z2 (Kr q t) c=[c.2.1,c.2.2.1,c.2.2.2.1,c.2.2.2.2.1]:=fun c=>rfl
 have Gb:∀x:KA,x∈R->∃l,Rc (Zz n q) (Zn (Kr q t)) (KG (Zz n q) (Zn (Kr q t))) l/\x.1=(l.2.2.2.2.2.1,())/\Xq (Zz n q) (Zn (Kr q t)) l/\x.2.1.2.1=l.2.1/\x.2.1.2.2.1=l.2.2.1/\x.2.1.2.2.2.2.1=l.2.2.2.1:=fun x J=>by
  obtain⟨G,l,r,s,u⟩:=r3 x J;have A:=ha.li r;have a0:=A.val.len;have z:l.2.2.2.2.2.1.length<=90:=by omega
  have I:=ZdC h.fit h.whole (Kr q t) (Zn (Kr q t)) rfl z;rw[s]at G;obtain⟨v,X⟩:=Zcp (Zb5 ha.fit) ha.wholeM ha.fr ha.qi A;rw[I,G]at X;have e:=(Vra (Option.some.inj X)).1;exact⟨l,r,s,u,by rw[e],by rw[e],by rw[e]⟩
 have good:∀x:KA,x∈R->0<x.2.1.2.2.1->x.2.1.2.1<=q.2.2.1->Zc4 n q x/\ ∃l d,Rd n q l d/\t<=d/\x.1=(l.2.2.2.2.2.1,()):=fun x J Q a6=>by obtain⟨l,r,s,u,I,e2,_⟩:=Gb x J;obtain⟨d,w,H⟩:=Zll h f Y h1 r u (by omega) (by omega);have G:=(r3 x J).1;rw[s,Zf1 (n:=n) q (Kr q t) (Zeu H)]at G;exact⟨⟨l.2.2.2.2.2.1,s,G,.inr ⟨l,d,H,rfl⟩⟩,l,d,H,w,s⟩
 refine⟨R,r1,r2,good,fun l j c tk Z=>?_⟩;obtain⟨n1,n2,n3,n4,n5⟩:=Zhd h j Z;have K:F78 n (Kr q t) (l.2.2.2.2.2.1,())=some (c,tk,0):=by rw[Zf1 (n:=n) q (Kr q t) (Zeu j)];exact Z
 obtain⟨x,U,x2⟩:=r4 l j.rc j.fin c tk K;rw[F,F]at x2;obtain⟨y1,y2,y3,y4⟩:=Zsk x2;have a2:=j.time;have g:Z2 q c=[-c.1,c.2.2.1,c.2.2.2.1,c.2.2.2.2.1]:=Zbs f c (by omega) (by omega);by_cases Q:0<x.2.1.2.2.1
 ·left;obtain⟨⟨L',o1,o2,_⟩,T,d,w,H,V⟩:=good x U Q (by omega);have hL:L' =T.2.2.2.2.2.1:=by rw[o1]at V;exact(Vra V).1
  subst hL;obtain⟨m1,_⟩:=Zhd h w o2
  have S:KI q x=[-x.2.1.1,x.2.1.2.2.1,x.2.1.2.2.2.1,x.2.1.2.2.2.2.1]:=Zbs f x.2.1 (by have:=w.first;omega) (by have:=w.first;omega)
  refine⟨x,U,Q,by omega,?_⟩;rw[S,g];exact ZgB (by omega) y2 y3 y4
 ·right;obtain⟨T,r,s,u,I,e2,W⟩:=Gb x U;have B:=ha.li r;have a5:=B.val.rides;have a1:T.2.2.1=0:=by omega
  have M:=o.2.2.2.2.2 f;rcases Zhc ha.wholeM ha.tinM ha.qi M ha.li0 r with ⟨_,N|⟨p,hp,⟨w1,w2,_⟩,O⟩⟩|⟨_,_,_,_,_,_,_,_,e6,_⟩
  ·subst N;have y:q.1=q.2.1:=u.2;obtain⟨v,b⟩:=Zf0 h;refine⟨[],_,v,.inl ⟨rfl,y⟩,Zkt h y,b,?_⟩;rw[g,Zbs f _ o.2.2.1.1 o.2.2.1.2];have a8:x.2.1.2.2.2.2.1=0:=W;refine ZgB ?_ ?_ n5 ?_
   ·show -q.2.2.1<= -c.1;omega
   ·show (0:Int)<=_;have:=j.rides;omega
   ·show (0:Int)<=_;omega
  ·subst O;have k:p∈(Zz n q).2.2.2.2.1:=hp;have a4:=h.wholeM.ok.path p k
   have E:p∈n.2.2.2.2.1:=by
    have a:p∈JJ n q:=k;unfold JJ at a;split at a
    ·exact(Vla.1 a).1
    ·exact a
   have C:p.1=q.1:=w1;have D:p.2.1=q.2.1:=u.2;have a3:0+p.2.2.1<=q.2.2.2.2.2.1:=w2;have a7:x.2.1.2.1=t+p.2.2.1:=I;have a9:x.2.1.2.2.2.2.1=0+p.2.2.1:=W;obtain⟨v,b⟩:=Zd5 h E;rw[Znf (by omega) (by omega)]at b;refine⟨[KN q p],_,v,.inr ⟨p,E,C,D,rfl⟩,ZuQ h f k C D (by omega) (by omega),b,?_⟩;rw[g,Zbs f _ (by show 0<=q.2.2.1 - p.2.2.1;omega) (by show q.2.2.1 - p.2.2.1<=_;omega)];refine ZgB ?_ ?_ n5 ?_
   ·show -(q.2.2.1 - p.2.2.1)<= -c.1;omega
   ·show (0:Int)<=_;have:=j.rides;omega
   ·show p.2.2.1<=_;omega
  ·omega
end Q
namespace Q
open Tr Go
variable {n:Zh}{q:Zt}
def RA(n:Zh)(q:Zt)(a:List Int)(l:List KA):Prop:=HD q l/\ ∀x∈l,Zc4 n q x/\Zfb a x
def JO(q:Zt)(l:List KA)(v:List Int):Prop:= ∃y∈l,ZT (KI q y) v
theorem ZsU(h:Kz n q){l:Zu}{d:Int}(b:Rd n q l d){c:YR}{t:List (Int×Int×Int×Int×Unit)}(e:F78 n q (l.2.2.2.2.2.1,())=some (c,t,0)):c.1=d/\(0<=c.2.2.1/\c.2.2.1<=3)/\(0<=c.2.2.2.2.1/\c.2.2.2.2.1<=86400):=by
 obtain⟨g,_,r,s,_⟩:=Zhd h b e;have f:=h.qnum
 have ha:=ZaC h b.first.1 (by have:=b.first.2;omega)
 have a:=ha.li b.rc;have j:l.2.2.1<=q.2.2.2.2.1:=a.val.rides.2;have k:=a.val.rides.1;have o:l.2.2.2.1<=q.2.2.2.2.2.1:=a.val.walk.2;have p:=a.val.walk.1;have:=h.max;exact⟨g,⟨by omega,by omega⟩,⟨by omega,by omega⟩⟩
theorem Zs0(h:Kz n q)(hb:q.2.2.2.1=true):∃R:List KA,F132 n q=some (R,0)/\R.length<4294967296/\(R.Pairwise fun x y=>Wy (KI q x) (KI q y))/\HD q R/\(∀x∈R,Zc4 n q x)/\
 ∀L,((JA n q L/\Jn n q L)\/ ∃l d,Rd n q l d/\l.2.2.2.2.2.1=L)->∀c t,F78 n q (L,())=some (c,t,0)->JO q R (Z2 q c):=by
 have a8:=h.qnum;have b4:(ZE:Nat)=549755813888:=rfl;obtain⟨A,a1,a2,a3,a4,a5⟩:=Zn9 h hb;obtain⟨ds,d1,d2,d3,d4⟩:=Zqa h.whole.ok h.tin a8.1
 have V:∀D,D=ds++A.map (fun x=>x.2.1.1)->D.length*345604<=906519292:=fun D hD=>by rw[hD,Vc,Vf];omega
 generalize U:ds++A.map (fun x:KA=>x.2.1.1)=D at V;have hD:=V D rfl;have bound:∀l,RA n q D l->l.length<=906519292:=fun l u=>Nat.le_trans (Zq9 hb D u.1 fun x f=>(u.2 x f).2) hD
 have O:RA n q D A:=by
  refine⟨a3,fun x f=>?_⟩;obtain⟨L,g,o,e3,T⟩:=a4 x f;refine⟨⟨L,g,T,.inl ⟨o,e3⟩⟩,by rw[<-U];exact Vbb _ (Vg.2 ⟨x,f,rfl⟩),?_⟩;rcases o with ⟨rfl,_⟩|⟨p,hp,_,_,rfl⟩
  ·obtain⟨t',a⟩:=Zf0 h;rw[a]at T;have:=(Vra (Option.some.inj T)).1;rw[<-this];exact⟨⟨by show (0:Int)<=0;omega,by show (0:Int)<=3;omega⟩,⟨by show (0:Int)<=0;omega,by show (0:Int)<=86400;omega⟩⟩
  ·have b5:=h.whole.ok.path p hp;obtain⟨t',a⟩:=Zd5 h hp;rw[a]at T;have:=(Vra (Option.some.inj T)).1;rw[<-this];refine⟨⟨by show (0:Int)<=0;omega,by show (0:Int)<=3;omega⟩,?_⟩;have e:KE [KN q p]=Yn (KN q p):=by unfold KE;simp
   have:=Zna (KN q p);show 0<=KE [KN q p]/\KE [KN q p]<=86400;omega
 unfold F132;rw[ZbV h.fit,h.chk,a1,d1];simp only[Za,decide_true,Vl,Ze,hb]
 suffices hs:∃r:List KA ⊕ (List KA×Int),_=some r/\ ∃out:List KA,r=.inl out/\RA n q D out/\(∀v,JO q A v->JO q out v)/\ ∀t∈ds,∀l,Rd n q l t->∀c tk,F78 n q (l.2.2.2.2.2.1,())=some (c,tk,0)->JO q out (Z2 q c) by
  obtain⟨_,g,out,rfl,S,k2,k3⟩:=hs;have b2:=bound out S
  have X:∀x∈out,∀y∈out,∃c,F133 x y q=some c/\(c<0↔Wy (KI q x) (KI q y))/\(0<c↔Wy (KI q y) (KI q x)):=fun x _ y _=>by obtain⟨z,z1,z2,z3⟩:=Zjk (Gp q x.2.1) (Gp q y.2.1);refine⟨z,?_,z2,z3⟩;unfold F133;rw[Zbt,Zbt];simp only[Za,z1]
  obtain⟨R,r1,r2,r3⟩:=Zmz (cmp:=fun x y=>F133 x y q) (fun x y=>Wy (KI q x) (KI q y)) out (by omega) X (fun x _=>Zcq _) (fun _ _ _ _ _ _=>ZgK) (S.1.imp fun {x y} B=>by
   rcases ZkP (Gp q x.2.1) (Gp q y.2.1) with e|e|e
   ·exact absurd (show ZT (KI q x) (KI q y) by show ZT (Z2 q x.2.1) (Z2 q y.2.1);rw[e];exact Dp _) B.1
   ·exact .inl e
   ·exact .inr e)
  refine⟨R,?_,by rw[r2.length_eq];omega,r3,?_,fun x f=>(S.2 x (r2.mem_iff.1 f)).1,fun L hL c t W=>?_⟩
  ·refine KF (fun x=>x=Sum.inl out) ⟨_,g,rfl⟩ (fun x f=>?_);subst f;simp only[Vkc];refine KF (fun x=>x=R) ⟨_,r1,rfl⟩ (fun x f=>?_);subst f;rfl
  ·exact(List.Perm.pairwise_iff (fun {x y} B=>⟨B.2,B.1⟩) r2.symm).1 S.1
  ·have Y:JO q out (Z2 q c):=by
    rcases hL with ⟨j1,j2⟩|⟨l,d,u,rfl⟩
    ·exact k2 _ (a5 L j1 j2 c t W)
    ·obtain⟨i,cc,w,hi,I,j,J⟩:=u.near
     have a0:d∈ds:=by rw[J];exact d4 i cc hi I w j (by rw[<-J];exact u.first.1) (by rw[<-J];exact u.first.2)
     exact k3 d a0 l u c t W
   obtain⟨y,C,E⟩:=Y;exact⟨y,r2.mem_iff.2 C,E⟩
 refine Kq ds.length (fun r:List KA ⊕ (List KA×Int)=>∃out:List KA,r=.inl out/\RA n q D out/\(∀v,JO q A v->JO q out v)/\ ∀t∈ds,∀l,Rd n q l t->∀c tk,F78 n q (l.2.2.2.2.2.1,())=some (c,tk,0)->JO q out (Z2 q c))
  (fun k (s:List KA×Int)=>s.2=(k:Int)/\RA n q D s.1/\(∀v,JO q A v->JO q s.1 v)/\ ∀t∈ds.take k,∀l,Rd n q l t->∀c tk,F78 n q (l.2.2.2.2.2.1,())=some (c,tk,0)->JO q s.1 (Z2 q c)) ?_ ?_ _ ⟨rfl,O,fun v M=>M,by simp⟩
 ·rintro k ⟨out,_⟩ Z ⟨rfl,o1,o2,o3⟩;left;simp only at o1 o2 o3;have f:idx ds (k:Int)=some ds[k]:=ZH Z;have a6:=d3 _ (Vi Z);have b0:∀w,w∈ds.take (k+1)↔w∈ds.take k\/w=ds[k]:=fun w=>by rw[Vd Z,Vu,Vj]
  generalize ds[k]=t at*;obtain⟨R,r1,r2,r3,r4⟩:=Zr8 h hb a6.1 a6.2;have a9:F146 n (q.1,q.2.1,t,false,q.2.2.2.2)=some (R,0):=r1;simp only[ZU Z,Zc,f,Za,a9,decide_true,Vl,Ze,Z8 Z (show ds.length<=9223372036854775807 by omega)];refine XW (fun b:List KA=>RA n q D b/\(∀v,JO q out v->JO q b v)/\ ∀x∈R,0<x.2.1.2.2.1->x.2.1.2.1<=q.2.2.1->JO q b (KI q x)) ?_ ?_
  ·refine Kq R.length _ (fun r (s:List KA×Int)=>s.2=(r:Int)/\RA n q D s.1/\(∀v,JO q out v->JO q s.1 v)/\ ∀x∈R.take r,0<x.2.1.2.2.1->x.2.1.2.1<=q.2.2.1->JO q s.1 (KI q x)) ?_ ?_ _ ⟨rfl,o1,fun v M=>M,by simp⟩
   ·rintro r ⟨cur,_⟩ hr ⟨rfl,F,Q,c3⟩;left;simp only at F Q c3;have N:idx R (r:Int)=some R[r]:=ZH hr;have K:=r3 _ (Vi hr);have H:∀w,w∈R.take (r+1)↔w∈R.take r\/w=R[r]:=fun w=>by rw[Vd hr,Vu,Vj]
    generalize R[r]=x at*;simp only[ZU hr,Zc,N,Za,Z8 hr (show R.length<=9223372036854775807 by omega)]
    have skip:¬(0<x.2.1.2.2.1/\x.2.1.2.1<=q.2.2.1)->∀w∈R.take (r+1),0<w.2.1.2.2.1->w.2.1.2.1<=q.2.2.1->JO q cur (KI q w):=fun hn w j g o=>by
     rcases (H w).1 j with j|rfl
     ·exact c3 w j g o
     ·exact absurd ⟨g,o⟩ hn
    by_cases g:0<x.2.1.2.2.1
    case neg=>rw[Zk g];exact⟨_,rfl,rfl,F,Q,skip fun h=>g h.1⟩
    rw[Zd g];by_cases o:x.2.1.2.1<=q.2.2.1
    case neg=>rw[Zk o];exact⟨_,rfl,rfl,F,Q,skip fun h=>o h.2⟩
    rw[Zd o];simp only[Zc,Za];obtain⟨g1,l,d,G,g3,g4⟩:=K g o;have b3:=bound cur F;obtain⟨l',f1,f2,f3,f4,f5,f6⟩:=Zlh q (l:=cur) x (by omega)
    have a7:Zfb D x:=by
     obtain⟨L',p1,p2,_⟩:=g1;have hL:L' =l.2.2.2.2.2.1:=by rw[p1]at g4;exact(Vra g4).1
     subst hL;obtain⟨S,k2,k3⟩:=ZsU h G p2;obtain⟨i,cc,w,hi,I,j,J⟩:=G.near;refine⟨?_,k2,k3⟩;rw[S, <-U];refine List.mem_append_left _ ?_;rw[J]
     exact d4 i cc hi I w j (by rw[<-J];exact G.first.1) (by rw[<-J];exact G.first.2)
    refine⟨(l',((r+1:Nat):Int)),?_,rfl,⟨f6 F.1,fun y N=>?_⟩,fun v M=>?_,fun w j p1 p2=>?_⟩
    ·exact KF (fun y=>y=l') ⟨_,f1,rfl⟩ (fun y N=>by subst N;rfl)
    ·rcases f3 y N with N|rfl
     ·exact F.2 y N
     ·exact⟨g1,a7⟩
    ·obtain⟨y,C,E⟩:=Q v M;obtain⟨z,z1,z2⟩:=f5 y C;exact⟨z,z1,Rf z2 E⟩
    ·rcases (H w).1 j with j|rfl
     ·obtain⟨y,C,E⟩:=c3 w j p1 p2;obtain⟨z,z1,z2⟩:=f5 y C;exact⟨z,z1,Rf z2 E⟩
     ·exact f4
   ·rintro ⟨cur,_⟩ ⟨rfl,F,Q,c3⟩;rw[Vw]at c3;exact⟨cur,by simp only[Jy,Ze],F,Q,c3⟩
  ·rintro b ⟨g1,G,g3⟩;refine⟨_,rfl,rfl,g1,fun v M=>G v (o2 v M),fun t' a l u c tk W=>?_⟩;rcases (b0 t').1 a with a|rfl
   ·exact G _ (o3 t' a l u c tk W)
   ·rcases r4 l u c tk W with ⟨x,x1,x2,x3,x4⟩|⟨L,c',b1,j1,j2,j3,j4⟩
    ·obtain⟨y,C,E⟩:=g3 x x1 x2 x3;exact⟨y,C,Rf E x4⟩
    ·have hA:JO q A (Z2 q c'):=a5 L j1 j2 c' b1 j3;obtain⟨y,C,E⟩:=G _ (o2 _ hA);exact⟨y,C,Rf E j4⟩
 ·rintro ⟨out,_⟩ ⟨rfl,o1,o2,o3⟩;rw[Vw]at o3;exact⟨.inl out,by simp only[Jy,Ze],out,rfl,o1,o2,o3⟩
end Q
namespace Q
open Tr Go
variable {n:Zh}{q:Zt}{L:List Zv}
theorem ZiM{q a:Zt}(h:∀i,i<L.length->WI n q L i=0)(c:a.1=q.1)(d:a.2.2.2.2=q.2.2.2.2)(u:L.length=1->(lg L 0).1=false->(bif a.2.2.2.1 then !decide ((lg L 0).2.2.2.2.2.2.2.1=a.2.2.1) else !decide ((lg L 0).2.2.2.2.2.2.1=a.2.2.1))=false)(v:(!a.2.2.2.1&&decide ((lg L 0).2.2.2.2.2.2.1<a.2.2.1))=false)(w:q.2.2.2.2.2.2.2.2.2.1=false):∀i,i<L.length->WI n a L i=0:=fun i y=>by
 obtain⟨j,b,k⟩:=Wr.1 (h i y);have f:a.2.2.2.2.2.2.1=q.2.2.2.2.2.2.1:=by rw[d]
 have el:∀x,WN n a x=WN n q x:=fun x=>by
  have l:a.2.2.2.2.2.2.2.1=q.2.2.2.2.2.2.2.1:=by rw[d]
  have o:a.2.2.2.2.2.2.2.2.1=q.2.2.2.2.2.2.2.2.1:=by rw[d]
  unfold WN GL Yo ZgS Ha Xa;rw[f,l,o]
 have p:∀x,YC n a x=YC n q x:=fun x=>by unfold YC Xa;rw[f]
 refine Wr.2 ⟨by rw[el];exact j,?_,fun z=>by rw[p];exact k z⟩;unfold GG at b⊢;by_cases g:i=0
 ·rw[Zd g]at b⊢;have e:Ji n q L=0:=b;obtain⟨r,s,t,_,_,_⟩:=XF.1 e;show Ji n a L=0;refine XF.2 ⟨by rw[c];exact r,s,t,?_,v,?_⟩
  ·by_cases c:L.length=1
   ·cases A:(lg L 0).1 with
    |true=>rfl
    |false=>rw[Zd c,u c A];rfl
   ·rw[Zk c];simp
  ·have:a.2.2.2.2.2.2.2.2.2.1=false:=by rw[d];exact w
   rw[this];rfl
 ·rw[Zk g]at b⊢;exact b
theorem ZgT(ha:∀i,i<L.length->WI n q L i=0)(hL:0<L.length):0<=(lg L 0).2.2.2.2.2.2.1/\(lg L 0).2.2.2.2.2.2.1<=3155932800:=by obtain⟨a,_⟩:=Zd7.1 (Wr.1 (ha 0 hL)).1;have:=(Zd7.1 (Wr.1 (ha 0 hL)).1).2.2.1.1;exact this
theorem Zkr(h:Kz n q)(d:q.2.2.2.2.2.2.2.2.2.1=false)(a:Jn n q L)(hL:0<L.length):∃l,Rc (Zz n q) (Zn (Kr q (lg L 0).2.2.2.2.2.2.1)) (KG (Zz n q) (Zn (Kr q (lg L 0).2.2.2.2.2.2.1))) l/\l.2.2.2.2.2.1=L/\Kz n (Kr q (lg L 0).2.2.2.2.2.2.1)/\Xq (Zz n q) (Zn (Kr q (lg L 0).2.2.2.2.2.2.1)) l:=by have c:=ZgT a.fine hL;have ha:=ZaC h c.1 c.2;have b:∀i,i<L.length->WI (Zz n (Kr q (lg L 0).2.2.2.2.2.2.1)) (Zn (Kr q (lg L 0).2.2.2.2.2.2.1)) L i=0:=ZiM (q:=Zn q) a.fine rfl rfl (fun _ _=>by show (!decide ((lg L 0).2.2.2.2.2.2.1=(lg L 0).2.2.2.2.2.2.1))=false;simp) (by show (!false&&decide ((lg L 0).2.2.2.2.2.2.1<(lg L 0).2.2.2.2.2.2.1))=false;simp) d;obtain⟨l,e,f,g,j⟩:=ZjK ha.wholeM ha.tinM ha.qi rfl ha.li0 hL b a.rides a.walk;exact⟨l,e,f,ha,g,by rw[j];exact a.to hL⟩
theorem ZqD(h:Kz n q)(t:q.2.2.2.1=true)(f:Jn n q L):(JA n q L/\Jn n q L)\/ ∃l d,Rd n q l d/\l.2.2.2.2.2.1=L:=by
 have G:=h.qnum;have r:=G.2.2.2.2.2 t;have y:=h.wholeM.ok;by_cases hL:0<L.length
 case neg=>
  have e:L=[]:=Ve (by omega);subst e;exact .inl ⟨.inl ⟨rfl,f.nil rfl⟩,f⟩
 have I:=f.to hL;have e2:=f.arr hL t;obtain⟨N,O,_⟩:=Wr.1 (f.fine 0 hL);have w:Ji (Zz n q) (Zn q) L=0:=O;obtain⟨J,f2,_,K,_⟩:=XF.1 w;by_cases b:L.length=1->(lg L 0).1=true
 ·right;have Q:=ZgT f.fine hL;obtain⟨l,H,g,ha,V⟩:=Zkr h r f hL;have D:=ha.li H
  have R:l.2.1=(lg L (L.length - 1)).2.2.2.2.2.2.2.1:=by
   have:=D.last (L.take (L.length - 1)) (lg L (L.length - 1)) (by rw[g];have:=Zbo (L:=L) (i:=L.length - 1) (by omega);rw[show L.length - 1+1=L.length by omega,Vw]at this;exact this)
   exact this.symm
  rcases Zhc ha.wholeM ha.tinM ha.qi r ha.li0 H with ⟨_,B|⟨p,M,_,E⟩⟩|⟨d',x,X,q1,_,q3,q4,q5,W,_,_⟩
  ·exfalso;rw[B]at g;have:L=[]:=g.symm;rw[this]at hL;simp at hL
  ·exfalso;rw[E]at g;have o:L=[Kf q.1 p.2.1 (lg L 0).2.2.2.2.2.2.1 ((lg L 0).2.2.2.2.2.2.1+p.2.2.1)]:=g.symm;have s:L.length=1:=by rw[o];rfl
   have:=b s;rw[o]at this;cases this
  ·have A:(lg L 0).2.2.2.2.2.2.1<=q.2.2.1:=by omega
   obtain⟨d,_,S⟩:=Zll h t Q.1 A H V W (by omega);exact⟨l,d,S,g⟩
 ·left;refine⟨?_,f⟩
  have C:L.length=1:=by
   by_cases h:L.length=1
   ·exact h
   ·exact absurd (fun e=>absurd e h) b
  have U:(lg L 0).1=false:=by
   cases u:(lg L 0).1 with
   |false=>rfl
   |true=>exact absurd (fun _=>u) b
  obtain⟨p,M,a,e,Y,Z⟩:=(R5 y).1 ⟨N,U⟩
  have F:p∈n.2.2.2.2.1:=by
   have c:p∈JJ n q:=M;unfold JJ at c;split at c
   ·exact(Vla.1 c).1
   ·exact c
  obtain⟨x,rfl⟩:=Vma.1 C;have u:x=Kf p.1 p.2.1 a (a+p.2.2.1):=e;have k:p.1=q.1:=by rw[e]at J;exact J
  have j:p.2.1=q.2.1:=by have:(lg [x] ([x].length - 1))=x:=rfl;rw[this,u]at I;exact I
  have T:a+p.2.2.1=q.2.2.1:=by have z:(Zn q).2.2.2.1=true:=t;rw[z,e]at K;have v:(!false&& (decide (1=1) && !decide (a+p.2.2.1=q.2.2.1)))=false:=K;simpa using v
  refine .inr ⟨p,F,k,j,?_⟩;rw[u];unfold KN;rw[k,j,T];congr 2;omega
end Q
namespace Q
open Tr Go
variable {n:Zh}{q:Zt}
def RC(n:Zh)(q:Zt)(L:List Zv):Prop:= ∀i,i<L.length->WN n q (lg L i)=0/\GG n q L i=0/\(i+1<L.length->Xf L i=true->YC n q (lg L i)=0)
theorem Zco{L K:List Zv}{i:Nat}(h:i<L.length):lg (L++K) i=lg L i:=by unfold lg;rw[Vo h]
theorem R6(L:List Zv)(x:Zv):lg (L++[x]) L.length=x:=by unfold lg;simp
theorem ZkF{x:Zv}(h:WN n q x=0)(a:Ji n q [x]=0):RC n q [x]:=by
 intro i b;have:i=0:=by simp at b;omega
 subst this;exact⟨h,a,fun h=>absurd h (by simp)⟩
theorem Zd8{L:List Zv}{y x:Zv}(hL:RC n q (L++[y]))(G:WN n q x=0)(C:JH n y x=0)(B:L=[]->y.1=false->x.1=true->x.2.2.2.2.2.2.1=y.2.2.2.2.2.2.2.1)(F:y.1=true->Kv x=false->YC n q y=0):RC n q (L++[y]++[x]):=by
 intro i K;have g:(L++[y]++[x]).length=L.length+2:=by simp
 have e:(L++[y]).length=L.length+1:=by simp
 have k:lg (L++[y]++[x]) L.length=y:=by rw[Zco (by omega),R6]
 have f:lg (L++[y]++[x]) (L.length+1)=x:=by rw[<-e,R6]
 by_cases D:i<L.length+1
 ·obtain⟨s,p,t⟩:=hL i (by omega);have b:lg (L++[y]++[x]) i=lg (L++[y]) i:=Zco (by omega);refine⟨by rw[b];exact s,?_,fun _ a=>?_⟩
  ·cases i with
   |zero=>
    have c:Ji n q (L++[y])=0:=p;show Ji n q (L++[y]++[x])=0;rw[XF]at c⊢;obtain⟨u,v,r,J,w,A⟩:=c;rw[b];refine⟨u,v,?_,?_,w,A⟩
    ·cases d:L with
     |nil=>
      subst d;have e0:lg ([]++[y]) 0=y:=rfl;have l:lg ([]++[y]++[x]) 1=x:=rfl;rw[e0,l];have:=B rfl
      cases H:y.1 with
      |true=>rfl
      |false=>
       cases o:x.1 with
       |false=>simp
       |true=>rw[this H o];simp
     |cons z I=>
      rw[<-d];have M:0<L.length:=by rw[d];simp
      have l:lg (L++[y]++[x]) 1=lg (L++[y]) 1:=Zco (by omega);rw[l];rw[Zd (by omega)]at r⊢;exact r
    ·rw[g,Zk (show¬L.length+2=1 by omega)]
     simp
   |succ i=>
    have c:JH n (lg (L++[y]) i) (lg (L++[y]) (i+1))=0:=p;show JH n (lg (L++[y]++[x]) i) (lg (L++[y]++[x]) (i+1))=0;rw[Zco (by omega),b];exact c
  ·rw[b];by_cases E:i+1<L.length+1
   ·refine t (by omega) ?_;have j:lg (L++[y]++[x]) (i+1)=lg (L++[y]) (i+1):=Zco (by omega);unfold Xf at a⊢;rw[b,j,Zk (by omega)]at a;rw[Zk (by omega)];exact a
   ·have:i=L.length:=by omega
    subst this;rw[R6];unfold Xf at a;rw[k,f,Zk (by omega)]at a;simp only[Vfc,Vaa,Vmb]at a;exact F a.1 a.2
 ·have:i=L.length+1:=by omega
  subst this;rw[f];refine⟨G,?_,fun h=>absurd h (by omega)⟩;show JH n (lg (L++[y]++[x]) L.length) (lg (L++[y]++[x]) (L.length+1))=0;rw[k,f];exact C
structure DN (n:Zh) (q:Zt) (l:Zu):Prop where
 legs:RC n (Zn q) l.2.2.2.2.2.1
 ride:l.1.1=1->∃L r b c st,l.2.2.2.2.2.1=L++[ZP n r b c st]/\DM n r b c st/\l.1.2.2.1=(r:Int)/\l.1.2.2.2.1=(c:Int)
 walk:l.1.1=2->∃L,∃p∈n.2.2.2.2.1,∃a,l.2.2.2.2.2.1=L++[Kf p.1 p.2.1 a (a+p.2.2.1)]/\l.1.2.1=p.2.1/\l.2.1=a+p.2.2.1/\0<=a
 zero:l.1.1=0->l=KG n (Zn q)
theorem Zhj(h:K1 n){i b c:Nat}{st:Bool}(a:DM n i b c st):WN n (Zn q) (ZP n i b c st)=0:=((Zcn h).2 ⟨i,b,c,st,rfl,a⟩).1
theorem ZhU(h:K1 n){p:ZO}(d:p∈n.2.2.2.2.1){a:Int}(b:0<=a)(c:a+p.2.2.1<=3155932800):WN n (Zn q) (Kf p.1 p.2.1 a (a+p.2.2.1))=0:=((R5 h).2 ⟨p,d,a,rfl,b,c⟩).1
theorem ZtQ(h:K1 n){F:Ku}{hF:FO F}{l x:Zu}(J:LV F hF n (Zn q) l)(v:DN n q l)(k1:l.1.1=1)(K:x∈Hz n l):DN n q x:=by
 obtain⟨k,u,⟨t,y,c3,e,f⟩,d,A,g,_,rfl⟩:=Zaa.1 K;obtain⟨i,c,j,Q,O,rfl,_,G,_,_,_,s,D⟩:=h.link _ u;simp only at t y c3 e f g;subst t;obtain⟨_,rfl⟩:=D rfl;simp only[Vq]at e f g⊢;obtain⟨L,r,b,z,st,B,R,S,T⟩:=v.ride k1;obtain⟨N,w,U,V,_,_,W,C,_⟩:=J.kind k1;have H:r=i:=by omega
 have E:z=c:=by omega
 have p:N=i:=by omega
 have o:w=c:=by omega
 subst H E p o;have a:DM n j 0 d true:=⟨G,A,g,e,.inl rfl⟩;refine⟨?_,fun _=>⟨_,j,0,d,true,rfl,a,rfl,rfl⟩,fun h=>absurd h (by show¬(1:Int)=2;decide),fun h=>absurd h (by show¬(1:Int)=0;decide)⟩;show RC n (Zn q) (l.2.2.2.2.2.1++[_]);have hL:=v.legs;rw[B]at hL⊢;refine Zd8 hL (Zhj h a) ((Zb8 h).2 ⟨s,u,by rw[<-C];exact f⟩) (fun _ M=>absurd M (by show¬(true=false);decide)) (fun _ I=>absurd I (by show¬(true=false);decide))
theorem ZtR(h:K1 n)(C:q.2.2.2.1=false){F:Ku}{hF:FO F}{l x:Zu}(o:LV F hF n (Zn q) l)(j:DN n q l)(g:l.1.1=0\/l.1.1=1\/l.1.1=2)(k1:l.1.1=1->Jg n l=true)(k2:l.1.1≠2)(H:x∈HB n (Zn q) (ZS l)):DN n q x:=by
 obtain⟨s,t,S,T,M⟩:=D4 l;obtain⟨p,k,⟨f,N,c3⟩,rfl⟩:=Dr.1 H;rw[s]at f;rw[t]at c3;have d:=o.time;have E:=h.path p k
 have e:Xs (ZS l) p=((2,p.2.1,0,0,(0,0,0,0,()),()),l.2.1+p.2.2.1,(ZS l).2.2.1,(ZS l).2.2.2.1+p.2.2.1,(ZS l).2.2.2.2.1,l.2.2.2.2.2.1++[Kf p.1 p.2.1 l.2.1 (l.2.1+p.2.2.1)],()):=by unfold Xs;rw[s,t,M,f]
 rw[e];refine⟨?_,fun h=>absurd h (by show¬(2:Int)=1;decide),fun _=>⟨_,p,k,l.2.1,rfl,rfl,rfl,d.1⟩,fun h=>absurd h (by show¬(2:Int)=0;decide)⟩;show RC n (Zn q) (l.2.2.2.2.2.1++[_]);have a:=ZhU (q:=q) h k d.1 c3;rcases g with c|c|c
 ·have J:=j.zero c;subst J;refine ZkF a ?_;rw[XF];refine⟨f,rfl,?_,?_,?_,?_⟩
  ·show (true&& (decide (1< [_].length) &&_))=false;simp
  ·show (true&& (true&& (bif q.2.2.2.1 then _ else !decide (q.2.2.1=q.2.2.1))))=false
   rw[C];simp
  ·show (!q.2.2.2.1&&decide (q.2.2.1<q.2.2.1))=false;rw[Zk (by omega)];simp
  ·show (_&& (false&&_))=false;simp
 ·obtain⟨L,r,b,v,st,w,O,Q,R⟩:=j.ride c;obtain⟨K,u,y,z,_,_,A,B,_⟩:=o.kind c;have G:K=r:=by omega
  have D:u=v:=by omega
  subst G D;have hL:=j.legs;rw[w]at hL⊢;refine Zd8 hL a (Zb9.2 ⟨by rw[<-A,f],B⟩) (fun _ I=>absurd I (by show¬(true=false);decide)) (fun _ _=>DU.2 ?_);have:=k1 c;unfold Jg at this;rw[y,z]at this;simpa using this
 ·exact absurd c k2
theorem ZtP(h:K1 n)(hb:q.2.2.2.1=false){F:Ku}{hF:FO F}{l x:Zu}(A:LV F hF n (Zn q) l)(v:DN n q l)(M:l.1.1=0\/l.1.1=1\/l.1.1=2)(k1:l.1.1=1->Jg n l=true)(hx:x∈YE n (Zn q) (ZS l) (JW n (Zn q) l)):DN n q x:=by
 obtain⟨Q,s2,s3,s4,s5⟩:=D4 l;obtain⟨i,c,d,V,H,hd,⟨c1,c2,c3,c4,e⟩,_,_,rfl⟩:=GH.1 hx;rw[Q]at c3;rw[s2]at e;have o:DM n i c d false:=⟨V,H,hd,c1,.inr c2⟩;have g:=Zhj (q:=q) h o;have O:=A.time;refine⟨?_,fun _=>⟨_,i,c,d,false,rfl,o,rfl,rfl⟩,fun h=>absurd h (by show¬(1:Int)=2;decide),fun h=>absurd h (by show¬(1:Int)=0;decide)⟩;show RC n (Zn q) (WQ (ZS l).2.2.2.2.2.1 (Zg n i c).2.2.1++[ZP n i c d false]);rw[s5];rcases M with j|j|j
 ·have hz:=v.zero j;subst hz;have a0:=h.change q.1 A.stop.1 A.stop.2;have X:0<=q.2.2.1/\q.2.2.1<=3155932800:=O;refine ZkF g ?_;have a7:(Zn q).2.2.1=q.2.2.1:=rfl
  have f:q.2.2.1+(if q.2.2.2.2.2.2.2.2.2.1=true then JT n q.1 else 0)<=(Zg n i c).2.2.1:=by
   rcases e with e|⟨_,e⟩
   ·exact e
   ·unfold Hw at e;rw[Q]at e;simp only[KG,Vqc]at e;obtain⟨k,_,j⟩:=e;simp at j
  rw[XF];refine⟨c3,rfl,rfl,rfl,?_,?_⟩
  ·show (!q.2.2.2.1&&decide ((Zg n i c).2.2.1<q.2.2.1))=false;rw[Zk,Vyb];unfold JT at f
   split at f<;>omega
  ·show (q.2.2.2.2.2.2.2.2.2.1&& (true&&decide ((Zg n i c).2.2.1<Vb .i64 (q.2.2.1+(Wv n q.1).2.2.2.1))))=false;rw[Zs (by omega) (by omega)]
   cases I:q.2.2.2.2.2.2.2.2.2.1 with
   |false=>rfl
   |true=>
    rw[I,Zp rfl]at f;unfold JT at f;rw[Zk (by omega)];rfl
 ·obtain⟨L,r,b,cc,st,B,C,e3,e4⟩:=v.ride j;obtain⟨r',c',S,T,J,G,U,g4,_⟩:=A.kind j;have hr:r' =r:=by omega
  have hc:c' =cc:=by omega
  subst hr hc;have hL:=v.legs;rw[B]at hL⊢
  rw[Zfu (fun y w=>by
   rcases List.append_eq_singleton_iff.1 w with ⟨_,E⟩|⟨_,E⟩
   ·rw[<-List.singleton_inj.1 E];rfl
   ·simp at E)]
  refine Zd8 hL g ((ZdU h J G).2 ⟨by rw[<-U,c3],?_⟩) (fun _ w=>absurd w (by show¬(true=false);decide)) (fun _ _=>DU.2 ?_)
  ·unfold JW at e;rw[Zp j]at e;unfold JT at e;rw[U,g4]at e;rcases e with e|⟨e,R⟩
   ·exact .inl e
   ·refine .inr ⟨?_,e⟩;unfold Hw at R;obtain⟨k,u,o⟩:=Vqc.1 R;obtain⟨i0,c0,j0,d0,st0,rfl,_⟩:=h.link _ u;simp only[Q,Vaa,Vmb,KQ]at o;obtain⟨Z,_,a3,a4,a5,a6⟩:=o;unfold isLink;rw[<-S, <-T, <-a3, <-a4, <-a5, <-a6, <-Z];exact u
  ·have:=k1 j;unfold Jg at this;rw[S,T]at this;simpa using this
 ·obtain⟨L,p,W,a,B,C,e3,e4⟩:=v.walk j;have a8:=h.path p W;have hL:=v.legs
  have f:a+p.2.2.1<=(Zg n i c).2.2.1:=by
   unfold JW at e;rw[Zf (by omega),Zp j]at e
   rcases e with e|⟨e,_⟩<;>omega
  have a2:=h.time V (show c<(Zl n i).length by omega);rw[B]at hL⊢
  cases L with
  |nil=>
   rw[Vga]at hL⊢;have N:=hL 0 (by simp);have hf:Ji n (Zn q) [Kf p.1 p.2.1 a (a+p.2.2.1)]=0:=N.2.1;obtain⟨f1,f2,_,_,f5,f6⟩:=XF.1 hf;have D:p.1=q.1:=f1;have s:(!q.2.2.2.1&&decide (a<q.2.2.1))=false:=f5;rw[hb]at s;simp only[Vx,Vca,decide_eq_false_iff_not]at s;rw[(Ziw p.1 p.2.1 a a p.2.2.1 (Zg n i c).2.2.1).1]
   have ew:Kf p.1 p.2.1 ((Zg n i c).2.2.1 - p.2.2.1) (Zg n i c).2.2.1=Kf p.1 p.2.1 ((Zg n i c).2.2.1 - p.2.2.1) (((Zg n i c).2.2.1 - p.2.2.1)+p.2.2.1):=by rw[Int.sub_add_cancel]
   have Y:=ZhU (q:=q) h W (a:=(Zg n i c).2.2.1 - p.2.2.1) (by omega) (by omega);rw[<-ew]at Y;have t:JH n (Kf p.1 p.2.1 ((Zg n i c).2.2.1 - p.2.2.1) (Zg n i c).2.2.1) (ZP n i c d false)=0:=Zca.2 ⟨by rw[<-C,c3],Vjb _⟩;intro k j;have K:k=0\/k=1:=by simp at j;omega
   rcases K with rfl|rfl
   ·refine⟨Y,?_,fun _ ht=>absurd ht (by show¬((false&&_)=true);simp)⟩;show Ji n (Zn q) _=0;rw[XF];refine⟨D,rfl,?_,?_,?_,?_⟩
    ·show (true&& (_&& (true&& !decide ((Zg n i c).2.2.1=(Zg n i c).2.2.1))))=false;simp
    ·show (true&& (decide ((_:List Zv).length=1) &&_))=false;rw[Zk (by simp)];rfl
    ·show (!q.2.2.2.1&&decide ((Zg n i c).2.2.1 - p.2.2.1<q.2.2.1))=false;rw[Zk (by omega),Vyb]
    ·show (_&& (false&&_))=false;simp
   ·exact⟨g,t,fun h=>absurd h (by simp)⟩
  |cons z L=>
   rw[ZbL (by simp)];refine Zd8 hL g (Zca.2 ⟨by rw[<-C,c3],f⟩) (fun h=>absurd h (by simp)) (fun w=>absurd w (by show¬(false=true);decide))
theorem ZlP(d:Whole n)(o:JE n)(k:QI (Zn q))(g:q.2.2.2.1=false){hF:FO n.2.2.2.2.2.1}(j:LI n.2.2.2.2.2.1 hF n (Zn q) (KG n (Zn q))){l:Zu}(e:Rc n (Zn q) (KG n (Zn q)) l):DN n q l:=by
 induction e with
 |start=>exact⟨fun i p=>absurd p (by show¬i<0;omega),fun h=>absurd h (by show¬(0:Int)=1;decide),fun h=>absurd h (by show¬(0:Int)=2;decide),fun _=>rfl⟩
 |step e r f=>
  have a:=Rc.li d o k j e;rcases YI.1 r with ⟨c,b⟩|⟨c,b⟩|⟨c,s,b⟩
  ·exact ZtQ d.ok a.val f c b
  ·exact ZtP d.ok g a.val f a.kinds c b
  ·exact ZtR d.ok g a.val f a.kinds c s b
theorem ZtO{l:Zu}(k:DN n q l)(d:l.1.1=0\/l.1.1=1\/l.1.1=2)(j:l.1.1=1->Jg n l=true):∀i,i<l.2.2.2.2.2.1.length->WI n (Zn q) l.2.2.2.2.2.1 i=0:=by
 intro i e;obtain⟨s,t,u⟩:=k.legs i e;refine Wr.2 ⟨s,t,fun o=>?_⟩;by_cases h:i+1<l.2.2.2.2.2.1.length
 ·exact u h o
 rcases d with d|d|d
 ·have:=k.zero d;rw[this]at e;exact absurd e (by show¬i<0;omega)
 ·obtain⟨L,r,b,c,st,g,x,v,w⟩:=k.ride d;have f:i=L.length:=by rw[g]at e h;simp at e h;omega
  rw[g,f,R6];refine DU.2 ?_;have:=j d;unfold Jg at this;rw[v,w]at this;simpa using this
 ·obtain⟨L,p,y,a,g,_⟩:=k.walk d;have f:i=L.length:=by rw[g]at e h;simp at e h;omega
  unfold Xf at o;rw[g,f,R6]at o;exact absurd o (by show¬((false&&_)=true);simp)
end Q
namespace Q
open Tr Go
variable {n m:Zh}{q:Zt}{L:List Zv}
def Wn(c:KK):KK:=(c.1,3155932800 - c.2.2.1,3155932800 - c.2.1,c.2.2.2.2.1,c.2.2.2.1,())
def KY(q:Zt):Zt:=(q.2.1,q.1,3155932800 - q.2.2.1, !q.2.2.2.1,q.2.2.2.2)
structure Zc3 (n m:Zh):Prop where
 stops:m.1=n.1
 len:m.2.2.1.length=n.2.2.1.length
 calls:∀i,i<n.2.2.1.length->(Zl m i).length=(Zl n i).length
 call:∀i c,i<n.2.2.1.length->c<(Zl n i).length->Zg m i ((Zl n i).length - 1 - c)=Wn (Zg n i c)
 canc:∀i,i<n.2.2.1.length->XX m i=XX n i
 link:∀i c j d st,isLink n i c j d st->isLink m j ((Zl n j).length - 1 - d) i ((Zl n i).length - 1 - c) st
 path:∀p,p∈n.2.2.2.2.1->(p.2.1,p.1,p.2.2)∈m.2.2.2.2.1
def YN(L:List Zv)(j:Nat):Bool:=decide (j+1<L.length) &&Kv (lg L (j+1))
def Xy(L:List Zv)(j:Nat):Int:=if j+1<L.length then 3155932800 - (lg L (j+1)).2.2.2.2.2.2.1 else 3155932800 - (lg L j).2.2.2.2.2.2.2.1
def Xu(n m:Zh)(L:List Zv)(j:Nat):Zv:=
 if (lg L j).1=true then ZP m (lg L j).2.1.toNat ((Zl n (lg L j).2.1.toNat).length - 1 - (lg L j).2.2.2.1.toNat) ((Zl n (lg L j).2.1.toNat).length - 1 - (lg L j).2.2.1.toNat) (YN L j)
 else Kf (lg L j).2.2.2.2.2.1 (lg L j).2.2.2.2.1 (Xy L j) (Xy L j+((lg L j).2.2.2.2.2.2.2.1 - (lg L j).2.2.2.2.2.2.1))
def Ja(n m:Zh)(L:List Zv):List Zv:=((Vva L.length).map (Xu n m L)).reverse
theorem Zcs:(Ja n m L).length=L.length:=by simp [Ja]
theorem Zd9{i:Nat}(a:i<L.length):lg (Ja n m L) i=Xu n m L (L.length - 1 - i):=by rw[Za0 (by rw[Zcs];exact a)];unfold Ja;simp [Vfb]
theorem Yi{j i b c:Nat}{st:Bool}(e:lg L j=ZP n i b c st):Xu n m L j=ZP m i ((Zl n i).length - 1 - c) ((Zl n i).length - 1 - b) (YN L j):=by unfold Xu;rw[e,Zp (by rfl)];rfl
theorem HO{j:Nat}{p:ZO}{a:Int}(e:lg L j=Kf p.1 p.2.1 a (a+p.2.2.1)):Xu n m L j=Kf p.2.1 p.1 (Xy L j) (Xy L j+p.2.2.1):=by unfold Xu;rw[e,Zf (by simp [Kf])];unfold Kf;simp only;rw[show a+p.2.2.1 - a=p.2.2.1 by omega]
theorem Yg(h:K1 n){x:Zv}(e:WN n (Zn q) x=0):(∃i b c st,x=ZP n i b c st/\DM n i b c st)\/ ∃p∈n.2.2.2.2.1,∃a,x=Kf p.1 p.2.1 a (a+p.2.2.1)/\0<=a/\a+p.2.2.1<=3155932800:=by
 cases d:x.1 with
 |true=>exact .inl ((Zcn h).1 ⟨e,d⟩)
 |false=>exact .inr ((R5 h).1 ⟨e,d⟩)
theorem Zt5{j:Nat}(c:j<L.length)(h:YN L j=false)(b:(lg L j).1=true):Xf L j=true:=by
 unfold YN at h;unfold Xf;rw[b];by_cases a:j+1<L.length
 ·rw[Zd a]at h;simp only[Vca]at h;rw[h];simp
 ·rw[Zd (show j+1=L.length by omega)];rfl
section
variable (hM:Zc3 n m) (hn:K1 n) (hm:K1 m) (ha:∀i,i<L.length->WI n (Zn q) L i=0)
include ha
theorem ZfF{j:Nat}(a:j+1<L.length):JH n (lg L j) (lg L (j+1))=0:=(Wr.1 (ha (j+1) a)).2.1
include hn
theorem ZcU{j:Nat}(g:j+1<L.length){p:ZO}{a:Int}(e:lg L j=Kf p.1 p.2.1 a (a+p.2.2.1)):∃i b c,lg L (j+1)=ZP n i b c false/\DM n i b c false/\p.2.1=(Zg n i b).1/\a+p.2.2.1<=(Zg n i b).2.2.1:=by
 have d:=ZfF ha g;rcases Yg hn (Wr.1 (ha (j+1) g)).1 with ⟨i,b,c,st,f,h⟩|⟨l,_,k,f,_⟩
 ·rw[e,f]at d
  cases st with
  |true=>exact absurd d (ZjT _ _ _ _ _ _ _ _)
  |false=>exact⟨i,b,c,f,h,Zca.1 d⟩
 ·rw[e,f]at d;exact absurd d (Zgi _ _ _ _ _ _ _ _ _)
theorem ZhS{j:Nat}{p:ZO}{a:Int}(e:lg L j=Kf p.1 p.2.1 a (a+p.2.2.1))(g:a+p.2.2.1<=3155932800):0<=Xy L j/\Xy L j+p.2.2.1<=3155932800 - a:=by
 unfold Xy;by_cases h:j+1<L.length
 ·rw[Zp h];obtain⟨i,b,c,d,⟨f,o,r,_⟩,_,k⟩:=ZcU hn ha h e;have l:=hn.time f (show b<(Zl n i).length by omega);rw[d];show 0<=3155932800 - (Zg n i b).2.2.1/\3155932800 - (Zg n i b).2.2.1+p.2.2.1<=_;omega
 ·rw[Zf h,e];show 0<=3155932800 - (a+p.2.2.1)/\3155932800 - (a+p.2.2.1)+p.2.2.1<=_;omega
include hM hm
theorem Zr1{j:Nat}(f:j<L.length):WN m (Zn (KY q)) (Xu n m L j)=0:=by
 obtain⟨g,u,h⟩:=Wr.1 (ha j f);rcases Yg hn g with ⟨i,b,c,st,e,⟨d,x,r,s,y⟩⟩|⟨p,l,a,e,v,k⟩
 ·rw[Yi e];have w:=hM.calls i d;refine Zhj hm ⟨by rw[hM.len];exact d,by omega,by omega,by rw[hM.canc i d];exact s,?_⟩;rw[hM.call i c d r]
  cases o:YN L j with
  |true=>exact .inl rfl
  |false=>
   right;have:=h (Zt5 f o (by rw[e];rfl));rw[e]at this;exact DU.1 this
 ·obtain⟨t,z⟩:=ZhS hn ha e k;rw[HO e];exact ZhU hm (hM.path p l) t (by show Xy L j+p.2.2.1<=_;omega)
theorem Zr0{j:Nat}(t:j+1<L.length):JH m (Xu n m L (j+1)) (Xu n m L j)=0:=by
 have s:=ZfF ha t;have w:j<L.length:=by omega
 obtain⟨B,_,_⟩:=Wr.1 (ha j w);obtain⟨C,_,_⟩:=Wr.1 (ha (j+1) t);have u:∀{x:Zv},lg L (j+1)=x->YN L j=Kv x:=fun e=>by unfold YN;rw[Zd t,e];rfl
 rcases Yg hn B with ⟨i,b,c,st,e,⟨y,V,A,W,X⟩⟩|⟨p,U,a,e,R,S⟩
 ·have T:=hM.calls i y;have f:=hM.call i c y A;rcases Yg hn C with ⟨l,o,D,z,g,⟨r,F,G,H,I⟩⟩|⟨O,M,Q,g,J,v⟩
  ·have K:=hM.calls l r;have d:=hM.call l o r (by omega);rw[Yi e,Yi g,u g];rw[e,g]at s
   cases z with
   |true=>
    obtain⟨h,k,E⟩:=(Zb8 hn).1 s;refine(Zb8 hm).2 ⟨?_,hM.link _ _ _ _ _ k,?_⟩
    ·rw[d,f];exact h.symm
    ·rw[d,f];show 3155932800 - (Zg n l o).2.2.1<=3155932800 - (Zg n i c).2.1
     omega
   |false=>
    obtain⟨h,k⟩:=(ZdU hn y A).1 s;refine(ZdU hm (by rw[hM.len];exact r) (by omega)).2 ⟨?_,?_⟩
    ·rw[d,f];exact h.symm
    ·rw[d,f]
     have N:Wv m (Wn (Zg n l o)).1=Wv n (Zg n i c).1:=by unfold Wv;rw[hM.stops,h];rfl
     rw[N];show 3155932800 - (Zg n l o).2.2.1+(Wv n (Zg n i c).1).2.2.2.1<=3155932800 - (Zg n i c).2.1\/_/\3155932800 - (Zg n l o).2.2.1<=3155932800 - (Zg n i c).2.1;rcases k with k|⟨k,E⟩
     ·left;omega
     ·exact .inr ⟨hM.link _ _ _ _ _ k,by omega⟩
  ·rw[Yi e,HO g,u g];rw[e,g]at s;obtain⟨h,k⟩:=Zb9.1 s;obtain⟨Y,Z⟩:=ZhS hn ha g v;refine Zca.2 ⟨by rw[f];exact h.symm,?_⟩;rw[f];show Xy L (j+1)+O.2.2.1<=3155932800 - (Zg n i c).2.1;omega
 ·obtain⟨l,o,D,g,⟨r,F,G,H,I⟩,h,k⟩:=ZcU hn ha t e;have d:=hM.call l o r (by omega);rw[Yi g,HO e];refine Zb9.2 ⟨by rw[d];exact h.symm,?_⟩;rw[d];unfold Xy;rw[Zp t,g];rfl
omit hm in
theorem Zr2{j:Nat}(k:j<L.length)(f:(lg L j).1=true)(g:Kv (lg L j)=false):YC m (Zn (KY q)) (Xu n m L j)=0:=by
 obtain⟨h,_,_⟩:=Wr.1 (ha j k);rcases Yg hn h with ⟨i,b,c,st,e,⟨l,u,v,w,o⟩⟩|⟨p,t,a,e,r,s⟩
 ·rw[Yi e];refine DU.2 ?_;rw[hM.call i b l (by omega)];rw[e]at g;have d:st=false:=g;subst d;exact o.resolve_left (by simp)
 ·rw[e]at f;exact absurd f (by simp [Kf])
omit hm
theorem ZgR(j:0<L.length):(Xu n m L 0).2.2.2.2.2.2.2.1=3155932800 - (lg L 0).2.2.2.2.2.2.1:=by
 obtain⟨o,r,_⟩:=Wr.1 (ha 0 j);have f:Ji n (Zn q) L=0:=r;obtain⟨_,_,d,_⟩:=XF.1 f;rcases Yg hn o with ⟨i,b,c,st,e,⟨t,y,z,A,B⟩⟩|⟨p,x,a,e,v,w⟩
 ·rw[Yi e,e];show (Zg m i _).2.1=3155932800 - (Zg n i b).2.2.1;rw[hM.call i b t (by omega)];rfl
 ·rw[HO e];show Xy L 0+p.2.2.1=_;unfold Xy;by_cases h:0+1<L.length
  ·rw[Zp h];obtain⟨l,k,u,s,_,_⟩:=ZcU hn ha h e;rw[s]at d⊢;rw[e]at d⊢;rw[Zd (by omega)]at d;have g:(!decide ((Zg n l k).2.2.1=a+p.2.2.1))=false:=d;simp only[Vib,KQ]at g;show 3155932800 - (Zg n l k).2.2.1+p.2.2.1=3155932800 - a;omega
  ·rw[Zf h,e];show 3155932800 - (a+p.2.2.1)+p.2.2.1=3155932800 - a;omega
theorem ZkX(f:0<L.length):(Xu n m L (L.length - 1)).2.2.2.2.2.2.1=3155932800 - (lg L (L.length - 1)).2.2.2.2.2.2.2.1:=by
 obtain⟨d,j,_⟩:=Wr.1 (ha (L.length - 1) (by omega));rcases Yg hn d with ⟨i,b,c,st,e,⟨g,r,h,s,t⟩⟩|⟨p,o,a,e,k,l⟩
 ·rw[Yi e,e];show (Zg m i _).2.2.1=3155932800 - (Zg n i c).2.1;rw[hM.call i c g h];rfl
 ·rw[HO e];show Xy L _=_;unfold Xy;rw[Zf (by omega)]
theorem ZkZ{j:Nat}(g:j<L.length):(Xu n m L j).2.2.2.2.1=(lg L j).2.2.2.2.2.1/\(Xu n m L j).2.2.2.2.2.1=(lg L j).2.2.2.2.1:=by
 obtain⟨f,k,_⟩:=Wr.1 (ha j g);rcases Yg hn f with ⟨i,b,c,st,e,⟨d,s,h,t,u⟩⟩|⟨p,r,a,e,l,o⟩
 ·rw[Yi e,e];show (Zg m i _).1=(Zg n i c).1/\(Zg m i _).1=(Zg n i b).1;rw[hM.call i c d h,hM.call i b d (by omega)];exact⟨rfl,rfl⟩
 ·rw[HO e,e];exact⟨rfl,rfl⟩
include hm
theorem ZrZ(X:q.2.2.2.2.2.2.2.2.2.1=false)(M:(lg L (L.length - 1)).2.2.2.2.2.1=q.2.1)(w:q.2.2.2.1=true->(lg L (L.length - 1)).2.2.2.2.2.2.2.1<=q.2.2.1):∀i,i<(Ja n m L).length->WI m (Zn (KY q)) (Ja n m L) i=0:=by
 intro i h;have l:(Ja n m L).length=L.length:=Zcs;rw[l]at h;have d:∀{k:Nat},k<L.length->lg (Ja n m L) k=Xu n m L (L.length - 1 - k):=Zd9;have W:L.length - 1 - 0=L.length - 1:=by omega
 refine Wr.2 ⟨by rw[d h];exact Zr1 hM hn hm ha (by omega),?_,fun s=>?_⟩
 ·cases i with
  |zero=>
   show Ji m (Zn (KY q)) (Ja n m L)=0;have u:L.length - 1<L.length:=by omega
   obtain⟨C,_,_⟩:=Wr.1 (ha (L.length - 1) u);obtain⟨T,U,_⟩:=Wr.1 (ha 0 h);have F:Ji n (Zn q) L=0:=U;obtain⟨_,_,_,H,_⟩:=XF.1 F;have A:=ZkZ hM hn ha u;have g:=ZkX hM hn ha h;have v:=ZgR hM hn ha h;rw[XF,d h,W,l];refine⟨by rw[A.1];exact M,?_,?_,?_,?_,?_⟩
   ·rcases Yg hn C with ⟨i,b,c,st,e,_⟩|⟨p,J,a,e,_⟩
    ·rw[Yi e];show YN L (L.length - 1)=false;unfold YN;rw[Zk (by omega)];rfl
    ·rw[HO e];rfl
   ·by_cases o:1<L.length
    case neg=>rw[Zk o];simp
    rw[d o];have y:(L.length - 1 - 1)+1<L.length:=by omega
    have V:L.length - 1 - 1+1=L.length - 1:=by omega
    rcases Yg hn C with ⟨i,b,c,st,e,_⟩|⟨p,J,a,e,_⟩
    ·rw[Yi e];rfl
    ·have x:=ZfF ha y;rw[V]at x;obtain⟨G,_,_⟩:=Wr.1 (ha (L.length - 1 - 1) (by omega));rcases Yg hn G with ⟨i,b,c,st,j,⟨Z,k2,k3,_⟩⟩|⟨p',K,Q,j,_⟩
     ·rw[HO e,Yi j];rw[e,j]at x;obtain⟨g1,g2⟩:=Zb9.1 x;have I:=hM.call i c Z k3
      have Y:Xy L (L.length - 1)+p.2.2.1=(Zg m i ((Zl n i).length - 1 - c)).2.2.1:=by rw[I];unfold Xy;rw[Zf (by omega),e];show 3155932800 - (a+p.2.2.1)+p.2.2.1=3155932800 - (Zg n i c).2.1;omega
      show (true&& (_&& (true&& !decide ((Zg m i ((Zl n i).length - 1 - c)).2.2.1=Xy L (L.length - 1)+p.2.2.1))))=false;rw[Zd Y.symm];simp
     ·rw[e,j]at x;exact absurd x (Zgi _ _ _ _ _ _ _ _ _)
   ·by_cases o:L.length=1
    case neg=>rw[Zk o];simp
    have e0:L.length - 1=0:=by omega
    rw[e0]at g A⊢;rw[Zd o]at H⊢;rw[g,v];rcases Yg hn T with ⟨i,b,c,st,e,_⟩|⟨p,J,a,e,_⟩
    ·rw[Yi e];rfl
    ·rw[HO e,e];rw[e]at H
     have f:(bif q.2.2.2.1 then !decide (a+p.2.2.1=q.2.2.1) else !decide (a=q.2.2.1))=false:=H
     show (bif !q.2.2.2.1 then !decide (3155932800 - a=3155932800 - q.2.2.1) else !decide (3155932800 - (a+p.2.2.1)=3155932800 - q.2.2.1))=false
     cases D:q.2.2.2.1 with
     |true=>
      rw[D]at f;simp only[Zc,Vib,KQ]at f;simp only[Vl,Ze]
      rw[f,Zd rfl];rfl
     |false=>
      rw[D]at f;simp only[Ze,Vib,KQ]at f;simp only[Vx,Zc];rw[f,Zd rfl];rfl
   ·rw[g];show (!(!q.2.2.2.1) &&decide (3155932800 - (lg L (L.length - 1)).2.2.2.2.2.2.2.1<3155932800 - q.2.2.1))=false
    cases D:q.2.2.2.1 with
    |false=>rfl
    |true=>
     have:=w D;rw[Zk (by omega)];rfl
   ·show (q.2.2.2.2.2.2.2.2.2.1&&_)=false
    rw[X];rfl
  |succ i=>
   show JH m (lg (Ja n m L) i) (lg (Ja n m L) (i+1))=0;rw[d (by omega),d h];have e:L.length - 1 - i=(L.length - 1 - (i+1))+1:=by omega
   rw[e];exact Zr0 hM hn hm ha (by omega)
 ·rw[d h];have y:L.length - 1 - i<L.length:=by omega
  obtain⟨C,N,_⟩:=Wr.1 (ha _ y);rcases Yg hn C with ⟨r,b,c,st,e,k⟩|⟨p,J,a,e,_⟩
  case inr=>
   unfold Xf at s;rw[d h,HO e]at s;exact absurd s (by show¬((false&&_)=true);simp)
  refine Zr2 hM hn ha y (by rw[e];rfl) ?_;by_cases o:i+1=L.length
  ·have e0:L.length - 1 - i=0:=by omega
   rw[e0]at N⊢;have E:Ji n (Zn q) L=0:=N;exact(XF.1 E).2.1
  ·unfold Xf at s;rw[Zcs,Zk o,d (show i+1<L.length by omega)]at s;simp only[Vfc,Vaa,Vmb]at s;have z:L.length - 1 - (i+1)+1=L.length - 1 - i:=by omega
   have B:=s.2;obtain⟨G,_,_⟩:=Wr.1 (ha (L.length - 1 - (i+1)) (by omega));rcases Yg hn G with ⟨r',R,S,a0,j,k2⟩|⟨p',K,Q,j,_⟩
   ·rw[Yi j]at B;have t:YN L (L.length - 1 - (i+1))=false:=B;unfold YN at t;rw[z,Zd y]at t;simpa using t
   ·obtain⟨i',R,S,O,_⟩:=ZcU hn ha (show L.length - 1 - (i+1)+1<L.length by omega) j;rw[z]at O;rw[O];rfl
end
theorem Zl0(L:List Zv):ridesN L=(L.map fun x=>if JL x then 1 else 0).sum:=by
 unfold ridesN
 induction L with
 |nil=>rfl
 |cons x L a=>
  rw[List.filter_cons,Vdc,Vec, <-a]
  cases JL x<;>simp [Nat.add_comm]
theorem Zul(l:List Nat):l.reverse.sum=l.sum:=by
 induction l with
 |nil=>rfl
 |cons x l a=>rw[Vnc,Vgb,a];simp [Nat.add_comm]
theorem ZlO(L:List Zv):L=(Vva L.length).map (lg L):=by refine Vrc (by simp) fun i a b=>?_;rw[Vsc,List.getElem_range,Za0 a]
theorem ZkY(hn:K1 n)(ha:∀i,i<L.length->WI n (Zn q) L i=0):ridesN (Ja n m L)=ridesN L:=by
 have x:ridesN (Ja n m L)=((Vva L.length).map fun j=>if JL (Xu n m L j) then 1 else 0).sum:=by rw[Zl0];unfold Ja;rw[Vcb,Zul,Vfa];rfl
 have y:ridesN L=((Vva L.length).map fun j=>if JL (lg L j) then 1 else 0).sum:=by
  rw[Zl0]
  conv=>lhs;rw[ZlO L]
  rw[Vfa];rfl
 have key:∀k,k<=L.length->((Vva k).map fun j=>if JL (Xu n m L j) then 1 else 0).sum+(if k<L.length/\Kv (lg L k)=true then 1 else 0)=((Vva k).map fun j=>if JL (lg L j) then 1 else 0).sum:=by
  intro k
  induction k with
  |zero=>
   intro _;by_cases s:0<L.length
   ·have v:Ji n (Zn q) L=0:=(Wr.1 (ha 0 s)).2.1;have:=(XF.1 v).2.1;rw[this];simp
   ·simp [s]
  |succ k h=>
   intro B;have f:k<L.length:=by omega
   have h:=h (by omega);rw[List.range_succ,Vha,Vha,Vgb,Vgb, <-h];simp only[Vdc,Vyc,Vec,Vzc,Vjc];obtain⟨u,_,_⟩:=Wr.1 (ha k f)
   have g:YN L k=decide (k+1<L.length/\Kv (lg L (k+1))=true):=by
    unfold YN;by_cases d:k+1<L.length
    ·rw[Zd d]
     cases D:Kv (lg L (k+1))<;>simp [d]
    ·simp [d]
   rcases Yg hn u with ⟨i,b,c,st,e,_⟩|⟨p,C,a,e,_⟩
   ·rw[Yi e,e];have l:JL (ZP m i ((Zl n i).length - 1 - c) ((Zl n i).length - 1 - b) (YN L k))= !YN L k:=by unfold JL Kv ZP;simp
    have o:JL (ZP n i b c st)= !st:=by unfold JL Kv ZP;simp
    have r:Kv (ZP n i b c st)=st:=rfl;rw[l,o,r,g];by_cases d:k+1<L.length/\Kv (lg L (k+1))=true
    ·rw[Zd d,Zp d]
     cases st<;>simp [f]<;>omega
    ·rw[Zk d,Zf d]
     cases st<;>simp [f]<;>omega
   ·rw[HO e,e];have l:JL (Kf p.2.1 p.1 (Xy L k) (Xy L k+p.2.2.1))=false:=rfl;have o:JL (Kf p.1 p.2.1 a (a+p.2.2.1))=false:=rfl;have r:Kv (Kf p.1 p.2.1 a (a+p.2.2.1))=false:=rfl;rw[l,o,r]
    have:¬(k+1<L.length/\Kv (lg L (k+1))=true):=fun⟨d,t⟩=>by obtain⟨E,z,A,w,_⟩:=ZcU hn ha d e;rw[w]at t;exact absurd t (by simp [ZP,Kv])
    rw[Zf this];simp
 have:=key L.length (Vqa _);rw[Zf (by omega)]at this;rw[x,y, <-this,Vjc]
theorem Zuj(l:List Int):l.reverse.sum=l.sum:=by
 induction l with
 |nil=>rfl
 |cons x l a=>rw[Vnc,Vgb,a];simp [Int.add_comm]
theorem Zk0(hn:K1 n)(ha:∀i,i<L.length->WI n (Zn q) L i=0):KE (Ja n m L)=KE L:=by
 have h:KE (Ja n m L)=((Vva L.length).map fun j=>Yn (Xu n m L j)).sum:=by unfold KE Ja;rw[Vcb,Zuj,Vfa];rfl
 have k:KE L=((Vva L.length).map fun j=>Yn (lg L j)).sum:=by
  unfold KE
  conv=>lhs;rw[ZlO L]
  rw[Vfa];rfl
 rw[h,k];congr 1;refine List.map_congr_left fun j d=>?_;have d:=Vwc.1 d;obtain⟨g,_,_⟩:=Wr.1 (ha j d);rcases Yg hn g with ⟨i,b,c,st,e,_⟩|⟨p,r,a,e,l,o⟩
 ·rw[Yi e,e];rfl
 ·obtain⟨v,x⟩:=ZhS hn ha e o;have u:=hn.path p r;rw[HO e,e]
  have f:∀(s t b:Int),0<=b->Yn (Kf s t b (b+p.2.2.1))=p.2.2.1:=fun s t b w=>by unfold Yn Kf;rw[Zf (by simp;omega)];simp only;omega
  rw[f _ _ _ v,f _ _ _ l]
end Q
namespace Q
open Tr Go
def Gd(x:Z7):Prop:=(0<=x.1/\x.1<=100)/\(0<=x.2.1/\x.2.1<=100)/\(0<=x.2.2.1/\x.2.2.1<=100000)
def Le(a b:Z7):Prop:= ¬W9 b a
theorem Le.trans{a b c:Z7}(h:Le a b)(k:Le b c):Le a c:=by unfold Le W9 at*;omega
theorem W9.le{a b:Z7}(h:W9 a b):Le a b:=by unfold Le W9 at*;omega
theorem Zes{a b:Z7}(ha:Gd a)(e:Gd b):∃z:Int,F140 a b=some z/\(z<0↔W9 a b):=by
 obtain⟨f,g,h⟩:=ha;obtain⟨j,k,l⟩:=e;unfold F140 W9;by_cases c:a.1=b.1
 ·by_cases d:a.2.1=b.2.1
  ·rw[Zd c,Zd d,Zs (x:=a.2.2.1 - b.2.2.1) (by omega) (by omega)];exact⟨_,rfl,by omega⟩
  ·rw[Zd c,Zk d,Zs (x:=a.2.1 - b.2.1) (by omega) (by omega)];exact⟨_,rfl,by omega⟩
 ·rw[Zk c,Zs (x:=a.1 - b.1) (by omega) (by omega)];exact⟨_,rfl,by omega⟩
section
variable {α:Type}
theorem Hc{U V:List α}{x:α}{k:Nat}(h:k=U.length):(U++x::V)[k]? =some x:=by subst h;simp
theorem GP{U V:List α}{x y:α}{k:Nat}(h:k=U.length):(U++x::V).set k y=U++y::V:=by subst h;simp
theorem Ra{U V W:List α}{x y:α}{k:Nat}(h:k=U.length+1+V.length):(U++x::(V++y::W))[k]? =some y:=by
 have:U++x::(V++y::W)=(U++x::V)++y::W:=by simp
 rw[this];exact Hc (by simp;omega)
theorem ZcM{U V W:List α}{x y z:α}{k:Nat}(h:k=U.length+1+V.length):(U++x::(V++y::W)).set k z=U++x::(V++z::W):=by
 have:U++x::(V++y::W)=(U++x::V)++y::W:=by simp
 rw[this,GP (by simp;omega)];simp
end
theorem Dm{z:Int}{n k:Nat}(h:z=(k:Int))(a:k<n):Zo z n=some k:=by subst h;exact Ke a
theorem ZdW{i j:Nat}(h:i+j<=1099511627776):Vb .i64 (Vsb (Vb .u64 (Vb .i64 ((i:Int)+(j:Int)))) ((2:Int) ^ Min.min (Vwa (1:Int)) (Go.IntKind.bits .u64)))=(((i+j) / 2:Nat):Int):=by
 have a:Vb .i64 ((i:Int)+(j:Int))=((i+j:Nat):Int):=by rw[Zs (by omega) (by omega)];omega
 have b:Vb .u64 ((i+j:Nat):Int)=((i+j:Nat):Int):=by simp [Vb,IntKind.signed,IntKind.bits];omega
 have c:((2:Int) ^ Min.min (Vwa (1:Int)) (Go.IntKind.bits .u64))=2:=by rfl
 rw[a,b,c]
 have d:Vsb ((i+j:Nat):Int) 2=(((i+j) / 2:Nat):Int):=by rw[Int.fdiv_eq_ediv_of_nonneg _ (by omega)];omega
 rw[d,Zs (by omega) (by omega)]
theorem Zht{step:Int×Int->Option ((Int×Int) ⊕ Int)}{lo c k:Nat}(d:lo<=k)(e:k<=c)
 (a:∀i j:Nat,lo<=i->i<j->j<=c->step ((i:Int),(j:Int))=some (.inl (if (i+j) / 2<k then((((i+j) / 2+1:Nat):Int),(j:Int)) else((i:Int),(((i+j) / 2:Nat):Int)))))
 (b:∀i:Nat,step ((i:Int),(i:Int))=some (.inr (i:Int))):run step ((lo:Int),(c:Int))=some (k:Int):=by
 have key:∀(m i j:Nat),j - i=m->lo<=i->i<=k->k<=j->j<=c->run step ((i:Int),(j:Int))=some (k:Int):=by
  intro m
  induction m using Nat.strongRecOn with
  |_ m l=>
   intro i j hm g d e h;by_cases f:i<j
   ·rw[HT (a i j g f h)];split
    ·exact l (j - ((i+j) / 2+1)) (by omega) _ _ rfl (by omega) (by omega) e h
    ·exact l ((i+j) / 2 - i) (by omega) _ _ rfl g d (by omega) (by omega)
   ·have:i=j:=by omega
    subst this;have:i=k:=by omega
    subst this;exact Ym (b i)
 exact key _ lo c rfl (Vqa _) d e (Vqa _)
theorem Zf2(p:Nat->Prop){lo:Nat} :∀f,lo<=f->(∀c d,lo<=c->c<=d->d<f->p d->p c)->∃k,lo<=k/\k<=f/\(∀c,lo<=c->c<k->p c)/\ ∀c,k<=c->c<f->¬p c:=by
 intro f
 induction f with
 |zero=>exact fun h _=>⟨lo,Vqa _,h,fun c _ _=>by omega,fun c _ _=>by omega⟩
 |succ f o=>
  intro h hm;by_cases j:lo<=f
  ·obtain⟨k,r,u,s,t⟩:=o j fun c d a b e=>hm c d a b (by omega);by_cases g:p f
   ·exact⟨f+1,h,Vqa _,fun c a b=>hm c f a (by omega) (by omega) g,fun c _ _=>by omega⟩
   ·refine⟨k,r,by omega,s,fun c a b=>?_⟩;by_cases l:c=f
    ·subst l;exact g
    ·exact t c a (by omega)
  ·exact⟨lo,Vqa _,h,fun c _ _=>by omega,fun c _ _=>by omega⟩
theorem Zkf(X Z:List Z7)(Y:List Z7)(U:∀y∈Y,Gd y)(hl:X.length+Y.length+Z.length<=1048576){a b:Int}(ha:a=(X.length:Int))(hb:b=((X.length+Y.length:Nat):Int)):
 ∃r,F179 (X++(Y++Z)) a b ()=some r/\ ∃p,r=X++(p++Z)/\p.Perm Y/\p.Pairwise Le:=by
 subst ha hb;unfold F179;have w1:Vb .i64 ((X.length:Int)+1)=((X.length+1:Nat):Int):=by rw[Zs (by omega) (by omega)];omega
 rw[w1];refine Hr (fun r=>∃p,r=X++(p++Z)/\p.Perm Y/\p.Pairwise Le) ?_ (fun r h=>⟨r,rfl,h⟩)
 cases Y with
 |nil=>exact⟨_,Ym (by rw[Zk (show¬((X.length+1:Nat):Int)<((X.length+([]:List Z7).length:Nat):Int) by rw[Vxa];omega)];rfl),[],rfl,.refl _,.nil⟩
 |cons Q Y=>
 refine Kq Y.length _ (fun i (s:List Z7×Int)=>∃S R,s=(X++(S++(R++Z)),((X.length+(i+1):Nat):Int))/\S.length=i+1/\(S++R).Perm (Q::Y)/\S.Pairwise Le) ?_ ?_ _ ⟨[Q],Y,rfl,rfl,.refl _,by simp⟩
 ·rintro i _ hi ⟨S,R,rfl,C,v,F⟩;left;have d:=v.length_eq;rw[Vc,C,Vda]at d;obtain⟨x,R,rfl⟩:∃x R',R=x::R' :=by cases R with|nil=>simp at d;omega|cons x R=>exact⟨x,R,rfl⟩
  have J:Gd x:=U x (v.mem_iff.1 (by simp));have I:∀y∈S,Gd y:=fun y N=>U y (v.mem_iff.1 (by simp [N]));rw[Vda]at d hl;have w2:Vb .i64 (((X.length+(i+1):Nat):Int)+1)=((X.length+(i+1+1):Nat):Int):=by rw[Zs (by omega) (by omega)];omega
  simp only[Vda,Zd (show ((X.length+(i+1):Nat):Int)<((X.length+(Y.length+1):Nat):Int) by omega),Zc,w2];refine XW (fun r=>∃B,r=X++(B++(R++Z))/\B.Perm (x::S)/\B.Pairwise Le) ?_ ?_
  ·refine Kq S.length _ (fun j (s:List Z7×Int)=>∃o c,S=o++c/\c.length=j/\s=(X++(o++x::(c++(R++Z))),((X.length+o.length:Nat):Int))/\ ∀y∈c,W9 x y) ?_ ?_ _ ⟨S,[],by simp,rfl,by rw[C];simp,by simp⟩
   ·rintro j _ V ⟨o,c,e,D,rfl,g⟩;rcases Vvb o with rfl|⟨T,y,rfl⟩
    ·rw[e]at V;simp at V;omega
    have N:Gd y:=I y (by rw[e];simp);obtain⟨z,hz,H⟩:=Zes J N;have a0:S.length=T.length+1+c.length:=by rw[e];simp;omega
    have eL:X++(T.concat y++x::(c++(R++Z)))=(X++T)++y::([]++x::(c++(R++Z))):=by simp
    have l:((X++T)++y::([]++x::(c++(R++Z)))).length=X.length+T.length+2+c.length+R.length+Z.length:=by simp;omega
    have E:(X++T).length=X.length+T.length:=by simp
    have K:(T.concat y).length=T.length+1:=by simp
    simp only[K];rw[eL];have i1:Zo ((X.length+(T.length+1):Nat):Int) ((X++T)++y::([]++x::(c++(R++Z)))).length=some (X.length+T.length+1):=Dm (by omega) (by rw[l];omega);have i2:Zo (Vb .i64 (((X.length+(T.length+1):Nat):Int) - 1)) ((X++T)++y::([]++x::(c++(R++Z)))).length=some (X.length+T.length):=Dm (by rw[Zs (by omega) (by omega)];omega) (by rw[l];omega);have g1:((X++T)++y::([]++x::(c++(R++Z))))[X.length+T.length+1]? =some x:=Ra (by rw[E];simp);have g2:((X++T)++y::([]++x::(c++(R++Z))))[X.length+T.length]? =some y:=Hc E.symm;have s1:((X++T)++y::([]++x::(c++(R++Z)))).set (X.length+T.length+1) y=(X++T)++y::([]++y::(c++(R++Z))):=ZcM (by rw[E];simp)
    have g3:((X++T)++y::([]++y::(c++(R++Z))))[X.length+T.length]? =some y:=Hc E.symm;have s2:((X++T)++y::([]++y::(c++(R++Z)))).set (X.length+T.length) x=(X++T)++x::([]++y::(c++(R++Z))):=GP E.symm;have t:((X++T)++y::([]++y::(c++(R++Z)))).length=((X++T)++y::([]++x::(c++(R++Z)))).length:=by simp
    simp only[Zd (show (X.length:Int)<((X.length+(T.length+1):Nat):Int) by omega),Zc,i1,i2,g1,g2,hz,Za,s1,t,g3,s2];by_cases k:z<0
    ·left;rw[Zd k];refine⟨_,rfl,T,y::c,by rw[e];simp,by simp [D],?_,fun w f=>?_⟩
     ·rw[Zs (by omega) (by omega)];refine Vk (by simp) ?_;simp only;omega
     ·rcases Vz.1 f with rfl|f
      ·exact H.1 k
      ·exact g w f
    ·right;rw[Zk k];refine⟨_,rfl,T++[y]++x::c,by simp,?_,?_⟩
     ·rw[e];simpa using (Vdb (a:=x) (l₁:=T++[y]) (l₂:=c))
     ·rw[e]at F;have G:(T++[y]++c).Pairwise Le:=by simpa using F
      rw[Vm]at G⊢;obtain⟨W,p2,p3⟩:=G;have O:Le y x:=fun h=>k (H.2 h);refine⟨W,Vya.2 ⟨fun w f=>(g w f).le,p2⟩,fun u A w f=>?_⟩
      have M:Le u y:=by
       rcases Vu.1 A with A|A
       ·exact(Vm.1 W).2.2 u A y (by simp)
       ·rw[Vj.1 A];unfold Le W9;omega
      rcases Vz.1 f with rfl|f
      ·exact M.trans O
      ·exact p3 u A w f
   ·rintro _ ⟨o,c,e,D,rfl,g⟩
    have:o=[]:=by have:=congrArg Vy e;rw[Vc]at this;exact Ve (by omega)
    subst this;have:S=c:=by simpa using e
    subst this;refine⟨_,by rw[Zk (by simp)];rfl,x::S,by simp,.refl _,Vya.2 ⟨fun w f=>(g w f).le,F⟩⟩
  ·rintro _ ⟨B,rfl,q1,q2⟩;refine⟨_,rfl,B,R,rfl,by rw[q1.length_eq];simp [C],?_,q2⟩;refine(List.Perm.append_right R q1).trans ?_;refine List.Perm.trans ?_ v;simpa using (Vdb (a:=x) (l₁:=S) (l₂:=R)).symm
 ·rintro _ ⟨S,R,rfl,C,v,F⟩;have d:=v.length_eq;rw[Vc,C,Vda]at d;have:R=[]:=Ve (by omega);subst this;refine⟨_,by rw[Zk (show¬((X.length+(Y.length+1):Nat):Int)<((X.length+(Q::Y).length:Nat):Int) by rw[Vda];omega)];rfl,S,by simp,by simpa using v,F⟩
theorem ZhK(X A Y B Z:List Z7)(g:A.length=B.length)(C:X.length+A.length+Y.length+B.length+Z.length<=1048576){a b k:Int}(ha:a=(X.length:Int))(H:b=((X.length+A.length+Y.length:Nat):Int))(I:k=(A.length:Int)):
 F182 (X++(A++(Y++(B++Z)))) a b k ()=some (X++(B++(Y++(A++Z)))):=by
 subst ha H I;unfold F182;refine KF (fun r=>r=X++(B++(Y++(A++Z)))) ?_ (fun r h=>by rw[h]);refine Kq A.length _ (fun i (s:List Z7×Int)=>∃d c f e,A=d++c/\B=f++e/\d.length=i/\f.length=i/\s=(X++(f++(c++(Y++(d++(e++Z))))),(i:Int))) ?_ ?_ _ ⟨[],A,[],B,rfl,rfl,rfl,rfl,rfl⟩
 ·rintro i _ y ⟨d,c,f,e,rfl,rfl,o,t,rfl⟩;left;rw[Vc]at y;rw[Vc,Vc]at g C;obtain⟨p,c,rfl⟩:∃x v,c=x::v:=by cases c with|nil=>simp at y;omega|cons x R=>exact⟨x,R,rfl⟩
  obtain⟨q,e,rfl⟩:∃x v,e=x::v:=by cases e with|nil=>simp at g;omega|cons x R=>exact⟨x,R,rfl⟩
  simp only[Vda]at y g C;have D:X++(f++(p::c++(Y++(d++(q::e++Z)))))=(X++f)++p::((c++Y++d)++q::(e++Z)):=by simp
  have u:(X++f).length=X.length+i:=by simp [t]
  have w:(c++Y++d).length=c.length+Y.length+i:=by simp [o];omega
  have j:((X++f)++p::((c++Y++d)++q::(e++Z))).length=X.length+i+1+c.length+Y.length+i+1+e.length+Z.length:=by simp [o,t];omega
  have l:((X++f)++q::((c++Y++d)++q::(e++Z))).length=((X++f)++p::((c++Y++d)++q::(e++Z))).length:=by simp
  have z:(d++p::c).length=i+1+c.length:=by simp [o];omega
  have J:Zo (Vb .i64 (((X.length+(d++p::c).length+Y.length:Nat):Int)+(i:Int))) ((X++f)++p::((c++Y++d)++q::(e++Z))).length=some (X.length+i+1+(c.length+Y.length+i)):=Dm (by rw[z,Zs (by omega) (by omega)];omega) (by rw[j];omega);have K:Zo (Vb .i64 ((X.length:Int)+(i:Int))) ((X++f)++p::((c++Y++d)++q::(e++Z))).length=some (X.length+i):=Dm (by rw[Zs (by omega) (by omega)];omega) (by rw[j];omega);have E:((X++f)++p::((c++Y++d)++q::(e++Z)))[X.length+i+1+(c.length+Y.length+i)]? =some q:=Ra (by rw[u,w]);have F:((X++f)++p::((c++Y++d)++q::(e++Z)))[X.length+i]? =some p:=Hc u.symm;have M:((X++f)++p::((c++Y++d)++q::(e++Z))).set (X.length+i) q=(X++f)++q::((c++Y++d)++q::(e++Z)):=GP u.symm
  have G:((X++f)++q::((c++Y++d)++q::(e++Z)))[X.length+i+1+(c.length+Y.length+i)]? =some q:=Ra (by rw[u,w]);have N:((X++f)++q::((c++Y++d)++q::(e++Z))).set (X.length+i+1+(c.length+Y.length+i)) p=(X++f)++q::((c++Y++d)++p::(e++Z)):=ZcM (by rw[u,w]);rw[D];simp only[Zd (show (i:Int)<((d++p::c).length:Int) by rw[z];omega),Zc,J,K,E,F,Za,M,l,G,N];refine⟨_,rfl,d++[p],c,f++[q],e,by simp,by simp,by simp [o],by simp [t],?_⟩;rw[Zs (by omega) (by omega)];refine Vk (by simp) ?_;simp only;omega
 ·rintro _ ⟨d,c,f,e,rfl,rfl,o,t,rfl⟩;rw[Vc]at o t;rw[Vc,Vc]at g;have:c=[]:=Ve (by omega);subst this;have:e=[]:=Ve (by omega);subst this;exact⟨_,by rw[Zk (Vnb _)];rfl,by simp⟩
theorem Zak{α:Type}(l:List α){k:Nat}(h:k<=l.length):∃a b,l=a++b/\a.length=k:=⟨l.take k,l.drop k,(Vv k l).symm,by simp;omega⟩
theorem Ztc(X A B Z:List Z7)(D:0<A.length)(E:0<B.length)(I:X.length+A.length+B.length+Z.length<=1048576){a m b:Int}(ha:a=(X.length:Int))(hm:m=((X.length+A.length:Nat):Int))(F:b=((X.length+A.length+B.length:Nat):Int)):
 F180 (X++(A++(B++Z))) a m b ()=some (X++(B++(A++Z))):=by
 subst ha hm F;unfold F180;have G:Vb .i64 (((X.length+A.length:Nat):Int) - (X.length:Int))=(A.length:Int):=by rw[Zs (by omega) (by omega)];omega
 have H:Vb .i64 (((X.length+A.length+B.length:Nat):Int) - ((X.length+A.length:Nat):Int))=(B.length:Int):=by rw[Zs (by omega) (by omega)];omega
 rw[G,H];refine KF (fun r:List Z7×Int=>∃P c d Q,r=(P++(c++(d++Q)),(c.length:Int))/\P.length+c.length=X.length+A.length/\c.length=d.length/\P++(d++(c++Q))=X++(B++(A++Z))/\P.length+c.length+d.length+Q.length=X.length+A.length+B.length+Z.length) ?_ ?_
 ·refine Zbi (Inv:=fun s:List Z7×Int×Int=>∃P c d Q,s=(P++(c++(d++Q)),(c.length:Int),(d.length:Int))/\P.length+c.length=X.length+A.length/\0<c.length/\0<d.length/\P++(d++(c++Q))=X++(B++(A++Z))/\P.length+c.length+d.length+Q.length=X.length+A.length+B.length+Z.length) (μ:=fun s=>(s.2.1+s.2.2).toNat) ?_ _ ⟨X,A,B,Z,rfl,rfl,D,E,rfl,rfl⟩;rintro _ ⟨P,c,d,Q,rfl,u,v,C,l,p⟩;dsimp only;by_cases z:c.length=d.length
  ·right;rw[Zd (show (c.length:Int)=(d.length:Int) by omega)];exact⟨_,rfl,P,c,d,Q,rfl,u,z,l,p⟩
  ·left;rw[Zk (show¬(c.length:Int)=(d.length:Int) by omega)];by_cases o:d.length<c.length
   ·rw[Zd (show (d.length:Int)<(c.length:Int) by omega)];obtain⟨f,g,rfl,w⟩:=Zak c (k:=d.length) (by omega);rw[Vc]at u v p o z;have e:=ZhK P f g d Q w (by omega) (a:=Vb .i64 (((X.length+A.length:Nat):Int) - ((f++g).length:Int))) (b:=((X.length+A.length:Nat):Int)) (k:=(d.length:Int)) (by rw[Vc,Zs (by omega) (by omega)];omega) (by omega) (by omega);have t:P++(f++g++(d++Q))=P++(f++(g++(d++Q))):=by simp
    simp only[t,Vx,Zc,e,Za];refine⟨_,rfl,⟨P++d,g,f,Q,?_,?_,by omega,by omega,?_,?_⟩,?_⟩
    ·rw[Zs (by omega) (by rw[Vc];omega)];refine Vk (by simp) (Vk ?_ ?_)
     ·simp only[Vc];omega
     ·simp only;omega
    ·rw[Vc];omega
    ·rw[<-l];simp
    ·rw[Vc];omega
    ·rw[Zs (by omega) (by rw[Vc];omega)];simp only[Vc];omega
   ·rw[Zk (show¬(d.length:Int)<(c.length:Int) by omega)];obtain⟨h,j,rfl,y⟩:=Zak d (k:=d.length - c.length) (by omega);rw[Vc]at C p o z y;have e:=ZhK P c h j Q (by omega) (by omega) (a:=Vb .i64 (((X.length+A.length:Nat):Int) - (c.length:Int))) (b:=Vb .i64 (Vb .i64 (((X.length+A.length:Nat):Int)+((h++j).length:Int)) - (c.length:Int))) (k:=(c.length:Int)) (by rw[Zs (by omega) (by omega)];omega) (by rw[Vc,Zs (x:=((X.length+A.length:Nat):Int)+_) (by omega) (by omega),Zs (by omega) (by omega)];omega) rfl;have t:P++(c++(h++j++Q))=P++(c++(h++(j++Q))):=by simp
    simp only[t,Vx,Zc,Ze,e,Za];refine⟨_,rfl,⟨P,j,h,c++Q,?_,by omega,by omega,by omega,?_,?_⟩,?_⟩
    ·rw[Vc,Zs (by omega) (by omega)];refine Vk (by simp) (Vk ?_ ?_)
     ·simp only;omega
     ·simp only;omega
    ·rw[<-l];simp
    ·rw[Vc];omega
    ·rw[Vc,Zs (by omega) (by omega)];simp only;omega
 ·rintro _ ⟨P,c,d,Q,rfl,u,v,l,p⟩;have e:=ZhK P c [] d Q v (by simp;omega) (a:=Vb .i64 (((X.length+A.length:Nat):Int) - (c.length:Int))) (b:=((X.length+A.length:Nat):Int)) (k:=(c.length:Int)) (by rw[Zs (by omega) (by omega)];omega) (by simp;omega) rfl;simp only[Vga]at e;simp only[e,Za];rw[l]
theorem Rg{l:List Z7}(h:l.Pairwise Le){i j:Nat}{x y:Z7}(e:i<=j)(d:l[i]? =some x)(f:l[j]? =some y):Le x y:=by
 obtain⟨a,rfl⟩:=Vob.1 d;obtain⟨b,rfl⟩:=Vob.1 f;rcases Vab i j with c|c
 ·exact Vp.1 h i j a b c
 ·have:i=j:=by omega
  subst this;unfold Le W9;omega
theorem Zsc(X Z:List Z7)(x:Z7)(B:List Z7)(hx:Gd x)(hB:∀y∈B,Gd y)(M:B.Pairwise Le)(a0:0<B.length)(hl:X.length+1+B.length+Z.length<=1048576)(rec:List Z7->Int->Int->Int->Unit->Option (List Z7)):
 ∃C,F184 rec (X++(x::(B++Z))) (X.length:Int) ((X.length+1:Nat):Int) ((X.length+1+B.length:Nat):Int) ()=some (X++(C++Z))/\C.Perm (x::B)/\C.Pairwise Le:=by
 unfold F184;have w1:Vb .i64 (((X.length+1:Nat):Int) - (X.length:Int))=1:=by rw[Zs (by omega) (by omega)];omega
 rw[w1,Zd rfl];simp only[Zc];have l:(X++(x::(B++Z))).length=X.length+1+B.length+Z.length:=by simp;omega
 have D:∀i,i<B.length->(X++(x::(B++Z)))[X.length+1+i]? =B[i]? :=fun i E=>by
  have:X++(x::(B++Z))=(X++[x])++(B++Z):=by simp
  rw[this,Vn (by simp),Vo (by simp;omega)];congr 1;simp
 have I:(X++(x::(B++Z)))[X.length]? =some x:=Hc rfl
 obtain⟨k,k1,k2,O,Q⟩:=Zf2 (fun c=>∃y,B[c - (X.length+1)]? =some y/\W9 y x) (lo:=X.length+1) (X.length+1+B.length) (by omega) (fun c d V W Y=>by rintro ⟨y,f,a1⟩;obtain⟨w,t⟩:∃w,B[c - (X.length+1)]? =some w:=⟨_,Va (by omega)⟩;refine⟨w,t,?_⟩;have:=Rg M (show c - (X.length+1)<=d - (X.length+1) by omega) t f;unfold Le W9 at*;omega)
 refine⟨B.take (k - (X.length+1))++x::B.drop (k - (X.length+1)),?_,?_,?_⟩
 ·refine KF (fun r:Int=>r=(k:Int)) ⟨_,Zht k1 k2 ?_ ?_,rfl⟩ ?_
  ·intro i j V W Y;dsimp only;have hm:=ZdW (i:=i) (j:=j) (by omega);rw[Zd (show (i:Int)<(j:Int) by omega),hm];obtain⟨y,f⟩:∃y,B[(i+j) / 2 - (X.length+1)]? =some y:=⟨_,Va (by omega)⟩;have J:(X++(x::(B++Z)))[(i+j) / 2]? =some y:=by rw[<-f, <-D _ (by omega)];congr 1;omega
   obtain⟨z,hz,G⟩:=Zes (hB y (Vta f)) hx;have H:Zo (((i+j) / 2:Nat):Int) (X++(x::(B++Z))).length=some ((i+j) / 2):=Ke (by rw[l];omega);have K:Zo (X.length:Int) (X++(x::(B++Z))).length=some X.length:=Ke (by rw[l];omega);simp only[Zc,H,J,K,I,hz,Za];by_cases g:z<0
   ·rw[Zd g,Zp (by
     rcases Vab ((i+j) / 2) k with h|h
     ·exact h
     ·exact absurd ⟨y,f,G.1 g⟩ (Q _ h (by omega)))]
    simp only[Zc];rw[Zs (by omega) (by omega)];rfl
   ·rw[Zk g,Zf (fun h=>by obtain⟨y',b,p⟩:=O _ (by omega) h;rw[f]at b;cases b;exact g (G.2 p))]
    rfl
  ·intro i;dsimp only;rw[Zk (Vnb _)];rfl
  ·rintro _ rfl;refine KF (fun r=>r=X++(B.take (k - (X.length+1))++x::B.drop (k - (X.length+1))++Z)) ?_ (fun r h=>by rw[h]);refine Kq (k - (X.length+1)) _ (fun i (s:List Z7×Int)=>s=(X++(B.take i++x::(B.drop i++Z)),((X.length+i:Nat):Int))) ?_ ?_ _ (by simp)
   ·rintro i _ E rfl;left;dsimp only;have F:i<B.length:=by omega
    rw[Zs (x:=(k:Int) - 1) (by omega) (by omega),Zd (show ((X.length+i:Nat):Int)<(k:Int) - 1 by omega)];have hd:B.drop i=B[i]::B.drop (i+1):=Vr F;have ht:B.take (i+1)=B.take i++[B[i]]:=Vd F;rw[hd,ht];generalize B[i]=y;have A:(X++B.take i).length=X.length+i:=by simp;omega
    have R:X++(B.take i++x::(y::B.drop (i+1)++Z))=(X++B.take i)++x::([]++y::(B.drop (i+1)++Z)):=by simp
    have o:((X++B.take i)++x::([]++y::(B.drop (i+1)++Z))).length=X.length+1+B.length+Z.length:=by simp;omega
    have v:((X++B.take i)++y::([]++y::(B.drop (i+1)++Z))).length=X.length+1+B.length+Z.length:=by simp;omega
    have H:Zo (Vb .i64 (((X.length+i:Nat):Int)+1)) ((X++B.take i)++x::([]++y::(B.drop (i+1)++Z))).length=some (X.length+i+1):=Dm (by rw[Zs (by omega) (by omega)];omega) (by rw[o];omega);have K:Zo ((X.length+i:Nat):Int) ((X++B.take i)++x::([]++y::(B.drop (i+1)++Z))).length=some (X.length+i):=Ke (by rw[o];omega);have S:((X++B.take i)++x::([]++y::(B.drop (i+1)++Z)))[X.length+i+1]? =some y:=Ra (by rw[A];simp);have T:((X++B.take i)++x::([]++y::(B.drop (i+1)++Z)))[X.length+i]? =some x:=Hc A.symm;have s1:((X++B.take i)++x::([]++y::(B.drop (i+1)++Z))).set (X.length+i) y=(X++B.take i)++y::([]++y::(B.drop (i+1)++Z)):=GP A.symm
    have i3:Zo (Vb .i64 (((X.length+i:Nat):Int)+1)) ((X++B.take i)++y::([]++y::(B.drop (i+1)++Z))).length=some (X.length+i+1):=by rw[v, <-o];exact H
    have U:((X++B.take i)++y::([]++y::(B.drop (i+1)++Z)))[X.length+i+1]? =some y:=Ra (by rw[A];simp);have s2:((X++B.take i)++y::([]++y::(B.drop (i+1)++Z))).set (X.length+i+1) x=(X++B.take i)++y::([]++x::(B.drop (i+1)++Z)):=ZcM (by rw[A];simp);rw[R];simp only[Zc,H,S,K,T,Za,s1,i3,U,s2];refine⟨_,rfl,?_⟩;rw[Zs (by omega) (by omega)];refine Vk (by simp) ?_;simp only;omega
   ·rintro _ rfl;dsimp only;rw[Zs (x:=(k:Int) - 1) (by omega) (by omega),Zk (show¬((X.length+(k - (X.length+1)):Nat):Int)<(k:Int) - 1 by omega)];exact⟨_,rfl,by simp⟩
 ·have h:=Vdb (a:=x) (l₁:=B.take (k - (X.length+1))) (l₂:=B.drop (k - (X.length+1)));rw[Vv]at h;exact h
 ·have h:=M;rw[<-Vv (k - (X.length+1)) B,Vm]at h;obtain⟨p1,p2,p3⟩:=h;rw[Vm]
  have q1:∀y∈B.take (k - (X.length+1)),Le y x:=fun y f=>by obtain⟨i,E,rfl⟩:=Vh f;rw[Vka]at E;obtain⟨y',b,p⟩:=O (X.length+1+i) (by omega) (by omega);rw[show X.length+1+i - (X.length+1)=i by omega,Va (by omega)]at b;rw[Voc,Option.some.inj b];exact p.le
  have q2:∀y∈B.drop (k - (X.length+1)),Le x y:=fun y f=>by
   obtain⟨i,E,rfl⟩:=Vh f;rw[Vea]at E;have:=Q (k+i) (by omega) (by omega);rw[Vpc]
   exact fun h=>this ⟨_,Va (by omega),by
    have e:k+i - (X.length+1)=k - (X.length+1)+i:=by omega
    simp only[e];exact h⟩
  refine⟨p1,Vya.2 ⟨q2,p2⟩,fun u N w t=>?_⟩;rcases Vz.1 t with rfl|t
  ·exact q1 u N
  ·exact p3 u N w t
theorem Zsb(X Z:List Z7)(y:Z7)(A:List Z7)(hy:Gd y)(hA:∀x∈A,Gd x)(O:A.Pairwise Le)(a0:2<=A.length)(N:X.length+1+A.length+Z.length<=1048576)(rec:List Z7->Int->Int->Int->Unit->Option (List Z7)):
 ∃C,F184 rec (X++(A++(y::Z))) (X.length:Int) ((X.length+A.length:Nat):Int) ((X.length+A.length+1:Nat):Int) ()=some (X++(C++Z))/\C.Perm (A++[y])/\C.Pairwise Le:=by
 unfold F184;have w1:Vb .i64 (((X.length+A.length:Nat):Int) - (X.length:Int))=(A.length:Int):=by rw[Zs (by omega) (by omega)];omega
 have w2:Vb .i64 (((X.length+A.length+1:Nat):Int) - ((X.length+A.length:Nat):Int))=1:=by rw[Zs (by omega) (by omega)];omega
 rw[w1,w2,Zk (show¬(A.length:Int)=1 by omega),Zd rfl];simp only[Zc,Ze];have l:(X++(A++(y::Z))).length=X.length+1+A.length+Z.length:=by simp;omega
 have D:∀i,i<A.length->(X++(A++(y::Z)))[X.length+i]? =A[i]? :=fun i E=>by rw[Vn (by omega),Vo (by omega)];congr 1;omega
 have J:(X++(A++(y::Z)))[X.length+A.length]? =some y:=by
  have:X++(A++(y::Z))=(X++A)++(y::Z):=by simp
  rw[this];exact Hc (by simp)
 obtain⟨k,k1,k2,R,S⟩:=Zf2 (fun c=>∃x,A[c - X.length]? =some x/\Le x y) (lo:=X.length) (X.length+A.length) (by omega) (fun c d h1 h2 h3=>by rintro ⟨x,f,K⟩;obtain⟨w,t⟩:∃w,A[c - X.length]? =some w:=⟨_,Va (by omega)⟩;exact⟨w,t,(Rg O (show c - X.length<=d - X.length by omega) t f).trans K⟩)
 refine⟨A.take (k - X.length)++y::A.drop (k - X.length),?_,?_,?_⟩
 ·refine KF (fun r:Int=>r=(k:Int)) ⟨_,Zht k1 k2 ?_ ?_,rfl⟩ ?_
  ·intro i j h1 h2 h3;dsimp only;have hm:=ZdW (i:=i) (j:=j) (by omega);rw[Zd (show (i:Int)<(j:Int) by omega),hm];obtain⟨x,f⟩:∃x,A[(i+j) / 2 - X.length]? =some x:=⟨_,Va (by omega)⟩;have I:(X++(A++(y::Z)))[(i+j) / 2]? =some x:=by rw[<-f, <-D _ (by omega),show X.length+((i+j) / 2 - X.length)=(i+j) / 2 by omega]
   obtain⟨z,hz,G⟩:=Zes hy (hA x (Vta f));have M:Zo (((i+j) / 2:Nat):Int) (X++(A++(y::Z))).length=some ((i+j) / 2):=Ke (by rw[l];omega);have H:Zo ((X.length+A.length:Nat):Int) (X++(A++(y::Z))).length=some (X.length+A.length):=Ke (by rw[l];omega);simp only[Zc,M,I,H,J,hz,Za];by_cases g:z<0
   ·rw[Zd g,Zf (fun h=>by obtain⟨x',b,p⟩:=R _ (by omega) h;rw[f]at b;cases b;exact p (G.1 g))]
    rfl
   ·rw[Zk g,Zp (by
     rcases Vab ((i+j) / 2) k with h|h
     ·exact h
     ·exact absurd ⟨x,f,fun N=>g (G.2 N)⟩ (S _ h (by omega)))]
    simp only[Vx,Zc];rw[Zs (by omega) (by omega)];rfl
  ·intro i;dsimp only;rw[Zk (Vnb _)];rfl
  ·rintro _ rfl;refine KF (fun r=>r=X++(A.take (k - X.length)++y::A.drop (k - X.length)++Z)) ?_ (fun r h=>by rw[h]);refine Kq (X.length+A.length - k) _ (fun i (s:List Z7×Int)=>s=(X++(A.take (A.length - i)++y::(A.drop (A.length - i)++Z)),((X.length+A.length - i:Nat):Int))) ?_ ?_ _ (by simp)
   ·rintro i _ E rfl;left;dsimp only;obtain⟨j,hj⟩:∃j,A.length - i=j+1:=⟨A.length - i - 1,by omega⟩;have F:j<A.length:=by omega
    have T:A.length - (i+1)=j:=by omega
    have U:X.length+A.length - i=X.length+j+1:=by omega
    have V:X.length+A.length - (i+1)=X.length+j:=by omega
    rw[hj,T,U,V,Zd (show (k:Int)<((X.length+j+1:Nat):Int) by omega)];have hd:A.drop j=A[j]::A.drop (j+1):=Vr F;have ht:A.take (j+1)=A.take j++[A[j]]:=Vd F;rw[hd,ht];generalize A[j]=x;have B:(X++A.take j).length=X.length+j:=by simp;omega
    have W:X++(A.take j++[x]++y::(A.drop (j+1)++Z))=(X++A.take j)++x::([]++y::(A.drop (j+1)++Z)):=by simp
    have o:((X++A.take j)++x::([]++y::(A.drop (j+1)++Z))).length=X.length+1+A.length+Z.length:=by simp;omega
    have v:((X++A.take j)++x::([]++x::(A.drop (j+1)++Z))).length=X.length+1+A.length+Z.length:=by simp;omega
    have M:Zo ((X.length+j+1:Nat):Int) ((X++A.take j)++x::([]++y::(A.drop (j+1)++Z))).length=some (X.length+j+1):=Ke (by rw[o];omega);have H:Zo (Vb .i64 (((X.length+j+1:Nat):Int) - 1)) ((X++A.take j)++x::([]++y::(A.drop (j+1)++Z))).length=some (X.length+j):=Dm (by rw[Zs (by omega) (by omega)];omega) (by rw[o];omega);have Y:((X++A.take j)++x::([]++y::(A.drop (j+1)++Z)))[X.length+j+1]? =some y:=Ra (by rw[B];simp);have g2:((X++A.take j)++x::([]++y::(A.drop (j+1)++Z)))[X.length+j]? =some x:=Hc B.symm;have s1:((X++A.take j)++x::([]++y::(A.drop (j+1)++Z))).set (X.length+j+1) x=(X++A.take j)++x::([]++x::(A.drop (j+1)++Z)):=ZcM (by rw[B];simp)
    have i3:Zo (Vb .i64 (((X.length+j+1:Nat):Int) - 1)) ((X++A.take j)++x::([]++x::(A.drop (j+1)++Z))).length=some (X.length+j):=by rw[v, <-o];exact H
    have g3:((X++A.take j)++x::([]++x::(A.drop (j+1)++Z)))[X.length+j]? =some x:=Hc B.symm;have s2:((X++A.take j)++x::([]++x::(A.drop (j+1)++Z))).set (X.length+j) y=(X++A.take j)++y::([]++x::(A.drop (j+1)++Z)):=GP B.symm;rw[W];simp only[Zc,M,Y,H,g2,Za,s1,i3,g3,s2];refine⟨_,rfl,?_⟩;rw[Zs (by omega) (by omega)];refine Vk (by simp) ?_;simp only;omega
   ·rintro _ rfl;dsimp only;rw[Zk (show¬(k:Int)<((X.length+A.length - (X.length+A.length - k):Nat):Int) by omega),show A.length - (X.length+A.length - k)=k - X.length by omega];exact⟨_,rfl,by simp⟩
 ·have h:=Vdb (a:=y) (l₁:=A.take (k - X.length)) (l₂:=A.drop (k - X.length));rw[Vv]at h;exact h.trans (List.perm_append_singleton y A).symm
 ·have h:=O;rw[<-Vv (k - X.length) A,Vm]at h;obtain⟨p1,p2,p3⟩:=h;rw[Vm]
  have q1:∀x∈A.take (k - X.length),Le x y:=fun x f=>by obtain⟨i,E,rfl⟩:=Vh f;rw[Vka]at E;obtain⟨x',b,p⟩:=R (X.length+i) (by omega) (by omega);rw[show X.length+i - X.length=i by omega,Va (by omega)]at b;rw[Voc,Option.some.inj b];exact p
  have q2:∀x∈A.drop (k - X.length),Le y x:=fun x f=>by
   obtain⟨i,E,rfl⟩:=Vh f;rw[Vea]at E;have:=S (k+i) (by omega) (by omega);rw[Vpc];intro h;refine this ⟨_,Va (by omega),?_⟩;have e:k+i - X.length=k - X.length+i:=by omega
   simp only[e];exact h.le
  refine⟨p1,Vya.2 ⟨q2,p2⟩,fun u Q w t=>?_⟩;rcases Vz.1 t with rfl|t
  ·exact q1 u Q
  ·exact p3 u Q w t
noncomputable def ZhB(L:List Z7)(M b:Nat):Int×Int->Option ((Int×Int) ⊕ Int):=fun a=>
 bif decide (a.1<a.2) then
  Vpa (Zo (Vb .i64 (Vb .i64 (Vb .i64 ((b:Int)+(M:Int)) - (1:Int)) - Vb .i64 (Vsb (Vb .u64 (Vb .i64 (a.1+a.2))) ((2:Int) ^ Min.min (Vwa (1:Int)) (Go.IntKind.bits .u64))))) (Vy L)) fun c=>
  Vpa L[c]? fun d=>
  Vpa (Zo (Vb .i64 (Vsb (Vb .u64 (Vb .i64 (a.1+a.2))) ((2:Int) ^ Min.min (Vwa (1:Int)) (Go.IntKind.bits .u64)))) (Vy L)) fun e=>
  Vpa L[e]? fun f=>
  Vpa (F140 d f) fun g=>
  bif !decide (g<(0:Int)) then some (.inl (Vb .i64 (Vb .i64 (Vsb (Vb .u64 (Vb .i64 (a.1+a.2))) ((2:Int) ^ Min.min (Vwa (1:Int)) (Go.IntKind.bits .u64)))+(1:Int)),a.2))
  else some (.inl (a.1,Vb .i64 (Vsb (Vb .u64 (Vb .i64 (a.1+a.2))) ((2:Int) ^ Min.min (Vwa (1:Int)) (Go.IntKind.bits .u64)))))
 else some (.inr a.1)
theorem Zsa(X A B Z:List Z7){a lo v:Nat}(hA:∀x∈A,Gd x)(hB:∀x∈B,Gd x)(T:A.Pairwise Le)(U:B.Pairwise Le)(Y:X.length+A.length+B.length+Z.length<=1048576)(a2:2*a<=X.length+(X.length+A.length+B.length))(e1:X.length<=lo)(e2:lo<=v)(e3:v<=X.length+A.length)(e4:v<=a)(e5:a+(X.length+A.length)<=lo+(X.length+A.length+B.length))
 (f1:lo=X.length\/a+(X.length+A.length)=lo+(X.length+A.length+B.length)) (f2:v=X.length+A.length\/v=a):
 ∃s b e f g,A=b++e/\B=f++g/\X.length+b.length=s/\s+f.length=a/\(∀u∈b,∀w∈g,Le u w)/\(∀u∈f,∀w∈e,Le u w)/\run (ZhB (X++(A++(B++Z))) (X.length+A.length) a) ((lo:Int),(v:Int))=some (s:Int):=by
 have D:(X++(A++(B++Z))).length=X.length+A.length+B.length+Z.length:=by simp;omega
 have J:∀i,i<A.length->(X++(A++(B++Z)))[X.length+i]? =A[i]? :=fun i v=>by rw[Vn (by omega),Vo (by omega)];congr 1;omega
 have K:∀i,i<B.length->(X++(A++(B++Z)))[X.length+A.length+i]? =B[i]? :=fun i v=>by rw[Vn (by omega),Vn (by omega),Vo (by omega)];congr 1;omega
 obtain⟨s,s1,s2,s3,s4⟩:=Zf2 (fun c=>∃x y,A[c - X.length]? =some x/\B[a - 1 - c]? =some y/\Le x y) (lo:=lo) v e2 (fun c d h1 h2 h3=>by rintro ⟨x,y,o,r,F⟩;obtain⟨x',p⟩:∃w,A[c - X.length]? =some w:=⟨_,Va (by omega)⟩;obtain⟨y',t⟩:∃w,B[a - 1 - c]? =some w:=⟨_,Va (by omega)⟩;exact⟨x',y',p,t,((Rg T (by omega) p o).trans F).trans (Rg U (by omega) r t)⟩)
 obtain⟨b,e,rfl,V⟩:=Zak A (k:=s - X.length) (by omega);obtain⟨f,g,rfl,W⟩:=Zak B (k:=a - s) (by omega);have a0:(b++e).length=b.length+e.length:=Vc;have a1:(f++g).length=f.length+g.length:=Vc
 have H:∀u∈b,∀w∈g,Le u w:=fun u Q w R=>by
  obtain⟨i,l,rfl⟩:=Vh Q;obtain⟨j,E,rfl⟩:=Vh R;obtain⟨x,y,o,r,F⟩:=s3 (s - 1) (by omega) (by omega);refine((Rg T (i:=i) (j:=s - 1 - X.length) (by omega) ?_ o).trans F).trans (Rg U (j:=f.length+j) (by omega) r ?_)
  ·rw[Vo l,Va l]
  ·rw[Vn (by omega),Vrb,Va E]
 have I:∀u∈f,∀w∈e,Le u w:=fun u Q w R=>by
  obtain⟨i,l,rfl⟩:=Vh Q;obtain⟨j,E,rfl⟩:=Vh R;have hn:=s4 s (Vqa _) (by omega);obtain⟨x,o⟩:∃w,(b++e)[s - X.length]? =some w:=⟨_,Va (by omega)⟩;obtain⟨y,r⟩:∃w,(f++g)[a - 1 - s]? =some w:=⟨_,Va (by omega)⟩;have S:Le y x:=fun h=>hn ⟨x,y,o,r,h.le⟩;refine((Rg U (i:=i) (by omega) ?_ r).trans S).trans (Rg T (j:=b.length+j) (by omega) o ?_)
  ·rw[Vo l,Va l]
  ·rw[Vn (by omega),Vrb,Va E]
 refine⟨s,b,e,f,g,rfl,rfl,by omega,by omega,H,I,Zht s1 s2 ?_ ?_⟩
 ·intro i j h1 h2 h3;unfold ZhB;dsimp only;have hm:=ZdW (i:=i) (j:=j) (by omega);rw[Zd (show (i:Int)<(j:Int) by omega),hm];obtain⟨x,o⟩:∃x,(b++e)[(i+j) / 2 - X.length]? =some x:=⟨_,Va (by omega)⟩;obtain⟨y,r⟩:∃w,(f++g)[a - 1 - (i+j) / 2]? =some w:=⟨_,Va (by omega)⟩;have M:(X++(b++e++(f++g++Z)))[(i+j) / 2]? =some x:=by rw[<-o, <-J _ (by omega),show X.length+((i+j) / 2 - X.length)=(i+j) / 2 by omega]
  have N:(X++(b++e++(f++g++Z)))[X.length+(b++e).length+(a - 1 - (i+j) / 2)]? =some y:=by rw[<-r, <-K _ (by omega)]
  obtain⟨z,hz,G⟩:=Zes (hB y (Vta r)) (hA x (Vta o));have i1:Zo (((i+j) / 2:Nat):Int) (X++(b++e++(f++g++Z))).length=some ((i+j) / 2):=Ke (by rw[D];omega)
  have i2:Zo (Vb .i64 (Vb .i64 (Vb .i64 ((a:Int)+((X.length+(b++e).length:Nat):Int)) - 1) - (((i+j) / 2:Nat):Int))) (X++(b++e++(f++g++Z))).length=some (X.length+(b++e).length+(a - 1 - (i+j) / 2)):=
   Dm (by rw[Zs (x:=(a:Int)+_) (by omega) (by omega),Zs (x:=(a:Int)+_ - 1) (by omega) (by omega),Zs (by omega) (by omega)];omega) (by rw[D];omega)
  simp only[Zc,i1,M,i2,N,hz,Za];by_cases C:z<0
  ·rw[Zd C,Zf (fun h=>by obtain⟨x',y',p,t,O⟩:=s3 _ (by omega) h;rw[o]at p;rw[r]at t;cases p;cases t;exact O (G.1 C))]
   rfl
  ·rw[Zk C,Zp (by
    rcases Vab ((i+j) / 2) s with h|h
    ·exact h
    ·exact absurd ⟨x,y,o,r,fun Y=>C (G.2 Y)⟩ (s4 _ h (by omega)))]
   simp only[Vx,Zc];rw[Zs (by omega) (by omega)];rfl
 ·intro i;unfold ZhB;dsimp only;rw[Zk (Vnb _)];rfl
theorem Zsd:∀(k:Nat) (X A B Z:List Z7),1<=k->A.length+B.length<=2 ^ k->0<A.length->0<B.length->(∀x∈A,Gd x)->(∀x∈B,Gd x)->A.Pairwise Le->B.Pairwise Le->X.length+A.length+B.length+Z.length<=1048576->
 ∃C,F185 k (X++(A++(B++Z))) (X.length:Int) ((X.length+A.length:Nat):Int) ((X.length+A.length+B.length:Nat):Int) ()=some (X++(C++Z))/\C.Perm (A++B)/\C.Pairwise Le:=by
 intro k
 induction k with
 |zero=>intro X A B Z h;omega
 |succ k ih=>
 intro X A B Z _ U a7 a2 J M sA sB hl;show∃C,F184 (F185 k) _ _ _ _ _=_/\_;by_cases a1:A.length=1
 ·obtain⟨x,rfl⟩:=Vma.1 a1;obtain⟨C,V,Y,c3⟩:=Zsc X Z x B (J x (by simp)) M sB a2 (by simpa using hl) (F185 k);exact⟨C,V,Y,c3⟩
 by_cases a3:B.length=1
 ·obtain⟨y,rfl⟩:=Vma.1 a3;obtain⟨C,V,Y,c3⟩:=Zsb X Z y A (M y (by simp)) J sA (by omega) (by simp at hl;omega) (F185 k);exact⟨C,V,Y,c3⟩
 have O:1<=k:=by
  rcases Vza k with rfl|h
  ·simp at U;omega
  ·exact h
 have a6:A.length+B.length<=2*2 ^ k:=by rw[Nat.pow_succ]at U;omega
 unfold F184;have w1:Vb .i64 (((X.length+A.length:Nat):Int) - (X.length:Int))=(A.length:Int):=by rw[Zs (by omega) (by omega)];omega
 have w2:Vb .i64 (((X.length+A.length+B.length:Nat):Int) - ((X.length+A.length:Nat):Int))=(B.length:Int):=by rw[Zs (by omega) (by omega)];omega
 have w3:=ZdW (i:=X.length) (j:=X.length+A.length+B.length) (by omega);rw[w1,w2,w3,Zk (show¬(A.length:Int)=1 by omega),Zk (show¬(B.length:Int)=1 by omega)];simp only[Ze];obtain⟨c,S⟩:∃c,(X.length+(X.length+A.length+B.length)) / 2=c:=⟨_,rfl⟩;rw[S]
 obtain⟨F,z,Q,a9,hb⟩:∃F z:Nat,(if c<X.length+A.length then F=c+(X.length+A.length) - (X.length+A.length+B.length)/\z=c else F=X.length/\z=X.length+A.length)/\F<=z/\
  (bif decide ((c:Int)<((X.length+A.length:Nat):Int)) then some (Vb .i64 (Vb .i64 ((c:Int)+((X.length+A.length:Nat):Int)) - ((X.length+A.length+B.length:Nat):Int)),(c:Int)) else some ((X.length:Int),((X.length+A.length:Nat):Int)))=some ((F:Int),(z:Int)):=by
  by_cases h:c<X.length+A.length
  ·refine⟨c+(X.length+A.length) - (X.length+A.length+B.length),c,by rw[Zp h];exact⟨rfl,rfl⟩,by omega,?_⟩;rw[Zd (by omega),Zs (x:=(c:Int)+_) (by omega) (by omega),Zs (by omega) (by omega)];simp only[Zc];congr 2;omega
  ·refine⟨X.length,X.length+A.length,by rw[Zf h];exact⟨rfl,rfl⟩,by omega,?_⟩;rw[Zk (by omega)];rfl
 rw[hb];simp only[Za];have a5:2*c<=X.length+(X.length+A.length+B.length):=by omega
 have b0:X.length+(X.length+A.length+B.length)<=2*c+1:=by omega
 have R:X.length<=F/\F<=z/\z<=X.length+A.length/\z<=c/\c+(X.length+A.length)<=F+(X.length+A.length+B.length):=by split at Q<;>omega
 have o:(F=X.length\/c+(X.length+A.length)=F+(X.length+A.length+B.length))/\(z=X.length+A.length\/z=c):=by split at Q<;>omega
 obtain⟨e1,e2,e3,e4,e5⟩:=R;obtain⟨s,e,d,g,f,rfl,rfl,b1,b2,W,a0,T⟩:=Zsa X A B Z J M sA sB hl a5 e1 e2 e3 e4 e5 o.1 o.2;have K:(e++d).length=e.length+d.length:=Vc;have a4:(g++f).length=g.length+f.length:=Vc;have p:=Vm.1 sA;have t:=Vm.1 sB
 have we:Vb .i64 (Vb .i64 ((c:Int)+((X.length+(e++d).length:Nat):Int)) - (s:Int))=((c+(X.length+(e++d).length) - s:Nat):Int):=by rw[Zs (x:=(c:Int)+_) (by omega) (by omega),Zs (by omega) (by omega)];omega
 suffices h:∃r,_=some r/\ ∃C,r=X++(C++Z)/\C.Perm (e++d++(g++f))/\C.Pairwise Le by obtain⟨r,v,C,rfl,U,h3⟩:=h;exact⟨C,v,U,h3⟩
 refine Hr (fun r:Int=>r=(s:Int)) ⟨_,T,rfl⟩ ?_;rintro _ rfl;rw[we];refine Hr (fun r:Bool=>r=(decide (0<d.length) &&decide (0<g.length))) ?_ ?_
 ·have z1:c+(X.length+(e++d).length) - s=X.length+(e++d).length+g.length:=by omega
  rw[z1];by_cases h:s<X.length+(e++d).length
  ·rw[Zd (show (s:Int)<((X.length+(e++d).length:Nat):Int) by omega),Zd (show 0<d.length by omega)];refine⟨_,rfl,?_⟩;rw[Vca];exact decide_eq_decide.2 (show ((X.length+(e++d).length:Nat):Int)<((X.length+(e++d).length+g.length:Nat):Int)↔0<g.length by omega)
  ·rw[Zk (show¬(s:Int)<((X.length+(e++d).length:Nat):Int) by omega),Zk (show¬0<d.length by omega)];exact⟨_,rfl,rfl⟩
 rintro _ rfl;refine Hr (fun r:List Z7=>r=X++(e++(g++(d++(f++Z))))) ?_ ?_
 ·by_cases h:0<d.length/\0<g.length
  ·rw[Zd h.1,Zd h.2];have hr:=Ztc (X++e) d g (f++Z) h.1 h.2 (by simp;omega) (a:=(s:Int)) (m:=((X.length+(e++d).length:Nat):Int)) (b:=((c+(X.length+(e++d).length) - s:Nat):Int)) (by simp;omega) (by simp;omega) (by simp;omega);have eL:X++(e++d++(g++f++Z))=X++e++(d++(g++(f++Z))):=by simp
   rw[eL];simp only[Vgc,Zc,hr,Za];exact⟨_,rfl,by simp⟩
  ·have N:(decide (0<d.length) &&decide (0<g.length))=false:=by rw[Veb,decide_eq_false_iff_not,decide_eq_false_iff_not];omega
   rw[N];refine⟨_,rfl,?_⟩;rcases Vza d.length with v|v
   ·rw[Ve v];simp
   ·rw[Ve (show g.length=0 by omega)];simp
 rintro _ rfl;refine Hr (fun r:Bool=>r=(decide (0<e.length) &&decide (0<g.length))) ?_ ?_
 ·by_cases h:X.length<s
  ·rw[Zd (show (X.length:Int)<(s:Int) by omega),Zd (show 0<e.length by omega)];exact⟨_,rfl,by rw[Vca];exact decide_eq_decide.2 (by omega)⟩
  ·rw[Zk (show¬(X.length:Int)<(s:Int) by omega),Zk (show¬0<e.length by omega)];exact⟨_,rfl,rfl⟩
 rintro _ rfl;refine Hr (fun r:List Z7=>∃l,r=X++(l++(d++(f++Z)))/\l.Perm (e++g)/\l.Pairwise Le) ?_ ?_
 ·by_cases h:0<e.length/\0<g.length
  ·rw[Zd h.1,Zd h.2];obtain⟨C,I,g2,g3⟩:=ih X e g (d++(f++Z)) O (by omega) h.1 h.2 (fun x G=>J x (by simp [G])) (fun x G=>M x (by simp [G])) p.1 t.1 (by simp;omega);rw[show ((X.length+e.length:Nat):Int)=(s:Int) by omega,show ((X.length+e.length+g.length:Nat):Int)=(c:Int) by omega]at I;simp only[Vgc,Zc,I,Za];exact⟨_,rfl,C,rfl,g2,g3⟩
  ·have N:(decide (0<e.length) &&decide (0<g.length))=false:=by rw[Veb,decide_eq_false_iff_not,decide_eq_false_iff_not];omega
   rw[N];refine⟨_,rfl,e++g,by simp,.refl _,?_⟩;rcases Vza e.length with v|v
   ·rw[Ve v];exact t.1
   ·rw[Ve (show g.length=0 by omega),Vba];exact p.1
 rintro _ ⟨l,rfl,d1,d2⟩;have a8:l.length=e.length+g.length:=by rw[d1.length_eq,Vc]
 refine Hr (fun r:Bool=>r=(decide (0<d.length) &&decide (0<f.length))) ?_ ?_
 ·have z1:c+(X.length+(e++d).length) - s=c+d.length:=by omega
  have z2:X.length+(e++d).length+(g++f).length=c+d.length+f.length:=by omega
  rw[z1,z2];by_cases h:c<c+d.length
  ·rw[Zd (show (c:Int)<((c+d.length:Nat):Int) by omega),Zd (show 0<d.length by omega)];exact⟨_,rfl,by rw[Vca];exact decide_eq_decide.2 (show ((c+d.length:Nat):Int)<((c+d.length+f.length:Nat):Int)↔0<f.length by omega)⟩
  ·rw[Zk (show¬(c:Int)<((c+d.length:Nat):Int) by omega),Zk (show¬0<d.length by omega)];exact⟨_,rfl,rfl⟩
 rintro _ rfl
 have key:∃r,(bif (decide (0<d.length) &&decide (0<f.length)) then Vpa (F185 k (X++(l++(d++(f++Z)))) (c:Int) ((c+(X.length+(e++d).length) - s:Nat):Int) ((X.length+(e++d).length+(g++f).length:Nat):Int) ()) (fun x=>some x) else some (X++(l++(d++(f++Z)))))=some r/\ ∃H,r=X++(l++(H++Z))/\H.Perm (d++f)/\H.Pairwise Le:=by
  by_cases h:0<d.length/\0<f.length
  ·rw[Zd h.1,Zd h.2];obtain⟨C,I,g2,g3⟩:=ih (X++l) d f Z O (by omega) h.1 h.2 (fun x G=>J x (by simp [G])) (fun x G=>M x (by simp [G])) p.2.1 t.2.1 (by simp;omega);have f1:(((X++l).length:Nat):Int)=(c:Int):=by rw[Vc];omega
   have f2:(((X++l).length+d.length:Nat):Int)=((c+(X.length+(e++d).length) - s:Nat):Int):=by rw[Vc,K];omega
   have f3:(((X++l).length+d.length+f.length:Nat):Int)=((X.length+(e++d).length+(g++f).length:Nat):Int):=by rw[Vc,K,a4];omega
   rw[f1,f2,f3,Vs]at I;simp only[Vgc,Zc,I,Za];exact⟨_,rfl,C,by simp,g2,g3⟩
  ·have N:(decide (0<d.length) &&decide (0<f.length))=false:=by rw[Veb,decide_eq_false_iff_not,decide_eq_false_iff_not];omega
   rw[N];refine⟨_,rfl,d++f,by simp,.refl _,?_⟩;rcases Vza d.length with v|v
   ·rw[Ve v];exact t.2.1
   ·rw[Ve (show f.length=0 by omega),Vba];exact p.2.1
 obtain⟨r,r1,H,rfl,q1,q2⟩:=key;refine⟨_,r1,l++H,by simp,?_,?_⟩
 ·refine(d1.append q1).trans ?_;rw[Vs,Vs];refine List.Perm.append_left e ?_;rw[<-Vs, <-Vs];exact List.Perm.append_right f List.perm_append_comm
 ·refine Vm.2 ⟨d2,q2,fun u D w E=>?_⟩;have D:=d1.mem_iff.1 D;have E:=q1.mem_iff.1 E;rw[Vu]at D E
  rcases D with D|D<;>rcases E with E|E
  ·exact p.2.2 u D w E
  ·exact W u D w E
  ·exact a0 u D w E
  ·exact t.2.2 u D w E
def Yp(s:Nat)(l:List Z7):Prop:= ∀k,((l.drop (s*k)).take s).Pairwise Le
theorem ZiY{s:Nat}{l:List Z7}(h:Yp s l)(a:l.length<=s):l.Pairwise Le:=by
 have:=h 0
 rwa [Vlc,Vzb,Vna a]at this
theorem ZiZ(s:Nat):Yp s []:=fun k=>by simp
theorem Zpb{s:Nat}{l:List Z7}(h:Yp s l)(j:Nat):Yp s (l.drop (s*j)):=fun k=>by rw[Vxb, <-Vwb];exact h _
theorem ZbT{t i:Nat}{D C:List Z7}(h:Yp t D)(d:D.length=t*i)(b:C.Pairwise Le):Yp t (D++C):=fun k=>by
 by_cases c:k<i
 ·have a:t* (k+1)<=t*i:=Vhc t c;rw[Vwb,Vkb]at a;rw[Vhb (by omega),Voa (by rw[Vea];omega)];exact h k
 ·have a:t*i<=t*k:=Vhc t (by omega);rw[List.drop_append,List.drop_eq_nil_of_le (by omega),Vga];exact(b.sublist (List.drop_sublist _ _)).sublist (List.take_sublist _ _)
theorem Zpc{s:Nat}{l:List Z7}(h:Yp s l)(c:l.length<=2*s):(l.take s).Pairwise Le/\(l.drop s).Pairwise Le:=by have a:=h 0;have b:=h 1;rw[Vlc,Vzb]at a;rw[Vkb,Vna (by rw[Vea];omega)]at b;exact⟨a,b⟩
theorem ZkW(X A B Z:List Z7)(c:0<A.length)(d:0<B.length)(e:∀x∈A,Gd x)(f:∀x∈B,Gd x)(j:A.Pairwise Le)(k:B.Pairwise Le)(h:X.length+A.length+B.length+Z.length<=1048576){a m b:Int}(ha:a=(X.length:Int))(hm:m=((X.length+A.length:Nat):Int))(g:b=((X.length+A.length+B.length:Nat):Int)):
 ∃C,F183 (X++(A++(B++Z))) a m b ()=some (X++(C++Z))/\C.Perm (A++B)/\C.Pairwise Le:=by
 subst ha hm g;refine Zsd 100 X A B Z (by omega) (Nat.le_trans (show _<=1048576 by omega) ?_) c d e f j k h;exact Nat.pow_le_pow_right (n:=2) (by omega) (show 20<=100 by omega)
theorem Zsp{L:List Z7}{s:Nat}(I:0<s)(J:s<=1048576)(H:∀x∈L,Gd x)(S:L.length<=1048576)(F:Yp s L):∃r:List Z7×Int,run (fun d:List Z7×Int×Int=>
 bif decide (d.2.2<=(L.length:Int)) then
 Vpa (F183 d.1 d.2.1 (Vb .i64 (d.2.1+(s:Int))) d.2.2 ()) fun Q=>
 some (.inl (Q,d.2.2,Vb .i64 (d.2.2+Vb .i64 ((2:Int) * (s:Int)))))
 else some (.inr (d.1,d.2.1))) (L,(0:Int),Vb .i64 ((2:Int) * (s:Int)))=some r/\ ∃i D R,r=(D++R,((2*s*i:Nat):Int))/\D.length=2*s*i/\Yp (2*s) D/\Yp s R/\(D++R).Perm L/\R.length<2*s:=by
  have O:Vb .i64 ((2:Int) * (s:Int))=((2*s:Nat):Int):=by rw[Zs (by omega) (by omega)];omega
  rw[O];refine Zbi (Inv:=fun q:List Z7×Int×Int=>∃i D R,q=(D++R,((2*s*i:Nat):Int),((2*s* (i+1):Nat):Int))/\D.length=2*s*i/\Yp (2*s) D/\Yp s R/\(D++R).Perm L) (μ:=fun q=>(L.length:Int).toNat+1 - q.2.1.toNat) ?_ _ ⟨0,[],L,by simp,by simp,ZiZ _,F,.refl _⟩;rintro _ ⟨i,D,R,rfl,p,v,l,o⟩;dsimp only;have c:=o.length_eq;rw[Vc]at c;have j:2*s* (i+1)=2*s*i+2*s:=by rw[Vwb,Vkb]
  have z:2*s* (i+1+1)=2*s*i+2*s+2*s:=by rw[Vwb,Vkb,j]
  rw[j];generalize t:2*s*i=N at*;by_cases G:N+2*s<=L.length
  ·left;rw[Zd (show ((N+2*s:Nat):Int)<=(L.length:Int) by omega)];obtain⟨g,e,rfl,B⟩:=Zak R (k:=s) (by omega);obtain⟨e,h,rfl,E⟩:=Zak e (k:=s) (by rw[Vc]at c;omega);have w:∀x∈D++(g++(e++h)),Gd x:=fun x f=>H x (o.mem_iff.1 f)
   have K:g.Pairwise Le:=by
    have:=l 0
    rwa [Vlc,Vzb,Voa (by omega),Vna (by omega)]at this
   have M:e.Pairwise Le:=by
    have:=l 1
    rwa [Vkb,Vhb (by omega),Vtb (by omega),Vga,Voa (by omega),Vna (by omega)]at this
   simp only[Vc]at c;obtain⟨C,y,u,c3⟩:=ZkW D g e h (by omega) (by omega) (fun x f=>w x (by simp [f])) (fun x f=>w x (by simp [f])) K M (by omega) (a:=((N:Nat):Int)) (m:=Vb .i64 (((N:Nat):Int)+(s:Int))) (b:=((N+2*s:Nat):Int)) (by omega) (by rw[Zs (by omega) (by omega)];omega) (by omega);have A:C.length=2*s:=by rw[u.length_eq,Vc];omega
   simp only[Zc,y,Za];refine⟨_,rfl,⟨i+1,D++C,h,?_,by rw[Vc,p,A,j],ZbT v (by rw[p,t]) c3,?_,?_⟩,?_⟩
   ·rw[j,z,Zs (by omega) (by omega)];refine Vk (by simp) (Vk rfl ?_);simp only;omega
   ·have:=Zpb l 2
    rwa [<-Vs,List.drop_left' (by rw[Vc];omega)]at this
   ·refine List.Perm.trans ?_ o;rw[Vs];refine List.Perm.append_left D ?_;rw[<-Vs g];exact List.Perm.append_right h u
   ·simp only;omega
  ·right;rw[Zk (show¬((N+2*s:Nat):Int)<=(L.length:Int) by omega)];exact⟨_,rfl,i,D,R,by rw[t],by rw[t];exact p,v,l,o,by omega⟩
theorem Zt8{L:List Z7}(y:∀x∈L,Gd x)(hl:L.length<=500000):∃r,F177 L ()=some r/\r.Perm L/\r.Pairwise Le:=by
 unfold F177 F181;refine Hr (fun r=>r.Perm L/\r.Pairwise Le) ?_ (fun r h=>⟨r,rfl,h⟩);refine Hr (fun r:List Z7×Int=>∃i D R,r=(D++R,((20*i:Nat):Int))/\D.length=20*i/\Yp 20 D/\(D++R).Perm L) ?_ ?_
 ·refine Zbi (Inv:=fun q:List Z7×Int×Int=>∃i D R,q=(D++R,((20*i:Nat):Int),((20* (i+1):Nat):Int))/\D.length=20*i/\Yp 20 D/\(D++R).Perm L) (μ:=fun q=>(L.length:Int).toNat+1 - q.2.1.toNat) ?_ _ ⟨0,[],L,by simp,by simp,ZiZ _,.refl _⟩;rintro _ ⟨i,D,R,rfl,o,w,e⟩;dsimp only;have d:=e.length_eq;rw[Vc]at d;by_cases Z:20* (i+1)<=L.length
  ·left;rw[Zd (show ((20* (i+1):Nat):Int)<=(L.length:Int) by omega)];obtain⟨K,u,rfl,F⟩:=Zak R (k:=20) (by omega);have E:∀x∈D++(K++u),Gd x:=fun x c=>y x (e.mem_iff.1 c);rw[Vc]at d;obtain⟨_,l,C,rfl,v,c3⟩:=Zkf D u K (fun x c=>E x (by simp [c])) (by omega) (a:=((20*i:Nat):Int)) (b:=((20* (i+1):Nat):Int)) (by omega) (by omega);have Y:C.length=20:=by rw[v.length_eq,F]
   simp only[Zc,l,Za];refine⟨_,rfl,⟨i+1,D++C,u,?_,by rw[Vc,o,Y];omega,ZbT w o c3,?_⟩,?_⟩
   ·rw[Zs (by omega) (by omega)];refine Vk (by simp) (Vk rfl ?_);simp only;omega
   ·refine List.Perm.trans ?_ e;rw[Vs];exact List.Perm.append_left D (List.Perm.append_right u v)
   ·simp only;omega
  ·right;rw[Zk (show¬((20* (i+1):Nat):Int)<=(L.length:Int) by omega)];exact⟨_,rfl,i,D,R,rfl,o,w,e⟩
 rintro _ ⟨i,D,R,rfl,o,w,e⟩;have d:=e.length_eq;rw[Vc]at d;have E:∀x∈D++R,Gd x:=fun x c=>y x (e.mem_iff.1 c);obtain⟨_,l,C,rfl,v,c3⟩:=Zkf D [] R (fun x c=>E x (by simp [c])) (by simp;omega) (a:=((20*i:Nat):Int)) (b:=(L.length:Int)) (by omega) (by omega);rw[Vba]at l;rw[Vba]at l;simp only[l,Za];have H:=ZbT w o c3;have I:(D++C).Perm L:=(List.Perm.append_left D v).trans e;refine Hr (fun r:List Z7=>r.Perm L/\r.Pairwise Le) ?_ (fun r h=>⟨r,rfl,h⟩);refine Zbi (Inv:=fun q:List Z7×Int=>∃s:Nat,q.2=(s:Int)/\0<s/\s<=1000020/\q.1.Perm L/\Yp s q.1) (μ:=fun q=>L.length+1 - q.2.toNat) ?_ _ ⟨20,rfl,by omega,by omega,I,H⟩
 rintro ⟨M,_⟩ ⟨s,rfl,J,a0,g,G⟩;dsimp only at g G⊢;have t:=g.length_eq;by_cases a1:s<L.length
 case neg=>
  right;rw[Zk (show¬(s:Int)<(L.length:Int) by omega)];exact⟨_,rfl,g,ZiY G (by omega)⟩
 left;rw[Zd (show (s:Int)<(L.length:Int) by omega)];simp only[Zc];have w2:Vb .i64 ((s:Int) * (2:Int))=((2*s:Nat):Int):=by rw[Zs (by omega) (by omega)];omega
 rw[w2];obtain⟨r,W,j,A,B,rfl,T,U,V,z,p5⟩:=Zsp J (by omega) (fun x c=>y x (g.mem_iff.1 c)) (by omega) G;rw[t]at W;simp only[W,Za];have f:=z.length_eq;rw[Vc,t]at f;have p:∀x∈A++B,Gd x:=fun x c=>y x (g.mem_iff.1 (z.mem_iff.1 c));have w3:Vb .i64 (((2*s*j:Nat):Int)+(s:Int))=((2*s*j+s:Nat):Int):=by rw[Zs (by omega) (by omega)];omega
 rw[w3];generalize S:2*s*j=N at*;by_cases hm:N+s<L.length
 ·rw[Zd (show ((N+s:Nat):Int)<(L.length:Int) by omega)];obtain⟨q1,q2⟩:=Zpc V (by omega);obtain⟨C',O,Q,X⟩:=ZkW A (B.take s) (B.drop s) [] (by rw[Vka];omega) (by rw[Vea];omega) (fun x c=>p x (Vbb _ (List.mem_of_mem_take c))) (fun x c=>p x (Vbb _ (List.mem_of_mem_drop c))) q1 q2 (by rw[Vka,Vea,Vxa];omega) (a:=((N:Nat):Int)) (m:=((N+s:Nat):Int)) (b:=(L.length:Int)) (by omega) (by rw[Vka];omega) (by rw[Vka,Vea];omega);rw[Vba,Vba,Vv]at O;rw[Vv]at Q;simp only[Zc,O,Za];exact⟨_,rfl,⟨2*s,rfl,by omega,by omega,((List.Perm.append_left A Q).trans z).trans g,ZbT U (by rw[T,S]) X⟩,by simp only;omega⟩
 ·rw[Zk (show¬((N+s:Nat):Int)<(L.length:Int) by omega)];exact⟨_,rfl,⟨2*s,rfl,by omega,by omega,z.trans g,ZbT U (by rw[T,S]) (ZiY V (by omega))⟩,by simp only;omega⟩
end Q
namespace Q
open Tr Go
variable {n m:Zh}{q:Zt}
def K5(r:Xi):Xi:=(r.1,r.2.1,r.2.2.1,r.2.2.2.1,r.2.2.2.2.1,r.2.2.2.2.2.1,r.2.2.2.2.2.2.1,(r.2.2.2.2.2.2.2.1.map Wn).reverse,())
def Wc(p:ZO):ZO:=(p.2.1,p.1,p.2.2)
def Jk(n:Zh)(x:XC):XC:=(x.2.2.1,((rn n x.2.2.1).2.2.2.2.2.2.2.1.length:Int) - 1 - x.2.2.2.1,x.1,((rn n x.1).2.2.2.2.2.2.2.1.length:Int) - 1 - x.2.1,x.2.2.2.2.1,())
theorem ZrW(c:KK):Wn (Wn c)=c:=by
 unfold Wn
 refine Vk rfl (Vk ?_ (Vk ?_ rfl))<;>simp<;>omega
theorem ZrY(r:Xi):K5 (K5 r)=r:=by unfold K5;simp only[Vcb,List.reverse_reverse,Vfa];have:Wn∘Wn=id:=funext ZrW;rw[this,List.map_id]
theorem ZmG(p:ZO):Wc (Wc p)=p:=rfl
structure YV (n m:Zh):Prop where
 stops:m.1=n.1
 routes:m.2.1=n.2.1
 runs:m.2.2.1=n.2.2.1.map K5
 links:∀x∈n.2.2.2.1,Jk n x∈m.2.2.2.1
 paths:∀p∈n.2.2.2.2.1,Wc p∈m.2.2.2.2.1
theorem YV.rn(h:YV n m){i:Nat}(a:i<n.2.2.1.length):rn m (i:Int)=K5 (rn n (i:Int)):=by unfold Q.rn;rw[h.runs,Vq,Vsa,Va a];rfl
theorem YV.runs_len(h:YV n m):m.2.2.1.length=n.2.2.1.length:=by rw[h.runs,Vf]
theorem YV.calls(h:YV n m){i:Nat}(a:i<n.2.2.1.length):Zl m i=((Zl n i).map Wn).reverse:=by unfold Zl;rw[h.rn a];rfl
theorem YV.calls_len(h:YV n m){i:Nat}(a:i<n.2.2.1.length):(Zl m i).length=(Zl n i).length:=by rw[h.calls a,Vt,Vf]
theorem ZfQ{l:List KK}{c:Nat}(a:c<l.length):cl ((l.map Wn).reverse) ((l.length - 1 - c:Nat):Int)=Wn (cl l (c:Int)):=by unfold cl;rw[Vq,Vq,Va (by simp;omega),Va a];simp only[Vua,Vfb,Vsc,Vf];congr 2;omega
theorem YV.allow(h:YV n m)(hn:K1 n):Zc3 (Zz n q) (Zz m (KY q)):=by
 have x:∀s,Wv m s=Wv n s:=fun s=>by unfold Wv;rw[h.stops]
 have u:∀s,Xa m (KY q) s=Xa n q s:=fun s=>by unfold Xa;rw[x];rfl
 have t:∀c,WJ m (KY q) (Wn c)=Wn (WJ n q c):=fun c=>by
  unfold WJ
  show (if Xa m (KY q) c.1=true then _ else _)=_
  rw[u]
  split<;>rfl
 have v:∀r:Xi,HS m (K5 r)=HS n r:=fun r=>by unfold HS;rw[h.routes];rfl
 have f:(Zz n q).2.2.1.length=n.2.2.1.length:=Vf ..;have l:(Zz m (KY q)).2.2.1.length=n.2.2.1.length:=(Vf ..).trans h.runs_len
 have b:∀i,i<n.2.2.1.length->Zl (Zz m (KY q)) i=((Zl (Zz n q) i).map Wn).reverse:=fun i a=>by rw[ZaH (by rw[h.runs_len];exact a),ZaH a,h.calls a,Vcb,Vfa,Vfa];congr 2;exact funext t
 have k:∀i,i<n.2.2.1.length->(Zl (Zz n q) i).length=(Zl n i).length:=fun i a=>by rw[ZaH a,Vf]
 refine⟨h.stops,by rw[f,l],fun i a=>?_,fun i c a y=>?_,fun i a=>?_,fun i c j d st C=>?_,fun p D=>?_⟩
 ·rw[f]at a;rw[b i a,Vt,Vf]
 ·rw[f]at a;unfold Zg;rw[b i a];exact ZfQ y
 ·rw[f]at a;unfold XX;rw[Zhn (by rw[h.runs_len];exact a),Zhn a,h.rn a];show (!HW m (KY q) (K5 (Q.rn n (i:Int))))= !HW n q (Q.rn n (i:Int));unfold HW;rw[v];rfl
 ·have o:((i:Int),(c:Int),(j:Int),(d:Int),st,())∈n.2.2.2.1:=C;obtain⟨K,H,M,I,G,e,a,B,_,y,J,_⟩:=hn.link _ o;simp only[Vxc,Int.natCast_inj]at e;obtain⟨rfl,rfl,rfl,rfl,rfl,_⟩:=e;have:=h.links _ o;show _∈m.2.2.2.1;rw[k i a,k j B];unfold Jk at this
  have z:((Q.rn n (j:Int)).2.2.2.2.2.2.2.1.length:Int) - 1 - (d:Int)=(((Zl n j).length - 1 - d:Nat):Int):=by show ((Zl n j).length:Int) - 1 - (d:Int)=_;omega
  have A:((Q.rn n (i:Int)).2.2.2.2.2.2.2.1.length:Int) - 1 - (c:Int)=(((Zl n i).length - 1 - c:Nat):Int):=by show ((Zl n i).length:Int) - 1 - (c:Int)=_;omega
  simp only[z,A]at this;exact this
 ·show Wc p∈JJ m (KY q);have g:p∈JJ n q:=D;unfold JJ at g⊢
  show _∈if q.2.2.2.2.2.2.1=true then _ else _
  split
  ·next w=>
   rw[Zp w]at g;obtain⟨E,F⟩:=Vla.1 g;exact Vla.2 ⟨h.paths p E,F⟩
  ·next w=>
   rw[Zf w]at g;exact h.paths p g
def Jx(n:Zh)(P:List ZO):Zh:=(n.1,n.2.1,n.2.2.1.map K5,n.2.2.2.1.map (Jk n),P,n.2.2.2.2.2.1,())
variable {P:List ZO}
theorem ZgQ(a:P.Perm (n.2.2.2.2.1.map Wc)):YV n (Jx n P):=⟨rfl,rfl,rfl,fun x c=>Vg.2 ⟨x,c,rfl⟩,fun p b=>a.mem_iff.2 (Vg.2 ⟨p,b,rfl⟩)⟩
theorem ZrX(hn:K1 n)(f:P.Perm (n.2.2.2.2.1.map Wc)){x:XC}(k:x∈n.2.2.2.1):Jk (Jx n P) (Jk n x)=x:=by
 have a:=ZgQ f;obtain⟨i,c,j,d,st,rfl,g,h,_,l,o,_⟩:=hn.link _ k;unfold Jk;simp only
 have b:((rn (Jx n P) (i:Int)).2.2.2.2.2.2.2.1.length:Int)=((rn n (i:Int)).2.2.2.2.2.2.2.1.length:Int):=by show ((Zl (Jx n P) i).length:Int)=((Zl n i).length:Int);rw[a.calls_len g]
 have e:((rn (Jx n P) (j:Int)).2.2.2.2.2.2.2.1.length:Int)=((rn n (j:Int)).2.2.2.2.2.2.2.1.length:Int):=by show ((Zl (Jx n P) j).length:Int)=((Zl n j).length:Int);rw[a.calls_len h]
 rw[b,e]
 refine Vk rfl (Vk ?_ (Vk rfl (Vk ?_ rfl)))<;>simp only<;>omega
theorem ZrV(hn:K1 n)(b:P.Perm (n.2.2.2.2.1.map Wc)):YV (Jx n P) n:=by
 refine⟨rfl,rfl,?_,fun x d=>?_,fun p c=>?_⟩
 ·show n.2.2.1=(n.2.2.1.map K5).map K5;rw[Vfa];have:K5∘K5=id:=funext ZrY;rw[this,List.map_id]
 ·obtain⟨y,a,rfl⟩:=Vg.1 (show x∈n.2.2.2.1.map (Jk n) from d);rw[ZrX hn b a];exact a
 ·obtain⟨y,a,rfl⟩:=Vg.1 (b.mem_iff.1 (show p∈P from c));exact a
theorem Zpm{l:List KK}{k lo b:Int} :Ju l k lo b=0↔(2<=l.length/\l.length<=32)/\ ∀i,i<l.length->Jb l k lo b i=0:=by
 unfold Ju;split
 ·next h=>exact⟨fun h=>absurd h (by decide),fun⟨e,_⟩=>by omega⟩
 ·next h=>
  constructor
  ·intro c;refine⟨by omega,?_⟩;unfold pick at c
   cases a:Wm l.length (Jb l k lo b) with
   |none=>exact K6.1 a
   |some i=>rw[a]at c;exact absurd c (RW a).2
  ·rintro ⟨_,d⟩;unfold pick;rw[K6.2 d]
theorem ZgW{l:List KK}{k lo a:Int}{i:Nat} :Jb l k lo a i=0↔D0 l i k=false/\G7 l i=false/\G8 l i lo a=false:=by
 unfold Jb
 cases D0 l i k<;>cases G7 l i<;>cases G8 l i lo a<;>simp
theorem ZlX{l:List KK}{i:Nat}(a:i<l.length):((((l.map Wn).reverse)[i]?).getD c0)=Wn ((l[l.length - 1 - i]?).getD c0):=by rw[Va (by simp;exact a),Va (by omega)];simp [Vfb]
theorem Zpn{l:List KK}{k:Int}(h:Ju l k 0 3155932800=0):Ju ((l.map Wn).reverse) k 0 3155932800=0:=by
 rw[Zpm]at h⊢;obtain⟨e,d⟩:=h;have j:((l.map Wn).reverse).length=l.length:=by simp
 rw[j];refine⟨e,fun i f=>?_⟩;obtain⟨o,p,r⟩:=ZgW.1 (d (l.length - 1 - i) (by omega));rw[ZgW];have prev:0<i->G7 l (l.length - 1 - (i - 1))=false/\G8 l (l.length - 1 - (i - 1)) 0 3155932800=false:=fun a=>(ZgW.1 (d (l.length - 1 - (i - 1)) (by omega))).2;have g:0<i->l.length - 1 - (i - 1) - 1=l.length - 1 - i:=fun _=>by omega
 unfold D0 G7 G8 at*;rw[ZlX f];by_cases a:0<i
 ·obtain⟨b,c⟩:=prev a;rw[g a]at b c;rw[ZlX (show i - 1<l.length by omega)];generalize (l[l.length - 1 - i]?).getD c0=x at*;generalize (l[l.length - 1 - (i - 1)]?).getD c0=y at*;rw[Zd (show 0<l.length - 1 - (i - 1) by omega)]at b c;rw[Zd a];unfold Wn;simp only[Vbc,Vca,decide_eq_false_iff_not]at*;refine⟨⟨by omega,by omega⟩,fun h=>b h.symm,by omega,by omega,by omega,by omega⟩
 ·rw[Zk a];generalize (l[l.length - 1 - i]?).getD c0=x at*;unfold Wn;simp only[Vbc,Bool.false_and,decide_eq_false_iff_not]at*;refine⟨⟨by omega,by omega⟩,trivial,by omega,by omega,by omega,trivial⟩
open Classical in
theorem Ztg(h:∀i,i<n.2.2.1.length->J1 n i=0){i:Nat}(c:i<n.2.2.1.length):J1 (Jx n P) i=0:=by
 have b:∀{j},j<n.2.2.1.length->((Jx n P).2.2.1[j]?).getD u0=K5 ((n.2.2.1[j]?).getD u0):=fun {j} d=>by show ((n.2.2.1.map K5)[j]?).getD u0=_;rw[Vsa,Va d];rfl
 have a:=h i c;unfold J1 at a⊢;simp only at a⊢;rw[b c]
 have B:(∃j,j<i/\runK (((Jx n P).2.2.1[j]?).getD u0)=runK (K5 ((n.2.2.1[i]?).getD u0)))↔∃j,j<i/\runK ((n.2.2.1[j]?).getD u0)=runK ((n.2.2.1[i]?).getD u0):=by refine exists_congr fun j=>and_congr_right fun d=>?_;rw[b (by omega)];rfl
 generalize (n.2.2.1[i]?).getD u0=x at*;have e:(K5 x).2.2.2.1=x.2.2.2.1:=rfl;have f:(K5 x).1=x.1:=rfl;have k:(K5 x).2.2.1=x.2.2.1:=rfl;have l:(K5 x).2.1=x.2.1:=rfl;have o:(K5 x).2.2.2.2.1=x.2.2.2.2.1:=rfl;have p:(K5 x).2.2.2.2.2.2.2.1=(x.2.2.2.2.2.2.2.1.map Wn).reverse:=rfl;have r:(Jx n P).2.1=n.2.1:=rfl;have s:(Jx n P).1=n.1:=rfl;rw[e,f,k,l,o,p,r,s];split at a
 ·omega
 next t=>
 rw[Zf t];split at a
 ·omega
 next u=>
 rw[Zf u];split at a
 ·omega
 next v=>
 rw[Zf v];split at a
 ·omega
 next w=>
 rw[Zf w];split at a
 ·next g=>exact absurd a g
 next y=>
 rw[Zf (by rw[Zpn (by simpa using y)];simp)];split at a
 ·omega
 next z=>rw[Zf (fun A=>z (B.1 A))]
theorem Zq6{h j a:Bool}{b c d e f g:Prop}[Decidable (¬b)][Decidable (a=true/\ ¬c)][Decidable (a=true/\ ¬d)][Decidable (a=true/\e)][Decidable (a=true/\f)][Decidable g]:(if h=true then(9:Int) else if j=true then 9 else if¬b then 13 else if a=true/\ ¬c then 19 else if a=true/\ ¬d then 19 else if a=true/\e then 19 else if a=true/\f then 19 else if g then 6 else 0)=0↔h=false/\j=false/\b/\(a=true->c/\d/\ ¬e/\ ¬f)/\ ¬g:=by
 cases h<;>cases j<;>by_cases k:b<;>cases a<;>by_cases l:c<;>by_cases o:d<;>by_cases p:e<;>by_cases r:f<;>by_cases s:g<;>simp [k,l,o,p,r,s]
open Classical in
theorem Zea{i:Nat} :WD n i=0↔X9 n (lk n i)=false/\Y5 n (lk n i)=false/\(cl (rn n (lk n i).1).2.2.2.2.2.2.2.1 (lk n i).2.1).1=(cl (rn n (lk n i).2.2.1).2.2.2.2.2.2.2.1 (lk n i).2.2.2.1).1/\
 ((lk n i).2.2.2.2.1=true->(lk n i).2.1+1=((rn n (lk n i).1).2.2.2.2.2.2.2.1.length:Int)/\(lk n i).2.2.2.1=0/\(¬∃j,j<i/\(lk n j).2.2.2.2.1=true/\((lk n j).1=(lk n i).1\/(lk n j).2.2.1=(lk n i).2.2.1))/\ ¬∃k,Kn (K2 n i) (lk n i).2.2.1 (k+1)=some (lk n i).1)/\
 ¬∃j,j<i/\JZ (lk n j)=JZ (lk n i):=by
 exact Zq6
theorem Zlo(f:Int->Option Int):∀(k:Nat) (a:Int),Kn f a (k+1)=(Kn f a k).bind f
 |0,a=>by
  show (f a).bind _=f a
  cases f a<;>rfl
 |k+1,a=>by
  rw[Kn];show _=((f a).bind fun b=>Kn f b k).bind f
  cases f a with
  |none=>rfl
  |some b=>exact Zlo f k b
theorem Zln{f g:Int->Option Int}(h:∀x y,f x=some y->g y=some x):∀(k:Nat) (a b:Int),Kn f a k=some b->Kn g b k=some a
 |0,a,b,e=>by cases e;rfl
 |k+1,a,b,e=>by
  rw[Kn]at e
  cases d:f a with
  |none=>rw[d]at e;cases e
  |some c=>
   rw[d]at e;rw[Zlo,Zln h k c b e];exact h a c d
theorem Zlc{fr to:Nat->Int}{st:Nat->Bool} :∀{i j:Nat},j<i->st j=true->(∀k,k<i->st k=true->fr k=fr j->k=j)->nx fr to st i (fr j)=some (to j)
 |i+1,j,c,a,b=>by
  unfold nx;by_cases h:st i=true/\fr i=fr j
  ·have:=b i (by omega) h.1 h.2;subst this;rw[Zp h]
  ·rw[Zf h];have:j≠i:=fun e=>h ⟨e▸a,by rw[e]⟩;exact Zlc (by omega) a fun k d=>b k (by omega)
open Classical in
theorem ZrK(hn:K1 n)(h:∀i,i<n.2.2.2.1.length->WD n i=0){i:Nat}(K:i<n.2.2.2.1.length):WD (Jx n P) i=0:=by
 have g:∀{j},j<n.2.2.2.1.length->lk (Jx n P) j=Jk n (lk n j):=fun {j} a=>by show ((n.2.2.2.1.map (Jk n))[j]?).getD l0=Jk n ((n.2.2.2.1[j]?).getD l0);rw[Vsa,Va a];rfl
 have l:∀{j},j<n.2.2.2.1.length->lk n j∈n.2.2.2.1:=fun {j} a=>by unfold lk;rw[Va a];exact Vi a
 have f:∀{r:Nat},r<n.2.2.1.length->(rn (Jx n P) (r:Int)).2.2.2.2.2.2.2.1=((Zl n r).map Wn).reverse:=fun {r} u=>by show ((((n.2.2.1.map K5)[(r:Int).toNat]?).getD u0)).2.2.2.2.2.2.2.1=_;rw[Vq,Vsa,Va u,G9 u];rfl
 have A:(Jx n P).2.2.1.length=n.2.2.1.length:=Vf ..;obtain⟨a1,a2,a3,G,H⟩:=Zea.1 (h i K);obtain⟨r,c,s,d,st,e,u,E,b0,hc,hd,p,b6⟩:=hn.link _ (l K)
 have em:lk (Jx n P) i=((s:Int),(((Zl n s).length - 1 - d:Nat):Int),(r:Int),(((Zl n r).length - 1 - c:Nat):Int),st,()):=by
  rw[g K,e];unfold Jk
  have Y:((rn n (s:Int)).2.2.2.2.2.2.2.1.length:Int) - 1 - (d:Int)=(((Zl n s).length - 1 - d:Nat):Int):=by show ((Zl n s).length:Int) - 1 - (d:Int)=_;omega
  have Z:((rn n (r:Int)).2.2.2.2.2.2.2.1.length:Int) - 1 - (c:Int)=(((Zl n r).length - 1 - c:Nat):Int):=by show ((Zl n r).length:Int) - 1 - (c:Int)=_;omega
  simp only[Y,Z]
 have t:∀j k,j<i->k<i->(lk n j).2.2.2.2.1=true->(lk n k).2.2.2.2.1=true->((lk n j).1=(lk n k).1\/(lk n j).2.2.1=(lk n k).2.2.1)->j=k:=fun j k a D Q F z=>by
  rcases Vpb j k with o|rfl|o
  ·exact absurd ⟨j,o,Q,z⟩ ((Zea.1 (h k (by omega))).2.2.2.1 F).2.2.1
  ·rfl
  ·exact absurd ⟨k,o,F,z.imp Eq.symm Eq.symm⟩ ((Zea.1 (h j (by omega))).2.2.2.1 Q).2.2.1
 rw[Zea,em];rw[e]at G H;simp only at G H⊢;refine⟨?_,?_,?_,fun B=>?_,?_⟩
 ·unfold X9;simp only;rw[A,Zcf.2 u,Zcf.2 E,Zk (show¬(s:Int)=(r:Int) by omega)];rfl
 ·unfold Y5;simp only;rw[f u,f E,Vt,Vf,Vt,Vf,Zcf.2 (by omega),Zcf.2 (by omega)];rfl
 ·rw[f u,f E,ZfQ hc,ZfQ hd];exact p.symm
 ·obtain⟨R,b2,T,U⟩:=G B;have S:(c:Int)+1=((Zl n r).length:Int):=R;refine⟨?_,by omega,?_,?_⟩
  ·rw[f E,Vt,Vf];omega
  ·rintro ⟨j,a,b,w⟩;rw[g (by omega)]at b w;exact T ⟨j,a,b,w.symm⟩
  ·rintro ⟨k,D⟩;refine U ⟨k,Zln (fun x y C=>?_) (k+1) _ _ D⟩;unfold K2 at C⊢;obtain⟨j,a,b,w,O⟩:=Za5 C;simp only[g (show j<n.2.2.2.1.length by omega)]at b w O;have v:(lk n j).2.2.2.2.1=true:=b;have I:(lk n j).2.2.1=x:=w;have J:(lk n j).1=y:=O;rw[<-J, <-I];exact Zlc (fr:=fun j=>(lk n j).1) (to:=fun j=>(lk n j).2.2.1) (st:=fun j=>(lk n j).2.2.2.2.1) a v fun k D F hf=>t k j D a F v (.inl hf)
 ·rintro ⟨j,a,b⟩;rw[g (by omega)]at b;obtain⟨M,V,N,W,b7,X,a9,b5,_,a7,a8,_⟩:=hn.link _ (l (show j<n.2.2.2.1.length by omega));refine H ⟨j,a,?_⟩;rw[X]at b⊢;unfold Jk JZ at b;unfold JZ;simp only[List.cons.injEq,and_true]at b⊢;obtain⟨g1,g2,g3,g4⟩:=b;have gs:N=s:=by omega
  have gr:M=r:=by omega
  subst gs gr;have a0:((Zl n N).length:Int) - 1 - (W:Int)=(((Zl n N).length - 1 - d:Nat):Int):=g2;have a6:((Zl n M).length:Int) - 1 - (V:Int)=(((Zl n M).length - 1 - c:Nat):Int):=g4;exact⟨rfl,by omega,rfl,by omega⟩
end Q
namespace Q
open Tr Go Gr
variable {n:Zh}{q:Zt}{P:List ZO}
theorem ZuX{Ed:Nat->Nat->Int->Prop}{u v t:Nat}{w d:Int}(e:Ed u v w)(h:Wk Ed v t d):Wk Ed u t (d+w):=by
 induction h with
 |nil=>exact .snoc .nil e
 |snoc _ f g=>
  have:=Wk.snoc g f
  rwa [show∀a b c:Int,a+b+c=a+c+b from fun a b c=>by omega]at this
theorem Znk{Ed a:Nat->Nat->Int->Prop}(h:∀u v w,Ed u v w->a v u w){s t:Nat}{d:Int}(k:Wk Ed s t d):Wk a t s d:=by
 induction k with
 |nil=>exact .nil
 |snoc _ e b=>exact ZuX (h _ _ _ e) b
theorem ZkE{Ed a:Nat->Nat->Int->Prop}(h:∀u v w,Ed u v w->a v u w)(k:∀u v w,a u v w->Ed v u w){s t:Nat}{d:Int}(l:J4 Ed s t d):J4 a t s d:=⟨Znk h l.1,fun _ b=>l.2 _ (Znk k b)⟩
theorem Zqe{Ed a:Nat->Nat->Int->Prop}(h:∀u v w,Ed u v w->a v u w)(k:∀u v w,a u v w->Ed v u w)(s t:Nat):Kt a t s=Kt Ed s t:=by
 by_cases b:∃d,J4 Ed s t d
 ·obtain⟨d,c⟩:=b;rw[Df c,Df (ZkE h k c)]
 ·unfold Kt;rw[dif_neg b,dif_neg fun⟨d,c⟩=>b ⟨d,ZkE k h c⟩]
theorem Zjw{L:List ZO}(f:P.Perm (L.map Wc))(free:Bool)(u v:Nat)(w:Int):Z6 P free u v w↔Z6 L free v u w:=by
 unfold Z6;constructor
 ·rintro ⟨p,e,a,b,c,d⟩;obtain⟨y,g,rfl⟩:=Vg.1 (f.mem_iff.1 e);exact⟨y,g,a,c,b,d⟩
 ·rintro ⟨p,e,a,b,c,d⟩;exact⟨Wc p,f.mem_iff.2 (Vg.2 ⟨p,e,rfl⟩),a,c,b,d⟩
noncomputable def H6(l:List ZO)(k:Nat):List ZO:=Ww (fun a b=>WS a b (Kt (Z6 l false) a b) (Kt (Z6 l true) a b)) k k
theorem Zjh{l:List ZO}{k:Nat}(hF:YT k l):Srt (H6 l k):=Ziz (fun a b x c=>Zkn c) (fun a b=>by
 have:=ZaL hF a b;unfold WS;split
 ·split
  ·simp
  ·split
   ·simp;omega
   ·simp
 ·split
  ·simp
  ·split<;>simp)
theorem ZkS{it:Nat->Nat->List Z7}{k m:Nat}{x:Z7} :x∈Ww it k m↔∃a b,a<m/\b<k/\a≠b/\x∈it a b:=by
 unfold Ww Xw;simp only[List.mem_flatMap,Vwc];constructor
 ·rintro ⟨a,ha,b,e,c⟩;split at c
  ·cases c
  ·exact⟨a,b,ha,e, ‹_›,c⟩
 ·rintro ⟨a,b,ha,e,d,c⟩;exact⟨a,ha,b,e,by rw[Zf d];exact c⟩
theorem Zko{a b:Nat}{d f:Int} :WS a b d f=(WS b a d f).map Wc:=by
 unfold WS;rw[Vha];congr 1
 ·split<;>rfl
 ·split
  ·rfl
  ·split<;>rfl
theorem ZpN{L:List ZO}{k:Nat}(g:P.Perm (L.map Wc))(x:ZO):x∈H6 P k↔Wc x∈H6 L k:=by
 unfold H6;have d:∀(free:Bool) (a b:Nat),Kt (Z6 P free) a b=Kt (Z6 L free) b a:=fun free a b=>Zqe (fun u v w h=>(Zjw g free v u w).2 h) (fun u v w h=>(Zjw g free u v w).1 h) b a;rw[ZkS,ZkS];constructor
 ·rintro ⟨a,b,ha,f,c,e⟩;refine⟨b,a,f,ha,Ne.symm c,?_⟩;rw[d,d,Zko]at e;obtain⟨y,j,rfl⟩:=Vg.1 e;exact j
 ·rintro ⟨a,b,ha,f,c,e⟩;refine⟨b,a,f,ha,Ne.symm c,?_⟩;rw[d,d,Zko];exact Vg.2 ⟨_,e,rfl⟩
theorem ZpV{c l:List ZO}(h:JG c l=true):c=l:=by
 unfold JG at h;simp only[Vaa,KQ,Vqb]at h;refine Vrc h.1 fun i b j=>?_;have:=K6.1 h.2 i b;unfold Dh at this;rw[Va b,Va j]at this;simp only[Vua]at this;split at this
 ·next a=>
  unfold sameF at a;simp only[Vaa,KQ,Ks]at a;obtain⟨d,e,f,g⟩:=a;exact Vk d (Vk e (Vk f (Vk g rfl)))
 ·cases this
theorem Zqu(l:List ZO):JG l l=true:=by unfold JG;simp only[Vaa,KQ,Vqb];refine⟨trivial,K6.2 fun i a=>?_⟩;unfold Dh sameF;simp
theorem ZjS{L:List ZO}{k:Nat}(g:P.Perm (L.map Wc))(h:YT k L):YT k P:=fun p j=>by obtain⟨y,l,rfl⟩:=Vg.1 (g.mem_iff.1 j);obtain⟨a,b,c,d,e,f⟩:=h y l;exact⟨c,d,a,b,e,f⟩
theorem ZpM{L:List ZO}{k:Nat}(hF:YT k L)(o:P.Perm (L.map Wc))(B:P.Pairwise Le)(hL:H6 L k=L):H6 P k=P:=by
 have r:=ZjS o hF;have p:=Zjh r;have v:=Zjh hF
 have u:∀{l:List ZO},Srt l->l.Nodup:=fun h=>h.imp fun {a b} d e=>by subst e;unfold W9 at d;omega
 have c:∀x,x∈H6 P k↔x∈P:=fun x=>by
  rw[ZpN o,hL,o.mem_iff,Vg];constructor
  ·exact fun h=>⟨_,h,rfl⟩
  ·rintro ⟨y,C,rfl⟩;exact C
 have g:P.Nodup:=by refine o.nodup_iff.2 ?_;rw[hL]at v;exact List.Pairwise.map Wc (fun a b d e=>d (by rw[<-ZmG a,e,ZmG])) (u v)
 have f:(H6 P k).Perm P:=(Vlb (u p) g).2 c;refine List.Perm.eq_of_pairwise (le:=Le) (fun a b ha _ w z=>?_) (p.imp fun h=>h.le) B f;have A:b∈H6 P k:=(c b).2 ‹_›;obtain⟨i,s,rfl⟩:=Vh ha;obtain⟨j,t,rfl⟩:=Vh A;rcases Vpb i j with h|rfl|h
 ·exact absurd (Vp.1 p i j s t h) z
 ·rfl
 ·exact absurd (Vp.1 p j i t s h) w
theorem Zji{l:List ZO}{k:Nat}(d:k<=64)(hF:YT k l)(e:l.length<=4096):F116 l (k:Int)=some (H6 l k):=by obtain⟨c,f,g,_⟩:=ZdA d hF e;have:=ZdB d hF e (fun a b=>(ZaL hF a b).imp id fun h=>h.2);rw[f]at this;rw[g,this];rfl
theorem Zly{L:List ZO}(a:P.Perm (L.map Wc)):P.length=L.length:=by rw[a.length_eq,Vf]
open Classical in
theorem Zsq{L:List ZO}{k:Nat}(r:P.Perm (L.map Wc))(h:∀i,i<L.length->KZ k L i=0){i:Nat}(p:i<P.length):KZ k P i=0:=by
 have f:(L.map WW).Nodup:=by rw[List.Nodup,Via,Vp];intro a b ha s d e;have:=(Ds (h b s)).2.2;exact this ⟨a,d,by rw[Va ha,Va s];exact e⟩
 have c:(P.map WW).Nodup:=by refine(r.map WW).nodup_iff.2 ?_;rw[Vfa];rw[List.Nodup,Via]at f⊢;refine f.imp fun {a b} d e=>d ?_;unfold WW Wc at e;unfold WW;simp only[Function.comp,Vxc]at e⊢;exact⟨e.2.1,e.1,trivial,e.2.2.2.1,trivial⟩
 obtain⟨y,A,g⟩:=Vg.1 (r.mem_iff.1 (Vi p));obtain⟨j,t,rfl⟩:=Vh A;obtain⟨l,o,_⟩:=Ds (h j t);rw[Va t]at l o;simp only[Vua]at l o;unfold KZ;rw[Va p];simp only[Vua];obtain⟨u,v,w⟩:=Zg3 l
 have x:XY k P[i]=false:=by rw[<-g];unfold XY Wc;simp only[Zd u,Zd v,Vl,Vfc];exact Zk fun e=>w e.symm
 have z:Yk P[i]=false:=by rw[<-g];exact o
 rw[x,z,Zf (by simp),Zf (by simp),Zf ?_];rintro ⟨a,ha,e⟩;rw[Va (by omega)]at e;rw[List.Nodup,Via,Vp]at c;exact c a i (by omega) p ha e
theorem ZuS(h:Whole n)(k:n.2.2.2.2.1.length<=4096)(e:P.Perm (n.2.2.2.2.1.map Wc))(o:P.Pairwise Le):Whole (Jx n P):=by
 have a:=h.sound.stops;have j:=ZdT (K6.1 h.q);have hL:H6 n.2.2.2.2.1 n.1.length=n.2.2.2.2.1:=ZpV (h.w _ (Zji a j k));refine⟨h.s,h.t,?_,?_,?_,?_,?_,fun c l=>?_,h.z⟩
 ·show (n.2.2.1.map K5).length<=1024;rw[Vf];exact h.u
 ·show Wm (n.2.2.1.map K5).length _=none;rw[Vf];exact K6.2 fun i d=>Ztg (K6.1 h.f) d
 ·show (n.2.2.2.1.map (Jk n)).length<=1024;rw[Vf];exact h.v
 ·show Wm (n.2.2.2.1.map (Jk n)).length _=none;rw[Vf];exact K6.2 fun i d=>ZrK h.ok (K6.1 h.g) d
 ·exact K6.2 fun i d=>Zsq e (K6.1 h.q) d
 ·have b:F116 P (n.1.length:Int)=some c:=l;rw[Zji a (ZjS e j) (by rw[Zly e];exact k)]at b;rw[<-Option.some.inj b,ZpM j e o hL];exact Zqu P
end Q
namespace Q
open Tr Go
variable {n:Zh}{q:Zt}
theorem Zuo{α:Type}{l:List α}(h:2<=l.length):∃p V q,l=p::(V++[q]):=by
 match l,h with
 |p::y::t,_=>
  rcases Vvb (y::t) with h|⟨V,q,h⟩
  ·cases h
  ·exact⟨p,V,q,by rw[h,List.concat_eq_append]⟩
theorem Zs1(l:List KK)(E:l.length<=1048576):F173 l=some l.reverse:=by
 unfold F173;refine KF (fun r=>r=l.reverse) ?_ (fun r h=>by rw[h]);refine Kq (l.length / 2) _ (fun k (s:List KK×Int×Int)=>∃A M B,l=A++(M++B)/\A.length=k/\B.length=k/\s=(B.reverse++(M++A.reverse),(k:Int),(l.length:Int) - 1 - (k:Int))) ?_ ?_ _ ⟨[],l,[],by simp,rfl,rfl,by rw[Zs (by omega) (by omega)];simp⟩
 ·rintro k _ D ⟨A,M,B,e,f,d,rfl⟩;left;have a:=congrArg Vy e;simp only[Vc]at a;obtain⟨p,V,r,rfl⟩:=Zuo (l:=M) (by omega);simp only[Vda,Vc,Vxa]at a;have g:B.reverse++(p::(V++[r])++A.reverse)=B.reverse++p::(V++r::A.reverse):=by simp
  rw[g];have c:B.reverse.length=k:=by rw[Vt,d]
  have b:∀x y:KK,(B.reverse++x::(V++y::A.reverse)).length=l.length:=fun x y=>by simp;omega
  have u:Zo ((l.length:Int) - 1 - (k:Int)) (B.reverse++p::(V++r::A.reverse)).length=some (k+1+V.length):=Dm (by omega) (by rw[b];omega);have v:Zo (k:Int) (B.reverse++p::(V++r::A.reverse)).length=some k:=Ke (by rw[b];omega);have j:(B.reverse++p::(V++r::A.reverse))[k+1+V.length]? =some r:=Ra (by rw[c]);have o:(B.reverse++p::(V++r::A.reverse))[k]? =some p:=Hc c.symm;have z:(B.reverse++p::(V++r::A.reverse)).set k r=B.reverse++r::(V++r::A.reverse):=GP c.symm;have w:Zo ((l.length:Int) - 1 - (k:Int)) (B.reverse++r::(V++r::A.reverse)).length=some (k+1+V.length):=Dm (by omega) (by rw[b];omega);have t:(B.reverse++r::(V++r::A.reverse))[k+1+V.length]? =some r:=Ra (by rw[c])
  have C:(B.reverse++r::(V++r::A.reverse)).set (k+1+V.length) p=B.reverse++r::(V++p::A.reverse):=ZcM (by rw[c]);simp only[Zd (show (k:Int)<(l.length:Int) - 1 - (k:Int) by omega),Zc,u,j,v,o,Za,z,w,t,C];refine⟨_,rfl,A++[p],V,r::B,by rw[e];simp,by simp [f],by simp [d],?_⟩;rw[Zs (by omega) (by omega),Zs (by omega) (by omega)]
  refine Vk (by simp) (Vk ?_ ?_)<;>simp only<;>omega
 ·rintro _ ⟨A,M,B,e,f,d,rfl⟩;have a:=congrArg Vy e;simp only[Vc]at a
  have hM:M.reverse=M:=by
   match M,(show M.length<=1 by omega) with
   |[],_=>rfl
   |[x],_=>rfl
  refine⟨_,by rw[Zk (show¬((l.length / 2:Nat):Int)<(l.length:Int) - 1 - ((l.length / 2:Nat):Int) by omega)];rfl,?_⟩;rw[e];simp [hM]
theorem Zjq{α:Type}(l:List α)(x:α):Vmc (Min.min (Vy l) (Vy (Vja (Vwa (↑(Vy l):Int)) x))) l++Vub (Min.min (Vy l) (Vy (Vja (Vwa (↑(Vy l):Int)) x))) (Vja (Vwa (↑(Vy l):Int)) x)=l:=by rw[List.length_replicate,Vq,Nat.min_self,Vw,Vtb (by simp),Vba]
theorem Zj1{k:Nat}(h:k<=1048576):ZD (decide ((0:Int)<=(k:Int)/\(k:Int)<=(k:Int)/\(k:Int)<=(ZE:Int)))=some ():=by have hm:(ZE:Int)=549755813888:=rfl;rw[Zd (by rw[hm];omega)];rfl
theorem ZrS(l:List KK)(e:l.length<=1048576)(t:∀c∈l,(0<=c.2.1/\c.2.1<=3155932800)/\0<=c.2.2.1/\c.2.2.1<=3155932800):F138 l=some (l.map Wn).reverse:=by
 unfold F138;erw[Zj1 e];simp only[Za];erw[Zjq];rw[Zs1 l e];simp only[Za];refine KF (fun r=>r=(l.map Wn).reverse) ?_ (fun r h=>by rw[h]);have p:(l.map Wn).reverse=l.reverse.map Wn:=by simp
 rw[p];have o:l.reverse.length=l.length:=Vt;have b:∀c∈l.reverse,(0<=c.2.1/\c.2.1<=3155932800)/\0<=c.2.2.1/\c.2.2.1<=3155932800:=fun c g=>t c (List.mem_reverse.1 g);generalize l.reverse=k at*;refine Kq k.length _ (fun i (s:List KK×Int)=>s=((k.take i).map Wn++k.drop i,(i:Int))) ?_ ?_ _ (by simp)
 ·rintro i _ a rfl;left;have j:k.drop i=k[i]::k.drop (i+1):=Vr a;have v:=b k[i] (Vi a);have hm:(k.take (i+1)).map Wn=(k.take i).map Wn++[Wn k[i]]:=by rw[Vd a,Vha];rfl
  rw[j];generalize k[i]=c at*;have d:((k.take i).map Wn).length=i:=by simp;omega
  have u:Zo (i:Int) ((k.take i).map Wn++c::k.drop (i+1)).length=some i:=Ke (by simp;omega);have f:((k.take i).map Wn++c::k.drop (i+1))[i]? =some c:=Hc d.symm;simp only[Zd (show (i:Int)<(k.length:Int) by omega),Zc,u,f,Za];refine⟨_,rfl,?_⟩;rw[GP d.symm,Zs (x:=(i:Int)+1) (by omega) (by omega),Zs (x:=3155932800 - c.2.2.1) (by omega) (by omega),Zs (x:=3155932800 - c.2.1) (by omega) (by omega),hm];refine Vk ?_ ?_
  ·simp [Wn]
  ·simp only;omega
 ·rintro _ rfl;simp only[Jy,Ze];exact⟨_,rfl,by simp⟩
theorem Zr9(l:List ZO)(o:l.length<=500000)(k:∀p∈l,Gd p):∃P,F139 l=some P/\P.Perm (l.map Wc)/\P.Pairwise Le:=by
 unfold F139;erw[Zj1 (show l.length<=1048576 by omega)];simp only[Za];erw[Zjq];refine Hr (fun r=>r=l.map Wc) ?_ ?_
 ·refine Kq l.length _ (fun i (s:List ZO×Int)=>s=((l.take i).map Wc++l.drop i,(i:Int))) ?_ ?_ _ (by simp)
  ·rintro i _ d rfl;left;have j:l.drop i=l[i]::l.drop (i+1):=Vr d;have hm:(l.take (i+1)).map Wc=(l.take i).map Wc++[Wc l[i]]:=by rw[Vd d,Vha];rfl
   rw[j];generalize l[i]=c at*;have b:((l.take i).map Wc).length=i:=by simp;omega
   have v:∀x:ZO,Zo (i:Int) ((l.take i).map Wc++x::l.drop (i+1)).length=some i:=fun x=>Ke (by simp;omega);have e:∀x:ZO,((l.take i).map Wc++x::l.drop (i+1))[i]? =some x:=fun x=>Hc b.symm;have B:∀x y:ZO,((l.take i).map Wc++x::l.drop (i+1)).set i y=(l.take i).map Wc++y::l.drop (i+1):=fun x y=>GP b.symm;simp only[Zd (show (i:Int)<(l.length:Int) by omega),Zc,v,e,B,Za];refine⟨_,rfl,?_⟩;rw[Zs (by omega) (by omega),hm];refine Vk ?_ ?_
   ·simp [Wc]
   ·simp only;omega
  ·rintro _ rfl;simp only[Jy,Ze];exact⟨_,rfl,by simp⟩
 ·rintro _ rfl
  have a:∀p∈l.map Wc,Gd p:=fun p t=>by obtain⟨y,u,rfl⟩:=Vg.1 t;obtain⟨f,g,h⟩:=k y u;exact⟨g,f,h⟩
  obtain⟨r,w,z,A⟩:=Zt8 a (by rw[Vf];exact o);rw[w];exact⟨r,rfl,z,A⟩
theorem Zr5(I:Xh n)(l:Few n)(g:Whole n):∃P,F134 n=some (Jx n P,0)/\P.Perm (n.2.2.2.2.1.map Wc)/\P.Pairwise Le:=by
 suffices O:∃r,F134 n=some r/\ ∃P,r=(Jx n P,0)/\P.Perm (n.2.2.2.2.1.map Wc)/\P.Pairwise Le by obtain⟨_,D,P,rfl,E,F⟩:=O;exact⟨P,D,E,F⟩
 have A:=g.ok;obtain⟨r,U,_,V⟩:=Zdv n I
 have Q:F143 n=some true:=by unfold F143;rw[U];simp only[Za];rw[Zd (V.2 g)]
 unfold F134;rw[Q,Zjg l];simp only[Za,Vl,Ze];have G:=g.sound.stops
 obtain⟨P,R,S,T⟩:=Zr9 n.2.2.2.2.1 (by have:=l.paths;omega) (fun p M=>by have:=A.path p M;exact⟨by omega,by omega,by omega⟩)
 have N:n.2.2.1.length<=4096:=l.runs;have K:n.2.2.2.1.length<=4096:=l.links;refine Hr (fun r=>r=((n.1,n.2.1,n.2.2.1.map K5,n.2.2.2.1,n.2.2.2.2.1,n.2.2.2.2.2.1,()):Zh)) ?_ ?_
 ·refine Kq n.2.2.1.length _ (fun i (s:Zh×Int)=>s=((n.1,n.2.1,(n.2.2.1.take i).map K5++n.2.2.1.drop i,n.2.2.2.1,n.2.2.2.2.1,n.2.2.2.2.2.1,()),(i:Int))) ?_ ?_ _ (by simp)
  ·rintro i _ f rfl;left;have w:n.2.2.1.drop i=n.2.2.1[i]::n.2.2.1.drop (i+1):=Vr f;have hm:(n.2.2.1.take (i+1)).map K5=(n.2.2.1.take i).map K5++[K5 n.2.2.1[i]]:=by rw[Vd f,Vha];rfl
   have y:idx n.2.2.1 (i:Int)=some n.2.2.1[i]:=ZH f;have e:n.2.2.1[i]∈n.2.2.1:=Vi f;rw[w];generalize n.2.2.1[i]=x at*
   have j:=ZrS x.2.2.2.2.2.2.2.1 (by have:=(g.sound.many x e).2;omega) (fun c j=>by obtain⟨k,J,rfl⟩:=Vh j;have:=g.sound.time x e k J;omega)
   have h:((n.2.2.1.take i).map K5).length=i:=by simp;omega
   have z:Zo (i:Int) ((n.2.2.1.take i).map K5++x::n.2.2.1.drop (i+1)).length=some i:=Ke (by simp;omega);have o:((n.2.2.1.take i).map K5++x::n.2.2.1.drop (i+1))[i]? =some x:=Hc h.symm;simp only[ZU f,Zc,y,j,z,o,Za,Z8 f (show n.2.2.1.length<=9223372036854775807 by omega)];refine⟨_,rfl,?_⟩;rw[GP h.symm,hm];simp [K5]
  ·rintro _ rfl;simp only[Jy,Ze];exact⟨_,rfl,by simp⟩
 rintro _ rfl;refine Hr (fun r=>r=((n.1,n.2.1,n.2.2.1.map K5,n.2.2.2.1.map (Jk n),n.2.2.2.2.1,n.2.2.2.2.2.1,()):Zh)) ?_ ?_
 ·refine Kq n.2.2.2.1.length _ (fun i (s:Zh×Int)=>s=((n.1,n.2.1,n.2.2.1.map K5,(n.2.2.2.1.take i).map (Jk n)++n.2.2.2.1.drop i,n.2.2.2.2.1,n.2.2.2.2.2.1,()),(i:Int))) ?_ ?_ _ (by simp)
  ·rintro i _ f rfl;left;have w:n.2.2.2.1.drop i=n.2.2.2.1[i]::n.2.2.2.1.drop (i+1):=Vr f;have hm:(n.2.2.2.1.take (i+1)).map (Jk n)=(n.2.2.2.1.take i).map (Jk n)++[Jk n n.2.2.2.1[i]]:=by rw[Vd f,Vha];rfl
   have y:idx n.2.2.2.1 (i:Int)=some n.2.2.2.1[i]:=ZH f;have e:n.2.2.2.1[i]∈n.2.2.2.1:=Vi f;rw[w];generalize n.2.2.2.1[i]=x at*;obtain⟨a,c,b,d,st,rfl,ha,t,_,j,H,_⟩:=A.link x e;have u:=(g.sound.many _ (Vi ha)).2;have v:=(g.sound.many _ (Vi t)).2;rw[<-G9 ha]at u;rw[<-G9 t]at v;have W:idx n.2.2.1 (a:Int)=some (rn n (a:Int)):=Dl ha;have X:idx n.2.2.1 (b:Int)=some (rn n (b:Int)):=Dl t;have h:((n.2.2.2.1.take i).map (Jk n)).length=i:=by simp;omega
   have z:Zo (i:Int) ((n.2.2.2.1.take i).map (Jk n)++((a:Int),(c:Int),(b:Int),(d:Int),st,())::n.2.2.2.1.drop (i+1)).length=some i:=Ke (by simp;omega);have o:((n.2.2.2.1.take i).map (Jk n)++((a:Int),(c:Int),(b:Int),(d:Int),st,())::n.2.2.2.1.drop (i+1))[i]? =some ((a:Int),(c:Int),(b:Int),(d:Int),st,()):=Hc h.symm;simp only[ZU f,Zc,y,W,X,z,o,Za,Z8 f (show n.2.2.2.1.length<=9223372036854775807 by omega)];refine⟨_,rfl,?_⟩;have B:((rn n (a:Int)).2.2.2.2.2.2.2.1.length:Int)=((Zl n a).length:Int):=rfl;have C:((rn n (b:Int)).2.2.2.2.2.2.2.1.length:Int)=((Zl n b).length:Int):=rfl;rw[GP h.symm,hm,B,C,Zs (x:=((Zl n b).length:Int) - 1) (by omega) (by omega),Zs (x:=((Zl n b).length:Int) - 1 - _) (by omega) (by omega),Zs (x:=((Zl n a).length:Int) - 1) (by omega) (by omega),Zs (x:=((Zl n a).length:Int) - 1 - _) (by omega) (by omega)]
   simp [Jk,B,C]
  ·rintro _ rfl;simp only[Jy,Ze];exact⟨_,rfl,by simp⟩
 rintro _ rfl;simp only[R,Za];exact⟨_,rfl,P,rfl,S,T⟩
end Q
namespace Q
open Tr Go
variable {n m:Zh}{q:Zt}{L:List Zv}
theorem Zrj(h:Kz n q)(d:q.2.2.2.2.2.2.2.2.2.1=false)(f:Jn n q L):∃rs,WA n L false []=(rs,0)/\(∀v∈rs,Hl v)/\rs.length<=8/\ ∀x∈L,Zar x:=by
 by_cases hL:0<L.length
 ·obtain⟨l,g,rfl,ha,_⟩:=Zkr h d f hL;have a:=ha.li g;obtain⟨b,c,c3⟩:=ZbX ha.qi a;have e:=Zew n q l.2.2.2.2.2.1 false [];refine⟨_,e.symm.trans c,b.fare.2,?_,a.lok⟩;have j:l.2.2.1<=q.2.2.2.2.1:=a.val.rides.2;have:=h.max;omega
 ·have:L=[]:=Ve (by omega);subst this;exact⟨[],rfl,by simp,by simp,by simp⟩
theorem Zgu(h:Kz n q)(b:q.2.2.2.2.2.2.2.2.2.1=false)(a:Jn n q L):∃t,F78 n q (L,())=some ((((L[0]?).map fun x=>x.2.2.2.2.2.2.1).getD q.2.2.1,((L[L.length - 1]?).map fun x=>x.2.2.2.2.2.2.2.1).getD q.2.2.1,(ridesN L:Int),0,KE L,()),t,0):=by obtain⟨g,c,d,e,f⟩:=Zrj h b a;exact ZdD h.fit h.whole h.fr q (by have:=a.len;omega) f c d e
theorem ZkB(h:Kz n q)(z:q.2.2.2.1=false){l:Zu}(A:Rc (Zz n q) (Zn q) (KG (Zz n q) (Zn q)) l)(g:Xq (Zz n q) (Zn q) l):Jn n q l.2.2.2.2.2.1:=by
 have f:=h.li A;have s:=ZlP h.wholeM h.tinM h.qi z h.li0 A;obtain⟨F,B,c3⟩:=ZbX h.qi f;have K:=h.wholeM.ok;have v:=ZtO s f.kinds g.1
 have o:(ridesN l.2.2.2.2.2.1:Int)=l.2.2.1:=by have:=(RY h.wholeM.sound l.2.2.2.2.2.1 false [] (by simp)).2;rw[B]at this;have e:=this rfl;simp only[Vxa,Nat.zero_add]at e;omega
 refine⟨v,fun hL=>?_,fun hL=>?_,fun _ w=>absurd w (by rw[z];simp),?_,?_,f.val.len⟩
 ·have d:l.1.2.1=q.2.1:=g.2;rcases f.kinds with j|j|j
  ·have:=(f.zero j).1;rw[this]at hL;simp at hL
  ·obtain⟨k,r,b,c,st,u,y,G,H⟩:=s.ride j;obtain⟨x,t,I,J,_,_,E,_⟩:=f.val.kind j;have D:x=r:=by omega
   have C:t=c:=by omega
   subst D C;rw[u,show (k++[ZP (Zz n q) x b t st]).length - 1=k.length by simp,R6];show (Zg (Zz n q) x t).1=_;rw[<-E,d]
  ·obtain⟨k,p,M,a,u,y,_⟩:=s.walk j;rw[u,show (k++[Kf p.1 p.2.1 a (a+p.2.2.1)]).length - 1=k.length by simp,R6];show p.2.1=_;rw[<-y,d]
 ·have j:l.1.1=0:=by
   by_cases j:l.1.1=0
   ·exact j
   ·exact absurd (Ve hL) (f.some j)
  have:=s.zero j;have d:l.1.2.1=q.2.1:=g.2;rw[this]at d;exact d
 ·rw[o];exact f.val.rides.2
 ·rw[f.wlk];exact f.val.walk.2
theorem ZqY(h:Kz n q)(b:q.2.2.2.1=false):∃R:List KA,F108 n q=some (R,0)/\R.length<=542198816521/\(R.map (KI q)).Pairwise Yr/\(∀x∈R,∃L t,Jn n q L/\F78 n q (L,())=some (x.2.1,t,0))/\ ∀L,Jn n q L->∀c t,F78 n q (L,())=some (c,t,0)->JO q R (Z2 q c):=by
 obtain⟨R,s,u,v,o,w⟩:=ZjX h b;refine⟨R,?_,u,w,fun x r=>?_,fun L hL c t a=>?_⟩
 ·unfold F108;rw[ZbV h.fit,h.chk];simp only[Za,decide_true,Vl,Ze,b,s]
 ·obtain⟨d,l,f,g,j⟩:=v x r;rw[g]at d;exact⟨_,_,ZkB h b f j,d⟩
 ·by_cases k:0<L.length
  ·obtain⟨l,d,f,g,j⟩:=ZjK h.wholeM h.tinM h.qi b h.li0 k hL.fine hL.rides hL.walk;refine o l d ⟨g,?_⟩ c t (by rw[f];exact a);rw[j];exact hL.to k
  ·have e:L=[]:=Ve (by omega);subst e;exact o _ .start ⟨fun p=>absurd p (by show¬(0:Int)=1;decide),hL.nil rfl⟩ c t a
theorem Zpa(h:Kz n q)(r:q.2.2.2.1=true)(v:(JA n q L/\Jn n q L)\/ ∃l d,Rd n q l d/\l.2.2.2.2.2.1=L):Jn n q L:=by
 have o:=h.qnum;have j:=o.2.2.2.2.2 r;rcases v with ⟨_,b⟩|⟨l,d,a,rfl⟩
 ·exact b
 ·have ha:=ZaC h a.first.1 (by have:=a.first.2;omega)
  have b:=ZkB ha rfl a.rc a.fin;have k:=Zeu a;have hL:0<l.2.2.2.2.2.1.length:=Vcc.2 k;have c:=ha.li a.rc;have y:=ZlP ha.wholeM ha.tinM ha.qi rfl ha.li0 a.rc
  have g:0<ridesN l.2.2.2.2.2.1:=by obtain⟨_,t,c3⟩:=ZbX ha.qi c;have:=(RY ha.wholeM.sound l.2.2.2.2.2.1 false [] (by simp)).2;rw[t]at this;have e:=this rfl;simp only[Vxa,Nat.zero_add]at e;have:=a.rides;omega
  refine⟨ZiM (q:=Zn (Kr q d)) b.fine rfl rfl (fun u s=>?_) (by show (!q.2.2.2.1&&_)=false;rw[r];rfl) j,b.to,b.nil,fun _ _=>?_,b.rides,b.walk,b.len⟩
  ·exfalso;obtain⟨x,w⟩:=Vma.1 u;rw[w]at s g;have p:x.1=false:=s
   have:ridesN [x]=0:=by unfold ridesN JL;simp [p]
   omega
  ·have f:=c.last (l.2.2.2.2.2.1.take (l.2.2.2.2.2.1.length - 1)) (lg l.2.2.2.2.2.1 (l.2.2.2.2.2.1.length - 1)) (by have:=Zbo (L:=l.2.2.2.2.2.1) (i:=l.2.2.2.2.2.1.length - 1) (by omega);rw[show l.2.2.2.2.2.1.length - 1+1=l.2.2.2.2.2.1.length by omega,Vw]at this;exact this)
   rw[f];exact a.time
theorem Zpg(h:Kz n q)(e:q.2.2.2.1=true):∃R:List KA,F108 n q=some (R,0)/\R.length<=542198816521/\(R.map (KI q)).Pairwise Yr/\(∀x∈R,∃L t,Jn n q L/\F78 n q (L,())=some (x.2.1,t,0))/\ ∀L,Jn n q L->∀c t,F78 n q (L,())=some (c,t,0)->JO q R (Z2 q c):=by
 obtain⟨R,o,w,p,r,s,u⟩:=Zs0 h e;refine⟨R,?_,by omega,?_,fun x l=>?_,fun L hL c t d=>?_⟩
 ·unfold F108;rw[ZbV h.fit,h.chk];simp only[Za,decide_true,Vl,Ze,e,Zc,o]
 ·rw[Via];exact p.imp₂ (fun {a b} j k=>⟨j,k⟩) r
 ·obtain⟨L,v,f,g⟩:=s x l;exact⟨L,_,Zpa h e g,f⟩
 ·exact u L (ZqD h e hL) c t d
theorem Zks(p:YV n m)(h:Kz n q)(o:Kz m (KY q))(s:q.2.2.2.2.2.2.2.2.2.1=false)(c:Jn n q L):Jn m (KY q) (Ja (Zz n q) (Zz m (KY q)) L):=by
 have hM:Zc3 (Zz n q) (Zz m (KY q)):=p.allow h.whole.ok;have hn:=h.wholeM.ok;have hm:=o.wholeM.ok;have a:(Ja (Zz n q) (Zz m (KY q)) L).length=L.length:=Zcs
 have d:0<L.length->lg (Ja (Zz n q) (Zz m (KY q)) L) (L.length - 1)=Xu (Zz n q) (Zz m (KY q)) L 0:=fun b=>by rw[Zd9 (by omega),show L.length - 1 - (L.length - 1)=0 by omega]
 refine⟨?_,fun b=>?_,fun b=>?_,fun b r=>?_,?_,?_,by rw[a];exact c.len⟩
 ·by_cases b:0<L.length
  ·exact ZrZ hM hn hm c.fine s (c.to b) (c.arr b)
  ·intro i t;omega
 ·rw[a]at b;rw[a,d b,(ZkZ hM hn c.fine b).2];obtain⟨_,f,_⟩:=Wr.1 (c.fine 0 b);have e:Ji (Zz n q) (Zn q) L=0:=f;exact(XF.1 e).1
 ·rw[a]at b;exact(c.nil b).symm
 ·rw[a]at b;rw[a,d b,ZgR hM hn c.fine b];obtain⟨_,f,_⟩:=Wr.1 (c.fine 0 b);have e:Ji (Zz n q) (Zn q) L=0:=f;have g:=(XF.1 e).2.2.2.2.1;have j:(!q.2.2.2.1)=true:=r;have k:(Zn q).2.2.2.1=q.2.2.2.1:=rfl;rw[k,j]at g;simp only[Vca,decide_eq_false_iff_not]at g;have l:¬(lg L 0).2.2.2.2.2.2.1<q.2.2.1:=g;show 3155932800 - (lg L 0).2.2.2.2.2.2.1<=3155932800 - q.2.2.1;omega
 ·rw[ZkY hn c.fine];exact c.rides
 ·rw[Zk0 hn c.fine];exact c.walk
def Gb(q:Zt)(L:List Zv):List Int:=[if q.2.2.2.1=true then - ((L[0]?).map fun x=>x.2.2.2.2.2.2.1).getD q.2.2.1 else((L[L.length - 1]?).map fun x=>x.2.2.2.2.2.2.2.1).getD q.2.2.1,(ridesN L:Int),0,KE L]
theorem Zkq(h:Kz n q)(f:q.2.2.2.2.2.2.2.2.2.1=false)(d:Jn n q L){c:YR}{t:List (Int×Int×Int×Int×Unit)}(a:F78 n q (L,())=some (c,t,0)):0<=c.1/\c.1<=3155932800:=by
 obtain⟨j,g⟩:=Zgu h f d;rw[g]at a;have e:=(Vra (Option.some.inj a)).1;rw[<-e];show 0<=((L[0]?).map fun x=>x.2.2.2.2.2.2.1).getD q.2.2.1/\_<=_;by_cases b:0<L.length
 ·have:=ZgT d.fine b;rw[Za0 b]at this;rw[Va b];exact this
 ·rw[List.getElem?_eq_none (by omega)];exact h.qnum.2.2.1
theorem ZhQ(h:Kz n q)(d:q.2.2.2.2.2.2.2.2.2.1=false)(f:Jn n q L){c:YR}{t:List (Int×Int×Int×Int×Unit)}(a:F78 n q (L,())=some (c,t,0)):Z2 q c=Gb q L:=by
 have g:=Zkq h d f a;obtain⟨k,j⟩:=Zgu h d f;rw[j]at a;have e:=(Vra (Option.some.inj a)).1;unfold Gb
 cases b:q.2.2.2.1 with
 |true=>
  rw[Zbs b c g.1 g.2, <-e]
  rfl
 |false=>
  unfold Z2;rw[b, <-e];rfl
theorem Zla(k:YV n m)(h:Kz n q)(d:Jn n q L):Gb (KY q) (Ja (Zz n q) (Zz m (KY q)) L)=match Gb q L with|a::r=>(a+(if q.2.2.2.1=true then 3155932800 else -3155932800))::r|[]=>[]:=by
 have hM:Zc3 (Zz n q) (Zz m (KY q)):=k.allow h.whole.ok;have hn:=h.wholeM.ok;have b:(Ja (Zz n q) (Zz m (KY q)) L).length=L.length:=Zcs;unfold Gb;simp only;rw[ZkY hn d.fine,Zk0 hn d.fine];congr 1;by_cases c:0<L.length
 ·have g0:∀{K:List Zv}{i:Nat},i<K.length->K[i]? =some (lg K i):=fun {K i} f=>by rw[Va f,Za0 f]
  rw[g0 (show 0<(Ja (Zz n q) (Zz m (KY q)) L).length by omega),g0 (show (Ja (Zz n q) (Zz m (KY q)) L).length - 1<(Ja (Zz n q) (Zz m (KY q)) L).length by omega),g0 c,g0 (show L.length - 1<L.length by omega),b,Zd9 c,Zd9 (show L.length - 1<L.length by omega),show L.length - 1 - (L.length - 1)=0 by omega,Nat.sub_zero];have g:=ZgR hM hn d.fine c;have j:=ZkX hM hn d.fine c;simp only[Vvc,Vua];rw[g,j]
  show (if (!q.2.2.2.1)=true then _ else _)=_
  cases q.2.2.2.1<;>simp<;>omega
 ·have e:L=[]:=Ve (by omega);subst e
  show (if (!q.2.2.2.1)=true then -(3155932800 - q.2.2.1) else 3155932800 - q.2.2.1)=(if q.2.2.2.1=true then -q.2.2.1 else q.2.2.1)+_
  cases q.2.2.2.1<;>simp<;>omega
end Q
namespace Q
open Tr Go
theorem ZiQ:F188=some true:=by kernel_rfl
end Q
namespace Q
open Tr Go
variable {n:Zh}{q:Zt}
theorem ZjQ(h:Xz ZM n)(f:n.2.2.2.2.1.length<=4096):Xh n:=by
 obtain⟨⟨_,c⟩,⟨_,d⟩,⟨_,b⟩,_,_,⟨⟨_,e⟩,_⟩,_⟩:=h;refine⟨fun x a=>?_,fun x a=>?_,fun x a=>?_,fun x a=>?_,f,fun x a=>?_⟩
 ·exact(c x a).1
 ·exact(d x a).1
 ·exact(b x a).2.2.2.1
 ·exact(b x a).2.2.2.2.2.2.2.1.1
 ·exact(e x a).1
open Classical in
theorem ZtN(h:Xz ZM n):∃b,F119 n=some b/\(b=true->JE n/\n.2.2.2.1.length<=30/\Whole n):=by
 unfold F119;by_cases u:5<n.1.length
 ·rw[Zd (show (5:Int)<(n.1.length:Int) by omega)];exact⟨false,rfl,fun e=>by cases e⟩
 rw[Zk (show¬(5:Int)<(n.1.length:Int) by omega)];by_cases v:7<n.2.2.1.length
 ·rw[Zd (show (7:Int)<(n.2.2.1.length:Int) by omega)];exact⟨false,rfl,fun e=>by cases e⟩
 rw[Zk (show¬(7:Int)<(n.2.2.1.length:Int) by omega)];by_cases c3:30<n.2.2.2.1.length
 ·rw[Zd (show (30:Int)<(n.2.2.2.1.length:Int) by omega)];exact⟨false,rfl,fun e=>by cases e⟩
 rw[Zk (show¬(30:Int)<(n.2.2.2.1.length:Int) by omega)];by_cases w:60<n.2.2.2.2.1.length
 ·rw[Zd (show (60:Int)<(n.2.2.2.2.1.length:Int) by omega)];exact⟨false,rfl,fun e=>by cases e⟩
 rw[Zk (show¬(60:Int)<(n.2.2.2.2.1.length:Int) by omega)];simp only[Ze,Za];have c:=ZjQ h (by omega)
 suffices p:∃r:Unit ⊕ Bool,_=some r/\((r=.inl ()/\ ∀i,i<n.2.2.1.length->(Zl n i).length<=6)\/r=.inr false) by
  obtain⟨r,g,l⟩:=p;rcases l with ⟨rfl,a⟩|rfl
  ·refine⟨decide (Whole n),KF (fun x=>x=Sum.inl ()) ⟨_,g,rfl⟩ (fun x f=>?_),fun t=>⟨⟨by omega,by omega,by omega,a⟩,by omega,X8 t⟩⟩;subst f;simp only[Vkc];rw[ZcS c];rfl
  ·exact⟨false,KF (fun x=>x=Sum.inr false) ⟨_,g,rfl⟩ (fun x f=>by subst f;rfl),fun e=>by cases e⟩
 refine Kq n.2.2.1.length (fun r:Unit ⊕ Bool=>(r=.inl ()/\ ∀i,i<n.2.2.1.length->(Zl n i).length<=6)\/r=.inr false) (fun i (s:Int)=>s=(i:Int)/\ ∀j,j<i->(Zl n j).length<=6) ?_ ?_ _ ⟨rfl,fun j o=>by omega⟩
 ·rintro i _ d ⟨rfl,a⟩;simp only[ZU d,Zc,Dl d,Za];by_cases y:6<(Zl n i).length
  ·rw[Zd (show (6:Int)<((rn n (i:Int)).2.2.2.2.2.2.2.1.length:Int) by show (6:Int)<((Zl n i).length:Int);omega)];exact .inr ⟨_,rfl,.inr rfl⟩
  ·rw[Zk (show¬(6:Int)<((rn n (i:Int)).2.2.2.2.2.2.2.1.length:Int) by show¬(6:Int)<((Zl n i).length:Int);omega)];refine .inl ⟨_,rfl,Z8 d (by omega),fun j o=>?_⟩;rcases Vab j i with k|k
   ·exact a j k
   ·have:j=i:=by omega
    subst this;omega
 ·rintro _ ⟨rfl,a⟩;exact⟨.inl (),by simp only[Jy,Ze],.inl ⟨rfl,a⟩⟩
theorem ZqK(j:n.2.2.2.2.2.1=Y8)(h:Xz ZM n)(q:Zt):∃b,F189 n q=some b/\(b=true->Kz n q):=by
 unfold F189;obtain⟨b,f,g⟩:=ZtN h;rw[f]
 cases b with
 |false=>simp
 |true=>
  obtain⟨c,o,d⟩:=g rfl;have a:=ZjQ h (by have:=c.paths;omega);simp only[Za,Zc];by_cases k:q.2.2.2.2.1<=3
  case neg=>grind
  rw[Zd k,ZpB a];refine⟨_,rfl,fun e=>⟨j,a,⟨by have:=c.stops;omega,?_,by have:=c.runs;omega,by omega,by have:=c.paths;omega,by have:=(Dj d.sound.fare).many;omega,fun r l=>?_⟩,X8 e,c,k⟩⟩
  ·have t:=d.t;unfold Gj at t
   grind
  ·have:=(d.sound.many r l).2;omega
end Q
namespace Q
open Tr Go
variable {n:Zh}{q:Zt}{P:List ZO}
theorem ZoY(h:Kz n q)(f:P.Perm (n.2.2.2.2.1.map Wc))(w:P.Pairwise Le)(v:q.2.2.2.2.2.2.2.2.2.1=false):Kz (Jx n P) (KY q):=by
 have z:=h.whole.ok;have a:P.length=n.2.2.2.2.1.length:=Zly f;have u:=ZuS h.whole h.fit.paths f w;have k:=ZgQ (n:=n) f;have b:(Jx n P).2.2.1.length=n.2.2.1.length:=k.runs_len
 have c:∀r:Xi,(K5 r).2.2.2.2.2.2.2.1.length=r.2.2.2.2.2.2.2.1.length:=fun r=>by show ((r.2.2.2.2.2.2.2.1.map Wn).reverse).length=_;rw[Vt,Vf]
 refine⟨h.fr,⟨h.fit.stops,h.fit.routes,fun x e=>?_,fun x e=>?_,by show P.length<=_;rw[a];exact h.fit.paths,h.fit.prods⟩,⟨h.few.stops,h.few.routes,by rw[b];exact h.few.runs,?_,by show P.length<=_;rw[a];exact h.few.paths,h.few.prods,fun x e=>?_⟩,ZbW.2 ⟨u,?_⟩,⟨h.tin.stops,by rw[b];exact h.tin.runs,by show P.length<=_;rw[a];exact h.tin.paths,fun i g=>?_⟩,h.max⟩
 ·obtain⟨r,d,rfl⟩:=Vg.1 (show x∈n.2.2.1.map K5 from e);exact h.fit.runs r d
 ·obtain⟨r,d,rfl⟩:=Vg.1 (show x∈n.2.2.1.map K5 from e);rw[c];exact h.fit.calls r d
 ·show (n.2.2.2.1.map (Jk n)).length<=4096;rw[Vf];exact h.few.links
 ·obtain⟨r,d,rfl⟩:=Vg.1 (show x∈n.2.2.1.map K5 from e);rw[c];exact h.few.calls r d
 ·have j:=h.qb;unfold qB at j⊢;simp only[Vaa,KQ]at j⊢;obtain⟨l,o,y,p,s,t,_⟩:=j;refine⟨o,l,?_,p,s,t,?_⟩
  ·show 0<=3155932800 - q.2.2.1/\3155932800 - q.2.2.1<=3155932800;omega
  ·show (!(q.2.2.2.2.2.2.2.2.2.1&&_))=true;rw[v];rfl
 ·rw[b]at g;rw[k.calls_len g];exact h.tin.calls i g
def J2(k:Int):List Int->List Int
 |a::r=>(a+k)::r
 |[]=>[]
theorem ZtF{k:Int}{a b:List Int}(ha:a.length=4)(c:b.length=4)(h:ZT a b):ZT (J2 k a) (J2 k b):=by
 match a,b,ha,c with
 |a::r,b::s,_,_=>
  intro i d;have:=h i d
  cases i with
  |zero=>
   have e:a<=b:=this;show a+k<=b+k
   omega
  |succ i=>exact this
theorem ZtG{k:Int}{a b:List Int}(ha:a.length=4)(f:b.length=4)(h:Wy a b):Wy (J2 k a) (J2 k b):=by
 match a,b,ha,f with
 |a::r,b::s,_,_=>
  obtain⟨i,l,e,c⟩:=h;refine⟨i,l,fun j g=>?_,?_⟩
  ·have:=e j g
   cases j with
   |zero=>
    have d:a=b:=this;show a+k=b+k
    omega
   |succ j=>exact this
  ·cases i with
   |zero=>
    have d:a<b:=c;show a+k<b+k
    omega
   |succ i=>exact c
theorem Zhw{k:Int} :∀a:List Int,J2 (-k) (J2 k a)=a
 |[]=>rfl
 |a::r=>by show (a+k+ -k)::r=_;rw[show a+k+ -k=a by omega]
theorem Zmv{k:Int} :∀a:List Int,(J2 k a).length=a.length
 |[]=>rfl
 |_::_=>rfl
theorem ZqQ{A:List (List Int)}(d:A.Pairwise Yr){x y:List Int}(e:x∈A)(f:y∈A)(h:ZT x y):x=y:=by
 obtain⟨i,b,rfl⟩:=Vh e;obtain⟨j,c,rfl⟩:=Vh f;rcases Vpb i j with a|rfl|a
 ·exact absurd h (Vp.1 d i j b c a).2.1
 ·rfl
 ·exact absurd h (Vp.1 d j i c b a).2.2
theorem Zrs{a b:List Int}(ha:a.length=4)(d:b.length=4)(h:ZT a b)(k:ZT b a):a=b:=eq4 ha d fun j c=>Int.le_antisymm (h j c) (k j c)
theorem ZjY{A B:List (List Int)}{k:Int}(h:∀a∈A,a.length=4)(c:∀b∈B,b.length=4)(v:A.Pairwise Yr)(t:∀a∈A,∃b∈B,ZT b (J2 k a))(u:∀b∈B,∃a∈A,ZT a (J2 (-k) b)):∀a∈A,J2 k a∈B:=by
 intro a ha;obtain⟨b,f,l⟩:=t a ha;obtain⟨g,j,d⟩:=u b f;have p:=h a ha
 have o:ZT (J2 (-k) b) a:=by
  have:=ZtF (k:= -k) (c b f) (by rw[Zmv];exact p) l
  rwa [Zhw]at this
 have e:g=a:=ZqQ v j ha (Rf d o);subst e;have r:g=J2 (-k) b:=Zrs p (by rw[Zmv];exact c b f) d o
 have s:J2 k g=b:=by
  rw[r];have:=Zhw (k:= -k) b
  rwa [Vtc]at this
 rw[s];exact f
theorem ZqX{A B:List (List Int)}{k:Int}(c:∀a∈A,a.length=4)(d:∀b∈B,b.length=4)(j:A.Pairwise Yr)(o:B.Pairwise Yr)(e:∀a∈A,∃b∈B,ZT b (J2 k a))(f:∀b∈B,∃a∈A,ZT a (J2 (-k) b)):A.map (J2 k)=B:=by
 have x:=ZjY c d j e f;have y:=ZjY (k:= -k) d c o f (fun a ha=>by rw[Vtc];exact e a ha)
 have p:∀{l:List (List Int)},l.Pairwise Wy->l.Nodup:=fun u=>u.imp fun {a b} g=>by rintro rfl;exact Zcq a g
 have r:(A.map (J2 k)).Pairwise Wy:=by rw[Via];refine List.Pairwise.imp_of_mem (fun {a b} ha t h=>?_) j;exact ZtG (c a ha) (c b t) h.1
 have s:B.Pairwise Wy:=o.imp fun h=>h.1;refine List.Perm.eq_of_pairwise (le:=Wy) (fun a b _ _ e f=>absurd f (ZgJ e)) r s ?_;refine(Vlb (p r) (p s)).2 fun v=>?_;rw[Vg];constructor
 ·rintro ⟨a,ha,rfl⟩;exact x a ha
 ·intro w;refine⟨_,y v w,?_⟩;have:=Zhw (k:= -k) v
  rwa [Vtc]at this
theorem Zku(h:Kz n q)(a:q.2.2.2.2.2.2.2.2.2.1=false){L:List Zv}(b:Jn n q L):∃c t,F78 n q (L,())=some (c,t,0)/\Z2 q c=Gb q L:=by obtain⟨t,d⟩:=Zgu h a b;exact⟨_,t,d,ZhQ h a b d⟩
theorem Zr4(h:Kz n q)(u:q.2.2.2.1=true)(e:q.2.2.2.2.2.2.2.2.2.1=false)(s:P.Perm (n.2.2.2.2.1.map Wc))(H:P.Pairwise Le):∃R K:List KA,F108 n q=some (R,0)/\F108 (Jx n P) (KY q)=some (K,0)/\R.length<=542198816521/\(∀x∈R,0<=x.2.1.1/\x.2.1.1<=3155932800)/\(R.map (KI q)).map (J2 3155932800)=K.map (KI (KY q)):=by
 have f:=ZoY h s H e;have l:(KY q).2.2.2.1=false:=by show (!q.2.2.2.1)=false;rw[u];rfl
 have C:=ZgQ (n:=n) s;have k:=ZrV h.whole.ok s
 have o:KY (KY q)=q:=by
  unfold KY;refine Vk rfl (Vk rfl (Vk ?_ (Vk ?_ rfl)))
  ·show 3155932800 - (3155932800 - q.2.2.1)=q.2.2.1;omega
  ·show (!(!q.2.2.2.1))=q.2.2.2.1;rw[Bool.not_not]
 obtain⟨R,Q,S,T,D,U⟩:=Zpg h u;obtain⟨K,J,X,M,N,O⟩:=ZqY f l;refine⟨R,K,Q,J,S,fun x A=>?_,?_⟩
 ·obtain⟨L,t,d,j⟩:=D x A;exact Zkq h e d j
 have E:∀(q:Zt) (R:List KA),∀a∈R.map (KI q),a.length=4:=fun q R a ha=>by obtain⟨x,_,rfl⟩:=Vg.1 ha;exact Gp q x.2.1
 refine ZqX (E _ _) (E _ _) T M (fun a ha=>?_) (fun b v=>?_)
 ·obtain⟨x,A,rfl⟩:=Vg.1 ha;obtain⟨L,t,d,j⟩:=D x A;have z:=ZhQ h e d j;have g:=Zks C h f e d;obtain⟨c,B,p,r⟩:=Zku f e g;obtain⟨y,W,G⟩:=O _ g c B p;refine⟨_,Vg.2 ⟨y,W,rfl⟩,?_⟩;rw[r,Zla C h d,Zp u]at G;show ZT _ (J2 3155932800 (Z2 q x.2.1));rw[z];exact G
 ·obtain⟨y,I,rfl⟩:=Vg.1 v;obtain⟨L,t,d,j⟩:=N y I;have z:=ZhQ f e d j;have w:Kz n (KY (KY q)):=by rw[o];exact h
  have g:=Zks k f w e d;have hn:=Zla k f d;rw[o]at g hn;obtain⟨c,B,p,r⟩:=Zku h e g;obtain⟨x,V,F⟩:=U _ g c B p;refine⟨_,Vg.2 ⟨x,V,rfl⟩,?_⟩;rw[r,hn,l,Zf (by simp)]at F;show ZT _ (J2 (-3155932800) (Z2 (KY q) y.2.1));rw[z];exact F
def ZjV(n:Zh):Zh:=(n.1,n.2.1,n.2.2.1,n.2.2.2.1,n.2.2.2.2.1,Y8,())
theorem ZqS(h:Xz ZM n):Xz ZM (ZjV n):=by
 obtain⟨a,b,c,d,f,_,_⟩:=h;have z:Xz Y3 (0:Int):=⟨by decide,by decide⟩;refine⟨a,b,c,d,f,⟨⟨?_,fun x g=>?_⟩,z,z,z,trivial⟩,trivial⟩
 ·show 1<=maxLen
  decide
 ·have e:x=([(102:UInt8),(114:UInt8),(101:UInt8),(101:UInt8)],(0:Int),(1:Int),(16:Int),(0:Int),(255:Int),()):=Vj.1 g;subst e;refine⟨?_,⟨by decide,by decide⟩,⟨by decide,by decide⟩,⟨by decide,by decide⟩,⟨by decide,by decide⟩,⟨by decide,by decide⟩,trivial⟩;show 4<=maxLen
  decide
theorem Zr3(n:Zh)(h:Xz ZM n)(q:Zt):F187 n q=some true:=by
 have a:F190 n=some (ZjV n):=rfl;unfold F187;rw[a];simp only[Za];obtain⟨Q,j⟩:∃Q:Zt,Q=(q.1,q.2.1,q.2.2.1,true,q.2.2.2.2.1,q.2.2.2.2.2.1,q.2.2.2.2.2.2.1,q.2.2.2.2.2.2.2.1,q.2.2.2.2.2.2.2.2.1,false,q.2.2.2.2.2.2.2.2.2.2):=⟨_,rfl⟩;have k:Q.2.2.2.1=true:=by rw[j]
 have E:Q.2.2.2.2.2.2.2.2.2.1=false:=by rw[j]
 rw[<-j];obtain⟨b,o,p⟩:=ZqK rfl (ZqS h) Q;rw[o]
 cases b with
 |false=>simp only[Za,Vx,Zc,ZiQ]
 |true=>
 have ha:=p rfl;have G:=ha.qnum;obtain⟨P,J,M,N⟩:=Zr5 ha.fit ha.few ha.whole;obtain⟨R,K,O,I,v,d,e⟩:=Zr4 ha k E M N
 have t:F135 Q=some (KY Q):=by unfold F135 KY;rw[Zs (by omega) (by omega)]
 simp only[Za,Vl,Ze,O,J,t,decide_true];have c:(KY Q).2.2.2.1=false:=by show (!Q.2.2.2.1)=false;rw[k];rfl
 simp only[c,Ze,I,Za,decide_true,Vl]
 have D:K.length=R.length:=by have:=congrArg Vy e;simp only[Vf]at this;exact this.symm
 rw[Zd (show ((K.length:Nat):Int)=(R.length:Int) by omega)];simp only[Vl,Ze];refine KF (fun r:Unit ⊕ Bool=>r=.inl ()) ?_ (by rintro _ rfl;simp only[Vkc,ZiQ,Za]);refine Kq R.length _ (fun i (s:Int)=>s=(i:Int)) ?_ ?_ _ rfl
 ·rintro i _ f rfl;left;have F:idx K (i:Int)=some (K[i]'(by omega)):=ZH (by omega);have H:idx R (i:Int)=some R[i]:=ZH f;have g:=congrArg (fun l=>l[i]?) e;simp only[Vsa,Va f,Va (show i<K.length by omega),Vvc,Option.some.injEq]at g;have u:=d R[i] (Vi f);generalize K[i]'(by omega)=y at*;generalize R[i]=x at*;have z:KI Q x=[-x.2.1.1,x.2.1.2.2.1,x.2.1.2.2.2.1,x.2.1.2.2.2.2.1]:=Zbs k x.2.1 u.1 u.2
  have A:KI (KY Q) y=[y.2.1.2.1,y.2.1.2.2.1,y.2.1.2.2.2.1,y.2.1.2.2.2.2.1]:=by show Z2 (KY Q) y.2.1=_;unfold Z2;rw[c];rfl
  rw[z,A]at g;simp only[J2,List.cons.injEq,and_true]at g;obtain⟨S,B,_,C⟩:=g;have w:Vb .i64 (3155932800 - x.2.1.1)=3155932800 - x.2.1.1:=Zs (by omega) (by omega);simp only[ZU f,Zc,F,H,Za,w,Zd (show y.2.1.2.1=3155932800 - x.2.1.1 by omega),Zd B.symm,Zd C.symm,Vl,Ze];exact⟨_,rfl,Z8 f (by omega)⟩
 ·rintro _ rfl;exact⟨.inl (),by simp only[Jy,Ze],rfl⟩
theorem mirrorP(x:KJ F187A)(h:ZbA F187A x):F187 x.1 x.2.1=some true:=Zr3 _ h.1 _
end Q
