/- filter: usable runs, open stops, the allowed network; queries. Conditions: the network is valid, its lists are short. -/
import Derived.KernelRfl
import Derived.Test.YtibiblkamaajeaaGreatJLwJa2841
import Derived.Test.YtibiblkamaajeaaGreatTsF
open BitVec renaming ofInt ->Vba,ofInt_natCast ->Vjb,toNat_ofNat ->Vmb
open Bool renaming and_eq_true ->Vd,not_true ->Vi,not_eq_false' ->Vk,not_false ->Vl,true_and ->Vm,or_eq_false_iff ->Vp,false_and ->Vpa,false_or ->Vwa,or_true ->Vya,and_false ->Vxb,and_true ->Vac
open Decidable renaming not_not ->Vua
open Int renaming toNat_natCast ->Ve,toNat ->Vma,natCast_inj ->Vna,le_trans ->Vbb,fdiv ->Vwb
open Go.IntKind renaming wrap ->Vc,i64 ->Vea
open List renaming getElem?_eq_getElem ->Va,getElem_mem ->Vf,length ->Vg,take_succ_eq_append_getElem ->Vh,replicate ->Vj,getElem?_set_self ->Vn,take_length ->Vq,length_map ->Vr,length_take ->Vt,length_set ->Vv,getElem?_eq_some_iff ->Vw,getElem?_modify ->Vx,getElem_of_mem ->Vy,length_filter_le ->Vz,getElem?_map ->Vaa,getElem?_set_ne ->Vca,length_cons ->Vda,length_nil ->Vfa,filter_append ->Vga,length_append ->Vha,length_eq_zero_iff ->Via,any_eq_true ->Vja,getElem?_eq_none ->Vka,set_set ->Voa,drop_eq_getElem_cons ->Vqa,pairwise_iff_getElem ->Vsa,foldl_append ->Vta,eq_of_mem_replicate ->Vxa,getElem?_replicate ->Vab,append_nil ->Vcb,mem_filter ->Vdb,mem_append ->Veb,set_getElem_self ->Vgb,set_append_right ->Vhb,length_replicate ->Vib,any_cons ->Vkb,set_cons_zero ->Vlb,length_modify ->Vnb,mem_singleton ->Vob,getElem?_set ->Vrb,append_assoc ->Vsb,set ->Vub,take ->Vzb,mem_cons ->Vbc,mem_map ->Vcc
open Nat renaming le_refl ->Vo,le_trans ->Vs,zero_le ->Vla,sub_self ->Vza,not_lt_zero ->Vfb,succ_pos ->Vpb,or_lt_two_pow ->Vqb,mod_eq_of_lt ->Vtb,mul_le_mul ->Vyb
open Option renaming bind ->Vb,getD_some ->Vu,isNone_iff_eq_none ->Vra
open Prod renaming ext ->Vvb
open Prod.mk renaming injEq ->Vva
open Sum renaming elim ->Vdc
namespace Q
open Tr Go
open Option (bind_some)
theorem ZuG{α β τ:Type}{step:List β×Int->Option ((List β×Int) ⊕ τ)}(l:List α)(f:α->List β)(R:List β->τ)
  (hstep: ∀i (hi:i<l.length),step ((l.take i).flatMap f,(i:Int))=some (.inl ((l.take i).flatMap f++f l[i],((i+1:Nat):Int))))
  (hend:step (l.flatMap f,(l.length:Int))=some (.inr (R (l.flatMap f)))):run step ([],(0:Int))=some (R (l.flatMap f)):=by
 refine Exists.elim (ZaL (step:=step) l.length (fun r=>r=R (l.flatMap f)) (fun i st=>st=((l.take i).flatMap f,(i:Int))) ?_ ?_ ([],(0:Int)) (by simp)) ?_
 ·rintro i _ hi rfl;left;refine⟨_,hstep i hi, ?_⟩;rw[Vh hi,List.flatMap_append];simp
 ·rintro _ rfl;rw[Vq];exact⟨_,hend,rfl⟩
 ·rintro r ⟨h1,rfl⟩;exact h1
theorem Zls{α β:Type}(f:α->β)(l:List α):l.flatMap (fun x=>[f x])=l.map f:=by
 induction l with
 |nil=>rfl
 |cons x l ih=>simp [ih]
theorem Zt1{α β:Type}{f:α->List β}(hf: ∀x,(f x).length<=1)(l:List α): (l.flatMap f).length<=l.length:=by
 induction l with
 |nil=>simp
 |cons x l ih=>have:=hf x;simp;simp at ih;omega
abbrev Za5:=Int×Int×Int×Bool×Int×Int×Bool×Bool×Int×Bool×Unit
def ZtT(n:Zat)(r:Zlm):ZdY:=(n.2.1[r.2.2.2.2.1.toNat]?).getD r0
def Zt9(n:Zat)(q:Za5)(r:Zlm):Bool:=Tr.useB q r (ZtT n r)
def s0:Zl8:=([],0,false,0,())
def Zcm(n:Zat)(s:Int):Zl8:=(n.1[s.toNat]?).getD s0
def ZkQ(n:Zat)(q:Za5)(s:Int):Bool:=(Zcm n s).2.2.1|| !q.2.2.2.2.2.2.1
def ZbP(n:Zat)(q:Za5)(c:Zbd):Zbd:=if ZkQ n q c.1 then c else(c.1,c.2.1,c.2.2.1,false,false,())
theorem Zvn{n:Zat}(hS:Zct n){r:Zlm}(hr:r∈n.2.2.1):idx n.2.1 r.2.2.2.2.1=some (ZtT n r)/\ZtT n r∈n.2.1:=by
 have h:=hS.route _ hr;have hi:inR r.2.2.2.2.1 n.2.1.length=true:=by simp [inR];omega
 refine⟨Za6 hi r0, ?_⟩;unfold ZtT;rw[Zak (show r.2.2.2.2.1.toNat<n.2.1.length by omega)];exact Vf _
theorem Zwj{n:Zat}(hS:Zct n)(q:Za5){r:Zlm}(hr:r∈n.2.2.1):F10 n q r=some (Zt9 n q r):=by obtain⟨h1,h2⟩:=Zvn hS hr;have hm:=(hS.mode _ h2).1;unfold F10 Tr.useF;rw[h1];simp only[bind_some,show decide ((0:Int)<=(ZtT n r).2.1)=true from decide_eq_true hm,Vya,cond_true];rfl
theorem Zw7{n:Zat}(hS:Zct n){r:Zlm}(hr:r∈n.2.2.1){c:Zbd}(hc:c∈r.2.2.2.2.2.2.2.1):idx n.1 c.1=some (Zcm n c.1):=by have h:=hS.call _ hr _ hc;exact Za6 (show inR c.1 n.1.length=true by simp [inR];omega) s0
theorem Zuj{n:Zat}(q:Za5){s:Int}(h:idx n.1 s=some (Zcm n s)):F9 n q s=some (ZkQ n q s):=by
 unfold F9;rw[h];simp only[bind_some];unfold ZkQ
 cases (Zcm n s).2.2.1<;>rfl
theorem Zq7{n:Zat}(hS:Zct n)(q:Za5){r:Zlm}(hr:r∈n.2.2.1):F8 n q r.2.2.2.2.2.2.2.1=some (r.2.2.2.2.2.2.2.1.map (ZbP n q)):=by
 have hl:=(hS.many _ hr).2;unfold F8;rw[ZuG r.2.2.2.2.2.2.2.1 (fun c=>[ZbP n q c]) id ?_ ?_]
 ·simp only[bind_some,id,Zls,Vr];generalize hm:r.2.2.2.2.2.2.2.1.map (ZbP n q)=m;have hlen:m.length=r.2.2.2.2.2.2.2.1.length:=by rw[<-hm,Vr]
  rw[<-hlen]
  have e1:inb (m.length:Int) (m.length+1)=some m.length:=by unfold inb;rw[if_pos (by omega)];simp
  have e2:sliceB m.length m.length none (some (m.length:Int))=some (0,m.length):=by unfold sliceB;simp only[if_pos (show (0:Int)<=(m.length:Int)/\(m.length:Int)<=(m.length:Int) from ⟨by omega,by omega⟩),bind_some,Ve]
  rw[e1];simp only[bind_some];rw[e2];simp
 ·intro i hi;have hc:=Vf hi;simp only[Zav hi,cond_true,Zaf hi,bind_some];rw[Zuj q (Zw7 hS hr hc)];have hb:=Zt1 (f:=fun c=>[ZbP n q c]) (by simp) (r.2.2.2.2.2.2.2.1.take i);rw[Vt]at hb;simp only[bind_some]
  have e: (bif !ZkQ n q (r.2.2.2.2.2.2.2.1[i]).1 then some (((r.2.2.2.2.2.2.2.1[i]).1,(r.2.2.2.2.2.2.2.1[i]).2.1,(r.2.2.2.2.2.2.2.1[i]).2.2.1,false,false,(r.2.2.2.2.2.2.2.1[i]).2.2.2.2.2):Zbd) else some r.2.2.2.2.2.2.2.1[i])=some (ZbP n q r.2.2.2.2.2.2.2.1[i]):=by
   unfold ZbP
   cases ZkQ n q (r.2.2.2.2.2.2.2.1[i]).1<;>rfl
  erw[e];simp only[bind_some];rw[ZaQ (by simp;simp at hb;omega),Zai hi (by omega)];rfl
 ·simp only[Zaw,cond_false];rfl
structure Few (n:Zat):Prop where
 stops:n.1.length<=4096
 routes:n.2.1.length<=4096
 runs:n.2.2.1.length<=4096
 links:n.2.2.2.1.length<=4096
 paths:n.2.2.2.2.1.length<=4096
 prods:n.2.2.2.2.2.1.1.length<=4096
 calls: ∀r∈n.2.2.1,r.2.2.2.2.2.2.2.1.length<=4096
theorem Ze5{α:Type}(l:List α)(h:l.length<=4096): (Vb (Zan (decide (Vg ([]:List Unit)+Vg l<=Zam))) fun _=>
 Vb (inb (↑(Vg ([]++l)):Int) (Vg ([]++l)+(1:Nat))) fun x1=>
 Vb (sliceB (Vg ([]++l)) x1 none (some (↑(Vg ([]++l)):Int))) fun x2=>some (Vzb x2.2 ([]++l)))=some l:=by
 have e0:Zan (decide (Vg ([]:List Unit)+Vg l<=Zam))=some ():=by unfold Zan Zam;rw[decide_eq_true (show Vg ([]:List Unit)+Vg l<=2 ^ 39 by simp;omega)];rfl
 have e1:inb (l.length:Int) (l.length+1)=some l.length:=by unfold inb;rw[if_pos (by omega)];simp
 have e2:sliceB l.length l.length none (some (l.length:Int))=some (0,l.length):=by unfold sliceB;simp only[if_pos (show (0:Int)<=(l.length:Int)/\(l.length:Int)<=(l.length:Int) from ⟨by omega,by omega⟩),bind_some,Ve]
 rw[e0];simp only[bind_some,List.nil_append];rw[e1];simp only[bind_some];rw[e2];simp
theorem Zr3{n:Zat}(h:Few n):F40 n=some n:=by
 unfold F40;have hs:F51 n.1=some n.1:=Ze5 n.1 h.stops;have hro:F49 n.2.1=some n.2.1:=Ze5 n.2.1 h.routes;have hru:F50 n.2.2.1=some n.2.2.1:=Ze5 n.2.2.1 h.runs;have hli:F47 n.2.2.2.1=some n.2.2.2.1:=Ze5 n.2.2.2.1 h.links;have hpa:F46 n.2.2.2.2.1=some n.2.2.2.2.1:=Ze5 n.2.2.2.2.1 h.paths;have hpr:F48 n.2.2.2.2.2.1.1=some n.2.2.2.2.2.1.1:=Ze5 n.2.2.2.2.2.1.1 h.prods;rw[hs,hro,hru,hli,hpa];simp only[bind_some];refine Zbk (fun r:Zat=>r=(n.1,n.2.1,n.2.2.1,n.2.2.2.1,n.2.2.2.2.1,n.2.2.2.2.2.1,())) (ZaL n.2.2.1.length _ (fun i (st:Zat×Int)=>st=((n.1,n.2.1,n.2.2.1,n.2.2.2.1,n.2.2.2.2.1,n.2.2.2.2.2.1,()),(i:Int))) ?_ ?_ _ rfl) ?_
 ·rintro i _ hi rfl;left;have hc:F45 (n.2.2.1[i]).2.2.2.2.2.2.2.1=some (n.2.2.1[i]).2.2.2.2.2.2.2.1:=Ze5 _ (h.calls _ (Vf hi));simp only[Zav hi,cond_true,ZaB hi,bind_some,Va hi,hc];refine⟨_,rfl, ?_⟩;rw[Zai hi (by have:=h.runs;omega)];have e:Vub n.2.2.1 i ((n.2.2.1[i]).1,(n.2.2.1[i]).2.1,(n.2.2.1[i]).2.2.1,(n.2.2.1[i]).2.2.2.1,(n.2.2.1[i]).2.2.2.2.1,(n.2.2.1[i]).2.2.2.2.2.1,(n.2.2.1[i]).2.2.2.2.2.2.1,(n.2.2.1[i]).2.2.2.2.2.2.2.1,(n.2.2.1[i]).2.2.2.2.2.2.2.2)=n.2.2.1:=Vgb hi;erw[e]
 ·rintro _ rfl;exact⟨_,by simp only[Zaw,cond_false],rfl⟩
 ·rintro _ rfl;rw[hpr];rfl
def ZcN(n:Zat)(q:Za5)(r:Zlm):Zlm:=(r.1,r.2.1,r.2.2.1,r.2.2.2.1,r.2.2.2.2.1,r.2.2.2.2.2.1, !Zt9 n q r,r.2.2.2.2.2.2.2.1.map (ZbP n q),())
def Zfp(n:Zat)(q:Za5):List Zb3:=if q.2.2.2.2.2.2.1 then n.2.2.2.2.1.filter (fun p=>p.2.2.2.1) else n.2.2.2.2.1
def ZaS(n:Zat)(q:Za5):Zat:=(n.1,n.2.1,n.2.2.1.map (ZcN n q),n.2.2.2.1,Zfp n q,n.2.2.2.2.2.1,())
def Zfe(n:Zat)(q:Za5)(i:Nat):List Zlm:=(n.2.2.1.take i).map (ZcN n q)++n.2.2.1.drop i
theorem ZqV(n:Zat)(q:Za5){i:Nat}(hi:i<=n.2.2.1.length): (Zfe n q i).length=n.2.2.1.length:=by simp [Zfe];omega
theorem Zqu(n:Zat)(q:Za5){i:Nat}(hi:i<n.2.2.1.length): (Zfe n q i)[i]? =some n.2.2.1[i]:=by unfold Zfe;rw[List.getElem?_append_right (by simp;omega)];simp only[Vr,Vt,Nat.min_eq_left (Nat.le_of_lt hi),Vza,List.getElem?_drop,Nat.add_zero];exact Va hi
theorem ZqH(n:Zat)(q:Za5){i:Nat}(hi:i<n.2.2.1.length): (Zfe n q i).set i (ZcN n q n.2.2.1[i])=Zfe n q (i+1):=by
 unfold Zfe;have hlen: ((n.2.2.1.take i).map (ZcN n q)).length=i:=by simp;omega
 rw[Vhb _ _ (by omega),hlen,Vza,Vqa hi,Vlb,Vh hi,List.map_append];simp
theorem Zn3{n:Zat}(hS:Zct n)(hF:Few n)(q:Za5)(hq:F5 n q=some 0):F7 n q=some (ZaS n q,0):=by
 unfold F7;rw[hq];simp only[bind_some,decide_true,Vi,cond_false];rw[Zr3 hF];simp only[bind_some];refine Zbk (fun r:Zat=>r=(n.1,n.2.1,n.2.2.1.map (ZcN n q),n.2.2.2.1,n.2.2.2.2.1,n.2.2.2.2.2.1,())) (ZaL n.2.2.1.length _ (fun i (st:Zat×Int)=>st=((n.1,n.2.1,Zfe n q i,n.2.2.2.1,n.2.2.2.2.1,n.2.2.2.2.2.1,()),(i:Int))) ?_ ?_ _ (by simp [Zfe])) ?_
 ·rintro i _ hi rfl;left;have hr:=Vf hi;have hl:=ZqV n q (Nat.le_of_lt hi);have hi' :i< (Zfe n q i).length:=by omega
  simp only[Zav hi,cond_true,Zaf hi,bind_some,Zwj hS q hr,ZaB hi',Zqu n q hi,Zq7 hS q hr];refine⟨_, ?_,rfl⟩;rw[Zai hi (by have:=hF.runs;omega)];have hi2:i< ((Zfe n q i).set i ((n.2.2.1[i]).1,(n.2.2.1[i]).2.1,(n.2.2.1[i]).2.2.1,(n.2.2.1[i]).2.2.2.1,(n.2.2.1[i]).2.2.2.2.1,(n.2.2.1[i]).2.2.2.2.2.1, !Zt9 n q n.2.2.1[i],(n.2.2.1[i]).2.2.2.2.2.2.2)).length:=by rw[Vv];exact hi'
  erw[ZaB hi2];simp only[bind_some];erw[Vn hi'];simp only[bind_some];erw[Voa];congr 2;have:=ZqH n q hi;rw[<-this];rfl
 ·rintro _ rfl;refine⟨_,by simp only[Zaw,cond_false];rfl, ?_⟩;simp [Zfe]
 ·rintro _ rfl;unfold ZaS Zfp
  cases hsf:q.2.2.2.2.2.2.1 with
  |false=>rfl
  |true=>
   simp only[cond_true,if_true];refine Zbk (fun r:Zat=>r=(n.1,n.2.1,n.2.2.1.map (ZcN n q),n.2.2.2.1,n.2.2.2.2.1.filter (fun p=>p.2.2.2.1),n.2.2.2.2.2.1,())) (ZaL n.2.2.2.2.1.length _ (fun i (st:Zat×Int)=>st=((n.1,n.2.1,n.2.2.1.map (ZcN n q),n.2.2.2.1,(n.2.2.2.2.1.take i).filter (fun p=>p.2.2.2.1),n.2.2.2.2.2.1,()),(i:Int))) ?_ ?_ _ (by simp)) ?_
   ·rintro i _ hi rfl;left;have hb:=Vz (fun p:Zb3=>p.2.2.2.1) (n.2.2.2.2.1.take i);rw[Vt]at hb;have hp:=hF.paths;simp only[Zav hi,cond_true,Zaf hi,bind_some];rw[Zai hi (by omega),Vh hi,Vga]
    cases hv: (n.2.2.2.2.1[i]).2.2.2.1 with
    |false=>
     refine⟨_,rfl, ?_⟩
     simp [hv]
    |true=>
     simp only[cond_true];rw[ZaQ (by simp;omega)];refine⟨_,rfl, ?_⟩;simp [hv]
   ·rintro _ rfl;refine⟨_,by simp only[Zaw,cond_false];rfl, ?_⟩;rw[Vq]
   ·rintro _ rfl;rfl
def qB(k:Nat)(q:Za5):Bool:=inR q.1 k&& (inR q.2.1 k&& (decide (0<=q.2.2.1/\q.2.2.1<=3155932800) && (decide (0<=q.2.2.2.2.1/\q.2.2.2.2.1<=8) && (decide (0<=q.2.2.2.2.2.1/\q.2.2.2.2.2.1<=86400) && (decide (0<=q.2.2.2.2.2.2.2.2.1/\q.2.2.2.2.2.2.2.2.1<=255) && !(q.2.2.2.2.2.2.2.2.2.1&&q.2.2.2.1))))))
theorem Zoa(x a b:Int):F6 x a b=some (decide (a<=x/\x<=b)):=ZdV x a b
theorem ZgP(x a b:Int):F96 x a b=some (decide (a<=x/\x<=b)):=ZdV x a b
theorem ZfO(x:Int){m:Nat}(hm:m<=9223372036854775807):F96 x 0 (Vc .i64 ((m:Int) - 1))=some (inR x m):=ZkX x hm
theorem Zki(k:Nat)(hk:k<=9223372036854775807)(q:Za5):F88 (k:Int) q=some (qB k q):=by
 unfold F88 qB;simp only[ZgP];rw[show decide ((0:Int)<=q.1/\q.1<=Vc .i64 ((k:Int) - 1))=inR q.1 k from Option.some.inj ((ZgP _ _ _).symm.trans (ZfO q.1 hk)),show decide ((0:Int)<=q.2.1/\q.2.1<=Vc .i64 ((k:Int) - 1))=inR q.2.1 k from Option.some.inj ((ZgP _ _ _).symm.trans (ZfO q.2.1 hk))];simp only[bind_some];generalize inR q.1 k=b1;generalize inR q.2.1 k=b2;generalize decide ((0:Int)<=q.2.2.1/\q.2.2.1<=3155932800)=b3;generalize decide ((0:Int)<=q.2.2.2.2.1/\q.2.2.2.2.1<=8)=b4;generalize decide ((0:Int)<=q.2.2.2.2.2.1/\q.2.2.2.2.2.1<=86400)=b5;generalize decide ((0:Int)<=q.2.2.2.2.2.2.2.2.1/\q.2.2.2.2.2.2.2.2.1<=255)=b6
 generalize q.2.2.2.2.2.2.2.2.2.1=b7;generalize q.2.2.2.1=b8
 cases b1<;>try rfl
 cases b2<;>try rfl
 cases b3<;>try rfl
 cases b4<;>try rfl
 cases b5<;>try rfl
 cases b6<;>try rfl
 cases b7<;>cases b8<;>rfl
open Classical in
noncomputable def Zkl(n:Zat)(q:Za5):Int:=if Whole n then(if qB n.1.length q=true then 0 else 22) else 21
theorem ZfD{n:Zat}{q:Za5} :Zkl n q=0↔Whole n/\qB n.1.length q=true:=by
 unfold Zkl;split
 ·next h=>split<;>simp_all
 ·next h=>simp [h]
open Classical in
theorem Zgz{n:Zat}(h:Fit n):F63 n=some (decide (Whole n)):=by obtain⟨r,_,h2,h3⟩:=Zjz n h;unfold F63;rw[h2];simp only[bind_some];congr 1;exact decide_eq_decide.2 h3
open Classical in
theorem ZuA{n:Zat}(h:Fit n)(q:Za5):F85 n q=some (Zkl n q):=by
 unfold F85 Zkl;rw[Zgz h];simp only[bind_some];by_cases hW:Whole n
 ·rw[decide_eq_true hW,if_pos hW];have hs:=hW.sound.stops;simp only[Vi,cond_false];rw[Zki n.1.length (by omega)];simp only[bind_some]
  cases qB n.1.length q<;>rfl
 ·rw[decide_eq_false hW,if_neg hW];rfl
theorem Zmi{n:Zat}(h:Fit n)(q:Za5):F5 n q=some (Zkl n q):=by
 obtain⟨r,h1,_,h3⟩:=Zjz n h;unfold F5 Zkl;rw[h1];simp only[bind_some];by_cases hW:Whole n
 ·rw[decide_eq_true (h3.2 hW),if_pos hW];have hk:n.1.length<=9223372036854775807:=by have:=hW.sound.stops;omega
  simp only[Vi,cond_false,Zoa];rw[show decide ((0:Int)<=q.1/\q.1<=Vc .i64 ((n.1.length:Int) - 1))=inR q.1 n.1.length from Option.some.inj ((ZgP _ _ _).symm.trans (ZfO q.1 hk)),show decide ((0:Int)<=q.2.1/\q.2.1<=Vc .i64 ((n.1.length:Int) - 1))=inR q.2.1 n.1.length from Option.some.inj ((ZgP _ _ _).symm.trans (ZfO q.2.1 hk))];unfold qB;simp only[bind_some];generalize inR q.1 n.1.length=b1;generalize inR q.2.1 n.1.length=b2;generalize decide ((0:Int)<=q.2.2.1/\q.2.2.1<=3155932800)=b3;generalize decide ((0:Int)<=q.2.2.2.2.1/\q.2.2.2.2.1<=8)=b4;generalize decide ((0:Int)<=q.2.2.2.2.2.1/\q.2.2.2.2.2.1<=86400)=b5;generalize decide ((0:Int)<=q.2.2.2.2.2.2.2.2.1/\q.2.2.2.2.2.2.2.2.1<=255)=b6
  generalize q.2.2.2.2.2.2.2.2.2.1=b7;generalize q.2.2.2.1=b8
  cases b1<;>try rfl
  cases b2<;>try rfl
  cases b3<;>try rfl
  cases b4<;>try rfl
  cases b5<;>try rfl
  cases b6<;>try rfl
  cases b7<;>cases b8<;>rfl
 ·rw[decide_eq_false (fun e=>hW (h3.1 e)),if_neg hW];rfl
theorem ZqX{c l:List Zb3}(h:ZbN c l=true):c=l:=by
 unfold ZbN at h;rw[Vd,decide_eq_true_eq,Vra]at h;obtain⟨h1,h2⟩:=h;have h2:=Zaz.1 h2;refine List.ext_getElem h1 fun i hi hi' => ?_;have:=h2 i hi;unfold eqF at this;rw[Zak hi,Zak hi']at this
 have hs:Zjr c[i] l[i]=true:=by
  by_cases hs:Zjr c[i] l[i]=true
  ·exact hs
  ·rw[if_neg hs]at this;simp at this
 unfold Zjr at hs;simp only[Vd,decide_eq_true_eq,beq_iff_eq]at hs;exact Vvb hs.1 (Vvb hs.2.1 (Vvb hs.2.2.1 (Vvb hs.2.2.2 rfl)))
theorem Zm2(l:List Zb3):ZbN l l=true:=by unfold ZbN;rw[Vd,decide_eq_true_eq,Vra];refine⟨rfl,Zaz.2 fun i hi=> ?_⟩;unfold eqF Zjr;simp
theorem Zld{k:Nat}{l:List Zb3} : (∀i,i<l.length->ZbI k l i=0)↔(∀p∈l,Zdx k p=false/\ZdL p=false)/\l.Pairwise fun a b=>Zdd a≠Zdd b:=by
 constructor
 ·intro h;refine⟨fun p hp=> ?_,Vsa.2 fun i j hi hj hij e=> ?_⟩
  ·obtain⟨i,hi,rfl⟩:=Vy hp;have:=ZcF (h i hi);rw[Zak hi]at this;exact⟨this.1,this.2.1⟩
  ·have:=(ZcF (h j hj)).2.2;refine this ⟨i,hij, ?_⟩;rw[Zak hi,Zak hj];exact e
 ·rintro ⟨h1,h2⟩ i hi;obtain⟨a,b⟩:=h1 _ (Vf hi);unfold ZbI;rw[Zak hi,if_neg (by rw[a];simp),if_neg (by rw[b];simp),if_neg];rintro ⟨j,hj,e⟩;rw[Zak (show j<l.length by omega)]at e;exact Vsa.1 h2 j i (by omega) hi hj e
theorem Zjj{α β:Type}(p:β->Bool)(f:α->List β)(l:List α): (l.flatMap f).filter p=l.flatMap fun x=>(f x).filter p:=by
 induction l with
 |nil=>rfl
 |cons x l ih=>simp [Vga,ih]
theorem ZrD(a b:Nat)(d f:Int): (ZdE a b d f).filter (fun p=>p.2.2.2.1)=ZdE a b f f:=by
 unfold ZdE;by_cases h:f=d
 ·subst h;rw[if_pos rfl,Vcb]
  split<;>simp
 ·rw[if_neg h,if_pos rfl,Vcb,Vga]
  have e1: (if 0<d/\d<=14400 then [((a:Int),(b:Int),d,decide (f=d),())] else []).filter (fun p:ZdM=>p.2.2.2.1)=[]:=by
   split<;>simp [h]
  rw[e1]
  split<;>simp
theorem Zr1(it:Nat->Nat->List ZdM)(n m:Nat): (ZgZ it n m).filter (fun p=>p.2.2.2.1)=ZgZ (fun a b=>(it a b).filter (fun p=>p.2.2.2.1)) n m:=by
 unfold ZgZ ZlY;rw[Zjj];congr 1;funext a;rw[Zjj];congr 1;funext b
 split<;>rfl
theorem ZnW{k:Nat}(hk:k<=64){l:List Zb3}(hl:l.length<=4096)(hz: ∀i,i<l.length->ZbI k l i=0)(hc: ∀c,F59 l (k:Int)=some c->ZbN c l=true):
  (∀i,i< (l.filter fun p=>p.2.2.2.1).length->ZbI k (l.filter fun p=>p.2.2.2.1) i=0)/\ ∀c,F59 (l.filter fun p=>p.2.2.2.1) (k:Int)=some c->ZbN c (l.filter fun p=>p.2.2.2.1)=true:=by
 obtain⟨z1,z2⟩:=Zld.1 hz;have hz' : ∀i,i< (l.filter fun p=>p.2.2.2.1).length->ZbI k (l.filter fun p=>p.2.2.2.1) i=0:=Zld.2 ⟨fun p hp=>z1 p (Vdb.1 hp).1,z2.filter _⟩;refine⟨hz',fun c h=> ?_⟩;have hF:=Ztr hz;have hF' :=Ztr hz';have hl' : (l.filter fun p=>p.2.2.2.1).length<=4096:=Vs (Vz _ _) hl;obtain⟨c0,a1,a2,_⟩:=ZgC hk hF hl;obtain⟨c1,b1,b2,_⟩:=ZgC hk hF' hl';have v0:=ZgK hk hF hl (fun a b=>(Zk7 hF a b).imp id fun h=>h.2);have v1:=ZgK hk hF' hl' (fun a b=>(Zk7 hF' a b).imp id fun h=>h.2);rw[a1]at v0;rw[b1]at v1;have e0:=ZqX (hc c0 a2);obtain rfl:c1=c:=Option.some.inj (b2.symm.trans h)
 have ed: ∀free,EdP (l.filter fun p=>p.2.2.2.1) free=EdP l true:=by
  intro free;funext u v w;refine propext ⟨fun⟨p,hp,_,h⟩=> ?_,fun⟨p,hp,h1,h⟩=> ?_⟩
  ·obtain⟨hp1,hp2⟩:=Vdb.1 hp;exact⟨p,hp1,fun _=>hp2,h⟩
  ·have:=h1 rfl;exact⟨p,Vdb.2 ⟨hp,this⟩,fun _=>this,h⟩
 have key:c1=l.filter fun p=>p.2.2.2.1:=by
  rw[Option.some.inj v1]
  conv=>rhs;rw[<-e0,Option.some.inj v0]
  rw[Zr1,ed,ed];congr 1;funext a b;exact(ZrD a b _ _).symm
 rw[key];exact Zm2 _
theorem Zg7(n:Zat)(q:Za5)(l:List Zbd)(i:Nat): (((l.map (ZbP n q))[i]?).getD c0).1=((l[i]?).getD c0).1/\(((l.map (ZbP n q))[i]?).getD c0).2.1=((l[i]?).getD c0).2.1/\(((l.map (ZbP n q))[i]?).getD c0).2.2.1=((l[i]?).getD c0).2.2.1:=by
 rw[Vaa]
 cases l[i]? with
 |none=>exact⟨rfl,rfl,rfl⟩
 |some c=>
  simp only[Option.map_some,Vu];unfold ZbP
  split<;>exact⟨rfl,rfl,rfl⟩
theorem ZnO(n:Zat)(q:Za5)(l:List Zbd)(k lo hi:Int):Ze3 (l.map (ZbP n q)) k lo hi=Ze3 l k lo hi:=by
 have h:ZjN (l.map (ZbP n q)) k lo hi=ZjN l k lo hi:=by funext i;obtain⟨a1,a2,a3⟩:=Zg7 n q l i;obtain⟨b1,b2,b3⟩:=Zg7 n q l (i - 1);unfold ZjN ZmW Zm3 ZmX;rw[a1,a2,a3,b1,b3]
 unfold Ze3;rw[Vr,h]
theorem Zo7(n:Zat)(q:Za5)(a:Int): (rn (ZaS n q) a).2.2.2.2.2.2.2.1=(rn n a).2.2.2.2.2.2.2.1.map (ZbP n q):=by
 unfold rn;show (((n.2.2.1.map (ZcN n q))[a.toNat]?).getD u0).2.2.2.2.2.2.2.1=_;rw[Vaa]
 cases n.2.2.1[a.toNat]? <;>rfl
theorem ZoG(n:Zat)(q:Za5)(i:Nat):Zcx (ZaS n q) i=Zcx n i:=by have hlen: (ZaS n q).2.2.1.length=n.2.2.1.length:=Vr ..;unfold Zcx Zpj Zrb;simp only[Zo7,Vr,hlen];have hcl: ∀ (l:List Zbd) (x:Int),(cl (l.map (ZbP n q)) x).1=(cl l x).1:=fun l x=>(Zg7 n q l _).1;simp only[hcl];rfl
theorem Zqx(n:Zat)(q:Za5){i:Nat}(hi:i<n.2.2.1.length):ZlE (ZaS n q) i=ZlE n i:=by
 have hg: ∀j,j<n.2.2.1.length->((ZaS n q).2.2.1[j]?).getD u0=ZcN n q ((n.2.2.1[j]?).getD u0):=by intro j hj;show ((n.2.2.1.map (ZcN n q))[j]?).getD u0=_;rw[Vaa,Va hj];rfl
 unfold ZlE;rw[hg i hi]
 have hd: (∃j,j<i/\runK (((ZaS n q).2.2.1[j]?).getD u0)=runK (ZcN n q ((n.2.2.1[i]?).getD u0)))↔ ∃j,j<i/\runK ((n.2.2.1[j]?).getD u0)=runK ((n.2.2.1[i]?).getD u0):=by
  constructor
  ·rintro ⟨j,hj,e⟩;rw[hg j (by omega)]at e;exact⟨j,hj,e⟩
  ·rintro ⟨j,hj,e⟩;refine⟨j,hj, ?_⟩;rw[hg j (by omega)];exact e
 have hcE:Ze3 (ZcN n q ((n.2.2.1[i]?).getD u0)).2.2.2.2.2.2.2.1 ((ZaS n q).1.length:Int) 0 3155932800=Ze3 ((n.2.2.1[i]?).getD u0).2.2.2.2.2.2.2.1 (n.1.length:Int) 0 3155932800:=ZnO n q _ _ _ _;simp only[hcE,hd];rfl
theorem ZgE{n:Zat}(q:Za5)(hp:n.2.2.2.2.1.length<=4096)(h:Whole n):Whole (ZaS n q):=by
 have hlen: (ZaS n q).2.2.1.length=n.2.2.1.length:=Vr ..
 have hP: (∀i,i< (Zfp n q).length->ZbI n.1.length (Zfp n q) i=0)/\ ∀c,F59 (Zfp n q) (n.1.length:Int)=some c->ZbN c (Zfp n q)=true:=by
  unfold Zfp;split
  ·exact ZnW h.sound.stops hp (Zaz.1 h.q) h.w
  ·exact⟨Zaz.1 h.q,h.w⟩
 refine⟨h.s,h.t,by rw[hlen];exact h.u, ?_,h.v, ?_,Zaz.2 hP.1,hP.2,h.z⟩
 ·rw[hlen];exact Zaz.2 fun i hi=>by rw[Zqx n q hi];exact Zaz.1 h.f i hi
 ·exact Zaz.2 fun i hi=>by rw[ZoG];exact Zaz.1 h.g i hi
theorem ZtE{n:Zat}(q:Za5)(h:Fit n):Fit (ZaS n q):=by
 refine⟨h.stops,h.routes, ?_, ?_, ?_,h.prods⟩
 ·intro r hr;obtain⟨x,hx,rfl⟩:=Vcc.1 (show r∈n.2.2.1.map (ZcN n q) from hr);exact h.runs x hx
 ·intro r hr;obtain⟨x,hx,rfl⟩:=Vcc.1 (show r∈n.2.2.1.map (ZcN n q) from hr);show (x.2.2.2.2.2.2.2.1.map _).length<=_;rw[Vr];exact h.calls x hx
 ·show (Zfp n q).length<=_;unfold Zfp;split
  ·exact Vs (Vz _ _) h.paths
  ·exact h.paths
end Q
namespace Q
open Tr Go
open Option (bind_some)
theorem Znj{a b:Nat}(ha:a<65536)(hb:b<65536):qor .i64 (a:Int) (b:Int)=((a ||| b:Nat):Int):=by
 have hor:a ||| b<2 ^ 16:=Vqb (n:=16) (by omega) (by omega);unfold qor
 have h1: (Vba Vea.bits (a:Int) ||| Vba Vea.bits (b:Int)).toNat=a ||| b:=by rw[BitVec.toNat_or,Vjb,Vjb,Vmb,Vmb];show a % 2 ^ 64 ||| b % 2 ^ 64=a ||| b;rw[Vtb (show a<2 ^ 64 by omega),Vtb (show b<2 ^ 64 by omega)]
 rw[h1,Zae (by omega) (by omega)]
theorem ZnT{z:Int}(h0:0<=z)(h1:z<16):ZvY .i64 1 z=some ((2 ^ z.toNat:Nat):Int):=by
 have:z=0\/z=1\/z=2\/z=3\/z=4\/z=5\/z=6\/z=7\/z=8\/z=9\/z=10\/z=11\/z=12\/z=13\/z=14\/z=15:=by omega
 rcases this with rfl|rfl|rfl|rfl|rfl|rfl|rfl|rfl|rfl|rfl|rfl|rfl|rfl|rfl|rfl|rfl<;>decide
theorem ZmU{z:Int}(h1:z<16):2 ^ z.toNat<65536:=Nat.pow_lt_pow_right (by omega) (show z.toNat<16 by omega)
abbrev Zaq:=Bool×Int×Int×Int×Int×Int×Int×Int×Bool×Unit
abbrev ZdA:=Int×Int×Int×Int×Unit
abbrev Zu5:=List Zaq×Unit
def ZaY(n:Zat)(x:Zaq):List Zbd:=(rn n x.2.1).2.2.2.2.2.2.2.1
def ZaN(n:Zat)(x:Zaq):Bool:=inR x.2.1 n.2.2.1.length&& (decide (0<=x.2.2.1) && (decide (x.2.2.1<x.2.2.2.1) &&decide (x.2.2.2.1< ((ZaY n x).length:Int))))
theorem ZiR(n:Zat)(x:Zaq):F75 n x=some (ZaN n x):=by
 unfold F75 ZaN;by_cases h:inR x.2.1 n.2.2.1.length=true
 ·have e:idx n.2.2.1 x.2.1=some (rn n x.2.1):=Za6 h u0;simp only[e,bind_some,h];unfold inR at h;simp only[Vd,decide_eq_true_eq]at h;rw[decide_eq_false (show¬x.2.1<0 by omega),decide_eq_false (show¬ (n.2.2.1.length:Int)<=x.2.1 by omega)];simp only[cond_false,bind_some];unfold ZaY;generalize decide (0<=x.2.2.1)=a1;generalize decide (x.2.2.1<x.2.2.2.1)=a2;generalize decide (x.2.2.2.1< ((rn n x.2.1).2.2.2.2.2.2.2.1.length:Int))=a3
  cases a1<;>cases a2<;>cases a3<;>rfl
 ·have h' :inR x.2.1 n.2.2.1.length=false:=by simpa using h
  rw[h'];unfold inR at h;simp only[Vd,decide_eq_true_eq]at h;by_cases h1:x.2.1<0
  ·rw[decide_eq_true h1];rfl
  ·rw[decide_eq_false h1,decide_eq_true (show (n.2.2.1.length:Int)<=x.2.1 by omega)];rfl
def zn(n:Zat)(l:List Zbd)(j:Nat):Nat:=2 ^ (Zcm n ((l[j]?).getD c0).1).2.1.toNat
def zN(n:Zat)(l:List Zbd)(a:Nat):Nat->Nat
 |0=>0
 |k+1=>zN n l a k ||| zn n l (a+k)
theorem ZhW{n:Zat}(h:Zct n){a:Int}(h0:0<=a)(h1:a< (n.1.length:Int)):idx n.1 a=some (Zcm n a)/\0<=(Zcm n a).2.1/\(Zcm n a).2.1<16:=by
 have hi:inR a n.1.length=true:=by unfold inR;rw[decide_eq_true h0,decide_eq_true h1];rfl
 refine⟨Za6 hi s0, ?_⟩;have hl:a.toNat<n.1.length:=by omega
 unfold Zcm;rw[Zak hl];exact h.zone _ (Vf hl)
theorem Zlp{n:Zat}(h:Zct n){l:List Zbd}(hc: ∀c∈l,0<=c.1/\c.1< (n.1.length:Int)){a:Nat} : ∀k,a+k<=l.length->zN n l a k<65536
 |0,_=>by unfold zN;omega
 |k+1,hk=>by
  have ih:=Zlp h hc (a:=a) k (by omega);have hj:a+k<l.length:=by omega
  have hcj:=hc _ (Vf hj);have hz:=(ZhW h hcj.1 hcj.2).2
  have:zn n l (a+k)<65536:=by unfold zn;rw[Zak hj];exact ZmU hz.2
  exact Vqb (n:=16) ih this
theorem Zqj{n:Zat}(h:Zct n){x:Zaq}(hx:ZaN n x=true):F82 n x=some ((zN n (ZaY n x) x.2.2.1.toNat (x.2.2.2.1.toNat+1 - x.2.2.1.toNat):Nat):Int):=by
 unfold ZaN at hx;simp only[Vd,decide_eq_true_eq]at hx;obtain⟨hr,h0,h1,h2⟩:=hx;have hm:=Zgw hr;have hmany:=(h.many _ hm).2;have hc: ∀c∈ZaY n x,0<=c.1/\c.1< (n.1.length:Int):=h.call _ hm;have e:idx n.2.2.1 x.2.1=some (rn n x.2.1):=Za6 hr u0;unfold F82;rw[e];simp only[bind_some];have hfold: (rn n x.2.1).2.2.2.2.2.2.2.1=ZaY n x:=rfl;simp only[hfold]at hmany ⊢;generalize ZaY n x=l at*;obtain⟨a,ha⟩: ∃a:Nat,x.2.2.1=(a:Int):=⟨x.2.2.1.toNat,by omega⟩;obtain⟨b,hb⟩: ∃b:Nat,x.2.2.2.1=(b:Int):=⟨x.2.2.2.1.toNat,by omega⟩;rw[ha]at h0 h1;rw[hb]at h1 h2;rw[ha,hb];simp only[Ve];rw[Zba (n:=b+1 - a) (fun i (st:Int×Int)=>st=(((zN n l a i:Nat):Int),((a+i:Nat):Int))) (fun _=>0) (fun _=>((zN n l a (b+1 - a):Nat):Int)) ((zN n l a (b+1 - a):Nat):Int) ?_ ?_ ?_ ((0:Int),(a:Int)) rfl]
 ·unfold pick;rw[Zb4 fun _ _=>rfl];rfl
 ·rintro i _ hi rfl _;have hj:a+i<l.length:=by omega
  have hcj:=hc _ (Vf hj);obtain⟨hs1,hs2,hs3⟩:=ZhW h hcj.1 hcj.2;refine⟨(((zN n l a (i+1):Nat):Int),((a+(i+1):Nat):Int)), ?_,rfl⟩;have hw:Vc .i64 (((a+i:Nat):Int)+1)=((a+(i+1):Nat):Int):=by rw[Zae (by omega) (by omega)];omega
  simp only[decide_eq_true (show ((a+i:Nat):Int)<=(b:Int) by omega),cond_true,Zaf hj,bind_some,hs1,ZnT hs2 hs3,hw];rw[Znj (Zlp h hc (a:=a) i (by omega)) (ZmU hs3)]
  have:zN n l a (i+1)=zN n l a i ||| 2 ^ (Zcm n l[a+i].1).2.1.toNat:=by show zN n l a i ||| zn n l (a+i)=_;unfold zn;rw[Zak hj]
  rw[this]
 ·intro i s _ _ hh;exact absurd rfl hh
 ·rintro _ rfl;simp only[decide_eq_false (show¬ ((a+(b+1 - a):Nat):Int)<=(b:Int) by omega),cond_false]
theorem Zul{k:Nat}(h:0<k)(hk:k<=9223372036854775807):inb (Vc .i64 ((k:Int) - 1)) k=some (k - 1):=by
 have e:Vc .i64 ((k:Int) - 1)=((k - 1:Nat):Int):=by rw[Zae (by omega) (by omega)];omega
 rw[e,ZaB (by omega)]
theorem Zn5{α:Type}{l:List α}{k:Nat}(h:k<l.length)(w:α): (l.set k w)[k]? =some w:=by simp [h]
def ZlB(n:Zat)(x:Zaq):Nat:=zN n (ZaY n x) x.2.2.1.toNat (x.2.2.2.1.toNat+1 - x.2.2.1.toNat)
theorem ZnB{n:Zat}(h:Zct n){x:Zaq}(hx:ZaN n x=true):ZlB n x<65536:=by unfold ZaN at hx;simp only[Vd,decide_eq_true_eq]at hx;obtain⟨hr,h0,h1,h2⟩:=hx;exact Zlp h (h.call _ (Zgw hr)) _ (by unfold ZaY at h2;omega)
def r00:ZdY:=([],0,false,())
def Zcn(n:Zat)(x:Zaq):ZdY:=(n.2.1[(rn n x.2.1).2.2.2.2.1.toNat]?).getD r00
theorem ZtW{n:Zat}(h:Zct n){x:Zaq}(hx:ZaN n x=true):idx n.2.2.1 x.2.1=some (rn n x.2.1)/\idx n.2.1 (rn n x.2.1).2.2.2.2.1=some (Zcn n x)/\0<=(Zcn n x).2.1/\(Zcn n x).2.1<16:=by
 unfold ZaN at hx;simp only[Vd]at hx;have hm:=Zgw hx.1;have h1:=h.route _ hm;have hi:inR (rn n x.2.1).2.2.2.2.1 n.2.1.length=true:=by unfold inR;rw[decide_eq_true h1.1,decide_eq_true h1.2];rfl
 refine⟨Za6 hx.1 u0,Za6 hi r00, ?_⟩;have hl: (rn n x.2.1).2.2.2.2.1.toNat<n.2.1.length:=by omega
 unfold Zcn;rw[Zak hl];have:=h.mode _ (Vf hl);omega
def ZfF(n:Zat)(x:Zaq):ZdA:=(x.2.2.2.2.2.2.1,x.2.2.2.2.2.2.2.1,((ZlB n x:Nat):Int),((2 ^ (Zcn n x).2.1.toNat:Nat):Int),())
def ZhH(n:Zat)(x:Zaq)(l:List ZdA)(v:ZdA):List ZdA:=
 l.set (l.length - 1) (v.1,x.2.2.2.2.2.2.2.1,qor .i64 v.2.2.1 ((ZlB n x:Nat):Int),qor .i64 v.2.2.2.1 ((2 ^ (Zcn n x).2.1.toNat:Nat):Int),())
abbrev Za3(x:Zaq):Bool:=x.2.2.2.2.2.2.2.2.1
def Zc2(n:Zat)(x:Zaq)(out:List ZdA):List ZdA:=match out[out.length - 1]? with
 |some v=>ZhH n x out v
 |none=>out
def Zbu(n:Zat):List Zaq->Bool->List ZdA->List ZdA×Int
 | [],_,out=>(out,0)
 |x::l,rode,out=>
  if x.1=true/\ZaN n x=false then([],9)
  else if Za3 x=true/\(x.1=false\/rode=false) then([],19)
  else if x.1=true then Zbu n l true (if Za3 x=true then Zc2 n x out else out++[ZfF n x])
  else Zbu n l false out
theorem ZcP(n:Zat)(x:Zaq)(l:List Zaq)(rode:Bool)(out:List ZdA):Zbu n (x::l) rode out=if x.1=true/\ZaN n x=false then([],9)
  else if Za3 x=true/\(x.1=false\/rode=false) then([],19)
  else if x.1=true then Zbu n l true (if Za3 x=true then Zc2 n x out else out++[ZfF n x])
  else Zbu n l false out:=rfl
theorem ZgX(n:Zat)(x:Zaq)(out:List ZdA): (Zc2 n x out).length=out.length:=by
 unfold Zc2;split
 ·unfold ZhH;rw[Vv]
 ·rfl
theorem Zol{c d:Bool}{e:Int}{K:Option Int}{k:Int}(h:K=some k): (Vb (bif c then some true else some d) fun x=>bif x then some e else K)=some (bif c||d then e else k):=by
 subst h;cases c<;>cases d<;>rfl
theorem Zgf{c d:Bool}{e:Int}{K:Option Int}{k:Int}(h:K=some k): (Vb (bif c then some d else some false) fun x=>bif x then some e else K)=some (bif c&&d then e else k):=by
 subst h;cases c<;>cases d<;>rfl
theorem ZfL{c:Bool}{e:Int}{K:Option Int}{k:Int}(h:K=some k): (bif c then some e else K)=some (bif c then e else k):=by
 subst h;cases c<;>rfl
theorem Zew{o:Option Bool}{c:Bool}{e:Int}{K:Option Int}{k:Int}(ho:o=some c)(h:K=some k): (Vb o fun x=>bif x then some e else K)=some (bif c then e else k):=by
 subst ho;subst h;cases c<;>rfl
theorem Zas{c:Bool}{e k:Int}(he:e≠0): (bif c then e else k)=0↔c=false/\k=0:=by
 cases c<;>simp [he]
def Zug(q:Za5)(t:ZdY):Bool:=decide (q.2.2.2.2.2.2.2.2.1=(0:Int)) ||decide (Zos .i64 (Vwb q.2.2.2.2.2.2.2.2.1 (2 ^ (min (Vma t.2.1) 64))) 1=1)
theorem ZtS(a:Int):Zos .i64 a 1=0\/Zos .i64 a 1=1:=by
 unfold Zos
 have h: (Vba Vea.bits a &&& Vba Vea.bits 1).toNat=(Vba Vea.bits a).toNat % 2:=by rw[BitVec.toNat_and];show _ &&& 1=_;rw[Nat.and_one_is_mod]
 rw[h];have: (Vba Vea.bits a).toNat % 2=0\/(Vba Vea.bits a).toNat % 2=1:=by omega
 rcases this with h|h<;>rw[h]
 ·left;rfl
 ·right;rfl
theorem Zt2(q:Za5)(t:ZdY)(h0:0<=t.2.1): (bif !decide (q.2.2.2.2.2.2.2.2.1=(0:Int)) then Vb (ZqT .i64 q.2.2.2.2.2.2.2.2.1 t.2.1) fun x=>some (decide (Zos .i64 x (1:Int)=(0:Int))) else some false)=some (!Zug q t):=by
 unfold Zug
 have hs:ZqT .i64 q.2.2.2.2.2.2.2.2.1 t.2.1=some (Vwb q.2.2.2.2.2.2.2.2.1 (2 ^ (min (Vma t.2.1) 64))):=by unfold ZqT;rw[if_neg (by omega)];rfl
 rw[hs];simp only[bind_some]
 cases decide (q.2.2.2.2.2.2.2.2.1=(0:Int)) with
 |true=>rfl
 |false=>
  rcases ZtS (Vwb q.2.2.2.2.2.2.2.2.1 (2 ^ (min (Vma t.2.1) 64))) with h|h<;>rw[h]<;>rfl
def ZjU(n:Zat)(q:Za5)(x:Zaq):Int:=
 bif !decide ((cl (ZaY n x) x.2.2.1).1=x.2.2.2.2.1) || !decide ((cl (ZaY n x) x.2.2.2.1).1=x.2.2.2.2.2.1) then 24 else
 bif !decide ((cl (ZaY n x) x.2.2.1).2.2.1=x.2.2.2.2.2.2.1) || !decide ((cl (ZaY n x) x.2.2.2.1).2.1=x.2.2.2.2.2.2.2.1) then 10 else
 bif (rn n x.2.1).2.2.2.2.2.2.1 then 27 else
 bif q.2.2.2.2.2.2.1&& !(rn n x.2.1).2.2.2.2.2.1 then 29 else
 bif q.2.2.2.2.2.2.2.1&& !(ZtT n (rn n x.2.1)).2.2.1 then 30 else
 bif !Zug q (ZtT n (rn n x.2.1)) then 31 else
 bif !Za3 x&& !(cl (ZaY n x) x.2.2.1).2.2.2.1 then 25 else
 bif !Za3 x&& !ZkQ n q x.2.2.2.2.1 then 29 else 0
theorem Zm8{n:Zat}{x:Zaq}(hx:ZaN n x=true):idx n.2.2.1 x.2.1=some (rn n x.2.1)/\rn n x.2.1∈n.2.2.1/\idx (rn n x.2.1).2.2.2.2.2.2.2.1 x.2.2.1=some (cl (ZaY n x) x.2.2.1)/\idx (rn n x.2.1).2.2.2.2.2.2.2.1 x.2.2.2.1=some (cl (ZaY n x) x.2.2.2.1):=by
 unfold ZaN at hx;simp only[Vd,decide_eq_true_eq]at hx;obtain⟨hr,h0,h1,h2⟩:=hx;unfold ZaY at h2
 refine⟨Za6 hr u0,Zgw hr,Za6 ?_ c0,Za6 ?_ c0⟩<;> (unfold inR;rw[Vd,decide_eq_true_eq,decide_eq_true_eq];omega)
theorem Zl4{n:Zat}(q:Za5){s:Int}(h:inR s n.1.length=true):F87 n q s=some (ZkQ n q s):=by
 unfold F87 ZkQ;rw[show idx n.1 s=some (Zcm n s) from Za6 h s0];simp only[bind_some]
 cases q.2.2.2.2.2.2.1<;>cases (Zcm n s).2.2.1<;>rfl
theorem Zux{n:Zat}(hS:Zct n)(q:Za5){x:Zaq}(hx:ZaN n x=true)(hf:inR x.2.2.2.2.1 n.1.length=true):F99 n q x=some (ZjU n q x):=by
 obtain⟨h1,h2,h3,h4⟩:=Zm8 hx;obtain⟨h5,h6⟩:=Zvn hS h2;have hm:=(hS.mode _ h6).1;unfold F99 ZjU;rw[h1];simp only[bind_some];rw[h3,h4,h5];simp only[bind_some];refine Zol (Zol (ZfL (Zgf (Zgf (Zew (Zt2 q _ hm) (Zgf (Zew (c:= !Za3 x&& !ZkQ n q x.2.2.2.2.1) ?_ rfl)))))));rw[Zl4 q hf];unfold Za3
 cases x.2.2.2.2.2.2.2.2.1<;>rfl
def ZdI(x:Zaq)(p:Zb3):Bool:=decide (p.1=x.2.2.2.2.1) && (decide (p.2.1=x.2.2.2.2.2.1) &&decide (p.2.2.1=Vc .i64 (x.2.2.2.2.2.2.2.1 - x.2.2.2.2.2.2.1)))
def ZhN(q:Za5)(p:Zb3):Bool:=p.2.2.2.1|| !q.2.2.2.2.2.2.1
def ZhZ(n:Zat)(q:Za5)(x:Zaq):Int:=bif n.2.2.2.2.1.any fun p=>ZdI x p&&ZhN q p then 0 else bif n.2.2.2.2.1.any (ZdI x) then 29 else 18
theorem Zhc{α:Type}{l:List α}{i:Nat}(h:i<l.length)(f:α->Bool): (l.take (i+1)).any f=((l.take i).any f||f l[i]):=by rw[Vh h,List.any_append];simp
theorem Zvv{α:Type}{l:List α}{i:Nat}(h:i<l.length){f:α->Bool}(hf:f l[i]=true):l.any f=true:=Vja.2 ⟨_,Vf h,hf⟩
theorem Zok{n:Zat}(hp:n.2.2.2.2.1.length<=4096)(q:Za5)(x:Zaq):F103 n q x=some (ZhZ n q x):=by
 unfold F103;refine Zbk (fun r:Int ⊕ Int=>Vdc id id r=ZhZ n q x) ?_ ?_
 ·refine ZaL n.2.2.2.2.1.length _ (fun i (s:Int×Int)=>s=((bif (n.2.2.2.2.1.take i).any (ZdI x) then 29 else 18),(i:Int))/\((n.2.2.2.2.1.take i).any fun p=>ZdI x p&&ZhN q p)=false) ?_ ?_ _ ⟨rfl,rfl⟩
  ·rintro i _ hi ⟨rfl,ha⟩;simp only[Zav hi,cond_true,Zaf hi,bind_some,Zai hi (show _<=9223372036854775807 by omega)]
   have e1: (bif !decide ((n.2.2.2.2.1[i]).1=x.2.2.2.2.1) then some true else bif !decide ((n.2.2.2.2.1[i]).2.1=x.2.2.2.2.2.1) then some true else some !decide ((n.2.2.2.2.1[i]).2.2.1=Vc .i64 (x.2.2.2.2.2.2.2.1 - x.2.2.2.2.2.2.1)))=some (!ZdI x n.2.2.2.2.1[i]):=by
    unfold ZdI
    cases decide ((n.2.2.2.2.1[i]).1=x.2.2.2.2.1)<;>cases decide ((n.2.2.2.2.1[i]).2.1=x.2.2.2.2.2.1)<;>rfl
   have e2: (bif (n.2.2.2.2.1[i]).2.2.2.1 then some true else some !q.2.2.2.2.2.2.1)=some (ZhN q n.2.2.2.2.1[i]):=by
    unfold ZhN
    cases (n.2.2.2.2.1[i]).2.2.2.1<;>rfl
   rw[e1,e2];simp only[bind_some]
   cases hm:ZdI x n.2.2.2.2.1[i] with
   |false=>
    left;refine⟨_,rfl, ?_, ?_⟩
    ·rw[Zhc hi,hm,Bool.or_false]
    ·rw[Zhc hi,ha,hm];rfl
   |true=>
    cases hfr:ZhN q n.2.2.2.2.1[i] with
    |true=>
     right;refine⟨_,rfl, ?_⟩;unfold ZhZ;rw[Zvv hi (f:=fun p=>ZdI x p&&ZhN q p) (by rw[hm,hfr];rfl)]
     rfl
    |false=>
     left;refine⟨_,rfl, ?_, ?_⟩
     ·rw[Zhc hi,hm,Vya];rfl
     ·rw[Zhc hi,ha,hm,hfr];rfl
  ·rintro _ ⟨rfl,ha⟩;simp only[Zaw,cond_false];refine⟨_,rfl, ?_⟩;rw[Vq]at ha ⊢;unfold ZhZ;rw[ha];rfl
 ·rintro (r|r) hr
  ·exact congrArg some hr
  ·exact congrArg some hr
def ZhU(n:Zat)(q:Za5)(x:Zaq):Int:=
 bif !inR x.2.2.2.2.1 n.1.length|| !inR x.2.2.2.2.2.1 n.1.length then 9 else
 bif (bif x.1 then !ZaN n x else !decide (x.2.1=0) || (!decide (x.2.2.1=0) || (!decide (x.2.2.2.1=0) ||Za3 x))) then 9 else
 bif !decide (0<=x.2.2.2.2.2.2.1/\x.2.2.2.2.2.2.1<=3155932800) || !decide (0<=x.2.2.2.2.2.2.2.1/\x.2.2.2.2.2.2.2.1<=3155932800) then 10 else
 bif x.1 then ZjU n q x else ZhZ n q x
theorem ZhX{o:Option Bool}{c:Bool}{e:Int}{K:Option Int}{k:Int}(ho:o=some c)(h:c=false->K=some k): (Vb o fun x=>bif x then some e else K)=some (bif c then e else k):=by
 subst ho;cases c
 ·exact h rfl
 ·rfl
theorem ZvS{n:Zat}(hS:Zct n)(hp:n.2.2.2.2.1.length<=4096)(q:Za5)(x:Zaq):F97 n q x=some (ZhU n q x):=by
 have hk:n.1.length<=9223372036854775807:=by have:=hS.stops;omega
 unfold F97 ZhU;rw[ZfO _ hk,ZfO _ hk]
 refine ZhX (c:= !inR x.2.2.2.2.1 n.1.length|| !inR x.2.2.2.2.2.1 n.1.length) (by cases inR x.2.2.2.2.1 n.1.length<;>rfl) fun hst=> ?_
 rw[ZiR]
 refine ZhX (c:=bif x.1 then !ZaN n x else !decide (x.2.1=0) || (!decide (x.2.2.1=0) || (!decide (x.2.2.2.1=0) ||Za3 x))) ?_ fun hex=> ?_
 ·unfold Za3
  cases x.1 with
  |true=>cases ZaN n x<;>rfl
  |false=>cases decide (x.2.1=0)<;>cases decide (x.2.2.1=0)<;>cases decide (x.2.2.2.1=0)<;>rfl
 ·rw[ZgP,ZgP];refine ZhX (c:= !decide (0<=x.2.2.2.2.2.2.1/\x.2.2.2.2.2.2.1<=3155932800) || !decide (0<=x.2.2.2.2.2.2.2.1/\x.2.2.2.2.2.2.2.1<=3155932800)) ?_ fun _=> ?_
  ·simp only[bind_some]
   cases decide (0<=x.2.2.2.2.2.2.1/\x.2.2.2.2.2.2.1<=3155932800)<;>rfl
  ·cases hx1:x.1 with
   |false=>
    simp only[cond_false]
    rw[Zok hp];rfl
   |true=>
    rw[hx1]at hex;simp only[cond_true]at hex ⊢
    rw[Zux hS q (by simpa using hex) (by rw[Vp]at hst;simpa using hst.1)]
    rfl
def Zme(a b:Zaq)(stay:Bool)(l:Zlf):Bool:=decide (l.1=a.2.1) && (decide (l.2.1=a.2.2.2.1) && (decide (l.2.2.1=b.2.1) && (decide (l.2.2.2.1=b.2.2.1) && (l.2.2.2.2.1==stay))))
def Zgh(n:Zat)(a b:Zaq)(stay:Bool):Bool:=n.2.2.2.1.any (Zme a b stay)
theorem ZkM       {n : Zat }(hl : n.2.2.2.1.length <= 4096)(a b : Zaq )(stay : Bool) : F98 n a b stay = some (Zgh   n a b stay) := by
  unfold F98;refine Zbk     (fun r : Unit ⊕ Bool => Vdc (fun _ => false) id r = Zgh   n a b stay) ?_ ?_
  · unfold Zgh
    refine ZaL     n.2.2.2.1.length _ (fun i (s : Int) => s = (i : Int) /\ (n.2.2.2.1.take i).any (Zme   a b stay) = false) ?_ ?_ _ ⟨rfl, rfl⟩
    · rintro i _ hi ⟨rfl, ha⟩
      simp only [Zav    hi, cond_true, Zaf     hi, bind_some, Zai       hi (show _ <= 9223372036854775807 by omega)]
      have e1 : (bif decide ((n.2.2.2.1[i]).1 = a.2.1) then
 bif decide ((n.2.2.2.1[i]).2.1 = a.2.2.2.1) then
 bif decide ((n.2.2.2.1[i]).2.2.1 = b.2.1) then
 bif decide ((n.2.2.2.1[i]).2.2.2.1 = b.2.2.1) then some ((n.2.2.2.1[i]).2.2.2.2.1 == stay) else some false
 else some false
 else some false
 else some false) = some (Zme   a b stay n.2.2.2.1[i]) := by
        unfold Zme
        cases decide ((n.2.2.2.1[i]).1 = a.2.1) <;> cases decide ((n.2.2.2.1[i]).2.1 = a.2.2.2.1) <;> cases decide ((n.2.2.2.1[i]).2.2.1 = b.2.1) <;> cases decide ((n.2.2.2.1[i]).2.2.2.1 = b.2.2.1) <;> rfl
      erw [e1];simp only [bind_some]
      cases hm : Zme   a b stay n.2.2.2.1[i] with
      | false =>
        left;refine ⟨_, rfl, rfl, ?_⟩
        rw [Zhc      hi, ha, hm]; rfl
      | true =>
        right;refine ⟨_, rfl, ?_⟩;rw [Zvv    hi hm]; rfl
    · rintro _ ⟨rfl, ha⟩
      simp only [Zaw    , cond_false];refine ⟨_, rfl, ?_⟩;rw [Vq]at ha;rw [ha]; rfl
  · rintro (r | r) hr
    · exact congrArg some hr
    · exact congrArg some hr
def Zbj(n:Zat)(a b:Zaq):Int:=
 bif !decide (a.2.2.2.2.2.1=b.2.2.2.2.1) then 24 else
 bif !a.1&& !b.1 then 32 else
 bif Za3 b then(bif !a.1|| !Zgh n a b true then 19 else bif decide (b.2.2.2.2.2.2.1<a.2.2.2.2.2.2.2.1) then 10 else 0) else
 bif !b.1 then(bif !decide (b.2.2.2.2.2.2.1=a.2.2.2.2.2.2.2.1) then 10 else 0) else
 bif !a.1 then(bif decide (b.2.2.2.2.2.2.1<a.2.2.2.2.2.2.2.1) then 28 else 0) else
 bif decide (Vc .i64 (a.2.2.2.2.2.2.2.1+(Zcm n a.2.2.2.2.2.1).2.2.2.1)<=b.2.2.2.2.2.2.1) || (Zgh n a b false&&decide (a.2.2.2.2.2.2.2.1<=b.2.2.2.2.2.2.1)) then 0 else 28
theorem ZkJ{n:Zat}(hl:n.2.2.2.1.length<=4096){a b:Zaq}(ha:inR b.2.2.2.2.1 n.1.length=true):F94 n a b=some (Zbj n a b):=by
 unfold F94 Zbj;rw[ZkM hl,ZkM hl];by_cases h24:a.2.2.2.2.2.1=b.2.2.2.2.1
 case neg=>rw[decide_eq_false h24];rfl
 rw[decide_eq_true h24];simp only[Vi,cond_false,bind_some];refine Zgf ?_;unfold Za3
 cases b.2.2.2.2.2.2.2.2.1 with
 |true=>
  simp only[cond_true]
  exact Zol (by cases decide (b.2.2.2.2.2.2.1<a.2.2.2.2.2.2.2.1)<;>rfl)
 |false=>
  simp only[cond_false]
  cases b.1 with
  |false=>
   simp only[Vl,cond_true]
   cases decide (b.2.2.2.2.2.2.1=a.2.2.2.2.2.2.2.1)<;>rfl
  |true=>
   simp only[Vi,cond_false]
   cases a.1 with
   |false=>
    simp only[Vl,cond_true]
    cases decide (b.2.2.2.2.2.2.1<a.2.2.2.2.2.2.2.1)<;>rfl
   |true=>
    simp only[Vi,cond_false];have hi:idx n.1 a.2.2.2.2.2.1=some (Zcm n a.2.2.2.2.2.1):=by rw[h24];exact Za6 ha s0
    rw[hi];simp only[bind_some]
    cases decide (Vc .i64 (a.2.2.2.2.2.2.2.1+(Zcm n a.2.2.2.2.2.1).2.2.2.1)<=b.2.2.2.2.2.2.1)<;>cases Zgh n a b false<;>cases decide (a.2.2.2.2.2.2.2.1<=b.2.2.2.2.2.2.1)<;>rfl
def g0:Zaq:=(false,0,0,0,0,0,0,0,false,())
def lg(L:List Zaq)(i:Nat):Zaq:=(L[i]?).getD g0
def Zhd(n:Zat)(q:Za5)(L:List Zaq):Int:=
 bif !decide ((lg L 0).2.2.2.2.1=q.1) then 24 else
 bif Za3 (lg L 0) then 19 else
 bif !(lg L 0).1&& (decide (1<L.length) && ((lg L 1).1&& !decide ((lg L 1).2.2.2.2.2.2.1=(lg L 0).2.2.2.2.2.2.2.1))) then 10 else
 bif !(lg L 0).1&& (decide (L.length=1) && (bif q.2.2.2.1 then !decide ((lg L 0).2.2.2.2.2.2.2.1=q.2.2.1) else !decide ((lg L 0).2.2.2.2.2.2.1=q.2.2.1))) then 10 else
 bif !q.2.2.2.1&&decide ((lg L 0).2.2.2.2.2.2.1<q.2.2.1) then 10 else
 bif q.2.2.2.2.2.2.2.2.2.1&& ((lg L 0).1&&decide ((lg L 0).2.2.2.2.2.2.1<Vc .i64 (q.2.2.1+(Zcm n q.1).2.2.2.1))) then 28 else 0
theorem Zfd{L:List Zaq}{i:Nat}(h:i<L.length):idx L (i:Int)=some (lg L i):=by rw[Zaf h];unfold lg;rw[Zak h]
theorem Zqs{n:Zat}{q:Za5}{L:List Zaq}(h0:0<L.length)(hq:inR q.1 n.1.length=true):F93 n q (L,())=some (Zhd n q L):=by
 unfold F93 Zhd;have e0:idx (L,()).1 (0:Int)=some (lg L 0):=Zfd h0;rw[e0];simp only[bind_some];refine ZfL (Zew (c:=Za3 (lg L 0)) rfl ?_ : (Vb (some _) fun _=>_)=_)
 refine Zew (c:= !(lg L 0).1&& (decide (1<L.length) && ((lg L 1).1&& !decide ((lg L 1).2.2.2.2.2.2.1=(lg L 0).2.2.2.2.2.2.2.1)))) ?_ (Zew (c:= !(lg L 0).1&& (decide (L.length=1) && (bif q.2.2.2.1 then !decide ((lg L 0).2.2.2.2.2.2.2.1=q.2.2.1) else !decide ((lg L 0).2.2.2.2.2.2.1=q.2.2.1)))) ?_ (Zgf (Zew (c:=q.2.2.2.2.2.2.2.2.2.1&& ((lg L 0).1&&decide ((lg L 0).2.2.2.2.2.2.1<Vc .i64 (q.2.2.1+(Zcm n q.1).2.2.2.1)))) ?_ rfl)))
 ·by_cases h1:1<L.length
  ·have e1:idx L (1:Int)=some (lg L 1):=Zfd h1;rw[decide_eq_true (show (1:Int)< (L.length:Int) by omega),decide_eq_true h1,e1];simp only[bind_some]
   cases (lg L 0).1<;>cases (lg L 1).1<;>rfl
  ·rw[decide_eq_false (show¬ (1:Int)< (L.length:Int) by omega),decide_eq_false h1]
   cases (lg L 0).1<;>rfl
 ·rw[show decide ((L.length:Int)=1)=decide (L.length=1) from decide_eq_decide.2 (by omega)]
  cases (lg L 0).1<;>cases decide (L.length=1)<;>cases q.2.2.2.1<;>cases decide ((lg L 0).2.2.2.2.2.2.2.1=q.2.2.1)<;>cases decide ((lg L 0).2.2.2.2.2.2.1=q.2.2.1)<;>rfl
 ·rw[show idx n.1 q.1=some (Zcm n q.1) from Za6 hq s0];simp only[bind_some]
  cases q.2.2.2.2.2.2.2.2.2.1<;>cases (lg L 0).1<;>rfl
end Q
namespace Q
open Tr Go
open Option (bind_some)
def ZnZ(L:List Zaq)(i:Nat):Bool:=decide (0<i) && (lg L (i - 1)).1
theorem Zq3{n:Zat}(h:Zct n)(hv:F63 n=some true)(L:List Zaq)(hj:L.length<=1000):F77 n (L,())=some (Zbu n L false []):=by
 unfold F77;rw[hv];simp only[bind_some,Vi,cond_false];refine Zbk (fun r=>Zbu n L false []=Vdc (fun l:List ZdA=>(l,(0:Int))) (fun y=>y) r) ?_ ?_
 ·refine ZaL L.length _ (fun i (s:List ZdA×Int)=> ∃l,s=(l,(i:Int))/\l.length<=i/\(ZnZ L i=true->0<l.length)/\Zbu n L false []=Zbu n (L.drop i) (ZnZ L i) l) ?_ ?_ _ ⟨[],rfl,by simp,fun e=>(nomatch e),rfl⟩
  ·rintro i _ hi ⟨l,rfl,hl,hw,hgo⟩;have hil:L.length<=9223372036854775807:=by omega
   rw[Vqa hi]at hgo
   have hnx:ZnZ L (i+1)=(L[i]).1:=by unfold ZnZ lg;rw[Nat.add_sub_cancel,Zak hi,decide_eq_true (Vpb i)];rfl
   have hro: (bif !(L[i]).1 then some true else bif decide ((i:Int)=(0:Int)) then some true else Vb (idx L (Vc .i64 ((i:Int) - (1:Int)))) fun x5=>some !x5.1)=some (!((L[i]).1&&ZnZ L i)):=by
    cases (L[i]).1 with
    |false=>rfl
    |true=>
     unfold ZnZ;by_cases h0:i=0
     ·subst h0;rfl
     ·rw[decide_eq_false (show¬ ((i:Int)=0) by omega),decide_eq_true (show 0<i by omega)];have e:Vc .i64 ((i:Int) - 1)=((i - 1:Nat):Int):=by rw[Zae (by omega) (by omega)];omega
      rw[e,Zfd (show i - 1<L.length by omega)];rfl
   simp only[Zav hi,cond_true,Zaf hi,bind_some,Zai hi hil,ZiR];rw[hro];generalize L[i]=x at*;rw[ZcP]at hgo;generalize ZnZ L i=w at*
   cases hx1:x.1 with
   |false=>
    rw[hx1]at hgo hnx;simp only[cond_false,bind_some,Vl,cond_true]
    cases hs:Za3 x with
    |true=>
     right;rw[hs]at hgo;unfold Za3 at hs;rw[hs];refine⟨_,rfl, ?_⟩
     rw[hgo];simp
    |false=>
     left;rw[hs]at hgo;unfold Za3 at hs;rw[hs];refine⟨_,rfl,l,rfl,by omega,fun e=>(by rw[hnx]at e;cases e), ?_⟩
     rw[hgo,hnx];simp
   |true=>
    rw[hx1]at hgo hnx;simp only[cond_true,bind_some,Vi,cond_false,Vm]
    cases hx:ZaN n x with
    |false=>
     right;rw[hx]at hgo;refine⟨_,rfl, ?_⟩
     rw[hgo];simp
    |true=>
     rw[hx]at hgo;obtain⟨e1,e2,e3,e4⟩:=ZtW h hx;have ez:=Zqj h hx;simp only[Vi,cond_false]
     cases hs:Za3 x with
     |false=>
      left;rw[hs]at hgo;have hs' :=hs;unfold Za3 at hs';rw[hs'];simp only[cond_false,bind_some];rw[e1];simp only[bind_some];rw[e2];simp only[bind_some];rw[ZnT e3 e4,ez];simp only[bind_some];rw[ZaQ (by simp;omega)];refine⟨_,rfl,l++[ZfF n x],rfl,by simp;omega,fun _=>by simp, ?_⟩
      rw[hgo,hnx];simp
     |true=>
      rw[hs]at hgo;have hs' :=hs;unfold Za3 at hs';rw[hs'];simp only[cond_true,bind_some]
      cases w with
      |false=>
       right;refine⟨_,rfl, ?_⟩
       rw[hgo];simp
      |true=>
       left;have hpos:=hw rfl;obtain⟨v,hv⟩: ∃v,l[l.length - 1]? =some v:=⟨_,Va (by omega)⟩;simp only[Vi,cond_false];rw[e1];simp only[bind_some];rw[e2];simp only[bind_some];rw[ZnT e3 e4,ez];have hb:=Zul (k:=l.length) hpos (by omega);simp only[bind_some,Vv];rw[hb];simp only[bind_some,hv,Zn5 (show l.length - 1<l.length by omega)];rw[Zn5 (by rw[Vv];omega)];simp only[bind_some,Voa];have ea:Zc2 n x l=ZhH n x l v:=by unfold Zc2;rw[hv]
       refine⟨_,rfl,ZhH n x l v,rfl,by rw[<-ea,ZgX];omega,fun _=>by rw[<-ea,ZgX];exact hpos, ?_⟩;rw[hgo, <-ea,hnx];simp
  ·rintro _ ⟨l,rfl,hl,hw,hgo⟩;simp only[Zaw,cond_false];refine⟨_,rfl, ?_⟩;rw[hgo,List.drop_length];rfl
 ·rintro r hr;rw[hr]
  cases r<;>rfl
theorem Zsb(z:Int): ∃r,F80 z=some r:=by
 unfold F80
 suffices h: ∃r,run _ ((0:Int),(0:Int))=some r/\True by obtain⟨r,h,_⟩:=h;exact⟨r,by rw[h];rfl⟩
 refine ZaL 62 (fun _=>True) (fun i (s:Int×Int)=>s.2=(i:Int)) ?_ ?_ _ rfl
 ·rintro i ⟨a,b⟩ hi hb;left;simp only at hb;subst hb;have w2:Vc .i64 ((i:Int)+1)=((i+1:Nat):Int):=by rw[Zae (by omega) (by omega)];omega
  have hs: ∃y,ZqT .i64 z (i:Int)=some y:=by unfold ZqT;rw[if_neg (by omega)];exact⟨_,rfl⟩
  obtain⟨y,hy⟩:=hs;simp only[decide_eq_true (show (i:Int)<62 by omega),cond_true,hy,bind_some,w2]
  cases decide (Zos .i64 y 1=1) with
  |true=>exact⟨_,rfl,rfl⟩
  |false=>exact⟨_,rfl,rfl⟩
 ·rintro ⟨a,b⟩ hb;simp only at hb;subst hb;exact⟨_,rfl,trivial⟩
theorem Zid(a b d:Int): ∃r,F81 a b d=some r:=by
 unfold F81
 cases decide (b<=a)<;>exact⟨_,rfl⟩
theorem Zjk(p:Zjw){l:List ZdA}{i k:Nat}(hik:i<=k)(hk:k<l.length)(hl:l.length<=100): ∃r,F74 p l (i:Int) (k:Int)=some r:=by
 unfold F74
 suffices h: ∃r,run _ ((0:Int),(0:Int),(i:Int))=some r/\True by
  obtain⟨r,h,_⟩:=h;rw[h];simp only[bind_some];obtain⟨b,hb⟩:=Zsb r.1;obtain⟨c,hc⟩:=Zid (l[i]).1 (l[k]).1 p.2.2.2.2.1;rw[hb];simp only[bind_some,Zaf (show i<l.length by omega),Zaf hk,hc]
  cases decide (Vc .i64 (Vc .i64 ((k:Int) - (i:Int))+1)<=p.2.2.1)<;>cases decide (b<=p.2.2.2.1)<;>cases c<;>exact⟨_,rfl⟩
 refine ZaL (k+1 - i) (fun _=>True) (fun c (t:Int×Int×Int)=>t.2.2=((i+c:Nat):Int)) ?_ ?_ _ rfl
 ·rintro c ⟨a,b,d⟩ hc hd;left;simp only at hd;subst hd;have e1:Vc .i64 (((i+c:Nat):Int)+1)=((i+(c+1):Nat):Int):=by rw[Zae (by omega) (by omega)];omega
  simp only[decide_eq_true (show ((i+c:Nat):Int)<=(k:Int) by omega),cond_true,Zaf (show i+c<l.length by omega),bind_some,e1];exact⟨_,rfl,rfl⟩
 ·rintro ⟨a,b,d⟩ hd;simp only at hd;subst hd;rw[decide_eq_false (show¬ ((i+(k+1 - i):Nat):Int)<=(k:Int) by omega)];exact⟨_,rfl,trivial⟩
theorem Zja(F:Zfo)(p:Zjw){l:List ZdA}{i:Nat}(hi:i<l.length)(hl:l.length<=100): ∃r,F78 F p l (i:Int)=some r:=by
 unfold F78;by_cases h0:0<i
 ·have e:Vc .i64 ((i:Int) - 1)=((i - 1:Nat):Int):=by rw[Zae (by omega) (by omega)];omega
  obtain⟨c,hc⟩:=Zid (l[i - 1]).2.1 (l[i]).1 F.2.2.1;rw[decide_eq_true (show (0:Int)< (i:Int) by omega),e];simp only[cond_true,Zaf (show i - 1<l.length by omega),Zaf hi,bind_some,hc]
  cases c<;>exact⟨_,rfl⟩
 ·rw[decide_eq_false (show¬ (0:Int)< (i:Int) by omega)];exact⟨_,rfl⟩
abbrev TkT:=Int×Int×Int×Int×Unit
abbrev ZdR:=Bool×Int×List TkT×Unit
def ZgG(n:Nat)(T:List ZdR):Prop:=T.length=n+1/\ ∀j r,T[j]? =some r->r.2.2.1.length+j<=n
theorem ZgG.get{n:Nat}{T:List ZdR}(h:ZgG n T){j:Nat}(hj:j<=n): ∃r,T[j]? =some r/\r.2.2.1.length+j<=n:=by have hl:=h.1;exact⟨_,Va (show j<T.length by omega),h.2 _ _ (Va (show j<T.length by omega))⟩
theorem ZgG.put{n:Nat}{T:List ZdR}(h:ZgG n T){i:Nat}{r:ZdR}(hr:r.2.2.1.length+i<=n):ZgG n (T.set i r):=by
 refine⟨by rw[Vv];exact h.1,fun j s hs=> ?_⟩;by_cases hij:i=j
 ·subst hij;by_cases hi:i<T.length
  ·rw[Vn hi]at hs;obtain rfl:=Option.some.inj hs;exact hr
  ·rw[Vka (by rw[Vv];omega)]at hs;cases hs
 ·rw[Vca hij]at hs;exact h.2 j s hs
theorem Zf4{β σ τ:Type}{o:Option β}{f:β->Option (σ ⊕ τ)}{Q:σ->Prop}(P:β->Prop)(h: ∃r,o=some r/\P r)(k: ∀r,P r-> ∃s,f r=some (.inl s)/\Q s): ∃s,Vb o f=some (.inl s)/\Q s:=by obtain⟨r,rfl,hr⟩:=h;exact k r hr
theorem Zq6(F:Zfo)(hF:F.1.length<=4096)(l:List ZdA)(hl:l.length<=8): ∃R,F76 F l=some R:=by
 unfold F76;have w0:Vc .i64 ((l.length:Int)+1)=((l.length+1:Nat):Int):=by rw[Zae (by omega) (by omega)];omega
 have hg:Zan (decide ((0:Int)<=((l.length+1:Nat):Int)/\((l.length+1:Nat):Int)<=((l.length+1:Nat):Int)/\((l.length+1:Nat):Int)<=(Zam:Int)))=some ():=by
  have hm: (Zam:Int)=549755813888:=by simp [Zam]
  rw[decide_eq_true (by rw[hm];omega)];rfl
 have hrep: ∀o:List ZdR,o=Vj (l.length+1) (false,0,[],())->inb (l.length:Int) o.length=some l.length/\o[l.length]? =some (false,0,[],()):=by rintro o rfl;exact⟨ZaB (by simp),by rw[Vab,if_pos (by omega)]⟩
 obtain⟨r1,r2⟩:=hrep _ rfl;rw[w0];erw[hg];simp only[bind_some,Ve];erw[r1];simp only[bind_some];erw[r2];simp only[bind_some]
 have key: ∀ (o:Option (List ZdR)) (k:List ZdR->Option (Int×List TkT×Bool)),(∃T,o=some T/\ZgG l.length T)->(∀T,ZgG l.length T-> ∃R,k T=some R)-> ∃R,Vb o k=some R:=by rintro o k ⟨T,rfl,h⟩ hk;exact hk T h
 refine key _ _ (ZaL l.length _ (fun c (s:List ZdR×Int)=> ∃T,s=(T,(l.length:Int) - 1 - (c:Int))/\ZgG l.length T) ?_ ?_ _ ?_) ?_
 ·rintro c _ hc ⟨T,rfl,hT⟩;left;obtain⟨i,hi⟩: ∃i:Nat,(l.length:Int) - 1 - (c:Int)=(i:Int):=⟨l.length - 1 - c,by omega⟩;have hil:i<l.length:=by omega
  rw[hi];rw[decide_eq_true (show (0:Int)<=(i:Int) by omega)];simp only[cond_true];refine Zf4 (fun T' =>ZgG l.length T') ?_ ?_
  ·refine ZaL (l.length - i) _ (fun m (s:List ZdR×Int)=> ∃T,s=(T,((i+m:Nat):Int))/\ZgG l.length T) ?_ ?_ _ ⟨T,rfl,hT⟩
   ·rintro m _ hm ⟨T,rfl,hT⟩;left;have hk:i+m<l.length:=by omega
    have e1:Vc .i64 (((i+m:Nat):Int)+1)=((i+m+1:Nat):Int):=by rw[Zae (by omega) (by omega)];omega
    have hTl:=hT.1;have hbk:inb ((i+m+1:Nat):Int) T.length=some (i+m+1):=ZaB (by omega);obtain⟨r,hr,hcr⟩:=hT.get (show i+m+1<=l.length by omega);simp only[Zav hk,cond_true,e1,hbk,hr,bind_some]
    cases r.1 with
    |false=>exact⟨_,rfl,T,rfl,hT⟩
    |true=>
     simp only[Vi,cond_false];refine Zf4 (fun T' =>ZgG l.length T') ?_ ?_
     ·refine ZaL F.1.length _ (fun p (s:List ZdR×Int)=> ∃T,s=(T,(p:Int))/\ZgG l.length T) ?_ ?_ _ ⟨T,rfl,hT⟩
      ·rintro p _ hp ⟨T,rfl,hT⟩;left;have e2:Vc .i64 ((p:Int)+1)=((p+1:Nat):Int):=by rw[Zae (by omega) (by omega)];omega
       have hTl:=hT.1;have hbk:inb ((i+m+1:Nat):Int) T.length=some (i+m+1):=ZaB (by omega);have hbi:inb (i:Int) T.length=some i:=ZaB (by omega);obtain⟨rk,hrk,hck⟩:=hT.get (show i+m+1<=l.length by omega);obtain⟨ri,hri,hci⟩:=hT.get (show i<=l.length by omega);obtain⟨cv,hcv⟩:=Zjk F.1[p] (show i<=i+m by omega) hk (by omega);obtain⟨pr,hpr⟩:=Zja F F.1[p] hil (by omega);simp only[Zav hp,cond_true,Zaf hp,bind_some,hcv,hpr,hbk,hbi,hrk,hri,e2]
       cases cv with
       |false=>exact⟨_,rfl,T,rfl,hT⟩
       |true=>
        simp only[Vi,cond_false];refine Zf4 (fun _=>True) ?_ fun b _=> ?_
        ·cases ri.1 with
         |false=>exact⟨_,rfl,trivial⟩
         |true=>
          simp only[cond_true]
          cases decide (ri.2.1<Vc .i64 (pr+rk.2.1)) with
          |true=>exact⟨_,rfl,trivial⟩
          |false=>
           simp only[cond_false]
           cases decide (Vc .i64 (pr+rk.2.1)=ri.2.1)<;>exact⟨_,rfl,trivial⟩
        ·cases b with
         |true=>exact⟨_,rfl,T,rfl,hT⟩
         |false=>
          simp only[cond_false]
          have hgd:Zan (decide (Vg [((p:Int),(i:Int),((i+m:Nat):Int),pr,())]+Vg rk.2.2.1<=Zam))=some ():=by rw[decide_eq_true (by simp only[Vda,Vfa,Zam];omega)];rfl
          rw[hgd];simp only[bind_some];exact⟨_,rfl,_,rfl,hT.put (by simp only[Vha,Vda,Vfa];omega)⟩
      ·rintro _ ⟨T,rfl,hT⟩;simp only[Zaw,cond_false];exact⟨_,rfl,hT⟩
     ·intro T' hT';exact⟨_,rfl,T',rfl,hT'⟩
   ·rintro _ ⟨T,rfl,hT⟩;rw[show i+(l.length - i)=l.length by omega];simp only[Zaw,cond_false];exact⟨_,rfl,hT⟩
  ·intro T' hT';have e1:Vc .i64 ((i:Int) - 1)=(l.length:Int) - 1 - ((c+1:Nat):Int):=by rw[Zae (by omega) (by omega)];omega
   rw[e1];exact⟨_,rfl,T',rfl,hT'⟩
 ·rintro _ ⟨T,rfl,hT⟩;rw[decide_eq_false (show¬ (0:Int)<=(l.length:Int) - 1 - (l.length:Int) by omega)];exact⟨_,rfl,hT⟩
 ·refine⟨(Vj (l.length+1) ((false,0,[],()):ZdR)).set l.length (true,0,[],()), ?_,ZgG.put ⟨by simp,fun j r hr=> ?_⟩ (by simp)⟩
  ·rw[Zae (by omega) (by omega)];simp only[Int.natCast_zero,Int.sub_zero]
  ·rw[Vab]at hr;split at hr
   ·obtain rfl:=Option.some.inj hr;simp;omega
   ·cases hr
 ·intro T hT;obtain⟨r,hr,_⟩:=hT.get (Vla _);have hb:inb (0:Int) T.length=some 0:=ZaB (i:=0) (by rw[hT.1];omega);simp only[hb,bind_some,hr];exact⟨_,rfl⟩
end Q
namespace Q
open Tr Go
open Option (bind_some)
def ZsQ(x:Zaq):Bool:= !x.1&& (decide (0<=x.2.2.2.2.2.2.1) && (decide (x.2.2.2.2.2.2.1<=x.2.2.2.2.2.2.2.1) &&decide (Vc .i64 (x.2.2.2.2.2.2.2.1 - x.2.2.2.2.2.2.1)<=14400)))
def ZjS(s:Int)(x:Zaq):Int:=bif ZsQ x then Vc .i64 (Vc .i64 (s+x.2.2.2.2.2.2.2.1) - x.2.2.2.2.2.2.1) else s
def ZeT(L:List Zaq):Int:=L.foldl ZjS 0
theorem Zg3      (L : List Zaq )(hj : L.length <= 1000) : F79 (L, ()) = some (ZeT   L) := by
  unfold F79;refine Zbk     (fun r => r = ZeT   L) ?_ (fun r hr => by rw [hr]);refine ZaL     L.length _ (fun i (s : Int × Int) => s = ((L.take i).foldl ZjS   0, (i : Int))) ?_ ?_ _ rfl
  · rintro i _ hi rfl
    left
    have e1 : (bif !(L[i]).1 then
 bif decide ((0 : Int) <= (L[i]).2.2.2.2.2.2.1) then
 bif decide ((L[i]).2.2.2.2.2.2.1 <= (L[i]).2.2.2.2.2.2.2.1) then
 some (decide (Vc .i64 ((L[i]).2.2.2.2.2.2.2.1 - (L[i]).2.2.2.2.2.2.1) <= (14400 : Int)))
 else some false
 else some false
 else some false) = some (ZsQ   L[i]) := by
      unfold ZsQ
      cases (L[i]).1 <;> cases decide ((0 : Int) <= (L[i]).2.2.2.2.2.2.1) <;> cases decide ((L[i]).2.2.2.2.2.2.1 <= (L[i]).2.2.2.2.2.2.2.1) <;> rfl
    have e2 : (L.take (i + 1)).foldl ZjS   0 = ZjS   ((L.take i).foldl ZjS   0) L[i] := by rw [Vh hi, Vta]; rfl
    simp only [Zav    hi, cond_true, Zaf     hi, bind_some, Zai       hi (show _ <= 9223372036854775807 by omega)];rw [e1, e2];unfold ZjS
    cases ZsQ   L[i] <;> exact ⟨_, rfl, rfl⟩
  · rintro _ rfl
    simp only [Zaw    , cond_false];exact ⟨_, rfl, by rw [Vq]; rfl⟩
def ZeB(x:Zaq):Bool:=x.1&& !Za3 x
def Zal(L:List Zaq):Nat:=(L.filter ZeB).length
noncomputable def ZtB(F:Zfo)(l:List ZdA):Int:=match F76 F l with
 |some r=>bif r.2.2 then 0 else 34
 |none=>0
noncomputable def ZsO(n:Zat)(L:List Zaq):Int:=
 bif !decide ((Zbu n L false []).2=0) then(Zbu n L false []).2 else
 bif decide (8< (Zbu n L false []).1.length) then 33 else ZtB n.2.2.2.2.2.1 (Zbu n L false []).1
theorem Zmd(F:Zfo)(s:Int): ∃r,F72 F s=some r:=by
 unfold F72
 cases decide ((0:Int)<F.2.2.2.1)<;>exact⟨_,rfl⟩
theorem ZrY{n:Zat}(h:Zct n)(hv:F63 n=some true)(hF:n.2.2.2.2.2.1.1.length<=4096)(q:Za5)(L:List Zaq)(hj:L.length<=1000): ∃c,F73 n q (L,())=some c/\c.2.2=ZsO n L:=by
 unfold F73 ZsO;rw[Zq3 h hv L hj];simp only[bind_some];generalize Zbu n L false []=R;by_cases h0:R.2=0
 case neg=>rw[decide_eq_false h0];exact⟨_,rfl,rfl⟩
 rw[decide_eq_true h0];simp only[Vi,cond_false];by_cases h8:8<R.1.length
 ·rw[decide_eq_true (show (8:Int)< (R.1.length:Int) by omega),decide_eq_true h8];exact⟨_,rfl,rfl⟩
 rw[decide_eq_false (show¬ (8:Int)< (R.1.length:Int) by omega),decide_eq_false h8];simp only[cond_false];obtain⟨p,hp⟩:=Zq6 n.2.2.2.2.2.1 hF R.1 (by omega);unfold ZtB;rw[hp];simp only[bind_some]
 cases p.2.2 with
 |false=>exact⟨_,rfl,rfl⟩
 |true=>
  simp only[Vi,cond_false,cond_true];obtain⟨c,hc⟩:=Zmd n.2.2.2.2.2.1 p.1;rw[hc,Zg3 L hj];simp only[bind_some];by_cases hL:0<L.length
  ·have e:Vc .i64 ((L.length:Int) - 1)=((L.length - 1:Nat):Int):=by rw[Zae (by omega) (by omega)];omega
   have i0:idx L (0:Int)=some (lg L 0):=Zfd hL;rw[decide_eq_true (show (0:Int)< (L.length:Int) by omega),e,i0,Zfd (show L.length - 1<L.length by omega)];exact⟨_,rfl,rfl⟩
  ·rw[decide_eq_false (show¬ (0:Int)< (L.length:Int) by omega)];exact⟨_,rfl,rfl⟩
def Zgi(L:List Zaq)(i:Nat):Bool:=(lg L i).1&& (decide (i+1=L.length) || !Za3 (lg L (i+1)))
def ZbZ(n:Zat)(q:Za5)(x:Zaq):Int:=bif !(cl (ZaY n x) x.2.2.2.1).2.2.2.2.1 then 26 else bif !ZkQ n q x.2.2.2.2.2.1 then 29 else 0
def ZjH(n:Zat)(q:Za5)(L:List Zaq)(i:Nat):Int:=bif decide (i=0) then Zhd n q L else Zbj n (lg L (i - 1)) (lg L i)
def atE(n:Zat)(q:Za5)(L:List Zaq)(i:Nat):Int:=
 bif !decide (ZhU n q (lg L i)=0) then ZhU n q (lg L i) else
 bif !decide (ZjH n q L i=0) then ZjH n q L i else
 bif Zgi L i then ZbZ n q (lg L i) else 0
theorem ZiH{n:Zat}{q:Za5}{x:Zaq}(h:ZhU n q x=0):inR x.2.2.2.2.1 n.1.length=true/\inR x.2.2.2.2.2.1 n.1.length=true/\(x.1=true->ZaN n x=true/\ZjU n q x=0)/\(x.1=false->ZhZ n q x=0):=by
 unfold ZhU at h;rw[Zas (by omega),Zas (by omega),Zas (by omega)]at h;obtain⟨h1,h2,_,h3⟩:=h;rw[Vp]at h1;refine⟨by simpa using h1.1,by simpa using h1.2,fun e=> ?_,fun e=> ?_⟩
 ·rw[e]at h2 h3;exact⟨by simpa using h2,h3⟩
 ·rw[e]at h3;exact h3
theorem Zmv{n:Zat}(hS:Zct n)(hp:n.2.2.2.2.1.length<=4096){q:Za5}(hq:inR q.1 n.1.length=true){L:List Zaq}{i:Nat}(hi:i<L.length)(hj:L.length<=1000):F90 n q (L,()) (i:Int)=some (atE n q L i):=by
 unfold F90 atE;rw[show idx (L,()).1 (i:Int)=some (lg L i) from Zfd hi];simp only[bind_some];rw[ZvS hS hp q];simp only[bind_some];by_cases h0:ZhU n q (lg L i)=0
 case neg=>rw[decide_eq_false h0];rfl
 rw[decide_eq_true h0];simp only[Vi,cond_false];obtain⟨z1,z2,z3,z4⟩:=ZiH h0
 have e1: (bif decide ((i:Int)=(0:Int)) then Vb (F93 n q (L,())) fun x2=>some x2
 else Vb (idx L (Vc .i64 ((i:Int) - (1:Int)))) fun x3=>Vb (F94 n x3 (lg L i)) fun x4=>some x4)=some (ZjH n q L i):=by
  unfold ZjH;by_cases hi0:i=0
  ·subst hi0;rw[Zqs hi hq];rfl
  ·have e:Vc .i64 ((i:Int) - 1)=((i - 1:Nat):Int):=by rw[Zae (by omega) (by omega)];omega
   rw[decide_eq_false (show¬ (i:Int)=0 by omega),decide_eq_false hi0,e,Zfd (show i - 1<L.length by omega)];simp only[cond_false,bind_some];rw[ZkJ (by have:=hS.links;omega) z1];rfl
 rw[e1];simp only[bind_some];refine ZfL ?_;have w2:Vc .i64 ((i:Int)+1)=((i+1:Nat):Int):=by rw[Zae (by omega) (by omega)];omega
 rw[w2]
 have e2: (bif (lg L i).1 then bif decide (((i+1:Nat):Int)=(↑(Vg L):Int)) then some true
 else Vb (idx L ((i+1:Nat):Int)) fun x6=>some !x6.2.2.2.2.2.2.2.2.1
 else some false)=some (Zgi L i):=by
  unfold Zgi;rw[show decide (((i+1:Nat):Int)=(L.length:Int))=decide (i+1=L.length) from decide_eq_decide.2 (by omega)];by_cases h1:i+1=L.length
  ·rw[decide_eq_true h1]
   cases (lg L i).1<;>rfl
  ·rw[decide_eq_false h1,Zfd (show i+1<L.length by omega)]
   cases (lg L i).1<;>rfl
 rw[e2];simp only[bind_some]
 cases htl:Zgi L i with
 |false=>rfl
 |true=>
  have hr: (lg L i).1=true:=by unfold Zgi at htl;rw[Vd]at htl;exact htl.1
  obtain⟨x1,_,_,x4⟩:=Zm8 (z3 hr).1;simp only[cond_true];rw[x1];simp only[bind_some];rw[x4];simp only[bind_some];rw[Zl4 q z2];unfold ZbZ
  cases (cl (ZaY n (lg L i)) (lg L i).2.2.2.1).2.2.2.2.1<;>cases ZkQ n q (lg L i).2.2.2.2.2.1<;>rfl
noncomputable def ZrH(n:Zat)(q:Za5)(L:List Zaq):Int:=
 bif !decide ((lg L (L.length - 1)).2.2.2.2.2.1=q.2.1) then 24 else
 bif q.2.2.2.1&&decide (q.2.2.1< (lg L (L.length - 1)).2.2.2.2.2.2.2.1) then 10 else
 bif decide (q.2.2.2.2.1< (Zal L:Int)) then 33 else
 bif decide (q.2.2.2.2.2.1<ZeT L) then 32 else ZsO n L
theorem Zv0{n:Zat}(hS:Zct n)(hv:F63 n=some true)(hF:n.2.2.2.2.2.1.1.length<=4096)(q:Za5){L:List Zaq}(h0:0<L.length)(hj:L.length<=1000):F91 n q (L,())=some (ZrH n q L):=by
 unfold F91 ZrH;have e:Vc .i64 ((L.length:Int) - 1)=((L.length - 1:Nat):Int):=by rw[Zae (by omega) (by omega)];omega
 simp only[e,Zfd (show L.length - 1<L.length by omega),bind_some];refine ZfL (Zgf ?_);refine Zbk (fun r=>r=(Zal L:Int)) ?_ ?_
 ·refine ZaL L.length _ (fun i (s:Int×Int)=>s=((Zal (L.take i):Int),(i:Int))) ?_ ?_ _ rfl
  ·rintro i _ hi rfl;left
   have hb:Zal (L.take i)<=L.length:=by unfold Zal;exact Vs (Vz _ _) (by rw[Vt];omega)
   have e1: (bif (L[i]).1 then some !(L[i]).2.2.2.2.2.2.2.2.1 else some false)=some (ZeB L[i]):=by
    unfold ZeB Za3
    cases (L[i]).1<;>rfl
   have e2:Zal (L.take (i+1))=Zal (L.take i)+(if ZeB L[i] then 1 else 0):=by
    unfold Zal;rw[Vh hi,Vga,Vha]
    cases hr:ZeB L[i]<;>simp [hr]
   have w3:Vc .i64 ((Zal (L.take i):Int)+1)=((Zal (L.take i)+1:Nat):Int):=by rw[Zae (by omega) (by omega)];omega
   simp only[Zav hi,cond_true,Zaf hi,bind_some,Zai hi (show _<=9223372036854775807 by omega),w3];rw[e1,e2]
   cases ZeB L[i]<;>exact⟨_,rfl,rfl⟩
  ·rintro _ rfl;simp only[Zaw,cond_false];exact⟨_,rfl,by rw[Vq]⟩
 ·rintro _ rfl;refine ZfL ?_;rw[Zg3 L hj];simp only[bind_some];refine ZfL ?_;obtain⟨c,h1,h2⟩:=ZrY hS hv hF q L hj;rw[h1];exact congrArg some h2
noncomputable def ZbF(n:Zat)(q:Za5)(L:List Zaq):Int×Int:=
 bif !decide (Zkl n q=0) then(0,Zkl n q) else
 bif decide (L.length=0) then(bif !decide (q.1=q.2.1) then(0,24) else(0,0)) else
 match Zay L.length (atE n q L) with
 |some i=>((i:Int),atE n q L i)
 |none=>bif !decide (ZrH n q L=0) then(((L.length - 1:Nat):Int),ZrH n q L) else(0,0)
open Classical in
theorem ZqW{n:Zat}(hf:Fit n)(hF:n.2.2.2.2.2.1.1.length<=4096)(q:Za5)(L:List Zaq)(hj:L.length<=1000):F84 n q (L,())=some (ZbF n q L):=by
 unfold F84 ZbF;rw[ZuA hf q];simp only[bind_some];by_cases h0:Zkl n q=0
 case neg=>rw[decide_eq_false h0];rfl
 obtain⟨hW,hq⟩:=ZfD.1 h0;have hS:=hW.sound;have hv:F63 n=some true:=by rw[Zgz hf,decide_eq_true hW]
 have hq1:inR q.1 n.1.length=true:=by unfold qB at hq;rw[Vd]at hq;exact hq.1
 rw[decide_eq_true h0];simp only[Vi,cond_false];by_cases hL:L.length=0
 ·rw[decide_eq_true (show (L.length:Int)=0 by omega),decide_eq_true hL]
  cases decide (q.1=q.2.1)<;>rfl
 rw[decide_eq_false (show¬ (L.length:Int)=0 by omega),decide_eq_false hL];simp only[cond_false];rw[Zba (n:=L.length) (fun i (s:Int)=>s=(i:Int)) (atE n q L) (fun i=> .inr ((i:Int),atE n q L i)) (.inl ()) ?_ ?_ ?_ (0:Int) rfl]
 ·unfold pick
  cases Zay L.length (atE n q L) with
  |some i=>rfl
  |none=>
   simp only[bind_some];show (Vb (F91 n q (L,())) _)=_;rw[Zv0 hS hv hF q (by omega) hj];have e:Vc .i64 ((L.length:Int) - 1)=((L.length - 1:Nat):Int):=by rw[Zae (by omega) (by omega)];omega
   rw[e];simp only[bind_some]
   cases decide (ZrH n q L=0)<;>rfl
 ·rintro i _ hi rfl hc;refine⟨((i+1:Nat):Int), ?_,rfl⟩;simp only[Zav hi,cond_true,Zai hi (show _<=9223372036854775807 by omega)];rw[Zmv hS hf.paths hq1 hi hj];simp only[bind_some];rw[hc];rfl
 ·rintro i _ hi rfl hc;simp only[Zav hi,cond_true];rw[Zmv hS hf.paths hq1 hi hj];simp only[bind_some];rw[decide_eq_false hc];rfl
 ·rintro _ rfl;simp only[Zaw,cond_false]
open Classical in
theorem ZeK(n:Zat)(q:Za5)(L:List Zaq): (ZbF n q L).2=0↔Zkl n q=0/\((L.length=0/\q.1=q.2.1)\/(L.length≠0/\(∀i,i<L.length->atE n q L i=0)/\ZrH n q L=0)):=by
 unfold ZbF;by_cases h0:Zkl n q=0
 case neg=>rw[decide_eq_false h0];simp [h0]
 rw[decide_eq_true h0];simp only[Vi,cond_false];by_cases hL:L.length=0
 ·rw[decide_eq_true hL];by_cases he:q.1=q.2.1
  ·rw[decide_eq_true he];simp [h0,hL,he]
  ·rw[decide_eq_false he];simp [h0,hL,he]
 ·rw[decide_eq_false hL];simp only[cond_false]
  cases hb:Zay L.length (atE n q L) with
  |some i=>
   have hi:=ZbA hb;simp only;constructor
   ·intro e;exact absurd e hi.2
   ·rintro ⟨_,⟨e,_⟩ | ⟨_,e,_⟩⟩
    ·exact absurd e hL
    ·exact e i hi.1
  |none=>
   have ha:=Zaz.1 hb;simp only;by_cases he:ZrH n q L=0
   ·rw[decide_eq_true he];simp [h0,hL,he];exact ha
   ·rw[decide_eq_false he];simp [h0,hL,he]
theorem Zfi{n:Zat}(hf:Fit n)(hF:n.2.2.2.2.2.1.1.length<=4096)(q:Za5)(L:List Zaq)(hj:L.length<=1000):F86 n q (L,())=some (decide ((ZbF n q L).2=0)):=by unfold F86;rw[ZqW hf hF q L hj];rfl
end Q
namespace Q
open Tr Go
open Option (bind_some)
def Zaj(n:Zat)(i:Nat):List Zbd:=(rn n (i:Int)).2.2.2.2.2.2.2.1
def Zac(n:Zat)(i c:Nat):Zbd:=cl (Zaj n i) (c:Int)
def ZcS(n:Zat)(i:Nat):Bool:=(rn n (i:Int)).2.2.2.2.2.2.1
def ZdU(s t a b:Int):Zaq:=(false,0,0,0,s,t,a,b,false,())
def Zbw(n:Zat)(i b c:Nat)(st:Bool):Zaq:=(true,(i:Int),(b:Int),(c:Int),(Zac n i b).1,(Zac n i c).1,(Zac n i b).2.2.1,(Zac n i c).2.1,st,())
def isLink(n:Zat)(i c j d:Nat)(st:Bool):Prop:=((i:Int),(c:Int),(j:Int),(d:Int),st,())∈n.2.2.2.1
structure Zcu (n:Zat):Prop where
 sound:Zct n
 change: ∀s:Int,0<=s->s< (n.1.length:Int)->0<=(Zcm n s).2.2.2.1/\(Zcm n s).2.2.2.1<=3600
 path: ∀p∈n.2.2.2.2.1,(0<=p.1/\p.1< (n.1.length:Int))/\(0<=p.2.1/\p.2.1< (n.1.length:Int))/\p.1≠p.2.1/\1<=p.2.2.1/\p.2.2.1<=14400
 link: ∀x∈n.2.2.2.1, ∃ (i c j d:Nat) (st:Bool),x=((i:Int),(c:Int),(j:Int),(d:Int),st,())/\i<n.2.2.1.length/\j<n.2.2.1.length/\i≠j/\c< (Zaj n i).length/\d< (Zaj n j).length/\
  (Zac n i c).1=(Zac n j d).1/\(st=true->c+1=(Zaj n i).length/\d=0)
theorem Zdg{n:Zat}{i:Nat}(hi:i<n.2.2.1.length):Zaj n i=(n.2.2.1[i]).2.2.2.2.2.2.2.1:=by unfold Zaj rn;rw[Ve,Zak hi]
theorem ZiB{n:Zat}{i c:Nat}(hc:c< (Zaj n i).length):Zac n i c=(Zaj n i)[c]:=by unfold Zac cl;rw[Ve,Zak hc]
theorem Zqr{n:Zat}{i:Nat}(h:Zcx n i=0): (cl (rn n (lk n i).1).2.2.2.2.2.2.2.1 (lk n i).2.1).1=(cl (rn n (lk n i).2.2.1).2.2.2.2.2.2.2.1 (lk n i).2.2.2.1).1/\
  ((lk n i).2.2.2.2.1=true->(lk n i).2.1+1=((rn n (lk n i).1).2.2.2.2.2.2.2.1.length:Int)/\(lk n i).2.2.2.1=0):=by
 unfold Zcx at h;simp only at h;by_cases b1:Zpj n (lk n i)=true
 ·rw[if_pos b1]at h;omega
 rw[if_neg b1]at h;by_cases b2:Zrb n (lk n i)=true
 ·rw[if_pos b2]at h;omega
 rw[if_neg b2]at h;split at h
 ·omega
 split at h
 ·omega
 split at h
 ·omega
 next h1 h2 h3=>
  refine⟨Vua.1 h1,fun hs=>⟨?_, ?_⟩⟩
  ·exact Vua.1 fun e=>h2 ⟨hs,e⟩
  ·exact Vua.1 fun e=>h3 ⟨hs,e⟩
theorem Whole.ok{n:Zat}(h:Whole n):Zcu n:=by
 refine⟨h.sound,fun s h0 h1=> ?_,fun p hp=> ?_,fun x hx=> ?_⟩
 ·have s0:=h.s;unfold Zin at s0;split at s0
  ·exact absurd s0 (by decide)
  obtain⟨j,rfl⟩: ∃j:Nat,s=(j:Int):=⟨s.toNat,by omega⟩;have hj:j<n.1.length:=by omega
  have hz:=ZiO s0 j hj;unfold Zhu at hz;have:=(Zcp.1 hz).2.2;unfold Zcm;rw[Ve];generalize hg: (n.1[j]?).getD Q.s0=y at*;have e: (n.1[j]?).getD ([],0,false,0,())=y:=by rw[<-hg];rfl
  rw[e]at this;omega
 ·obtain⟨j,hj,rfl⟩:=Vy hp;obtain⟨h1,h2,_⟩:=ZcF (Zaz.1 h.q j hj);rw[Zak hj]at h1 h2;unfold Zdx at h1;unfold ZdL at h2;simp only[Vp,Vk,decide_eq_false_iff_not,decide_eq_true_eq]at h1 h2;omega
 ·obtain⟨j,hj,rfl⟩:=Vy hx;have hz:=Zaz.1 h.g j hj;obtain⟨h1,h2,_⟩:=Zeu hz;obtain⟨h3,h4⟩:=Zqr hz;have e:lk n j=n.2.2.2.1[j]:=by unfold lk;rw[Zak hj]
  rw[e]at h1 h2 h3 h4;generalize n.2.2.2.1[j]=x at*;unfold Zpj at h1;unfold Zrb at h2;unfold inR at h1 h2;simp only[Vp,Vk,decide_eq_false_iff_not,Vd,decide_eq_true_eq]at h1 h2;obtain⟨x1,x2,x3,x4,x5,x6⟩:=x;simp only at h1 h2 h3 h4;obtain⟨i,rfl⟩: ∃i:Nat,x1=(i:Int):=⟨x1.toNat,by omega⟩;obtain⟨c,rfl⟩: ∃i:Nat,x2=(i:Int):=⟨x2.toNat,by omega⟩;obtain⟨k,rfl⟩: ∃i:Nat,x3=(i:Int):=⟨x3.toNat,by omega⟩;obtain⟨d,rfl⟩: ∃i:Nat,x4=(i:Int):=⟨x4.toNat,by omega⟩;refine⟨i,c,k,d,x5,rfl,by omega,by omega,by omega, ?_, ?_,h3,fun hs=> ?_⟩
  ·unfold Zaj;omega
  ·unfold Zaj;omega
  ·obtain⟨a,b⟩:=h4 hs;unfold Zaj;omega
theorem Zcu.isLink{n:Zat}(h:Zcu n){i c j d:Nat}{st:Bool}(hl:isLink n i c j d st):i<n.2.2.1.length/\j<n.2.2.1.length/\i≠j/\c< (Zaj n i).length/\d< (Zaj n j).length/\(Zac n i c).1=(Zac n j d).1/\(st=true->c+1=(Zaj n i).length/\d=0):=by obtain⟨i',c',j',d',st',e,h1⟩:=h.link _ hl;simp only[Vva,Vna]at e;obtain⟨rfl,rfl,rfl,rfl,rfl,_⟩:=e;exact h1
theorem Zcu.stop{n:Zat}(h:Zcu n){i c:Nat}(hi:i<n.2.2.1.length)(hc:c< (Zaj n i).length):0<=(Zac n i c).1/\(Zac n i c).1< (n.1.length:Int):=by rw[ZiB hc];refine h.sound.call _ (Vf hi) _ ?_;simp only[Zdg hi];exact Vf _
theorem Zcu.time{n:Zat}(h:Zcu n){i c:Nat}(hi:i<n.2.2.1.length)(hc:c< (Zaj n i).length):0<=(Zac n i c).2.1/\(Zac n i c).2.1<=(Zac n i c).2.2.1/\(Zac n i c).2.2.1<=3155932800:=by have ht:=h.sound.time _ (Vf hi);rw[ZiB hc];simp only[Zdg hi]at hc ⊢;have:=ht c hc;omega
inductive Znp where
 |rdy (k:Nat) (s r:Int)
 |brd (k:Nat) (i c:Nat) (st:Bool)
 |lnk (k:Nat) (i c:Nat)
 |on (k:Nat) (i c:Nat)
 |rid (k:Nat) (s t:Int)
 |arr (k:Nat) (s t:Int)
inductive Der (n:Zat) (s0 t0 w:Int):Znp->List Zaq->Prop
 |init:Der n s0 t0 w (.rdy 0 s0 (t0+w)) []
 |here:Der n s0 t0 w (.arr 0 s0 t0) []
 |rdyW {p:Zb3} :p∈n.2.2.2.2.1->p.1=s0->t0+p.2.2.1<=3155932800->Der n s0 t0 w (.rdy 0 p.2.1 (t0+p.2.2.1)) [ZdU s0 p.2.1 t0 (t0+p.2.2.1)]
 |arrW {p:Zb3} :p∈n.2.2.2.2.1->p.1=s0->t0+p.2.2.1<=3155932800->Der n s0 t0 w (.arr 0 p.2.1 (t0+p.2.2.1)) [ZdU s0 p.2.1 t0 (t0+p.2.2.1)]
 |board {k:Nat}{s r:Int}{js:List Zaq}{i c:Nat} :Der n s0 t0 w (.rdy k s r) js->i<n.2.2.1.length->c< (Zaj n i).length->ZcS n i=false->(Zac n i c).1=s->(Zac n i c).2.2.2.1=true->r<=(Zac n i c).2.2.1->Der n s0 t0 w (.brd (k+1) i c false) js
 |on {k i b c:Nat}{st:Bool}{js:List Zaq} :Der n s0 t0 w (.brd k i b st) js->b<c->c< (Zaj n i).length->Der n s0 t0 w (.on k i c) (js++[Zbw n i b c st])
 |stay {k i c j d:Nat}{js:List Zaq} :Der n s0 t0 w (.on k i c) js->isLink n i c j d true->(Zac n i c).2.1<=(Zac n j d).2.2.1->ZcS n j=false->Der n s0 t0 w (.brd k j d true) js
 |link {k i c j d:Nat}{js:List Zaq} :Der n s0 t0 w (.on k i c) js->(Zac n i c).2.2.2.2.1=true->isLink n i c j d false->(Zac n i c).2.1<=(Zac n j d).2.2.1->(Zac n j d).2.2.2.1=true->Der n s0 t0 w (.lnk (k+1) j d) js
 |linked {k j d:Nat}{js:List Zaq} :Der n s0 t0 w (.lnk k j d) js->ZcS n j=false->Der n s0 t0 w (.brd k j d false) js
 |ride {k i c:Nat}{js:List Zaq} :Der n s0 t0 w (.on k i c) js->(Zac n i c).2.2.2.2.1=true->Der n s0 t0 w (.rid k (Zac n i c).1 (Zac n i c).2.1) js
 |change {k:Nat}{s t:Int}{js:List Zaq} :Der n s0 t0 w (.rid k s t) js->Der n s0 t0 w (.rdy k s (t+(Zcm n s).2.2.2.1)) js
 |rdyV {k:Nat}{s t:Int}{js:List Zaq}{p:Zb3} :Der n s0 t0 w (.rid k s t) js->p∈n.2.2.2.2.1->p.1=s->t+p.2.2.1<=3155932800->Der n s0 t0 w (.rdy k p.2.1 (t+p.2.2.1)) (js++[ZdU s p.2.1 t (t+p.2.2.1)])
 |arrR {k:Nat}{s t:Int}{js:List Zaq} :Der n s0 t0 w (.rid k s t) js->Der n s0 t0 w (.arr k s t) js
 |arrV {k:Nat}{s t:Int}{js:List Zaq}{p:Zb3} :Der n s0 t0 w (.rid k s t) js->p∈n.2.2.2.2.1->p.1=s->t+p.2.2.1<=3155932800->Der n s0 t0 w (.arr k p.2.1 (t+p.2.2.1)) (js++[ZdU s p.2.1 t (t+p.2.2.1)])
def Znp.ok(n:Zat):Znp->Prop
 | .rdy _ s r=>(0<=s/\s< (n.1.length:Int))/\0<=r/\r<=3155932800+3600
 | .brd k i c _=>0<k/\i<n.2.2.1.length/\c< (Zaj n i).length/\ZcS n i=false
 | .lnk k i c=>0<k/\i<n.2.2.1.length/\c< (Zaj n i).length
 | .on k i c=>0<k/\i<n.2.2.1.length/\c< (Zaj n i).length/\ZcS n i=false
 | .rid k s t=>0<k/\(0<=s/\s< (n.1.length:Int))/\0<=t/\t<=3155932800
 | .arr _ s t=>(0<=s/\s< (n.1.length:Int))/\0<=t/\t<=3155932800
theorem Der.ok{n:Zat}(h:Zcu n){s0 t0 w:Int}(hs:0<=s0/\s0< (n.1.length:Int))(ht:0<=t0/\t0<=3155932800)(hw:0<=w/\w<=3600){f:Znp}{js:List Zaq}(d:Der n s0 t0 w f js):f.ok n:=by
 induction d with
 |init=>exact⟨hs,by omega,by omega⟩
 |here=>exact⟨hs,ht⟩
 |rdyW hp _ hm=>have:=h.path _ hp;exact⟨this.2.1,by omega,by omega⟩
 |arrW hp _ hm=>have:=h.path _ hp;exact⟨this.2.1,by omega,by omega⟩
 |board _ hi hc hx _ _ _ _=>exact⟨Vpb _,hi,hc,hx⟩
 |on _ _ hc ih=>exact⟨ih.1,ih.2.1,hc,ih.2.2.2⟩
 |stay _ hl _ hx ih=>have:=h.isLink hl;exact⟨ih.1,this.2.1,this.2.2.2.2.1,hx⟩
 |link _ _ hl _ _ _=>have:=h.isLink hl;exact⟨Vpb _,this.2.1,this.2.2.2.2.1⟩
 |linked _ hx ih=>exact⟨ih.1,ih.2.1,ih.2.2,hx⟩
 |ride _ _ ih=>
  have:=h.time ih.2.1 ih.2.2.1
  exact⟨ih.1,h.stop ih.2.1 ih.2.2.1,by omega,by omega⟩
 |change _ ih=>have:=h.change _ ih.2.1.1 ih.2.1.2;exact⟨ih.2.1,by have:=ih.2.2;omega,by have:=ih.2.2;omega⟩
 |rdyV _ hp _ hm ih=>have:=h.path _ hp;exact⟨this.2.1,by have:=ih.2.2;omega,by omega⟩
 |arrR _ ih=>exact ih.2
 |arrV _ hp _ hm ih=>have:=h.path _ hp;exact⟨this.2.1,by have:=ih.2.2;omega,by omega⟩
abbrev ZoP:=Zaq×Int×Unit
inductive Ch (lb:List ZoP):Int->List Zaq->Prop
 |nil:Ch lb (-1) []
 |cons {l:Nat}{x:Zaq}{p:Int}{js:List Zaq} :lb[l]? =some (x,p,())->p< (l:Int)->Ch lb p js->Ch lb (l:Int) (js++[x])
theorem Ch.lt{lb:List ZoP}{l:Int}{js:List Zaq}(h:Ch lb l js): -1<=l/\l< (lb.length:Int):=by
 cases h with
 |nil=>omega
 |cons h _ _=>
  have:=(Vw.1 h).1;omega
theorem Ch.app{lb:List ZoP}{l:Int}{js:List Zaq}(h:Ch lb l js)(m:List ZoP):Ch (lb++m) l js:=by
 induction h with
 |nil=>exact .nil
 |cons h1 h2 _ ih=>
  have hl:=(Vw.1 h1).1;exact .cons (by rw[List.getElem?_append_left hl];exact h1) h2 ih
theorem Ch.new{lb:List ZoP}{p:Int}{js:List Zaq}(h:Ch lb p js)(x:Zaq):Ch (lb++[(x,p,())]) (lb.length:Int) (js++[x]):=
 .cons (by simp) h.lt.2 (h.app _)
end Q
namespace Q
open Tr Go
open Option (bind_some)
def Zby(q:Za5):Za5:=(q.1,q.2.1,q.2.2.1,q.2.2.2.1,q.2.2.2.2.1,q.2.2.2.2.2.1,false,false,0,q.2.2.2.2.2.2.2.2.2)
theorem Zdk{n:Zat}{q:Za5}{x:Zaq} :ZjU n q x=0↔((cl (ZaY n x) x.2.2.1).1=x.2.2.2.2.1/\(cl (ZaY n x) x.2.2.2.1).1=x.2.2.2.2.2.1)/\((cl (ZaY n x) x.2.2.1).2.2.1=x.2.2.2.2.2.2.1/\(cl (ZaY n x) x.2.2.2.1).2.1=x.2.2.2.2.2.2.2.1)/\Zt9 n q (rn n x.2.1)=true/\(Za3 x=true\/(cl (ZaY n x) x.2.2.1).2.2.2.1=true/\ZkQ n q x.2.2.2.2.1=true):=by
 unfold ZjU;rw[Zas (by omega),Zas (by omega),Zas (by omega),Zas (by omega),Zas (by omega),Zas (by omega),Zas (by omega),Zas (by omega)];unfold Zt9 Tr.useB Zug;rw[Vp,Vp];simp only[Vk,decide_eq_true_eq];generalize (rn n x.2.1).2.2.2.2.2.2.1=b1;generalize (rn n x.2.1).2.2.2.2.2.1=b2;generalize q.2.2.2.2.2.2.1=b3;generalize (ZtT n (rn n x.2.1)).2.2.1=b4;generalize q.2.2.2.2.2.2.2.1=b5;generalize (decide (q.2.2.2.2.2.2.2.2.1=(0:Int)) ||decide (Zos .i64 (Vwb q.2.2.2.2.2.2.2.2.1 (2 ^ min (Vma (ZtT n (rn n x.2.1)).2.1) 64)) 1=1))=b6;generalize Za3 x=b7;generalize (cl (ZaY n x) x.2.2.1).2.2.2.1=b8;generalize ZkQ n q x.2.2.2.2.1=b9
 generalize ((cl (ZaY n x) x.2.2.1).1=x.2.2.2.2.1/\(cl (ZaY n x) x.2.2.2.1).1=x.2.2.2.2.2.1)=p1;generalize ((cl (ZaY n x) x.2.2.1).2.2.1=x.2.2.2.2.2.2.1/\(cl (ZaY n x) x.2.2.2.1).2.1=x.2.2.2.2.2.2.2.1)=p2
 have key: ((b1=false/\(b3&& !b2)=false/\(b5&& !b4)=false/\(!b6)=false/\(!b7&& !b8)=false/\(!b7&& !b9)=false/\(0:Int)=0)↔((!b1&& ((b2|| !b3) && ((b4|| !b5) &&b6)))=true/\(b7=true\/b8=true/\b9=true))):=by
  cases b1<;>cases b2<;>cases b3<;>cases b4<;>cases b5<;>cases b6<;>cases b7<;>cases b8<;>cases b9<;>simp
 exact and_congr_right fun _=>and_congr_right fun _=>by
  first
  |exact key
  | (simp only[Vk]at key ⊢;exact key)
theorem Zus(n:Zat)(q:Za5):ZbP n q c0=c0:=by
 unfold ZbP
 split<;>rfl
theorem Zk1(n:Zat)(q:Za5)(l:List Zbd)(a:Int):cl (l.map (ZbP n q)) a=ZbP n q (cl l a):=by
 unfold cl;rw[Vaa]
 cases l[a.toNat]? with
 |none=>exact(Zus n q).symm
 |some c=>rfl
theorem ZlS(n:Zat)(q:Za5)(c:Zbd):ZbP n q c=(c.1,c.2.1,c.2.2.1,c.2.2.2.1&&ZkQ n q c.1,c.2.2.2.2.1&&ZkQ n q c.1,()):=by
 unfold ZbP
 cases h:ZkQ n q c.1 with
 |true=>simp
 |false=>simp
theorem ZeW(n:Zat)(q:Za5)(x:Zaq):ZaY (ZaS n q) x=(ZaY n x).map (ZbP n q):=Zo7 n q x.2.1
theorem Zh7(n:Zat)(q:Za5)(x:Zaq):ZaN (ZaS n q) x=ZaN n x:=by have hl: (ZaS n q).2.2.1.length=n.2.2.1.length:=Vr ..;unfold ZaN;rw[ZeW,Vr,hl]
theorem ZoS{n:Zat}{q:Za5}{x:Zaq}(hx:ZaN n x=true):rn (ZaS n q) x.2.1=ZcN n q (rn n x.2.1):=by
 unfold ZaN at hx;rw[Vd]at hx;have h:=hx.1;unfold inR at h;simp only[Vd,decide_eq_true_eq]at h;have hl:x.2.1.toNat<n.2.2.1.length:=by omega
 unfold rn;show ((n.2.2.1.map (ZcN n q))[x.2.1.toNat]?).getD u0=_;rw[Vaa,Va hl];rfl
theorem Zhe(n:Zat)(q:Za5)(s:Int):ZkQ n (Zby q) s=true:=by unfold ZkQ Zby;simp
theorem Zpq(n:Zat)(q:Za5)(r:Zlm):Zt9 n (Zby q) r= !r.2.2.2.2.2.2.1:=by unfold Zt9 Tr.useB Zby;simp
theorem Zp1{n:Zat}{q:Za5}{x:Zaq}(hx:ZaN n x=true):ZjU (ZaS n q) (Zby q) x=0↔ZjU n q x=0:=by rw[Zdk,Zdk,ZeW,Zk1,Zk1,ZlS,ZlS,ZoS hx,Zpq,Zhe];have hc: (ZcN n q (rn n x.2.1)).2.2.2.2.2.2.1= !Zt9 n q (rn n x.2.1):=rfl;rw[hc,Bool.not_not];refine and_congr_right fun h1=>and_congr_right fun _=>and_congr_right fun _=> ?_;simp only[Vd];rw[h1.1];simp
theorem Zqq{α:Type}(p f:α->Bool)(l:List α): (l.filter p).any f=l.any fun x=>f x&&p x:=by
 induction l with
 |nil=>rfl
 |cons x l ih=>
  cases hp:p x with
  |true=>rw[List.filter_cons_of_pos hp,Vkb,Vkb,ih,hp,Vac]
  |false=>rw[List.filter_cons_of_neg (by simp [hp]),Vkb,ih,hp,Vxb,Vwa]
theorem ZeA{n:Zat}{q:Za5}{x:Zaq} :ZhZ n q x=0↔(n.2.2.2.2.1.any fun p=>ZdI x p&&ZhN q p)=true:=by
 unfold ZhZ
 cases (n.2.2.2.2.1.any fun p=>ZdI x p&&ZhN q p) with
 |true=>simp
 |false=>cases n.2.2.2.2.1.any (ZdI x)<;>simp
theorem Zq4{n:Zat}{q:Za5}{x:Zaq} :ZhZ (ZaS n q) (Zby q) x=0↔ZhZ n q x=0:=by
 rw[ZeA,ZeA]
 have hfr: ∀p:Zb3,ZhN (Zby q) p=true:=by intro p;unfold ZhN Zby;simp
 show ((Zfp n q).any fun p=>ZdI x p&&ZhN (Zby q) p)=true↔_;simp only[hfr,Vac];unfold Zfp ZhN
 cases q.2.2.2.2.2.2.1 with
 |true=>simp only[if_true];rw[Zqq];simp
 |false=>simp
theorem ZrQ{n:Zat}{q:Za5}{x:Zaq} :ZhU (ZaS n q) (Zby q) x=0↔ZhU n q x=0:=by
 have hz: ∀ (n:Zat) (q:Za5),ZhU n q x=0↔(!inR x.2.2.2.2.1 n.1.length|| !inR x.2.2.2.2.2.1 n.1.length)=false/\(bif x.1 then !ZaN n x else !decide (x.2.1=0) || (!decide (x.2.2.1=0) || (!decide (x.2.2.2.1=0) ||Za3 x)))=false/\(!decide (0<=x.2.2.2.2.2.2.1/\x.2.2.2.2.2.2.1<=3155932800) || !decide (0<=x.2.2.2.2.2.2.2.1/\x.2.2.2.2.2.2.2.1<=3155932800))=false/\(bif x.1 then ZjU n q x else ZhZ n q x)=0:=by intro n q;unfold ZhU;rw[Zas (by omega),Zas (by omega),Zas (by omega)]
 rw[hz,hz,Zh7];refine and_congr_right fun _=>and_congr_right fun h2=>and_congr_right fun _=> ?_
 cases hx:x.1 with
 |true=>
  rw[hx]at h2
  exact Zp1 (by simpa using h2)
 |false=>exact Zq4
theorem Zpb{n:Zat}{q:Za5}{L:List Zaq}{i:Nat} :atE (ZaS n q) (Zby q) L i=0↔atE n q L i=0:=by
 have hz: ∀ (n:Zat) (q:Za5),atE n q L i=0↔ZhU n q (lg L i)=0/\ZjH n q L i=0/\(Zgi L i=true->ZbZ n q (lg L i)=0):=by
  intro n q;unfold atE;by_cases h1:ZhU n q (lg L i)=0
  ·by_cases h2:ZjH n q L i=0
   ·rw[decide_eq_true h1,decide_eq_true h2]
    cases Zgi L i<;>simp [h1,h2]
   ·rw[decide_eq_true h1,decide_eq_false h2];simp [h2]
  ·rw[decide_eq_false h1];simp [h1]
 have ha: ∀ (n:Zat) (q:Za5) (x:Zaq),ZbZ n q x=0↔(cl (ZaY n x) x.2.2.2.1).2.2.2.2.1=true/\ZkQ n q x.2.2.2.2.2.1=true:=by intro n q x;unfold ZbZ;rw[Zas (by omega),Zas (by omega)];simp
 rw[hz,hz];refine(and_congr ZrQ Iff.rfl).trans (and_congr_right fun h1=>and_congr Iff.rfl ?_);refine imp_congr_right fun ht=> ?_
 have hr: (lg L i).1=true:=by unfold Zgi at ht;rw[Vd]at ht;exact ht.1
 obtain⟨_,_,h3,_⟩:=ZiH h1;have h4:=(Zdk.1 (h3 hr).2).1.2;rw[ha,ha,ZeW,Zk1,ZlS,Zhe];simp only[Vd];rw[h4];simp
theorem Zpd(n:Zat)(q:Za5)(l:List Zbd)(a:Nat): ∀k,zN (ZaS n q) (l.map (ZbP n q)) a k=zN n l a k
 |0=>rfl
 |k+1=>by
  have h:zn (ZaS n q) (l.map (ZbP n q)) (a+k)=zn n l (a+k):=by unfold zn;rw[(Zg7 n q l (a+k)).1];rfl
  unfold zN;rw[Zpd n q l a k,h]
theorem Zly{n:Zat}{q:Za5}{x:Zaq}(hx:ZaN n x=true):ZlB (ZaS n q) x=ZlB n x/\Zcn (ZaS n q) x=Zcn n x:=by
 constructor
 ·unfold ZlB;rw[ZeW,Zpd]
 ·unfold Zcn;rw[ZoS hx];rfl
theorem Ze4(n:Zat)(q:Za5): ∀ (L:List Zaq) (w:Bool) (out:List ZdA),Zbu (ZaS n q) L w out=Zbu n L w out
 | [],_,_=>rfl
 |x::L,w,out=>by
  rw[ZcP,ZcP,Zh7];by_cases h1:x.1=true/\ZaN n x=false
  ·rw[if_pos h1,if_pos h1]
  rw[if_neg h1,if_neg h1];by_cases h2:Za3 x=true/\(x.1=false\/w=false)
  ·rw[if_pos h2,if_pos h2]
  rw[if_neg h2,if_neg h2];by_cases h3:x.1=true
  ·rw[if_pos h3,if_pos h3]
   have hx:ZaN n x=true:=by
    cases he:ZaN n x with
    |true=>rfl
    |false=>exact absurd ⟨h3,he⟩ h1
   obtain⟨e1,e2⟩:=Zly (q:=q) hx;have e3:ZfF (ZaS n q) x=ZfF n x:=by unfold ZfF;rw[e1,e2]
   have e4:Zc2 (ZaS n q) x out=Zc2 n x out:=by unfold Zc2 ZhH;rw[e1,e2]
   rw[e3,e4];exact Ze4 n q L _ _
  ·rw[if_neg h3,if_neg h3];exact Ze4 n q L _ _
end Q
namespace Q
open Tr Go
open Option (bind_some)
variable {n:Zat}{q:Za5}
theorem ZkW{n:Zat}{q:Za5}{x:Zaq} :ZhU n q x=0↔(inR x.2.2.2.2.1 n.1.length=true/\inR x.2.2.2.2.2.1 n.1.length=true)/\(bif x.1 then !ZaN n x else !decide (x.2.1=0) || (!decide (x.2.2.1=0) || (!decide (x.2.2.2.1=0) ||Za3 x)))=false/\
  ((0<=x.2.2.2.2.2.2.1/\x.2.2.2.2.2.2.1<=3155932800)/\(0<=x.2.2.2.2.2.2.2.1/\x.2.2.2.2.2.2.2.1<=3155932800))/\(bif x.1 then ZjU n q x else ZhZ n q x)=0:=by
 unfold ZhU;rw[Zas (by omega),Zas (by omega),Zas (by omega)];simp only[Vp,Vk,decide_eq_true_eq]
theorem Zww{a m:Nat} :inR (a:Int) m=true↔a<m:=by unfold inR;rw[Vd,decide_eq_true_eq,decide_eq_true_eq];omega
theorem Zef{a:Int}{m:Nat} :inR a m=true↔0<=a/\a< (m:Int):=by unfold inR;rw[Vd,decide_eq_true_eq,decide_eq_true_eq]
theorem Zo9(n:Zat)(q:Za5)(i:Nat):Zt9 n (Zby q) (rn n (i:Int))=true↔ZcS n i=false:=by
 rw[Zpq];unfold ZcS
 cases (rn n (i:Int)).2.2.2.2.2.2.1<;>simp
def Zvt(n:Zat)(i b c:Nat)(st:Bool):Prop:=i<n.2.2.1.length/\b<c/\c< (Zaj n i).length/\ZcS n i=false/\(st=true\/(Zac n i b).2.2.2.1=true)
theorem Zdf(h:Zcu n){x:Zaq} : (ZhU n (Zby q) x=0/\x.1=true)↔ ∃i b c st,x=Zbw n i b c st/\Zvt n i b c st:=by
 rw[ZkW];constructor
 ·rintro ⟨⟨h1,h2,h3,h4⟩,hr⟩;rw[hr]at h2 h4;simp only[cond_true,Vk]at h2 h4;have he:=h2;unfold ZaN ZaY at he;simp only[Vd,decide_eq_true_eq,Zef]at he;obtain⟨⟨e1,e2⟩,e3,e4,e5⟩:=he;obtain⟨⟨r1,r2⟩,⟨r3,r4⟩,r5,r6⟩:=Zdk.1 h4;obtain⟨xr,xi,xb,xc,xf,xt,xd,xa,xs,u⟩:=x;simp only at hr h1 h2 h3 h4 e1 e2 e3 e4 e5 r1 r2 r3 r4 r5 r6;obtain⟨i,rfl⟩: ∃i:Nat,xi=(i:Int):=⟨xi.toNat,by omega⟩;obtain⟨b,rfl⟩: ∃i:Nat,xb=(i:Int):=⟨xb.toNat,by omega⟩;obtain⟨c,rfl⟩: ∃i:Nat,xc=(i:Int):=⟨xc.toNat,by omega⟩;subst hr;have hl:c< (Zaj n i).length:=by unfold Zaj;omega
  refine⟨i,b,c,xs, ?_,by omega,by omega,hl,(Zo9 n q i).1 r5, ?_⟩
  ·have a1: (Zac n i b).1=xf:=r1;have a2: (Zac n i c).1=xt:=r2;have a3: (Zac n i b).2.2.1=xd:=r3;have a4: (Zac n i c).2.1=xa:=r4;unfold Zbw;rw[a1,a2,a3,a4]
  ·rcases r6 with r6|r6
   ·exact .inl r6
   ·exact .inr r6.1
 ·rintro ⟨i,b,c,st,rfl,h1,h2,h3,h4,h5⟩;have hb:b< (Zaj n i).length:=by omega
  have s1:=h.stop h1 hb;have s2:=h.stop h1 h3;have t1:=h.time h1 hb;have t2:=h.time h1 h3
  have hex:ZaN n (Zbw n i b c st)=true:=by unfold ZaN ZaY;simp only[Vd,decide_eq_true_eq];have:c< (rn n (i:Int)).2.2.2.2.2.2.2.1.length:=h3;exact⟨Zww.2 h1,by show (0:Int)<=(b:Int);omega,by show (b:Int)< (c:Int);omega,by show (c:Int)<_;show (c:Int)< ((rn n (i:Int)).2.2.2.2.2.2.2.1.length:Int);omega⟩
  refine⟨⟨⟨Zef.2 s1,Zef.2 s2⟩, ?_,⟨⟨by show (0:Int)<=(Zac n i b).2.2.1;omega,t1.2.2⟩,⟨t2.1,by show (Zac n i c).2.1<=_;omega⟩⟩, ?_⟩,rfl⟩
  ·show (!ZaN n (Zbw n i b c st))=false;rw[hex];rfl
  ·refine Zdk.2 ⟨⟨rfl,rfl⟩,⟨rfl,rfl⟩,(Zo9 n q i).2 h4, ?_⟩;rcases h5 with h5|h5
   ·exact .inl h5
   ·exact .inr ⟨h5,Zhe ..⟩
theorem Zdc(h:Zcu n){x:Zaq} : (ZhU n (Zby q) x=0/\x.1=false)↔ ∃p∈n.2.2.2.2.1, ∃a,x=ZdU p.1 p.2.1 a (a+p.2.2.1)/\0<=a/\a+p.2.2.1<=3155932800:=by
 rw[ZkW];constructor
 ·rintro ⟨⟨h1,h2,h3,h4⟩,hr⟩;rw[hr]at h2 h4;simp only[cond_false,Vp,Vk,decide_eq_true_eq]at h2 h4;have h5:=ZeA.1 h4;obtain⟨p,hp,hm⟩:=Vja.1 h5;rw[Vd]at hm;have hm1:=hm.1;unfold ZdI at hm1;simp only[Vd,decide_eq_true_eq]at hm1;obtain⟨xr,xi,xb,xc,xf,xt,xd,xa,xs,u⟩:=x;simp only at hr h1 h2 h3 hm1;have hpp:=h.path p hp;rw[Zae (by omega) (by omega)]at hm1;obtain⟨rfl,rfl,rfl,rfl⟩:=h2;subst hr;refine⟨p,hp,xd, ?_,by omega,by omega⟩;unfold ZdU;rw[<-hm1.1, <-hm1.2.1,show xa=xd+p.2.2.1 by omega]
 ·rintro ⟨p,hp,a,rfl,h1,h2⟩;have hpp:=h.path p hp;refine⟨⟨⟨Zef.2 hpp.1,Zef.2 hpp.2.1⟩,rfl,⟨⟨h1,by show a<=_;omega⟩,⟨by show 0<=a+p.2.2.1;omega,h2⟩⟩, ?_⟩,rfl⟩;show ZhZ n (Zby q) _=0;rw[ZeA];refine Vja.2 ⟨p,hp, ?_⟩;unfold ZdI ZhN Zby ZdU;simp only[Vd,decide_eq_true_eq,Vl,Vya];exact⟨⟨trivial,trivial,by rw[Zae (by omega) (by omega)];omega⟩,trivial⟩
theorem Znv(h:Zcu n){i b c j d e:Nat}{st st' sx:Bool} :Zgh n (Zbw n i b c st) (Zbw n j d e st') sx=true↔isLink n i c j d sx:=by
 unfold Zgh;rw[Vja];constructor
 ·rintro ⟨x,hx,hm⟩;obtain⟨i',c',j',d',s',rfl,_⟩:=h.link x hx;unfold Zme Zbw at hm;simp only[Vd,decide_eq_true_eq,beq_iff_eq]at hm;obtain⟨h1,h2,h3,h4,h5⟩:=hm;unfold isLink;rw[<-h1, <-h2, <-h3, <-h4, <-h5];exact hx
 ·intro hl;refine⟨_,hl, ?_⟩;unfold Zme Zbw;simp
theorem Zkm(n:Zat)(s t a b s' t' a' b' :Int):Zbj n (ZdU s t a b) (ZdU s' t' a' b')≠0:=by unfold Zbj ZdU;intro h;rw[Zas (by omega)]at h;obtain⟨_,h⟩:=h;simp at h
theorem Zjh(n:Zat)(s t a b:Int)(j d e:Nat):Zbj n (ZdU s t a b) (Zbw n j d e true)≠0:=by unfold Zbj ZdU Zbw;intro h;rw[Zas (by omega)]at h;obtain⟨_,h⟩:=h;simp [Za3]at h
theorem ZpT(h:Zcu n){i b c j d e:Nat}{st:Bool} :Zbj n (Zbw n i b c st) (Zbw n j d e true)=0↔(Zac n i c).1=(Zac n j d).1/\isLink n i c j d true/\(Zac n i c).2.1<=(Zac n j d).2.2.1:=by
 unfold Zbj;have e1:Zgh n (Zbw n i b c st) (Zbw n j d e true) true=true↔isLink n i c j d true:=Znv h;generalize Zgh n (Zbw n i b c st) (Zbw n j d e true) true=B at*;unfold Zbw Za3;simp only[Vi,Vpa,cond_false,cond_true,Vwa];rw[Zas (by omega),Zas (by omega)];rw[<-e1]
 cases B with
 |false=>simp
 |true=>
  simp only[Vi,Vk,decide_eq_true_eq,true_and];refine and_congr_right fun _=> ?_;by_cases hlt: (Zac n j d).2.2.1< (Zac n i c).2.1
  ·rw[decide_eq_true hlt];simp;omega
  ·rw[decide_eq_false hlt];simp;omega
theorem Ztd{i b c:Nat}{st:Bool}{s t a z:Int} :Zbj n (Zbw n i b c st) (ZdU s t a z)=0↔(Zac n i c).1=s/\a=(Zac n i c).2.1:=by
 unfold Zbj Zbw ZdU Za3;simp only[Vi,Vpa,cond_false,cond_true,Vl];rw[Zas (by omega)];simp only[Vk,decide_eq_true_eq];refine and_congr_right fun _=> ?_;by_cases hlt:a=(Zac n i c).2.1
 ·rw[decide_eq_true hlt];simp [hlt]
 ·rw[decide_eq_false hlt];simp [hlt]
theorem ZkN{j d e:Nat}{s t a z:Int} :Zbj n (ZdU s t a z) (Zbw n j d e false)=0↔t=(Zac n j d).1/\z<=(Zac n j d).2.2.1:=by
 unfold Zbj Zbw ZdU Za3;simp only[Vi,Vxb,cond_false,cond_true,Vl];rw[Zas (by omega)];simp only[Vk,decide_eq_true_eq];refine and_congr_right fun _=> ?_;by_cases hlt: (Zac n j d).2.2.1<z
 ·rw[decide_eq_true hlt];simp;omega
 ·rw[decide_eq_false hlt];simp;omega
theorem Zo5(h:Zcu n){i b c j d e:Nat}{st:Bool}(hi:i<n.2.2.1.length)(hc:c< (Zaj n i).length):Zbj n (Zbw n i b c st) (Zbw n j d e false)=0↔(Zac n i c).1=(Zac n j d).1/\
  ((Zac n i c).2.1+(Zcm n (Zac n i c).1).2.2.2.1<=(Zac n j d).2.2.1\/isLink n i c j d false/\(Zac n i c).2.1<=(Zac n j d).2.2.1):=by
 have ht:=h.time hi hc;have hs:=h.stop hi hc;have hcg:=h.change _ hs.1 hs.2;have w1:Vc .i64 ((Zac n i c).2.1+(Zcm n (Zac n i c).1).2.2.2.1)=(Zac n i c).2.1+(Zcm n (Zac n i c).1).2.2.2.1:=Zae (by omega) (by omega);unfold Zbj;have e1:Zgh n (Zbw n i b c st) (Zbw n j d e false) false=true↔isLink n i c j d false:=Znv h;generalize Zgh n (Zbw n i b c st) (Zbw n j d e false) false=B at*;unfold Zbw Za3;simp only[Vi,Vpa,cond_false,w1];rw[Zas (by omega)];simp only[Vk,decide_eq_true_eq];refine and_congr_right fun _=> ?_;rw[<-e1];by_cases h1: (Zac n i c).2.1+(Zcm n (Zac n i c).1).2.2.2.1<=(Zac n j d).2.2.1
 ·rw[decide_eq_true h1];simp [h1]
 ·rw[decide_eq_false h1];by_cases h2: (Zac n i c).2.1<=(Zac n j d).2.2.1
  ·rw[decide_eq_true h2]
   cases B with
   |true=>simp [h1,h2]
   |false=>simp [h1]
  ·rw[decide_eq_false h2];simp [h1,h2]
theorem Zdm{i b c:Nat}{st:Bool} :ZbZ n (Zby q) (Zbw n i b c st)=0↔(Zac n i c).2.2.2.2.1=true:=by unfold ZbZ;rw[Zas (by omega),Zas (by omega),Zhe];show (!(Zac n i c).2.2.2.2.1)=false/\_↔_;simp
theorem Zd3{n:Zat}{q:Za5}{L:List Zaq}{i:Nat} :atE n q L i=0↔ZhU n q (lg L i)=0/\ZjH n q L i=0/\(Zgi L i=true->ZbZ n q (lg L i)=0):=by
 unfold atE;by_cases h1:ZhU n q (lg L i)=0
 ·by_cases h2:ZjH n q L i=0
  ·rw[decide_eq_true h1,decide_eq_true h2]
   cases Zgi L i<;>simp [h1,h2]
  ·rw[decide_eq_true h1,decide_eq_false h2];simp [h2]
 ·rw[decide_eq_false h1];simp [h1]
theorem Zce{n:Zat}{q:Za5}{L:List Zaq} :Zhd n q L=0↔(lg L 0).2.2.2.2.1=q.1/\Za3 (lg L 0)=false/\(!(lg L 0).1&& (decide (1<L.length) && ((lg L 1).1&& !decide ((lg L 1).2.2.2.2.2.2.1=(lg L 0).2.2.2.2.2.2.2.1))))=false/\
  (!(lg L 0).1&& (decide (L.length=1) && (bif q.2.2.2.1 then !decide ((lg L 0).2.2.2.2.2.2.2.1=q.2.2.1) else !decide ((lg L 0).2.2.2.2.2.2.1=q.2.2.1))))=false/\
  (!q.2.2.2.1&&decide ((lg L 0).2.2.2.2.2.2.1<q.2.2.1))=false/\(q.2.2.2.2.2.2.2.2.2.1&& ((lg L 0).1&&decide ((lg L 0).2.2.2.2.2.2.1<Vc .i64 (q.2.2.1+(Zcm n q.1).2.2.2.1))))=false:=by
 unfold Zhd;rw[Zas (by omega),Zas (by omega),Zas (by omega),Zas (by omega),Zas (by omega)];simp only[Vk,decide_eq_true_eq];refine and_congr_right fun _=>and_congr_right fun _=>and_congr_right fun _=>and_congr_right fun _=>and_congr_right fun _=> ?_
 cases (q.2.2.2.2.2.2.2.2.2.1&& ((lg L 0).1&&decide ((lg L 0).2.2.2.2.2.2.1<Vc .i64 (q.2.2.1+(Zcm n q.1).2.2.2.1))))<;>simp
end Q
namespace Q
open Tr Go
open Option (bind_some)
variable {n:Zat}{q:Za5}
theorem Zbc(a b:List Zaq):Zal (a++b)=Zal a+Zal b:=by simp [Zal]
theorem Zcj(s t a b:Int):Zal [ZdU s t a b]=0:=rfl
theorem Zbn(n:Zat)(i b c:Nat)(st:Bool):Zal [Zbw n i b c st]=if st then 0 else 1:=by cases st<;>rfl
theorem ZjZ{L:List Zaq}{i:Nat}(h:i<L.length):lg L i=L[i]:=by unfold lg;rw[Zak h]
theorem ZgN{L:List Zaq}{i:Nat}(h:i<L.length):Zal (L.take (i+1))=Zal (L.take i)+Zal [lg L i]:=by rw[Vh h,Zbc,ZjZ h]
def Zss(n:Zat)(s0 t0 w:Int)(L:List Zaq)(i:Nat):Prop:=
 (∃r b c st,lg L i=Zbw n r b c st/\Zvt n r b c st/\ ∃js,Der n s0 t0 w (.on (Zal (L.take (i+1))) r c) js)\/
 (∃p∈n.2.2.2.2.1, ∃a,lg L i=ZdU p.1 p.2.1 a (a+p.2.2.1)/\(∃r,r<=a+p.2.2.1/\ ∃js,Der n s0 t0 w (.rdy (Zal (L.take (i+1))) p.2.1 r) js)/\(0<i\/L.length=1-> ∃js,Der n s0 t0 w (.arr (Zal (L.take (i+1))) p.2.1 (a+p.2.2.1)) js))
theorem ZeF{n:Zat}{q:Za5}{L:List Zaq}{i:Nat} :ZjH n q L (i+1)=Zbj n (lg L i) (lg L (i+1)):=by unfold ZjH;rw[decide_eq_false (Nat.succ_ne_zero i)];rfl
theorem Zp7(h:Zcu n)(hq:0<=q.1/\q.1< (n.1.length:Int))(ht:0<=q.2.2.1/\q.2.2.1<=3155932800)(hb:q.2.2.2.1=false){L:List Zaq}(h0:0<L.length)(ha:atE n (Zby q) L 0=0):
  Zss n q.1 q.2.2.1 (bif q.2.2.2.2.2.2.2.2.2.1 then(Zcm n q.1).2.2.2.1 else 0) L 0:=by
 obtain⟨h1,h2,h3⟩:=Zd3.1 ha;have hcg:=h.change _ hq.1 hq.2;have h2' :Zhd n (Zby q) L=0:=h2;obtain⟨f1,f2,f3,f4,f5,f6⟩:=Zce.1 h2';have g1: (Zby q).1=q.1:=rfl;have g2: (Zby q).2.2.1=q.2.2.1:=rfl;have g3: (Zby q).2.2.2.1=q.2.2.2.1:=rfl;have g4: (Zby q).2.2.2.2.2.2.2.2.2.1=q.2.2.2.2.2.2.2.2.2.1:=rfl;rw[g1]at f1;rw[g3,hb,g2]at f4 f5;rw[g4,g2,g1]at f6
 cases hr: (lg L 0).1 with
 |true=>
  obtain⟨i,b,c,st,e,hk⟩:=(Zdf h).1 ⟨h1,hr⟩;have hk' :=hk;obtain⟨k1,k2,k3,k4,k5⟩:=hk';rw[e]at f1 f2 f5 f6;have hst:st=false:=f2;subst hst;have hbd: (Zac n i b).2.2.2.1=true:=k5.resolve_left (by simp);have hstop: (Zac n i b).1=q.1:=f1
  have hlate:q.2.2.1+(bif q.2.2.2.2.2.2.2.2.2.1 then(Zcm n q.1).2.2.2.1 else 0)<=(Zac n i b).2.2.1:=by
   simp only[Vl,Vm,decide_eq_false_iff_not]at f5;have f5' : ¬ (Zac n i b).2.2.1<q.2.2.1:=f5
   cases hc:q.2.2.2.2.2.2.2.2.2.1 with
   |false=>simp only[cond_false];omega
   |true=>
    rw[hc,Zae (by omega) (by omega)]at f6;simp only[Vm]at f6;have f6' :decide ((Zac n i b).2.2.1<q.2.2.1+(Zcm n q.1).2.2.2.1)=false:=f6;rw[decide_eq_false_iff_not]at f6';simp only[cond_true];omega
  refine .inl ⟨i,b,c,false,e,hk, ?_⟩
  have d:=Der.on (.board (.init (n:=n) (s0:=q.1) (t0:=q.2.2.1) (w:=(bif q.2.2.2.2.2.2.2.2.2.1 then(Zcm n q.1).2.2.2.1 else 0))) k1 (by omega) k4 hstop hbd hlate) k2 k3
  have:Zal (L.take (0+1))=1:=by rw[ZgN h0,e,Zbn];rfl
  rw[this];exact⟨_,d⟩
 |false=>
  obtain⟨p,hp,a,e,a0,a1⟩:=(Zdc h).1 ⟨h1,hr⟩;have hpp:=h.path p hp;rw[e]at f1 f4 f5;have hs:p.1=q.1:=f1;have hK:Zal (L.take (0+1))=0:=by rw[ZgN h0,e,Zcj];rfl
  have f5' : ¬a<q.2.2.1:=by simp only[Vl,Vm,decide_eq_false_iff_not]at f5;exact f5
  refine .inr ⟨p,hp,a,e,⟨q.2.2.1+p.2.2.1,by omega, ?_⟩,fun hl=> ?_⟩
  ·rw[hK];exact⟨_, .rdyW hp hs (by omega)⟩
  ·have hl1:L.length=1:=hl.resolve_left (by omega);rw[decide_eq_true hl1]at f4;have f4' : (!decide (a=q.2.2.1))=false:=f4;simp only[Vk,decide_eq_true_eq]at f4';subst f4';exact⟨_,by rw[hK];exact .arrW hp hs a1⟩
theorem Zqm(h:Zcu n){s0 t0 w:Int}{L:List Zaq}{i:Nat}(hi:i+1<L.length)(ha:atE n (Zby q) L i=0)(hb:atE n (Zby q) L (i+1)=0)(hr:Zss n s0 t0 w L i):Zss n s0 t0 w L (i+1):=by
 obtain⟨_,_,a3⟩:=Zd3.1 ha;obtain⟨b1,b2,_⟩:=Zd3.1 hb;rw[ZeF]at b2;have hK:=ZgN hi
 have htl: ∀ {r b c:Nat}{st:Bool},lg L i=Zbw n r b c st->Za3 (lg L (i+1))=false->(Zac n r c).2.2.2.2.1=true:=by intro r b c st e hs;refine Zdm.1 (?_ :ZbZ n (Zby q) (Zbw n r b c st)=0);rw[<-e];refine a3 ?_;unfold Zgi;rw[e,hs];simp [Zbw]
 cases hy: (lg L (i+1)).1 with
 |true=>
  obtain⟨j,d,e,st',ey,hk⟩:=(Zdf h).1 ⟨b1,hy⟩;have hk' :=hk;obtain⟨k1,k2,k3,k4,k5⟩:=hk';rw[ey]at b2 hK;refine .inl ⟨j,d,e,st',ey,hk, ?_⟩
  cases st' with
  |true=>
   rw[Zbn]at hK;rcases hr with ⟨r,b,c,st,ex,hx,js,dx⟩ | ⟨p,hp,a,ex,_⟩
   ·rw[ex]at b2;obtain⟨c1,c2,c3⟩:=(ZpT h).1 b2;rw[hK];exact⟨_, .on (.stay dx c2 c3 k4) k2 k3⟩
   ·rw[ex]at b2
    exact absurd b2 (Zjh _ _ _ _ _ _ _ _)
  |false=>
   rw[Zbn]at hK;have hbd: (Zac n j d).2.2.2.1=true:=k5.resolve_left (by simp);have hns:Za3 (lg L (i+1))=false:=by rw[ey];rfl
   rcases hr with ⟨r,b,c,st,ex,hx,js,dx⟩ | ⟨p,hp,a,ex,⟨r,hr1,js,dr⟩,_⟩
   ·have hal:=htl ex hns;rw[ex]at b2;obtain⟨c1,c2⟩:=(Zo5 h hx.1 hx.2.2.1).1 b2;rw[hK];rcases c2 with c2| ⟨c2,c3⟩
    ·exact⟨_, .on (.board (.change (.ride dx hal)) k1 (by omega) k4 c1.symm hbd c2) k2 k3⟩
    ·exact⟨_, .on (.linked (.link dx hal c2 c3 hbd) k4) k2 k3⟩
   ·rw[ex]at b2;obtain⟨c1,c2⟩:=ZkN.1 b2;rw[hK]
    exact⟨_, .on (.board dr k1 (by omega) k4 c1.symm hbd (by omega)) k2 k3⟩
 |false=>
  obtain⟨p,hp,a,ey,a0,a1⟩:=(Zdc h).1 ⟨b1,hy⟩;rw[ey]at b2 hK;rw[Zcj]at hK;have hns:Za3 (lg L (i+1))=false:=by rw[ey];rfl
  rcases hr with ⟨r,b,c,st,ex,hx,js,dx⟩ | ⟨p',hp',a',ex,_⟩
  ·have hal:=htl ex hns;rw[ex]at b2;obtain⟨c1,c2⟩:=Ztd.1 b2;have dr:=Der.ride dx hal;refine .inr ⟨p,hp,a,ey,⟨a+p.2.2.1,Int.le_refl _, ?_⟩,fun _=> ?_⟩
   ·rw[hK,c2];exact⟨_, .rdyV dr hp c1.symm (by omega)⟩
   ·rw[hK,c2];exact⟨_, .arrV dr hp c1.symm (by omega)⟩
  ·rw[ex]at b2;exact absurd b2 (Zkm _ _ _ _ _ _ _ _ _)
theorem Zxv(h:Zcu n)(hq:0<=q.1/\q.1< (n.1.length:Int))(ht:0<=q.2.2.1/\q.2.2.1<=3155932800)(hb:q.2.2.2.1=false){L:List Zaq}(h0:0<L.length)(ha: ∀i,i<L.length->atE n (Zby q) L i=0):
  ∃js,Der n q.1 q.2.2.1 (bif q.2.2.2.2.2.2.2.2.2.1 then(Zcm n q.1).2.2.2.1 else 0) (.arr (Zal L) (lg L (L.length - 1)).2.2.2.2.2.1 (lg L (L.length - 1)).2.2.2.2.2.2.2.1) js:=by
 have key: ∀i,i<L.length->Zss n q.1 q.2.2.1 (bif q.2.2.2.2.2.2.2.2.2.1 then(Zcm n q.1).2.2.2.1 else 0) L i:=by
  intro i
  induction i with
  |zero=>exact fun hi=>Zp7 h hq ht hb h0 (ha 0 hi)
  |succ i ih=>exact fun hi=>Zqm h hi (ha i (by omega)) (ha (i+1) hi) (ih (by omega))
 have hr:=key (L.length - 1) (by omega);have hlast:=(Zd3.1 (ha (L.length - 1) (by omega))).2.2;unfold Zss at hr;rw[show L.length - 1+1=L.length by omega,Vq]at hr;rcases hr with ⟨r,b,c,st,e,hk,js,d⟩ | ⟨p,hp,a,e,_,hd⟩
 ·have hal: (Zac n r c).2.2.2.2.1=true:=by refine Zdm.1 (?_ :ZbZ n (Zby q) (Zbw n r b c st)=0);rw[<-e];refine hlast ?_;unfold Zgi;rw[e,decide_eq_true (show L.length - 1+1=L.length by omega)];rfl
  rw[e];exact⟨js, .arrR (.ride d hal)⟩
 ·rw[e];refine hd ?_;by_cases h1:L.length=1
  ·exact .inr h1
  ·exact .inl (by omega)
end Q
namespace Q
open Tr Go
open Option (bind_some)
theorem Zft:F29=some true:=by kernel_rfl
structure Zxl (n:Zat):Prop where
 stops:n.1.length<=20
 routes:n.2.1.length<=20
 runs:n.2.2.1.length<=20
 links:n.2.2.2.1.length<=20
 paths:n.2.2.2.2.1.length<=200
 prods:n.2.2.2.2.2.1.1.length<=20
 calls: ∀r∈n.2.2.1,r.2.2.2.2.2.2.2.1.length<=40
theorem Zxl.few{n:Zat}(h:Zxl n):Few n:=
 ⟨by have:=h.stops;omega,by have:=h.routes;omega,by have:=h.runs;omega,by have:=h.links;omega,by have:=h.paths;omega,by have:=h.prods;omega,fun r hr=>by have:=h.calls r hr;omega⟩
theorem Zxx{n:Zat}(h:Znf Y31 n)(hp:n.2.2.2.2.1.length<=4096):Fit n:=by
 obtain⟨⟨_,h1⟩,⟨_,h2⟩,⟨_,h3⟩,_,_,⟨⟨_,h6⟩,_⟩,_⟩:=h;refine⟨fun x hx=> ?_,fun x hx=> ?_,fun x hx=> ?_,fun x hx=> ?_,hp,fun x hx=> ?_⟩
 ·exact(h1 x hx).1
 ·exact(h2 x hx).1
 ·exact(h3 x hx).2.2.2.1
 ·exact(h3 x hx).2.2.2.2.2.2.2.1.1
 ·exact(h6 x hx).1
noncomputable def ZuP(n:Zat)(q:Za5):Int:=bif !decide (Zkl n q=0) then Zkl n q else bif q.2.2.2.1 then 22 else 0
theorem ZqZ{n:Zat}(h:Fit n)(q:Za5):F117 n q=some (ZuP n q):=by
 unfold F117 ZuP;rw[Zmi h];simp only[bind_some]
 cases decide (Zkl n q=0)<;>cases q.2.2.2.1<;>rfl
end Q
namespace Q
open Tr Go
open Option (bind_some)
abbrev ZbK:=Int×Int×Int×Int×Int×Int×Unit
abbrev ZcA:=Int×Int×Bool×Unit
abbrev ZaF:=Zat×List ZoP×List ZbK×List ZcA×List ZcA×List Int×List (List Int) ×Unit
def less(old new:Int):Bool:=decide (old= -1) ||decide (new<old)
theorem ZeJ(old new:Int): (bif decide (old=(-1:Int)) then some true else some (decide (new<old)))=some (less old new):=by
 unfold less
 cases decide (old=(-1:Int))<;>rfl
def ZwP(p:ZbK)(a l:Int):ZbK:=bif less p.1 a then(a,p.2.1,p.2.2.1,l,p.2.2.2.2) else p
def Zwr(p:ZbK)(r l:Int):ZbK:=bif less p.2.2.1 r then(p.1,p.2.1,r,p.2.2.2.1,p.2.2.2.2.1,l,p.2.2.2.2.2.2) else p
def ZsF(p:ZbK)(a r l:Int):ZbK:=Zwr (ZwP p a l) r l
def Zg0(f:ZaF)(i:Nat)(a r l:Int):ZaF:=(f.1,f.2.1,f.2.2.1.modify i fun p=>ZsF p a r l,f.2.2.2)
theorem Zj8{α:Type}{l:List α}{i:Nat}(h:i<l.length)(g:α->α):l.modify i g=l.set i (g l[i]):=by
 apply List.ext_getElem?;intro j;rw[Vx,Vrb];by_cases hj:i=j
 ·subst hj;rw[Va h];simp [h]
 ·simp [hj]
theorem ZgQ(f:ZaF){i:Nat}(hi:i<f.2.2.1.length)(a r l:Int):F123 f (i:Int) a r l=some (Zg0 f i a r l):=by
 unfold F123 Zg0;rw[Zj8 hi];obtain⟨n,lb,now,rest⟩:=f;simp only at hi;simp only[ZaB hi,bind_some,Va hi];generalize hp:now[i]=p;rw[ZeJ];simp only[bind_some];unfold ZsF ZwP
 cases hl:less p.1 a with
 |true=>
  simp only[cond_true,Voa,Vn hi,bind_some];rw[ZeJ];simp only[bind_some];unfold Zwr;simp only
  cases less p.2.2.1 r with
  |true=>
   simp only[cond_true]
  |false=>simp only[cond_false]
 |false=>
  simp only[cond_false];rw[ZeJ];simp only[bind_some];unfold Zwr
  cases less p.2.2.1 r with
  |true=>
   simp only[cond_true,Voa,Vn hi,bind_some]
  |false=>
   simp only[cond_false];rw[<-hp,Vgb]
def ZgT(f:ZaF)(x:Zaq)(prev:Int):ZaF:=(f.1,f.2.1++[(x,prev,())],f.2.2)
theorem ZsY(f:ZaF)(hl:f.2.1.length<4000000000)(x:Zaq)(prev:Int):F120 f x prev=some (ZgT f x prev,(f.2.1.length:Int)):=by
 unfold F120 ZgT;rw[ZaQ (by simp;omega)]
 have e:Vc .i64 (((f.2.1++[(x,prev,())]).length:Int) - 1)=(f.2.1.length:Int):=by rw[Vha];simp only[Vda,Vfa];rw[Zae (by omega) (by omega)];omega
 rw[e];rfl
theorem ZgU(b:ZcA)(c:Int):F116 b c=some (less b.1 c):=by unfold F116;rw[ZeJ];rfl
def Zbh(f:ZaF)(i:Nat)(b:ZcA):ZaF:=
 bif !(rn f.1 (i:Int)).2.2.2.2.2.2.1&&less ((f.2.2.2.2.1[i]?).getD (0,0,false,())).1 b.1 then(f.1,f.2.1,f.2.2.1,f.2.2.2.1,f.2.2.2.2.1.set i b,f.2.2.2.2.2.1++[(i:Int)],f.2.2.2.2.2.2) else f
theorem ZjJ(f:ZaF){i:Nat}(hi:i<f.1.2.2.1.length)(hr:f.2.2.2.2.1.length=f.1.2.2.1.length)(ho:f.2.2.2.2.2.1.length<4000000000)(b:ZcA):F121 f (i:Int) b=some (Zbh f i b):=by
 unfold F121 Zbh;have hi' :i<f.2.2.2.2.1.length:=by omega
 have e:rn f.1 (i:Int)=f.1.2.2.1[i]:=by unfold rn;rw[Ve,Zak hi]
 rw[e,Zak hi'];simp only[Zaf hi,bind_some,ZaB hi',Va hi',ZgU];rw[ZaQ (by simp;omega)]
 cases (f.1.2.2.1[i]).2.2.2.2.2.2.1 with
 |true=>rfl
 |false=>
  simp only[Vl,cond_true,bind_some,Vm]
  cases less (f.2.2.2.2.1[i]).1 b.1<;>rfl
theorem ZqJ(f:ZaF)(i:Nat)(b:ZcA): (Zbh f i b).1=f.1:=by unfold Zbh;cases (!(rn f.1 (i:Int)).2.2.2.2.2.2.1&&less ((f.2.2.2.2.1[i]?).getD (0,0,false,())).1 b.1)<;>rfl
theorem Zf8(f:ZaF)(i:Nat)(b:ZcA): (Zbh f i b).2.1=f.2.1:=by unfold Zbh;cases (!(rn f.1 (i:Int)).2.2.2.2.2.2.1&&less ((f.2.2.2.2.1[i]?).getD (0,0,false,())).1 b.1)<;>rfl
theorem ZqO(f:ZaF)(i:Nat)(b:ZcA): (Zbh f i b).2.2.1=f.2.2.1:=by unfold Zbh;cases (!(rn f.1 (i:Int)).2.2.2.2.2.2.1&&less ((f.2.2.2.2.1[i]?).getD (0,0,false,())).1 b.1)<;>rfl
theorem Zk6(f:ZaF)(i:Nat)(b:ZcA): (Zbh f i b).2.2.2.1=f.2.2.2.1:=by unfold Zbh;cases (!(rn f.1 (i:Int)).2.2.2.2.2.2.1&&less ((f.2.2.2.2.1[i]?).getD (0,0,false,())).1 b.1)<;>rfl
theorem Zot(f:ZaF)(i:Nat)(b:ZcA): (Zbh f i b).2.2.2.2.1.length=f.2.2.2.2.1.length:=by
 unfold Zbh
 cases (!(rn f.1 (i:Int)).2.2.2.2.2.2.1&&less ((f.2.2.2.2.1[i]?).getD (0,0,false,())).1 b.1) with
 |false=>rfl
 |true=>exact Vv ..
theorem Zp6(f:ZaF)(i:Nat)(b:ZcA): (Zbh f i b).2.2.2.2.2.2=f.2.2.2.2.2.2:=by unfold Zbh;cases (!(rn f.1 (i:Int)).2.2.2.2.2.2.1&&less ((f.2.2.2.2.1[i]?).getD (0,0,false,())).1 b.1)<;>rfl
theorem ZoK(f:ZaF)(i:Nat)(b:ZcA): (Zbh f i b).2.2.2.2.2.1.length<=f.2.2.2.2.2.1.length+1:=by
 unfold Zbh
 cases (!(rn f.1 (i:Int)).2.2.2.2.2.2.1&&less ((f.2.2.2.2.1[i]?).getD (0,0,false,())).1 b.1) with
 |false=>simp
 |true=>simp
def Za4(s at' prev:Int)(f:ZaF)(p:Zb3):ZaF:=
 if p.1=s/\at' +p.2.2.1<=3155932800 then Zg0 (ZgT f (false,0,0,0,s,p.2.1,at',at' +p.2.2.1,false,()) prev) p.2.1.toNat (at' +p.2.2.1) (at' +p.2.2.1) (f.2.1.length:Int) else f
def ZhQ(f:ZaF)(s at' prev:Int):ZaF:=f.1.2.2.2.2.1.foldl (Za4 s at' prev) f
structure Zlt (f g:ZaF) (k:Nat):Prop where
 net:g.1=f.1
 lab:g.2.1.length<=f.2.1.length+k
 now:g.2.2.1.length=f.2.2.1.length
theorem Zlt.refl(f:ZaF):Zlt f f 0:=⟨rfl,by omega,rfl⟩
theorem Zlt.trans{f g h:ZaF}{a b:Nat}(x:Zlt f g a)(y:Zlt g h b):Zlt f h (a+b):=
 ⟨y.net.trans x.net,by have:=x.lab;have:=y.lab;omega,y.now.trans x.now⟩
theorem ZjY(s at' prev:Int)(f:ZaF)(p:Zb3):Zlt f (Za4 s at' prev f p) 1:=by
 unfold Za4;split
 ·exact⟨rfl,by simp [Zg0,ZgT],by simp [Zg0,ZgT,Vnb]⟩
 ·exact⟨rfl,by omega,rfl⟩
theorem Zcf(s at' prev:Int): ∀ (l:List Zb3) (f:ZaF),Zlt f (l.foldl (Za4 s at' prev) f) l.length
 | [],f=>Zlt.refl f
 |p::l,f=>by have h:=(ZjY s at' prev f p).trans (Zcf s at' prev l _);simp only[List.foldl_cons,Vda];exact⟨h.net,by have:=h.lab;omega,h.now⟩
theorem Zpm(f:ZaF){s at' :Int}(prev:Int)(h0:0<=at')(h1:at' <=3155932800)(hl:f.2.1.length+f.1.2.2.2.2.1.length<4000000000)(hp:f.1.2.2.2.2.1.length<=4096)
  (hto: ∀p∈f.1.2.2.2.2.1,0<=p.2.1/\p.2.1< (f.2.2.1.length:Int)/\0<=p.2.2.1/\p.2.2.1<=14400):F127 f s at' prev=some (ZhQ f s at' prev):=by
 unfold F127 ZhQ;generalize hpp:f.1.2.2.2.2.1=l at*;refine Zbk (fun r=>r=l.foldl (Za4 s at' prev) f) ?_ (fun r hr=>by rw[hr]);refine ZaL l.length _ (fun i (st:ZaF×Int)=>st=((l.take i).foldl (Za4 s at' prev) f,(i:Int))) ?_ ?_ _ rfl
 ·rintro i _ hi rfl;left;have hk:=Zcf s at' prev (l.take i) f;have hk2:=hk.lab;rw[Vt]at hk2;have hnet: ((l.take i).foldl (Za4 s at' prev) f).1.2.2.2.2.1=l:=by rw[hk.net,hpp]
  have e2: (l.take (i+1)).foldl (Za4 s at' prev) f=Za4 s at' prev ((l.take i).foldl (Za4 s at' prev) f) l[i]:=by rw[Vh hi,Vta];rfl
  rw[e2];have hmem:=hto _ (Vf hi);generalize hg: (l.take i).foldl (Za4 s at' prev) f=g at*;have w1:Vc .i64 (at' +(l[i]).2.2.1)=at' +(l[i]).2.2.1:=Zae (by omega) (by omega);simp only[Zav hi,cond_true,Zaf hi,bind_some,Zai hi (show _<=9223372036854775807 by omega),w1];unfold Za4;by_cases hc: (l[i]).1=s
  ·rw[decide_eq_true hc];simp only[cond_true,bind_some];by_cases hm:at' +(l[i]).2.2.1<=3155932800
   ·rw[decide_eq_true hm,if_pos ⟨hc,hm⟩];simp only[cond_true];rw[ZsY g (by omega)];simp only[bind_some];obtain⟨j,hj⟩: ∃j:Nat,(l[i]).2.1=(j:Int):=⟨(l[i]).2.1.toNat,by omega⟩;rw[hj]
    have hjl:j< (ZgT g (false,0,0,0,s,(j:Int),at',at' +(l[i]).2.2.1,false,()) prev).2.2.1.length:=by show j<g.2.2.1.length;rw[hk.now];omega
    rw[ZgQ _ hjl];exact⟨_,rfl,by rw[Ve]⟩
   ·rw[decide_eq_false hm,if_neg (fun h=>hm h.2)];exact⟨_,rfl,rfl⟩
  ·rw[decide_eq_false hc,if_neg (fun h=>hc h.1)];exact⟨_,rfl,rfl⟩
 ·rintro _ rfl;rw[Vq];have hk:=Zcf s at' prev l f;simp only[Zaw,cond_false];exact⟨_,rfl,rfl⟩
def lkI(n:Zat)(k:Int):Zlf:=(n.2.2.2.1[k.toNat]?).getD (0,0,0,0,false,())
def ZiY(f:ZaF)(i:Nat)(b:ZcA):ZaF:=(f.1,f.2.1,f.2.2.1,f.2.2.2.1.set i b,f.2.2.2.2)
def ZaG(call:Int)(arr l:Int)(al:Bool)(f:ZaF)(k:Int):ZaF:=
 bif !decide ((lkI f.1 k).2.1=call) ||decide ((cl (rn f.1 (lkI f.1 k).2.2.1).2.2.2.2.2.2.2.1 (lkI f.1 k).2.2.2.1).2.2.1<arr) then f else
 bif (lkI f.1 k).2.2.2.2.1 then Zbh f (lkI f.1 k).2.2.1.toNat ((lkI f.1 k).2.2.2.1,l,true,()) else
 bif al&& ((cl (rn f.1 (lkI f.1 k).2.2.1).2.2.2.2.2.2.2.1 (lkI f.1 k).2.2.2.1).2.2.2.1&&less ((f.2.2.2.1[(lkI f.1 k).2.2.1.toNat]?).getD (0,0,false,())).1 (lkI f.1 k).2.2.2.1) then ZiY f (lkI f.1 k).2.2.1.toNat ((lkI f.1 k).2.2.2.1,l,false,()) else f
def ZbD(f:ZaF)(run call l:Int)(al:Bool):ZaF:=
 ((f.2.2.2.2.2.2.1[run.toNat]?).getD []).foldl (ZaG call (cl (rn f.1 run).2.2.2.2.2.2.2.1 call).2.1 l al) f
structure Zbt (f g:ZaF) (k:Nat):Prop where
 net:g.1=f.1
 now:g.2.2.1.length=f.2.2.1.length
 linked:g.2.2.2.1.length=f.2.2.2.1.length
 runs:g.2.2.2.2.1.length=f.2.2.2.2.1.length
 opn:g.2.2.2.2.2.1.length<=f.2.2.2.2.2.1.length+k
 out:g.2.2.2.2.2.2=f.2.2.2.2.2.2
theorem Zbt.refl(f:ZaF):Zbt f f 0:=⟨rfl,rfl,rfl,rfl,by omega,rfl⟩
theorem Zbt.trans{f g h:ZaF}{a b:Nat}(x:Zbt f g a)(y:Zbt g h b):Zbt f h (a+b):=
 ⟨y.net.trans x.net,y.now.trans x.now,y.linked.trans x.linked,y.runs.trans x.runs,by have:=x.opn;have:=y.opn;omega,y.out.trans x.out⟩
theorem Zbt.weak{f g:ZaF}{a b:Nat}(x:Zbt f g a)(h:a<=b):Zbt f g b:=⟨x.net,x.now,x.linked,x.runs,by have:=x.opn;omega,x.out⟩
theorem Zcq(f:ZaF)(i:Nat)(b:ZcA):Zbt f (Zbh f i b) 1:=
 ⟨ZqJ ..,congrArg Vg (ZqO ..),congrArg Vg (Zk6 ..),Zot ..,ZoK ..,Zp6 ..⟩
theorem Zc3(call arr l:Int)(al:Bool)(f:ZaF)(k:Int):Zbt f (ZaG call arr l al f k) 1/\(ZaG call arr l al f k).2.1=f.2.1:=by
 unfold ZaG
 cases (!decide ((lkI f.1 k).2.1=call) ||decide ((cl (rn f.1 (lkI f.1 k).2.2.1).2.2.2.2.2.2.2.1 (lkI f.1 k).2.2.2.1).2.2.1<arr)) with
 |true=>exact⟨(Zbt.refl f).weak (by omega),rfl⟩
 |false=>
  simp only[cond_false]
  cases (lkI f.1 k).2.2.2.2.1 with
  |true=>exact⟨Zcq ..,Zf8 ..⟩
  |false=>
   simp only[cond_false]
   cases (al&& ((cl (rn f.1 (lkI f.1 k).2.2.1).2.2.2.2.2.2.2.1 (lkI f.1 k).2.2.2.1).2.2.2.1&&less ((f.2.2.2.1[(lkI f.1 k).2.2.1.toNat]?).getD (0,0,false,())).1 (lkI f.1 k).2.2.2.1)) with
   |true=>exact⟨⟨rfl,rfl,Vv ..,rfl,by show f.2.2.2.2.2.1.length<=_;omega,rfl⟩,rfl⟩
   |false=>exact⟨(Zbt.refl f).weak (by omega),rfl⟩
theorem Zc0(call arr l:Int)(al:Bool): ∀ (ks:List Int) (f:ZaF),Zbt f (ks.foldl (ZaG call arr l al) f) ks.length/\(ks.foldl (ZaG call arr l al) f).2.1=f.2.1
 | [],f=>⟨Zbt.refl f,rfl⟩
 |k::ks,f=>by obtain⟨h1,h2⟩:=Zc3 call arr l al f k;obtain⟨h3,h4⟩:=Zc0 call arr l al ks (ZaG call arr l al f k);exact⟨(h1.trans h3).weak (by simp;omega),h4.trans h2⟩
structure Zmm (n:Zat) (x:Zlf):Prop where
 to:inR x.2.2.1 n.2.2.1.length=true
 call:inR x.2.2.2.1 (rn n x.2.2.1).2.2.2.2.2.2.2.1.length=true
theorem ZnS(f:ZaF){run call:Int}(l:Int)(al:Bool)(hrun:inR run f.1.2.2.1.length=true)(hcall:inR call (rn f.1 run).2.2.2.2.2.2.2.1.length=true)
  (hout:f.2.2.2.2.2.2.1.length=f.1.2.2.1.length) (hlk: ∀ks∈f.2.2.2.2.2.2.1,ks.length<=1024/\ ∀k∈ks,inR k f.1.2.2.2.1.length=true/\Zmm f.1 (lkI f.1 k))
  (hr:f.2.2.2.2.1.length=f.1.2.2.1.length) (hn:f.2.2.2.1.length=f.1.2.2.1.length) (ho:f.2.2.2.2.2.1.length+1024<4000000000):F122 f run call l al=some (ZbD f run call l al):=by
 unfold F122 ZbD;rw[Za6 hrun u0];simp only[bind_some];rw[show ((f.1.2.2.1[run.toNat]?).getD u0)=rn f.1 run from rfl,Za6 hcall c0];simp only[bind_some];rw[show (((rn f.1 run).2.2.2.2.2.2.2.1[call.toNat]?).getD c0)=cl (rn f.1 run).2.2.2.2.2.2.2.1 call from rfl];have hro:inR run f.2.2.2.2.2.2.1.length=true:=by rw[hout];exact hrun
 rw[Za6 hro []];simp only[bind_some]
 have hrl:run.toNat<f.2.2.2.2.2.2.1.length:=by unfold inR at hro;simp only[Vd,decide_eq_true_eq]at hro;omega
 have hks:=hlk _ (by rw[Zak hrl (d:=[])];exact Vf hrl: (f.2.2.2.2.2.2.1[run.toNat]?).getD []∈f.2.2.2.2.2.2.1);generalize (f.2.2.2.2.2.2.1[run.toNat]?).getD []=ks at*;generalize (cl (rn f.1 run).2.2.2.2.2.2.2.1 call).2.1=arr;obtain⟨hkl,hkm⟩:=hks;refine Zbk (fun r=>r=ks.foldl (ZaG call arr l al) f) ?_ (fun r hr=>by rw[hr]);refine ZaL ks.length _ (fun i (st:ZaF×Int)=>st=((ks.take i).foldl (ZaG call arr l al) f,(i:Int))) ?_ ?_ _ rfl
 ·rintro i _ hi rfl;left;obtain⟨hk,hlab⟩:=Zc0 call arr l al (ks.take i) f;have e2: (ks.take (i+1)).foldl (ZaG call arr l al) f=ZaG call arr l al ((ks.take i).foldl (ZaG call arr l al) f) ks[i]:=by rw[Vh hi,Vta];rfl
  rw[e2];obtain⟨hm1,hm2⟩:=hkm _ (Vf hi);have hopn:=hk.opn;rw[Vt]at hopn;have hnet:=hk.net;have hlinked:=hk.linked;have hruns:=hk.runs;generalize (ks.take i).foldl (ZaG call arr l al) f=g at*;rw[<-hnet]at hm1 hm2 hr hn;obtain⟨ht,hc⟩:=hm2;simp only[Zav hi,cond_true,Zaf hi,bind_some,Zai hi (show _<=9223372036854775807 by omega)];rw[Za6 hm1 (0,0,0,0,false,())];simp only[bind_some];rw[show ((g.1.2.2.2.1[(ks[i]).toNat]?).getD (0,0,0,0,false,()))=lkI g.1 ks[i] from rfl];unfold ZaG;generalize lkI g.1 ks[i]=x at*;rw[Za6 ht u0];simp only[bind_some];rw[show ((g.1.2.2.1[x.2.2.1.toNat]?).getD u0)=rn g.1 x.2.2.1 from rfl,Za6 hc c0]
  simp only[bind_some];rw[show (((rn g.1 x.2.2.1).2.2.2.2.2.2.2.1[x.2.2.2.1.toNat]?).getD c0)=cl (rn g.1 x.2.2.1).2.2.2.2.2.2.2.1 x.2.2.2.1 from rfl];generalize cl (rn g.1 x.2.2.1).2.2.2.2.2.2.2.1 x.2.2.2.1=c at*;have ht2:=ht;unfold inR at ht2;simp only[Vd,decide_eq_true_eq]at ht2;obtain⟨j,hj⟩: ∃j:Nat,x.2.2.1=(j:Int):=⟨x.2.2.1.toNat,by omega⟩;have hjl:j<g.1.2.2.1.length:=by omega
  rw[hj];simp only[Ve];have hb:=ZjJ g hjl (by omega) (by omega) (x.2.2.2.1,l,true,());have hjn:j<g.2.2.2.1.length:=by omega
  have e1: (bif !decide (x.2.1=call) then some true else some (decide (c.2.2.1<arr)))=some (!decide (x.2.1=call) ||decide (c.2.2.1<arr)):=by
   cases decide (x.2.1=call)<;>rfl
  rw[e1];simp only[bind_some]
  cases (!decide (x.2.1=call) ||decide (c.2.2.1<arr)) with
  |true=>exact⟨_,rfl,rfl⟩
  |false=>
   simp only[cond_false]
   cases x.2.2.2.2.1 with
   |true=>
    simp only[cond_true];rw[hb]
    exact⟨_,rfl,rfl⟩
   |false=>
    simp only[cond_false,ZaB hjn,bind_some,Va hjn,ZgU]
    cases al with
    |false=>exact⟨_,rfl,rfl⟩
    |true=>
     simp only[cond_true,Vm]
     cases c.2.2.2.1 with
     |false=>exact⟨_,rfl,rfl⟩
     |true=>
      simp only[cond_true,bind_some,Vm,Vu]
      cases less (g.2.2.2.1[j]).1 x.2.2.2.1 with
      |false=>exact⟨_,rfl,rfl⟩
      |true=>exact⟨_,rfl,rfl⟩
 ·rintro _ rfl;rw[Vq];simp only[Zaw,cond_false];exact⟨_,rfl,rfl⟩
def Zmu(f:ZaF)(i:Nat)(a l:Int):ZaF:=(f.1,f.2.1,f.2.2.1.modify i fun p=>(p.1,a,p.2.2.1,p.2.2.2.1,l,p.2.2.2.2.2),f.2.2.2)
def ZmG(f:ZaF)(s:Int):ZbK:=(f.2.2.1[s.toNat]?).getD (0,0,0,0,0,0,())
def ZhR(f:ZaF)(run:Int):List Int:=(f.2.2.2.2.2.2.1[run.toNat]?).getD []
def Zbp(run:Int)(b:ZcA)(fr:Zbd)(l:List Zbd)(f:ZaF)(i:Nat):ZaF:=
 bif !(cl l (i:Int)).2.2.2.2.1&&decide ((ZhR f run).length=0) then f else
 bif (cl l (i:Int)).2.2.2.2.1&&less (ZmG (ZbD (ZgT f (true,run,b.1,(i:Int),fr.1,(cl l (i:Int)).1,fr.2.2.1,(cl l (i:Int)).2.1,b.2.2.1,()) b.2.1) run (i:Int) (f.2.1.length:Int) (cl l (i:Int)).2.2.2.2.1) (cl l (i:Int)).1).2.1 (cl l (i:Int)).2.1 then
  Zmu (ZbD (ZgT f (true,run,b.1,(i:Int),fr.1,(cl l (i:Int)).1,fr.2.2.1,(cl l (i:Int)).2.1,b.2.2.1,()) b.2.1) run (i:Int) (f.2.1.length:Int) (cl l (i:Int)).2.2.2.2.1) (cl l (i:Int)).1.toNat (cl l (i:Int)).2.1 (f.2.1.length:Int)
 else ZbD (ZgT f (true,run,b.1,(i:Int),fr.1,(cl l (i:Int)).1,fr.2.2.1,(cl l (i:Int)).2.1,b.2.2.1,()) b.2.1) run (i:Int) (f.2.1.length:Int) (cl l (i:Int)).2.2.2.2.1
theorem ZeH(f:ZaF)(x:Zaq)(p:Int):Zbt f (ZgT f x p) 0:=⟨rfl,rfl,rfl,rfl,by show f.2.2.2.2.2.1.length<=_;omega,rfl⟩
theorem Zob(f:ZaF)(i:Nat)(a l:Int):Zbt f (Zmu f i a l) 0:=⟨rfl,Vnb ..,rfl,rfl,by show f.2.2.2.2.2.1.length<=_;omega,rfl⟩
theorem Zde(f:ZaF)(run call l:Int)(al:Bool):Zbt f (ZbD f run call l al) (ZhR f run).length/\(ZbD f run call l al).2.1=f.2.1:=Zc0 ..
theorem ZjG(run:Int)(b:ZcA)(fr:Zbd)(l:List Zbd)(f:ZaF)(i:Nat):Zbt f (Zbp run b fr l f i) (ZhR f run).length/\(Zbp run b fr l f i).2.1.length<=f.2.1.length+1:=by
 unfold Zbp
 cases (!(cl l (i:Int)).2.2.2.2.1&&decide ((ZhR f run).length=0)) with
 |true=>exact⟨(Zbt.refl f).weak (Vla _),Nat.le_succ _⟩
 |false=>
  simp only[cond_false];generalize (true,run,b.1,(i:Int),fr.1,(cl l (i:Int)).1,fr.2.2.1,(cl l (i:Int)).2.1,b.2.2.1,())=x;obtain⟨h1,h2⟩:=Zde (ZgT f x b.2.1) run (i:Int) (f.2.1.length:Int) (cl l (i:Int)).2.2.2.2.1;have h3:=(ZeH f x b.2.1).trans h1;have ho:ZhR (ZgT f x b.2.1) run=ZhR f run:=rfl;rw[ho]at h3
  have hlab: (ZbD (ZgT f x b.2.1) run (i:Int) (f.2.1.length:Int) (cl l (i:Int)).2.2.2.2.1).2.1.length=f.2.1.length+1:=by rw[h2];simp [ZgT]
  cases ((cl l (i:Int)).2.2.2.2.1&&less (ZmG (ZbD (ZgT f x b.2.1) run (i:Int) (f.2.1.length:Int) (cl l (i:Int)).2.2.2.2.1) (cl l (i:Int)).1).2.1 (cl l (i:Int)).2.1) with
  |true=>
   simp only[cond_true];refine⟨(h3.trans (Zob ..)).weak (by omega), ?_⟩;show (ZbD (ZgT f x b.2.1) run (i:Int) (f.2.1.length:Int) (cl l (i:Int)).2.2.2.2.1).2.1.length<=_
   omega
  |false=>
   simp only[cond_false];exact⟨h3.weak (by omega),by omega⟩
structure St (f:ZaF):Prop where
 sound:Zct f.1
 now:f.2.2.1.length=f.1.1.length
 linked:f.2.2.2.1.length=f.1.2.2.1.length
 runs:f.2.2.2.2.1.length=f.1.2.2.1.length
 outl:f.2.2.2.2.2.2.1.length=f.1.2.2.1.length
 out: ∀ks∈f.2.2.2.2.2.2.1,ks.length<=1024/\ ∀k∈ks,inR k f.1.2.2.2.1.length=true/\Zmm f.1 (lkI f.1 k)
theorem St.step{f g:ZaF}{k:Nat}(h:St f)(x:Zbt f g k):St g:=
 ⟨by rw[x.net];exact h.sound,by rw[x.now,x.net];exact h.now,by rw[x.linked,x.net];exact h.linked,by rw[x.runs,x.net];exact h.runs,by rw[x.out,x.net];exact h.outl,by rw[x.out,x.net];exact h.out⟩
theorem Zsz{f:ZaF}(h:St f)(run:Int): (ZhR f run).length<=1024:=by
 unfold ZhR;by_cases hr:run.toNat<f.2.2.2.2.2.2.1.length
 ·rw[Zak hr];exact(h.out _ (Vf hr)).1
 ·rw[Vka (by omega)];simp
theorem ZkT{f:ZaF}(h:St f){run i:Nat}(b:ZcA)(fr:Zbd)(hrun:run<f.1.2.2.1.length)(hi:i< (f.1.2.2.1[run]).2.2.2.2.2.2.2.1.length)(hl:f.2.1.length<4000000000)(ho:f.2.2.2.2.2.1.length+1024<4000000000):
  (Vb (idx (f.1.2.2.1[run]).2.2.2.2.2.2.2.1 (i:Int)) fun x5=>
 Vb
 (bif !x5.2.2.2.2.1 then Vb (idx f.2.2.2.2.2.2.1 (run:Int)) fun x6=>some (decide ((↑(Vg x6):Int)=(0:Int)))
 else some false)
 fun x7=>
 bif x7 then
 some
 (Sum.inl
 (f,
 Vc .i64 ((i:Int)+(1:Int))))
 else
 Vb
 (F120
 f
 (true,(run:Int),b.1,(i:Int),fr.1,x5.1,fr.2.2.1,x5.2.1,b.2.2.1,()) b.2.1)
 fun x8=>
 Vb
 (F122
 x8.1
 (run:Int) (i:Int) x8.2 x5.2.2.2.2.1)
 fun x9=>
 Vb (inb x5.1 (Vg x9.2.2.1)) fun x10=>
 Vb
 (bif x5.2.2.2.2.1 then
 Vb x9.2.2.1[x10]? fun x11=>
 bif decide (x11.2.1=(-1:Int)) then some true
 else Vb x9.2.2.1[x10]? fun x12=>some (decide (x5.2.1<x12.2.1))
 else some false)
 fun x13=>
 bif x13 then
 Vb x9.2.2.1[x10]? fun x14=>
 Vb (Vub x9.2.2.1 x10 (x14.1,x5.2.1,x14.2.2))[x10]? fun x15=>
 some
 (.inl
 ((x9.1,x9.2.1,
 Vub (Vub x9.2.2.1 x10 (x14.1,x5.2.1,x14.2.2)) x10
 (x15.1,x15.2.1,x15.2.2.1,x15.2.2.2.1,x8.2,x15.2.2.2.2.2),
 x9.2.2.2.1,x9.2.2.2.2.1,x9.2.2.2.2.2.1,x9.2.2.2.2.2.2.1,()),
 Vc .i64 ((i:Int)+(1:Int))))
 else
 some
 (.inl
 (x9,
 Vc .i64 ((i:Int)+(1:Int)))))=(some (.inl (Zbp (run:Int) b fr (f.1.2.2.1[run]).2.2.2.2.2.2.2.1 f i,((i+1:Nat):Int))):Option ((ZaF×Int) ⊕ ZaF)):=by
 have hmem:=Vf hrun;have hcalls:=(h.sound.many _ hmem).2;have w1:Vc .i64 ((i:Int)+1)=((i+1:Nat):Int):=by rw[Zae (by omega) (by omega)];omega
 have ec:cl (f.1.2.2.1[run]).2.2.2.2.2.2.2.1 (i:Int)=(f.1.2.2.1[run]).2.2.2.2.2.2.2.1[i]:=by unfold cl;rw[Ve,Zak hi]
 have hst:=h.sound.call _ hmem _ (Vf hi);unfold Zbp;rw[ec,w1];simp only[Zaf hi,bind_some];have ho2:run<f.2.2.2.2.2.2.1.length:=by rw[h.outl];exact hrun
 have eo:ZhR f (run:Int)=f.2.2.2.2.2.2.1[run]:=by unfold ZhR;rw[Ve,Zak ho2]
 rw[eo];simp only[Zaf ho2,bind_some]
 have hcall:inR (i:Int) (rn f.1 (run:Int)).2.2.2.2.2.2.2.1.length=true:=by unfold rn inR;rw[Ve,Zak hrun,Vd,decide_eq_true_eq,decide_eq_true_eq];omega
 have hrr:inR (run:Int) f.1.2.2.1.length=true:=by unfold inR;rw[Vd,decide_eq_true_eq,decide_eq_true_eq];omega
 generalize (f.1.2.2.1[run]).2.2.2.2.2.2.2.1[i]=c at*
 have e1: (bif !c.2.2.2.2.1 then some (decide (((f.2.2.2.2.2.2.1[run]).length:Int)=0)) else some false)=some (!c.2.2.2.2.1&&decide ((f.2.2.2.2.2.2.1[run]).length=0)):=by
  rw[show decide (((f.2.2.2.2.2.2.1[run]).length:Int)=0)=decide ((f.2.2.2.2.2.2.1[run]).length=0) from decide_eq_decide.2 (by omega)]
  cases c.2.2.2.2.1<;>rfl
 rw[e1];simp only[bind_some]
 cases (!c.2.2.2.2.1&&decide ((f.2.2.2.2.2.2.1[run]).length=0)) with
 |true=>rfl
 |false=>
  simp only[cond_false];rw[ZsY f hl];simp only[bind_some];generalize (true,(run:Int),b.1,(i:Int),fr.1,c.1,fr.2.2.1,c.2.1,b.2.2.1,())=x;have hA:=ZeH f x b.2.1;have hS:=h.step hA;rw[ZnS (ZgT f x b.2.1) (f.2.1.length:Int) c.2.2.2.2.1 hrr hcall hS.outl hS.out hS.runs hS.linked ho];simp only[bind_some];have hG:=hS.step (Zde (ZgT f x b.2.1) (run:Int) (i:Int) (f.2.1.length:Int) c.2.2.2.2.1).1;have hnet:=(Zde (ZgT f x b.2.1) (run:Int) (i:Int) (f.2.1.length:Int) c.2.2.2.2.1).1.net;generalize ZbD (ZgT f x b.2.1) (run:Int) (i:Int) (f.2.1.length:Int) c.2.2.2.2.1=g at*;obtain⟨s,hs⟩: ∃s:Nat,c.1=(s:Int):=⟨c.1.toNat,by omega⟩
  have hsl:s<g.2.2.1.length:=by rw[hG.now,hnet];show s<f.1.1.length;omega
  rw[hs];unfold ZmG;simp only[ZaB hsl,bind_some,Va hsl,Ve,Vu];rw[ZeJ]
  cases c.2.2.2.2.1 with
  |false=>rfl
  |true=>
   simp only[cond_true,bind_some,Vm]
   cases less (g.2.2.1[s]).2.1 c.2.1 with
   |false=>rfl
   |true=>
    simp only[cond_true,Vn hsl,bind_some,Voa];unfold Zmu;rw[Zj8 hsl]
def Zc5(run:Int)(b:ZcA)(fr:Zbd)(l:List Zbd)(k:Nat):Nat->ZaF->ZaF
 |0,f=>f
 |m+1,f=>Zbp run b fr l (Zc5 run b fr l k m f) (k+m)
theorem ZcK(run:Int)(b:ZcA)(fr:Zbd)(l:List Zbd)(k:Nat): ∀ (m:Nat) (f:ZaF),St f->Zbt f (Zc5 run b fr l k m f) (1024*m)/\(Zc5 run b fr l k m f).2.1.length<=f.2.1.length+m
 |0,f,_=>⟨(Zbt.refl f).weak (by omega),by show f.2.1.length<=_;omega⟩
 |m+1,f,h=>by obtain⟨h1,h2⟩:=ZcK run b fr l k m f h;obtain⟨h3,h4⟩:=ZjG run b fr l (Zc5 run b fr l k m f) (k+m);have h5:=Zsz (h.step h1) run;refine⟨(h1.trans h3).weak (by omega), ?_⟩;show (Zbp run b fr l (Zc5 run b fr l k m f) (k+m)).2.1.length<=_;omega
def Zc6(f:ZaF)(i:Nat):ZaF:=
 Zc5 (i:Int) ((f.2.2.2.2.1[i]?).getD (0,0,false,())) (cl (rn f.1 (i:Int)).2.2.2.2.2.2.2.1 ((f.2.2.2.2.1[i]?).getD (0,0,false,())).1) (rn f.1 (i:Int)).2.2.2.2.2.2.2.1 (((f.2.2.2.2.1[i]?).getD (0,0,false,())).1.toNat+1)
  ((rn f.1 (i:Int)).2.2.2.2.2.2.2.1.length - (((f.2.2.2.2.1[i]?).getD (0,0,false,())).1.toNat+1)) f
theorem Zr5{f:ZaF}(h:St f){i:Nat}(hi:i<f.1.2.2.1.length)(hb:inR ((f.2.2.2.2.1[i]?).getD (0,0,false,())).1 (f.1.2.2.1[i]).2.2.2.2.2.2.2.1.length=true)(hl:f.2.1.length+100<4000000000)(ho:f.2.2.2.2.2.1.length+100000<4000000000):
  F126 f (i:Int)=some (Zc6 f i):=by
 unfold F126 Zc6;have hi' :i<f.2.2.2.2.1.length:=by rw[h.runs];exact hi
 have hr:rn f.1 (i:Int)=f.1.2.2.1[i]:=by unfold rn;rw[Ve,Zak hi]
 rw[hr];rw[Zak hi']at hb ⊢;simp only[ZaB hi',bind_some,Va hi',Zaf hi];generalize f.2.2.2.2.1[i]=b at*;have hcalls:=(h.sound.many _ (Vf hi)).2;rw[Za6 hb c0];simp only[bind_some];rw[show (((f.1.2.2.1[i]).2.2.2.2.2.2.2.1[b.1.toNat]?).getD c0)=cl (f.1.2.2.1[i]).2.2.2.2.2.2.2.1 b.1 from rfl];generalize cl (f.1.2.2.1[i]).2.2.2.2.2.2.2.1 b.1=fr;unfold inR at hb;simp only[Vd,decide_eq_true_eq]at hb;obtain⟨k,hk⟩: ∃k:Nat,b.1=(k:Int):=⟨b.1.toNat,by omega⟩;generalize hL: (f.1.2.2.1[i]).2.2.2.2.2.2.2.1=l at*;have hkl:k<l.length:=by omega
 have w0:Vc .i64 (b.1+1)=((k+1+0:Nat):Int):=by rw[hk,Zae (by omega) (by omega)];omega
 rw[w0,show b.1.toNat=k by omega];refine Zbk (fun r=>r=Zc5 (i:Int) b fr l (k+1) (l.length - (k+1)) f) ?_ (fun r hr=>by rw[hr]);refine ZaL (l.length - (k+1)) _ (fun m (st:ZaF×Int)=>st=(Zc5 (i:Int) b fr l (k+1) m f,((k+1+m:Nat):Int))) ?_ ?_ _ rfl
 ·rintro m _ hm rfl;left;obtain⟨h1,h2⟩:=ZcK (i:Int) b fr l (k+1) m f h;have hS:=h.step h1;have hnet:=h1.net;have hopn:=h1.opn;show∃s',_=_/\s' =(Zbp (i:Int) b fr l (Zc5 (i:Int) b fr l (k+1) m f) (k+1+m),((k+1+m+1:Nat):Int));generalize Zc5 (i:Int) b fr l (k+1) m f=g at*;have hrun:i<g.1.2.2.1.length:=by rw[hnet];exact hi
  have hL2: (g.1.2.2.1[i]).2.2.2.2.2.2.2.1=l:=by
   have:g.1.2.2.1[i]=f.1.2.2.1[i]:=by simp only[hnet]
   rw[this,hL]
  have hv:=ZkT hS (run:=i) (i:=k+1+m) b fr hrun (by rw[hL2];omega) (by omega) (by omega);rw[hL2]at hv;refine⟨_, ?_,rfl⟩;rw[Zav (show k+1+m<l.length by omega)];exact hv
 ·rintro _ rfl;rw[show k+1+(l.length - (k+1))=l.length by omega];simp only[Zaw,cond_false];exact⟨_,rfl,rfl⟩
end Q
namespace Q
open Tr Go
open Option (bind_some)
abbrev b00:ZcA:=(-1, -1,false,())
theorem Zhx{n:Nat}(hn:n<=4096):F128 (n:Int)=some (Vj n b00):=by
 unfold F128
 have hg:Zan (decide ((0:Int)<=(n:Int)/\(n:Int)<=(n:Int)/\(n:Int)<=(Zam:Int)))=some ():=by
  have hm: (Zam:Int)=549755813888:=by simp [Zam]
  rw[decide_eq_true (by rw[hm];omega)];rfl
 erw[hg];simp only[bind_some,Ve,Vib];refine Zbk (fun r=>r=Vj n b00) ?_ (fun r hr=>by rw[hr]);refine ZaL n _ (fun i (st:List ZcA×Int)=>st=(Vj i b00++Vj (n - i) (0,0,false,()),(i:Int))) ?_ ?_ _ (by simp)
 ·rintro i _ hi rfl;left;have hlen: (Vj i b00++Vj (n - i) ((0,0,false,()):ZcA)).length=n:=by simp;omega
  simp only[Zav hi,cond_true,hlen,ZaB hi,bind_some];rw[Va (by rw[hlen];exact hi)];simp only[bind_some];refine⟨_,rfl, ?_⟩;rw[Zai hi (by omega)];have e:n - i=(n - (i+1))+1:=by omega
  rw[e,List.replicate_succ,Vhb _ _ (by simp),Vib,Vza,Vlb,List.replicate_succ',Vsb];rfl
 ·rintro _ rfl;simp only[Zaw,cond_false,Vza,List.replicate_zero,Vcb];exact⟨_,rfl,rfl⟩
def ZbQ(before:List ZbK)(i:Nat)(l:List Zbd)(f:ZaF)(k:Nat):ZaF:=
 bif (cl l (k:Int)).2.2.2.1&& (!decide (((before[(cl l (k:Int)).1.toNat]?).getD (0,0,0,0,0,0,())).2.2.1= -1) && (decide (((before[(cl l (k:Int)).1.toNat]?).getD (0,0,0,0,0,0,())).2.2.1<=(cl l (k:Int)).2.2.1) &&less ((f.2.2.2.2.1[i]?).getD (0,0,false,())).1 (k:Int))) then
  Zbh f i ((k:Int),((before[(cl l (k:Int)).1.toNat]?).getD (0,0,0,0,0,0,())).2.2.2.2.2.1,false,()) else f
theorem ZjT(before:List ZbK)(i:Nat)(l:List Zbd)(f:ZaF)(k:Nat):Zbt f (ZbQ before i l f k) 1/\(ZbQ before i l f k).2.1=f.2.1:=by
 unfold ZbQ;generalize ((before[(cl l (k:Int)).1.toNat]?).getD (0,0,0,0,0,0,()))=p
 cases ((cl l (k:Int)).2.2.2.1&& (!decide (p.2.2.1= -1) && (decide (p.2.2.1<=(cl l (k:Int)).2.2.1) &&less ((f.2.2.2.2.1[i]?).getD (0,0,false,())).1 (k:Int)))) with
 |true=>exact⟨Zcq ..,Zf8 ..⟩
 |false=>exact⟨(Zbt.refl f).weak (by omega),rfl⟩
def ZcQ(before:List ZbK)(i:Nat)(l:List Zbd):Nat->ZaF->ZaF
 |0,f=>f
 |m+1,f=>ZbQ before i l (ZcQ before i l m f) m
theorem ZcY(before:List ZbK)(i:Nat)(l:List Zbd): ∀ (m:Nat) (f:ZaF),Zbt f (ZcQ before i l m f) m/\(ZcQ before i l m f).2.1=f.2.1
 |0,f=>⟨Zbt.refl f,rfl⟩
 |m+1,f=>by obtain⟨h1,h2⟩:=ZcY before i l m f;obtain⟨h3,h4⟩:=ZjT before i l (ZcQ before i l m f) m;exact⟨h1.trans h3,h4.trans h2⟩
theorem ZvN{α:Type}{o:Option α}{z:α}(h: ∃r,o=some r/\r=z):o=some z:=by obtain⟨r,rfl,rfl⟩:=h;rfl
theorem ZrP{before:List ZbK}{f:ZaF}(h:St f){i:Nat}(hi:i<f.1.2.2.1.length)(hb:before.length=f.1.1.length)(ho:f.2.2.2.2.2.1.length+100<4000000000):
  run
 (fun s11:ZaF×Int=>
 bif decide (s11.2< (↑(Vg (f.1.2.2.1[i]).2.2.2.2.2.2.2.1):Int)) then
 Vb (idx (f.1.2.2.1[i]).2.2.2.2.2.2.2.1 s11.2) fun x12=>
 Vb (idx before x12.1) fun x13=>
 Vb
 (bif x12.2.2.2.1 then
 bif !decide (x13.2.2.1=(-1:Int)) then
 bif decide (x13.2.2.1<=x12.2.2.1) then
 Vb (inb (i:Int) (Vg s11.1.2.2.2.2.1)) fun x14=>
 Vb s11.1.2.2.2.2.1[x14]? fun x15=>Vb (F116 x15 s11.2) fun x16=>some x16
 else some false
 else some false
 else some false)
 fun x17=>
 bif x17 then
 Vb
 (F121
 s11.1
 (i:Int) (s11.2,x13.2.2.2.2.2.1,false,()))
 fun x18=>
 some
 (.inl
 (x18,
 Vc .i64 (s11.2+(1:Int))))
 else
 some
 (.inl
 (s11.1,
 Vc .i64 (s11.2+(1:Int))))
 else
 some
 (.inr
 s11.1))
 (f,(0:Int))=some (ZcQ before i (f.1.2.2.1[i]).2.2.2.2.2.2.2.1 (f.1.2.2.1[i]).2.2.2.2.2.2.2.1.length f):=by
 have hmem:=Vf hi;have hmany:=(h.sound.many _ hmem).2;have hcall:=h.sound.call _ hmem;generalize hL: (f.1.2.2.1[i]).2.2.2.2.2.2.2.1=l at*;refine ZvN (ZaL l.length _ (fun k (st:ZaF×Int)=>st=(ZcQ before i l k f,(k:Int))) ?_ ?_ _ rfl)
 ·rintro k _ hk rfl;left;obtain⟨h1,h2⟩:=ZcY before i l k f;have hS:=h.step h1;have hopn:=h1.opn;have hnet:=h1.net;show∃s',_=_/\s' =(ZbQ before i l (ZcQ before i l k f) k,((k+1:Nat):Int));generalize ZcQ before i l k f=g at*;have hc:=hcall _ (Vf hk);have ec:cl l (k:Int)=l[k]:=by unfold cl;rw[Ve,Zak hk]
  unfold ZbQ;rw[ec]
  have hin:inR (l[k]).1 before.length=true:=by unfold inR;rw[Vd,decide_eq_true_eq,decide_eq_true_eq,hb];exact hc
  simp only[Zav hk,cond_true,Zaf hk,bind_some,Zai hk (show _<=9223372036854775807 by omega)];rw[Za6 hin (0,0,0,0,0,0,())];simp only[bind_some];generalize (before[(l[k]).1.toNat]?).getD (0,0,0,0,0,0,())=p;have hig:i<g.2.2.2.2.1.length:=by rw[hS.runs,hnet];exact hi
  have hir:i<g.1.2.2.1.length:=by rw[hnet];exact hi
  simp only[ZaB hig,bind_some,Va hig,ZgU,Vu];rw[ZjJ g hir hS.runs (by omega)]
  cases (l[k]).2.2.2.1 with
  |false=>exact⟨_,rfl,rfl⟩
  |true=>
   simp only[cond_true,Vm]
   cases decide (p.2.2.1= -1) with
   |true=>exact⟨_,rfl,rfl⟩
   |false=>
    simp only[Vl,cond_true,Vm]
    cases decide (p.2.2.1<=(l[k]).2.2.1) with
    |false=>exact⟨_,rfl,rfl⟩
    |true=>
     simp only[cond_true,bind_some,Vm]
     cases less (g.2.2.2.2.1[i]).1 (k:Int)<;>exact⟨_,rfl,rfl⟩
 ·rintro _ rfl;simp only[Zaw,cond_false];exact⟨_,rfl,rfl⟩
def ZdZ(before:List ZbK)(boarded:List ZcA)(f:ZaF)(i:Nat):ZaF:=
 ZcQ before i (rn f.1 (i:Int)).2.2.2.2.2.2.2.1 (rn f.1 (i:Int)).2.2.2.2.2.2.2.1.length (bif !decide (((boarded[i]?).getD (0,0,false,())).1= -1) then Zbh f i ((boarded[i]?).getD (0,0,false,())) else f)
theorem ZmO{before:List ZbK}{boarded:List ZcA}{f:ZaF}(h:St f){i:Nat}(hi:i<f.1.2.2.1.length):Zbt f (ZdZ before boarded f i) 33/\(ZdZ before boarded f i).2.1=f.2.1:=by
 unfold ZdZ;have hr:rn f.1 (i:Int)=f.1.2.2.1[i]:=by unfold rn;rw[Ve,Zak hi]
 rw[hr];have hm:=(h.sound.many _ (Vf hi)).2
 have h0:Zbt f (bif !decide (((boarded[i]?).getD (0,0,false,())).1= -1) then Zbh f i ((boarded[i]?).getD (0,0,false,())) else f) 1/\(bif !decide (((boarded[i]?).getD (0,0,false,())).1= -1) then Zbh f i ((boarded[i]?).getD (0,0,false,())) else f).2.1=f.2.1:=by
  cases !decide (((boarded[i]?).getD (0,0,false,())).1= -1) with
  |true=>exact⟨Zcq ..,Zf8 ..⟩
  |false=>exact⟨(Zbt.refl f).weak (by omega),rfl⟩
 obtain⟨h1,h2⟩:=ZcY before i (f.1.2.2.1[i]).2.2.2.2.2.2.2.1 (f.1.2.2.1[i]).2.2.2.2.2.2.2.1.length (bif !decide (((boarded[i]?).getD (0,0,false,())).1= -1) then Zbh f i ((boarded[i]?).getD (0,0,false,())) else f)
 exact⟨(h0.1.trans h1).weak (by omega),h2.trans h0.2⟩
def ZcX(before:List ZbK)(boarded:List ZcA):Nat->ZaF->ZaF
 |0,f=>f
 |m+1,f=>ZdZ before boarded (ZcX before boarded m f) m
theorem ZcR{before:List ZbK}{boarded:List ZcA} : ∀ (m:Nat) {f:ZaF},St f->m<=f.1.2.2.1.length->Zbt f (ZcX before boarded m f) (33*m)/\(ZcX before boarded m f).2.1=f.2.1
 |0,f,_,_=>⟨(Zbt.refl f).weak (by omega),rfl⟩
 |m+1,f,h,hm=>by obtain⟨h1,h2⟩:=ZcR (before:=before) (boarded:=boarded) m h (by omega);obtain⟨h3,h4⟩:=ZmO (before:=before) (boarded:=boarded) (h.step h1) (i:=m) (by rw[h1.net];omega);exact⟨(h1.trans h3).weak (by omega),h4.trans h2⟩
def ZwH(b:ZcA):Nat:=if b.1= -1 then 40 else b.1.toNat
def ZoI(l:List ZcA):Nat:=(l.map ZwH).sum
theorem ZtJ{l:List ZcA}{i:Nat}(hi:i<l.length)(b:ZcA):ZoI (l.set i b)+ZwH l[i]=ZoI l+ZwH b:=by
 unfold ZoI
 induction l generalizing i with
 |nil=>simp at hi
 |cons x l ih=>
  cases i with
  |zero=>simp;omega
  |succ i=>
   have:=ih (i:=i) (by simpa using hi);simp only[List.set_cons_succ,List.map_cons,List.sum_cons,List.getElem_cons_succ];omega
structure Brd (f:ZaF):Prop where
 call: ∀b∈f.2.2.2.2.1,b.1= -1\/0<=b.1/\b.1<32
 opn: ∀r∈f.2.2.2.2.2.1, ∃i:Nat,r=(i:Int)/\ ∃hi:i<f.1.2.2.1.length,inR ((f.2.2.2.2.1[i]?).getD (0,0,false,())).1 (f.1.2.2.1[i]).2.2.2.2.2.2.2.1.length=true
def Zgn(f:ZaF):Nat:=2*ZoI f.2.2.2.2.1+f.2.2.2.2.2.1.length
theorem Zd7{a b:Int} :less a b=true↔a= -1\/b<a:=by unfold less;rw[Bool.or_eq_true,decide_eq_true_eq,decide_eq_true_eq]
theorem ZgS{f:ZaF}(h:St f)(hb:Brd f){i:Nat}(hi:i<f.1.2.2.1.length){b:ZcA}(hc:inR b.1 (f.1.2.2.1[i]).2.2.2.2.2.2.2.1.length=true):Brd (Zbh f i b)/\Zgn (Zbh f i b)<=Zgn f:=by
 have hc' :=hc;unfold inR at hc';simp only[Vd,decide_eq_true_eq]at hc';have hm:=(h.sound.many _ (Vf hi)).2;have hi' :i<f.2.2.2.2.1.length:=by rw[h.runs];exact hi
 unfold Zbh;rw[Zak hi']
 cases hg: (!(rn f.1 (i:Int)).2.2.2.2.2.2.1&&less (f.2.2.2.2.1[i]).1 b.1) with
 |false=>exact⟨hb,Vo _⟩
 |true=>
  simp only[cond_true];rw[Vd]at hg;have hl:=Zd7.1 hg.2;have hold:=hb.call _ (Vf hi');refine⟨⟨fun x hx=> ?_,fun r hr=> ?_⟩, ?_⟩
  ·rcases List.mem_or_eq_of_mem_set hx with hx|rfl
   ·exact hb.call x hx
   ·exact .inr ⟨hc'.1,by omega⟩
  ·have key: ∀j:Nat, ∀hj:j<f.1.2.2.1.length,(j=i\/inR ((f.2.2.2.2.1[j]?).getD (0,0,false,())).1 (f.1.2.2.1[j]).2.2.2.2.2.2.2.1.length=true)->inR (((f.2.2.2.2.1.set i b)[j]?).getD (0,0,false,())).1 (f.1.2.2.1[j]).2.2.2.2.2.2.2.1.length=true:=by
    intro j hj hjj;by_cases e:i=j
    ·subst e;rw[Vn hi'];exact hc
    ·rw[Vca e];exact hjj.resolve_left fun e' =>e e'.symm
   rcases Veb.1 hr with hr|hr
   ·obtain⟨j,rfl,hj,hjb⟩:=hb.opn r hr;exact⟨j,rfl,hj,key j hj (.inr hjb)⟩
   ·simp only[Vob]at hr;exact⟨i,hr,hi,key i hi (.inl rfl)⟩
  ·have hs:=ZtJ hi' b;unfold Zgn;simp only[Vha,Vda,Vfa]
   have h1:ZwH b<ZwH f.2.2.2.2.1[i]:=by
    unfold ZwH;rw[if_neg (by omega)];split
    ·omega
    ·omega
   omega
theorem Brd.same{f g:ZaF}(h:Brd f)(h1:g.1=f.1)(h2:g.2.2.2.2.1=f.2.2.2.2.1)(h3:g.2.2.2.2.2.1=f.2.2.2.2.2.1):Brd g/\Zgn g<=Zgn f:=by refine⟨⟨by rw[h2];exact h.call, ?_⟩,by unfold Zgn;rw[h2,h3];exact Vo _⟩;rw[h3,h2,h1];exact h.opn
theorem ZiW{f:ZaF}(h:St f)(hb:Brd f)(call arr l:Int)(al:Bool){k:Int}(hk:Zmm f.1 (lkI f.1 k)):Brd (ZaG call arr l al f k)/\Zgn (ZaG call arr l al f k)<=Zgn f:=by
 unfold ZaG
 cases (!decide ((lkI f.1 k).2.1=call) ||decide ((cl (rn f.1 (lkI f.1 k).2.2.1).2.2.2.2.2.2.2.1 (lkI f.1 k).2.2.2.1).2.2.1<arr)) with
 |true=>exact⟨hb,Vo _⟩
 |false=>
  simp only[cond_false]
  cases (lkI f.1 k).2.2.2.2.1 with
  |true=>
   simp only[cond_true];have ht:=hk.to;unfold inR at ht;simp only[Vd,decide_eq_true_eq]at ht;have hj: (lkI f.1 k).2.2.1.toNat<f.1.2.2.1.length:=by omega
   have hc:=hk.call;unfold rn at hc;rw[Zak hj]at hc
   exact ZgS h hb hj hc
  |false=>
   simp only[cond_false]
   cases (al&& ((cl (rn f.1 (lkI f.1 k).2.2.1).2.2.2.2.2.2.2.1 (lkI f.1 k).2.2.2.1).2.2.2.1&&less ((f.2.2.2.1[(lkI f.1 k).2.2.1.toNat]?).getD (0,0,false,())).1 (lkI f.1 k).2.2.2.1)) with
   |true=>exact hb.same rfl rfl rfl
   |false=>exact⟨hb,Vo _⟩
theorem Zfw(call arr l:Int)(al:Bool): ∀ (ks:List Int) {f:ZaF},St f->Brd f->(∀k∈ks,Zmm f.1 (lkI f.1 k))->Brd (ks.foldl (ZaG call arr l al) f)/\Zgn (ks.foldl (ZaG call arr l al) f)<=Zgn f
 | [],f,_,hb,_=>⟨hb,Vo _⟩
 |k::ks,f,h,hb,hk=>by obtain⟨h1,_⟩:=Zc3 call arr l al f k;obtain⟨h2,h3⟩:=ZiW h hb call arr l al (hk k (by simp));obtain⟨h4,h5⟩:=Zfw call arr l al ks (h.step h1) h2 (fun k' hk' =>by rw[h1.net];exact hk k' (by simp [hk']));exact⟨h4,Vs h5 h3⟩
theorem Zmn{f:ZaF}(h:St f)(hb:Brd f)(run call l:Int)(al:Bool):Brd (ZbD f run call l al)/\Zgn (ZbD f run call l al)<=Zgn f:=by
 unfold ZbD;by_cases hr:run.toNat<f.2.2.2.2.2.2.1.length
 ·rw[Zak hr];exact Zfw _ _ _ _ _ h hb fun k hk=>((h.out _ (Vf hr)).2 k hk).2
 ·rw[Vka (by omega)];exact⟨hb,Vo _⟩
theorem ZjQ{f:ZaF}(h:St f)(hb:Brd f)(run:Int)(b:ZcA)(fr:Zbd)(l:List Zbd)(i:Nat):Brd (Zbp run b fr l f i)/\Zgn (Zbp run b fr l f i)<=Zgn f:=by
 unfold Zbp
 cases (!(cl l (i:Int)).2.2.2.2.1&&decide ((ZhR f run).length=0)) with
 |true=>exact⟨hb,Vo _⟩
 |false=>
  simp only[cond_false];generalize (true,run,b.1,(i:Int),fr.1,(cl l (i:Int)).1,fr.2.2.1,(cl l (i:Int)).2.1,b.2.2.1,())=x;obtain⟨a1,a2⟩:=hb.same (g:=ZgT f x b.2.1) rfl rfl rfl;obtain⟨b1,b2⟩:=Zmn (h.step (ZeH f x b.2.1)) a1 run (i:Int) (f.2.1.length:Int) (cl l (i:Int)).2.2.2.2.1;generalize ZbD (ZgT f x b.2.1) run (i:Int) (f.2.1.length:Int) (cl l (i:Int)).2.2.2.2.1=g at*
  cases ((cl l (i:Int)).2.2.2.2.1&&less (ZmG g (cl l (i:Int)).1).2.1 (cl l (i:Int)).2.1) with
  |true=>
   simp only[cond_true];obtain⟨c1,c2⟩:=b1.same (g:=Zmu g (cl l (i:Int)).1.toNat (cl l (i:Int)).2.1 (f.2.1.length:Int)) rfl rfl rfl
   exact⟨c1,Vs c2 (Vs b2 a2)⟩
  |false=>exact⟨b1,Vs b2 a2⟩
theorem Zi9(run:Int)(b:ZcA)(fr:Zbd)(l:List Zbd)(k:Nat): ∀ (m:Nat) {f:ZaF},St f->Brd f->Brd (Zc5 run b fr l k m f)/\Zgn (Zc5 run b fr l k m f)<=Zgn f
 |0,f,_,hb=>⟨hb,Vo _⟩
 |m+1,f,h,hb=>by obtain⟨h1,h2⟩:=Zi9 run b fr l k m h hb;obtain⟨h3,_⟩:=ZcK run b fr l k m f h;obtain⟨h4,h5⟩:=ZjQ (h.step h3) h1 run b fr l (k+m);exact⟨h4,Vs h5 h2⟩
def ZeP(f:ZaF):ZaF:=(f.1,f.2.1,f.2.2.1,f.2.2.2.1,f.2.2.2.2.1,f.2.2.2.2.2.1.take (f.2.2.2.2.2.1.length - 1),f.2.2.2.2.2.2)
noncomputable def Zhw(s21:ZaF):Option (ZaF ⊕ ZaF):=
 bif decide ((0:Int)< (↑(Vg s21.2.2.2.2.2.1):Int)) then
 Vb (inb (Vc .i64 ((↑(Vg s21.2.2.2.2.2.1):Int) - (1:Int))) (Vg s21.2.2.2.2.2.1)) fun x22=>
 Vb s21.2.2.2.2.2.1[x22]? fun x23=>
 Vb
 (sliceB (Vg s21.2.2.2.2.2.1) (Vg s21.2.2.2.2.2.1) none
 (some (Vc .i64 ((↑(Vg s21.2.2.2.2.2.1):Int) - (1:Int)))))
 fun x24=>
 Vb
 (F126
 (s21.1,s21.2.1,s21.2.2.1,s21.2.2.2.1,s21.2.2.2.2.1,Vzb x24.2 s21.2.2.2.2.2.1,s21.2.2.2.2.2.2.1,())
 x23)
 fun x25=>
 some (.inl x25)
 else some (.inr s21)
theorem ZnA{f:ZaF}(h:St f)(hb:Brd f):St (ZeP f)/\Brd (ZeP f):=
 ⟨⟨h.sound,h.now,h.linked,h.runs,h.outl,h.out⟩,⟨hb.call,fun r hr=>hb.opn r (List.mem_of_mem_take hr)⟩⟩
theorem Znr{f:ZaF}(h:St f)(hb:Brd f)(h0:0<f.2.2.2.2.2.1.length)(hl:f.2.1.length+100<4000000000)(ho:f.2.2.2.2.2.1.length+100000<4000000000):
  ∃i:Nat,i<f.1.2.2.1.length/\inR ((f.2.2.2.2.1[i]?).getD (0,0,false,())).1 (f.1.2.2.1[i]!).2.2.2.2.2.2.2.1.length=true/\Zhw f=some (.inl (Zc6 (ZeP f) i))/\f.2.2.2.2.2.1=(ZeP f).2.2.2.2.2.1++[(i:Int)]:=by
 have hlast:f.2.2.2.2.2.1.length - 1<f.2.2.2.2.2.1.length:=by omega
 obtain⟨i,hi,hil,hib⟩:=hb.opn _ (Vf hlast)
 have hpop:f.2.2.2.2.2.1=(ZeP f).2.2.2.2.2.1++[(i:Int)]:=by show _=f.2.2.2.2.2.1.take (f.2.2.2.2.2.1.length - 1)++[(i:Int)];rw[<-hi, <-Vh hlast,show f.2.2.2.2.2.1.length - 1+1=f.2.2.2.2.2.1.length by omega,Vq]
 refine⟨i,hil,by rw[getElem!_pos f.1.2.2.1 i hil];exact hib, ?_,hpop⟩;unfold Zhw;have w1:Vc .i64 ((f.2.2.2.2.2.1.length:Int) - 1)=((f.2.2.2.2.2.1.length - 1:Nat):Int):=by rw[Zae (by omega) (by omega)];omega
 rw[decide_eq_true (show (0:Int)< (f.2.2.2.2.2.1.length:Int) by omega),w1];simp only[cond_true,ZaB hlast,bind_some,Va hlast,hi]
 have e2:sliceB f.2.2.2.2.2.1.length f.2.2.2.2.2.1.length none (some ((f.2.2.2.2.2.1.length - 1:Nat):Int))=some (0,f.2.2.2.2.2.1.length - 1):=by unfold sliceB;simp only[if_pos (show (0:Int)<=((f.2.2.2.2.2.1.length - 1:Nat):Int)/\((f.2.2.2.2.2.1.length - 1:Nat):Int)<=(f.2.2.2.2.2.1.length:Int) from ⟨by omega,by omega⟩),bind_some,Ve]
 rw[e2];simp only[bind_some];have hp:=ZnA h hb;have hv:=Zr5 hp.1 (i:=i) hil hib hl (by show (f.2.2.2.2.2.1.take (f.2.2.2.2.2.1.length - 1)).length+100000<_;rw[Vt];omega);show (Vb (F126 (ZeP f) (i:Int)) fun x25=>some (Sum.inl x25))=_;rw[hv];rfl
theorem Znl(P:ZaF->Prop)(hP: ∀ (f:ZaF) (i:Nat),St f->Brd f->(hi:i<f.1.2.2.1.length)->f.2.2.2.2.2.1=(ZeP f).2.2.2.2.2.1++[(i:Int)]->inR ((f.2.2.2.2.1[i]?).getD (0,0,false,())).1 (f.1.2.2.1[i]).2.2.2.2.2.2.2.1.length=true->P f->P (Zc6 (ZeP f) i)): ∀ (k:Nat) {f:ZaF},Zgn f<=k->St f->Brd f->P f->f.2.1.length+32*k+100<4000000000->k<1000000->
  ∃g,run Zhw f=some g/\St g/\Brd g/\P g/\g.2.2.2.2.2.1=[]/\g.1=f.1/\g.2.1.length<=f.2.1.length+32*k/\g.2.2.2.2.2.2=f.2.2.2.2.2.2
 |0,f,hk,h,hb,hp,hl,_=>by
  have h0:f.2.2.2.2.2.1.length=0:=by unfold Zgn at hk;omega
  refine⟨f,ZbC ?_,h,hb,hp,Via.1 h0,rfl,by omega,rfl⟩;unfold Zhw;rw[h0]
  rfl
 |k+1,f,hk,h,hb,hp,hl,hkb=>by
  by_cases h0:f.2.2.2.2.2.1.length=0
  ·refine⟨f,ZbC ?_,h,hb,hp,Via.1 h0,rfl,by omega,rfl⟩;unfold Zhw;rw[h0];rfl
  ·obtain⟨i,hi,hin,hv,hpop⟩:=Znr h hb (by omega) (by omega) (by unfold Zgn at hk;omega);obtain⟨p1,p2⟩:=ZnA h hb
   have hpf:Zgn (ZeP f)+1=Zgn f:=by unfold Zgn;show 2*ZoI f.2.2.2.2.1+(f.2.2.2.2.2.1.take (f.2.2.2.2.2.1.length - 1)).length+1=_;rw[Vt];omega
   have hh:=ZcK (i:Int) (((ZeP f).2.2.2.2.1[i]?).getD (0,0,false,())) (cl (rn (ZeP f).1 (i:Int)).2.2.2.2.2.2.2.1 (((ZeP f).2.2.2.2.1[i]?).getD (0,0,false,())).1) (rn (ZeP f).1 (i:Int)).2.2.2.2.2.2.2.1 ((((ZeP f).2.2.2.2.1[i]?).getD (0,0,false,())).1.toNat+1) ((rn (ZeP f).1 (i:Int)).2.2.2.2.2.2.2.1.length - ((((ZeP f).2.2.2.2.1[i]?).getD (0,0,false,())).1.toNat+1)) (ZeP f) p1;have hf:=Zi9 (i:Int) (((ZeP f).2.2.2.2.1[i]?).getD (0,0,false,())) (cl (rn (ZeP f).1 (i:Int)).2.2.2.2.2.2.2.1 (((ZeP f).2.2.2.2.1[i]?).getD (0,0,false,())).1) (rn (ZeP f).1 (i:Int)).2.2.2.2.2.2.2.1 ((((ZeP f).2.2.2.2.1[i]?).getD (0,0,false,())).1.toNat+1) ((rn (ZeP f).1 (i:Int)).2.2.2.2.2.2.2.1.length - ((((ZeP f).2.2.2.2.1[i]?).getD (0,0,false,())).1.toNat+1)) p1 p2
   have hcl: (rn (ZeP f).1 (i:Int)).2.2.2.2.2.2.2.1.length<=32:=by
    have hr:rn (ZeP f).1 (i:Int)=f.1.2.2.1[i]:=by unfold rn;rw[Ve];exact Zak hi _
    rw[hr];exact(h.sound.many _ (Vf hi)).2
   change Zbt (ZeP f) (Zc6 (ZeP f) i) _/\(Zc6 (ZeP f) i).2.1.length<=_ at hh
   change Brd (Zc6 (ZeP f) i)/\Zgn (Zc6 (ZeP f) i)<=_ at hf
   have hlab: (Zc6 (ZeP f) i).2.1.length<=f.2.1.length+32:=by have h5:=hh.2;have h6: (ZeP f).2.1.length=f.2.1.length:=rfl;omega
   obtain⟨g,g1,g2,g3,g4,g5,g6,g7,g8⟩:=Znl P hP k (f:=Zc6 (ZeP f) i) (by have:=hf.2;omega) (p1.step hh.1) hf.1 (hP f i h hb hi hpop (by rw[getElem!_pos f.1.2.2.1 i hi]at hin;exact hin) hp) (by omega) (by omega);refine⟨g,(ZcI hv).trans g1,g2,g3,g4,g5,g6.trans hh.1.net,by omega,g8.trans hh.1.out⟩
theorem ZlJ{before:List ZbK}{f:ZaF}(h:St f)(hb:Brd f){i:Nat}(hi:i<f.1.2.2.1.length){k:Nat}(hk:k< (f.1.2.2.1[i]).2.2.2.2.2.2.2.1.length)(l:List Zbd):Brd (ZbQ before i l f k)/\Zgn (ZbQ before i l f k)<=Zgn f:=by
 unfold ZbQ;generalize ((before[(cl l (k:Int)).1.toNat]?).getD (0,0,0,0,0,0,()))=p
 cases ((cl l (k:Int)).2.2.2.1&& (!decide (p.2.2.1= -1) && (decide (p.2.2.1<=(cl l (k:Int)).2.2.1) &&less ((f.2.2.2.2.1[i]?).getD (0,0,false,())).1 (k:Int)))) with
 |false=>exact⟨hb,Vo _⟩
 |true=>
  simp only[cond_true];refine ZgS h hb hi ?_;unfold inR;rw[Vd,decide_eq_true_eq,decide_eq_true_eq];exact⟨Int.natCast_nonneg _,by simpa using hk⟩
theorem ZgL{before:List ZbK}{i:Nat}(l:List Zbd): ∀ (m:Nat) {f:ZaF},St f->Brd f->(hi:i<f.1.2.2.1.length)->m<=(f.1.2.2.1[i]).2.2.2.2.2.2.2.1.length->Brd (ZcQ before i l m f)/\Zgn (ZcQ before i l m f)<=Zgn f
 |0,_,_,hb,_,_=>⟨hb,Vo _⟩
 |m+1,f,h,hb,hi,hm=>by
  obtain⟨h1,h2⟩:=ZgL (before:=before) l m h hb hi (by omega);obtain⟨h3,_⟩:=ZcY before i l m f;have hi' :i< (ZcQ before i l m f).1.2.2.1.length:=by rw[h3.net];exact hi
  have e: (ZcQ before i l m f).1.2.2.1[i]=f.1.2.2.1[i]:=by simp only[h3.net]
  obtain⟨h4,h5⟩:=ZlJ (before:=before) (h.step h3) h1 hi' (k:=m) (by rw[e];omega) l;exact⟨h4,Vs h5 h2⟩
theorem ZnV{before:List ZbK}{boarded:List ZcA}{f:ZaF}(h:St f)(hb:Brd f){i:Nat}(hi:i<f.1.2.2.1.length)(hbd: ((boarded[i]?).getD (0,0,false,())).1= -1\/inR ((boarded[i]?).getD (0,0,false,())).1 (f.1.2.2.1[i]).2.2.2.2.2.2.2.1.length=true):Brd (ZdZ before boarded f i)/\Zgn (ZdZ before boarded f i)<=Zgn f:=by
 unfold ZdZ;have hr:rn f.1 (i:Int)=f.1.2.2.1[i]:=by unfold rn;rw[Ve,Zak hi]
 rw[hr];by_cases hz: ((boarded[i]?).getD (0,0,false,())).1= -1
 ·rw[decide_eq_true hz];exact ZgL _ _ h hb hi (Vo _)
 ·rw[decide_eq_false hz];simp only[Vl,cond_true];obtain⟨h1,h2⟩:=ZgS h hb hi (hbd.resolve_left hz);have hh:=Zcq f i ((boarded[i]?).getD (0,0,false,()));have hi' :i< (Zbh f i ((boarded[i]?).getD (0,0,false,()))).1.2.2.1.length:=by rw[hh.net];exact hi
  have e: (Zbh f i ((boarded[i]?).getD (0,0,false,()))).1.2.2.1[i]=f.1.2.2.1[i]:=by simp only[hh.net]
  obtain⟨h3,h4⟩:=ZgL (before:=before) (f.1.2.2.1[i]).2.2.2.2.2.2.2.1 (f.1.2.2.1[i]).2.2.2.2.2.2.2.1.length (h.step hh) h1 hi' (by rw[e];exact Vo _);exact⟨h3,Vs h4 h2⟩
theorem ZjK{before:List ZbK}{boarded:List ZcA} : ∀ (m:Nat) {f:ZaF},St f->Brd f->m<=f.1.2.2.1.length->(∀i,(hi:i<f.1.2.2.1.length)->((boarded[i]?).getD (0,0,false,())).1= -1\/inR ((boarded[i]?).getD (0,0,false,())).1 (f.1.2.2.1[i]).2.2.2.2.2.2.2.1.length=true)->
  Brd (ZcX before boarded m f)/\Zgn (ZcX before boarded m f)<=Zgn f
 |0,_,_,hb,_,_=>⟨hb,Vo _⟩
 |m+1,f,h,hb,hm,hbd=>by
  obtain⟨h1,h2⟩:=ZjK (before:=before) m h hb (by omega) hbd;obtain⟨h3,_⟩:=ZcR (before:=before) (boarded:=boarded) m h (by omega);have hi' :m< (ZcX before boarded m f).1.2.2.1.length:=by rw[h3.net];omega
  have e: (ZcX before boarded m f).1.2.2.1[m]=f.1.2.2.1[m]'(by omega):=by simp only[h3.net]
  obtain⟨h4,h5⟩:=ZnV (before:=before) (boarded:=boarded) (h.step h3) h1 hi' (by rw[e];exact hbd m (by omega));exact⟨h4,Vs h5 h2⟩
def p00:ZbK:=(0,0,0,0,0,0,())
def ZbR(before:List ZbK)(f:ZaF)(s:Nat):ZaF:=
 bif !decide (((f.2.2.1[s]?).getD p00).2.1= -1) &&less ((before[s]?).getD p00).2.1 ((f.2.2.1[s]?).getD p00).2.1 then
  ZhQ (Zg0 f s ((f.2.2.1[s]?).getD p00).2.1 (((f.2.2.1[s]?).getD p00).2.1+(Zcm f.1 (s:Int)).2.2.2.1) ((f.2.2.1[s]?).getD p00).2.2.2.2.1) (s:Int) ((f.2.2.1[s]?).getD p00).2.1 ((f.2.2.1[s]?).getD p00).2.2.2.2.1
 else f
theorem Zgv(s at' prev:Int)(f:ZaF)(p:Zb3):Zbt f (Za4 s at' prev f p) 0:=by
 unfold Za4;split
 ·exact⟨rfl,by simp [Zg0,ZgT],rfl,rfl,by show f.2.2.2.2.2.1.length<=_;omega,rfl⟩
 ·exact Zbt.refl f
theorem Zgr(s at' prev:Int): ∀ (l:List Zb3) (f:ZaF),Zbt f (l.foldl (Za4 s at' prev) f) 0
 | [],f=>Zbt.refl f
 |p::l,f=>(Zgv s at' prev f p).trans (Zgr s at' prev l _)
theorem Zi6(f:ZaF)(s at' prev:Int):Zbt f (ZhQ f s at' prev) 0:=Zgr ..
theorem ZfK(f:ZaF)(i:Nat)(a r l:Int):Zbt f (Zg0 f i a r l) 0:=⟨rfl,by simp [Zg0],rfl,rfl,by show f.2.2.2.2.2.1.length<=_;omega,rfl⟩
theorem ZjR(before:List ZbK)(f:ZaF)(s:Nat):Zbt f (ZbR before f s) 0/\(ZbR before f s).2.1.length<=f.2.1.length+f.1.2.2.2.2.1.length:=by
 unfold ZbR
 cases (!decide (((f.2.2.1[s]?).getD p00).2.1= -1) &&less ((before[s]?).getD p00).2.1 ((f.2.2.1[s]?).getD p00).2.1) with
 |false=>exact⟨Zbt.refl f,Nat.le_add_right _ _⟩
 |true=>
  simp only[cond_true];exact⟨(ZfK ..).trans (Zi6 ..),(Zcf _ _ _ f.1.2.2.2.2.1 (Zg0 f s ((f.2.2.1[s]?).getD p00).2.1 (((f.2.2.1[s]?).getD p00).2.1+(Zcm f.1 (s:Int)).2.2.2.1) ((f.2.2.1[s]?).getD p00).2.2.2.2.1)).lab⟩
def Zfu(before:List ZbK):Nat->ZaF->ZaF
 |0,f=>f
 |m+1,f=>ZbR before (Zfu before m f) m
theorem Ze7(before:List ZbK): ∀ (m:Nat) (f:ZaF),Zbt f (Zfu before m f) 0/\(Zfu before m f).2.1.length<=f.2.1.length+m*f.1.2.2.2.2.1.length
 |0,f=>⟨Zbt.refl f,by show f.2.1.length<=_;omega⟩
 |m+1,f=>by
  obtain⟨h1,h2⟩:=Ze7 before m f;obtain⟨h3,h4⟩:=ZjR before (Zfu before m f) m;refine⟨h1.trans h3, ?_⟩;show (ZbR before (Zfu before m f) m).2.1.length<=_;rw[h1.net]at h4;have e: (m+1) *f.1.2.2.2.2.1.length=m*f.1.2.2.2.2.1.length+f.1.2.2.2.2.1.length:=by rw[Nat.succ_mul]
  omega
theorem ZmY{before:List ZbK}{f:ZaF}(h:St f){s:Nat}(hs:s<f.2.2.1.length)(hb:before.length=f.2.2.1.length)(hr: (f.2.2.1[s]).2.1= -1\/0<=(f.2.2.1[s]).2.1/\(f.2.2.1[s]).2.1<=3155932800)(hch:0<=(Zcm f.1 (s:Int)).2.2.2.1/\(Zcm f.1 (s:Int)).2.2.2.1<=3600)
  (hl:f.2.1.length+f.1.2.2.2.2.1.length<4000000000) (hp:f.1.2.2.2.2.1.length<=4096) (hto: ∀p∈f.1.2.2.2.2.1,0<=p.2.1/\p.2.1< (f.1.1.length:Int)/\0<=p.2.2.1/\p.2.2.1<=14400):
  (Vb (inb (s:Int) (Vg f.2.2.1)) fun x28=>
 Vb f.2.2.1[x28]? fun x29=>
 Vb
 (bif !decide (x29.2.1=(-1:Int)) then
 Vb (idx before (s:Int)) fun x30=>
 bif decide (x30.2.1=(-1:Int)) then some true
 else Vb (idx before (s:Int)) fun x31=>some (decide (x29.2.1<x31.2.1))
 else some false)
 fun x32=>
 bif x32 then
 Vb (idx f.1.1 (s:Int)) fun x33=>
 Vb
 (F123
 f
 (s:Int) x29.2.1 (Vc .i64 (x29.2.1+x33.2.2.2.1)) x29.2.2.2.2.1)
 fun x34=>
 Vb
 (F127
 x34 (s:Int)
 x29.2.1 x29.2.2.2.2.1)
 fun x35=>
 some
 (Sum.inl
 (x35,
 Vc .i64 ((s:Int)+(1:Int))))
 else
 some
 (.inl
 (f,
 Vc .i64 ((s:Int)+(1:Int)))))=(some (.inl (ZbR before f s,((s+1:Nat):Int))):Option ((ZaF×Int) ⊕ ZaF)):=by
 have hst:=h.sound.stops;have hsn:s<f.1.1.length:=by rw[<-h.now];exact hs
 have w1:Vc .i64 ((s:Int)+1)=((s+1:Nat):Int):=by rw[Zae (by omega) (by omega)];omega
 have hsb:s<before.length:=by omega
 have es:f.1.1[s]=Zcm f.1 (s:Int):=by unfold Zcm;rw[Ve,Zak hsn]
 unfold ZbR;rw[w1];simp only[ZaB hs,bind_some,Va hs,Zaf hsb,Zaf hsn,Va hsb,Vu,es];rw[ZeJ];by_cases hz: (f.2.2.1[s]).2.1= -1
 ·rw[decide_eq_true hz];rfl
 ·rw[decide_eq_false hz];have hr2:=hr.resolve_left hz;simp only[Vl,cond_true,bind_some,Vm]
  cases less (before[s]).2.1 (f.2.2.1[s]).2.1 with
  |false=>rfl
  |true=>
   simp only[cond_true];have w2:Vc .i64 ((f.2.2.1[s]).2.1+(Zcm f.1 (s:Int)).2.2.2.1)=(f.2.2.1[s]).2.1+(Zcm f.1 (s:Int)).2.2.2.1:=Zae (by omega) (by omega);rw[w2,ZgQ f hs];simp only[bind_some];have hn:=(ZfK f s (f.2.2.1[s]).2.1 ((f.2.2.1[s]).2.1+(Zcm f.1 (s:Int)).2.2.2.1) (f.2.2.1[s]).2.2.2.2.1).now
   rw[Zpm (Zg0 f s (f.2.2.1[s]).2.1 ((f.2.2.1[s]).2.1+(Zcm f.1 (s:Int)).2.2.2.1) (f.2.2.1[s]).2.2.2.2.1) (f.2.2.1[s]).2.2.2.2.1 hr2.1 hr2.2 hl hp (fun p hp' =>by obtain⟨a1,a2,a3,a4⟩:=hto p hp';refine⟨a1, ?_,a3,a4⟩;rw[hn,h.now];exact a2)]
   rfl
theorem Ztv{before:List ZbK}{boarded:List ZcA}{f:ZaF}(h:St f)(hb:before.length=f.1.1.length)(hbl:boarded.length=f.1.2.2.1.length)(ho:f.2.2.2.2.2.1.length+100000<4000000000):
  run
 (fun s3:ZaF×Int=>
 bif decide (s3.2< (↑(Vg f.1.2.2.1):Int)) then
 Vb (idx f.1.2.2.1 s3.2) fun x4=>
 Vb (inb s3.2 (Vg boarded)) fun x5=>
 Vb boarded[x5]? fun x6=>
 Vb
 (bif !decide (x6.1=(-1:Int)) then
 Vb (inb s3.2 (Vg boarded)) fun x7=>
 Vb boarded[x7]? fun x8=>
 Vb
 (F121
 s3.1
 s3.2 x8)
 fun x9=>some x9
 else
 some
 s3.1)
 fun x10=>
 Vb
 (run
 (fun s11:ZaF×Int=>
 bif decide (s11.2< (↑(Vg x4.2.2.2.2.2.2.2.1):Int)) then
 Vb (idx x4.2.2.2.2.2.2.2.1 s11.2) fun x12=>
 Vb (idx before x12.1) fun x13=>
 Vb
 (bif x12.2.2.2.1 then
 bif !decide (x13.2.2.1=(-1:Int)) then
 bif decide (x13.2.2.1<=x12.2.2.1) then
 Vb (inb s3.2 (Vg s11.1.2.2.2.2.1)) fun x14=>
 Vb s11.1.2.2.2.2.1[x14]? fun x15=>Vb (F116 x15 s11.2) fun x16=>some x16
 else some false
 else some false
 else some false)
 fun x17=>
 bif x17 then
 Vb
 (F121
 s11.1
 s3.2 (s11.2,x13.2.2.2.2.2.1,false,()))
 fun x18=>
 some
 (.inl
 (x18,
 Vc .i64 (s11.2+(1:Int))))
 else
 some
 (.inl
 (s11.1,
 Vc .i64 (s11.2+(1:Int))))
 else
 some
 (.inr
 s11.1))
 (x10,(0:Int)))
 fun x19=>
 some
 (.inl
 (x19,
 Vc .i64 (s3.2+(1:Int))))
 else
 some
 (.inr
 s3.1))
 (f,(0:Int))=some (ZcX before boarded f.1.2.2.1.length f):=by
 have hruns:=h.sound.runs;refine ZvN (ZaL f.1.2.2.1.length _ (fun k (st:ZaF×Int)=>st=(ZcX before boarded k f,(k:Int))) ?_ ?_ _ rfl)
 ·rintro k _ hk rfl;left;obtain⟨h1,h2⟩:=ZcR (before:=before) (boarded:=boarded) k h (by omega);have hS:=h.step h1;have hopn:=h1.opn;have hnet:=h1.net;show∃s',_=_/\s' =(ZdZ before boarded (ZcX before boarded k f) k,((k+1:Nat):Int));generalize ZcX before boarded k f=g at*;have hkb:k<boarded.length:=by omega
  have hkg:k<g.1.2.2.1.length:=by rw[hnet];exact hk
  have e:g.1.2.2.1[k]=f.1.2.2.1[k]:=by simp only[hnet]
  have er:rn g.1 (k:Int)=f.1.2.2.1[k]:=by unfold rn;rw[Ve,Zak hkg,e]
  unfold ZdZ;rw[er,Zak hkb];simp only[Zav hk,cond_true,Zaf hk,bind_some,ZaB hkb,Va hkb,Zai hk (show _<=9223372036854775807 by omega)];rw[ZjJ g hkg hS.runs (by omega)]
  have hval: ∀g' :ZaF,Zbt g g' 1->_:=fun g' hg' =>by
   have hk' :k<g'.1.2.2.1.length:=by rw[hg'.net];exact hkg
   have e' :g'.1.2.2.1[k]=f.1.2.2.1[k]:=by simp only[hg'.net,hnet]
   have hv:=ZrP (before:=before) (hS.step hg') hk' (by rw[hg'.net,hnet];exact hb) (by have:=hg'.opn;omega);rw[e']at hv;exact hv
  cases decide ((boarded[k]).1= -1) with
  |true=>
   have hv:=hval g ((Zbt.refl g).weak (by omega));refine⟨_, ?_,rfl⟩;simp only[Vi,cond_false,bind_some]
   exact congrArg (fun o=>Vb o fun x19=>some (Sum.inl (x19,((k+1:Nat):Int)))) hv
  |false=>
   have hv:=hval _ (Zcq g k boarded[k]);refine⟨_, ?_,rfl⟩;simp only[Vl,cond_true,bind_some];exact congrArg (fun o=>Vb o fun x19=>some (Sum.inl (x19,((k+1:Nat):Int)))) hv
 ·rintro _ rfl;simp only[Zaw,cond_false];exact⟨_,rfl,rfl⟩
def ZbO(f:ZaF)(j:Nat):Int:=((f.2.2.1[j]?).getD p00).2.1
theorem ZmM(p:ZbK)(a r l:Int): (ZsF p a r l).2.1=p.2.1:=by
 unfold ZsF Zwr ZwP
 cases less p.1 a<;>simp only[cond_true,cond_false]
 ·cases less p.2.2.1 r<;>rfl
 ·cases less p.2.2.1 r<;>rfl
theorem Znb(f:ZaF)(i:Nat)(a r l:Int)(j:Nat):ZbO (Zg0 f i a r l) j=ZbO f j:=by
 unfold ZbO Zg0;simp only[Vx]
 cases f.2.2.1[j]? with
 |none=>rfl
 |some p=>
  simp only[Vu];split
  ·exact ZmM ..
  ·rfl
theorem ZkZ(s at' prev:Int)(f:ZaF)(p:Zb3)(j:Nat):ZbO (Za4 s at' prev f p) j=ZbO f j:=by
 unfold Za4;split
 ·exact(Znb ..).trans rfl
 ·rfl
theorem Zhs(s at' prev:Int)(j:Nat): ∀ (l:List Zb3) (f:ZaF),ZbO (l.foldl (Za4 s at' prev) f) j=ZbO f j
 | [],_=>rfl
 |p::l,f=>(Zhs s at' prev j l _).trans (ZkZ s at' prev f p j)
theorem ZlG(before:List ZbK)(f:ZaF)(s j:Nat):ZbO (ZbR before f s) j=ZbO f j:=by
 unfold ZbR
 cases (!decide (((f.2.2.1[s]?).getD p00).2.1= -1) &&less ((before[s]?).getD p00).2.1 ((f.2.2.1[s]?).getD p00).2.1) with
 |false=>rfl
 |true=>exact(Zhs ..).trans (Znb ..)
theorem Zf5(before:List ZbK)(j:Nat): ∀ (m:Nat) (f:ZaF),ZbO (Zfu before m f) j=ZbO f j
 |0,_=>rfl
 |m+1,f=>(ZlG before _ m j).trans (Zf5 before j m f)
theorem Zsm{before:List ZbK}{f:ZaF}(h:St f)(hb:before.length=f.2.2.1.length)(hr: ∀j,j<f.2.2.1.length->ZbO f j= -1\/0<=ZbO f j/\ZbO f j<=3155932800)(hch: ∀s:Nat,s<f.1.1.length->0<=(Zcm f.1 (s:Int)).2.2.2.1/\(Zcm f.1 (s:Int)).2.2.2.1<=3600)
  (hl:f.2.1.length+100*4096<4000000000) (hp:f.1.2.2.2.2.1.length<=4096) (hto: ∀p∈f.1.2.2.2.2.1,0<=p.2.1/\p.2.1< (f.1.1.length:Int)/\0<=p.2.2.1/\p.2.2.1<=14400):
  run
 (fun s27:ZaF×Int=>
 bif decide (s27.2< (↑(Vg f.2.2.1):Int)) then
 Vb (inb s27.2 (Vg s27.1.2.2.1)) fun x28=>
 Vb s27.1.2.2.1[x28]? fun x29=>
 Vb
 (bif !decide (x29.2.1=(-1:Int)) then
 Vb (idx before s27.2) fun x30=>
 bif decide (x30.2.1=(-1:Int)) then some true
 else Vb (idx before s27.2) fun x31=>some (decide (x29.2.1<x31.2.1))
 else some false)
 fun x32=>
 bif x32 then
 Vb (idx s27.1.1.1 s27.2) fun x33=>
 Vb
 (F123
 s27.1
 s27.2 x29.2.1 (Vc .i64 (x29.2.1+x33.2.2.2.1)) x29.2.2.2.2.1)
 fun x34=>
 Vb
 (F127
 x34 s27.2
 x29.2.1 x29.2.2.2.2.1)
 fun x35=>
 some
 (.inl
 (x35,
 Vc .i64 (s27.2+(1:Int))))
 else
 some
 (.inl
 (s27.1,
 Vc .i64 (s27.2+(1:Int))))
 else
 some
 (.inr
 s27.1))
 (f,(0:Int))=some (Zfu before f.2.2.1.length f):=by
 have hst:=h.sound.stops;have hnl:f.2.2.1.length<=64:=by rw[h.now];exact hst
 refine ZvN (ZaL f.2.2.1.length _ (fun k (st:ZaF×Int)=>st=(Zfu before k f,(k:Int))) ?_ ?_ _ rfl)
 ·rintro k _ hk rfl;left;obtain⟨h1,h2⟩:=Ze7 before k f;have hS:=h.step h1;have hnet:=h1.net;have hnow:=h1.now;have hrd:=Zf5 before k k f;have hmul:k*f.1.2.2.2.2.1.length<=64*4096:=Vyb (by omega) hp;show∃s',_=_/\s' =(ZbR before (Zfu before k f) k,((k+1:Nat):Int));generalize Zfu before k f=g at*;have hkg:k<g.2.2.1.length:=by omega
  have e: (g.2.2.1[k]).2.1=ZbO f k:=by rw[<-hrd];unfold ZbO;rw[Zak hkg]
  refine⟨_, ?_,rfl⟩;rw[Zav hk];simp only[cond_true];exact ZmY hS hkg (by omega) (by rw[e];exact hr k hk) (by rw[hnet];exact hch k (by rw[<-h.now];exact hk)) (by rw[hnet];omega) (by rw[hnet];exact hp) (by rw[hnet];exact hto)
 ·rintro _ rfl;simp only[Zaw,cond_false];exact⟨_,rfl,rfl⟩
end Q
namespace Q
open Tr Go
open Option (bind_some)
structure Ctx (n:Zat) (s0 t0 w:Int):Prop where
 net:Zcu n
 stop:0<=s0/\s0< (n.1.length:Int)
 time:0<=t0/\t0<=3155932800
 wait:0<=w/\w<=3600
variable {n:Zat}{s0 t0 w:Int}
theorem Ctx.ok(C:Ctx n s0 t0 w){f:Znp}{js:List Zaq}(d:Der n s0 t0 w f js):f.ok n:=d.ok C.net C.stop C.time C.wait
structure SP (D:Znp->List Zaq->Prop) (lb:List ZoP) (K:Nat) (s:Int) (p:ZbK):Prop where
 arr:p.1≠ -1-> ∃k,k<=K/\ ∃js,Ch lb p.2.2.2.1 js/\D (.arr k s p.1) js
 rid:p.2.1≠ -1-> ∃k,k<=K/\ ∃js,Ch lb p.2.2.2.2.1 js/\D (.rid k s p.2.1) js
 rdy:p.2.2.1≠ -1-> ∃k,k<=K/\ ∃js,Ch lb p.2.2.2.2.2.1 js/\D (.rdy k s p.2.2.1) js
def SB(D:Znp->List Zaq->Prop)(lb:List ZoP)(K i:Nat)(b:ZcA):Prop:=b.1≠ -1-> ∃k,k<=K/\ ∃c:Nat,b.1=(c:Int)/\ ∃js,Ch lb b.2.1 js/\D (.brd k i c b.2.2.1) js
def SL(D:Znp->List Zaq->Prop)(lb:List ZoP)(K i:Nat)(b:ZcA):Prop:=b.1≠ -1->b.2.2.1=false/\ ∃k,k<=K+1/\ ∃c:Nat,b.1=(c:Int)/\ ∃js,Ch lb b.2.1 js/\D (.lnk k i c) js
structure Snd (D:Znp->List Zaq->Prop) (K:Nat) (f:ZaF):Prop where
 now: ∀ (s:Nat) p,f.2.2.1[s]? =some p->SP D f.2.1 K (s:Int) p
 brd: ∀ (i:Nat) b,f.2.2.2.2.1[i]? =some b->SB D f.2.1 K i b
 lnk: ∀ (i:Nat) b,f.2.2.2.1[i]? =some b->SL D f.2.1 K i b
variable {D:Znp->List Zaq->Prop}{lb:List ZoP}{K:Nat}
theorem SP.app{s:Int}{p:ZbK}(h:SP D lb K s p)(m:List ZoP):SP D (lb++m) K s p:=
 ⟨fun e=>let ⟨k,a,js,b,c⟩:=h.arr e;⟨k,a,js,b.app m,c⟩,fun e=>let ⟨k,a,js,b,c⟩:=h.rid e;⟨k,a,js,b.app m,c⟩,fun e=>let ⟨k,a,js,b,c⟩:=h.rdy e;⟨k,a,js,b.app m,c⟩⟩
theorem SP.weak{s:Int}{p:ZbK}{K' :Nat}(h:SP D lb K s p)(hk:K<=K'):SP D lb K' s p:=
 ⟨fun e=>let ⟨k,a,r⟩:=h.arr e;⟨k,by omega,r⟩,fun e=>let ⟨k,a,r⟩:=h.rid e;⟨k,by omega,r⟩,fun e=>let ⟨k,a,r⟩:=h.rdy e;⟨k,by omega,r⟩⟩
theorem SB.app{i:Nat}{b:ZcA}(h:SB D lb K i b)(m:List ZoP):SB D (lb++m) K i b:=
 fun e=>let ⟨k,a,c,e1,js,b,d⟩:=h e;⟨k,a,c,e1,js,b.app m,d⟩
theorem SL.app{i:Nat}{b:ZcA}(h:SL D lb K i b)(m:List ZoP):SL D (lb++m) K i b:=
 fun e=>let ⟨z,k,a,c,e1,js,b,d⟩:=h e;⟨z,k,a,c,e1,js,b.app m,d⟩
theorem Zo2(p:ZbK)(a r l:Int): (ZsF p a r l).1=bif less p.1 a then a else p.1:=by
 unfold ZsF Zwr ZwP
 cases less p.1 a<;>simp only[cond_true,cond_false]<;>cases less p.2.2.1 r<;>rfl
theorem ZoN(p:ZbK)(a r l:Int): (ZsF p a r l).2.2.1=bif less p.2.2.1 r then r else p.2.2.1:=by
 unfold ZsF Zwr ZwP
 cases less p.1 a<;>simp only[cond_true,cond_false]<;>cases less p.2.2.1 r<;>rfl
theorem SP.imp{s:Int}{p:ZbK}(h:SP D lb K s p){a r l:Int}(ha: ∃k,k<=K/\ ∃js,Ch lb l js/\D (.arr k s a) js)(hr: ∃k,k<=K/\ ∃js,Ch lb l js/\D (.rdy k s r) js):SP D lb K s (ZsF p a r l):=by
 obtain⟨h1,h2,h3⟩:=h;unfold ZsF Zwr ZwP
 cases less p.1 a<;>simp only[cond_true,cond_false]<;>cases less p.2.2.1 r<;>simp only[cond_true,cond_false]
 ·exact⟨h1,h2,h3⟩
 ·exact⟨h1,h2,fun _=>hr⟩
 ·exact⟨fun _=>ha,h2,h3⟩
 ·exact⟨fun _=>ha,h2,fun _=>hr⟩
theorem Zfz{α:Type}{l:List α}{i:Nat}{p:α}(h:l[i]? =some p)(g:α->α): (l.modify i g)[i]? =some (g p):=by rw[Vx,h];simp
theorem Zjm{α:Type}{l:List α}{i j:Nat}(e:i≠j)(g:α->α): (l.modify i g)[j]? =l[j]? :=by rw[Vx];simp [e]
theorem Zi8{α:Type}{l:List α}{i j:Nat}{g:α->α}{q:α}(h: (l.modify i g)[j]? =some q): ∃p,l[j]? =some p/\(i=j/\q=g p\/i≠j/\q=p):=by
 by_cases e:i=j
 ·subst e
  cases hp:l[i]? with
  |none=>rw[Vx,hp]at h;simp at h
  |some p=>rw[Zfz hp]at h;cases h;exact⟨p,rfl, .inl ⟨rfl,rfl⟩⟩
 ·rw[Zjm e]at h;exact⟨q,h, .inr ⟨e,rfl⟩⟩
theorem Snd.add{f:ZaF}(h:Snd D K f)(x:Zaq)(p:Int):Snd D K (ZgT f x p):=
 ⟨fun s q hq=>(h.now s q hq).app _,fun i b hb=>(h.brd i b hb).app _,fun i b hb=>(h.lnk i b hb).app _⟩
theorem Snd.imp{f:ZaF}(h:Snd D K f){i:Nat}{a r l:Int}(ha: ∃k,k<=K/\ ∃js,Ch f.2.1 l js/\D (.arr k (i:Int) a) js)(hr: ∃k,k<=K/\ ∃js,Ch f.2.1 l js/\D (.rdy k (i:Int) r) js):Snd D K (Zg0 f i a r l):=by
 refine⟨fun s q hq=> ?_,h.brd,h.lnk⟩;obtain⟨p,hp,⟨rfl,rfl⟩ | ⟨_,rfl⟩⟩:=Zi8 hq
 ·exact(h.now i p hp).imp ha hr
 ·exact h.now s _ hp
theorem Snd.ride{f:ZaF}(h:Snd D K f){i:Nat}{a l:Int}(ha: ∃k,k<=K/\ ∃js,Ch f.2.1 l js/\D (.rid k (i:Int) a) js):Snd D K (Zmu f i a l):=by
 refine⟨fun s q hq=> ?_,h.brd,h.lnk⟩;obtain⟨p,hp,⟨rfl,rfl⟩ | ⟨_,rfl⟩⟩:=Zi8 hq
 ·exact⟨(h.now i p hp).arr,fun _=>ha,(h.now i p hp).rdy⟩
 ·exact h.now s _ hp
theorem Zlu{α:Type}{l:List α}{i j:Nat}{x y:α}(h: (l.set i x)[j]? =some y): (i=j/\y=x)\/l[j]? =some y:=by
 rw[Vrb]at h;by_cases e:i=j
 ·rw[if_pos e]at h;split at h
  ·exact .inl ⟨e,by simpa using h.symm⟩
  ·exact absurd h (by simp)
 ·rw[if_neg e]at h;exact .inr h
theorem Snd.board{f:ZaF}(h:Snd D K f){i:Nat}{b:ZcA}(hb: (rn f.1 (i:Int)).2.2.2.2.2.2.1=false->SB D f.2.1 K i b):Snd D K (Zbh f i b):=by
 unfold Zbh
 cases hc: (rn f.1 (i:Int)).2.2.2.2.2.2.1 with
 |true=>exact h
 |false=>
  cases less ((f.2.2.2.2.1[i]?).getD (0,0,false,())).1 b.1 with
  |false=>exact h
  |true=>
   refine⟨h.now,fun j x hx=> ?_,h.lnk⟩;rcases Zlu hx with ⟨rfl,rfl⟩ |hx
   ·exact hb hc
   ·exact h.brd j x hx
theorem Snd.linked{f:ZaF}(h:Snd D K f){i:Nat}{b:ZcA}(hb:SL D f.2.1 K i b):Snd D K (ZiY f i b):=by
 refine⟨h.now,h.brd,fun j x hx=> ?_⟩;rcases Zlu hx with ⟨rfl,rfl⟩ |hx
 ·exact hb
 ·exact h.lnk j x hx
def LeA(l:List ZbK)(s:Nat)(t:Int):Prop:= ∃p,l[s]? =some p/\p.1≠ -1/\p.1<=t
def LeR(l:List ZbK)(s:Nat)(t:Int):Prop:= ∃p,l[s]? =some p/\p.2.1≠ -1/\p.2.1<=t
def LeY(l:List ZbK)(s:Nat)(t:Int):Prop:= ∃p,l[s]? =some p/\p.2.2.1≠ -1/\p.2.2.1<=t
def LeB(l:List ZcA)(i:Nat)(d:Int):Prop:= ∃b,l[i]? =some b/\b.1≠ -1/\b.1<=d
theorem LeA.weak{l:List ZbK}{s:Nat}{t u:Int}(h:LeA l s t)(e:t<=u):LeA l s u:=let ⟨p,a,b,c⟩:=h;⟨p,a,b,Vbb c e⟩
theorem LeR.weak{l:List ZbK}{s:Nat}{t u:Int}(h:LeR l s t)(e:t<=u):LeR l s u:=let ⟨p,a,b,c⟩:=h;⟨p,a,b,Vbb c e⟩
theorem LeY.weak{l:List ZbK}{s:Nat}{t u:Int}(h:LeY l s t)(e:t<=u):LeY l s u:=let ⟨p,a,b,c⟩:=h;⟨p,a,b,Vbb c e⟩
structure Mv (f g:ZaF):Prop where
 net:g.1=f.1
 lab: ∃m,g.2.1=f.2.1++m
 arr: ∀s t,LeA f.2.2.1 s t->LeA g.2.2.1 s t
 rid: ∀s t,LeR f.2.2.1 s t->LeR g.2.2.1 s t
 rdy: ∀s t,LeY f.2.2.1 s t->LeY g.2.2.1 s t
 lnk: ∀i d,LeB f.2.2.2.1 i d->LeB g.2.2.2.1 i d
 brd: ∀i d,LeB f.2.2.2.2.1 i d->LeB g.2.2.2.2.1 i d
 out:g.2.2.2.2.2.2=f.2.2.2.2.2.2
theorem Mv.refl(f:ZaF):Mv f f:=⟨rfl,⟨[],by simp⟩,fun _ _ h=>h,fun _ _ h=>h,fun _ _ h=>h,fun _ _ h=>h,fun _ _ h=>h,rfl⟩
theorem Mv.trans{f g h:ZaF}(x:Mv f g)(y:Mv g h):Mv f h:=by obtain⟨m,hm⟩:=x.lab;obtain⟨m',hm'⟩:=y.lab;exact⟨y.net.trans x.net,⟨m++m',by rw[hm',hm,Vsb]⟩,fun s t h=>y.arr s t (x.arr s t h),fun s t h=>y.rid s t (x.rid s t h),fun s t h=>y.rdy s t (x.rdy s t h),fun s t h=>y.lnk s t (x.lnk s t h),fun s t h=>y.brd s t (x.brd s t h),y.out.trans x.out⟩
theorem Mv.ch{f g:ZaF}(h:Mv f g){l:Int}{js:List Zaq}(c:Ch f.2.1 l js):Ch g.2.1 l js:=by obtain⟨m,hm⟩:=h.lab;rw[hm];exact c.app m
structure Op (f g:ZaF):Prop where
 opn: ∀x∈f.2.2.2.2.2.1,x∈g.2.2.2.2.2.1
 chg: ∀i:Nat,g.2.2.2.2.1[i]? =f.2.2.2.2.1[i]? \/(i:Int)∈g.2.2.2.2.2.1
theorem Op.refl(f:ZaF):Op f f:=⟨fun _ h=>h,fun _=> .inl rfl⟩
theorem Op.trans{f g h:ZaF}(x:Op f g)(y:Op g h):Op f h:=by
 refine⟨fun z hz=>y.opn z (x.opn z hz),fun i=> ?_⟩;rcases y.chg i with a|a
 ·rcases x.chg i with b|b
  ·exact .inl (a.trans b)
  ·exact .inr (y.opn _ b)
 ·exact .inr a
theorem Zvb(f:ZaF)(x:Zaq)(p:Int):Mv f (ZgT f x p):=⟨rfl,⟨[(x,p,())],rfl⟩,fun _ _ h=>h,fun _ _ h=>h,fun _ _ h=>h,fun _ _ h=>h,fun _ _ h=>h,rfl⟩
theorem ZwS(f:ZaF)(x:Zaq)(p:Int):Op f (ZgT f x p):=⟨fun _ h=>h,fun _=> .inl rfl⟩
theorem ZwV{a b t:Int}(hb:0<=b)(h:a≠ -1/\a<=t): (bif less a b then b else a)≠ -1/\(bif less a b then b else a)<=t:=by
 cases hl:less a b with
 |false=>exact h
 |true=>
  have:=Zd7.1 hl;simp only[cond_true];omega
theorem Zvd{a b:Int}(hb:0<=b): (bif less a b then b else a)≠ -1/\(bif less a b then b else a)<=b:=by
 cases hl:less a b with
 |true=>simp only[cond_true];omega
 |false=>
  simp only[cond_false];have: ¬ (a= -1\/b<a):=fun e=>by rw[Zd7.2 e]at hl;cases hl
  omega
theorem ZfE{P:ZbK->Prop}{l:List ZbK}{i s:Nat}{g:ZbK->ZbK}(hg: ∀p,P p->P (g p))(h: ∃p,l[s]? =some p/\P p): ∃p,(l.modify i g)[s]? =some p/\P p:=by
 obtain⟨p,h1,h2⟩:=h;by_cases e:i=s
 ·subst e;exact⟨g p,Zfz h1 g,hg p h2⟩
 ·exact⟨p,(Zjm e g).trans h1,h2⟩
theorem Zto(f:ZaF)(i:Nat){a r:Int}(ha:0<=a)(hr:0<=r)(l:Int):Mv f (Zg0 f i a r l):=by
 refine⟨rfl,⟨[],by simp [Zg0]⟩,fun s t h=> ?_,fun s t h=> ?_,fun s t h=> ?_,fun _ _ h=>h,fun _ _ h=>h,rfl⟩
 ·refine ZfE (P:=fun p=>p.1≠ -1/\p.1<=t) (fun p hp=> ?_) h;rw[Zo2];exact ZwV ha hp
 ·refine ZfE (P:=fun p=>p.2.1≠ -1/\p.2.1<=t) (fun p hp=> ?_) h;rw[ZmM];exact hp
 ·refine ZfE (P:=fun p=>p.2.2.1≠ -1/\p.2.2.1<=t) (fun p hp=> ?_) h;rw[ZoN];exact ZwV hr hp
theorem ZoM{f:ZaF}{i:Nat}(hi:i<f.2.2.1.length){a r:Int}(ha:0<=a)(hr:0<=r)(l:Int):LeA (Zg0 f i a r l).2.2.1 i a/\LeY (Zg0 f i a r l).2.2.1 i r:=by
 have e: (Zg0 f i a r l).2.2.1[i]? =some (ZsF f.2.2.1[i] a r l):=by exact Zfz (Va hi) _
 exact⟨⟨_,e,by rw[Zo2];exact Zvd ha⟩,⟨_,e,by rw[ZoN];exact Zvd hr⟩⟩
theorem Zwq(f:ZaF)(i:Nat){a:Int}(ha:0<=a)(hl:less (ZmG f (i:Int)).2.1 a=true)(l:Int):Mv f (Zmu f i a l):=by
 refine⟨rfl,⟨[],by simp [Zmu]⟩,fun s t h=> ?_,fun s t h=> ?_,fun s t h=> ?_,fun _ _ h=>h,fun _ _ h=>h,rfl⟩
 ·exact ZfE (P:=fun p=>p.1≠ -1/\p.1<=t) (fun p hp=>hp) h
 ·obtain⟨p,h1,h2⟩:=h;by_cases e:i=s
  ·subst e;refine⟨_,Zfz h1 _, ?_⟩;unfold ZmG at hl;rw[Ve,h1]at hl;have:=Zd7.1 hl;simp only[Vu]at this;simp only;omega
  ·exact⟨p,(Zjm e _).trans h1,h2⟩
 ·exact ZfE (P:=fun p=>p.2.2.1≠ -1/\p.2.2.1<=t) (fun p hp=>hp) h
theorem Zt0{f:ZaF}{i:Nat}(hi:i<f.2.2.1.length){a:Int}(ha:0<=a)(l:Int):LeR (Zmu f i a l).2.2.1 i a:=by
 refine⟨((f.2.2.1[i]).1,a,(f.2.2.1[i]).2.2.1,(f.2.2.1[i]).2.2.2.1,l,(f.2.2.1[i]).2.2.2.2.2), ?_, ?_⟩
 ·exact Zfz (Va hi) _
 ·show a≠ -1/\a<=a;omega
theorem Zu6{l:List ZcA}{i:Nat}{b:ZcA}(h:less ((l[i]?).getD (0,0,false,())).1 b.1=true)(hb:0<=b.1){j:Nat}{d:Int}(hj:LeB l j d):LeB (l.set i b) j d:=by
 obtain⟨x,h1,h2,h3⟩:=hj;by_cases e:i=j
 ·subst e;have hi:=(Vw.1 h1).1;refine⟨b,Vn hi, ?_⟩;rw[h1]at h;have:=Zd7.1 h;simp only[Vu]at this;omega
 ·exact⟨x,by rw[Vca e];exact h1,h2,h3⟩
theorem ZlL{l:List ZcA}{i:Nat}(hi:i<l.length){b:ZcA}(h:less ((l[i]?).getD (0,0,false,())).1 b.1=false):LeB l i b.1:=by
 rw[Zak hi]at h;have: ¬ ((l[i]).1= -1\/b.1< (l[i]).1):=fun e=>by rw[Zd7.2 e]at h;cases h
 exact⟨l[i],Va hi,by omega,by omega⟩
theorem Zlg(f:ZaF){i:Nat}{b:ZcA}(hb:0<=b.1):Mv f (Zbh f i b)/\Op f (Zbh f i b):=by
 unfold Zbh
 cases hg: (!(rn f.1 (i:Int)).2.2.2.2.2.2.1&&less ((f.2.2.2.2.1[i]?).getD (0,0,false,())).1 b.1) with
 |false=>exact⟨Mv.refl f,Op.refl f⟩
 |true=>
  rw[Vd]at hg;refine⟨⟨rfl,⟨[],by simp⟩,fun _ _ h=>h,fun _ _ h=>h,fun _ _ h=>h,fun _ _ h=>h,fun j d h=>Zu6 hg.2 hb h,rfl⟩,⟨fun x hx=>by simp only[cond_true,Veb];exact .inl hx,fun j=> ?_⟩⟩;simp only[cond_true];by_cases e:i=j
  ·subst e;exact .inr (by simp)
  ·exact .inl (Vca e)
theorem ZiX{f:ZaF}{i:Nat}(hi:i<f.2.2.2.2.1.length){b:ZcA}(hb:0<=b.1)(hc: (rn f.1 (i:Int)).2.2.2.2.2.2.1=false):LeB (Zbh f i b).2.2.2.2.1 i b.1:=by
 unfold Zbh;rw[hc]
 cases hl:less ((f.2.2.2.2.1[i]?).getD (0,0,false,())).1 b.1 with
 |false=>exact ZlL hi hl
 |true=>exact⟨b,Vn hi,by omega,by omega⟩
theorem ZsZ(f:ZaF){i:Nat}{b:ZcA}(hb:0<=b.1)(hl:less ((f.2.2.2.1[i]?).getD (0,0,false,())).1 b.1=true):Mv f (ZiY f i b)/\Op f (ZiY f i b):=
 ⟨⟨rfl,⟨[],by simp [ZiY]⟩,fun _ _ h=>h,fun _ _ h=>h,fun _ _ h=>h,fun j d h=>Zu6 hl hb h,fun _ _ h=>h,rfl⟩,⟨fun _ h=>h,fun _=> .inl rfl⟩⟩
def Zn2(n:Zat)(out:List (List Int)):Prop:=out.length=n.2.2.1.length/\ ∀ (i:Nat) ks,out[i]? =some ks-> ∀x:Int,x∈ks↔inR x n.2.2.2.1.length=true/\(lkI n x).1=(i:Int)
theorem Zsl{n:Zat}{x:Int}(h:inR x n.2.2.2.1.length=true):lkI n x∈n.2.2.2.1:=by
 unfold inR at h;simp only[Vd,decide_eq_true_eq]at h;have hl:x.toNat<n.2.2.2.1.length:=by omega
 unfold lkI;rw[Zak hl];exact Vf hl
def Fol(n:Zat)(i c:Nat)(g:ZaF)(x:Int):Prop:= ∀ (j d:Nat) (st:Bool),lkI n x=((i:Int),(c:Int),(j:Int),(d:Int),st,())->(Zac n i c).2.1<=(Zac n j d).2.2.1->
 (st=true->ZcS n j=false->LeB g.2.2.2.2.1 j (d:Int))/\(st=false->(Zac n i c).2.2.2.2.1=true->(Zac n j d).2.2.2.1=true->LeB g.2.2.2.1 j (d:Int))
theorem Fol.mono{i c:Nat}{g h:ZaF}{x:Int}(y:Mv g h)(z:Fol n i c g x):Fol n i c h x:=
 fun j d st e1 e2=>let ⟨a,b⟩:=z j d st e1 e2;⟨fun u v=>y.brd _ _ (a u v),fun u v z=>y.lnk _ _ (b u v z)⟩
theorem ZjV(C:Ctx n s0 t0 w){f:ZaF}(hf:f.1=n)(hS:St f)(h:Snd (Der n s0 t0 w) K f){k i c:Nat}{l:Int}{js:List Zaq}(hk:k<=K)(hl:Ch f.2.1 l js)(hd:Der n s0 t0 w (.on k i c) js){x:Int}(hx:inR x n.2.2.2.1.length=true)(hfr: (lkI n x).1=(i:Int)):
  Snd (Der n s0 t0 w) K (ZaG (c:Int) (Zac n i c).2.1 l (Zac n i c).2.2.2.2.1 f x)/\(Mv f (ZaG (c:Int) (Zac n i c).2.1 l (Zac n i c).2.2.2.2.1 f x)/\Op f (ZaG (c:Int) (Zac n i c).2.1 l (Zac n i c).2.2.2.2.1 f x))/\Fol n i c (ZaG (c:Int) (Zac n i c).2.1 l (Zac n i c).2.2.2.2.1 f x) x:=by
 have hmem:=Zsl hx;obtain⟨i',c',j,d,st,e,hi,hj,hij,hc,hdl,hst,hstay⟩:=C.net.link _ hmem;have hi' :i' =i:=by rw[e]at hfr;simp only at hfr;omega
 subst hi';unfold ZaG;rw[hf,e];simp only[Ve];rw[show (cl (rn n (j:Int)).2.2.2.2.2.2.2.1 (d:Int))=Zac n j d from rfl];by_cases h1:c' =c
 rotate_left
 ·rw[decide_eq_false (show¬ (c' :Int)=(c:Int) by omega)];refine⟨h,⟨Mv.refl f,Op.refl f⟩,fun j' d' st' e' _=> ?_⟩;rw[e]at e';simp only[Vva]at e';omega
 subst h1;by_cases h2: (Zac n j d).2.2.1< (Zac n i' c').2.1
 ·rw[decide_eq_true h2,Vya];refine⟨h,⟨Mv.refl f,Op.refl f⟩,fun j' d' st' e' h3=> ?_⟩;rw[e]at e';simp only[Vva,Vna]at e';obtain⟨_,_,rfl,rfl,rfl,_⟩:=e';omega
 rw[decide_eq_false h2,decide_eq_true rfl];have hil:isLink n i' c' j d st:=by unfold isLink;rw[<-e];exact hmem
 have hjr:j<f.2.2.2.2.1.length:=by rw[hS.runs,hf];exact hj
 have hjl:j<f.2.2.2.1.length:=by rw[hS.linked,hf];exact hj
 have hfol: ∀g:ZaF,((st=true->ZcS n j=false->LeB g.2.2.2.2.1 j (d:Int))/\(st=false->(Zac n i' c').2.2.2.2.1=true->(Zac n j d).2.2.2.1=true->LeB g.2.2.2.1 j (d:Int)))->Fol n i' c' g x:=by intro g hg j' d' st' e' _;rw[e]at e';simp only[Vva,Vna]at e';obtain⟨_,_,rfl,rfl,rfl,_⟩:=e';exact hg
 cases st with
 |true=>
  simp only[Vi,Vwa,cond_false,cond_true];refine⟨h.board fun hcn=>fun _=>⟨k,hk,d,rfl,js,hl, .stay hd hil (by omega) (by rw[hf]at hcn;exact hcn)⟩,Zlg f (b:=((d:Int),l,true,())) (by show (0:Int)<=(d:Int);omega),hfol _ ⟨fun _ hcn=> ?_,fun e=>nomatch e⟩⟩
  exact ZiX hjr (b:=((d:Int),l,true,())) (by show (0:Int)<=(d:Int);omega) (by rw[hf];exact hcn)
 |false=>
  simp only[Vi,Vwa,cond_false]
  cases hal: (Zac n i' c').2.2.2.2.1 with
  |false=>exact⟨h,⟨Mv.refl f,Op.refl f⟩,hfol _ ⟨(fun e=>nomatch e),fun _ e=>by rw[hal]at e;cases e⟩⟩
  |true=>
   cases hbd: (Zac n j d).2.2.2.1 with
   |false=>exact⟨h,⟨Mv.refl f,Op.refl f⟩,hfol _ ⟨(fun e=>nomatch e),fun _ _ e=>by rw[hbd]at e;cases e⟩⟩
   |true=>
    simp only[Vm]
    cases hls:less ((f.2.2.2.1[j]?).getD (0,0,false,())).1 (d:Int) with
    |false=>exact⟨h,⟨Mv.refl f,Op.refl f⟩,hfol _ ⟨(fun e=>nomatch e),fun _ _ _=>ZlL hjl (b:=((d:Int),l,false,())) hls⟩⟩
    |true=>
     simp only[cond_true];refine⟨h.linked fun _=>⟨rfl,k+1,by omega,d,rfl,js,hl, .link hd hal hil (by omega) hbd⟩,ZsZ f (b:=((d:Int),l,false,())) (by show (0:Int)<=(d:Int);omega) hls,hfol _ ⟨(fun e=>nomatch e),fun _ _ _=>⟨_,Vn hjl, ?_⟩⟩⟩;show (d:Int)≠ -1/\(d:Int)<=(d:Int);omega
theorem Zgx(C:Ctx n s0 t0 w){k i c:Nat}{l:Int}{js:List Zaq}(hk:k<=K)(hd:Der n s0 t0 w (.on k i c) js): ∀ (ks:List Int) {f:ZaF},f.1=n->St f->Snd (Der n s0 t0 w) K f->Ch f.2.1 l js->(∀x∈ks,inR x n.2.2.2.1.length=true/\(lkI n x).1=(i:Int))->
  Snd (Der n s0 t0 w) K (ks.foldl (ZaG (c:Int) (Zac n i c).2.1 l (Zac n i c).2.2.2.2.1) f)/\(Mv f (ks.foldl (ZaG (c:Int) (Zac n i c).2.1 l (Zac n i c).2.2.2.2.1) f)/\Op f (ks.foldl (ZaG (c:Int) (Zac n i c).2.1 l (Zac n i c).2.2.2.2.1) f))/\ ∀x∈ks,Fol n i c (ks.foldl (ZaG (c:Int) (Zac n i c).2.1 l (Zac n i c).2.2.2.2.1) f) x
 | [],f,_,_,h,_,_=>⟨h,⟨Mv.refl f,Op.refl f⟩,(fun _ h=>nomatch h)⟩
 |x::ks,f,hf,hS,h,hl,hx=>by
  obtain⟨hx1,hx2⟩:=hx x (by simp);obtain⟨h1,⟨h2,h3⟩,h4⟩:=ZjV C hf hS h hk hl hd hx1 hx2;obtain⟨h5,⟨h6,h7⟩,h8⟩:=Zgx C hk hd ks (h2.net.trans hf) (hS.step (Zc3 ..).1) h1 (h2.ch hl) (fun y hy=>hx y (by simp [hy]));refine⟨h5,⟨h2.trans h6,h3.trans h7⟩,fun y hy=> ?_⟩;rcases Vbc.1 hy with rfl|hy
  ·exact h4.mono h6
  ·exact h8 y hy
def Zxf(n:Zat)(i c:Nat)(g:ZaF):Prop:= ∀ (j d:Nat) (st:Bool),isLink n i c j d st->(Zac n i c).2.1<=(Zac n j d).2.2.1->
 (st=true->ZcS n j=false->LeB g.2.2.2.2.1 j (d:Int))/\(st=false->(Zac n i c).2.2.2.2.1=true->(Zac n j d).2.2.2.1=true->LeB g.2.2.2.1 j (d:Int))
theorem Zxf.mono{i c:Nat}{g h:ZaF}(y:Mv g h)(z:Zxf n i c g):Zxf n i c h:=
 fun j d st e1 e2=>let ⟨a,b⟩:=z j d st e1 e2;⟨fun u v=>y.brd _ _ (a u v),fun u v z=>y.lnk _ _ (b u v z)⟩
theorem ZpR{i c j d:Nat}{st:Bool}(h:isLink n i c j d st): ∃x:Int,inR x n.2.2.2.1.length=true/\lkI n x=((i:Int),(c:Int),(j:Int),(d:Int),st,()):=by
 obtain⟨k,hk,e⟩:=Vy h;refine⟨(k:Int), ?_, ?_⟩
 ·unfold inR;rw[Vd,decide_eq_true_eq,decide_eq_true_eq];omega
 ·unfold lkI;rw[Ve,Zak hk,e]
theorem ZqL(C:Ctx n s0 t0 w){f:ZaF}(hf:f.1=n)(hS:St f)(ho:Zn2 n f.2.2.2.2.2.2.1)(h:Snd (Der n s0 t0 w) K f){k i c:Nat}{l:Int}{js:List Zaq}(hk:k<=K)(hl:Ch f.2.1 l js)(hd:Der n s0 t0 w (.on k i c) js):
  Snd (Der n s0 t0 w) K (ZbD f (i:Int) (c:Int) l (Zac n i c).2.2.2.2.1)/\(Mv f (ZbD f (i:Int) (c:Int) l (Zac n i c).2.2.2.2.1)/\Op f (ZbD f (i:Int) (c:Int) l (Zac n i c).2.2.2.2.1))/\Zxf n i c (ZbD f (i:Int) (c:Int) l (Zac n i c).2.2.2.2.1):=by
 have hi:=(C.ok hd).2.1;unfold ZbD;rw[hf,Ve];rw[show cl (rn n (i:Int)).2.2.2.2.2.2.2.1 (c:Int)=Zac n i c from rfl];have hio:i<f.2.2.2.2.2.2.1.length:=by rw[ho.1];exact hi
 have hks:=ho.2 i _ (Va hio);rw[Zak hio];obtain⟨h1,h2,h3⟩:=Zgx C hk hd (f.2.2.2.2.2.2.1[i]) hf hS h hl (fun x hx=>(hks x).1 hx);refine⟨h1,h2,fun j d st e1 e2=> ?_⟩;obtain⟨x,hx1,hx2⟩:=ZpR e1;exact h3 x ((hks x).2 ⟨hx1,by rw[hx2]⟩) j d st hx2 e2
def Vst(n:Zat)(i m:Nat)(g:ZaF):Prop:=((Zac n i m).2.2.2.2.1=true->LeR g.2.2.1 (Zac n i m).1.toNat (Zac n i m).2.1)/\Zxf n i m g
theorem Vst.mono{i m:Nat}{g h:ZaF}(y:Mv g h)(z:Vst n i m g):Vst n i m h:=⟨fun e=>y.rid _ _ (z.1 e),z.2.mono y⟩
theorem ZkV(C:Ctx n s0 t0 w){f:ZaF}(hf:f.1=n)(hS:St f)(ho:Zn2 n f.2.2.2.2.2.2.1)(h:Snd (Der n s0 t0 w) K f){k i bc m:Nat}{prev:Int}{st:Bool}{js:List Zaq}(hk:k<=K)(hp:Ch f.2.1 prev js)(hd:Der n s0 t0 w (.brd k i bc st) js)(hm:bc<m)(hml:m< (Zaj n i).length):
  Snd (Der n s0 t0 w) K (Zbp (i:Int) ((bc:Int),prev,st,()) (Zac n i bc) (Zaj n i) f m)/\(Mv f (Zbp (i:Int) ((bc:Int),prev,st,()) (Zac n i bc) (Zaj n i) f m)/\Op f (Zbp (i:Int) ((bc:Int),prev,st,()) (Zac n i bc) (Zaj n i) f m))/\Vst n i m (Zbp (i:Int) ((bc:Int),prev,st,()) (Zac n i bc) (Zaj n i) f m):=by
 have hi:=(C.ok hd).2.1;have hon:=Der.on hd hm hml;unfold Zbp;rw[show cl (Zaj n i) (m:Int)=Zac n i m from rfl]
 cases hskip: (!(Zac n i m).2.2.2.2.1&&decide ((ZhR f (i:Int)).length=0)) with
 |true=>
  simp only[cond_true];rw[Vd,Bool.not_eq_true',decide_eq_true_eq]at hskip;refine⟨h,⟨Mv.refl f,Op.refl f⟩,⟨fun e=>(by rw[hskip.1]at e;cases e),fun j d st e1 e2=> ?_⟩⟩;exfalso;have hio:i<f.2.2.2.2.2.2.1.length:=by rw[ho.1];exact hi
  have hks:=ho.2 i _ (Va hio);obtain⟨x,hx1,hx2⟩:=ZpR e1;have hx:=(hks x).2 ⟨hx1,by rw[hx2]⟩;have he:=hskip.2;unfold ZhR at he;rw[Ve,Zak hio]at he;rw[Via.1 he]at hx
  cases hx
 |false=>
  simp only[cond_false];rw[show ((true,(i:Int),(bc:Int),(m:Int),(Zac n i bc).1,(Zac n i m).1,(Zac n i bc).2.2.1,(Zac n i m).2.1,st,()):Zaq)=Zbw n i bc m st from rfl];generalize hx:Zbw n i bc m st=x at*;have hch:Ch (ZgT f x prev).2.1 (f.2.1.length:Int) (js++[x]):=hp.new x;obtain⟨h1,⟨h2,h3⟩,h4⟩:=ZqL C (f:=ZgT f x prev) hf (hS.step (ZeH ..)) ho (h.add x prev) hk hch hon;have h5:=(Zvb f x prev).trans h2;have h6:=(ZwS f x prev).trans h3;have hlen:=(Zde (ZgT f x prev) (i:Int) (m:Int) (f.2.1.length:Int) (Zac n i m).2.2.2.2.1).1;have hSg:=(hS.step (ZeH f x prev)).step hlen;generalize ZbD (ZgT f x prev) (i:Int) (m:Int) (f.2.1.length:Int) (Zac n i m).2.2.2.2.1=g at*
  have hst:=C.net.stop hi hml;have htm:=C.net.time hi hml;obtain⟨s,hs⟩: ∃s:Nat,(Zac n i m).1=(s:Int):=⟨(Zac n i m).1.toNat,by omega⟩;have hsg:s<g.2.2.1.length:=by rw[hSg.now,h5.net,hf];omega
  rw[hs,Ve]
  cases hal: (Zac n i m).2.2.2.2.1 with
  |false=>
   simp only[Vpa,cond_false]
   exact⟨h1,⟨h5,h6⟩,fun e=>(by rw[hal]at e;cases e),h4⟩
  |true=>
   simp only[Vm]
   cases hls:less (ZmG g (s:Int)).2.1 (Zac n i m).2.1 with
   |false=>
    simp only[cond_false];refine⟨h1,⟨h5,h6⟩,fun _=> ?_,h4⟩;rw[hs,Ve];unfold ZmG at hls;rw[Ve,Zak hsg]at hls;have: ¬ ((g.2.2.1[s]).2.1= -1\/(Zac n i m).2.1< (g.2.2.1[s]).2.1):=fun e=>by rw[Zd7.2 e]at hls;cases hls
    exact⟨_,Va hsg,by omega,by omega⟩
   |true=>
    simp only[cond_true];have hmv:=Zwq g s htm.1 hls (f.2.1.length:Int);refine⟨h1.ride ⟨k,hk,_,h2.ch hch, ?_⟩,⟨h5.trans hmv,h6.trans ⟨fun _ h=>h,fun _=> .inl rfl⟩⟩,fun _=> ?_,h4.mono hmv⟩
    ·rw[<-hs];exact .ride hon hal
    ·rw[hs,Ve];exact Zt0 hsg htm.1 _
theorem Zku(C:Ctx n s0 t0 w){k i bc:Nat}{prev:Int}{st:Bool}{js:List Zaq}(hk:k<=K)(hd:Der n s0 t0 w (.brd k i bc st) js): ∀ (m:Nat) {f:ZaF},f.1=n->St f->Zn2 n f.2.2.2.2.2.2.1->Snd (Der n s0 t0 w) K f->Ch f.2.1 prev js->bc+1+m<=(Zaj n i).length->
  Snd (Der n s0 t0 w) K (Zc5 (i:Int) ((bc:Int),prev,st,()) (Zac n i bc) (Zaj n i) (bc+1) m f)/\(Mv f (Zc5 (i:Int) ((bc:Int),prev,st,()) (Zac n i bc) (Zaj n i) (bc+1) m f)/\Op f (Zc5 (i:Int) ((bc:Int),prev,st,()) (Zac n i bc) (Zaj n i) (bc+1) m f))/\
  ∀j,bc<j->j<bc+1+m->Vst n i j (Zc5 (i:Int) ((bc:Int),prev,st,()) (Zac n i bc) (Zaj n i) (bc+1) m f)
 |0,f,_,_,_,h,_,_=>⟨h,⟨Mv.refl f,Op.refl f⟩,fun j h1 h2=>by omega⟩
 |m+1,f,hf,hS,ho,h,hp,hm=>by
  obtain⟨h1,⟨h2,h3⟩,h4⟩:=Zku C hk hd m hf hS ho h hp (by omega);have hS2:=hS.step (ZcK (i:Int) ((bc:Int),prev,st,()) (Zac n i bc) (Zaj n i) (bc+1) m f hS).1;obtain⟨h5,⟨h6,h7⟩,h8⟩:=ZkV C (h2.net.trans hf) hS2 (by rw[h2.out];exact ho) h1 hk (h2.ch hp) hd (m:=bc+1+m) (by omega) (by omega);refine⟨h5,⟨h2.trans h6,h3.trans h7⟩,fun j hj1 hj2=> ?_⟩;by_cases e:j=bc+1+m
  ·subst e;exact h8
  ·exact(h4 j hj1 (by omega)).mono h6
def Vis(n:Zat)(i:Nat)(b:Int)(g:ZaF):Prop:= ∀m:Nat,b< (m:Int)->m< (Zaj n i).length->Vst n i m g
theorem Vis.mono{i:Nat}{b:Int}{g h:ZaF}(y:Mv g h)(z:Vis n i b g):Vis n i b h:=fun m a c=>(z m a c).mono y
theorem Zp3(C:Ctx n s0 t0 w){f:ZaF}(hf:f.1=n)(hS:St f)(ho:Zn2 n f.2.2.2.2.2.2.1)(h:Snd (Der n s0 t0 w) K f){i:Nat}(hi:i<n.2.2.1.length)(hb:inR ((f.2.2.2.2.1[i]?).getD (0,0,false,())).1 (Zaj n i).length=true):
  Snd (Der n s0 t0 w) K (Zc6 f i)/\(Mv f (Zc6 f i)/\Op f (Zc6 f i))/\Vis n i ((f.2.2.2.2.1[i]?).getD (0,0,false,())).1 (Zc6 f i):=by
 have hir:i<f.2.2.2.2.1.length:=by rw[hS.runs,hf];exact hi
 have hsb:=h.brd i _ (Va hir);unfold Zc6;rw[Zak hir]at hb ⊢;generalize f.2.2.2.2.1[i]=b at*;unfold inR at hb;simp only[Vd,decide_eq_true_eq]at hb;obtain⟨k,hk,c,hc,js,hch,hd⟩:=hsb (by omega);obtain⟨b1,prev,st,u⟩:=b;simp only at hc hch hd hb;subst hc;rw[hf];simp only[Ve];obtain⟨h1,h2,h3⟩:=Zku C hk hd ((Zaj n i).length - (c+1)) hf hS ho h hch (by omega);exact⟨h1,h2,fun m hm1 hm2=>h3 m (by omega) (by omega)⟩
end Q
namespace Q
open Tr Go
open Option (bind_some)
variable {n:Zat}{s0 t0 w:Int}{K:Nat}
theorem Zl3(C:Ctx n s0 t0 w){before:List ZbK}(hbl:before.length=n.1.length){f:ZaF}(hf:f.1=n)(hS:St f)(hB: ∀ (s:Nat) p,before[s]? =some p->SP (Der n s0 t0 w) f.2.1 K (s:Int) p)(h:Snd (Der n s0 t0 w) (K+1) f){i m:Nat}(hi:i<n.2.2.1.length)(hm:m< (Zaj n i).length):
  Snd (Der n s0 t0 w) (K+1) (ZbQ before i (Zaj n i) f m)/\(Mv f (ZbQ before i (Zaj n i) f m)/\Op f (ZbQ before i (Zaj n i) f m))/\
  (ZcS n i=false->(Zac n i m).2.2.2.1=true->LeY before (Zac n i m).1.toNat (Zac n i m).2.2.1->LeB (ZbQ before i (Zaj n i) f m).2.2.2.2.1 i (m:Int)):=by
 have hst:=C.net.stop hi hm;have hir:i<f.2.2.2.2.1.length:=by rw[hS.runs,hf];exact hi
 unfold ZbQ;rw[show cl (Zaj n i) (m:Int)=Zac n i m from rfl];obtain⟨s,hs⟩: ∃s:Nat,(Zac n i m).1=(s:Int):=⟨(Zac n i m).1.toNat,by omega⟩;have hsb:s<before.length:=by omega
 have hp:=hB s _ (Va hsb);rw[hs,Ve,Zak hsb]
 have hY: ∀t,LeY before s t->(before[s]).2.2.1≠ -1/\(before[s]).2.2.1<=t:=by rintro t ⟨q,hq,h1⟩;rw[Va hsb]at hq;cases hq;exact h1
 generalize before[s]=p at*
 cases hb: (Zac n i m).2.2.2.1 with
 |false=>exact⟨h,⟨Mv.refl f,Op.refl f⟩,fun _ e=>by cases e⟩
 |true=>
  by_cases h1:p.2.2.1= -1
  ·rw[decide_eq_true h1];exact⟨h,⟨Mv.refl f,Op.refl f⟩,fun _ _ e=>absurd h1 (hY _ e).1⟩
  by_cases h2:p.2.2.1<=(Zac n i m).2.2.1
  rotate_left
  ·rw[decide_eq_false h1,decide_eq_false h2];exact⟨h,⟨Mv.refl f,Op.refl f⟩,fun _ _ e=>absurd (hY _ e).2 h2⟩
  rw[decide_eq_false h1,decide_eq_true h2];simp only[Vl,Vm]
  cases hl:less ((f.2.2.2.2.1[i]?).getD (0,0,false,())).1 (m:Int) with
  |false=>
   simp only[cond_false]
   exact⟨h,⟨Mv.refl f,Op.refl f⟩,fun _ _ _=>ZlL hir (b:=((m:Int),0,false,())) hl⟩
  |true=>
   simp only[cond_true];have hm0: (0:Int)<=(m:Int):=by omega
   refine⟨h.board fun hcn=>fun _=> ?_,Zlg f (b:=((m:Int),p.2.2.2.2.2.1,false,())) hm0,fun hcn _ _=>ZiX hir (b:=((m:Int),p.2.2.2.2.2.1,false,())) hm0 (by rw[hf];exact hcn)⟩;obtain⟨k,hk,js,hch,hd⟩:=hp.rdy h1;exact⟨k+1,by omega,m,rfl,js,hch, .board hd hi hm (by rw[hf]at hcn;exact hcn) hs hb h2⟩
theorem ZhI(C:Ctx n s0 t0 w){before:List ZbK}(hbl:before.length=n.1.length){i:Nat}(hi:i<n.2.2.1.length): ∀ (m:Nat) {f:ZaF},f.1=n->St f->(∀ (s:Nat) p,before[s]? =some p->SP (Der n s0 t0 w) f.2.1 K (s:Int) p)->Snd (Der n s0 t0 w) (K+1) f->m<=(Zaj n i).length->
  Snd (Der n s0 t0 w) (K+1) (ZcQ before i (Zaj n i) m f)/\(Mv f (ZcQ before i (Zaj n i) m f)/\Op f (ZcQ before i (Zaj n i) m f))/\
  ∀j,j<m->ZcS n i=false->(Zac n i j).2.2.2.1=true->LeY before (Zac n i j).1.toNat (Zac n i j).2.2.1->LeB (ZcQ before i (Zaj n i) m f).2.2.2.2.1 i (j:Int)
 |0,f,_,_,_,h,_=>⟨h,⟨Mv.refl f,Op.refl f⟩,fun j hj=>absurd hj (Vfb j)⟩
 |m+1,f,hf,hS,hB,h,hm=>by
  obtain⟨h1,⟨h2,h3⟩,h4⟩:=ZhI C hbl hi m hf hS hB h (by omega);obtain⟨g1,g2⟩:=ZcY before i (Zaj n i) m f;obtain⟨h5,⟨h6,h7⟩,h8⟩:=Zl3 C hbl (h2.net.trans hf) (hS.step g1) (by rw[g2];exact hB) h1 hi (m:=m) (by omega);refine⟨h5,⟨h2.trans h6,h3.trans h7⟩,fun j hj a b c=> ?_⟩;by_cases e:j=m
  ·subst e;exact h8 a b c
  ·exact h6.brd _ _ (h4 j (by omega) a b c)
def Beg(n:Zat)(before:List ZbK)(boarded:List ZcA)(i:Nat)(g:ZaF):Prop:=ZcS n i=false->(∀d,LeB boarded i d->LeB g.2.2.2.2.1 i d)/\
 ∀j,j< (Zaj n i).length->(Zac n i j).2.2.2.1=true->LeY before (Zac n i j).1.toNat (Zac n i j).2.2.1->LeB g.2.2.2.2.1 i (j:Int)
theorem Beg.mono{before:List ZbK}{boarded:List ZcA}{i:Nat}{g h:ZaF}(y:Mv g h)(z:Beg n before boarded i g):Beg n before boarded i h:=
 fun e=>⟨fun d hd=>y.brd _ _ ((z e).1 d hd),fun j a b c=>y.brd _ _ ((z e).2 j a b c)⟩
theorem Zq8(C:Ctx n s0 t0 w){before:List ZbK}(hbl:before.length=n.1.length){boarded:List ZcA}(hbo:boarded.length=n.2.2.1.length){i:Nat}(hi:i<n.2.2.1.length){f:ZaF}(hf:f.1=n)(hS:St f)(hB: ∀ (s:Nat) p,before[s]? =some p->SP (Der n s0 t0 w) f.2.1 K (s:Int) p)
  (hL: ∀ (i:Nat) b,boarded[i]? =some b->SL (Der n s0 t0 w) f.2.1 K i b) (h:Snd (Der n s0 t0 w) (K+1) f):
  Snd (Der n s0 t0 w) (K+1) (ZdZ before boarded f i)/\(Mv f (ZdZ before boarded f i)/\Op f (ZdZ before boarded f i))/\Beg n before boarded i (ZdZ before boarded f i):=by
 have hib:i<boarded.length:=by omega
 have hir:i<f.2.2.2.2.1.length:=by rw[hS.runs,hf];exact hi
 have hl:=hL i _ (Va hib);unfold ZdZ;rw[Zak hib,hf,show (rn n (i:Int)).2.2.2.2.2.2.2.1=Zaj n i from rfl]
 have hLe: ∀d,LeB boarded i d->(boarded[i]).1≠ -1/\(boarded[i]).1<=d:=by rintro d ⟨b,hb,h1⟩;rw[Va hib]at hb;cases hb;exact h1
 generalize boarded[i]=b at*;by_cases hb:b.1= -1
 ·rw[decide_eq_true hb];obtain⟨h1,h2,h3⟩:=ZhI C hbl hi (Zaj n i).length hf hS hB h (Vo _);exact⟨h1,h2,fun e=>⟨fun d hd=>absurd hb (hLe d hd).1,fun j hj=>h3 j hj e⟩⟩
 ·rw[decide_eq_false hb];simp only[Vl,cond_true];obtain⟨hst,k,hk,c,hc,js,hch,hd⟩:=hl hb;have hb0:0<=b.1:=by omega
  have hs1:Snd (Der n s0 t0 w) (K+1) (Zbh f i b):=h.board fun hcn=>fun _=>⟨k,hk,c,hc,js,hch,by rw[hst];exact .linked hd (by rw[hf]at hcn;exact hcn)⟩;obtain⟨m1,m2⟩:=Zlg f (i:=i) hb0;have hlab:=Zf8 f i b;obtain⟨h1,⟨h2,h2'⟩,h3⟩:=ZhI C hbl hi (Zaj n i).length (m1.net.trans hf) (hS.step (Zcq ..)) (by rw[hlab];exact hB) hs1 (Vo _);refine⟨h1,⟨m1.trans h2,m2.trans h2'⟩,fun e=>⟨fun d hd=> ?_,fun j hj=>h3 j hj e⟩⟩;obtain⟨x,hx1,hx2,hx3⟩:=h2.brd _ _ (ZiX hir hb0 (by rw[hf];exact e));exact⟨x,hx1,hx2,Vbb hx3 (hLe d hd).2⟩
theorem ZkF(C:Ctx n s0 t0 w){before:List ZbK}(hbl:before.length=n.1.length){boarded:List ZcA}(hbo:boarded.length=n.2.2.1.length): ∀ (m:Nat) {f:ZaF},f.1=n->St f->(∀ (s:Nat) p,before[s]? =some p->SP (Der n s0 t0 w) f.2.1 K (s:Int) p)->
  (∀ (i:Nat) b,boarded[i]? =some b->SL (Der n s0 t0 w) f.2.1 K i b)->Snd (Der n s0 t0 w) (K+1) f->m<=n.2.2.1.length->
  Snd (Der n s0 t0 w) (K+1) (ZcX before boarded m f)/\(Mv f (ZcX before boarded m f)/\Op f (ZcX before boarded m f))/\ ∀i,i<m->Beg n before boarded i (ZcX before boarded m f)
 |0,f,_,_,_,_,h,_=>⟨h,⟨Mv.refl f,Op.refl f⟩,fun i hi=>absurd hi (Vfb i)⟩
 |m+1,f,hf,hS,hB,hL,h,hm=>by
  obtain⟨h1,⟨h2,h3⟩,h4⟩:=ZkF C hbl hbo m hf hS hB hL h (by omega);obtain⟨g1,g2⟩:=ZcR (before:=before) (boarded:=boarded) m hS (by rw[hf];omega);obtain⟨h5,⟨h6,h7⟩,h8⟩:=Zq8 C hbl hbo (i:=m) (by omega) (h2.net.trans hf) (hS.step g1) (by rw[g2];exact hB) (by rw[g2];exact hL) h1;refine⟨h5,⟨h2.trans h6,h3.trans h7⟩,fun i hi=> ?_⟩;by_cases e:i=m
  ·subst e;exact h8
  ·exact(h4 i (by omega)).mono h6
def Wlk(s t:Int)(l:List ZbK)(p:Zb3):Prop:=p.1=s->t+p.2.2.1<=3155932800->LeA l p.2.1.toNat (t+p.2.2.1)/\LeY l p.2.1.toNat (t+p.2.2.1)
theorem Wlk.mono{s t:Int}{g h:ZaF}{p:Zb3}(y:Mv g h)(z:Wlk s t g.2.2.1 p):Wlk s t h.2.2.1 p:=
 fun a b=>⟨y.arr _ _ (z a b).1,y.rdy _ _ (z a b).2⟩
theorem Zh5(C:Ctx n s0 t0 w){k:Nat}{s t prev:Int}(ht:0<=t){js:List Zaq}(hk:k<=K)(hD: ∀p∈n.2.2.2.2.1,p.1=s->t+p.2.2.1<=3155932800->Der n s0 t0 w (.arr k p.2.1 (t+p.2.2.1)) (js++[ZdU s p.2.1 t (t+p.2.2.1)])/\Der n s0 t0 w (.rdy k p.2.1 (t+p.2.2.1)) (js++[ZdU s p.2.1 t (t+p.2.2.1)])):
  ∀ (l:List Zb3) {f:ZaF},f.2.2.1.length=n.1.length->Snd (Der n s0 t0 w) K f->Ch f.2.1 prev js->(∀p∈l,p∈n.2.2.2.2.1)->
  Snd (Der n s0 t0 w) K (l.foldl (Za4 s t prev) f)/\Mv f (l.foldl (Za4 s t prev) f)/\ ∀p∈l,Wlk s t (l.foldl (Za4 s t prev) f).2.2.1 p
 | [],f,_,h,_,_=>⟨h,Mv.refl f,(fun _ h=>nomatch h)⟩
 |p::l,f,hl,h,hch,hp=>by
  have hpn:=hp p (by simp);have hpo:=C.net.path p hpn
  have hstep:Snd (Der n s0 t0 w) K (Za4 s t prev f p)/\Mv f (Za4 s t prev f p)/\Wlk s t (Za4 s t prev f p).2.2.1 p:=by
   unfold Za4;by_cases hc:p.1=s/\t+p.2.2.1<=3155932800
   ·rw[if_pos hc];obtain⟨d1,d2⟩:=hD p hpn hc.1 hc.2;obtain⟨j,hj⟩: ∃j:Nat,p.2.1=(j:Int):=⟨p.2.1.toNat,by omega⟩;have hnew:=hch.new (ZdU s p.2.1 t (t+p.2.2.1));rw[show ((false,0,0,0,s,p.2.1,t,t+p.2.2.1,false,()):Zaq)=ZdU s p.2.1 t (t+p.2.2.1) from rfl];generalize hx:ZdU s p.2.1 t (t+p.2.2.1)=x at*;rw[hj]at d1 d2;rw[hj,Ve];have h0:0<=t+p.2.2.1:=by omega
    refine⟨(h.add x prev).imp ⟨k,hk,_,hnew,d1⟩ ⟨k,hk,_,hnew,d2⟩,(Zvb f x prev).trans (Zto _ j h0 h0 _),fun _ _=> ?_⟩;rw[hj,Ve];exact ZoM (f:=ZgT f x prev) (by show j<f.2.2.1.length;omega) h0 h0 _
   ·rw[if_neg hc];exact⟨h,Mv.refl f,fun a b=>absurd ⟨a,b⟩ hc⟩
  obtain⟨h1,h2,h3⟩:=hstep;obtain⟨h4,h5,h6⟩:=Zh5 C ht hk hD l (f:=Za4 s t prev f p) (by rw[(Zgv s t prev f p).now];exact hl) h1 (h2.ch hch) (fun q hq=>hp q (by simp [hq]));refine⟨h4,h2.trans h5,fun q hq=> ?_⟩;rcases Vbc.1 hq with rfl|hq
  ·exact h3.mono h5
  ·exact h6 q hq
theorem Zmo(C:Ctx n s0 t0 w){k:Nat}{s t prev:Int}(ht:0<=t){js:List Zaq}(hk:k<=K)(hD: ∀p∈n.2.2.2.2.1,p.1=s->t+p.2.2.1<=3155932800->Der n s0 t0 w (.arr k p.2.1 (t+p.2.2.1)) (js++[ZdU s p.2.1 t (t+p.2.2.1)])/\Der n s0 t0 w (.rdy k p.2.1 (t+p.2.2.1)) (js++[ZdU s p.2.1 t (t+p.2.2.1)]))
  {f:ZaF} (hf:f.1=n) (hl:f.2.2.1.length=n.1.length) (h:Snd (Der n s0 t0 w) K f) (hch:Ch f.2.1 prev js):
  Snd (Der n s0 t0 w) K (ZhQ f s t prev)/\Mv f (ZhQ f s t prev)/\ ∀p∈n.2.2.2.2.1,Wlk s t (ZhQ f s t prev).2.2.1 p:=by
 unfold ZhQ;rw[hf];exact Zh5 C ht hk hD _ hl h hch (fun _ h=>h)
def ZjW(n:Zat)(l:List ZbK)(s:Nat)(v:Int):Prop:=LeA l s v/\LeY l s (v+(Zcm n (s:Int)).2.2.2.1)/\ ∀p∈n.2.2.2.2.1,Wlk (s:Int) v l p
theorem ZjW.mono{s:Nat}{v:Int}{g h:ZaF}(y:Mv g h)(z:ZjW n g.2.2.1 s v):ZjW n h.2.2.1 s v:=
 ⟨y.arr _ _ z.1,y.rdy _ _ z.2.1,fun p hp=>(z.2.2 p hp).mono y⟩
theorem ZjW.weak{l:List ZbK}{s:Nat}{u v:Int}(z:ZjW n l s u)(e:u<=v):ZjW n l s v:=
 ⟨z.1.weak e,z.2.1.weak (by omega),fun p hp a b=>let ⟨x,y⟩:=z.2.2 p hp a (by omega);⟨x.weak (by omega),y.weak (by omega)⟩⟩
def Clo(n:Zat)(l:List ZbK):Prop:= ∀ (s:Nat) p,l[s]? =some p->p.2.1≠ -1->ZjW n l s p.2.1
theorem ZmD(C:Ctx n s0 t0 w){before:List ZbK}(hbl:before.length=n.1.length)(hclo:Clo n before){f:ZaF}(hf:f.1=n)(hS:St f)(h:Snd (Der n s0 t0 w) K f)
  (hA: ∀s t,LeA before s t->LeA f.2.2.1 s t) (hY: ∀s t,LeY before s t->LeY f.2.2.1 s t) {s:Nat} (hs:s<n.1.length):
  Snd (Der n s0 t0 w) K (ZbR before f s)/\Mv f (ZbR before f s)/\(ZbO f s≠ -1->ZjW n (ZbR before f s).2.2.1 s (ZbO f s)):=by
 have hsl:s<f.2.2.1.length:=by rw[hS.now,hf];exact hs
 have hsb:s<before.length:=by omega
 have hsp:=h.now s _ (Va hsl);have hcb:=hclo s _ (Va hsb);unfold ZbR ZbO;rw[Zak hsl,Zak hsb];generalize f.2.2.1[s]=p at*;generalize before[s]=b at*;by_cases h1:p.2.1= -1
 ·rw[decide_eq_true h1];exact⟨h,Mv.refl f,fun e=>absurd h1 e⟩
 rw[decide_eq_false h1];simp only[Vl,Vm]
 cases hl:less b.2.1 p.2.1 with
 |false=>
  simp only[cond_false];have hno: ¬ (b.2.1= -1\/p.2.1<b.2.1):=fun e=>by rw[Zd7.2 e]at hl;cases hl
  have hc:=(hcb (by omega)).weak (v:=p.2.1) (by omega)
  exact⟨h,Mv.refl f,fun _=>⟨hA _ _ hc.1,hY _ _ hc.2.1,fun q hq a b=>let ⟨x,y⟩:=hc.2.2 q hq a b;⟨hA _ _ x,hY _ _ y⟩⟩⟩
 |true=>
  simp only[cond_true];obtain⟨k,hk,js,hch,hd⟩:=hsp.rid h1;have hok:=C.ok hd;have hcg:=C.net.change (s:Int) (by omega) (by omega);have hr0:0<=p.2.1:=hok.2.2.1;have hr1:0<=p.2.1+(Zcm n (s:Int)).2.2.2.1:=by omega
  rw[hf];have hs1:=h.imp (i:=s) (l:=p.2.2.2.2.1) ⟨k,hk,js,hch, .arrR hd⟩ ⟨k,hk,js,hch, .change hd⟩;have hm1:=Zto f s hr0 hr1 p.2.2.2.2.1;have hn1:=ZoM hsl hr0 hr1 p.2.2.2.2.1;obtain⟨w1,w2,w3⟩:=Zmo C (s:=(s:Int)) (t:=p.2.1) (prev:=p.2.2.2.2.1) hr0 hk (fun q hq e1 e2=>⟨.arrV hd hq e1 e2, .rdyV hd hq e1 e2⟩) (hm1.net.trans hf) (by rw[(ZfK ..).now,hS.now,hf]) hs1 (hm1.ch hch);exact⟨w1,hm1.trans w2,fun _=>⟨w2.arr _ _ hn1.1,w2.rdy _ _ hn1.2,w3⟩⟩
theorem Zl7(C:Ctx n s0 t0 w){before:List ZbK}(hbl:before.length=n.1.length)(hclo:Clo n before): ∀ (m:Nat) {f:ZaF},f.1=n->St f->Snd (Der n s0 t0 w) K f->
  (∀s t,LeA before s t->LeA f.2.2.1 s t)->(∀s t,LeY before s t->LeY f.2.2.1 s t)->m<=n.1.length->
  Snd (Der n s0 t0 w) K (Zfu before m f)/\Mv f (Zfu before m f)/\ ∀s,s<m->ZbO f s≠ -1->ZjW n (Zfu before m f).2.2.1 s (ZbO f s)
 |0,f,_,_,h,_,_,_=>⟨h,Mv.refl f,fun s hs=>absurd hs (Vfb s)⟩
 |m+1,f,hf,hS,h,hA,hY,hm=>by
  obtain⟨h1,h2,h3⟩:=Zl7 C hbl hclo m hf hS h hA hY (by omega);obtain⟨h4,h5,h6⟩:=ZmD C hbl hclo (f:=Zfu before m f) (s:=m) (h2.net.trans hf) (hS.step (Ze7 before m f).1) h1 (fun s t e=>h2.arr _ _ (hA s t e)) (fun s t e=>h2.rdy _ _ (hY s t e)) (by omega);refine⟨h4,h2.trans h5,fun s hs=> ?_⟩;by_cases e:s=m
  ·subst e;rw[Zf5]at h6;exact h6
  ·exact fun e' =>(h3 s (by omega) e').mono h5
structure Cmp (n:Zat) (s0 t0 w:Int) (K:Nat) (now:List ZbK) (linked:List ZcA):Prop where
 rdy: ∀ {k:Nat}{s r:Int}{js:List Zaq},k<=K->Der n s0 t0 w (.rdy k s r) js->LeY now s.toNat r
 rid: ∀ {k:Nat}{s r:Int}{js:List Zaq},k<=K->Der n s0 t0 w (.rid k s r) js->LeR now s.toNat r
 arr: ∀ {k:Nat}{s r:Int}{js:List Zaq},k<=K->Der n s0 t0 w (.arr k s r) js->LeA now s.toNat r
 lnk: ∀ {k i c:Nat}{js:List Zaq},k<=K+1->Der n s0 t0 w (.lnk k i c) js->LeB linked i (c:Int)
theorem ZtR(C:Ctx n s0 t0 w){before:List ZbK}{boarded:List ZcA}{g h:ZaF}(hc:Cmp n s0 t0 w K before boarded)(hA: ∀s t,LeA before s t->LeA h.2.2.1 s t)(hY: ∀s t,LeY before s t->LeY h.2.2.1 s t)
  (hbeg: ∀i,i<n.2.2.1.length->Beg n before boarded i g) (hvis: ∀ (i:Nat) b,g.2.2.2.2.1[i]? =some b->b.1≠ -1->Vis n i b.1 g) (hm:Mv g h) (hclo:Clo n h.2.2.1):
  Cmp n s0 t0 w (K+1) h.2.2.1 h.2.2.2.1:=by
 have key: ∀ {f:Znp}{js:List Zaq},Der n s0 t0 w f js->match f with
   | .rdy k s r=>k<=K+1->LeY h.2.2.1 s.toNat r
   | .brd k i c _=>k<=K+1->LeB g.2.2.2.2.1 i (c:Int)
   | .lnk k i c=>k<=K+2->LeB h.2.2.2.1 i (c:Int)
   | .on k i c=>k<=K+1->Vst n i c g
   | .rid k s t=>k<=K+1->LeR h.2.2.1 s.toNat t
   | .arr k s t=>k<=K+1->LeA h.2.2.1 s.toNat t:=by
  have cl: ∀ {s t:Int},0<=s->LeR h.2.2.1 s.toNat t->ZjW n h.2.2.1 s.toNat t/\((s.toNat:Nat):Int)=s:=by rintro s t h0 ⟨p,h1,h2,h3⟩;exact⟨(hclo _ _ h1 h2).weak h3,by omega⟩
  intro f js d
  induction d with
  |init=>exact fun _=>hY _ _ (hc.rdy (Vla _) .init)
  |here=>exact fun _=>hA _ _ (hc.arr (Vla _) .here)
  |rdyW h1 h2 h3=>exact fun _=>hY _ _ (hc.rdy (Vla _) (.rdyW h1 h2 h3))
  |arrW h1 h2 h3=>exact fun _=>hA _ _ (hc.arr (Vla _) (.arrW h1 h2 h3))
  |board d h1 h2 h3 h4 h5 h6 _=>
   intro hk;refine((hbeg _ h1) h3).2 _ h2 h5 ?_;rw[h4]
   exact(hc.rdy (by omega) d).weak h6
  |on d h1 h2 ih=>
   intro hk;obtain⟨b,b1,b2,b3⟩:=ih hk
   exact hvis _ _ b1 b2 _ (by omega) h2
  |stay d h1 h2 h3 ih=>exact fun hk=>(((ih hk).2 _ _ _ h1 h2).1 rfl h3)
  |link d h1 h2 h3 h4 ih=>exact fun hk=>hm.lnk _ _ (((ih (by omega)).2 _ _ _ h2 h3).2 rfl h1 h4)
  |linked d h1 _=>exact fun hk=>((hbeg _ (C.ok d).2.1) h1).1 _ (hc.lnk hk d)
  |ride d h1 ih=>exact fun hk=>hm.rid _ _ ((ih hk).1 h1)
  |change d ih=>
   intro hk;obtain⟨⟨_,h2,_⟩,e⟩:=cl (C.ok d).2.1.1 (ih hk);rw[e]at h2
   exact h2
  |rdyV d h1 h2 h3 ih=>
   intro hk;obtain⟨⟨_,_,h4⟩,e⟩:=cl (C.ok d).2.1.1 (ih hk)
   exact(h4 _ h1 (by rw[e];exact h2) h3).2
  |arrR d ih=>exact fun hk=>(cl (C.ok d).2.1.1 (ih hk)).1.1
  |arrV d h1 h2 h3 ih=>
   intro hk;obtain⟨⟨_,_,h4⟩,e⟩:=cl (C.ok d).2.1.1 (ih hk);exact(h4 _ h1 (by rw[e];exact h2) h3).1
 exact⟨fun hk d=>key d hk,fun hk d=>key d hk,fun hk d=>key d hk,fun hk d=>key d hk⟩
structure RI (n:Zat) (s0 t0 w:Int) (K:Nat) (f:ZaF):Prop where
 net:f.1=n
 nowl:f.2.2.1.length=n.1.length
 lnkl:f.2.2.2.1.length=n.2.2.1.length
 out:Zn2 n f.2.2.2.2.2.2.1
 few: ∀ks∈f.2.2.2.2.2.2.1,ks.length<=1024
 now: ∀ (s:Nat) p,f.2.2.1[s]? =some p->SP (Der n s0 t0 w) f.2.1 K (s:Int) p
 lnk: ∀ (i:Nat) b,f.2.2.2.1[i]? =some b->SL (Der n s0 t0 w) f.2.1 K i b
 cmp:Cmp n s0 t0 w K f.2.2.1 f.2.2.2.1
 clo:Clo n f.2.2.1
theorem RI.links(C:Ctx n s0 t0 w){f:ZaF}(h:RI n s0 t0 w K f): ∀ks∈f.2.2.2.2.2.2.1,ks.length<=1024/\ ∀k∈ks,inR k n.2.2.2.1.length=true/\Zmm n (lkI n k):=by
 intro ks hks;refine⟨h.few ks hks,fun k hk=> ?_⟩;obtain⟨i,hi,rfl⟩:=Vy hks;obtain⟨h1,h2⟩:=(h.out.2 i _ (Va hi) k).1 hk;refine⟨h1, ?_⟩;obtain⟨i',c',j,d,st,e,hi',hj,_,_,hd,_⟩:=C.net.link _ (Zsl h1);rw[e];refine⟨?_, ?_⟩
 ·show inR (j:Int) _=true;unfold inR;rw[Vd,decide_eq_true_eq,decide_eq_true_eq];omega
 ·show inR (d:Int) (rn n (j:Int)).2.2.2.2.2.2.2.1.length=true;have:d< (rn n (j:Int)).2.2.2.2.2.2.2.1.length:=hd;unfold inR;rw[Vd,decide_eq_true_eq,decide_eq_true_eq];omega
theorem Zq1(m:Nat):ZoI (Vj m b00)=40*m:=by unfold ZoI;rw[List.map_replicate,List.sum_replicate_nat];show m*40=_;omega
end Q
namespace Q
open Tr Go
open Option (bind_some)
variable {n:Zat}{s0 t0 w:Int}{K:Nat}
theorem bex{α β:Type}{o:Option α}{f:α->Option β}{Q:β->Prop}(P:α->Prop)(h: ∃r,o=some r/\P r)(k: ∀r,P r-> ∃s,f r=some s/\Q s): ∃s,Vb o f=some s/\Q s:=by obtain⟨r,rfl,hr⟩:=h;exact k r hr
theorem Zu3(l:List ZbK)(x:ZbK):Vzb (Min.min (Vg l) (Vg (Vj (Vma (↑(Vg l):Int)) x))) l++List.drop (Min.min (Vg l) (Vg (Vj (Vma (↑(Vg l):Int)) x))) (Vj (Vma (↑(Vg l):Int)) x)=l:=by simp
theorem Zvk(f:ZaF):Mv f (ZeP f):=⟨rfl,⟨[],by simp [ZeP]⟩,fun _ _ h=>h,fun _ _ h=>h,fun _ _ h=>h,fun _ _ h=>h,fun _ _ h=>h,rfl⟩
structure OL (n:Zat) (s0 t0 w:Int) (K:Nat) (g1 f:ZaF):Prop where
 net:f.1=n
 out:Zn2 n f.2.2.2.2.2.2.1
 snd:Snd (Der n s0 t0 w) K f
 vis: ∀ (i:Nat) b,f.2.2.2.2.1[i]? =some b->b.1≠ -1->(i:Int)∈f.2.2.2.2.2.1\/Vis n i b.1 f
 mv:Mv g1 f
theorem ZwA(C:Ctx n s0 t0 w){g1:ZaF}(f:ZaF)(i:Nat)(hS:St f)(hB:Brd f)(hi:i<f.1.2.2.1.length)(hpop:f.2.2.2.2.2.1=(ZeP f).2.2.2.2.2.1++[(i:Int)])(hin:inR ((f.2.2.2.2.1[i]?).getD (0,0,false,())).1 (f.1.2.2.1[i]).2.2.2.2.2.2.2.1.length=true)(h:OL n s0 t0 w K g1 f):
  OL n s0 t0 w K g1 (Zc6 (ZeP f) i):=by
 have hnet:=h.net;have hi' :i<n.2.2.1.length:=by rw[<-hnet];exact hi
 have hin' :inR (((ZeP f).2.2.2.2.1[i]?).getD (0,0,false,())).1 (Zaj n i).length=true:=by rw[Zdg hi'];simp only[<-hnet];exact hin
 obtain⟨h1,⟨h2,h3⟩,h4⟩:=Zp3 C (f:=ZeP f) hnet (ZnA hS hB).1 h.out ⟨h.snd.now,h.snd.brd,h.snd.lnk⟩ hi' hin';refine⟨h2.net.trans hnet,by rw[h2.out];exact h.out,h1,fun j b hb hne=> ?_,h.mv.trans ((Zvk f).trans h2)⟩;rcases h3.chg j with e|e
 ·rw[e]at hb;rcases h.vis j b hb hne with ho|hv
  ·rw[hpop,Veb]at ho;rcases ho with ho|ho
   ·exact .inl (h3.opn _ ho)
   ·simp only[Vob,Vna]at ho;subst ho;right;rw[hb]at h4;exact h4
  ·exact .inr (hv.mono ((Zvk f).trans h2))
 ·exact .inl e
theorem Zrn(C:Ctx n s0 t0 w)(hp:n.2.2.2.2.1.length<=4096){f:ZaF}(h:RI n s0 t0 w K f)(hl:f.2.1.length+4000000<4000000000):
  ∃g,F125 f f.2.2.1=some g/\RI n s0 t0 w (K+1) g/\(∃m,g.2.1=f.2.1++m)/\g.2.1.length<=f.2.1.length+4000000:=by
 have hs:=C.net.sound;have hst:=hs.stops;have hrn:=hs.runs;have hlinks:=h.links C;obtain⟨h1,h2,h3,h4,h5,h6,h7,h8,h9⟩:=h;obtain⟨n',lb,before,linked,runs0,opn0,out,u⟩:=f;simp only at*;subst h1;unfold F125;simp only;have hm: (Zam:Int)=549755813888:=by simp [Zam]
 have hg:Zan (decide ((0:Int)<=(before.length:Int)/\(before.length:Int)<=(before.length:Int)/\(before.length:Int)<=(Zam:Int)))=some ():=by rw[decide_eq_true (by rw[hm];omega)];rfl
 have hub:F128 (linked.length:Int)=some (Vj n'.2.2.1.length b00):=by rw[h3];exact Zhx (by omega)
 refine bex (fun _=>True) ⟨(),hg,trivial⟩ fun _ _=> ?_;refine bex (fun r=>r=Vj n'.2.2.1.length b00) ⟨_,hub,rfl⟩ ?_;rintro _ rfl;refine bex (fun r=>r=Vj n'.2.2.1.length b00) ⟨_,hub,rfl⟩ ?_;rintro _ rfl;erw[Zu3];generalize hf0: ((n',lb,before,Vj n'.2.2.1.length b00,Vj n'.2.2.1.length b00,[],out,()):ZaF)=f0;have hS0:St f0:=by rw[<-hf0];exact⟨hs,h2,by simp,by simp,h4.1,hlinks⟩
 have e1:f0.1=n' :=by rw[<-hf0]
 have e2:f0.2.1=lb:=by rw[<-hf0]
 have e3:f0.2.2.1=before:=by rw[<-hf0]
 have e4:f0.2.2.2.1=Vj n'.2.2.1.length b00:=by rw[<-hf0]
 have e5:f0.2.2.2.2.1=Vj n'.2.2.1.length b00:=by rw[<-hf0]
 have e6:f0.2.2.2.2.2.1=[]:=by rw[<-hf0]
 have e7:f0.2.2.2.2.2.2.1=out:=by rw[<-hf0]
 have hrep: ∀ {i:Nat}{b:ZcA},(Vj n'.2.2.1.length b00)[i]? =some b->b=b00:=by intro i b hb;exact Vxa (List.mem_of_getElem? hb)
 have hB0:Brd f0:=⟨fun b hb=>by rw[e5]at hb;rw[Vxa hb];exact .inl rfl,fun r hr=>by rw[e6]at hr;cases hr⟩;have hF0:Zgn f0<=81920:=by unfold Zgn;rw[e5,e6,Zq1];simp only[Vfa];omega
 have hN0:Snd (Der n' s0 t0 w) (K+1) f0:=
  ⟨fun s p hq=>by rw[e3]at hq;rw[e2];exact(h6 s p hq).weak (Nat.le_succ K),fun i b hb=>(by rw[e5]at hb;rw[hrep hb];exact fun e=>absurd rfl e),fun i b hb=>(by rw[e4]at hb;rw[hrep hb];exact fun e=>absurd rfl e)⟩
 have hbv:=Ztv (before:=before) (boarded:=linked) hS0 (by rw[e1];exact h2) (by rw[e1];exact h3) (by rw[e6];simp)
 have hbd: ∀i,(hi:i<f0.1.2.2.1.length)->((linked[i]?).getD (0,0,false,())).1= -1\/inR ((linked[i]?).getD (0,0,false,())).1 (f0.1.2.2.1[i]).2.2.2.2.2.2.2.1.length=true:=by
  intro i hi;have hi' :i<n'.2.2.1.length:=by rw[<-e1];exact hi
  have hil:i<linked.length:=by omega
  rw[Zak hil];have hx:=h7 i _ (Va hil);by_cases hz: (linked[i]).1= -1
  ·exact .inl hz
  right;obtain⟨_,k,hk,c,hc,js,hch,hd⟩:=hx hz;have:=(C.ok hd).2.2;rw[Zdg hi']at this;have e:f0.1.2.2.1[i]=n'.2.2.1[i]:=by simp only[e1]
  rw[hc,e];unfold inR;rw[Vd,decide_eq_true_eq,decide_eq_true_eq];omega
 have hlen1:f0.1.2.2.1.length=n'.2.2.1.length:=by rw[e1]
 rw[hlen1]at hbv;obtain⟨b1,b2⟩:=ZjK (before:=before) n'.2.2.1.length hS0 hB0 (by rw[hlen1];omega) hbd;obtain⟨b3,b4⟩:=ZcR (before:=before) (boarded:=linked) n'.2.2.1.length hS0 (by rw[hlen1];omega);obtain⟨b5,⟨b6,b6'⟩,b7⟩:=ZkF C h2 h3 n'.2.2.1.length e1 hS0 (by rw[e2];exact h6) (by rw[e2];exact h7) hN0 (Vo _);refine bex (fun r=>r=ZcX before linked n'.2.2.1.length f0) ⟨_, ?_,rfl⟩ ?_
 ·rw[e1]at hbv;exact hbv
 rintro _ rfl;generalize hg1:ZcX before linked n'.2.2.1.length f0=g1 at*;have hO1:OL n' s0 t0 w (K+1) g1 g1:=⟨b6.net.trans e1,by rw[b6.out,e7];exact h4,b5,fun i b hb hne=> ?_,Mv.refl g1⟩
 rotate_left
 ·rcases b6'.chg i with e|e
  ·rw[e,e5]at hb;rw[hrep hb]at hne;exact absurd rfl hne
  ·exact .inl e
 obtain⟨g,g2,g3,g4,g5,g6,g7,g8,g9⟩:=Znl (OL n' s0 t0 w (K+1) g1) (ZwA C) 81920 (f:=g1) (by omega) (hS0.step b3) b1 hO1 (by rw[b4,e2];omega) (by omega);refine bex (fun r=>r=g) ⟨_,g2,rfl⟩ fun x hx=> ?_;rw[hx];have hlb1:g1.2.1.length=lb.length:=by rw[b4,e2]
 have hmv:=b6.trans g5.mv;have hgn:g.1=n' :=g5.net;have hA: ∀s t,LeA before s t->LeA g.2.2.1 s t:=fun s t e=>hmv.arr s t (by rw[e3];exact e);have hY: ∀s t,LeY before s t->LeY g.2.2.1 s t:=fun s t e=>hmv.rdy s t (by rw[e3];exact e);have hnl:g.2.2.1.length=n'.1.length:=by rw[g3.now,hgn]
 obtain⟨l1,l2,l3⟩:=Zl7 C h2 h9 g.2.2.1.length hgn g3 g5.snd hA hY (by omega);have lh:=Ze7 before g.2.2.1.length g;have hlv:=Zsm g3 (by rw[h2,hnl]) (fun j hj=> ?_) (fun s hs' => ?_) (by omega) (by rw[hgn];exact hp) (fun q hq=> ?_) (before:=before)
 rotate_left
 ·unfold ZbO;rw[Zak hj];by_cases hz: (g.2.2.1[j]).2.1= -1
  ·exact .inl hz
  right;obtain⟨k,_,js,_,hd⟩:=(g5.snd.now j _ (Va hj)).rid hz;exact(C.ok hd).2.2
 ·rw[hgn]at hs' ⊢;exact C.net.change (s:Int) (by omega) (by omega)
 ·rw[hgn]at hq ⊢;have:=C.net.path q hq;exact⟨this.2.1.1,this.2.1.2,by omega,by omega⟩
 refine bex (fun y=>y=Zfu before g.2.2.1.length g) ⟨_,hlv,rfl⟩ ?_;rintro _ rfl;have hmn:g.2.2.1.length*g.1.2.2.2.2.1.length<=64*4096:=Vyb (by omega) (by rw[hgn];exact hp)
 have hclo:Clo n' (Zfu before g.2.2.1.length g).2.2.1:=by
  intro s q hq hne;have hsl:=(Vw.1 hq).1;have e:ZbO (Zfu before g.2.2.1.length g) s=q.2.1:=by unfold ZbO;rw[hq];rfl
  rw[Zf5]at e;have:=l3 s (by rw[lh.1.now]at hsl;exact hsl) (by rw[e];exact hne);rw[e]at this;exact this
 have hm0:=hmv.trans l2;refine⟨_,rfl,⟨l2.net.trans hgn,by rw[lh.1.now,hnl],by rw[lh.1.linked,g3.linked,hgn],by rw[l2.out,hmv.out,e7];exact h4,by rw[l2.out,hmv.out,e7];exact h5,l1.now,l1.lnk, ?_,hclo⟩, ?_, ?_⟩
 ·refine ZtR C h8 (fun s t e=>l2.arr _ _ (hA s t e)) (fun s t e=>l2.rdy _ _ (hY s t e)) (fun i hi=>(b7 i hi).mono g5.mv) (fun i b hb hne=> ?_) l2 hclo;rcases g5.vis i b hb hne with e|e
  ·rw[g6]at e;cases e
  ·exact e
 ·obtain⟨m,hm'⟩:=hm0.lab;exact⟨m,by rw[hm',e2]⟩
 ·have:=lh.2;omega
end Q
