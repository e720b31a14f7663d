/- filter: usable runs, open stops, the allowed network; queries. Conditions: the network is valid, its lists are short. -/
import Derived.KernelRfl
import Derived.Test.YtibiblkamaajeaaGreatJLwJa2841
import Derived.Test.YtibiblkamaajeaaGreatTsF
open BitVec renaming ofInt ->Vba,ofInt_natCast ->Vjb,toNat_ofNat ->Vmb
open Bool renaming and_eq_true ->Vd,not_true ->Vi,not_eq_false' ->Vk,not_false ->Vl,true_and ->Vm,or_eq_false_iff ->Vp,false_and ->Vpa,false_or ->Vwa,or_true ->Vya,and_false ->Vxb,and_true ->Vac
open Decidable renaming not_not ->Vua
open Int renaming toNat_natCast ->Ve,toNat ->Vma,natCast_inj ->Vna,le_trans ->Vbb,fdiv ->Vwb
open Go.IntKind renaming wrap ->Vc,i64 ->Vea
open List renaming getElem?_eq_getElem ->Va,getElem_mem ->Vf,length ->Vg,take_succ_eq_append_getElem ->Vh,replicate ->Vj,getElem?_set_self ->Vn,take_length ->Vq,length_map ->Vr,length_take ->Vt,length_set ->Vv,getElem?_eq_some_iff ->Vw,getElem?_modify ->Vx,getElem_of_mem ->Vy,length_filter_le ->Vz,getElem?_map ->Vaa,getElem?_set_ne ->Vca,length_cons ->Vda,length_nil ->Vfa,filter_append ->Vga,length_append ->Vha,length_eq_zero_iff ->Via,any_eq_true ->Vja,getElem?_eq_none ->Vka,set_set ->Voa,drop_eq_getElem_cons ->Vqa,pairwise_iff_getElem ->Vsa,foldl_append ->Vta,eq_of_mem_replicate ->Vxa,getElem?_replicate ->Vab,append_nil ->Vcb,mem_filter ->Vdb,mem_append ->Veb,set_getElem_self ->Vgb,set_append_right ->Vhb,length_replicate ->Vib,any_cons ->Vkb,set_cons_zero ->Vlb,length_modify ->Vnb,mem_singleton ->Vob,getElem?_set ->Vrb,append_assoc ->Vsb,set ->Vub,take ->Vzb,mem_cons ->Vbc,mem_map ->Vcc
open Nat renaming le_refl ->Vo,le_trans ->Vs,zero_le ->Vla,sub_self ->Vza,not_lt_zero ->Vfb,succ_pos ->Vpb,or_lt_two_pow ->Vqb,mod_eq_of_lt ->Vtb,mul_le_mul ->Vyb
open Option renaming bind ->Vb,getD_some ->Vu,isNone_iff_eq_none ->Vra
open Prod renaming ext ->Vvb
open Prod.mk renaming injEq ->Vva
open Sum renaming elim ->Vdc
namespace Q
open Tr Go
open Option (bind_some)
theorem ZuF{α β τ:Type}{step:List β×Int->Option ((List β×Int) ⊕ τ)}(l:List α)(f:α->List β)(R:List β->τ)
  (hstep: ∀i (hi:i<l.length),step ((l.take i).flatMap f,(i:Int))=some (.inl ((l.take i).flatMap f++f l[i],((i+1:Nat):Int))))
  (hend:step (l.flatMap f,(l.length:Int))=some (.inr (R (l.flatMap f)))):run step ([],(0:Int))=some (R (l.flatMap f)):=by
 refine Exists.elim (ZaL (step:=step) l.length (fun r=>r=R (l.flatMap f)) (fun i st=>st=((l.take i).flatMap f,(i:Int))) ?_ ?_ ([],(0:Int)) (by simp)) ?_
 ·rintro i _ hi rfl;left;refine⟨_,hstep i hi, ?_⟩;rw[Vh hi,List.flatMap_append];simp
 ·rintro _ rfl;rw[Vq];exact⟨_,hend,rfl⟩
 ·rintro r ⟨h1,rfl⟩;exact h1
theorem Zlr{α β:Type}(f:α->β)(l:List α):l.flatMap (fun x=>[f x])=l.map f:=by
 induction l with
 |nil=>rfl
 |cons x l ih=>simp [ih]
theorem ZuX{α β:Type}{f:α->List β}(hf: ∀x,(f x).length<=1)(l:List α): (l.flatMap f).length<=l.length:=by
 induction l with
 |nil=>simp
 |cons x l ih=>have:=hf x;simp;simp at ih;omega
abbrev Za4:=Int×Int×Int×Bool×Int×Int×Bool×Bool×Int×Bool×Unit
def Zuh(n:Zas)(r:Zlk):ZdS:=(n.2.1[r.2.2.2.2.1.toNat]?).getD r0
def Zt7(n:Zas)(q:Za4)(r:Zlk):Bool:=Tr.useB q r (Zuh n r)
def s0:ZmY:=([],0,false,0,())
def Zci(n:Zas)(s:Int):ZmY:=(n.1[s.toNat]?).getD s0
def Zky(n:Zas)(q:Za4)(s:Int):Bool:=(Zci n s).2.2.1|| !q.2.2.2.2.2.2.1
def ZbO(n:Zas)(q:Za4)(c:Zbe):Zbe:=if Zky n q c.1 then c else(c.1,c.2.1,c.2.2.1,false,false,())
theorem Zvm{n:Zas}(hS:Zcr n){r:Zlk}(hr:r∈n.2.2.1):idx n.2.1 r.2.2.2.2.1=some (Zuh n r)/\Zuh n r∈n.2.1:=by
 have h:=hS.route _ hr;have hi:inR r.2.2.2.2.1 n.2.1.length=true:=by simp [inR];omega
 refine⟨Za5 hi r0, ?_⟩;unfold Zuh;rw[Zak (show r.2.2.2.2.1.toNat<n.2.1.length by omega)];exact Vf _
theorem ZvI{n:Zas}(hS:Zcr n)(q:Za4){r:Zlk}(hr:r∈n.2.2.1):F10 n q r=some (Zt7 n q r):=by obtain⟨h1,h2⟩:=Zvm hS hr;have hm:=(hS.mode _ h2).1;unfold F10 Tr.useF;rw[h1];simp only[bind_some,show decide ((0:Int)<=(Zuh n r).2.1)=true from decide_eq_true hm,Vya,cond_true];rfl
theorem Zxi{n:Zas}(hS:Zcr n){r:Zlk}(hr:r∈n.2.2.1){c:Zbe}(hc:c∈r.2.2.2.2.2.2.2.1):idx n.1 c.1=some (Zci n c.1):=by have h:=hS.call _ hr _ hc;exact Za5 (show inR c.1 n.1.length=true by simp [inR];omega) s0
theorem ZtQ{n:Zas}(q:Za4){s:Int}(h:idx n.1 s=some (Zci n s)):F9 n q s=some (Zky n q s):=by
 unfold F9;rw[h];simp only[bind_some];unfold Zky
 cases (Zci n s).2.2.1<;>rfl
theorem Zqu{n:Zas}(hS:Zcr n)(q:Za4){r:Zlk}(hr:r∈n.2.2.1):F8 n q r.2.2.2.2.2.2.2.1=some (r.2.2.2.2.2.2.2.1.map (ZbO n q)):=by
 have hl:=(hS.many _ hr).2;unfold F8;rw[ZuF r.2.2.2.2.2.2.2.1 (fun c=>[ZbO n q c]) id ?_ ?_]
 ·simp only[bind_some,id,Zlr,Vr];generalize hm:r.2.2.2.2.2.2.2.1.map (ZbO n q)=m;have hlen:m.length=r.2.2.2.2.2.2.2.1.length:=by rw[<-hm,Vr]
  rw[<-hlen]
  have e1:inb (m.length:Int) (m.length+1)=some m.length:=by unfold inb;rw[if_pos (by omega)];simp
  have e2:sliceB m.length m.length none (some (m.length:Int))=some (0,m.length):=by unfold sliceB;simp only[if_pos (show (0:Int)<=(m.length:Int)/\(m.length:Int)<=(m.length:Int) from ⟨by omega,by omega⟩),bind_some,Ve]
  rw[e1];simp only[bind_some];rw[e2];simp
 ·intro i hi;have hc:=Vf hi;simp only[Zat hi,cond_true,Zaf hi,bind_some];rw[ZtQ q (Zxi hS hr hc)];have hb:=ZuX (f:=fun c=>[ZbO n q c]) (by simp) (r.2.2.2.2.2.2.2.1.take i);rw[Vt]at hb;simp only[bind_some]
  have e: (bif !Zky n q (r.2.2.2.2.2.2.2.1[i]).1 then some (((r.2.2.2.2.2.2.2.1[i]).1,(r.2.2.2.2.2.2.2.1[i]).2.1,(r.2.2.2.2.2.2.2.1[i]).2.2.1,false,false,(r.2.2.2.2.2.2.2.1[i]).2.2.2.2.2):Zbe) else some r.2.2.2.2.2.2.2.1[i])=some (ZbO n q r.2.2.2.2.2.2.2.1[i]):=by
   unfold ZbO
   cases Zky n q (r.2.2.2.2.2.2.2.1[i]).1<;>rfl
  erw[e];simp only[bind_some];rw[ZaO (by simp;simp at hb;omega),Zaj hi (by omega)];rfl
 ·simp only[Zaw,cond_false];rfl
structure Few (n:Zas):Prop where
 stops:n.1.length<=4096
 routes:n.2.1.length<=4096
 runs:n.2.2.1.length<=4096
 links:n.2.2.2.1.length<=4096
 paths:n.2.2.2.2.1.length<=4096
 prods:n.2.2.2.2.2.1.1.length<=4096
 calls: ∀r∈n.2.2.1,r.2.2.2.2.2.2.2.1.length<=4096
theorem ZeO{α:Type}(l:List α)(h:l.length<=4096): (Vb (Zam (decide (Vg ([]:List Unit)+Vg l<=Zan))) fun _=>
 Vb (inb (↑(Vg ([]++l)):Int) (Vg ([]++l)+(1:Nat))) fun x1=>
 Vb (sliceB (Vg ([]++l)) x1 none (some (↑(Vg ([]++l)):Int))) fun x2=>some (Vzb x2.2 ([]++l)))=some l:=by
 have e0:Zam (decide (Vg ([]:List Unit)+Vg l<=Zan))=some ():=by unfold Zam Zan;rw[decide_eq_true (show Vg ([]:List Unit)+Vg l<=2 ^ 39 by simp;omega)];rfl
 have e1:inb (l.length:Int) (l.length+1)=some l.length:=by unfold inb;rw[if_pos (by omega)];simp
 have e2:sliceB l.length l.length none (some (l.length:Int))=some (0,l.length):=by unfold sliceB;simp only[if_pos (show (0:Int)<=(l.length:Int)/\(l.length:Int)<=(l.length:Int) from ⟨by omega,by omega⟩),bind_some,Ve]
 rw[e0];simp only[bind_some,List.nil_append];rw[e1];simp only[bind_some];rw[e2];simp
theorem ZrI{n:Zas}(h:Few n):F40 n=some n:=by
 unfold F40;have hs:F51 n.1=some n.1:=ZeO n.1 h.stops;have hro:F49 n.2.1=some n.2.1:=ZeO n.2.1 h.routes;have hru:F50 n.2.2.1=some n.2.2.1:=ZeO n.2.2.1 h.runs;have hli:F47 n.2.2.2.1=some n.2.2.2.1:=ZeO n.2.2.2.1 h.links;have hpa:F46 n.2.2.2.2.1=some n.2.2.2.2.1:=ZeO n.2.2.2.2.1 h.paths;have hpr:F48 n.2.2.2.2.2.1.1=some n.2.2.2.2.2.1.1:=ZeO n.2.2.2.2.2.1.1 h.prods;rw[hs,hro,hru,hli,hpa];simp only[bind_some];refine Zbi (fun r:Zas=>r=(n.1,n.2.1,n.2.2.1,n.2.2.2.1,n.2.2.2.2.1,n.2.2.2.2.2.1,())) (ZaL n.2.2.1.length _ (fun i (st:Zas×Int)=>st=((n.1,n.2.1,n.2.2.1,n.2.2.2.1,n.2.2.2.2.1,n.2.2.2.2.2.1,()),(i:Int))) ?_ ?_ _ rfl) ?_
 ·rintro i _ hi rfl;left;have hc:F45 (n.2.2.1[i]).2.2.2.2.2.2.2.1=some (n.2.2.1[i]).2.2.2.2.2.2.2.1:=ZeO _ (h.calls _ (Vf hi));simp only[Zat hi,cond_true,ZaE hi,bind_some,Va hi,hc];refine⟨_,rfl, ?_⟩;rw[Zaj hi (by have:=h.runs;omega)];have e:Vub n.2.2.1 i ((n.2.2.1[i]).1,(n.2.2.1[i]).2.1,(n.2.2.1[i]).2.2.1,(n.2.2.1[i]).2.2.2.1,(n.2.2.1[i]).2.2.2.2.1,(n.2.2.1[i]).2.2.2.2.2.1,(n.2.2.1[i]).2.2.2.2.2.2.1,(n.2.2.1[i]).2.2.2.2.2.2.2.1,(n.2.2.1[i]).2.2.2.2.2.2.2.2)=n.2.2.1:=Vgb hi;erw[e]
 ·rintro _ rfl;exact⟨_,by simp only[Zaw,cond_false],rfl⟩
 ·rintro _ rfl;rw[hpr];rfl
def ZcL(n:Zas)(q:Za4)(r:Zlk):Zlk:=(r.1,r.2.1,r.2.2.1,r.2.2.2.1,r.2.2.2.2.1,r.2.2.2.2.2.1, !Zt7 n q r,r.2.2.2.2.2.2.2.1.map (ZbO n q),())
def Zfu(n:Zas)(q:Za4):List Zb2:=if q.2.2.2.2.2.2.1 then n.2.2.2.2.1.filter (fun p=>p.2.2.2.1) else n.2.2.2.2.1
def ZaQ(n:Zas)(q:Za4):Zas:=(n.1,n.2.1,n.2.2.1.map (ZcL n q),n.2.2.2.1,Zfu n q,n.2.2.2.2.2.1,())
def Zfa(n:Zas)(q:Za4)(i:Nat):List Zlk:=(n.2.2.1.take i).map (ZcL n q)++n.2.2.1.drop i
theorem Zqb(n:Zas)(q:Za4){i:Nat}(hi:i<=n.2.2.1.length): (Zfa n q i).length=n.2.2.1.length:=by simp [Zfa];omega
theorem Zqf(n:Zas)(q:Za4){i:Nat}(hi:i<n.2.2.1.length): (Zfa n q i)[i]? =some n.2.2.1[i]:=by unfold Zfa;rw[List.getElem?_append_right (by simp;omega)];simp only[Vr,Vt,Nat.min_eq_left (Nat.le_of_lt hi),Vza,List.getElem?_drop,Nat.add_zero];exact Va hi
theorem Zqa(n:Zas)(q:Za4){i:Nat}(hi:i<n.2.2.1.length): (Zfa n q i).set i (ZcL n q n.2.2.1[i])=Zfa n q (i+1):=by
 unfold Zfa;have hlen: ((n.2.2.1.take i).map (ZcL n q)).length=i:=by simp;omega
 rw[Vhb _ _ (by omega),hlen,Vza,Vqa hi,Vlb,Vh hi,List.map_append];simp
theorem Zn6{n:Zas}(hS:Zcr n)(hF:Few n)(q:Za4)(hq:F5 n q=some 0):F7 n q=some (ZaQ n q,0):=by
 unfold F7;rw[hq];simp only[bind_some,decide_true,Vi,cond_false];rw[ZrI hF];simp only[bind_some];refine Zbi (fun r:Zas=>r=(n.1,n.2.1,n.2.2.1.map (ZcL n q),n.2.2.2.1,n.2.2.2.2.1,n.2.2.2.2.2.1,())) (ZaL n.2.2.1.length _ (fun i (st:Zas×Int)=>st=((n.1,n.2.1,Zfa n q i,n.2.2.2.1,n.2.2.2.2.1,n.2.2.2.2.2.1,()),(i:Int))) ?_ ?_ _ (by simp [Zfa])) ?_
 ·rintro i _ hi rfl;left;have hr:=Vf hi;have hl:=Zqb n q (Nat.le_of_lt hi);have hi' :i< (Zfa n q i).length:=by omega
  simp only[Zat hi,cond_true,Zaf hi,bind_some,ZvI hS q hr,ZaE hi',Zqf n q hi,Zqu hS q hr];refine⟨_, ?_,rfl⟩;rw[Zaj hi (by have:=hF.runs;omega)];have hi2:i< ((Zfa n q i).set i ((n.2.2.1[i]).1,(n.2.2.1[i]).2.1,(n.2.2.1[i]).2.2.1,(n.2.2.1[i]).2.2.2.1,(n.2.2.1[i]).2.2.2.2.1,(n.2.2.1[i]).2.2.2.2.2.1, !Zt7 n q n.2.2.1[i],(n.2.2.1[i]).2.2.2.2.2.2.2)).length:=by rw[Vv];exact hi'
  erw[ZaE hi2];simp only[bind_some];erw[Vn hi'];simp only[bind_some];erw[Voa];congr 2;have:=Zqa n q hi;rw[<-this];rfl
 ·rintro _ rfl;refine⟨_,by simp only[Zaw,cond_false];rfl, ?_⟩;simp [Zfa]
 ·rintro _ rfl;unfold ZaQ Zfu
  cases hsf:q.2.2.2.2.2.2.1 with
  |false=>rfl
  |true=>
   simp only[cond_true,if_true];refine Zbi (fun r:Zas=>r=(n.1,n.2.1,n.2.2.1.map (ZcL n q),n.2.2.2.1,n.2.2.2.2.1.filter (fun p=>p.2.2.2.1),n.2.2.2.2.2.1,())) (ZaL n.2.2.2.2.1.length _ (fun i (st:Zas×Int)=>st=((n.1,n.2.1,n.2.2.1.map (ZcL n q),n.2.2.2.1,(n.2.2.2.2.1.take i).filter (fun p=>p.2.2.2.1),n.2.2.2.2.2.1,()),(i:Int))) ?_ ?_ _ (by simp)) ?_
   ·rintro i _ hi rfl;left;have hb:=Vz (fun p:Zb2=>p.2.2.2.1) (n.2.2.2.2.1.take i);rw[Vt]at hb;have hp:=hF.paths;simp only[Zat hi,cond_true,Zaf hi,bind_some];rw[Zaj hi (by omega),Vh hi,Vga]
    cases hv: (n.2.2.2.2.1[i]).2.2.2.1 with
    |false=>
     refine⟨_,rfl, ?_⟩
     simp [hv]
    |true=>
     simp only[cond_true];rw[ZaO (by simp;omega)];refine⟨_,rfl, ?_⟩;simp [hv]
   ·rintro _ rfl;refine⟨_,by simp only[Zaw,cond_false];rfl, ?_⟩;rw[Vq]
   ·rintro _ rfl;rfl
def qB(k:Nat)(q:Za4):Bool:=inR q.1 k&& (inR q.2.1 k&& (decide (0<=q.2.2.1/\q.2.2.1<=3155932800) && (decide (0<=q.2.2.2.2.1/\q.2.2.2.2.1<=8) && (decide (0<=q.2.2.2.2.2.1/\q.2.2.2.2.2.1<=86400) && (decide (0<=q.2.2.2.2.2.2.2.2.1/\q.2.2.2.2.2.2.2.2.1<=255) && !(q.2.2.2.2.2.2.2.2.2.1&&q.2.2.2.1))))))
theorem ZnY(x a b:Int):F6 x a b=some (decide (a<=x/\x<=b)):=Zd4 x a b
theorem ZgS(x a b:Int):F96 x a b=some (decide (a<=x/\x<=b)):=Zd4 x a b
theorem ZfN(x:Int){m:Nat}(hm:m<=9223372036854775807):F96 x 0 (Vc .i64 ((m:Int) - 1))=some (inR x m):=Zk3 x hm
theorem Zj1(k:Nat)(hk:k<=9223372036854775807)(q:Za4):F88 (k:Int) q=some (qB k q):=by
 unfold F88 qB;simp only[ZgS];rw[show decide ((0:Int)<=q.1/\q.1<=Vc .i64 ((k:Int) - 1))=inR q.1 k from Option.some.inj ((ZgS _ _ _).symm.trans (ZfN q.1 hk)),show decide ((0:Int)<=q.2.1/\q.2.1<=Vc .i64 ((k:Int) - 1))=inR q.2.1 k from Option.some.inj ((ZgS _ _ _).symm.trans (ZfN q.2.1 hk))];simp only[bind_some];generalize inR q.1 k=b1;generalize inR q.2.1 k=b2;generalize decide ((0:Int)<=q.2.2.1/\q.2.2.1<=3155932800)=b3;generalize decide ((0:Int)<=q.2.2.2.2.1/\q.2.2.2.2.1<=8)=b4;generalize decide ((0:Int)<=q.2.2.2.2.2.1/\q.2.2.2.2.2.1<=86400)=b5;generalize decide ((0:Int)<=q.2.2.2.2.2.2.2.2.1/\q.2.2.2.2.2.2.2.2.1<=255)=b6
 generalize q.2.2.2.2.2.2.2.2.2.1=b7;generalize q.2.2.2.1=b8
 cases b1<;>try rfl
 cases b2<;>try rfl
 cases b3<;>try rfl
 cases b4<;>try rfl
 cases b5<;>try rfl
 cases b6<;>try rfl
 cases b7<;>cases b8<;>rfl
open Classical in
noncomputable def ZkJ(n:Zas)(q:Za4):Int:=if Whole n then(if qB n.1.length q=true then 0 else 22) else 21
theorem ZfE{n:Zas}{q:Za4} :ZkJ n q=0↔Whole n/\qB n.1.length q=true:=by
 unfold ZkJ;split
 ·next h=>split<;>simp_all
 ·next h=>simp [h]
open Classical in
theorem ZgC{n:Zas}(h:Fit n):F63 n=some (decide (Whole n)):=by obtain⟨r,_,h2,h3⟩:=ZiJ n h;unfold F63;rw[h2];simp only[bind_some];congr 1;exact decide_eq_decide.2 h3
open Classical in
theorem ZuR{n:Zas}(h:Fit n)(q:Za4):F85 n q=some (ZkJ n q):=by
 unfold F85 ZkJ;rw[ZgC h];simp only[bind_some];by_cases hW:Whole n
 ·rw[decide_eq_true hW,if_pos hW];have hs:=hW.sound.stops;simp only[Vi,cond_false];rw[Zj1 n.1.length (by omega)];simp only[bind_some]
  cases qB n.1.length q<;>rfl
 ·rw[decide_eq_false hW,if_neg hW];rfl
theorem Znd{n:Zas}(h:Fit n)(q:Za4):F5 n q=some (ZkJ n q):=by
 obtain⟨r,h1,_,h3⟩:=ZiJ n h;unfold F5 ZkJ;rw[h1];simp only[bind_some];by_cases hW:Whole n
 ·rw[decide_eq_true (h3.2 hW),if_pos hW];have hk:n.1.length<=9223372036854775807:=by have:=hW.sound.stops;omega
  simp only[Vi,cond_false,ZnY];rw[show decide ((0:Int)<=q.1/\q.1<=Vc .i64 ((n.1.length:Int) - 1))=inR q.1 n.1.length from Option.some.inj ((ZgS _ _ _).symm.trans (ZfN q.1 hk)),show decide ((0:Int)<=q.2.1/\q.2.1<=Vc .i64 ((n.1.length:Int) - 1))=inR q.2.1 n.1.length from Option.some.inj ((ZgS _ _ _).symm.trans (ZfN q.2.1 hk))];unfold qB;simp only[bind_some];generalize inR q.1 n.1.length=b1;generalize inR q.2.1 n.1.length=b2;generalize decide ((0:Int)<=q.2.2.1/\q.2.2.1<=3155932800)=b3;generalize decide ((0:Int)<=q.2.2.2.2.1/\q.2.2.2.2.1<=8)=b4;generalize decide ((0:Int)<=q.2.2.2.2.2.1/\q.2.2.2.2.2.1<=86400)=b5;generalize decide ((0:Int)<=q.2.2.2.2.2.2.2.2.1/\q.2.2.2.2.2.2.2.2.1<=255)=b6
  generalize q.2.2.2.2.2.2.2.2.2.1=b7;generalize q.2.2.2.1=b8
  cases b1<;>try rfl
  cases b2<;>try rfl
  cases b3<;>try rfl
  cases b4<;>try rfl
  cases b5<;>try rfl
  cases b6<;>try rfl
  cases b7<;>cases b8<;>rfl
 ·rw[decide_eq_false (fun e=>hW (h3.1 e)),if_neg hW];rfl
theorem ZqN{c l:List Zb2}(h:ZbN c l=true):c=l:=by
 unfold ZbN at h;rw[Vd,decide_eq_true_eq,Vra]at h;obtain⟨h1,h2⟩:=h;have h2:=Zaz.1 h2;refine List.ext_getElem h1 fun i hi hi' => ?_;have:=h2 i hi;unfold eqF at this;rw[Zak hi,Zak hi']at this
 have hs:Zjt c[i] l[i]=true:=by
  by_cases hs:Zjt c[i] l[i]=true
  ·exact hs
  ·rw[if_neg hs]at this;simp at this
 unfold Zjt at hs;simp only[Vd,decide_eq_true_eq,beq_iff_eq]at hs;exact Vvb hs.1 (Vvb hs.2.1 (Vvb hs.2.2.1 (Vvb hs.2.2.2 rfl)))
theorem Zmp(l:List Zb2):ZbN l l=true:=by unfold ZbN;rw[Vd,decide_eq_true_eq,Vra];refine⟨rfl,Zaz.2 fun i hi=> ?_⟩;unfold eqF Zjt;simp
theorem ZkT{k:Nat}{l:List Zb2} : (∀i,i<l.length->ZbH k l i=0)↔(∀p∈l,ZdC k p=false/\Zdy p=false)/\l.Pairwise fun a b=>Zda a≠Zda b:=by
 constructor
 ·intro h;refine⟨fun p hp=> ?_,Vsa.2 fun i j hi hj hij e=> ?_⟩
  ·obtain⟨i,hi,rfl⟩:=Vy hp;have:=ZcG (h i hi);rw[Zak hi]at this;exact⟨this.1,this.2.1⟩
  ·have:=(ZcG (h j hj)).2.2;refine this ⟨i,hij, ?_⟩;rw[Zak hi,Zak hj];exact e
 ·rintro ⟨h1,h2⟩ i hi;obtain⟨a,b⟩:=h1 _ (Vf hi);unfold ZbH;rw[Zak hi,if_neg (by rw[a];simp),if_neg (by rw[b];simp),if_neg];rintro ⟨j,hj,e⟩;rw[Zak (show j<l.length by omega)]at e;exact Vsa.1 h2 j i (by omega) hi hj e
theorem ZiW{α β:Type}(p:β->Bool)(f:α->List β)(l:List α): (l.flatMap f).filter p=l.flatMap fun x=>(f x).filter p:=by
 induction l with
 |nil=>rfl
 |cons x l ih=>simp [Vga,ih]
theorem Zs4(a b:Nat)(d f:Int): (Zdx a b d f).filter (fun p=>p.2.2.2.1)=Zdx a b f f:=by
 unfold Zdx;by_cases h:f=d
 ·subst h;rw[if_pos rfl,Vcb]
  split<;>simp
 ·rw[if_neg h,if_pos rfl,Vcb,Vga]
  have e1: (if 0<d/\d<=14400 then [((a:Int),(b:Int),d,decide (f=d),())] else []).filter (fun p:Zdt=>p.2.2.2.1)=[]:=by
   split<;>simp [h]
  rw[e1]
  split<;>simp
theorem Zsy(it:Nat->Nat->List Zdt)(n m:Nat): (ZgT it n m).filter (fun p=>p.2.2.2.1)=ZgT (fun a b=>(it a b).filter (fun p=>p.2.2.2.1)) n m:=by
 unfold ZgT ZlU;rw[ZiW];congr 1;funext a;rw[ZiW];congr 1;funext b
 split<;>rfl
theorem ZoE{k:Nat}(hk:k<=64){l:List Zb2}(hl:l.length<=4096)(hz: ∀i,i<l.length->ZbH k l i=0)(hc: ∀c,F59 l (k:Int)=some c->ZbN c l=true):
  (∀i,i< (l.filter fun p=>p.2.2.2.1).length->ZbH k (l.filter fun p=>p.2.2.2.1) i=0)/\ ∀c,F59 (l.filter fun p=>p.2.2.2.1) (k:Int)=some c->ZbN c (l.filter fun p=>p.2.2.2.1)=true:=by
 obtain⟨z1,z2⟩:=ZkT.1 hz;have hz' : ∀i,i< (l.filter fun p=>p.2.2.2.1).length->ZbH k (l.filter fun p=>p.2.2.2.1) i=0:=ZkT.2 ⟨fun p hp=>z1 p (Vdb.1 hp).1,z2.filter _⟩;refine⟨hz',fun c h=> ?_⟩;have hF:=ZrM hz;have hF' :=ZrM hz';have hl' : (l.filter fun p=>p.2.2.2.1).length<=4096:=Vs (Vz _ _) hl;obtain⟨c0,a1,a2,_⟩:=Zgx hk hF hl;obtain⟨c1,b1,b2,_⟩:=Zgx hk hF' hl';have v0:=ZgI hk hF hl (fun a b=>(ZlI hF a b).imp id fun h=>h.2);have v1:=ZgI hk hF' hl' (fun a b=>(ZlI hF' a b).imp id fun h=>h.2);rw[a1]at v0;rw[b1]at v1;have e0:=ZqN (hc c0 a2);obtain rfl:c1=c:=Option.some.inj (b2.symm.trans h)
 have ed: ∀free,EdP (l.filter fun p=>p.2.2.2.1) free=EdP l true:=by
  intro free;funext u v w;refine propext ⟨fun⟨p,hp,_,h⟩=> ?_,fun⟨p,hp,h1,h⟩=> ?_⟩
  ·obtain⟨hp1,hp2⟩:=Vdb.1 hp;exact⟨p,hp1,fun _=>hp2,h⟩
  ·have:=h1 rfl;exact⟨p,Vdb.2 ⟨hp,this⟩,fun _=>this,h⟩
 have key:c1=l.filter fun p=>p.2.2.2.1:=by
  rw[Option.some.inj v1]
  conv=>rhs;rw[<-e0,Option.some.inj v0]
  rw[Zsy,ed,ed];congr 1;funext a b;exact(Zs4 a b _ _).symm
 rw[key];exact Zmp _
theorem Zg9(n:Zas)(q:Za4)(l:List Zbe)(i:Nat): (((l.map (ZbO n q))[i]?).getD c0).1=((l[i]?).getD c0).1/\(((l.map (ZbO n q))[i]?).getD c0).2.1=((l[i]?).getD c0).2.1/\(((l.map (ZbO n q))[i]?).getD c0).2.2.1=((l[i]?).getD c0).2.2.1:=by
 rw[Vaa]
 cases l[i]? with
 |none=>exact⟨rfl,rfl,rfl⟩
 |some c=>
  simp only[Option.map_some,Vu];unfold ZbO
  split<;>exact⟨rfl,rfl,rfl⟩
theorem ZnW(n:Zas)(q:Za4)(l:List Zbe)(k lo hi:Int):Ze2 (l.map (ZbO n q)) k lo hi=Ze2 l k lo hi:=by
 have h:ZjK (l.map (ZbO n q)) k lo hi=ZjK l k lo hi:=by funext i;obtain⟨a1,a2,a3⟩:=Zg9 n q l i;obtain⟨b1,b2,b3⟩:=Zg9 n q l (i - 1);unfold ZjK ZmZ Zmd ZlV;rw[a1,a2,a3,b1,b3]
 unfold Ze2;rw[Vr,h]
theorem Zo8(n:Zas)(q:Za4)(a:Int): (rn (ZaQ n q) a).2.2.2.2.2.2.2.1=(rn n a).2.2.2.2.2.2.2.1.map (ZbO n q):=by
 unfold rn;show (((n.2.2.1.map (ZcL n q))[a.toNat]?).getD u0).2.2.2.2.2.2.2.1=_;rw[Vaa]
 cases n.2.2.1[a.toNat]? <;>rfl
theorem Zom(n:Zas)(q:Za4)(i:Nat):Zcv (ZaQ n q) i=Zcv n i:=by have hlen: (ZaQ n q).2.2.1.length=n.2.2.1.length:=Vr ..;unfold Zcv ZpO Zq4;simp only[Zo8,Vr,hlen];have hcl: ∀ (l:List Zbe) (x:Int),(cl (l.map (ZbO n q)) x).1=(cl l x).1:=fun l x=>(Zg9 n q l _).1;simp only[hcl];rfl
theorem ZpT(n:Zas)(q:Za4){i:Nat}(hi:i<n.2.2.1.length):ZlE (ZaQ n q) i=ZlE n i:=by
 have hg: ∀j,j<n.2.2.1.length->((ZaQ n q).2.2.1[j]?).getD u0=ZcL n q ((n.2.2.1[j]?).getD u0):=by intro j hj;show ((n.2.2.1.map (ZcL n q))[j]?).getD u0=_;rw[Vaa,Va hj];rfl
 unfold ZlE;rw[hg i hi]
 have hd: (∃j,j<i/\runK (((ZaQ n q).2.2.1[j]?).getD u0)=runK (ZcL n q ((n.2.2.1[i]?).getD u0)))↔ ∃j,j<i/\runK ((n.2.2.1[j]?).getD u0)=runK ((n.2.2.1[i]?).getD u0):=by
  constructor
  ·rintro ⟨j,hj,e⟩;rw[hg j (by omega)]at e;exact⟨j,hj,e⟩
  ·rintro ⟨j,hj,e⟩;refine⟨j,hj, ?_⟩;rw[hg j (by omega)];exact e
 have hcE:Ze2 (ZcL n q ((n.2.2.1[i]?).getD u0)).2.2.2.2.2.2.2.1 ((ZaQ n q).1.length:Int) 0 3155932800=Ze2 ((n.2.2.1[i]?).getD u0).2.2.2.2.2.2.2.1 (n.1.length:Int) 0 3155932800:=ZnW n q _ _ _ _;simp only[hcE,hd];rfl
theorem ZgD{n:Zas}(q:Za4)(hp:n.2.2.2.2.1.length<=4096)(h:Whole n):Whole (ZaQ n q):=by
 have hlen: (ZaQ n q).2.2.1.length=n.2.2.1.length:=Vr ..
 have hP: (∀i,i< (Zfu n q).length->ZbH n.1.length (Zfu n q) i=0)/\ ∀c,F59 (Zfu n q) (n.1.length:Int)=some c->ZbN c (Zfu n q)=true:=by
  unfold Zfu;split
  ·exact ZoE h.sound.stops hp (Zaz.1 h.q) h.w
  ·exact⟨Zaz.1 h.q,h.w⟩
 refine⟨h.s,h.t,by rw[hlen];exact h.u, ?_,h.v, ?_,Zaz.2 hP.1,hP.2,h.z⟩
 ·rw[hlen];exact Zaz.2 fun i hi=>by rw[ZpT n q hi];exact Zaz.1 h.f i hi
 ·exact Zaz.2 fun i hi=>by rw[Zom];exact Zaz.1 h.g i hi
theorem Ztr{n:Zas}(q:Za4)(h:Fit n):Fit (ZaQ n q):=by
 refine⟨h.stops,h.routes, ?_, ?_, ?_,h.prods⟩
 ·intro r hr;obtain⟨x,hx,rfl⟩:=Vcc.1 (show r∈n.2.2.1.map (ZcL n q) from hr);exact h.runs x hx
 ·intro r hr;obtain⟨x,hx,rfl⟩:=Vcc.1 (show r∈n.2.2.1.map (ZcL n q) from hr);show (x.2.2.2.2.2.2.2.1.map _).length<=_;rw[Vr];exact h.calls x hx
 ·show (Zfu n q).length<=_;unfold Zfu;split
  ·exact Vs (Vz _ _) h.paths
  ·exact h.paths
end Q
namespace Q
open Tr Go
open Option (bind_some)
theorem Zmj{a b:Nat}(ha:a<65536)(hb:b<65536):qor .i64 (a:Int) (b:Int)=((a ||| b:Nat):Int):=by
 have hor:a ||| b<2 ^ 16:=Vqb (n:=16) (by omega) (by omega);unfold qor
 have h1: (Vba Vea.bits (a:Int) ||| Vba Vea.bits (b:Int)).toNat=a ||| b:=by rw[BitVec.toNat_or,Vjb,Vjb,Vmb,Vmb];show a % 2 ^ 64 ||| b % 2 ^ 64=a ||| b;rw[Vtb (show a<2 ^ 64 by omega),Vtb (show b<2 ^ 64 by omega)]
 rw[h1,Zae (by omega) (by omega)]
theorem ZnL{z:Int}(h0:0<=z)(h1:z<16):ZvL .i64 1 z=some ((2 ^ z.toNat:Nat):Int):=by
 have:z=0\/z=1\/z=2\/z=3\/z=4\/z=5\/z=6\/z=7\/z=8\/z=9\/z=10\/z=11\/z=12\/z=13\/z=14\/z=15:=by omega
 rcases this with rfl|rfl|rfl|rfl|rfl|rfl|rfl|rfl|rfl|rfl|rfl|rfl|rfl|rfl|rfl|rfl<;>decide
theorem Znm{z:Int}(h1:z<16):2 ^ z.toNat<65536:=Nat.pow_lt_pow_right (by omega) (show z.toNat<16 by omega)
abbrev Zar:=Bool×Int×Int×Int×Int×Int×Int×Int×Bool×Unit
abbrev Zdu:=Int×Int×Int×Int×Unit
abbrev Zxv:=List Zar×Unit
def ZaY(n:Zas)(x:Zar):List Zbe:=(rn n x.2.1).2.2.2.2.2.2.2.1
def ZaN(n:Zas)(x:Zar):Bool:=inR x.2.1 n.2.2.1.length&& (decide (0<=x.2.2.1) && (decide (x.2.2.1<x.2.2.2.1) &&decide (x.2.2.2.1< ((ZaY n x).length:Int))))
theorem ZiZ(n:Zas)(x:Zar):F75 n x=some (ZaN n x):=by
 unfold F75 ZaN;by_cases h:inR x.2.1 n.2.2.1.length=true
 ·have e:idx n.2.2.1 x.2.1=some (rn n x.2.1):=Za5 h u0;simp only[e,bind_some,h];unfold inR at h;simp only[Vd,decide_eq_true_eq]at h;rw[decide_eq_false (show¬x.2.1<0 by omega),decide_eq_false (show¬ (n.2.2.1.length:Int)<=x.2.1 by omega)];simp only[cond_false,bind_some];unfold ZaY;generalize decide (0<=x.2.2.1)=a1;generalize decide (x.2.2.1<x.2.2.2.1)=a2;generalize decide (x.2.2.2.1< ((rn n x.2.1).2.2.2.2.2.2.2.1.length:Int))=a3
  cases a1<;>cases a2<;>cases a3<;>rfl
 ·have h' :inR x.2.1 n.2.2.1.length=false:=by simpa using h
  rw[h'];unfold inR at h;simp only[Vd,decide_eq_true_eq]at h;by_cases h1:x.2.1<0
  ·rw[decide_eq_true h1];rfl
  ·rw[decide_eq_false h1,decide_eq_true (show (n.2.2.1.length:Int)<=x.2.1 by omega)];rfl
def zn(n:Zas)(l:List Zbe)(j:Nat):Nat:=2 ^ (Zci n ((l[j]?).getD c0).1).2.1.toNat
def zN(n:Zas)(l:List Zbe)(a:Nat):Nat->Nat
 |0=>0
 |k+1=>zN n l a k ||| zn n l (a+k)
theorem ZhY{n:Zas}(h:Zcr n){a:Int}(h0:0<=a)(h1:a< (n.1.length:Int)):idx n.1 a=some (Zci n a)/\0<=(Zci n a).2.1/\(Zci n a).2.1<16:=by
 have hi:inR a n.1.length=true:=by unfold inR;rw[decide_eq_true h0,decide_eq_true h1];rfl
 refine⟨Za5 hi s0, ?_⟩;have hl:a.toNat<n.1.length:=by omega
 unfold Zci;rw[Zak hl];exact h.zone _ (Vf hl)
theorem Zlv{n:Zas}(h:Zcr n){l:List Zbe}(hc: ∀c∈l,0<=c.1/\c.1< (n.1.length:Int)){a:Nat} : ∀k,a+k<=l.length->zN n l a k<65536
 |0,_=>by unfold zN;omega
 |k+1,hk=>by
  have ih:=Zlv h hc (a:=a) k (by omega);have hj:a+k<l.length:=by omega
  have hcj:=hc _ (Vf hj);have hz:=(ZhY h hcj.1 hcj.2).2
  have:zn n l (a+k)<65536:=by unfold zn;rw[Zak hj];exact Znm hz.2
  exact Vqb (n:=16) ih this
theorem ZqZ{n:Zas}(h:Zcr n){x:Zar}(hx:ZaN n x=true):F82 n x=some ((zN n (ZaY n x) x.2.2.1.toNat (x.2.2.2.1.toNat+1 - x.2.2.1.toNat):Nat):Int):=by
 unfold ZaN at hx;simp only[Vd,decide_eq_true_eq]at hx;obtain⟨hr,h0,h1,h2⟩:=hx;have hm:=Zgq hr;have hmany:=(h.many _ hm).2;have hc: ∀c∈ZaY n x,0<=c.1/\c.1< (n.1.length:Int):=h.call _ hm;have e:idx n.2.2.1 x.2.1=some (rn n x.2.1):=Za5 hr u0;unfold F82;rw[e];simp only[bind_some];have hfold: (rn n x.2.1).2.2.2.2.2.2.2.1=ZaY n x:=rfl;simp only[hfold]at hmany ⊢;generalize ZaY n x=l at*;obtain⟨a,ha⟩: ∃a:Nat,x.2.2.1=(a:Int):=⟨x.2.2.1.toNat,by omega⟩;obtain⟨b,hb⟩: ∃b:Nat,x.2.2.2.1=(b:Int):=⟨x.2.2.2.1.toNat,by omega⟩;rw[ha]at h0 h1;rw[hb]at h1 h2;rw[ha,hb];simp only[Ve];rw[Za7 (n:=b+1 - a) (fun i (st:Int×Int)=>st=(((zN n l a i:Nat):Int),((a+i:Nat):Int))) (fun _=>0) (fun _=>((zN n l a (b+1 - a):Nat):Int)) ((zN n l a (b+1 - a):Nat):Int) ?_ ?_ ?_ ((0:Int),(a:Int)) rfl]
 ·unfold pick;rw[Zb3 fun _ _=>rfl];rfl
 ·rintro i _ hi rfl _;have hj:a+i<l.length:=by omega
  have hcj:=hc _ (Vf hj);obtain⟨hs1,hs2,hs3⟩:=ZhY h hcj.1 hcj.2;refine⟨(((zN n l a (i+1):Nat):Int),((a+(i+1):Nat):Int)), ?_,rfl⟩;have hw:Vc .i64 (((a+i:Nat):Int)+1)=((a+(i+1):Nat):Int):=by rw[Zae (by omega) (by omega)];omega
  simp only[decide_eq_true (show ((a+i:Nat):Int)<=(b:Int) by omega),cond_true,Zaf hj,bind_some,hs1,ZnL hs2 hs3,hw];rw[Zmj (Zlv h hc (a:=a) i (by omega)) (Znm hs3)]
  have:zN n l a (i+1)=zN n l a i ||| 2 ^ (Zci n l[a+i].1).2.1.toNat:=by show zN n l a i ||| zn n l (a+i)=_;unfold zn;rw[Zak hj]
  rw[this]
 ·intro i s _ _ hh;exact absurd rfl hh
 ·rintro _ rfl;simp only[decide_eq_false (show¬ ((a+(b+1 - a):Nat):Int)<=(b:Int) by omega),cond_false]
theorem ZuQ{k:Nat}(h:0<k)(hk:k<=9223372036854775807):inb (Vc .i64 ((k:Int) - 1)) k=some (k - 1):=by
 have e:Vc .i64 ((k:Int) - 1)=((k - 1:Nat):Int):=by rw[Zae (by omega) (by omega)];omega
 rw[e,ZaE (by omega)]
theorem Zn2{α:Type}{l:List α}{k:Nat}(h:k<l.length)(w:α): (l.set k w)[k]? =some w:=by simp [h]
def ZkS(n:Zas)(x:Zar):Nat:=zN n (ZaY n x) x.2.2.1.toNat (x.2.2.2.1.toNat+1 - x.2.2.1.toNat)
theorem Zor{n:Zas}(h:Zcr n){x:Zar}(hx:ZaN n x=true):ZkS n x<65536:=by unfold ZaN at hx;simp only[Vd,decide_eq_true_eq]at hx;obtain⟨hr,h0,h1,h2⟩:=hx;exact Zlv h (h.call _ (Zgq hr)) _ (by unfold ZaY at h2;omega)
def r00:ZdS:=([],0,false,())
def Zcl(n:Zas)(x:Zar):ZdS:=(n.2.1[(rn n x.2.1).2.2.2.2.1.toNat]?).getD r00
theorem ZuN{n:Zas}(h:Zcr n){x:Zar}(hx:ZaN n x=true):idx n.2.2.1 x.2.1=some (rn n x.2.1)/\idx n.2.1 (rn n x.2.1).2.2.2.2.1=some (Zcl n x)/\0<=(Zcl n x).2.1/\(Zcl n x).2.1<16:=by
 unfold ZaN at hx;simp only[Vd]at hx;have hm:=Zgq hx.1;have h1:=h.route _ hm;have hi:inR (rn n x.2.1).2.2.2.2.1 n.2.1.length=true:=by unfold inR;rw[decide_eq_true h1.1,decide_eq_true h1.2];rfl
 refine⟨Za5 hx.1 u0,Za5 hi r00, ?_⟩;have hl: (rn n x.2.1).2.2.2.2.1.toNat<n.2.1.length:=by omega
 unfold Zcl;rw[Zak hl];have:=h.mode _ (Vf hl);omega
def Zfo(n:Zas)(x:Zar):Zdu:=(x.2.2.2.2.2.2.1,x.2.2.2.2.2.2.2.1,((ZkS n x:Nat):Int),((2 ^ (Zcl n x).2.1.toNat:Nat):Int),())
def ZhQ(n:Zas)(x:Zar)(l:List Zdu)(v:Zdu):List Zdu:=
 l.set (l.length - 1) (v.1,x.2.2.2.2.2.2.2.1,qor .i64 v.2.2.1 ((ZkS n x:Nat):Int),qor .i64 v.2.2.2.1 ((2 ^ (Zcl n x).2.1.toNat:Nat):Int),())
abbrev Za2(x:Zar):Bool:=x.2.2.2.2.2.2.2.2.1
def Zc0(n:Zas)(x:Zar)(out:List Zdu):List Zdu:=match out[out.length - 1]? with
 |some v=>ZhQ n x out v
 |none=>out
def Zbs(n:Zas):List Zar->Bool->List Zdu->List Zdu×Int
 | [],_,out=>(out,0)
 |x::l,rode,out=>
  if x.1=true/\ZaN n x=false then([],9)
  else if Za2 x=true/\(x.1=false\/rode=false) then([],19)
  else if x.1=true then Zbs n l true (if Za2 x=true then Zc0 n x out else out++[Zfo n x])
  else Zbs n l false out
theorem ZcX(n:Zas)(x:Zar)(l:List Zar)(rode:Bool)(out:List Zdu):Zbs n (x::l) rode out=if x.1=true/\ZaN n x=false then([],9)
  else if Za2 x=true/\(x.1=false\/rode=false) then([],19)
  else if x.1=true then Zbs n l true (if Za2 x=true then Zc0 n x out else out++[Zfo n x])
  else Zbs n l false out:=rfl
theorem Zgy(n:Zas)(x:Zar)(out:List Zdu): (Zc0 n x out).length=out.length:=by
 unfold Zc0;split
 ·unfold ZhQ;rw[Vv]
 ·rfl
theorem Zoi{c d:Bool}{e:Int}{K:Option Int}{k:Int}(h:K=some k): (Vb (bif c then some true else some d) fun x=>bif x then some e else K)=some (bif c||d then e else k):=by
 subst h;cases c<;>cases d<;>rfl
theorem ZfV{c d:Bool}{e:Int}{K:Option Int}{k:Int}(h:K=some k): (Vb (bif c then some d else some false) fun x=>bif x then some e else K)=some (bif c&&d then e else k):=by
 subst h;cases c<;>cases d<;>rfl
theorem ZfX{c:Bool}{e:Int}{K:Option Int}{k:Int}(h:K=some k): (bif c then some e else K)=some (bif c then e else k):=by
 subst h;cases c<;>rfl
theorem Zer{o:Option Bool}{c:Bool}{e:Int}{K:Option Int}{k:Int}(ho:o=some c)(h:K=some k): (Vb o fun x=>bif x then some e else K)=some (bif c then e else k):=by
 subst ho;subst h;cases c<;>rfl
theorem Zau{c:Bool}{e k:Int}(he:e≠0): (bif c then e else k)=0↔c=false/\k=0:=by
 cases c<;>simp [he]
def Zum(q:Za4)(t:ZdS):Bool:=decide (q.2.2.2.2.2.2.2.2.1=(0:Int)) ||decide (ZnO .i64 (Vwb q.2.2.2.2.2.2.2.2.1 (2 ^ (min (Vma t.2.1) 64))) 1=1)
theorem Zt4(a:Int):ZnO .i64 a 1=0\/ZnO .i64 a 1=1:=by
 unfold ZnO
 have h: (Vba Vea.bits a &&& Vba Vea.bits 1).toNat=(Vba Vea.bits a).toNat % 2:=by rw[BitVec.toNat_and];show _ &&& 1=_;rw[Nat.and_one_is_mod]
 rw[h];have: (Vba Vea.bits a).toNat % 2=0\/(Vba Vea.bits a).toNat % 2=1:=by omega
 rcases this with h|h<;>rw[h]
 ·left;rfl
 ·right;rfl
theorem ZuA(q:Za4)(t:ZdS)(h0:0<=t.2.1): (bif !decide (q.2.2.2.2.2.2.2.2.1=(0:Int)) then Vb (Zqt .i64 q.2.2.2.2.2.2.2.2.1 t.2.1) fun x=>some (decide (ZnO .i64 x (1:Int)=(0:Int))) else some false)=some (!Zum q t):=by
 unfold Zum
 have hs:Zqt .i64 q.2.2.2.2.2.2.2.2.1 t.2.1=some (Vwb q.2.2.2.2.2.2.2.2.1 (2 ^ (min (Vma t.2.1) 64))):=by unfold Zqt;rw[if_neg (by omega)];rfl
 rw[hs];simp only[bind_some]
 cases decide (q.2.2.2.2.2.2.2.2.1=(0:Int)) with
 |true=>rfl
 |false=>
  rcases Zt4 (Vwb q.2.2.2.2.2.2.2.2.1 (2 ^ (min (Vma t.2.1) 64))) with h|h<;>rw[h]<;>rfl
def ZjT(n:Zas)(q:Za4)(x:Zar):Int:=
 bif !decide ((cl (ZaY n x) x.2.2.1).1=x.2.2.2.2.1) || !decide ((cl (ZaY n x) x.2.2.2.1).1=x.2.2.2.2.2.1) then 24 else
 bif !decide ((cl (ZaY n x) x.2.2.1).2.2.1=x.2.2.2.2.2.2.1) || !decide ((cl (ZaY n x) x.2.2.2.1).2.1=x.2.2.2.2.2.2.2.1) then 10 else
 bif (rn n x.2.1).2.2.2.2.2.2.1 then 27 else
 bif q.2.2.2.2.2.2.1&& !(rn n x.2.1).2.2.2.2.2.1 then 29 else
 bif q.2.2.2.2.2.2.2.1&& !(Zuh n (rn n x.2.1)).2.2.1 then 30 else
 bif !Zum q (Zuh n (rn n x.2.1)) then 31 else
 bif !Za2 x&& !(cl (ZaY n x) x.2.2.1).2.2.2.1 then 25 else
 bif !Za2 x&& !Zky n q x.2.2.2.2.1 then 29 else 0
theorem Zmi{n:Zas}{x:Zar}(hx:ZaN n x=true):idx n.2.2.1 x.2.1=some (rn n x.2.1)/\rn n x.2.1∈n.2.2.1/\idx (rn n x.2.1).2.2.2.2.2.2.2.1 x.2.2.1=some (cl (ZaY n x) x.2.2.1)/\idx (rn n x.2.1).2.2.2.2.2.2.2.1 x.2.2.2.1=some (cl (ZaY n x) x.2.2.2.1):=by
 unfold ZaN at hx;simp only[Vd,decide_eq_true_eq]at hx;obtain⟨hr,h0,h1,h2⟩:=hx;unfold ZaY at h2
 refine⟨Za5 hr u0,Zgq hr,Za5 ?_ c0,Za5 ?_ c0⟩<;> (unfold inR;rw[Vd,decide_eq_true_eq,decide_eq_true_eq];omega)
theorem ZmN{n:Zas}(q:Za4){s:Int}(h:inR s n.1.length=true):F87 n q s=some (Zky n q s):=by
 unfold F87 Zky;rw[show idx n.1 s=some (Zci n s) from Za5 h s0];simp only[bind_some]
 cases q.2.2.2.2.2.2.1<;>cases (Zci n s).2.2.1<;>rfl
theorem Zui{n:Zas}(hS:Zcr n)(q:Za4){x:Zar}(hx:ZaN n x=true)(hf:inR x.2.2.2.2.1 n.1.length=true):F99 n q x=some (ZjT n q x):=by
 obtain⟨h1,h2,h3,h4⟩:=Zmi hx;obtain⟨h5,h6⟩:=Zvm hS h2;have hm:=(hS.mode _ h6).1;unfold F99 ZjT;rw[h1];simp only[bind_some];rw[h3,h4,h5];simp only[bind_some];refine Zoi (Zoi (ZfX (ZfV (ZfV (Zer (ZuA q _ hm) (ZfV (Zer (c:= !Za2 x&& !Zky n q x.2.2.2.2.1) ?_ rfl)))))));rw[ZmN q hf];unfold Za2
 cases x.2.2.2.2.2.2.2.2.1<;>rfl
def ZdG(x:Zar)(p:Zb2):Bool:=decide (p.1=x.2.2.2.2.1) && (decide (p.2.1=x.2.2.2.2.2.1) &&decide (p.2.2.1=Vc .i64 (x.2.2.2.2.2.2.2.1 - x.2.2.2.2.2.2.1)))
def ZhM(q:Za4)(p:Zb2):Bool:=p.2.2.2.1|| !q.2.2.2.2.2.2.1
def ZhS(n:Zas)(q:Za4)(x:Zar):Int:=bif n.2.2.2.2.1.any fun p=>ZdG x p&&ZhM q p then 0 else bif n.2.2.2.2.1.any (ZdG x) then 29 else 18
theorem Zhk{α:Type}{l:List α}{i:Nat}(h:i<l.length)(f:α->Bool): (l.take (i+1)).any f=((l.take i).any f||f l[i]):=by rw[Vh h,List.any_append];simp
theorem Zvc{α:Type}{l:List α}{i:Nat}(h:i<l.length){f:α->Bool}(hf:f l[i]=true):l.any f=true:=Vja.2 ⟨_,Vf h,hf⟩
theorem ZnH{n:Zas}(hp:n.2.2.2.2.1.length<=4096)(q:Za4)(x:Zar):F103 n q x=some (ZhS n q x):=by
 unfold F103;refine Zbi (fun r:Int ⊕ Int=>Vdc id id r=ZhS n q x) ?_ ?_
 ·refine ZaL n.2.2.2.2.1.length _ (fun i (s:Int×Int)=>s=((bif (n.2.2.2.2.1.take i).any (ZdG x) then 29 else 18),(i:Int))/\((n.2.2.2.2.1.take i).any fun p=>ZdG x p&&ZhM q p)=false) ?_ ?_ _ ⟨rfl,rfl⟩
  ·rintro i _ hi ⟨rfl,ha⟩;simp only[Zat hi,cond_true,Zaf hi,bind_some,Zaj hi (show _<=9223372036854775807 by omega)]
   have e1: (bif !decide ((n.2.2.2.2.1[i]).1=x.2.2.2.2.1) then some true else bif !decide ((n.2.2.2.2.1[i]).2.1=x.2.2.2.2.2.1) then some true else some !decide ((n.2.2.2.2.1[i]).2.2.1=Vc .i64 (x.2.2.2.2.2.2.2.1 - x.2.2.2.2.2.2.1)))=some (!ZdG x n.2.2.2.2.1[i]):=by
    unfold ZdG
    cases decide ((n.2.2.2.2.1[i]).1=x.2.2.2.2.1)<;>cases decide ((n.2.2.2.2.1[i]).2.1=x.2.2.2.2.2.1)<;>rfl
   have e2: (bif (n.2.2.2.2.1[i]).2.2.2.1 then some true else some !q.2.2.2.2.2.2.1)=some (ZhM q n.2.2.2.2.1[i]):=by
    unfold ZhM
    cases (n.2.2.2.2.1[i]).2.2.2.1<;>rfl
   rw[e1,e2];simp only[bind_some]
   cases hm:ZdG x n.2.2.2.2.1[i] with
   |false=>
    left;refine⟨_,rfl, ?_, ?_⟩
    ·rw[Zhk hi,hm,Bool.or_false]
    ·rw[Zhk hi,ha,hm];rfl
   |true=>
    cases hfr:ZhM q n.2.2.2.2.1[i] with
    |true=>
     right;refine⟨_,rfl, ?_⟩;unfold ZhS;rw[Zvc hi (f:=fun p=>ZdG x p&&ZhM q p) (by rw[hm,hfr];rfl)]
     rfl
    |false=>
     left;refine⟨_,rfl, ?_, ?_⟩
     ·rw[Zhk hi,hm,Vya];rfl
     ·rw[Zhk hi,ha,hm,hfr];rfl
  ·rintro _ ⟨rfl,ha⟩;simp only[Zaw,cond_false];refine⟨_,rfl, ?_⟩;rw[Vq]at ha ⊢;unfold ZhS;rw[ha];rfl
 ·rintro (r|r) hr
  ·exact congrArg some hr
  ·exact congrArg some hr
def ZhP(n:Zas)(q:Za4)(x:Zar):Int:=
 bif !inR x.2.2.2.2.1 n.1.length|| !inR x.2.2.2.2.2.1 n.1.length then 9 else
 bif (bif x.1 then !ZaN n x else !decide (x.2.1=0) || (!decide (x.2.2.1=0) || (!decide (x.2.2.2.1=0) ||Za2 x))) then 9 else
 bif !decide (0<=x.2.2.2.2.2.2.1/\x.2.2.2.2.2.2.1<=3155932800) || !decide (0<=x.2.2.2.2.2.2.2.1/\x.2.2.2.2.2.2.2.1<=3155932800) then 10 else
 bif x.1 then ZjT n q x else ZhS n q x
theorem Zhz{o:Option Bool}{c:Bool}{e:Int}{K:Option Int}{k:Int}(ho:o=some c)(h:c=false->K=some k): (Vb o fun x=>bif x then some e else K)=some (bif c then e else k):=by
 subst ho;cases c
 ·exact h rfl
 ·rfl
theorem Zwg{n:Zas}(hS:Zcr n)(hp:n.2.2.2.2.1.length<=4096)(q:Za4)(x:Zar):F97 n q x=some (ZhP n q x):=by
 have hk:n.1.length<=9223372036854775807:=by have:=hS.stops;omega
 unfold F97 ZhP;rw[ZfN _ hk,ZfN _ hk]
 refine Zhz (c:= !inR x.2.2.2.2.1 n.1.length|| !inR x.2.2.2.2.2.1 n.1.length) (by cases inR x.2.2.2.2.1 n.1.length<;>rfl) fun hst=> ?_
 rw[ZiZ]
 refine Zhz (c:=bif x.1 then !ZaN n x else !decide (x.2.1=0) || (!decide (x.2.2.1=0) || (!decide (x.2.2.2.1=0) ||Za2 x))) ?_ fun hex=> ?_
 ·unfold Za2
  cases x.1 with
  |true=>cases ZaN n x<;>rfl
  |false=>cases decide (x.2.1=0)<;>cases decide (x.2.2.1=0)<;>cases decide (x.2.2.2.1=0)<;>rfl
 ·rw[ZgS,ZgS];refine Zhz (c:= !decide (0<=x.2.2.2.2.2.2.1/\x.2.2.2.2.2.2.1<=3155932800) || !decide (0<=x.2.2.2.2.2.2.2.1/\x.2.2.2.2.2.2.2.1<=3155932800)) ?_ fun _=> ?_
  ·simp only[bind_some]
   cases decide (0<=x.2.2.2.2.2.2.1/\x.2.2.2.2.2.2.1<=3155932800)<;>rfl
  ·cases hx1:x.1 with
   |false=>
    simp only[cond_false]
    rw[ZnH hp];rfl
   |true=>
    rw[hx1]at hex;simp only[cond_true]at hex ⊢
    rw[Zui hS q (by simpa using hex) (by rw[Vp]at hst;simpa using hst.1)]
    rfl
def Zmv(a b:Zar)(stay:Bool)(l:ZlD):Bool:=decide (l.1=a.2.1) && (decide (l.2.1=a.2.2.2.1) && (decide (l.2.2.1=b.2.1) && (decide (l.2.2.2.1=b.2.2.1) && (l.2.2.2.2.1==stay))))
def Zgf(n:Zas)(a b:Zar)(stay:Bool):Bool:=n.2.2.2.1.any (Zmv a b stay)
theorem Zj6       {n : Zas }(hl : n.2.2.2.1.length <= 4096)(a b : Zar )(stay : Bool) : F98 n a b stay = some (Zgf   n a b stay) := by
  unfold F98;refine Zbi     (fun r : Unit ⊕ Bool => Vdc (fun _ => false) id r = Zgf   n a b stay) ?_ ?_
  · unfold Zgf
    refine ZaL     n.2.2.2.1.length _ (fun i (s : Int) => s = (i : Int) /\ (n.2.2.2.1.take i).any (Zmv   a b stay) = false) ?_ ?_ _ ⟨rfl, rfl⟩
    · rintro i _ hi ⟨rfl, ha⟩
      simp only [Zat    hi, cond_true, Zaf     hi, bind_some, Zaj       hi (show _ <= 9223372036854775807 by omega)]
      have e1 : (bif decide ((n.2.2.2.1[i]).1 = a.2.1) then
 bif decide ((n.2.2.2.1[i]).2.1 = a.2.2.2.1) then
 bif decide ((n.2.2.2.1[i]).2.2.1 = b.2.1) then
 bif decide ((n.2.2.2.1[i]).2.2.2.1 = b.2.2.1) then some ((n.2.2.2.1[i]).2.2.2.2.1 == stay) else some false
 else some false
 else some false
 else some false) = some (Zmv   a b stay n.2.2.2.1[i]) := by
        unfold Zmv
        cases decide ((n.2.2.2.1[i]).1 = a.2.1) <;> cases decide ((n.2.2.2.1[i]).2.1 = a.2.2.2.1) <;> cases decide ((n.2.2.2.1[i]).2.2.1 = b.2.1) <;> cases decide ((n.2.2.2.1[i]).2.2.2.1 = b.2.2.1) <;> rfl
      erw [e1];simp only [bind_some]
      cases hm : Zmv   a b stay n.2.2.2.1[i] with
      | false =>
        left;refine ⟨_, rfl, rfl, ?_⟩
        rw [Zhk      hi, ha, hm]; rfl
      | true =>
        right;refine ⟨_, rfl, ?_⟩;rw [Zvc    hi hm]; rfl
    · rintro _ ⟨rfl, ha⟩
      simp only [Zaw    , cond_false];refine ⟨_, rfl, ?_⟩;rw [Vq]at ha;rw [ha]; rfl
  · rintro (r | r) hr
    · exact congrArg some hr
    · exact congrArg some hr
def Zbj(n:Zas)(a b:Zar):Int:=
 bif !decide (a.2.2.2.2.2.1=b.2.2.2.2.1) then 24 else
 bif !a.1&& !b.1 then 32 else
 bif Za2 b then(bif !a.1|| !Zgf n a b true then 19 else bif decide (b.2.2.2.2.2.2.1<a.2.2.2.2.2.2.2.1) then 10 else 0) else
 bif !b.1 then(bif !decide (b.2.2.2.2.2.2.1=a.2.2.2.2.2.2.2.1) then 10 else 0) else
 bif !a.1 then(bif decide (b.2.2.2.2.2.2.1<a.2.2.2.2.2.2.2.1) then 28 else 0) else
 bif decide (Vc .i64 (a.2.2.2.2.2.2.2.1+(Zci n a.2.2.2.2.2.1).2.2.2.1)<=b.2.2.2.2.2.2.1) || (Zgf n a b false&&decide (a.2.2.2.2.2.2.2.1<=b.2.2.2.2.2.2.1)) then 0 else 28
theorem Zkr{n:Zas}(hl:n.2.2.2.1.length<=4096){a b:Zar}(ha:inR b.2.2.2.2.1 n.1.length=true):F94 n a b=some (Zbj n a b):=by
 unfold F94 Zbj;rw[Zj6 hl,Zj6 hl];by_cases h24:a.2.2.2.2.2.1=b.2.2.2.2.1
 case neg=>rw[decide_eq_false h24];rfl
 rw[decide_eq_true h24];simp only[Vi,cond_false,bind_some];refine ZfV ?_;unfold Za2
 cases b.2.2.2.2.2.2.2.2.1 with
 |true=>
  simp only[cond_true]
  exact Zoi (by cases decide (b.2.2.2.2.2.2.1<a.2.2.2.2.2.2.2.1)<;>rfl)
 |false=>
  simp only[cond_false]
  cases b.1 with
  |false=>
   simp only[Vl,cond_true]
   cases decide (b.2.2.2.2.2.2.1=a.2.2.2.2.2.2.2.1)<;>rfl
  |true=>
   simp only[Vi,cond_false]
   cases a.1 with
   |false=>
    simp only[Vl,cond_true]
    cases decide (b.2.2.2.2.2.2.1<a.2.2.2.2.2.2.2.1)<;>rfl
   |true=>
    simp only[Vi,cond_false];have hi:idx n.1 a.2.2.2.2.2.1=some (Zci n a.2.2.2.2.2.1):=by rw[h24];exact Za5 ha s0
    rw[hi];simp only[bind_some]
    cases decide (Vc .i64 (a.2.2.2.2.2.2.2.1+(Zci n a.2.2.2.2.2.1).2.2.2.1)<=b.2.2.2.2.2.2.1)<;>cases Zgf n a b false<;>cases decide (a.2.2.2.2.2.2.2.1<=b.2.2.2.2.2.2.1)<;>rfl
def g0:Zar:=(false,0,0,0,0,0,0,0,false,())
def lg(L:List Zar)(i:Nat):Zar:=(L[i]?).getD g0
def Zg4(n:Zas)(q:Za4)(L:List Zar):Int:=
 bif !decide ((lg L 0).2.2.2.2.1=q.1) then 24 else
 bif Za2 (lg L 0) then 19 else
 bif !(lg L 0).1&& (decide (1<L.length) && ((lg L 1).1&& !decide ((lg L 1).2.2.2.2.2.2.1=(lg L 0).2.2.2.2.2.2.2.1))) then 10 else
 bif !(lg L 0).1&& (decide (L.length=1) && (bif q.2.2.2.1 then !decide ((lg L 0).2.2.2.2.2.2.2.1=q.2.2.1) else !decide ((lg L 0).2.2.2.2.2.2.1=q.2.2.1))) then 10 else
 bif !q.2.2.2.1&&decide ((lg L 0).2.2.2.2.2.2.1<q.2.2.1) then 10 else
 bif q.2.2.2.2.2.2.2.2.2.1&& ((lg L 0).1&&decide ((lg L 0).2.2.2.2.2.2.1<Vc .i64 (q.2.2.1+(Zci n q.1).2.2.2.1))) then 28 else 0
theorem Zfb{L:List Zar}{i:Nat}(h:i<L.length):idx L (i:Int)=some (lg L i):=by rw[Zaf h];unfold lg;rw[Zak h]
theorem Zp6{n:Zas}{q:Za4}{L:List Zar}(h0:0<L.length)(hq:inR q.1 n.1.length=true):F93 n q (L,())=some (Zg4 n q L):=by
 unfold F93 Zg4;have e0:idx (L,()).1 (0:Int)=some (lg L 0):=Zfb h0;rw[e0];simp only[bind_some];refine ZfX (Zer (c:=Za2 (lg L 0)) rfl ?_ : (Vb (some _) fun _=>_)=_)
 refine Zer (c:= !(lg L 0).1&& (decide (1<L.length) && ((lg L 1).1&& !decide ((lg L 1).2.2.2.2.2.2.1=(lg L 0).2.2.2.2.2.2.2.1)))) ?_ (Zer (c:= !(lg L 0).1&& (decide (L.length=1) && (bif q.2.2.2.1 then !decide ((lg L 0).2.2.2.2.2.2.2.1=q.2.2.1) else !decide ((lg L 0).2.2.2.2.2.2.1=q.2.2.1)))) ?_ (ZfV (Zer (c:=q.2.2.2.2.2.2.2.2.2.1&& ((lg L 0).1&&decide ((lg L 0).2.2.2.2.2.2.1<Vc .i64 (q.2.2.1+(Zci n q.1).2.2.2.1)))) ?_ rfl)))
 ·by_cases h1:1<L.length
  ·have e1:idx L (1:Int)=some (lg L 1):=Zfb h1;rw[decide_eq_true (show (1:Int)< (L.length:Int) by omega),decide_eq_true h1,e1];simp only[bind_some]
   cases (lg L 0).1<;>cases (lg L 1).1<;>rfl
  ·rw[decide_eq_false (show¬ (1:Int)< (L.length:Int) by omega),decide_eq_false h1]
   cases (lg L 0).1<;>rfl
 ·rw[show decide ((L.length:Int)=1)=decide (L.length=1) from decide_eq_decide.2 (by omega)]
  cases (lg L 0).1<;>cases decide (L.length=1)<;>cases q.2.2.2.1<;>cases decide ((lg L 0).2.2.2.2.2.2.2.1=q.2.2.1)<;>cases decide ((lg L 0).2.2.2.2.2.2.1=q.2.2.1)<;>rfl
 ·rw[show idx n.1 q.1=some (Zci n q.1) from Za5 hq s0];simp only[bind_some]
  cases q.2.2.2.2.2.2.2.2.2.1<;>cases (lg L 0).1<;>rfl
end Q
namespace Q
open Tr Go
open Option (bind_some)
def ZnA(L:List Zar)(i:Nat):Bool:=decide (0<i) && (lg L (i - 1)).1
theorem ZqS{n:Zas}(h:Zcr n)(hv:F63 n=some true)(L:List Zar)(hj:L.length<=1000):F77 n (L,())=some (Zbs n L false []):=by
 unfold F77;rw[hv];simp only[bind_some,Vi,cond_false];refine Zbi (fun r=>Zbs n L false []=Vdc (fun l:List Zdu=>(l,(0:Int))) (fun y=>y) r) ?_ ?_
 ·refine ZaL L.length _ (fun i (s:List Zdu×Int)=> ∃l,s=(l,(i:Int))/\l.length<=i/\(ZnA L i=true->0<l.length)/\Zbs n L false []=Zbs n (L.drop i) (ZnA L i) l) ?_ ?_ _ ⟨[],rfl,by simp,fun e=>(nomatch e),rfl⟩
  ·rintro i _ hi ⟨l,rfl,hl,hw,hgo⟩;have hil:L.length<=9223372036854775807:=by omega
   rw[Vqa hi]at hgo
   have hnx:ZnA L (i+1)=(L[i]).1:=by unfold ZnA lg;rw[Nat.add_sub_cancel,Zak hi,decide_eq_true (Vpb i)];rfl
   have hro: (bif !(L[i]).1 then some true else bif decide ((i:Int)=(0:Int)) then some true else Vb (idx L (Vc .i64 ((i:Int) - (1:Int)))) fun x5=>some !x5.1)=some (!((L[i]).1&&ZnA L i)):=by
    cases (L[i]).1 with
    |false=>rfl
    |true=>
     unfold ZnA;by_cases h0:i=0
     ·subst h0;rfl
     ·rw[decide_eq_false (show¬ ((i:Int)=0) by omega),decide_eq_true (show 0<i by omega)];have e:Vc .i64 ((i:Int) - 1)=((i - 1:Nat):Int):=by rw[Zae (by omega) (by omega)];omega
      rw[e,Zfb (show i - 1<L.length by omega)];rfl
   simp only[Zat hi,cond_true,Zaf hi,bind_some,Zaj hi hil,ZiZ];rw[hro];generalize L[i]=x at*;rw[ZcX]at hgo;generalize ZnA L i=w at*
   cases hx1:x.1 with
   |false=>
    rw[hx1]at hgo hnx;simp only[cond_false,bind_some,Vl,cond_true]
    cases hs:Za2 x with
    |true=>
     right;rw[hs]at hgo;unfold Za2 at hs;rw[hs];refine⟨_,rfl, ?_⟩
     rw[hgo];simp
    |false=>
     left;rw[hs]at hgo;unfold Za2 at hs;rw[hs];refine⟨_,rfl,l,rfl,by omega,fun e=>(by rw[hnx]at e;cases e), ?_⟩
     rw[hgo,hnx];simp
   |true=>
    rw[hx1]at hgo hnx;simp only[cond_true,bind_some,Vi,cond_false,Vm]
    cases hx:ZaN n x with
    |false=>
     right;rw[hx]at hgo;refine⟨_,rfl, ?_⟩
     rw[hgo];simp
    |true=>
     rw[hx]at hgo;obtain⟨e1,e2,e3,e4⟩:=ZuN h hx;have ez:=ZqZ h hx;simp only[Vi,cond_false]
     cases hs:Za2 x with
     |false=>
      left;rw[hs]at hgo;have hs' :=hs;unfold Za2 at hs';rw[hs'];simp only[cond_false,bind_some];rw[e1];simp only[bind_some];rw[e2];simp only[bind_some];rw[ZnL e3 e4,ez];simp only[bind_some];rw[ZaO (by simp;omega)];refine⟨_,rfl,l++[Zfo n x],rfl,by simp;omega,fun _=>by simp, ?_⟩
      rw[hgo,hnx];simp
     |true=>
      rw[hs]at hgo;have hs' :=hs;unfold Za2 at hs';rw[hs'];simp only[cond_true,bind_some]
      cases w with
      |false=>
       right;refine⟨_,rfl, ?_⟩
       rw[hgo];simp
      |true=>
       left;have hpos:=hw rfl;obtain⟨v,hv⟩: ∃v,l[l.length - 1]? =some v:=⟨_,Va (by omega)⟩;simp only[Vi,cond_false];rw[e1];simp only[bind_some];rw[e2];simp only[bind_some];rw[ZnL e3 e4,ez];have hb:=ZuQ (k:=l.length) hpos (by omega);simp only[bind_some,Vv];rw[hb];simp only[bind_some,hv,Zn2 (show l.length - 1<l.length by omega)];rw[Zn2 (by rw[Vv];omega)];simp only[bind_some,Voa];have ea:Zc0 n x l=ZhQ n x l v:=by unfold Zc0;rw[hv]
       refine⟨_,rfl,ZhQ n x l v,rfl,by rw[<-ea,Zgy];omega,fun _=>by rw[<-ea,Zgy];exact hpos, ?_⟩;rw[hgo, <-ea,hnx];simp
  ·rintro _ ⟨l,rfl,hl,hw,hgo⟩;simp only[Zaw,cond_false];refine⟨_,rfl, ?_⟩;rw[hgo,List.drop_length];rfl
 ·rintro r hr;rw[hr]
  cases r<;>rfl
theorem Zrx(z:Int): ∃r,F80 z=some r:=by
 unfold F80
 suffices h: ∃r,run _ ((0:Int),(0:Int))=some r/\True by obtain⟨r,h,_⟩:=h;exact⟨r,by rw[h];rfl⟩
 refine ZaL 62 (fun _=>True) (fun i (s:Int×Int)=>s.2=(i:Int)) ?_ ?_ _ rfl
 ·rintro i ⟨a,b⟩ hi hb;left;simp only at hb;subst hb;have w2:Vc .i64 ((i:Int)+1)=((i+1:Nat):Int):=by rw[Zae (by omega) (by omega)];omega
  have hs: ∃y,Zqt .i64 z (i:Int)=some y:=by unfold Zqt;rw[if_neg (by omega)];exact⟨_,rfl⟩
  obtain⟨y,hy⟩:=hs;simp only[decide_eq_true (show (i:Int)<62 by omega),cond_true,hy,bind_some,w2]
  cases decide (ZnO .i64 y 1=1) with
  |true=>exact⟨_,rfl,rfl⟩
  |false=>exact⟨_,rfl,rfl⟩
 ·rintro ⟨a,b⟩ hb;simp only at hb;subst hb;exact⟨_,rfl,trivial⟩
theorem Zh2(a b d:Int): ∃r,F81 a b d=some r:=by
 unfold F81
 cases decide (b<=a)<;>exact⟨_,rfl⟩
theorem ZiM(p:Zju){l:List Zdu}{i k:Nat}(hik:i<=k)(hk:k<l.length)(hl:l.length<=100): ∃r,F74 p l (i:Int) (k:Int)=some r:=by
 unfold F74
 suffices h: ∃r,run _ ((0:Int),(0:Int),(i:Int))=some r/\True by
  obtain⟨r,h,_⟩:=h;rw[h];simp only[bind_some];obtain⟨b,hb⟩:=Zrx r.1;obtain⟨c,hc⟩:=Zh2 (l[i]).1 (l[k]).1 p.2.2.2.2.1;rw[hb];simp only[bind_some,Zaf (show i<l.length by omega),Zaf hk,hc]
  cases decide (Vc .i64 (Vc .i64 ((k:Int) - (i:Int))+1)<=p.2.2.1)<;>cases decide (b<=p.2.2.2.1)<;>cases c<;>exact⟨_,rfl⟩
 refine ZaL (k+1 - i) (fun _=>True) (fun c (t:Int×Int×Int)=>t.2.2=((i+c:Nat):Int)) ?_ ?_ _ rfl
 ·rintro c ⟨a,b,d⟩ hc hd;left;simp only at hd;subst hd;have e1:Vc .i64 (((i+c:Nat):Int)+1)=((i+(c+1):Nat):Int):=by rw[Zae (by omega) (by omega)];omega
  simp only[decide_eq_true (show ((i+c:Nat):Int)<=(k:Int) by omega),cond_true,Zaf (show i+c<l.length by omega),bind_some,e1];exact⟨_,rfl,rfl⟩
 ·rintro ⟨a,b,d⟩ hd;simp only at hd;subst hd;rw[decide_eq_false (show¬ ((i+(k+1 - i):Nat):Int)<=(k:Int) by omega)];exact⟨_,rfl,trivial⟩
theorem Ziy(F:Zfl)(p:Zju){l:List Zdu}{i:Nat}(hi:i<l.length)(hl:l.length<=100): ∃r,F78 F p l (i:Int)=some r:=by
 unfold F78;by_cases h0:0<i
 ·have e:Vc .i64 ((i:Int) - 1)=((i - 1:Nat):Int):=by rw[Zae (by omega) (by omega)];omega
  obtain⟨c,hc⟩:=Zh2 (l[i - 1]).2.1 (l[i]).1 F.2.2.1;rw[decide_eq_true (show (0:Int)< (i:Int) by omega),e];simp only[cond_true,Zaf (show i - 1<l.length by omega),Zaf hi,bind_some,hc]
  cases c<;>exact⟨_,rfl⟩
 ·rw[decide_eq_false (show¬ (0:Int)< (i:Int) by omega)];exact⟨_,rfl⟩
abbrev TkT:=Int×Int×Int×Int×Unit
abbrev ZdN:=Bool×Int×List TkT×Unit
def ZgH(n:Nat)(T:List ZdN):Prop:=T.length=n+1/\ ∀j r,T[j]? =some r->r.2.2.1.length+j<=n
theorem ZgH.get{n:Nat}{T:List ZdN}(h:ZgH n T){j:Nat}(hj:j<=n): ∃r,T[j]? =some r/\r.2.2.1.length+j<=n:=by have hl:=h.1;exact⟨_,Va (show j<T.length by omega),h.2 _ _ (Va (show j<T.length by omega))⟩
theorem ZgH.put{n:Nat}{T:List ZdN}(h:ZgH n T){i:Nat}{r:ZdN}(hr:r.2.2.1.length+i<=n):ZgH n (T.set i r):=by
 refine⟨by rw[Vv];exact h.1,fun j s hs=> ?_⟩;by_cases hij:i=j
 ·subst hij;by_cases hi:i<T.length
  ·rw[Vn hi]at hs;obtain rfl:=Option.some.inj hs;exact hr
  ·rw[Vka (by rw[Vv];omega)]at hs;cases hs
 ·rw[Vca hij]at hs;exact h.2 j s hs
theorem ZfL{β σ τ:Type}{o:Option β}{f:β->Option (σ ⊕ τ)}{Q:σ->Prop}(P:β->Prop)(h: ∃r,o=some r/\P r)(k: ∀r,P r-> ∃s,f r=some (.inl s)/\Q s): ∃s,Vb o f=some (.inl s)/\Q s:=by obtain⟨r,rfl,hr⟩:=h;exact k r hr
theorem Zp5(F:Zfl)(hF:F.1.length<=4096)(l:List Zdu)(hl:l.length<=8): ∃R,F76 F l=some R:=by
 unfold F76;have w0:Vc .i64 ((l.length:Int)+1)=((l.length+1:Nat):Int):=by rw[Zae (by omega) (by omega)];omega
 have hg:Zam (decide ((0:Int)<=((l.length+1:Nat):Int)/\((l.length+1:Nat):Int)<=((l.length+1:Nat):Int)/\((l.length+1:Nat):Int)<=(Zan:Int)))=some ():=by
  have hm: (Zan:Int)=549755813888:=by simp [Zan]
  rw[decide_eq_true (by rw[hm];omega)];rfl
 have hrep: ∀o:List ZdN,o=Vj (l.length+1) (false,0,[],())->inb (l.length:Int) o.length=some l.length/\o[l.length]? =some (false,0,[],()):=by rintro o rfl;exact⟨ZaE (by simp),by rw[Vab,if_pos (by omega)]⟩
 obtain⟨r1,r2⟩:=hrep _ rfl;rw[w0];erw[hg];simp only[bind_some,Ve];erw[r1];simp only[bind_some];erw[r2];simp only[bind_some]
 have key: ∀ (o:Option (List ZdN)) (k:List ZdN->Option (Int×List TkT×Bool)),(∃T,o=some T/\ZgH l.length T)->(∀T,ZgH l.length T-> ∃R,k T=some R)-> ∃R,Vb o k=some R:=by rintro o k ⟨T,rfl,h⟩ hk;exact hk T h
 refine key _ _ (ZaL l.length _ (fun c (s:List ZdN×Int)=> ∃T,s=(T,(l.length:Int) - 1 - (c:Int))/\ZgH l.length T) ?_ ?_ _ ?_) ?_
 ·rintro c _ hc ⟨T,rfl,hT⟩;left;obtain⟨i,hi⟩: ∃i:Nat,(l.length:Int) - 1 - (c:Int)=(i:Int):=⟨l.length - 1 - c,by omega⟩;have hil:i<l.length:=by omega
  rw[hi];rw[decide_eq_true (show (0:Int)<=(i:Int) by omega)];simp only[cond_true];refine ZfL (fun T' =>ZgH l.length T') ?_ ?_
  ·refine ZaL (l.length - i) _ (fun m (s:List ZdN×Int)=> ∃T,s=(T,((i+m:Nat):Int))/\ZgH l.length T) ?_ ?_ _ ⟨T,rfl,hT⟩
   ·rintro m _ hm ⟨T,rfl,hT⟩;left;have hk:i+m<l.length:=by omega
    have e1:Vc .i64 (((i+m:Nat):Int)+1)=((i+m+1:Nat):Int):=by rw[Zae (by omega) (by omega)];omega
    have hTl:=hT.1;have hbk:inb ((i+m+1:Nat):Int) T.length=some (i+m+1):=ZaE (by omega);obtain⟨r,hr,hcr⟩:=hT.get (show i+m+1<=l.length by omega);simp only[Zat hk,cond_true,e1,hbk,hr,bind_some]
    cases r.1 with
    |false=>exact⟨_,rfl,T,rfl,hT⟩
    |true=>
     simp only[Vi,cond_false];refine ZfL (fun T' =>ZgH l.length T') ?_ ?_
     ·refine ZaL F.1.length _ (fun p (s:List ZdN×Int)=> ∃T,s=(T,(p:Int))/\ZgH l.length T) ?_ ?_ _ ⟨T,rfl,hT⟩
      ·rintro p _ hp ⟨T,rfl,hT⟩;left;have e2:Vc .i64 ((p:Int)+1)=((p+1:Nat):Int):=by rw[Zae (by omega) (by omega)];omega
       have hTl:=hT.1;have hbk:inb ((i+m+1:Nat):Int) T.length=some (i+m+1):=ZaE (by omega);have hbi:inb (i:Int) T.length=some i:=ZaE (by omega);obtain⟨rk,hrk,hck⟩:=hT.get (show i+m+1<=l.length by omega);obtain⟨ri,hri,hci⟩:=hT.get (show i<=l.length by omega);obtain⟨cv,hcv⟩:=ZiM F.1[p] (show i<=i+m by omega) hk (by omega);obtain⟨pr,hpr⟩:=Ziy F F.1[p] hil (by omega);simp only[Zat hp,cond_true,Zaf hp,bind_some,hcv,hpr,hbk,hbi,hrk,hri,e2]
       cases cv with
       |false=>exact⟨_,rfl,T,rfl,hT⟩
       |true=>
        simp only[Vi,cond_false];refine ZfL (fun _=>True) ?_ fun b _=> ?_
        ·cases ri.1 with
         |false=>exact⟨_,rfl,trivial⟩
         |true=>
          simp only[cond_true]
          cases decide (ri.2.1<Vc .i64 (pr+rk.2.1)) with
          |true=>exact⟨_,rfl,trivial⟩
          |false=>
           simp only[cond_false]
           cases decide (Vc .i64 (pr+rk.2.1)=ri.2.1)<;>exact⟨_,rfl,trivial⟩
        ·cases b with
         |true=>exact⟨_,rfl,T,rfl,hT⟩
         |false=>
          simp only[cond_false]
          have hgd:Zam (decide (Vg [((p:Int),(i:Int),((i+m:Nat):Int),pr,())]+Vg rk.2.2.1<=Zan))=some ():=by rw[decide_eq_true (by simp only[Vda,Vfa,Zan];omega)];rfl
          rw[hgd];simp only[bind_some];exact⟨_,rfl,_,rfl,hT.put (by simp only[Vha,Vda,Vfa];omega)⟩
      ·rintro _ ⟨T,rfl,hT⟩;simp only[Zaw,cond_false];exact⟨_,rfl,hT⟩
     ·intro T' hT';exact⟨_,rfl,T',rfl,hT'⟩
   ·rintro _ ⟨T,rfl,hT⟩;rw[show i+(l.length - i)=l.length by omega];simp only[Zaw,cond_false];exact⟨_,rfl,hT⟩
  ·intro T' hT';have e1:Vc .i64 ((i:Int) - 1)=(l.length:Int) - 1 - ((c+1:Nat):Int):=by rw[Zae (by omega) (by omega)];omega
   rw[e1];exact⟨_,rfl,T',rfl,hT'⟩
 ·rintro _ ⟨T,rfl,hT⟩;rw[decide_eq_false (show¬ (0:Int)<=(l.length:Int) - 1 - (l.length:Int) by omega)];exact⟨_,rfl,hT⟩
 ·refine⟨(Vj (l.length+1) ((false,0,[],()):ZdN)).set l.length (true,0,[],()), ?_,ZgH.put ⟨by simp,fun j r hr=> ?_⟩ (by simp)⟩
  ·rw[Zae (by omega) (by omega)];simp only[Int.natCast_zero,Int.sub_zero]
  ·rw[Vab]at hr;split at hr
   ·obtain rfl:=Option.some.inj hr;simp;omega
   ·cases hr
 ·intro T hT;obtain⟨r,hr,_⟩:=hT.get (Vla _);have hb:inb (0:Int) T.length=some 0:=ZaE (i:=0) (by rw[hT.1];omega);simp only[hb,bind_some,hr];exact⟨_,rfl⟩
end Q
namespace Q
open Tr Go
open Option (bind_some)
def Zq8(x:Zar):Bool:= !x.1&& (decide (0<=x.2.2.2.2.2.2.1) && (decide (x.2.2.2.2.2.2.1<=x.2.2.2.2.2.2.2.1) &&decide (Vc .i64 (x.2.2.2.2.2.2.2.1 - x.2.2.2.2.2.2.1)<=14400)))
def ZjV(s:Int)(x:Zar):Int:=bif Zq8 x then Vc .i64 (Vc .i64 (s+x.2.2.2.2.2.2.2.1) - x.2.2.2.2.2.2.1) else s
def Zfv(L:List Zar):Int:=L.foldl ZjV 0
theorem Zjw      (L : List Zar )(hj : L.length <= 1000) : F79 (L, ()) = some (Zfv   L) := by
  unfold F79;refine Zbi     (fun r => r = Zfv   L) ?_ (fun r hr => by rw [hr]);refine ZaL     L.length _ (fun i (s : Int × Int) => s = ((L.take i).foldl ZjV   0, (i : Int))) ?_ ?_ _ rfl
  · rintro i _ hi rfl
    left
    have e1 : (bif !(L[i]).1 then
 bif decide ((0 : Int) <= (L[i]).2.2.2.2.2.2.1) then
 bif decide ((L[i]).2.2.2.2.2.2.1 <= (L[i]).2.2.2.2.2.2.2.1) then
 some (decide (Vc .i64 ((L[i]).2.2.2.2.2.2.2.1 - (L[i]).2.2.2.2.2.2.1) <= (14400 : Int)))
 else some false
 else some false
 else some false) = some (Zq8   L[i]) := by
      unfold Zq8
      cases (L[i]).1 <;> cases decide ((0 : Int) <= (L[i]).2.2.2.2.2.2.1) <;> cases decide ((L[i]).2.2.2.2.2.2.1 <= (L[i]).2.2.2.2.2.2.2.1) <;> rfl
    have e2 : (L.take (i + 1)).foldl ZjV   0 = ZjV   ((L.take i).foldl ZjV   0) L[i] := by rw [Vh hi, Vta]; rfl
    simp only [Zat    hi, cond_true, Zaf     hi, bind_some, Zaj       hi (show _ <= 9223372036854775807 by omega)];rw [e1, e2];unfold ZjV
    cases Zq8   L[i] <;> exact ⟨_, rfl, rfl⟩
  · rintro _ rfl
    simp only [Zaw    , cond_false];exact ⟨_, rfl, by rw [Vq]; rfl⟩
def Zet(x:Zar):Bool:=x.1&& !Za2 x
def Zal(L:List Zar):Nat:=(L.filter Zet).length
noncomputable def ZrF(F:Zfl)(l:List Zdu):Int:=match F76 F l with
 |some r=>bif r.2.2 then 0 else 34
 |none=>0
noncomputable def ZsG(n:Zas)(L:List Zar):Int:=
 bif !decide ((Zbs n L false []).2=0) then(Zbs n L false []).2 else
 bif decide (8< (Zbs n L false []).1.length) then 33 else ZrF n.2.2.2.2.2.1 (Zbs n L false []).1
theorem ZmJ(F:Zfl)(s:Int): ∃r,F72 F s=some r:=by
 unfold F72
 cases decide ((0:Int)<F.2.2.2.1)<;>exact⟨_,rfl⟩
theorem Zth{n:Zas}(h:Zcr n)(hv:F63 n=some true)(hF:n.2.2.2.2.2.1.1.length<=4096)(q:Za4)(L:List Zar)(hj:L.length<=1000): ∃c,F73 n q (L,())=some c/\c.2.2=ZsG n L:=by
 unfold F73 ZsG;rw[ZqS h hv L hj];simp only[bind_some];generalize Zbs n L false []=R;by_cases h0:R.2=0
 case neg=>rw[decide_eq_false h0];exact⟨_,rfl,rfl⟩
 rw[decide_eq_true h0];simp only[Vi,cond_false];by_cases h8:8<R.1.length
 ·rw[decide_eq_true (show (8:Int)< (R.1.length:Int) by omega),decide_eq_true h8];exact⟨_,rfl,rfl⟩
 rw[decide_eq_false (show¬ (8:Int)< (R.1.length:Int) by omega),decide_eq_false h8];simp only[cond_false];obtain⟨p,hp⟩:=Zp5 n.2.2.2.2.2.1 hF R.1 (by omega);unfold ZrF;rw[hp];simp only[bind_some]
 cases p.2.2 with
 |false=>exact⟨_,rfl,rfl⟩
 |true=>
  simp only[Vi,cond_false,cond_true];obtain⟨c,hc⟩:=ZmJ n.2.2.2.2.2.1 p.1;rw[hc,Zjw L hj];simp only[bind_some];by_cases hL:0<L.length
  ·have e:Vc .i64 ((L.length:Int) - 1)=((L.length - 1:Nat):Int):=by rw[Zae (by omega) (by omega)];omega
   have i0:idx L (0:Int)=some (lg L 0):=Zfb hL;rw[decide_eq_true (show (0:Int)< (L.length:Int) by omega),e,i0,Zfb (show L.length - 1<L.length by omega)];exact⟨_,rfl,rfl⟩
  ·rw[decide_eq_false (show¬ (0:Int)< (L.length:Int) by omega)];exact⟨_,rfl,rfl⟩
def Zgh(L:List Zar)(i:Nat):Bool:=(lg L i).1&& (decide (i+1=L.length) || !Za2 (lg L (i+1)))
def ZbV(n:Zas)(q:Za4)(x:Zar):Int:=bif !(cl (ZaY n x) x.2.2.2.1).2.2.2.2.1 then 26 else bif !Zky n q x.2.2.2.2.2.1 then 29 else 0
def ZiN(n:Zas)(q:Za4)(L:List Zar)(i:Nat):Int:=bif decide (i=0) then Zg4 n q L else Zbj n (lg L (i - 1)) (lg L i)
def atE(n:Zas)(q:Za4)(L:List Zar)(i:Nat):Int:=
 bif !decide (ZhP n q (lg L i)=0) then ZhP n q (lg L i) else
 bif !decide (ZiN n q L i=0) then ZiN n q L i else
 bif Zgh L i then ZbV n q (lg L i) else 0
theorem Ziz{n:Zas}{q:Za4}{x:Zar}(h:ZhP n q x=0):inR x.2.2.2.2.1 n.1.length=true/\inR x.2.2.2.2.2.1 n.1.length=true/\(x.1=true->ZaN n x=true/\ZjT n q x=0)/\(x.1=false->ZhS n q x=0):=by
 unfold ZhP at h;rw[Zau (by omega),Zau (by omega),Zau (by omega)]at h;obtain⟨h1,h2,_,h3⟩:=h;rw[Vp]at h1;refine⟨by simpa using h1.1,by simpa using h1.2,fun e=> ?_,fun e=> ?_⟩
 ·rw[e]at h2 h3;exact⟨by simpa using h2,h3⟩
 ·rw[e]at h3;exact h3
theorem Zm5{n:Zas}(hS:Zcr n)(hp:n.2.2.2.2.1.length<=4096){q:Za4}(hq:inR q.1 n.1.length=true){L:List Zar}{i:Nat}(hi:i<L.length)(hj:L.length<=1000):F90 n q (L,()) (i:Int)=some (atE n q L i):=by
 unfold F90 atE;rw[show idx (L,()).1 (i:Int)=some (lg L i) from Zfb hi];simp only[bind_some];rw[Zwg hS hp q];simp only[bind_some];by_cases h0:ZhP n q (lg L i)=0
 case neg=>rw[decide_eq_false h0];rfl
 rw[decide_eq_true h0];simp only[Vi,cond_false];obtain⟨z1,z2,z3,z4⟩:=Ziz h0
 have e1: (bif decide ((i:Int)=(0:Int)) then Vb (F93 n q (L,())) fun x2=>some x2
 else Vb (idx L (Vc .i64 ((i:Int) - (1:Int)))) fun x3=>Vb (F94 n x3 (lg L i)) fun x4=>some x4)=some (ZiN n q L i):=by
  unfold ZiN;by_cases hi0:i=0
  ·subst hi0;rw[Zp6 hi hq];rfl
  ·have e:Vc .i64 ((i:Int) - 1)=((i - 1:Nat):Int):=by rw[Zae (by omega) (by omega)];omega
   rw[decide_eq_false (show¬ (i:Int)=0 by omega),decide_eq_false hi0,e,Zfb (show i - 1<L.length by omega)];simp only[cond_false,bind_some];rw[Zkr (by have:=hS.links;omega) z1];rfl
 rw[e1];simp only[bind_some];refine ZfX ?_;have w2:Vc .i64 ((i:Int)+1)=((i+1:Nat):Int):=by rw[Zae (by omega) (by omega)];omega
 rw[w2]
 have e2: (bif (lg L i).1 then bif decide (((i+1:Nat):Int)=(↑(Vg L):Int)) then some true
 else Vb (idx L ((i+1:Nat):Int)) fun x6=>some !x6.2.2.2.2.2.2.2.2.1
 else some false)=some (Zgh L i):=by
  unfold Zgh;rw[show decide (((i+1:Nat):Int)=(L.length:Int))=decide (i+1=L.length) from decide_eq_decide.2 (by omega)];by_cases h1:i+1=L.length
  ·rw[decide_eq_true h1]
   cases (lg L i).1<;>rfl
  ·rw[decide_eq_false h1,Zfb (show i+1<L.length by omega)]
   cases (lg L i).1<;>rfl
 rw[e2];simp only[bind_some]
 cases htl:Zgh L i with
 |false=>rfl
 |true=>
  have hr: (lg L i).1=true:=by unfold Zgh at htl;rw[Vd]at htl;exact htl.1
  obtain⟨x1,_,_,x4⟩:=Zmi (z3 hr).1;simp only[cond_true];rw[x1];simp only[bind_some];rw[x4];simp only[bind_some];rw[ZmN q z2];unfold ZbV
  cases (cl (ZaY n (lg L i)) (lg L i).2.2.2.1).2.2.2.2.1<;>cases Zky n q (lg L i).2.2.2.2.2.1<;>rfl
noncomputable def ZtF(n:Zas)(q:Za4)(L:List Zar):Int:=
 bif !decide ((lg L (L.length - 1)).2.2.2.2.2.1=q.2.1) then 24 else
 bif q.2.2.2.1&&decide (q.2.2.1< (lg L (L.length - 1)).2.2.2.2.2.2.2.1) then 10 else
 bif decide (q.2.2.2.2.1< (Zal L:Int)) then 33 else
 bif decide (q.2.2.2.2.2.1<Zfv L) then 32 else ZsG n L
theorem ZvB{n:Zas}(hS:Zcr n)(hv:F63 n=some true)(hF:n.2.2.2.2.2.1.1.length<=4096)(q:Za4){L:List Zar}(h0:0<L.length)(hj:L.length<=1000):F91 n q (L,())=some (ZtF n q L):=by
 unfold F91 ZtF;have e:Vc .i64 ((L.length:Int) - 1)=((L.length - 1:Nat):Int):=by rw[Zae (by omega) (by omega)];omega
 simp only[e,Zfb (show L.length - 1<L.length by omega),bind_some];refine ZfX (ZfV ?_);refine Zbi (fun r=>r=(Zal L:Int)) ?_ ?_
 ·refine ZaL L.length _ (fun i (s:Int×Int)=>s=((Zal (L.take i):Int),(i:Int))) ?_ ?_ _ rfl
  ·rintro i _ hi rfl;left
   have hb:Zal (L.take i)<=L.length:=by unfold Zal;exact Vs (Vz _ _) (by rw[Vt];omega)
   have e1: (bif (L[i]).1 then some !(L[i]).2.2.2.2.2.2.2.2.1 else some false)=some (Zet L[i]):=by
    unfold Zet Za2
    cases (L[i]).1<;>rfl
   have e2:Zal (L.take (i+1))=Zal (L.take i)+(if Zet L[i] then 1 else 0):=by
    unfold Zal;rw[Vh hi,Vga,Vha]
    cases hr:Zet L[i]<;>simp [hr]
   have w3:Vc .i64 ((Zal (L.take i):Int)+1)=((Zal (L.take i)+1:Nat):Int):=by rw[Zae (by omega) (by omega)];omega
   simp only[Zat hi,cond_true,Zaf hi,bind_some,Zaj hi (show _<=9223372036854775807 by omega),w3];rw[e1,e2]
   cases Zet L[i]<;>exact⟨_,rfl,rfl⟩
  ·rintro _ rfl;simp only[Zaw,cond_false];exact⟨_,rfl,by rw[Vq]⟩
 ·rintro _ rfl;refine ZfX ?_;rw[Zjw L hj];simp only[bind_some];refine ZfX ?_;obtain⟨c,h1,h2⟩:=Zth hS hv hF q L hj;rw[h1];exact congrArg some h2
noncomputable def ZbA(n:Zas)(q:Za4)(L:List Zar):Int×Int:=
 bif !decide (ZkJ n q=0) then(0,ZkJ n q) else
 bif decide (L.length=0) then(bif !decide (q.1=q.2.1) then(0,24) else(0,0)) else
 match Zay L.length (atE n q L) with
 |some i=>((i:Int),atE n q L i)
 |none=>bif !decide (ZtF n q L=0) then(((L.length - 1:Nat):Int),ZtF n q L) else(0,0)
open Classical in
theorem ZqL{n:Zas}(hf:Fit n)(hF:n.2.2.2.2.2.1.1.length<=4096)(q:Za4)(L:List Zar)(hj:L.length<=1000):F84 n q (L,())=some (ZbA n q L):=by
 unfold F84 ZbA;rw[ZuR hf q];simp only[bind_some];by_cases h0:ZkJ n q=0
 case neg=>rw[decide_eq_false h0];rfl
 obtain⟨hW,hq⟩:=ZfE.1 h0;have hS:=hW.sound;have hv:F63 n=some true:=by rw[ZgC hf,decide_eq_true hW]
 have hq1:inR q.1 n.1.length=true:=by unfold qB at hq;rw[Vd]at hq;exact hq.1
 rw[decide_eq_true h0];simp only[Vi,cond_false];by_cases hL:L.length=0
 ·rw[decide_eq_true (show (L.length:Int)=0 by omega),decide_eq_true hL]
  cases decide (q.1=q.2.1)<;>rfl
 rw[decide_eq_false (show¬ (L.length:Int)=0 by omega),decide_eq_false hL];simp only[cond_false];rw[Za7 (n:=L.length) (fun i (s:Int)=>s=(i:Int)) (atE n q L) (fun i=> .inr ((i:Int),atE n q L i)) (.inl ()) ?_ ?_ ?_ (0:Int) rfl]
 ·unfold pick
  cases Zay L.length (atE n q L) with
  |some i=>rfl
  |none=>
   simp only[bind_some];show (Vb (F91 n q (L,())) _)=_;rw[ZvB hS hv hF q (by omega) hj];have e:Vc .i64 ((L.length:Int) - 1)=((L.length - 1:Nat):Int):=by rw[Zae (by omega) (by omega)];omega
   rw[e];simp only[bind_some]
   cases decide (ZtF n q L=0)<;>rfl
 ·rintro i _ hi rfl hc;refine⟨((i+1:Nat):Int), ?_,rfl⟩;simp only[Zat hi,cond_true,Zaj hi (show _<=9223372036854775807 by omega)];rw[Zm5 hS hf.paths hq1 hi hj];simp only[bind_some];rw[hc];rfl
 ·rintro i _ hi rfl hc;simp only[Zat hi,cond_true];rw[Zm5 hS hf.paths hq1 hi hj];simp only[bind_some];rw[decide_eq_false hc];rfl
 ·rintro _ rfl;simp only[Zaw,cond_false]
open Classical in
theorem Zgb(n:Zas)(q:Za4)(L:List Zar): (ZbA n q L).2=0↔ZkJ n q=0/\((L.length=0/\q.1=q.2.1)\/(L.length≠0/\(∀i,i<L.length->atE n q L i=0)/\ZtF n q L=0)):=by
 unfold ZbA;by_cases h0:ZkJ n q=0
 case neg=>rw[decide_eq_false h0];simp [h0]
 rw[decide_eq_true h0];simp only[Vi,cond_false];by_cases hL:L.length=0
 ·rw[decide_eq_true hL];by_cases he:q.1=q.2.1
  ·rw[decide_eq_true he];simp [h0,hL,he]
  ·rw[decide_eq_false he];simp [h0,hL,he]
 ·rw[decide_eq_false hL];simp only[cond_false]
  cases hb:Zay L.length (atE n q L) with
  |some i=>
   have hi:=Zby hb;simp only;constructor
   ·intro e;exact absurd e hi.2
   ·rintro ⟨_,⟨e,_⟩ | ⟨_,e,_⟩⟩
    ·exact absurd e hL
    ·exact e i hi.1
  |none=>
   have ha:=Zaz.1 hb;simp only;by_cases he:ZtF n q L=0
   ·rw[decide_eq_true he];simp [h0,hL,he];exact ha
   ·rw[decide_eq_false he];simp [h0,hL,he]
theorem Zic{n:Zas}(hf:Fit n)(hF:n.2.2.2.2.2.1.1.length<=4096)(q:Za4)(L:List Zar)(hj:L.length<=1000):F86 n q (L,())=some (decide ((ZbA n q L).2=0)):=by unfold F86;rw[ZqL hf hF q L hj];rfl
end Q
namespace Q
open Tr Go
open Option (bind_some)
def Zai(n:Zas)(i:Nat):List Zbe:=(rn n (i:Int)).2.2.2.2.2.2.2.1
def Zac(n:Zas)(i c:Nat):Zbe:=cl (Zai n i) (c:Int)
def ZcU(n:Zas)(i:Nat):Bool:=(rn n (i:Int)).2.2.2.2.2.2.1
def ZdZ(s t a b:Int):Zar:=(false,0,0,0,s,t,a,b,false,())
def ZbB(n:Zas)(i b c:Nat)(st:Bool):Zar:=(true,(i:Int),(b:Int),(c:Int),(Zac n i b).1,(Zac n i c).1,(Zac n i b).2.2.1,(Zac n i c).2.1,st,())
def isLink(n:Zas)(i c j d:Nat)(st:Bool):Prop:=((i:Int),(c:Int),(j:Int),(d:Int),st,())∈n.2.2.2.1
structure Zcq (n:Zas):Prop where
 sound:Zcr n
 change: ∀s:Int,0<=s->s< (n.1.length:Int)->0<=(Zci n s).2.2.2.1/\(Zci n s).2.2.2.1<=3600
 path: ∀p∈n.2.2.2.2.1,(0<=p.1/\p.1< (n.1.length:Int))/\(0<=p.2.1/\p.2.1< (n.1.length:Int))/\p.1≠p.2.1/\1<=p.2.2.1/\p.2.2.1<=14400
 link: ∀x∈n.2.2.2.1, ∃ (i c j d:Nat) (st:Bool),x=((i:Int),(c:Int),(j:Int),(d:Int),st,())/\i<n.2.2.1.length/\j<n.2.2.1.length/\i≠j/\c< (Zai n i).length/\d< (Zai n j).length/\
  (Zac n i c).1=(Zac n j d).1/\(st=true->c+1=(Zai n i).length/\d=0)
theorem Zen{n:Zas}{i:Nat}(hi:i<n.2.2.1.length):Zai n i=(n.2.2.1[i]).2.2.2.2.2.2.2.1:=by unfold Zai rn;rw[Ve,Zak hi]
theorem Zjs{n:Zas}{i c:Nat}(hc:c< (Zai n i).length):Zac n i c=(Zai n i)[c]:=by unfold Zac cl;rw[Ve,Zak hc]
theorem Zqi{n:Zas}{i:Nat}(h:Zcv n i=0): (cl (rn n (lk n i).1).2.2.2.2.2.2.2.1 (lk n i).2.1).1=(cl (rn n (lk n i).2.2.1).2.2.2.2.2.2.2.1 (lk n i).2.2.2.1).1/\
  ((lk n i).2.2.2.2.1=true->(lk n i).2.1+1=((rn n (lk n i).1).2.2.2.2.2.2.2.1.length:Int)/\(lk n i).2.2.2.1=0):=by
 unfold Zcv at h;simp only at h;by_cases b1:ZpO n (lk n i)=true
 ·rw[if_pos b1]at h;omega
 rw[if_neg b1]at h;by_cases b2:Zq4 n (lk n i)=true
 ·rw[if_pos b2]at h;omega
 rw[if_neg b2]at h;split at h
 ·omega
 split at h
 ·omega
 split at h
 ·omega
 next h1 h2 h3=>
  refine⟨Vua.1 h1,fun hs=>⟨?_, ?_⟩⟩
  ·exact Vua.1 fun e=>h2 ⟨hs,e⟩
  ·exact Vua.1 fun e=>h3 ⟨hs,e⟩
theorem Whole.ok{n:Zas}(h:Whole n):Zcq n:=by
 refine⟨h.sound,fun s h0 h1=> ?_,fun p hp=> ?_,fun x hx=> ?_⟩
 ·have s0:=h.s;unfold Zig at s0;split at s0
  ·exact absurd s0 (by decide)
  obtain⟨j,rfl⟩: ∃j:Nat,s=(j:Int):=⟨s.toNat,by omega⟩;have hj:j<n.1.length:=by omega
  have hz:=Zjf s0 j hj;unfold Zhb at hz;have:=(Zcm.1 hz).2.2;unfold Zci;rw[Ve];generalize hg: (n.1[j]?).getD Q.s0=y at*;have e: (n.1[j]?).getD ([],0,false,0,())=y:=by rw[<-hg];rfl
  rw[e]at this;omega
 ·obtain⟨j,hj,rfl⟩:=Vy hp;obtain⟨h1,h2,_⟩:=ZcG (Zaz.1 h.q j hj);rw[Zak hj]at h1 h2;unfold ZdC at h1;unfold Zdy at h2;simp only[Vp,Vk,decide_eq_false_iff_not,decide_eq_true_eq]at h1 h2;omega
 ·obtain⟨j,hj,rfl⟩:=Vy hx;have hz:=Zaz.1 h.g j hj;obtain⟨h1,h2,_⟩:=ZeG hz;obtain⟨h3,h4⟩:=Zqi hz;have e:lk n j=n.2.2.2.1[j]:=by unfold lk;rw[Zak hj]
  rw[e]at h1 h2 h3 h4;generalize n.2.2.2.1[j]=x at*;unfold ZpO at h1;unfold Zq4 at h2;unfold inR at h1 h2;simp only[Vp,Vk,decide_eq_false_iff_not,Vd,decide_eq_true_eq]at h1 h2;obtain⟨x1,x2,x3,x4,x5,x6⟩:=x;simp only at h1 h2 h3 h4;obtain⟨i,rfl⟩: ∃i:Nat,x1=(i:Int):=⟨x1.toNat,by omega⟩;obtain⟨c,rfl⟩: ∃i:Nat,x2=(i:Int):=⟨x2.toNat,by omega⟩;obtain⟨k,rfl⟩: ∃i:Nat,x3=(i:Int):=⟨x3.toNat,by omega⟩;obtain⟨d,rfl⟩: ∃i:Nat,x4=(i:Int):=⟨x4.toNat,by omega⟩;refine⟨i,c,k,d,x5,rfl,by omega,by omega,by omega, ?_, ?_,h3,fun hs=> ?_⟩
  ·unfold Zai;omega
  ·unfold Zai;omega
  ·obtain⟨a,b⟩:=h4 hs;unfold Zai;omega
theorem Zcq.isLink{n:Zas}(h:Zcq n){i c j d:Nat}{st:Bool}(hl:isLink n i c j d st):i<n.2.2.1.length/\j<n.2.2.1.length/\i≠j/\c< (Zai n i).length/\d< (Zai n j).length/\(Zac n i c).1=(Zac n j d).1/\(st=true->c+1=(Zai n i).length/\d=0):=by obtain⟨i',c',j',d',st',e,h1⟩:=h.link _ hl;simp only[Vva,Vna]at e;obtain⟨rfl,rfl,rfl,rfl,rfl,_⟩:=e;exact h1
theorem Zcq.stop{n:Zas}(h:Zcq n){i c:Nat}(hi:i<n.2.2.1.length)(hc:c< (Zai n i).length):0<=(Zac n i c).1/\(Zac n i c).1< (n.1.length:Int):=by rw[Zjs hc];refine h.sound.call _ (Vf hi) _ ?_;simp only[Zen hi];exact Vf _
theorem Zcq.time{n:Zas}(h:Zcq n){i c:Nat}(hi:i<n.2.2.1.length)(hc:c< (Zai n i).length):0<=(Zac n i c).2.1/\(Zac n i c).2.1<=(Zac n i c).2.2.1/\(Zac n i c).2.2.1<=3155932800:=by have ht:=h.sound.time _ (Vf hi);rw[Zjs hc];simp only[Zen hi]at hc ⊢;have:=ht c hc;omega
inductive Zmt where
 |rdy (k:Nat) (s r:Int)
 |brd (k:Nat) (i c:Nat) (st:Bool)
 |lnk (k:Nat) (i c:Nat)
 |on (k:Nat) (i c:Nat)
 |rid (k:Nat) (s t:Int)
 |arr (k:Nat) (s t:Int)
inductive Der (n:Zas) (s0 t0 w:Int):Zmt->List Zar->Prop
 |init:Der n s0 t0 w (.rdy 0 s0 (t0+w)) []
 |here:Der n s0 t0 w (.arr 0 s0 t0) []
 |rdyW {p:Zb2} :p∈n.2.2.2.2.1->p.1=s0->t0+p.2.2.1<=3155932800->Der n s0 t0 w (.rdy 0 p.2.1 (t0+p.2.2.1)) [ZdZ s0 p.2.1 t0 (t0+p.2.2.1)]
 |arrW {p:Zb2} :p∈n.2.2.2.2.1->p.1=s0->t0+p.2.2.1<=3155932800->Der n s0 t0 w (.arr 0 p.2.1 (t0+p.2.2.1)) [ZdZ s0 p.2.1 t0 (t0+p.2.2.1)]
 |board {k:Nat}{s r:Int}{js:List Zar}{i c:Nat} :Der n s0 t0 w (.rdy k s r) js->i<n.2.2.1.length->c< (Zai n i).length->ZcU n i=false->(Zac n i c).1=s->(Zac n i c).2.2.2.1=true->r<=(Zac n i c).2.2.1->Der n s0 t0 w (.brd (k+1) i c false) js
 |on {k i b c:Nat}{st:Bool}{js:List Zar} :Der n s0 t0 w (.brd k i b st) js->b<c->c< (Zai n i).length->Der n s0 t0 w (.on k i c) (js++[ZbB n i b c st])
 |stay {k i c j d:Nat}{js:List Zar} :Der n s0 t0 w (.on k i c) js->isLink n i c j d true->(Zac n i c).2.1<=(Zac n j d).2.2.1->ZcU n j=false->Der n s0 t0 w (.brd k j d true) js
 |link {k i c j d:Nat}{js:List Zar} :Der n s0 t0 w (.on k i c) js->(Zac n i c).2.2.2.2.1=true->isLink n i c j d false->(Zac n i c).2.1<=(Zac n j d).2.2.1->(Zac n j d).2.2.2.1=true->Der n s0 t0 w (.lnk (k+1) j d) js
 |linked {k j d:Nat}{js:List Zar} :Der n s0 t0 w (.lnk k j d) js->ZcU n j=false->Der n s0 t0 w (.brd k j d false) js
 |ride {k i c:Nat}{js:List Zar} :Der n s0 t0 w (.on k i c) js->(Zac n i c).2.2.2.2.1=true->Der n s0 t0 w (.rid k (Zac n i c).1 (Zac n i c).2.1) js
 |change {k:Nat}{s t:Int}{js:List Zar} :Der n s0 t0 w (.rid k s t) js->Der n s0 t0 w (.rdy k s (t+(Zci n s).2.2.2.1)) js
 |rdyV {k:Nat}{s t:Int}{js:List Zar}{p:Zb2} :Der n s0 t0 w (.rid k s t) js->p∈n.2.2.2.2.1->p.1=s->t+p.2.2.1<=3155932800->Der n s0 t0 w (.rdy k p.2.1 (t+p.2.2.1)) (js++[ZdZ s p.2.1 t (t+p.2.2.1)])
 |arrR {k:Nat}{s t:Int}{js:List Zar} :Der n s0 t0 w (.rid k s t) js->Der n s0 t0 w (.arr k s t) js
 |arrV {k:Nat}{s t:Int}{js:List Zar}{p:Zb2} :Der n s0 t0 w (.rid k s t) js->p∈n.2.2.2.2.1->p.1=s->t+p.2.2.1<=3155932800->Der n s0 t0 w (.arr k p.2.1 (t+p.2.2.1)) (js++[ZdZ s p.2.1 t (t+p.2.2.1)])
def Zmt.ok(n:Zas):Zmt->Prop
 | .rdy _ s r=>(0<=s/\s< (n.1.length:Int))/\0<=r/\r<=3155932800+3600
 | .brd k i c _=>0<k/\i<n.2.2.1.length/\c< (Zai n i).length/\ZcU n i=false
 | .lnk k i c=>0<k/\i<n.2.2.1.length/\c< (Zai n i).length
 | .on k i c=>0<k/\i<n.2.2.1.length/\c< (Zai n i).length/\ZcU n i=false
 | .rid k s t=>0<k/\(0<=s/\s< (n.1.length:Int))/\0<=t/\t<=3155932800
 | .arr _ s t=>(0<=s/\s< (n.1.length:Int))/\0<=t/\t<=3155932800
theorem Der.ok{n:Zas}(h:Zcq n){s0 t0 w:Int}(hs:0<=s0/\s0< (n.1.length:Int))(ht:0<=t0/\t0<=3155932800)(hw:0<=w/\w<=3600){f:Zmt}{js:List Zar}(d:Der n s0 t0 w f js):f.ok n:=by
 induction d with
 |init=>exact⟨hs,by omega,by omega⟩
 |here=>exact⟨hs,ht⟩
 |rdyW hp _ hm=>have:=h.path _ hp;exact⟨this.2.1,by omega,by omega⟩
 |arrW hp _ hm=>have:=h.path _ hp;exact⟨this.2.1,by omega,by omega⟩
 |board _ hi hc hx _ _ _ _=>exact⟨Vpb _,hi,hc,hx⟩
 |on _ _ hc ih=>exact⟨ih.1,ih.2.1,hc,ih.2.2.2⟩
 |stay _ hl _ hx ih=>have:=h.isLink hl;exact⟨ih.1,this.2.1,this.2.2.2.2.1,hx⟩
 |link _ _ hl _ _ _=>have:=h.isLink hl;exact⟨Vpb _,this.2.1,this.2.2.2.2.1⟩
 |linked _ hx ih=>exact⟨ih.1,ih.2.1,ih.2.2,hx⟩
 |ride _ _ ih=>
  have:=h.time ih.2.1 ih.2.2.1
  exact⟨ih.1,h.stop ih.2.1 ih.2.2.1,by omega,by omega⟩
 |change _ ih=>have:=h.change _ ih.2.1.1 ih.2.1.2;exact⟨ih.2.1,by have:=ih.2.2;omega,by have:=ih.2.2;omega⟩
 |rdyV _ hp _ hm ih=>have:=h.path _ hp;exact⟨this.2.1,by have:=ih.2.2;omega,by omega⟩
 |arrR _ ih=>exact ih.2
 |arrV _ hp _ hm ih=>have:=h.path _ hp;exact⟨this.2.1,by have:=ih.2.2;omega,by omega⟩
abbrev ZqI:=Zar×Int×Unit
inductive Ch (lb:List ZqI):Int->List Zar->Prop
 |nil:Ch lb (-1) []
 |cons {l:Nat}{x:Zar}{p:Int}{js:List Zar} :lb[l]? =some (x,p,())->p< (l:Int)->Ch lb p js->Ch lb (l:Int) (js++[x])
theorem Ch.lt{lb:List ZqI}{l:Int}{js:List Zar}(h:Ch lb l js): -1<=l/\l< (lb.length:Int):=by
 cases h with
 |nil=>omega
 |cons h _ _=>
  have:=(Vw.1 h).1;omega
theorem Ch.app{lb:List ZqI}{l:Int}{js:List Zar}(h:Ch lb l js)(m:List ZqI):Ch (lb++m) l js:=by
 induction h with
 |nil=>exact .nil
 |cons h1 h2 _ ih=>
  have hl:=(Vw.1 h1).1;exact .cons (by rw[List.getElem?_append_left hl];exact h1) h2 ih
theorem Ch.new{lb:List ZqI}{p:Int}{js:List Zar}(h:Ch lb p js)(x:Zar):Ch (lb++[(x,p,())]) (lb.length:Int) (js++[x]):=
 .cons (by simp) h.lt.2 (h.app _)
end Q
namespace Q
open Tr Go
open Option (bind_some)
def Zbv(q:Za4):Za4:=(q.1,q.2.1,q.2.2.1,q.2.2.2.1,q.2.2.2.2.1,q.2.2.2.2.2.1,false,false,0,q.2.2.2.2.2.2.2.2.2)
theorem Zdi{n:Zas}{q:Za4}{x:Zar} :ZjT n q x=0↔((cl (ZaY n x) x.2.2.1).1=x.2.2.2.2.1/\(cl (ZaY n x) x.2.2.2.1).1=x.2.2.2.2.2.1)/\((cl (ZaY n x) x.2.2.1).2.2.1=x.2.2.2.2.2.2.1/\(cl (ZaY n x) x.2.2.2.1).2.1=x.2.2.2.2.2.2.2.1)/\Zt7 n q (rn n x.2.1)=true/\(Za2 x=true\/(cl (ZaY n x) x.2.2.1).2.2.2.1=true/\Zky n q x.2.2.2.2.1=true):=by
 unfold ZjT;rw[Zau (by omega),Zau (by omega),Zau (by omega),Zau (by omega),Zau (by omega),Zau (by omega),Zau (by omega),Zau (by omega)];unfold Zt7 Tr.useB Zum;rw[Vp,Vp];simp only[Vk,decide_eq_true_eq];generalize (rn n x.2.1).2.2.2.2.2.2.1=b1;generalize (rn n x.2.1).2.2.2.2.2.1=b2;generalize q.2.2.2.2.2.2.1=b3;generalize (Zuh n (rn n x.2.1)).2.2.1=b4;generalize q.2.2.2.2.2.2.2.1=b5;generalize (decide (q.2.2.2.2.2.2.2.2.1=(0:Int)) ||decide (ZnO .i64 (Vwb q.2.2.2.2.2.2.2.2.1 (2 ^ min (Vma (Zuh n (rn n x.2.1)).2.1) 64)) 1=1))=b6;generalize Za2 x=b7;generalize (cl (ZaY n x) x.2.2.1).2.2.2.1=b8;generalize Zky n q x.2.2.2.2.1=b9
 generalize ((cl (ZaY n x) x.2.2.1).1=x.2.2.2.2.1/\(cl (ZaY n x) x.2.2.2.1).1=x.2.2.2.2.2.1)=p1;generalize ((cl (ZaY n x) x.2.2.1).2.2.1=x.2.2.2.2.2.2.1/\(cl (ZaY n x) x.2.2.2.1).2.1=x.2.2.2.2.2.2.2.1)=p2
 have key: ((b1=false/\(b3&& !b2)=false/\(b5&& !b4)=false/\(!b6)=false/\(!b7&& !b8)=false/\(!b7&& !b9)=false/\(0:Int)=0)↔((!b1&& ((b2|| !b3) && ((b4|| !b5) &&b6)))=true/\(b7=true\/b8=true/\b9=true))):=by
  cases b1<;>cases b2<;>cases b3<;>cases b4<;>cases b5<;>cases b6<;>cases b7<;>cases b8<;>cases b9<;>simp
 exact and_congr_right fun _=>and_congr_right fun _=>by
  first
  |exact key
  | (simp only[Vk]at key ⊢;exact key)
theorem Zt2(n:Zas)(q:Za4):ZbO n q c0=c0:=by
 unfold ZbO
 split<;>rfl
theorem ZkZ(n:Zas)(q:Za4)(l:List Zbe)(a:Int):cl (l.map (ZbO n q)) a=ZbO n q (cl l a):=by
 unfold cl;rw[Vaa]
 cases l[a.toNat]? with
 |none=>exact(Zt2 n q).symm
 |some c=>rfl
theorem Zlw(n:Zas)(q:Za4)(c:Zbe):ZbO n q c=(c.1,c.2.1,c.2.2.1,c.2.2.2.1&&Zky n q c.1,c.2.2.2.2.1&&Zky n q c.1,()):=by
 unfold ZbO
 cases h:Zky n q c.1 with
 |true=>simp
 |false=>simp
theorem ZeP(n:Zas)(q:Za4)(x:Zar):ZaY (ZaQ n q) x=(ZaY n x).map (ZbO n q):=Zo8 n q x.2.1
theorem Zh4(n:Zas)(q:Za4)(x:Zar):ZaN (ZaQ n q) x=ZaN n x:=by have hl: (ZaQ n q).2.2.1.length=n.2.2.1.length:=Vr ..;unfold ZaN;rw[ZeP,Vr,hl]
theorem Zo5{n:Zas}{q:Za4}{x:Zar}(hx:ZaN n x=true):rn (ZaQ n q) x.2.1=ZcL n q (rn n x.2.1):=by
 unfold ZaN at hx;rw[Vd]at hx;have h:=hx.1;unfold inR at h;simp only[Vd,decide_eq_true_eq]at h;have hl:x.2.1.toNat<n.2.2.1.length:=by omega
 unfold rn;show ((n.2.2.1.map (ZcL n q))[x.2.1.toNat]?).getD u0=_;rw[Vaa,Va hl];rfl
theorem Zhu(n:Zas)(q:Za4)(s:Int):Zky n (Zbv q) s=true:=by unfold Zky Zbv;simp
theorem ZoW(n:Zas)(q:Za4)(r:Zlk):Zt7 n (Zbv q) r= !r.2.2.2.2.2.2.1:=by unfold Zt7 Tr.useB Zbv;simp
theorem Zqj{n:Zas}{q:Za4}{x:Zar}(hx:ZaN n x=true):ZjT (ZaQ n q) (Zbv q) x=0↔ZjT n q x=0:=by rw[Zdi,Zdi,ZeP,ZkZ,ZkZ,Zlw,Zlw,Zo5 hx,ZoW,Zhu];have hc: (ZcL n q (rn n x.2.1)).2.2.2.2.2.2.1= !Zt7 n q (rn n x.2.1):=rfl;rw[hc,Bool.not_not];refine and_congr_right fun h1=>and_congr_right fun _=>and_congr_right fun _=> ?_;simp only[Vd];rw[h1.1];simp
theorem Zqz{α:Type}(p f:α->Bool)(l:List α): (l.filter p).any f=l.any fun x=>f x&&p x:=by
 induction l with
 |nil=>rfl
 |cons x l ih=>
  cases hp:p x with
  |true=>rw[List.filter_cons_of_pos hp,Vkb,Vkb,ih,hp,Vac]
  |false=>rw[List.filter_cons_of_neg (by simp [hp]),Vkb,ih,hp,Vxb,Vwa]
theorem Zej{n:Zas}{q:Za4}{x:Zar} :ZhS n q x=0↔(n.2.2.2.2.1.any fun p=>ZdG x p&&ZhM q p)=true:=by
 unfold ZhS
 cases (n.2.2.2.2.1.any fun p=>ZdG x p&&ZhM q p) with
 |true=>simp
 |false=>cases n.2.2.2.2.1.any (ZdG x)<;>simp
theorem Zqm{n:Zas}{q:Za4}{x:Zar} :ZhS (ZaQ n q) (Zbv q) x=0↔ZhS n q x=0:=by
 rw[Zej,Zej]
 have hfr: ∀p:Zb2,ZhM (Zbv q) p=true:=by intro p;unfold ZhM Zbv;simp
 show ((Zfu n q).any fun p=>ZdG x p&&ZhM (Zbv q) p)=true↔_;simp only[hfr,Vac];unfold Zfu ZhM
 cases q.2.2.2.2.2.2.1 with
 |true=>simp only[if_true];rw[Zqz];simp
 |false=>simp
theorem ZsX{n:Zas}{q:Za4}{x:Zar} :ZhP (ZaQ n q) (Zbv q) x=0↔ZhP n q x=0:=by
 have hz: ∀ (n:Zas) (q:Za4),ZhP n q x=0↔(!inR x.2.2.2.2.1 n.1.length|| !inR x.2.2.2.2.2.1 n.1.length)=false/\(bif x.1 then !ZaN n x else !decide (x.2.1=0) || (!decide (x.2.2.1=0) || (!decide (x.2.2.2.1=0) ||Za2 x)))=false/\(!decide (0<=x.2.2.2.2.2.2.1/\x.2.2.2.2.2.2.1<=3155932800) || !decide (0<=x.2.2.2.2.2.2.2.1/\x.2.2.2.2.2.2.2.1<=3155932800))=false/\(bif x.1 then ZjT n q x else ZhS n q x)=0:=by intro n q;unfold ZhP;rw[Zau (by omega),Zau (by omega),Zau (by omega)]
 rw[hz,hz,Zh4];refine and_congr_right fun _=>and_congr_right fun h2=>and_congr_right fun _=> ?_
 cases hx:x.1 with
 |true=>
  rw[hx]at h2
  exact Zqj (by simpa using h2)
 |false=>exact Zqm
theorem ZoQ{n:Zas}{q:Za4}{L:List Zar}{i:Nat} :atE (ZaQ n q) (Zbv q) L i=0↔atE n q L i=0:=by
 have hz: ∀ (n:Zas) (q:Za4),atE n q L i=0↔ZhP n q (lg L i)=0/\ZiN n q L i=0/\(Zgh L i=true->ZbV n q (lg L i)=0):=by
  intro n q;unfold atE;by_cases h1:ZhP n q (lg L i)=0
  ·by_cases h2:ZiN n q L i=0
   ·rw[decide_eq_true h1,decide_eq_true h2]
    cases Zgh L i<;>simp [h1,h2]
   ·rw[decide_eq_true h1,decide_eq_false h2];simp [h2]
  ·rw[decide_eq_false h1];simp [h1]
 have ha: ∀ (n:Zas) (q:Za4) (x:Zar),ZbV n q x=0↔(cl (ZaY n x) x.2.2.2.1).2.2.2.2.1=true/\Zky n q x.2.2.2.2.2.1=true:=by intro n q x;unfold ZbV;rw[Zau (by omega),Zau (by omega)];simp
 rw[hz,hz];refine(and_congr ZsX Iff.rfl).trans (and_congr_right fun h1=>and_congr Iff.rfl ?_);refine imp_congr_right fun ht=> ?_
 have hr: (lg L i).1=true:=by unfold Zgh at ht;rw[Vd]at ht;exact ht.1
 obtain⟨_,_,h3,_⟩:=Ziz h1;have h4:=(Zdi.1 (h3 hr).2).1.2;rw[ha,ha,ZeP,ZkZ,Zlw,Zhu];simp only[Vd];rw[h4];simp
theorem ZoJ(n:Zas)(q:Za4)(l:List Zbe)(a:Nat): ∀k,zN (ZaQ n q) (l.map (ZbO n q)) a k=zN n l a k
 |0=>rfl
 |k+1=>by
  have h:zn (ZaQ n q) (l.map (ZbO n q)) (a+k)=zn n l (a+k):=by unfold zn;rw[(Zg9 n q l (a+k)).1];rfl
  unfold zN;rw[ZoJ n q l a k,h]
theorem ZkP{n:Zas}{q:Za4}{x:Zar}(hx:ZaN n x=true):ZkS (ZaQ n q) x=ZkS n x/\Zcl (ZaQ n q) x=Zcl n x:=by
 constructor
 ·unfold ZkS;rw[ZeP,ZoJ]
 ·unfold Zcl;rw[Zo5 hx];rfl
theorem ZeZ(n:Zas)(q:Za4): ∀ (L:List Zar) (w:Bool) (out:List Zdu),Zbs (ZaQ n q) L w out=Zbs n L w out
 | [],_,_=>rfl
 |x::L,w,out=>by
  rw[ZcX,ZcX,Zh4];by_cases h1:x.1=true/\ZaN n x=false
  ·rw[if_pos h1,if_pos h1]
  rw[if_neg h1,if_neg h1];by_cases h2:Za2 x=true/\(x.1=false\/w=false)
  ·rw[if_pos h2,if_pos h2]
  rw[if_neg h2,if_neg h2];by_cases h3:x.1=true
  ·rw[if_pos h3,if_pos h3]
   have hx:ZaN n x=true:=by
    cases he:ZaN n x with
    |true=>rfl
    |false=>exact absurd ⟨h3,he⟩ h1
   obtain⟨e1,e2⟩:=ZkP (q:=q) hx;have e3:Zfo (ZaQ n q) x=Zfo n x:=by unfold Zfo;rw[e1,e2]
   have e4:Zc0 (ZaQ n q) x out=Zc0 n x out:=by unfold Zc0 ZhQ;rw[e1,e2]
   rw[e3,e4];exact ZeZ n q L _ _
  ·rw[if_neg h3,if_neg h3];exact ZeZ n q L _ _
end Q
namespace Q
open Tr Go
open Option (bind_some)
variable {n:Zas}{q:Za4}
theorem ZlP{n:Zas}{q:Za4}{x:Zar} :ZhP n q x=0↔(inR x.2.2.2.2.1 n.1.length=true/\inR x.2.2.2.2.2.1 n.1.length=true)/\(bif x.1 then !ZaN n x else !decide (x.2.1=0) || (!decide (x.2.2.1=0) || (!decide (x.2.2.2.1=0) ||Za2 x)))=false/\
  ((0<=x.2.2.2.2.2.2.1/\x.2.2.2.2.2.2.1<=3155932800)/\(0<=x.2.2.2.2.2.2.2.1/\x.2.2.2.2.2.2.2.1<=3155932800))/\(bif x.1 then ZjT n q x else ZhS n q x)=0:=by
 unfold ZhP;rw[Zau (by omega),Zau (by omega),Zau (by omega)];simp only[Vp,Vk,decide_eq_true_eq]
theorem Zwu{a m:Nat} :inR (a:Int) m=true↔a<m:=by unfold inR;rw[Vd,decide_eq_true_eq,decide_eq_true_eq];omega
theorem Zeb{a:Int}{m:Nat} :inR a m=true↔0<=a/\a< (m:Int):=by unfold inR;rw[Vd,decide_eq_true_eq,decide_eq_true_eq]
theorem ZoM(n:Zas)(q:Za4)(i:Nat):Zt7 n (Zbv q) (rn n (i:Int))=true↔ZcU n i=false:=by
 rw[ZoW];unfold ZcU
 cases (rn n (i:Int)).2.2.2.2.2.2.1<;>simp
def Zvu(n:Zas)(i b c:Nat)(st:Bool):Prop:=i<n.2.2.1.length/\b<c/\c< (Zai n i).length/\ZcU n i=false/\(st=true\/(Zac n i b).2.2.2.1=true)
theorem Zc8(h:Zcq n){x:Zar} : (ZhP n (Zbv q) x=0/\x.1=true)↔ ∃i b c st,x=ZbB n i b c st/\Zvu n i b c st:=by
 rw[ZlP];constructor
 ·rintro ⟨⟨h1,h2,h3,h4⟩,hr⟩;rw[hr]at h2 h4;simp only[cond_true,Vk]at h2 h4;have he:=h2;unfold ZaN ZaY at he;simp only[Vd,decide_eq_true_eq,Zeb]at he;obtain⟨⟨e1,e2⟩,e3,e4,e5⟩:=he;obtain⟨⟨r1,r2⟩,⟨r3,r4⟩,r5,r6⟩:=Zdi.1 h4;obtain⟨xr,xi,xb,xc,xf,xt,xd,xa,xs,u⟩:=x;simp only at hr h1 h2 h3 h4 e1 e2 e3 e4 e5 r1 r2 r3 r4 r5 r6;obtain⟨i,rfl⟩: ∃i:Nat,xi=(i:Int):=⟨xi.toNat,by omega⟩;obtain⟨b,rfl⟩: ∃i:Nat,xb=(i:Int):=⟨xb.toNat,by omega⟩;obtain⟨c,rfl⟩: ∃i:Nat,xc=(i:Int):=⟨xc.toNat,by omega⟩;subst hr;have hl:c< (Zai n i).length:=by unfold Zai;omega
  refine⟨i,b,c,xs, ?_,by omega,by omega,hl,(ZoM n q i).1 r5, ?_⟩
  ·have a1: (Zac n i b).1=xf:=r1;have a2: (Zac n i c).1=xt:=r2;have a3: (Zac n i b).2.2.1=xd:=r3;have a4: (Zac n i c).2.1=xa:=r4;unfold ZbB;rw[a1,a2,a3,a4]
  ·rcases r6 with r6|r6
   ·exact .inl r6
   ·exact .inr r6.1
 ·rintro ⟨i,b,c,st,rfl,h1,h2,h3,h4,h5⟩;have hb:b< (Zai n i).length:=by omega
  have s1:=h.stop h1 hb;have s2:=h.stop h1 h3;have t1:=h.time h1 hb;have t2:=h.time h1 h3
  have hex:ZaN n (ZbB n i b c st)=true:=by unfold ZaN ZaY;simp only[Vd,decide_eq_true_eq];have:c< (rn n (i:Int)).2.2.2.2.2.2.2.1.length:=h3;exact⟨Zwu.2 h1,by show (0:Int)<=(b:Int);omega,by show (b:Int)< (c:Int);omega,by show (c:Int)<_;show (c:Int)< ((rn n (i:Int)).2.2.2.2.2.2.2.1.length:Int);omega⟩
  refine⟨⟨⟨Zeb.2 s1,Zeb.2 s2⟩, ?_,⟨⟨by show (0:Int)<=(Zac n i b).2.2.1;omega,t1.2.2⟩,⟨t2.1,by show (Zac n i c).2.1<=_;omega⟩⟩, ?_⟩,rfl⟩
  ·show (!ZaN n (ZbB n i b c st))=false;rw[hex];rfl
  ·refine Zdi.2 ⟨⟨rfl,rfl⟩,⟨rfl,rfl⟩,(ZoM n q i).2 h4, ?_⟩;rcases h5 with h5|h5
   ·exact .inl h5
   ·exact .inr ⟨h5,Zhu ..⟩
theorem Zc9(h:Zcq n){x:Zar} : (ZhP n (Zbv q) x=0/\x.1=false)↔ ∃p∈n.2.2.2.2.1, ∃a,x=ZdZ p.1 p.2.1 a (a+p.2.2.1)/\0<=a/\a+p.2.2.1<=3155932800:=by
 rw[ZlP];constructor
 ·rintro ⟨⟨h1,h2,h3,h4⟩,hr⟩;rw[hr]at h2 h4;simp only[cond_false,Vp,Vk,decide_eq_true_eq]at h2 h4;have h5:=Zej.1 h4;obtain⟨p,hp,hm⟩:=Vja.1 h5;rw[Vd]at hm;have hm1:=hm.1;unfold ZdG at hm1;simp only[Vd,decide_eq_true_eq]at hm1;obtain⟨xr,xi,xb,xc,xf,xt,xd,xa,xs,u⟩:=x;simp only at hr h1 h2 h3 hm1;have hpp:=h.path p hp;rw[Zae (by omega) (by omega)]at hm1;obtain⟨rfl,rfl,rfl,rfl⟩:=h2;subst hr;refine⟨p,hp,xd, ?_,by omega,by omega⟩;unfold ZdZ;rw[<-hm1.1, <-hm1.2.1,show xa=xd+p.2.2.1 by omega]
 ·rintro ⟨p,hp,a,rfl,h1,h2⟩;have hpp:=h.path p hp;refine⟨⟨⟨Zeb.2 hpp.1,Zeb.2 hpp.2.1⟩,rfl,⟨⟨h1,by show a<=_;omega⟩,⟨by show 0<=a+p.2.2.1;omega,h2⟩⟩, ?_⟩,rfl⟩;show ZhS n (Zbv q) _=0;rw[Zej];refine Vja.2 ⟨p,hp, ?_⟩;unfold ZdG ZhM Zbv ZdZ;simp only[Vd,decide_eq_true_eq,Vl,Vya];exact⟨⟨trivial,trivial,by rw[Zae (by omega) (by omega)];omega⟩,trivial⟩
theorem Zno(h:Zcq n){i b c j d e:Nat}{st st' sx:Bool} :Zgf n (ZbB n i b c st) (ZbB n j d e st') sx=true↔isLink n i c j d sx:=by
 unfold Zgf;rw[Vja];constructor
 ·rintro ⟨x,hx,hm⟩;obtain⟨i',c',j',d',s',rfl,_⟩:=h.link x hx;unfold Zmv ZbB at hm;simp only[Vd,decide_eq_true_eq,beq_iff_eq]at hm;obtain⟨h1,h2,h3,h4,h5⟩:=hm;unfold isLink;rw[<-h1, <-h2, <-h3, <-h4, <-h5];exact hx
 ·intro hl;refine⟨_,hl, ?_⟩;unfold Zmv ZbB;simp
theorem Zl0(n:Zas)(s t a b s' t' a' b' :Int):Zbj n (ZdZ s t a b) (ZdZ s' t' a' b')≠0:=by unfold Zbj ZdZ;intro h;rw[Zau (by omega)]at h;obtain⟨_,h⟩:=h;simp at h
theorem ZjH(n:Zas)(s t a b:Int)(j d e:Nat):Zbj n (ZdZ s t a b) (ZbB n j d e true)≠0:=by unfold Zbj ZdZ ZbB;intro h;rw[Zau (by omega)]at h;obtain⟨_,h⟩:=h;simp [Za2]at h
theorem Zo0(h:Zcq n){i b c j d e:Nat}{st:Bool} :Zbj n (ZbB n i b c st) (ZbB n j d e true)=0↔(Zac n i c).1=(Zac n j d).1/\isLink n i c j d true/\(Zac n i c).2.1<=(Zac n j d).2.2.1:=by
 unfold Zbj;have e1:Zgf n (ZbB n i b c st) (ZbB n j d e true) true=true↔isLink n i c j d true:=Zno h;generalize Zgf n (ZbB n i b c st) (ZbB n j d e true) true=B at*;unfold ZbB Za2;simp only[Vi,Vpa,cond_false,cond_true,Vwa];rw[Zau (by omega),Zau (by omega)];rw[<-e1]
 cases B with
 |false=>simp
 |true=>
  simp only[Vi,Vk,decide_eq_true_eq,true_and];refine and_congr_right fun _=> ?_;by_cases hlt: (Zac n j d).2.2.1< (Zac n i c).2.1
  ·rw[decide_eq_true hlt];simp;omega
  ·rw[decide_eq_false hlt];simp;omega
theorem Zrr{i b c:Nat}{st:Bool}{s t a z:Int} :Zbj n (ZbB n i b c st) (ZdZ s t a z)=0↔(Zac n i c).1=s/\a=(Zac n i c).2.1:=by
 unfold Zbj ZbB ZdZ Za2;simp only[Vi,Vpa,cond_false,cond_true,Vl];rw[Zau (by omega)];simp only[Vk,decide_eq_true_eq];refine and_congr_right fun _=> ?_;by_cases hlt:a=(Zac n i c).2.1
 ·rw[decide_eq_true hlt];simp [hlt]
 ·rw[decide_eq_false hlt];simp [hlt]
theorem Zku{j d e:Nat}{s t a z:Int} :Zbj n (ZdZ s t a z) (ZbB n j d e false)=0↔t=(Zac n j d).1/\z<=(Zac n j d).2.2.1:=by
 unfold Zbj ZbB ZdZ Za2;simp only[Vi,Vxb,cond_false,cond_true,Vl];rw[Zau (by omega)];simp only[Vk,decide_eq_true_eq];refine and_congr_right fun _=> ?_;by_cases hlt: (Zac n j d).2.2.1<z
 ·rw[decide_eq_true hlt];simp;omega
 ·rw[decide_eq_false hlt];simp;omega
theorem Zpt(h:Zcq n){i b c j d e:Nat}{st:Bool}(hi:i<n.2.2.1.length)(hc:c< (Zai n i).length):Zbj n (ZbB n i b c st) (ZbB n j d e false)=0↔(Zac n i c).1=(Zac n j d).1/\
  ((Zac n i c).2.1+(Zci n (Zac n i c).1).2.2.2.1<=(Zac n j d).2.2.1\/isLink n i c j d false/\(Zac n i c).2.1<=(Zac n j d).2.2.1):=by
 have ht:=h.time hi hc;have hs:=h.stop hi hc;have hcg:=h.change _ hs.1 hs.2;have w1:Vc .i64 ((Zac n i c).2.1+(Zci n (Zac n i c).1).2.2.2.1)=(Zac n i c).2.1+(Zci n (Zac n i c).1).2.2.2.1:=Zae (by omega) (by omega);unfold Zbj;have e1:Zgf n (ZbB n i b c st) (ZbB n j d e false) false=true↔isLink n i c j d false:=Zno h;generalize Zgf n (ZbB n i b c st) (ZbB n j d e false) false=B at*;unfold ZbB Za2;simp only[Vi,Vpa,cond_false,w1];rw[Zau (by omega)];simp only[Vk,decide_eq_true_eq];refine and_congr_right fun _=> ?_;rw[<-e1];by_cases h1: (Zac n i c).2.1+(Zci n (Zac n i c).1).2.2.2.1<=(Zac n j d).2.2.1
 ·rw[decide_eq_true h1];simp [h1]
 ·rw[decide_eq_false h1];by_cases h2: (Zac n i c).2.1<=(Zac n j d).2.2.1
  ·rw[decide_eq_true h2]
   cases B with
   |true=>simp [h1,h2]
   |false=>simp [h1]
  ·rw[decide_eq_false h2];simp [h1,h2]
theorem Zdo{i b c:Nat}{st:Bool} :ZbV n (Zbv q) (ZbB n i b c st)=0↔(Zac n i c).2.2.2.2.1=true:=by unfold ZbV;rw[Zau (by omega),Zau (by omega),Zhu];show (!(Zac n i c).2.2.2.2.1)=false/\_↔_;simp
theorem Zd1{n:Zas}{q:Za4}{L:List Zar}{i:Nat} :atE n q L i=0↔ZhP n q (lg L i)=0/\ZiN n q L i=0/\(Zgh L i=true->ZbV n q (lg L i)=0):=by
 unfold atE;by_cases h1:ZhP n q (lg L i)=0
 ·by_cases h2:ZiN n q L i=0
  ·rw[decide_eq_true h1,decide_eq_true h2]
   cases Zgh L i<;>simp [h1,h2]
  ·rw[decide_eq_true h1,decide_eq_false h2];simp [h2]
 ·rw[decide_eq_false h1];simp [h1]
theorem Zcy{n:Zas}{q:Za4}{L:List Zar} :Zg4 n q L=0↔(lg L 0).2.2.2.2.1=q.1/\Za2 (lg L 0)=false/\(!(lg L 0).1&& (decide (1<L.length) && ((lg L 1).1&& !decide ((lg L 1).2.2.2.2.2.2.1=(lg L 0).2.2.2.2.2.2.2.1))))=false/\
  (!(lg L 0).1&& (decide (L.length=1) && (bif q.2.2.2.1 then !decide ((lg L 0).2.2.2.2.2.2.2.1=q.2.2.1) else !decide ((lg L 0).2.2.2.2.2.2.1=q.2.2.1))))=false/\
  (!q.2.2.2.1&&decide ((lg L 0).2.2.2.2.2.2.1<q.2.2.1))=false/\(q.2.2.2.2.2.2.2.2.2.1&& ((lg L 0).1&&decide ((lg L 0).2.2.2.2.2.2.1<Vc .i64 (q.2.2.1+(Zci n q.1).2.2.2.1))))=false:=by
 unfold Zg4;rw[Zau (by omega),Zau (by omega),Zau (by omega),Zau (by omega),Zau (by omega)];simp only[Vk,decide_eq_true_eq];refine and_congr_right fun _=>and_congr_right fun _=>and_congr_right fun _=>and_congr_right fun _=>and_congr_right fun _=> ?_
 cases (q.2.2.2.2.2.2.2.2.2.1&& ((lg L 0).1&&decide ((lg L 0).2.2.2.2.2.2.1<Vc .i64 (q.2.2.1+(Zci n q.1).2.2.2.1))))<;>simp
end Q
namespace Q
open Tr Go
open Option (bind_some)
variable {n:Zas}{q:Za4}
theorem Zbf(a b:List Zar):Zal (a++b)=Zal a+Zal b:=by simp [Zal]
theorem Zck(s t a b:Int):Zal [ZdZ s t a b]=0:=rfl
theorem ZbG(n:Zas)(i b c:Nat)(st:Bool):Zal [ZbB n i b c st]=if st then 0 else 1:=by cases st<;>rfl
theorem ZlC{L:List Zar}{i:Nat}(h:i<L.length):lg L i=L[i]:=by unfold lg;rw[Zak h]
theorem ZgO{L:List Zar}{i:Nat}(h:i<L.length):Zal (L.take (i+1))=Zal (L.take i)+Zal [lg L i]:=by rw[Vh h,Zbf,ZlC h]
def ZrK(n:Zas)(s0 t0 w:Int)(L:List Zar)(i:Nat):Prop:=
 (∃r b c st,lg L i=ZbB n r b c st/\Zvu n r b c st/\ ∃js,Der n s0 t0 w (.on (Zal (L.take (i+1))) r c) js)\/
 (∃p∈n.2.2.2.2.1, ∃a,lg L i=ZdZ p.1 p.2.1 a (a+p.2.2.1)/\(∃r,r<=a+p.2.2.1/\ ∃js,Der n s0 t0 w (.rdy (Zal (L.take (i+1))) p.2.1 r) js)/\(0<i\/L.length=1-> ∃js,Der n s0 t0 w (.arr (Zal (L.take (i+1))) p.2.1 (a+p.2.2.1)) js))
theorem Zes{n:Zas}{q:Za4}{L:List Zar}{i:Nat} :ZiN n q L (i+1)=Zbj n (lg L i) (lg L (i+1)):=by unfold ZiN;rw[decide_eq_false (Nat.succ_ne_zero i)];rfl
theorem Zqp(h:Zcq n)(hq:0<=q.1/\q.1< (n.1.length:Int))(ht:0<=q.2.2.1/\q.2.2.1<=3155932800)(hb:q.2.2.2.1=false){L:List Zar}(h0:0<L.length)(ha:atE n (Zbv q) L 0=0):
  ZrK n q.1 q.2.2.1 (bif q.2.2.2.2.2.2.2.2.2.1 then(Zci n q.1).2.2.2.1 else 0) L 0:=by
 obtain⟨h1,h2,h3⟩:=Zd1.1 ha;have hcg:=h.change _ hq.1 hq.2;have h2' :Zg4 n (Zbv q) L=0:=h2;obtain⟨f1,f2,f3,f4,f5,f6⟩:=Zcy.1 h2';have g1: (Zbv q).1=q.1:=rfl;have g2: (Zbv q).2.2.1=q.2.2.1:=rfl;have g3: (Zbv q).2.2.2.1=q.2.2.2.1:=rfl;have g4: (Zbv q).2.2.2.2.2.2.2.2.2.1=q.2.2.2.2.2.2.2.2.2.1:=rfl;rw[g1]at f1;rw[g3,hb,g2]at f4 f5;rw[g4,g2,g1]at f6
 cases hr: (lg L 0).1 with
 |true=>
  obtain⟨i,b,c,st,e,hk⟩:=(Zc8 h).1 ⟨h1,hr⟩;have hk' :=hk;obtain⟨k1,k2,k3,k4,k5⟩:=hk';rw[e]at f1 f2 f5 f6;have hst:st=false:=f2;subst hst;have hbd: (Zac n i b).2.2.2.1=true:=k5.resolve_left (by simp);have hstop: (Zac n i b).1=q.1:=f1
  have hlate:q.2.2.1+(bif q.2.2.2.2.2.2.2.2.2.1 then(Zci n q.1).2.2.2.1 else 0)<=(Zac n i b).2.2.1:=by
   simp only[Vl,Vm,decide_eq_false_iff_not]at f5;have f5' : ¬ (Zac n i b).2.2.1<q.2.2.1:=f5
   cases hc:q.2.2.2.2.2.2.2.2.2.1 with
   |false=>simp only[cond_false];omega
   |true=>
    rw[hc,Zae (by omega) (by omega)]at f6;simp only[Vm]at f6;have f6' :decide ((Zac n i b).2.2.1<q.2.2.1+(Zci n q.1).2.2.2.1)=false:=f6;rw[decide_eq_false_iff_not]at f6';simp only[cond_true];omega
  refine .inl ⟨i,b,c,false,e,hk, ?_⟩
  have d:=Der.on (.board (.init (n:=n) (s0:=q.1) (t0:=q.2.2.1) (w:=(bif q.2.2.2.2.2.2.2.2.2.1 then(Zci n q.1).2.2.2.1 else 0))) k1 (by omega) k4 hstop hbd hlate) k2 k3
  have:Zal (L.take (0+1))=1:=by rw[ZgO h0,e,ZbG];rfl
  rw[this];exact⟨_,d⟩
 |false=>
  obtain⟨p,hp,a,e,a0,a1⟩:=(Zc9 h).1 ⟨h1,hr⟩;have hpp:=h.path p hp;rw[e]at f1 f4 f5;have hs:p.1=q.1:=f1;have hK:Zal (L.take (0+1))=0:=by rw[ZgO h0,e,Zck];rfl
  have f5' : ¬a<q.2.2.1:=by simp only[Vl,Vm,decide_eq_false_iff_not]at f5;exact f5
  refine .inr ⟨p,hp,a,e,⟨q.2.2.1+p.2.2.1,by omega, ?_⟩,fun hl=> ?_⟩
  ·rw[hK];exact⟨_, .rdyW hp hs (by omega)⟩
  ·have hl1:L.length=1:=hl.resolve_left (by omega);rw[decide_eq_true hl1]at f4;have f4' : (!decide (a=q.2.2.1))=false:=f4;simp only[Vk,decide_eq_true_eq]at f4';subst f4';exact⟨_,by rw[hK];exact .arrW hp hs a1⟩
theorem Zq2(h:Zcq n){s0 t0 w:Int}{L:List Zar}{i:Nat}(hi:i+1<L.length)(ha:atE n (Zbv q) L i=0)(hb:atE n (Zbv q) L (i+1)=0)(hr:ZrK n s0 t0 w L i):ZrK n s0 t0 w L (i+1):=by
 obtain⟨_,_,a3⟩:=Zd1.1 ha;obtain⟨b1,b2,_⟩:=Zd1.1 hb;rw[Zes]at b2;have hK:=ZgO hi
 have htl: ∀ {r b c:Nat}{st:Bool},lg L i=ZbB n r b c st->Za2 (lg L (i+1))=false->(Zac n r c).2.2.2.2.1=true:=by intro r b c st e hs;refine Zdo.1 (?_ :ZbV n (Zbv q) (ZbB n r b c st)=0);rw[<-e];refine a3 ?_;unfold Zgh;rw[e,hs];simp [ZbB]
 cases hy: (lg L (i+1)).1 with
 |true=>
  obtain⟨j,d,e,st',ey,hk⟩:=(Zc8 h).1 ⟨b1,hy⟩;have hk' :=hk;obtain⟨k1,k2,k3,k4,k5⟩:=hk';rw[ey]at b2 hK;refine .inl ⟨j,d,e,st',ey,hk, ?_⟩
  cases st' with
  |true=>
   rw[ZbG]at hK;rcases hr with ⟨r,b,c,st,ex,hx,js,dx⟩ | ⟨p,hp,a,ex,_⟩
   ·rw[ex]at b2;obtain⟨c1,c2,c3⟩:=(Zo0 h).1 b2;rw[hK];exact⟨_, .on (.stay dx c2 c3 k4) k2 k3⟩
   ·rw[ex]at b2
    exact absurd b2 (ZjH _ _ _ _ _ _ _ _)
  |false=>
   rw[ZbG]at hK;have hbd: (Zac n j d).2.2.2.1=true:=k5.resolve_left (by simp);have hns:Za2 (lg L (i+1))=false:=by rw[ey];rfl
   rcases hr with ⟨r,b,c,st,ex,hx,js,dx⟩ | ⟨p,hp,a,ex,⟨r,hr1,js,dr⟩,_⟩
   ·have hal:=htl ex hns;rw[ex]at b2;obtain⟨c1,c2⟩:=(Zpt h hx.1 hx.2.2.1).1 b2;rw[hK];rcases c2 with c2| ⟨c2,c3⟩
    ·exact⟨_, .on (.board (.change (.ride dx hal)) k1 (by omega) k4 c1.symm hbd c2) k2 k3⟩
    ·exact⟨_, .on (.linked (.link dx hal c2 c3 hbd) k4) k2 k3⟩
   ·rw[ex]at b2;obtain⟨c1,c2⟩:=Zku.1 b2;rw[hK]
    exact⟨_, .on (.board dr k1 (by omega) k4 c1.symm hbd (by omega)) k2 k3⟩
 |false=>
  obtain⟨p,hp,a,ey,a0,a1⟩:=(Zc9 h).1 ⟨b1,hy⟩;rw[ey]at b2 hK;rw[Zck]at hK;have hns:Za2 (lg L (i+1))=false:=by rw[ey];rfl
  rcases hr with ⟨r,b,c,st,ex,hx,js,dx⟩ | ⟨p',hp',a',ex,_⟩
  ·have hal:=htl ex hns;rw[ex]at b2;obtain⟨c1,c2⟩:=Zrr.1 b2;have dr:=Der.ride dx hal;refine .inr ⟨p,hp,a,ey,⟨a+p.2.2.1,Int.le_refl _, ?_⟩,fun _=> ?_⟩
   ·rw[hK,c2];exact⟨_, .rdyV dr hp c1.symm (by omega)⟩
   ·rw[hK,c2];exact⟨_, .arrV dr hp c1.symm (by omega)⟩
  ·rw[ex]at b2;exact absurd b2 (Zl0 _ _ _ _ _ _ _ _ _)
theorem ZwN(h:Zcq n)(hq:0<=q.1/\q.1< (n.1.length:Int))(ht:0<=q.2.2.1/\q.2.2.1<=3155932800)(hb:q.2.2.2.1=false){L:List Zar}(h0:0<L.length)(ha: ∀i,i<L.length->atE n (Zbv q) L i=0):
  ∃js,Der n q.1 q.2.2.1 (bif q.2.2.2.2.2.2.2.2.2.1 then(Zci n q.1).2.2.2.1 else 0) (.arr (Zal L) (lg L (L.length - 1)).2.2.2.2.2.1 (lg L (L.length - 1)).2.2.2.2.2.2.2.1) js:=by
 have key: ∀i,i<L.length->ZrK n q.1 q.2.2.1 (bif q.2.2.2.2.2.2.2.2.2.1 then(Zci n q.1).2.2.2.1 else 0) L i:=by
  intro i
  induction i with
  |zero=>exact fun hi=>Zqp h hq ht hb h0 (ha 0 hi)
  |succ i ih=>exact fun hi=>Zq2 h hi (ha i (by omega)) (ha (i+1) hi) (ih (by omega))
 have hr:=key (L.length - 1) (by omega);have hlast:=(Zd1.1 (ha (L.length - 1) (by omega))).2.2;unfold ZrK at hr;rw[show L.length - 1+1=L.length by omega,Vq]at hr;rcases hr with ⟨r,b,c,st,e,hk,js,d⟩ | ⟨p,hp,a,e,_,hd⟩
 ·have hal: (Zac n r c).2.2.2.2.1=true:=by refine Zdo.1 (?_ :ZbV n (Zbv q) (ZbB n r b c st)=0);rw[<-e];refine hlast ?_;unfold Zgh;rw[e,decide_eq_true (show L.length - 1+1=L.length by omega)];rfl
  rw[e];exact⟨js, .arrR (.ride d hal)⟩
 ·rw[e];refine hd ?_;by_cases h1:L.length=1
  ·exact .inr h1
  ·exact .inl (by omega)
end Q
namespace Q
open Tr Go
open Option (bind_some)
theorem Zfy:F29=some true:=by kernel_rfl
structure ZwO (n:Zas):Prop where
 stops:n.1.length<=20
 routes:n.2.1.length<=20
 runs:n.2.2.1.length<=20
 links:n.2.2.2.1.length<=20
 paths:n.2.2.2.2.1.length<=200
 prods:n.2.2.2.2.2.1.1.length<=20
 calls: ∀r∈n.2.2.1,r.2.2.2.2.2.2.2.1.length<=40
theorem ZwO.few{n:Zas}(h:ZwO n):Few n:=
 ⟨by have:=h.stops;omega,by have:=h.routes;omega,by have:=h.runs;omega,by have:=h.links;omega,by have:=h.paths;omega,by have:=h.prods;omega,fun r hr=>by have:=h.calls r hr;omega⟩
theorem Zxu{n:Zas}(h:Zng Y31 n)(hp:n.2.2.2.2.1.length<=4096):Fit n:=by
 obtain⟨⟨_,h1⟩,⟨_,h2⟩,⟨_,h3⟩,_,_,⟨⟨_,h6⟩,_⟩,_⟩:=h;refine⟨fun x hx=> ?_,fun x hx=> ?_,fun x hx=> ?_,fun x hx=> ?_,hp,fun x hx=> ?_⟩
 ·exact(h1 x hx).1
 ·exact(h2 x hx).1
 ·exact(h3 x hx).2.2.2.1
 ·exact(h3 x hx).2.2.2.2.2.2.2.1.1
 ·exact(h6 x hx).1
noncomputable def ZuW(n:Zas)(q:Za4):Int:=bif !decide (ZkJ n q=0) then ZkJ n q else bif q.2.2.2.1 then 22 else 0
theorem Zp0{n:Zas}(h:Fit n)(q:Za4):F115 n q=some (ZuW n q):=by
 unfold F115 ZuW;rw[Znd h];simp only[bind_some]
 cases decide (ZkJ n q=0)<;>cases q.2.2.2.1<;>rfl
end Q
namespace Q
open Tr Go
open Option (bind_some)
abbrev ZbI:=Int×Int×Int×Int×Int×Int×Unit
abbrev ZcA:=Int×Int×Bool×Unit
abbrev ZaH:=Zas×List ZqI×List ZbI×List ZcA×List ZcA×List Int×List (List Int) ×Unit
def less(old new:Int):Bool:=decide (old= -1) ||decide (new<old)
theorem Zev(old new:Int): (bif decide (old=(-1:Int)) then some true else some (decide (new<old)))=some (less old new):=by
 unfold less
 cases decide (old=(-1:Int))<;>rfl
def ZwI(p:ZbI)(a l:Int):ZbI:=bif less p.1 a then(a,p.2.1,p.2.2.1,l,p.2.2.2.2) else p
def Zvy(p:ZbI)(r l:Int):ZbI:=bif less p.2.2.1 r then(p.1,p.2.1,r,p.2.2.2.1,p.2.2.2.2.1,l,p.2.2.2.2.2.2) else p
def Zs1(p:ZbI)(a r l:Int):ZbI:=Zvy (ZwI p a l) r l
def ZgU(f:ZaH)(i:Nat)(a r l:Int):ZaH:=(f.1,f.2.1,f.2.2.1.modify i fun p=>Zs1 p a r l,f.2.2.2)
theorem Zkb{α:Type}{l:List α}{i:Nat}(h:i<l.length)(g:α->α):l.modify i g=l.set i (g l[i]):=by
 apply List.ext_getElem?;intro j;rw[Vx,Vrb];by_cases hj:i=j
 ·subst hj;rw[Va h];simp [h]
 ·simp [hj]
theorem ZgM(f:ZaH){i:Nat}(hi:i<f.2.2.1.length)(a r l:Int):F121 f (i:Int) a r l=some (ZgU f i a r l):=by
 unfold F121 ZgU;rw[Zkb hi];obtain⟨n,lb,now,rest⟩:=f;simp only at hi;simp only[ZaE hi,bind_some,Va hi];generalize hp:now[i]=p;rw[Zev];simp only[bind_some];unfold Zs1 ZwI
 cases hl:less p.1 a with
 |true=>
  simp only[cond_true,Voa,Vn hi,bind_some];rw[Zev];simp only[bind_some];unfold Zvy;simp only
  cases less p.2.2.1 r with
  |true=>
   simp only[cond_true]
  |false=>simp only[cond_false]
 |false=>
  simp only[cond_false];rw[Zev];simp only[bind_some];unfold Zvy
  cases less p.2.2.1 r with
  |true=>
   simp only[cond_true,Voa,Vn hi,bind_some]
  |false=>
   simp only[cond_false];rw[<-hp,Vgb]
def ZgR(f:ZaH)(x:Zar)(prev:Int):ZaH:=(f.1,f.2.1++[(x,prev,())],f.2.2)
theorem ZrQ(f:ZaH)(hl:f.2.1.length<4000000000)(x:Zar)(prev:Int):F118 f x prev=some (ZgR f x prev,(f.2.1.length:Int)):=by
 unfold F118 ZgR;rw[ZaO (by simp;omega)]
 have e:Vc .i64 (((f.2.1++[(x,prev,())]).length:Int) - 1)=(f.2.1.length:Int):=by rw[Vha];simp only[Vda,Vfa];rw[Zae (by omega) (by omega)];omega
 rw[e];rfl
theorem ZgK(b:ZcA)(c:Int):F114 b c=some (less b.1 c):=by unfold F114;rw[Zev];rfl
def Zbg(f:ZaH)(i:Nat)(b:ZcA):ZaH:=
 bif !(rn f.1 (i:Int)).2.2.2.2.2.2.1&&less ((f.2.2.2.2.1[i]?).getD (0,0,false,())).1 b.1 then(f.1,f.2.1,f.2.2.1,f.2.2.2.1,f.2.2.2.2.1.set i b,f.2.2.2.2.2.1++[(i:Int)],f.2.2.2.2.2.2) else f
theorem Zjy(f:ZaH){i:Nat}(hi:i<f.1.2.2.1.length)(hr:f.2.2.2.2.1.length=f.1.2.2.1.length)(ho:f.2.2.2.2.2.1.length<4000000000)(b:ZcA):F119 f (i:Int) b=some (Zbg f i b):=by
 unfold F119 Zbg;have hi' :i<f.2.2.2.2.1.length:=by omega
 have e:rn f.1 (i:Int)=f.1.2.2.1[i]:=by unfold rn;rw[Ve,Zak hi]
 rw[e,Zak hi'];simp only[Zaf hi,bind_some,ZaE hi',Va hi',ZgK];rw[ZaO (by simp;omega)]
 cases (f.1.2.2.1[i]).2.2.2.2.2.2.1 with
 |true=>rfl
 |false=>
  simp only[Vl,cond_true,bind_some,Vm]
  cases less (f.2.2.2.2.1[i]).1 b.1<;>rfl
theorem ZpZ(f:ZaH)(i:Nat)(b:ZcA): (Zbg f i b).1=f.1:=by unfold Zbg;cases (!(rn f.1 (i:Int)).2.2.2.2.2.2.1&&less ((f.2.2.2.2.1[i]?).getD (0,0,false,())).1 b.1)<;>rfl
theorem ZfW(f:ZaH)(i:Nat)(b:ZcA): (Zbg f i b).2.1=f.2.1:=by unfold Zbg;cases (!(rn f.1 (i:Int)).2.2.2.2.2.2.1&&less ((f.2.2.2.2.1[i]?).getD (0,0,false,())).1 b.1)<;>rfl
theorem ZqF(f:ZaH)(i:Nat)(b:ZcA): (Zbg f i b).2.2.1=f.2.2.1:=by unfold Zbg;cases (!(rn f.1 (i:Int)).2.2.2.2.2.2.1&&less ((f.2.2.2.2.1[i]?).getD (0,0,false,())).1 b.1)<;>rfl
theorem ZlN(f:ZaH)(i:Nat)(b:ZcA): (Zbg f i b).2.2.2.1=f.2.2.2.1:=by unfold Zbg;cases (!(rn f.1 (i:Int)).2.2.2.2.2.2.1&&less ((f.2.2.2.2.1[i]?).getD (0,0,false,())).1 b.1)<;>rfl
theorem ZnU(f:ZaH)(i:Nat)(b:ZcA): (Zbg f i b).2.2.2.2.1.length=f.2.2.2.2.1.length:=by
 unfold Zbg
 cases (!(rn f.1 (i:Int)).2.2.2.2.2.2.1&&less ((f.2.2.2.2.1[i]?).getD (0,0,false,())).1 b.1) with
 |false=>rfl
 |true=>exact Vv ..
theorem ZpU(f:ZaH)(i:Nat)(b:ZcA): (Zbg f i b).2.2.2.2.2.2=f.2.2.2.2.2.2:=by unfold Zbg;cases (!(rn f.1 (i:Int)).2.2.2.2.2.2.1&&less ((f.2.2.2.2.1[i]?).getD (0,0,false,())).1 b.1)<;>rfl
theorem ZnC(f:ZaH)(i:Nat)(b:ZcA): (Zbg f i b).2.2.2.2.2.1.length<=f.2.2.2.2.2.1.length+1:=by
 unfold Zbg
 cases (!(rn f.1 (i:Int)).2.2.2.2.2.2.1&&less ((f.2.2.2.2.1[i]?).getD (0,0,false,())).1 b.1) with
 |false=>simp
 |true=>simp
def Za3(s at' prev:Int)(f:ZaH)(p:Zb2):ZaH:=
 if p.1=s/\at' +p.2.2.1<=3155932800 then ZgU (ZgR f (false,0,0,0,s,p.2.1,at',at' +p.2.2.1,false,()) prev) p.2.1.toNat (at' +p.2.2.1) (at' +p.2.2.1) (f.2.1.length:Int) else f
def ZhE(f:ZaH)(s at' prev:Int):ZaH:=f.1.2.2.2.2.1.foldl (Za3 s at' prev) f
structure ZlG (f g:ZaH) (k:Nat):Prop where
 net:g.1=f.1
 lab:g.2.1.length<=f.2.1.length+k
 now:g.2.2.1.length=f.2.2.1.length
theorem ZlG.refl(f:ZaH):ZlG f f 0:=⟨rfl,by omega,rfl⟩
theorem ZlG.trans{f g h:ZaH}{a b:Nat}(x:ZlG f g a)(y:ZlG g h b):ZlG f h (a+b):=
 ⟨y.net.trans x.net,by have:=x.lab;have:=y.lab;omega,y.now.trans x.now⟩
theorem ZjY(s at' prev:Int)(f:ZaH)(p:Zb2):ZlG f (Za3 s at' prev f p) 1:=by
 unfold Za3;split
 ·exact⟨rfl,by simp [ZgU,ZgR],by simp [ZgU,ZgR,Vnb]⟩
 ·exact⟨rfl,by omega,rfl⟩
theorem Zce(s at' prev:Int): ∀ (l:List Zb2) (f:ZaH),ZlG f (l.foldl (Za3 s at' prev) f) l.length
 | [],f=>ZlG.refl f
 |p::l,f=>by have h:=(ZjY s at' prev f p).trans (Zce s at' prev l _);simp only[List.foldl_cons,Vda];exact⟨h.net,by have:=h.lab;omega,h.now⟩
theorem Zpu(f:ZaH){s at' :Int}(prev:Int)(h0:0<=at')(h1:at' <=3155932800)(hl:f.2.1.length+f.1.2.2.2.2.1.length<4000000000)(hp:f.1.2.2.2.2.1.length<=4096)
  (hto: ∀p∈f.1.2.2.2.2.1,0<=p.2.1/\p.2.1< (f.2.2.1.length:Int)/\0<=p.2.2.1/\p.2.2.1<=14400):F125 f s at' prev=some (ZhE f s at' prev):=by
 unfold F125 ZhE;generalize hpp:f.1.2.2.2.2.1=l at*;refine Zbi (fun r=>r=l.foldl (Za3 s at' prev) f) ?_ (fun r hr=>by rw[hr]);refine ZaL l.length _ (fun i (st:ZaH×Int)=>st=((l.take i).foldl (Za3 s at' prev) f,(i:Int))) ?_ ?_ _ rfl
 ·rintro i _ hi rfl;left;have hk:=Zce s at' prev (l.take i) f;have hk2:=hk.lab;rw[Vt]at hk2;have hnet: ((l.take i).foldl (Za3 s at' prev) f).1.2.2.2.2.1=l:=by rw[hk.net,hpp]
  have e2: (l.take (i+1)).foldl (Za3 s at' prev) f=Za3 s at' prev ((l.take i).foldl (Za3 s at' prev) f) l[i]:=by rw[Vh hi,Vta];rfl
  rw[e2];have hmem:=hto _ (Vf hi);generalize hg: (l.take i).foldl (Za3 s at' prev) f=g at*;have w1:Vc .i64 (at' +(l[i]).2.2.1)=at' +(l[i]).2.2.1:=Zae (by omega) (by omega);simp only[Zat hi,cond_true,Zaf hi,bind_some,Zaj hi (show _<=9223372036854775807 by omega),w1];unfold Za3;by_cases hc: (l[i]).1=s
  ·rw[decide_eq_true hc];simp only[cond_true,bind_some];by_cases hm:at' +(l[i]).2.2.1<=3155932800
   ·rw[decide_eq_true hm,if_pos ⟨hc,hm⟩];simp only[cond_true];rw[ZrQ g (by omega)];simp only[bind_some];obtain⟨j,hj⟩: ∃j:Nat,(l[i]).2.1=(j:Int):=⟨(l[i]).2.1.toNat,by omega⟩;rw[hj]
    have hjl:j< (ZgR g (false,0,0,0,s,(j:Int),at',at' +(l[i]).2.2.1,false,()) prev).2.2.1.length:=by show j<g.2.2.1.length;rw[hk.now];omega
    rw[ZgM _ hjl];exact⟨_,rfl,by rw[Ve]⟩
   ·rw[decide_eq_false hm,if_neg (fun h=>hm h.2)];exact⟨_,rfl,rfl⟩
  ·rw[decide_eq_false hc,if_neg (fun h=>hc h.1)];exact⟨_,rfl,rfl⟩
 ·rintro _ rfl;rw[Vq];have hk:=Zce s at' prev l f;simp only[Zaw,cond_false];exact⟨_,rfl,rfl⟩
def lkI(n:Zas)(k:Int):ZlD:=(n.2.2.2.1[k.toNat]?).getD (0,0,0,0,false,())
def ZiR(f:ZaH)(i:Nat)(b:ZcA):ZaH:=(f.1,f.2.1,f.2.2.1,f.2.2.2.1.set i b,f.2.2.2.2)
def ZaF(call:Int)(arr l:Int)(al:Bool)(f:ZaH)(k:Int):ZaH:=
 bif !decide ((lkI f.1 k).2.1=call) ||decide ((cl (rn f.1 (lkI f.1 k).2.2.1).2.2.2.2.2.2.2.1 (lkI f.1 k).2.2.2.1).2.2.1<arr) then f else
 bif (lkI f.1 k).2.2.2.2.1 then Zbg f (lkI f.1 k).2.2.1.toNat ((lkI f.1 k).2.2.2.1,l,true,()) else
 bif al&& ((cl (rn f.1 (lkI f.1 k).2.2.1).2.2.2.2.2.2.2.1 (lkI f.1 k).2.2.2.1).2.2.2.1&&less ((f.2.2.2.1[(lkI f.1 k).2.2.1.toNat]?).getD (0,0,false,())).1 (lkI f.1 k).2.2.2.1) then ZiR f (lkI f.1 k).2.2.1.toNat ((lkI f.1 k).2.2.2.1,l,false,()) else f
def Zbz(f:ZaH)(run call l:Int)(al:Bool):ZaH:=
 ((f.2.2.2.2.2.2.1[run.toNat]?).getD []).foldl (ZaF call (cl (rn f.1 run).2.2.2.2.2.2.2.1 call).2.1 l al) f
structure Zbu (f g:ZaH) (k:Nat):Prop where
 net:g.1=f.1
 now:g.2.2.1.length=f.2.2.1.length
 linked:g.2.2.2.1.length=f.2.2.2.1.length
 runs:g.2.2.2.2.1.length=f.2.2.2.2.1.length
 opn:g.2.2.2.2.2.1.length<=f.2.2.2.2.2.1.length+k
 out:g.2.2.2.2.2.2=f.2.2.2.2.2.2
theorem Zbu.refl(f:ZaH):Zbu f f 0:=⟨rfl,rfl,rfl,rfl,by omega,rfl⟩
theorem Zbu.trans{f g h:ZaH}{a b:Nat}(x:Zbu f g a)(y:Zbu g h b):Zbu f h (a+b):=
 ⟨y.net.trans x.net,y.now.trans x.now,y.linked.trans x.linked,y.runs.trans x.runs,by have:=x.opn;have:=y.opn;omega,y.out.trans x.out⟩
theorem Zbu.weak{f g:ZaH}{a b:Nat}(x:Zbu f g a)(h:a<=b):Zbu f g b:=⟨x.net,x.now,x.linked,x.runs,by have:=x.opn;omega,x.out⟩
theorem Zco(f:ZaH)(i:Nat)(b:ZcA):Zbu f (Zbg f i b) 1:=
 ⟨ZpZ ..,congrArg Vg (ZqF ..),congrArg Vg (ZlN ..),ZnU ..,ZnC ..,ZpU ..⟩
theorem Zc2(call arr l:Int)(al:Bool)(f:ZaH)(k:Int):Zbu f (ZaF call arr l al f k) 1/\(ZaF call arr l al f k).2.1=f.2.1:=by
 unfold ZaF
 cases (!decide ((lkI f.1 k).2.1=call) ||decide ((cl (rn f.1 (lkI f.1 k).2.2.1).2.2.2.2.2.2.2.1 (lkI f.1 k).2.2.2.1).2.2.1<arr)) with
 |true=>exact⟨(Zbu.refl f).weak (by omega),rfl⟩
 |false=>
  simp only[cond_false]
  cases (lkI f.1 k).2.2.2.2.1 with
  |true=>exact⟨Zco ..,ZfW ..⟩
  |false=>
   simp only[cond_false]
   cases (al&& ((cl (rn f.1 (lkI f.1 k).2.2.1).2.2.2.2.2.2.2.1 (lkI f.1 k).2.2.2.1).2.2.2.1&&less ((f.2.2.2.1[(lkI f.1 k).2.2.1.toNat]?).getD (0,0,false,())).1 (lkI f.1 k).2.2.2.1)) with
   |true=>exact⟨⟨rfl,rfl,Vv ..,rfl,by show f.2.2.2.2.2.1.length<=_;omega,rfl⟩,rfl⟩
   |false=>exact⟨(Zbu.refl f).weak (by omega),rfl⟩
theorem Zc4(call arr l:Int)(al:Bool): ∀ (ks:List Int) (f:ZaH),Zbu f (ks.foldl (ZaF call arr l al) f) ks.length/\(ks.foldl (ZaF call arr l al) f).2.1=f.2.1
 | [],f=>⟨Zbu.refl f,rfl⟩
 |k::ks,f=>by obtain⟨h1,h2⟩:=Zc2 call arr l al f k;obtain⟨h3,h4⟩:=Zc4 call arr l al ks (ZaF call arr l al f k);exact⟨(h1.trans h3).weak (by simp;omega),h4.trans h2⟩
structure ZmA (n:Zas) (x:ZlD):Prop where
 to:inR x.2.2.1 n.2.2.1.length=true
 call:inR x.2.2.2.1 (rn n x.2.2.1).2.2.2.2.2.2.2.1.length=true
theorem ZnM(f:ZaH){run call:Int}(l:Int)(al:Bool)(hrun:inR run f.1.2.2.1.length=true)(hcall:inR call (rn f.1 run).2.2.2.2.2.2.2.1.length=true)
  (hout:f.2.2.2.2.2.2.1.length=f.1.2.2.1.length) (hlk: ∀ks∈f.2.2.2.2.2.2.1,ks.length<=1024/\ ∀k∈ks,inR k f.1.2.2.2.1.length=true/\ZmA f.1 (lkI f.1 k))
  (hr:f.2.2.2.2.1.length=f.1.2.2.1.length) (hn:f.2.2.2.1.length=f.1.2.2.1.length) (ho:f.2.2.2.2.2.1.length+1024<4000000000):F120 f run call l al=some (Zbz f run call l al):=by
 unfold F120 Zbz;rw[Za5 hrun u0];simp only[bind_some];rw[show ((f.1.2.2.1[run.toNat]?).getD u0)=rn f.1 run from rfl,Za5 hcall c0];simp only[bind_some];rw[show (((rn f.1 run).2.2.2.2.2.2.2.1[call.toNat]?).getD c0)=cl (rn f.1 run).2.2.2.2.2.2.2.1 call from rfl];have hro:inR run f.2.2.2.2.2.2.1.length=true:=by rw[hout];exact hrun
 rw[Za5 hro []];simp only[bind_some]
 have hrl:run.toNat<f.2.2.2.2.2.2.1.length:=by unfold inR at hro;simp only[Vd,decide_eq_true_eq]at hro;omega
 have hks:=hlk _ (by rw[Zak hrl (d:=[])];exact Vf hrl: (f.2.2.2.2.2.2.1[run.toNat]?).getD []∈f.2.2.2.2.2.2.1);generalize (f.2.2.2.2.2.2.1[run.toNat]?).getD []=ks at*;generalize (cl (rn f.1 run).2.2.2.2.2.2.2.1 call).2.1=arr;obtain⟨hkl,hkm⟩:=hks;refine Zbi (fun r=>r=ks.foldl (ZaF call arr l al) f) ?_ (fun r hr=>by rw[hr]);refine ZaL ks.length _ (fun i (st:ZaH×Int)=>st=((ks.take i).foldl (ZaF call arr l al) f,(i:Int))) ?_ ?_ _ rfl
 ·rintro i _ hi rfl;left;obtain⟨hk,hlab⟩:=Zc4 call arr l al (ks.take i) f;have e2: (ks.take (i+1)).foldl (ZaF call arr l al) f=ZaF call arr l al ((ks.take i).foldl (ZaF call arr l al) f) ks[i]:=by rw[Vh hi,Vta];rfl
  rw[e2];obtain⟨hm1,hm2⟩:=hkm _ (Vf hi);have hopn:=hk.opn;rw[Vt]at hopn;have hnet:=hk.net;have hlinked:=hk.linked;have hruns:=hk.runs;generalize (ks.take i).foldl (ZaF call arr l al) f=g at*;rw[<-hnet]at hm1 hm2 hr hn;obtain⟨ht,hc⟩:=hm2;simp only[Zat hi,cond_true,Zaf hi,bind_some,Zaj hi (show _<=9223372036854775807 by omega)];rw[Za5 hm1 (0,0,0,0,false,())];simp only[bind_some];rw[show ((g.1.2.2.2.1[(ks[i]).toNat]?).getD (0,0,0,0,false,()))=lkI g.1 ks[i] from rfl];unfold ZaF;generalize lkI g.1 ks[i]=x at*;rw[Za5 ht u0];simp only[bind_some];rw[show ((g.1.2.2.1[x.2.2.1.toNat]?).getD u0)=rn g.1 x.2.2.1 from rfl,Za5 hc c0]
  simp only[bind_some];rw[show (((rn g.1 x.2.2.1).2.2.2.2.2.2.2.1[x.2.2.2.1.toNat]?).getD c0)=cl (rn g.1 x.2.2.1).2.2.2.2.2.2.2.1 x.2.2.2.1 from rfl];generalize cl (rn g.1 x.2.2.1).2.2.2.2.2.2.2.1 x.2.2.2.1=c at*;have ht2:=ht;unfold inR at ht2;simp only[Vd,decide_eq_true_eq]at ht2;obtain⟨j,hj⟩: ∃j:Nat,x.2.2.1=(j:Int):=⟨x.2.2.1.toNat,by omega⟩;have hjl:j<g.1.2.2.1.length:=by omega
  rw[hj];simp only[Ve];have hb:=Zjy g hjl (by omega) (by omega) (x.2.2.2.1,l,true,());have hjn:j<g.2.2.2.1.length:=by omega
  have e1: (bif !decide (x.2.1=call) then some true else some (decide (c.2.2.1<arr)))=some (!decide (x.2.1=call) ||decide (c.2.2.1<arr)):=by
   cases decide (x.2.1=call)<;>rfl
  rw[e1];simp only[bind_some]
  cases (!decide (x.2.1=call) ||decide (c.2.2.1<arr)) with
  |true=>exact⟨_,rfl,rfl⟩
  |false=>
   simp only[cond_false]
   cases x.2.2.2.2.1 with
   |true=>
    simp only[cond_true];rw[hb]
    exact⟨_,rfl,rfl⟩
   |false=>
    simp only[cond_false,ZaE hjn,bind_some,Va hjn,ZgK]
    cases al with
    |false=>exact⟨_,rfl,rfl⟩
    |true=>
     simp only[cond_true,Vm]
     cases c.2.2.2.1 with
     |false=>exact⟨_,rfl,rfl⟩
     |true=>
      simp only[cond_true,bind_some,Vm,Vu]
      cases less (g.2.2.2.1[j]).1 x.2.2.2.1 with
      |false=>exact⟨_,rfl,rfl⟩
      |true=>exact⟨_,rfl,rfl⟩
 ·rintro _ rfl;rw[Vq];simp only[Zaw,cond_false];exact⟨_,rfl,rfl⟩
def Zl2(f:ZaH)(i:Nat)(a l:Int):ZaH:=(f.1,f.2.1,f.2.2.1.modify i fun p=>(p.1,a,p.2.2.1,p.2.2.2.1,l,p.2.2.2.2.2),f.2.2.2)
def ZmG(f:ZaH)(s:Int):ZbI:=(f.2.2.1[s.toNat]?).getD (0,0,0,0,0,0,())
def ZhJ(f:ZaH)(run:Int):List Int:=(f.2.2.2.2.2.2.1[run.toNat]?).getD []
def Zbp(run:Int)(b:ZcA)(fr:Zbe)(l:List Zbe)(f:ZaH)(i:Nat):ZaH:=
 bif !(cl l (i:Int)).2.2.2.2.1&&decide ((ZhJ f run).length=0) then f else
 bif (cl l (i:Int)).2.2.2.2.1&&less (ZmG (Zbz (ZgR f (true,run,b.1,(i:Int),fr.1,(cl l (i:Int)).1,fr.2.2.1,(cl l (i:Int)).2.1,b.2.2.1,()) b.2.1) run (i:Int) (f.2.1.length:Int) (cl l (i:Int)).2.2.2.2.1) (cl l (i:Int)).1).2.1 (cl l (i:Int)).2.1 then
  Zl2 (Zbz (ZgR f (true,run,b.1,(i:Int),fr.1,(cl l (i:Int)).1,fr.2.2.1,(cl l (i:Int)).2.1,b.2.2.1,()) b.2.1) run (i:Int) (f.2.1.length:Int) (cl l (i:Int)).2.2.2.2.1) (cl l (i:Int)).1.toNat (cl l (i:Int)).2.1 (f.2.1.length:Int)
 else Zbz (ZgR f (true,run,b.1,(i:Int),fr.1,(cl l (i:Int)).1,fr.2.2.1,(cl l (i:Int)).2.1,b.2.2.1,()) b.2.1) run (i:Int) (f.2.1.length:Int) (cl l (i:Int)).2.2.2.2.1
theorem Zez(f:ZaH)(x:Zar)(p:Int):Zbu f (ZgR f x p) 0:=⟨rfl,rfl,rfl,rfl,by show f.2.2.2.2.2.1.length<=_;omega,rfl⟩
theorem Zoz(f:ZaH)(i:Nat)(a l:Int):Zbu f (Zl2 f i a l) 0:=⟨rfl,Vnb ..,rfl,rfl,by show f.2.2.2.2.2.1.length<=_;omega,rfl⟩
theorem Zdd(f:ZaH)(run call l:Int)(al:Bool):Zbu f (Zbz f run call l al) (ZhJ f run).length/\(Zbz f run call l al).2.1=f.2.1:=Zc4 ..
theorem Zjx(run:Int)(b:ZcA)(fr:Zbe)(l:List Zbe)(f:ZaH)(i:Nat):Zbu f (Zbp run b fr l f i) (ZhJ f run).length/\(Zbp run b fr l f i).2.1.length<=f.2.1.length+1:=by
 unfold Zbp
 cases (!(cl l (i:Int)).2.2.2.2.1&&decide ((ZhJ f run).length=0)) with
 |true=>exact⟨(Zbu.refl f).weak (Vla _),Nat.le_succ _⟩
 |false=>
  simp only[cond_false];generalize (true,run,b.1,(i:Int),fr.1,(cl l (i:Int)).1,fr.2.2.1,(cl l (i:Int)).2.1,b.2.2.1,())=x;obtain⟨h1,h2⟩:=Zdd (ZgR f x b.2.1) run (i:Int) (f.2.1.length:Int) (cl l (i:Int)).2.2.2.2.1;have h3:=(Zez f x b.2.1).trans h1;have ho:ZhJ (ZgR f x b.2.1) run=ZhJ f run:=rfl;rw[ho]at h3
  have hlab: (Zbz (ZgR f x b.2.1) run (i:Int) (f.2.1.length:Int) (cl l (i:Int)).2.2.2.2.1).2.1.length=f.2.1.length+1:=by rw[h2];simp [ZgR]
  cases ((cl l (i:Int)).2.2.2.2.1&&less (ZmG (Zbz (ZgR f x b.2.1) run (i:Int) (f.2.1.length:Int) (cl l (i:Int)).2.2.2.2.1) (cl l (i:Int)).1).2.1 (cl l (i:Int)).2.1) with
  |true=>
   simp only[cond_true];refine⟨(h3.trans (Zoz ..)).weak (by omega), ?_⟩;show (Zbz (ZgR f x b.2.1) run (i:Int) (f.2.1.length:Int) (cl l (i:Int)).2.2.2.2.1).2.1.length<=_
   omega
  |false=>
   simp only[cond_false];exact⟨h3.weak (by omega),by omega⟩
structure St (f:ZaH):Prop where
 sound:Zcr f.1
 now:f.2.2.1.length=f.1.1.length
 linked:f.2.2.2.1.length=f.1.2.2.1.length
 runs:f.2.2.2.2.1.length=f.1.2.2.1.length
 outl:f.2.2.2.2.2.2.1.length=f.1.2.2.1.length
 out: ∀ks∈f.2.2.2.2.2.2.1,ks.length<=1024/\ ∀k∈ks,inR k f.1.2.2.2.1.length=true/\ZmA f.1 (lkI f.1 k)
theorem St.step{f g:ZaH}{k:Nat}(h:St f)(x:Zbu f g k):St g:=
 ⟨by rw[x.net];exact h.sound,by rw[x.now,x.net];exact h.now,by rw[x.linked,x.net];exact h.linked,by rw[x.runs,x.net];exact h.runs,by rw[x.out,x.net];exact h.outl,by rw[x.out,x.net];exact h.out⟩
theorem Ztp{f:ZaH}(h:St f)(run:Int): (ZhJ f run).length<=1024:=by
 unfold ZhJ;by_cases hr:run.toNat<f.2.2.2.2.2.2.1.length
 ·rw[Zak hr];exact(h.out _ (Vf hr)).1
 ·rw[Vka (by omega)];simp
theorem ZkX{f:ZaH}(h:St f){run i:Nat}(b:ZcA)(fr:Zbe)(hrun:run<f.1.2.2.1.length)(hi:i< (f.1.2.2.1[run]).2.2.2.2.2.2.2.1.length)(hl:f.2.1.length<4000000000)(ho:f.2.2.2.2.2.1.length+1024<4000000000):
  (Vb (idx (f.1.2.2.1[run]).2.2.2.2.2.2.2.1 (i:Int)) fun x5=>
 Vb
 (bif !x5.2.2.2.2.1 then Vb (idx f.2.2.2.2.2.2.1 (run:Int)) fun x6=>some (decide ((↑(Vg x6):Int)=(0:Int)))
 else some false)
 fun x7=>
 bif x7 then
 some
 (Sum.inl
 (f,
 Vc .i64 ((i:Int)+(1:Int))))
 else
 Vb
 (F118
 f
 (true,(run:Int),b.1,(i:Int),fr.1,x5.1,fr.2.2.1,x5.2.1,b.2.2.1,()) b.2.1)
 fun x8=>
 Vb
 (F120
 x8.1
 (run:Int) (i:Int) x8.2 x5.2.2.2.2.1)
 fun x9=>
 Vb (inb x5.1 (Vg x9.2.2.1)) fun x10=>
 Vb
 (bif x5.2.2.2.2.1 then
 Vb x9.2.2.1[x10]? fun x11=>
 bif decide (x11.2.1=(-1:Int)) then some true
 else Vb x9.2.2.1[x10]? fun x12=>some (decide (x5.2.1<x12.2.1))
 else some false)
 fun x13=>
 bif x13 then
 Vb x9.2.2.1[x10]? fun x14=>
 Vb (Vub x9.2.2.1 x10 (x14.1,x5.2.1,x14.2.2))[x10]? fun x15=>
 some
 (.inl
 ((x9.1,x9.2.1,
 Vub (Vub x9.2.2.1 x10 (x14.1,x5.2.1,x14.2.2)) x10
 (x15.1,x15.2.1,x15.2.2.1,x15.2.2.2.1,x8.2,x15.2.2.2.2.2),
 x9.2.2.2.1,x9.2.2.2.2.1,x9.2.2.2.2.2.1,x9.2.2.2.2.2.2.1,()),
 Vc .i64 ((i:Int)+(1:Int))))
 else
 some
 (.inl
 (x9,
 Vc .i64 ((i:Int)+(1:Int)))))=(some (.inl (Zbp (run:Int) b fr (f.1.2.2.1[run]).2.2.2.2.2.2.2.1 f i,((i+1:Nat):Int))):Option ((ZaH×Int) ⊕ ZaH)):=by
 have hmem:=Vf hrun;have hcalls:=(h.sound.many _ hmem).2;have w1:Vc .i64 ((i:Int)+1)=((i+1:Nat):Int):=by rw[Zae (by omega) (by omega)];omega
 have ec:cl (f.1.2.2.1[run]).2.2.2.2.2.2.2.1 (i:Int)=(f.1.2.2.1[run]).2.2.2.2.2.2.2.1[i]:=by unfold cl;rw[Ve,Zak hi]
 have hst:=h.sound.call _ hmem _ (Vf hi);unfold Zbp;rw[ec,w1];simp only[Zaf hi,bind_some];have ho2:run<f.2.2.2.2.2.2.1.length:=by rw[h.outl];exact hrun
 have eo:ZhJ f (run:Int)=f.2.2.2.2.2.2.1[run]:=by unfold ZhJ;rw[Ve,Zak ho2]
 rw[eo];simp only[Zaf ho2,bind_some]
 have hcall:inR (i:Int) (rn f.1 (run:Int)).2.2.2.2.2.2.2.1.length=true:=by unfold rn inR;rw[Ve,Zak hrun,Vd,decide_eq_true_eq,decide_eq_true_eq];omega
 have hrr:inR (run:Int) f.1.2.2.1.length=true:=by unfold inR;rw[Vd,decide_eq_true_eq,decide_eq_true_eq];omega
 generalize (f.1.2.2.1[run]).2.2.2.2.2.2.2.1[i]=c at*
 have e1: (bif !c.2.2.2.2.1 then some (decide (((f.2.2.2.2.2.2.1[run]).length:Int)=0)) else some false)=some (!c.2.2.2.2.1&&decide ((f.2.2.2.2.2.2.1[run]).length=0)):=by
  rw[show decide (((f.2.2.2.2.2.2.1[run]).length:Int)=0)=decide ((f.2.2.2.2.2.2.1[run]).length=0) from decide_eq_decide.2 (by omega)]
  cases c.2.2.2.2.1<;>rfl
 rw[e1];simp only[bind_some]
 cases (!c.2.2.2.2.1&&decide ((f.2.2.2.2.2.2.1[run]).length=0)) with
 |true=>rfl
 |false=>
  simp only[cond_false];rw[ZrQ f hl];simp only[bind_some];generalize (true,(run:Int),b.1,(i:Int),fr.1,c.1,fr.2.2.1,c.2.1,b.2.2.1,())=x;have hA:=Zez f x b.2.1;have hS:=h.step hA;rw[ZnM (ZgR f x b.2.1) (f.2.1.length:Int) c.2.2.2.2.1 hrr hcall hS.outl hS.out hS.runs hS.linked ho];simp only[bind_some];have hG:=hS.step (Zdd (ZgR f x b.2.1) (run:Int) (i:Int) (f.2.1.length:Int) c.2.2.2.2.1).1;have hnet:=(Zdd (ZgR f x b.2.1) (run:Int) (i:Int) (f.2.1.length:Int) c.2.2.2.2.1).1.net;generalize Zbz (ZgR f x b.2.1) (run:Int) (i:Int) (f.2.1.length:Int) c.2.2.2.2.1=g at*;obtain⟨s,hs⟩: ∃s:Nat,c.1=(s:Int):=⟨c.1.toNat,by omega⟩
  have hsl:s<g.2.2.1.length:=by rw[hG.now,hnet];show s<f.1.1.length;omega
  rw[hs];unfold ZmG;simp only[ZaE hsl,bind_some,Va hsl,Ve,Vu];rw[Zev]
  cases c.2.2.2.2.1 with
  |false=>rfl
  |true=>
   simp only[cond_true,bind_some,Vm]
   cases less (g.2.2.1[s]).2.1 c.2.1 with
   |false=>rfl
   |true=>
    simp only[cond_true,Vn hsl,bind_some,Voa];unfold Zl2;rw[Zkb hsl]
def Zc6(run:Int)(b:ZcA)(fr:Zbe)(l:List Zbe)(k:Nat):Nat->ZaH->ZaH
 |0,f=>f
 |m+1,f=>Zbp run b fr l (Zc6 run b fr l k m f) (k+m)
theorem ZcT(run:Int)(b:ZcA)(fr:Zbe)(l:List Zbe)(k:Nat): ∀ (m:Nat) (f:ZaH),St f->Zbu f (Zc6 run b fr l k m f) (1024*m)/\(Zc6 run b fr l k m f).2.1.length<=f.2.1.length+m
 |0,f,_=>⟨(Zbu.refl f).weak (by omega),by show f.2.1.length<=_;omega⟩
 |m+1,f,h=>by obtain⟨h1,h2⟩:=ZcT run b fr l k m f h;obtain⟨h3,h4⟩:=Zjx run b fr l (Zc6 run b fr l k m f) (k+m);have h5:=Ztp (h.step h1) run;refine⟨(h1.trans h3).weak (by omega), ?_⟩;show (Zbp run b fr l (Zc6 run b fr l k m f) (k+m)).2.1.length<=_;omega
def Zc5(f:ZaH)(i:Nat):ZaH:=
 Zc6 (i:Int) ((f.2.2.2.2.1[i]?).getD (0,0,false,())) (cl (rn f.1 (i:Int)).2.2.2.2.2.2.2.1 ((f.2.2.2.2.1[i]?).getD (0,0,false,())).1) (rn f.1 (i:Int)).2.2.2.2.2.2.2.1 (((f.2.2.2.2.1[i]?).getD (0,0,false,())).1.toNat+1)
  ((rn f.1 (i:Int)).2.2.2.2.2.2.2.1.length - (((f.2.2.2.2.1[i]?).getD (0,0,false,())).1.toNat+1)) f
theorem Zsd{f:ZaH}(h:St f){i:Nat}(hi:i<f.1.2.2.1.length)(hb:inR ((f.2.2.2.2.1[i]?).getD (0,0,false,())).1 (f.1.2.2.1[i]).2.2.2.2.2.2.2.1.length=true)(hl:f.2.1.length+100<4000000000)(ho:f.2.2.2.2.2.1.length+100000<4000000000):
  F124 f (i:Int)=some (Zc5 f i):=by
 unfold F124 Zc5;have hi' :i<f.2.2.2.2.1.length:=by rw[h.runs];exact hi
 have hr:rn f.1 (i:Int)=f.1.2.2.1[i]:=by unfold rn;rw[Ve,Zak hi]
 rw[hr];rw[Zak hi']at hb ⊢;simp only[ZaE hi',bind_some,Va hi',Zaf hi];generalize f.2.2.2.2.1[i]=b at*;have hcalls:=(h.sound.many _ (Vf hi)).2;rw[Za5 hb c0];simp only[bind_some];rw[show (((f.1.2.2.1[i]).2.2.2.2.2.2.2.1[b.1.toNat]?).getD c0)=cl (f.1.2.2.1[i]).2.2.2.2.2.2.2.1 b.1 from rfl];generalize cl (f.1.2.2.1[i]).2.2.2.2.2.2.2.1 b.1=fr;unfold inR at hb;simp only[Vd,decide_eq_true_eq]at hb;obtain⟨k,hk⟩: ∃k:Nat,b.1=(k:Int):=⟨b.1.toNat,by omega⟩;generalize hL: (f.1.2.2.1[i]).2.2.2.2.2.2.2.1=l at*;have hkl:k<l.length:=by omega
 have w0:Vc .i64 (b.1+1)=((k+1+0:Nat):Int):=by rw[hk,Zae (by omega) (by omega)];omega
 rw[w0,show b.1.toNat=k by omega];refine Zbi (fun r=>r=Zc6 (i:Int) b fr l (k+1) (l.length - (k+1)) f) ?_ (fun r hr=>by rw[hr]);refine ZaL (l.length - (k+1)) _ (fun m (st:ZaH×Int)=>st=(Zc6 (i:Int) b fr l (k+1) m f,((k+1+m:Nat):Int))) ?_ ?_ _ rfl
 ·rintro m _ hm rfl;left;obtain⟨h1,h2⟩:=ZcT (i:Int) b fr l (k+1) m f h;have hS:=h.step h1;have hnet:=h1.net;have hopn:=h1.opn;show∃s',_=_/\s' =(Zbp (i:Int) b fr l (Zc6 (i:Int) b fr l (k+1) m f) (k+1+m),((k+1+m+1:Nat):Int));generalize Zc6 (i:Int) b fr l (k+1) m f=g at*;have hrun:i<g.1.2.2.1.length:=by rw[hnet];exact hi
  have hL2: (g.1.2.2.1[i]).2.2.2.2.2.2.2.1=l:=by
   have:g.1.2.2.1[i]=f.1.2.2.1[i]:=by simp only[hnet]
   rw[this,hL]
  have hv:=ZkX hS (run:=i) (i:=k+1+m) b fr hrun (by rw[hL2];omega) (by omega) (by omega);rw[hL2]at hv;refine⟨_, ?_,rfl⟩;rw[Zat (show k+1+m<l.length by omega)];exact hv
 ·rintro _ rfl;rw[show k+1+(l.length - (k+1))=l.length by omega];simp only[Zaw,cond_false];exact⟨_,rfl,rfl⟩
end Q
namespace Q
open Tr Go
open Option (bind_some)
abbrev b00:ZcA:=(-1, -1,false,())
theorem Zhc{n:Nat}(hn:n<=4096):F126 (n:Int)=some (Vj n b00):=by
 unfold F126
 have hg:Zam (decide ((0:Int)<=(n:Int)/\(n:Int)<=(n:Int)/\(n:Int)<=(Zan:Int)))=some ():=by
  have hm: (Zan:Int)=549755813888:=by simp [Zan]
  rw[decide_eq_true (by rw[hm];omega)];rfl
 erw[hg];simp only[bind_some,Ve,Vib];refine Zbi (fun r=>r=Vj n b00) ?_ (fun r hr=>by rw[hr]);refine ZaL n _ (fun i (st:List ZcA×Int)=>st=(Vj i b00++Vj (n - i) (0,0,false,()),(i:Int))) ?_ ?_ _ (by simp)
 ·rintro i _ hi rfl;left;have hlen: (Vj i b00++Vj (n - i) ((0,0,false,()):ZcA)).length=n:=by simp;omega
  simp only[Zat hi,cond_true,hlen,ZaE hi,bind_some];rw[Va (by rw[hlen];exact hi)];simp only[bind_some];refine⟨_,rfl, ?_⟩;rw[Zaj hi (by omega)];have e:n - i=(n - (i+1))+1:=by omega
  rw[e,List.replicate_succ,Vhb _ _ (by simp),Vib,Vza,Vlb,List.replicate_succ',Vsb];rfl
 ·rintro _ rfl;simp only[Zaw,cond_false,Vza,List.replicate_zero,Vcb];exact⟨_,rfl,rfl⟩
def ZbP(before:List ZbI)(i:Nat)(l:List Zbe)(f:ZaH)(k:Nat):ZaH:=
 bif (cl l (k:Int)).2.2.2.1&& (!decide (((before[(cl l (k:Int)).1.toNat]?).getD (0,0,0,0,0,0,())).2.2.1= -1) && (decide (((before[(cl l (k:Int)).1.toNat]?).getD (0,0,0,0,0,0,())).2.2.1<=(cl l (k:Int)).2.2.1) &&less ((f.2.2.2.2.1[i]?).getD (0,0,false,())).1 (k:Int))) then
  Zbg f i ((k:Int),((before[(cl l (k:Int)).1.toNat]?).getD (0,0,0,0,0,0,())).2.2.2.2.2.1,false,()) else f
theorem ZjQ(before:List ZbI)(i:Nat)(l:List Zbe)(f:ZaH)(k:Nat):Zbu f (ZbP before i l f k) 1/\(ZbP before i l f k).2.1=f.2.1:=by
 unfold ZbP;generalize ((before[(cl l (k:Int)).1.toNat]?).getD (0,0,0,0,0,0,()))=p
 cases ((cl l (k:Int)).2.2.2.1&& (!decide (p.2.2.1= -1) && (decide (p.2.2.1<=(cl l (k:Int)).2.2.1) &&less ((f.2.2.2.2.1[i]?).getD (0,0,false,())).1 (k:Int)))) with
 |true=>exact⟨Zco ..,ZfW ..⟩
 |false=>exact⟨(Zbu.refl f).weak (by omega),rfl⟩
def ZcP(before:List ZbI)(i:Nat)(l:List Zbe):Nat->ZaH->ZaH
 |0,f=>f
 |m+1,f=>ZbP before i l (ZcP before i l m f) m
theorem ZcQ(before:List ZbI)(i:Nat)(l:List Zbe): ∀ (m:Nat) (f:ZaH),Zbu f (ZcP before i l m f) m/\(ZcP before i l m f).2.1=f.2.1
 |0,f=>⟨Zbu.refl f,rfl⟩
 |m+1,f=>by obtain⟨h1,h2⟩:=ZcQ before i l m f;obtain⟨h3,h4⟩:=ZjQ before i l (ZcP before i l m f) m;exact⟨h1.trans h3,h4.trans h2⟩
theorem Zv8{α:Type}{o:Option α}{z:α}(h: ∃r,o=some r/\r=z):o=some z:=by obtain⟨r,rfl,rfl⟩:=h;rfl
theorem Zss{before:List ZbI}{f:ZaH}(h:St f){i:Nat}(hi:i<f.1.2.2.1.length)(hb:before.length=f.1.1.length)(ho:f.2.2.2.2.2.1.length+100<4000000000):
  run
 (fun s11:ZaH×Int=>
 bif decide (s11.2< (↑(Vg (f.1.2.2.1[i]).2.2.2.2.2.2.2.1):Int)) then
 Vb (idx (f.1.2.2.1[i]).2.2.2.2.2.2.2.1 s11.2) fun x12=>
 Vb (idx before x12.1) fun x13=>
 Vb
 (bif x12.2.2.2.1 then
 bif !decide (x13.2.2.1=(-1:Int)) then
 bif decide (x13.2.2.1<=x12.2.2.1) then
 Vb (inb (i:Int) (Vg s11.1.2.2.2.2.1)) fun x14=>
 Vb s11.1.2.2.2.2.1[x14]? fun x15=>Vb (F114 x15 s11.2) fun x16=>some x16
 else some false
 else some false
 else some false)
 fun x17=>
 bif x17 then
 Vb
 (F119
 s11.1
 (i:Int) (s11.2,x13.2.2.2.2.2.1,false,()))
 fun x18=>
 some
 (.inl
 (x18,
 Vc .i64 (s11.2+(1:Int))))
 else
 some
 (.inl
 (s11.1,
 Vc .i64 (s11.2+(1:Int))))
 else
 some
 (.inr
 s11.1))
 (f,(0:Int))=some (ZcP before i (f.1.2.2.1[i]).2.2.2.2.2.2.2.1 (f.1.2.2.1[i]).2.2.2.2.2.2.2.1.length f):=by
 have hmem:=Vf hi;have hmany:=(h.sound.many _ hmem).2;have hcall:=h.sound.call _ hmem;generalize hL: (f.1.2.2.1[i]).2.2.2.2.2.2.2.1=l at*;refine Zv8 (ZaL l.length _ (fun k (st:ZaH×Int)=>st=(ZcP before i l k f,(k:Int))) ?_ ?_ _ rfl)
 ·rintro k _ hk rfl;left;obtain⟨h1,h2⟩:=ZcQ before i l k f;have hS:=h.step h1;have hopn:=h1.opn;have hnet:=h1.net;show∃s',_=_/\s' =(ZbP before i l (ZcP before i l k f) k,((k+1:Nat):Int));generalize ZcP before i l k f=g at*;have hc:=hcall _ (Vf hk);have ec:cl l (k:Int)=l[k]:=by unfold cl;rw[Ve,Zak hk]
  unfold ZbP;rw[ec]
  have hin:inR (l[k]).1 before.length=true:=by unfold inR;rw[Vd,decide_eq_true_eq,decide_eq_true_eq,hb];exact hc
  simp only[Zat hk,cond_true,Zaf hk,bind_some,Zaj hk (show _<=9223372036854775807 by omega)];rw[Za5 hin (0,0,0,0,0,0,())];simp only[bind_some];generalize (before[(l[k]).1.toNat]?).getD (0,0,0,0,0,0,())=p;have hig:i<g.2.2.2.2.1.length:=by rw[hS.runs,hnet];exact hi
  have hir:i<g.1.2.2.1.length:=by rw[hnet];exact hi
  simp only[ZaE hig,bind_some,Va hig,ZgK,Vu];rw[Zjy g hir hS.runs (by omega)]
  cases (l[k]).2.2.2.1 with
  |false=>exact⟨_,rfl,rfl⟩
  |true=>
   simp only[cond_true,Vm]
   cases decide (p.2.2.1= -1) with
   |true=>exact⟨_,rfl,rfl⟩
   |false=>
    simp only[Vl,cond_true,Vm]
    cases decide (p.2.2.1<=(l[k]).2.2.1) with
    |false=>exact⟨_,rfl,rfl⟩
    |true=>
     simp only[cond_true,bind_some,Vm]
     cases less (g.2.2.2.2.1[i]).1 (k:Int)<;>exact⟨_,rfl,rfl⟩
 ·rintro _ rfl;simp only[Zaw,cond_false];exact⟨_,rfl,rfl⟩
def ZdX(before:List ZbI)(boarded:List ZcA)(f:ZaH)(i:Nat):ZaH:=
 ZcP before i (rn f.1 (i:Int)).2.2.2.2.2.2.2.1 (rn f.1 (i:Int)).2.2.2.2.2.2.2.1.length (bif !decide (((boarded[i]?).getD (0,0,false,())).1= -1) then Zbg f i ((boarded[i]?).getD (0,0,false,())) else f)
theorem ZmO{before:List ZbI}{boarded:List ZcA}{f:ZaH}(h:St f){i:Nat}(hi:i<f.1.2.2.1.length):Zbu f (ZdX before boarded f i) 33/\(ZdX before boarded f i).2.1=f.2.1:=by
 unfold ZdX;have hr:rn f.1 (i:Int)=f.1.2.2.1[i]:=by unfold rn;rw[Ve,Zak hi]
 rw[hr];have hm:=(h.sound.many _ (Vf hi)).2
 have h0:Zbu f (bif !decide (((boarded[i]?).getD (0,0,false,())).1= -1) then Zbg f i ((boarded[i]?).getD (0,0,false,())) else f) 1/\(bif !decide (((boarded[i]?).getD (0,0,false,())).1= -1) then Zbg f i ((boarded[i]?).getD (0,0,false,())) else f).2.1=f.2.1:=by
  cases !decide (((boarded[i]?).getD (0,0,false,())).1= -1) with
  |true=>exact⟨Zco ..,ZfW ..⟩
  |false=>exact⟨(Zbu.refl f).weak (by omega),rfl⟩
 obtain⟨h1,h2⟩:=ZcQ before i (f.1.2.2.1[i]).2.2.2.2.2.2.2.1 (f.1.2.2.1[i]).2.2.2.2.2.2.2.1.length (bif !decide (((boarded[i]?).getD (0,0,false,())).1= -1) then Zbg f i ((boarded[i]?).getD (0,0,false,())) else f)
 exact⟨(h0.1.trans h1).weak (by omega),h2.trans h0.2⟩
def ZcO(before:List ZbI)(boarded:List ZcA):Nat->ZaH->ZaH
 |0,f=>f
 |m+1,f=>ZdX before boarded (ZcO before boarded m f) m
theorem ZcV{before:List ZbI}{boarded:List ZcA} : ∀ (m:Nat) {f:ZaH},St f->m<=f.1.2.2.1.length->Zbu f (ZcO before boarded m f) (33*m)/\(ZcO before boarded m f).2.1=f.2.1
 |0,f,_,_=>⟨(Zbu.refl f).weak (by omega),rfl⟩
 |m+1,f,h,hm=>by obtain⟨h1,h2⟩:=ZcV (before:=before) (boarded:=boarded) m h (by omega);obtain⟨h3,h4⟩:=ZmO (before:=before) (boarded:=boarded) (h.step h1) (i:=m) (by rw[h1.net];omega);exact⟨(h1.trans h3).weak (by omega),h4.trans h2⟩
def ZwJ(b:ZcA):Nat:=if b.1= -1 then 40 else b.1.toNat
def ZoI(l:List ZcA):Nat:=(l.map ZwJ).sum
theorem ZrA{l:List ZcA}{i:Nat}(hi:i<l.length)(b:ZcA):ZoI (l.set i b)+ZwJ l[i]=ZoI l+ZwJ b:=by
 unfold ZoI
 induction l generalizing i with
 |nil=>simp at hi
 |cons x l ih=>
  cases i with
  |zero=>simp;omega
  |succ i=>
   have:=ih (i:=i) (by simpa using hi);simp only[List.set_cons_succ,List.map_cons,List.sum_cons,List.getElem_cons_succ];omega
structure Brd (f:ZaH):Prop where
 call: ∀b∈f.2.2.2.2.1,b.1= -1\/0<=b.1/\b.1<32
 opn: ∀r∈f.2.2.2.2.2.1, ∃i:Nat,r=(i:Int)/\ ∃hi:i<f.1.2.2.1.length,inR ((f.2.2.2.2.1[i]?).getD (0,0,false,())).1 (f.1.2.2.1[i]).2.2.2.2.2.2.2.1.length=true
def Zgd(f:ZaH):Nat:=2*ZoI f.2.2.2.2.1+f.2.2.2.2.2.1.length
theorem ZdY{a b:Int} :less a b=true↔a= -1\/b<a:=by unfold less;rw[Bool.or_eq_true,decide_eq_true_eq,decide_eq_true_eq]
theorem ZgA{f:ZaH}(h:St f)(hb:Brd f){i:Nat}(hi:i<f.1.2.2.1.length){b:ZcA}(hc:inR b.1 (f.1.2.2.1[i]).2.2.2.2.2.2.2.1.length=true):Brd (Zbg f i b)/\Zgd (Zbg f i b)<=Zgd f:=by
 have hc' :=hc;unfold inR at hc';simp only[Vd,decide_eq_true_eq]at hc';have hm:=(h.sound.many _ (Vf hi)).2;have hi' :i<f.2.2.2.2.1.length:=by rw[h.runs];exact hi
 unfold Zbg;rw[Zak hi']
 cases hg: (!(rn f.1 (i:Int)).2.2.2.2.2.2.1&&less (f.2.2.2.2.1[i]).1 b.1) with
 |false=>exact⟨hb,Vo _⟩
 |true=>
  simp only[cond_true];rw[Vd]at hg;have hl:=ZdY.1 hg.2;have hold:=hb.call _ (Vf hi');refine⟨⟨fun x hx=> ?_,fun r hr=> ?_⟩, ?_⟩
  ·rcases List.mem_or_eq_of_mem_set hx with hx|rfl
   ·exact hb.call x hx
   ·exact .inr ⟨hc'.1,by omega⟩
  ·have key: ∀j:Nat, ∀hj:j<f.1.2.2.1.length,(j=i\/inR ((f.2.2.2.2.1[j]?).getD (0,0,false,())).1 (f.1.2.2.1[j]).2.2.2.2.2.2.2.1.length=true)->inR (((f.2.2.2.2.1.set i b)[j]?).getD (0,0,false,())).1 (f.1.2.2.1[j]).2.2.2.2.2.2.2.1.length=true:=by
    intro j hj hjj;by_cases e:i=j
    ·subst e;rw[Vn hi'];exact hc
    ·rw[Vca e];exact hjj.resolve_left fun e' =>e e'.symm
   rcases Veb.1 hr with hr|hr
   ·obtain⟨j,rfl,hj,hjb⟩:=hb.opn r hr;exact⟨j,rfl,hj,key j hj (.inr hjb)⟩
   ·simp only[Vob]at hr;exact⟨i,hr,hi,key i hi (.inl rfl)⟩
  ·have hs:=ZrA hi' b;unfold Zgd;simp only[Vha,Vda,Vfa]
   have h1:ZwJ b<ZwJ f.2.2.2.2.1[i]:=by
    unfold ZwJ;rw[if_neg (by omega)];split
    ·omega
    ·omega
   omega
theorem Brd.same{f g:ZaH}(h:Brd f)(h1:g.1=f.1)(h2:g.2.2.2.2.1=f.2.2.2.2.1)(h3:g.2.2.2.2.2.1=f.2.2.2.2.2.1):Brd g/\Zgd g<=Zgd f:=by refine⟨⟨by rw[h2];exact h.call, ?_⟩,by unfold Zgd;rw[h2,h3];exact Vo _⟩;rw[h3,h2,h1];exact h.opn
theorem ZjC{f:ZaH}(h:St f)(hb:Brd f)(call arr l:Int)(al:Bool){k:Int}(hk:ZmA f.1 (lkI f.1 k)):Brd (ZaF call arr l al f k)/\Zgd (ZaF call arr l al f k)<=Zgd f:=by
 unfold ZaF
 cases (!decide ((lkI f.1 k).2.1=call) ||decide ((cl (rn f.1 (lkI f.1 k).2.2.1).2.2.2.2.2.2.2.1 (lkI f.1 k).2.2.2.1).2.2.1<arr)) with
 |true=>exact⟨hb,Vo _⟩
 |false=>
  simp only[cond_false]
  cases (lkI f.1 k).2.2.2.2.1 with
  |true=>
   simp only[cond_true];have ht:=hk.to;unfold inR at ht;simp only[Vd,decide_eq_true_eq]at ht;have hj: (lkI f.1 k).2.2.1.toNat<f.1.2.2.1.length:=by omega
   have hc:=hk.call;unfold rn at hc;rw[Zak hj]at hc
   exact ZgA h hb hj hc
  |false=>
   simp only[cond_false]
   cases (al&& ((cl (rn f.1 (lkI f.1 k).2.2.1).2.2.2.2.2.2.2.1 (lkI f.1 k).2.2.2.1).2.2.2.1&&less ((f.2.2.2.1[(lkI f.1 k).2.2.1.toNat]?).getD (0,0,false,())).1 (lkI f.1 k).2.2.2.1)) with
   |true=>exact hb.same rfl rfl rfl
   |false=>exact⟨hb,Vo _⟩
theorem ZfF(call arr l:Int)(al:Bool): ∀ (ks:List Int) {f:ZaH},St f->Brd f->(∀k∈ks,ZmA f.1 (lkI f.1 k))->Brd (ks.foldl (ZaF call arr l al) f)/\Zgd (ks.foldl (ZaF call arr l al) f)<=Zgd f
 | [],f,_,hb,_=>⟨hb,Vo _⟩
 |k::ks,f,h,hb,hk=>by obtain⟨h1,_⟩:=Zc2 call arr l al f k;obtain⟨h2,h3⟩:=ZjC h hb call arr l al (hk k (by simp));obtain⟨h4,h5⟩:=ZfF call arr l al ks (h.step h1) h2 (fun k' hk' =>by rw[h1.net];exact hk k' (by simp [hk']));exact⟨h4,Vs h5 h3⟩
theorem Znk{f:ZaH}(h:St f)(hb:Brd f)(run call l:Int)(al:Bool):Brd (Zbz f run call l al)/\Zgd (Zbz f run call l al)<=Zgd f:=by
 unfold Zbz;by_cases hr:run.toNat<f.2.2.2.2.2.2.1.length
 ·rw[Zak hr];exact ZfF _ _ _ _ _ h hb fun k hk=>((h.out _ (Vf hr)).2 k hk).2
 ·rw[Vka (by omega)];exact⟨hb,Vo _⟩
theorem ZjZ{f:ZaH}(h:St f)(hb:Brd f)(run:Int)(b:ZcA)(fr:Zbe)(l:List Zbe)(i:Nat):Brd (Zbp run b fr l f i)/\Zgd (Zbp run b fr l f i)<=Zgd f:=by
 unfold Zbp
 cases (!(cl l (i:Int)).2.2.2.2.1&&decide ((ZhJ f run).length=0)) with
 |true=>exact⟨hb,Vo _⟩
 |false=>
  simp only[cond_false];generalize (true,run,b.1,(i:Int),fr.1,(cl l (i:Int)).1,fr.2.2.1,(cl l (i:Int)).2.1,b.2.2.1,())=x;obtain⟨a1,a2⟩:=hb.same (g:=ZgR f x b.2.1) rfl rfl rfl;obtain⟨b1,b2⟩:=Znk (h.step (Zez f x b.2.1)) a1 run (i:Int) (f.2.1.length:Int) (cl l (i:Int)).2.2.2.2.1;generalize Zbz (ZgR f x b.2.1) run (i:Int) (f.2.1.length:Int) (cl l (i:Int)).2.2.2.2.1=g at*
  cases ((cl l (i:Int)).2.2.2.2.1&&less (ZmG g (cl l (i:Int)).1).2.1 (cl l (i:Int)).2.1) with
  |true=>
   simp only[cond_true];obtain⟨c1,c2⟩:=b1.same (g:=Zl2 g (cl l (i:Int)).1.toNat (cl l (i:Int)).2.1 (f.2.1.length:Int)) rfl rfl rfl
   exact⟨c1,Vs c2 (Vs b2 a2)⟩
  |false=>exact⟨b1,Vs b2 a2⟩
theorem ZiO(run:Int)(b:ZcA)(fr:Zbe)(l:List Zbe)(k:Nat): ∀ (m:Nat) {f:ZaH},St f->Brd f->Brd (Zc6 run b fr l k m f)/\Zgd (Zc6 run b fr l k m f)<=Zgd f
 |0,f,_,hb=>⟨hb,Vo _⟩
 |m+1,f,h,hb=>by obtain⟨h1,h2⟩:=ZiO run b fr l k m h hb;obtain⟨h3,_⟩:=ZcT run b fr l k m f h;obtain⟨h4,h5⟩:=ZjZ (h.step h3) h1 run b fr l (k+m);exact⟨h4,Vs h5 h2⟩
def ZeL(f:ZaH):ZaH:=(f.1,f.2.1,f.2.2.1,f.2.2.2.1,f.2.2.2.2.1,f.2.2.2.2.2.1.take (f.2.2.2.2.2.1.length - 1),f.2.2.2.2.2.2)
noncomputable def Zhp(s21:ZaH):Option (ZaH ⊕ ZaH):=
 bif decide ((0:Int)< (↑(Vg s21.2.2.2.2.2.1):Int)) then
 Vb (inb (Vc .i64 ((↑(Vg s21.2.2.2.2.2.1):Int) - (1:Int))) (Vg s21.2.2.2.2.2.1)) fun x22=>
 Vb s21.2.2.2.2.2.1[x22]? fun x23=>
 Vb
 (sliceB (Vg s21.2.2.2.2.2.1) (Vg s21.2.2.2.2.2.1) none
 (some (Vc .i64 ((↑(Vg s21.2.2.2.2.2.1):Int) - (1:Int)))))
 fun x24=>
 Vb
 (F124
 (s21.1,s21.2.1,s21.2.2.1,s21.2.2.2.1,s21.2.2.2.2.1,Vzb x24.2 s21.2.2.2.2.2.1,s21.2.2.2.2.2.2.1,())
 x23)
 fun x25=>
 some (.inl x25)
 else some (.inr s21)
theorem Zn8{f:ZaH}(h:St f)(hb:Brd f):St (ZeL f)/\Brd (ZeL f):=
 ⟨⟨h.sound,h.now,h.linked,h.runs,h.outl,h.out⟩,⟨hb.call,fun r hr=>hb.opn r (List.mem_of_mem_take hr)⟩⟩
theorem Zm7{f:ZaH}(h:St f)(hb:Brd f)(h0:0<f.2.2.2.2.2.1.length)(hl:f.2.1.length+100<4000000000)(ho:f.2.2.2.2.2.1.length+100000<4000000000):
  ∃i:Nat,i<f.1.2.2.1.length/\inR ((f.2.2.2.2.1[i]?).getD (0,0,false,())).1 (f.1.2.2.1[i]!).2.2.2.2.2.2.2.1.length=true/\Zhp f=some (.inl (Zc5 (ZeL f) i))/\f.2.2.2.2.2.1=(ZeL f).2.2.2.2.2.1++[(i:Int)]:=by
 have hlast:f.2.2.2.2.2.1.length - 1<f.2.2.2.2.2.1.length:=by omega
 obtain⟨i,hi,hil,hib⟩:=hb.opn _ (Vf hlast)
 have hpop:f.2.2.2.2.2.1=(ZeL f).2.2.2.2.2.1++[(i:Int)]:=by show _=f.2.2.2.2.2.1.take (f.2.2.2.2.2.1.length - 1)++[(i:Int)];rw[<-hi, <-Vh hlast,show f.2.2.2.2.2.1.length - 1+1=f.2.2.2.2.2.1.length by omega,Vq]
 refine⟨i,hil,by rw[getElem!_pos f.1.2.2.1 i hil];exact hib, ?_,hpop⟩;unfold Zhp;have w1:Vc .i64 ((f.2.2.2.2.2.1.length:Int) - 1)=((f.2.2.2.2.2.1.length - 1:Nat):Int):=by rw[Zae (by omega) (by omega)];omega
 rw[decide_eq_true (show (0:Int)< (f.2.2.2.2.2.1.length:Int) by omega),w1];simp only[cond_true,ZaE hlast,bind_some,Va hlast,hi]
 have e2:sliceB f.2.2.2.2.2.1.length f.2.2.2.2.2.1.length none (some ((f.2.2.2.2.2.1.length - 1:Nat):Int))=some (0,f.2.2.2.2.2.1.length - 1):=by unfold sliceB;simp only[if_pos (show (0:Int)<=((f.2.2.2.2.2.1.length - 1:Nat):Int)/\((f.2.2.2.2.2.1.length - 1:Nat):Int)<=(f.2.2.2.2.2.1.length:Int) from ⟨by omega,by omega⟩),bind_some,Ve]
 rw[e2];simp only[bind_some];have hp:=Zn8 h hb;have hv:=Zsd hp.1 (i:=i) hil hib hl (by show (f.2.2.2.2.2.1.take (f.2.2.2.2.2.1.length - 1)).length+100000<_;rw[Vt];omega);show (Vb (F124 (ZeL f) (i:Int)) fun x25=>some (Sum.inl x25))=_;rw[hv];rfl
theorem ZlY(P:ZaH->Prop)(hP: ∀ (f:ZaH) (i:Nat),St f->Brd f->(hi:i<f.1.2.2.1.length)->f.2.2.2.2.2.1=(ZeL f).2.2.2.2.2.1++[(i:Int)]->inR ((f.2.2.2.2.1[i]?).getD (0,0,false,())).1 (f.1.2.2.1[i]).2.2.2.2.2.2.2.1.length=true->P f->P (Zc5 (ZeL f) i)): ∀ (k:Nat) {f:ZaH},Zgd f<=k->St f->Brd f->P f->f.2.1.length+32*k+100<4000000000->k<1000000->
  ∃g,run Zhp f=some g/\St g/\Brd g/\P g/\g.2.2.2.2.2.1=[]/\g.1=f.1/\g.2.1.length<=f.2.1.length+32*k/\g.2.2.2.2.2.2=f.2.2.2.2.2.2
 |0,f,hk,h,hb,hp,hl,_=>by
  have h0:f.2.2.2.2.2.1.length=0:=by unfold Zgd at hk;omega
  refine⟨f,ZbE ?_,h,hb,hp,Via.1 h0,rfl,by omega,rfl⟩;unfold Zhp;rw[h0]
  rfl
 |k+1,f,hk,h,hb,hp,hl,hkb=>by
  by_cases h0:f.2.2.2.2.2.1.length=0
  ·refine⟨f,ZbE ?_,h,hb,hp,Via.1 h0,rfl,by omega,rfl⟩;unfold Zhp;rw[h0];rfl
  ·obtain⟨i,hi,hin,hv,hpop⟩:=Zm7 h hb (by omega) (by omega) (by unfold Zgd at hk;omega);obtain⟨p1,p2⟩:=Zn8 h hb
   have hpf:Zgd (ZeL f)+1=Zgd f:=by unfold Zgd;show 2*ZoI f.2.2.2.2.1+(f.2.2.2.2.2.1.take (f.2.2.2.2.2.1.length - 1)).length+1=_;rw[Vt];omega
   have hh:=ZcT (i:Int) (((ZeL f).2.2.2.2.1[i]?).getD (0,0,false,())) (cl (rn (ZeL f).1 (i:Int)).2.2.2.2.2.2.2.1 (((ZeL f).2.2.2.2.1[i]?).getD (0,0,false,())).1) (rn (ZeL f).1 (i:Int)).2.2.2.2.2.2.2.1 ((((ZeL f).2.2.2.2.1[i]?).getD (0,0,false,())).1.toNat+1) ((rn (ZeL f).1 (i:Int)).2.2.2.2.2.2.2.1.length - ((((ZeL f).2.2.2.2.1[i]?).getD (0,0,false,())).1.toNat+1)) (ZeL f) p1;have hf:=ZiO (i:Int) (((ZeL f).2.2.2.2.1[i]?).getD (0,0,false,())) (cl (rn (ZeL f).1 (i:Int)).2.2.2.2.2.2.2.1 (((ZeL f).2.2.2.2.1[i]?).getD (0,0,false,())).1) (rn (ZeL f).1 (i:Int)).2.2.2.2.2.2.2.1 ((((ZeL f).2.2.2.2.1[i]?).getD (0,0,false,())).1.toNat+1) ((rn (ZeL f).1 (i:Int)).2.2.2.2.2.2.2.1.length - ((((ZeL f).2.2.2.2.1[i]?).getD (0,0,false,())).1.toNat+1)) p1 p2
   have hcl: (rn (ZeL f).1 (i:Int)).2.2.2.2.2.2.2.1.length<=32:=by
    have hr:rn (ZeL f).1 (i:Int)=f.1.2.2.1[i]:=by unfold rn;rw[Ve];exact Zak hi _
    rw[hr];exact(h.sound.many _ (Vf hi)).2
   change Zbu (ZeL f) (Zc5 (ZeL f) i) _/\(Zc5 (ZeL f) i).2.1.length<=_ at hh
   change Brd (Zc5 (ZeL f) i)/\Zgd (Zc5 (ZeL f) i)<=_ at hf
   have hlab: (Zc5 (ZeL f) i).2.1.length<=f.2.1.length+32:=by have h5:=hh.2;have h6: (ZeL f).2.1.length=f.2.1.length:=rfl;omega
   obtain⟨g,g1,g2,g3,g4,g5,g6,g7,g8⟩:=ZlY P hP k (f:=Zc5 (ZeL f) i) (by have:=hf.2;omega) (p1.step hh.1) hf.1 (hP f i h hb hi hpop (by rw[getElem!_pos f.1.2.2.1 i hi]at hin;exact hin) hp) (by omega) (by omega);refine⟨g,(ZcZ hv).trans g1,g2,g3,g4,g5,g6.trans hh.1.net,by omega,g8.trans hh.1.out⟩
theorem ZlA{before:List ZbI}{f:ZaH}(h:St f)(hb:Brd f){i:Nat}(hi:i<f.1.2.2.1.length){k:Nat}(hk:k< (f.1.2.2.1[i]).2.2.2.2.2.2.2.1.length)(l:List Zbe):Brd (ZbP before i l f k)/\Zgd (ZbP before i l f k)<=Zgd f:=by
 unfold ZbP;generalize ((before[(cl l (k:Int)).1.toNat]?).getD (0,0,0,0,0,0,()))=p
 cases ((cl l (k:Int)).2.2.2.1&& (!decide (p.2.2.1= -1) && (decide (p.2.2.1<=(cl l (k:Int)).2.2.1) &&less ((f.2.2.2.2.1[i]?).getD (0,0,false,())).1 (k:Int)))) with
 |false=>exact⟨hb,Vo _⟩
 |true=>
  simp only[cond_true];refine ZgA h hb hi ?_;unfold inR;rw[Vd,decide_eq_true_eq,decide_eq_true_eq];exact⟨Int.natCast_nonneg _,by simpa using hk⟩
theorem ZgP{before:List ZbI}{i:Nat}(l:List Zbe): ∀ (m:Nat) {f:ZaH},St f->Brd f->(hi:i<f.1.2.2.1.length)->m<=(f.1.2.2.1[i]).2.2.2.2.2.2.2.1.length->Brd (ZcP before i l m f)/\Zgd (ZcP before i l m f)<=Zgd f
 |0,_,_,hb,_,_=>⟨hb,Vo _⟩
 |m+1,f,h,hb,hi,hm=>by
  obtain⟨h1,h2⟩:=ZgP (before:=before) l m h hb hi (by omega);obtain⟨h3,_⟩:=ZcQ before i l m f;have hi' :i< (ZcP before i l m f).1.2.2.1.length:=by rw[h3.net];exact hi
  have e: (ZcP before i l m f).1.2.2.1[i]=f.1.2.2.1[i]:=by simp only[h3.net]
  obtain⟨h4,h5⟩:=ZlA (before:=before) (h.step h3) h1 hi' (k:=m) (by rw[e];omega) l;exact⟨h4,Vs h5 h2⟩
theorem Zn1{before:List ZbI}{boarded:List ZcA}{f:ZaH}(h:St f)(hb:Brd f){i:Nat}(hi:i<f.1.2.2.1.length)(hbd: ((boarded[i]?).getD (0,0,false,())).1= -1\/inR ((boarded[i]?).getD (0,0,false,())).1 (f.1.2.2.1[i]).2.2.2.2.2.2.2.1.length=true):Brd (ZdX before boarded f i)/\Zgd (ZdX before boarded f i)<=Zgd f:=by
 unfold ZdX;have hr:rn f.1 (i:Int)=f.1.2.2.1[i]:=by unfold rn;rw[Ve,Zak hi]
 rw[hr];by_cases hz: ((boarded[i]?).getD (0,0,false,())).1= -1
 ·rw[decide_eq_true hz];exact ZgP _ _ h hb hi (Vo _)
 ·rw[decide_eq_false hz];simp only[Vl,cond_true];obtain⟨h1,h2⟩:=ZgA h hb hi (hbd.resolve_left hz);have hh:=Zco f i ((boarded[i]?).getD (0,0,false,()));have hi' :i< (Zbg f i ((boarded[i]?).getD (0,0,false,()))).1.2.2.1.length:=by rw[hh.net];exact hi
  have e: (Zbg f i ((boarded[i]?).getD (0,0,false,()))).1.2.2.1[i]=f.1.2.2.1[i]:=by simp only[hh.net]
  obtain⟨h3,h4⟩:=ZgP (before:=before) (f.1.2.2.1[i]).2.2.2.2.2.2.2.1 (f.1.2.2.1[i]).2.2.2.2.2.2.2.1.length (h.step hh) h1 hi' (by rw[e];exact Vo _);exact⟨h3,Vs h4 h2⟩
theorem ZiP{before:List ZbI}{boarded:List ZcA} : ∀ (m:Nat) {f:ZaH},St f->Brd f->m<=f.1.2.2.1.length->(∀i,(hi:i<f.1.2.2.1.length)->((boarded[i]?).getD (0,0,false,())).1= -1\/inR ((boarded[i]?).getD (0,0,false,())).1 (f.1.2.2.1[i]).2.2.2.2.2.2.2.1.length=true)->
  Brd (ZcO before boarded m f)/\Zgd (ZcO before boarded m f)<=Zgd f
 |0,_,_,hb,_,_=>⟨hb,Vo _⟩
 |m+1,f,h,hb,hm,hbd=>by
  obtain⟨h1,h2⟩:=ZiP (before:=before) m h hb (by omega) hbd;obtain⟨h3,_⟩:=ZcV (before:=before) (boarded:=boarded) m h (by omega);have hi' :m< (ZcO before boarded m f).1.2.2.1.length:=by rw[h3.net];omega
  have e: (ZcO before boarded m f).1.2.2.1[m]=f.1.2.2.1[m]'(by omega):=by simp only[h3.net]
  obtain⟨h4,h5⟩:=Zn1 (before:=before) (boarded:=boarded) (h.step h3) h1 hi' (by rw[e];exact hbd m (by omega));exact⟨h4,Vs h5 h2⟩
def p00:ZbI:=(0,0,0,0,0,0,())
def ZbR(before:List ZbI)(f:ZaH)(s:Nat):ZaH:=
 bif !decide (((f.2.2.1[s]?).getD p00).2.1= -1) &&less ((before[s]?).getD p00).2.1 ((f.2.2.1[s]?).getD p00).2.1 then
  ZhE (ZgU f s ((f.2.2.1[s]?).getD p00).2.1 (((f.2.2.1[s]?).getD p00).2.1+(Zci f.1 (s:Int)).2.2.2.1) ((f.2.2.1[s]?).getD p00).2.2.2.2.1) (s:Int) ((f.2.2.1[s]?).getD p00).2.1 ((f.2.2.1[s]?).getD p00).2.2.2.2.1
 else f
theorem Zgr(s at' prev:Int)(f:ZaH)(p:Zb2):Zbu f (Za3 s at' prev f p) 0:=by
 unfold Za3;split
 ·exact⟨rfl,by simp [ZgU,ZgR],rfl,rfl,by show f.2.2.2.2.2.1.length<=_;omega,rfl⟩
 ·exact Zbu.refl f
theorem Zgm(s at' prev:Int): ∀ (l:List Zb2) (f:ZaH),Zbu f (l.foldl (Za3 s at' prev) f) 0
 | [],f=>Zbu.refl f
 |p::l,f=>(Zgr s at' prev f p).trans (Zgm s at' prev l _)
theorem ZiE(f:ZaH)(s at' prev:Int):Zbu f (ZhE f s at' prev) 0:=Zgm ..
theorem Zf1(f:ZaH)(i:Nat)(a r l:Int):Zbu f (ZgU f i a r l) 0:=⟨rfl,by simp [ZgU],rfl,rfl,by show f.2.2.2.2.2.1.length<=_;omega,rfl⟩
theorem ZjP(before:List ZbI)(f:ZaH)(s:Nat):Zbu f (ZbR before f s) 0/\(ZbR before f s).2.1.length<=f.2.1.length+f.1.2.2.2.2.1.length:=by
 unfold ZbR
 cases (!decide (((f.2.2.1[s]?).getD p00).2.1= -1) &&less ((before[s]?).getD p00).2.1 ((f.2.2.1[s]?).getD p00).2.1) with
 |false=>exact⟨Zbu.refl f,Nat.le_add_right _ _⟩
 |true=>
  simp only[cond_true];exact⟨(Zf1 ..).trans (ZiE ..),(Zce _ _ _ f.1.2.2.2.2.1 (ZgU f s ((f.2.2.1[s]?).getD p00).2.1 (((f.2.2.1[s]?).getD p00).2.1+(Zci f.1 (s:Int)).2.2.2.1) ((f.2.2.1[s]?).getD p00).2.2.2.2.1)).lab⟩
def Zfx(before:List ZbI):Nat->ZaH->ZaH
 |0,f=>f
 |m+1,f=>ZbR before (Zfx before m f) m
theorem ZeQ(before:List ZbI): ∀ (m:Nat) (f:ZaH),Zbu f (Zfx before m f) 0/\(Zfx before m f).2.1.length<=f.2.1.length+m*f.1.2.2.2.2.1.length
 |0,f=>⟨Zbu.refl f,by show f.2.1.length<=_;omega⟩
 |m+1,f=>by
  obtain⟨h1,h2⟩:=ZeQ before m f;obtain⟨h3,h4⟩:=ZjP before (Zfx before m f) m;refine⟨h1.trans h3, ?_⟩;show (ZbR before (Zfx before m f) m).2.1.length<=_;rw[h1.net]at h4;have e: (m+1) *f.1.2.2.2.2.1.length=m*f.1.2.2.2.2.1.length+f.1.2.2.2.2.1.length:=by rw[Nat.succ_mul]
  omega
theorem ZmT{before:List ZbI}{f:ZaH}(h:St f){s:Nat}(hs:s<f.2.2.1.length)(hb:before.length=f.2.2.1.length)(hr: (f.2.2.1[s]).2.1= -1\/0<=(f.2.2.1[s]).2.1/\(f.2.2.1[s]).2.1<=3155932800)(hch:0<=(Zci f.1 (s:Int)).2.2.2.1/\(Zci f.1 (s:Int)).2.2.2.1<=3600)
  (hl:f.2.1.length+f.1.2.2.2.2.1.length<4000000000) (hp:f.1.2.2.2.2.1.length<=4096) (hto: ∀p∈f.1.2.2.2.2.1,0<=p.2.1/\p.2.1< (f.1.1.length:Int)/\0<=p.2.2.1/\p.2.2.1<=14400):
  (Vb (inb (s:Int) (Vg f.2.2.1)) fun x28=>
 Vb f.2.2.1[x28]? fun x29=>
 Vb
 (bif !decide (x29.2.1=(-1:Int)) then
 Vb (idx before (s:Int)) fun x30=>
 bif decide (x30.2.1=(-1:Int)) then some true
 else Vb (idx before (s:Int)) fun x31=>some (decide (x29.2.1<x31.2.1))
 else some false)
 fun x32=>
 bif x32 then
 Vb (idx f.1.1 (s:Int)) fun x33=>
 Vb
 (F121
 f
 (s:Int) x29.2.1 (Vc .i64 (x29.2.1+x33.2.2.2.1)) x29.2.2.2.2.1)
 fun x34=>
 Vb
 (F125
 x34 (s:Int)
 x29.2.1 x29.2.2.2.2.1)
 fun x35=>
 some
 (Sum.inl
 (x35,
 Vc .i64 ((s:Int)+(1:Int))))
 else
 some
 (.inl
 (f,
 Vc .i64 ((s:Int)+(1:Int)))))=(some (.inl (ZbR before f s,((s+1:Nat):Int))):Option ((ZaH×Int) ⊕ ZaH)):=by
 have hst:=h.sound.stops;have hsn:s<f.1.1.length:=by rw[<-h.now];exact hs
 have w1:Vc .i64 ((s:Int)+1)=((s+1:Nat):Int):=by rw[Zae (by omega) (by omega)];omega
 have hsb:s<before.length:=by omega
 have es:f.1.1[s]=Zci f.1 (s:Int):=by unfold Zci;rw[Ve,Zak hsn]
 unfold ZbR;rw[w1];simp only[ZaE hs,bind_some,Va hs,Zaf hsb,Zaf hsn,Va hsb,Vu,es];rw[Zev];by_cases hz: (f.2.2.1[s]).2.1= -1
 ·rw[decide_eq_true hz];rfl
 ·rw[decide_eq_false hz];have hr2:=hr.resolve_left hz;simp only[Vl,cond_true,bind_some,Vm]
  cases less (before[s]).2.1 (f.2.2.1[s]).2.1 with
  |false=>rfl
  |true=>
   simp only[cond_true];have w2:Vc .i64 ((f.2.2.1[s]).2.1+(Zci f.1 (s:Int)).2.2.2.1)=(f.2.2.1[s]).2.1+(Zci f.1 (s:Int)).2.2.2.1:=Zae (by omega) (by omega);rw[w2,ZgM f hs];simp only[bind_some];have hn:=(Zf1 f s (f.2.2.1[s]).2.1 ((f.2.2.1[s]).2.1+(Zci f.1 (s:Int)).2.2.2.1) (f.2.2.1[s]).2.2.2.2.1).now
   rw[Zpu (ZgU f s (f.2.2.1[s]).2.1 ((f.2.2.1[s]).2.1+(Zci f.1 (s:Int)).2.2.2.1) (f.2.2.1[s]).2.2.2.2.1) (f.2.2.1[s]).2.2.2.2.1 hr2.1 hr2.2 hl hp (fun p hp' =>by obtain⟨a1,a2,a3,a4⟩:=hto p hp';refine⟨a1, ?_,a3,a4⟩;rw[hn,h.now];exact a2)]
   rfl
theorem Zsl{before:List ZbI}{boarded:List ZcA}{f:ZaH}(h:St f)(hb:before.length=f.1.1.length)(hbl:boarded.length=f.1.2.2.1.length)(ho:f.2.2.2.2.2.1.length+100000<4000000000):
  run
 (fun s3:ZaH×Int=>
 bif decide (s3.2< (↑(Vg f.1.2.2.1):Int)) then
 Vb (idx f.1.2.2.1 s3.2) fun x4=>
 Vb (inb s3.2 (Vg boarded)) fun x5=>
 Vb boarded[x5]? fun x6=>
 Vb
 (bif !decide (x6.1=(-1:Int)) then
 Vb (inb s3.2 (Vg boarded)) fun x7=>
 Vb boarded[x7]? fun x8=>
 Vb
 (F119
 s3.1
 s3.2 x8)
 fun x9=>some x9
 else
 some
 s3.1)
 fun x10=>
 Vb
 (run
 (fun s11:ZaH×Int=>
 bif decide (s11.2< (↑(Vg x4.2.2.2.2.2.2.2.1):Int)) then
 Vb (idx x4.2.2.2.2.2.2.2.1 s11.2) fun x12=>
 Vb (idx before x12.1) fun x13=>
 Vb
 (bif x12.2.2.2.1 then
 bif !decide (x13.2.2.1=(-1:Int)) then
 bif decide (x13.2.2.1<=x12.2.2.1) then
 Vb (inb s3.2 (Vg s11.1.2.2.2.2.1)) fun x14=>
 Vb s11.1.2.2.2.2.1[x14]? fun x15=>Vb (F114 x15 s11.2) fun x16=>some x16
 else some false
 else some false
 else some false)
 fun x17=>
 bif x17 then
 Vb
 (F119
 s11.1
 s3.2 (s11.2,x13.2.2.2.2.2.1,false,()))
 fun x18=>
 some
 (.inl
 (x18,
 Vc .i64 (s11.2+(1:Int))))
 else
 some
 (.inl
 (s11.1,
 Vc .i64 (s11.2+(1:Int))))
 else
 some
 (.inr
 s11.1))
 (x10,(0:Int)))
 fun x19=>
 some
 (.inl
 (x19,
 Vc .i64 (s3.2+(1:Int))))
 else
 some
 (.inr
 s3.1))
 (f,(0:Int))=some (ZcO before boarded f.1.2.2.1.length f):=by
 have hruns:=h.sound.runs;refine Zv8 (ZaL f.1.2.2.1.length _ (fun k (st:ZaH×Int)=>st=(ZcO before boarded k f,(k:Int))) ?_ ?_ _ rfl)
 ·rintro k _ hk rfl;left;obtain⟨h1,h2⟩:=ZcV (before:=before) (boarded:=boarded) k h (by omega);have hS:=h.step h1;have hopn:=h1.opn;have hnet:=h1.net;show∃s',_=_/\s' =(ZdX before boarded (ZcO before boarded k f) k,((k+1:Nat):Int));generalize ZcO before boarded k f=g at*;have hkb:k<boarded.length:=by omega
  have hkg:k<g.1.2.2.1.length:=by rw[hnet];exact hk
  have e:g.1.2.2.1[k]=f.1.2.2.1[k]:=by simp only[hnet]
  have er:rn g.1 (k:Int)=f.1.2.2.1[k]:=by unfold rn;rw[Ve,Zak hkg,e]
  unfold ZdX;rw[er,Zak hkb];simp only[Zat hk,cond_true,Zaf hk,bind_some,ZaE hkb,Va hkb,Zaj hk (show _<=9223372036854775807 by omega)];rw[Zjy g hkg hS.runs (by omega)]
  have hval: ∀g' :ZaH,Zbu g g' 1->_:=fun g' hg' =>by
   have hk' :k<g'.1.2.2.1.length:=by rw[hg'.net];exact hkg
   have e' :g'.1.2.2.1[k]=f.1.2.2.1[k]:=by simp only[hg'.net,hnet]
   have hv:=Zss (before:=before) (hS.step hg') hk' (by rw[hg'.net,hnet];exact hb) (by have:=hg'.opn;omega);rw[e']at hv;exact hv
  cases decide ((boarded[k]).1= -1) with
  |true=>
   have hv:=hval g ((Zbu.refl g).weak (by omega));refine⟨_, ?_,rfl⟩;simp only[Vi,cond_false,bind_some]
   exact congrArg (fun o=>Vb o fun x19=>some (Sum.inl (x19,((k+1:Nat):Int)))) hv
  |false=>
   have hv:=hval _ (Zco g k boarded[k]);refine⟨_, ?_,rfl⟩;simp only[Vl,cond_true,bind_some];exact congrArg (fun o=>Vb o fun x19=>some (Sum.inl (x19,((k+1:Nat):Int)))) hv
 ·rintro _ rfl;simp only[Zaw,cond_false];exact⟨_,rfl,rfl⟩
def ZbQ(f:ZaH)(j:Nat):Int:=((f.2.2.1[j]?).getD p00).2.1
theorem Zne(p:ZbI)(a r l:Int): (Zs1 p a r l).2.1=p.2.1:=by
 unfold Zs1 Zvy ZwI
 cases less p.1 a<;>simp only[cond_true,cond_false]
 ·cases less p.2.2.1 r<;>rfl
 ·cases less p.2.2.1 r<;>rfl
theorem Znq(f:ZaH)(i:Nat)(a r l:Int)(j:Nat):ZbQ (ZgU f i a r l) j=ZbQ f j:=by
 unfold ZbQ ZgU;simp only[Vx]
 cases f.2.2.1[j]? with
 |none=>rfl
 |some p=>
  simp only[Vu];split
  ·exact Zne ..
  ·rfl
theorem Zk0(s at' prev:Int)(f:ZaH)(p:Zb2)(j:Nat):ZbQ (Za3 s at' prev f p) j=ZbQ f j:=by
 unfold Za3;split
 ·exact(Znq ..).trans rfl
 ·rfl
theorem Zhq(s at' prev:Int)(j:Nat): ∀ (l:List Zb2) (f:ZaH),ZbQ (l.foldl (Za3 s at' prev) f) j=ZbQ f j
 | [],_=>rfl
 |p::l,f=>(Zhq s at' prev j l _).trans (Zk0 s at' prev f p j)
theorem ZkY(before:List ZbI)(f:ZaH)(s j:Nat):ZbQ (ZbR before f s) j=ZbQ f j:=by
 unfold ZbR
 cases (!decide (((f.2.2.1[s]?).getD p00).2.1= -1) &&less ((before[s]?).getD p00).2.1 ((f.2.2.1[s]?).getD p00).2.1) with
 |false=>rfl
 |true=>exact(Zhq ..).trans (Znq ..)
theorem Zf3(before:List ZbI)(j:Nat): ∀ (m:Nat) (f:ZaH),ZbQ (Zfx before m f) j=ZbQ f j
 |0,_=>rfl
 |m+1,f=>(ZkY before _ m j).trans (Zf3 before j m f)
theorem Zsv{before:List ZbI}{f:ZaH}(h:St f)(hb:before.length=f.2.2.1.length)(hr: ∀j,j<f.2.2.1.length->ZbQ f j= -1\/0<=ZbQ f j/\ZbQ f j<=3155932800)(hch: ∀s:Nat,s<f.1.1.length->0<=(Zci f.1 (s:Int)).2.2.2.1/\(Zci f.1 (s:Int)).2.2.2.1<=3600)
  (hl:f.2.1.length+100*4096<4000000000) (hp:f.1.2.2.2.2.1.length<=4096) (hto: ∀p∈f.1.2.2.2.2.1,0<=p.2.1/\p.2.1< (f.1.1.length:Int)/\0<=p.2.2.1/\p.2.2.1<=14400):
  run
 (fun s27:ZaH×Int=>
 bif decide (s27.2< (↑(Vg f.2.2.1):Int)) then
 Vb (inb s27.2 (Vg s27.1.2.2.1)) fun x28=>
 Vb s27.1.2.2.1[x28]? fun x29=>
 Vb
 (bif !decide (x29.2.1=(-1:Int)) then
 Vb (idx before s27.2) fun x30=>
 bif decide (x30.2.1=(-1:Int)) then some true
 else Vb (idx before s27.2) fun x31=>some (decide (x29.2.1<x31.2.1))
 else some false)
 fun x32=>
 bif x32 then
 Vb (idx s27.1.1.1 s27.2) fun x33=>
 Vb
 (F121
 s27.1
 s27.2 x29.2.1 (Vc .i64 (x29.2.1+x33.2.2.2.1)) x29.2.2.2.2.1)
 fun x34=>
 Vb
 (F125
 x34 s27.2
 x29.2.1 x29.2.2.2.2.1)
 fun x35=>
 some
 (.inl
 (x35,
 Vc .i64 (s27.2+(1:Int))))
 else
 some
 (.inl
 (s27.1,
 Vc .i64 (s27.2+(1:Int))))
 else
 some
 (.inr
 s27.1))
 (f,(0:Int))=some (Zfx before f.2.2.1.length f):=by
 have hst:=h.sound.stops;have hnl:f.2.2.1.length<=64:=by rw[h.now];exact hst
 refine Zv8 (ZaL f.2.2.1.length _ (fun k (st:ZaH×Int)=>st=(Zfx before k f,(k:Int))) ?_ ?_ _ rfl)
 ·rintro k _ hk rfl;left;obtain⟨h1,h2⟩:=ZeQ before k f;have hS:=h.step h1;have hnet:=h1.net;have hnow:=h1.now;have hrd:=Zf3 before k k f;have hmul:k*f.1.2.2.2.2.1.length<=64*4096:=Vyb (by omega) hp;show∃s',_=_/\s' =(ZbR before (Zfx before k f) k,((k+1:Nat):Int));generalize Zfx before k f=g at*;have hkg:k<g.2.2.1.length:=by omega
  have e: (g.2.2.1[k]).2.1=ZbQ f k:=by rw[<-hrd];unfold ZbQ;rw[Zak hkg]
  refine⟨_, ?_,rfl⟩;rw[Zat hk];simp only[cond_true];exact ZmT hS hkg (by omega) (by rw[e];exact hr k hk) (by rw[hnet];exact hch k (by rw[<-h.now];exact hk)) (by rw[hnet];omega) (by rw[hnet];exact hp) (by rw[hnet];exact hto)
 ·rintro _ rfl;simp only[Zaw,cond_false];exact⟨_,rfl,rfl⟩
end Q
namespace Q
open Tr Go
open Option (bind_some)
structure Ctx (n:Zas) (s0 t0 w:Int):Prop where
 net:Zcq n
 stop:0<=s0/\s0< (n.1.length:Int)
 time:0<=t0/\t0<=3155932800
 wait:0<=w/\w<=3600
variable {n:Zas}{s0 t0 w:Int}
theorem Ctx.ok(C:Ctx n s0 t0 w){f:Zmt}{js:List Zar}(d:Der n s0 t0 w f js):f.ok n:=d.ok C.net C.stop C.time C.wait
structure SP (D:Zmt->List Zar->Prop) (lb:List ZqI) (K:Nat) (s:Int) (p:ZbI):Prop where
 arr:p.1≠ -1-> ∃k,k<=K/\ ∃js,Ch lb p.2.2.2.1 js/\D (.arr k s p.1) js
 rid:p.2.1≠ -1-> ∃k,k<=K/\ ∃js,Ch lb p.2.2.2.2.1 js/\D (.rid k s p.2.1) js
 rdy:p.2.2.1≠ -1-> ∃k,k<=K/\ ∃js,Ch lb p.2.2.2.2.2.1 js/\D (.rdy k s p.2.2.1) js
def SB(D:Zmt->List Zar->Prop)(lb:List ZqI)(K i:Nat)(b:ZcA):Prop:=b.1≠ -1-> ∃k,k<=K/\ ∃c:Nat,b.1=(c:Int)/\ ∃js,Ch lb b.2.1 js/\D (.brd k i c b.2.2.1) js
def SL(D:Zmt->List Zar->Prop)(lb:List ZqI)(K i:Nat)(b:ZcA):Prop:=b.1≠ -1->b.2.2.1=false/\ ∃k,k<=K+1/\ ∃c:Nat,b.1=(c:Int)/\ ∃js,Ch lb b.2.1 js/\D (.lnk k i c) js
structure Snd (D:Zmt->List Zar->Prop) (K:Nat) (f:ZaH):Prop where
 now: ∀ (s:Nat) p,f.2.2.1[s]? =some p->SP D f.2.1 K (s:Int) p
 brd: ∀ (i:Nat) b,f.2.2.2.2.1[i]? =some b->SB D f.2.1 K i b
 lnk: ∀ (i:Nat) b,f.2.2.2.1[i]? =some b->SL D f.2.1 K i b
variable {D:Zmt->List Zar->Prop}{lb:List ZqI}{K:Nat}
theorem SP.app{s:Int}{p:ZbI}(h:SP D lb K s p)(m:List ZqI):SP D (lb++m) K s p:=
 ⟨fun e=>let ⟨k,a,js,b,c⟩:=h.arr e;⟨k,a,js,b.app m,c⟩,fun e=>let ⟨k,a,js,b,c⟩:=h.rid e;⟨k,a,js,b.app m,c⟩,fun e=>let ⟨k,a,js,b,c⟩:=h.rdy e;⟨k,a,js,b.app m,c⟩⟩
theorem SP.weak{s:Int}{p:ZbI}{K' :Nat}(h:SP D lb K s p)(hk:K<=K'):SP D lb K' s p:=
 ⟨fun e=>let ⟨k,a,r⟩:=h.arr e;⟨k,by omega,r⟩,fun e=>let ⟨k,a,r⟩:=h.rid e;⟨k,by omega,r⟩,fun e=>let ⟨k,a,r⟩:=h.rdy e;⟨k,by omega,r⟩⟩
theorem SB.app{i:Nat}{b:ZcA}(h:SB D lb K i b)(m:List ZqI):SB D (lb++m) K i b:=
 fun e=>let ⟨k,a,c,e1,js,b,d⟩:=h e;⟨k,a,c,e1,js,b.app m,d⟩
theorem SL.app{i:Nat}{b:ZcA}(h:SL D lb K i b)(m:List ZqI):SL D (lb++m) K i b:=
 fun e=>let ⟨z,k,a,c,e1,js,b,d⟩:=h e;⟨z,k,a,c,e1,js,b.app m,d⟩
theorem ZpF(p:ZbI)(a r l:Int): (Zs1 p a r l).1=bif less p.1 a then a else p.1:=by
 unfold Zs1 Zvy ZwI
 cases less p.1 a<;>simp only[cond_true,cond_false]<;>cases less p.2.2.1 r<;>rfl
theorem ZpI(p:ZbI)(a r l:Int): (Zs1 p a r l).2.2.1=bif less p.2.2.1 r then r else p.2.2.1:=by
 unfold Zs1 Zvy ZwI
 cases less p.1 a<;>simp only[cond_true,cond_false]<;>cases less p.2.2.1 r<;>rfl
theorem SP.imp{s:Int}{p:ZbI}(h:SP D lb K s p){a r l:Int}(ha: ∃k,k<=K/\ ∃js,Ch lb l js/\D (.arr k s a) js)(hr: ∃k,k<=K/\ ∃js,Ch lb l js/\D (.rdy k s r) js):SP D lb K s (Zs1 p a r l):=by
 obtain⟨h1,h2,h3⟩:=h;unfold Zs1 Zvy ZwI
 cases less p.1 a<;>simp only[cond_true,cond_false]<;>cases less p.2.2.1 r<;>simp only[cond_true,cond_false]
 ·exact⟨h1,h2,h3⟩
 ·exact⟨h1,h2,fun _=>hr⟩
 ·exact⟨fun _=>ha,h2,h3⟩
 ·exact⟨fun _=>ha,h2,fun _=>hr⟩
theorem Zfp{α:Type}{l:List α}{i:Nat}{p:α}(h:l[i]? =some p)(g:α->α): (l.modify i g)[i]? =some (g p):=by rw[Vx,h];simp
theorem Zjr{α:Type}{l:List α}{i j:Nat}(e:i≠j)(g:α->α): (l.modify i g)[j]? =l[j]? :=by rw[Vx];simp [e]
theorem Zi8{α:Type}{l:List α}{i j:Nat}{g:α->α}{q:α}(h: (l.modify i g)[j]? =some q): ∃p,l[j]? =some p/\(i=j/\q=g p\/i≠j/\q=p):=by
 by_cases e:i=j
 ·subst e
  cases hp:l[i]? with
  |none=>rw[Vx,hp]at h;simp at h
  |some p=>rw[Zfp hp]at h;cases h;exact⟨p,rfl, .inl ⟨rfl,rfl⟩⟩
 ·rw[Zjr e]at h;exact⟨q,h, .inr ⟨e,rfl⟩⟩
theorem Snd.add{f:ZaH}(h:Snd D K f)(x:Zar)(p:Int):Snd D K (ZgR f x p):=
 ⟨fun s q hq=>(h.now s q hq).app _,fun i b hb=>(h.brd i b hb).app _,fun i b hb=>(h.lnk i b hb).app _⟩
theorem Snd.imp{f:ZaH}(h:Snd D K f){i:Nat}{a r l:Int}(ha: ∃k,k<=K/\ ∃js,Ch f.2.1 l js/\D (.arr k (i:Int) a) js)(hr: ∃k,k<=K/\ ∃js,Ch f.2.1 l js/\D (.rdy k (i:Int) r) js):Snd D K (ZgU f i a r l):=by
 refine⟨fun s q hq=> ?_,h.brd,h.lnk⟩;obtain⟨p,hp,⟨rfl,rfl⟩ | ⟨_,rfl⟩⟩:=Zi8 hq
 ·exact(h.now i p hp).imp ha hr
 ·exact h.now s _ hp
theorem Snd.ride{f:ZaH}(h:Snd D K f){i:Nat}{a l:Int}(ha: ∃k,k<=K/\ ∃js,Ch f.2.1 l js/\D (.rid k (i:Int) a) js):Snd D K (Zl2 f i a l):=by
 refine⟨fun s q hq=> ?_,h.brd,h.lnk⟩;obtain⟨p,hp,⟨rfl,rfl⟩ | ⟨_,rfl⟩⟩:=Zi8 hq
 ·exact⟨(h.now i p hp).arr,fun _=>ha,(h.now i p hp).rdy⟩
 ·exact h.now s _ hp
theorem Zly{α:Type}{l:List α}{i j:Nat}{x y:α}(h: (l.set i x)[j]? =some y): (i=j/\y=x)\/l[j]? =some y:=by
 rw[Vrb]at h;by_cases e:i=j
 ·rw[if_pos e]at h;split at h
  ·exact .inl ⟨e,by simpa using h.symm⟩
  ·exact absurd h (by simp)
 ·rw[if_neg e]at h;exact .inr h
theorem Snd.board{f:ZaH}(h:Snd D K f){i:Nat}{b:ZcA}(hb: (rn f.1 (i:Int)).2.2.2.2.2.2.1=false->SB D f.2.1 K i b):Snd D K (Zbg f i b):=by
 unfold Zbg
 cases hc: (rn f.1 (i:Int)).2.2.2.2.2.2.1 with
 |true=>exact h
 |false=>
  cases less ((f.2.2.2.2.1[i]?).getD (0,0,false,())).1 b.1 with
  |false=>exact h
  |true=>
   refine⟨h.now,fun j x hx=> ?_,h.lnk⟩;rcases Zly hx with ⟨rfl,rfl⟩ |hx
   ·exact hb hc
   ·exact h.brd j x hx
theorem Snd.linked{f:ZaH}(h:Snd D K f){i:Nat}{b:ZcA}(hb:SL D f.2.1 K i b):Snd D K (ZiR f i b):=by
 refine⟨h.now,h.brd,fun j x hx=> ?_⟩;rcases Zly hx with ⟨rfl,rfl⟩ |hx
 ·exact hb
 ·exact h.lnk j x hx
def LeA(l:List ZbI)(s:Nat)(t:Int):Prop:= ∃p,l[s]? =some p/\p.1≠ -1/\p.1<=t
def LeR(l:List ZbI)(s:Nat)(t:Int):Prop:= ∃p,l[s]? =some p/\p.2.1≠ -1/\p.2.1<=t
def LeY(l:List ZbI)(s:Nat)(t:Int):Prop:= ∃p,l[s]? =some p/\p.2.2.1≠ -1/\p.2.2.1<=t
def LeB(l:List ZcA)(i:Nat)(d:Int):Prop:= ∃b,l[i]? =some b/\b.1≠ -1/\b.1<=d
theorem LeA.weak{l:List ZbI}{s:Nat}{t u:Int}(h:LeA l s t)(e:t<=u):LeA l s u:=let ⟨p,a,b,c⟩:=h;⟨p,a,b,Vbb c e⟩
theorem LeR.weak{l:List ZbI}{s:Nat}{t u:Int}(h:LeR l s t)(e:t<=u):LeR l s u:=let ⟨p,a,b,c⟩:=h;⟨p,a,b,Vbb c e⟩
theorem LeY.weak{l:List ZbI}{s:Nat}{t u:Int}(h:LeY l s t)(e:t<=u):LeY l s u:=let ⟨p,a,b,c⟩:=h;⟨p,a,b,Vbb c e⟩
structure Mv (f g:ZaH):Prop where
 net:g.1=f.1
 lab: ∃m,g.2.1=f.2.1++m
 arr: ∀s t,LeA f.2.2.1 s t->LeA g.2.2.1 s t
 rid: ∀s t,LeR f.2.2.1 s t->LeR g.2.2.1 s t
 rdy: ∀s t,LeY f.2.2.1 s t->LeY g.2.2.1 s t
 lnk: ∀i d,LeB f.2.2.2.1 i d->LeB g.2.2.2.1 i d
 brd: ∀i d,LeB f.2.2.2.2.1 i d->LeB g.2.2.2.2.1 i d
 out:g.2.2.2.2.2.2=f.2.2.2.2.2.2
theorem Mv.refl(f:ZaH):Mv f f:=⟨rfl,⟨[],by simp⟩,fun _ _ h=>h,fun _ _ h=>h,fun _ _ h=>h,fun _ _ h=>h,fun _ _ h=>h,rfl⟩
theorem Mv.trans{f g h:ZaH}(x:Mv f g)(y:Mv g h):Mv f h:=by obtain⟨m,hm⟩:=x.lab;obtain⟨m',hm'⟩:=y.lab;exact⟨y.net.trans x.net,⟨m++m',by rw[hm',hm,Vsb]⟩,fun s t h=>y.arr s t (x.arr s t h),fun s t h=>y.rid s t (x.rid s t h),fun s t h=>y.rdy s t (x.rdy s t h),fun s t h=>y.lnk s t (x.lnk s t h),fun s t h=>y.brd s t (x.brd s t h),y.out.trans x.out⟩
theorem Mv.ch{f g:ZaH}(h:Mv f g){l:Int}{js:List Zar}(c:Ch f.2.1 l js):Ch g.2.1 l js:=by obtain⟨m,hm⟩:=h.lab;rw[hm];exact c.app m
structure Op (f g:ZaH):Prop where
 opn: ∀x∈f.2.2.2.2.2.1,x∈g.2.2.2.2.2.1
 chg: ∀i:Nat,g.2.2.2.2.1[i]? =f.2.2.2.2.1[i]? \/(i:Int)∈g.2.2.2.2.2.1
theorem Op.refl(f:ZaH):Op f f:=⟨fun _ h=>h,fun _=> .inl rfl⟩
theorem Op.trans{f g h:ZaH}(x:Op f g)(y:Op g h):Op f h:=by
 refine⟨fun z hz=>y.opn z (x.opn z hz),fun i=> ?_⟩;rcases y.chg i with a|a
 ·rcases x.chg i with b|b
  ·exact .inl (a.trans b)
  ·exact .inr (y.opn _ b)
 ·exact .inr a
theorem Zvl(f:ZaH)(x:Zar)(p:Int):Mv f (ZgR f x p):=⟨rfl,⟨[(x,p,())],rfl⟩,fun _ _ h=>h,fun _ _ h=>h,fun _ _ h=>h,fun _ _ h=>h,fun _ _ h=>h,rfl⟩
theorem Zw0(f:ZaH)(x:Zar)(p:Int):Op f (ZgR f x p):=⟨fun _ h=>h,fun _=> .inl rfl⟩
theorem Zw2{a b t:Int}(hb:0<=b)(h:a≠ -1/\a<=t): (bif less a b then b else a)≠ -1/\(bif less a b then b else a)<=t:=by
 cases hl:less a b with
 |false=>exact h
 |true=>
  have:=ZdY.1 hl;simp only[cond_true];omega
theorem Zu7{a b:Int}(hb:0<=b): (bif less a b then b else a)≠ -1/\(bif less a b then b else a)<=b:=by
 cases hl:less a b with
 |true=>simp only[cond_true];omega
 |false=>
  simp only[cond_false];have: ¬ (a= -1\/b<a):=fun e=>by rw[ZdY.2 e]at hl;cases hl
  omega
theorem Zfh{P:ZbI->Prop}{l:List ZbI}{i s:Nat}{g:ZbI->ZbI}(hg: ∀p,P p->P (g p))(h: ∃p,l[s]? =some p/\P p): ∃p,(l.modify i g)[s]? =some p/\P p:=by
 obtain⟨p,h1,h2⟩:=h;by_cases e:i=s
 ·subst e;exact⟨g p,Zfp h1 g,hg p h2⟩
 ·exact⟨p,(Zjr e g).trans h1,h2⟩
theorem Zsx(f:ZaH)(i:Nat){a r:Int}(ha:0<=a)(hr:0<=r)(l:Int):Mv f (ZgU f i a r l):=by
 refine⟨rfl,⟨[],by simp [ZgU]⟩,fun s t h=> ?_,fun s t h=> ?_,fun s t h=> ?_,fun _ _ h=>h,fun _ _ h=>h,rfl⟩
 ·refine Zfh (P:=fun p=>p.1≠ -1/\p.1<=t) (fun p hp=> ?_) h;rw[ZpF];exact Zw2 ha hp
 ·refine Zfh (P:=fun p=>p.2.1≠ -1/\p.2.1<=t) (fun p hp=> ?_) h;rw[Zne];exact hp
 ·refine Zfh (P:=fun p=>p.2.2.1≠ -1/\p.2.2.1<=t) (fun p hp=> ?_) h;rw[ZpI];exact Zw2 hr hp
theorem Zoo{f:ZaH}{i:Nat}(hi:i<f.2.2.1.length){a r:Int}(ha:0<=a)(hr:0<=r)(l:Int):LeA (ZgU f i a r l).2.2.1 i a/\LeY (ZgU f i a r l).2.2.1 i r:=by
 have e: (ZgU f i a r l).2.2.1[i]? =some (Zs1 f.2.2.1[i] a r l):=by exact Zfp (Va hi) _
 exact⟨⟨_,e,by rw[ZpF];exact Zu7 ha⟩,⟨_,e,by rw[ZpI];exact Zu7 hr⟩⟩
theorem Zwe(f:ZaH)(i:Nat){a:Int}(ha:0<=a)(hl:less (ZmG f (i:Int)).2.1 a=true)(l:Int):Mv f (Zl2 f i a l):=by
 refine⟨rfl,⟨[],by simp [Zl2]⟩,fun s t h=> ?_,fun s t h=> ?_,fun s t h=> ?_,fun _ _ h=>h,fun _ _ h=>h,rfl⟩
 ·exact Zfh (P:=fun p=>p.1≠ -1/\p.1<=t) (fun p hp=>hp) h
 ·obtain⟨p,h1,h2⟩:=h;by_cases e:i=s
  ·subst e;refine⟨_,Zfp h1 _, ?_⟩;unfold ZmG at hl;rw[Ve,h1]at hl;have:=ZdY.1 hl;simp only[Vu]at this;simp only;omega
  ·exact⟨p,(Zjr e _).trans h1,h2⟩
 ·exact Zfh (P:=fun p=>p.2.2.1≠ -1/\p.2.2.1<=t) (fun p hp=>hp) h
theorem Zt5{f:ZaH}{i:Nat}(hi:i<f.2.2.1.length){a:Int}(ha:0<=a)(l:Int):LeR (Zl2 f i a l).2.2.1 i a:=by
 refine⟨((f.2.2.1[i]).1,a,(f.2.2.1[i]).2.2.1,(f.2.2.1[i]).2.2.2.1,l,(f.2.2.1[i]).2.2.2.2.2), ?_, ?_⟩
 ·exact Zfp (Va hi) _
 ·show a≠ -1/\a<=a;omega
theorem Zvk{l:List ZcA}{i:Nat}{b:ZcA}(h:less ((l[i]?).getD (0,0,false,())).1 b.1=true)(hb:0<=b.1){j:Nat}{d:Int}(hj:LeB l j d):LeB (l.set i b) j d:=by
 obtain⟨x,h1,h2,h3⟩:=hj;by_cases e:i=j
 ·subst e;have hi:=(Vw.1 h1).1;refine⟨b,Vn hi, ?_⟩;rw[h1]at h;have:=ZdY.1 h;simp only[Vu]at this;omega
 ·exact⟨x,by rw[Vca e];exact h1,h2,h3⟩
theorem Zlm{l:List ZcA}{i:Nat}(hi:i<l.length){b:ZcA}(h:less ((l[i]?).getD (0,0,false,())).1 b.1=false):LeB l i b.1:=by
 rw[Zak hi]at h;have: ¬ ((l[i]).1= -1\/b.1< (l[i]).1):=fun e=>by rw[ZdY.2 e]at h;cases h
 exact⟨l[i],Va hi,by omega,by omega⟩
theorem Zk6(f:ZaH){i:Nat}{b:ZcA}(hb:0<=b.1):Mv f (Zbg f i b)/\Op f (Zbg f i b):=by
 unfold Zbg
 cases hg: (!(rn f.1 (i:Int)).2.2.2.2.2.2.1&&less ((f.2.2.2.2.1[i]?).getD (0,0,false,())).1 b.1) with
 |false=>exact⟨Mv.refl f,Op.refl f⟩
 |true=>
  rw[Vd]at hg;refine⟨⟨rfl,⟨[],by simp⟩,fun _ _ h=>h,fun _ _ h=>h,fun _ _ h=>h,fun _ _ h=>h,fun j d h=>Zvk hg.2 hb h,rfl⟩,⟨fun x hx=>by simp only[cond_true,Veb];exact .inl hx,fun j=> ?_⟩⟩;simp only[cond_true];by_cases e:i=j
  ·subst e;exact .inr (by simp)
  ·exact .inl (Vca e)
theorem Zi1{f:ZaH}{i:Nat}(hi:i<f.2.2.2.2.1.length){b:ZcA}(hb:0<=b.1)(hc: (rn f.1 (i:Int)).2.2.2.2.2.2.1=false):LeB (Zbg f i b).2.2.2.2.1 i b.1:=by
 unfold Zbg;rw[hc]
 cases hl:less ((f.2.2.2.2.1[i]?).getD (0,0,false,())).1 b.1 with
 |false=>exact Zlm hi hl
 |true=>exact⟨b,Vn hi,by omega,by omega⟩
theorem ZsV(f:ZaH){i:Nat}{b:ZcA}(hb:0<=b.1)(hl:less ((f.2.2.2.1[i]?).getD (0,0,false,())).1 b.1=true):Mv f (ZiR f i b)/\Op f (ZiR f i b):=
 ⟨⟨rfl,⟨[],by simp [ZiR]⟩,fun _ _ h=>h,fun _ _ h=>h,fun _ _ h=>h,fun j d h=>Zvk hl hb h,fun _ _ h=>h,rfl⟩,⟨fun _ h=>h,fun _=> .inl rfl⟩⟩
def ZoA(n:Zas)(out:List (List Int)):Prop:=out.length=n.2.2.1.length/\ ∀ (i:Nat) ks,out[i]? =some ks-> ∀x:Int,x∈ks↔inR x n.2.2.2.1.length=true/\(lkI n x).1=(i:Int)
theorem Zrk{n:Zas}{x:Int}(h:inR x n.2.2.2.1.length=true):lkI n x∈n.2.2.2.1:=by
 unfold inR at h;simp only[Vd,decide_eq_true_eq]at h;have hl:x.toNat<n.2.2.2.1.length:=by omega
 unfold lkI;rw[Zak hl];exact Vf hl
def Fol(n:Zas)(i c:Nat)(g:ZaH)(x:Int):Prop:= ∀ (j d:Nat) (st:Bool),lkI n x=((i:Int),(c:Int),(j:Int),(d:Int),st,())->(Zac n i c).2.1<=(Zac n j d).2.2.1->
 (st=true->ZcU n j=false->LeB g.2.2.2.2.1 j (d:Int))/\(st=false->(Zac n i c).2.2.2.2.1=true->(Zac n j d).2.2.2.1=true->LeB g.2.2.2.1 j (d:Int))
theorem Fol.mono{i c:Nat}{g h:ZaH}{x:Int}(y:Mv g h)(z:Fol n i c g x):Fol n i c h x:=
 fun j d st e1 e2=>let ⟨a,b⟩:=z j d st e1 e2;⟨fun u v=>y.brd _ _ (a u v),fun u v z=>y.lnk _ _ (b u v z)⟩
theorem ZjM(C:Ctx n s0 t0 w){f:ZaH}(hf:f.1=n)(hS:St f)(h:Snd (Der n s0 t0 w) K f){k i c:Nat}{l:Int}{js:List Zar}(hk:k<=K)(hl:Ch f.2.1 l js)(hd:Der n s0 t0 w (.on k i c) js){x:Int}(hx:inR x n.2.2.2.1.length=true)(hfr: (lkI n x).1=(i:Int)):
  Snd (Der n s0 t0 w) K (ZaF (c:Int) (Zac n i c).2.1 l (Zac n i c).2.2.2.2.1 f x)/\(Mv f (ZaF (c:Int) (Zac n i c).2.1 l (Zac n i c).2.2.2.2.1 f x)/\Op f (ZaF (c:Int) (Zac n i c).2.1 l (Zac n i c).2.2.2.2.1 f x))/\Fol n i c (ZaF (c:Int) (Zac n i c).2.1 l (Zac n i c).2.2.2.2.1 f x) x:=by
 have hmem:=Zrk hx;obtain⟨i',c',j,d,st,e,hi,hj,hij,hc,hdl,hst,hstay⟩:=C.net.link _ hmem;have hi' :i' =i:=by rw[e]at hfr;simp only at hfr;omega
 subst hi';unfold ZaF;rw[hf,e];simp only[Ve];rw[show (cl (rn n (j:Int)).2.2.2.2.2.2.2.1 (d:Int))=Zac n j d from rfl];by_cases h1:c' =c
 rotate_left
 ·rw[decide_eq_false (show¬ (c' :Int)=(c:Int) by omega)];refine⟨h,⟨Mv.refl f,Op.refl f⟩,fun j' d' st' e' _=> ?_⟩;rw[e]at e';simp only[Vva]at e';omega
 subst h1;by_cases h2: (Zac n j d).2.2.1< (Zac n i' c').2.1
 ·rw[decide_eq_true h2,Vya];refine⟨h,⟨Mv.refl f,Op.refl f⟩,fun j' d' st' e' h3=> ?_⟩;rw[e]at e';simp only[Vva,Vna]at e';obtain⟨_,_,rfl,rfl,rfl,_⟩:=e';omega
 rw[decide_eq_false h2,decide_eq_true rfl];have hil:isLink n i' c' j d st:=by unfold isLink;rw[<-e];exact hmem
 have hjr:j<f.2.2.2.2.1.length:=by rw[hS.runs,hf];exact hj
 have hjl:j<f.2.2.2.1.length:=by rw[hS.linked,hf];exact hj
 have hfol: ∀g:ZaH,((st=true->ZcU n j=false->LeB g.2.2.2.2.1 j (d:Int))/\(st=false->(Zac n i' c').2.2.2.2.1=true->(Zac n j d).2.2.2.1=true->LeB g.2.2.2.1 j (d:Int)))->Fol n i' c' g x:=by intro g hg j' d' st' e' _;rw[e]at e';simp only[Vva,Vna]at e';obtain⟨_,_,rfl,rfl,rfl,_⟩:=e';exact hg
 cases st with
 |true=>
  simp only[Vi,Vwa,cond_false,cond_true];refine⟨h.board fun hcn=>fun _=>⟨k,hk,d,rfl,js,hl, .stay hd hil (by omega) (by rw[hf]at hcn;exact hcn)⟩,Zk6 f (b:=((d:Int),l,true,())) (by show (0:Int)<=(d:Int);omega),hfol _ ⟨fun _ hcn=> ?_,fun e=>nomatch e⟩⟩
  exact Zi1 hjr (b:=((d:Int),l,true,())) (by show (0:Int)<=(d:Int);omega) (by rw[hf];exact hcn)
 |false=>
  simp only[Vi,Vwa,cond_false]
  cases hal: (Zac n i' c').2.2.2.2.1 with
  |false=>exact⟨h,⟨Mv.refl f,Op.refl f⟩,hfol _ ⟨(fun e=>nomatch e),fun _ e=>by rw[hal]at e;cases e⟩⟩
  |true=>
   cases hbd: (Zac n j d).2.2.2.1 with
   |false=>exact⟨h,⟨Mv.refl f,Op.refl f⟩,hfol _ ⟨(fun e=>nomatch e),fun _ _ e=>by rw[hbd]at e;cases e⟩⟩
   |true=>
    simp only[Vm]
    cases hls:less ((f.2.2.2.1[j]?).getD (0,0,false,())).1 (d:Int) with
    |false=>exact⟨h,⟨Mv.refl f,Op.refl f⟩,hfol _ ⟨(fun e=>nomatch e),fun _ _ _=>Zlm hjl (b:=((d:Int),l,false,())) hls⟩⟩
    |true=>
     simp only[cond_true];refine⟨h.linked fun _=>⟨rfl,k+1,by omega,d,rfl,js,hl, .link hd hal hil (by omega) hbd⟩,ZsV f (b:=((d:Int),l,false,())) (by show (0:Int)<=(d:Int);omega) hls,hfol _ ⟨(fun e=>nomatch e),fun _ _ _=>⟨_,Vn hjl, ?_⟩⟩⟩;show (d:Int)≠ -1/\(d:Int)<=(d:Int);omega
theorem Zgn(C:Ctx n s0 t0 w){k i c:Nat}{l:Int}{js:List Zar}(hk:k<=K)(hd:Der n s0 t0 w (.on k i c) js): ∀ (ks:List Int) {f:ZaH},f.1=n->St f->Snd (Der n s0 t0 w) K f->Ch f.2.1 l js->(∀x∈ks,inR x n.2.2.2.1.length=true/\(lkI n x).1=(i:Int))->
  Snd (Der n s0 t0 w) K (ks.foldl (ZaF (c:Int) (Zac n i c).2.1 l (Zac n i c).2.2.2.2.1) f)/\(Mv f (ks.foldl (ZaF (c:Int) (Zac n i c).2.1 l (Zac n i c).2.2.2.2.1) f)/\Op f (ks.foldl (ZaF (c:Int) (Zac n i c).2.1 l (Zac n i c).2.2.2.2.1) f))/\ ∀x∈ks,Fol n i c (ks.foldl (ZaF (c:Int) (Zac n i c).2.1 l (Zac n i c).2.2.2.2.1) f) x
 | [],f,_,_,h,_,_=>⟨h,⟨Mv.refl f,Op.refl f⟩,(fun _ h=>nomatch h)⟩
 |x::ks,f,hf,hS,h,hl,hx=>by
  obtain⟨hx1,hx2⟩:=hx x (by simp);obtain⟨h1,⟨h2,h3⟩,h4⟩:=ZjM C hf hS h hk hl hd hx1 hx2;obtain⟨h5,⟨h6,h7⟩,h8⟩:=Zgn C hk hd ks (h2.net.trans hf) (hS.step (Zc2 ..).1) h1 (h2.ch hl) (fun y hy=>hx y (by simp [hy]));refine⟨h5,⟨h2.trans h6,h3.trans h7⟩,fun y hy=> ?_⟩;rcases Vbc.1 hy with rfl|hy
  ·exact h4.mono h6
  ·exact h8 y hy
def Zxs(n:Zas)(i c:Nat)(g:ZaH):Prop:= ∀ (j d:Nat) (st:Bool),isLink n i c j d st->(Zac n i c).2.1<=(Zac n j d).2.2.1->
 (st=true->ZcU n j=false->LeB g.2.2.2.2.1 j (d:Int))/\(st=false->(Zac n i c).2.2.2.2.1=true->(Zac n j d).2.2.2.1=true->LeB g.2.2.2.1 j (d:Int))
theorem Zxs.mono{i c:Nat}{g h:ZaH}(y:Mv g h)(z:Zxs n i c g):Zxs n i c h:=
 fun j d st e1 e2=>let ⟨a,b⟩:=z j d st e1 e2;⟨fun u v=>y.brd _ _ (a u v),fun u v z=>y.lnk _ _ (b u v z)⟩
theorem ZoK{i c j d:Nat}{st:Bool}(h:isLink n i c j d st): ∃x:Int,inR x n.2.2.2.1.length=true/\lkI n x=((i:Int),(c:Int),(j:Int),(d:Int),st,()):=by
 obtain⟨k,hk,e⟩:=Vy h;refine⟨(k:Int), ?_, ?_⟩
 ·unfold inR;rw[Vd,decide_eq_true_eq,decide_eq_true_eq];omega
 ·unfold lkI;rw[Ve,Zak hk,e]
theorem ZpY(C:Ctx n s0 t0 w){f:ZaH}(hf:f.1=n)(hS:St f)(ho:ZoA n f.2.2.2.2.2.2.1)(h:Snd (Der n s0 t0 w) K f){k i c:Nat}{l:Int}{js:List Zar}(hk:k<=K)(hl:Ch f.2.1 l js)(hd:Der n s0 t0 w (.on k i c) js):
  Snd (Der n s0 t0 w) K (Zbz f (i:Int) (c:Int) l (Zac n i c).2.2.2.2.1)/\(Mv f (Zbz f (i:Int) (c:Int) l (Zac n i c).2.2.2.2.1)/\Op f (Zbz f (i:Int) (c:Int) l (Zac n i c).2.2.2.2.1))/\Zxs n i c (Zbz f (i:Int) (c:Int) l (Zac n i c).2.2.2.2.1):=by
 have hi:=(C.ok hd).2.1;unfold Zbz;rw[hf,Ve];rw[show cl (rn n (i:Int)).2.2.2.2.2.2.2.1 (c:Int)=Zac n i c from rfl];have hio:i<f.2.2.2.2.2.2.1.length:=by rw[ho.1];exact hi
 have hks:=ho.2 i _ (Va hio);rw[Zak hio];obtain⟨h1,h2,h3⟩:=Zgn C hk hd (f.2.2.2.2.2.2.1[i]) hf hS h hl (fun x hx=>(hks x).1 hx);refine⟨h1,h2,fun j d st e1 e2=> ?_⟩;obtain⟨x,hx1,hx2⟩:=ZoK e1;exact h3 x ((hks x).2 ⟨hx1,by rw[hx2]⟩) j d st hx2 e2
def Vst(n:Zas)(i m:Nat)(g:ZaH):Prop:=((Zac n i m).2.2.2.2.1=true->LeR g.2.2.1 (Zac n i m).1.toNat (Zac n i m).2.1)/\Zxs n i m g
theorem Vst.mono{i m:Nat}{g h:ZaH}(y:Mv g h)(z:Vst n i m g):Vst n i m h:=⟨fun e=>y.rid _ _ (z.1 e),z.2.mono y⟩
theorem ZlQ(C:Ctx n s0 t0 w){f:ZaH}(hf:f.1=n)(hS:St f)(ho:ZoA n f.2.2.2.2.2.2.1)(h:Snd (Der n s0 t0 w) K f){k i bc m:Nat}{prev:Int}{st:Bool}{js:List Zar}(hk:k<=K)(hp:Ch f.2.1 prev js)(hd:Der n s0 t0 w (.brd k i bc st) js)(hm:bc<m)(hml:m< (Zai n i).length):
  Snd (Der n s0 t0 w) K (Zbp (i:Int) ((bc:Int),prev,st,()) (Zac n i bc) (Zai n i) f m)/\(Mv f (Zbp (i:Int) ((bc:Int),prev,st,()) (Zac n i bc) (Zai n i) f m)/\Op f (Zbp (i:Int) ((bc:Int),prev,st,()) (Zac n i bc) (Zai n i) f m))/\Vst n i m (Zbp (i:Int) ((bc:Int),prev,st,()) (Zac n i bc) (Zai n i) f m):=by
 have hi:=(C.ok hd).2.1;have hon:=Der.on hd hm hml;unfold Zbp;rw[show cl (Zai n i) (m:Int)=Zac n i m from rfl]
 cases hskip: (!(Zac n i m).2.2.2.2.1&&decide ((ZhJ f (i:Int)).length=0)) with
 |true=>
  simp only[cond_true];rw[Vd,Bool.not_eq_true',decide_eq_true_eq]at hskip;refine⟨h,⟨Mv.refl f,Op.refl f⟩,⟨fun e=>(by rw[hskip.1]at e;cases e),fun j d st e1 e2=> ?_⟩⟩;exfalso;have hio:i<f.2.2.2.2.2.2.1.length:=by rw[ho.1];exact hi
  have hks:=ho.2 i _ (Va hio);obtain⟨x,hx1,hx2⟩:=ZoK e1;have hx:=(hks x).2 ⟨hx1,by rw[hx2]⟩;have he:=hskip.2;unfold ZhJ at he;rw[Ve,Zak hio]at he;rw[Via.1 he]at hx
  cases hx
 |false=>
  simp only[cond_false];rw[show ((true,(i:Int),(bc:Int),(m:Int),(Zac n i bc).1,(Zac n i m).1,(Zac n i bc).2.2.1,(Zac n i m).2.1,st,()):Zar)=ZbB n i bc m st from rfl];generalize hx:ZbB n i bc m st=x at*;have hch:Ch (ZgR f x prev).2.1 (f.2.1.length:Int) (js++[x]):=hp.new x;obtain⟨h1,⟨h2,h3⟩,h4⟩:=ZpY C (f:=ZgR f x prev) hf (hS.step (Zez ..)) ho (h.add x prev) hk hch hon;have h5:=(Zvl f x prev).trans h2;have h6:=(Zw0 f x prev).trans h3;have hlen:=(Zdd (ZgR f x prev) (i:Int) (m:Int) (f.2.1.length:Int) (Zac n i m).2.2.2.2.1).1;have hSg:=(hS.step (Zez f x prev)).step hlen;generalize Zbz (ZgR f x prev) (i:Int) (m:Int) (f.2.1.length:Int) (Zac n i m).2.2.2.2.1=g at*
  have hst:=C.net.stop hi hml;have htm:=C.net.time hi hml;obtain⟨s,hs⟩: ∃s:Nat,(Zac n i m).1=(s:Int):=⟨(Zac n i m).1.toNat,by omega⟩;have hsg:s<g.2.2.1.length:=by rw[hSg.now,h5.net,hf];omega
  rw[hs,Ve]
  cases hal: (Zac n i m).2.2.2.2.1 with
  |false=>
   simp only[Vpa,cond_false]
   exact⟨h1,⟨h5,h6⟩,fun e=>(by rw[hal]at e;cases e),h4⟩
  |true=>
   simp only[Vm]
   cases hls:less (ZmG g (s:Int)).2.1 (Zac n i m).2.1 with
   |false=>
    simp only[cond_false];refine⟨h1,⟨h5,h6⟩,fun _=> ?_,h4⟩;rw[hs,Ve];unfold ZmG at hls;rw[Ve,Zak hsg]at hls;have: ¬ ((g.2.2.1[s]).2.1= -1\/(Zac n i m).2.1< (g.2.2.1[s]).2.1):=fun e=>by rw[ZdY.2 e]at hls;cases hls
    exact⟨_,Va hsg,by omega,by omega⟩
   |true=>
    simp only[cond_true];have hmv:=Zwe g s htm.1 hls (f.2.1.length:Int);refine⟨h1.ride ⟨k,hk,_,h2.ch hch, ?_⟩,⟨h5.trans hmv,h6.trans ⟨fun _ h=>h,fun _=> .inl rfl⟩⟩,fun _=> ?_,h4.mono hmv⟩
    ·rw[<-hs];exact .ride hon hal
    ·rw[hs,Ve];exact Zt5 hsg htm.1 _
theorem ZkL(C:Ctx n s0 t0 w){k i bc:Nat}{prev:Int}{st:Bool}{js:List Zar}(hk:k<=K)(hd:Der n s0 t0 w (.brd k i bc st) js): ∀ (m:Nat) {f:ZaH},f.1=n->St f->ZoA n f.2.2.2.2.2.2.1->Snd (Der n s0 t0 w) K f->Ch f.2.1 prev js->bc+1+m<=(Zai n i).length->
  Snd (Der n s0 t0 w) K (Zc6 (i:Int) ((bc:Int),prev,st,()) (Zac n i bc) (Zai n i) (bc+1) m f)/\(Mv f (Zc6 (i:Int) ((bc:Int),prev,st,()) (Zac n i bc) (Zai n i) (bc+1) m f)/\Op f (Zc6 (i:Int) ((bc:Int),prev,st,()) (Zac n i bc) (Zai n i) (bc+1) m f))/\
  ∀j,bc<j->j<bc+1+m->Vst n i j (Zc6 (i:Int) ((bc:Int),prev,st,()) (Zac n i bc) (Zai n i) (bc+1) m f)
 |0,f,_,_,_,h,_,_=>⟨h,⟨Mv.refl f,Op.refl f⟩,fun j h1 h2=>by omega⟩
 |m+1,f,hf,hS,ho,h,hp,hm=>by
  obtain⟨h1,⟨h2,h3⟩,h4⟩:=ZkL C hk hd m hf hS ho h hp (by omega);have hS2:=hS.step (ZcT (i:Int) ((bc:Int),prev,st,()) (Zac n i bc) (Zai n i) (bc+1) m f hS).1;obtain⟨h5,⟨h6,h7⟩,h8⟩:=ZlQ C (h2.net.trans hf) hS2 (by rw[h2.out];exact ho) h1 hk (h2.ch hp) hd (m:=bc+1+m) (by omega) (by omega);refine⟨h5,⟨h2.trans h6,h3.trans h7⟩,fun j hj1 hj2=> ?_⟩;by_cases e:j=bc+1+m
  ·subst e;exact h8
  ·exact(h4 j hj1 (by omega)).mono h6
def Vis(n:Zas)(i:Nat)(b:Int)(g:ZaH):Prop:= ∀m:Nat,b< (m:Int)->m< (Zai n i).length->Vst n i m g
theorem Vis.mono{i:Nat}{b:Int}{g h:ZaH}(y:Mv g h)(z:Vis n i b g):Vis n i b h:=fun m a c=>(z m a c).mono y
theorem ZqR(C:Ctx n s0 t0 w){f:ZaH}(hf:f.1=n)(hS:St f)(ho:ZoA n f.2.2.2.2.2.2.1)(h:Snd (Der n s0 t0 w) K f){i:Nat}(hi:i<n.2.2.1.length)(hb:inR ((f.2.2.2.2.1[i]?).getD (0,0,false,())).1 (Zai n i).length=true):
  Snd (Der n s0 t0 w) K (Zc5 f i)/\(Mv f (Zc5 f i)/\Op f (Zc5 f i))/\Vis n i ((f.2.2.2.2.1[i]?).getD (0,0,false,())).1 (Zc5 f i):=by
 have hir:i<f.2.2.2.2.1.length:=by rw[hS.runs,hf];exact hi
 have hsb:=h.brd i _ (Va hir);unfold Zc5;rw[Zak hir]at hb ⊢;generalize f.2.2.2.2.1[i]=b at*;unfold inR at hb;simp only[Vd,decide_eq_true_eq]at hb;obtain⟨k,hk,c,hc,js,hch,hd⟩:=hsb (by omega);obtain⟨b1,prev,st,u⟩:=b;simp only at hc hch hd hb;subst hc;rw[hf];simp only[Ve];obtain⟨h1,h2,h3⟩:=ZkL C hk hd ((Zai n i).length - (c+1)) hf hS ho h hch (by omega);exact⟨h1,h2,fun m hm1 hm2=>h3 m (by omega) (by omega)⟩
end Q
namespace Q
open Tr Go
open Option (bind_some)
variable {n:Zas}{s0 t0 w:Int}{K:Nat}
theorem Zm2(C:Ctx n s0 t0 w){before:List ZbI}(hbl:before.length=n.1.length){f:ZaH}(hf:f.1=n)(hS:St f)(hB: ∀ (s:Nat) p,before[s]? =some p->SP (Der n s0 t0 w) f.2.1 K (s:Int) p)(h:Snd (Der n s0 t0 w) (K+1) f){i m:Nat}(hi:i<n.2.2.1.length)(hm:m< (Zai n i).length):
  Snd (Der n s0 t0 w) (K+1) (ZbP before i (Zai n i) f m)/\(Mv f (ZbP before i (Zai n i) f m)/\Op f (ZbP before i (Zai n i) f m))/\
  (ZcU n i=false->(Zac n i m).2.2.2.1=true->LeY before (Zac n i m).1.toNat (Zac n i m).2.2.1->LeB (ZbP before i (Zai n i) f m).2.2.2.2.1 i (m:Int)):=by
 have hst:=C.net.stop hi hm;have hir:i<f.2.2.2.2.1.length:=by rw[hS.runs,hf];exact hi
 unfold ZbP;rw[show cl (Zai n i) (m:Int)=Zac n i m from rfl];obtain⟨s,hs⟩: ∃s:Nat,(Zac n i m).1=(s:Int):=⟨(Zac n i m).1.toNat,by omega⟩;have hsb:s<before.length:=by omega
 have hp:=hB s _ (Va hsb);rw[hs,Ve,Zak hsb]
 have hY: ∀t,LeY before s t->(before[s]).2.2.1≠ -1/\(before[s]).2.2.1<=t:=by rintro t ⟨q,hq,h1⟩;rw[Va hsb]at hq;cases hq;exact h1
 generalize before[s]=p at*
 cases hb: (Zac n i m).2.2.2.1 with
 |false=>exact⟨h,⟨Mv.refl f,Op.refl f⟩,fun _ e=>by cases e⟩
 |true=>
  by_cases h1:p.2.2.1= -1
  ·rw[decide_eq_true h1];exact⟨h,⟨Mv.refl f,Op.refl f⟩,fun _ _ e=>absurd h1 (hY _ e).1⟩
  by_cases h2:p.2.2.1<=(Zac n i m).2.2.1
  rotate_left
  ·rw[decide_eq_false h1,decide_eq_false h2];exact⟨h,⟨Mv.refl f,Op.refl f⟩,fun _ _ e=>absurd (hY _ e).2 h2⟩
  rw[decide_eq_false h1,decide_eq_true h2];simp only[Vl,Vm]
  cases hl:less ((f.2.2.2.2.1[i]?).getD (0,0,false,())).1 (m:Int) with
  |false=>
   simp only[cond_false]
   exact⟨h,⟨Mv.refl f,Op.refl f⟩,fun _ _ _=>Zlm hir (b:=((m:Int),0,false,())) hl⟩
  |true=>
   simp only[cond_true];have hm0: (0:Int)<=(m:Int):=by omega
   refine⟨h.board fun hcn=>fun _=> ?_,Zk6 f (b:=((m:Int),p.2.2.2.2.2.1,false,())) hm0,fun hcn _ _=>Zi1 hir (b:=((m:Int),p.2.2.2.2.2.1,false,())) hm0 (by rw[hf];exact hcn)⟩;obtain⟨k,hk,js,hch,hd⟩:=hp.rdy h1;exact⟨k+1,by omega,m,rfl,js,hch, .board hd hi hm (by rw[hf]at hcn;exact hcn) hs hb h2⟩
theorem ZhD(C:Ctx n s0 t0 w){before:List ZbI}(hbl:before.length=n.1.length){i:Nat}(hi:i<n.2.2.1.length): ∀ (m:Nat) {f:ZaH},f.1=n->St f->(∀ (s:Nat) p,before[s]? =some p->SP (Der n s0 t0 w) f.2.1 K (s:Int) p)->Snd (Der n s0 t0 w) (K+1) f->m<=(Zai n i).length->
  Snd (Der n s0 t0 w) (K+1) (ZcP before i (Zai n i) m f)/\(Mv f (ZcP before i (Zai n i) m f)/\Op f (ZcP before i (Zai n i) m f))/\
  ∀j,j<m->ZcU n i=false->(Zac n i j).2.2.2.1=true->LeY before (Zac n i j).1.toNat (Zac n i j).2.2.1->LeB (ZcP before i (Zai n i) m f).2.2.2.2.1 i (j:Int)
 |0,f,_,_,_,h,_=>⟨h,⟨Mv.refl f,Op.refl f⟩,fun j hj=>absurd hj (Vfb j)⟩
 |m+1,f,hf,hS,hB,h,hm=>by
  obtain⟨h1,⟨h2,h3⟩,h4⟩:=ZhD C hbl hi m hf hS hB h (by omega);obtain⟨g1,g2⟩:=ZcQ before i (Zai n i) m f;obtain⟨h5,⟨h6,h7⟩,h8⟩:=Zm2 C hbl (h2.net.trans hf) (hS.step g1) (by rw[g2];exact hB) h1 hi (m:=m) (by omega);refine⟨h5,⟨h2.trans h6,h3.trans h7⟩,fun j hj a b c=> ?_⟩;by_cases e:j=m
  ·subst e;exact h8 a b c
  ·exact h6.brd _ _ (h4 j (by omega) a b c)
def Beg(n:Zas)(before:List ZbI)(boarded:List ZcA)(i:Nat)(g:ZaH):Prop:=ZcU n i=false->(∀d,LeB boarded i d->LeB g.2.2.2.2.1 i d)/\
 ∀j,j< (Zai n i).length->(Zac n i j).2.2.2.1=true->LeY before (Zac n i j).1.toNat (Zac n i j).2.2.1->LeB g.2.2.2.2.1 i (j:Int)
theorem Beg.mono{before:List ZbI}{boarded:List ZcA}{i:Nat}{g h:ZaH}(y:Mv g h)(z:Beg n before boarded i g):Beg n before boarded i h:=
 fun e=>⟨fun d hd=>y.brd _ _ ((z e).1 d hd),fun j a b c=>y.brd _ _ ((z e).2 j a b c)⟩
theorem Zqq(C:Ctx n s0 t0 w){before:List ZbI}(hbl:before.length=n.1.length){boarded:List ZcA}(hbo:boarded.length=n.2.2.1.length){i:Nat}(hi:i<n.2.2.1.length){f:ZaH}(hf:f.1=n)(hS:St f)(hB: ∀ (s:Nat) p,before[s]? =some p->SP (Der n s0 t0 w) f.2.1 K (s:Int) p)
  (hL: ∀ (i:Nat) b,boarded[i]? =some b->SL (Der n s0 t0 w) f.2.1 K i b) (h:Snd (Der n s0 t0 w) (K+1) f):
  Snd (Der n s0 t0 w) (K+1) (ZdX before boarded f i)/\(Mv f (ZdX before boarded f i)/\Op f (ZdX before boarded f i))/\Beg n before boarded i (ZdX before boarded f i):=by
 have hib:i<boarded.length:=by omega
 have hir:i<f.2.2.2.2.1.length:=by rw[hS.runs,hf];exact hi
 have hl:=hL i _ (Va hib);unfold ZdX;rw[Zak hib,hf,show (rn n (i:Int)).2.2.2.2.2.2.2.1=Zai n i from rfl]
 have hLe: ∀d,LeB boarded i d->(boarded[i]).1≠ -1/\(boarded[i]).1<=d:=by rintro d ⟨b,hb,h1⟩;rw[Va hib]at hb;cases hb;exact h1
 generalize boarded[i]=b at*;by_cases hb:b.1= -1
 ·rw[decide_eq_true hb];obtain⟨h1,h2,h3⟩:=ZhD C hbl hi (Zai n i).length hf hS hB h (Vo _);exact⟨h1,h2,fun e=>⟨fun d hd=>absurd hb (hLe d hd).1,fun j hj=>h3 j hj e⟩⟩
 ·rw[decide_eq_false hb];simp only[Vl,cond_true];obtain⟨hst,k,hk,c,hc,js,hch,hd⟩:=hl hb;have hb0:0<=b.1:=by omega
  have hs1:Snd (Der n s0 t0 w) (K+1) (Zbg f i b):=h.board fun hcn=>fun _=>⟨k,hk,c,hc,js,hch,by rw[hst];exact .linked hd (by rw[hf]at hcn;exact hcn)⟩;obtain⟨m1,m2⟩:=Zk6 f (i:=i) hb0;have hlab:=ZfW f i b;obtain⟨h1,⟨h2,h2'⟩,h3⟩:=ZhD C hbl hi (Zai n i).length (m1.net.trans hf) (hS.step (Zco ..)) (by rw[hlab];exact hB) hs1 (Vo _);refine⟨h1,⟨m1.trans h2,m2.trans h2'⟩,fun e=>⟨fun d hd=> ?_,fun j hj=>h3 j hj e⟩⟩;obtain⟨x,hx1,hx2,hx3⟩:=h2.brd _ _ (Zi1 hir hb0 (by rw[hf];exact e));exact⟨x,hx1,hx2,Vbb hx3 (hLe d hd).2⟩
theorem Zko(C:Ctx n s0 t0 w){before:List ZbI}(hbl:before.length=n.1.length){boarded:List ZcA}(hbo:boarded.length=n.2.2.1.length): ∀ (m:Nat) {f:ZaH},f.1=n->St f->(∀ (s:Nat) p,before[s]? =some p->SP (Der n s0 t0 w) f.2.1 K (s:Int) p)->
  (∀ (i:Nat) b,boarded[i]? =some b->SL (Der n s0 t0 w) f.2.1 K i b)->Snd (Der n s0 t0 w) (K+1) f->m<=n.2.2.1.length->
  Snd (Der n s0 t0 w) (K+1) (ZcO before boarded m f)/\(Mv f (ZcO before boarded m f)/\Op f (ZcO before boarded m f))/\ ∀i,i<m->Beg n before boarded i (ZcO before boarded m f)
 |0,f,_,_,_,_,h,_=>⟨h,⟨Mv.refl f,Op.refl f⟩,fun i hi=>absurd hi (Vfb i)⟩
 |m+1,f,hf,hS,hB,hL,h,hm=>by
  obtain⟨h1,⟨h2,h3⟩,h4⟩:=Zko C hbl hbo m hf hS hB hL h (by omega);obtain⟨g1,g2⟩:=ZcV (before:=before) (boarded:=boarded) m hS (by rw[hf];omega);obtain⟨h5,⟨h6,h7⟩,h8⟩:=Zqq C hbl hbo (i:=m) (by omega) (h2.net.trans hf) (hS.step g1) (by rw[g2];exact hB) (by rw[g2];exact hL) h1;refine⟨h5,⟨h2.trans h6,h3.trans h7⟩,fun i hi=> ?_⟩;by_cases e:i=m
  ·subst e;exact h8
  ·exact(h4 i (by omega)).mono h6
def Wlk(s t:Int)(l:List ZbI)(p:Zb2):Prop:=p.1=s->t+p.2.2.1<=3155932800->LeA l p.2.1.toNat (t+p.2.2.1)/\LeY l p.2.1.toNat (t+p.2.2.1)
theorem Wlk.mono{s t:Int}{g h:ZaH}{p:Zb2}(y:Mv g h)(z:Wlk s t g.2.2.1 p):Wlk s t h.2.2.1 p:=
 fun a b=>⟨y.arr _ _ (z a b).1,y.rdy _ _ (z a b).2⟩
theorem ZhZ(C:Ctx n s0 t0 w){k:Nat}{s t prev:Int}(ht:0<=t){js:List Zar}(hk:k<=K)(hD: ∀p∈n.2.2.2.2.1,p.1=s->t+p.2.2.1<=3155932800->Der n s0 t0 w (.arr k p.2.1 (t+p.2.2.1)) (js++[ZdZ s p.2.1 t (t+p.2.2.1)])/\Der n s0 t0 w (.rdy k p.2.1 (t+p.2.2.1)) (js++[ZdZ s p.2.1 t (t+p.2.2.1)])):
  ∀ (l:List Zb2) {f:ZaH},f.2.2.1.length=n.1.length->Snd (Der n s0 t0 w) K f->Ch f.2.1 prev js->(∀p∈l,p∈n.2.2.2.2.1)->
  Snd (Der n s0 t0 w) K (l.foldl (Za3 s t prev) f)/\Mv f (l.foldl (Za3 s t prev) f)/\ ∀p∈l,Wlk s t (l.foldl (Za3 s t prev) f).2.2.1 p
 | [],f,_,h,_,_=>⟨h,Mv.refl f,(fun _ h=>nomatch h)⟩
 |p::l,f,hl,h,hch,hp=>by
  have hpn:=hp p (by simp);have hpo:=C.net.path p hpn
  have hstep:Snd (Der n s0 t0 w) K (Za3 s t prev f p)/\Mv f (Za3 s t prev f p)/\Wlk s t (Za3 s t prev f p).2.2.1 p:=by
   unfold Za3;by_cases hc:p.1=s/\t+p.2.2.1<=3155932800
   ·rw[if_pos hc];obtain⟨d1,d2⟩:=hD p hpn hc.1 hc.2;obtain⟨j,hj⟩: ∃j:Nat,p.2.1=(j:Int):=⟨p.2.1.toNat,by omega⟩;have hnew:=hch.new (ZdZ s p.2.1 t (t+p.2.2.1));rw[show ((false,0,0,0,s,p.2.1,t,t+p.2.2.1,false,()):Zar)=ZdZ s p.2.1 t (t+p.2.2.1) from rfl];generalize hx:ZdZ s p.2.1 t (t+p.2.2.1)=x at*;rw[hj]at d1 d2;rw[hj,Ve];have h0:0<=t+p.2.2.1:=by omega
    refine⟨(h.add x prev).imp ⟨k,hk,_,hnew,d1⟩ ⟨k,hk,_,hnew,d2⟩,(Zvl f x prev).trans (Zsx _ j h0 h0 _),fun _ _=> ?_⟩;rw[hj,Ve];exact Zoo (f:=ZgR f x prev) (by show j<f.2.2.1.length;omega) h0 h0 _
   ·rw[if_neg hc];exact⟨h,Mv.refl f,fun a b=>absurd ⟨a,b⟩ hc⟩
  obtain⟨h1,h2,h3⟩:=hstep;obtain⟨h4,h5,h6⟩:=ZhZ C ht hk hD l (f:=Za3 s t prev f p) (by rw[(Zgr s t prev f p).now];exact hl) h1 (h2.ch hch) (fun q hq=>hp q (by simp [hq]));refine⟨h4,h2.trans h5,fun q hq=> ?_⟩;rcases Vbc.1 hq with rfl|hq
  ·exact h3.mono h5
  ·exact h6 q hq
theorem Zml(C:Ctx n s0 t0 w){k:Nat}{s t prev:Int}(ht:0<=t){js:List Zar}(hk:k<=K)(hD: ∀p∈n.2.2.2.2.1,p.1=s->t+p.2.2.1<=3155932800->Der n s0 t0 w (.arr k p.2.1 (t+p.2.2.1)) (js++[ZdZ s p.2.1 t (t+p.2.2.1)])/\Der n s0 t0 w (.rdy k p.2.1 (t+p.2.2.1)) (js++[ZdZ s p.2.1 t (t+p.2.2.1)]))
  {f:ZaH} (hf:f.1=n) (hl:f.2.2.1.length=n.1.length) (h:Snd (Der n s0 t0 w) K f) (hch:Ch f.2.1 prev js):
  Snd (Der n s0 t0 w) K (ZhE f s t prev)/\Mv f (ZhE f s t prev)/\ ∀p∈n.2.2.2.2.1,Wlk s t (ZhE f s t prev).2.2.1 p:=by
 unfold ZhE;rw[hf];exact ZhZ C ht hk hD _ hl h hch (fun _ h=>h)
def ZjW(n:Zas)(l:List ZbI)(s:Nat)(v:Int):Prop:=LeA l s v/\LeY l s (v+(Zci n (s:Int)).2.2.2.1)/\ ∀p∈n.2.2.2.2.1,Wlk (s:Int) v l p
theorem ZjW.mono{s:Nat}{v:Int}{g h:ZaH}(y:Mv g h)(z:ZjW n g.2.2.1 s v):ZjW n h.2.2.1 s v:=
 ⟨y.arr _ _ z.1,y.rdy _ _ z.2.1,fun p hp=>(z.2.2 p hp).mono y⟩
theorem ZjW.weak{l:List ZbI}{s:Nat}{u v:Int}(z:ZjW n l s u)(e:u<=v):ZjW n l s v:=
 ⟨z.1.weak e,z.2.1.weak (by omega),fun p hp a b=>let ⟨x,y⟩:=z.2.2 p hp a (by omega);⟨x.weak (by omega),y.weak (by omega)⟩⟩
def Clo(n:Zas)(l:List ZbI):Prop:= ∀ (s:Nat) p,l[s]? =some p->p.2.1≠ -1->ZjW n l s p.2.1
theorem Znf(C:Ctx n s0 t0 w){before:List ZbI}(hbl:before.length=n.1.length)(hclo:Clo n before){f:ZaH}(hf:f.1=n)(hS:St f)(h:Snd (Der n s0 t0 w) K f)
  (hA: ∀s t,LeA before s t->LeA f.2.2.1 s t) (hY: ∀s t,LeY before s t->LeY f.2.2.1 s t) {s:Nat} (hs:s<n.1.length):
  Snd (Der n s0 t0 w) K (ZbR before f s)/\Mv f (ZbR before f s)/\(ZbQ f s≠ -1->ZjW n (ZbR before f s).2.2.1 s (ZbQ f s)):=by
 have hsl:s<f.2.2.1.length:=by rw[hS.now,hf];exact hs
 have hsb:s<before.length:=by omega
 have hsp:=h.now s _ (Va hsl);have hcb:=hclo s _ (Va hsb);unfold ZbR ZbQ;rw[Zak hsl,Zak hsb];generalize f.2.2.1[s]=p at*;generalize before[s]=b at*;by_cases h1:p.2.1= -1
 ·rw[decide_eq_true h1];exact⟨h,Mv.refl f,fun e=>absurd h1 e⟩
 rw[decide_eq_false h1];simp only[Vl,Vm]
 cases hl:less b.2.1 p.2.1 with
 |false=>
  simp only[cond_false];have hno: ¬ (b.2.1= -1\/p.2.1<b.2.1):=fun e=>by rw[ZdY.2 e]at hl;cases hl
  have hc:=(hcb (by omega)).weak (v:=p.2.1) (by omega)
  exact⟨h,Mv.refl f,fun _=>⟨hA _ _ hc.1,hY _ _ hc.2.1,fun q hq a b=>let ⟨x,y⟩:=hc.2.2 q hq a b;⟨hA _ _ x,hY _ _ y⟩⟩⟩
 |true=>
  simp only[cond_true];obtain⟨k,hk,js,hch,hd⟩:=hsp.rid h1;have hok:=C.ok hd;have hcg:=C.net.change (s:Int) (by omega) (by omega);have hr0:0<=p.2.1:=hok.2.2.1;have hr1:0<=p.2.1+(Zci n (s:Int)).2.2.2.1:=by omega
  rw[hf];have hs1:=h.imp (i:=s) (l:=p.2.2.2.2.1) ⟨k,hk,js,hch, .arrR hd⟩ ⟨k,hk,js,hch, .change hd⟩;have hm1:=Zsx f s hr0 hr1 p.2.2.2.2.1;have hn1:=Zoo hsl hr0 hr1 p.2.2.2.2.1;obtain⟨w1,w2,w3⟩:=Zml C (s:=(s:Int)) (t:=p.2.1) (prev:=p.2.2.2.2.1) hr0 hk (fun q hq e1 e2=>⟨.arrV hd hq e1 e2, .rdyV hd hq e1 e2⟩) (hm1.net.trans hf) (by rw[(Zf1 ..).now,hS.now,hf]) hs1 (hm1.ch hch);exact⟨w1,hm1.trans w2,fun _=>⟨w2.arr _ _ hn1.1,w2.rdy _ _ hn1.2,w3⟩⟩
theorem Zmq(C:Ctx n s0 t0 w){before:List ZbI}(hbl:before.length=n.1.length)(hclo:Clo n before): ∀ (m:Nat) {f:ZaH},f.1=n->St f->Snd (Der n s0 t0 w) K f->
  (∀s t,LeA before s t->LeA f.2.2.1 s t)->(∀s t,LeY before s t->LeY f.2.2.1 s t)->m<=n.1.length->
  Snd (Der n s0 t0 w) K (Zfx before m f)/\Mv f (Zfx before m f)/\ ∀s,s<m->ZbQ f s≠ -1->ZjW n (Zfx before m f).2.2.1 s (ZbQ f s)
 |0,f,_,_,h,_,_,_=>⟨h,Mv.refl f,fun s hs=>absurd hs (Vfb s)⟩
 |m+1,f,hf,hS,h,hA,hY,hm=>by
  obtain⟨h1,h2,h3⟩:=Zmq C hbl hclo m hf hS h hA hY (by omega);obtain⟨h4,h5,h6⟩:=Znf C hbl hclo (f:=Zfx before m f) (s:=m) (h2.net.trans hf) (hS.step (ZeQ before m f).1) h1 (fun s t e=>h2.arr _ _ (hA s t e)) (fun s t e=>h2.rdy _ _ (hY s t e)) (by omega);refine⟨h4,h2.trans h5,fun s hs=> ?_⟩;by_cases e:s=m
  ·subst e;rw[Zf3]at h6;exact h6
  ·exact fun e' =>(h3 s (by omega) e').mono h5
structure Cmp (n:Zas) (s0 t0 w:Int) (K:Nat) (now:List ZbI) (linked:List ZcA):Prop where
 rdy: ∀ {k:Nat}{s r:Int}{js:List Zar},k<=K->Der n s0 t0 w (.rdy k s r) js->LeY now s.toNat r
 rid: ∀ {k:Nat}{s r:Int}{js:List Zar},k<=K->Der n s0 t0 w (.rid k s r) js->LeR now s.toNat r
 arr: ∀ {k:Nat}{s r:Int}{js:List Zar},k<=K->Der n s0 t0 w (.arr k s r) js->LeA now s.toNat r
 lnk: ∀ {k i c:Nat}{js:List Zar},k<=K+1->Der n s0 t0 w (.lnk k i c) js->LeB linked i (c:Int)
theorem Zul(C:Ctx n s0 t0 w){before:List ZbI}{boarded:List ZcA}{g h:ZaH}(hc:Cmp n s0 t0 w K before boarded)(hA: ∀s t,LeA before s t->LeA h.2.2.1 s t)(hY: ∀s t,LeY before s t->LeY h.2.2.1 s t)
  (hbeg: ∀i,i<n.2.2.1.length->Beg n before boarded i g) (hvis: ∀ (i:Nat) b,g.2.2.2.2.1[i]? =some b->b.1≠ -1->Vis n i b.1 g) (hm:Mv g h) (hclo:Clo n h.2.2.1):
  Cmp n s0 t0 w (K+1) h.2.2.1 h.2.2.2.1:=by
 have key: ∀ {f:Zmt}{js:List Zar},Der n s0 t0 w f js->match f with
   | .rdy k s r=>k<=K+1->LeY h.2.2.1 s.toNat r
   | .brd k i c _=>k<=K+1->LeB g.2.2.2.2.1 i (c:Int)
   | .lnk k i c=>k<=K+2->LeB h.2.2.2.1 i (c:Int)
   | .on k i c=>k<=K+1->Vst n i c g
   | .rid k s t=>k<=K+1->LeR h.2.2.1 s.toNat t
   | .arr k s t=>k<=K+1->LeA h.2.2.1 s.toNat t:=by
  have cl: ∀ {s t:Int},0<=s->LeR h.2.2.1 s.toNat t->ZjW n h.2.2.1 s.toNat t/\((s.toNat:Nat):Int)=s:=by rintro s t h0 ⟨p,h1,h2,h3⟩;exact⟨(hclo _ _ h1 h2).weak h3,by omega⟩
  intro f js d
  induction d with
  |init=>exact fun _=>hY _ _ (hc.rdy (Vla _) .init)
  |here=>exact fun _=>hA _ _ (hc.arr (Vla _) .here)
  |rdyW h1 h2 h3=>exact fun _=>hY _ _ (hc.rdy (Vla _) (.rdyW h1 h2 h3))
  |arrW h1 h2 h3=>exact fun _=>hA _ _ (hc.arr (Vla _) (.arrW h1 h2 h3))
  |board d h1 h2 h3 h4 h5 h6 _=>
   intro hk;refine((hbeg _ h1) h3).2 _ h2 h5 ?_;rw[h4]
   exact(hc.rdy (by omega) d).weak h6
  |on d h1 h2 ih=>
   intro hk;obtain⟨b,b1,b2,b3⟩:=ih hk
   exact hvis _ _ b1 b2 _ (by omega) h2
  |stay d h1 h2 h3 ih=>exact fun hk=>(((ih hk).2 _ _ _ h1 h2).1 rfl h3)
  |link d h1 h2 h3 h4 ih=>exact fun hk=>hm.lnk _ _ (((ih (by omega)).2 _ _ _ h2 h3).2 rfl h1 h4)
  |linked d h1 _=>exact fun hk=>((hbeg _ (C.ok d).2.1) h1).1 _ (hc.lnk hk d)
  |ride d h1 ih=>exact fun hk=>hm.rid _ _ ((ih hk).1 h1)
  |change d ih=>
   intro hk;obtain⟨⟨_,h2,_⟩,e⟩:=cl (C.ok d).2.1.1 (ih hk);rw[e]at h2
   exact h2
  |rdyV d h1 h2 h3 ih=>
   intro hk;obtain⟨⟨_,_,h4⟩,e⟩:=cl (C.ok d).2.1.1 (ih hk)
   exact(h4 _ h1 (by rw[e];exact h2) h3).2
  |arrR d ih=>exact fun hk=>(cl (C.ok d).2.1.1 (ih hk)).1.1
  |arrV d h1 h2 h3 ih=>
   intro hk;obtain⟨⟨_,_,h4⟩,e⟩:=cl (C.ok d).2.1.1 (ih hk);exact(h4 _ h1 (by rw[e];exact h2) h3).1
 exact⟨fun hk d=>key d hk,fun hk d=>key d hk,fun hk d=>key d hk,fun hk d=>key d hk⟩
structure RI (n:Zas) (s0 t0 w:Int) (K:Nat) (f:ZaH):Prop where
 net:f.1=n
 nowl:f.2.2.1.length=n.1.length
 lnkl:f.2.2.2.1.length=n.2.2.1.length
 out:ZoA n f.2.2.2.2.2.2.1
 few: ∀ks∈f.2.2.2.2.2.2.1,ks.length<=1024
 now: ∀ (s:Nat) p,f.2.2.1[s]? =some p->SP (Der n s0 t0 w) f.2.1 K (s:Int) p
 lnk: ∀ (i:Nat) b,f.2.2.2.1[i]? =some b->SL (Der n s0 t0 w) f.2.1 K i b
 cmp:Cmp n s0 t0 w K f.2.2.1 f.2.2.2.1
 clo:Clo n f.2.2.1
theorem RI.links(C:Ctx n s0 t0 w){f:ZaH}(h:RI n s0 t0 w K f): ∀ks∈f.2.2.2.2.2.2.1,ks.length<=1024/\ ∀k∈ks,inR k n.2.2.2.1.length=true/\ZmA n (lkI n k):=by
 intro ks hks;refine⟨h.few ks hks,fun k hk=> ?_⟩;obtain⟨i,hi,rfl⟩:=Vy hks;obtain⟨h1,h2⟩:=(h.out.2 i _ (Va hi) k).1 hk;refine⟨h1, ?_⟩;obtain⟨i',c',j,d,st,e,hi',hj,_,_,hd,_⟩:=C.net.link _ (Zrk h1);rw[e];refine⟨?_, ?_⟩
 ·show inR (j:Int) _=true;unfold inR;rw[Vd,decide_eq_true_eq,decide_eq_true_eq];omega
 ·show inR (d:Int) (rn n (j:Int)).2.2.2.2.2.2.2.1.length=true;have:d< (rn n (j:Int)).2.2.2.2.2.2.2.1.length:=hd;unfold inR;rw[Vd,decide_eq_true_eq,decide_eq_true_eq];omega
theorem ZqK(m:Nat):ZoI (Vj m b00)=40*m:=by unfold ZoI;rw[List.map_replicate,List.sum_replicate_nat];show m*40=_;omega
end Q
namespace Q
open Tr Go
open Option (bind_some)
variable {n:Zas}{s0 t0 w:Int}{K:Nat}
theorem bex{α β:Type}{o:Option α}{f:α->Option β}{Q:β->Prop}(P:α->Prop)(h: ∃r,o=some r/\P r)(k: ∀r,P r-> ∃s,f r=some s/\Q s): ∃s,Vb o f=some s/\Q s:=by obtain⟨r,rfl,hr⟩:=h;exact k r hr
theorem ZtT(l:List ZbI)(x:ZbI):Vzb (Min.min (Vg l) (Vg (Vj (Vma (↑(Vg l):Int)) x))) l++List.drop (Min.min (Vg l) (Vg (Vj (Vma (↑(Vg l):Int)) x))) (Vj (Vma (↑(Vg l):Int)) x)=l:=by simp
theorem Zvq(f:ZaH):Mv f (ZeL f):=⟨rfl,⟨[],by simp [ZeL]⟩,fun _ _ h=>h,fun _ _ h=>h,fun _ _ h=>h,fun _ _ h=>h,fun _ _ h=>h,rfl⟩
structure OL (n:Zas) (s0 t0 w:Int) (K:Nat) (g1 f:ZaH):Prop where
 net:f.1=n
 out:ZoA n f.2.2.2.2.2.2.1
 snd:Snd (Der n s0 t0 w) K f
 vis: ∀ (i:Nat) b,f.2.2.2.2.1[i]? =some b->b.1≠ -1->(i:Int)∈f.2.2.2.2.2.1\/Vis n i b.1 f
 mv:Mv g1 f
theorem ZwA(C:Ctx n s0 t0 w){g1:ZaH}(f:ZaH)(i:Nat)(hS:St f)(hB:Brd f)(hi:i<f.1.2.2.1.length)(hpop:f.2.2.2.2.2.1=(ZeL f).2.2.2.2.2.1++[(i:Int)])(hin:inR ((f.2.2.2.2.1[i]?).getD (0,0,false,())).1 (f.1.2.2.1[i]).2.2.2.2.2.2.2.1.length=true)(h:OL n s0 t0 w K g1 f):
  OL n s0 t0 w K g1 (Zc5 (ZeL f) i):=by
 have hnet:=h.net;have hi' :i<n.2.2.1.length:=by rw[<-hnet];exact hi
 have hin' :inR (((ZeL f).2.2.2.2.1[i]?).getD (0,0,false,())).1 (Zai n i).length=true:=by rw[Zen hi'];simp only[<-hnet];exact hin
 obtain⟨h1,⟨h2,h3⟩,h4⟩:=ZqR C (f:=ZeL f) hnet (Zn8 hS hB).1 h.out ⟨h.snd.now,h.snd.brd,h.snd.lnk⟩ hi' hin';refine⟨h2.net.trans hnet,by rw[h2.out];exact h.out,h1,fun j b hb hne=> ?_,h.mv.trans ((Zvq f).trans h2)⟩;rcases h3.chg j with e|e
 ·rw[e]at hb;rcases h.vis j b hb hne with ho|hv
  ·rw[hpop,Veb]at ho;rcases ho with ho|ho
   ·exact .inl (h3.opn _ ho)
   ·simp only[Vob,Vna]at ho;subst ho;right;rw[hb]at h4;exact h4
  ·exact .inr (hv.mono ((Zvq f).trans h2))
 ·exact .inl e
theorem Zrq(C:Ctx n s0 t0 w)(hp:n.2.2.2.2.1.length<=4096){f:ZaH}(h:RI n s0 t0 w K f)(hl:f.2.1.length+4000000<4000000000):
  ∃g,F123 f f.2.2.1=some g/\RI n s0 t0 w (K+1) g/\(∃m,g.2.1=f.2.1++m)/\g.2.1.length<=f.2.1.length+4000000:=by
 have hs:=C.net.sound;have hst:=hs.stops;have hrn:=hs.runs;have hlinks:=h.links C;obtain⟨h1,h2,h3,h4,h5,h6,h7,h8,h9⟩:=h;obtain⟨n',lb,before,linked,runs0,opn0,out,u⟩:=f;simp only at*;subst h1;unfold F123;simp only;have hm: (Zan:Int)=549755813888:=by simp [Zan]
 have hg:Zam (decide ((0:Int)<=(before.length:Int)/\(before.length:Int)<=(before.length:Int)/\(before.length:Int)<=(Zan:Int)))=some ():=by rw[decide_eq_true (by rw[hm];omega)];rfl
 have hub:F126 (linked.length:Int)=some (Vj n'.2.2.1.length b00):=by rw[h3];exact Zhc (by omega)
 refine bex (fun _=>True) ⟨(),hg,trivial⟩ fun _ _=> ?_;refine bex (fun r=>r=Vj n'.2.2.1.length b00) ⟨_,hub,rfl⟩ ?_;rintro _ rfl;refine bex (fun r=>r=Vj n'.2.2.1.length b00) ⟨_,hub,rfl⟩ ?_;rintro _ rfl;erw[ZtT];generalize hf0: ((n',lb,before,Vj n'.2.2.1.length b00,Vj n'.2.2.1.length b00,[],out,()):ZaH)=f0;have hS0:St f0:=by rw[<-hf0];exact⟨hs,h2,by simp,by simp,h4.1,hlinks⟩
 have e1:f0.1=n' :=by rw[<-hf0]
 have e2:f0.2.1=lb:=by rw[<-hf0]
 have e3:f0.2.2.1=before:=by rw[<-hf0]
 have e4:f0.2.2.2.1=Vj n'.2.2.1.length b00:=by rw[<-hf0]
 have e5:f0.2.2.2.2.1=Vj n'.2.2.1.length b00:=by rw[<-hf0]
 have e6:f0.2.2.2.2.2.1=[]:=by rw[<-hf0]
 have e7:f0.2.2.2.2.2.2.1=out:=by rw[<-hf0]
 have hrep: ∀ {i:Nat}{b:ZcA},(Vj n'.2.2.1.length b00)[i]? =some b->b=b00:=by intro i b hb;exact Vxa (List.mem_of_getElem? hb)
 have hB0:Brd f0:=⟨fun b hb=>by rw[e5]at hb;rw[Vxa hb];exact .inl rfl,fun r hr=>by rw[e6]at hr;cases hr⟩;have hF0:Zgd f0<=81920:=by unfold Zgd;rw[e5,e6,ZqK];simp only[Vfa];omega
 have hN0:Snd (Der n' s0 t0 w) (K+1) f0:=
  ⟨fun s p hq=>by rw[e3]at hq;rw[e2];exact(h6 s p hq).weak (Nat.le_succ K),fun i b hb=>(by rw[e5]at hb;rw[hrep hb];exact fun e=>absurd rfl e),fun i b hb=>(by rw[e4]at hb;rw[hrep hb];exact fun e=>absurd rfl e)⟩
 have hbv:=Zsl (before:=before) (boarded:=linked) hS0 (by rw[e1];exact h2) (by rw[e1];exact h3) (by rw[e6];simp)
 have hbd: ∀i,(hi:i<f0.1.2.2.1.length)->((linked[i]?).getD (0,0,false,())).1= -1\/inR ((linked[i]?).getD (0,0,false,())).1 (f0.1.2.2.1[i]).2.2.2.2.2.2.2.1.length=true:=by
  intro i hi;have hi' :i<n'.2.2.1.length:=by rw[<-e1];exact hi
  have hil:i<linked.length:=by omega
  rw[Zak hil];have hx:=h7 i _ (Va hil);by_cases hz: (linked[i]).1= -1
  ·exact .inl hz
  right;obtain⟨_,k,hk,c,hc,js,hch,hd⟩:=hx hz;have:=(C.ok hd).2.2;rw[Zen hi']at this;have e:f0.1.2.2.1[i]=n'.2.2.1[i]:=by simp only[e1]
  rw[hc,e];unfold inR;rw[Vd,decide_eq_true_eq,decide_eq_true_eq];omega
 have hlen1:f0.1.2.2.1.length=n'.2.2.1.length:=by rw[e1]
 rw[hlen1]at hbv;obtain⟨b1,b2⟩:=ZiP (before:=before) n'.2.2.1.length hS0 hB0 (by rw[hlen1];omega) hbd;obtain⟨b3,b4⟩:=ZcV (before:=before) (boarded:=linked) n'.2.2.1.length hS0 (by rw[hlen1];omega);obtain⟨b5,⟨b6,b6'⟩,b7⟩:=Zko C h2 h3 n'.2.2.1.length e1 hS0 (by rw[e2];exact h6) (by rw[e2];exact h7) hN0 (Vo _);refine bex (fun r=>r=ZcO before linked n'.2.2.1.length f0) ⟨_, ?_,rfl⟩ ?_
 ·rw[e1]at hbv;exact hbv
 rintro _ rfl;generalize hg1:ZcO before linked n'.2.2.1.length f0=g1 at*;have hO1:OL n' s0 t0 w (K+1) g1 g1:=⟨b6.net.trans e1,by rw[b6.out,e7];exact h4,b5,fun i b hb hne=> ?_,Mv.refl g1⟩
 rotate_left
 ·rcases b6'.chg i with e|e
  ·rw[e,e5]at hb;rw[hrep hb]at hne;exact absurd rfl hne
  ·exact .inl e
 obtain⟨g,g2,g3,g4,g5,g6,g7,g8,g9⟩:=ZlY (OL n' s0 t0 w (K+1) g1) (ZwA C) 81920 (f:=g1) (by omega) (hS0.step b3) b1 hO1 (by rw[b4,e2];omega) (by omega);refine bex (fun r=>r=g) ⟨_,g2,rfl⟩ fun x hx=> ?_;rw[hx];have hlb1:g1.2.1.length=lb.length:=by rw[b4,e2]
 have hmv:=b6.trans g5.mv;have hgn:g.1=n' :=g5.net;have hA: ∀s t,LeA before s t->LeA g.2.2.1 s t:=fun s t e=>hmv.arr s t (by rw[e3];exact e);have hY: ∀s t,LeY before s t->LeY g.2.2.1 s t:=fun s t e=>hmv.rdy s t (by rw[e3];exact e);have hnl:g.2.2.1.length=n'.1.length:=by rw[g3.now,hgn]
 obtain⟨l1,l2,l3⟩:=Zmq C h2 h9 g.2.2.1.length hgn g3 g5.snd hA hY (by omega);have lh:=ZeQ before g.2.2.1.length g;have hlv:=Zsv g3 (by rw[h2,hnl]) (fun j hj=> ?_) (fun s hs' => ?_) (by omega) (by rw[hgn];exact hp) (fun q hq=> ?_) (before:=before)
 rotate_left
 ·unfold ZbQ;rw[Zak hj];by_cases hz: (g.2.2.1[j]).2.1= -1
  ·exact .inl hz
  right;obtain⟨k,_,js,_,hd⟩:=(g5.snd.now j _ (Va hj)).rid hz;exact(C.ok hd).2.2
 ·rw[hgn]at hs' ⊢;exact C.net.change (s:Int) (by omega) (by omega)
 ·rw[hgn]at hq ⊢;have:=C.net.path q hq;exact⟨this.2.1.1,this.2.1.2,by omega,by omega⟩
 refine bex (fun y=>y=Zfx before g.2.2.1.length g) ⟨_,hlv,rfl⟩ ?_;rintro _ rfl;have hmn:g.2.2.1.length*g.1.2.2.2.2.1.length<=64*4096:=Vyb (by omega) (by rw[hgn];exact hp)
 have hclo:Clo n' (Zfx before g.2.2.1.length g).2.2.1:=by
  intro s q hq hne;have hsl:=(Vw.1 hq).1;have e:ZbQ (Zfx before g.2.2.1.length g) s=q.2.1:=by unfold ZbQ;rw[hq];rfl
  rw[Zf3]at e;have:=l3 s (by rw[lh.1.now]at hsl;exact hsl) (by rw[e];exact hne);rw[e]at this;exact this
 have hm0:=hmv.trans l2;refine⟨_,rfl,⟨l2.net.trans hgn,by rw[lh.1.now,hnl],by rw[lh.1.linked,g3.linked,hgn],by rw[l2.out,hmv.out,e7];exact h4,by rw[l2.out,hmv.out,e7];exact h5,l1.now,l1.lnk, ?_,hclo⟩, ?_, ?_⟩
 ·refine Zul C h8 (fun s t e=>l2.arr _ _ (hA s t e)) (fun s t e=>l2.rdy _ _ (hY s t e)) (fun i hi=>(b7 i hi).mono g5.mv) (fun i b hb hne=> ?_) l2 hclo;rcases g5.vis i b hb hne with e|e
  ·rw[g6]at e;cases e
  ·exact e
 ·obtain⟨m,hm'⟩:=hm0.lab;exact⟨m,by rw[hm',e2]⟩
 ·have:=lh.2;omega
end Q
