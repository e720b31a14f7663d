/- filter: usable runs, open stops, the allowed network; queries. Conditions: the network is valid, its lists are short. -/
import Derived.KernelRfl
import Derived.Test.YtckebckjnfcniaaGreatJLwJa2842
import Derived.Test.YtckebckjnfcniaaGreatTsF
import Derived.Test.YtckebckjnfcniaaGreatTtA
namespace Q
open Tr Go
open Option (bind_some)
theorem Zp2 {α β τ:Type} {step:List β×Int→Option ((List β×Int) ⊕ τ)} (l:List α) (f:α→List β) (R:List β→τ)
  (hstep: ∀i (hi:i<l.length),step ((l.take i).flatMap f,(i:Int))=some (.inl ((l.take i).flatMap f++f l[i],((i+1:Nat):Int))))
  (hend:step (l.flatMap f,(l.length:Int))=some (.inr (R (l.flatMap f)))):run step ([],(0:Int))=some (R (l.flatMap f)):=by
 refine Exists.elim (ZbB (step:=step) l.length (fun r=>r=R (l.flatMap f)) (fun i st=>st=((l.take i).flatMap f,(i:Int))) ?_ ?_ ([],(0:Int)) (by simp)) ?_
 ·rintro i _ hi rfl
  left
  refine⟨_,hstep i hi, ?_⟩
  rw[List.take_succ_eq_append_getElem hi,List.flatMap_append]
  simp
 ·rintro _ rfl
  rw[List.take_length]
  exact⟨_,hend,rfl⟩
 ·rintro r ⟨h1,rfl⟩
  exact h1
theorem ZpD {α β:Type} (f:α→β) (l:List α):l.flatMap (fun x=>[f x])=l.map f:=by
 induction l with
 |nil=>rfl
 |cons x l ih=>simp [ih]
theorem ZqD {α β:Type} {f:α→List β} (hf: ∀x,(f x).length≤1) (l:List α): (l.flatMap f).length≤l.length:=by
 induction l with
 |nil=>simp
 |cons x l ih=>have:=hf x;simp;simp at ih;omega
abbrev Zbp:=Int×Int×Int×Bool×Int×Int×Bool×Bool×Int×Bool×Unit
def Zqo (n:ZaJ) (r:Zhp):Zd3:=(n.2.1[r.2.2.2.2.1.toNat]?).getD r0
def Zqy (n:ZaJ) (q:Zbp) (r:Zhp):Bool:=Tr.useB q r (Zqo n r)
def s0:Zjl:=([],0,false,0,())
def Zb6 (n:ZaJ) (s:Int):Zjl:=(n.1[s.toNat]?).getD s0
def Zis (n:ZaJ) (q:Zbp) (s:Int):Bool:=(Zb6 n s).2.2.1|| !q.2.2.2.2.2.2.1
def Zbv (n:ZaJ) (q:Zbp) (c:ZbO):ZbO:=if Zis n q c.1 then c else(c.1,c.2.1,c.2.2.1,false,false,())
theorem Zq0 {n:ZaJ} (hS:Zec n) {r:Zhp} (hr:r∈n.2.2.1):idx n.2.1 r.2.2.2.2.1=some (Zqo n r)∧Zqo n r∈n.2.1:=by
 have h:=hS.route _ hr
 have hi:inR r.2.2.2.2.1 n.2.1.length=true:=by simp [inR];omega
 refine⟨Zbk hi r0, ?_⟩
 unfold Zqo
 rw[Zai (show r.2.2.2.2.1.toNat<n.2.1.length by omega)]
 exact List.getElem_mem _
theorem ZrQ {n:ZaJ} (hS:Zec n) (q:Zbp) {r:Zhp} (hr:r∈n.2.2.1):F15 n q r=some (Zqy n q r):=by
 obtain⟨h1,h2⟩:=Zq0 hS hr
 have hm:=(hS.mode _ h2).1
 unfold F15 Tr.useF
 rw[h1]
 simp only[bind_some,show decide ((0:Int)≤(Zqo n r).2.1)=true from decide_eq_true hm,Bool.or_true,cond_true]
 rfl
theorem ZsO {n:ZaJ} (hS:Zec n) {r:Zhp} (hr:r∈n.2.2.1) {c:ZbO} (hc:c∈r.2.2.2.2.2.2.2.1):idx n.1 c.1=some (Zb6 n c.1):=by
 have h:=hS.call _ hr _ hc
 exact Zbk (show inR c.1 n.1.length=true by simp [inR];omega) s0
theorem Zqx {n:ZaJ} (q:Zbp) {s:Int} (h:idx n.1 s=some (Zb6 n s)):F14 n q s=some (Zis n q s):=by
 unfold F14
 rw[h]
 simp only[bind_some]
 unfold Zis
 cases (Zb6 n s).2.2.1<;>rfl
theorem Zmu {n:ZaJ} (hS:Zec n) (q:Zbp) {r:Zhp} (hr:r∈n.2.2.1):F13 n q r.2.2.2.2.2.2.2.1=some (r.2.2.2.2.2.2.2.1.map (Zbv n q)):=by
 have hl:=(hS.many _ hr).2
 unfold F13
 rw[Zp2 r.2.2.2.2.2.2.2.1 (fun c=>[Zbv n q c]) id ?_ ?_]
 ·simp only[bind_some,id,ZpD,List.length_map]
  generalize hm:r.2.2.2.2.2.2.2.1.map (Zbv n q)=m
  have hlen:m.length=r.2.2.2.2.2.2.2.1.length:=by rw[←hm,List.length_map]
  rw[←hlen]
  have e1:inb (m.length:Int) (m.length+1)=some m.length:=by
   unfold inb;rw[if_pos (by omega)];simp
  have e2:sliceB m.length m.length none (some (m.length:Int))=some (0,m.length):=by
   unfold sliceB
   simp only[if_pos (show (0:Int)≤(m.length:Int)∧(m.length:Int)≤(m.length:Int) from ⟨by omega,by omega⟩),bind_some,Int.toNat_natCast]
  rw[e1]
  simp only[bind_some]
  rw[e2]
  simp
 ·intro i hi
  have hc:=List.getElem_mem hi
  simp only[ZaG hi,cond_true,Zag hi,bind_some]
  rw[Zqx q (ZsO hS hr hc)]
  have hb:=ZqD (f:=fun c=>[Zbv n q c]) (by simp) (r.2.2.2.2.2.2.2.1.take i)
  rw[List.length_take] at hb
  simp only[bind_some]
  have e: (bif !Zis n q (r.2.2.2.2.2.2.2.1[i]).1 then some (((r.2.2.2.2.2.2.2.1[i]).1,(r.2.2.2.2.2.2.2.1[i]).2.1,(r.2.2.2.2.2.2.2.1[i]).2.2.1,false,false,(r.2.2.2.2.2.2.2.1[i]).2.2.2.2.2):ZbO) else some r.2.2.2.2.2.2.2.1[i])=some (Zbv n q r.2.2.2.2.2.2.2.1[i]):=by
   unfold Zbv
   cases Zis n q (r.2.2.2.2.2.2.2.1[i]).1<;>rfl
  erw[e]
  simp only[bind_some]
  rw[Zbn (by simp;simp at hb;omega),Zan hi (by omega)]
  rfl
 ·simp only[ZaI,cond_false];rfl
structure Few (n:ZaJ):Prop where
 stops:n.1.length≤4096
 routes:n.2.1.length≤4096
 runs:n.2.2.1.length≤4096
 links:n.2.2.2.1.length≤4096
 paths:n.2.2.2.2.1.length≤4096
 prods:n.2.2.2.2.2.1.1.length≤4096
 calls: ∀r∈n.2.2.1,r.2.2.2.2.2.2.2.1.length≤4096
theorem ZdZ {α:Type} (l:List α) (h:l.length≤4096): (Option.bind (Zas (decide (List.length ([]:List Unit)+List.length l≤Zay))) fun _=>
 Option.bind (inb (↑(List.length ([]++l)):Int) (List.length ([]++l)+(1:Nat))) fun x1=>
 Option.bind (sliceB (List.length ([]++l)) x1 none (some (↑(List.length ([]++l)):Int))) fun x2=>some (List.take x2.2 ([]++l)))=some l:=by
 have e0:Zas (decide (List.length ([]:List Unit)+List.length l≤Zay))=some ():=by
  unfold Zas Zay
  rw[decide_eq_true (show List.length ([]:List Unit)+List.length l≤2 ^ 32 by simp;omega)];rfl
 have e1:inb (l.length:Int) (l.length+1)=some l.length:=by
  unfold inb;rw[if_pos (by omega)];simp
 have e2:sliceB l.length l.length none (some (l.length:Int))=some (0,l.length):=by
  unfold sliceB
  simp only[if_pos (show (0:Int)≤(l.length:Int)∧(l.length:Int)≤(l.length:Int) from ⟨by omega,by omega⟩),bind_some,Int.toNat_natCast]
 rw[e0]
 simp only[bind_some,List.nil_append]
 rw[e1]
 simp only[bind_some]
 rw[e2]
 simp
theorem ZoY {n:ZaJ} (h:Few n):F37 n=some n:=by
 unfold F37
 have hs:F48 n.1=some n.1:=ZdZ n.1 h.stops
 have hro:F46 n.2.1=some n.2.1:=ZdZ n.2.1 h.routes
 have hru:F47 n.2.2.1=some n.2.2.1:=ZdZ n.2.2.1 h.runs
 have hli:F44 n.2.2.2.1=some n.2.2.2.1:=ZdZ n.2.2.2.1 h.links
 have hpa:F43 n.2.2.2.2.1=some n.2.2.2.2.1:=ZdZ n.2.2.2.2.1 h.paths
 have hpr:F45 n.2.2.2.2.2.1.1=some n.2.2.2.2.2.1.1:=ZdZ n.2.2.2.2.2.1.1 h.prods
 rw[hs,hro,hru,hli,hpa]
 simp only[bind_some]
 refine Zd8 (fun r:ZaJ=>r=(n.1,n.2.1,n.2.2.1,n.2.2.2.1,n.2.2.2.2.1,n.2.2.2.2.2.1,())) (ZbB n.2.2.1.length _ (fun i (st:ZaJ×Int)=>st=((n.1,n.2.1,n.2.2.1,n.2.2.2.1,n.2.2.2.2.1,n.2.2.2.2.2.1,()),(i:Int))) ?_ ?_ _ rfl) ?_
 ·rintro i _ hi rfl
  left
  have hc:F42 (n.2.2.1[i]).2.2.2.2.2.2.2.1=some (n.2.2.1[i]).2.2.2.2.2.2.2.1:=ZdZ _ (h.calls _ (List.getElem_mem hi))
  simp only[ZaG hi,cond_true,ZaX hi,bind_some,List.getElem?_eq_getElem hi,hc]
  refine⟨_,rfl, ?_⟩
  rw[Zan hi (by have:=h.runs;omega)]
  have e:List.set n.2.2.1 i ((n.2.2.1[i]).1,(n.2.2.1[i]).2.1,(n.2.2.1[i]).2.2.1,(n.2.2.1[i]).2.2.2.1,(n.2.2.1[i]).2.2.2.2.1,(n.2.2.1[i]).2.2.2.2.2.1,(n.2.2.1[i]).2.2.2.2.2.2.1,(n.2.2.1[i]).2.2.2.2.2.2.2.1,(n.2.2.1[i]).2.2.2.2.2.2.2.2)=n.2.2.1:=List.set_getElem_self hi
  erw[e]
 ·rintro _ rfl
  exact⟨_,by simp only[ZaI,cond_false],rfl⟩
 ·rintro _ rfl
  rw[hpr]
  rfl
def Zb0 (n:ZaJ) (q:Zbp) (r:Zhp):Zhp:=(r.1,r.2.1,r.2.2.1,r.2.2.2.1,r.2.2.2.2.1,r.2.2.2.2.2.1, !Zqy n q r,r.2.2.2.2.2.2.2.1.map (Zbv n q),())
def Zdx (n:ZaJ) (q:Zbp):List Zcl:=if q.2.2.2.2.2.2.1 then n.2.2.2.2.1.filter (fun p=>p.2.2.2.1) else n.2.2.2.2.1
def Za7 (n:ZaJ) (q:Zbp):ZaJ:=(n.1,n.2.1,n.2.2.1.map (Zb0 n q),n.2.2.2.1,Zdx n q,n.2.2.2.2.2.1,())
def Zd2 (n:ZaJ) (q:Zbp) (i:Nat):List Zhp:=(n.2.2.1.take i).map (Zb0 n q)++n.2.2.1.drop i
theorem Zmz (n:ZaJ) (q:Zbp) {i:Nat} (hi:i≤n.2.2.1.length): (Zd2 n q i).length=n.2.2.1.length:=by
 simp [Zd2];omega
theorem Zmw (n:ZaJ) (q:Zbp) {i:Nat} (hi:i<n.2.2.1.length): (Zd2 n q i)[i]? =some n.2.2.1[i]:=by
 unfold Zd2
 rw[List.getElem?_append_right (by simp;omega)]
 simp only[List.length_map,List.length_take,Nat.min_eq_left (Nat.le_of_lt hi),Nat.sub_self,List.getElem?_drop,Nat.add_zero]
 exact List.getElem?_eq_getElem hi
theorem ZmM (n:ZaJ) (q:Zbp) {i:Nat} (hi:i<n.2.2.1.length): (Zd2 n q i).set i (Zb0 n q n.2.2.1[i])=Zd2 n q (i+1):=by
 unfold Zd2
 have hlen: ((n.2.2.1.take i).map (Zb0 n q)).length=i:=by simp;omega
 rw[List.set_append_right _ _ (by omega),hlen,Nat.sub_self,List.drop_eq_getElem_cons hi,List.set_cons_zero,List.take_succ_eq_append_getElem hi,List.map_append]
 simp
theorem ZkW {n:ZaJ} (hS:Zec n) (hF:Few n) (q:Zbp) (hq:F10 n q=some 0):F12 n q=some (Za7 n q,0):=by
 unfold F12
 rw[hq]
 simp only[bind_some,decide_true,Bool.not_true,cond_false]
 rw[ZoY hF]
 simp only[bind_some]
 refine Zd8 (fun r:ZaJ=>r=(n.1,n.2.1,n.2.2.1.map (Zb0 n q),n.2.2.2.1,n.2.2.2.2.1,n.2.2.2.2.2.1,())) (ZbB n.2.2.1.length _ (fun i (st:ZaJ×Int)=>st=((n.1,n.2.1,Zd2 n q i,n.2.2.2.1,n.2.2.2.2.1,n.2.2.2.2.2.1,()),(i:Int))) ?_ ?_ _ (by simp [Zd2])) ?_
 ·rintro i _ hi rfl
  left
  have hr:=List.getElem_mem hi
  have hl:=Zmz n q (Nat.le_of_lt hi)
  have hi' :i< (Zd2 n q i).length:=by omega
  simp only[ZaG hi,cond_true,Zag hi,bind_some,ZrQ hS q hr,ZaX hi',Zmw n q hi,Zmu hS q hr]
  refine⟨_, ?_,rfl⟩
  rw[Zan hi (by have:=hF.runs;omega)]
  have hi2:i< ((Zd2 n q i).set i ((n.2.2.1[i]).1,(n.2.2.1[i]).2.1,(n.2.2.1[i]).2.2.1,(n.2.2.1[i]).2.2.2.1,(n.2.2.1[i]).2.2.2.2.1,(n.2.2.1[i]).2.2.2.2.2.1, !Zqy n q n.2.2.1[i],(n.2.2.1[i]).2.2.2.2.2.2.2)).length:=by rw[List.length_set];exact hi'
  erw[ZaX hi2]
  simp only[bind_some]
  erw[List.getElem?_set_self hi']
  simp only[bind_some]
  erw[List.set_set]
  congr 2
  have:=ZmM n q hi
  rw[←this]
  rfl
 ·rintro _ rfl
  refine⟨_,by simp only[ZaI,cond_false];rfl, ?_⟩
  simp [Zd2]
 ·rintro _ rfl
  unfold Za7 Zdx
  cases hsf:q.2.2.2.2.2.2.1 with
  |false=>rfl
  |true=>
   simp only[cond_true,if_true]
   refine Zd8 (fun r:ZaJ=>r=(n.1,n.2.1,n.2.2.1.map (Zb0 n q),n.2.2.2.1,n.2.2.2.2.1.filter (fun p=>p.2.2.2.1),n.2.2.2.2.2.1,())) (ZbB n.2.2.2.2.1.length _ (fun i (st:ZaJ×Int)=>st=((n.1,n.2.1,n.2.2.1.map (Zb0 n q),n.2.2.2.1,(n.2.2.2.2.1.take i).filter (fun p=>p.2.2.2.1),n.2.2.2.2.2.1,()),(i:Int))) ?_ ?_ _ (by simp)) ?_
   ·rintro i _ hi rfl
    left
    have hb:=List.length_filter_le (fun p:Zcl=>p.2.2.2.1) (n.2.2.2.2.1.take i)
    rw[List.length_take] at hb
    have hp:=hF.paths
    simp only[ZaG hi,cond_true,Zag hi,bind_some]
    rw[Zan hi (by omega),List.take_succ_eq_append_getElem hi,List.filter_append]
    cases hv: (n.2.2.2.2.1[i]).2.2.2.1 with
    |false=>
     refine⟨_,rfl, ?_⟩
     simp [hv]
    |true=>
     simp only[cond_true]
     rw[Zbn (by simp;omega)]
     refine⟨_,rfl, ?_⟩
     simp [hv]
   ·rintro _ rfl
    refine⟨_,by simp only[ZaI,cond_false];rfl, ?_⟩
    rw[List.take_length]
   ·rintro _ rfl
    rfl
def qB (k:Nat) (q:Zbp):Bool:=inR q.1 k&& (inR q.2.1 k&& (decide (0≤q.2.2.1∧q.2.2.1≤3155932800) && (decide (0≤q.2.2.2.2.1∧q.2.2.2.2.1≤8) && (decide (0≤q.2.2.2.2.2.1∧q.2.2.2.2.2.1≤86400) && (decide (0≤q.2.2.2.2.2.2.2.2.1∧q.2.2.2.2.2.2.2.2.1≤255) && !(q.2.2.2.2.2.2.2.2.2.1&&q.2.2.2.1))))))
theorem Zkv (x a b:Int):F11 x a b=some (decide (a≤x∧x≤b)):=Zc8 x a b
theorem Ze4 (x a b:Int):F77 x a b=some (decide (a≤x∧x≤b)):=Zc8 x a b
theorem ZeB (x:Int) {m:Nat} (hm:m≤9223372036854775807):F77 x 0 (IntKind.wrap .i64 ((m:Int) - 1))=some (inR x m):=Zij x hm
theorem ZmJ (k:Nat) (hk:k≤9223372036854775807) (q:Zbp):F73 (k:Int) q=some (qB k q):=by
 unfold F73 qB
 simp only[Ze4]
 rw[show decide ((0:Int)≤q.1∧q.1≤IntKind.wrap .i64 ((k:Int) - 1))=inR q.1 k from Option.some.inj ((Ze4 _ _ _).symm.trans (ZeB q.1 hk)),show decide ((0:Int)≤q.2.1∧q.2.1≤IntKind.wrap .i64 ((k:Int) - 1))=inR q.2.1 k from Option.some.inj ((Ze4 _ _ _).symm.trans (ZeB q.2.1 hk))]
 simp only[bind_some]
 generalize inR q.1 k=b1
 generalize inR q.2.1 k=b2
 generalize decide ((0:Int)≤q.2.2.1∧q.2.2.1≤3155932800)=b3
 generalize decide ((0:Int)≤q.2.2.2.2.1∧q.2.2.2.2.1≤8)=b4
 generalize decide ((0:Int)≤q.2.2.2.2.2.1∧q.2.2.2.2.2.1≤86400)=b5
 generalize decide ((0:Int)≤q.2.2.2.2.2.2.2.2.1∧q.2.2.2.2.2.2.2.2.1≤255)=b6
 generalize q.2.2.2.2.2.2.2.2.2.1=b7
 generalize q.2.2.2.1=b8
 cases b1<;>try rfl
 cases b2<;>try rfl
 cases b3<;>try rfl
 cases b4<;>try rfl
 cases b5<;>try rfl
 cases b6<;>try rfl
 cases b7<;>cases b8<;>rfl
open Classical in
noncomputable def Znt (n:ZaJ) (q:Zbp):Int:=if Whole n then(if qB n.1.length q=true then 0 else 22) else 21
theorem ZjR {n:ZaJ} {q:Zbp} :Znt n q=0↔Whole n∧qB n.1.length q=true:=by
 unfold Znt
 split
 ·next h=>split<;>simp_all
 ·next h=>simp [h]
open Classical in
theorem ZkT {n:ZaJ} (h:Fit n):F60 n=some (decide (Whole n)):=by
 obtain⟨r,_,h2,h3⟩:=Zft n h
 unfold F60
 rw[h2]
 simp only[bind_some]
 congr 1
 exact decide_eq_decide.2 h3
open Classical in
theorem ZpM {n:ZaJ} (h:Fit n) (q:Zbp):F70 n q=some (Znt n q):=by
 unfold F70 Znt
 rw[ZkT h]
 simp only[bind_some]
 by_cases hW:Whole n
 ·rw[decide_eq_true hW,if_pos hW]
  have hs:=hW.sound.stops
  simp only[Bool.not_true,cond_false]
  rw[ZmJ n.1.length (by omega)]
  simp only[bind_some]
  cases qB n.1.length q<;>rfl
 ·rw[decide_eq_false hW,if_neg hW];rfl
theorem ZjY {n:ZaJ} (h:Fit n) (q:Zbp):F10 n q=some (Znt n q):=by
 obtain⟨r,h1,_,h3⟩:=Zft n h
 unfold F10 Znt
 rw[h1]
 simp only[bind_some]
 by_cases hW:Whole n
 ·rw[decide_eq_true (h3.2 hW),if_pos hW]
  have hk:n.1.length≤9223372036854775807:=by have:=hW.sound.stops;omega
  simp only[Bool.not_true,cond_false,Zkv]
  rw[show decide ((0:Int)≤q.1∧q.1≤IntKind.wrap .i64 ((n.1.length:Int) - 1))=inR q.1 n.1.length from Option.some.inj ((Ze4 _ _ _).symm.trans (ZeB q.1 hk)),show decide ((0:Int)≤q.2.1∧q.2.1≤IntKind.wrap .i64 ((n.1.length:Int) - 1))=inR q.2.1 n.1.length from Option.some.inj ((Ze4 _ _ _).symm.trans (ZeB q.2.1 hk))]
  unfold qB
  simp only[bind_some]
  generalize inR q.1 n.1.length=b1
  generalize inR q.2.1 n.1.length=b2
  generalize decide ((0:Int)≤q.2.2.1∧q.2.2.1≤3155932800)=b3
  generalize decide ((0:Int)≤q.2.2.2.2.1∧q.2.2.2.2.1≤8)=b4
  generalize decide ((0:Int)≤q.2.2.2.2.2.1∧q.2.2.2.2.2.1≤86400)=b5
  generalize decide ((0:Int)≤q.2.2.2.2.2.2.2.2.1∧q.2.2.2.2.2.2.2.2.1≤255)=b6
  generalize q.2.2.2.2.2.2.2.2.2.1=b7
  generalize q.2.2.2.1=b8
  cases b1<;>try rfl
  cases b2<;>try rfl
  cases b3<;>try rfl
  cases b4<;>try rfl
  cases b5<;>try rfl
  cases b6<;>try rfl
  cases b7<;>cases b8<;>rfl
 ·rw[decide_eq_false (fun e=>hW (h3.1 e)),if_neg hW];rfl
theorem Zmx {c l:List Zcl} (h:Zbs c l=true):c=l:=by
 unfold Zbs at h
 rw[Bool.and_eq_true,decide_eq_true_eq,Option.isNone_iff_eq_none] at h
 obtain⟨h1,h2⟩:=h
 have h2:=ZaF.1 h2
 refine List.ext_getElem h1 fun i hi hi' => ?_
 have:=h2 i hi
 unfold eqF at this
 rw[Zai hi,Zai hi'] at this
 have hs:Zhk c[i] l[i]=true:=by
  by_cases hs:Zhk c[i] l[i]=true
  ·exact hs
  ·rw[if_neg hs] at this;simp at this
 unfold Zhk at hs
 simp only[Bool.and_eq_true,decide_eq_true_eq,beq_iff_eq] at hs
 exact Prod.ext hs.1 (Prod.ext hs.2.1 (Prod.ext hs.2.2.1 (Prod.ext hs.2.2.2 rfl)))
theorem Zjc (l:List Zcl):Zbs l l=true:=by
 unfold Zbs
 rw[Bool.and_eq_true,decide_eq_true_eq,Option.isNone_iff_eq_none]
 refine⟨rfl,ZaF.2 fun i hi=> ?_⟩
 unfold eqF Zhk
 simp
theorem Zma {k:Nat} {l:List Zcl} : (∀i,i<l.length→Zbq k l i=0)↔(∀p∈l,ZcN k p=false∧ZcH p=false)∧l.Pairwise fun a b=>Zc0 a≠Zc0 b:=by
 constructor
 ·intro h
  refine⟨fun p hp=> ?_,List.pairwise_iff_getElem.2 fun i j hi hj hij e=> ?_⟩
  ·obtain⟨i,hi,rfl⟩:=List.getElem_of_mem hp
   have:=Zce (h i hi)
   rw[Zai hi] at this
   exact⟨this.1,this.2.1⟩
  ·have:=(Zce (h j hj)).2.2
   refine this ⟨i,hij, ?_⟩
   rw[Zai hi,Zai hj];exact e
 ·rintro ⟨h1,h2⟩ i hi
  obtain⟨a,b⟩:=h1 _ (List.getElem_mem hi)
  unfold Zbq
  rw[Zai hi,if_neg (by rw[a];simp),if_neg (by rw[b];simp),if_neg]
  rintro ⟨j,hj,e⟩
  rw[Zai (show j<l.length by omega)] at e
  exact List.pairwise_iff_getElem.1 h2 j i (by omega) hi hj e
theorem ZgO {α β:Type} (p:β→Bool) (f:α→List β) (l:List α): (l.flatMap f).filter p=l.flatMap fun x=>(f x).filter p:=by
 induction l with
 |nil=>rfl
 |cons x l ih=>simp [List.filter_append,ih]
theorem ZnU (a b:Nat) (d f:Int): (Zc2 a b d f).filter (fun p=>p.2.2.2.1)=Zc2 a b f f:=by
 unfold Zc2
 by_cases h:f=d
 ·subst h
  rw[if_pos rfl,List.append_nil]
  split<;>simp
 ·rw[if_neg h,if_pos rfl,List.append_nil,List.filter_append]
  have e1: (if 0<d∧d≤14400 then [((a:Int),(b:Int),d,decide (f=d),())] else []).filter (fun p:ZcX=>p.2.2.2.1)=[]:=by
   split<;>simp [h]
  rw[e1]
  split<;>simp
theorem Zoi (it:Nat→Nat→List ZcX) (n m:Nat): (Zfc it n m).filter (fun p=>p.2.2.2.1)=Zfc (fun a b=>(it a b).filter (fun p=>p.2.2.2.1)) n m:=by
 unfold Zfc Zi8
 rw[ZgO]
 congr 1;funext a
 rw[ZgO]
 congr 1;funext b
 split<;>rfl
theorem Zkz {k:Nat} (hk:k≤64) {l:List Zcl} (hl:l.length≤4096) (hz: ∀i,i<l.length→Zbq k l i=0) (hc: ∀c,F57 l (k:Int)=some c→Zbs c l=true):
  (∀i,i< (l.filter fun p=>p.2.2.2.1).length→Zbq k (l.filter fun p=>p.2.2.2.1) i=0)∧ ∀c,F57 (l.filter fun p=>p.2.2.2.1) (k:Int)=some c→Zbs c (l.filter fun p=>p.2.2.2.1)=true:=by
 obtain⟨z1,z2⟩:=Zma.1 hz
 have hz' : ∀i,i< (l.filter fun p=>p.2.2.2.1).length→Zbq k (l.filter fun p=>p.2.2.2.1) i=0:=Zma.2 ⟨fun p hp=>z1 p (List.mem_filter.1 hp).1,z2.filter _⟩
 refine⟨hz',fun c h=> ?_⟩
 have hF:=Zpj hz
 have hF' :=Zpj hz'
 have hl' : (l.filter fun p=>p.2.2.2.1).length≤4096:=Nat.le_trans (List.length_filter_le _ _) hl
 obtain⟨c0,a1,a2,_⟩:=Ze8 hk hF hl
 obtain⟨c1,b1,b2,_⟩:=Ze8 hk hF' hl'
 have v0:=Ze1 hk hF hl (fun a b=>(ZiN hF a b).imp id fun h=>h.2)
 have v1:=Ze1 hk hF' hl' (fun a b=>(ZiN hF' a b).imp id fun h=>h.2)
 rw[a1] at v0
 rw[b1] at v1
 have e0:=Zmx (hc c0 a2)
 obtain rfl:c1=c:=Option.some.inj (b2.symm.trans h)
 have ed: ∀free,EdP (l.filter fun p=>p.2.2.2.1) free=EdP l true:=by
  intro free
  funext u v w
  refine propext ⟨fun⟨p,hp,_,h⟩=> ?_,fun⟨p,hp,h1,h⟩=> ?_⟩
  ·obtain⟨hp1,hp2⟩:=List.mem_filter.1 hp
   exact⟨p,hp1,fun _=>hp2,h⟩
  ·have:=h1 rfl
   exact⟨p,List.mem_filter.2 ⟨hp,this⟩,fun _=>this,h⟩
 have key:c1=l.filter fun p=>p.2.2.2.1:=by
  rw[Option.some.inj v1]
  conv=>rhs;rw[←e0,Option.some.inj v0]
  rw[Zoi,ed,ed]
  congr 1;funext a b
  exact(ZnU a b _ _).symm
 rw[key]
 exact Zjc _
theorem Zg0 (n:ZaJ) (q:Zbp) (l:List ZbO) (i:Nat): (((l.map (Zbv n q))[i]?).getD c0).1=((l[i]?).getD c0).1∧(((l.map (Zbv n q))[i]?).getD c0).2.1=((l[i]?).getD c0).2.1∧(((l.map (Zbv n q))[i]?).getD c0).2.2.1=((l[i]?).getD c0).2.2.1:=by
 rw[List.getElem?_map]
 cases l[i]? with
 |none=>exact⟨rfl,rfl,rfl⟩
 |some c=>
  simp only[Option.map_some,Option.getD_some]
  unfold Zbv
  split<;>exact⟨rfl,rfl,rfl⟩
theorem ZkB (n:ZaJ) (q:Zbp) (l:List ZbO) (k lo hi:Int):ZdK (l.map (Zbv n q)) k lo hi=ZdK l k lo hi:=by
 have h:Zho (l.map (Zbv n q)) k lo hi=Zho l k lo hi:=by
  funext i
  obtain⟨a1,a2,a3⟩:=Zg0 n q l i
  obtain⟨b1,b2,b3⟩:=Zg0 n q l (i - 1)
  unfold Zho Zjx Zjh Zkg
  rw[a1,a2,a3,b1,b3]
 unfold ZdK
 rw[List.length_map,h]
theorem Zmb (n:ZaJ) (q:Zbp) (a:Int): (rn (Za7 n q) a).2.2.2.2.2.2.2.1=(rn n a).2.2.2.2.2.2.2.1.map (Zbv n q):=by
 unfold rn
 show (((n.2.2.1.map (Zb0 n q))[a.toNat]?).getD u0).2.2.2.2.2.2.2.1=_
 rw[List.getElem?_map]
 cases n.2.2.1[a.toNat]? <;>rfl
theorem Zk5 (n:ZaJ) (q:Zbp) (i:Nat):Zb3 (Za7 n q) i=Zb3 n i:=by
 have hlen: (Za7 n q).2.2.1.length=n.2.2.1.length:=List.length_map ..
 unfold Zb3 ZlA Znm
 simp only[Zmb,List.length_map,hlen]
 have hcl: ∀ (l:List ZbO) (x:Int),(cl (l.map (Zbv n q)) x).1=(cl l x).1:=fun l x=>(Zg0 n q l _).1
 simp only[hcl]
 rfl
theorem Znl (n:ZaJ) (q:Zbp) {i:Nat} (hi:i<n.2.2.1.length):Zip (Za7 n q) i=Zip n i:=by
 have hg: ∀j,j<n.2.2.1.length→((Za7 n q).2.2.1[j]?).getD u0=Zb0 n q ((n.2.2.1[j]?).getD u0):=by
  intro j hj
  show ((n.2.2.1.map (Zb0 n q))[j]?).getD u0=_
  rw[List.getElem?_map,List.getElem?_eq_getElem hj];rfl
 unfold Zip
 rw[hg i hi]
 have hd: (∃j,j<i∧runK (((Za7 n q).2.2.1[j]?).getD u0)=runK (Zb0 n q ((n.2.2.1[i]?).getD u0)))↔ ∃j,j<i∧runK ((n.2.2.1[j]?).getD u0)=runK ((n.2.2.1[i]?).getD u0):=by
  constructor
  ·rintro ⟨j,hj,e⟩
   rw[hg j (by omega)] at e
   exact⟨j,hj,e⟩
  ·rintro ⟨j,hj,e⟩
   refine⟨j,hj, ?_⟩
   rw[hg j (by omega)]
   exact e
 have hcE:ZdK (Zb0 n q ((n.2.2.1[i]?).getD u0)).2.2.2.2.2.2.2.1 ((Za7 n q).1.length:Int) 0 3155932800=ZdK ((n.2.2.1[i]?).getD u0).2.2.2.2.2.2.2.1 (n.1.length:Int) 0 3155932800:=ZkB n q _ _ _ _
 simp only[hcE,hd]
 rfl
theorem ZkH {n:ZaJ} (q:Zbp) (hp:n.2.2.2.2.1.length≤4096) (h:Whole n):Whole (Za7 n q):=by
 have hlen: (Za7 n q).2.2.1.length=n.2.2.1.length:=List.length_map ..
 have hP: (∀i,i< (Zdx n q).length→Zbq n.1.length (Zdx n q) i=0)∧ ∀c,F57 (Zdx n q) (n.1.length:Int)=some c→Zbs c (Zdx n q)=true:=by
  unfold Zdx
  split
  ·exact Zkz h.sound.stops hp (ZaF.1 h.q) h.w
  ·exact⟨ZaF.1 h.q,h.w⟩
 refine⟨h.s,h.t,by rw[hlen];exact h.u, ?_,h.v, ?_,ZaF.2 hP.1,hP.2,h.z⟩
 ·rw[hlen]
  exact ZaF.2 fun i hi=>by rw[Znl n q hi];exact ZaF.1 h.f i hi
 ·exact ZaF.2 fun i hi=>by rw[Zk5];exact ZaF.1 h.g i hi
theorem Zow {n:ZaJ} (q:Zbp) (h:Fit n):Fit (Za7 n q):=by
 refine⟨h.stops,h.routes, ?_, ?_, ?_,h.prods⟩
 ·intro r hr
  obtain⟨x,hx,rfl⟩:=List.mem_map.1 (show r∈n.2.2.1.map (Zb0 n q) from hr)
  exact h.runs x hx
 ·intro r hr
  obtain⟨x,hx,rfl⟩:=List.mem_map.1 (show r∈n.2.2.1.map (Zb0 n q) from hr)
  show (x.2.2.2.2.2.2.2.1.map _).length≤_
  rw[List.length_map]
  exact h.calls x hx
 ·show (Zdx n q).length≤_
  unfold Zdx
  split
  ·exact Nat.le_trans (List.length_filter_le _ _) h.paths
  ·exact h.paths
end Q
namespace Q
open Tr Go
open Option (bind_some)
abbrev Zbb:=Bool×Int×Int×Int×Int×Int×Int×Int×Bool×Unit
abbrev Ztw:=List Zbb×Unit
def Za2 (n:ZaJ) (x:Zbb):List ZbO:=(rn n x.2.1).2.2.2.2.2.2.2.1
def Zbi (n:ZaJ) (x:Zbb):Bool:=inR x.2.1 n.2.2.1.length&& (decide (0≤x.2.2.1) && (decide (x.2.2.1<x.2.2.2.1) &&decide (x.2.2.2.1< ((Za2 n x).length:Int))))
theorem ZkR (n:ZaJ) (x:Zbb):F69 n x=some (Zbi n x):=by
 unfold F69 Zbi
 by_cases h:inR x.2.1 n.2.2.1.length=true
 ·have e:idx n.2.2.1 x.2.1=some (rn n x.2.1):=Zbk h u0
  simp only[e,bind_some,h]
  unfold inR at h
  simp only[Bool.and_eq_true,decide_eq_true_eq] at h
  rw[decide_eq_false (show¬x.2.1<0 by omega),decide_eq_false (show¬ (n.2.2.1.length:Int)≤x.2.1 by omega)]
  simp only[cond_false,bind_some]
  unfold Za2
  generalize decide (0≤x.2.2.1)=a1
  generalize decide (x.2.2.1<x.2.2.2.1)=a2
  generalize decide (x.2.2.2.1< ((rn n x.2.1).2.2.2.2.2.2.2.1.length:Int))=a3
  cases a1<;>cases a2<;>cases a3<;>rfl
 ·have h' :inR x.2.1 n.2.2.1.length=false:=by simpa using h
  rw[h']
  unfold inR at h
  simp only[Bool.and_eq_true,decide_eq_true_eq] at h
  by_cases h1:x.2.1<0
  ·rw[decide_eq_true h1];rfl
  ·rw[decide_eq_false h1,decide_eq_true (show (n.2.2.1.length:Int)≤x.2.1 by omega)];rfl
theorem ZhI {n:ZaJ} (h:Zec n) {a:Int} (h0:0≤a) (h1:a< (n.1.length:Int)):idx n.1 a=some (Zb6 n a)∧0≤(Zb6 n a).2.1∧(Zb6 n a).2.1<16:=by
 have hi:inR a n.1.length=true:=by unfold inR;rw[decide_eq_true h0,decide_eq_true h1];rfl
 refine⟨Zbk hi s0, ?_⟩
 have hl:a.toNat<n.1.length:=by omega
 unfold Zb6
 rw[Zai hl]
 exact h.zone _ (List.getElem_mem hl)
abbrev Zcp (x:Zbb):Bool:=x.2.2.2.2.2.2.2.2.1
theorem Zk9 {c d:Bool} {e:Int} {K:Option Int} {k:Int} (h:K=some k): (Option.bind (bif c then some true else some d) fun x=>bif x then some e else K)=some (bif c||d then e else k):=by
 subst h;cases c<;>cases d<;>rfl
theorem Zfn {c d:Bool} {e:Int} {K:Option Int} {k:Int} (h:K=some k): (Option.bind (bif c then some d else some false) fun x=>bif x then some e else K)=some (bif c&&d then e else k):=by
 subst h;cases c<;>cases d<;>rfl
theorem Ziw {c:Bool} {e:Int} {K:Option Int} {k:Int} (h:K=some k): (bif c then some e else K)=some (bif c then e else k):=by
 subst h;cases c<;>rfl
theorem Zdo {o:Option Bool} {c:Bool} {e:Int} {K:Option Int} {k:Int} (ho:o=some c) (h:K=some k): (Option.bind o fun x=>bif x then some e else K)=some (bif c then e else k):=by
 subst ho;subst h;cases c<;>rfl
theorem ZaA {c:Bool} {e k:Int} (he:e≠0): (bif c then e else k)=0↔c=false∧k=0:=by
 cases c<;>simp [he]
def Zp3 (q:Zbp) (t:Zd3):Bool:=decide (q.2.2.2.2.2.2.2.2.1=(0:Int)) ||decide (Zn2 .i64 (Int.fdiv q.2.2.2.2.2.2.2.2.1 (2 ^ (min (Int.toNat t.2.1) 64))) 1=1)
theorem Zqj (a:Int):Zn2 .i64 a 1=0∨Zn2 .i64 a 1=1:=by
 unfold Zn2
 have h: (BitVec.ofInt IntKind.i64.bits a &&& BitVec.ofInt IntKind.i64.bits 1).toNat=(BitVec.ofInt IntKind.i64.bits a).toNat % 2:=by
  rw[BitVec.toNat_and]
  show _ &&& 1=_
  rw[Nat.and_one_is_mod]
 rw[h]
 have: (BitVec.ofInt IntKind.i64.bits a).toNat % 2=0∨(BitVec.ofInt IntKind.i64.bits a).toNat % 2=1:=by omega
 rcases this with h|h<;>rw[h]
 ·left;rfl
 ·right;rfl
theorem ZqP (q:Zbp) (t:Zd3) (h0:0≤t.2.1): (bif !decide (q.2.2.2.2.2.2.2.2.1=(0:Int)) then Option.bind (ZqU .i64 q.2.2.2.2.2.2.2.2.1 t.2.1) fun x=>some (decide (Zn2 .i64 x (1:Int)=(0:Int))) else some false)=some (!Zp3 q t):=by
 unfold Zp3
 have hs:ZqU .i64 q.2.2.2.2.2.2.2.2.1 t.2.1=some (Int.fdiv q.2.2.2.2.2.2.2.2.1 (2 ^ (min (Int.toNat t.2.1) 64))):=by
  unfold ZqU
  rw[if_neg (by omega)]
  rfl
 rw[hs]
 simp only[bind_some]
 cases decide (q.2.2.2.2.2.2.2.2.1=(0:Int)) with
 |true=>rfl
 |false=>
  rcases Zqj (Int.fdiv q.2.2.2.2.2.2.2.2.1 (2 ^ (min (Int.toNat t.2.1) 64))) with h|h<;>rw[h]<;>rfl
def Zht (n:ZaJ) (q:Zbp) (x:Zbb):Int:=
 bif !decide ((cl (Za2 n x) x.2.2.1).1=x.2.2.2.2.1) || !decide ((cl (Za2 n x) x.2.2.2.1).1=x.2.2.2.2.2.1) then 24 else
 bif !decide ((cl (Za2 n x) x.2.2.1).2.2.1=x.2.2.2.2.2.2.1) || !decide ((cl (Za2 n x) x.2.2.2.1).2.1=x.2.2.2.2.2.2.2.1) then 10 else
 bif (rn n x.2.1).2.2.2.2.2.2.1 then 27 else
 bif q.2.2.2.2.2.2.1&& !(rn n x.2.1).2.2.2.2.2.1 then 29 else
 bif q.2.2.2.2.2.2.2.1&& !(Zqo n (rn n x.2.1)).2.2.1 then 30 else
 bif !Zp3 q (Zqo n (rn n x.2.1)) then 31 else
 bif !Zcp x&& !(cl (Za2 n x) x.2.2.1).2.2.2.1 then 25 else
 bif !Zcp x&& !Zis n q x.2.2.2.2.1 then 29 else 0
theorem Zji {n:ZaJ} {x:Zbb} (hx:Zbi n x=true):idx n.2.2.1 x.2.1=some (rn n x.2.1)∧rn n x.2.1∈n.2.2.1∧idx (rn n x.2.1).2.2.2.2.2.2.2.1 x.2.2.1=some (cl (Za2 n x) x.2.2.1)∧idx (rn n x.2.1).2.2.2.2.2.2.2.1 x.2.2.2.1=some (cl (Za2 n x) x.2.2.2.1):=by
 unfold Zbi at hx
 simp only[Bool.and_eq_true,decide_eq_true_eq] at hx
 obtain⟨hr,h0,h1,h2⟩:=hx
 unfold Za2 at h2
 refine⟨Zbk hr u0,ZlB hr,Zbk ?_ c0,Zbk ?_ c0⟩<;> (unfold inR;rw[Bool.and_eq_true,decide_eq_true_eq,decide_eq_true_eq];omega)
theorem Zj6 {n:ZaJ} (q:Zbp) {s:Int} (h:inR s n.1.length=true):F71 n q s=some (Zis n q s):=by
 unfold F71 Zis
 rw[show idx n.1 s=some (Zb6 n s) from Zbk h s0]
 simp only[bind_some]
 cases q.2.2.2.2.2.2.1<;>cases (Zb6 n s).2.2.1<;>rfl
theorem Zp1 {n:ZaJ} (hS:Zec n) (q:Zbp) {x:Zbb} (hx:Zbi n x=true) (hf:inR x.2.2.2.2.1 n.1.length=true):F80 n q x=some (Zht n q x):=by
 obtain⟨h1,h2,h3,h4⟩:=Zji hx
 obtain⟨h5,h6⟩:=Zq0 hS h2
 have hm:=(hS.mode _ h6).1
 unfold F80 Zht
 rw[h1]
 simp only[bind_some]
 rw[h3,h4,h5]
 simp only[bind_some]
 refine Zk9 (Zk9 (Ziw (Zfn (Zfn (Zdo (ZqP q _ hm) (Zfn (Zdo (c:= !Zcp x&& !Zis n q x.2.2.2.2.1) ?_ rfl)))))))
 rw[Zj6 q hf]
 unfold Zcp
 cases x.2.2.2.2.2.2.2.2.1<;>rfl
def Zda (x:Zbb) (p:Zcl):Bool:=decide (p.1=x.2.2.2.2.1) && (decide (p.2.1=x.2.2.2.2.2.1) &&decide (p.2.2.1=IntKind.wrap .i64 (x.2.2.2.2.2.2.2.1 - x.2.2.2.2.2.2.1)))
def ZfQ (q:Zbp) (p:Zcl):Bool:=p.2.2.2.1|| !q.2.2.2.2.2.2.1
def Zf0 (n:ZaJ) (q:Zbp) (x:Zbb):Int:=bif n.2.2.2.2.1.any fun p=>Zda x p&&ZfQ q p then 0 else bif n.2.2.2.2.1.any (Zda x) then 29 else 18
theorem ZfA {α:Type} {l:List α} {i:Nat} (h:i<l.length) (f:α→Bool): (l.take (i+1)).any f=((l.take i).any f||f l[i]):=by
 rw[List.take_succ_eq_append_getElem h,List.any_append]
 simp
theorem Zq9 {α:Type} {l:List α} {i:Nat} (h:i<l.length) {f:α→Bool} (hf:f l[i]=true):l.any f=true:=List.any_eq_true.2 ⟨_,List.getElem_mem h,hf⟩
theorem Zk0 {n:ZaJ} (hp:n.2.2.2.2.1.length≤4096) (q:Zbp) (x:Zbb):F81 n q x=some (Zf0 n q x):=by
 unfold F81
 refine Zd8 (fun r:Int ⊕ Int=>Sum.elim id id r=Zf0 n q x) ?_ ?_
 ·refine ZbB n.2.2.2.2.1.length _ (fun i (s:Int×Int)=>s=((bif (n.2.2.2.2.1.take i).any (Zda x) then 29 else 18),(i:Int))∧((n.2.2.2.2.1.take i).any fun p=>Zda x p&&ZfQ q p)=false) ?_ ?_ _ ⟨rfl,rfl⟩
  ·rintro i _ hi ⟨rfl,ha⟩
   simp only[ZaG hi,cond_true,Zag hi,bind_some,Zan hi (show _≤9223372036854775807 by omega)]
   have e1: (bif !decide ((n.2.2.2.2.1[i]).1=x.2.2.2.2.1) then some true else bif !decide ((n.2.2.2.2.1[i]).2.1=x.2.2.2.2.2.1) then some true else some !decide ((n.2.2.2.2.1[i]).2.2.1=IntKind.wrap .i64 (x.2.2.2.2.2.2.2.1 - x.2.2.2.2.2.2.1)))=some (!Zda x n.2.2.2.2.1[i]):=by
    unfold Zda
    cases decide ((n.2.2.2.2.1[i]).1=x.2.2.2.2.1)<;>cases decide ((n.2.2.2.2.1[i]).2.1=x.2.2.2.2.2.1)<;>rfl
   have e2: (bif (n.2.2.2.2.1[i]).2.2.2.1 then some true else some !q.2.2.2.2.2.2.1)=some (ZfQ q n.2.2.2.2.1[i]):=by
    unfold ZfQ
    cases (n.2.2.2.2.1[i]).2.2.2.1<;>rfl
   rw[e1,e2]
   simp only[bind_some]
   cases hm:Zda x n.2.2.2.2.1[i] with
   |false=>
    left
    refine⟨_,rfl, ?_, ?_⟩
    ·rw[ZfA hi,hm,Bool.or_false]
    ·rw[ZfA hi,ha,hm];rfl
   |true=>
    cases hfr:ZfQ q n.2.2.2.2.1[i] with
    |true=>
     right
     refine⟨_,rfl, ?_⟩
     unfold Zf0
     rw[Zq9 hi (f:=fun p=>Zda x p&&ZfQ q p) (by rw[hm,hfr];rfl)]
     rfl
    |false=>
     left
     refine⟨_,rfl, ?_, ?_⟩
     ·rw[ZfA hi,hm,Bool.or_true];rfl
     ·rw[ZfA hi,ha,hm,hfr];rfl
  ·rintro _ ⟨rfl,ha⟩
   simp only[ZaI,cond_false]
   refine⟨_,rfl, ?_⟩
   rw[List.take_length] at ha ⊢
   unfold Zf0
   rw[ha];rfl
 ·rintro (r|r) hr
  ·exact congrArg some hr
  ·exact congrArg some hr
def ZiI (n:ZaJ) (q:Zbp) (x:Zbb):Int:=
 bif !inR x.2.2.2.2.1 n.1.length|| !inR x.2.2.2.2.2.1 n.1.length then 9 else
 bif (bif x.1 then !Zbi n x else !decide (x.2.1=0) || (!decide (x.2.2.1=0) || (!decide (x.2.2.2.1=0) ||Zcp x))) then 9 else
 bif !decide (0≤x.2.2.2.2.2.2.1∧x.2.2.2.2.2.2.1≤3155932800) || !decide (0≤x.2.2.2.2.2.2.2.1∧x.2.2.2.2.2.2.2.1≤3155932800) then 10 else
 bif x.1 then Zht n q x else Zf0 n q x
theorem ZfX {o:Option Bool} {c:Bool} {e:Int} {K:Option Int} {k:Int} (ho:o=some c) (h:c=false→K=some k): (Option.bind o fun x=>bif x then some e else K)=some (bif c then e else k):=by
 subst ho
 cases c
 ·exact h rfl
 ·rfl
theorem Zry {n:ZaJ} (hS:Zec n) (hp:n.2.2.2.2.1.length≤4096) (q:Zbp) (x:Zbb):F78 n q x=some (ZiI n q x):=by
 have hk:n.1.length≤9223372036854775807:=by have:=hS.stops;omega
 unfold F78 ZiI
 rw[ZeB _ hk,ZeB _ hk]
 refine ZfX (c:= !inR x.2.2.2.2.1 n.1.length|| !inR x.2.2.2.2.2.1 n.1.length) (by cases inR x.2.2.2.2.1 n.1.length<;>rfl) fun hst=> ?_
 rw[ZkR]
 refine ZfX (c:=bif x.1 then !Zbi n x else !decide (x.2.1=0) || (!decide (x.2.2.1=0) || (!decide (x.2.2.2.1=0) ||Zcp x))) ?_ fun hex=> ?_
 ·unfold Zcp
  cases x.1 with
  |true=>cases Zbi n x<;>rfl
  |false=>cases decide (x.2.1=0)<;>cases decide (x.2.2.1=0)<;>cases decide (x.2.2.2.1=0)<;>rfl
 ·rw[Ze4,Ze4]
  refine ZfX (c:= !decide (0≤x.2.2.2.2.2.2.1∧x.2.2.2.2.2.2.1≤3155932800) || !decide (0≤x.2.2.2.2.2.2.2.1∧x.2.2.2.2.2.2.2.1≤3155932800)) ?_ fun _=> ?_
  ·simp only[bind_some]
   cases decide (0≤x.2.2.2.2.2.2.1∧x.2.2.2.2.2.2.1≤3155932800)<;>rfl
  ·cases hx1:x.1 with
   |false=>
    simp only[cond_false]
    rw[Zk0 hp];rfl
   |true=>
    rw[hx1] at hex
    simp only[cond_true] at hex ⊢
    rw[Zp1 hS q (by simpa using hex) (by
     rw[Bool.or_eq_false_iff] at hst
     simpa using hst.1)]
    rfl
def Zk2 (a b:Zbb) (stay:Bool) (l:Zje):Bool:=decide (l.1=a.2.1) && (decide (l.2.1=a.2.2.2.1) && (decide (l.2.2.1=b.2.1) && (decide (l.2.2.2.1=b.2.2.1) && (l.2.2.2.2.1==stay))))
def Zgg (n:ZaJ) (a b:Zbb) (stay:Bool):Bool:=n.2.2.2.1.any (Zk2 a b stay)
theorem Zh2 {n : ZaJ} (hl : n.2.2.2.1.length ≤ 4096) (a b : Zbb) (stay : Bool) : F79 n a b stay = some (Zgg n a b stay) := by
  unfold F79
  refine Zd8 (fun r : Unit ⊕ Bool => Sum.elim (fun _ => false) id r = Zgg n a b stay) ?_ ?_
  · unfold Zgg
    refine ZbB n.2.2.2.1.length _ (fun i (s : Int) => s = (i : Int) ∧ (n.2.2.2.1.take i).any (Zk2 a b stay) = false) ?_ ?_ _ ⟨rfl, rfl⟩
    · rintro i _ hi ⟨rfl, ha⟩
      simp only [ZaG hi, cond_true, Zag hi, bind_some, Zan hi (show _ ≤ 9223372036854775807 by omega)]
      have e1 : (bif decide ((n.2.2.2.1[i]).1 = a.2.1) then
 bif decide ((n.2.2.2.1[i]).2.1 = a.2.2.2.1) then
 bif decide ((n.2.2.2.1[i]).2.2.1 = b.2.1) then
 bif decide ((n.2.2.2.1[i]).2.2.2.1 = b.2.2.1) then some ((n.2.2.2.1[i]).2.2.2.2.1 == stay) else some false
 else some false
 else some false
 else some false) = some (Zk2 a b stay n.2.2.2.1[i]) := by
        unfold Zk2
        cases decide ((n.2.2.2.1[i]).1 = a.2.1) <;> cases decide ((n.2.2.2.1[i]).2.1 = a.2.2.2.1) <;> cases decide ((n.2.2.2.1[i]).2.2.1 = b.2.1) <;> cases decide ((n.2.2.2.1[i]).2.2.2.1 = b.2.2.1) <;> rfl
      erw [e1]
      simp only [bind_some]
      cases hm : Zk2 a b stay n.2.2.2.1[i] with
      | false =>
        left
        refine ⟨_, rfl, rfl, ?_⟩
        rw [ZfA hi, ha, hm]; rfl
      | true =>
        right
        refine ⟨_, rfl, ?_⟩
        rw [Zq9 hi hm]; rfl
    · rintro _ ⟨rfl, ha⟩
      simp only [ZaI, cond_false]
      refine ⟨_, rfl, ?_⟩
      rw [List.take_length] at ha
      rw [ha]; rfl
  · rintro (r | r) hr
    · exact congrArg some hr
    · exact congrArg some hr
def ZbK (n:ZaJ) (a b:Zbb):Int:=
 bif !decide (a.2.2.2.2.2.1=b.2.2.2.2.1) then 24 else
 bif !a.1&& !b.1 then 32 else
 bif Zcp b then(bif !a.1|| !Zgg n a b true then 19 else bif decide (b.2.2.2.2.2.2.1<a.2.2.2.2.2.2.2.1) then 10 else 0) else
 bif !b.1 then(bif !decide (b.2.2.2.2.2.2.1=a.2.2.2.2.2.2.2.1) then 10 else 0) else
 bif !a.1 then(bif decide (b.2.2.2.2.2.2.1<a.2.2.2.2.2.2.2.1) then 28 else 0) else
 bif decide (IntKind.wrap .i64 (a.2.2.2.2.2.2.2.1+(Zb6 n a.2.2.2.2.2.1).2.2.2.1)≤b.2.2.2.2.2.2.1) || (Zgg n a b false&&decide (a.2.2.2.2.2.2.2.1≤b.2.2.2.2.2.2.1)) then 0 else 28
theorem ZmK {n:ZaJ} (hl:n.2.2.2.1.length≤4096) {a b:Zbb} (ha:inR b.2.2.2.2.1 n.1.length=true):F76 n a b=some (ZbK n a b):=by
 unfold F76 ZbK
 rw[Zh2 hl,Zh2 hl]
 by_cases h24:a.2.2.2.2.2.1=b.2.2.2.2.1
 case neg=>rw[decide_eq_false h24];rfl
 rw[decide_eq_true h24]
 simp only[Bool.not_true,cond_false,bind_some]
 refine Zfn ?_
 unfold Zcp
 cases b.2.2.2.2.2.2.2.2.1 with
 |true=>
  simp only[cond_true]
  exact Zk9 (by cases decide (b.2.2.2.2.2.2.1<a.2.2.2.2.2.2.2.1)<;>rfl)
 |false=>
  simp only[cond_false]
  cases b.1 with
  |false=>
   simp only[Bool.not_false,cond_true]
   cases decide (b.2.2.2.2.2.2.1=a.2.2.2.2.2.2.2.1)<;>rfl
  |true=>
   simp only[Bool.not_true,cond_false]
   cases a.1 with
   |false=>
    simp only[Bool.not_false,cond_true]
    cases decide (b.2.2.2.2.2.2.1<a.2.2.2.2.2.2.2.1)<;>rfl
   |true=>
    simp only[Bool.not_true,cond_false]
    have hi:idx n.1 a.2.2.2.2.2.1=some (Zb6 n a.2.2.2.2.2.1):=by rw[h24];exact Zbk ha s0
    rw[hi]
    simp only[bind_some]
    cases decide (IntKind.wrap .i64 (a.2.2.2.2.2.2.2.1+(Zb6 n a.2.2.2.2.2.1).2.2.2.1)≤b.2.2.2.2.2.2.1)<;>cases Zgg n a b false<;>cases decide (a.2.2.2.2.2.2.2.1≤b.2.2.2.2.2.2.1)<;>rfl
def g0:Zbb:=(false,0,0,0,0,0,0,0,false,())
def lg (L:List Zbb) (i:Nat):Zbb:=(L[i]?).getD g0
def ZhU (n:ZaJ) (q:Zbp) (L:List Zbb):Int:=
 bif !decide ((lg L 0).2.2.2.2.1=q.1) then 24 else
 bif Zcp (lg L 0) then 19 else
 bif !(lg L 0).1&& (decide (1<L.length) && ((lg L 1).1&& !decide ((lg L 1).2.2.2.2.2.2.1=(lg L 0).2.2.2.2.2.2.2.1))) then 10 else
 bif !(lg L 0).1&& (decide (L.length=1) && (bif q.2.2.2.1 then !decide ((lg L 0).2.2.2.2.2.2.2.1=q.2.2.1) else !decide ((lg L 0).2.2.2.2.2.2.1=q.2.2.1))) then 10 else
 bif !q.2.2.2.1&&decide ((lg L 0).2.2.2.2.2.2.1<q.2.2.1) then 10 else
 bif q.2.2.2.2.2.2.2.2.2.1&& ((lg L 0).1&&decide ((lg L 0).2.2.2.2.2.2.1<IntKind.wrap .i64 (q.2.2.1+(Zb6 n q.1).2.2.2.1))) then 28 else 0
theorem Zib {L:List Zbb} {i:Nat} (h:i<L.length):idx L (i:Int)=some (lg L i):=by
 rw[Zag h]
 unfold lg
 rw[Zai h]
theorem ZmT {n:ZaJ} {q:Zbp} {L:List Zbb} (h0:0<L.length) (hq:inR q.1 n.1.length=true):F75 n q (L,())=some (ZhU n q L):=by
 unfold F75 ZhU
 have e0:idx (L,()).1 (0:Int)=some (lg L 0):=Zib h0
 rw[e0]
 simp only[bind_some]
 refine Ziw (Zdo (c:=Zcp (lg L 0)) rfl ?_ : (Option.bind (some _) fun _=>_)=_)
 refine Zdo (c:= !(lg L 0).1&& (decide (1<L.length) && ((lg L 1).1&& !decide ((lg L 1).2.2.2.2.2.2.1=(lg L 0).2.2.2.2.2.2.2.1)))) ?_ (Zdo (c:= !(lg L 0).1&& (decide (L.length=1) && (bif q.2.2.2.1 then !decide ((lg L 0).2.2.2.2.2.2.2.1=q.2.2.1) else !decide ((lg L 0).2.2.2.2.2.2.1=q.2.2.1)))) ?_ (Zfn (Zdo (c:=q.2.2.2.2.2.2.2.2.2.1&& ((lg L 0).1&&decide ((lg L 0).2.2.2.2.2.2.1<IntKind.wrap .i64 (q.2.2.1+(Zb6 n q.1).2.2.2.1)))) ?_ rfl)))
 ·by_cases h1:1<L.length
  ·have e1:idx L (1:Int)=some (lg L 1):=Zib h1
   rw[decide_eq_true (show (1:Int)< (L.length:Int) by omega),decide_eq_true h1,e1]
   simp only[bind_some]
   cases (lg L 0).1<;>cases (lg L 1).1<;>rfl
  ·rw[decide_eq_false (show¬ (1:Int)< (L.length:Int) by omega),decide_eq_false h1]
   cases (lg L 0).1<;>rfl
 ·rw[show decide ((L.length:Int)=1)=decide (L.length=1) from decide_eq_decide.2 (by omega)]
  cases (lg L 0).1<;>cases decide (L.length=1)<;>cases q.2.2.2.1<;>cases decide ((lg L 0).2.2.2.2.2.2.2.1=q.2.2.1)<;>cases decide ((lg L 0).2.2.2.2.2.2.1=q.2.2.1)<;>rfl
 ·rw[show idx n.1 q.1=some (Zb6 n q.1) from Zbk hq s0]
  simp only[bind_some]
  cases q.2.2.2.2.2.2.2.2.2.1<;>cases (lg L 0).1<;>rfl
end Q
namespace Q
open Tr Go
open Option (bind_some)
end Q
namespace Q
open Tr Go
open Option (bind_some)
def ZsV (x:Zbb):Bool:=x.1&& !Zcp x
def ZcZ (L:List Zbb):Nat:=(L.filter ZsV).length
def Zgi (L:List Zbb) (i:Nat):Bool:=(lg L i).1&& (decide (i+1=L.length) || !Zcp (lg L (i+1)))
def Zdj (n:ZaJ) (q:Zbp) (x:Zbb):Int:=bif !(cl (Za2 n x) x.2.2.2.1).2.2.2.2.1 then 26 else bif !Zis n q x.2.2.2.2.2.1 then 29 else 0
def Zhz (n:ZaJ) (q:Zbp) (L:List Zbb) (i:Nat):Int:=bif decide (i=0) then ZhU n q L else ZbK n (lg L (i - 1)) (lg L i)
def atE (n:ZaJ) (q:Zbp) (L:List Zbb) (i:Nat):Int:=
 bif !decide (ZiI n q (lg L i)=0) then ZiI n q (lg L i) else
 bif !decide (Zhz n q L i=0) then Zhz n q L i else
 bif Zgi L i then Zdj n q (lg L i) else 0
theorem Zjs {n:ZaJ} {q:Zbp} {x:Zbb} (h:ZiI n q x=0):inR x.2.2.2.2.1 n.1.length=true∧inR x.2.2.2.2.2.1 n.1.length=true∧(x.1=true→Zbi n x=true∧Zht n q x=0)∧(x.1=false→Zf0 n q x=0):=by
 unfold ZiI at h
 rw[ZaA (by omega),ZaA (by omega),ZaA (by omega)] at h
 obtain⟨h1,h2,_,h3⟩:=h
 rw[Bool.or_eq_false_iff] at h1
 refine⟨by simpa using h1.1,by simpa using h1.2,fun e=> ?_,fun e=> ?_⟩
 ·rw[e] at h2 h3
  exact⟨by simpa using h2,h3⟩
 ·rw[e] at h3
  exact h3
theorem ZsF {n:ZaJ} (hS:Zec n) (hp:n.2.2.2.2.1.length≤4096) {q:Zbp} (hq:inR q.1 n.1.length=true) {L:List Zbb} {i:Nat} (hi:i<L.length) (hj:L.length≤1000):F74 n q (L,()) (i:Int)=some (atE n q L i):=by
 unfold F74 atE
 rw[show idx (L,()).1 (i:Int)=some (lg L i) from Zib hi]
 simp only[bind_some]
 rw[Zry hS hp q]
 simp only[bind_some]
 by_cases h0:ZiI n q (lg L i)=0
 case neg=>rw[decide_eq_false h0];rfl
 rw[decide_eq_true h0]
 simp only[Bool.not_true,cond_false]
 obtain⟨z1,z2,z3,z4⟩:=Zjs h0
 have e1: (bif decide ((i:Int)=(0:Int)) then Option.bind (F75 n q (L,())) fun x2=>some x2
 else Option.bind (idx L (IntKind.wrap .i64 ((i:Int) - (1:Int)))) fun x3=>Option.bind (F76 n x3 (lg L i)) fun x4=>some x4)=some (Zhz n q L i):=by
  unfold Zhz
  by_cases hi0:i=0
  ·subst hi0
   rw[ZmT hi hq];rfl
  ·have e:IntKind.wrap .i64 ((i:Int) - 1)=((i - 1:Nat):Int):=by rw[Zaq (by omega) (by omega)];omega
   rw[decide_eq_false (show¬ (i:Int)=0 by omega),decide_eq_false hi0,e,Zib (show i - 1<L.length by omega)]
   simp only[cond_false,bind_some]
   rw[ZmK (by have:=hS.links;omega) z1]
   rfl
 rw[e1]
 simp only[bind_some]
 refine Ziw ?_
 have w2:IntKind.wrap .i64 ((i:Int)+1)=((i+1:Nat):Int):=by rw[Zaq (by omega) (by omega)];omega
 rw[w2]
 have e2: (bif (lg L i).1 then bif decide (((i+1:Nat):Int)=(↑(List.length L):Int)) then some true
 else Option.bind (idx L ((i+1:Nat):Int)) fun x6=>some !x6.2.2.2.2.2.2.2.2.1
 else some false)=some (Zgi L i):=by
  unfold Zgi
  rw[show decide (((i+1:Nat):Int)=(L.length:Int))=decide (i+1=L.length) from decide_eq_decide.2 (by omega)]
  by_cases h1:i+1=L.length
  ·rw[decide_eq_true h1]
   cases (lg L i).1<;>rfl
  ·rw[decide_eq_false h1,Zib (show i+1<L.length by omega)]
   cases (lg L i).1<;>rfl
 rw[e2]
 simp only[bind_some]
 cases htl:Zgi L i with
 |false=>rfl
 |true=>
  have hr: (lg L i).1=true:=by
   unfold Zgi at htl
   rw[Bool.and_eq_true] at htl
   exact htl.1
  obtain⟨x1,_,_,x4⟩:=Zji (z3 hr).1
  simp only[cond_true]
  rw[x1]
  simp only[bind_some]
  rw[x4]
  simp only[bind_some]
  rw[Zj6 q z2]
  unfold Zdj
  cases (cl (Za2 n (lg L i)) (lg L i).2.2.2.1).2.2.2.2.1<;>cases Zis n q (lg L i).2.2.2.2.2.1<;>rfl
end Q
namespace Q
open Tr Go
open Option (bind_some)
def Zaz (n:ZaJ) (i:Nat):List ZbO:=(rn n (i:Int)).2.2.2.2.2.2.2.1
def Zac (n:ZaJ) (i c:Nat):ZbO:=cl (Zaz n i) (c:Int)
def ZbN (n:ZaJ) (i:Nat):Bool:=(rn n (i:Int)).2.2.2.2.2.2.1
def ZgQ (s t a b:Int):Zbb:=(false,0,0,0,s,t,a,b,false,())
def ZdP (n:ZaJ) (i b c:Nat) (st:Bool):Zbb:=(true,(i:Int),(b:Int),(c:Int),(Zac n i b).1,(Zac n i c).1,(Zac n i b).2.2.1,(Zac n i c).2.1,st,())
def isLink (n:ZaJ) (i c j d:Nat) (st:Bool):Prop:=((i:Int),(c:Int),(j:Int),(d:Int),st,())∈n.2.2.2.1
structure ZdV (n:ZaJ):Prop where
 sound:Zec n
 change: ∀s:Int,0≤s→s< (n.1.length:Int)→0≤(Zb6 n s).2.2.2.1∧(Zb6 n s).2.2.2.1≤3600
 path: ∀p∈n.2.2.2.2.1,(0≤p.1∧p.1< (n.1.length:Int))∧(0≤p.2.1∧p.2.1< (n.1.length:Int))∧p.1≠p.2.1∧1≤p.2.2.1∧p.2.2.1≤14400
 link: ∀x∈n.2.2.2.1, ∃ (i c j d:Nat) (st:Bool),x=((i:Int),(c:Int),(j:Int),(d:Int),st,())∧i<n.2.2.1.length∧j<n.2.2.1.length∧i≠j∧c< (Zaz n i).length∧d< (Zaz n j).length∧
  (Zac n i c).1=(Zac n j d).1∧(st=true→c+1=(Zaz n i).length∧d=0)
theorem Zbf {n:ZaJ} {i:Nat} (hi:i<n.2.2.1.length):Zaz n i=(n.2.2.1[i]).2.2.2.2.2.2.2.1:=by unfold Zaz rn;rw[Int.toNat_natCast,Zai hi]
theorem Zcn {n:ZaJ} {i c:Nat} (hc:c< (Zaz n i).length):Zac n i c=(Zaz n i)[c]:=by unfold Zac cl;rw[Int.toNat_natCast,Zai hc]
theorem Znc {n:ZaJ} {i:Nat} (h:Zb3 n i=0): (cl (rn n (lk n i).1).2.2.2.2.2.2.2.1 (lk n i).2.1).1=(cl (rn n (lk n i).2.2.1).2.2.2.2.2.2.2.1 (lk n i).2.2.2.1).1∧
  ((lk n i).2.2.2.2.1=true→(lk n i).2.1+1=((rn n (lk n i).1).2.2.2.2.2.2.2.1.length:Int)∧(lk n i).2.2.2.1=0):=by
 unfold Zb3 at h
 simp only at h
 by_cases b1:ZlA n (lk n i)=true
 ·rw[if_pos b1] at h;omega
 rw[if_neg b1] at h
 by_cases b2:Znm n (lk n i)=true
 ·rw[if_pos b2] at h;omega
 rw[if_neg b2] at h
 split at h
 ·omega
 split at h
 ·omega
 split at h
 ·omega
 next h1 h2 h3=>
  refine⟨Decidable.not_not.1 h1,fun hs=>⟨?_, ?_⟩⟩
  ·exact Decidable.not_not.1 fun e=>h2 ⟨hs,e⟩
  ·exact Decidable.not_not.1 fun e=>h3 ⟨hs,e⟩
theorem Whole.ok {n:ZaJ} (h:Whole n):ZdV n:=by
 refine⟨h.sound,fun s h0 h1=> ?_,fun p hp=> ?_,fun x hx=> ?_⟩
 ·have s0:=h.s
  unfold Zgh at s0
  split at s0
  ·exact absurd s0 (by decide)
  obtain⟨j,rfl⟩: ∃j:Nat,s=(j:Int):=⟨s.toNat,by omega⟩
  have hj:j<n.1.length:=by omega
  have hz:=ZgH s0 j hj
  unfold Zfq at hz
  have:=(Zcg.1 hz).2.2
  unfold Zb6
  rw[Int.toNat_natCast]
  generalize hg: (n.1[j]?).getD Q.s0=y at*
  have e: (n.1[j]?).getD ([],0,false,0,())=y:=by rw[←hg];rfl
  rw[e] at this
  omega
 ·obtain⟨j,hj,rfl⟩:=List.getElem_of_mem hp
  obtain⟨h1,h2,_⟩:=Zce (ZaF.1 h.q j hj)
  rw[Zai hj] at h1 h2
  unfold ZcN at h1
  unfold ZcH at h2
  simp only[Bool.or_eq_false_iff,Bool.not_eq_false',decide_eq_false_iff_not,decide_eq_true_eq] at h1 h2
  omega
 ·obtain⟨j,hj,rfl⟩:=List.getElem_of_mem hx
  have hz:=ZaF.1 h.g j hj
  obtain⟨h1,h2,_⟩:=Zf1 hz
  obtain⟨h3,h4⟩:=Znc hz
  have e:lk n j=n.2.2.2.1[j]:=by unfold lk;rw[Zai hj]
  rw[e] at h1 h2 h3 h4
  generalize n.2.2.2.1[j]=x at*
  unfold ZlA at h1
  unfold Znm at h2
  unfold inR at h1 h2
  simp only[Bool.or_eq_false_iff,Bool.not_eq_false',decide_eq_false_iff_not,Bool.and_eq_true,decide_eq_true_eq] at h1 h2
  obtain⟨x1,x2,x3,x4,x5,x6⟩:=x
  simp only at h1 h2 h3 h4
  obtain⟨i,rfl⟩: ∃i:Nat,x1=(i:Int):=⟨x1.toNat,by omega⟩
  obtain⟨c,rfl⟩: ∃i:Nat,x2=(i:Int):=⟨x2.toNat,by omega⟩
  obtain⟨k,rfl⟩: ∃i:Nat,x3=(i:Int):=⟨x3.toNat,by omega⟩
  obtain⟨d,rfl⟩: ∃i:Nat,x4=(i:Int):=⟨x4.toNat,by omega⟩
  refine⟨i,c,k,d,x5,rfl,by omega,by omega,by omega, ?_, ?_,h3,fun hs=> ?_⟩
  ·unfold Zaz;omega
  ·unfold Zaz;omega
  ·obtain⟨a,b⟩:=h4 hs
   unfold Zaz
   omega
theorem ZdV.isLink {n:ZaJ} (h:ZdV n) {i c j d:Nat} {st:Bool} (hl:isLink n i c j d st):i<n.2.2.1.length∧j<n.2.2.1.length∧i≠j∧c< (Zaz n i).length∧d< (Zaz n j).length∧(Zac n i c).1=(Zac n j d).1∧(st=true→c+1=(Zaz n i).length∧d=0):=by
 obtain⟨i',c',j',d',st',e,h1⟩:=h.link _ hl
 simp only[Prod.mk.injEq,Int.natCast_inj] at e
 obtain⟨rfl,rfl,rfl,rfl,rfl,_⟩:=e
 exact h1
theorem ZdV.stop {n:ZaJ} (h:ZdV n) {i c:Nat} (hi:i<n.2.2.1.length) (hc:c< (Zaz n i).length):0≤(Zac n i c).1∧(Zac n i c).1< (n.1.length:Int):=by
 rw[Zcn hc]
 refine h.sound.call _ (List.getElem_mem hi) _ ?_
 simp only[Zbf hi]
 exact List.getElem_mem _
theorem ZdV.time {n:ZaJ} (h:ZdV n) {i c:Nat} (hi:i<n.2.2.1.length) (hc:c< (Zaz n i).length):0≤(Zac n i c).2.1∧(Zac n i c).2.1≤(Zac n i c).2.2.1∧(Zac n i c).2.2.1≤3155932800:=by
 have ht:=h.sound.time _ (List.getElem_mem hi)
 rw[Zcn hc]
 simp only[Zbf hi] at hc ⊢
 have:=ht c hc
 omega
inductive ZoQ where
 |rdy (k:Nat) (s r:Int)
 |brd (k:Nat) (i c:Nat) (st:Bool)
 |lnk (k:Nat) (i c:Nat)
 |on (k:Nat) (i c:Nat)
 |rid (k:Nat) (s t:Int)
 |arr (k:Nat) (s t:Int)
inductive Der (n:ZaJ) (s0 t0 w:Int):ZoQ→List Zbb→Prop
 |init:Der n s0 t0 w (.rdy 0 s0 (t0+w)) []
 |here:Der n s0 t0 w (.arr 0 s0 t0) []
 |rdyW {p:Zcl} :p∈n.2.2.2.2.1→p.1=s0→t0+p.2.2.1≤3155932800→Der n s0 t0 w (.rdy 0 p.2.1 (t0+p.2.2.1)) [ZgQ s0 p.2.1 t0 (t0+p.2.2.1)]
 |arrW {p:Zcl} :p∈n.2.2.2.2.1→p.1=s0→t0+p.2.2.1≤3155932800→Der n s0 t0 w (.arr 0 p.2.1 (t0+p.2.2.1)) [ZgQ s0 p.2.1 t0 (t0+p.2.2.1)]
 |board {k:Nat} {s r:Int} {js:List Zbb} {i c:Nat} :Der n s0 t0 w (.rdy k s r) js→i<n.2.2.1.length→c< (Zaz n i).length→ZbN n i=false→(Zac n i c).1=s→(Zac n i c).2.2.2.1=true→r≤(Zac n i c).2.2.1→Der n s0 t0 w (.brd (k+1) i c false) js
 |on {k i b c:Nat} {st:Bool} {js:List Zbb} :Der n s0 t0 w (.brd k i b st) js→b<c→c< (Zaz n i).length→Der n s0 t0 w (.on k i c) (js++[ZdP n i b c st])
 |stay {k i c j d:Nat} {js:List Zbb} :Der n s0 t0 w (.on k i c) js→isLink n i c j d true→(Zac n i c).2.1≤(Zac n j d).2.2.1→ZbN n j=false→Der n s0 t0 w (.brd k j d true) js
 |link {k i c j d:Nat} {js:List Zbb} :Der n s0 t0 w (.on k i c) js→(Zac n i c).2.2.2.2.1=true→isLink n i c j d false→(Zac n i c).2.1≤(Zac n j d).2.2.1→(Zac n j d).2.2.2.1=true→Der n s0 t0 w (.lnk (k+1) j d) js
 |linked {k j d:Nat} {js:List Zbb} :Der n s0 t0 w (.lnk k j d) js→ZbN n j=false→Der n s0 t0 w (.brd k j d false) js
 |ride {k i c:Nat} {js:List Zbb} :Der n s0 t0 w (.on k i c) js→(Zac n i c).2.2.2.2.1=true→Der n s0 t0 w (.rid k (Zac n i c).1 (Zac n i c).2.1) js
 |change {k:Nat} {s t:Int} {js:List Zbb} :Der n s0 t0 w (.rid k s t) js→Der n s0 t0 w (.rdy k s (t+(Zb6 n s).2.2.2.1)) js
 |rdyV {k:Nat} {s t:Int} {js:List Zbb} {p:Zcl} :Der n s0 t0 w (.rid k s t) js→p∈n.2.2.2.2.1→p.1=s→t+p.2.2.1≤3155932800→Der n s0 t0 w (.rdy k p.2.1 (t+p.2.2.1)) (js++[ZgQ s p.2.1 t (t+p.2.2.1)])
 |arrR {k:Nat} {s t:Int} {js:List Zbb} :Der n s0 t0 w (.rid k s t) js→Der n s0 t0 w (.arr k s t) js
 |arrV {k:Nat} {s t:Int} {js:List Zbb} {p:Zcl} :Der n s0 t0 w (.rid k s t) js→p∈n.2.2.2.2.1→p.1=s→t+p.2.2.1≤3155932800→Der n s0 t0 w (.arr k p.2.1 (t+p.2.2.1)) (js++[ZgQ s p.2.1 t (t+p.2.2.1)])
def ZoQ.ok (n:ZaJ):ZoQ→Prop
 | .rdy _ s r=>(0≤s∧s< (n.1.length:Int))∧0≤r∧r≤3155932800+3600
 | .brd k i c _=>0<k∧i<n.2.2.1.length∧c< (Zaz n i).length∧ZbN n i=false
 | .lnk k i c=>0<k∧i<n.2.2.1.length∧c< (Zaz n i).length
 | .on k i c=>0<k∧i<n.2.2.1.length∧c< (Zaz n i).length∧ZbN n i=false
 | .rid k s t=>0<k∧(0≤s∧s< (n.1.length:Int))∧0≤t∧t≤3155932800
 | .arr _ s t=>(0≤s∧s< (n.1.length:Int))∧0≤t∧t≤3155932800
theorem Der.ok {n:ZaJ} (h:ZdV n) {s0 t0 w:Int} (hs:0≤s0∧s0< (n.1.length:Int)) (ht:0≤t0∧t0≤3155932800) (hw:0≤w∧w≤3600) {f:ZoQ} {js:List Zbb} (d:Der n s0 t0 w f js):f.ok n:=by
 induction d with
 |init=>exact⟨hs,by omega,by omega⟩
 |here=>exact⟨hs,ht⟩
 |rdyW hp _ hm=>have:=h.path _ hp;exact⟨this.2.1,by omega,by omega⟩
 |arrW hp _ hm=>have:=h.path _ hp;exact⟨this.2.1,by omega,by omega⟩
 |board _ hi hc hx _ _ _ _=>exact⟨Nat.succ_pos _,hi,hc,hx⟩
 |on _ _ hc ih=>exact⟨ih.1,ih.2.1,hc,ih.2.2.2⟩
 |stay _ hl _ hx ih=>have:=h.isLink hl;exact⟨ih.1,this.2.1,this.2.2.2.2.1,hx⟩
 |link _ _ hl _ _ _=>have:=h.isLink hl;exact⟨Nat.succ_pos _,this.2.1,this.2.2.2.2.1⟩
 |linked _ hx ih=>exact⟨ih.1,ih.2.1,ih.2.2,hx⟩
 |ride _ _ ih=>
  have:=h.time ih.2.1 ih.2.2.1
  exact⟨ih.1,h.stop ih.2.1 ih.2.2.1,by omega,by omega⟩
 |change _ ih=>have:=h.change _ ih.2.1.1 ih.2.1.2;exact⟨ih.2.1,by have:=ih.2.2;omega,by have:=ih.2.2;omega⟩
 |rdyV _ hp _ hm ih=>have:=h.path _ hp;exact⟨this.2.1,by have:=ih.2.2;omega,by omega⟩
 |arrR _ ih=>exact ih.2
 |arrV _ hp _ hm ih=>have:=h.path _ hp;exact⟨this.2.1,by have:=ih.2.2;omega,by omega⟩
abbrev ZoO:=Zbb×Int×Unit
inductive Ch (lb:List ZoO):Int→List Zbb→Prop
 |nil:Ch lb (-1) []
 |cons {l:Nat} {x:Zbb} {p:Int} {js:List Zbb} :lb[l]? =some (x,p,())→p< (l:Int)→Ch lb p js→Ch lb (l:Int) (js++[x])
theorem Ch.lt {lb:List ZoO} {l:Int} {js:List Zbb} (h:Ch lb l js): -1≤l∧l< (lb.length:Int):=by
 cases h with
 |nil=>omega
 |cons h _ _=>
  have:=(List.getElem?_eq_some_iff.1 h).1
  omega
theorem Ch.app {lb:List ZoO} {l:Int} {js:List Zbb} (h:Ch lb l js) (m:List ZoO):Ch (lb++m) l js:=by
 induction h with
 |nil=>exact .nil
 |cons h1 h2 _ ih=>
  have hl:=(List.getElem?_eq_some_iff.1 h1).1
  exact .cons (by rw[List.getElem?_append_left hl];exact h1) h2 ih
theorem Ch.new {lb:List ZoO} {p:Int} {js:List Zbb} (h:Ch lb p js) (x:Zbb):Ch (lb++[(x,p,())]) (lb.length:Int) (js++[x]):=
 .cons (by simp) h.lt.2 (h.app _)
end Q
namespace Q
open Tr Go
open Option (bind_some)
def Zb7 (q:Zbp):Zbp:=(q.1,q.2.1,q.2.2.1,q.2.2.2.1,q.2.2.2.2.1,q.2.2.2.2.2.1,false,false,0,q.2.2.2.2.2.2.2.2.2)
theorem Zdv {n:ZaJ} {q:Zbp} {x:Zbb} :Zht n q x=0↔((cl (Za2 n x) x.2.2.1).1=x.2.2.2.2.1∧(cl (Za2 n x) x.2.2.2.1).1=x.2.2.2.2.2.1)∧((cl (Za2 n x) x.2.2.1).2.2.1=x.2.2.2.2.2.2.1∧(cl (Za2 n x) x.2.2.2.1).2.1=x.2.2.2.2.2.2.2.1)∧Zqy n q (rn n x.2.1)=true∧(Zcp x=true∨(cl (Za2 n x) x.2.2.1).2.2.2.1=true∧Zis n q x.2.2.2.2.1=true):=by
 unfold Zht
 rw[ZaA (by omega),ZaA (by omega),ZaA (by omega),ZaA (by omega),ZaA (by omega),ZaA (by omega),ZaA (by omega),ZaA (by omega)]
 unfold Zqy Tr.useB Zp3
 rw[Bool.or_eq_false_iff,Bool.or_eq_false_iff]
 simp only[Bool.not_eq_false',decide_eq_true_eq]
 generalize (rn n x.2.1).2.2.2.2.2.2.1=b1
 generalize (rn n x.2.1).2.2.2.2.2.1=b2
 generalize q.2.2.2.2.2.2.1=b3
 generalize (Zqo n (rn n x.2.1)).2.2.1=b4
 generalize q.2.2.2.2.2.2.2.1=b5
 generalize (decide (q.2.2.2.2.2.2.2.2.1=(0:Int)) ||decide (Zn2 .i64 (Int.fdiv q.2.2.2.2.2.2.2.2.1 (2 ^ min (Int.toNat (Zqo n (rn n x.2.1)).2.1) 64)) 1=1))=b6
 generalize Zcp x=b7
 generalize (cl (Za2 n x) x.2.2.1).2.2.2.1=b8
 generalize Zis n q x.2.2.2.2.1=b9
 generalize ((cl (Za2 n x) x.2.2.1).1=x.2.2.2.2.1∧(cl (Za2 n x) x.2.2.2.1).1=x.2.2.2.2.2.1)=p1
 generalize ((cl (Za2 n x) x.2.2.1).2.2.1=x.2.2.2.2.2.2.1∧(cl (Za2 n x) x.2.2.2.1).2.1=x.2.2.2.2.2.2.2.1)=p2
 have key: ((b1=false∧(b3&& !b2)=false∧(b5&& !b4)=false∧(!b6)=false∧(!b7&& !b8)=false∧(!b7&& !b9)=false∧(0:Int)=0)↔((!b1&& ((b2|| !b3) && ((b4|| !b5) &&b6)))=true∧(b7=true∨b8=true∧b9=true))):=by
  cases b1<;>cases b2<;>cases b3<;>cases b4<;>cases b5<;>cases b6<;>cases b7<;>cases b8<;>cases b9<;>simp
 exact and_congr_right fun _=>and_congr_right fun _=>by
  first
  |exact key
  | (simp only[Bool.not_eq_false'] at key ⊢;exact key)
theorem ZqN (n:ZaJ) (q:Zbp):Zbv n q c0=c0:=by
 unfold Zbv
 split<;>rfl
theorem ZiH (n:ZaJ) (q:Zbp) (l:List ZbO) (a:Int):cl (l.map (Zbv n q)) a=Zbv n q (cl l a):=by
 unfold cl
 rw[List.getElem?_map]
 cases l[a.toNat]? with
 |none=>exact(ZqN n q).symm
 |some c=>rfl
theorem ZiG (n:ZaJ) (q:Zbp) (c:ZbO):Zbv n q c=(c.1,c.2.1,c.2.2.1,c.2.2.2.1&&Zis n q c.1,c.2.2.2.2.1&&Zis n q c.1,()):=by
 unfold Zbv
 cases h:Zis n q c.1 with
 |true=>simp
 |false=>simp
theorem ZeV (n:ZaJ) (q:Zbp) (x:Zbb):Za2 (Za7 n q) x=(Za2 n x).map (Zbv n q):=Zmb n q x.2.1
theorem Zjz (n:ZaJ) (q:Zbp) (x:Zbb):Zbi (Za7 n q) x=Zbi n x:=by
 have hl: (Za7 n q).2.2.1.length=n.2.2.1.length:=List.length_map ..
 unfold Zbi
 rw[ZeV,List.length_map,hl]
theorem Zqr {n:ZaJ} {q:Zbp} {x:Zbb} (hx:Zbi n x=true):rn (Za7 n q) x.2.1=Zb0 n q (rn n x.2.1):=by
 unfold Zbi at hx
 rw[Bool.and_eq_true] at hx
 have h:=hx.1
 unfold inR at h
 simp only[Bool.and_eq_true,decide_eq_true_eq] at h
 have hl:x.2.1.toNat<n.2.2.1.length:=by omega
 unfold rn
 show ((n.2.2.1.map (Zb0 n q))[x.2.1.toNat]?).getD u0=_
 rw[List.getElem?_map,List.getElem?_eq_getElem hl]
 rfl
theorem Zfv (n:ZaJ) (q:Zbp) (s:Int):Zis n (Zb7 q) s=true:=by
 unfold Zis Zb7
 simp
theorem Zlp (n:ZaJ) (q:Zbp) (r:Zhp):Zqy n (Zb7 q) r= !r.2.2.2.2.2.2.1:=by
 unfold Zqy Tr.useB Zb7
 simp
theorem Zm6 {n:ZaJ} {q:Zbp} {x:Zbb} (hx:Zbi n x=true):Zht (Za7 n q) (Zb7 q) x=0↔Zht n q x=0:=by
 rw[Zdv,Zdv,ZeV,ZiH,ZiH,ZiG,ZiG,Zqr hx,Zlp,Zfv]
 have hc: (Zb0 n q (rn n x.2.1)).2.2.2.2.2.2.1= !Zqy n q (rn n x.2.1):=rfl
 rw[hc,Bool.not_not]
 refine and_congr_right fun h1=>and_congr_right fun _=>and_congr_right fun _=> ?_
 simp only[Bool.and_eq_true]
 rw[h1.1]
 simp
theorem Zne {α:Type} (p f:α→Bool) (l:List α): (l.filter p).any f=l.any fun x=>f x&&p x:=by
 induction l with
 |nil=>rfl
 |cons x l ih=>
  cases hp:p x with
  |true=>rw[List.filter_cons_of_pos hp,List.any_cons,List.any_cons,ih,hp,Bool.and_true]
  |false=>rw[List.filter_cons_of_neg (by simp [hp]),List.any_cons,ih,hp,Bool.and_false,Bool.false_or]
theorem ZeH {n:ZaJ} {q:Zbp} {x:Zbb} :Zf0 n q x=0↔(n.2.2.2.2.1.any fun p=>Zda x p&&ZfQ q p)=true:=by
 unfold Zf0
 cases (n.2.2.2.2.1.any fun p=>Zda x p&&ZfQ q p) with
 |true=>simp
 |false=>cases n.2.2.2.2.1.any (Zda x)<;>simp
theorem Znh {n:ZaJ} {q:Zbp} {x:Zbb} :Zf0 (Za7 n q) (Zb7 q) x=0↔Zf0 n q x=0:=by
 rw[ZeH,ZeH]
 have hfr: ∀p:Zcl,ZfQ (Zb7 q) p=true:=by
  intro p;unfold ZfQ Zb7;simp
 show ((Zdx n q).any fun p=>Zda x p&&ZfQ (Zb7 q) p)=true↔_
 simp only[hfr,Bool.and_true]
 unfold Zdx ZfQ
 cases q.2.2.2.2.2.2.1 with
 |true=>simp only[if_true];rw[Zne];simp
 |false=>simp
theorem ZoD {n:ZaJ} {q:Zbp} {x:Zbb} :ZiI (Za7 n q) (Zb7 q) x=0↔ZiI n q x=0:=by
 have hz: ∀ (n:ZaJ) (q:Zbp),ZiI n q x=0↔(!inR x.2.2.2.2.1 n.1.length|| !inR x.2.2.2.2.2.1 n.1.length)=false∧(bif x.1 then !Zbi n x else !decide (x.2.1=0) || (!decide (x.2.2.1=0) || (!decide (x.2.2.2.1=0) ||Zcp x)))=false∧(!decide (0≤x.2.2.2.2.2.2.1∧x.2.2.2.2.2.2.1≤3155932800) || !decide (0≤x.2.2.2.2.2.2.2.1∧x.2.2.2.2.2.2.2.1≤3155932800))=false∧(bif x.1 then Zht n q x else Zf0 n q x)=0:=by
  intro n q
  unfold ZiI
  rw[ZaA (by omega),ZaA (by omega),ZaA (by omega)]
 rw[hz,hz,Zjz]
 refine and_congr_right fun _=>and_congr_right fun h2=>and_congr_right fun _=> ?_
 cases hx:x.1 with
 |true=>
  rw[hx] at h2
  exact Zm6 (by simpa using h2)
 |false=>exact Znh
theorem Zp4 {n:ZaJ} {q:Zbp} {L:List Zbb} {i:Nat} :atE (Za7 n q) (Zb7 q) L i=0↔atE n q L i=0:=by
 have hz: ∀ (n:ZaJ) (q:Zbp),atE n q L i=0↔ZiI n q (lg L i)=0∧Zhz n q L i=0∧(Zgi L i=true→Zdj n q (lg L i)=0):=by
  intro n q
  unfold atE
  by_cases h1:ZiI n q (lg L i)=0
  ·by_cases h2:Zhz n q L i=0
   ·rw[decide_eq_true h1,decide_eq_true h2]
    cases Zgi L i<;>simp [h1,h2]
   ·rw[decide_eq_true h1,decide_eq_false h2];simp [h2]
  ·rw[decide_eq_false h1];simp [h1]
 have ha: ∀ (n:ZaJ) (q:Zbp) (x:Zbb),Zdj n q x=0↔(cl (Za2 n x) x.2.2.2.1).2.2.2.2.1=true∧Zis n q x.2.2.2.2.2.1=true:=by
  intro n q x
  unfold Zdj
  rw[ZaA (by omega),ZaA (by omega)]
  simp
 rw[hz,hz]
 refine(and_congr ZoD Iff.rfl).trans (and_congr_right fun h1=>and_congr Iff.rfl ?_)
 refine imp_congr_right fun ht=> ?_
 have hr: (lg L i).1=true:=by
  unfold Zgi at ht
  rw[Bool.and_eq_true] at ht
  exact ht.1
 obtain⟨_,_,h3,_⟩:=Zjs h1
 have h4:=(Zdv.1 (h3 hr).2).1.2
 rw[ha,ha,ZeV,ZiH,ZiG,Zfv]
 simp only[Bool.and_eq_true]
 rw[h4]
 simp
end Q
namespace Q
open Tr Go
open Option (bind_some)
variable {n:ZaJ} {q:Zbp}
theorem ZoG {n:ZaJ} {q:Zbp} {x:Zbb} :ZiI n q x=0↔(inR x.2.2.2.2.1 n.1.length=true∧inR x.2.2.2.2.2.1 n.1.length=true)∧(bif x.1 then !Zbi n x else !decide (x.2.1=0) || (!decide (x.2.2.1=0) || (!decide (x.2.2.2.1=0) ||Zcp x)))=false∧
  ((0≤x.2.2.2.2.2.2.1∧x.2.2.2.2.2.2.1≤3155932800)∧(0≤x.2.2.2.2.2.2.2.1∧x.2.2.2.2.2.2.2.1≤3155932800))∧(bif x.1 then Zht n q x else Zf0 n q x)=0:=by
 unfold ZiI
 rw[ZaA (by omega),ZaA (by omega),ZaA (by omega)]
 simp only[Bool.or_eq_false_iff,Bool.not_eq_false',decide_eq_true_eq]
theorem Zo4 {a m:Nat} :inR (a:Int) m=true↔a<m:=by
 unfold inR
 rw[Bool.and_eq_true,decide_eq_true_eq,decide_eq_true_eq]
 omega
theorem ZeW {a:Int} {m:Nat} :inR a m=true↔0≤a∧a< (m:Int):=by
 unfold inR
 rw[Bool.and_eq_true,decide_eq_true_eq,decide_eq_true_eq]
theorem Zlr (n:ZaJ) (q:Zbp) (i:Nat):Zqy n (Zb7 q) (rn n (i:Int))=true↔ZbN n i=false:=by
 rw[Zlp]
 unfold ZbN
 cases (rn n (i:Int)).2.2.2.2.2.2.1<;>simp
def Zq8 (n:ZaJ) (i b c:Nat) (st:Bool):Prop:=i<n.2.2.1.length∧b<c∧c< (Zaz n i).length∧ZbN n i=false∧(st=true∨(Zac n i b).2.2.2.1=true)
theorem Zmd (h:ZdV n) {x:Zbb} : (ZiI n (Zb7 q) x=0∧x.1=true)↔ ∃i b c st,x=ZdP n i b c st∧Zq8 n i b c st:=by
 rw[ZoG]
 constructor
 ·rintro ⟨⟨h1,h2,h3,h4⟩,hr⟩
  rw[hr] at h2 h4
  simp only[cond_true,Bool.not_eq_false'] at h2 h4
  have he:=h2
  unfold Zbi Za2 at he
  simp only[Bool.and_eq_true,decide_eq_true_eq,ZeW] at he
  obtain⟨⟨e1,e2⟩,e3,e4,e5⟩:=he
  obtain⟨⟨r1,r2⟩,⟨r3,r4⟩,r5,r6⟩:=Zdv.1 h4
  obtain⟨xr,xi,xb,xc,xf,xt,xd,xa,xs,u⟩:=x
  simp only at hr h1 h2 h3 h4 e1 e2 e3 e4 e5 r1 r2 r3 r4 r5 r6
  obtain⟨i,rfl⟩: ∃i:Nat,xi=(i:Int):=⟨xi.toNat,by omega⟩
  obtain⟨b,rfl⟩: ∃i:Nat,xb=(i:Int):=⟨xb.toNat,by omega⟩
  obtain⟨c,rfl⟩: ∃i:Nat,xc=(i:Int):=⟨xc.toNat,by omega⟩
  subst hr
  have hl:c< (Zaz n i).length:=by unfold Zaz;omega
  refine⟨i,b,c,xs, ?_,by omega,by omega,hl,(Zlr n q i).1 r5, ?_⟩
  ·have a1: (Zac n i b).1=xf:=r1
   have a2: (Zac n i c).1=xt:=r2
   have a3: (Zac n i b).2.2.1=xd:=r3
   have a4: (Zac n i c).2.1=xa:=r4
   unfold ZdP
   rw[a1,a2,a3,a4]
  ·rcases r6 with r6|r6
   ·exact .inl r6
   ·exact .inr r6.1
 ·rintro ⟨i,b,c,st,rfl,h1,h2,h3,h4,h5⟩
  have hb:b< (Zaz n i).length:=by omega
  have s1:=h.stop h1 hb
  have s2:=h.stop h1 h3
  have t1:=h.time h1 hb
  have t2:=h.time h1 h3
  have hex:Zbi n (ZdP n i b c st)=true:=by
   unfold Zbi Za2
   simp only[Bool.and_eq_true,decide_eq_true_eq]
   have:c< (rn n (i:Int)).2.2.2.2.2.2.2.1.length:=h3
   exact⟨Zo4.2 h1,by show (0:Int)≤(b:Int);omega,by show (b:Int)< (c:Int);omega,by show (c:Int)<_;show (c:Int)< ((rn n (i:Int)).2.2.2.2.2.2.2.1.length:Int);omega⟩
  refine⟨⟨⟨ZeW.2 s1,ZeW.2 s2⟩, ?_,⟨⟨by show (0:Int)≤(Zac n i b).2.2.1;omega,t1.2.2⟩,⟨t2.1,by show (Zac n i c).2.1≤_;omega⟩⟩, ?_⟩,rfl⟩
  ·show (!Zbi n (ZdP n i b c st))=false
   rw[hex];rfl
  ·refine Zdv.2 ⟨⟨rfl,rfl⟩,⟨rfl,rfl⟩,(Zlr n q i).2 h4, ?_⟩
   rcases h5 with h5|h5
   ·exact .inl h5
   ·exact .inr ⟨h5,Zfv ..⟩
theorem ZlH (h:ZdV n) {x:Zbb} : (ZiI n (Zb7 q) x=0∧x.1=false)↔ ∃p∈n.2.2.2.2.1, ∃a,x=ZgQ p.1 p.2.1 a (a+p.2.2.1)∧0≤a∧a+p.2.2.1≤3155932800:=by
 rw[ZoG]
 constructor
 ·rintro ⟨⟨h1,h2,h3,h4⟩,hr⟩
  rw[hr] at h2 h4
  simp only[cond_false,Bool.or_eq_false_iff,Bool.not_eq_false',decide_eq_true_eq] at h2 h4
  have h5:=ZeH.1 h4
  obtain⟨p,hp,hm⟩:=List.any_eq_true.1 h5
  rw[Bool.and_eq_true] at hm
  have hm1:=hm.1
  unfold Zda at hm1
  simp only[Bool.and_eq_true,decide_eq_true_eq] at hm1
  obtain⟨xr,xi,xb,xc,xf,xt,xd,xa,xs,u⟩:=x
  simp only at hr h1 h2 h3 hm1
  have hpp:=h.path p hp
  rw[Zaq (by omega) (by omega)] at hm1
  obtain⟨rfl,rfl,rfl,rfl⟩:=h2
  subst hr
  refine⟨p,hp,xd, ?_,by omega,by omega⟩
  unfold ZgQ
  rw[←hm1.1, ←hm1.2.1,show xa=xd+p.2.2.1 by omega]
 ·rintro ⟨p,hp,a,rfl,h1,h2⟩
  have hpp:=h.path p hp
  refine⟨⟨⟨ZeW.2 hpp.1,ZeW.2 hpp.2.1⟩,rfl,⟨⟨h1,by show a≤_;omega⟩,⟨by show 0≤a+p.2.2.1;omega,h2⟩⟩, ?_⟩,rfl⟩
  show Zf0 n (Zb7 q) _=0
  rw[ZeH]
  refine List.any_eq_true.2 ⟨p,hp, ?_⟩
  unfold Zda ZfQ Zb7 ZgQ
  simp only[Bool.and_eq_true,decide_eq_true_eq,Bool.not_false,Bool.or_true]
  exact⟨⟨trivial,trivial,by rw[Zaq (by omega) (by omega)];omega⟩,trivial⟩
theorem Zjo (h:ZdV n) {i b c j d e:Nat} {st st' sx:Bool} :Zgg n (ZdP n i b c st) (ZdP n j d e st') sx=true↔isLink n i c j d sx:=by
 unfold Zgg
 rw[List.any_eq_true]
 constructor
 ·rintro ⟨x,hx,hm⟩
  obtain⟨i',c',j',d',s',rfl,_⟩:=h.link x hx
  unfold Zk2 ZdP at hm
  simp only[Bool.and_eq_true,decide_eq_true_eq,beq_iff_eq] at hm
  obtain⟨h1,h2,h3,h4,h5⟩:=hm
  unfold isLink
  rw[←h1, ←h2, ←h3, ←h4, ←h5];exact hx
 ·intro hl
  refine⟨_,hl, ?_⟩
  unfold Zk2 ZdP
  simp
theorem Zsi (n:ZaJ) (s t a b s' t' a' b' :Int):ZbK n (ZgQ s t a b) (ZgQ s' t' a' b')≠0:=by
 unfold ZbK ZgQ
 intro h
 rw[ZaA (by omega)] at h
 obtain⟨_,h⟩:=h
 simp at h
theorem Zsy (n:ZaJ) (s t a b:Int) (j d e:Nat):ZbK n (ZgQ s t a b) (ZdP n j d e true)≠0:=by
 unfold ZbK ZgQ ZdP
 intro h
 rw[ZaA (by omega)] at h
 obtain⟨_,h⟩:=h
 simp [Zcp] at h
theorem ZsC (h:ZdV n) {i b c j d e:Nat} {st:Bool} :ZbK n (ZdP n i b c st) (ZdP n j d e true)=0↔(Zac n i c).1=(Zac n j d).1∧isLink n i c j d true∧(Zac n i c).2.1≤(Zac n j d).2.2.1:=by
 unfold ZbK
 have e1:Zgg n (ZdP n i b c st) (ZdP n j d e true) true=true↔isLink n i c j d true:=Zjo h
 generalize Zgg n (ZdP n i b c st) (ZdP n j d e true) true=B at*
 unfold ZdP Zcp
 simp only[Bool.not_true,Bool.false_and,cond_false,cond_true,Bool.false_or]
 rw[ZaA (by omega),ZaA (by omega)]
 rw[←e1]
 cases B with
 |false=>simp
 |true=>
  simp only[Bool.not_true,Bool.not_eq_false',decide_eq_true_eq,true_and]
  refine and_congr_right fun _=> ?_
  by_cases hlt: (Zac n j d).2.2.1< (Zac n i c).2.1
  ·rw[decide_eq_true hlt];simp;omega
  ·rw[decide_eq_false hlt];simp;omega
theorem Zsp {i b c:Nat} {st:Bool} {s t a z:Int} :ZbK n (ZdP n i b c st) (ZgQ s t a z)=0↔(Zac n i c).1=s∧a=(Zac n i c).2.1:=by
 unfold ZbK ZdP ZgQ Zcp
 simp only[Bool.not_true,Bool.false_and,cond_false,cond_true,Bool.not_false]
 rw[ZaA (by omega)]
 simp only[Bool.not_eq_false',decide_eq_true_eq]
 refine and_congr_right fun _=> ?_
 by_cases hlt:a=(Zac n i c).2.1
 ·rw[decide_eq_true hlt];simp [hlt]
 ·rw[decide_eq_false hlt];simp [hlt]
theorem ZsN {j d e:Nat} {s t a z:Int} :ZbK n (ZgQ s t a z) (ZdP n j d e false)=0↔t=(Zac n j d).1∧z≤(Zac n j d).2.2.1:=by
 unfold ZbK ZdP ZgQ Zcp
 simp only[Bool.not_true,Bool.and_false,cond_false,cond_true,Bool.not_false]
 rw[ZaA (by omega)]
 simp only[Bool.not_eq_false',decide_eq_true_eq]
 refine and_congr_right fun _=> ?_
 by_cases hlt: (Zac n j d).2.2.1<z
 ·rw[decide_eq_true hlt];simp;omega
 ·rw[decide_eq_false hlt];simp;omega
theorem ZsA (h:ZdV n) {i b c j d e:Nat} {st:Bool} (hi:i<n.2.2.1.length) (hc:c< (Zaz n i).length):ZbK n (ZdP n i b c st) (ZdP n j d e false)=0↔(Zac n i c).1=(Zac n j d).1∧
  ((Zac n i c).2.1+(Zb6 n (Zac n i c).1).2.2.2.1≤(Zac n j d).2.2.1∨isLink n i c j d false∧(Zac n i c).2.1≤(Zac n j d).2.2.1):=by
 have ht:=h.time hi hc
 have hs:=h.stop hi hc
 have hcg:=h.change _ hs.1 hs.2
 have w1:IntKind.wrap .i64 ((Zac n i c).2.1+(Zb6 n (Zac n i c).1).2.2.2.1)=(Zac n i c).2.1+(Zb6 n (Zac n i c).1).2.2.2.1:=Zaq (by omega) (by omega)
 unfold ZbK
 have e1:Zgg n (ZdP n i b c st) (ZdP n j d e false) false=true↔isLink n i c j d false:=Zjo h
 generalize Zgg n (ZdP n i b c st) (ZdP n j d e false) false=B at*
 unfold ZdP Zcp
 simp only[Bool.not_true,Bool.false_and,cond_false,w1]
 rw[ZaA (by omega)]
 simp only[Bool.not_eq_false',decide_eq_true_eq]
 refine and_congr_right fun _=> ?_
 rw[←e1]
 by_cases h1: (Zac n i c).2.1+(Zb6 n (Zac n i c).1).2.2.2.1≤(Zac n j d).2.2.1
 ·rw[decide_eq_true h1];simp [h1]
 ·rw[decide_eq_false h1]
  by_cases h2: (Zac n i c).2.1≤(Zac n j d).2.2.1
  ·rw[decide_eq_true h2]
   cases B with
   |true=>simp [h1,h2]
   |false=>simp [h1]
  ·rw[decide_eq_false h2]
   simp [h1,h2]
theorem ZhM {i b c:Nat} {st:Bool} :Zdj n (Zb7 q) (ZdP n i b c st)=0↔(Zac n i c).2.2.2.2.1=true:=by
 unfold Zdj
 rw[ZaA (by omega),ZaA (by omega),Zfv]
 show (!(Zac n i c).2.2.2.2.1)=false∧_↔_
 simp
theorem Zmi {n:ZaJ} {q:Zbp} {L:List Zbb} {i:Nat} :atE n q L i=0↔ZiI n q (lg L i)=0∧Zhz n q L i=0∧(Zgi L i=true→Zdj n q (lg L i)=0):=by
 unfold atE
 by_cases h1:ZiI n q (lg L i)=0
 ·by_cases h2:Zhz n q L i=0
  ·rw[decide_eq_true h1,decide_eq_true h2]
   cases Zgi L i<;>simp [h1,h2]
  ·rw[decide_eq_true h1,decide_eq_false h2];simp [h2]
 ·rw[decide_eq_false h1];simp [h1]
theorem ZnA {n:ZaJ} {q:Zbp} {L:List Zbb} :ZhU n q L=0↔(lg L 0).2.2.2.2.1=q.1∧Zcp (lg L 0)=false∧(!(lg L 0).1&& (decide (1<L.length) && ((lg L 1).1&& !decide ((lg L 1).2.2.2.2.2.2.1=(lg L 0).2.2.2.2.2.2.2.1))))=false∧
  (!(lg L 0).1&& (decide (L.length=1) && (bif q.2.2.2.1 then !decide ((lg L 0).2.2.2.2.2.2.2.1=q.2.2.1) else !decide ((lg L 0).2.2.2.2.2.2.1=q.2.2.1))))=false∧
  (!q.2.2.2.1&&decide ((lg L 0).2.2.2.2.2.2.1<q.2.2.1))=false∧(q.2.2.2.2.2.2.2.2.2.1&& ((lg L 0).1&&decide ((lg L 0).2.2.2.2.2.2.1<IntKind.wrap .i64 (q.2.2.1+(Zb6 n q.1).2.2.2.1))))=false:=by
 unfold ZhU
 rw[ZaA (by omega),ZaA (by omega),ZaA (by omega),ZaA (by omega),ZaA (by omega)]
 simp only[Bool.not_eq_false',decide_eq_true_eq]
 refine and_congr_right fun _=>and_congr_right fun _=>and_congr_right fun _=>and_congr_right fun _=>and_congr_right fun _=> ?_
 cases (q.2.2.2.2.2.2.2.2.2.1&& ((lg L 0).1&&decide ((lg L 0).2.2.2.2.2.2.1<IntKind.wrap .i64 (q.2.2.1+(Zb6 n q.1).2.2.2.1))))<;>simp
end Q
namespace Q
open Tr Go
open Option (bind_some)
variable {n:ZaJ} {q:Zbp}
theorem Zng (a b:List Zbb):ZcZ (a++b)=ZcZ a+ZcZ b:=by simp [ZcZ]
theorem Zhl (s t a b:Int):ZcZ [ZgQ s t a b]=0:=rfl
theorem ZeY (n:ZaJ) (i b c:Nat) (st:Bool):ZcZ [ZdP n i b c st]=if st then 0 else 1:=by cases st<;>rfl
theorem Zs7 {L:List Zbb} {i:Nat} (h:i<L.length):lg L i=L[i]:=by unfold lg;rw[Zai h]
theorem Ze5 {L:List Zbb} {i:Nat} (h:i<L.length):ZcZ (L.take (i+1))=ZcZ (L.take i)+ZcZ [lg L i]:=by
 rw[List.take_succ_eq_append_getElem h,Zng,Zs7 h]
def Zoa (n:ZaJ) (s0 t0 w:Int) (L:List Zbb) (i:Nat):Prop:=
 (∃r b c st,lg L i=ZdP n r b c st∧Zq8 n r b c st∧ ∃js,Der n s0 t0 w (.on (ZcZ (L.take (i+1))) r c) js)∨
 (∃p∈n.2.2.2.2.1, ∃a,lg L i=ZgQ p.1 p.2.1 a (a+p.2.2.1)∧(∃r,r≤a+p.2.2.1∧ ∃js,Der n s0 t0 w (.rdy (ZcZ (L.take (i+1))) p.2.1 r) js)∧(0<i∨L.length=1→ ∃js,Der n s0 t0 w (.arr (ZcZ (L.take (i+1))) p.2.1 (a+p.2.2.1)) js))
theorem ZnM {n:ZaJ} {q:Zbp} {L:List Zbb} {i:Nat} :Zhz n q L (i+1)=ZbK n (lg L i) (lg L (i+1)):=by
 unfold Zhz
 rw[decide_eq_false (Nat.succ_ne_zero i)]
 rfl
theorem ZmL (h:ZdV n) (hq:0≤q.1∧q.1< (n.1.length:Int)) (ht:0≤q.2.2.1∧q.2.2.1≤3155932800) (hb:q.2.2.2.1=false) {L:List Zbb} (h0:0<L.length) (ha:atE n (Zb7 q) L 0=0):
  Zoa n q.1 q.2.2.1 (bif q.2.2.2.2.2.2.2.2.2.1 then(Zb6 n q.1).2.2.2.1 else 0) L 0:=by
 obtain⟨h1,h2,h3⟩:=Zmi.1 ha
 have hcg:=h.change _ hq.1 hq.2
 have h2' :ZhU n (Zb7 q) L=0:=h2
 obtain⟨f1,f2,f3,f4,f5,f6⟩:=ZnA.1 h2'
 have g1: (Zb7 q).1=q.1:=rfl
 have g2: (Zb7 q).2.2.1=q.2.2.1:=rfl
 have g3: (Zb7 q).2.2.2.1=q.2.2.2.1:=rfl
 have g4: (Zb7 q).2.2.2.2.2.2.2.2.2.1=q.2.2.2.2.2.2.2.2.2.1:=rfl
 rw[g1] at f1
 rw[g3,hb,g2] at f4 f5
 rw[g4,g2,g1] at f6
 cases hr: (lg L 0).1 with
 |true=>
  obtain⟨i,b,c,st,e,hk⟩:=(Zmd h).1 ⟨h1,hr⟩
  have hk' :=hk
  obtain⟨k1,k2,k3,k4,k5⟩:=hk'
  rw[e] at f1 f2 f5 f6
  have hst:st=false:=f2
  subst hst
  have hbd: (Zac n i b).2.2.2.1=true:=k5.resolve_left (by simp)
  have hstop: (Zac n i b).1=q.1:=f1
  have hlate:q.2.2.1+(bif q.2.2.2.2.2.2.2.2.2.1 then(Zb6 n q.1).2.2.2.1 else 0)≤(Zac n i b).2.2.1:=by
   simp only[Bool.not_false,Bool.true_and,decide_eq_false_iff_not] at f5
   have f5' : ¬ (Zac n i b).2.2.1<q.2.2.1:=f5
   cases hc:q.2.2.2.2.2.2.2.2.2.1 with
   |false=>simp only[cond_false];omega
   |true=>
    rw[hc,Zaq (by omega) (by omega)] at f6
    simp only[Bool.true_and] at f6
    have f6' :decide ((Zac n i b).2.2.1<q.2.2.1+(Zb6 n q.1).2.2.2.1)=false:=f6
    rw[decide_eq_false_iff_not] at f6'
    simp only[cond_true]
    omega
  refine .inl ⟨i,b,c,false,e,hk, ?_⟩
  have d:=Der.on (.board (.init (n:=n) (s0:=q.1) (t0:=q.2.2.1) (w:=(bif q.2.2.2.2.2.2.2.2.2.1 then(Zb6 n q.1).2.2.2.1 else 0))) k1 (by omega) k4 hstop hbd hlate) k2 k3
  have:ZcZ (L.take (0+1))=1:=by
   rw[Ze5 h0,e,ZeY];rfl
  rw[this];exact⟨_,d⟩
 |false=>
  obtain⟨p,hp,a,e,a0,a1⟩:=(ZlH h).1 ⟨h1,hr⟩
  have hpp:=h.path p hp
  rw[e] at f1 f4 f5
  have hs:p.1=q.1:=f1
  have hK:ZcZ (L.take (0+1))=0:=by rw[Ze5 h0,e,Zhl];rfl
  have f5' : ¬a<q.2.2.1:=by
   simp only[Bool.not_false,Bool.true_and,decide_eq_false_iff_not] at f5
   exact f5
  refine .inr ⟨p,hp,a,e,⟨q.2.2.1+p.2.2.1,by omega, ?_⟩,fun hl=> ?_⟩
  ·rw[hK];exact⟨_, .rdyW hp hs (by omega)⟩
  ·have hl1:L.length=1:=hl.resolve_left (by omega)
   rw[decide_eq_true hl1] at f4
   have f4' : (!decide (a=q.2.2.1))=false:=f4
   simp only[Bool.not_eq_false',decide_eq_true_eq] at f4'
   subst f4'
   exact⟨_,by rw[hK];exact .arrW hp hs a1⟩
theorem Znd (h:ZdV n) {s0 t0 w:Int} {L:List Zbb} {i:Nat} (hi:i+1<L.length) (ha:atE n (Zb7 q) L i=0) (hb:atE n (Zb7 q) L (i+1)=0) (hr:Zoa n s0 t0 w L i):Zoa n s0 t0 w L (i+1):=by
 obtain⟨_,_,a3⟩:=Zmi.1 ha
 obtain⟨b1,b2,_⟩:=Zmi.1 hb
 rw[ZnM] at b2
 have hK:=Ze5 hi
 have htl: ∀ {r b c:Nat} {st:Bool},lg L i=ZdP n r b c st→Zcp (lg L (i+1))=false→(Zac n r c).2.2.2.2.1=true:=by
  intro r b c st e hs
  refine ZhM.1 (?_ :Zdj n (Zb7 q) (ZdP n r b c st)=0)
  rw[←e]
  refine a3 ?_
  unfold Zgi
  rw[e,hs]
  simp [ZdP]
 cases hy: (lg L (i+1)).1 with
 |true=>
  obtain⟨j,d,e,st',ey,hk⟩:=(Zmd h).1 ⟨b1,hy⟩
  have hk' :=hk
  obtain⟨k1,k2,k3,k4,k5⟩:=hk'
  rw[ey] at b2 hK
  refine .inl ⟨j,d,e,st',ey,hk, ?_⟩
  cases st' with
  |true=>
   rw[ZeY] at hK
   rcases hr with ⟨r,b,c,st,ex,hx,js,dx⟩ | ⟨p,hp,a,ex,_⟩
   ·rw[ex] at b2
    obtain⟨c1,c2,c3⟩:=(ZsC h).1 b2
    rw[hK]
    exact⟨_, .on (.stay dx c2 c3 k4) k2 k3⟩
   ·rw[ex] at b2
    exact absurd b2 (Zsy _ _ _ _ _ _ _ _)
  |false=>
   rw[ZeY] at hK
   have hbd: (Zac n j d).2.2.2.1=true:=k5.resolve_left (by simp)
   have hns:Zcp (lg L (i+1))=false:=by rw[ey];rfl
   rcases hr with ⟨r,b,c,st,ex,hx,js,dx⟩ | ⟨p,hp,a,ex,⟨r,hr1,js,dr⟩,_⟩
   ·have hal:=htl ex hns
    rw[ex] at b2
    obtain⟨c1,c2⟩:=(ZsA h hx.1 hx.2.2.1).1 b2
    rw[hK]
    rcases c2 with c2| ⟨c2,c3⟩
    ·exact⟨_, .on (.board (.change (.ride dx hal)) k1 (by omega) k4 c1.symm hbd c2) k2 k3⟩
    ·exact⟨_, .on (.linked (.link dx hal c2 c3 hbd) k4) k2 k3⟩
   ·rw[ex] at b2
    obtain⟨c1,c2⟩:=ZsN.1 b2
    rw[hK]
    exact⟨_, .on (.board dr k1 (by omega) k4 c1.symm hbd (by omega)) k2 k3⟩
 |false=>
  obtain⟨p,hp,a,ey,a0,a1⟩:=(ZlH h).1 ⟨b1,hy⟩
  rw[ey] at b2 hK
  rw[Zhl] at hK
  have hns:Zcp (lg L (i+1))=false:=by rw[ey];rfl
  rcases hr with ⟨r,b,c,st,ex,hx,js,dx⟩ | ⟨p',hp',a',ex,_⟩
  ·have hal:=htl ex hns
   rw[ex] at b2
   obtain⟨c1,c2⟩:=Zsp.1 b2
   have dr:=Der.ride dx hal
   refine .inr ⟨p,hp,a,ey,⟨a+p.2.2.1,Int.le_refl _, ?_⟩,fun _=> ?_⟩
   ·rw[hK,c2]
    exact⟨_, .rdyV dr hp c1.symm (by omega)⟩
   ·rw[hK,c2]
    exact⟨_, .arrV dr hp c1.symm (by omega)⟩
  ·rw[ex] at b2
   exact absurd b2 (Zsi _ _ _ _ _ _ _ _ _)
theorem Zsj (h:ZdV n) (hq:0≤q.1∧q.1< (n.1.length:Int)) (ht:0≤q.2.2.1∧q.2.2.1≤3155932800) (hb:q.2.2.2.1=false) {L:List Zbb} (h0:0<L.length) (ha: ∀i,i<L.length→atE n (Zb7 q) L i=0):
  ∃js,Der n q.1 q.2.2.1 (bif q.2.2.2.2.2.2.2.2.2.1 then(Zb6 n q.1).2.2.2.1 else 0) (.arr (ZcZ L) (lg L (L.length - 1)).2.2.2.2.2.1 (lg L (L.length - 1)).2.2.2.2.2.2.2.1) js:=by
 have key: ∀i,i<L.length→Zoa n q.1 q.2.2.1 (bif q.2.2.2.2.2.2.2.2.2.1 then(Zb6 n q.1).2.2.2.1 else 0) L i:=by
  intro i
  induction i with
  |zero=>exact fun hi=>ZmL h hq ht hb h0 (ha 0 hi)
  |succ i ih=>exact fun hi=>Znd h hi (ha i (by omega)) (ha (i+1) hi) (ih (by omega))
 have hr:=key (L.length - 1) (by omega)
 have hlast:=(Zmi.1 (ha (L.length - 1) (by omega))).2.2
 unfold Zoa at hr
 rw[show L.length - 1+1=L.length by omega,List.take_length] at hr
 rcases hr with ⟨r,b,c,st,e,hk,js,d⟩ | ⟨p,hp,a,e,_,hd⟩
 ·have hal: (Zac n r c).2.2.2.2.1=true:=by
   refine ZhM.1 (?_ :Zdj n (Zb7 q) (ZdP n r b c st)=0)
   rw[←e]
   refine hlast ?_
   unfold Zgi
   rw[e,decide_eq_true (show L.length - 1+1=L.length by omega)]
   rfl
  rw[e]
  exact⟨js, .arrR (.ride d hal)⟩
 ·rw[e]
  refine hd ?_
  by_cases h1:L.length=1
  ·exact .inr h1
  ·exact .inl (by omega)
end Q
namespace Q
open Tr Go
open Option (bind_some)
abbrev ZcS:=Int×Int×Int×Int×Int×Int×Unit
def Zr9 (a b:ZcS):Int:=
 if a.2.2.2.2.1<b.2.2.2.2.1 then -1 else if b.2.2.2.2.1<a.2.2.2.2.1 then 1 else
 if a.2.2.2.2.2.1<b.2.2.2.2.2.1 then -1 else if b.2.2.2.2.2.1<a.2.2.2.2.2.1 then 1 else
 if a.1<b.1 then -1 else if b.1<a.1 then 1 else
 if a.2.1<b.2.1 then -1 else if b.2.1<a.2.1 then 1 else 0
def ltC (a b:ZcS):Prop:=a.2.2.2.2.1<b.2.2.2.2.1∨(a.2.2.2.2.1=b.2.2.2.2.1∧(a.2.2.2.2.2.1<b.2.2.2.2.2.1∨(a.2.2.2.2.2.1=b.2.2.2.2.2.1∧(a.1<b.1∨(a.1=b.1∧a.2.1<b.2.1)))))
theorem Zri (a b:ZcS):Zr9 a b<0↔ltC a b:=by
 unfold Zr9 ltC
 (repeat' split)<;>omega
theorem ZpU (a b:ZcS):0<Zr9 a b↔ltC b a:=by
 unfold Zr9 ltC
 (repeat' split)<;>omega
theorem ZrJ {α:Type} (p:Prop) [Decidable p] (x y:α): (bif decide p then x else y)=if p then x else y:=by
 by_cases h:p<;>simp [h]
theorem Zld (a b:ZcS):F5 a b=some (Zr9 a b):=by
 unfold F5 Zr9
 have w1:IntKind.wrap .i64 (0+1:Int)=1:=by decide
 have w2:IntKind.wrap .i64 (1+1:Int)=2:=by decide
 have w3:IntKind.wrap .i64 (2+1:Int)=3:=by decide
 have w4:IntKind.wrap .i64 (3+1:Int)=4:=by decide
 simp only[ZrJ]
 rw[Zbm]
 simp only[show (0:Int)<4 by decide,if_true,idx,show (0:Int)≤0 by decide,Int.toNat_zero,List.getElem?_cons_zero,bind_some,Int.toNat_one,List.getElem?_cons_succ,w1]
 by_cases h1:a.2.2.2.2.1<b.2.2.2.2.1
 ·simp [h1]
 by_cases h2:b.2.2.2.2.1<a.2.2.2.2.1
 ·simp [h1,h2]
 simp only[h1,h2,if_false,bind_some,Sum.elim_inl]
 rw[Zbm]
 simp only[show (1:Int)<4 by decide,if_true,show (0:Int)≤1 by decide,List.getElem?_cons_zero,bind_some,Int.toNat_one,List.getElem?_cons_succ,w2]
 by_cases h3:a.2.2.2.2.2.1<b.2.2.2.2.2.1
 ·simp [h3]
 by_cases h4:b.2.2.2.2.2.1<a.2.2.2.2.2.1
 ·simp [h3,h4]
 simp only[h3,h4,if_false,bind_some,Sum.elim_inl]
 rw[Zbm]
 simp only[show (2:Int)<4 by decide,if_true,show (0:Int)≤2 by decide,List.getElem?_cons_zero,bind_some,show Int.toNat 2=2 by decide,List.getElem?_cons_succ,w3]
 by_cases h5:a.1<b.1
 ·simp [h5]
 by_cases h6:b.1<a.1
 ·simp [h5,h6]
 simp only[h5,h6,if_false,bind_some,Sum.elim_inl]
 rw[Zbm]
 simp only[show (3:Int)<4 by decide,if_true,show (0:Int)≤3 by decide,List.getElem?_cons_zero,bind_some,show Int.toNat 3=3 by decide,List.getElem?_cons_succ,w4]
 by_cases h7:a.2.1<b.2.1
 ·simp [h7]
 by_cases h8:b.2.1<a.2.1
 ·simp [h7,h8]
 simp only[h7,h8,if_false,bind_some,Sum.elim_inl]
 rw[Zbm]
 simp
def Zhs (i:Nat) (l:List ZbO) (c:Nat):ZcS:=((i:Int),(c:Int),((l[c]?).getD c0).1,((l[c+1]?).getD c0).1,((l[c]?).getD c0).2.2.1,((l[c+1]?).getD c0).2.1,())
def ZkY (i:Nat) (l:List ZbO) (m:Nat):List ZcS:=(List.range m).map (Zhs i l)
def Znq (i:Nat) (x:Zhp):List ZcS:=if x.2.2.2.2.2.2.1=true then [] else ZkY i x.2.2.2.2.2.2.2.1 (x.2.2.2.2.2.2.2.1.length - 1)
def ZhB (n:ZaJ) (k:Nat):List ZcS:=(List.range k).flatMap fun i=>Znq i ((n.2.2.1[i]?).getD u0)
theorem Zn6 (i:Nat) (l:List ZbO) (m:Nat):ZkY i l (m+1)=ZkY i l m++[Zhs i l m]:=by
 unfold ZkY
 rw[List.range_succ,List.map_append];rfl
theorem Zhi (n:ZaJ) (k:Nat):ZhB n (k+1)=ZhB n k++Znq k ((n.2.2.1[k]?).getD u0):=by
 unfold ZhB
 rw[List.range_succ,List.flatMap_append];simp
theorem Zi2 {i:Nat} {x:Zhp} {c:ZcS} (h:c∈Znq i x):x.2.2.2.2.2.2.1=false∧ ∃k,k+1<x.2.2.2.2.2.2.2.1.length∧c=Zhs i x.2.2.2.2.2.2.2.1 k:=by
 unfold Znq at h
 split at h
 ·simp at h
 ·next hc=>
  unfold ZkY at h
  obtain⟨k,hk,rfl⟩:=List.mem_map.1 h
  rw[List.mem_range] at hk
  exact⟨by simpa using hc,k,by omega,rfl⟩
theorem Zqe {i:Nat} {x:Zhp} (h:x.2.2.2.2.2.2.2.1.length≤32): (Znq i x).length≤31:=by
 unfold Znq
 split
 ·simp
 ·simp [ZkY];omega
theorem Zlo {α:Type} {l:List α} {i:Nat} (h:i<l.length) (d:α): (l[i]?).getD d∈l:=by
 rw[List.getElem?_eq_getElem h];exact List.getElem_mem h
theorem ZlQ {n:ZaJ} (h:Zec n): ∀k,k≤n.2.2.1.length→(ZhB n k).length≤31*k
 |0,_=>by simp [ZhB]
 |k+1,hk=>by
  rw[Zhi,List.length_append]
  have:=ZlQ h k (by omega)
  have:=Zqe (i:=k) (h.many _ (Zlo (show k<n.2.2.1.length by omega) u0)).2
  omega
theorem ZrS {i:Nat} {x:Zhp} (h:ZrG x.2.2.2.2.2.2.2.1): (Znq i x).Pairwise ltC:=by
 unfold Znq
 split
 ·exact .nil
 ·unfold ZkY
  rw[List.pairwise_map]
  refine List.Pairwise.imp_of_mem ?_ List.pairwise_lt_range
  intro a b ha hb hab
  rw[List.mem_range] at ha hb
  generalize hl:x.2.2.2.2.2.2.2.1=l at*
  have step: ∀k (hk:k+1<l.length),((l[k]?).getD c0).2.2.1≤((l[k+1]?).getD c0).2.1∧((l[k+1]?).getD c0).2.1≤((l[k+1]?).getD c0).2.2.1:=by
   intro k hk
   have t:=h (k+1) hk
   have t2:=t.2.2.2 (by omega)
   rw[Zai hk,Zai (show k<l.length by omega)]
   have e:l[k+1 - 1]'(by omega)=l[k]:=rfl
   rw[e] at t2
   exact⟨t2.2,t.2.1⟩
  have mono: ∀d k,k+d+1<l.length→((l[k]?).getD c0).2.2.1≤((l[k+d]?).getD c0).2.2.1∧((l[k+1]?).getD c0).2.1≤((l[k+d+1]?).getD c0).2.1:=by
   intro d
   induction d with
   |zero=>exact fun k hk=>⟨Int.le_refl _,Int.le_refl _⟩
   |succ d ih=>
    intro k hk
    have h1:=ih k (by omega)
    have h2:=step (k+d) (by omega)
    have h3:=step (k+d+1) (by omega)
    refine⟨?_, ?_⟩
    ·show _≤((l[k+d+1]?).getD c0).2.2.1
     omega
    ·show _≤((l[k+d+1+1]?).getD c0).2.1
     omega
  have m:=mono (b - a) a (by omega)
  rw[show a+(b - a)=b by omega] at m
  show ((l[a]?).getD c0).2.2.1< ((l[b]?).getD c0).2.2.1∨(((l[a]?).getD c0).2.2.1=((l[b]?).getD c0).2.2.1∧(((l[a+1]?).getD c0).2.1< ((l[b+1]?).getD c0).2.1∨(((l[a+1]?).getD c0).2.1=((l[b+1]?).getD c0).2.1∧((i:Int)< (i:Int)∨((i:Int)=(i:Int)∧(a:Int)< (b:Int))))))
  obtain⟨m1,m2⟩:=m
  generalize ((l[a]?).getD c0).2.2.1=w1 at*
  generalize ((l[b]?).getD c0).2.2.1=w2 at*
  generalize ((l[a+1]?).getD c0).2.1=w3 at*
  generalize ((l[b+1]?).getD c0).2.1=w4 at*
  omega
theorem Zof {n:ZaJ} (h:Zec n): ∀k,k≤n.2.2.1.length→(ZhB n k).Pairwise fun a b=>ltC a b∨ltC b a:=by
 intro k hk
 unfold ZhB
 rw[List.pairwise_flatMap]
 refine⟨fun i hi=> ?_, ?_⟩
 ·rw[List.mem_range] at hi
  exact(ZrS (h.time _ (Zlo (show i<n.2.2.1.length by omega) u0))).imp fun h=> .inl h
 ·refine List.Pairwise.imp ?_ List.pairwise_lt_range
  intro a b hab x hx y hy
  obtain⟨_,p,_,rfl⟩:=Zi2 hx
  obtain⟨_,q,_,rfl⟩:=Zi2 hy
  have key: ∀u v:ZcS,u.1<v.1→ltC u v∨ltC v u:=fun u v h=>by unfold ltC;omega
  exact key _ _ (show ((a:Nat):Int)< ((b:Nat):Int) by omega)
theorem Zrm (a:ZcS): ¬ltC a a:=by unfold ltC;omega
theorem Zsd {a b c:ZcS} (h1:ltC a b) (h2:ltC b c):ltC a c:=by unfold ltC at*;omega
theorem ZsY {α:Type} {o:Option α} {z:α} (h: ∃r,o=some r∧r=z):o=some z:=by
 obtain⟨r,rfl,rfl⟩:=h;rfl
theorem Zop {i : Nat} {x : Zhp} (hl : x.2.2.2.2.2.2.2.1.length ≤ 32) (h1 : 1 ≤ x.2.2.2.2.2.2.2.1.length) {out : List ZcS} (ho : out.length ≤ 100000) :
    run
 (fun s3 : List ZcS × Int =>
 bif decide (s3.2 < IntKind.wrap .i64 ((↑(List.length x.2.2.2.2.2.2.2.1) : Int) - (1 : Int))) then
 Option.bind (idx x.2.2.2.2.2.2.2.1 s3.2) fun x4 =>
 Option.bind (idx x.2.2.2.2.2.2.2.1 (IntKind.wrap .i64 (s3.2 + (1 : Int)))) fun x5 =>
 Option.bind (Zas (decide (List.length s3.1 + List.length [((i : Int), s3.2, x4.1, x5.1, x4.2.2.1, x5.2.1, ())] ≤ Zay))) fun _ =>
 some (.inl (s3.1 ++ [((i : Int), s3.2, x4.1, x5.1, x4.2.2.1, x5.2.1, ())], IntKind.wrap .i64 (s3.2 + (1 : Int))))
 else some (.inr s3.1))
 (out, (0 : Int)) = some (out ++ ZkY i x.2.2.2.2.2.2.2.1 (x.2.2.2.2.2.2.2.1.length - 1)) := by
  generalize x.2.2.2.2.2.2.2.1 = l at *
  have e0 : IntKind.wrap .i64 ((l.length : Int) - 1) = ((l.length - 1 : Nat) : Int) := by rw [Zaq (by omega) (by omega)]; omega
  refine ZsY (ZbB (l.length - 1) _ (fun c (s : List ZcS × Int) => s = (out ++ ZkY i l c, (c : Int))) ?_ ?_ _ (by simp [ZkY]))
  · rintro c s hc rfl
    left
    have hc1 : c + 1 < l.length := by omega
    refine ⟨(out ++ ZkY i l (c + 1), ((c + 1 : Nat) : Int)), ?_, rfl⟩
    simp only [e0, ZaG hc, cond_true, Zag (show c < l.length by omega), bind_some, Zan hc (show l.length - 1 ≤ 9223372036854775807 by omega), Zag hc1]
    rw [Zbn (by have : (ZkY i l c).length = c := by simp [ZkY]
                      simp; omega)]
    simp only [bind_some, Zn6, Zhs, Zai hc1, Zai (show c < l.length by omega), List.append_assoc]
  · rintro s rfl
    refine ⟨_, ?_, rfl⟩
    simp only [e0, ZaI, cond_false]
theorem Zp6 {n:ZaJ} {c:ZcS} (h:c∈ZhB n n.2.2.1.length): ∃i, ∃hi:i<n.2.2.1.length,(n.2.2.1[i]).2.2.2.2.2.2.1=false∧ ∃k,k+1< (n.2.2.1[i]).2.2.2.2.2.2.2.1.length∧c=Zhs i (n.2.2.1[i]).2.2.2.2.2.2.2.1 k:=by
 unfold ZhB at h
 obtain⟨i,hi,hc⟩:=List.mem_flatMap.1 h
 rw[List.mem_range] at hi
 rw[Zai hi] at hc
 exact⟨i,hi,Zi2 hc⟩
theorem ZqK {n:ZaJ} (hf:Fit n): ∃r,F36 n=some r∧F56 n=some r∧(r.2.2≠0→F6 n=some ([],21))∧
  (r.2.2=0→Zec n∧ ∃ys:List ZcS,F6 n=some (ys,0)∧ys.Perm (ZhB n n.2.2.1.length)∧ys.Pairwise ltC):=by
 obtain⟨r,h1,h2,h3⟩:=ZmQ n hf
 refine⟨r,h1,h2,fun hr=> ?_,fun hr=> ?_⟩
 ·unfold F6
  rw[h1]
  simp only[bind_some,decide_eq_false hr,Bool.not_false,cond_true]
 ·have hS:=h3 hr
  refine⟨hS, ?_⟩
  have hlen:=hS.runs
  have hcl:=ZlQ hS
  obtain⟨ys,g1,g2,g3⟩:=Zj2 (cmp:=F5) ltC (ZhB n n.2.2.1.length) (by have:=hcl _ (Nat.le_refl _);omega) (fun x _ y _=>⟨_,Zld x y,Zri x y,ZpU x y⟩) (fun x _=>Zrm x) (fun a _ b _ c _=>Zsd) (Zof hS _ (Nat.le_refl _))
  refine⟨ys, ?_,g2,g3⟩
  unfold F6
  rw[h1]
  simp only[bind_some,hr,decide_true,Bool.not_true,cond_false]
  refine Zd8 (fun r=>r=ZhB n n.2.2.1.length) (ZbB n.2.2.1.length _ (fun i (s:List ZcS×Int)=>s=(ZhB n i,(i:Int))) ?_ ?_ _ (by simp [ZhB])) ?_
  ·rintro i s hi rfl
   left
   have hx:=List.getElem_mem hi
   refine⟨(ZhB n (i+1),((i+1:Nat):Int)), ?_,rfl⟩
   have hlen2:=hcl i (by omega)
   simp only[ZaG hi,cond_true,Zag hi,bind_some,Zan hi (show n.2.2.1.length≤9223372036854775807 by omega),Zhi,Zai hi,Znq]
   cases hc: (n.2.2.1[i]).2.2.2.2.2.2.1 with
   |true=>simp only[cond_true,if_true,List.append_nil]
   |false=>
    simp only[cond_false,Bool.false_eq_true,if_false]
    rw[Zop (hS.many _ hx).2 (by have:=(hS.many _ hx).1;omega) (by omega)]
    rfl
  ·rintro s rfl
   refine⟨_, ?_,rfl⟩
   simp only[ZaI,cond_false]
  ·rintro _ rfl
   unfold F106
   rw[g1]
   rfl
theorem Zpg {ys:List ZcS} (hs:ys.Pairwise ltC) {i j:Nat} (hij:i<j) (hj:j<ys.length):ltC (ys[i]'(by omega)) ys[j]:=List.pairwise_iff_getElem.1 hs i j (by omega) hj hij
theorem Zsg {α:Type} {l:List α} {i:Nat} (h:i<l.length):idx l (i:Int)=some l[i]:=Zag h
theorem Zqq (n:Nat) (p:Nat→Bool) (h: ∀i j,i<j→j<n→p j=true→p i=true): ∃k,k≤n∧ ∀i,i<n→(p i=true↔i<k):=by
 induction n with
 |zero=>exact⟨0,Nat.le_refl _,fun i hi=>by omega⟩
 |succ n ih=>
  obtain⟨k,hk,h1⟩:=ih fun i j hij hj=>h i j hij (by omega)
  cases hp:p n with
  |true=>
   refine⟨n+1,Nat.le_refl _,fun i hi=>⟨fun _=>hi,fun _=> ?_⟩⟩
   by_cases e:i=n
   ·subst e;exact hp
   ·exact h i n (by omega) (by omega) hp
  |false=>
   refine⟨k,by omega,fun i hi=> ?_⟩
   by_cases e:i=n
   ·subst e;rw[hp];constructor
    ·intro h;exact absurd h (by decide)
    ·intro h;omega
   ·exact h1 i (by omega)
def Zhv (l:List ZcS) (i:Nat):Int:=((l[i]?).getD (0,0,0,0,0,0,())).2.2.2.2.1
theorem ZlK {ys:List ZcS} (hs:ys.Pairwise ltC) {i j:Nat} (hij:i<j) (hj:j<ys.length):Zhv ys i≤Zhv ys j:=by
 have h:=Zpg hs hij hj
 unfold Zhv
 rw[Zai hj,Zai (show i<ys.length by omega)]
 unfold ltC at h
 omega
theorem ZpL {lo hi:Nat} (h:lo<hi) (hn:hi≤1000000):IntKind.wrap .i64 (Int.tdiv (IntKind.wrap .i64 ((lo:Int)+(hi:Int))) (2:Int))=((lo+(hi - lo) / 2:Nat):Int):=by
 have e1:IntKind.wrap .i64 ((lo:Int)+(hi:Int))=((lo+hi:Nat):Int):=by rw[Zaq (by omega) (by omega)];omega
 rw[e1,Int.tdiv_eq_ediv_of_nonneg (by omega),Zaq (by omega) (by omega)]
 omega
theorem ZnQ {ys:List ZcS} (hs:ys.Pairwise ltC) (hl:ys.length≤1000000) (t:Int): ∃k,k≤ys.length∧F7 ys t=some (k:Int)∧ ∀i,i<ys.length→(Zhv ys i≤t↔i<k):=by
 obtain⟨k,hk,h1⟩:=Zqq ys.length (fun i=>decide (Zhv ys i≤t)) fun i j hij hj hp=>by
  have:=ZlK hs hij hj
  simp only[decide_eq_true_eq] at hp ⊢
  omega
 simp only[decide_eq_true_eq] at h1
 refine⟨k,hk, ?_,h1⟩
 unfold F7 F9
 simp only
 rw[ZqR hk]
 ·rfl
 ·intro lo hi hlt hhi
  have hm:lo+(hi - lo) / 2<ys.length:=by omega
  have hd:=h1 _ hm
  unfold Zhv at hd
  rw[Zai hm] at hd
  simp only[decide_eq_true (show (lo:Int)< (hi:Int) by omega),cond_true,ZpL hlt (by omega),F8,Zsg hm,bind_some]
  by_cases hc:lo+(hi - lo) / 2<k
  ·rw[if_pos hc,decide_eq_false (Int.not_lt.2 (hd.2 hc))]
   simp only[cond_false]
   rw[Zan hm (by omega)]
  ·rw[if_neg hc,decide_eq_true (Int.not_le.1 (mt hd.1 hc))]
   rfl
 ·intro lo
  simp only[ZaI,cond_false]
theorem Zrs {n:ZaJ} {i m:Nat} (hi:i<n.2.2.1.length) (hm:m+1< (Zaz n i).length) (hc:ZbN n i=false):Zhs i (Zaz n i) m∈ZhB n n.2.2.1.length:=by
 unfold ZhB
 refine List.mem_flatMap.2 ⟨i,List.mem_range.2 hi, ?_⟩
 rw[Zai hi]
 have e:Zaz n i=(n.2.2.1[i]).2.2.2.2.2.2.2.1:=Zbf hi
 have hc' : (n.2.2.1[i]).2.2.2.2.2.2.1=false:=by
  unfold ZbN rn at hc
  rw[Int.toNat_natCast,Zai hi] at hc
  exact hc
 unfold Znq
 rw[if_neg (by rw[hc'];simp), ←e]
 unfold ZkY
 refine List.mem_map.2 ⟨m,List.mem_range.2 (by omega),rfl⟩
end Q
namespace Q
open Tr Go
open Option (bind_some)
abbrev Zd5:=Int×Int×Int×Int×Int×Unit
abbrev Zkc:=Int×Int×Bool×Unit
abbrev ScT:=ZaJ×Zbp×List ZoO×List Zd5×List Zkc×List (List Int) ×Bool×Unit
structure Ctx (n:ZaJ) (s0 t0 w:Int):Prop where
 net:ZdV n
 stop:0≤s0∧s0< (n.1.length:Int)
 time:0≤t0∧t0≤3155932800
 wait:0≤w∧w≤3600
variable {n:ZaJ} {s0 t0 w:Int}
theorem Ctx.ok (C:Ctx n s0 t0 w) {f:ZoQ} {js:List Zbb} (d:Der n s0 t0 w f js):f.ok n:=d.ok C.net C.stop C.time C.wait
def ZbR (old new:Int):Bool:=decide (old= -1) ||decide (new<old)
theorem ZfH (old new:Int): (bif decide (old=(-1:Int)) then some true else some (decide (new<old)))=some (ZbR old new):=by
 unfold ZbR
 cases decide (old=(-1:Int))<;>rfl
theorem ZbP {a b:Int} :ZbR a b=true↔a= -1∨b<a:=by
 unfold ZbR
 rw[Bool.or_eq_true,decide_eq_true_eq,decide_eq_true_eq]
theorem Zlh {a b:Int} (h:ZbR a b=false):a≠ -1∧a≤b:=by
 have: ¬ (a= -1∨b<a):=fun e=>by rw[ZbP.2 e] at h;cases h
 omega
theorem Zsr {a b t:Int} (hb:0≤b) (h:a≠ -1∧a≤t): (bif ZbR a b then b else a)≠ -1∧(bif ZbR a b then b else a)≤t:=by
 cases hl:ZbR a b with
 |false=>exact h
 |true=>
  have:=ZbP.1 hl
  simp only[cond_true]
  omega
theorem ZqS {a b:Int} (hb:0≤b): (bif ZbR a b then b else a)≠ -1∧(bif ZbR a b then b else a)≤b:=by
 cases hl:ZbR a b with
 |true=>simp only[cond_true];omega
 |false=>simp only[cond_false];exact Zlh hl
theorem Zem {α:Type} {l:List α} {i:Nat} {p:α} (h:l[i]? =some p) (g:α→α): (l.modify i g)[i]? =some (g p):=by
 rw[List.getElem?_modify,h];simp
theorem Zfy {α:Type} {l:List α} {i j:Nat} (e:i≠j) (g:α→α): (l.modify i g)[j]? =l[j]? :=by
 rw[List.getElem?_modify];simp [e]
theorem ZeZ {α:Type} {l:List α} {i j:Nat} {g:α→α} {q:α} (h: (l.modify i g)[j]? =some q): ∃p,l[j]? =some p∧(i=j∧q=g p∨i≠j∧q=p):=by
 by_cases e:i=j
 ·subst e
  cases hp:l[i]? with
  |none=>rw[List.getElem?_modify,hp] at h;simp at h
  |some p=>rw[Zem hp] at h;cases h;exact⟨p,rfl, .inl ⟨rfl,rfl⟩⟩
 ·rw[Zfy e] at h
  exact⟨q,h, .inr ⟨e,rfl⟩⟩
theorem Zez {α:Type} {l:List α} {i:Nat} (h:i<l.length) (g:α→α):l.modify i g=l.set i (g l[i]):=by
 apply List.ext_getElem?
 intro j
 rw[List.getElem?_modify,List.getElem?_set]
 by_cases hj:i=j
 ·subst hj
  rw[List.getElem?_eq_getElem h]
  simp [h]
 ·simp [hj]
theorem ZlN {α:Type} {l:List α} {i j:Nat} {x y:α} (h: (l.set i x)[j]? =some y): (i=j∧y=x)∨l[j]? =some y:=by
 rw[List.getElem?_set] at h
 by_cases e:i=j
 ·rw[if_pos e] at h
  split at h
  ·exact .inl ⟨e,by simpa using h.symm⟩
  ·exact absurd h (by simp)
 ·rw[if_neg e] at h;exact .inr h
structure SP (D:ZoQ→List Zbb→Prop) (lb:List ZoO) (s:Int) (p:Zd5):Prop where
 arr:p.1≠ -1→ ∃k js,Ch lb p.2.2.2.1 js∧D (.arr k s p.1) js
 rid:p.2.1≠ -1→ ∃k js,D (.rid k s p.2.1) js
 rdy:p.2.2.1≠ -1→ ∃k js,Ch lb p.2.2.2.2.1 js∧D (.rdy k s p.2.2.1) js
def SB (D:ZoQ→List Zbb→Prop) (lb:List ZoO) (i:Nat) (b:Zkc):Prop:=b.1≠ -1→ ∃k, ∃c:Nat,b.1=(c:Int)∧ ∃js,Ch lb b.2.1 js∧D (.brd k i c b.2.2.1) js
structure Snd (D:ZoQ→List Zbb→Prop) (f:ScT):Prop where
 pls: ∀ (s:Nat) p,f.2.2.2.1[s]? =some p→SP D f.2.2.1 (s:Int) p
 brd: ∀ (i:Nat) b,f.2.2.2.2.1[i]? =some b→SB D f.2.2.1 i b
variable {D:ZoQ→List Zbb→Prop} {lb:List ZoO}
theorem SP.app {s:Int} {p:Zd5} (h:SP D lb s p) (m:List ZoO):SP D (lb++m) s p:=
 ⟨fun e=>let ⟨k,js,b,c⟩:=h.arr e;⟨k,js,b.app m,c⟩,h.rid,fun e=>let ⟨k,js,b,c⟩:=h.rdy e;⟨k,js,b.app m,c⟩⟩
theorem SB.app {i:Nat} {b:Zkc} (h:SB D lb i b) (m:List ZoO):SB D (lb++m) i b:=
 fun e=>let ⟨k,c,e1,js,b,d⟩:=h e;⟨k,c,e1,js,b.app m,d⟩
def LeA (l:List Zd5) (s:Nat) (t:Int):Prop:= ∃p,l[s]? =some p∧p.1≠ -1∧p.1≤t
def LeR (l:List Zd5) (s:Nat) (t:Int):Prop:= ∃p,l[s]? =some p∧p.2.1≠ -1∧p.2.1≤t
def LeY (l:List Zd5) (s:Nat) (t:Int):Prop:= ∃p,l[s]? =some p∧p.2.2.1≠ -1∧p.2.2.1≤t
def LeB (l:List Zkc) (i:Nat) (d:Int):Prop:= ∃b,l[i]? =some b∧b.1≠ -1∧b.1≤d
theorem LeA.weak {l:List Zd5} {s:Nat} {t u:Int} (h:LeA l s t) (e:t≤u):LeA l s u:=let ⟨p,a,b,c⟩:=h;⟨p,a,b,Int.le_trans c e⟩
theorem LeR.weak {l:List Zd5} {s:Nat} {t u:Int} (h:LeR l s t) (e:t≤u):LeR l s u:=let ⟨p,a,b,c⟩:=h;⟨p,a,b,Int.le_trans c e⟩
theorem LeY.weak {l:List Zd5} {s:Nat} {t u:Int} (h:LeY l s t) (e:t≤u):LeY l s u:=let ⟨p,a,b,c⟩:=h;⟨p,a,b,Int.le_trans c e⟩
def Zi9 (V:List Int) (x:Int):Nat:=V.countP fun v=>ZbR x v
theorem ZoM (V:List Int) (x:Int):Zi9 V x≤V.length:=List.countP_le_length
theorem Zn1 {V:List Int} {x a:Int} (ha:0≤a) (hV:a∈V) (hl:ZbR x a=true):Zi9 V a<Zi9 V x:=by
 unfold Zi9
 induction V with
 |nil=>cases hV
 |cons v V ih=>
  have hm:V.countP (fun v=>ZbR a v)≤V.countP (fun v=>ZbR x v):=List.countP_mono_left fun u _ hu=>by
   have h1:=ZbP.1 hu
   have h2:=ZbP.1 hl
   exact ZbP.2 (by omega)
  rw[List.countP_cons,List.countP_cons]
  have h1:ZbR a a=false:=by
   cases e:ZbR a a with
   |false=>rfl
   |true=>have:=ZbP.1 e;omega
  rcases List.mem_cons.1 hV with rfl|hV
  ·rw[h1,hl]
   simp only[Bool.false_eq_true,if_false,if_true]
   omega
  ·have h3:=ih hV
   have h4:ZbR a v=true→ZbR x v=true:=fun e=>by
    have h1:=ZbP.1 e
    have h2:=ZbP.1 hl
    exact ZbP.2 (by omega)
   cases e:ZbR a v with
   |true=>rw[h4 e];simp only[if_true];omega
   |false=>simp only[Bool.false_eq_true,if_false];omega
def Zr5 (b:Zkc):Nat:=if b.1= -1 then 40 else b.1.toNat
def Zja (V:List Int) (l:List Zd5):Nat:=(l.map fun p=>Zi9 V p.1+Zi9 V p.2.2.1).sum
def Zky (l:List Zkc):Nat:=(l.map Zr5).sum
def pot (V:List Int) (f:ScT):Nat:=Zja V f.2.2.2.1+Zky f.2.2.2.2.1
theorem ZiU {α:Type} (g:α→Nat): ∀ {l:List α} {i:Nat} (hi:i<l.length) (x:α),((l.set i x).map g).sum+g l[i]=(l.map g).sum+g x
 | [],_,hi,_=>absurd hi (by simp)
 |a::l,0,_,x=>by simp;omega
 |a::l,i+1,hi,x=>by
  have:=ZiU g (l:=l) (i:=i) (by simpa using hi) x
  simp only[List.set_cons_succ,List.map_cons,List.sum_cons,List.getElem_cons_succ]
  omega
structure ZpB (f g:ScT):Prop where
 arr: ∀s t,LeA g.2.2.2.1 s t→LeA f.2.2.2.1 s t
 rdy: ∀s t,LeY g.2.2.2.1 s t→LeY f.2.2.2.1 s t
 brd: ∀i d,LeB g.2.2.2.2.1 i d→LeB f.2.2.2.2.1 i d
structure Stp (n:ZaJ) (V:List Int) (T:Int) (f g:ScT):Prop where
 net:g.1=f.1
 qry:g.2.1=f.2.1
 lab: ∃m,g.2.2.1=f.2.2.1++m
 pl:g.2.2.2.1.length=f.2.2.2.1.length
 rl:g.2.2.2.2.1.length=f.2.2.2.2.1.length
 lks:g.2.2.2.2.2.1=f.2.2.2.2.2.1
 arr: ∀s t,LeA f.2.2.2.1 s t→LeA g.2.2.2.1 s t
 rid: ∀s t,LeR f.2.2.2.1 s t→LeR g.2.2.2.1 s t
 rdy: ∀s t,LeY f.2.2.2.1 s t→LeY g.2.2.2.1 s t
 brd: ∀i d,LeB f.2.2.2.2.1 i d→LeB g.2.2.2.2.1 i d
 mvd:f.2.2.2.2.2.2.1=true→g.2.2.2.2.2.2.1=true
 same:g.2.2.2.2.2.2.1=true∨ZpB f g
 late: ∀s t,t<T→LeY g.2.2.2.1 s t→LeY f.2.2.2.1 s t
 lateB: ∀ (i m:Nat),i<n.2.2.1.length→m< (Zaz n i).length→(Zac n i m).2.2.1<T→LeB g.2.2.2.2.1 i (m:Int)→LeB f.2.2.2.2.1 i (m:Int)
 pot:pot V g≤pot V f
 fall:f.2.2.2.2.2.2.1=false→g.2.2.2.2.2.2.1=true→Q.pot V g<Q.pot V f
variable {V:List Int} {T:Int}
theorem ZpB.refl (f:ScT):ZpB f f:=⟨fun _ _ h=>h,fun _ _ h=>h,fun _ _ h=>h⟩
theorem ZpB.trans {f g h:ScT} (x:ZpB f g) (y:ZpB g h):ZpB f h:=⟨fun s t e=>x.arr s t (y.arr s t e),fun s t e=>x.rdy s t (y.rdy s t e),fun s t e=>x.brd s t (y.brd s t e)⟩
theorem Stp.refl (f:ScT):Stp n V T f f:=
 ⟨rfl,rfl,⟨[],by simp⟩,rfl,rfl,rfl,fun _ _ h=>h,fun _ _ h=>h,fun _ _ h=>h,fun _ _ h=>h,fun h=>h, .inr (ZpB.refl f),fun _ _ _ h=>h,fun _ _ _ _ _ h=>h,Nat.le_refl _,fun a b=>by rw[a] at b;cases b⟩
theorem Stp.trans {f g h:ScT} (x:Stp n V T f g) (y:Stp n V T g h):Stp n V T f h:=by
 obtain⟨m,hm⟩:=x.lab
 obtain⟨m',hm'⟩:=y.lab
 refine⟨y.net.trans x.net,y.qry.trans x.qry,⟨m++m',by rw[hm',hm,List.append_assoc]⟩,y.pl.trans x.pl,y.rl.trans x.rl,y.lks.trans x.lks,fun s t h=>y.arr s t (x.arr s t h),fun s t h=>y.rid s t (x.rid s t h),fun s t h=>y.rdy s t (x.rdy s t h),fun s t h=>y.brd s t (x.brd s t h),fun e=>y.mvd (x.mvd e), ?_,
  fun s t a b=>x.late s t a (y.late s t a b),fun i m a b c d=>x.lateB i m a b c (y.lateB i m a b c d),Nat.le_trans y.pot x.pot,fun a b=> ?_⟩
 ·rcases y.same with e|e
  ·exact .inl e
  ·rcases x.same with e' |e'
   ·exact .inl (y.mvd e')
   ·exact .inr (e'.trans e)
 ·cases hg:g.2.2.2.2.2.2.1 with
  |true=>exact Nat.lt_of_le_of_lt y.pot (x.fall a hg)
  |false=>exact Nat.lt_of_lt_of_le (y.fall hg b) x.pot
theorem Stp.ch {f g:ScT} (h:Stp n V T f g) {l:Int} {js:List Zbb} (c:Ch f.2.2.1 l js):Ch g.2.2.1 l js:=by
 obtain⟨m,hm⟩:=h.lab
 rw[hm];exact c.app m
def Zno (f:ScT) (x:Zbb) (prev:Int):ScT:=(f.1,f.2.1,f.2.2.1++[(x,prev,())],f.2.2.2)
theorem ZnK (f:ScT) (hl:f.2.2.1.length<4000000000) (x:Zbb) (prev:Int):F91 f x prev=some (Zno f x prev,(f.2.2.1.length:Int)):=by
 unfold F91 Zno
 rw[Zbn (by simp;omega)]
 have e:IntKind.wrap .i64 (((f.2.2.1++[(x,prev,())]).length:Int) - 1)=(f.2.2.1.length:Int):=by
  rw[List.length_append]
  simp only[List.length_cons,List.length_nil]
  rw[Zaq (by omega) (by omega)];omega
 rw[e]
 rfl
theorem Zkt (f:ScT) (x:Zbb) (p:Int):Stp n V T f (Zno f x p):=
 ⟨rfl,rfl,⟨[(x,p,())],rfl⟩,rfl,rfl,rfl,fun _ _ h=>h,fun _ _ h=>h,fun _ _ h=>h,fun _ _ h=>h,fun h=>h, .inr ⟨fun _ _ h=>h,fun _ _ h=>h,fun _ _ h=>h⟩,fun _ _ _ h=>h,fun _ _ _ _ _ h=>h,Nat.le_refl _,fun a b=>by
  have b' :f.2.2.2.2.2.2.1=true:=b
  rw[a] at b';cases b'⟩
theorem Snd.add {f:ScT} (h:Snd D f) (x:Zbb) (p:Int):Snd D (Zno f x p):=
 ⟨fun s q hq=>(h.pls s q hq).app _,fun i b hb=>(h.brd i b hb).app _⟩
def Zsa (p:Zd5) (a l:Int):Zd5:=bif ZbR p.1 a then(a,p.2.1,p.2.2.1,l,p.2.2.2.2) else p
def Zr0 (p:Zd5) (r l:Int):Zd5:=bif ZbR p.2.2.1 r then(p.1,p.2.1,r,p.2.2.2.1,l,p.2.2.2.2.2) else p
def Znn (p:Zd5) (a r l:Int):Zd5:=Zr0 (Zsa p a l) r l
def Zi7 (f:ScT) (i:Nat) (a r l:Int):ScT:=(f.1,f.2.1,f.2.2.1,f.2.2.2.1.modify i fun p=>Znn p a r l,f.2.2.2.2.1,f.2.2.2.2.2.1,
 (ZbR ((f.2.2.2.1[i]?).getD (0,0,0,0,0,())).1 a||ZbR ((f.2.2.2.1[i]?).getD (0,0,0,0,0,())).2.2.1 r) ||f.2.2.2.2.2.2.1,())
theorem Zgr (p:Zd5) (a r l:Int): (Znn p a r l).1=bif ZbR p.1 a then a else p.1:=by
 unfold Znn Zr0 Zsa
 cases ZbR p.1 a<;>simp only[cond_true,cond_false]<;>cases ZbR p.2.2.1 r<;>rfl
theorem Zfj (p:Zd5) (a r l:Int): (Znn p a r l).2.2.1=bif ZbR p.2.2.1 r then r else p.2.2.1:=by
 unfold Znn Zr0 Zsa
 cases ZbR p.1 a<;>simp only[cond_true,cond_false]<;>cases ZbR p.2.2.1 r<;>rfl
theorem ZjB (p:Zd5) (a r l:Int): (Znn p a r l).2.1=p.2.1:=by
 unfold Znn Zr0 Zsa
 cases ZbR p.1 a<;>simp only[cond_true,cond_false]<;>cases ZbR p.2.2.1 r<;>rfl
theorem Ze0 (f:ScT) {i:Nat} (hi:i<f.2.2.2.1.length) (a r l:Int):F94 f (i:Int) a r l=some (Zi7 f i a r l):=by
 unfold F94 Zi7
 rw[Zez hi]
 obtain⟨n,q,lb,pl,rn,lk,mv,u⟩:=f
 simp only at hi
 simp only[ZaX hi,bind_some,List.getElem?_eq_getElem hi,Option.getD_some]
 generalize hp:pl[i]=p
 rw[ZfH]
 simp only[bind_some]
 unfold Znn Zsa
 cases hl:ZbR p.1 a with
 |true=>
  simp only[cond_true,List.set_set,List.getElem?_set_self hi,bind_some]
  rw[ZfH]
  simp only[bind_some]
  unfold Zr0
  simp only
  cases ZbR p.2.2.1 r with
  |true=>simp only[cond_true,Bool.true_or]
  |false=>simp only[cond_false,Bool.true_or]
 |false=>
  simp only[cond_false]
  rw[ZfH]
  simp only[bind_some]
  unfold Zr0
  cases ZbR p.2.2.1 r with
  |true=>simp only[cond_true,List.getElem?_set_self hi,bind_some,List.set_set,Bool.or_true,Bool.true_or]
  |false=>
   simp only[cond_false,Bool.false_or]
   rw[←hp,List.set_getElem_self]
theorem Zd7 {P:Zd5→Prop} {l:List Zd5} {i s:Nat} {g:Zd5→Zd5} (hg: ∀p,P p→P (g p)) (h: ∃p,l[s]? =some p∧P p): ∃p,(l.modify i g)[s]? =some p∧P p:=by
 obtain⟨p,h1,h2⟩:=h
 by_cases e:i=s
 ·subst e;exact⟨g p,Zem h1 g,hg p h2⟩
 ·exact⟨p,(Zfy e g).trans h1,h2⟩
theorem Zcd {P:Zd5→Prop} {l:List Zd5} {i s:Nat} {g:Zd5→Zd5} (hg: ∀p,l[i]? =some p→P (g p)→P p) (h: ∃p,(l.modify i g)[s]? =some p∧P p): ∃p,l[s]? =some p∧P p:=by
 obtain⟨q,h1,h2⟩:=h
 obtain⟨p,hp,⟨rfl,rfl⟩ | ⟨_,rfl⟩⟩:=ZeZ h1
 ·exact⟨p,hp,hg p hp h2⟩
 ·exact⟨_,hp,h2⟩
theorem Zq1 {a x:Int} (ha:0≤a) (hV:a∈V):Zi9 V (bif ZbR x a then a else x)≤Zi9 V x∧(ZbR x a=true→Zi9 V (bif ZbR x a then a else x)<Zi9 V x):=by
 cases hl:ZbR x a with
 |true=>simp only[cond_true];exact⟨Nat.le_of_lt (Zn1 ha hV hl),fun _=>Zn1 ha hV hl⟩
 |false=>exact⟨Nat.le_refl _,fun e=>nomatch e⟩
theorem Zik (f:ScT) {i:Nat} (hi:i<f.2.2.2.1.length) {a r:Int} (ha:0≤a) (hr:0≤r) (hT:T≤r) (hVa:a∈V) (hVr:r∈V) (l:Int):Stp n V T f (Zi7 f i a r l):=by
 have hg: (f.2.2.2.1[i]?).getD (0,0,0,0,0,())=f.2.2.2.1[i]:=Zai hi _
 have hpp:Zja V (Zi7 f i a r l).2.2.2.1+(Zi9 V (f.2.2.2.1[i]).1+Zi9 V (f.2.2.2.1[i]).2.2.1)=Zja V f.2.2.2.1+(Zi9 V (bif ZbR (f.2.2.2.1[i]).1 a then a else(f.2.2.2.1[i]).1)+Zi9 V (bif ZbR (f.2.2.2.1[i]).2.2.1 r then r else(f.2.2.2.1[i]).2.2.1)):=by
  have:=ZiU (fun p:Zd5=>Zi9 V p.1+Zi9 V p.2.2.1) hi (Znn f.2.2.2.1[i] a r l)
  simp only[Zgr,Zfj] at this
  unfold Zja Zi7
  rw[Zez hi]
  exact this
 have c1:=Zq1 (x:=(f.2.2.2.1[i]).1) ha hVa
 have c2:=Zq1 (x:=(f.2.2.2.1[i]).2.2.1) hr hVr
 refine⟨rfl,rfl,⟨[],by simp [Zi7]⟩,by simp [Zi7],rfl,rfl,fun s t h=> ?_,fun s t h=> ?_,fun s t h=> ?_,fun _ _ h=>h,fun h=> ?_, ?_,fun s t ht h=> ?_,fun _ _ _ _ _ h=>h, ?_,fun h1 h2=> ?_⟩
 ·refine Zd7 (P:=fun p=>p.1≠ -1∧p.1≤t) (fun p hp=> ?_) h
  rw[Zgr];exact Zsr ha hp
 ·refine Zd7 (P:=fun p=>p.2.1≠ -1∧p.2.1≤t) (fun p hp=> ?_) h
  rw[ZjB];exact hp
 ·refine Zd7 (P:=fun p=>p.2.2.1≠ -1∧p.2.2.1≤t) (fun p hp=> ?_) h
  rw[Zfj];exact Zsr hr hp
 ·show (_||f.2.2.2.2.2.2.1)=true
  rw[h,Bool.or_true]
 ·show ((ZbR ((f.2.2.2.1[i]?).getD (0,0,0,0,0,())).1 a||ZbR ((f.2.2.2.1[i]?).getD (0,0,0,0,0,())).2.2.1 r) ||f.2.2.2.2.2.2.1)=true∨_
  rw[hg]
  cases h1:ZbR (f.2.2.2.1[i]).1 a with
  |true=>exact .inl rfl
  |false=>
   cases h2:ZbR (f.2.2.2.1[i]).2.2.1 r with
   |true=>exact .inl rfl
   |false=>
    right
    refine⟨fun s t h=> ?_,fun s t h=> ?_,fun _ _ h=>h⟩
    ·refine Zcd (P:=fun p=>p.1≠ -1∧p.1≤t) (fun p hp hq=> ?_) h
     rw[List.getElem?_eq_getElem hi] at hp
     cases hp
     rw[Zgr,h1] at hq
     exact hq
    ·refine Zcd (P:=fun p=>p.2.2.1≠ -1∧p.2.2.1≤t) (fun p hp hq=> ?_) h
     rw[List.getElem?_eq_getElem hi] at hp
     cases hp
     rw[Zfj,h2] at hq
     exact hq
 ·refine Zcd (P:=fun p=>p.2.2.1≠ -1∧p.2.2.1≤t) (fun p hp hq=> ?_) h
  rw[Zfj] at hq
  cases hl:ZbR p.2.2.1 r with
  |false=>rw[hl] at hq;exact hq
  |true=>rw[hl] at hq;simp only[cond_true] at hq;omega
 ·show Zja V (Zi7 f i a r l).2.2.2.1+Zky f.2.2.2.2.1≤Zja V f.2.2.2.1+Zky f.2.2.2.2.1
  omega
 ·have h2' : ((ZbR ((f.2.2.2.1[i]?).getD (0,0,0,0,0,())).1 a||ZbR ((f.2.2.2.1[i]?).getD (0,0,0,0,0,())).2.2.1 r) ||f.2.2.2.2.2.2.1)=true:=h2
  rw[hg,h1,Bool.or_false,Bool.or_eq_true] at h2'
  show Zja V (Zi7 f i a r l).2.2.2.1+Zky f.2.2.2.2.1<Zja V f.2.2.2.1+Zky f.2.2.2.2.1
  rcases h2' with h|h
  ·have:=c1.2 h
   omega
  ·have:=c2.2 h
   omega
theorem Zk8 {f:ScT} {i:Nat} (hi:i<f.2.2.2.1.length) {a r:Int} (ha:0≤a) (hr:0≤r) (l:Int):LeA (Zi7 f i a r l).2.2.2.1 i a∧LeY (Zi7 f i a r l).2.2.2.1 i r:=by
 have e: (Zi7 f i a r l).2.2.2.1[i]? =some (Znn f.2.2.2.1[i] a r l):=Zem (List.getElem?_eq_getElem hi) _
 exact⟨⟨_,e,by rw[Zgr];exact ZqS ha⟩,⟨_,e,by rw[Zfj];exact ZqS hr⟩⟩
theorem SP.imp {s:Int} {p:Zd5} (h:SP D lb s p) {a r l:Int} (ha: ∃k js,Ch lb l js∧D (.arr k s a) js) (hr: ∃k js,Ch lb l js∧D (.rdy k s r) js):SP D lb s (Znn p a r l):=by
 obtain⟨h1,h2,h3⟩:=h
 unfold Znn Zr0 Zsa
 cases ZbR p.1 a<;>simp only[cond_true,cond_false]<;>cases ZbR p.2.2.1 r<;>simp only[cond_true,cond_false]
 ·exact⟨h1,h2,h3⟩
 ·exact⟨h1,h2,fun _=>hr⟩
 ·exact⟨fun _=>ha,h2,h3⟩
 ·exact⟨fun _=>ha,h2,fun _=>hr⟩
theorem Snd.imp {f:ScT} (h:Snd D f) {i:Nat} {a r l:Int} (ha: ∃k js,Ch f.2.2.1 l js∧D (.arr k (i:Int) a) js) (hr: ∃k js,Ch f.2.2.1 l js∧D (.rdy k (i:Int) r) js):Snd D (Zi7 f i a r l):=by
 refine⟨fun s q hq=> ?_,h.brd⟩
 obtain⟨p,hp,⟨rfl,rfl⟩ | ⟨_,rfl⟩⟩:=ZeZ hq
 ·exact(h.pls i p hp).imp ha hr
 ·exact h.pls s _ hp
def Zc6 (f:ScT) (i:Nat) (b:Zkc):ScT:=
 bif !(rn f.1 (i:Int)).2.2.2.2.2.2.1&&ZbR ((f.2.2.2.2.1[i]?).getD (0,0,false,())).1 b.1 then(f.1,f.2.1,f.2.2.1,f.2.2.2.1,f.2.2.2.2.1.set i b,f.2.2.2.2.2.1,true,()) else f
theorem ZjQ (f:ScT) {i:Nat} (hi:i<f.1.2.2.1.length) (hr:f.2.2.2.2.1.length=f.1.2.2.1.length) (b:Zkc):F92 f (i:Int) b=some (Zc6 f i b):=by
 unfold F92 Zc6
 have hi' :i<f.2.2.2.2.1.length:=by omega
 have e:rn f.1 (i:Int)=f.1.2.2.1[i]:=by unfold rn;rw[Int.toNat_natCast,Zai hi]
 rw[e,Zai hi']
 simp only[Zag hi,bind_some,ZaX hi',List.getElem?_eq_getElem hi']
 cases (f.1.2.2.1[i]).2.2.2.2.2.2.1 with
 |true=>rfl
 |false=>
  simp only[Bool.not_false,cond_false,bind_some,Bool.true_and]
  unfold ZbR
  by_cases h1: (f.2.2.2.2.1[i]).1= -1
  ·rw[decide_eq_true h1];rfl
  ·rw[decide_eq_false h1]
   by_cases h2: (f.2.2.2.2.1[i]).1≤b.1
   ·rw[decide_eq_true h2,decide_eq_false (show¬b.1< (f.2.2.2.2.1[i]).1 by omega)];rfl
   ·rw[decide_eq_false h2,decide_eq_true (show b.1< (f.2.2.2.2.1[i]).1 by omega)];rfl
theorem Zse {l:List Zkc} {i:Nat} {b:Zkc} (h:ZbR ((l[i]?).getD (0,0,false,())).1 b.1=true) (hb:0≤b.1) {j:Nat} {d:Int} (hj:LeB l j d):LeB (l.set i b) j d:=by
 obtain⟨x,h1,h2,h3⟩:=hj
 by_cases e:i=j
 ·subst e
  have hi:=(List.getElem?_eq_some_iff.1 h1).1
  refine⟨b,List.getElem?_set_self hi, ?_⟩
  rw[h1] at h
  have:=ZbP.1 h
  simp only[Option.getD_some] at this
  omega
 ·exact⟨x,by rw[List.getElem?_set_ne e];exact h1,h2,h3⟩
theorem ZpY {l:List Zkc} {i:Nat} (hi:i<l.length) {b:Zkc} (h:ZbR ((l[i]?).getD (0,0,false,())).1 b.1=false):LeB l i b.1:=by
 rw[Zai hi] at h
 exact⟨l[i],List.getElem?_eq_getElem hi,Zlh h⟩
theorem ZjU (C:ZdV n) (f:ScT) {i c:Nat} (hi:i<n.2.2.1.length) (hir:i<f.2.2.2.2.1.length) (hc:c< (Zaz n i).length) (hT:T≤(Zac n i c).2.2.1) (prev:Int) (st:Bool):Stp n V T f (Zc6 f i ((c:Int),prev,st,())):=by
 unfold Zc6
 cases hg: (!(rn f.1 (i:Int)).2.2.2.2.2.2.1&&ZbR ((f.2.2.2.2.1[i]?).getD (0,0,false,())).1 (c:Int)) with
 |false=>exact Stp.refl f
 |true=>
  rw[Bool.and_eq_true] at hg
  have hl:=hg.2
  rw[Zai hir] at hl
  have hl' :=ZbP.1 hl
  have h0: (0:Int)≤(c:Int):=by omega
  have hs:=ZiU Zr5 hir ((c:Int),prev,st,())
  have hr:Zr5 ((c:Int),prev,st,())<Zr5 f.2.2.2.2.1[i]∨32<c:=by
   unfold Zr5
   simp only
   rw[if_neg (by omega)]
   by_cases e: (f.2.2.2.2.1[i]).1= -1
   ·rw[if_pos e];omega
   ·rw[if_neg e];omega
  have hcl:c<32:=by
   have:=(C.sound.many _ (List.getElem_mem hi)).2
   rw[Zbf hi] at hc
   omega
  have hpot:Zky (f.2.2.2.2.1.set i ((c:Int),prev,st,()))<Zky f.2.2.2.2.1:=by
   unfold Zky;omega
  refine⟨rfl,rfl,⟨[],by simp⟩,rfl,by simp,rfl,fun _ _ h=>h,fun _ _ h=>h,fun _ _ h=>h,fun j d h=>Zse hg.2 h0 h,fun _=>rfl, .inl rfl,fun _ _ _ h=>h,fun j m hj hm hd h=> ?_, ?_,fun _ _=> ?_⟩
  ·obtain⟨x,h1,h2,h3⟩:=h
   rcases ZlN h1 with ⟨rfl,rfl⟩ |h1
   ·exfalso
    have h3' : (c:Int)≤(m:Int):=h3
    have: (Zac n i c).2.2.1≤(Zac n i m).2.2.1:=by
     have ht:=C.sound.time _ (List.getElem_mem hi)
     have e:=Zbf hi
     have key: ∀k,c+k< (Zaz n i).length→(Zac n i c).2.2.1≤(Zac n i (c+k)).2.2.1:=by
      intro k
      induction k with
      |zero=>exact fun _=>Int.le_refl _
      |succ k ih=>
       intro hk
       have h1:=ih (by omega)
       rw[e] at hk
       have h2:=ht (c+(k+1)) hk
       have h3:=h2.2.2.2 (by omega)
       have h4:Zac n i (c+(k+1))=(n.2.2.1[i]).2.2.2.2.2.2.2.1[c+(k+1)]:=by
        unfold Zac cl
        rw[Int.toNat_natCast,e,Zai hk]
       have hk2:c+(k+1) - 1< (n.2.2.1[i]).2.2.2.2.2.2.2.1.length:=by omega
       have h5:Zac n i (c+k)=(n.2.2.1[i]).2.2.2.2.2.2.2.1[c+(k+1) - 1]:=by
        unfold Zac cl
        rw[Int.toNat_natCast,e,show c+k=c+(k+1) - 1 by omega,Zai hk2]
       rw[h4]
       rw[h5] at h1
       omega
     have:=key (m - c) (by omega)
     rw[show c+(m - c)=m by omega] at this
     exact this
    omega
   ·exact⟨x,h1,h2,h3⟩
  ·show Zja V f.2.2.2.1+Zky (f.2.2.2.2.1.set i ((c:Int),prev,st,()))≤Zja V f.2.2.2.1+Zky f.2.2.2.2.1
   omega
  ·show Zja V f.2.2.2.1+Zky (f.2.2.2.2.1.set i ((c:Int),prev,st,()))<Zja V f.2.2.2.1+Zky f.2.2.2.2.1
   omega
theorem ZjV {f:ScT} {i:Nat} (hi:i<f.2.2.2.2.1.length) {b:Zkc} (hb:0≤b.1) (hc: (rn f.1 (i:Int)).2.2.2.2.2.2.1=false):LeB (Zc6 f i b).2.2.2.2.1 i b.1:=by
 unfold Zc6
 rw[hc]
 cases hl:ZbR ((f.2.2.2.2.1[i]?).getD (0,0,false,())).1 b.1 with
 |false=>exact ZpY hi hl
 |true=>exact⟨b,List.getElem?_set_self hi,by omega,by omega⟩
theorem Snd.board {f:ScT} (h:Snd D f) {i:Nat} {b:Zkc} (hb: (rn f.1 (i:Int)).2.2.2.2.2.2.1=false→SB D f.2.2.1 i b):Snd D (Zc6 f i b):=by
 unfold Zc6
 cases hc: (rn f.1 (i:Int)).2.2.2.2.2.2.1 with
 |true=>exact h
 |false=>
  cases ZbR ((f.2.2.2.2.1[i]?).getD (0,0,false,())).1 b.1 with
  |false=>exact h
  |true=>
   refine⟨h.pls,fun j x hx=> ?_⟩
   rcases ZlN hx with ⟨rfl,rfl⟩ |hx
   ·exact hb hc
   ·exact h.brd j x hx
theorem ZhN (f:ScT) (i:Nat) (b:Zkc): (Zc6 f i b).2.2.1=f.2.2.1:=by unfold Zc6;cases (!(rn f.1 (i:Int)).2.2.2.2.2.2.1&&ZbR ((f.2.2.2.2.1[i]?).getD (0,0,false,())).1 b.1)<;>rfl
end Q
namespace Q
open Tr Go
open Option (bind_some)
variable {n:ZaJ} {s0 t0 w:Int} {V:List Int} {T:Int}
theorem bex {α β:Type} {o:Option α} {f:α→Option β} {Q:β→Prop} (P:α→Prop) (h: ∃r,o=some r∧P r) (k: ∀r,P r→ ∃s,f r=some s∧Q s): ∃s,Option.bind o f=some s∧Q s:=by
 obtain⟨r,rfl,hr⟩:=h
 exact k r hr
def p00:Zd5:=(0,0,0,0,0,())
def Zbt (f:ScT) (s:Nat):Int:=((f.2.2.2.1[s]?).getD p00).2.1
def Wlk (s t:Int) (l:List Zd5) (p:Zcl):Prop:=p.1=s→t+p.2.2.1≤3155932800→LeA l p.2.1.toNat (t+p.2.2.1)∧LeY l p.2.1.toNat (t+p.2.2.1)
theorem Wlk.mono {s t:Int} {g h:ScT} {p:Zcl} (y:Stp n V T g h) (z:Wlk s t g.2.2.2.1 p):Wlk s t h.2.2.2.1 p:=
 fun a b=>⟨y.arr _ _ (z a b).1,y.rdy _ _ (z a b).2⟩
theorem Wlk.weak {s t u:Int} {l:List Zd5} {p:Zcl} (h:t≤u) (z:Wlk s t l p):Wlk s u l p:=
 fun a b=>let ⟨x,y⟩:=z a (by omega);⟨x.weak (by omega),y.weak (by omega)⟩
theorem Zhc (f:ScT) (i:Nat) (a r l:Int) (j:Nat):Zbt (Zi7 f i a r l) j=Zbt f j:=by
 unfold Zbt Zi7
 simp only[List.getElem?_modify]
 cases f.2.2.2.1[j]? with
 |none=>rfl
 |some p=>
  by_cases e:i=j
  ·simp [e,ZjB]
  ·simp [e]
theorem Zpc (C:Ctx n s0 t0 w) {f:ScT} (hf:f.1=n) (hpl:f.2.2.2.1.length=n.1.length) (hp:n.2.2.2.2.1.length≤4096) {s t prev:Int} (ht:0≤t∧t≤3155932800) (hT:T≤t) (hV: ∀p∈n.2.2.2.2.1,t+p.2.2.1∈V)
  (hl:f.2.2.1.length+4096<4000000000) {js:List Zbb} {k:Nat} (hD: ∀p∈n.2.2.2.2.1,p.1=s→t+p.2.2.1≤3155932800→Der n s0 t0 w (.arr k p.2.1 (t+p.2.2.1)) (js++[ZgQ s p.2.1 t (t+p.2.2.1)])∧Der n s0 t0 w (.rdy k p.2.1 (t+p.2.2.1)) (js++[ZgQ s p.2.1 t (t+p.2.2.1)]))
  (h:Snd (Der n s0 t0 w) f) (hch:Ch f.2.2.1 prev js):
  ∃g,F97 f s t prev=some g∧Stp n V T f g∧Snd (Der n s0 t0 w) g∧(∀p∈n.2.2.2.2.1,Wlk s t g.2.2.2.1 p)∧g.2.2.1.length≤f.2.2.1.length+n.2.2.2.2.1.length∧(∀j,Zbt g j=Zbt f j):=by
 unfold F97
 rw[hf]
 refine bex (fun g=>Stp n V T f g∧Snd (Der n s0 t0 w) g∧(∀p∈n.2.2.2.2.1,Wlk s t g.2.2.2.1 p)∧g.2.2.1.length≤f.2.2.1.length+n.2.2.2.2.1.length∧(∀j,Zbt g j=Zbt f j)) ?_ (fun r hr=>⟨r,rfl,hr⟩)
 have hpn: ∀g:ScT,Stp n V T f g→g.1.2.2.2.2.1=n.2.2.2.2.1:=fun g hg=>by rw[hg.net,hf]
 refine ZbB n.2.2.2.2.1.length _ (fun i (st:ScT×Int)=>st.2=(i:Int)∧Stp n V T f st.1∧Snd (Der n s0 t0 w) st.1∧(∀p∈n.2.2.2.2.1.take i,Wlk s t st.1.2.2.2.1 p)∧st.1.2.2.1.length≤f.2.2.1.length+i∧(∀j,Zbt st.1 j=Zbt f j)) ?_ ?_ _ ⟨rfl,Stp.refl f,h,(by simp),by simp,fun _=>rfl⟩
 ·rintro i ⟨g,j⟩ hi ⟨hj,h1,h2,h3,h4,h5⟩
  simp only at hj h1 h2 h3 h4 h5
  subst hj
  left
  have hmem:=List.getElem_mem hi
  have hpo:=C.net.path _ hmem
  rw[List.take_succ_eq_append_getElem hi]
  have hDi:=hD _ hmem
  have hVi:=hV _ hmem
  simp only[ZaG hi,cond_true,Zag hi,bind_some,Zan hi (show _≤9223372036854775807 by omega)]
  generalize n.2.2.2.2.1[i]=p at*
  have w1:IntKind.wrap .i64 (t+p.2.2.1)=t+p.2.2.1:=Zaq (by omega) (by omega)
  simp only[w1]
  by_cases hc:p.1=s
  rotate_left
  ·rw[decide_eq_false hc]
   refine⟨_,rfl,rfl,h1,h2,fun q hq=> ?_,by simp only;omega,h5⟩
   rcases List.mem_append.1 hq with hq|hq
   ·exact h3 q hq
   ·simp only[List.mem_singleton] at hq;subst hq
    exact fun a=>absurd a hc
  by_cases hm:t+p.2.2.1≤3155932800
  rotate_left
  ·rw[decide_eq_true hc,decide_eq_false hm]
   refine⟨_,rfl,rfl,h1,h2,fun q hq=> ?_,by simp only;omega,h5⟩
   rcases List.mem_append.1 hq with hq|hq
   ·exact h3 q hq
   ·simp only[List.mem_singleton] at hq;subst hq
    exact fun _ b=>absurd b hm
  rw[decide_eq_true hc,decide_eq_true hm]
  simp only[cond_true,bind_some]
  rw[ZnK g (by omega)]
  simp only[bind_some]
  obtain⟨d1,d2⟩:=hDi hc hm
  obtain⟨y,hy⟩: ∃y:Nat,p.2.1=(y:Int):=⟨p.2.1.toNat,by omega⟩
  have hnew:=(h1.ch hch).new (ZgQ s p.2.1 t (t+p.2.2.1))
  rw[show ((false,0,0,0,s,p.2.1,t,t+p.2.2.1,false,()):Zbb)=ZgQ s p.2.1 t (t+p.2.2.1) from rfl]
  generalize ZgQ s p.2.1 t (t+p.2.2.1)=x at*
  rw[hy] at d1 d2
  have h0:0≤t+p.2.2.1:=by omega
  have hyl:y< (Zno g x prev).2.2.2.1.length:=by show y<g.2.2.2.1.length;rw[h1.pl];omega
  rw[hy,Ze0 _ hyl]
  have hst:=(h1.trans (Zkt g x prev)).trans (Zik (V:=V) (T:=T) (Zno g x prev) hyl h0 h0 (by omega) hVi hVi (g.2.2.1.length:Int))
  have hsn:=(h2.add x prev).imp (i:=y) ⟨k,_,hnew,d1⟩ ⟨k,_,hnew,d2⟩
  refine⟨_,rfl,rfl,hst,hsn,fun q hq=> ?_, ?_,fun j=> ?_⟩
  ·rcases List.mem_append.1 hq with hq|hq
   ·exact(h3 q hq).mono ((Zkt g x prev).trans (Zik (V:=V) (T:=T) (n:=n) (Zno g x prev) hyl h0 h0 (by omega) hVi hVi (g.2.2.1.length:Int)))
   ·simp only[List.mem_singleton] at hq;subst hq
    intro _ _
    rw[hy,Int.toNat_natCast]
    exact Zk8 hyl h0 h0 _
  ·show (g.2.2.1++[(x,prev,())]).length≤_
   simp only[List.length_append,List.length_cons,List.length_nil]
   omega
  ·show Zbt (Zi7 (Zno g x prev) y _ _ _) j=_
   rw[Zhc]
   exact h5 j
 ·rintro ⟨g,j⟩ ⟨hj,h1,h2,h3,h4,h5⟩
  simp only at hj h1 h2 h3 h4 h5
  subst hj
  rw[List.take_length] at h3
  simp only[ZaI,cond_false]
  exact⟨_,rfl,h1,h2,h3,h4,h5⟩
def lkI (n:ZaJ) (k:Int):Zje:=(n.2.2.2.1[k.toNat]?).getD (0,0,0,0,false,())
def Zru (n:ZaJ) (out:List (List Int)):Prop:=out.length=n.2.2.1.length∧ ∀ (i:Nat) ks,out[i]? =some ks→ks.length≤1024∧ ∀x:Int,x∈ks↔inR x n.2.2.2.1.length=true∧(lkI n x).1=(i:Int)
theorem Zoq {n:ZaJ} {x:Int} (h:inR x n.2.2.2.1.length=true):lkI n x∈n.2.2.2.1:=by
 rw[ZeW] at h
 have hl:x.toNat<n.2.2.2.1.length:=by omega
 unfold lkI
 rw[Zai hl]
 exact List.getElem_mem hl
theorem Zl9 {i c j d:Nat} {st:Bool} (h:isLink n i c j d st): ∃x:Int,inR x n.2.2.2.1.length=true∧lkI n x=((i:Int),(c:Int),(j:Int),(d:Int),st,()):=by
 obtain⟨k,hk,e⟩:=List.getElem_of_mem h
 refine⟨(k:Int),Zo4.2 hk, ?_⟩
 unfold lkI;rw[Int.toNat_natCast,Zai hk,e]
def ZsH (n:ZaJ) (i c:Nat) (g:ScT):Prop:= ∀ (j d:Nat) (st:Bool),isLink n i c j d st→(Zac n i c).2.1≤(Zac n j d).2.2.1→
 (st=true∨(Zac n i c).2.2.2.2.1=true∧(Zac n j d).2.2.2.1=true)→ZbN n j=false→LeB g.2.2.2.2.1 j (d:Int)
theorem ZsH.mono {i c:Nat} {g h:ScT} (y:Stp n V T g h) (z:ZsH n i c g):ZsH n i c h:=fun j d st a b c e=>y.brd _ _ (z j d st a b c e)
theorem Ztt {α:Type} {l:List α} {x:Int} {d:α} (h:inR x l.length=true):idx l x=some ((l[x.toNat]?).getD d):=Zbk h d
theorem Zpo (C:Ctx n s0 t0 w) {f:ScT} (hf:f.1=n) (hrl:f.2.2.2.2.1.length=n.2.2.1.length) (ho:Zru n f.2.2.2.2.2.1) (h:Snd (Der n s0 t0 w) f) {k i c:Nat} {l:Int} {js:List Zbb} (hl:Ch f.2.2.1 l js) (hd:Der n s0 t0 w (.on k i c) js) (hT:T≤(Zac n i c).2.1):
  ∃g,F93 f (i:Int) (c:Int) l (Zac n i c).2.2.2.2.1=some g∧Stp n V T f g∧Snd (Der n s0 t0 w) g∧ZsH n i c g∧g.2.2.1=f.2.2.1∧(∀j,Zbt g j=Zbt f j)∧g.2.2.2.1=f.2.2.2.1:=by
 obtain⟨_,hi,hc,_⟩:=C.ok hd
 unfold F93
 rw[hf]
 have hio:i<f.2.2.2.2.2.1.length:=by rw[ho.1];exact hi
 obtain⟨hkl,hks⟩:=ho.2 i _ (List.getElem?_eq_getElem hio)
 have e1:idx n.2.2.1 (i:Int)=some n.2.2.1[i]:=Zag hi
 have hcl: (n.2.2.1[i]).2.2.2.2.2.2.2.1=Zaz n i:=(Zbf hi).symm
 have e2:idx (Zaz n i) (c:Int)=some (Zac n i c):=by rw[Zag hc,Zcn hc]
 simp only[e1,bind_some,hcl,e2,Zag hio]
 generalize f.2.2.2.2.2.1[i]=ks at*
 refine bex (fun g=>Stp n V T f g∧Snd (Der n s0 t0 w) g∧(∀x∈ks, ∀ (j d:Nat) (st:Bool),lkI n x=((i:Int),(c:Int),(j:Int),(d:Int),st,())→(Zac n i c).2.1≤(Zac n j d).2.2.1→
  (st=true∨(Zac n i c).2.2.2.2.1=true∧(Zac n j d).2.2.2.1=true)→ZbN n j=false→LeB g.2.2.2.2.1 j (d:Int))∧g.2.2.1=f.2.2.1∧(∀j,Zbt g j=Zbt f j)∧g.2.2.2.1=f.2.2.2.1) ?_ (fun r hr=>⟨r,rfl,hr.1,hr.2.1,fun j d st a b c' e=> ?_,hr.2.2.2⟩)
 rotate_left
 ·obtain⟨x,x1,x2⟩:=Zl9 a
  exact hr.2.2.1 x ((hks x).2 ⟨x1,by rw[x2]⟩) j d st x2 b c' e
 refine ZbB ks.length _ (fun m (st:ScT×Int)=>st.2=(m:Int)∧Stp n V T f st.1∧Snd (Der n s0 t0 w) st.1∧(∀x∈ks.take m, ∀ (j d:Nat) (s:Bool),lkI n x=((i:Int),(c:Int),(j:Int),(d:Int),s,())→(Zac n i c).2.1≤(Zac n j d).2.2.1→
  (s=true∨(Zac n i c).2.2.2.2.1=true∧(Zac n j d).2.2.2.1=true)→ZbN n j=false→LeB st.1.2.2.2.2.1 j (d:Int))∧st.1.2.2.1=f.2.2.1∧(∀j,Zbt st.1 j=Zbt f j)∧st.1.2.2.2.1=f.2.2.2.1) ?_ ?_ _ ⟨rfl,Stp.refl f,h,(by simp),rfl,fun _=>rfl,rfl⟩
 ·rintro m ⟨g,z⟩ hm ⟨hz,h1,h2,h3,h4,h5,h6⟩
  simp only at hz h1 h2 h3 h4 h5 h6
  subst hz
  left
  obtain⟨x1,x2⟩:=(hks _).1 (List.getElem_mem hm)
  obtain⟨i',c',j,d,st,e,_,hj,_,hc',hdl,_,_⟩:=C.net.link _ (Zoq x1)
  have hgn:g.1=n:=h1.net.trans hf
  rw[List.take_succ_eq_append_getElem hm]
  have e3:idx g.1.2.2.2.1 ks[m]=some (lkI n ks[m]):=by rw[hgn];exact Ztt x1
  have e4:idx g.1.2.2.1 (j:Int)=some n.2.2.1[j]:=by rw[hgn];exact Zag hj
  have hcj: (n.2.2.1[j]).2.2.2.2.2.2.2.1=Zaz n j:=(Zbf hj).symm
  have e5:idx (Zaz n j) (d:Int)=some (Zac n j d):=by rw[Zag hdl,Zcn hdl]
  simp only[ZaG hm,cond_true,Zag hm,bind_some,Zan hm (show _≤9223372036854775807 by omega),e3,e,e4,hcj,e5]
  generalize ks[m]=x at*
  have hi' :i' =i:=by rw[e] at x2;simp only at x2;omega
  subst hi'
  have hadd: ∀g' :ScT,Stp n V T g g' →((Zac n i' c).2.1≤(Zac n j d).2.2.1→c' =c→(st=true∨(Zac n i' c).2.2.2.2.1=true∧(Zac n j d).2.2.2.1=true)→ZbN n j=false→LeB g'.2.2.2.2.1 j (d:Int))→
    ∀y∈ks.take m++[x], ∀ (j d:Nat) (s:Bool),lkI n y=((i' :Int),(c:Int),(j:Int),(d:Int),s,())→(Zac n i' c).2.1≤(Zac n j d).2.2.1→(s=true∨(Zac n i' c).2.2.2.2.1=true∧(Zac n j d).2.2.2.1=true)→ZbN n j=false→LeB g'.2.2.2.2.1 j (d:Int):=by
   intro g' hg' hnew y hy j1 d1 s1 b1 b2 b3 b4
   rcases List.mem_append.1 hy with hy|hy
   ·exact hg'.brd _ _ (h3 y hy j1 d1 s1 b1 b2 b3 b4)
   ·simp only[List.mem_singleton] at hy
    subst hy
    rw[e] at b1
    simp only[Prod.mk.injEq,Int.natCast_inj] at b1
    obtain⟨_,rfl,rfl,rfl,rfl,_⟩:=b1
    exact hnew b2 rfl b3 b4
  by_cases hcc:c' =c
  rotate_left
  ·rw[decide_eq_false (show¬ (c' :Int)=(c:Int) by omega)]
   exact⟨_,rfl,rfl,h1,h2,hadd g (Stp.refl g) (fun _ b=>absurd b hcc),h4,h5,h6⟩
  subst hcc
  by_cases htm: (Zac n i' c').2.1≤(Zac n j d).2.2.1
  rotate_left
  ·rw[decide_eq_true rfl,decide_eq_false htm]
   exact⟨_,rfl,rfl,h1,h2,hadd g (Stp.refl g) (fun a=>absurd a htm),h4,h5,h6⟩
  rw[decide_eq_true rfl,decide_eq_true htm]
  simp only[cond_true]
  have hil:isLink n i' c' j d st:=by unfold isLink;rw[←e];exact Zoq x1
  have e6: (bif st then some true else bif (Zac n i' c').2.2.2.2.1 then some (Zac n j d).2.2.2.1 else some false)=some (st|| ((Zac n i' c').2.2.2.2.1&& (Zac n j d).2.2.2.1)):=by
   cases st<;>cases (Zac n i' c').2.2.2.2.1<;>rfl
  rw[e6]
  simp only[bind_some]
  cases hok: (st|| ((Zac n i' c').2.2.2.2.1&& (Zac n j d).2.2.2.1)) with
  |false=>
   simp only[cond_false]
   refine⟨_,rfl,rfl,h1,h2,hadd g (Stp.refl g) (fun _ _ a=> ?_),h4,h5,h6⟩
   exfalso
   rcases a with rfl| ⟨a,b⟩
   ·simp at hok
   ·rw[a,b] at hok;simp at hok
  |true=>
   simp only[cond_true]
   have hjr:j<g.2.2.2.2.1.length:=by rw[h1.rl,hrl];exact hj
   rw[ZjQ g (by rw[hgn];exact hj) (by rw[h1.rl,hrl,hgn])]
   simp only[bind_some]
   have hsb:=ZjU (V:=V) (T:=T) C.net g hj hjr hdl (by omega) l st
   refine⟨_,rfl,rfl,h1.trans hsb,h2.board fun hcn=>fun _=> ?_,hadd _ hsb fun _ _ _ hcn=>ZjV hjr (b:=((d:Int),l,st,())) (by show (0:Int)≤(d:Int);omega) (by rw[hgn];exact hcn),by rw[ZhN];exact h4,fun y=> ?_, ?_⟩
   ·have hcn' :ZbN n j=false:=by rw[hgn] at hcn;exact hcn
    cases st with
    |true=>exact⟨k,d,rfl,js,h1.ch hl, .stay hd hil htm hcn'⟩
    |false=>
     simp only[Bool.false_or,Bool.and_eq_true] at hok
     exact⟨k+1,d,rfl,js,h1.ch hl, .linked (.link hd hok.1 hil htm hok.2) hcn'⟩
   ·rw[←h5 y]
    unfold Zbt Zc6
    cases (!(rn g.1 (j:Int)).2.2.2.2.2.2.1&&ZbR ((g.2.2.2.2.1[j]?).getD (0,0,false,())).1 (d:Int))<;>rfl
   ·rw[←h6]
    unfold Zc6
    cases (!(rn g.1 (j:Int)).2.2.2.2.2.2.1&&ZbR ((g.2.2.2.2.1[j]?).getD (0,0,false,())).1 (d:Int))<;>rfl
 ·rintro ⟨g,z⟩ ⟨hz,h1,h2,h3,h4,h5,h6⟩
  simp only at hz h1 h2 h3 h4 h5 h6
  subst hz
  rw[List.take_length] at h3
  simp only[ZaI,cond_false]
  exact⟨_,rfl,h1,h2,h3,h4,h5,h6⟩
end Q
namespace Q
open Tr Go
open Option (bind_some)
variable {n:ZaJ} {s0 t0 w:Int} {V:List Int} {T:Int}
def Vst (n:ZaJ) (i m:Nat) (g:ScT):Prop:=((Zac n i m).2.2.2.2.1=true→LeA g.2.2.2.1 (Zac n i m).1.toNat (Zac n i m).2.1∧LeY g.2.2.2.1 (Zac n i m).1.toNat ((Zac n i m).2.1+(Zb6 n (Zac n i m).1).2.2.2.1)∧
 ∀p∈n.2.2.2.2.1,Wlk (Zac n i m).1 (Zac n i m).2.1 g.2.2.2.1 p)∧ZsH n i m g
theorem Vst.mono {i m:Nat} {g h:ScT} (y:Stp n V T g h) (z:Vst n i m g):Vst n i m h:=
 ⟨fun e=>let ⟨a,b,c⟩:=z.1 e;⟨y.arr _ _ a,y.rdy _ _ b,fun p hp=>(c p hp).mono y⟩,z.2.mono y⟩
def RC (n:ZaJ) (f:ScT):Prop:= ∀ (s:Nat) p,f.2.2.2.1[s]? =some p→p.2.1≠ -1→ ∀q∈n.2.2.2.2.1,Wlk (s:Int) p.2.1 f.2.2.2.1 q
theorem RC.step {f g:ScT} (h:RC n f) (y:Stp n V T f g) (hr: ∀j,Zbt g j=Zbt f j):RC n g:=by
 intro s p hp hne q hq
 have hs:=(List.getElem?_eq_some_iff.1 hp).1
 have hsf:s<f.2.2.2.1.length:=by rw[←y.pl];exact hs
 have e:=hr s
 unfold Zbt at e
 rw[hp,Zai hsf] at e
 simp only[Option.getD_some] at e
 rw[e] at hne ⊢
 exact(h s _ (List.getElem?_eq_getElem hsf) hne q hq).mono y
def Zgj (f:ScT) (i:Nat) (a:Int):ScT:=(f.1,f.2.1,f.2.2.1,f.2.2.2.1.modify i fun p=>(p.1,a,p.2.2),f.2.2.2.2)
theorem Zqa (f:ScT) {i:Nat} (hi:i<f.2.2.2.1.length) {a:Int} (ha:0≤a) (hl:ZbR (f.2.2.2.1[i]).2.1 a=true):Stp n V T f (Zgj f i a):=by
 have hp:Zja V (Zgj f i a).2.2.2.1=Zja V f.2.2.2.1:=by
  have:=ZiU (fun p:Zd5=>Zi9 V p.1+Zi9 V p.2.2.1) hi ((f.2.2.2.1[i]).1,a,(f.2.2.2.1[i]).2.2)
  unfold Zja Zgj
  rw[Zez hi]
  simp only at this ⊢
  omega
 refine⟨rfl,rfl,⟨[],by simp [Zgj]⟩,by simp [Zgj],rfl,rfl,fun s t h=> ?_,fun s t h=> ?_,fun s t h=> ?_,fun _ _ h=>h,fun h=>h, .inr ⟨fun s t h=> ?_,fun s t h=> ?_,fun _ _ h=>h⟩,fun s t _ h=> ?_,fun _ _ _ _ _ h=>h, ?_,fun a b=> ?_⟩
 ·exact Zd7 (P:=fun p=>p.1≠ -1∧p.1≤t) (fun p hp=>hp) h
 ·obtain⟨p,h1,h2⟩:=h
  by_cases e:i=s
  ·subst e
   refine⟨_,Zem h1 _, ?_⟩
   rw[List.getElem?_eq_getElem hi] at h1
   cases h1
   have:=ZbP.1 hl
   simp only
   omega
  ·exact⟨p,(Zfy e _).trans h1,h2⟩
 ·exact Zd7 (P:=fun p=>p.2.2.1≠ -1∧p.2.2.1≤t) (fun p hp=>hp) h
 ·exact Zcd (g:=fun p=>(p.1,a,p.2.2)) (P:=fun p=>p.1≠ -1∧p.1≤t) (fun p _ hp=>hp) h
 ·exact Zcd (g:=fun p=>(p.1,a,p.2.2)) (P:=fun p=>p.2.2.1≠ -1∧p.2.2.1≤t) (fun p _ hp=>hp) h
 ·exact Zcd (g:=fun p=>(p.1,a,p.2.2)) (P:=fun p=>p.2.2.1≠ -1∧p.2.2.1≤t) (fun p _ hp=>hp) h
 ·show Zja V (Zgj f i a).2.2.2.1+Zky f.2.2.2.2.1≤_
  rw[hp];exact Nat.le_refl _
 ·have b' :f.2.2.2.2.2.2.1=true:=b
  rename_i a'
  rw[a] at b';cases b'
theorem Snd.ride {D:ZoQ→List Zbb→Prop} {f:ScT} (h:Snd D f) {i:Nat} {a:Int} (ha: ∃k js,D (.rid k (i:Int) a) js):Snd D (Zgj f i a):=by
 refine⟨fun s q hq=> ?_,h.brd⟩
 obtain⟨p,hp,⟨rfl,rfl⟩ | ⟨_,rfl⟩⟩:=ZeZ hq
 ·exact⟨(h.pls i p hp).arr,fun _=>ha,(h.pls i p hp).rdy⟩
 ·exact h.pls s _ hp
structure SI (n:ZaJ) (s0 t0 w:Int) (f:ScT):Prop where
 net:f.1=n
 pl:f.2.2.2.1.length=n.1.length
 rl:f.2.2.2.2.1.length=n.2.2.1.length
 out:Zru n f.2.2.2.2.2.1
 snd:Snd (Der n s0 t0 w) f
 rc:RC n f
theorem SI.step {f g:ScT} (h:SI n s0 t0 w f) (y:Stp n V T f g) (hs:Snd (Der n s0 t0 w) g) (hr:RC n g):SI n s0 t0 w g:=
 ⟨y.net.trans h.net,y.pl.trans h.pl,y.rl.trans h.rl,by rw[y.lks];exact h.out,hs,hr⟩
theorem ZnX (C:Ctx n s0 t0 w) (hp:n.2.2.2.2.1.length≤4096) {f:ScT} (hI:SI n s0 t0 w f) (hl:f.2.2.1.length+4096<4000000000) {s:Nat} (hs:s<n.1.length) {a l:Int} {k:Nat} {js:List Zbb} (ha:0≤a∧a≤3155932800) (hT:T≤a) (hVa:a∈V) (hVr:a+(Zb6 n (s:Int)).2.2.2.1∈V) (hVw: ∀p∈n.2.2.2.2.1,a+p.2.2.1∈V)
  (hch:Ch f.2.2.1 l js) (hd:Der n s0 t0 w (.rid k (s:Int) a) js):
  ∃g,(Option.bind (inb (s:Int) (List.length f.2.2.2.1)) fun x16=>
   Option.bind (idx f.1.1 (s:Int)) fun x17=>
   Option.bind (F94 f (s:Int) a (IntKind.wrap .i64 (a+x17.2.2.2.1)) l) fun x18=>
   Option.bind (Option.bind x18.2.2.2.1[x16]? fun x19=>
    bif decide (x19.2.1=(-1:Int)) then some true
    else Option.bind x18.2.2.2.1[x16]? fun x20=>some (decide (a<x20.2.1))) fun x21=>
   Option.bind (bif x21 then
    Option.bind x18.2.2.2.1[x16]? fun x22=>
    Option.bind (F97 (x18.1,x18.2.1,x18.2.2.1,List.set x18.2.2.2.1 x16 (x22.1,a,x22.2.2),x18.2.2.2.2.1,x18.2.2.2.2.2.1,x18.2.2.2.2.2.2.1,()) (s:Int) a l) fun x23=>some x23
    else some x18) fun x24=>some x24)=some g∧Stp n V T f g∧SI n s0 t0 w g∧g.2.2.1.length≤f.2.2.1.length+n.2.2.2.2.1.length∧
   (LeA g.2.2.2.1 s a∧LeY g.2.2.2.1 s (a+(Zb6 n (s:Int)).2.2.2.1)∧ ∀p∈n.2.2.2.2.1,Wlk (s:Int) a g.2.2.2.1 p):=by
 have hcg:=C.net.change (s:Int) (by omega) (by omega)
 have hsl:s<f.2.2.2.1.length:=by rw[hI.pl];exact hs
 have hst:idx f.1.1 (s:Int)=some (Zb6 n (s:Int)):=by rw[hI.net];exact(ZhI C.net.sound (by omega) (by omega)).1
 have w1:IntKind.wrap .i64 (a+(Zb6 n (s:Int)).2.2.2.1)=a+(Zb6 n (s:Int)).2.2.2.1:=Zaq (by omega) (by omega)
 simp only[ZaX hsl,bind_some,hst,w1]
 rw[Ze0 f hsl]
 simp only[bind_some]
 have hr0:0≤a+(Zb6 n (s:Int)).2.2.2.1:=by omega
 have m1:=Zik (n:=n) (T:=T) f hsl ha.1 hr0 (by omega) hVa hVr l
 have n1:=Zk8 hsl ha.1 hr0 l
 have s1:=hI.snd.imp (i:=s) (l:=l) ⟨k,js,hch, .arrR hd⟩ ⟨k,js,hch, .change hd⟩
 have r1:=hI.rc.step m1 (Zhc f s a _ l)
 have I1:=hI.step m1 s1 r1
 have hlab: (Zi7 f s a (a+(Zb6 n (s:Int)).2.2.2.1) l).2.2.1=f.2.2.1:=rfl
 generalize Zi7 f s a (a+(Zb6 n (s:Int)).2.2.2.1) l=g at*
 have hsg:s<g.2.2.2.1.length:=by rw[m1.pl];exact hsl
 simp only[List.getElem?_eq_getElem hsg,bind_some]
 rw[ZfH]
 simp only[bind_some]
 cases hls:ZbR (g.2.2.2.1[s]).2.1 a with
 |false=>
  simp only[cond_false,bind_some]
  have hno:=Zlh hls
  refine⟨_,rfl,m1,I1,by rw[hlab];omega,n1.1,n1.2,fun p hp' => ?_⟩
  exact(r1 s _ (List.getElem?_eq_getElem hsg) hno.1 p hp').weak hno.2
 |true=>
  simp only[cond_true,bind_some]
  have e: (g.1,g.2.1,g.2.2.1,g.2.2.2.1.set s ((g.2.2.2.1[s]).1,a,(g.2.2.2.1[s]).2.2),g.2.2.2.2.1,g.2.2.2.2.2.1,g.2.2.2.2.2.2.1,())=Zgj g s a:=by
   unfold Zgj
   rw[Zez hsg]
  rw[e]
  have m2:=Zqa (n:=n) (V:=V) (T:=T) g hsg ha.1 hls
  have s2:=s1.ride (i:=s) (a:=a) ⟨k,js,hd⟩
  have hgl: (Zgj g s a).2.2.1=f.2.2.1:=hlab
  obtain⟨h,w1,w2,w3,w4,w5,w6⟩:=Zpc C (V:=V) (T:=T) (s:=(s:Int)) (t:=a) (prev:=l) (m2.net.trans I1.net) (m2.pl.trans I1.pl) hp ha hT hVw (by rw[hgl];exact hl) (fun q hq e1 e2=>⟨.arrV hd hq e1 e2, .rdyV hd hq e1 e2⟩) s2 (by rw[hgl];exact hch)
  rw[w1]
  simp only[bind_some]
  have m3:=m2.trans w2
  have hrc:RC n h:=by
   intro y p hy hne q hq
   have hyl:=(List.getElem?_eq_some_iff.1 hy).1
   have hyg:y<g.2.2.2.1.length:=by rw[←m3.pl];exact hyl
   have e1:=w6 y
   unfold Zbt at e1
   rw[hy] at e1
   simp only[Option.getD_some] at e1
   by_cases ey:s=y
   ·subst ey
    have e2: (Zgj g s a).2.2.2.1[s]? =some ((g.2.2.2.1[s]).1,a,(g.2.2.2.1[s]).2.2):=Zem (List.getElem?_eq_getElem hsg) _
    rw[e2] at e1
    simp only[Option.getD_some] at e1
    rw[e1]
    exact w4 q hq
   ·have e2: (Zgj g s a).2.2.2.1[y]? =some g.2.2.2.1[y]:=(Zfy ey _).trans (List.getElem?_eq_getElem hyg)
    rw[e2] at e1
    simp only[Option.getD_some] at e1
    rw[e1] at hne ⊢
    exact(r1 y _ (List.getElem?_eq_getElem hyg) hne q hq).mono m3
  refine⟨_,rfl,m1.trans m3,I1.step m3 w3 hrc,by rw[hgl] at w5;exact w5,m3.arr _ _ n1.1,m3.rdy _ _ n1.2,w4⟩
theorem Zrc (C:Ctx n s0 t0 w) (hp:n.2.2.2.2.1.length≤4096) {f:ScT} (hI:SI n s0 t0 w f) (hl:f.2.2.1.length+4097<4000000000) {i m:Nat} (hi:i<n.2.2.1.length) (hm:m+1< (Zaz n i).length) (hcn:ZbN n i=false)
  (hVa: (Zac n i (m+1)).2.1∈V) (hVr: (Zac n i (m+1)).2.1+(Zb6 n (Zac n i (m+1)).1).2.2.2.1∈V) (hVw: ∀p∈n.2.2.2.2.1,(Zac n i (m+1)).2.1+p.2.2.1∈V):
  ∃g,F96 f (Zhs i (Zaz n i) m)=some g∧Stp n V (Zac n i m).2.2.1 f g∧SI n s0 t0 w g∧g.2.2.1.length≤f.2.2.1.length+1+n.2.2.2.2.1.length∧
   ((Zac n i m).2.2.2.1=true→LeY f.2.2.2.1 (Zac n i m).1.toNat (Zac n i m).2.2.1→LeB g.2.2.2.2.1 i (m:Int))∧(LeB g.2.2.2.2.1 i (m:Int)→Vst n i (m+1) g):=by
 have hs1:=C.net.stop hi (show m<_ by omega)
 have hs2:=C.net.stop hi hm
 have ht1:=C.net.time hi (show m<_ by omega)
 have ht2:=C.net.time hi hm
 have htt: (Zac n i m).2.2.1≤(Zac n i (m+1)).2.1:=by
  have ht:=C.net.sound.time _ (List.getElem_mem hi)
  have e:=Zbf hi
  have hm' :=hm
  rw[e] at hm'
  have h3:=(ht (m+1) hm').2.2.2 (by omega)
  have h4:Zac n i (m+1)=(n.2.2.1[i]).2.2.2.2.2.2.2.1[m+1]:=by
   unfold Zac cl;rw[Int.toNat_natCast,e,Zai hm']
  have h5:Zac n i m=(n.2.2.1[i]).2.2.2.2.2.2.2.1[m+1 - 1]:=by
   unfold Zac cl;rw[Int.toNat_natCast,e];exact Zai (show m<_ by omega) _
  rw[h4,h5]
  exact h3.2
 have hcon:Zhs i (Zaz n i) m=((i:Int),(m:Int),(Zac n i m).1,(Zac n i (m+1)).1,(Zac n i m).2.2.1,(Zac n i (m+1)).2.1,()):=rfl
 rw[hcon]
 unfold F96
 have e1:idx f.1.2.2.1 (i:Int)=some n.2.2.1[i]:=by rw[hI.net];exact Zag hi
 have hcl: (n.2.2.1[i]).2.2.2.2.2.2.2.1=Zaz n i:=(Zbf hi).symm
 have hm0:m< (Zaz n i).length:=by omega
 have e2:idx (Zaz n i) (m:Int)=some (Zac n i m):=by rw[Zag hm0,Zcn hm0]
 have w1:IntKind.wrap .i64 ((m:Int)+1)=((m+1:Nat):Int):=by
  have:=(C.net.sound.many _ (List.getElem_mem hi)).2
  rw[hcl] at this
  rw[Zaq (by omega) (by omega)];omega
 have e3:idx (Zaz n i) ((m+1:Nat):Int)=some (Zac n i (m+1)):=by rw[Zag hm,Zcn hm]
 obtain⟨s,hs⟩: ∃s:Nat,(Zac n i m).1=(s:Int):=⟨(Zac n i m).1.toNat,by omega⟩
 have hsl:s<f.2.2.2.1.length:=by rw[hI.pl];omega
 have hir:i<f.2.2.2.2.1.length:=by rw[hI.rl];exact hi
 simp only[e1,bind_some,hs,ZaX hsl,List.getElem?_eq_getElem hsl,hcl,e2,w1,e3,Int.toNat_natCast]
 have hsp:=hI.snd.pls s _ (List.getElem?_eq_getElem hsl)
 have hYf: ∀t,LeY f.2.2.2.1 s t→(f.2.2.2.1[s]).2.2.1≠ -1∧(f.2.2.2.1[s]).2.2.1≤t:=by
  rintro t ⟨p,h1,h2⟩
  rw[List.getElem?_eq_getElem hsl] at h1
  cases h1
  exact h2
 generalize f.2.2.2.1[s]=p at*
 have ec: (bif (Zac n i m).2.2.2.1 then bif !decide (p.2.2.1=(-1:Int)) then some (decide (p.2.2.1≤(Zac n i m).2.2.1)) else some false else some false)=some ((Zac n i m).2.2.2.1&& (!decide (p.2.2.1=(-1:Int)) &&decide (p.2.2.1≤(Zac n i m).2.2.1))):=by
  cases (Zac n i m).2.2.2.1<;>cases decide (p.2.2.1=(-1:Int))<;>rfl
 rw[ec]
 simp only[bind_some]
 have hb: ∃g,(bif (Zac n i m).2.2.2.1&& (!decide (p.2.2.1=(-1:Int)) &&decide (p.2.2.1≤(Zac n i m).2.2.1)) then Option.bind (F92 f (i:Int) ((m:Int),p.2.2.2.2.1,false,())) fun x5=>some x5 else some f)=some g∧
   Stp n V (Zac n i m).2.2.1 f g∧SI n s0 t0 w g∧g.2.2.1=f.2.2.1∧((Zac n i m).2.2.2.1=true→LeY f.2.2.2.1 s (Zac n i m).2.2.1→LeB g.2.2.2.2.1 i (m:Int)):=by
  cases hc: ((Zac n i m).2.2.2.1&& (!decide (p.2.2.1=(-1:Int)) &&decide (p.2.2.1≤(Zac n i m).2.2.1))) with
  |false=>
   refine⟨f,rfl,Stp.refl f,hI,rfl,fun a b=> ?_⟩
   have:=hYf _ b
   rw[a,decide_eq_false this.1,decide_eq_true this.2] at hc
   cases hc
  |true=>
   rw[Bool.and_eq_true,Bool.and_eq_true,Bool.not_eq_true',decide_eq_false_iff_not,decide_eq_true_eq] at hc
   simp only[cond_true]
   rw[ZjQ f (by rw[hI.net];exact hi) (by rw[hI.rl,hI.net])]
   simp only[bind_some]
   have hst:=ZjU (V:=V) (T:=(Zac n i m).2.2.1) C.net f hi hir hm0 (Int.le_refl _) p.2.2.2.2.1 false
   obtain⟨k,js,hch,hd⟩:=hsp.rdy hc.2.1
   have hsn:=hI.snd.board (i:=i) (b:=((m:Int),p.2.2.2.2.1,false,())) fun _=>fun _=>⟨k+1,m,rfl,js,hch, .board hd hi hm0 hcn hs hc.1 hc.2.2⟩
   have hrd: ∀j,Zbt (Zc6 f i ((m:Int),p.2.2.2.2.1,false,())) j=Zbt f j:=by
    intro j
    unfold Zbt Zc6
    cases (!(rn f.1 (i:Int)).2.2.2.2.2.2.1&&ZbR ((f.2.2.2.2.1[i]?).getD (0,0,false,())).1 (m:Int))<;>rfl
   refine⟨_,rfl,hst,hI.step hst hsn (hI.rc.step hst hrd),ZhN ..,fun _ _=> ?_⟩
   exact ZjV hir (b:=((m:Int),p.2.2.2.2.1,false,())) (by show (0:Int)≤(m:Int);omega) (by rw[hI.net];exact hcn)
 obtain⟨f6,b1,b2,b3,b4,b5⟩:=hb
 rw[b1]
 simp only[bind_some]
 have hir6:i<f6.2.2.2.2.1.length:=by rw[b3.rl];exact hi
 simp only[ZaX hir6,bind_some,List.getElem?_eq_getElem hir6]
 have hsb:=b3.snd.brd i _ (List.getElem?_eq_getElem hir6)
 have hLB:LeB f6.2.2.2.2.1 i (m:Int)→(f6.2.2.2.2.1[i]).1≠ -1∧(f6.2.2.2.2.1[i]).1≤(m:Int):=by
  rintro ⟨x,h1,h2⟩
  rw[List.getElem?_eq_getElem hir6] at h1
  cases h1
  exact h2
 generalize f6.2.2.2.2.1[i]=b at*
 by_cases c1:b.1= -1
 ·rw[decide_eq_true c1]
  exact⟨_,rfl,b2,b3,by rw[b4];omega,b5,fun e=>absurd c1 (hLB e).1⟩
 by_cases c2: (m:Int)<b.1
 ·rw[decide_eq_false c1,decide_eq_true c2]
  exact⟨_,rfl,b2,b3,by rw[b4];omega,b5,fun e=>absurd (hLB e).2 (Int.not_le.2 c2)⟩
 rw[decide_eq_false c1,decide_eq_false c2]
 simp only[cond_false,bind_some]
 obtain⟨k,c,hc,js,hch,hd⟩:=hsb c1
 obtain⟨bc,prev,st,u⟩:=b
 simp only at hc hch hd c1 c2
 subst hc
 have hon:=Der.on hd (show c<m+1 by omega) hm
 have hcc:c< (Zaz n i).length:=by omega
 have e4:idx (Zaz n i) (c:Int)=some (Zac n i c):=by rw[Zag hcc,Zcn hcc]
 have hio:i<f6.2.2.2.2.2.1.length:=by rw[b3.out.1];exact hi
 obtain⟨hkl,hks⟩:=b3.out.2 i _ (List.getElem?_eq_getElem hio)
 have ec2: (bif !(Zac n i (m+1)).2.2.2.2.1 then Option.bind (idx f6.2.2.2.2.2.1 (i:Int)) fun x11=>some (decide ((x11.length:Int)=(0:Int))) else some false)=some (!(Zac n i (m+1)).2.2.2.2.1&&decide (f6.2.2.2.2.2.1[i].length=0)):=by
  rw[Zag hio]
  simp only[bind_some]
  rw[show decide (((f6.2.2.2.2.2.1[i]).length:Int)=0)=decide ((f6.2.2.2.2.2.1[i]).length=0) from decide_eq_decide.2 (by omega)]
  cases (Zac n i (m+1)).2.2.2.2.1<;>rfl
 rw[ec2]
 simp only[bind_some]
 cases hskip: (!(Zac n i (m+1)).2.2.2.2.1&&decide (f6.2.2.2.2.2.1[i].length=0)) with
 |true=>
  simp only[cond_true]
  rw[Bool.and_eq_true,Bool.not_eq_true',decide_eq_true_eq] at hskip
  refine⟨_,rfl,b2,b3,by rw[b4];omega,b5,fun _=>⟨fun e=>(by rw[hskip.1] at e;cases e),fun j d sx a _ _ _=> ?_⟩⟩
  exfalso
  obtain⟨x,x1,x2⟩:=Zl9 a
  have hx:=(hks x).2 ⟨x1,by rw[x2]⟩
  rw[List.length_eq_zero_iff.1 hskip.2] at hx
  cases hx
 |false=>
  simp only[cond_false,e4,bind_some]
  rw[ZnK f6 (by rw[b4];omega)]
  simp only[bind_some]
  have hx: ((true,(i:Int),(c:Int),((m+1:Nat):Int),(Zac n i c).1,(Zac n i (m+1)).1,(Zac n i c).2.2.1,(Zac n i (m+1)).2.1,st,()):Zbb)=ZdP n i c (m+1) st:=rfl
  rw[hx]
  have hnew:=hch.new (ZdP n i c (m+1) st)
  generalize ZdP n i c (m+1) st=x at*
  have a7:=Zkt (n:=n) (V:=V) (T:=(Zac n i m).2.2.1) f6 x prev
  have I7:SI n s0 t0 w (Zno f6 x prev):=b3.step a7 (b3.snd.add x prev) b3.rc
  have hl7: (Zno f6 x prev).2.2.1.length=f.2.2.1.length+1:=by show (f6.2.2.1++[(x,prev,())]).length=_;rw[b4];simp
  have hch7:Ch (Zno f6 x prev).2.2.1 (f6.2.2.1.length:Int) (js++[x]):=hnew
  generalize Zno f6 x prev=f7 at*
  generalize (f6.2.2.1.length:Int)=l at*
  obtain⟨s',hs'⟩: ∃s' :Nat,(Zac n i (m+1)).1=(s' :Int):=⟨(Zac n i (m+1)).1.toNat,by omega⟩
  have hal: ∃g,(bif (Zac n i (m+1)).2.2.2.2.1 then(Option.bind (inb (s' :Int) (List.length f7.2.2.2.1)) fun x16=>
   Option.bind (idx f7.1.1 (s' :Int)) fun x17=>
   Option.bind (F94 f7 (s' :Int) (Zac n i (m+1)).2.1 (IntKind.wrap .i64 ((Zac n i (m+1)).2.1+x17.2.2.2.1)) l) fun x18=>
   Option.bind (Option.bind x18.2.2.2.1[x16]? fun x19=>
    bif decide (x19.2.1=(-1:Int)) then some true
    else Option.bind x18.2.2.2.1[x16]? fun x20=>some (decide ((Zac n i (m+1)).2.1<x20.2.1))) fun x21=>
   Option.bind (bif x21 then
    Option.bind x18.2.2.2.1[x16]? fun x22=>
    Option.bind (F97 (x18.1,x18.2.1,x18.2.2.1,List.set x18.2.2.2.1 x16 (x22.1,(Zac n i (m+1)).2.1,x22.2.2),x18.2.2.2.2.1,x18.2.2.2.2.2.1,x18.2.2.2.2.2.2.1,()) (s' :Int) (Zac n i (m+1)).2.1 l) fun x23=>some x23
    else some x18) fun x24=>some x24) else some f7)=some g∧Stp n V (Zac n i m).2.2.1 f7 g∧SI n s0 t0 w g∧g.2.2.1.length≤f7.2.2.1.length+n.2.2.2.2.1.length∧
    ((Zac n i (m+1)).2.2.2.2.1=true→LeA g.2.2.2.1 s' (Zac n i (m+1)).2.1∧LeY g.2.2.2.1 s' ((Zac n i (m+1)).2.1+(Zb6 n (s' :Int)).2.2.2.1)∧ ∀p∈n.2.2.2.2.1,Wlk (s' :Int) (Zac n i (m+1)).2.1 g.2.2.2.1 p):=by
   cases hA: (Zac n i (m+1)).2.2.2.2.1 with
   |false=>exact⟨f7,rfl,Stp.refl f7,I7,by omega,fun e=>nomatch e⟩
   |true=>
    have hd' :=Der.ride hon hA
    rw[hs'] at hd' hVr
    obtain⟨g,g1,g2,g3,g4,g5⟩:=ZnX C hp I7 (by rw[hl7];omega) (s:=s') (by omega) (a:=(Zac n i (m+1)).2.1) (l:=l) (T:=(Zac n i m).2.2.1) (V:=V) (by omega) htt hVa hVr hVw hch7 hd'
    exact⟨g,g1,g2,g3,g4,fun _=>g5⟩
  obtain⟨g,g1,g2,g3,g4,g5⟩:=hal
  rw[hs']
  erw[g1]
  simp only[bind_some]
  obtain⟨h,h1,h2,h3,h4,h5,h6,h7⟩:=Zpo C (V:=V) (T:=(Zac n i m).2.2.1) g3.net g3.rl g3.out g3.snd (g2.ch hch7) hon htt
  rw[h1]
  simp only[bind_some]
  have hall:=(b2.trans a7).trans (g2.trans h2)
  refine⟨_,rfl,hall,g3.step h2 h3 (g3.rc.step h2 h6),by rw[h5];omega,fun a b=>((a7.trans g2).trans h2).brd _ _ (b5 a b),fun _=>⟨fun hA=> ?_,h4⟩⟩
  obtain⟨y1,y2,y3⟩:=g5 hA
  rw[hs',Int.toNat_natCast,h7]
  exact⟨y1,y2,y3⟩
end Q
namespace Q
open Tr Go
open Option (bind_some)
variable {n:ZaJ} {s0 t0 w:Int}
structure Zqn (n:ZaJ):Prop where
 stops:n.1.length≤8
 runs:n.2.2.1.length≤12
 paths:n.2.2.2.2.1.length≤100
 calls: (n.2.2.1.map fun r=>r.2.2.2.2.2.2.2.1.length).sum≤60
def Zr8 (n:ZaJ) (c:ZbO):List Int:=c.2.1::(c.2.1+(Zb6 n c.1).2.2.2.1)::n.2.2.2.2.1.map fun p=>c.2.1+p.2.2.1
def Zhn (n:ZaJ) (t0 w:Int):List Int:=t0::(t0+w)::(n.2.2.2.2.1.map fun p=>t0+p.2.2.1)++n.2.2.1.flatMap fun r=>r.2.2.2.2.2.2.2.1.flatMap (Zr8 n)
theorem Zmk {α β:Type} (f:α→List β) (k:Nat): ∀ (l:List α),(∀x∈l,(f x).length≤k)→(l.flatMap f).length≤l.length*k
 | [],_=>by simp
 |a::l,h=>by
  have h1:=h a (by simp)
  have h2:=Zmk f k l (fun x hx=>h x (by simp [hx]))
  rw[List.flatMap_cons,List.length_append,List.length_cons,Nat.succ_mul]
  omega
theorem Zl1 {α β:Type} (f:α→List β) (g:α→Nat): ∀ (l:List α),(∀x∈l,(f x).length≤g x)→(l.flatMap f).length≤(l.map g).sum
 | [],_=>by simp
 |a::l,h=>by
  have h1:=h a (by simp)
  have h2:=Zl1 f g l (fun x hx=>h x (by simp [hx]))
  rw[List.flatMap_cons,List.length_append,List.map_cons,List.sum_cons]
  omega
theorem Zpm {α:Type} (g:α→Nat) (k:Nat): ∀ (l:List α),(l.map fun x=>g x*k).sum=(l.map g).sum*k
 | []=>by simp
 |a::l=>by simp only[List.map_cons,List.sum_cons];rw[Zpm g k l,Nat.add_mul]
theorem ZpH (h:Zqn n): (Zhn n t0 w).length≤6222:=by
 have h3:=h.paths
 have h4:=h.calls
 unfold Zhn
 rw[List.length_append,List.length_cons,List.length_cons,List.length_map]
 have: (n.2.2.1.flatMap fun r=>r.2.2.2.2.2.2.2.1.flatMap (Zr8 n)).length≤(n.2.2.1.map fun r=>r.2.2.2.2.2.2.2.1.length*102).sum:=by
  refine Zl1 _ _ _ fun r _=>Zmk _ 102 _ fun c _=> ?_
  unfold Zr8
  simp only[List.length_cons,List.length_map]
  omega
 rw[Zpm] at this
 omega
theorem Zg9 {i m:Nat} (hi:i<n.2.2.1.length) (hm:m< (Zaz n i).length) {v:Int} (hv:v∈Zr8 n (Zac n i m)):v∈Zhn n t0 w:=by
 unfold Zhn
 refine List.mem_append_right _ (List.mem_flatMap.2 ⟨_,List.getElem_mem hi,List.mem_flatMap.2 ⟨Zac n i m, ?_,hv⟩⟩)
 rw[Zcn hm]
 have e:=Zbf hi
 simp only[←e]
 exact List.getElem_mem hm
def Cls (n:ZaJ) (i m:Nat) (g:ScT):Prop:=((Zac n i m).2.2.2.1=true→LeY g.2.2.2.1 (Zac n i m).1.toNat (Zac n i m).2.2.1→LeB g.2.2.2.2.1 i (m:Int))∧(LeB g.2.2.2.2.1 i (m:Int)→Vst n i (m+1) g)
variable {V:List Int} {T:Int}
theorem Cls.late {i m:Nat} (hi:i<n.2.2.1.length) (hm:m< (Zaz n i).length) {f g:ScT} (h:Cls n i m f) (y:Stp n V T f g) (hT: (Zac n i m).2.2.1<T):Cls n i m g:=
 ⟨fun a b=>y.brd _ _ (h.1 a (y.late _ _ hT b)),fun a=>(h.2 (y.lateB i m hi hm hT a)).mono y⟩
theorem Cls.same {i m:Nat} {f g:ScT} (h:Cls n i m f) (y:Stp n V T f g) (hs:ZpB f g):Cls n i m g:=
 ⟨fun a b=>y.brd _ _ (h.1 a (hs.rdy _ _ b)),fun a=>(h.2 (hs.brd _ _ a)).mono y⟩
abbrev Zjr:=Int×Int×Int×Int×Int×Int×Unit
def ZiF (n:ZaJ) (c:Zjr) (i m:Nat):Prop:=i<n.2.2.1.length∧m+1< (Zaz n i).length∧ZbN n i=false∧c=Zhs i (Zaz n i) m
theorem Zqf {c:Zjr} (h:c∈ZhB n n.2.2.1.length): ∃i m,ZiF n c i m:=by
 obtain⟨i,hi,hc,k,hk,e⟩:=Zp6 h
 have e' :=Zbf hi
 rw[←e'] at hk e
 refine⟨i,k,hi,hk, ?_,e⟩
 unfold ZbN rn
 rw[Int.toNat_natCast,Zai hi]
 exact hc
theorem ZrU (C : Ctx n s0 t0 w) (hZ : Zqn n) (L : List Zjr) (hL : ∀ c ∈ L, ∃ i m, ZiF n c i m ∧ (Zac n i m).2.2.1 = T) (hLl : L.length ≤ 60) {f : ScT} (hI : SI n s0 t0 w f) (hl : f.2.2.1.length + 20000 < 4000000000) :
    ∃ g, run (fun s8 : ScT × Int => bif decide (s8.2 < (↑(List.length L) : Int)) then
        Option.bind (idx L s8.2) fun x9 => Option.bind (F96 s8.1 x9) fun x10 => some (.inl (x10, IntKind.wrap .i64 (s8.2 + (1 : Int))))
      else some (.inr s8.1)) (f, (0 : Int)) = some g ∧ Stp n (Zhn n t0 w) T f g ∧ SI n s0 t0 w g ∧ g.2.2.1.length ≤ f.2.2.1.length + 6060 ∧
      (g.2.2.2.2.2.2.1 = false → ∀ c ∈ L, ∀ i m, ZiF n c i m → Cls n i m g) := by
  have hp := hZ.paths
  have hmul : L.length * (1 + n.2.2.2.2.1.length) ≤ 60 * 101 := Nat.mul_le_mul hLl (by omega)
  suffices hsuf : ∃ g, run (fun s8 : ScT × Int => bif decide (s8.2 < (↑(List.length L) : Int)) then
        Option.bind (idx L s8.2) fun x9 => Option.bind (F96 s8.1 x9) fun x10 => some (.inl (x10, IntKind.wrap .i64 (s8.2 + (1 : Int))))
      else some (.inr s8.1)) (f, (0 : Int)) = some g ∧ (Stp n (Zhn n t0 w) T f g ∧ SI n s0 t0 w g ∧ g.2.2.1.length ≤ f.2.2.1.length + L.length * (1 + n.2.2.2.2.1.length) ∧
      (g.2.2.2.2.2.2.1 = false → ∀ c ∈ L, ∀ i m, ZiF n c i m → Cls n i m g)) by
    obtain ⟨g, g1, g2, g3, g4, g5⟩ := hsuf
    exact ⟨g, g1, g2, g3, by omega, g5⟩
  refine ZbB L.length _ (fun k (st : ScT × Int) => st.2 = (k : Int) ∧ Stp n (Zhn n t0 w) T f st.1 ∧ SI n s0 t0 w st.1 ∧ st.1.2.2.1.length ≤ f.2.2.1.length + k * (1 + n.2.2.2.2.1.length) ∧
      (st.1.2.2.2.2.2.2.1 = false → ∀ c ∈ L.take k, ∀ i m, ZiF n c i m → Cls n i m st.1)) ?_ ?_ _ ⟨rfl, Stp.refl f, hI, by simp, fun _ => by simp⟩
  · rintro k ⟨g, j⟩ hk ⟨hj, h1, h2, h3, h4⟩
    simp only at hj h1 h2 h3 h4
    subst hj
    left
    simp only [ZaG hk, cond_true, Zag hk, bind_some, Zan hk (show _ ≤ 9223372036854775807 by omega)]
    obtain ⟨i, m, hcon, hT⟩ := hL _ (List.getElem_mem hk)
    have hcon' := hcon
    obtain ⟨hi, hm, hcn, hc⟩ := hcon'
    rw [List.take_succ_eq_append_getElem hk]
    have hkm : k * (1 + n.2.2.2.2.1.length) ≤ 60 * 101 := Nat.mul_le_mul (by omega) (by omega)
    generalize L[k] = c at *
    subst hc
    obtain ⟨h, r1, r2, r3, r4, r5, r6⟩ := Zrc (V := Zhn n t0 w) C (by omega) h2 (by omega) hi hm hcn (Zg9 hi hm (by unfold Zr8; simp)) (Zg9 hi hm (by unfold Zr8; simp)) (fun p hp' => Zg9 hi hm (List.mem_cons_of_mem _ (List.mem_cons_of_mem _ (List.mem_map.2 ⟨p, hp', rfl⟩))))
    rw [r1]
    rw [hT] at r2
    refine ⟨_, rfl, rfl, h1.trans r2, r3, ?_, fun hmv c' hc' i' m' hcon' => ?_⟩
    · rw [Nat.succ_mul]
      simp only
      omega
    · have hmg : g.2.2.2.2.2.2.1 = false := by
        cases e : g.2.2.2.2.2.2.1 with
        | false => rfl
        | true => have := r2.mvd e; rw [hmv] at this; cases this
      have hsm : ZpB g h := r2.same.resolve_left (by rw [hmv]; simp)
      rcases List.mem_append.1 hc' with hc' | hc'
      · exact (h4 hmg c' hc' i' m' hcon').same r2 hsm
      · simp only [List.mem_singleton] at hc'
        subst hc'
        obtain ⟨_, _, _, e⟩ := hcon'
        have e1 : i' = i ∧ m' = m := by
          unfold Zhs at e
          simp only [Prod.mk.injEq, Int.natCast_inj] at e
          exact ⟨e.1.symm, e.2.1.symm⟩
        obtain ⟨rfl, rfl⟩ := e1
        exact ⟨fun a b => r5 a (hsm.rdy _ _ b), r6⟩
  · rintro ⟨g, j⟩ ⟨hj, h1, h2, h3, h4⟩
    simp only at hj h1 h2 h3 h4
    subst hj
    rw [List.take_length] at h4
    simp only [ZaI, cond_false]
    exact ⟨_, rfl, h1, h2, h3, h4⟩
end Q
namespace Q
open Tr Go
open Option (bind_some)
variable {n:ZaJ} {s0 t0 w:Int}
def Bas (n:ZaJ) (s0 t0 w:Int) (g:ScT):Prop:=LeA g.2.2.2.1 s0.toNat t0∧LeY g.2.2.2.1 s0.toNat (t0+w)∧ ∀p∈n.2.2.2.2.1,Wlk s0 t0 g.2.2.2.1 p
theorem Bas.mono {V:List Int} {T:Int} {f g:ScT} (h:Bas n s0 t0 w f) (y:Stp n V T f g):Bas n s0 t0 w g:=⟨y.arr _ _ h.1,y.rdy _ _ h.2.1,fun p hp=>(h.2.2 p hp).mono y⟩
theorem Zl8 (n:ZaJ): ∀k,k≤n.2.2.1.length→(ZhB n k).length≤((n.2.2.1.take k).map fun r=>r.2.2.2.2.2.2.2.1.length).sum
 |0,_=>by simp [ZhB]
 |k+1,h=>by
  have ih:=Zl8 n k (by omega)
  rw[Zhi,List.take_succ_eq_append_getElem (show k<_ by omega),List.length_append,List.map_append,List.sum_append,Zai (show k<_ by omega)]
  have: (Znq k n.2.2.1[k]).length≤(n.2.2.1[k]).2.2.2.2.2.2.2.1.length:=by
   unfold Znq
   split
   ·simp
   ·unfold ZkY;simp
  simp only[List.map_cons,List.map_nil,List.sum_cons,List.sum_nil]
  omega
noncomputable def ZfE (ys:List Zjr) (s4:ScT×Int):Option ((ScT×Int) ⊕ ScT):=
 bif decide (s4.2< (↑(List.length ys):Int)) then
 Option.bind (idx ys s4.2) fun x5=>
 Option.bind (F7 ys x5.2.2.2.2.1) fun x6=>
 Option.bind (sliceB (List.length ys) (List.length ys) (some s4.2) (some x6)) fun x7=>
 Option.bind
 (run
 (fun s8:ScT×Int=>
 bif decide (s8.2< (↑(List.length (List.take (x7.2 - x7.1) (List.drop x7.1 ys))):Int)) then
 Option.bind (idx (List.take (x7.2 - x7.1) (List.drop x7.1 ys)) s8.2) fun x9=>
 Option.bind (F96 s8.1 x9) fun x10=>
 some (.inl (x10,IntKind.wrap .i64 (s8.2+(1:Int))))
 else some (.inr s8.1))
 ((s4.1.1,s4.1.2.1,s4.1.2.2.1,s4.1.2.2.2.1,s4.1.2.2.2.2.1,s4.1.2.2.2.2.2.1,false,()),(0:Int)))
 fun x11=>
 bif x11.2.2.2.2.2.2.1 then some (.inl (x11,s4.2)) else some (.inl (x11,x6))
 else some (.inr s4.1)
theorem ZrR (C:Ctx n s0 t0 w) (hZ:Zqn n) {ys:List Zjr} (hys:ys.Perm (ZhB n n.2.2.1.length)) (hsort:ys.Pairwise ltC) (hlen:ys.length≤60): ∀ (μ:Nat) {s:ScT} {i:Nat},pot (Zhn n t0 w) s+(ys.length - i)≤μ→i≤ys.length→SI n s0 t0 w s→Bas n s0 t0 w s→
  (∀j,j<i→ ∀k,i≤k→k<ys.length→Zhv ys j<Zhv ys k)→(∀c∈ys.take i, ∀a m,ZiF n c a m→Cls n a m s)→s.2.2.1.length+6060*μ+20000<4000000000→
  ∃g,run (ZfE ys) (s,(i:Int))=some g∧SI n s0 t0 w g∧Bas n s0 t0 w g∧(∀c∈ys, ∀a m,ZiF n c a m→Cls n a m g)∧g.2.2.1.length<4000000000:=by
 intro μ
 induction μ with
 |zero=>
  intro s i hμ hi hI hB _ hC hl
  have:i=ys.length:=by omega
  subst this
  refine⟨s,ZbT ?_,hI,hB,by rw[List.take_length] at hC;exact hC,by omega⟩
  unfold ZfE
  simp only[ZaI,cond_false]
 |succ μ ih=>
  intro s i hμ hi hI hB hlt hC hl
  by_cases hend:i=ys.length
  ·subst hend
   refine⟨s,ZbT ?_,hI,hB,by rw[List.take_length] at hC;exact hC,by omega⟩
   unfold ZfE
   simp only[ZaI,cond_false]
  have hi' :i<ys.length:=by omega
  obtain⟨to,hto,hu,huk⟩:=ZnQ hsort (by omega) (Zhv ys i)
  have hdi:Zhv ys i=(ys[i]).2.2.2.2.1:=by unfold Zhv;rw[Zai hi']
  have hit:i<to:=(huk i hi').1 (Int.le_refl _)
  have hsl:sliceB ys.length ys.length (some (i:Int)) (some (to:Int))=some (i,to):=by
   unfold sliceB
   simp only[if_pos (show (0:Int)≤(to:Int)∧(to:Int)≤(ys.length:Int) from ⟨by omega,by omega⟩),bind_some,Int.toNat_natCast]
   rw[if_pos (show (0:Int)≤(i:Int)∧(i:Int)≤(to:Int) from ⟨by omega,by omega⟩)]
  have hL: ∀c∈(ys.drop i).take (to - i), ∃a m,ZiF n c a m∧(Zac n a m).2.2.1=Zhv ys i:=by
   intro c hc
   obtain⟨j,hj,rfl⟩:=List.getElem_of_mem hc
   rw[List.length_take,List.length_drop] at hj
   have hjl:i+j<ys.length:=by omega
   have e: ((ys.drop i).take (to - i))[j]'(by rw[List.length_take,List.length_drop];exact hj)=ys[i+j]:=by
    rw[List.getElem_take,List.getElem_drop]
   rw[e]
   obtain⟨a,m,hcon⟩:=Zqf (hys.mem_iff.1 (List.getElem_mem hjl))
   refine⟨a,m,hcon, ?_⟩
   have h1:Zhv ys (i+j)=(ys[i+j]).2.2.2.2.1:=by unfold Zhv;rw[Zai hjl]
   have h2: (ys[i+j]).2.2.2.2.1=(Zac n a m).2.2.1:=by rw[hcon.2.2.2];rfl
   have h3:Zhv ys i≤Zhv ys (i+j):=by
    by_cases e0:j=0
    ·subst e0;exact Int.le_refl _
    ·exact ZlK hsort (by omega) hjl
   have h4:=(huk (i+j) hjl).2 (by omega)
   omega
  have hLl: ((ys.drop i).take (to - i)).length≤60:=by rw[List.length_take,List.length_drop];omega
  have hI0:SI n s0 t0 w (s.1,s.2.1,s.2.2.1,s.2.2.2.1,s.2.2.2.2.1,s.2.2.2.2.2.1,false,()):=⟨hI.net,hI.pl,hI.rl,hI.out,⟨hI.snd.pls,hI.snd.brd⟩,hI.rc⟩
  obtain⟨g,g1,g2,g3,g4,g5⟩:=ZrU C hZ ((ys.drop i).take (to - i)) hL hLl hI0 (by show s.2.2.1.length+20000<_;omega)
  have hlab:g.2.2.1.length≤s.2.2.1.length+6060:=g4
  have hpot:pot (Zhn n t0 w) g≤pot (Zhn n t0 w) s:=g2.pot
  have hB' :Bas n s0 t0 w g:=hB.mono (f:=s) (g:=g) (V:=Zhn n t0 w) (T:=Zhv ys i) |> fun _=>⟨g2.arr _ _ hB.1,g2.rdy _ _ hB.2.1,fun p hp=>(show Wlk s0 t0 g.2.2.2.1 p from fun a b=>⟨g2.arr _ _ (hB.2.2 p hp a b).1,g2.rdy _ _ (hB.2.2 p hp a b).2⟩)⟩
  have hold: ∀c∈ys.take i, ∀a m,ZiF n c a m→Cls n a m g:=by
   intro c hc a m hcon
   have h0:=hC c hc a m hcon
   obtain⟨j,hj,rfl⟩:=List.getElem_of_mem hc
   rw[List.length_take] at hj
   have hj' :j<i:=by omega
   have e: (ys.take i)[j]'(by rw[List.length_take];exact hj)=ys[j]'(by omega):=List.getElem_take
   rw[e] at hcon
   have h1:Zhv ys j=(Zac n a m).2.2.1:=by
    unfold Zhv
    rw[Zai (show j<ys.length by omega),hcon.2.2.2]
    rfl
   have h2:=hlt j hj' i (Nat.le_refl i) hi'
   exact Cls.late (f:=(s.1,s.2.1,s.2.2.1,s.2.2.2.1,s.2.2.2.2.1,s.2.2.2.2.2.1,false,())) hcon.1 (by have:=hcon.2.1;omega) h0 g2 (by omega)
  have hstep:ZfE ys (s,(i:Int))=if g.2.2.2.2.2.2.1=true then some (.inl (g,(i:Int))) else some (.inl (g,(to:Int))):=by
   unfold ZfE
   simp only[ZaG hi',cond_true,Zag hi',bind_some]
   rw[←hdi,hu]
   simp only[bind_some,hsl]
   rw[g1]
   simp only[bind_some]
   cases g.2.2.2.2.2.2.1<;>rfl
  cases hmv:g.2.2.2.2.2.2.1 with
  |true=>
   rw[if_pos hmv] at hstep
   rw[ZcM hstep]
   have hfall:=g2.fall rfl hmv
   have hfall' :pot (Zhn n t0 w) g<pot (Zhn n t0 w) s:=hfall
   exact ih (by omega) hi g3 hB' hlt hold (by omega)
  |false=>
   rw[if_neg (by rw[hmv];simp)] at hstep
   rw[ZcM hstep]
   refine ih (by omega) hto g3 hB' (fun j hj k hk hkl=> ?_) (fun c hc a m hcon=> ?_) (by omega)
   ·have h1:=(huk j (by omega)).2 hj
    have h2: ¬Zhv ys k≤Zhv ys i:=fun e=>by have:=(huk k hkl).1 e;omega
    omega
   ·have e:ys.take to=ys.take i++(ys.drop i).take (to - i):=by
     rw[←List.take_add,show i+(to - i)=to by omega]
    rw[e] at hc
    rcases List.mem_append.1 hc with hc|hc
    ·exact hold c hc a m hcon
    ·exact g5 hmv c hc a m hcon
abbrev q11:Zd5:=(-1, -1, -1, -1, -1,())
abbrev b00:Zkc:=(-1, -1,false,())
def Zsu (n:ZaJ) (k:Nat) (out:List (List Int)):Prop:=out.length=n.2.2.1.length∧ ∀ (i:Nat) ks,out[i]? =some ks→ks.length≤k∧ ∀x:Int,x∈ks↔(0≤x∧x< (k:Int))∧(lkI n x).1=(i:Int)
theorem Zoj {k:Nat} {out:List (List Int)} (h:Zsu n k out) {a:Nat} (ha: (lkI n (k:Int)).1=(a:Int)) (hl:a<out.length):Zsu n (k+1) (out.set a (out[a]++[(k:Int)])):=by
 refine⟨by rw[List.length_set];exact h.1,fun i ks hks=> ?_⟩
 have key: ∀ks' :List Int,out[a]? =some ks' →(ks' ++[(k:Int)]).length≤k+1∧ ∀x:Int,x∈ks' ++[(k:Int)]↔(0≤x∧x< ((k+1:Nat):Int))∧(lkI n x).1=(a:Int):=by
  intro ks' hk'
  obtain⟨h1,h2⟩:=h.2 a _ hk'
  refine⟨by simp;exact h1,fun x=> ?_⟩
  rw[List.mem_append,h2 x,List.mem_singleton]
  constructor
  ·rintro (⟨h3,h4⟩ |rfl)
   ·exact⟨by omega,h4⟩
   ·exact⟨by omega,ha⟩
  ·rintro ⟨h3,h4⟩
   by_cases e:x=(k:Int)
   ·exact .inr e
   ·exact .inl ⟨by omega,h4⟩
 by_cases e:a=i
 ·subst e
  rw[List.getElem?_set_self hl] at hks
  cases hks
  exact key _ (List.getElem?_eq_getElem hl)
 ·rw[List.getElem?_set_ne e] at hks
  obtain⟨h1,h2⟩:=h.2 i ks hks
  refine⟨by omega,fun x=> ?_⟩
  rw[h2 x]
  constructor
  ·rintro ⟨h3,h4⟩;exact⟨by omega,h4⟩
  ·rintro ⟨h3,h4⟩
   refine⟨⟨h3.1, ?_⟩,h4⟩
   by_cases e' :x=(k:Int)
   ·subst e';omega
   ·omega
theorem ZpP {out:List (List Int)} (hl:n.2.2.2.1.length≤1024) (h:Zsu n n.2.2.2.1.length out):Zru n out:=by
 refine⟨h.1,fun i ks hks=> ?_⟩
 obtain⟨h1,h2⟩:=h.2 i ks hks
 exact⟨by omega,fun x=>by rw[h2 x,ZeW]⟩
theorem Zr3 (j:Nat):Zas (Zj8 (some (Int.toNat (j:Int))) j)=some ():=by
 rw[show Zj8 (some (Int.toNat (j:Int))) j=true from Nat.beq_refl j];rfl
theorem ZpX {q:Zbp} (C:Ctx n q.1 q.2.2.1 (bif q.2.2.2.2.2.2.2.2.2.1 then(Zb6 n q.1).2.2.2.1 else 0)) (hZ:Zqn n):
  ∃g,F98 n q=some g∧SI n q.1 q.2.2.1 (bif q.2.2.2.2.2.2.2.2.2.1 then(Zb6 n q.1).2.2.2.1 else 0) g∧Bas n q.1 q.2.2.1 (bif q.2.2.2.2.2.2.2.2.2.1 then(Zb6 n q.1).2.2.2.1 else 0) g∧g.2.2.1.length≤100:=by
 have hS:=C.net.sound
 have hrn:=hS.runs
 have hst:=hS.stops
 have hlk:=hS.links
 have hcg:=C.net.change q.1 C.stop.1 C.stop.2
 have hsi:idx n.1 q.1=some (Zb6 n q.1):=(ZhI hS C.stop.1 C.stop.2).1
 have hmx: (Zay:Int)=4294967296:=by simp [Zay]
 unfold F98
 have hg0:Zas (decide ((0:Int)≤(n.2.2.1.length:Int)∧(n.2.2.1.length:Int)≤(n.2.2.1.length:Int)∧(n.2.2.1.length:Int)≤(Zay:Int)))=some ():=by
  rw[decide_eq_true (by rw[hmx];omega)];rfl
 refine bex (fun _=>True) ⟨(),hg0,trivial⟩ fun _ _=> ?_
 refine bex (fun r:ScT=>r=(n,q,[],List.replicate n.1.length q11,[],List.replicate n.2.2.1.length [],false,())) ?_ ?_
 ·refine ZbB n.1.length _ (fun i (st:ScT×Int)=>st=((n,q,[],List.replicate i q11,[],List.replicate n.2.2.1.length [],false,()),(i:Int))) ?_ ?_ _ (by simp)
  ·rintro i _ hi rfl
   left
   simp only[ZaG hi,cond_true,Zan hi (show _≤9223372036854775807 by omega)]
   have hg:Zas (decide (List.length (List.replicate i q11)+List.length [q11]≤Zay))=some ():=Zbn (by simp;omega)
   erw[hg]
   simp only[bind_some]
   exact⟨_,rfl,by rw[List.replicate_succ']⟩
  ·rintro _ rfl
   simp only[ZaI,cond_false]
   exact⟨_,rfl,rfl⟩
 intro f1 hf1
 refine bex (fun r:ScT=>r=(n,q,[],List.replicate n.1.length q11,List.replicate n.2.2.1.length b00,List.replicate n.2.2.1.length [],false,())) ?_ ?_
 ·refine ZbB n.2.2.1.length _ (fun i (st:ScT×Int)=>st=((n,q,[],List.replicate n.1.length q11,List.replicate i b00,List.replicate n.2.2.1.length [],false,()),(i:Int))) ?_ ?_ _ (by rw[hf1];rfl)
  ·rintro i _ hi rfl
   left
   simp only[ZaG hi,cond_true,Zan hi (show _≤9223372036854775807 by omega)]
   have hg:Zas (decide (List.length (List.replicate i b00)+List.length [b00]≤Zay))=some ():=Zbn (by simp;omega)
   erw[hg]
   simp only[bind_some]
   exact⟨_,rfl,by rw[List.replicate_succ']⟩
  ·rintro _ rfl
   simp only[ZaI,cond_false]
   exact⟨_,rfl,rfl⟩
 intro f2 hf2
 refine bex (fun r:ScT=> ∃out,r=(n,q,[],List.replicate n.1.length q11,List.replicate n.2.2.1.length b00,out,false,())∧Zsu n n.2.2.2.1.length out) ?_ ?_
 ·refine ZbB n.2.2.2.1.length _ (fun i (st:ScT×Int)=>st.2=(i:Int)∧ ∃out,st.1=(n,q,[],List.replicate n.1.length q11,List.replicate n.2.2.1.length b00,out,false,())∧Zsu n i out) ?_ ?_ _ ⟨rfl,_,hf2, ?_⟩
  ·rintro i ⟨st,j⟩ hi ⟨hj,out,hst',hO⟩
   simp only at hj hst'
   subst hj hst'
   left
   have e1:lkI n (i:Int)=n.2.2.2.1[i]:=by unfold lkI;rw[Int.toNat_natCast,Zai hi]
   obtain⟨a,c,b,d,st,e,ha,_⟩:=C.net.link _ (List.getElem_mem hi)
   have hao:a<out.length:=by rw[hO.1];exact ha
   have hks:=(hO.2 a _ (List.getElem?_eq_getElem hao)).1
   simp only[ZaG hi,cond_true,Zag hi,bind_some,Zan hi (show _≤9223372036854775807 by omega),e,ZaX hao,List.getElem?_eq_getElem hao,Zag hao]
   have hg:Zas (decide (List.length out[a]+List.length [(i:Int)]≤Zay))=some ():=Zbn (by simp;omega)
   rw[hg]
   simp only[bind_some,Zr3]
   exact⟨_,rfl,rfl,_,rfl,Zoj hO (by rw[e1,e]) hao⟩
  ·rintro ⟨st,j⟩ ⟨hj,out,hst',hO⟩
   simp only at hj hst'
   subst hj hst'
   simp only[ZaI,cond_false]
   exact⟨_,rfl,out,rfl,hO⟩
  ·refine⟨by simp,fun i ks hks=> ?_⟩
   have:=List.eq_of_mem_replicate (List.mem_of_getElem? hks)
   subst this
   exact⟨by simp,fun x=>⟨fun h=>(nomatch h),fun h=>by omega⟩⟩
 rintro f3 ⟨out,hf3,hO⟩
 have hOk:=ZpP hlk hO
 have ht:=C.time
 refine bex (fun r:ScT×Int=>r=(f3,q.2.2.1+(bif q.2.2.2.2.2.2.2.2.2.1 then(Zb6 n q.1).2.2.2.1 else 0))) ?_ ?_
 ·cases q.2.2.2.2.2.2.2.2.2.1 with
  |false=>exact⟨_,rfl,by simp⟩
  |true=>
   simp only[cond_true,hsi,bind_some]
   exact⟨_,rfl,by rw[Zaq (by omega) (by omega)]⟩
 rintro _ rfl
 generalize (bif q.2.2.2.2.2.2.2.2.2.1 then(Zb6 n q.1).2.2.2.1 else 0)=w at*
 have hw:=C.wait
 obtain⟨a,ha⟩: ∃a:Nat,q.1=(a:Int):=⟨q.1.toNat,by have:=C.stop;omega⟩
 have hal:a<n.1.length:=by have:=C.stop;omega
 have e1:f3.1=n:=by rw[hf3]
 have e2:f3.2.2.1=[]:=by rw[hf3]
 have e3:f3.2.2.2.1=List.replicate n.1.length q11:=by rw[hf3]
 have e4:f3.2.2.2.2.1=List.replicate n.2.2.1.length b00:=by rw[hf3]
 have e5:f3.2.2.2.2.2.1=out:=by rw[hf3]
 have hp100:=hZ.paths
 have hI3:SI n q.1 q.2.2.1 w f3:=by
  refine⟨e1,by rw[e3];simp,by rw[e4];simp,by rw[e5];exact hOk,⟨fun s p hq' => ?_,fun i b hb=> ?_⟩,fun s p hq' hne=> ?_⟩
  ·rw[e3] at hq'
   rw[List.eq_of_mem_replicate (List.mem_of_getElem? hq')]
   exact⟨fun e=>absurd rfl e,fun e=>absurd rfl e,fun e=>absurd rfl e⟩
  ·rw[e4] at hb
   rw[List.eq_of_mem_replicate (List.mem_of_getElem? hb)]
   exact fun e=>absurd rfl e
  ·rw[e3] at hq'
   rw[List.eq_of_mem_replicate (List.mem_of_getElem? hq')] at hne
   exact absurd rfl hne
 have hVw: ∀p∈n.2.2.2.2.1,q.2.2.1+p.2.2.1∈Zhn n q.2.2.1 w:=fun p hp=>List.mem_append_left _ (List.mem_cons_of_mem _ (List.mem_cons_of_mem _ (List.mem_map.2 ⟨p,hp,rfl⟩)))
 obtain⟨g,g1,g2,g3,g4,g5,g6⟩:=Zpc C (V:=Zhn n q.2.2.1 w) (T:=0) (s:=q.1) (t:=q.2.2.1) (prev:= -1) (k:=0) (js:=[]) e1 hI3.pl (by omega) ht ht.1 hVw (by rw[e2];simp) (fun p hp' a1 a2=>⟨.arrW hp' a1 a2, .rdyW hp' a1 a2⟩) hI3.snd .nil
 have hI4:=hI3.step g2 g3 (hI3.rc.step g2 g6)
 refine bex (fun r=>r=g) ⟨_,g1,rfl⟩ fun x hx=> ?_
 rw[hx]
 have hag:a<g.2.2.2.1.length:=by rw[hI4.pl];exact hal
 have hw0:0≤q.2.2.1+w:=by omega
 have m2:=Zik (n:=n) (V:=Zhn n q.2.2.1 w) (T:=0) g hag ht.1 hw0 hw0 (List.mem_append_left _ (List.mem_cons_self ..)) (List.mem_append_left _ (List.mem_cons_of_mem _ (List.mem_cons_self ..))) (-1)
 have n2:=Zk8 hag ht.1 hw0 (-1)
 have h2:=g3.imp (i:=a) (a:=q.2.2.1) (r:=q.2.2.1+w) (l:= -1) ⟨0,[], .nil,by rw[←ha];exact .here⟩ ⟨0,[], .nil,by rw[←ha];exact .init⟩
 have hI5:=hI4.step m2 h2 (hI4.rc.step m2 (Zhc g a _ _ _))
 have hiv:=Ze0 g hag q.2.2.1 (q.2.2.1+w) (-1)
 rw[←ha] at hiv
 rw[hiv]
 refine⟨_,rfl,hI5,⟨?_, ?_,fun p hp' =>(g4 p hp').mono m2⟩, ?_⟩
 ·rw[ha,Int.toNat_natCast];exact n2.1
 ·rw[ha,Int.toNat_natCast];exact n2.2
 ·show g.2.2.1.length≤100
  rw[e2] at g5
  simp only[List.length_nil,Nat.zero_add] at g5
  omega
end Q
namespace Q
open Tr Go
open Option (bind_some)
variable {n:ZaJ} {s0 t0 w:Int}
noncomputable def Zq7 (n:ZaJ) (q:Zbp):Int:=bif !decide (Znt n q=0) then Znt n q else bif q.2.2.2.1 then 22 else 0
theorem ZmV {n:ZaJ} (h:Fit n) (q:Zbp):F88 n q=some (Zq7 n q):=by
 unfold F88 Zq7
 rw[ZjY h]
 simp only[bind_some]
 cases decide (Znt n q=0)<;>cases q.2.2.2.1<;>rfl
theorem Zjf {n:ZaJ} (h:Fit n) (q:Zbp):F82 n q=some (Zq7 n q):=by
 unfold F82 Zq7
 rw[ZpM h]
 simp only[bind_some]
 cases decide (Znt n q=0)<;>cases q.2.2.2.1<;>rfl
theorem Zjv {n:ZaJ} {q:Zbp} :Zq7 n q=0↔Znt n q=0∧q.2.2.2.1=false:=by
 unfold Zq7
 by_cases h:Znt n q=0
 ·rw[decide_eq_true h]
  cases q.2.2.2.1<;>simp [h]
 ·rw[decide_eq_false h]
  simp [h]
structure Znu (n:ZaJ) (s0 t0 w:Int) (g:ScT):Prop where
 si:SI n s0 t0 w g
 lab:g.2.2.1.length<4000000000
 arr: ∀ {k:Nat} {s t:Int} {js:List Zbb},Der n s0 t0 w (.arr k s t) js→LeA g.2.2.2.1 s.toNat t
theorem ZrY (C:Ctx n s0 t0 w) {g:ScT} (hI:SI n s0 t0 w g) (hl:g.2.2.1.length<4000000000) (hB:Bas n s0 t0 w g) (hC: ∀i m,i<n.2.2.1.length→m+1< (Zaz n i).length→ZbN n i=false→Cls n i m g):Znu n s0 t0 w g:=by
 refine⟨hI,hl, ?_⟩
 have key: ∀ {f:ZoQ} {js:List Zbb},Der n s0 t0 w f js→match f with
   | .rdy _ s r=>LeY g.2.2.2.1 s.toNat r
   | .brd _ i c _=>c+1< (Zaz n i).length→LeB g.2.2.2.2.1 i (c:Int)
   | .lnk _ i c=>ZbN n i=false→LeB g.2.2.2.2.1 i (c:Int)
   | .on _ i c=>Vst n i c g
   | .rid _ s t=>LeA g.2.2.2.1 s.toNat t∧LeY g.2.2.2.1 s.toNat (t+(Zb6 n s).2.2.2.1)∧ ∀p∈n.2.2.2.2.1,Wlk s t g.2.2.2.1 p
   | .arr _ s t=>LeA g.2.2.2.1 s.toNat t:=by
  intro f js d
  induction d with
  |init=>exact hB.2.1
  |here=>exact hB.1
  |rdyW h1 h2 h3=>exact(hB.2.2 _ h1 h2 h3).2
  |arrW h1 h2 h3=>exact(hB.2.2 _ h1 h2 h3).1
  |board d h1 h2 h3 h4 h5 h6 ih=>
   intro hlast
   refine(hC _ _ h1 hlast h3).1 h5 ?_
   rw[h4]
   exact ih.weak h6
  | @on k i b c st js d h1 h2 ih=>
   obtain⟨x,x1,x2,x3⟩:=ih (by omega)
   obtain⟨c',rfl⟩: ∃c',c=c' +1:=⟨c - 1,by omega⟩
   have hok:=C.ok d
   exact(hC i c' hok.2.1 h2 hok.2.2.2).2 ⟨x,x1,x2,by omega⟩
  |stay d h1 h2 h3 ih=>exact fun _=>ih.2 _ _ _ h1 h2 (.inl rfl) h3
  |link d h1 h2 h3 h4 ih=>exact fun hc=>ih.2 _ _ _ h2 h3 (.inr ⟨h1,h4⟩) hc
  |linked d h1 ih=>exact fun _=>ih h1
  |ride d h1 ih=>exact ih.1 h1
  |change d ih=>exact ih.2.1
  |rdyV d h1 h2 h3 ih=>exact(ih.2.2 _ h1 h2 h3).2
  |arrR d ih=>exact ih.1
  |arrV d h1 h2 h3 ih=>exact(ih.2.2 _ h1 h2 h3).1
 exact @fun _ _ _ _ d=>key d
theorem Zrp (hZ:Zqn n) {g:ScT} (hp:g.2.2.2.1.length=n.1.length) (hr:g.2.2.2.2.1.length=n.2.2.1.length) (hb: ∀b∈g.2.2.2.2.1,b.1≤40):pot (Zhn n t0 w) g≤100032:=by
 have hm:=ZpH (t0:=t0) (w:=w) hZ
 have h1: ∀l:List Zd5,Zja (Zhn n t0 w) l≤l.length*12444:=by
  intro l
  unfold Zja
  induction l with
  |nil=>simp
  |cons p l ih=>
   have a:=ZoM (Zhn n t0 w) p.1
   have b:=ZoM (Zhn n t0 w) p.2.2.1
   simp only[List.map_cons,List.sum_cons,List.length_cons]
   omega
 have h2: ∀l:List Zkc,(∀b∈l,b.1≤40)→Zky l≤l.length*40:=by
  intro l hl
  unfold Zky
  induction l with
  |nil=>simp
  |cons b l ih=>
   have:=ih (fun x hx=>hl x (by simp [hx]))
   have hb:=hl b (by simp)
   have:Zr5 b≤40:=by
    unfold Zr5
    split
    ·omega
    ·omega
   simp only[List.map_cons,List.sum_cons,List.length_cons]
   omega
 have a:=h1 g.2.2.2.1
 have b:=h2 g.2.2.2.2.1 hb
 have hs:=hZ.stops
 have hn:=hZ.runs
 unfold pot
 have c:g.2.2.2.1.length*12444≤8*12444:=Nat.mul_le_mul_right _ (by omega)
 have d:g.2.2.2.2.1.length*40≤12*40:=Nat.mul_le_mul_right _ (by omega)
 omega
theorem ZmE {n:ZaJ} (h:Zqn n) (q:Zbp):Zqn (Za7 n q):=by
 refine⟨h.stops,by show (n.2.2.1.map _).length≤_;rw[List.length_map];exact h.runs, ?_, ?_⟩
 ·show (Zdx n q).length≤_
  have:=h.paths
  unfold Zdx
  split
  ·exact Nat.le_trans (List.length_filter_le _ _) this
  ·exact this
 ·show ((n.2.2.1.map (Zb0 n q)).map _).sum≤_
  rw[List.map_map]
  have: ((fun r:Zhp=>r.2.2.2.2.2.2.2.1.length) ∘Zb0 n q)=fun r=>r.2.2.2.2.2.2.2.1.length:=by
   funext r
   show ((r.2.2.2.2.2.2.2.1).map (Zbv n q)).length=_
   rw[List.length_map]
  rw[this]
  exact h.calls
theorem Zrv {n:ZaJ} (h:ZdV n) {s0:Int} (hs:0≤s0∧s0< (n.1.length:Int)) (b:Bool):0≤(bif b then(Zb6 n s0).2.2.2.1 else 0)∧(bif b then(Zb6 n s0).2.2.2.1 else 0)≤3600:=by
 cases b with
 |false=>exact⟨by simp,by simp⟩
 |true=>exact h.change s0 hs.1 hs.2
theorem Zqv {n0:ZaJ} {q:Zbp} (hfit:Fit n0) (hfew:Few n0) (hZ0:Zqn n0) (hq:Zq7 n0 q=0): ∃g,F89 n0 q=some (g,0)∧Ctx (Za7 n0 q) q.1 q.2.2.1 (bif q.2.2.2.2.2.2.2.2.2.1 then(Zb6 (Za7 n0 q) q.1).2.2.2.1 else 0)∧Whole n0∧qB n0.1.length q=true∧q.2.2.2.1=false∧
  Znu (Za7 n0 q) q.1 q.2.2.1 (bif q.2.2.2.2.2.2.2.2.2.1 then(Zb6 (Za7 n0 q) q.1).2.2.2.1 else 0) g:=by
 have hck:=ZmV hfit q
 rw[hq] at hck
 have hq0:=Zjv.1 hq
 obtain⟨hw0,hqb⟩:=ZjR.1 hq0.1
 have hcq:=ZjY hfit q
 rw[hq0.1] at hcq
 have hal:=ZkW hw0.sound hfew q hcq
 have hw:=ZkH q hfit.paths hw0
 have hfa:=Zow q hfit
 have hn:=hw.ok
 have hZ:=ZmE hZ0 q
 have hqb' :=hqb
 unfold qB inR at hqb'
 simp only[Bool.and_eq_true,decide_eq_true_eq] at hqb'
 obtain⟨hs0,_,ht0,hm,_⟩:=hqb'
 have hs0' :0≤q.1∧q.1< ((Za7 n0 q).1.length:Int):=hs0
 have hwt:=Zrv hn hs0' q.2.2.2.2.2.2.2.2.2.1
 have C:Ctx (Za7 n0 q) q.1 q.2.2.1 (bif q.2.2.2.2.2.2.2.2.2.1 then(Zb6 (Za7 n0 q) q.1).2.2.2.1 else 0):=⟨hn,hs0',ht0,hwt⟩
 obtain⟨g0,s1,s2,s3,s4⟩:=ZpX C hZ
 obtain⟨r,r1,_,_,r4⟩:=ZqK hfa
 have hr0:r.2.2=0:=by
  obtain⟨r',r1',_,r3'⟩:=Zft _ hfa
  rw[r1] at r1'
  cases r1'
  exact r3'.2 hw
 obtain⟨_,ys,y1,y2,y3⟩:=r4 hr0
 have hlen:ys.length≤60:=by
  have h1:=Zl8 (Za7 n0 q) _ (Nat.le_refl _)
  rw[List.take_length] at h1
  have h2:=y2.length_eq
  have h3:=hZ.calls
  omega
 have hpot:pot (Zhn (Za7 n0 q) q.2.2.1 (bif q.2.2.2.2.2.2.2.2.2.1 then(Zb6 (Za7 n0 q) q.1).2.2.2.1 else 0)) g0≤100032:=by
  refine Zrp hZ s2.pl s2.rl fun b hb=> ?_
  obtain⟨i,hi,rfl⟩:=List.getElem_of_mem hb
  by_cases e: (g0.2.2.2.2.1[i]).1= -1
  ·rw[e];decide
  ·obtain⟨k,c,hc,js,_,hd⟩:=s2.snd.brd i _ (List.getElem?_eq_getElem hi) e
   have hok:=C.ok hd
   have h32:c<32:=by
    have h1:=(hn.sound.many _ (List.getElem_mem hok.2.1)).2
    have h2:=hok.2.2.1
    rw[Zbf hok.2.1] at h2
    exact Nat.lt_of_lt_of_le h2 h1
   rw[hc]
   omega
 obtain⟨g,g1,g2,g3,g4,g5⟩:=ZrR C hZ y2 y3 hlen (100032+60) (s:=g0) (i:=0) (by omega) (Nat.zero_le _) s2 s3 (fun j hj=>absurd hj (Nat.not_lt_zero j)) (by simp) (by omega)
 refine⟨g, ?_,C,hw0,hqb,hq0.2,ZrY C g2 g5 g3 fun i m hi hm hc=> ?_⟩
 ·unfold F89
  rw[hck]
  simp only[bind_some,decide_true,Bool.not_true,cond_false]
  rw[hal]
  simp only[bind_some]
  rw[s1]
  simp only[bind_some]
  rw[y1]
  simp only[bind_some,decide_true,Bool.not_true,cond_false]
  refine Zd8 (fun r=>r=g) ⟨_,g1,rfl⟩ fun r hr=>by rw[hr]
 ·exact g4 _ (y2.mem_iff.2 (Zrs hi hm hc)) i m ⟨hi,hm,hc,rfl⟩
end Q
namespace Q
open Tr Go
open Option (bind_some)
theorem ZbV:F34=some true:=by kernel_rfl
theorem Zs6 {n:ZaJ} (h:ZlF Y31 n) (hp:n.2.2.2.2.1.length≤4096):Fit n:=by
 obtain⟨⟨_,h1⟩,⟨_,h2⟩,⟨_,h3⟩,_,_,⟨⟨_,h6⟩,_⟩,_⟩:=h
 refine⟨fun x hx=> ?_,fun x hx=> ?_,fun x hx=> ?_,fun x hx=> ?_,hp,fun x hx=> ?_⟩
 ·exact(h1 x hx).1
 ·exact(h2 x hx).1
 ·exact(h3 x hx).2.2.2.1
 ·exact(h3 x hx).2.2.2.2.2.2.2.1.1
 ·exact(h6 x hx).1
def Zg2 (l:List Zhp):Nat:=(l.map fun r=>r.2.2.2.2.2.2.2.1.length).sum
theorem Zk1 {l:List Zhp} {i:Nat} (h:i<l.length):Zg2 (l.take (i+1))=Zg2 (l.take i)+(l[i]).2.2.2.2.2.2.2.1.length:=by
 unfold Zg2
 rw[List.take_succ_eq_append_getElem h,List.map_append,List.sum_append]
 simp
theorem ZkD {n:ZaJ} (hr:n.2.2.1.length≤12): ∃k:Int,F32 n=some k∧((∀x∈n.2.2.1,x.2.2.2.2.2.2.2.1.length≤4096)→k≤60→Zg2 n.2.2.1≤60):=by
 unfold F32
 have key: ∀o:Option Int,(∃r,o=some r∧((∀x∈n.2.2.1,x.2.2.2.2.2.2.2.1.length≤4096)→r≤60→Zg2 n.2.2.1≤60))→ ∃k:Int,(Option.bind o fun x3=>some x3)=some k∧((∀x∈n.2.2.1,x.2.2.2.2.2.2.2.1.length≤4096)→k≤60→Zg2 n.2.2.1≤60):=by
  rintro o ⟨r,rfl,h⟩
  exact⟨r,rfl,h⟩
 refine key _ ?_
 refine ZbB n.2.2.1.length _ (fun i (st:Int×Int)=>st.2=(i:Int)∧((∀x∈n.2.2.1,x.2.2.2.2.2.2.2.1.length≤4096)→st.1=(Zg2 (n.2.2.1.take i):Int))) ?_ ?_ _ ⟨rfl,fun _=>rfl⟩
 ·rintro i ⟨a,j⟩ hi ⟨hj,ha⟩
  simp only at hj ha
  subst hj
  simp only[ZaG hi,cond_true,bind_some]
  by_cases h60:a≤60
  ·left
   rw[decide_eq_true h60]
   simp only[cond_true,Zag hi,bind_some,Zan hi (show _≤9223372036854775807 by omega)]
   refine⟨_,rfl,rfl,fun hall=> ?_⟩
   have hx:=hall _ (List.getElem_mem hi)
   rw[Zk1 hi]
   have ha' :=ha hall
   show IntKind.wrap .i64 _=_
   rw[Zaq (by omega) (by omega)]
   omega
  ·right
   rw[decide_eq_false h60]
   exact⟨_,rfl,fun _ e=>absurd e h60⟩
 ·rintro ⟨a,j⟩ ⟨hj,ha⟩
  simp only at hj ha
  subst hj
  rw[List.take_length] at ha
  simp only[ZaI,cond_false,bind_some]
  exact⟨_,rfl,fun hall e=>by have:=ha hall;omega⟩
theorem ZkC {n:ZaJ} (h:Whole n): ∀x∈n.2.2.1,x.2.2.2.2.2.2.2.1.length≤4096:=fun x hx=>by have:=(h.sound.many x hx).2;omega
theorem Zn7 {n:ZaJ} (h:ZlF Y31 n): ∃b,F35 n=some b∧(b=false→Fit n∧(Whole n→Zqn n∧Few n)):=by
 unfold F35
 by_cases h1: (8:Int)< (n.1.length:Int)
 ·rw[decide_eq_true h1];exact⟨true,rfl,fun e=>(nomatch e)⟩
 by_cases h2: (10:Int)< (n.2.1.length:Int)
 ·rw[decide_eq_false h1,decide_eq_true h2];exact⟨true,rfl,fun e=>(nomatch e)⟩
 by_cases h3: (12:Int)< (n.2.2.1.length:Int)
 ·rw[decide_eq_false h1,decide_eq_false h2,decide_eq_true h3];exact⟨true,rfl,fun e=>(nomatch e)⟩
 by_cases h4: (40:Int)< (n.2.2.2.1.length:Int)
 ·rw[decide_eq_false h1,decide_eq_false h2,decide_eq_false h3,decide_eq_true h4];exact⟨true,rfl,fun e=>(nomatch e)⟩
 by_cases h5: (100:Int)< (n.2.2.2.2.1.length:Int)
 ·rw[decide_eq_false h1,decide_eq_false h2,decide_eq_false h3,decide_eq_false h4,decide_eq_true h5];exact⟨true,rfl,fun e=>(nomatch e)⟩
 by_cases h6: (20:Int)< (n.2.2.2.2.2.1.1.length:Int)
 ·rw[decide_eq_false h1,decide_eq_false h2,decide_eq_false h3,decide_eq_false h4,decide_eq_false h5,decide_eq_true h6];exact⟨true,rfl,fun e=>(nomatch e)⟩
 rw[decide_eq_false h1,decide_eq_false h2,decide_eq_false h3,decide_eq_false h4,decide_eq_false h5,decide_eq_false h6]
 simp only[cond_false]
 obtain⟨k,k1,k2⟩:=ZkD (n:=n) (by omega)
 rw[k1]
 simp only[bind_some]
 by_cases hk: (60:Int)<k
 ·rw[decide_eq_true hk];exact⟨true,rfl,fun e=>(nomatch e)⟩
 ·rw[decide_eq_false hk]
  refine⟨false,rfl,fun _=>⟨Zs6 h (by omega),fun hw=> ?_⟩⟩
  have hall:=ZkC hw
  have hsum: (n.2.2.1.map fun r=>r.2.2.2.2.2.2.2.1.length).sum≤60:=k2 hall (by omega)
  exact⟨⟨by omega,by omega,by omega,hsum⟩,by omega,by omega,by omega,by omega,by omega,by omega,hall⟩
def ZsB (g:ScT) (s:Nat):Zd5:=(g.2.2.2.1[s]?).getD q11
def arrV (g:ScT) (s:Nat):Int:=(ZsB g s).1
def ZiB (g:ScT):List Int:=g.2.2.2.1.map fun p=>p.1
theorem Zny {n0:ZaJ} {q:Zbp} {g:ScT} (h:F89 n0 q=some (g,0)): (F89S.f (n0,q,())).isSome=true:=by
 show (F89 n0 q).isSome=true
 rw[h];rfl
theorem ZjT {n0:ZaJ} {q:Zbp} {g:ScT} (hl:g.2.2.2.1.length≤64) (h:F89 n0 q=some (g,0)):F85 n0 q=some (ZiB g,0):=by
 unfold F85
 rw[Zny h,h]
 simp only[cond_true,bind_some,decide_true,Bool.not_true,cond_false]
 refine Zd8 (fun r=>r=ZiB g) ?_ (fun r hr=>by rw[hr])
 refine ZbB g.2.2.2.1.length _ (fun i (st:List Int×List Zd5×Int)=>st=((g.2.2.2.1.take i).map (fun p=>p.1),g.2.2.2.1,(i:Int))) ?_ ?_ _ rfl
 ·rintro i _ hi rfl
  left
  have hg:Zas (decide (List.length ((g.2.2.2.1.take i).map fun p=>p.1)+List.length [(g.2.2.2.1[i]).1]≤Zay))=some ():=Zbn (by simp;omega)
  simp only[ZaG hi,cond_true,ZaX hi,bind_some,List.getElem?_eq_getElem hi,Zan hi (show _≤9223372036854775807 by omega),hg]
  exact⟨_,rfl,by rw[List.take_succ_eq_append_getElem hi,List.map_append];rfl⟩
 ·rintro _ rfl
  simp only[ZaI,cond_false,List.take_length]
  exact⟨_,rfl,rfl⟩
variable {n:ZaJ} {s0 t0 w:Int} {g:ScT}
theorem Znu.idxA (D:Znu n s0 t0 w g) {s:Nat} (hs:s<n.1.length):idx (ZiB g) (s:Int)=some (arrV g s):=by
 have hl:s<g.2.2.2.1.length:=by rw[D.si.pl];exact hs
 have hl2:s< (ZiB g).length:=by unfold ZiB;rw[List.length_map];exact hl
 have e: (ZiB g)[s]=arrV g s:=by unfold arrV ZsB;rw[Zai hl];simp [ZiB]
 rw[Zag hl2,e]
theorem Znu.len (D:Znu n s0 t0 w g): (ZiB g).length=n.1.length:=by unfold ZiB;rw[List.length_map,D.si.pl]
theorem Znu.sound (D:Znu n s0 t0 w g) {s:Nat} (h:arrV g s≠ -1): ∃k js,Ch g.2.2.1 (ZsB g s).2.2.2.1 js∧Der n s0 t0 w (.arr k (s:Int) (arrV g s)) js:=by
 unfold arrV ZsB at*
 by_cases hs:s<g.2.2.2.1.length
 ·rw[Zai hs] at h ⊢
  exact(D.si.snd.pls s _ (List.getElem?_eq_getElem hs)).arr h
 ·rw[List.getElem?_eq_none (by omega)] at h
  exact absurd rfl h
theorem Znu.complete (D:Znu n s0 t0 w g) {s:Nat} {k:Nat} {t:Int} {js:List Zbb} (d:Der n s0 t0 w (.arr k (s:Int) t) js):arrV g s≠ -1∧arrV g s≤t:=by
 obtain⟨p,p1,p2⟩:=D.arr d
 rw[Int.toNat_natCast] at p1
 unfold arrV ZsB
 rw[p1]
 exact p2
theorem Znu.nonneg (C:Ctx n s0 t0 w) (D:Znu n s0 t0 w g) (s:Nat):arrV g s= -1∨0≤arrV g s∧arrV g s≤3155932800:=by
 by_cases h:arrV g s= -1
 ·exact .inl h
 right
 obtain⟨k,js,_,d⟩:=D.sound h
 exact(C.ok d).2
theorem Zmt {n:ZaJ} (hS:Zec n) (hp:n.2.2.2.2.1.length≤4096) {q:Zbp} (hq:inR q.1 n.1.length=true) {L:List Zbb} (hj:L.length≤1000): ∃k:Int,F72 n q (L,())=some k∧(k=(L.length:Int)↔ ∀i,i<L.length→atE n q L i=0):=by
 unfold F72
 have key: ∀o:Option (Unit ⊕ Int),(∃r,o=some r∧((r= .inl ()∧ ∀i,i<L.length→atE n q L i=0)∨ ∃i,i<L.length∧r= .inr (i:Int)∧atE n q L i≠0))→
   ∃k:Int,(Option.bind o fun x2=>Sum.elim (fun _=>some (L.length:Int)) (fun y4=>some y4) x2)=some k∧(k=(L.length:Int)↔ ∀i,i<L.length→atE n q L i=0):=by
  rintro o ⟨r,rfl,⟨rfl,h⟩ | ⟨i,hi,rfl,h⟩⟩
  ·exact⟨_,rfl,fun _=>h,fun _=>rfl⟩
  ·exact⟨_,rfl,fun e=>by omega,fun e=>absurd (e i hi) h⟩
 refine key _ ?_
 refine ZbB L.length _ (fun i (st:Int)=>st=(i:Int)∧ ∀j,j<i→atE n q L j=0) ?_ ?_ _ ⟨rfl,fun j hj=>absurd hj (Nat.not_lt_zero j)⟩
 ·rintro i _ hi ⟨rfl,ha⟩
  simp only[ZaG hi,cond_true]
  rw[ZsF hS hp hq hi hj]
  simp only[bind_some]
  by_cases e:atE n q L i=0
  ·left
   rw[decide_eq_true e]
   refine⟨_,rfl,Zan hi (by omega),fun j hj=> ?_⟩
   by_cases e' :j=i
   ·subst e';exact e
   ·exact ha j (by omega)
  ·right
   rw[decide_eq_false e]
   exact⟨_,rfl, .inr ⟨i,hi,rfl,e⟩⟩
 ·rintro _ ⟨rfl,ha⟩
  simp only[ZaI,cond_false]
  exact⟨_,rfl, .inl ⟨rfl,ha⟩⟩
theorem Zrf (n:ZaJ) (h:ZlF Y31 n) (q:Zbp) (j:Ztw):F31 n q j=some true:=by
 obtain⟨L,⟨⟩⟩:=j
 unfold F31
 obtain⟨b,hb1,hb2⟩:=Zn7 h
 rw[hb1]
 cases b with
 |true=>simp only[bind_some,cond_true,ZbV]
 |false=>
  obtain⟨hfit,hsz⟩:=hb2 rfl
  simp only[bind_some,cond_false]
  rw[Zjf hfit]
  simp only[bind_some]
  by_cases hc:Zq7 n q=0
  rotate_left
  ·rw[decide_eq_false hc]
   simp only[Bool.not_false,cond_true,bind_some,ZbV]
  rw[decide_eq_true hc]
  simp only[Bool.not_true,cond_false,bind_some]
  by_cases hL:12<L.length
  ·rw[decide_eq_true (show (12:Int)< (L.length:Int) by omega)]
   simp only[cond_true,ZbV,bind_some]
  rw[decide_eq_false (show¬ (12:Int)< (L.length:Int) by omega)]
  simp only[cond_false]
  have hw0:=(ZjR.1 (Zjv.1 hc).1).1
  obtain⟨hZ,hfew⟩:=hsz hw0
  obtain⟨g,g1,C,hw,hqb,hbk,D⟩:=Zqv hfit hfew hZ hc
  have hqb' :=hqb
  unfold qB at hqb'
  simp only[Bool.and_eq_true,decide_eq_true_eq] at hqb'
  have hst: (Za7 n q).1.length=n.1.length:=rfl
  have hst2:=hZ.stops
  rw[ZjT (by rw[D.si.pl,hst];omega) g1]
  simp only[bind_some,decide_true,Bool.not_true,cond_false,D.len,hst]
  by_cases hl0:L.length=0
  ·rw[decide_eq_true (show (L.length:Int)=0 by omega)]
   simp only[cond_true,bind_some,ZbV]
  rw[decide_eq_false (show¬ (L.length:Int)=0 by omega)]
  simp only[cond_false]
  obtain⟨k,k1,k2⟩:=Zmt hw.sound hfit.paths hqb'.1 (L:=L) (by omega)
  rw[k1]
  simp only[bind_some]
  by_cases hk:k=(L.length:Int)
  rotate_left
  ·rw[decide_eq_false hk]
   simp only[Bool.not_false,cond_true,ZbV,bind_some]
  rw[decide_eq_true hk]
  have hat:=k2.1 hk
  have w1:IntKind.wrap .i64 ((L.length:Int) - 1)=((L.length - 1:Nat):Int):=by rw[Zaq (by omega) (by omega)];omega
  simp only[Bool.not_true,cond_false,w1,Zib (show L.length - 1<L.length by omega),bind_some]
  obtain⟨js,d⟩:=Zsj (n:=Za7 n q) (q:=q) C.net C.stop C.time hbk (L:=L) (by omega) (fun i hi=>Zp4.2 (hat i hi))
  have hok:=C.ok d
  obtain⟨s,hs⟩: ∃s:Nat,(lg L (L.length - 1)).2.2.2.2.2.1=(s:Int):=⟨(lg L (L.length - 1)).2.2.2.2.2.1.toNat,by have:=hok.1;omega⟩
  rw[hs] at d
  have hcm:=D.complete d
  have hnn:=D.nonneg C s
  have hsl:s< (Za7 n q).1.length:=by have:=hok.1;omega
  rw[hs]
  simp only[D.idxA hsl,bind_some]
  rw[decide_eq_true (show (0:Int)≤arrV g s by omega),decide_eq_true hcm.2]
  simp only[cond_true,ZbV,bind_some]
theorem rides42P (x:ZdD F31A) (h:Zkj F31A x):F31 x.1 x.2.1 x.2.2.1=some true:=Zrf _ h.1 _ _
end Q
