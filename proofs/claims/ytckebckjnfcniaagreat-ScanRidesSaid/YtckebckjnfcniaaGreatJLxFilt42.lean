/- filter: usable runs, open stops, the allowed network; queries. Conditions: the network is valid, its lists are short. -/
import Derived.KernelRfl
import Derived.Test.YtckebckjnfcniaaGreatJLwJa2842
import Derived.Test.YtckebckjnfcniaaGreatTsF
import Derived.Test.YtckebckjnfcniaaGreatTtA
namespace Q
open Tr Go
open Option (bind_some)
theorem Zqy {α β τ:Type} {step:List β×Int→Option ((List β×Int) ⊕ τ)} (l:List α) (f:α→List β) (R:List β→τ)
  (hstep: ∀i (hi:i<l.length),step ((l.take i).flatMap f,(i:Int))=some (.inl ((l.take i).flatMap f++f l[i],((i+1:Nat):Int))))
  (hend:step (l.flatMap f,(l.length:Int))=some (.inr (R (l.flatMap f)))):run step ([],(0:Int))=some (R (l.flatMap f)):=by
 refine Exists.elim (Zby (step:=step) l.length (fun r=>r=R (l.flatMap f)) (fun i st=>st=((l.take i).flatMap f,(i:Int))) ?_ ?_ ([],(0:Int)) (by simp)) ?_
 ·rintro i _ hi rfl
  left
  refine⟨_,hstep i hi, ?_⟩
  rw[List.take_succ_eq_append_getElem hi,List.flatMap_append]
  simp
 ·rintro _ rfl
  rw[List.take_length]
  exact⟨_,hend,rfl⟩
 ·rintro r ⟨h1,rfl⟩
  exact h1
theorem Zp9 {α β:Type} (f:α→β) (l:List α):l.flatMap (fun x=>[f x])=l.map f:=by
 induction l with
 |nil=>rfl
 |cons x l ih=>simp [ih]
theorem ZpR {α β:Type} {f:α→List β} (hf: ∀x,(f x).length≤1) (l:List α): (l.flatMap f).length≤l.length:=by
 induction l with
 |nil=>simp
 |cons x l ih=>have:=hf x;simp;simp at ih;omega
abbrev Zbo:=Int×Int×Int×Bool×Int×Int×Bool×Bool×Int×Bool×Unit
def ZqH (n:ZaJ) (r:Zho):Zd2:=(n.2.1[r.2.2.2.2.1.toNat]?).getD r0
def ZqD (n:ZaJ) (q:Zbo) (r:Zho):Bool:=Tr.useB q r (ZqH n r)
def s0:Zkl:=([],0,false,0,())
def Zb7 (n:ZaJ) (s:Int):Zkl:=(n.1[s.toNat]?).getD s0
def ZiI (n:ZaJ) (q:Zbo) (s:Int):Bool:=(Zb7 n s).2.2.1|| !q.2.2.2.2.2.2.1
def Zbx (n:ZaJ) (q:Zbo) (c:ZbN):ZbN:=if ZiI n q c.1 then c else(c.1,c.2.1,c.2.2.1,false,false,())
theorem Zq2 {n:ZaJ} (hS:Zd9 n) {r:Zho} (hr:r∈n.2.2.1):idx n.2.1 r.2.2.2.2.1=some (ZqH n r)∧ZqH n r∈n.2.1:=by
 have h:=hS.route _ hr
 have hi:inR r.2.2.2.2.1 n.2.1.length=true:=by simp [inR];omega
 refine⟨Zbl hi r0, ?_⟩
 unfold ZqH
 rw[Zai (show r.2.2.2.2.1.toNat<n.2.1.length by omega)]
 exact List.getElem_mem _
theorem Zre {n:ZaJ} (hS:Zd9 n) (q:Zbo) {r:Zho} (hr:r∈n.2.2.1):F15 n q r=some (ZqD n q r):=by
 obtain⟨h1,h2⟩:=Zq2 hS hr
 have hm:=(hS.mode _ h2).1
 unfold F15 Tr.useF
 rw[h1]
 simp only[bind_some,show decide ((0:Int)≤(ZqH n r).2.1)=true from decide_eq_true hm,Bool.or_true,cond_true]
 rfl
theorem ZsN {n:ZaJ} (hS:Zd9 n) {r:Zho} (hr:r∈n.2.2.1) {c:ZbN} (hc:c∈r.2.2.2.2.2.2.2.1):idx n.1 c.1=some (Zb7 n c.1):=by
 have h:=hS.call _ hr _ hc
 exact Zbl (show inR c.1 n.1.length=true by simp [inR];omega) s0
theorem ZqM {n:ZaJ} (q:Zbo) {s:Int} (h:idx n.1 s=some (Zb7 n s)):F14 n q s=some (ZiI n q s):=by
 unfold F14
 rw[h]
 simp only[bind_some]
 unfold ZiI
 cases (Zb7 n s).2.2.1<;>rfl
theorem ZmL {n:ZaJ} (hS:Zd9 n) (q:Zbo) {r:Zho} (hr:r∈n.2.2.1):F13 n q r.2.2.2.2.2.2.2.1=some (r.2.2.2.2.2.2.2.1.map (Zbx n q)):=by
 have hl:=(hS.many _ hr).2
 unfold F13
 rw[Zqy r.2.2.2.2.2.2.2.1 (fun c=>[Zbx n q c]) id ?_ ?_]
 ·simp only[bind_some,id,Zp9,List.length_map]
  generalize hm:r.2.2.2.2.2.2.2.1.map (Zbx n q)=m
  have hlen:m.length=r.2.2.2.2.2.2.2.1.length:=by rw[←hm,List.length_map]
  rw[←hlen]
  have e1:inb (m.length:Int) (m.length+1)=some m.length:=by
   unfold inb;rw[if_pos (by omega)];simp
  have e2:sliceB m.length m.length none (some (m.length:Int))=some (0,m.length):=by
   unfold sliceB
   simp only[if_pos (show (0:Int)≤(m.length:Int)∧(m.length:Int)≤(m.length:Int) from ⟨by omega,by omega⟩),bind_some,Int.toNat_natCast]
  rw[e1]
  simp only[bind_some]
  rw[e2]
  simp
 ·intro i hi
  have hc:=List.getElem_mem hi
  simp only[ZaG hi,cond_true,Zag hi,bind_some]
  rw[ZqM q (ZsN hS hr hc)]
  have hb:=ZpR (f:=fun c=>[Zbx n q c]) (by simp) (r.2.2.2.2.2.2.2.1.take i)
  rw[List.length_take] at hb
  simp only[bind_some]
  have e: (bif !ZiI n q (r.2.2.2.2.2.2.2.1[i]).1 then some (((r.2.2.2.2.2.2.2.1[i]).1,(r.2.2.2.2.2.2.2.1[i]).2.1,(r.2.2.2.2.2.2.2.1[i]).2.2.1,false,false,(r.2.2.2.2.2.2.2.1[i]).2.2.2.2.2):ZbN) else some r.2.2.2.2.2.2.2.1[i])=some (Zbx n q r.2.2.2.2.2.2.2.1[i]):=by
   unfold Zbx
   cases ZiI n q (r.2.2.2.2.2.2.2.1[i]).1<;>rfl
  erw[e]
  simp only[bind_some]
  rw[Zbk (by simp;simp at hb;omega),Zan hi (by omega)]
  rfl
 ·simp only[ZaI,cond_false];rfl
structure Few (n:ZaJ):Prop where
 stops:n.1.length≤4096
 routes:n.2.1.length≤4096
 runs:n.2.2.1.length≤4096
 links:n.2.2.2.1.length≤4096
 paths:n.2.2.2.2.1.length≤4096
 prods:n.2.2.2.2.2.1.1.length≤4096
 calls: ∀r∈n.2.2.1,r.2.2.2.2.2.2.2.1.length≤4096
theorem ZdT {α:Type} (l:List α) (h:l.length≤4096): (Option.bind (Zas (decide (List.length ([]:List Unit)+List.length l≤Zay))) fun _=>
 Option.bind (inb (↑(List.length ([]++l)):Int) (List.length ([]++l)+(1:Nat))) fun x1=>
 Option.bind (sliceB (List.length ([]++l)) x1 none (some (↑(List.length ([]++l)):Int))) fun x2=>some (List.take x2.2 ([]++l)))=some l:=by
 have e0:Zas (decide (List.length ([]:List Unit)+List.length l≤Zay))=some ():=by
  unfold Zas Zay
  rw[decide_eq_true (show List.length ([]:List Unit)+List.length l≤2 ^ 32 by simp;omega)];rfl
 have e1:inb (l.length:Int) (l.length+1)=some l.length:=by
  unfold inb;rw[if_pos (by omega)];simp
 have e2:sliceB l.length l.length none (some (l.length:Int))=some (0,l.length):=by
  unfold sliceB
  simp only[if_pos (show (0:Int)≤(l.length:Int)∧(l.length:Int)≤(l.length:Int) from ⟨by omega,by omega⟩),bind_some,Int.toNat_natCast]
 rw[e0]
 simp only[bind_some,List.nil_append]
 rw[e1]
 simp only[bind_some]
 rw[e2]
 simp
theorem ZoZ {n:ZaJ} (h:Few n):F37 n=some n:=by
 unfold F37
 have hs:F48 n.1=some n.1:=ZdT n.1 h.stops
 have hro:F46 n.2.1=some n.2.1:=ZdT n.2.1 h.routes
 have hru:F47 n.2.2.1=some n.2.2.1:=ZdT n.2.2.1 h.runs
 have hli:F44 n.2.2.2.1=some n.2.2.2.1:=ZdT n.2.2.2.1 h.links
 have hpa:F43 n.2.2.2.2.1=some n.2.2.2.2.1:=ZdT n.2.2.2.2.1 h.paths
 have hpr:F45 n.2.2.2.2.2.1.1=some n.2.2.2.2.2.1.1:=ZdT n.2.2.2.2.2.1.1 h.prods
 rw[hs,hro,hru,hli,hpa]
 simp only[bind_some]
 refine Zeg (fun r:ZaJ=>r=(n.1,n.2.1,n.2.2.1,n.2.2.2.1,n.2.2.2.2.1,n.2.2.2.2.2.1,())) (Zby n.2.2.1.length _ (fun i (st:ZaJ×Int)=>st=((n.1,n.2.1,n.2.2.1,n.2.2.2.1,n.2.2.2.2.1,n.2.2.2.2.2.1,()),(i:Int))) ?_ ?_ _ rfl) ?_
 ·rintro i _ hi rfl
  left
  have hc:F42 (n.2.2.1[i]).2.2.2.2.2.2.2.1=some (n.2.2.1[i]).2.2.2.2.2.2.2.1:=ZdT _ (h.calls _ (List.getElem_mem hi))
  simp only[ZaG hi,cond_true,ZaZ hi,bind_some,List.getElem?_eq_getElem hi,hc]
  refine⟨_,rfl, ?_⟩
  rw[Zan hi (by have:=h.runs;omega)]
  have e:List.set n.2.2.1 i ((n.2.2.1[i]).1,(n.2.2.1[i]).2.1,(n.2.2.1[i]).2.2.1,(n.2.2.1[i]).2.2.2.1,(n.2.2.1[i]).2.2.2.2.1,(n.2.2.1[i]).2.2.2.2.2.1,(n.2.2.1[i]).2.2.2.2.2.2.1,(n.2.2.1[i]).2.2.2.2.2.2.2.1,(n.2.2.1[i]).2.2.2.2.2.2.2.2)=n.2.2.1:=List.set_getElem_self hi
  erw[e]
 ·rintro _ rfl
  exact⟨_,by simp only[ZaI,cond_false],rfl⟩
 ·rintro _ rfl
  rw[hpr]
  rfl
def Zb4 (n:ZaJ) (q:Zbo) (r:Zho):Zho:=(r.1,r.2.1,r.2.2.1,r.2.2.2.1,r.2.2.2.2.1,r.2.2.2.2.2.1, !ZqD n q r,r.2.2.2.2.2.2.2.1.map (Zbx n q),())
def Zdt (n:ZaJ) (q:Zbo):List Zcr:=if q.2.2.2.2.2.2.1 then n.2.2.2.2.1.filter (fun p=>p.2.2.2.1) else n.2.2.2.2.1
def Za7 (n:ZaJ) (q:Zbo):ZaJ:=(n.1,n.2.1,n.2.2.1.map (Zb4 n q),n.2.2.2.1,Zdt n q,n.2.2.2.2.2.1,())
def Zd3 (n:ZaJ) (q:Zbo) (i:Nat):List Zho:=(n.2.2.1.take i).map (Zb4 n q)++n.2.2.1.drop i
theorem ZmP (n:ZaJ) (q:Zbo) {i:Nat} (hi:i≤n.2.2.1.length): (Zd3 n q i).length=n.2.2.1.length:=by
 simp [Zd3];omega
theorem Zmv (n:ZaJ) (q:Zbo) {i:Nat} (hi:i<n.2.2.1.length): (Zd3 n q i)[i]? =some n.2.2.1[i]:=by
 unfold Zd3
 rw[List.getElem?_append_right (by simp;omega)]
 simp only[List.length_map,List.length_take,Nat.min_eq_left (Nat.le_of_lt hi),Nat.sub_self,List.getElem?_drop,Nat.add_zero]
 exact List.getElem?_eq_getElem hi
theorem Zmw (n:ZaJ) (q:Zbo) {i:Nat} (hi:i<n.2.2.1.length): (Zd3 n q i).set i (Zb4 n q n.2.2.1[i])=Zd3 n q (i+1):=by
 unfold Zd3
 have hlen: ((n.2.2.1.take i).map (Zb4 n q)).length=i:=by simp;omega
 rw[List.set_append_right _ _ (by omega),hlen,Nat.sub_self,List.drop_eq_getElem_cons hi,List.set_cons_zero,List.take_succ_eq_append_getElem hi,List.map_append]
 simp
theorem Zll {n:ZaJ} (hS:Zd9 n) (hF:Few n) (q:Zbo) (hq:F10 n q=some 0):F12 n q=some (Za7 n q,0):=by
 unfold F12
 rw[hq]
 simp only[bind_some,decide_true,Bool.not_true,cond_false]
 rw[ZoZ hF]
 simp only[bind_some]
 refine Zeg (fun r:ZaJ=>r=(n.1,n.2.1,n.2.2.1.map (Zb4 n q),n.2.2.2.1,n.2.2.2.2.1,n.2.2.2.2.2.1,())) (Zby n.2.2.1.length _ (fun i (st:ZaJ×Int)=>st=((n.1,n.2.1,Zd3 n q i,n.2.2.2.1,n.2.2.2.2.1,n.2.2.2.2.2.1,()),(i:Int))) ?_ ?_ _ (by simp [Zd3])) ?_
 ·rintro i _ hi rfl
  left
  have hr:=List.getElem_mem hi
  have hl:=ZmP n q (Nat.le_of_lt hi)
  have hi' :i< (Zd3 n q i).length:=by omega
  simp only[ZaG hi,cond_true,Zag hi,bind_some,Zre hS q hr,ZaZ hi',Zmv n q hi,ZmL hS q hr]
  refine⟨_, ?_,rfl⟩
  rw[Zan hi (by have:=hF.runs;omega)]
  have hi2:i< ((Zd3 n q i).set i ((n.2.2.1[i]).1,(n.2.2.1[i]).2.1,(n.2.2.1[i]).2.2.1,(n.2.2.1[i]).2.2.2.1,(n.2.2.1[i]).2.2.2.2.1,(n.2.2.1[i]).2.2.2.2.2.1, !ZqD n q n.2.2.1[i],(n.2.2.1[i]).2.2.2.2.2.2.2)).length:=by rw[List.length_set];exact hi'
  erw[ZaZ hi2]
  simp only[bind_some]
  erw[List.getElem?_set_self hi']
  simp only[bind_some]
  erw[List.set_set]
  congr 2
  have:=Zmw n q hi
  rw[←this]
  rfl
 ·rintro _ rfl
  refine⟨_,by simp only[ZaI,cond_false];rfl, ?_⟩
  simp [Zd3]
 ·rintro _ rfl
  unfold Za7 Zdt
  cases hsf:q.2.2.2.2.2.2.1 with
  |false=>rfl
  |true=>
   simp only[cond_true,if_true]
   refine Zeg (fun r:ZaJ=>r=(n.1,n.2.1,n.2.2.1.map (Zb4 n q),n.2.2.2.1,n.2.2.2.2.1.filter (fun p=>p.2.2.2.1),n.2.2.2.2.2.1,())) (Zby n.2.2.2.2.1.length _ (fun i (st:ZaJ×Int)=>st=((n.1,n.2.1,n.2.2.1.map (Zb4 n q),n.2.2.2.1,(n.2.2.2.2.1.take i).filter (fun p=>p.2.2.2.1),n.2.2.2.2.2.1,()),(i:Int))) ?_ ?_ _ (by simp)) ?_
   ·rintro i _ hi rfl
    left
    have hb:=List.length_filter_le (fun p:Zcr=>p.2.2.2.1) (n.2.2.2.2.1.take i)
    rw[List.length_take] at hb
    have hp:=hF.paths
    simp only[ZaG hi,cond_true,Zag hi,bind_some]
    rw[Zan hi (by omega),List.take_succ_eq_append_getElem hi,List.filter_append]
    cases hv: (n.2.2.2.2.1[i]).2.2.2.1 with
    |false=>
     refine⟨_,rfl, ?_⟩
     simp [hv]
    |true=>
     simp only[cond_true]
     rw[Zbk (by simp;omega)]
     refine⟨_,rfl, ?_⟩
     simp [hv]
   ·rintro _ rfl
    refine⟨_,by simp only[ZaI,cond_false];rfl, ?_⟩
    rw[List.take_length]
   ·rintro _ rfl
    rfl
def qB (k:Nat) (q:Zbo):Bool:=inR q.1 k&& (inR q.2.1 k&& (decide (0≤q.2.2.1∧q.2.2.1≤3155932800) && (decide (0≤q.2.2.2.2.1∧q.2.2.2.2.1≤8) && (decide (0≤q.2.2.2.2.2.1∧q.2.2.2.2.2.1≤86400) && (decide (0≤q.2.2.2.2.2.2.2.2.1∧q.2.2.2.2.2.2.2.2.1≤255) && !(q.2.2.2.2.2.2.2.2.2.1&&q.2.2.2.1))))))
theorem Zk6 (x a b:Int):F11 x a b=some (decide (a≤x∧x≤b)):=Zc7 x a b
theorem Ze6 (x a b:Int):F77 x a b=some (decide (a≤x∧x≤b)):=Zc7 x a b
theorem ZeG (x:Int) {m:Nat} (hm:m≤9223372036854775807):F77 x 0 (IntKind.wrap .i64 ((m:Int) - 1))=some (inR x m):=Zio x hm
theorem Zne (k:Nat) (hk:k≤9223372036854775807) (q:Zbo):F73 (k:Int) q=some (qB k q):=by
 unfold F73 qB
 simp only[Ze6]
 rw[show decide ((0:Int)≤q.1∧q.1≤IntKind.wrap .i64 ((k:Int) - 1))=inR q.1 k from Option.some.inj ((Ze6 _ _ _).symm.trans (ZeG q.1 hk)),show decide ((0:Int)≤q.2.1∧q.2.1≤IntKind.wrap .i64 ((k:Int) - 1))=inR q.2.1 k from Option.some.inj ((Ze6 _ _ _).symm.trans (ZeG q.2.1 hk))]
 simp only[bind_some]
 generalize inR q.1 k=b1
 generalize inR q.2.1 k=b2
 generalize decide ((0:Int)≤q.2.2.1∧q.2.2.1≤3155932800)=b3
 generalize decide ((0:Int)≤q.2.2.2.2.1∧q.2.2.2.2.1≤8)=b4
 generalize decide ((0:Int)≤q.2.2.2.2.2.1∧q.2.2.2.2.2.1≤86400)=b5
 generalize decide ((0:Int)≤q.2.2.2.2.2.2.2.2.1∧q.2.2.2.2.2.2.2.2.1≤255)=b6
 generalize q.2.2.2.2.2.2.2.2.2.1=b7
 generalize q.2.2.2.1=b8
 cases b1<;>try rfl
 cases b2<;>try rfl
 cases b3<;>try rfl
 cases b4<;>try rfl
 cases b5<;>try rfl
 cases b6<;>try rfl
 cases b7<;>cases b8<;>rfl
open Classical in
noncomputable def Znu (n:ZaJ) (q:Zbo):Int:=if Whole n then(if qB n.1.length q=true then 0 else 22) else 21
theorem Zkj {n:ZaJ} {q:Zbo} :Znu n q=0↔Whole n∧qB n.1.length q=true:=by
 unfold Znu
 split
 ·next h=>split<;>simp_all
 ·next h=>simp [h]
open Classical in
theorem ZkP {n:ZaJ} (h:Fit n):F60 n=some (decide (Whole n)):=by
 obtain⟨r,_,h2,h3⟩:=Zfv n h
 unfold F60
 rw[h2]
 simp only[bind_some]
 congr 1
 exact decide_eq_decide.2 h3
open Classical in
theorem Zqc {n:ZaJ} (h:Fit n) (q:Zbo):F70 n q=some (Znu n q):=by
 unfold F70 Znu
 rw[ZkP h]
 simp only[bind_some]
 by_cases hW:Whole n
 ·rw[decide_eq_true hW,if_pos hW]
  have hs:=hW.sound.stops
  simp only[Bool.not_true,cond_false]
  rw[Zne n.1.length (by omega)]
  simp only[bind_some]
  cases qB n.1.length q<;>rfl
 ·rw[decide_eq_false hW,if_neg hW];rfl
theorem ZjK {n:ZaJ} (h:Fit n) (q:Zbo):F10 n q=some (Znu n q):=by
 obtain⟨r,h1,_,h3⟩:=Zfv n h
 unfold F10 Znu
 rw[h1]
 simp only[bind_some]
 by_cases hW:Whole n
 ·rw[decide_eq_true (h3.2 hW),if_pos hW]
  have hk:n.1.length≤9223372036854775807:=by have:=hW.sound.stops;omega
  simp only[Bool.not_true,cond_false,Zk6]
  rw[show decide ((0:Int)≤q.1∧q.1≤IntKind.wrap .i64 ((n.1.length:Int) - 1))=inR q.1 n.1.length from Option.some.inj ((Ze6 _ _ _).symm.trans (ZeG q.1 hk)),show decide ((0:Int)≤q.2.1∧q.2.1≤IntKind.wrap .i64 ((n.1.length:Int) - 1))=inR q.2.1 n.1.length from Option.some.inj ((Ze6 _ _ _).symm.trans (ZeG q.2.1 hk))]
  unfold qB
  simp only[bind_some]
  generalize inR q.1 n.1.length=b1
  generalize inR q.2.1 n.1.length=b2
  generalize decide ((0:Int)≤q.2.2.1∧q.2.2.1≤3155932800)=b3
  generalize decide ((0:Int)≤q.2.2.2.2.1∧q.2.2.2.2.1≤8)=b4
  generalize decide ((0:Int)≤q.2.2.2.2.2.1∧q.2.2.2.2.2.1≤86400)=b5
  generalize decide ((0:Int)≤q.2.2.2.2.2.2.2.2.1∧q.2.2.2.2.2.2.2.2.1≤255)=b6
  generalize q.2.2.2.2.2.2.2.2.2.1=b7
  generalize q.2.2.2.1=b8
  cases b1<;>try rfl
  cases b2<;>try rfl
  cases b3<;>try rfl
  cases b4<;>try rfl
  cases b5<;>try rfl
  cases b6<;>try rfl
  cases b7<;>cases b8<;>rfl
 ·rw[decide_eq_false (fun e=>hW (h3.1 e)),if_neg hW];rfl
theorem Zm5 {c l:List Zcr} (h:Zbs c l=true):c=l:=by
 unfold Zbs at h
 rw[Bool.and_eq_true,decide_eq_true_eq,Option.isNone_iff_eq_none] at h
 obtain⟨h1,h2⟩:=h
 have h2:=ZaE.1 h2
 refine List.ext_getElem h1 fun i hi hi' => ?_
 have:=h2 i hi
 unfold eqF at this
 rw[Zai hi,Zai hi'] at this
 have hs:ZgZ c[i] l[i]=true:=by
  by_cases hs:ZgZ c[i] l[i]=true
  ·exact hs
  ·rw[if_neg hs] at this;simp at this
 unfold ZgZ at hs
 simp only[Bool.and_eq_true,decide_eq_true_eq,beq_iff_eq] at hs
 exact Prod.ext hs.1 (Prod.ext hs.2.1 (Prod.ext hs.2.2.1 (Prod.ext hs.2.2.2 rfl)))
theorem Zju (l:List Zcr):Zbs l l=true:=by
 unfold Zbs
 rw[Bool.and_eq_true,decide_eq_true_eq,Option.isNone_iff_eq_none]
 refine⟨rfl,ZaE.2 fun i hi=> ?_⟩
 unfold eqF ZgZ
 simp
theorem Zmj {k:Nat} {l:List Zcr} : (∀i,i<l.length→Zbq k l i=0)↔(∀p∈l,ZcR k p=false∧Zc1 p=false)∧l.Pairwise fun a b=>ZcT a≠ZcT b:=by
 constructor
 ·intro h
  refine⟨fun p hp=> ?_,List.pairwise_iff_getElem.2 fun i j hi hj hij e=> ?_⟩
  ·obtain⟨i,hi,rfl⟩:=List.getElem_of_mem hp
   have:=Zca (h i hi)
   rw[Zai hi] at this
   exact⟨this.1,this.2.1⟩
  ·have:=(Zca (h j hj)).2.2
   refine this ⟨i,hij, ?_⟩
   rw[Zai hi,Zai hj];exact e
 ·rintro ⟨h1,h2⟩ i hi
  obtain⟨a,b⟩:=h1 _ (List.getElem_mem hi)
  unfold Zbq
  rw[Zai hi,if_neg (by rw[a];simp),if_neg (by rw[b];simp),if_neg]
  rintro ⟨j,hj,e⟩
  rw[Zai (show j<l.length by omega)] at e
  exact List.pairwise_iff_getElem.1 h2 j i (by omega) hi hj e
theorem ZgL {α β:Type} (p:β→Bool) (f:α→List β) (l:List α): (l.flatMap f).filter p=l.flatMap fun x=>(f x).filter p:=by
 induction l with
 |nil=>rfl
 |cons x l ih=>simp [List.filter_append,ih]
theorem ZnV (a b:Nat) (d f:Int): (Zc2 a b d f).filter (fun p=>p.2.2.2.1)=Zc2 a b f f:=by
 unfold Zc2
 by_cases h:f=d
 ·subst h
  rw[if_pos rfl,List.append_nil]
  split<;>simp
 ·rw[if_neg h,if_pos rfl,List.append_nil,List.filter_append]
  have e1: (if 0<d∧d≤14400 then [((a:Int),(b:Int),d,decide (f=d),())] else []).filter (fun p:ZcM=>p.2.2.2.1)=[]:=by
   split<;>simp [h]
  rw[e1]
  split<;>simp
theorem Zog (it:Nat→Nat→List ZcM) (n m:Nat): (Zfc it n m).filter (fun p=>p.2.2.2.1)=Zfc (fun a b=>(it a b).filter (fun p=>p.2.2.2.1)) n m:=by
 unfold Zfc Zi5
 rw[ZgL]
 congr 1;funext a
 rw[ZgL]
 congr 1;funext b
 split<;>rfl
theorem ZkD {k:Nat} (hk:k≤64) {l:List Zcr} (hl:l.length≤4096) (hz: ∀i,i<l.length→Zbq k l i=0) (hc: ∀c,F57 l (k:Int)=some c→Zbs c l=true):
  (∀i,i< (l.filter fun p=>p.2.2.2.1).length→Zbq k (l.filter fun p=>p.2.2.2.1) i=0)∧ ∀c,F57 (l.filter fun p=>p.2.2.2.1) (k:Int)=some c→Zbs c (l.filter fun p=>p.2.2.2.1)=true:=by
 obtain⟨z1,z2⟩:=Zmj.1 hz
 have hz' : ∀i,i< (l.filter fun p=>p.2.2.2.1).length→Zbq k (l.filter fun p=>p.2.2.2.1) i=0:=Zmj.2 ⟨fun p hp=>z1 p (List.mem_filter.1 hp).1,z2.filter _⟩
 refine⟨hz',fun c h=> ?_⟩
 have hF:=Zpf hz
 have hF' :=Zpf hz'
 have hl' : (l.filter fun p=>p.2.2.2.1).length≤4096:=Nat.le_trans (List.length_filter_le _ _) hl
 obtain⟨c0,a1,a2,_⟩:=Ze4 hk hF hl
 obtain⟨c1,b1,b2,_⟩:=Ze4 hk hF' hl'
 have v0:=Ze2 hk hF hl (fun a b=>(Zim hF a b).imp id fun h=>h.2)
 have v1:=Ze2 hk hF' hl' (fun a b=>(Zim hF' a b).imp id fun h=>h.2)
 rw[a1] at v0
 rw[b1] at v1
 have e0:=Zm5 (hc c0 a2)
 obtain rfl:c1=c:=Option.some.inj (b2.symm.trans h)
 have ed: ∀free,EdP (l.filter fun p=>p.2.2.2.1) free=EdP l true:=by
  intro free
  funext u v w
  refine propext ⟨fun⟨p,hp,_,h⟩=> ?_,fun⟨p,hp,h1,h⟩=> ?_⟩
  ·obtain⟨hp1,hp2⟩:=List.mem_filter.1 hp
   exact⟨p,hp1,fun _=>hp2,h⟩
  ·have:=h1 rfl
   exact⟨p,List.mem_filter.2 ⟨hp,this⟩,fun _=>this,h⟩
 have key:c1=l.filter fun p=>p.2.2.2.1:=by
  rw[Option.some.inj v1]
  conv=>rhs;rw[←e0,Option.some.inj v0]
  rw[Zog,ed,ed]
  congr 1;funext a b
  exact(ZnV a b _ _).symm
 rw[key]
 exact Zju _
theorem Zg5 (n:ZaJ) (q:Zbo) (l:List ZbN) (i:Nat): (((l.map (Zbx n q))[i]?).getD c0).1=((l[i]?).getD c0).1∧(((l.map (Zbx n q))[i]?).getD c0).2.1=((l[i]?).getD c0).2.1∧(((l.map (Zbx n q))[i]?).getD c0).2.2.1=((l[i]?).getD c0).2.2.1:=by
 rw[List.getElem?_map]
 cases l[i]? with
 |none=>exact⟨rfl,rfl,rfl⟩
 |some c=>
  simp only[Option.map_some,Option.getD_some]
  unfold Zbx
  split<;>exact⟨rfl,rfl,rfl⟩
theorem Zkn (n:ZaJ) (q:Zbo) (l:List ZbN) (k lo hi:Int):ZdN (l.map (Zbx n q)) k lo hi=ZdN l k lo hi:=by
 have h:Zhn (l.map (Zbx n q)) k lo hi=Zhn l k lo hi:=by
  funext i
  obtain⟨a1,a2,a3⟩:=Zg5 n q l i
  obtain⟨b1,b2,b3⟩:=Zg5 n q l (i - 1)
  unfold Zhn ZjA ZjB Zkh
  rw[a1,a2,a3,b1,b3]
 unfold ZdN
 rw[List.length_map,h]
theorem ZlA (n:ZaJ) (q:Zbo) (a:Int): (rn (Za7 n q) a).2.2.2.2.2.2.2.1=(rn n a).2.2.2.2.2.2.2.1.map (Zbx n q):=by
 unfold rn
 show (((n.2.2.1.map (Zb4 n q))[a.toNat]?).getD u0).2.2.2.2.2.2.2.1=_
 rw[List.getElem?_map]
 cases n.2.2.1[a.toNat]? <;>rfl
theorem Zk8 (n:ZaJ) (q:Zbo) (i:Nat):Zb2 (Za7 n q) i=Zb2 n i:=by
 have hlen: (Za7 n q).2.2.1.length=n.2.2.1.length:=List.length_map ..
 unfold Zb2 ZlS Zns
 simp only[ZlA,List.length_map,hlen]
 have hcl: ∀ (l:List ZbN) (x:Int),(cl (l.map (Zbx n q)) x).1=(cl l x).1:=fun l x=>(Zg5 n q l _).1
 simp only[hcl]
 rfl
theorem ZmM (n:ZaJ) (q:Zbo) {i:Nat} (hi:i<n.2.2.1.length):Zil (Za7 n q) i=Zil n i:=by
 have hg: ∀j,j<n.2.2.1.length→((Za7 n q).2.2.1[j]?).getD u0=Zb4 n q ((n.2.2.1[j]?).getD u0):=by
  intro j hj
  show ((n.2.2.1.map (Zb4 n q))[j]?).getD u0=_
  rw[List.getElem?_map,List.getElem?_eq_getElem hj];rfl
 unfold Zil
 rw[hg i hi]
 have hd: (∃j,j<i∧runK (((Za7 n q).2.2.1[j]?).getD u0)=runK (Zb4 n q ((n.2.2.1[i]?).getD u0)))↔ ∃j,j<i∧runK ((n.2.2.1[j]?).getD u0)=runK ((n.2.2.1[i]?).getD u0):=by
  constructor
  ·rintro ⟨j,hj,e⟩
   rw[hg j (by omega)] at e
   exact⟨j,hj,e⟩
  ·rintro ⟨j,hj,e⟩
   refine⟨j,hj, ?_⟩
   rw[hg j (by omega)]
   exact e
 have hcE:ZdN (Zb4 n q ((n.2.2.1[i]?).getD u0)).2.2.2.2.2.2.2.1 ((Za7 n q).1.length:Int) 0 3155932800=ZdN ((n.2.2.1[i]?).getD u0).2.2.2.2.2.2.2.1 (n.1.length:Int) 0 3155932800:=Zkn n q _ _ _ _
 simp only[hcE,hd]
 rfl
theorem ZkU {n:ZaJ} (q:Zbo) (hp:n.2.2.2.2.1.length≤4096) (h:Whole n):Whole (Za7 n q):=by
 have hlen: (Za7 n q).2.2.1.length=n.2.2.1.length:=List.length_map ..
 have hP: (∀i,i< (Zdt n q).length→Zbq n.1.length (Zdt n q) i=0)∧ ∀c,F57 (Zdt n q) (n.1.length:Int)=some c→Zbs c (Zdt n q)=true:=by
  unfold Zdt
  split
  ·exact ZkD h.sound.stops hp (ZaE.1 h.q) h.w
  ·exact⟨ZaE.1 h.q,h.w⟩
 refine⟨h.s,h.t,by rw[hlen];exact h.u, ?_,h.v, ?_,ZaE.2 hP.1,hP.2,h.z⟩
 ·rw[hlen]
  exact ZaE.2 fun i hi=>by rw[ZmM n q hi];exact ZaE.1 h.f i hi
 ·exact ZaE.2 fun i hi=>by rw[Zk8];exact ZaE.1 h.g i hi
theorem Zpj {n:ZaJ} (q:Zbo) (h:Fit n):Fit (Za7 n q):=by
 refine⟨h.stops,h.routes, ?_, ?_, ?_,h.prods⟩
 ·intro r hr
  obtain⟨x,hx,rfl⟩:=List.mem_map.1 (show r∈n.2.2.1.map (Zb4 n q) from hr)
  exact h.runs x hx
 ·intro r hr
  obtain⟨x,hx,rfl⟩:=List.mem_map.1 (show r∈n.2.2.1.map (Zb4 n q) from hr)
  show (x.2.2.2.2.2.2.2.1.map _).length≤_
  rw[List.length_map]
  exact h.calls x hx
 ·show (Zdt n q).length≤_
  unfold Zdt
  split
  ·exact Nat.le_trans (List.length_filter_le _ _) h.paths
  ·exact h.paths
end Q
namespace Q
open Tr Go
open Option (bind_some)
abbrev Zbb:=Bool×Int×Int×Int×Int×Int×Int×Int×Bool×Unit
abbrev Ztu:=List Zbb×Unit
def Za2 (n:ZaJ) (x:Zbb):List ZbN:=(rn n x.2.1).2.2.2.2.2.2.2.1
def Zbi (n:ZaJ) (x:Zbb):Bool:=inR x.2.1 n.2.2.1.length&& (decide (0≤x.2.2.1) && (decide (x.2.2.1<x.2.2.2.1) &&decide (x.2.2.2.1< ((Za2 n x).length:Int))))
theorem ZkI (n:ZaJ) (x:Zbb):F69 n x=some (Zbi n x):=by
 unfold F69 Zbi
 by_cases h:inR x.2.1 n.2.2.1.length=true
 ·have e:idx n.2.2.1 x.2.1=some (rn n x.2.1):=Zbl h u0
  simp only[e,bind_some,h]
  unfold inR at h
  simp only[Bool.and_eq_true,decide_eq_true_eq] at h
  rw[decide_eq_false (show¬x.2.1<0 by omega),decide_eq_false (show¬ (n.2.2.1.length:Int)≤x.2.1 by omega)]
  simp only[cond_false,bind_some]
  unfold Za2
  generalize decide (0≤x.2.2.1)=a1
  generalize decide (x.2.2.1<x.2.2.2.1)=a2
  generalize decide (x.2.2.2.1< ((rn n x.2.1).2.2.2.2.2.2.2.1.length:Int))=a3
  cases a1<;>cases a2<;>cases a3<;>rfl
 ·have h' :inR x.2.1 n.2.2.1.length=false:=by simpa using h
  rw[h']
  unfold inR at h
  simp only[Bool.and_eq_true,decide_eq_true_eq] at h
  by_cases h1:x.2.1<0
  ·rw[decide_eq_true h1];rfl
  ·rw[decide_eq_false h1,decide_eq_true (show (n.2.2.1.length:Int)≤x.2.1 by omega)];rfl
theorem ZhH {n:ZaJ} (h:Zd9 n) {a:Int} (h0:0≤a) (h1:a< (n.1.length:Int)):idx n.1 a=some (Zb7 n a)∧0≤(Zb7 n a).2.1∧(Zb7 n a).2.1<16:=by
 have hi:inR a n.1.length=true:=by unfold inR;rw[decide_eq_true h0,decide_eq_true h1];rfl
 refine⟨Zbl hi s0, ?_⟩
 have hl:a.toNat<n.1.length:=by omega
 unfold Zb7
 rw[Zai hl]
 exact h.zone _ (List.getElem_mem hl)
abbrev Zck (x:Zbb):Bool:=x.2.2.2.2.2.2.2.2.1
theorem Zk3 {c d:Bool} {e:Int} {K:Option Int} {k:Int} (h:K=some k): (Option.bind (bif c then some true else some d) fun x=>bif x then some e else K)=some (bif c||d then e else k):=by
 subst h;cases c<;>cases d<;>rfl
theorem Zfh {c d:Bool} {e:Int} {K:Option Int} {k:Int} (h:K=some k): (Option.bind (bif c then some d else some false) fun x=>bif x then some e else K)=some (bif c&&d then e else k):=by
 subst h;cases c<;>cases d<;>rfl
theorem ZiU {c:Bool} {e:Int} {K:Option Int} {k:Int} (h:K=some k): (bif c then some e else K)=some (bif c then e else k):=by
 subst h;cases c<;>rfl
theorem ZdE {o:Option Bool} {c:Bool} {e:Int} {K:Option Int} {k:Int} (ho:o=some c) (h:K=some k): (Option.bind o fun x=>bif x then some e else K)=some (bif c then e else k):=by
 subst ho;subst h;cases c<;>rfl
theorem ZaA {c:Bool} {e k:Int} (he:e≠0): (bif c then e else k)=0↔c=false∧k=0:=by
 cases c<;>simp [he]
def ZqN (q:Zbo) (t:Zd2):Bool:=decide (q.2.2.2.2.2.2.2.2.1=(0:Int)) ||decide (ZoA .i64 (Int.fdiv q.2.2.2.2.2.2.2.2.1 (2 ^ (min (Int.toNat t.2.1) 64))) 1=1)
theorem ZpG (a:Int):ZoA .i64 a 1=0∨ZoA .i64 a 1=1:=by
 unfold ZoA
 have h: (BitVec.ofInt IntKind.i64.bits a &&& BitVec.ofInt IntKind.i64.bits 1).toNat=(BitVec.ofInt IntKind.i64.bits a).toNat % 2:=by
  rw[BitVec.toNat_and]
  show _ &&& 1=_
  rw[Nat.and_one_is_mod]
 rw[h]
 have: (BitVec.ofInt IntKind.i64.bits a).toNat % 2=0∨(BitVec.ofInt IntKind.i64.bits a).toNat % 2=1:=by omega
 rcases this with h|h<;>rw[h]
 ·left;rfl
 ·right;rfl
theorem ZpE (q:Zbo) (t:Zd2) (h0:0≤t.2.1): (bif !decide (q.2.2.2.2.2.2.2.2.1=(0:Int)) then Option.bind (ZqZ .i64 q.2.2.2.2.2.2.2.2.1 t.2.1) fun x=>some (decide (ZoA .i64 x (1:Int)=(0:Int))) else some false)=some (!ZqN q t):=by
 unfold ZqN
 have hs:ZqZ .i64 q.2.2.2.2.2.2.2.2.1 t.2.1=some (Int.fdiv q.2.2.2.2.2.2.2.2.1 (2 ^ (min (Int.toNat t.2.1) 64))):=by
  unfold ZqZ
  rw[if_neg (by omega)]
  rfl
 rw[hs]
 simp only[bind_some]
 cases decide (q.2.2.2.2.2.2.2.2.1=(0:Int)) with
 |true=>rfl
 |false=>
  rcases ZpG (Int.fdiv q.2.2.2.2.2.2.2.2.1 (2 ^ (min (Int.toNat t.2.1) 64))) with h|h<;>rw[h]<;>rfl
def Zhu (n:ZaJ) (q:Zbo) (x:Zbb):Int:=
 bif !decide ((cl (Za2 n x) x.2.2.1).1=x.2.2.2.2.1) || !decide ((cl (Za2 n x) x.2.2.2.1).1=x.2.2.2.2.2.1) then 24 else
 bif !decide ((cl (Za2 n x) x.2.2.1).2.2.1=x.2.2.2.2.2.2.1) || !decide ((cl (Za2 n x) x.2.2.2.1).2.1=x.2.2.2.2.2.2.2.1) then 10 else
 bif (rn n x.2.1).2.2.2.2.2.2.1 then 27 else
 bif q.2.2.2.2.2.2.1&& !(rn n x.2.1).2.2.2.2.2.1 then 29 else
 bif q.2.2.2.2.2.2.2.1&& !(ZqH n (rn n x.2.1)).2.2.1 then 30 else
 bif !ZqN q (ZqH n (rn n x.2.1)) then 31 else
 bif !Zck x&& !(cl (Za2 n x) x.2.2.1).2.2.2.1 then 25 else
 bif !Zck x&& !ZiI n q x.2.2.2.2.1 then 29 else 0
theorem ZjW {n:ZaJ} {x:Zbb} (hx:Zbi n x=true):idx n.2.2.1 x.2.1=some (rn n x.2.1)∧rn n x.2.1∈n.2.2.1∧idx (rn n x.2.1).2.2.2.2.2.2.2.1 x.2.2.1=some (cl (Za2 n x) x.2.2.1)∧idx (rn n x.2.1).2.2.2.2.2.2.2.1 x.2.2.2.1=some (cl (Za2 n x) x.2.2.2.1):=by
 unfold Zbi at hx
 simp only[Bool.and_eq_true,decide_eq_true_eq] at hx
 obtain⟨hr,h0,h1,h2⟩:=hx
 unfold Za2 at h2
 refine⟨Zbl hr u0,Zmo hr,Zbl ?_ c0,Zbl ?_ c0⟩<;> (unfold inR;rw[Bool.and_eq_true,decide_eq_true_eq,decide_eq_true_eq];omega)
theorem ZjN {n:ZaJ} (q:Zbo) {s:Int} (h:inR s n.1.length=true):F71 n q s=some (ZiI n q s):=by
 unfold F71 ZiI
 rw[show idx n.1 s=some (Zb7 n s) from Zbl h s0]
 simp only[bind_some]
 cases q.2.2.2.2.2.2.1<;>cases (Zb7 n s).2.2.1<;>rfl
theorem ZpM {n:ZaJ} (hS:Zd9 n) (q:Zbo) {x:Zbb} (hx:Zbi n x=true) (hf:inR x.2.2.2.2.1 n.1.length=true):F80 n q x=some (Zhu n q x):=by
 obtain⟨h1,h2,h3,h4⟩:=ZjW hx
 obtain⟨h5,h6⟩:=Zq2 hS h2
 have hm:=(hS.mode _ h6).1
 unfold F80 Zhu
 rw[h1]
 simp only[bind_some]
 rw[h3,h4,h5]
 simp only[bind_some]
 refine Zk3 (Zk3 (ZiU (Zfh (Zfh (ZdE (ZpE q _ hm) (Zfh (ZdE (c:= !Zck x&& !ZiI n q x.2.2.2.2.1) ?_ rfl)))))))
 rw[ZjN q hf]
 unfold Zck
 cases x.2.2.2.2.2.2.2.2.1<;>rfl
def Zc6 (x:Zbb) (p:Zcr):Bool:=decide (p.1=x.2.2.2.2.1) && (decide (p.2.1=x.2.2.2.2.2.1) &&decide (p.2.2.1=IntKind.wrap .i64 (x.2.2.2.2.2.2.2.1 - x.2.2.2.2.2.2.1)))
def ZfU (q:Zbo) (p:Zcr):Bool:=p.2.2.2.1|| !q.2.2.2.2.2.2.1
def Zf2 (n:ZaJ) (q:Zbo) (x:Zbb):Int:=bif n.2.2.2.2.1.any fun p=>Zc6 x p&&ZfU q p then 0 else bif n.2.2.2.2.1.any (Zc6 x) then 29 else 18
theorem ZfG {α:Type} {l:List α} {i:Nat} (h:i<l.length) (f:α→Bool): (l.take (i+1)).any f=((l.take i).any f||f l[i]):=by
 rw[List.take_succ_eq_append_getElem h,List.any_append]
 simp
theorem Zq6 {α:Type} {l:List α} {i:Nat} (h:i<l.length) {f:α→Bool} (hf:f l[i]=true):l.any f=true:=List.any_eq_true.2 ⟨_,List.getElem_mem h,hf⟩
theorem ZkV {n:ZaJ} (hp:n.2.2.2.2.1.length≤4096) (q:Zbo) (x:Zbb):F81 n q x=some (Zf2 n q x):=by
 unfold F81
 refine Zeg (fun r:Int ⊕ Int=>Sum.elim id id r=Zf2 n q x) ?_ ?_
 ·refine Zby n.2.2.2.2.1.length _ (fun i (s:Int×Int)=>s=((bif (n.2.2.2.2.1.take i).any (Zc6 x) then 29 else 18),(i:Int))∧((n.2.2.2.2.1.take i).any fun p=>Zc6 x p&&ZfU q p)=false) ?_ ?_ _ ⟨rfl,rfl⟩
  ·rintro i _ hi ⟨rfl,ha⟩
   simp only[ZaG hi,cond_true,Zag hi,bind_some,Zan hi (show _≤9223372036854775807 by omega)]
   have e1: (bif !decide ((n.2.2.2.2.1[i]).1=x.2.2.2.2.1) then some true else bif !decide ((n.2.2.2.2.1[i]).2.1=x.2.2.2.2.2.1) then some true else some !decide ((n.2.2.2.2.1[i]).2.2.1=IntKind.wrap .i64 (x.2.2.2.2.2.2.2.1 - x.2.2.2.2.2.2.1)))=some (!Zc6 x n.2.2.2.2.1[i]):=by
    unfold Zc6
    cases decide ((n.2.2.2.2.1[i]).1=x.2.2.2.2.1)<;>cases decide ((n.2.2.2.2.1[i]).2.1=x.2.2.2.2.2.1)<;>rfl
   have e2: (bif (n.2.2.2.2.1[i]).2.2.2.1 then some true else some !q.2.2.2.2.2.2.1)=some (ZfU q n.2.2.2.2.1[i]):=by
    unfold ZfU
    cases (n.2.2.2.2.1[i]).2.2.2.1<;>rfl
   rw[e1,e2]
   simp only[bind_some]
   cases hm:Zc6 x n.2.2.2.2.1[i] with
   |false=>
    left
    refine⟨_,rfl, ?_, ?_⟩
    ·rw[ZfG hi,hm,Bool.or_false]
    ·rw[ZfG hi,ha,hm];rfl
   |true=>
    cases hfr:ZfU q n.2.2.2.2.1[i] with
    |true=>
     right
     refine⟨_,rfl, ?_⟩
     unfold Zf2
     rw[Zq6 hi (f:=fun p=>Zc6 x p&&ZfU q p) (by rw[hm,hfr];rfl)]
     rfl
    |false=>
     left
     refine⟨_,rfl, ?_, ?_⟩
     ·rw[ZfG hi,hm,Bool.or_true];rfl
     ·rw[ZfG hi,ha,hm,hfr];rfl
  ·rintro _ ⟨rfl,ha⟩
   simp only[ZaI,cond_false]
   refine⟨_,rfl, ?_⟩
   rw[List.take_length] at ha ⊢
   unfold Zf2
   rw[ha];rfl
 ·rintro (r|r) hr
  ·exact congrArg some hr
  ·exact congrArg some hr
def Zik (n:ZaJ) (q:Zbo) (x:Zbb):Int:=
 bif !inR x.2.2.2.2.1 n.1.length|| !inR x.2.2.2.2.2.1 n.1.length then 9 else
 bif (bif x.1 then !Zbi n x else !decide (x.2.1=0) || (!decide (x.2.2.1=0) || (!decide (x.2.2.2.1=0) ||Zck x))) then 9 else
 bif !decide (0≤x.2.2.2.2.2.2.1∧x.2.2.2.2.2.2.1≤3155932800) || !decide (0≤x.2.2.2.2.2.2.2.1∧x.2.2.2.2.2.2.2.1≤3155932800) then 10 else
 bif x.1 then Zhu n q x else Zf2 n q x
theorem ZfW {o:Option Bool} {c:Bool} {e:Int} {K:Option Int} {k:Int} (ho:o=some c) (h:c=false→K=some k): (Option.bind o fun x=>bif x then some e else K)=some (bif c then e else k):=by
 subst ho
 cases c
 ·exact h rfl
 ·rfl
theorem Zrm {n:ZaJ} (hS:Zd9 n) (hp:n.2.2.2.2.1.length≤4096) (q:Zbo) (x:Zbb):F78 n q x=some (Zik n q x):=by
 have hk:n.1.length≤9223372036854775807:=by have:=hS.stops;omega
 unfold F78 Zik
 rw[ZeG _ hk,ZeG _ hk]
 refine ZfW (c:= !inR x.2.2.2.2.1 n.1.length|| !inR x.2.2.2.2.2.1 n.1.length) (by cases inR x.2.2.2.2.1 n.1.length<;>rfl) fun hst=> ?_
 rw[ZkI]
 refine ZfW (c:=bif x.1 then !Zbi n x else !decide (x.2.1=0) || (!decide (x.2.2.1=0) || (!decide (x.2.2.2.1=0) ||Zck x))) ?_ fun hex=> ?_
 ·unfold Zck
  cases x.1 with
  |true=>cases Zbi n x<;>rfl
  |false=>cases decide (x.2.1=0)<;>cases decide (x.2.2.1=0)<;>cases decide (x.2.2.2.1=0)<;>rfl
 ·rw[Ze6,Ze6]
  refine ZfW (c:= !decide (0≤x.2.2.2.2.2.2.1∧x.2.2.2.2.2.2.1≤3155932800) || !decide (0≤x.2.2.2.2.2.2.2.1∧x.2.2.2.2.2.2.2.1≤3155932800)) ?_ fun _=> ?_
  ·simp only[bind_some]
   cases decide (0≤x.2.2.2.2.2.2.1∧x.2.2.2.2.2.2.1≤3155932800)<;>rfl
  ·cases hx1:x.1 with
   |false=>
    simp only[cond_false]
    rw[ZkV hp];rfl
   |true=>
    rw[hx1] at hex
    simp only[cond_true] at hex ⊢
    rw[ZpM hS q (by simpa using hex) (by
     rw[Bool.or_eq_false_iff] at hst
     simpa using hst.1)]
    rfl
def ZkX (a b:Zbb) (stay:Bool) (l:ZjX):Bool:=decide (l.1=a.2.1) && (decide (l.2.1=a.2.2.2.1) && (decide (l.2.2.1=b.2.1) && (decide (l.2.2.2.1=b.2.2.1) && (l.2.2.2.2.1==stay))))
def Zgg (n:ZaJ) (a b:Zbb) (stay:Bool):Bool:=n.2.2.2.1.any (ZkX a b stay)
theorem Zh4        {n : ZaJ } (hl : n.2.2.2.1.length ≤ 4096) (a b : Zbb ) (stay : Bool) : F79 n a b stay = some (Zgg   n a b stay) := by
  unfold F79
  refine Zeg     (fun r : Unit ⊕ Bool => Sum.elim (fun _ => false) id r = Zgg   n a b stay) ?_ ?_
  · unfold Zgg
    refine Zby     n.2.2.2.1.length _ (fun i (s : Int) => s = (i : Int) ∧ (n.2.2.2.1.take i).any (ZkX   a b stay) = false) ?_ ?_ _ ⟨rfl, rfl⟩
    · rintro i _ hi ⟨rfl, ha⟩
      simp only [ZaG    hi, cond_true, Zag     hi, bind_some, Zan       hi (show _ ≤ 9223372036854775807 by omega)]
      have e1 : (bif decide ((n.2.2.2.1[i]).1 = a.2.1) then
 bif decide ((n.2.2.2.1[i]).2.1 = a.2.2.2.1) then
 bif decide ((n.2.2.2.1[i]).2.2.1 = b.2.1) then
 bif decide ((n.2.2.2.1[i]).2.2.2.1 = b.2.2.1) then some ((n.2.2.2.1[i]).2.2.2.2.1 == stay) else some false
 else some false
 else some false
 else some false) = some (ZkX   a b stay n.2.2.2.1[i]) := by
        unfold ZkX
        cases decide ((n.2.2.2.1[i]).1 = a.2.1) <;> cases decide ((n.2.2.2.1[i]).2.1 = a.2.2.2.1) <;> cases decide ((n.2.2.2.1[i]).2.2.1 = b.2.1) <;> cases decide ((n.2.2.2.1[i]).2.2.2.1 = b.2.2.1) <;> rfl
      erw [e1]
      simp only [bind_some]
      cases hm : ZkX   a b stay n.2.2.2.1[i] with
      | false =>
        left
        refine ⟨_, rfl, rfl, ?_⟩
        rw [ZfG      hi, ha, hm]; rfl
      | true =>
        right
        refine ⟨_, rfl, ?_⟩
        rw [Zq6    hi hm]; rfl
    · rintro _ ⟨rfl, ha⟩
      simp only [ZaI    , cond_false]
      refine ⟨_, rfl, ?_⟩
      rw [List.take_length] at ha
      rw [ha]; rfl
  · rintro (r | r) hr
    · exact congrArg some hr
    · exact congrArg some hr
def ZbK (n:ZaJ) (a b:Zbb):Int:=
 bif !decide (a.2.2.2.2.2.1=b.2.2.2.2.1) then 24 else
 bif !a.1&& !b.1 then 32 else
 bif Zck b then(bif !a.1|| !Zgg n a b true then 19 else bif decide (b.2.2.2.2.2.2.1<a.2.2.2.2.2.2.2.1) then 10 else 0) else
 bif !b.1 then(bif !decide (b.2.2.2.2.2.2.1=a.2.2.2.2.2.2.2.1) then 10 else 0) else
 bif !a.1 then(bif decide (b.2.2.2.2.2.2.1<a.2.2.2.2.2.2.2.1) then 28 else 0) else
 bif decide (IntKind.wrap .i64 (a.2.2.2.2.2.2.2.1+(Zb7 n a.2.2.2.2.2.1).2.2.2.1)≤b.2.2.2.2.2.2.1) || (Zgg n a b false&&decide (a.2.2.2.2.2.2.2.1≤b.2.2.2.2.2.2.1)) then 0 else 28
theorem ZmY {n:ZaJ} (hl:n.2.2.2.1.length≤4096) {a b:Zbb} (ha:inR b.2.2.2.2.1 n.1.length=true):F76 n a b=some (ZbK n a b):=by
 unfold F76 ZbK
 rw[Zh4 hl,Zh4 hl]
 by_cases h24:a.2.2.2.2.2.1=b.2.2.2.2.1
 case neg=>rw[decide_eq_false h24];rfl
 rw[decide_eq_true h24]
 simp only[Bool.not_true,cond_false,bind_some]
 refine Zfh ?_
 unfold Zck
 cases b.2.2.2.2.2.2.2.2.1 with
 |true=>
  simp only[cond_true]
  exact Zk3 (by cases decide (b.2.2.2.2.2.2.1<a.2.2.2.2.2.2.2.1)<;>rfl)
 |false=>
  simp only[cond_false]
  cases b.1 with
  |false=>
   simp only[Bool.not_false,cond_true]
   cases decide (b.2.2.2.2.2.2.1=a.2.2.2.2.2.2.2.1)<;>rfl
  |true=>
   simp only[Bool.not_true,cond_false]
   cases a.1 with
   |false=>
    simp only[Bool.not_false,cond_true]
    cases decide (b.2.2.2.2.2.2.1<a.2.2.2.2.2.2.2.1)<;>rfl
   |true=>
    simp only[Bool.not_true,cond_false]
    have hi:idx n.1 a.2.2.2.2.2.1=some (Zb7 n a.2.2.2.2.2.1):=by rw[h24];exact Zbl ha s0
    rw[hi]
    simp only[bind_some]
    cases decide (IntKind.wrap .i64 (a.2.2.2.2.2.2.2.1+(Zb7 n a.2.2.2.2.2.1).2.2.2.1)≤b.2.2.2.2.2.2.1)<;>cases Zgg n a b false<;>cases decide (a.2.2.2.2.2.2.2.1≤b.2.2.2.2.2.2.1)<;>rfl
def g0:Zbb:=(false,0,0,0,0,0,0,0,false,())
def lg (L:List Zbb) (i:Nat):Zbb:=(L[i]?).getD g0
def Zh1 (n:ZaJ) (q:Zbo) (L:List Zbb):Int:=
 bif !decide ((lg L 0).2.2.2.2.1=q.1) then 24 else
 bif Zck (lg L 0) then 19 else
 bif !(lg L 0).1&& (decide (1<L.length) && ((lg L 1).1&& !decide ((lg L 1).2.2.2.2.2.2.1=(lg L 0).2.2.2.2.2.2.2.1))) then 10 else
 bif !(lg L 0).1&& (decide (L.length=1) && (bif q.2.2.2.1 then !decide ((lg L 0).2.2.2.2.2.2.2.1=q.2.2.1) else !decide ((lg L 0).2.2.2.2.2.2.1=q.2.2.1))) then 10 else
 bif !q.2.2.2.1&&decide ((lg L 0).2.2.2.2.2.2.1<q.2.2.1) then 10 else
 bif q.2.2.2.2.2.2.2.2.2.1&& ((lg L 0).1&&decide ((lg L 0).2.2.2.2.2.2.1<IntKind.wrap .i64 (q.2.2.1+(Zb7 n q.1).2.2.2.1))) then 28 else 0
theorem Zia {L:List Zbb} {i:Nat} (h:i<L.length):idx L (i:Int)=some (lg L i):=by
 rw[Zag h]
 unfold lg
 rw[Zai h]
theorem Zm4 {n:ZaJ} {q:Zbo} {L:List Zbb} (h0:0<L.length) (hq:inR q.1 n.1.length=true):F75 n q (L,())=some (Zh1 n q L):=by
 unfold F75 Zh1
 have e0:idx (L,()).1 (0:Int)=some (lg L 0):=Zia h0
 rw[e0]
 simp only[bind_some]
 refine ZiU (ZdE (c:=Zck (lg L 0)) rfl ?_ : (Option.bind (some _) fun _=>_)=_)
 refine ZdE (c:= !(lg L 0).1&& (decide (1<L.length) && ((lg L 1).1&& !decide ((lg L 1).2.2.2.2.2.2.1=(lg L 0).2.2.2.2.2.2.2.1)))) ?_ (ZdE (c:= !(lg L 0).1&& (decide (L.length=1) && (bif q.2.2.2.1 then !decide ((lg L 0).2.2.2.2.2.2.2.1=q.2.2.1) else !decide ((lg L 0).2.2.2.2.2.2.1=q.2.2.1)))) ?_ (Zfh (ZdE (c:=q.2.2.2.2.2.2.2.2.2.1&& ((lg L 0).1&&decide ((lg L 0).2.2.2.2.2.2.1<IntKind.wrap .i64 (q.2.2.1+(Zb7 n q.1).2.2.2.1)))) ?_ rfl)))
 ·by_cases h1:1<L.length
  ·have e1:idx L (1:Int)=some (lg L 1):=Zia h1
   rw[decide_eq_true (show (1:Int)< (L.length:Int) by omega),decide_eq_true h1,e1]
   simp only[bind_some]
   cases (lg L 0).1<;>cases (lg L 1).1<;>rfl
  ·rw[decide_eq_false (show¬ (1:Int)< (L.length:Int) by omega),decide_eq_false h1]
   cases (lg L 0).1<;>rfl
 ·rw[show decide ((L.length:Int)=1)=decide (L.length=1) from decide_eq_decide.2 (by omega)]
  cases (lg L 0).1<;>cases decide (L.length=1)<;>cases q.2.2.2.1<;>cases decide ((lg L 0).2.2.2.2.2.2.2.1=q.2.2.1)<;>cases decide ((lg L 0).2.2.2.2.2.2.1=q.2.2.1)<;>rfl
 ·rw[show idx n.1 q.1=some (Zb7 n q.1) from Zbl hq s0]
  simp only[bind_some]
  cases q.2.2.2.2.2.2.2.2.2.1<;>cases (lg L 0).1<;>rfl
end Q
namespace Q
open Tr Go
open Option (bind_some)
end Q
namespace Q
open Tr Go
open Option (bind_some)
def Zs7 (x:Zbb):Bool:=x.1&& !Zck x
def ZcQ (L:List Zbb):Nat:=(L.filter Zs7).length
def Zgj (L:List Zbb) (i:Nat):Bool:=(lg L i).1&& (decide (i+1=L.length) || !Zck (lg L (i+1)))
def Zdk (n:ZaJ) (q:Zbo) (x:Zbb):Int:=bif !(cl (Za2 n x) x.2.2.2.1).2.2.2.2.1 then 26 else bif !ZiI n q x.2.2.2.2.2.1 then 29 else 0
def ZhA (n:ZaJ) (q:Zbo) (L:List Zbb) (i:Nat):Int:=bif decide (i=0) then Zh1 n q L else ZbK n (lg L (i - 1)) (lg L i)
def atE (n:ZaJ) (q:Zbo) (L:List Zbb) (i:Nat):Int:=
 bif !decide (Zik n q (lg L i)=0) then Zik n q (lg L i) else
 bif !decide (ZhA n q L i=0) then ZhA n q L i else
 bif Zgj L i then Zdk n q (lg L i) else 0
theorem Zjt {n:ZaJ} {q:Zbo} {x:Zbb} (h:Zik n q x=0):inR x.2.2.2.2.1 n.1.length=true∧inR x.2.2.2.2.2.1 n.1.length=true∧(x.1=true→Zbi n x=true∧Zhu n q x=0)∧(x.1=false→Zf2 n q x=0):=by
 unfold Zik at h
 rw[ZaA (by omega),ZaA (by omega),ZaA (by omega)] at h
 obtain⟨h1,h2,_,h3⟩:=h
 rw[Bool.or_eq_false_iff] at h1
 refine⟨by simpa using h1.1,by simpa using h1.2,fun e=> ?_,fun e=> ?_⟩
 ·rw[e] at h2 h3
  exact⟨by simpa using h2,h3⟩
 ·rw[e] at h3
  exact h3
theorem ZsK {n:ZaJ} (hS:Zd9 n) (hp:n.2.2.2.2.1.length≤4096) {q:Zbo} (hq:inR q.1 n.1.length=true) {L:List Zbb} {i:Nat} (hi:i<L.length) (hj:L.length≤1000):F74 n q (L,()) (i:Int)=some (atE n q L i):=by
 unfold F74 atE
 rw[show idx (L,()).1 (i:Int)=some (lg L i) from Zia hi]
 simp only[bind_some]
 rw[Zrm hS hp q]
 simp only[bind_some]
 by_cases h0:Zik n q (lg L i)=0
 case neg=>rw[decide_eq_false h0];rfl
 rw[decide_eq_true h0]
 simp only[Bool.not_true,cond_false]
 obtain⟨z1,z2,z3,z4⟩:=Zjt h0
 have e1: (bif decide ((i:Int)=(0:Int)) then Option.bind (F75 n q (L,())) fun x2=>some x2
 else Option.bind (idx L (IntKind.wrap .i64 ((i:Int) - (1:Int)))) fun x3=>Option.bind (F76 n x3 (lg L i)) fun x4=>some x4)=some (ZhA n q L i):=by
  unfold ZhA
  by_cases hi0:i=0
  ·subst hi0
   rw[Zm4 hi hq];rfl
  ·have e:IntKind.wrap .i64 ((i:Int) - 1)=((i - 1:Nat):Int):=by rw[Zaq (by omega) (by omega)];omega
   rw[decide_eq_false (show¬ (i:Int)=0 by omega),decide_eq_false hi0,e,Zia (show i - 1<L.length by omega)]
   simp only[cond_false,bind_some]
   rw[ZmY (by have:=hS.links;omega) z1]
   rfl
 rw[e1]
 simp only[bind_some]
 refine ZiU ?_
 have w2:IntKind.wrap .i64 ((i:Int)+1)=((i+1:Nat):Int):=by rw[Zaq (by omega) (by omega)];omega
 rw[w2]
 have e2: (bif (lg L i).1 then bif decide (((i+1:Nat):Int)=(↑(List.length L):Int)) then some true
 else Option.bind (idx L ((i+1:Nat):Int)) fun x6=>some !x6.2.2.2.2.2.2.2.2.1
 else some false)=some (Zgj L i):=by
  unfold Zgj
  rw[show decide (((i+1:Nat):Int)=(L.length:Int))=decide (i+1=L.length) from decide_eq_decide.2 (by omega)]
  by_cases h1:i+1=L.length
  ·rw[decide_eq_true h1]
   cases (lg L i).1<;>rfl
  ·rw[decide_eq_false h1,Zia (show i+1<L.length by omega)]
   cases (lg L i).1<;>rfl
 rw[e2]
 simp only[bind_some]
 cases htl:Zgj L i with
 |false=>rfl
 |true=>
  have hr: (lg L i).1=true:=by
   unfold Zgj at htl
   rw[Bool.and_eq_true] at htl
   exact htl.1
  obtain⟨x1,_,_,x4⟩:=ZjW (z3 hr).1
  simp only[cond_true]
  rw[x1]
  simp only[bind_some]
  rw[x4]
  simp only[bind_some]
  rw[ZjN q z2]
  unfold Zdk
  cases (cl (Za2 n (lg L i)) (lg L i).2.2.2.1).2.2.2.2.1<;>cases ZiI n q (lg L i).2.2.2.2.2.1<;>rfl
end Q
namespace Q
open Tr Go
open Option (bind_some)
def Zaz (n:ZaJ) (i:Nat):List ZbN:=(rn n (i:Int)).2.2.2.2.2.2.2.1
def Zac (n:ZaJ) (i c:Nat):ZbN:=cl (Zaz n i) (c:Int)
def ZbO (n:ZaJ) (i:Nat):Bool:=(rn n (i:Int)).2.2.2.2.2.2.1
def ZgU (s t a b:Int):Zbb:=(false,0,0,0,s,t,a,b,false,())
def ZdU (n:ZaJ) (i b c:Nat) (st:Bool):Zbb:=(true,(i:Int),(b:Int),(c:Int),(Zac n i b).1,(Zac n i c).1,(Zac n i b).2.2.1,(Zac n i c).2.1,st,())
def isLink (n:ZaJ) (i c j d:Nat) (st:Bool):Prop:=((i:Int),(c:Int),(j:Int),(d:Int),st,())∈n.2.2.2.1
structure ZdW (n:ZaJ):Prop where
 sound:Zd9 n
 change: ∀s:Int,0≤s→s< (n.1.length:Int)→0≤(Zb7 n s).2.2.2.1∧(Zb7 n s).2.2.2.1≤3600
 path: ∀p∈n.2.2.2.2.1,(0≤p.1∧p.1< (n.1.length:Int))∧(0≤p.2.1∧p.2.1< (n.1.length:Int))∧p.1≠p.2.1∧1≤p.2.2.1∧p.2.2.1≤14400
 link: ∀x∈n.2.2.2.1, ∃ (i c j d:Nat) (st:Bool),x=((i:Int),(c:Int),(j:Int),(d:Int),st,())∧i<n.2.2.1.length∧j<n.2.2.1.length∧i≠j∧c< (Zaz n i).length∧d< (Zaz n j).length∧
  (Zac n i c).1=(Zac n j d).1∧(st=true→c+1=(Zaz n i).length∧d=0)
theorem Zbf {n:ZaJ} {i:Nat} (hi:i<n.2.2.1.length):Zaz n i=(n.2.2.1[i]).2.2.2.2.2.2.2.1:=by unfold Zaz rn;rw[Int.toNat_natCast,Zai hi]
theorem Zcs {n:ZaJ} {i c:Nat} (hc:c< (Zaz n i).length):Zac n i c=(Zaz n i)[c]:=by unfold Zac cl;rw[Int.toNat_natCast,Zai hc]
theorem ZmV {n:ZaJ} {i:Nat} (h:Zb2 n i=0): (cl (rn n (lk n i).1).2.2.2.2.2.2.2.1 (lk n i).2.1).1=(cl (rn n (lk n i).2.2.1).2.2.2.2.2.2.2.1 (lk n i).2.2.2.1).1∧
  ((lk n i).2.2.2.2.1=true→(lk n i).2.1+1=((rn n (lk n i).1).2.2.2.2.2.2.2.1.length:Int)∧(lk n i).2.2.2.1=0):=by
 unfold Zb2 at h
 simp only at h
 by_cases b1:ZlS n (lk n i)=true
 ·rw[if_pos b1] at h;omega
 rw[if_neg b1] at h
 by_cases b2:Zns n (lk n i)=true
 ·rw[if_pos b2] at h;omega
 rw[if_neg b2] at h
 split at h
 ·omega
 split at h
 ·omega
 split at h
 ·omega
 next h1 h2 h3=>
  refine⟨Decidable.not_not.1 h1,fun hs=>⟨?_, ?_⟩⟩
  ·exact Decidable.not_not.1 fun e=>h2 ⟨hs,e⟩
  ·exact Decidable.not_not.1 fun e=>h3 ⟨hs,e⟩
theorem Whole.ok {n:ZaJ} (h:Whole n):ZdW n:=by
 refine⟨h.sound,fun s h0 h1=> ?_,fun p hp=> ?_,fun x hx=> ?_⟩
 ·have s0:=h.s
  unfold Zgm at s0
  split at s0
  ·exact absurd s0 (by decide)
  obtain⟨j,rfl⟩: ∃j:Nat,s=(j:Int):=⟨s.toNat,by omega⟩
  have hj:j<n.1.length:=by omega
  have hz:=ZgQ s0 j hj
  unfold Zft at hz
  have:=(Zcc.1 hz).2.2
  unfold Zb7
  rw[Int.toNat_natCast]
  generalize hg: (n.1[j]?).getD Q.s0=y at*
  have e: (n.1[j]?).getD ([],0,false,0,())=y:=by rw[←hg];rfl
  rw[e] at this
  omega
 ·obtain⟨j,hj,rfl⟩:=List.getElem_of_mem hp
  obtain⟨h1,h2,_⟩:=Zca (ZaE.1 h.q j hj)
  rw[Zai hj] at h1 h2
  unfold ZcR at h1
  unfold Zc1 at h2
  simp only[Bool.or_eq_false_iff,Bool.not_eq_false',decide_eq_false_iff_not,decide_eq_true_eq] at h1 h2
  omega
 ·obtain⟨j,hj,rfl⟩:=List.getElem_of_mem hx
  have hz:=ZaE.1 h.g j hj
  obtain⟨h1,h2,_⟩:=ZfR hz
  obtain⟨h3,h4⟩:=ZmV hz
  have e:lk n j=n.2.2.2.1[j]:=by unfold lk;rw[Zai hj]
  rw[e] at h1 h2 h3 h4
  generalize n.2.2.2.1[j]=x at*
  unfold ZlS at h1
  unfold Zns at h2
  unfold inR at h1 h2
  simp only[Bool.or_eq_false_iff,Bool.not_eq_false',decide_eq_false_iff_not,Bool.and_eq_true,decide_eq_true_eq] at h1 h2
  obtain⟨x1,x2,x3,x4,x5,x6⟩:=x
  simp only at h1 h2 h3 h4
  obtain⟨i,rfl⟩: ∃i:Nat,x1=(i:Int):=⟨x1.toNat,by omega⟩
  obtain⟨c,rfl⟩: ∃i:Nat,x2=(i:Int):=⟨x2.toNat,by omega⟩
  obtain⟨k,rfl⟩: ∃i:Nat,x3=(i:Int):=⟨x3.toNat,by omega⟩
  obtain⟨d,rfl⟩: ∃i:Nat,x4=(i:Int):=⟨x4.toNat,by omega⟩
  refine⟨i,c,k,d,x5,rfl,by omega,by omega,by omega, ?_, ?_,h3,fun hs=> ?_⟩
  ·unfold Zaz;omega
  ·unfold Zaz;omega
  ·obtain⟨a,b⟩:=h4 hs
   unfold Zaz
   omega
theorem ZdW.isLink {n:ZaJ} (h:ZdW n) {i c j d:Nat} {st:Bool} (hl:isLink n i c j d st):i<n.2.2.1.length∧j<n.2.2.1.length∧i≠j∧c< (Zaz n i).length∧d< (Zaz n j).length∧(Zac n i c).1=(Zac n j d).1∧(st=true→c+1=(Zaz n i).length∧d=0):=by
 obtain⟨i',c',j',d',st',e,h1⟩:=h.link _ hl
 simp only[Prod.mk.injEq,Int.natCast_inj] at e
 obtain⟨rfl,rfl,rfl,rfl,rfl,_⟩:=e
 exact h1
theorem ZdW.stop {n:ZaJ} (h:ZdW n) {i c:Nat} (hi:i<n.2.2.1.length) (hc:c< (Zaz n i).length):0≤(Zac n i c).1∧(Zac n i c).1< (n.1.length:Int):=by
 rw[Zcs hc]
 refine h.sound.call _ (List.getElem_mem hi) _ ?_
 simp only[Zbf hi]
 exact List.getElem_mem _
theorem ZdW.time {n:ZaJ} (h:ZdW n) {i c:Nat} (hi:i<n.2.2.1.length) (hc:c< (Zaz n i).length):0≤(Zac n i c).2.1∧(Zac n i c).2.1≤(Zac n i c).2.2.1∧(Zac n i c).2.2.1≤3155932800:=by
 have ht:=h.sound.time _ (List.getElem_mem hi)
 rw[Zcs hc]
 simp only[Zbf hi] at hc ⊢
 have:=ht c hc
 omega
inductive ZoQ where
 |rdy (k:Nat) (s r:Int)
 |brd (k:Nat) (i c:Nat) (st:Bool)
 |lnk (k:Nat) (i c:Nat)
 |on (k:Nat) (i c:Nat)
 |rid (k:Nat) (s t:Int)
 |arr (k:Nat) (s t:Int)
inductive Der (n:ZaJ) (s0 t0 w:Int):ZoQ→List Zbb→Prop
 |init:Der n s0 t0 w (.rdy 0 s0 (t0+w)) []
 |here:Der n s0 t0 w (.arr 0 s0 t0) []
 |rdyW {p:Zcr} :p∈n.2.2.2.2.1→p.1=s0→t0+p.2.2.1≤3155932800→Der n s0 t0 w (.rdy 0 p.2.1 (t0+p.2.2.1)) [ZgU s0 p.2.1 t0 (t0+p.2.2.1)]
 |arrW {p:Zcr} :p∈n.2.2.2.2.1→p.1=s0→t0+p.2.2.1≤3155932800→Der n s0 t0 w (.arr 0 p.2.1 (t0+p.2.2.1)) [ZgU s0 p.2.1 t0 (t0+p.2.2.1)]
 |board {k:Nat} {s r:Int} {js:List Zbb} {i c:Nat} :Der n s0 t0 w (.rdy k s r) js→i<n.2.2.1.length→c< (Zaz n i).length→ZbO n i=false→(Zac n i c).1=s→(Zac n i c).2.2.2.1=true→r≤(Zac n i c).2.2.1→Der n s0 t0 w (.brd (k+1) i c false) js
 |on {k i b c:Nat} {st:Bool} {js:List Zbb} :Der n s0 t0 w (.brd k i b st) js→b<c→c< (Zaz n i).length→Der n s0 t0 w (.on k i c) (js++[ZdU n i b c st])
 |stay {k i c j d:Nat} {js:List Zbb} :Der n s0 t0 w (.on k i c) js→isLink n i c j d true→(Zac n i c).2.1≤(Zac n j d).2.2.1→ZbO n j=false→Der n s0 t0 w (.brd k j d true) js
 |link {k i c j d:Nat} {js:List Zbb} :Der n s0 t0 w (.on k i c) js→(Zac n i c).2.2.2.2.1=true→isLink n i c j d false→(Zac n i c).2.1≤(Zac n j d).2.2.1→(Zac n j d).2.2.2.1=true→Der n s0 t0 w (.lnk (k+1) j d) js
 |linked {k j d:Nat} {js:List Zbb} :Der n s0 t0 w (.lnk k j d) js→ZbO n j=false→Der n s0 t0 w (.brd k j d false) js
 |ride {k i c:Nat} {js:List Zbb} :Der n s0 t0 w (.on k i c) js→(Zac n i c).2.2.2.2.1=true→Der n s0 t0 w (.rid k (Zac n i c).1 (Zac n i c).2.1) js
 |change {k:Nat} {s t:Int} {js:List Zbb} :Der n s0 t0 w (.rid k s t) js→Der n s0 t0 w (.rdy k s (t+(Zb7 n s).2.2.2.1)) js
 |rdyV {k:Nat} {s t:Int} {js:List Zbb} {p:Zcr} :Der n s0 t0 w (.rid k s t) js→p∈n.2.2.2.2.1→p.1=s→t+p.2.2.1≤3155932800→Der n s0 t0 w (.rdy k p.2.1 (t+p.2.2.1)) (js++[ZgU s p.2.1 t (t+p.2.2.1)])
 |arrR {k:Nat} {s t:Int} {js:List Zbb} :Der n s0 t0 w (.rid k s t) js→Der n s0 t0 w (.arr k s t) js
 |arrV {k:Nat} {s t:Int} {js:List Zbb} {p:Zcr} :Der n s0 t0 w (.rid k s t) js→p∈n.2.2.2.2.1→p.1=s→t+p.2.2.1≤3155932800→Der n s0 t0 w (.arr k p.2.1 (t+p.2.2.1)) (js++[ZgU s p.2.1 t (t+p.2.2.1)])
def ZoQ.ok (n:ZaJ):ZoQ→Prop
 | .rdy _ s r=>(0≤s∧s< (n.1.length:Int))∧0≤r∧r≤3155932800+3600
 | .brd k i c _=>0<k∧i<n.2.2.1.length∧c< (Zaz n i).length∧ZbO n i=false
 | .lnk k i c=>0<k∧i<n.2.2.1.length∧c< (Zaz n i).length
 | .on k i c=>0<k∧i<n.2.2.1.length∧c< (Zaz n i).length∧ZbO n i=false
 | .rid k s t=>0<k∧(0≤s∧s< (n.1.length:Int))∧0≤t∧t≤3155932800
 | .arr _ s t=>(0≤s∧s< (n.1.length:Int))∧0≤t∧t≤3155932800
theorem Der.ok {n:ZaJ} (h:ZdW n) {s0 t0 w:Int} (hs:0≤s0∧s0< (n.1.length:Int)) (ht:0≤t0∧t0≤3155932800) (hw:0≤w∧w≤3600) {f:ZoQ} {js:List Zbb} (d:Der n s0 t0 w f js):f.ok n:=by
 induction d with
 |init=>exact⟨hs,by omega,by omega⟩
 |here=>exact⟨hs,ht⟩
 |rdyW hp _ hm=>have:=h.path _ hp;exact⟨this.2.1,by omega,by omega⟩
 |arrW hp _ hm=>have:=h.path _ hp;exact⟨this.2.1,by omega,by omega⟩
 |board _ hi hc hx _ _ _ _=>exact⟨Nat.succ_pos _,hi,hc,hx⟩
 |on _ _ hc ih=>exact⟨ih.1,ih.2.1,hc,ih.2.2.2⟩
 |stay _ hl _ hx ih=>have:=h.isLink hl;exact⟨ih.1,this.2.1,this.2.2.2.2.1,hx⟩
 |link _ _ hl _ _ _=>have:=h.isLink hl;exact⟨Nat.succ_pos _,this.2.1,this.2.2.2.2.1⟩
 |linked _ hx ih=>exact⟨ih.1,ih.2.1,ih.2.2,hx⟩
 |ride _ _ ih=>
  have:=h.time ih.2.1 ih.2.2.1
  exact⟨ih.1,h.stop ih.2.1 ih.2.2.1,by omega,by omega⟩
 |change _ ih=>have:=h.change _ ih.2.1.1 ih.2.1.2;exact⟨ih.2.1,by have:=ih.2.2;omega,by have:=ih.2.2;omega⟩
 |rdyV _ hp _ hm ih=>have:=h.path _ hp;exact⟨this.2.1,by have:=ih.2.2;omega,by omega⟩
 |arrR _ ih=>exact ih.2
 |arrV _ hp _ hm ih=>have:=h.path _ hp;exact⟨this.2.1,by have:=ih.2.2;omega,by omega⟩
abbrev Zph:=Zbb×Int×Unit
inductive Ch (lb:List Zph):Int→List Zbb→Prop
 |nil:Ch lb (-1) []
 |cons {l:Nat} {x:Zbb} {p:Int} {js:List Zbb} :lb[l]? =some (x,p,())→p< (l:Int)→Ch lb p js→Ch lb (l:Int) (js++[x])
theorem Ch.lt {lb:List Zph} {l:Int} {js:List Zbb} (h:Ch lb l js): -1≤l∧l< (lb.length:Int):=by
 cases h with
 |nil=>omega
 |cons h _ _=>
  have:=(List.getElem?_eq_some_iff.1 h).1
  omega
theorem Ch.app {lb:List Zph} {l:Int} {js:List Zbb} (h:Ch lb l js) (m:List Zph):Ch (lb++m) l js:=by
 induction h with
 |nil=>exact .nil
 |cons h1 h2 _ ih=>
  have hl:=(List.getElem?_eq_some_iff.1 h1).1
  exact .cons (by rw[List.getElem?_append_left hl];exact h1) h2 ih
theorem Ch.new {lb:List Zph} {p:Int} {js:List Zbb} (h:Ch lb p js) (x:Zbb):Ch (lb++[(x,p,())]) (lb.length:Int) (js++[x]):=
 .cons (by simp) h.lt.2 (h.app _)
end Q
namespace Q
open Tr Go
open Option (bind_some)
def Zb6 (q:Zbo):Zbo:=(q.1,q.2.1,q.2.2.1,q.2.2.2.1,q.2.2.2.2.1,q.2.2.2.2.2.1,false,false,0,q.2.2.2.2.2.2.2.2.2)
theorem Zds {n:ZaJ} {q:Zbo} {x:Zbb} :Zhu n q x=0↔((cl (Za2 n x) x.2.2.1).1=x.2.2.2.2.1∧(cl (Za2 n x) x.2.2.2.1).1=x.2.2.2.2.2.1)∧((cl (Za2 n x) x.2.2.1).2.2.1=x.2.2.2.2.2.2.1∧(cl (Za2 n x) x.2.2.2.1).2.1=x.2.2.2.2.2.2.2.1)∧ZqD n q (rn n x.2.1)=true∧(Zck x=true∨(cl (Za2 n x) x.2.2.1).2.2.2.1=true∧ZiI n q x.2.2.2.2.1=true):=by
 unfold Zhu
 rw[ZaA (by omega),ZaA (by omega),ZaA (by omega),ZaA (by omega),ZaA (by omega),ZaA (by omega),ZaA (by omega),ZaA (by omega)]
 unfold ZqD Tr.useB ZqN
 rw[Bool.or_eq_false_iff,Bool.or_eq_false_iff]
 simp only[Bool.not_eq_false',decide_eq_true_eq]
 generalize (rn n x.2.1).2.2.2.2.2.2.1=b1
 generalize (rn n x.2.1).2.2.2.2.2.1=b2
 generalize q.2.2.2.2.2.2.1=b3
 generalize (ZqH n (rn n x.2.1)).2.2.1=b4
 generalize q.2.2.2.2.2.2.2.1=b5
 generalize (decide (q.2.2.2.2.2.2.2.2.1=(0:Int)) ||decide (ZoA .i64 (Int.fdiv q.2.2.2.2.2.2.2.2.1 (2 ^ min (Int.toNat (ZqH n (rn n x.2.1)).2.1) 64)) 1=1))=b6
 generalize Zck x=b7
 generalize (cl (Za2 n x) x.2.2.1).2.2.2.1=b8
 generalize ZiI n q x.2.2.2.2.1=b9
 generalize ((cl (Za2 n x) x.2.2.1).1=x.2.2.2.2.1∧(cl (Za2 n x) x.2.2.2.1).1=x.2.2.2.2.2.1)=p1
 generalize ((cl (Za2 n x) x.2.2.1).2.2.1=x.2.2.2.2.2.2.1∧(cl (Za2 n x) x.2.2.2.1).2.1=x.2.2.2.2.2.2.2.1)=p2
 have key: ((b1=false∧(b3&& !b2)=false∧(b5&& !b4)=false∧(!b6)=false∧(!b7&& !b8)=false∧(!b7&& !b9)=false∧(0:Int)=0)↔((!b1&& ((b2|| !b3) && ((b4|| !b5) &&b6)))=true∧(b7=true∨b8=true∧b9=true))):=by
  cases b1<;>cases b2<;>cases b3<;>cases b4<;>cases b5<;>cases b6<;>cases b7<;>cases b8<;>cases b9<;>simp
 exact and_congr_right fun _=>and_congr_right fun _=>by
  first
  |exact key
  | (simp only[Bool.not_eq_false'] at key ⊢;exact key)
theorem ZpY (n:ZaJ) (q:Zbo):Zbx n q c0=c0:=by
 unfold Zbx
 split<;>rfl
theorem Ziq (n:ZaJ) (q:Zbo) (l:List ZbN) (a:Int):cl (l.map (Zbx n q)) a=Zbx n q (cl l a):=by
 unfold cl
 rw[List.getElem?_map]
 cases l[a.toNat]? with
 |none=>exact(ZpY n q).symm
 |some c=>rfl
theorem Zix (n:ZaJ) (q:Zbo) (c:ZbN):Zbx n q c=(c.1,c.2.1,c.2.2.1,c.2.2.2.1&&ZiI n q c.1,c.2.2.2.2.1&&ZiI n q c.1,()):=by
 unfold Zbx
 cases h:ZiI n q c.1 with
 |true=>simp
 |false=>simp
theorem Ze9 (n:ZaJ) (q:Zbo) (x:Zbb):Za2 (Za7 n q) x=(Za2 n x).map (Zbx n q):=ZlA n q x.2.1
theorem Zj3 (n:ZaJ) (q:Zbo) (x:Zbb):Zbi (Za7 n q) x=Zbi n x:=by
 have hl: (Za7 n q).2.2.1.length=n.2.2.1.length:=List.length_map ..
 unfold Zbi
 rw[Ze9,List.length_map,hl]
theorem Zqr {n:ZaJ} {q:Zbo} {x:Zbb} (hx:Zbi n x=true):rn (Za7 n q) x.2.1=Zb4 n q (rn n x.2.1):=by
 unfold Zbi at hx
 rw[Bool.and_eq_true] at hx
 have h:=hx.1
 unfold inR at h
 simp only[Bool.and_eq_true,decide_eq_true_eq] at h
 have hl:x.2.1.toNat<n.2.2.1.length:=by omega
 unfold rn
 show ((n.2.2.1.map (Zb4 n q))[x.2.1.toNat]?).getD u0=_
 rw[List.getElem?_map,List.getElem?_eq_getElem hl]
 rfl
theorem Zfk (n:ZaJ) (q:Zbo) (s:Int):ZiI n (Zb6 q) s=true:=by
 unfold ZiI Zb6
 simp
theorem Zma (n:ZaJ) (q:Zbo) (r:Zho):ZqD n (Zb6 q) r= !r.2.2.2.2.2.2.1:=by
 unfold ZqD Tr.useB Zb6
 simp
theorem Znl {n:ZaJ} {q:Zbo} {x:Zbb} (hx:Zbi n x=true):Zhu (Za7 n q) (Zb6 q) x=0↔Zhu n q x=0:=by
 rw[Zds,Zds,Ze9,Ziq,Ziq,Zix,Zix,Zqr hx,Zma,Zfk]
 have hc: (Zb4 n q (rn n x.2.1)).2.2.2.2.2.2.1= !ZqD n q (rn n x.2.1):=rfl
 rw[hc,Bool.not_not]
 refine and_congr_right fun h1=>and_congr_right fun _=>and_congr_right fun _=> ?_
 simp only[Bool.and_eq_true]
 rw[h1.1]
 simp
theorem Zm9 {α:Type} (p f:α→Bool) (l:List α): (l.filter p).any f=l.any fun x=>f x&&p x:=by
 induction l with
 |nil=>rfl
 |cons x l ih=>
  cases hp:p x with
  |true=>rw[List.filter_cons_of_pos hp,List.any_cons,List.any_cons,ih,hp,Bool.and_true]
  |false=>rw[List.filter_cons_of_neg (by simp [hp]),List.any_cons,ih,hp,Bool.and_false,Bool.false_or]
theorem ZeD {n:ZaJ} {q:Zbo} {x:Zbb} :Zf2 n q x=0↔(n.2.2.2.2.1.any fun p=>Zc6 x p&&ZfU q p)=true:=by
 unfold Zf2
 cases (n.2.2.2.2.1.any fun p=>Zc6 x p&&ZfU q p) with
 |true=>simp
 |false=>cases n.2.2.2.2.1.any (Zc6 x)<;>simp
theorem Zm1 {n:ZaJ} {q:Zbo} {x:Zbb} :Zf2 (Za7 n q) (Zb6 q) x=0↔Zf2 n q x=0:=by
 rw[ZeD,ZeD]
 have hfr: ∀p:Zcr,ZfU (Zb6 q) p=true:=by
  intro p;unfold ZfU Zb6;simp
 show ((Zdt n q).any fun p=>Zc6 x p&&ZfU (Zb6 q) p)=true↔_
 simp only[hfr,Bool.and_true]
 unfold Zdt ZfU
 cases q.2.2.2.2.2.2.1 with
 |true=>simp only[if_true];rw[Zm9];simp
 |false=>simp
theorem Zot {n:ZaJ} {q:Zbo} {x:Zbb} :Zik (Za7 n q) (Zb6 q) x=0↔Zik n q x=0:=by
 have hz: ∀ (n:ZaJ) (q:Zbo),Zik n q x=0↔(!inR x.2.2.2.2.1 n.1.length|| !inR x.2.2.2.2.2.1 n.1.length)=false∧(bif x.1 then !Zbi n x else !decide (x.2.1=0) || (!decide (x.2.2.1=0) || (!decide (x.2.2.2.1=0) ||Zck x)))=false∧(!decide (0≤x.2.2.2.2.2.2.1∧x.2.2.2.2.2.2.1≤3155932800) || !decide (0≤x.2.2.2.2.2.2.2.1∧x.2.2.2.2.2.2.2.1≤3155932800))=false∧(bif x.1 then Zhu n q x else Zf2 n q x)=0:=by
  intro n q
  unfold Zik
  rw[ZaA (by omega),ZaA (by omega),ZaA (by omega)]
 rw[hz,hz,Zj3]
 refine and_congr_right fun _=>and_congr_right fun h2=>and_congr_right fun _=> ?_
 cases hx:x.1 with
 |true=>
  rw[hx] at h2
  exact Znl (by simpa using h2)
 |false=>exact Zm1
theorem ZpW {n:ZaJ} {q:Zbo} {L:List Zbb} {i:Nat} :atE (Za7 n q) (Zb6 q) L i=0↔atE n q L i=0:=by
 have hz: ∀ (n:ZaJ) (q:Zbo),atE n q L i=0↔Zik n q (lg L i)=0∧ZhA n q L i=0∧(Zgj L i=true→Zdk n q (lg L i)=0):=by
  intro n q
  unfold atE
  by_cases h1:Zik n q (lg L i)=0
  ·by_cases h2:ZhA n q L i=0
   ·rw[decide_eq_true h1,decide_eq_true h2]
    cases Zgj L i<;>simp [h1,h2]
   ·rw[decide_eq_true h1,decide_eq_false h2];simp [h2]
  ·rw[decide_eq_false h1];simp [h1]
 have ha: ∀ (n:ZaJ) (q:Zbo) (x:Zbb),Zdk n q x=0↔(cl (Za2 n x) x.2.2.2.1).2.2.2.2.1=true∧ZiI n q x.2.2.2.2.2.1=true:=by
  intro n q x
  unfold Zdk
  rw[ZaA (by omega),ZaA (by omega)]
  simp
 rw[hz,hz]
 refine(and_congr Zot Iff.rfl).trans (and_congr_right fun h1=>and_congr Iff.rfl ?_)
 refine imp_congr_right fun ht=> ?_
 have hr: (lg L i).1=true:=by
  unfold Zgj at ht
  rw[Bool.and_eq_true] at ht
  exact ht.1
 obtain⟨_,_,h3,_⟩:=Zjt h1
 have h4:=(Zds.1 (h3 hr).2).1.2
 rw[ha,ha,Ze9,Ziq,Zix,Zfk]
 simp only[Bool.and_eq_true]
 rw[h4]
 simp
end Q
namespace Q
open Tr Go
open Option (bind_some)
variable {n:ZaJ} {q:Zbo}
theorem Zpy {n:ZaJ} {q:Zbo} {x:Zbb} :Zik n q x=0↔(inR x.2.2.2.2.1 n.1.length=true∧inR x.2.2.2.2.2.1 n.1.length=true)∧(bif x.1 then !Zbi n x else !decide (x.2.1=0) || (!decide (x.2.2.1=0) || (!decide (x.2.2.2.1=0) ||Zck x)))=false∧
  ((0≤x.2.2.2.2.2.2.1∧x.2.2.2.2.2.2.1≤3155932800)∧(0≤x.2.2.2.2.2.2.2.1∧x.2.2.2.2.2.2.2.1≤3155932800))∧(bif x.1 then Zhu n q x else Zf2 n q x)=0:=by
 unfold Zik
 rw[ZaA (by omega),ZaA (by omega),ZaA (by omega)]
 simp only[Bool.or_eq_false_iff,Bool.not_eq_false',decide_eq_true_eq]
theorem Zoi {a m:Nat} :inR (a:Int) m=true↔a<m:=by
 unfold inR
 rw[Bool.and_eq_true,decide_eq_true_eq,decide_eq_true_eq]
 omega
theorem ZeY {a:Int} {m:Nat} :inR a m=true↔0≤a∧a< (m:Int):=by
 unfold inR
 rw[Bool.and_eq_true,decide_eq_true_eq,decide_eq_true_eq]
theorem ZlJ (n:ZaJ) (q:Zbo) (i:Nat):ZqD n (Zb6 q) (rn n (i:Int))=true↔ZbO n i=false:=by
 rw[Zma]
 unfold ZbO
 cases (rn n (i:Int)).2.2.2.2.2.2.1<;>simp
def Zq1 (n:ZaJ) (i b c:Nat) (st:Bool):Prop:=i<n.2.2.1.length∧b<c∧c< (Zaz n i).length∧ZbO n i=false∧(st=true∨(Zac n i b).2.2.2.1=true)
theorem Zls (h:ZdW n) {x:Zbb} : (Zik n (Zb6 q) x=0∧x.1=true)↔ ∃i b c st,x=ZdU n i b c st∧Zq1 n i b c st:=by
 rw[Zpy]
 constructor
 ·rintro ⟨⟨h1,h2,h3,h4⟩,hr⟩
  rw[hr] at h2 h4
  simp only[cond_true,Bool.not_eq_false'] at h2 h4
  have he:=h2
  unfold Zbi Za2 at he
  simp only[Bool.and_eq_true,decide_eq_true_eq,ZeY] at he
  obtain⟨⟨e1,e2⟩,e3,e4,e5⟩:=he
  obtain⟨⟨r1,r2⟩,⟨r3,r4⟩,r5,r6⟩:=Zds.1 h4
  obtain⟨xr,xi,xb,xc,xf,xt,xd,xa,xs,u⟩:=x
  simp only at hr h1 h2 h3 h4 e1 e2 e3 e4 e5 r1 r2 r3 r4 r5 r6
  obtain⟨i,rfl⟩: ∃i:Nat,xi=(i:Int):=⟨xi.toNat,by omega⟩
  obtain⟨b,rfl⟩: ∃i:Nat,xb=(i:Int):=⟨xb.toNat,by omega⟩
  obtain⟨c,rfl⟩: ∃i:Nat,xc=(i:Int):=⟨xc.toNat,by omega⟩
  subst hr
  have hl:c< (Zaz n i).length:=by unfold Zaz;omega
  refine⟨i,b,c,xs, ?_,by omega,by omega,hl,(ZlJ n q i).1 r5, ?_⟩
  ·have a1: (Zac n i b).1=xf:=r1
   have a2: (Zac n i c).1=xt:=r2
   have a3: (Zac n i b).2.2.1=xd:=r3
   have a4: (Zac n i c).2.1=xa:=r4
   unfold ZdU
   rw[a1,a2,a3,a4]
  ·rcases r6 with r6|r6
   ·exact .inl r6
   ·exact .inr r6.1
 ·rintro ⟨i,b,c,st,rfl,h1,h2,h3,h4,h5⟩
  have hb:b< (Zaz n i).length:=by omega
  have s1:=h.stop h1 hb
  have s2:=h.stop h1 h3
  have t1:=h.time h1 hb
  have t2:=h.time h1 h3
  have hex:Zbi n (ZdU n i b c st)=true:=by
   unfold Zbi Za2
   simp only[Bool.and_eq_true,decide_eq_true_eq]
   have:c< (rn n (i:Int)).2.2.2.2.2.2.2.1.length:=h3
   exact⟨Zoi.2 h1,by show (0:Int)≤(b:Int);omega,by show (b:Int)< (c:Int);omega,by show (c:Int)<_;show (c:Int)< ((rn n (i:Int)).2.2.2.2.2.2.2.1.length:Int);omega⟩
  refine⟨⟨⟨ZeY.2 s1,ZeY.2 s2⟩, ?_,⟨⟨by show (0:Int)≤(Zac n i b).2.2.1;omega,t1.2.2⟩,⟨t2.1,by show (Zac n i c).2.1≤_;omega⟩⟩, ?_⟩,rfl⟩
  ·show (!Zbi n (ZdU n i b c st))=false
   rw[hex];rfl
  ·refine Zds.2 ⟨⟨rfl,rfl⟩,⟨rfl,rfl⟩,(ZlJ n q i).2 h4, ?_⟩
   rcases h5 with h5|h5
   ·exact .inl h5
   ·exact .inr ⟨h5,Zfk ..⟩
theorem ZlM (h:ZdW n) {x:Zbb} : (Zik n (Zb6 q) x=0∧x.1=false)↔ ∃p∈n.2.2.2.2.1, ∃a,x=ZgU p.1 p.2.1 a (a+p.2.2.1)∧0≤a∧a+p.2.2.1≤3155932800:=by
 rw[Zpy]
 constructor
 ·rintro ⟨⟨h1,h2,h3,h4⟩,hr⟩
  rw[hr] at h2 h4
  simp only[cond_false,Bool.or_eq_false_iff,Bool.not_eq_false',decide_eq_true_eq] at h2 h4
  have h5:=ZeD.1 h4
  obtain⟨p,hp,hm⟩:=List.any_eq_true.1 h5
  rw[Bool.and_eq_true] at hm
  have hm1:=hm.1
  unfold Zc6 at hm1
  simp only[Bool.and_eq_true,decide_eq_true_eq] at hm1
  obtain⟨xr,xi,xb,xc,xf,xt,xd,xa,xs,u⟩:=x
  simp only at hr h1 h2 h3 hm1
  have hpp:=h.path p hp
  rw[Zaq (by omega) (by omega)] at hm1
  obtain⟨rfl,rfl,rfl,rfl⟩:=h2
  subst hr
  refine⟨p,hp,xd, ?_,by omega,by omega⟩
  unfold ZgU
  rw[←hm1.1, ←hm1.2.1,show xa=xd+p.2.2.1 by omega]
 ·rintro ⟨p,hp,a,rfl,h1,h2⟩
  have hpp:=h.path p hp
  refine⟨⟨⟨ZeY.2 hpp.1,ZeY.2 hpp.2.1⟩,rfl,⟨⟨h1,by show a≤_;omega⟩,⟨by show 0≤a+p.2.2.1;omega,h2⟩⟩, ?_⟩,rfl⟩
  show Zf2 n (Zb6 q) _=0
  rw[ZeD]
  refine List.any_eq_true.2 ⟨p,hp, ?_⟩
  unfold Zc6 ZfU Zb6 ZgU
  simp only[Bool.and_eq_true,decide_eq_true_eq,Bool.not_false,Bool.or_true]
  exact⟨⟨trivial,trivial,by rw[Zaq (by omega) (by omega)];omega⟩,trivial⟩
theorem Zj9 (h:ZdW n) {i b c j d e:Nat} {st st' sx:Bool} :Zgg n (ZdU n i b c st) (ZdU n j d e st') sx=true↔isLink n i c j d sx:=by
 unfold Zgg
 rw[List.any_eq_true]
 constructor
 ·rintro ⟨x,hx,hm⟩
  obtain⟨i',c',j',d',s',rfl,_⟩:=h.link x hx
  unfold ZkX ZdU at hm
  simp only[Bool.and_eq_true,decide_eq_true_eq,beq_iff_eq] at hm
  obtain⟨h1,h2,h3,h4,h5⟩:=hm
  unfold isLink
  rw[←h1, ←h2, ←h3, ←h4, ←h5];exact hx
 ·intro hl
  refine⟨_,hl, ?_⟩
  unfold ZkX ZdU
  simp
theorem ZsH (n:ZaJ) (s t a b s' t' a' b' :Int):ZbK n (ZgU s t a b) (ZgU s' t' a' b')≠0:=by
 unfold ZbK ZgU
 intro h
 rw[ZaA (by omega)] at h
 obtain⟨_,h⟩:=h
 simp at h
theorem Zso (n:ZaJ) (s t a b:Int) (j d e:Nat):ZbK n (ZgU s t a b) (ZdU n j d e true)≠0:=by
 unfold ZbK ZgU ZdU
 intro h
 rw[ZaA (by omega)] at h
 obtain⟨_,h⟩:=h
 simp [Zck] at h
theorem Zsj (h:ZdW n) {i b c j d e:Nat} {st:Bool} :ZbK n (ZdU n i b c st) (ZdU n j d e true)=0↔(Zac n i c).1=(Zac n j d).1∧isLink n i c j d true∧(Zac n i c).2.1≤(Zac n j d).2.2.1:=by
 unfold ZbK
 have e1:Zgg n (ZdU n i b c st) (ZdU n j d e true) true=true↔isLink n i c j d true:=Zj9 h
 generalize Zgg n (ZdU n i b c st) (ZdU n j d e true) true=B at*
 unfold ZdU Zck
 simp only[Bool.not_true,Bool.false_and,cond_false,cond_true,Bool.false_or]
 rw[ZaA (by omega),ZaA (by omega)]
 rw[←e1]
 cases B with
 |false=>simp
 |true=>
  simp only[Bool.not_true,Bool.not_eq_false',decide_eq_true_eq,true_and]
  refine and_congr_right fun _=> ?_
  by_cases hlt: (Zac n j d).2.2.1< (Zac n i c).2.1
  ·rw[decide_eq_true hlt];simp;omega
  ·rw[decide_eq_false hlt];simp;omega
theorem ZsB {i b c:Nat} {st:Bool} {s t a z:Int} :ZbK n (ZdU n i b c st) (ZgU s t a z)=0↔(Zac n i c).1=s∧a=(Zac n i c).2.1:=by
 unfold ZbK ZdU ZgU Zck
 simp only[Bool.not_true,Bool.false_and,cond_false,cond_true,Bool.not_false]
 rw[ZaA (by omega)]
 simp only[Bool.not_eq_false',decide_eq_true_eq]
 refine and_congr_right fun _=> ?_
 by_cases hlt:a=(Zac n i c).2.1
 ·rw[decide_eq_true hlt];simp [hlt]
 ·rw[decide_eq_false hlt];simp [hlt]
theorem Zsy {j d e:Nat} {s t a z:Int} :ZbK n (ZgU s t a z) (ZdU n j d e false)=0↔t=(Zac n j d).1∧z≤(Zac n j d).2.2.1:=by
 unfold ZbK ZdU ZgU Zck
 simp only[Bool.not_true,Bool.and_false,cond_false,cond_true,Bool.not_false]
 rw[ZaA (by omega)]
 simp only[Bool.not_eq_false',decide_eq_true_eq]
 refine and_congr_right fun _=> ?_
 by_cases hlt: (Zac n j d).2.2.1<z
 ·rw[decide_eq_true hlt];simp;omega
 ·rw[decide_eq_false hlt];simp;omega
theorem Zsf (h:ZdW n) {i b c j d e:Nat} {st:Bool} (hi:i<n.2.2.1.length) (hc:c< (Zaz n i).length):ZbK n (ZdU n i b c st) (ZdU n j d e false)=0↔(Zac n i c).1=(Zac n j d).1∧
  ((Zac n i c).2.1+(Zb7 n (Zac n i c).1).2.2.2.1≤(Zac n j d).2.2.1∨isLink n i c j d false∧(Zac n i c).2.1≤(Zac n j d).2.2.1):=by
 have ht:=h.time hi hc
 have hs:=h.stop hi hc
 have hcg:=h.change _ hs.1 hs.2
 have w1:IntKind.wrap .i64 ((Zac n i c).2.1+(Zb7 n (Zac n i c).1).2.2.2.1)=(Zac n i c).2.1+(Zb7 n (Zac n i c).1).2.2.2.1:=Zaq (by omega) (by omega)
 unfold ZbK
 have e1:Zgg n (ZdU n i b c st) (ZdU n j d e false) false=true↔isLink n i c j d false:=Zj9 h
 generalize Zgg n (ZdU n i b c st) (ZdU n j d e false) false=B at*
 unfold ZdU Zck
 simp only[Bool.not_true,Bool.false_and,cond_false,w1]
 rw[ZaA (by omega)]
 simp only[Bool.not_eq_false',decide_eq_true_eq]
 refine and_congr_right fun _=> ?_
 rw[←e1]
 by_cases h1: (Zac n i c).2.1+(Zb7 n (Zac n i c).1).2.2.2.1≤(Zac n j d).2.2.1
 ·rw[decide_eq_true h1];simp [h1]
 ·rw[decide_eq_false h1]
  by_cases h2: (Zac n i c).2.1≤(Zac n j d).2.2.1
  ·rw[decide_eq_true h2]
   cases B with
   |true=>simp [h1,h2]
   |false=>simp [h1]
  ·rw[decide_eq_false h2]
   simp [h1,h2]
theorem ZhF {i b c:Nat} {st:Bool} :Zdk n (Zb6 q) (ZdU n i b c st)=0↔(Zac n i c).2.2.2.2.1=true:=by
 unfold Zdk
 rw[ZaA (by omega),ZaA (by omega),Zfk]
 show (!(Zac n i c).2.2.2.2.1)=false∧_↔_
 simp
theorem ZlU {n:ZaJ} {q:Zbo} {L:List Zbb} {i:Nat} :atE n q L i=0↔Zik n q (lg L i)=0∧ZhA n q L i=0∧(Zgj L i=true→Zdk n q (lg L i)=0):=by
 unfold atE
 by_cases h1:Zik n q (lg L i)=0
 ·by_cases h2:ZhA n q L i=0
  ·rw[decide_eq_true h1,decide_eq_true h2]
   cases Zgj L i<;>simp [h1,h2]
  ·rw[decide_eq_true h1,decide_eq_false h2];simp [h2]
 ·rw[decide_eq_false h1];simp [h1]
theorem ZnN {n:ZaJ} {q:Zbo} {L:List Zbb} :Zh1 n q L=0↔(lg L 0).2.2.2.2.1=q.1∧Zck (lg L 0)=false∧(!(lg L 0).1&& (decide (1<L.length) && ((lg L 1).1&& !decide ((lg L 1).2.2.2.2.2.2.1=(lg L 0).2.2.2.2.2.2.2.1))))=false∧
  (!(lg L 0).1&& (decide (L.length=1) && (bif q.2.2.2.1 then !decide ((lg L 0).2.2.2.2.2.2.2.1=q.2.2.1) else !decide ((lg L 0).2.2.2.2.2.2.1=q.2.2.1))))=false∧
  (!q.2.2.2.1&&decide ((lg L 0).2.2.2.2.2.2.1<q.2.2.1))=false∧(q.2.2.2.2.2.2.2.2.2.1&& ((lg L 0).1&&decide ((lg L 0).2.2.2.2.2.2.1<IntKind.wrap .i64 (q.2.2.1+(Zb7 n q.1).2.2.2.1))))=false:=by
 unfold Zh1
 rw[ZaA (by omega),ZaA (by omega),ZaA (by omega),ZaA (by omega),ZaA (by omega)]
 simp only[Bool.not_eq_false',decide_eq_true_eq]
 refine and_congr_right fun _=>and_congr_right fun _=>and_congr_right fun _=>and_congr_right fun _=>and_congr_right fun _=> ?_
 cases (q.2.2.2.2.2.2.2.2.2.1&& ((lg L 0).1&&decide ((lg L 0).2.2.2.2.2.2.1<IntKind.wrap .i64 (q.2.2.1+(Zb7 n q.1).2.2.2.1))))<;>simp
end Q
namespace Q
open Tr Go
open Option (bind_some)
variable {n:ZaJ} {q:Zbo}
theorem Zmz (a b:List Zbb):ZcQ (a++b)=ZcQ a+ZcQ b:=by simp [ZcQ]
theorem Zhe (s t a b:Int):ZcQ [ZgU s t a b]=0:=rfl
theorem Ze7 (n:ZaJ) (i b c:Nat) (st:Bool):ZcQ [ZdU n i b c st]=if st then 0 else 1:=by cases st<;>rfl
theorem Zs0 {L:List Zbb} {i:Nat} (h:i<L.length):lg L i=L[i]:=by unfold lg;rw[Zai h]
theorem Zfa {L:List Zbb} {i:Nat} (h:i<L.length):ZcQ (L.take (i+1))=ZcQ (L.take i)+ZcQ [lg L i]:=by
 rw[List.take_succ_eq_append_getElem h,Zmz,Zs0 h]
def Zpi (n:ZaJ) (s0 t0 w:Int) (L:List Zbb) (i:Nat):Prop:=
 (∃r b c st,lg L i=ZdU n r b c st∧Zq1 n r b c st∧ ∃js,Der n s0 t0 w (.on (ZcQ (L.take (i+1))) r c) js)∨
 (∃p∈n.2.2.2.2.1, ∃a,lg L i=ZgU p.1 p.2.1 a (a+p.2.2.1)∧(∃r,r≤a+p.2.2.1∧ ∃js,Der n s0 t0 w (.rdy (ZcQ (L.take (i+1))) p.2.1 r) js)∧(0<i∨L.length=1→ ∃js,Der n s0 t0 w (.arr (ZcQ (L.take (i+1))) p.2.1 (a+p.2.2.1)) js))
theorem Zoa {n:ZaJ} {q:Zbo} {L:List Zbb} {i:Nat} :ZhA n q L (i+1)=ZbK n (lg L i) (lg L (i+1)):=by
 unfold ZhA
 rw[decide_eq_false (Nat.succ_ne_zero i)]
 rfl
theorem ZmK (h:ZdW n) (hq:0≤q.1∧q.1< (n.1.length:Int)) (ht:0≤q.2.2.1∧q.2.2.1≤3155932800) (hb:q.2.2.2.1=false) {L:List Zbb} (h0:0<L.length) (ha:atE n (Zb6 q) L 0=0):
  Zpi n q.1 q.2.2.1 (bif q.2.2.2.2.2.2.2.2.2.1 then(Zb7 n q.1).2.2.2.1 else 0) L 0:=by
 obtain⟨h1,h2,h3⟩:=ZlU.1 ha
 have hcg:=h.change _ hq.1 hq.2
 have h2' :Zh1 n (Zb6 q) L=0:=h2
 obtain⟨f1,f2,f3,f4,f5,f6⟩:=ZnN.1 h2'
 have g1: (Zb6 q).1=q.1:=rfl
 have g2: (Zb6 q).2.2.1=q.2.2.1:=rfl
 have g3: (Zb6 q).2.2.2.1=q.2.2.2.1:=rfl
 have g4: (Zb6 q).2.2.2.2.2.2.2.2.2.1=q.2.2.2.2.2.2.2.2.2.1:=rfl
 rw[g1] at f1
 rw[g3,hb,g2] at f4 f5
 rw[g4,g2,g1] at f6
 cases hr: (lg L 0).1 with
 |true=>
  obtain⟨i,b,c,st,e,hk⟩:=(Zls h).1 ⟨h1,hr⟩
  have hk' :=hk
  obtain⟨k1,k2,k3,k4,k5⟩:=hk'
  rw[e] at f1 f2 f5 f6
  have hst:st=false:=f2
  subst hst
  have hbd: (Zac n i b).2.2.2.1=true:=k5.resolve_left (by simp)
  have hstop: (Zac n i b).1=q.1:=f1
  have hlate:q.2.2.1+(bif q.2.2.2.2.2.2.2.2.2.1 then(Zb7 n q.1).2.2.2.1 else 0)≤(Zac n i b).2.2.1:=by
   simp only[Bool.not_false,Bool.true_and,decide_eq_false_iff_not] at f5
   have f5' : ¬ (Zac n i b).2.2.1<q.2.2.1:=f5
   cases hc:q.2.2.2.2.2.2.2.2.2.1 with
   |false=>simp only[cond_false];omega
   |true=>
    rw[hc,Zaq (by omega) (by omega)] at f6
    simp only[Bool.true_and] at f6
    have f6' :decide ((Zac n i b).2.2.1<q.2.2.1+(Zb7 n q.1).2.2.2.1)=false:=f6
    rw[decide_eq_false_iff_not] at f6'
    simp only[cond_true]
    omega
  refine .inl ⟨i,b,c,false,e,hk, ?_⟩
  have d:=Der.on (.board (.init (n:=n) (s0:=q.1) (t0:=q.2.2.1) (w:=(bif q.2.2.2.2.2.2.2.2.2.1 then(Zb7 n q.1).2.2.2.1 else 0))) k1 (by omega) k4 hstop hbd hlate) k2 k3
  have:ZcQ (L.take (0+1))=1:=by
   rw[Zfa h0,e,Ze7];rfl
  rw[this];exact⟨_,d⟩
 |false=>
  obtain⟨p,hp,a,e,a0,a1⟩:=(ZlM h).1 ⟨h1,hr⟩
  have hpp:=h.path p hp
  rw[e] at f1 f4 f5
  have hs:p.1=q.1:=f1
  have hK:ZcQ (L.take (0+1))=0:=by rw[Zfa h0,e,Zhe];rfl
  have f5' : ¬a<q.2.2.1:=by
   simp only[Bool.not_false,Bool.true_and,decide_eq_false_iff_not] at f5
   exact f5
  refine .inr ⟨p,hp,a,e,⟨q.2.2.1+p.2.2.1,by omega, ?_⟩,fun hl=> ?_⟩
  ·rw[hK];exact⟨_, .rdyW hp hs (by omega)⟩
  ·have hl1:L.length=1:=hl.resolve_left (by omega)
   rw[decide_eq_true hl1] at f4
   have f4' : (!decide (a=q.2.2.1))=false:=f4
   simp only[Bool.not_eq_false',decide_eq_true_eq] at f4'
   subst f4'
   exact⟨_,by rw[hK];exact .arrW hp hs a1⟩
theorem Zms (h:ZdW n) {s0 t0 w:Int} {L:List Zbb} {i:Nat} (hi:i+1<L.length) (ha:atE n (Zb6 q) L i=0) (hb:atE n (Zb6 q) L (i+1)=0) (hr:Zpi n s0 t0 w L i):Zpi n s0 t0 w L (i+1):=by
 obtain⟨_,_,a3⟩:=ZlU.1 ha
 obtain⟨b1,b2,_⟩:=ZlU.1 hb
 rw[Zoa] at b2
 have hK:=Zfa hi
 have htl: ∀ {r b c:Nat} {st:Bool},lg L i=ZdU n r b c st→Zck (lg L (i+1))=false→(Zac n r c).2.2.2.2.1=true:=by
  intro r b c st e hs
  refine ZhF.1 (?_ :Zdk n (Zb6 q) (ZdU n r b c st)=0)
  rw[←e]
  refine a3 ?_
  unfold Zgj
  rw[e,hs]
  simp [ZdU]
 cases hy: (lg L (i+1)).1 with
 |true=>
  obtain⟨j,d,e,st',ey,hk⟩:=(Zls h).1 ⟨b1,hy⟩
  have hk' :=hk
  obtain⟨k1,k2,k3,k4,k5⟩:=hk'
  rw[ey] at b2 hK
  refine .inl ⟨j,d,e,st',ey,hk, ?_⟩
  cases st' with
  |true=>
   rw[Ze7] at hK
   rcases hr with ⟨r,b,c,st,ex,hx,js,dx⟩ | ⟨p,hp,a,ex,_⟩
   ·rw[ex] at b2
    obtain⟨c1,c2,c3⟩:=(Zsj h).1 b2
    rw[hK]
    exact⟨_, .on (.stay dx c2 c3 k4) k2 k3⟩
   ·rw[ex] at b2
    exact absurd b2 (Zso _ _ _ _ _ _ _ _)
  |false=>
   rw[Ze7] at hK
   have hbd: (Zac n j d).2.2.2.1=true:=k5.resolve_left (by simp)
   have hns:Zck (lg L (i+1))=false:=by rw[ey];rfl
   rcases hr with ⟨r,b,c,st,ex,hx,js,dx⟩ | ⟨p,hp,a,ex,⟨r,hr1,js,dr⟩,_⟩
   ·have hal:=htl ex hns
    rw[ex] at b2
    obtain⟨c1,c2⟩:=(Zsf h hx.1 hx.2.2.1).1 b2
    rw[hK]
    rcases c2 with c2| ⟨c2,c3⟩
    ·exact⟨_, .on (.board (.change (.ride dx hal)) k1 (by omega) k4 c1.symm hbd c2) k2 k3⟩
    ·exact⟨_, .on (.linked (.link dx hal c2 c3 hbd) k4) k2 k3⟩
   ·rw[ex] at b2
    obtain⟨c1,c2⟩:=Zsy.1 b2
    rw[hK]
    exact⟨_, .on (.board dr k1 (by omega) k4 c1.symm hbd (by omega)) k2 k3⟩
 |false=>
  obtain⟨p,hp,a,ey,a0,a1⟩:=(ZlM h).1 ⟨b1,hy⟩
  rw[ey] at b2 hK
  rw[Zhe] at hK
  have hns:Zck (lg L (i+1))=false:=by rw[ey];rfl
  rcases hr with ⟨r,b,c,st,ex,hx,js,dx⟩ | ⟨p',hp',a',ex,_⟩
  ·have hal:=htl ex hns
   rw[ex] at b2
   obtain⟨c1,c2⟩:=ZsB.1 b2
   have dr:=Der.ride dx hal
   refine .inr ⟨p,hp,a,ey,⟨a+p.2.2.1,Int.le_refl _, ?_⟩,fun _=> ?_⟩
   ·rw[hK,c2]
    exact⟨_, .rdyV dr hp c1.symm (by omega)⟩
   ·rw[hK,c2]
    exact⟨_, .arrV dr hp c1.symm (by omega)⟩
  ·rw[ex] at b2
   exact absurd b2 (ZsH _ _ _ _ _ _ _ _ _)
theorem Zsn (h:ZdW n) (hq:0≤q.1∧q.1< (n.1.length:Int)) (ht:0≤q.2.2.1∧q.2.2.1≤3155932800) (hb:q.2.2.2.1=false) {L:List Zbb} (h0:0<L.length) (ha: ∀i,i<L.length→atE n (Zb6 q) L i=0):
  ∃js,Der n q.1 q.2.2.1 (bif q.2.2.2.2.2.2.2.2.2.1 then(Zb7 n q.1).2.2.2.1 else 0) (.arr (ZcQ L) (lg L (L.length - 1)).2.2.2.2.2.1 (lg L (L.length - 1)).2.2.2.2.2.2.2.1) js:=by
 have key: ∀i,i<L.length→Zpi n q.1 q.2.2.1 (bif q.2.2.2.2.2.2.2.2.2.1 then(Zb7 n q.1).2.2.2.1 else 0) L i:=by
  intro i
  induction i with
  |zero=>exact fun hi=>ZmK h hq ht hb h0 (ha 0 hi)
  |succ i ih=>exact fun hi=>Zms h hi (ha i (by omega)) (ha (i+1) hi) (ih (by omega))
 have hr:=key (L.length - 1) (by omega)
 have hlast:=(ZlU.1 (ha (L.length - 1) (by omega))).2.2
 unfold Zpi at hr
 rw[show L.length - 1+1=L.length by omega,List.take_length] at hr
 rcases hr with ⟨r,b,c,st,e,hk,js,d⟩ | ⟨p,hp,a,e,_,hd⟩
 ·have hal: (Zac n r c).2.2.2.2.1=true:=by
   refine ZhF.1 (?_ :Zdk n (Zb6 q) (ZdU n r b c st)=0)
   rw[←e]
   refine hlast ?_
   unfold Zgj
   rw[e,decide_eq_true (show L.length - 1+1=L.length by omega)]
   rfl
  rw[e]
  exact⟨js, .arrR (.ride d hal)⟩
 ·rw[e]
  refine hd ?_
  by_cases h1:L.length=1
  ·exact .inr h1
  ·exact .inl (by omega)
end Q
namespace Q
open Tr Go
open Option (bind_some)
abbrev ZcS:=Int×Int×Int×Int×Int×Int×Unit
def Zr9 (a b:ZcS):Int:=
 if a.2.2.2.2.1<b.2.2.2.2.1 then -1 else if b.2.2.2.2.1<a.2.2.2.2.1 then 1 else
 if a.2.2.2.2.2.1<b.2.2.2.2.2.1 then -1 else if b.2.2.2.2.2.1<a.2.2.2.2.2.1 then 1 else
 if a.1<b.1 then -1 else if b.1<a.1 then 1 else
 if a.2.1<b.2.1 then -1 else if b.2.1<a.2.1 then 1 else 0
def ltC (a b:ZcS):Prop:=a.2.2.2.2.1<b.2.2.2.2.1∨(a.2.2.2.2.1=b.2.2.2.2.1∧(a.2.2.2.2.2.1<b.2.2.2.2.2.1∨(a.2.2.2.2.2.1=b.2.2.2.2.2.1∧(a.1<b.1∨(a.1=b.1∧a.2.1<b.2.1)))))
theorem ZrW (a b:ZcS):Zr9 a b<0↔ltC a b:=by
 unfold Zr9 ltC
 (repeat' split)<;>omega
theorem Zqu (a b:ZcS):0<Zr9 a b↔ltC b a:=by
 unfold Zr9 ltC
 (repeat' split)<;>omega
theorem ZrS {α:Type} (p:Prop) [Decidable p] (x y:α): (bif decide p then x else y)=if p then x else y:=by
 by_cases h:p<;>simp [h]
theorem Zkt (a b:ZcS):F5 a b=some (Zr9 a b):=by
 unfold F5 Zr9
 have w1:IntKind.wrap .i64 (0+1:Int)=1:=by decide
 have w2:IntKind.wrap .i64 (1+1:Int)=2:=by decide
 have w3:IntKind.wrap .i64 (2+1:Int)=3:=by decide
 have w4:IntKind.wrap .i64 (3+1:Int)=4:=by decide
 simp only[ZrS]
 rw[Zbn]
 simp only[show (0:Int)<4 by decide,if_true,idx,show (0:Int)≤0 by decide,Int.toNat_zero,List.getElem?_cons_zero,bind_some,Int.toNat_one,List.getElem?_cons_succ,w1]
 by_cases h1:a.2.2.2.2.1<b.2.2.2.2.1
 ·simp [h1]
 by_cases h2:b.2.2.2.2.1<a.2.2.2.2.1
 ·simp [h1,h2]
 simp only[h1,h2,if_false,bind_some,Sum.elim_inl]
 rw[Zbn]
 simp only[show (1:Int)<4 by decide,if_true,show (0:Int)≤1 by decide,List.getElem?_cons_zero,bind_some,Int.toNat_one,List.getElem?_cons_succ,w2]
 by_cases h3:a.2.2.2.2.2.1<b.2.2.2.2.2.1
 ·simp [h3]
 by_cases h4:b.2.2.2.2.2.1<a.2.2.2.2.2.1
 ·simp [h3,h4]
 simp only[h3,h4,if_false,bind_some,Sum.elim_inl]
 rw[Zbn]
 simp only[show (2:Int)<4 by decide,if_true,show (0:Int)≤2 by decide,List.getElem?_cons_zero,bind_some,show Int.toNat 2=2 by decide,List.getElem?_cons_succ,w3]
 by_cases h5:a.1<b.1
 ·simp [h5]
 by_cases h6:b.1<a.1
 ·simp [h5,h6]
 simp only[h5,h6,if_false,bind_some,Sum.elim_inl]
 rw[Zbn]
 simp only[show (3:Int)<4 by decide,if_true,show (0:Int)≤3 by decide,List.getElem?_cons_zero,bind_some,show Int.toNat 3=3 by decide,List.getElem?_cons_succ,w4]
 by_cases h7:a.2.1<b.2.1
 ·simp [h7]
 by_cases h8:b.2.1<a.2.1
 ·simp [h7,h8]
 simp only[h7,h8,if_false,bind_some,Sum.elim_inl]
 rw[Zbn]
 simp
def Zhs (i:Nat) (l:List ZbN) (c:Nat):ZcS:=((i:Int),(c:Int),((l[c]?).getD c0).1,((l[c+1]?).getD c0).1,((l[c]?).getD c0).2.2.1,((l[c+1]?).getD c0).2.1,())
def Zlh (i:Nat) (l:List ZbN) (m:Nat):List ZcS:=(List.range m).map (Zhs i l)
def Znn (i:Nat) (x:Zho):List ZcS:=if x.2.2.2.2.2.2.1=true then [] else Zlh i x.2.2.2.2.2.2.2.1 (x.2.2.2.2.2.2.2.1.length - 1)
def Zhy (n:ZaJ) (k:Nat):List ZcS:=(List.range k).flatMap fun i=>Znn i ((n.2.2.1[i]?).getD u0)
theorem Zov (i:Nat) (l:List ZbN) (m:Nat):Zlh i l (m+1)=Zlh i l m++[Zhs i l m]:=by
 unfold Zlh
 rw[List.range_succ,List.map_append];rfl
theorem Zg4 (n:ZaJ) (k:Nat):Zhy n (k+1)=Zhy n k++Znn k ((n.2.2.1[k]?).getD u0):=by
 unfold Zhy
 rw[List.range_succ,List.flatMap_append];simp
theorem ZiT {i:Nat} {x:Zho} {c:ZcS} (h:c∈Znn i x):x.2.2.2.2.2.2.1=false∧ ∃k,k+1<x.2.2.2.2.2.2.2.1.length∧c=Zhs i x.2.2.2.2.2.2.2.1 k:=by
 unfold Znn at h
 split at h
 ·simp at h
 ·next hc=>
  unfold Zlh at h
  obtain⟨k,hk,rfl⟩:=List.mem_map.1 h
  rw[List.mem_range] at hk
  exact⟨by simpa using hc,k,by omega,rfl⟩
theorem ZpK {i:Nat} {x:Zho} (h:x.2.2.2.2.2.2.2.1.length≤32): (Znn i x).length≤31:=by
 unfold Znn
 split
 ·simp
 ·simp [Zlh];omega
theorem ZlB {α:Type} {l:List α} {i:Nat} (h:i<l.length) (d:α): (l[i]?).getD d∈l:=by
 rw[List.getElem?_eq_getElem h];exact List.getElem_mem h
theorem Zmp {n:ZaJ} (h:Zd9 n): ∀k,k≤n.2.2.1.length→(Zhy n k).length≤31*k
 |0,_=>by simp [Zhy]
 |k+1,hk=>by
  rw[Zg4,List.length_append]
  have:=Zmp h k (by omega)
  have:=ZpK (i:=k) (h.many _ (ZlB (show k<n.2.2.1.length by omega) u0)).2
  omega
theorem Zrv {i:Nat} {x:Zho} (h:ZrL x.2.2.2.2.2.2.2.1): (Znn i x).Pairwise ltC:=by
 unfold Znn
 split
 ·exact .nil
 ·unfold Zlh
  rw[List.pairwise_map]
  refine List.Pairwise.imp_of_mem ?_ List.pairwise_lt_range
  intro a b ha hb hab
  rw[List.mem_range] at ha hb
  generalize hl:x.2.2.2.2.2.2.2.1=l at*
  have step: ∀k (hk:k+1<l.length),((l[k]?).getD c0).2.2.1≤((l[k+1]?).getD c0).2.1∧((l[k+1]?).getD c0).2.1≤((l[k+1]?).getD c0).2.2.1:=by
   intro k hk
   have t:=h (k+1) hk
   have t2:=t.2.2.2 (by omega)
   rw[Zai hk,Zai (show k<l.length by omega)]
   have e:l[k+1 - 1]'(by omega)=l[k]:=rfl
   rw[e] at t2
   exact⟨t2.2,t.2.1⟩
  have mono: ∀d k,k+d+1<l.length→((l[k]?).getD c0).2.2.1≤((l[k+d]?).getD c0).2.2.1∧((l[k+1]?).getD c0).2.1≤((l[k+d+1]?).getD c0).2.1:=by
   intro d
   induction d with
   |zero=>exact fun k hk=>⟨Int.le_refl _,Int.le_refl _⟩
   |succ d ih=>
    intro k hk
    have h1:=ih k (by omega)
    have h2:=step (k+d) (by omega)
    have h3:=step (k+d+1) (by omega)
    refine⟨?_, ?_⟩
    ·show _≤((l[k+d+1]?).getD c0).2.2.1
     omega
    ·show _≤((l[k+d+1+1]?).getD c0).2.1
     omega
  have m:=mono (b - a) a (by omega)
  rw[show a+(b - a)=b by omega] at m
  show ((l[a]?).getD c0).2.2.1< ((l[b]?).getD c0).2.2.1∨(((l[a]?).getD c0).2.2.1=((l[b]?).getD c0).2.2.1∧(((l[a+1]?).getD c0).2.1< ((l[b+1]?).getD c0).2.1∨(((l[a+1]?).getD c0).2.1=((l[b+1]?).getD c0).2.1∧((i:Int)< (i:Int)∨((i:Int)=(i:Int)∧(a:Int)< (b:Int))))))
  obtain⟨m1,m2⟩:=m
  generalize ((l[a]?).getD c0).2.2.1=w1 at*
  generalize ((l[b]?).getD c0).2.2.1=w2 at*
  generalize ((l[a+1]?).getD c0).2.1=w3 at*
  generalize ((l[b+1]?).getD c0).2.1=w4 at*
  omega
theorem Zo9 {n:ZaJ} (h:Zd9 n): ∀k,k≤n.2.2.1.length→(Zhy n k).Pairwise fun a b=>ltC a b∨ltC b a:=by
 intro k hk
 unfold Zhy
 rw[List.pairwise_flatMap]
 refine⟨fun i hi=> ?_, ?_⟩
 ·rw[List.mem_range] at hi
  exact(Zrv (h.time _ (ZlB (show i<n.2.2.1.length by omega) u0))).imp fun h=> .inl h
 ·refine List.Pairwise.imp ?_ List.pairwise_lt_range
  intro a b hab x hx y hy
  obtain⟨_,p,_,rfl⟩:=ZiT hx
  obtain⟨_,q,_,rfl⟩:=ZiT hy
  have key: ∀u v:ZcS,u.1<v.1→ltC u v∨ltC v u:=fun u v h=>by unfold ltC;omega
  exact key _ _ (show ((a:Nat):Int)< ((b:Nat):Int) by omega)
theorem ZrD (a:ZcS): ¬ltC a a:=by unfold ltC;omega
theorem ZsM {a b c:ZcS} (h1:ltC a b) (h2:ltC b c):ltC a c:=by unfold ltC at*;omega
theorem Zs1 {α:Type} {o:Option α} {z:α} (h: ∃r,o=some r∧r=z):o=some z:=by
 obtain⟨r,rfl,rfl⟩:=h;rfl
theorem ZnH       {i : Nat} {x : Zho } (hl : x.2.2.2.2.2.2.2.1.length ≤ 32) (h1 : 1 ≤ x.2.2.2.2.2.2.2.1.length) {out : List ZcS  } (ho : out.length ≤ 100000) :
    run
 (fun s3 : List ZcS   × Int =>
 bif decide (s3.2 < IntKind.wrap .i64 ((↑(List.length x.2.2.2.2.2.2.2.1) : Int) - (1 : Int))) then
 Option.bind (idx x.2.2.2.2.2.2.2.1 s3.2) fun x4 =>
 Option.bind (idx x.2.2.2.2.2.2.2.1 (IntKind.wrap .i64 (s3.2 + (1 : Int)))) fun x5 =>
 Option.bind (Zas    (decide (List.length s3.1 + List.length [((i : Int), s3.2, x4.1, x5.1, x4.2.2.1, x5.2.1, ())] ≤ Zay   ))) fun _ =>
 some (.inl (s3.1 ++ [((i : Int), s3.2, x4.1, x5.1, x4.2.2.1, x5.2.1, ())], IntKind.wrap .i64 (s3.2 + (1 : Int))))
 else some (.inr s3.1))
 (out, (0 : Int)) = some (out ++ Zlh  i x.2.2.2.2.2.2.2.1 (x.2.2.2.2.2.2.2.1.length - 1)) := by
  generalize x.2.2.2.2.2.2.2.1 = l at *
  have e0 : IntKind.wrap .i64 ((l.length : Int) - 1) = ((l.length - 1 : Nat) : Int) := by rw [Zaq      (by omega) (by omega)]; omega
  refine Zs1   (Zby     (l.length - 1) _ (fun c (s : List ZcS   × Int) => s = (out ++ Zlh  i l c, (c : Int))) ?_ ?_ _ (by simp [Zlh ]))
  · rintro c s hc rfl
    left
    have hc1 : c + 1 < l.length := by omega
    refine ⟨(out ++ Zlh  i l (c + 1), ((c + 1 : Nat) : Int)), ?_, rfl⟩
    simp only [e0, ZaG    hc, cond_true, Zag     (show c < l.length by omega), bind_some, Zan       hc (show l.length - 1 ≤ 9223372036854775807 by omega), Zag     hc1]
    rw [Zbk       (by have : (Zlh  i l c).length = c := by simp [Zlh ]
                      simp; omega)]
    simp only [bind_some, Zov      , Zhs  , Zai     hc1, Zai     (show c < l.length by omega), List.append_assoc]
  · rintro s rfl
    refine ⟨_, ?_, rfl⟩
    simp only [e0, ZaI    , cond_false]
theorem Zp1 {n:ZaJ} {c:ZcS} (h:c∈Zhy n n.2.2.1.length): ∃i, ∃hi:i<n.2.2.1.length,(n.2.2.1[i]).2.2.2.2.2.2.1=false∧ ∃k,k+1< (n.2.2.1[i]).2.2.2.2.2.2.2.1.length∧c=Zhs i (n.2.2.1[i]).2.2.2.2.2.2.2.1 k:=by
 unfold Zhy at h
 obtain⟨i,hi,hc⟩:=List.mem_flatMap.1 h
 rw[List.mem_range] at hi
 rw[Zai hi] at hc
 exact⟨i,hi,ZiT hc⟩
theorem ZqB {n:ZaJ} (hf:Fit n): ∃r,F36 n=some r∧F56 n=some r∧(r.2.2≠0→F6 n=some ([],21))∧
  (r.2.2=0→Zd9 n∧ ∃ys:List ZcS,F6 n=some (ys,0)∧ys.Perm (Zhy n n.2.2.1.length)∧ys.Pairwise ltC):=by
 obtain⟨r,h1,h2,h3⟩:=ZmN n hf
 refine⟨r,h1,h2,fun hr=> ?_,fun hr=> ?_⟩
 ·unfold F6
  rw[h1]
  simp only[bind_some,decide_eq_false hr,Bool.not_false,cond_true]
 ·have hS:=h3 hr
  refine⟨hS, ?_⟩
  have hlen:=hS.runs
  have hcl:=Zmp hS
  obtain⟨ys,g1,g2,g3⟩:=Zjw (cmp:=F5) ltC (Zhy n n.2.2.1.length) (by have:=hcl _ (Nat.le_refl _);omega) (fun x _ y _=>⟨_,Zkt x y,ZrW x y,Zqu x y⟩) (fun x _=>ZrD x) (fun a _ b _ c _=>ZsM) (Zo9 hS _ (Nat.le_refl _))
  refine⟨ys, ?_,g2,g3⟩
  unfold F6
  rw[h1]
  simp only[bind_some,hr,decide_true,Bool.not_true,cond_false]
  refine Zeg (fun r=>r=Zhy n n.2.2.1.length) (Zby n.2.2.1.length _ (fun i (s:List ZcS×Int)=>s=(Zhy n i,(i:Int))) ?_ ?_ _ (by simp [Zhy])) ?_
  ·rintro i s hi rfl
   left
   have hx:=List.getElem_mem hi
   refine⟨(Zhy n (i+1),((i+1:Nat):Int)), ?_,rfl⟩
   have hlen2:=hcl i (by omega)
   simp only[ZaG hi,cond_true,Zag hi,bind_some,Zan hi (show n.2.2.1.length≤9223372036854775807 by omega),Zg4,Zai hi,Znn]
   cases hc: (n.2.2.1[i]).2.2.2.2.2.2.1 with
   |true=>simp only[cond_true,if_true,List.append_nil]
   |false=>
    simp only[cond_false,Bool.false_eq_true,if_false]
    rw[ZnH (hS.many _ hx).2 (by have:=(hS.many _ hx).1;omega) (by omega)]
    rfl
  ·rintro s rfl
   refine⟨_, ?_,rfl⟩
   simp only[ZaI,cond_false]
  ·rintro _ rfl
   unfold F106
   rw[g1]
   rfl
theorem Zn4 {ys:List ZcS} (hs:ys.Pairwise ltC) {i j:Nat} (hij:i<j) (hj:j<ys.length):ltC (ys[i]'(by omega)) ys[j]:=List.pairwise_iff_getElem.1 hs i j (by omega) hj hij
theorem Zsl {α:Type} {l:List α} {i:Nat} (h:i<l.length):idx l (i:Int)=some l[i]:=Zag h
theorem ZqF (n:Nat) (p:Nat→Bool) (h: ∀i j,i<j→j<n→p j=true→p i=true): ∃k,k≤n∧ ∀i,i<n→(p i=true↔i<k):=by
 induction n with
 |zero=>exact⟨0,Nat.le_refl _,fun i hi=>by omega⟩
 |succ n ih=>
  obtain⟨k,hk,h1⟩:=ih fun i j hij hj=>h i j hij (by omega)
  cases hp:p n with
  |true=>
   refine⟨n+1,Nat.le_refl _,fun i hi=>⟨fun _=>hi,fun _=> ?_⟩⟩
   by_cases e:i=n
   ·subst e;exact hp
   ·exact h i n (by omega) (by omega) hp
  |false=>
   refine⟨k,by omega,fun i hi=> ?_⟩
   by_cases e:i=n
   ·subst e;rw[hp];constructor
    ·intro h;exact absurd h (by decide)
    ·intro h;omega
   ·exact h1 i (by omega)
def Zht (l:List ZcS) (i:Nat):Int:=((l[i]?).getD (0,0,0,0,0,0,())).2.2.2.2.1
theorem ZlK {ys:List ZcS} (hs:ys.Pairwise ltC) {i j:Nat} (hij:i<j) (hj:j<ys.length):Zht ys i≤Zht ys j:=by
 have h:=Zn4 hs hij hj
 unfold Zht
 rw[Zai hj,Zai (show i<ys.length by omega)]
 unfold ltC at h
 omega
theorem Zp5 {lo hi:Nat} (h:lo<hi) (hn:hi≤1000000):IntKind.wrap .i64 (Int.tdiv (IntKind.wrap .i64 ((lo:Int)+(hi:Int))) (2:Int))=((lo+(hi - lo) / 2:Nat):Int):=by
 have e1:IntKind.wrap .i64 ((lo:Int)+(hi:Int))=((lo+hi:Nat):Int):=by rw[Zaq (by omega) (by omega)];omega
 rw[e1,Int.tdiv_eq_ediv_of_nonneg (by omega),Zaq (by omega) (by omega)]
 omega
theorem Zn2 {ys:List ZcS} (hs:ys.Pairwise ltC) (hl:ys.length≤1000000) (t:Int): ∃k,k≤ys.length∧F7 ys t=some (k:Int)∧ ∀i,i<ys.length→(Zht ys i≤t↔i<k):=by
 obtain⟨k,hk,h1⟩:=ZqF ys.length (fun i=>decide (Zht ys i≤t)) fun i j hij hj hp=>by
  have:=ZlK hs hij hj
  simp only[decide_eq_true_eq] at hp ⊢
  omega
 simp only[decide_eq_true_eq] at h1
 refine⟨k,hk, ?_,h1⟩
 unfold F7 F9
 simp only
 rw[ZqR hk]
 ·rfl
 ·intro lo hi hlt hhi
  have hm:lo+(hi - lo) / 2<ys.length:=by omega
  have hd:=h1 _ hm
  unfold Zht at hd
  rw[Zai hm] at hd
  simp only[decide_eq_true (show (lo:Int)< (hi:Int) by omega),cond_true,Zp5 hlt (by omega),F8,Zsl hm,bind_some]
  by_cases hc:lo+(hi - lo) / 2<k
  ·rw[if_pos hc,decide_eq_false (Int.not_lt.2 (hd.2 hc))]
   simp only[cond_false]
   rw[Zan hm (by omega)]
  ·rw[if_neg hc,decide_eq_true (Int.not_le.1 (mt hd.1 hc))]
   rfl
 ·intro lo
  simp only[ZaI,cond_false]
theorem ZrX {n:ZaJ} {i m:Nat} (hi:i<n.2.2.1.length) (hm:m+1< (Zaz n i).length) (hc:ZbO n i=false):Zhs i (Zaz n i) m∈Zhy n n.2.2.1.length:=by
 unfold Zhy
 refine List.mem_flatMap.2 ⟨i,List.mem_range.2 hi, ?_⟩
 rw[Zai hi]
 have e:Zaz n i=(n.2.2.1[i]).2.2.2.2.2.2.2.1:=Zbf hi
 have hc' : (n.2.2.1[i]).2.2.2.2.2.2.1=false:=by
  unfold ZbO rn at hc
  rw[Int.toNat_natCast,Zai hi] at hc
  exact hc
 unfold Znn
 rw[if_neg (by rw[hc'];simp), ←e]
 unfold Zlh
 refine List.mem_map.2 ⟨m,List.mem_range.2 (by omega),rfl⟩
end Q
namespace Q
open Tr Go
open Option (bind_some)
abbrev Zd5:=Int×Int×Int×Int×Int×Unit
abbrev ZjE:=Int×Int×Bool×Unit
abbrev ScT:=ZaJ×Zbo×List Zph×List Zd5×List ZjE×List (List Int) ×Bool×Unit
structure Ctx (n:ZaJ) (s0 t0 w:Int):Prop where
 net:ZdW n
 stop:0≤s0∧s0< (n.1.length:Int)
 time:0≤t0∧t0≤3155932800
 wait:0≤w∧w≤3600
variable {n:ZaJ} {s0 t0 w:Int}
theorem Ctx.ok (C:Ctx n s0 t0 w) {f:ZoQ} {js:List Zbb} (d:Der n s0 t0 w f js):f.ok n:=d.ok C.net C.stop C.time C.wait
def ZbS (old new:Int):Bool:=decide (old= -1) ||decide (new<old)
theorem Zfi (old new:Int): (bif decide (old=(-1:Int)) then some true else some (decide (new<old)))=some (ZbS old new):=by
 unfold ZbS
 cases decide (old=(-1:Int))<;>rfl
theorem ZbP {a b:Int} :ZbS a b=true↔a= -1∨b<a:=by
 unfold ZbS
 rw[Bool.or_eq_true,decide_eq_true_eq,decide_eq_true_eq]
theorem ZkL {a b:Int} (h:ZbS a b=false):a≠ -1∧a≤b:=by
 have: ¬ (a= -1∨b<a):=fun e=>by rw[ZbP.2 e] at h;cases h
 omega
theorem Zsv {a b t:Int} (hb:0≤b) (h:a≠ -1∧a≤t): (bif ZbS a b then b else a)≠ -1∧(bif ZbS a b then b else a)≤t:=by
 cases hl:ZbS a b with
 |false=>exact h
 |true=>
  have:=ZbP.1 hl
  simp only[cond_true]
  omega
theorem Zq3 {a b:Int} (hb:0≤b): (bif ZbS a b then b else a)≠ -1∧(bif ZbS a b then b else a)≤b:=by
 cases hl:ZbS a b with
 |true=>simp only[cond_true];omega
 |false=>simp only[cond_false];exact ZkL hl
theorem Zej {α:Type} {l:List α} {i:Nat} {p:α} (h:l[i]? =some p) (g:α→α): (l.modify i g)[i]? =some (g p):=by
 rw[List.getElem?_modify,h];simp
theorem Zfj {α:Type} {l:List α} {i j:Nat} (e:i≠j) (g:α→α): (l.modify i g)[j]? =l[j]? :=by
 rw[List.getElem?_modify];simp [e]
theorem ZeX {α:Type} {l:List α} {i j:Nat} {g:α→α} {q:α} (h: (l.modify i g)[j]? =some q): ∃p,l[j]? =some p∧(i=j∧q=g p∨i≠j∧q=p):=by
 by_cases e:i=j
 ·subst e
  cases hp:l[i]? with
  |none=>rw[List.getElem?_modify,hp] at h;simp at h
  |some p=>rw[Zej hp] at h;cases h;exact⟨p,rfl, .inl ⟨rfl,rfl⟩⟩
 ·rw[Zfj e] at h
  exact⟨q,h, .inr ⟨e,rfl⟩⟩
theorem Zeu {α:Type} {l:List α} {i:Nat} (h:i<l.length) (g:α→α):l.modify i g=l.set i (g l[i]):=by
 apply List.ext_getElem?
 intro j
 rw[List.getElem?_modify,List.getElem?_set]
 by_cases hj:i=j
 ·subst hj
  rw[List.getElem?_eq_getElem h]
  simp [h]
 ·simp [hj]
theorem ZlG {α:Type} {l:List α} {i j:Nat} {x y:α} (h: (l.set i x)[j]? =some y): (i=j∧y=x)∨l[j]? =some y:=by
 rw[List.getElem?_set] at h
 by_cases e:i=j
 ·rw[if_pos e] at h
  split at h
  ·exact .inl ⟨e,by simpa using h.symm⟩
  ·exact absurd h (by simp)
 ·rw[if_neg e] at h;exact .inr h
structure SP (D:ZoQ→List Zbb→Prop) (lb:List Zph) (s:Int) (p:Zd5):Prop where
 arr:p.1≠ -1→ ∃k js,Ch lb p.2.2.2.1 js∧D (.arr k s p.1) js
 rid:p.2.1≠ -1→ ∃k js,D (.rid k s p.2.1) js
 rdy:p.2.2.1≠ -1→ ∃k js,Ch lb p.2.2.2.2.1 js∧D (.rdy k s p.2.2.1) js
def SB (D:ZoQ→List Zbb→Prop) (lb:List Zph) (i:Nat) (b:ZjE):Prop:=b.1≠ -1→ ∃k, ∃c:Nat,b.1=(c:Int)∧ ∃js,Ch lb b.2.1 js∧D (.brd k i c b.2.2.1) js
structure Snd (D:ZoQ→List Zbb→Prop) (f:ScT):Prop where
 pls: ∀ (s:Nat) p,f.2.2.2.1[s]? =some p→SP D f.2.2.1 (s:Int) p
 brd: ∀ (i:Nat) b,f.2.2.2.2.1[i]? =some b→SB D f.2.2.1 i b
variable {D:ZoQ→List Zbb→Prop} {lb:List Zph}
theorem SP.app {s:Int} {p:Zd5} (h:SP D lb s p) (m:List Zph):SP D (lb++m) s p:=
 ⟨fun e=>let ⟨k,js,b,c⟩:=h.arr e;⟨k,js,b.app m,c⟩,h.rid,fun e=>let ⟨k,js,b,c⟩:=h.rdy e;⟨k,js,b.app m,c⟩⟩
theorem SB.app {i:Nat} {b:ZjE} (h:SB D lb i b) (m:List Zph):SB D (lb++m) i b:=
 fun e=>let ⟨k,c,e1,js,b,d⟩:=h e;⟨k,c,e1,js,b.app m,d⟩
def LeA (l:List Zd5) (s:Nat) (t:Int):Prop:= ∃p,l[s]? =some p∧p.1≠ -1∧p.1≤t
def LeR (l:List Zd5) (s:Nat) (t:Int):Prop:= ∃p,l[s]? =some p∧p.2.1≠ -1∧p.2.1≤t
def LeY (l:List Zd5) (s:Nat) (t:Int):Prop:= ∃p,l[s]? =some p∧p.2.2.1≠ -1∧p.2.2.1≤t
def LeB (l:List ZjE) (i:Nat) (d:Int):Prop:= ∃b,l[i]? =some b∧b.1≠ -1∧b.1≤d
theorem LeA.weak {l:List Zd5} {s:Nat} {t u:Int} (h:LeA l s t) (e:t≤u):LeA l s u:=let ⟨p,a,b,c⟩:=h;⟨p,a,b,Int.le_trans c e⟩
theorem LeR.weak {l:List Zd5} {s:Nat} {t u:Int} (h:LeR l s t) (e:t≤u):LeR l s u:=let ⟨p,a,b,c⟩:=h;⟨p,a,b,Int.le_trans c e⟩
theorem LeY.weak {l:List Zd5} {s:Nat} {t u:Int} (h:LeY l s t) (e:t≤u):LeY l s u:=let ⟨p,a,b,c⟩:=h;⟨p,a,b,Int.le_trans c e⟩
def Zja (V:List Int) (x:Int):Nat:=V.countP fun v=>ZbS x v
theorem Zn1 (V:List Int) (x:Int):Zja V x≤V.length:=List.countP_le_length
theorem Zof {V:List Int} {x a:Int} (ha:0≤a) (hV:a∈V) (hl:ZbS x a=true):Zja V a<Zja V x:=by
 unfold Zja
 induction V with
 |nil=>cases hV
 |cons v V ih=>
  have hm:V.countP (fun v=>ZbS a v)≤V.countP (fun v=>ZbS x v):=List.countP_mono_left fun u _ hu=>by
   have h1:=ZbP.1 hu
   have h2:=ZbP.1 hl
   exact ZbP.2 (by omega)
  rw[List.countP_cons,List.countP_cons]
  have h1:ZbS a a=false:=by
   cases e:ZbS a a with
   |false=>rfl
   |true=>have:=ZbP.1 e;omega
  rcases List.mem_cons.1 hV with rfl|hV
  ·rw[h1,hl]
   simp only[Bool.false_eq_true,if_false,if_true]
   omega
  ·have h3:=ih hV
   have h4:ZbS a v=true→ZbS x v=true:=fun e=>by
    have h1:=ZbP.1 e
    have h2:=ZbP.1 hl
    exact ZbP.2 (by omega)
   cases e:ZbS a v with
   |true=>rw[h4 e];simp only[if_true];omega
   |false=>simp only[Bool.false_eq_true,if_false];omega
def Zr2 (b:ZjE):Nat:=if b.1= -1 then 40 else b.1.toNat
def Zi8 (V:List Int) (l:List Zd5):Nat:=(l.map fun p=>Zja V p.1+Zja V p.2.2.1).sum
def ZkR (l:List ZjE):Nat:=(l.map Zr2).sum
def pot (V:List Int) (f:ScT):Nat:=Zi8 V f.2.2.2.1+ZkR f.2.2.2.2.1
theorem Zi1 {α:Type} (g:α→Nat): ∀ {l:List α} {i:Nat} (hi:i<l.length) (x:α),((l.set i x).map g).sum+g l[i]=(l.map g).sum+g x
 | [],_,hi,_=>absurd hi (by simp)
 |a::l,0,_,x=>by simp;omega
 |a::l,i+1,hi,x=>by
  have:=Zi1 g (l:=l) (i:=i) (by simpa using hi) x
  simp only[List.set_cons_succ,List.map_cons,List.sum_cons,List.getElem_cons_succ]
  omega
structure ZpB (f g:ScT):Prop where
 arr: ∀s t,LeA g.2.2.2.1 s t→LeA f.2.2.2.1 s t
 rdy: ∀s t,LeY g.2.2.2.1 s t→LeY f.2.2.2.1 s t
 brd: ∀i d,LeB g.2.2.2.2.1 i d→LeB f.2.2.2.2.1 i d
structure Stp (n:ZaJ) (V:List Int) (T:Int) (f g:ScT):Prop where
 net:g.1=f.1
 qry:g.2.1=f.2.1
 lab: ∃m,g.2.2.1=f.2.2.1++m
 pl:g.2.2.2.1.length=f.2.2.2.1.length
 rl:g.2.2.2.2.1.length=f.2.2.2.2.1.length
 lks:g.2.2.2.2.2.1=f.2.2.2.2.2.1
 arr: ∀s t,LeA f.2.2.2.1 s t→LeA g.2.2.2.1 s t
 rid: ∀s t,LeR f.2.2.2.1 s t→LeR g.2.2.2.1 s t
 rdy: ∀s t,LeY f.2.2.2.1 s t→LeY g.2.2.2.1 s t
 brd: ∀i d,LeB f.2.2.2.2.1 i d→LeB g.2.2.2.2.1 i d
 mvd:f.2.2.2.2.2.2.1=true→g.2.2.2.2.2.2.1=true
 same:g.2.2.2.2.2.2.1=true∨ZpB f g
 late: ∀s t,t<T→LeY g.2.2.2.1 s t→LeY f.2.2.2.1 s t
 lateB: ∀ (i m:Nat),i<n.2.2.1.length→m< (Zaz n i).length→(Zac n i m).2.2.1<T→LeB g.2.2.2.2.1 i (m:Int)→LeB f.2.2.2.2.1 i (m:Int)
 pot:pot V g≤pot V f
 fall:f.2.2.2.2.2.2.1=false→g.2.2.2.2.2.2.1=true→Q.pot V g<Q.pot V f
variable {V:List Int} {T:Int}
theorem ZpB.refl (f:ScT):ZpB f f:=⟨fun _ _ h=>h,fun _ _ h=>h,fun _ _ h=>h⟩
theorem ZpB.trans {f g h:ScT} (x:ZpB f g) (y:ZpB g h):ZpB f h:=⟨fun s t e=>x.arr s t (y.arr s t e),fun s t e=>x.rdy s t (y.rdy s t e),fun s t e=>x.brd s t (y.brd s t e)⟩
theorem Stp.refl (f:ScT):Stp n V T f f:=
 ⟨rfl,rfl,⟨[],by simp⟩,rfl,rfl,rfl,fun _ _ h=>h,fun _ _ h=>h,fun _ _ h=>h,fun _ _ h=>h,fun h=>h, .inr (ZpB.refl f),fun _ _ _ h=>h,fun _ _ _ _ _ h=>h,Nat.le_refl _,fun a b=>by rw[a] at b;cases b⟩
theorem Stp.trans {f g h:ScT} (x:Stp n V T f g) (y:Stp n V T g h):Stp n V T f h:=by
 obtain⟨m,hm⟩:=x.lab
 obtain⟨m',hm'⟩:=y.lab
 refine⟨y.net.trans x.net,y.qry.trans x.qry,⟨m++m',by rw[hm',hm,List.append_assoc]⟩,y.pl.trans x.pl,y.rl.trans x.rl,y.lks.trans x.lks,fun s t h=>y.arr s t (x.arr s t h),fun s t h=>y.rid s t (x.rid s t h),fun s t h=>y.rdy s t (x.rdy s t h),fun s t h=>y.brd s t (x.brd s t h),fun e=>y.mvd (x.mvd e), ?_,
  fun s t a b=>x.late s t a (y.late s t a b),fun i m a b c d=>x.lateB i m a b c (y.lateB i m a b c d),Nat.le_trans y.pot x.pot,fun a b=> ?_⟩
 ·rcases y.same with e|e
  ·exact .inl e
  ·rcases x.same with e' |e'
   ·exact .inl (y.mvd e')
   ·exact .inr (e'.trans e)
 ·cases hg:g.2.2.2.2.2.2.1 with
  |true=>exact Nat.lt_of_le_of_lt y.pot (x.fall a hg)
  |false=>exact Nat.lt_of_lt_of_le (y.fall hg b) x.pot
theorem Stp.ch {f g:ScT} (h:Stp n V T f g) {l:Int} {js:List Zbb} (c:Ch f.2.2.1 l js):Ch g.2.2.1 l js:=by
 obtain⟨m,hm⟩:=h.lab
 rw[hm];exact c.app m
def Znm (f:ScT) (x:Zbb) (prev:Int):ScT:=(f.1,f.2.1,f.2.2.1++[(x,prev,())],f.2.2.2)
theorem ZoR (f:ScT) (hl:f.2.2.1.length<4000000000) (x:Zbb) (prev:Int):F91 f x prev=some (Znm f x prev,(f.2.2.1.length:Int)):=by
 unfold F91 Znm
 rw[Zbk (by simp;omega)]
 have e:IntKind.wrap .i64 (((f.2.2.1++[(x,prev,())]).length:Int) - 1)=(f.2.2.1.length:Int):=by
  rw[List.length_append]
  simp only[List.length_cons,List.length_nil]
  rw[Zaq (by omega) (by omega)];omega
 rw[e]
 rfl
theorem Zlj (f:ScT) (x:Zbb) (p:Int):Stp n V T f (Znm f x p):=
 ⟨rfl,rfl,⟨[(x,p,())],rfl⟩,rfl,rfl,rfl,fun _ _ h=>h,fun _ _ h=>h,fun _ _ h=>h,fun _ _ h=>h,fun h=>h, .inr ⟨fun _ _ h=>h,fun _ _ h=>h,fun _ _ h=>h⟩,fun _ _ _ h=>h,fun _ _ _ _ _ h=>h,Nat.le_refl _,fun a b=>by
  have b' :f.2.2.2.2.2.2.1=true:=b
  rw[a] at b';cases b'⟩
theorem Snd.add {f:ScT} (h:Snd D f) (x:Zbb) (p:Int):Snd D (Znm f x p):=
 ⟨fun s q hq=>(h.pls s q hq).app _,fun i b hb=>(h.brd i b hb).app _⟩
def Zr8 (p:Zd5) (a l:Int):Zd5:=bif ZbS p.1 a then(a,p.2.1,p.2.2.1,l,p.2.2.2.2) else p
def ZrY (p:Zd5) (r l:Int):Zd5:=bif ZbS p.2.2.1 r then(p.1,p.2.1,r,p.2.2.2.1,l,p.2.2.2.2.2) else p
def Znr (p:Zd5) (a r l:Int):Zd5:=ZrY (Zr8 p a l) r l
def Zi6 (f:ScT) (i:Nat) (a r l:Int):ScT:=(f.1,f.2.1,f.2.2.1,f.2.2.2.1.modify i fun p=>Znr p a r l,f.2.2.2.2.1,f.2.2.2.2.2.1,
 (ZbS ((f.2.2.2.1[i]?).getD (0,0,0,0,0,())).1 a||ZbS ((f.2.2.2.1[i]?).getD (0,0,0,0,0,())).2.2.1 r) ||f.2.2.2.2.2.2.1,())
theorem Zgv (p:Zd5) (a r l:Int): (Znr p a r l).1=bif ZbS p.1 a then a else p.1:=by
 unfold Znr ZrY Zr8
 cases ZbS p.1 a<;>simp only[cond_true,cond_false]<;>cases ZbS p.2.2.1 r<;>rfl
theorem Zff (p:Zd5) (a r l:Int): (Znr p a r l).2.2.1=bif ZbS p.2.2.1 r then r else p.2.2.1:=by
 unfold Znr ZrY Zr8
 cases ZbS p.1 a<;>simp only[cond_true,cond_false]<;>cases ZbS p.2.2.1 r<;>rfl
theorem Zjb (p:Zd5) (a r l:Int): (Znr p a r l).2.1=p.2.1:=by
 unfold Znr ZrY Zr8
 cases ZbS p.1 a<;>simp only[cond_true,cond_false]<;>cases ZbS p.2.2.1 r<;>rfl
theorem ZeZ (f:ScT) {i:Nat} (hi:i<f.2.2.2.1.length) (a r l:Int):F94 f (i:Int) a r l=some (Zi6 f i a r l):=by
 unfold F94 Zi6
 rw[Zeu hi]
 obtain⟨n,q,lb,pl,rn,lk,mv,u⟩:=f
 simp only at hi
 simp only[ZaZ hi,bind_some,List.getElem?_eq_getElem hi,Option.getD_some]
 generalize hp:pl[i]=p
 rw[Zfi]
 simp only[bind_some]
 unfold Znr Zr8
 cases hl:ZbS p.1 a with
 |true=>
  simp only[cond_true,List.set_set,List.getElem?_set_self hi,bind_some]
  rw[Zfi]
  simp only[bind_some]
  unfold ZrY
  simp only
  cases ZbS p.2.2.1 r with
  |true=>simp only[cond_true,Bool.true_or]
  |false=>simp only[cond_false,Bool.true_or]
 |false=>
  simp only[cond_false]
  rw[Zfi]
  simp only[bind_some]
  unfold ZrY
  cases ZbS p.2.2.1 r with
  |true=>simp only[cond_true,List.getElem?_set_self hi,bind_some,List.set_set,Bool.or_true,Bool.true_or]
  |false=>
   simp only[cond_false,Bool.false_or]
   rw[←hp,List.set_getElem_self]
theorem Zem {P:Zd5→Prop} {l:List Zd5} {i s:Nat} {g:Zd5→Zd5} (hg: ∀p,P p→P (g p)) (h: ∃p,l[s]? =some p∧P p): ∃p,(l.modify i g)[s]? =some p∧P p:=by
 obtain⟨p,h1,h2⟩:=h
 by_cases e:i=s
 ·subst e;exact⟨g p,Zej h1 g,hg p h2⟩
 ·exact⟨p,(Zfj e g).trans h1,h2⟩
theorem Zce {P:Zd5→Prop} {l:List Zd5} {i s:Nat} {g:Zd5→Zd5} (hg: ∀p,l[i]? =some p→P (g p)→P p) (h: ∃p,(l.modify i g)[s]? =some p∧P p): ∃p,l[s]? =some p∧P p:=by
 obtain⟨q,h1,h2⟩:=h
 obtain⟨p,hp,⟨rfl,rfl⟩ | ⟨_,rfl⟩⟩:=ZeX h1
 ·exact⟨p,hp,hg p hp h2⟩
 ·exact⟨_,hp,h2⟩
theorem ZqS {a x:Int} (ha:0≤a) (hV:a∈V):Zja V (bif ZbS x a then a else x)≤Zja V x∧(ZbS x a=true→Zja V (bif ZbS x a then a else x)<Zja V x):=by
 cases hl:ZbS x a with
 |true=>simp only[cond_true];exact⟨Nat.le_of_lt (Zof ha hV hl),fun _=>Zof ha hV hl⟩
 |false=>exact⟨Nat.le_refl _,fun e=>nomatch e⟩
theorem ZiN (f:ScT) {i:Nat} (hi:i<f.2.2.2.1.length) {a r:Int} (ha:0≤a) (hr:0≤r) (hT:T≤r) (hVa:a∈V) (hVr:r∈V) (l:Int):Stp n V T f (Zi6 f i a r l):=by
 have hg: (f.2.2.2.1[i]?).getD (0,0,0,0,0,())=f.2.2.2.1[i]:=Zai hi _
 have hpp:Zi8 V (Zi6 f i a r l).2.2.2.1+(Zja V (f.2.2.2.1[i]).1+Zja V (f.2.2.2.1[i]).2.2.1)=Zi8 V f.2.2.2.1+(Zja V (bif ZbS (f.2.2.2.1[i]).1 a then a else(f.2.2.2.1[i]).1)+Zja V (bif ZbS (f.2.2.2.1[i]).2.2.1 r then r else(f.2.2.2.1[i]).2.2.1)):=by
  have:=Zi1 (fun p:Zd5=>Zja V p.1+Zja V p.2.2.1) hi (Znr f.2.2.2.1[i] a r l)
  simp only[Zgv,Zff] at this
  unfold Zi8 Zi6
  rw[Zeu hi]
  exact this
 have c1:=ZqS (x:=(f.2.2.2.1[i]).1) ha hVa
 have c2:=ZqS (x:=(f.2.2.2.1[i]).2.2.1) hr hVr
 refine⟨rfl,rfl,⟨[],by simp [Zi6]⟩,by simp [Zi6],rfl,rfl,fun s t h=> ?_,fun s t h=> ?_,fun s t h=> ?_,fun _ _ h=>h,fun h=> ?_, ?_,fun s t ht h=> ?_,fun _ _ _ _ _ h=>h, ?_,fun h1 h2=> ?_⟩
 ·refine Zem (P:=fun p=>p.1≠ -1∧p.1≤t) (fun p hp=> ?_) h
  rw[Zgv];exact Zsv ha hp
 ·refine Zem (P:=fun p=>p.2.1≠ -1∧p.2.1≤t) (fun p hp=> ?_) h
  rw[Zjb];exact hp
 ·refine Zem (P:=fun p=>p.2.2.1≠ -1∧p.2.2.1≤t) (fun p hp=> ?_) h
  rw[Zff];exact Zsv hr hp
 ·show (_||f.2.2.2.2.2.2.1)=true
  rw[h,Bool.or_true]
 ·show ((ZbS ((f.2.2.2.1[i]?).getD (0,0,0,0,0,())).1 a||ZbS ((f.2.2.2.1[i]?).getD (0,0,0,0,0,())).2.2.1 r) ||f.2.2.2.2.2.2.1)=true∨_
  rw[hg]
  cases h1:ZbS (f.2.2.2.1[i]).1 a with
  |true=>exact .inl rfl
  |false=>
   cases h2:ZbS (f.2.2.2.1[i]).2.2.1 r with
   |true=>exact .inl rfl
   |false=>
    right
    refine⟨fun s t h=> ?_,fun s t h=> ?_,fun _ _ h=>h⟩
    ·refine Zce (P:=fun p=>p.1≠ -1∧p.1≤t) (fun p hp hq=> ?_) h
     rw[List.getElem?_eq_getElem hi] at hp
     cases hp
     rw[Zgv,h1] at hq
     exact hq
    ·refine Zce (P:=fun p=>p.2.2.1≠ -1∧p.2.2.1≤t) (fun p hp hq=> ?_) h
     rw[List.getElem?_eq_getElem hi] at hp
     cases hp
     rw[Zff,h2] at hq
     exact hq
 ·refine Zce (P:=fun p=>p.2.2.1≠ -1∧p.2.2.1≤t) (fun p hp hq=> ?_) h
  rw[Zff] at hq
  cases hl:ZbS p.2.2.1 r with
  |false=>rw[hl] at hq;exact hq
  |true=>rw[hl] at hq;simp only[cond_true] at hq;omega
 ·show Zi8 V (Zi6 f i a r l).2.2.2.1+ZkR f.2.2.2.2.1≤Zi8 V f.2.2.2.1+ZkR f.2.2.2.2.1
  omega
 ·have h2' : ((ZbS ((f.2.2.2.1[i]?).getD (0,0,0,0,0,())).1 a||ZbS ((f.2.2.2.1[i]?).getD (0,0,0,0,0,())).2.2.1 r) ||f.2.2.2.2.2.2.1)=true:=h2
  rw[hg,h1,Bool.or_false,Bool.or_eq_true] at h2'
  show Zi8 V (Zi6 f i a r l).2.2.2.1+ZkR f.2.2.2.2.1<Zi8 V f.2.2.2.1+ZkR f.2.2.2.2.1
  rcases h2' with h|h
  ·have:=c1.2 h
   omega
  ·have:=c2.2 h
   omega
theorem ZkB {f:ScT} {i:Nat} (hi:i<f.2.2.2.1.length) {a r:Int} (ha:0≤a) (hr:0≤r) (l:Int):LeA (Zi6 f i a r l).2.2.2.1 i a∧LeY (Zi6 f i a r l).2.2.2.1 i r:=by
 have e: (Zi6 f i a r l).2.2.2.1[i]? =some (Znr f.2.2.2.1[i] a r l):=Zej (List.getElem?_eq_getElem hi) _
 exact⟨⟨_,e,by rw[Zgv];exact Zq3 ha⟩,⟨_,e,by rw[Zff];exact Zq3 hr⟩⟩
theorem SP.imp {s:Int} {p:Zd5} (h:SP D lb s p) {a r l:Int} (ha: ∃k js,Ch lb l js∧D (.arr k s a) js) (hr: ∃k js,Ch lb l js∧D (.rdy k s r) js):SP D lb s (Znr p a r l):=by
 obtain⟨h1,h2,h3⟩:=h
 unfold Znr ZrY Zr8
 cases ZbS p.1 a<;>simp only[cond_true,cond_false]<;>cases ZbS p.2.2.1 r<;>simp only[cond_true,cond_false]
 ·exact⟨h1,h2,h3⟩
 ·exact⟨h1,h2,fun _=>hr⟩
 ·exact⟨fun _=>ha,h2,h3⟩
 ·exact⟨fun _=>ha,h2,fun _=>hr⟩
theorem Snd.imp {f:ScT} (h:Snd D f) {i:Nat} {a r l:Int} (ha: ∃k js,Ch f.2.2.1 l js∧D (.arr k (i:Int) a) js) (hr: ∃k js,Ch f.2.2.1 l js∧D (.rdy k (i:Int) r) js):Snd D (Zi6 f i a r l):=by
 refine⟨fun s q hq=> ?_,h.brd⟩
 obtain⟨p,hp,⟨rfl,rfl⟩ | ⟨_,rfl⟩⟩:=ZeX hq
 ·exact(h.pls i p hp).imp ha hr
 ·exact h.pls s _ hp
def Zdd (f:ScT) (i:Nat) (b:ZjE):ScT:=
 bif !(rn f.1 (i:Int)).2.2.2.2.2.2.1&&ZbS ((f.2.2.2.2.1[i]?).getD (0,0,false,())).1 b.1 then(f.1,f.2.1,f.2.2.1,f.2.2.2.1,f.2.2.2.2.1.set i b,f.2.2.2.2.2.1,true,()) else f
theorem Zjl (f:ScT) {i:Nat} (hi:i<f.1.2.2.1.length) (hr:f.2.2.2.2.1.length=f.1.2.2.1.length) (b:ZjE):F92 f (i:Int) b=some (Zdd f i b):=by
 unfold F92 Zdd
 have hi' :i<f.2.2.2.2.1.length:=by omega
 have e:rn f.1 (i:Int)=f.1.2.2.1[i]:=by unfold rn;rw[Int.toNat_natCast,Zai hi]
 rw[e,Zai hi']
 simp only[Zag hi,bind_some,ZaZ hi',List.getElem?_eq_getElem hi']
 cases (f.1.2.2.1[i]).2.2.2.2.2.2.1 with
 |true=>rfl
 |false=>
  simp only[Bool.not_false,cond_false,bind_some,Bool.true_and]
  unfold ZbS
  by_cases h1: (f.2.2.2.2.1[i]).1= -1
  ·rw[decide_eq_true h1];rfl
  ·rw[decide_eq_false h1]
   by_cases h2: (f.2.2.2.2.1[i]).1≤b.1
   ·rw[decide_eq_true h2,decide_eq_false (show¬b.1< (f.2.2.2.2.1[i]).1 by omega)];rfl
   ·rw[decide_eq_false h2,decide_eq_true (show b.1< (f.2.2.2.2.1[i]).1 by omega)];rfl
theorem Zsw {l:List ZjE} {i:Nat} {b:ZjE} (h:ZbS ((l[i]?).getD (0,0,false,())).1 b.1=true) (hb:0≤b.1) {j:Nat} {d:Int} (hj:LeB l j d):LeB (l.set i b) j d:=by
 obtain⟨x,h1,h2,h3⟩:=hj
 by_cases e:i=j
 ·subst e
  have hi:=(List.getElem?_eq_some_iff.1 h1).1
  refine⟨b,List.getElem?_set_self hi, ?_⟩
  rw[h1] at h
  have:=ZbP.1 h
  simp only[Option.getD_some] at this
  omega
 ·exact⟨x,by rw[List.getElem?_set_ne e];exact h1,h2,h3⟩
theorem ZpI {l:List ZjE} {i:Nat} (hi:i<l.length) {b:ZjE} (h:ZbS ((l[i]?).getD (0,0,false,())).1 b.1=false):LeB l i b.1:=by
 rw[Zai hi] at h
 exact⟨l[i],List.getElem?_eq_getElem hi,ZkL h⟩
theorem Zjk (C:ZdW n) (f:ScT) {i c:Nat} (hi:i<n.2.2.1.length) (hir:i<f.2.2.2.2.1.length) (hc:c< (Zaz n i).length) (hT:T≤(Zac n i c).2.2.1) (prev:Int) (st:Bool):Stp n V T f (Zdd f i ((c:Int),prev,st,())):=by
 unfold Zdd
 cases hg: (!(rn f.1 (i:Int)).2.2.2.2.2.2.1&&ZbS ((f.2.2.2.2.1[i]?).getD (0,0,false,())).1 (c:Int)) with
 |false=>exact Stp.refl f
 |true=>
  rw[Bool.and_eq_true] at hg
  have hl:=hg.2
  rw[Zai hir] at hl
  have hl' :=ZbP.1 hl
  have h0: (0:Int)≤(c:Int):=by omega
  have hs:=Zi1 Zr2 hir ((c:Int),prev,st,())
  have hr:Zr2 ((c:Int),prev,st,())<Zr2 f.2.2.2.2.1[i]∨32<c:=by
   unfold Zr2
   simp only
   rw[if_neg (by omega)]
   by_cases e: (f.2.2.2.2.1[i]).1= -1
   ·rw[if_pos e];omega
   ·rw[if_neg e];omega
  have hcl:c<32:=by
   have:=(C.sound.many _ (List.getElem_mem hi)).2
   rw[Zbf hi] at hc
   omega
  have hpot:ZkR (f.2.2.2.2.1.set i ((c:Int),prev,st,()))<ZkR f.2.2.2.2.1:=by
   unfold ZkR;omega
  refine⟨rfl,rfl,⟨[],by simp⟩,rfl,by simp,rfl,fun _ _ h=>h,fun _ _ h=>h,fun _ _ h=>h,fun j d h=>Zsw hg.2 h0 h,fun _=>rfl, .inl rfl,fun _ _ _ h=>h,fun j m hj hm hd h=> ?_, ?_,fun _ _=> ?_⟩
  ·obtain⟨x,h1,h2,h3⟩:=h
   rcases ZlG h1 with ⟨rfl,rfl⟩ |h1
   ·exfalso
    have h3' : (c:Int)≤(m:Int):=h3
    have: (Zac n i c).2.2.1≤(Zac n i m).2.2.1:=by
     have ht:=C.sound.time _ (List.getElem_mem hi)
     have e:=Zbf hi
     have key: ∀k,c+k< (Zaz n i).length→(Zac n i c).2.2.1≤(Zac n i (c+k)).2.2.1:=by
      intro k
      induction k with
      |zero=>exact fun _=>Int.le_refl _
      |succ k ih=>
       intro hk
       have h1:=ih (by omega)
       rw[e] at hk
       have h2:=ht (c+(k+1)) hk
       have h3:=h2.2.2.2 (by omega)
       have h4:Zac n i (c+(k+1))=(n.2.2.1[i]).2.2.2.2.2.2.2.1[c+(k+1)]:=by
        unfold Zac cl
        rw[Int.toNat_natCast,e,Zai hk]
       have hk2:c+(k+1) - 1< (n.2.2.1[i]).2.2.2.2.2.2.2.1.length:=by omega
       have h5:Zac n i (c+k)=(n.2.2.1[i]).2.2.2.2.2.2.2.1[c+(k+1) - 1]:=by
        unfold Zac cl
        rw[Int.toNat_natCast,e,show c+k=c+(k+1) - 1 by omega,Zai hk2]
       rw[h4]
       rw[h5] at h1
       omega
     have:=key (m - c) (by omega)
     rw[show c+(m - c)=m by omega] at this
     exact this
    omega
   ·exact⟨x,h1,h2,h3⟩
  ·show Zi8 V f.2.2.2.1+ZkR (f.2.2.2.2.1.set i ((c:Int),prev,st,()))≤Zi8 V f.2.2.2.1+ZkR f.2.2.2.2.1
   omega
  ·show Zi8 V f.2.2.2.1+ZkR (f.2.2.2.2.1.set i ((c:Int),prev,st,()))<Zi8 V f.2.2.2.1+ZkR f.2.2.2.2.1
   omega
theorem Zj4 {f:ScT} {i:Nat} (hi:i<f.2.2.2.2.1.length) {b:ZjE} (hb:0≤b.1) (hc: (rn f.1 (i:Int)).2.2.2.2.2.2.1=false):LeB (Zdd f i b).2.2.2.2.1 i b.1:=by
 unfold Zdd
 rw[hc]
 cases hl:ZbS ((f.2.2.2.2.1[i]?).getD (0,0,false,())).1 b.1 with
 |false=>exact ZpI hi hl
 |true=>exact⟨b,List.getElem?_set_self hi,by omega,by omega⟩
theorem Snd.board {f:ScT} (h:Snd D f) {i:Nat} {b:ZjE} (hb: (rn f.1 (i:Int)).2.2.2.2.2.2.1=false→SB D f.2.2.1 i b):Snd D (Zdd f i b):=by
 unfold Zdd
 cases hc: (rn f.1 (i:Int)).2.2.2.2.2.2.1 with
 |true=>exact h
 |false=>
  cases ZbS ((f.2.2.2.2.1[i]?).getD (0,0,false,())).1 b.1 with
  |false=>exact h
  |true=>
   refine⟨h.pls,fun j x hx=> ?_⟩
   rcases ZlG hx with ⟨rfl,rfl⟩ |hx
   ·exact hb hc
   ·exact h.brd j x hx
theorem ZhX (f:ScT) (i:Nat) (b:ZjE): (Zdd f i b).2.2.1=f.2.2.1:=by unfold Zdd;cases (!(rn f.1 (i:Int)).2.2.2.2.2.2.1&&ZbS ((f.2.2.2.2.1[i]?).getD (0,0,false,())).1 b.1)<;>rfl
end Q
namespace Q
open Tr Go
open Option (bind_some)
variable {n:ZaJ} {s0 t0 w:Int} {V:List Int} {T:Int}
theorem bex {α β:Type} {o:Option α} {f:α→Option β} {Q:β→Prop} (P:α→Prop) (h: ∃r,o=some r∧P r) (k: ∀r,P r→ ∃s,f r=some s∧Q s): ∃s,Option.bind o f=some s∧Q s:=by
 obtain⟨r,rfl,hr⟩:=h
 exact k r hr
def p00:Zd5:=(0,0,0,0,0,())
def Zbt (f:ScT) (s:Nat):Int:=((f.2.2.2.1[s]?).getD p00).2.1
def Wlk (s t:Int) (l:List Zd5) (p:Zcr):Prop:=p.1=s→t+p.2.2.1≤3155932800→LeA l p.2.1.toNat (t+p.2.2.1)∧LeY l p.2.1.toNat (t+p.2.2.1)
theorem Wlk.mono {s t:Int} {g h:ScT} {p:Zcr} (y:Stp n V T g h) (z:Wlk s t g.2.2.2.1 p):Wlk s t h.2.2.2.1 p:=
 fun a b=>⟨y.arr _ _ (z a b).1,y.rdy _ _ (z a b).2⟩
theorem Wlk.weak {s t u:Int} {l:List Zd5} {p:Zcr} (h:t≤u) (z:Wlk s t l p):Wlk s u l p:=
 fun a b=>let ⟨x,y⟩:=z a (by omega);⟨x.weak (by omega),y.weak (by omega)⟩
theorem ZgN (f:ScT) (i:Nat) (a r l:Int) (j:Nat):Zbt (Zi6 f i a r l) j=Zbt f j:=by
 unfold Zbt Zi6
 simp only[List.getElem?_modify]
 cases f.2.2.2.1[j]? with
 |none=>rfl
 |some p=>
  by_cases e:i=j
  ·simp [e,Zjb]
  ·simp [e]
theorem Zps (C:Ctx n s0 t0 w) {f:ScT} (hf:f.1=n) (hpl:f.2.2.2.1.length=n.1.length) (hp:n.2.2.2.2.1.length≤4096) {s t prev:Int} (ht:0≤t∧t≤3155932800) (hT:T≤t) (hV: ∀p∈n.2.2.2.2.1,t+p.2.2.1∈V)
  (hl:f.2.2.1.length+4096<4000000000) {js:List Zbb} {k:Nat} (hD: ∀p∈n.2.2.2.2.1,p.1=s→t+p.2.2.1≤3155932800→Der n s0 t0 w (.arr k p.2.1 (t+p.2.2.1)) (js++[ZgU s p.2.1 t (t+p.2.2.1)])∧Der n s0 t0 w (.rdy k p.2.1 (t+p.2.2.1)) (js++[ZgU s p.2.1 t (t+p.2.2.1)]))
  (h:Snd (Der n s0 t0 w) f) (hch:Ch f.2.2.1 prev js):
  ∃g,F97 f s t prev=some g∧Stp n V T f g∧Snd (Der n s0 t0 w) g∧(∀p∈n.2.2.2.2.1,Wlk s t g.2.2.2.1 p)∧g.2.2.1.length≤f.2.2.1.length+n.2.2.2.2.1.length∧(∀j,Zbt g j=Zbt f j):=by
 unfold F97
 rw[hf]
 refine bex (fun g=>Stp n V T f g∧Snd (Der n s0 t0 w) g∧(∀p∈n.2.2.2.2.1,Wlk s t g.2.2.2.1 p)∧g.2.2.1.length≤f.2.2.1.length+n.2.2.2.2.1.length∧(∀j,Zbt g j=Zbt f j)) ?_ (fun r hr=>⟨r,rfl,hr⟩)
 have hpn: ∀g:ScT,Stp n V T f g→g.1.2.2.2.2.1=n.2.2.2.2.1:=fun g hg=>by rw[hg.net,hf]
 refine Zby n.2.2.2.2.1.length _ (fun i (st:ScT×Int)=>st.2=(i:Int)∧Stp n V T f st.1∧Snd (Der n s0 t0 w) st.1∧(∀p∈n.2.2.2.2.1.take i,Wlk s t st.1.2.2.2.1 p)∧st.1.2.2.1.length≤f.2.2.1.length+i∧(∀j,Zbt st.1 j=Zbt f j)) ?_ ?_ _ ⟨rfl,Stp.refl f,h,(by simp),by simp,fun _=>rfl⟩
 ·rintro i ⟨g,j⟩ hi ⟨hj,h1,h2,h3,h4,h5⟩
  simp only at hj h1 h2 h3 h4 h5
  subst hj
  left
  have hmem:=List.getElem_mem hi
  have hpo:=C.net.path _ hmem
  rw[List.take_succ_eq_append_getElem hi]
  have hDi:=hD _ hmem
  have hVi:=hV _ hmem
  simp only[ZaG hi,cond_true,Zag hi,bind_some,Zan hi (show _≤9223372036854775807 by omega)]
  generalize n.2.2.2.2.1[i]=p at*
  have w1:IntKind.wrap .i64 (t+p.2.2.1)=t+p.2.2.1:=Zaq (by omega) (by omega)
  simp only[w1]
  by_cases hc:p.1=s
  rotate_left
  ·rw[decide_eq_false hc]
   refine⟨_,rfl,rfl,h1,h2,fun q hq=> ?_,by simp only;omega,h5⟩
   rcases List.mem_append.1 hq with hq|hq
   ·exact h3 q hq
   ·simp only[List.mem_singleton] at hq;subst hq
    exact fun a=>absurd a hc
  by_cases hm:t+p.2.2.1≤3155932800
  rotate_left
  ·rw[decide_eq_true hc,decide_eq_false hm]
   refine⟨_,rfl,rfl,h1,h2,fun q hq=> ?_,by simp only;omega,h5⟩
   rcases List.mem_append.1 hq with hq|hq
   ·exact h3 q hq
   ·simp only[List.mem_singleton] at hq;subst hq
    exact fun _ b=>absurd b hm
  rw[decide_eq_true hc,decide_eq_true hm]
  simp only[cond_true,bind_some]
  rw[ZoR g (by omega)]
  simp only[bind_some]
  obtain⟨d1,d2⟩:=hDi hc hm
  obtain⟨y,hy⟩: ∃y:Nat,p.2.1=(y:Int):=⟨p.2.1.toNat,by omega⟩
  have hnew:=(h1.ch hch).new (ZgU s p.2.1 t (t+p.2.2.1))
  rw[show ((false,0,0,0,s,p.2.1,t,t+p.2.2.1,false,()):Zbb)=ZgU s p.2.1 t (t+p.2.2.1) from rfl]
  generalize ZgU s p.2.1 t (t+p.2.2.1)=x at*
  rw[hy] at d1 d2
  have h0:0≤t+p.2.2.1:=by omega
  have hyl:y< (Znm g x prev).2.2.2.1.length:=by show y<g.2.2.2.1.length;rw[h1.pl];omega
  rw[hy,ZeZ _ hyl]
  have hst:=(h1.trans (Zlj g x prev)).trans (ZiN (V:=V) (T:=T) (Znm g x prev) hyl h0 h0 (by omega) hVi hVi (g.2.2.1.length:Int))
  have hsn:=(h2.add x prev).imp (i:=y) ⟨k,_,hnew,d1⟩ ⟨k,_,hnew,d2⟩
  refine⟨_,rfl,rfl,hst,hsn,fun q hq=> ?_, ?_,fun j=> ?_⟩
  ·rcases List.mem_append.1 hq with hq|hq
   ·exact(h3 q hq).mono ((Zlj g x prev).trans (ZiN (V:=V) (T:=T) (n:=n) (Znm g x prev) hyl h0 h0 (by omega) hVi hVi (g.2.2.1.length:Int)))
   ·simp only[List.mem_singleton] at hq;subst hq
    intro _ _
    rw[hy,Int.toNat_natCast]
    exact ZkB hyl h0 h0 _
  ·show (g.2.2.1++[(x,prev,())]).length≤_
   simp only[List.length_append,List.length_cons,List.length_nil]
   omega
  ·show Zbt (Zi6 (Znm g x prev) y _ _ _) j=_
   rw[ZgN]
   exact h5 j
 ·rintro ⟨g,j⟩ ⟨hj,h1,h2,h3,h4,h5⟩
  simp only at hj h1 h2 h3 h4 h5
  subst hj
  rw[List.take_length] at h3
  simp only[ZaI,cond_false]
  exact⟨_,rfl,h1,h2,h3,h4,h5⟩
def lkI (n:ZaJ) (k:Int):ZjX:=(n.2.2.2.1[k.toNat]?).getD (0,0,0,0,false,())
def Zr3 (n:ZaJ) (out:List (List Int)):Prop:=out.length=n.2.2.1.length∧ ∀ (i:Nat) ks,out[i]? =some ks→ks.length≤1024∧ ∀x:Int,x∈ks↔inR x n.2.2.2.1.length=true∧(lkI n x).1=(i:Int)
theorem Zpd {n:ZaJ} {x:Int} (h:inR x n.2.2.2.1.length=true):lkI n x∈n.2.2.2.1:=by
 rw[ZeY] at h
 have hl:x.toNat<n.2.2.2.1.length:=by omega
 unfold lkI
 rw[Zai hl]
 exact List.getElem_mem hl
theorem Zlr {i c j d:Nat} {st:Bool} (h:isLink n i c j d st): ∃x:Int,inR x n.2.2.2.1.length=true∧lkI n x=((i:Int),(c:Int),(j:Int),(d:Int),st,()):=by
 obtain⟨k,hk,e⟩:=List.getElem_of_mem h
 refine⟨(k:Int),Zoi.2 hk, ?_⟩
 unfold lkI;rw[Int.toNat_natCast,Zai hk,e]
def ZsP (n:ZaJ) (i c:Nat) (g:ScT):Prop:= ∀ (j d:Nat) (st:Bool),isLink n i c j d st→(Zac n i c).2.1≤(Zac n j d).2.2.1→
 (st=true∨(Zac n i c).2.2.2.2.1=true∧(Zac n j d).2.2.2.1=true)→ZbO n j=false→LeB g.2.2.2.2.1 j (d:Int)
theorem ZsP.mono {i c:Nat} {g h:ScT} (y:Stp n V T g h) (z:ZsP n i c g):ZsP n i c h:=fun j d st a b c e=>y.brd _ _ (z j d st a b c e)
theorem Ztz {α:Type} {l:List α} {x:Int} {d:α} (h:inR x l.length=true):idx l x=some ((l[x.toNat]?).getD d):=Zbl h d
theorem Zom (C:Ctx n s0 t0 w) {f:ScT} (hf:f.1=n) (hrl:f.2.2.2.2.1.length=n.2.2.1.length) (ho:Zr3 n f.2.2.2.2.2.1) (h:Snd (Der n s0 t0 w) f) {k i c:Nat} {l:Int} {js:List Zbb} (hl:Ch f.2.2.1 l js) (hd:Der n s0 t0 w (.on k i c) js) (hT:T≤(Zac n i c).2.1):
  ∃g,F93 f (i:Int) (c:Int) l (Zac n i c).2.2.2.2.1=some g∧Stp n V T f g∧Snd (Der n s0 t0 w) g∧ZsP n i c g∧g.2.2.1=f.2.2.1∧(∀j,Zbt g j=Zbt f j)∧g.2.2.2.1=f.2.2.2.1:=by
 obtain⟨_,hi,hc,_⟩:=C.ok hd
 unfold F93
 rw[hf]
 have hio:i<f.2.2.2.2.2.1.length:=by rw[ho.1];exact hi
 obtain⟨hkl,hks⟩:=ho.2 i _ (List.getElem?_eq_getElem hio)
 have e1:idx n.2.2.1 (i:Int)=some n.2.2.1[i]:=Zag hi
 have hcl: (n.2.2.1[i]).2.2.2.2.2.2.2.1=Zaz n i:=(Zbf hi).symm
 have e2:idx (Zaz n i) (c:Int)=some (Zac n i c):=by rw[Zag hc,Zcs hc]
 simp only[e1,bind_some,hcl,e2,Zag hio]
 generalize f.2.2.2.2.2.1[i]=ks at*
 refine bex (fun g=>Stp n V T f g∧Snd (Der n s0 t0 w) g∧(∀x∈ks, ∀ (j d:Nat) (st:Bool),lkI n x=((i:Int),(c:Int),(j:Int),(d:Int),st,())→(Zac n i c).2.1≤(Zac n j d).2.2.1→
  (st=true∨(Zac n i c).2.2.2.2.1=true∧(Zac n j d).2.2.2.1=true)→ZbO n j=false→LeB g.2.2.2.2.1 j (d:Int))∧g.2.2.1=f.2.2.1∧(∀j,Zbt g j=Zbt f j)∧g.2.2.2.1=f.2.2.2.1) ?_ (fun r hr=>⟨r,rfl,hr.1,hr.2.1,fun j d st a b c' e=> ?_,hr.2.2.2⟩)
 rotate_left
 ·obtain⟨x,x1,x2⟩:=Zlr a
  exact hr.2.2.1 x ((hks x).2 ⟨x1,by rw[x2]⟩) j d st x2 b c' e
 refine Zby ks.length _ (fun m (st:ScT×Int)=>st.2=(m:Int)∧Stp n V T f st.1∧Snd (Der n s0 t0 w) st.1∧(∀x∈ks.take m, ∀ (j d:Nat) (s:Bool),lkI n x=((i:Int),(c:Int),(j:Int),(d:Int),s,())→(Zac n i c).2.1≤(Zac n j d).2.2.1→
  (s=true∨(Zac n i c).2.2.2.2.1=true∧(Zac n j d).2.2.2.1=true)→ZbO n j=false→LeB st.1.2.2.2.2.1 j (d:Int))∧st.1.2.2.1=f.2.2.1∧(∀j,Zbt st.1 j=Zbt f j)∧st.1.2.2.2.1=f.2.2.2.1) ?_ ?_ _ ⟨rfl,Stp.refl f,h,(by simp),rfl,fun _=>rfl,rfl⟩
 ·rintro m ⟨g,z⟩ hm ⟨hz,h1,h2,h3,h4,h5,h6⟩
  simp only at hz h1 h2 h3 h4 h5 h6
  subst hz
  left
  obtain⟨x1,x2⟩:=(hks _).1 (List.getElem_mem hm)
  obtain⟨i',c',j,d,st,e,_,hj,_,hc',hdl,_,_⟩:=C.net.link _ (Zpd x1)
  have hgn:g.1=n:=h1.net.trans hf
  rw[List.take_succ_eq_append_getElem hm]
  have e3:idx g.1.2.2.2.1 ks[m]=some (lkI n ks[m]):=by rw[hgn];exact Ztz x1
  have e4:idx g.1.2.2.1 (j:Int)=some n.2.2.1[j]:=by rw[hgn];exact Zag hj
  have hcj: (n.2.2.1[j]).2.2.2.2.2.2.2.1=Zaz n j:=(Zbf hj).symm
  have e5:idx (Zaz n j) (d:Int)=some (Zac n j d):=by rw[Zag hdl,Zcs hdl]
  simp only[ZaG hm,cond_true,Zag hm,bind_some,Zan hm (show _≤9223372036854775807 by omega),e3,e,e4,hcj,e5]
  generalize ks[m]=x at*
  have hi' :i' =i:=by rw[e] at x2;simp only at x2;omega
  subst hi'
  have hadd: ∀g' :ScT,Stp n V T g g' →((Zac n i' c).2.1≤(Zac n j d).2.2.1→c' =c→(st=true∨(Zac n i' c).2.2.2.2.1=true∧(Zac n j d).2.2.2.1=true)→ZbO n j=false→LeB g'.2.2.2.2.1 j (d:Int))→
    ∀y∈ks.take m++[x], ∀ (j d:Nat) (s:Bool),lkI n y=((i' :Int),(c:Int),(j:Int),(d:Int),s,())→(Zac n i' c).2.1≤(Zac n j d).2.2.1→(s=true∨(Zac n i' c).2.2.2.2.1=true∧(Zac n j d).2.2.2.1=true)→ZbO n j=false→LeB g'.2.2.2.2.1 j (d:Int):=by
   intro g' hg' hnew y hy j1 d1 s1 b1 b2 b3 b4
   rcases List.mem_append.1 hy with hy|hy
   ·exact hg'.brd _ _ (h3 y hy j1 d1 s1 b1 b2 b3 b4)
   ·simp only[List.mem_singleton] at hy
    subst hy
    rw[e] at b1
    simp only[Prod.mk.injEq,Int.natCast_inj] at b1
    obtain⟨_,rfl,rfl,rfl,rfl,_⟩:=b1
    exact hnew b2 rfl b3 b4
  by_cases hcc:c' =c
  rotate_left
  ·rw[decide_eq_false (show¬ (c' :Int)=(c:Int) by omega)]
   exact⟨_,rfl,rfl,h1,h2,hadd g (Stp.refl g) (fun _ b=>absurd b hcc),h4,h5,h6⟩
  subst hcc
  by_cases htm: (Zac n i' c').2.1≤(Zac n j d).2.2.1
  rotate_left
  ·rw[decide_eq_true rfl,decide_eq_false htm]
   exact⟨_,rfl,rfl,h1,h2,hadd g (Stp.refl g) (fun a=>absurd a htm),h4,h5,h6⟩
  rw[decide_eq_true rfl,decide_eq_true htm]
  simp only[cond_true]
  have hil:isLink n i' c' j d st:=by unfold isLink;rw[←e];exact Zpd x1
  have e6: (bif st then some true else bif (Zac n i' c').2.2.2.2.1 then some (Zac n j d).2.2.2.1 else some false)=some (st|| ((Zac n i' c').2.2.2.2.1&& (Zac n j d).2.2.2.1)):=by
   cases st<;>cases (Zac n i' c').2.2.2.2.1<;>rfl
  rw[e6]
  simp only[bind_some]
  cases hok: (st|| ((Zac n i' c').2.2.2.2.1&& (Zac n j d).2.2.2.1)) with
  |false=>
   simp only[cond_false]
   refine⟨_,rfl,rfl,h1,h2,hadd g (Stp.refl g) (fun _ _ a=> ?_),h4,h5,h6⟩
   exfalso
   rcases a with rfl| ⟨a,b⟩
   ·simp at hok
   ·rw[a,b] at hok;simp at hok
  |true=>
   simp only[cond_true]
   have hjr:j<g.2.2.2.2.1.length:=by rw[h1.rl,hrl];exact hj
   rw[Zjl g (by rw[hgn];exact hj) (by rw[h1.rl,hrl,hgn])]
   simp only[bind_some]
   have hsb:=Zjk (V:=V) (T:=T) C.net g hj hjr hdl (by omega) l st
   refine⟨_,rfl,rfl,h1.trans hsb,h2.board fun hcn=>fun _=> ?_,hadd _ hsb fun _ _ _ hcn=>Zj4 hjr (b:=((d:Int),l,st,())) (by show (0:Int)≤(d:Int);omega) (by rw[hgn];exact hcn),by rw[ZhX];exact h4,fun y=> ?_, ?_⟩
   ·have hcn' :ZbO n j=false:=by rw[hgn] at hcn;exact hcn
    cases st with
    |true=>exact⟨k,d,rfl,js,h1.ch hl, .stay hd hil htm hcn'⟩
    |false=>
     simp only[Bool.false_or,Bool.and_eq_true] at hok
     exact⟨k+1,d,rfl,js,h1.ch hl, .linked (.link hd hok.1 hil htm hok.2) hcn'⟩
   ·rw[←h5 y]
    unfold Zbt Zdd
    cases (!(rn g.1 (j:Int)).2.2.2.2.2.2.1&&ZbS ((g.2.2.2.2.1[j]?).getD (0,0,false,())).1 (d:Int))<;>rfl
   ·rw[←h6]
    unfold Zdd
    cases (!(rn g.1 (j:Int)).2.2.2.2.2.2.1&&ZbS ((g.2.2.2.2.1[j]?).getD (0,0,false,())).1 (d:Int))<;>rfl
 ·rintro ⟨g,z⟩ ⟨hz,h1,h2,h3,h4,h5,h6⟩
  simp only at hz h1 h2 h3 h4 h5 h6
  subst hz
  rw[List.take_length] at h3
  simp only[ZaI,cond_false]
  exact⟨_,rfl,h1,h2,h3,h4,h5,h6⟩
end Q
namespace Q
open Tr Go
open Option (bind_some)
variable {n:ZaJ} {s0 t0 w:Int} {V:List Int} {T:Int}
def Vst (n:ZaJ) (i m:Nat) (g:ScT):Prop:=((Zac n i m).2.2.2.2.1=true→LeA g.2.2.2.1 (Zac n i m).1.toNat (Zac n i m).2.1∧LeY g.2.2.2.1 (Zac n i m).1.toNat ((Zac n i m).2.1+(Zb7 n (Zac n i m).1).2.2.2.1)∧
 ∀p∈n.2.2.2.2.1,Wlk (Zac n i m).1 (Zac n i m).2.1 g.2.2.2.1 p)∧ZsP n i m g
theorem Vst.mono {i m:Nat} {g h:ScT} (y:Stp n V T g h) (z:Vst n i m g):Vst n i m h:=
 ⟨fun e=>let ⟨a,b,c⟩:=z.1 e;⟨y.arr _ _ a,y.rdy _ _ b,fun p hp=>(c p hp).mono y⟩,z.2.mono y⟩
def RC (n:ZaJ) (f:ScT):Prop:= ∀ (s:Nat) p,f.2.2.2.1[s]? =some p→p.2.1≠ -1→ ∀q∈n.2.2.2.2.1,Wlk (s:Int) p.2.1 f.2.2.2.1 q
theorem RC.step {f g:ScT} (h:RC n f) (y:Stp n V T f g) (hr: ∀j,Zbt g j=Zbt f j):RC n g:=by
 intro s p hp hne q hq
 have hs:=(List.getElem?_eq_some_iff.1 hp).1
 have hsf:s<f.2.2.2.1.length:=by rw[←y.pl];exact hs
 have e:=hr s
 unfold Zbt at e
 rw[hp,Zai hsf] at e
 simp only[Option.getD_some] at e
 rw[e] at hne ⊢
 exact(h s _ (List.getElem?_eq_getElem hsf) hne q hq).mono y
def Zgl (f:ScT) (i:Nat) (a:Int):ScT:=(f.1,f.2.1,f.2.2.1,f.2.2.2.1.modify i fun p=>(p.1,a,p.2.2),f.2.2.2.2)
theorem ZpZ (f:ScT) {i:Nat} (hi:i<f.2.2.2.1.length) {a:Int} (ha:0≤a) (hl:ZbS (f.2.2.2.1[i]).2.1 a=true):Stp n V T f (Zgl f i a):=by
 have hp:Zi8 V (Zgl f i a).2.2.2.1=Zi8 V f.2.2.2.1:=by
  have:=Zi1 (fun p:Zd5=>Zja V p.1+Zja V p.2.2.1) hi ((f.2.2.2.1[i]).1,a,(f.2.2.2.1[i]).2.2)
  unfold Zi8 Zgl
  rw[Zeu hi]
  simp only at this ⊢
  omega
 refine⟨rfl,rfl,⟨[],by simp [Zgl]⟩,by simp [Zgl],rfl,rfl,fun s t h=> ?_,fun s t h=> ?_,fun s t h=> ?_,fun _ _ h=>h,fun h=>h, .inr ⟨fun s t h=> ?_,fun s t h=> ?_,fun _ _ h=>h⟩,fun s t _ h=> ?_,fun _ _ _ _ _ h=>h, ?_,fun a b=> ?_⟩
 ·exact Zem (P:=fun p=>p.1≠ -1∧p.1≤t) (fun p hp=>hp) h
 ·obtain⟨p,h1,h2⟩:=h
  by_cases e:i=s
  ·subst e
   refine⟨_,Zej h1 _, ?_⟩
   rw[List.getElem?_eq_getElem hi] at h1
   cases h1
   have:=ZbP.1 hl
   simp only
   omega
  ·exact⟨p,(Zfj e _).trans h1,h2⟩
 ·exact Zem (P:=fun p=>p.2.2.1≠ -1∧p.2.2.1≤t) (fun p hp=>hp) h
 ·exact Zce (g:=fun p=>(p.1,a,p.2.2)) (P:=fun p=>p.1≠ -1∧p.1≤t) (fun p _ hp=>hp) h
 ·exact Zce (g:=fun p=>(p.1,a,p.2.2)) (P:=fun p=>p.2.2.1≠ -1∧p.2.2.1≤t) (fun p _ hp=>hp) h
 ·exact Zce (g:=fun p=>(p.1,a,p.2.2)) (P:=fun p=>p.2.2.1≠ -1∧p.2.2.1≤t) (fun p _ hp=>hp) h
 ·show Zi8 V (Zgl f i a).2.2.2.1+ZkR f.2.2.2.2.1≤_
  rw[hp];exact Nat.le_refl _
 ·have b' :f.2.2.2.2.2.2.1=true:=b
  rename_i a'
  rw[a] at b';cases b'
theorem Snd.ride {D:ZoQ→List Zbb→Prop} {f:ScT} (h:Snd D f) {i:Nat} {a:Int} (ha: ∃k js,D (.rid k (i:Int) a) js):Snd D (Zgl f i a):=by
 refine⟨fun s q hq=> ?_,h.brd⟩
 obtain⟨p,hp,⟨rfl,rfl⟩ | ⟨_,rfl⟩⟩:=ZeX hq
 ·exact⟨(h.pls i p hp).arr,fun _=>ha,(h.pls i p hp).rdy⟩
 ·exact h.pls s _ hp
structure SI (n:ZaJ) (s0 t0 w:Int) (f:ScT):Prop where
 net:f.1=n
 pl:f.2.2.2.1.length=n.1.length
 rl:f.2.2.2.2.1.length=n.2.2.1.length
 out:Zr3 n f.2.2.2.2.2.1
 snd:Snd (Der n s0 t0 w) f
 rc:RC n f
theorem SI.step {f g:ScT} (h:SI n s0 t0 w f) (y:Stp n V T f g) (hs:Snd (Der n s0 t0 w) g) (hr:RC n g):SI n s0 t0 w g:=
 ⟨y.net.trans h.net,y.pl.trans h.pl,y.rl.trans h.rl,by rw[y.lks];exact h.out,hs,hr⟩
theorem Zoo (C:Ctx n s0 t0 w) (hp:n.2.2.2.2.1.length≤4096) {f:ScT} (hI:SI n s0 t0 w f) (hl:f.2.2.1.length+4096<4000000000) {s:Nat} (hs:s<n.1.length) {a l:Int} {k:Nat} {js:List Zbb} (ha:0≤a∧a≤3155932800) (hT:T≤a) (hVa:a∈V) (hVr:a+(Zb7 n (s:Int)).2.2.2.1∈V) (hVw: ∀p∈n.2.2.2.2.1,a+p.2.2.1∈V)
  (hch:Ch f.2.2.1 l js) (hd:Der n s0 t0 w (.rid k (s:Int) a) js):
  ∃g,(Option.bind (inb (s:Int) (List.length f.2.2.2.1)) fun x16=>
   Option.bind (idx f.1.1 (s:Int)) fun x17=>
   Option.bind (F94 f (s:Int) a (IntKind.wrap .i64 (a+x17.2.2.2.1)) l) fun x18=>
   Option.bind (Option.bind x18.2.2.2.1[x16]? fun x19=>
    bif decide (x19.2.1=(-1:Int)) then some true
    else Option.bind x18.2.2.2.1[x16]? fun x20=>some (decide (a<x20.2.1))) fun x21=>
   Option.bind (bif x21 then
    Option.bind x18.2.2.2.1[x16]? fun x22=>
    Option.bind (F97 (x18.1,x18.2.1,x18.2.2.1,List.set x18.2.2.2.1 x16 (x22.1,a,x22.2.2),x18.2.2.2.2.1,x18.2.2.2.2.2.1,x18.2.2.2.2.2.2.1,()) (s:Int) a l) fun x23=>some x23
    else some x18) fun x24=>some x24)=some g∧Stp n V T f g∧SI n s0 t0 w g∧g.2.2.1.length≤f.2.2.1.length+n.2.2.2.2.1.length∧
   (LeA g.2.2.2.1 s a∧LeY g.2.2.2.1 s (a+(Zb7 n (s:Int)).2.2.2.1)∧ ∀p∈n.2.2.2.2.1,Wlk (s:Int) a g.2.2.2.1 p):=by
 have hcg:=C.net.change (s:Int) (by omega) (by omega)
 have hsl:s<f.2.2.2.1.length:=by rw[hI.pl];exact hs
 have hst:idx f.1.1 (s:Int)=some (Zb7 n (s:Int)):=by rw[hI.net];exact(ZhH C.net.sound (by omega) (by omega)).1
 have w1:IntKind.wrap .i64 (a+(Zb7 n (s:Int)).2.2.2.1)=a+(Zb7 n (s:Int)).2.2.2.1:=Zaq (by omega) (by omega)
 simp only[ZaZ hsl,bind_some,hst,w1]
 rw[ZeZ f hsl]
 simp only[bind_some]
 have hr0:0≤a+(Zb7 n (s:Int)).2.2.2.1:=by omega
 have m1:=ZiN (n:=n) (T:=T) f hsl ha.1 hr0 (by omega) hVa hVr l
 have n1:=ZkB hsl ha.1 hr0 l
 have s1:=hI.snd.imp (i:=s) (l:=l) ⟨k,js,hch, .arrR hd⟩ ⟨k,js,hch, .change hd⟩
 have r1:=hI.rc.step m1 (ZgN f s a _ l)
 have I1:=hI.step m1 s1 r1
 have hlab: (Zi6 f s a (a+(Zb7 n (s:Int)).2.2.2.1) l).2.2.1=f.2.2.1:=rfl
 generalize Zi6 f s a (a+(Zb7 n (s:Int)).2.2.2.1) l=g at*
 have hsg:s<g.2.2.2.1.length:=by rw[m1.pl];exact hsl
 simp only[List.getElem?_eq_getElem hsg,bind_some]
 rw[Zfi]
 simp only[bind_some]
 cases hls:ZbS (g.2.2.2.1[s]).2.1 a with
 |false=>
  simp only[cond_false,bind_some]
  have hno:=ZkL hls
  refine⟨_,rfl,m1,I1,by rw[hlab];omega,n1.1,n1.2,fun p hp' => ?_⟩
  exact(r1 s _ (List.getElem?_eq_getElem hsg) hno.1 p hp').weak hno.2
 |true=>
  simp only[cond_true,bind_some]
  have e: (g.1,g.2.1,g.2.2.1,g.2.2.2.1.set s ((g.2.2.2.1[s]).1,a,(g.2.2.2.1[s]).2.2),g.2.2.2.2.1,g.2.2.2.2.2.1,g.2.2.2.2.2.2.1,())=Zgl g s a:=by
   unfold Zgl
   rw[Zeu hsg]
  rw[e]
  have m2:=ZpZ (n:=n) (V:=V) (T:=T) g hsg ha.1 hls
  have s2:=s1.ride (i:=s) (a:=a) ⟨k,js,hd⟩
  have hgl: (Zgl g s a).2.2.1=f.2.2.1:=hlab
  obtain⟨h,w1,w2,w3,w4,w5,w6⟩:=Zps C (V:=V) (T:=T) (s:=(s:Int)) (t:=a) (prev:=l) (m2.net.trans I1.net) (m2.pl.trans I1.pl) hp ha hT hVw (by rw[hgl];exact hl) (fun q hq e1 e2=>⟨.arrV hd hq e1 e2, .rdyV hd hq e1 e2⟩) s2 (by rw[hgl];exact hch)
  rw[w1]
  simp only[bind_some]
  have m3:=m2.trans w2
  have hrc:RC n h:=by
   intro y p hy hne q hq
   have hyl:=(List.getElem?_eq_some_iff.1 hy).1
   have hyg:y<g.2.2.2.1.length:=by rw[←m3.pl];exact hyl
   have e1:=w6 y
   unfold Zbt at e1
   rw[hy] at e1
   simp only[Option.getD_some] at e1
   by_cases ey:s=y
   ·subst ey
    have e2: (Zgl g s a).2.2.2.1[s]? =some ((g.2.2.2.1[s]).1,a,(g.2.2.2.1[s]).2.2):=Zej (List.getElem?_eq_getElem hsg) _
    rw[e2] at e1
    simp only[Option.getD_some] at e1
    rw[e1]
    exact w4 q hq
   ·have e2: (Zgl g s a).2.2.2.1[y]? =some g.2.2.2.1[y]:=(Zfj ey _).trans (List.getElem?_eq_getElem hyg)
    rw[e2] at e1
    simp only[Option.getD_some] at e1
    rw[e1] at hne ⊢
    exact(r1 y _ (List.getElem?_eq_getElem hyg) hne q hq).mono m3
  refine⟨_,rfl,m1.trans m3,I1.step m3 w3 hrc,by rw[hgl] at w5;exact w5,m3.arr _ _ n1.1,m3.rdy _ _ n1.2,w4⟩
theorem ZrR (C:Ctx n s0 t0 w) (hp:n.2.2.2.2.1.length≤4096) {f:ScT} (hI:SI n s0 t0 w f) (hl:f.2.2.1.length+4097<4000000000) {i m:Nat} (hi:i<n.2.2.1.length) (hm:m+1< (Zaz n i).length) (hcn:ZbO n i=false)
  (hVa: (Zac n i (m+1)).2.1∈V) (hVr: (Zac n i (m+1)).2.1+(Zb7 n (Zac n i (m+1)).1).2.2.2.1∈V) (hVw: ∀p∈n.2.2.2.2.1,(Zac n i (m+1)).2.1+p.2.2.1∈V):
  ∃g,F96 f (Zhs i (Zaz n i) m)=some g∧Stp n V (Zac n i m).2.2.1 f g∧SI n s0 t0 w g∧g.2.2.1.length≤f.2.2.1.length+1+n.2.2.2.2.1.length∧
   ((Zac n i m).2.2.2.1=true→LeY f.2.2.2.1 (Zac n i m).1.toNat (Zac n i m).2.2.1→LeB g.2.2.2.2.1 i (m:Int))∧(LeB g.2.2.2.2.1 i (m:Int)→Vst n i (m+1) g):=by
 have hs1:=C.net.stop hi (show m<_ by omega)
 have hs2:=C.net.stop hi hm
 have ht1:=C.net.time hi (show m<_ by omega)
 have ht2:=C.net.time hi hm
 have htt: (Zac n i m).2.2.1≤(Zac n i (m+1)).2.1:=by
  have ht:=C.net.sound.time _ (List.getElem_mem hi)
  have e:=Zbf hi
  have hm' :=hm
  rw[e] at hm'
  have h3:=(ht (m+1) hm').2.2.2 (by omega)
  have h4:Zac n i (m+1)=(n.2.2.1[i]).2.2.2.2.2.2.2.1[m+1]:=by
   unfold Zac cl;rw[Int.toNat_natCast,e,Zai hm']
  have h5:Zac n i m=(n.2.2.1[i]).2.2.2.2.2.2.2.1[m+1 - 1]:=by
   unfold Zac cl;rw[Int.toNat_natCast,e];exact Zai (show m<_ by omega) _
  rw[h4,h5]
  exact h3.2
 have hcon:Zhs i (Zaz n i) m=((i:Int),(m:Int),(Zac n i m).1,(Zac n i (m+1)).1,(Zac n i m).2.2.1,(Zac n i (m+1)).2.1,()):=rfl
 rw[hcon]
 unfold F96
 have e1:idx f.1.2.2.1 (i:Int)=some n.2.2.1[i]:=by rw[hI.net];exact Zag hi
 have hcl: (n.2.2.1[i]).2.2.2.2.2.2.2.1=Zaz n i:=(Zbf hi).symm
 have hm0:m< (Zaz n i).length:=by omega
 have e2:idx (Zaz n i) (m:Int)=some (Zac n i m):=by rw[Zag hm0,Zcs hm0]
 have w1:IntKind.wrap .i64 ((m:Int)+1)=((m+1:Nat):Int):=by
  have:=(C.net.sound.many _ (List.getElem_mem hi)).2
  rw[hcl] at this
  rw[Zaq (by omega) (by omega)];omega
 have e3:idx (Zaz n i) ((m+1:Nat):Int)=some (Zac n i (m+1)):=by rw[Zag hm,Zcs hm]
 obtain⟨s,hs⟩: ∃s:Nat,(Zac n i m).1=(s:Int):=⟨(Zac n i m).1.toNat,by omega⟩
 have hsl:s<f.2.2.2.1.length:=by rw[hI.pl];omega
 have hir:i<f.2.2.2.2.1.length:=by rw[hI.rl];exact hi
 simp only[e1,bind_some,hs,ZaZ hsl,List.getElem?_eq_getElem hsl,hcl,e2,w1,e3,Int.toNat_natCast]
 have hsp:=hI.snd.pls s _ (List.getElem?_eq_getElem hsl)
 have hYf: ∀t,LeY f.2.2.2.1 s t→(f.2.2.2.1[s]).2.2.1≠ -1∧(f.2.2.2.1[s]).2.2.1≤t:=by
  rintro t ⟨p,h1,h2⟩
  rw[List.getElem?_eq_getElem hsl] at h1
  cases h1
  exact h2
 generalize f.2.2.2.1[s]=p at*
 have ec: (bif (Zac n i m).2.2.2.1 then bif !decide (p.2.2.1=(-1:Int)) then some (decide (p.2.2.1≤(Zac n i m).2.2.1)) else some false else some false)=some ((Zac n i m).2.2.2.1&& (!decide (p.2.2.1=(-1:Int)) &&decide (p.2.2.1≤(Zac n i m).2.2.1))):=by
  cases (Zac n i m).2.2.2.1<;>cases decide (p.2.2.1=(-1:Int))<;>rfl
 rw[ec]
 simp only[bind_some]
 have hb: ∃g,(bif (Zac n i m).2.2.2.1&& (!decide (p.2.2.1=(-1:Int)) &&decide (p.2.2.1≤(Zac n i m).2.2.1)) then Option.bind (F92 f (i:Int) ((m:Int),p.2.2.2.2.1,false,())) fun x5=>some x5 else some f)=some g∧
   Stp n V (Zac n i m).2.2.1 f g∧SI n s0 t0 w g∧g.2.2.1=f.2.2.1∧((Zac n i m).2.2.2.1=true→LeY f.2.2.2.1 s (Zac n i m).2.2.1→LeB g.2.2.2.2.1 i (m:Int)):=by
  cases hc: ((Zac n i m).2.2.2.1&& (!decide (p.2.2.1=(-1:Int)) &&decide (p.2.2.1≤(Zac n i m).2.2.1))) with
  |false=>
   refine⟨f,rfl,Stp.refl f,hI,rfl,fun a b=> ?_⟩
   have:=hYf _ b
   rw[a,decide_eq_false this.1,decide_eq_true this.2] at hc
   cases hc
  |true=>
   rw[Bool.and_eq_true,Bool.and_eq_true,Bool.not_eq_true',decide_eq_false_iff_not,decide_eq_true_eq] at hc
   simp only[cond_true]
   rw[Zjl f (by rw[hI.net];exact hi) (by rw[hI.rl,hI.net])]
   simp only[bind_some]
   have hst:=Zjk (V:=V) (T:=(Zac n i m).2.2.1) C.net f hi hir hm0 (Int.le_refl _) p.2.2.2.2.1 false
   obtain⟨k,js,hch,hd⟩:=hsp.rdy hc.2.1
   have hsn:=hI.snd.board (i:=i) (b:=((m:Int),p.2.2.2.2.1,false,())) fun _=>fun _=>⟨k+1,m,rfl,js,hch, .board hd hi hm0 hcn hs hc.1 hc.2.2⟩
   have hrd: ∀j,Zbt (Zdd f i ((m:Int),p.2.2.2.2.1,false,())) j=Zbt f j:=by
    intro j
    unfold Zbt Zdd
    cases (!(rn f.1 (i:Int)).2.2.2.2.2.2.1&&ZbS ((f.2.2.2.2.1[i]?).getD (0,0,false,())).1 (m:Int))<;>rfl
   refine⟨_,rfl,hst,hI.step hst hsn (hI.rc.step hst hrd),ZhX ..,fun _ _=> ?_⟩
   exact Zj4 hir (b:=((m:Int),p.2.2.2.2.1,false,())) (by show (0:Int)≤(m:Int);omega) (by rw[hI.net];exact hcn)
 obtain⟨f6,b1,b2,b3,b4,b5⟩:=hb
 rw[b1]
 simp only[bind_some]
 have hir6:i<f6.2.2.2.2.1.length:=by rw[b3.rl];exact hi
 simp only[ZaZ hir6,bind_some,List.getElem?_eq_getElem hir6]
 have hsb:=b3.snd.brd i _ (List.getElem?_eq_getElem hir6)
 have hLB:LeB f6.2.2.2.2.1 i (m:Int)→(f6.2.2.2.2.1[i]).1≠ -1∧(f6.2.2.2.2.1[i]).1≤(m:Int):=by
  rintro ⟨x,h1,h2⟩
  rw[List.getElem?_eq_getElem hir6] at h1
  cases h1
  exact h2
 generalize f6.2.2.2.2.1[i]=b at*
 by_cases c1:b.1= -1
 ·rw[decide_eq_true c1]
  exact⟨_,rfl,b2,b3,by rw[b4];omega,b5,fun e=>absurd c1 (hLB e).1⟩
 by_cases c2: (m:Int)<b.1
 ·rw[decide_eq_false c1,decide_eq_true c2]
  exact⟨_,rfl,b2,b3,by rw[b4];omega,b5,fun e=>absurd (hLB e).2 (Int.not_le.2 c2)⟩
 rw[decide_eq_false c1,decide_eq_false c2]
 simp only[cond_false,bind_some]
 obtain⟨k,c,hc,js,hch,hd⟩:=hsb c1
 obtain⟨bc,prev,st,u⟩:=b
 simp only at hc hch hd c1 c2
 subst hc
 have hon:=Der.on hd (show c<m+1 by omega) hm
 have hcc:c< (Zaz n i).length:=by omega
 have e4:idx (Zaz n i) (c:Int)=some (Zac n i c):=by rw[Zag hcc,Zcs hcc]
 have hio:i<f6.2.2.2.2.2.1.length:=by rw[b3.out.1];exact hi
 obtain⟨hkl,hks⟩:=b3.out.2 i _ (List.getElem?_eq_getElem hio)
 have ec2: (bif !(Zac n i (m+1)).2.2.2.2.1 then Option.bind (idx f6.2.2.2.2.2.1 (i:Int)) fun x11=>some (decide ((x11.length:Int)=(0:Int))) else some false)=some (!(Zac n i (m+1)).2.2.2.2.1&&decide (f6.2.2.2.2.2.1[i].length=0)):=by
  rw[Zag hio]
  simp only[bind_some]
  rw[show decide (((f6.2.2.2.2.2.1[i]).length:Int)=0)=decide ((f6.2.2.2.2.2.1[i]).length=0) from decide_eq_decide.2 (by omega)]
  cases (Zac n i (m+1)).2.2.2.2.1<;>rfl
 rw[ec2]
 simp only[bind_some]
 cases hskip: (!(Zac n i (m+1)).2.2.2.2.1&&decide (f6.2.2.2.2.2.1[i].length=0)) with
 |true=>
  simp only[cond_true]
  rw[Bool.and_eq_true,Bool.not_eq_true',decide_eq_true_eq] at hskip
  refine⟨_,rfl,b2,b3,by rw[b4];omega,b5,fun _=>⟨fun e=>(by rw[hskip.1] at e;cases e),fun j d sx a _ _ _=> ?_⟩⟩
  exfalso
  obtain⟨x,x1,x2⟩:=Zlr a
  have hx:=(hks x).2 ⟨x1,by rw[x2]⟩
  rw[List.length_eq_zero_iff.1 hskip.2] at hx
  cases hx
 |false=>
  simp only[cond_false,e4,bind_some]
  rw[ZoR f6 (by rw[b4];omega)]
  simp only[bind_some]
  have hx: ((true,(i:Int),(c:Int),((m+1:Nat):Int),(Zac n i c).1,(Zac n i (m+1)).1,(Zac n i c).2.2.1,(Zac n i (m+1)).2.1,st,()):Zbb)=ZdU n i c (m+1) st:=rfl
  rw[hx]
  have hnew:=hch.new (ZdU n i c (m+1) st)
  generalize ZdU n i c (m+1) st=x at*
  have a7:=Zlj (n:=n) (V:=V) (T:=(Zac n i m).2.2.1) f6 x prev
  have I7:SI n s0 t0 w (Znm f6 x prev):=b3.step a7 (b3.snd.add x prev) b3.rc
  have hl7: (Znm f6 x prev).2.2.1.length=f.2.2.1.length+1:=by show (f6.2.2.1++[(x,prev,())]).length=_;rw[b4];simp
  have hch7:Ch (Znm f6 x prev).2.2.1 (f6.2.2.1.length:Int) (js++[x]):=hnew
  generalize Znm f6 x prev=f7 at*
  generalize (f6.2.2.1.length:Int)=l at*
  obtain⟨s',hs'⟩: ∃s' :Nat,(Zac n i (m+1)).1=(s' :Int):=⟨(Zac n i (m+1)).1.toNat,by omega⟩
  have hal: ∃g,(bif (Zac n i (m+1)).2.2.2.2.1 then(Option.bind (inb (s' :Int) (List.length f7.2.2.2.1)) fun x16=>
   Option.bind (idx f7.1.1 (s' :Int)) fun x17=>
   Option.bind (F94 f7 (s' :Int) (Zac n i (m+1)).2.1 (IntKind.wrap .i64 ((Zac n i (m+1)).2.1+x17.2.2.2.1)) l) fun x18=>
   Option.bind (Option.bind x18.2.2.2.1[x16]? fun x19=>
    bif decide (x19.2.1=(-1:Int)) then some true
    else Option.bind x18.2.2.2.1[x16]? fun x20=>some (decide ((Zac n i (m+1)).2.1<x20.2.1))) fun x21=>
   Option.bind (bif x21 then
    Option.bind x18.2.2.2.1[x16]? fun x22=>
    Option.bind (F97 (x18.1,x18.2.1,x18.2.2.1,List.set x18.2.2.2.1 x16 (x22.1,(Zac n i (m+1)).2.1,x22.2.2),x18.2.2.2.2.1,x18.2.2.2.2.2.1,x18.2.2.2.2.2.2.1,()) (s' :Int) (Zac n i (m+1)).2.1 l) fun x23=>some x23
    else some x18) fun x24=>some x24) else some f7)=some g∧Stp n V (Zac n i m).2.2.1 f7 g∧SI n s0 t0 w g∧g.2.2.1.length≤f7.2.2.1.length+n.2.2.2.2.1.length∧
    ((Zac n i (m+1)).2.2.2.2.1=true→LeA g.2.2.2.1 s' (Zac n i (m+1)).2.1∧LeY g.2.2.2.1 s' ((Zac n i (m+1)).2.1+(Zb7 n (s' :Int)).2.2.2.1)∧ ∀p∈n.2.2.2.2.1,Wlk (s' :Int) (Zac n i (m+1)).2.1 g.2.2.2.1 p):=by
   cases hA: (Zac n i (m+1)).2.2.2.2.1 with
   |false=>exact⟨f7,rfl,Stp.refl f7,I7,by omega,fun e=>nomatch e⟩
   |true=>
    have hd' :=Der.ride hon hA
    rw[hs'] at hd' hVr
    obtain⟨g,g1,g2,g3,g4,g5⟩:=Zoo C hp I7 (by rw[hl7];omega) (s:=s') (by omega) (a:=(Zac n i (m+1)).2.1) (l:=l) (T:=(Zac n i m).2.2.1) (V:=V) (by omega) htt hVa hVr hVw hch7 hd'
    exact⟨g,g1,g2,g3,g4,fun _=>g5⟩
  obtain⟨g,g1,g2,g3,g4,g5⟩:=hal
  rw[hs']
  erw[g1]
  simp only[bind_some]
  obtain⟨h,h1,h2,h3,h4,h5,h6,h7⟩:=Zom C (V:=V) (T:=(Zac n i m).2.2.1) g3.net g3.rl g3.out g3.snd (g2.ch hch7) hon htt
  rw[h1]
  simp only[bind_some]
  have hall:=(b2.trans a7).trans (g2.trans h2)
  refine⟨_,rfl,hall,g3.step h2 h3 (g3.rc.step h2 h6),by rw[h5];omega,fun a b=>((a7.trans g2).trans h2).brd _ _ (b5 a b),fun _=>⟨fun hA=> ?_,h4⟩⟩
  obtain⟨y1,y2,y3⟩:=g5 hA
  rw[hs',Int.toNat_natCast,h7]
  exact⟨y1,y2,y3⟩
end Q
namespace Q
open Tr Go
open Option (bind_some)
variable {n:ZaJ} {s0 t0 w:Int}
structure Zqm (n:ZaJ):Prop where
 stops:n.1.length≤8
 runs:n.2.2.1.length≤12
 paths:n.2.2.2.2.1.length≤100
 calls: (n.2.2.1.map fun r=>r.2.2.2.2.2.2.2.1.length).sum≤60
def Zsb (n:ZaJ) (c:ZbN):List Int:=c.2.1::(c.2.1+(Zb7 n c.1).2.2.2.1)::n.2.2.2.2.1.map fun p=>c.2.1+p.2.2.1
def Zhp (n:ZaJ) (t0 w:Int):List Int:=t0::(t0+w)::(n.2.2.2.2.1.map fun p=>t0+p.2.2.1)++n.2.2.1.flatMap fun r=>r.2.2.2.2.2.2.2.1.flatMap (Zsb n)
theorem Zlp {α β:Type} (f:α→List β) (k:Nat): ∀ (l:List α),(∀x∈l,(f x).length≤k)→(l.flatMap f).length≤l.length*k
 | [],_=>by simp
 |a::l,h=>by
  have h1:=h a (by simp)
  have h2:=Zlp f k l (fun x hx=>h x (by simp [hx]))
  rw[List.flatMap_cons,List.length_append,List.length_cons,Nat.succ_mul]
  omega
theorem ZlT {α β:Type} (f:α→List β) (g:α→Nat): ∀ (l:List α),(∀x∈l,(f x).length≤g x)→(l.flatMap f).length≤(l.map g).sum
 | [],_=>by simp
 |a::l,h=>by
  have h1:=h a (by simp)
  have h2:=ZlT f g l (fun x hx=>h x (by simp [hx]))
  rw[List.flatMap_cons,List.length_append,List.map_cons,List.sum_cons]
  omega
theorem ZoB {α:Type} (g:α→Nat) (k:Nat): ∀ (l:List α),(l.map fun x=>g x*k).sum=(l.map g).sum*k
 | []=>by simp
 |a::l=>by simp only[List.map_cons,List.sum_cons];rw[ZoB g k l,Nat.add_mul]
theorem ZpV (h:Zqm n): (Zhp n t0 w).length≤6222:=by
 have h3:=h.paths
 have h4:=h.calls
 unfold Zhp
 rw[List.length_append,List.length_cons,List.length_cons,List.length_map]
 have: (n.2.2.1.flatMap fun r=>r.2.2.2.2.2.2.2.1.flatMap (Zsb n)).length≤(n.2.2.1.map fun r=>r.2.2.2.2.2.2.2.1.length*102).sum:=by
  refine ZlT _ _ _ fun r _=>Zlp _ 102 _ fun c _=> ?_
  unfold Zsb
  simp only[List.length_cons,List.length_map]
  omega
 rw[ZoB] at this
 omega
theorem ZgA {i m:Nat} (hi:i<n.2.2.1.length) (hm:m< (Zaz n i).length) {v:Int} (hv:v∈Zsb n (Zac n i m)):v∈Zhp n t0 w:=by
 unfold Zhp
 refine List.mem_append_right _ (List.mem_flatMap.2 ⟨_,List.getElem_mem hi,List.mem_flatMap.2 ⟨Zac n i m, ?_,hv⟩⟩)
 rw[Zcs hm]
 have e:=Zbf hi
 simp only[←e]
 exact List.getElem_mem hm
def Cls (n:ZaJ) (i m:Nat) (g:ScT):Prop:=((Zac n i m).2.2.2.1=true→LeY g.2.2.2.1 (Zac n i m).1.toNat (Zac n i m).2.2.1→LeB g.2.2.2.2.1 i (m:Int))∧(LeB g.2.2.2.2.1 i (m:Int)→Vst n i (m+1) g)
variable {V:List Int} {T:Int}
theorem Cls.late {i m:Nat} (hi:i<n.2.2.1.length) (hm:m< (Zaz n i).length) {f g:ScT} (h:Cls n i m f) (y:Stp n V T f g) (hT: (Zac n i m).2.2.1<T):Cls n i m g:=
 ⟨fun a b=>y.brd _ _ (h.1 a (y.late _ _ hT b)),fun a=>(h.2 (y.lateB i m hi hm hT a)).mono y⟩
theorem Cls.same {i m:Nat} {f g:ScT} (h:Cls n i m f) (y:Stp n V T f g) (hs:ZpB f g):Cls n i m g:=
 ⟨fun a b=>y.brd _ _ (h.1 a (hs.rdy _ _ b)),fun a=>(h.2 (hs.brd _ _ a)).mono y⟩
abbrev Zjz:=Int×Int×Int×Int×Int×Int×Unit
def Ziy (n:ZaJ) (c:Zjz) (i m:Nat):Prop:=i<n.2.2.1.length∧m+1< (Zaz n i).length∧ZbO n i=false∧c=Zhs i (Zaz n i) m
theorem Zp0 {c:Zjz} (h:c∈Zhy n n.2.2.1.length): ∃i m,Ziy n c i m:=by
 obtain⟨i,hi,hc,k,hk,e⟩:=Zp1 h
 have e' :=Zbf hi
 rw[←e'] at hk e
 refine⟨i,k,hi,hk, ?_,e⟩
 unfold ZbO rn
 rw[Int.toNat_natCast,Zai hi]
 exact hc
theorem ZrQ     (C : Ctx n s0 t0 w) (hZ : Zqm  n) (L : List Zjz   ) (hL : ∀ c ∈ L, ∃ i m, Ziy   n c i m ∧ (Zac    n i m).2.2.1 = T) (hLl : L.length ≤ 60) {f : ScT} (hI : SI n s0 t0 w f) (hl : f.2.2.1.length + 20000 < 4000000000) :
    ∃ g, run (fun s8 : ScT × Int => bif decide (s8.2 < (↑(List.length L) : Int)) then
        Option.bind (idx L s8.2) fun x9 => Option.bind (F96 s8.1 x9) fun x10 => some (.inl (x10, IntKind.wrap .i64 (s8.2 + (1 : Int))))
      else some (.inr s8.1)) (f, (0 : Int)) = some g ∧ Stp n (Zhp  n t0 w) T f g ∧ SI n s0 t0 w g ∧ g.2.2.1.length ≤ f.2.2.1.length + 6060 ∧
      (g.2.2.2.2.2.2.1 = false → ∀ c ∈ L, ∀ i m, Ziy   n c i m → Cls n i m g) := by
  have hp := hZ.paths
  have hmul : L.length * (1 + n.2.2.2.2.1.length) ≤ 60 * 101 := Nat.mul_le_mul hLl (by omega)
  suffices hsuf : ∃ g, run (fun s8 : ScT × Int => bif decide (s8.2 < (↑(List.length L) : Int)) then
        Option.bind (idx L s8.2) fun x9 => Option.bind (F96 s8.1 x9) fun x10 => some (.inl (x10, IntKind.wrap .i64 (s8.2 + (1 : Int))))
      else some (.inr s8.1)) (f, (0 : Int)) = some g ∧ (Stp n (Zhp  n t0 w) T f g ∧ SI n s0 t0 w g ∧ g.2.2.1.length ≤ f.2.2.1.length + L.length * (1 + n.2.2.2.2.1.length) ∧
      (g.2.2.2.2.2.2.1 = false → ∀ c ∈ L, ∀ i m, Ziy   n c i m → Cls n i m g)) by
    obtain ⟨g, g1, g2, g3, g4, g5⟩ := hsuf
    exact ⟨g, g1, g2, g3, by omega, g5⟩
  refine Zby     L.length _ (fun k (st : ScT × Int) => st.2 = (k : Int) ∧ Stp n (Zhp  n t0 w) T f st.1 ∧ SI n s0 t0 w st.1 ∧ st.1.2.2.1.length ≤ f.2.2.1.length + k * (1 + n.2.2.2.2.1.length) ∧
      (st.1.2.2.2.2.2.2.1 = false → ∀ c ∈ L.take k, ∀ i m, Ziy   n c i m → Cls n i m st.1)) ?_ ?_ _ ⟨rfl, Stp.refl f, hI, by simp, fun _ => by simp⟩
  · rintro k ⟨g, j⟩ hk ⟨hj, h1, h2, h3, h4⟩
    simp only at hj h1 h2 h3 h4
    subst hj
    left
    simp only [ZaG    hk, cond_true, Zag     hk, bind_some, Zan       hk (show _ ≤ 9223372036854775807 by omega)]
    obtain ⟨i, m, hcon, hT⟩ := hL _ (List.getElem_mem hk)
    have hcon' := hcon
    obtain ⟨hi, hm, hcn, hc⟩ := hcon'
    rw [List.take_succ_eq_append_getElem hk]
    have hkm : k * (1 + n.2.2.2.2.1.length) ≤ 60 * 101 := Nat.mul_le_mul (by omega) (by omega)
    generalize L[k] = c at *
    subst hc
    obtain ⟨h, r1, r2, r3, r4, r5, r6⟩ := ZrR     (V := Zhp  n t0 w) C (by omega) h2 (by omega) hi hm hcn (ZgA       hi hm (by unfold Zsb ; simp)) (ZgA       hi hm (by unfold Zsb ; simp)) (fun p hp' => ZgA       hi hm (List.mem_cons_of_mem _ (List.mem_cons_of_mem _ (List.mem_map.2 ⟨p, hp', rfl⟩))))
    rw [r1]
    rw [hT] at r2
    refine ⟨_, rfl, rfl, h1.trans r2, r3, ?_, fun hmv c' hc' i' m' hcon' => ?_⟩
    · rw [Nat.succ_mul]
      simp only
      omega
    · have hmg : g.2.2.2.2.2.2.1 = false := by
        cases e : g.2.2.2.2.2.2.1 with
        | false => rfl
        | true => have := r2.mvd e; rw [hmv] at this; cases this
      have hsm : ZpB  g h := r2.same.resolve_left (by rw [hmv]; simp)
      rcases List.mem_append.1 hc' with hc' | hc'
      · exact (h4 hmg c' hc' i' m' hcon').same r2 hsm
      · simp only [List.mem_singleton] at hc'
        subst hc'
        obtain ⟨_, _, _, e⟩ := hcon'
        have e1 : i' = i ∧ m' = m := by
          unfold Zhs   at e
          simp only [Prod.mk.injEq, Int.natCast_inj] at e
          exact ⟨e.1.symm, e.2.1.symm⟩
        obtain ⟨rfl, rfl⟩ := e1
        exact ⟨fun a b => r5 a (hsm.rdy _ _ b), r6⟩
  · rintro ⟨g, j⟩ ⟨hj, h1, h2, h3, h4⟩
    simp only at hj h1 h2 h3 h4
    subst hj
    rw [List.take_length] at h4
    simp only [ZaI    , cond_false]
    exact ⟨_, rfl, h1, h2, h3, h4⟩
end Q
namespace Q
open Tr Go
open Option (bind_some)
variable {n:ZaJ} {s0 t0 w:Int}
def Bas (n:ZaJ) (s0 t0 w:Int) (g:ScT):Prop:=LeA g.2.2.2.1 s0.toNat t0∧LeY g.2.2.2.1 s0.toNat (t0+w)∧ ∀p∈n.2.2.2.2.1,Wlk s0 t0 g.2.2.2.1 p
theorem Bas.mono {V:List Int} {T:Int} {f g:ScT} (h:Bas n s0 t0 w f) (y:Stp n V T f g):Bas n s0 t0 w g:=⟨y.arr _ _ h.1,y.rdy _ _ h.2.1,fun p hp=>(h.2.2 p hp).mono y⟩
theorem Zmh (n:ZaJ): ∀k,k≤n.2.2.1.length→(Zhy n k).length≤((n.2.2.1.take k).map fun r=>r.2.2.2.2.2.2.2.1.length).sum
 |0,_=>by simp [Zhy]
 |k+1,h=>by
  have ih:=Zmh n k (by omega)
  rw[Zg4,List.take_succ_eq_append_getElem (show k<_ by omega),List.length_append,List.map_append,List.sum_append,Zai (show k<_ by omega)]
  have: (Znn k n.2.2.1[k]).length≤(n.2.2.1[k]).2.2.2.2.2.2.2.1.length:=by
   unfold Znn
   split
   ·simp
   ·unfold Zlh;simp
  simp only[List.map_cons,List.map_nil,List.sum_cons,List.sum_nil]
  omega
noncomputable def Zfr (ys:List Zjz) (s4:ScT×Int):Option ((ScT×Int) ⊕ ScT):=
 bif decide (s4.2< (↑(List.length ys):Int)) then
 Option.bind (idx ys s4.2) fun x5=>
 Option.bind (F7 ys x5.2.2.2.2.1) fun x6=>
 Option.bind (sliceB (List.length ys) (List.length ys) (some s4.2) (some x6)) fun x7=>
 Option.bind
 (run
 (fun s8:ScT×Int=>
 bif decide (s8.2< (↑(List.length (List.take (x7.2 - x7.1) (List.drop x7.1 ys))):Int)) then
 Option.bind (idx (List.take (x7.2 - x7.1) (List.drop x7.1 ys)) s8.2) fun x9=>
 Option.bind (F96 s8.1 x9) fun x10=>
 some (.inl (x10,IntKind.wrap .i64 (s8.2+(1:Int))))
 else some (.inr s8.1))
 ((s4.1.1,s4.1.2.1,s4.1.2.2.1,s4.1.2.2.2.1,s4.1.2.2.2.2.1,s4.1.2.2.2.2.2.1,false,()),(0:Int)))
 fun x11=>
 bif x11.2.2.2.2.2.2.1 then some (.inl (x11,s4.2)) else some (.inl (x11,x6))
 else some (.inr s4.1)
theorem Zri (C:Ctx n s0 t0 w) (hZ:Zqm n) {ys:List Zjz} (hys:ys.Perm (Zhy n n.2.2.1.length)) (hsort:ys.Pairwise ltC) (hlen:ys.length≤60): ∀ (μ:Nat) {s:ScT} {i:Nat},pot (Zhp n t0 w) s+(ys.length - i)≤μ→i≤ys.length→SI n s0 t0 w s→Bas n s0 t0 w s→
  (∀j,j<i→ ∀k,i≤k→k<ys.length→Zht ys j<Zht ys k)→(∀c∈ys.take i, ∀a m,Ziy n c a m→Cls n a m s)→s.2.2.1.length+6060*μ+20000<4000000000→
  ∃g,run (Zfr ys) (s,(i:Int))=some g∧SI n s0 t0 w g∧Bas n s0 t0 w g∧(∀c∈ys, ∀a m,Ziy n c a m→Cls n a m g)∧g.2.2.1.length<4000000000:=by
 intro μ
 induction μ with
 |zero=>
  intro s i hμ hi hI hB _ hC hl
  have:i=ys.length:=by omega
  subst this
  refine⟨s,ZbT ?_,hI,hB,by rw[List.take_length] at hC;exact hC,by omega⟩
  unfold Zfr
  simp only[ZaI,cond_false]
 |succ μ ih=>
  intro s i hμ hi hI hB hlt hC hl
  by_cases hend:i=ys.length
  ·subst hend
   refine⟨s,ZbT ?_,hI,hB,by rw[List.take_length] at hC;exact hC,by omega⟩
   unfold Zfr
   simp only[ZaI,cond_false]
  have hi' :i<ys.length:=by omega
  obtain⟨to,hto,hu,huk⟩:=Zn2 hsort (by omega) (Zht ys i)
  have hdi:Zht ys i=(ys[i]).2.2.2.2.1:=by unfold Zht;rw[Zai hi']
  have hit:i<to:=(huk i hi').1 (Int.le_refl _)
  have hsl:sliceB ys.length ys.length (some (i:Int)) (some (to:Int))=some (i,to):=by
   unfold sliceB
   simp only[if_pos (show (0:Int)≤(to:Int)∧(to:Int)≤(ys.length:Int) from ⟨by omega,by omega⟩),bind_some,Int.toNat_natCast]
   rw[if_pos (show (0:Int)≤(i:Int)∧(i:Int)≤(to:Int) from ⟨by omega,by omega⟩)]
  have hL: ∀c∈(ys.drop i).take (to - i), ∃a m,Ziy n c a m∧(Zac n a m).2.2.1=Zht ys i:=by
   intro c hc
   obtain⟨j,hj,rfl⟩:=List.getElem_of_mem hc
   rw[List.length_take,List.length_drop] at hj
   have hjl:i+j<ys.length:=by omega
   have e: ((ys.drop i).take (to - i))[j]'(by rw[List.length_take,List.length_drop];exact hj)=ys[i+j]:=by
    rw[List.getElem_take,List.getElem_drop]
   rw[e]
   obtain⟨a,m,hcon⟩:=Zp0 (hys.mem_iff.1 (List.getElem_mem hjl))
   refine⟨a,m,hcon, ?_⟩
   have h1:Zht ys (i+j)=(ys[i+j]).2.2.2.2.1:=by unfold Zht;rw[Zai hjl]
   have h2: (ys[i+j]).2.2.2.2.1=(Zac n a m).2.2.1:=by rw[hcon.2.2.2];rfl
   have h3:Zht ys i≤Zht ys (i+j):=by
    by_cases e0:j=0
    ·subst e0;exact Int.le_refl _
    ·exact ZlK hsort (by omega) hjl
   have h4:=(huk (i+j) hjl).2 (by omega)
   omega
  have hLl: ((ys.drop i).take (to - i)).length≤60:=by rw[List.length_take,List.length_drop];omega
  have hI0:SI n s0 t0 w (s.1,s.2.1,s.2.2.1,s.2.2.2.1,s.2.2.2.2.1,s.2.2.2.2.2.1,false,()):=⟨hI.net,hI.pl,hI.rl,hI.out,⟨hI.snd.pls,hI.snd.brd⟩,hI.rc⟩
  obtain⟨g,g1,g2,g3,g4,g5⟩:=ZrQ C hZ ((ys.drop i).take (to - i)) hL hLl hI0 (by show s.2.2.1.length+20000<_;omega)
  have hlab:g.2.2.1.length≤s.2.2.1.length+6060:=g4
  have hpot:pot (Zhp n t0 w) g≤pot (Zhp n t0 w) s:=g2.pot
  have hB' :Bas n s0 t0 w g:=hB.mono (f:=s) (g:=g) (V:=Zhp n t0 w) (T:=Zht ys i) |> fun _=>⟨g2.arr _ _ hB.1,g2.rdy _ _ hB.2.1,fun p hp=>(show Wlk s0 t0 g.2.2.2.1 p from fun a b=>⟨g2.arr _ _ (hB.2.2 p hp a b).1,g2.rdy _ _ (hB.2.2 p hp a b).2⟩)⟩
  have hold: ∀c∈ys.take i, ∀a m,Ziy n c a m→Cls n a m g:=by
   intro c hc a m hcon
   have h0:=hC c hc a m hcon
   obtain⟨j,hj,rfl⟩:=List.getElem_of_mem hc
   rw[List.length_take] at hj
   have hj' :j<i:=by omega
   have e: (ys.take i)[j]'(by rw[List.length_take];exact hj)=ys[j]'(by omega):=List.getElem_take
   rw[e] at hcon
   have h1:Zht ys j=(Zac n a m).2.2.1:=by
    unfold Zht
    rw[Zai (show j<ys.length by omega),hcon.2.2.2]
    rfl
   have h2:=hlt j hj' i (Nat.le_refl i) hi'
   exact Cls.late (f:=(s.1,s.2.1,s.2.2.1,s.2.2.2.1,s.2.2.2.2.1,s.2.2.2.2.2.1,false,())) hcon.1 (by have:=hcon.2.1;omega) h0 g2 (by omega)
  have hstep:Zfr ys (s,(i:Int))=if g.2.2.2.2.2.2.1=true then some (.inl (g,(i:Int))) else some (.inl (g,(to:Int))):=by
   unfold Zfr
   simp only[ZaG hi',cond_true,Zag hi',bind_some]
   rw[←hdi,hu]
   simp only[bind_some,hsl]
   rw[g1]
   simp only[bind_some]
   cases g.2.2.2.2.2.2.1<;>rfl
  cases hmv:g.2.2.2.2.2.2.1 with
  |true=>
   rw[if_pos hmv] at hstep
   rw[ZcH hstep]
   have hfall:=g2.fall rfl hmv
   have hfall' :pot (Zhp n t0 w) g<pot (Zhp n t0 w) s:=hfall
   exact ih (by omega) hi g3 hB' hlt hold (by omega)
  |false=>
   rw[if_neg (by rw[hmv];simp)] at hstep
   rw[ZcH hstep]
   refine ih (by omega) hto g3 hB' (fun j hj k hk hkl=> ?_) (fun c hc a m hcon=> ?_) (by omega)
   ·have h1:=(huk j (by omega)).2 hj
    have h2: ¬Zht ys k≤Zht ys i:=fun e=>by have:=(huk k hkl).1 e;omega
    omega
   ·have e:ys.take to=ys.take i++(ys.drop i).take (to - i):=by
     rw[←List.take_add,show i+(to - i)=to by omega]
    rw[e] at hc
    rcases List.mem_append.1 hc with hc|hc
    ·exact hold c hc a m hcon
    ·exact g5 hmv c hc a m hcon
abbrev q11:Zd5:=(-1, -1, -1, -1, -1,())
abbrev b00:ZjE:=(-1, -1,false,())
def Zsr (n:ZaJ) (k:Nat) (out:List (List Int)):Prop:=out.length=n.2.2.1.length∧ ∀ (i:Nat) ks,out[i]? =some ks→ks.length≤k∧ ∀x:Int,x∈ks↔(0≤x∧x< (k:Int))∧(lkI n x).1=(i:Int)
theorem ZoV {k:Nat} {out:List (List Int)} (h:Zsr n k out) {a:Nat} (ha: (lkI n (k:Int)).1=(a:Int)) (hl:a<out.length):Zsr n (k+1) (out.set a (out[a]++[(k:Int)])):=by
 refine⟨by rw[List.length_set];exact h.1,fun i ks hks=> ?_⟩
 have key: ∀ks' :List Int,out[a]? =some ks' →(ks' ++[(k:Int)]).length≤k+1∧ ∀x:Int,x∈ks' ++[(k:Int)]↔(0≤x∧x< ((k+1:Nat):Int))∧(lkI n x).1=(a:Int):=by
  intro ks' hk'
  obtain⟨h1,h2⟩:=h.2 a _ hk'
  refine⟨by simp;exact h1,fun x=> ?_⟩
  rw[List.mem_append,h2 x,List.mem_singleton]
  constructor
  ·rintro (⟨h3,h4⟩ |rfl)
   ·exact⟨by omega,h4⟩
   ·exact⟨by omega,ha⟩
  ·rintro ⟨h3,h4⟩
   by_cases e:x=(k:Int)
   ·exact .inr e
   ·exact .inl ⟨by omega,h4⟩
 by_cases e:a=i
 ·subst e
  rw[List.getElem?_set_self hl] at hks
  cases hks
  exact key _ (List.getElem?_eq_getElem hl)
 ·rw[List.getElem?_set_ne e] at hks
  obtain⟨h1,h2⟩:=h.2 i ks hks
  refine⟨by omega,fun x=> ?_⟩
  rw[h2 x]
  constructor
  ·rintro ⟨h3,h4⟩;exact⟨by omega,h4⟩
  ·rintro ⟨h3,h4⟩
   refine⟨⟨h3.1, ?_⟩,h4⟩
   by_cases e' :x=(k:Int)
   ·subst e';omega
   ·omega
theorem Zqn {out:List (List Int)} (hl:n.2.2.2.1.length≤1024) (h:Zsr n n.2.2.2.1.length out):Zr3 n out:=by
 refine⟨h.1,fun i ks hks=> ?_⟩
 obtain⟨h1,h2⟩:=h.2 i ks hks
 exact⟨by omega,fun x=>by rw[h2 x,ZeY]⟩
theorem ZrG (j:Nat):Zas (ZjF (some (Int.toNat (j:Int))) j)=some ():=by
 rw[show ZjF (some (Int.toNat (j:Int))) j=true from Nat.beq_refl j];rfl
theorem Zqs {q:Zbo} (C:Ctx n q.1 q.2.2.1 (bif q.2.2.2.2.2.2.2.2.2.1 then(Zb7 n q.1).2.2.2.1 else 0)) (hZ:Zqm n):
  ∃g,F98 n q=some g∧SI n q.1 q.2.2.1 (bif q.2.2.2.2.2.2.2.2.2.1 then(Zb7 n q.1).2.2.2.1 else 0) g∧Bas n q.1 q.2.2.1 (bif q.2.2.2.2.2.2.2.2.2.1 then(Zb7 n q.1).2.2.2.1 else 0) g∧g.2.2.1.length≤100:=by
 have hS:=C.net.sound
 have hrn:=hS.runs
 have hst:=hS.stops
 have hlk:=hS.links
 have hcg:=C.net.change q.1 C.stop.1 C.stop.2
 have hsi:idx n.1 q.1=some (Zb7 n q.1):=(ZhH hS C.stop.1 C.stop.2).1
 have hmx: (Zay:Int)=4294967296:=by simp [Zay]
 unfold F98
 have hg0:Zas (decide ((0:Int)≤(n.2.2.1.length:Int)∧(n.2.2.1.length:Int)≤(n.2.2.1.length:Int)∧(n.2.2.1.length:Int)≤(Zay:Int)))=some ():=by
  rw[decide_eq_true (by rw[hmx];omega)];rfl
 refine bex (fun _=>True) ⟨(),hg0,trivial⟩ fun _ _=> ?_
 refine bex (fun r:ScT=>r=(n,q,[],List.replicate n.1.length q11,[],List.replicate n.2.2.1.length [],false,())) ?_ ?_
 ·refine Zby n.1.length _ (fun i (st:ScT×Int)=>st=((n,q,[],List.replicate i q11,[],List.replicate n.2.2.1.length [],false,()),(i:Int))) ?_ ?_ _ (by simp)
  ·rintro i _ hi rfl
   left
   simp only[ZaG hi,cond_true,Zan hi (show _≤9223372036854775807 by omega)]
   have hg:Zas (decide (List.length (List.replicate i q11)+List.length [q11]≤Zay))=some ():=Zbk (by simp;omega)
   erw[hg]
   simp only[bind_some]
   exact⟨_,rfl,by rw[List.replicate_succ']⟩
  ·rintro _ rfl
   simp only[ZaI,cond_false]
   exact⟨_,rfl,rfl⟩
 intro f1 hf1
 refine bex (fun r:ScT=>r=(n,q,[],List.replicate n.1.length q11,List.replicate n.2.2.1.length b00,List.replicate n.2.2.1.length [],false,())) ?_ ?_
 ·refine Zby n.2.2.1.length _ (fun i (st:ScT×Int)=>st=((n,q,[],List.replicate n.1.length q11,List.replicate i b00,List.replicate n.2.2.1.length [],false,()),(i:Int))) ?_ ?_ _ (by rw[hf1];rfl)
  ·rintro i _ hi rfl
   left
   simp only[ZaG hi,cond_true,Zan hi (show _≤9223372036854775807 by omega)]
   have hg:Zas (decide (List.length (List.replicate i b00)+List.length [b00]≤Zay))=some ():=Zbk (by simp;omega)
   erw[hg]
   simp only[bind_some]
   exact⟨_,rfl,by rw[List.replicate_succ']⟩
  ·rintro _ rfl
   simp only[ZaI,cond_false]
   exact⟨_,rfl,rfl⟩
 intro f2 hf2
 refine bex (fun r:ScT=> ∃out,r=(n,q,[],List.replicate n.1.length q11,List.replicate n.2.2.1.length b00,out,false,())∧Zsr n n.2.2.2.1.length out) ?_ ?_
 ·refine Zby n.2.2.2.1.length _ (fun i (st:ScT×Int)=>st.2=(i:Int)∧ ∃out,st.1=(n,q,[],List.replicate n.1.length q11,List.replicate n.2.2.1.length b00,out,false,())∧Zsr n i out) ?_ ?_ _ ⟨rfl,_,hf2, ?_⟩
  ·rintro i ⟨st,j⟩ hi ⟨hj,out,hst',hO⟩
   simp only at hj hst'
   subst hj hst'
   left
   have e1:lkI n (i:Int)=n.2.2.2.1[i]:=by unfold lkI;rw[Int.toNat_natCast,Zai hi]
   obtain⟨a,c,b,d,st,e,ha,_⟩:=C.net.link _ (List.getElem_mem hi)
   have hao:a<out.length:=by rw[hO.1];exact ha
   have hks:=(hO.2 a _ (List.getElem?_eq_getElem hao)).1
   simp only[ZaG hi,cond_true,Zag hi,bind_some,Zan hi (show _≤9223372036854775807 by omega),e,ZaZ hao,List.getElem?_eq_getElem hao,Zag hao]
   have hg:Zas (decide (List.length out[a]+List.length [(i:Int)]≤Zay))=some ():=Zbk (by simp;omega)
   rw[hg]
   simp only[bind_some,ZrG]
   exact⟨_,rfl,rfl,_,rfl,ZoV hO (by rw[e1,e]) hao⟩
  ·rintro ⟨st,j⟩ ⟨hj,out,hst',hO⟩
   simp only at hj hst'
   subst hj hst'
   simp only[ZaI,cond_false]
   exact⟨_,rfl,out,rfl,hO⟩
  ·refine⟨by simp,fun i ks hks=> ?_⟩
   have:=List.eq_of_mem_replicate (List.mem_of_getElem? hks)
   subst this
   exact⟨by simp,fun x=>⟨fun h=>(nomatch h),fun h=>by omega⟩⟩
 rintro f3 ⟨out,hf3,hO⟩
 have hOk:=Zqn hlk hO
 have ht:=C.time
 refine bex (fun r:ScT×Int=>r=(f3,q.2.2.1+(bif q.2.2.2.2.2.2.2.2.2.1 then(Zb7 n q.1).2.2.2.1 else 0))) ?_ ?_
 ·cases q.2.2.2.2.2.2.2.2.2.1 with
  |false=>exact⟨_,rfl,by simp⟩
  |true=>
   simp only[cond_true,hsi,bind_some]
   exact⟨_,rfl,by rw[Zaq (by omega) (by omega)]⟩
 rintro _ rfl
 generalize (bif q.2.2.2.2.2.2.2.2.2.1 then(Zb7 n q.1).2.2.2.1 else 0)=w at*
 have hw:=C.wait
 obtain⟨a,ha⟩: ∃a:Nat,q.1=(a:Int):=⟨q.1.toNat,by have:=C.stop;omega⟩
 have hal:a<n.1.length:=by have:=C.stop;omega
 have e1:f3.1=n:=by rw[hf3]
 have e2:f3.2.2.1=[]:=by rw[hf3]
 have e3:f3.2.2.2.1=List.replicate n.1.length q11:=by rw[hf3]
 have e4:f3.2.2.2.2.1=List.replicate n.2.2.1.length b00:=by rw[hf3]
 have e5:f3.2.2.2.2.2.1=out:=by rw[hf3]
 have hp100:=hZ.paths
 have hI3:SI n q.1 q.2.2.1 w f3:=by
  refine⟨e1,by rw[e3];simp,by rw[e4];simp,by rw[e5];exact hOk,⟨fun s p hq' => ?_,fun i b hb=> ?_⟩,fun s p hq' hne=> ?_⟩
  ·rw[e3] at hq'
   rw[List.eq_of_mem_replicate (List.mem_of_getElem? hq')]
   exact⟨fun e=>absurd rfl e,fun e=>absurd rfl e,fun e=>absurd rfl e⟩
  ·rw[e4] at hb
   rw[List.eq_of_mem_replicate (List.mem_of_getElem? hb)]
   exact fun e=>absurd rfl e
  ·rw[e3] at hq'
   rw[List.eq_of_mem_replicate (List.mem_of_getElem? hq')] at hne
   exact absurd rfl hne
 have hVw: ∀p∈n.2.2.2.2.1,q.2.2.1+p.2.2.1∈Zhp n q.2.2.1 w:=fun p hp=>List.mem_append_left _ (List.mem_cons_of_mem _ (List.mem_cons_of_mem _ (List.mem_map.2 ⟨p,hp,rfl⟩)))
 obtain⟨g,g1,g2,g3,g4,g5,g6⟩:=Zps C (V:=Zhp n q.2.2.1 w) (T:=0) (s:=q.1) (t:=q.2.2.1) (prev:= -1) (k:=0) (js:=[]) e1 hI3.pl (by omega) ht ht.1 hVw (by rw[e2];simp) (fun p hp' a1 a2=>⟨.arrW hp' a1 a2, .rdyW hp' a1 a2⟩) hI3.snd .nil
 have hI4:=hI3.step g2 g3 (hI3.rc.step g2 g6)
 refine bex (fun r=>r=g) ⟨_,g1,rfl⟩ fun x hx=> ?_
 rw[hx]
 have hag:a<g.2.2.2.1.length:=by rw[hI4.pl];exact hal
 have hw0:0≤q.2.2.1+w:=by omega
 have m2:=ZiN (n:=n) (V:=Zhp n q.2.2.1 w) (T:=0) g hag ht.1 hw0 hw0 (List.mem_append_left _ (List.mem_cons_self ..)) (List.mem_append_left _ (List.mem_cons_of_mem _ (List.mem_cons_self ..))) (-1)
 have n2:=ZkB hag ht.1 hw0 (-1)
 have h2:=g3.imp (i:=a) (a:=q.2.2.1) (r:=q.2.2.1+w) (l:= -1) ⟨0,[], .nil,by rw[←ha];exact .here⟩ ⟨0,[], .nil,by rw[←ha];exact .init⟩
 have hI5:=hI4.step m2 h2 (hI4.rc.step m2 (ZgN g a _ _ _))
 have hiv:=ZeZ g hag q.2.2.1 (q.2.2.1+w) (-1)
 rw[←ha] at hiv
 rw[hiv]
 refine⟨_,rfl,hI5,⟨?_, ?_,fun p hp' =>(g4 p hp').mono m2⟩, ?_⟩
 ·rw[ha,Int.toNat_natCast];exact n2.1
 ·rw[ha,Int.toNat_natCast];exact n2.2
 ·show g.2.2.1.length≤100
  rw[e2] at g5
  simp only[List.length_nil,Nat.zero_add] at g5
  omega
end Q
namespace Q
open Tr Go
open Option (bind_some)
variable {n:ZaJ} {s0 t0 w:Int}
noncomputable def Zq0 (n:ZaJ) (q:Zbo):Int:=bif !decide (Znu n q=0) then Znu n q else bif q.2.2.2.1 then 22 else 0
theorem ZmA {n:ZaJ} (h:Fit n) (q:Zbo):F88 n q=some (Zq0 n q):=by
 unfold F88 Zq0
 rw[ZjK h]
 simp only[bind_some]
 cases decide (Znu n q=0)<;>cases q.2.2.2.1<;>rfl
theorem Zji {n:ZaJ} (h:Fit n) (q:Zbo):F82 n q=some (Zq0 n q):=by
 unfold F82 Zq0
 rw[Zqc h]
 simp only[bind_some]
 cases decide (Znu n q=0)<;>cases q.2.2.2.1<;>rfl
theorem Zkd {n:ZaJ} {q:Zbo} :Zq0 n q=0↔Znu n q=0∧q.2.2.2.1=false:=by
 unfold Zq0
 by_cases h:Znu n q=0
 ·rw[decide_eq_true h]
  cases q.2.2.2.1<;>simp [h]
 ·rw[decide_eq_false h]
  simp [h]
structure Znp (n:ZaJ) (s0 t0 w:Int) (g:ScT):Prop where
 si:SI n s0 t0 w g
 lab:g.2.2.1.length<4000000000
 arr: ∀ {k:Nat} {s t:Int} {js:List Zbb},Der n s0 t0 w (.arr k s t) js→LeA g.2.2.2.1 s.toNat t
theorem Zr4 (C:Ctx n s0 t0 w) {g:ScT} (hI:SI n s0 t0 w g) (hl:g.2.2.1.length<4000000000) (hB:Bas n s0 t0 w g) (hC: ∀i m,i<n.2.2.1.length→m+1< (Zaz n i).length→ZbO n i=false→Cls n i m g):Znp n s0 t0 w g:=by
 refine⟨hI,hl, ?_⟩
 have key: ∀ {f:ZoQ} {js:List Zbb},Der n s0 t0 w f js→match f with
   | .rdy _ s r=>LeY g.2.2.2.1 s.toNat r
   | .brd _ i c _=>c+1< (Zaz n i).length→LeB g.2.2.2.2.1 i (c:Int)
   | .lnk _ i c=>ZbO n i=false→LeB g.2.2.2.2.1 i (c:Int)
   | .on _ i c=>Vst n i c g
   | .rid _ s t=>LeA g.2.2.2.1 s.toNat t∧LeY g.2.2.2.1 s.toNat (t+(Zb7 n s).2.2.2.1)∧ ∀p∈n.2.2.2.2.1,Wlk s t g.2.2.2.1 p
   | .arr _ s t=>LeA g.2.2.2.1 s.toNat t:=by
  intro f js d
  induction d with
  |init=>exact hB.2.1
  |here=>exact hB.1
  |rdyW h1 h2 h3=>exact(hB.2.2 _ h1 h2 h3).2
  |arrW h1 h2 h3=>exact(hB.2.2 _ h1 h2 h3).1
  |board d h1 h2 h3 h4 h5 h6 ih=>
   intro hlast
   refine(hC _ _ h1 hlast h3).1 h5 ?_
   rw[h4]
   exact ih.weak h6
  | @on k i b c st js d h1 h2 ih=>
   obtain⟨x,x1,x2,x3⟩:=ih (by omega)
   obtain⟨c',rfl⟩: ∃c',c=c' +1:=⟨c - 1,by omega⟩
   have hok:=C.ok d
   exact(hC i c' hok.2.1 h2 hok.2.2.2).2 ⟨x,x1,x2,by omega⟩
  |stay d h1 h2 h3 ih=>exact fun _=>ih.2 _ _ _ h1 h2 (.inl rfl) h3
  |link d h1 h2 h3 h4 ih=>exact fun hc=>ih.2 _ _ _ h2 h3 (.inr ⟨h1,h4⟩) hc
  |linked d h1 ih=>exact fun _=>ih h1
  |ride d h1 ih=>exact ih.1 h1
  |change d ih=>exact ih.2.1
  |rdyV d h1 h2 h3 ih=>exact(ih.2.2 _ h1 h2 h3).2
  |arrR d ih=>exact ih.1
  |arrV d h1 h2 h3 ih=>exact(ih.2.2 _ h1 h2 h3).1
 exact @fun _ _ _ _ d=>key d
theorem Zrf (hZ:Zqm n) {g:ScT} (hp:g.2.2.2.1.length=n.1.length) (hr:g.2.2.2.2.1.length=n.2.2.1.length) (hb: ∀b∈g.2.2.2.2.1,b.1≤40):pot (Zhp n t0 w) g≤100032:=by
 have hm:=ZpV (t0:=t0) (w:=w) hZ
 have h1: ∀l:List Zd5,Zi8 (Zhp n t0 w) l≤l.length*12444:=by
  intro l
  unfold Zi8
  induction l with
  |nil=>simp
  |cons p l ih=>
   have a:=Zn1 (Zhp n t0 w) p.1
   have b:=Zn1 (Zhp n t0 w) p.2.2.1
   simp only[List.map_cons,List.sum_cons,List.length_cons]
   omega
 have h2: ∀l:List ZjE,(∀b∈l,b.1≤40)→ZkR l≤l.length*40:=by
  intro l hl
  unfold ZkR
  induction l with
  |nil=>simp
  |cons b l ih=>
   have:=ih (fun x hx=>hl x (by simp [hx]))
   have hb:=hl b (by simp)
   have:Zr2 b≤40:=by
    unfold Zr2
    split
    ·omega
    ·omega
   simp only[List.map_cons,List.sum_cons,List.length_cons]
   omega
 have a:=h1 g.2.2.2.1
 have b:=h2 g.2.2.2.2.1 hb
 have hs:=hZ.stops
 have hn:=hZ.runs
 unfold pot
 have c:g.2.2.2.1.length*12444≤8*12444:=Nat.mul_le_mul_right _ (by omega)
 have d:g.2.2.2.2.1.length*40≤12*40:=Nat.mul_le_mul_right _ (by omega)
 omega
theorem Zmu {n:ZaJ} (h:Zqm n) (q:Zbo):Zqm (Za7 n q):=by
 refine⟨h.stops,by show (n.2.2.1.map _).length≤_;rw[List.length_map];exact h.runs, ?_, ?_⟩
 ·show (Zdt n q).length≤_
  have:=h.paths
  unfold Zdt
  split
  ·exact Nat.le_trans (List.length_filter_le _ _) this
  ·exact this
 ·show ((n.2.2.1.map (Zb4 n q)).map _).sum≤_
  rw[List.map_map]
  have: ((fun r:Zho=>r.2.2.2.2.2.2.2.1.length) ∘Zb4 n q)=fun r=>r.2.2.2.2.2.2.2.1.length:=by
   funext r
   show ((r.2.2.2.2.2.2.2.1).map (Zbx n q)).length=_
   rw[List.length_map]
  rw[this]
  exact h.calls
theorem Zr0 {n:ZaJ} (h:ZdW n) {s0:Int} (hs:0≤s0∧s0< (n.1.length:Int)) (b:Bool):0≤(bif b then(Zb7 n s0).2.2.2.1 else 0)∧(bif b then(Zb7 n s0).2.2.2.1 else 0)≤3600:=by
 cases b with
 |false=>exact⟨by simp,by simp⟩
 |true=>exact h.change s0 hs.1 hs.2
theorem ZqO {n0:ZaJ} {q:Zbo} (hfit:Fit n0) (hfew:Few n0) (hZ0:Zqm n0) (hq:Zq0 n0 q=0): ∃g,F89 n0 q=some (g,0)∧Ctx (Za7 n0 q) q.1 q.2.2.1 (bif q.2.2.2.2.2.2.2.2.2.1 then(Zb7 (Za7 n0 q) q.1).2.2.2.1 else 0)∧Whole n0∧qB n0.1.length q=true∧q.2.2.2.1=false∧
  Znp (Za7 n0 q) q.1 q.2.2.1 (bif q.2.2.2.2.2.2.2.2.2.1 then(Zb7 (Za7 n0 q) q.1).2.2.2.1 else 0) g:=by
 have hck:=ZmA hfit q
 rw[hq] at hck
 have hq0:=Zkd.1 hq
 obtain⟨hw0,hqb⟩:=Zkj.1 hq0.1
 have hcq:=ZjK hfit q
 rw[hq0.1] at hcq
 have hal:=Zll hw0.sound hfew q hcq
 have hw:=ZkU q hfit.paths hw0
 have hfa:=Zpj q hfit
 have hn:=hw.ok
 have hZ:=Zmu hZ0 q
 have hqb' :=hqb
 unfold qB inR at hqb'
 simp only[Bool.and_eq_true,decide_eq_true_eq] at hqb'
 obtain⟨hs0,_,ht0,hm,_⟩:=hqb'
 have hs0' :0≤q.1∧q.1< ((Za7 n0 q).1.length:Int):=hs0
 have hwt:=Zr0 hn hs0' q.2.2.2.2.2.2.2.2.2.1
 have C:Ctx (Za7 n0 q) q.1 q.2.2.1 (bif q.2.2.2.2.2.2.2.2.2.1 then(Zb7 (Za7 n0 q) q.1).2.2.2.1 else 0):=⟨hn,hs0',ht0,hwt⟩
 obtain⟨g0,s1,s2,s3,s4⟩:=Zqs C hZ
 obtain⟨r,r1,_,_,r4⟩:=ZqB hfa
 have hr0:r.2.2=0:=by
  obtain⟨r',r1',_,r3'⟩:=Zfv _ hfa
  rw[r1] at r1'
  cases r1'
  exact r3'.2 hw
 obtain⟨_,ys,y1,y2,y3⟩:=r4 hr0
 have hlen:ys.length≤60:=by
  have h1:=Zmh (Za7 n0 q) _ (Nat.le_refl _)
  rw[List.take_length] at h1
  have h2:=y2.length_eq
  have h3:=hZ.calls
  omega
 have hpot:pot (Zhp (Za7 n0 q) q.2.2.1 (bif q.2.2.2.2.2.2.2.2.2.1 then(Zb7 (Za7 n0 q) q.1).2.2.2.1 else 0)) g0≤100032:=by
  refine Zrf hZ s2.pl s2.rl fun b hb=> ?_
  obtain⟨i,hi,rfl⟩:=List.getElem_of_mem hb
  by_cases e: (g0.2.2.2.2.1[i]).1= -1
  ·rw[e];decide
  ·obtain⟨k,c,hc,js,_,hd⟩:=s2.snd.brd i _ (List.getElem?_eq_getElem hi) e
   have hok:=C.ok hd
   have h32:c<32:=by
    have h1:=(hn.sound.many _ (List.getElem_mem hok.2.1)).2
    have h2:=hok.2.2.1
    rw[Zbf hok.2.1] at h2
    exact Nat.lt_of_lt_of_le h2 h1
   rw[hc]
   omega
 obtain⟨g,g1,g2,g3,g4,g5⟩:=Zri C hZ y2 y3 hlen (100032+60) (s:=g0) (i:=0) (by omega) (Nat.zero_le _) s2 s3 (fun j hj=>absurd hj (Nat.not_lt_zero j)) (by simp) (by omega)
 refine⟨g, ?_,C,hw0,hqb,hq0.2,Zr4 C g2 g5 g3 fun i m hi hm hc=> ?_⟩
 ·unfold F89
  rw[hck]
  simp only[bind_some,decide_true,Bool.not_true,cond_false]
  rw[hal]
  simp only[bind_some]
  rw[s1]
  simp only[bind_some]
  rw[y1]
  simp only[bind_some,decide_true,Bool.not_true,cond_false]
  refine Zeg (fun r=>r=g) ⟨_,g1,rfl⟩ fun r hr=>by rw[hr]
 ·exact g4 _ (y2.mem_iff.2 (ZrX hi hm hc)) i m ⟨hi,hm,hc,rfl⟩
end Q
namespace Q
open Tr Go
open Option (bind_some)
theorem ZbW:F34=some true:=by kernel_rfl
theorem Zs3 {n:ZaJ} (h:ZlR Y31 n) (hp:n.2.2.2.2.1.length≤4096):Fit n:=by
 obtain⟨⟨_,h1⟩,⟨_,h2⟩,⟨_,h3⟩,_,_,⟨⟨_,h6⟩,_⟩,_⟩:=h
 refine⟨fun x hx=> ?_,fun x hx=> ?_,fun x hx=> ?_,fun x hx=> ?_,hp,fun x hx=> ?_⟩
 ·exact(h1 x hx).1
 ·exact(h2 x hx).1
 ·exact(h3 x hx).2.2.2.1
 ·exact(h3 x hx).2.2.2.2.2.2.2.1.1
 ·exact(h6 x hx).1
def Zg3 (l:List Zho):Nat:=(l.map fun r=>r.2.2.2.2.2.2.2.1.length).sum
theorem Zku {l:List Zho} {i:Nat} (h:i<l.length):Zg3 (l.take (i+1))=Zg3 (l.take i)+(l[i]).2.2.2.2.2.2.2.1.length:=by
 unfold Zg3
 rw[List.take_succ_eq_append_getElem h,List.map_append,List.sum_append]
 simp
theorem Zk9 {n:ZaJ} (hr:n.2.2.1.length≤12): ∃k:Int,F32 n=some k∧((∀x∈n.2.2.1,x.2.2.2.2.2.2.2.1.length≤4096)→k≤60→Zg3 n.2.2.1≤60):=by
 unfold F32
 have key: ∀o:Option Int,(∃r,o=some r∧((∀x∈n.2.2.1,x.2.2.2.2.2.2.2.1.length≤4096)→r≤60→Zg3 n.2.2.1≤60))→ ∃k:Int,(Option.bind o fun x3=>some x3)=some k∧((∀x∈n.2.2.1,x.2.2.2.2.2.2.2.1.length≤4096)→k≤60→Zg3 n.2.2.1≤60):=by
  rintro o ⟨r,rfl,h⟩
  exact⟨r,rfl,h⟩
 refine key _ ?_
 refine Zby n.2.2.1.length _ (fun i (st:Int×Int)=>st.2=(i:Int)∧((∀x∈n.2.2.1,x.2.2.2.2.2.2.2.1.length≤4096)→st.1=(Zg3 (n.2.2.1.take i):Int))) ?_ ?_ _ ⟨rfl,fun _=>rfl⟩
 ·rintro i ⟨a,j⟩ hi ⟨hj,ha⟩
  simp only at hj ha
  subst hj
  simp only[ZaG hi,cond_true,bind_some]
  by_cases h60:a≤60
  ·left
   rw[decide_eq_true h60]
   simp only[cond_true,Zag hi,bind_some,Zan hi (show _≤9223372036854775807 by omega)]
   refine⟨_,rfl,rfl,fun hall=> ?_⟩
   have hx:=hall _ (List.getElem_mem hi)
   rw[Zku hi]
   have ha' :=ha hall
   show IntKind.wrap .i64 _=_
   rw[Zaq (by omega) (by omega)]
   omega
  ·right
   rw[decide_eq_false h60]
   exact⟨_,rfl,fun _ e=>absurd e h60⟩
 ·rintro ⟨a,j⟩ ⟨hj,ha⟩
  simp only at hj ha
  subst hj
  rw[List.take_length] at ha
  simp only[ZaI,cond_false,bind_some]
  exact⟨_,rfl,fun hall e=>by have:=ha hall;omega⟩
theorem Zk2 {n:ZaJ} (h:Whole n): ∀x∈n.2.2.1,x.2.2.2.2.2.2.2.1.length≤4096:=fun x hx=>by have:=(h.sound.many x hx).2;omega
theorem ZoT {n:ZaJ} (h:ZlR Y31 n): ∃b,F35 n=some b∧(b=false→Fit n∧(Whole n→Zqm n∧Few n)):=by
 unfold F35
 by_cases h1: (8:Int)< (n.1.length:Int)
 ·rw[decide_eq_true h1];exact⟨true,rfl,fun e=>(nomatch e)⟩
 by_cases h2: (10:Int)< (n.2.1.length:Int)
 ·rw[decide_eq_false h1,decide_eq_true h2];exact⟨true,rfl,fun e=>(nomatch e)⟩
 by_cases h3: (12:Int)< (n.2.2.1.length:Int)
 ·rw[decide_eq_false h1,decide_eq_false h2,decide_eq_true h3];exact⟨true,rfl,fun e=>(nomatch e)⟩
 by_cases h4: (40:Int)< (n.2.2.2.1.length:Int)
 ·rw[decide_eq_false h1,decide_eq_false h2,decide_eq_false h3,decide_eq_true h4];exact⟨true,rfl,fun e=>(nomatch e)⟩
 by_cases h5: (100:Int)< (n.2.2.2.2.1.length:Int)
 ·rw[decide_eq_false h1,decide_eq_false h2,decide_eq_false h3,decide_eq_false h4,decide_eq_true h5];exact⟨true,rfl,fun e=>(nomatch e)⟩
 by_cases h6: (20:Int)< (n.2.2.2.2.2.1.1.length:Int)
 ·rw[decide_eq_false h1,decide_eq_false h2,decide_eq_false h3,decide_eq_false h4,decide_eq_false h5,decide_eq_true h6];exact⟨true,rfl,fun e=>(nomatch e)⟩
 rw[decide_eq_false h1,decide_eq_false h2,decide_eq_false h3,decide_eq_false h4,decide_eq_false h5,decide_eq_false h6]
 simp only[cond_false]
 obtain⟨k,k1,k2⟩:=Zk9 (n:=n) (by omega)
 rw[k1]
 simp only[bind_some]
 by_cases hk: (60:Int)<k
 ·rw[decide_eq_true hk];exact⟨true,rfl,fun e=>(nomatch e)⟩
 ·rw[decide_eq_false hk]
  refine⟨false,rfl,fun _=>⟨Zs3 h (by omega),fun hw=> ?_⟩⟩
  have hall:=Zk2 hw
  have hsum: (n.2.2.1.map fun r=>r.2.2.2.2.2.2.2.1.length).sum≤60:=k2 hall (by omega)
  exact⟨⟨by omega,by omega,by omega,hsum⟩,by omega,by omega,by omega,by omega,by omega,by omega,hall⟩
def ZsF (g:ScT) (s:Nat):Zd5:=(g.2.2.2.1[s]?).getD q11
def arrV (g:ScT) (s:Nat):Int:=(ZsF g s).1
def ZiH (g:ScT):List Int:=g.2.2.2.1.map fun p=>p.1
theorem ZnS {n0:ZaJ} {q:Zbo} {g:ScT} (h:F89 n0 q=some (g,0)): (F89S.f (n0,q,())).isSome=true:=by
 show (F89 n0 q).isSome=true
 rw[h];rfl
theorem Zj2 {n0:ZaJ} {q:Zbo} {g:ScT} (hl:g.2.2.2.1.length≤64) (h:F89 n0 q=some (g,0)):F85 n0 q=some (ZiH g,0):=by
 unfold F85
 rw[ZnS h,h]
 simp only[cond_true,bind_some,decide_true,Bool.not_true,cond_false]
 refine Zeg (fun r=>r=ZiH g) ?_ (fun r hr=>by rw[hr])
 refine Zby g.2.2.2.1.length _ (fun i (st:List Int×List Zd5×Int)=>st=((g.2.2.2.1.take i).map (fun p=>p.1),g.2.2.2.1,(i:Int))) ?_ ?_ _ rfl
 ·rintro i _ hi rfl
  left
  have hg:Zas (decide (List.length ((g.2.2.2.1.take i).map fun p=>p.1)+List.length [(g.2.2.2.1[i]).1]≤Zay))=some ():=Zbk (by simp;omega)
  simp only[ZaG hi,cond_true,ZaZ hi,bind_some,List.getElem?_eq_getElem hi,Zan hi (show _≤9223372036854775807 by omega),hg]
  exact⟨_,rfl,by rw[List.take_succ_eq_append_getElem hi,List.map_append];rfl⟩
 ·rintro _ rfl
  simp only[ZaI,cond_false,List.take_length]
  exact⟨_,rfl,rfl⟩
variable {n:ZaJ} {s0 t0 w:Int} {g:ScT}
theorem Znp.idxA (D:Znp n s0 t0 w g) {s:Nat} (hs:s<n.1.length):idx (ZiH g) (s:Int)=some (arrV g s):=by
 have hl:s<g.2.2.2.1.length:=by rw[D.si.pl];exact hs
 have hl2:s< (ZiH g).length:=by unfold ZiH;rw[List.length_map];exact hl
 have e: (ZiH g)[s]=arrV g s:=by unfold arrV ZsF;rw[Zai hl];simp [ZiH]
 rw[Zag hl2,e]
theorem Znp.len (D:Znp n s0 t0 w g): (ZiH g).length=n.1.length:=by unfold ZiH;rw[List.length_map,D.si.pl]
theorem Znp.sound (D:Znp n s0 t0 w g) {s:Nat} (h:arrV g s≠ -1): ∃k js,Ch g.2.2.1 (ZsF g s).2.2.2.1 js∧Der n s0 t0 w (.arr k (s:Int) (arrV g s)) js:=by
 unfold arrV ZsF at*
 by_cases hs:s<g.2.2.2.1.length
 ·rw[Zai hs] at h ⊢
  exact(D.si.snd.pls s _ (List.getElem?_eq_getElem hs)).arr h
 ·rw[List.getElem?_eq_none (by omega)] at h
  exact absurd rfl h
theorem Znp.complete (D:Znp n s0 t0 w g) {s:Nat} {k:Nat} {t:Int} {js:List Zbb} (d:Der n s0 t0 w (.arr k (s:Int) t) js):arrV g s≠ -1∧arrV g s≤t:=by
 obtain⟨p,p1,p2⟩:=D.arr d
 rw[Int.toNat_natCast] at p1
 unfold arrV ZsF
 rw[p1]
 exact p2
theorem Znp.nonneg (C:Ctx n s0 t0 w) (D:Znp n s0 t0 w g) (s:Nat):arrV g s= -1∨0≤arrV g s∧arrV g s≤3155932800:=by
 by_cases h:arrV g s= -1
 ·exact .inl h
 right
 obtain⟨k,js,_,d⟩:=D.sound h
 exact(C.ok d).2
theorem ZmS {n:ZaJ} (hS:Zd9 n) (hp:n.2.2.2.2.1.length≤4096) {q:Zbo} (hq:inR q.1 n.1.length=true) {L:List Zbb} (hj:L.length≤1000): ∃k:Int,F72 n q (L,())=some k∧(k=(L.length:Int)↔ ∀i,i<L.length→atE n q L i=0):=by
 unfold F72
 have key: ∀o:Option (Unit ⊕ Int),(∃r,o=some r∧((r= .inl ()∧ ∀i,i<L.length→atE n q L i=0)∨ ∃i,i<L.length∧r= .inr (i:Int)∧atE n q L i≠0))→
   ∃k:Int,(Option.bind o fun x2=>Sum.elim (fun _=>some (L.length:Int)) (fun y4=>some y4) x2)=some k∧(k=(L.length:Int)↔ ∀i,i<L.length→atE n q L i=0):=by
  rintro o ⟨r,rfl,⟨rfl,h⟩ | ⟨i,hi,rfl,h⟩⟩
  ·exact⟨_,rfl,fun _=>h,fun _=>rfl⟩
  ·exact⟨_,rfl,fun e=>by omega,fun e=>absurd (e i hi) h⟩
 refine key _ ?_
 refine Zby L.length _ (fun i (st:Int)=>st=(i:Int)∧ ∀j,j<i→atE n q L j=0) ?_ ?_ _ ⟨rfl,fun j hj=>absurd hj (Nat.not_lt_zero j)⟩
 ·rintro i _ hi ⟨rfl,ha⟩
  simp only[ZaG hi,cond_true]
  rw[ZsK hS hp hq hi hj]
  simp only[bind_some]
  by_cases e:atE n q L i=0
  ·left
   rw[decide_eq_true e]
   refine⟨_,rfl,Zan hi (by omega),fun j hj=> ?_⟩
   by_cases e' :j=i
   ·subst e';exact e
   ·exact ha j (by omega)
  ·right
   rw[decide_eq_false e]
   exact⟨_,rfl, .inr ⟨i,hi,rfl,e⟩⟩
 ·rintro _ ⟨rfl,ha⟩
  simp only[ZaI,cond_false]
  exact⟨_,rfl, .inl ⟨rfl,ha⟩⟩
theorem Zrs (n:ZaJ) (h:ZlR Y31 n) (q:Zbo) (j:Ztu):F31 n q j=some true:=by
 obtain⟨L,⟨⟩⟩:=j
 unfold F31
 obtain⟨b,hb1,hb2⟩:=ZoT h
 rw[hb1]
 cases b with
 |true=>simp only[bind_some,cond_true,ZbW]
 |false=>
  obtain⟨hfit,hsz⟩:=hb2 rfl
  simp only[bind_some,cond_false]
  rw[Zji hfit]
  simp only[bind_some]
  by_cases hc:Zq0 n q=0
  rotate_left
  ·rw[decide_eq_false hc]
   simp only[Bool.not_false,cond_true,bind_some,ZbW]
  rw[decide_eq_true hc]
  simp only[Bool.not_true,cond_false,bind_some]
  by_cases hL:12<L.length
  ·rw[decide_eq_true (show (12:Int)< (L.length:Int) by omega)]
   simp only[cond_true,ZbW,bind_some]
  rw[decide_eq_false (show¬ (12:Int)< (L.length:Int) by omega)]
  simp only[cond_false]
  have hw0:=(Zkj.1 (Zkd.1 hc).1).1
  obtain⟨hZ,hfew⟩:=hsz hw0
  obtain⟨g,g1,C,hw,hqb,hbk,D⟩:=ZqO hfit hfew hZ hc
  have hqb' :=hqb
  unfold qB at hqb'
  simp only[Bool.and_eq_true,decide_eq_true_eq] at hqb'
  have hst: (Za7 n q).1.length=n.1.length:=rfl
  have hst2:=hZ.stops
  rw[Zj2 (by rw[D.si.pl,hst];omega) g1]
  simp only[bind_some,decide_true,Bool.not_true,cond_false,D.len,hst]
  by_cases hl0:L.length=0
  ·rw[decide_eq_true (show (L.length:Int)=0 by omega)]
   simp only[cond_true,bind_some,ZbW]
  rw[decide_eq_false (show¬ (L.length:Int)=0 by omega)]
  simp only[cond_false]
  obtain⟨k,k1,k2⟩:=ZmS hw.sound hfit.paths hqb'.1 (L:=L) (by omega)
  rw[k1]
  simp only[bind_some]
  by_cases hk:k=(L.length:Int)
  rotate_left
  ·rw[decide_eq_false hk]
   simp only[Bool.not_false,cond_true,ZbW,bind_some]
  rw[decide_eq_true hk]
  have hat:=k2.1 hk
  have w1:IntKind.wrap .i64 ((L.length:Int) - 1)=((L.length - 1:Nat):Int):=by rw[Zaq (by omega) (by omega)];omega
  simp only[Bool.not_true,cond_false,w1,Zia (show L.length - 1<L.length by omega),bind_some]
  obtain⟨js,d⟩:=Zsn (n:=Za7 n q) (q:=q) C.net C.stop C.time hbk (L:=L) (by omega) (fun i hi=>ZpW.2 (hat i hi))
  have hok:=C.ok d
  obtain⟨s,hs⟩: ∃s:Nat,(lg L (L.length - 1)).2.2.2.2.2.1=(s:Int):=⟨(lg L (L.length - 1)).2.2.2.2.2.1.toNat,by have:=hok.1;omega⟩
  rw[hs] at d
  have hcm:=D.complete d
  have hnn:=D.nonneg C s
  have hsl:s< (Za7 n q).1.length:=by have:=hok.1;omega
  rw[hs]
  simp only[D.idxA hsl,bind_some]
  rw[decide_eq_true (show (0:Int)≤arrV g s by omega),decide_eq_true hcm.2]
  simp only[cond_true,ZbW,bind_some]
theorem rides42P (x:Zdw F31A) (h:ZjP F31A x):F31 x.1 x.2.1 x.2.2.1=some true:=Zrs _ h.1 _ _
end Q
