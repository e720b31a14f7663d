/- filter: usable runs, open stops, the allowed network; queries. Conditions: the network is valid, its lists are short. -/
import Derived.KernelRfl
import Derived.Test.YtckebckjnfcniaaGreatJLwJa2842
import Derived.Test.YtckebckjnfcniaaGreatTsF
import Derived.Test.YtckebckjnfcniaaGreatTtA
namespace Q
open Tr Go
open Option (bind_some)
theorem Zpj {α β τ:Type} {step:List β×Int→Option ((List β×Int) ⊕ τ)} (l:List α) (f:α→List β) (R:List β→τ)
  (hstep: ∀i (hi:i<l.length),step ((l.take i).flatMap f,(i:Int))=some (.inl ((l.take i).flatMap f++f l[i],((i+1:Nat):Int))))
  (hend:step (l.flatMap f,(l.length:Int))=some (.inr (R (l.flatMap f)))):run step ([],(0:Int))=some (R (l.flatMap f)):=by
 refine Exists.elim (ZbD (step:=step) l.length (fun r=>r=R (l.flatMap f)) (fun i st=>st=((l.take i).flatMap f,(i:Int))) ?_ ?_ ([],(0:Int)) (by simp)) ?_
 ·rintro i _ hi rfl
  left
  refine⟨_,hstep i hi, ?_⟩
  rw[List.take_succ_eq_append_getElem hi,List.flatMap_append]
  simp
 ·rintro _ rfl
  rw[List.take_length]
  exact⟨_,hend,rfl⟩
 ·rintro r ⟨h1,rfl⟩
  exact h1
theorem Zpw {α β:Type} (f:α→β) (l:List α):l.flatMap (fun x=>[f x])=l.map f:=by
 induction l with
 |nil=>rfl
 |cons x l ih=>simp [ih]
theorem Zo1 {α β:Type} {f:α→List β} (hf: ∀x,(f x).length≤1) (l:List α): (l.flatMap f).length≤l.length:=by
 induction l with
 |nil=>simp
 |cons x l ih=>have:=hf x;simp;simp at ih;omega
abbrev Zde:=Int×Int×Int×Bool×Int×Int×Bool×Bool×Int×Bool×Unit
def Zrc (n:ZaQ) (r:Zhf):ZeF:=(n.2.1[r.2.2.2.2.1.toNat]?).getD r0
def ZrI (n:ZaQ) (q:Zde) (r:Zhf):Bool:=Tr.useB q r (Zrc n r)
def s0:ZjE:=([],0,false,0,())
def ZdS (n:ZaQ) (s:Int):ZjE:=(n.1[s.toNat]?).getD s0
def Zrb (n:ZaQ) (q:Zde) (s:Int):Bool:=(ZdS n s).2.2.1|| !q.2.2.2.2.2.2.1
def Zco (n:ZaQ) (q:Zde) (c:ZbT):ZbT:=if Zrb n q c.1 then c else(c.1,c.2.1,c.2.2.1,false,false,())
theorem Zrd {n:ZaQ} (hS:Zfv n) {r:Zhf} (hr:r∈n.2.2.1):idx n.2.1 r.2.2.2.2.1=some (Zrc n r)∧Zrc n r∈n.2.1:=by
 have h:=hS.route _ hr
 have hi:inR r.2.2.2.2.1 n.2.1.length=true:=by simp [inR];omega
 refine⟨Zb6 hi r0, ?_⟩
 unfold Zrc
 rw[Zah (show r.2.2.2.2.1.toNat<n.2.1.length by omega)]
 exact List.getElem_mem _
theorem ZqK {n:ZaQ} (hS:Zfv n) (q:Zde) {r:Zhf} (hr:r∈n.2.2.1):F15 n q r=some (ZrI n q r):=by
 obtain⟨h1,h2⟩:=Zrd hS hr
 have hm:=(hS.mode _ h2).1
 unfold F15 Tr.useF
 rw[h1]
 simp only[bind_some,show decide ((0:Int)≤(Zrc n r).2.1)=true from decide_eq_true hm,Bool.or_true,cond_true]
 rfl
theorem Zri {n:ZaQ} (hS:Zfv n) {r:Zhf} (hr:r∈n.2.2.1) {c:ZbT} (hc:c∈r.2.2.2.2.2.2.2.1):idx n.1 c.1=some (ZdS n c.1):=by
 have h:=hS.call _ hr _ hc
 exact Zb6 (show inR c.1 n.1.length=true by simp [inR];omega) s0
theorem Zpm {n:ZaQ} (q:Zde) {s:Int} (h:idx n.1 s=some (ZdS n s)):F14 n q s=some (Zrb n q s):=by
 unfold F14
 rw[h]
 simp only[bind_some]
 unfold Zrb
 cases (ZdS n s).2.2.1<;>rfl
theorem ZlN {n:ZaQ} (hS:Zfv n) (q:Zde) {r:Zhf} (hr:r∈n.2.2.1):F13 n q r.2.2.2.2.2.2.2.1=some (r.2.2.2.2.2.2.2.1.map (Zco n q)):=by
 have hl:=(hS.many _ hr).2
 unfold F13
 rw[Zpj r.2.2.2.2.2.2.2.1 (fun c=>[Zco n q c]) id ?_ ?_]
 ·simp only[bind_some,id,Zpw,List.length_map]
  generalize hm:r.2.2.2.2.2.2.2.1.map (Zco n q)=m
  have hlen:m.length=r.2.2.2.2.2.2.2.1.length:=by rw[←hm,List.length_map]
  rw[←hlen]
  have e1:inb (m.length:Int) (m.length+1)=some m.length:=by
   unfold inb;rw[if_pos (by omega)];simp
  have e2:sliceB m.length m.length none (some (m.length:Int))=some (0,m.length):=by
   unfold sliceB
   simp only[if_pos (show (0:Int)≤(m.length:Int)∧(m.length:Int)≤(m.length:Int) from ⟨by omega,by omega⟩),bind_some,Int.toNat_natCast]
  rw[e1]
  simp only[bind_some]
  rw[e2]
  simp
 ·intro i hi
  have hc:=List.getElem_mem hi
  simp only[ZaG hi,cond_true,Zai hi,bind_some]
  rw[Zpm q (Zri hS hr hc)]
  have hb:=Zo1 (f:=fun c=>[Zco n q c]) (by simp) (r.2.2.2.2.2.2.2.1.take i)
  rw[List.length_take] at hb
  simp only[bind_some]
  have e: (bif !Zrb n q (r.2.2.2.2.2.2.2.1[i]).1 then some (((r.2.2.2.2.2.2.2.1[i]).1,(r.2.2.2.2.2.2.2.1[i]).2.1,(r.2.2.2.2.2.2.2.1[i]).2.2.1,false,false,(r.2.2.2.2.2.2.2.1[i]).2.2.2.2.2):ZbT) else some r.2.2.2.2.2.2.2.1[i])=some (Zco n q r.2.2.2.2.2.2.2.1[i]):=by
   unfold Zco
   cases Zrb n q (r.2.2.2.2.2.2.2.1[i]).1<;>rfl
  erw[e]
  simp only[bind_some]
  rw[Zbi (by simp;simp at hb;omega),Zan hi (by omega)]
  rfl
 ·simp only[ZaH,cond_false];rfl
structure Few (n:ZaQ):Prop where
 stops:n.1.length≤4096
 routes:n.2.1.length≤4096
 runs:n.2.2.1.length≤4096
 links:n.2.2.2.1.length≤4096
 paths:n.2.2.2.2.1.length≤4096
 prods:n.2.2.2.2.2.1.1.length≤4096
 calls: ∀r∈n.2.2.1,r.2.2.2.2.2.2.2.1.length≤4096
theorem ZdA {α:Type} (l:List α) (h:l.length≤4096): (Option.bind (Zar (decide (List.length ([]:List Unit)+List.length l≤Zax))) fun _=>
 Option.bind (inb (↑(List.length ([]++l)):Int) (List.length ([]++l)+(1:Nat))) fun x1=>
 Option.bind (sliceB (List.length ([]++l)) x1 none (some (↑(List.length ([]++l)):Int))) fun x2=>some (List.take x2.2 ([]++l)))=some l:=by
 have e0:Zar (decide (List.length ([]:List Unit)+List.length l≤Zax))=some ():=by
  unfold Zar Zax
  rw[decide_eq_true (show List.length ([]:List Unit)+List.length l≤2 ^ 32 by simp;omega)];rfl
 have e1:inb (l.length:Int) (l.length+1)=some l.length:=by
  unfold inb;rw[if_pos (by omega)];simp
 have e2:sliceB l.length l.length none (some (l.length:Int))=some (0,l.length):=by
  unfold sliceB
  simp only[if_pos (show (0:Int)≤(l.length:Int)∧(l.length:Int)≤(l.length:Int) from ⟨by omega,by omega⟩),bind_some,Int.toNat_natCast]
 rw[e0]
 simp only[bind_some,List.nil_append]
 rw[e1]
 simp only[bind_some]
 rw[e2]
 simp
theorem Zol {n:ZaQ} (h:Few n):F37 n=some n:=by
 unfold F37
 have hs:F48 n.1=some n.1:=ZdA n.1 h.stops
 have hro:F46 n.2.1=some n.2.1:=ZdA n.2.1 h.routes
 have hru:F47 n.2.2.1=some n.2.2.1:=ZdA n.2.2.1 h.runs
 have hli:F44 n.2.2.2.1=some n.2.2.2.1:=ZdA n.2.2.2.1 h.links
 have hpa:F43 n.2.2.2.2.1=some n.2.2.2.2.1:=ZdA n.2.2.2.2.1 h.paths
 have hpr:F45 n.2.2.2.2.2.1.1=some n.2.2.2.2.2.1.1:=ZdA n.2.2.2.2.2.1.1 h.prods
 rw[hs,hro,hru,hli,hpa]
 simp only[bind_some]
 refine Zd7 (fun r:ZaQ=>r=(n.1,n.2.1,n.2.2.1,n.2.2.2.1,n.2.2.2.2.1,n.2.2.2.2.2.1,())) (ZbD n.2.2.1.length _ (fun i (st:ZaQ×Int)=>st=((n.1,n.2.1,n.2.2.1,n.2.2.2.1,n.2.2.2.2.1,n.2.2.2.2.2.1,()),(i:Int))) ?_ ?_ _ rfl) ?_
 ·rintro i _ hi rfl
  left
  have hc:F42 (n.2.2.1[i]).2.2.2.2.2.2.2.1=some (n.2.2.1[i]).2.2.2.2.2.2.2.1:=ZdA _ (h.calls _ (List.getElem_mem hi))
  simp only[ZaG hi,cond_true,ZaW hi,bind_some,List.getElem?_eq_getElem hi,hc]
  refine⟨_,rfl, ?_⟩
  rw[Zan hi (by have:=h.runs;omega)]
  have e:List.set n.2.2.1 i ((n.2.2.1[i]).1,(n.2.2.1[i]).2.1,(n.2.2.1[i]).2.2.1,(n.2.2.1[i]).2.2.2.1,(n.2.2.1[i]).2.2.2.2.1,(n.2.2.1[i]).2.2.2.2.2.1,(n.2.2.1[i]).2.2.2.2.2.2.1,(n.2.2.1[i]).2.2.2.2.2.2.2.1,(n.2.2.1[i]).2.2.2.2.2.2.2.2)=n.2.2.1:=List.set_getElem_self hi
  erw[e]
 ·rintro _ rfl
  exact⟨_,by simp only[ZaH,cond_false],rfl⟩
 ·rintro _ rfl
  rw[hpr]
  rfl
def Zcn (n:ZaQ) (q:Zde) (r:Zhf):Zhf:=(r.1,r.2.1,r.2.2.1,r.2.2.2.1,r.2.2.2.2.1,r.2.2.2.2.2.1, !ZrI n q r,r.2.2.2.2.2.2.2.1.map (Zco n q),())
def Zdg (n:ZaQ) (q:Zde):List Zb4:=if q.2.2.2.2.2.2.1 then n.2.2.2.2.1.filter (fun p=>p.2.2.2.1) else n.2.2.2.2.1
def Za6 (n:ZaQ) (q:Zde):ZaQ:=(n.1,n.2.1,n.2.2.1.map (Zcn n q),n.2.2.2.1,Zdg n q,n.2.2.2.2.2.1,())
def ZdP (n:ZaQ) (q:Zde) (i:Nat):List Zhf:=(n.2.2.1.take i).map (Zcn n q)++n.2.2.1.drop i
theorem Zmq (n:ZaQ) (q:Zde) {i:Nat} (hi:i≤n.2.2.1.length): (ZdP n q i).length=n.2.2.1.length:=by
 simp [ZdP];omega
theorem Zmr (n:ZaQ) (q:Zde) {i:Nat} (hi:i<n.2.2.1.length): (ZdP n q i)[i]? =some n.2.2.1[i]:=by
 unfold ZdP
 rw[List.getElem?_append_right (by simp;omega)]
 simp only[List.length_map,List.length_take,Nat.min_eq_left (Nat.le_of_lt hi),Nat.sub_self,List.getElem?_drop,Nat.add_zero]
 exact List.getElem?_eq_getElem hi
theorem ZlK (n:ZaQ) (q:Zde) {i:Nat} (hi:i<n.2.2.1.length): (ZdP n q i).set i (Zcn n q n.2.2.1[i])=ZdP n q (i+1):=by
 unfold ZdP
 have hlen: ((n.2.2.1.take i).map (Zcn n q)).length=i:=by simp;omega
 rw[List.set_append_right _ _ (by omega),hlen,Nat.sub_self,List.drop_eq_getElem_cons hi,List.set_cons_zero,List.take_succ_eq_append_getElem hi,List.map_append]
 simp
theorem Zkx {n:ZaQ} (hS:Zfv n) (hF:Few n) (q:Zde) (hq:F10 n q=some 0):F12 n q=some (Za6 n q,0):=by
 unfold F12
 rw[hq]
 simp only[bind_some,decide_true,Bool.not_true,cond_false]
 rw[Zol hF]
 simp only[bind_some]
 refine Zd7 (fun r:ZaQ=>r=(n.1,n.2.1,n.2.2.1.map (Zcn n q),n.2.2.2.1,n.2.2.2.2.1,n.2.2.2.2.2.1,())) (ZbD n.2.2.1.length _ (fun i (st:ZaQ×Int)=>st=((n.1,n.2.1,ZdP n q i,n.2.2.2.1,n.2.2.2.2.1,n.2.2.2.2.2.1,()),(i:Int))) ?_ ?_ _ (by simp [ZdP])) ?_
 ·rintro i _ hi rfl
  left
  have hr:=List.getElem_mem hi
  have hl:=Zmq n q (Nat.le_of_lt hi)
  have hi' :i< (ZdP n q i).length:=by omega
  simp only[ZaG hi,cond_true,Zai hi,bind_some,ZqK hS q hr,ZaW hi',Zmr n q hi,ZlN hS q hr]
  refine⟨_, ?_,rfl⟩
  rw[Zan hi (by have:=hF.runs;omega)]
  have hi2:i< ((ZdP n q i).set i ((n.2.2.1[i]).1,(n.2.2.1[i]).2.1,(n.2.2.1[i]).2.2.1,(n.2.2.1[i]).2.2.2.1,(n.2.2.1[i]).2.2.2.2.1,(n.2.2.1[i]).2.2.2.2.2.1, !ZrI n q n.2.2.1[i],(n.2.2.1[i]).2.2.2.2.2.2.2)).length:=by rw[List.length_set];exact hi'
  erw[ZaW hi2]
  simp only[bind_some]
  erw[List.getElem?_set_self hi']
  simp only[bind_some]
  erw[List.set_set]
  congr 2
  have:=ZlK n q hi
  rw[←this]
  rfl
 ·rintro _ rfl
  refine⟨_,by simp only[ZaH,cond_false];rfl, ?_⟩
  simp [ZdP]
 ·rintro _ rfl
  unfold Za6 Zdg
  cases hsf:q.2.2.2.2.2.2.1 with
  |false=>rfl
  |true=>
   simp only[cond_true,if_true]
   refine Zd7 (fun r:ZaQ=>r=(n.1,n.2.1,n.2.2.1.map (Zcn n q),n.2.2.2.1,n.2.2.2.2.1.filter (fun p=>p.2.2.2.1),n.2.2.2.2.2.1,())) (ZbD n.2.2.2.2.1.length _ (fun i (st:ZaQ×Int)=>st=((n.1,n.2.1,n.2.2.1.map (Zcn n q),n.2.2.2.1,(n.2.2.2.2.1.take i).filter (fun p=>p.2.2.2.1),n.2.2.2.2.2.1,()),(i:Int))) ?_ ?_ _ (by simp)) ?_
   ·rintro i _ hi rfl
    left
    have hb:=List.length_filter_le (fun p:Zb4=>p.2.2.2.1) (n.2.2.2.2.1.take i)
    rw[List.length_take] at hb
    have hp:=hF.paths
    simp only[ZaG hi,cond_true,Zai hi,bind_some]
    rw[Zan hi (by omega),List.take_succ_eq_append_getElem hi,List.filter_append]
    cases hv: (n.2.2.2.2.1[i]).2.2.2.1 with
    |false=>
     refine⟨_,rfl, ?_⟩
     simp [hv]
    |true=>
     simp only[cond_true]
     rw[Zbi (by simp;omega)]
     refine⟨_,rfl, ?_⟩
     simp [hv]
   ·rintro _ rfl
    refine⟨_,by simp only[ZaH,cond_false];rfl, ?_⟩
    rw[List.take_length]
   ·rintro _ rfl
    rfl
def qB (k:Nat) (q:Zde):Bool:=inR q.1 k&& (inR q.2.1 k&& (decide (0≤q.2.2.1∧q.2.2.1≤3155932800) && (decide (0≤q.2.2.2.2.1∧q.2.2.2.2.1≤8) && (decide (0≤q.2.2.2.2.2.1∧q.2.2.2.2.2.1≤86400) && (decide (0≤q.2.2.2.2.2.2.2.2.1∧q.2.2.2.2.2.2.2.2.1≤255) && !(q.2.2.2.2.2.2.2.2.2.1&&q.2.2.2.1))))))
theorem ZjU (x a b:Int):F11 x a b=some (decide (a≤x∧x≤b)):=ZcX x a b
theorem ZgH (x a b:Int):F71 x a b=some (decide (a≤x∧x≤b)):=ZcX x a b
theorem Zga (x:Int) {m:Nat} (hm:m≤9223372036854775807):F71 x 0 (IntKind.wrap .i64 ((m:Int) - 1))=some (inR x m):=Zh8 x hm
theorem ZlO (k:Nat) (hk:k≤9223372036854775807) (q:Zde):F70 (k:Int) q=some (qB k q):=by
 unfold F70 qB
 simp only[ZgH]
 rw[show decide ((0:Int)≤q.1∧q.1≤IntKind.wrap .i64 ((k:Int) - 1))=inR q.1 k from Option.some.inj ((ZgH _ _ _).symm.trans (Zga q.1 hk)),show decide ((0:Int)≤q.2.1∧q.2.1≤IntKind.wrap .i64 ((k:Int) - 1))=inR q.2.1 k from Option.some.inj ((ZgH _ _ _).symm.trans (Zga q.2.1 hk))]
 simp only[bind_some]
 generalize inR q.1 k=b1
 generalize inR q.2.1 k=b2
 generalize decide ((0:Int)≤q.2.2.1∧q.2.2.1≤3155932800)=b3
 generalize decide ((0:Int)≤q.2.2.2.2.1∧q.2.2.2.2.1≤8)=b4
 generalize decide ((0:Int)≤q.2.2.2.2.2.1∧q.2.2.2.2.2.1≤86400)=b5
 generalize decide ((0:Int)≤q.2.2.2.2.2.2.2.2.1∧q.2.2.2.2.2.2.2.2.1≤255)=b6
 generalize q.2.2.2.2.2.2.2.2.2.1=b7
 generalize q.2.2.2.1=b8
 cases b1<;>try rfl
 cases b2<;>try rfl
 cases b3<;>try rfl
 cases b4<;>try rfl
 cases b5<;>try rfl
 cases b6<;>try rfl
 cases b7<;>cases b8<;>rfl
open Classical in
noncomputable def ZmC (n:ZaQ) (q:Zde):Int:=if Whole n then(if qB n.1.length q=true then 0 else 22) else 21
theorem ZgG {n:ZaQ} {q:Zde} :ZmC n q=0↔Whole n∧qB n.1.length q=true:=by
 unfold ZmC
 split
 ·next h=>split<;>simp_all
 ·next h=>simp [h]
open Classical in
theorem ZjW {n:ZaQ} (h:Fit n):F60 n=some (decide (Whole n)):=by
 obtain⟨r,_,h2,h3⟩:=Zfl n h
 unfold F60
 rw[h2]
 simp only[bind_some]
 congr 1
 exact decide_eq_decide.2 h3
open Classical in
theorem Zpp {n:ZaQ} (h:Fit n) (q:Zde):F69 n q=some (ZmC n q):=by
 unfold F69 ZmC
 rw[ZjW h]
 simp only[bind_some]
 by_cases hW:Whole n
 ·rw[decide_eq_true hW,if_pos hW]
  have hs:=hW.sound.stops
  simp only[Bool.not_true,cond_false]
  rw[ZlO n.1.length (by omega)]
  simp only[bind_some]
  cases qB n.1.length q<;>rfl
 ·rw[decide_eq_false hW,if_neg hW];rfl
theorem ZiY {n:ZaQ} (h:Fit n) (q:Zde):F10 n q=some (ZmC n q):=by
 obtain⟨r,h1,_,h3⟩:=Zfl n h
 unfold F10 ZmC
 rw[h1]
 simp only[bind_some]
 by_cases hW:Whole n
 ·rw[decide_eq_true (h3.2 hW),if_pos hW]
  have hk:n.1.length≤9223372036854775807:=by have:=hW.sound.stops;omega
  simp only[Bool.not_true,cond_false,ZjU]
  rw[show decide ((0:Int)≤q.1∧q.1≤IntKind.wrap .i64 ((n.1.length:Int) - 1))=inR q.1 n.1.length from Option.some.inj ((ZgH _ _ _).symm.trans (Zga q.1 hk)),show decide ((0:Int)≤q.2.1∧q.2.1≤IntKind.wrap .i64 ((n.1.length:Int) - 1))=inR q.2.1 n.1.length from Option.some.inj ((ZgH _ _ _).symm.trans (Zga q.2.1 hk))]
  unfold qB
  simp only[bind_some]
  generalize inR q.1 n.1.length=b1
  generalize inR q.2.1 n.1.length=b2
  generalize decide ((0:Int)≤q.2.2.1∧q.2.2.1≤3155932800)=b3
  generalize decide ((0:Int)≤q.2.2.2.2.1∧q.2.2.2.2.1≤8)=b4
  generalize decide ((0:Int)≤q.2.2.2.2.2.1∧q.2.2.2.2.2.1≤86400)=b5
  generalize decide ((0:Int)≤q.2.2.2.2.2.2.2.2.1∧q.2.2.2.2.2.2.2.2.1≤255)=b6
  generalize q.2.2.2.2.2.2.2.2.2.1=b7
  generalize q.2.2.2.1=b8
  cases b1<;>try rfl
  cases b2<;>try rfl
  cases b3<;>try rfl
  cases b4<;>try rfl
  cases b5<;>try rfl
  cases b6<;>try rfl
  cases b7<;>cases b8<;>rfl
 ·rw[decide_eq_false (fun e=>hW (h3.1 e)),if_neg hW];rfl
theorem Zhl {c l:List Zb4} (h:Zbk c l=true):c=l:=by
 unfold Zbk at h
 rw[Bool.and_eq_true,decide_eq_true_eq,Option.isNone_iff_eq_none] at h
 obtain⟨h1,h2⟩:=h
 have h2:=Zay.1 h2
 refine List.ext_getElem h1 fun i hi hi' => ?_
 have:=h2 i hi
 unfold eqF at this
 rw[Zah hi,Zah hi'] at this
 have hs:Zgl c[i] l[i]=true:=by
  by_cases hs:Zgl c[i] l[i]=true
  ·exact hs
  ·rw[if_neg hs] at this;simp at this
 unfold Zgl at hs
 simp only[Bool.and_eq_true,decide_eq_true_eq,beq_iff_eq] at hs
 exact Prod.ext hs.1 (Prod.ext hs.2.1 (Prod.ext hs.2.2.1 (Prod.ext hs.2.2.2 rfl)))
theorem ZiV (l:List Zb4):Zbk l l=true:=by
 unfold Zbk
 rw[Bool.and_eq_true,decide_eq_true_eq,Option.isNone_iff_eq_none]
 refine⟨rfl,Zay.2 fun i hi=> ?_⟩
 unfold eqF Zgl
 simp
theorem Zk2 {k:Nat} {l:List Zb4} : (∀i,i<l.length→Zbl k l i=0)↔(∀p∈l,ZcM k p=false∧ZcP p=false)∧l.Pairwise fun a b=>ZcB a≠ZcB b:=by
 constructor
 ·intro h
  refine⟨fun p hp=> ?_,List.pairwise_iff_getElem.2 fun i j hi hj hij e=> ?_⟩
  ·obtain⟨i,hi,rfl⟩:=List.getElem_of_mem hp
   have:=Zb1 (h i hi)
   rw[Zah hi] at this
   exact⟨this.1,this.2.1⟩
  ·have:=(Zb1 (h j hj)).2.2
   refine this ⟨i,hij, ?_⟩
   rw[Zah hi,Zah hj];exact e
 ·rintro ⟨h1,h2⟩ i hi
  obtain⟨a,b⟩:=h1 _ (List.getElem_mem hi)
  unfold Zbl
  rw[Zah hi,if_neg (by rw[a];simp),if_neg (by rw[b];simp),if_neg]
  rintro ⟨j,hj,e⟩
  rw[Zah (show j<l.length by omega)] at e
  exact List.pairwise_iff_getElem.1 h2 j i (by omega) hi hj e
theorem Zg0 {α β:Type} (p:β→Bool) (f:α→List β) (l:List α): (l.flatMap f).filter p=l.flatMap fun x=>(f x).filter p:=by
 induction l with
 |nil=>rfl
 |cons x l ih=>simp [List.filter_append,ih]
theorem ZnE (a b:Nat) (d f:Int): (Zcm a b d f).filter (fun p=>p.2.2.2.1)=Zcm a b f f:=by
 unfold Zcm
 by_cases h:f=d
 ·subst h
  rw[if_pos rfl,List.append_nil]
  split<;>simp
 ·rw[if_neg h,if_pos rfl,List.append_nil,List.filter_append]
  have e1: (if 0<d∧d≤14400 then [((a:Int),(b:Int),d,decide (f=d),())] else []).filter (fun p:ZcE=>p.2.2.2.1)=[]:=by
   split<;>simp [h]
  rw[e1]
  split<;>simp
theorem Zm8 (it:Nat→Nat→List ZcE) (n m:Nat): (ZeM it n m).filter (fun p=>p.2.2.2.1)=ZeM (fun a b=>(it a b).filter (fun p=>p.2.2.2.1)) n m:=by
 unfold ZeM Zig
 rw[Zg0]
 congr 1;funext a
 rw[Zg0]
 congr 1;funext b
 split<;>rfl
theorem ZkA {k:Nat} (hk:k≤64) {l:List Zb4} (hl:l.length≤4096) (hz: ∀i,i<l.length→Zbl k l i=0) (hc: ∀c,F57 l (k:Int)=some c→Zbk c l=true):
  (∀i,i< (l.filter fun p=>p.2.2.2.1).length→Zbl k (l.filter fun p=>p.2.2.2.1) i=0)∧ ∀c,F57 (l.filter fun p=>p.2.2.2.1) (k:Int)=some c→Zbk c (l.filter fun p=>p.2.2.2.1)=true:=by
 obtain⟨z1,z2⟩:=Zk2.1 hz
 have hz' : ∀i,i< (l.filter fun p=>p.2.2.2.1).length→Zbl k (l.filter fun p=>p.2.2.2.1) i=0:=Zk2.2 ⟨fun p hp=>z1 p (List.mem_filter.1 hp).1,z2.filter _⟩
 refine⟨hz',fun c h=> ?_⟩
 have hF:=ZlG hz
 have hF' :=ZlG hz'
 have hl' : (l.filter fun p=>p.2.2.2.1).length≤4096:=Nat.le_trans (List.length_filter_le _ _) hl
 obtain⟨c0,a1,a2,_⟩:=ZdJ hk hF hl
 obtain⟨c1,b1,b2,_⟩:=ZdJ hk hF' hl'
 have v0:=Zdz hk hF hl (fun a b=>(ZgC hF a b).imp id fun h=>h.2)
 have v1:=Zdz hk hF' hl' (fun a b=>(ZgC hF' a b).imp id fun h=>h.2)
 rw[a1] at v0
 rw[b1] at v1
 have e0:=Zhl (hc c0 a2)
 obtain rfl:c1=c:=Option.some.inj (b2.symm.trans h)
 have ed: ∀free,EdP (l.filter fun p=>p.2.2.2.1) free=EdP l true:=by
  intro free
  funext u v w
  refine propext ⟨fun⟨p,hp,_,h⟩=> ?_,fun⟨p,hp,h1,h⟩=> ?_⟩
  ·obtain⟨hp1,hp2⟩:=List.mem_filter.1 hp
   exact⟨p,hp1,fun _=>hp2,h⟩
  ·have:=h1 rfl
   exact⟨p,List.mem_filter.2 ⟨hp,this⟩,fun _=>this,h⟩
 have key:c1=l.filter fun p=>p.2.2.2.1:=by
  rw[Option.some.inj v1]
  conv=>rhs;rw[←e0,Option.some.inj v0]
  rw[Zm8,ed,ed]
  congr 1;funext a b
  exact(ZnE a b _ _).symm
 rw[key]
 exact ZiV _
theorem Zgd (n:ZaQ) (q:Zde) (l:List ZbT) (i:Nat): (((l.map (Zco n q))[i]?).getD c0).1=((l[i]?).getD c0).1∧(((l.map (Zco n q))[i]?).getD c0).2.1=((l[i]?).getD c0).2.1∧(((l.map (Zco n q))[i]?).getD c0).2.2.1=((l[i]?).getD c0).2.2.1:=by
 rw[List.getElem?_map]
 cases l[i]? with
 |none=>exact⟨rfl,rfl,rfl⟩
 |some c=>
  simp only[Option.map_some,Option.getD_some]
  unfold Zco
  split<;>exact⟨rfl,rfl,rfl⟩
theorem Zku (n:ZaQ) (q:Zde) (l:List ZbT) (k lo hi:Int):ZdF (l.map (Zco n q)) k lo hi=ZdF l k lo hi:=by
 have h:Zg4 (l.map (Zco n q)) k lo hi=Zg4 l k lo hi:=by
  funext i
  obtain⟨a1,a2,a3⟩:=Zgd n q l i
  obtain⟨b1,b2,b3⟩:=Zgd n q l (i - 1)
  unfold Zg4 Zjk ZiJ ZjH
  rw[a1,a2,a3,b1,b3]
 unfold ZdF
 rw[List.length_map,h]
theorem ZoO (n:ZaQ) (q:Zde) (a:Int): (rn (Za6 n q) a).2.2.2.2.2.2.2.1=(rn n a).2.2.2.2.2.2.2.1.map (Zco n q):=by
 unfold rn
 show (((n.2.2.1.map (Zcn n q))[a.toNat]?).getD u0).2.2.2.2.2.2.2.1=_
 rw[List.getElem?_map]
 cases n.2.2.1[a.toNat]? <;>rfl
theorem ZjQ (n:ZaQ) (q:Zde) (i:Nat):ZbO (Za6 n q) i=ZbO n i:=by
 have hlen: (Za6 n q).2.2.1.length=n.2.2.1.length:=List.length_map ..
 unfold ZbO ZkL ZmA
 simp only[ZoO,List.length_map,hlen]
 have hcl: ∀ (l:List ZbT) (x:Int),(cl (l.map (Zco n q)) x).1=(cl l x).1:=fun l x=>(Zgd n q l _).1
 simp only[hcl]
 rfl
theorem Zl5 (n:ZaQ) (q:Zde) {i:Nat} (hi:i<n.2.2.1.length):Zip (Za6 n q) i=Zip n i:=by
 have hg: ∀j,j<n.2.2.1.length→((Za6 n q).2.2.1[j]?).getD u0=Zcn n q ((n.2.2.1[j]?).getD u0):=by
  intro j hj
  show ((n.2.2.1.map (Zcn n q))[j]?).getD u0=_
  rw[List.getElem?_map,List.getElem?_eq_getElem hj];rfl
 unfold Zip
 rw[hg i hi]
 have hd: (∃j,j<i∧runK (((Za6 n q).2.2.1[j]?).getD u0)=runK (Zcn n q ((n.2.2.1[i]?).getD u0)))↔ ∃j,j<i∧runK ((n.2.2.1[j]?).getD u0)=runK ((n.2.2.1[i]?).getD u0):=by
  constructor
  ·rintro ⟨j,hj,e⟩
   rw[hg j (by omega)] at e
   exact⟨j,hj,e⟩
  ·rintro ⟨j,hj,e⟩
   refine⟨j,hj, ?_⟩
   rw[hg j (by omega)]
   exact e
 have hcE:ZdF (Zcn n q ((n.2.2.1[i]?).getD u0)).2.2.2.2.2.2.2.1 ((Za6 n q).1.length:Int) 0 3155932800=ZdF ((n.2.2.1[i]?).getD u0).2.2.2.2.2.2.2.1 (n.1.length:Int) 0 3155932800:=Zku n q _ _ _ _
 simp only[hcE,hd]
 rfl
theorem Zg1 {n:ZaQ} (q:Zde) (hp:n.2.2.2.2.1.length≤4096) (h:Whole n):Whole (Za6 n q):=by
 have hlen: (Za6 n q).2.2.1.length=n.2.2.1.length:=List.length_map ..
 have hP: (∀i,i< (Zdg n q).length→Zbl n.1.length (Zdg n q) i=0)∧ ∀c,F57 (Zdg n q) (n.1.length:Int)=some c→Zbk c (Zdg n q)=true:=by
  unfold Zdg
  split
  ·exact ZkA h.sound.stops hp (Zay.1 h.q) h.w
  ·exact⟨Zay.1 h.q,h.w⟩
 refine⟨h.s,h.t,by rw[hlen];exact h.u, ?_,h.v, ?_,Zay.2 hP.1,hP.2,h.z⟩
 ·rw[hlen]
  exact Zay.2 fun i hi=>by rw[Zl5 n q hi];exact Zay.1 h.f i hi
 ·exact Zay.2 fun i hi=>by rw[ZjQ];exact Zay.1 h.g i hi
theorem Zjf {n:ZaQ} (q:Zde) (h:Fit n):Fit (Za6 n q):=by
 refine⟨h.stops,h.routes, ?_, ?_, ?_,h.prods⟩
 ·intro r hr
  obtain⟨x,hx,rfl⟩:=List.mem_map.1 (show r∈n.2.2.1.map (Zcn n q) from hr)
  exact h.runs x hx
 ·intro r hr
  obtain⟨x,hx,rfl⟩:=List.mem_map.1 (show r∈n.2.2.1.map (Zcn n q) from hr)
  show (x.2.2.2.2.2.2.2.1.map _).length≤_
  rw[List.length_map]
  exact h.calls x hx
 ·show (Zdg n q).length≤_
  unfold Zdg
  split
  ·exact Nat.le_trans (List.length_filter_le _ _) h.paths
  ·exact h.paths
end Q
namespace Q
open Tr Go
open Option (bind_some)
abbrev Zc3:=Bool×Int×Int×Int×Int×Int×Int×Int×Bool×Unit
theorem Zhj {n:ZaQ} (h:Zfv n) {a:Int} (h0:0≤a) (h1:a< (n.1.length:Int)):idx n.1 a=some (ZdS n a)∧0≤(ZdS n a).2.1∧(ZdS n a).2.1<16:=by
 have hi:inR a n.1.length=true:=by unfold inR;rw[decide_eq_true h0,decide_eq_true h1];rfl
 refine⟨Zb6 hi s0, ?_⟩
 have hl:a.toNat<n.1.length:=by omega
 unfold ZdS
 rw[Zah hl]
 exact h.zone _ (List.getElem_mem hl)
def g0:Zc3:=(false,0,0,0,0,0,0,0,false,())
end Q
namespace Q
open Tr Go
open Option (bind_some)
end Q
namespace Q
open Tr Go
open Option (bind_some)
end Q
namespace Q
open Tr Go
open Option (bind_some)
def ZaC (n:ZaQ) (i:Nat):List ZbT:=(rn n (i:Int)).2.2.2.2.2.2.2.1
def Zac (n:ZaQ) (i c:Nat):ZbT:=cl (ZaC n i) (c:Int)
def ZbX (n:ZaQ) (i:Nat):Bool:=(rn n (i:Int)).2.2.2.2.2.2.1
def ZoJ (s t a b:Int):Zc3:=(false,0,0,0,s,t,a,b,false,())
def Zrz (n:ZaQ) (i b c:Nat) (st:Bool):Zc3:=(true,(i:Int),(b:Int),(c:Int),(Zac n i b).1,(Zac n i c).1,(Zac n i b).2.2.1,(Zac n i c).2.1,st,())
def isLink (n:ZaQ) (i c j d:Nat) (st:Bool):Prop:=((i:Int),(c:Int),(j:Int),(d:Int),st,())∈n.2.2.2.1
structure Zfz (n:ZaQ):Prop where
 sound:Zfv n
 change: ∀s:Int,0≤s→s< (n.1.length:Int)→0≤(ZdS n s).2.2.2.1∧(ZdS n s).2.2.2.1≤3600
 path: ∀p∈n.2.2.2.2.1,(0≤p.1∧p.1< (n.1.length:Int))∧(0≤p.2.1∧p.2.1< (n.1.length:Int))∧p.1≠p.2.1∧1≤p.2.2.1∧p.2.2.1≤14400
 link: ∀x∈n.2.2.2.1, ∃ (i c j d:Nat) (st:Bool),x=((i:Int),(c:Int),(j:Int),(d:Int),st,())∧i<n.2.2.1.length∧j<n.2.2.1.length∧i≠j∧c< (ZaC n i).length∧d< (ZaC n j).length∧
  (Zac n i c).1=(Zac n j d).1∧(st=true→c+1=(ZaC n i).length∧d=0)
theorem Za8 {n:ZaQ} {i:Nat} (hi:i<n.2.2.1.length):ZaC n i=(n.2.2.1[i]).2.2.2.2.2.2.2.1:=by unfold ZaC rn;rw[Int.toNat_natCast,Zah hi]
theorem Zcb {n:ZaQ} {i c:Nat} (hc:c< (ZaC n i).length):Zac n i c=(ZaC n i)[c]:=by unfold Zac cl;rw[Int.toNat_natCast,Zah hc]
theorem ZlJ {n:ZaQ} {i:Nat} (h:ZbO n i=0): (cl (rn n (lk n i).1).2.2.2.2.2.2.2.1 (lk n i).2.1).1=(cl (rn n (lk n i).2.2.1).2.2.2.2.2.2.2.1 (lk n i).2.2.2.1).1∧
  ((lk n i).2.2.2.2.1=true→(lk n i).2.1+1=((rn n (lk n i).1).2.2.2.2.2.2.2.1.length:Int)∧(lk n i).2.2.2.1=0):=by
 unfold ZbO at h
 simp only at h
 by_cases b1:ZkL n (lk n i)=true
 ·rw[if_pos b1] at h;omega
 rw[if_neg b1] at h
 by_cases b2:ZmA n (lk n i)=true
 ·rw[if_pos b2] at h;omega
 rw[if_neg b2] at h
 split at h
 ·omega
 split at h
 ·omega
 split at h
 ·omega
 next h1 h2 h3=>
  refine⟨Decidable.not_not.1 h1,fun hs=>⟨?_, ?_⟩⟩
  ·exact Decidable.not_not.1 fun e=>h2 ⟨hs,e⟩
  ·exact Decidable.not_not.1 fun e=>h3 ⟨hs,e⟩
theorem Whole.ok {n:ZaQ} (h:Whole n):Zfz n:=by
 refine⟨h.sound,fun s h0 h1=> ?_,fun p hp=> ?_,fun x hx=> ?_⟩
 ·have s0:=h.s
  unfold ZfX at s0
  split at s0
  ·exact absurd s0 (by decide)
  obtain⟨j,rfl⟩: ∃j:Nat,s=(j:Int):=⟨s.toNat,by omega⟩
  have hj:j<n.1.length:=by omega
  have hz:=ZgZ s0 j hj
  unfold ZeZ at hz
  have:=(Zb3.1 hz).2.2
  unfold ZdS
  rw[Int.toNat_natCast]
  generalize hg: (n.1[j]?).getD Q.s0=y at*
  have e: (n.1[j]?).getD ([],0,false,0,())=y:=by rw[←hg];rfl
  rw[e] at this
  omega
 ·obtain⟨j,hj,rfl⟩:=List.getElem_of_mem hp
  obtain⟨h1,h2,_⟩:=Zb1 (Zay.1 h.q j hj)
  rw[Zah hj] at h1 h2
  unfold ZcM at h1
  unfold ZcP at h2
  simp only[Bool.or_eq_false_iff,Bool.not_eq_false',decide_eq_false_iff_not,decide_eq_true_eq] at h1 h2
  omega
 ·obtain⟨j,hj,rfl⟩:=List.getElem_of_mem hx
  have hz:=Zay.1 h.g j hj
  obtain⟨h1,h2,_⟩:=ZfA hz
  obtain⟨h3,h4⟩:=ZlJ hz
  have e:lk n j=n.2.2.2.1[j]:=by unfold lk;rw[Zah hj]
  rw[e] at h1 h2 h3 h4
  generalize n.2.2.2.1[j]=x at*
  unfold ZkL at h1
  unfold ZmA at h2
  unfold inR at h1 h2
  simp only[Bool.or_eq_false_iff,Bool.not_eq_false',decide_eq_false_iff_not,Bool.and_eq_true,decide_eq_true_eq] at h1 h2
  obtain⟨x1,x2,x3,x4,x5,x6⟩:=x
  simp only at h1 h2 h3 h4
  obtain⟨i,rfl⟩: ∃i:Nat,x1=(i:Int):=⟨x1.toNat,by omega⟩
  obtain⟨c,rfl⟩: ∃i:Nat,x2=(i:Int):=⟨x2.toNat,by omega⟩
  obtain⟨k,rfl⟩: ∃i:Nat,x3=(i:Int):=⟨x3.toNat,by omega⟩
  obtain⟨d,rfl⟩: ∃i:Nat,x4=(i:Int):=⟨x4.toNat,by omega⟩
  refine⟨i,c,k,d,x5,rfl,by omega,by omega,by omega, ?_, ?_,h3,fun hs=> ?_⟩
  ·unfold ZaC;omega
  ·unfold ZaC;omega
  ·obtain⟨a,b⟩:=h4 hs
   unfold ZaC
   omega
theorem Zfz.isLink {n:ZaQ} (h:Zfz n) {i c j d:Nat} {st:Bool} (hl:isLink n i c j d st):i<n.2.2.1.length∧j<n.2.2.1.length∧i≠j∧c< (ZaC n i).length∧d< (ZaC n j).length∧(Zac n i c).1=(Zac n j d).1∧(st=true→c+1=(ZaC n i).length∧d=0):=by
 obtain⟨i',c',j',d',st',e,h1⟩:=h.link _ hl
 simp only[Prod.mk.injEq,Int.natCast_inj] at e
 obtain⟨rfl,rfl,rfl,rfl,rfl,_⟩:=e
 exact h1
theorem Zfz.stop {n:ZaQ} (h:Zfz n) {i c:Nat} (hi:i<n.2.2.1.length) (hc:c< (ZaC n i).length):0≤(Zac n i c).1∧(Zac n i c).1< (n.1.length:Int):=by
 rw[Zcb hc]
 refine h.sound.call _ (List.getElem_mem hi) _ ?_
 simp only[Za8 hi]
 exact List.getElem_mem _
theorem Zfz.time {n:ZaQ} (h:Zfz n) {i c:Nat} (hi:i<n.2.2.1.length) (hc:c< (ZaC n i).length):0≤(Zac n i c).2.1∧(Zac n i c).2.1≤(Zac n i c).2.2.1∧(Zac n i c).2.2.1≤3155932800:=by
 have ht:=h.sound.time _ (List.getElem_mem hi)
 rw[Zcb hc]
 simp only[Za8 hi] at hc ⊢
 have:=ht c hc
 omega
inductive Zl0 where
 |rdy (k:Nat) (s r:Int)
 |brd (k:Nat) (i c:Nat) (st:Bool)
 |lnk (k:Nat) (i c:Nat)
 |on (k:Nat) (i c:Nat)
 |rid (k:Nat) (s t:Int)
 |arr (k:Nat) (s t:Int)
inductive Der (n:ZaQ) (s0 t0 w:Int):Zl0→List Zc3→Prop
 |init:Der n s0 t0 w (.rdy 0 s0 (t0+w)) []
 |here:Der n s0 t0 w (.arr 0 s0 t0) []
 |rdyW {p:Zb4} :p∈n.2.2.2.2.1→p.1=s0→t0+p.2.2.1≤3155932800→Der n s0 t0 w (.rdy 0 p.2.1 (t0+p.2.2.1)) [ZoJ s0 p.2.1 t0 (t0+p.2.2.1)]
 |arrW {p:Zb4} :p∈n.2.2.2.2.1→p.1=s0→t0+p.2.2.1≤3155932800→Der n s0 t0 w (.arr 0 p.2.1 (t0+p.2.2.1)) [ZoJ s0 p.2.1 t0 (t0+p.2.2.1)]
 |board {k:Nat} {s r:Int} {js:List Zc3} {i c:Nat} :Der n s0 t0 w (.rdy k s r) js→i<n.2.2.1.length→c< (ZaC n i).length→ZbX n i=false→(Zac n i c).1=s→(Zac n i c).2.2.2.1=true→r≤(Zac n i c).2.2.1→Der n s0 t0 w (.brd (k+1) i c false) js
 |on {k i b c:Nat} {st:Bool} {js:List Zc3} :Der n s0 t0 w (.brd k i b st) js→b<c→c< (ZaC n i).length→Der n s0 t0 w (.on k i c) (js++[Zrz n i b c st])
 |stay {k i c j d:Nat} {js:List Zc3} :Der n s0 t0 w (.on k i c) js→isLink n i c j d true→(Zac n i c).2.1≤(Zac n j d).2.2.1→ZbX n j=false→Der n s0 t0 w (.brd k j d true) js
 |link {k i c j d:Nat} {js:List Zc3} :Der n s0 t0 w (.on k i c) js→(Zac n i c).2.2.2.2.1=true→isLink n i c j d false→(Zac n i c).2.1≤(Zac n j d).2.2.1→(Zac n j d).2.2.2.1=true→Der n s0 t0 w (.lnk (k+1) j d) js
 |linked {k j d:Nat} {js:List Zc3} :Der n s0 t0 w (.lnk k j d) js→ZbX n j=false→Der n s0 t0 w (.brd k j d false) js
 |ride {k i c:Nat} {js:List Zc3} :Der n s0 t0 w (.on k i c) js→(Zac n i c).2.2.2.2.1=true→Der n s0 t0 w (.rid k (Zac n i c).1 (Zac n i c).2.1) js
 |change {k:Nat} {s t:Int} {js:List Zc3} :Der n s0 t0 w (.rid k s t) js→Der n s0 t0 w (.rdy k s (t+(ZdS n s).2.2.2.1)) js
 |rdyV {k:Nat} {s t:Int} {js:List Zc3} {p:Zb4} :Der n s0 t0 w (.rid k s t) js→p∈n.2.2.2.2.1→p.1=s→t+p.2.2.1≤3155932800→Der n s0 t0 w (.rdy k p.2.1 (t+p.2.2.1)) (js++[ZoJ s p.2.1 t (t+p.2.2.1)])
 |arrR {k:Nat} {s t:Int} {js:List Zc3} :Der n s0 t0 w (.rid k s t) js→Der n s0 t0 w (.arr k s t) js
 |arrV {k:Nat} {s t:Int} {js:List Zc3} {p:Zb4} :Der n s0 t0 w (.rid k s t) js→p∈n.2.2.2.2.1→p.1=s→t+p.2.2.1≤3155932800→Der n s0 t0 w (.arr k p.2.1 (t+p.2.2.1)) (js++[ZoJ s p.2.1 t (t+p.2.2.1)])
def Zl0.ok (n:ZaQ):Zl0→Prop
 | .rdy _ s r=>(0≤s∧s< (n.1.length:Int))∧0≤r∧r≤3155932800+3600
 | .brd k i c _=>0<k∧i<n.2.2.1.length∧c< (ZaC n i).length∧ZbX n i=false
 | .lnk k i c=>0<k∧i<n.2.2.1.length∧c< (ZaC n i).length
 | .on k i c=>0<k∧i<n.2.2.1.length∧c< (ZaC n i).length∧ZbX n i=false
 | .rid k s t=>0<k∧(0≤s∧s< (n.1.length:Int))∧0≤t∧t≤3155932800
 | .arr _ s t=>(0≤s∧s< (n.1.length:Int))∧0≤t∧t≤3155932800
theorem Der.ok {n:ZaQ} (h:Zfz n) {s0 t0 w:Int} (hs:0≤s0∧s0< (n.1.length:Int)) (ht:0≤t0∧t0≤3155932800) (hw:0≤w∧w≤3600) {f:Zl0} {js:List Zc3} (d:Der n s0 t0 w f js):f.ok n:=by
 induction d with
 |init=>exact⟨hs,by omega,by omega⟩
 |here=>exact⟨hs,ht⟩
 |rdyW hp _ hm=>have:=h.path _ hp;exact⟨this.2.1,by omega,by omega⟩
 |arrW hp _ hm=>have:=h.path _ hp;exact⟨this.2.1,by omega,by omega⟩
 |board _ hi hc hx _ _ _ _=>exact⟨Nat.succ_pos _,hi,hc,hx⟩
 |on _ _ hc ih=>exact⟨ih.1,ih.2.1,hc,ih.2.2.2⟩
 |stay _ hl _ hx ih=>have:=h.isLink hl;exact⟨ih.1,this.2.1,this.2.2.2.2.1,hx⟩
 |link _ _ hl _ _ _=>have:=h.isLink hl;exact⟨Nat.succ_pos _,this.2.1,this.2.2.2.2.1⟩
 |linked _ hx ih=>exact⟨ih.1,ih.2.1,ih.2.2,hx⟩
 |ride _ _ ih=>
  have:=h.time ih.2.1 ih.2.2.1
  exact⟨ih.1,h.stop ih.2.1 ih.2.2.1,by omega,by omega⟩
 |change _ ih=>have:=h.change _ ih.2.1.1 ih.2.1.2;exact⟨ih.2.1,by have:=ih.2.2;omega,by have:=ih.2.2;omega⟩
 |rdyV _ hp _ hm ih=>have:=h.path _ hp;exact⟨this.2.1,by have:=ih.2.2;omega,by omega⟩
 |arrR _ ih=>exact ih.2
 |arrV _ hp _ hm ih=>have:=h.path _ hp;exact⟨this.2.1,by have:=ih.2.2;omega,by omega⟩
abbrev ZnR:=Zc3×Int×Unit
inductive Ch (lb:List ZnR):Int→List Zc3→Prop
 |nil:Ch lb (-1) []
 |cons {l:Nat} {x:Zc3} {p:Int} {js:List Zc3} :lb[l]? =some (x,p,())→p< (l:Int)→Ch lb p js→Ch lb (l:Int) (js++[x])
theorem Ch.lt {lb:List ZnR} {l:Int} {js:List Zc3} (h:Ch lb l js): -1≤l∧l< (lb.length:Int):=by
 cases h with
 |nil=>omega
 |cons h _ _=>
  have:=(List.getElem?_eq_some_iff.1 h).1
  omega
theorem Ch.app {lb:List ZnR} {l:Int} {js:List Zc3} (h:Ch lb l js) (m:List ZnR):Ch (lb++m) l js:=by
 induction h with
 |nil=>exact .nil
 |cons h1 h2 _ ih=>
  have hl:=(List.getElem?_eq_some_iff.1 h1).1
  exact .cons (by rw[List.getElem?_append_left hl];exact h1) h2 ih
theorem Ch.new {lb:List ZnR} {p:Int} {js:List Zc3} (h:Ch lb p js) (x:Zc3):Ch (lb++[(x,p,())]) (lb.length:Int) (js++[x]):=
 .cons (by simp) h.lt.2 (h.app _)
end Q
namespace Q
open Tr Go
open Option (bind_some)
end Q
namespace Q
open Tr Go
open Option (bind_some)
variable {n:ZaQ} {q:Zde}
theorem ZqG {a m:Nat} :inR (a:Int) m=true↔a<m:=by
 unfold inR
 rw[Bool.and_eq_true,decide_eq_true_eq,decide_eq_true_eq]
 omega
theorem ZnK {a:Int} {m:Nat} :inR a m=true↔0≤a∧a< (m:Int):=by
 unfold inR
 rw[Bool.and_eq_true,decide_eq_true_eq,decide_eq_true_eq]
end Q
namespace Q
open Tr Go
open Option (bind_some)
variable {n:ZaQ} {q:Zde}
end Q
namespace Q
open Tr Go
open Option (bind_some)
abbrev ZcR:=Int×Int×Int×Int×Int×Int×Unit
def ZqW (a b:ZcR):Int:=
 if a.2.2.2.2.1<b.2.2.2.2.1 then -1 else if b.2.2.2.2.1<a.2.2.2.2.1 then 1 else
 if a.2.2.2.2.2.1<b.2.2.2.2.2.1 then -1 else if b.2.2.2.2.2.1<a.2.2.2.2.2.1 then 1 else
 if a.1<b.1 then -1 else if b.1<a.1 then 1 else
 if a.2.1<b.2.1 then -1 else if b.2.1<a.2.1 then 1 else 0
def ltC (a b:ZcR):Prop:=a.2.2.2.2.1<b.2.2.2.2.1∨(a.2.2.2.2.1=b.2.2.2.2.1∧(a.2.2.2.2.2.1<b.2.2.2.2.2.1∨(a.2.2.2.2.2.1=b.2.2.2.2.2.1∧(a.1<b.1∨(a.1=b.1∧a.2.1<b.2.1)))))
theorem Zp2 (a b:ZcR):ZqW a b<0↔ltC a b:=by
 unfold ZqW ltC
 (repeat' split)<;>omega
theorem ZoY (a b:ZcR):0<ZqW a b↔ltC b a:=by
 unfold ZqW ltC
 (repeat' split)<;>omega
theorem Zqw {α:Type} (p:Prop) [Decidable p] (x y:α): (bif decide p then x else y)=if p then x else y:=by
 by_cases h:p<;>simp [h]
theorem Zkc (a b:ZcR):F5 a b=some (ZqW a b):=by
 unfold F5 ZqW
 have w1:IntKind.wrap .i64 (0+1:Int)=1:=by decide
 have w2:IntKind.wrap .i64 (1+1:Int)=2:=by decide
 have w3:IntKind.wrap .i64 (2+1:Int)=3:=by decide
 have w4:IntKind.wrap .i64 (3+1:Int)=4:=by decide
 simp only[Zqw]
 rw[Zbg]
 simp only[show (0:Int)<4 by decide,if_true,idx,show (0:Int)≤0 by decide,Int.toNat_zero,List.getElem?_cons_zero,bind_some,Int.toNat_one,List.getElem?_cons_succ,w1]
 by_cases h1:a.2.2.2.2.1<b.2.2.2.2.1
 ·simp [h1]
 by_cases h2:b.2.2.2.2.1<a.2.2.2.2.1
 ·simp [h1,h2]
 simp only[h1,h2,if_false,bind_some,Sum.elim_inl]
 rw[Zbg]
 simp only[show (1:Int)<4 by decide,if_true,show (0:Int)≤1 by decide,List.getElem?_cons_zero,bind_some,Int.toNat_one,List.getElem?_cons_succ,w2]
 by_cases h3:a.2.2.2.2.2.1<b.2.2.2.2.2.1
 ·simp [h3]
 by_cases h4:b.2.2.2.2.2.1<a.2.2.2.2.2.1
 ·simp [h3,h4]
 simp only[h3,h4,if_false,bind_some,Sum.elim_inl]
 rw[Zbg]
 simp only[show (2:Int)<4 by decide,if_true,show (0:Int)≤2 by decide,List.getElem?_cons_zero,bind_some,show Int.toNat 2=2 by decide,List.getElem?_cons_succ,w3]
 by_cases h5:a.1<b.1
 ·simp [h5]
 by_cases h6:b.1<a.1
 ·simp [h5,h6]
 simp only[h5,h6,if_false,bind_some,Sum.elim_inl]
 rw[Zbg]
 simp only[show (3:Int)<4 by decide,if_true,show (0:Int)≤3 by decide,List.getElem?_cons_zero,bind_some,show Int.toNat 3=3 by decide,List.getElem?_cons_succ,w4]
 by_cases h7:a.2.1<b.2.1
 ·simp [h7]
 by_cases h8:b.2.1<a.2.1
 ·simp [h7,h8]
 simp only[h7,h8,if_false,bind_some,Sum.elim_inl]
 rw[Zbg]
 simp
def Zhb (i:Nat) (l:List ZbT) (c:Nat):ZcR:=((i:Int),(c:Int),((l[c]?).getD c0).1,((l[c+1]?).getD c0).1,((l[c]?).getD c0).2.2.1,((l[c+1]?).getD c0).2.1,())
def ZjX (i:Nat) (l:List ZbT) (m:Nat):List ZcR:=(List.range m).map (Zhb i l)
def ZmB (i:Nat) (x:Zhf):List ZcR:=if x.2.2.2.2.2.2.1=true then [] else ZjX i x.2.2.2.2.2.2.2.1 (x.2.2.2.2.2.2.2.1.length - 1)
def Zhc (n:ZaQ) (k:Nat):List ZcR:=(List.range k).flatMap fun i=>ZmB i ((n.2.2.1[i]?).getD u0)
theorem ZnG (i:Nat) (l:List ZbT) (m:Nat):ZjX i l (m+1)=ZjX i l m++[Zhb i l m]:=by
 unfold ZjX
 rw[List.range_succ,List.map_append];rfl
theorem ZgA (n:ZaQ) (k:Nat):Zhc n (k+1)=Zhc n k++ZmB k ((n.2.2.1[k]?).getD u0):=by
 unfold Zhc
 rw[List.range_succ,List.flatMap_append];simp
theorem Zix {i:Nat} {x:Zhf} {c:ZcR} (h:c∈ZmB i x):x.2.2.2.2.2.2.1=false∧ ∃k,k+1<x.2.2.2.2.2.2.2.1.length∧c=Zhb i x.2.2.2.2.2.2.2.1 k:=by
 unfold ZmB at h
 split at h
 ·simp at h
 ·next hc=>
  unfold ZjX at h
  obtain⟨k,hk,rfl⟩:=List.mem_map.1 h
  rw[List.mem_range] at hk
  exact⟨by simpa using hc,k,by omega,rfl⟩
theorem Zpt {i:Nat} {x:Zhf} (h:x.2.2.2.2.2.2.2.1.length≤32): (ZmB i x).length≤31:=by
 unfold ZmB
 split
 ·simp
 ·simp [ZjX];omega
theorem Zla {α:Type} {l:List α} {i:Nat} (h:i<l.length) (d:α): (l[i]?).getD d∈l:=by
 rw[List.getElem?_eq_getElem h];exact List.getElem_mem h
theorem ZkR {n:ZaQ} (h:Zfv n): ∀k,k≤n.2.2.1.length→(Zhc n k).length≤31*k
 |0,_=>by simp [Zhc]
 |k+1,hk=>by
  rw[ZgA,List.length_append]
  have:=ZkR h k (by omega)
  have:=Zpt (i:=k) (h.many _ (Zla (show k<n.2.2.1.length by omega) u0)).2
  omega
theorem Zqo {i:Nat} {x:Zhf} (h:Zqh x.2.2.2.2.2.2.2.1): (ZmB i x).Pairwise ltC:=by
 unfold ZmB
 split
 ·exact .nil
 ·unfold ZjX
  rw[List.pairwise_map]
  refine List.Pairwise.imp_of_mem ?_ List.pairwise_lt_range
  intro a b ha hb hab
  rw[List.mem_range] at ha hb
  generalize hl:x.2.2.2.2.2.2.2.1=l at*
  have step: ∀k (hk:k+1<l.length),((l[k]?).getD c0).2.2.1≤((l[k+1]?).getD c0).2.1∧((l[k+1]?).getD c0).2.1≤((l[k+1]?).getD c0).2.2.1:=by
   intro k hk
   have t:=h (k+1) hk
   have t2:=t.2.2.2 (by omega)
   rw[Zah hk,Zah (show k<l.length by omega)]
   have e:l[k+1 - 1]'(by omega)=l[k]:=rfl
   rw[e] at t2
   exact⟨t2.2,t.2.1⟩
  have mono: ∀d k,k+d+1<l.length→((l[k]?).getD c0).2.2.1≤((l[k+d]?).getD c0).2.2.1∧((l[k+1]?).getD c0).2.1≤((l[k+d+1]?).getD c0).2.1:=by
   intro d
   induction d with
   |zero=>exact fun k hk=>⟨Int.le_refl _,Int.le_refl _⟩
   |succ d ih=>
    intro k hk
    have h1:=ih k (by omega)
    have h2:=step (k+d) (by omega)
    have h3:=step (k+d+1) (by omega)
    refine⟨?_, ?_⟩
    ·show _≤((l[k+d+1]?).getD c0).2.2.1
     omega
    ·show _≤((l[k+d+1+1]?).getD c0).2.1
     omega
  have m:=mono (b - a) a (by omega)
  rw[show a+(b - a)=b by omega] at m
  show ((l[a]?).getD c0).2.2.1< ((l[b]?).getD c0).2.2.1∨(((l[a]?).getD c0).2.2.1=((l[b]?).getD c0).2.2.1∧(((l[a+1]?).getD c0).2.1< ((l[b+1]?).getD c0).2.1∨(((l[a+1]?).getD c0).2.1=((l[b+1]?).getD c0).2.1∧((i:Int)< (i:Int)∨((i:Int)=(i:Int)∧(a:Int)< (b:Int))))))
  obtain⟨m1,m2⟩:=m
  generalize ((l[a]?).getD c0).2.2.1=w1 at*
  generalize ((l[b]?).getD c0).2.2.1=w2 at*
  generalize ((l[a+1]?).getD c0).2.1=w3 at*
  generalize ((l[b+1]?).getD c0).2.1=w4 at*
  omega
theorem Zm3 {n:ZaQ} (h:Zfv n): ∀k,k≤n.2.2.1.length→(Zhc n k).Pairwise fun a b=>ltC a b∨ltC b a:=by
 intro k hk
 unfold Zhc
 rw[List.pairwise_flatMap]
 refine⟨fun i hi=> ?_, ?_⟩
 ·rw[List.mem_range] at hi
  exact(Zqo (h.time _ (Zla (show i<n.2.2.1.length by omega) u0))).imp fun h=> .inl h
 ·refine List.Pairwise.imp ?_ List.pairwise_lt_range
  intro a b hab x hx y hy
  obtain⟨_,p,_,rfl⟩:=Zix hx
  obtain⟨_,q,_,rfl⟩:=Zix hy
  have key: ∀u v:ZcR,u.1<v.1→ltC u v∨ltC v u:=fun u v h=>by unfold ltC;omega
  exact key _ _ (show ((a:Nat):Int)< ((b:Nat):Int) by omega)
theorem Zql (a:ZcR): ¬ltC a a:=by unfold ltC;omega
theorem Zrh {a b c:ZcR} (h1:ltC a b) (h2:ltC b c):ltC a c:=by unfold ltC at*;omega
theorem ZrM {α:Type} {o:Option α} {z:α} (h: ∃r,o=some r∧r=z):o=some z:=by
 obtain⟨r,rfl,rfl⟩:=h;rfl
theorem ZnI       {i : Nat} {x : Zhf } (hl : x.2.2.2.2.2.2.2.1.length ≤ 32) (h1 : 1 ≤ x.2.2.2.2.2.2.2.1.length) {out : List ZcR  } (ho : out.length ≤ 100000) :
    run
 (fun s3 : List ZcR   × Int =>
 bif decide (s3.2 < IntKind.wrap .i64 ((↑(List.length x.2.2.2.2.2.2.2.1) : Int) - (1 : Int))) then
 Option.bind (idx x.2.2.2.2.2.2.2.1 s3.2) fun x4 =>
 Option.bind (idx x.2.2.2.2.2.2.2.1 (IntKind.wrap .i64 (s3.2 + (1 : Int)))) fun x5 =>
 Option.bind (Zar    (decide (List.length s3.1 + List.length [((i : Int), s3.2, x4.1, x5.1, x4.2.2.1, x5.2.1, ())] ≤ Zax   ))) fun _ =>
 some (.inl (s3.1 ++ [((i : Int), s3.2, x4.1, x5.1, x4.2.2.1, x5.2.1, ())], IntKind.wrap .i64 (s3.2 + (1 : Int))))
 else some (.inr s3.1))
 (out, (0 : Int)) = some (out ++ ZjX  i x.2.2.2.2.2.2.2.1 (x.2.2.2.2.2.2.2.1.length - 1)) := by
  generalize x.2.2.2.2.2.2.2.1 = l at *
  have e0 : IntKind.wrap .i64 ((l.length : Int) - 1) = ((l.length - 1 : Nat) : Int) := by rw [Zat      (by omega) (by omega)]; omega
  refine ZrM   (ZbD     (l.length - 1) _ (fun c (s : List ZcR   × Int) => s = (out ++ ZjX  i l c, (c : Int))) ?_ ?_ _ (by simp [ZjX ]))
  · rintro c s hc rfl
    left
    have hc1 : c + 1 < l.length := by omega
    refine ⟨(out ++ ZjX  i l (c + 1), ((c + 1 : Nat) : Int)), ?_, rfl⟩
    simp only [e0, ZaG    hc, cond_true, Zai     (show c < l.length by omega), bind_some, Zan       hc (show l.length - 1 ≤ 9223372036854775807 by omega), Zai     hc1]
    rw [Zbi       (by have : (ZjX  i l c).length = c := by simp [ZjX ]
                      simp; omega)]
    simp only [bind_some, ZnG      , Zhb  , Zah     hc1, Zah     (show c < l.length by omega), List.append_assoc]
  · rintro s rfl
    refine ⟨_, ?_, rfl⟩
    simp only [e0, ZaH    , cond_false]
theorem ZoL {n:ZaQ} {c:ZcR} (h:c∈Zhc n n.2.2.1.length): ∃i, ∃hi:i<n.2.2.1.length,(n.2.2.1[i]).2.2.2.2.2.2.1=false∧ ∃k,k+1< (n.2.2.1[i]).2.2.2.2.2.2.2.1.length∧c=Zhb i (n.2.2.1[i]).2.2.2.2.2.2.2.1 k:=by
 unfold Zhc at h
 obtain⟨i,hi,hc⟩:=List.mem_flatMap.1 h
 rw[List.mem_range] at hi
 rw[Zah hi] at hc
 exact⟨i,hi,Zix hc⟩
theorem ZoD {n:ZaQ} (hf:Fit n): ∃r,F36 n=some r∧F56 n=some r∧(r.2.2≠0→F6 n=some ([],21))∧
  (r.2.2=0→Zfv n∧ ∃ys:List ZcR,F6 n=some (ys,0)∧ys.Perm (Zhc n n.2.2.1.length)∧ys.Pairwise ltC):=by
 obtain⟨r,h1,h2,h3⟩:=Zmu n hf
 refine⟨r,h1,h2,fun hr=> ?_,fun hr=> ?_⟩
 ·unfold F6
  rw[h1]
  simp only[bind_some,decide_eq_false hr,Bool.not_false,cond_true]
 ·have hS:=h3 hr
  refine⟨hS, ?_⟩
  have hlen:=hS.runs
  have hcl:=ZkR hS
  obtain⟨ys,g1,g2,g3⟩:=Zjh (cmp:=F5) ltC (Zhc n n.2.2.1.length) (by have:=hcl _ (Nat.le_refl _);omega) (fun x _ y _=>⟨_,Zkc x y,Zp2 x y,ZoY x y⟩) (fun x _=>Zql x) (fun a _ b _ c _=>Zrh) (Zm3 hS _ (Nat.le_refl _))
  refine⟨ys, ?_,g2,g3⟩
  unfold F6
  rw[h1]
  simp only[bind_some,hr,decide_true,Bool.not_true,cond_false]
  refine Zd7 (fun r=>r=Zhc n n.2.2.1.length) (ZbD n.2.2.1.length _ (fun i (s:List ZcR×Int)=>s=(Zhc n i,(i:Int))) ?_ ?_ _ (by simp [Zhc])) ?_
  ·rintro i s hi rfl
   left
   have hx:=List.getElem_mem hi
   refine⟨(Zhc n (i+1),((i+1:Nat):Int)), ?_,rfl⟩
   have hlen2:=hcl i (by omega)
   simp only[ZaG hi,cond_true,Zai hi,bind_some,Zan hi (show n.2.2.1.length≤9223372036854775807 by omega),ZgA,Zah hi,ZmB]
   cases hc: (n.2.2.1[i]).2.2.2.2.2.2.1 with
   |true=>simp only[cond_true,if_true,List.append_nil]
   |false=>
    simp only[cond_false,Bool.false_eq_true,if_false]
    rw[ZnI (hS.many _ hx).2 (by have:=(hS.many _ hx).1;omega) (by omega)]
    rfl
  ·rintro s rfl
   refine⟨_, ?_,rfl⟩
   simp only[ZaH,cond_false]
  ·rintro _ rfl
   unfold F96
   rw[g1]
   rfl
theorem Znn {ys:List ZcR} (hs:ys.Pairwise ltC) {i j:Nat} (hij:i<j) (hj:j<ys.length):ltC (ys[i]'(by omega)) ys[j]:=List.pairwise_iff_getElem.1 hs i j (by omega) hj hij
theorem Zq5 {α:Type} {l:List α} {i:Nat} (h:i<l.length):idx l (i:Int)=some l[i]:=Zai h
theorem ZpH (n:Nat) (p:Nat→Bool) (h: ∀i j,i<j→j<n→p j=true→p i=true): ∃k,k≤n∧ ∀i,i<n→(p i=true↔i<k):=by
 induction n with
 |zero=>exact⟨0,Nat.le_refl _,fun i hi=>by omega⟩
 |succ n ih=>
  obtain⟨k,hk,h1⟩:=ih fun i j hij hj=>h i j hij (by omega)
  cases hp:p n with
  |true=>
   refine⟨n+1,Nat.le_refl _,fun i hi=>⟨fun _=>hi,fun _=> ?_⟩⟩
   by_cases e:i=n
   ·subst e;exact hp
   ·exact h i n (by omega) (by omega) hp
  |false=>
   refine⟨k,by omega,fun i hi=> ?_⟩
   by_cases e:i=n
   ·subst e;rw[hp];constructor
    ·intro h;exact absurd h (by decide)
    ·intro h;omega
   ·exact h1 i (by omega)
def Zhd (l:List ZcR) (i:Nat):Int:=((l[i]?).getD (0,0,0,0,0,0,())).2.2.2.2.1
theorem Zll {ys:List ZcR} (hs:ys.Pairwise ltC) {i j:Nat} (hij:i<j) (hj:j<ys.length):Zhd ys i≤Zhd ys j:=by
 have h:=Znn hs hij hj
 unfold Zhd
 rw[Zah hj,Zah (show i<ys.length by omega)]
 unfold ltC at h
 omega
theorem Zpb {lo hi:Nat} (h:lo<hi) (hn:hi≤1000000):IntKind.wrap .i64 (Int.tdiv (IntKind.wrap .i64 ((lo:Int)+(hi:Int))) (2:Int))=((lo+(hi - lo) / 2:Nat):Int):=by
 have e1:IntKind.wrap .i64 ((lo:Int)+(hi:Int))=((lo+hi:Nat):Int):=by rw[Zat (by omega) (by omega)];omega
 rw[e1,Int.tdiv_eq_ediv_of_nonneg (by omega),Zat (by omega) (by omega)]
 omega
theorem Znz {ys:List ZcR} (hs:ys.Pairwise ltC) (hl:ys.length≤1000000) (t:Int): ∃k,k≤ys.length∧F7 ys t=some (k:Int)∧ ∀i,i<ys.length→(Zhd ys i≤t↔i<k):=by
 obtain⟨k,hk,h1⟩:=ZpH ys.length (fun i=>decide (Zhd ys i≤t)) fun i j hij hj hp=>by
  have:=Zll hs hij hj
  simp only[decide_eq_true_eq] at hp ⊢
  omega
 simp only[decide_eq_true_eq] at h1
 refine⟨k,hk, ?_,h1⟩
 unfold F7 F9
 simp only
 rw[Zpc hk]
 ·rfl
 ·intro lo hi hlt hhi
  have hm:lo+(hi - lo) / 2<ys.length:=by omega
  have hd:=h1 _ hm
  unfold Zhd at hd
  rw[Zah hm] at hd
  simp only[decide_eq_true (show (lo:Int)< (hi:Int) by omega),cond_true,Zpb hlt (by omega),F8,Zq5 hm,bind_some]
  by_cases hc:lo+(hi - lo) / 2<k
  ·rw[if_pos hc,decide_eq_false (Int.not_lt.2 (hd.2 hc))]
   simp only[cond_false]
   rw[Zan hm (by omega)]
  ·rw[if_neg hc,decide_eq_true (Int.not_le.1 (mt hd.1 hc))]
   rfl
 ·intro lo
  simp only[ZaH,cond_false]
theorem Zqx {n:ZaQ} {i m:Nat} (hi:i<n.2.2.1.length) (hm:m+1< (ZaC n i).length) (hc:ZbX n i=false):Zhb i (ZaC n i) m∈Zhc n n.2.2.1.length:=by
 unfold Zhc
 refine List.mem_flatMap.2 ⟨i,List.mem_range.2 hi, ?_⟩
 rw[Zah hi]
 have e:ZaC n i=(n.2.2.1[i]).2.2.2.2.2.2.2.1:=Za8 hi
 have hc' : (n.2.2.1[i]).2.2.2.2.2.2.1=false:=by
  unfold ZbX rn at hc
  rw[Int.toNat_natCast,Zah hi] at hc
  exact hc
 unfold ZmB
 rw[if_neg (by rw[hc'];simp), ←e]
 unfold ZjX
 refine List.mem_map.2 ⟨m,List.mem_range.2 (by omega),rfl⟩
end Q
namespace Q
open Tr Go
open Option (bind_some)
abbrev ZdU:=Int×Int×Int×Int×Int×Unit
abbrev Zjy:=Int×Int×Bool×Unit
abbrev ScT:=ZaQ×Zde×List ZnR×List ZdU×List Zjy×List (List Int) ×Bool×Unit
structure Ctx (n:ZaQ) (s0 t0 w:Int):Prop where
 net:Zfz n
 stop:0≤s0∧s0< (n.1.length:Int)
 time:0≤t0∧t0≤3155932800
 wait:0≤w∧w≤3600
variable {n:ZaQ} {s0 t0 w:Int}
theorem Ctx.ok (C:Ctx n s0 t0 w) {f:Zl0} {js:List Zc3} (d:Der n s0 t0 w f js):f.ok n:=d.ok C.net C.stop C.time C.wait
def ZbI (old new:Int):Bool:=decide (old= -1) ||decide (new<old)
theorem ZeT (old new:Int): (bif decide (old=(-1:Int)) then some true else some (decide (new<old)))=some (ZbI old new):=by
 unfold ZbI
 cases decide (old=(-1:Int))<;>rfl
theorem ZbG {a b:Int} :ZbI a b=true↔a= -1∨b<a:=by
 unfold ZbI
 rw[Bool.or_eq_true,decide_eq_true_eq,decide_eq_true_eq]
theorem ZkF {a b:Int} (h:ZbI a b=false):a≠ -1∧a≤b:=by
 have: ¬ (a= -1∨b<a):=fun e=>by rw[ZbG.2 e] at h;cases h
 omega
theorem Zrq {a b t:Int} (hb:0≤b) (h:a≠ -1∧a≤t): (bif ZbI a b then b else a)≠ -1∧(bif ZbI a b then b else a)≤t:=by
 cases hl:ZbI a b with
 |false=>exact h
 |true=>
  have:=ZbG.1 hl
  simp only[cond_true]
  omega
theorem Zp0 {a b:Int} (hb:0≤b): (bif ZbI a b then b else a)≠ -1∧(bif ZbI a b then b else a)≤b:=by
 cases hl:ZbI a b with
 |true=>simp only[cond_true];omega
 |false=>simp only[cond_false];exact ZkF hl
theorem ZdW {α:Type} {l:List α} {i:Nat} {p:α} (h:l[i]? =some p) (g:α→α): (l.modify i g)[i]? =some (g p):=by
 rw[List.getElem?_modify,h];simp
theorem Zfg {α:Type} {l:List α} {i j:Nat} (e:i≠j) (g:α→α): (l.modify i g)[j]? =l[j]? :=by
 rw[List.getElem?_modify];simp [e]
theorem ZeN {α:Type} {l:List α} {i j:Nat} {g:α→α} {q:α} (h: (l.modify i g)[j]? =some q): ∃p,l[j]? =some p∧(i=j∧q=g p∨i≠j∧q=p):=by
 by_cases e:i=j
 ·subst e
  cases hp:l[i]? with
  |none=>rw[List.getElem?_modify,hp] at h;simp at h
  |some p=>rw[ZdW hp] at h;cases h;exact⟨p,rfl, .inl ⟨rfl,rfl⟩⟩
 ·rw[Zfg e] at h
  exact⟨q,h, .inr ⟨e,rfl⟩⟩
theorem Zeg {α:Type} {l:List α} {i:Nat} (h:i<l.length) (g:α→α):l.modify i g=l.set i (g l[i]):=by
 apply List.ext_getElem?
 intro j
 rw[List.getElem?_modify,List.getElem?_set]
 by_cases hj:i=j
 ·subst hj
  rw[List.getElem?_eq_getElem h]
  simp [h]
 ·simp [hj]
theorem Zlf {α:Type} {l:List α} {i j:Nat} {x y:α} (h: (l.set i x)[j]? =some y): (i=j∧y=x)∨l[j]? =some y:=by
 rw[List.getElem?_set] at h
 by_cases e:i=j
 ·rw[if_pos e] at h
  split at h
  ·exact .inl ⟨e,by simpa using h.symm⟩
  ·exact absurd h (by simp)
 ·rw[if_neg e] at h;exact .inr h
structure SP (D:Zl0→List Zc3→Prop) (lb:List ZnR) (s:Int) (p:ZdU):Prop where
 arr:p.1≠ -1→ ∃k js,Ch lb p.2.2.2.1 js∧D (.arr k s p.1) js
 rid:p.2.1≠ -1→ ∃k js,D (.rid k s p.2.1) js
 rdy:p.2.2.1≠ -1→ ∃k js,Ch lb p.2.2.2.2.1 js∧D (.rdy k s p.2.2.1) js
def SB (D:Zl0→List Zc3→Prop) (lb:List ZnR) (i:Nat) (b:Zjy):Prop:=b.1≠ -1→ ∃k, ∃c:Nat,b.1=(c:Int)∧ ∃js,Ch lb b.2.1 js∧D (.brd k i c b.2.2.1) js
structure Snd (D:Zl0→List Zc3→Prop) (f:ScT):Prop where
 pls: ∀ (s:Nat) p,f.2.2.2.1[s]? =some p→SP D f.2.2.1 (s:Int) p
 brd: ∀ (i:Nat) b,f.2.2.2.2.1[i]? =some b→SB D f.2.2.1 i b
variable {D:Zl0→List Zc3→Prop} {lb:List ZnR}
theorem SP.app {s:Int} {p:ZdU} (h:SP D lb s p) (m:List ZnR):SP D (lb++m) s p:=
 ⟨fun e=>let ⟨k,js,b,c⟩:=h.arr e;⟨k,js,b.app m,c⟩,h.rid,fun e=>let ⟨k,js,b,c⟩:=h.rdy e;⟨k,js,b.app m,c⟩⟩
theorem SB.app {i:Nat} {b:Zjy} (h:SB D lb i b) (m:List ZnR):SB D (lb++m) i b:=
 fun e=>let ⟨k,c,e1,js,b,d⟩:=h e;⟨k,c,e1,js,b.app m,d⟩
def LeA (l:List ZdU) (s:Nat) (t:Int):Prop:= ∃p,l[s]? =some p∧p.1≠ -1∧p.1≤t
def LeR (l:List ZdU) (s:Nat) (t:Int):Prop:= ∃p,l[s]? =some p∧p.2.1≠ -1∧p.2.1≤t
def LeY (l:List ZdU) (s:Nat) (t:Int):Prop:= ∃p,l[s]? =some p∧p.2.2.1≠ -1∧p.2.2.1≤t
def LeB (l:List Zjy) (i:Nat) (d:Int):Prop:= ∃b,l[i]? =some b∧b.1≠ -1∧b.1≤d
theorem LeA.weak {l:List ZdU} {s:Nat} {t u:Int} (h:LeA l s t) (e:t≤u):LeA l s u:=let ⟨p,a,b,c⟩:=h;⟨p,a,b,Int.le_trans c e⟩
theorem LeR.weak {l:List ZdU} {s:Nat} {t u:Int} (h:LeR l s t) (e:t≤u):LeR l s u:=let ⟨p,a,b,c⟩:=h;⟨p,a,b,Int.le_trans c e⟩
theorem LeY.weak {l:List ZdU} {s:Nat} {t u:Int} (h:LeY l s t) (e:t≤u):LeY l s u:=let ⟨p,a,b,c⟩:=h;⟨p,a,b,Int.le_trans c e⟩
def ZiC (V:List Int) (x:Int):Nat:=V.countP fun v=>ZbI x v
theorem ZnU (V:List Int) (x:Int):ZiC V x≤V.length:=List.countP_le_length
theorem ZmH {V:List Int} {x a:Int} (ha:0≤a) (hV:a∈V) (hl:ZbI x a=true):ZiC V a<ZiC V x:=by
 unfold ZiC
 induction V with
 |nil=>cases hV
 |cons v V ih=>
  have hm:V.countP (fun v=>ZbI a v)≤V.countP (fun v=>ZbI x v):=List.countP_mono_left fun u _ hu=>by
   have h1:=ZbG.1 hu
   have h2:=ZbG.1 hl
   exact ZbG.2 (by omega)
  rw[List.countP_cons,List.countP_cons]
  have h1:ZbI a a=false:=by
   cases e:ZbI a a with
   |false=>rfl
   |true=>have:=ZbG.1 e;omega
  rcases List.mem_cons.1 hV with rfl|hV
  ·rw[h1,hl]
   simp only[Bool.false_eq_true,if_false,if_true]
   omega
  ·have h3:=ih hV
   have h4:ZbI a v=true→ZbI x v=true:=fun e=>by
    have h1:=ZbG.1 e
    have h2:=ZbG.1 hl
    exact ZbG.2 (by omega)
   cases e:ZbI a v with
   |true=>rw[h4 e];simp only[if_true];omega
   |false=>simp only[Bool.false_eq_true,if_false];omega
def Zqj (b:Zjy):Nat:=if b.1= -1 then 40 else b.1.toNat
def ZiE (V:List Int) (l:List ZdU):Nat:=(l.map fun p=>ZiC V p.1+ZiC V p.2.2.1).sum
def Zkw (l:List Zjy):Nat:=(l.map Zqj).sum
def pot (V:List Int) (f:ScT):Nat:=ZiE V f.2.2.2.1+Zkw f.2.2.2.2.1
theorem ZhZ {α:Type} (g:α→Nat): ∀ {l:List α} {i:Nat} (hi:i<l.length) (x:α),((l.set i x).map g).sum+g l[i]=(l.map g).sum+g x
 | [],_,hi,_=>absurd hi (by simp)
 |a::l,0,_,x=>by simp;omega
 |a::l,i+1,hi,x=>by
  have:=ZhZ g (l:=l) (i:=i) (by simpa using hi) x
  simp only[List.set_cons_succ,List.map_cons,List.sum_cons,List.getElem_cons_succ]
  omega
structure ZoA (f g:ScT):Prop where
 arr: ∀s t,LeA g.2.2.2.1 s t→LeA f.2.2.2.1 s t
 rdy: ∀s t,LeY g.2.2.2.1 s t→LeY f.2.2.2.1 s t
 brd: ∀i d,LeB g.2.2.2.2.1 i d→LeB f.2.2.2.2.1 i d
structure Stp (n:ZaQ) (V:List Int) (T:Int) (f g:ScT):Prop where
 net:g.1=f.1
 qry:g.2.1=f.2.1
 lab: ∃m,g.2.2.1=f.2.2.1++m
 pl:g.2.2.2.1.length=f.2.2.2.1.length
 rl:g.2.2.2.2.1.length=f.2.2.2.2.1.length
 lks:g.2.2.2.2.2.1=f.2.2.2.2.2.1
 arr: ∀s t,LeA f.2.2.2.1 s t→LeA g.2.2.2.1 s t
 rid: ∀s t,LeR f.2.2.2.1 s t→LeR g.2.2.2.1 s t
 rdy: ∀s t,LeY f.2.2.2.1 s t→LeY g.2.2.2.1 s t
 brd: ∀i d,LeB f.2.2.2.2.1 i d→LeB g.2.2.2.2.1 i d
 mvd:f.2.2.2.2.2.2.1=true→g.2.2.2.2.2.2.1=true
 same:g.2.2.2.2.2.2.1=true∨ZoA f g
 late: ∀s t,t<T→LeY g.2.2.2.1 s t→LeY f.2.2.2.1 s t
 lateB: ∀ (i m:Nat),i<n.2.2.1.length→m< (ZaC n i).length→(Zac n i m).2.2.1<T→LeB g.2.2.2.2.1 i (m:Int)→LeB f.2.2.2.2.1 i (m:Int)
 pot:pot V g≤pot V f
 fall:f.2.2.2.2.2.2.1=false→g.2.2.2.2.2.2.1=true→Q.pot V g<Q.pot V f
variable {V:List Int} {T:Int}
theorem ZoA.refl (f:ScT):ZoA f f:=⟨fun _ _ h=>h,fun _ _ h=>h,fun _ _ h=>h⟩
theorem ZoA.trans {f g h:ScT} (x:ZoA f g) (y:ZoA g h):ZoA f h:=⟨fun s t e=>x.arr s t (y.arr s t e),fun s t e=>x.rdy s t (y.rdy s t e),fun s t e=>x.brd s t (y.brd s t e)⟩
theorem Stp.refl (f:ScT):Stp n V T f f:=
 ⟨rfl,rfl,⟨[],by simp⟩,rfl,rfl,rfl,fun _ _ h=>h,fun _ _ h=>h,fun _ _ h=>h,fun _ _ h=>h,fun h=>h, .inr (ZoA.refl f),fun _ _ _ h=>h,fun _ _ _ _ _ h=>h,Nat.le_refl _,fun a b=>by rw[a] at b;cases b⟩
theorem Stp.trans {f g h:ScT} (x:Stp n V T f g) (y:Stp n V T g h):Stp n V T f h:=by
 obtain⟨m,hm⟩:=x.lab
 obtain⟨m',hm'⟩:=y.lab
 refine⟨y.net.trans x.net,y.qry.trans x.qry,⟨m++m',by rw[hm',hm,List.append_assoc]⟩,y.pl.trans x.pl,y.rl.trans x.rl,y.lks.trans x.lks,fun s t h=>y.arr s t (x.arr s t h),fun s t h=>y.rid s t (x.rid s t h),fun s t h=>y.rdy s t (x.rdy s t h),fun s t h=>y.brd s t (x.brd s t h),fun e=>y.mvd (x.mvd e), ?_,
  fun s t a b=>x.late s t a (y.late s t a b),fun i m a b c d=>x.lateB i m a b c (y.lateB i m a b c d),Nat.le_trans y.pot x.pot,fun a b=> ?_⟩
 ·rcases y.same with e|e
  ·exact .inl e
  ·rcases x.same with e' |e'
   ·exact .inl (y.mvd e')
   ·exact .inr (e'.trans e)
 ·cases hg:g.2.2.2.2.2.2.1 with
  |true=>exact Nat.lt_of_le_of_lt y.pot (x.fall a hg)
  |false=>exact Nat.lt_of_lt_of_le (y.fall hg b) x.pot
theorem Stp.ch {f g:ScT} (h:Stp n V T f g) {l:Int} {js:List Zc3} (c:Ch f.2.2.1 l js):Ch g.2.2.1 l js:=by
 obtain⟨m,hm⟩:=h.lab
 rw[hm];exact c.app m
def Zmx (f:ScT) (x:Zc3) (prev:Int):ScT:=(f.1,f.2.1,f.2.2.1++[(x,prev,())],f.2.2.2)
theorem Zm1 (f:ScT) (hl:f.2.2.1.length<4000000000) (x:Zc3) (prev:Int):F81 f x prev=some (Zmx f x prev,(f.2.2.1.length:Int)):=by
 unfold F81 Zmx
 rw[Zbi (by simp;omega)]
 have e:IntKind.wrap .i64 (((f.2.2.1++[(x,prev,())]).length:Int) - 1)=(f.2.2.1.length:Int):=by
  rw[List.length_append]
  simp only[List.length_cons,List.length_nil]
  rw[Zat (by omega) (by omega)];omega
 rw[e]
 rfl
theorem Zkj (f:ScT) (x:Zc3) (p:Int):Stp n V T f (Zmx f x p):=
 ⟨rfl,rfl,⟨[(x,p,())],rfl⟩,rfl,rfl,rfl,fun _ _ h=>h,fun _ _ h=>h,fun _ _ h=>h,fun _ _ h=>h,fun h=>h, .inr ⟨fun _ _ h=>h,fun _ _ h=>h,fun _ _ h=>h⟩,fun _ _ _ h=>h,fun _ _ _ _ _ h=>h,Nat.le_refl _,fun a b=>by
  have b' :f.2.2.2.2.2.2.1=true:=b
  rw[a] at b';cases b'⟩
theorem Snd.add {f:ScT} (h:Snd D f) (x:Zc3) (p:Int):Snd D (Zmx f x p):=
 ⟨fun s q hq=>(h.pls s q hq).app _,fun i b hb=>(h.brd i b hb).app _⟩
def ZqX (p:ZdU) (a l:Int):ZdU:=bif ZbI p.1 a then(a,p.2.1,p.2.2.1,l,p.2.2.2.2) else p
def ZqN (p:ZdU) (r l:Int):ZdU:=bif ZbI p.2.2.1 r then(p.1,p.2.1,r,p.2.2.2.1,l,p.2.2.2.2.2) else p
def Zmw (p:ZdU) (a r l:Int):ZdU:=ZqN (ZqX p a l) r l
def ZiB (f:ScT) (i:Nat) (a r l:Int):ScT:=(f.1,f.2.1,f.2.2.1,f.2.2.2.1.modify i fun p=>Zmw p a r l,f.2.2.2.2.1,f.2.2.2.2.2.1,
 (ZbI ((f.2.2.2.1[i]?).getD (0,0,0,0,0,())).1 a||ZbI ((f.2.2.2.1[i]?).getD (0,0,0,0,0,())).2.2.1 r) ||f.2.2.2.2.2.2.1,())
theorem Zf7 (p:ZdU) (a r l:Int): (Zmw p a r l).1=bif ZbI p.1 a then a else p.1:=by
 unfold Zmw ZqN ZqX
 cases ZbI p.1 a<;>simp only[cond_true,cond_false]<;>cases ZbI p.2.2.1 r<;>rfl
theorem Ze4 (p:ZdU) (a r l:Int): (Zmw p a r l).2.2.1=bif ZbI p.2.2.1 r then r else p.2.2.1:=by
 unfold Zmw ZqN ZqX
 cases ZbI p.1 a<;>simp only[cond_true,cond_false]<;>cases ZbI p.2.2.1 r<;>rfl
theorem ZiH (p:ZdU) (a r l:Int): (Zmw p a r l).2.1=p.2.1:=by
 unfold Zmw ZqN ZqX
 cases ZbI p.1 a<;>simp only[cond_true,cond_false]<;>cases ZbI p.2.2.1 r<;>rfl
theorem ZeJ (f:ScT) {i:Nat} (hi:i<f.2.2.2.1.length) (a r l:Int):F84 f (i:Int) a r l=some (ZiB f i a r l):=by
 unfold F84 ZiB
 rw[Zeg hi]
 obtain⟨n,q,lb,pl,rn,lk,mv,u⟩:=f
 simp only at hi
 simp only[ZaW hi,bind_some,List.getElem?_eq_getElem hi,Option.getD_some]
 generalize hp:pl[i]=p
 rw[ZeT]
 simp only[bind_some]
 unfold Zmw ZqX
 cases hl:ZbI p.1 a with
 |true=>
  simp only[cond_true,List.set_set,List.getElem?_set_self hi,bind_some]
  rw[ZeT]
  simp only[bind_some]
  unfold ZqN
  simp only
  cases ZbI p.2.2.1 r with
  |true=>simp only[cond_true,Bool.true_or]
  |false=>simp only[cond_false,Bool.true_or]
 |false=>
  simp only[cond_false]
  rw[ZeT]
  simp only[bind_some]
  unfold ZqN
  cases ZbI p.2.2.1 r with
  |true=>simp only[cond_true,List.getElem?_set_self hi,bind_some,List.set_set,Bool.or_true,Bool.true_or]
  |false=>
   simp only[cond_false,Bool.false_or]
   rw[←hp,List.set_getElem_self]
theorem Zd9 {P:ZdU→Prop} {l:List ZdU} {i s:Nat} {g:ZdU→ZdU} (hg: ∀p,P p→P (g p)) (h: ∃p,l[s]? =some p∧P p): ∃p,(l.modify i g)[s]? =some p∧P p:=by
 obtain⟨p,h1,h2⟩:=h
 by_cases e:i=s
 ·subst e;exact⟨g p,ZdW h1 g,hg p h2⟩
 ·exact⟨p,(Zfg e g).trans h1,h2⟩
theorem ZbY {P:ZdU→Prop} {l:List ZdU} {i s:Nat} {g:ZdU→ZdU} (hg: ∀p,l[i]? =some p→P (g p)→P p) (h: ∃p,(l.modify i g)[s]? =some p∧P p): ∃p,l[s]? =some p∧P p:=by
 obtain⟨q,h1,h2⟩:=h
 obtain⟨p,hp,⟨rfl,rfl⟩ | ⟨_,rfl⟩⟩:=ZeN h1
 ·exact⟨p,hp,hg p hp h2⟩
 ·exact⟨_,hp,h2⟩
theorem ZpT {a x:Int} (ha:0≤a) (hV:a∈V):ZiC V (bif ZbI x a then a else x)≤ZiC V x∧(ZbI x a=true→ZiC V (bif ZbI x a then a else x)<ZiC V x):=by
 cases hl:ZbI x a with
 |true=>simp only[cond_true];exact⟨Nat.le_of_lt (ZmH ha hV hl),fun _=>ZmH ha hV hl⟩
 |false=>exact⟨Nat.le_refl _,fun e=>nomatch e⟩
theorem Zif (f:ScT) {i:Nat} (hi:i<f.2.2.2.1.length) {a r:Int} (ha:0≤a) (hr:0≤r) (hT:T≤r) (hVa:a∈V) (hVr:r∈V) (l:Int):Stp n V T f (ZiB f i a r l):=by
 have hg: (f.2.2.2.1[i]?).getD (0,0,0,0,0,())=f.2.2.2.1[i]:=Zah hi _
 have hpp:ZiE V (ZiB f i a r l).2.2.2.1+(ZiC V (f.2.2.2.1[i]).1+ZiC V (f.2.2.2.1[i]).2.2.1)=ZiE V f.2.2.2.1+(ZiC V (bif ZbI (f.2.2.2.1[i]).1 a then a else(f.2.2.2.1[i]).1)+ZiC V (bif ZbI (f.2.2.2.1[i]).2.2.1 r then r else(f.2.2.2.1[i]).2.2.1)):=by
  have:=ZhZ (fun p:ZdU=>ZiC V p.1+ZiC V p.2.2.1) hi (Zmw f.2.2.2.1[i] a r l)
  simp only[Zf7,Ze4] at this
  unfold ZiE ZiB
  rw[Zeg hi]
  exact this
 have c1:=ZpT (x:=(f.2.2.2.1[i]).1) ha hVa
 have c2:=ZpT (x:=(f.2.2.2.1[i]).2.2.1) hr hVr
 refine⟨rfl,rfl,⟨[],by simp [ZiB]⟩,by simp [ZiB],rfl,rfl,fun s t h=> ?_,fun s t h=> ?_,fun s t h=> ?_,fun _ _ h=>h,fun h=> ?_, ?_,fun s t ht h=> ?_,fun _ _ _ _ _ h=>h, ?_,fun h1 h2=> ?_⟩
 ·refine Zd9 (P:=fun p=>p.1≠ -1∧p.1≤t) (fun p hp=> ?_) h
  rw[Zf7];exact Zrq ha hp
 ·refine Zd9 (P:=fun p=>p.2.1≠ -1∧p.2.1≤t) (fun p hp=> ?_) h
  rw[ZiH];exact hp
 ·refine Zd9 (P:=fun p=>p.2.2.1≠ -1∧p.2.2.1≤t) (fun p hp=> ?_) h
  rw[Ze4];exact Zrq hr hp
 ·show (_||f.2.2.2.2.2.2.1)=true
  rw[h,Bool.or_true]
 ·show ((ZbI ((f.2.2.2.1[i]?).getD (0,0,0,0,0,())).1 a||ZbI ((f.2.2.2.1[i]?).getD (0,0,0,0,0,())).2.2.1 r) ||f.2.2.2.2.2.2.1)=true∨_
  rw[hg]
  cases h1:ZbI (f.2.2.2.1[i]).1 a with
  |true=>exact .inl rfl
  |false=>
   cases h2:ZbI (f.2.2.2.1[i]).2.2.1 r with
   |true=>exact .inl rfl
   |false=>
    right
    refine⟨fun s t h=> ?_,fun s t h=> ?_,fun _ _ h=>h⟩
    ·refine ZbY (P:=fun p=>p.1≠ -1∧p.1≤t) (fun p hp hq=> ?_) h
     rw[List.getElem?_eq_getElem hi] at hp
     cases hp
     rw[Zf7,h1] at hq
     exact hq
    ·refine ZbY (P:=fun p=>p.2.2.1≠ -1∧p.2.2.1≤t) (fun p hp hq=> ?_) h
     rw[List.getElem?_eq_getElem hi] at hp
     cases hp
     rw[Ze4,h2] at hq
     exact hq
 ·refine ZbY (P:=fun p=>p.2.2.1≠ -1∧p.2.2.1≤t) (fun p hp hq=> ?_) h
  rw[Ze4] at hq
  cases hl:ZbI p.2.2.1 r with
  |false=>rw[hl] at hq;exact hq
  |true=>rw[hl] at hq;simp only[cond_true] at hq;omega
 ·show ZiE V (ZiB f i a r l).2.2.2.1+Zkw f.2.2.2.2.1≤ZiE V f.2.2.2.1+Zkw f.2.2.2.2.1
  omega
 ·have h2' : ((ZbI ((f.2.2.2.1[i]?).getD (0,0,0,0,0,())).1 a||ZbI ((f.2.2.2.1[i]?).getD (0,0,0,0,0,())).2.2.1 r) ||f.2.2.2.2.2.2.1)=true:=h2
  rw[hg,h1,Bool.or_false,Bool.or_eq_true] at h2'
  show ZiE V (ZiB f i a r l).2.2.2.1+Zkw f.2.2.2.2.1<ZiE V f.2.2.2.1+Zkw f.2.2.2.2.1
  rcases h2' with h|h
  ·have:=c1.2 h
   omega
  ·have:=c2.2 h
   omega
theorem ZkE {f:ScT} {i:Nat} (hi:i<f.2.2.2.1.length) {a r:Int} (ha:0≤a) (hr:0≤r) (l:Int):LeA (ZiB f i a r l).2.2.2.1 i a∧LeY (ZiB f i a r l).2.2.2.1 i r:=by
 have e: (ZiB f i a r l).2.2.2.1[i]? =some (Zmw f.2.2.2.1[i] a r l):=ZdW (List.getElem?_eq_getElem hi) _
 exact⟨⟨_,e,by rw[Zf7];exact Zp0 ha⟩,⟨_,e,by rw[Ze4];exact Zp0 hr⟩⟩
theorem SP.imp {s:Int} {p:ZdU} (h:SP D lb s p) {a r l:Int} (ha: ∃k js,Ch lb l js∧D (.arr k s a) js) (hr: ∃k js,Ch lb l js∧D (.rdy k s r) js):SP D lb s (Zmw p a r l):=by
 obtain⟨h1,h2,h3⟩:=h
 unfold Zmw ZqN ZqX
 cases ZbI p.1 a<;>simp only[cond_true,cond_false]<;>cases ZbI p.2.2.1 r<;>simp only[cond_true,cond_false]
 ·exact⟨h1,h2,h3⟩
 ·exact⟨h1,h2,fun _=>hr⟩
 ·exact⟨fun _=>ha,h2,h3⟩
 ·exact⟨fun _=>ha,h2,fun _=>hr⟩
theorem Snd.imp {f:ScT} (h:Snd D f) {i:Nat} {a r l:Int} (ha: ∃k js,Ch f.2.2.1 l js∧D (.arr k (i:Int) a) js) (hr: ∃k js,Ch f.2.2.1 l js∧D (.rdy k (i:Int) r) js):Snd D (ZiB f i a r l):=by
 refine⟨fun s q hq=> ?_,h.brd⟩
 obtain⟨p,hp,⟨rfl,rfl⟩ | ⟨_,rfl⟩⟩:=ZeN hq
 ·exact(h.pls i p hp).imp ha hr
 ·exact h.pls s _ hp
def Zc2 (f:ScT) (i:Nat) (b:Zjy):ScT:=
 bif !(rn f.1 (i:Int)).2.2.2.2.2.2.1&&ZbI ((f.2.2.2.2.1[i]?).getD (0,0,false,())).1 b.1 then(f.1,f.2.1,f.2.2.1,f.2.2.2.1,f.2.2.2.2.1.set i b,f.2.2.2.2.2.1,true,()) else f
theorem Zjr (f:ScT) {i:Nat} (hi:i<f.1.2.2.1.length) (hr:f.2.2.2.2.1.length=f.1.2.2.1.length) (b:Zjy):F82 f (i:Int) b=some (Zc2 f i b):=by
 unfold F82 Zc2
 have hi' :i<f.2.2.2.2.1.length:=by omega
 have e:rn f.1 (i:Int)=f.1.2.2.1[i]:=by unfold rn;rw[Int.toNat_natCast,Zah hi]
 rw[e,Zah hi']
 simp only[Zai hi,bind_some,ZaW hi',List.getElem?_eq_getElem hi']
 cases (f.1.2.2.1[i]).2.2.2.2.2.2.1 with
 |true=>rfl
 |false=>
  simp only[Bool.not_false,cond_false,bind_some,Bool.true_and]
  unfold ZbI
  by_cases h1: (f.2.2.2.2.1[i]).1= -1
  ·rw[decide_eq_true h1];rfl
  ·rw[decide_eq_false h1]
   by_cases h2: (f.2.2.2.2.1[i]).1≤b.1
   ·rw[decide_eq_true h2,decide_eq_false (show¬b.1< (f.2.2.2.2.1[i]).1 by omega)];rfl
   ·rw[decide_eq_false h2,decide_eq_true (show b.1< (f.2.2.2.2.1[i]).1 by omega)];rfl
theorem Zq1 {l:List Zjy} {i:Nat} {b:Zjy} (h:ZbI ((l[i]?).getD (0,0,false,())).1 b.1=true) (hb:0≤b.1) {j:Nat} {d:Int} (hj:LeB l j d):LeB (l.set i b) j d:=by
 obtain⟨x,h1,h2,h3⟩:=hj
 by_cases e:i=j
 ·subst e
  have hi:=(List.getElem?_eq_some_iff.1 h1).1
  refine⟨b,List.getElem?_set_self hi, ?_⟩
  rw[h1] at h
  have:=ZbG.1 h
  simp only[Option.getD_some] at this
  omega
 ·exact⟨x,by rw[List.getElem?_set_ne e];exact h1,h2,h3⟩
theorem Zpe {l:List Zjy} {i:Nat} (hi:i<l.length) {b:Zjy} (h:ZbI ((l[i]?).getD (0,0,false,())).1 b.1=false):LeB l i b.1:=by
 rw[Zah hi] at h
 exact⟨l[i],List.getElem?_eq_getElem hi,ZkF h⟩
theorem Zjq (C:Zfz n) (f:ScT) {i c:Nat} (hi:i<n.2.2.1.length) (hir:i<f.2.2.2.2.1.length) (hc:c< (ZaC n i).length) (hT:T≤(Zac n i c).2.2.1) (prev:Int) (st:Bool):Stp n V T f (Zc2 f i ((c:Int),prev,st,())):=by
 unfold Zc2
 cases hg: (!(rn f.1 (i:Int)).2.2.2.2.2.2.1&&ZbI ((f.2.2.2.2.1[i]?).getD (0,0,false,())).1 (c:Int)) with
 |false=>exact Stp.refl f
 |true=>
  rw[Bool.and_eq_true] at hg
  have hl:=hg.2
  rw[Zah hir] at hl
  have hl' :=ZbG.1 hl
  have h0: (0:Int)≤(c:Int):=by omega
  have hs:=ZhZ Zqj hir ((c:Int),prev,st,())
  have hr:Zqj ((c:Int),prev,st,())<Zqj f.2.2.2.2.1[i]∨32<c:=by
   unfold Zqj
   simp only
   rw[if_neg (by omega)]
   by_cases e: (f.2.2.2.2.1[i]).1= -1
   ·rw[if_pos e];omega
   ·rw[if_neg e];omega
  have hcl:c<32:=by
   have:=(C.sound.many _ (List.getElem_mem hi)).2
   rw[Za8 hi] at hc
   omega
  have hpot:Zkw (f.2.2.2.2.1.set i ((c:Int),prev,st,()))<Zkw f.2.2.2.2.1:=by
   unfold Zkw;omega
  refine⟨rfl,rfl,⟨[],by simp⟩,rfl,by simp,rfl,fun _ _ h=>h,fun _ _ h=>h,fun _ _ h=>h,fun j d h=>Zq1 hg.2 h0 h,fun _=>rfl, .inl rfl,fun _ _ _ h=>h,fun j m hj hm hd h=> ?_, ?_,fun _ _=> ?_⟩
  ·obtain⟨x,h1,h2,h3⟩:=h
   rcases Zlf h1 with ⟨rfl,rfl⟩ |h1
   ·exfalso
    have h3' : (c:Int)≤(m:Int):=h3
    have: (Zac n i c).2.2.1≤(Zac n i m).2.2.1:=by
     have ht:=C.sound.time _ (List.getElem_mem hi)
     have e:=Za8 hi
     have key: ∀k,c+k< (ZaC n i).length→(Zac n i c).2.2.1≤(Zac n i (c+k)).2.2.1:=by
      intro k
      induction k with
      |zero=>exact fun _=>Int.le_refl _
      |succ k ih=>
       intro hk
       have h1:=ih (by omega)
       rw[e] at hk
       have h2:=ht (c+(k+1)) hk
       have h3:=h2.2.2.2 (by omega)
       have h4:Zac n i (c+(k+1))=(n.2.2.1[i]).2.2.2.2.2.2.2.1[c+(k+1)]:=by
        unfold Zac cl
        rw[Int.toNat_natCast,e,Zah hk]
       have hk2:c+(k+1) - 1< (n.2.2.1[i]).2.2.2.2.2.2.2.1.length:=by omega
       have h5:Zac n i (c+k)=(n.2.2.1[i]).2.2.2.2.2.2.2.1[c+(k+1) - 1]:=by
        unfold Zac cl
        rw[Int.toNat_natCast,e,show c+k=c+(k+1) - 1 by omega,Zah hk2]
       rw[h4]
       rw[h5] at h1
       omega
     have:=key (m - c) (by omega)
     rw[show c+(m - c)=m by omega] at this
     exact this
    omega
   ·exact⟨x,h1,h2,h3⟩
  ·show ZiE V f.2.2.2.1+Zkw (f.2.2.2.2.1.set i ((c:Int),prev,st,()))≤ZiE V f.2.2.2.1+Zkw f.2.2.2.2.1
   omega
  ·show ZiE V f.2.2.2.1+Zkw (f.2.2.2.2.1.set i ((c:Int),prev,st,()))<ZiE V f.2.2.2.1+Zkw f.2.2.2.2.1
   omega
theorem Zjt {f:ScT} {i:Nat} (hi:i<f.2.2.2.2.1.length) {b:Zjy} (hb:0≤b.1) (hc: (rn f.1 (i:Int)).2.2.2.2.2.2.1=false):LeB (Zc2 f i b).2.2.2.2.1 i b.1:=by
 unfold Zc2
 rw[hc]
 cases hl:ZbI ((f.2.2.2.2.1[i]?).getD (0,0,false,())).1 b.1 with
 |false=>exact Zpe hi hl
 |true=>exact⟨b,List.getElem?_set_self hi,by omega,by omega⟩
theorem Snd.board {f:ScT} (h:Snd D f) {i:Nat} {b:Zjy} (hb: (rn f.1 (i:Int)).2.2.2.2.2.2.1=false→SB D f.2.2.1 i b):Snd D (Zc2 f i b):=by
 unfold Zc2
 cases hc: (rn f.1 (i:Int)).2.2.2.2.2.2.1 with
 |true=>exact h
 |false=>
  cases ZbI ((f.2.2.2.2.1[i]?).getD (0,0,false,())).1 b.1 with
  |false=>exact h
  |true=>
   refine⟨h.pls,fun j x hx=> ?_⟩
   rcases Zlf hx with ⟨rfl,rfl⟩ |hx
   ·exact hb hc
   ·exact h.brd j x hx
theorem Zhy (f:ScT) (i:Nat) (b:Zjy): (Zc2 f i b).2.2.1=f.2.2.1:=by unfold Zc2;cases (!(rn f.1 (i:Int)).2.2.2.2.2.2.1&&ZbI ((f.2.2.2.2.1[i]?).getD (0,0,false,())).1 b.1)<;>rfl
end Q
namespace Q
open Tr Go
open Option (bind_some)
variable {n:ZaQ} {s0 t0 w:Int} {V:List Int} {T:Int}
theorem bex {α β:Type} {o:Option α} {f:α→Option β} {Q:β→Prop} (P:α→Prop) (h: ∃r,o=some r∧P r) (k: ∀r,P r→ ∃s,f r=some s∧Q s): ∃s,Option.bind o f=some s∧Q s:=by
 obtain⟨r,rfl,hr⟩:=h
 exact k r hr
def p00:ZdU:=(0,0,0,0,0,())
def Zbn (f:ScT) (s:Nat):Int:=((f.2.2.2.1[s]?).getD p00).2.1
def Wlk (s t:Int) (l:List ZdU) (p:Zb4):Prop:=p.1=s→t+p.2.2.1≤3155932800→LeA l p.2.1.toNat (t+p.2.2.1)∧LeY l p.2.1.toNat (t+p.2.2.1)
theorem Wlk.mono {s t:Int} {g h:ScT} {p:Zb4} (y:Stp n V T g h) (z:Wlk s t g.2.2.2.1 p):Wlk s t h.2.2.2.1 p:=
 fun a b=>⟨y.arr _ _ (z a b).1,y.rdy _ _ (z a b).2⟩
theorem Wlk.weak {s t u:Int} {l:List ZdU} {p:Zb4} (h:t≤u) (z:Wlk s t l p):Wlk s u l p:=
 fun a b=>let ⟨x,y⟩:=z a (by omega);⟨x.weak (by omega),y.weak (by omega)⟩
theorem ZgF (f:ScT) (i:Nat) (a r l:Int) (j:Nat):Zbn (ZiB f i a r l) j=Zbn f j:=by
 unfold Zbn ZiB
 simp only[List.getElem?_modify]
 cases f.2.2.2.1[j]? with
 |none=>rfl
 |some p=>
  by_cases e:i=j
  ·simp [e,ZiH]
  ·simp [e]
theorem ZmN (C:Ctx n s0 t0 w) {f:ScT} (hf:f.1=n) (hpl:f.2.2.2.1.length=n.1.length) (hp:n.2.2.2.2.1.length≤4096) {s t prev:Int} (ht:0≤t∧t≤3155932800) (hT:T≤t) (hV: ∀p∈n.2.2.2.2.1,t+p.2.2.1∈V)
  (hl:f.2.2.1.length+4096<4000000000) {js:List Zc3} {k:Nat} (hD: ∀p∈n.2.2.2.2.1,p.1=s→t+p.2.2.1≤3155932800→Der n s0 t0 w (.arr k p.2.1 (t+p.2.2.1)) (js++[ZoJ s p.2.1 t (t+p.2.2.1)])∧Der n s0 t0 w (.rdy k p.2.1 (t+p.2.2.1)) (js++[ZoJ s p.2.1 t (t+p.2.2.1)]))
  (h:Snd (Der n s0 t0 w) f) (hch:Ch f.2.2.1 prev js):
  ∃g,F87 f s t prev=some g∧Stp n V T f g∧Snd (Der n s0 t0 w) g∧(∀p∈n.2.2.2.2.1,Wlk s t g.2.2.2.1 p)∧g.2.2.1.length≤f.2.2.1.length+n.2.2.2.2.1.length∧(∀j,Zbn g j=Zbn f j):=by
 unfold F87
 rw[hf]
 refine bex (fun g=>Stp n V T f g∧Snd (Der n s0 t0 w) g∧(∀p∈n.2.2.2.2.1,Wlk s t g.2.2.2.1 p)∧g.2.2.1.length≤f.2.2.1.length+n.2.2.2.2.1.length∧(∀j,Zbn g j=Zbn f j)) ?_ (fun r hr=>⟨r,rfl,hr⟩)
 have hpn: ∀g:ScT,Stp n V T f g→g.1.2.2.2.2.1=n.2.2.2.2.1:=fun g hg=>by rw[hg.net,hf]
 refine ZbD n.2.2.2.2.1.length _ (fun i (st:ScT×Int)=>st.2=(i:Int)∧Stp n V T f st.1∧Snd (Der n s0 t0 w) st.1∧(∀p∈n.2.2.2.2.1.take i,Wlk s t st.1.2.2.2.1 p)∧st.1.2.2.1.length≤f.2.2.1.length+i∧(∀j,Zbn st.1 j=Zbn f j)) ?_ ?_ _ ⟨rfl,Stp.refl f,h,(by simp),by simp,fun _=>rfl⟩
 ·rintro i ⟨g,j⟩ hi ⟨hj,h1,h2,h3,h4,h5⟩
  simp only at hj h1 h2 h3 h4 h5
  subst hj
  left
  have hmem:=List.getElem_mem hi
  have hpo:=C.net.path _ hmem
  rw[List.take_succ_eq_append_getElem hi]
  have hDi:=hD _ hmem
  have hVi:=hV _ hmem
  simp only[ZaG hi,cond_true,Zai hi,bind_some,Zan hi (show _≤9223372036854775807 by omega)]
  generalize n.2.2.2.2.1[i]=p at*
  have w1:IntKind.wrap .i64 (t+p.2.2.1)=t+p.2.2.1:=Zat (by omega) (by omega)
  simp only[w1]
  by_cases hc:p.1=s
  rotate_left
  ·rw[decide_eq_false hc]
   refine⟨_,rfl,rfl,h1,h2,fun q hq=> ?_,by simp only;omega,h5⟩
   rcases List.mem_append.1 hq with hq|hq
   ·exact h3 q hq
   ·simp only[List.mem_singleton] at hq;subst hq
    exact fun a=>absurd a hc
  by_cases hm:t+p.2.2.1≤3155932800
  rotate_left
  ·rw[decide_eq_true hc,decide_eq_false hm]
   refine⟨_,rfl,rfl,h1,h2,fun q hq=> ?_,by simp only;omega,h5⟩
   rcases List.mem_append.1 hq with hq|hq
   ·exact h3 q hq
   ·simp only[List.mem_singleton] at hq;subst hq
    exact fun _ b=>absurd b hm
  rw[decide_eq_true hc,decide_eq_true hm]
  simp only[cond_true,bind_some]
  rw[Zm1 g (by omega)]
  simp only[bind_some]
  obtain⟨d1,d2⟩:=hDi hc hm
  obtain⟨y,hy⟩: ∃y:Nat,p.2.1=(y:Int):=⟨p.2.1.toNat,by omega⟩
  have hnew:=(h1.ch hch).new (ZoJ s p.2.1 t (t+p.2.2.1))
  rw[show ((false,0,0,0,s,p.2.1,t,t+p.2.2.1,false,()):Zc3)=ZoJ s p.2.1 t (t+p.2.2.1) from rfl]
  generalize ZoJ s p.2.1 t (t+p.2.2.1)=x at*
  rw[hy] at d1 d2
  have h0:0≤t+p.2.2.1:=by omega
  have hyl:y< (Zmx g x prev).2.2.2.1.length:=by show y<g.2.2.2.1.length;rw[h1.pl];omega
  rw[hy,ZeJ _ hyl]
  have hst:=(h1.trans (Zkj g x prev)).trans (Zif (V:=V) (T:=T) (Zmx g x prev) hyl h0 h0 (by omega) hVi hVi (g.2.2.1.length:Int))
  have hsn:=(h2.add x prev).imp (i:=y) ⟨k,_,hnew,d1⟩ ⟨k,_,hnew,d2⟩
  refine⟨_,rfl,rfl,hst,hsn,fun q hq=> ?_, ?_,fun j=> ?_⟩
  ·rcases List.mem_append.1 hq with hq|hq
   ·exact(h3 q hq).mono ((Zkj g x prev).trans (Zif (V:=V) (T:=T) (n:=n) (Zmx g x prev) hyl h0 h0 (by omega) hVi hVi (g.2.2.1.length:Int)))
   ·simp only[List.mem_singleton] at hq;subst hq
    intro _ _
    rw[hy,Int.toNat_natCast]
    exact ZkE hyl h0 h0 _
  ·show (g.2.2.1++[(x,prev,())]).length≤_
   simp only[List.length_append,List.length_cons,List.length_nil]
   omega
  ·show Zbn (ZiB (Zmx g x prev) y _ _ _) j=_
   rw[ZgF]
   exact h5 j
 ·rintro ⟨g,j⟩ ⟨hj,h1,h2,h3,h4,h5⟩
  simp only at hj h1 h2 h3 h4 h5
  subst hj
  rw[List.take_length] at h3
  simp only[ZaH,cond_false]
  exact⟨_,rfl,h1,h2,h3,h4,h5⟩
def lkI (n:ZaQ) (k:Int):Zj0:=(n.2.2.2.1[k.toNat]?).getD (0,0,0,0,false,())
def ZqB (n:ZaQ) (out:List (List Int)):Prop:=out.length=n.2.2.1.length∧ ∀ (i:Nat) ks,out[i]? =some ks→ks.length≤1024∧ ∀x:Int,x∈ks↔inR x n.2.2.2.1.length=true∧(lkI n x).1=(i:Int)
theorem ZnX {n:ZaQ} {x:Int} (h:inR x n.2.2.2.1.length=true):lkI n x∈n.2.2.2.1:=by
 rw[ZnK] at h
 have hl:x.toNat<n.2.2.2.1.length:=by omega
 unfold lkI
 rw[Zah hl]
 exact List.getElem_mem hl
theorem Zlg {i c j d:Nat} {st:Bool} (h:isLink n i c j d st): ∃x:Int,inR x n.2.2.2.1.length=true∧lkI n x=((i:Int),(c:Int),(j:Int),(d:Int),st,()):=by
 obtain⟨k,hk,e⟩:=List.getElem_of_mem h
 refine⟨(k:Int),ZqG.2 hk, ?_⟩
 unfold lkI;rw[Int.toNat_natCast,Zah hk,e]
def Zrm (n:ZaQ) (i c:Nat) (g:ScT):Prop:= ∀ (j d:Nat) (st:Bool),isLink n i c j d st→(Zac n i c).2.1≤(Zac n j d).2.2.1→
 (st=true∨(Zac n i c).2.2.2.2.1=true∧(Zac n j d).2.2.2.1=true)→ZbX n j=false→LeB g.2.2.2.2.1 j (d:Int)
theorem Zrm.mono {i c:Nat} {g h:ScT} (y:Stp n V T g h) (z:Zrm n i c g):Zrm n i c h:=fun j d st a b c e=>y.brd _ _ (z j d st a b c e)
theorem Zsj {α:Type} {l:List α} {x:Int} {d:α} (h:inR x l.length=true):idx l x=some ((l[x.toNat]?).getD d):=Zb6 h d
theorem Zot (C:Ctx n s0 t0 w) {f:ScT} (hf:f.1=n) (hrl:f.2.2.2.2.1.length=n.2.2.1.length) (ho:ZqB n f.2.2.2.2.2.1) (h:Snd (Der n s0 t0 w) f) {k i c:Nat} {l:Int} {js:List Zc3} (hl:Ch f.2.2.1 l js) (hd:Der n s0 t0 w (.on k i c) js) (hT:T≤(Zac n i c).2.1):
  ∃g,F83 f (i:Int) (c:Int) l (Zac n i c).2.2.2.2.1=some g∧Stp n V T f g∧Snd (Der n s0 t0 w) g∧Zrm n i c g∧g.2.2.1=f.2.2.1∧(∀j,Zbn g j=Zbn f j)∧g.2.2.2.1=f.2.2.2.1:=by
 obtain⟨_,hi,hc,_⟩:=C.ok hd
 unfold F83
 rw[hf]
 have hio:i<f.2.2.2.2.2.1.length:=by rw[ho.1];exact hi
 obtain⟨hkl,hks⟩:=ho.2 i _ (List.getElem?_eq_getElem hio)
 have e1:idx n.2.2.1 (i:Int)=some n.2.2.1[i]:=Zai hi
 have hcl: (n.2.2.1[i]).2.2.2.2.2.2.2.1=ZaC n i:=(Za8 hi).symm
 have e2:idx (ZaC n i) (c:Int)=some (Zac n i c):=by rw[Zai hc,Zcb hc]
 simp only[e1,bind_some,hcl,e2,Zai hio]
 generalize f.2.2.2.2.2.1[i]=ks at*
 refine bex (fun g=>Stp n V T f g∧Snd (Der n s0 t0 w) g∧(∀x∈ks, ∀ (j d:Nat) (st:Bool),lkI n x=((i:Int),(c:Int),(j:Int),(d:Int),st,())→(Zac n i c).2.1≤(Zac n j d).2.2.1→
  (st=true∨(Zac n i c).2.2.2.2.1=true∧(Zac n j d).2.2.2.1=true)→ZbX n j=false→LeB g.2.2.2.2.1 j (d:Int))∧g.2.2.1=f.2.2.1∧(∀j,Zbn g j=Zbn f j)∧g.2.2.2.1=f.2.2.2.1) ?_ (fun r hr=>⟨r,rfl,hr.1,hr.2.1,fun j d st a b c' e=> ?_,hr.2.2.2⟩)
 rotate_left
 ·obtain⟨x,x1,x2⟩:=Zlg a
  exact hr.2.2.1 x ((hks x).2 ⟨x1,by rw[x2]⟩) j d st x2 b c' e
 refine ZbD ks.length _ (fun m (st:ScT×Int)=>st.2=(m:Int)∧Stp n V T f st.1∧Snd (Der n s0 t0 w) st.1∧(∀x∈ks.take m, ∀ (j d:Nat) (s:Bool),lkI n x=((i:Int),(c:Int),(j:Int),(d:Int),s,())→(Zac n i c).2.1≤(Zac n j d).2.2.1→
  (s=true∨(Zac n i c).2.2.2.2.1=true∧(Zac n j d).2.2.2.1=true)→ZbX n j=false→LeB st.1.2.2.2.2.1 j (d:Int))∧st.1.2.2.1=f.2.2.1∧(∀j,Zbn st.1 j=Zbn f j)∧st.1.2.2.2.1=f.2.2.2.1) ?_ ?_ _ ⟨rfl,Stp.refl f,h,(by simp),rfl,fun _=>rfl,rfl⟩
 ·rintro m ⟨g,z⟩ hm ⟨hz,h1,h2,h3,h4,h5,h6⟩
  simp only at hz h1 h2 h3 h4 h5 h6
  subst hz
  left
  obtain⟨x1,x2⟩:=(hks _).1 (List.getElem_mem hm)
  obtain⟨i',c',j,d,st,e,_,hj,_,hc',hdl,_,_⟩:=C.net.link _ (ZnX x1)
  have hgn:g.1=n:=h1.net.trans hf
  rw[List.take_succ_eq_append_getElem hm]
  have e3:idx g.1.2.2.2.1 ks[m]=some (lkI n ks[m]):=by rw[hgn];exact Zsj x1
  have e4:idx g.1.2.2.1 (j:Int)=some n.2.2.1[j]:=by rw[hgn];exact Zai hj
  have hcj: (n.2.2.1[j]).2.2.2.2.2.2.2.1=ZaC n j:=(Za8 hj).symm
  have e5:idx (ZaC n j) (d:Int)=some (Zac n j d):=by rw[Zai hdl,Zcb hdl]
  simp only[ZaG hm,cond_true,Zai hm,bind_some,Zan hm (show _≤9223372036854775807 by omega),e3,e,e4,hcj,e5]
  generalize ks[m]=x at*
  have hi' :i' =i:=by rw[e] at x2;simp only at x2;omega
  subst hi'
  have hadd: ∀g' :ScT,Stp n V T g g' →((Zac n i' c).2.1≤(Zac n j d).2.2.1→c' =c→(st=true∨(Zac n i' c).2.2.2.2.1=true∧(Zac n j d).2.2.2.1=true)→ZbX n j=false→LeB g'.2.2.2.2.1 j (d:Int))→
    ∀y∈ks.take m++[x], ∀ (j d:Nat) (s:Bool),lkI n y=((i' :Int),(c:Int),(j:Int),(d:Int),s,())→(Zac n i' c).2.1≤(Zac n j d).2.2.1→(s=true∨(Zac n i' c).2.2.2.2.1=true∧(Zac n j d).2.2.2.1=true)→ZbX n j=false→LeB g'.2.2.2.2.1 j (d:Int):=by
   intro g' hg' hnew y hy j1 d1 s1 b1 b2 b3 b4
   rcases List.mem_append.1 hy with hy|hy
   ·exact hg'.brd _ _ (h3 y hy j1 d1 s1 b1 b2 b3 b4)
   ·simp only[List.mem_singleton] at hy
    subst hy
    rw[e] at b1
    simp only[Prod.mk.injEq,Int.natCast_inj] at b1
    obtain⟨_,rfl,rfl,rfl,rfl,_⟩:=b1
    exact hnew b2 rfl b3 b4
  by_cases hcc:c' =c
  rotate_left
  ·rw[decide_eq_false (show¬ (c' :Int)=(c:Int) by omega)]
   exact⟨_,rfl,rfl,h1,h2,hadd g (Stp.refl g) (fun _ b=>absurd b hcc),h4,h5,h6⟩
  subst hcc
  by_cases htm: (Zac n i' c').2.1≤(Zac n j d).2.2.1
  rotate_left
  ·rw[decide_eq_true rfl,decide_eq_false htm]
   exact⟨_,rfl,rfl,h1,h2,hadd g (Stp.refl g) (fun a=>absurd a htm),h4,h5,h6⟩
  rw[decide_eq_true rfl,decide_eq_true htm]
  simp only[cond_true]
  have hil:isLink n i' c' j d st:=by unfold isLink;rw[←e];exact ZnX x1
  have e6: (bif st then some true else bif (Zac n i' c').2.2.2.2.1 then some (Zac n j d).2.2.2.1 else some false)=some (st|| ((Zac n i' c').2.2.2.2.1&& (Zac n j d).2.2.2.1)):=by
   cases st<;>cases (Zac n i' c').2.2.2.2.1<;>rfl
  rw[e6]
  simp only[bind_some]
  cases hok: (st|| ((Zac n i' c').2.2.2.2.1&& (Zac n j d).2.2.2.1)) with
  |false=>
   simp only[cond_false]
   refine⟨_,rfl,rfl,h1,h2,hadd g (Stp.refl g) (fun _ _ a=> ?_),h4,h5,h6⟩
   exfalso
   rcases a with rfl| ⟨a,b⟩
   ·simp at hok
   ·rw[a,b] at hok;simp at hok
  |true=>
   simp only[cond_true]
   have hjr:j<g.2.2.2.2.1.length:=by rw[h1.rl,hrl];exact hj
   rw[Zjr g (by rw[hgn];exact hj) (by rw[h1.rl,hrl,hgn])]
   simp only[bind_some]
   have hsb:=Zjq (V:=V) (T:=T) C.net g hj hjr hdl (by omega) l st
   refine⟨_,rfl,rfl,h1.trans hsb,h2.board fun hcn=>fun _=> ?_,hadd _ hsb fun _ _ _ hcn=>Zjt hjr (b:=((d:Int),l,st,())) (by show (0:Int)≤(d:Int);omega) (by rw[hgn];exact hcn),by rw[Zhy];exact h4,fun y=> ?_, ?_⟩
   ·have hcn' :ZbX n j=false:=by rw[hgn] at hcn;exact hcn
    cases st with
    |true=>exact⟨k,d,rfl,js,h1.ch hl, .stay hd hil htm hcn'⟩
    |false=>
     simp only[Bool.false_or,Bool.and_eq_true] at hok
     exact⟨k+1,d,rfl,js,h1.ch hl, .linked (.link hd hok.1 hil htm hok.2) hcn'⟩
   ·rw[←h5 y]
    unfold Zbn Zc2
    cases (!(rn g.1 (j:Int)).2.2.2.2.2.2.1&&ZbI ((g.2.2.2.2.1[j]?).getD (0,0,false,())).1 (d:Int))<;>rfl
   ·rw[←h6]
    unfold Zc2
    cases (!(rn g.1 (j:Int)).2.2.2.2.2.2.1&&ZbI ((g.2.2.2.2.1[j]?).getD (0,0,false,())).1 (d:Int))<;>rfl
 ·rintro ⟨g,z⟩ ⟨hz,h1,h2,h3,h4,h5,h6⟩
  simp only at hz h1 h2 h3 h4 h5 h6
  subst hz
  rw[List.take_length] at h3
  simp only[ZaH,cond_false]
  exact⟨_,rfl,h1,h2,h3,h4,h5,h6⟩
end Q
namespace Q
open Tr Go
open Option (bind_some)
variable {n:ZaQ} {s0 t0 w:Int} {V:List Int} {T:Int}
def Vst (n:ZaQ) (i m:Nat) (g:ScT):Prop:=((Zac n i m).2.2.2.2.1=true→LeA g.2.2.2.1 (Zac n i m).1.toNat (Zac n i m).2.1∧LeY g.2.2.2.1 (Zac n i m).1.toNat ((Zac n i m).2.1+(ZdS n (Zac n i m).1).2.2.2.1)∧
 ∀p∈n.2.2.2.2.1,Wlk (Zac n i m).1 (Zac n i m).2.1 g.2.2.2.1 p)∧Zrm n i m g
theorem Vst.mono {i m:Nat} {g h:ScT} (y:Stp n V T g h) (z:Vst n i m g):Vst n i m h:=
 ⟨fun e=>let ⟨a,b,c⟩:=z.1 e;⟨y.arr _ _ a,y.rdy _ _ b,fun p hp=>(c p hp).mono y⟩,z.2.mono y⟩
def RC (n:ZaQ) (f:ScT):Prop:= ∀ (s:Nat) p,f.2.2.2.1[s]? =some p→p.2.1≠ -1→ ∀q∈n.2.2.2.2.1,Wlk (s:Int) p.2.1 f.2.2.2.1 q
theorem RC.step {f g:ScT} (h:RC n f) (y:Stp n V T f g) (hr: ∀j,Zbn g j=Zbn f j):RC n g:=by
 intro s p hp hne q hq
 have hs:=(List.getElem?_eq_some_iff.1 hp).1
 have hsf:s<f.2.2.2.1.length:=by rw[←y.pl];exact hs
 have e:=hr s
 unfold Zbn at e
 rw[hp,Zah hsf] at e
 simp only[Option.getD_some] at e
 rw[e] at hne ⊢
 exact(h s _ (List.getElem?_eq_getElem hsf) hne q hq).mono y
def ZfS (f:ScT) (i:Nat) (a:Int):ScT:=(f.1,f.2.1,f.2.2.1,f.2.2.2.1.modify i fun p=>(p.1,a,p.2.2),f.2.2.2.2)
theorem Zpy (f:ScT) {i:Nat} (hi:i<f.2.2.2.1.length) {a:Int} (ha:0≤a) (hl:ZbI (f.2.2.2.1[i]).2.1 a=true):Stp n V T f (ZfS f i a):=by
 have hp:ZiE V (ZfS f i a).2.2.2.1=ZiE V f.2.2.2.1:=by
  have:=ZhZ (fun p:ZdU=>ZiC V p.1+ZiC V p.2.2.1) hi ((f.2.2.2.1[i]).1,a,(f.2.2.2.1[i]).2.2)
  unfold ZiE ZfS
  rw[Zeg hi]
  simp only at this ⊢
  omega
 refine⟨rfl,rfl,⟨[],by simp [ZfS]⟩,by simp [ZfS],rfl,rfl,fun s t h=> ?_,fun s t h=> ?_,fun s t h=> ?_,fun _ _ h=>h,fun h=>h, .inr ⟨fun s t h=> ?_,fun s t h=> ?_,fun _ _ h=>h⟩,fun s t _ h=> ?_,fun _ _ _ _ _ h=>h, ?_,fun a b=> ?_⟩
 ·exact Zd9 (P:=fun p=>p.1≠ -1∧p.1≤t) (fun p hp=>hp) h
 ·obtain⟨p,h1,h2⟩:=h
  by_cases e:i=s
  ·subst e
   refine⟨_,ZdW h1 _, ?_⟩
   rw[List.getElem?_eq_getElem hi] at h1
   cases h1
   have:=ZbG.1 hl
   simp only
   omega
  ·exact⟨p,(Zfg e _).trans h1,h2⟩
 ·exact Zd9 (P:=fun p=>p.2.2.1≠ -1∧p.2.2.1≤t) (fun p hp=>hp) h
 ·exact ZbY (g:=fun p=>(p.1,a,p.2.2)) (P:=fun p=>p.1≠ -1∧p.1≤t) (fun p _ hp=>hp) h
 ·exact ZbY (g:=fun p=>(p.1,a,p.2.2)) (P:=fun p=>p.2.2.1≠ -1∧p.2.2.1≤t) (fun p _ hp=>hp) h
 ·exact ZbY (g:=fun p=>(p.1,a,p.2.2)) (P:=fun p=>p.2.2.1≠ -1∧p.2.2.1≤t) (fun p _ hp=>hp) h
 ·show ZiE V (ZfS f i a).2.2.2.1+Zkw f.2.2.2.2.1≤_
  rw[hp];exact Nat.le_refl _
 ·have b' :f.2.2.2.2.2.2.1=true:=b
  rename_i a'
  rw[a] at b';cases b'
theorem Snd.ride {D:Zl0→List Zc3→Prop} {f:ScT} (h:Snd D f) {i:Nat} {a:Int} (ha: ∃k js,D (.rid k (i:Int) a) js):Snd D (ZfS f i a):=by
 refine⟨fun s q hq=> ?_,h.brd⟩
 obtain⟨p,hp,⟨rfl,rfl⟩ | ⟨_,rfl⟩⟩:=ZeN hq
 ·exact⟨(h.pls i p hp).arr,fun _=>ha,(h.pls i p hp).rdy⟩
 ·exact h.pls s _ hp
structure SI (n:ZaQ) (s0 t0 w:Int) (f:ScT):Prop where
 net:f.1=n
 pl:f.2.2.2.1.length=n.1.length
 rl:f.2.2.2.2.1.length=n.2.2.1.length
 out:ZqB n f.2.2.2.2.2.1
 snd:Snd (Der n s0 t0 w) f
 rc:RC n f
theorem SI.step {f g:ScT} (h:SI n s0 t0 w f) (y:Stp n V T f g) (hs:Snd (Der n s0 t0 w) g) (hr:RC n g):SI n s0 t0 w g:=
 ⟨y.net.trans h.net,y.pl.trans h.pl,y.rl.trans h.rl,by rw[y.lks];exact h.out,hs,hr⟩
theorem Zny (C:Ctx n s0 t0 w) (hp:n.2.2.2.2.1.length≤4096) {f:ScT} (hI:SI n s0 t0 w f) (hl:f.2.2.1.length+4096<4000000000) {s:Nat} (hs:s<n.1.length) {a l:Int} {k:Nat} {js:List Zc3} (ha:0≤a∧a≤3155932800) (hT:T≤a) (hVa:a∈V) (hVr:a+(ZdS n (s:Int)).2.2.2.1∈V) (hVw: ∀p∈n.2.2.2.2.1,a+p.2.2.1∈V)
  (hch:Ch f.2.2.1 l js) (hd:Der n s0 t0 w (.rid k (s:Int) a) js):
  ∃g,(Option.bind (inb (s:Int) (List.length f.2.2.2.1)) fun x16=>
   Option.bind (idx f.1.1 (s:Int)) fun x17=>
   Option.bind (F84 f (s:Int) a (IntKind.wrap .i64 (a+x17.2.2.2.1)) l) fun x18=>
   Option.bind (Option.bind x18.2.2.2.1[x16]? fun x19=>
    bif decide (x19.2.1=(-1:Int)) then some true
    else Option.bind x18.2.2.2.1[x16]? fun x20=>some (decide (a<x20.2.1))) fun x21=>
   Option.bind (bif x21 then
    Option.bind x18.2.2.2.1[x16]? fun x22=>
    Option.bind (F87 (x18.1,x18.2.1,x18.2.2.1,List.set x18.2.2.2.1 x16 (x22.1,a,x22.2.2),x18.2.2.2.2.1,x18.2.2.2.2.2.1,x18.2.2.2.2.2.2.1,()) (s:Int) a l) fun x23=>some x23
    else some x18) fun x24=>some x24)=some g∧Stp n V T f g∧SI n s0 t0 w g∧g.2.2.1.length≤f.2.2.1.length+n.2.2.2.2.1.length∧
   (LeA g.2.2.2.1 s a∧LeY g.2.2.2.1 s (a+(ZdS n (s:Int)).2.2.2.1)∧ ∀p∈n.2.2.2.2.1,Wlk (s:Int) a g.2.2.2.1 p):=by
 have hcg:=C.net.change (s:Int) (by omega) (by omega)
 have hsl:s<f.2.2.2.1.length:=by rw[hI.pl];exact hs
 have hst:idx f.1.1 (s:Int)=some (ZdS n (s:Int)):=by rw[hI.net];exact(Zhj C.net.sound (by omega) (by omega)).1
 have w1:IntKind.wrap .i64 (a+(ZdS n (s:Int)).2.2.2.1)=a+(ZdS n (s:Int)).2.2.2.1:=Zat (by omega) (by omega)
 simp only[ZaW hsl,bind_some,hst,w1]
 rw[ZeJ f hsl]
 simp only[bind_some]
 have hr0:0≤a+(ZdS n (s:Int)).2.2.2.1:=by omega
 have m1:=Zif (n:=n) (T:=T) f hsl ha.1 hr0 (by omega) hVa hVr l
 have n1:=ZkE hsl ha.1 hr0 l
 have s1:=hI.snd.imp (i:=s) (l:=l) ⟨k,js,hch, .arrR hd⟩ ⟨k,js,hch, .change hd⟩
 have r1:=hI.rc.step m1 (ZgF f s a _ l)
 have I1:=hI.step m1 s1 r1
 have hlab: (ZiB f s a (a+(ZdS n (s:Int)).2.2.2.1) l).2.2.1=f.2.2.1:=rfl
 generalize ZiB f s a (a+(ZdS n (s:Int)).2.2.2.1) l=g at*
 have hsg:s<g.2.2.2.1.length:=by rw[m1.pl];exact hsl
 simp only[List.getElem?_eq_getElem hsg,bind_some]
 rw[ZeT]
 simp only[bind_some]
 cases hls:ZbI (g.2.2.2.1[s]).2.1 a with
 |false=>
  simp only[cond_false,bind_some]
  have hno:=ZkF hls
  refine⟨_,rfl,m1,I1,by rw[hlab];omega,n1.1,n1.2,fun p hp' => ?_⟩
  exact(r1 s _ (List.getElem?_eq_getElem hsg) hno.1 p hp').weak hno.2
 |true=>
  simp only[cond_true,bind_some]
  have e: (g.1,g.2.1,g.2.2.1,g.2.2.2.1.set s ((g.2.2.2.1[s]).1,a,(g.2.2.2.1[s]).2.2),g.2.2.2.2.1,g.2.2.2.2.2.1,g.2.2.2.2.2.2.1,())=ZfS g s a:=by
   unfold ZfS
   rw[Zeg hsg]
  rw[e]
  have m2:=Zpy (n:=n) (V:=V) (T:=T) g hsg ha.1 hls
  have s2:=s1.ride (i:=s) (a:=a) ⟨k,js,hd⟩
  have hgl: (ZfS g s a).2.2.1=f.2.2.1:=hlab
  obtain⟨h,w1,w2,w3,w4,w5,w6⟩:=ZmN C (V:=V) (T:=T) (s:=(s:Int)) (t:=a) (prev:=l) (m2.net.trans I1.net) (m2.pl.trans I1.pl) hp ha hT hVw (by rw[hgl];exact hl) (fun q hq e1 e2=>⟨.arrV hd hq e1 e2, .rdyV hd hq e1 e2⟩) s2 (by rw[hgl];exact hch)
  rw[w1]
  simp only[bind_some]
  have m3:=m2.trans w2
  have hrc:RC n h:=by
   intro y p hy hne q hq
   have hyl:=(List.getElem?_eq_some_iff.1 hy).1
   have hyg:y<g.2.2.2.1.length:=by rw[←m3.pl];exact hyl
   have e1:=w6 y
   unfold Zbn at e1
   rw[hy] at e1
   simp only[Option.getD_some] at e1
   by_cases ey:s=y
   ·subst ey
    have e2: (ZfS g s a).2.2.2.1[s]? =some ((g.2.2.2.1[s]).1,a,(g.2.2.2.1[s]).2.2):=ZdW (List.getElem?_eq_getElem hsg) _
    rw[e2] at e1
    simp only[Option.getD_some] at e1
    rw[e1]
    exact w4 q hq
   ·have e2: (ZfS g s a).2.2.2.1[y]? =some g.2.2.2.1[y]:=(Zfg ey _).trans (List.getElem?_eq_getElem hyg)
    rw[e2] at e1
    simp only[Option.getD_some] at e1
    rw[e1] at hne ⊢
    exact(r1 y _ (List.getElem?_eq_getElem hyg) hne q hq).mono m3
  refine⟨_,rfl,m1.trans m3,I1.step m3 w3 hrc,by rw[hgl] at w5;exact w5,m3.arr _ _ n1.1,m3.rdy _ _ n1.2,w4⟩
theorem ZqV (C:Ctx n s0 t0 w) (hp:n.2.2.2.2.1.length≤4096) {f:ScT} (hI:SI n s0 t0 w f) (hl:f.2.2.1.length+4097<4000000000) {i m:Nat} (hi:i<n.2.2.1.length) (hm:m+1< (ZaC n i).length) (hcn:ZbX n i=false)
  (hVa: (Zac n i (m+1)).2.1∈V) (hVr: (Zac n i (m+1)).2.1+(ZdS n (Zac n i (m+1)).1).2.2.2.1∈V) (hVw: ∀p∈n.2.2.2.2.1,(Zac n i (m+1)).2.1+p.2.2.1∈V):
  ∃g,F86 f (Zhb i (ZaC n i) m)=some g∧Stp n V (Zac n i m).2.2.1 f g∧SI n s0 t0 w g∧g.2.2.1.length≤f.2.2.1.length+1+n.2.2.2.2.1.length∧
   ((Zac n i m).2.2.2.1=true→LeY f.2.2.2.1 (Zac n i m).1.toNat (Zac n i m).2.2.1→LeB g.2.2.2.2.1 i (m:Int))∧(LeB g.2.2.2.2.1 i (m:Int)→Vst n i (m+1) g):=by
 have hs1:=C.net.stop hi (show m<_ by omega)
 have hs2:=C.net.stop hi hm
 have ht1:=C.net.time hi (show m<_ by omega)
 have ht2:=C.net.time hi hm
 have htt: (Zac n i m).2.2.1≤(Zac n i (m+1)).2.1:=by
  have ht:=C.net.sound.time _ (List.getElem_mem hi)
  have e:=Za8 hi
  have hm' :=hm
  rw[e] at hm'
  have h3:=(ht (m+1) hm').2.2.2 (by omega)
  have h4:Zac n i (m+1)=(n.2.2.1[i]).2.2.2.2.2.2.2.1[m+1]:=by
   unfold Zac cl;rw[Int.toNat_natCast,e,Zah hm']
  have h5:Zac n i m=(n.2.2.1[i]).2.2.2.2.2.2.2.1[m+1 - 1]:=by
   unfold Zac cl;rw[Int.toNat_natCast,e];exact Zah (show m<_ by omega) _
  rw[h4,h5]
  exact h3.2
 have hcon:Zhb i (ZaC n i) m=((i:Int),(m:Int),(Zac n i m).1,(Zac n i (m+1)).1,(Zac n i m).2.2.1,(Zac n i (m+1)).2.1,()):=rfl
 rw[hcon]
 unfold F86
 have e1:idx f.1.2.2.1 (i:Int)=some n.2.2.1[i]:=by rw[hI.net];exact Zai hi
 have hcl: (n.2.2.1[i]).2.2.2.2.2.2.2.1=ZaC n i:=(Za8 hi).symm
 have hm0:m< (ZaC n i).length:=by omega
 have e2:idx (ZaC n i) (m:Int)=some (Zac n i m):=by rw[Zai hm0,Zcb hm0]
 have w1:IntKind.wrap .i64 ((m:Int)+1)=((m+1:Nat):Int):=by
  have:=(C.net.sound.many _ (List.getElem_mem hi)).2
  rw[hcl] at this
  rw[Zat (by omega) (by omega)];omega
 have e3:idx (ZaC n i) ((m+1:Nat):Int)=some (Zac n i (m+1)):=by rw[Zai hm,Zcb hm]
 obtain⟨s,hs⟩: ∃s:Nat,(Zac n i m).1=(s:Int):=⟨(Zac n i m).1.toNat,by omega⟩
 have hsl:s<f.2.2.2.1.length:=by rw[hI.pl];omega
 have hir:i<f.2.2.2.2.1.length:=by rw[hI.rl];exact hi
 simp only[e1,bind_some,hs,ZaW hsl,List.getElem?_eq_getElem hsl,hcl,e2,w1,e3,Int.toNat_natCast]
 have hsp:=hI.snd.pls s _ (List.getElem?_eq_getElem hsl)
 have hYf: ∀t,LeY f.2.2.2.1 s t→(f.2.2.2.1[s]).2.2.1≠ -1∧(f.2.2.2.1[s]).2.2.1≤t:=by
  rintro t ⟨p,h1,h2⟩
  rw[List.getElem?_eq_getElem hsl] at h1
  cases h1
  exact h2
 generalize f.2.2.2.1[s]=p at*
 have ec: (bif (Zac n i m).2.2.2.1 then bif !decide (p.2.2.1=(-1:Int)) then some (decide (p.2.2.1≤(Zac n i m).2.2.1)) else some false else some false)=some ((Zac n i m).2.2.2.1&& (!decide (p.2.2.1=(-1:Int)) &&decide (p.2.2.1≤(Zac n i m).2.2.1))):=by
  cases (Zac n i m).2.2.2.1<;>cases decide (p.2.2.1=(-1:Int))<;>rfl
 rw[ec]
 simp only[bind_some]
 have hb: ∃g,(bif (Zac n i m).2.2.2.1&& (!decide (p.2.2.1=(-1:Int)) &&decide (p.2.2.1≤(Zac n i m).2.2.1)) then Option.bind (F82 f (i:Int) ((m:Int),p.2.2.2.2.1,false,())) fun x5=>some x5 else some f)=some g∧
   Stp n V (Zac n i m).2.2.1 f g∧SI n s0 t0 w g∧g.2.2.1=f.2.2.1∧((Zac n i m).2.2.2.1=true→LeY f.2.2.2.1 s (Zac n i m).2.2.1→LeB g.2.2.2.2.1 i (m:Int)):=by
  cases hc: ((Zac n i m).2.2.2.1&& (!decide (p.2.2.1=(-1:Int)) &&decide (p.2.2.1≤(Zac n i m).2.2.1))) with
  |false=>
   refine⟨f,rfl,Stp.refl f,hI,rfl,fun a b=> ?_⟩
   have:=hYf _ b
   rw[a,decide_eq_false this.1,decide_eq_true this.2] at hc
   cases hc
  |true=>
   rw[Bool.and_eq_true,Bool.and_eq_true,Bool.not_eq_true',decide_eq_false_iff_not,decide_eq_true_eq] at hc
   simp only[cond_true]
   rw[Zjr f (by rw[hI.net];exact hi) (by rw[hI.rl,hI.net])]
   simp only[bind_some]
   have hst:=Zjq (V:=V) (T:=(Zac n i m).2.2.1) C.net f hi hir hm0 (Int.le_refl _) p.2.2.2.2.1 false
   obtain⟨k,js,hch,hd⟩:=hsp.rdy hc.2.1
   have hsn:=hI.snd.board (i:=i) (b:=((m:Int),p.2.2.2.2.1,false,())) fun _=>fun _=>⟨k+1,m,rfl,js,hch, .board hd hi hm0 hcn hs hc.1 hc.2.2⟩
   have hrd: ∀j,Zbn (Zc2 f i ((m:Int),p.2.2.2.2.1,false,())) j=Zbn f j:=by
    intro j
    unfold Zbn Zc2
    cases (!(rn f.1 (i:Int)).2.2.2.2.2.2.1&&ZbI ((f.2.2.2.2.1[i]?).getD (0,0,false,())).1 (m:Int))<;>rfl
   refine⟨_,rfl,hst,hI.step hst hsn (hI.rc.step hst hrd),Zhy ..,fun _ _=> ?_⟩
   exact Zjt hir (b:=((m:Int),p.2.2.2.2.1,false,())) (by show (0:Int)≤(m:Int);omega) (by rw[hI.net];exact hcn)
 obtain⟨f6,b1,b2,b3,b4,b5⟩:=hb
 rw[b1]
 simp only[bind_some]
 have hir6:i<f6.2.2.2.2.1.length:=by rw[b3.rl];exact hi
 simp only[ZaW hir6,bind_some,List.getElem?_eq_getElem hir6]
 have hsb:=b3.snd.brd i _ (List.getElem?_eq_getElem hir6)
 have hLB:LeB f6.2.2.2.2.1 i (m:Int)→(f6.2.2.2.2.1[i]).1≠ -1∧(f6.2.2.2.2.1[i]).1≤(m:Int):=by
  rintro ⟨x,h1,h2⟩
  rw[List.getElem?_eq_getElem hir6] at h1
  cases h1
  exact h2
 generalize f6.2.2.2.2.1[i]=b at*
 by_cases c1:b.1= -1
 ·rw[decide_eq_true c1]
  exact⟨_,rfl,b2,b3,by rw[b4];omega,b5,fun e=>absurd c1 (hLB e).1⟩
 by_cases c2: (m:Int)<b.1
 ·rw[decide_eq_false c1,decide_eq_true c2]
  exact⟨_,rfl,b2,b3,by rw[b4];omega,b5,fun e=>absurd (hLB e).2 (Int.not_le.2 c2)⟩
 rw[decide_eq_false c1,decide_eq_false c2]
 simp only[cond_false,bind_some]
 obtain⟨k,c,hc,js,hch,hd⟩:=hsb c1
 obtain⟨bc,prev,st,u⟩:=b
 simp only at hc hch hd c1 c2
 subst hc
 have hon:=Der.on hd (show c<m+1 by omega) hm
 have hcc:c< (ZaC n i).length:=by omega
 have e4:idx (ZaC n i) (c:Int)=some (Zac n i c):=by rw[Zai hcc,Zcb hcc]
 have hio:i<f6.2.2.2.2.2.1.length:=by rw[b3.out.1];exact hi
 obtain⟨hkl,hks⟩:=b3.out.2 i _ (List.getElem?_eq_getElem hio)
 have ec2: (bif !(Zac n i (m+1)).2.2.2.2.1 then Option.bind (idx f6.2.2.2.2.2.1 (i:Int)) fun x11=>some (decide ((x11.length:Int)=(0:Int))) else some false)=some (!(Zac n i (m+1)).2.2.2.2.1&&decide (f6.2.2.2.2.2.1[i].length=0)):=by
  rw[Zai hio]
  simp only[bind_some]
  rw[show decide (((f6.2.2.2.2.2.1[i]).length:Int)=0)=decide ((f6.2.2.2.2.2.1[i]).length=0) from decide_eq_decide.2 (by omega)]
  cases (Zac n i (m+1)).2.2.2.2.1<;>rfl
 rw[ec2]
 simp only[bind_some]
 cases hskip: (!(Zac n i (m+1)).2.2.2.2.1&&decide (f6.2.2.2.2.2.1[i].length=0)) with
 |true=>
  simp only[cond_true]
  rw[Bool.and_eq_true,Bool.not_eq_true',decide_eq_true_eq] at hskip
  refine⟨_,rfl,b2,b3,by rw[b4];omega,b5,fun _=>⟨fun e=>(by rw[hskip.1] at e;cases e),fun j d sx a _ _ _=> ?_⟩⟩
  exfalso
  obtain⟨x,x1,x2⟩:=Zlg a
  have hx:=(hks x).2 ⟨x1,by rw[x2]⟩
  rw[List.length_eq_zero_iff.1 hskip.2] at hx
  cases hx
 |false=>
  simp only[cond_false,e4,bind_some]
  rw[Zm1 f6 (by rw[b4];omega)]
  simp only[bind_some]
  have hx: ((true,(i:Int),(c:Int),((m+1:Nat):Int),(Zac n i c).1,(Zac n i (m+1)).1,(Zac n i c).2.2.1,(Zac n i (m+1)).2.1,st,()):Zc3)=Zrz n i c (m+1) st:=rfl
  rw[hx]
  have hnew:=hch.new (Zrz n i c (m+1) st)
  generalize Zrz n i c (m+1) st=x at*
  have a7:=Zkj (n:=n) (V:=V) (T:=(Zac n i m).2.2.1) f6 x prev
  have I7:SI n s0 t0 w (Zmx f6 x prev):=b3.step a7 (b3.snd.add x prev) b3.rc
  have hl7: (Zmx f6 x prev).2.2.1.length=f.2.2.1.length+1:=by show (f6.2.2.1++[(x,prev,())]).length=_;rw[b4];simp
  have hch7:Ch (Zmx f6 x prev).2.2.1 (f6.2.2.1.length:Int) (js++[x]):=hnew
  generalize Zmx f6 x prev=f7 at*
  generalize (f6.2.2.1.length:Int)=l at*
  obtain⟨s',hs'⟩: ∃s' :Nat,(Zac n i (m+1)).1=(s' :Int):=⟨(Zac n i (m+1)).1.toNat,by omega⟩
  have hal: ∃g,(bif (Zac n i (m+1)).2.2.2.2.1 then(Option.bind (inb (s' :Int) (List.length f7.2.2.2.1)) fun x16=>
   Option.bind (idx f7.1.1 (s' :Int)) fun x17=>
   Option.bind (F84 f7 (s' :Int) (Zac n i (m+1)).2.1 (IntKind.wrap .i64 ((Zac n i (m+1)).2.1+x17.2.2.2.1)) l) fun x18=>
   Option.bind (Option.bind x18.2.2.2.1[x16]? fun x19=>
    bif decide (x19.2.1=(-1:Int)) then some true
    else Option.bind x18.2.2.2.1[x16]? fun x20=>some (decide ((Zac n i (m+1)).2.1<x20.2.1))) fun x21=>
   Option.bind (bif x21 then
    Option.bind x18.2.2.2.1[x16]? fun x22=>
    Option.bind (F87 (x18.1,x18.2.1,x18.2.2.1,List.set x18.2.2.2.1 x16 (x22.1,(Zac n i (m+1)).2.1,x22.2.2),x18.2.2.2.2.1,x18.2.2.2.2.2.1,x18.2.2.2.2.2.2.1,()) (s' :Int) (Zac n i (m+1)).2.1 l) fun x23=>some x23
    else some x18) fun x24=>some x24) else some f7)=some g∧Stp n V (Zac n i m).2.2.1 f7 g∧SI n s0 t0 w g∧g.2.2.1.length≤f7.2.2.1.length+n.2.2.2.2.1.length∧
    ((Zac n i (m+1)).2.2.2.2.1=true→LeA g.2.2.2.1 s' (Zac n i (m+1)).2.1∧LeY g.2.2.2.1 s' ((Zac n i (m+1)).2.1+(ZdS n (s' :Int)).2.2.2.1)∧ ∀p∈n.2.2.2.2.1,Wlk (s' :Int) (Zac n i (m+1)).2.1 g.2.2.2.1 p):=by
   cases hA: (Zac n i (m+1)).2.2.2.2.1 with
   |false=>exact⟨f7,rfl,Stp.refl f7,I7,by omega,fun e=>nomatch e⟩
   |true=>
    have hd' :=Der.ride hon hA
    rw[hs'] at hd' hVr
    obtain⟨g,g1,g2,g3,g4,g5⟩:=Zny C hp I7 (by rw[hl7];omega) (s:=s') (by omega) (a:=(Zac n i (m+1)).2.1) (l:=l) (T:=(Zac n i m).2.2.1) (V:=V) (by omega) htt hVa hVr hVw hch7 hd'
    exact⟨g,g1,g2,g3,g4,fun _=>g5⟩
  obtain⟨g,g1,g2,g3,g4,g5⟩:=hal
  rw[hs']
  erw[g1]
  simp only[bind_some]
  obtain⟨h,h1,h2,h3,h4,h5,h6,h7⟩:=Zot C (V:=V) (T:=(Zac n i m).2.2.1) g3.net g3.rl g3.out g3.snd (g2.ch hch7) hon htt
  rw[h1]
  simp only[bind_some]
  have hall:=(b2.trans a7).trans (g2.trans h2)
  refine⟨_,rfl,hall,g3.step h2 h3 (g3.rc.step h2 h6),by rw[h5];omega,fun a b=>((a7.trans g2).trans h2).brd _ _ (b5 a b),fun _=>⟨fun hA=> ?_,h4⟩⟩
  obtain⟨y1,y2,y3⟩:=g5 hA
  rw[hs',Int.toNat_natCast,h7]
  exact⟨y1,y2,y3⟩
end Q
namespace Q
open Tr Go
open Option (bind_some)
variable {n:ZaQ} {s0 t0 w:Int}
structure ZoE (n:ZaQ):Prop where
 stops:n.1.length≤8
 runs:n.2.2.1.length≤12
 paths:n.2.2.2.2.1.length≤100
 calls: (n.2.2.1.map fun r=>r.2.2.2.2.2.2.2.1.length).sum≤60
def ZqY (n:ZaQ) (c:ZbT):List Int:=c.2.1::(c.2.1+(ZdS n c.1).2.2.2.1)::n.2.2.2.2.1.map fun p=>c.2.1+p.2.2.1
def Zg3 (n:ZaQ) (t0 w:Int):List Int:=t0::(t0+w)::(n.2.2.2.2.1.map fun p=>t0+p.2.2.1)++n.2.2.1.flatMap fun r=>r.2.2.2.2.2.2.2.1.flatMap (ZqY n)
theorem Zli {α β:Type} (f:α→List β) (k:Nat): ∀ (l:List α),(∀x∈l,(f x).length≤k)→(l.flatMap f).length≤l.length*k
 | [],_=>by simp
 |a::l,h=>by
  have h1:=h a (by simp)
  have h2:=Zli f k l (fun x hx=>h x (by simp [hx]))
  rw[List.flatMap_cons,List.length_append,List.length_cons,Nat.succ_mul]
  omega
theorem Zls {α β:Type} (f:α→List β) (g:α→Nat): ∀ (l:List α),(∀x∈l,(f x).length≤g x)→(l.flatMap f).length≤(l.map g).sum
 | [],_=>by simp
 |a::l,h=>by
  have h1:=h a (by simp)
  have h2:=Zls f g l (fun x hx=>h x (by simp [hx]))
  rw[List.flatMap_cons,List.length_append,List.map_cons,List.sum_cons]
  omega
theorem ZnH {α:Type} (g:α→Nat) (k:Nat): ∀ (l:List α),(l.map fun x=>g x*k).sum=(l.map g).sum*k
 | []=>by simp
 |a::l=>by simp only[List.map_cons,List.sum_cons];rw[ZnH g k l,Nat.add_mul]
theorem Zph (h:ZoE n): (Zg3 n t0 w).length≤6222:=by
 have h3:=h.paths
 have h4:=h.calls
 unfold Zg3
 rw[List.length_append,List.length_cons,List.length_cons,List.length_map]
 have: (n.2.2.1.flatMap fun r=>r.2.2.2.2.2.2.2.1.flatMap (ZqY n)).length≤(n.2.2.1.map fun r=>r.2.2.2.2.2.2.2.1.length*102).sum:=by
  refine Zls _ _ _ fun r _=>Zli _ 102 _ fun c _=> ?_
  unfold ZqY
  simp only[List.length_cons,List.length_map]
  omega
 rw[ZnH] at this
 omega
theorem ZgV {i m:Nat} (hi:i<n.2.2.1.length) (hm:m< (ZaC n i).length) {v:Int} (hv:v∈ZqY n (Zac n i m)):v∈Zg3 n t0 w:=by
 unfold Zg3
 refine List.mem_append_right _ (List.mem_flatMap.2 ⟨_,List.getElem_mem hi,List.mem_flatMap.2 ⟨Zac n i m, ?_,hv⟩⟩)
 rw[Zcb hm]
 have e:=Za8 hi
 simp only[←e]
 exact List.getElem_mem hm
def Cls (n:ZaQ) (i m:Nat) (g:ScT):Prop:=((Zac n i m).2.2.2.1=true→LeY g.2.2.2.1 (Zac n i m).1.toNat (Zac n i m).2.2.1→LeB g.2.2.2.2.1 i (m:Int))∧(LeB g.2.2.2.2.1 i (m:Int)→Vst n i (m+1) g)
variable {V:List Int} {T:Int}
theorem Cls.late {i m:Nat} (hi:i<n.2.2.1.length) (hm:m< (ZaC n i).length) {f g:ScT} (h:Cls n i m f) (y:Stp n V T f g) (hT: (Zac n i m).2.2.1<T):Cls n i m g:=
 ⟨fun a b=>y.brd _ _ (h.1 a (y.late _ _ hT b)),fun a=>(h.2 (y.lateB i m hi hm hT a)).mono y⟩
theorem Cls.same {i m:Nat} {f g:ScT} (h:Cls n i m f) (y:Stp n V T f g) (hs:ZoA f g):Cls n i m g:=
 ⟨fun a b=>y.brd _ _ (h.1 a (hs.rdy _ _ b)),fun a=>(h.2 (hs.brd _ _ a)).mono y⟩
abbrev ZiK:=Int×Int×Int×Int×Int×Int×Unit
def Zh5 (n:ZaQ) (c:ZiK) (i m:Nat):Prop:=i<n.2.2.1.length∧m+1< (ZaC n i).length∧ZbX n i=false∧c=Zhb i (ZaC n i) m
theorem Zo0 {c:ZiK} (h:c∈Zhc n n.2.2.1.length): ∃i m,Zh5 n c i m:=by
 obtain⟨i,hi,hc,k,hk,e⟩:=ZoL h
 have e' :=Za8 hi
 rw[←e'] at hk e
 refine⟨i,k,hi,hk, ?_,e⟩
 unfold ZbX rn
 rw[Int.toNat_natCast,Zah hi]
 exact hc
theorem ZqO     (C : Ctx n s0 t0 w) (hZ : ZoE  n) (L : List ZiK   ) (hL : ∀ c ∈ L, ∃ i m, Zh5   n c i m ∧ (Zac    n i m).2.2.1 = T) (hLl : L.length ≤ 60) {f : ScT} (hI : SI n s0 t0 w f) (hl : f.2.2.1.length + 20000 < 4000000000) :
    ∃ g, run (fun s8 : ScT × Int => bif decide (s8.2 < (↑(List.length L) : Int)) then
        Option.bind (idx L s8.2) fun x9 => Option.bind (F86 s8.1 x9) fun x10 => some (.inl (x10, IntKind.wrap .i64 (s8.2 + (1 : Int))))
      else some (.inr s8.1)) (f, (0 : Int)) = some g ∧ Stp n (Zg3  n t0 w) T f g ∧ SI n s0 t0 w g ∧ g.2.2.1.length ≤ f.2.2.1.length + 6060 ∧
      (g.2.2.2.2.2.2.1 = false → ∀ c ∈ L, ∀ i m, Zh5   n c i m → Cls n i m g) := by
  have hp := hZ.paths
  have hmul : L.length * (1 + n.2.2.2.2.1.length) ≤ 60 * 101 := Nat.mul_le_mul hLl (by omega)
  suffices hsuf : ∃ g, run (fun s8 : ScT × Int => bif decide (s8.2 < (↑(List.length L) : Int)) then
        Option.bind (idx L s8.2) fun x9 => Option.bind (F86 s8.1 x9) fun x10 => some (.inl (x10, IntKind.wrap .i64 (s8.2 + (1 : Int))))
      else some (.inr s8.1)) (f, (0 : Int)) = some g ∧ (Stp n (Zg3  n t0 w) T f g ∧ SI n s0 t0 w g ∧ g.2.2.1.length ≤ f.2.2.1.length + L.length * (1 + n.2.2.2.2.1.length) ∧
      (g.2.2.2.2.2.2.1 = false → ∀ c ∈ L, ∀ i m, Zh5   n c i m → Cls n i m g)) by
    obtain ⟨g, g1, g2, g3, g4, g5⟩ := hsuf
    exact ⟨g, g1, g2, g3, by omega, g5⟩
  refine ZbD     L.length _ (fun k (st : ScT × Int) => st.2 = (k : Int) ∧ Stp n (Zg3  n t0 w) T f st.1 ∧ SI n s0 t0 w st.1 ∧ st.1.2.2.1.length ≤ f.2.2.1.length + k * (1 + n.2.2.2.2.1.length) ∧
      (st.1.2.2.2.2.2.2.1 = false → ∀ c ∈ L.take k, ∀ i m, Zh5   n c i m → Cls n i m st.1)) ?_ ?_ _ ⟨rfl, Stp.refl f, hI, by simp, fun _ => by simp⟩
  · rintro k ⟨g, j⟩ hk ⟨hj, h1, h2, h3, h4⟩
    simp only at hj h1 h2 h3 h4
    subst hj
    left
    simp only [ZaG    hk, cond_true, Zai     hk, bind_some, Zan       hk (show _ ≤ 9223372036854775807 by omega)]
    obtain ⟨i, m, hcon, hT⟩ := hL _ (List.getElem_mem hk)
    have hcon' := hcon
    obtain ⟨hi, hm, hcn, hc⟩ := hcon'
    rw [List.take_succ_eq_append_getElem hk]
    have hkm : k * (1 + n.2.2.2.2.1.length) ≤ 60 * 101 := Nat.mul_le_mul (by omega) (by omega)
    generalize L[k] = c at *
    subst hc
    obtain ⟨h, r1, r2, r3, r4, r5, r6⟩ := ZqV     (V := Zg3  n t0 w) C (by omega) h2 (by omega) hi hm hcn (ZgV       hi hm (by unfold ZqY ; simp)) (ZgV       hi hm (by unfold ZqY ; simp)) (fun p hp' => ZgV       hi hm (List.mem_cons_of_mem _ (List.mem_cons_of_mem _ (List.mem_map.2 ⟨p, hp', rfl⟩))))
    rw [r1]
    rw [hT] at r2
    refine ⟨_, rfl, rfl, h1.trans r2, r3, ?_, fun hmv c' hc' i' m' hcon' => ?_⟩
    · rw [Nat.succ_mul]
      simp only
      omega
    · have hmg : g.2.2.2.2.2.2.1 = false := by
        cases e : g.2.2.2.2.2.2.1 with
        | false => rfl
        | true => have := r2.mvd e; rw [hmv] at this; cases this
      have hsm : ZoA  g h := r2.same.resolve_left (by rw [hmv]; simp)
      rcases List.mem_append.1 hc' with hc' | hc'
      · exact (h4 hmg c' hc' i' m' hcon').same r2 hsm
      · simp only [List.mem_singleton] at hc'
        subst hc'
        obtain ⟨_, _, _, e⟩ := hcon'
        have e1 : i' = i ∧ m' = m := by
          unfold Zhb   at e
          simp only [Prod.mk.injEq, Int.natCast_inj] at e
          exact ⟨e.1.symm, e.2.1.symm⟩
        obtain ⟨rfl, rfl⟩ := e1
        exact ⟨fun a b => r5 a (hsm.rdy _ _ b), r6⟩
  · rintro ⟨g, j⟩ ⟨hj, h1, h2, h3, h4⟩
    simp only at hj h1 h2 h3 h4
    subst hj
    rw [List.take_length] at h4
    simp only [ZaH    , cond_false]
    exact ⟨_, rfl, h1, h2, h3, h4⟩
end Q
namespace Q
open Tr Go
open Option (bind_some)
variable {n:ZaQ} {s0 t0 w:Int}
def Bas (n:ZaQ) (s0 t0 w:Int) (g:ScT):Prop:=LeA g.2.2.2.1 s0.toNat t0∧LeY g.2.2.2.1 s0.toNat (t0+w)∧ ∀p∈n.2.2.2.2.1,Wlk s0 t0 g.2.2.2.1 p
theorem Bas.mono {V:List Int} {T:Int} {f g:ScT} (h:Bas n s0 t0 w f) (y:Stp n V T f g):Bas n s0 t0 w g:=⟨y.arr _ _ h.1,y.rdy _ _ h.2.1,fun p hp=>(h.2.2 p hp).mono y⟩
theorem Zln (n:ZaQ): ∀k,k≤n.2.2.1.length→(Zhc n k).length≤((n.2.2.1.take k).map fun r=>r.2.2.2.2.2.2.2.1.length).sum
 |0,_=>by simp [Zhc]
 |k+1,h=>by
  have ih:=Zln n k (by omega)
  rw[ZgA,List.take_succ_eq_append_getElem (show k<_ by omega),List.length_append,List.map_append,List.sum_append,Zah (show k<_ by omega)]
  have: (ZmB k n.2.2.1[k]).length≤(n.2.2.1[k]).2.2.2.2.2.2.2.1.length:=by
   unfold ZmB
   split
   ·simp
   ·unfold ZjX;simp
  simp only[List.map_cons,List.map_nil,List.sum_cons,List.sum_nil]
  omega
noncomputable def Ze9 (ys:List ZiK) (s4:ScT×Int):Option ((ScT×Int) ⊕ ScT):=
 bif decide (s4.2< (↑(List.length ys):Int)) then
 Option.bind (idx ys s4.2) fun x5=>
 Option.bind (F7 ys x5.2.2.2.2.1) fun x6=>
 Option.bind (sliceB (List.length ys) (List.length ys) (some s4.2) (some x6)) fun x7=>
 Option.bind
 (run
 (fun s8:ScT×Int=>
 bif decide (s8.2< (↑(List.length (List.take (x7.2 - x7.1) (List.drop x7.1 ys))):Int)) then
 Option.bind (idx (List.take (x7.2 - x7.1) (List.drop x7.1 ys)) s8.2) fun x9=>
 Option.bind (F86 s8.1 x9) fun x10=>
 some (.inl (x10,IntKind.wrap .i64 (s8.2+(1:Int))))
 else some (.inr s8.1))
 ((s4.1.1,s4.1.2.1,s4.1.2.2.1,s4.1.2.2.2.1,s4.1.2.2.2.2.1,s4.1.2.2.2.2.2.1,false,()),(0:Int)))
 fun x11=>
 bif x11.2.2.2.2.2.2.1 then some (.inl (x11,s4.2)) else some (.inl (x11,x6))
 else some (.inr s4.1)
theorem ZqC (C:Ctx n s0 t0 w) (hZ:ZoE n) {ys:List ZiK} (hys:ys.Perm (Zhc n n.2.2.1.length)) (hsort:ys.Pairwise ltC) (hlen:ys.length≤60): ∀ (μ:Nat) {s:ScT} {i:Nat},pot (Zg3 n t0 w) s+(ys.length - i)≤μ→i≤ys.length→SI n s0 t0 w s→Bas n s0 t0 w s→
  (∀j,j<i→ ∀k,i≤k→k<ys.length→Zhd ys j<Zhd ys k)→(∀c∈ys.take i, ∀a m,Zh5 n c a m→Cls n a m s)→s.2.2.1.length+6060*μ+20000<4000000000→
  ∃g,run (Ze9 ys) (s,(i:Int))=some g∧SI n s0 t0 w g∧Bas n s0 t0 w g∧(∀c∈ys, ∀a m,Zh5 n c a m→Cls n a m g)∧g.2.2.1.length<4000000000:=by
 intro μ
 induction μ with
 |zero=>
  intro s i hμ hi hI hB _ hC hl
  have:i=ys.length:=by omega
  subst this
  refine⟨s,ZbH ?_,hI,hB,by rw[List.take_length] at hC;exact hC,by omega⟩
  unfold Ze9
  simp only[ZaH,cond_false]
 |succ μ ih=>
  intro s i hμ hi hI hB hlt hC hl
  by_cases hend:i=ys.length
  ·subst hend
   refine⟨s,ZbH ?_,hI,hB,by rw[List.take_length] at hC;exact hC,by omega⟩
   unfold Ze9
   simp only[ZaH,cond_false]
  have hi' :i<ys.length:=by omega
  obtain⟨to,hto,hu,huk⟩:=Znz hsort (by omega) (Zhd ys i)
  have hdi:Zhd ys i=(ys[i]).2.2.2.2.1:=by unfold Zhd;rw[Zah hi']
  have hit:i<to:=(huk i hi').1 (Int.le_refl _)
  have hsl:sliceB ys.length ys.length (some (i:Int)) (some (to:Int))=some (i,to):=by
   unfold sliceB
   simp only[if_pos (show (0:Int)≤(to:Int)∧(to:Int)≤(ys.length:Int) from ⟨by omega,by omega⟩),bind_some,Int.toNat_natCast]
   rw[if_pos (show (0:Int)≤(i:Int)∧(i:Int)≤(to:Int) from ⟨by omega,by omega⟩)]
  have hL: ∀c∈(ys.drop i).take (to - i), ∃a m,Zh5 n c a m∧(Zac n a m).2.2.1=Zhd ys i:=by
   intro c hc
   obtain⟨j,hj,rfl⟩:=List.getElem_of_mem hc
   rw[List.length_take,List.length_drop] at hj
   have hjl:i+j<ys.length:=by omega
   have e: ((ys.drop i).take (to - i))[j]'(by rw[List.length_take,List.length_drop];exact hj)=ys[i+j]:=by
    rw[List.getElem_take,List.getElem_drop]
   rw[e]
   obtain⟨a,m,hcon⟩:=Zo0 (hys.mem_iff.1 (List.getElem_mem hjl))
   refine⟨a,m,hcon, ?_⟩
   have h1:Zhd ys (i+j)=(ys[i+j]).2.2.2.2.1:=by unfold Zhd;rw[Zah hjl]
   have h2: (ys[i+j]).2.2.2.2.1=(Zac n a m).2.2.1:=by rw[hcon.2.2.2];rfl
   have h3:Zhd ys i≤Zhd ys (i+j):=by
    by_cases e0:j=0
    ·subst e0;exact Int.le_refl _
    ·exact Zll hsort (by omega) hjl
   have h4:=(huk (i+j) hjl).2 (by omega)
   omega
  have hLl: ((ys.drop i).take (to - i)).length≤60:=by rw[List.length_take,List.length_drop];omega
  have hI0:SI n s0 t0 w (s.1,s.2.1,s.2.2.1,s.2.2.2.1,s.2.2.2.2.1,s.2.2.2.2.2.1,false,()):=⟨hI.net,hI.pl,hI.rl,hI.out,⟨hI.snd.pls,hI.snd.brd⟩,hI.rc⟩
  obtain⟨g,g1,g2,g3,g4,g5⟩:=ZqO C hZ ((ys.drop i).take (to - i)) hL hLl hI0 (by show s.2.2.1.length+20000<_;omega)
  have hlab:g.2.2.1.length≤s.2.2.1.length+6060:=g4
  have hpot:pot (Zg3 n t0 w) g≤pot (Zg3 n t0 w) s:=g2.pot
  have hB' :Bas n s0 t0 w g:=hB.mono (f:=s) (g:=g) (V:=Zg3 n t0 w) (T:=Zhd ys i) |> fun _=>⟨g2.arr _ _ hB.1,g2.rdy _ _ hB.2.1,fun p hp=>(show Wlk s0 t0 g.2.2.2.1 p from fun a b=>⟨g2.arr _ _ (hB.2.2 p hp a b).1,g2.rdy _ _ (hB.2.2 p hp a b).2⟩)⟩
  have hold: ∀c∈ys.take i, ∀a m,Zh5 n c a m→Cls n a m g:=by
   intro c hc a m hcon
   have h0:=hC c hc a m hcon
   obtain⟨j,hj,rfl⟩:=List.getElem_of_mem hc
   rw[List.length_take] at hj
   have hj' :j<i:=by omega
   have e: (ys.take i)[j]'(by rw[List.length_take];exact hj)=ys[j]'(by omega):=List.getElem_take
   rw[e] at hcon
   have h1:Zhd ys j=(Zac n a m).2.2.1:=by
    unfold Zhd
    rw[Zah (show j<ys.length by omega),hcon.2.2.2]
    rfl
   have h2:=hlt j hj' i (Nat.le_refl i) hi'
   exact Cls.late (f:=(s.1,s.2.1,s.2.2.1,s.2.2.2.1,s.2.2.2.2.1,s.2.2.2.2.2.1,false,())) hcon.1 (by have:=hcon.2.1;omega) h0 g2 (by omega)
  have hstep:Ze9 ys (s,(i:Int))=if g.2.2.2.2.2.2.1=true then some (.inl (g,(i:Int))) else some (.inl (g,(to:Int))):=by
   unfold Ze9
   simp only[ZaG hi',cond_true,Zai hi',bind_some]
   rw[←hdi,hu]
   simp only[bind_some,hsl]
   rw[g1]
   simp only[bind_some]
   cases g.2.2.2.2.2.2.1<;>rfl
  cases hmv:g.2.2.2.2.2.2.1 with
  |true=>
   rw[if_pos hmv] at hstep
   rw[ZcC hstep]
   have hfall:=g2.fall rfl hmv
   have hfall' :pot (Zg3 n t0 w) g<pot (Zg3 n t0 w) s:=hfall
   exact ih (by omega) hi g3 hB' hlt hold (by omega)
  |false=>
   rw[if_neg (by rw[hmv];simp)] at hstep
   rw[ZcC hstep]
   refine ih (by omega) hto g3 hB' (fun j hj k hk hkl=> ?_) (fun c hc a m hcon=> ?_) (by omega)
   ·have h1:=(huk j (by omega)).2 hj
    have h2: ¬Zhd ys k≤Zhd ys i:=fun e=>by have:=(huk k hkl).1 e;omega
    omega
   ·have e:ys.take to=ys.take i++(ys.drop i).take (to - i):=by
     rw[←List.take_add,show i+(to - i)=to by omega]
    rw[e] at hc
    rcases List.mem_append.1 hc with hc|hc
    ·exact hold c hc a m hcon
    ·exact g5 hmv c hc a m hcon
abbrev q11:ZdU:=(-1, -1, -1, -1, -1,())
abbrev b00:Zjy:=(-1, -1,false,())
def Zrl (n:ZaQ) (k:Nat) (out:List (List Int)):Prop:=out.length=n.2.2.1.length∧ ∀ (i:Nat) ks,out[i]? =some ks→ks.length≤k∧ ∀x:Int,x∈ks↔(0≤x∧x< (k:Int))∧(lkI n x).1=(i:Int)
theorem Zos {k:Nat} {out:List (List Int)} (h:Zrl n k out) {a:Nat} (ha: (lkI n (k:Int)).1=(a:Int)) (hl:a<out.length):Zrl n (k+1) (out.set a (out[a]++[(k:Int)])):=by
 refine⟨by rw[List.length_set];exact h.1,fun i ks hks=> ?_⟩
 have key: ∀ks' :List Int,out[a]? =some ks' →(ks' ++[(k:Int)]).length≤k+1∧ ∀x:Int,x∈ks' ++[(k:Int)]↔(0≤x∧x< ((k+1:Nat):Int))∧(lkI n x).1=(a:Int):=by
  intro ks' hk'
  obtain⟨h1,h2⟩:=h.2 a _ hk'
  refine⟨by simp;exact h1,fun x=> ?_⟩
  rw[List.mem_append,h2 x,List.mem_singleton]
  constructor
  ·rintro (⟨h3,h4⟩ |rfl)
   ·exact⟨by omega,h4⟩
   ·exact⟨by omega,ha⟩
  ·rintro ⟨h3,h4⟩
   by_cases e:x=(k:Int)
   ·exact .inr e
   ·exact .inl ⟨by omega,h4⟩
 by_cases e:a=i
 ·subst e
  rw[List.getElem?_set_self hl] at hks
  cases hks
  exact key _ (List.getElem?_eq_getElem hl)
 ·rw[List.getElem?_set_ne e] at hks
  obtain⟨h1,h2⟩:=h.2 i ks hks
  refine⟨by omega,fun x=> ?_⟩
  rw[h2 x]
  constructor
  ·rintro ⟨h3,h4⟩;exact⟨by omega,h4⟩
  ·rintro ⟨h3,h4⟩
   refine⟨⟨h3.1, ?_⟩,h4⟩
   by_cases e' :x=(k:Int)
   ·subst e';omega
   ·omega
theorem ZoT {out:List (List Int)} (hl:n.2.2.2.1.length≤1024) (h:Zrl n n.2.2.2.1.length out):ZqB n out:=by
 refine⟨h.1,fun i ks hks=> ?_⟩
 obtain⟨h1,h2⟩:=h.2 i ks hks
 exact⟨by omega,fun x=>by rw[h2 x,ZnK]⟩
theorem ZqI (j:Nat):Zar (ZiW (some (Int.toNat (j:Int))) j)=some ():=by
 rw[show ZiW (some (Int.toNat (j:Int))) j=true from Nat.beq_refl j];rfl
theorem Zpq {q:Zde} (C:Ctx n q.1 q.2.2.1 (bif q.2.2.2.2.2.2.2.2.2.1 then(ZdS n q.1).2.2.2.1 else 0)) (hZ:ZoE n):
  ∃g,F88 n q=some g∧SI n q.1 q.2.2.1 (bif q.2.2.2.2.2.2.2.2.2.1 then(ZdS n q.1).2.2.2.1 else 0) g∧Bas n q.1 q.2.2.1 (bif q.2.2.2.2.2.2.2.2.2.1 then(ZdS n q.1).2.2.2.1 else 0) g∧g.2.2.1.length≤100:=by
 have hS:=C.net.sound
 have hrn:=hS.runs
 have hst:=hS.stops
 have hlk:=hS.links
 have hcg:=C.net.change q.1 C.stop.1 C.stop.2
 have hsi:idx n.1 q.1=some (ZdS n q.1):=(Zhj hS C.stop.1 C.stop.2).1
 have hmx: (Zax:Int)=4294967296:=by simp [Zax]
 unfold F88
 have hg0:Zar (decide ((0:Int)≤(n.2.2.1.length:Int)∧(n.2.2.1.length:Int)≤(n.2.2.1.length:Int)∧(n.2.2.1.length:Int)≤(Zax:Int)))=some ():=by
  rw[decide_eq_true (by rw[hmx];omega)];rfl
 refine bex (fun _=>True) ⟨(),hg0,trivial⟩ fun _ _=> ?_
 refine bex (fun r:ScT=>r=(n,q,[],List.replicate n.1.length q11,[],List.replicate n.2.2.1.length [],false,())) ?_ ?_
 ·refine ZbD n.1.length _ (fun i (st:ScT×Int)=>st=((n,q,[],List.replicate i q11,[],List.replicate n.2.2.1.length [],false,()),(i:Int))) ?_ ?_ _ (by simp)
  ·rintro i _ hi rfl
   left
   simp only[ZaG hi,cond_true,Zan hi (show _≤9223372036854775807 by omega)]
   have hg:Zar (decide (List.length (List.replicate i q11)+List.length [q11]≤Zax))=some ():=Zbi (by simp;omega)
   erw[hg]
   simp only[bind_some]
   exact⟨_,rfl,by rw[List.replicate_succ']⟩
  ·rintro _ rfl
   simp only[ZaH,cond_false]
   exact⟨_,rfl,rfl⟩
 intro f1 hf1
 refine bex (fun r:ScT=>r=(n,q,[],List.replicate n.1.length q11,List.replicate n.2.2.1.length b00,List.replicate n.2.2.1.length [],false,())) ?_ ?_
 ·refine ZbD n.2.2.1.length _ (fun i (st:ScT×Int)=>st=((n,q,[],List.replicate n.1.length q11,List.replicate i b00,List.replicate n.2.2.1.length [],false,()),(i:Int))) ?_ ?_ _ (by rw[hf1];rfl)
  ·rintro i _ hi rfl
   left
   simp only[ZaG hi,cond_true,Zan hi (show _≤9223372036854775807 by omega)]
   have hg:Zar (decide (List.length (List.replicate i b00)+List.length [b00]≤Zax))=some ():=Zbi (by simp;omega)
   erw[hg]
   simp only[bind_some]
   exact⟨_,rfl,by rw[List.replicate_succ']⟩
  ·rintro _ rfl
   simp only[ZaH,cond_false]
   exact⟨_,rfl,rfl⟩
 intro f2 hf2
 refine bex (fun r:ScT=> ∃out,r=(n,q,[],List.replicate n.1.length q11,List.replicate n.2.2.1.length b00,out,false,())∧Zrl n n.2.2.2.1.length out) ?_ ?_
 ·refine ZbD n.2.2.2.1.length _ (fun i (st:ScT×Int)=>st.2=(i:Int)∧ ∃out,st.1=(n,q,[],List.replicate n.1.length q11,List.replicate n.2.2.1.length b00,out,false,())∧Zrl n i out) ?_ ?_ _ ⟨rfl,_,hf2, ?_⟩
  ·rintro i ⟨st,j⟩ hi ⟨hj,out,hst',hO⟩
   simp only at hj hst'
   subst hj hst'
   left
   have e1:lkI n (i:Int)=n.2.2.2.1[i]:=by unfold lkI;rw[Int.toNat_natCast,Zah hi]
   obtain⟨a,c,b,d,st,e,ha,_⟩:=C.net.link _ (List.getElem_mem hi)
   have hao:a<out.length:=by rw[hO.1];exact ha
   have hks:=(hO.2 a _ (List.getElem?_eq_getElem hao)).1
   simp only[ZaG hi,cond_true,Zai hi,bind_some,Zan hi (show _≤9223372036854775807 by omega),e,ZaW hao,List.getElem?_eq_getElem hao,Zai hao]
   have hg:Zar (decide (List.length out[a]+List.length [(i:Int)]≤Zax))=some ():=Zbi (by simp;omega)
   rw[hg]
   simp only[bind_some,ZqI]
   exact⟨_,rfl,rfl,_,rfl,Zos hO (by rw[e1,e]) hao⟩
  ·rintro ⟨st,j⟩ ⟨hj,out,hst',hO⟩
   simp only at hj hst'
   subst hj hst'
   simp only[ZaH,cond_false]
   exact⟨_,rfl,out,rfl,hO⟩
  ·refine⟨by simp,fun i ks hks=> ?_⟩
   have:=List.eq_of_mem_replicate (List.mem_of_getElem? hks)
   subst this
   exact⟨by simp,fun x=>⟨fun h=>(nomatch h),fun h=>by omega⟩⟩
 rintro f3 ⟨out,hf3,hO⟩
 have hOk:=ZoT hlk hO
 have ht:=C.time
 refine bex (fun r:ScT×Int=>r=(f3,q.2.2.1+(bif q.2.2.2.2.2.2.2.2.2.1 then(ZdS n q.1).2.2.2.1 else 0))) ?_ ?_
 ·cases q.2.2.2.2.2.2.2.2.2.1 with
  |false=>exact⟨_,rfl,by simp⟩
  |true=>
   simp only[cond_true,hsi,bind_some]
   exact⟨_,rfl,by rw[Zat (by omega) (by omega)]⟩
 rintro _ rfl
 generalize (bif q.2.2.2.2.2.2.2.2.2.1 then(ZdS n q.1).2.2.2.1 else 0)=w at*
 have hw:=C.wait
 obtain⟨a,ha⟩: ∃a:Nat,q.1=(a:Int):=⟨q.1.toNat,by have:=C.stop;omega⟩
 have hal:a<n.1.length:=by have:=C.stop;omega
 have e1:f3.1=n:=by rw[hf3]
 have e2:f3.2.2.1=[]:=by rw[hf3]
 have e3:f3.2.2.2.1=List.replicate n.1.length q11:=by rw[hf3]
 have e4:f3.2.2.2.2.1=List.replicate n.2.2.1.length b00:=by rw[hf3]
 have e5:f3.2.2.2.2.2.1=out:=by rw[hf3]
 have hp100:=hZ.paths
 have hI3:SI n q.1 q.2.2.1 w f3:=by
  refine⟨e1,by rw[e3];simp,by rw[e4];simp,by rw[e5];exact hOk,⟨fun s p hq' => ?_,fun i b hb=> ?_⟩,fun s p hq' hne=> ?_⟩
  ·rw[e3] at hq'
   rw[List.eq_of_mem_replicate (List.mem_of_getElem? hq')]
   exact⟨fun e=>absurd rfl e,fun e=>absurd rfl e,fun e=>absurd rfl e⟩
  ·rw[e4] at hb
   rw[List.eq_of_mem_replicate (List.mem_of_getElem? hb)]
   exact fun e=>absurd rfl e
  ·rw[e3] at hq'
   rw[List.eq_of_mem_replicate (List.mem_of_getElem? hq')] at hne
   exact absurd rfl hne
 have hVw: ∀p∈n.2.2.2.2.1,q.2.2.1+p.2.2.1∈Zg3 n q.2.2.1 w:=fun p hp=>List.mem_append_left _ (List.mem_cons_of_mem _ (List.mem_cons_of_mem _ (List.mem_map.2 ⟨p,hp,rfl⟩)))
 obtain⟨g,g1,g2,g3,g4,g5,g6⟩:=ZmN C (V:=Zg3 n q.2.2.1 w) (T:=0) (s:=q.1) (t:=q.2.2.1) (prev:= -1) (k:=0) (js:=[]) e1 hI3.pl (by omega) ht ht.1 hVw (by rw[e2];simp) (fun p hp' a1 a2=>⟨.arrW hp' a1 a2, .rdyW hp' a1 a2⟩) hI3.snd .nil
 have hI4:=hI3.step g2 g3 (hI3.rc.step g2 g6)
 refine bex (fun r=>r=g) ⟨_,g1,rfl⟩ fun x hx=> ?_
 rw[hx]
 have hag:a<g.2.2.2.1.length:=by rw[hI4.pl];exact hal
 have hw0:0≤q.2.2.1+w:=by omega
 have m2:=Zif (n:=n) (V:=Zg3 n q.2.2.1 w) (T:=0) g hag ht.1 hw0 hw0 (List.mem_append_left _ (List.mem_cons_self ..)) (List.mem_append_left _ (List.mem_cons_of_mem _ (List.mem_cons_self ..))) (-1)
 have n2:=ZkE hag ht.1 hw0 (-1)
 have h2:=g3.imp (i:=a) (a:=q.2.2.1) (r:=q.2.2.1+w) (l:= -1) ⟨0,[], .nil,by rw[←ha];exact .here⟩ ⟨0,[], .nil,by rw[←ha];exact .init⟩
 have hI5:=hI4.step m2 h2 (hI4.rc.step m2 (ZgF g a _ _ _))
 have hiv:=ZeJ g hag q.2.2.1 (q.2.2.1+w) (-1)
 rw[←ha] at hiv
 rw[hiv]
 refine⟨_,rfl,hI5,⟨?_, ?_,fun p hp' =>(g4 p hp').mono m2⟩, ?_⟩
 ·rw[ha,Int.toNat_natCast];exact n2.1
 ·rw[ha,Int.toNat_natCast];exact n2.2
 ·show g.2.2.1.length≤100
  rw[e2] at g5
  simp only[List.length_nil,Nat.zero_add] at g5
  omega
end Q
namespace Q
open Tr Go
open Option (bind_some)
variable {n:ZaQ} {s0 t0 w:Int}
noncomputable def ZoH (n:ZaQ) (q:Zde):Int:=bif !decide (ZmC n q=0) then ZmC n q else bif q.2.2.2.1 then 22 else 0
theorem ZlP {n:ZaQ} (h:Fit n) (q:Zde):F78 n q=some (ZoH n q):=by
 unfold F78 ZoH
 rw[ZiY h]
 simp only[bind_some]
 cases decide (ZmC n q=0)<;>cases q.2.2.2.1<;>rfl
theorem Zi7 {n:ZaQ} (h:Fit n) (q:Zde):F72 n q=some (ZoH n q):=by
 unfold F72 ZoH
 rw[Zpp h]
 simp only[bind_some]
 cases decide (ZmC n q=0)<;>cases q.2.2.2.1<;>rfl
theorem ZgM {n:ZaQ} {q:Zde} :ZoH n q=0↔ZmC n q=0∧q.2.2.2.1=false:=by
 unfold ZoH
 by_cases h:ZmC n q=0
 ·rw[decide_eq_true h]
  cases q.2.2.2.1<;>simp [h]
 ·rw[decide_eq_false h]
  simp [h]
structure ZlU (n:ZaQ) (s0 t0 w:Int) (g:ScT):Prop where
 si:SI n s0 t0 w g
 lab:g.2.2.1.length<4000000000
 arr: ∀ {k:Nat} {s t:Int} {js:List Zc3},Der n s0 t0 w (.arr k s t) js→LeA g.2.2.2.1 s.toNat t
theorem Zqv (C:Ctx n s0 t0 w) {g:ScT} (hI:SI n s0 t0 w g) (hl:g.2.2.1.length<4000000000) (hB:Bas n s0 t0 w g) (hC: ∀i m,i<n.2.2.1.length→m+1< (ZaC n i).length→ZbX n i=false→Cls n i m g):ZlU n s0 t0 w g:=by
 refine⟨hI,hl, ?_⟩
 have key: ∀ {f:Zl0} {js:List Zc3},Der n s0 t0 w f js→match f with
   | .rdy _ s r=>LeY g.2.2.2.1 s.toNat r
   | .brd _ i c _=>c+1< (ZaC n i).length→LeB g.2.2.2.2.1 i (c:Int)
   | .lnk _ i c=>ZbX n i=false→LeB g.2.2.2.2.1 i (c:Int)
   | .on _ i c=>Vst n i c g
   | .rid _ s t=>LeA g.2.2.2.1 s.toNat t∧LeY g.2.2.2.1 s.toNat (t+(ZdS n s).2.2.2.1)∧ ∀p∈n.2.2.2.2.1,Wlk s t g.2.2.2.1 p
   | .arr _ s t=>LeA g.2.2.2.1 s.toNat t:=by
  intro f js d
  induction d with
  |init=>exact hB.2.1
  |here=>exact hB.1
  |rdyW h1 h2 h3=>exact(hB.2.2 _ h1 h2 h3).2
  |arrW h1 h2 h3=>exact(hB.2.2 _ h1 h2 h3).1
  |board d h1 h2 h3 h4 h5 h6 ih=>
   intro hlast
   refine(hC _ _ h1 hlast h3).1 h5 ?_
   rw[h4]
   exact ih.weak h6
  | @on k i b c st js d h1 h2 ih=>
   obtain⟨x,x1,x2,x3⟩:=ih (by omega)
   obtain⟨c',rfl⟩: ∃c',c=c' +1:=⟨c - 1,by omega⟩
   have hok:=C.ok d
   exact(hC i c' hok.2.1 h2 hok.2.2.2).2 ⟨x,x1,x2,by omega⟩
  |stay d h1 h2 h3 ih=>exact fun _=>ih.2 _ _ _ h1 h2 (.inl rfl) h3
  |link d h1 h2 h3 h4 ih=>exact fun hc=>ih.2 _ _ _ h2 h3 (.inr ⟨h1,h4⟩) hc
  |linked d h1 ih=>exact fun _=>ih h1
  |ride d h1 ih=>exact ih.1 h1
  |change d ih=>exact ih.2.1
  |rdyV d h1 h2 h3 ih=>exact(ih.2.2 _ h1 h2 h3).2
  |arrR d ih=>exact ih.1
  |arrV d h1 h2 h3 ih=>exact(ih.2.2 _ h1 h2 h3).1
 exact @fun _ _ _ _ d=>key d
theorem ZqS (hZ:ZoE n) {g:ScT} (hp:g.2.2.2.1.length=n.1.length) (hr:g.2.2.2.2.1.length=n.2.2.1.length) (hb: ∀b∈g.2.2.2.2.1,b.1≤40):pot (Zg3 n t0 w) g≤100032:=by
 have hm:=Zph (t0:=t0) (w:=w) hZ
 have h1: ∀l:List ZdU,ZiE (Zg3 n t0 w) l≤l.length*12444:=by
  intro l
  unfold ZiE
  induction l with
  |nil=>simp
  |cons p l ih=>
   have a:=ZnU (Zg3 n t0 w) p.1
   have b:=ZnU (Zg3 n t0 w) p.2.2.1
   simp only[List.map_cons,List.sum_cons,List.length_cons]
   omega
 have h2: ∀l:List Zjy,(∀b∈l,b.1≤40)→Zkw l≤l.length*40:=by
  intro l hl
  unfold Zkw
  induction l with
  |nil=>simp
  |cons b l ih=>
   have:=ih (fun x hx=>hl x (by simp [hx]))
   have hb:=hl b (by simp)
   have:Zqj b≤40:=by
    unfold Zqj
    split
    ·omega
    ·omega
   simp only[List.map_cons,List.sum_cons,List.length_cons]
   omega
 have a:=h1 g.2.2.2.1
 have b:=h2 g.2.2.2.2.1 hb
 have hs:=hZ.stops
 have hn:=hZ.runs
 unfold pot
 have c:g.2.2.2.1.length*12444≤8*12444:=Nat.mul_le_mul_right _ (by omega)
 have d:g.2.2.2.2.1.length*40≤12*40:=Nat.mul_le_mul_right _ (by omega)
 omega
theorem ZlR {n:ZaQ} (h:ZoE n) (q:Zde):ZoE (Za6 n q):=by
 refine⟨h.stops,by show (n.2.2.1.map _).length≤_;rw[List.length_map];exact h.runs, ?_, ?_⟩
 ·show (Zdg n q).length≤_
  have:=h.paths
  unfold Zdg
  split
  ·exact Nat.le_trans (List.length_filter_le _ _) this
  ·exact this
 ·show ((n.2.2.1.map (Zcn n q)).map _).sum≤_
  rw[List.map_map]
  have: ((fun r:Zhf=>r.2.2.2.2.2.2.2.1.length) ∘Zcn n q)=fun r=>r.2.2.2.2.2.2.2.1.length:=by
   funext r
   show ((r.2.2.2.2.2.2.2.1).map (Zco n q)).length=_
   rw[List.length_map]
  rw[this]
  exact h.calls
theorem ZqE {n:ZaQ} (h:Zfz n) {s0:Int} (hs:0≤s0∧s0< (n.1.length:Int)) (b:Bool):0≤(bif b then(ZdS n s0).2.2.2.1 else 0)∧(bif b then(ZdS n s0).2.2.2.1 else 0)≤3600:=by
 cases b with
 |false=>exact⟨by simp,by simp⟩
 |true=>exact h.change s0 hs.1 hs.2
theorem ZkK {n0:ZaQ} {q:Zde} (hfit:Fit n0) (hfew:Few n0) (hZ0:ZoE n0) (hq:ZoH n0 q=0): ∃g,F79 n0 q=some (g,0)∧Ctx (Za6 n0 q) q.1 q.2.2.1 (bif q.2.2.2.2.2.2.2.2.2.1 then(ZdS (Za6 n0 q) q.1).2.2.2.1 else 0)∧Whole n0∧qB n0.1.length q=true∧q.2.2.2.1=false∧
  ZlU (Za6 n0 q) q.1 q.2.2.1 (bif q.2.2.2.2.2.2.2.2.2.1 then(ZdS (Za6 n0 q) q.1).2.2.2.1 else 0) g:=by
 have hck:=ZlP hfit q
 rw[hq] at hck
 have hq0:=ZgM.1 hq
 obtain⟨hw0,hqb⟩:=ZgG.1 hq0.1
 have hcq:=ZiY hfit q
 rw[hq0.1] at hcq
 have hal:=Zkx hw0.sound hfew q hcq
 have hw:=Zg1 q hfit.paths hw0
 have hfa:=Zjf q hfit
 have hn:=hw.ok
 have hZ:=ZlR hZ0 q
 have hqb' :=hqb
 unfold qB inR at hqb'
 simp only[Bool.and_eq_true,decide_eq_true_eq] at hqb'
 obtain⟨hs0,_,ht0,hm,_⟩:=hqb'
 have hs0' :0≤q.1∧q.1< ((Za6 n0 q).1.length:Int):=hs0
 have hwt:=ZqE hn hs0' q.2.2.2.2.2.2.2.2.2.1
 have C:Ctx (Za6 n0 q) q.1 q.2.2.1 (bif q.2.2.2.2.2.2.2.2.2.1 then(ZdS (Za6 n0 q) q.1).2.2.2.1 else 0):=⟨hn,hs0',ht0,hwt⟩
 obtain⟨g0,s1,s2,s3,s4⟩:=Zpq C hZ
 obtain⟨r,r1,_,_,r4⟩:=ZoD hfa
 have hr0:r.2.2=0:=by
  obtain⟨r',r1',_,r3'⟩:=Zfl _ hfa
  rw[r1] at r1'
  cases r1'
  exact r3'.2 hw
 obtain⟨_,ys,y1,y2,y3⟩:=r4 hr0
 have hlen:ys.length≤60:=by
  have h1:=Zln (Za6 n0 q) _ (Nat.le_refl _)
  rw[List.take_length] at h1
  have h2:=y2.length_eq
  have h3:=hZ.calls
  omega
 have hpot:pot (Zg3 (Za6 n0 q) q.2.2.1 (bif q.2.2.2.2.2.2.2.2.2.1 then(ZdS (Za6 n0 q) q.1).2.2.2.1 else 0)) g0≤100032:=by
  refine ZqS hZ s2.pl s2.rl fun b hb=> ?_
  obtain⟨i,hi,rfl⟩:=List.getElem_of_mem hb
  by_cases e: (g0.2.2.2.2.1[i]).1= -1
  ·rw[e];decide
  ·obtain⟨k,c,hc,js,_,hd⟩:=s2.snd.brd i _ (List.getElem?_eq_getElem hi) e
   have hok:=C.ok hd
   have h32:c<32:=by
    have h1:=(hn.sound.many _ (List.getElem_mem hok.2.1)).2
    have h2:=hok.2.2.1
    rw[Za8 hok.2.1] at h2
    exact Nat.lt_of_lt_of_le h2 h1
   rw[hc]
   omega
 obtain⟨g,g1,g2,g3,g4,g5⟩:=ZqC C hZ y2 y3 hlen (100032+60) (s:=g0) (i:=0) (by omega) (Nat.zero_le _) s2 s3 (fun j hj=>absurd hj (Nat.not_lt_zero j)) (by simp) (by omega)
 refine⟨g, ?_,C,hw0,hqb,hq0.2,Zqv C g2 g5 g3 fun i m hi hm hc=> ?_⟩
 ·unfold F79
  rw[hck]
  simp only[bind_some,decide_true,Bool.not_true,cond_false]
  rw[hal]
  simp only[bind_some]
  rw[s1]
  simp only[bind_some]
  rw[y1]
  simp only[bind_some,decide_true,Bool.not_true,cond_false]
  refine Zd7 (fun r=>r=g) ⟨_,g1,rfl⟩ fun r hr=>by rw[hr]
 ·exact g4 _ (y2.mem_iff.2 (Zqx hi hm hc)) i m ⟨hi,hm,hc,rfl⟩
end Q
namespace Q
open Tr Go
open Option (bind_some)
theorem Zce:F34=some true:=by kernel_rfl
theorem ZrT {n:ZaQ} (h:ZkT Y31 n) (hp:n.2.2.2.2.1.length≤4096):Fit n:=by
 obtain⟨⟨_,h1⟩,⟨_,h2⟩,⟨_,h3⟩,_,_,⟨⟨_,h6⟩,_⟩,_⟩:=h
 refine⟨fun x hx=> ?_,fun x hx=> ?_,fun x hx=> ?_,fun x hx=> ?_,hp,fun x hx=> ?_⟩
 ·exact(h1 x hx).1
 ·exact(h2 x hx).1
 ·exact(h3 x hx).2.2.2.1
 ·exact(h3 x hx).2.2.2.2.2.2.2.1.1
 ·exact(h6 x hx).1
def Zgo (l:List Zhf):Nat:=(l.map fun r=>r.2.2.2.2.2.2.2.1.length).sum
theorem ZjZ {l:List Zhf} {i:Nat} (h:i<l.length):Zgo (l.take (i+1))=Zgo (l.take i)+(l[i]).2.2.2.2.2.2.2.1.length:=by
 unfold Zgo
 rw[List.take_succ_eq_append_getElem h,List.map_append,List.sum_append]
 simp
theorem ZjO {n:ZaQ} (hr:n.2.2.1.length≤12): ∃k:Int,F32 n=some k∧((∀x∈n.2.2.1,x.2.2.2.2.2.2.2.1.length≤4096)→k≤60→Zgo n.2.2.1≤60):=by
 unfold F32
 have key: ∀o:Option Int,(∃r,o=some r∧((∀x∈n.2.2.1,x.2.2.2.2.2.2.2.1.length≤4096)→r≤60→Zgo n.2.2.1≤60))→ ∃k:Int,(Option.bind o fun x3=>some x3)=some k∧((∀x∈n.2.2.1,x.2.2.2.2.2.2.2.1.length≤4096)→k≤60→Zgo n.2.2.1≤60):=by
  rintro o ⟨r,rfl,h⟩
  exact⟨r,rfl,h⟩
 refine key _ ?_
 refine ZbD n.2.2.1.length _ (fun i (st:Int×Int)=>st.2=(i:Int)∧((∀x∈n.2.2.1,x.2.2.2.2.2.2.2.1.length≤4096)→st.1=(Zgo (n.2.2.1.take i):Int))) ?_ ?_ _ ⟨rfl,fun _=>rfl⟩
 ·rintro i ⟨a,j⟩ hi ⟨hj,ha⟩
  simp only at hj ha
  subst hj
  simp only[ZaG hi,cond_true,bind_some]
  by_cases h60:a≤60
  ·left
   rw[decide_eq_true h60]
   simp only[cond_true,Zai hi,bind_some,Zan hi (show _≤9223372036854775807 by omega)]
   refine⟨_,rfl,rfl,fun hall=> ?_⟩
   have hx:=hall _ (List.getElem_mem hi)
   rw[ZjZ hi]
   have ha' :=ha hall
   show IntKind.wrap .i64 _=_
   rw[Zat (by omega) (by omega)]
   omega
  ·right
   rw[decide_eq_false h60]
   exact⟨_,rfl,fun _ e=>absurd e h60⟩
 ·rintro ⟨a,j⟩ ⟨hj,ha⟩
  simp only at hj ha
  subst hj
  rw[List.take_length] at ha
  simp only[ZaH,cond_false,bind_some]
  exact⟨_,rfl,fun hall e=>by have:=ha hall;omega⟩
theorem Zke {n:ZaQ} (h:Whole n): ∀x∈n.2.2.1,x.2.2.2.2.2.2.2.1.length≤4096:=fun x hx=>by have:=(h.sound.many x hx).2;omega
theorem ZmK {n:ZaQ} (h:ZkT Y31 n): ∃b,F35 n=some b∧(b=false→Fit n∧(Whole n→ZoE n∧Few n)):=by
 unfold F35
 by_cases h1: (8:Int)< (n.1.length:Int)
 ·rw[decide_eq_true h1];exact⟨true,rfl,fun e=>(nomatch e)⟩
 by_cases h2: (10:Int)< (n.2.1.length:Int)
 ·rw[decide_eq_false h1,decide_eq_true h2];exact⟨true,rfl,fun e=>(nomatch e)⟩
 by_cases h3: (12:Int)< (n.2.2.1.length:Int)
 ·rw[decide_eq_false h1,decide_eq_false h2,decide_eq_true h3];exact⟨true,rfl,fun e=>(nomatch e)⟩
 by_cases h4: (40:Int)< (n.2.2.2.1.length:Int)
 ·rw[decide_eq_false h1,decide_eq_false h2,decide_eq_false h3,decide_eq_true h4];exact⟨true,rfl,fun e=>(nomatch e)⟩
 by_cases h5: (100:Int)< (n.2.2.2.2.1.length:Int)
 ·rw[decide_eq_false h1,decide_eq_false h2,decide_eq_false h3,decide_eq_false h4,decide_eq_true h5];exact⟨true,rfl,fun e=>(nomatch e)⟩
 by_cases h6: (20:Int)< (n.2.2.2.2.2.1.1.length:Int)
 ·rw[decide_eq_false h1,decide_eq_false h2,decide_eq_false h3,decide_eq_false h4,decide_eq_false h5,decide_eq_true h6];exact⟨true,rfl,fun e=>(nomatch e)⟩
 rw[decide_eq_false h1,decide_eq_false h2,decide_eq_false h3,decide_eq_false h4,decide_eq_false h5,decide_eq_false h6]
 simp only[cond_false]
 obtain⟨k,k1,k2⟩:=ZjO (n:=n) (by omega)
 rw[k1]
 simp only[bind_some]
 by_cases hk: (60:Int)<k
 ·rw[decide_eq_true hk];exact⟨true,rfl,fun e=>(nomatch e)⟩
 ·rw[decide_eq_false hk]
  refine⟨false,rfl,fun _=>⟨ZrT h (by omega),fun hw=> ?_⟩⟩
  have hall:=Zke hw
  have hsum: (n.2.2.1.map fun r=>r.2.2.2.2.2.2.2.1.length).sum≤60:=k2 hall (by omega)
  exact⟨⟨by omega,by omega,by omega,hsum⟩,by omega,by omega,by omega,by omega,by omega,by omega,hall⟩
def Zrg (g:ScT) (s:Nat):ZdU:=(g.2.2.2.1[s]?).getD q11
def arrV (g:ScT) (s:Nat):Int:=(Zrg g s).1
def Ziv (g:ScT):List Int:=g.2.2.2.1.map fun p=>p.1
theorem ZmG {n0:ZaQ} {q:Zde} {g:ScT} (h:F79 n0 q=some (g,0)): (F79S.f (n0,q,())).isSome=true:=by
 show (F79 n0 q).isSome=true
 rw[h];rfl
theorem ZfO {n0:ZaQ} {q:Zde} {g:ScT} (hl:g.2.2.2.1.length≤64) (h:F79 n0 q=some (g,0)):F75 n0 q=some (Ziv g,0):=by
 unfold F75
 rw[ZmG h,h]
 simp only[cond_true,bind_some,decide_true,Bool.not_true,cond_false]
 refine Zd7 (fun r=>r=Ziv g) ?_ (fun r hr=>by rw[hr])
 refine ZbD g.2.2.2.1.length _ (fun i (st:List Int×List ZdU×Int)=>st=((g.2.2.2.1.take i).map (fun p=>p.1),g.2.2.2.1,(i:Int))) ?_ ?_ _ rfl
 ·rintro i _ hi rfl
  left
  have hg:Zar (decide (List.length ((g.2.2.2.1.take i).map fun p=>p.1)+List.length [(g.2.2.2.1[i]).1]≤Zax))=some ():=Zbi (by simp;omega)
  simp only[ZaG hi,cond_true,ZaW hi,bind_some,List.getElem?_eq_getElem hi,Zan hi (show _≤9223372036854775807 by omega),hg]
  exact⟨_,rfl,by rw[List.take_succ_eq_append_getElem hi,List.map_append];rfl⟩
 ·rintro _ rfl
  simp only[ZaH,cond_false,List.take_length]
  exact⟨_,rfl,rfl⟩
variable {n:ZaQ} {s0 t0 w:Int} {g:ScT}
theorem ZlU.idxA (D:ZlU n s0 t0 w g) {s:Nat} (hs:s<n.1.length):idx (Ziv g) (s:Int)=some (arrV g s):=by
 have hl:s<g.2.2.2.1.length:=by rw[D.si.pl];exact hs
 have hl2:s< (Ziv g).length:=by unfold Ziv;rw[List.length_map];exact hl
 have e: (Ziv g)[s]=arrV g s:=by unfold arrV Zrg;rw[Zah hl];simp [Ziv]
 rw[Zai hl2,e]
theorem ZlU.len (D:ZlU n s0 t0 w g): (Ziv g).length=n.1.length:=by unfold Ziv;rw[List.length_map,D.si.pl]
theorem ZlU.sound (D:ZlU n s0 t0 w g) {s:Nat} (h:arrV g s≠ -1): ∃k js,Ch g.2.2.1 (Zrg g s).2.2.2.1 js∧Der n s0 t0 w (.arr k (s:Int) (arrV g s)) js:=by
 unfold arrV Zrg at*
 by_cases hs:s<g.2.2.2.1.length
 ·rw[Zah hs] at h ⊢
  exact(D.si.snd.pls s _ (List.getElem?_eq_getElem hs)).arr h
 ·rw[List.getElem?_eq_none (by omega)] at h
  exact absurd rfl h
theorem ZlU.complete (D:ZlU n s0 t0 w g) {s:Nat} {k:Nat} {t:Int} {js:List Zc3} (d:Der n s0 t0 w (.arr k (s:Int) t) js):arrV g s≠ -1∧arrV g s≤t:=by
 obtain⟨p,p1,p2⟩:=D.arr d
 rw[Int.toNat_natCast] at p1
 unfold arrV Zrg
 rw[p1]
 exact p2
theorem ZlU.nonneg (C:Ctx n s0 t0 w) (D:ZlU n s0 t0 w g) (s:Nat):arrV g s= -1∨0≤arrV g s∧arrV g s≤3155932800:=by
 by_cases h:arrV g s= -1
 ·exact .inl h
 right
 obtain⟨k,js,_,d⟩:=D.sound h
 exact(C.ok d).2
end Q
namespace Q
open Tr Go Gr
open Option (bind_some)
variable {n:ZaQ} {s0 t0 w:Int} {g:ScT}
theorem tri {k:Nat} (hk:k≤64) {l:List Zb4} (hl:l.length≤4096) (hz: ∀i,i<l.length→Zbl k l i=0) (hc: ∀c,F57 l (k:Int)=some c→Zbk c l=true) {p r:Zb4} (hp:p∈l) (hr:r∈l) (hpr:p.2.1=r.1) (hne:p.1≠r.2.1) (hs:p.2.2.1+r.2.2.1≤14400):
  ∃x∈l,x.1=p.1∧x.2.1=r.2.1∧x.2.2.1≤p.2.2.1+r.2.2.1:=by
 have hF:=ZlG hz
 obtain⟨c0,a1,a2,_⟩:=ZdJ hk hF hl
 have v0:=Zdz hk hF hl (fun a b=>(ZgC hF a b).imp id fun h=>h.2)
 rw[a1] at v0
 have e0:=Zhl (hc c0 a2)
 have v0:=Option.some.inj v0
 have h1:=hF p hp
 have h2:=hF r hr
 obtain⟨a,ha⟩: ∃a:Nat,p.1=(a:Int):=⟨p.1.toNat,by omega⟩
 obtain⟨b,hb⟩: ∃a:Nat,p.2.1=(a:Int):=⟨p.2.1.toNat,by omega⟩
 obtain⟨c,hcc⟩: ∃a:Nat,r.2.1=(a:Int):=⟨r.2.1.toNat,by omega⟩
 have hac:a≠c:=by omega
 have hw: ∀u v w,EdP l false u v w→0≤w:=fun u v w h=>by have:=ZfN hF false u v w h;omega
 have hwk:Wk (EdP l false) a c (0+p.2.2.1+r.2.2.1):= .snoc (.snoc .nil ⟨p,hp,(fun(h:false=true)=>by cases h),ha,hb,rfl⟩) ⟨r,hr,(fun(h:false=true)=>by cases h),by rw[←hpr,hb],hcc,rfl⟩
 obtain⟨d,hd⟩:=ZfH hw _ _ rfl hwk
 have hle:=hd.2 _ hwk
 have hpos:1≤d:=by
  rcases hd.1.wb (n:=k) (fun u v w h=>⟨(ZfN hF false u v w h).1,(ZfN hF false u v w h).2.1⟩) with ⟨h,_⟩ |h
  ·exact absurd h.symm hac
  ·exact ZpV (fun u v w h=>(ZfN hF false u v w h).2.2) h
 have hmem: ((a:Int),(c:Int),d,decide (Za2 (EdP l true) a c=d),())∈c0:=by
  rw[v0]
  unfold ZeM Zig
  refine List.mem_flatMap.2 ⟨a,List.mem_range.2 (by omega),List.mem_flatMap.2 ⟨c,List.mem_range.2 (by omega), ?_⟩⟩
  rw[if_neg hac]
  show _∈Zcm a c (Za2 (EdP l false) a c) (Za2 (EdP l true) a c)
  unfold Zcm
  rw[ZcU hd]
  refine List.mem_append_left _ ?_
  rw[if_pos ⟨by omega,by omega⟩]
  exact List.mem_singleton.2 rfl
 rw[e0] at hmem
 exact⟨_,hmem,ha.symm,hcc.symm,by show d≤_;omega⟩
theorem Zi9 (h:Zfz n) {i m:Nat} (hi:i<n.2.2.1.length) (hm:m+1< (ZaC n i).length): (Zac n i m).2.2.1≤(Zac n i (m+1)).2.1:=by
 have ht:=h.sound.time _ (List.getElem_mem hi)
 have e:=Za8 hi
 have hm' :=hm
 rw[e] at hm'
 have h3:=(ht (m+1) hm').2.2.2 (by omega)
 have h4:Zac n i (m+1)=(n.2.2.1[i]).2.2.2.2.2.2.2.1[m+1]:=by
  unfold Zac cl;rw[Int.toNat_natCast,e,Zah hm']
 have h5:Zac n i m=(n.2.2.1[i]).2.2.2.2.2.2.2.1[m+1 - 1]:=by
  unfold Zac cl;rw[Int.toNat_natCast,e];exact Zah (show m<_ by omega) _
 rw[h4,h5]
 exact h3.2
theorem ZhU (h:Zfz n) {i b:Nat} (hi:i<n.2.2.1.length): ∀m,b+m+1< (ZaC n i).length→(Zac n i b).2.2.1≤(Zac n i (b+m+1)).2.1
 |0,hm=>Zi9 h hi hm
 |m+1,hm=>by
  have h1:=ZhU (b:=b) h hi m (by omega)
  have h2:=h.time hi (show b+m+1< (ZaC n i).length by omega)
  have h3:=Zi9 h hi hm
  show _≤(Zac n i (b+m+1+1)).2.1
  exact Int.le_trans h1 (Int.le_trans h2.2.1 h3)
theorem Der.after (C:Ctx n s0 t0 w) {f:Zl0} {js:List Zc3} (d:Der n s0 t0 w f js):match f with
  | .rdy _ _ r=>t0≤r
  | .brd _ i c _=>t0≤(Zac n i c).2.2.1
  | .lnk _ i c=>t0≤(Zac n i c).2.2.1
  | .on _ i c=>t0≤(Zac n i c).2.1
  | .rid _ _ t=>t0≤t
  | .arr _ _ t=>t0≤t:=by
 have hw:=C.wait
 induction d with
 |init=>show t0≤t0+w;omega
 |here=>exact Int.le_refl _
 |rdyW h1 h2 h3=>have:=C.net.path _ h1;show t0≤t0+_;omega
 |arrW h1 h2 h3=>have:=C.net.path _ h1;show t0≤t0+_;omega
 |board d h1 h2 h3 h4 h5 h6 ih=>exact Int.le_trans ih h6
 | @on k i b c st js d h1 h2 ih=>
  have hok:=C.ok d
  have:=ZhU C.net hok.2.1 (b:=b) (c - b - 1) (by omega)
  rw[show b+(c - b - 1)+1=c by omega] at this
  exact Int.le_trans ih this
 |stay d h1 h2 h3 ih=>exact Int.le_trans ih h2
 |link d h1 h2 h3 h4 ih=>exact Int.le_trans ih h3
 |linked d h1 ih=>exact ih
 |ride d h1 ih=>exact ih
 |change d ih=>
  have hok:=C.ok d
  have:=C.net.change _ hok.2.1.1 hok.2.1.2
  show t0≤_+_
  have ih' :t0≤_:=ih
  omega
 |rdyV d h1 h2 h3 ih=>have:=C.net.path _ h1;have ih' :t0≤_:=ih;show t0≤_+_;omega
 |arrR d ih=>exact ih
 |arrV d h1 h2 h3 ih=>have:=C.net.path _ h1;have ih' :t0≤_:=ih;show t0≤_+_;omega
theorem Der.sooner {n:ZaQ} {s0 t0 t1 w:Int} (h01:t0≤t1) {f:Zl0} {js:List Zc3} (d:Der n s0 t1 w f js):
  match f with
  | .rdy k s r=> ∃r',r' ≤r∧ ∃ks,Der n s0 t0 w (.rdy k s r') ks
  | .brd k i c st=> ∃ks,Der n s0 t0 w (.brd k i c st) ks
  | .lnk k i c=> ∃ks,Der n s0 t0 w (.lnk k i c) ks
  | .on k i c=> ∃ks,Der n s0 t0 w (.on k i c) ks
  | .rid k s t=> ∃ks,Der n s0 t0 w (.rid k s t) ks
  | .arr k s t=> ∃t',t' ≤t∧ ∃ks,Der n s0 t0 w (.arr k s t') ks:=by
 induction d with
 |init=>exact⟨_,by omega,_, .init⟩
 |here=>exact⟨_,h01,_, .here⟩
 |rdyW hp hs hm=>exact⟨_,by omega,_, .rdyW hp hs (by omega)⟩
 |arrW hp hs hm=>exact⟨_,by omega,_, .arrW hp hs (by omega)⟩
 |board _ hi hc hx hs hb hr ih=>obtain⟨r',h1,ks,h2⟩:=ih;exact⟨ks, .board h2 hi hc hx hs hb (by omega)⟩
 |on _ h1 h2 ih=>obtain⟨ks,h3⟩:=ih;exact⟨_, .on h3 h1 h2⟩
 |stay _ h1 h2 h3 ih=>obtain⟨ks,h4⟩:=ih;exact⟨_, .stay h4 h1 h2 h3⟩
 |link _ h1 h2 h3 h4 ih=>obtain⟨ks,h5⟩:=ih;exact⟨_, .link h5 h1 h2 h3 h4⟩
 |linked _ h1 ih=>obtain⟨ks,h5⟩:=ih;exact⟨_, .linked h5 h1⟩
 |ride _ h1 ih=>obtain⟨ks,h5⟩:=ih;exact⟨_, .ride h5 h1⟩
 |change _ ih=>obtain⟨ks,h5⟩:=ih;exact⟨_,Int.le_refl _,_, .change h5⟩
 |rdyV _ h1 h2 h3 ih=>obtain⟨ks,h5⟩:=ih;exact⟨_,Int.le_refl _,_, .rdyV h5 h1 h2 h3⟩
 |arrR _ ih=>obtain⟨ks,h5⟩:=ih;exact⟨_,Int.le_refl _,_, .arrR h5⟩
 |arrV _ h1 h2 h3 ih=>obtain⟨ks,h5⟩:=ih;exact⟨_,Int.le_refl _,_, .arrV h5 h1 h2 h3⟩
theorem ZoW (C:Ctx n s0 t0 w) (hW:Whole n) (hp:n.2.2.2.2.1.length≤4096) (D:ZlU n s0 t0 w g) {p:Zb4} (hpm:p∈n.2.2.2.2.1) {x y:Nat} (hx:p.1=(x:Int)) (hy:p.2.1=(y:Int)) (hv:arrV g x≠ -1) (hlim:arrV g x+p.2.2.1≤t0+14400) (hmax:arrV g x+p.2.2.1≤3155932800):
  arrV g y≠ -1∧arrV g y≤arrV g x+p.2.2.1:=by
 obtain⟨k,js,_,d⟩:=D.sound hv
 have hpp:=C.net.path p hpm
 have htri:=fun {p r:Zb4} =>tri (k:=n.1.length) (by have:=C.net.sound.stops;omega) hp (Zay.1 hW.q) hW.w (p:=p) (r:=r)
 generalize hvv:arrV g x=v at*
 generalize hxx: (x:Int)=xx at*
 cases d with
 |here=>
  have d:=Der.arrW (w:=w) hpm hx hmax
  rw[hy] at d
  exact D.complete d
 | @arrW p0 h1 h2 h3=>
  have hp0:=C.net.path _ h1
  by_cases e:p0.1=p.2.1
  ·have d:=Der.here (n:=n) (s0:=s0) (t0:=t0) (w:=w)
   rw[←h2,e,hy] at d
   have:=D.complete (s:=y) (k:=0) (t:=t0) (js:=[]) (by rw[←h2,e,hy];exact d)
   exact⟨this.1,by omega⟩
  ·obtain⟨z,z1,z2,z3,z4⟩:=htri h1 hpm hx.symm e (by omega)
   have d:=Der.arrW (w:=w) (s0:=s0) (t0:=t0) z1 (by rw[z2,h2]) (by omega)
   rw[z3,hy] at d
   have:=D.complete d
   exact⟨this.1,by omega⟩
 |arrR d=>
  have d:=Der.arrV d hpm hx hmax
  rw[hy] at d
  exact D.complete d
 | @arrV _ s t js' p0 d h1 h2 h3=>
  have hp0:=C.net.path _ h1
  have haf:t0≤t:=Der.after C d
  by_cases e:p0.1=p.2.1
  ·have d' :=Der.arrR d
   rw[←h2,e,hy] at d'
   have:=D.complete d'
   exact⟨this.1,by omega⟩
  ·obtain⟨z,z1,z2,z3,z4⟩:=htri h1 hpm hx.symm e (by omega)
   have d' :=Der.arrV d z1 (by rw[z2,h2]) (by omega)
   rw[z3,hy] at d'
   have:=D.complete d'
   exact⟨this.1,by omega⟩
theorem ZlI (n:ZaQ) (q:Zde) (t:Int):Za6 n (q.1,q.2.1,t,q.2.2.2)=Za6 n q:=rfl
theorem Zma {n:ZaQ} {q:Zde} {p:Zb4} :p∈Zdg n q↔p∈n.2.2.2.2.1∧(p.2.2.2.1=true∨q.2.2.2.2.2.2.1=false):=by
 unfold Zdg
 cases q.2.2.2.2.2.2.1 with
 |true=>simp
 |false=>simp
theorem Zp3 (n:ZaQ) (h:ZkT Y31 n) (q:Zde) (ls:Int):F31 n q ls=some true:=by
 unfold F31
 obtain⟨b,hb1,hb2⟩:=ZmK h
 rw[hb1]
 cases b with
 |true=>simp only[bind_some,cond_true,Zce]
 |false=>
  obtain⟨hfit,hsz⟩:=hb2 rfl
  simp only[bind_some,cond_false]
  rw[Zi7 hfit]
  simp only[bind_some]
  by_cases hc:ZoH n q=0
  rotate_left
  ·rw[decide_eq_false hc]
   simp only[Bool.not_false,cond_true,bind_some,Zce]
  rw[decide_eq_true hc]
  simp only[Bool.not_true,cond_false]
  have hw0:=(ZgG.1 (ZgM.1 hc).1).1
  obtain⟨hZ,hfew⟩:=hsz hw0
  obtain⟨g,g1,C,hw,hqb,hbk,D⟩:=ZkK hfit hfew hZ hc
  have hqb' :=hqb
  unfold qB inR at hqb'
  simp only[Bool.and_eq_true,decide_eq_true_eq] at hqb'
  obtain⟨hs0,hs1,ht0,hrest⟩:=hqb'
  have hst: (Za6 n q).1.length=n.1.length:=rfl
  have hst2:=hZ.stops
  have hWA:=Zg1 q hfit.paths hw0
  have hpA: (Za6 n q).2.2.2.2.1.length≤4096:=(Zjf q hfit).paths
  rw[ZfO (by rw[D.si.pl,hst];omega) g1]
  obtain⟨a,ha⟩: ∃a:Nat,q.1=(a:Int):=⟨q.1.toNat,by omega⟩
  have hal:a< (Za6 n q).1.length:=by rw[hst];omega
  have hfrom:arrV g a=q.2.2.1:=by
   have d:=Der.here (n:=Za6 n q) (s0:=q.1) (t0:=q.2.2.1) (w:=(bif q.2.2.2.2.2.2.2.2.2.1 then(ZdS (Za6 n q) q.1).2.2.2.1 else 0))
   rw[ha] at d
   have h1:=D.complete (s:=a) (k:=0) (t:=q.2.2.1) (js:=[]) (by rw[ha];exact d)
   obtain⟨k,js,_,d'⟩:=D.sound h1.1
   have h2:q.2.2.1≤arrV g a:=Der.after C d'
   omega
  have ei:=D.idxA hal
  rw[←ha,hfrom] at ei
  simp only[bind_some,decide_true,Bool.not_true,cond_false,D.len,hst,ei]
  have w14:IntKind.wrap .i64 (q.2.2.1+14400)=q.2.2.1+14400:=Zat (by omega) (by omega)
  refine Zd7 (fun r=>r= .inl ()) ?_ ?_
  ·refine ZbD n.2.2.2.2.1.length _ (fun k (s:Int)=>s=(k:Int)) ?_ ?_ _ rfl
   ·rintro k _ hk rfl
    left
    have hpm:=List.getElem_mem hk
    have hpo:=hw0.ok.path _ hpm
    simp only[ZaG hk,cond_true,Zai hk,bind_some,Zan hk (show _≤9223372036854775807 by have:=hfit.paths;omega),w14]
    generalize n.2.2.2.2.1[k]=p at*
    obtain⟨x,hx⟩: ∃x:Nat,p.1=(x:Int):=⟨p.1.toNat,by omega⟩
    obtain⟨y,hy⟩: ∃y:Nat,p.2.1=(y:Int):=⟨p.2.1.toNat,by omega⟩
    have hxl:x< (Za6 n q).1.length:=by rw[hst];omega
    have hyl:y< (Za6 n q).1.length:=by rw[hst];omega
    simp only[hx,hy,D.idxA hxl,D.idxA hyl,bind_some]
    have hnx:=D.nonneg C x
    have hny:=D.nonneg C y
    by_cases hfree:p.2.2.2.1=true∨q.2.2.2.2.2.2.1=false
    rotate_left
    ·have a1:p.2.2.2.1=false:=by cases h:p.2.2.2.1<;>simp_all
     have a2:q.2.2.2.2.2.2.1=true:=by cases h:q.2.2.2.2.2.2.1<;>simp_all
     rw[a1,a2]
     exact⟨_,rfl,rfl⟩
    have e4: ∀B:Option Bool,(bif !p.2.2.2.1 then bif q.2.2.2.2.2.2.1 then some true else B else B)=B:=by
     intro B
     rcases hfree with e|e<;>rw[e]
     ·rfl
     ·cases p.2.2.2.1<;>rfl
    rw[e4]
    by_cases h1:arrV g x= -1
    ·rw[decide_eq_true (show arrV g x<0 by omega)]
     exact⟨_,rfl,rfl⟩
    rw[decide_eq_false (show¬arrV g x<0 by omega)]
    simp only[cond_false]
    by_cases h2:q.2.2.1+14400<arrV g x
    ·rw[decide_eq_true h2]
     exact⟨_,rfl,rfl⟩
    rw[decide_eq_false h2]
    simp only[cond_false,bind_some,ZjP]
    have w2:IntKind.wrap .i64 (arrV g x+p.2.2.1)=arrV g x+p.2.2.1:=Zat (by omega) (by omega)
    rw[w2]
    by_cases h3:min (q.2.2.1+14400) 3155932800<arrV g x+p.2.2.1
    ·rw[decide_eq_true h3]
     exact⟨_,rfl,rfl⟩
    rw[decide_eq_false h3]
    simp only[cond_false]
    have hon:=ZoW C hWA hpA D (p:=p) (Zma.2 ⟨hpm,hfree⟩) hx hy h1 (by omega) (by omega)
    rw[decide_eq_false (show¬arrV g y<0 by omega),decide_eq_false (show¬arrV g x+p.2.2.1<arrV g y by omega)]
    exact⟨_,rfl,rfl⟩
   ·rintro _ rfl
    simp only[ZaH,cond_false]
    exact⟨_,rfl,rfl⟩
  ·rintro _ rfl
   simp only[Sum.elim_inl]
   by_cases l1:ls<0
   ·rw[decide_eq_true l1]
    simp only[cond_true,bind_some,Zce]
   by_cases l2:q.2.2.1<ls
   ·rw[decide_eq_false l1,decide_eq_true l2]
    simp only[cond_true,cond_false,bind_some,Zce]
   rw[decide_eq_false l1,decide_eq_false l2]
   have w3:IntKind.wrap .i64 (q.2.2.1 - ls)=q.2.2.1 - ls:=Zat (by omega) (by omega)
   simp only[cond_false,bind_some,w3]
   have hc' :ZoH n (q.1,q.2.1,q.2.2.1 - ls,q.2.2.2)=0:=by
    refine ZgM.2 ⟨ZgG.2 ⟨hw0, ?_⟩,hbk⟩
    unfold qB inR
    simp only[Bool.and_eq_true,decide_eq_true_eq]
    exact⟨hs0,hs1,by omega,hrest⟩
   obtain⟨g',g1',C',_,_,_,D'⟩:=ZkK hfit hfew hZ hc'
   simp only[ZlI] at C' D'
   rw[ZfO (by rw[D'.si.pl,hst];omega) g1']
   simp only[bind_some,decide_true,Bool.not_true,cond_false,D'.len,hst]
   refine Zd7 (fun r=>r= .inl ()) ?_ (by rintro _ rfl;simp only[Sum.elim_inl,Zce,bind_some])
   refine ZbD n.1.length _ (fun k (s:Int)=>s=(k:Int)) ?_ ?_ _ rfl
   ·rintro k _ hk rfl
    left
    have hkl:k< (Za6 n q).1.length:=by rw[hst];exact hk
    simp only[ZaG hk,cond_true,D.idxA hkl,D'.idxA hkl,bind_some,Zan hk (show _≤9223372036854775807 by omega)]
    have hnx:=D.nonneg C k
    have hny:=D'.nonneg C' k
    by_cases h1:arrV g k= -1
    ·rw[decide_eq_false (show¬ (0:Int)≤arrV g k by omega)]
     exact⟨_,rfl,rfl⟩
    ·obtain⟨kk,js,_,d⟩:=D.sound h1
     obtain⟨t',ht',ks,d'⟩:=d.sooner (t0:=q.2.2.1 - ls) (by omega)
     have hcm:=D'.complete d'
     rw[decide_eq_true (show (0:Int)≤arrV g k by omega),decide_eq_false (show¬arrV g' k<0 by omega),decide_eq_false (show¬arrV g k<arrV g' k by omega)]
     exact⟨_,rfl,rfl⟩
   ·rintro _ rfl
    simp only[ZaH,cond_false]
    exact⟨_,rfl,rfl⟩
theorem walks42P (x:Zdk F31A) (h:ZiR F31A x):F31 x.1 x.2.1 x.2.2.1=some true:=Zp3 _ h.1 _ _
end Q
