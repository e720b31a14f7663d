/- filter: usable runs, open stops, the allowed network; queries. Conditions: the network is valid, its lists are short. -/
import Derived.KernelRfl
import Derived.Test.YtckebckjnfcniaaGreatJLwJa2842
import Derived.Test.YtckebckjnfcniaaGreatTsF
import Derived.Test.YtckebckjnfcniaaGreatTtA
namespace Q
open Tr Go
open Option (bind_some)
theorem ZpP {α β τ:Type} {step:List β×Int→Option ((List β×Int) ⊕ τ)} (l:List α) (f:α→List β) (R:List β→τ)
  (hstep: ∀i (hi:i<l.length),step ((l.take i).flatMap f,(i:Int))=some (.inl ((l.take i).flatMap f++f l[i],((i+1:Nat):Int))))
  (hend:step (l.flatMap f,(l.length:Int))=some (.inr (R (l.flatMap f)))):run step ([],(0:Int))=some (R (l.flatMap f)):=by
 refine Exists.elim (Za3 (step:=step) l.length (fun r=>r=R (l.flatMap f)) (fun i st=>st=((l.take i).flatMap f,(i:Int))) ?_ ?_ ([],(0:Int)) (by simp)) ?_
 ·rintro i _ hi rfl
  left
  refine⟨_,hstep i hi, ?_⟩
  rw[List.take_succ_eq_append_getElem hi,List.flatMap_append]
  simp
 ·rintro _ rfl
  rw[List.take_length]
  exact⟨_,hend,rfl⟩
 ·rintro r ⟨h1,rfl⟩
  exact h1
theorem ZpD {α β:Type} (f:α→β) (l:List α):l.flatMap (fun x=>[f x])=l.map f:=by
 induction l with
 |nil=>rfl
 |cons x l ih=>simp [ih]
theorem ZlX {α β:Type} {f:α→List β} (hf: ∀x,(f x).length≤1) (l:List α): (l.flatMap f).length≤l.length:=by
 induction l with
 |nil=>simp
 |cons x l ih=>have:=hf x;simp;simp at ih;omega
abbrev Zbp:=Int×Int×Int×Bool×Int×Int×Bool×Bool×Int×Bool×Unit
def Zr3 (n:ZaJ) (r:Zhp):ZeL:=(n.2.1[r.2.2.2.2.1.toNat]?).getD r0
def Zq2 (n:ZaJ) (q:Zbp) (r:Zhp):Bool:=Tr.useB q r (Zr3 n r)
def s0:Zi8:=([],0,false,0,())
def Zdl (n:ZaJ) (s:Int):Zi8:=(n.1[s.toNat]?).getD s0
def Zhu (n:ZaJ) (q:Zbp) (s:Int):Bool:=(Zdl n s).2.2.1|| !q.2.2.2.2.2.2.1
def Zbs (n:ZaJ) (q:Zbp) (c:ZbN):ZbN:=if Zhu n q c.1 then c else(c.1,c.2.1,c.2.2.1,false,false,())
theorem ZqO {n:ZaJ} (hS:Zfv n) {r:Zhp} (hr:r∈n.2.2.1):idx n.2.1 r.2.2.2.2.1=some (Zr3 n r)∧Zr3 n r∈n.2.1:=by
 have h:=hS.route _ hr
 have hi:inR r.2.2.2.2.1 n.2.1.length=true:=by simp [inR];omega
 refine⟨Zb2 hi r0, ?_⟩
 unfold Zr3
 rw[Zaj (show r.2.2.2.2.1.toNat<n.2.1.length by omega)]
 exact List.getElem_mem _
theorem Zq9 {n:ZaJ} (hS:Zfv n) (q:Zbp) {r:Zhp} (hr:r∈n.2.2.1):F15 n q r=some (Zq2 n q r):=by
 obtain⟨h1,h2⟩:=ZqO hS hr
 have hm:=(hS.mode _ h2).1
 unfold F15 Tr.useF
 rw[h1]
 simp only[bind_some,show decide ((0:Int)≤(Zr3 n r).2.1)=true from decide_eq_true hm,Bool.or_true,cond_true]
 rfl
theorem Zst {n:ZaJ} (hS:Zfv n) {r:Zhp} (hr:r∈n.2.2.1) {c:ZbN} (hc:c∈r.2.2.2.2.2.2.2.1):idx n.1 c.1=some (Zdl n c.1):=by
 have h:=hS.call _ hr _ hc
 exact Zb2 (show inR c.1 n.1.length=true by simp [inR];omega) s0
theorem Zpx {n:ZaJ} (q:Zbp) {s:Int} (h:idx n.1 s=some (Zdl n s)):F14 n q s=some (Zhu n q s):=by
 unfold F14
 rw[h]
 simp only[bind_some]
 unfold Zhu
 cases (Zdl n s).2.2.1<;>rfl
theorem Zms {n:ZaJ} (hS:Zfv n) (q:Zbp) {r:Zhp} (hr:r∈n.2.2.1):F13 n q r.2.2.2.2.2.2.2.1=some (r.2.2.2.2.2.2.2.1.map (Zbs n q)):=by
 have hl:=(hS.many _ hr).2
 unfold F13
 rw[ZpP r.2.2.2.2.2.2.2.1 (fun c=>[Zbs n q c]) id ?_ ?_]
 ·simp only[bind_some,id,ZpD,List.length_map]
  generalize hm:r.2.2.2.2.2.2.2.1.map (Zbs n q)=m
  have hlen:m.length=r.2.2.2.2.2.2.2.1.length:=by rw[←hm,List.length_map]
  rw[←hlen]
  have e1:inb (m.length:Int) (m.length+1)=some m.length:=by
   unfold inb;rw[if_pos (by omega)];simp
  have e2:sliceB m.length m.length none (some (m.length:Int))=some (0,m.length):=by
   unfold sliceB
   simp only[if_pos (show (0:Int)≤(m.length:Int)∧(m.length:Int)≤(m.length:Int) from ⟨by omega,by omega⟩),bind_some,Int.toNat_natCast]
  rw[e1]
  simp only[bind_some]
  rw[e2]
  simp
 ·intro i hi
  have hc:=List.getElem_mem hi
  simp only[Zay hi,cond_true,Zah hi,bind_some]
  rw[Zpx q (Zst hS hr hc)]
  have hb:=ZlX (f:=fun c=>[Zbs n q c]) (by simp) (r.2.2.2.2.2.2.2.1.take i)
  rw[List.length_take] at hb
  simp only[bind_some]
  have e: (bif !Zhu n q (r.2.2.2.2.2.2.2.1[i]).1 then some (((r.2.2.2.2.2.2.2.1[i]).1,(r.2.2.2.2.2.2.2.1[i]).2.1,(r.2.2.2.2.2.2.2.1[i]).2.2.1,false,false,(r.2.2.2.2.2.2.2.1[i]).2.2.2.2.2):ZbN) else some r.2.2.2.2.2.2.2.1[i])=some (Zbs n q r.2.2.2.2.2.2.2.1[i]):=by
   unfold Zbs
   cases Zhu n q (r.2.2.2.2.2.2.2.1[i]).1<;>rfl
  erw[e]
  simp only[bind_some]
  rw[Za7 (by simp;simp at hb;omega),Zai hi (by omega)]
  rfl
 ·simp only[Zav,cond_false];rfl
structure Few (n:ZaJ):Prop where
 stops:n.1.length≤4096
 routes:n.2.1.length≤4096
 runs:n.2.2.1.length≤4096
 links:n.2.2.2.1.length≤4096
 paths:n.2.2.2.2.1.length≤4096
 prods:n.2.2.2.2.2.1.1.length≤4096
 calls: ∀r∈n.2.2.1,r.2.2.2.2.2.2.2.1.length≤4096
theorem ZdT {α:Type} (l:List α) (h:l.length≤4096): (Option.bind (Zaq (decide (List.length ([]:List Unit)+List.length l≤Zas))) fun _=>
 Option.bind (inb (↑(List.length ([]++l)):Int) (List.length ([]++l)+(1:Nat))) fun x1=>
 Option.bind (sliceB (List.length ([]++l)) x1 none (some (↑(List.length ([]++l)):Int))) fun x2=>some (List.take x2.2 ([]++l)))=some l:=by
 have e0:Zaq (decide (List.length ([]:List Unit)+List.length l≤Zas))=some ():=by
  unfold Zaq Zas
  rw[decide_eq_true (show List.length ([]:List Unit)+List.length l≤2 ^ 32 by simp;omega)];rfl
 have e1:inb (l.length:Int) (l.length+1)=some l.length:=by
  unfold inb;rw[if_pos (by omega)];simp
 have e2:sliceB l.length l.length none (some (l.length:Int))=some (0,l.length):=by
  unfold sliceB
  simp only[if_pos (show (0:Int)≤(l.length:Int)∧(l.length:Int)≤(l.length:Int) from ⟨by omega,by omega⟩),bind_some,Int.toNat_natCast]
 rw[e0]
 simp only[bind_some,List.nil_append]
 rw[e1]
 simp only[bind_some]
 rw[e2]
 simp
theorem ZoN {n:ZaJ} (h:Few n):F37 n=some n:=by
 unfold F37
 have hs:F48 n.1=some n.1:=ZdT n.1 h.stops
 have hro:F46 n.2.1=some n.2.1:=ZdT n.2.1 h.routes
 have hru:F47 n.2.2.1=some n.2.2.1:=ZdT n.2.2.1 h.runs
 have hli:F44 n.2.2.2.1=some n.2.2.2.1:=ZdT n.2.2.2.1 h.links
 have hpa:F43 n.2.2.2.2.1=some n.2.2.2.2.1:=ZdT n.2.2.2.2.1 h.paths
 have hpr:F45 n.2.2.2.2.2.1.1=some n.2.2.2.2.2.1.1:=ZdT n.2.2.2.2.2.1.1 h.prods
 rw[hs,hro,hru,hli,hpa]
 simp only[bind_some]
 refine ZdL (fun r:ZaJ=>r=(n.1,n.2.1,n.2.2.1,n.2.2.2.1,n.2.2.2.2.1,n.2.2.2.2.2.1,())) (Za3 n.2.2.1.length _ (fun i (st:ZaJ×Int)=>st=((n.1,n.2.1,n.2.2.1,n.2.2.2.1,n.2.2.2.2.1,n.2.2.2.2.2.1,()),(i:Int))) ?_ ?_ _ rfl) ?_
 ·rintro i _ hi rfl
  left
  have hc:F42 (n.2.2.1[i]).2.2.2.2.2.2.2.1=some (n.2.2.1[i]).2.2.2.2.2.2.2.1:=ZdT _ (h.calls _ (List.getElem_mem hi))
  simp only[Zay hi,cond_true,ZaQ hi,bind_some,List.getElem?_eq_getElem hi,hc]
  refine⟨_,rfl, ?_⟩
  rw[Zai hi (by have:=h.runs;omega)]
  have e:List.set n.2.2.1 i ((n.2.2.1[i]).1,(n.2.2.1[i]).2.1,(n.2.2.1[i]).2.2.1,(n.2.2.1[i]).2.2.2.1,(n.2.2.1[i]).2.2.2.2.1,(n.2.2.1[i]).2.2.2.2.2.1,(n.2.2.1[i]).2.2.2.2.2.2.1,(n.2.2.1[i]).2.2.2.2.2.2.2.1,(n.2.2.1[i]).2.2.2.2.2.2.2.2)=n.2.2.1:=List.set_getElem_self hi
  erw[e]
 ·rintro _ rfl
  exact⟨_,by simp only[Zav,cond_false],rfl⟩
 ·rintro _ rfl
  rw[hpr]
  rfl
def Zcj (n:ZaJ) (q:Zbp) (r:Zhp):Zhp:=(r.1,r.2.1,r.2.2.1,r.2.2.2.1,r.2.2.2.2.1,r.2.2.2.2.2.1, !Zq2 n q r,r.2.2.2.2.2.2.2.1.map (Zbs n q),())
def Zbh (n:ZaJ) (q:Zbp):List Zcn:=if q.2.2.2.2.2.2.1 then n.2.2.2.2.1.filter (fun p=>p.2.2.2.1) else n.2.2.2.2.1
def ZaA (n:ZaJ) (q:Zbp):ZaJ:=(n.1,n.2.1,n.2.2.1.map (Zcj n q),n.2.2.2.1,Zbh n q,n.2.2.2.2.2.1,())
def ZdX (n:ZaJ) (q:Zbp) (i:Nat):List Zhp:=(n.2.2.1.take i).map (Zcj n q)++n.2.2.1.drop i
theorem Znb (n:ZaJ) (q:Zbp) {i:Nat} (hi:i≤n.2.2.1.length): (ZdX n q i).length=n.2.2.1.length:=by
 simp [ZdX];omega
theorem Zmu (n:ZaJ) (q:Zbp) {i:Nat} (hi:i<n.2.2.1.length): (ZdX n q i)[i]? =some n.2.2.1[i]:=by
 unfold ZdX
 rw[List.getElem?_append_right (by simp;omega)]
 simp only[List.length_map,List.length_take,Nat.min_eq_left (Nat.le_of_lt hi),Nat.sub_self,List.getElem?_drop,Nat.add_zero]
 exact List.getElem?_eq_getElem hi
theorem ZmY (n:ZaJ) (q:Zbp) {i:Nat} (hi:i<n.2.2.1.length): (ZdX n q i).set i (Zcj n q n.2.2.1[i])=ZdX n q (i+1):=by
 unfold ZdX
 have hlen: ((n.2.2.1.take i).map (Zcj n q)).length=i:=by simp;omega
 rw[List.set_append_right _ _ (by omega),hlen,Nat.sub_self,List.drop_eq_getElem_cons hi,List.set_cons_zero,List.take_succ_eq_append_getElem hi,List.map_append]
 simp
theorem ZkL {n:ZaJ} (hS:Zfv n) (hF:Few n) (q:Zbp) (hq:F10 n q=some 0):F12 n q=some (ZaA n q,0):=by
 unfold F12
 rw[hq]
 simp only[bind_some,decide_true,Bool.not_true,cond_false]
 rw[ZoN hF]
 simp only[bind_some]
 refine ZdL (fun r:ZaJ=>r=(n.1,n.2.1,n.2.2.1.map (Zcj n q),n.2.2.2.1,n.2.2.2.2.1,n.2.2.2.2.2.1,())) (Za3 n.2.2.1.length _ (fun i (st:ZaJ×Int)=>st=((n.1,n.2.1,ZdX n q i,n.2.2.2.1,n.2.2.2.2.1,n.2.2.2.2.2.1,()),(i:Int))) ?_ ?_ _ (by simp [ZdX])) ?_
 ·rintro i _ hi rfl
  left
  have hr:=List.getElem_mem hi
  have hl:=Znb n q (Nat.le_of_lt hi)
  have hi' :i< (ZdX n q i).length:=by omega
  simp only[Zay hi,cond_true,Zah hi,bind_some,Zq9 hS q hr,ZaQ hi',Zmu n q hi,Zms hS q hr]
  refine⟨_, ?_,rfl⟩
  rw[Zai hi (by have:=hF.runs;omega)]
  have hi2:i< ((ZdX n q i).set i ((n.2.2.1[i]).1,(n.2.2.1[i]).2.1,(n.2.2.1[i]).2.2.1,(n.2.2.1[i]).2.2.2.1,(n.2.2.1[i]).2.2.2.2.1,(n.2.2.1[i]).2.2.2.2.2.1, !Zq2 n q n.2.2.1[i],(n.2.2.1[i]).2.2.2.2.2.2.2)).length:=by rw[List.length_set];exact hi'
  erw[ZaQ hi2]
  simp only[bind_some]
  erw[List.getElem?_set_self hi']
  simp only[bind_some]
  erw[List.set_set]
  congr 2
  have:=ZmY n q hi
  rw[←this]
  rfl
 ·rintro _ rfl
  refine⟨_,by simp only[Zav,cond_false];rfl, ?_⟩
  simp [ZdX]
 ·rintro _ rfl
  unfold ZaA Zbh
  cases hsf:q.2.2.2.2.2.2.1 with
  |false=>rfl
  |true=>
   simp only[cond_true,if_true]
   refine ZdL (fun r:ZaJ=>r=(n.1,n.2.1,n.2.2.1.map (Zcj n q),n.2.2.2.1,n.2.2.2.2.1.filter (fun p=>p.2.2.2.1),n.2.2.2.2.2.1,())) (Za3 n.2.2.2.2.1.length _ (fun i (st:ZaJ×Int)=>st=((n.1,n.2.1,n.2.2.1.map (Zcj n q),n.2.2.2.1,(n.2.2.2.2.1.take i).filter (fun p=>p.2.2.2.1),n.2.2.2.2.2.1,()),(i:Int))) ?_ ?_ _ (by simp)) ?_
   ·rintro i _ hi rfl
    left
    have hb:=List.length_filter_le (fun p:Zcn=>p.2.2.2.1) (n.2.2.2.2.1.take i)
    rw[List.length_take] at hb
    have hp:=hF.paths
    simp only[Zay hi,cond_true,Zah hi,bind_some]
    rw[Zai hi (by omega),List.take_succ_eq_append_getElem hi,List.filter_append]
    cases hv: (n.2.2.2.2.1[i]).2.2.2.1 with
    |false=>
     refine⟨_,rfl, ?_⟩
     simp [hv]
    |true=>
     simp only[cond_true]
     rw[Za7 (by simp;omega)]
     refine⟨_,rfl, ?_⟩
     simp [hv]
   ·rintro _ rfl
    refine⟨_,by simp only[Zav,cond_false];rfl, ?_⟩
    rw[List.take_length]
   ·rintro _ rfl
    rfl
def qB (k:Nat) (q:Zbp):Bool:=inR q.1 k&& (inR q.2.1 k&& (decide (0≤q.2.2.1∧q.2.2.1≤3155932800) && (decide (0≤q.2.2.2.2.1∧q.2.2.2.2.1≤8) && (decide (0≤q.2.2.2.2.2.1∧q.2.2.2.2.2.1≤86400) && (decide (0≤q.2.2.2.2.2.2.2.2.1∧q.2.2.2.2.2.2.2.2.1≤255) && !(q.2.2.2.2.2.2.2.2.2.1&&q.2.2.2.1))))))
theorem Zld (x a b:Int):F11 x a b=some (decide (a≤x∧x≤b)):=Zc5 x a b
theorem ZgF (x a b:Int):F72 x a b=some (decide (a≤x∧x≤b)):=Zc5 x a b
theorem Zgl (x:Int) {m:Nat} (hm:m≤9223372036854775807):F72 x 0 (IntKind.wrap .i64 ((m:Int) - 1))=some (inR x m):=ZiT x hm
theorem ZmR (k:Nat) (hk:k≤9223372036854775807) (q:Zbp):F71 (k:Int) q=some (qB k q):=by
 unfold F71 qB
 simp only[ZgF]
 rw[show decide ((0:Int)≤q.1∧q.1≤IntKind.wrap .i64 ((k:Int) - 1))=inR q.1 k from Option.some.inj ((ZgF _ _ _).symm.trans (Zgl q.1 hk)),show decide ((0:Int)≤q.2.1∧q.2.1≤IntKind.wrap .i64 ((k:Int) - 1))=inR q.2.1 k from Option.some.inj ((ZgF _ _ _).symm.trans (Zgl q.2.1 hk))]
 simp only[bind_some]
 generalize inR q.1 k=b1
 generalize inR q.2.1 k=b2
 generalize decide ((0:Int)≤q.2.2.1∧q.2.2.1≤3155932800)=b3
 generalize decide ((0:Int)≤q.2.2.2.2.1∧q.2.2.2.2.1≤8)=b4
 generalize decide ((0:Int)≤q.2.2.2.2.2.1∧q.2.2.2.2.2.1≤86400)=b5
 generalize decide ((0:Int)≤q.2.2.2.2.2.2.2.2.1∧q.2.2.2.2.2.2.2.2.1≤255)=b6
 generalize q.2.2.2.2.2.2.2.2.2.1=b7
 generalize q.2.2.2.1=b8
 cases b1<;>try rfl
 cases b2<;>try rfl
 cases b3<;>try rfl
 cases b4<;>try rfl
 cases b5<;>try rfl
 cases b6<;>try rfl
 cases b7<;>cases b8<;>rfl
open Classical in
noncomputable def Znj (n:ZaJ) (q:Zbp):Int:=if Whole n then(if qB n.1.length q=true then 0 else 22) else 21
theorem Zkf {n:ZaJ} {q:Zbp} :Znj n q=0↔Whole n∧qB n.1.length q=true:=by
 unfold Znj
 split
 ·next h=>split<;>simp_all
 ·next h=>simp [h]
open Classical in
theorem ZkN {n:ZaJ} (h:Fit n):F60 n=some (decide (Whole n)):=by
 obtain⟨r,_,h2,h3⟩:=Zfx n h
 unfold F60
 rw[h2]
 simp only[bind_some]
 congr 1
 exact decide_eq_decide.2 h3
open Classical in
theorem ZqI {n:ZaJ} (h:Fit n) (q:Zbp):F69 n q=some (Znj n q):=by
 unfold F69 Znj
 rw[ZkN h]
 simp only[bind_some]
 by_cases hW:Whole n
 ·rw[decide_eq_true hW,if_pos hW]
  have hs:=hW.sound.stops
  simp only[Bool.not_true,cond_false]
  rw[ZmR n.1.length (by omega)]
  simp only[bind_some]
  cases qB n.1.length q<;>rfl
 ·rw[decide_eq_false hW,if_neg hW];rfl
theorem ZjO {n:ZaJ} (h:Fit n) (q:Zbp):F10 n q=some (Znj n q):=by
 obtain⟨r,h1,_,h3⟩:=Zfx n h
 unfold F10 Znj
 rw[h1]
 simp only[bind_some]
 by_cases hW:Whole n
 ·rw[decide_eq_true (h3.2 hW),if_pos hW]
  have hk:n.1.length≤9223372036854775807:=by have:=hW.sound.stops;omega
  simp only[Bool.not_true,cond_false,Zld]
  rw[show decide ((0:Int)≤q.1∧q.1≤IntKind.wrap .i64 ((n.1.length:Int) - 1))=inR q.1 n.1.length from Option.some.inj ((ZgF _ _ _).symm.trans (Zgl q.1 hk)),show decide ((0:Int)≤q.2.1∧q.2.1≤IntKind.wrap .i64 ((n.1.length:Int) - 1))=inR q.2.1 n.1.length from Option.some.inj ((ZgF _ _ _).symm.trans (Zgl q.2.1 hk))]
  unfold qB
  simp only[bind_some]
  generalize inR q.1 n.1.length=b1
  generalize inR q.2.1 n.1.length=b2
  generalize decide ((0:Int)≤q.2.2.1∧q.2.2.1≤3155932800)=b3
  generalize decide ((0:Int)≤q.2.2.2.2.1∧q.2.2.2.2.1≤8)=b4
  generalize decide ((0:Int)≤q.2.2.2.2.2.1∧q.2.2.2.2.2.1≤86400)=b5
  generalize decide ((0:Int)≤q.2.2.2.2.2.2.2.2.1∧q.2.2.2.2.2.2.2.2.1≤255)=b6
  generalize q.2.2.2.2.2.2.2.2.2.1=b7
  generalize q.2.2.2.1=b8
  cases b1<;>try rfl
  cases b2<;>try rfl
  cases b3<;>try rfl
  cases b4<;>try rfl
  cases b5<;>try rfl
  cases b6<;>try rfl
  cases b7<;>cases b8<;>rfl
 ·rw[decide_eq_false (fun e=>hW (h3.1 e)),if_neg hW];rfl
theorem Zm7 {c l:List Zcn} (h:Zbr c l=true):c=l:=by
 unfold Zbr at h
 rw[Bool.and_eq_true,decide_eq_true_eq,Option.isNone_iff_eq_none] at h
 obtain⟨h1,h2⟩:=h
 have h2:=ZaG.1 h2
 refine List.ext_getElem h1 fun i hi hi' => ?_
 have:=h2 i hi
 unfold eqF at this
 rw[Zaj hi,Zaj hi'] at this
 have hs:ZgK c[i] l[i]=true:=by
  by_cases hs:ZgK c[i] l[i]=true
  ·exact hs
  ·rw[if_neg hs] at this;simp at this
 unfold ZgK at hs
 simp only[Bool.and_eq_true,decide_eq_true_eq,beq_iff_eq] at hs
 exact Prod.ext hs.1 (Prod.ext hs.2.1 (Prod.ext hs.2.2.1 (Prod.ext hs.2.2.2 rfl)))
theorem Zjd (l:List Zcn):Zbr l l=true:=by
 unfold Zbr
 rw[Bool.and_eq_true,decide_eq_true_eq,Option.isNone_iff_eq_none]
 refine⟨rfl,ZaG.2 fun i hi=> ?_⟩
 unfold eqF ZgK
 simp
theorem Zmf {k:Nat} {l:List Zcn} : (∀i,i<l.length→Zbo k l i=0)↔(∀p∈l,ZcP k p=false∧ZcS p=false)∧l.Pairwise fun a b=>ZcI a≠ZcI b:=by
 constructor
 ·intro h
  refine⟨fun p hp=> ?_,List.pairwise_iff_getElem.2 fun i j hi hj hij e=> ?_⟩
  ·obtain⟨i,hi,rfl⟩:=List.getElem_of_mem hp
   have:=Zca (h i hi)
   rw[Zaj hi] at this
   exact⟨this.1,this.2.1⟩
  ·have:=(Zca (h j hj)).2.2
   refine this ⟨i,hij, ?_⟩
   rw[Zaj hi,Zaj hj];exact e
 ·rintro ⟨h1,h2⟩ i hi
  obtain⟨a,b⟩:=h1 _ (List.getElem_mem hi)
  unfold Zbo
  rw[Zaj hi,if_neg (by rw[a];simp),if_neg (by rw[b];simp),if_neg]
  rintro ⟨j,hj,e⟩
  rw[Zaj (show j<l.length by omega)] at e
  exact List.pairwise_iff_getElem.1 h2 j i (by omega) hi hj e
theorem ZgX {α β:Type} (p:β→Bool) (f:α→List β) (l:List α): (l.flatMap f).filter p=l.flatMap fun x=>(f x).filter p:=by
 induction l with
 |nil=>rfl
 |cons x l ih=>simp [List.filter_append,ih]
theorem Zn1 (a b:Nat) (d f:Int): (ZcL a b d f).filter (fun p=>p.2.2.2.1)=ZcL a b f f:=by
 unfold ZcL
 by_cases h:f=d
 ·subst h
  rw[if_pos rfl,List.append_nil]
  split<;>simp
 ·rw[if_neg h,if_pos rfl,List.append_nil,List.filter_append]
  have e1: (if 0<d∧d≤14400 then [((a:Int),(b:Int),d,decide (f=d),())] else []).filter (fun p:ZcK=>p.2.2.2.1)=[]:=by
   split<;>simp [h]
  rw[e1]
  split<;>simp
theorem Znx (it:Nat→Nat→List ZcK) (n m:Nat): (Ze2 it n m).filter (fun p=>p.2.2.2.1)=Ze2 (fun a b=>(it a b).filter (fun p=>p.2.2.2.1)) n m:=by
 unfold Ze2 Zi0
 rw[ZgX]
 congr 1;funext a
 rw[ZgX]
 congr 1;funext b
 split<;>rfl
theorem ZkX {k:Nat} (hk:k≤64) {l:List Zcn} (hl:l.length≤4096) (hz: ∀i,i<l.length→Zbo k l i=0) (hc: ∀c,F57 l (k:Int)=some c→Zbr c l=true):
  (∀i,i< (l.filter fun p=>p.2.2.2.1).length→Zbo k (l.filter fun p=>p.2.2.2.1) i=0)∧ ∀c,F57 (l.filter fun p=>p.2.2.2.1) (k:Int)=some c→Zbr c (l.filter fun p=>p.2.2.2.1)=true:=by
 obtain⟨z1,z2⟩:=Zmf.1 hz
 have hz' : ∀i,i< (l.filter fun p=>p.2.2.2.1).length→Zbo k (l.filter fun p=>p.2.2.2.1) i=0:=Zmf.2 ⟨fun p hp=>z1 p (List.mem_filter.1 hp).1,z2.filter _⟩
 refine⟨hz',fun c h=> ?_⟩
 have hF:=ZnR hz
 have hF' :=ZnR hz'
 have hl' : (l.filter fun p=>p.2.2.2.1).length≤4096:=Nat.le_trans (List.length_filter_le _ _) hl
 obtain⟨c0,a1,a2,_⟩:=ZeS hk hF hl
 obtain⟨c1,b1,b2,_⟩:=ZeS hk hF' hl'
 have v0:=ZeV hk hF hl (fun a b=>(ZiO hF a b).imp id fun h=>h.2)
 have v1:=ZeV hk hF' hl' (fun a b=>(ZiO hF' a b).imp id fun h=>h.2)
 rw[a1] at v0
 rw[b1] at v1
 have e0:=Zm7 (hc c0 a2)
 obtain rfl:c1=c:=Option.some.inj (b2.symm.trans h)
 have ed: ∀free,EdP (l.filter fun p=>p.2.2.2.1) free=EdP l true:=by
  intro free
  funext u v w
  refine propext ⟨fun⟨p,hp,_,h⟩=> ?_,fun⟨p,hp,h1,h⟩=> ?_⟩
  ·obtain⟨hp1,hp2⟩:=List.mem_filter.1 hp
   exact⟨p,hp1,fun _=>hp2,h⟩
  ·have:=h1 rfl
   exact⟨p,List.mem_filter.2 ⟨hp,this⟩,fun _=>this,h⟩
 have key:c1=l.filter fun p=>p.2.2.2.1:=by
  rw[Option.some.inj v1]
  conv=>rhs;rw[←e0,Option.some.inj v0]
  rw[Znx,ed,ed]
  congr 1;funext a b
  exact(Zn1 a b _ _).symm
 rw[key]
 exact Zjd _
theorem Zg4 (n:ZaJ) (q:Zbp) (l:List ZbN) (i:Nat): (((l.map (Zbs n q))[i]?).getD c0).1=((l[i]?).getD c0).1∧(((l.map (Zbs n q))[i]?).getD c0).2.1=((l[i]?).getD c0).2.1∧(((l.map (Zbs n q))[i]?).getD c0).2.2.1=((l[i]?).getD c0).2.2.1:=by
 rw[List.getElem?_map]
 cases l[i]? with
 |none=>exact⟨rfl,rfl,rfl⟩
 |some c=>
  simp only[Option.map_some,Option.getD_some]
  unfold Zbs
  split<;>exact⟨rfl,rfl,rfl⟩
theorem Zk2 (n:ZaJ) (q:Zbp) (l:List ZbN) (k lo hi:Int):ZdG (l.map (Zbs n q)) k lo hi=ZdG l k lo hi:=by
 have h:Zhr (l.map (Zbs n q)) k lo hi=Zhr l k lo hi:=by
  funext i
  obtain⟨a1,a2,a3⟩:=Zg4 n q l i
  obtain⟨b1,b2,b3⟩:=Zg4 n q l (i - 1)
  unfold Zhr ZjT Zka Zjc
  rw[a1,a2,a3,b1,b3]
 unfold ZdG
 rw[List.length_map,h]
theorem Zl5 (n:ZaJ) (q:Zbp) (a:Int): (rn (ZaA n q) a).2.2.2.2.2.2.2.1=(rn n a).2.2.2.2.2.2.2.1.map (Zbs n q):=by
 unfold rn
 show (((n.2.2.1.map (Zcj n q))[a.toNat]?).getD u0).2.2.2.2.2.2.2.1=_
 rw[List.getElem?_map]
 cases n.2.2.1[a.toNat]? <;>rfl
theorem ZkA (n:ZaJ) (q:Zbp) (i:Nat):ZbZ (ZaA n q) i=ZbZ n i:=by
 have hlen: (ZaA n q).2.2.1.length=n.2.2.1.length:=List.length_map ..
 unfold ZbZ Zmd Znm
 simp only[Zl5,List.length_map,hlen]
 have hcl: ∀ (l:List ZbN) (x:Int),(cl (l.map (Zbs n q)) x).1=(cl l x).1:=fun l x=>(Zg4 n q l _).1
 simp only[hcl]
 rfl
theorem Zm2 (n:ZaJ) (q:Zbp) {i:Nat} (hi:i<n.2.2.1.length):ZiM (ZaA n q) i=ZiM n i:=by
 have hg: ∀j,j<n.2.2.1.length→((ZaA n q).2.2.1[j]?).getD u0=Zcj n q ((n.2.2.1[j]?).getD u0):=by
  intro j hj
  show ((n.2.2.1.map (Zcj n q))[j]?).getD u0=_
  rw[List.getElem?_map,List.getElem?_eq_getElem hj];rfl
 unfold ZiM
 rw[hg i hi]
 have hd: (∃j,j<i∧runK (((ZaA n q).2.2.1[j]?).getD u0)=runK (Zcj n q ((n.2.2.1[i]?).getD u0)))↔ ∃j,j<i∧runK ((n.2.2.1[j]?).getD u0)=runK ((n.2.2.1[i]?).getD u0):=by
  constructor
  ·rintro ⟨j,hj,e⟩
   rw[hg j (by omega)] at e
   exact⟨j,hj,e⟩
  ·rintro ⟨j,hj,e⟩
   refine⟨j,hj, ?_⟩
   rw[hg j (by omega)]
   exact e
 have hcE:ZdG (Zcj n q ((n.2.2.1[i]?).getD u0)).2.2.2.2.2.2.2.1 ((ZaA n q).1.length:Int) 0 3155932800=ZdG ((n.2.2.1[i]?).getD u0).2.2.2.2.2.2.2.1 (n.1.length:Int) 0 3155932800:=Zk2 n q _ _ _ _
 simp only[hcE,hd]
 rfl
theorem ZkH {n:ZaJ} (q:Zbp) (hp:n.2.2.2.2.1.length≤4096) (h:Whole n):Whole (ZaA n q):=by
 have hlen: (ZaA n q).2.2.1.length=n.2.2.1.length:=List.length_map ..
 have hP: (∀i,i< (Zbh n q).length→Zbo n.1.length (Zbh n q) i=0)∧ ∀c,F57 (Zbh n q) (n.1.length:Int)=some c→Zbr c (Zbh n q)=true:=by
  unfold Zbh
  split
  ·exact ZkX h.sound.stops hp (ZaG.1 h.q) h.w
  ·exact⟨ZaG.1 h.q,h.w⟩
 refine⟨h.s,h.t,by rw[hlen];exact h.u, ?_,h.v, ?_,ZaG.2 hP.1,hP.2,h.z⟩
 ·rw[hlen]
  exact ZaG.2 fun i hi=>by rw[Zm2 n q hi];exact ZaG.1 h.f i hi
 ·exact ZaG.2 fun i hi=>by rw[ZkA];exact ZaG.1 h.g i hi
theorem ZnN {n:ZaJ} (q:Zbp) (h:Fit n):Fit (ZaA n q):=by
 refine⟨h.stops,h.routes, ?_, ?_, ?_,h.prods⟩
 ·intro r hr
  obtain⟨x,hx,rfl⟩:=List.mem_map.1 (show r∈n.2.2.1.map (Zcj n q) from hr)
  exact h.runs x hx
 ·intro r hr
  obtain⟨x,hx,rfl⟩:=List.mem_map.1 (show r∈n.2.2.1.map (Zcj n q) from hr)
  show (x.2.2.2.2.2.2.2.1.map _).length≤_
  rw[List.length_map]
  exact h.calls x hx
 ·show (Zbh n q).length≤_
  unfold Zbh
  split
  ·exact Nat.le_trans (List.length_filter_le _ _) h.paths
  ·exact h.paths
end Q
namespace Q
open Tr Go
open Option (bind_some)
abbrev Zc0:=Bool×Int×Int×Int×Int×Int×Int×Int×Bool×Unit
theorem Zeq {n:ZaJ} (h:Zfv n) {a:Int} (h0:0≤a) (h1:a< (n.1.length:Int)):idx n.1 a=some (Zdl n a)∧0≤(Zdl n a).2.1∧(Zdl n a).2.1<16:=by
 have hi:inR a n.1.length=true:=by unfold inR;rw[decide_eq_true h0,decide_eq_true h1];rfl
 refine⟨Zb2 hi s0, ?_⟩
 have hl:a.toNat<n.1.length:=by omega
 unfold Zdl
 rw[Zaj hl]
 exact h.zone _ (List.getElem_mem hl)
theorem ZjV {n:ZaJ} (q:Zbp) {s:Int} (h:inR s n.1.length=true):F70 n q s=some (Zhu n q s):=by
 unfold F70 Zhu
 rw[show idx n.1 s=some (Zdl n s) from Zb2 h s0]
 simp only[bind_some]
 cases q.2.2.2.2.2.2.1<;>cases (Zdl n s).2.2.1<;>rfl
def g0:Zc0:=(false,0,0,0,0,0,0,0,false,())
end Q
namespace Q
open Tr Go
open Option (bind_some)
abbrev TkT:=Int×Int×Int×Int×Unit
abbrev Zre:=Bool×Int×List TkT×Unit
def Zri (n:Nat) (T:List Zre):Prop:=T.length=n+1∧ ∀j r,T[j]? =some r→r.2.2.1.length+j≤n
theorem Zri.put {n:Nat} {T:List Zre} (h:Zri n T) {i:Nat} {r:Zre} (hr:r.2.2.1.length+i≤n):Zri n (T.set i r):=by
 refine⟨by rw[List.length_set];exact h.1,fun j s hs=> ?_⟩
 by_cases hij:i=j
 ·subst hij
  by_cases hi:i<T.length
  ·rw[List.getElem?_set_self hi] at hs
   obtain rfl:=Option.some.inj hs
   exact hr
  ·rw[List.getElem?_eq_none (by rw[List.length_set];omega)] at hs
   cases hs
 ·rw[List.getElem?_set_ne hij] at hs
  exact h.2 j s hs
end Q
namespace Q
open Tr Go
open Option (bind_some)
end Q
namespace Q
open Tr Go
open Option (bind_some)
def Zad (n:ZaJ) (i:Nat):List ZbN:=(rn n (i:Int)).2.2.2.2.2.2.2.1
def Zab (n:ZaJ) (i c:Nat):ZbN:=cl (Zad n i) (c:Int)
def Zbj (n:ZaJ) (i:Nat):Bool:=(rn n (i:Int)).2.2.2.2.2.2.1
def Zqv (s t a b:Int):Zc0:=(false,0,0,0,s,t,a,b,false,())
def ZsK (n:ZaJ) (i b c:Nat) (st:Bool):Zc0:=(true,(i:Int),(b:Int),(c:Int),(Zab n i b).1,(Zab n i c).1,(Zab n i b).2.2.1,(Zab n i c).2.1,st,())
def isLink (n:ZaJ) (i c j d:Nat) (st:Bool):Prop:=((i:Int),(c:Int),(j:Int),(d:Int),st,())∈n.2.2.2.1
structure ZfJ (n:ZaJ):Prop where
 sound:Zfv n
 change: ∀s:Int,0≤s→s< (n.1.length:Int)→0≤(Zdl n s).2.2.2.1∧(Zdl n s).2.2.2.1≤3600
 path: ∀p∈n.2.2.2.2.1,(0≤p.1∧p.1< (n.1.length:Int))∧(0≤p.2.1∧p.2.1< (n.1.length:Int))∧p.1≠p.2.1∧1≤p.2.2.1∧p.2.2.1≤14400
 link: ∀x∈n.2.2.2.1, ∃ (i c j d:Nat) (st:Bool),x=((i:Int),(c:Int),(j:Int),(d:Int),st,())∧i<n.2.2.1.length∧j<n.2.2.1.length∧i≠j∧c< (Zad n i).length∧d< (Zad n j).length∧
  (Zab n i c).1=(Zab n j d).1∧(st=true→c+1=(Zad n i).length∧d=0)
theorem ZaO {n:ZaJ} {i:Nat} (hi:i<n.2.2.1.length):Zad n i=(n.2.2.1[i]).2.2.2.2.2.2.2.1:=by unfold Zad rn;rw[Int.toNat_natCast,Zaj hi]
theorem ZbW {n:ZaJ} {i c:Nat} (hc:c< (Zad n i).length):Zab n i c=(Zad n i)[c]:=by unfold Zab cl;rw[Int.toNat_natCast,Zaj hc]
theorem ZmL {n:ZaJ} {i:Nat} (h:ZbZ n i=0): (cl (rn n (lk n i).1).2.2.2.2.2.2.2.1 (lk n i).2.1).1=(cl (rn n (lk n i).2.2.1).2.2.2.2.2.2.2.1 (lk n i).2.2.2.1).1∧
  ((lk n i).2.2.2.2.1=true→(lk n i).2.1+1=((rn n (lk n i).1).2.2.2.2.2.2.2.1.length:Int)∧(lk n i).2.2.2.1=0):=by
 unfold ZbZ at h
 simp only at h
 by_cases b1:Zmd n (lk n i)=true
 ·rw[if_pos b1] at h;omega
 rw[if_neg b1] at h
 by_cases b2:Znm n (lk n i)=true
 ·rw[if_pos b2] at h;omega
 rw[if_neg b2] at h
 split at h
 ·omega
 split at h
 ·omega
 split at h
 ·omega
 next h1 h2 h3=>
  refine⟨Decidable.not_not.1 h1,fun hs=>⟨?_, ?_⟩⟩
  ·exact Decidable.not_not.1 fun e=>h2 ⟨hs,e⟩
  ·exact Decidable.not_not.1 fun e=>h3 ⟨hs,e⟩
theorem Whole.ok {n:ZaJ} (h:Whole n):ZfJ n:=by
 refine⟨h.sound,fun s h0 h1=> ?_,fun p hp=> ?_,fun x hx=> ?_⟩
 ·have s0:=h.s
  unfold Zga at s0
  split at s0
  ·exact absurd s0 (by decide)
  obtain⟨j,rfl⟩: ∃j:Nat,s=(j:Int):=⟨s.toNat,by omega⟩
  have hj:j<n.1.length:=by omega
  have hz:=Zhj s0 j hj
  unfold Zfk at hz
  have:=(Zb9.1 hz).2.2
  unfold Zdl
  rw[Int.toNat_natCast]
  generalize hg: (n.1[j]?).getD Q.s0=y at*
  have e: (n.1[j]?).getD ([],0,false,0,())=y:=by rw[←hg];rfl
  rw[e] at this
  omega
 ·obtain⟨j,hj,rfl⟩:=List.getElem_of_mem hp
  obtain⟨h1,h2,_⟩:=Zca (ZaG.1 h.q j hj)
  rw[Zaj hj] at h1 h2
  unfold ZcP at h1
  unfold ZcS at h2
  simp only[Bool.or_eq_false_iff,Bool.not_eq_false',decide_eq_false_iff_not,decide_eq_true_eq] at h1 h2
  omega
 ·obtain⟨j,hj,rfl⟩:=List.getElem_of_mem hx
  have hz:=ZaG.1 h.g j hj
  obtain⟨h1,h2,_⟩:=ZfU hz
  obtain⟨h3,h4⟩:=ZmL hz
  have e:lk n j=n.2.2.2.1[j]:=by unfold lk;rw[Zaj hj]
  rw[e] at h1 h2 h3 h4
  generalize n.2.2.2.1[j]=x at*
  unfold Zmd at h1
  unfold Znm at h2
  unfold inR at h1 h2
  simp only[Bool.or_eq_false_iff,Bool.not_eq_false',decide_eq_false_iff_not,Bool.and_eq_true,decide_eq_true_eq] at h1 h2
  obtain⟨x1,x2,x3,x4,x5,x6⟩:=x
  simp only at h1 h2 h3 h4
  obtain⟨i,rfl⟩: ∃i:Nat,x1=(i:Int):=⟨x1.toNat,by omega⟩
  obtain⟨c,rfl⟩: ∃i:Nat,x2=(i:Int):=⟨x2.toNat,by omega⟩
  obtain⟨k,rfl⟩: ∃i:Nat,x3=(i:Int):=⟨x3.toNat,by omega⟩
  obtain⟨d,rfl⟩: ∃i:Nat,x4=(i:Int):=⟨x4.toNat,by omega⟩
  refine⟨i,c,k,d,x5,rfl,by omega,by omega,by omega, ?_, ?_,h3,fun hs=> ?_⟩
  ·unfold Zad;omega
  ·unfold Zad;omega
  ·obtain⟨a,b⟩:=h4 hs
   unfold Zad
   omega
theorem ZfJ.isLink {n:ZaJ} (h:ZfJ n) {i c j d:Nat} {st:Bool} (hl:isLink n i c j d st):i<n.2.2.1.length∧j<n.2.2.1.length∧i≠j∧c< (Zad n i).length∧d< (Zad n j).length∧(Zab n i c).1=(Zab n j d).1∧(st=true→c+1=(Zad n i).length∧d=0):=by
 obtain⟨i',c',j',d',st',e,h1⟩:=h.link _ hl
 simp only[Prod.mk.injEq,Int.natCast_inj] at e
 obtain⟨rfl,rfl,rfl,rfl,rfl,_⟩:=e
 exact h1
theorem ZfJ.stop {n:ZaJ} (h:ZfJ n) {i c:Nat} (hi:i<n.2.2.1.length) (hc:c< (Zad n i).length):0≤(Zab n i c).1∧(Zab n i c).1< (n.1.length:Int):=by
 rw[ZbW hc]
 refine h.sound.call _ (List.getElem_mem hi) _ ?_
 simp only[ZaO hi]
 exact List.getElem_mem _
theorem ZfJ.time {n:ZaJ} (h:ZfJ n) {i c:Nat} (hi:i<n.2.2.1.length) (hc:c< (Zad n i).length):0≤(Zab n i c).2.1∧(Zab n i c).2.1≤(Zab n i c).2.2.1∧(Zab n i c).2.2.1≤3155932800:=by
 have ht:=h.sound.time _ (List.getElem_mem hi)
 rw[ZbW hc]
 simp only[ZaO hi] at hc ⊢
 have:=ht c hc
 omega
inductive Zni where
 |rdy (k:Nat) (s r:Int)
 |brd (k:Nat) (i c:Nat) (st:Bool)
 |lnk (k:Nat) (i c:Nat)
 |on (k:Nat) (i c:Nat)
 |rid (k:Nat) (s t:Int)
 |arr (k:Nat) (s t:Int)
inductive Der (n:ZaJ) (s0 t0 w:Int):Zni→List Zc0→Prop
 |init:Der n s0 t0 w (.rdy 0 s0 (t0+w)) []
 |here:Der n s0 t0 w (.arr 0 s0 t0) []
 |rdyW {p:Zcn} :p∈n.2.2.2.2.1→p.1=s0→t0+p.2.2.1≤3155932800→Der n s0 t0 w (.rdy 0 p.2.1 (t0+p.2.2.1)) [Zqv s0 p.2.1 t0 (t0+p.2.2.1)]
 |arrW {p:Zcn} :p∈n.2.2.2.2.1→p.1=s0→t0+p.2.2.1≤3155932800→Der n s0 t0 w (.arr 0 p.2.1 (t0+p.2.2.1)) [Zqv s0 p.2.1 t0 (t0+p.2.2.1)]
 |board {k:Nat} {s r:Int} {js:List Zc0} {i c:Nat} :Der n s0 t0 w (.rdy k s r) js→i<n.2.2.1.length→c< (Zad n i).length→Zbj n i=false→(Zab n i c).1=s→(Zab n i c).2.2.2.1=true→r≤(Zab n i c).2.2.1→Der n s0 t0 w (.brd (k+1) i c false) js
 |on {k i b c:Nat} {st:Bool} {js:List Zc0} :Der n s0 t0 w (.brd k i b st) js→b<c→c< (Zad n i).length→Der n s0 t0 w (.on k i c) (js++[ZsK n i b c st])
 |stay {k i c j d:Nat} {js:List Zc0} :Der n s0 t0 w (.on k i c) js→isLink n i c j d true→(Zab n i c).2.1≤(Zab n j d).2.2.1→Zbj n j=false→Der n s0 t0 w (.brd k j d true) js
 |link {k i c j d:Nat} {js:List Zc0} :Der n s0 t0 w (.on k i c) js→(Zab n i c).2.2.2.2.1=true→isLink n i c j d false→(Zab n i c).2.1≤(Zab n j d).2.2.1→(Zab n j d).2.2.2.1=true→Der n s0 t0 w (.lnk (k+1) j d) js
 |linked {k j d:Nat} {js:List Zc0} :Der n s0 t0 w (.lnk k j d) js→Zbj n j=false→Der n s0 t0 w (.brd k j d false) js
 |ride {k i c:Nat} {js:List Zc0} :Der n s0 t0 w (.on k i c) js→(Zab n i c).2.2.2.2.1=true→Der n s0 t0 w (.rid k (Zab n i c).1 (Zab n i c).2.1) js
 |change {k:Nat} {s t:Int} {js:List Zc0} :Der n s0 t0 w (.rid k s t) js→Der n s0 t0 w (.rdy k s (t+(Zdl n s).2.2.2.1)) js
 |rdyV {k:Nat} {s t:Int} {js:List Zc0} {p:Zcn} :Der n s0 t0 w (.rid k s t) js→p∈n.2.2.2.2.1→p.1=s→t+p.2.2.1≤3155932800→Der n s0 t0 w (.rdy k p.2.1 (t+p.2.2.1)) (js++[Zqv s p.2.1 t (t+p.2.2.1)])
 |arrR {k:Nat} {s t:Int} {js:List Zc0} :Der n s0 t0 w (.rid k s t) js→Der n s0 t0 w (.arr k s t) js
 |arrV {k:Nat} {s t:Int} {js:List Zc0} {p:Zcn} :Der n s0 t0 w (.rid k s t) js→p∈n.2.2.2.2.1→p.1=s→t+p.2.2.1≤3155932800→Der n s0 t0 w (.arr k p.2.1 (t+p.2.2.1)) (js++[Zqv s p.2.1 t (t+p.2.2.1)])
def Zni.ok (n:ZaJ):Zni→Prop
 | .rdy _ s r=>(0≤s∧s< (n.1.length:Int))∧0≤r∧r≤3155932800+3600
 | .brd k i c _=>0<k∧i<n.2.2.1.length∧c< (Zad n i).length∧Zbj n i=false
 | .lnk k i c=>0<k∧i<n.2.2.1.length∧c< (Zad n i).length
 | .on k i c=>0<k∧i<n.2.2.1.length∧c< (Zad n i).length∧Zbj n i=false
 | .rid k s t=>0<k∧(0≤s∧s< (n.1.length:Int))∧0≤t∧t≤3155932800
 | .arr _ s t=>(0≤s∧s< (n.1.length:Int))∧0≤t∧t≤3155932800
theorem Der.ok {n:ZaJ} (h:ZfJ n) {s0 t0 w:Int} (hs:0≤s0∧s0< (n.1.length:Int)) (ht:0≤t0∧t0≤3155932800) (hw:0≤w∧w≤3600) {f:Zni} {js:List Zc0} (d:Der n s0 t0 w f js):f.ok n:=by
 induction d with
 |init=>exact⟨hs,by omega,by omega⟩
 |here=>exact⟨hs,ht⟩
 |rdyW hp _ hm=>have:=h.path _ hp;exact⟨this.2.1,by omega,by omega⟩
 |arrW hp _ hm=>have:=h.path _ hp;exact⟨this.2.1,by omega,by omega⟩
 |board _ hi hc hx _ _ _ _=>exact⟨Nat.succ_pos _,hi,hc,hx⟩
 |on _ _ hc ih=>exact⟨ih.1,ih.2.1,hc,ih.2.2.2⟩
 |stay _ hl _ hx ih=>have:=h.isLink hl;exact⟨ih.1,this.2.1,this.2.2.2.2.1,hx⟩
 |link _ _ hl _ _ _=>have:=h.isLink hl;exact⟨Nat.succ_pos _,this.2.1,this.2.2.2.2.1⟩
 |linked _ hx ih=>exact⟨ih.1,ih.2.1,ih.2.2,hx⟩
 |ride _ _ ih=>
  have:=h.time ih.2.1 ih.2.2.1
  exact⟨ih.1,h.stop ih.2.1 ih.2.2.1,by omega,by omega⟩
 |change _ ih=>have:=h.change _ ih.2.1.1 ih.2.1.2;exact⟨ih.2.1,by have:=ih.2.2;omega,by have:=ih.2.2;omega⟩
 |rdyV _ hp _ hm ih=>have:=h.path _ hp;exact⟨this.2.1,by have:=ih.2.2;omega,by omega⟩
 |arrR _ ih=>exact ih.2
 |arrV _ hp _ hm ih=>have:=h.path _ hp;exact⟨this.2.1,by have:=ih.2.2;omega,by omega⟩
abbrev ZoH:=Zc0×Int×Unit
inductive Ch (lb:List ZoH):Int→List Zc0→Prop
 |nil:Ch lb (-1) []
 |cons {l:Nat} {x:Zc0} {p:Int} {js:List Zc0} :lb[l]? =some (x,p,())→p< (l:Int)→Ch lb p js→Ch lb (l:Int) (js++[x])
theorem Ch.lt {lb:List ZoH} {l:Int} {js:List Zc0} (h:Ch lb l js): -1≤l∧l< (lb.length:Int):=by
 cases h with
 |nil=>omega
 |cons h _ _=>
  have:=(List.getElem?_eq_some_iff.1 h).1
  omega
theorem Ch.app {lb:List ZoH} {l:Int} {js:List Zc0} (h:Ch lb l js) (m:List ZoH):Ch (lb++m) l js:=by
 induction h with
 |nil=>exact .nil
 |cons h1 h2 _ ih=>
  have hl:=(List.getElem?_eq_some_iff.1 h1).1
  exact .cons (by rw[List.getElem?_append_left hl];exact h1) h2 ih
theorem Ch.new {lb:List ZoH} {p:Int} {js:List Zc0} (h:Ch lb p js) (x:Zc0):Ch (lb++[(x,p,())]) (lb.length:Int) (js++[x]):=
 .cons (by simp) h.lt.2 (h.app _)
end Q
namespace Q
open Tr Go
open Option (bind_some)
theorem ZpF (n:ZaJ) (q:Zbp):Zbs n q c0=c0:=by
 unfold Zbs
 split<;>rfl
theorem Zqw (n:ZaJ) (q:Zbp) (l:List ZbN) (a:Int):cl (l.map (Zbs n q)) a=Zbs n q (cl l a):=by
 unfold cl
 rw[List.getElem?_map]
 cases l[a.toNat]? with
 |none=>exact(ZpF n q).symm
 |some c=>rfl
theorem Zpy (n:ZaJ) (q:Zbp) (c:ZbN):Zbs n q c=(c.1,c.2.1,c.2.2.1,c.2.2.2.1&&Zhu n q c.1,c.2.2.2.2.1&&Zhu n q c.1,()):=by
 unfold Zbs
 cases h:Zhu n q c.1 with
 |true=>simp
 |false=>simp
end Q
namespace Q
open Tr Go
open Option (bind_some)
variable {n:ZaJ} {q:Zbp}
theorem Zrf {a m:Nat} :inR (a:Int) m=true↔a<m:=by
 unfold inR
 rw[Bool.and_eq_true,decide_eq_true_eq,decide_eq_true_eq]
 omega
theorem Zil {a:Int} {m:Nat} :inR a m=true↔0≤a∧a< (m:Int):=by
 unfold inR
 rw[Bool.and_eq_true,decide_eq_true_eq,decide_eq_true_eq]
end Q
namespace Q
open Tr Go
open Option (bind_some)
variable {n:ZaJ} {q:Zbp}
end Q
namespace Q
open Tr Go
open Option (bind_some)
abbrev ZcH:=Int×Int×Int×Int×Int×Int×Unit
def Zr7 (a b:ZcH):Int:=
 if a.2.2.2.2.1<b.2.2.2.2.1 then -1 else if b.2.2.2.2.1<a.2.2.2.2.1 then 1 else
 if a.2.2.2.2.2.1<b.2.2.2.2.2.1 then -1 else if b.2.2.2.2.2.1<a.2.2.2.2.2.1 then 1 else
 if a.1<b.1 then -1 else if b.1<a.1 then 1 else
 if a.2.1<b.2.1 then -1 else if b.2.1<a.2.1 then 1 else 0
def ltC (a b:ZcH):Prop:=a.2.2.2.2.1<b.2.2.2.2.1∨(a.2.2.2.2.1=b.2.2.2.2.1∧(a.2.2.2.2.2.1<b.2.2.2.2.2.1∨(a.2.2.2.2.2.1=b.2.2.2.2.2.1∧(a.1<b.1∨(a.1=b.1∧a.2.1<b.2.1)))))
theorem Zra (a b:ZcH):Zr7 a b<0↔ltC a b:=by
 unfold Zr7 ltC
 (repeat' split)<;>omega
theorem ZpM (a b:ZcH):0<Zr7 a b↔ltC b a:=by
 unfold Zr7 ltC
 (repeat' split)<;>omega
theorem ZrC {α:Type} (p:Prop) [Decidable p] (x y:α): (bif decide p then x else y)=if p then x else y:=by
 by_cases h:p<;>simp [h]
theorem ZkV (a b:ZcH):F5 a b=some (Zr7 a b):=by
 unfold F5 Zr7
 have w1:IntKind.wrap .i64 (0+1:Int)=1:=by decide
 have w2:IntKind.wrap .i64 (1+1:Int)=2:=by decide
 have w3:IntKind.wrap .i64 (2+1:Int)=3:=by decide
 have w4:IntKind.wrap .i64 (3+1:Int)=4:=by decide
 simp only[ZrC]
 rw[Zbl]
 simp only[show (0:Int)<4 by decide,if_true,idx,show (0:Int)≤0 by decide,Int.toNat_zero,List.getElem?_cons_zero,bind_some,Int.toNat_one,List.getElem?_cons_succ,w1]
 by_cases h1:a.2.2.2.2.1<b.2.2.2.2.1
 ·simp [h1]
 by_cases h2:b.2.2.2.2.1<a.2.2.2.2.1
 ·simp [h1,h2]
 simp only[h1,h2,if_false,bind_some,Sum.elim_inl]
 rw[Zbl]
 simp only[show (1:Int)<4 by decide,if_true,show (0:Int)≤1 by decide,List.getElem?_cons_zero,bind_some,Int.toNat_one,List.getElem?_cons_succ,w2]
 by_cases h3:a.2.2.2.2.2.1<b.2.2.2.2.2.1
 ·simp [h3]
 by_cases h4:b.2.2.2.2.2.1<a.2.2.2.2.2.1
 ·simp [h3,h4]
 simp only[h3,h4,if_false,bind_some,Sum.elim_inl]
 rw[Zbl]
 simp only[show (2:Int)<4 by decide,if_true,show (0:Int)≤2 by decide,List.getElem?_cons_zero,bind_some,show Int.toNat 2=2 by decide,List.getElem?_cons_succ,w3]
 by_cases h5:a.1<b.1
 ·simp [h5]
 by_cases h6:b.1<a.1
 ·simp [h5,h6]
 simp only[h5,h6,if_false,bind_some,Sum.elim_inl]
 rw[Zbl]
 simp only[show (3:Int)<4 by decide,if_true,show (0:Int)≤3 by decide,List.getElem?_cons_zero,bind_some,show Int.toNat 3=3 by decide,List.getElem?_cons_succ,w4]
 by_cases h7:a.2.1<b.2.1
 ·simp [h7]
 by_cases h8:b.2.1<a.2.1
 ·simp [h7,h8]
 simp only[h7,h8,if_false,bind_some,Sum.elim_inl]
 rw[Zbl]
 simp
def Zhx (i:Nat) (l:List ZbN) (c:Nat):ZcH:=((i:Int),(c:Int),((l[c]?).getD c0).1,((l[c+1]?).getD c0).1,((l[c]?).getD c0).2.2.1,((l[c+1]?).getD c0).2.1,())
def Zku (i:Nat) (l:List ZbN) (m:Nat):List ZcH:=(List.range m).map (Zhx i l)
def Znl (i:Nat) (x:Zhp):List ZcH:=if x.2.2.2.2.2.2.1=true then [] else Zku i x.2.2.2.2.2.2.2.1 (x.2.2.2.2.2.2.2.1.length - 1)
def Zht (n:ZaJ) (k:Nat):List ZcH:=(List.range k).flatMap fun i=>Znl i ((n.2.2.1[i]?).getD u0)
theorem Zoy (i:Nat) (l:List ZbN) (m:Nat):Zku i l (m+1)=Zku i l m++[Zhx i l m]:=by
 unfold Zku
 rw[List.range_succ,List.map_append];rfl
theorem ZgT (n:ZaJ) (k:Nat):Zht n (k+1)=Zht n k++Znl k ((n.2.2.1[k]?).getD u0):=by
 unfold Zht
 rw[List.range_succ,List.flatMap_append];simp
theorem ZiU {i:Nat} {x:Zhp} {c:ZcH} (h:c∈Znl i x):x.2.2.2.2.2.2.1=false∧ ∃k,k+1<x.2.2.2.2.2.2.2.1.length∧c=Zhx i x.2.2.2.2.2.2.2.1 k:=by
 unfold Znl at h
 split at h
 ·simp at h
 ·next hc=>
  unfold Zku at h
  obtain⟨k,hk,rfl⟩:=List.mem_map.1 h
  rw[List.mem_range] at hk
  exact⟨by simpa using hc,k,by omega,rfl⟩
theorem ZpS {i:Nat} {x:Zhp} (h:x.2.2.2.2.2.2.2.1.length≤32): (Znl i x).length≤31:=by
 unfold Znl
 split
 ·simp
 ·simp [Zku];omega
theorem Zlw {α:Type} {l:List α} {i:Nat} (h:i<l.length) (d:α): (l[i]?).getD d∈l:=by
 rw[List.getElem?_eq_getElem h];exact List.getElem_mem h
theorem ZlP {n:ZaJ} (h:Zfv n): ∀k,k≤n.2.2.1.length→(Zht n k).length≤31*k
 |0,_=>by simp [Zht]
 |k+1,hk=>by
  rw[ZgT,List.length_append]
  have:=ZlP h k (by omega)
  have:=ZpS (i:=k) (h.many _ (Zlw (show k<n.2.2.1.length by omega) u0)).2
  omega
theorem ZrM {i:Nat} {x:Zhp} (h:Zq7 x.2.2.2.2.2.2.2.1): (Znl i x).Pairwise ltC:=by
 unfold Znl
 split
 ·exact .nil
 ·unfold Zku
  rw[List.pairwise_map]
  refine List.Pairwise.imp_of_mem ?_ List.pairwise_lt_range
  intro a b ha hb hab
  rw[List.mem_range] at ha hb
  generalize hl:x.2.2.2.2.2.2.2.1=l at*
  have step: ∀k (hk:k+1<l.length),((l[k]?).getD c0).2.2.1≤((l[k+1]?).getD c0).2.1∧((l[k+1]?).getD c0).2.1≤((l[k+1]?).getD c0).2.2.1:=by
   intro k hk
   have t:=h (k+1) hk
   have t2:=t.2.2.2 (by omega)
   rw[Zaj hk,Zaj (show k<l.length by omega)]
   have e:l[k+1 - 1]'(by omega)=l[k]:=rfl
   rw[e] at t2
   exact⟨t2.2,t.2.1⟩
  have mono: ∀d k,k+d+1<l.length→((l[k]?).getD c0).2.2.1≤((l[k+d]?).getD c0).2.2.1∧((l[k+1]?).getD c0).2.1≤((l[k+d+1]?).getD c0).2.1:=by
   intro d
   induction d with
   |zero=>exact fun k hk=>⟨Int.le_refl _,Int.le_refl _⟩
   |succ d ih=>
    intro k hk
    have h1:=ih k (by omega)
    have h2:=step (k+d) (by omega)
    have h3:=step (k+d+1) (by omega)
    refine⟨?_, ?_⟩
    ·show _≤((l[k+d+1]?).getD c0).2.2.1
     omega
    ·show _≤((l[k+d+1+1]?).getD c0).2.1
     omega
  have m:=mono (b - a) a (by omega)
  rw[show a+(b - a)=b by omega] at m
  show ((l[a]?).getD c0).2.2.1< ((l[b]?).getD c0).2.2.1∨(((l[a]?).getD c0).2.2.1=((l[b]?).getD c0).2.2.1∧(((l[a+1]?).getD c0).2.1< ((l[b+1]?).getD c0).2.1∨(((l[a+1]?).getD c0).2.1=((l[b+1]?).getD c0).2.1∧((i:Int)< (i:Int)∨((i:Int)=(i:Int)∧(a:Int)< (b:Int))))))
  obtain⟨m1,m2⟩:=m
  generalize ((l[a]?).getD c0).2.2.1=w1 at*
  generalize ((l[b]?).getD c0).2.2.1=w2 at*
  generalize ((l[a+1]?).getD c0).2.1=w3 at*
  generalize ((l[b+1]?).getD c0).2.1=w4 at*
  omega
theorem Zns {n:ZaJ} (h:Zfv n): ∀k,k≤n.2.2.1.length→(Zht n k).Pairwise fun a b=>ltC a b∨ltC b a:=by
 intro k hk
 unfold Zht
 rw[List.pairwise_flatMap]
 refine⟨fun i hi=> ?_, ?_⟩
 ·rw[List.mem_range] at hi
  exact(ZrM (h.time _ (Zlw (show i<n.2.2.1.length by omega) u0))).imp fun h=> .inl h
 ·refine List.Pairwise.imp ?_ List.pairwise_lt_range
  intro a b hab x hx y hy
  obtain⟨_,p,_,rfl⟩:=ZiU hx
  obtain⟨_,q,_,rfl⟩:=ZiU hy
  have key: ∀u v:ZcH,u.1<v.1→ltC u v∨ltC v u:=fun u v h=>by unfold ltC;omega
  exact key _ _ (show ((a:Nat):Int)< ((b:Nat):Int) by omega)
theorem ZrJ (a:ZcH): ¬ltC a a:=by unfold ltC;omega
theorem Zsd {a b c:ZcH} (h1:ltC a b) (h2:ltC b c):ltC a c:=by unfold ltC at*;omega
theorem ZsL {α:Type} {o:Option α} {z:α} (h: ∃r,o=some r∧r=z):o=some z:=by
 obtain⟨r,rfl,rfl⟩:=h;rfl
theorem Zoq       {i : Nat} {x : Zhp } (hl : x.2.2.2.2.2.2.2.1.length ≤ 32) (h1 : 1 ≤ x.2.2.2.2.2.2.2.1.length) {out : List ZcH  } (ho : out.length ≤ 100000) :
    run
 (fun s3 : List ZcH   × Int =>
 bif decide (s3.2 < IntKind.wrap .i64 ((↑(List.length x.2.2.2.2.2.2.2.1) : Int) - (1 : Int))) then
 Option.bind (idx x.2.2.2.2.2.2.2.1 s3.2) fun x4 =>
 Option.bind (idx x.2.2.2.2.2.2.2.1 (IntKind.wrap .i64 (s3.2 + (1 : Int)))) fun x5 =>
 Option.bind (Zaq    (decide (List.length s3.1 + List.length [((i : Int), s3.2, x4.1, x5.1, x4.2.2.1, x5.2.1, ())] ≤ Zas   ))) fun _ =>
 some (.inl (s3.1 ++ [((i : Int), s3.2, x4.1, x5.1, x4.2.2.1, x5.2.1, ())], IntKind.wrap .i64 (s3.2 + (1 : Int))))
 else some (.inr s3.1))
 (out, (0 : Int)) = some (out ++ Zku  i x.2.2.2.2.2.2.2.1 (x.2.2.2.2.2.2.2.1.length - 1)) := by
  generalize x.2.2.2.2.2.2.2.1 = l at *
  have e0 : IntKind.wrap .i64 ((l.length : Int) - 1) = ((l.length - 1 : Nat) : Int) := by rw [Zat      (by omega) (by omega)]; omega
  refine ZsL   (Za3     (l.length - 1) _ (fun c (s : List ZcH   × Int) => s = (out ++ Zku  i l c, (c : Int))) ?_ ?_ _ (by simp [Zku ]))
  · rintro c s hc rfl
    left
    have hc1 : c + 1 < l.length := by omega
    refine ⟨(out ++ Zku  i l (c + 1), ((c + 1 : Nat) : Int)), ?_, rfl⟩
    simp only [e0, Zay    hc, cond_true, Zah     (show c < l.length by omega), bind_some, Zai       hc (show l.length - 1 ≤ 9223372036854775807 by omega), Zah     hc1]
    rw [Za7       (by have : (Zku  i l c).length = c := by simp [Zku ]
                      simp; omega)]
    simp only [bind_some, Zoy      , Zhx  , Zaj     hc1, Zaj     (show c < l.length by omega), List.append_assoc]
  · rintro s rfl
    refine ⟨_, ?_, rfl⟩
    simp only [e0, Zav    , cond_false]
theorem Zqe {n:ZaJ} {c:ZcH} (h:c∈Zht n n.2.2.1.length): ∃i, ∃hi:i<n.2.2.1.length,(n.2.2.1[i]).2.2.2.2.2.2.1=false∧ ∃k,k+1< (n.2.2.1[i]).2.2.2.2.2.2.2.1.length∧c=Zhx i (n.2.2.1[i]).2.2.2.2.2.2.2.1 k:=by
 unfold Zht at h
 obtain⟨i,hi,hc⟩:=List.mem_flatMap.1 h
 rw[List.mem_range] at hi
 rw[Zaj hi] at hc
 exact⟨i,hi,ZiU hc⟩
theorem Zqu {n:ZaJ} (hf:Fit n): ∃r,F36 n=some r∧F56 n=some r∧(r.2.2≠0→F6 n=some ([],21))∧
  (r.2.2=0→Zfv n∧ ∃ys:List ZcH,F6 n=some (ys,0)∧ys.Perm (Zht n n.2.2.1.length)∧ys.Pairwise ltC):=by
 obtain⟨r,h1,h2,h3⟩:=Zm3 n hf
 refine⟨r,h1,h2,fun hr=> ?_,fun hr=> ?_⟩
 ·unfold F6
  rw[h1]
  simp only[bind_some,decide_eq_false hr,Bool.not_false,cond_true]
 ·have hS:=h3 hr
  refine⟨hS, ?_⟩
  have hlen:=hS.runs
  have hcl:=ZlP hS
  obtain⟨ys,g1,g2,g3⟩:=Zj7 (cmp:=F5) ltC (Zht n n.2.2.1.length) (by have:=hcl _ (Nat.le_refl _);omega) (fun x _ y _=>⟨_,ZkV x y,Zra x y,ZpM x y⟩) (fun x _=>ZrJ x) (fun a _ b _ c _=>Zsd) (Zns hS _ (Nat.le_refl _))
  refine⟨ys, ?_,g2,g3⟩
  unfold F6
  rw[h1]
  simp only[bind_some,hr,decide_true,Bool.not_true,cond_false]
  refine ZdL (fun r=>r=Zht n n.2.2.1.length) (Za3 n.2.2.1.length _ (fun i (s:List ZcH×Int)=>s=(Zht n i,(i:Int))) ?_ ?_ _ (by simp [Zht])) ?_
  ·rintro i s hi rfl
   left
   have hx:=List.getElem_mem hi
   refine⟨(Zht n (i+1),((i+1:Nat):Int)), ?_,rfl⟩
   have hlen2:=hcl i (by omega)
   simp only[Zay hi,cond_true,Zah hi,bind_some,Zai hi (show n.2.2.1.length≤9223372036854775807 by omega),ZgT,Zaj hi,Znl]
   cases hc: (n.2.2.1[i]).2.2.2.2.2.2.1 with
   |true=>simp only[cond_true,if_true,List.append_nil]
   |false=>
    simp only[cond_false,Bool.false_eq_true,if_false]
    rw[Zoq (hS.many _ hx).2 (by have:=(hS.many _ hx).1;omega) (by omega)]
    rfl
  ·rintro s rfl
   refine⟨_, ?_,rfl⟩
   simp only[Zav,cond_false]
  ·rintro _ rfl
   unfold F110
   rw[g1]
   rfl
theorem ZnJ {ys:List ZcH} (hs:ys.Pairwise ltC) {i j:Nat} (hij:i<j) (hj:j<ys.length):ltC (ys[i]'(by omega)) ys[j]:=List.pairwise_iff_getElem.1 hs i j (by omega) hj hij
theorem ZsA {α:Type} {l:List α} {i:Nat} (h:i<l.length):idx l (i:Int)=some l[i]:=Zah h
theorem Zqy (n:Nat) (p:Nat→Bool) (h: ∀i j,i<j→j<n→p j=true→p i=true): ∃k,k≤n∧ ∀i,i<n→(p i=true↔i<k):=by
 induction n with
 |zero=>exact⟨0,Nat.le_refl _,fun i hi=>by omega⟩
 |succ n ih=>
  obtain⟨k,hk,h1⟩:=ih fun i j hij hj=>h i j hij (by omega)
  cases hp:p n with
  |true=>
   refine⟨n+1,Nat.le_refl _,fun i hi=>⟨fun _=>hi,fun _=> ?_⟩⟩
   by_cases e:i=n
   ·subst e;exact hp
   ·exact h i n (by omega) (by omega) hp
  |false=>
   refine⟨k,by omega,fun i hi=> ?_⟩
   by_cases e:i=n
   ·subst e;rw[hp];constructor
    ·intro h;exact absurd h (by decide)
    ·intro h;omega
   ·exact h1 i (by omega)
def ZhA (l:List ZcH) (i:Nat):Int:=((l[i]?).getD (0,0,0,0,0,0,())).2.2.2.2.1
theorem Zma {ys:List ZcH} (hs:ys.Pairwise ltC) {i j:Nat} (hij:i<j) (hj:j<ys.length):ZhA ys i≤ZhA ys j:=by
 have h:=ZnJ hs hij hj
 unfold ZhA
 rw[Zaj hj,Zaj (show i<ys.length by omega)]
 unfold ltC at h
 omega
theorem Zqg {lo hi:Nat} (h:lo<hi) (hn:hi≤1000000):IntKind.wrap .i64 (Int.tdiv (IntKind.wrap .i64 ((lo:Int)+(hi:Int))) (2:Int))=((lo+(hi - lo) / 2:Nat):Int):=by
 have e1:IntKind.wrap .i64 ((lo:Int)+(hi:Int))=((lo+hi:Nat):Int):=by rw[Zat (by omega) (by omega)];omega
 rw[e1,Int.tdiv_eq_ediv_of_nonneg (by omega),Zat (by omega) (by omega)]
 omega
theorem ZnO {ys:List ZcH} (hs:ys.Pairwise ltC) (hl:ys.length≤1000000) (t:Int): ∃k,k≤ys.length∧F7 ys t=some (k:Int)∧ ∀i,i<ys.length→(ZhA ys i≤t↔i<k):=by
 obtain⟨k,hk,h1⟩:=Zqy ys.length (fun i=>decide (ZhA ys i≤t)) fun i j hij hj hp=>by
  have:=Zma hs hij hj
  simp only[decide_eq_true_eq] at hp ⊢
  omega
 simp only[decide_eq_true_eq] at h1
 refine⟨k,hk, ?_,h1⟩
 unfold F7 F9
 simp only
 rw[Zp3 hk]
 ·rfl
 ·intro lo hi hlt hhi
  have hm:lo+(hi - lo) / 2<ys.length:=by omega
  have hd:=h1 _ hm
  unfold ZhA at hd
  rw[Zaj hm] at hd
  simp only[decide_eq_true (show (lo:Int)< (hi:Int) by omega),cond_true,Zqg hlt (by omega),F8,ZsA hm,bind_some]
  by_cases hc:lo+(hi - lo) / 2<k
  ·rw[if_pos hc,decide_eq_false (Int.not_lt.2 (hd.2 hc))]
   simp only[cond_false]
   rw[Zai hm (by omega)]
  ·rw[if_neg hc,decide_eq_true (Int.not_le.1 (mt hd.1 hc))]
   rfl
 ·intro lo
  simp only[Zav,cond_false]
theorem Zrt {n:ZaJ} {i m:Nat} (hi:i<n.2.2.1.length) (hm:m+1< (Zad n i).length) (hc:Zbj n i=false):Zhx i (Zad n i) m∈Zht n n.2.2.1.length:=by
 unfold Zht
 refine List.mem_flatMap.2 ⟨i,List.mem_range.2 hi, ?_⟩
 rw[Zaj hi]
 have e:Zad n i=(n.2.2.1[i]).2.2.2.2.2.2.2.1:=ZaO hi
 have hc' : (n.2.2.1[i]).2.2.2.2.2.2.1=false:=by
  unfold Zbj rn at hc
  rw[Int.toNat_natCast,Zaj hi] at hc
  exact hc
 unfold Znl
 rw[if_neg (by rw[hc'];simp), ←e]
 unfold Zku
 refine List.mem_map.2 ⟨m,List.mem_range.2 (by omega),rfl⟩
end Q
namespace Q
open Tr Go
open Option (bind_some)
abbrev Zd2:=Int×Int×Int×Int×Int×Unit
abbrev ZjA:=Int×Int×Bool×Unit
abbrev ScT:=ZaJ×Zbp×List ZoH×List Zd2×List ZjA×List (List Int) ×Bool×Unit
structure Ctx (n:ZaJ) (s0 t0 w:Int):Prop where
 net:ZfJ n
 stop:0≤s0∧s0< (n.1.length:Int)
 time:0≤t0∧t0≤3155932800
 wait:0≤w∧w≤3600
variable {n:ZaJ} {s0 t0 w:Int}
theorem Ctx.ok (C:Ctx n s0 t0 w) {f:Zni} {js:List Zc0} (d:Der n s0 t0 w f js):f.ok n:=d.ok C.net C.stop C.time C.wait
def ZbP (old new:Int):Bool:=decide (old= -1) ||decide (new<old)
theorem Zfj (old new:Int): (bif decide (old=(-1:Int)) then some true else some (decide (new<old)))=some (ZbP old new):=by
 unfold ZbP
 cases decide (old=(-1:Int))<;>rfl
theorem ZbL {a b:Int} :ZbP a b=true↔a= -1∨b<a:=by
 unfold ZbP
 rw[Bool.or_eq_true,decide_eq_true_eq,decide_eq_true_eq]
theorem Zk0 {a b:Int} (h:ZbP a b=false):a≠ -1∧a≤b:=by
 have: ¬ (a= -1∨b<a):=fun e=>by rw[ZbL.2 e] at h;cases h
 omega
theorem Zso {a b t:Int} (hb:0≤b) (h:a≠ -1∧a≤t): (bif ZbP a b then b else a)≠ -1∧(bif ZbP a b then b else a)≤t:=by
 cases hl:ZbP a b with
 |false=>exact h
 |true=>
  have:=ZbL.1 hl
  simp only[cond_true]
  omega
theorem ZqN {a b:Int} (hb:0≤b): (bif ZbP a b then b else a)≠ -1∧(bif ZbP a b then b else a)≤b:=by
 cases hl:ZbP a b with
 |true=>simp only[cond_true];omega
 |false=>simp only[cond_false];exact Zk0 hl
theorem ZcR {α:Type} {l:List α} {i:Nat} {p:α} (h:l[i]? =some p) (g:α→α): (l.modify i g)[i]? =some (g p):=by
 rw[List.getElem?_modify,h];simp
theorem Zef {α:Type} {l:List α} {i j:Nat} (e:i≠j) (g:α→α): (l.modify i g)[j]? =l[j]? :=by
 rw[List.getElem?_modify];simp [e]
theorem ZcW {α:Type} {l:List α} {i j:Nat} {g:α→α} {q:α} (h: (l.modify i g)[j]? =some q): ∃p,l[j]? =some p∧(i=j∧q=g p∨i≠j∧q=p):=by
 by_cases e:i=j
 ·subst e
  cases hp:l[i]? with
  |none=>rw[List.getElem?_modify,hp] at h;simp at h
  |some p=>rw[ZcR hp] at h;cases h;exact⟨p,rfl, .inl ⟨rfl,rfl⟩⟩
 ·rw[Zef e] at h
  exact⟨q,h, .inr ⟨e,rfl⟩⟩
theorem Zcc {α:Type} {l:List α} {i:Nat} (h:i<l.length) (g:α→α):l.modify i g=l.set i (g l[i]):=by
 apply List.ext_getElem?
 intro j
 rw[List.getElem?_modify,List.getElem?_set]
 by_cases hj:i=j
 ·subst hj
  rw[List.getElem?_eq_getElem h]
  simp [h]
 ·simp [hj]
theorem Zfb {α:Type} {l:List α} {i j:Nat} {x y:α} (h: (l.set i x)[j]? =some y): (i=j∧y=x)∨l[j]? =some y:=by
 rw[List.getElem?_set] at h
 by_cases e:i=j
 ·rw[if_pos e] at h
  split at h
  ·exact .inl ⟨e,by simpa using h.symm⟩
  ·exact absurd h (by simp)
 ·rw[if_neg e] at h;exact .inr h
structure SP (D:Zni→List Zc0→Prop) (lb:List ZoH) (s:Int) (p:Zd2):Prop where
 arr:p.1≠ -1→ ∃k js,Ch lb p.2.2.2.1 js∧D (.arr k s p.1) js
 rid:p.2.1≠ -1→ ∃k js,D (.rid k s p.2.1) js
 rdy:p.2.2.1≠ -1→ ∃k js,Ch lb p.2.2.2.2.1 js∧D (.rdy k s p.2.2.1) js
def SB (D:Zni→List Zc0→Prop) (lb:List ZoH) (i:Nat) (b:ZjA):Prop:=b.1≠ -1→ ∃k, ∃c:Nat,b.1=(c:Int)∧ ∃js,Ch lb b.2.1 js∧D (.brd k i c b.2.2.1) js
structure Snd (D:Zni→List Zc0→Prop) (f:ScT):Prop where
 pls: ∀ (s:Nat) p,f.2.2.2.1[s]? =some p→SP D f.2.2.1 (s:Int) p
 brd: ∀ (i:Nat) b,f.2.2.2.2.1[i]? =some b→SB D f.2.2.1 i b
variable {D:Zni→List Zc0→Prop} {lb:List ZoH}
theorem SP.app {s:Int} {p:Zd2} (h:SP D lb s p) (m:List ZoH):SP D (lb++m) s p:=
 ⟨fun e=>let ⟨k,js,b,c⟩:=h.arr e;⟨k,js,b.app m,c⟩,h.rid,fun e=>let ⟨k,js,b,c⟩:=h.rdy e;⟨k,js,b.app m,c⟩⟩
theorem SB.app {i:Nat} {b:ZjA} (h:SB D lb i b) (m:List ZoH):SB D (lb++m) i b:=
 fun e=>let ⟨k,c,e1,js,b,d⟩:=h e;⟨k,c,e1,js,b.app m,d⟩
def LeA (l:List Zd2) (s:Nat) (t:Int):Prop:= ∃p,l[s]? =some p∧p.1≠ -1∧p.1≤t
def LeR (l:List Zd2) (s:Nat) (t:Int):Prop:= ∃p,l[s]? =some p∧p.2.1≠ -1∧p.2.1≤t
def LeY (l:List Zd2) (s:Nat) (t:Int):Prop:= ∃p,l[s]? =some p∧p.2.2.1≠ -1∧p.2.2.1≤t
def LeB (l:List ZjA) (i:Nat) (d:Int):Prop:= ∃b,l[i]? =some b∧b.1≠ -1∧b.1≤d
theorem LeA.weak {l:List Zd2} {s:Nat} {t u:Int} (h:LeA l s t) (e:t≤u):LeA l s u:=let ⟨p,a,b,c⟩:=h;⟨p,a,b,Int.le_trans c e⟩
theorem LeR.weak {l:List Zd2} {s:Nat} {t u:Int} (h:LeR l s t) (e:t≤u):LeR l s u:=let ⟨p,a,b,c⟩:=h;⟨p,a,b,Int.le_trans c e⟩
theorem LeY.weak {l:List Zd2} {s:Nat} {t u:Int} (h:LeY l s t) (e:t≤u):LeY l s u:=let ⟨p,a,b,c⟩:=h;⟨p,a,b,Int.le_trans c e⟩
def Zi4 (V:List Int) (x:Int):Nat:=V.countP fun v=>ZbP x v
theorem Zpb (V:List Int) (x:Int):Zi4 V x≤V.length:=List.countP_le_length
theorem Zn2 {V:List Int} {x a:Int} (ha:0≤a) (hV:a∈V) (hl:ZbP x a=true):Zi4 V a<Zi4 V x:=by
 unfold Zi4
 induction V with
 |nil=>cases hV
 |cons v V ih=>
  have hm:V.countP (fun v=>ZbP a v)≤V.countP (fun v=>ZbP x v):=List.countP_mono_left fun u _ hu=>by
   have h1:=ZbL.1 hu
   have h2:=ZbL.1 hl
   exact ZbL.2 (by omega)
  rw[List.countP_cons,List.countP_cons]
  have h1:ZbP a a=false:=by
   cases e:ZbP a a with
   |false=>rfl
   |true=>have:=ZbL.1 e;omega
  rcases List.mem_cons.1 hV with rfl|hV
  ·rw[h1,hl]
   simp only[Bool.false_eq_true,if_false,if_true]
   omega
  ·have h3:=ih hV
   have h4:ZbP a v=true→ZbP x v=true:=fun e=>by
    have h1:=ZbL.1 e
    have h2:=ZbL.1 hl
    exact ZbL.2 (by omega)
   cases e:ZbP a v with
   |true=>rw[h4 e];simp only[if_true];omega
   |false=>simp only[Bool.false_eq_true,if_false];omega
def ZrU (b:ZjA):Nat:=if b.1= -1 then 40 else b.1.toNat
def Zi1 (V:List Int) (l:List Zd2):Nat:=(l.map fun p=>Zi4 V p.1+Zi4 V p.2.2.1).sum
def Zkx (l:List ZjA):Nat:=(l.map ZrU).sum
def pot (V:List Int) (f:ScT):Nat:=Zi1 V f.2.2.2.1+Zkx f.2.2.2.2.1
theorem ZgC {α:Type} (g:α→Nat): ∀ {l:List α} {i:Nat} (hi:i<l.length) (x:α),((l.set i x).map g).sum+g l[i]=(l.map g).sum+g x
 | [],_,hi,_=>absurd hi (by simp)
 |a::l,0,_,x=>by simp;omega
 |a::l,i+1,hi,x=>by
  have:=ZgC g (l:=l) (i:=i) (by simpa using hi) x
  simp only[List.set_cons_succ,List.map_cons,List.sum_cons,List.getElem_cons_succ]
  omega
structure Zpu (f g:ScT):Prop where
 arr: ∀s t,LeA g.2.2.2.1 s t→LeA f.2.2.2.1 s t
 rdy: ∀s t,LeY g.2.2.2.1 s t→LeY f.2.2.2.1 s t
 brd: ∀i d,LeB g.2.2.2.2.1 i d→LeB f.2.2.2.2.1 i d
structure Stp (n:ZaJ) (V:List Int) (T:Int) (f g:ScT):Prop where
 net:g.1=f.1
 qry:g.2.1=f.2.1
 lab: ∃m,g.2.2.1=f.2.2.1++m
 pl:g.2.2.2.1.length=f.2.2.2.1.length
 rl:g.2.2.2.2.1.length=f.2.2.2.2.1.length
 lks:g.2.2.2.2.2.1=f.2.2.2.2.2.1
 arr: ∀s t,LeA f.2.2.2.1 s t→LeA g.2.2.2.1 s t
 rid: ∀s t,LeR f.2.2.2.1 s t→LeR g.2.2.2.1 s t
 rdy: ∀s t,LeY f.2.2.2.1 s t→LeY g.2.2.2.1 s t
 brd: ∀i d,LeB f.2.2.2.2.1 i d→LeB g.2.2.2.2.1 i d
 mvd:f.2.2.2.2.2.2.1=true→g.2.2.2.2.2.2.1=true
 same:g.2.2.2.2.2.2.1=true∨Zpu f g
 late: ∀s t,t<T→LeY g.2.2.2.1 s t→LeY f.2.2.2.1 s t
 lateB: ∀ (i m:Nat),i<n.2.2.1.length→m< (Zad n i).length→(Zab n i m).2.2.1<T→LeB g.2.2.2.2.1 i (m:Int)→LeB f.2.2.2.2.1 i (m:Int)
 pot:pot V g≤pot V f
 fall:f.2.2.2.2.2.2.1=false→g.2.2.2.2.2.2.1=true→Q.pot V g<Q.pot V f
variable {V:List Int} {T:Int}
theorem Zpu.refl (f:ScT):Zpu f f:=⟨fun _ _ h=>h,fun _ _ h=>h,fun _ _ h=>h⟩
theorem Zpu.trans {f g h:ScT} (x:Zpu f g) (y:Zpu g h):Zpu f h:=⟨fun s t e=>x.arr s t (y.arr s t e),fun s t e=>x.rdy s t (y.rdy s t e),fun s t e=>x.brd s t (y.brd s t e)⟩
theorem Stp.refl (f:ScT):Stp n V T f f:=
 ⟨rfl,rfl,⟨[],by simp⟩,rfl,rfl,rfl,fun _ _ h=>h,fun _ _ h=>h,fun _ _ h=>h,fun _ _ h=>h,fun h=>h, .inr (Zpu.refl f),fun _ _ _ h=>h,fun _ _ _ _ _ h=>h,Nat.le_refl _,fun a b=>by rw[a] at b;cases b⟩
theorem Stp.trans {f g h:ScT} (x:Stp n V T f g) (y:Stp n V T g h):Stp n V T f h:=by
 obtain⟨m,hm⟩:=x.lab
 obtain⟨m',hm'⟩:=y.lab
 refine⟨y.net.trans x.net,y.qry.trans x.qry,⟨m++m',by rw[hm',hm,List.append_assoc]⟩,y.pl.trans x.pl,y.rl.trans x.rl,y.lks.trans x.lks,fun s t h=>y.arr s t (x.arr s t h),fun s t h=>y.rid s t (x.rid s t h),fun s t h=>y.rdy s t (x.rdy s t h),fun s t h=>y.brd s t (x.brd s t h),fun e=>y.mvd (x.mvd e), ?_,
  fun s t a b=>x.late s t a (y.late s t a b),fun i m a b c d=>x.lateB i m a b c (y.lateB i m a b c d),Nat.le_trans y.pot x.pot,fun a b=> ?_⟩
 ·rcases y.same with e|e
  ·exact .inl e
  ·rcases x.same with e' |e'
   ·exact .inl (y.mvd e')
   ·exact .inr (e'.trans e)
 ·cases hg:g.2.2.2.2.2.2.1 with
  |true=>exact Nat.lt_of_le_of_lt y.pot (x.fall a hg)
  |false=>exact Nat.lt_of_lt_of_le (y.fall hg b) x.pot
theorem Stp.ch {f g:ScT} (h:Stp n V T f g) {l:Int} {js:List Zc0} (c:Ch f.2.2.1 l js):Ch g.2.2.1 l js:=by
 obtain⟨m,hm⟩:=h.lab
 rw[hm];exact c.app m
def Zne (f:ScT) (x:Zc0) (prev:Int):ScT:=(f.1,f.2.1,f.2.2.1++[(x,prev,())],f.2.2.2)
theorem Znv (f:ScT) (hl:f.2.2.1.length<4000000000) (x:Zc0) (prev:Int):F95 f x prev=some (Zne f x prev,(f.2.2.1.length:Int)):=by
 unfold F95 Zne
 rw[Za7 (by simp;omega)]
 have e:IntKind.wrap .i64 (((f.2.2.1++[(x,prev,())]).length:Int) - 1)=(f.2.2.1.length:Int):=by
  rw[List.length_append]
  simp only[List.length_cons,List.length_nil]
  rw[Zat (by omega) (by omega)];omega
 rw[e]
 rfl
theorem Zky (f:ScT) (x:Zc0) (p:Int):Stp n V T f (Zne f x p):=
 ⟨rfl,rfl,⟨[(x,p,())],rfl⟩,rfl,rfl,rfl,fun _ _ h=>h,fun _ _ h=>h,fun _ _ h=>h,fun _ _ h=>h,fun h=>h, .inr ⟨fun _ _ h=>h,fun _ _ h=>h,fun _ _ h=>h⟩,fun _ _ _ h=>h,fun _ _ _ _ _ h=>h,Nat.le_refl _,fun a b=>by
  have b' :f.2.2.2.2.2.2.1=true:=b
  rw[a] at b';cases b'⟩
theorem Snd.add {f:ScT} (h:Snd D f) (x:Zc0) (p:Int):Snd D (Zne f x p):=
 ⟨fun s q hq=>(h.pls s q hq).app _,fun i b hb=>(h.brd i b hb).app _⟩
def Zr6 (p:Zd2) (a l:Int):Zd2:=bif ZbP p.1 a then(a,p.2.1,p.2.2.1,l,p.2.2.2.2) else p
def Zrw (p:Zd2) (r l:Int):Zd2:=bif ZbP p.2.2.1 r then(p.1,p.2.1,r,p.2.2.2.1,l,p.2.2.2.2.2) else p
def Znh (p:Zd2) (a r l:Int):Zd2:=Zrw (Zr6 p a l) r l
def Zi2 (f:ScT) (i:Nat) (a r l:Int):ScT:=(f.1,f.2.1,f.2.2.1,f.2.2.2.1.modify i fun p=>Znh p a r l,f.2.2.2.2.1,f.2.2.2.2.2.1,
 (ZbP ((f.2.2.2.1[i]?).getD (0,0,0,0,0,())).1 a||ZbP ((f.2.2.2.1[i]?).getD (0,0,0,0,0,())).2.2.1 r) ||f.2.2.2.2.2.2.1,())
theorem Zgn (p:Zd2) (a r l:Int): (Znh p a r l).1=bif ZbP p.1 a then a else p.1:=by
 unfold Znh Zrw Zr6
 cases ZbP p.1 a<;>simp only[cond_true,cond_false]<;>cases ZbP p.2.2.1 r<;>rfl
theorem Zfy (p:Zd2) (a r l:Int): (Znh p a r l).2.2.1=bif ZbP p.2.2.1 r then r else p.2.2.1:=by
 unfold Znh Zrw Zr6
 cases ZbP p.1 a<;>simp only[cond_true,cond_false]<;>cases ZbP p.2.2.1 r<;>rfl
theorem Zjn (p:Zd2) (a r l:Int): (Znh p a r l).2.1=p.2.1:=by
 unfold Znh Zrw Zr6
 cases ZbP p.1 a<;>simp only[cond_true,cond_false]<;>cases ZbP p.2.2.1 r<;>rfl
theorem ZeZ (f:ScT) {i:Nat} (hi:i<f.2.2.2.1.length) (a r l:Int):F98 f (i:Int) a r l=some (Zi2 f i a r l):=by
 unfold F98 Zi2
 rw[Zcc hi]
 obtain⟨n,q,lb,pl,rn,lk,mv,u⟩:=f
 simp only at hi
 simp only[ZaQ hi,bind_some,List.getElem?_eq_getElem hi,Option.getD_some]
 generalize hp:pl[i]=p
 rw[Zfj]
 simp only[bind_some]
 unfold Znh Zr6
 cases hl:ZbP p.1 a with
 |true=>
  simp only[cond_true,List.set_set,List.getElem?_set_self hi,bind_some]
  rw[Zfj]
  simp only[bind_some]
  unfold Zrw
  simp only
  cases ZbP p.2.2.1 r with
  |true=>simp only[cond_true,Bool.true_or]
  |false=>simp only[cond_false,Bool.true_or]
 |false=>
  simp only[cond_false]
  rw[Zfj]
  simp only[bind_some]
  unfold Zrw
  cases ZbP p.2.2.1 r with
  |true=>simp only[cond_true,List.getElem?_set_self hi,bind_some,List.set_set,Bool.or_true,Bool.true_or]
  |false=>
   simp only[cond_false,Bool.false_or]
   rw[←hp,List.set_getElem_self]
theorem Zd3 {P:Zd2→Prop} {l:List Zd2} {i s:Nat} {g:Zd2→Zd2} (hg: ∀p,P p→P (g p)) (h: ∃p,l[s]? =some p∧P p): ∃p,(l.modify i g)[s]? =some p∧P p:=by
 obtain⟨p,h1,h2⟩:=h
 by_cases e:i=s
 ·subst e;exact⟨g p,ZcR h1 g,hg p h2⟩
 ·exact⟨p,(Zef e g).trans h1,h2⟩
theorem Zb6 {P:Zd2→Prop} {l:List Zd2} {i s:Nat} {g:Zd2→Zd2} (hg: ∀p,l[i]? =some p→P (g p)→P p) (h: ∃p,(l.modify i g)[s]? =some p∧P p): ∃p,l[s]? =some p∧P p:=by
 obtain⟨q,h1,h2⟩:=h
 obtain⟨p,hp,⟨rfl,rfl⟩ | ⟨_,rfl⟩⟩:=ZcW h1
 ·exact⟨p,hp,hg p hp h2⟩
 ·exact⟨_,hp,h2⟩
theorem ZqZ {a x:Int} (ha:0≤a) (hV:a∈V):Zi4 V (bif ZbP x a then a else x)≤Zi4 V x∧(ZbP x a=true→Zi4 V (bif ZbP x a then a else x)<Zi4 V x):=by
 cases hl:ZbP x a with
 |true=>simp only[cond_true];exact⟨Nat.le_of_lt (Zn2 ha hV hl),fun _=>Zn2 ha hV hl⟩
 |false=>exact⟨Nat.le_refl _,fun e=>nomatch e⟩
theorem ZiI (f:ScT) {i:Nat} (hi:i<f.2.2.2.1.length) {a r:Int} (ha:0≤a) (hr:0≤r) (hT:T≤r) (hVa:a∈V) (hVr:r∈V) (l:Int):Stp n V T f (Zi2 f i a r l):=by
 have hg: (f.2.2.2.1[i]?).getD (0,0,0,0,0,())=f.2.2.2.1[i]:=Zaj hi _
 have hpp:Zi1 V (Zi2 f i a r l).2.2.2.1+(Zi4 V (f.2.2.2.1[i]).1+Zi4 V (f.2.2.2.1[i]).2.2.1)=Zi1 V f.2.2.2.1+(Zi4 V (bif ZbP (f.2.2.2.1[i]).1 a then a else(f.2.2.2.1[i]).1)+Zi4 V (bif ZbP (f.2.2.2.1[i]).2.2.1 r then r else(f.2.2.2.1[i]).2.2.1)):=by
  have:=ZgC (fun p:Zd2=>Zi4 V p.1+Zi4 V p.2.2.1) hi (Znh f.2.2.2.1[i] a r l)
  simp only[Zgn,Zfy] at this
  unfold Zi1 Zi2
  rw[Zcc hi]
  exact this
 have c1:=ZqZ (x:=(f.2.2.2.1[i]).1) ha hVa
 have c2:=ZqZ (x:=(f.2.2.2.1[i]).2.2.1) hr hVr
 refine⟨rfl,rfl,⟨[],by simp [Zi2]⟩,by simp [Zi2],rfl,rfl,fun s t h=> ?_,fun s t h=> ?_,fun s t h=> ?_,fun _ _ h=>h,fun h=> ?_, ?_,fun s t ht h=> ?_,fun _ _ _ _ _ h=>h, ?_,fun h1 h2=> ?_⟩
 ·refine Zd3 (P:=fun p=>p.1≠ -1∧p.1≤t) (fun p hp=> ?_) h
  rw[Zgn];exact Zso ha hp
 ·refine Zd3 (P:=fun p=>p.2.1≠ -1∧p.2.1≤t) (fun p hp=> ?_) h
  rw[Zjn];exact hp
 ·refine Zd3 (P:=fun p=>p.2.2.1≠ -1∧p.2.2.1≤t) (fun p hp=> ?_) h
  rw[Zfy];exact Zso hr hp
 ·show (_||f.2.2.2.2.2.2.1)=true
  rw[h,Bool.or_true]
 ·show ((ZbP ((f.2.2.2.1[i]?).getD (0,0,0,0,0,())).1 a||ZbP ((f.2.2.2.1[i]?).getD (0,0,0,0,0,())).2.2.1 r) ||f.2.2.2.2.2.2.1)=true∨_
  rw[hg]
  cases h1:ZbP (f.2.2.2.1[i]).1 a with
  |true=>exact .inl rfl
  |false=>
   cases h2:ZbP (f.2.2.2.1[i]).2.2.1 r with
   |true=>exact .inl rfl
   |false=>
    right
    refine⟨fun s t h=> ?_,fun s t h=> ?_,fun _ _ h=>h⟩
    ·refine Zb6 (P:=fun p=>p.1≠ -1∧p.1≤t) (fun p hp hq=> ?_) h
     rw[List.getElem?_eq_getElem hi] at hp
     cases hp
     rw[Zgn,h1] at hq
     exact hq
    ·refine Zb6 (P:=fun p=>p.2.2.1≠ -1∧p.2.2.1≤t) (fun p hp hq=> ?_) h
     rw[List.getElem?_eq_getElem hi] at hp
     cases hp
     rw[Zfy,h2] at hq
     exact hq
 ·refine Zb6 (P:=fun p=>p.2.2.1≠ -1∧p.2.2.1≤t) (fun p hp hq=> ?_) h
  rw[Zfy] at hq
  cases hl:ZbP p.2.2.1 r with
  |false=>rw[hl] at hq;exact hq
  |true=>rw[hl] at hq;simp only[cond_true] at hq;omega
 ·show Zi1 V (Zi2 f i a r l).2.2.2.1+Zkx f.2.2.2.2.1≤Zi1 V f.2.2.2.1+Zkx f.2.2.2.2.1
  omega
 ·have h2' : ((ZbP ((f.2.2.2.1[i]?).getD (0,0,0,0,0,())).1 a||ZbP ((f.2.2.2.1[i]?).getD (0,0,0,0,0,())).2.2.1 r) ||f.2.2.2.2.2.2.1)=true:=h2
  rw[hg,h1,Bool.or_false,Bool.or_eq_true] at h2'
  show Zi1 V (Zi2 f i a r l).2.2.2.1+Zkx f.2.2.2.2.1<Zi1 V f.2.2.2.1+Zkx f.2.2.2.2.1
  rcases h2' with h|h
  ·have:=c1.2 h
   omega
  ·have:=c2.2 h
   omega
theorem ZkI {f:ScT} {i:Nat} (hi:i<f.2.2.2.1.length) {a r:Int} (ha:0≤a) (hr:0≤r) (l:Int):LeA (Zi2 f i a r l).2.2.2.1 i a∧LeY (Zi2 f i a r l).2.2.2.1 i r:=by
 have e: (Zi2 f i a r l).2.2.2.1[i]? =some (Znh f.2.2.2.1[i] a r l):=ZcR (List.getElem?_eq_getElem hi) _
 exact⟨⟨_,e,by rw[Zgn];exact ZqN ha⟩,⟨_,e,by rw[Zfy];exact ZqN hr⟩⟩
theorem SP.imp {s:Int} {p:Zd2} (h:SP D lb s p) {a r l:Int} (ha: ∃k js,Ch lb l js∧D (.arr k s a) js) (hr: ∃k js,Ch lb l js∧D (.rdy k s r) js):SP D lb s (Znh p a r l):=by
 obtain⟨h1,h2,h3⟩:=h
 unfold Znh Zrw Zr6
 cases ZbP p.1 a<;>simp only[cond_true,cond_false]<;>cases ZbP p.2.2.1 r<;>simp only[cond_true,cond_false]
 ·exact⟨h1,h2,h3⟩
 ·exact⟨h1,h2,fun _=>hr⟩
 ·exact⟨fun _=>ha,h2,h3⟩
 ·exact⟨fun _=>ha,h2,fun _=>hr⟩
theorem Snd.imp {f:ScT} (h:Snd D f) {i:Nat} {a r l:Int} (ha: ∃k js,Ch f.2.2.1 l js∧D (.arr k (i:Int) a) js) (hr: ∃k js,Ch f.2.2.1 l js∧D (.rdy k (i:Int) r) js):Snd D (Zi2 f i a r l):=by
 refine⟨fun s q hq=> ?_,h.brd⟩
 obtain⟨p,hp,⟨rfl,rfl⟩ | ⟨_,rfl⟩⟩:=ZcW hq
 ·exact(h.pls i p hp).imp ha hr
 ·exact h.pls s _ hp
def Zc8 (f:ScT) (i:Nat) (b:ZjA):ScT:=
 bif !(rn f.1 (i:Int)).2.2.2.2.2.2.1&&ZbP ((f.2.2.2.2.1[i]?).getD (0,0,false,())).1 b.1 then(f.1,f.2.1,f.2.2.1,f.2.2.2.1,f.2.2.2.2.1.set i b,f.2.2.2.2.2.1,true,()) else f
theorem Zj3 (f:ScT) {i:Nat} (hi:i<f.1.2.2.1.length) (hr:f.2.2.2.2.1.length=f.1.2.2.1.length) (b:ZjA):F96 f (i:Int) b=some (Zc8 f i b):=by
 unfold F96 Zc8
 have hi' :i<f.2.2.2.2.1.length:=by omega
 have e:rn f.1 (i:Int)=f.1.2.2.1[i]:=by unfold rn;rw[Int.toNat_natCast,Zaj hi]
 rw[e,Zaj hi']
 simp only[Zah hi,bind_some,ZaQ hi',List.getElem?_eq_getElem hi']
 cases (f.1.2.2.1[i]).2.2.2.2.2.2.1 with
 |true=>rfl
 |false=>
  simp only[Bool.not_false,cond_false,bind_some,Bool.true_and]
  unfold ZbP
  by_cases h1: (f.2.2.2.2.1[i]).1= -1
  ·rw[decide_eq_true h1];rfl
  ·rw[decide_eq_false h1]
   by_cases h2: (f.2.2.2.2.1[i]).1≤b.1
   ·rw[decide_eq_true h2,decide_eq_false (show¬b.1< (f.2.2.2.2.1[i]).1 by omega)];rfl
   ·rw[decide_eq_false h2,decide_eq_true (show b.1< (f.2.2.2.2.1[i]).1 by omega)];rfl
theorem Zsj {l:List ZjA} {i:Nat} {b:ZjA} (h:ZbP ((l[i]?).getD (0,0,false,())).1 b.1=true) (hb:0≤b.1) {j:Nat} {d:Int} (hj:LeB l j d):LeB (l.set i b) j d:=by
 obtain⟨x,h1,h2,h3⟩:=hj
 by_cases e:i=j
 ·subst e
  have hi:=(List.getElem?_eq_some_iff.1 h1).1
  refine⟨b,List.getElem?_set_self hi, ?_⟩
  rw[h1] at h
  have:=ZbL.1 h
  simp only[Option.getD_some] at this
  omega
 ·exact⟨x,by rw[List.getElem?_set_ne e];exact h1,h2,h3⟩
theorem Zqz {l:List ZjA} {i:Nat} (hi:i<l.length) {b:ZjA} (h:ZbP ((l[i]?).getD (0,0,false,())).1 b.1=false):LeB l i b.1:=by
 rw[Zaj hi] at h
 exact⟨l[i],List.getElem?_eq_getElem hi,Zk0 h⟩
theorem Zj2 (C:ZfJ n) (f:ScT) {i c:Nat} (hi:i<n.2.2.1.length) (hir:i<f.2.2.2.2.1.length) (hc:c< (Zad n i).length) (hT:T≤(Zab n i c).2.2.1) (prev:Int) (st:Bool):Stp n V T f (Zc8 f i ((c:Int),prev,st,())):=by
 unfold Zc8
 cases hg: (!(rn f.1 (i:Int)).2.2.2.2.2.2.1&&ZbP ((f.2.2.2.2.1[i]?).getD (0,0,false,())).1 (c:Int)) with
 |false=>exact Stp.refl f
 |true=>
  rw[Bool.and_eq_true] at hg
  have hl:=hg.2
  rw[Zaj hir] at hl
  have hl' :=ZbL.1 hl
  have h0: (0:Int)≤(c:Int):=by omega
  have hs:=ZgC ZrU hir ((c:Int),prev,st,())
  have hr:ZrU ((c:Int),prev,st,())<ZrU f.2.2.2.2.1[i]∨32<c:=by
   unfold ZrU
   simp only
   rw[if_neg (by omega)]
   by_cases e: (f.2.2.2.2.1[i]).1= -1
   ·rw[if_pos e];omega
   ·rw[if_neg e];omega
  have hcl:c<32:=by
   have:=(C.sound.many _ (List.getElem_mem hi)).2
   rw[ZaO hi] at hc
   omega
  have hpot:Zkx (f.2.2.2.2.1.set i ((c:Int),prev,st,()))<Zkx f.2.2.2.2.1:=by
   unfold Zkx;omega
  refine⟨rfl,rfl,⟨[],by simp⟩,rfl,by simp,rfl,fun _ _ h=>h,fun _ _ h=>h,fun _ _ h=>h,fun j d h=>Zsj hg.2 h0 h,fun _=>rfl, .inl rfl,fun _ _ _ h=>h,fun j m hj hm hd h=> ?_, ?_,fun _ _=> ?_⟩
  ·obtain⟨x,h1,h2,h3⟩:=h
   rcases Zfb h1 with ⟨rfl,rfl⟩ |h1
   ·exfalso
    have h3' : (c:Int)≤(m:Int):=h3
    have: (Zab n i c).2.2.1≤(Zab n i m).2.2.1:=by
     have ht:=C.sound.time _ (List.getElem_mem hi)
     have e:=ZaO hi
     have key: ∀k,c+k< (Zad n i).length→(Zab n i c).2.2.1≤(Zab n i (c+k)).2.2.1:=by
      intro k
      induction k with
      |zero=>exact fun _=>Int.le_refl _
      |succ k ih=>
       intro hk
       have h1:=ih (by omega)
       rw[e] at hk
       have h2:=ht (c+(k+1)) hk
       have h3:=h2.2.2.2 (by omega)
       have h4:Zab n i (c+(k+1))=(n.2.2.1[i]).2.2.2.2.2.2.2.1[c+(k+1)]:=by
        unfold Zab cl
        rw[Int.toNat_natCast,e,Zaj hk]
       have hk2:c+(k+1) - 1< (n.2.2.1[i]).2.2.2.2.2.2.2.1.length:=by omega
       have h5:Zab n i (c+k)=(n.2.2.1[i]).2.2.2.2.2.2.2.1[c+(k+1) - 1]:=by
        unfold Zab cl
        rw[Int.toNat_natCast,e,show c+k=c+(k+1) - 1 by omega,Zaj hk2]
       rw[h4]
       rw[h5] at h1
       omega
     have:=key (m - c) (by omega)
     rw[show c+(m - c)=m by omega] at this
     exact this
    omega
   ·exact⟨x,h1,h2,h3⟩
  ·show Zi1 V f.2.2.2.1+Zkx (f.2.2.2.2.1.set i ((c:Int),prev,st,()))≤Zi1 V f.2.2.2.1+Zkx f.2.2.2.2.1
   omega
  ·show Zi1 V f.2.2.2.1+Zkx (f.2.2.2.2.1.set i ((c:Int),prev,st,()))<Zi1 V f.2.2.2.1+Zkx f.2.2.2.2.1
   omega
theorem Zi5 {f:ScT} {i:Nat} (hi:i<f.2.2.2.2.1.length) {b:ZjA} (hb:0≤b.1) (hc: (rn f.1 (i:Int)).2.2.2.2.2.2.1=false):LeB (Zc8 f i b).2.2.2.2.1 i b.1:=by
 unfold Zc8
 rw[hc]
 cases hl:ZbP ((f.2.2.2.2.1[i]?).getD (0,0,false,())).1 b.1 with
 |false=>exact Zqz hi hl
 |true=>exact⟨b,List.getElem?_set_self hi,by omega,by omega⟩
theorem Snd.board {f:ScT} (h:Snd D f) {i:Nat} {b:ZjA} (hb: (rn f.1 (i:Int)).2.2.2.2.2.2.1=false→SB D f.2.2.1 i b):Snd D (Zc8 f i b):=by
 unfold Zc8
 cases hc: (rn f.1 (i:Int)).2.2.2.2.2.2.1 with
 |true=>exact h
 |false=>
  cases ZbP ((f.2.2.2.2.1[i]?).getD (0,0,false,())).1 b.1 with
  |false=>exact h
  |true=>
   refine⟨h.pls,fun j x hx=> ?_⟩
   rcases Zfb hx with ⟨rfl,rfl⟩ |hx
   ·exact hb hc
   ·exact h.brd j x hx
theorem Zh8 (f:ScT) (i:Nat) (b:ZjA): (Zc8 f i b).2.2.1=f.2.2.1:=by unfold Zc8;cases (!(rn f.1 (i:Int)).2.2.2.2.2.2.1&&ZbP ((f.2.2.2.2.1[i]?).getD (0,0,false,())).1 b.1)<;>rfl
end Q
namespace Q
open Tr Go
open Option (bind_some)
variable {n:ZaJ} {s0 t0 w:Int} {V:List Int} {T:Int}
theorem bex {α β:Type} {o:Option α} {f:α→Option β} {Q:β→Prop} (P:α→Prop) (h: ∃r,o=some r∧P r) (k: ∀r,P r→ ∃s,f r=some s∧Q s): ∃s,Option.bind o f=some s∧Q s:=by
 obtain⟨r,rfl,hr⟩:=h
 exact k r hr
def p00:Zd2:=(0,0,0,0,0,())
def Zbu (f:ScT) (s:Nat):Int:=((f.2.2.2.1[s]?).getD p00).2.1
def Wlk (s t:Int) (l:List Zd2) (p:Zcn):Prop:=p.1=s→t+p.2.2.1≤3155932800→LeA l p.2.1.toNat (t+p.2.2.1)∧LeY l p.2.1.toNat (t+p.2.2.1)
theorem Wlk.mono {s t:Int} {g h:ScT} {p:Zcn} (y:Stp n V T g h) (z:Wlk s t g.2.2.2.1 p):Wlk s t h.2.2.2.1 p:=
 fun a b=>⟨y.arr _ _ (z a b).1,y.rdy _ _ (z a b).2⟩
theorem Wlk.weak {s t u:Int} {l:List Zd2} {p:Zcn} (h:t≤u) (z:Wlk s t l p):Wlk s u l p:=
 fun a b=>let ⟨x,y⟩:=z a (by omega);⟨x.weak (by omega),y.weak (by omega)⟩
theorem Zhk (f:ScT) (i:Nat) (a r l:Int) (j:Nat):Zbu (Zi2 f i a r l) j=Zbu f j:=by
 unfold Zbu Zi2
 simp only[List.getElem?_modify]
 cases f.2.2.2.1[j]? with
 |none=>rfl
 |some p=>
  by_cases e:i=j
  ·simp [e,Zjn]
  ·simp [e]
theorem Zoh (C:Ctx n s0 t0 w) {f:ScT} (hf:f.1=n) (hpl:f.2.2.2.1.length=n.1.length) (hp:n.2.2.2.2.1.length≤4096) {s t prev:Int} (ht:0≤t∧t≤3155932800) (hT:T≤t) (hV: ∀p∈n.2.2.2.2.1,t+p.2.2.1∈V)
  (hl:f.2.2.1.length+4096<4000000000) {js:List Zc0} {k:Nat} (hD: ∀p∈n.2.2.2.2.1,p.1=s→t+p.2.2.1≤3155932800→Der n s0 t0 w (.arr k p.2.1 (t+p.2.2.1)) (js++[Zqv s p.2.1 t (t+p.2.2.1)])∧Der n s0 t0 w (.rdy k p.2.1 (t+p.2.2.1)) (js++[Zqv s p.2.1 t (t+p.2.2.1)]))
  (h:Snd (Der n s0 t0 w) f) (hch:Ch f.2.2.1 prev js):
  ∃g,F101 f s t prev=some g∧Stp n V T f g∧Snd (Der n s0 t0 w) g∧(∀p∈n.2.2.2.2.1,Wlk s t g.2.2.2.1 p)∧g.2.2.1.length≤f.2.2.1.length+n.2.2.2.2.1.length∧(∀j,Zbu g j=Zbu f j):=by
 unfold F101
 rw[hf]
 refine bex (fun g=>Stp n V T f g∧Snd (Der n s0 t0 w) g∧(∀p∈n.2.2.2.2.1,Wlk s t g.2.2.2.1 p)∧g.2.2.1.length≤f.2.2.1.length+n.2.2.2.2.1.length∧(∀j,Zbu g j=Zbu f j)) ?_ (fun r hr=>⟨r,rfl,hr⟩)
 have hpn: ∀g:ScT,Stp n V T f g→g.1.2.2.2.2.1=n.2.2.2.2.1:=fun g hg=>by rw[hg.net,hf]
 refine Za3 n.2.2.2.2.1.length _ (fun i (st:ScT×Int)=>st.2=(i:Int)∧Stp n V T f st.1∧Snd (Der n s0 t0 w) st.1∧(∀p∈n.2.2.2.2.1.take i,Wlk s t st.1.2.2.2.1 p)∧st.1.2.2.1.length≤f.2.2.1.length+i∧(∀j,Zbu st.1 j=Zbu f j)) ?_ ?_ _ ⟨rfl,Stp.refl f,h,(by simp),by simp,fun _=>rfl⟩
 ·rintro i ⟨g,j⟩ hi ⟨hj,h1,h2,h3,h4,h5⟩
  simp only at hj h1 h2 h3 h4 h5
  subst hj
  left
  have hmem:=List.getElem_mem hi
  have hpo:=C.net.path _ hmem
  rw[List.take_succ_eq_append_getElem hi]
  have hDi:=hD _ hmem
  have hVi:=hV _ hmem
  simp only[Zay hi,cond_true,Zah hi,bind_some,Zai hi (show _≤9223372036854775807 by omega)]
  generalize n.2.2.2.2.1[i]=p at*
  have w1:IntKind.wrap .i64 (t+p.2.2.1)=t+p.2.2.1:=Zat (by omega) (by omega)
  simp only[w1]
  by_cases hc:p.1=s
  rotate_left
  ·rw[decide_eq_false hc]
   refine⟨_,rfl,rfl,h1,h2,fun q hq=> ?_,by simp only;omega,h5⟩
   rcases List.mem_append.1 hq with hq|hq
   ·exact h3 q hq
   ·simp only[List.mem_singleton] at hq;subst hq
    exact fun a=>absurd a hc
  by_cases hm:t+p.2.2.1≤3155932800
  rotate_left
  ·rw[decide_eq_true hc,decide_eq_false hm]
   refine⟨_,rfl,rfl,h1,h2,fun q hq=> ?_,by simp only;omega,h5⟩
   rcases List.mem_append.1 hq with hq|hq
   ·exact h3 q hq
   ·simp only[List.mem_singleton] at hq;subst hq
    exact fun _ b=>absurd b hm
  rw[decide_eq_true hc,decide_eq_true hm]
  simp only[cond_true,bind_some]
  rw[Znv g (by omega)]
  simp only[bind_some]
  obtain⟨d1,d2⟩:=hDi hc hm
  obtain⟨y,hy⟩: ∃y:Nat,p.2.1=(y:Int):=⟨p.2.1.toNat,by omega⟩
  have hnew:=(h1.ch hch).new (Zqv s p.2.1 t (t+p.2.2.1))
  rw[show ((false,0,0,0,s,p.2.1,t,t+p.2.2.1,false,()):Zc0)=Zqv s p.2.1 t (t+p.2.2.1) from rfl]
  generalize Zqv s p.2.1 t (t+p.2.2.1)=x at*
  rw[hy] at d1 d2
  have h0:0≤t+p.2.2.1:=by omega
  have hyl:y< (Zne g x prev).2.2.2.1.length:=by show y<g.2.2.2.1.length;rw[h1.pl];omega
  rw[hy,ZeZ _ hyl]
  have hst:=(h1.trans (Zky g x prev)).trans (ZiI (V:=V) (T:=T) (Zne g x prev) hyl h0 h0 (by omega) hVi hVi (g.2.2.1.length:Int))
  have hsn:=(h2.add x prev).imp (i:=y) ⟨k,_,hnew,d1⟩ ⟨k,_,hnew,d2⟩
  refine⟨_,rfl,rfl,hst,hsn,fun q hq=> ?_, ?_,fun j=> ?_⟩
  ·rcases List.mem_append.1 hq with hq|hq
   ·exact(h3 q hq).mono ((Zky g x prev).trans (ZiI (V:=V) (T:=T) (n:=n) (Zne g x prev) hyl h0 h0 (by omega) hVi hVi (g.2.2.1.length:Int)))
   ·simp only[List.mem_singleton] at hq;subst hq
    intro _ _
    rw[hy,Int.toNat_natCast]
    exact ZkI hyl h0 h0 _
  ·show (g.2.2.1++[(x,prev,())]).length≤_
   simp only[List.length_append,List.length_cons,List.length_nil]
   omega
  ·show Zbu (Zi2 (Zne g x prev) y _ _ _) j=_
   rw[Zhk]
   exact h5 j
 ·rintro ⟨g,j⟩ ⟨hj,h1,h2,h3,h4,h5⟩
  simp only at hj h1 h2 h3 h4 h5
  subst hj
  rw[List.take_length] at h3
  simp only[Zav,cond_false]
  exact⟨_,rfl,h1,h2,h3,h4,h5⟩
def lkI (n:ZaJ) (k:Int):ZjK:=(n.2.2.2.1[k.toNat]?).getD (0,0,0,0,false,())
def Zrq (n:ZaJ) (out:List (List Int)):Prop:=out.length=n.2.2.1.length∧ ∀ (i:Nat) ks,out[i]? =some ks→ks.length≤1024∧ ∀x:Int,x∈ks↔inR x n.2.2.2.1.length=true∧(lkI n x).1=(i:Int)
theorem ZnQ {n:ZaJ} {x:Int} (h:inR x n.2.2.2.1.length=true):lkI n x∈n.2.2.2.1:=by
 rw[Zil] at h
 have hl:x.toNat<n.2.2.2.1.length:=by omega
 unfold lkI
 rw[Zaj hl]
 exact List.getElem_mem hl
theorem ZlL {i c j d:Nat} {st:Bool} (h:isLink n i c j d st): ∃x:Int,inR x n.2.2.2.1.length=true∧lkI n x=((i:Int),(c:Int),(j:Int),(d:Int),st,()):=by
 obtain⟨k,hk,e⟩:=List.getElem_of_mem h
 refine⟨(k:Int),Zrf.2 hk, ?_⟩
 unfold lkI;rw[Int.toNat_natCast,Zaj hk,e]
def Zsu (n:ZaJ) (i c:Nat) (g:ScT):Prop:= ∀ (j d:Nat) (st:Bool),isLink n i c j d st→(Zab n i c).2.1≤(Zab n j d).2.2.1→
 (st=true∨(Zab n i c).2.2.2.2.1=true∧(Zab n j d).2.2.2.1=true)→Zbj n j=false→LeB g.2.2.2.2.1 j (d:Int)
theorem Zsu.mono {i c:Nat} {g h:ScT} (y:Stp n V T g h) (z:Zsu n i c g):Zsu n i c h:=fun j d st a b c e=>y.brd _ _ (z j d st a b c e)
theorem Ztp {α:Type} {l:List α} {x:Int} {d:α} (h:inR x l.length=true):idx l x=some ((l[x.toNat]?).getD d):=Zb2 h d
theorem Zoc (C:Ctx n s0 t0 w) {f:ScT} (hf:f.1=n) (hrl:f.2.2.2.2.1.length=n.2.2.1.length) (ho:Zrq n f.2.2.2.2.2.1) (h:Snd (Der n s0 t0 w) f) {k i c:Nat} {l:Int} {js:List Zc0} (hl:Ch f.2.2.1 l js) (hd:Der n s0 t0 w (.on k i c) js) (hT:T≤(Zab n i c).2.1):
  ∃g,F97 f (i:Int) (c:Int) l (Zab n i c).2.2.2.2.1=some g∧Stp n V T f g∧Snd (Der n s0 t0 w) g∧Zsu n i c g∧g.2.2.1=f.2.2.1∧(∀j,Zbu g j=Zbu f j)∧g.2.2.2.1=f.2.2.2.1:=by
 obtain⟨_,hi,hc,_⟩:=C.ok hd
 unfold F97
 rw[hf]
 have hio:i<f.2.2.2.2.2.1.length:=by rw[ho.1];exact hi
 obtain⟨hkl,hks⟩:=ho.2 i _ (List.getElem?_eq_getElem hio)
 have e1:idx n.2.2.1 (i:Int)=some n.2.2.1[i]:=Zah hi
 have hcl: (n.2.2.1[i]).2.2.2.2.2.2.2.1=Zad n i:=(ZaO hi).symm
 have e2:idx (Zad n i) (c:Int)=some (Zab n i c):=by rw[Zah hc,ZbW hc]
 simp only[e1,bind_some,hcl,e2,Zah hio]
 generalize f.2.2.2.2.2.1[i]=ks at*
 refine bex (fun g=>Stp n V T f g∧Snd (Der n s0 t0 w) g∧(∀x∈ks, ∀ (j d:Nat) (st:Bool),lkI n x=((i:Int),(c:Int),(j:Int),(d:Int),st,())→(Zab n i c).2.1≤(Zab n j d).2.2.1→
  (st=true∨(Zab n i c).2.2.2.2.1=true∧(Zab n j d).2.2.2.1=true)→Zbj n j=false→LeB g.2.2.2.2.1 j (d:Int))∧g.2.2.1=f.2.2.1∧(∀j,Zbu g j=Zbu f j)∧g.2.2.2.1=f.2.2.2.1) ?_ (fun r hr=>⟨r,rfl,hr.1,hr.2.1,fun j d st a b c' e=> ?_,hr.2.2.2⟩)
 rotate_left
 ·obtain⟨x,x1,x2⟩:=ZlL a
  exact hr.2.2.1 x ((hks x).2 ⟨x1,by rw[x2]⟩) j d st x2 b c' e
 refine Za3 ks.length _ (fun m (st:ScT×Int)=>st.2=(m:Int)∧Stp n V T f st.1∧Snd (Der n s0 t0 w) st.1∧(∀x∈ks.take m, ∀ (j d:Nat) (s:Bool),lkI n x=((i:Int),(c:Int),(j:Int),(d:Int),s,())→(Zab n i c).2.1≤(Zab n j d).2.2.1→
  (s=true∨(Zab n i c).2.2.2.2.1=true∧(Zab n j d).2.2.2.1=true)→Zbj n j=false→LeB st.1.2.2.2.2.1 j (d:Int))∧st.1.2.2.1=f.2.2.1∧(∀j,Zbu st.1 j=Zbu f j)∧st.1.2.2.2.1=f.2.2.2.1) ?_ ?_ _ ⟨rfl,Stp.refl f,h,(by simp),rfl,fun _=>rfl,rfl⟩
 ·rintro m ⟨g,z⟩ hm ⟨hz,h1,h2,h3,h4,h5,h6⟩
  simp only at hz h1 h2 h3 h4 h5 h6
  subst hz
  left
  obtain⟨x1,x2⟩:=(hks _).1 (List.getElem_mem hm)
  obtain⟨i',c',j,d,st,e,_,hj,_,hc',hdl,_,_⟩:=C.net.link _ (ZnQ x1)
  have hgn:g.1=n:=h1.net.trans hf
  rw[List.take_succ_eq_append_getElem hm]
  have e3:idx g.1.2.2.2.1 ks[m]=some (lkI n ks[m]):=by rw[hgn];exact Ztp x1
  have e4:idx g.1.2.2.1 (j:Int)=some n.2.2.1[j]:=by rw[hgn];exact Zah hj
  have hcj: (n.2.2.1[j]).2.2.2.2.2.2.2.1=Zad n j:=(ZaO hj).symm
  have e5:idx (Zad n j) (d:Int)=some (Zab n j d):=by rw[Zah hdl,ZbW hdl]
  simp only[Zay hm,cond_true,Zah hm,bind_some,Zai hm (show _≤9223372036854775807 by omega),e3,e,e4,hcj,e5]
  generalize ks[m]=x at*
  have hi' :i' =i:=by rw[e] at x2;simp only at x2;omega
  subst hi'
  have hadd: ∀g' :ScT,Stp n V T g g' →((Zab n i' c).2.1≤(Zab n j d).2.2.1→c' =c→(st=true∨(Zab n i' c).2.2.2.2.1=true∧(Zab n j d).2.2.2.1=true)→Zbj n j=false→LeB g'.2.2.2.2.1 j (d:Int))→
    ∀y∈ks.take m++[x], ∀ (j d:Nat) (s:Bool),lkI n y=((i' :Int),(c:Int),(j:Int),(d:Int),s,())→(Zab n i' c).2.1≤(Zab n j d).2.2.1→(s=true∨(Zab n i' c).2.2.2.2.1=true∧(Zab n j d).2.2.2.1=true)→Zbj n j=false→LeB g'.2.2.2.2.1 j (d:Int):=by
   intro g' hg' hnew y hy j1 d1 s1 b1 b2 b3 b4
   rcases List.mem_append.1 hy with hy|hy
   ·exact hg'.brd _ _ (h3 y hy j1 d1 s1 b1 b2 b3 b4)
   ·simp only[List.mem_singleton] at hy
    subst hy
    rw[e] at b1
    simp only[Prod.mk.injEq,Int.natCast_inj] at b1
    obtain⟨_,rfl,rfl,rfl,rfl,_⟩:=b1
    exact hnew b2 rfl b3 b4
  by_cases hcc:c' =c
  rotate_left
  ·rw[decide_eq_false (show¬ (c' :Int)=(c:Int) by omega)]
   exact⟨_,rfl,rfl,h1,h2,hadd g (Stp.refl g) (fun _ b=>absurd b hcc),h4,h5,h6⟩
  subst hcc
  by_cases htm: (Zab n i' c').2.1≤(Zab n j d).2.2.1
  rotate_left
  ·rw[decide_eq_true rfl,decide_eq_false htm]
   exact⟨_,rfl,rfl,h1,h2,hadd g (Stp.refl g) (fun a=>absurd a htm),h4,h5,h6⟩
  rw[decide_eq_true rfl,decide_eq_true htm]
  simp only[cond_true]
  have hil:isLink n i' c' j d st:=by unfold isLink;rw[←e];exact ZnQ x1
  have e6: (bif st then some true else bif (Zab n i' c').2.2.2.2.1 then some (Zab n j d).2.2.2.1 else some false)=some (st|| ((Zab n i' c').2.2.2.2.1&& (Zab n j d).2.2.2.1)):=by
   cases st<;>cases (Zab n i' c').2.2.2.2.1<;>rfl
  rw[e6]
  simp only[bind_some]
  cases hok: (st|| ((Zab n i' c').2.2.2.2.1&& (Zab n j d).2.2.2.1)) with
  |false=>
   simp only[cond_false]
   refine⟨_,rfl,rfl,h1,h2,hadd g (Stp.refl g) (fun _ _ a=> ?_),h4,h5,h6⟩
   exfalso
   rcases a with rfl| ⟨a,b⟩
   ·simp at hok
   ·rw[a,b] at hok;simp at hok
  |true=>
   simp only[cond_true]
   have hjr:j<g.2.2.2.2.1.length:=by rw[h1.rl,hrl];exact hj
   rw[Zj3 g (by rw[hgn];exact hj) (by rw[h1.rl,hrl,hgn])]
   simp only[bind_some]
   have hsb:=Zj2 (V:=V) (T:=T) C.net g hj hjr hdl (by omega) l st
   refine⟨_,rfl,rfl,h1.trans hsb,h2.board fun hcn=>fun _=> ?_,hadd _ hsb fun _ _ _ hcn=>Zi5 hjr (b:=((d:Int),l,st,())) (by show (0:Int)≤(d:Int);omega) (by rw[hgn];exact hcn),by rw[Zh8];exact h4,fun y=> ?_, ?_⟩
   ·have hcn' :Zbj n j=false:=by rw[hgn] at hcn;exact hcn
    cases st with
    |true=>exact⟨k,d,rfl,js,h1.ch hl, .stay hd hil htm hcn'⟩
    |false=>
     simp only[Bool.false_or,Bool.and_eq_true] at hok
     exact⟨k+1,d,rfl,js,h1.ch hl, .linked (.link hd hok.1 hil htm hok.2) hcn'⟩
   ·rw[←h5 y]
    unfold Zbu Zc8
    cases (!(rn g.1 (j:Int)).2.2.2.2.2.2.1&&ZbP ((g.2.2.2.2.1[j]?).getD (0,0,false,())).1 (d:Int))<;>rfl
   ·rw[←h6]
    unfold Zc8
    cases (!(rn g.1 (j:Int)).2.2.2.2.2.2.1&&ZbP ((g.2.2.2.2.1[j]?).getD (0,0,false,())).1 (d:Int))<;>rfl
 ·rintro ⟨g,z⟩ ⟨hz,h1,h2,h3,h4,h5,h6⟩
  simp only at hz h1 h2 h3 h4 h5 h6
  subst hz
  rw[List.take_length] at h3
  simp only[Zav,cond_false]
  exact⟨_,rfl,h1,h2,h3,h4,h5,h6⟩
end Q
namespace Q
open Tr Go
open Option (bind_some)
variable {n:ZaJ} {s0 t0 w:Int} {V:List Int} {T:Int}
def Vst (n:ZaJ) (i m:Nat) (g:ScT):Prop:=((Zab n i m).2.2.2.2.1=true→LeA g.2.2.2.1 (Zab n i m).1.toNat (Zab n i m).2.1∧LeY g.2.2.2.1 (Zab n i m).1.toNat ((Zab n i m).2.1+(Zdl n (Zab n i m).1).2.2.2.1)∧
 ∀p∈n.2.2.2.2.1,Wlk (Zab n i m).1 (Zab n i m).2.1 g.2.2.2.1 p)∧Zsu n i m g
theorem Vst.mono {i m:Nat} {g h:ScT} (y:Stp n V T g h) (z:Vst n i m g):Vst n i m h:=
 ⟨fun e=>let ⟨a,b,c⟩:=z.1 e;⟨y.arr _ _ a,y.rdy _ _ b,fun p hp=>(c p hp).mono y⟩,z.2.mono y⟩
def RC (n:ZaJ) (f:ScT):Prop:= ∀ (s:Nat) p,f.2.2.2.1[s]? =some p→p.2.1≠ -1→ ∀q∈n.2.2.2.2.1,Wlk (s:Int) p.2.1 f.2.2.2.1 q
theorem RC.step {f g:ScT} (h:RC n f) (y:Stp n V T f g) (hr: ∀j,Zbu g j=Zbu f j):RC n g:=by
 intro s p hp hne q hq
 have hs:=(List.getElem?_eq_some_iff.1 hp).1
 have hsf:s<f.2.2.2.1.length:=by rw[←y.pl];exact hs
 have e:=hr s
 unfold Zbu at e
 rw[hp,Zaj hsf] at e
 simp only[Option.getD_some] at e
 rw[e] at hne ⊢
 exact(h s _ (List.getElem?_eq_getElem hsf) hne q hq).mono y
def Zgd (f:ScT) (i:Nat) (a:Int):ScT:=(f.1,f.2.1,f.2.2.1,f.2.2.2.1.modify i fun p=>(p.1,a,p.2.2),f.2.2.2.2)
theorem ZpO (f:ScT) {i:Nat} (hi:i<f.2.2.2.1.length) {a:Int} (ha:0≤a) (hl:ZbP (f.2.2.2.1[i]).2.1 a=true):Stp n V T f (Zgd f i a):=by
 have hp:Zi1 V (Zgd f i a).2.2.2.1=Zi1 V f.2.2.2.1:=by
  have:=ZgC (fun p:Zd2=>Zi4 V p.1+Zi4 V p.2.2.1) hi ((f.2.2.2.1[i]).1,a,(f.2.2.2.1[i]).2.2)
  unfold Zi1 Zgd
  rw[Zcc hi]
  simp only at this ⊢
  omega
 refine⟨rfl,rfl,⟨[],by simp [Zgd]⟩,by simp [Zgd],rfl,rfl,fun s t h=> ?_,fun s t h=> ?_,fun s t h=> ?_,fun _ _ h=>h,fun h=>h, .inr ⟨fun s t h=> ?_,fun s t h=> ?_,fun _ _ h=>h⟩,fun s t _ h=> ?_,fun _ _ _ _ _ h=>h, ?_,fun a b=> ?_⟩
 ·exact Zd3 (P:=fun p=>p.1≠ -1∧p.1≤t) (fun p hp=>hp) h
 ·obtain⟨p,h1,h2⟩:=h
  by_cases e:i=s
  ·subst e
   refine⟨_,ZcR h1 _, ?_⟩
   rw[List.getElem?_eq_getElem hi] at h1
   cases h1
   have:=ZbL.1 hl
   simp only
   omega
  ·exact⟨p,(Zef e _).trans h1,h2⟩
 ·exact Zd3 (P:=fun p=>p.2.2.1≠ -1∧p.2.2.1≤t) (fun p hp=>hp) h
 ·exact Zb6 (g:=fun p=>(p.1,a,p.2.2)) (P:=fun p=>p.1≠ -1∧p.1≤t) (fun p _ hp=>hp) h
 ·exact Zb6 (g:=fun p=>(p.1,a,p.2.2)) (P:=fun p=>p.2.2.1≠ -1∧p.2.2.1≤t) (fun p _ hp=>hp) h
 ·exact Zb6 (g:=fun p=>(p.1,a,p.2.2)) (P:=fun p=>p.2.2.1≠ -1∧p.2.2.1≤t) (fun p _ hp=>hp) h
 ·show Zi1 V (Zgd f i a).2.2.2.1+Zkx f.2.2.2.2.1≤_
  rw[hp];exact Nat.le_refl _
 ·have b' :f.2.2.2.2.2.2.1=true:=b
  rename_i a'
  rw[a] at b';cases b'
theorem Snd.ride {D:Zni→List Zc0→Prop} {f:ScT} (h:Snd D f) {i:Nat} {a:Int} (ha: ∃k js,D (.rid k (i:Int) a) js):Snd D (Zgd f i a):=by
 refine⟨fun s q hq=> ?_,h.brd⟩
 obtain⟨p,hp,⟨rfl,rfl⟩ | ⟨_,rfl⟩⟩:=ZcW hq
 ·exact⟨(h.pls i p hp).arr,fun _=>ha,(h.pls i p hp).rdy⟩
 ·exact h.pls s _ hp
structure SI (n:ZaJ) (s0 t0 w:Int) (f:ScT):Prop where
 net:f.1=n
 pl:f.2.2.2.1.length=n.1.length
 rl:f.2.2.2.2.1.length=n.2.2.1.length
 out:Zrq n f.2.2.2.2.2.1
 snd:Snd (Der n s0 t0 w) f
 rc:RC n f
theorem SI.step {f g:ScT} (h:SI n s0 t0 w f) (y:Stp n V T f g) (hs:Snd (Der n s0 t0 w) g) (hr:RC n g):SI n s0 t0 w g:=
 ⟨y.net.trans h.net,y.pl.trans h.pl,y.rl.trans h.rl,by rw[y.lks];exact h.out,hs,hr⟩
theorem Zn9 (C:Ctx n s0 t0 w) (hp:n.2.2.2.2.1.length≤4096) {f:ScT} (hI:SI n s0 t0 w f) (hl:f.2.2.1.length+4096<4000000000) {s:Nat} (hs:s<n.1.length) {a l:Int} {k:Nat} {js:List Zc0} (ha:0≤a∧a≤3155932800) (hT:T≤a) (hVa:a∈V) (hVr:a+(Zdl n (s:Int)).2.2.2.1∈V) (hVw: ∀p∈n.2.2.2.2.1,a+p.2.2.1∈V)
  (hch:Ch f.2.2.1 l js) (hd:Der n s0 t0 w (.rid k (s:Int) a) js):
  ∃g,(Option.bind (inb (s:Int) (List.length f.2.2.2.1)) fun x16=>
   Option.bind (idx f.1.1 (s:Int)) fun x17=>
   Option.bind (F98 f (s:Int) a (IntKind.wrap .i64 (a+x17.2.2.2.1)) l) fun x18=>
   Option.bind (Option.bind x18.2.2.2.1[x16]? fun x19=>
    bif decide (x19.2.1=(-1:Int)) then some true
    else Option.bind x18.2.2.2.1[x16]? fun x20=>some (decide (a<x20.2.1))) fun x21=>
   Option.bind (bif x21 then
    Option.bind x18.2.2.2.1[x16]? fun x22=>
    Option.bind (F101 (x18.1,x18.2.1,x18.2.2.1,List.set x18.2.2.2.1 x16 (x22.1,a,x22.2.2),x18.2.2.2.2.1,x18.2.2.2.2.2.1,x18.2.2.2.2.2.2.1,()) (s:Int) a l) fun x23=>some x23
    else some x18) fun x24=>some x24)=some g∧Stp n V T f g∧SI n s0 t0 w g∧g.2.2.1.length≤f.2.2.1.length+n.2.2.2.2.1.length∧
   (LeA g.2.2.2.1 s a∧LeY g.2.2.2.1 s (a+(Zdl n (s:Int)).2.2.2.1)∧ ∀p∈n.2.2.2.2.1,Wlk (s:Int) a g.2.2.2.1 p):=by
 have hcg:=C.net.change (s:Int) (by omega) (by omega)
 have hsl:s<f.2.2.2.1.length:=by rw[hI.pl];exact hs
 have hst:idx f.1.1 (s:Int)=some (Zdl n (s:Int)):=by rw[hI.net];exact(Zeq C.net.sound (by omega) (by omega)).1
 have w1:IntKind.wrap .i64 (a+(Zdl n (s:Int)).2.2.2.1)=a+(Zdl n (s:Int)).2.2.2.1:=Zat (by omega) (by omega)
 simp only[ZaQ hsl,bind_some,hst,w1]
 rw[ZeZ f hsl]
 simp only[bind_some]
 have hr0:0≤a+(Zdl n (s:Int)).2.2.2.1:=by omega
 have m1:=ZiI (n:=n) (T:=T) f hsl ha.1 hr0 (by omega) hVa hVr l
 have n1:=ZkI hsl ha.1 hr0 l
 have s1:=hI.snd.imp (i:=s) (l:=l) ⟨k,js,hch, .arrR hd⟩ ⟨k,js,hch, .change hd⟩
 have r1:=hI.rc.step m1 (Zhk f s a _ l)
 have I1:=hI.step m1 s1 r1
 have hlab: (Zi2 f s a (a+(Zdl n (s:Int)).2.2.2.1) l).2.2.1=f.2.2.1:=rfl
 generalize Zi2 f s a (a+(Zdl n (s:Int)).2.2.2.1) l=g at*
 have hsg:s<g.2.2.2.1.length:=by rw[m1.pl];exact hsl
 simp only[List.getElem?_eq_getElem hsg,bind_some]
 rw[Zfj]
 simp only[bind_some]
 cases hls:ZbP (g.2.2.2.1[s]).2.1 a with
 |false=>
  simp only[cond_false,bind_some]
  have hno:=Zk0 hls
  refine⟨_,rfl,m1,I1,by rw[hlab];omega,n1.1,n1.2,fun p hp' => ?_⟩
  exact(r1 s _ (List.getElem?_eq_getElem hsg) hno.1 p hp').weak hno.2
 |true=>
  simp only[cond_true,bind_some]
  have e: (g.1,g.2.1,g.2.2.1,g.2.2.2.1.set s ((g.2.2.2.1[s]).1,a,(g.2.2.2.1[s]).2.2),g.2.2.2.2.1,g.2.2.2.2.2.1,g.2.2.2.2.2.2.1,())=Zgd g s a:=by
   unfold Zgd
   rw[Zcc hsg]
  rw[e]
  have m2:=ZpO (n:=n) (V:=V) (T:=T) g hsg ha.1 hls
  have s2:=s1.ride (i:=s) (a:=a) ⟨k,js,hd⟩
  have hgl: (Zgd g s a).2.2.1=f.2.2.1:=hlab
  obtain⟨h,w1,w2,w3,w4,w5,w6⟩:=Zoh C (V:=V) (T:=T) (s:=(s:Int)) (t:=a) (prev:=l) (m2.net.trans I1.net) (m2.pl.trans I1.pl) hp ha hT hVw (by rw[hgl];exact hl) (fun q hq e1 e2=>⟨.arrV hd hq e1 e2, .rdyV hd hq e1 e2⟩) s2 (by rw[hgl];exact hch)
  rw[w1]
  simp only[bind_some]
  have m3:=m2.trans w2
  have hrc:RC n h:=by
   intro y p hy hne q hq
   have hyl:=(List.getElem?_eq_some_iff.1 hy).1
   have hyg:y<g.2.2.2.1.length:=by rw[←m3.pl];exact hyl
   have e1:=w6 y
   unfold Zbu at e1
   rw[hy] at e1
   simp only[Option.getD_some] at e1
   by_cases ey:s=y
   ·subst ey
    have e2: (Zgd g s a).2.2.2.1[s]? =some ((g.2.2.2.1[s]).1,a,(g.2.2.2.1[s]).2.2):=ZcR (List.getElem?_eq_getElem hsg) _
    rw[e2] at e1
    simp only[Option.getD_some] at e1
    rw[e1]
    exact w4 q hq
   ·have e2: (Zgd g s a).2.2.2.1[y]? =some g.2.2.2.1[y]:=(Zef ey _).trans (List.getElem?_eq_getElem hyg)
    rw[e2] at e1
    simp only[Option.getD_some] at e1
    rw[e1] at hne ⊢
    exact(r1 y _ (List.getElem?_eq_getElem hyg) hne q hq).mono m3
  refine⟨_,rfl,m1.trans m3,I1.step m3 w3 hrc,by rw[hgl] at w5;exact w5,m3.arr _ _ n1.1,m3.rdy _ _ n1.2,w4⟩
theorem Zrj (C:Ctx n s0 t0 w) (hp:n.2.2.2.2.1.length≤4096) {f:ScT} (hI:SI n s0 t0 w f) (hl:f.2.2.1.length+4097<4000000000) {i m:Nat} (hi:i<n.2.2.1.length) (hm:m+1< (Zad n i).length) (hcn:Zbj n i=false)
  (hVa: (Zab n i (m+1)).2.1∈V) (hVr: (Zab n i (m+1)).2.1+(Zdl n (Zab n i (m+1)).1).2.2.2.1∈V) (hVw: ∀p∈n.2.2.2.2.1,(Zab n i (m+1)).2.1+p.2.2.1∈V):
  ∃g,F100 f (Zhx i (Zad n i) m)=some g∧Stp n V (Zab n i m).2.2.1 f g∧SI n s0 t0 w g∧g.2.2.1.length≤f.2.2.1.length+1+n.2.2.2.2.1.length∧
   ((Zab n i m).2.2.2.1=true→LeY f.2.2.2.1 (Zab n i m).1.toNat (Zab n i m).2.2.1→LeB g.2.2.2.2.1 i (m:Int))∧(LeB g.2.2.2.2.1 i (m:Int)→Vst n i (m+1) g):=by
 have hs1:=C.net.stop hi (show m<_ by omega)
 have hs2:=C.net.stop hi hm
 have ht1:=C.net.time hi (show m<_ by omega)
 have ht2:=C.net.time hi hm
 have htt: (Zab n i m).2.2.1≤(Zab n i (m+1)).2.1:=by
  have ht:=C.net.sound.time _ (List.getElem_mem hi)
  have e:=ZaO hi
  have hm' :=hm
  rw[e] at hm'
  have h3:=(ht (m+1) hm').2.2.2 (by omega)
  have h4:Zab n i (m+1)=(n.2.2.1[i]).2.2.2.2.2.2.2.1[m+1]:=by
   unfold Zab cl;rw[Int.toNat_natCast,e,Zaj hm']
  have h5:Zab n i m=(n.2.2.1[i]).2.2.2.2.2.2.2.1[m+1 - 1]:=by
   unfold Zab cl;rw[Int.toNat_natCast,e];exact Zaj (show m<_ by omega) _
  rw[h4,h5]
  exact h3.2
 have hcon:Zhx i (Zad n i) m=((i:Int),(m:Int),(Zab n i m).1,(Zab n i (m+1)).1,(Zab n i m).2.2.1,(Zab n i (m+1)).2.1,()):=rfl
 rw[hcon]
 unfold F100
 have e1:idx f.1.2.2.1 (i:Int)=some n.2.2.1[i]:=by rw[hI.net];exact Zah hi
 have hcl: (n.2.2.1[i]).2.2.2.2.2.2.2.1=Zad n i:=(ZaO hi).symm
 have hm0:m< (Zad n i).length:=by omega
 have e2:idx (Zad n i) (m:Int)=some (Zab n i m):=by rw[Zah hm0,ZbW hm0]
 have w1:IntKind.wrap .i64 ((m:Int)+1)=((m+1:Nat):Int):=by
  have:=(C.net.sound.many _ (List.getElem_mem hi)).2
  rw[hcl] at this
  rw[Zat (by omega) (by omega)];omega
 have e3:idx (Zad n i) ((m+1:Nat):Int)=some (Zab n i (m+1)):=by rw[Zah hm,ZbW hm]
 obtain⟨s,hs⟩: ∃s:Nat,(Zab n i m).1=(s:Int):=⟨(Zab n i m).1.toNat,by omega⟩
 have hsl:s<f.2.2.2.1.length:=by rw[hI.pl];omega
 have hir:i<f.2.2.2.2.1.length:=by rw[hI.rl];exact hi
 simp only[e1,bind_some,hs,ZaQ hsl,List.getElem?_eq_getElem hsl,hcl,e2,w1,e3,Int.toNat_natCast]
 have hsp:=hI.snd.pls s _ (List.getElem?_eq_getElem hsl)
 have hYf: ∀t,LeY f.2.2.2.1 s t→(f.2.2.2.1[s]).2.2.1≠ -1∧(f.2.2.2.1[s]).2.2.1≤t:=by
  rintro t ⟨p,h1,h2⟩
  rw[List.getElem?_eq_getElem hsl] at h1
  cases h1
  exact h2
 generalize f.2.2.2.1[s]=p at*
 have ec: (bif (Zab n i m).2.2.2.1 then bif !decide (p.2.2.1=(-1:Int)) then some (decide (p.2.2.1≤(Zab n i m).2.2.1)) else some false else some false)=some ((Zab n i m).2.2.2.1&& (!decide (p.2.2.1=(-1:Int)) &&decide (p.2.2.1≤(Zab n i m).2.2.1))):=by
  cases (Zab n i m).2.2.2.1<;>cases decide (p.2.2.1=(-1:Int))<;>rfl
 rw[ec]
 simp only[bind_some]
 have hb: ∃g,(bif (Zab n i m).2.2.2.1&& (!decide (p.2.2.1=(-1:Int)) &&decide (p.2.2.1≤(Zab n i m).2.2.1)) then Option.bind (F96 f (i:Int) ((m:Int),p.2.2.2.2.1,false,())) fun x5=>some x5 else some f)=some g∧
   Stp n V (Zab n i m).2.2.1 f g∧SI n s0 t0 w g∧g.2.2.1=f.2.2.1∧((Zab n i m).2.2.2.1=true→LeY f.2.2.2.1 s (Zab n i m).2.2.1→LeB g.2.2.2.2.1 i (m:Int)):=by
  cases hc: ((Zab n i m).2.2.2.1&& (!decide (p.2.2.1=(-1:Int)) &&decide (p.2.2.1≤(Zab n i m).2.2.1))) with
  |false=>
   refine⟨f,rfl,Stp.refl f,hI,rfl,fun a b=> ?_⟩
   have:=hYf _ b
   rw[a,decide_eq_false this.1,decide_eq_true this.2] at hc
   cases hc
  |true=>
   rw[Bool.and_eq_true,Bool.and_eq_true,Bool.not_eq_true',decide_eq_false_iff_not,decide_eq_true_eq] at hc
   simp only[cond_true]
   rw[Zj3 f (by rw[hI.net];exact hi) (by rw[hI.rl,hI.net])]
   simp only[bind_some]
   have hst:=Zj2 (V:=V) (T:=(Zab n i m).2.2.1) C.net f hi hir hm0 (Int.le_refl _) p.2.2.2.2.1 false
   obtain⟨k,js,hch,hd⟩:=hsp.rdy hc.2.1
   have hsn:=hI.snd.board (i:=i) (b:=((m:Int),p.2.2.2.2.1,false,())) fun _=>fun _=>⟨k+1,m,rfl,js,hch, .board hd hi hm0 hcn hs hc.1 hc.2.2⟩
   have hrd: ∀j,Zbu (Zc8 f i ((m:Int),p.2.2.2.2.1,false,())) j=Zbu f j:=by
    intro j
    unfold Zbu Zc8
    cases (!(rn f.1 (i:Int)).2.2.2.2.2.2.1&&ZbP ((f.2.2.2.2.1[i]?).getD (0,0,false,())).1 (m:Int))<;>rfl
   refine⟨_,rfl,hst,hI.step hst hsn (hI.rc.step hst hrd),Zh8 ..,fun _ _=> ?_⟩
   exact Zi5 hir (b:=((m:Int),p.2.2.2.2.1,false,())) (by show (0:Int)≤(m:Int);omega) (by rw[hI.net];exact hcn)
 obtain⟨f6,b1,b2,b3,b4,b5⟩:=hb
 rw[b1]
 simp only[bind_some]
 have hir6:i<f6.2.2.2.2.1.length:=by rw[b3.rl];exact hi
 simp only[ZaQ hir6,bind_some,List.getElem?_eq_getElem hir6]
 have hsb:=b3.snd.brd i _ (List.getElem?_eq_getElem hir6)
 have hLB:LeB f6.2.2.2.2.1 i (m:Int)→(f6.2.2.2.2.1[i]).1≠ -1∧(f6.2.2.2.2.1[i]).1≤(m:Int):=by
  rintro ⟨x,h1,h2⟩
  rw[List.getElem?_eq_getElem hir6] at h1
  cases h1
  exact h2
 generalize f6.2.2.2.2.1[i]=b at*
 by_cases c1:b.1= -1
 ·rw[decide_eq_true c1]
  exact⟨_,rfl,b2,b3,by rw[b4];omega,b5,fun e=>absurd c1 (hLB e).1⟩
 by_cases c2: (m:Int)<b.1
 ·rw[decide_eq_false c1,decide_eq_true c2]
  exact⟨_,rfl,b2,b3,by rw[b4];omega,b5,fun e=>absurd (hLB e).2 (Int.not_le.2 c2)⟩
 rw[decide_eq_false c1,decide_eq_false c2]
 simp only[cond_false,bind_some]
 obtain⟨k,c,hc,js,hch,hd⟩:=hsb c1
 obtain⟨bc,prev,st,u⟩:=b
 simp only at hc hch hd c1 c2
 subst hc
 have hon:=Der.on hd (show c<m+1 by omega) hm
 have hcc:c< (Zad n i).length:=by omega
 have e4:idx (Zad n i) (c:Int)=some (Zab n i c):=by rw[Zah hcc,ZbW hcc]
 have hio:i<f6.2.2.2.2.2.1.length:=by rw[b3.out.1];exact hi
 obtain⟨hkl,hks⟩:=b3.out.2 i _ (List.getElem?_eq_getElem hio)
 have ec2: (bif !(Zab n i (m+1)).2.2.2.2.1 then Option.bind (idx f6.2.2.2.2.2.1 (i:Int)) fun x11=>some (decide ((x11.length:Int)=(0:Int))) else some false)=some (!(Zab n i (m+1)).2.2.2.2.1&&decide (f6.2.2.2.2.2.1[i].length=0)):=by
  rw[Zah hio]
  simp only[bind_some]
  rw[show decide (((f6.2.2.2.2.2.1[i]).length:Int)=0)=decide ((f6.2.2.2.2.2.1[i]).length=0) from decide_eq_decide.2 (by omega)]
  cases (Zab n i (m+1)).2.2.2.2.1<;>rfl
 rw[ec2]
 simp only[bind_some]
 cases hskip: (!(Zab n i (m+1)).2.2.2.2.1&&decide (f6.2.2.2.2.2.1[i].length=0)) with
 |true=>
  simp only[cond_true]
  rw[Bool.and_eq_true,Bool.not_eq_true',decide_eq_true_eq] at hskip
  refine⟨_,rfl,b2,b3,by rw[b4];omega,b5,fun _=>⟨fun e=>(by rw[hskip.1] at e;cases e),fun j d sx a _ _ _=> ?_⟩⟩
  exfalso
  obtain⟨x,x1,x2⟩:=ZlL a
  have hx:=(hks x).2 ⟨x1,by rw[x2]⟩
  rw[List.length_eq_zero_iff.1 hskip.2] at hx
  cases hx
 |false=>
  simp only[cond_false,e4,bind_some]
  rw[Znv f6 (by rw[b4];omega)]
  simp only[bind_some]
  have hx: ((true,(i:Int),(c:Int),((m+1:Nat):Int),(Zab n i c).1,(Zab n i (m+1)).1,(Zab n i c).2.2.1,(Zab n i (m+1)).2.1,st,()):Zc0)=ZsK n i c (m+1) st:=rfl
  rw[hx]
  have hnew:=hch.new (ZsK n i c (m+1) st)
  generalize ZsK n i c (m+1) st=x at*
  have a7:=Zky (n:=n) (V:=V) (T:=(Zab n i m).2.2.1) f6 x prev
  have I7:SI n s0 t0 w (Zne f6 x prev):=b3.step a7 (b3.snd.add x prev) b3.rc
  have hl7: (Zne f6 x prev).2.2.1.length=f.2.2.1.length+1:=by show (f6.2.2.1++[(x,prev,())]).length=_;rw[b4];simp
  have hch7:Ch (Zne f6 x prev).2.2.1 (f6.2.2.1.length:Int) (js++[x]):=hnew
  generalize Zne f6 x prev=f7 at*
  generalize (f6.2.2.1.length:Int)=l at*
  obtain⟨s',hs'⟩: ∃s' :Nat,(Zab n i (m+1)).1=(s' :Int):=⟨(Zab n i (m+1)).1.toNat,by omega⟩
  have hal: ∃g,(bif (Zab n i (m+1)).2.2.2.2.1 then(Option.bind (inb (s' :Int) (List.length f7.2.2.2.1)) fun x16=>
   Option.bind (idx f7.1.1 (s' :Int)) fun x17=>
   Option.bind (F98 f7 (s' :Int) (Zab n i (m+1)).2.1 (IntKind.wrap .i64 ((Zab n i (m+1)).2.1+x17.2.2.2.1)) l) fun x18=>
   Option.bind (Option.bind x18.2.2.2.1[x16]? fun x19=>
    bif decide (x19.2.1=(-1:Int)) then some true
    else Option.bind x18.2.2.2.1[x16]? fun x20=>some (decide ((Zab n i (m+1)).2.1<x20.2.1))) fun x21=>
   Option.bind (bif x21 then
    Option.bind x18.2.2.2.1[x16]? fun x22=>
    Option.bind (F101 (x18.1,x18.2.1,x18.2.2.1,List.set x18.2.2.2.1 x16 (x22.1,(Zab n i (m+1)).2.1,x22.2.2),x18.2.2.2.2.1,x18.2.2.2.2.2.1,x18.2.2.2.2.2.2.1,()) (s' :Int) (Zab n i (m+1)).2.1 l) fun x23=>some x23
    else some x18) fun x24=>some x24) else some f7)=some g∧Stp n V (Zab n i m).2.2.1 f7 g∧SI n s0 t0 w g∧g.2.2.1.length≤f7.2.2.1.length+n.2.2.2.2.1.length∧
    ((Zab n i (m+1)).2.2.2.2.1=true→LeA g.2.2.2.1 s' (Zab n i (m+1)).2.1∧LeY g.2.2.2.1 s' ((Zab n i (m+1)).2.1+(Zdl n (s' :Int)).2.2.2.1)∧ ∀p∈n.2.2.2.2.1,Wlk (s' :Int) (Zab n i (m+1)).2.1 g.2.2.2.1 p):=by
   cases hA: (Zab n i (m+1)).2.2.2.2.1 with
   |false=>exact⟨f7,rfl,Stp.refl f7,I7,by omega,fun e=>nomatch e⟩
   |true=>
    have hd' :=Der.ride hon hA
    rw[hs'] at hd' hVr
    obtain⟨g,g1,g2,g3,g4,g5⟩:=Zn9 C hp I7 (by rw[hl7];omega) (s:=s') (by omega) (a:=(Zab n i (m+1)).2.1) (l:=l) (T:=(Zab n i m).2.2.1) (V:=V) (by omega) htt hVa hVr hVw hch7 hd'
    exact⟨g,g1,g2,g3,g4,fun _=>g5⟩
  obtain⟨g,g1,g2,g3,g4,g5⟩:=hal
  rw[hs']
  erw[g1]
  simp only[bind_some]
  obtain⟨h,h1,h2,h3,h4,h5,h6,h7⟩:=Zoc C (V:=V) (T:=(Zab n i m).2.2.1) g3.net g3.rl g3.out g3.snd (g2.ch hch7) hon htt
  rw[h1]
  simp only[bind_some]
  have hall:=(b2.trans a7).trans (g2.trans h2)
  refine⟨_,rfl,hall,g3.step h2 h3 (g3.rc.step h2 h6),by rw[h5];omega,fun a b=>((a7.trans g2).trans h2).brd _ _ (b5 a b),fun _=>⟨fun hA=> ?_,h4⟩⟩
  obtain⟨y1,y2,y3⟩:=g5 hA
  rw[hs',Int.toNat_natCast,h7]
  exact⟨y1,y2,y3⟩
end Q
namespace Q
open Tr Go
open Option (bind_some)
variable {n:ZaJ} {s0 t0 w:Int}
structure Znq (n:ZaJ):Prop where
 stops:n.1.length≤8
 runs:n.2.2.1.length≤12
 paths:n.2.2.2.2.1.length≤100
 calls: (n.2.2.1.map fun r=>r.2.2.2.2.2.2.2.1.length).sum≤60
def Zr4 (n:ZaJ) (c:ZbN):List Int:=c.2.1::(c.2.1+(Zdl n c.1).2.2.2.1)::n.2.2.2.2.1.map fun p=>c.2.1+p.2.2.1
def Zhq (n:ZaJ) (t0 w:Int):List Int:=t0::(t0+w)::(n.2.2.2.2.1.map fun p=>t0+p.2.2.1)++n.2.2.1.flatMap fun r=>r.2.2.2.2.2.2.2.1.flatMap (Zr4 n)
theorem Zl9 {α β:Type} (f:α→List β) (k:Nat): ∀ (l:List α),(∀x∈l,(f x).length≤k)→(l.flatMap f).length≤l.length*k
 | [],_=>by simp
 |a::l,h=>by
  have h1:=h a (by simp)
  have h2:=Zl9 f k l (fun x hx=>h x (by simp [hx]))
  rw[List.flatMap_cons,List.length_append,List.length_cons,Nat.succ_mul]
  omega
theorem Zmc {α β:Type} (f:α→List β) (g:α→Nat): ∀ (l:List α),(∀x∈l,(f x).length≤g x)→(l.flatMap f).length≤(l.map g).sum
 | [],_=>by simp
 |a::l,h=>by
  have h1:=h a (by simp)
  have h2:=Zmc f g l (fun x hx=>h x (by simp [hx]))
  rw[List.flatMap_cons,List.length_append,List.map_cons,List.sum_cons]
  omega
theorem ZoQ {α:Type} (g:α→Nat) (k:Nat): ∀ (l:List α),(l.map fun x=>g x*k).sum=(l.map g).sum*k
 | []=>by simp
 |a::l=>by simp only[List.map_cons,List.sum_cons];rw[ZoQ g k l,Nat.add_mul]
theorem Zqr (h:Znq n): (Zhq n t0 w).length≤6222:=by
 have h3:=h.paths
 have h4:=h.calls
 unfold Zhq
 rw[List.length_append,List.length_cons,List.length_cons,List.length_map]
 have: (n.2.2.1.flatMap fun r=>r.2.2.2.2.2.2.2.1.flatMap (Zr4 n)).length≤(n.2.2.1.map fun r=>r.2.2.2.2.2.2.2.1.length*102).sum:=by
  refine Zmc _ _ _ fun r _=>Zl9 _ 102 _ fun c _=> ?_
  unfold Zr4
  simp only[List.length_cons,List.length_map]
  omega
 rw[ZoQ] at this
 omega
theorem ZgL {i m:Nat} (hi:i<n.2.2.1.length) (hm:m< (Zad n i).length) {v:Int} (hv:v∈Zr4 n (Zab n i m)):v∈Zhq n t0 w:=by
 unfold Zhq
 refine List.mem_append_right _ (List.mem_flatMap.2 ⟨_,List.getElem_mem hi,List.mem_flatMap.2 ⟨Zab n i m, ?_,hv⟩⟩)
 rw[ZbW hm]
 have e:=ZaO hi
 simp only[←e]
 exact List.getElem_mem hm
def Cls (n:ZaJ) (i m:Nat) (g:ScT):Prop:=((Zab n i m).2.2.2.1=true→LeY g.2.2.2.1 (Zab n i m).1.toNat (Zab n i m).2.2.1→LeB g.2.2.2.2.1 i (m:Int))∧(LeB g.2.2.2.2.1 i (m:Int)→Vst n i (m+1) g)
variable {V:List Int} {T:Int}
theorem Cls.late {i m:Nat} (hi:i<n.2.2.1.length) (hm:m< (Zad n i).length) {f g:ScT} (h:Cls n i m f) (y:Stp n V T f g) (hT: (Zab n i m).2.2.1<T):Cls n i m g:=
 ⟨fun a b=>y.brd _ _ (h.1 a (y.late _ _ hT b)),fun a=>(h.2 (y.lateB i m hi hm hT a)).mono y⟩
theorem Cls.same {i m:Nat} {f g:ScT} (h:Cls n i m f) (y:Stp n V T f g) (hs:Zpu f g):Cls n i m g:=
 ⟨fun a b=>y.brd _ _ (h.1 a (hs.rdy _ _ b)),fun a=>(h.2 (hs.brd _ _ a)).mono y⟩
abbrev ZjU:=Int×Int×Int×Int×Int×Int×Unit
def ZiJ (n:ZaJ) (c:ZjU) (i m:Nat):Prop:=i<n.2.2.1.length∧m+1< (Zad n i).length∧Zbj n i=false∧c=Zhx i (Zad n i) m
theorem ZpE {c:ZjU} (h:c∈Zht n n.2.2.1.length): ∃i m,ZiJ n c i m:=by
 obtain⟨i,hi,hc,k,hk,e⟩:=Zqe h
 have e' :=ZaO hi
 rw[←e'] at hk e
 refine⟨i,k,hi,hk, ?_,e⟩
 unfold Zbj rn
 rw[Int.toNat_natCast,Zaj hi]
 exact hc
theorem Zrr     (C : Ctx n s0 t0 w) (hZ : Znq  n) (L : List ZjU   ) (hL : ∀ c ∈ L, ∃ i m, ZiJ   n c i m ∧ (Zab    n i m).2.2.1 = T) (hLl : L.length ≤ 60) {f : ScT} (hI : SI n s0 t0 w f) (hl : f.2.2.1.length + 20000 < 4000000000) :
    ∃ g, run (fun s8 : ScT × Int => bif decide (s8.2 < (↑(List.length L) : Int)) then
        Option.bind (idx L s8.2) fun x9 => Option.bind (F100 s8.1 x9) fun x10 => some (.inl (x10, IntKind.wrap .i64 (s8.2 + (1 : Int))))
      else some (.inr s8.1)) (f, (0 : Int)) = some g ∧ Stp n (Zhq  n t0 w) T f g ∧ SI n s0 t0 w g ∧ g.2.2.1.length ≤ f.2.2.1.length + 6060 ∧
      (g.2.2.2.2.2.2.1 = false → ∀ c ∈ L, ∀ i m, ZiJ   n c i m → Cls n i m g) := by
  have hp := hZ.paths
  have hmul : L.length * (1 + n.2.2.2.2.1.length) ≤ 60 * 101 := Nat.mul_le_mul hLl (by omega)
  suffices hsuf : ∃ g, run (fun s8 : ScT × Int => bif decide (s8.2 < (↑(List.length L) : Int)) then
        Option.bind (idx L s8.2) fun x9 => Option.bind (F100 s8.1 x9) fun x10 => some (.inl (x10, IntKind.wrap .i64 (s8.2 + (1 : Int))))
      else some (.inr s8.1)) (f, (0 : Int)) = some g ∧ (Stp n (Zhq  n t0 w) T f g ∧ SI n s0 t0 w g ∧ g.2.2.1.length ≤ f.2.2.1.length + L.length * (1 + n.2.2.2.2.1.length) ∧
      (g.2.2.2.2.2.2.1 = false → ∀ c ∈ L, ∀ i m, ZiJ   n c i m → Cls n i m g)) by
    obtain ⟨g, g1, g2, g3, g4, g5⟩ := hsuf
    exact ⟨g, g1, g2, g3, by omega, g5⟩
  refine Za3     L.length _ (fun k (st : ScT × Int) => st.2 = (k : Int) ∧ Stp n (Zhq  n t0 w) T f st.1 ∧ SI n s0 t0 w st.1 ∧ st.1.2.2.1.length ≤ f.2.2.1.length + k * (1 + n.2.2.2.2.1.length) ∧
      (st.1.2.2.2.2.2.2.1 = false → ∀ c ∈ L.take k, ∀ i m, ZiJ   n c i m → Cls n i m st.1)) ?_ ?_ _ ⟨rfl, Stp.refl f, hI, by simp, fun _ => by simp⟩
  · rintro k ⟨g, j⟩ hk ⟨hj, h1, h2, h3, h4⟩
    simp only at hj h1 h2 h3 h4
    subst hj
    left
    simp only [Zay    hk, cond_true, Zah     hk, bind_some, Zai       hk (show _ ≤ 9223372036854775807 by omega)]
    obtain ⟨i, m, hcon, hT⟩ := hL _ (List.getElem_mem hk)
    have hcon' := hcon
    obtain ⟨hi, hm, hcn, hc⟩ := hcon'
    rw [List.take_succ_eq_append_getElem hk]
    have hkm : k * (1 + n.2.2.2.2.1.length) ≤ 60 * 101 := Nat.mul_le_mul (by omega) (by omega)
    generalize L[k] = c at *
    subst hc
    obtain ⟨h, r1, r2, r3, r4, r5, r6⟩ := Zrj     (V := Zhq  n t0 w) C (by omega) h2 (by omega) hi hm hcn (ZgL       hi hm (by unfold Zr4 ; simp)) (ZgL       hi hm (by unfold Zr4 ; simp)) (fun p hp' => ZgL       hi hm (List.mem_cons_of_mem _ (List.mem_cons_of_mem _ (List.mem_map.2 ⟨p, hp', rfl⟩))))
    rw [r1]
    rw [hT] at r2
    refine ⟨_, rfl, rfl, h1.trans r2, r3, ?_, fun hmv c' hc' i' m' hcon' => ?_⟩
    · rw [Nat.succ_mul]
      simp only
      omega
    · have hmg : g.2.2.2.2.2.2.1 = false := by
        cases e : g.2.2.2.2.2.2.1 with
        | false => rfl
        | true => have := r2.mvd e; rw [hmv] at this; cases this
      have hsm : Zpu  g h := r2.same.resolve_left (by rw [hmv]; simp)
      rcases List.mem_append.1 hc' with hc' | hc'
      · exact (h4 hmg c' hc' i' m' hcon').same r2 hsm
      · simp only [List.mem_singleton] at hc'
        subst hc'
        obtain ⟨_, _, _, e⟩ := hcon'
        have e1 : i' = i ∧ m' = m := by
          unfold Zhx   at e
          simp only [Prod.mk.injEq, Int.natCast_inj] at e
          exact ⟨e.1.symm, e.2.1.symm⟩
        obtain ⟨rfl, rfl⟩ := e1
        exact ⟨fun a b => r5 a (hsm.rdy _ _ b), r6⟩
  · rintro ⟨g, j⟩ ⟨hj, h1, h2, h3, h4⟩
    simp only at hj h1 h2 h3 h4
    subst hj
    rw [List.take_length] at h4
    simp only [Zav    , cond_false]
    exact ⟨_, rfl, h1, h2, h3, h4⟩
end Q
namespace Q
open Tr Go
open Option (bind_some)
variable {n:ZaJ} {s0 t0 w:Int}
def Bas (n:ZaJ) (s0 t0 w:Int) (g:ScT):Prop:=LeA g.2.2.2.1 s0.toNat t0∧LeY g.2.2.2.1 s0.toNat (t0+w)∧ ∀p∈n.2.2.2.2.1,Wlk s0 t0 g.2.2.2.1 p
theorem Bas.mono {V:List Int} {T:Int} {f g:ScT} (h:Bas n s0 t0 w f) (y:Stp n V T f g):Bas n s0 t0 w g:=⟨y.arr _ _ h.1,y.rdy _ _ h.2.1,fun p hp=>(h.2.2 p hp).mono y⟩
theorem Zmh (n:ZaJ): ∀k,k≤n.2.2.1.length→(Zht n k).length≤((n.2.2.1.take k).map fun r=>r.2.2.2.2.2.2.2.1.length).sum
 |0,_=>by simp [Zht]
 |k+1,h=>by
  have ih:=Zmh n k (by omega)
  rw[ZgT,List.take_succ_eq_append_getElem (show k<_ by omega),List.length_append,List.map_append,List.sum_append,Zaj (show k<_ by omega)]
  have: (Znl k n.2.2.1[k]).length≤(n.2.2.1[k]).2.2.2.2.2.2.2.1.length:=by
   unfold Znl
   split
   ·simp
   ·unfold Zku;simp
  simp only[List.map_cons,List.map_nil,List.sum_cons,List.sum_nil]
  omega
noncomputable def Zfp (ys:List ZjU) (s4:ScT×Int):Option ((ScT×Int) ⊕ ScT):=
 bif decide (s4.2< (↑(List.length ys):Int)) then
 Option.bind (idx ys s4.2) fun x5=>
 Option.bind (F7 ys x5.2.2.2.2.1) fun x6=>
 Option.bind (sliceB (List.length ys) (List.length ys) (some s4.2) (some x6)) fun x7=>
 Option.bind
 (run
 (fun s8:ScT×Int=>
 bif decide (s8.2< (↑(List.length (List.take (x7.2 - x7.1) (List.drop x7.1 ys))):Int)) then
 Option.bind (idx (List.take (x7.2 - x7.1) (List.drop x7.1 ys)) s8.2) fun x9=>
 Option.bind (F100 s8.1 x9) fun x10=>
 some (.inl (x10,IntKind.wrap .i64 (s8.2+(1:Int))))
 else some (.inr s8.1))
 ((s4.1.1,s4.1.2.1,s4.1.2.2.1,s4.1.2.2.2.1,s4.1.2.2.2.2.1,s4.1.2.2.2.2.2.1,false,()),(0:Int)))
 fun x11=>
 bif x11.2.2.2.2.2.2.1 then some (.inl (x11,s4.2)) else some (.inl (x11,x6))
 else some (.inr s4.1)
theorem Zrp (C:Ctx n s0 t0 w) (hZ:Znq n) {ys:List ZjU} (hys:ys.Perm (Zht n n.2.2.1.length)) (hsort:ys.Pairwise ltC) (hlen:ys.length≤60): ∀ (μ:Nat) {s:ScT} {i:Nat},pot (Zhq n t0 w) s+(ys.length - i)≤μ→i≤ys.length→SI n s0 t0 w s→Bas n s0 t0 w s→
  (∀j,j<i→ ∀k,i≤k→k<ys.length→ZhA ys j<ZhA ys k)→(∀c∈ys.take i, ∀a m,ZiJ n c a m→Cls n a m s)→s.2.2.1.length+6060*μ+20000<4000000000→
  ∃g,run (Zfp ys) (s,(i:Int))=some g∧SI n s0 t0 w g∧Bas n s0 t0 w g∧(∀c∈ys, ∀a m,ZiJ n c a m→Cls n a m g)∧g.2.2.1.length<4000000000:=by
 intro μ
 induction μ with
 |zero=>
  intro s i hμ hi hI hB _ hC hl
  have:i=ys.length:=by omega
  subst this
  refine⟨s,Zbn ?_,hI,hB,by rw[List.take_length] at hC;exact hC,by omega⟩
  unfold Zfp
  simp only[Zav,cond_false]
 |succ μ ih=>
  intro s i hμ hi hI hB hlt hC hl
  by_cases hend:i=ys.length
  ·subst hend
   refine⟨s,Zbn ?_,hI,hB,by rw[List.take_length] at hC;exact hC,by omega⟩
   unfold Zfp
   simp only[Zav,cond_false]
  have hi' :i<ys.length:=by omega
  obtain⟨to,hto,hu,huk⟩:=ZnO hsort (by omega) (ZhA ys i)
  have hdi:ZhA ys i=(ys[i]).2.2.2.2.1:=by unfold ZhA;rw[Zaj hi']
  have hit:i<to:=(huk i hi').1 (Int.le_refl _)
  have hsl:sliceB ys.length ys.length (some (i:Int)) (some (to:Int))=some (i,to):=by
   unfold sliceB
   simp only[if_pos (show (0:Int)≤(to:Int)∧(to:Int)≤(ys.length:Int) from ⟨by omega,by omega⟩),bind_some,Int.toNat_natCast]
   rw[if_pos (show (0:Int)≤(i:Int)∧(i:Int)≤(to:Int) from ⟨by omega,by omega⟩)]
  have hL: ∀c∈(ys.drop i).take (to - i), ∃a m,ZiJ n c a m∧(Zab n a m).2.2.1=ZhA ys i:=by
   intro c hc
   obtain⟨j,hj,rfl⟩:=List.getElem_of_mem hc
   rw[List.length_take,List.length_drop] at hj
   have hjl:i+j<ys.length:=by omega
   have e: ((ys.drop i).take (to - i))[j]'(by rw[List.length_take,List.length_drop];exact hj)=ys[i+j]:=by
    rw[List.getElem_take,List.getElem_drop]
   rw[e]
   obtain⟨a,m,hcon⟩:=ZpE (hys.mem_iff.1 (List.getElem_mem hjl))
   refine⟨a,m,hcon, ?_⟩
   have h1:ZhA ys (i+j)=(ys[i+j]).2.2.2.2.1:=by unfold ZhA;rw[Zaj hjl]
   have h2: (ys[i+j]).2.2.2.2.1=(Zab n a m).2.2.1:=by rw[hcon.2.2.2];rfl
   have h3:ZhA ys i≤ZhA ys (i+j):=by
    by_cases e0:j=0
    ·subst e0;exact Int.le_refl _
    ·exact Zma hsort (by omega) hjl
   have h4:=(huk (i+j) hjl).2 (by omega)
   omega
  have hLl: ((ys.drop i).take (to - i)).length≤60:=by rw[List.length_take,List.length_drop];omega
  have hI0:SI n s0 t0 w (s.1,s.2.1,s.2.2.1,s.2.2.2.1,s.2.2.2.2.1,s.2.2.2.2.2.1,false,()):=⟨hI.net,hI.pl,hI.rl,hI.out,⟨hI.snd.pls,hI.snd.brd⟩,hI.rc⟩
  obtain⟨g,g1,g2,g3,g4,g5⟩:=Zrr C hZ ((ys.drop i).take (to - i)) hL hLl hI0 (by show s.2.2.1.length+20000<_;omega)
  have hlab:g.2.2.1.length≤s.2.2.1.length+6060:=g4
  have hpot:pot (Zhq n t0 w) g≤pot (Zhq n t0 w) s:=g2.pot
  have hB' :Bas n s0 t0 w g:=hB.mono (f:=s) (g:=g) (V:=Zhq n t0 w) (T:=ZhA ys i) |> fun _=>⟨g2.arr _ _ hB.1,g2.rdy _ _ hB.2.1,fun p hp=>(show Wlk s0 t0 g.2.2.2.1 p from fun a b=>⟨g2.arr _ _ (hB.2.2 p hp a b).1,g2.rdy _ _ (hB.2.2 p hp a b).2⟩)⟩
  have hold: ∀c∈ys.take i, ∀a m,ZiJ n c a m→Cls n a m g:=by
   intro c hc a m hcon
   have h0:=hC c hc a m hcon
   obtain⟨j,hj,rfl⟩:=List.getElem_of_mem hc
   rw[List.length_take] at hj
   have hj' :j<i:=by omega
   have e: (ys.take i)[j]'(by rw[List.length_take];exact hj)=ys[j]'(by omega):=List.getElem_take
   rw[e] at hcon
   have h1:ZhA ys j=(Zab n a m).2.2.1:=by
    unfold ZhA
    rw[Zaj (show j<ys.length by omega),hcon.2.2.2]
    rfl
   have h2:=hlt j hj' i (Nat.le_refl i) hi'
   exact Cls.late (f:=(s.1,s.2.1,s.2.2.1,s.2.2.2.1,s.2.2.2.2.1,s.2.2.2.2.2.1,false,())) hcon.1 (by have:=hcon.2.1;omega) h0 g2 (by omega)
  have hstep:Zfp ys (s,(i:Int))=if g.2.2.2.2.2.2.1=true then some (.inl (g,(i:Int))) else some (.inl (g,(to:Int))):=by
   unfold Zfp
   simp only[Zay hi',cond_true,Zah hi',bind_some]
   rw[←hdi,hu]
   simp only[bind_some,hsl]
   rw[g1]
   simp only[bind_some]
   cases g.2.2.2.2.2.2.1<;>rfl
  cases hmv:g.2.2.2.2.2.2.1 with
  |true=>
   rw[if_pos hmv] at hstep
   rw[Zb7 hstep]
   have hfall:=g2.fall rfl hmv
   have hfall' :pot (Zhq n t0 w) g<pot (Zhq n t0 w) s:=hfall
   exact ih (by omega) hi g3 hB' hlt hold (by omega)
  |false=>
   rw[if_neg (by rw[hmv];simp)] at hstep
   rw[Zb7 hstep]
   refine ih (by omega) hto g3 hB' (fun j hj k hk hkl=> ?_) (fun c hc a m hcon=> ?_) (by omega)
   ·have h1:=(huk j (by omega)).2 hj
    have h2: ¬ZhA ys k≤ZhA ys i:=fun e=>by have:=(huk k hkl).1 e;omega
    omega
   ·have e:ys.take to=ys.take i++(ys.drop i).take (to - i):=by
     rw[←List.take_add,show i+(to - i)=to by omega]
    rw[e] at hc
    rcases List.mem_append.1 hc with hc|hc
    ·exact hold c hc a m hcon
    ·exact g5 hmv c hc a m hcon
abbrev q11:Zd2:=(-1, -1, -1, -1, -1,())
abbrev b00:ZjA:=(-1, -1,false,())
def Zsx (n:ZaJ) (k:Nat) (out:List (List Int)):Prop:=out.length=n.2.2.1.length∧ ∀ (i:Nat) ks,out[i]? =some ks→ks.length≤k∧ ∀x:Int,x∈ks↔(0≤x∧x< (k:Int))∧(lkI n x).1=(i:Int)
theorem Znr {k:Nat} {out:List (List Int)} (h:Zsx n k out) {a:Nat} (ha: (lkI n (k:Int)).1=(a:Int)) (hl:a<out.length):Zsx n (k+1) (out.set a (out[a]++[(k:Int)])):=by
 refine⟨by rw[List.length_set];exact h.1,fun i ks hks=> ?_⟩
 have key: ∀ks' :List Int,out[a]? =some ks' →(ks' ++[(k:Int)]).length≤k+1∧ ∀x:Int,x∈ks' ++[(k:Int)]↔(0≤x∧x< ((k+1:Nat):Int))∧(lkI n x).1=(a:Int):=by
  intro ks' hk'
  obtain⟨h1,h2⟩:=h.2 a _ hk'
  refine⟨by simp;exact h1,fun x=> ?_⟩
  rw[List.mem_append,h2 x,List.mem_singleton]
  constructor
  ·rintro (⟨h3,h4⟩ |rfl)
   ·exact⟨by omega,h4⟩
   ·exact⟨by omega,ha⟩
  ·rintro ⟨h3,h4⟩
   by_cases e:x=(k:Int)
   ·exact .inr e
   ·exact .inl ⟨by omega,h4⟩
 by_cases e:a=i
 ·subst e
  rw[List.getElem?_set_self hl] at hks
  cases hks
  exact key _ (List.getElem?_eq_getElem hl)
 ·rw[List.getElem?_set_ne e] at hks
  obtain⟨h1,h2⟩:=h.2 i ks hks
  refine⟨by omega,fun x=> ?_⟩
  rw[h2 x]
  constructor
  ·rintro ⟨h3,h4⟩;exact⟨by omega,h4⟩
  ·rintro ⟨h3,h4⟩
   refine⟨⟨h3.1, ?_⟩,h4⟩
   by_cases e' :x=(k:Int)
   ·subst e';omega
   ·omega
theorem ZpX {out:List (List Int)} (hl:n.2.2.2.1.length≤1024) (h:Zsx n n.2.2.2.1.length out):Zrq n out:=by
 refine⟨h.1,fun i ks hks=> ?_⟩
 obtain⟨h1,h2⟩:=h.2 i ks hks
 exact⟨by omega,fun x=>by rw[h2 x,Zil]⟩
theorem ZrX (j:Nat):Zaq (Zjy (some (Int.toNat (j:Int))) j)=some ():=by
 rw[show Zjy (some (Int.toNat (j:Int))) j=true from Nat.beq_refl j];rfl
theorem Zqc {q:Zbp} (C:Ctx n q.1 q.2.2.1 (bif q.2.2.2.2.2.2.2.2.2.1 then(Zdl n q.1).2.2.2.1 else 0)) (hZ:Znq n):
  ∃g,F102 n q=some g∧SI n q.1 q.2.2.1 (bif q.2.2.2.2.2.2.2.2.2.1 then(Zdl n q.1).2.2.2.1 else 0) g∧Bas n q.1 q.2.2.1 (bif q.2.2.2.2.2.2.2.2.2.1 then(Zdl n q.1).2.2.2.1 else 0) g∧g.2.2.1.length≤100:=by
 have hS:=C.net.sound
 have hrn:=hS.runs
 have hst:=hS.stops
 have hlk:=hS.links
 have hcg:=C.net.change q.1 C.stop.1 C.stop.2
 have hsi:idx n.1 q.1=some (Zdl n q.1):=(Zeq hS C.stop.1 C.stop.2).1
 have hmx: (Zas:Int)=4294967296:=by simp [Zas]
 unfold F102
 have hg0:Zaq (decide ((0:Int)≤(n.2.2.1.length:Int)∧(n.2.2.1.length:Int)≤(n.2.2.1.length:Int)∧(n.2.2.1.length:Int)≤(Zas:Int)))=some ():=by
  rw[decide_eq_true (by rw[hmx];omega)];rfl
 refine bex (fun _=>True) ⟨(),hg0,trivial⟩ fun _ _=> ?_
 refine bex (fun r:ScT=>r=(n,q,[],List.replicate n.1.length q11,[],List.replicate n.2.2.1.length [],false,())) ?_ ?_
 ·refine Za3 n.1.length _ (fun i (st:ScT×Int)=>st=((n,q,[],List.replicate i q11,[],List.replicate n.2.2.1.length [],false,()),(i:Int))) ?_ ?_ _ (by simp)
  ·rintro i _ hi rfl
   left
   simp only[Zay hi,cond_true,Zai hi (show _≤9223372036854775807 by omega)]
   have hg:Zaq (decide (List.length (List.replicate i q11)+List.length [q11]≤Zas))=some ():=Za7 (by simp;omega)
   erw[hg]
   simp only[bind_some]
   exact⟨_,rfl,by rw[List.replicate_succ']⟩
  ·rintro _ rfl
   simp only[Zav,cond_false]
   exact⟨_,rfl,rfl⟩
 intro f1 hf1
 refine bex (fun r:ScT=>r=(n,q,[],List.replicate n.1.length q11,List.replicate n.2.2.1.length b00,List.replicate n.2.2.1.length [],false,())) ?_ ?_
 ·refine Za3 n.2.2.1.length _ (fun i (st:ScT×Int)=>st=((n,q,[],List.replicate n.1.length q11,List.replicate i b00,List.replicate n.2.2.1.length [],false,()),(i:Int))) ?_ ?_ _ (by rw[hf1];rfl)
  ·rintro i _ hi rfl
   left
   simp only[Zay hi,cond_true,Zai hi (show _≤9223372036854775807 by omega)]
   have hg:Zaq (decide (List.length (List.replicate i b00)+List.length [b00]≤Zas))=some ():=Za7 (by simp;omega)
   erw[hg]
   simp only[bind_some]
   exact⟨_,rfl,by rw[List.replicate_succ']⟩
  ·rintro _ rfl
   simp only[Zav,cond_false]
   exact⟨_,rfl,rfl⟩
 intro f2 hf2
 refine bex (fun r:ScT=> ∃out,r=(n,q,[],List.replicate n.1.length q11,List.replicate n.2.2.1.length b00,out,false,())∧Zsx n n.2.2.2.1.length out) ?_ ?_
 ·refine Za3 n.2.2.2.1.length _ (fun i (st:ScT×Int)=>st.2=(i:Int)∧ ∃out,st.1=(n,q,[],List.replicate n.1.length q11,List.replicate n.2.2.1.length b00,out,false,())∧Zsx n i out) ?_ ?_ _ ⟨rfl,_,hf2, ?_⟩
  ·rintro i ⟨st,j⟩ hi ⟨hj,out,hst',hO⟩
   simp only at hj hst'
   subst hj hst'
   left
   have e1:lkI n (i:Int)=n.2.2.2.1[i]:=by unfold lkI;rw[Int.toNat_natCast,Zaj hi]
   obtain⟨a,c,b,d,st,e,ha,_⟩:=C.net.link _ (List.getElem_mem hi)
   have hao:a<out.length:=by rw[hO.1];exact ha
   have hks:=(hO.2 a _ (List.getElem?_eq_getElem hao)).1
   simp only[Zay hi,cond_true,Zah hi,bind_some,Zai hi (show _≤9223372036854775807 by omega),e,ZaQ hao,List.getElem?_eq_getElem hao,Zah hao]
   have hg:Zaq (decide (List.length out[a]+List.length [(i:Int)]≤Zas))=some ():=Za7 (by simp;omega)
   rw[hg]
   simp only[bind_some,ZrX]
   exact⟨_,rfl,rfl,_,rfl,Znr hO (by rw[e1,e]) hao⟩
  ·rintro ⟨st,j⟩ ⟨hj,out,hst',hO⟩
   simp only at hj hst'
   subst hj hst'
   simp only[Zav,cond_false]
   exact⟨_,rfl,out,rfl,hO⟩
  ·refine⟨by simp,fun i ks hks=> ?_⟩
   have:=List.eq_of_mem_replicate (List.mem_of_getElem? hks)
   subst this
   exact⟨by simp,fun x=>⟨fun h=>(nomatch h),fun h=>by omega⟩⟩
 rintro f3 ⟨out,hf3,hO⟩
 have hOk:=ZpX hlk hO
 have ht:=C.time
 refine bex (fun r:ScT×Int=>r=(f3,q.2.2.1+(bif q.2.2.2.2.2.2.2.2.2.1 then(Zdl n q.1).2.2.2.1 else 0))) ?_ ?_
 ·cases q.2.2.2.2.2.2.2.2.2.1 with
  |false=>exact⟨_,rfl,by simp⟩
  |true=>
   simp only[cond_true,hsi,bind_some]
   exact⟨_,rfl,by rw[Zat (by omega) (by omega)]⟩
 rintro _ rfl
 generalize (bif q.2.2.2.2.2.2.2.2.2.1 then(Zdl n q.1).2.2.2.1 else 0)=w at*
 have hw:=C.wait
 obtain⟨a,ha⟩: ∃a:Nat,q.1=(a:Int):=⟨q.1.toNat,by have:=C.stop;omega⟩
 have hal:a<n.1.length:=by have:=C.stop;omega
 have e1:f3.1=n:=by rw[hf3]
 have e2:f3.2.2.1=[]:=by rw[hf3]
 have e3:f3.2.2.2.1=List.replicate n.1.length q11:=by rw[hf3]
 have e4:f3.2.2.2.2.1=List.replicate n.2.2.1.length b00:=by rw[hf3]
 have e5:f3.2.2.2.2.2.1=out:=by rw[hf3]
 have hp100:=hZ.paths
 have hI3:SI n q.1 q.2.2.1 w f3:=by
  refine⟨e1,by rw[e3];simp,by rw[e4];simp,by rw[e5];exact hOk,⟨fun s p hq' => ?_,fun i b hb=> ?_⟩,fun s p hq' hne=> ?_⟩
  ·rw[e3] at hq'
   rw[List.eq_of_mem_replicate (List.mem_of_getElem? hq')]
   exact⟨fun e=>absurd rfl e,fun e=>absurd rfl e,fun e=>absurd rfl e⟩
  ·rw[e4] at hb
   rw[List.eq_of_mem_replicate (List.mem_of_getElem? hb)]
   exact fun e=>absurd rfl e
  ·rw[e3] at hq'
   rw[List.eq_of_mem_replicate (List.mem_of_getElem? hq')] at hne
   exact absurd rfl hne
 have hVw: ∀p∈n.2.2.2.2.1,q.2.2.1+p.2.2.1∈Zhq n q.2.2.1 w:=fun p hp=>List.mem_append_left _ (List.mem_cons_of_mem _ (List.mem_cons_of_mem _ (List.mem_map.2 ⟨p,hp,rfl⟩)))
 obtain⟨g,g1,g2,g3,g4,g5,g6⟩:=Zoh C (V:=Zhq n q.2.2.1 w) (T:=0) (s:=q.1) (t:=q.2.2.1) (prev:= -1) (k:=0) (js:=[]) e1 hI3.pl (by omega) ht ht.1 hVw (by rw[e2];simp) (fun p hp' a1 a2=>⟨.arrW hp' a1 a2, .rdyW hp' a1 a2⟩) hI3.snd .nil
 have hI4:=hI3.step g2 g3 (hI3.rc.step g2 g6)
 refine bex (fun r=>r=g) ⟨_,g1,rfl⟩ fun x hx=> ?_
 rw[hx]
 have hag:a<g.2.2.2.1.length:=by rw[hI4.pl];exact hal
 have hw0:0≤q.2.2.1+w:=by omega
 have m2:=ZiI (n:=n) (V:=Zhq n q.2.2.1 w) (T:=0) g hag ht.1 hw0 hw0 (List.mem_append_left _ (List.mem_cons_self ..)) (List.mem_append_left _ (List.mem_cons_of_mem _ (List.mem_cons_self ..))) (-1)
 have n2:=ZkI hag ht.1 hw0 (-1)
 have h2:=g3.imp (i:=a) (a:=q.2.2.1) (r:=q.2.2.1+w) (l:= -1) ⟨0,[], .nil,by rw[←ha];exact .here⟩ ⟨0,[], .nil,by rw[←ha];exact .init⟩
 have hI5:=hI4.step m2 h2 (hI4.rc.step m2 (Zhk g a _ _ _))
 have hiv:=ZeZ g hag q.2.2.1 (q.2.2.1+w) (-1)
 rw[←ha] at hiv
 rw[hiv]
 refine⟨_,rfl,hI5,⟨?_, ?_,fun p hp' =>(g4 p hp').mono m2⟩, ?_⟩
 ·rw[ha,Int.toNat_natCast];exact n2.1
 ·rw[ha,Int.toNat_natCast];exact n2.2
 ·show g.2.2.1.length≤100
  rw[e2] at g5
  simp only[List.length_nil,Nat.zero_add] at g5
  omega
end Q
namespace Q
open Tr Go
open Option (bind_some)
variable {n:ZaJ} {s0 t0 w:Int}
noncomputable def ZjG (n:ZaJ) (q:Zbp):Int:=bif !decide (Znj n q=0) then Znj n q else bif q.2.2.2.1 then 22 else 0
theorem ZfS {n:ZaJ} (h:Fit n) (q:Zbp):F92 n q=some (ZjG n q):=by
 unfold F92 ZjG
 rw[ZjO h]
 simp only[bind_some]
 cases decide (Znj n q=0)<;>cases q.2.2.2.1<;>rfl
theorem Zf3 {n:ZaJ} (h:Fit n) (q:Zbp):F74 n q=some (ZjG n q):=by
 unfold F74 ZjG
 rw[ZqI h]
 simp only[bind_some]
 cases decide (Znj n q=0)<;>cases q.2.2.2.1<;>rfl
theorem Zj6 {n:ZaJ} {q:Zbp} :ZjG n q=0↔Znj n q=0∧q.2.2.2.1=false:=by
 unfold ZjG
 by_cases h:Znj n q=0
 ·rw[decide_eq_true h]
  cases q.2.2.2.1<;>simp [h]
 ·rw[decide_eq_false h]
  simp [h]
structure Zl1 (n:ZaJ) (s0 t0 w:Int) (g:ScT):Prop where
 si:SI n s0 t0 w g
 lab:g.2.2.1.length<4000000000
 arr: ∀ {k:Nat} {s t:Int} {js:List Zc0},Der n s0 t0 w (.arr k s t) js→LeA g.2.2.2.1 s.toNat t
theorem ZrT (C:Ctx n s0 t0 w) {g:ScT} (hI:SI n s0 t0 w g) (hl:g.2.2.1.length<4000000000) (hB:Bas n s0 t0 w g) (hC: ∀i m,i<n.2.2.1.length→m+1< (Zad n i).length→Zbj n i=false→Cls n i m g):Zl1 n s0 t0 w g:=by
 refine⟨hI,hl, ?_⟩
 have key: ∀ {f:Zni} {js:List Zc0},Der n s0 t0 w f js→match f with
   | .rdy _ s r=>LeY g.2.2.2.1 s.toNat r
   | .brd _ i c _=>c+1< (Zad n i).length→LeB g.2.2.2.2.1 i (c:Int)
   | .lnk _ i c=>Zbj n i=false→LeB g.2.2.2.2.1 i (c:Int)
   | .on _ i c=>Vst n i c g
   | .rid _ s t=>LeA g.2.2.2.1 s.toNat t∧LeY g.2.2.2.1 s.toNat (t+(Zdl n s).2.2.2.1)∧ ∀p∈n.2.2.2.2.1,Wlk s t g.2.2.2.1 p
   | .arr _ s t=>LeA g.2.2.2.1 s.toNat t:=by
  intro f js d
  induction d with
  |init=>exact hB.2.1
  |here=>exact hB.1
  |rdyW h1 h2 h3=>exact(hB.2.2 _ h1 h2 h3).2
  |arrW h1 h2 h3=>exact(hB.2.2 _ h1 h2 h3).1
  |board d h1 h2 h3 h4 h5 h6 ih=>
   intro hlast
   refine(hC _ _ h1 hlast h3).1 h5 ?_
   rw[h4]
   exact ih.weak h6
  | @on k i b c st js d h1 h2 ih=>
   obtain⟨x,x1,x2,x3⟩:=ih (by omega)
   obtain⟨c',rfl⟩: ∃c',c=c' +1:=⟨c - 1,by omega⟩
   have hok:=C.ok d
   exact(hC i c' hok.2.1 h2 hok.2.2.2).2 ⟨x,x1,x2,by omega⟩
  |stay d h1 h2 h3 ih=>exact fun _=>ih.2 _ _ _ h1 h2 (.inl rfl) h3
  |link d h1 h2 h3 h4 ih=>exact fun hc=>ih.2 _ _ _ h2 h3 (.inr ⟨h1,h4⟩) hc
  |linked d h1 ih=>exact fun _=>ih h1
  |ride d h1 ih=>exact ih.1 h1
  |change d ih=>exact ih.2.1
  |rdyV d h1 h2 h3 ih=>exact(ih.2.2 _ h1 h2 h3).2
  |arrR d ih=>exact ih.1
  |arrV d h1 h2 h3 ih=>exact(ih.2.2 _ h1 h2 h3).1
 exact @fun _ _ _ _ d=>key d
theorem ZrA (hZ:Znq n) {g:ScT} (hp:g.2.2.2.1.length=n.1.length) (hr:g.2.2.2.2.1.length=n.2.2.1.length) (hb: ∀b∈g.2.2.2.2.1,b.1≤40):pot (Zhq n t0 w) g≤100032:=by
 have hm:=Zqr (t0:=t0) (w:=w) hZ
 have h1: ∀l:List Zd2,Zi1 (Zhq n t0 w) l≤l.length*12444:=by
  intro l
  unfold Zi1
  induction l with
  |nil=>simp
  |cons p l ih=>
   have a:=Zpb (Zhq n t0 w) p.1
   have b:=Zpb (Zhq n t0 w) p.2.2.1
   simp only[List.map_cons,List.sum_cons,List.length_cons]
   omega
 have h2: ∀l:List ZjA,(∀b∈l,b.1≤40)→Zkx l≤l.length*40:=by
  intro l hl
  unfold Zkx
  induction l with
  |nil=>simp
  |cons b l ih=>
   have:=ih (fun x hx=>hl x (by simp [hx]))
   have hb:=hl b (by simp)
   have:ZrU b≤40:=by
    unfold ZrU
    split
    ·omega
    ·omega
   simp only[List.map_cons,List.sum_cons,List.length_cons]
   omega
 have a:=h1 g.2.2.2.1
 have b:=h2 g.2.2.2.2.1 hb
 have hs:=hZ.stops
 have hn:=hZ.runs
 unfold pot
 have c:g.2.2.2.1.length*12444≤8*12444:=Nat.mul_le_mul_right _ (by omega)
 have d:g.2.2.2.2.1.length*40≤12*40:=Nat.mul_le_mul_right _ (by omega)
 omega
theorem ZmJ {n:ZaJ} (h:Znq n) (q:Zbp):Znq (ZaA n q):=by
 refine⟨h.stops,by show (n.2.2.1.map _).length≤_;rw[List.length_map];exact h.runs, ?_, ?_⟩
 ·show (Zbh n q).length≤_
  have:=h.paths
  unfold Zbh
  split
  ·exact Nat.le_trans (List.length_filter_le _ _) this
  ·exact this
 ·show ((n.2.2.1.map (Zcj n q)).map _).sum≤_
  rw[List.map_map]
  have: ((fun r:Zhp=>r.2.2.2.2.2.2.2.1.length) ∘Zcj n q)=fun r=>r.2.2.2.2.2.2.2.1.length:=by
   funext r
   show ((r.2.2.2.2.2.2.2.1).map (Zbs n q)).length=_
   rw[List.length_map]
  rw[this]
  exact h.calls
theorem ZoX {n:ZaJ} (h:ZfJ n) {s0:Int} (hs:0≤s0∧s0< (n.1.length:Int)) (b:Bool):0≤(bif b then(Zdl n s0).2.2.2.1 else 0)∧(bif b then(Zdl n s0).2.2.2.1 else 0)≤3600:=by
 cases b with
 |false=>exact⟨by simp,by simp⟩
 |true=>exact h.change s0 hs.1 hs.2
theorem Zql {n0:ZaJ} {q:Zbp} (hfit:Fit n0) (hfew:Few n0) (hZ0:Znq n0) (hq:ZjG n0 q=0): ∃g,F93 n0 q=some (g,0)∧Ctx (ZaA n0 q) q.1 q.2.2.1 (bif q.2.2.2.2.2.2.2.2.2.1 then(Zdl (ZaA n0 q) q.1).2.2.2.1 else 0)∧Whole n0∧qB n0.1.length q=true∧q.2.2.2.1=false∧
  Zl1 (ZaA n0 q) q.1 q.2.2.1 (bif q.2.2.2.2.2.2.2.2.2.1 then(Zdl (ZaA n0 q) q.1).2.2.2.1 else 0) g:=by
 have hck:=ZfS hfit q
 rw[hq] at hck
 have hq0:=Zj6.1 hq
 obtain⟨hw0,hqb⟩:=Zkf.1 hq0.1
 have hcq:=ZjO hfit q
 rw[hq0.1] at hcq
 have hal:=ZkL hw0.sound hfew q hcq
 have hw:=ZkH q hfit.paths hw0
 have hfa:=ZnN q hfit
 have hn:=hw.ok
 have hZ:=ZmJ hZ0 q
 have hqb' :=hqb
 unfold qB inR at hqb'
 simp only[Bool.and_eq_true,decide_eq_true_eq] at hqb'
 obtain⟨hs0,_,ht0,hm,_⟩:=hqb'
 have hs0' :0≤q.1∧q.1< ((ZaA n0 q).1.length:Int):=hs0
 have hwt:=ZoX hn hs0' q.2.2.2.2.2.2.2.2.2.1
 have C:Ctx (ZaA n0 q) q.1 q.2.2.1 (bif q.2.2.2.2.2.2.2.2.2.1 then(Zdl (ZaA n0 q) q.1).2.2.2.1 else 0):=⟨hn,hs0',ht0,hwt⟩
 obtain⟨g0,s1,s2,s3,s4⟩:=Zqc C hZ
 obtain⟨r,r1,_,_,r4⟩:=Zqu hfa
 have hr0:r.2.2=0:=by
  obtain⟨r',r1',_,r3'⟩:=Zfx _ hfa
  rw[r1] at r1'
  cases r1'
  exact r3'.2 hw
 obtain⟨_,ys,y1,y2,y3⟩:=r4 hr0
 have hlen:ys.length≤60:=by
  have h1:=Zmh (ZaA n0 q) _ (Nat.le_refl _)
  rw[List.take_length] at h1
  have h2:=y2.length_eq
  have h3:=hZ.calls
  omega
 have hpot:pot (Zhq (ZaA n0 q) q.2.2.1 (bif q.2.2.2.2.2.2.2.2.2.1 then(Zdl (ZaA n0 q) q.1).2.2.2.1 else 0)) g0≤100032:=by
  refine ZrA hZ s2.pl s2.rl fun b hb=> ?_
  obtain⟨i,hi,rfl⟩:=List.getElem_of_mem hb
  by_cases e: (g0.2.2.2.2.1[i]).1= -1
  ·rw[e];decide
  ·obtain⟨k,c,hc,js,_,hd⟩:=s2.snd.brd i _ (List.getElem?_eq_getElem hi) e
   have hok:=C.ok hd
   have h32:c<32:=by
    have h1:=(hn.sound.many _ (List.getElem_mem hok.2.1)).2
    have h2:=hok.2.2.1
    rw[ZaO hok.2.1] at h2
    exact Nat.lt_of_lt_of_le h2 h1
   rw[hc]
   omega
 obtain⟨g,g1,g2,g3,g4,g5⟩:=Zrp C hZ y2 y3 hlen (100032+60) (s:=g0) (i:=0) (by omega) (Nat.zero_le _) s2 s3 (fun j hj=>absurd hj (Nat.not_lt_zero j)) (by simp) (by omega)
 refine⟨g, ?_,C,hw0,hqb,hq0.2,ZrT C g2 g5 g3 fun i m hi hm hc=> ?_⟩
 ·unfold F93
  rw[hck]
  simp only[bind_some,decide_true,Bool.not_true,cond_false]
  rw[hal]
  simp only[bind_some]
  rw[s1]
  simp only[bind_some]
  rw[y1]
  simp only[bind_some,decide_true,Bool.not_true,cond_false]
  refine ZdL (fun r=>r=g) ⟨_,g1,rfl⟩ fun r hr=>by rw[hr]
 ·exact g4 _ (y2.mem_iff.2 (Zrt hi hm hc)) i m ⟨hi,hm,hc,rfl⟩
end Q
namespace Q
open Tr Go
open Option (bind_some)
theorem Zd6:F34=some true:=by kernel_rfl
theorem ZsZ {n:ZaJ} (h:Zlu Y31 n) (hp:n.2.2.2.2.1.length≤4096):Fit n:=by
 obtain⟨⟨_,h1⟩,⟨_,h2⟩,⟨_,h3⟩,_,_,⟨⟨_,h6⟩,_⟩,_⟩:=h
 refine⟨fun x hx=> ?_,fun x hx=> ?_,fun x hx=> ?_,fun x hx=> ?_,hp,fun x hx=> ?_⟩
 ·exact(h1 x hx).1
 ·exact(h2 x hx).1
 ·exact(h3 x hx).2.2.2.1
 ·exact(h3 x hx).2.2.2.2.2.2.2.1.1
 ·exact(h6 x hx).1
def ZgD (l:List Zhp):Nat:=(l.map fun r=>r.2.2.2.2.2.2.2.1.length).sum
theorem ZkG {l:List Zhp} {i:Nat} (h:i<l.length):ZgD (l.take (i+1))=ZgD (l.take i)+(l[i]).2.2.2.2.2.2.2.1.length:=by
 unfold ZgD
 rw[List.take_succ_eq_append_getElem h,List.map_append,List.sum_append]
 simp
theorem Zkt {n:ZaJ} (hr:n.2.2.1.length≤12): ∃k:Int,F32 n=some k∧((∀x∈n.2.2.1,x.2.2.2.2.2.2.2.1.length≤4096)→k≤60→ZgD n.2.2.1≤60):=by
 unfold F32
 have key: ∀o:Option Int,(∃r,o=some r∧((∀x∈n.2.2.1,x.2.2.2.2.2.2.2.1.length≤4096)→r≤60→ZgD n.2.2.1≤60))→ ∃k:Int,(Option.bind o fun x3=>some x3)=some k∧((∀x∈n.2.2.1,x.2.2.2.2.2.2.2.1.length≤4096)→k≤60→ZgD n.2.2.1≤60):=by
  rintro o ⟨r,rfl,h⟩
  exact⟨r,rfl,h⟩
 refine key _ ?_
 refine Za3 n.2.2.1.length _ (fun i (st:Int×Int)=>st.2=(i:Int)∧((∀x∈n.2.2.1,x.2.2.2.2.2.2.2.1.length≤4096)→st.1=(ZgD (n.2.2.1.take i):Int))) ?_ ?_ _ ⟨rfl,fun _=>rfl⟩
 ·rintro i ⟨a,j⟩ hi ⟨hj,ha⟩
  simp only at hj ha
  subst hj
  simp only[Zay hi,cond_true,bind_some]
  by_cases h60:a≤60
  ·left
   rw[decide_eq_true h60]
   simp only[cond_true,Zah hi,bind_some,Zai hi (show _≤9223372036854775807 by omega)]
   refine⟨_,rfl,rfl,fun hall=> ?_⟩
   have hx:=hall _ (List.getElem_mem hi)
   rw[ZkG hi]
   have ha' :=ha hall
   show IntKind.wrap .i64 _=_
   rw[Zat (by omega) (by omega)]
   omega
  ·right
   rw[decide_eq_false h60]
   exact⟨_,rfl,fun _ e=>absurd e h60⟩
 ·rintro ⟨a,j⟩ ⟨hj,ha⟩
  simp only at hj ha
  subst hj
  rw[List.take_length] at ha
  simp only[Zav,cond_false,bind_some]
  exact⟨_,rfl,fun hall e=>by have:=ha hall;omega⟩
theorem Zkv {n:ZaJ} (h:Whole n): ∀x∈n.2.2.1,x.2.2.2.2.2.2.2.1.length≤4096:=fun x hx=>by have:=(h.sound.many x hx).2;omega
theorem ZnZ {n:ZaJ} (h:Zlu Y31 n): ∃b,F35 n=some b∧(b=false→Fit n∧(Whole n→Znq n∧Few n)):=by
 unfold F35
 by_cases h1: (8:Int)< (n.1.length:Int)
 ·rw[decide_eq_true h1];exact⟨true,rfl,fun e=>(nomatch e)⟩
 by_cases h2: (10:Int)< (n.2.1.length:Int)
 ·rw[decide_eq_false h1,decide_eq_true h2];exact⟨true,rfl,fun e=>(nomatch e)⟩
 by_cases h3: (12:Int)< (n.2.2.1.length:Int)
 ·rw[decide_eq_false h1,decide_eq_false h2,decide_eq_true h3];exact⟨true,rfl,fun e=>(nomatch e)⟩
 by_cases h4: (40:Int)< (n.2.2.2.1.length:Int)
 ·rw[decide_eq_false h1,decide_eq_false h2,decide_eq_false h3,decide_eq_true h4];exact⟨true,rfl,fun e=>(nomatch e)⟩
 by_cases h5: (100:Int)< (n.2.2.2.2.1.length:Int)
 ·rw[decide_eq_false h1,decide_eq_false h2,decide_eq_false h3,decide_eq_false h4,decide_eq_true h5];exact⟨true,rfl,fun e=>(nomatch e)⟩
 by_cases h6: (20:Int)< (n.2.2.2.2.2.1.1.length:Int)
 ·rw[decide_eq_false h1,decide_eq_false h2,decide_eq_false h3,decide_eq_false h4,decide_eq_false h5,decide_eq_true h6];exact⟨true,rfl,fun e=>(nomatch e)⟩
 rw[decide_eq_false h1,decide_eq_false h2,decide_eq_false h3,decide_eq_false h4,decide_eq_false h5,decide_eq_false h6]
 simp only[cond_false]
 obtain⟨k,k1,k2⟩:=Zkt (n:=n) (by omega)
 rw[k1]
 simp only[bind_some]
 by_cases hk: (60:Int)<k
 ·rw[decide_eq_true hk];exact⟨true,rfl,fun e=>(nomatch e)⟩
 ·rw[decide_eq_false hk]
  refine⟨false,rfl,fun _=>⟨ZsZ h (by omega),fun hw=> ?_⟩⟩
  have hall:=Zkv hw
  have hsum: (n.2.2.1.map fun r=>r.2.2.2.2.2.2.2.1.length).sum≤60:=k2 hall (by omega)
  exact⟨⟨by omega,by omega,by omega,hsum⟩,by omega,by omega,by omega,by omega,by omega,by omega,hall⟩
def Zsc (g:ScT) (s:Nat):Zd2:=(g.2.2.2.1[s]?).getD q11
def arrV (g:ScT) (s:Nat):Int:=(Zsc g s).1
def Zdt (g:ScT):List Int:=g.2.2.2.1.map fun p=>p.1
theorem Zpl {n0:ZaJ} {q:Zbp} {g:ScT} (h:F93 n0 q=some (g,0)): (F93S.f (n0,q,())).isSome=true:=by
 show (F93 n0 q).isSome=true
 rw[h];rfl
theorem Zjk {n0:ZaJ} {q:Zbp} {g:ScT} (hl:g.2.2.2.1.length≤64) (h:F93 n0 q=some (g,0)):F89 n0 q=some (Zdt g,0):=by
 unfold F89
 rw[Zpl h,h]
 simp only[cond_true,bind_some,decide_true,Bool.not_true,cond_false]
 refine ZdL (fun r=>r=Zdt g) ?_ (fun r hr=>by rw[hr])
 refine Za3 g.2.2.2.1.length _ (fun i (st:List Int×List Zd2×Int)=>st=((g.2.2.2.1.take i).map (fun p=>p.1),g.2.2.2.1,(i:Int))) ?_ ?_ _ rfl
 ·rintro i _ hi rfl
  left
  have hg:Zaq (decide (List.length ((g.2.2.2.1.take i).map fun p=>p.1)+List.length [(g.2.2.2.1[i]).1]≤Zas))=some ():=Za7 (by simp;omega)
  simp only[Zay hi,cond_true,ZaQ hi,bind_some,List.getElem?_eq_getElem hi,Zai hi (show _≤9223372036854775807 by omega),hg]
  exact⟨_,rfl,by rw[List.take_succ_eq_append_getElem hi,List.map_append];rfl⟩
 ·rintro _ rfl
  simp only[Zav,cond_false,List.take_length]
  exact⟨_,rfl,rfl⟩
variable {n:ZaJ} {s0 t0 w:Int} {g:ScT}
theorem Zl1.idxA (D:Zl1 n s0 t0 w g) {s:Nat} (hs:s<n.1.length):idx (Zdt g) (s:Int)=some (arrV g s):=by
 have hl:s<g.2.2.2.1.length:=by rw[D.si.pl];exact hs
 have hl2:s< (Zdt g).length:=by unfold Zdt;rw[List.length_map];exact hl
 have e: (Zdt g)[s]=arrV g s:=by unfold arrV Zsc;rw[Zaj hl];simp [Zdt]
 rw[Zah hl2,e]
theorem Zl1.len (D:Zl1 n s0 t0 w g): (Zdt g).length=n.1.length:=by unfold Zdt;rw[List.length_map,D.si.pl]
theorem Zl1.sound (D:Zl1 n s0 t0 w g) {s:Nat} (h:arrV g s≠ -1): ∃k js,Ch g.2.2.1 (Zsc g s).2.2.2.1 js∧Der n s0 t0 w (.arr k (s:Int) (arrV g s)) js:=by
 unfold arrV Zsc at*
 by_cases hs:s<g.2.2.2.1.length
 ·rw[Zaj hs] at h ⊢
  exact(D.si.snd.pls s _ (List.getElem?_eq_getElem hs)).arr h
 ·rw[List.getElem?_eq_none (by omega)] at h
  exact absurd rfl h
theorem Zl1.complete (D:Zl1 n s0 t0 w g) {s:Nat} {k:Nat} {t:Int} {js:List Zc0} (d:Der n s0 t0 w (.arr k (s:Int) t) js):arrV g s≠ -1∧arrV g s≤t:=by
 obtain⟨p,p1,p2⟩:=D.arr d
 rw[Int.toNat_natCast] at p1
 unfold arrV Zsc
 rw[p1]
 exact p2
theorem Zl1.nonneg (C:Ctx n s0 t0 w) (D:Zl1 n s0 t0 w g) (s:Nat):arrV g s= -1∨0≤arrV g s∧arrV g s≤3155932800:=by
 by_cases h:arrV g s= -1
 ·exact .inl h
 right
 obtain⟨k,js,_,d⟩:=D.sound h
 exact(C.ok d).2
end Q
namespace Q
open Tr Go Gr
open Option (bind_some)
variable {n:ZaJ} {s0 t0 w:Int} {g:ScT}
theorem ZbS {n:ZaJ} {q:Zbp} {p:Zcn} :p∈Zbh n q↔p∈n.2.2.2.2.1∧(p.2.2.2.1=true∨q.2.2.2.2.2.2.1=false):=by
 unfold Zbh
 cases q.2.2.2.2.2.2.1 with
 |true=>simp
 |false=>simp
end Q
namespace Q
open Tr Go
open Option (bind_some)
variable {n:ZaJ} {q:Zbp}
theorem ZqL (n:ZaJ) (q:Zbp) (i:Nat):Zad (ZaA n q) i=(Zad n i).map (Zbs n q):=Zl5 n q (i:Int)
theorem ZfQ (n:ZaJ) (q:Zbp) (i:Nat): (Zad (ZaA n q) i).length=(Zad n i).length:=by rw[ZqL,List.length_map]
theorem ZsY (n:ZaJ) (q:Zbp) (i c:Nat):Zab (ZaA n q) i c=Zbs n q (Zab n i c):=by
 unfold Zab
 rw[ZqL,Zqw]
theorem Zbt (n:ZaJ) (q:Zbp) (i c:Nat):Zab (ZaA n q) i c=((Zab n i c).1,(Zab n i c).2.1,(Zab n i c).2.2.1,(Zab n i c).2.2.2.1&&Zhu n q (Zab n i c).1,(Zab n i c).2.2.2.2.1&&Zhu n q (Zab n i c).1,()):=by
 rw[ZsY,Zpy]
theorem Zj8 (n:ZaJ) (q:Zbp): (ZaA n q).2.2.1.length=n.2.2.1.length:=List.length_map ..
theorem ZsO {n:ZaJ} {q:Zbp} {i:Nat} (hi:i<n.2.2.1.length):Zbj (ZaA n q) i= !Zq2 n q n.2.2.1[i]:=by
 unfold Zbj rn
 rw[Int.toNat_natCast]
 show (((n.2.2.1.map (Zcj n q))[i]?).getD u0).2.2.2.2.2.2.1=_
 rw[List.getElem?_map,List.getElem?_eq_getElem hi]
 rfl
theorem ZjS (hS:Zfv n) (hq:0≤q.2.2.2.2.2.2.2.2.1∧q.2.2.2.2.2.2.2.2.1≤255) {i:Nat} (hi:i<n.2.2.1.length):F85 n q (i:Int)=some (Zq2 n q n.2.2.1[i]):=by
 obtain⟨ro,hrm⟩:=ZqO hS (List.getElem_mem hi)
 have hmode:=hS.mode _ hrm
 unfold F85 Zq2 Tr.useB
 rw[Zah hi]
 simp only[bind_some]
 rw[ro]
 simp only[bind_some]
 generalize n.2.2.1[i]=r at*
 generalize Zr3 n r=t at*
 have wm:IntKind.wrap .u64 t.2.1=t.2.1:=by
  obtain⟨k,hk⟩: ∃k:Nat,t.2.1=(k:Int):=⟨t.2.1.toNat,by omega⟩
  rw[hk]
  have:k≤7:=by omega
  match k,this with
  |0,_=>rfl
  |1,_=>rfl
  |2,_=>rfl
  |3,_=>rfl
  |4,_=>rfl
  |5,_=>rfl
  |6,_=>rfl
  |7,_=>rfl
 rw[wm]
 have hsh:Zrg .i64 q.2.2.2.2.2.2.2.2.1 t.2.1=some (Int.fdiv q.2.2.2.2.2.2.2.2.1 (2 ^ (min (Int.toNat t.2.1) 64))):=by
  unfold Zrg
  rw[if_neg (by omega)]
  rfl
 rw[hsh]
 have hx:0≤Int.fdiv q.2.2.2.2.2.2.2.2.1 (2 ^ (min (Int.toNat t.2.1) 64))∧Int.fdiv q.2.2.2.2.2.2.2.2.1 (2 ^ (min (Int.toNat t.2.1) 64))≤255:=by
  have hp: (0:Int)<2 ^ (min (Int.toNat t.2.1) 64):=Int.pow_pos (by omega)
  rw[Int.fdiv_eq_ediv_of_nonneg _ (Int.le_of_lt hp)]
  exact⟨Int.ediv_nonneg hq.1 (Int.le_of_lt hp),Int.le_trans (Int.ediv_le_self _ hq.1) hq.2⟩
 generalize Int.fdiv q.2.2.2.2.2.2.2.2.1 (2 ^ (min (Int.toNat t.2.1) 64))=x at*
 have hand:decide (Int.tmod x 2=1)=decide (Zrv .i64 x 1=1):=by
  obtain⟨k,rfl⟩: ∃k:Nat,x=(k:Int):=⟨x.toNat,by omega⟩
  have e:Zrv .i64 (k:Int) 1=((k % 2:Nat):Int):=by
   unfold Zrv
   have h: (BitVec.ofInt IntKind.i64.bits (k:Int) &&& BitVec.ofInt IntKind.i64.bits 1).toNat=k % 2:=by
    rw[BitVec.toNat_and]
    show _ &&& 1=_
    rw[Nat.and_one_is_mod,BitVec.ofInt_natCast,BitVec.toNat_ofNat]
    show k % 18446744073709551616 % 2=k % 2
    omega
   rw[h]
   have:k % 2=0∨k % 2=1:=by omega
   rcases this with h|h<;>rw[h]<;>rfl
  rw[e,Int.tmod_eq_emod_of_nonneg (by omega)]
  exact decide_eq_decide.2 (by omega)
 simp only[bind_some,hand]
 cases r.2.2.2.2.2.2.1<;>cases r.2.2.2.2.2.1<;>cases q.2.2.2.2.2.2.1<;>cases q.2.2.2.2.2.2.2.1<;>cases t.2.2.1<;>cases decide (q.2.2.2.2.2.2.2.2.1=0)<;>rfl
theorem ZrR {a b:Bool} (h: ¬ (a=true∨b=false)):a=false∧b=true:=by cases a<;>cases b<;>simp_all
def Zlo (n:ZaJ) (q:Zbp) (a b v:Int):Prop:=(v= -1∧ ∀p∈Zbh n q,p.1=a→p.2.1=b→False)∨((∃p∈Zbh n q,p.1=a∧p.2.1=b∧p.2.2.1=v)∧0≤v∧ ∀p∈Zbh n q,p.1=a→p.2.1=b→v≤p.2.2.1)
theorem ZeR (hp:n.2.2.2.2.1.length≤4096) (hpp: ∀p∈n.2.2.2.2.1,1≤p.2.2.1) (a b:Int): ∃v:Int,F86 n q a b=some (v,decide (0≤v))∧Zlo n q a b v:=by
 unfold F86
 have key: ∀o:Option Int,(∃r,o=some r∧Zlo n q a b r)→ ∃v:Int,(Option.bind o fun x3=>some (x3,decide ((0:Int)≤x3)))=some (v,decide (0≤v))∧Zlo n q a b v:=by
  rintro o ⟨r,rfl,h⟩
  exact⟨r,rfl,h⟩
 refine key _ ?_
 have conv: ∀ (l:List Zcn) (v:Int),((v= -1∧ ∀p∈l,(p.2.2.2.1=true∨q.2.2.2.2.2.2.1=false)→p.1=a→p.2.1=b→False)∨((∃p∈l,(p.2.2.2.1=true∨q.2.2.2.2.2.2.1=false)∧p.1=a∧p.2.1=b∧p.2.2.1=v)∧0≤v∧ ∀p∈l,(p.2.2.2.1=true∨q.2.2.2.2.2.2.1=false)→p.1=a→p.2.1=b→v≤p.2.2.1))→l=n.2.2.2.2.1→Zlo n q a b v:=by
  rintro l v h rfl
  rcases h with ⟨h1,h2⟩ | ⟨⟨p,p1,p2,p3⟩,h2,h3⟩
  ·exact .inl ⟨h1,fun p hp=>h2 p (ZbS.1 hp).1 (ZbS.1 hp).2⟩
  ·exact .inr ⟨⟨p,ZbS.2 ⟨p1,p2⟩,p3⟩,h2,fun p hp=>h3 p (ZbS.1 hp).1 (ZbS.1 hp).2⟩
 refine Za3 n.2.2.2.2.1.length _ (fun i (st:Int×Int)=>st.2=(i:Int)∧((st.1= -1∧ ∀p∈n.2.2.2.2.1.take i,(p.2.2.2.1=true∨q.2.2.2.2.2.2.1=false)→p.1=a→p.2.1=b→False)∨((∃p∈n.2.2.2.2.1.take i,(p.2.2.2.1=true∨q.2.2.2.2.2.2.1=false)∧p.1=a∧p.2.1=b∧p.2.2.1=st.1)∧0≤st.1∧ ∀p∈n.2.2.2.2.1.take i,(p.2.2.2.1=true∨q.2.2.2.2.2.2.1=false)→p.1=a→p.2.1=b→st.1≤p.2.2.1))) ?_ ?_ _ ⟨rfl, .inl ⟨rfl,by simp⟩⟩
 ·rintro i ⟨v,j⟩ hi ⟨hj,hv⟩
  simp only at hj hv
  subst hj
  left
  have h1:=hpp _ (List.getElem_mem hi)
  rw[List.take_succ_eq_append_getElem hi]
  generalize n.2.2.2.2.1.take i=l at*
  simp only[Zay hi,cond_true,Zah hi,bind_some,Zai hi (show _≤9223372036854775807 by omega)]
  generalize n.2.2.2.2.1[i]=p at*
  have keep: (¬ ((p.2.2.2.1=true∨q.2.2.2.2.2.2.1=false)∧p.1=a∧p.2.1=b)∨(0≤v∧v≤p.2.2.1))→((v= -1∧ ∀x∈l++[p],(x.2.2.2.1=true∨q.2.2.2.2.2.2.1=false)→x.1=a→x.2.1=b→False)∨((∃x∈l++[p],(x.2.2.2.1=true∨q.2.2.2.2.2.2.1=false)∧x.1=a∧x.2.1=b∧x.2.2.1=v)∧0≤v∧ ∀x∈l++[p],(x.2.2.2.1=true∨q.2.2.2.2.2.2.1=false)→x.1=a→x.2.1=b→v≤x.2.2.1)):=by
   intro hno
   rcases hv with ⟨a1,a2⟩ | ⟨⟨y,y1,y2⟩,a2,a3⟩
   ·refine .inl ⟨a1,fun x hx b1 b2 b3=> ?_⟩
    rcases List.mem_append.1 hx with hx|hx
    ·exact a2 x hx b1 b2 b3
    ·simp only[List.mem_singleton] at hx
     subst hx
     rcases hno with hno|hno
     ·exact hno ⟨b1,b2,b3⟩
     ·omega
   ·refine .inr ⟨⟨y,List.mem_append_left _ y1,y2⟩,a2,fun x hx b1 b2 b3=> ?_⟩
    rcases List.mem_append.1 hx with hx|hx
    ·exact a3 x hx b1 b2 b3
    ·simp only[List.mem_singleton] at hx
     subst hx
     rcases hno with hno|hno
     ·exact absurd ⟨b1,b2,b3⟩ hno
     ·exact hno.2
  have take' : (p.2.2.2.1=true∨q.2.2.2.2.2.2.1=false)→p.1=a→p.2.1=b→(v<0∨p.2.2.1<v)→((p.2.2.1= -1∧ ∀x∈l++[p],(x.2.2.2.1=true∨q.2.2.2.2.2.2.1=false)→x.1=a→x.2.1=b→False)∨((∃x∈l++[p],(x.2.2.2.1=true∨q.2.2.2.2.2.2.1=false)∧x.1=a∧x.2.1=b∧x.2.2.1=p.2.2.1)∧0≤p.2.2.1∧ ∀x∈l++[p],(x.2.2.2.1=true∨q.2.2.2.2.2.2.1=false)→x.1=a→x.2.1=b→p.2.2.1≤x.2.2.1)):=by
   intro c1 c2 c3 c4
   refine .inr ⟨⟨p,by simp,c1,c2,c3,rfl⟩,by omega,fun x hx b1 b2 b3=> ?_⟩
   rcases List.mem_append.1 hx with hx|hx
   ·rcases hv with ⟨a1,a2⟩ | ⟨_,a2,a3⟩
    ·exact(a2 x hx b1 b2 b3).elim
    ·have:=a3 x hx b1 b2 b3
     omega
   ·simp only[List.mem_singleton] at hx
    subst hx;exact Int.le_refl _
  by_cases e1:p.1=a
  rotate_left
  ·rw[decide_eq_false e1]
   exact⟨_,rfl,rfl,keep (.inl fun h=>e1 h.2.1)⟩
  by_cases e2:p.2.1=b
  rotate_left
  ·rw[decide_eq_true e1,decide_eq_false e2]
   exact⟨_,rfl,rfl,keep (.inl fun h=>e2 h.2.2)⟩
  rw[decide_eq_true e1,decide_eq_true e2]
  simp only[cond_true]
  by_cases e3:p.2.2.2.1=true∨q.2.2.2.2.2.2.1=false
  rotate_left
  ·obtain⟨a1,a2⟩:=ZrR e3
   have e5: ∀X:Option Bool,(bif p.2.2.2.1 then X else bif !q.2.2.2.2.2.2.1 then X else some false)=some false:=by
    intro X;rw[a1,a2];rfl
   erw[e5]
   exact⟨_,rfl,rfl,keep (.inl fun h=>e3 h.1)⟩
  have e4: (bif p.2.2.2.1 then bif decide (v< (0:Int)) then some true else some (decide (p.2.2.1<v)) else bif !q.2.2.2.2.2.2.1 then bif decide (v< (0:Int)) then some true else some (decide (p.2.2.1<v)) else some false)=some (decide (v<0) ||decide (p.2.2.1<v)):=by
   rcases e3 with e|e<;>rw[e]
   ·cases decide (v<0)<;>rfl
   ·cases p.2.2.2.1<;>cases decide (v<0)<;>rfl
  erw[e4]
  simp only[bind_some]
  by_cases e6:v<0∨p.2.2.1<v
  ·have: (decide (v<0) ||decide (p.2.2.1<v))=true:=by simpa using e6
   rw[this]
   exact⟨_,rfl,rfl,take' e3 e1 e2 e6⟩
  ·have: (decide (v<0) ||decide (p.2.2.1<v))=false:=by
    rw[Bool.or_eq_false_iff,decide_eq_false_iff_not,decide_eq_false_iff_not];omega
   rw[this]
   exact⟨_,rfl,rfl,keep (.inr (by omega))⟩
 ·rintro ⟨v,j⟩ ⟨hj,hv⟩
  simp only at hj hv
  subst hj
  simp only[Zav,cond_false]
  exact⟨_,rfl,conv _ v hv List.take_length⟩
theorem ZfX (h:ZfJ n) (a c b d:Nat) (st:Bool): ∃r,F81 n (a:Int) (c:Int) (b:Int) (d:Int) st=some r∧(r=true↔isLink n a c b d st):=by
 unfold F81
 have hl:=h.sound.links
 have key: ∀o:Option (Unit ⊕ Bool),(∃r,o=some r∧((r= .inl ()∧ ¬isLink n a c b d st)∨(r= .inr true∧isLink n a c b d st)))→ ∃r,(Option.bind o fun x3=>Sum.elim (fun _=>some false) (fun y5=>some y5) x3)=some r∧(r=true↔isLink n a c b d st):=by
  rintro o ⟨r,rfl,⟨rfl,h⟩ | ⟨rfl,h⟩⟩
  ·exact⟨false,rfl,by simp [h]⟩
  ·exact⟨true,rfl,by simp [h]⟩
 refine key _ ?_
 refine Za3 n.2.2.2.1.length _ (fun i (s:Int)=>s=(i:Int)∧((a:Int),(c:Int),(b:Int),(d:Int),st,()) ∉ n.2.2.2.1.take i) ?_ ?_ _ ⟨rfl,by simp⟩
 ·rintro i _ hi ⟨rfl,hno⟩
  simp only[Zay hi,cond_true,Zah hi,bind_some,Zai hi (show _≤9223372036854775807 by omega)]
  obtain⟨a',c',b',d',s',e,_⟩:=h.link _ (List.getElem_mem hi)
  rw[List.take_succ_eq_append_getElem hi]
  have hmem:=List.getElem_mem hi
  generalize n.2.2.2.1[i]=x at*
  subst e
  by_cases hx: ((a' :Int),(c' :Int),(b' :Int),(d' :Int),s',())=(((a:Int),(c:Int),(b:Int),(d:Int),st,()):ZjK)
  ·right
   simp only[Prod.mk.injEq] at hx
   obtain⟨h1,h2,h3,h4,h5,_⟩:=hx
   subst h5
   rw[decide_eq_true h1,decide_eq_true h2,decide_eq_true h3,decide_eq_true h4]
   refine⟨.inr true,by simp, .inr ⟨rfl, ?_⟩⟩
   unfold isLink
   rw[←h1, ←h2, ←h3, ←h4];exact hmem
  ·left
   have hf: (bif decide ((a' :Int)=a) then bif decide ((c' :Int)=c) then bif decide ((b' :Int)=b) then bif decide ((d' :Int)=d) then some (s' ==st) else some false else some false else some false else some false)=some false:=by
    by_cases h1: (a' :Int)=a
    ·by_cases h2: (c' :Int)=c
     ·by_cases h3: (b' :Int)=b
      ·by_cases h4: (d' :Int)=d
       ·have h5:s' ≠st:=fun h5=>hx (by rw[h1,h2,h3,h4,h5])
        rw[decide_eq_true h1,decide_eq_true h2,decide_eq_true h3,decide_eq_true h4]
        simp only[cond_true]
        exact congrArg some (beq_eq_false_iff_ne.2 h5)
       ·rw[decide_eq_true h1,decide_eq_true h2,decide_eq_true h3,decide_eq_false h4];rfl
      ·rw[decide_eq_true h1,decide_eq_true h2,decide_eq_false h3];rfl
     ·rw[decide_eq_true h1,decide_eq_false h2];rfl
    ·rw[decide_eq_false h1];rfl
   rw[hf]
   refine⟨_,rfl,rfl,fun hm=> ?_⟩
   rcases List.mem_append.1 hm with hm|hm
   ·exact hno hm
   ·simp only[List.mem_singleton] at hm
    exact hx hm.symm
 ·rintro _ ⟨rfl,hno⟩
  rw[List.take_length] at hno
  simp only[Zav,cond_false]
  exact⟨_,rfl, .inl ⟨rfl,hno⟩⟩
end Q
namespace Q
open Tr Go
open Option (bind_some)
variable {n:ZaJ} {q:Zbp}
abbrev ZdF:=List (List Bool) ×List (List Bool) ×List Bool×Unit
def tt (l:List (List Bool)) (i c:Nat):Prop:= ∃row,l[i]? =some row∧row[c]? =some true
def ts (l:List Bool) (i:Nat):Prop:=l[i]? =some true
structure Zhv (n:ZaJ) (s:ZdF):Prop where
 bl:s.1.length=n.2.2.1.length
 br: ∀ (i:Nat) row,s.1[i]? =some row→row.length=(Zad n i).length
 al:s.2.1.length=n.2.2.1.length
 ar: ∀ (i:Nat) row,s.2.1[i]? =some row→row.length=(Zad n i).length
 sl:s.2.2.1.length=n.2.2.1.length
structure NQ (n:ZaJ) (q:Zbp):Prop where
 net:ZfJ n
 paths:n.2.2.2.2.1.length≤4096
 stop:0≤q.1∧q.1< (n.1.length:Int)
 time:0≤q.2.2.1∧q.2.2.1≤3155932800
 mode:0≤q.2.2.2.2.2.2.2.2.1∧q.2.2.2.2.2.2.2.2.1≤255
def Zcr (n:ZaJ) (q:Zbp):Int:=bif q.2.2.2.2.2.2.2.2.2.1 then(Zdl n q.1).2.2.2.1 else 0
def Beg (n:ZaJ) (q:Zbp) (i c:Nat):Prop:=((Zab n i c).1=q.1∧q.2.2.1+Zcr n q≤(Zab n i c).2.2.1)∨ ∃p∈Zbh n q,p.1=q.1∧p.2.1=(Zab n i c).1∧q.2.2.1+p.2.2.1≤(Zab n i c).2.2.1
def Chg (n:ZaJ) (q:Zbp) (k d i c:Nat):Prop:=((Zab n k d).1=(Zab n i c).1∧((Zab n k d).2.1+(Zdl n (Zab n k d).1).2.2.2.1≤(Zab n i c).2.2.1∨(Zab n k d).2.1≤(Zab n i c).2.2.1∧isLink n k d i c false))∨
 ∃p∈Zbh n q,p.1=(Zab n k d).1∧p.2.1=(Zab n i c).1∧(Zab n k d).2.1+p.2.2.1≤(Zab n i c).2.2.1
def Abd (s:ZdF) (i c:Nat):Prop:=(0<c∧ts s.2.2.1 i)∨ ∃b,b<c∧tt s.1 i b
def Opn (n:ZaJ) (q:Zbp) (s:ZdF) (i c:Nat):Prop:=(Zab n i c).2.2.2.1=true∧Zhu n q (Zab n i c).1=true∧(Beg n q i c∨ ∃k d,k<n.2.2.1.length∧tt s.2.1 k d∧Chg n q k d i c)
def Sty (n:ZaJ) (s:ZdF) (i:Nat):Prop:= ∃k,k<n.2.2.1.length∧isLink n k ((Zad n k).length - 1) i 0 true∧Abd s k ((Zad n k).length - 1)∧(Zab n k ((Zad n k).length - 1)).2.1≤(Zab n i 0).2.2.1
theorem ZeP {i:Nat} (hi:i<n.2.2.1.length):idx n.2.2.1 (i:Int)=some n.2.2.1[i]∧(n.2.2.1[i]).2.2.2.2.2.2.2.1=Zad n i:=⟨Zah hi,(ZaO hi).symm⟩
theorem Zd4 {i c:Nat} (hc:c< (Zad n i).length):idx (Zad n i) (c:Int)=some (Zab n i c):=by rw[Zah hc,ZbW hc]
theorem ZgV (h:NQ n q) {p:Zcn} (hp:p∈Zbh n q):p.1≠p.2.1∧1≤p.2.2.1∧p.2.2.1≤14400:=by
 have:=h.net.path p (ZbS.1 hp).1
 omega
theorem Zom (h:NQ n q) {i c:Nat} (hi:i<n.2.2.1.length) (hc:c< (Zad n i).length): ∃b,F78 n q (i:Int) (c:Int)=some b∧(b=true↔Beg n q i c):=by
 obtain⟨e1,e2⟩:=ZeP hi
 have ht:=h.net.time hi hc
 have htm:=h.time
 have hw:0≤Zcr n q∧Zcr n q≤3600:=ZoX h.net h.stop _
 unfold F78
 rw[e1]
 simp only[bind_some,e2]
 rw[Zd4 hc]
 simp only[bind_some]
 by_cases hs: (Zab n i c).1=q.1
 ·rw[decide_eq_true hs]
  simp only[cond_true]
  have ew: (bif q.2.2.2.2.2.2.2.2.2.1 then Option.bind (idx n.1 q.1) fun x2=>some x2.2.2.2.1 else some (0:Int))=some (Zcr n q):=by
   unfold Zcr
   cases q.2.2.2.2.2.2.2.2.2.1 with
   |false=>rfl
   |true=>
    simp only[cond_true]
    rw[(Zeq h.net.sound h.stop.1 h.stop.2).1]
    rfl
  rw[ew]
  simp only[bind_some]
  refine⟨_,rfl, ?_⟩
  rw[decide_eq_true_eq,Zat (by omega) (by omega)]
  unfold Beg
  constructor
  ·exact fun e=> .inl ⟨hs,e⟩
  ·rintro (⟨_,e⟩ | ⟨p,p1,p2,p3,_⟩)
   ·exact e
   ·have:=(ZgV h p1).1;omega
 ·rw[decide_eq_false hs]
  simp only[cond_false]
  obtain⟨v,v1,v2⟩:=ZeR (q:=q) h.paths (fun p hp=>by have:=h.net.path p hp;omega) q.1 (Zab n i c).1
  rw[v1]
  simp only[bind_some]
  rcases v2 with ⟨rfl,hno⟩ | ⟨⟨p,p1,p2,p3,p4⟩,h0,hmin⟩
  ·refine⟨false,rfl, ?_⟩
   simp only[Bool.false_eq_true,false_iff]
   rintro (⟨e,_⟩ | ⟨p,p1,p2,p3,_⟩)
   ·exact hs e
   ·exact hno p p1 p2 p3
  ·have hpp:=ZgV h p1
   rw[decide_eq_true h0]
   simp only[cond_true,bind_some]
   refine⟨_,rfl, ?_⟩
   rw[decide_eq_true_eq,Zat (by omega) (by omega)]
   constructor
   ·intro e
    have e' :q.2.2.1≤(Zab n i c).2.2.1 - v:=e
    exact .inr ⟨p,p1,p2,p3,by omega⟩
   ·rintro (⟨e,_⟩ | ⟨x,x1,x2,x3,x4⟩)
    ·exact absurd e hs
    ·have:=hmin x x1 x2 x3
     show q.2.2.1≤(Zab n i c).2.2.1 - v
     omega
theorem ZmK (h:NQ n q) {k d i c:Nat} (hk:k<n.2.2.1.length) (hd:d< (Zad n k).length) (hi:i<n.2.2.1.length) (hc:c< (Zad n i).length): ∃b,F80 n q (k:Int) (d:Int) (i:Int) (c:Int)=some b∧(b=true↔Chg n q k d i c):=by
 obtain⟨e1,e2⟩:=ZeP hi
 obtain⟨e3,e4⟩:=ZeP hk
 have ht:=h.net.time hi hc
 have ht2:=h.net.time hk hd
 have hst:=h.net.stop hk hd
 have hcg:=h.net.change _ hst.1 hst.2
 unfold F80
 rw[e3,e1]
 simp only[bind_some,e2,e4]
 rw[Zd4 hc,Zd4 hd]
 simp only[bind_some]
 by_cases hs: (Zab n k d).1=(Zab n i c).1
 ·rw[decide_eq_true hs]
  simp only[cond_true]
  rw[(Zeq h.net.sound hst.1 hst.2).1]
  simp only[bind_some]
  rw[Zat (by omega) (by omega)]
  obtain⟨r,r1,r2⟩:=ZfX h.net k d i c false
  have hno: ∀p∈Zbh n q,p.1=(Zab n k d).1→p.2.1=(Zab n i c).1→False:=fun p hp a b=>by have:=(ZgV h hp).1;omega
  by_cases h1: (Zab n k d).2.1+(Zdl n (Zab n k d).1).2.2.2.1≤(Zab n i c).2.2.1
  ·rw[decide_eq_true h1]
   exact⟨true,rfl,by simp only[true_iff];exact .inl ⟨hs, .inl h1⟩⟩
  ·rw[decide_eq_false h1]
   simp only[cond_false]
   by_cases h2: (Zab n k d).2.1≤(Zab n i c).2.2.1
   ·rw[decide_eq_true h2]
    simp only[cond_true]
    rw[r1]
    simp only[bind_some]
    refine⟨r,rfl,r2.trans ⟨fun e=> .inl ⟨hs, .inr ⟨h2,e⟩⟩, ?_⟩⟩
    rintro (⟨_,e|e⟩ | ⟨p,p1,p2,p3,_⟩)
    ·exact absurd e h1
    ·exact e.2
    ·exact(hno p p1 p2 p3).elim
   ·rw[decide_eq_false h2]
    refine⟨false,rfl, ?_⟩
    simp only[Bool.false_eq_true,false_iff]
    rintro (⟨_,e|e⟩ | ⟨p,p1,p2,p3,_⟩)
    ·exact h1 e
    ·exact h2 e.1
    ·exact hno p p1 p2 p3
 ·rw[decide_eq_false hs]
  simp only[cond_false]
  obtain⟨v,v1,v2⟩:=ZeR (q:=q) h.paths (fun p hp=>by have:=h.net.path p hp;omega) (Zab n k d).1 (Zab n i c).1
  rw[v1]
  simp only[bind_some]
  rcases v2 with ⟨rfl,hno⟩ | ⟨⟨p,p1,p2,p3,p4⟩,h0,hmin⟩
  ·refine⟨false,rfl, ?_⟩
   simp only[Bool.false_eq_true,false_iff]
   rintro (⟨e,_⟩ | ⟨p,p1,p2,p3,_⟩)
   ·exact hs e
   ·exact hno p p1 p2 p3
  ·have hpp:=ZgV h p1
   rw[decide_eq_true h0]
   simp only[cond_true,bind_some]
   refine⟨_,rfl, ?_⟩
   rw[decide_eq_true_eq,Zat (by omega) (by omega)]
   constructor
   ·exact fun e=> .inr ⟨p,p1,p2,p3,by omega⟩
   ·rintro (⟨e,_⟩ | ⟨x,x1,x2,x3,x4⟩)
    ·exact absurd e hs
    ·have:=hmin x x1 x2 x3;omega
theorem ZsJ {τ:Type} {m:Nat} {step:Int→Option (Int ⊕ (Unit ⊕ τ))} {P:Nat→Prop} {y:τ} (hs: ∀i:Nat,i<m→(P i∧step (i:Int)=some (.inr (.inr y)))∨(¬P i∧step (i:Int)=some (.inl ((i+1:Nat):Int)))) (he:step (m:Int)=some (.inr (.inl ()))):
  ∃r,run step (0:Int)=some r∧((r= .inr y∧ ∃i,i<m∧P i)∨(r= .inl ()∧ ∀i,i<m→ ¬P i)):=by
 refine Za3 m _ (fun i (s:Int)=>s=(i:Int)∧ ∀j,j<i→ ¬P j) ?_ ?_ _ ⟨rfl,fun j hj=>absurd hj (Nat.not_lt_zero j)⟩
 ·rintro i _ hi ⟨rfl,hno⟩
  rcases hs i hi with ⟨h1,h2⟩ | ⟨h1,h2⟩
  ·exact .inr ⟨_,h2, .inl ⟨rfl,i,hi,h1⟩⟩
  ·refine .inl ⟨_,h2,rfl,fun j hj=> ?_⟩
   by_cases e:j=i
   ·subst e;exact h1
   ·exact hno j (by omega)
 ·rintro _ ⟨rfl,hno⟩
  exact⟨_,he, .inr ⟨rfl,hno⟩⟩
theorem ZgI {o:Option (Unit ⊕ Bool)} {P:Prop} (h: ∃r,o=some r∧((r= .inr true∧P)∨(r= .inl ()∧ ¬P))): ∃b,(Option.bind o fun x=>Sum.elim (fun _=>some false) (fun y=>some y) x)=some b∧(b=true↔P):=by
 obtain⟨r,rfl,⟨rfl,h⟩ | ⟨rfl,h⟩⟩:=h
 ·exact⟨true,rfl,by simp [h]⟩
 ·exact⟨false,rfl,by simp [h]⟩
theorem Zg3 {l:List (List Bool)} {i c m:Nat} (hi:i<l.length) (hr: ∀row,l[i]? =some row→row.length=m) (hc:c<m): ∃row b,l[i]? =some row∧idx l (i:Int)=some row∧row.length=m∧row[c]? =some b∧idx row (c:Int)=some b∧(b=true↔tt l i c):=by
 have h1:=List.getElem?_eq_getElem hi
 have h2:=hr _ h1
 have hcl:c<l[i].length:=by omega
 refine⟨l[i],l[i][c],h1,Zah hi,h2,List.getElem?_eq_getElem hcl,Zah hcl, ?_⟩
 unfold tt
 rw[h1]
 constructor
 ·intro e;exact⟨_,rfl,by rw[List.getElem?_eq_getElem hcl,e]⟩
 ·rintro ⟨row,e1,e2⟩
  cases e1
  rw[List.getElem?_eq_getElem hcl] at e2
  exact Option.some.inj e2
theorem Zjz (h:NQ n q) {s:ZdF} (hS:Zhv n s) {i c:Nat} (hi:i<n.2.2.1.length) (hc:c< (Zad n i).length): ∃b,F77 s (i:Int) (c:Int)=some b∧(b=true↔Abd s i c):=by
 have hlen:=(h.net.sound.many _ (List.getElem_mem hi)).2
 have hcl: (Zad n i).length≤32:=by rw[ZaO hi];exact hlen
 unfold F77
 have hsl:i<s.2.2.1.length:=by rw[hS.sl];exact hi
 have hbl:i<s.1.length:=by rw[hS.bl];exact hi
 have e1: ∃b,(bif decide ((0:Int)< (c:Int)) then Option.bind (idx s.2.2.1 (i:Int)) fun x0=>some x0 else some false)=some b∧(b=true↔(0<c∧ts s.2.2.1 i)):=by
  by_cases h0:0<c
  ·rw[decide_eq_true (show (0:Int)< (c:Int) by omega),Zah hsl]
   refine⟨_,rfl, ?_⟩
   unfold ts
   rw[List.getElem?_eq_getElem hsl]
   simp [h0]
  ·rw[decide_eq_false (show¬ (0:Int)< (c:Int) by omega)]
   exact⟨false,rfl,by simp [h0]⟩
 obtain⟨b,b1,b2⟩:=e1
 rw[b1]
 simp only[bind_some]
 cases b with
 |true=>exact⟨true,rfl,by simp only[true_iff];exact .inl (b2.1 rfl)⟩
 |false=>
  simp only[cond_false]
  have hn1: ¬ (0<c∧ts s.2.2.1 i):=fun e=>by have:=b2.2 e;cases this
  obtain⟨r,r1,r2⟩:=ZgI (P:= ∃m,m<c∧tt s.1 i m) (o:=run (fun s2:Int=>
   bif decide (s2< (c:Int)) then
   Option.bind (idx s.1 (i:Int)) fun x3=>
   Option.bind (idx x3 s2) fun x4=>bif x4 then some (.inr (.inr true)) else some (.inl (IntKind.wrap .i64 (s2+(1:Int))))
   else some (.inr (.inl ()))) (0:Int)) (by
    obtain⟨r,r1,r2⟩:=ZsJ (m:=c) (P:=fun m=>tt s.1 i m) (y:=true) (step:=fun s2:Int=>
     bif decide (s2< (c:Int)) then
     Option.bind (idx s.1 (i:Int)) fun x3=>
     Option.bind (idx x3 s2) fun x4=>bif x4 then some (.inr (.inr true)) else some (.inl (IntKind.wrap .i64 (s2+(1:Int))))
     else some (.inr (.inl ()))) (fun m hm=>by
      obtain⟨row,b,g1,g2,g3,g4,g5,g6⟩:=Zg3 hbl (hS.br i) (show m< (Zad n i).length by omega)
      simp only[Zay hm,cond_true,g2,bind_some,g5,Zai hm (show c≤9223372036854775807 by omega)]
      cases b with
      |true=>exact .inl ⟨g6.1 rfl,rfl⟩
      |false=>exact .inr ⟨fun e=>(by have:=g6.2 e;cases this),rfl⟩) (by simp only[Zav,cond_false])
    refine⟨r,r1, ?_⟩
    rcases r2 with ⟨e,m,m1,m2⟩ | ⟨e,hno⟩
    ·exact .inl ⟨e,m,m1,m2⟩
    ·exact .inr ⟨e,fun⟨m,m1,m2⟩=>hno m m1 m2⟩)
  refine⟨r,r1,r2.trans ⟨fun e=> .inr e,fun e=>e.resolve_left hn1⟩⟩
theorem ZpT (h:NQ n q) {s:ZdF} (hS:Zhv n s) {i c:Nat} (hi:i<n.2.2.1.length) (hc:c< (Zad n i).length): ∃b,F82 n q s (i:Int) (c:Int)=some b∧(b=true↔Opn n q s i c):=by
 obtain⟨e1,e2⟩:=ZeP hi
 have hst:=h.net.stop hi hc
 have hrn:=h.net.sound.runs
 unfold F82
 rw[e1]
 simp only[bind_some,e2]
 rw[Zd4 hc]
 simp only[bind_some]
 rw[ZjV q (Zil.2 hst)]
 simp only[bind_some]
 have e3: (bif !(Zab n i c).2.2.2.1 then some true else some !Zhu n q (Zab n i c).1)=some (!((Zab n i c).2.2.2.1&&Zhu n q (Zab n i c).1)):=by
  cases (Zab n i c).2.2.2.1<;>rfl
 rw[e3]
 simp only[bind_some]
 cases hb: ((Zab n i c).2.2.2.1&&Zhu n q (Zab n i c).1) with
 |false=>
  refine⟨false,rfl, ?_⟩
  simp only[Bool.false_eq_true,false_iff]
  rintro ⟨a,b,_⟩
  rw[a,b] at hb;cases hb
 |true=>
  rw[Bool.and_eq_true] at hb
  simp only[Bool.not_true,cond_false]
  obtain⟨b,b1,b2⟩:=Zom h hi hc
  rw[b1]
  simp only[bind_some]
  cases b with
  |true=>exact⟨true,rfl,by simp only[true_iff];exact⟨hb.1,hb.2, .inl (b2.1 rfl)⟩⟩
  |false=>
   simp only[cond_false]
   have hnb: ¬Beg n q i c:=fun e=>by have:=b2.2 e;cases this
   have hin: ∀k,k<n.2.2.1.length→ ∃r,run (σ:=Int) (τ:=Unit ⊕ Bool) (fun s6:Int=>Option.bind (idx n.2.2.1 (k:Int)) fun x7=>
     bif decide (s6< (↑(List.length x7.2.2.2.2.2.2.2.1):Int)) then
     Option.bind (Option.bind (idx s.2.1 (k:Int)) fun x8=>Option.bind (idx x8 s6) fun x9=>bif x9 then Option.bind (F80 n q (k:Int) s6 (i:Int) (c:Int)) fun x10=>some x10 else some false)
     fun x11=>bif x11 then some (.inr (.inr true)) else some (.inl (IntKind.wrap .i64 (s6+(1:Int))))
     else some (.inr (.inl ()))) (0:Int)=some r∧((r= .inr true∧ ∃d,d< (Zad n k).length∧tt s.2.1 k d∧Chg n q k d i c)∨(r= .inl ()∧ ∀d,d< (Zad n k).length→ ¬ (tt s.2.1 k d∧Chg n q k d i c))):=by
    intro k hk
    obtain⟨e5,e6⟩:=ZeP hk
    have hkl:k<s.2.1.length:=by rw[hS.al];exact hk
    have hcl: (Zad n k).length≤32:=by rw[ZaO hk];exact(h.net.sound.many _ (List.getElem_mem hk)).2
    refine ZsJ (fun d hd=> ?_) (by rw[e5];simp only[bind_some,e6,Zav,cond_false])
    obtain⟨row,b,g1,g2,g3,g4,g5,g6⟩:=Zg3 hkl (hS.ar k) hd
    obtain⟨x,x1,x2⟩:=ZmK h hk hd hi hc
    rw[e5]
    simp only[bind_some,e6,Zay hd,cond_true,g2,g5,Zai hd (show _≤9223372036854775807 by omega)]
    cases b with
    |false=>exact .inr ⟨fun e=>(by have:=g6.2 e.1;cases this),rfl⟩
    |true=>
     simp only[cond_true,x1,bind_some]
     cases x with
     |true=>exact .inl ⟨⟨g6.1 rfl,x2.1 rfl⟩,rfl⟩
     |false=>exact .inr ⟨fun e=>(by have:=x2.2 e.2;cases this),rfl⟩
   have hall:=ZgI (P:= ∃k d,k<n.2.2.1.length∧tt s.2.1 k d∧Chg n q k d i c) (o:=run (σ:=Int) (τ:=Unit ⊕ Bool) (fun s5:Int=>
     bif decide (s5< (↑(List.length n.2.2.1):Int)) then
     Option.bind (run (σ:=Int) (τ:=Unit ⊕ Bool) (fun s6:Int=>Option.bind (idx n.2.2.1 s5) fun x7=>
     bif decide (s6< (↑(List.length x7.2.2.2.2.2.2.2.1):Int)) then
     Option.bind (Option.bind (idx s.2.1 s5) fun x8=>Option.bind (idx x8 s6) fun x9=>bif x9 then Option.bind (F80 n q s5 s6 (i:Int) (c:Int)) fun x10=>some x10 else some false)
     fun x11=>bif x11 then some (.inr (.inr true)) else some (.inl (IntKind.wrap .i64 (s6+(1:Int))))
     else some (.inr (.inl ()))) (0:Int)) fun x12=>Sum.elim (fun _=>some (.inl (IntKind.wrap .i64 (s5+(1:Int))))) (fun y14=>some (.inr (.inr y14))) x12
     else some (.inr (.inl ()))) (0:Int)) (by
     obtain⟨r,r1,r2⟩:=ZsJ (m:=n.2.2.1.length) (P:=fun k=> ∃d,d< (Zad n k).length∧tt s.2.1 k d∧Chg n q k d i c) (y:=true) (step:=fun s5:Int=>
       bif decide (s5< (↑(List.length n.2.2.1):Int)) then
       Option.bind (run (σ:=Int) (τ:=Unit ⊕ Bool) (fun s6:Int=>Option.bind (idx n.2.2.1 s5) fun x7=>
       bif decide (s6< (↑(List.length x7.2.2.2.2.2.2.2.1):Int)) then
       Option.bind (Option.bind (idx s.2.1 s5) fun x8=>Option.bind (idx x8 s6) fun x9=>bif x9 then Option.bind (F80 n q s5 s6 (i:Int) (c:Int)) fun x10=>some x10 else some false)
       fun x11=>bif x11 then some (.inr (.inr true)) else some (.inl (IntKind.wrap .i64 (s6+(1:Int))))
       else some (.inr (.inl ()))) (0:Int)) fun x12=>Sum.elim (fun _=>some (.inl (IntKind.wrap .i64 (s5+(1:Int))))) (fun y14=>some (.inr (.inr y14))) x12
       else some (.inr (.inl ()))) (fun k hk=>by
       obtain⟨r,r1,r2⟩:=hin k hk
       simp only[Zay hk,cond_true,r1,bind_some,Zai hk (show _≤9223372036854775807 by omega)]
       rcases r2 with ⟨rfl,hd⟩ | ⟨rfl,hno⟩
       ·exact .inl ⟨hd,rfl⟩
       ·exact .inr ⟨fun⟨d,d1,d2⟩=>hno d d1 d2,rfl⟩) (by simp only[Zav,cond_false])
     refine⟨r,r1, ?_⟩
     rcases r2 with ⟨e,k,k1,d,d1,d2⟩ | ⟨e,hno⟩
     ·exact .inl ⟨e,k,d,k1,d2⟩
     ·refine .inr ⟨e,fun⟨k,d,k1,d2⟩=>hno k k1 ⟨d, ?_,d2⟩⟩
      obtain⟨row,g1,g2⟩:=d2.1
      have:=(List.getElem?_eq_some_iff.1 g2).1
      rw[hS.ar k row g1] at this
      exact this)
   obtain⟨r,r1,r2⟩:=hall
   exact⟨r,r1,r2.trans ⟨fun e=>⟨hb.1,hb.2, .inr e⟩,fun e=>e.2.2.resolve_left hnb⟩⟩
theorem Zp1 (h:NQ n q) {s:ZdF} (hS:Zhv n s) {i:Nat} (hi:i<n.2.2.1.length): ∃b,F84 n s (i:Int)=some b∧(b=true↔Sty n s i):=by
 have hrn:=h.net.sound.runs
 unfold F84
 have h2: ∀k,k<n.2.2.1.length→2≤(Zad n k).length∧(Zad n k).length≤32:=fun k hk=>by rw[ZaO hk];exact h.net.sound.many _ (List.getElem_mem hk)
 obtain⟨e1,e2⟩:=ZeP hi
 refine ZgI ?_
 have:=ZsJ (m:=n.2.2.1.length) (P:=fun k=>isLink n k ((Zad n k).length - 1) i 0 true∧Abd s k ((Zad n k).length - 1)∧(Zab n k ((Zad n k).length - 1)).2.1≤(Zab n i 0).2.2.1) (y:=true) (step:=fun s0:Int=>
   bif decide (s0< (↑(List.length n.2.2.1):Int)) then
   Option.bind (idx n.2.2.1 s0) fun x1=>
   Option.bind
   (Option.bind (F81 n s0 (IntKind.wrap .i64 ((↑(List.length x1.2.2.2.2.2.2.2.1):Int) - (1:Int))) (i:Int) (0:Int) true) fun x2=>
   bif x2 then
   Option.bind (F77 s s0 (IntKind.wrap .i64 ((↑(List.length x1.2.2.2.2.2.2.2.1):Int) - (1:Int)))) fun x3=>
   bif x3 then
   Option.bind (idx n.2.2.1 (i:Int)) fun x4=>
   Option.bind (idx x4.2.2.2.2.2.2.2.1 (0:Int)) fun x5=>
   Option.bind (idx n.2.2.1 s0) fun x6=>
   Option.bind (idx x6.2.2.2.2.2.2.2.1 (IntKind.wrap .i64 ((↑(List.length x1.2.2.2.2.2.2.2.1):Int) - (1:Int)))) fun x7=>
   some (decide (x7.2.1≤x5.2.2.1))
   else some false
   else some false)
   fun x8=>bif x8 then some (.inr (.inr true)) else some (.inl (IntKind.wrap .i64 (s0+(1:Int))))
   else some (.inr (.inl ()))) (fun k hk=>by
   obtain⟨e3,e4⟩:=ZeP hk
   have hk2:=h2 k hk
   have w1:IntKind.wrap .i64 (((Zad n k).length:Int) - 1)=(((Zad n k).length - 1:Nat):Int):=by rw[Zat (by omega) (by omega)];omega
   simp only[Zay hk,cond_true,e3,bind_some,e4,w1,Zai hk (show _≤9223372036854775807 by omega)]
   obtain⟨r,r1,r2⟩:=ZfX h.net k ((Zad n k).length - 1) i 0 true
   rw[show ((0:Int))=((0:Nat):Int) from rfl,r1]
   simp only[bind_some]
   cases r with
   |false=>exact .inr ⟨fun e=>(by have:=r2.2 e.1;cases this),rfl⟩
   |true=>
    obtain⟨x,x1,x2⟩:=Zjz h hS hk (show (Zad n k).length - 1<_ by omega)
    simp only[cond_true,x1,bind_some]
    cases x with
    |false=>exact .inr ⟨fun e=>(by have:=x2.2 e.2.1;cases this),rfl⟩
    |true=>
     have hi0:=(h2 i hi).1
     simp only[cond_true,e1,bind_some,e2,Zd4 (show 0< (Zad n i).length by omega),Zd4 (show (Zad n k).length - 1< (Zad n k).length by omega)]
     by_cases ht: (Zab n k ((Zad n k).length - 1)).2.1≤(Zab n i 0).2.2.1
     ·rw[decide_eq_true ht];exact .inl ⟨⟨r2.1 rfl,x2.1 rfl,ht⟩,rfl⟩
     ·rw[decide_eq_false ht];exact .inr ⟨fun e=>ht e.2.2,rfl⟩) (by simp only[Zav,cond_false])
 obtain⟨r,r1,r2⟩:=this
 refine⟨r,r1, ?_⟩
 rcases r2 with ⟨e,k,k1,k2⟩ | ⟨e,hno⟩
 ·exact .inl ⟨e,k,k1,k2⟩
 ·exact .inr ⟨e,fun⟨k,k1,k2⟩=>hno k k1 k2⟩
end Q
namespace Q
open Tr Go
open Option (bind_some)
variable {n:ZaJ} {q:Zbp}
def ZdY (l:List Bool):Nat:=l.countP fun b=> !b
def Zju (l:List (List Bool)):Nat:=(l.map ZdY).sum
def Fs (s:ZdF):Nat:=Zju s.1+Zju s.2.1+ZdY s.2.2.1
theorem Zia {l:List Bool} {c:Nat} (h:l[c]? =some false):ZdY (l.set c true)+1=ZdY l:=by
 unfold ZdY
 induction l generalizing c with
 |nil=>simp at h
 |cons a l ih=>
  cases c with
  |zero=>
   simp only[List.getElem?_cons_zero,Option.some.injEq] at h
   subst h
   simp only[List.set_cons_zero,List.countP_cons]
   simp
  |succ c=>
   have:=ih (c:=c) (by simpa using h)
   simp only[List.set_cons_succ,List.countP_cons]
   omega
def Zmi (l:List (List Bool)) (i c:Nat):List (List Bool):=l.modify i fun row=>row.set c true
theorem Zl4 {l:List (List Bool)} {i c:Nat} {row:List Bool} (h:l[i]? =some row) (hc:row[c]? =some false):Zju (Zmi l i c)+1=Zju l:=by
 have hi:=(List.getElem?_eq_some_iff.1 h)
 obtain⟨hil,he⟩:=hi
 have h1:=ZgC ZdY hil (row.set c true)
 have h2:=Zia hc
 unfold Zju Zmi
 rw[Zcc hil,he]
 rw[he] at h1
 omega
theorem ZoZ {l:List (List Bool)} {i c:Nat} {row:List Bool} (h:l[i]? =some row) (hc:c<row.length) {j d:Nat} :tt (Zmi l i c) j d↔tt l j d∨(j=i∧d=c):=by
 unfold tt Zmi
 constructor
 ·rintro ⟨r,h1,h2⟩
  obtain⟨p,hp,⟨rfl,rfl⟩ | ⟨_,rfl⟩⟩:=ZcW h1
  ·rw[List.getElem?_set] at h2
   by_cases e:c=d
   ·exact .inr ⟨rfl,e.symm⟩
   ·rw[if_neg e] at h2
    exact .inl ⟨p,hp,h2⟩
  ·exact .inl ⟨_,hp,h2⟩
 ·rintro (⟨r,h1,h2⟩ | ⟨rfl,rfl⟩)
  ·by_cases e:i=j
   ·subst e
    refine⟨_,ZcR h1 _, ?_⟩
    rw[List.getElem?_set]
    by_cases e:c=d
    ·rw[if_pos e,if_pos (by rw[h] at h1;cases h1;exact hc)]
    ·rw[if_neg e];exact h2
   ·exact⟨r,(Zef e _).trans h1,h2⟩
  ·exact⟨_,ZcR h _,by rw[List.getElem?_set_self hc]⟩
theorem Zi7 {l:List (List Bool)} {i c:Nat} {P:Nat→Nat} (hr: ∀ (j:Nat) row,l[j]? =some row→row.length=P j): ∀ (j:Nat) row,(Zmi l i c)[j]? =some row→row.length=P j:=by
 intro j row h
 obtain⟨p,hp,⟨rfl,rfl⟩ | ⟨_,rfl⟩⟩:=ZcW h
 ·rw[List.length_set];exact hr _ _ hp
 ·exact hr _ _ hp
theorem Zly (l:List (List Bool)) (i c:Nat): (Zmi l i c).length=l.length:=List.length_modify ..
structure ZiB (n:ZaJ) (q:Zbp) (s:ZdF):Prop where
 b: ∀i c,tt s.1 i c→ ∃k js,Der (ZaA n q) q.1 q.2.2.1 (Zcr n q) (.brd k i c false) js
 a: ∀i c,tt s.2.1 i c→(Zab (ZaA n q) i c).2.2.2.2.1=true∧ ∃k js,Der (ZaA n q) q.1 q.2.2.1 (Zcr n q) (.on k i c) js
 s: ∀i,ts s.2.2.1 i→ ∃k js,Der (ZaA n q) q.1 q.2.2.1 (Zcr n q) (.brd k i 0 true) js
theorem Zov {s:ZdF} (hs:ZiB n q s) {i c:Nat} (hc:c< (Zad n i).length) (h:Abd s i c): ∃k js,Der (ZaA n q) q.1 q.2.2.1 (Zcr n q) (.on k i c) js:=by
 have hc' :c< (Zad (ZaA n q) i).length:=by rw[ZfQ];exact hc
 rcases h with ⟨h1,h2⟩ | ⟨b,h1,h2⟩
 ·obtain⟨k,js,d⟩:=hs.s i h2
  exact⟨k,_, .on d h1 hc'⟩
 ·obtain⟨k,js,d⟩:=hs.b i b h2
  exact⟨k,_, .on d h1 hc'⟩
theorem Zq1 (h:NQ n q) {s:ZdF} (hs:ZiB n q s) {i c:Nat} (hi:i<n.2.2.1.length) (hc:c< (Zad n i).length) (hu:Zbj (ZaA n q) i=false) (ho:Opn n q s i c): ∃k js,Der (ZaA n q) q.1 q.2.2.1 (Zcr n q) (.brd k i c false) js:=by
 have hi' :i< (ZaA n q).2.2.1.length:=by rw[Zj8];exact hi
 have hc' :c< (Zad (ZaA n q) i).length:=by rw[ZfQ];exact hc
 obtain⟨h1,h2,h3⟩:=ho
 have ht:=h.net.time hi hc
 have hb: (Zab (ZaA n q) i c).2.2.2.1=true:=by rw[Zbt,h1,h2];rfl
 have e1: (Zab (ZaA n q) i c).1=(Zab n i c).1:=by rw[Zbt]
 have e2: (Zab (ZaA n q) i c).2.2.1=(Zab n i c).2.2.1:=by rw[Zbt]
 rcases h3 with (⟨b1,b2⟩ | ⟨p,p1,p2,p3,p4⟩) | ⟨k,d,hk,hA,hg⟩
 ·exact⟨_,_, .board .init hi' hc' hu (by rw[e1];exact b1) hb (by rw[e2];exact b2)⟩
 ·exact⟨_,_, .board (.rdyW p1 p2 (by omega)) hi' hc' hu (by rw[e1];exact p3.symm) hb (by rw[e2];exact p4)⟩
 ·obtain⟨hal,k',js,dd⟩:=hs.a k d hA
  have e3: (Zab (ZaA n q) k d).1=(Zab n k d).1:=by rw[Zbt]
  have e4: (Zab (ZaA n q) k d).2.1=(Zab n k d).2.1:=by rw[Zbt]
  have dr:=Der.ride dd hal
  rcases hg with ⟨g1,g2| ⟨g2,g3⟩⟩ | ⟨p,p1,p2,p3,p4⟩
  ·exact⟨_,_, .board (.change dr) hi' hc' hu (by rw[e1,e3];exact g1.symm) hb (by rw[e2,e3,e4];exact g2)⟩
  ·exact⟨_,_, .linked (.link dd hal g3 (by rw[e2,e4];exact g2) hb) hu⟩
  ·exact⟨_,_, .board (.rdyV dr p1 (by rw[e3];exact p2) (by rw[e4];omega)) hi' hc' hu (by rw[e1];exact p3.symm) hb (by rw[e2,e4];exact p4)⟩
theorem ZrF {s:ZdF} (hs:ZiB n q s) {i:Nat} (hu:Zbj (ZaA n q) i=false) (h2: ∀k,k<n.2.2.1.length→2≤(Zad n k).length) (h:Sty n s i): ∃k js,Der (ZaA n q) q.1 q.2.2.1 (Zcr n q) (.brd k i 0 true) js:=by
 obtain⟨k,hk,hl,ha,ht⟩:=h
 obtain⟨k',js,d⟩:=Zov hs (show (Zad n k).length - 1< (Zad n k).length by have:=h2 k hk;omega) ha
 have e1: (Zab (ZaA n q) k ((Zad n k).length - 1)).2.1=(Zab n k ((Zad n k).length - 1)).2.1:=by rw[Zbt]
 have e2: (Zab (ZaA n q) i 0).2.2.1=(Zab n i 0).2.2.1:=by rw[Zbt]
 exact⟨k',js, .stay d hl (by rw[e1,e2];exact ht) hu⟩
structure PI (n:ZaJ) (q:Zbp) (s0 s:ZdF) (ag:Bool):Prop where
 shape:Zhv n s
 snd:ZiB n q s
 le:Fs s≤Fs s0
 dec:ag=true→Fs s<Fs s0
 same:ag=false→s=s0
def RCl (n:ZaJ) (q:Zbp) (s:ZdF) (i c:Nat):Prop:=(c+1< (Zad n i).length→Opn n q s i c→tt s.1 i c)∧((Zab n i c).2.2.2.2.1=true→Zhu n q (Zab n i c).1=true→Abd s i c→tt s.2.1 i c)
abbrev Zgr:=List (List Bool) ×List (List Bool) ×List Bool×Unit
theorem ZmU (h:NQ n q) {s0 s:ZdF} {ag:Bool} (hP:PI n q s0 s ag) {i c:Nat} (hi:i<n.2.2.1.length) (hc:c< (Zad n i).length) (hu:Zbj (ZaA n q) i=false) (J:Zgr):
  ∃s' ag',(Option.bind
    (bif decide (IntKind.wrap .i64 ((c:Int)+(1:Int))< (↑(Zad n i).length:Int)) then
    Option.bind (inb (i:Int) (List.length s.1)) fun x13=>
    Option.bind s.1[x13]? fun _=>
    Option.bind (idx s.1 (↑x13:Int)) fun x15=>
    Option.bind (inb (c:Int) (List.length x15)) fun x16=>
    Option.bind (idx s.1 (↑x13:Int)) fun x17=>
    Option.bind x17[x16]? fun x18=>
    bif !x18 then Option.bind (F82 n q s (i:Int) (c:Int)) fun x19=>some x19 else some false
    else some false) fun x20=>
    (bif x20 then
    Option.bind (inb (i:Int) (List.length s.1)) fun x21=>
    Option.bind s.1[x21]? fun _=>
    Option.bind (idx s.1 (↑x21:Int)) fun x23=>
    Option.bind (inb (c:Int) (List.length x23)) fun x24=>
    Option.bind (idx s.1 (↑x21:Int)) fun x25=>
    Option.bind x25[x24]? fun _=>
    some (J,(List.set s.1 (Int.toNat (↑x21:Int)) (List.set x25 x24 true),s.2.1,s.2.2.1,()),true)
    else some (J,s,ag)))=some (J,s',ag')∧PI n q s0 s' ag' ∧(ag' =false→ag=false∧(c+1< (Zad n i).length→Opn n q s i c→tt s.1 i c)):=by
 have hcl: (Zad n i).length≤32:=by rw[ZaO hi];exact(h.net.sound.many _ (List.getElem_mem hi)).2
 have w1:IntKind.wrap .i64 ((c:Int)+1)=((c+1:Nat):Int):=by rw[Zat (by omega) (by omega)];omega
 have hil:i<s.1.length:=by rw[hP.shape.bl];exact hi
 obtain⟨row,b,g1,g2,g3,g4,g5,g6⟩:=Zg3 hil (hP.shape.br i) hc
 have hcr:c<row.length:=by omega
 rw[w1]
 by_cases hlast:c+1< (Zad n i).length
 rotate_left
 ·rw[decide_eq_false (show¬ ((c+1:Nat):Int)< ((Zad n i).length:Int) by omega)]
  exact⟨s,ag,rfl,hP,fun e=>⟨e,fun a=>absurd a hlast⟩⟩
 rw[decide_eq_true (show ((c+1:Nat):Int)< ((Zad n i).length:Int) by omega)]
 simp only[cond_true,ZaQ hil,bind_some,g1,g2,ZaQ hcr,g4]
 cases b with
 |true=>
  refine⟨s,ag,rfl,hP,fun e=>⟨e,fun _ _=>g6.1 rfl⟩⟩
 |false=>
  obtain⟨x,x1,x2⟩:=ZpT h hP.shape hi hc
  simp only[Bool.not_false,cond_true,x1,bind_some]
  cases x with
  |false=>exact⟨s,ag,rfl,hP,fun e=>⟨e,fun _ ho=>by have:=x2.2 ho;cases this⟩⟩
  |true=>
   simp only[cond_true]
   have hset:List.set s.1 (Int.toNat (i:Int)) (List.set row c true)=Zmi s.1 i c:=by
    unfold Zmi
    rw[Zcc hil,Int.toNat_natCast]
    congr 2
    rw[List.getElem?_eq_getElem hil] at g1
    exact(Option.some.inj g1).symm
   rw[hset]
   have hf:=Zl4 g1 g4
   refine⟨_,true,rfl,⟨⟨by rw[Zly];exact hP.shape.bl,Zi7 hP.shape.br,hP.shape.al,hP.shape.ar,hP.shape.sl⟩,⟨fun j d hd=> ?_,hP.snd.a,hP.snd.s⟩, ?_,fun _=> ?_,fun e=>nomatch e⟩,fun e=>nomatch e⟩
   ·rcases (ZoZ g1 hcr).1 hd with hd| ⟨rfl,rfl⟩
    ·exact hP.snd.b j d hd
    ·exact Zq1 h hP.snd hi hc hu (x2.1 rfl)
   ·have:=hP.le
    unfold Fs at this ⊢
    show Zju (Zmi s.1 i c)+Zju s.2.1+ZdY s.2.2.1≤_
    omega
   ·have:=hP.le
    unfold Fs at this ⊢
    show Zju (Zmi s.1 i c)+Zju s.2.1+ZdY s.2.2.1<_
    omega
theorem Zk7 (h:NQ n q) {s0 s:ZdF} {ag:Bool} (hP:PI n q s0 s ag) {i c:Nat} (hi:i<n.2.2.1.length) (hc:c< (Zad n i).length) (J:Zgr) (cc:Int):
  ∃s' ag',(Option.bind
    (Option.bind (inb (i:Int) (List.length s.2.1)) fun x28=>
    Option.bind s.2.1[x28]? fun _=>
    Option.bind (idx s.2.1 (↑x28:Int)) fun x30=>
    Option.bind (inb (c:Int) (List.length x30)) fun x31=>
    Option.bind (idx s.2.1 (↑x28:Int)) fun x32=>
    Option.bind x32[x31]? fun x33=>
    bif !x33 then
    Option.bind (idx (Zad n i) (c:Int)) fun x34=>
    bif x34.2.2.2.2.1 then
    Option.bind (idx (Zad n i) (c:Int)) fun x35=>
    Option.bind (F70 n q x35.1) fun x36=>
    bif x36 then Option.bind (F77 s (i:Int) (c:Int)) fun x37=>some x37 else some false
    else some false
    else some false) fun x38=>
    bif x38 then
    Option.bind (inb (i:Int) (List.length s.2.1)) fun x39=>
    Option.bind s.2.1[x39]? fun _=>
    Option.bind (idx s.2.1 (↑x39:Int)) fun x41=>
    Option.bind (inb (c:Int) (List.length x41)) fun x42=>
    Option.bind (idx s.2.1 (↑x39:Int)) fun x43=>
    Option.bind x43[x42]? fun _=>
    some (.inl (J,(s.1,List.set s.2.1 (Int.toNat (↑x39:Int)) (List.set x43 x42 true),s.2.2.1,()),true,cc))
    else some (.inl (J,s,ag,cc)))=(some (.inl (J,s',ag',cc)):Option ((Zgr×ZdF×Bool×Int) ⊕ (Zgr×ZdF×Bool)))∧PI n q s0 s' ag' ∧(ag' =false→ag=false∧((Zab n i c).2.2.2.2.1=true→Zhu n q (Zab n i c).1=true→Abd s i c→tt s.2.1 i c)):=by
 have hst:=h.net.stop hi hc
 have hil:i<s.2.1.length:=by rw[hP.shape.al];exact hi
 obtain⟨row,b,g1,g2,g3,g4,g5,g6⟩:=Zg3 hil (hP.shape.ar i) hc
 have hcr:c<row.length:=by omega
 simp only[ZaQ hil,bind_some,g1,g2,ZaQ hcr,g4,Zd4 hc]
 cases b with
 |true=>exact⟨s,ag,rfl,hP,fun e=>⟨e,fun _ _ _=>g6.1 rfl⟩⟩
 |false=>
  simp only[Bool.not_false,cond_true]
  cases hal: (Zab n i c).2.2.2.2.1 with
  |false=>exact⟨s,ag,rfl,hP,fun e=>⟨e,fun a=>by cases a⟩⟩
  |true=>
   simp only[cond_true,ZjV q (Zil.2 hst),bind_some]
   cases ho:Zhu n q (Zab n i c).1 with
   |false=>exact⟨s,ag,rfl,hP,fun e=>⟨e,fun _ a=>by cases a⟩⟩
   |true=>
    obtain⟨x,x1,x2⟩:=Zjz h hP.shape hi hc
    simp only[cond_true,x1,bind_some]
    cases x with
    |false=>exact⟨s,ag,rfl,hP,fun e=>⟨e,fun _ _ a=>by have:=x2.2 a;cases this⟩⟩
    |true=>
     simp only[cond_true]
     have hset:List.set s.2.1 (Int.toNat (i:Int)) (List.set row c true)=Zmi s.2.1 i c:=by
      unfold Zmi
      rw[Zcc hil,Int.toNat_natCast]
      congr 2
      rw[List.getElem?_eq_getElem hil] at g1
      exact(Option.some.inj g1).symm
     rw[hset]
     have hf:=Zl4 g1 g4
     refine⟨_,true,rfl,⟨⟨hP.shape.bl,hP.shape.br,by rw[Zly];exact hP.shape.al,Zi7 hP.shape.ar,hP.shape.sl⟩,⟨hP.snd.b,fun j d hd=> ?_,hP.snd.s⟩, ?_,fun _=> ?_,fun e=>nomatch e⟩,fun e=>nomatch e⟩
     ·rcases (ZoZ g1 hcr).1 hd with hd| ⟨rfl,rfl⟩
      ·exact hP.snd.a j d hd
      ·refine⟨by rw[Zbt,hal,ho];rfl,Zov hP.snd hc (x2.1 rfl)⟩
     ·have:=hP.le
      unfold Fs at this ⊢
      show Zju s.1+Zju (Zmi s.2.1 i c)+ZdY s.2.2.1≤_
      omega
     ·have:=hP.le
      unfold Fs at this ⊢
      show Zju s.1+Zju (Zmi s.2.1 i c)+ZdY s.2.2.1<_
      omega
end Q
namespace Q
open Tr Go
open Option (bind_some)
variable {n:ZaJ} {q:Zbp}
noncomputable def Zfq (n:ZaJ) (q:Zbp) (i:Int) (x11:Zhp) (s12:Zgr×ZdF×Bool×Int):Option ((Zgr×ZdF×Bool×Int) ⊕ (Zgr×ZdF×Bool)):=
 bif decide (s12.2.2.2< (↑(List.length x11.2.2.2.2.2.2.2.1):Int)) then
 Option.bind
 (bif decide (IntKind.wrap .i64 (s12.2.2.2+(1:Int))< (↑(List.length x11.2.2.2.2.2.2.2.1):Int)) then
 Option.bind (inb i (List.length s12.2.1.1)) fun x13=>
 Option.bind s12.2.1.1[x13]? fun _=>
 Option.bind (idx s12.2.1.1 (↑x13:Int)) fun x15=>
 Option.bind (inb s12.2.2.2 (List.length x15)) fun x16=>
 Option.bind (idx s12.2.1.1 (↑x13:Int)) fun x17=>
 Option.bind x17[x16]? fun x18=>
 bif !x18 then
 Option.bind (F82 n q s12.2.1 i s12.2.2.2) fun x19=>
 some x19
 else some false
 else some false)
 fun x20=>
 Option.bind
 (bif x20 then
 Option.bind (inb i (List.length s12.2.1.1)) fun x21=>
 Option.bind s12.2.1.1[x21]? fun _=>
 Option.bind (idx s12.2.1.1 (↑x21:Int)) fun x23=>
 Option.bind (inb s12.2.2.2 (List.length x23)) fun x24=>
 Option.bind (idx s12.2.1.1 (↑x21:Int)) fun x25=>
 Option.bind x25[x24]? fun _=>
 some
 (s12.1,
 (List.set s12.2.1.1 (Int.toNat (↑x21:Int)) (List.set x25 x24 true),s12.2.1.2.1,s12.2.1.2.2.1,()),
 true)
 else
 some (s12.1,s12.2.1,s12.2.2.1))
 fun x27=>
 Option.bind
 (Option.bind (inb i (List.length x27.2.1.2.1)) fun x28=>
 Option.bind x27.2.1.2.1[x28]? fun _=>
 Option.bind (idx x27.2.1.2.1 (↑x28:Int)) fun x30=>
 Option.bind (inb s12.2.2.2 (List.length x30)) fun x31=>
 Option.bind (idx x27.2.1.2.1 (↑x28:Int)) fun x32=>
 Option.bind x32[x31]? fun x33=>
 bif !x33 then
 Option.bind (idx x11.2.2.2.2.2.2.2.1 s12.2.2.2) fun x34=>
 bif x34.2.2.2.2.1 then
 Option.bind (idx x11.2.2.2.2.2.2.2.1 s12.2.2.2) fun x35=>
 Option.bind (F70 n q x35.1) fun x36=>
 bif x36 then
 Option.bind (F77 x27.2.1 i s12.2.2.2)
 fun x37=>some x37
 else some false
 else some false
 else some false)
 fun x38=>
 bif x38 then
 Option.bind (inb i (List.length x27.2.1.2.1)) fun x39=>
 Option.bind x27.2.1.2.1[x39]? fun _=>
 Option.bind (idx x27.2.1.2.1 (↑x39:Int)) fun x41=>
 Option.bind (inb s12.2.2.2 (List.length x41)) fun x42=>
 Option.bind (idx x27.2.1.2.1 (↑x39:Int)) fun x43=>
 Option.bind x43[x42]? fun _=>
 some
 (.inl
 (x27.1,
 (x27.2.1.1,List.set x27.2.1.2.1 (Int.toNat (↑x39:Int)) (List.set x43 x42 true),x27.2.1.2.2.1,()),
 true,IntKind.wrap .i64 (s12.2.2.2+(1:Int))))
 else
 some
 (.inl
 (x27.1,x27.2.1,x27.2.2,
 IntKind.wrap .i64 (s12.2.2.2+(1:Int))))
 else
 some
 (.inr (s12.1,s12.2.1,s12.2.2.1))
theorem ZmV (h:NQ n q) {s0 s:ZdF} {ag:Bool} (hP:PI n q s0 s ag) {i:Nat} (hi:i<n.2.2.1.length) (hu:Zbj (ZaA n q) i=false) (J:Zgr):
  ∃s' ag',run (Zfq n q (i:Int) n.2.2.1[i]) (J,s,ag,(0:Int))=some (J,s',ag')∧PI n q s0 s' ag' ∧(ag' =false→ag=false∧ ∀c,c< (Zad n i).length→RCl n q s0 i c):=by
 obtain⟨e1,e2⟩:=ZeP hi
 have hcl: (Zad n i).length≤32:=by rw[ZaO hi];exact(h.net.sound.many _ (List.getElem_mem hi)).2
 have key: ∃r:Zgr×ZdF×Bool,run (Zfq n q (i:Int) n.2.2.1[i]) (J,s,ag,(0:Int))=some r∧r.1=J∧PI n q s0 r.2.1 r.2.2∧(r.2.2=false→ag=false∧ ∀c,c< (Zad n i).length→RCl n q s0 i c):=by
  refine Za3 (Zad n i).length _ (fun c (st:Zgr×ZdF×Bool×Int)=>st.2.2.2=(c:Int)∧st.1=J∧PI n q s0 st.2.1 st.2.2.1∧(st.2.2.1=false→ag=false∧ ∀d,d<c→RCl n q s0 i d)) ?_ ?_ _ ⟨rfl,rfl,hP,fun e=>⟨e,fun d hd=>absurd hd (Nat.not_lt_zero d)⟩⟩
  ·rintro c ⟨J',st,g,j⟩ hc ⟨hj,hJ,hPs,hcl'⟩
   simp only at hj hJ hPs hcl'
   subst hj hJ
   left
   unfold Zfq
   simp only[e2,Zay hc,cond_true,Zai hc (show _≤9223372036854775807 by omega)]
   obtain⟨s1,g1,b1,b2,b3⟩:=ZmU h hPs hi hc hu J'
   obtain⟨s2,g2,a1,a2,a3⟩:=Zk7 h b2 hi hc J' ((c+1:Nat):Int)
   have w1:IntKind.wrap .i64 ((c:Int)+1)=((c+1:Nat):Int):=by rw[Zat (by omega) (by omega)];omega
   rw[w1] at b1
   refine⟨(J',s2,g2,((c+1:Nat):Int)), ?_,rfl,rfl,a2,fun e=> ?_⟩
   ·refine(Option.bind_assoc _ _ _).symm.trans ?_
    rw[w1] at*
    refine(congrArg (fun o=>Option.bind o _) b1).trans ?_
    simp only[bind_some]
    exact a1
   ·obtain⟨e1',f1⟩:=a3 e
    obtain⟨e2',f2⟩:=b3 e1'
    obtain⟨e3',f3⟩:=hcl' e2'
    refine⟨e3',fun d hd=> ?_⟩
    by_cases hdc:d=c
    ·subst hdc
     have q1:=b2.same e1'
     have q2:=hPs.same e2'
     subst q1
     rw[q2] at f2
     exact⟨f2,f1⟩
    ·exact f3 d (by omega)
  ·rintro ⟨J',st,g,j⟩ ⟨hj,hJ,hPs,hcl'⟩
   simp only at hj hJ hPs hcl'
   subst hj hJ
   unfold Zfq
   simp only[e2,Zav,cond_false]
   exact⟨_,rfl,rfl,hPs,hcl'⟩
 obtain⟨⟨J',s',g'⟩,r1,r2,r3,r4⟩:=key
 simp only at r2 r3 r4
 subst r2
 exact⟨s',g',r1,r3,r4⟩
noncomputable def ZfT (n:ZaJ) (q:Zbp) (s2:Zgr×ZdF×Bool×Int):Option ((Zgr×ZdF×Bool×Int) ⊕ (Zgr×ZdF×Bool)):=
 bif decide (s2.2.2.2< (↑(List.length n.2.2.1):Int)) then
 Option.bind (F85 n q s2.2.2.2) fun x3=>
 bif !x3 then
 some
 (.inl
 (s2.1,s2.2.1,s2.2.2.1,
 IntKind.wrap .i64 (s2.2.2.2+(1:Int))))
 else
 Option.bind
 (Option.bind (inb s2.2.2.2 (List.length s2.2.1.2.2.1)) fun x4=>
 Option.bind s2.2.1.2.2.1[x4]? fun x5=>
 bif !x5 then Option.bind (F84 n s2.2.1 s2.2.2.2) fun x6=>some x6
 else some false)
 fun x7=>
 Option.bind
 (bif x7 then
 Option.bind (inb s2.2.2.2 (List.length s2.2.1.2.2.1)) fun x8=>
 Option.bind s2.2.1.2.2.1[x8]? fun _=>
 some (s2.1,(s2.2.1.1,s2.2.1.2.1,List.set s2.2.1.2.2.1 x8 true,()),true)
 else some (s2.1,s2.2.1,s2.2.2.1))
 fun x10=>
 Option.bind (idx n.2.2.1 s2.2.2.2) fun x11=>
 Option.bind
 (run (Zfq n q s2.2.2.2 x11)
 (x10.1,x10.2.1,x10.2.2,(0:Int)))
 fun x45=>
 some
 (.inl
 (x45.1,x45.2.1,x45.2.2,
 IntKind.wrap .i64 (s2.2.2.2+(1:Int))))
 else some (.inr (s2.1,s2.2.1,s2.2.2.1))
def ZkS (n:ZaJ) (q:Zbp) (s:ZdF) (i:Nat):Prop:=Zbj (ZaA n q) i=false→(Sty n s i→ts s.2.2.1 i)∧ ∀c,c< (Zad n i).length→RCl n q s i c
theorem Zjj (h:NQ n q) {s0:ZdF} (hS:Zhv n s0) (hD:ZiB n q s0) (J:Zgr): ∃s' ag',run (ZfT n q) (J,s0,false,(0:Int))=some (J,s',ag')∧PI n q s0 s' ag' ∧(ag' =false→ ∀i,i<n.2.2.1.length→ZkS n q s0 i):=by
 have hrn:=h.net.sound.runs
 have h2: ∀k,k<n.2.2.1.length→2≤(Zad n k).length:=fun k hk=>by rw[ZaO hk];exact(h.net.sound.many _ (List.getElem_mem hk)).1
 have key: ∃r:Zgr×ZdF×Bool,run (ZfT n q) (J,s0,false,(0:Int))=some r∧r.1=J∧PI n q s0 r.2.1 r.2.2∧(r.2.2=false→ ∀i,i<n.2.2.1.length→ZkS n q s0 i):=by
  refine Za3 n.2.2.1.length _ (fun i (st:Zgr×ZdF×Bool×Int)=>st.2.2.2=(i:Int)∧st.1=J∧PI n q s0 st.2.1 st.2.2.1∧(st.2.2.1=false→ ∀j,j<i→ZkS n q s0 j)) ?_ ?_ _ ⟨rfl,rfl,⟨hS,hD,Nat.le_refl _,fun e=>(nomatch e),fun _=>rfl⟩,fun _ j hj=>absurd hj (Nat.not_lt_zero j)⟩
  ·rintro i ⟨J',st,g,j⟩ hi ⟨hj,hJ,hP,hcl⟩
   simp only at hj hJ hP hcl
   subst hj hJ
   left
   unfold ZfT
   simp only[Zay hi,cond_true,ZjS h.net.sound h.mode hi,bind_some,Zai hi (show _≤9223372036854775807 by omega)]
   have hcu:=ZsO (q:=q) hi
   cases huse:Zq2 n q n.2.2.1[i] with
   |false=>
    rw[huse] at hcu
    refine⟨_,rfl,rfl,rfl,hP,fun e k hk=> ?_⟩
    by_cases hki:k=i
    ·subst hki
     intro hcn
     rw[hcu] at hcn
     cases hcn
    ·exact hcl e k (by omega)
   |true=>
    rw[huse] at hcu
    have hu:Zbj (ZaA n q) i=false:=hcu
    simp only[Bool.not_true,cond_false]
    have hsl:i<st.2.2.1.length:=by rw[hP.shape.sl];exact hi
    simp only[ZaQ hsl,bind_some,List.getElem?_eq_getElem hsl]
    have hstay: ∃s' g',(Option.bind (bif !st.2.2.1[i] then Option.bind (F84 n st (i:Int)) fun x6=>some x6 else some false) fun x7=>
      (bif x7 then some (J',(st.1,st.2.1,List.set st.2.2.1 i true,()),true) else some (J',st,g)))=some (J',s',g')∧PI n q s0 s' g' ∧(g' =false→g=false∧(Sty n st i→ts st.2.2.1 i)):=by
     cases hb:st.2.2.1[i] with
     |true=>
      refine⟨st,g,rfl,hP,fun e=>⟨e,fun _=> ?_⟩⟩
      unfold ts
      rw[List.getElem?_eq_getElem hsl,hb]
     |false=>
      obtain⟨x,x1,x2⟩:=Zp1 h hP.shape hi
      simp only[Bool.not_false,cond_true,x1,bind_some]
      cases x with
      |false=>exact⟨st,g,rfl,hP,fun e=>⟨e,fun a=>by have:=x2.2 a;cases this⟩⟩
      |true=>
       simp only[cond_true]
       have hf:=Zia (l:=st.2.2.1) (c:=i) (by rw[List.getElem?_eq_getElem hsl,hb])
       refine⟨_,true,rfl,⟨⟨hP.shape.bl,hP.shape.br,hP.shape.al,hP.shape.ar,by show (st.2.2.1.set i true).length=_;rw[List.length_set];exact hP.shape.sl⟩,⟨hP.snd.b,hP.snd.a,fun k hk=> ?_⟩, ?_,fun _=> ?_,fun e=>nomatch e⟩,fun e=>nomatch e⟩
       ·rcases Zfb (show (st.2.2.1.set i true)[k]? =some true from hk) with ⟨rfl,_⟩ |hk
        ·exact ZrF hP.snd hu h2 (x2.1 rfl)
        ·exact hP.snd.s k hk
       ·have:=hP.le
        unfold Fs at this ⊢
        show Zju st.1+Zju st.2.1+ZdY (st.2.2.1.set i true)≤_
        omega
       ·have:=hP.le
        unfold Fs at this ⊢
        show Zju st.1+Zju st.2.1+ZdY (st.2.2.1.set i true)<_
        omega
    obtain⟨s1,g1,t1,t2,t3⟩:=hstay
    obtain⟨s2,g2,c1,c2,c3⟩:=ZmV h t2 hi hu J'
    refine⟨(J',s2,g2,((i+1:Nat):Int)), ?_,rfl,rfl,c2,fun e=> ?_⟩
    ·refine(Option.bind_assoc _ _ _).symm.trans ?_
     refine(congrArg (fun o=>Option.bind o _) t1).trans ?_
     simp only[bind_some,Zah hi,c1]
    ·obtain⟨e1,f1⟩:=c3 e
     obtain⟨e2,f2⟩:=t3 e1
     intro k hk
     by_cases hki:k=i
     ·subst hki
      have q2:=hP.same e2
      rw[q2] at f2
      exact fun _=>⟨f2,f1⟩
     ·exact hcl e2 k (by omega)
  ·rintro ⟨J',st,g,j⟩ ⟨hj,hJ,hP,hcl⟩
   simp only at hj hJ hP hcl
   subst hj hJ
   unfold ZfT
   simp only[Zav,cond_false]
   exact⟨_,rfl,rfl,hP,hcl⟩
 obtain⟨⟨J',s',g'⟩,r1,r2,r3,r4⟩:=key
 simp only at r2 r3 r4
 subst r2
 exact⟨s',g',r1,r3,r4⟩
theorem ZmT (h:NQ n q): ∃s,F83 n=some s∧Zhv n s∧ZiB n q s:=by
 have hrn:=h.net.sound.runs
 have hmx: (Zas:Int)=4294967296:=by simp [Zas]
 unfold F83
 have hg0: ∀m:Nat,m≤4096→Zaq (decide ((0:Int)≤(m:Int)∧(m:Int)≤(m:Int)∧(m:Int)≤(Zas:Int)))=some ():=fun m hm=>by
  rw[decide_eq_true (by rw[hmx];omega)];rfl
 refine bex (fun _=>True) ⟨(),hg0 _ (by omega),trivial⟩ fun _ _=> ?_
 refine bex (fun r:Zgr×ZdF=>Zhv n r.2∧(∀i c, ¬tt r.2.1 i c)∧(∀i c, ¬tt r.2.2.1 i c)∧ ∀i, ¬ts r.2.2.2.1 i) ?_ (fun r hr=>⟨_,rfl,hr.1,⟨fun i c e=>absurd e (hr.2.1 i c),fun i c e=>absurd e (hr.2.2.1 i c),fun i e=>absurd e (hr.2.2.2 i)⟩⟩)
 have hrep: ∀ (m i:Nat), ¬ts (List.replicate m false) i:=fun m i e=>by
  have:=List.eq_of_mem_replicate (List.mem_of_getElem? (show (List.replicate m false)[i]? =some true from e))
  cases this
 refine Za3 n.2.2.1.length _ (fun i (st:Zgr×ZdF×Int)=>st.2.2=(i:Int)∧st.2.1.1=(List.range i).map (fun j=>List.replicate (Zad n j).length false)∧st.2.1.2.1=(List.range i).map (fun j=>List.replicate (Zad n j).length false)∧st.2.1.2.2.1=List.replicate n.2.2.1.length false) ?_ ?_ _ ⟨rfl,rfl,rfl,by simp⟩
 ·rintro i ⟨J,⟨B,A,S,u⟩,j⟩ hi ⟨hj,hB,hA,hSs⟩
  simp only at hj hB hA hSs
  subst hj hB hA hSs
  left
  have e2:=(ZeP hi).2
  have hc: (Zad n i).length≤4096:=by rw[ZaO hi];have:=(h.net.sound.many _ (List.getElem_mem hi)).2;omega
  have hg1:Zaq (decide (List.length ((List.range i).map fun j=>List.replicate (Zad n j).length false)+List.length [List.replicate (Zad n i).length false]≤Zas))=some ():=Za7 (by simp;omega)
  simp only[Zay hi,cond_true,Zah hi,bind_some,e2,hg0 _ hc,hg1,Zai hi (show _≤9223372036854775807 by omega),Int.toNat_natCast]
  refine⟨_,rfl,rfl, ?_, ?_,rfl⟩
  ·simp [List.range_succ]
  ·simp [List.range_succ]
 ·rintro ⟨J,⟨B,A,S,u⟩,j⟩ ⟨hj,hB,hA,hSs⟩
  simp only at hj hB hA hSs
  subst hj hB hA hSs
  simp only[Zav,cond_false]
  have hrows: ∀ (i:Nat) row,((List.range n.2.2.1.length).map fun j=>List.replicate (Zad n j).length false)[i]? =some row→row=List.replicate (Zad n i).length false:=by
   intro i row e
   rw[List.getElem?_map] at e
   by_cases hi:i<n.2.2.1.length
   ·rw[List.getElem?_eq_getElem (by simpa using hi)] at e
    simp at e
    exact e.symm
   ·rw[List.getElem?_eq_none (by simpa using hi)] at e
    cases e
  have hno: ∀i c, ¬tt ((List.range n.2.2.1.length).map fun j=>List.replicate (Zad n j).length false) i c:=by
   rintro i c ⟨row,e1,e2⟩
   rw[hrows i row e1] at e2
   exact hrep _ c e2
  exact⟨_,rfl,⟨by simp,fun i row e=>(by rw[hrows i row e];simp),by simp,fun i row e=>(by rw[hrows i row e];simp),by simp⟩,hno,hno,hrep _⟩
theorem ZkM (h:NQ n q): ∃s,F75 n q=some s∧Zhv n s∧ZiB n q s∧ ∀i,i<n.2.2.1.length→ZkS n q s i:=by
 obtain⟨s0,s1,s2,s3⟩:=ZmT h
 unfold F75
 rw[s1]
 simp only[bind_some]
 have loop: ∀ (k:Nat) (J:Zgr) (s:ZdF) (ag:Bool),Fs s≤k→Zhv n s→ZiB n q s→(ag=false→ ∀i,i<n.2.2.1.length→ZkS n q s i)→ ∃r:Zgr×ZdF,run (fun s1:Zgr×ZdF×Bool=>
   bif s1.2.2 then
   Option.bind (run (ZfT n q) (s1.1,s1.2.1,false,(0:Int))) fun x46=>some (.inl (x46.1,x46.2.1,x46.2.2))
   else some (.inr (s1.1,s1.2.1.1,s1.2.1.2.1,s1.2.1.2.2.1,()))) (J,s,ag)=some r∧Zhv n r.2∧ZiB n q r.2∧ ∀i,i<n.2.2.1.length→ZkS n q r.2 i:=by
  intro k
  induction k with
  |zero=>
   intro J s ag hk hS hD hcl
   cases ag with
   |false=>exact⟨_,Zbn rfl,hS,hD,hcl rfl⟩
   |true=>
    obtain⟨s',g',r1,r2,r3⟩:=Zjj h hS hD J
    have hg:g' =false:=by
     cases g' with
     |false=>rfl
     |true=>have:=r2.dec rfl;omega
    subst hg
    refine⟨(J,s'), ?_,r2.shape,r2.snd, ?_⟩
    ·refine(Zb7 (s' :=(J,s',false)) ?_).trans (Zbn rfl)
     simp only[cond_true,r1,bind_some]
    ·rw[r2.same rfl];exact r3 rfl
  |succ k ih=>
   intro J s ag hk hS hD hcl
   cases ag with
   |false=>exact⟨_,Zbn rfl,hS,hD,hcl rfl⟩
   |true=>
    obtain⟨s',g',r1,r2,r3⟩:=Zjj h hS hD J
    have hst: (fun s1:Zgr×ZdF×Bool=>
      bif s1.2.2 then
      Option.bind (run (ZfT n q) (s1.1,s1.2.1,false,(0:Int))) fun x46=>some (.inl (x46.1,x46.2.1,x46.2.2))
      else some (.inr (s1.1,s1.2.1.1,s1.2.1.2.1,s1.2.1.2.2.1,()))) (J,s,true)=(some (.inl (J,s',g')):Option ((Zgr×ZdF×Bool) ⊕ (Zgr×ZdF))):=by
     simp only[cond_true,r1,bind_some]
    rw[Zb7 hst]
    cases g' with
    |false=>
     refine⟨(J,s'),Zbn rfl,r2.shape,r2.snd, ?_⟩
     rw[r2.same rfl];exact r3 rfl
    |true=>
     have:=r2.dec rfl
     exact ih J s' true (by omega) r2.shape r2.snd (fun e=>nomatch e)
 obtain⟨r,r1,r2,r3,r4⟩:=loop (Fs s0) (([]:List (List Bool)),([]:List (List Bool)),([]:List Bool),()) s0 true (Nat.le_refl _) s2 s3 (fun e=>nomatch e)
 refine bex (fun x=>x=r) ⟨_,r1,rfl⟩ fun x hx=>⟨r.2,by rw[hx],r2,r3,r4⟩
end Q
namespace Q
open Tr Go
open Option (bind_some)
variable {n:ZaJ} {q:Zbp}
theorem Zf1 (_:NQ n q) (C:Ctx (ZaA n q) q.1 q.2.2.1 (Zcr n q)) {s:ZdF} (hcl: ∀i,i<n.2.2.1.length→ZkS n q s i) {f:Zni} {js:List Zc0} (d:Der (ZaA n q) q.1 q.2.2.1 (Zcr n q) f js):match f with
  | .rdy _ x r=> ∀i c,(Zab (ZaA n q) i c).2.2.2.1=true→(Zab (ZaA n q) i c).1=x→r≤(Zab (ZaA n q) i c).2.2.1→Opn n q s i c
  | .brd _ i c st=>c+1< (Zad n i).length→(st=false→tt s.1 i c)∧(st=true→c=0∧ts s.2.2.1 i)
  | .lnk _ i c=>Zbj (ZaA n q) i=false→c+1< (Zad n i).length→tt s.1 i c
  | .on _ i c=>Abd s i c
  | .rid _ x t=> ∃k d,k<n.2.2.1.length∧d< (Zad n k).length∧tt s.2.1 k d∧(Zab n k d).1=x∧(Zab n k d).2.1=t
  | .arr _ _ _=>True:=by
 have hbd: ∀i c,(Zab (ZaA n q) i c).2.2.2.1=true→(Zab n i c).2.2.2.1=true∧Zhu n q (Zab n i c).1=true:=by
  intro i c e
  rw[Zbt] at e
  exact(Bool.and_eq_true _ _).mp e
 have hal: ∀i c,(Zab (ZaA n q) i c).2.2.2.2.1=true→(Zab n i c).2.2.2.2.1=true∧Zhu n q (Zab n i c).1=true:=by
  intro i c e
  rw[Zbt] at e
  exact(Bool.and_eq_true _ _).mp e
 have e1: ∀i c,(Zab (ZaA n q) i c).1=(Zab n i c).1:=fun i c=>by rw[Zbt]
 have e2: ∀i c,(Zab (ZaA n q) i c).2.1=(Zab n i c).2.1:=fun i c=>by rw[Zbt]
 have e3: ∀i c,(Zab (ZaA n q) i c).2.2.1=(Zab n i c).2.2.1:=fun i c=>by rw[Zbt]
 have rl:=Zj8 n q
 have cll:=ZfQ n q
 induction d with
 |init=>
  intro i c hb hs hr
  rw[e1] at hs
  rw[e3] at hr
  exact⟨(hbd i c hb).1,(hbd i c hb).2, .inl (.inl ⟨hs,hr⟩)⟩
 |here=>trivial
 | @rdyW p h1 h2 h3=>
  intro i c hb hs hr
  rw[e1] at hs
  rw[e3] at hr
  exact⟨(hbd i c hb).1,(hbd i c hb).2, .inl (.inr ⟨p,h1,h2,hs.symm,hr⟩)⟩
 |arrW=>trivial
 | @board k x r js i c d h1 h2 h3 h4 h5 h6 ih=>
  intro hlast
  refine⟨fun _=> ?_,fun e=>nomatch e⟩
  have ho:=ih i c h5 h4 h6
  exact((hcl i (by rw[←rl];exact h1) h3).2 c (by omega)).1 hlast ho
 | @on k i b c st js d h1 h2 ih=>
  rw[cll] at h2
  have:=ih (by omega)
  cases st with
  |false=>exact .inr ⟨b,h1,this.1 rfl⟩
  |true=>exact .inl ⟨by omega,(this.2 rfl).2⟩
 | @stay k i c j dd js d h1 h2 h3 ih=>
  intro _
  refine⟨(fun e=>nomatch e),fun _=> ?_⟩
  obtain⟨a1,a2,a3,a4,a5,a6,a7⟩:=C.net.isLink h1
  obtain⟨b1,b2⟩:=a7 rfl
  subst b2
  rw[rl] at a1 a2
  rw[cll] at b1
  have hc:c=(Zad n i).length - 1:=by omega
  refine⟨rfl,(hcl j a2 h3).1 ⟨i,a1, ?_, ?_, ?_⟩⟩
  ·rw[←hc];exact h1
  ·rw[←hc];exact ih
  ·rw[←hc]
   rw[e2,e3] at h2
   exact h2
 | @link k i c j dd js d h1 h2 h3 h4 ih=>
  intro hcn hlast
  obtain⟨a1,a2,a3,a4,a5,a6,a7⟩:=C.net.isLink h2
  rw[rl] at a1 a2
  rw[cll] at a4 a5
  have hok:=C.ok d
  have hA:tt s.2.1 i c:=((hcl i a1 hok.2.2.2).2 c a4).2 (hal i c h1).1 (hal i c h1).2 ih
  have ho:Opn n q s j dd:=by
   refine⟨(hbd j dd h4).1,(hbd j dd h4).2, .inr ⟨i,c,a1,hA, .inl ⟨?_, .inr ⟨?_,h2⟩⟩⟩⟩
   ·rw[e1,e1] at a6;exact a6
   ·rw[e2,e3] at h3;exact h3
  exact((hcl j a2 hcn).2 dd (by omega)).1 hlast ho
 |linked d h1 ih=>exact fun hl=>⟨fun _=>ih h1 hl,fun e=>nomatch e⟩
 | @ride k i c js d h1 ih=>
  have hok:=C.ok d
  have hi:i<n.2.2.1.length:=by rw[←rl];exact hok.2.1
  have hc:c< (Zad n i).length:=by rw[←cll];exact hok.2.2.1
  refine⟨i,c,hi,hc,((hcl i hi hok.2.2.2).2 c hc).2 (hal i c h1).1 (hal i c h1).2 ih,(e1 i c).symm,(e2 i c).symm⟩
 |change d ih=>
  obtain⟨k',d',g1,g2,g3,g4,g5⟩:=ih
  intro i c hb hs hr
  rw[e1] at hs
  rw[e3] at hr
  refine⟨(hbd i c hb).1,(hbd i c hb).2, .inr ⟨k',d',g1,g3, .inl ⟨by rw[g4,hs], .inl ?_⟩⟩⟩
  rw[g4,g5]
  exact hr
 | @rdyV k x t js p d h1 h2 h3 ih=>
  obtain⟨k',d',g1,g2,g3,g4,g5⟩:=ih
  intro i c hb hs hr
  rw[e1] at hs
  rw[e3] at hr
  refine⟨(hbd i c hb).1,(hbd i c hb).2, .inr ⟨k',d',g1,g3, .inr ⟨p,h1,by rw[g4,h2],hs.symm, ?_⟩⟩⟩
  rw[g5];exact hr
 |arrR=>trivial
 |arrV=>trivial
def LeO (l:List Int) (s:Nat) (t:Int):Prop:= ∃v,l[s]? =some v∧v≠ -1∧v≤t
structure OI (n:ZaJ) (q:Zbp) (l:List Int):Prop where
 len:l.length=n.1.length
 val: ∀ (s:Nat) v,l[s]? =some v→v= -1∨(0≤v∧ ∃k js,Der (ZaA n q) q.1 q.2.2.1 (Zcr n q) (.arr k (s:Int) v) js)
theorem ZmG (a b:Int): ∃r:Int,F79 a b=some r∧(r=a∨r=b∧b≤3155932800)∧(0≤b→b≤3155932800→r≠ -1∧r≤b)∧((a= -1∨0≤a)→0≤b→ ∀t,a≠ -1→a≤t→r≠ -1∧r≤t):=by
 unfold F79
 by_cases h1:3155932800<b
 ·rw[decide_eq_true h1]
  exact⟨a,rfl, .inl rfl,fun _ h=>by omega,fun _ _ t h h' =>⟨h,h'⟩⟩
 ·rw[decide_eq_false h1]
  by_cases h2:0≤a
  ·rw[decide_eq_true h2]
   by_cases h3:a≤b
   ·rw[decide_eq_true h3]
    exact⟨a,rfl, .inl rfl,fun _ _=>⟨by omega,h3⟩,fun _ _ t h h' =>⟨h,h'⟩⟩
   ·rw[decide_eq_false h3]
    exact⟨b,rfl, .inr ⟨rfl,by omega⟩,fun _ _=>⟨by omega,Int.le_refl _⟩,fun _ _ t h h' =>⟨by omega,by omega⟩⟩
  ·rw[decide_eq_false h2]
   exact⟨b,rfl, .inr ⟨rfl,by omega⟩,fun _ _=>⟨by omega,Int.le_refl _⟩,fun e _ t h h' =>by omega⟩
theorem ZqS {l:List Int} (hO:OI n q l) {s:Nat} (hs:s<n.1.length) {b:Int} (hb:0≤b) (hd:b≤3155932800→ ∃k js,Der (ZaA n q) q.1 q.2.2.1 (Zcr n q) (.arr k (s:Int) b) js):
  ∃r,F79 (l[s]'(by rw[hO.len];exact hs)) b=some r∧OI n q (l.set s r)∧(∀x t,LeO l x t→LeO (l.set s r) x t)∧(b≤3155932800→LeO (l.set s r) s b):=by
 have hl:s<l.length:=by rw[hO.len];exact hs
 obtain⟨r,r1,r2,r3,r4⟩:=ZmG (l[s]) b
 have hv:=hO.val s _ (List.getElem?_eq_getElem hl)
 have hv' :l[s]= -1∨0≤l[s]:=hv.imp id fun e=>e.1
 refine⟨r,r1,⟨by rw[List.length_set];exact hO.len,fun x v hx=> ?_⟩,fun x t hx=> ?_,fun hm=>⟨r,List.getElem?_set_self hl,r3 hb hm⟩⟩
 ·rcases Zfb hx with ⟨rfl,rfl⟩ |hx
  ·rcases r2 with e| ⟨e,em⟩
   ·rw[e];exact hv
   ·rw[e];exact .inr ⟨hb,hd em⟩
  ·exact hO.val x v hx
 ·obtain⟨v,v1,v2,v3⟩:=hx
  by_cases e:s=x
  ·subst e
   rw[List.getElem?_eq_getElem hl] at v1
   cases v1
   exact⟨r,List.getElem?_set_self hl,r4 hv' hb t v2 v3⟩
  ·exact⟨v,by rw[List.getElem?_set_ne e];exact v1,v2,v3⟩
theorem Zls      (h : NQ n q) {l : List Int} (hO : OI n q l) {x t : Int} (ht : 0 ≤ t ∧ t ≤ 3155932800) (hD : ∀ p ∈ Zbh    n q, p.1 = x → t + p.2.2.1 ≤ 3155932800 → ∃ k js, Der (ZaA    n q) q.1 q.2.2.1 (Zcr   n q) (.arr k p.2.1 (t + p.2.2.1)) js) :
    ∃ l', run (fun s6 : List Int × Int =>
       bif decide (s6.2 < (↑(List.length n.1) : Int)) then
       Option.bind (F86 n q x s6.2) fun x7 =>
       bif x7.2 then
       Option.bind (inb s6.2 (List.length s6.1)) fun x8 =>
       Option.bind s6.1[x8]? fun x9 =>
       Option.bind (F79 x9 (IntKind.wrap .i64 (t + x7.1))) fun x10 =>
       Option.bind (inb s6.2 (List.length s6.1)) fun x11 =>
       Option.bind s6.1[x11]? fun _ => some (.inl (List.set s6.1 x11 x10, IntKind.wrap .i64 (s6.2 + (1 : Int))))
       else some (.inl (s6.1, IntKind.wrap .i64 (s6.2 + (1 : Int))))
       else some (.inr s6.1)) (l, (0 : Int)) = some l' ∧ OI n q l' ∧ (∀ y u, LeO l y u → LeO l' y u) ∧ ∀ p ∈ Zbh    n q, p.1 = x → t + p.2.2.1 ≤ 3155932800 → LeO l' p.2.1.toNat (t + p.2.2.1) := by
  have hst := h.net.sound.stops
  have key : ∃ l', run (fun s6 : List Int × Int =>
       bif decide (s6.2 < (↑(List.length n.1) : Int)) then
       Option.bind (F86 n q x s6.2) fun x7 =>
       bif x7.2 then
       Option.bind (inb s6.2 (List.length s6.1)) fun x8 =>
       Option.bind s6.1[x8]? fun x9 =>
       Option.bind (F79 x9 (IntKind.wrap .i64 (t + x7.1))) fun x10 =>
       Option.bind (inb s6.2 (List.length s6.1)) fun x11 =>
       Option.bind s6.1[x11]? fun _ => some (.inl (List.set s6.1 x11 x10, IntKind.wrap .i64 (s6.2 + (1 : Int))))
       else some (.inl (s6.1, IntKind.wrap .i64 (s6.2 + (1 : Int))))
       else some (.inr s6.1)) (l, (0 : Int)) = some l' ∧ OI n q l' ∧ (∀ y u, LeO l y u → LeO l' y u) ∧ ∀ p ∈ Zbh    n q, p.1 = x → t + p.2.2.1 ≤ 3155932800 → p.2.1 < (n.1.length : Int) → LeO l' p.2.1.toNat (t + p.2.2.1) := by
    refine Za3     n.1.length _ (fun i (st : List Int × Int) => st.2 = (i : Int) ∧ OI n q st.1 ∧ (∀ y u, LeO l y u → LeO st.1 y u) ∧ ∀ p ∈ Zbh    n q, p.1 = x → t + p.2.2.1 ≤ 3155932800 → p.2.1 < (i : Int) → LeO st.1 p.2.1.toNat (t + p.2.2.1)) ?_ ?_ _ ⟨rfl, hO, fun _ _ e => e, fun p hp _ _ e => by have := h.net.path p (ZbS.1 hp).1; omega⟩
    · rintro i ⟨l1, j⟩ hi ⟨hj, h1, h2, h3⟩
      simp only at hj h1 h2 h3
      subst hj
      left
      have hil : i < l1.length := by rw [h1.len]; exact hi
      obtain ⟨v, v1, v2⟩ := ZeR         (q := q) h.paths (fun p hp => by have := h.net.path p hp; omega) x (i : Int)
      simp only [Zay    hi, cond_true, v1, bind_some, Zai       hi (show _ ≤ 9223372036854775807 by omega)]
      rcases v2 with ⟨rfl, hno⟩ | ⟨⟨p, p1, p2, p3, p4⟩, h0, hmin⟩
      · refine ⟨_, rfl, rfl, h1, h2, fun p hp a b c => ?_⟩
        by_cases e : p.2.1 = (i : Int)
        · exact (hno p hp a e).elim
        · exact h3 p hp a b (by omega)
      · have hpp := ZgV     h p1
        rw [decide_eq_true h0]
        have w1 : IntKind.wrap .i64 (t + v) = t + v := Zat      (by omega) (by omega)
        obtain ⟨r, r1, r2, r3, r4⟩ := ZqS    h1 hi (b := t + v) (by omega) (fun hm => by
          obtain ⟨k, js, d⟩ := hD p p1 p2 (by omega)
          rw [p3, p4] at d
          exact ⟨k, js, d⟩)
        simp only [cond_true, ZaQ     hil, bind_some, List.getElem?_eq_getElem hil, w1, r1]
        refine ⟨_, rfl, rfl, r2, fun y u e => r3 y u (h2 y u e), fun p' hp' a b c => ?_⟩
        by_cases e : p'.2.1 = (i : Int)
        · have hm := hmin p' hp' a e
          obtain ⟨z, z1, z2, z3⟩ := r4 (by omega)
          exact ⟨z, by rw [e, Int.toNat_natCast]; exact z1, z2, by omega⟩
        · exact r3 _ _ (h3 p' hp' a b (by omega))
    · rintro ⟨l1, j⟩ ⟨hj, h1, h2, h3⟩
      simp only at hj h1 h2 h3
      subst hj
      simp only [Zav    , cond_false]
      exact ⟨_, rfl, h1, h2, h3⟩
  obtain ⟨l', a1, a2, a3, a4⟩ := key
  exact ⟨l', a1, a2, a3, fun p hp a b => a4 p hp a b (by have := h.net.path p (ZbS.1 hp).1; omega)⟩
end Q
namespace Q
open Tr Go
open Option (bind_some)
variable {n:ZaJ} {q:Zbp}
theorem Zn7 (hfit:Fit n) (h:NQ n q) (hchk:ZjG n q=0) (C:Ctx (ZaA n q) q.1 q.2.2.1 (Zcr n q)): ∃out,F73 n q=some (out,0)∧OI n q out∧ ∀ {k:Nat} {s t:Int} {js:List Zc0},Der (ZaA n q) q.1 q.2.2.1 (Zcr n q) (.arr k s t) js→LeO out s.toNat t:=by
 have hst:=h.net.sound.stops
 have hrn:=h.net.sound.runs
 have htm:=h.time
 suffices hsuf: ∃z:List Int×Int,F73 n q=some z∧z.2=0∧OI n q z.1∧ ∀ {k:Nat} {s t:Int} {js:List Zc0},Der (ZaA n q) q.1 q.2.2.1 (Zcr n q) (.arr k s t) js→LeO z.1 s.toNat t by
  obtain⟨⟨out,e⟩,h1,h2,h3,h4⟩:=hsuf
  simp only at h2
  subst h2
  exact⟨out,h1,h3,h4⟩
 unfold F73
 rw[Zf3 hfit,hchk]
 simp only[bind_some,decide_true,Bool.not_true,cond_false]
 refine bex (fun r:List Int=>r=List.replicate n.1.length (-1)) ?_ ?_
 ·refine Za3 n.1.length _ (fun i (st:List Int×Int)=>st=(List.replicate i (-1),(i:Int))) ?_ ?_ _ rfl
  ·rintro i _ hi rfl
   left
   have hg:Zaq (decide (List.length (List.replicate i (-1:Int))+List.length [(-1:Int)]≤Zas))=some ():=Za7 (by simp;omega)
   simp only[Zay hi,cond_true,Zai hi (show _≤9223372036854775807 by omega)]
   erw[hg]
   simp only[bind_some]
   exact⟨_,rfl,by rw[List.replicate_succ']⟩
  ·rintro _ rfl
   simp only[Zav,cond_false]
   exact⟨_,rfl,rfl⟩
 intro l0 hl0
 obtain⟨a,ha⟩: ∃a:Nat,q.1=(a:Int):=⟨q.1.toNat,by have:=h.stop;omega⟩
 have hal:a<n.1.length:=by have:=h.stop;omega
 have hll:l0.length=n.1.length:=by rw[hl0];simp
 have hal0:a<l0.length:=by omega
 rw[ha]
 simp only[ZaQ hal0,bind_some,List.getElem?_eq_getElem hal0]
 have hO1:OI n q (l0.set a q.2.2.1):=by
  refine⟨by rw[List.length_set,hll],fun s v hv=> ?_⟩
  rcases Zfb hv with ⟨rfl,rfl⟩ |hv
  ·exact .inr ⟨htm.1,0,[],by rw[←ha];exact .here⟩
  ·rw[hl0] at hv
   exact .inl (List.eq_of_mem_replicate (List.mem_of_getElem? hv))
 have hA1:LeO (l0.set a q.2.2.1) a q.2.2.1:=⟨_,List.getElem?_set_self hal0,by omega,Int.le_refl _⟩
 obtain⟨l2,w1,w2,w3,w4⟩:=Zls h hO1 (x:=q.1) (t:=q.2.2.1) htm (fun p hp a b=>⟨0,_, .arrW hp a b⟩)
 rw[ha] at w1
 refine bex (fun r=>r=l2) ⟨_,w1,rfl⟩ fun x hx=> ?_
 rw[hx]
 obtain⟨st,p1,p2,p3,p4⟩:=ZkM h
 refine bex (fun r=>r=st) ⟨_,p1,rfl⟩ fun x hx=> ?_
 rw[hx]
 refine bex (fun r:List Int=>OI n q r∧(∀y u,LeO l2 y u→LeO r y u)∧ ∀k d,k<n.2.2.1.length→d< (Zad n k).length→tt st.2.1 k d→LeO r (Zab n k d).1.toNat (Zab n k d).2.1∧ ∀p∈Zbh n q,p.1=(Zab n k d).1→(Zab n k d).2.1+p.2.2.1≤3155932800→LeO r p.2.1.toNat ((Zab n k d).2.1+p.2.2.1)) ?_ ?_
 ·refine Za3 n.2.2.1.length _ (fun i (z:List Int×Int)=>z.2=(i:Int)∧OI n q z.1∧(∀y u,LeO l2 y u→LeO z.1 y u)∧ ∀k d,k<i→d< (Zad n k).length→tt st.2.1 k d→LeO z.1 (Zab n k d).1.toNat (Zab n k d).2.1∧ ∀p∈Zbh n q,p.1=(Zab n k d).1→(Zab n k d).2.1+p.2.2.1≤3155932800→LeO z.1 p.2.1.toNat ((Zab n k d).2.1+p.2.2.1)) ?_ ?_ _ ⟨rfl,w2,fun _ _ e=>e,fun k d hk=>absurd hk (Nat.not_lt_zero k)⟩
  ·rintro i ⟨l3,j⟩ hi ⟨hj,h1,h2,h3⟩
   simp only at hj h1 h2 h3
   subst hj
   left
   obtain⟨e1,e2⟩:=ZeP hi
   have hcl: (Zad n i).length≤32:=by rw[ZaO hi];exact(h.net.sound.many _ (List.getElem_mem hi)).2
   simp only[Zay hi,cond_true,Zai hi (show _≤9223372036854775807 by omega)]
   refine ZnV (fun r:List Int=>OI n q r∧(∀y u,LeO l3 y u→LeO r y u)∧ ∀d,d< (Zad n i).length→tt st.2.1 i d→LeO r (Zab n i d).1.toNat (Zab n i d).2.1∧ ∀p∈Zbh n q,p.1=(Zab n i d).1→(Zab n i d).2.1+p.2.2.1≤3155932800→LeO r p.2.1.toNat ((Zab n i d).2.1+p.2.2.1)) ?_ ?_
   rotate_left
   ·rintro r ⟨r1,r2,r3⟩
    refine⟨_,rfl,rfl,r1,fun y u e=>r2 y u (h2 y u e),fun k d hk hd ht=> ?_⟩
    by_cases e:k=i
    ·subst e;exact r3 d hd ht
    ·obtain⟨b1,b2⟩:=h3 k d (by omega) hd ht
     exact⟨r2 _ _ b1,fun p hp a b=>r2 _ _ (b2 p hp a b)⟩
   refine Za3 (Zad n i).length _ (fun c (z:List Int×Int)=>z.2=(c:Int)∧OI n q z.1∧(∀y u,LeO l3 y u→LeO z.1 y u)∧ ∀d,d<c→tt st.2.1 i d→LeO z.1 (Zab n i d).1.toNat (Zab n i d).2.1∧ ∀p∈Zbh n q,p.1=(Zab n i d).1→(Zab n i d).2.1+p.2.2.1≤3155932800→LeO z.1 p.2.1.toNat ((Zab n i d).2.1+p.2.2.1)) ?_ ?_ _ ⟨rfl,h1,fun _ _ e=>e,fun d hd=>absurd hd (Nat.not_lt_zero d)⟩
   ·rintro c ⟨l4,j⟩ hc ⟨hj,g1,g2,g3⟩
    simp only at hj g1 g2 g3
    subst hj
    left
    obtain⟨row,b,t1,t2,t3,t4,t5,t6⟩:=Zg3 (l:=st.2.1) (by rw[p2.al];exact hi) (p2.ar i) hc
    simp only[e1,bind_some,e2,Zay hc,cond_true,t2,t5,Zai hc (show _≤9223372036854775807 by omega)]
    cases b with
    |false=>
     simp only[Bool.not_false,cond_true]
     refine⟨_,rfl,rfl,g1,g2,fun d hd ht=> ?_⟩
     by_cases e:d=c
     ·subst e
      have:=t6.2 ht
      cases this
     ·exact g3 d (by omega) ht
    |true=>
     have hs:=h.net.stop hi hc
     have htc:=h.net.time hi hc
     obtain⟨y,hy⟩: ∃y:Nat,(Zab n i c).1=(y:Int):=⟨(Zab n i c).1.toNat,by omega⟩
     have hyl:y<n.1.length:=by omega
     have hy4:y<l4.length:=by rw[g1.len];exact hyl
     obtain⟨hal',k',js,dd⟩:=p3.a i c (t6.1 rfl)
     have dr:=Der.ride dd hal'
     rw[Zbt] at dr
     simp only at dr
     have dr' :=dr
     rw[hy] at dr'
     obtain⟨r,r1,r2,r3,r4⟩:=ZqS g1 hyl (b:=(Zab n i c).2.1) htc.1 (fun _=>⟨k',js, .arrR dr'⟩)
     obtain⟨l5,v1,v2,v3,v4⟩:=Zls h r2 (x:=(Zab n i c).1) (t:=(Zab n i c).2.1) ⟨htc.1,by omega⟩ (fun p hp a b=>⟨k',_, .arrV dr hp a b⟩)
     simp only[Bool.not_true,cond_false,Zd4 hc,bind_some]
     rw[hy] at v1 v4 ⊢
     simp only[ZaQ hy4,bind_some,List.getElem?_eq_getElem hy4,r1]
     refine ZnV (fun z=>z=l5) ⟨_,v1,rfl⟩ fun z hz=> ?_
     rw[hz]
     refine⟨_,rfl,rfl,v2,fun y u e=>v3 y u (r3 y u (g2 y u e)),fun d hd ht=> ?_⟩
     by_cases e:d=c
     ·subst e
      rw[hy]
      exact⟨v3 _ _ (r4 (by omega)),v4⟩
     ·obtain⟨b1,b2⟩:=g3 d (by omega) ht
      exact⟨v3 _ _ (r3 _ _ b1),fun p hp a b=>v3 _ _ (r3 _ _ (b2 p hp a b))⟩
   ·rintro ⟨l4,j⟩ ⟨hj,g1,g2,g3⟩
    simp only at hj g1 g2 g3
    subst hj
    simp only[e1,bind_some,e2,Zav,cond_false]
    exact⟨_,rfl,g1,g2,g3⟩
  ·rintro ⟨l3,j⟩ ⟨hj,h1,h2,h3⟩
   simp only at hj h1 h2 h3
   subst hj
   simp only[Zav,cond_false]
   exact⟨_,rfl,h1,h2,h3⟩
 ·rintro out ⟨h1,h2,h3⟩
  refine⟨_,rfl,rfl,h1, ?_⟩
  intro k s t js d
  rw[←ha] at d
  cases d with
  |here=>
   have e:q.1.toNat=a:=by rw[ha];rfl
   rw[e];exact h2 _ _ (w3 _ _ hA1)
  |arrW b1 b2 b3=>exact h2 _ _ (w4 _ b1 b2 b3)
  |arrR d=>
   obtain⟨k',d',c1,c2,c3,c4,c5⟩:=Zf1 h C p4 d
   have:=(h3 k' d' c1 c2 c3).1
   rw[c4,c5] at this
   exact this
  |arrV d b1 b2 b3=>
   obtain⟨k',d',c1,c2,c3,c4,c5⟩:=Zf1 h C p4 d
   have:=(h3 k' d' c1 c2 c3).2 _ b1 (by rw[c4];exact b2) (by rw[c5];exact b3)
   rw[c5] at this
   exact this
theorem ZpK {g:ScT} {out:List Int} (C:Ctx (ZaA n q) q.1 q.2.2.1 (Zcr n q)) (D:Zl1 (ZaA n q) q.1 q.2.2.1 (Zcr n q) g) (hO:OI n q out) (hc: ∀ {k:Nat} {s t:Int} {js:List Zc0},Der (ZaA n q) q.1 q.2.2.1 (Zcr n q) (.arr k s t) js→LeO out s.toNat t):out=Zdt g:=by
 have hl: (Zdt g).length=n.1.length:=D.len
 refine List.ext_getElem (by rw[hO.len,hl]) fun s h1 h2=> ?_
 have hs:s<n.1.length:=by rw[←hO.len];exact h1
 have e1: (Zdt g)[s]=arrV g s:=by
  have:=D.idxA (s:=s) hs
  rw[Zah h2] at this
  exact Option.some.inj this
 rw[e1]
 have hv:=hO.val s _ (List.getElem?_eq_getElem h1)
 have hn:=D.nonneg C s
 by_cases e:arrV g s= -1
 ·rcases hv with hv| ⟨h0,k,js,d⟩
  ·rw[hv,e]
  ·have:=D.complete d
   exact absurd e this.1
 ·obtain⟨k,js,_,d⟩:=D.sound e
  obtain⟨v,v1,v2,v3⟩:=hc d
  rw[Int.toNat_natCast,List.getElem?_eq_getElem h1] at v1
  have v1:=Option.some.inj v1
  rcases hv with hv| ⟨h0,k',js',d'⟩
  ·omega
  ·have:=D.complete d'
   omega
theorem Zhg (l:List Int) (hl:l.length≤9223372036854775807):F54 l l=some true:=by
 unfold F54
 simp only[decide_true,Bool.not_true,cond_false]
 refine ZdL (fun r=>r= .inl ()) ?_ (by rintro _ rfl;rfl)
 refine Za3 l.length _ (fun i (s:Int)=>s=(i:Int)) ?_ ?_ _ rfl
 ·rintro i _ hi rfl
  left
  simp only[Zay hi,cond_true,Zah hi,bind_some,decide_true,Bool.not_true,cond_false,Zai hi hl]
  exact⟨_,rfl,rfl⟩
 ·rintro _ rfl
  simp only[Zav,cond_false]
  exact⟨_,rfl,rfl⟩
def Zc4 (l:List Int) (b:Int) (i:Nat):List Int:=(List.range i).flatMap fun k:Nat=>if (l[k]?).getD (-1)≠ -1∧(l[k]?).getD (-1)≤b then [(k:Int)] else []
theorem ZfD (l:List Int) (b:Int) (i:Nat): (Zc4 l b i).length≤i:=by
 have:=ZlX (f:=fun k:Nat=>if (l[k]?).getD (-1)≠ -1∧(l[k]?).getD (-1)≤b then [(k:Int)] else []) (fun x=>by split<;>simp) (List.range i)
 rw[List.length_range] at this
 exact this
theorem Zhl (l:List Int) (b:Int) (i:Nat):Zc4 l b (i+1)=Zc4 l b i++if (l[i]?).getD (-1)≠ -1∧(l[i]?).getD (-1)≤b then [(i:Int)] else []:=by
 unfold Zc4
 rw[List.range_succ,List.flatMap_append]
 simp
theorem ZhX {l:List Int} {e:Int} (hl:l.length≤64) (h:F89 n q=some (l,e)) (b:Int):F91 n q b=some (Zc4 l b l.length,e):=by
 unfold F91
 rw[h]
 simp only[bind_some]
 refine ZdL (fun r=>r=Zc4 l b l.length) ?_ (fun r hr=>by rw[hr])
 refine Za3 l.length _ (fun i (st:List Int×Int)=>st=(Zc4 l b i,(i:Int))) ?_ ?_ _ rfl
 ·rintro i _ hi rfl
  left
  have hg:Zaq (decide (List.length (Zc4 l b i)+List.length [(i:Int)]≤Zas))=some ():=Za7 (by have:=ZfD l b i;simp;omega)
  simp only[Zay hi,cond_true,Zah hi,bind_some,Zai hi (show _≤9223372036854775807 by omega),hg]
  rw[Zhl,Zaj hi]
  by_cases h1:l[i]= -1
  ·rw[decide_eq_true h1,if_neg (fun h=>h.1 h1)]
   exact⟨_,rfl,by simp⟩
  ·rw[decide_eq_false h1]
   by_cases h2:l[i]≤b
   ·rw[decide_eq_true h2,if_pos ⟨h1,h2⟩];exact⟨_,rfl,rfl⟩
   ·rw[decide_eq_false h2,if_neg (fun h=>h2 h.2)];exact⟨_,rfl,by simp⟩
 ·rintro _ rfl
  simp only[Zav,cond_false]
  exact⟨_,rfl,rfl⟩
theorem ZoL {l:List Int} (hl:l.length≤64) (hv: ∀v∈l,v= -1∨0≤v) (h:F73 n q=some (l,0)) (b:Int):F76 n q b=some (Zc4 l b l.length,0):=by
 unfold F76
 rw[h]
 simp only[bind_some,decide_true,Bool.not_true,cond_false]
 refine ZdL (fun r=>r=Zc4 l b l.length) ?_ (fun r hr=>by rw[hr])
 refine Za3 l.length _ (fun i (st:List Int×Int)=>st=(Zc4 l b i,(i:Int))) ?_ ?_ _ rfl
 ·rintro i _ hi rfl
  left
  have hg:Zaq (decide (List.length (Zc4 l b i)+List.length [(i:Int)]≤Zas))=some ():=Za7 (by have:=ZfD l b i;simp;omega)
  simp only[Zay hi,cond_true,Zah hi,bind_some,Zai hi (show _≤9223372036854775807 by omega),hg]
  rw[Zhl,Zaj hi]
  have hvi:=hv _ (List.getElem_mem hi)
  by_cases h1:l[i]= -1
  ·rw[decide_eq_false (show¬ (0:Int)≤l[i] by omega),if_neg (fun h=>h.1 h1)]
   exact⟨_,rfl,by simp⟩
  ·rw[decide_eq_true (show (0:Int)≤l[i] by omega)]
   by_cases h2:l[i]≤b
   ·rw[decide_eq_true h2,if_pos ⟨h1,h2⟩];exact⟨_,rfl,rfl⟩
   ·rw[decide_eq_false h2,if_neg (fun h=>h2 h.2)];exact⟨_,rfl,by simp⟩
 ·rintro _ rfl
  simp only[Zav,cond_false]
  exact⟨_,rfl,rfl⟩
theorem Zqk {n:ZaJ} (h:Fit n) {q:Zbp} (he:ZjG n q≠0):F93 n q=none∧F94 n q=some ((),ZjG n q):=by
 constructor
 ·unfold F93
  rw[ZfS h]
  simp only[bind_some,decide_eq_false he,Bool.not_false,cond_true]
 ·unfold F94
  rw[ZfS h]
  simp only[bind_some,decide_eq_false he,Bool.not_false,cond_true]
theorem ZfY {n:ZaJ} (h:Fit n) {q:Zbp} (he:ZjG n q≠0):F89 n q=some ([],ZjG n q):=by
 obtain⟨h1,h2⟩:=Zqk h he
 unfold F89
 have h3: (F93S.f (n,q,())).isSome=false:=by
  show (F93 n q).isSome=false
  rw[h1];rfl
 rw[h3,h2]
 simp only[cond_false,bind_some,decide_eq_false he,Bool.not_false,cond_true]
theorem Zib {n:ZaJ} (h:Fit n) {q:Zbp} (he:ZjG n q≠0):F73 n q=some ([],ZjG n q):=by
 unfold F73
 rw[Zf3 h]
 simp only[bind_some,decide_eq_false he,Bool.not_false,cond_true]
theorem ZsU {n:ZaJ} (hfit:Fit n) {q:Zbp} (hw:Whole n) (hqb:qB n.1.length q=true):NQ n q:=by
 unfold qB inR at hqb
 simp only[Bool.and_eq_true,decide_eq_true_eq] at hqb
 obtain⟨h1,_,h3,_,_,h6,_⟩:=hqb
 exact⟨hw.ok,hfit.paths,h1,h3,h6⟩
theorem Zmw (n:ZaJ) (q:Zbp): (bif q.2.2.2.2.2.2.2.2.2.1 then(Zdl (ZaA n q) q.1).2.2.2.1 else 0)=Zcr n q:=rfl
theorem ZpH {n:ZaJ} {q:Zbp} (hfit:Fit n) (hsz:Whole n→Znq n∧Few n) (hc:ZjG n q=0): ∃g,F93 n q=some (g,0)∧Ctx (ZaA n q) q.1 q.2.2.1 (Zcr n q)∧Zl1 (ZaA n q) q.1 q.2.2.1 (Zcr n q) g∧F73 n q=some (Zdt g,0)∧Whole n∧Znq n∧Few n∧qB n.1.length q=true∧q.2.2.2.1=false:=by
 have hw0:=(Zkf.1 (Zj6.1 hc).1).1
 obtain⟨hZ,hfew⟩:=hsz hw0
 obtain⟨g,g1,C,hw,hqb,hbk,D⟩:=Zql hfit hfew hZ hc
 rw[Zmw] at C D
 obtain⟨out,o1,o2,o3⟩:=Zn7 hfit (ZsU hfit hw hqb) hc C
 have:=ZpK C D o2 o3
 rw[this] at o1
 exact⟨g,g1,C,D,o1,hw,hZ,hfew,hqb,hbk⟩
theorem Zmq (n:ZaJ) (h:Zlu Y31 n) (q:Zbp) (b:Int):F31 n q b=some true:=by
 unfold F31
 obtain⟨bb,hb1,hb2⟩:=ZnZ h
 rw[hb1]
 cases bb with
 |true=>simp only[bind_some,cond_true,Zd6]
 |false=>
  obtain⟨hfit,hsz⟩:=hb2 rfl
  simp only[bind_some,cond_false]
  by_cases hc:ZjG n q=0
  ·obtain⟨g,g1,C,D,r1,hw,hZ,_,_,_⟩:=ZpH hfit hsz hc
   have hl: (Zdt g).length≤64:=by rw[D.len];have:=hZ.stops;show n.1.length≤64;omega
   have a1:=Zjk (n0:=n) (q:=q) (by rw[D.si.pl];have:=hZ.stops;show n.1.length≤64;omega) g1
   have hv: ∀v∈Zdt g,v= -1∨0≤v:=by
    intro v hv
    obtain⟨i,hi,rfl⟩:=List.getElem_of_mem hv
    have hin:i<n.1.length:=by rw[D.len] at hi;exact hi
    have e:=D.idxA (s:=i) hin
    rw[Zah hi] at e
    rw[Option.some.inj e]
    exact(D.nonneg C i).imp id fun x=>x.1
   rw[a1,r1,ZhX hl a1 b,ZoL hl hv r1 b]
   have hrl:=ZfD (Zdt g) b (Zdt g).length
   simp only[bind_some,Zhg _ (show (Zdt g).length≤9223372036854775807 by omega),Zhg _ (show (Zc4 (Zdt g) b (Zdt g).length).length≤9223372036854775807 by omega),cond_true,decide_true,Zd6]
  ·have hr:F76 n q b=some ([],ZjG n q):=by
    unfold F76
    rw[Zib hfit hc]
    simp only[bind_some,decide_eq_false hc,Bool.not_false,cond_true]
   rw[ZfY hfit hc,Zib hfit hc,ZhX (by simp) (ZfY hfit hc) b,hr]
   have e0:Zc4 [] b ([]:List Int).length=[]:=rfl
   rw[e0]
   simp only[bind_some,Zhg [] (by simp),cond_true,decide_true,Zd6]
theorem arrivals42P (x:Zdx F31A) (h:ZjJ F31A x):F31 x.1 x.2.1 x.2.2.1=some true:=Zmq _ h.1 _ _
end Q
