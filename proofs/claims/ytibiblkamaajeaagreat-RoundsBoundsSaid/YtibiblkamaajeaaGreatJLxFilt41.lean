/- filter: usable runs, open stops, the allowed network; queries. Conditions: the network is valid, its lists are short. -/
import Derived.KernelRfl
import Derived.Test.YtibiblkamaajeaaGreatJLwJa2841
import Derived.Test.YtibiblkamaajeaaGreatTsF
namespace Q
open Tr Go
open Option (bind_some)
theorem ZrI {α β τ:Type} {step:List β×Int→Option ((List β×Int) ⊕ τ)} (l:List α) (f:α→List β) (R:List β→τ)
  (hstep: ∀i (hi:i<l.length),step ((l.take i).flatMap f,(i:Int))=some (.inl ((l.take i).flatMap f++f l[i],((i+1:Nat):Int))))
  (hend:step (l.flatMap f,(l.length:Int))=some (.inr (R (l.flatMap f)))):run step ([],(0:Int))=some (R (l.flatMap f)):=by
 refine Exists.elim (Za9 (step:=step) l.length (fun r=>r=R (l.flatMap f)) (fun i st=>st=((l.take i).flatMap f,(i:Int))) ?_ ?_ ([],(0:Int)) (by simp)) ?_
 ·rintro i _ hi rfl
  left
  refine⟨_,hstep i hi, ?_⟩
  rw[List.take_succ_eq_append_getElem hi,List.flatMap_append]
  simp
 ·rintro _ rfl
  rw[List.take_length]
  exact⟨_,hend,rfl⟩
 ·rintro r ⟨h1,rfl⟩
  exact h1
theorem ZrV {α β:Type} (f:α→β) (l:List α):l.flatMap (fun x=>[f x])=l.map f:=by
 induction l with
 |nil=>rfl
 |cons x l ih=>simp [ih]
theorem ZrS {α β:Type} {f:α→List β} (hf: ∀x,(f x).length≤1) (l:List α): (l.flatMap f).length≤l.length:=by
 induction l with
 |nil=>simp
 |cons x l ih=>have:=hf x;simp;simp at ih;omega
abbrev Zbq:=Int×Int×Int×Bool×Int×Int×Bool×Bool×Int×Bool×Unit
def Zst (n:ZaA) (r:ZjR):Zdv:=(n.2.1[r.2.2.2.2.1.toNat]?).getD r0
def ZsC (n:ZaA) (q:Zbq) (r:ZjR):Bool:=Tr.useB q r (Zst n r)
def s0:Zli:=([],0,false,0,())
def Zci (n:ZaA) (s:Int):Zli:=(n.1[s.toNat]?).getD s0
def Zj7 (n:ZaA) (q:Zbq) (s:Int):Bool:=(Zci n s).2.2.1|| !q.2.2.2.2.2.2.1
def ZbT (n:ZaA) (q:Zbq) (c:Zbd):Zbd:=if Zj7 n q c.1 then c else(c.1,c.2.1,c.2.2.1,false,false,())
theorem ZsQ {n:ZaA} (hS:Zdi n) {r:ZjR} (hr:r∈n.2.2.1):idx n.2.1 r.2.2.2.2.1=some (Zst n r)∧Zst n r∈n.2.1:=by
 have h:=hS.route _ hr
 have hi:inR r.2.2.2.2.1 n.2.1.length=true:=by simp [inR];omega
 refine⟨Za1 hi r0, ?_⟩
 unfold Zst
 rw[Zah (show r.2.2.2.2.1.toNat<n.2.1.length by omega)]
 exact List.getElem_mem _
theorem ZtX {n:ZaA} (hS:Zdi n) (q:Zbq) {r:ZjR} (hr:r∈n.2.2.1):F10 n q r=some (ZsC n q r):=by
 obtain⟨h1,h2⟩:=ZsQ hS hr
 have hm:=(hS.mode _ h2).1
 unfold F10 Tr.useF
 rw[h1]
 simp only[bind_some,show decide ((0:Int)≤(Zst n r).2.1)=true from decide_eq_true hm,Bool.or_true,cond_true]
 rfl
theorem ZuL {n:ZaA} (hS:Zdi n) {r:ZjR} (hr:r∈n.2.2.1) {c:Zbd} (hc:c∈r.2.2.2.2.2.2.2.1):idx n.1 c.1=some (Zci n c.1):=by
 have h:=hS.call _ hr _ hc
 exact Za1 (show inR c.1 n.1.length=true by simp [inR];omega) s0
theorem ZrM {n:ZaA} (q:Zbq) {s:Int} (h:idx n.1 s=some (Zci n s)):F9 n q s=some (Zj7 n q s):=by
 unfold F9
 rw[h]
 simp only[bind_some]
 unfold Zj7
 cases (Zci n s).2.2.1<;>rfl
theorem Zon {n:ZaA} (hS:Zdi n) (q:Zbq) {r:ZjR} (hr:r∈n.2.2.1):F8 n q r.2.2.2.2.2.2.2.1=some (r.2.2.2.2.2.2.2.1.map (ZbT n q)):=by
 have hl:=(hS.many _ hr).2
 unfold F8
 rw[ZrI r.2.2.2.2.2.2.2.1 (fun c=>[ZbT n q c]) id ?_ ?_]
 ·simp only[bind_some,id,ZrV,List.length_map]
  generalize hm:r.2.2.2.2.2.2.2.1.map (ZbT n q)=m
  have hlen:m.length=r.2.2.2.2.2.2.2.1.length:=by rw[←hm,List.length_map]
  rw[←hlen]
  have e1:inb (m.length:Int) (m.length+1)=some m.length:=by
   unfold inb;rw[if_pos (by omega)];simp
  have e2:sliceB m.length m.length none (some (m.length:Int))=some (0,m.length):=by
   unfold sliceB
   simp only[if_pos (show (0:Int)≤(m.length:Int)∧(m.length:Int)≤(m.length:Int) from ⟨by omega,by omega⟩),bind_some,Int.toNat_natCast]
  rw[e1]
  simp only[bind_some]
  rw[e2]
  simp
 ·intro i hi
  have hc:=List.getElem_mem hi
  simp only[Zay hi,cond_true,Zag hi,bind_some]
  rw[ZrM q (ZuL hS hr hc)]
  have hb:=ZrS (f:=fun c=>[ZbT n q c]) (by simp) (r.2.2.2.2.2.2.2.1.take i)
  rw[List.length_take] at hb
  simp only[bind_some]
  have e: (bif !Zj7 n q (r.2.2.2.2.2.2.2.1[i]).1 then some (((r.2.2.2.2.2.2.2.1[i]).1,(r.2.2.2.2.2.2.2.1[i]).2.1,(r.2.2.2.2.2.2.2.1[i]).2.2.1,false,false,(r.2.2.2.2.2.2.2.1[i]).2.2.2.2.2):Zbd) else some r.2.2.2.2.2.2.2.1[i])=some (ZbT n q r.2.2.2.2.2.2.2.1[i]):=by
   unfold ZbT
   cases Zj7 n q (r.2.2.2.2.2.2.2.1[i]).1<;>rfl
  erw[e]
  simp only[bind_some]
  rw[Zbh (by simp;simp at hb;omega),Zan hi (by omega)]
  rfl
 ·simp only[ZaC,cond_false];rfl
structure Few (n:ZaA):Prop where
 stops:n.1.length≤4096
 routes:n.2.1.length≤4096
 runs:n.2.2.1.length≤4096
 links:n.2.2.2.1.length≤4096
 paths:n.2.2.2.2.1.length≤4096
 prods:n.2.2.2.2.2.1.1.length≤4096
 calls: ∀r∈n.2.2.1,r.2.2.2.2.2.2.2.1.length≤4096
theorem Zed {α:Type} (l:List α) (h:l.length≤4096): (Option.bind (Zap (decide (List.length ([]:List Unit)+List.length l≤Zaq))) fun _=>
 Option.bind (inb (↑(List.length ([]++l)):Int) (List.length ([]++l)+(1:Nat))) fun x1=>
 Option.bind (sliceB (List.length ([]++l)) x1 none (some (↑(List.length ([]++l)):Int))) fun x2=>some (List.take x2.2 ([]++l)))=some l:=by
 have e0:Zap (decide (List.length ([]:List Unit)+List.length l≤Zaq))=some ():=by
  unfold Zap Zaq
  rw[decide_eq_true (show List.length ([]:List Unit)+List.length l≤2 ^ 32 by simp;omega)];rfl
 have e1:inb (l.length:Int) (l.length+1)=some l.length:=by
  unfold inb;rw[if_pos (by omega)];simp
 have e2:sliceB l.length l.length none (some (l.length:Int))=some (0,l.length):=by
  unfold sliceB
  simp only[if_pos (show (0:Int)≤(l.length:Int)∧(l.length:Int)≤(l.length:Int) from ⟨by omega,by omega⟩),bind_some,Int.toNat_natCast]
 rw[e0]
 simp only[bind_some,List.nil_append]
 rw[e1]
 simp only[bind_some]
 rw[e2]
 simp
theorem Zrj {n:ZaA} (h:Few n):F40 n=some n:=by
 unfold F40
 have hs:F51 n.1=some n.1:=Zed n.1 h.stops
 have hro:F49 n.2.1=some n.2.1:=Zed n.2.1 h.routes
 have hru:F50 n.2.2.1=some n.2.2.1:=Zed n.2.2.1 h.runs
 have hli:F47 n.2.2.2.1=some n.2.2.2.1:=Zed n.2.2.2.1 h.links
 have hpa:F46 n.2.2.2.2.1=some n.2.2.2.2.1:=Zed n.2.2.2.2.1 h.paths
 have hpr:F48 n.2.2.2.2.2.1.1=some n.2.2.2.2.2.1.1:=Zed n.2.2.2.2.2.1.1 h.prods
 rw[hs,hro,hru,hli,hpa]
 simp only[bind_some]
 refine Zb5 (fun r:ZaA=>r=(n.1,n.2.1,n.2.2.1,n.2.2.2.1,n.2.2.2.2.1,n.2.2.2.2.2.1,())) (Za9 n.2.2.1.length _ (fun i (st:ZaA×Int)=>st=((n.1,n.2.1,n.2.2.1,n.2.2.2.1,n.2.2.2.2.1,n.2.2.2.2.2.1,()),(i:Int))) ?_ ?_ _ rfl) ?_
 ·rintro i _ hi rfl
  left
  have hc:F45 (n.2.2.1[i]).2.2.2.2.2.2.2.1=some (n.2.2.1[i]).2.2.2.2.2.2.2.1:=Zed _ (h.calls _ (List.getElem_mem hi))
  simp only[Zay hi,cond_true,ZaL hi,bind_some,List.getElem?_eq_getElem hi,hc]
  refine⟨_,rfl, ?_⟩
  rw[Zan hi (by have:=h.runs;omega)]
  have e:List.set n.2.2.1 i ((n.2.2.1[i]).1,(n.2.2.1[i]).2.1,(n.2.2.1[i]).2.2.1,(n.2.2.1[i]).2.2.2.1,(n.2.2.1[i]).2.2.2.2.1,(n.2.2.1[i]).2.2.2.2.2.1,(n.2.2.1[i]).2.2.2.2.2.2.1,(n.2.2.1[i]).2.2.2.2.2.2.2.1,(n.2.2.1[i]).2.2.2.2.2.2.2.2)=n.2.2.1:=List.set_getElem_self hi
  erw[e]
 ·rintro _ rfl
  exact⟨_,by simp only[ZaC,cond_false],rfl⟩
 ·rintro _ rfl
  rw[hpr]
  rfl
def Zcw (n:ZaA) (q:Zbq) (r:ZjR):ZjR:=(r.1,r.2.1,r.2.2.1,r.2.2.2.1,r.2.2.2.2.1,r.2.2.2.2.2.1, !ZsC n q r,r.2.2.2.2.2.2.2.1.map (ZbT n q),())
def ZeD (n:ZaA) (q:Zbq):List Zca:=if q.2.2.2.2.2.2.1 then n.2.2.2.2.1.filter (fun p=>p.2.2.2.1) else n.2.2.2.2.1
def Za7 (n:ZaA) (q:Zbq):ZaA:=(n.1,n.2.1,n.2.2.1.map (Zcw n q),n.2.2.2.1,ZeD n q,n.2.2.2.2.2.1,())
def Zeq (n:ZaA) (q:Zbq) (i:Nat):List ZjR:=(n.2.2.1.take i).map (Zcw n q)++n.2.2.1.drop i
theorem Zoi (n:ZaA) (q:Zbq) {i:Nat} (hi:i≤n.2.2.1.length): (Zeq n q i).length=n.2.2.1.length:=by
 simp [Zeq];omega
theorem Zok (n:ZaA) (q:Zbq) {i:Nat} (hi:i<n.2.2.1.length): (Zeq n q i)[i]? =some n.2.2.1[i]:=by
 unfold Zeq
 rw[List.getElem?_append_right (by simp;omega)]
 simp only[List.length_map,List.length_take,Nat.min_eq_left (Nat.le_of_lt hi),Nat.sub_self,List.getElem?_drop,Nat.add_zero]
 exact List.getElem?_eq_getElem hi
theorem ZoT (n:ZaA) (q:Zbq) {i:Nat} (hi:i<n.2.2.1.length): (Zeq n q i).set i (Zcw n q n.2.2.1[i])=Zeq n q (i+1):=by
 unfold Zeq
 have hlen: ((n.2.2.1.take i).map (Zcw n q)).length=i:=by simp;omega
 rw[List.set_append_right _ _ (by omega),hlen,Nat.sub_self,List.drop_eq_getElem_cons hi,List.set_cons_zero,List.take_succ_eq_append_getElem hi,List.map_append]
 simp
theorem Zmu {n:ZaA} (hS:Zdi n) (hF:Few n) (q:Zbq) (hq:F5 n q=some 0):F7 n q=some (Za7 n q,0):=by
 unfold F7
 rw[hq]
 simp only[bind_some,decide_true,Bool.not_true,cond_false]
 rw[Zrj hF]
 simp only[bind_some]
 refine Zb5 (fun r:ZaA=>r=(n.1,n.2.1,n.2.2.1.map (Zcw n q),n.2.2.2.1,n.2.2.2.2.1,n.2.2.2.2.2.1,())) (Za9 n.2.2.1.length _ (fun i (st:ZaA×Int)=>st=((n.1,n.2.1,Zeq n q i,n.2.2.2.1,n.2.2.2.2.1,n.2.2.2.2.2.1,()),(i:Int))) ?_ ?_ _ (by simp [Zeq])) ?_
 ·rintro i _ hi rfl
  left
  have hr:=List.getElem_mem hi
  have hl:=Zoi n q (Nat.le_of_lt hi)
  have hi' :i< (Zeq n q i).length:=by omega
  simp only[Zay hi,cond_true,Zag hi,bind_some,ZtX hS q hr,ZaL hi',Zok n q hi,Zon hS q hr]
  refine⟨_, ?_,rfl⟩
  rw[Zan hi (by have:=hF.runs;omega)]
  have hi2:i< ((Zeq n q i).set i ((n.2.2.1[i]).1,(n.2.2.1[i]).2.1,(n.2.2.1[i]).2.2.1,(n.2.2.1[i]).2.2.2.1,(n.2.2.1[i]).2.2.2.2.1,(n.2.2.1[i]).2.2.2.2.2.1, !ZsC n q n.2.2.1[i],(n.2.2.1[i]).2.2.2.2.2.2.2)).length:=by rw[List.length_set];exact hi'
  erw[ZaL hi2]
  simp only[bind_some]
  erw[List.getElem?_set_self hi']
  simp only[bind_some]
  erw[List.set_set]
  congr 2
  have:=ZoT n q hi
  rw[←this]
  rfl
 ·rintro _ rfl
  refine⟨_,by simp only[ZaC,cond_false];rfl, ?_⟩
  simp [Zeq]
 ·rintro _ rfl
  unfold Za7 ZeD
  cases hsf:q.2.2.2.2.2.2.1 with
  |false=>rfl
  |true=>
   simp only[cond_true,if_true]
   refine Zb5 (fun r:ZaA=>r=(n.1,n.2.1,n.2.2.1.map (Zcw n q),n.2.2.2.1,n.2.2.2.2.1.filter (fun p=>p.2.2.2.1),n.2.2.2.2.2.1,())) (Za9 n.2.2.2.2.1.length _ (fun i (st:ZaA×Int)=>st=((n.1,n.2.1,n.2.2.1.map (Zcw n q),n.2.2.2.1,(n.2.2.2.2.1.take i).filter (fun p=>p.2.2.2.1),n.2.2.2.2.2.1,()),(i:Int))) ?_ ?_ _ (by simp)) ?_
   ·rintro i _ hi rfl
    left
    have hb:=List.length_filter_le (fun p:Zca=>p.2.2.2.1) (n.2.2.2.2.1.take i)
    rw[List.length_take] at hb
    have hp:=hF.paths
    simp only[Zay hi,cond_true,Zag hi,bind_some]
    rw[Zan hi (by omega),List.take_succ_eq_append_getElem hi,List.filter_append]
    cases hv: (n.2.2.2.2.1[i]).2.2.2.1 with
    |false=>
     refine⟨_,rfl, ?_⟩
     simp [hv]
    |true=>
     simp only[cond_true]
     rw[Zbh (by simp;omega)]
     refine⟨_,rfl, ?_⟩
     simp [hv]
   ·rintro _ rfl
    refine⟨_,by simp only[ZaC,cond_false];rfl, ?_⟩
    rw[List.take_length]
   ·rintro _ rfl
    rfl
def qB (k:Nat) (q:Zbq):Bool:=inR q.1 k&& (inR q.2.1 k&& (decide (0≤q.2.2.1∧q.2.2.1≤3155932800) && (decide (0≤q.2.2.2.2.1∧q.2.2.2.2.1≤8) && (decide (0≤q.2.2.2.2.2.1∧q.2.2.2.2.2.1≤86400) && (decide (0≤q.2.2.2.2.2.2.2.2.1∧q.2.2.2.2.2.2.2.2.1≤255) && !(q.2.2.2.2.2.2.2.2.2.1&&q.2.2.2.1))))))
theorem ZmR (x a b:Int):F6 x a b=some (decide (a≤x∧x≤b)):=ZdB x a b
theorem ZfB (x a b:Int):F92 x a b=some (decide (a≤x∧x≤b)):=ZdB x a b
theorem Ze2 (x:Int) {m:Nat} (hm:m≤9223372036854775807):F92 x 0 (IntKind.wrap .i64 ((m:Int) - 1))=some (inR x m):=ZjD x hm
theorem Zjj (k:Nat) (hk:k≤9223372036854775807) (q:Zbq):F87 (k:Int) q=some (qB k q):=by
 unfold F87 qB
 simp only[ZfB]
 rw[show decide ((0:Int)≤q.1∧q.1≤IntKind.wrap .i64 ((k:Int) - 1))=inR q.1 k from Option.some.inj ((ZfB _ _ _).symm.trans (Ze2 q.1 hk)),show decide ((0:Int)≤q.2.1∧q.2.1≤IntKind.wrap .i64 ((k:Int) - 1))=inR q.2.1 k from Option.some.inj ((ZfB _ _ _).symm.trans (Ze2 q.2.1 hk))]
 simp only[bind_some]
 generalize inR q.1 k=b1
 generalize inR q.2.1 k=b2
 generalize decide ((0:Int)≤q.2.2.1∧q.2.2.1≤3155932800)=b3
 generalize decide ((0:Int)≤q.2.2.2.2.1∧q.2.2.2.2.1≤8)=b4
 generalize decide ((0:Int)≤q.2.2.2.2.2.1∧q.2.2.2.2.2.1≤86400)=b5
 generalize decide ((0:Int)≤q.2.2.2.2.2.2.2.2.1∧q.2.2.2.2.2.2.2.2.1≤255)=b6
 generalize q.2.2.2.2.2.2.2.2.2.1=b7
 generalize q.2.2.2.1=b8
 cases b1<;>try rfl
 cases b2<;>try rfl
 cases b3<;>try rfl
 cases b4<;>try rfl
 cases b5<;>try rfl
 cases b6<;>try rfl
 cases b7<;>cases b8<;>rfl
open Classical in
noncomputable def Zkr (n:ZaA) (q:Zbq):Int:=if Whole n then(if qB n.1.length q=true then 0 else 22) else 21
theorem Zhv {n:ZaA} {q:Zbq} :Zkr n q=0↔Whole n∧qB n.1.length q=true:=by
 unfold Zkr
 split
 ·next h=>split<;>simp_all
 ·next h=>simp [h]
open Classical in
theorem ZfA {n:ZaA} (h:Fit n):F63 n=some (decide (Whole n)):=by
 obtain⟨r,_,h2,h3⟩:=Zh5 n h
 unfold F63
 rw[h2]
 simp only[bind_some]
 congr 1
 exact decide_eq_decide.2 h3
open Classical in
theorem Zsh {n:ZaA} (h:Fit n) (q:Zbq):F84 n q=some (Zkr n q):=by
 unfold F84 Zkr
 rw[ZfA h]
 simp only[bind_some]
 by_cases hW:Whole n
 ·rw[decide_eq_true hW,if_pos hW]
  have hs:=hW.sound.stops
  simp only[Bool.not_true,cond_false]
  rw[Zjj n.1.length (by omega)]
  simp only[bind_some]
  cases qB n.1.length q<;>rfl
 ·rw[decide_eq_false hW,if_neg hW];rfl
theorem ZkZ {n:ZaA} (h:Fit n) (q:Zbq):F5 n q=some (Zkr n q):=by
 obtain⟨r,h1,_,h3⟩:=Zh5 n h
 unfold F5 Zkr
 rw[h1]
 simp only[bind_some]
 by_cases hW:Whole n
 ·rw[decide_eq_true (h3.2 hW),if_pos hW]
  have hk:n.1.length≤9223372036854775807:=by have:=hW.sound.stops;omega
  simp only[Bool.not_true,cond_false,ZmR]
  rw[show decide ((0:Int)≤q.1∧q.1≤IntKind.wrap .i64 ((n.1.length:Int) - 1))=inR q.1 n.1.length from Option.some.inj ((ZfB _ _ _).symm.trans (Ze2 q.1 hk)),show decide ((0:Int)≤q.2.1∧q.2.1≤IntKind.wrap .i64 ((n.1.length:Int) - 1))=inR q.2.1 n.1.length from Option.some.inj ((ZfB _ _ _).symm.trans (Ze2 q.2.1 hk))]
  unfold qB
  simp only[bind_some]
  generalize inR q.1 n.1.length=b1
  generalize inR q.2.1 n.1.length=b2
  generalize decide ((0:Int)≤q.2.2.1∧q.2.2.1≤3155932800)=b3
  generalize decide ((0:Int)≤q.2.2.2.2.1∧q.2.2.2.2.1≤8)=b4
  generalize decide ((0:Int)≤q.2.2.2.2.2.1∧q.2.2.2.2.2.1≤86400)=b5
  generalize decide ((0:Int)≤q.2.2.2.2.2.2.2.2.1∧q.2.2.2.2.2.2.2.2.1≤255)=b6
  generalize q.2.2.2.2.2.2.2.2.2.1=b7
  generalize q.2.2.2.1=b8
  cases b1<;>try rfl
  cases b2<;>try rfl
  cases b3<;>try rfl
  cases b4<;>try rfl
  cases b5<;>try rfl
  cases b6<;>try rfl
  cases b7<;>cases b8<;>rfl
 ·rw[decide_eq_false (fun e=>hW (h3.1 e)),if_neg hW];rfl
theorem Zob {c l:List Zca} (h:ZbC c l=true):c=l:=by
 unfold ZbC at h
 rw[Bool.and_eq_true,decide_eq_true_eq,Option.isNone_iff_eq_none] at h
 obtain⟨h1,h2⟩:=h
 have h2:=ZaF.1 h2
 refine List.ext_getElem h1 fun i hi hi' => ?_
 have:=h2 i hi
 unfold eqF at this
 rw[Zah hi,Zah hi'] at this
 have hs:Zic c[i] l[i]=true:=by
  by_cases hs:Zic c[i] l[i]=true
  ·exact hs
  ·rw[if_neg hs] at this;simp at this
 unfold Zic at hs
 simp only[Bool.and_eq_true,decide_eq_true_eq,beq_iff_eq] at hs
 exact Prod.ext hs.1 (Prod.ext hs.2.1 (Prod.ext hs.2.2.1 (Prod.ext hs.2.2.2 rfl)))
theorem ZkK (l:List Zca):ZbC l l=true:=by
 unfold ZbC
 rw[Bool.and_eq_true,decide_eq_true_eq,Option.isNone_iff_eq_none]
 refine⟨rfl,ZaF.2 fun i hi=> ?_⟩
 unfold eqF Zic
 simp
theorem Zni {k:Nat} {l:List Zca} : (∀i,i<l.length→Zbz k l i=0)↔(∀p∈l,Zc1 k p=false∧Zc2 p=false)∧l.Pairwise fun a b=>Zc5 a≠Zc5 b:=by
 constructor
 ·intro h
  refine⟨fun p hp=> ?_,List.pairwise_iff_getElem.2 fun i j hi hj hij e=> ?_⟩
  ·obtain⟨i,hi,rfl⟩:=List.getElem_of_mem hp
   have:=Zco (h i hi)
   rw[Zah hi] at this
   exact⟨this.1,this.2.1⟩
  ·have:=(Zco (h j hj)).2.2
   refine this ⟨i,hij, ?_⟩
   rw[Zah hi,Zah hj];exact e
 ·rintro ⟨h1,h2⟩ i hi
  obtain⟨a,b⟩:=h1 _ (List.getElem_mem hi)
  unfold Zbz
  rw[Zah hi,if_neg (by rw[a];simp),if_neg (by rw[b];simp),if_neg]
  rintro ⟨j,hj,e⟩
  rw[Zah (show j<l.length by omega)] at e
  exact List.pairwise_iff_getElem.1 h2 j i (by omega) hi hj e
theorem ZhM {α β:Type} (p:β→Bool) (f:α→List β) (l:List α): (l.flatMap f).filter p=l.flatMap fun x=>(f x).filter p:=by
 induction l with
 |nil=>rfl
 |cons x l ih=>simp [List.filter_append,ih]
theorem Zq6 (a b:Nat) (d f:Int): (Zdl a b d f).filter (fun p=>p.2.2.2.1)=Zdl a b f f:=by
 unfold Zdl
 by_cases h:f=d
 ·subst h
  rw[if_pos rfl,List.append_nil]
  split<;>simp
 ·rw[if_neg h,if_pos rfl,List.append_nil,List.filter_append]
  have e1: (if 0<d∧d≤14400 then [((a:Int),(b:Int),d,decide (f=d),())] else []).filter (fun p:Zc4=>p.2.2.2.1)=[]:=by
   split<;>simp [h]
  rw[e1]
  split<;>simp
theorem ZpS (it:Nat→Nat→List Zc4) (n m:Nat): (ZfT it n m).filter (fun p=>p.2.2.2.1)=ZfT (fun a b=>(it a b).filter (fun p=>p.2.2.2.1)) n m:=by
 unfold ZfT Zkp
 rw[ZhM]
 congr 1;funext a
 rw[ZhM]
 congr 1;funext b
 split<;>rfl
theorem ZmI {k:Nat} (hk:k≤64) {l:List Zca} (hl:l.length≤4096) (hz: ∀i,i<l.length→Zbz k l i=0) (hc: ∀c,F59 l (k:Int)=some c→ZbC c l=true):
  (∀i,i< (l.filter fun p=>p.2.2.2.1).length→Zbz k (l.filter fun p=>p.2.2.2.1) i=0)∧ ∀c,F59 (l.filter fun p=>p.2.2.2.1) (k:Int)=some c→ZbC c (l.filter fun p=>p.2.2.2.1)=true:=by
 obtain⟨z1,z2⟩:=Zni.1 hz
 have hz' : ∀i,i< (l.filter fun p=>p.2.2.2.1).length→Zbz k (l.filter fun p=>p.2.2.2.1) i=0:=Zni.2 ⟨fun p hp=>z1 p (List.mem_filter.1 hp).1,z2.filter _⟩
 refine⟨hz',fun c h=> ?_⟩
 have hF:=Zrg hz
 have hF' :=Zrg hz'
 have hl' : (l.filter fun p=>p.2.2.2.1).length≤4096:=Nat.le_trans (List.length_filter_le _ _) hl
 obtain⟨c0,a1,a2,_⟩:=ZfH hk hF hl
 obtain⟨c1,b1,b2,_⟩:=ZfH hk hF' hl'
 have v0:=ZfE hk hF hl (fun a b=>(Zj1 hF a b).imp id fun h=>h.2)
 have v1:=ZfE hk hF' hl' (fun a b=>(Zj1 hF' a b).imp id fun h=>h.2)
 rw[a1] at v0
 rw[b1] at v1
 have e0:=Zob (hc c0 a2)
 obtain rfl:c1=c:=Option.some.inj (b2.symm.trans h)
 have ed: ∀free,EdP (l.filter fun p=>p.2.2.2.1) free=EdP l true:=by
  intro free
  funext u v w
  refine propext ⟨fun⟨p,hp,_,h⟩=> ?_,fun⟨p,hp,h1,h⟩=> ?_⟩
  ·obtain⟨hp1,hp2⟩:=List.mem_filter.1 hp
   exact⟨p,hp1,fun _=>hp2,h⟩
  ·have:=h1 rfl
   exact⟨p,List.mem_filter.2 ⟨hp,this⟩,fun _=>this,h⟩
 have key:c1=l.filter fun p=>p.2.2.2.1:=by
  rw[Option.some.inj v1]
  conv=>rhs;rw[←e0,Option.some.inj v0]
  rw[ZpS,ed,ed]
  congr 1;funext a b
  exact(Zq6 a b _ _).symm
 rw[key]
 exact ZkK _
theorem ZhL (n:ZaA) (q:Zbq) (l:List Zbd) (i:Nat): (((l.map (ZbT n q))[i]?).getD c0).1=((l[i]?).getD c0).1∧(((l.map (ZbT n q))[i]?).getD c0).2.1=((l[i]?).getD c0).2.1∧(((l.map (ZbT n q))[i]?).getD c0).2.2.1=((l[i]?).getD c0).2.2.1:=by
 rw[List.getElem?_map]
 cases l[i]? with
 |none=>exact⟨rfl,rfl,rfl⟩
 |some c=>
  simp only[Option.map_some,Option.getD_some]
  unfold ZbT
  split<;>exact⟨rfl,rfl,rfl⟩
theorem Zl6 (n:ZaA) (q:Zbq) (l:List Zbd) (k lo hi:Int):Zej (l.map (ZbT n q)) k lo hi=Zej l k lo hi:=by
 have h:Zit (l.map (ZbT n q)) k lo hi=Zit l k lo hi:=by
  funext i
  obtain⟨a1,a2,a3⟩:=ZhL n q l i
  obtain⟨b1,b2,b3⟩:=ZhL n q l (i - 1)
  unfold Zit Zk8 Zlg ZkQ
  rw[a1,a2,a3,b1,b3]
 unfold Zej
 rw[List.length_map,h]
theorem Zna (n:ZaA) (q:Zbq) (a:Int): (rn (Za7 n q) a).2.2.2.2.2.2.2.1=(rn n a).2.2.2.2.2.2.2.1.map (ZbT n q):=by
 unfold rn
 show (((n.2.2.1.map (Zcw n q))[a.toNat]?).getD u0).2.2.2.2.2.2.2.1=_
 rw[List.getElem?_map]
 cases n.2.2.1[a.toNat]? <;>rfl
theorem Zmw (n:ZaA) (q:Zbq) (i:Nat):Zce (Za7 n q) i=Zce n i:=by
 have hlen: (Za7 n q).2.2.1.length=n.2.2.1.length:=List.length_map ..
 unfold Zce Zm4 Zpa
 simp only[Zna,List.length_map,hlen]
 have hcl: ∀ (l:List Zbd) (x:Int),(cl (l.map (ZbT n q)) x).1=(cl l x).1:=fun l x=>(ZhL n q l _).1
 simp only[hcl]
 rfl
theorem Zom (n:ZaA) (q:Zbq) {i:Nat} (hi:i<n.2.2.1.length):Zj6 (Za7 n q) i=Zj6 n i:=by
 have hg: ∀j,j<n.2.2.1.length→((Za7 n q).2.2.1[j]?).getD u0=Zcw n q ((n.2.2.1[j]?).getD u0):=by
  intro j hj
  show ((n.2.2.1.map (Zcw n q))[j]?).getD u0=_
  rw[List.getElem?_map,List.getElem?_eq_getElem hj];rfl
 unfold Zj6
 rw[hg i hi]
 have hd: (∃j,j<i∧runK (((Za7 n q).2.2.1[j]?).getD u0)=runK (Zcw n q ((n.2.2.1[i]?).getD u0)))↔ ∃j,j<i∧runK ((n.2.2.1[j]?).getD u0)=runK ((n.2.2.1[i]?).getD u0):=by
  constructor
  ·rintro ⟨j,hj,e⟩
   rw[hg j (by omega)] at e
   exact⟨j,hj,e⟩
  ·rintro ⟨j,hj,e⟩
   refine⟨j,hj, ?_⟩
   rw[hg j (by omega)]
   exact e
 have hcE:Zej (Zcw n q ((n.2.2.1[i]?).getD u0)).2.2.2.2.2.2.2.1 ((Za7 n q).1.length:Int) 0 3155932800=Zej ((n.2.2.1[i]?).getD u0).2.2.2.2.2.2.2.1 (n.1.length:Int) 0 3155932800:=Zl6 n q _ _ _ _
 simp only[hcE,hd]
 rfl
theorem Zmj {n:ZaA} (q:Zbq) (hp:n.2.2.2.2.1.length≤4096) (h:Whole n):Whole (Za7 n q):=by
 have hlen: (Za7 n q).2.2.1.length=n.2.2.1.length:=List.length_map ..
 have hP: (∀i,i< (ZeD n q).length→Zbz n.1.length (ZeD n q) i=0)∧ ∀c,F59 (ZeD n q) (n.1.length:Int)=some c→ZbC c (ZeD n q)=true:=by
  unfold ZeD
  split
  ·exact ZmI h.sound.stops hp (ZaF.1 h.q) h.w
  ·exact⟨ZaF.1 h.q,h.w⟩
 refine⟨h.s,h.t,by rw[hlen];exact h.u, ?_,h.v, ?_,ZaF.2 hP.1,hP.2,h.z⟩
 ·rw[hlen]
  exact ZaF.2 fun i hi=>by rw[Zom n q hi];exact ZaF.1 h.f i hi
 ·exact ZaF.2 fun i hi=>by rw[Zmw];exact ZaF.1 h.g i hi
theorem Zqj {n:ZaA} (q:Zbq) (h:Fit n):Fit (Za7 n q):=by
 refine⟨h.stops,h.routes, ?_, ?_, ?_,h.prods⟩
 ·intro r hr
  obtain⟨x,hx,rfl⟩:=List.mem_map.1 (show r∈n.2.2.1.map (Zcw n q) from hr)
  exact h.runs x hx
 ·intro r hr
  obtain⟨x,hx,rfl⟩:=List.mem_map.1 (show r∈n.2.2.1.map (Zcw n q) from hr)
  show (x.2.2.2.2.2.2.2.1.map _).length≤_
  rw[List.length_map]
  exact h.calls x hx
 ·show (ZeD n q).length≤_
  unfold ZeD
  split
  ·exact Nat.le_trans (List.length_filter_le _ _) h.paths
  ·exact h.paths
end Q
namespace Q
open Tr Go
open Option (bind_some)
theorem Zuo {a b:Nat} (ha:a<65536) (hb:b<65536):qor .i64 (a:Int) (b:Int)=((a ||| b:Nat):Int):=by
 have hor:a ||| b<2 ^ 16:=Nat.or_lt_two_pow (n:=16) (by omega) (by omega)
 unfold qor
 have h1: (BitVec.ofInt IntKind.i64.bits (a:Int) ||| BitVec.ofInt IntKind.i64.bits (b:Int)).toNat=a ||| b:=by
  rw[BitVec.toNat_or,BitVec.ofInt_natCast,BitVec.ofInt_natCast,BitVec.toNat_ofNat,BitVec.toNat_ofNat]
  show a % 2 ^ 64 ||| b % 2 ^ 64=a ||| b
  rw[Nat.mod_eq_of_lt (show a<2 ^ 64 by omega),Nat.mod_eq_of_lt (show b<2 ^ 64 by omega)]
 rw[h1,Zaj (by omega) (by omega)]
theorem Zmf {z:Int} (h0:0≤z) (h1:z<16):Ztq .i64 1 z=some ((2 ^ z.toNat:Nat):Int):=by
 have:z=0∨z=1∨z=2∨z=3∨z=4∨z=5∨z=6∨z=7∨z=8∨z=9∨z=10∨z=11∨z=12∨z=13∨z=14∨z=15:=by omega
 rcases this with rfl|rfl|rfl|rfl|rfl|rfl|rfl|rfl|rfl|rfl|rfl|rfl|rfl|rfl|rfl|rfl<;>decide
theorem ZkL {z:Int} (h1:z<16):2 ^ z.toNat<65536:=Nat.pow_lt_pow_right (by omega) (show z.toNat<16 by omega)
abbrev ZaP:=Bool×Int×Int×Int×Int×Int×Int×Int×Bool×Unit
abbrev Zfh:=Int×Int×Int×Int×Unit
abbrev Zvx:=List ZaP×Unit
def Za0 (n:ZaA) (x:ZaP):List Zbd:=(rn n x.2.1).2.2.2.2.2.2.2.1
def Zba (n:ZaA) (x:ZaP):Bool:=inR x.2.1 n.2.2.1.length&& (decide (0≤x.2.2.1) && (decide (x.2.2.1<x.2.2.2.1) &&decide (x.2.2.2.1< ((Za0 n x).length:Int))))
theorem ZhW (n:ZaA) (x:ZaP):F75 n x=some (Zba n x):=by
 unfold F75 Zba
 by_cases h:inR x.2.1 n.2.2.1.length=true
 ·have e:idx n.2.2.1 x.2.1=some (rn n x.2.1):=Za1 h u0
  simp only[e,bind_some,h]
  unfold inR at h
  simp only[Bool.and_eq_true,decide_eq_true_eq] at h
  rw[decide_eq_false (show¬x.2.1<0 by omega),decide_eq_false (show¬ (n.2.2.1.length:Int)≤x.2.1 by omega)]
  simp only[cond_false,bind_some]
  unfold Za0
  generalize decide (0≤x.2.2.1)=a1
  generalize decide (x.2.2.1<x.2.2.2.1)=a2
  generalize decide (x.2.2.2.1< ((rn n x.2.1).2.2.2.2.2.2.2.1.length:Int))=a3
  cases a1<;>cases a2<;>cases a3<;>rfl
 ·have h' :inR x.2.1 n.2.2.1.length=false:=by simpa using h
  rw[h']
  unfold inR at h
  simp only[Bool.and_eq_true,decide_eq_true_eq] at h
  by_cases h1:x.2.1<0
  ·rw[decide_eq_true h1];rfl
  ·rw[decide_eq_false h1,decide_eq_true (show (n.2.2.1.length:Int)≤x.2.1 by omega)];rfl
def zn (n:ZaA) (l:List Zbd) (j:Nat):Nat:=2 ^ (Zci n ((l[j]?).getD c0).1).2.1.toNat
def zN (n:ZaA) (l:List Zbd) (a:Nat):Nat→Nat
 |0=>0
 |k+1=>zN n l a k ||| zn n l (a+k)
theorem ZgM {n:ZaA} (h:Zdi n) {a:Int} (h0:0≤a) (h1:a< (n.1.length:Int)):idx n.1 a=some (Zci n a)∧0≤(Zci n a).2.1∧(Zci n a).2.1<16:=by
 have hi:inR a n.1.length=true:=by unfold inR;rw[decide_eq_true h0,decide_eq_true h1];rfl
 refine⟨Za1 hi s0, ?_⟩
 have hl:a.toNat<n.1.length:=by omega
 unfold Zci
 rw[Zah hl]
 exact h.zone _ (List.getElem_mem hl)
theorem Znz {n:ZaA} (h:Zdi n) {l:List Zbd} (hc: ∀c∈l,0≤c.1∧c.1< (n.1.length:Int)) {a:Nat} : ∀k,a+k≤l.length→zN n l a k<65536
 |0,_=>by unfold zN;omega
 |k+1,hk=>by
  have ih:=Znz h hc (a:=a) k (by omega)
  have hj:a+k<l.length:=by omega
  have hcj:=hc _ (List.getElem_mem hj)
  have hz:=(ZgM h hcj.1 hcj.2).2
  have:zn n l (a+k)<65536:=by
   unfold zn
   rw[Zah hj]
   exact ZkL hz.2
  exact Nat.or_lt_two_pow (n:=16) ih this
theorem ZoG {n:ZaA} (h:Zdi n) {x:ZaP} (hx:Zba n x=true):F82 n x=some ((zN n (Za0 n x) x.2.2.1.toNat (x.2.2.2.1.toNat+1 - x.2.2.1.toNat):Nat):Int):=by
 unfold Zba at hx
 simp only[Bool.and_eq_true,decide_eq_true_eq] at hx
 obtain⟨hr,h0,h1,h2⟩:=hx
 have hm:=ZgZ hr
 have hmany:=(h.many _ hm).2
 have hc: ∀c∈Za0 n x,0≤c.1∧c.1< (n.1.length:Int):=h.call _ hm
 have e:idx n.2.2.1 x.2.1=some (rn n x.2.1):=Za1 hr u0
 unfold F82
 rw[e]
 simp only[bind_some]
 have hfold: (rn n x.2.1).2.2.2.2.2.2.2.1=Za0 n x:=rfl
 simp only[hfold] at hmany ⊢
 generalize Za0 n x=l at*
 obtain⟨a,ha⟩: ∃a:Nat,x.2.2.1=(a:Int):=⟨x.2.2.1.toNat,by omega⟩
 obtain⟨b,hb⟩: ∃b:Nat,x.2.2.2.1=(b:Int):=⟨x.2.2.2.1.toNat,by omega⟩
 rw[ha] at h0 h1
 rw[hb] at h1 h2
 rw[ha,hb]
 simp only[Int.toNat_natCast]
 rw[Za8 (n:=b+1 - a) (fun i (st:Int×Int)=>st=(((zN n l a i:Nat):Int),((a+i:Nat):Int))) (fun _=>0) (fun _=>((zN n l a (b+1 - a):Nat):Int)) ((zN n l a (b+1 - a):Nat):Int) ?_ ?_ ?_ ((0:Int),(a:Int)) rfl]
 ·unfold pick
  rw[ZbR fun _ _=>rfl]
  rfl
 ·rintro i _ hi rfl _
  have hj:a+i<l.length:=by omega
  have hcj:=hc _ (List.getElem_mem hj)
  obtain⟨hs1,hs2,hs3⟩:=ZgM h hcj.1 hcj.2
  refine⟨(((zN n l a (i+1):Nat):Int),((a+(i+1):Nat):Int)), ?_,rfl⟩
  have hw:IntKind.wrap .i64 (((a+i:Nat):Int)+1)=((a+(i+1):Nat):Int):=by rw[Zaj (by omega) (by omega)];omega
  simp only[decide_eq_true (show ((a+i:Nat):Int)≤(b:Int) by omega),cond_true,Zag hj,bind_some,hs1,Zmf hs2 hs3,hw]
  rw[Zuo (Znz h hc (a:=a) i (by omega)) (ZkL hs3)]
  have:zN n l a (i+1)=zN n l a i ||| 2 ^ (Zci n l[a+i].1).2.1.toNat:=by
   show zN n l a i ||| zn n l (a+i)=_
   unfold zn
   rw[Zah hj]
  rw[this]
 ·intro i s _ _ hh;exact absurd rfl hh
 ·rintro _ rfl
  simp only[decide_eq_false (show¬ ((a+(b+1 - a):Nat):Int)≤(b:Int) by omega),cond_false]
theorem Zsj {k:Nat} (h:0<k) (hk:k≤9223372036854775807):inb (IntKind.wrap .i64 ((k:Int) - 1)) k=some (k - 1):=by
 have e:IntKind.wrap .i64 ((k:Int) - 1)=((k - 1:Nat):Int):=by rw[Zaj (by omega) (by omega)];omega
 rw[e,ZaL (by omega)]
theorem ZpW {α:Type} {l:List α} {k:Nat} (h:k<l.length) (w:α): (l.set k w)[k]? =some w:=by simp [h]
def Zuj (n:ZaA) (x:ZaP):Nat:=zN n (Za0 n x) x.2.2.1.toNat (x.2.2.2.1.toNat+1 - x.2.2.1.toNat)
def r00:Zdv:=([],0,false,())
def ZgP (n:ZaA) (x:ZaP):Zdv:=(n.2.1[(rn n x.2.1).2.2.2.2.1.toNat]?).getD r00
theorem Zr4 {n:ZaA} (h:Zdi n) {x:ZaP} (hx:Zba n x=true):idx n.2.2.1 x.2.1=some (rn n x.2.1)∧idx n.2.1 (rn n x.2.1).2.2.2.2.1=some (ZgP n x)∧0≤(ZgP n x).2.1∧(ZgP n x).2.1<16:=by
 unfold Zba at hx
 simp only[Bool.and_eq_true] at hx
 have hm:=ZgZ hx.1
 have h1:=h.route _ hm
 have hi:inR (rn n x.2.1).2.2.2.2.1 n.2.1.length=true:=by unfold inR;rw[decide_eq_true h1.1,decide_eq_true h1.2];rfl
 refine⟨Za1 hx.1 u0,Za1 hi r00, ?_⟩
 have hl: (rn n x.2.1).2.2.2.2.1.toNat<n.2.1.length:=by omega
 unfold ZgP
 rw[Zah hl]
 have:=h.mode _ (List.getElem_mem hl)
 omega
def ZmV (n:ZaA) (x:ZaP):Zfh:=(x.2.2.2.2.2.2.1,x.2.2.2.2.2.2.2.1,((Zuj n x:Nat):Int),((2 ^ (ZgP n x).2.1.toNat:Nat):Int),())
def ZjJ (n:ZaA) (x:ZaP) (l:List Zfh) (v:Zfh):List Zfh:=
 l.set (l.length - 1) (v.1,x.2.2.2.2.2.2.2.1,qor .i64 v.2.2.1 ((Zuj n x:Nat):Int),qor .i64 v.2.2.2.1 ((2 ^ (ZgP n x).2.1.toNat:Nat):Int),())
abbrev ZbB (x:ZaP):Bool:=x.2.2.2.2.2.2.2.2.1
def ZgC (n:ZaA) (x:ZaP) (out:List Zfh):List Zfh:=match out[out.length - 1]? with
 |some v=>ZjJ n x out v
 |none=>out
def Zcf (n:ZaA):List ZaP→Bool→List Zfh→List Zfh×Int
 | [],_,out=>(out,0)
 |x::l,rode,out=>
  if x.1=true∧Zba n x=false then([],9)
  else if ZbB x=true∧(x.1=false∨rode=false) then([],19)
  else if x.1=true then Zcf n l true (if ZbB x=true then ZgC n x out else out++[ZmV n x])
  else Zcf n l false out
theorem Zlt (n:ZaA) (x:ZaP) (l:List ZaP) (rode:Bool) (out:List Zfh):Zcf n (x::l) rode out=if x.1=true∧Zba n x=false then([],9)
  else if ZbB x=true∧(x.1=false∨rode=false) then([],19)
  else if x.1=true then Zcf n l true (if ZbB x=true then ZgC n x out else out++[ZmV n x])
  else Zcf n l false out:=rfl
theorem Zh6 (n:ZaA) (x:ZaP) (out:List Zfh): (ZgC n x out).length=out.length:=by
 unfold ZgC
 split
 ·unfold ZjJ;rw[List.length_set]
 ·rfl
theorem Zl7 {c d:Bool} {e:Int} {K:Option Int} {k:Int} (h:K=some k): (Option.bind (bif c then some true else some d) fun x=>bif x then some e else K)=some (bif c||d then e else k):=by
 subst h;cases c<;>cases d<;>rfl
theorem ZeX {c d:Bool} {e:Int} {K:Option Int} {k:Int} (h:K=some k): (Option.bind (bif c then some d else some false) fun x=>bif x then some e else K)=some (bif c&&d then e else k):=by
 subst h;cases c<;>cases d<;>rfl
theorem Ze5 {c:Bool} {e:Int} {K:Option Int} {k:Int} (h:K=some k): (bif c then some e else K)=some (bif c then e else k):=by
 subst h;cases c<;>rfl
theorem Zd6 {o:Option Bool} {c:Bool} {e:Int} {K:Option Int} {k:Int} (ho:o=some c) (h:K=some k): (Option.bind o fun x=>bif x then some e else K)=some (bif c then e else k):=by
 subst ho;subst h;cases c<;>rfl
theorem ZaB {c:Bool} {e k:Int} (he:e≠0): (bif c then e else k)=0↔c=false∧k=0:=by
 cases c<;>simp [he]
def ZrX (q:Zbq) (t:Zdv):Bool:=decide (q.2.2.2.2.2.2.2.2.1=(0:Int)) ||decide (Zn5 .i64 (Int.fdiv q.2.2.2.2.2.2.2.2.1 (2 ^ (min (Int.toNat t.2.1) 64))) 1=1)
theorem Zsd (a:Int):Zn5 .i64 a 1=0∨Zn5 .i64 a 1=1:=by
 unfold Zn5
 have h: (BitVec.ofInt IntKind.i64.bits a &&& BitVec.ofInt IntKind.i64.bits 1).toNat=(BitVec.ofInt IntKind.i64.bits a).toNat % 2:=by
  rw[BitVec.toNat_and]
  show _ &&& 1=_
  rw[Nat.and_one_is_mod]
 rw[h]
 have: (BitVec.ofInt IntKind.i64.bits a).toNat % 2=0∨(BitVec.ofInt IntKind.i64.bits a).toNat % 2=1:=by omega
 rcases this with h|h<;>rw[h]
 ·left;rfl
 ·right;rfl
theorem ZsD (q:Zbq) (t:Zdv) (h0:0≤t.2.1): (bif !decide (q.2.2.2.2.2.2.2.2.1=(0:Int)) then Option.bind (ZqA .i64 q.2.2.2.2.2.2.2.2.1 t.2.1) fun x=>some (decide (Zn5 .i64 x (1:Int)=(0:Int))) else some false)=some (!ZrX q t):=by
 unfold ZrX
 have hs:ZqA .i64 q.2.2.2.2.2.2.2.2.1 t.2.1=some (Int.fdiv q.2.2.2.2.2.2.2.2.1 (2 ^ (min (Int.toNat t.2.1) 64))):=by
  unfold ZqA
  rw[if_neg (by omega)]
  rfl
 rw[hs]
 simp only[bind_some]
 cases decide (q.2.2.2.2.2.2.2.2.1=(0:Int)) with
 |true=>rfl
 |false=>
  rcases Zsd (Int.fdiv q.2.2.2.2.2.2.2.2.1 (2 ^ (min (Int.toNat t.2.1) 64))) with h|h<;>rw[h]<;>rfl
def Zix (n:ZaA) (q:Zbq) (x:ZaP):Int:=
 bif !decide ((cl (Za0 n x) x.2.2.1).1=x.2.2.2.2.1) || !decide ((cl (Za0 n x) x.2.2.2.1).1=x.2.2.2.2.2.1) then 24 else
 bif !decide ((cl (Za0 n x) x.2.2.1).2.2.1=x.2.2.2.2.2.2.1) || !decide ((cl (Za0 n x) x.2.2.2.1).2.1=x.2.2.2.2.2.2.2.1) then 10 else
 bif (rn n x.2.1).2.2.2.2.2.2.1 then 27 else
 bif q.2.2.2.2.2.2.1&& !(rn n x.2.1).2.2.2.2.2.1 then 29 else
 bif q.2.2.2.2.2.2.2.1&& !(Zst n (rn n x.2.1)).2.2.1 then 30 else
 bif !ZrX q (Zst n (rn n x.2.1)) then 31 else
 bif !ZbB x&& !(cl (Za0 n x) x.2.2.1).2.2.2.1 then 25 else
 bif !ZbB x&& !Zj7 n q x.2.2.2.2.1 then 29 else 0
theorem Zlb {n:ZaA} {x:ZaP} (hx:Zba n x=true):idx n.2.2.1 x.2.1=some (rn n x.2.1)∧rn n x.2.1∈n.2.2.1∧idx (rn n x.2.1).2.2.2.2.2.2.2.1 x.2.2.1=some (cl (Za0 n x) x.2.2.1)∧idx (rn n x.2.1).2.2.2.2.2.2.2.1 x.2.2.2.1=some (cl (Za0 n x) x.2.2.2.1):=by
 unfold Zba at hx
 simp only[Bool.and_eq_true,decide_eq_true_eq] at hx
 obtain⟨hr,h0,h1,h2⟩:=hx
 unfold Za0 at h2
 refine⟨Za1 hr u0,ZgZ hr,Za1 ?_ c0,Za1 ?_ c0⟩<;> (unfold inR;rw[Bool.and_eq_true,decide_eq_true_eq,decide_eq_true_eq];omega)
theorem ZkG {n:ZaA} (q:Zbq) {s:Int} (h:inR s n.1.length=true):F86 n q s=some (Zj7 n q s):=by
 unfold F86 Zj7
 rw[show idx n.1 s=some (Zci n s) from Za1 h s0]
 simp only[bind_some]
 cases q.2.2.2.2.2.2.1<;>cases (Zci n s).2.2.1<;>rfl
theorem ZrK {n:ZaA} (hS:Zdi n) (q:Zbq) {x:ZaP} (hx:Zba n x=true) (hf:inR x.2.2.2.2.1 n.1.length=true):F95 n q x=some (Zix n q x):=by
 obtain⟨h1,h2,h3,h4⟩:=Zlb hx
 obtain⟨h5,h6⟩:=ZsQ hS h2
 have hm:=(hS.mode _ h6).1
 unfold F95 Zix
 rw[h1]
 simp only[bind_some]
 rw[h3,h4,h5]
 simp only[bind_some]
 refine Zl7 (Zl7 (Ze5 (ZeX (ZeX (Zd6 (ZsD q _ hm) (ZeX (Zd6 (c:= !ZbB x&& !Zj7 n q x.2.2.2.2.1) ?_ rfl)))))))
 rw[ZkG q hf]
 unfold ZbB
 cases x.2.2.2.2.2.2.2.2.1<;>rfl
def Zdz (x:ZaP) (p:Zca):Bool:=decide (p.1=x.2.2.2.2.1) && (decide (p.2.1=x.2.2.2.2.2.1) &&decide (p.2.2.1=IntKind.wrap .i64 (x.2.2.2.2.2.2.2.1 - x.2.2.2.2.2.2.1)))
def Zgt (q:Zbq) (p:Zca):Bool:=p.2.2.2.1|| !q.2.2.2.2.2.2.1
def Zgs (n:ZaA) (q:Zbq) (x:ZaP):Int:=bif n.2.2.2.2.1.any fun p=>Zdz x p&&Zgt q p then 0 else bif n.2.2.2.2.1.any (Zdz x) then 29 else 18
theorem Zf8 {α:Type} {l:List α} {i:Nat} (h:i<l.length) (f:α→Bool): (l.take (i+1)).any f=((l.take i).any f||f l[i]):=by
 rw[List.take_succ_eq_append_getElem h,List.any_append]
 simp
theorem ZsN {α:Type} {l:List α} {i:Nat} (h:i<l.length) {f:α→Bool} (hf:f l[i]=true):l.any f=true:=List.any_eq_true.2 ⟨_,List.getElem_mem h,hf⟩
theorem Zl2 {n:ZaA} (hp:n.2.2.2.2.1.length≤4096) (q:Zbq) (x:ZaP):F96 n q x=some (Zgs n q x):=by
 unfold F96
 refine Zb5 (fun r:Int ⊕ Int=>Sum.elim id id r=Zgs n q x) ?_ ?_
 ·refine Za9 n.2.2.2.2.1.length _ (fun i (s:Int×Int)=>s=((bif (n.2.2.2.2.1.take i).any (Zdz x) then 29 else 18),(i:Int))∧((n.2.2.2.2.1.take i).any fun p=>Zdz x p&&Zgt q p)=false) ?_ ?_ _ ⟨rfl,rfl⟩
  ·rintro i _ hi ⟨rfl,ha⟩
   simp only[Zay hi,cond_true,Zag hi,bind_some,Zan hi (show _≤9223372036854775807 by omega)]
   have e1: (bif !decide ((n.2.2.2.2.1[i]).1=x.2.2.2.2.1) then some true else bif !decide ((n.2.2.2.2.1[i]).2.1=x.2.2.2.2.2.1) then some true else some !decide ((n.2.2.2.2.1[i]).2.2.1=IntKind.wrap .i64 (x.2.2.2.2.2.2.2.1 - x.2.2.2.2.2.2.1)))=some (!Zdz x n.2.2.2.2.1[i]):=by
    unfold Zdz
    cases decide ((n.2.2.2.2.1[i]).1=x.2.2.2.2.1)<;>cases decide ((n.2.2.2.2.1[i]).2.1=x.2.2.2.2.2.1)<;>rfl
   have e2: (bif (n.2.2.2.2.1[i]).2.2.2.1 then some true else some !q.2.2.2.2.2.2.1)=some (Zgt q n.2.2.2.2.1[i]):=by
    unfold Zgt
    cases (n.2.2.2.2.1[i]).2.2.2.1<;>rfl
   rw[e1,e2]
   simp only[bind_some]
   cases hm:Zdz x n.2.2.2.2.1[i] with
   |false=>
    left
    refine⟨_,rfl, ?_, ?_⟩
    ·rw[Zf8 hi,hm,Bool.or_false]
    ·rw[Zf8 hi,ha,hm];rfl
   |true=>
    cases hfr:Zgt q n.2.2.2.2.1[i] with
    |true=>
     right
     refine⟨_,rfl, ?_⟩
     unfold Zgs
     rw[ZsN hi (f:=fun p=>Zdz x p&&Zgt q p) (by rw[hm,hfr];rfl)]
     rfl
    |false=>
     left
     refine⟨_,rfl, ?_, ?_⟩
     ·rw[Zf8 hi,hm,Bool.or_true];rfl
     ·rw[Zf8 hi,ha,hm,hfr];rfl
  ·rintro _ ⟨rfl,ha⟩
   simp only[ZaC,cond_false]
   refine⟨_,rfl, ?_⟩
   rw[List.take_length] at ha ⊢
   unfold Zgs
   rw[ha];rfl
 ·rintro (r|r) hr
  ·exact congrArg some hr
  ·exact congrArg some hr
def ZjV (n:ZaA) (q:Zbq) (x:ZaP):Int:=
 bif !inR x.2.2.2.2.1 n.1.length|| !inR x.2.2.2.2.2.1 n.1.length then 9 else
 bif (bif x.1 then !Zba n x else !decide (x.2.1=0) || (!decide (x.2.2.1=0) || (!decide (x.2.2.2.1=0) ||ZbB x))) then 9 else
 bif !decide (0≤x.2.2.2.2.2.2.1∧x.2.2.2.2.2.2.1≤3155932800) || !decide (0≤x.2.2.2.2.2.2.2.1∧x.2.2.2.2.2.2.2.1≤3155932800) then 10 else
 bif x.1 then Zix n q x else Zgs n q x
theorem ZgL {o:Option Bool} {c:Bool} {e:Int} {K:Option Int} {k:Int} (ho:o=some c) (h:c=false→K=some k): (Option.bind o fun x=>bif x then some e else K)=some (bif c then e else k):=by
 subst ho
 cases c
 ·exact h rfl
 ·rfl
theorem Ztp {n:ZaA} (hS:Zdi n) (hp:n.2.2.2.2.1.length≤4096) (q:Zbq) (x:ZaP):F93 n q x=some (ZjV n q x):=by
 have hk:n.1.length≤9223372036854775807:=by have:=hS.stops;omega
 unfold F93 ZjV
 rw[Ze2 _ hk,Ze2 _ hk]
 refine ZgL (c:= !inR x.2.2.2.2.1 n.1.length|| !inR x.2.2.2.2.2.1 n.1.length) (by cases inR x.2.2.2.2.1 n.1.length<;>rfl) fun hst=> ?_
 rw[ZhW]
 refine ZgL (c:=bif x.1 then !Zba n x else !decide (x.2.1=0) || (!decide (x.2.2.1=0) || (!decide (x.2.2.2.1=0) ||ZbB x))) ?_ fun hex=> ?_
 ·unfold ZbB
  cases x.1 with
  |true=>cases Zba n x<;>rfl
  |false=>cases decide (x.2.1=0)<;>cases decide (x.2.2.1=0)<;>cases decide (x.2.2.2.1=0)<;>rfl
 ·rw[ZfB,ZfB]
  refine ZgL (c:= !decide (0≤x.2.2.2.2.2.2.1∧x.2.2.2.2.2.2.1≤3155932800) || !decide (0≤x.2.2.2.2.2.2.2.1∧x.2.2.2.2.2.2.2.1≤3155932800)) ?_ fun _=> ?_
  ·simp only[bind_some]
   cases decide (0≤x.2.2.2.2.2.2.1∧x.2.2.2.2.2.2.1≤3155932800)<;>rfl
  ·cases hx1:x.1 with
   |false=>
    simp only[cond_false]
    rw[Zl2 hp];rfl
   |true=>
    rw[hx1] at hex
    simp only[cond_true] at hex ⊢
    rw[ZrK hS q (by simpa using hex) (by
     rw[Bool.or_eq_false_iff] at hst
     simpa using hst.1)]
    rfl
def ZmH (a b:ZaP) (stay:Bool) (l:Zkh):Bool:=decide (l.1=a.2.1) && (decide (l.2.1=a.2.2.2.1) && (decide (l.2.2.1=b.2.1) && (decide (l.2.2.2.1=b.2.2.1) && (l.2.2.2.2.1==stay))))
def Zg9 (n:ZaA) (a b:ZaP) (stay:Bool):Bool:=n.2.2.2.1.any (ZmH a b stay)
theorem Zjf        {n : ZaA } (hl : n.2.2.2.1.length ≤ 4096) (a b : ZaP ) (stay : Bool) : F94 n a b stay = some (Zg9   n a b stay) := by
  unfold F94
  refine Zb5     (fun r : Unit ⊕ Bool => Sum.elim (fun _ => false) id r = Zg9   n a b stay) ?_ ?_
  · unfold Zg9
    refine Za9     n.2.2.2.1.length _ (fun i (s : Int) => s = (i : Int) ∧ (n.2.2.2.1.take i).any (ZmH   a b stay) = false) ?_ ?_ _ ⟨rfl, rfl⟩
    · rintro i _ hi ⟨rfl, ha⟩
      simp only [Zay    hi, cond_true, Zag     hi, bind_some, Zan       hi (show _ ≤ 9223372036854775807 by omega)]
      have e1 : (bif decide ((n.2.2.2.1[i]).1 = a.2.1) then
 bif decide ((n.2.2.2.1[i]).2.1 = a.2.2.2.1) then
 bif decide ((n.2.2.2.1[i]).2.2.1 = b.2.1) then
 bif decide ((n.2.2.2.1[i]).2.2.2.1 = b.2.2.1) then some ((n.2.2.2.1[i]).2.2.2.2.1 == stay) else some false
 else some false
 else some false
 else some false) = some (ZmH   a b stay n.2.2.2.1[i]) := by
        unfold ZmH
        cases decide ((n.2.2.2.1[i]).1 = a.2.1) <;> cases decide ((n.2.2.2.1[i]).2.1 = a.2.2.2.1) <;> cases decide ((n.2.2.2.1[i]).2.2.1 = b.2.1) <;> cases decide ((n.2.2.2.1[i]).2.2.2.1 = b.2.2.1) <;> rfl
      erw [e1]
      simp only [bind_some]
      cases hm : ZmH   a b stay n.2.2.2.1[i] with
      | false =>
        left
        refine ⟨_, rfl, rfl, ?_⟩
        rw [Zf8      hi, ha, hm]; rfl
      | true =>
        right
        refine ⟨_, rfl, ?_⟩
        rw [ZsN    hi hm]; rfl
    · rintro _ ⟨rfl, ha⟩
      simp only [ZaC    , cond_false]
      refine ⟨_, rfl, ?_⟩
      rw [List.take_length] at ha
      rw [ha]; rfl
  · rintro (r | r) hr
    · exact congrArg some hr
    · exact congrArg some hr
def ZbY (n:ZaA) (a b:ZaP):Int:=
 bif !decide (a.2.2.2.2.2.1=b.2.2.2.2.1) then 24 else
 bif !a.1&& !b.1 then 32 else
 bif ZbB b then(bif !a.1|| !Zg9 n a b true then 19 else bif decide (b.2.2.2.2.2.2.1<a.2.2.2.2.2.2.2.1) then 10 else 0) else
 bif !b.1 then(bif !decide (b.2.2.2.2.2.2.1=a.2.2.2.2.2.2.2.1) then 10 else 0) else
 bif !a.1 then(bif decide (b.2.2.2.2.2.2.1<a.2.2.2.2.2.2.2.1) then 28 else 0) else
 bif decide (IntKind.wrap .i64 (a.2.2.2.2.2.2.2.1+(Zci n a.2.2.2.2.2.1).2.2.2.1)≤b.2.2.2.2.2.2.1) || (Zg9 n a b false&&decide (a.2.2.2.2.2.2.2.1≤b.2.2.2.2.2.2.1)) then 0 else 28
theorem Zoa {n:ZaA} (hl:n.2.2.2.1.length≤4096) {a b:ZaP} (ha:inR b.2.2.2.2.1 n.1.length=true):F91 n a b=some (ZbY n a b):=by
 unfold F91 ZbY
 rw[Zjf hl,Zjf hl]
 by_cases h24:a.2.2.2.2.2.1=b.2.2.2.2.1
 case neg=>rw[decide_eq_false h24];rfl
 rw[decide_eq_true h24]
 simp only[Bool.not_true,cond_false,bind_some]
 refine ZeX ?_
 unfold ZbB
 cases b.2.2.2.2.2.2.2.2.1 with
 |true=>
  simp only[cond_true]
  exact Zl7 (by cases decide (b.2.2.2.2.2.2.1<a.2.2.2.2.2.2.2.1)<;>rfl)
 |false=>
  simp only[cond_false]
  cases b.1 with
  |false=>
   simp only[Bool.not_false,cond_true]
   cases decide (b.2.2.2.2.2.2.1=a.2.2.2.2.2.2.2.1)<;>rfl
  |true=>
   simp only[Bool.not_true,cond_false]
   cases a.1 with
   |false=>
    simp only[Bool.not_false,cond_true]
    cases decide (b.2.2.2.2.2.2.1<a.2.2.2.2.2.2.2.1)<;>rfl
   |true=>
    simp only[Bool.not_true,cond_false]
    have hi:idx n.1 a.2.2.2.2.2.1=some (Zci n a.2.2.2.2.2.1):=by rw[h24];exact Za1 ha s0
    rw[hi]
    simp only[bind_some]
    cases decide (IntKind.wrap .i64 (a.2.2.2.2.2.2.2.1+(Zci n a.2.2.2.2.2.1).2.2.2.1)≤b.2.2.2.2.2.2.1)<;>cases Zg9 n a b false<;>cases decide (a.2.2.2.2.2.2.2.1≤b.2.2.2.2.2.2.1)<;>rfl
def g0:ZaP:=(false,0,0,0,0,0,0,0,false,())
def lg (L:List ZaP) (i:Nat):ZaP:=(L[i]?).getD g0
def Zjh (n:ZaA) (q:Zbq) (L:List ZaP):Int:=
 bif !decide ((lg L 0).2.2.2.2.1=q.1) then 24 else
 bif ZbB (lg L 0) then 19 else
 bif !(lg L 0).1&& (decide (1<L.length) && ((lg L 1).1&& !decide ((lg L 1).2.2.2.2.2.2.1=(lg L 0).2.2.2.2.2.2.2.1))) then 10 else
 bif !(lg L 0).1&& (decide (L.length=1) && (bif q.2.2.2.1 then !decide ((lg L 0).2.2.2.2.2.2.2.1=q.2.2.1) else !decide ((lg L 0).2.2.2.2.2.2.1=q.2.2.1))) then 10 else
 bif !q.2.2.2.1&&decide ((lg L 0).2.2.2.2.2.2.1<q.2.2.1) then 10 else
 bif q.2.2.2.2.2.2.2.2.2.1&& ((lg L 0).1&&decide ((lg L 0).2.2.2.2.2.2.1<IntKind.wrap .i64 (q.2.2.1+(Zci n q.1).2.2.2.1))) then 28 else 0
theorem Zfv {L:List ZaP} {i:Nat} (h:i<L.length):idx L (i:Int)=some (lg L i):=by
 rw[Zag h]
 unfold lg
 rw[Zah h]
theorem Zn8 {n:ZaA} {q:Zbq} {L:List ZaP} (h0:0<L.length) (hq:inR q.1 n.1.length=true):F90 n q (L,())=some (Zjh n q L):=by
 unfold F90 Zjh
 have e0:idx (L,()).1 (0:Int)=some (lg L 0):=Zfv h0
 rw[e0]
 simp only[bind_some]
 refine Ze5 (Zd6 (c:=ZbB (lg L 0)) rfl ?_ : (Option.bind (some _) fun _=>_)=_)
 refine Zd6 (c:= !(lg L 0).1&& (decide (1<L.length) && ((lg L 1).1&& !decide ((lg L 1).2.2.2.2.2.2.1=(lg L 0).2.2.2.2.2.2.2.1)))) ?_ (Zd6 (c:= !(lg L 0).1&& (decide (L.length=1) && (bif q.2.2.2.1 then !decide ((lg L 0).2.2.2.2.2.2.2.1=q.2.2.1) else !decide ((lg L 0).2.2.2.2.2.2.1=q.2.2.1)))) ?_ (ZeX (Zd6 (c:=q.2.2.2.2.2.2.2.2.2.1&& ((lg L 0).1&&decide ((lg L 0).2.2.2.2.2.2.1<IntKind.wrap .i64 (q.2.2.1+(Zci n q.1).2.2.2.1)))) ?_ rfl)))
 ·by_cases h1:1<L.length
  ·have e1:idx L (1:Int)=some (lg L 1):=Zfv h1
   rw[decide_eq_true (show (1:Int)< (L.length:Int) by omega),decide_eq_true h1,e1]
   simp only[bind_some]
   cases (lg L 0).1<;>cases (lg L 1).1<;>rfl
  ·rw[decide_eq_false (show¬ (1:Int)< (L.length:Int) by omega),decide_eq_false h1]
   cases (lg L 0).1<;>rfl
 ·rw[show decide ((L.length:Int)=1)=decide (L.length=1) from decide_eq_decide.2 (by omega)]
  cases (lg L 0).1<;>cases decide (L.length=1)<;>cases q.2.2.2.1<;>cases decide ((lg L 0).2.2.2.2.2.2.2.1=q.2.2.1)<;>cases decide ((lg L 0).2.2.2.2.2.2.1=q.2.2.1)<;>rfl
 ·rw[show idx n.1 q.1=some (Zci n q.1) from Za1 hq s0]
  simp only[bind_some]
  cases q.2.2.2.2.2.2.2.2.2.1<;>cases (lg L 0).1<;>rfl
end Q
namespace Q
open Tr Go
open Option (bind_some)
def Zmi (L:List ZaP) (i:Nat):Bool:=decide (0<i) && (lg L (i - 1)).1
theorem Zoy {n:ZaA} (h:Zdi n) (hv:F63 n=some true) (L:List ZaP) (hj:L.length≤1000):F77 n (L,())=some (Zcf n L false []):=by
 unfold F77
 rw[hv]
 simp only[bind_some,Bool.not_true,cond_false]
 refine Zb5 (fun r=>Zcf n L false []=Sum.elim (fun l:List Zfh=>(l,(0:Int))) (fun y=>y) r) ?_ ?_
 ·refine Za9 L.length _ (fun i (s:List Zfh×Int)=> ∃l,s=(l,(i:Int))∧l.length≤i∧(Zmi L i=true→0<l.length)∧Zcf n L false []=Zcf n (L.drop i) (Zmi L i) l) ?_ ?_ _ ⟨[],rfl,by simp,fun e=>(nomatch e),rfl⟩
  ·rintro i _ hi ⟨l,rfl,hl,hw,hgo⟩
   have hil:L.length≤9223372036854775807:=by omega
   rw[List.drop_eq_getElem_cons hi] at hgo
   have hnx:Zmi L (i+1)=(L[i]).1:=by
    unfold Zmi lg
    rw[Nat.add_sub_cancel,Zah hi,decide_eq_true (Nat.succ_pos i)];rfl
   have hro: (bif !(L[i]).1 then some true else bif decide ((i:Int)=(0:Int)) then some true else Option.bind (idx L (IntKind.wrap .i64 ((i:Int) - (1:Int)))) fun x5=>some !x5.1)=some (!((L[i]).1&&Zmi L i)):=by
    cases (L[i]).1 with
    |false=>rfl
    |true=>
     unfold Zmi
     by_cases h0:i=0
     ·subst h0;rfl
     ·rw[decide_eq_false (show¬ ((i:Int)=0) by omega),decide_eq_true (show 0<i by omega)]
      have e:IntKind.wrap .i64 ((i:Int) - 1)=((i - 1:Nat):Int):=by rw[Zaj (by omega) (by omega)];omega
      rw[e,Zfv (show i - 1<L.length by omega)]
      rfl
   simp only[Zay hi,cond_true,Zag hi,bind_some,Zan hi hil,ZhW]
   rw[hro]
   generalize L[i]=x at*
   rw[Zlt] at hgo
   generalize Zmi L i=w at*
   cases hx1:x.1 with
   |false=>
    rw[hx1] at hgo hnx
    simp only[cond_false,bind_some,Bool.not_false,cond_true]
    cases hs:ZbB x with
    |true=>
     right
     rw[hs] at hgo
     unfold ZbB at hs
     rw[hs]
     refine⟨_,rfl, ?_⟩
     rw[hgo];simp
    |false=>
     left
     rw[hs] at hgo
     unfold ZbB at hs
     rw[hs]
     refine⟨_,rfl,l,rfl,by omega,fun e=>(by rw[hnx] at e;cases e), ?_⟩
     rw[hgo,hnx];simp
   |true=>
    rw[hx1] at hgo hnx
    simp only[cond_true,bind_some,Bool.not_true,cond_false,Bool.true_and]
    cases hx:Zba n x with
    |false=>
     right
     rw[hx] at hgo
     refine⟨_,rfl, ?_⟩
     rw[hgo];simp
    |true=>
     rw[hx] at hgo
     obtain⟨e1,e2,e3,e4⟩:=Zr4 h hx
     have ez:=ZoG h hx
     simp only[Bool.not_true,cond_false]
     cases hs:ZbB x with
     |false=>
      left
      rw[hs] at hgo
      have hs' :=hs
      unfold ZbB at hs'
      rw[hs']
      simp only[cond_false,bind_some]
      rw[e1]
      simp only[bind_some]
      rw[e2]
      simp only[bind_some]
      rw[Zmf e3 e4,ez]
      simp only[bind_some]
      rw[Zbh (by simp;omega)]
      refine⟨_,rfl,l++[ZmV n x],rfl,by simp;omega,fun _=>by simp, ?_⟩
      rw[hgo,hnx];simp
     |true=>
      rw[hs] at hgo
      have hs' :=hs
      unfold ZbB at hs'
      rw[hs']
      simp only[cond_true,bind_some]
      cases w with
      |false=>
       right
       refine⟨_,rfl, ?_⟩
       rw[hgo];simp
      |true=>
       left
       have hpos:=hw rfl
       obtain⟨v,hv⟩: ∃v,l[l.length - 1]? =some v:=⟨_,List.getElem?_eq_getElem (by omega)⟩
       simp only[Bool.not_true,cond_false]
       rw[e1]
       simp only[bind_some]
       rw[e2]
       simp only[bind_some]
       rw[Zmf e3 e4,ez]
       have hb:=Zsj (k:=l.length) hpos (by omega)
       simp only[bind_some,List.length_set]
       rw[hb]
       simp only[bind_some,hv,ZpW (show l.length - 1<l.length by omega)]
       rw[ZpW (by rw[List.length_set];omega)]
       simp only[bind_some,List.set_set]
       have ea:ZgC n x l=ZjJ n x l v:=by unfold ZgC;rw[hv]
       refine⟨_,rfl,ZjJ n x l v,rfl,by rw[←ea,Zh6];omega,fun _=>by rw[←ea,Zh6];exact hpos, ?_⟩
       rw[hgo, ←ea,hnx];simp
  ·rintro _ ⟨l,rfl,hl,hw,hgo⟩
   simp only[ZaC,cond_false]
   refine⟨_,rfl, ?_⟩
   rw[hgo,List.drop_length]
   rfl
 ·rintro r hr
  rw[hr]
  cases r<;>rfl
theorem ZqH (z:Int): ∃r,F80 z=some r:=by
 unfold F80
 suffices h: ∃r,run _ ((0:Int),(0:Int))=some r∧True by
  obtain⟨r,h,_⟩:=h
  exact⟨r,by rw[h];rfl⟩
 refine Za9 62 (fun _=>True) (fun i (s:Int×Int)=>s.2=(i:Int)) ?_ ?_ _ rfl
 ·rintro i ⟨a,b⟩ hi hb
  left
  simp only at hb
  subst hb
  have w2:IntKind.wrap .i64 ((i:Int)+1)=((i+1:Nat):Int):=by rw[Zaj (by omega) (by omega)];omega
  have hs: ∃y,ZqA .i64 z (i:Int)=some y:=by
   unfold ZqA
   rw[if_neg (by omega)]
   exact⟨_,rfl⟩
  obtain⟨y,hy⟩:=hs
  simp only[decide_eq_true (show (i:Int)<62 by omega),cond_true,hy,bind_some,w2]
  cases decide (Zn5 .i64 y 1=1) with
  |true=>exact⟨_,rfl,rfl⟩
  |false=>exact⟨_,rfl,rfl⟩
 ·rintro ⟨a,b⟩ hb
  simp only at hb
  subst hb
  exact⟨_,rfl,trivial⟩
theorem ZgT (a b d:Int): ∃r,F81 a b d=some r:=by
 unfold F81
 cases decide (b≤a)<;>exact⟨_,rfl⟩
theorem Zmx (p:ZiD) {l:List Zfh} {i k:Nat} (hik:i≤k) (hk:k<l.length) (hl:l.length≤100): ∃r,F74 p l (i:Int) (k:Int)=some r:=by
 unfold F74
 suffices h: ∃r,run _ ((0:Int),(0:Int),(i:Int))=some r∧True by
  obtain⟨r,h,_⟩:=h
  rw[h]
  simp only[bind_some]
  obtain⟨b,hb⟩:=ZqH r.1
  obtain⟨c,hc⟩:=ZgT (l[i]).1 (l[k]).1 p.2.2.2.2.1
  rw[hb]
  simp only[bind_some,Zag (show i<l.length by omega),Zag hk,hc]
  cases decide (IntKind.wrap .i64 (IntKind.wrap .i64 ((k:Int) - (i:Int))+1)≤p.2.2.1)<;>cases decide (b≤p.2.2.2.1)<;>cases c<;>exact⟨_,rfl⟩
 refine Za9 (k+1 - i) (fun _=>True) (fun c (t:Int×Int×Int)=>t.2.2=((i+c:Nat):Int)) ?_ ?_ _ rfl
 ·rintro c ⟨a,b,d⟩ hc hd
  left
  simp only at hd
  subst hd
  have e1:IntKind.wrap .i64 (((i+c:Nat):Int)+1)=((i+(c+1):Nat):Int):=by rw[Zaj (by omega) (by omega)];omega
  simp only[decide_eq_true (show ((i+c:Nat):Int)≤(k:Int) by omega),cond_true,Zag (show i+c<l.length by omega),bind_some,e1]
  exact⟨_,rfl,rfl⟩
 ·rintro ⟨a,b,d⟩ hd
  simp only at hd
  subst hd
  rw[decide_eq_false (show¬ ((i+(k+1 - i):Nat):Int)≤(k:Int) by omega)]
  exact⟨_,rfl,trivial⟩
theorem ZmU (F:Zfx) (p:ZiD) {l:List Zfh} {i:Nat} (hi:i<l.length) (hl:l.length≤100): ∃r,F78 F p l (i:Int)=some r:=by
 unfold F78
 by_cases h0:0<i
 ·have e:IntKind.wrap .i64 ((i:Int) - 1)=((i - 1:Nat):Int):=by rw[Zaj (by omega) (by omega)];omega
  obtain⟨c,hc⟩:=ZgT (l[i - 1]).2.1 (l[i]).1 F.2.2.1
  rw[decide_eq_true (show (0:Int)< (i:Int) by omega),e]
  simp only[cond_true,Zag (show i - 1<l.length by omega),Zag hi,bind_some,hc]
  cases c<;>exact⟨_,rfl⟩
 ·rw[decide_eq_false (show¬ (0:Int)< (i:Int) by omega)]
  exact⟨_,rfl⟩
abbrev TkT:=Int×Int×Int×Int×Unit
abbrev Zhs:=Bool×Int×List TkT×Unit
def ZgD (n:Nat) (T:List Zhs):Prop:=T.length=n+1∧ ∀j r,T[j]? =some r→r.2.2.1.length+j≤n
theorem ZgD.get {n:Nat} {T:List Zhs} (h:ZgD n T) {j:Nat} (hj:j≤n): ∃r,T[j]? =some r∧r.2.2.1.length+j≤n:=by
 have hl:=h.1
 exact⟨_,List.getElem?_eq_getElem (show j<T.length by omega),h.2 _ _ (List.getElem?_eq_getElem (show j<T.length by omega))⟩
theorem ZgD.put {n:Nat} {T:List Zhs} (h:ZgD n T) {i:Nat} {r:Zhs} (hr:r.2.2.1.length+i≤n):ZgD n (T.set i r):=by
 refine⟨by rw[List.length_set];exact h.1,fun j s hs=> ?_⟩
 by_cases hij:i=j
 ·subst hij
  by_cases hi:i<T.length
  ·rw[List.getElem?_set_self hi] at hs
   obtain rfl:=Option.some.inj hs
   exact hr
  ·rw[List.getElem?_eq_none (by rw[List.length_set];omega)] at hs
   cases hs
 ·rw[List.getElem?_set_ne hij] at hs
  exact h.2 j s hs
theorem Zkg {β σ τ:Type} {o:Option β} {f:β→Option (σ ⊕ τ)} {Q:σ→Prop} (P:β→Prop) (h: ∃r,o=some r∧P r) (k: ∀r,P r→ ∃s,f r=some (.inl s)∧Q s): ∃s,Option.bind o f=some (.inl s)∧Q s:=by
 obtain⟨r,rfl,hr⟩:=h
 exact k r hr
theorem Zoj (F:Zfx) (hF:F.1.length≤4096) (l:List Zfh) (hl:l.length≤8): ∃R,F76 F l=some R:=by
 unfold F76
 have w0:IntKind.wrap .i64 ((l.length:Int)+1)=((l.length+1:Nat):Int):=by rw[Zaj (by omega) (by omega)];omega
 have hg:Zap (decide ((0:Int)≤((l.length+1:Nat):Int)∧((l.length+1:Nat):Int)≤((l.length+1:Nat):Int)∧((l.length+1:Nat):Int)≤(Zaq:Int)))=some ():=by
  have hm: (Zaq:Int)=4294967296:=by simp [Zaq]
  rw[decide_eq_true (by rw[hm];omega)];rfl
 have hrep: ∀o:List Zhs,o=List.replicate (l.length+1) (false,0,[],())→inb (l.length:Int) o.length=some l.length∧o[l.length]? =some (false,0,[],()):=by
  rintro o rfl
  exact⟨ZaL (by simp),by rw[List.getElem?_replicate,if_pos (by omega)]⟩
 obtain⟨r1,r2⟩:=hrep _ rfl
 rw[w0]
 erw[hg]
 simp only[bind_some,Int.toNat_natCast]
 erw[r1]
 simp only[bind_some]
 erw[r2]
 simp only[bind_some]
 have key: ∀ (o:Option (List Zhs)) (k:List Zhs→Option (Int×List TkT×Bool)),(∃T,o=some T∧ZgD l.length T)→(∀T,ZgD l.length T→ ∃R,k T=some R)→ ∃R,Option.bind o k=some R:=by
  rintro o k ⟨T,rfl,h⟩ hk
  exact hk T h
 refine key _ _ (Za9 l.length _ (fun c (s:List Zhs×Int)=> ∃T,s=(T,(l.length:Int) - 1 - (c:Int))∧ZgD l.length T) ?_ ?_ _ ?_) ?_
 ·rintro c _ hc ⟨T,rfl,hT⟩
  left
  obtain⟨i,hi⟩: ∃i:Nat,(l.length:Int) - 1 - (c:Int)=(i:Int):=⟨l.length - 1 - c,by omega⟩
  have hil:i<l.length:=by omega
  rw[hi]
  rw[decide_eq_true (show (0:Int)≤(i:Int) by omega)]
  simp only[cond_true]
  refine Zkg (fun T' =>ZgD l.length T') ?_ ?_
  ·refine Za9 (l.length - i) _ (fun m (s:List Zhs×Int)=> ∃T,s=(T,((i+m:Nat):Int))∧ZgD l.length T) ?_ ?_ _ ⟨T,rfl,hT⟩
   ·rintro m _ hm ⟨T,rfl,hT⟩
    left
    have hk:i+m<l.length:=by omega
    have e1:IntKind.wrap .i64 (((i+m:Nat):Int)+1)=((i+m+1:Nat):Int):=by rw[Zaj (by omega) (by omega)];omega
    have hTl:=hT.1
    have hbk:inb ((i+m+1:Nat):Int) T.length=some (i+m+1):=ZaL (by omega)
    obtain⟨r,hr,hcr⟩:=hT.get (show i+m+1≤l.length by omega)
    simp only[Zay hk,cond_true,e1,hbk,hr,bind_some]
    cases r.1 with
    |false=>exact⟨_,rfl,T,rfl,hT⟩
    |true=>
     simp only[Bool.not_true,cond_false]
     refine Zkg (fun T' =>ZgD l.length T') ?_ ?_
     ·refine Za9 F.1.length _ (fun p (s:List Zhs×Int)=> ∃T,s=(T,(p:Int))∧ZgD l.length T) ?_ ?_ _ ⟨T,rfl,hT⟩
      ·rintro p _ hp ⟨T,rfl,hT⟩
       left
       have e2:IntKind.wrap .i64 ((p:Int)+1)=((p+1:Nat):Int):=by rw[Zaj (by omega) (by omega)];omega
       have hTl:=hT.1
       have hbk:inb ((i+m+1:Nat):Int) T.length=some (i+m+1):=ZaL (by omega)
       have hbi:inb (i:Int) T.length=some i:=ZaL (by omega)
       obtain⟨rk,hrk,hck⟩:=hT.get (show i+m+1≤l.length by omega)
       obtain⟨ri,hri,hci⟩:=hT.get (show i≤l.length by omega)
       obtain⟨cv,hcv⟩:=Zmx F.1[p] (show i≤i+m by omega) hk (by omega)
       obtain⟨pr,hpr⟩:=ZmU F F.1[p] hil (by omega)
       simp only[Zay hp,cond_true,Zag hp,bind_some,hcv,hpr,hbk,hbi,hrk,hri,e2]
       cases cv with
       |false=>exact⟨_,rfl,T,rfl,hT⟩
       |true=>
        simp only[Bool.not_true,cond_false]
        refine Zkg (fun _=>True) ?_ fun b _=> ?_
        ·cases ri.1 with
         |false=>exact⟨_,rfl,trivial⟩
         |true=>
          simp only[cond_true]
          cases decide (ri.2.1<IntKind.wrap .i64 (pr+rk.2.1)) with
          |true=>exact⟨_,rfl,trivial⟩
          |false=>
           simp only[cond_false]
           cases decide (IntKind.wrap .i64 (pr+rk.2.1)=ri.2.1)<;>exact⟨_,rfl,trivial⟩
        ·cases b with
         |true=>exact⟨_,rfl,T,rfl,hT⟩
         |false=>
          simp only[cond_false]
          have hgd:Zap (decide (List.length [((p:Int),(i:Int),((i+m:Nat):Int),pr,())]+List.length rk.2.2.1≤Zaq))=some ():=by
           rw[decide_eq_true (by simp only[List.length_cons,List.length_nil,Zaq];omega)];rfl
          rw[hgd]
          simp only[bind_some]
          exact⟨_,rfl,_,rfl,hT.put (by simp only[List.length_append,List.length_cons,List.length_nil];omega)⟩
      ·rintro _ ⟨T,rfl,hT⟩
       simp only[ZaC,cond_false]
       exact⟨_,rfl,hT⟩
     ·intro T' hT'
      exact⟨_,rfl,T',rfl,hT'⟩
   ·rintro _ ⟨T,rfl,hT⟩
    rw[show i+(l.length - i)=l.length by omega]
    simp only[ZaC,cond_false]
    exact⟨_,rfl,hT⟩
  ·intro T' hT'
   have e1:IntKind.wrap .i64 ((i:Int) - 1)=(l.length:Int) - 1 - ((c+1:Nat):Int):=by rw[Zaj (by omega) (by omega)];omega
   rw[e1]
   exact⟨_,rfl,T',rfl,hT'⟩
 ·rintro _ ⟨T,rfl,hT⟩
  rw[decide_eq_false (show¬ (0:Int)≤(l.length:Int) - 1 - (l.length:Int) by omega)]
  exact⟨_,rfl,hT⟩
 ·refine⟨(List.replicate (l.length+1) ((false,0,[],()):Zhs)).set l.length (true,0,[],()), ?_,ZgD.put ⟨by simp,fun j r hr=> ?_⟩ (by simp)⟩
  ·rw[Zaj (by omega) (by omega)]
   simp only[Int.natCast_zero,Int.sub_zero]
  ·rw[List.getElem?_replicate] at hr
   split at hr
   ·obtain rfl:=Option.some.inj hr
    simp;omega
   ·cases hr
 ·intro T hT
  obtain⟨r,hr,_⟩:=hT.get (Nat.zero_le _)
  have hb:inb (0:Int) T.length=some 0:=ZaL (i:=0) (by rw[hT.1];omega)
  simp only[hb,bind_some,hr]
  exact⟨_,rfl⟩
end Q
namespace Q
open Tr Go
open Option (bind_some)
def Zrz (x:ZaP):Bool:= !x.1&& (decide (0≤x.2.2.2.2.2.2.1) && (decide (x.2.2.2.2.2.2.1≤x.2.2.2.2.2.2.2.1) &&decide (IntKind.wrap .i64 (x.2.2.2.2.2.2.2.1 - x.2.2.2.2.2.2.1)≤14400)))
def ZoS (s:Int) (x:ZaP):Int:=bif Zrz x then IntKind.wrap .i64 (IntKind.wrap .i64 (s+x.2.2.2.2.2.2.2.1) - x.2.2.2.2.2.2.1) else s
def Zto (L:List ZaP):Int:=L.foldl ZoS 0
theorem Zk5       (L : List ZaP ) (hj : L.length ≤ 1000) : F79 (L, ()) = some (Zto   L) := by
  unfold F79
  refine Zb5     (fun r => r = Zto   L) ?_ (fun r hr => by rw [hr])
  refine Za9     L.length _ (fun i (s : Int × Int) => s = ((L.take i).foldl ZoS   0, (i : Int))) ?_ ?_ _ rfl
  · rintro i _ hi rfl
    left
    have e1 : (bif !(L[i]).1 then
 bif decide ((0 : Int) ≤ (L[i]).2.2.2.2.2.2.1) then
 bif decide ((L[i]).2.2.2.2.2.2.1 ≤ (L[i]).2.2.2.2.2.2.2.1) then
 some (decide (IntKind.wrap .i64 ((L[i]).2.2.2.2.2.2.2.1 - (L[i]).2.2.2.2.2.2.1) ≤ (14400 : Int)))
 else some false
 else some false
 else some false) = some (Zrz   L[i]) := by
      unfold Zrz
      cases (L[i]).1 <;> cases decide ((0 : Int) ≤ (L[i]).2.2.2.2.2.2.1) <;> cases decide ((L[i]).2.2.2.2.2.2.1 ≤ (L[i]).2.2.2.2.2.2.2.1) <;> rfl
    have e2 : (L.take (i + 1)).foldl ZoS   0 = ZoS   ((L.take i).foldl ZoS   0) L[i] := by rw [List.take_succ_eq_append_getElem hi, List.foldl_append]; rfl
    simp only [Zay    hi, cond_true, Zag     hi, bind_some, Zan       hi (show _ ≤ 9223372036854775807 by omega)]
    rw [e1, e2]
    unfold ZoS
    cases Zrz   L[i] <;> exact ⟨_, rfl, rfl⟩
  · rintro _ rfl
    simp only [ZaC    , cond_false]
    exact ⟨_, rfl, by rw [List.take_length]; rfl⟩
def ZoO (x:ZaP):Bool:=x.1&& !ZbB x
def Zby (L:List ZaP):Nat:=(L.filter ZoO).length
noncomputable def ZsZ (F:Zfx) (l:List Zfh):Int:=match F76 F l with
 |some r=>bif r.2.2 then 0 else 34
 |none=>0
noncomputable def ZtN (n:ZaA) (L:List ZaP):Int:=
 bif !decide ((Zcf n L false []).2=0) then(Zcf n L false []).2 else
 bif decide (8< (Zcf n L false []).1.length) then 33 else ZsZ n.2.2.2.2.2.1 (Zcf n L false []).1
theorem Zk4 (F:Zfx) (s:Int): ∃r,F72 F s=some r:=by
 unfold F72
 cases decide ((0:Int)<F.2.2.2.1)<;>exact⟨_,rfl⟩
theorem Zro {n:ZaA} (h:Zdi n) (hv:F63 n=some true) (hF:n.2.2.2.2.2.1.1.length≤4096) (q:Zbq) (L:List ZaP) (hj:L.length≤1000): ∃c,F73 n q (L,())=some c∧c.2.2=ZtN n L:=by
 unfold F73 ZtN
 rw[Zoy h hv L hj]
 simp only[bind_some]
 generalize Zcf n L false []=R
 by_cases h0:R.2=0
 case neg=>rw[decide_eq_false h0];exact⟨_,rfl,rfl⟩
 rw[decide_eq_true h0]
 simp only[Bool.not_true,cond_false]
 by_cases h8:8<R.1.length
 ·rw[decide_eq_true (show (8:Int)< (R.1.length:Int) by omega),decide_eq_true h8];exact⟨_,rfl,rfl⟩
 rw[decide_eq_false (show¬ (8:Int)< (R.1.length:Int) by omega),decide_eq_false h8]
 simp only[cond_false]
 obtain⟨p,hp⟩:=Zoj n.2.2.2.2.2.1 hF R.1 (by omega)
 unfold ZsZ
 rw[hp]
 simp only[bind_some]
 cases p.2.2 with
 |false=>exact⟨_,rfl,rfl⟩
 |true=>
  simp only[Bool.not_true,cond_false,cond_true]
  obtain⟨c,hc⟩:=Zk4 n.2.2.2.2.2.1 p.1
  rw[hc,Zk5 L hj]
  simp only[bind_some]
  by_cases hL:0<L.length
  ·have e:IntKind.wrap .i64 ((L.length:Int) - 1)=((L.length - 1:Nat):Int):=by rw[Zaj (by omega) (by omega)];omega
   have i0:idx L (0:Int)=some (lg L 0):=Zfv hL
   rw[decide_eq_true (show (0:Int)< (L.length:Int) by omega),e,i0,Zfv (show L.length - 1<L.length by omega)]
   exact⟨_,rfl,rfl⟩
  ·rw[decide_eq_false (show¬ (0:Int)< (L.length:Int) by omega)]
   exact⟨_,rfl,rfl⟩
def Zha (L:List ZaP) (i:Nat):Bool:=(lg L i).1&& (decide (i+1=L.length) || !ZbB (lg L (i+1)))
def ZdL (n:ZaA) (q:Zbq) (x:ZaP):Int:=bif !(cl (Za0 n x) x.2.2.2.1).2.2.2.2.1 then 26 else bif !Zj7 n q x.2.2.2.2.2.1 then 29 else 0
def ZiG (n:ZaA) (q:Zbq) (L:List ZaP) (i:Nat):Int:=bif decide (i=0) then Zjh n q L else ZbY n (lg L (i - 1)) (lg L i)
def atE (n:ZaA) (q:Zbq) (L:List ZaP) (i:Nat):Int:=
 bif !decide (ZjV n q (lg L i)=0) then ZjV n q (lg L i) else
 bif !decide (ZiG n q L i=0) then ZiG n q L i else
 bif Zha L i then ZdL n q (lg L i) else 0
theorem ZlO {n:ZaA} {q:Zbq} {x:ZaP} (h:ZjV n q x=0):inR x.2.2.2.2.1 n.1.length=true∧inR x.2.2.2.2.2.1 n.1.length=true∧(x.1=true→Zba n x=true∧Zix n q x=0)∧(x.1=false→Zgs n q x=0):=by
 unfold ZjV at h
 rw[ZaB (by omega),ZaB (by omega),ZaB (by omega)] at h
 obtain⟨h1,h2,_,h3⟩:=h
 rw[Bool.or_eq_false_iff] at h1
 refine⟨by simpa using h1.1,by simpa using h1.2,fun e=> ?_,fun e=> ?_⟩
 ·rw[e] at h2 h3
  exact⟨by simpa using h2,h3⟩
 ·rw[e] at h3
  exact h3
theorem ZsL {n:ZaA} (hS:Zdi n) (hp:n.2.2.2.2.1.length≤4096) {q:Zbq} (hq:inR q.1 n.1.length=true) {L:List ZaP} {i:Nat} (hi:i<L.length) (hj:L.length≤1000):F88 n q (L,()) (i:Int)=some (atE n q L i):=by
 unfold F88 atE
 rw[show idx (L,()).1 (i:Int)=some (lg L i) from Zfv hi]
 simp only[bind_some]
 rw[Ztp hS hp q]
 simp only[bind_some]
 by_cases h0:ZjV n q (lg L i)=0
 case neg=>rw[decide_eq_false h0];rfl
 rw[decide_eq_true h0]
 simp only[Bool.not_true,cond_false]
 obtain⟨z1,z2,z3,z4⟩:=ZlO h0
 have e1: (bif decide ((i:Int)=(0:Int)) then Option.bind (F90 n q (L,())) fun x2=>some x2
 else Option.bind (idx L (IntKind.wrap .i64 ((i:Int) - (1:Int)))) fun x3=>Option.bind (F91 n x3 (lg L i)) fun x4=>some x4)=some (ZiG n q L i):=by
  unfold ZiG
  by_cases hi0:i=0
  ·subst hi0
   rw[Zn8 hi hq];rfl
  ·have e:IntKind.wrap .i64 ((i:Int) - 1)=((i - 1:Nat):Int):=by rw[Zaj (by omega) (by omega)];omega
   rw[decide_eq_false (show¬ (i:Int)=0 by omega),decide_eq_false hi0,e,Zfv (show i - 1<L.length by omega)]
   simp only[cond_false,bind_some]
   rw[Zoa (by have:=hS.links;omega) z1]
   rfl
 rw[e1]
 simp only[bind_some]
 refine Ze5 ?_
 have w2:IntKind.wrap .i64 ((i:Int)+1)=((i+1:Nat):Int):=by rw[Zaj (by omega) (by omega)];omega
 rw[w2]
 have e2: (bif (lg L i).1 then bif decide (((i+1:Nat):Int)=(↑(List.length L):Int)) then some true
 else Option.bind (idx L ((i+1:Nat):Int)) fun x6=>some !x6.2.2.2.2.2.2.2.2.1
 else some false)=some (Zha L i):=by
  unfold Zha
  rw[show decide (((i+1:Nat):Int)=(L.length:Int))=decide (i+1=L.length) from decide_eq_decide.2 (by omega)]
  by_cases h1:i+1=L.length
  ·rw[decide_eq_true h1]
   cases (lg L i).1<;>rfl
  ·rw[decide_eq_false h1,Zfv (show i+1<L.length by omega)]
   cases (lg L i).1<;>rfl
 rw[e2]
 simp only[bind_some]
 cases htl:Zha L i with
 |false=>rfl
 |true=>
  have hr: (lg L i).1=true:=by
   unfold Zha at htl
   rw[Bool.and_eq_true] at htl
   exact htl.1
  obtain⟨x1,_,_,x4⟩:=Zlb (z3 hr).1
  simp only[cond_true]
  rw[x1]
  simp only[bind_some]
  rw[x4]
  simp only[bind_some]
  rw[ZkG q z2]
  unfold ZdL
  cases (cl (Za0 n (lg L i)) (lg L i).2.2.2.1).2.2.2.2.1<;>cases Zj7 n q (lg L i).2.2.2.2.2.1<;>rfl
noncomputable def Zs6 (n:ZaA) (q:Zbq) (L:List ZaP):Int:=
 bif !decide ((lg L (L.length - 1)).2.2.2.2.2.1=q.2.1) then 24 else
 bif q.2.2.2.1&&decide (q.2.2.1< (lg L (L.length - 1)).2.2.2.2.2.2.2.1) then 10 else
 bif decide (q.2.2.2.2.1< (Zby L:Int)) then 33 else
 bif decide (q.2.2.2.2.2.1<Zto L) then 32 else ZtN n L
theorem ZtO {n:ZaA} (hS:Zdi n) (hv:F63 n=some true) (hF:n.2.2.2.2.2.1.1.length≤4096) (q:Zbq) {L:List ZaP} (h0:0<L.length) (hj:L.length≤1000):F89 n q (L,())=some (Zs6 n q L):=by
 unfold F89 Zs6
 have e:IntKind.wrap .i64 ((L.length:Int) - 1)=((L.length - 1:Nat):Int):=by rw[Zaj (by omega) (by omega)];omega
 simp only[e,Zfv (show L.length - 1<L.length by omega),bind_some]
 refine Ze5 (ZeX ?_)
 refine Zb5 (fun r=>r=(Zby L:Int)) ?_ ?_
 ·refine Za9 L.length _ (fun i (s:Int×Int)=>s=((Zby (L.take i):Int),(i:Int))) ?_ ?_ _ rfl
  ·rintro i _ hi rfl
   left
   have hb:Zby (L.take i)≤L.length:=by
    unfold Zby
    exact Nat.le_trans (List.length_filter_le _ _) (by rw[List.length_take];omega)
   have e1: (bif (L[i]).1 then some !(L[i]).2.2.2.2.2.2.2.2.1 else some false)=some (ZoO L[i]):=by
    unfold ZoO ZbB
    cases (L[i]).1<;>rfl
   have e2:Zby (L.take (i+1))=Zby (L.take i)+(if ZoO L[i] then 1 else 0):=by
    unfold Zby
    rw[List.take_succ_eq_append_getElem hi,List.filter_append,List.length_append]
    cases hr:ZoO L[i]<;>simp [hr]
   have w3:IntKind.wrap .i64 ((Zby (L.take i):Int)+1)=((Zby (L.take i)+1:Nat):Int):=by rw[Zaj (by omega) (by omega)];omega
   simp only[Zay hi,cond_true,Zag hi,bind_some,Zan hi (show _≤9223372036854775807 by omega),w3]
   rw[e1,e2]
   cases ZoO L[i]<;>exact⟨_,rfl,rfl⟩
  ·rintro _ rfl
   simp only[ZaC,cond_false]
   exact⟨_,rfl,by rw[List.take_length]⟩
 ·rintro _ rfl
  refine Ze5 ?_
  rw[Zk5 L hj]
  simp only[bind_some]
  refine Ze5 ?_
  obtain⟨c,h1,h2⟩:=Zro hS hv hF q L hj
  rw[h1]
  exact congrArg some h2
noncomputable def Zi6 (n:ZaA) (q:Zbq) (L:List ZaP):Int×Int:=
 bif !decide (Zkr n q=0) then(0,Zkr n q) else
 bif decide (L.length=0) then(bif !decide (q.1=q.2.1) then(0,24) else(0,0)) else
 match Zat L.length (atE n q L) with
 |some i=>((i:Int),atE n q L i)
 |none=>bif !decide (Zs6 n q L=0) then(((L.length - 1:Nat):Int),Zs6 n q L) else(0,0)
open Classical in
theorem ZoN {n:ZaA} (hf:Fit n) (hF:n.2.2.2.2.2.1.1.length≤4096) (q:Zbq) (L:List ZaP) (hj:L.length≤1000):F83 n q (L,())=some (Zi6 n q L):=by
 unfold F83 Zi6
 rw[Zsh hf q]
 simp only[bind_some]
 by_cases h0:Zkr n q=0
 case neg=>rw[decide_eq_false h0];rfl
 obtain⟨hW,hq⟩:=Zhv.1 h0
 have hS:=hW.sound
 have hv:F63 n=some true:=by rw[ZfA hf,decide_eq_true hW]
 have hq1:inR q.1 n.1.length=true:=by
  unfold qB at hq
  rw[Bool.and_eq_true] at hq
  exact hq.1
 rw[decide_eq_true h0]
 simp only[Bool.not_true,cond_false]
 by_cases hL:L.length=0
 ·rw[decide_eq_true (show (L.length:Int)=0 by omega),decide_eq_true hL]
  cases decide (q.1=q.2.1)<;>rfl
 rw[decide_eq_false (show¬ (L.length:Int)=0 by omega),decide_eq_false hL]
 simp only[cond_false]
 rw[Za8 (n:=L.length) (fun i (s:Int)=>s=(i:Int)) (atE n q L) (fun i=> .inr ((i:Int),atE n q L i)) (.inl ()) ?_ ?_ ?_ (0:Int) rfl]
 ·unfold pick
  cases Zat L.length (atE n q L) with
  |some i=>rfl
  |none=>
   simp only[bind_some]
   show (Option.bind (F89 n q (L,())) _)=_
   rw[ZtO hS hv hF q (by omega) hj]
   have e:IntKind.wrap .i64 ((L.length:Int) - 1)=((L.length - 1:Nat):Int):=by rw[Zaj (by omega) (by omega)];omega
   rw[e]
   simp only[bind_some]
   cases decide (Zs6 n q L=0)<;>rfl
 ·rintro i _ hi rfl hc
  refine⟨((i+1:Nat):Int), ?_,rfl⟩
  simp only[Zay hi,cond_true,Zan hi (show _≤9223372036854775807 by omega)]
  rw[ZsL hS hf.paths hq1 hi hj]
  simp only[bind_some]
  rw[hc];rfl
 ·rintro i _ hi rfl hc
  simp only[Zay hi,cond_true]
  rw[ZsL hS hf.paths hq1 hi hj]
  simp only[bind_some]
  rw[decide_eq_false hc];rfl
 ·rintro _ rfl
  simp only[ZaC,cond_false]
open Classical in
theorem Zow (n:ZaA) (q:Zbq) (L:List ZaP): (Zi6 n q L).2=0↔Zkr n q=0∧((L.length=0∧q.1=q.2.1)∨(L.length≠0∧(∀i,i<L.length→atE n q L i=0)∧Zs6 n q L=0)):=by
 unfold Zi6
 by_cases h0:Zkr n q=0
 case neg=>rw[decide_eq_false h0];simp [h0]
 rw[decide_eq_true h0]
 simp only[Bool.not_true,cond_false]
 by_cases hL:L.length=0
 ·rw[decide_eq_true hL]
  by_cases he:q.1=q.2.1
  ·rw[decide_eq_true he];simp [h0,hL,he]
  ·rw[decide_eq_false he];simp [h0,hL,he]
 ·rw[decide_eq_false hL]
  simp only[cond_false]
  cases hb:Zat L.length (atE n q L) with
  |some i=>
   have hi:=Zbr hb
   simp only
   constructor
   ·intro e;exact absurd e hi.2
   ·rintro ⟨_,⟨e,_⟩ | ⟨_,e,_⟩⟩
    ·exact absurd e hL
    ·exact e i hi.1
  |none=>
   have ha:=ZaF.1 hb
   simp only
   by_cases he:Zs6 n q L=0
   ·rw[decide_eq_true he];simp [h0,hL,he];exact ha
   ·rw[decide_eq_false he];simp [h0,hL,he]
theorem ZlL {n:ZaA} (hf:Fit n) (hF:n.2.2.2.2.2.1.1.length≤4096) (q:Zbq) (L:List ZaP) (hj:L.length≤1000):F85 n q (L,())=some (decide ((Zi6 n q L).2=0)):=by
 unfold F85
 rw[ZoN hf hF q L hj]
 rfl
end Q
namespace Q
open Tr Go
open Option (bind_some)
def Zaw (n:ZaA) (i:Nat):List Zbd:=(rn n (i:Int)).2.2.2.2.2.2.2.1
def Zaf (n:ZaA) (i c:Nat):Zbd:=cl (Zaw n i) (c:Int)
def ZdD (n:ZaA) (i:Nat):Bool:=(rn n (i:Int)).2.2.2.2.2.2.1
def Zg4 (s t a b:Int):ZaP:=(false,0,0,0,s,t,a,b,false,())
def Zep (n:ZaA) (i b c:Nat) (st:Bool):ZaP:=(true,(i:Int),(b:Int),(c:Int),(Zaf n i b).1,(Zaf n i c).1,(Zaf n i b).2.2.1,(Zaf n i c).2.1,st,())
def isLink (n:ZaA) (i c j d:Nat) (st:Bool):Prop:=((i:Int),(c:Int),(j:Int),(d:Int),st,())∈n.2.2.2.1
structure Zev (n:ZaA):Prop where
 sound:Zdi n
 change: ∀s:Int,0≤s→s< (n.1.length:Int)→0≤(Zci n s).2.2.2.1∧(Zci n s).2.2.2.1≤3600
 path: ∀p∈n.2.2.2.2.1,(0≤p.1∧p.1< (n.1.length:Int))∧(0≤p.2.1∧p.2.1< (n.1.length:Int))∧p.1≠p.2.1∧1≤p.2.2.1∧p.2.2.1≤14400
 link: ∀x∈n.2.2.2.1, ∃ (i c j d:Nat) (st:Bool),x=((i:Int),(c:Int),(j:Int),(d:Int),st,())∧i<n.2.2.1.length∧j<n.2.2.1.length∧i≠j∧c< (Zaw n i).length∧d< (Zaw n j).length∧
  (Zaf n i c).1=(Zaf n j d).1∧(st=true→c+1=(Zaw n i).length∧d=0)
theorem Ze3 {n:ZaA} {i:Nat} (hi:i<n.2.2.1.length):Zaw n i=(n.2.2.1[i]).2.2.2.2.2.2.2.1:=by unfold Zaw rn;rw[Int.toNat_natCast,Zah hi]
theorem ZlH {n:ZaA} {i c:Nat} (hc:c< (Zaw n i).length):Zaf n i c=(Zaw n i)[c]:=by unfold Zaf cl;rw[Int.toNat_natCast,Zah hc]
theorem ZoR {n:ZaA} {i:Nat} (h:Zce n i=0): (cl (rn n (lk n i).1).2.2.2.2.2.2.2.1 (lk n i).2.1).1=(cl (rn n (lk n i).2.2.1).2.2.2.2.2.2.2.1 (lk n i).2.2.2.1).1∧
  ((lk n i).2.2.2.2.1=true→(lk n i).2.1+1=((rn n (lk n i).1).2.2.2.2.2.2.2.1.length:Int)∧(lk n i).2.2.2.1=0):=by
 unfold Zce at h
 simp only at h
 by_cases b1:Zm4 n (lk n i)=true
 ·rw[if_pos b1] at h;omega
 rw[if_neg b1] at h
 by_cases b2:Zpa n (lk n i)=true
 ·rw[if_pos b2] at h;omega
 rw[if_neg b2] at h
 split at h
 ·omega
 split at h
 ·omega
 split at h
 ·omega
 next h1 h2 h3=>
  refine⟨Decidable.not_not.1 h1,fun hs=>⟨?_, ?_⟩⟩
  ·exact Decidable.not_not.1 fun e=>h2 ⟨hs,e⟩
  ·exact Decidable.not_not.1 fun e=>h3 ⟨hs,e⟩
theorem Whole.ok {n:ZaA} (h:Whole n):Zev n:=by
 refine⟨h.sound,fun s h0 h1=> ?_,fun p hp=> ?_,fun x hx=> ?_⟩
 ·have s0:=h.s
  unfold Zhb at s0
  split at s0
  ·exact absurd s0 (by decide)
  obtain⟨j,rfl⟩: ∃j:Nat,s=(j:Int):=⟨s.toNat,by omega⟩
  have hj:j<n.1.length:=by omega
  have hz:=ZhG s0 j hj
  unfold Zf5 at hz
  have:=(Zcr.1 hz).2.2
  unfold Zci
  rw[Int.toNat_natCast]
  generalize hg: (n.1[j]?).getD Q.s0=y at*
  have e: (n.1[j]?).getD ([],0,false,0,())=y:=by rw[←hg];rfl
  rw[e] at this
  omega
 ·obtain⟨j,hj,rfl⟩:=List.getElem_of_mem hp
  obtain⟨h1,h2,_⟩:=Zco (ZaF.1 h.q j hj)
  rw[Zah hj] at h1 h2
  unfold Zc1 at h1
  unfold Zc2 at h2
  simp only[Bool.or_eq_false_iff,Bool.not_eq_false',decide_eq_false_iff_not,decide_eq_true_eq] at h1 h2
  omega
 ·obtain⟨j,hj,rfl⟩:=List.getElem_of_mem hx
  have hz:=ZaF.1 h.g j hj
  obtain⟨h1,h2,_⟩:=ZgK hz
  obtain⟨h3,h4⟩:=ZoR hz
  have e:lk n j=n.2.2.2.1[j]:=by unfold lk;rw[Zah hj]
  rw[e] at h1 h2 h3 h4
  generalize n.2.2.2.1[j]=x at*
  unfold Zm4 at h1
  unfold Zpa at h2
  unfold inR at h1 h2
  simp only[Bool.or_eq_false_iff,Bool.not_eq_false',decide_eq_false_iff_not,Bool.and_eq_true,decide_eq_true_eq] at h1 h2
  obtain⟨x1,x2,x3,x4,x5,x6⟩:=x
  simp only at h1 h2 h3 h4
  obtain⟨i,rfl⟩: ∃i:Nat,x1=(i:Int):=⟨x1.toNat,by omega⟩
  obtain⟨c,rfl⟩: ∃i:Nat,x2=(i:Int):=⟨x2.toNat,by omega⟩
  obtain⟨k,rfl⟩: ∃i:Nat,x3=(i:Int):=⟨x3.toNat,by omega⟩
  obtain⟨d,rfl⟩: ∃i:Nat,x4=(i:Int):=⟨x4.toNat,by omega⟩
  refine⟨i,c,k,d,x5,rfl,by omega,by omega,by omega, ?_, ?_,h3,fun hs=> ?_⟩
  ·unfold Zaw;omega
  ·unfold Zaw;omega
  ·obtain⟨a,b⟩:=h4 hs
   unfold Zaw
   omega
theorem Zev.isLink {n:ZaA} (h:Zev n) {i c j d:Nat} {st:Bool} (hl:isLink n i c j d st):i<n.2.2.1.length∧j<n.2.2.1.length∧i≠j∧c< (Zaw n i).length∧d< (Zaw n j).length∧(Zaf n i c).1=(Zaf n j d).1∧(st=true→c+1=(Zaw n i).length∧d=0):=by
 obtain⟨i',c',j',d',st',e,h1⟩:=h.link _ hl
 simp only[Prod.mk.injEq,Int.natCast_inj] at e
 obtain⟨rfl,rfl,rfl,rfl,rfl,_⟩:=e
 exact h1
theorem Zev.stop {n:ZaA} (h:Zev n) {i c:Nat} (hi:i<n.2.2.1.length) (hc:c< (Zaw n i).length):0≤(Zaf n i c).1∧(Zaf n i c).1< (n.1.length:Int):=by
 rw[ZlH hc]
 refine h.sound.call _ (List.getElem_mem hi) _ ?_
 simp only[Ze3 hi]
 exact List.getElem_mem _
theorem Zev.time {n:ZaA} (h:Zev n) {i c:Nat} (hi:i<n.2.2.1.length) (hc:c< (Zaw n i).length):0≤(Zaf n i c).2.1∧(Zaf n i c).2.1≤(Zaf n i c).2.2.1∧(Zaf n i c).2.2.1≤3155932800:=by
 have ht:=h.sound.time _ (List.getElem_mem hi)
 rw[ZlH hc]
 simp only[Ze3 hi] at hc ⊢
 have:=ht c hc
 omega
inductive Zrd where
 |rdy (k:Nat) (s r:Int)
 |brd (k:Nat) (i c:Nat) (st:Bool)
 |lnk (k:Nat) (i c:Nat)
 |on (k:Nat) (i c:Nat)
 |rid (k:Nat) (s t:Int)
 |arr (k:Nat) (s t:Int)
inductive Der (n:ZaA) (s0 t0 w:Int):Zrd→List ZaP→Prop
 |init:Der n s0 t0 w (.rdy 0 s0 (t0+w)) []
 |here:Der n s0 t0 w (.arr 0 s0 t0) []
 |rdyW {p:Zca} :p∈n.2.2.2.2.1→p.1=s0→t0+p.2.2.1≤3155932800→Der n s0 t0 w (.rdy 0 p.2.1 (t0+p.2.2.1)) [Zg4 s0 p.2.1 t0 (t0+p.2.2.1)]
 |arrW {p:Zca} :p∈n.2.2.2.2.1→p.1=s0→t0+p.2.2.1≤3155932800→Der n s0 t0 w (.arr 0 p.2.1 (t0+p.2.2.1)) [Zg4 s0 p.2.1 t0 (t0+p.2.2.1)]
 |board {k:Nat} {s r:Int} {js:List ZaP} {i c:Nat} :Der n s0 t0 w (.rdy k s r) js→i<n.2.2.1.length→c< (Zaw n i).length→ZdD n i=false→(Zaf n i c).1=s→(Zaf n i c).2.2.2.1=true→r≤(Zaf n i c).2.2.1→Der n s0 t0 w (.brd (k+1) i c false) js
 |on {k i b c:Nat} {st:Bool} {js:List ZaP} :Der n s0 t0 w (.brd k i b st) js→b<c→c< (Zaw n i).length→Der n s0 t0 w (.on k i c) (js++[Zep n i b c st])
 |stay {k i c j d:Nat} {js:List ZaP} :Der n s0 t0 w (.on k i c) js→isLink n i c j d true→(Zaf n i c).2.1≤(Zaf n j d).2.2.1→ZdD n j=false→Der n s0 t0 w (.brd k j d true) js
 |link {k i c j d:Nat} {js:List ZaP} :Der n s0 t0 w (.on k i c) js→(Zaf n i c).2.2.2.2.1=true→isLink n i c j d false→(Zaf n i c).2.1≤(Zaf n j d).2.2.1→(Zaf n j d).2.2.2.1=true→Der n s0 t0 w (.lnk (k+1) j d) js
 |linked {k j d:Nat} {js:List ZaP} :Der n s0 t0 w (.lnk k j d) js→ZdD n j=false→Der n s0 t0 w (.brd k j d false) js
 |ride {k i c:Nat} {js:List ZaP} :Der n s0 t0 w (.on k i c) js→(Zaf n i c).2.2.2.2.1=true→Der n s0 t0 w (.rid k (Zaf n i c).1 (Zaf n i c).2.1) js
 |change {k:Nat} {s t:Int} {js:List ZaP} :Der n s0 t0 w (.rid k s t) js→Der n s0 t0 w (.rdy k s (t+(Zci n s).2.2.2.1)) js
 |rdyV {k:Nat} {s t:Int} {js:List ZaP} {p:Zca} :Der n s0 t0 w (.rid k s t) js→p∈n.2.2.2.2.1→p.1=s→t+p.2.2.1≤3155932800→Der n s0 t0 w (.rdy k p.2.1 (t+p.2.2.1)) (js++[Zg4 s p.2.1 t (t+p.2.2.1)])
 |arrR {k:Nat} {s t:Int} {js:List ZaP} :Der n s0 t0 w (.rid k s t) js→Der n s0 t0 w (.arr k s t) js
 |arrV {k:Nat} {s t:Int} {js:List ZaP} {p:Zca} :Der n s0 t0 w (.rid k s t) js→p∈n.2.2.2.2.1→p.1=s→t+p.2.2.1≤3155932800→Der n s0 t0 w (.arr k p.2.1 (t+p.2.2.1)) (js++[Zg4 s p.2.1 t (t+p.2.2.1)])
def Zrd.ok (n:ZaA):Zrd→Prop
 | .rdy _ s r=>(0≤s∧s< (n.1.length:Int))∧0≤r∧r≤3155932800+3600
 | .brd k i c _=>0<k∧i<n.2.2.1.length∧c< (Zaw n i).length∧ZdD n i=false
 | .lnk k i c=>0<k∧i<n.2.2.1.length∧c< (Zaw n i).length
 | .on k i c=>0<k∧i<n.2.2.1.length∧c< (Zaw n i).length∧ZdD n i=false
 | .rid k s t=>0<k∧(0≤s∧s< (n.1.length:Int))∧0≤t∧t≤3155932800
 | .arr _ s t=>(0≤s∧s< (n.1.length:Int))∧0≤t∧t≤3155932800
theorem Der.ok {n:ZaA} (h:Zev n) {s0 t0 w:Int} (hs:0≤s0∧s0< (n.1.length:Int)) (ht:0≤t0∧t0≤3155932800) (hw:0≤w∧w≤3600) {f:Zrd} {js:List ZaP} (d:Der n s0 t0 w f js):f.ok n:=by
 induction d with
 |init=>exact⟨hs,by omega,by omega⟩
 |here=>exact⟨hs,ht⟩
 |rdyW hp _ hm=>have:=h.path _ hp;exact⟨this.2.1,by omega,by omega⟩
 |arrW hp _ hm=>have:=h.path _ hp;exact⟨this.2.1,by omega,by omega⟩
 |board _ hi hc hx _ _ _ _=>exact⟨Nat.succ_pos _,hi,hc,hx⟩
 |on _ _ hc ih=>exact⟨ih.1,ih.2.1,hc,ih.2.2.2⟩
 |stay _ hl _ hx ih=>have:=h.isLink hl;exact⟨ih.1,this.2.1,this.2.2.2.2.1,hx⟩
 |link _ _ hl _ _ _=>have:=h.isLink hl;exact⟨Nat.succ_pos _,this.2.1,this.2.2.2.2.1⟩
 |linked _ hx ih=>exact⟨ih.1,ih.2.1,ih.2.2,hx⟩
 |ride _ _ ih=>
  have:=h.time ih.2.1 ih.2.2.1
  exact⟨ih.1,h.stop ih.2.1 ih.2.2.1,by omega,by omega⟩
 |change _ ih=>have:=h.change _ ih.2.1.1 ih.2.1.2;exact⟨ih.2.1,by have:=ih.2.2;omega,by have:=ih.2.2;omega⟩
 |rdyV _ hp _ hm ih=>have:=h.path _ hp;exact⟨this.2.1,by have:=ih.2.2;omega,by omega⟩
 |arrR _ ih=>exact ih.2
 |arrV _ hp _ hm ih=>have:=h.path _ hp;exact⟨this.2.1,by have:=ih.2.2;omega,by omega⟩
abbrev Zm5:=ZaP×Int×Unit
inductive Ch (lb:List Zm5):Int→List ZaP→Prop
 |nil:Ch lb (-1) []
 |cons {l:Nat} {x:ZaP} {p:Int} {js:List ZaP} :lb[l]? =some (x,p,())→p< (l:Int)→Ch lb p js→Ch lb (l:Int) (js++[x])
theorem Ch.lt {lb:List Zm5} {l:Int} {js:List ZaP} (h:Ch lb l js): -1≤l∧l< (lb.length:Int):=by
 cases h with
 |nil=>omega
 |cons h _ _=>
  have:=(List.getElem?_eq_some_iff.1 h).1
  omega
theorem Ch.app {lb:List Zm5} {l:Int} {js:List ZaP} (h:Ch lb l js) (m:List Zm5):Ch (lb++m) l js:=by
 induction h with
 |nil=>exact .nil
 |cons h1 h2 _ ih=>
  have hl:=(List.getElem?_eq_some_iff.1 h1).1
  exact .cons (by rw[List.getElem?_append_left hl];exact h1) h2 ih
theorem Ch.new {lb:List Zm5} {p:Int} {js:List ZaP} (h:Ch lb p js) (x:ZaP):Ch (lb++[(x,p,())]) (lb.length:Int) (js++[x]):=
 .cons (by simp) h.lt.2 (h.app _)
end Q
namespace Q
open Tr Go
open Option (bind_some)
def Zcj (q:Zbq):Zbq:=(q.1,q.2.1,q.2.2.1,q.2.2.2.1,q.2.2.2.2.1,q.2.2.2.2.2.1,false,false,0,q.2.2.2.2.2.2.2.2.2)
theorem ZdS {n:ZaA} {q:Zbq} {x:ZaP} :Zix n q x=0↔((cl (Za0 n x) x.2.2.1).1=x.2.2.2.2.1∧(cl (Za0 n x) x.2.2.2.1).1=x.2.2.2.2.2.1)∧((cl (Za0 n x) x.2.2.1).2.2.1=x.2.2.2.2.2.2.1∧(cl (Za0 n x) x.2.2.2.1).2.1=x.2.2.2.2.2.2.2.1)∧ZsC n q (rn n x.2.1)=true∧(ZbB x=true∨(cl (Za0 n x) x.2.2.1).2.2.2.1=true∧Zj7 n q x.2.2.2.2.1=true):=by
 unfold Zix
 rw[ZaB (by omega),ZaB (by omega),ZaB (by omega),ZaB (by omega),ZaB (by omega),ZaB (by omega),ZaB (by omega),ZaB (by omega)]
 unfold ZsC Tr.useB ZrX
 rw[Bool.or_eq_false_iff,Bool.or_eq_false_iff]
 simp only[Bool.not_eq_false',decide_eq_true_eq]
 generalize (rn n x.2.1).2.2.2.2.2.2.1=b1
 generalize (rn n x.2.1).2.2.2.2.2.1=b2
 generalize q.2.2.2.2.2.2.1=b3
 generalize (Zst n (rn n x.2.1)).2.2.1=b4
 generalize q.2.2.2.2.2.2.2.1=b5
 generalize (decide (q.2.2.2.2.2.2.2.2.1=(0:Int)) ||decide (Zn5 .i64 (Int.fdiv q.2.2.2.2.2.2.2.2.1 (2 ^ min (Int.toNat (Zst n (rn n x.2.1)).2.1) 64)) 1=1))=b6
 generalize ZbB x=b7
 generalize (cl (Za0 n x) x.2.2.1).2.2.2.1=b8
 generalize Zj7 n q x.2.2.2.2.1=b9
 generalize ((cl (Za0 n x) x.2.2.1).1=x.2.2.2.2.1∧(cl (Za0 n x) x.2.2.2.1).1=x.2.2.2.2.2.1)=p1
 generalize ((cl (Za0 n x) x.2.2.1).2.2.1=x.2.2.2.2.2.2.1∧(cl (Za0 n x) x.2.2.2.1).2.1=x.2.2.2.2.2.2.2.1)=p2
 have key: ((b1=false∧(b3&& !b2)=false∧(b5&& !b4)=false∧(!b6)=false∧(!b7&& !b8)=false∧(!b7&& !b9)=false∧(0:Int)=0)↔((!b1&& ((b2|| !b3) && ((b4|| !b5) &&b6)))=true∧(b7=true∨b8=true∧b9=true))):=by
  cases b1<;>cases b2<;>cases b3<;>cases b4<;>cases b5<;>cases b6<;>cases b7<;>cases b8<;>cases b9<;>simp
 exact and_congr_right fun _=>and_congr_right fun _=>by
  first
  |exact key
  | (simp only[Bool.not_eq_false'] at key ⊢;exact key)
theorem Zsp (n:ZaA) (q:Zbq):ZbT n q c0=c0:=by
 unfold ZbT
 split<;>rfl
theorem Zkl (n:ZaA) (q:Zbq) (l:List Zbd) (a:Int):cl (l.map (ZbT n q)) a=ZbT n q (cl l a):=by
 unfold cl
 rw[List.getElem?_map]
 cases l[a.toNat]? with
 |none=>exact(Zsp n q).symm
 |some c=>rfl
theorem Zjt (n:ZaA) (q:Zbq) (c:Zbd):ZbT n q c=(c.1,c.2.1,c.2.2.1,c.2.2.2.1&&Zj7 n q c.1,c.2.2.2.2.1&&Zj7 n q c.1,()):=by
 unfold ZbT
 cases h:Zj7 n q c.1 with
 |true=>simp
 |false=>simp
theorem ZfI (n:ZaA) (q:Zbq) (x:ZaP):Za0 (Za7 n q) x=(Za0 n x).map (ZbT n q):=Zna n q x.2.1
theorem ZkH (n:ZaA) (q:Zbq) (x:ZaP):Zba (Za7 n q) x=Zba n x:=by
 have hl: (Za7 n q).2.2.1.length=n.2.2.1.length:=List.length_map ..
 unfold Zba
 rw[ZfI,List.length_map,hl]
theorem Zsr {n:ZaA} {q:Zbq} {x:ZaP} (hx:Zba n x=true):rn (Za7 n q) x.2.1=Zcw n q (rn n x.2.1):=by
 unfold Zba at hx
 rw[Bool.and_eq_true] at hx
 have h:=hx.1
 unfold inR at h
 simp only[Bool.and_eq_true,decide_eq_true_eq] at h
 have hl:x.2.1.toNat<n.2.2.1.length:=by omega
 unfold rn
 show ((n.2.2.1.map (Zcw n q))[x.2.1.toNat]?).getD u0=_
 rw[List.getElem?_map,List.getElem?_eq_getElem hl]
 rfl
theorem Zgj (n:ZaA) (q:Zbq) (s:Int):Zj7 n (Zcj q) s=true:=by
 unfold Zj7 Zcj
 simp
theorem ZnE (n:ZaA) (q:Zbq) (r:ZjR):ZsC n (Zcj q) r= !r.2.2.2.2.2.2.1:=by
 unfold ZsC Tr.useB Zcj
 simp
theorem ZoK {n:ZaA} {q:Zbq} {x:ZaP} (hx:Zba n x=true):Zix (Za7 n q) (Zcj q) x=0↔Zix n q x=0:=by
 rw[ZdS,ZdS,ZfI,Zkl,Zkl,Zjt,Zjt,Zsr hx,ZnE,Zgj]
 have hc: (Zcw n q (rn n x.2.1)).2.2.2.2.2.2.1= !ZsC n q (rn n x.2.1):=rfl
 rw[hc,Bool.not_not]
 refine and_congr_right fun h1=>and_congr_right fun _=>and_congr_right fun _=> ?_
 simp only[Bool.and_eq_true]
 rw[h1.1]
 simp
theorem Zn6 {α:Type} (p f:α→Bool) (l:List α): (l.filter p).any f=l.any fun x=>f x&&p x:=by
 induction l with
 |nil=>rfl
 |cons x l ih=>
  cases hp:p x with
  |true=>rw[List.filter_cons_of_pos hp,List.any_cons,List.any_cons,ih,hp,Bool.and_true]
  |false=>rw[List.filter_cons_of_neg (by simp [hp]),List.any_cons,ih,hp,Bool.and_false,Bool.false_or]
theorem ZeV {n:ZaA} {q:Zbq} {x:ZaP} :Zgs n q x=0↔(n.2.2.2.2.1.any fun p=>Zdz x p&&Zgt q p)=true:=by
 unfold Zgs
 cases (n.2.2.2.2.1.any fun p=>Zdz x p&&Zgt q p) with
 |true=>simp
 |false=>cases n.2.2.2.2.1.any (Zdz x)<;>simp
theorem ZoI {n:ZaA} {q:Zbq} {x:ZaP} :Zgs (Za7 n q) (Zcj q) x=0↔Zgs n q x=0:=by
 rw[ZeV,ZeV]
 have hfr: ∀p:Zca,Zgt (Zcj q) p=true:=by
  intro p;unfold Zgt Zcj;simp
 show ((ZeD n q).any fun p=>Zdz x p&&Zgt (Zcj q) p)=true↔_
 simp only[hfr,Bool.and_true]
 unfold ZeD Zgt
 cases q.2.2.2.2.2.2.1 with
 |true=>simp only[if_true];rw[Zn6];simp
 |false=>simp
theorem ZqZ {n:ZaA} {q:Zbq} {x:ZaP} :ZjV (Za7 n q) (Zcj q) x=0↔ZjV n q x=0:=by
 have hz: ∀ (n:ZaA) (q:Zbq),ZjV n q x=0↔(!inR x.2.2.2.2.1 n.1.length|| !inR x.2.2.2.2.2.1 n.1.length)=false∧(bif x.1 then !Zba n x else !decide (x.2.1=0) || (!decide (x.2.2.1=0) || (!decide (x.2.2.2.1=0) ||ZbB x)))=false∧(!decide (0≤x.2.2.2.2.2.2.1∧x.2.2.2.2.2.2.1≤3155932800) || !decide (0≤x.2.2.2.2.2.2.2.1∧x.2.2.2.2.2.2.2.1≤3155932800))=false∧(bif x.1 then Zix n q x else Zgs n q x)=0:=by
  intro n q
  unfold ZjV
  rw[ZaB (by omega),ZaB (by omega),ZaB (by omega)]
 rw[hz,hz,ZkH]
 refine and_congr_right fun _=>and_congr_right fun h2=>and_congr_right fun _=> ?_
 cases hx:x.1 with
 |true=>
  rw[hx] at h2
  exact ZoK (by simpa using h2)
 |false=>exact ZoI
theorem ZrY {n:ZaA} {q:Zbq} {L:List ZaP} {i:Nat} :atE (Za7 n q) (Zcj q) L i=0↔atE n q L i=0:=by
 have hz: ∀ (n:ZaA) (q:Zbq),atE n q L i=0↔ZjV n q (lg L i)=0∧ZiG n q L i=0∧(Zha L i=true→ZdL n q (lg L i)=0):=by
  intro n q
  unfold atE
  by_cases h1:ZjV n q (lg L i)=0
  ·by_cases h2:ZiG n q L i=0
   ·rw[decide_eq_true h1,decide_eq_true h2]
    cases Zha L i<;>simp [h1,h2]
   ·rw[decide_eq_true h1,decide_eq_false h2];simp [h2]
  ·rw[decide_eq_false h1];simp [h1]
 have ha: ∀ (n:ZaA) (q:Zbq) (x:ZaP),ZdL n q x=0↔(cl (Za0 n x) x.2.2.2.1).2.2.2.2.1=true∧Zj7 n q x.2.2.2.2.2.1=true:=by
  intro n q x
  unfold ZdL
  rw[ZaB (by omega),ZaB (by omega)]
  simp
 rw[hz,hz]
 refine(and_congr ZqZ Iff.rfl).trans (and_congr_right fun h1=>and_congr Iff.rfl ?_)
 refine imp_congr_right fun ht=> ?_
 have hr: (lg L i).1=true:=by
  unfold Zha at ht
  rw[Bool.and_eq_true] at ht
  exact ht.1
 obtain⟨_,_,h3,_⟩:=ZlO h1
 have h4:=(ZdS.1 (h3 hr).2).1.2
 rw[ha,ha,ZfI,Zkl,Zjt,Zgj]
 simp only[Bool.and_eq_true]
 rw[h4]
 simp
end Q
namespace Q
open Tr Go
open Option (bind_some)
variable {n:ZaA} {q:Zbq}
theorem ZqU {n:ZaA} {q:Zbq} {x:ZaP} :ZjV n q x=0↔(inR x.2.2.2.2.1 n.1.length=true∧inR x.2.2.2.2.2.1 n.1.length=true)∧(bif x.1 then !Zba n x else !decide (x.2.1=0) || (!decide (x.2.2.1=0) || (!decide (x.2.2.2.1=0) ||ZbB x)))=false∧
  ((0≤x.2.2.2.2.2.2.1∧x.2.2.2.2.2.2.1≤3155932800)∧(0≤x.2.2.2.2.2.2.2.1∧x.2.2.2.2.2.2.2.1≤3155932800))∧(bif x.1 then Zix n q x else Zgs n q x)=0:=by
 unfold ZjV
 rw[ZaB (by omega),ZaB (by omega),ZaB (by omega)]
 simp only[Bool.or_eq_false_iff,Bool.not_eq_false',decide_eq_true_eq]
theorem ZtT {a m:Nat} :inR (a:Int) m=true↔a<m:=by
 unfold inR
 rw[Bool.and_eq_true,decide_eq_true_eq,decide_eq_true_eq]
 omega
theorem Zij {a:Int} {m:Nat} :inR a m=true↔0≤a∧a< (m:Int):=by
 unfold inR
 rw[Bool.and_eq_true,decide_eq_true_eq,decide_eq_true_eq]
theorem Zm0 (n:ZaA) (q:Zbq) (i:Nat):ZsC n (Zcj q) (rn n (i:Int))=true↔ZdD n i=false:=by
 rw[ZnE]
 unfold ZdD
 cases (rn n (i:Int)).2.2.2.2.2.2.1<;>simp
def Zs3 (n:ZaA) (i b c:Nat) (st:Bool):Prop:=i<n.2.2.1.length∧b<c∧c< (Zaw n i).length∧ZdD n i=false∧(st=true∨(Zaf n i b).2.2.2.1=true)
theorem ZnF (h:Zev n) {x:ZaP} : (ZjV n (Zcj q) x=0∧x.1=true)↔ ∃i b c st,x=Zep n i b c st∧Zs3 n i b c st:=by
 rw[ZqU]
 constructor
 ·rintro ⟨⟨h1,h2,h3,h4⟩,hr⟩
  rw[hr] at h2 h4
  simp only[cond_true,Bool.not_eq_false'] at h2 h4
  have he:=h2
  unfold Zba Za0 at he
  simp only[Bool.and_eq_true,decide_eq_true_eq,Zij] at he
  obtain⟨⟨e1,e2⟩,e3,e4,e5⟩:=he
  obtain⟨⟨r1,r2⟩,⟨r3,r4⟩,r5,r6⟩:=ZdS.1 h4
  obtain⟨xr,xi,xb,xc,xf,xt,xd,xa,xs,u⟩:=x
  simp only at hr h1 h2 h3 h4 e1 e2 e3 e4 e5 r1 r2 r3 r4 r5 r6
  obtain⟨i,rfl⟩: ∃i:Nat,xi=(i:Int):=⟨xi.toNat,by omega⟩
  obtain⟨b,rfl⟩: ∃i:Nat,xb=(i:Int):=⟨xb.toNat,by omega⟩
  obtain⟨c,rfl⟩: ∃i:Nat,xc=(i:Int):=⟨xc.toNat,by omega⟩
  subst hr
  have hl:c< (Zaw n i).length:=by unfold Zaw;omega
  refine⟨i,b,c,xs, ?_,by omega,by omega,hl,(Zm0 n q i).1 r5, ?_⟩
  ·have a1: (Zaf n i b).1=xf:=r1
   have a2: (Zaf n i c).1=xt:=r2
   have a3: (Zaf n i b).2.2.1=xd:=r3
   have a4: (Zaf n i c).2.1=xa:=r4
   unfold Zep
   rw[a1,a2,a3,a4]
  ·rcases r6 with r6|r6
   ·exact .inl r6
   ·exact .inr r6.1
 ·rintro ⟨i,b,c,st,rfl,h1,h2,h3,h4,h5⟩
  have hb:b< (Zaw n i).length:=by omega
  have s1:=h.stop h1 hb
  have s2:=h.stop h1 h3
  have t1:=h.time h1 hb
  have t2:=h.time h1 h3
  have hex:Zba n (Zep n i b c st)=true:=by
   unfold Zba Za0
   simp only[Bool.and_eq_true,decide_eq_true_eq]
   have:c< (rn n (i:Int)).2.2.2.2.2.2.2.1.length:=h3
   exact⟨ZtT.2 h1,by show (0:Int)≤(b:Int);omega,by show (b:Int)< (c:Int);omega,by show (c:Int)<_;show (c:Int)< ((rn n (i:Int)).2.2.2.2.2.2.2.1.length:Int);omega⟩
  refine⟨⟨⟨Zij.2 s1,Zij.2 s2⟩, ?_,⟨⟨by show (0:Int)≤(Zaf n i b).2.2.1;omega,t1.2.2⟩,⟨t2.1,by show (Zaf n i c).2.1≤_;omega⟩⟩, ?_⟩,rfl⟩
  ·show (!Zba n (Zep n i b c st))=false
   rw[hex];rfl
  ·refine ZdS.2 ⟨⟨rfl,rfl⟩,⟨rfl,rfl⟩,(Zm0 n q i).2 h4, ?_⟩
   rcases h5 with h5|h5
   ·exact .inl h5
   ·exact .inr ⟨h5,Zgj ..⟩
theorem ZnI (h:Zev n) {x:ZaP} : (ZjV n (Zcj q) x=0∧x.1=false)↔ ∃p∈n.2.2.2.2.1, ∃a,x=Zg4 p.1 p.2.1 a (a+p.2.2.1)∧0≤a∧a+p.2.2.1≤3155932800:=by
 rw[ZqU]
 constructor
 ·rintro ⟨⟨h1,h2,h3,h4⟩,hr⟩
  rw[hr] at h2 h4
  simp only[cond_false,Bool.or_eq_false_iff,Bool.not_eq_false',decide_eq_true_eq] at h2 h4
  have h5:=ZeV.1 h4
  obtain⟨p,hp,hm⟩:=List.any_eq_true.1 h5
  rw[Bool.and_eq_true] at hm
  have hm1:=hm.1
  unfold Zdz at hm1
  simp only[Bool.and_eq_true,decide_eq_true_eq] at hm1
  obtain⟨xr,xi,xb,xc,xf,xt,xd,xa,xs,u⟩:=x
  simp only at hr h1 h2 h3 hm1
  have hpp:=h.path p hp
  rw[Zaj (by omega) (by omega)] at hm1
  obtain⟨rfl,rfl,rfl,rfl⟩:=h2
  subst hr
  refine⟨p,hp,xd, ?_,by omega,by omega⟩
  unfold Zg4
  rw[←hm1.1, ←hm1.2.1,show xa=xd+p.2.2.1 by omega]
 ·rintro ⟨p,hp,a,rfl,h1,h2⟩
  have hpp:=h.path p hp
  refine⟨⟨⟨Zij.2 hpp.1,Zij.2 hpp.2.1⟩,rfl,⟨⟨h1,by show a≤_;omega⟩,⟨by show 0≤a+p.2.2.1;omega,h2⟩⟩, ?_⟩,rfl⟩
  show Zgs n (Zcj q) _=0
  rw[ZeV]
  refine List.any_eq_true.2 ⟨p,hp, ?_⟩
  unfold Zdz Zgt Zcj Zg4
  simp only[Bool.and_eq_true,decide_eq_true_eq,Bool.not_false,Bool.or_true]
  exact⟨⟨trivial,trivial,by rw[Zaj (by omega) (by omega)];omega⟩,trivial⟩
theorem Zlf (h:Zev n) {i b c j d e:Nat} {st st' sx:Bool} :Zg9 n (Zep n i b c st) (Zep n j d e st') sx=true↔isLink n i c j d sx:=by
 unfold Zg9
 rw[List.any_eq_true]
 constructor
 ·rintro ⟨x,hx,hm⟩
  obtain⟨i',c',j',d',s',rfl,_⟩:=h.link x hx
  unfold ZmH Zep at hm
  simp only[Bool.and_eq_true,decide_eq_true_eq,beq_iff_eq] at hm
  obtain⟨h1,h2,h3,h4,h5⟩:=hm
  unfold isLink
  rw[←h1, ←h2, ←h3, ←h4, ←h5];exact hx
 ·intro hl
  refine⟨_,hl, ?_⟩
  unfold ZmH Zep
  simp
theorem Zuq (n:ZaA) (s t a b s' t' a' b' :Int):ZbY n (Zg4 s t a b) (Zg4 s' t' a' b')≠0:=by
 unfold ZbY Zg4
 intro h
 rw[ZaB (by omega)] at h
 obtain⟨_,h⟩:=h
 simp at h
theorem Zut (n:ZaA) (s t a b:Int) (j d e:Nat):ZbY n (Zg4 s t a b) (Zep n j d e true)≠0:=by
 unfold ZbY Zg4 Zep
 intro h
 rw[ZaB (by omega)] at h
 obtain⟨_,h⟩:=h
 simp [ZbB] at h
theorem Zuh (h:Zev n) {i b c j d e:Nat} {st:Bool} :ZbY n (Zep n i b c st) (Zep n j d e true)=0↔(Zaf n i c).1=(Zaf n j d).1∧isLink n i c j d true∧(Zaf n i c).2.1≤(Zaf n j d).2.2.1:=by
 unfold ZbY
 have e1:Zg9 n (Zep n i b c st) (Zep n j d e true) true=true↔isLink n i c j d true:=Zlf h
 generalize Zg9 n (Zep n i b c st) (Zep n j d e true) true=B at*
 unfold Zep ZbB
 simp only[Bool.not_true,Bool.false_and,cond_false,cond_true,Bool.false_or]
 rw[ZaB (by omega),ZaB (by omega)]
 rw[←e1]
 cases B with
 |false=>simp
 |true=>
  simp only[Bool.not_true,Bool.not_eq_false',decide_eq_true_eq,true_and]
  refine and_congr_right fun _=> ?_
  by_cases hlt: (Zaf n j d).2.2.1< (Zaf n i c).2.1
  ·rw[decide_eq_true hlt];simp;omega
  ·rw[decide_eq_false hlt];simp;omega
theorem Zuz {i b c:Nat} {st:Bool} {s t a z:Int} :ZbY n (Zep n i b c st) (Zg4 s t a z)=0↔(Zaf n i c).1=s∧a=(Zaf n i c).2.1:=by
 unfold ZbY Zep Zg4 ZbB
 simp only[Bool.not_true,Bool.false_and,cond_false,cond_true,Bool.not_false]
 rw[ZaB (by omega)]
 simp only[Bool.not_eq_false',decide_eq_true_eq]
 refine and_congr_right fun _=> ?_
 by_cases hlt:a=(Zaf n i c).2.1
 ·rw[decide_eq_true hlt];simp [hlt]
 ·rw[decide_eq_false hlt];simp [hlt]
theorem ZuK {j d e:Nat} {s t a z:Int} :ZbY n (Zg4 s t a z) (Zep n j d e false)=0↔t=(Zaf n j d).1∧z≤(Zaf n j d).2.2.1:=by
 unfold ZbY Zep Zg4 ZbB
 simp only[Bool.not_true,Bool.and_false,cond_false,cond_true,Bool.not_false]
 rw[ZaB (by omega)]
 simp only[Bool.not_eq_false',decide_eq_true_eq]
 refine and_congr_right fun _=> ?_
 by_cases hlt: (Zaf n j d).2.2.1<z
 ·rw[decide_eq_true hlt];simp;omega
 ·rw[decide_eq_false hlt];simp;omega
theorem ZuJ (h:Zev n) {i b c j d e:Nat} {st:Bool} (hi:i<n.2.2.1.length) (hc:c< (Zaw n i).length):ZbY n (Zep n i b c st) (Zep n j d e false)=0↔(Zaf n i c).1=(Zaf n j d).1∧
  ((Zaf n i c).2.1+(Zci n (Zaf n i c).1).2.2.2.1≤(Zaf n j d).2.2.1∨isLink n i c j d false∧(Zaf n i c).2.1≤(Zaf n j d).2.2.1):=by
 have ht:=h.time hi hc
 have hs:=h.stop hi hc
 have hcg:=h.change _ hs.1 hs.2
 have w1:IntKind.wrap .i64 ((Zaf n i c).2.1+(Zci n (Zaf n i c).1).2.2.2.1)=(Zaf n i c).2.1+(Zci n (Zaf n i c).1).2.2.2.1:=Zaj (by omega) (by omega)
 unfold ZbY
 have e1:Zg9 n (Zep n i b c st) (Zep n j d e false) false=true↔isLink n i c j d false:=Zlf h
 generalize Zg9 n (Zep n i b c st) (Zep n j d e false) false=B at*
 unfold Zep ZbB
 simp only[Bool.not_true,Bool.false_and,cond_false,w1]
 rw[ZaB (by omega)]
 simp only[Bool.not_eq_false',decide_eq_true_eq]
 refine and_congr_right fun _=> ?_
 rw[←e1]
 by_cases h1: (Zaf n i c).2.1+(Zci n (Zaf n i c).1).2.2.2.1≤(Zaf n j d).2.2.1
 ·rw[decide_eq_true h1];simp [h1]
 ·rw[decide_eq_false h1]
  by_cases h2: (Zaf n i c).2.1≤(Zaf n j d).2.2.1
  ·rw[decide_eq_true h2]
   cases B with
   |true=>simp [h1,h2]
   |false=>simp [h1]
  ·rw[decide_eq_false h2]
   simp [h1,h2]
theorem Zi7 {i b c:Nat} {st:Bool} :ZdL n (Zcj q) (Zep n i b c st)=0↔(Zaf n i c).2.2.2.2.1=true:=by
 unfold ZdL
 rw[ZaB (by omega),ZaB (by omega),Zgj]
 show (!(Zaf n i c).2.2.2.2.1)=false∧_↔_
 simp
theorem Znn {n:ZaA} {q:Zbq} {L:List ZaP} {i:Nat} :atE n q L i=0↔ZjV n q (lg L i)=0∧ZiG n q L i=0∧(Zha L i=true→ZdL n q (lg L i)=0):=by
 unfold atE
 by_cases h1:ZjV n q (lg L i)=0
 ·by_cases h2:ZiG n q L i=0
  ·rw[decide_eq_true h1,decide_eq_true h2]
   cases Zha L i<;>simp [h1,h2]
  ·rw[decide_eq_true h1,decide_eq_false h2];simp [h2]
 ·rw[decide_eq_false h1];simp [h1]
theorem Zpc {n:ZaA} {q:Zbq} {L:List ZaP} :Zjh n q L=0↔(lg L 0).2.2.2.2.1=q.1∧ZbB (lg L 0)=false∧(!(lg L 0).1&& (decide (1<L.length) && ((lg L 1).1&& !decide ((lg L 1).2.2.2.2.2.2.1=(lg L 0).2.2.2.2.2.2.2.1))))=false∧
  (!(lg L 0).1&& (decide (L.length=1) && (bif q.2.2.2.1 then !decide ((lg L 0).2.2.2.2.2.2.2.1=q.2.2.1) else !decide ((lg L 0).2.2.2.2.2.2.1=q.2.2.1))))=false∧
  (!q.2.2.2.1&&decide ((lg L 0).2.2.2.2.2.2.1<q.2.2.1))=false∧(q.2.2.2.2.2.2.2.2.2.1&& ((lg L 0).1&&decide ((lg L 0).2.2.2.2.2.2.1<IntKind.wrap .i64 (q.2.2.1+(Zci n q.1).2.2.2.1))))=false:=by
 unfold Zjh
 rw[ZaB (by omega),ZaB (by omega),ZaB (by omega),ZaB (by omega),ZaB (by omega)]
 simp only[Bool.not_eq_false',decide_eq_true_eq]
 refine and_congr_right fun _=>and_congr_right fun _=>and_congr_right fun _=>and_congr_right fun _=>and_congr_right fun _=> ?_
 cases (q.2.2.2.2.2.2.2.2.2.1&& ((lg L 0).1&&decide ((lg L 0).2.2.2.2.2.2.1<IntKind.wrap .i64 (q.2.2.1+(Zci n q.1).2.2.2.1))))<;>simp
end Q
namespace Q
open Tr Go
open Option (bind_some)
variable {n:ZaA} {q:Zbq}
theorem Zo2 (a b:List ZaP):Zby (a++b)=Zby a+Zby b:=by simp [Zby]
theorem Zht (s t a b:Int):Zby [Zg4 s t a b]=0:=rfl
theorem ZfQ (n:ZaA) (i b c:Nat) (st:Bool):Zby [Zep n i b c st]=if st then 0 else 1:=by cases st<;>rfl
theorem Zu1 {L:List ZaP} {i:Nat} (h:i<L.length):lg L i=L[i]:=by unfold lg;rw[Zah h]
theorem Zfz {L:List ZaP} {i:Nat} (h:i<L.length):Zby (L.take (i+1))=Zby (L.take i)+Zby [lg L i]:=by
 rw[List.take_succ_eq_append_getElem h,Zo2,Zu1 h]
def Zph (n:ZaA) (s0 t0 w:Int) (L:List ZaP) (i:Nat):Prop:=
 (∃r b c st,lg L i=Zep n r b c st∧Zs3 n r b c st∧ ∃js,Der n s0 t0 w (.on (Zby (L.take (i+1))) r c) js)∨
 (∃p∈n.2.2.2.2.1, ∃a,lg L i=Zg4 p.1 p.2.1 a (a+p.2.2.1)∧(∃r,r≤a+p.2.2.1∧ ∃js,Der n s0 t0 w (.rdy (Zby (L.take (i+1))) p.2.1 r) js)∧(0<i∨L.length=1→ ∃js,Der n s0 t0 w (.arr (Zby (L.take (i+1))) p.2.1 (a+p.2.2.1)) js))
theorem Zpd {n:ZaA} {q:Zbq} {L:List ZaP} {i:Nat} :ZiG n q L (i+1)=ZbY n (lg L i) (lg L (i+1)):=by
 unfold ZiG
 rw[decide_eq_false (Nat.succ_ne_zero i)]
 rfl
theorem Zou (h:Zev n) (hq:0≤q.1∧q.1< (n.1.length:Int)) (ht:0≤q.2.2.1∧q.2.2.1≤3155932800) (hb:q.2.2.2.1=false) {L:List ZaP} (h0:0<L.length) (ha:atE n (Zcj q) L 0=0):
  Zph n q.1 q.2.2.1 (bif q.2.2.2.2.2.2.2.2.2.1 then(Zci n q.1).2.2.2.1 else 0) L 0:=by
 obtain⟨h1,h2,h3⟩:=Znn.1 ha
 have hcg:=h.change _ hq.1 hq.2
 have h2' :Zjh n (Zcj q) L=0:=h2
 obtain⟨f1,f2,f3,f4,f5,f6⟩:=Zpc.1 h2'
 have g1: (Zcj q).1=q.1:=rfl
 have g2: (Zcj q).2.2.1=q.2.2.1:=rfl
 have g3: (Zcj q).2.2.2.1=q.2.2.2.1:=rfl
 have g4: (Zcj q).2.2.2.2.2.2.2.2.2.1=q.2.2.2.2.2.2.2.2.2.1:=rfl
 rw[g1] at f1
 rw[g3,hb,g2] at f4 f5
 rw[g4,g2,g1] at f6
 cases hr: (lg L 0).1 with
 |true=>
  obtain⟨i,b,c,st,e,hk⟩:=(ZnF h).1 ⟨h1,hr⟩
  have hk' :=hk
  obtain⟨k1,k2,k3,k4,k5⟩:=hk'
  rw[e] at f1 f2 f5 f6
  have hst:st=false:=f2
  subst hst
  have hbd: (Zaf n i b).2.2.2.1=true:=k5.resolve_left (by simp)
  have hstop: (Zaf n i b).1=q.1:=f1
  have hlate:q.2.2.1+(bif q.2.2.2.2.2.2.2.2.2.1 then(Zci n q.1).2.2.2.1 else 0)≤(Zaf n i b).2.2.1:=by
   simp only[Bool.not_false,Bool.true_and,decide_eq_false_iff_not] at f5
   have f5' : ¬ (Zaf n i b).2.2.1<q.2.2.1:=f5
   cases hc:q.2.2.2.2.2.2.2.2.2.1 with
   |false=>simp only[cond_false];omega
   |true=>
    rw[hc,Zaj (by omega) (by omega)] at f6
    simp only[Bool.true_and] at f6
    have f6' :decide ((Zaf n i b).2.2.1<q.2.2.1+(Zci n q.1).2.2.2.1)=false:=f6
    rw[decide_eq_false_iff_not] at f6'
    simp only[cond_true]
    omega
  refine .inl ⟨i,b,c,false,e,hk, ?_⟩
  have d:=Der.on (.board (.init (n:=n) (s0:=q.1) (t0:=q.2.2.1) (w:=(bif q.2.2.2.2.2.2.2.2.2.1 then(Zci n q.1).2.2.2.1 else 0))) k1 (by omega) k4 hstop hbd hlate) k2 k3
  have:Zby (L.take (0+1))=1:=by
   rw[Zfz h0,e,ZfQ];rfl
  rw[this];exact⟨_,d⟩
 |false=>
  obtain⟨p,hp,a,e,a0,a1⟩:=(ZnI h).1 ⟨h1,hr⟩
  have hpp:=h.path p hp
  rw[e] at f1 f4 f5
  have hs:p.1=q.1:=f1
  have hK:Zby (L.take (0+1))=0:=by rw[Zfz h0,e,Zht];rfl
  have f5' : ¬a<q.2.2.1:=by
   simp only[Bool.not_false,Bool.true_and,decide_eq_false_iff_not] at f5
   exact f5
  refine .inr ⟨p,hp,a,e,⟨q.2.2.1+p.2.2.1,by omega, ?_⟩,fun hl=> ?_⟩
  ·rw[hK];exact⟨_, .rdyW hp hs (by omega)⟩
  ·have hl1:L.length=1:=hl.resolve_left (by omega)
   rw[decide_eq_true hl1] at f4
   have f4' : (!decide (a=q.2.2.1))=false:=f4
   simp only[Bool.not_eq_false',decide_eq_true_eq] at f4'
   subst f4'
   exact⟨_,by rw[hK];exact .arrW hp hs a1⟩
theorem Zn2 (h:Zev n) {s0 t0 w:Int} {L:List ZaP} {i:Nat} (hi:i+1<L.length) (ha:atE n (Zcj q) L i=0) (hb:atE n (Zcj q) L (i+1)=0) (hr:Zph n s0 t0 w L i):Zph n s0 t0 w L (i+1):=by
 obtain⟨_,_,a3⟩:=Znn.1 ha
 obtain⟨b1,b2,_⟩:=Znn.1 hb
 rw[Zpd] at b2
 have hK:=Zfz hi
 have htl: ∀ {r b c:Nat} {st:Bool},lg L i=Zep n r b c st→ZbB (lg L (i+1))=false→(Zaf n r c).2.2.2.2.1=true:=by
  intro r b c st e hs
  refine Zi7.1 (?_ :ZdL n (Zcj q) (Zep n r b c st)=0)
  rw[←e]
  refine a3 ?_
  unfold Zha
  rw[e,hs]
  simp [Zep]
 cases hy: (lg L (i+1)).1 with
 |true=>
  obtain⟨j,d,e,st',ey,hk⟩:=(ZnF h).1 ⟨b1,hy⟩
  have hk' :=hk
  obtain⟨k1,k2,k3,k4,k5⟩:=hk'
  rw[ey] at b2 hK
  refine .inl ⟨j,d,e,st',ey,hk, ?_⟩
  cases st' with
  |true=>
   rw[ZfQ] at hK
   rcases hr with ⟨r,b,c,st,ex,hx,js,dx⟩ | ⟨p,hp,a,ex,_⟩
   ·rw[ex] at b2
    obtain⟨c1,c2,c3⟩:=(Zuh h).1 b2
    rw[hK]
    exact⟨_, .on (.stay dx c2 c3 k4) k2 k3⟩
   ·rw[ex] at b2
    exact absurd b2 (Zut _ _ _ _ _ _ _ _)
  |false=>
   rw[ZfQ] at hK
   have hbd: (Zaf n j d).2.2.2.1=true:=k5.resolve_left (by simp)
   have hns:ZbB (lg L (i+1))=false:=by rw[ey];rfl
   rcases hr with ⟨r,b,c,st,ex,hx,js,dx⟩ | ⟨p,hp,a,ex,⟨r,hr1,js,dr⟩,_⟩
   ·have hal:=htl ex hns
    rw[ex] at b2
    obtain⟨c1,c2⟩:=(ZuJ h hx.1 hx.2.2.1).1 b2
    rw[hK]
    rcases c2 with c2| ⟨c2,c3⟩
    ·exact⟨_, .on (.board (.change (.ride dx hal)) k1 (by omega) k4 c1.symm hbd c2) k2 k3⟩
    ·exact⟨_, .on (.linked (.link dx hal c2 c3 hbd) k4) k2 k3⟩
   ·rw[ex] at b2
    obtain⟨c1,c2⟩:=ZuK.1 b2
    rw[hK]
    exact⟨_, .on (.board dr k1 (by omega) k4 c1.symm hbd (by omega)) k2 k3⟩
 |false=>
  obtain⟨p,hp,a,ey,a0,a1⟩:=(ZnI h).1 ⟨b1,hy⟩
  rw[ey] at b2 hK
  rw[Zht] at hK
  have hns:ZbB (lg L (i+1))=false:=by rw[ey];rfl
  rcases hr with ⟨r,b,c,st,ex,hx,js,dx⟩ | ⟨p',hp',a',ex,_⟩
  ·have hal:=htl ex hns
   rw[ex] at b2
   obtain⟨c1,c2⟩:=Zuz.1 b2
   have dr:=Der.ride dx hal
   refine .inr ⟨p,hp,a,ey,⟨a+p.2.2.1,Int.le_refl _, ?_⟩,fun _=> ?_⟩
   ·rw[hK,c2]
    exact⟨_, .rdyV dr hp c1.symm (by omega)⟩
   ·rw[hK,c2]
    exact⟨_, .arrV dr hp c1.symm (by omega)⟩
  ·rw[ex] at b2
   exact absurd b2 (Zuq _ _ _ _ _ _ _ _ _)
theorem ZuB (h:Zev n) (hq:0≤q.1∧q.1< (n.1.length:Int)) (ht:0≤q.2.2.1∧q.2.2.1≤3155932800) (hb:q.2.2.2.1=false) {L:List ZaP} (h0:0<L.length) (ha: ∀i,i<L.length→atE n (Zcj q) L i=0):
  ∃js,Der n q.1 q.2.2.1 (bif q.2.2.2.2.2.2.2.2.2.1 then(Zci n q.1).2.2.2.1 else 0) (.arr (Zby L) (lg L (L.length - 1)).2.2.2.2.2.1 (lg L (L.length - 1)).2.2.2.2.2.2.2.1) js:=by
 have key: ∀i,i<L.length→Zph n q.1 q.2.2.1 (bif q.2.2.2.2.2.2.2.2.2.1 then(Zci n q.1).2.2.2.1 else 0) L i:=by
  intro i
  induction i with
  |zero=>exact fun hi=>Zou h hq ht hb h0 (ha 0 hi)
  |succ i ih=>exact fun hi=>Zn2 h hi (ha i (by omega)) (ha (i+1) hi) (ih (by omega))
 have hr:=key (L.length - 1) (by omega)
 have hlast:=(Znn.1 (ha (L.length - 1) (by omega))).2.2
 unfold Zph at hr
 rw[show L.length - 1+1=L.length by omega,List.take_length] at hr
 rcases hr with ⟨r,b,c,st,e,hk,js,d⟩ | ⟨p,hp,a,e,_,hd⟩
 ·have hal: (Zaf n r c).2.2.2.2.1=true:=by
   refine Zi7.1 (?_ :ZdL n (Zcj q) (Zep n r b c st)=0)
   rw[←e]
   refine hlast ?_
   unfold Zha
   rw[e,decide_eq_true (show L.length - 1+1=L.length by omega)]
   rfl
  rw[e]
  exact⟨js, .arrR (.ride d hal)⟩
 ·rw[e]
  refine hd ?_
  by_cases h1:L.length=1
  ·exact .inr h1
  ·exact .inl (by omega)
end Q
namespace Q
open Tr Go
open Option (bind_some)
theorem Zdt:F29=some true:=by kernel_rfl
structure Zug (n:ZaA):Prop where
 stops:n.1.length≤20
 routes:n.2.1.length≤20
 runs:n.2.2.1.length≤20
 links:n.2.2.2.1.length≤20
 paths:n.2.2.2.2.1.length≤200
 prods:n.2.2.2.2.2.1.1.length≤20
 calls: ∀r∈n.2.2.1,r.2.2.2.2.2.2.2.1.length≤40
theorem Zug.few {n:ZaA} (h:Zug n):Few n:=
 ⟨by have:=h.stops;omega,by have:=h.routes;omega,by have:=h.runs;omega,by have:=h.links;omega,by have:=h.paths;omega,by have:=h.prods;omega,fun r hr=>by have:=h.calls r hr;omega⟩
theorem ZuH {n:ZaA} (h:ZlR Y31 n) (hp:n.2.2.2.2.1.length≤4096):Fit n:=by
 obtain⟨⟨_,h1⟩,⟨_,h2⟩,⟨_,h3⟩,_,_,⟨⟨_,h6⟩,_⟩,_⟩:=h
 refine⟨fun x hx=> ?_,fun x hx=> ?_,fun x hx=> ?_,fun x hx=> ?_,hp,fun x hx=> ?_⟩
 ·exact(h1 x hx).1
 ·exact(h2 x hx).1
 ·exact(h3 x hx).2.2.2.1
 ·exact(h3 x hx).2.2.2.2.2.2.2.1.1
 ·exact(h6 x hx).1
noncomputable def ZtA (n:ZaA) (q:Zbq):Int:=bif !decide (Zkr n q=0) then Zkr n q else bif q.2.2.2.1 then 22 else 0
theorem Zo1 {n:ZaA} (h:Fit n) (q:Zbq):F102 n q=some (ZtA n q):=by
 unfold F102 ZtA
 rw[ZkZ h]
 simp only[bind_some]
 cases decide (Zkr n q=0)<;>cases q.2.2.2.1<;>rfl
end Q
namespace Q
open Tr Go
open Option (bind_some)
abbrev ZbD:=Int×Int×Int×Int×Int×Int×Unit
abbrev Zch:=Int×Int×Bool×Unit
abbrev ZaE:=ZaA×List Zm5×List ZbD×List Zch×List Zch×List Int×List (List Int) ×Unit
def Zb1 (old new:Int):Bool:=decide (old= -1) ||decide (new<old)
theorem ZdY (old new:Int): (bif decide (old=(-1:Int)) then some true else some (decide (new<old)))=some (Zb1 old new):=by
 unfold Zb1
 cases decide (old=(-1:Int))<;>rfl
def Zt6 (p:ZbD) (a l:Int):ZbD:=bif Zb1 p.1 a then(a,p.2.1,p.2.2.1,l,p.2.2.2.2) else p
def ZtQ (p:ZbD) (r l:Int):ZbD:=bif Zb1 p.2.2.1 r then(p.1,p.2.1,r,p.2.2.2.1,p.2.2.2.2.1,l,p.2.2.2.2.2.2) else p
def ZqC (p:ZbD) (a r l:Int):ZbD:=ZtQ (Zt6 p a l) r l
def ZfR (f:ZaE) (i:Nat) (a r l:Int):ZaE:=(f.1,f.2.1,f.2.2.1.modify i fun p=>ZqC p a r l,f.2.2.2)
theorem ZiO {α:Type} {l:List α} {i:Nat} (h:i<l.length) (g:α→α):l.modify i g=l.set i (g l[i]):=by
 apply List.ext_getElem?
 intro j
 rw[List.getElem?_modify,List.getElem?_set]
 by_cases hj:i=j
 ·subst hj
  rw[List.getElem?_eq_getElem h]
  simp [h]
 ·simp [hj]
theorem ZfP (f:ZaE) {i:Nat} (hi:i<f.2.2.1.length) (a r l:Int):F108 f (i:Int) a r l=some (ZfR f i a r l):=by
 unfold F108 ZfR
 rw[ZiO hi]
 obtain⟨n,lb,now,rest⟩:=f
 simp only at hi
 simp only[ZaL hi,bind_some,List.getElem?_eq_getElem hi]
 generalize hp:now[i]=p
 rw[ZdY]
 simp only[bind_some]
 unfold ZqC Zt6
 cases hl:Zb1 p.1 a with
 |true=>
  simp only[cond_true,List.set_set,List.getElem?_set_self hi,bind_some]
  rw[ZdY]
  simp only[bind_some]
  unfold ZtQ
  simp only
  cases Zb1 p.2.2.1 r with
  |true=>
   simp only[cond_true]
  |false=>simp only[cond_false]
 |false=>
  simp only[cond_false]
  rw[ZdY]
  simp only[bind_some]
  unfold ZtQ
  cases Zb1 p.2.2.1 r with
  |true=>
   simp only[cond_true,List.set_set,List.getElem?_set_self hi,bind_some]
  |false=>
   simp only[cond_false]
   rw[←hp,List.set_getElem_self]
def ZfL (f:ZaE) (x:ZaP) (prev:Int):ZaE:=(f.1,f.2.1++[(x,prev,())],f.2.2)
theorem Zrn (f:ZaE) (hl:f.2.1.length<4000000000) (x:ZaP) (prev:Int):F105 f x prev=some (ZfL f x prev,(f.2.1.length:Int)):=by
 unfold F105 ZfL
 rw[Zbh (by simp;omega)]
 have e:IntKind.wrap .i64 (((f.2.1++[(x,prev,())]).length:Int) - 1)=(f.2.1.length:Int):=by
  rw[List.length_append]
  simp only[List.length_cons,List.length_nil]
  rw[Zaj (by omega) (by omega)];omega
 rw[e]
 rfl
theorem ZfF (b:Zch) (c:Int):F101 b c=some (Zb1 b.1 c):=by
 unfold F101
 rw[ZdY]
 rfl
def Zbe (f:ZaE) (i:Nat) (b:Zch):ZaE:=
 bif !(rn f.1 (i:Int)).2.2.2.2.2.2.1&&Zb1 ((f.2.2.2.2.1[i]?).getD (0,0,false,())).1 b.1 then(f.1,f.2.1,f.2.2.1,f.2.2.2.1,f.2.2.2.2.1.set i b,f.2.2.2.2.2.1++[(i:Int)],f.2.2.2.2.2.2) else f
theorem Zh9 (f:ZaE) {i:Nat} (hi:i<f.1.2.2.1.length) (hr:f.2.2.2.2.1.length=f.1.2.2.1.length) (ho:f.2.2.2.2.2.1.length<4000000000) (b:Zch):F106 f (i:Int) b=some (Zbe f i b):=by
 unfold F106 Zbe
 have hi' :i<f.2.2.2.2.1.length:=by omega
 have e:rn f.1 (i:Int)=f.1.2.2.1[i]:=by unfold rn;rw[Int.toNat_natCast,Zah hi]
 rw[e,Zah hi']
 simp only[Zag hi,bind_some,ZaL hi',List.getElem?_eq_getElem hi',ZfF]
 rw[Zbh (by simp;omega)]
 cases (f.1.2.2.1[i]).2.2.2.2.2.2.1 with
 |true=>rfl
 |false=>
  simp only[Bool.not_false,cond_true,bind_some,Bool.true_and]
  cases Zb1 (f.2.2.2.2.1[i]).1 b.1<;>rfl
theorem Zoc (f:ZaE) (i:Nat) (b:Zch): (Zbe f i b).1=f.1:=by unfold Zbe;cases (!(rn f.1 (i:Int)).2.2.2.2.2.2.1&&Zb1 ((f.2.2.2.2.1[i]?).getD (0,0,false,())).1 b.1)<;>rfl
theorem ZeU (f:ZaE) (i:Nat) (b:Zch): (Zbe f i b).2.1=f.2.1:=by unfold Zbe;cases (!(rn f.1 (i:Int)).2.2.2.2.2.2.1&&Zb1 ((f.2.2.2.2.1[i]?).getD (0,0,false,())).1 b.1)<;>rfl
theorem Zor (f:ZaE) (i:Nat) (b:Zch): (Zbe f i b).2.2.1=f.2.2.1:=by unfold Zbe;cases (!(rn f.1 (i:Int)).2.2.2.2.2.2.1&&Zb1 ((f.2.2.2.2.1[i]?).getD (0,0,false,())).1 b.1)<;>rfl
theorem ZjH (f:ZaE) (i:Nat) (b:Zch): (Zbe f i b).2.2.2.1=f.2.2.2.1:=by unfold Zbe;cases (!(rn f.1 (i:Int)).2.2.2.2.2.2.1&&Zb1 ((f.2.2.2.2.1[i]?).getD (0,0,false,())).1 b.1)<;>rfl
theorem Zl3 (f:ZaE) (i:Nat) (b:Zch): (Zbe f i b).2.2.2.2.1.length=f.2.2.2.2.1.length:=by
 unfold Zbe
 cases (!(rn f.1 (i:Int)).2.2.2.2.2.2.1&&Zb1 ((f.2.2.2.2.1[i]?).getD (0,0,false,())).1 b.1) with
 |false=>rfl
 |true=>exact List.length_set ..
theorem Zo6 (f:ZaE) (i:Nat) (b:Zch): (Zbe f i b).2.2.2.2.2.2=f.2.2.2.2.2.2:=by unfold Zbe;cases (!(rn f.1 (i:Int)).2.2.2.2.2.2.1&&Zb1 ((f.2.2.2.2.1[i]?).getD (0,0,false,())).1 b.1)<;>rfl
theorem Zmh (f:ZaE) (i:Nat) (b:Zch): (Zbe f i b).2.2.2.2.2.1.length≤f.2.2.2.2.2.1.length+1:=by
 unfold Zbe
 cases (!(rn f.1 (i:Int)).2.2.2.2.2.2.1&&Zb1 ((f.2.2.2.2.1[i]?).getD (0,0,false,())).1 b.1) with
 |false=>simp
 |true=>simp
def ZaZ (s at' prev:Int) (f:ZaE) (p:Zca):ZaE:=
 if p.1=s∧at' +p.2.2.1≤3155932800 then ZfR (ZfL f (false,0,0,0,s,p.2.1,at',at' +p.2.2.1,false,()) prev) p.2.1.toNat (at' +p.2.2.1) (at' +p.2.2.1) (f.2.1.length:Int) else f
def Zgy (f:ZaE) (s at' prev:Int):ZaE:=f.1.2.2.2.2.1.foldl (ZaZ s at' prev) f
structure ZjI (f g:ZaE) (k:Nat):Prop where
 net:g.1=f.1
 lab:g.2.1.length≤f.2.1.length+k
 now:g.2.2.1.length=f.2.2.1.length
theorem ZjI.refl (f:ZaE):ZjI f f 0:=⟨rfl,by omega,rfl⟩
theorem ZjI.trans {f g h:ZaE} {a b:Nat} (x:ZjI f g a) (y:ZjI g h b):ZjI f h (a+b):=
 ⟨y.net.trans x.net,by have:=x.lab;have:=y.lab;omega,y.now.trans x.now⟩
theorem ZiE (s at' prev:Int) (f:ZaE) (p:Zca):ZjI f (ZaZ s at' prev f p) 1:=by
 unfold ZaZ
 split
 ·exact⟨rfl,by simp [ZfR,ZfL],by simp [ZfR,ZfL,List.length_modify]⟩
 ·exact⟨rfl,by omega,rfl⟩
theorem ZbZ (s at' prev:Int): ∀ (l:List Zca) (f:ZaE),ZjI f (l.foldl (ZaZ s at' prev) f) l.length
 | [],f=>ZjI.refl f
 |p::l,f=>by
  have h:=(ZiE s at' prev f p).trans (ZbZ s at' prev l _)
  simp only[List.foldl_cons,List.length_cons]
  exact⟨h.net,by have:=h.lab;omega,h.now⟩
theorem ZnT (f:ZaE) {s at' :Int} (prev:Int) (h0:0≤at') (h1:at' ≤3155932800) (hl:f.2.1.length+f.1.2.2.2.2.1.length<4000000000) (hp:f.1.2.2.2.2.1.length≤4096)
  (hto: ∀p∈f.1.2.2.2.2.1,0≤p.2.1∧p.2.1< (f.2.2.1.length:Int)∧0≤p.2.2.1∧p.2.2.1≤14400):F112 f s at' prev=some (Zgy f s at' prev):=by
 unfold F112 Zgy
 generalize hpp:f.1.2.2.2.2.1=l at*
 refine Zb5 (fun r=>r=l.foldl (ZaZ s at' prev) f) ?_ (fun r hr=>by rw[hr])
 refine Za9 l.length _ (fun i (st:ZaE×Int)=>st=((l.take i).foldl (ZaZ s at' prev) f,(i:Int))) ?_ ?_ _ rfl
 ·rintro i _ hi rfl
  left
  have hk:=ZbZ s at' prev (l.take i) f
  have hk2:=hk.lab
  rw[List.length_take] at hk2
  have hnet: ((l.take i).foldl (ZaZ s at' prev) f).1.2.2.2.2.1=l:=by rw[hk.net,hpp]
  have e2: (l.take (i+1)).foldl (ZaZ s at' prev) f=ZaZ s at' prev ((l.take i).foldl (ZaZ s at' prev) f) l[i]:=by rw[List.take_succ_eq_append_getElem hi,List.foldl_append];rfl
  rw[e2]
  have hmem:=hto _ (List.getElem_mem hi)
  generalize hg: (l.take i).foldl (ZaZ s at' prev) f=g at*
  have w1:IntKind.wrap .i64 (at' +(l[i]).2.2.1)=at' +(l[i]).2.2.1:=Zaj (by omega) (by omega)
  simp only[Zay hi,cond_true,Zag hi,bind_some,Zan hi (show _≤9223372036854775807 by omega),w1]
  unfold ZaZ
  by_cases hc: (l[i]).1=s
  ·rw[decide_eq_true hc]
   simp only[cond_true,bind_some]
   by_cases hm:at' +(l[i]).2.2.1≤3155932800
   ·rw[decide_eq_true hm,if_pos ⟨hc,hm⟩]
    simp only[cond_true]
    rw[Zrn g (by omega)]
    simp only[bind_some]
    obtain⟨j,hj⟩: ∃j:Nat,(l[i]).2.1=(j:Int):=⟨(l[i]).2.1.toNat,by omega⟩
    rw[hj]
    have hjl:j< (ZfL g (false,0,0,0,s,(j:Int),at',at' +(l[i]).2.2.1,false,()) prev).2.2.1.length:=by
     show j<g.2.2.1.length
     rw[hk.now];omega
    rw[ZfP _ hjl]
    exact⟨_,rfl,by rw[Int.toNat_natCast]⟩
   ·rw[decide_eq_false hm,if_neg (fun h=>hm h.2)]
    exact⟨_,rfl,rfl⟩
  ·rw[decide_eq_false hc,if_neg (fun h=>hc h.1)]
   exact⟨_,rfl,rfl⟩
 ·rintro _ rfl
  rw[List.take_length]
  have hk:=ZbZ s at' prev l f
  simp only[ZaC,cond_false]
  exact⟨_,rfl,rfl⟩
def lkI (n:ZaA) (k:Int):Zkh:=(n.2.2.2.1[k.toNat]?).getD (0,0,0,0,false,())
def Zh8 (f:ZaE) (i:Nat) (b:Zch):ZaE:=(f.1,f.2.1,f.2.2.1,f.2.2.2.1.set i b,f.2.2.2.2)
def ZaH (call:Int) (arr l:Int) (al:Bool) (f:ZaE) (k:Int):ZaE:=
 bif !decide ((lkI f.1 k).2.1=call) ||decide ((cl (rn f.1 (lkI f.1 k).2.2.1).2.2.2.2.2.2.2.1 (lkI f.1 k).2.2.2.1).2.2.1<arr) then f else
 bif (lkI f.1 k).2.2.2.2.1 then Zbe f (lkI f.1 k).2.2.1.toNat ((lkI f.1 k).2.2.2.1,l,true,()) else
 bif al&& ((cl (rn f.1 (lkI f.1 k).2.2.1).2.2.2.2.2.2.2.1 (lkI f.1 k).2.2.2.1).2.2.2.1&&Zb1 ((f.2.2.2.1[(lkI f.1 k).2.2.1.toNat]?).getD (0,0,false,())).1 (lkI f.1 k).2.2.2.1) then Zh8 f (lkI f.1 k).2.2.1.toNat ((lkI f.1 k).2.2.2.1,l,false,()) else f
def Zbu (f:ZaE) (run call l:Int) (al:Bool):ZaE:=
 ((f.2.2.2.2.2.2.1[run.toNat]?).getD []).foldl (ZaH call (cl (rn f.1 run).2.2.2.2.2.2.2.1 call).2.1 l al) f
structure Zbo (f g:ZaE) (k:Nat):Prop where
 net:g.1=f.1
 now:g.2.2.1.length=f.2.2.1.length
 linked:g.2.2.2.1.length=f.2.2.2.1.length
 runs:g.2.2.2.2.1.length=f.2.2.2.2.1.length
 opn:g.2.2.2.2.2.1.length≤f.2.2.2.2.2.1.length+k
 out:g.2.2.2.2.2.2=f.2.2.2.2.2.2
theorem Zbo.refl (f:ZaE):Zbo f f 0:=⟨rfl,rfl,rfl,rfl,by omega,rfl⟩
theorem Zbo.trans {f g h:ZaE} {a b:Nat} (x:Zbo f g a) (y:Zbo g h b):Zbo f h (a+b):=
 ⟨y.net.trans x.net,y.now.trans x.now,y.linked.trans x.linked,y.runs.trans x.runs,by have:=x.opn;have:=y.opn;omega,y.out.trans x.out⟩
theorem Zbo.weak {f g:ZaE} {a b:Nat} (x:Zbo f g a) (h:a≤b):Zbo f g b:=⟨x.net,x.now,x.linked,x.runs,by have:=x.opn;omega,x.out⟩
theorem Zb7 (f:ZaE) (i:Nat) (b:Zch):Zbo f (Zbe f i b) 1:=
 ⟨Zoc ..,congrArg List.length (Zor ..),congrArg List.length (ZjH ..),Zl3 ..,Zmh ..,Zo6 ..⟩
theorem ZcH (call arr l:Int) (al:Bool) (f:ZaE) (k:Int):Zbo f (ZaH call arr l al f k) 1∧(ZaH call arr l al f k).2.1=f.2.1:=by
 unfold ZaH
 cases (!decide ((lkI f.1 k).2.1=call) ||decide ((cl (rn f.1 (lkI f.1 k).2.2.1).2.2.2.2.2.2.2.1 (lkI f.1 k).2.2.2.1).2.2.1<arr)) with
 |true=>exact⟨(Zbo.refl f).weak (by omega),rfl⟩
 |false=>
  simp only[cond_false]
  cases (lkI f.1 k).2.2.2.2.1 with
  |true=>exact⟨Zb7 ..,ZeU ..⟩
  |false=>
   simp only[cond_false]
   cases (al&& ((cl (rn f.1 (lkI f.1 k).2.2.1).2.2.2.2.2.2.2.1 (lkI f.1 k).2.2.2.1).2.2.2.1&&Zb1 ((f.2.2.2.1[(lkI f.1 k).2.2.1.toNat]?).getD (0,0,false,())).1 (lkI f.1 k).2.2.2.1)) with
   |true=>exact⟨⟨rfl,rfl,List.length_set ..,rfl,by show f.2.2.2.2.2.1.length≤_;omega,rfl⟩,rfl⟩
   |false=>exact⟨(Zbo.refl f).weak (by omega),rfl⟩
theorem ZcM (call arr l:Int) (al:Bool): ∀ (ks:List Int) (f:ZaE),Zbo f (ks.foldl (ZaH call arr l al) f) ks.length∧(ks.foldl (ZaH call arr l al) f).2.1=f.2.1
 | [],f=>⟨Zbo.refl f,rfl⟩
 |k::ks,f=>by
  obtain⟨h1,h2⟩:=ZcH call arr l al f k
  obtain⟨h3,h4⟩:=ZcM call arr l al ks (ZaH call arr l al f k)
  exact⟨(h1.trans h3).weak (by simp;omega),h4.trans h2⟩
structure Zll (n:ZaA) (x:Zkh):Prop where
 to:inR x.2.2.1 n.2.2.1.length=true
 call:inR x.2.2.2.1 (rn n x.2.2.1).2.2.2.2.2.2.2.1.length=true
theorem ZmB (f:ZaE) {run call:Int} (l:Int) (al:Bool) (hrun:inR run f.1.2.2.1.length=true) (hcall:inR call (rn f.1 run).2.2.2.2.2.2.2.1.length=true)
  (hout:f.2.2.2.2.2.2.1.length=f.1.2.2.1.length) (hlk: ∀ks∈f.2.2.2.2.2.2.1,ks.length≤1024∧ ∀k∈ks,inR k f.1.2.2.2.1.length=true∧Zll f.1 (lkI f.1 k))
  (hr:f.2.2.2.2.1.length=f.1.2.2.1.length) (hn:f.2.2.2.1.length=f.1.2.2.1.length) (ho:f.2.2.2.2.2.1.length+1024<4000000000):F107 f run call l al=some (Zbu f run call l al):=by
 unfold F107 Zbu
 rw[Za1 hrun u0]
 simp only[bind_some]
 rw[show ((f.1.2.2.1[run.toNat]?).getD u0)=rn f.1 run from rfl,Za1 hcall c0]
 simp only[bind_some]
 rw[show (((rn f.1 run).2.2.2.2.2.2.2.1[call.toNat]?).getD c0)=cl (rn f.1 run).2.2.2.2.2.2.2.1 call from rfl]
 have hro:inR run f.2.2.2.2.2.2.1.length=true:=by rw[hout];exact hrun
 rw[Za1 hro []]
 simp only[bind_some]
 have hrl:run.toNat<f.2.2.2.2.2.2.1.length:=by
  unfold inR at hro
  simp only[Bool.and_eq_true,decide_eq_true_eq] at hro
  omega
 have hks:=hlk _ (by rw[Zah hrl (d:=[])];exact List.getElem_mem hrl: (f.2.2.2.2.2.2.1[run.toNat]?).getD []∈f.2.2.2.2.2.2.1)
 generalize (f.2.2.2.2.2.2.1[run.toNat]?).getD []=ks at*
 generalize (cl (rn f.1 run).2.2.2.2.2.2.2.1 call).2.1=arr
 obtain⟨hkl,hkm⟩:=hks
 refine Zb5 (fun r=>r=ks.foldl (ZaH call arr l al) f) ?_ (fun r hr=>by rw[hr])
 refine Za9 ks.length _ (fun i (st:ZaE×Int)=>st=((ks.take i).foldl (ZaH call arr l al) f,(i:Int))) ?_ ?_ _ rfl
 ·rintro i _ hi rfl
  left
  obtain⟨hk,hlab⟩:=ZcM call arr l al (ks.take i) f
  have e2: (ks.take (i+1)).foldl (ZaH call arr l al) f=ZaH call arr l al ((ks.take i).foldl (ZaH call arr l al) f) ks[i]:=by rw[List.take_succ_eq_append_getElem hi,List.foldl_append];rfl
  rw[e2]
  obtain⟨hm1,hm2⟩:=hkm _ (List.getElem_mem hi)
  have hopn:=hk.opn
  rw[List.length_take] at hopn
  have hnet:=hk.net
  have hlinked:=hk.linked
  have hruns:=hk.runs
  generalize (ks.take i).foldl (ZaH call arr l al) f=g at*
  rw[←hnet] at hm1 hm2 hr hn
  obtain⟨ht,hc⟩:=hm2
  simp only[Zay hi,cond_true,Zag hi,bind_some,Zan hi (show _≤9223372036854775807 by omega)]
  rw[Za1 hm1 (0,0,0,0,false,())]
  simp only[bind_some]
  rw[show ((g.1.2.2.2.1[(ks[i]).toNat]?).getD (0,0,0,0,false,()))=lkI g.1 ks[i] from rfl]
  unfold ZaH
  generalize lkI g.1 ks[i]=x at*
  rw[Za1 ht u0]
  simp only[bind_some]
  rw[show ((g.1.2.2.1[x.2.2.1.toNat]?).getD u0)=rn g.1 x.2.2.1 from rfl,Za1 hc c0]
  simp only[bind_some]
  rw[show (((rn g.1 x.2.2.1).2.2.2.2.2.2.2.1[x.2.2.2.1.toNat]?).getD c0)=cl (rn g.1 x.2.2.1).2.2.2.2.2.2.2.1 x.2.2.2.1 from rfl]
  generalize cl (rn g.1 x.2.2.1).2.2.2.2.2.2.2.1 x.2.2.2.1=c at*
  have ht2:=ht
  unfold inR at ht2
  simp only[Bool.and_eq_true,decide_eq_true_eq] at ht2
  obtain⟨j,hj⟩: ∃j:Nat,x.2.2.1=(j:Int):=⟨x.2.2.1.toNat,by omega⟩
  have hjl:j<g.1.2.2.1.length:=by omega
  rw[hj]
  simp only[Int.toNat_natCast]
  have hb:=Zh9 g hjl (by omega) (by omega) (x.2.2.2.1,l,true,())
  have hjn:j<g.2.2.2.1.length:=by omega
  have e1: (bif !decide (x.2.1=call) then some true else some (decide (c.2.2.1<arr)))=some (!decide (x.2.1=call) ||decide (c.2.2.1<arr)):=by
   cases decide (x.2.1=call)<;>rfl
  rw[e1]
  simp only[bind_some]
  cases (!decide (x.2.1=call) ||decide (c.2.2.1<arr)) with
  |true=>exact⟨_,rfl,rfl⟩
  |false=>
   simp only[cond_false]
   cases x.2.2.2.2.1 with
   |true=>
    simp only[cond_true]
    rw[hb]
    exact⟨_,rfl,rfl⟩
   |false=>
    simp only[cond_false,ZaL hjn,bind_some,List.getElem?_eq_getElem hjn,ZfF]
    cases al with
    |false=>exact⟨_,rfl,rfl⟩
    |true=>
     simp only[cond_true,Bool.true_and]
     cases c.2.2.2.1 with
     |false=>exact⟨_,rfl,rfl⟩
     |true=>
      simp only[cond_true,bind_some,Bool.true_and,Option.getD_some]
      cases Zb1 (g.2.2.2.1[j]).1 x.2.2.2.1 with
      |false=>exact⟨_,rfl,rfl⟩
      |true=>exact⟨_,rfl,rfl⟩
 ·rintro _ rfl
  rw[List.take_length]
  simp only[ZaC,cond_false]
  exact⟨_,rfl,rfl⟩
def Zk3 (f:ZaE) (i:Nat) (a l:Int):ZaE:=(f.1,f.2.1,f.2.2.1.modify i fun p=>(p.1,a,p.2.2.1,p.2.2.2.1,l,p.2.2.2.2.2),f.2.2.2)
def Zlo (f:ZaE) (s:Int):ZbD:=(f.2.2.1[s.toNat]?).getD (0,0,0,0,0,0,())
def ZgF (f:ZaE) (run:Int):List Int:=(f.2.2.2.2.2.2.1[run.toNat]?).getD []
def Zbl (run:Int) (b:Zch) (fr:Zbd) (l:List Zbd) (f:ZaE) (i:Nat):ZaE:=
 bif !(cl l (i:Int)).2.2.2.2.1&&decide ((ZgF f run).length=0) then f else
 bif (cl l (i:Int)).2.2.2.2.1&&Zb1 (Zlo (Zbu (ZfL f (true,run,b.1,(i:Int),fr.1,(cl l (i:Int)).1,fr.2.2.1,(cl l (i:Int)).2.1,b.2.2.1,()) b.2.1) run (i:Int) (f.2.1.length:Int) (cl l (i:Int)).2.2.2.2.1) (cl l (i:Int)).1).2.1 (cl l (i:Int)).2.1 then
  Zk3 (Zbu (ZfL f (true,run,b.1,(i:Int),fr.1,(cl l (i:Int)).1,fr.2.2.1,(cl l (i:Int)).2.1,b.2.2.1,()) b.2.1) run (i:Int) (f.2.1.length:Int) (cl l (i:Int)).2.2.2.2.1) (cl l (i:Int)).1.toNat (cl l (i:Int)).2.1 (f.2.1.length:Int)
 else Zbu (ZfL f (true,run,b.1,(i:Int),fr.1,(cl l (i:Int)).1,fr.2.2.1,(cl l (i:Int)).2.1,b.2.2.1,()) b.2.1) run (i:Int) (f.2.1.length:Int) (cl l (i:Int)).2.2.2.2.1
theorem Zd0 (f:ZaE) (x:ZaP) (p:Int):Zbo f (ZfL f x p) 0:=⟨rfl,rfl,rfl,rfl,by show f.2.2.2.2.2.1.length≤_;omega,rfl⟩
theorem Zmo (f:ZaE) (i:Nat) (a l:Int):Zbo f (Zk3 f i a l) 0:=⟨rfl,List.length_modify ..,rfl,rfl,by show f.2.2.2.2.2.1.length≤_;omega,rfl⟩
theorem ZcU (f:ZaE) (run call l:Int) (al:Bool):Zbo f (Zbu f run call l al) (ZgF f run).length∧(Zbu f run call l al).2.1=f.2.1:=ZcM ..
theorem ZhP (run:Int) (b:Zch) (fr:Zbd) (l:List Zbd) (f:ZaE) (i:Nat):Zbo f (Zbl run b fr l f i) (ZgF f run).length∧(Zbl run b fr l f i).2.1.length≤f.2.1.length+1:=by
 unfold Zbl
 cases (!(cl l (i:Int)).2.2.2.2.1&&decide ((ZgF f run).length=0)) with
 |true=>exact⟨(Zbo.refl f).weak (Nat.zero_le _),Nat.le_succ _⟩
 |false=>
  simp only[cond_false]
  generalize (true,run,b.1,(i:Int),fr.1,(cl l (i:Int)).1,fr.2.2.1,(cl l (i:Int)).2.1,b.2.2.1,())=x
  obtain⟨h1,h2⟩:=ZcU (ZfL f x b.2.1) run (i:Int) (f.2.1.length:Int) (cl l (i:Int)).2.2.2.2.1
  have h3:=(Zd0 f x b.2.1).trans h1
  have ho:ZgF (ZfL f x b.2.1) run=ZgF f run:=rfl
  rw[ho] at h3
  have hlab: (Zbu (ZfL f x b.2.1) run (i:Int) (f.2.1.length:Int) (cl l (i:Int)).2.2.2.2.1).2.1.length=f.2.1.length+1:=by
   rw[h2];simp [ZfL]
  cases ((cl l (i:Int)).2.2.2.2.1&&Zb1 (Zlo (Zbu (ZfL f x b.2.1) run (i:Int) (f.2.1.length:Int) (cl l (i:Int)).2.2.2.2.1) (cl l (i:Int)).1).2.1 (cl l (i:Int)).2.1) with
  |true=>
   simp only[cond_true]
   refine⟨(h3.trans (Zmo ..)).weak (by omega), ?_⟩
   show (Zbu (ZfL f x b.2.1) run (i:Int) (f.2.1.length:Int) (cl l (i:Int)).2.2.2.2.1).2.1.length≤_
   omega
  |false=>
   simp only[cond_false]
   exact⟨h3.weak (by omega),by omega⟩
structure St (f:ZaE):Prop where
 sound:Zdi f.1
 now:f.2.2.1.length=f.1.1.length
 linked:f.2.2.2.1.length=f.1.2.2.1.length
 runs:f.2.2.2.2.1.length=f.1.2.2.1.length
 outl:f.2.2.2.2.2.2.1.length=f.1.2.2.1.length
 out: ∀ks∈f.2.2.2.2.2.2.1,ks.length≤1024∧ ∀k∈ks,inR k f.1.2.2.2.1.length=true∧Zll f.1 (lkI f.1 k)
theorem St.step {f g:ZaE} {k:Nat} (h:St f) (x:Zbo f g k):St g:=
 ⟨by rw[x.net];exact h.sound,by rw[x.now,x.net];exact h.now,by rw[x.linked,x.net];exact h.linked,by rw[x.runs,x.net];exact h.runs,by rw[x.out,x.net];exact h.outl,by rw[x.out,x.net];exact h.out⟩
theorem Zqc {f:ZaE} (h:St f) (run:Int): (ZgF f run).length≤1024:=by
 unfold ZgF
 by_cases hr:run.toNat<f.2.2.2.2.2.2.1.length
 ·rw[Zah hr];exact(h.out _ (List.getElem_mem hr)).1
 ·rw[List.getElem?_eq_none (by omega)];simp
theorem ZjC {f:ZaE} (h:St f) {run i:Nat} (b:Zch) (fr:Zbd) (hrun:run<f.1.2.2.1.length) (hi:i< (f.1.2.2.1[run]).2.2.2.2.2.2.2.1.length) (hl:f.2.1.length<4000000000) (ho:f.2.2.2.2.2.1.length+1024<4000000000):
  (Option.bind (idx (f.1.2.2.1[run]).2.2.2.2.2.2.2.1 (i:Int)) fun x5=>
 Option.bind
 (bif !x5.2.2.2.2.1 then Option.bind (idx f.2.2.2.2.2.2.1 (run:Int)) fun x6=>some (decide ((↑(List.length x6):Int)=(0:Int)))
 else some false)
 fun x7=>
 bif x7 then
 some
 (Sum.inl
 (f,
 IntKind.wrap .i64 ((i:Int)+(1:Int))))
 else
 Option.bind
 (F105
 f
 (true,(run:Int),b.1,(i:Int),fr.1,x5.1,fr.2.2.1,x5.2.1,b.2.2.1,()) b.2.1)
 fun x8=>
 Option.bind
 (F107
 x8.1
 (run:Int) (i:Int) x8.2 x5.2.2.2.2.1)
 fun x9=>
 Option.bind (inb x5.1 (List.length x9.2.2.1)) fun x10=>
 Option.bind
 (bif x5.2.2.2.2.1 then
 Option.bind x9.2.2.1[x10]? fun x11=>
 bif decide (x11.2.1=(-1:Int)) then some true
 else Option.bind x9.2.2.1[x10]? fun x12=>some (decide (x5.2.1<x12.2.1))
 else some false)
 fun x13=>
 bif x13 then
 Option.bind x9.2.2.1[x10]? fun x14=>
 Option.bind (List.set x9.2.2.1 x10 (x14.1,x5.2.1,x14.2.2))[x10]? fun x15=>
 some
 (.inl
 ((x9.1,x9.2.1,
 List.set (List.set x9.2.2.1 x10 (x14.1,x5.2.1,x14.2.2)) x10
 (x15.1,x15.2.1,x15.2.2.1,x15.2.2.2.1,x8.2,x15.2.2.2.2.2),
 x9.2.2.2.1,x9.2.2.2.2.1,x9.2.2.2.2.2.1,x9.2.2.2.2.2.2.1,()),
 IntKind.wrap .i64 ((i:Int)+(1:Int))))
 else
 some
 (.inl
 (x9,
 IntKind.wrap .i64 ((i:Int)+(1:Int)))))=(some (.inl (Zbl (run:Int) b fr (f.1.2.2.1[run]).2.2.2.2.2.2.2.1 f i,((i+1:Nat):Int))):Option ((ZaE×Int) ⊕ ZaE)):=by
 have hmem:=List.getElem_mem hrun
 have hcalls:=(h.sound.many _ hmem).2
 have w1:IntKind.wrap .i64 ((i:Int)+1)=((i+1:Nat):Int):=by rw[Zaj (by omega) (by omega)];omega
 have ec:cl (f.1.2.2.1[run]).2.2.2.2.2.2.2.1 (i:Int)=(f.1.2.2.1[run]).2.2.2.2.2.2.2.1[i]:=by unfold cl;rw[Int.toNat_natCast,Zah hi]
 have hst:=h.sound.call _ hmem _ (List.getElem_mem hi)
 unfold Zbl
 rw[ec,w1]
 simp only[Zag hi,bind_some]
 have ho2:run<f.2.2.2.2.2.2.1.length:=by rw[h.outl];exact hrun
 have eo:ZgF f (run:Int)=f.2.2.2.2.2.2.1[run]:=by unfold ZgF;rw[Int.toNat_natCast,Zah ho2]
 rw[eo]
 simp only[Zag ho2,bind_some]
 have hcall:inR (i:Int) (rn f.1 (run:Int)).2.2.2.2.2.2.2.1.length=true:=by
  unfold rn inR
  rw[Int.toNat_natCast,Zah hrun,Bool.and_eq_true,decide_eq_true_eq,decide_eq_true_eq]
  omega
 have hrr:inR (run:Int) f.1.2.2.1.length=true:=by
  unfold inR
  rw[Bool.and_eq_true,decide_eq_true_eq,decide_eq_true_eq]
  omega
 generalize (f.1.2.2.1[run]).2.2.2.2.2.2.2.1[i]=c at*
 have e1: (bif !c.2.2.2.2.1 then some (decide (((f.2.2.2.2.2.2.1[run]).length:Int)=0)) else some false)=some (!c.2.2.2.2.1&&decide ((f.2.2.2.2.2.2.1[run]).length=0)):=by
  rw[show decide (((f.2.2.2.2.2.2.1[run]).length:Int)=0)=decide ((f.2.2.2.2.2.2.1[run]).length=0) from decide_eq_decide.2 (by omega)]
  cases c.2.2.2.2.1<;>rfl
 rw[e1]
 simp only[bind_some]
 cases (!c.2.2.2.2.1&&decide ((f.2.2.2.2.2.2.1[run]).length=0)) with
 |true=>rfl
 |false=>
  simp only[cond_false]
  rw[Zrn f hl]
  simp only[bind_some]
  generalize (true,(run:Int),b.1,(i:Int),fr.1,c.1,fr.2.2.1,c.2.1,b.2.2.1,())=x
  have hA:=Zd0 f x b.2.1
  have hS:=h.step hA
  rw[ZmB (ZfL f x b.2.1) (f.2.1.length:Int) c.2.2.2.2.1 hrr hcall hS.outl hS.out hS.runs hS.linked ho]
  simp only[bind_some]
  have hG:=hS.step (ZcU (ZfL f x b.2.1) (run:Int) (i:Int) (f.2.1.length:Int) c.2.2.2.2.1).1
  have hnet:=(ZcU (ZfL f x b.2.1) (run:Int) (i:Int) (f.2.1.length:Int) c.2.2.2.2.1).1.net
  generalize Zbu (ZfL f x b.2.1) (run:Int) (i:Int) (f.2.1.length:Int) c.2.2.2.2.1=g at*
  obtain⟨s,hs⟩: ∃s:Nat,c.1=(s:Int):=⟨c.1.toNat,by omega⟩
  have hsl:s<g.2.2.1.length:=by
   rw[hG.now,hnet]
   show s<f.1.1.length
   omega
  rw[hs]
  unfold Zlo
  simp only[ZaL hsl,bind_some,List.getElem?_eq_getElem hsl,Int.toNat_natCast,Option.getD_some]
  rw[ZdY]
  cases c.2.2.2.2.1 with
  |false=>rfl
  |true=>
   simp only[cond_true,bind_some,Bool.true_and]
   cases Zb1 (g.2.2.1[s]).2.1 c.2.1 with
   |false=>rfl
   |true=>
    simp only[cond_true,List.getElem?_set_self hsl,bind_some,List.set_set]
    unfold Zk3
    rw[ZiO hsl]
def ZcN (run:Int) (b:Zch) (fr:Zbd) (l:List Zbd) (k:Nat):Nat→ZaE→ZaE
 |0,f=>f
 |m+1,f=>Zbl run b fr l (ZcN run b fr l k m f) (k+m)
theorem Zct (run:Int) (b:Zch) (fr:Zbd) (l:List Zbd) (k:Nat): ∀ (m:Nat) (f:ZaE),St f→Zbo f (ZcN run b fr l k m f) (1024*m)∧(ZcN run b fr l k m f).2.1.length≤f.2.1.length+m
 |0,f,_=>⟨(Zbo.refl f).weak (by omega),by show f.2.1.length≤_;omega⟩
 |m+1,f,h=>by
  obtain⟨h1,h2⟩:=Zct run b fr l k m f h
  obtain⟨h3,h4⟩:=ZhP run b fr l (ZcN run b fr l k m f) (k+m)
  have h5:=Zqc (h.step h1) run
  refine⟨(h1.trans h3).weak (by omega), ?_⟩
  show (Zbl run b fr l (ZcN run b fr l k m f) (k+m)).2.1.length≤_
  omega
def ZcO (f:ZaE) (i:Nat):ZaE:=
 ZcN (i:Int) ((f.2.2.2.2.1[i]?).getD (0,0,false,())) (cl (rn f.1 (i:Int)).2.2.2.2.2.2.2.1 ((f.2.2.2.2.1[i]?).getD (0,0,false,())).1) (rn f.1 (i:Int)).2.2.2.2.2.2.2.1 (((f.2.2.2.2.1[i]?).getD (0,0,false,())).1.toNat+1)
  ((rn f.1 (i:Int)).2.2.2.2.2.2.2.1.length - (((f.2.2.2.2.1[i]?).getD (0,0,false,())).1.toNat+1)) f
theorem ZpB {f:ZaE} (h:St f) {i:Nat} (hi:i<f.1.2.2.1.length) (hb:inR ((f.2.2.2.2.1[i]?).getD (0,0,false,())).1 (f.1.2.2.1[i]).2.2.2.2.2.2.2.1.length=true) (hl:f.2.1.length+100<4000000000) (ho:f.2.2.2.2.2.1.length+100000<4000000000):
  F111 f (i:Int)=some (ZcO f i):=by
 unfold F111 ZcO
 have hi' :i<f.2.2.2.2.1.length:=by rw[h.runs];exact hi
 have hr:rn f.1 (i:Int)=f.1.2.2.1[i]:=by unfold rn;rw[Int.toNat_natCast,Zah hi]
 rw[hr]
 rw[Zah hi'] at hb ⊢
 simp only[ZaL hi',bind_some,List.getElem?_eq_getElem hi',Zag hi]
 generalize f.2.2.2.2.1[i]=b at*
 have hcalls:=(h.sound.many _ (List.getElem_mem hi)).2
 rw[Za1 hb c0]
 simp only[bind_some]
 rw[show (((f.1.2.2.1[i]).2.2.2.2.2.2.2.1[b.1.toNat]?).getD c0)=cl (f.1.2.2.1[i]).2.2.2.2.2.2.2.1 b.1 from rfl]
 generalize cl (f.1.2.2.1[i]).2.2.2.2.2.2.2.1 b.1=fr
 unfold inR at hb
 simp only[Bool.and_eq_true,decide_eq_true_eq] at hb
 obtain⟨k,hk⟩: ∃k:Nat,b.1=(k:Int):=⟨b.1.toNat,by omega⟩
 generalize hL: (f.1.2.2.1[i]).2.2.2.2.2.2.2.1=l at*
 have hkl:k<l.length:=by omega
 have w0:IntKind.wrap .i64 (b.1+1)=((k+1+0:Nat):Int):=by rw[hk,Zaj (by omega) (by omega)];omega
 rw[w0,show b.1.toNat=k by omega]
 refine Zb5 (fun r=>r=ZcN (i:Int) b fr l (k+1) (l.length - (k+1)) f) ?_ (fun r hr=>by rw[hr])
 refine Za9 (l.length - (k+1)) _ (fun m (st:ZaE×Int)=>st=(ZcN (i:Int) b fr l (k+1) m f,((k+1+m:Nat):Int))) ?_ ?_ _ rfl
 ·rintro m _ hm rfl
  left
  obtain⟨h1,h2⟩:=Zct (i:Int) b fr l (k+1) m f h
  have hS:=h.step h1
  have hnet:=h1.net
  have hopn:=h1.opn
  show∃s',_=_∧s' =(Zbl (i:Int) b fr l (ZcN (i:Int) b fr l (k+1) m f) (k+1+m),((k+1+m+1:Nat):Int))
  generalize ZcN (i:Int) b fr l (k+1) m f=g at*
  have hrun:i<g.1.2.2.1.length:=by rw[hnet];exact hi
  have hL2: (g.1.2.2.1[i]).2.2.2.2.2.2.2.1=l:=by
   have:g.1.2.2.1[i]=f.1.2.2.1[i]:=by simp only[hnet]
   rw[this,hL]
  have hv:=ZjC hS (run:=i) (i:=k+1+m) b fr hrun (by rw[hL2];omega) (by omega) (by omega)
  rw[hL2] at hv
  refine⟨_, ?_,rfl⟩
  rw[Zay (show k+1+m<l.length by omega)]
  exact hv
 ·rintro _ rfl
  rw[show k+1+(l.length - (k+1))=l.length by omega]
  simp only[ZaC,cond_false]
  exact⟨_,rfl,rfl⟩
end Q
namespace Q
open Tr Go
open Option (bind_some)
abbrev b00:Zch:=(-1, -1,false,())
theorem Zf1 {n:Nat} (hn:n≤4096):F113 (n:Int)=some (List.replicate n b00):=by
 unfold F113
 have hg:Zap (decide ((0:Int)≤(n:Int)∧(n:Int)≤(n:Int)∧(n:Int)≤(Zaq:Int)))=some ():=by
  have hm: (Zaq:Int)=4294967296:=by simp [Zaq]
  rw[decide_eq_true (by rw[hm];omega)];rfl
 erw[hg]
 simp only[bind_some,Int.toNat_natCast,List.length_replicate]
 refine Zb5 (fun r=>r=List.replicate n b00) ?_ (fun r hr=>by rw[hr])
 refine Za9 n _ (fun i (st:List Zch×Int)=>st=(List.replicate i b00++List.replicate (n - i) (0,0,false,()),(i:Int))) ?_ ?_ _ (by simp)
 ·rintro i _ hi rfl
  left
  have hlen: (List.replicate i b00++List.replicate (n - i) ((0,0,false,()):Zch)).length=n:=by simp;omega
  simp only[Zay hi,cond_true,hlen,ZaL hi,bind_some]
  rw[List.getElem?_eq_getElem (by rw[hlen];exact hi)]
  simp only[bind_some]
  refine⟨_,rfl, ?_⟩
  rw[Zan hi (by omega)]
  have e:n - i=(n - (i+1))+1:=by omega
  rw[e,List.replicate_succ,List.set_append_right _ _ (by simp),List.length_replicate,Nat.sub_self,List.set_cons_zero,List.replicate_succ',List.append_assoc]
  rfl
 ·rintro _ rfl
  simp only[ZaC,cond_false,Nat.sub_self,List.replicate_zero,List.append_nil]
  exact⟨_,rfl,rfl⟩
def ZbF (before:List ZbD) (i:Nat) (l:List Zbd) (f:ZaE) (k:Nat):ZaE:=
 bif (cl l (k:Int)).2.2.2.1&& (!decide (((before[(cl l (k:Int)).1.toNat]?).getD (0,0,0,0,0,0,())).2.2.1= -1) && (decide (((before[(cl l (k:Int)).1.toNat]?).getD (0,0,0,0,0,0,())).2.2.1≤(cl l (k:Int)).2.2.1) &&Zb1 ((f.2.2.2.2.1[i]?).getD (0,0,false,())).1 (k:Int))) then
  Zbe f i ((k:Int),((before[(cl l (k:Int)).1.toNat]?).getD (0,0,0,0,0,0,())).2.2.2.2.2.1,false,()) else f
theorem ZiI (before:List ZbD) (i:Nat) (l:List Zbd) (f:ZaE) (k:Nat):Zbo f (ZbF before i l f k) 1∧(ZbF before i l f k).2.1=f.2.1:=by
 unfold ZbF
 generalize ((before[(cl l (k:Int)).1.toNat]?).getD (0,0,0,0,0,0,()))=p
 cases ((cl l (k:Int)).2.2.2.1&& (!decide (p.2.2.1= -1) && (decide (p.2.2.1≤(cl l (k:Int)).2.2.1) &&Zb1 ((f.2.2.2.2.1[i]?).getD (0,0,false,())).1 (k:Int)))) with
 |true=>exact⟨Zb7 ..,ZeU ..⟩
 |false=>exact⟨(Zbo.refl f).weak (by omega),rfl⟩
def Zcy (before:List ZbD) (i:Nat) (l:List Zbd):Nat→ZaE→ZaE
 |0,f=>f
 |m+1,f=>ZbF before i l (Zcy before i l m f) m
theorem ZcE (before:List ZbD) (i:Nat) (l:List Zbd): ∀ (m:Nat) (f:ZaE),Zbo f (Zcy before i l m f) m∧(Zcy before i l m f).2.1=f.2.1
 |0,f=>⟨Zbo.refl f,rfl⟩
 |m+1,f=>by
  obtain⟨h1,h2⟩:=ZcE before i l m f
  obtain⟨h3,h4⟩:=ZiI before i l (Zcy before i l m f) m
  exact⟨h1.trans h3,h4.trans h2⟩
theorem Zt3 {α:Type} {o:Option α} {z:α} (h: ∃r,o=some r∧r=z):o=some z:=by
 obtain⟨r,rfl,rfl⟩:=h;rfl
theorem Zqm {before:List ZbD} {f:ZaE} (h:St f) {i:Nat} (hi:i<f.1.2.2.1.length) (hb:before.length=f.1.1.length) (ho:f.2.2.2.2.2.1.length+100<4000000000):
  run
 (fun s11:ZaE×Int=>
 bif decide (s11.2< (↑(List.length (f.1.2.2.1[i]).2.2.2.2.2.2.2.1):Int)) then
 Option.bind (idx (f.1.2.2.1[i]).2.2.2.2.2.2.2.1 s11.2) fun x12=>
 Option.bind (idx before x12.1) fun x13=>
 Option.bind
 (bif x12.2.2.2.1 then
 bif !decide (x13.2.2.1=(-1:Int)) then
 bif decide (x13.2.2.1≤x12.2.2.1) then
 Option.bind (inb (i:Int) (List.length s11.1.2.2.2.2.1)) fun x14=>
 Option.bind s11.1.2.2.2.2.1[x14]? fun x15=>Option.bind (F101 x15 s11.2) fun x16=>some x16
 else some false
 else some false
 else some false)
 fun x17=>
 bif x17 then
 Option.bind
 (F106
 s11.1
 (i:Int) (s11.2,x13.2.2.2.2.2.1,false,()))
 fun x18=>
 some
 (.inl
 (x18,
 IntKind.wrap .i64 (s11.2+(1:Int))))
 else
 some
 (.inl
 (s11.1,
 IntKind.wrap .i64 (s11.2+(1:Int))))
 else
 some
 (.inr
 s11.1))
 (f,(0:Int))=some (Zcy before i (f.1.2.2.1[i]).2.2.2.2.2.2.2.1 (f.1.2.2.1[i]).2.2.2.2.2.2.2.1.length f):=by
 have hmem:=List.getElem_mem hi
 have hmany:=(h.sound.many _ hmem).2
 have hcall:=h.sound.call _ hmem
 generalize hL: (f.1.2.2.1[i]).2.2.2.2.2.2.2.1=l at*
 refine Zt3 (Za9 l.length _ (fun k (st:ZaE×Int)=>st=(Zcy before i l k f,(k:Int))) ?_ ?_ _ rfl)
 ·rintro k _ hk rfl
  left
  obtain⟨h1,h2⟩:=ZcE before i l k f
  have hS:=h.step h1
  have hopn:=h1.opn
  have hnet:=h1.net
  show∃s',_=_∧s' =(ZbF before i l (Zcy before i l k f) k,((k+1:Nat):Int))
  generalize Zcy before i l k f=g at*
  have hc:=hcall _ (List.getElem_mem hk)
  have ec:cl l (k:Int)=l[k]:=by unfold cl;rw[Int.toNat_natCast,Zah hk]
  unfold ZbF
  rw[ec]
  have hin:inR (l[k]).1 before.length=true:=by
   unfold inR
   rw[Bool.and_eq_true,decide_eq_true_eq,decide_eq_true_eq,hb]
   exact hc
  simp only[Zay hk,cond_true,Zag hk,bind_some,Zan hk (show _≤9223372036854775807 by omega)]
  rw[Za1 hin (0,0,0,0,0,0,())]
  simp only[bind_some]
  generalize (before[(l[k]).1.toNat]?).getD (0,0,0,0,0,0,())=p
  have hig:i<g.2.2.2.2.1.length:=by rw[hS.runs,hnet];exact hi
  have hir:i<g.1.2.2.1.length:=by rw[hnet];exact hi
  simp only[ZaL hig,bind_some,List.getElem?_eq_getElem hig,ZfF,Option.getD_some]
  rw[Zh9 g hir hS.runs (by omega)]
  cases (l[k]).2.2.2.1 with
  |false=>exact⟨_,rfl,rfl⟩
  |true=>
   simp only[cond_true,Bool.true_and]
   cases decide (p.2.2.1= -1) with
   |true=>exact⟨_,rfl,rfl⟩
   |false=>
    simp only[Bool.not_false,cond_true,Bool.true_and]
    cases decide (p.2.2.1≤(l[k]).2.2.1) with
    |false=>exact⟨_,rfl,rfl⟩
    |true=>
     simp only[cond_true,bind_some,Bool.true_and]
     cases Zb1 (g.2.2.2.2.1[i]).1 (k:Int)<;>exact⟨_,rfl,rfl⟩
 ·rintro _ rfl
  simp only[ZaC,cond_false]
  exact⟨_,rfl,rfl⟩
def Zdu (before:List ZbD) (boarded:List Zch) (f:ZaE) (i:Nat):ZaE:=
 Zcy before i (rn f.1 (i:Int)).2.2.2.2.2.2.2.1 (rn f.1 (i:Int)).2.2.2.2.2.2.2.1.length (bif !decide (((boarded[i]?).getD (0,0,false,())).1= -1) then Zbe f i ((boarded[i]?).getD (0,0,false,())) else f)
theorem ZkE {before:List ZbD} {boarded:List Zch} {f:ZaE} (h:St f) {i:Nat} (hi:i<f.1.2.2.1.length):Zbo f (Zdu before boarded f i) 33∧(Zdu before boarded f i).2.1=f.2.1:=by
 unfold Zdu
 have hr:rn f.1 (i:Int)=f.1.2.2.1[i]:=by unfold rn;rw[Int.toNat_natCast,Zah hi]
 rw[hr]
 have hm:=(h.sound.many _ (List.getElem_mem hi)).2
 have h0:Zbo f (bif !decide (((boarded[i]?).getD (0,0,false,())).1= -1) then Zbe f i ((boarded[i]?).getD (0,0,false,())) else f) 1∧(bif !decide (((boarded[i]?).getD (0,0,false,())).1= -1) then Zbe f i ((boarded[i]?).getD (0,0,false,())) else f).2.1=f.2.1:=by
  cases !decide (((boarded[i]?).getD (0,0,false,())).1= -1) with
  |true=>exact⟨Zb7 ..,ZeU ..⟩
  |false=>exact⟨(Zbo.refl f).weak (by omega),rfl⟩
 obtain⟨h1,h2⟩:=ZcE before i (f.1.2.2.1[i]).2.2.2.2.2.2.2.1 (f.1.2.2.1[i]).2.2.2.2.2.2.2.1.length (bif !decide (((boarded[i]?).getD (0,0,false,())).1= -1) then Zbe f i ((boarded[i]?).getD (0,0,false,())) else f)
 exact⟨(h0.1.trans h1).weak (by omega),h2.trans h0.2⟩
def ZcB (before:List ZbD) (boarded:List Zch):Nat→ZaE→ZaE
 |0,f=>f
 |m+1,f=>Zdu before boarded (ZcB before boarded m f) m
theorem Zcv {before:List ZbD} {boarded:List Zch} : ∀ (m:Nat) {f:ZaE},St f→m≤f.1.2.2.1.length→Zbo f (ZcB before boarded m f) (33*m)∧(ZcB before boarded m f).2.1=f.2.1
 |0,f,_,_=>⟨(Zbo.refl f).weak (by omega),rfl⟩
 |m+1,f,h,hm=>by
  obtain⟨h1,h2⟩:=Zcv (before:=before) (boarded:=boarded) m h (by omega)
  obtain⟨h3,h4⟩:=ZkE (before:=before) (boarded:=boarded) (h.step h1) (i:=m) (by rw[h1.net];omega)
  exact⟨(h1.trans h3).weak (by omega),h4.trans h2⟩
def Zt8 (b:Zch):Nat:=if b.1= -1 then 40 else b.1.toNat
def Zl5 (l:List Zch):Nat:=(l.map Zt8).sum
theorem Zqg {l:List Zch} {i:Nat} (hi:i<l.length) (b:Zch):Zl5 (l.set i b)+Zt8 l[i]=Zl5 l+Zt8 b:=by
 unfold Zl5
 induction l generalizing i with
 |nil=>simp at hi
 |cons x l ih=>
  cases i with
  |zero=>simp;omega
  |succ i=>
   have:=ih (i:=i) (by simpa using hi)
   simp only[List.set_cons_succ,List.map_cons,List.sum_cons,List.getElem_cons_succ]
   omega
structure Brd (f:ZaE):Prop where
 call: ∀b∈f.2.2.2.2.1,b.1= -1∨0≤b.1∧b.1<32
 opn: ∀r∈f.2.2.2.2.2.1, ∃i:Nat,r=(i:Int)∧ ∃hi:i<f.1.2.2.1.length,inR ((f.2.2.2.2.1[i]?).getD (0,0,false,())).1 (f.1.2.2.1[i]).2.2.2.2.2.2.2.1.length=true
def Zfi (f:ZaE):Nat:=2*Zl5 f.2.2.2.2.1+f.2.2.2.2.2.1.length
theorem Zdw {a b:Int} :Zb1 a b=true↔a= -1∨b<a:=by
 unfold Zb1
 rw[Bool.or_eq_true,decide_eq_true_eq,decide_eq_true_eq]
theorem Zfy {f:ZaE} (h:St f) (hb:Brd f) {i:Nat} (hi:i<f.1.2.2.1.length) {b:Zch} (hc:inR b.1 (f.1.2.2.1[i]).2.2.2.2.2.2.2.1.length=true):Brd (Zbe f i b)∧Zfi (Zbe f i b)≤Zfi f:=by
 have hc' :=hc
 unfold inR at hc'
 simp only[Bool.and_eq_true,decide_eq_true_eq] at hc'
 have hm:=(h.sound.many _ (List.getElem_mem hi)).2
 have hi' :i<f.2.2.2.2.1.length:=by rw[h.runs];exact hi
 unfold Zbe
 rw[Zah hi']
 cases hg: (!(rn f.1 (i:Int)).2.2.2.2.2.2.1&&Zb1 (f.2.2.2.2.1[i]).1 b.1) with
 |false=>exact⟨hb,Nat.le_refl _⟩
 |true=>
  simp only[cond_true]
  rw[Bool.and_eq_true] at hg
  have hl:=Zdw.1 hg.2
  have hold:=hb.call _ (List.getElem_mem hi')
  refine⟨⟨fun x hx=> ?_,fun r hr=> ?_⟩, ?_⟩
  ·rcases List.mem_or_eq_of_mem_set hx with hx|rfl
   ·exact hb.call x hx
   ·exact .inr ⟨hc'.1,by omega⟩
  ·have key: ∀j:Nat, ∀hj:j<f.1.2.2.1.length,(j=i∨inR ((f.2.2.2.2.1[j]?).getD (0,0,false,())).1 (f.1.2.2.1[j]).2.2.2.2.2.2.2.1.length=true)→inR (((f.2.2.2.2.1.set i b)[j]?).getD (0,0,false,())).1 (f.1.2.2.1[j]).2.2.2.2.2.2.2.1.length=true:=by
    intro j hj hjj
    by_cases e:i=j
    ·subst e
     rw[List.getElem?_set_self hi'];exact hc
    ·rw[List.getElem?_set_ne e]
     exact hjj.resolve_left fun e' =>e e'.symm
   rcases List.mem_append.1 hr with hr|hr
   ·obtain⟨j,rfl,hj,hjb⟩:=hb.opn r hr
    exact⟨j,rfl,hj,key j hj (.inr hjb)⟩
   ·simp only[List.mem_singleton] at hr
    exact⟨i,hr,hi,key i hi (.inl rfl)⟩
  ·have hs:=Zqg hi' b
   unfold Zfi
   simp only[List.length_append,List.length_cons,List.length_nil]
   have h1:Zt8 b<Zt8 f.2.2.2.2.1[i]:=by
    unfold Zt8
    rw[if_neg (by omega)]
    split
    ·omega
    ·omega
   omega
theorem Brd.same {f g:ZaE} (h:Brd f) (h1:g.1=f.1) (h2:g.2.2.2.2.1=f.2.2.2.2.1) (h3:g.2.2.2.2.2.1=f.2.2.2.2.2.1):Brd g∧Zfi g≤Zfi f:=by
 refine⟨⟨by rw[h2];exact h.call, ?_⟩,by unfold Zfi;rw[h2,h3];exact Nat.le_refl _⟩
 rw[h3,h2,h1];exact h.opn
theorem ZhE {f:ZaE} (h:St f) (hb:Brd f) (call arr l:Int) (al:Bool) {k:Int} (hk:Zll f.1 (lkI f.1 k)):Brd (ZaH call arr l al f k)∧Zfi (ZaH call arr l al f k)≤Zfi f:=by
 unfold ZaH
 cases (!decide ((lkI f.1 k).2.1=call) ||decide ((cl (rn f.1 (lkI f.1 k).2.2.1).2.2.2.2.2.2.2.1 (lkI f.1 k).2.2.2.1).2.2.1<arr)) with
 |true=>exact⟨hb,Nat.le_refl _⟩
 |false=>
  simp only[cond_false]
  cases (lkI f.1 k).2.2.2.2.1 with
  |true=>
   simp only[cond_true]
   have ht:=hk.to
   unfold inR at ht
   simp only[Bool.and_eq_true,decide_eq_true_eq] at ht
   have hj: (lkI f.1 k).2.2.1.toNat<f.1.2.2.1.length:=by omega
   have hc:=hk.call
   unfold rn at hc
   rw[Zah hj] at hc
   exact Zfy h hb hj hc
  |false=>
   simp only[cond_false]
   cases (al&& ((cl (rn f.1 (lkI f.1 k).2.2.1).2.2.2.2.2.2.2.1 (lkI f.1 k).2.2.2.1).2.2.2.1&&Zb1 ((f.2.2.2.1[(lkI f.1 k).2.2.1.toNat]?).getD (0,0,false,())).1 (lkI f.1 k).2.2.2.1)) with
   |true=>exact hb.same rfl rfl rfl
   |false=>exact⟨hb,Nat.le_refl _⟩
theorem ZeC (call arr l:Int) (al:Bool): ∀ (ks:List Int) {f:ZaE},St f→Brd f→(∀k∈ks,Zll f.1 (lkI f.1 k))→Brd (ks.foldl (ZaH call arr l al) f)∧Zfi (ks.foldl (ZaH call arr l al) f)≤Zfi f
 | [],f,_,hb,_=>⟨hb,Nat.le_refl _⟩
 |k::ks,f,h,hb,hk=>by
  obtain⟨h1,_⟩:=ZcH call arr l al f k
  obtain⟨h2,h3⟩:=ZhE h hb call arr l al (hk k (by simp))
  obtain⟨h4,h5⟩:=ZeC call arr l al ks (h.step h1) h2 (fun k' hk' =>by rw[h1.net];exact hk k' (by simp [hk']))
  exact⟨h4,Nat.le_trans h5 h3⟩
theorem ZkP {f:ZaE} (h:St f) (hb:Brd f) (run call l:Int) (al:Bool):Brd (Zbu f run call l al)∧Zfi (Zbu f run call l al)≤Zfi f:=by
 unfold Zbu
 by_cases hr:run.toNat<f.2.2.2.2.2.2.1.length
 ·rw[Zah hr]
  exact ZeC _ _ _ _ _ h hb fun k hk=>((h.out _ (List.getElem_mem hr)).2 k hk).2
 ·rw[List.getElem?_eq_none (by omega)]
  exact⟨hb,Nat.le_refl _⟩
theorem ZiF {f:ZaE} (h:St f) (hb:Brd f) (run:Int) (b:Zch) (fr:Zbd) (l:List Zbd) (i:Nat):Brd (Zbl run b fr l f i)∧Zfi (Zbl run b fr l f i)≤Zfi f:=by
 unfold Zbl
 cases (!(cl l (i:Int)).2.2.2.2.1&&decide ((ZgF f run).length=0)) with
 |true=>exact⟨hb,Nat.le_refl _⟩
 |false=>
  simp only[cond_false]
  generalize (true,run,b.1,(i:Int),fr.1,(cl l (i:Int)).1,fr.2.2.1,(cl l (i:Int)).2.1,b.2.2.1,())=x
  obtain⟨a1,a2⟩:=hb.same (g:=ZfL f x b.2.1) rfl rfl rfl
  obtain⟨b1,b2⟩:=ZkP (h.step (Zd0 f x b.2.1)) a1 run (i:Int) (f.2.1.length:Int) (cl l (i:Int)).2.2.2.2.1
  generalize Zbu (ZfL f x b.2.1) run (i:Int) (f.2.1.length:Int) (cl l (i:Int)).2.2.2.2.1=g at*
  cases ((cl l (i:Int)).2.2.2.2.1&&Zb1 (Zlo g (cl l (i:Int)).1).2.1 (cl l (i:Int)).2.1) with
  |true=>
   simp only[cond_true]
   obtain⟨c1,c2⟩:=b1.same (g:=Zk3 g (cl l (i:Int)).1.toNat (cl l (i:Int)).2.1 (f.2.1.length:Int)) rfl rfl rfl
   exact⟨c1,Nat.le_trans c2 (Nat.le_trans b2 a2)⟩
  |false=>exact⟨b1,Nat.le_trans b2 a2⟩
theorem ZhU (run:Int) (b:Zch) (fr:Zbd) (l:List Zbd) (k:Nat): ∀ (m:Nat) {f:ZaE},St f→Brd f→Brd (ZcN run b fr l k m f)∧Zfi (ZcN run b fr l k m f)≤Zfi f
 |0,f,_,hb=>⟨hb,Nat.le_refl _⟩
 |m+1,f,h,hb=>by
  obtain⟨h1,h2⟩:=ZhU run b fr l k m h hb
  obtain⟨h3,_⟩:=Zct run b fr l k m f h
  obtain⟨h4,h5⟩:=ZiF (h.step h3) h1 run b fr l (k+m)
  exact⟨h4,Nat.le_trans h5 h2⟩
def Zd8 (f:ZaE):ZaE:=(f.1,f.2.1,f.2.2.1,f.2.2.2.1,f.2.2.2.2.1,f.2.2.2.2.2.1.take (f.2.2.2.2.2.1.length - 1),f.2.2.2.2.2.2)
noncomputable def ZfU (s21:ZaE):Option (ZaE ⊕ ZaE):=
 bif decide ((0:Int)< (↑(List.length s21.2.2.2.2.2.1):Int)) then
 Option.bind (inb (IntKind.wrap .i64 ((↑(List.length s21.2.2.2.2.2.1):Int) - (1:Int))) (List.length s21.2.2.2.2.2.1)) fun x22=>
 Option.bind s21.2.2.2.2.2.1[x22]? fun x23=>
 Option.bind
 (sliceB (List.length s21.2.2.2.2.2.1) (List.length s21.2.2.2.2.2.1) none
 (some (IntKind.wrap .i64 ((↑(List.length s21.2.2.2.2.2.1):Int) - (1:Int)))))
 fun x24=>
 Option.bind
 (F111
 (s21.1,s21.2.1,s21.2.2.1,s21.2.2.2.1,s21.2.2.2.2.1,List.take x24.2 s21.2.2.2.2.2.1,s21.2.2.2.2.2.2.1,())
 x23)
 fun x25=>
 some (.inl x25)
 else some (.inr s21)
theorem ZlV {f:ZaE} (h:St f) (hb:Brd f):St (Zd8 f)∧Brd (Zd8 f):=
 ⟨⟨h.sound,h.now,h.linked,h.runs,h.outl,h.out⟩,⟨hb.call,fun r hr=>hb.opn r (List.mem_of_mem_take hr)⟩⟩
theorem ZkJ {f:ZaE} (h:St f) (hb:Brd f) (h0:0<f.2.2.2.2.2.1.length) (hl:f.2.1.length+100<4000000000) (ho:f.2.2.2.2.2.1.length+100000<4000000000):
  ∃i:Nat,i<f.1.2.2.1.length∧inR ((f.2.2.2.2.1[i]?).getD (0,0,false,())).1 (f.1.2.2.1[i]!).2.2.2.2.2.2.2.1.length=true∧ZfU f=some (.inl (ZcO (Zd8 f) i))∧f.2.2.2.2.2.1=(Zd8 f).2.2.2.2.2.1++[(i:Int)]:=by
 have hlast:f.2.2.2.2.2.1.length - 1<f.2.2.2.2.2.1.length:=by omega
 obtain⟨i,hi,hil,hib⟩:=hb.opn _ (List.getElem_mem hlast)
 have hpop:f.2.2.2.2.2.1=(Zd8 f).2.2.2.2.2.1++[(i:Int)]:=by
  show _=f.2.2.2.2.2.1.take (f.2.2.2.2.2.1.length - 1)++[(i:Int)]
  rw[←hi, ←List.take_succ_eq_append_getElem hlast,show f.2.2.2.2.2.1.length - 1+1=f.2.2.2.2.2.1.length by omega,List.take_length]
 refine⟨i,hil,by rw[getElem!_pos f.1.2.2.1 i hil];exact hib, ?_,hpop⟩
 unfold ZfU
 have w1:IntKind.wrap .i64 ((f.2.2.2.2.2.1.length:Int) - 1)=((f.2.2.2.2.2.1.length - 1:Nat):Int):=by rw[Zaj (by omega) (by omega)];omega
 rw[decide_eq_true (show (0:Int)< (f.2.2.2.2.2.1.length:Int) by omega),w1]
 simp only[cond_true,ZaL hlast,bind_some,List.getElem?_eq_getElem hlast,hi]
 have e2:sliceB f.2.2.2.2.2.1.length f.2.2.2.2.2.1.length none (some ((f.2.2.2.2.2.1.length - 1:Nat):Int))=some (0,f.2.2.2.2.2.1.length - 1):=by
  unfold sliceB
  simp only[if_pos (show (0:Int)≤((f.2.2.2.2.2.1.length - 1:Nat):Int)∧((f.2.2.2.2.2.1.length - 1:Nat):Int)≤(f.2.2.2.2.2.1.length:Int) from ⟨by omega,by omega⟩),bind_some,Int.toNat_natCast]
 rw[e2]
 simp only[bind_some]
 have hp:=ZlV h hb
 have hv:=ZpB hp.1 (i:=i) hil hib hl (by show (f.2.2.2.2.2.1.take (f.2.2.2.2.2.1.length - 1)).length+100000<_;rw[List.length_take];omega)
 show (Option.bind (F111 (Zd8 f) (i:Int)) fun x25=>some (Sum.inl x25))=_
 rw[hv]
 rfl
theorem ZlN (P:ZaE→Prop) (hP: ∀ (f:ZaE) (i:Nat),St f→Brd f→(hi:i<f.1.2.2.1.length)→f.2.2.2.2.2.1=(Zd8 f).2.2.2.2.2.1++[(i:Int)]→inR ((f.2.2.2.2.1[i]?).getD (0,0,false,())).1 (f.1.2.2.1[i]).2.2.2.2.2.2.2.1.length=true→P f→P (ZcO (Zd8 f) i)): ∀ (k:Nat) {f:ZaE},Zfi f≤k→St f→Brd f→P f→f.2.1.length+32*k+100<4000000000→k<1000000→
  ∃g,run ZfU f=some g∧St g∧Brd g∧P g∧g.2.2.2.2.2.1=[]∧g.1=f.1∧g.2.1.length≤f.2.1.length+32*k∧g.2.2.2.2.2.2=f.2.2.2.2.2.2
 |0,f,hk,h,hb,hp,hl,_=>by
  have h0:f.2.2.2.2.2.1.length=0:=by unfold Zfi at hk;omega
  refine⟨f,ZbW ?_,h,hb,hp,List.length_eq_zero_iff.1 h0,rfl,by omega,rfl⟩
  unfold ZfU
  rw[h0]
  rfl
 |k+1,f,hk,h,hb,hp,hl,hkb=>by
  by_cases h0:f.2.2.2.2.2.1.length=0
  ·refine⟨f,ZbW ?_,h,hb,hp,List.length_eq_zero_iff.1 h0,rfl,by omega,rfl⟩
   unfold ZfU
   rw[h0]
   rfl
  ·obtain⟨i,hi,hin,hv,hpop⟩:=ZkJ h hb (by omega) (by omega) (by unfold Zfi at hk;omega)
   obtain⟨p1,p2⟩:=ZlV h hb
   have hpf:Zfi (Zd8 f)+1=Zfi f:=by
    unfold Zfi
    show 2*Zl5 f.2.2.2.2.1+(f.2.2.2.2.2.1.take (f.2.2.2.2.2.1.length - 1)).length+1=_
    rw[List.length_take];omega
   have hh:=Zct (i:Int) (((Zd8 f).2.2.2.2.1[i]?).getD (0,0,false,())) (cl (rn (Zd8 f).1 (i:Int)).2.2.2.2.2.2.2.1 (((Zd8 f).2.2.2.2.1[i]?).getD (0,0,false,())).1) (rn (Zd8 f).1 (i:Int)).2.2.2.2.2.2.2.1 ((((Zd8 f).2.2.2.2.1[i]?).getD (0,0,false,())).1.toNat+1) ((rn (Zd8 f).1 (i:Int)).2.2.2.2.2.2.2.1.length - ((((Zd8 f).2.2.2.2.1[i]?).getD (0,0,false,())).1.toNat+1)) (Zd8 f) p1
   have hf:=ZhU (i:Int) (((Zd8 f).2.2.2.2.1[i]?).getD (0,0,false,())) (cl (rn (Zd8 f).1 (i:Int)).2.2.2.2.2.2.2.1 (((Zd8 f).2.2.2.2.1[i]?).getD (0,0,false,())).1) (rn (Zd8 f).1 (i:Int)).2.2.2.2.2.2.2.1 ((((Zd8 f).2.2.2.2.1[i]?).getD (0,0,false,())).1.toNat+1) ((rn (Zd8 f).1 (i:Int)).2.2.2.2.2.2.2.1.length - ((((Zd8 f).2.2.2.2.1[i]?).getD (0,0,false,())).1.toNat+1)) p1 p2
   have hcl: (rn (Zd8 f).1 (i:Int)).2.2.2.2.2.2.2.1.length≤32:=by
    have hr:rn (Zd8 f).1 (i:Int)=f.1.2.2.1[i]:=by unfold rn;rw[Int.toNat_natCast];exact Zah hi _
    rw[hr]
    exact(h.sound.many _ (List.getElem_mem hi)).2
   change Zbo (Zd8 f) (ZcO (Zd8 f) i) _∧(ZcO (Zd8 f) i).2.1.length≤_ at hh
   change Brd (ZcO (Zd8 f) i)∧Zfi (ZcO (Zd8 f) i)≤_ at hf
   have hlab: (ZcO (Zd8 f) i).2.1.length≤f.2.1.length+32:=by
    have h5:=hh.2
    have h6: (Zd8 f).2.1.length=f.2.1.length:=rfl
    omega
   obtain⟨g,g1,g2,g3,g4,g5,g6,g7,g8⟩:=ZlN P hP k (f:=ZcO (Zd8 f) i) (by have:=hf.2;omega) (p1.step hh.1) hf.1 (hP f i h hb hi hpop (by rw[getElem!_pos f.1.2.2.1 i hi] at hin;exact hin) hp) (by omega) (by omega)
   refine⟨g,(Zc9 hv).trans g1,g2,g3,g4,g5,g6.trans hh.1.net,by omega,g8.trans hh.1.out⟩
theorem ZjM {before:List ZbD} {f:ZaE} (h:St f) (hb:Brd f) {i:Nat} (hi:i<f.1.2.2.1.length) {k:Nat} (hk:k< (f.1.2.2.1[i]).2.2.2.2.2.2.2.1.length) (l:List Zbd):Brd (ZbF before i l f k)∧Zfi (ZbF before i l f k)≤Zfi f:=by
 unfold ZbF
 generalize ((before[(cl l (k:Int)).1.toNat]?).getD (0,0,0,0,0,0,()))=p
 cases ((cl l (k:Int)).2.2.2.1&& (!decide (p.2.2.1= -1) && (decide (p.2.2.1≤(cl l (k:Int)).2.2.1) &&Zb1 ((f.2.2.2.2.1[i]?).getD (0,0,false,())).1 (k:Int)))) with
 |false=>exact⟨hb,Nat.le_refl _⟩
 |true=>
  simp only[cond_true]
  refine Zfy h hb hi ?_
  unfold inR
  rw[Bool.and_eq_true,decide_eq_true_eq,decide_eq_true_eq]
  exact⟨Int.natCast_nonneg _,by simpa using hk⟩
theorem ZfD {before:List ZbD} {i:Nat} (l:List Zbd): ∀ (m:Nat) {f:ZaE},St f→Brd f→(hi:i<f.1.2.2.1.length)→m≤(f.1.2.2.1[i]).2.2.2.2.2.2.2.1.length→Brd (Zcy before i l m f)∧Zfi (Zcy before i l m f)≤Zfi f
 |0,_,_,hb,_,_=>⟨hb,Nat.le_refl _⟩
 |m+1,f,h,hb,hi,hm=>by
  obtain⟨h1,h2⟩:=ZfD (before:=before) l m h hb hi (by omega)
  obtain⟨h3,_⟩:=ZcE before i l m f
  have hi' :i< (Zcy before i l m f).1.2.2.1.length:=by rw[h3.net];exact hi
  have e: (Zcy before i l m f).1.2.2.1[i]=f.1.2.2.1[i]:=by simp only[h3.net]
  obtain⟨h4,h5⟩:=ZjM (before:=before) (h.step h3) h1 hi' (k:=m) (by rw[e];omega) l
  exact⟨h4,Nat.le_trans h5 h2⟩
theorem ZmQ {before:List ZbD} {boarded:List Zch} {f:ZaE} (h:St f) (hb:Brd f) {i:Nat} (hi:i<f.1.2.2.1.length) (hbd: ((boarded[i]?).getD (0,0,false,())).1= -1∨inR ((boarded[i]?).getD (0,0,false,())).1 (f.1.2.2.1[i]).2.2.2.2.2.2.2.1.length=true):Brd (Zdu before boarded f i)∧Zfi (Zdu before boarded f i)≤Zfi f:=by
 unfold Zdu
 have hr:rn f.1 (i:Int)=f.1.2.2.1[i]:=by unfold rn;rw[Int.toNat_natCast,Zah hi]
 rw[hr]
 by_cases hz: ((boarded[i]?).getD (0,0,false,())).1= -1
 ·rw[decide_eq_true hz]
  exact ZfD _ _ h hb hi (Nat.le_refl _)
 ·rw[decide_eq_false hz]
  simp only[Bool.not_false,cond_true]
  obtain⟨h1,h2⟩:=Zfy h hb hi (hbd.resolve_left hz)
  have hh:=Zb7 f i ((boarded[i]?).getD (0,0,false,()))
  have hi' :i< (Zbe f i ((boarded[i]?).getD (0,0,false,()))).1.2.2.1.length:=by rw[hh.net];exact hi
  have e: (Zbe f i ((boarded[i]?).getD (0,0,false,()))).1.2.2.1[i]=f.1.2.2.1[i]:=by simp only[hh.net]
  obtain⟨h3,h4⟩:=ZfD (before:=before) (f.1.2.2.1[i]).2.2.2.2.2.2.2.1 (f.1.2.2.1[i]).2.2.2.2.2.2.2.1.length (h.step hh) h1 hi' (by rw[e];exact Nat.le_refl _)
  exact⟨h3,Nat.le_trans h4 h2⟩
theorem Zin {before:List ZbD} {boarded:List Zch} : ∀ (m:Nat) {f:ZaE},St f→Brd f→m≤f.1.2.2.1.length→(∀i,(hi:i<f.1.2.2.1.length)→((boarded[i]?).getD (0,0,false,())).1= -1∨inR ((boarded[i]?).getD (0,0,false,())).1 (f.1.2.2.1[i]).2.2.2.2.2.2.2.1.length=true)→
  Brd (ZcB before boarded m f)∧Zfi (ZcB before boarded m f)≤Zfi f
 |0,_,_,hb,_,_=>⟨hb,Nat.le_refl _⟩
 |m+1,f,h,hb,hm,hbd=>by
  obtain⟨h1,h2⟩:=Zin (before:=before) m h hb (by omega) hbd
  obtain⟨h3,_⟩:=Zcv (before:=before) (boarded:=boarded) m h (by omega)
  have hi' :m< (ZcB before boarded m f).1.2.2.1.length:=by rw[h3.net];omega
  have e: (ZcB before boarded m f).1.2.2.1[m]=f.1.2.2.1[m]'(by omega):=by simp only[h3.net]
  obtain⟨h4,h5⟩:=ZmQ (before:=before) (boarded:=boarded) (h.step h3) h1 hi' (by rw[e];exact hbd m (by omega))
  exact⟨h4,Nat.le_trans h5 h2⟩
def p00:ZbD:=(0,0,0,0,0,0,())
def ZbE (before:List ZbD) (f:ZaE) (s:Nat):ZaE:=
 bif !decide (((f.2.2.1[s]?).getD p00).2.1= -1) &&Zb1 ((before[s]?).getD p00).2.1 ((f.2.2.1[s]?).getD p00).2.1 then
  Zgy (ZfR f s ((f.2.2.1[s]?).getD p00).2.1 (((f.2.2.1[s]?).getD p00).2.1+(Zci f.1 (s:Int)).2.2.2.1) ((f.2.2.1[s]?).getD p00).2.2.2.2.1) (s:Int) ((f.2.2.1[s]?).getD p00).2.1 ((f.2.2.1[s]?).getD p00).2.2.2.2.1
 else f
theorem Zfo (s at' prev:Int) (f:ZaE) (p:Zca):Zbo f (ZaZ s at' prev f p) 0:=by
 unfold ZaZ
 split
 ·exact⟨rfl,by simp [ZfR,ZfL],rfl,rfl,by show f.2.2.2.2.2.1.length≤_;omega,rfl⟩
 ·exact Zbo.refl f
theorem Zfs (s at' prev:Int): ∀ (l:List Zca) (f:ZaE),Zbo f (l.foldl (ZaZ s at' prev) f) 0
 | [],f=>Zbo.refl f
 |p::l,f=>(Zfo s at' prev f p).trans (Zfs s at' prev l _)
theorem ZhQ (f:ZaE) (s at' prev:Int):Zbo f (Zgy f s at' prev) 0:=Zfs ..
theorem Ze1 (f:ZaE) (i:Nat) (a r l:Int):Zbo f (ZfR f i a r l) 0:=⟨rfl,by simp [ZfR],rfl,rfl,by show f.2.2.2.2.2.1.length≤_;omega,rfl⟩
theorem ZiC (before:List ZbD) (f:ZaE) (s:Nat):Zbo f (ZbE before f s) 0∧(ZbE before f s).2.1.length≤f.2.1.length+f.1.2.2.2.2.1.length:=by
 unfold ZbE
 cases (!decide (((f.2.2.1[s]?).getD p00).2.1= -1) &&Zb1 ((before[s]?).getD p00).2.1 ((f.2.2.1[s]?).getD p00).2.1) with
 |false=>exact⟨Zbo.refl f,Nat.le_add_right _ _⟩
 |true=>
  simp only[cond_true]
  exact⟨(Ze1 ..).trans (ZhQ ..),(ZbZ _ _ _ f.1.2.2.2.2.1 (ZfR f s ((f.2.2.1[s]?).getD p00).2.1 (((f.2.2.1[s]?).getD p00).2.1+(Zci f.1 (s:Int)).2.2.2.1) ((f.2.2.1[s]?).getD p00).2.2.2.2.1)).lab⟩
def ZeI (before:List ZbD):Nat→ZaE→ZaE
 |0,f=>f
 |m+1,f=>ZbE before (ZeI before m f) m
theorem Zek (before:List ZbD): ∀ (m:Nat) (f:ZaE),Zbo f (ZeI before m f) 0∧(ZeI before m f).2.1.length≤f.2.1.length+m*f.1.2.2.2.2.1.length
 |0,f=>⟨Zbo.refl f,by show f.2.1.length≤_;omega⟩
 |m+1,f=>by
  obtain⟨h1,h2⟩:=Zek before m f
  obtain⟨h3,h4⟩:=ZiC before (ZeI before m f) m
  refine⟨h1.trans h3, ?_⟩
  show (ZbE before (ZeI before m f) m).2.1.length≤_
  rw[h1.net] at h4
  have e: (m+1) *f.1.2.2.2.2.1.length=m*f.1.2.2.2.2.1.length+f.1.2.2.2.2.1.length:=by rw[Nat.succ_mul]
  omega
theorem ZlP {before:List ZbD} {f:ZaE} (h:St f) {s:Nat} (hs:s<f.2.2.1.length) (hb:before.length=f.2.2.1.length) (hr: (f.2.2.1[s]).2.1= -1∨0≤(f.2.2.1[s]).2.1∧(f.2.2.1[s]).2.1≤3155932800) (hch:0≤(Zci f.1 (s:Int)).2.2.2.1∧(Zci f.1 (s:Int)).2.2.2.1≤3600)
  (hl:f.2.1.length+f.1.2.2.2.2.1.length<4000000000) (hp:f.1.2.2.2.2.1.length≤4096) (hto: ∀p∈f.1.2.2.2.2.1,0≤p.2.1∧p.2.1< (f.1.1.length:Int)∧0≤p.2.2.1∧p.2.2.1≤14400):
  (Option.bind (inb (s:Int) (List.length f.2.2.1)) fun x28=>
 Option.bind f.2.2.1[x28]? fun x29=>
 Option.bind
 (bif !decide (x29.2.1=(-1:Int)) then
 Option.bind (idx before (s:Int)) fun x30=>
 bif decide (x30.2.1=(-1:Int)) then some true
 else Option.bind (idx before (s:Int)) fun x31=>some (decide (x29.2.1<x31.2.1))
 else some false)
 fun x32=>
 bif x32 then
 Option.bind (idx f.1.1 (s:Int)) fun x33=>
 Option.bind
 (F108
 f
 (s:Int) x29.2.1 (IntKind.wrap .i64 (x29.2.1+x33.2.2.2.1)) x29.2.2.2.2.1)
 fun x34=>
 Option.bind
 (F112
 x34 (s:Int)
 x29.2.1 x29.2.2.2.2.1)
 fun x35=>
 some
 (Sum.inl
 (x35,
 IntKind.wrap .i64 ((s:Int)+(1:Int))))
 else
 some
 (.inl
 (f,
 IntKind.wrap .i64 ((s:Int)+(1:Int)))))=(some (.inl (ZbE before f s,((s+1:Nat):Int))):Option ((ZaE×Int) ⊕ ZaE)):=by
 have hst:=h.sound.stops
 have hsn:s<f.1.1.length:=by rw[←h.now];exact hs
 have w1:IntKind.wrap .i64 ((s:Int)+1)=((s+1:Nat):Int):=by rw[Zaj (by omega) (by omega)];omega
 have hsb:s<before.length:=by omega
 have es:f.1.1[s]=Zci f.1 (s:Int):=by unfold Zci;rw[Int.toNat_natCast,Zah hsn]
 unfold ZbE
 rw[w1]
 simp only[ZaL hs,bind_some,List.getElem?_eq_getElem hs,Zag hsb,Zag hsn,List.getElem?_eq_getElem hsb,Option.getD_some,es]
 rw[ZdY]
 by_cases hz: (f.2.2.1[s]).2.1= -1
 ·rw[decide_eq_true hz];rfl
 ·rw[decide_eq_false hz]
  have hr2:=hr.resolve_left hz
  simp only[Bool.not_false,cond_true,bind_some,Bool.true_and]
  cases Zb1 (before[s]).2.1 (f.2.2.1[s]).2.1 with
  |false=>rfl
  |true=>
   simp only[cond_true]
   have w2:IntKind.wrap .i64 ((f.2.2.1[s]).2.1+(Zci f.1 (s:Int)).2.2.2.1)=(f.2.2.1[s]).2.1+(Zci f.1 (s:Int)).2.2.2.1:=Zaj (by omega) (by omega)
   rw[w2,ZfP f hs]
   simp only[bind_some]
   have hn:=(Ze1 f s (f.2.2.1[s]).2.1 ((f.2.2.1[s]).2.1+(Zci f.1 (s:Int)).2.2.2.1) (f.2.2.1[s]).2.2.2.2.1).now
   rw[ZnT (ZfR f s (f.2.2.1[s]).2.1 ((f.2.2.1[s]).2.1+(Zci f.1 (s:Int)).2.2.2.1) (f.2.2.1[s]).2.2.2.2.1) (f.2.2.1[s]).2.2.2.2.1 hr2.1 hr2.2 hl hp (fun p hp' =>by
    obtain⟨a1,a2,a3,a4⟩:=hto p hp'
    refine⟨a1, ?_,a3,a4⟩
    rw[hn,h.now];exact a2)]
   rfl
theorem Zri {before:List ZbD} {boarded:List Zch} {f:ZaE} (h:St f) (hb:before.length=f.1.1.length) (hbl:boarded.length=f.1.2.2.1.length) (ho:f.2.2.2.2.2.1.length+100000<4000000000):
  run
 (fun s3:ZaE×Int=>
 bif decide (s3.2< (↑(List.length f.1.2.2.1):Int)) then
 Option.bind (idx f.1.2.2.1 s3.2) fun x4=>
 Option.bind (inb s3.2 (List.length boarded)) fun x5=>
 Option.bind boarded[x5]? fun x6=>
 Option.bind
 (bif !decide (x6.1=(-1:Int)) then
 Option.bind (inb s3.2 (List.length boarded)) fun x7=>
 Option.bind boarded[x7]? fun x8=>
 Option.bind
 (F106
 s3.1
 s3.2 x8)
 fun x9=>some x9
 else
 some
 s3.1)
 fun x10=>
 Option.bind
 (run
 (fun s11:ZaE×Int=>
 bif decide (s11.2< (↑(List.length x4.2.2.2.2.2.2.2.1):Int)) then
 Option.bind (idx x4.2.2.2.2.2.2.2.1 s11.2) fun x12=>
 Option.bind (idx before x12.1) fun x13=>
 Option.bind
 (bif x12.2.2.2.1 then
 bif !decide (x13.2.2.1=(-1:Int)) then
 bif decide (x13.2.2.1≤x12.2.2.1) then
 Option.bind (inb s3.2 (List.length s11.1.2.2.2.2.1)) fun x14=>
 Option.bind s11.1.2.2.2.2.1[x14]? fun x15=>Option.bind (F101 x15 s11.2) fun x16=>some x16
 else some false
 else some false
 else some false)
 fun x17=>
 bif x17 then
 Option.bind
 (F106
 s11.1
 s3.2 (s11.2,x13.2.2.2.2.2.1,false,()))
 fun x18=>
 some
 (.inl
 (x18,
 IntKind.wrap .i64 (s11.2+(1:Int))))
 else
 some
 (.inl
 (s11.1,
 IntKind.wrap .i64 (s11.2+(1:Int))))
 else
 some
 (.inr
 s11.1))
 (x10,(0:Int)))
 fun x19=>
 some
 (.inl
 (x19,
 IntKind.wrap .i64 (s3.2+(1:Int))))
 else
 some
 (.inr
 s3.1))
 (f,(0:Int))=some (ZcB before boarded f.1.2.2.1.length f):=by
 have hruns:=h.sound.runs
 refine Zt3 (Za9 f.1.2.2.1.length _ (fun k (st:ZaE×Int)=>st=(ZcB before boarded k f,(k:Int))) ?_ ?_ _ rfl)
 ·rintro k _ hk rfl
  left
  obtain⟨h1,h2⟩:=Zcv (before:=before) (boarded:=boarded) k h (by omega)
  have hS:=h.step h1
  have hopn:=h1.opn
  have hnet:=h1.net
  show∃s',_=_∧s' =(Zdu before boarded (ZcB before boarded k f) k,((k+1:Nat):Int))
  generalize ZcB before boarded k f=g at*
  have hkb:k<boarded.length:=by omega
  have hkg:k<g.1.2.2.1.length:=by rw[hnet];exact hk
  have e:g.1.2.2.1[k]=f.1.2.2.1[k]:=by simp only[hnet]
  have er:rn g.1 (k:Int)=f.1.2.2.1[k]:=by unfold rn;rw[Int.toNat_natCast,Zah hkg,e]
  unfold Zdu
  rw[er,Zah hkb]
  simp only[Zay hk,cond_true,Zag hk,bind_some,ZaL hkb,List.getElem?_eq_getElem hkb,Zan hk (show _≤9223372036854775807 by omega)]
  rw[Zh9 g hkg hS.runs (by omega)]
  have hval: ∀g' :ZaE,Zbo g g' 1→_:=fun g' hg' =>by
   have hk' :k<g'.1.2.2.1.length:=by rw[hg'.net];exact hkg
   have e' :g'.1.2.2.1[k]=f.1.2.2.1[k]:=by simp only[hg'.net,hnet]
   have hv:=Zqm (before:=before) (hS.step hg') hk' (by rw[hg'.net,hnet];exact hb) (by have:=hg'.opn;omega)
   rw[e'] at hv
   exact hv
  cases decide ((boarded[k]).1= -1) with
  |true=>
   have hv:=hval g ((Zbo.refl g).weak (by omega))
   refine⟨_, ?_,rfl⟩
   simp only[Bool.not_true,cond_false,bind_some]
   exact congrArg (fun o=>Option.bind o fun x19=>some (Sum.inl (x19,((k+1:Nat):Int)))) hv
  |false=>
   have hv:=hval _ (Zb7 g k boarded[k])
   refine⟨_, ?_,rfl⟩
   simp only[Bool.not_false,cond_true,bind_some]
   exact congrArg (fun o=>Option.bind o fun x19=>some (Sum.inl (x19,((k+1:Nat):Int)))) hv
 ·rintro _ rfl
  simp only[ZaC,cond_false]
  exact⟨_,rfl,rfl⟩
def ZbG (f:ZaE) (j:Nat):Int:=((f.2.2.1[j]?).getD p00).2.1
theorem Zku (p:ZbD) (a r l:Int): (ZqC p a r l).2.1=p.2.1:=by
 unfold ZqC ZtQ Zt6
 cases Zb1 p.1 a<;>simp only[cond_true,cond_false]
 ·cases Zb1 p.2.2.1 r<;>rfl
 ·cases Zb1 p.2.2.1 r<;>rfl
theorem Zlp (f:ZaE) (i:Nat) (a r l:Int) (j:Nat):ZbG (ZfR f i a r l) j=ZbG f j:=by
 unfold ZbG ZfR
 simp only[List.getElem?_modify]
 cases f.2.2.1[j]? with
 |none=>rfl
 |some p=>
  simp only[Option.getD_some]
  split
  ·exact Zku ..
  ·rfl
theorem Zj2 (s at' prev:Int) (f:ZaE) (p:Zca) (j:Nat):ZbG (ZaZ s at' prev f p) j=ZbG f j:=by
 unfold ZaZ
 split
 ·exact(Zlp ..).trans rfl
 ·rfl
theorem Zgg (s at' prev:Int) (j:Nat): ∀ (l:List Zca) (f:ZaE),ZbG (l.foldl (ZaZ s at' prev) f) j=ZbG f j
 | [],_=>rfl
 |p::l,f=>(Zgg s at' prev j l _).trans (Zj2 s at' prev f p j)
theorem Zj3 (before:List ZbD) (f:ZaE) (s j:Nat):ZbG (ZbE before f s) j=ZbG f j:=by
 unfold ZbE
 cases (!decide (((f.2.2.1[s]?).getD p00).2.1= -1) &&Zb1 ((before[s]?).getD p00).2.1 ((f.2.2.1[s]?).getD p00).2.1) with
 |false=>rfl
 |true=>exact(Zgg ..).trans (Zlp ..)
theorem ZeR (before:List ZbD) (j:Nat): ∀ (m:Nat) (f:ZaE),ZbG (ZeI before m f) j=ZbG f j
 |0,_=>rfl
 |m+1,f=>(Zj3 before _ m j).trans (ZeR before j m f)
theorem ZpJ {before:List ZbD} {f:ZaE} (h:St f) (hb:before.length=f.2.2.1.length) (hr: ∀j,j<f.2.2.1.length→ZbG f j= -1∨0≤ZbG f j∧ZbG f j≤3155932800) (hch: ∀s:Nat,s<f.1.1.length→0≤(Zci f.1 (s:Int)).2.2.2.1∧(Zci f.1 (s:Int)).2.2.2.1≤3600)
  (hl:f.2.1.length+100*4096<4000000000) (hp:f.1.2.2.2.2.1.length≤4096) (hto: ∀p∈f.1.2.2.2.2.1,0≤p.2.1∧p.2.1< (f.1.1.length:Int)∧0≤p.2.2.1∧p.2.2.1≤14400):
  run
 (fun s27:ZaE×Int=>
 bif decide (s27.2< (↑(List.length f.2.2.1):Int)) then
 Option.bind (inb s27.2 (List.length s27.1.2.2.1)) fun x28=>
 Option.bind s27.1.2.2.1[x28]? fun x29=>
 Option.bind
 (bif !decide (x29.2.1=(-1:Int)) then
 Option.bind (idx before s27.2) fun x30=>
 bif decide (x30.2.1=(-1:Int)) then some true
 else Option.bind (idx before s27.2) fun x31=>some (decide (x29.2.1<x31.2.1))
 else some false)
 fun x32=>
 bif x32 then
 Option.bind (idx s27.1.1.1 s27.2) fun x33=>
 Option.bind
 (F108
 s27.1
 s27.2 x29.2.1 (IntKind.wrap .i64 (x29.2.1+x33.2.2.2.1)) x29.2.2.2.2.1)
 fun x34=>
 Option.bind
 (F112
 x34 s27.2
 x29.2.1 x29.2.2.2.2.1)
 fun x35=>
 some
 (.inl
 (x35,
 IntKind.wrap .i64 (s27.2+(1:Int))))
 else
 some
 (.inl
 (s27.1,
 IntKind.wrap .i64 (s27.2+(1:Int))))
 else
 some
 (.inr
 s27.1))
 (f,(0:Int))=some (ZeI before f.2.2.1.length f):=by
 have hst:=h.sound.stops
 have hnl:f.2.2.1.length≤64:=by rw[h.now];exact hst
 refine Zt3 (Za9 f.2.2.1.length _ (fun k (st:ZaE×Int)=>st=(ZeI before k f,(k:Int))) ?_ ?_ _ rfl)
 ·rintro k _ hk rfl
  left
  obtain⟨h1,h2⟩:=Zek before k f
  have hS:=h.step h1
  have hnet:=h1.net
  have hnow:=h1.now
  have hrd:=ZeR before k k f
  have hmul:k*f.1.2.2.2.2.1.length≤64*4096:=Nat.mul_le_mul (by omega) hp
  show∃s',_=_∧s' =(ZbE before (ZeI before k f) k,((k+1:Nat):Int))
  generalize ZeI before k f=g at*
  have hkg:k<g.2.2.1.length:=by omega
  have e: (g.2.2.1[k]).2.1=ZbG f k:=by rw[←hrd];unfold ZbG;rw[Zah hkg]
  refine⟨_, ?_,rfl⟩
  rw[Zay hk]
  simp only[cond_true]
  exact ZlP hS hkg (by omega) (by rw[e];exact hr k hk) (by rw[hnet];exact hch k (by rw[←h.now];exact hk)) (by rw[hnet];omega) (by rw[hnet];exact hp) (by rw[hnet];exact hto)
 ·rintro _ rfl
  simp only[ZaC,cond_false]
  exact⟨_,rfl,rfl⟩
end Q
namespace Q
open Tr Go
open Option (bind_some)
structure Ctx (n:ZaA) (s0 t0 w:Int):Prop where
 net:Zev n
 stop:0≤s0∧s0< (n.1.length:Int)
 time:0≤t0∧t0≤3155932800
 wait:0≤w∧w≤3600
variable {n:ZaA} {s0 t0 w:Int}
theorem Ctx.ok (C:Ctx n s0 t0 w) {f:Zrd} {js:List ZaP} (d:Der n s0 t0 w f js):f.ok n:=d.ok C.net C.stop C.time C.wait
structure SP (D:Zrd→List ZaP→Prop) (lb:List Zm5) (K:Nat) (s:Int) (p:ZbD):Prop where
 arr:p.1≠ -1→ ∃k,k≤K∧ ∃js,Ch lb p.2.2.2.1 js∧D (.arr k s p.1) js
 rid:p.2.1≠ -1→ ∃k,k≤K∧ ∃js,Ch lb p.2.2.2.2.1 js∧D (.rid k s p.2.1) js
 rdy:p.2.2.1≠ -1→ ∃k,k≤K∧ ∃js,Ch lb p.2.2.2.2.2.1 js∧D (.rdy k s p.2.2.1) js
def SB (D:Zrd→List ZaP→Prop) (lb:List Zm5) (K i:Nat) (b:Zch):Prop:=b.1≠ -1→ ∃k,k≤K∧ ∃c:Nat,b.1=(c:Int)∧ ∃js,Ch lb b.2.1 js∧D (.brd k i c b.2.2.1) js
def SL (D:Zrd→List ZaP→Prop) (lb:List Zm5) (K i:Nat) (b:Zch):Prop:=b.1≠ -1→b.2.2.1=false∧ ∃k,k≤K+1∧ ∃c:Nat,b.1=(c:Int)∧ ∃js,Ch lb b.2.1 js∧D (.lnk k i c) js
structure Snd (D:Zrd→List ZaP→Prop) (K:Nat) (f:ZaE):Prop where
 now: ∀ (s:Nat) p,f.2.2.1[s]? =some p→SP D f.2.1 K (s:Int) p
 brd: ∀ (i:Nat) b,f.2.2.2.2.1[i]? =some b→SB D f.2.1 K i b
 lnk: ∀ (i:Nat) b,f.2.2.2.1[i]? =some b→SL D f.2.1 K i b
variable {D:Zrd→List ZaP→Prop} {lb:List Zm5} {K:Nat}
theorem SP.app {s:Int} {p:ZbD} (h:SP D lb K s p) (m:List Zm5):SP D (lb++m) K s p:=
 ⟨fun e=>let ⟨k,a,js,b,c⟩:=h.arr e;⟨k,a,js,b.app m,c⟩,fun e=>let ⟨k,a,js,b,c⟩:=h.rid e;⟨k,a,js,b.app m,c⟩,fun e=>let ⟨k,a,js,b,c⟩:=h.rdy e;⟨k,a,js,b.app m,c⟩⟩
theorem SP.weak {s:Int} {p:ZbD} {K' :Nat} (h:SP D lb K s p) (hk:K≤K'):SP D lb K' s p:=
 ⟨fun e=>let ⟨k,a,r⟩:=h.arr e;⟨k,by omega,r⟩,fun e=>let ⟨k,a,r⟩:=h.rid e;⟨k,by omega,r⟩,fun e=>let ⟨k,a,r⟩:=h.rdy e;⟨k,by omega,r⟩⟩
theorem SB.app {i:Nat} {b:Zch} (h:SB D lb K i b) (m:List Zm5):SB D (lb++m) K i b:=
 fun e=>let ⟨k,a,c,e1,js,b,d⟩:=h e;⟨k,a,c,e1,js,b.app m,d⟩
theorem SL.app {i:Nat} {b:Zch} (h:SL D lb K i b) (m:List Zm5):SL D (lb++m) K i b:=
 fun e=>let ⟨z,k,a,c,e1,js,b,d⟩:=h e;⟨z,k,a,c,e1,js,b.app m,d⟩
theorem Zm1 (p:ZbD) (a r l:Int): (ZqC p a r l).1=bif Zb1 p.1 a then a else p.1:=by
 unfold ZqC ZtQ Zt6
 cases Zb1 p.1 a<;>simp only[cond_true,cond_false]<;>cases Zb1 p.2.2.1 r<;>rfl
theorem ZnB (p:ZbD) (a r l:Int): (ZqC p a r l).2.2.1=bif Zb1 p.2.2.1 r then r else p.2.2.1:=by
 unfold ZqC ZtQ Zt6
 cases Zb1 p.1 a<;>simp only[cond_true,cond_false]<;>cases Zb1 p.2.2.1 r<;>rfl
theorem SP.imp {s:Int} {p:ZbD} (h:SP D lb K s p) {a r l:Int} (ha: ∃k,k≤K∧ ∃js,Ch lb l js∧D (.arr k s a) js) (hr: ∃k,k≤K∧ ∃js,Ch lb l js∧D (.rdy k s r) js):SP D lb K s (ZqC p a r l):=by
 obtain⟨h1,h2,h3⟩:=h
 unfold ZqC ZtQ Zt6
 cases Zb1 p.1 a<;>simp only[cond_true,cond_false]<;>cases Zb1 p.2.2.1 r<;>simp only[cond_true,cond_false]
 ·exact⟨h1,h2,h3⟩
 ·exact⟨h1,h2,fun _=>hr⟩
 ·exact⟨fun _=>ha,h2,h3⟩
 ·exact⟨fun _=>ha,h2,fun _=>hr⟩
theorem ZeE {α:Type} {l:List α} {i:Nat} {p:α} (h:l[i]? =some p) (g:α→α): (l.modify i g)[i]? =some (g p):=by
 rw[List.getElem?_modify,h];simp
theorem Zii {α:Type} {l:List α} {i j:Nat} (e:i≠j) (g:α→α): (l.modify i g)[j]? =l[j]? :=by
 rw[List.getElem?_modify];simp [e]
theorem ZhO {α:Type} {l:List α} {i j:Nat} {g:α→α} {q:α} (h: (l.modify i g)[j]? =some q): ∃p,l[j]? =some p∧(i=j∧q=g p∨i≠j∧q=p):=by
 by_cases e:i=j
 ·subst e
  cases hp:l[i]? with
  |none=>rw[List.getElem?_modify,hp] at h;simp at h
  |some p=>rw[ZeE hp] at h;cases h;exact⟨p,rfl, .inl ⟨rfl,rfl⟩⟩
 ·rw[Zii e] at h
  exact⟨q,h, .inr ⟨e,rfl⟩⟩
theorem Snd.add {f:ZaE} (h:Snd D K f) (x:ZaP) (p:Int):Snd D K (ZfL f x p):=
 ⟨fun s q hq=>(h.now s q hq).app _,fun i b hb=>(h.brd i b hb).app _,fun i b hb=>(h.lnk i b hb).app _⟩
theorem Snd.imp {f:ZaE} (h:Snd D K f) {i:Nat} {a r l:Int} (ha: ∃k,k≤K∧ ∃js,Ch f.2.1 l js∧D (.arr k (i:Int) a) js) (hr: ∃k,k≤K∧ ∃js,Ch f.2.1 l js∧D (.rdy k (i:Int) r) js):Snd D K (ZfR f i a r l):=by
 refine⟨fun s q hq=> ?_,h.brd,h.lnk⟩
 obtain⟨p,hp,⟨rfl,rfl⟩ | ⟨_,rfl⟩⟩:=ZhO hq
 ·exact(h.now i p hp).imp ha hr
 ·exact h.now s _ hp
theorem Snd.ride {f:ZaE} (h:Snd D K f) {i:Nat} {a l:Int} (ha: ∃k,k≤K∧ ∃js,Ch f.2.1 l js∧D (.rid k (i:Int) a) js):Snd D K (Zk3 f i a l):=by
 refine⟨fun s q hq=> ?_,h.brd,h.lnk⟩
 obtain⟨p,hp,⟨rfl,rfl⟩ | ⟨_,rfl⟩⟩:=ZhO hq
 ·exact⟨(h.now i p hp).arr,fun _=>ha,(h.now i p hp).rdy⟩
 ·exact h.now s _ hp
theorem ZjL {α:Type} {l:List α} {i j:Nat} {x y:α} (h: (l.set i x)[j]? =some y): (i=j∧y=x)∨l[j]? =some y:=by
 rw[List.getElem?_set] at h
 by_cases e:i=j
 ·rw[if_pos e] at h
  split at h
  ·exact .inl ⟨e,by simpa using h.symm⟩
  ·exact absurd h (by simp)
 ·rw[if_neg e] at h;exact .inr h
theorem Snd.board {f:ZaE} (h:Snd D K f) {i:Nat} {b:Zch} (hb: (rn f.1 (i:Int)).2.2.2.2.2.2.1=false→SB D f.2.1 K i b):Snd D K (Zbe f i b):=by
 unfold Zbe
 cases hc: (rn f.1 (i:Int)).2.2.2.2.2.2.1 with
 |true=>exact h
 |false=>
  cases Zb1 ((f.2.2.2.2.1[i]?).getD (0,0,false,())).1 b.1 with
  |false=>exact h
  |true=>
   refine⟨h.now,fun j x hx=> ?_,h.lnk⟩
   rcases ZjL hx with ⟨rfl,rfl⟩ |hx
   ·exact hb hc
   ·exact h.brd j x hx
theorem Snd.linked {f:ZaE} (h:Snd D K f) {i:Nat} {b:Zch} (hb:SL D f.2.1 K i b):Snd D K (Zh8 f i b):=by
 refine⟨h.now,h.brd,fun j x hx=> ?_⟩
 rcases ZjL hx with ⟨rfl,rfl⟩ |hx
 ·exact hb
 ·exact h.lnk j x hx
def LeA (l:List ZbD) (s:Nat) (t:Int):Prop:= ∃p,l[s]? =some p∧p.1≠ -1∧p.1≤t
def LeR (l:List ZbD) (s:Nat) (t:Int):Prop:= ∃p,l[s]? =some p∧p.2.1≠ -1∧p.2.1≤t
def LeY (l:List ZbD) (s:Nat) (t:Int):Prop:= ∃p,l[s]? =some p∧p.2.2.1≠ -1∧p.2.2.1≤t
def LeB (l:List Zch) (i:Nat) (d:Int):Prop:= ∃b,l[i]? =some b∧b.1≠ -1∧b.1≤d
theorem LeA.weak {l:List ZbD} {s:Nat} {t u:Int} (h:LeA l s t) (e:t≤u):LeA l s u:=let ⟨p,a,b,c⟩:=h;⟨p,a,b,Int.le_trans c e⟩
theorem LeR.weak {l:List ZbD} {s:Nat} {t u:Int} (h:LeR l s t) (e:t≤u):LeR l s u:=let ⟨p,a,b,c⟩:=h;⟨p,a,b,Int.le_trans c e⟩
theorem LeY.weak {l:List ZbD} {s:Nat} {t u:Int} (h:LeY l s t) (e:t≤u):LeY l s u:=let ⟨p,a,b,c⟩:=h;⟨p,a,b,Int.le_trans c e⟩
structure Mv (f g:ZaE):Prop where
 net:g.1=f.1
 lab: ∃m,g.2.1=f.2.1++m
 arr: ∀s t,LeA f.2.2.1 s t→LeA g.2.2.1 s t
 rid: ∀s t,LeR f.2.2.1 s t→LeR g.2.2.1 s t
 rdy: ∀s t,LeY f.2.2.1 s t→LeY g.2.2.1 s t
 lnk: ∀i d,LeB f.2.2.2.1 i d→LeB g.2.2.2.1 i d
 brd: ∀i d,LeB f.2.2.2.2.1 i d→LeB g.2.2.2.2.1 i d
 out:g.2.2.2.2.2.2=f.2.2.2.2.2.2
theorem Mv.refl (f:ZaE):Mv f f:=⟨rfl,⟨[],by simp⟩,fun _ _ h=>h,fun _ _ h=>h,fun _ _ h=>h,fun _ _ h=>h,fun _ _ h=>h,rfl⟩
theorem Mv.trans {f g h:ZaE} (x:Mv f g) (y:Mv g h):Mv f h:=by
 obtain⟨m,hm⟩:=x.lab
 obtain⟨m',hm'⟩:=y.lab
 exact⟨y.net.trans x.net,⟨m++m',by rw[hm',hm,List.append_assoc]⟩,fun s t h=>y.arr s t (x.arr s t h),fun s t h=>y.rid s t (x.rid s t h),fun s t h=>y.rdy s t (x.rdy s t h),fun s t h=>y.lnk s t (x.lnk s t h),fun s t h=>y.brd s t (x.brd s t h),y.out.trans x.out⟩
theorem Mv.ch {f g:ZaE} (h:Mv f g) {l:Int} {js:List ZaP} (c:Ch f.2.1 l js):Ch g.2.1 l js:=by
 obtain⟨m,hm⟩:=h.lab
 rw[hm];exact c.app m
structure Op (f g:ZaE):Prop where
 opn: ∀x∈f.2.2.2.2.2.1,x∈g.2.2.2.2.2.1
 chg: ∀i:Nat,g.2.2.2.2.1[i]? =f.2.2.2.2.1[i]? ∨(i:Int)∈g.2.2.2.2.2.1
theorem Op.refl (f:ZaE):Op f f:=⟨fun _ h=>h,fun _=> .inl rfl⟩
theorem Op.trans {f g h:ZaE} (x:Op f g) (y:Op g h):Op f h:=by
 refine⟨fun z hz=>y.opn z (x.opn z hz),fun i=> ?_⟩
 rcases y.chg i with a|a
 ·rcases x.chg i with b|b
  ·exact .inl (a.trans b)
  ·exact .inr (y.opn _ b)
 ·exact .inr a
theorem ZsM (f:ZaE) (x:ZaP) (p:Int):Mv f (ZfL f x p):=⟨rfl,⟨[(x,p,())],rfl⟩,fun _ _ h=>h,fun _ _ h=>h,fun _ _ h=>h,fun _ _ h=>h,fun _ _ h=>h,rfl⟩
theorem Zux (f:ZaE) (x:ZaP) (p:Int):Op f (ZfL f x p):=⟨fun _ h=>h,fun _=> .inl rfl⟩
theorem Zup {a b t:Int} (hb:0≤b) (h:a≠ -1∧a≤t): (bif Zb1 a b then b else a)≠ -1∧(bif Zb1 a b then b else a)≤t:=by
 cases hl:Zb1 a b with
 |false=>exact h
 |true=>
  have:=Zdw.1 hl
  simp only[cond_true]
  omega
theorem Zs2 {a b:Int} (hb:0≤b): (bif Zb1 a b then b else a)≠ -1∧(bif Zb1 a b then b else a)≤b:=by
 cases hl:Zb1 a b with
 |true=>simp only[cond_true];omega
 |false=>
  simp only[cond_false]
  have: ¬ (a= -1∨b<a):=fun e=>by rw[Zdw.2 e] at hl;cases hl
  omega
theorem ZeG {P:ZbD→Prop} {l:List ZbD} {i s:Nat} {g:ZbD→ZbD} (hg: ∀p,P p→P (g p)) (h: ∃p,l[s]? =some p∧P p): ∃p,(l.modify i g)[s]? =some p∧P p:=by
 obtain⟨p,h1,h2⟩:=h
 by_cases e:i=s
 ·subst e;exact⟨g p,ZeE h1 g,hg p h2⟩
 ·exact⟨p,(Zii e g).trans h1,h2⟩
theorem Zqn (f:ZaE) (i:Nat) {a r:Int} (ha:0≤a) (hr:0≤r) (l:Int):Mv f (ZfR f i a r l):=by
 refine⟨rfl,⟨[],by simp [ZfR]⟩,fun s t h=> ?_,fun s t h=> ?_,fun s t h=> ?_,fun _ _ h=>h,fun _ _ h=>h,rfl⟩
 ·refine ZeG (P:=fun p=>p.1≠ -1∧p.1≤t) (fun p hp=> ?_) h
  rw[Zm1];exact Zup ha hp
 ·refine ZeG (P:=fun p=>p.2.1≠ -1∧p.2.1≤t) (fun p hp=> ?_) h
  rw[Zku];exact hp
 ·refine ZeG (P:=fun p=>p.2.2.1≠ -1∧p.2.2.1≤t) (fun p hp=> ?_) h
  rw[ZnB];exact Zup hr hp
theorem ZmD {f:ZaE} {i:Nat} (hi:i<f.2.2.1.length) {a r:Int} (ha:0≤a) (hr:0≤r) (l:Int):LeA (ZfR f i a r l).2.2.1 i a∧LeY (ZfR f i a r l).2.2.1 i r:=by
 have e: (ZfR f i a r l).2.2.1[i]? =some (ZqC f.2.2.1[i] a r l):=by
  exact ZeE (List.getElem?_eq_getElem hi) _
 exact⟨⟨_,e,by rw[Zm1];exact Zs2 ha⟩,⟨_,e,by rw[ZnB];exact Zs2 hr⟩⟩
theorem Ztr (f:ZaE) (i:Nat) {a:Int} (ha:0≤a) (hl:Zb1 (Zlo f (i:Int)).2.1 a=true) (l:Int):Mv f (Zk3 f i a l):=by
 refine⟨rfl,⟨[],by simp [Zk3]⟩,fun s t h=> ?_,fun s t h=> ?_,fun s t h=> ?_,fun _ _ h=>h,fun _ _ h=>h,rfl⟩
 ·exact ZeG (P:=fun p=>p.1≠ -1∧p.1≤t) (fun p hp=>hp) h
 ·obtain⟨p,h1,h2⟩:=h
  by_cases e:i=s
  ·subst e
   refine⟨_,ZeE h1 _, ?_⟩
   unfold Zlo at hl
   rw[Int.toNat_natCast,h1] at hl
   have:=Zdw.1 hl
   simp only[Option.getD_some] at this
   simp only
   omega
  ·exact⟨p,(Zii e _).trans h1,h2⟩
 ·exact ZeG (P:=fun p=>p.2.2.1≠ -1∧p.2.2.1≤t) (fun p hp=>hp) h
theorem Zr7 {f:ZaE} {i:Nat} (hi:i<f.2.2.1.length) {a:Int} (ha:0≤a) (l:Int):LeR (Zk3 f i a l).2.2.1 i a:=by
 refine⟨((f.2.2.1[i]).1,a,(f.2.2.1[i]).2.2.1,(f.2.2.1[i]).2.2.2.1,l,(f.2.2.1[i]).2.2.2.2.2), ?_, ?_⟩
 ·exact ZeE (List.getElem?_eq_getElem hi) _
 ·show a≠ -1∧a≤a
  omega
theorem Zs5 {l:List Zch} {i:Nat} {b:Zch} (h:Zb1 ((l[i]?).getD (0,0,false,())).1 b.1=true) (hb:0≤b.1) {j:Nat} {d:Int} (hj:LeB l j d):LeB (l.set i b) j d:=by
 obtain⟨x,h1,h2,h3⟩:=hj
 by_cases e:i=j
 ·subst e
  have hi:=(List.getElem?_eq_some_iff.1 h1).1
  refine⟨b,List.getElem?_set_self hi, ?_⟩
  rw[h1] at h
  have:=Zdw.1 h
  simp only[Option.getD_some] at this
  omega
 ·exact⟨x,by rw[List.getElem?_set_ne e];exact h1,h2,h3⟩
theorem ZjE {l:List Zch} {i:Nat} (hi:i<l.length) {b:Zch} (h:Zb1 ((l[i]?).getD (0,0,false,())).1 b.1=false):LeB l i b.1:=by
 rw[Zah hi] at h
 have: ¬ ((l[i]).1= -1∨b.1< (l[i]).1):=fun e=>by rw[Zdw.2 e] at h;cases h
 exact⟨l[i],List.getElem?_eq_getElem hi,by omega,by omega⟩
theorem Zkf (f:ZaE) {i:Nat} {b:Zch} (hb:0≤b.1):Mv f (Zbe f i b)∧Op f (Zbe f i b):=by
 unfold Zbe
 cases hg: (!(rn f.1 (i:Int)).2.2.2.2.2.2.1&&Zb1 ((f.2.2.2.2.1[i]?).getD (0,0,false,())).1 b.1) with
 |false=>exact⟨Mv.refl f,Op.refl f⟩
 |true=>
  rw[Bool.and_eq_true] at hg
  refine⟨⟨rfl,⟨[],by simp⟩,fun _ _ h=>h,fun _ _ h=>h,fun _ _ h=>h,fun _ _ h=>h,fun j d h=>Zs5 hg.2 hb h,rfl⟩,⟨fun x hx=>by simp only[cond_true,List.mem_append];exact .inl hx,fun j=> ?_⟩⟩
  simp only[cond_true]
  by_cases e:i=j
  ·subst e;exact .inr (by simp)
  ·exact .inl (List.getElem?_set_ne e)
theorem Zhp {f:ZaE} {i:Nat} (hi:i<f.2.2.2.2.1.length) {b:Zch} (hb:0≤b.1) (hc: (rn f.1 (i:Int)).2.2.2.2.2.2.1=false):LeB (Zbe f i b).2.2.2.2.1 i b.1:=by
 unfold Zbe
 rw[hc]
 cases hl:Zb1 ((f.2.2.2.2.1[i]?).getD (0,0,false,())).1 b.1 with
 |false=>exact ZjE hi hl
 |true=>exact⟨b,List.getElem?_set_self hi,by omega,by omega⟩
theorem Zq5 (f:ZaE) {i:Nat} {b:Zch} (hb:0≤b.1) (hl:Zb1 ((f.2.2.2.1[i]?).getD (0,0,false,())).1 b.1=true):Mv f (Zh8 f i b)∧Op f (Zh8 f i b):=
 ⟨⟨rfl,⟨[],by simp [Zh8]⟩,fun _ _ h=>h,fun _ _ h=>h,fun _ _ h=>h,fun j d h=>Zs5 hl hb h,fun _ _ h=>h,rfl⟩,⟨fun _ h=>h,fun _=> .inl rfl⟩⟩
def Zmt (n:ZaA) (out:List (List Int)):Prop:=out.length=n.2.2.1.length∧ ∀ (i:Nat) ks,out[i]? =some ks→ ∀x:Int,x∈ks↔inR x n.2.2.2.1.length=true∧(lkI n x).1=(i:Int)
theorem Zpg {n:ZaA} {x:Int} (h:inR x n.2.2.2.1.length=true):lkI n x∈n.2.2.2.1:=by
 unfold inR at h
 simp only[Bool.and_eq_true,decide_eq_true_eq] at h
 have hl:x.toNat<n.2.2.2.1.length:=by omega
 unfold lkI
 rw[Zah hl]
 exact List.getElem_mem hl
def Fol (n:ZaA) (i c:Nat) (g:ZaE) (x:Int):Prop:= ∀ (j d:Nat) (st:Bool),lkI n x=((i:Int),(c:Int),(j:Int),(d:Int),st,())→(Zaf n i c).2.1≤(Zaf n j d).2.2.1→
 (st=true→ZdD n j=false→LeB g.2.2.2.2.1 j (d:Int))∧(st=false→(Zaf n i c).2.2.2.2.1=true→(Zaf n j d).2.2.2.1=true→LeB g.2.2.2.1 j (d:Int))
theorem Fol.mono {i c:Nat} {g h:ZaE} {x:Int} (y:Mv g h) (z:Fol n i c g x):Fol n i c h x:=
 fun j d st e1 e2=>let ⟨a,b⟩:=z j d st e1 e2;⟨fun u v=>y.brd _ _ (a u v),fun u v z=>y.lnk _ _ (b u v z)⟩
theorem Ziw (C:Ctx n s0 t0 w) {f:ZaE} (hf:f.1=n) (hS:St f) (h:Snd (Der n s0 t0 w) K f) {k i c:Nat} {l:Int} {js:List ZaP} (hk:k≤K) (hl:Ch f.2.1 l js) (hd:Der n s0 t0 w (.on k i c) js) {x:Int} (hx:inR x n.2.2.2.1.length=true) (hfr: (lkI n x).1=(i:Int)):
  Snd (Der n s0 t0 w) K (ZaH (c:Int) (Zaf n i c).2.1 l (Zaf n i c).2.2.2.2.1 f x)∧(Mv f (ZaH (c:Int) (Zaf n i c).2.1 l (Zaf n i c).2.2.2.2.1 f x)∧Op f (ZaH (c:Int) (Zaf n i c).2.1 l (Zaf n i c).2.2.2.2.1 f x))∧Fol n i c (ZaH (c:Int) (Zaf n i c).2.1 l (Zaf n i c).2.2.2.2.1 f x) x:=by
 have hmem:=Zpg hx
 obtain⟨i',c',j,d,st,e,hi,hj,hij,hc,hdl,hst,hstay⟩:=C.net.link _ hmem
 have hi' :i' =i:=by rw[e] at hfr;simp only at hfr;omega
 subst hi'
 unfold ZaH
 rw[hf,e]
 simp only[Int.toNat_natCast]
 rw[show (cl (rn n (j:Int)).2.2.2.2.2.2.2.1 (d:Int))=Zaf n j d from rfl]
 by_cases h1:c' =c
 rotate_left
 ·rw[decide_eq_false (show¬ (c' :Int)=(c:Int) by omega)]
  refine⟨h,⟨Mv.refl f,Op.refl f⟩,fun j' d' st' e' _=> ?_⟩
  rw[e] at e'
  simp only[Prod.mk.injEq] at e'
  omega
 subst h1
 by_cases h2: (Zaf n j d).2.2.1< (Zaf n i' c').2.1
 ·rw[decide_eq_true h2,Bool.or_true]
  refine⟨h,⟨Mv.refl f,Op.refl f⟩,fun j' d' st' e' h3=> ?_⟩
  rw[e] at e'
  simp only[Prod.mk.injEq,Int.natCast_inj] at e'
  obtain⟨_,_,rfl,rfl,rfl,_⟩:=e'
  omega
 rw[decide_eq_false h2,decide_eq_true rfl]
 have hil:isLink n i' c' j d st:=by unfold isLink;rw[←e];exact hmem
 have hjr:j<f.2.2.2.2.1.length:=by rw[hS.runs,hf];exact hj
 have hjl:j<f.2.2.2.1.length:=by rw[hS.linked,hf];exact hj
 have hfol: ∀g:ZaE,((st=true→ZdD n j=false→LeB g.2.2.2.2.1 j (d:Int))∧(st=false→(Zaf n i' c').2.2.2.2.1=true→(Zaf n j d).2.2.2.1=true→LeB g.2.2.2.1 j (d:Int)))→Fol n i' c' g x:=by
  intro g hg j' d' st' e' _
  rw[e] at e'
  simp only[Prod.mk.injEq,Int.natCast_inj] at e'
  obtain⟨_,_,rfl,rfl,rfl,_⟩:=e'
  exact hg
 cases st with
 |true=>
  simp only[Bool.not_true,Bool.false_or,cond_false,cond_true]
  refine⟨h.board fun hcn=>fun _=>⟨k,hk,d,rfl,js,hl, .stay hd hil (by omega) (by rw[hf] at hcn;exact hcn)⟩,Zkf f (b:=((d:Int),l,true,())) (by show (0:Int)≤(d:Int);omega),hfol _ ⟨fun _ hcn=> ?_,fun e=>nomatch e⟩⟩
  exact Zhp hjr (b:=((d:Int),l,true,())) (by show (0:Int)≤(d:Int);omega) (by rw[hf];exact hcn)
 |false=>
  simp only[Bool.not_true,Bool.false_or,cond_false]
  cases hal: (Zaf n i' c').2.2.2.2.1 with
  |false=>exact⟨h,⟨Mv.refl f,Op.refl f⟩,hfol _ ⟨(fun e=>nomatch e),fun _ e=>by rw[hal] at e;cases e⟩⟩
  |true=>
   cases hbd: (Zaf n j d).2.2.2.1 with
   |false=>exact⟨h,⟨Mv.refl f,Op.refl f⟩,hfol _ ⟨(fun e=>nomatch e),fun _ _ e=>by rw[hbd] at e;cases e⟩⟩
   |true=>
    simp only[Bool.true_and]
    cases hls:Zb1 ((f.2.2.2.1[j]?).getD (0,0,false,())).1 (d:Int) with
    |false=>exact⟨h,⟨Mv.refl f,Op.refl f⟩,hfol _ ⟨(fun e=>nomatch e),fun _ _ _=>ZjE hjl (b:=((d:Int),l,false,())) hls⟩⟩
    |true=>
     simp only[cond_true]
     refine⟨h.linked fun _=>⟨rfl,k+1,by omega,d,rfl,js,hl, .link hd hal hil (by omega) hbd⟩,Zq5 f (b:=((d:Int),l,false,())) (by show (0:Int)≤(d:Int);omega) hls,hfol _ ⟨(fun e=>nomatch e),fun _ _ _=>⟨_,List.getElem?_set_self hjl, ?_⟩⟩⟩
     show (d:Int)≠ -1∧(d:Int)≤(d:Int)
     omega
theorem Zfw (C:Ctx n s0 t0 w) {k i c:Nat} {l:Int} {js:List ZaP} (hk:k≤K) (hd:Der n s0 t0 w (.on k i c) js): ∀ (ks:List Int) {f:ZaE},f.1=n→St f→Snd (Der n s0 t0 w) K f→Ch f.2.1 l js→(∀x∈ks,inR x n.2.2.2.1.length=true∧(lkI n x).1=(i:Int))→
  Snd (Der n s0 t0 w) K (ks.foldl (ZaH (c:Int) (Zaf n i c).2.1 l (Zaf n i c).2.2.2.2.1) f)∧(Mv f (ks.foldl (ZaH (c:Int) (Zaf n i c).2.1 l (Zaf n i c).2.2.2.2.1) f)∧Op f (ks.foldl (ZaH (c:Int) (Zaf n i c).2.1 l (Zaf n i c).2.2.2.2.1) f))∧ ∀x∈ks,Fol n i c (ks.foldl (ZaH (c:Int) (Zaf n i c).2.1 l (Zaf n i c).2.2.2.2.1) f) x
 | [],f,_,_,h,_,_=>⟨h,⟨Mv.refl f,Op.refl f⟩,(fun _ h=>nomatch h)⟩
 |x::ks,f,hf,hS,h,hl,hx=>by
  obtain⟨hx1,hx2⟩:=hx x (by simp)
  obtain⟨h1,⟨h2,h3⟩,h4⟩:=Ziw C hf hS h hk hl hd hx1 hx2
  obtain⟨h5,⟨h6,h7⟩,h8⟩:=Zfw C hk hd ks (h2.net.trans hf) (hS.step (ZcH ..).1) h1 (h2.ch hl) (fun y hy=>hx y (by simp [hy]))
  refine⟨h5,⟨h2.trans h6,h3.trans h7⟩,fun y hy=> ?_⟩
  rcases List.mem_cons.1 hy with rfl|hy
  ·exact h4.mono h6
  ·exact h8 y hy
def ZuU (n:ZaA) (i c:Nat) (g:ZaE):Prop:= ∀ (j d:Nat) (st:Bool),isLink n i c j d st→(Zaf n i c).2.1≤(Zaf n j d).2.2.1→
 (st=true→ZdD n j=false→LeB g.2.2.2.2.1 j (d:Int))∧(st=false→(Zaf n i c).2.2.2.2.1=true→(Zaf n j d).2.2.2.1=true→LeB g.2.2.2.1 j (d:Int))
theorem ZuU.mono {i c:Nat} {g h:ZaE} (y:Mv g h) (z:ZuU n i c g):ZuU n i c h:=
 fun j d st e1 e2=>let ⟨a,b⟩:=z j d st e1 e2;⟨fun u v=>y.brd _ _ (a u v),fun u v z=>y.lnk _ _ (b u v z)⟩
theorem ZnL {i c j d:Nat} {st:Bool} (h:isLink n i c j d st): ∃x:Int,inR x n.2.2.2.1.length=true∧lkI n x=((i:Int),(c:Int),(j:Int),(d:Int),st,()):=by
 obtain⟨k,hk,e⟩:=List.getElem_of_mem h
 refine⟨(k:Int), ?_, ?_⟩
 ·unfold inR;rw[Bool.and_eq_true,decide_eq_true_eq,decide_eq_true_eq];omega
 ·unfold lkI;rw[Int.toNat_natCast,Zah hk,e]
theorem Zos (C:Ctx n s0 t0 w) {f:ZaE} (hf:f.1=n) (hS:St f) (ho:Zmt n f.2.2.2.2.2.2.1) (h:Snd (Der n s0 t0 w) K f) {k i c:Nat} {l:Int} {js:List ZaP} (hk:k≤K) (hl:Ch f.2.1 l js) (hd:Der n s0 t0 w (.on k i c) js):
  Snd (Der n s0 t0 w) K (Zbu f (i:Int) (c:Int) l (Zaf n i c).2.2.2.2.1)∧(Mv f (Zbu f (i:Int) (c:Int) l (Zaf n i c).2.2.2.2.1)∧Op f (Zbu f (i:Int) (c:Int) l (Zaf n i c).2.2.2.2.1))∧ZuU n i c (Zbu f (i:Int) (c:Int) l (Zaf n i c).2.2.2.2.1):=by
 have hi:=(C.ok hd).2.1
 unfold Zbu
 rw[hf,Int.toNat_natCast]
 rw[show cl (rn n (i:Int)).2.2.2.2.2.2.2.1 (c:Int)=Zaf n i c from rfl]
 have hio:i<f.2.2.2.2.2.2.1.length:=by rw[ho.1];exact hi
 have hks:=ho.2 i _ (List.getElem?_eq_getElem hio)
 rw[Zah hio]
 obtain⟨h1,h2,h3⟩:=Zfw C hk hd (f.2.2.2.2.2.2.1[i]) hf hS h hl (fun x hx=>(hks x).1 hx)
 refine⟨h1,h2,fun j d st e1 e2=> ?_⟩
 obtain⟨x,hx1,hx2⟩:=ZnL e1
 exact h3 x ((hks x).2 ⟨hx1,by rw[hx2]⟩) j d st hx2 e2
def Vst (n:ZaA) (i m:Nat) (g:ZaE):Prop:=((Zaf n i m).2.2.2.2.1=true→LeR g.2.2.1 (Zaf n i m).1.toNat (Zaf n i m).2.1)∧ZuU n i m g
theorem Vst.mono {i m:Nat} {g h:ZaE} (y:Mv g h) (z:Vst n i m g):Vst n i m h:=⟨fun e=>y.rid _ _ (z.1 e),z.2.mono y⟩
theorem Zjs (C:Ctx n s0 t0 w) {f:ZaE} (hf:f.1=n) (hS:St f) (ho:Zmt n f.2.2.2.2.2.2.1) (h:Snd (Der n s0 t0 w) K f) {k i bc m:Nat} {prev:Int} {st:Bool} {js:List ZaP} (hk:k≤K) (hp:Ch f.2.1 prev js) (hd:Der n s0 t0 w (.brd k i bc st) js) (hm:bc<m) (hml:m< (Zaw n i).length):
  Snd (Der n s0 t0 w) K (Zbl (i:Int) ((bc:Int),prev,st,()) (Zaf n i bc) (Zaw n i) f m)∧(Mv f (Zbl (i:Int) ((bc:Int),prev,st,()) (Zaf n i bc) (Zaw n i) f m)∧Op f (Zbl (i:Int) ((bc:Int),prev,st,()) (Zaf n i bc) (Zaw n i) f m))∧Vst n i m (Zbl (i:Int) ((bc:Int),prev,st,()) (Zaf n i bc) (Zaw n i) f m):=by
 have hi:=(C.ok hd).2.1
 have hon:=Der.on hd hm hml
 unfold Zbl
 rw[show cl (Zaw n i) (m:Int)=Zaf n i m from rfl]
 cases hskip: (!(Zaf n i m).2.2.2.2.1&&decide ((ZgF f (i:Int)).length=0)) with
 |true=>
  simp only[cond_true]
  rw[Bool.and_eq_true,Bool.not_eq_true',decide_eq_true_eq] at hskip
  refine⟨h,⟨Mv.refl f,Op.refl f⟩,⟨fun e=>(by rw[hskip.1] at e;cases e),fun j d st e1 e2=> ?_⟩⟩
  exfalso
  have hio:i<f.2.2.2.2.2.2.1.length:=by rw[ho.1];exact hi
  have hks:=ho.2 i _ (List.getElem?_eq_getElem hio)
  obtain⟨x,hx1,hx2⟩:=ZnL e1
  have hx:=(hks x).2 ⟨hx1,by rw[hx2]⟩
  have he:=hskip.2
  unfold ZgF at he
  rw[Int.toNat_natCast,Zah hio] at he
  rw[List.length_eq_zero_iff.1 he] at hx
  cases hx
 |false=>
  simp only[cond_false]
  rw[show ((true,(i:Int),(bc:Int),(m:Int),(Zaf n i bc).1,(Zaf n i m).1,(Zaf n i bc).2.2.1,(Zaf n i m).2.1,st,()):ZaP)=Zep n i bc m st from rfl]
  generalize hx:Zep n i bc m st=x at*
  have hch:Ch (ZfL f x prev).2.1 (f.2.1.length:Int) (js++[x]):=hp.new x
  obtain⟨h1,⟨h2,h3⟩,h4⟩:=Zos C (f:=ZfL f x prev) hf (hS.step (Zd0 ..)) ho (h.add x prev) hk hch hon
  have h5:=(ZsM f x prev).trans h2
  have h6:=(Zux f x prev).trans h3
  have hlen:=(ZcU (ZfL f x prev) (i:Int) (m:Int) (f.2.1.length:Int) (Zaf n i m).2.2.2.2.1).1
  have hSg:=(hS.step (Zd0 f x prev)).step hlen
  generalize Zbu (ZfL f x prev) (i:Int) (m:Int) (f.2.1.length:Int) (Zaf n i m).2.2.2.2.1=g at*
  have hst:=C.net.stop hi hml
  have htm:=C.net.time hi hml
  obtain⟨s,hs⟩: ∃s:Nat,(Zaf n i m).1=(s:Int):=⟨(Zaf n i m).1.toNat,by omega⟩
  have hsg:s<g.2.2.1.length:=by rw[hSg.now,h5.net,hf];omega
  rw[hs,Int.toNat_natCast]
  cases hal: (Zaf n i m).2.2.2.2.1 with
  |false=>
   simp only[Bool.false_and,cond_false]
   exact⟨h1,⟨h5,h6⟩,fun e=>(by rw[hal] at e;cases e),h4⟩
  |true=>
   simp only[Bool.true_and]
   cases hls:Zb1 (Zlo g (s:Int)).2.1 (Zaf n i m).2.1 with
   |false=>
    simp only[cond_false]
    refine⟨h1,⟨h5,h6⟩,fun _=> ?_,h4⟩
    rw[hs,Int.toNat_natCast]
    unfold Zlo at hls
    rw[Int.toNat_natCast,Zah hsg] at hls
    have: ¬ ((g.2.2.1[s]).2.1= -1∨(Zaf n i m).2.1< (g.2.2.1[s]).2.1):=fun e=>by rw[Zdw.2 e] at hls;cases hls
    exact⟨_,List.getElem?_eq_getElem hsg,by omega,by omega⟩
   |true=>
    simp only[cond_true]
    have hmv:=Ztr g s htm.1 hls (f.2.1.length:Int)
    refine⟨h1.ride ⟨k,hk,_,h2.ch hch, ?_⟩,⟨h5.trans hmv,h6.trans ⟨fun _ h=>h,fun _=> .inl rfl⟩⟩,fun _=> ?_,h4.mono hmv⟩
    ·rw[←hs];exact .ride hon hal
    ·rw[hs,Int.toNat_natCast];exact Zr7 hsg htm.1 _
theorem Zi9 (C:Ctx n s0 t0 w) {k i bc:Nat} {prev:Int} {st:Bool} {js:List ZaP} (hk:k≤K) (hd:Der n s0 t0 w (.brd k i bc st) js): ∀ (m:Nat) {f:ZaE},f.1=n→St f→Zmt n f.2.2.2.2.2.2.1→Snd (Der n s0 t0 w) K f→Ch f.2.1 prev js→bc+1+m≤(Zaw n i).length→
  Snd (Der n s0 t0 w) K (ZcN (i:Int) ((bc:Int),prev,st,()) (Zaf n i bc) (Zaw n i) (bc+1) m f)∧(Mv f (ZcN (i:Int) ((bc:Int),prev,st,()) (Zaf n i bc) (Zaw n i) (bc+1) m f)∧Op f (ZcN (i:Int) ((bc:Int),prev,st,()) (Zaf n i bc) (Zaw n i) (bc+1) m f))∧
  ∀j,bc<j→j<bc+1+m→Vst n i j (ZcN (i:Int) ((bc:Int),prev,st,()) (Zaf n i bc) (Zaw n i) (bc+1) m f)
 |0,f,_,_,_,h,_,_=>⟨h,⟨Mv.refl f,Op.refl f⟩,fun j h1 h2=>by omega⟩
 |m+1,f,hf,hS,ho,h,hp,hm=>by
  obtain⟨h1,⟨h2,h3⟩,h4⟩:=Zi9 C hk hd m hf hS ho h hp (by omega)
  have hS2:=hS.step (Zct (i:Int) ((bc:Int),prev,st,()) (Zaf n i bc) (Zaw n i) (bc+1) m f hS).1
  obtain⟨h5,⟨h6,h7⟩,h8⟩:=Zjs C (h2.net.trans hf) hS2 (by rw[h2.out];exact ho) h1 hk (h2.ch hp) hd (m:=bc+1+m) (by omega) (by omega)
  refine⟨h5,⟨h2.trans h6,h3.trans h7⟩,fun j hj1 hj2=> ?_⟩
  by_cases e:j=bc+1+m
  ·subst e;exact h8
  ·exact(h4 j hj1 (by omega)).mono h6
def Vis (n:ZaA) (i:Nat) (b:Int) (g:ZaE):Prop:= ∀m:Nat,b< (m:Int)→m< (Zaw n i).length→Vst n i m g
theorem Vis.mono {i:Nat} {b:Int} {g h:ZaE} (y:Mv g h) (z:Vis n i b g):Vis n i b h:=fun m a c=>(z m a c).mono y
theorem ZoW (C:Ctx n s0 t0 w) {f:ZaE} (hf:f.1=n) (hS:St f) (ho:Zmt n f.2.2.2.2.2.2.1) (h:Snd (Der n s0 t0 w) K f) {i:Nat} (hi:i<n.2.2.1.length) (hb:inR ((f.2.2.2.2.1[i]?).getD (0,0,false,())).1 (Zaw n i).length=true):
  Snd (Der n s0 t0 w) K (ZcO f i)∧(Mv f (ZcO f i)∧Op f (ZcO f i))∧Vis n i ((f.2.2.2.2.1[i]?).getD (0,0,false,())).1 (ZcO f i):=by
 have hir:i<f.2.2.2.2.1.length:=by rw[hS.runs,hf];exact hi
 have hsb:=h.brd i _ (List.getElem?_eq_getElem hir)
 unfold ZcO
 rw[Zah hir] at hb ⊢
 generalize f.2.2.2.2.1[i]=b at*
 unfold inR at hb
 simp only[Bool.and_eq_true,decide_eq_true_eq] at hb
 obtain⟨k,hk,c,hc,js,hch,hd⟩:=hsb (by omega)
 obtain⟨b1,prev,st,u⟩:=b
 simp only at hc hch hd hb
 subst hc
 rw[hf]
 simp only[Int.toNat_natCast]
 obtain⟨h1,h2,h3⟩:=Zi9 C hk hd ((Zaw n i).length - (c+1)) hf hS ho h hch (by omega)
 exact⟨h1,h2,fun m hm1 hm2=>h3 m (by omega) (by omega)⟩
end Q
namespace Q
open Tr Go
open Option (bind_some)
variable {n:ZaA} {s0 t0 w:Int} {K:Nat}
theorem Zlw (C:Ctx n s0 t0 w) {before:List ZbD} (hbl:before.length=n.1.length) {f:ZaE} (hf:f.1=n) (hS:St f) (hB: ∀ (s:Nat) p,before[s]? =some p→SP (Der n s0 t0 w) f.2.1 K (s:Int) p) (h:Snd (Der n s0 t0 w) (K+1) f) {i m:Nat} (hi:i<n.2.2.1.length) (hm:m< (Zaw n i).length):
  Snd (Der n s0 t0 w) (K+1) (ZbF before i (Zaw n i) f m)∧(Mv f (ZbF before i (Zaw n i) f m)∧Op f (ZbF before i (Zaw n i) f m))∧
  (ZdD n i=false→(Zaf n i m).2.2.2.1=true→LeY before (Zaf n i m).1.toNat (Zaf n i m).2.2.1→LeB (ZbF before i (Zaw n i) f m).2.2.2.2.1 i (m:Int)):=by
 have hst:=C.net.stop hi hm
 have hir:i<f.2.2.2.2.1.length:=by rw[hS.runs,hf];exact hi
 unfold ZbF
 rw[show cl (Zaw n i) (m:Int)=Zaf n i m from rfl]
 obtain⟨s,hs⟩: ∃s:Nat,(Zaf n i m).1=(s:Int):=⟨(Zaf n i m).1.toNat,by omega⟩
 have hsb:s<before.length:=by omega
 have hp:=hB s _ (List.getElem?_eq_getElem hsb)
 rw[hs,Int.toNat_natCast,Zah hsb]
 have hY: ∀t,LeY before s t→(before[s]).2.2.1≠ -1∧(before[s]).2.2.1≤t:=by
  rintro t ⟨q,hq,h1⟩
  rw[List.getElem?_eq_getElem hsb] at hq
  cases hq
  exact h1
 generalize before[s]=p at*
 cases hb: (Zaf n i m).2.2.2.1 with
 |false=>exact⟨h,⟨Mv.refl f,Op.refl f⟩,fun _ e=>by cases e⟩
 |true=>
  by_cases h1:p.2.2.1= -1
  ·rw[decide_eq_true h1]
   exact⟨h,⟨Mv.refl f,Op.refl f⟩,fun _ _ e=>absurd h1 (hY _ e).1⟩
  by_cases h2:p.2.2.1≤(Zaf n i m).2.2.1
  rotate_left
  ·rw[decide_eq_false h1,decide_eq_false h2]
   exact⟨h,⟨Mv.refl f,Op.refl f⟩,fun _ _ e=>absurd (hY _ e).2 h2⟩
  rw[decide_eq_false h1,decide_eq_true h2]
  simp only[Bool.not_false,Bool.true_and]
  cases hl:Zb1 ((f.2.2.2.2.1[i]?).getD (0,0,false,())).1 (m:Int) with
  |false=>
   simp only[cond_false]
   exact⟨h,⟨Mv.refl f,Op.refl f⟩,fun _ _ _=>ZjE hir (b:=((m:Int),0,false,())) hl⟩
  |true=>
   simp only[cond_true]
   have hm0: (0:Int)≤(m:Int):=by omega
   refine⟨h.board fun hcn=>fun _=> ?_,Zkf f (b:=((m:Int),p.2.2.2.2.2.1,false,())) hm0,fun hcn _ _=>Zhp hir (b:=((m:Int),p.2.2.2.2.2.1,false,())) hm0 (by rw[hf];exact hcn)⟩
   obtain⟨k,hk,js,hch,hd⟩:=hp.rdy h1
   exact⟨k+1,by omega,m,rfl,js,hch, .board hd hi hm (by rw[hf] at hcn;exact hcn) hs hb h2⟩
theorem ZgI (C:Ctx n s0 t0 w) {before:List ZbD} (hbl:before.length=n.1.length) {i:Nat} (hi:i<n.2.2.1.length): ∀ (m:Nat) {f:ZaE},f.1=n→St f→(∀ (s:Nat) p,before[s]? =some p→SP (Der n s0 t0 w) f.2.1 K (s:Int) p)→Snd (Der n s0 t0 w) (K+1) f→m≤(Zaw n i).length→
  Snd (Der n s0 t0 w) (K+1) (Zcy before i (Zaw n i) m f)∧(Mv f (Zcy before i (Zaw n i) m f)∧Op f (Zcy before i (Zaw n i) m f))∧
  ∀j,j<m→ZdD n i=false→(Zaf n i j).2.2.2.1=true→LeY before (Zaf n i j).1.toNat (Zaf n i j).2.2.1→LeB (Zcy before i (Zaw n i) m f).2.2.2.2.1 i (j:Int)
 |0,f,_,_,_,h,_=>⟨h,⟨Mv.refl f,Op.refl f⟩,fun j hj=>absurd hj (Nat.not_lt_zero j)⟩
 |m+1,f,hf,hS,hB,h,hm=>by
  obtain⟨h1,⟨h2,h3⟩,h4⟩:=ZgI C hbl hi m hf hS hB h (by omega)
  obtain⟨g1,g2⟩:=ZcE before i (Zaw n i) m f
  obtain⟨h5,⟨h6,h7⟩,h8⟩:=Zlw C hbl (h2.net.trans hf) (hS.step g1) (by rw[g2];exact hB) h1 hi (m:=m) (by omega)
  refine⟨h5,⟨h2.trans h6,h3.trans h7⟩,fun j hj a b c=> ?_⟩
  by_cases e:j=m
  ·subst e;exact h8 a b c
  ·exact h6.brd _ _ (h4 j (by omega) a b c)
def Beg (n:ZaA) (before:List ZbD) (boarded:List Zch) (i:Nat) (g:ZaE):Prop:=ZdD n i=false→(∀d,LeB boarded i d→LeB g.2.2.2.2.1 i d)∧
 ∀j,j< (Zaw n i).length→(Zaf n i j).2.2.2.1=true→LeY before (Zaf n i j).1.toNat (Zaf n i j).2.2.1→LeB g.2.2.2.2.1 i (j:Int)
theorem Beg.mono {before:List ZbD} {boarded:List Zch} {i:Nat} {g h:ZaE} (y:Mv g h) (z:Beg n before boarded i g):Beg n before boarded i h:=
 fun e=>⟨fun d hd=>y.brd _ _ ((z e).1 d hd),fun j a b c=>y.brd _ _ ((z e).2 j a b c)⟩
theorem ZoA (C:Ctx n s0 t0 w) {before:List ZbD} (hbl:before.length=n.1.length) {boarded:List Zch} (hbo:boarded.length=n.2.2.1.length) {i:Nat} (hi:i<n.2.2.1.length) {f:ZaE} (hf:f.1=n) (hS:St f) (hB: ∀ (s:Nat) p,before[s]? =some p→SP (Der n s0 t0 w) f.2.1 K (s:Int) p)
  (hL: ∀ (i:Nat) b,boarded[i]? =some b→SL (Der n s0 t0 w) f.2.1 K i b) (h:Snd (Der n s0 t0 w) (K+1) f):
  Snd (Der n s0 t0 w) (K+1) (Zdu before boarded f i)∧(Mv f (Zdu before boarded f i)∧Op f (Zdu before boarded f i))∧Beg n before boarded i (Zdu before boarded f i):=by
 have hib:i<boarded.length:=by omega
 have hir:i<f.2.2.2.2.1.length:=by rw[hS.runs,hf];exact hi
 have hl:=hL i _ (List.getElem?_eq_getElem hib)
 unfold Zdu
 rw[Zah hib,hf,show (rn n (i:Int)).2.2.2.2.2.2.2.1=Zaw n i from rfl]
 have hLe: ∀d,LeB boarded i d→(boarded[i]).1≠ -1∧(boarded[i]).1≤d:=by
  rintro d ⟨b,hb,h1⟩
  rw[List.getElem?_eq_getElem hib] at hb
  cases hb
  exact h1
 generalize boarded[i]=b at*
 by_cases hb:b.1= -1
 ·rw[decide_eq_true hb]
  obtain⟨h1,h2,h3⟩:=ZgI C hbl hi (Zaw n i).length hf hS hB h (Nat.le_refl _)
  exact⟨h1,h2,fun e=>⟨fun d hd=>absurd hb (hLe d hd).1,fun j hj=>h3 j hj e⟩⟩
 ·rw[decide_eq_false hb]
  simp only[Bool.not_false,cond_true]
  obtain⟨hst,k,hk,c,hc,js,hch,hd⟩:=hl hb
  have hb0:0≤b.1:=by omega
  have hs1:Snd (Der n s0 t0 w) (K+1) (Zbe f i b):=h.board fun hcn=>fun _=>⟨k,hk,c,hc,js,hch,by rw[hst];exact .linked hd (by rw[hf] at hcn;exact hcn)⟩
  obtain⟨m1,m2⟩:=Zkf f (i:=i) hb0
  have hlab:=ZeU f i b
  obtain⟨h1,⟨h2,h2'⟩,h3⟩:=ZgI C hbl hi (Zaw n i).length (m1.net.trans hf) (hS.step (Zb7 ..)) (by rw[hlab];exact hB) hs1 (Nat.le_refl _)
  refine⟨h1,⟨m1.trans h2,m2.trans h2'⟩,fun e=>⟨fun d hd=> ?_,fun j hj=>h3 j hj e⟩⟩
  obtain⟨x,hx1,hx2,hx3⟩:=h2.brd _ _ (Zhp hir hb0 (by rw[hf];exact e))
  exact⟨x,hx1,hx2,Int.le_trans hx3 (hLe d hd).2⟩
theorem Zi4 (C:Ctx n s0 t0 w) {before:List ZbD} (hbl:before.length=n.1.length) {boarded:List Zch} (hbo:boarded.length=n.2.2.1.length): ∀ (m:Nat) {f:ZaE},f.1=n→St f→(∀ (s:Nat) p,before[s]? =some p→SP (Der n s0 t0 w) f.2.1 K (s:Int) p)→
  (∀ (i:Nat) b,boarded[i]? =some b→SL (Der n s0 t0 w) f.2.1 K i b)→Snd (Der n s0 t0 w) (K+1) f→m≤n.2.2.1.length→
  Snd (Der n s0 t0 w) (K+1) (ZcB before boarded m f)∧(Mv f (ZcB before boarded m f)∧Op f (ZcB before boarded m f))∧ ∀i,i<m→Beg n before boarded i (ZcB before boarded m f)
 |0,f,_,_,_,_,h,_=>⟨h,⟨Mv.refl f,Op.refl f⟩,fun i hi=>absurd hi (Nat.not_lt_zero i)⟩
 |m+1,f,hf,hS,hB,hL,h,hm=>by
  obtain⟨h1,⟨h2,h3⟩,h4⟩:=Zi4 C hbl hbo m hf hS hB hL h (by omega)
  obtain⟨g1,g2⟩:=Zcv (before:=before) (boarded:=boarded) m hS (by rw[hf];omega)
  obtain⟨h5,⟨h6,h7⟩,h8⟩:=ZoA C hbl hbo (i:=m) (by omega) (h2.net.trans hf) (hS.step g1) (by rw[g2];exact hB) (by rw[g2];exact hL) h1
  refine⟨h5,⟨h2.trans h6,h3.trans h7⟩,fun i hi=> ?_⟩
  by_cases e:i=m
  ·subst e;exact h8
  ·exact(h4 i (by omega)).mono h6
def Wlk (s t:Int) (l:List ZbD) (p:Zca):Prop:=p.1=s→t+p.2.2.1≤3155932800→LeA l p.2.1.toNat (t+p.2.2.1)∧LeY l p.2.1.toNat (t+p.2.2.1)
theorem Wlk.mono {s t:Int} {g h:ZaE} {p:Zca} (y:Mv g h) (z:Wlk s t g.2.2.1 p):Wlk s t h.2.2.1 p:=
 fun a b=>⟨y.arr _ _ (z a b).1,y.rdy _ _ (z a b).2⟩
theorem Zg2 (C:Ctx n s0 t0 w) {k:Nat} {s t prev:Int} (ht:0≤t) {js:List ZaP} (hk:k≤K) (hD: ∀p∈n.2.2.2.2.1,p.1=s→t+p.2.2.1≤3155932800→Der n s0 t0 w (.arr k p.2.1 (t+p.2.2.1)) (js++[Zg4 s p.2.1 t (t+p.2.2.1)])∧Der n s0 t0 w (.rdy k p.2.1 (t+p.2.2.1)) (js++[Zg4 s p.2.1 t (t+p.2.2.1)])):
  ∀ (l:List Zca) {f:ZaE},f.2.2.1.length=n.1.length→Snd (Der n s0 t0 w) K f→Ch f.2.1 prev js→(∀p∈l,p∈n.2.2.2.2.1)→
  Snd (Der n s0 t0 w) K (l.foldl (ZaZ s t prev) f)∧Mv f (l.foldl (ZaZ s t prev) f)∧ ∀p∈l,Wlk s t (l.foldl (ZaZ s t prev) f).2.2.1 p
 | [],f,_,h,_,_=>⟨h,Mv.refl f,(fun _ h=>nomatch h)⟩
 |p::l,f,hl,h,hch,hp=>by
  have hpn:=hp p (by simp)
  have hpo:=C.net.path p hpn
  have hstep:Snd (Der n s0 t0 w) K (ZaZ s t prev f p)∧Mv f (ZaZ s t prev f p)∧Wlk s t (ZaZ s t prev f p).2.2.1 p:=by
   unfold ZaZ
   by_cases hc:p.1=s∧t+p.2.2.1≤3155932800
   ·rw[if_pos hc]
    obtain⟨d1,d2⟩:=hD p hpn hc.1 hc.2
    obtain⟨j,hj⟩: ∃j:Nat,p.2.1=(j:Int):=⟨p.2.1.toNat,by omega⟩
    have hnew:=hch.new (Zg4 s p.2.1 t (t+p.2.2.1))
    rw[show ((false,0,0,0,s,p.2.1,t,t+p.2.2.1,false,()):ZaP)=Zg4 s p.2.1 t (t+p.2.2.1) from rfl]
    generalize hx:Zg4 s p.2.1 t (t+p.2.2.1)=x at*
    rw[hj] at d1 d2
    rw[hj,Int.toNat_natCast]
    have h0:0≤t+p.2.2.1:=by omega
    refine⟨(h.add x prev).imp ⟨k,hk,_,hnew,d1⟩ ⟨k,hk,_,hnew,d2⟩,(ZsM f x prev).trans (Zqn _ j h0 h0 _),fun _ _=> ?_⟩
    rw[hj,Int.toNat_natCast]
    exact ZmD (f:=ZfL f x prev) (by show j<f.2.2.1.length;omega) h0 h0 _
   ·rw[if_neg hc]
    exact⟨h,Mv.refl f,fun a b=>absurd ⟨a,b⟩ hc⟩
  obtain⟨h1,h2,h3⟩:=hstep
  obtain⟨h4,h5,h6⟩:=Zg2 C ht hk hD l (f:=ZaZ s t prev f p) (by rw[(Zfo s t prev f p).now];exact hl) h1 (h2.ch hch) (fun q hq=>hp q (by simp [hq]))
  refine⟨h4,h2.trans h5,fun q hq=> ?_⟩
  rcases List.mem_cons.1 hq with rfl|hq
  ·exact h3.mono h5
  ·exact h6 q hq
theorem Zle (C:Ctx n s0 t0 w) {k:Nat} {s t prev:Int} (ht:0≤t) {js:List ZaP} (hk:k≤K) (hD: ∀p∈n.2.2.2.2.1,p.1=s→t+p.2.2.1≤3155932800→Der n s0 t0 w (.arr k p.2.1 (t+p.2.2.1)) (js++[Zg4 s p.2.1 t (t+p.2.2.1)])∧Der n s0 t0 w (.rdy k p.2.1 (t+p.2.2.1)) (js++[Zg4 s p.2.1 t (t+p.2.2.1)]))
  {f:ZaE} (hf:f.1=n) (hl:f.2.2.1.length=n.1.length) (h:Snd (Der n s0 t0 w) K f) (hch:Ch f.2.1 prev js):
  Snd (Der n s0 t0 w) K (Zgy f s t prev)∧Mv f (Zgy f s t prev)∧ ∀p∈n.2.2.2.2.1,Wlk s t (Zgy f s t prev).2.2.1 p:=by
 unfold Zgy
 rw[hf]
 exact Zg2 C ht hk hD _ hl h hch (fun _ h=>h)
def Ziy (n:ZaA) (l:List ZbD) (s:Nat) (v:Int):Prop:=LeA l s v∧LeY l s (v+(Zci n (s:Int)).2.2.2.1)∧ ∀p∈n.2.2.2.2.1,Wlk (s:Int) v l p
theorem Ziy.mono {s:Nat} {v:Int} {g h:ZaE} (y:Mv g h) (z:Ziy n g.2.2.1 s v):Ziy n h.2.2.1 s v:=
 ⟨y.arr _ _ z.1,y.rdy _ _ z.2.1,fun p hp=>(z.2.2 p hp).mono y⟩
theorem Ziy.weak {l:List ZbD} {s:Nat} {u v:Int} (z:Ziy n l s u) (e:u≤v):Ziy n l s v:=
 ⟨z.1.weak e,z.2.1.weak (by omega),fun p hp a b=>let ⟨x,y⟩:=z.2.2 p hp a (by omega);⟨x.weak (by omega),y.weak (by omega)⟩⟩
def Clo (n:ZaA) (l:List ZbD):Prop:= ∀ (s:Nat) p,l[s]? =some p→p.2.1≠ -1→Ziy n l s p.2.1
theorem Zlj (C:Ctx n s0 t0 w) {before:List ZbD} (hbl:before.length=n.1.length) (hclo:Clo n before) {f:ZaE} (hf:f.1=n) (hS:St f) (h:Snd (Der n s0 t0 w) K f)
  (hA: ∀s t,LeA before s t→LeA f.2.2.1 s t) (hY: ∀s t,LeY before s t→LeY f.2.2.1 s t) {s:Nat} (hs:s<n.1.length):
  Snd (Der n s0 t0 w) K (ZbE before f s)∧Mv f (ZbE before f s)∧(ZbG f s≠ -1→Ziy n (ZbE before f s).2.2.1 s (ZbG f s)):=by
 have hsl:s<f.2.2.1.length:=by rw[hS.now,hf];exact hs
 have hsb:s<before.length:=by omega
 have hsp:=h.now s _ (List.getElem?_eq_getElem hsl)
 have hcb:=hclo s _ (List.getElem?_eq_getElem hsb)
 unfold ZbE ZbG
 rw[Zah hsl,Zah hsb]
 generalize f.2.2.1[s]=p at*
 generalize before[s]=b at*
 by_cases h1:p.2.1= -1
 ·rw[decide_eq_true h1]
  exact⟨h,Mv.refl f,fun e=>absurd h1 e⟩
 rw[decide_eq_false h1]
 simp only[Bool.not_false,Bool.true_and]
 cases hl:Zb1 b.2.1 p.2.1 with
 |false=>
  simp only[cond_false]
  have hno: ¬ (b.2.1= -1∨p.2.1<b.2.1):=fun e=>by rw[Zdw.2 e] at hl;cases hl
  have hc:=(hcb (by omega)).weak (v:=p.2.1) (by omega)
  exact⟨h,Mv.refl f,fun _=>⟨hA _ _ hc.1,hY _ _ hc.2.1,fun q hq a b=>let ⟨x,y⟩:=hc.2.2 q hq a b;⟨hA _ _ x,hY _ _ y⟩⟩⟩
 |true=>
  simp only[cond_true]
  obtain⟨k,hk,js,hch,hd⟩:=hsp.rid h1
  have hok:=C.ok hd
  have hcg:=C.net.change (s:Int) (by omega) (by omega)
  have hr0:0≤p.2.1:=hok.2.2.1
  have hr1:0≤p.2.1+(Zci n (s:Int)).2.2.2.1:=by omega
  rw[hf]
  have hs1:=h.imp (i:=s) (l:=p.2.2.2.2.1) ⟨k,hk,js,hch, .arrR hd⟩ ⟨k,hk,js,hch, .change hd⟩
  have hm1:=Zqn f s hr0 hr1 p.2.2.2.2.1
  have hn1:=ZmD hsl hr0 hr1 p.2.2.2.2.1
  obtain⟨w1,w2,w3⟩:=Zle C (s:=(s:Int)) (t:=p.2.1) (prev:=p.2.2.2.2.1) hr0 hk (fun q hq e1 e2=>⟨.arrV hd hq e1 e2, .rdyV hd hq e1 e2⟩) (hm1.net.trans hf) (by rw[(Ze1 ..).now,hS.now,hf]) hs1 (hm1.ch hch)
  exact⟨w1,hm1.trans w2,fun _=>⟨w2.arr _ _ hn1.1,w2.rdy _ _ hn1.2,w3⟩⟩
theorem ZlF (C:Ctx n s0 t0 w) {before:List ZbD} (hbl:before.length=n.1.length) (hclo:Clo n before): ∀ (m:Nat) {f:ZaE},f.1=n→St f→Snd (Der n s0 t0 w) K f→
  (∀s t,LeA before s t→LeA f.2.2.1 s t)→(∀s t,LeY before s t→LeY f.2.2.1 s t)→m≤n.1.length→
  Snd (Der n s0 t0 w) K (ZeI before m f)∧Mv f (ZeI before m f)∧ ∀s,s<m→ZbG f s≠ -1→Ziy n (ZeI before m f).2.2.1 s (ZbG f s)
 |0,f,_,_,h,_,_,_=>⟨h,Mv.refl f,fun s hs=>absurd hs (Nat.not_lt_zero s)⟩
 |m+1,f,hf,hS,h,hA,hY,hm=>by
  obtain⟨h1,h2,h3⟩:=ZlF C hbl hclo m hf hS h hA hY (by omega)
  obtain⟨h4,h5,h6⟩:=Zlj C hbl hclo (f:=ZeI before m f) (s:=m) (h2.net.trans hf) (hS.step (Zek before m f).1) h1 (fun s t e=>h2.arr _ _ (hA s t e)) (fun s t e=>h2.rdy _ _ (hY s t e)) (by omega)
  refine⟨h4,h2.trans h5,fun s hs=> ?_⟩
  by_cases e:s=m
  ·subst e
   rw[ZeR] at h6
   exact h6
  ·exact fun e' =>(h3 s (by omega) e').mono h5
structure Cmp (n:ZaA) (s0 t0 w:Int) (K:Nat) (now:List ZbD) (linked:List Zch):Prop where
 rdy: ∀ {k:Nat} {s r:Int} {js:List ZaP},k≤K→Der n s0 t0 w (.rdy k s r) js→LeY now s.toNat r
 rid: ∀ {k:Nat} {s r:Int} {js:List ZaP},k≤K→Der n s0 t0 w (.rid k s r) js→LeR now s.toNat r
 arr: ∀ {k:Nat} {s r:Int} {js:List ZaP},k≤K→Der n s0 t0 w (.arr k s r) js→LeA now s.toNat r
 lnk: ∀ {k i c:Nat} {js:List ZaP},k≤K+1→Der n s0 t0 w (.lnk k i c) js→LeB linked i (c:Int)
theorem ZrD (C:Ctx n s0 t0 w) {before:List ZbD} {boarded:List Zch} {g h:ZaE} (hc:Cmp n s0 t0 w K before boarded) (hA: ∀s t,LeA before s t→LeA h.2.2.1 s t) (hY: ∀s t,LeY before s t→LeY h.2.2.1 s t)
  (hbeg: ∀i,i<n.2.2.1.length→Beg n before boarded i g) (hvis: ∀ (i:Nat) b,g.2.2.2.2.1[i]? =some b→b.1≠ -1→Vis n i b.1 g) (hm:Mv g h) (hclo:Clo n h.2.2.1):
  Cmp n s0 t0 w (K+1) h.2.2.1 h.2.2.2.1:=by
 have key: ∀ {f:Zrd} {js:List ZaP},Der n s0 t0 w f js→match f with
   | .rdy k s r=>k≤K+1→LeY h.2.2.1 s.toNat r
   | .brd k i c _=>k≤K+1→LeB g.2.2.2.2.1 i (c:Int)
   | .lnk k i c=>k≤K+2→LeB h.2.2.2.1 i (c:Int)
   | .on k i c=>k≤K+1→Vst n i c g
   | .rid k s t=>k≤K+1→LeR h.2.2.1 s.toNat t
   | .arr k s t=>k≤K+1→LeA h.2.2.1 s.toNat t:=by
  have cl: ∀ {s t:Int},0≤s→LeR h.2.2.1 s.toNat t→Ziy n h.2.2.1 s.toNat t∧((s.toNat:Nat):Int)=s:=by
   rintro s t h0 ⟨p,h1,h2,h3⟩
   exact⟨(hclo _ _ h1 h2).weak h3,by omega⟩
  intro f js d
  induction d with
  |init=>exact fun _=>hY _ _ (hc.rdy (Nat.zero_le _) .init)
  |here=>exact fun _=>hA _ _ (hc.arr (Nat.zero_le _) .here)
  |rdyW h1 h2 h3=>exact fun _=>hY _ _ (hc.rdy (Nat.zero_le _) (.rdyW h1 h2 h3))
  |arrW h1 h2 h3=>exact fun _=>hA _ _ (hc.arr (Nat.zero_le _) (.arrW h1 h2 h3))
  |board d h1 h2 h3 h4 h5 h6 _=>
   intro hk
   refine((hbeg _ h1) h3).2 _ h2 h5 ?_
   rw[h4]
   exact(hc.rdy (by omega) d).weak h6
  |on d h1 h2 ih=>
   intro hk
   obtain⟨b,b1,b2,b3⟩:=ih hk
   exact hvis _ _ b1 b2 _ (by omega) h2
  |stay d h1 h2 h3 ih=>exact fun hk=>(((ih hk).2 _ _ _ h1 h2).1 rfl h3)
  |link d h1 h2 h3 h4 ih=>exact fun hk=>hm.lnk _ _ (((ih (by omega)).2 _ _ _ h2 h3).2 rfl h1 h4)
  |linked d h1 _=>exact fun hk=>((hbeg _ (C.ok d).2.1) h1).1 _ (hc.lnk hk d)
  |ride d h1 ih=>exact fun hk=>hm.rid _ _ ((ih hk).1 h1)
  |change d ih=>
   intro hk
   obtain⟨⟨_,h2,_⟩,e⟩:=cl (C.ok d).2.1.1 (ih hk)
   rw[e] at h2
   exact h2
  |rdyV d h1 h2 h3 ih=>
   intro hk
   obtain⟨⟨_,_,h4⟩,e⟩:=cl (C.ok d).2.1.1 (ih hk)
   exact(h4 _ h1 (by rw[e];exact h2) h3).2
  |arrR d ih=>exact fun hk=>(cl (C.ok d).2.1.1 (ih hk)).1.1
  |arrV d h1 h2 h3 ih=>
   intro hk
   obtain⟨⟨_,_,h4⟩,e⟩:=cl (C.ok d).2.1.1 (ih hk)
   exact(h4 _ h1 (by rw[e];exact h2) h3).1
 exact⟨fun hk d=>key d hk,fun hk d=>key d hk,fun hk d=>key d hk,fun hk d=>key d hk⟩
structure RI (n:ZaA) (s0 t0 w:Int) (K:Nat) (f:ZaE):Prop where
 net:f.1=n
 nowl:f.2.2.1.length=n.1.length
 lnkl:f.2.2.2.1.length=n.2.2.1.length
 out:Zmt n f.2.2.2.2.2.2.1
 few: ∀ks∈f.2.2.2.2.2.2.1,ks.length≤1024
 now: ∀ (s:Nat) p,f.2.2.1[s]? =some p→SP (Der n s0 t0 w) f.2.1 K (s:Int) p
 lnk: ∀ (i:Nat) b,f.2.2.2.1[i]? =some b→SL (Der n s0 t0 w) f.2.1 K i b
 cmp:Cmp n s0 t0 w K f.2.2.1 f.2.2.2.1
 clo:Clo n f.2.2.1
theorem RI.links (C:Ctx n s0 t0 w) {f:ZaE} (h:RI n s0 t0 w K f): ∀ks∈f.2.2.2.2.2.2.1,ks.length≤1024∧ ∀k∈ks,inR k n.2.2.2.1.length=true∧Zll n (lkI n k):=by
 intro ks hks
 refine⟨h.few ks hks,fun k hk=> ?_⟩
 obtain⟨i,hi,rfl⟩:=List.getElem_of_mem hks
 obtain⟨h1,h2⟩:=(h.out.2 i _ (List.getElem?_eq_getElem hi) k).1 hk
 refine⟨h1, ?_⟩
 obtain⟨i',c',j,d,st,e,hi',hj,_,_,hd,_⟩:=C.net.link _ (Zpg h1)
 rw[e]
 refine⟨?_, ?_⟩
 ·show inR (j:Int) _=true
  unfold inR;rw[Bool.and_eq_true,decide_eq_true_eq,decide_eq_true_eq];omega
 ·show inR (d:Int) (rn n (j:Int)).2.2.2.2.2.2.2.1.length=true
  have:d< (rn n (j:Int)).2.2.2.2.2.2.2.1.length:=hd
  unfold inR;rw[Bool.and_eq_true,decide_eq_true_eq,decide_eq_true_eq];omega
theorem ZoP (m:Nat):Zl5 (List.replicate m b00)=40*m:=by
 unfold Zl5
 rw[List.map_replicate,List.sum_replicate_nat]
 show m*40=_
 omega
end Q
namespace Q
open Tr Go
open Option (bind_some)
variable {n:ZaA} {s0 t0 w:Int} {K:Nat}
theorem bex {α β:Type} {o:Option α} {f:α→Option β} {Q:β→Prop} (P:α→Prop) (h: ∃r,o=some r∧P r) (k: ∀r,P r→ ∃s,f r=some s∧Q s): ∃s,Option.bind o f=some s∧Q s:=by
 obtain⟨r,rfl,hr⟩:=h
 exact k r hr
theorem Zr3 (l:List ZbD) (x:ZbD):List.take (Min.min (List.length l) (List.length (List.replicate (Int.toNat (↑(List.length l):Int)) x))) l++List.drop (Min.min (List.length l) (List.length (List.replicate (Int.toNat (↑(List.length l):Int)) x))) (List.replicate (Int.toNat (↑(List.length l):Int)) x)=l:=by simp
theorem ZsO (f:ZaE):Mv f (Zd8 f):=⟨rfl,⟨[],by simp [Zd8]⟩,fun _ _ h=>h,fun _ _ h=>h,fun _ _ h=>h,fun _ _ h=>h,fun _ _ h=>h,rfl⟩
structure OL (n:ZaA) (s0 t0 w:Int) (K:Nat) (g1 f:ZaE):Prop where
 net:f.1=n
 out:Zmt n f.2.2.2.2.2.2.1
 snd:Snd (Der n s0 t0 w) K f
 vis: ∀ (i:Nat) b,f.2.2.2.2.1[i]? =some b→b.1≠ -1→(i:Int)∈f.2.2.2.2.2.1∨Vis n i b.1 f
 mv:Mv g1 f
theorem ZtK (C:Ctx n s0 t0 w) {g1:ZaE} (f:ZaE) (i:Nat) (hS:St f) (hB:Brd f) (hi:i<f.1.2.2.1.length) (hpop:f.2.2.2.2.2.1=(Zd8 f).2.2.2.2.2.1++[(i:Int)]) (hin:inR ((f.2.2.2.2.1[i]?).getD (0,0,false,())).1 (f.1.2.2.1[i]).2.2.2.2.2.2.2.1.length=true) (h:OL n s0 t0 w K g1 f):
  OL n s0 t0 w K g1 (ZcO (Zd8 f) i):=by
 have hnet:=h.net
 have hi' :i<n.2.2.1.length:=by rw[←hnet];exact hi
 have hin' :inR (((Zd8 f).2.2.2.2.1[i]?).getD (0,0,false,())).1 (Zaw n i).length=true:=by
  rw[Ze3 hi']
  simp only[←hnet]
  exact hin
 obtain⟨h1,⟨h2,h3⟩,h4⟩:=ZoW C (f:=Zd8 f) hnet (ZlV hS hB).1 h.out ⟨h.snd.now,h.snd.brd,h.snd.lnk⟩ hi' hin'
 refine⟨h2.net.trans hnet,by rw[h2.out];exact h.out,h1,fun j b hb hne=> ?_,h.mv.trans ((ZsO f).trans h2)⟩
 rcases h3.chg j with e|e
 ·rw[e] at hb
  rcases h.vis j b hb hne with ho|hv
  ·rw[hpop,List.mem_append] at ho
   rcases ho with ho|ho
   ·exact .inl (h3.opn _ ho)
   ·simp only[List.mem_singleton,Int.natCast_inj] at ho
    subst ho
    right
    rw[hb] at h4
    exact h4
  ·exact .inr (hv.mono ((ZsO f).trans h2))
 ·exact .inl e
theorem ZpP (C:Ctx n s0 t0 w) (hp:n.2.2.2.2.1.length≤4096) {f:ZaE} (h:RI n s0 t0 w K f) (hl:f.2.1.length+4000000<4000000000):
  ∃g,F110 f f.2.2.1=some g∧RI n s0 t0 w (K+1) g∧(∃m,g.2.1=f.2.1++m)∧g.2.1.length≤f.2.1.length+4000000:=by
 have hs:=C.net.sound
 have hst:=hs.stops
 have hrn:=hs.runs
 have hlinks:=h.links C
 obtain⟨h1,h2,h3,h4,h5,h6,h7,h8,h9⟩:=h
 obtain⟨n',lb,before,linked,runs0,opn0,out,u⟩:=f
 simp only at*
 subst h1
 unfold F110
 simp only
 have hm: (Zaq:Int)=4294967296:=by simp [Zaq]
 have hg:Zap (decide ((0:Int)≤(before.length:Int)∧(before.length:Int)≤(before.length:Int)∧(before.length:Int)≤(Zaq:Int)))=some ():=by
  rw[decide_eq_true (by rw[hm];omega)];rfl
 have hub:F113 (linked.length:Int)=some (List.replicate n'.2.2.1.length b00):=by rw[h3];exact Zf1 (by omega)
 refine bex (fun _=>True) ⟨(),hg,trivial⟩ fun _ _=> ?_
 refine bex (fun r=>r=List.replicate n'.2.2.1.length b00) ⟨_,hub,rfl⟩ ?_
 rintro _ rfl
 refine bex (fun r=>r=List.replicate n'.2.2.1.length b00) ⟨_,hub,rfl⟩ ?_
 rintro _ rfl
 erw[Zr3]
 generalize hf0: ((n',lb,before,List.replicate n'.2.2.1.length b00,List.replicate n'.2.2.1.length b00,[],out,()):ZaE)=f0
 have hS0:St f0:=by rw[←hf0];exact⟨hs,h2,by simp,by simp,h4.1,hlinks⟩
 have e1:f0.1=n' :=by rw[←hf0]
 have e2:f0.2.1=lb:=by rw[←hf0]
 have e3:f0.2.2.1=before:=by rw[←hf0]
 have e4:f0.2.2.2.1=List.replicate n'.2.2.1.length b00:=by rw[←hf0]
 have e5:f0.2.2.2.2.1=List.replicate n'.2.2.1.length b00:=by rw[←hf0]
 have e6:f0.2.2.2.2.2.1=[]:=by rw[←hf0]
 have e7:f0.2.2.2.2.2.2.1=out:=by rw[←hf0]
 have hrep: ∀ {i:Nat} {b:Zch},(List.replicate n'.2.2.1.length b00)[i]? =some b→b=b00:=by
  intro i b hb
  exact List.eq_of_mem_replicate (List.mem_of_getElem? hb)
 have hB0:Brd f0:=⟨fun b hb=>by rw[e5] at hb;rw[List.eq_of_mem_replicate hb];exact .inl rfl,fun r hr=>by rw[e6] at hr;cases hr⟩
 have hF0:Zfi f0≤81920:=by unfold Zfi;rw[e5,e6,ZoP];simp only[List.length_nil];omega
 have hN0:Snd (Der n' s0 t0 w) (K+1) f0:=
  ⟨fun s p hq=>by rw[e3] at hq;rw[e2];exact(h6 s p hq).weak (Nat.le_succ K),fun i b hb=>(by rw[e5] at hb;rw[hrep hb];exact fun e=>absurd rfl e),fun i b hb=>(by rw[e4] at hb;rw[hrep hb];exact fun e=>absurd rfl e)⟩
 have hbv:=Zri (before:=before) (boarded:=linked) hS0 (by rw[e1];exact h2) (by rw[e1];exact h3) (by rw[e6];simp)
 have hbd: ∀i,(hi:i<f0.1.2.2.1.length)→((linked[i]?).getD (0,0,false,())).1= -1∨inR ((linked[i]?).getD (0,0,false,())).1 (f0.1.2.2.1[i]).2.2.2.2.2.2.2.1.length=true:=by
  intro i hi
  have hi' :i<n'.2.2.1.length:=by rw[←e1];exact hi
  have hil:i<linked.length:=by omega
  rw[Zah hil]
  have hx:=h7 i _ (List.getElem?_eq_getElem hil)
  by_cases hz: (linked[i]).1= -1
  ·exact .inl hz
  right
  obtain⟨_,k,hk,c,hc,js,hch,hd⟩:=hx hz
  have:=(C.ok hd).2.2
  rw[Ze3 hi'] at this
  have e:f0.1.2.2.1[i]=n'.2.2.1[i]:=by simp only[e1]
  rw[hc,e]
  unfold inR;rw[Bool.and_eq_true,decide_eq_true_eq,decide_eq_true_eq];omega
 have hlen1:f0.1.2.2.1.length=n'.2.2.1.length:=by rw[e1]
 rw[hlen1] at hbv
 obtain⟨b1,b2⟩:=Zin (before:=before) n'.2.2.1.length hS0 hB0 (by rw[hlen1];omega) hbd
 obtain⟨b3,b4⟩:=Zcv (before:=before) (boarded:=linked) n'.2.2.1.length hS0 (by rw[hlen1];omega)
 obtain⟨b5,⟨b6,b6'⟩,b7⟩:=Zi4 C h2 h3 n'.2.2.1.length e1 hS0 (by rw[e2];exact h6) (by rw[e2];exact h7) hN0 (Nat.le_refl _)
 refine bex (fun r=>r=ZcB before linked n'.2.2.1.length f0) ⟨_, ?_,rfl⟩ ?_
 ·rw[e1] at hbv
  exact hbv
 rintro _ rfl
 generalize hg1:ZcB before linked n'.2.2.1.length f0=g1 at*
 have hO1:OL n' s0 t0 w (K+1) g1 g1:=⟨b6.net.trans e1,by rw[b6.out,e7];exact h4,b5,fun i b hb hne=> ?_,Mv.refl g1⟩
 rotate_left
 ·rcases b6'.chg i with e|e
  ·rw[e,e5] at hb
   rw[hrep hb] at hne
   exact absurd rfl hne
  ·exact .inl e
 obtain⟨g,g2,g3,g4,g5,g6,g7,g8,g9⟩:=ZlN (OL n' s0 t0 w (K+1) g1) (ZtK C) 81920 (f:=g1) (by omega) (hS0.step b3) b1 hO1 (by rw[b4,e2];omega) (by omega)
 refine bex (fun r=>r=g) ⟨_,g2,rfl⟩ fun x hx=> ?_
 rw[hx]
 have hlb1:g1.2.1.length=lb.length:=by rw[b4,e2]
 have hmv:=b6.trans g5.mv
 have hgn:g.1=n' :=g5.net
 have hA: ∀s t,LeA before s t→LeA g.2.2.1 s t:=fun s t e=>hmv.arr s t (by rw[e3];exact e)
 have hY: ∀s t,LeY before s t→LeY g.2.2.1 s t:=fun s t e=>hmv.rdy s t (by rw[e3];exact e)
 have hnl:g.2.2.1.length=n'.1.length:=by rw[g3.now,hgn]
 obtain⟨l1,l2,l3⟩:=ZlF C h2 h9 g.2.2.1.length hgn g3 g5.snd hA hY (by omega)
 have lh:=Zek before g.2.2.1.length g
 have hlv:=ZpJ g3 (by rw[h2,hnl]) (fun j hj=> ?_) (fun s hs' => ?_) (by omega) (by rw[hgn];exact hp) (fun q hq=> ?_) (before:=before)
 rotate_left
 ·unfold ZbG
  rw[Zah hj]
  by_cases hz: (g.2.2.1[j]).2.1= -1
  ·exact .inl hz
  right
  obtain⟨k,_,js,_,hd⟩:=(g5.snd.now j _ (List.getElem?_eq_getElem hj)).rid hz
  exact(C.ok hd).2.2
 ·rw[hgn] at hs' ⊢
  exact C.net.change (s:Int) (by omega) (by omega)
 ·rw[hgn] at hq ⊢
  have:=C.net.path q hq
  exact⟨this.2.1.1,this.2.1.2,by omega,by omega⟩
 refine bex (fun y=>y=ZeI before g.2.2.1.length g) ⟨_,hlv,rfl⟩ ?_
 rintro _ rfl
 have hmn:g.2.2.1.length*g.1.2.2.2.2.1.length≤64*4096:=Nat.mul_le_mul (by omega) (by rw[hgn];exact hp)
 have hclo:Clo n' (ZeI before g.2.2.1.length g).2.2.1:=by
  intro s q hq hne
  have hsl:=(List.getElem?_eq_some_iff.1 hq).1
  have e:ZbG (ZeI before g.2.2.1.length g) s=q.2.1:=by unfold ZbG;rw[hq];rfl
  rw[ZeR] at e
  have:=l3 s (by rw[lh.1.now] at hsl;exact hsl) (by rw[e];exact hne)
  rw[e] at this
  exact this
 have hm0:=hmv.trans l2
 refine⟨_,rfl,⟨l2.net.trans hgn,by rw[lh.1.now,hnl],by rw[lh.1.linked,g3.linked,hgn],by rw[l2.out,hmv.out,e7];exact h4,by rw[l2.out,hmv.out,e7];exact h5,l1.now,l1.lnk, ?_,hclo⟩, ?_, ?_⟩
 ·refine ZrD C h8 (fun s t e=>l2.arr _ _ (hA s t e)) (fun s t e=>l2.rdy _ _ (hY s t e)) (fun i hi=>(b7 i hi).mono g5.mv) (fun i b hb hne=> ?_) l2 hclo
  rcases g5.vis i b hb hne with e|e
  ·rw[g6] at e;cases e
  ·exact e
 ·obtain⟨m,hm'⟩:=hm0.lab
  exact⟨m,by rw[hm',e2]⟩
 ·have:=lh.2
  omega
end Q
