/- filter: usable runs, open stops, the allowed network; queries. Conditions: the network is valid, its lists are short. -/
import Derived.KernelRfl
import Derived.Test.YtibiblkamaajeaaGreatJLwJa2841
import Derived.Test.YtibiblkamaajeaaGreatTsF
namespace Q
open Tr Go
theorem run_list {α β τ:Type} {step:List β×Int→Option ((List β×Int) ⊕ τ)} (l:List α) (f:α→List β) (R:List β→τ)
  (hstep: ∀i (hi:i<l.length),step ((l.take i).flatMap f,(i:Int))=some (.inl ((l.take i).flatMap f++f l[i],((i+1:Nat):Int))))
  (hend:step (l.flatMap f,(l.length:Int))=some (.inr (R (l.flatMap f)))):run step ([],(0:Int))=some (R (l.flatMap f)):=by
 refine Exists.elim (run_for (step:=step) l.length (fun r=>r=R (l.flatMap f)) (fun i st=>st=((l.take i).flatMap f,(i:Int))) ?_ ?_ ([],(0:Int)) (by simp)) ?_
 ·rintro i _ hi rfl
  left
  refine⟨_,hstep i hi, ?_⟩
  rw[List.take_succ_eq_append_getElem hi,List.flatMap_append]
  simp
 ·rintro _ rfl
  rw[List.take_length]
  exact⟨_,hend,rfl⟩
 ·rintro r ⟨h1,rfl⟩
  exact h1
theorem flat_map {α β:Type} (f:α→β) (l:List α):l.flatMap (fun x=>[f x])=l.map f:=by
 induction l with
 |nil=>rfl
 |cons x l ih=>simp [ih]
theorem flat_few {α β:Type} {f:α→List β} (hf: ∀x,(f x).length≤1) (l:List α): (l.flatMap f).length≤l.length:=by
 induction l with
 |nil=>simp
 |cons x l ih=>have:=hf x;simp;simp at ih;omega
abbrev QueT:=Int×Int×Int×Bool×Int×Int×Bool×Bool×Int×Bool×Unit
def roOf (n:NetT) (r:RunT):RouteT:=(n.2.1[r.2.2.2.2.1.toNat]?).getD r0
def useR (n:NetT) (q:QueT) (r:RunT):Bool:=Tr.useB q r (roOf n r)
def s0:StopT:=([],0,false,0,())
def stOf (n:NetT) (s:Int):StopT:=(n.1[s.toNat]?).getD s0
def opnS (n:NetT) (q:QueT) (s:Int):Bool:=(stOf n s).2.2.1|| !q.2.2.2.2.2.2.1
def closeC (n:NetT) (q:QueT) (c:CallT):CallT:=if opnS n q c.1 then c else(c.1,c.2.1,c.2.2.1,false,false,())
theorem ro_idx {n:NetT} (hS:Sound n) {r:RunT} (hr:r∈n.2.2.1):Tr.idx n.2.1 r.2.2.2.2.1=some (roOf n r)∧roOf n r∈n.2.1:=by
 have h:=hS.route _ hr
 have hi:inR r.2.2.2.2.1 n.2.1.length=true:=by simp [inR];omega
 refine⟨idx_int hi r0, ?_⟩
 unfold roOf
 rw[getD_of (show r.2.2.2.2.1.toNat<n.2.1.length by omega)]
 exact List.getElem_mem _
theorem use_val {n:NetT} (hS:Sound n) (q:QueT) {r:RunT} (hr:r∈n.2.2.1):F10 n q r=some (useR n q r):=by
 obtain⟨h1,h2⟩:=ro_idx hS hr
 have hm:=(hS.mode _ h2).1
 unfold F10 Tr.useF
 rw[h1]
 simp only[Option.bind_some,show decide ((0:Int)≤(roOf n r).2.1)=true from decide_eq_true hm,Bool.or_true,cond_true]
 rfl
theorem st_idx {n:NetT} (hS:Sound n) {r:RunT} (hr:r∈n.2.2.1) {c:CallT} (hc:c∈r.2.2.2.2.2.2.2.1):Tr.idx n.1 c.1=some (stOf n c.1):=by
 have h:=hS.call _ hr _ hc
 exact idx_int (show inR c.1 n.1.length=true by simp [inR];omega) s0
theorem open_val {n:NetT} (q:QueT) {s:Int} (h:Tr.idx n.1 s=some (stOf n s)):F9 n q s=some (opnS n q s):=by
 unfold F9
 rw[h]
 simp only[Option.bind_some]
 unfold opnS
 cases (stOf n s).2.2.1<;>rfl
theorem closed_val {n:NetT} (hS:Sound n) (q:QueT) {r:RunT} (hr:r∈n.2.2.1):F8 n q r.2.2.2.2.2.2.2.1=some (r.2.2.2.2.2.2.2.1.map (closeC n q)):=by
 have hl:=(hS.many _ hr).2
 unfold F8
 rw[run_list r.2.2.2.2.2.2.2.1 (fun c=>[closeC n q c]) id ?_ ?_]
 ·simp only[Option.bind_some,id,flat_map,List.length_map]
  generalize hm:r.2.2.2.2.2.2.2.1.map (closeC n q)=m
  have hlen:m.length=r.2.2.2.2.2.2.2.1.length:=by rw[←hm,List.length_map]
  rw[←hlen]
  have e1:Tr.inb (m.length:Int) (m.length+1)=some m.length:=by
   unfold Tr.inb;rw[if_pos (by omega)];simp
  have e2:Tr.sliceB m.length m.length none (some (m.length:Int))=some (0,m.length):=by
   unfold Tr.sliceB
   simp only[if_pos (show (0:Int)≤(m.length:Int)∧(m.length:Int)≤(m.length:Int) from ⟨by omega,by omega⟩),Option.bind_some,Int.toNat_natCast]
  rw[e1]
  simp only[Option.bind_some]
  rw[e2]
  simp
 ·intro i hi
  have hc:=List.getElem_mem hi
  simp only[lt_dec hi,cond_true,idx_nat hi,Option.bind_some]
  rw[open_val q (st_idx hS hr hc)]
  have hb:=flat_few (f:=fun c=>[closeC n q c]) (by simp) (r.2.2.2.2.2.2.2.1.take i)
  rw[List.length_take] at hb
  simp only[Option.bind_some]
  have e: (bif !opnS n q (r.2.2.2.2.2.2.2.1[i]).1 then some (((r.2.2.2.2.2.2.2.1[i]).1,(r.2.2.2.2.2.2.2.1[i]).2.1,(r.2.2.2.2.2.2.2.1[i]).2.2.1,false,false,(r.2.2.2.2.2.2.2.1[i]).2.2.2.2.2):CallT) else some r.2.2.2.2.2.2.2.1[i])=some (closeC n q r.2.2.2.2.2.2.2.1[i]):=by
   unfold closeC
   cases opnS n q (r.2.2.2.2.2.2.2.1[i]).1<;>rfl
  erw[e]
  simp only[Option.bind_some]
  rw[guard_app (by simp;simp at hb;omega),wrap_succ hi (by omega)]
  rfl
 ·simp only[nlt_dec,cond_false];rfl
structure Few (n:NetT):Prop where
 stops:n.1.length≤4096
 routes:n.2.1.length≤4096
 runs:n.2.2.1.length≤4096
 links:n.2.2.2.1.length≤4096
 paths:n.2.2.2.2.1.length≤4096
 prods:n.2.2.2.2.2.1.1.length≤4096
 calls: ∀r∈n.2.2.1,r.2.2.2.2.2.2.2.1.length≤4096
theorem fresh_eq {α:Type} (l:List α) (h:l.length≤4096): (Option.bind (guardB (decide (List.length ([]:List Unit)+List.length l≤maxApp))) fun _=>
 Option.bind (Tr.inb (↑(List.length ([]++l)):Int) (List.length ([]++l)+(1:Nat))) fun x1=>
 Option.bind (Tr.sliceB (List.length ([]++l)) x1 none (some (↑(List.length ([]++l)):Int))) fun x2=>some (List.take x2.2 ([]++l)))=some l:=by
 have e0:guardB (decide (List.length ([]:List Unit)+List.length l≤maxApp))=some ():=by
  unfold guardB maxApp
  rw[decide_eq_true (show List.length ([]:List Unit)+List.length l≤2 ^ 32 by simp;omega)];rfl
 have e1:Tr.inb (l.length:Int) (l.length+1)=some l.length:=by
  unfold Tr.inb;rw[if_pos (by omega)];simp
 have e2:Tr.sliceB l.length l.length none (some (l.length:Int))=some (0,l.length):=by
  unfold Tr.sliceB
  simp only[if_pos (show (0:Int)≤(l.length:Int)∧(l.length:Int)≤(l.length:Int) from ⟨by omega,by omega⟩),Option.bind_some,Int.toNat_natCast]
 rw[e0]
 simp only[Option.bind_some,List.nil_append]
 rw[e1]
 simp only[Option.bind_some]
 rw[e2]
 simp
theorem clone_val {n:NetT} (h:Few n):F40 n=some n:=by
 unfold F40
 have hs:F51 n.1=some n.1:=fresh_eq n.1 h.stops
 have hro:F49 n.2.1=some n.2.1:=fresh_eq n.2.1 h.routes
 have hru:F50 n.2.2.1=some n.2.2.1:=fresh_eq n.2.2.1 h.runs
 have hli:F47 n.2.2.2.1=some n.2.2.2.1:=fresh_eq n.2.2.2.1 h.links
 have hpa:F46 n.2.2.2.2.1=some n.2.2.2.2.1:=fresh_eq n.2.2.2.2.1 h.paths
 have hpr:F48 n.2.2.2.2.2.1.1=some n.2.2.2.2.2.1.1:=fresh_eq n.2.2.2.2.2.1.1 h.prods
 rw[hs,hro,hru,hli,hpa]
 simp only[Option.bind_some]
 refine bind_of (fun r:NetT=>r=(n.1,n.2.1,n.2.2.1,n.2.2.2.1,n.2.2.2.2.1,n.2.2.2.2.2.1,())) (run_for n.2.2.1.length _ (fun i (st:NetT×Int)=>st=((n.1,n.2.1,n.2.2.1,n.2.2.2.1,n.2.2.2.2.1,n.2.2.2.2.2.1,()),(i:Int))) ?_ ?_ _ rfl) ?_
 ·rintro i _ hi rfl
  left
  have hc:F45 (n.2.2.1[i]).2.2.2.2.2.2.2.1=some (n.2.2.1[i]).2.2.2.2.2.2.2.1:=fresh_eq _ (h.calls _ (List.getElem_mem hi))
  simp only[lt_dec hi,cond_true,inb_nat hi,Option.bind_some,List.getElem?_eq_getElem hi,hc]
  refine⟨_,rfl, ?_⟩
  rw[wrap_succ hi (by have:=h.runs;omega)]
  have e:List.set n.2.2.1 i ((n.2.2.1[i]).1,(n.2.2.1[i]).2.1,(n.2.2.1[i]).2.2.1,(n.2.2.1[i]).2.2.2.1,(n.2.2.1[i]).2.2.2.2.1,(n.2.2.1[i]).2.2.2.2.2.1,(n.2.2.1[i]).2.2.2.2.2.2.1,(n.2.2.1[i]).2.2.2.2.2.2.2.1,(n.2.2.1[i]).2.2.2.2.2.2.2.2)=n.2.2.1:=List.set_getElem_self hi
  erw[e]
 ·rintro _ rfl
  exact⟨_,by simp only[nlt_dec,cond_false],rfl⟩
 ·rintro _ rfl
  rw[hpr]
  rfl
def allowR (n:NetT) (q:QueT) (r:RunT):RunT:=(r.1,r.2.1,r.2.2.1,r.2.2.2.1,r.2.2.2.2.1,r.2.2.2.2.2.1, !useR n q r,r.2.2.2.2.2.2.2.1.map (closeC n q),())
def pathsA (n:NetT) (q:QueT):List Foot:=if q.2.2.2.2.2.2.1 then n.2.2.2.2.1.filter (fun p=>p.2.2.2.1) else n.2.2.2.2.1
def allowA (n:NetT) (q:QueT):NetT:=(n.1,n.2.1,n.2.2.1.map (allowR n q),n.2.2.2.1,pathsA n q,n.2.2.2.2.2.1,())
def runsAt (n:NetT) (q:QueT) (i:Nat):List RunT:=(n.2.2.1.take i).map (allowR n q)++n.2.2.1.drop i
theorem runsAt_len (n:NetT) (q:QueT) {i:Nat} (hi:i≤n.2.2.1.length): (runsAt n q i).length=n.2.2.1.length:=by
 simp [runsAt];omega
theorem runsAt_get (n:NetT) (q:QueT) {i:Nat} (hi:i<n.2.2.1.length): (runsAt n q i)[i]? =some n.2.2.1[i]:=by
 unfold runsAt
 rw[List.getElem?_append_right (by simp;omega)]
 simp only[List.length_map,List.length_take,Nat.min_eq_left (Nat.le_of_lt hi),Nat.sub_self,List.getElem?_drop,Nat.add_zero]
 exact List.getElem?_eq_getElem hi
theorem runsAt_set (n:NetT) (q:QueT) {i:Nat} (hi:i<n.2.2.1.length): (runsAt n q i).set i (allowR n q n.2.2.1[i])=runsAt n q (i+1):=by
 unfold runsAt
 have hlen: ((n.2.2.1.take i).map (allowR n q)).length=i:=by simp;omega
 rw[List.set_append_right _ _ (by omega),hlen,Nat.sub_self,List.drop_eq_getElem_cons hi,List.set_cons_zero,List.take_succ_eq_append_getElem hi,List.map_append]
 simp
theorem allowed_val {n:NetT} (hS:Sound n) (hF:Few n) (q:QueT) (hq:F5 n q=some 0):F7 n q=some (allowA n q,0):=by
 unfold F7
 rw[hq]
 simp only[Option.bind_some,decide_true,Bool.not_true,cond_false]
 rw[clone_val hF]
 simp only[Option.bind_some]
 refine bind_of (fun r:NetT=>r=(n.1,n.2.1,n.2.2.1.map (allowR n q),n.2.2.2.1,n.2.2.2.2.1,n.2.2.2.2.2.1,())) (run_for n.2.2.1.length _ (fun i (st:NetT×Int)=>st=((n.1,n.2.1,runsAt n q i,n.2.2.2.1,n.2.2.2.2.1,n.2.2.2.2.2.1,()),(i:Int))) ?_ ?_ _ (by simp [runsAt])) ?_
 ·rintro i _ hi rfl
  left
  have hr:=List.getElem_mem hi
  have hl:=runsAt_len n q (Nat.le_of_lt hi)
  have hi' :i< (runsAt n q i).length:=by omega
  simp only[lt_dec hi,cond_true,idx_nat hi,Option.bind_some,use_val hS q hr,inb_nat hi',runsAt_get n q hi,closed_val hS q hr]
  refine⟨_, ?_,rfl⟩
  rw[wrap_succ hi (by have:=hF.runs;omega)]
  have hi2:i< ((runsAt n q i).set i ((n.2.2.1[i]).1,(n.2.2.1[i]).2.1,(n.2.2.1[i]).2.2.1,(n.2.2.1[i]).2.2.2.1,(n.2.2.1[i]).2.2.2.2.1,(n.2.2.1[i]).2.2.2.2.2.1, !useR n q n.2.2.1[i],(n.2.2.1[i]).2.2.2.2.2.2.2)).length:=by rw[List.length_set];exact hi'
  erw[inb_nat hi2]
  simp only[Option.bind_some]
  erw[List.getElem?_set_self hi']
  simp only[Option.bind_some]
  erw[List.set_set]
  congr 2
  have:=runsAt_set n q hi
  rw[←this]
  rfl
 ·rintro _ rfl
  refine⟨_,by simp only[nlt_dec,cond_false];rfl, ?_⟩
  simp [runsAt]
 ·rintro _ rfl
  unfold allowA pathsA
  cases hsf:q.2.2.2.2.2.2.1 with
  |false=>rfl
  |true=>
   simp only[cond_true,if_true]
   refine bind_of (fun r:NetT=>r=(n.1,n.2.1,n.2.2.1.map (allowR n q),n.2.2.2.1,n.2.2.2.2.1.filter (fun p=>p.2.2.2.1),n.2.2.2.2.2.1,())) (run_for n.2.2.2.2.1.length _ (fun i (st:NetT×Int)=>st=((n.1,n.2.1,n.2.2.1.map (allowR n q),n.2.2.2.1,(n.2.2.2.2.1.take i).filter (fun p=>p.2.2.2.1),n.2.2.2.2.2.1,()),(i:Int))) ?_ ?_ _ (by simp)) ?_
   ·rintro i _ hi rfl
    left
    have hb:=List.length_filter_le (fun p:Foot=>p.2.2.2.1) (n.2.2.2.2.1.take i)
    rw[List.length_take] at hb
    have hp:=hF.paths
    simp only[lt_dec hi,cond_true,idx_nat hi,Option.bind_some]
    rw[wrap_succ hi (by omega),List.take_succ_eq_append_getElem hi,List.filter_append]
    cases hv: (n.2.2.2.2.1[i]).2.2.2.1 with
    |false=>
     refine⟨_,rfl, ?_⟩
     simp [hv]
    |true=>
     simp only[cond_true]
     rw[guard_app (by simp;omega)]
     refine⟨_,rfl, ?_⟩
     simp [hv]
   ·rintro _ rfl
    refine⟨_,by simp only[nlt_dec,cond_false];rfl, ?_⟩
    rw[List.take_length]
   ·rintro _ rfl
    rfl
def qB (k:Nat) (q:QueT):Bool:=inR q.1 k&& (inR q.2.1 k&& (decide (0≤q.2.2.1∧q.2.2.1≤3155932800) && (decide (0≤q.2.2.2.2.1∧q.2.2.2.2.1≤8) && (decide (0≤q.2.2.2.2.2.1∧q.2.2.2.2.2.1≤86400) && (decide (0≤q.2.2.2.2.2.2.2.2.1∧q.2.2.2.2.2.2.2.2.1≤255) && !(q.2.2.2.2.2.2.2.2.2.1&&q.2.2.2.1))))))
theorem withinQ_val (x a b:Int):F6 x a b=some (decide (a≤x∧x≤b)):=in_val x a b
theorem inQ_val (x a b:Int):F73 x a b=some (decide (a≤x∧x≤b)):=in_val x a b
theorem inRQ_val (x:Int) {m:Nat} (hm:m≤9223372036854775807):F73 x 0 (IntKind.wrap .i64 ((m:Int) - 1))=some (inR x m):=inR_val x hm
theorem validQ_val (k:Nat) (hk:k≤9223372036854775807) (q:QueT):F72 (k:Int) q=some (qB k q):=by
 unfold F72 qB
 simp only[inQ_val]
 rw[show decide ((0:Int)≤q.1∧q.1≤IntKind.wrap .i64 ((k:Int) - 1))=inR q.1 k from Option.some.inj ((inQ_val _ _ _).symm.trans (inRQ_val q.1 hk)),show decide ((0:Int)≤q.2.1∧q.2.1≤IntKind.wrap .i64 ((k:Int) - 1))=inR q.2.1 k from Option.some.inj ((inQ_val _ _ _).symm.trans (inRQ_val q.2.1 hk))]
 simp only[Option.bind_some]
 generalize inR q.1 k=b1
 generalize inR q.2.1 k=b2
 generalize decide ((0:Int)≤q.2.2.1∧q.2.2.1≤3155932800)=b3
 generalize decide ((0:Int)≤q.2.2.2.2.1∧q.2.2.2.2.1≤8)=b4
 generalize decide ((0:Int)≤q.2.2.2.2.2.1∧q.2.2.2.2.2.1≤86400)=b5
 generalize decide ((0:Int)≤q.2.2.2.2.2.2.2.2.1∧q.2.2.2.2.2.2.2.2.1≤255)=b6
 generalize q.2.2.2.2.2.2.2.2.2.1=b7
 generalize q.2.2.2.1=b8
 cases b1<;>try rfl
 cases b2<;>try rfl
 cases b3<;>try rfl
 cases b4<;>try rfl
 cases b5<;>try rfl
 cases b6<;>try rfl
 cases b7<;>cases b8<;>rfl
open Classical in
noncomputable def chkQ (n:NetT) (q:QueT):Int:=if Whole n then(if qB n.1.length q=true then 0 else 22) else 21
theorem chkQ_zero {n:NetT} {q:QueT} :chkQ n q=0↔Whole n∧qB n.1.length q=true:=by
 unfold chkQ
 split
 ·next h=>split<;>simp_all
 ·next h=>simp [h]
open Classical in
theorem valid_whole {n:NetT} (h:Fit n):F62 n=some (decide (Whole n)):=by
 obtain⟨r,_,h2,h3⟩:=check_iff n h
 unfold F62
 rw[h2]
 simp only[Option.bind_some]
 congr 1
 exact decide_eq_decide.2 h3
open Classical in
theorem chkQ_ref {n:NetT} (h:Fit n) (q:QueT):F71 n q=some (chkQ n q):=by
 unfold F71 chkQ
 rw[valid_whole h]
 simp only[Option.bind_some]
 by_cases hW:Whole n
 ·rw[decide_eq_true hW,if_pos hW]
  have hs:=hW.sound.stops
  simp only[Bool.not_true,cond_false]
  rw[validQ_val n.1.length (by omega)]
  simp only[Option.bind_some]
  cases qB n.1.length q<;>rfl
 ·rw[decide_eq_false hW,if_neg hW];rfl
theorem chkQ_code {n:NetT} (h:Fit n) (q:QueT):F5 n q=some (chkQ n q):=by
 obtain⟨r,h1,_,h3⟩:=check_iff n h
 unfold F5 chkQ
 rw[h1]
 simp only[Option.bind_some]
 by_cases hW:Whole n
 ·rw[decide_eq_true (h3.2 hW),if_pos hW]
  have hk:n.1.length≤9223372036854775807:=by have:=hW.sound.stops;omega
  simp only[Bool.not_true,cond_false,withinQ_val]
  rw[show decide ((0:Int)≤q.1∧q.1≤IntKind.wrap .i64 ((n.1.length:Int) - 1))=inR q.1 n.1.length from Option.some.inj ((inQ_val _ _ _).symm.trans (inRQ_val q.1 hk)),show decide ((0:Int)≤q.2.1∧q.2.1≤IntKind.wrap .i64 ((n.1.length:Int) - 1))=inR q.2.1 n.1.length from Option.some.inj ((inQ_val _ _ _).symm.trans (inRQ_val q.2.1 hk))]
  unfold qB
  simp only[Option.bind_some]
  generalize inR q.1 n.1.length=b1
  generalize inR q.2.1 n.1.length=b2
  generalize decide ((0:Int)≤q.2.2.1∧q.2.2.1≤3155932800)=b3
  generalize decide ((0:Int)≤q.2.2.2.2.1∧q.2.2.2.2.1≤8)=b4
  generalize decide ((0:Int)≤q.2.2.2.2.2.1∧q.2.2.2.2.2.1≤86400)=b5
  generalize decide ((0:Int)≤q.2.2.2.2.2.2.2.2.1∧q.2.2.2.2.2.2.2.2.1≤255)=b6
  generalize q.2.2.2.2.2.2.2.2.2.1=b7
  generalize q.2.2.2.1=b8
  cases b1<;>try rfl
  cases b2<;>try rfl
  cases b3<;>try rfl
  cases b4<;>try rfl
  cases b5<;>try rfl
  cases b6<;>try rfl
  cases b7<;>cases b8<;>rfl
 ·rw[decide_eq_false (fun e=>hW (h3.1 e)),if_neg hW];rfl
theorem closedB_eq {c l:List Foot} (h:closedB c l=true):c=l:=by
 unfold closedB at h
 rw[Bool.and_eq_true,decide_eq_true_eq,Option.isNone_iff_eq_none] at h
 obtain⟨h1,h2⟩:=h
 have h2:=firstBad_iff.1 h2
 refine List.ext_getElem h1 fun i hi hi' => ?_
 have:=h2 i hi
 unfold eqF at this
 rw[getD_of hi,getD_of hi'] at this
 have hs:sameF c[i] l[i]=true:=by
  by_cases hs:sameF c[i] l[i]=true
  ·exact hs
  ·rw[if_neg hs] at this;simp at this
 unfold sameF at hs
 simp only[Bool.and_eq_true,decide_eq_true_eq,beq_iff_eq] at hs
 exact Prod.ext hs.1 (Prod.ext hs.2.1 (Prod.ext hs.2.2.1 (Prod.ext hs.2.2.2 rfl)))
theorem closedB_self (l:List Foot):closedB l l=true:=by
 unfold closedB
 rw[Bool.and_eq_true,decide_eq_true_eq,Option.isNone_iff_eq_none]
 refine⟨rfl,firstBad_iff.2 fun i hi=> ?_⟩
 unfold eqF sameF
 simp
theorem path_iff {k:Nat} {l:List Foot} : (∀i,i<l.length→pathF k l i=0)↔(∀p∈l,pathB1 k p=false∧pathB2 p=false)∧l.Pairwise fun a b=>pathK a≠pathK b:=by
 constructor
 ·intro h
  refine⟨fun p hp=> ?_,List.pairwise_iff_getElem.2 fun i j hi hj hij e=> ?_⟩
  ·obtain⟨i,hi,rfl⟩:=List.getElem_of_mem hp
   have:=pathF_zero (h i hi)
   rw[getD_of hi] at this
   exact⟨this.1,this.2.1⟩
  ·have:=(pathF_zero (h j hj)).2.2
   refine this ⟨i,hij, ?_⟩
   rw[getD_of hi,getD_of hj];exact e
 ·rintro ⟨h1,h2⟩ i hi
  obtain⟨a,b⟩:=h1 _ (List.getElem_mem hi)
  unfold pathF
  rw[getD_of hi,if_neg (by rw[a];simp),if_neg (by rw[b];simp),if_neg]
  rintro ⟨j,hj,e⟩
  rw[getD_of (show j<l.length by omega)] at e
  exact List.pairwise_iff_getElem.1 h2 j i (by omega) hi hj e
theorem filter_flat {α β:Type} (p:β→Bool) (f:α→List β) (l:List α): (l.flatMap f).filter p=l.flatMap fun x=>(f x).filter p:=by
 induction l with
 |nil=>rfl
 |cons x l ih=>simp [List.filter_append,ih]
theorem item_free (a b:Nat) (d f:Int): (itemC a b d f).filter (fun p=>p.2.2.2.1)=itemC a b f f:=by
 unfold itemC
 by_cases h:f=d
 ·subst h
  rw[if_pos rfl,List.append_nil]
  split<;>simp
 ·rw[if_neg h,if_pos rfl,List.append_nil,List.filter_append]
  have e1: (if 0<d∧d≤14400 then [((a:Int),(b:Int),d,decide (f=d),())] else []).filter (fun p:FootS=>p.2.2.2.1)=[]:=by
   split<;>simp [h]
  rw[e1]
  split<;>simp
theorem allL_free (it:Nat→Nat→List FootS) (n m:Nat): (allL it n m).filter (fun p=>p.2.2.2.1)=allL (fun a b=>(it a b).filter (fun p=>p.2.2.2.1)) n m:=by
 unfold allL rowL
 rw[filter_flat]
 congr 1;funext a
 rw[filter_flat]
 congr 1;funext b
 split<;>rfl
theorem free_closed {k:Nat} (hk:k≤64) {l:List Foot} (hl:l.length≤4096) (hz: ∀i,i<l.length→pathF k l i=0) (hc: ∀c,F59 l (k:Int)=some c→closedB c l=true):
  (∀i,i< (l.filter fun p=>p.2.2.2.1).length→pathF k (l.filter fun p=>p.2.2.2.1) i=0)∧ ∀c,F59 (l.filter fun p=>p.2.2.2.1) (k:Int)=some c→closedB c (l.filter fun p=>p.2.2.2.1)=true:=by
 obtain⟨z1,z2⟩:=path_iff.1 hz
 have hz' : ∀i,i< (l.filter fun p=>p.2.2.2.1).length→pathF k (l.filter fun p=>p.2.2.2.1) i=0:=path_iff.2 ⟨fun p hp=>z1 p (List.mem_filter.1 hp).1,z2.filter _⟩
 refine⟨hz',fun c h=> ?_⟩
 have hF:=fok_of hz
 have hF' :=fok_of hz'
 have hl' : (l.filter fun p=>p.2.2.2.1).length≤4096:=Nat.le_trans (List.length_filter_le _ _) hl
 obtain⟨c0,a1,a2,_⟩:=closed_same hk hF hl
 obtain⟨c1,b1,b2,_⟩:=closed_same hk hF' hl'
 have v0:=closure_val hk hF hl (fun a b=>(dist_le hF a b).imp id fun h=>h.2)
 have v1:=closure_val hk hF' hl' (fun a b=>(dist_le hF' a b).imp id fun h=>h.2)
 rw[a1] at v0
 rw[b1] at v1
 have e0:=closedB_eq (hc c0 a2)
 obtain rfl:c1=c:=Option.some.inj (b2.symm.trans h)
 have ed: ∀free,EdP (l.filter fun p=>p.2.2.2.1) free=EdP l true:=by
  intro free
  funext u v w
  refine propext ⟨fun⟨p,hp,_,h⟩=> ?_,fun⟨p,hp,h1,h⟩=> ?_⟩
  ·obtain⟨hp1,hp2⟩:=List.mem_filter.1 hp
   exact⟨p,hp1,fun _=>hp2,h⟩
  ·have:=h1 rfl
   exact⟨p,List.mem_filter.2 ⟨hp,this⟩,fun _=>this,h⟩
 have key:c1=l.filter fun p=>p.2.2.2.1:=by
  rw[Option.some.inj v1]
  conv=>rhs;rw[←e0,Option.some.inj v0]
  rw[allL_free,ed,ed]
  congr 1;funext a b
  exact(item_free a b _ _).symm
 rw[key]
 exact closedB_self _
theorem close_get (n:NetT) (q:QueT) (l:List CallT) (i:Nat): (((l.map (closeC n q))[i]?).getD c0).1=((l[i]?).getD c0).1∧(((l.map (closeC n q))[i]?).getD c0).2.1=((l[i]?).getD c0).2.1∧(((l.map (closeC n q))[i]?).getD c0).2.2.1=((l[i]?).getD c0).2.2.1:=by
 rw[List.getElem?_map]
 cases l[i]? with
 |none=>exact⟨rfl,rfl,rfl⟩
 |some c=>
  simp only[Option.map_some,Option.getD_some]
  unfold closeC
  split<;>exact⟨rfl,rfl,rfl⟩
theorem callE_close (n:NetT) (q:QueT) (l:List CallT) (k lo hi:Int):callE (l.map (closeC n q)) k lo hi=callE l k lo hi:=by
 have h:oneF (l.map (closeC n q)) k lo hi=oneF l k lo hi:=by
  funext i
  obtain⟨a1,a2,a3⟩:=close_get n q l i
  obtain⟨b1,b2,b3⟩:=close_get n q l (i - 1)
  unfold oneF callB1 callB2 callB3
  rw[a1,a2,a3,b1,b3]
 unfold callE
 rw[List.length_map,h]
theorem rn_calls (n:NetT) (q:QueT) (a:Int): (rn (allowA n q) a).2.2.2.2.2.2.2.1=(rn n a).2.2.2.2.2.2.2.1.map (closeC n q):=by
 unfold rn
 show (((n.2.2.1.map (allowR n q))[a.toNat]?).getD u0).2.2.2.2.2.2.2.1=_
 rw[List.getElem?_map]
 cases n.2.2.1[a.toNat]? <;>rfl
theorem linkF_allow (n:NetT) (q:QueT) (i:Nat):linkF (allowA n q) i=linkF n i:=by
 have hlen: (allowA n q).2.2.1.length=n.2.2.1.length:=List.length_map ..
 unfold linkF bad1 bad2
 simp only[rn_calls,List.length_map,hlen]
 have hcl: ∀ (l:List CallT) (x:Int),(cl (l.map (closeC n q)) x).1=(cl l x).1:=fun l x=>(close_get n q l _).1
 simp only[hcl]
 rfl
theorem runF_allow (n:NetT) (q:QueT) {i:Nat} (hi:i<n.2.2.1.length):runF (allowA n q) i=runF n i:=by
 have hg: ∀j,j<n.2.2.1.length→((allowA n q).2.2.1[j]?).getD u0=allowR n q ((n.2.2.1[j]?).getD u0):=by
  intro j hj
  show ((n.2.2.1.map (allowR n q))[j]?).getD u0=_
  rw[List.getElem?_map,List.getElem?_eq_getElem hj];rfl
 unfold runF
 rw[hg i hi]
 have hd: (∃j,j<i∧runK (((allowA n q).2.2.1[j]?).getD u0)=runK (allowR n q ((n.2.2.1[i]?).getD u0)))↔ ∃j,j<i∧runK ((n.2.2.1[j]?).getD u0)=runK ((n.2.2.1[i]?).getD u0):=by
  constructor
  ·rintro ⟨j,hj,e⟩
   rw[hg j (by omega)] at e
   exact⟨j,hj,e⟩
  ·rintro ⟨j,hj,e⟩
   refine⟨j,hj, ?_⟩
   rw[hg j (by omega)]
   exact e
 have hcE:callE (allowR n q ((n.2.2.1[i]?).getD u0)).2.2.2.2.2.2.2.1 ((allowA n q).1.length:Int) 0 3155932800=callE ((n.2.2.1[i]?).getD u0).2.2.2.2.2.2.2.1 (n.1.length:Int) 0 3155932800:=callE_close n q _ _ _ _
 simp only[hcE,hd]
 rfl
theorem allow_whole {n:NetT} (q:QueT) (hp:n.2.2.2.2.1.length≤4096) (h:Whole n):Whole (allowA n q):=by
 have hlen: (allowA n q).2.2.1.length=n.2.2.1.length:=List.length_map ..
 have hP: (∀i,i< (pathsA n q).length→pathF n.1.length (pathsA n q) i=0)∧ ∀c,F59 (pathsA n q) (n.1.length:Int)=some c→closedB c (pathsA n q)=true:=by
  unfold pathsA
  split
  ·exact free_closed h.sound.stops hp (firstBad_iff.1 h.q) h.w
  ·exact⟨firstBad_iff.1 h.q,h.w⟩
 refine⟨h.s,h.t,by rw[hlen];exact h.u, ?_,h.v, ?_,firstBad_iff.2 hP.1,hP.2,h.z⟩
 ·rw[hlen]
  exact firstBad_iff.2 fun i hi=>by rw[runF_allow n q hi];exact firstBad_iff.1 h.f i hi
 ·exact firstBad_iff.2 fun i hi=>by rw[linkF_allow];exact firstBad_iff.1 h.g i hi
theorem allow_fit {n:NetT} (q:QueT) (h:Fit n):Fit (allowA n q):=by
 refine⟨h.stops,h.routes, ?_, ?_, ?_,h.prods⟩
 ·intro r hr
  obtain⟨x,hx,rfl⟩:=List.mem_map.1 (show r∈n.2.2.1.map (allowR n q) from hr)
  exact h.runs x hx
 ·intro r hr
  obtain⟨x,hx,rfl⟩:=List.mem_map.1 (show r∈n.2.2.1.map (allowR n q) from hr)
  show (x.2.2.2.2.2.2.2.1.map _).length≤_
  rw[List.length_map]
  exact h.calls x hx
 ·show (pathsA n q).length≤_
  unfold pathsA
  split
  ·exact Nat.le_trans (List.length_filter_le _ _) h.paths
  ·exact h.paths
end Q
namespace Q
open Tr Go
abbrev LegT:=Bool×Int×Int×Int×Int×Int×Int×Int×Bool×Unit
theorem stop_sound {n:NetT} (h:Sound n) {a:Int} (h0:0≤a) (h1:a< (n.1.length:Int)):Tr.idx n.1 a=some (stOf n a)∧0≤(stOf n a).2.1∧(stOf n a).2.1<16:=by
 have hi:inR a n.1.length=true:=by unfold inR;rw[decide_eq_true h0,decide_eq_true h1];rfl
 refine⟨idx_int hi s0, ?_⟩
 have hl:a.toNat<n.1.length:=by omega
 unfold stOf
 rw[getD_of hl]
 exact h.zone _ (List.getElem_mem hl)
abbrev stayB (x:LegT):Bool:=x.2.2.2.2.2.2.2.2.1
def g0:LegT:=(false,0,0,0,0,0,0,0,false,())
def lg (L:List LegT) (i:Nat):LegT:=(L[i]?).getD g0
theorem lg_idx {L:List LegT} {i:Nat} (h:i<L.length):Tr.idx L (i:Int)=some (lg L i):=by
 rw[idx_nat h]
 unfold lg
 rw[getD_of h]
end Q
namespace Q
open Tr Go
end Q
namespace Q
open Tr Go
def rideC (x:LegT):Bool:=x.1&& !stayB x
def ridesN (L:List LegT):Nat:=(L.filter rideC).length
end Q
namespace Q
open Tr Go
def callsAt (n:NetT) (i:Nat):List CallT:=(rn n (i:Int)).2.2.2.2.2.2.2.1
def callAt (n:NetT) (i c:Nat):CallT:=cl (callsAt n i) (c:Int)
def cancAt (n:NetT) (i:Nat):Bool:=(rn n (i:Int)).2.2.2.2.2.2.1
def legW (s t a b:Int):LegT:=(false,0,0,0,s,t,a,b,false,())
def legR (n:NetT) (i b c:Nat) (st:Bool):LegT:=(true,(i:Int),(b:Int),(c:Int),(callAt n i b).1,(callAt n i c).1,(callAt n i b).2.2.1,(callAt n i c).2.1,st,())
def isLink (n:NetT) (i c j d:Nat) (st:Bool):Prop:=((i:Int),(c:Int),(j:Int),(d:Int),st,())∈n.2.2.2.1
structure NetOk (n:NetT):Prop where
 sound:Sound n
 change: ∀s:Int,0≤s→s< (n.1.length:Int)→0≤(stOf n s).2.2.2.1∧(stOf n s).2.2.2.1≤3600
 path: ∀p∈n.2.2.2.2.1,(0≤p.1∧p.1< (n.1.length:Int))∧(0≤p.2.1∧p.2.1< (n.1.length:Int))∧p.1≠p.2.1∧1≤p.2.2.1∧p.2.2.1≤14400
 link: ∀x∈n.2.2.2.1, ∃ (i c j d:Nat) (st:Bool),x=((i:Int),(c:Int),(j:Int),(d:Int),st,())∧i<n.2.2.1.length∧j<n.2.2.1.length∧i≠j∧c< (callsAt n i).length∧d< (callsAt n j).length∧
  (callAt n i c).1=(callAt n j d).1∧(st=true→c+1=(callsAt n i).length∧d=0)
theorem callsAt_eq {n:NetT} {i:Nat} (hi:i<n.2.2.1.length):callsAt n i=(n.2.2.1[i]).2.2.2.2.2.2.2.1:=by unfold callsAt rn;rw[Int.toNat_natCast,getD_of hi]
theorem callAt_eq {n:NetT} {i c:Nat} (hc:c< (callsAt n i).length):callAt n i c=(callsAt n i)[c]:=by unfold callAt cl;rw[Int.toNat_natCast,getD_of hc]
theorem linkF_more {n:NetT} {i:Nat} (h:linkF n i=0): (cl (rn n (lk n i).1).2.2.2.2.2.2.2.1 (lk n i).2.1).1=(cl (rn n (lk n i).2.2.1).2.2.2.2.2.2.2.1 (lk n i).2.2.2.1).1∧
  ((lk n i).2.2.2.2.1=true→(lk n i).2.1+1=((rn n (lk n i).1).2.2.2.2.2.2.2.1.length:Int)∧(lk n i).2.2.2.1=0):=by
 unfold linkF at h
 simp only at h
 by_cases b1:bad1 n (lk n i)=true
 ·rw[if_pos b1] at h;omega
 rw[if_neg b1] at h
 by_cases b2:bad2 n (lk n i)=true
 ·rw[if_pos b2] at h;omega
 rw[if_neg b2] at h
 split at h
 ·omega
 split at h
 ·omega
 split at h
 ·omega
 next h1 h2 h3=>
  refine⟨Decidable.not_not.1 h1,fun hs=>⟨?_, ?_⟩⟩
  ·exact Decidable.not_not.1 fun e=>h2 ⟨hs,e⟩
  ·exact Decidable.not_not.1 fun e=>h3 ⟨hs,e⟩
theorem Whole.ok {n:NetT} (h:Whole n):NetOk n:=by
 refine⟨h.sound,fun s h0 h1=> ?_,fun p hp=> ?_,fun x hx=> ?_⟩
 ·have s0:=h.s
  unfold stopR at s0
  split at s0
  ·exact absurd s0 (by decide)
  obtain⟨j,rfl⟩: ∃j:Nat,s=(j:Int):=⟨s.toNat,by omega⟩
  have hj:j<n.1.length:=by omega
  have hz:=pick_zero s0 j hj
  unfold stopF at hz
  have:=(fault_zero.1 hz).2.2
  unfold stOf
  rw[Int.toNat_natCast]
  generalize hg: (n.1[j]?).getD Q.s0=y at*
  have e: (n.1[j]?).getD ([],0,false,0,())=y:=by rw[←hg];rfl
  rw[e] at this
  omega
 ·obtain⟨j,hj,rfl⟩:=List.getElem_of_mem hp
  obtain⟨h1,h2,_⟩:=pathF_zero (firstBad_iff.1 h.q j hj)
  rw[getD_of hj] at h1 h2
  unfold pathB1 at h1
  unfold pathB2 at h2
  simp only[Bool.or_eq_false_iff,Bool.not_eq_false',decide_eq_false_iff_not,decide_eq_true_eq] at h1 h2
  omega
 ·obtain⟨j,hj,rfl⟩:=List.getElem_of_mem hx
  have hz:=firstBad_iff.1 h.g j hj
  obtain⟨h1,h2,_⟩:=linkF_zero hz
  obtain⟨h3,h4⟩:=linkF_more hz
  have e:lk n j=n.2.2.2.1[j]:=by unfold lk;rw[getD_of hj]
  rw[e] at h1 h2 h3 h4
  generalize n.2.2.2.1[j]=x at*
  unfold bad1 at h1
  unfold bad2 at h2
  unfold inR at h1 h2
  simp only[Bool.or_eq_false_iff,Bool.not_eq_false',decide_eq_false_iff_not,Bool.and_eq_true,decide_eq_true_eq] at h1 h2
  obtain⟨x1,x2,x3,x4,x5,x6⟩:=x
  simp only at h1 h2 h3 h4
  obtain⟨i,rfl⟩: ∃i:Nat,x1=(i:Int):=⟨x1.toNat,by omega⟩
  obtain⟨c,rfl⟩: ∃i:Nat,x2=(i:Int):=⟨x2.toNat,by omega⟩
  obtain⟨k,rfl⟩: ∃i:Nat,x3=(i:Int):=⟨x3.toNat,by omega⟩
  obtain⟨d,rfl⟩: ∃i:Nat,x4=(i:Int):=⟨x4.toNat,by omega⟩
  refine⟨i,c,k,d,x5,rfl,by omega,by omega,by omega, ?_, ?_,h3,fun hs=> ?_⟩
  ·unfold callsAt;omega
  ·unfold callsAt;omega
  ·obtain⟨a,b⟩:=h4 hs
   unfold callsAt
   omega
theorem NetOk.isLink {n:NetT} (h:NetOk n) {i c j d:Nat} {st:Bool} (hl:isLink n i c j d st):i<n.2.2.1.length∧j<n.2.2.1.length∧i≠j∧c< (callsAt n i).length∧d< (callsAt n j).length∧(callAt n i c).1=(callAt n j d).1∧(st=true→c+1=(callsAt n i).length∧d=0):=by
 obtain⟨i',c',j',d',st',e,h1⟩:=h.link _ hl
 simp only[Prod.mk.injEq,Int.natCast_inj] at e
 obtain⟨rfl,rfl,rfl,rfl,rfl,_⟩:=e
 exact h1
theorem NetOk.stop {n:NetT} (h:NetOk n) {i c:Nat} (hi:i<n.2.2.1.length) (hc:c< (callsAt n i).length):0≤(callAt n i c).1∧(callAt n i c).1< (n.1.length:Int):=by
 rw[callAt_eq hc]
 refine h.sound.call _ (List.getElem_mem hi) _ ?_
 simp only[callsAt_eq hi]
 exact List.getElem_mem _
theorem NetOk.time {n:NetT} (h:NetOk n) {i c:Nat} (hi:i<n.2.2.1.length) (hc:c< (callsAt n i).length):0≤(callAt n i c).2.1∧(callAt n i c).2.1≤(callAt n i c).2.2.1∧(callAt n i c).2.2.1≤3155932800:=by
 have ht:=h.sound.time _ (List.getElem_mem hi)
 rw[callAt_eq hc]
 simp only[callsAt_eq hi] at hc ⊢
 have:=ht c hc
 omega
inductive Fact where
 |rdy (k:Nat) (s r:Int)
 |brd (k:Nat) (i c:Nat) (st:Bool)
 |lnk (k:Nat) (i c:Nat)
 |on (k:Nat) (i c:Nat)
 |rid (k:Nat) (s t:Int)
 |arr (k:Nat) (s t:Int)
inductive Der (n:NetT) (s0 t0 w:Int):Fact→List LegT→Prop
 |init:Der n s0 t0 w (.rdy 0 s0 (t0+w)) []
 |here:Der n s0 t0 w (.arr 0 s0 t0) []
 |rdyW {p:Foot} :p∈n.2.2.2.2.1→p.1=s0→t0+p.2.2.1≤3155932800→Der n s0 t0 w (.rdy 0 p.2.1 (t0+p.2.2.1)) [legW s0 p.2.1 t0 (t0+p.2.2.1)]
 |arrW {p:Foot} :p∈n.2.2.2.2.1→p.1=s0→t0+p.2.2.1≤3155932800→Der n s0 t0 w (.arr 0 p.2.1 (t0+p.2.2.1)) [legW s0 p.2.1 t0 (t0+p.2.2.1)]
 |board {k:Nat} {s r:Int} {js:List LegT} {i c:Nat} :Der n s0 t0 w (.rdy k s r) js→i<n.2.2.1.length→c< (callsAt n i).length→cancAt n i=false→(callAt n i c).1=s→(callAt n i c).2.2.2.1=true→r≤(callAt n i c).2.2.1→Der n s0 t0 w (.brd (k+1) i c false) js
 |on {k i b c:Nat} {st:Bool} {js:List LegT} :Der n s0 t0 w (.brd k i b st) js→b<c→c< (callsAt n i).length→Der n s0 t0 w (.on k i c) (js++[legR n i b c st])
 |stay {k i c j d:Nat} {js:List LegT} :Der n s0 t0 w (.on k i c) js→isLink n i c j d true→(callAt n i c).2.1≤(callAt n j d).2.2.1→cancAt n j=false→Der n s0 t0 w (.brd k j d true) js
 |link {k i c j d:Nat} {js:List LegT} :Der n s0 t0 w (.on k i c) js→(callAt n i c).2.2.2.2.1=true→isLink n i c j d false→(callAt n i c).2.1≤(callAt n j d).2.2.1→(callAt n j d).2.2.2.1=true→Der n s0 t0 w (.lnk (k+1) j d) js
 |linked {k j d:Nat} {js:List LegT} :Der n s0 t0 w (.lnk k j d) js→cancAt n j=false→Der n s0 t0 w (.brd k j d false) js
 |ride {k i c:Nat} {js:List LegT} :Der n s0 t0 w (.on k i c) js→(callAt n i c).2.2.2.2.1=true→Der n s0 t0 w (.rid k (callAt n i c).1 (callAt n i c).2.1) js
 |change {k:Nat} {s t:Int} {js:List LegT} :Der n s0 t0 w (.rid k s t) js→Der n s0 t0 w (.rdy k s (t+(stOf n s).2.2.2.1)) js
 |rdyV {k:Nat} {s t:Int} {js:List LegT} {p:Foot} :Der n s0 t0 w (.rid k s t) js→p∈n.2.2.2.2.1→p.1=s→t+p.2.2.1≤3155932800→Der n s0 t0 w (.rdy k p.2.1 (t+p.2.2.1)) (js++[legW s p.2.1 t (t+p.2.2.1)])
 |arrR {k:Nat} {s t:Int} {js:List LegT} :Der n s0 t0 w (.rid k s t) js→Der n s0 t0 w (.arr k s t) js
 |arrV {k:Nat} {s t:Int} {js:List LegT} {p:Foot} :Der n s0 t0 w (.rid k s t) js→p∈n.2.2.2.2.1→p.1=s→t+p.2.2.1≤3155932800→Der n s0 t0 w (.arr k p.2.1 (t+p.2.2.1)) (js++[legW s p.2.1 t (t+p.2.2.1)])
def Fact.ok (n:NetT):Fact→Prop
 | .rdy _ s r=>(0≤s∧s< (n.1.length:Int))∧0≤r∧r≤3155932800+3600
 | .brd k i c _=>0<k∧i<n.2.2.1.length∧c< (callsAt n i).length∧cancAt n i=false
 | .lnk k i c=>0<k∧i<n.2.2.1.length∧c< (callsAt n i).length
 | .on k i c=>0<k∧i<n.2.2.1.length∧c< (callsAt n i).length∧cancAt n i=false
 | .rid k s t=>0<k∧(0≤s∧s< (n.1.length:Int))∧0≤t∧t≤3155932800
 | .arr _ s t=>(0≤s∧s< (n.1.length:Int))∧0≤t∧t≤3155932800
theorem Der.ok {n:NetT} (h:NetOk n) {s0 t0 w:Int} (hs:0≤s0∧s0< (n.1.length:Int)) (ht:0≤t0∧t0≤3155932800) (hw:0≤w∧w≤3600) {f:Fact} {js:List LegT} (d:Der n s0 t0 w f js):f.ok n:=by
 induction d with
 |init=>exact⟨hs,by omega,by omega⟩
 |here=>exact⟨hs,ht⟩
 |rdyW hp _ hm=>have:=h.path _ hp;exact⟨this.2.1,by omega,by omega⟩
 |arrW hp _ hm=>have:=h.path _ hp;exact⟨this.2.1,by omega,by omega⟩
 |board _ hi hc hx _ _ _ _=>exact⟨Nat.succ_pos _,hi,hc,hx⟩
 |on _ _ hc ih=>exact⟨ih.1,ih.2.1,hc,ih.2.2.2⟩
 |stay _ hl _ hx ih=>have:=h.isLink hl;exact⟨ih.1,this.2.1,this.2.2.2.2.1,hx⟩
 |link _ _ hl _ _ _=>have:=h.isLink hl;exact⟨Nat.succ_pos _,this.2.1,this.2.2.2.2.1⟩
 |linked _ hx ih=>exact⟨ih.1,ih.2.1,ih.2.2,hx⟩
 |ride _ _ ih=>
  have:=h.time ih.2.1 ih.2.2.1
  exact⟨ih.1,h.stop ih.2.1 ih.2.2.1,by omega,by omega⟩
 |change _ ih=>have:=h.change _ ih.2.1.1 ih.2.1.2;exact⟨ih.2.1,by have:=ih.2.2;omega,by have:=ih.2.2;omega⟩
 |rdyV _ hp _ hm ih=>have:=h.path _ hp;exact⟨this.2.1,by have:=ih.2.2;omega,by omega⟩
 |arrR _ ih=>exact ih.2
 |arrV _ hp _ hm ih=>have:=h.path _ hp;exact⟨this.2.1,by have:=ih.2.2;omega,by omega⟩
abbrev LabT:=LegT×Int×Unit
inductive Ch (lb:List LabT):Int→List LegT→Prop
 |nil:Ch lb (-1) []
 |cons {l:Nat} {x:LegT} {p:Int} {js:List LegT} :lb[l]? =some (x,p,())→p< (l:Int)→Ch lb p js→Ch lb (l:Int) (js++[x])
theorem Ch.lt {lb:List LabT} {l:Int} {js:List LegT} (h:Ch lb l js): -1≤l∧l< (lb.length:Int):=by
 cases h with
 |nil=>omega
 |cons h _ _=>
  have:=(List.getElem?_eq_some_iff.1 h).1
  omega
theorem Ch.app {lb:List LabT} {l:Int} {js:List LegT} (h:Ch lb l js) (m:List LabT):Ch (lb++m) l js:=by
 induction h with
 |nil=>exact .nil
 |cons h1 h2 _ ih=>
  have hl:=(List.getElem?_eq_some_iff.1 h1).1
  exact .cons (by rw[List.getElem?_append_left hl];exact h1) h2 ih
theorem Ch.new {lb:List LabT} {p:Int} {js:List LegT} (h:Ch lb p js) (x:LegT):Ch (lb++[(x,p,())]) (lb.length:Int) (js++[x]):=
 .cons (by simp) h.lt.2 (h.app _)
end Q
namespace Q
open Tr Go
end Q
namespace Q
open Tr Go
variable {n:NetT} {q:QueT}
end Q
namespace Q
open Tr Go
variable {n:NetT} {q:QueT}
theorem ridesN_app (a b:List LegT):ridesN (a++b)=ridesN a+ridesN b:=by simp [ridesN]
theorem ridesN_walk (s t a b:Int):ridesN [legW s t a b]=0:=rfl
theorem ridesN_ride (n:NetT) (i b c:Nat) (st:Bool):ridesN [legR n i b c st]=if st then 0 else 1:=by cases st<;>rfl
end Q
namespace Q
open Tr Go
theorem example_true:F29=some true:=by kernel_rfl
structure Sized (n:NetT):Prop where
 stops:n.1.length≤20
 routes:n.2.1.length≤20
 runs:n.2.2.1.length≤20
 links:n.2.2.2.1.length≤20
 paths:n.2.2.2.2.1.length≤200
 prods:n.2.2.2.2.2.1.1.length≤20
 calls: ∀r∈n.2.2.1,r.2.2.2.2.2.2.2.1.length≤40
theorem Sized.few {n:NetT} (h:Sized n):Few n:=
 ⟨by have:=h.stops;omega,by have:=h.routes;omega,by have:=h.runs;omega,by have:=h.links;omega,by have:=h.paths;omega,by have:=h.prods;omega,fun r hr=>by have:=h.calls r hr;omega⟩
theorem sized_val (n:NetT): ∃b,F31 n=some b∧(b=true→Sized n):=by
 unfold F31
 by_cases h1: (20:Int)< (n.1.length:Int)
 ·rw[decide_eq_true h1];exact⟨false,rfl,fun e=>(nomatch e)⟩
 by_cases h2: (20:Int)< (n.2.1.length:Int)
 ·rw[decide_eq_false h1,decide_eq_true h2];exact⟨false,rfl,fun e=>(nomatch e)⟩
 by_cases h3: (20:Int)< (n.2.2.1.length:Int)
 ·rw[decide_eq_false h1,decide_eq_false h2,decide_eq_true h3];exact⟨false,rfl,fun e=>(nomatch e)⟩
 by_cases h4: (20:Int)< (n.2.2.2.1.length:Int)
 ·rw[decide_eq_false h1,decide_eq_false h2,decide_eq_false h3,decide_eq_true h4];exact⟨false,rfl,fun e=>(nomatch e)⟩
 by_cases h5: (200:Int)< (n.2.2.2.2.1.length:Int)
 ·rw[decide_eq_false h1,decide_eq_false h2,decide_eq_false h3,decide_eq_false h4,decide_eq_true h5];exact⟨false,rfl,fun e=>(nomatch e)⟩
 by_cases h6: (20:Int)< (n.2.2.2.2.2.1.1.length:Int)
 ·rw[decide_eq_false h1,decide_eq_false h2,decide_eq_false h3,decide_eq_false h4,decide_eq_false h5,decide_eq_true h6];exact⟨false,rfl,fun e=>(nomatch e)⟩
 rw[decide_eq_false h1,decide_eq_false h2,decide_eq_false h3,decide_eq_false h4,decide_eq_false h5,decide_eq_false h6]
 simp only[cond_false,Option.bind_some]
 have key: ∀ (o:Option (Unit ⊕ Bool)),(∃r,o=some r∧(r= .inr false∨r= .inl ()∧ ∀x∈n.2.2.1,x.2.2.2.2.2.2.2.1.length≤40))→ ∃b,(Option.bind o fun x=>Sum.elim (fun _=>some true) (fun y=>some y) x)=some b∧(b=true→Sized n):=by
  rintro o ⟨r,rfl,rfl| ⟨rfl,h⟩⟩
  ·exact⟨false,rfl,fun e=>(nomatch e)⟩
  ·exact⟨true,rfl,fun _=>⟨by omega,by omega,by omega,by omega,by omega,by omega,h⟩⟩
 refine key _ (run_for n.2.2.1.length _ (fun i (s:Int)=>s=(i:Int)∧ ∀x∈n.2.2.1.take i,x.2.2.2.2.2.2.2.1.length≤40) ?_ ?_ _ ⟨rfl,by simp⟩)
 ·rintro i _ hi ⟨rfl,ha⟩
  simp only[lt_dec hi,cond_true,idx_nat hi,Option.bind_some,wrap_succ hi (show _≤9223372036854775807 by omega)]
  by_cases hc: (40:Int)< ((n.2.2.1[i]).2.2.2.2.2.2.2.1.length:Int)
  ·right
   rw[decide_eq_true hc]
   exact⟨_,rfl, .inl rfl⟩
  ·left
   rw[decide_eq_false hc]
   refine⟨_,rfl,rfl,fun x hx=> ?_⟩
   rw[List.take_succ_eq_append_getElem hi,List.mem_append] at hx
   rcases hx with hx|hx
   ·exact ha x hx
   ·simp only[List.mem_singleton] at hx
    subst hx
    omega
 ·rintro _ ⟨rfl,ha⟩
  simp only[nlt_dec,cond_false]
  rw[List.take_length] at ha
  exact⟨_,rfl, .inr ⟨rfl,ha⟩⟩
theorem fit41 {n:NetT} (h:Good Y31 n) (hp:n.2.2.2.2.1.length≤4096):Fit n:=by
 obtain⟨⟨_,h1⟩,⟨_,h2⟩,⟨_,h3⟩,_,_,⟨⟨_,h6⟩,_⟩,_⟩:=h
 refine⟨fun x hx=> ?_,fun x hx=> ?_,fun x hx=> ?_,fun x hx=> ?_,hp,fun x hx=> ?_⟩
 ·exact(h1 x hx).1
 ·exact(h2 x hx).1
 ·exact(h3 x hx).2.2.2.1
 ·exact(h3 x hx).2.2.2.2.2.2.2.1.1
 ·exact(h6 x hx).1
noncomputable def chkF (n:NetT) (q:QueT):Int:=bif !decide (chkQ n q=0) then chkQ n q else bif q.2.2.2.1 then 22 else 0
theorem checkF_val {n:NetT} (h:Fit n) (q:QueT):F80 n q=some (chkF n q):=by
 unfold F80 chkF
 rw[chkQ_code h]
 simp only[Option.bind_some]
 cases decide (chkQ n q=0)<;>cases q.2.2.2.1<;>rfl
end Q
namespace Q
open Tr Go
abbrev PlcT:=Int×Int×Int×Int×Int×Int×Unit
abbrev BrdT:=Int×Int×Bool×Unit
abbrev FinT:=NetT×List LabT×List PlcT×List BrdT×List BrdT×List Int×List (List Int) ×Unit
def less (old new:Int):Bool:=decide (old= -1) ||decide (new<old)
theorem lessP_val (old new:Int): (bif decide (old=(-1:Int)) then some true else some (decide (new<old)))=some (less old new):=by
 unfold less
 cases decide (old=(-1:Int))<;>rfl
def arrP (p:PlcT) (a l:Int):PlcT:=bif less p.1 a then(a,p.2.1,p.2.2.1,l,p.2.2.2.2) else p
def rdyP (p:PlcT) (r l:Int):PlcT:=bif less p.2.2.1 r then(p.1,p.2.1,r,p.2.2.2.1,p.2.2.2.2.1,l,p.2.2.2.2.2.2) else p
def impP (p:PlcT) (a r l:Int):PlcT:=rdyP (arrP p a l) r l
def impF (f:FinT) (i:Nat) (a r l:Int):FinT:=(f.1,f.2.1,f.2.2.1.modify i fun p=>impP p a r l,f.2.2.2)
theorem modify_set {α:Type} {l:List α} {i:Nat} (h:i<l.length) (g:α→α):l.modify i g=l.set i (g l[i]):=by
 apply List.ext_getElem?
 intro j
 rw[List.getElem?_modify,List.getElem?_set]
 by_cases hj:i=j
 ·subst hj
  rw[List.getElem?_eq_getElem h]
  simp [h]
 ·simp [hj]
theorem improve_val (f:FinT) {i:Nat} (hi:i<f.2.2.1.length) (a r l:Int):F86 f (i:Int) a r l=some (impF f i a r l):=by
 unfold F86 impF
 rw[modify_set hi]
 obtain⟨n,lb,now,rest⟩:=f
 simp only at hi
 simp only[inb_nat hi,Option.bind_some,List.getElem?_eq_getElem hi]
 generalize hp:now[i]=p
 rw[lessP_val]
 simp only[Option.bind_some]
 unfold impP arrP
 cases hl:less p.1 a with
 |true=>
  simp only[cond_true,List.set_set,List.getElem?_set_self hi,Option.bind_some]
  rw[lessP_val]
  simp only[Option.bind_some]
  unfold rdyP
  simp only
  cases less p.2.2.1 r with
  |true=>
   simp only[cond_true]
  |false=>simp only[cond_false]
 |false=>
  simp only[cond_false]
  rw[lessP_val]
  simp only[Option.bind_some]
  unfold rdyP
  cases less p.2.2.1 r with
  |true=>
   simp only[cond_true,List.set_set,List.getElem?_set_self hi,Option.bind_some]
  |false=>
   simp only[cond_false]
   rw[←hp,List.set_getElem_self]
def addF (f:FinT) (x:LegT) (prev:Int):FinT:=(f.1,f.2.1++[(x,prev,())],f.2.2)
theorem add_val (f:FinT) (hl:f.2.1.length<4000000000) (x:LegT) (prev:Int):F83 f x prev=some (addF f x prev,(f.2.1.length:Int)):=by
 unfold F83 addF
 rw[guard_app (by simp;omega)]
 have e:IntKind.wrap .i64 (((f.2.1++[(x,prev,())]).length:Int) - 1)=(f.2.1.length:Int):=by
  rw[List.length_append]
  simp only[List.length_cons,List.length_nil]
  rw[wrap_i64 (by omega) (by omega)];omega
 rw[e]
 rfl
theorem earlier_val (b:BrdT) (c:Int):F79 b c=some (less b.1 c):=by
 unfold F79
 rw[lessP_val]
 rfl
def boardF (f:FinT) (i:Nat) (b:BrdT):FinT:=
 bif !(rn f.1 (i:Int)).2.2.2.2.2.2.1&&less ((f.2.2.2.2.1[i]?).getD (0,0,false,())).1 b.1 then(f.1,f.2.1,f.2.2.1,f.2.2.2.1,f.2.2.2.2.1.set i b,f.2.2.2.2.2.1++[(i:Int)],f.2.2.2.2.2.2) else f
theorem board_val (f:FinT) {i:Nat} (hi:i<f.1.2.2.1.length) (hr:f.2.2.2.2.1.length=f.1.2.2.1.length) (ho:f.2.2.2.2.2.1.length<4000000000) (b:BrdT):F84 f (i:Int) b=some (boardF f i b):=by
 unfold F84 boardF
 have hi' :i<f.2.2.2.2.1.length:=by omega
 have e:rn f.1 (i:Int)=f.1.2.2.1[i]:=by unfold rn;rw[Int.toNat_natCast,getD_of hi]
 rw[e,getD_of hi']
 simp only[idx_nat hi,Option.bind_some,inb_nat hi',List.getElem?_eq_getElem hi',earlier_val]
 rw[guard_app (by simp;omega)]
 cases (f.1.2.2.1[i]).2.2.2.2.2.2.1 with
 |true=>rfl
 |false=>
  simp only[Bool.not_false,cond_true,Option.bind_some,Bool.true_and]
  cases less (f.2.2.2.2.1[i]).1 b.1<;>rfl
theorem boardF_net (f:FinT) (i:Nat) (b:BrdT): (boardF f i b).1=f.1:=by unfold boardF;cases (!(rn f.1 (i:Int)).2.2.2.2.2.2.1&&less ((f.2.2.2.2.1[i]?).getD (0,0,false,())).1 b.1)<;>rfl
theorem boardF_lab (f:FinT) (i:Nat) (b:BrdT): (boardF f i b).2.1=f.2.1:=by unfold boardF;cases (!(rn f.1 (i:Int)).2.2.2.2.2.2.1&&less ((f.2.2.2.2.1[i]?).getD (0,0,false,())).1 b.1)<;>rfl
theorem boardF_now (f:FinT) (i:Nat) (b:BrdT): (boardF f i b).2.2.1=f.2.2.1:=by unfold boardF;cases (!(rn f.1 (i:Int)).2.2.2.2.2.2.1&&less ((f.2.2.2.2.1[i]?).getD (0,0,false,())).1 b.1)<;>rfl
theorem boardF_linked (f:FinT) (i:Nat) (b:BrdT): (boardF f i b).2.2.2.1=f.2.2.2.1:=by unfold boardF;cases (!(rn f.1 (i:Int)).2.2.2.2.2.2.1&&less ((f.2.2.2.2.1[i]?).getD (0,0,false,())).1 b.1)<;>rfl
theorem boardF_runs (f:FinT) (i:Nat) (b:BrdT): (boardF f i b).2.2.2.2.1.length=f.2.2.2.2.1.length:=by
 unfold boardF
 cases (!(rn f.1 (i:Int)).2.2.2.2.2.2.1&&less ((f.2.2.2.2.1[i]?).getD (0,0,false,())).1 b.1) with
 |false=>rfl
 |true=>exact List.length_set ..
theorem boardF_out (f:FinT) (i:Nat) (b:BrdT): (boardF f i b).2.2.2.2.2.2=f.2.2.2.2.2.2:=by unfold boardF;cases (!(rn f.1 (i:Int)).2.2.2.2.2.2.1&&less ((f.2.2.2.2.1[i]?).getD (0,0,false,())).1 b.1)<;>rfl
theorem boardF_open (f:FinT) (i:Nat) (b:BrdT): (boardF f i b).2.2.2.2.2.1.length≤f.2.2.2.2.2.1.length+1:=by
 unfold boardF
 cases (!(rn f.1 (i:Int)).2.2.2.2.2.2.1&&less ((f.2.2.2.2.1[i]?).getD (0,0,false,())).1 b.1) with
 |false=>simp
 |true=>simp
def walkStep (s at' prev:Int) (f:FinT) (p:Foot):FinT:=
 if p.1=s∧at' +p.2.2.1≤3155932800 then impF (addF f (false,0,0,0,s,p.2.1,at',at' +p.2.2.1,false,()) prev) p.2.1.toNat (at' +p.2.2.1) (at' +p.2.2.1) (f.2.1.length:Int) else f
def walkF (f:FinT) (s at' prev:Int):FinT:=f.1.2.2.2.2.1.foldl (walkStep s at' prev) f
structure Keeps (f g:FinT) (k:Nat):Prop where
 net:g.1=f.1
 lab:g.2.1.length≤f.2.1.length+k
 now:g.2.2.1.length=f.2.2.1.length
theorem Keeps.refl (f:FinT):Keeps f f 0:=⟨rfl,by omega,rfl⟩
theorem Keeps.trans {f g h:FinT} {a b:Nat} (x:Keeps f g a) (y:Keeps g h b):Keeps f h (a+b):=
 ⟨y.net.trans x.net,by have:=x.lab;have:=y.lab;omega,y.now.trans x.now⟩
theorem walkStep_keeps (s at' prev:Int) (f:FinT) (p:Foot):Keeps f (walkStep s at' prev f p) 1:=by
 unfold walkStep
 split
 ·exact⟨rfl,by simp [impF,addF],by simp [impF,addF,List.length_modify]⟩
 ·exact⟨rfl,by omega,rfl⟩
theorem walkFold_keeps (s at' prev:Int): ∀ (l:List Foot) (f:FinT),Keeps f (l.foldl (walkStep s at' prev) f) l.length
 | [],f=>Keeps.refl f
 |p::l,f=>by
  have h:=(walkStep_keeps s at' prev f p).trans (walkFold_keeps s at' prev l _)
  simp only[List.foldl_cons,List.length_cons]
  exact⟨h.net,by have:=h.lab;omega,h.now⟩
theorem walk_val (f:FinT) {s at' :Int} (prev:Int) (h0:0≤at') (h1:at' ≤3155932800) (hl:f.2.1.length+f.1.2.2.2.2.1.length<4000000000) (hp:f.1.2.2.2.2.1.length≤4096)
  (hto: ∀p∈f.1.2.2.2.2.1,0≤p.2.1∧p.2.1< (f.2.2.1.length:Int)∧0≤p.2.2.1∧p.2.2.1≤14400):F90 f s at' prev=some (walkF f s at' prev):=by
 unfold F90 walkF
 generalize hpp:f.1.2.2.2.2.1=l at*
 refine bind_of (fun r=>r=l.foldl (walkStep s at' prev) f) ?_ (fun r hr=>by rw[hr])
 refine run_for l.length _ (fun i (st:FinT×Int)=>st=((l.take i).foldl (walkStep s at' prev) f,(i:Int))) ?_ ?_ _ rfl
 ·rintro i _ hi rfl
  left
  have hk:=walkFold_keeps s at' prev (l.take i) f
  have hk2:=hk.lab
  rw[List.length_take] at hk2
  have hnet: ((l.take i).foldl (walkStep s at' prev) f).1.2.2.2.2.1=l:=by rw[hk.net,hpp]
  have e2: (l.take (i+1)).foldl (walkStep s at' prev) f=walkStep s at' prev ((l.take i).foldl (walkStep s at' prev) f) l[i]:=by rw[List.take_succ_eq_append_getElem hi,List.foldl_append];rfl
  rw[e2]
  have hmem:=hto _ (List.getElem_mem hi)
  generalize hg: (l.take i).foldl (walkStep s at' prev) f=g at*
  have w1:IntKind.wrap .i64 (at' +(l[i]).2.2.1)=at' +(l[i]).2.2.1:=wrap_i64 (by omega) (by omega)
  simp only[lt_dec hi,cond_true,idx_nat hi,Option.bind_some,wrap_succ hi (show _≤9223372036854775807 by omega),w1]
  unfold walkStep
  by_cases hc: (l[i]).1=s
  ·rw[decide_eq_true hc]
   simp only[cond_true,Option.bind_some]
   by_cases hm:at' +(l[i]).2.2.1≤3155932800
   ·rw[decide_eq_true hm,if_pos ⟨hc,hm⟩]
    simp only[cond_true]
    rw[add_val g (by omega)]
    simp only[Option.bind_some]
    obtain⟨j,hj⟩: ∃j:Nat,(l[i]).2.1=(j:Int):=⟨(l[i]).2.1.toNat,by omega⟩
    rw[hj]
    have hjl:j< (addF g (false,0,0,0,s,(j:Int),at',at' +(l[i]).2.2.1,false,()) prev).2.2.1.length:=by
     show j<g.2.2.1.length
     rw[hk.now];omega
    rw[improve_val _ hjl]
    exact⟨_,rfl,by rw[Int.toNat_natCast]⟩
   ·rw[decide_eq_false hm,if_neg (fun h=>hm h.2)]
    exact⟨_,rfl,rfl⟩
  ·rw[decide_eq_false hc,if_neg (fun h=>hc h.1)]
   exact⟨_,rfl,rfl⟩
 ·rintro _ rfl
  rw[List.take_length]
  have hk:=walkFold_keeps s at' prev l f
  simp only[nlt_dec,cond_false]
  exact⟨_,rfl,rfl⟩
def lkI (n:NetT) (k:Int):LinkT:=(n.2.2.2.1[k.toNat]?).getD (0,0,0,0,false,())
def linkedF (f:FinT) (i:Nat) (b:BrdT):FinT:=(f.1,f.2.1,f.2.2.1,f.2.2.2.1.set i b,f.2.2.2.2)
def followStep (call:Int) (arr l:Int) (al:Bool) (f:FinT) (k:Int):FinT:=
 bif !decide ((lkI f.1 k).2.1=call) ||decide ((cl (rn f.1 (lkI f.1 k).2.2.1).2.2.2.2.2.2.2.1 (lkI f.1 k).2.2.2.1).2.2.1<arr) then f else
 bif (lkI f.1 k).2.2.2.2.1 then boardF f (lkI f.1 k).2.2.1.toNat ((lkI f.1 k).2.2.2.1,l,true,()) else
 bif al&& ((cl (rn f.1 (lkI f.1 k).2.2.1).2.2.2.2.2.2.2.1 (lkI f.1 k).2.2.2.1).2.2.2.1&&less ((f.2.2.2.1[(lkI f.1 k).2.2.1.toNat]?).getD (0,0,false,())).1 (lkI f.1 k).2.2.2.1) then linkedF f (lkI f.1 k).2.2.1.toNat ((lkI f.1 k).2.2.2.1,l,false,()) else f
def followF (f:FinT) (run call l:Int) (al:Bool):FinT:=
 ((f.2.2.2.2.2.2.1[run.toNat]?).getD []).foldl (followStep call (cl (rn f.1 run).2.2.2.2.2.2.2.1 call).2.1 l al) f
structure Holds (f g:FinT) (k:Nat):Prop where
 net:g.1=f.1
 now:g.2.2.1.length=f.2.2.1.length
 linked:g.2.2.2.1.length=f.2.2.2.1.length
 runs:g.2.2.2.2.1.length=f.2.2.2.2.1.length
 opn:g.2.2.2.2.2.1.length≤f.2.2.2.2.2.1.length+k
 out:g.2.2.2.2.2.2=f.2.2.2.2.2.2
theorem Holds.refl (f:FinT):Holds f f 0:=⟨rfl,rfl,rfl,rfl,by omega,rfl⟩
theorem Holds.trans {f g h:FinT} {a b:Nat} (x:Holds f g a) (y:Holds g h b):Holds f h (a+b):=
 ⟨y.net.trans x.net,y.now.trans x.now,y.linked.trans x.linked,y.runs.trans x.runs,by have:=x.opn;have:=y.opn;omega,y.out.trans x.out⟩
theorem Holds.weak {f g:FinT} {a b:Nat} (x:Holds f g a) (h:a≤b):Holds f g b:=⟨x.net,x.now,x.linked,x.runs,by have:=x.opn;omega,x.out⟩
theorem boardF_holds (f:FinT) (i:Nat) (b:BrdT):Holds f (boardF f i b) 1:=
 ⟨boardF_net ..,congrArg List.length (boardF_now ..),congrArg List.length (boardF_linked ..),boardF_runs ..,boardF_open ..,boardF_out ..⟩
theorem followStep_holds (call arr l:Int) (al:Bool) (f:FinT) (k:Int):Holds f (followStep call arr l al f k) 1∧(followStep call arr l al f k).2.1=f.2.1:=by
 unfold followStep
 cases (!decide ((lkI f.1 k).2.1=call) ||decide ((cl (rn f.1 (lkI f.1 k).2.2.1).2.2.2.2.2.2.2.1 (lkI f.1 k).2.2.2.1).2.2.1<arr)) with
 |true=>exact⟨(Holds.refl f).weak (by omega),rfl⟩
 |false=>
  simp only[cond_false]
  cases (lkI f.1 k).2.2.2.2.1 with
  |true=>exact⟨boardF_holds ..,boardF_lab ..⟩
  |false=>
   simp only[cond_false]
   cases (al&& ((cl (rn f.1 (lkI f.1 k).2.2.1).2.2.2.2.2.2.2.1 (lkI f.1 k).2.2.2.1).2.2.2.1&&less ((f.2.2.2.1[(lkI f.1 k).2.2.1.toNat]?).getD (0,0,false,())).1 (lkI f.1 k).2.2.2.1)) with
   |true=>exact⟨⟨rfl,rfl,List.length_set ..,rfl,by show f.2.2.2.2.2.1.length≤_;omega,rfl⟩,rfl⟩
   |false=>exact⟨(Holds.refl f).weak (by omega),rfl⟩
theorem followFold_holds (call arr l:Int) (al:Bool): ∀ (ks:List Int) (f:FinT),Holds f (ks.foldl (followStep call arr l al) f) ks.length∧(ks.foldl (followStep call arr l al) f).2.1=f.2.1
 | [],f=>⟨Holds.refl f,rfl⟩
 |k::ks,f=>by
  obtain⟨h1,h2⟩:=followStep_holds call arr l al f k
  obtain⟨h3,h4⟩:=followFold_holds call arr l al ks (followStep call arr l al f k)
  exact⟨(h1.trans h3).weak (by simp;omega),h4.trans h2⟩
structure LinkOk (n:NetT) (x:LinkT):Prop where
 to:inR x.2.2.1 n.2.2.1.length=true
 call:inR x.2.2.2.1 (rn n x.2.2.1).2.2.2.2.2.2.2.1.length=true
theorem followF_val (f:FinT) {run call:Int} (l:Int) (al:Bool) (hrun:inR run f.1.2.2.1.length=true) (hcall:inR call (rn f.1 run).2.2.2.2.2.2.2.1.length=true)
  (hout:f.2.2.2.2.2.2.1.length=f.1.2.2.1.length) (hlk: ∀ks∈f.2.2.2.2.2.2.1,ks.length≤1024∧ ∀k∈ks,inR k f.1.2.2.2.1.length=true∧LinkOk f.1 (lkI f.1 k))
  (hr:f.2.2.2.2.1.length=f.1.2.2.1.length) (hn:f.2.2.2.1.length=f.1.2.2.1.length) (ho:f.2.2.2.2.2.1.length+1024<4000000000):F85 f run call l al=some (followF f run call l al):=by
 unfold F85 followF
 rw[idx_int hrun u0]
 simp only[Option.bind_some]
 rw[show ((f.1.2.2.1[run.toNat]?).getD u0)=rn f.1 run from rfl,idx_int hcall c0]
 simp only[Option.bind_some]
 rw[show (((rn f.1 run).2.2.2.2.2.2.2.1[call.toNat]?).getD c0)=cl (rn f.1 run).2.2.2.2.2.2.2.1 call from rfl]
 have hro:inR run f.2.2.2.2.2.2.1.length=true:=by rw[hout];exact hrun
 rw[idx_int hro []]
 simp only[Option.bind_some]
 have hrl:run.toNat<f.2.2.2.2.2.2.1.length:=by
  unfold inR at hro
  simp only[Bool.and_eq_true,decide_eq_true_eq] at hro
  omega
 have hks:=hlk _ (by rw[getD_of hrl (d:=[])];exact List.getElem_mem hrl: (f.2.2.2.2.2.2.1[run.toNat]?).getD []∈f.2.2.2.2.2.2.1)
 generalize (f.2.2.2.2.2.2.1[run.toNat]?).getD []=ks at*
 generalize (cl (rn f.1 run).2.2.2.2.2.2.2.1 call).2.1=arr
 obtain⟨hkl,hkm⟩:=hks
 refine bind_of (fun r=>r=ks.foldl (followStep call arr l al) f) ?_ (fun r hr=>by rw[hr])
 refine run_for ks.length _ (fun i (st:FinT×Int)=>st=((ks.take i).foldl (followStep call arr l al) f,(i:Int))) ?_ ?_ _ rfl
 ·rintro i _ hi rfl
  left
  obtain⟨hk,hlab⟩:=followFold_holds call arr l al (ks.take i) f
  have e2: (ks.take (i+1)).foldl (followStep call arr l al) f=followStep call arr l al ((ks.take i).foldl (followStep call arr l al) f) ks[i]:=by rw[List.take_succ_eq_append_getElem hi,List.foldl_append];rfl
  rw[e2]
  obtain⟨hm1,hm2⟩:=hkm _ (List.getElem_mem hi)
  have hopn:=hk.opn
  rw[List.length_take] at hopn
  have hnet:=hk.net
  have hlinked:=hk.linked
  have hruns:=hk.runs
  generalize (ks.take i).foldl (followStep call arr l al) f=g at*
  rw[←hnet] at hm1 hm2 hr hn
  obtain⟨ht,hc⟩:=hm2
  simp only[lt_dec hi,cond_true,idx_nat hi,Option.bind_some,wrap_succ hi (show _≤9223372036854775807 by omega)]
  rw[idx_int hm1 (0,0,0,0,false,())]
  simp only[Option.bind_some]
  rw[show ((g.1.2.2.2.1[(ks[i]).toNat]?).getD (0,0,0,0,false,()))=lkI g.1 ks[i] from rfl]
  unfold followStep
  generalize lkI g.1 ks[i]=x at*
  rw[idx_int ht u0]
  simp only[Option.bind_some]
  rw[show ((g.1.2.2.1[x.2.2.1.toNat]?).getD u0)=rn g.1 x.2.2.1 from rfl,idx_int hc c0]
  simp only[Option.bind_some]
  rw[show (((rn g.1 x.2.2.1).2.2.2.2.2.2.2.1[x.2.2.2.1.toNat]?).getD c0)=cl (rn g.1 x.2.2.1).2.2.2.2.2.2.2.1 x.2.2.2.1 from rfl]
  generalize cl (rn g.1 x.2.2.1).2.2.2.2.2.2.2.1 x.2.2.2.1=c at*
  have ht2:=ht
  unfold inR at ht2
  simp only[Bool.and_eq_true,decide_eq_true_eq] at ht2
  obtain⟨j,hj⟩: ∃j:Nat,x.2.2.1=(j:Int):=⟨x.2.2.1.toNat,by omega⟩
  have hjl:j<g.1.2.2.1.length:=by omega
  rw[hj]
  simp only[Int.toNat_natCast]
  have hb:=board_val g hjl (by omega) (by omega) (x.2.2.2.1,l,true,())
  have hjn:j<g.2.2.2.1.length:=by omega
  have e1: (bif !decide (x.2.1=call) then some true else some (decide (c.2.2.1<arr)))=some (!decide (x.2.1=call) ||decide (c.2.2.1<arr)):=by
   cases decide (x.2.1=call)<;>rfl
  rw[e1]
  simp only[Option.bind_some]
  cases (!decide (x.2.1=call) ||decide (c.2.2.1<arr)) with
  |true=>exact⟨_,rfl,rfl⟩
  |false=>
   simp only[cond_false]
   cases x.2.2.2.2.1 with
   |true=>
    simp only[cond_true]
    rw[hb]
    exact⟨_,rfl,rfl⟩
   |false=>
    simp only[cond_false,inb_nat hjn,Option.bind_some,List.getElem?_eq_getElem hjn,earlier_val]
    cases al with
    |false=>exact⟨_,rfl,rfl⟩
    |true=>
     simp only[cond_true,Bool.true_and]
     cases c.2.2.2.1 with
     |false=>exact⟨_,rfl,rfl⟩
     |true=>
      simp only[cond_true,Option.bind_some,Bool.true_and,Option.getD_some]
      cases less (g.2.2.2.1[j]).1 x.2.2.2.1 with
      |false=>exact⟨_,rfl,rfl⟩
      |true=>exact⟨_,rfl,rfl⟩
 ·rintro _ rfl
  rw[List.take_length]
  simp only[nlt_dec,cond_false]
  exact⟨_,rfl,rfl⟩
def rideF (f:FinT) (i:Nat) (a l:Int):FinT:=(f.1,f.2.1,f.2.2.1.modify i fun p=>(p.1,a,p.2.2.1,p.2.2.2.1,l,p.2.2.2.2.2),f.2.2.2)
def plcAt (f:FinT) (s:Int):PlcT:=(f.2.2.1[s.toNat]?).getD (0,0,0,0,0,0,())
def outAt (f:FinT) (run:Int):List Int:=(f.2.2.2.2.2.2.1[run.toNat]?).getD []
def visitStep (run:Int) (b:BrdT) (fr:CallT) (l:List CallT) (f:FinT) (i:Nat):FinT:=
 bif !(cl l (i:Int)).2.2.2.2.1&&decide ((outAt f run).length=0) then f else
 bif (cl l (i:Int)).2.2.2.2.1&&less (plcAt (followF (addF f (true,run,b.1,(i:Int),fr.1,(cl l (i:Int)).1,fr.2.2.1,(cl l (i:Int)).2.1,b.2.2.1,()) b.2.1) run (i:Int) (f.2.1.length:Int) (cl l (i:Int)).2.2.2.2.1) (cl l (i:Int)).1).2.1 (cl l (i:Int)).2.1 then
  rideF (followF (addF f (true,run,b.1,(i:Int),fr.1,(cl l (i:Int)).1,fr.2.2.1,(cl l (i:Int)).2.1,b.2.2.1,()) b.2.1) run (i:Int) (f.2.1.length:Int) (cl l (i:Int)).2.2.2.2.1) (cl l (i:Int)).1.toNat (cl l (i:Int)).2.1 (f.2.1.length:Int)
 else followF (addF f (true,run,b.1,(i:Int),fr.1,(cl l (i:Int)).1,fr.2.2.1,(cl l (i:Int)).2.1,b.2.2.1,()) b.2.1) run (i:Int) (f.2.1.length:Int) (cl l (i:Int)).2.2.2.2.1
theorem addF_holds (f:FinT) (x:LegT) (p:Int):Holds f (addF f x p) 0:=⟨rfl,rfl,rfl,rfl,by show f.2.2.2.2.2.1.length≤_;omega,rfl⟩
theorem rideF_holds (f:FinT) (i:Nat) (a l:Int):Holds f (rideF f i a l) 0:=⟨rfl,List.length_modify ..,rfl,rfl,by show f.2.2.2.2.2.1.length≤_;omega,rfl⟩
theorem followF_holds (f:FinT) (run call l:Int) (al:Bool):Holds f (followF f run call l al) (outAt f run).length∧(followF f run call l al).2.1=f.2.1:=followFold_holds ..
theorem visitStep_holds (run:Int) (b:BrdT) (fr:CallT) (l:List CallT) (f:FinT) (i:Nat):Holds f (visitStep run b fr l f i) (outAt f run).length∧(visitStep run b fr l f i).2.1.length≤f.2.1.length+1:=by
 unfold visitStep
 cases (!(cl l (i:Int)).2.2.2.2.1&&decide ((outAt f run).length=0)) with
 |true=>exact⟨(Holds.refl f).weak (Nat.zero_le _),Nat.le_succ _⟩
 |false=>
  simp only[cond_false]
  generalize (true,run,b.1,(i:Int),fr.1,(cl l (i:Int)).1,fr.2.2.1,(cl l (i:Int)).2.1,b.2.2.1,())=x
  obtain⟨h1,h2⟩:=followF_holds (addF f x b.2.1) run (i:Int) (f.2.1.length:Int) (cl l (i:Int)).2.2.2.2.1
  have h3:=(addF_holds f x b.2.1).trans h1
  have ho:outAt (addF f x b.2.1) run=outAt f run:=rfl
  rw[ho] at h3
  have hlab: (followF (addF f x b.2.1) run (i:Int) (f.2.1.length:Int) (cl l (i:Int)).2.2.2.2.1).2.1.length=f.2.1.length+1:=by
   rw[h2];simp [addF]
  cases ((cl l (i:Int)).2.2.2.2.1&&less (plcAt (followF (addF f x b.2.1) run (i:Int) (f.2.1.length:Int) (cl l (i:Int)).2.2.2.2.1) (cl l (i:Int)).1).2.1 (cl l (i:Int)).2.1) with
  |true=>
   simp only[cond_true]
   refine⟨(h3.trans (rideF_holds ..)).weak (by omega), ?_⟩
   show (followF (addF f x b.2.1) run (i:Int) (f.2.1.length:Int) (cl l (i:Int)).2.2.2.2.1).2.1.length≤_
   omega
  |false=>
   simp only[cond_false]
   exact⟨h3.weak (by omega),by omega⟩
structure St (f:FinT):Prop where
 sound:Sound f.1
 now:f.2.2.1.length=f.1.1.length
 linked:f.2.2.2.1.length=f.1.2.2.1.length
 runs:f.2.2.2.2.1.length=f.1.2.2.1.length
 outl:f.2.2.2.2.2.2.1.length=f.1.2.2.1.length
 out: ∀ks∈f.2.2.2.2.2.2.1,ks.length≤1024∧ ∀k∈ks,inR k f.1.2.2.2.1.length=true∧LinkOk f.1 (lkI f.1 k)
theorem St.step {f g:FinT} {k:Nat} (h:St f) (x:Holds f g k):St g:=
 ⟨by rw[x.net];exact h.sound,by rw[x.now,x.net];exact h.now,by rw[x.linked,x.net];exact h.linked,by rw[x.runs,x.net];exact h.runs,by rw[x.out,x.net];exact h.outl,by rw[x.out,x.net];exact h.out⟩
theorem outAt_len {f:FinT} (h:St f) (run:Int): (outAt f run).length≤1024:=by
 unfold outAt
 by_cases hr:run.toNat<f.2.2.2.2.2.2.1.length
 ·rw[getD_of hr];exact(h.out _ (List.getElem_mem hr)).1
 ·rw[List.getElem?_eq_none (by omega)];simp
theorem visitStep_val {f:FinT} (h:St f) {run i:Nat} (b:BrdT) (fr:CallT) (hrun:run<f.1.2.2.1.length) (hi:i< (f.1.2.2.1[run]).2.2.2.2.2.2.2.1.length) (hl:f.2.1.length<4000000000) (ho:f.2.2.2.2.2.1.length+1024<4000000000):
  (Option.bind (idx (f.1.2.2.1[run]).2.2.2.2.2.2.2.1 (i:Int)) fun x5=>
 Option.bind
 (bif !x5.2.2.2.2.1 then Option.bind (idx f.2.2.2.2.2.2.1 (run:Int)) fun x6=>some (decide ((↑(List.length x6):Int)=(0:Int)))
 else some false)
 fun x7=>
 bif x7 then
 some
 (Sum.inl
 (f,
 IntKind.wrap .i64 ((i:Int)+(1:Int))))
 else
 Option.bind
 (F83
 f
 (true,(run:Int),b.1,(i:Int),fr.1,x5.1,fr.2.2.1,x5.2.1,b.2.2.1,()) b.2.1)
 fun x8=>
 Option.bind
 (F85
 x8.1
 (run:Int) (i:Int) x8.2 x5.2.2.2.2.1)
 fun x9=>
 Option.bind (inb x5.1 (List.length x9.2.2.1)) fun x10=>
 Option.bind
 (bif x5.2.2.2.2.1 then
 Option.bind x9.2.2.1[x10]? fun x11=>
 bif decide (x11.2.1=(-1:Int)) then some true
 else Option.bind x9.2.2.1[x10]? fun x12=>some (decide (x5.2.1<x12.2.1))
 else some false)
 fun x13=>
 bif x13 then
 Option.bind x9.2.2.1[x10]? fun x14=>
 Option.bind (List.set x9.2.2.1 x10 (x14.1,x5.2.1,x14.2.2))[x10]? fun x15=>
 some
 (.inl
 ((x9.1,x9.2.1,
 List.set (List.set x9.2.2.1 x10 (x14.1,x5.2.1,x14.2.2)) x10
 (x15.1,x15.2.1,x15.2.2.1,x15.2.2.2.1,x8.2,x15.2.2.2.2.2),
 x9.2.2.2.1,x9.2.2.2.2.1,x9.2.2.2.2.2.1,x9.2.2.2.2.2.2.1,()),
 IntKind.wrap .i64 ((i:Int)+(1:Int))))
 else
 some
 (.inl
 (x9,
 IntKind.wrap .i64 ((i:Int)+(1:Int)))))=(some (.inl (visitStep (run:Int) b fr (f.1.2.2.1[run]).2.2.2.2.2.2.2.1 f i,((i+1:Nat):Int))):Option ((FinT×Int) ⊕ FinT)):=by
 have hmem:=List.getElem_mem hrun
 have hcalls:=(h.sound.many _ hmem).2
 have w1:IntKind.wrap .i64 ((i:Int)+1)=((i+1:Nat):Int):=by rw[wrap_i64 (by omega) (by omega)];omega
 have ec:cl (f.1.2.2.1[run]).2.2.2.2.2.2.2.1 (i:Int)=(f.1.2.2.1[run]).2.2.2.2.2.2.2.1[i]:=by unfold cl;rw[Int.toNat_natCast,getD_of hi]
 have hst:=h.sound.call _ hmem _ (List.getElem_mem hi)
 unfold visitStep
 rw[ec,w1]
 simp only[idx_nat hi,Option.bind_some]
 have ho2:run<f.2.2.2.2.2.2.1.length:=by rw[h.outl];exact hrun
 have eo:outAt f (run:Int)=f.2.2.2.2.2.2.1[run]:=by unfold outAt;rw[Int.toNat_natCast,getD_of ho2]
 rw[eo]
 simp only[idx_nat ho2,Option.bind_some]
 have hcall:inR (i:Int) (rn f.1 (run:Int)).2.2.2.2.2.2.2.1.length=true:=by
  unfold rn inR
  rw[Int.toNat_natCast,getD_of hrun,Bool.and_eq_true,decide_eq_true_eq,decide_eq_true_eq]
  omega
 have hrr:inR (run:Int) f.1.2.2.1.length=true:=by
  unfold inR
  rw[Bool.and_eq_true,decide_eq_true_eq,decide_eq_true_eq]
  omega
 generalize (f.1.2.2.1[run]).2.2.2.2.2.2.2.1[i]=c at*
 have e1: (bif !c.2.2.2.2.1 then some (decide (((f.2.2.2.2.2.2.1[run]).length:Int)=0)) else some false)=some (!c.2.2.2.2.1&&decide ((f.2.2.2.2.2.2.1[run]).length=0)):=by
  rw[show decide (((f.2.2.2.2.2.2.1[run]).length:Int)=0)=decide ((f.2.2.2.2.2.2.1[run]).length=0) from decide_eq_decide.2 (by omega)]
  cases c.2.2.2.2.1<;>rfl
 rw[e1]
 simp only[Option.bind_some]
 cases (!c.2.2.2.2.1&&decide ((f.2.2.2.2.2.2.1[run]).length=0)) with
 |true=>rfl
 |false=>
  simp only[cond_false]
  rw[add_val f hl]
  simp only[Option.bind_some]
  generalize (true,(run:Int),b.1,(i:Int),fr.1,c.1,fr.2.2.1,c.2.1,b.2.2.1,())=x
  have hA:=addF_holds f x b.2.1
  have hS:=h.step hA
  rw[followF_val (addF f x b.2.1) (f.2.1.length:Int) c.2.2.2.2.1 hrr hcall hS.outl hS.out hS.runs hS.linked ho]
  simp only[Option.bind_some]
  have hG:=hS.step (followF_holds (addF f x b.2.1) (run:Int) (i:Int) (f.2.1.length:Int) c.2.2.2.2.1).1
  have hnet:=(followF_holds (addF f x b.2.1) (run:Int) (i:Int) (f.2.1.length:Int) c.2.2.2.2.1).1.net
  generalize followF (addF f x b.2.1) (run:Int) (i:Int) (f.2.1.length:Int) c.2.2.2.2.1=g at*
  obtain⟨s,hs⟩: ∃s:Nat,c.1=(s:Int):=⟨c.1.toNat,by omega⟩
  have hsl:s<g.2.2.1.length:=by
   rw[hG.now,hnet]
   show s<f.1.1.length
   omega
  rw[hs]
  unfold plcAt
  simp only[inb_nat hsl,Option.bind_some,List.getElem?_eq_getElem hsl,Int.toNat_natCast,Option.getD_some]
  rw[lessP_val]
  cases c.2.2.2.2.1 with
  |false=>rfl
  |true=>
   simp only[cond_true,Option.bind_some,Bool.true_and]
   cases less (g.2.2.1[s]).2.1 c.2.1 with
   |false=>rfl
   |true=>
    simp only[cond_true,List.getElem?_set_self hsl,Option.bind_some,List.set_set]
    unfold rideF
    rw[modify_set hsl]
def visitL (run:Int) (b:BrdT) (fr:CallT) (l:List CallT) (k:Nat):Nat→FinT→FinT
 |0,f=>f
 |m+1,f=>visitStep run b fr l (visitL run b fr l k m f) (k+m)
theorem visitL_holds (run:Int) (b:BrdT) (fr:CallT) (l:List CallT) (k:Nat): ∀ (m:Nat) (f:FinT),St f→Holds f (visitL run b fr l k m f) (1024*m)∧(visitL run b fr l k m f).2.1.length≤f.2.1.length+m
 |0,f,_=>⟨(Holds.refl f).weak (by omega),by show f.2.1.length≤_;omega⟩
 |m+1,f,h=>by
  obtain⟨h1,h2⟩:=visitL_holds run b fr l k m f h
  obtain⟨h3,h4⟩:=visitStep_holds run b fr l (visitL run b fr l k m f) (k+m)
  have h5:=outAt_len (h.step h1) run
  refine⟨(h1.trans h3).weak (by omega), ?_⟩
  show (visitStep run b fr l (visitL run b fr l k m f) (k+m)).2.1.length≤_
  omega
def visitF (f:FinT) (i:Nat):FinT:=
 visitL (i:Int) ((f.2.2.2.2.1[i]?).getD (0,0,false,())) (cl (rn f.1 (i:Int)).2.2.2.2.2.2.2.1 ((f.2.2.2.2.1[i]?).getD (0,0,false,())).1) (rn f.1 (i:Int)).2.2.2.2.2.2.2.1 (((f.2.2.2.2.1[i]?).getD (0,0,false,())).1.toNat+1)
  ((rn f.1 (i:Int)).2.2.2.2.2.2.2.1.length - (((f.2.2.2.2.1[i]?).getD (0,0,false,())).1.toNat+1)) f
theorem visit_val {f:FinT} (h:St f) {i:Nat} (hi:i<f.1.2.2.1.length) (hb:inR ((f.2.2.2.2.1[i]?).getD (0,0,false,())).1 (f.1.2.2.1[i]).2.2.2.2.2.2.2.1.length=true) (hl:f.2.1.length+100<4000000000) (ho:f.2.2.2.2.2.1.length+100000<4000000000):
  F89 f (i:Int)=some (visitF f i):=by
 unfold F89 visitF
 have hi' :i<f.2.2.2.2.1.length:=by rw[h.runs];exact hi
 have hr:rn f.1 (i:Int)=f.1.2.2.1[i]:=by unfold rn;rw[Int.toNat_natCast,getD_of hi]
 rw[hr]
 rw[getD_of hi'] at hb ⊢
 simp only[inb_nat hi',Option.bind_some,List.getElem?_eq_getElem hi',idx_nat hi]
 generalize f.2.2.2.2.1[i]=b at*
 have hcalls:=(h.sound.many _ (List.getElem_mem hi)).2
 rw[idx_int hb c0]
 simp only[Option.bind_some]
 rw[show (((f.1.2.2.1[i]).2.2.2.2.2.2.2.1[b.1.toNat]?).getD c0)=cl (f.1.2.2.1[i]).2.2.2.2.2.2.2.1 b.1 from rfl]
 generalize cl (f.1.2.2.1[i]).2.2.2.2.2.2.2.1 b.1=fr
 unfold inR at hb
 simp only[Bool.and_eq_true,decide_eq_true_eq] at hb
 obtain⟨k,hk⟩: ∃k:Nat,b.1=(k:Int):=⟨b.1.toNat,by omega⟩
 generalize hL: (f.1.2.2.1[i]).2.2.2.2.2.2.2.1=l at*
 have hkl:k<l.length:=by omega
 have w0:IntKind.wrap .i64 (b.1+1)=((k+1+0:Nat):Int):=by rw[hk,wrap_i64 (by omega) (by omega)];omega
 rw[w0,show b.1.toNat=k by omega]
 refine bind_of (fun r=>r=visitL (i:Int) b fr l (k+1) (l.length - (k+1)) f) ?_ (fun r hr=>by rw[hr])
 refine run_for (l.length - (k+1)) _ (fun m (st:FinT×Int)=>st=(visitL (i:Int) b fr l (k+1) m f,((k+1+m:Nat):Int))) ?_ ?_ _ rfl
 ·rintro m _ hm rfl
  left
  obtain⟨h1,h2⟩:=visitL_holds (i:Int) b fr l (k+1) m f h
  have hS:=h.step h1
  have hnet:=h1.net
  have hopn:=h1.opn
  show∃s',_=_∧s' =(visitStep (i:Int) b fr l (visitL (i:Int) b fr l (k+1) m f) (k+1+m),((k+1+m+1:Nat):Int))
  generalize visitL (i:Int) b fr l (k+1) m f=g at*
  have hrun:i<g.1.2.2.1.length:=by rw[hnet];exact hi
  have hL2: (g.1.2.2.1[i]).2.2.2.2.2.2.2.1=l:=by
   have:g.1.2.2.1[i]=f.1.2.2.1[i]:=by simp only[hnet]
   rw[this,hL]
  have hv:=visitStep_val hS (run:=i) (i:=k+1+m) b fr hrun (by rw[hL2];omega) (by omega) (by omega)
  rw[hL2] at hv
  refine⟨_, ?_,rfl⟩
  rw[lt_dec (show k+1+m<l.length by omega)]
  exact hv
 ·rintro _ rfl
  rw[show k+1+(l.length - (k+1))=l.length by omega]
  simp only[nlt_dec,cond_false]
  exact⟨_,rfl,rfl⟩
end Q
namespace Q
open Tr Go
abbrev b00:BrdT:=(-1, -1,false,())
theorem unboarded_val {n:Nat} (hn:n≤4096):F91 (n:Int)=some (List.replicate n b00):=by
 unfold F91
 have hg:guardB (decide ((0:Int)≤(n:Int)∧(n:Int)≤(n:Int)∧(n:Int)≤(maxApp:Int)))=some ():=by
  have hm: (maxApp:Int)=4294967296:=by simp [maxApp]
  rw[decide_eq_true (by rw[hm];omega)];rfl
 erw[hg]
 simp only[Option.bind_some,Int.toNat_natCast,List.length_replicate]
 refine bind_of (fun r=>r=List.replicate n b00) ?_ (fun r hr=>by rw[hr])
 refine run_for n _ (fun i (st:List BrdT×Int)=>st=(List.replicate i b00++List.replicate (n - i) (0,0,false,()),(i:Int))) ?_ ?_ _ (by simp)
 ·rintro i _ hi rfl
  left
  have hlen: (List.replicate i b00++List.replicate (n - i) ((0,0,false,()):BrdT)).length=n:=by simp;omega
  simp only[lt_dec hi,cond_true,hlen,inb_nat hi,Option.bind_some]
  rw[List.getElem?_eq_getElem (by rw[hlen];exact hi)]
  simp only[Option.bind_some]
  refine⟨_,rfl, ?_⟩
  rw[wrap_succ hi (by omega)]
  have e:n - i=(n - (i+1))+1:=by omega
  rw[e,List.replicate_succ,List.set_append_right _ _ (by simp),List.length_replicate,Nat.sub_self,List.set_cons_zero,List.replicate_succ',List.append_assoc]
  rfl
 ·rintro _ rfl
  simp only[nlt_dec,cond_false,Nat.sub_self,List.replicate_zero,List.append_nil]
  exact⟨_,rfl,rfl⟩
def callStep (before:List PlcT) (i:Nat) (l:List CallT) (f:FinT) (k:Nat):FinT:=
 bif (cl l (k:Int)).2.2.2.1&& (!decide (((before[(cl l (k:Int)).1.toNat]?).getD (0,0,0,0,0,0,())).2.2.1= -1) && (decide (((before[(cl l (k:Int)).1.toNat]?).getD (0,0,0,0,0,0,())).2.2.1≤(cl l (k:Int)).2.2.1) &&less ((f.2.2.2.2.1[i]?).getD (0,0,false,())).1 (k:Int))) then
  boardF f i ((k:Int),((before[(cl l (k:Int)).1.toNat]?).getD (0,0,0,0,0,0,())).2.2.2.2.2.1,false,()) else f
theorem callStep_holds (before:List PlcT) (i:Nat) (l:List CallT) (f:FinT) (k:Nat):Holds f (callStep before i l f k) 1∧(callStep before i l f k).2.1=f.2.1:=by
 unfold callStep
 generalize ((before[(cl l (k:Int)).1.toNat]?).getD (0,0,0,0,0,0,()))=p
 cases ((cl l (k:Int)).2.2.2.1&& (!decide (p.2.2.1= -1) && (decide (p.2.2.1≤(cl l (k:Int)).2.2.1) &&less ((f.2.2.2.2.1[i]?).getD (0,0,false,())).1 (k:Int)))) with
 |true=>exact⟨boardF_holds ..,boardF_lab ..⟩
 |false=>exact⟨(Holds.refl f).weak (by omega),rfl⟩
def callsF (before:List PlcT) (i:Nat) (l:List CallT):Nat→FinT→FinT
 |0,f=>f
 |m+1,f=>callStep before i l (callsF before i l m f) m
theorem callsF_holds (before:List PlcT) (i:Nat) (l:List CallT): ∀ (m:Nat) (f:FinT),Holds f (callsF before i l m f) m∧(callsF before i l m f).2.1=f.2.1
 |0,f=>⟨Holds.refl f,rfl⟩
 |m+1,f=>by
  obtain⟨h1,h2⟩:=callsF_holds before i l m f
  obtain⟨h3,h4⟩:=callStep_holds before i l (callsF before i l m f) m
  exact⟨h1.trans h3,h4.trans h2⟩
theorem of_ex {α:Type} {o:Option α} {z:α} (h: ∃r,o=some r∧r=z):o=some z:=by
 obtain⟨r,rfl,rfl⟩:=h;rfl
theorem calls_val {before:List PlcT} {f:FinT} (h:St f) {i:Nat} (hi:i<f.1.2.2.1.length) (hb:before.length=f.1.1.length) (ho:f.2.2.2.2.2.1.length+100<4000000000):
  Tr.run
 (fun s11:FinT×Int=>
 bif decide (s11.2< (↑(List.length (f.1.2.2.1[i]).2.2.2.2.2.2.2.1):Int)) then
 Option.bind (idx (f.1.2.2.1[i]).2.2.2.2.2.2.2.1 s11.2) fun x12=>
 Option.bind (idx before x12.1) fun x13=>
 Option.bind
 (bif x12.2.2.2.1 then
 bif !decide (x13.2.2.1=(-1:Int)) then
 bif decide (x13.2.2.1≤x12.2.2.1) then
 Option.bind (inb (i:Int) (List.length s11.1.2.2.2.2.1)) fun x14=>
 Option.bind s11.1.2.2.2.2.1[x14]? fun x15=>Option.bind (F79 x15 s11.2) fun x16=>some x16
 else some false
 else some false
 else some false)
 fun x17=>
 bif x17 then
 Option.bind
 (F84
 s11.1
 (i:Int) (s11.2,x13.2.2.2.2.2.1,false,()))
 fun x18=>
 some
 (.inl
 (x18,
 IntKind.wrap .i64 (s11.2+(1:Int))))
 else
 some
 (.inl
 (s11.1,
 IntKind.wrap .i64 (s11.2+(1:Int))))
 else
 some
 (.inr
 s11.1))
 (f,(0:Int))=some (callsF before i (f.1.2.2.1[i]).2.2.2.2.2.2.2.1 (f.1.2.2.1[i]).2.2.2.2.2.2.2.1.length f):=by
 have hmem:=List.getElem_mem hi
 have hmany:=(h.sound.many _ hmem).2
 have hcall:=h.sound.call _ hmem
 generalize hL: (f.1.2.2.1[i]).2.2.2.2.2.2.2.1=l at*
 refine of_ex (run_for l.length _ (fun k (st:FinT×Int)=>st=(callsF before i l k f,(k:Int))) ?_ ?_ _ rfl)
 ·rintro k _ hk rfl
  left
  obtain⟨h1,h2⟩:=callsF_holds before i l k f
  have hS:=h.step h1
  have hopn:=h1.opn
  have hnet:=h1.net
  show∃s',_=_∧s' =(callStep before i l (callsF before i l k f) k,((k+1:Nat):Int))
  generalize callsF before i l k f=g at*
  have hc:=hcall _ (List.getElem_mem hk)
  have ec:cl l (k:Int)=l[k]:=by unfold cl;rw[Int.toNat_natCast,getD_of hk]
  unfold callStep
  rw[ec]
  have hin:inR (l[k]).1 before.length=true:=by
   unfold inR
   rw[Bool.and_eq_true,decide_eq_true_eq,decide_eq_true_eq,hb]
   exact hc
  simp only[lt_dec hk,cond_true,idx_nat hk,Option.bind_some,wrap_succ hk (show _≤9223372036854775807 by omega)]
  rw[idx_int hin (0,0,0,0,0,0,())]
  simp only[Option.bind_some]
  generalize (before[(l[k]).1.toNat]?).getD (0,0,0,0,0,0,())=p
  have hig:i<g.2.2.2.2.1.length:=by rw[hS.runs,hnet];exact hi
  have hir:i<g.1.2.2.1.length:=by rw[hnet];exact hi
  simp only[inb_nat hig,Option.bind_some,List.getElem?_eq_getElem hig,earlier_val,Option.getD_some]
  rw[board_val g hir hS.runs (by omega)]
  cases (l[k]).2.2.2.1 with
  |false=>exact⟨_,rfl,rfl⟩
  |true=>
   simp only[cond_true,Bool.true_and]
   cases decide (p.2.2.1= -1) with
   |true=>exact⟨_,rfl,rfl⟩
   |false=>
    simp only[Bool.not_false,cond_true,Bool.true_and]
    cases decide (p.2.2.1≤(l[k]).2.2.1) with
    |false=>exact⟨_,rfl,rfl⟩
    |true=>
     simp only[cond_true,Option.bind_some,Bool.true_and]
     cases less (g.2.2.2.2.1[i]).1 (k:Int)<;>exact⟨_,rfl,rfl⟩
 ·rintro _ rfl
  simp only[nlt_dec,cond_false]
  exact⟨_,rfl,rfl⟩
def beginF (before:List PlcT) (boarded:List BrdT) (f:FinT) (i:Nat):FinT:=
 callsF before i (rn f.1 (i:Int)).2.2.2.2.2.2.2.1 (rn f.1 (i:Int)).2.2.2.2.2.2.2.1.length (bif !decide (((boarded[i]?).getD (0,0,false,())).1= -1) then boardF f i ((boarded[i]?).getD (0,0,false,())) else f)
theorem beginF_holds {before:List PlcT} {boarded:List BrdT} {f:FinT} (h:St f) {i:Nat} (hi:i<f.1.2.2.1.length):Holds f (beginF before boarded f i) 33∧(beginF before boarded f i).2.1=f.2.1:=by
 unfold beginF
 have hr:rn f.1 (i:Int)=f.1.2.2.1[i]:=by unfold rn;rw[Int.toNat_natCast,getD_of hi]
 rw[hr]
 have hm:=(h.sound.many _ (List.getElem_mem hi)).2
 have h0:Holds f (bif !decide (((boarded[i]?).getD (0,0,false,())).1= -1) then boardF f i ((boarded[i]?).getD (0,0,false,())) else f) 1∧(bif !decide (((boarded[i]?).getD (0,0,false,())).1= -1) then boardF f i ((boarded[i]?).getD (0,0,false,())) else f).2.1=f.2.1:=by
  cases !decide (((boarded[i]?).getD (0,0,false,())).1= -1) with
  |true=>exact⟨boardF_holds ..,boardF_lab ..⟩
  |false=>exact⟨(Holds.refl f).weak (by omega),rfl⟩
 obtain⟨h1,h2⟩:=callsF_holds before i (f.1.2.2.1[i]).2.2.2.2.2.2.2.1 (f.1.2.2.1[i]).2.2.2.2.2.2.2.1.length (bif !decide (((boarded[i]?).getD (0,0,false,())).1= -1) then boardF f i ((boarded[i]?).getD (0,0,false,())) else f)
 exact⟨(h0.1.trans h1).weak (by omega),h2.trans h0.2⟩
def beginL (before:List PlcT) (boarded:List BrdT):Nat→FinT→FinT
 |0,f=>f
 |m+1,f=>beginF before boarded (beginL before boarded m f) m
theorem beginL_holds {before:List PlcT} {boarded:List BrdT} : ∀ (m:Nat) {f:FinT},St f→m≤f.1.2.2.1.length→Holds f (beginL before boarded m f) (33*m)∧(beginL before boarded m f).2.1=f.2.1
 |0,f,_,_=>⟨(Holds.refl f).weak (by omega),rfl⟩
 |m+1,f,h,hm=>by
  obtain⟨h1,h2⟩:=beginL_holds (before:=before) (boarded:=boarded) m h (by omega)
  obtain⟨h3,h4⟩:=beginF_holds (before:=before) (boarded:=boarded) (h.step h1) (i:=m) (by rw[h1.net];omega)
  exact⟨(h1.trans h3).weak (by omega),h4.trans h2⟩
def room (b:BrdT):Nat:=if b.1= -1 then 40 else b.1.toNat
def rooms (l:List BrdT):Nat:=(l.map room).sum
theorem rooms_set {l:List BrdT} {i:Nat} (hi:i<l.length) (b:BrdT):rooms (l.set i b)+room l[i]=rooms l+room b:=by
 unfold rooms
 induction l generalizing i with
 |nil=>simp at hi
 |cons x l ih=>
  cases i with
  |zero=>simp;omega
  |succ i=>
   have:=ih (i:=i) (by simpa using hi)
   simp only[List.set_cons_succ,List.map_cons,List.sum_cons,List.getElem_cons_succ]
   omega
structure Brd (f:FinT):Prop where
 call: ∀b∈f.2.2.2.2.1,b.1= -1∨0≤b.1∧b.1<32
 opn: ∀r∈f.2.2.2.2.2.1, ∃i:Nat,r=(i:Int)∧ ∃hi:i<f.1.2.2.1.length,inR ((f.2.2.2.2.1[i]?).getD (0,0,false,())).1 (f.1.2.2.1[i]).2.2.2.2.2.2.2.1.length=true
def fall (f:FinT):Nat:=2*rooms f.2.2.2.2.1+f.2.2.2.2.2.1.length
theorem less_iff {a b:Int} :less a b=true↔a= -1∨b<a:=by
 unfold less
 rw[Bool.or_eq_true,decide_eq_true_eq,decide_eq_true_eq]
theorem boardF_fall {f:FinT} (h:St f) (hb:Brd f) {i:Nat} (hi:i<f.1.2.2.1.length) {b:BrdT} (hc:inR b.1 (f.1.2.2.1[i]).2.2.2.2.2.2.2.1.length=true):Brd (boardF f i b)∧fall (boardF f i b)≤fall f:=by
 have hc' :=hc
 unfold inR at hc'
 simp only[Bool.and_eq_true,decide_eq_true_eq] at hc'
 have hm:=(h.sound.many _ (List.getElem_mem hi)).2
 have hi' :i<f.2.2.2.2.1.length:=by rw[h.runs];exact hi
 unfold boardF
 rw[getD_of hi']
 cases hg: (!(rn f.1 (i:Int)).2.2.2.2.2.2.1&&less (f.2.2.2.2.1[i]).1 b.1) with
 |false=>exact⟨hb,Nat.le_refl _⟩
 |true=>
  simp only[cond_true]
  rw[Bool.and_eq_true] at hg
  have hl:=less_iff.1 hg.2
  have hold:=hb.call _ (List.getElem_mem hi')
  refine⟨⟨fun x hx=> ?_,fun r hr=> ?_⟩, ?_⟩
  ·rcases List.mem_or_eq_of_mem_set hx with hx|rfl
   ·exact hb.call x hx
   ·exact .inr ⟨hc'.1,by omega⟩
  ·have key: ∀j:Nat, ∀hj:j<f.1.2.2.1.length,(j=i∨inR ((f.2.2.2.2.1[j]?).getD (0,0,false,())).1 (f.1.2.2.1[j]).2.2.2.2.2.2.2.1.length=true)→inR (((f.2.2.2.2.1.set i b)[j]?).getD (0,0,false,())).1 (f.1.2.2.1[j]).2.2.2.2.2.2.2.1.length=true:=by
    intro j hj hjj
    by_cases e:i=j
    ·subst e
     rw[List.getElem?_set_self hi'];exact hc
    ·rw[List.getElem?_set_ne e]
     exact hjj.resolve_left fun e' =>e e'.symm
   rcases List.mem_append.1 hr with hr|hr
   ·obtain⟨j,rfl,hj,hjb⟩:=hb.opn r hr
    exact⟨j,rfl,hj,key j hj (.inr hjb)⟩
   ·simp only[List.mem_singleton] at hr
    exact⟨i,hr,hi,key i hi (.inl rfl)⟩
  ·have hs:=rooms_set hi' b
   unfold fall
   simp only[List.length_append,List.length_cons,List.length_nil]
   have h1:room b<room f.2.2.2.2.1[i]:=by
    unfold room
    rw[if_neg (by omega)]
    split
    ·omega
    ·omega
   omega
theorem Brd.same {f g:FinT} (h:Brd f) (h1:g.1=f.1) (h2:g.2.2.2.2.1=f.2.2.2.2.1) (h3:g.2.2.2.2.2.1=f.2.2.2.2.2.1):Brd g∧fall g≤fall f:=by
 refine⟨⟨by rw[h2];exact h.call, ?_⟩,by unfold fall;rw[h2,h3];exact Nat.le_refl _⟩
 rw[h3,h2,h1];exact h.opn
theorem followStep_fall {f:FinT} (h:St f) (hb:Brd f) (call arr l:Int) (al:Bool) {k:Int} (hk:LinkOk f.1 (lkI f.1 k)):Brd (followStep call arr l al f k)∧fall (followStep call arr l al f k)≤fall f:=by
 unfold followStep
 cases (!decide ((lkI f.1 k).2.1=call) ||decide ((cl (rn f.1 (lkI f.1 k).2.2.1).2.2.2.2.2.2.2.1 (lkI f.1 k).2.2.2.1).2.2.1<arr)) with
 |true=>exact⟨hb,Nat.le_refl _⟩
 |false=>
  simp only[cond_false]
  cases (lkI f.1 k).2.2.2.2.1 with
  |true=>
   simp only[cond_true]
   have ht:=hk.to
   unfold inR at ht
   simp only[Bool.and_eq_true,decide_eq_true_eq] at ht
   have hj: (lkI f.1 k).2.2.1.toNat<f.1.2.2.1.length:=by omega
   have hc:=hk.call
   unfold rn at hc
   rw[getD_of hj] at hc
   exact boardF_fall h hb hj hc
  |false=>
   simp only[cond_false]
   cases (al&& ((cl (rn f.1 (lkI f.1 k).2.2.1).2.2.2.2.2.2.2.1 (lkI f.1 k).2.2.2.1).2.2.2.1&&less ((f.2.2.2.1[(lkI f.1 k).2.2.1.toNat]?).getD (0,0,false,())).1 (lkI f.1 k).2.2.2.1)) with
   |true=>exact hb.same rfl rfl rfl
   |false=>exact⟨hb,Nat.le_refl _⟩
theorem followFold_fall (call arr l:Int) (al:Bool): ∀ (ks:List Int) {f:FinT},St f→Brd f→(∀k∈ks,LinkOk f.1 (lkI f.1 k))→Brd (ks.foldl (followStep call arr l al) f)∧fall (ks.foldl (followStep call arr l al) f)≤fall f
 | [],f,_,hb,_=>⟨hb,Nat.le_refl _⟩
 |k::ks,f,h,hb,hk=>by
  obtain⟨h1,_⟩:=followStep_holds call arr l al f k
  obtain⟨h2,h3⟩:=followStep_fall h hb call arr l al (hk k (by simp))
  obtain⟨h4,h5⟩:=followFold_fall call arr l al ks (h.step h1) h2 (fun k' hk' =>by rw[h1.net];exact hk k' (by simp [hk']))
  exact⟨h4,Nat.le_trans h5 h3⟩
theorem followF_fall {f:FinT} (h:St f) (hb:Brd f) (run call l:Int) (al:Bool):Brd (followF f run call l al)∧fall (followF f run call l al)≤fall f:=by
 unfold followF
 by_cases hr:run.toNat<f.2.2.2.2.2.2.1.length
 ·rw[getD_of hr]
  exact followFold_fall _ _ _ _ _ h hb fun k hk=>((h.out _ (List.getElem_mem hr)).2 k hk).2
 ·rw[List.getElem?_eq_none (by omega)]
  exact⟨hb,Nat.le_refl _⟩
theorem visitStep_fall {f:FinT} (h:St f) (hb:Brd f) (run:Int) (b:BrdT) (fr:CallT) (l:List CallT) (i:Nat):Brd (visitStep run b fr l f i)∧fall (visitStep run b fr l f i)≤fall f:=by
 unfold visitStep
 cases (!(cl l (i:Int)).2.2.2.2.1&&decide ((outAt f run).length=0)) with
 |true=>exact⟨hb,Nat.le_refl _⟩
 |false=>
  simp only[cond_false]
  generalize (true,run,b.1,(i:Int),fr.1,(cl l (i:Int)).1,fr.2.2.1,(cl l (i:Int)).2.1,b.2.2.1,())=x
  obtain⟨a1,a2⟩:=hb.same (g:=addF f x b.2.1) rfl rfl rfl
  obtain⟨b1,b2⟩:=followF_fall (h.step (addF_holds f x b.2.1)) a1 run (i:Int) (f.2.1.length:Int) (cl l (i:Int)).2.2.2.2.1
  generalize followF (addF f x b.2.1) run (i:Int) (f.2.1.length:Int) (cl l (i:Int)).2.2.2.2.1=g at*
  cases ((cl l (i:Int)).2.2.2.2.1&&less (plcAt g (cl l (i:Int)).1).2.1 (cl l (i:Int)).2.1) with
  |true=>
   simp only[cond_true]
   obtain⟨c1,c2⟩:=b1.same (g:=rideF g (cl l (i:Int)).1.toNat (cl l (i:Int)).2.1 (f.2.1.length:Int)) rfl rfl rfl
   exact⟨c1,Nat.le_trans c2 (Nat.le_trans b2 a2)⟩
  |false=>exact⟨b1,Nat.le_trans b2 a2⟩
theorem visitL_fall (run:Int) (b:BrdT) (fr:CallT) (l:List CallT) (k:Nat): ∀ (m:Nat) {f:FinT},St f→Brd f→Brd (visitL run b fr l k m f)∧fall (visitL run b fr l k m f)≤fall f
 |0,f,_,hb=>⟨hb,Nat.le_refl _⟩
 |m+1,f,h,hb=>by
  obtain⟨h1,h2⟩:=visitL_fall run b fr l k m h hb
  obtain⟨h3,_⟩:=visitL_holds run b fr l k m f h
  obtain⟨h4,h5⟩:=visitStep_fall (h.step h3) h1 run b fr l (k+m)
  exact⟨h4,Nat.le_trans h5 h2⟩
def popF (f:FinT):FinT:=(f.1,f.2.1,f.2.2.1,f.2.2.2.1,f.2.2.2.2.1,f.2.2.2.2.2.1.take (f.2.2.2.2.2.1.length - 1),f.2.2.2.2.2.2)
noncomputable def openStep (s21:FinT):Option (FinT ⊕ FinT):=
 bif decide ((0:Int)< (↑(List.length s21.2.2.2.2.2.1):Int)) then
 Option.bind (inb (IntKind.wrap .i64 ((↑(List.length s21.2.2.2.2.2.1):Int) - (1:Int))) (List.length s21.2.2.2.2.2.1)) fun x22=>
 Option.bind s21.2.2.2.2.2.1[x22]? fun x23=>
 Option.bind
 (sliceB (List.length s21.2.2.2.2.2.1) (List.length s21.2.2.2.2.2.1) none
 (some (IntKind.wrap .i64 ((↑(List.length s21.2.2.2.2.2.1):Int) - (1:Int)))))
 fun x24=>
 Option.bind
 (F89
 (s21.1,s21.2.1,s21.2.2.1,s21.2.2.2.1,s21.2.2.2.2.1,List.take x24.2 s21.2.2.2.2.2.1,s21.2.2.2.2.2.2.1,())
 x23)
 fun x25=>
 some (.inl x25)
 else some (.inr s21)
theorem popF_ok {f:FinT} (h:St f) (hb:Brd f):St (popF f)∧Brd (popF f):=
 ⟨⟨h.sound,h.now,h.linked,h.runs,h.outl,h.out⟩,⟨hb.call,fun r hr=>hb.opn r (List.mem_of_mem_take hr)⟩⟩
theorem openStep_val {f:FinT} (h:St f) (hb:Brd f) (h0:0<f.2.2.2.2.2.1.length) (hl:f.2.1.length+100<4000000000) (ho:f.2.2.2.2.2.1.length+100000<4000000000):
  ∃i:Nat,i<f.1.2.2.1.length∧inR ((f.2.2.2.2.1[i]?).getD (0,0,false,())).1 (f.1.2.2.1[i]!).2.2.2.2.2.2.2.1.length=true∧openStep f=some (.inl (visitF (popF f) i))∧f.2.2.2.2.2.1=(popF f).2.2.2.2.2.1++[(i:Int)]:=by
 have hlast:f.2.2.2.2.2.1.length - 1<f.2.2.2.2.2.1.length:=by omega
 obtain⟨i,hi,hil,hib⟩:=hb.opn _ (List.getElem_mem hlast)
 have hpop:f.2.2.2.2.2.1=(popF f).2.2.2.2.2.1++[(i:Int)]:=by
  show _=f.2.2.2.2.2.1.take (f.2.2.2.2.2.1.length - 1)++[(i:Int)]
  rw[←hi, ←List.take_succ_eq_append_getElem hlast,show f.2.2.2.2.2.1.length - 1+1=f.2.2.2.2.2.1.length by omega,List.take_length]
 refine⟨i,hil,by rw[getElem!_pos f.1.2.2.1 i hil];exact hib, ?_,hpop⟩
 unfold openStep
 have w1:IntKind.wrap .i64 ((f.2.2.2.2.2.1.length:Int) - 1)=((f.2.2.2.2.2.1.length - 1:Nat):Int):=by rw[wrap_i64 (by omega) (by omega)];omega
 rw[decide_eq_true (show (0:Int)< (f.2.2.2.2.2.1.length:Int) by omega),w1]
 simp only[cond_true,inb_nat hlast,Option.bind_some,List.getElem?_eq_getElem hlast,hi]
 have e2:Tr.sliceB f.2.2.2.2.2.1.length f.2.2.2.2.2.1.length none (some ((f.2.2.2.2.2.1.length - 1:Nat):Int))=some (0,f.2.2.2.2.2.1.length - 1):=by
  unfold Tr.sliceB
  simp only[if_pos (show (0:Int)≤((f.2.2.2.2.2.1.length - 1:Nat):Int)∧((f.2.2.2.2.2.1.length - 1:Nat):Int)≤(f.2.2.2.2.2.1.length:Int) from ⟨by omega,by omega⟩),Option.bind_some,Int.toNat_natCast]
 rw[e2]
 simp only[Option.bind_some]
 have hp:=popF_ok h hb
 have hv:=visit_val hp.1 (i:=i) hil hib hl (by show (f.2.2.2.2.2.1.take (f.2.2.2.2.2.1.length - 1)).length+100000<_;rw[List.length_take];omega)
 show (Option.bind (F89 (popF f) (i:Int)) fun x25=>some (Sum.inl x25))=_
 rw[hv]
 rfl
theorem open_loop (P:FinT→Prop) (hP: ∀ (f:FinT) (i:Nat),St f→Brd f→(hi:i<f.1.2.2.1.length)→f.2.2.2.2.2.1=(popF f).2.2.2.2.2.1++[(i:Int)]→inR ((f.2.2.2.2.1[i]?).getD (0,0,false,())).1 (f.1.2.2.1[i]).2.2.2.2.2.2.2.1.length=true→P f→P (visitF (popF f) i)): ∀ (k:Nat) {f:FinT},fall f≤k→St f→Brd f→P f→f.2.1.length+32*k+100<4000000000→k<1000000→
  ∃g,run openStep f=some g∧St g∧Brd g∧P g∧g.2.2.2.2.2.1=[]∧g.1=f.1∧g.2.1.length≤f.2.1.length+32*k∧g.2.2.2.2.2.2=f.2.2.2.2.2.2
 |0,f,hk,h,hb,hp,hl,_=>by
  have h0:f.2.2.2.2.2.1.length=0:=by unfold fall at hk;omega
  refine⟨f,run_inr ?_,h,hb,hp,List.length_eq_zero_iff.1 h0,rfl,by omega,rfl⟩
  unfold openStep
  rw[h0]
  rfl
 |k+1,f,hk,h,hb,hp,hl,hkb=>by
  by_cases h0:f.2.2.2.2.2.1.length=0
  ·refine⟨f,run_inr ?_,h,hb,hp,List.length_eq_zero_iff.1 h0,rfl,by omega,rfl⟩
   unfold openStep
   rw[h0]
   rfl
  ·obtain⟨i,hi,hin,hv,hpop⟩:=openStep_val h hb (by omega) (by omega) (by unfold fall at hk;omega)
   obtain⟨p1,p2⟩:=popF_ok h hb
   have hpf:fall (popF f)+1=fall f:=by
    unfold fall
    show 2*rooms f.2.2.2.2.1+(f.2.2.2.2.2.1.take (f.2.2.2.2.2.1.length - 1)).length+1=_
    rw[List.length_take];omega
   have hh:=visitL_holds (i:Int) (((popF f).2.2.2.2.1[i]?).getD (0,0,false,())) (cl (rn (popF f).1 (i:Int)).2.2.2.2.2.2.2.1 (((popF f).2.2.2.2.1[i]?).getD (0,0,false,())).1) (rn (popF f).1 (i:Int)).2.2.2.2.2.2.2.1 ((((popF f).2.2.2.2.1[i]?).getD (0,0,false,())).1.toNat+1) ((rn (popF f).1 (i:Int)).2.2.2.2.2.2.2.1.length - ((((popF f).2.2.2.2.1[i]?).getD (0,0,false,())).1.toNat+1)) (popF f) p1
   have hf:=visitL_fall (i:Int) (((popF f).2.2.2.2.1[i]?).getD (0,0,false,())) (cl (rn (popF f).1 (i:Int)).2.2.2.2.2.2.2.1 (((popF f).2.2.2.2.1[i]?).getD (0,0,false,())).1) (rn (popF f).1 (i:Int)).2.2.2.2.2.2.2.1 ((((popF f).2.2.2.2.1[i]?).getD (0,0,false,())).1.toNat+1) ((rn (popF f).1 (i:Int)).2.2.2.2.2.2.2.1.length - ((((popF f).2.2.2.2.1[i]?).getD (0,0,false,())).1.toNat+1)) p1 p2
   have hcl: (rn (popF f).1 (i:Int)).2.2.2.2.2.2.2.1.length≤32:=by
    have hr:rn (popF f).1 (i:Int)=f.1.2.2.1[i]:=by unfold rn;rw[Int.toNat_natCast];exact getD_of hi _
    rw[hr]
    exact(h.sound.many _ (List.getElem_mem hi)).2
   change Holds (popF f) (visitF (popF f) i) _∧(visitF (popF f) i).2.1.length≤_ at hh
   change Brd (visitF (popF f) i)∧fall (visitF (popF f) i)≤_ at hf
   have hlab: (visitF (popF f) i).2.1.length≤f.2.1.length+32:=by
    have h5:=hh.2
    have h6: (popF f).2.1.length=f.2.1.length:=rfl
    omega
   obtain⟨g,g1,g2,g3,g4,g5,g6,g7,g8⟩:=open_loop P hP k (f:=visitF (popF f) i) (by have:=hf.2;omega) (p1.step hh.1) hf.1 (hP f i h hb hi hpop (by rw[getElem!_pos f.1.2.2.1 i hi] at hin;exact hin) hp) (by omega) (by omega)
   refine⟨g,(run_inl hv).trans g1,g2,g3,g4,g5,g6.trans hh.1.net,by omega,g8.trans hh.1.out⟩
theorem callStep_fall {before:List PlcT} {f:FinT} (h:St f) (hb:Brd f) {i:Nat} (hi:i<f.1.2.2.1.length) {k:Nat} (hk:k< (f.1.2.2.1[i]).2.2.2.2.2.2.2.1.length) (l:List CallT):Brd (callStep before i l f k)∧fall (callStep before i l f k)≤fall f:=by
 unfold callStep
 generalize ((before[(cl l (k:Int)).1.toNat]?).getD (0,0,0,0,0,0,()))=p
 cases ((cl l (k:Int)).2.2.2.1&& (!decide (p.2.2.1= -1) && (decide (p.2.2.1≤(cl l (k:Int)).2.2.1) &&less ((f.2.2.2.2.1[i]?).getD (0,0,false,())).1 (k:Int)))) with
 |false=>exact⟨hb,Nat.le_refl _⟩
 |true=>
  simp only[cond_true]
  refine boardF_fall h hb hi ?_
  unfold inR
  rw[Bool.and_eq_true,decide_eq_true_eq,decide_eq_true_eq]
  exact⟨Int.natCast_nonneg _,by simpa using hk⟩
theorem callsF_fall {before:List PlcT} {i:Nat} (l:List CallT): ∀ (m:Nat) {f:FinT},St f→Brd f→(hi:i<f.1.2.2.1.length)→m≤(f.1.2.2.1[i]).2.2.2.2.2.2.2.1.length→Brd (callsF before i l m f)∧fall (callsF before i l m f)≤fall f
 |0,_,_,hb,_,_=>⟨hb,Nat.le_refl _⟩
 |m+1,f,h,hb,hi,hm=>by
  obtain⟨h1,h2⟩:=callsF_fall (before:=before) l m h hb hi (by omega)
  obtain⟨h3,_⟩:=callsF_holds before i l m f
  have hi' :i< (callsF before i l m f).1.2.2.1.length:=by rw[h3.net];exact hi
  have e: (callsF before i l m f).1.2.2.1[i]=f.1.2.2.1[i]:=by simp only[h3.net]
  obtain⟨h4,h5⟩:=callStep_fall (before:=before) (h.step h3) h1 hi' (k:=m) (by rw[e];omega) l
  exact⟨h4,Nat.le_trans h5 h2⟩
theorem beginF_fall {before:List PlcT} {boarded:List BrdT} {f:FinT} (h:St f) (hb:Brd f) {i:Nat} (hi:i<f.1.2.2.1.length) (hbd: ((boarded[i]?).getD (0,0,false,())).1= -1∨inR ((boarded[i]?).getD (0,0,false,())).1 (f.1.2.2.1[i]).2.2.2.2.2.2.2.1.length=true):Brd (beginF before boarded f i)∧fall (beginF before boarded f i)≤fall f:=by
 unfold beginF
 have hr:rn f.1 (i:Int)=f.1.2.2.1[i]:=by unfold rn;rw[Int.toNat_natCast,getD_of hi]
 rw[hr]
 by_cases hz: ((boarded[i]?).getD (0,0,false,())).1= -1
 ·rw[decide_eq_true hz]
  exact callsF_fall _ _ h hb hi (Nat.le_refl _)
 ·rw[decide_eq_false hz]
  simp only[Bool.not_false,cond_true]
  obtain⟨h1,h2⟩:=boardF_fall h hb hi (hbd.resolve_left hz)
  have hh:=boardF_holds f i ((boarded[i]?).getD (0,0,false,()))
  have hi' :i< (boardF f i ((boarded[i]?).getD (0,0,false,()))).1.2.2.1.length:=by rw[hh.net];exact hi
  have e: (boardF f i ((boarded[i]?).getD (0,0,false,()))).1.2.2.1[i]=f.1.2.2.1[i]:=by simp only[hh.net]
  obtain⟨h3,h4⟩:=callsF_fall (before:=before) (f.1.2.2.1[i]).2.2.2.2.2.2.2.1 (f.1.2.2.1[i]).2.2.2.2.2.2.2.1.length (h.step hh) h1 hi' (by rw[e];exact Nat.le_refl _)
  exact⟨h3,Nat.le_trans h4 h2⟩
theorem beginL_fall {before:List PlcT} {boarded:List BrdT} : ∀ (m:Nat) {f:FinT},St f→Brd f→m≤f.1.2.2.1.length→(∀i,(hi:i<f.1.2.2.1.length)→((boarded[i]?).getD (0,0,false,())).1= -1∨inR ((boarded[i]?).getD (0,0,false,())).1 (f.1.2.2.1[i]).2.2.2.2.2.2.2.1.length=true)→
  Brd (beginL before boarded m f)∧fall (beginL before boarded m f)≤fall f
 |0,_,_,hb,_,_=>⟨hb,Nat.le_refl _⟩
 |m+1,f,h,hb,hm,hbd=>by
  obtain⟨h1,h2⟩:=beginL_fall (before:=before) m h hb (by omega) hbd
  obtain⟨h3,_⟩:=beginL_holds (before:=before) (boarded:=boarded) m h (by omega)
  have hi' :m< (beginL before boarded m f).1.2.2.1.length:=by rw[h3.net];omega
  have e: (beginL before boarded m f).1.2.2.1[m]=f.1.2.2.1[m]'(by omega):=by simp only[h3.net]
  obtain⟨h4,h5⟩:=beginF_fall (before:=before) (boarded:=boarded) (h.step h3) h1 hi' (by rw[e];exact hbd m (by omega))
  exact⟨h4,Nat.le_trans h5 h2⟩
def p00:PlcT:=(0,0,0,0,0,0,())
def lastStep (before:List PlcT) (f:FinT) (s:Nat):FinT:=
 bif !decide (((f.2.2.1[s]?).getD p00).2.1= -1) &&less ((before[s]?).getD p00).2.1 ((f.2.2.1[s]?).getD p00).2.1 then
  walkF (impF f s ((f.2.2.1[s]?).getD p00).2.1 (((f.2.2.1[s]?).getD p00).2.1+(stOf f.1 (s:Int)).2.2.2.1) ((f.2.2.1[s]?).getD p00).2.2.2.2.1) (s:Int) ((f.2.2.1[s]?).getD p00).2.1 ((f.2.2.1[s]?).getD p00).2.2.2.2.1
 else f
theorem walkStep_holds (s at' prev:Int) (f:FinT) (p:Foot):Holds f (walkStep s at' prev f p) 0:=by
 unfold walkStep
 split
 ·exact⟨rfl,by simp [impF,addF],rfl,rfl,by show f.2.2.2.2.2.1.length≤_;omega,rfl⟩
 ·exact Holds.refl f
theorem walkFold_holds (s at' prev:Int): ∀ (l:List Foot) (f:FinT),Holds f (l.foldl (walkStep s at' prev) f) 0
 | [],f=>Holds.refl f
 |p::l,f=>(walkStep_holds s at' prev f p).trans (walkFold_holds s at' prev l _)
theorem walkF_holds (f:FinT) (s at' prev:Int):Holds f (walkF f s at' prev) 0:=walkFold_holds ..
theorem impF_holds (f:FinT) (i:Nat) (a r l:Int):Holds f (impF f i a r l) 0:=⟨rfl,by simp [impF],rfl,rfl,by show f.2.2.2.2.2.1.length≤_;omega,rfl⟩
theorem lastStep_holds (before:List PlcT) (f:FinT) (s:Nat):Holds f (lastStep before f s) 0∧(lastStep before f s).2.1.length≤f.2.1.length+f.1.2.2.2.2.1.length:=by
 unfold lastStep
 cases (!decide (((f.2.2.1[s]?).getD p00).2.1= -1) &&less ((before[s]?).getD p00).2.1 ((f.2.2.1[s]?).getD p00).2.1) with
 |false=>exact⟨Holds.refl f,Nat.le_add_right _ _⟩
 |true=>
  simp only[cond_true]
  exact⟨(impF_holds ..).trans (walkF_holds ..),(walkFold_keeps _ _ _ f.1.2.2.2.2.1 (impF f s ((f.2.2.1[s]?).getD p00).2.1 (((f.2.2.1[s]?).getD p00).2.1+(stOf f.1 (s:Int)).2.2.2.1) ((f.2.2.1[s]?).getD p00).2.2.2.2.1)).lab⟩
def lastL (before:List PlcT):Nat→FinT→FinT
 |0,f=>f
 |m+1,f=>lastStep before (lastL before m f) m
theorem lastL_holds (before:List PlcT): ∀ (m:Nat) (f:FinT),Holds f (lastL before m f) 0∧(lastL before m f).2.1.length≤f.2.1.length+m*f.1.2.2.2.2.1.length
 |0,f=>⟨Holds.refl f,by show f.2.1.length≤_;omega⟩
 |m+1,f=>by
  obtain⟨h1,h2⟩:=lastL_holds before m f
  obtain⟨h3,h4⟩:=lastStep_holds before (lastL before m f) m
  refine⟨h1.trans h3, ?_⟩
  show (lastStep before (lastL before m f) m).2.1.length≤_
  rw[h1.net] at h4
  have e: (m+1) *f.1.2.2.2.2.1.length=m*f.1.2.2.2.2.1.length+f.1.2.2.2.2.1.length:=by rw[Nat.succ_mul]
  omega
theorem lastStep_val {before:List PlcT} {f:FinT} (h:St f) {s:Nat} (hs:s<f.2.2.1.length) (hb:before.length=f.2.2.1.length) (hr: (f.2.2.1[s]).2.1= -1∨0≤(f.2.2.1[s]).2.1∧(f.2.2.1[s]).2.1≤3155932800) (hch:0≤(stOf f.1 (s:Int)).2.2.2.1∧(stOf f.1 (s:Int)).2.2.2.1≤3600)
  (hl:f.2.1.length+f.1.2.2.2.2.1.length<4000000000) (hp:f.1.2.2.2.2.1.length≤4096) (hto: ∀p∈f.1.2.2.2.2.1,0≤p.2.1∧p.2.1< (f.1.1.length:Int)∧0≤p.2.2.1∧p.2.2.1≤14400):
  (Option.bind (inb (s:Int) (List.length f.2.2.1)) fun x28=>
 Option.bind f.2.2.1[x28]? fun x29=>
 Option.bind
 (bif !decide (x29.2.1=(-1:Int)) then
 Option.bind (idx before (s:Int)) fun x30=>
 bif decide (x30.2.1=(-1:Int)) then some true
 else Option.bind (idx before (s:Int)) fun x31=>some (decide (x29.2.1<x31.2.1))
 else some false)
 fun x32=>
 bif x32 then
 Option.bind (idx f.1.1 (s:Int)) fun x33=>
 Option.bind
 (F86
 f
 (s:Int) x29.2.1 (IntKind.wrap .i64 (x29.2.1+x33.2.2.2.1)) x29.2.2.2.2.1)
 fun x34=>
 Option.bind
 (F90
 x34 (s:Int)
 x29.2.1 x29.2.2.2.2.1)
 fun x35=>
 some
 (Sum.inl
 (x35,
 IntKind.wrap .i64 ((s:Int)+(1:Int))))
 else
 some
 (.inl
 (f,
 IntKind.wrap .i64 ((s:Int)+(1:Int)))))=(some (.inl (lastStep before f s,((s+1:Nat):Int))):Option ((FinT×Int) ⊕ FinT)):=by
 have hst:=h.sound.stops
 have hsn:s<f.1.1.length:=by rw[←h.now];exact hs
 have w1:IntKind.wrap .i64 ((s:Int)+1)=((s+1:Nat):Int):=by rw[wrap_i64 (by omega) (by omega)];omega
 have hsb:s<before.length:=by omega
 have es:f.1.1[s]=stOf f.1 (s:Int):=by unfold stOf;rw[Int.toNat_natCast,getD_of hsn]
 unfold lastStep
 rw[w1]
 simp only[inb_nat hs,Option.bind_some,List.getElem?_eq_getElem hs,idx_nat hsb,idx_nat hsn,List.getElem?_eq_getElem hsb,Option.getD_some,es]
 rw[lessP_val]
 by_cases hz: (f.2.2.1[s]).2.1= -1
 ·rw[decide_eq_true hz];rfl
 ·rw[decide_eq_false hz]
  have hr2:=hr.resolve_left hz
  simp only[Bool.not_false,cond_true,Option.bind_some,Bool.true_and]
  cases less (before[s]).2.1 (f.2.2.1[s]).2.1 with
  |false=>rfl
  |true=>
   simp only[cond_true]
   have w2:IntKind.wrap .i64 ((f.2.2.1[s]).2.1+(stOf f.1 (s:Int)).2.2.2.1)=(f.2.2.1[s]).2.1+(stOf f.1 (s:Int)).2.2.2.1:=wrap_i64 (by omega) (by omega)
   rw[w2,improve_val f hs]
   simp only[Option.bind_some]
   have hn:=(impF_holds f s (f.2.2.1[s]).2.1 ((f.2.2.1[s]).2.1+(stOf f.1 (s:Int)).2.2.2.1) (f.2.2.1[s]).2.2.2.2.1).now
   rw[walk_val (impF f s (f.2.2.1[s]).2.1 ((f.2.2.1[s]).2.1+(stOf f.1 (s:Int)).2.2.2.1) (f.2.2.1[s]).2.2.2.2.1) (f.2.2.1[s]).2.2.2.2.1 hr2.1 hr2.2 hl hp (fun p hp' =>by
    obtain⟨a1,a2,a3,a4⟩:=hto p hp'
    refine⟨a1, ?_,a3,a4⟩
    rw[hn,h.now];exact a2)]
   rfl
theorem begin_val {before:List PlcT} {boarded:List BrdT} {f:FinT} (h:St f) (hb:before.length=f.1.1.length) (hbl:boarded.length=f.1.2.2.1.length) (ho:f.2.2.2.2.2.1.length+100000<4000000000):
  Tr.run
 (fun s3:FinT×Int=>
 bif decide (s3.2< (↑(List.length f.1.2.2.1):Int)) then
 Option.bind (idx f.1.2.2.1 s3.2) fun x4=>
 Option.bind (inb s3.2 (List.length boarded)) fun x5=>
 Option.bind boarded[x5]? fun x6=>
 Option.bind
 (bif !decide (x6.1=(-1:Int)) then
 Option.bind (inb s3.2 (List.length boarded)) fun x7=>
 Option.bind boarded[x7]? fun x8=>
 Option.bind
 (F84
 s3.1
 s3.2 x8)
 fun x9=>some x9
 else
 some
 s3.1)
 fun x10=>
 Option.bind
 (Tr.run
 (fun s11:FinT×Int=>
 bif decide (s11.2< (↑(List.length x4.2.2.2.2.2.2.2.1):Int)) then
 Option.bind (idx x4.2.2.2.2.2.2.2.1 s11.2) fun x12=>
 Option.bind (idx before x12.1) fun x13=>
 Option.bind
 (bif x12.2.2.2.1 then
 bif !decide (x13.2.2.1=(-1:Int)) then
 bif decide (x13.2.2.1≤x12.2.2.1) then
 Option.bind (inb s3.2 (List.length s11.1.2.2.2.2.1)) fun x14=>
 Option.bind s11.1.2.2.2.2.1[x14]? fun x15=>Option.bind (F79 x15 s11.2) fun x16=>some x16
 else some false
 else some false
 else some false)
 fun x17=>
 bif x17 then
 Option.bind
 (F84
 s11.1
 s3.2 (s11.2,x13.2.2.2.2.2.1,false,()))
 fun x18=>
 some
 (.inl
 (x18,
 IntKind.wrap .i64 (s11.2+(1:Int))))
 else
 some
 (.inl
 (s11.1,
 IntKind.wrap .i64 (s11.2+(1:Int))))
 else
 some
 (.inr
 s11.1))
 (x10,(0:Int)))
 fun x19=>
 some
 (.inl
 (x19,
 IntKind.wrap .i64 (s3.2+(1:Int))))
 else
 some
 (.inr
 s3.1))
 (f,(0:Int))=some (beginL before boarded f.1.2.2.1.length f):=by
 have hruns:=h.sound.runs
 refine of_ex (run_for f.1.2.2.1.length _ (fun k (st:FinT×Int)=>st=(beginL before boarded k f,(k:Int))) ?_ ?_ _ rfl)
 ·rintro k _ hk rfl
  left
  obtain⟨h1,h2⟩:=beginL_holds (before:=before) (boarded:=boarded) k h (by omega)
  have hS:=h.step h1
  have hopn:=h1.opn
  have hnet:=h1.net
  show∃s',_=_∧s' =(beginF before boarded (beginL before boarded k f) k,((k+1:Nat):Int))
  generalize beginL before boarded k f=g at*
  have hkb:k<boarded.length:=by omega
  have hkg:k<g.1.2.2.1.length:=by rw[hnet];exact hk
  have e:g.1.2.2.1[k]=f.1.2.2.1[k]:=by simp only[hnet]
  have er:rn g.1 (k:Int)=f.1.2.2.1[k]:=by unfold rn;rw[Int.toNat_natCast,getD_of hkg,e]
  unfold beginF
  rw[er,getD_of hkb]
  simp only[lt_dec hk,cond_true,idx_nat hk,Option.bind_some,inb_nat hkb,List.getElem?_eq_getElem hkb,wrap_succ hk (show _≤9223372036854775807 by omega)]
  rw[board_val g hkg hS.runs (by omega)]
  have hval: ∀g' :FinT,Holds g g' 1→_:=fun g' hg' =>by
   have hk' :k<g'.1.2.2.1.length:=by rw[hg'.net];exact hkg
   have e' :g'.1.2.2.1[k]=f.1.2.2.1[k]:=by simp only[hg'.net,hnet]
   have hv:=calls_val (before:=before) (hS.step hg') hk' (by rw[hg'.net,hnet];exact hb) (by have:=hg'.opn;omega)
   rw[e'] at hv
   exact hv
  cases decide ((boarded[k]).1= -1) with
  |true=>
   have hv:=hval g ((Holds.refl g).weak (by omega))
   refine⟨_, ?_,rfl⟩
   simp only[Bool.not_true,cond_false,Option.bind_some]
   exact congrArg (fun o=>Option.bind o fun x19=>some (Sum.inl (x19,((k+1:Nat):Int)))) hv
  |false=>
   have hv:=hval _ (boardF_holds g k boarded[k])
   refine⟨_, ?_,rfl⟩
   simp only[Bool.not_false,cond_true,Option.bind_some]
   exact congrArg (fun o=>Option.bind o fun x19=>some (Sum.inl (x19,((k+1:Nat):Int)))) hv
 ·rintro _ rfl
  simp only[nlt_dec,cond_false]
  exact⟨_,rfl,rfl⟩
def rideAt (f:FinT) (j:Nat):Int:=((f.2.2.1[j]?).getD p00).2.1
theorem impP_ride (p:PlcT) (a r l:Int): (impP p a r l).2.1=p.2.1:=by
 unfold impP rdyP arrP
 cases less p.1 a<;>simp only[cond_true,cond_false]
 ·cases less p.2.2.1 r<;>rfl
 ·cases less p.2.2.1 r<;>rfl
theorem impF_ride (f:FinT) (i:Nat) (a r l:Int) (j:Nat):rideAt (impF f i a r l) j=rideAt f j:=by
 unfold rideAt impF
 simp only[List.getElem?_modify]
 cases f.2.2.1[j]? with
 |none=>rfl
 |some p=>
  simp only[Option.getD_some]
  split
  ·exact impP_ride ..
  ·rfl
theorem walkStep_ride (s at' prev:Int) (f:FinT) (p:Foot) (j:Nat):rideAt (walkStep s at' prev f p) j=rideAt f j:=by
 unfold walkStep
 split
 ·exact(impF_ride ..).trans rfl
 ·rfl
theorem walkFold_ride (s at' prev:Int) (j:Nat): ∀ (l:List Foot) (f:FinT),rideAt (l.foldl (walkStep s at' prev) f) j=rideAt f j
 | [],_=>rfl
 |p::l,f=>(walkFold_ride s at' prev j l _).trans (walkStep_ride s at' prev f p j)
theorem lastStep_ride (before:List PlcT) (f:FinT) (s j:Nat):rideAt (lastStep before f s) j=rideAt f j:=by
 unfold lastStep
 cases (!decide (((f.2.2.1[s]?).getD p00).2.1= -1) &&less ((before[s]?).getD p00).2.1 ((f.2.2.1[s]?).getD p00).2.1) with
 |false=>rfl
 |true=>exact(walkFold_ride ..).trans (impF_ride ..)
theorem lastL_ride (before:List PlcT) (j:Nat): ∀ (m:Nat) (f:FinT),rideAt (lastL before m f) j=rideAt f j
 |0,_=>rfl
 |m+1,f=>(lastStep_ride before _ m j).trans (lastL_ride before j m f)
theorem lastL_val {before:List PlcT} {f:FinT} (h:St f) (hb:before.length=f.2.2.1.length) (hr: ∀j,j<f.2.2.1.length→rideAt f j= -1∨0≤rideAt f j∧rideAt f j≤3155932800) (hch: ∀s:Nat,s<f.1.1.length→0≤(stOf f.1 (s:Int)).2.2.2.1∧(stOf f.1 (s:Int)).2.2.2.1≤3600)
  (hl:f.2.1.length+100*4096<4000000000) (hp:f.1.2.2.2.2.1.length≤4096) (hto: ∀p∈f.1.2.2.2.2.1,0≤p.2.1∧p.2.1< (f.1.1.length:Int)∧0≤p.2.2.1∧p.2.2.1≤14400):
  Tr.run
 (fun s27:FinT×Int=>
 bif decide (s27.2< (↑(List.length f.2.2.1):Int)) then
 Option.bind (inb s27.2 (List.length s27.1.2.2.1)) fun x28=>
 Option.bind s27.1.2.2.1[x28]? fun x29=>
 Option.bind
 (bif !decide (x29.2.1=(-1:Int)) then
 Option.bind (idx before s27.2) fun x30=>
 bif decide (x30.2.1=(-1:Int)) then some true
 else Option.bind (idx before s27.2) fun x31=>some (decide (x29.2.1<x31.2.1))
 else some false)
 fun x32=>
 bif x32 then
 Option.bind (idx s27.1.1.1 s27.2) fun x33=>
 Option.bind
 (F86
 s27.1
 s27.2 x29.2.1 (IntKind.wrap .i64 (x29.2.1+x33.2.2.2.1)) x29.2.2.2.2.1)
 fun x34=>
 Option.bind
 (F90
 x34 s27.2
 x29.2.1 x29.2.2.2.2.1)
 fun x35=>
 some
 (.inl
 (x35,
 IntKind.wrap .i64 (s27.2+(1:Int))))
 else
 some
 (.inl
 (s27.1,
 IntKind.wrap .i64 (s27.2+(1:Int))))
 else
 some
 (.inr
 s27.1))
 (f,(0:Int))=some (lastL before f.2.2.1.length f):=by
 have hst:=h.sound.stops
 have hnl:f.2.2.1.length≤64:=by rw[h.now];exact hst
 refine of_ex (run_for f.2.2.1.length _ (fun k (st:FinT×Int)=>st=(lastL before k f,(k:Int))) ?_ ?_ _ rfl)
 ·rintro k _ hk rfl
  left
  obtain⟨h1,h2⟩:=lastL_holds before k f
  have hS:=h.step h1
  have hnet:=h1.net
  have hnow:=h1.now
  have hrd:=lastL_ride before k k f
  have hmul:k*f.1.2.2.2.2.1.length≤64*4096:=Nat.mul_le_mul (by omega) hp
  show∃s',_=_∧s' =(lastStep before (lastL before k f) k,((k+1:Nat):Int))
  generalize lastL before k f=g at*
  have hkg:k<g.2.2.1.length:=by omega
  have e: (g.2.2.1[k]).2.1=rideAt f k:=by rw[←hrd];unfold rideAt;rw[getD_of hkg]
  refine⟨_, ?_,rfl⟩
  rw[lt_dec hk]
  simp only[cond_true]
  exact lastStep_val hS hkg (by omega) (by rw[e];exact hr k hk) (by rw[hnet];exact hch k (by rw[←h.now];exact hk)) (by rw[hnet];omega) (by rw[hnet];exact hp) (by rw[hnet];exact hto)
 ·rintro _ rfl
  simp only[nlt_dec,cond_false]
  exact⟨_,rfl,rfl⟩
end Q
namespace Q
open Tr Go
structure Ctx (n:NetT) (s0 t0 w:Int):Prop where
 net:NetOk n
 stop:0≤s0∧s0< (n.1.length:Int)
 time:0≤t0∧t0≤3155932800
 wait:0≤w∧w≤3600
variable {n:NetT} {s0 t0 w:Int}
theorem Ctx.ok (C:Ctx n s0 t0 w) {f:Fact} {js:List LegT} (d:Der n s0 t0 w f js):f.ok n:=d.ok C.net C.stop C.time C.wait
structure SP (D:Fact→List LegT→Prop) (lb:List LabT) (K:Nat) (s:Int) (p:PlcT):Prop where
 arr:p.1≠ -1→ ∃k,k≤K∧ ∃js,Ch lb p.2.2.2.1 js∧D (.arr k s p.1) js
 rid:p.2.1≠ -1→ ∃k,k≤K∧ ∃js,Ch lb p.2.2.2.2.1 js∧D (.rid k s p.2.1) js
 rdy:p.2.2.1≠ -1→ ∃k,k≤K∧ ∃js,Ch lb p.2.2.2.2.2.1 js∧D (.rdy k s p.2.2.1) js
def SB (D:Fact→List LegT→Prop) (lb:List LabT) (K i:Nat) (b:BrdT):Prop:=b.1≠ -1→ ∃k,k≤K∧ ∃c:Nat,b.1=(c:Int)∧ ∃js,Ch lb b.2.1 js∧D (.brd k i c b.2.2.1) js
def SL (D:Fact→List LegT→Prop) (lb:List LabT) (K i:Nat) (b:BrdT):Prop:=b.1≠ -1→b.2.2.1=false∧ ∃k,k≤K+1∧ ∃c:Nat,b.1=(c:Int)∧ ∃js,Ch lb b.2.1 js∧D (.lnk k i c) js
structure Snd (D:Fact→List LegT→Prop) (K:Nat) (f:FinT):Prop where
 now: ∀ (s:Nat) p,f.2.2.1[s]? =some p→SP D f.2.1 K (s:Int) p
 brd: ∀ (i:Nat) b,f.2.2.2.2.1[i]? =some b→SB D f.2.1 K i b
 lnk: ∀ (i:Nat) b,f.2.2.2.1[i]? =some b→SL D f.2.1 K i b
variable {D:Fact→List LegT→Prop} {lb:List LabT} {K:Nat}
theorem SP.app {s:Int} {p:PlcT} (h:SP D lb K s p) (m:List LabT):SP D (lb++m) K s p:=
 ⟨fun e=>let ⟨k,a,js,b,c⟩:=h.arr e;⟨k,a,js,b.app m,c⟩,fun e=>let ⟨k,a,js,b,c⟩:=h.rid e;⟨k,a,js,b.app m,c⟩,fun e=>let ⟨k,a,js,b,c⟩:=h.rdy e;⟨k,a,js,b.app m,c⟩⟩
theorem SP.weak {s:Int} {p:PlcT} {K' :Nat} (h:SP D lb K s p) (hk:K≤K'):SP D lb K' s p:=
 ⟨fun e=>let ⟨k,a,r⟩:=h.arr e;⟨k,by omega,r⟩,fun e=>let ⟨k,a,r⟩:=h.rid e;⟨k,by omega,r⟩,fun e=>let ⟨k,a,r⟩:=h.rdy e;⟨k,by omega,r⟩⟩
theorem SB.app {i:Nat} {b:BrdT} (h:SB D lb K i b) (m:List LabT):SB D (lb++m) K i b:=
 fun e=>let ⟨k,a,c,e1,js,b,d⟩:=h e;⟨k,a,c,e1,js,b.app m,d⟩
theorem SL.app {i:Nat} {b:BrdT} (h:SL D lb K i b) (m:List LabT):SL D (lb++m) K i b:=
 fun e=>let ⟨z,k,a,c,e1,js,b,d⟩:=h e;⟨z,k,a,c,e1,js,b.app m,d⟩
theorem impP_arr (p:PlcT) (a r l:Int): (impP p a r l).1=bif less p.1 a then a else p.1:=by
 unfold impP rdyP arrP
 cases less p.1 a<;>simp only[cond_true,cond_false]<;>cases less p.2.2.1 r<;>rfl
theorem impP_rdy (p:PlcT) (a r l:Int): (impP p a r l).2.2.1=bif less p.2.2.1 r then r else p.2.2.1:=by
 unfold impP rdyP arrP
 cases less p.1 a<;>simp only[cond_true,cond_false]<;>cases less p.2.2.1 r<;>rfl
theorem SP.imp {s:Int} {p:PlcT} (h:SP D lb K s p) {a r l:Int} (ha: ∃k,k≤K∧ ∃js,Ch lb l js∧D (.arr k s a) js) (hr: ∃k,k≤K∧ ∃js,Ch lb l js∧D (.rdy k s r) js):SP D lb K s (impP p a r l):=by
 obtain⟨h1,h2,h3⟩:=h
 unfold impP rdyP arrP
 cases less p.1 a<;>simp only[cond_true,cond_false]<;>cases less p.2.2.1 r<;>simp only[cond_true,cond_false]
 ·exact⟨h1,h2,h3⟩
 ·exact⟨h1,h2,fun _=>hr⟩
 ·exact⟨fun _=>ha,h2,h3⟩
 ·exact⟨fun _=>ha,h2,fun _=>hr⟩
theorem modify_at {α:Type} {l:List α} {i:Nat} {p:α} (h:l[i]? =some p) (g:α→α): (l.modify i g)[i]? =some (g p):=by
 rw[List.getElem?_modify,h];simp
theorem modify_ne {α:Type} {l:List α} {i j:Nat} (e:i≠j) (g:α→α): (l.modify i g)[j]? =l[j]? :=by
 rw[List.getElem?_modify];simp [e]
theorem modify_some {α:Type} {l:List α} {i j:Nat} {g:α→α} {q:α} (h: (l.modify i g)[j]? =some q): ∃p,l[j]? =some p∧(i=j∧q=g p∨i≠j∧q=p):=by
 by_cases e:i=j
 ·subst e
  cases hp:l[i]? with
  |none=>rw[List.getElem?_modify,hp] at h;simp at h
  |some p=>rw[modify_at hp] at h;cases h;exact⟨p,rfl, .inl ⟨rfl,rfl⟩⟩
 ·rw[modify_ne e] at h
  exact⟨q,h, .inr ⟨e,rfl⟩⟩
theorem Snd.add {f:FinT} (h:Snd D K f) (x:LegT) (p:Int):Snd D K (addF f x p):=
 ⟨fun s q hq=>(h.now s q hq).app _,fun i b hb=>(h.brd i b hb).app _,fun i b hb=>(h.lnk i b hb).app _⟩
theorem Snd.imp {f:FinT} (h:Snd D K f) {i:Nat} {a r l:Int} (ha: ∃k,k≤K∧ ∃js,Ch f.2.1 l js∧D (.arr k (i:Int) a) js) (hr: ∃k,k≤K∧ ∃js,Ch f.2.1 l js∧D (.rdy k (i:Int) r) js):Snd D K (impF f i a r l):=by
 refine⟨fun s q hq=> ?_,h.brd,h.lnk⟩
 obtain⟨p,hp,⟨rfl,rfl⟩ | ⟨_,rfl⟩⟩:=modify_some hq
 ·exact(h.now i p hp).imp ha hr
 ·exact h.now s _ hp
theorem Snd.ride {f:FinT} (h:Snd D K f) {i:Nat} {a l:Int} (ha: ∃k,k≤K∧ ∃js,Ch f.2.1 l js∧D (.rid k (i:Int) a) js):Snd D K (rideF f i a l):=by
 refine⟨fun s q hq=> ?_,h.brd,h.lnk⟩
 obtain⟨p,hp,⟨rfl,rfl⟩ | ⟨_,rfl⟩⟩:=modify_some hq
 ·exact⟨(h.now i p hp).arr,fun _=>ha,(h.now i p hp).rdy⟩
 ·exact h.now s _ hp
theorem set_some {α:Type} {l:List α} {i j:Nat} {x y:α} (h: (l.set i x)[j]? =some y): (i=j∧y=x)∨l[j]? =some y:=by
 rw[List.getElem?_set] at h
 by_cases e:i=j
 ·rw[if_pos e] at h
  split at h
  ·exact .inl ⟨e,by simpa using h.symm⟩
  ·exact absurd h (by simp)
 ·rw[if_neg e] at h;exact .inr h
theorem Snd.board {f:FinT} (h:Snd D K f) {i:Nat} {b:BrdT} (hb: (rn f.1 (i:Int)).2.2.2.2.2.2.1=false→SB D f.2.1 K i b):Snd D K (boardF f i b):=by
 unfold boardF
 cases hc: (rn f.1 (i:Int)).2.2.2.2.2.2.1 with
 |true=>exact h
 |false=>
  cases less ((f.2.2.2.2.1[i]?).getD (0,0,false,())).1 b.1 with
  |false=>exact h
  |true=>
   refine⟨h.now,fun j x hx=> ?_,h.lnk⟩
   rcases set_some hx with ⟨rfl,rfl⟩ |hx
   ·exact hb hc
   ·exact h.brd j x hx
theorem Snd.linked {f:FinT} (h:Snd D K f) {i:Nat} {b:BrdT} (hb:SL D f.2.1 K i b):Snd D K (linkedF f i b):=by
 refine⟨h.now,h.brd,fun j x hx=> ?_⟩
 rcases set_some hx with ⟨rfl,rfl⟩ |hx
 ·exact hb
 ·exact h.lnk j x hx
def LeA (l:List PlcT) (s:Nat) (t:Int):Prop:= ∃p,l[s]? =some p∧p.1≠ -1∧p.1≤t
def LeR (l:List PlcT) (s:Nat) (t:Int):Prop:= ∃p,l[s]? =some p∧p.2.1≠ -1∧p.2.1≤t
def LeY (l:List PlcT) (s:Nat) (t:Int):Prop:= ∃p,l[s]? =some p∧p.2.2.1≠ -1∧p.2.2.1≤t
def LeB (l:List BrdT) (i:Nat) (d:Int):Prop:= ∃b,l[i]? =some b∧b.1≠ -1∧b.1≤d
theorem LeA.weak {l:List PlcT} {s:Nat} {t u:Int} (h:LeA l s t) (e:t≤u):LeA l s u:=let ⟨p,a,b,c⟩:=h;⟨p,a,b,Int.le_trans c e⟩
theorem LeR.weak {l:List PlcT} {s:Nat} {t u:Int} (h:LeR l s t) (e:t≤u):LeR l s u:=let ⟨p,a,b,c⟩:=h;⟨p,a,b,Int.le_trans c e⟩
theorem LeY.weak {l:List PlcT} {s:Nat} {t u:Int} (h:LeY l s t) (e:t≤u):LeY l s u:=let ⟨p,a,b,c⟩:=h;⟨p,a,b,Int.le_trans c e⟩
structure Mv (f g:FinT):Prop where
 net:g.1=f.1
 lab: ∃m,g.2.1=f.2.1++m
 arr: ∀s t,LeA f.2.2.1 s t→LeA g.2.2.1 s t
 rid: ∀s t,LeR f.2.2.1 s t→LeR g.2.2.1 s t
 rdy: ∀s t,LeY f.2.2.1 s t→LeY g.2.2.1 s t
 lnk: ∀i d,LeB f.2.2.2.1 i d→LeB g.2.2.2.1 i d
 brd: ∀i d,LeB f.2.2.2.2.1 i d→LeB g.2.2.2.2.1 i d
 out:g.2.2.2.2.2.2=f.2.2.2.2.2.2
theorem Mv.refl (f:FinT):Mv f f:=⟨rfl,⟨[],by simp⟩,fun _ _ h=>h,fun _ _ h=>h,fun _ _ h=>h,fun _ _ h=>h,fun _ _ h=>h,rfl⟩
theorem Mv.trans {f g h:FinT} (x:Mv f g) (y:Mv g h):Mv f h:=by
 obtain⟨m,hm⟩:=x.lab
 obtain⟨m',hm'⟩:=y.lab
 exact⟨y.net.trans x.net,⟨m++m',by rw[hm',hm,List.append_assoc]⟩,fun s t h=>y.arr s t (x.arr s t h),fun s t h=>y.rid s t (x.rid s t h),fun s t h=>y.rdy s t (x.rdy s t h),fun s t h=>y.lnk s t (x.lnk s t h),fun s t h=>y.brd s t (x.brd s t h),y.out.trans x.out⟩
theorem Mv.ch {f g:FinT} (h:Mv f g) {l:Int} {js:List LegT} (c:Ch f.2.1 l js):Ch g.2.1 l js:=by
 obtain⟨m,hm⟩:=h.lab
 rw[hm];exact c.app m
structure Op (f g:FinT):Prop where
 opn: ∀x∈f.2.2.2.2.2.1,x∈g.2.2.2.2.2.1
 chg: ∀i:Nat,g.2.2.2.2.1[i]? =f.2.2.2.2.1[i]? ∨(i:Int)∈g.2.2.2.2.2.1
theorem Op.refl (f:FinT):Op f f:=⟨fun _ h=>h,fun _=> .inl rfl⟩
theorem Op.trans {f g h:FinT} (x:Op f g) (y:Op g h):Op f h:=by
 refine⟨fun z hz=>y.opn z (x.opn z hz),fun i=> ?_⟩
 rcases y.chg i with a|a
 ·rcases x.chg i with b|b
  ·exact .inl (a.trans b)
  ·exact .inr (y.opn _ b)
 ·exact .inr a
theorem add_mv (f:FinT) (x:LegT) (p:Int):Mv f (addF f x p):=⟨rfl,⟨[(x,p,())],rfl⟩,fun _ _ h=>h,fun _ _ h=>h,fun _ _ h=>h,fun _ _ h=>h,fun _ _ h=>h,rfl⟩
theorem add_op (f:FinT) (x:LegT) (p:Int):Op f (addF f x p):=⟨fun _ h=>h,fun _=> .inl rfl⟩
theorem mn_le {a b t:Int} (hb:0≤b) (h:a≠ -1∧a≤t): (bif less a b then b else a)≠ -1∧(bif less a b then b else a)≤t:=by
 cases hl:less a b with
 |false=>exact h
 |true=>
  have:=less_iff.1 hl
  simp only[cond_true]
  omega
theorem mn_new {a b:Int} (hb:0≤b): (bif less a b then b else a)≠ -1∧(bif less a b then b else a)≤b:=by
 cases hl:less a b with
 |true=>simp only[cond_true];omega
 |false=>
  simp only[cond_false]
  have: ¬ (a= -1∨b<a):=fun e=>by rw[less_iff.2 e] at hl;cases hl
  omega
theorem modify_le {P:PlcT→Prop} {l:List PlcT} {i s:Nat} {g:PlcT→PlcT} (hg: ∀p,P p→P (g p)) (h: ∃p,l[s]? =some p∧P p): ∃p,(l.modify i g)[s]? =some p∧P p:=by
 obtain⟨p,h1,h2⟩:=h
 by_cases e:i=s
 ·subst e;exact⟨g p,modify_at h1 g,hg p h2⟩
 ·exact⟨p,(modify_ne e g).trans h1,h2⟩
theorem imp_mv (f:FinT) (i:Nat) {a r:Int} (ha:0≤a) (hr:0≤r) (l:Int):Mv f (impF f i a r l):=by
 refine⟨rfl,⟨[],by simp [impF]⟩,fun s t h=> ?_,fun s t h=> ?_,fun s t h=> ?_,fun _ _ h=>h,fun _ _ h=>h,rfl⟩
 ·refine modify_le (P:=fun p=>p.1≠ -1∧p.1≤t) (fun p hp=> ?_) h
  rw[impP_arr];exact mn_le ha hp
 ·refine modify_le (P:=fun p=>p.2.1≠ -1∧p.2.1≤t) (fun p hp=> ?_) h
  rw[impP_ride];exact hp
 ·refine modify_le (P:=fun p=>p.2.2.1≠ -1∧p.2.2.1≤t) (fun p hp=> ?_) h
  rw[impP_rdy];exact mn_le hr hp
theorem imp_new {f:FinT} {i:Nat} (hi:i<f.2.2.1.length) {a r:Int} (ha:0≤a) (hr:0≤r) (l:Int):LeA (impF f i a r l).2.2.1 i a∧LeY (impF f i a r l).2.2.1 i r:=by
 have e: (impF f i a r l).2.2.1[i]? =some (impP f.2.2.1[i] a r l):=by
  exact modify_at (List.getElem?_eq_getElem hi) _
 exact⟨⟨_,e,by rw[impP_arr];exact mn_new ha⟩,⟨_,e,by rw[impP_rdy];exact mn_new hr⟩⟩
theorem ride_mv (f:FinT) (i:Nat) {a:Int} (ha:0≤a) (hl:less (plcAt f (i:Int)).2.1 a=true) (l:Int):Mv f (rideF f i a l):=by
 refine⟨rfl,⟨[],by simp [rideF]⟩,fun s t h=> ?_,fun s t h=> ?_,fun s t h=> ?_,fun _ _ h=>h,fun _ _ h=>h,rfl⟩
 ·exact modify_le (P:=fun p=>p.1≠ -1∧p.1≤t) (fun p hp=>hp) h
 ·obtain⟨p,h1,h2⟩:=h
  by_cases e:i=s
  ·subst e
   refine⟨_,modify_at h1 _, ?_⟩
   unfold plcAt at hl
   rw[Int.toNat_natCast,h1] at hl
   have:=less_iff.1 hl
   simp only[Option.getD_some] at this
   simp only
   omega
  ·exact⟨p,(modify_ne e _).trans h1,h2⟩
 ·exact modify_le (P:=fun p=>p.2.2.1≠ -1∧p.2.2.1≤t) (fun p hp=>hp) h
theorem ride_new {f:FinT} {i:Nat} (hi:i<f.2.2.1.length) {a:Int} (ha:0≤a) (l:Int):LeR (rideF f i a l).2.2.1 i a:=by
 refine⟨((f.2.2.1[i]).1,a,(f.2.2.1[i]).2.2.1,(f.2.2.1[i]).2.2.2.1,l,(f.2.2.1[i]).2.2.2.2.2), ?_, ?_⟩
 ·exact modify_at (List.getElem?_eq_getElem hi) _
 ·show a≠ -1∧a≤a
  omega
theorem set_le {l:List BrdT} {i:Nat} {b:BrdT} (h:less ((l[i]?).getD (0,0,false,())).1 b.1=true) (hb:0≤b.1) {j:Nat} {d:Int} (hj:LeB l j d):LeB (l.set i b) j d:=by
 obtain⟨x,h1,h2,h3⟩:=hj
 by_cases e:i=j
 ·subst e
  have hi:=(List.getElem?_eq_some_iff.1 h1).1
  refine⟨b,List.getElem?_set_self hi, ?_⟩
  rw[h1] at h
  have:=less_iff.1 h
  simp only[Option.getD_some] at this
  omega
 ·exact⟨x,by rw[List.getElem?_set_ne e];exact h1,h2,h3⟩
theorem less_not {l:List BrdT} {i:Nat} (hi:i<l.length) {b:BrdT} (h:less ((l[i]?).getD (0,0,false,())).1 b.1=false):LeB l i b.1:=by
 rw[getD_of hi] at h
 have: ¬ ((l[i]).1= -1∨b.1< (l[i]).1):=fun e=>by rw[less_iff.2 e] at h;cases h
 exact⟨l[i],List.getElem?_eq_getElem hi,by omega,by omega⟩
theorem board_mv (f:FinT) {i:Nat} {b:BrdT} (hb:0≤b.1):Mv f (boardF f i b)∧Op f (boardF f i b):=by
 unfold boardF
 cases hg: (!(rn f.1 (i:Int)).2.2.2.2.2.2.1&&less ((f.2.2.2.2.1[i]?).getD (0,0,false,())).1 b.1) with
 |false=>exact⟨Mv.refl f,Op.refl f⟩
 |true=>
  rw[Bool.and_eq_true] at hg
  refine⟨⟨rfl,⟨[],by simp⟩,fun _ _ h=>h,fun _ _ h=>h,fun _ _ h=>h,fun _ _ h=>h,fun j d h=>set_le hg.2 hb h,rfl⟩,⟨fun x hx=>by simp only[cond_true,List.mem_append];exact .inl hx,fun j=> ?_⟩⟩
  simp only[cond_true]
  by_cases e:i=j
  ·subst e;exact .inr (by simp)
  ·exact .inl (List.getElem?_set_ne e)
theorem board_new {f:FinT} {i:Nat} (hi:i<f.2.2.2.2.1.length) {b:BrdT} (hb:0≤b.1) (hc: (rn f.1 (i:Int)).2.2.2.2.2.2.1=false):LeB (boardF f i b).2.2.2.2.1 i b.1:=by
 unfold boardF
 rw[hc]
 cases hl:less ((f.2.2.2.2.1[i]?).getD (0,0,false,())).1 b.1 with
 |false=>exact less_not hi hl
 |true=>exact⟨b,List.getElem?_set_self hi,by omega,by omega⟩
theorem linked_mv (f:FinT) {i:Nat} {b:BrdT} (hb:0≤b.1) (hl:less ((f.2.2.2.1[i]?).getD (0,0,false,())).1 b.1=true):Mv f (linkedF f i b)∧Op f (linkedF f i b):=
 ⟨⟨rfl,⟨[],by simp [linkedF]⟩,fun _ _ h=>h,fun _ _ h=>h,fun _ _ h=>h,fun j d h=>set_le hl hb h,fun _ _ h=>h,rfl⟩,⟨fun _ h=>h,fun _=> .inl rfl⟩⟩
def OutOk (n:NetT) (out:List (List Int)):Prop:=out.length=n.2.2.1.length∧ ∀ (i:Nat) ks,out[i]? =some ks→ ∀x:Int,x∈ks↔inR x n.2.2.2.1.length=true∧(lkI n x).1=(i:Int)
theorem lkI_mem {n:NetT} {x:Int} (h:inR x n.2.2.2.1.length=true):lkI n x∈n.2.2.2.1:=by
 unfold inR at h
 simp only[Bool.and_eq_true,decide_eq_true_eq] at h
 have hl:x.toNat<n.2.2.2.1.length:=by omega
 unfold lkI
 rw[getD_of hl]
 exact List.getElem_mem hl
def Fol (n:NetT) (i c:Nat) (g:FinT) (x:Int):Prop:= ∀ (j d:Nat) (st:Bool),lkI n x=((i:Int),(c:Int),(j:Int),(d:Int),st,())→(callAt n i c).2.1≤(callAt n j d).2.2.1→
 (st=true→cancAt n j=false→LeB g.2.2.2.2.1 j (d:Int))∧(st=false→(callAt n i c).2.2.2.2.1=true→(callAt n j d).2.2.2.1=true→LeB g.2.2.2.1 j (d:Int))
theorem Fol.mono {i c:Nat} {g h:FinT} {x:Int} (y:Mv g h) (z:Fol n i c g x):Fol n i c h x:=
 fun j d st e1 e2=>let ⟨a,b⟩:=z j d st e1 e2;⟨fun u v=>y.brd _ _ (a u v),fun u v z=>y.lnk _ _ (b u v z)⟩
theorem followStep_snd (C:Ctx n s0 t0 w) {f:FinT} (hf:f.1=n) (hS:St f) (h:Snd (Der n s0 t0 w) K f) {k i c:Nat} {l:Int} {js:List LegT} (hk:k≤K) (hl:Ch f.2.1 l js) (hd:Der n s0 t0 w (.on k i c) js) {x:Int} (hx:inR x n.2.2.2.1.length=true) (hfr: (lkI n x).1=(i:Int)):
  Snd (Der n s0 t0 w) K (followStep (c:Int) (callAt n i c).2.1 l (callAt n i c).2.2.2.2.1 f x)∧(Mv f (followStep (c:Int) (callAt n i c).2.1 l (callAt n i c).2.2.2.2.1 f x)∧Op f (followStep (c:Int) (callAt n i c).2.1 l (callAt n i c).2.2.2.2.1 f x))∧Fol n i c (followStep (c:Int) (callAt n i c).2.1 l (callAt n i c).2.2.2.2.1 f x) x:=by
 have hmem:=lkI_mem hx
 obtain⟨i',c',j,d,st,e,hi,hj,hij,hc,hdl,hst,hstay⟩:=C.net.link _ hmem
 have hi' :i' =i:=by rw[e] at hfr;simp only at hfr;omega
 subst hi'
 unfold followStep
 rw[hf,e]
 simp only[Int.toNat_natCast]
 rw[show (cl (rn n (j:Int)).2.2.2.2.2.2.2.1 (d:Int))=callAt n j d from rfl]
 by_cases h1:c' =c
 rotate_left
 ·rw[decide_eq_false (show¬ (c' :Int)=(c:Int) by omega)]
  refine⟨h,⟨Mv.refl f,Op.refl f⟩,fun j' d' st' e' _=> ?_⟩
  rw[e] at e'
  simp only[Prod.mk.injEq] at e'
  omega
 subst h1
 by_cases h2: (callAt n j d).2.2.1< (callAt n i' c').2.1
 ·rw[decide_eq_true h2,Bool.or_true]
  refine⟨h,⟨Mv.refl f,Op.refl f⟩,fun j' d' st' e' h3=> ?_⟩
  rw[e] at e'
  simp only[Prod.mk.injEq,Int.natCast_inj] at e'
  obtain⟨_,_,rfl,rfl,rfl,_⟩:=e'
  omega
 rw[decide_eq_false h2,decide_eq_true rfl]
 have hil:isLink n i' c' j d st:=by unfold isLink;rw[←e];exact hmem
 have hjr:j<f.2.2.2.2.1.length:=by rw[hS.runs,hf];exact hj
 have hjl:j<f.2.2.2.1.length:=by rw[hS.linked,hf];exact hj
 have hfol: ∀g:FinT,((st=true→cancAt n j=false→LeB g.2.2.2.2.1 j (d:Int))∧(st=false→(callAt n i' c').2.2.2.2.1=true→(callAt n j d).2.2.2.1=true→LeB g.2.2.2.1 j (d:Int)))→Fol n i' c' g x:=by
  intro g hg j' d' st' e' _
  rw[e] at e'
  simp only[Prod.mk.injEq,Int.natCast_inj] at e'
  obtain⟨_,_,rfl,rfl,rfl,_⟩:=e'
  exact hg
 cases st with
 |true=>
  simp only[Bool.not_true,Bool.false_or,cond_false,cond_true]
  refine⟨h.board fun hcn=>fun _=>⟨k,hk,d,rfl,js,hl, .stay hd hil (by omega) (by rw[hf] at hcn;exact hcn)⟩,board_mv f (b:=((d:Int),l,true,())) (by show (0:Int)≤(d:Int);omega),hfol _ ⟨fun _ hcn=> ?_,fun e=>nomatch e⟩⟩
  exact board_new hjr (b:=((d:Int),l,true,())) (by show (0:Int)≤(d:Int);omega) (by rw[hf];exact hcn)
 |false=>
  simp only[Bool.not_true,Bool.false_or,cond_false]
  cases hal: (callAt n i' c').2.2.2.2.1 with
  |false=>exact⟨h,⟨Mv.refl f,Op.refl f⟩,hfol _ ⟨(fun e=>nomatch e),fun _ e=>by rw[hal] at e;cases e⟩⟩
  |true=>
   cases hbd: (callAt n j d).2.2.2.1 with
   |false=>exact⟨h,⟨Mv.refl f,Op.refl f⟩,hfol _ ⟨(fun e=>nomatch e),fun _ _ e=>by rw[hbd] at e;cases e⟩⟩
   |true=>
    simp only[Bool.true_and]
    cases hls:less ((f.2.2.2.1[j]?).getD (0,0,false,())).1 (d:Int) with
    |false=>exact⟨h,⟨Mv.refl f,Op.refl f⟩,hfol _ ⟨(fun e=>nomatch e),fun _ _ _=>less_not hjl (b:=((d:Int),l,false,())) hls⟩⟩
    |true=>
     simp only[cond_true]
     refine⟨h.linked fun _=>⟨rfl,k+1,by omega,d,rfl,js,hl, .link hd hal hil (by omega) hbd⟩,linked_mv f (b:=((d:Int),l,false,())) (by show (0:Int)≤(d:Int);omega) hls,hfol _ ⟨(fun e=>nomatch e),fun _ _ _=>⟨_,List.getElem?_set_self hjl, ?_⟩⟩⟩
     show (d:Int)≠ -1∧(d:Int)≤(d:Int)
     omega
theorem followFold_snd (C:Ctx n s0 t0 w) {k i c:Nat} {l:Int} {js:List LegT} (hk:k≤K) (hd:Der n s0 t0 w (.on k i c) js): ∀ (ks:List Int) {f:FinT},f.1=n→St f→Snd (Der n s0 t0 w) K f→Ch f.2.1 l js→(∀x∈ks,inR x n.2.2.2.1.length=true∧(lkI n x).1=(i:Int))→
  Snd (Der n s0 t0 w) K (ks.foldl (followStep (c:Int) (callAt n i c).2.1 l (callAt n i c).2.2.2.2.1) f)∧(Mv f (ks.foldl (followStep (c:Int) (callAt n i c).2.1 l (callAt n i c).2.2.2.2.1) f)∧Op f (ks.foldl (followStep (c:Int) (callAt n i c).2.1 l (callAt n i c).2.2.2.2.1) f))∧ ∀x∈ks,Fol n i c (ks.foldl (followStep (c:Int) (callAt n i c).2.1 l (callAt n i c).2.2.2.2.1) f) x
 | [],f,_,_,h,_,_=>⟨h,⟨Mv.refl f,Op.refl f⟩,(fun _ h=>nomatch h)⟩
 |x::ks,f,hf,hS,h,hl,hx=>by
  obtain⟨hx1,hx2⟩:=hx x (by simp)
  obtain⟨h1,⟨h2,h3⟩,h4⟩:=followStep_snd C hf hS h hk hl hd hx1 hx2
  obtain⟨h5,⟨h6,h7⟩,h8⟩:=followFold_snd C hk hd ks (h2.net.trans hf) (hS.step (followStep_holds ..).1) h1 (h2.ch hl) (fun y hy=>hx y (by simp [hy]))
  refine⟨h5,⟨h2.trans h6,h3.trans h7⟩,fun y hy=> ?_⟩
  rcases List.mem_cons.1 hy with rfl|hy
  ·exact h4.mono h6
  ·exact h8 y hy
def FolA (n:NetT) (i c:Nat) (g:FinT):Prop:= ∀ (j d:Nat) (st:Bool),isLink n i c j d st→(callAt n i c).2.1≤(callAt n j d).2.2.1→
 (st=true→cancAt n j=false→LeB g.2.2.2.2.1 j (d:Int))∧(st=false→(callAt n i c).2.2.2.2.1=true→(callAt n j d).2.2.2.1=true→LeB g.2.2.2.1 j (d:Int))
theorem FolA.mono {i c:Nat} {g h:FinT} (y:Mv g h) (z:FolA n i c g):FolA n i c h:=
 fun j d st e1 e2=>let ⟨a,b⟩:=z j d st e1 e2;⟨fun u v=>y.brd _ _ (a u v),fun u v z=>y.lnk _ _ (b u v z)⟩
theorem link_idx {i c j d:Nat} {st:Bool} (h:isLink n i c j d st): ∃x:Int,inR x n.2.2.2.1.length=true∧lkI n x=((i:Int),(c:Int),(j:Int),(d:Int),st,()):=by
 obtain⟨k,hk,e⟩:=List.getElem_of_mem h
 refine⟨(k:Int), ?_, ?_⟩
 ·unfold inR;rw[Bool.and_eq_true,decide_eq_true_eq,decide_eq_true_eq];omega
 ·unfold lkI;rw[Int.toNat_natCast,getD_of hk,e]
theorem follow_snd (C:Ctx n s0 t0 w) {f:FinT} (hf:f.1=n) (hS:St f) (ho:OutOk n f.2.2.2.2.2.2.1) (h:Snd (Der n s0 t0 w) K f) {k i c:Nat} {l:Int} {js:List LegT} (hk:k≤K) (hl:Ch f.2.1 l js) (hd:Der n s0 t0 w (.on k i c) js):
  Snd (Der n s0 t0 w) K (followF f (i:Int) (c:Int) l (callAt n i c).2.2.2.2.1)∧(Mv f (followF f (i:Int) (c:Int) l (callAt n i c).2.2.2.2.1)∧Op f (followF f (i:Int) (c:Int) l (callAt n i c).2.2.2.2.1))∧FolA n i c (followF f (i:Int) (c:Int) l (callAt n i c).2.2.2.2.1):=by
 have hi:=(C.ok hd).2.1
 unfold followF
 rw[hf,Int.toNat_natCast]
 rw[show cl (rn n (i:Int)).2.2.2.2.2.2.2.1 (c:Int)=callAt n i c from rfl]
 have hio:i<f.2.2.2.2.2.2.1.length:=by rw[ho.1];exact hi
 have hks:=ho.2 i _ (List.getElem?_eq_getElem hio)
 rw[getD_of hio]
 obtain⟨h1,h2,h3⟩:=followFold_snd C hk hd (f.2.2.2.2.2.2.1[i]) hf hS h hl (fun x hx=>(hks x).1 hx)
 refine⟨h1,h2,fun j d st e1 e2=> ?_⟩
 obtain⟨x,hx1,hx2⟩:=link_idx e1
 exact h3 x ((hks x).2 ⟨hx1,by rw[hx2]⟩) j d st hx2 e2
def Vst (n:NetT) (i m:Nat) (g:FinT):Prop:=((callAt n i m).2.2.2.2.1=true→LeR g.2.2.1 (callAt n i m).1.toNat (callAt n i m).2.1)∧FolA n i m g
theorem Vst.mono {i m:Nat} {g h:FinT} (y:Mv g h) (z:Vst n i m g):Vst n i m h:=⟨fun e=>y.rid _ _ (z.1 e),z.2.mono y⟩
theorem visitStep_snd (C:Ctx n s0 t0 w) {f:FinT} (hf:f.1=n) (hS:St f) (ho:OutOk n f.2.2.2.2.2.2.1) (h:Snd (Der n s0 t0 w) K f) {k i bc m:Nat} {prev:Int} {st:Bool} {js:List LegT} (hk:k≤K) (hp:Ch f.2.1 prev js) (hd:Der n s0 t0 w (.brd k i bc st) js) (hm:bc<m) (hml:m< (callsAt n i).length):
  Snd (Der n s0 t0 w) K (visitStep (i:Int) ((bc:Int),prev,st,()) (callAt n i bc) (callsAt n i) f m)∧(Mv f (visitStep (i:Int) ((bc:Int),prev,st,()) (callAt n i bc) (callsAt n i) f m)∧Op f (visitStep (i:Int) ((bc:Int),prev,st,()) (callAt n i bc) (callsAt n i) f m))∧Vst n i m (visitStep (i:Int) ((bc:Int),prev,st,()) (callAt n i bc) (callsAt n i) f m):=by
 have hi:=(C.ok hd).2.1
 have hon:=Der.on hd hm hml
 unfold visitStep
 rw[show cl (callsAt n i) (m:Int)=callAt n i m from rfl]
 cases hskip: (!(callAt n i m).2.2.2.2.1&&decide ((outAt f (i:Int)).length=0)) with
 |true=>
  simp only[cond_true]
  rw[Bool.and_eq_true,Bool.not_eq_true',decide_eq_true_eq] at hskip
  refine⟨h,⟨Mv.refl f,Op.refl f⟩,⟨fun e=>(by rw[hskip.1] at e;cases e),fun j d st e1 e2=> ?_⟩⟩
  exfalso
  have hio:i<f.2.2.2.2.2.2.1.length:=by rw[ho.1];exact hi
  have hks:=ho.2 i _ (List.getElem?_eq_getElem hio)
  obtain⟨x,hx1,hx2⟩:=link_idx e1
  have hx:=(hks x).2 ⟨hx1,by rw[hx2]⟩
  have he:=hskip.2
  unfold outAt at he
  rw[Int.toNat_natCast,getD_of hio] at he
  rw[List.length_eq_zero_iff.1 he] at hx
  cases hx
 |false=>
  simp only[cond_false]
  rw[show ((true,(i:Int),(bc:Int),(m:Int),(callAt n i bc).1,(callAt n i m).1,(callAt n i bc).2.2.1,(callAt n i m).2.1,st,()):LegT)=legR n i bc m st from rfl]
  generalize hx:legR n i bc m st=x at*
  have hch:Ch (addF f x prev).2.1 (f.2.1.length:Int) (js++[x]):=hp.new x
  obtain⟨h1,⟨h2,h3⟩,h4⟩:=follow_snd C (f:=addF f x prev) hf (hS.step (addF_holds ..)) ho (h.add x prev) hk hch hon
  have h5:=(add_mv f x prev).trans h2
  have h6:=(add_op f x prev).trans h3
  have hlen:=(followF_holds (addF f x prev) (i:Int) (m:Int) (f.2.1.length:Int) (callAt n i m).2.2.2.2.1).1
  have hSg:=(hS.step (addF_holds f x prev)).step hlen
  generalize followF (addF f x prev) (i:Int) (m:Int) (f.2.1.length:Int) (callAt n i m).2.2.2.2.1=g at*
  have hst:=C.net.stop hi hml
  have htm:=C.net.time hi hml
  obtain⟨s,hs⟩: ∃s:Nat,(callAt n i m).1=(s:Int):=⟨(callAt n i m).1.toNat,by omega⟩
  have hsg:s<g.2.2.1.length:=by rw[hSg.now,h5.net,hf];omega
  rw[hs,Int.toNat_natCast]
  cases hal: (callAt n i m).2.2.2.2.1 with
  |false=>
   simp only[Bool.false_and,cond_false]
   exact⟨h1,⟨h5,h6⟩,fun e=>(by rw[hal] at e;cases e),h4⟩
  |true=>
   simp only[Bool.true_and]
   cases hls:less (plcAt g (s:Int)).2.1 (callAt n i m).2.1 with
   |false=>
    simp only[cond_false]
    refine⟨h1,⟨h5,h6⟩,fun _=> ?_,h4⟩
    rw[hs,Int.toNat_natCast]
    unfold plcAt at hls
    rw[Int.toNat_natCast,getD_of hsg] at hls
    have: ¬ ((g.2.2.1[s]).2.1= -1∨(callAt n i m).2.1< (g.2.2.1[s]).2.1):=fun e=>by rw[less_iff.2 e] at hls;cases hls
    exact⟨_,List.getElem?_eq_getElem hsg,by omega,by omega⟩
   |true=>
    simp only[cond_true]
    have hmv:=ride_mv g s htm.1 hls (f.2.1.length:Int)
    refine⟨h1.ride ⟨k,hk,_,h2.ch hch, ?_⟩,⟨h5.trans hmv,h6.trans ⟨fun _ h=>h,fun _=> .inl rfl⟩⟩,fun _=> ?_,h4.mono hmv⟩
    ·rw[←hs];exact .ride hon hal
    ·rw[hs,Int.toNat_natCast];exact ride_new hsg htm.1 _
theorem visitL_snd (C:Ctx n s0 t0 w) {k i bc:Nat} {prev:Int} {st:Bool} {js:List LegT} (hk:k≤K) (hd:Der n s0 t0 w (.brd k i bc st) js): ∀ (m:Nat) {f:FinT},f.1=n→St f→OutOk n f.2.2.2.2.2.2.1→Snd (Der n s0 t0 w) K f→Ch f.2.1 prev js→bc+1+m≤(callsAt n i).length→
  Snd (Der n s0 t0 w) K (visitL (i:Int) ((bc:Int),prev,st,()) (callAt n i bc) (callsAt n i) (bc+1) m f)∧(Mv f (visitL (i:Int) ((bc:Int),prev,st,()) (callAt n i bc) (callsAt n i) (bc+1) m f)∧Op f (visitL (i:Int) ((bc:Int),prev,st,()) (callAt n i bc) (callsAt n i) (bc+1) m f))∧
  ∀j,bc<j→j<bc+1+m→Vst n i j (visitL (i:Int) ((bc:Int),prev,st,()) (callAt n i bc) (callsAt n i) (bc+1) m f)
 |0,f,_,_,_,h,_,_=>⟨h,⟨Mv.refl f,Op.refl f⟩,fun j h1 h2=>by omega⟩
 |m+1,f,hf,hS,ho,h,hp,hm=>by
  obtain⟨h1,⟨h2,h3⟩,h4⟩:=visitL_snd C hk hd m hf hS ho h hp (by omega)
  have hS2:=hS.step (visitL_holds (i:Int) ((bc:Int),prev,st,()) (callAt n i bc) (callsAt n i) (bc+1) m f hS).1
  obtain⟨h5,⟨h6,h7⟩,h8⟩:=visitStep_snd C (h2.net.trans hf) hS2 (by rw[h2.out];exact ho) h1 hk (h2.ch hp) hd (m:=bc+1+m) (by omega) (by omega)
  refine⟨h5,⟨h2.trans h6,h3.trans h7⟩,fun j hj1 hj2=> ?_⟩
  by_cases e:j=bc+1+m
  ·subst e;exact h8
  ·exact(h4 j hj1 (by omega)).mono h6
def Vis (n:NetT) (i:Nat) (b:Int) (g:FinT):Prop:= ∀m:Nat,b< (m:Int)→m< (callsAt n i).length→Vst n i m g
theorem Vis.mono {i:Nat} {b:Int} {g h:FinT} (y:Mv g h) (z:Vis n i b g):Vis n i b h:=fun m a c=>(z m a c).mono y
theorem visitF_snd (C:Ctx n s0 t0 w) {f:FinT} (hf:f.1=n) (hS:St f) (ho:OutOk n f.2.2.2.2.2.2.1) (h:Snd (Der n s0 t0 w) K f) {i:Nat} (hi:i<n.2.2.1.length) (hb:inR ((f.2.2.2.2.1[i]?).getD (0,0,false,())).1 (callsAt n i).length=true):
  Snd (Der n s0 t0 w) K (visitF f i)∧(Mv f (visitF f i)∧Op f (visitF f i))∧Vis n i ((f.2.2.2.2.1[i]?).getD (0,0,false,())).1 (visitF f i):=by
 have hir:i<f.2.2.2.2.1.length:=by rw[hS.runs,hf];exact hi
 have hsb:=h.brd i _ (List.getElem?_eq_getElem hir)
 unfold visitF
 rw[getD_of hir] at hb ⊢
 generalize f.2.2.2.2.1[i]=b at*
 unfold inR at hb
 simp only[Bool.and_eq_true,decide_eq_true_eq] at hb
 obtain⟨k,hk,c,hc,js,hch,hd⟩:=hsb (by omega)
 obtain⟨b1,prev,st,u⟩:=b
 simp only at hc hch hd hb
 subst hc
 rw[hf]
 simp only[Int.toNat_natCast]
 obtain⟨h1,h2,h3⟩:=visitL_snd C hk hd ((callsAt n i).length - (c+1)) hf hS ho h hch (by omega)
 exact⟨h1,h2,fun m hm1 hm2=>h3 m (by omega) (by omega)⟩
end Q
namespace Q
open Tr Go
variable {n:NetT} {s0 t0 w:Int} {K:Nat}
theorem callStep_snd (C:Ctx n s0 t0 w) {before:List PlcT} (hbl:before.length=n.1.length) {f:FinT} (hf:f.1=n) (hS:St f) (hB: ∀ (s:Nat) p,before[s]? =some p→SP (Der n s0 t0 w) f.2.1 K (s:Int) p) (h:Snd (Der n s0 t0 w) (K+1) f) {i m:Nat} (hi:i<n.2.2.1.length) (hm:m< (callsAt n i).length):
  Snd (Der n s0 t0 w) (K+1) (callStep before i (callsAt n i) f m)∧(Mv f (callStep before i (callsAt n i) f m)∧Op f (callStep before i (callsAt n i) f m))∧
  (cancAt n i=false→(callAt n i m).2.2.2.1=true→LeY before (callAt n i m).1.toNat (callAt n i m).2.2.1→LeB (callStep before i (callsAt n i) f m).2.2.2.2.1 i (m:Int)):=by
 have hst:=C.net.stop hi hm
 have hir:i<f.2.2.2.2.1.length:=by rw[hS.runs,hf];exact hi
 unfold callStep
 rw[show cl (callsAt n i) (m:Int)=callAt n i m from rfl]
 obtain⟨s,hs⟩: ∃s:Nat,(callAt n i m).1=(s:Int):=⟨(callAt n i m).1.toNat,by omega⟩
 have hsb:s<before.length:=by omega
 have hp:=hB s _ (List.getElem?_eq_getElem hsb)
 rw[hs,Int.toNat_natCast,getD_of hsb]
 have hY: ∀t,LeY before s t→(before[s]).2.2.1≠ -1∧(before[s]).2.2.1≤t:=by
  rintro t ⟨q,hq,h1⟩
  rw[List.getElem?_eq_getElem hsb] at hq
  cases hq
  exact h1
 generalize before[s]=p at*
 cases hb: (callAt n i m).2.2.2.1 with
 |false=>exact⟨h,⟨Mv.refl f,Op.refl f⟩,fun _ e=>by cases e⟩
 |true=>
  by_cases h1:p.2.2.1= -1
  ·rw[decide_eq_true h1]
   exact⟨h,⟨Mv.refl f,Op.refl f⟩,fun _ _ e=>absurd h1 (hY _ e).1⟩
  by_cases h2:p.2.2.1≤(callAt n i m).2.2.1
  rotate_left
  ·rw[decide_eq_false h1,decide_eq_false h2]
   exact⟨h,⟨Mv.refl f,Op.refl f⟩,fun _ _ e=>absurd (hY _ e).2 h2⟩
  rw[decide_eq_false h1,decide_eq_true h2]
  simp only[Bool.not_false,Bool.true_and]
  cases hl:less ((f.2.2.2.2.1[i]?).getD (0,0,false,())).1 (m:Int) with
  |false=>
   simp only[cond_false]
   exact⟨h,⟨Mv.refl f,Op.refl f⟩,fun _ _ _=>less_not hir (b:=((m:Int),0,false,())) hl⟩
  |true=>
   simp only[cond_true]
   have hm0: (0:Int)≤(m:Int):=by omega
   refine⟨h.board fun hcn=>fun _=> ?_,board_mv f (b:=((m:Int),p.2.2.2.2.2.1,false,())) hm0,fun hcn _ _=>board_new hir (b:=((m:Int),p.2.2.2.2.2.1,false,())) hm0 (by rw[hf];exact hcn)⟩
   obtain⟨k,hk,js,hch,hd⟩:=hp.rdy h1
   exact⟨k+1,by omega,m,rfl,js,hch, .board hd hi hm (by rw[hf] at hcn;exact hcn) hs hb h2⟩
theorem callsF_snd (C:Ctx n s0 t0 w) {before:List PlcT} (hbl:before.length=n.1.length) {i:Nat} (hi:i<n.2.2.1.length): ∀ (m:Nat) {f:FinT},f.1=n→St f→(∀ (s:Nat) p,before[s]? =some p→SP (Der n s0 t0 w) f.2.1 K (s:Int) p)→Snd (Der n s0 t0 w) (K+1) f→m≤(callsAt n i).length→
  Snd (Der n s0 t0 w) (K+1) (callsF before i (callsAt n i) m f)∧(Mv f (callsF before i (callsAt n i) m f)∧Op f (callsF before i (callsAt n i) m f))∧
  ∀j,j<m→cancAt n i=false→(callAt n i j).2.2.2.1=true→LeY before (callAt n i j).1.toNat (callAt n i j).2.2.1→LeB (callsF before i (callsAt n i) m f).2.2.2.2.1 i (j:Int)
 |0,f,_,_,_,h,_=>⟨h,⟨Mv.refl f,Op.refl f⟩,fun j hj=>absurd hj (Nat.not_lt_zero j)⟩
 |m+1,f,hf,hS,hB,h,hm=>by
  obtain⟨h1,⟨h2,h3⟩,h4⟩:=callsF_snd C hbl hi m hf hS hB h (by omega)
  obtain⟨g1,g2⟩:=callsF_holds before i (callsAt n i) m f
  obtain⟨h5,⟨h6,h7⟩,h8⟩:=callStep_snd C hbl (h2.net.trans hf) (hS.step g1) (by rw[g2];exact hB) h1 hi (m:=m) (by omega)
  refine⟨h5,⟨h2.trans h6,h3.trans h7⟩,fun j hj a b c=> ?_⟩
  by_cases e:j=m
  ·subst e;exact h8 a b c
  ·exact h6.brd _ _ (h4 j (by omega) a b c)
def Beg (n:NetT) (before:List PlcT) (boarded:List BrdT) (i:Nat) (g:FinT):Prop:=cancAt n i=false→(∀d,LeB boarded i d→LeB g.2.2.2.2.1 i d)∧
 ∀j,j< (callsAt n i).length→(callAt n i j).2.2.2.1=true→LeY before (callAt n i j).1.toNat (callAt n i j).2.2.1→LeB g.2.2.2.2.1 i (j:Int)
theorem Beg.mono {before:List PlcT} {boarded:List BrdT} {i:Nat} {g h:FinT} (y:Mv g h) (z:Beg n before boarded i g):Beg n before boarded i h:=
 fun e=>⟨fun d hd=>y.brd _ _ ((z e).1 d hd),fun j a b c=>y.brd _ _ ((z e).2 j a b c)⟩
theorem beginF_snd (C:Ctx n s0 t0 w) {before:List PlcT} (hbl:before.length=n.1.length) {boarded:List BrdT} (hbo:boarded.length=n.2.2.1.length) {i:Nat} (hi:i<n.2.2.1.length) {f:FinT} (hf:f.1=n) (hS:St f) (hB: ∀ (s:Nat) p,before[s]? =some p→SP (Der n s0 t0 w) f.2.1 K (s:Int) p)
  (hL: ∀ (i:Nat) b,boarded[i]? =some b→SL (Der n s0 t0 w) f.2.1 K i b) (h:Snd (Der n s0 t0 w) (K+1) f):
  Snd (Der n s0 t0 w) (K+1) (beginF before boarded f i)∧(Mv f (beginF before boarded f i)∧Op f (beginF before boarded f i))∧Beg n before boarded i (beginF before boarded f i):=by
 have hib:i<boarded.length:=by omega
 have hir:i<f.2.2.2.2.1.length:=by rw[hS.runs,hf];exact hi
 have hl:=hL i _ (List.getElem?_eq_getElem hib)
 unfold beginF
 rw[getD_of hib,hf,show (rn n (i:Int)).2.2.2.2.2.2.2.1=callsAt n i from rfl]
 have hLe: ∀d,LeB boarded i d→(boarded[i]).1≠ -1∧(boarded[i]).1≤d:=by
  rintro d ⟨b,hb,h1⟩
  rw[List.getElem?_eq_getElem hib] at hb
  cases hb
  exact h1
 generalize boarded[i]=b at*
 by_cases hb:b.1= -1
 ·rw[decide_eq_true hb]
  obtain⟨h1,h2,h3⟩:=callsF_snd C hbl hi (callsAt n i).length hf hS hB h (Nat.le_refl _)
  exact⟨h1,h2,fun e=>⟨fun d hd=>absurd hb (hLe d hd).1,fun j hj=>h3 j hj e⟩⟩
 ·rw[decide_eq_false hb]
  simp only[Bool.not_false,cond_true]
  obtain⟨hst,k,hk,c,hc,js,hch,hd⟩:=hl hb
  have hb0:0≤b.1:=by omega
  have hs1:Snd (Der n s0 t0 w) (K+1) (boardF f i b):=h.board fun hcn=>fun _=>⟨k,hk,c,hc,js,hch,by rw[hst];exact .linked hd (by rw[hf] at hcn;exact hcn)⟩
  obtain⟨m1,m2⟩:=board_mv f (i:=i) hb0
  have hlab:=boardF_lab f i b
  obtain⟨h1,⟨h2,h2'⟩,h3⟩:=callsF_snd C hbl hi (callsAt n i).length (m1.net.trans hf) (hS.step (boardF_holds ..)) (by rw[hlab];exact hB) hs1 (Nat.le_refl _)
  refine⟨h1,⟨m1.trans h2,m2.trans h2'⟩,fun e=>⟨fun d hd=> ?_,fun j hj=>h3 j hj e⟩⟩
  obtain⟨x,hx1,hx2,hx3⟩:=h2.brd _ _ (board_new hir hb0 (by rw[hf];exact e))
  exact⟨x,hx1,hx2,Int.le_trans hx3 (hLe d hd).2⟩
theorem beginL_snd (C:Ctx n s0 t0 w) {before:List PlcT} (hbl:before.length=n.1.length) {boarded:List BrdT} (hbo:boarded.length=n.2.2.1.length): ∀ (m:Nat) {f:FinT},f.1=n→St f→(∀ (s:Nat) p,before[s]? =some p→SP (Der n s0 t0 w) f.2.1 K (s:Int) p)→
  (∀ (i:Nat) b,boarded[i]? =some b→SL (Der n s0 t0 w) f.2.1 K i b)→Snd (Der n s0 t0 w) (K+1) f→m≤n.2.2.1.length→
  Snd (Der n s0 t0 w) (K+1) (beginL before boarded m f)∧(Mv f (beginL before boarded m f)∧Op f (beginL before boarded m f))∧ ∀i,i<m→Beg n before boarded i (beginL before boarded m f)
 |0,f,_,_,_,_,h,_=>⟨h,⟨Mv.refl f,Op.refl f⟩,fun i hi=>absurd hi (Nat.not_lt_zero i)⟩
 |m+1,f,hf,hS,hB,hL,h,hm=>by
  obtain⟨h1,⟨h2,h3⟩,h4⟩:=beginL_snd C hbl hbo m hf hS hB hL h (by omega)
  obtain⟨g1,g2⟩:=beginL_holds (before:=before) (boarded:=boarded) m hS (by rw[hf];omega)
  obtain⟨h5,⟨h6,h7⟩,h8⟩:=beginF_snd C hbl hbo (i:=m) (by omega) (h2.net.trans hf) (hS.step g1) (by rw[g2];exact hB) (by rw[g2];exact hL) h1
  refine⟨h5,⟨h2.trans h6,h3.trans h7⟩,fun i hi=> ?_⟩
  by_cases e:i=m
  ·subst e;exact h8
  ·exact(h4 i (by omega)).mono h6
def Wlk (s t:Int) (l:List PlcT) (p:Foot):Prop:=p.1=s→t+p.2.2.1≤3155932800→LeA l p.2.1.toNat (t+p.2.2.1)∧LeY l p.2.1.toNat (t+p.2.2.1)
theorem Wlk.mono {s t:Int} {g h:FinT} {p:Foot} (y:Mv g h) (z:Wlk s t g.2.2.1 p):Wlk s t h.2.2.1 p:=
 fun a b=>⟨y.arr _ _ (z a b).1,y.rdy _ _ (z a b).2⟩
theorem walkFold_snd (C:Ctx n s0 t0 w) {k:Nat} {s t prev:Int} (ht:0≤t) {js:List LegT} (hk:k≤K) (hD: ∀p∈n.2.2.2.2.1,p.1=s→t+p.2.2.1≤3155932800→Der n s0 t0 w (.arr k p.2.1 (t+p.2.2.1)) (js++[legW s p.2.1 t (t+p.2.2.1)])∧Der n s0 t0 w (.rdy k p.2.1 (t+p.2.2.1)) (js++[legW s p.2.1 t (t+p.2.2.1)])):
  ∀ (l:List Foot) {f:FinT},f.2.2.1.length=n.1.length→Snd (Der n s0 t0 w) K f→Ch f.2.1 prev js→(∀p∈l,p∈n.2.2.2.2.1)→
  Snd (Der n s0 t0 w) K (l.foldl (walkStep s t prev) f)∧Mv f (l.foldl (walkStep s t prev) f)∧ ∀p∈l,Wlk s t (l.foldl (walkStep s t prev) f).2.2.1 p
 | [],f,_,h,_,_=>⟨h,Mv.refl f,(fun _ h=>nomatch h)⟩
 |p::l,f,hl,h,hch,hp=>by
  have hpn:=hp p (by simp)
  have hpo:=C.net.path p hpn
  have hstep:Snd (Der n s0 t0 w) K (walkStep s t prev f p)∧Mv f (walkStep s t prev f p)∧Wlk s t (walkStep s t prev f p).2.2.1 p:=by
   unfold walkStep
   by_cases hc:p.1=s∧t+p.2.2.1≤3155932800
   ·rw[if_pos hc]
    obtain⟨d1,d2⟩:=hD p hpn hc.1 hc.2
    obtain⟨j,hj⟩: ∃j:Nat,p.2.1=(j:Int):=⟨p.2.1.toNat,by omega⟩
    have hnew:=hch.new (legW s p.2.1 t (t+p.2.2.1))
    rw[show ((false,0,0,0,s,p.2.1,t,t+p.2.2.1,false,()):LegT)=legW s p.2.1 t (t+p.2.2.1) from rfl]
    generalize hx:legW s p.2.1 t (t+p.2.2.1)=x at*
    rw[hj] at d1 d2
    rw[hj,Int.toNat_natCast]
    have h0:0≤t+p.2.2.1:=by omega
    refine⟨(h.add x prev).imp ⟨k,hk,_,hnew,d1⟩ ⟨k,hk,_,hnew,d2⟩,(add_mv f x prev).trans (imp_mv _ j h0 h0 _),fun _ _=> ?_⟩
    rw[hj,Int.toNat_natCast]
    exact imp_new (f:=addF f x prev) (by show j<f.2.2.1.length;omega) h0 h0 _
   ·rw[if_neg hc]
    exact⟨h,Mv.refl f,fun a b=>absurd ⟨a,b⟩ hc⟩
  obtain⟨h1,h2,h3⟩:=hstep
  obtain⟨h4,h5,h6⟩:=walkFold_snd C ht hk hD l (f:=walkStep s t prev f p) (by rw[(walkStep_holds s t prev f p).now];exact hl) h1 (h2.ch hch) (fun q hq=>hp q (by simp [hq]))
  refine⟨h4,h2.trans h5,fun q hq=> ?_⟩
  rcases List.mem_cons.1 hq with rfl|hq
  ·exact h3.mono h5
  ·exact h6 q hq
theorem walkF_snd (C:Ctx n s0 t0 w) {k:Nat} {s t prev:Int} (ht:0≤t) {js:List LegT} (hk:k≤K) (hD: ∀p∈n.2.2.2.2.1,p.1=s→t+p.2.2.1≤3155932800→Der n s0 t0 w (.arr k p.2.1 (t+p.2.2.1)) (js++[legW s p.2.1 t (t+p.2.2.1)])∧Der n s0 t0 w (.rdy k p.2.1 (t+p.2.2.1)) (js++[legW s p.2.1 t (t+p.2.2.1)]))
  {f:FinT} (hf:f.1=n) (hl:f.2.2.1.length=n.1.length) (h:Snd (Der n s0 t0 w) K f) (hch:Ch f.2.1 prev js):
  Snd (Der n s0 t0 w) K (walkF f s t prev)∧Mv f (walkF f s t prev)∧ ∀p∈n.2.2.2.2.1,Wlk s t (walkF f s t prev).2.2.1 p:=by
 unfold walkF
 rw[hf]
 exact walkFold_snd C ht hk hD _ hl h hch (fun _ h=>h)
def CloAt (n:NetT) (l:List PlcT) (s:Nat) (v:Int):Prop:=LeA l s v∧LeY l s (v+(stOf n (s:Int)).2.2.2.1)∧ ∀p∈n.2.2.2.2.1,Wlk (s:Int) v l p
theorem CloAt.mono {s:Nat} {v:Int} {g h:FinT} (y:Mv g h) (z:CloAt n g.2.2.1 s v):CloAt n h.2.2.1 s v:=
 ⟨y.arr _ _ z.1,y.rdy _ _ z.2.1,fun p hp=>(z.2.2 p hp).mono y⟩
theorem CloAt.weak {l:List PlcT} {s:Nat} {u v:Int} (z:CloAt n l s u) (e:u≤v):CloAt n l s v:=
 ⟨z.1.weak e,z.2.1.weak (by omega),fun p hp a b=>let ⟨x,y⟩:=z.2.2 p hp a (by omega);⟨x.weak (by omega),y.weak (by omega)⟩⟩
def Clo (n:NetT) (l:List PlcT):Prop:= ∀ (s:Nat) p,l[s]? =some p→p.2.1≠ -1→CloAt n l s p.2.1
theorem lastStep_snd (C:Ctx n s0 t0 w) {before:List PlcT} (hbl:before.length=n.1.length) (hclo:Clo n before) {f:FinT} (hf:f.1=n) (hS:St f) (h:Snd (Der n s0 t0 w) K f)
  (hA: ∀s t,LeA before s t→LeA f.2.2.1 s t) (hY: ∀s t,LeY before s t→LeY f.2.2.1 s t) {s:Nat} (hs:s<n.1.length):
  Snd (Der n s0 t0 w) K (lastStep before f s)∧Mv f (lastStep before f s)∧(rideAt f s≠ -1→CloAt n (lastStep before f s).2.2.1 s (rideAt f s)):=by
 have hsl:s<f.2.2.1.length:=by rw[hS.now,hf];exact hs
 have hsb:s<before.length:=by omega
 have hsp:=h.now s _ (List.getElem?_eq_getElem hsl)
 have hcb:=hclo s _ (List.getElem?_eq_getElem hsb)
 unfold lastStep rideAt
 rw[getD_of hsl,getD_of hsb]
 generalize f.2.2.1[s]=p at*
 generalize before[s]=b at*
 by_cases h1:p.2.1= -1
 ·rw[decide_eq_true h1]
  exact⟨h,Mv.refl f,fun e=>absurd h1 e⟩
 rw[decide_eq_false h1]
 simp only[Bool.not_false,Bool.true_and]
 cases hl:less b.2.1 p.2.1 with
 |false=>
  simp only[cond_false]
  have hno: ¬ (b.2.1= -1∨p.2.1<b.2.1):=fun e=>by rw[less_iff.2 e] at hl;cases hl
  have hc:=(hcb (by omega)).weak (v:=p.2.1) (by omega)
  exact⟨h,Mv.refl f,fun _=>⟨hA _ _ hc.1,hY _ _ hc.2.1,fun q hq a b=>let ⟨x,y⟩:=hc.2.2 q hq a b;⟨hA _ _ x,hY _ _ y⟩⟩⟩
 |true=>
  simp only[cond_true]
  obtain⟨k,hk,js,hch,hd⟩:=hsp.rid h1
  have hok:=C.ok hd
  have hcg:=C.net.change (s:Int) (by omega) (by omega)
  have hr0:0≤p.2.1:=hok.2.2.1
  have hr1:0≤p.2.1+(stOf n (s:Int)).2.2.2.1:=by omega
  rw[hf]
  have hs1:=h.imp (i:=s) (l:=p.2.2.2.2.1) ⟨k,hk,js,hch, .arrR hd⟩ ⟨k,hk,js,hch, .change hd⟩
  have hm1:=imp_mv f s hr0 hr1 p.2.2.2.2.1
  have hn1:=imp_new hsl hr0 hr1 p.2.2.2.2.1
  obtain⟨w1,w2,w3⟩:=walkF_snd C (s:=(s:Int)) (t:=p.2.1) (prev:=p.2.2.2.2.1) hr0 hk (fun q hq e1 e2=>⟨.arrV hd hq e1 e2, .rdyV hd hq e1 e2⟩) (hm1.net.trans hf) (by rw[(impF_holds ..).now,hS.now,hf]) hs1 (hm1.ch hch)
  exact⟨w1,hm1.trans w2,fun _=>⟨w2.arr _ _ hn1.1,w2.rdy _ _ hn1.2,w3⟩⟩
theorem lastL_snd (C:Ctx n s0 t0 w) {before:List PlcT} (hbl:before.length=n.1.length) (hclo:Clo n before): ∀ (m:Nat) {f:FinT},f.1=n→St f→Snd (Der n s0 t0 w) K f→
  (∀s t,LeA before s t→LeA f.2.2.1 s t)→(∀s t,LeY before s t→LeY f.2.2.1 s t)→m≤n.1.length→
  Snd (Der n s0 t0 w) K (lastL before m f)∧Mv f (lastL before m f)∧ ∀s,s<m→rideAt f s≠ -1→CloAt n (lastL before m f).2.2.1 s (rideAt f s)
 |0,f,_,_,h,_,_,_=>⟨h,Mv.refl f,fun s hs=>absurd hs (Nat.not_lt_zero s)⟩
 |m+1,f,hf,hS,h,hA,hY,hm=>by
  obtain⟨h1,h2,h3⟩:=lastL_snd C hbl hclo m hf hS h hA hY (by omega)
  obtain⟨h4,h5,h6⟩:=lastStep_snd C hbl hclo (f:=lastL before m f) (s:=m) (h2.net.trans hf) (hS.step (lastL_holds before m f).1) h1 (fun s t e=>h2.arr _ _ (hA s t e)) (fun s t e=>h2.rdy _ _ (hY s t e)) (by omega)
  refine⟨h4,h2.trans h5,fun s hs=> ?_⟩
  by_cases e:s=m
  ·subst e
   rw[lastL_ride] at h6
   exact h6
  ·exact fun e' =>(h3 s (by omega) e').mono h5
structure Cmp (n:NetT) (s0 t0 w:Int) (K:Nat) (now:List PlcT) (linked:List BrdT):Prop where
 rdy: ∀ {k:Nat} {s r:Int} {js:List LegT},k≤K→Der n s0 t0 w (.rdy k s r) js→LeY now s.toNat r
 rid: ∀ {k:Nat} {s r:Int} {js:List LegT},k≤K→Der n s0 t0 w (.rid k s r) js→LeR now s.toNat r
 arr: ∀ {k:Nat} {s r:Int} {js:List LegT},k≤K→Der n s0 t0 w (.arr k s r) js→LeA now s.toNat r
 lnk: ∀ {k i c:Nat} {js:List LegT},k≤K+1→Der n s0 t0 w (.lnk k i c) js→LeB linked i (c:Int)
theorem cmp_next (C:Ctx n s0 t0 w) {before:List PlcT} {boarded:List BrdT} {g h:FinT} (hc:Cmp n s0 t0 w K before boarded) (hA: ∀s t,LeA before s t→LeA h.2.2.1 s t) (hY: ∀s t,LeY before s t→LeY h.2.2.1 s t)
  (hbeg: ∀i,i<n.2.2.1.length→Beg n before boarded i g) (hvis: ∀ (i:Nat) b,g.2.2.2.2.1[i]? =some b→b.1≠ -1→Vis n i b.1 g) (hm:Mv g h) (hclo:Clo n h.2.2.1):
  Cmp n s0 t0 w (K+1) h.2.2.1 h.2.2.2.1:=by
 have key: ∀ {f:Fact} {js:List LegT},Der n s0 t0 w f js→match f with
   | .rdy k s r=>k≤K+1→LeY h.2.2.1 s.toNat r
   | .brd k i c _=>k≤K+1→LeB g.2.2.2.2.1 i (c:Int)
   | .lnk k i c=>k≤K+2→LeB h.2.2.2.1 i (c:Int)
   | .on k i c=>k≤K+1→Vst n i c g
   | .rid k s t=>k≤K+1→LeR h.2.2.1 s.toNat t
   | .arr k s t=>k≤K+1→LeA h.2.2.1 s.toNat t:=by
  have cl: ∀ {s t:Int},0≤s→LeR h.2.2.1 s.toNat t→CloAt n h.2.2.1 s.toNat t∧((s.toNat:Nat):Int)=s:=by
   rintro s t h0 ⟨p,h1,h2,h3⟩
   exact⟨(hclo _ _ h1 h2).weak h3,by omega⟩
  intro f js d
  induction d with
  |init=>exact fun _=>hY _ _ (hc.rdy (Nat.zero_le _) .init)
  |here=>exact fun _=>hA _ _ (hc.arr (Nat.zero_le _) .here)
  |rdyW h1 h2 h3=>exact fun _=>hY _ _ (hc.rdy (Nat.zero_le _) (.rdyW h1 h2 h3))
  |arrW h1 h2 h3=>exact fun _=>hA _ _ (hc.arr (Nat.zero_le _) (.arrW h1 h2 h3))
  |board d h1 h2 h3 h4 h5 h6 _=>
   intro hk
   refine((hbeg _ h1) h3).2 _ h2 h5 ?_
   rw[h4]
   exact(hc.rdy (by omega) d).weak h6
  |on d h1 h2 ih=>
   intro hk
   obtain⟨b,b1,b2,b3⟩:=ih hk
   exact hvis _ _ b1 b2 _ (by omega) h2
  |stay d h1 h2 h3 ih=>exact fun hk=>(((ih hk).2 _ _ _ h1 h2).1 rfl h3)
  |link d h1 h2 h3 h4 ih=>exact fun hk=>hm.lnk _ _ (((ih (by omega)).2 _ _ _ h2 h3).2 rfl h1 h4)
  |linked d h1 _=>exact fun hk=>((hbeg _ (C.ok d).2.1) h1).1 _ (hc.lnk hk d)
  |ride d h1 ih=>exact fun hk=>hm.rid _ _ ((ih hk).1 h1)
  |change d ih=>
   intro hk
   obtain⟨⟨_,h2,_⟩,e⟩:=cl (C.ok d).2.1.1 (ih hk)
   rw[e] at h2
   exact h2
  |rdyV d h1 h2 h3 ih=>
   intro hk
   obtain⟨⟨_,_,h4⟩,e⟩:=cl (C.ok d).2.1.1 (ih hk)
   exact(h4 _ h1 (by rw[e];exact h2) h3).2
  |arrR d ih=>exact fun hk=>(cl (C.ok d).2.1.1 (ih hk)).1.1
  |arrV d h1 h2 h3 ih=>
   intro hk
   obtain⟨⟨_,_,h4⟩,e⟩:=cl (C.ok d).2.1.1 (ih hk)
   exact(h4 _ h1 (by rw[e];exact h2) h3).1
 exact⟨fun hk d=>key d hk,fun hk d=>key d hk,fun hk d=>key d hk,fun hk d=>key d hk⟩
structure RI (n:NetT) (s0 t0 w:Int) (K:Nat) (f:FinT):Prop where
 net:f.1=n
 nowl:f.2.2.1.length=n.1.length
 lnkl:f.2.2.2.1.length=n.2.2.1.length
 out:OutOk n f.2.2.2.2.2.2.1
 few: ∀ks∈f.2.2.2.2.2.2.1,ks.length≤1024
 now: ∀ (s:Nat) p,f.2.2.1[s]? =some p→SP (Der n s0 t0 w) f.2.1 K (s:Int) p
 lnk: ∀ (i:Nat) b,f.2.2.2.1[i]? =some b→SL (Der n s0 t0 w) f.2.1 K i b
 cmp:Cmp n s0 t0 w K f.2.2.1 f.2.2.2.1
 clo:Clo n f.2.2.1
theorem RI.links (C:Ctx n s0 t0 w) {f:FinT} (h:RI n s0 t0 w K f): ∀ks∈f.2.2.2.2.2.2.1,ks.length≤1024∧ ∀k∈ks,inR k n.2.2.2.1.length=true∧LinkOk n (lkI n k):=by
 intro ks hks
 refine⟨h.few ks hks,fun k hk=> ?_⟩
 obtain⟨i,hi,rfl⟩:=List.getElem_of_mem hks
 obtain⟨h1,h2⟩:=(h.out.2 i _ (List.getElem?_eq_getElem hi) k).1 hk
 refine⟨h1, ?_⟩
 obtain⟨i',c',j,d,st,e,hi',hj,_,_,hd,_⟩:=C.net.link _ (lkI_mem h1)
 rw[e]
 refine⟨?_, ?_⟩
 ·show inR (j:Int) _=true
  unfold inR;rw[Bool.and_eq_true,decide_eq_true_eq,decide_eq_true_eq];omega
 ·show inR (d:Int) (rn n (j:Int)).2.2.2.2.2.2.2.1.length=true
  have:d< (rn n (j:Int)).2.2.2.2.2.2.2.1.length:=hd
  unfold inR;rw[Bool.and_eq_true,decide_eq_true_eq,decide_eq_true_eq];omega
theorem rooms_none (m:Nat):rooms (List.replicate m b00)=40*m:=by
 unfold rooms
 rw[List.map_replicate,List.sum_replicate_nat]
 show m*40=_
 omega
end Q
namespace Q
open Tr Go
variable {n:NetT} {s0 t0 w:Int} {K:Nat}
theorem bex {α β:Type} {o:Option α} {f:α→Option β} {Q:β→Prop} (P:α→Prop) (h: ∃r,o=some r∧P r) (k: ∀r,P r→ ∃s,f r=some s∧Q s): ∃s,Option.bind o f=some s∧Q s:=by
 obtain⟨r,rfl,hr⟩:=h
 exact k r hr
theorem copy_all (l:List PlcT) (x:PlcT):List.take (Min.min (List.length l) (List.length (List.replicate (Int.toNat (↑(List.length l):Int)) x))) l++List.drop (Min.min (List.length l) (List.length (List.replicate (Int.toNat (↑(List.length l):Int)) x))) (List.replicate (Int.toNat (↑(List.length l):Int)) x)=l:=by simp
theorem pop_mv (f:FinT):Mv f (popF f):=⟨rfl,⟨[],by simp [popF]⟩,fun _ _ h=>h,fun _ _ h=>h,fun _ _ h=>h,fun _ _ h=>h,fun _ _ h=>h,rfl⟩
structure OL (n:NetT) (s0 t0 w:Int) (K:Nat) (g1 f:FinT):Prop where
 net:f.1=n
 out:OutOk n f.2.2.2.2.2.2.1
 snd:Snd (Der n s0 t0 w) K f
 vis: ∀ (i:Nat) b,f.2.2.2.2.1[i]? =some b→b.1≠ -1→(i:Int)∈f.2.2.2.2.2.1∨Vis n i b.1 f
 mv:Mv g1 f
theorem ol_step (C:Ctx n s0 t0 w) {g1:FinT} (f:FinT) (i:Nat) (hS:St f) (hB:Brd f) (hi:i<f.1.2.2.1.length) (hpop:f.2.2.2.2.2.1=(popF f).2.2.2.2.2.1++[(i:Int)]) (hin:inR ((f.2.2.2.2.1[i]?).getD (0,0,false,())).1 (f.1.2.2.1[i]).2.2.2.2.2.2.2.1.length=true) (h:OL n s0 t0 w K g1 f):
  OL n s0 t0 w K g1 (visitF (popF f) i):=by
 have hnet:=h.net
 have hi' :i<n.2.2.1.length:=by rw[←hnet];exact hi
 have hin' :inR (((popF f).2.2.2.2.1[i]?).getD (0,0,false,())).1 (callsAt n i).length=true:=by
  rw[callsAt_eq hi']
  simp only[←hnet]
  exact hin
 obtain⟨h1,⟨h2,h3⟩,h4⟩:=visitF_snd C (f:=popF f) hnet (popF_ok hS hB).1 h.out ⟨h.snd.now,h.snd.brd,h.snd.lnk⟩ hi' hin'
 refine⟨h2.net.trans hnet,by rw[h2.out];exact h.out,h1,fun j b hb hne=> ?_,h.mv.trans ((pop_mv f).trans h2)⟩
 rcases h3.chg j with e|e
 ·rw[e] at hb
  rcases h.vis j b hb hne with ho|hv
  ·rw[hpop,List.mem_append] at ho
   rcases ho with ho|ho
   ·exact .inl (h3.opn _ ho)
   ·simp only[List.mem_singleton,Int.natCast_inj] at ho
    subst ho
    right
    rw[hb] at h4
    exact h4
  ·exact .inr (hv.mono ((pop_mv f).trans h2))
 ·exact .inl e
theorem round_val (C:Ctx n s0 t0 w) (hp:n.2.2.2.2.1.length≤4096) {f:FinT} (h:RI n s0 t0 w K f) (hl:f.2.1.length+4000000<4000000000):
  ∃g,F88 f f.2.2.1=some g∧RI n s0 t0 w (K+1) g∧(∃m,g.2.1=f.2.1++m)∧g.2.1.length≤f.2.1.length+4000000:=by
 have hs:=C.net.sound
 have hst:=hs.stops
 have hrn:=hs.runs
 have hlinks:=h.links C
 obtain⟨h1,h2,h3,h4,h5,h6,h7,h8,h9⟩:=h
 obtain⟨n',lb,before,linked,runs0,opn0,out,u⟩:=f
 simp only at*
 subst h1
 unfold F88
 simp only
 have hm: (maxApp:Int)=4294967296:=by simp [maxApp]
 have hg:guardB (decide ((0:Int)≤(before.length:Int)∧(before.length:Int)≤(before.length:Int)∧(before.length:Int)≤(maxApp:Int)))=some ():=by
  rw[decide_eq_true (by rw[hm];omega)];rfl
 have hub:F91 (linked.length:Int)=some (List.replicate n'.2.2.1.length b00):=by rw[h3];exact unboarded_val (by omega)
 refine bex (fun _=>True) ⟨(),hg,trivial⟩ fun _ _=> ?_
 refine bex (fun r=>r=List.replicate n'.2.2.1.length b00) ⟨_,hub,rfl⟩ ?_
 rintro _ rfl
 refine bex (fun r=>r=List.replicate n'.2.2.1.length b00) ⟨_,hub,rfl⟩ ?_
 rintro _ rfl
 erw[copy_all]
 generalize hf0: ((n',lb,before,List.replicate n'.2.2.1.length b00,List.replicate n'.2.2.1.length b00,[],out,()):FinT)=f0
 have hS0:St f0:=by rw[←hf0];exact⟨hs,h2,by simp,by simp,h4.1,hlinks⟩
 have e1:f0.1=n' :=by rw[←hf0]
 have e2:f0.2.1=lb:=by rw[←hf0]
 have e3:f0.2.2.1=before:=by rw[←hf0]
 have e4:f0.2.2.2.1=List.replicate n'.2.2.1.length b00:=by rw[←hf0]
 have e5:f0.2.2.2.2.1=List.replicate n'.2.2.1.length b00:=by rw[←hf0]
 have e6:f0.2.2.2.2.2.1=[]:=by rw[←hf0]
 have e7:f0.2.2.2.2.2.2.1=out:=by rw[←hf0]
 have hrep: ∀ {i:Nat} {b:BrdT},(List.replicate n'.2.2.1.length b00)[i]? =some b→b=b00:=by
  intro i b hb
  exact List.eq_of_mem_replicate (List.mem_of_getElem? hb)
 have hB0:Brd f0:=⟨fun b hb=>by rw[e5] at hb;rw[List.eq_of_mem_replicate hb];exact .inl rfl,fun r hr=>by rw[e6] at hr;cases hr⟩
 have hF0:fall f0≤81920:=by unfold fall;rw[e5,e6,rooms_none];simp only[List.length_nil];omega
 have hN0:Snd (Der n' s0 t0 w) (K+1) f0:=
  ⟨fun s p hq=>by rw[e3] at hq;rw[e2];exact(h6 s p hq).weak (Nat.le_succ K),fun i b hb=>(by rw[e5] at hb;rw[hrep hb];exact fun e=>absurd rfl e),fun i b hb=>(by rw[e4] at hb;rw[hrep hb];exact fun e=>absurd rfl e)⟩
 have hbv:=begin_val (before:=before) (boarded:=linked) hS0 (by rw[e1];exact h2) (by rw[e1];exact h3) (by rw[e6];simp)
 have hbd: ∀i,(hi:i<f0.1.2.2.1.length)→((linked[i]?).getD (0,0,false,())).1= -1∨inR ((linked[i]?).getD (0,0,false,())).1 (f0.1.2.2.1[i]).2.2.2.2.2.2.2.1.length=true:=by
  intro i hi
  have hi' :i<n'.2.2.1.length:=by rw[←e1];exact hi
  have hil:i<linked.length:=by omega
  rw[getD_of hil]
  have hx:=h7 i _ (List.getElem?_eq_getElem hil)
  by_cases hz: (linked[i]).1= -1
  ·exact .inl hz
  right
  obtain⟨_,k,hk,c,hc,js,hch,hd⟩:=hx hz
  have:=(C.ok hd).2.2
  rw[callsAt_eq hi'] at this
  have e:f0.1.2.2.1[i]=n'.2.2.1[i]:=by simp only[e1]
  rw[hc,e]
  unfold inR;rw[Bool.and_eq_true,decide_eq_true_eq,decide_eq_true_eq];omega
 have hlen1:f0.1.2.2.1.length=n'.2.2.1.length:=by rw[e1]
 rw[hlen1] at hbv
 obtain⟨b1,b2⟩:=beginL_fall (before:=before) n'.2.2.1.length hS0 hB0 (by rw[hlen1];omega) hbd
 obtain⟨b3,b4⟩:=beginL_holds (before:=before) (boarded:=linked) n'.2.2.1.length hS0 (by rw[hlen1];omega)
 obtain⟨b5,⟨b6,b6'⟩,b7⟩:=beginL_snd C h2 h3 n'.2.2.1.length e1 hS0 (by rw[e2];exact h6) (by rw[e2];exact h7) hN0 (Nat.le_refl _)
 refine bex (fun r=>r=beginL before linked n'.2.2.1.length f0) ⟨_, ?_,rfl⟩ ?_
 ·rw[e1] at hbv
  exact hbv
 rintro _ rfl
 generalize hg1:beginL before linked n'.2.2.1.length f0=g1 at*
 have hO1:OL n' s0 t0 w (K+1) g1 g1:=⟨b6.net.trans e1,by rw[b6.out,e7];exact h4,b5,fun i b hb hne=> ?_,Mv.refl g1⟩
 rotate_left
 ·rcases b6'.chg i with e|e
  ·rw[e,e5] at hb
   rw[hrep hb] at hne
   exact absurd rfl hne
  ·exact .inl e
 obtain⟨g,g2,g3,g4,g5,g6,g7,g8,g9⟩:=open_loop (OL n' s0 t0 w (K+1) g1) (ol_step C) 81920 (f:=g1) (by omega) (hS0.step b3) b1 hO1 (by rw[b4,e2];omega) (by omega)
 refine bex (fun r=>r=g) ⟨_,g2,rfl⟩ fun x hx=> ?_
 rw[hx]
 have hlb1:g1.2.1.length=lb.length:=by rw[b4,e2]
 have hmv:=b6.trans g5.mv
 have hgn:g.1=n' :=g5.net
 have hA: ∀s t,LeA before s t→LeA g.2.2.1 s t:=fun s t e=>hmv.arr s t (by rw[e3];exact e)
 have hY: ∀s t,LeY before s t→LeY g.2.2.1 s t:=fun s t e=>hmv.rdy s t (by rw[e3];exact e)
 have hnl:g.2.2.1.length=n'.1.length:=by rw[g3.now,hgn]
 obtain⟨l1,l2,l3⟩:=lastL_snd C h2 h9 g.2.2.1.length hgn g3 g5.snd hA hY (by omega)
 have lh:=lastL_holds before g.2.2.1.length g
 have hlv:=lastL_val g3 (by rw[h2,hnl]) (fun j hj=> ?_) (fun s hs' => ?_) (by omega) (by rw[hgn];exact hp) (fun q hq=> ?_) (before:=before)
 rotate_left
 ·unfold rideAt
  rw[getD_of hj]
  by_cases hz: (g.2.2.1[j]).2.1= -1
  ·exact .inl hz
  right
  obtain⟨k,_,js,_,hd⟩:=(g5.snd.now j _ (List.getElem?_eq_getElem hj)).rid hz
  exact(C.ok hd).2.2
 ·rw[hgn] at hs' ⊢
  exact C.net.change (s:Int) (by omega) (by omega)
 ·rw[hgn] at hq ⊢
  have:=C.net.path q hq
  exact⟨this.2.1.1,this.2.1.2,by omega,by omega⟩
 refine bex (fun y=>y=lastL before g.2.2.1.length g) ⟨_,hlv,rfl⟩ ?_
 rintro _ rfl
 have hmn:g.2.2.1.length*g.1.2.2.2.2.1.length≤64*4096:=Nat.mul_le_mul (by omega) (by rw[hgn];exact hp)
 have hclo:Clo n' (lastL before g.2.2.1.length g).2.2.1:=by
  intro s q hq hne
  have hsl:=(List.getElem?_eq_some_iff.1 hq).1
  have e:rideAt (lastL before g.2.2.1.length g) s=q.2.1:=by unfold rideAt;rw[hq];rfl
  rw[lastL_ride] at e
  have:=l3 s (by rw[lh.1.now] at hsl;exact hsl) (by rw[e];exact hne)
  rw[e] at this
  exact this
 have hm0:=hmv.trans l2
 refine⟨_,rfl,⟨l2.net.trans hgn,by rw[lh.1.now,hnl],by rw[lh.1.linked,g3.linked,hgn],by rw[l2.out,hmv.out,e7];exact h4,by rw[l2.out,hmv.out,e7];exact h5,l1.now,l1.lnk, ?_,hclo⟩, ?_, ?_⟩
 ·refine cmp_next C h8 (fun s t e=>l2.arr _ _ (hA s t e)) (fun s t e=>l2.rdy _ _ (hY s t e)) (fun i hi=>(b7 i hi).mono g5.mv) (fun i b hb hne=> ?_) l2 hclo
  rcases g5.vis i b hb hne with e|e
  ·rw[g6] at e;cases e
  ·exact e
 ·obtain⟨m,hm'⟩:=hm0.lab
  exact⟨m,by rw[hm',e2]⟩
 ·have:=lh.2
  omega
end Q
namespace Q
open Tr Go
def callOk (x y:CallT):Bool:=decide (x.1=y.1) && (x.2.2.2.1==y.2.2.2.1) && (x.2.2.2.2.1==y.2.2.2.2.1) && !decide (y.2.1<x.2.1) && !decide (y.2.2.1<x.2.2.1)
def folC (a b:RunT) (i:Nat):Int:=if callOk (cl a.2.2.2.2.2.2.2.1 i) (cl b.2.2.2.2.2.2.2.1 i) then 0 else 1
def folB (a b:RunT):Bool:=decide (a.2.2.2.2.1=b.2.2.2.2.1) && (a.2.2.2.2.2.1==b.2.2.2.2.2.1) &&decide (a.2.2.2.2.2.2.2.1.length=b.2.2.2.2.2.2.2.1.length) && (firstBad a.2.2.2.2.2.2.2.1.length (folC a b)).isNone
theorem cl_nat {l:List CallT} {i:Nat} (h:i<l.length):cl l (i:Int)=l[i]:=by
 unfold cl
 rw[show ((i:Nat):Int).toNat=i from rfl,getD_of h]
theorem alike_val (x y:CallT):F33 x y=some (decide (x.1=y.1) && ((x.2.2.2.1==y.2.2.2.1) && (x.2.2.2.2.1==y.2.2.2.2.1))):=by
 unfold F33
 rw[decide_eq_true rfl]
 simp only[Bool.true_and]
theorem follows_val (a b:RunT) (hl:a.2.2.2.2.2.2.2.1.length≤9223372036854775807):F35 a b=some (folB a b):=by
 unfold F35 folB
 by_cases h1:a.2.2.2.2.1=b.2.2.2.2.1
 case neg=>simp only[decide_eq_false h1,Bool.not_false,cond_true,Option.bind_some,Bool.false_and]
 simp only[decide_eq_true h1,Bool.not_true,cond_false,Bool.true_and]
 cases h2: (a.2.2.2.2.2.1==b.2.2.2.2.2.1) with
 |false=>simp only[Bool.not_false,cond_true,Option.bind_some,Bool.false_and]
 |true=>
  simp only[Bool.not_true,cond_false,Bool.true_and]
  by_cases h3:a.2.2.2.2.2.2.2.1.length=b.2.2.2.2.2.2.2.1.length
  case neg=>
   have h3' : ¬ ((a.2.2.2.2.2.2.2.1.length:Int)=(b.2.2.2.2.2.2.2.1.length:Int)):=by omega
   simp only[decide_eq_false h3,decide_eq_false h3',Bool.not_false,cond_true,Option.bind_some,Bool.false_and]
  have h3' : ((a.2.2.2.2.2.2.2.1.length:Int)=(b.2.2.2.2.2.2.2.1.length:Int)):=by omega
  simp only[decide_eq_true h3,decide_eq_true h3',Bool.not_true,cond_false,Option.bind_some,Bool.true_and]
  rw[scan_run (n:=a.2.2.2.2.2.2.2.1.length) (fun i st=>st=(i:Int)) (folC a b) (fun _=> .inr false) (.inl ()) ?_ ?_ ?_ (0:Int) rfl]
  ·unfold pick
   cases firstBad a.2.2.2.2.2.2.2.1.length (folC a b)<;>rfl
  ·rintro i _ hi rfl hc
   have hi' :i<b.2.2.2.2.2.2.2.1.length:=by omega
   have hok:callOk a.2.2.2.2.2.2.2.1[i] b.2.2.2.2.2.2.2.1[i]=true:=by
    unfold folC at hc
    rw[cl_nat hi,cl_nat hi'] at hc
    split at hc
    ·assumption
    ·omega
   simp only[callOk,Bool.and_eq_true,Bool.not_eq_true',decide_eq_true_eq] at hok
   obtain⟨⟨⟨⟨k1,k2⟩,k3⟩,k4⟩,k5⟩:=hok
   refine⟨((i+1:Nat):Int), ?_,rfl⟩
   simp only[lt_dec hi,cond_true,idx_nat hi,idx_nat hi',Option.bind_some,alike_val,decide_eq_true k1,k2,k3,k4,k5,Bool.and_self,Bool.not_true,cond_false,wrap_succ hi hl]
  ·rintro i _ hi rfl hc
   have hi' :i<b.2.2.2.2.2.2.2.1.length:=by omega
   have hok:callOk a.2.2.2.2.2.2.2.1[i] b.2.2.2.2.2.2.2.1[i]=false:=by
    unfold folC at hc
    rw[cl_nat hi,cl_nat hi'] at hc
    split at hc
    ·omega
    ·rename_i hh;simpa using hh
   simp only[lt_dec hi,cond_true,idx_nat hi,idx_nat hi',Option.bind_some,alike_val]
   unfold callOk at hok
   generalize decide (a.2.2.2.2.2.2.2.1[i].1=b.2.2.2.2.2.2.2.1[i].1)=b1 at*
   generalize (a.2.2.2.2.2.2.2.1[i].2.2.2.1==b.2.2.2.2.2.2.2.1[i].2.2.2.1)=b2 at*
   generalize (a.2.2.2.2.2.2.2.1[i].2.2.2.2.1==b.2.2.2.2.2.2.2.1[i].2.2.2.2.1)=b3 at*
   generalize decide (b.2.2.2.2.2.2.2.1[i].2.1<a.2.2.2.2.2.2.2.1[i].2.1)=b4 at*
   generalize decide (b.2.2.2.2.2.2.2.1[i].2.2.1<a.2.2.2.2.2.2.2.1[i].2.2.1)=b5 at*
   revert hok
   cases b1<;>cases b2<;>cases b3<;>cases b4<;>cases b5<;>intro hok<;>first|rfl|exact absurd hok (by decide)
  ·rintro _ rfl
   simp only[nlt_dec,cond_false]
def ln (l:List Int) (i:Nat):Int:=(l[i]?).getD 0
theorem ln_of {l:List Int} {i:Nat} (h:i<l.length):ln l i=l[i]:=getD_of h 0
def canc (x:RunT):Bool:=x.2.2.2.2.2.2.1
theorem calls_of {n:NetT} (hc: ∀x∈n.2.2.1,x.2.2.2.2.2.2.2.1.length≤9223372036854775807) (a:Int): (rn n a).2.2.2.2.2.2.2.1.length≤9223372036854775807:=by
 unfold rn
 cases h:n.2.2.1[a.toNat]? with
 |none=>simp [u0]
 |some x=>exact hc x (List.mem_of_getElem? h)
theorem idx_rn {n:NetT} {a:Int} (h:inR a n.2.2.1.length=true):Tr.idx n.2.2.1 a=some (rn n a):=idx_int h u0
abbrev calls (x:RunT):List CallT:=x.2.2.2.2.2.2.2.1
theorem idx_cl {l:List CallT} {c:Int} (h:inR c l.length=true):Tr.idx l c=some (cl l c):=idx_int h c0
def d0 (n:NetT) (o:Int):Int:=(cl (calls (rn n o)) 0).2.2.1
def pLe (n:NetT) (d o:Int):Bool:=decide (d0 n o≤d)
def insL (n:NetT) (out:List Int) (m:Int):List Int:=out.takeWhile (pLe n (d0 n m))++m::out.dropWhile (pLe n (d0 n m))
def ordL (n:NetT):Nat→List Int
 |0=>[]
 |m+1=>if canc (rn n m) then ordL n m else insL n (ordL n m) m
structure OrdI (n:NetT) (m:Nat) (out:List Int):Prop where
 srt:out.Pairwise fun a b=>d0 n a≤d0 n b
 el: ∀o∈out,0≤o∧o< (m:Int)∧canc (rn n o)=false
 nd:out.Nodup
 len:out.length≤m
 all: ∀k:Nat,k<m→canc (rn n k)=false→(k:Int)∈out
theorem dw_not {n:NetT} {d:Int} : ∀ {out:List Int},(out.Pairwise fun a b=>d0 n a≤d0 n b)→ ∀o∈out.dropWhile (pLe n d),d<d0 n o
 | [],_,o,h=>by simp at h
 |x::l,hs,o,h=>by
  rw[List.pairwise_cons] at hs
  rw[List.dropWhile_cons] at h
  split at h
  ·exact dw_not hs.2 o h
  ·rename_i hx
   have hx' :d<d0 n x:=by
    have: ¬d0 n x≤d:=by simpa [pLe] using hx
    omega
   rcases List.mem_cons.1 h with rfl|h
   ·exact hx'
   ·have:=hs.1 o h;omega
theorem tw_yes {n:NetT} {d:Int} : ∀ {out:List Int}, ∀o∈out.takeWhile (pLe n d),d0 n o≤d
 | [],o,h=>by simp at h
 |x::l,o,h=>by
  rw[List.takeWhile_cons] at h
  split at h
  ·rename_i hx
   rcases List.mem_cons.1 h with rfl|h
   ·simpa [pLe] using hx
   ·exact tw_yes o h
  ·simp at h
theorem OrdI.ins {n:NetT} {m:Nat} {out:List Int} (h:OrdI n m out) (hc:canc (rn n m)=false):OrdI n (m+1) (insL n out m):=by
 have e:out.takeWhile (pLe n (d0 n m))++out.dropWhile (pLe n (d0 n m))=out:=List.takeWhile_append_dropWhile
 have hp: (insL n out m).Perm ((m:Int)::out):=by
  unfold insL
  refine(List.perm_middle).trans ?_
  rw[e]
 have hs:=h.srt
 rw[←e] at hs
 obtain⟨s1,s2,s3⟩:=List.pairwise_append.1 hs
 refine⟨?_,fun o ho=> ?_, ?_,by rw[hp.length_eq];simp;exact h.len,fun k hk hck=> ?_⟩
 ·unfold insL
  refine List.pairwise_append.2 ⟨s1,List.pairwise_cons.2 ⟨fun o ho=> ?_,s2⟩,fun a ha b hb=> ?_⟩
  ·have:=dw_not h.srt o ho;omega
  ·rcases List.mem_cons.1 hb with rfl|hb
   ·exact tw_yes a ha
   ·exact s3 a ha b hb
 ·rcases List.mem_cons.1 (hp.mem_iff.1 ho) with rfl|ho
  ·exact⟨by omega,by omega,hc⟩
  ·obtain⟨a,b,c⟩:=h.el o ho;exact⟨a,by omega,c⟩
 ·refine hp.nodup_iff.2 (List.nodup_cons.2 ⟨fun hm=> ?_,h.nd⟩)
  have:=(h.el _ hm).2.1;omega
 ·refine hp.mem_iff.2 ?_
  by_cases e:k=m
  ·subst e;simp
  ·exact List.mem_cons_of_mem _ (h.all k (by omega) hck)
theorem ordL_ok (n:NetT): ∀m,OrdI n m (ordL n m)
 |0=>⟨.nil,by simp [ordL],by simp [ordL],by simp [ordL],fun k hk=>by omega⟩
 |m+1=>by
  unfold ordL
  have ih:=ordL_ok n m
  split
  ·rename_i hc
   exact⟨ih.srt,fun o ho=>by obtain⟨a,b,c⟩:=ih.el o ho;exact⟨a,by omega,c⟩,ih.nd,by have:=ih.len;omega,fun k hk hck=>by
    by_cases e:k=m
    ·subst e;rw[hc] at hck;exact absurd hck (by decide)
    ·exact ih.all k (by omega) hck⟩
  ·rename_i hc
   exact ih.ins (by simpa using hc)
theorem cut_at {n:NetT} {d:Int} {out:List Int} (hs:out.Pairwise fun a b=>d0 n a≤d0 n b): ∀ (i:Nat) (hi:i<out.length),pLe n d out[i]=true↔i< (out.takeWhile (pLe n d)).length:=by
 intro i hi
 have e:out.takeWhile (pLe n d)++out.dropWhile (pLe n d)=out:=List.takeWhile_append_dropWhile
 constructor
 ·intro hp
  apply Decidable.byContradiction
  intro hlt
  have hm:out[i]∈out.dropWhile (pLe n d):=by
   have h2:i - (out.takeWhile (pLe n d)).length< (out.dropWhile (pLe n d)).length:=by
    have:=congrArg List.length e;simp only[List.length_append] at this;omega
   have:out[i]=(out.dropWhile (pLe n d))[i - (out.takeWhile (pLe n d)).length]:=by
    have h3:out[i]? =(out.dropWhile (pLe n d))[i - (out.takeWhile (pLe n d)).length]? :=by
     conv=>lhs;rw[←e]
     rw[List.getElem?_append_right (by omega)]
    rw[List.getElem?_eq_getElem hi,List.getElem?_eq_getElem h2] at h3
    exact Option.some.inj h3
   rw[this];exact List.getElem_mem h2
  have:=dw_not hs _ hm
  have h4:d0 n out[i]≤d:=by simpa [pLe] using hp
  omega
 ·intro hlt
  have hm:out[i]∈out.takeWhile (pLe n d):=by
   have h3:out[i]? =(out.takeWhile (pLe n d))[i]? :=by
    conv=>lhs;rw[←e]
    rw[List.getElem?_append_left hlt]
   rw[List.getElem?_eq_getElem hi,List.getElem?_eq_getElem hlt] at h3
   rw[Option.some.inj h3];exact List.getElem_mem hlt
  simpa [pLe] using tw_yes _ hm
theorem tw_take {n:NetT} {d:Int} (out:List Int):out.takeWhile (pLe n d)=out.take (out.takeWhile (pLe n d)).length∧out.dropWhile (pLe n d)=out.drop (out.takeWhile (pLe n d)).length:=by
 have e:out.takeWhile (pLe n d)++out.dropWhile (pLe n d)=out:=List.takeWhile_append_dropWhile
 constructor
 ·have:=List.take_left (l₁:=out.takeWhile (pLe n d)) (l₂:=out.dropWhile (pLe n d))
  rw[e] at this;exact this.symm
 ·have:=List.drop_left (l₁:=out.takeWhile (pLe n d)) (l₂:=out.dropWhile (pLe n d))
  rw[e] at this;exact this.symm
theorem ordered1_val {n:NetT} (h:Sound n) {o d:Int} (hr:inR o n.2.2.1.length=true):F37 o n d=some (pLe n d o):=by
 unfold F37
 have hm:=h.many _ (rn_mem hr)
 rw[idx_rn hr]
 simp only[Option.bind_some]
 have h0:inR 0 (calls (rn n o)).length=true:=by
  unfold inR;rw[decide_eq_true (Int.le_refl 0),decide_eq_true (show (0:Int)< ((calls (rn n o)).length:Int) by show (0:Int)< ((rn n o).2.2.2.2.2.2.2.1.length:Int);omega)];rfl
 rw[idx_cl h0]
 rfl
theorem findO_val {n:NetT} (h:Sound n) {out:List Int} {d:Int} (hl:out.length≤4611686018427387904) (hr: ∀o∈out,inR o n.2.2.1.length=true) {k:Nat} (hk:k≤out.length) (hp: ∀ (i:Nat) (hi:i<out.length),pLe n d out[i]=true↔i<k):
  F34 out (n,d,())=some (k:Int):=by
 unfold F34
 rw[run_half (n:=out.length) hk ?_ ?_]
 ·rfl
 ·intro lo hi hlt hhi
  have hm:lo+(hi - lo) / 2<out.length:=by omega
  simp only[decide_eq_true (show (lo:Int)< (hi:Int) by omega),cond_true,mid_val (show lo≤hi by omega) (show hi≤4611686018427387904 by omega),idx_nat hm,Option.bind_some]
  rw[ordered1_val h (hr _ (List.getElem_mem hm))]
  simp only[Option.bind_some]
  have hp' :=hp _ hm
  cases hd:pLe n d out[lo+(hi - lo) / 2] with
  |true=>
   rw[if_pos (hp'.1 hd)]
   rw[wrap_i64 (by omega) (by omega)]
   simp only[cond_true]
   rfl
  |false=>
   rw[if_neg (fun hh=>by rw[hp'.2 hh] at hd;exact absurd hd (by decide))]
   rfl
 ·intro lo
  simp only[decide_eq_false (show¬ (lo:Int)< (lo:Int) by omega),cond_false]
theorem copy_ins (out:List Int) {k:Nat} (hk:k≤out.length):
  (List.take (k+1) (out++[(0:Int)])++List.take (min (List.length (List.take (out.length+1 - k) (List.drop k (out++[(0:Int)])))) (out.length+1 - (k+1))) (List.take (out.length+1 - k) (List.drop k (out++[(0:Int)])))++
   List.drop (k+1+min (List.length (List.take (out.length+1 - k) (List.drop k (out++[(0:Int)])))) (out.length+1 - (k+1))) (out++[(0:Int)]))=List.take (k+1) (out++[(0:Int)])++List.drop k out:=by
 have e1:List.take (out.length+1 - k) (List.drop k (out++[(0:Int)]))=List.drop k (out++[(0:Int)]):=List.take_of_length_le (by simp)
 have e2:min (List.length (List.drop k (out++[(0:Int)]))) (out.length+1 - (k+1))=out.length - k:=by simp;omega
 have e3:List.drop (out.length+1) (out++[(0:Int)])=[]:=List.drop_of_length_le (by simp)
 rw[e1,e2,show k+1+(out.length - k)=out.length+1 by omega,e3,List.append_nil]
 congr 1
 rw[List.drop_append_of_le_length hk,List.take_append_of_le_length (by simp),List.take_of_length_le (by simp)]
theorem ins_set (out:List Int) {k:Nat} (hk:k≤out.length) (x m:Int): (List.take (k+1) (out++[x])++List.drop k out).set k m=out.take k++m::out.drop k:=by
 have h1:List.take (k+1) (out++[x])=out.take k++[((out++[x])[k]'(by simp;omega))]:=by
  rw[List.take_succ_eq_append_getElem (by simp;omega),List.take_append_of_le_length hk]
 rw[h1,List.append_assoc,List.set_append_right _ _ (by simp;omega)]
 simp [Nat.min_eq_left hk]
theorem ordered_val {n : NetT} (h : Sound n) : F36 n = some (ordL n n.2.2.1.length) := by
  unfold F36
  refine Exists.elim (run_for (τ := List Int) n.2.2.1.length (fun r => r = ordL n n.2.2.1.length) (fun i (s : List Int × Int) => s = (ordL n i, (i : Int)))
    ?_ ?_ ([], (0 : Int)) rfl) (fun r hr => (congrArg (Option.bind · _) hr.1).trans (by rw [hr.2]; rfl))
  · rintro i _ hi rfl
    have hI := ordL_ok n i
    have hin := h.runs
    have hr : inR (i : Int) n.2.2.1.length = true := by
      unfold inR; rw [decide_eq_true (show (0 : Int) ≤ (i : Int) by omega), decide_eq_true (show (i : Int) < (n.2.2.1.length : Int) by omega)]; rfl
    have hrn : n.2.2.1[i] = rn n (i : Int) := by unfold rn; rw [show ((i : Nat) : Int).toNat = i from rfl, getD_of hi]
    have hll := hI.len
    refine .inl ⟨(ordL n (i + 1), ((i + 1 : Nat) : Int)), ?_, rfl⟩
    simp only [lt_dec hi, cond_true, idx_nat hi, Option.bind_some, hrn]
    cases hc : canc (rn n (i : Int)) with
    | true =>
      rw [show (rn n (i : Int)).2.2.2.2.2.2.1 = true from hc]
      simp only [cond_true, wrap_succ hi (show n.2.2.1.length ≤ 9223372036854775807 by omega)]
      rw [show ordL n (i + 1) = ordL n i by unfold ordL; rw [if_pos hc]; cases i <;> rfl]
    | false =>
      rw [show (rn n (i : Int)).2.2.2.2.2.2.1 = false from hc]
      have h0 : inR 0 (calls (rn n (i : Int))).length = true := by
        have hm := h.many _ (rn_mem hr)
        unfold inR; rw [decide_eq_true (Int.le_refl 0), decide_eq_true (show (0 : Int) < ((calls (rn n (i : Int))).length : Int) by show (0 : Int) < ((rn n (i : Int)).2.2.2.2.2.2.2.1.length : Int); omega)]; rfl
      have hcl : Tr.idx (rn n (i : Int)).2.2.2.2.2.2.2.1 (0 : Int) = some (cl (calls (rn n (i : Int))) 0) := idx_cl h0
      have hkl : ((ordL n i).takeWhile (pLe n (d0 n i))).length ≤ (ordL n i).length := by
        have := congrArg List.length (List.takeWhile_append_dropWhile (p := pLe n (d0 n i)) (l := ordL n i)); simp only [List.length_append] at this; omega
      have hfind := findO_val h (d := d0 n i) (show (ordL n i).length ≤ 4611686018427387904 by omega) (fun o ho => by
        obtain ⟨a, b, _⟩ := hI.el o ho
        unfold inR; rw [decide_eq_true a, decide_eq_true (show o < (n.2.2.1.length : Int) by omega)]; rfl) hkl (cut_at hI.srt)
      rw [show ordL n (i + 1) = insL n (ordL n i) i by conv => lhs; unfold ordL
                                                       rw [if_neg (by rw [hc]; decide)]]
      simp only [cond_false, hcl, Option.bind_some]
      rw [show (cl (calls (rn n (i : Int))) 0).2.2.1 = d0 n i from rfl, hfind]
      unfold insL
      obtain ⟨t1, t2⟩ := tw_take (n := n) (d := d0 n i) (ordL n i)
      generalize hkk : ((ordL n i).takeWhile (pLe n (d0 n i))).length = k at *
      rw [t1, t2]
      clear t1 t2 hkk
      generalize ordL n i = out at *
      have hw : IntKind.wrap .i64 ((k : Int) + 1) = ((k + 1 : Nat) : Int) := by rw [wrap_i64 (by omega) (by omega)]; omega
      have s1 : Tr.sliceB (List.length (out ++ [(0 : Int)])) (List.length (out ++ [(0 : Int)])) (some ((k + 1 : Nat) : Int)) none = some (k + 1, out.length + 1) := by
        unfold Tr.sliceB
        simp only [Option.bind_some, List.length_append, List.length_singleton]
        rw [if_pos ⟨by omega, by omega⟩]
        rfl
      have s2 : Tr.sliceB (List.length (out ++ [(0 : Int)])) (List.length (out ++ [(0 : Int)])) (some (k : Int)) none = some (k, out.length + 1) := by
        unfold Tr.sliceB
        simp only [Option.bind_some, List.length_append, List.length_singleton]
        rw [if_pos ⟨by omega, by omega⟩]
        rfl
      have hg : Tr.guardB (decide (List.length out + List.length [(0 : Int)] ≤ Tr.maxApp)) = some () := guard_app (by simp; omega)
      have hg2 : Tr.guardB (Nat.ble (k + 1 + (out.length + 1 - (k + 1))) (List.length (out ++ [(0 : Int)]))) = some () := by
        rw [show Nat.ble (k + 1 + (out.length + 1 - (k + 1))) (List.length (out ++ [(0 : Int)])) = true from Nat.ble_eq_true_of_le (by simp; omega)]; rfl
      simp only [Option.bind_some, hg, hw, s1, s2, hg2]
      rw [copy_ins out hkl]
      have hlen : (List.take (k + 1) (out ++ [(0 : Int)]) ++ List.drop k out).length = out.length + 1 := by simp; omega
      have hinb : Tr.inb (k : Int) (List.take (k + 1) (out ++ [(0 : Int)]) ++ List.drop k out).length = some k := inb_nat (by omega)
      rw [hinb]
      simp only [Option.bind_some]
      rw [List.getElem?_eq_getElem (show k < (List.take (k + 1) (out ++ [(0 : Int)]) ++ List.drop k out).length by omega)]
      simp only [Option.bind_some, ins_set out hkl, wrap_succ hi (show n.2.2.1.length ≤ 9223372036854775807 by omega)]
  · rintro _ rfl
    exact ⟨_, by simp only [nlt_dec, cond_false], rfl⟩
def rowAt (rows:List (List Int)) (k:Nat):List Int:=(rows[k]?).getD []
def lastE (row:List Int):Int:=ln row (row.length - 1)
def folK (n:NetT) (rows:List (List Int)) (r:Int) (k:Nat):Int:=if folB (rn n (lastE (rowAt rows k))) (rn n r) then 1 else 0
def addRow (n:NetT) (rows:List (List Int)) (r:Int):List (List Int):=match firstBad rows.length (folK n rows r) with
 |some k=>rows.set k (rowAt rows k++[r])
 |none=>rows++[[r]]
def linesL (n:NetT) (rs:List Int):List (List Int):=rs.foldl (addRow n) []
structure RowsI (n:NetT) (i:Nat) (rows:List (List Int)):Prop where
 row: ∀x∈rows,x≠ []∧(∀o∈x,inR o n.2.2.1.length=true)∧x.length≤i
 len:rows.length≤i
theorem rowAt_of {rows:List (List Int)} {k:Nat} (h:k<rows.length):rowAt rows k=rows[k]:=getD_of h []
theorem RowsI.add {n:NetT} {i:Nat} {rows:List (List Int)} (h:RowsI n i rows) {r:Int} (hr:inR r n.2.2.1.length=true):RowsI n (i+1) (addRow n rows r):=by
 unfold addRow
 cases hb:firstBad rows.length (folK n rows r) with
 |none=>
  refine⟨fun x hx=> ?_,by simp;exact h.len⟩
  rcases List.mem_append.1 hx with hx|hx
  ·obtain⟨a,b,c⟩:=h.row x hx;exact⟨a,b,by omega⟩
  ·simp at hx;subst hx
   exact⟨by simp,by simpa using hr,by simp⟩
 |some k=>
  have hk:=(firstBad_spec hb).1
  refine⟨fun x hx=> ?_,by simp;have:=h.len;omega⟩
  rcases List.mem_or_eq_of_mem_set hx with hx|rfl
  ·obtain⟨a,b,c⟩:=h.row x hx;exact⟨a,b,by omega⟩
  ·rw[rowAt_of hk]
   obtain⟨a,b,c⟩:=h.row _ (List.getElem_mem hk)
   refine⟨by simp,fun o ho=> ?_,by simp;exact c⟩
   rcases List.mem_append.1 ho with ho|ho
   ·exact b o ho
   ·simp at ho;subst ho;exact hr
theorem linesL_snoc (n:NetT) (rs:List Int) (r:Int):linesL n (rs++[r])=addRow n (linesL n rs) r:=by simp [linesL]
theorem rowsI_take {n:NetT} {rs:List Int} (hr: ∀o∈rs,inR o n.2.2.1.length=true): ∀i,i≤rs.length→RowsI n i (linesL n (rs.take i))
 |0,_=>⟨by simp [linesL],by simp [linesL]⟩
 |i+1,h=>by
  rw[List.take_succ_eq_append_getElem (by omega),linesL_snoc]
  exact(rowsI_take hr i (by omega)).add (hr _ (List.getElem_mem (by omega)))
theorem last_of {n:NetT} {i:Nat} {rows:List (List Int)} (h:RowsI n i rows) (hi:i≤4096) {j:Nat} (hj:j<rows.length):
  0<rows[j].length∧rows[j].length≤4096∧Tr.inb (IntKind.wrap .i64 ((rows[j].length:Int) - 1)) rows[j].length=some (rows[j].length - 1)∧rows[j][rows[j].length - 1]? =some (lastE rows[j])∧inR (lastE rows[j]) n.2.2.1.length=true:=by
 obtain⟨a,b,c⟩:=h.row _ (List.getElem_mem hj)
 have h0:0<rows[j].length:=List.length_pos_iff.2 a
 have h1:rows[j].length - 1<rows[j].length:=by omega
 have e:IntKind.wrap .i64 ((rows[j].length:Int) - 1)=((rows[j].length - 1:Nat):Int):=by rw[wrap_i64 (by omega) (by omega)];omega
 refine⟨h0,by omega,by rw[e,inb_nat h1], ?_, ?_⟩
 ·unfold lastE;rw[ln_of h1,List.getElem?_eq_getElem h1]
 ·unfold lastE;rw[ln_of h1];exact b _ (List.getElem_mem h1)
theorem hole_ok (j:Nat):Tr.guardB (Tr.holeIs (some (Int.toNat (j:Int))) j)=some ():=by
 rw[show Tr.holeIs (some (Int.toNat (j:Int))) j=true from Nat.beq_refl j];rfl
theorem lines_val {n:NetT} {vb:Bool} (hv:F38 n=some vb) (hs:vb=true→Sound n) (hc: ∀x∈n.2.2.1,x.2.2.2.2.2.2.2.1.length≤9223372036854775807):
  F32 n=some (if vb then(linesL n (ordL n n.2.2.1.length),0) else([],21)):=by
 unfold F32
 rw[hv]
 cases vb with
 |false=>rfl
 |true=>
  have h:=hs rfl
  simp only[Option.bind_some,Bool.not_true,cond_false,ordered_val h,if_true]
  have hO:=ordL_ok n n.2.2.1.length
  have hr: ∀o∈ordL n n.2.2.1.length,inR o n.2.2.1.length=true:=fun o ho=>by
   obtain⟨a,b,_⟩:=hO.el o ho
   unfold inR;rw[decide_eq_true a,decide_eq_true b];rfl
  have hlen: (ordL n n.2.2.1.length).length≤1024:=by have:=hO.len;have:=h.runs;omega
  generalize ordL n n.2.2.1.length=rs at*
  refine Exists.elim (run_for (τ:=List (List Int)) rs.length (fun r=>r=linesL n rs) (fun i (s:List (List Int) ×Int)=>s=(linesL n (rs.take i),(i:Int)))
   ?_ ?_ ([],(0:Int)) rfl) (fun r hr=>(congrArg (Option.bind · _) hr.1).trans (by rw[hr.2];rfl))
  ·rintro i _ hi rfl
   have hI:=rowsI_take hr i (by omega)
   have hri:=hr _ (List.getElem_mem hi)
   refine .inl ⟨(linesL n (rs.take (i+1)),((i+1:Nat):Int)), ?_,rfl⟩
   rw[List.take_succ_eq_append_getElem hi,linesL_snoc]
   generalize linesL n (rs.take i)=rows at*
   have hrl:=hI.len
   simp only[lt_dec hi,cond_true,idx_nat hi,Option.bind_some]
   rw[scan_run (n:=rows.length) (fun j (s:List (List Int) ×Bool×Int)=>s=(rows,false,(j:Int))) (folK n rows rs[i]) (fun k=>(rows.set k (rowAt rows k++[rs[i]]),true)) (rows,false) ?_ ?_ ?_ (rows,false,(0:Int)) rfl]
   ·unfold pick addRow
    cases firstBad rows.length (folK n rows rs[i]) with
    |some k=>simp only[Option.bind_some,Bool.not_true,cond_false,wrap_succ hi (show rs.length≤9223372036854775807 by omega)]
    |none=>
     have hg:Tr.guardB (decide (List.length rows+List.length [[rs[i]]]≤Tr.maxApp))=some ():=guard_app (by simp;omega)
     simp only[Option.bind_some,Bool.not_false,cond_true,hg,wrap_succ hi (show rs.length≤9223372036854775807 by omega)]
   ·rintro j _ hj rfl hchk
    obtain⟨l0,l1,l2,l3,l4⟩:=last_of hI (by omega) hj
    refine⟨_, ?_,rfl⟩
    have hf:folB (rn n (lastE rows[j])) (rn n rs[i])=false:=by
     unfold folK at hchk
     rw[rowAt_of hj] at hchk
     cases hf:folB (rn n (lastE rows[j])) (rn n rs[i]) with
     |false=>rfl
     |true=>rw[hf,if_pos rfl] at hchk;omega
    simp only[lt_dec hj,cond_true,inb_nat hj,Option.bind_some,List.getElem?_eq_getElem hj,idx_nat hj,l2,l3,idx_rn l4,idx_rn hri,follows_val _ _ (calls_of hc _),hf,cond_false,wrap_succ hj (show rows.length≤9223372036854775807 by omega)]
   ·rintro j _ hj rfl hchk
    obtain⟨l0,l1,l2,l3,l4⟩:=last_of hI (by omega) hj
    have hf:folB (rn n (lastE rows[j])) (rn n rs[i])=true:=by
     unfold folK at hchk
     rw[rowAt_of hj] at hchk
     cases hf:folB (rn n (lastE rows[j])) (rn n rs[i]) with
     |true=>rfl
     |false=>rw[hf] at hchk;exact absurd rfl hchk
    have hg:Tr.guardB (decide (List.length rows[j]+List.length [rs[i]]≤Tr.maxApp))=some ():=guard_app (by simp;omega)
    simp only[lt_dec hj,cond_true,inb_nat hj,Option.bind_some,List.getElem?_eq_getElem hj,idx_nat hj,l2,l3,idx_rn l4,idx_rn hri,follows_val _ _ (calls_of hc _),hf,hg,hole_ok,rowAt_of hj]
   ·rintro _ rfl
    simp only[nlt_dec,cond_false]
  ·rintro _ rfl
   exact⟨_,by simp only[nlt_dec,cond_false];rfl,by rw[List.take_length]⟩
end Q
namespace Q
open Tr Go
variable {n:NetT} {s0 t0 w:Int} {K:Nat}
abbrev p11:PlcT:=(-1, -1, -1, -1, -1, -1,())
structure Found (n:NetT) (s0 t0 w:Int) (m:Nat) (f:FinT) (rs:List (List PlcT)):Prop where
 len:rs.length=m+1
 net:f.1=n
 lab:f.2.1.length<4000000000
 st: ∀k,k≤m→ ∃now linked,rs[k]? =some now∧now.length=n.1.length∧(∀ (s:Nat) p,now[s]? =some p→SP (Der n s0 t0 w) f.2.1 k (s:Int) p)∧Cmp n s0 t0 w k now linked
def OutK (n:NetT) (k:Nat) (out:List (List Int)):Prop:=out.length=n.2.2.1.length∧ ∀ (i:Nat) ks,out[i]? =some ks→ks.length≤k∧ ∀x:Int,x∈ks↔(0≤x∧x< (k:Int))∧(lkI n x).1=(i:Int)
theorem outK_next {k:Nat} {out:List (List Int)} (h:OutK n k out) {a:Nat} (ha: (lkI n (k:Int)).1=(a:Int)) (hl:a<out.length):OutK n (k+1) (out.set a (out[a]++[(k:Int)])):=by
 refine⟨by rw[List.length_set];exact h.1,fun i ks hks=> ?_⟩
 rcases set_some hks with ⟨rfl,rfl⟩ |hks'
 ·obtain⟨h1,h2⟩:=h.2 a _ (List.getElem?_eq_getElem hl)
  refine⟨by simp;exact h1,fun x=> ?_⟩
  rw[List.mem_append,h2 x,List.mem_singleton]
  constructor
  ·rintro (⟨h3,h4⟩ |rfl)
   ·exact⟨by omega,h4⟩
   ·exact⟨by omega,ha⟩
  ·rintro ⟨h3,h4⟩
   by_cases e:x=(k:Int)
   ·exact .inr e
   ·exact .inl ⟨by omega,h4⟩
 ·by_cases e:a=i
  ·subst e
   rw[List.getElem?_set_self hl] at hks
   cases hks
   obtain⟨h1,h2⟩:=h.2 a _ (List.getElem?_eq_getElem hl)
   refine⟨by simp;exact h1,fun x=> ?_⟩
   rw[List.mem_append,h2 x,List.mem_singleton]
   constructor
   ·rintro (⟨h3,h4⟩ |rfl)
    ·exact⟨by omega,h4⟩
    ·exact⟨by omega,ha⟩
   ·rintro ⟨h3,h4⟩
    by_cases e:x=(k:Int)
    ·exact .inr e
    ·exact .inl ⟨by omega,h4⟩
  ·obtain⟨h1,h2⟩:=h.2 i ks hks'
   refine⟨by omega,fun x=> ?_⟩
   rw[h2 x]
   constructor
   ·rintro ⟨h3,h4⟩;exact⟨by omega,h4⟩
   ·rintro ⟨h3,h4⟩
    refine⟨⟨h3.1, ?_⟩,h4⟩
    by_cases e' :x=(k:Int)
    ·subst e';omega
    ·omega
theorem outK_all {out:List (List Int)} (h:OutK n n.2.2.2.1.length out):OutOk n out:=by
 refine⟨h.1,fun i ks hks x=> ?_⟩
 rw[(h.2 i ks hks).2 x]
 unfold inR
 rw[Bool.and_eq_true,decide_eq_true_eq,decide_eq_true_eq]
theorem cmp_zero (C:Ctx n s0 t0 w) {now:List PlcT} {linked:List BrdT} (hY:LeY now s0.toNat (t0+w)) (hA:LeA now s0.toNat t0) (hW: ∀p∈n.2.2.2.2.1,Wlk s0 t0 now p):Cmp n s0 t0 w 0 now linked:=by
 have no: ∀ {s t:Int} {js:List LegT} {k:Nat},k≤0→Der n s0 t0 w (.rid k s t) js→False:=fun hk d=>by have:=(C.ok d).1;omega
 refine⟨fun hk d=> ?_,fun hk d=>(no hk d).elim,fun hk d=> ?_,fun hk d=> ?_⟩
 ·cases d with
  |init=>exact hY
  |rdyW h1 h2 h3=>exact(hW _ h1 h2 h3).2
  |change d=>exact(no hk d).elim
  |rdyV d=>exact(no hk d).elim
 ·cases d with
  |here=>exact hA
  |arrW h1 h2 h3=>exact(hW _ h1 h2 h3).1
  |arrR d=>exact(no hk d).elim
  |arrV d=>exact(no hk d).elim
 ·cases d with
  |link d=>have:=(C.ok d).1;omega
theorem wait_ok {n:NetT} (h:NetOk n) {s0:Int} (hs:0≤s0∧s0< (n.1.length:Int)) (b:Bool):0≤(bif b then(stOf n s0).2.2.2.1 else 0)∧(bif b then(stOf n s0).2.2.2.1 else 0)≤3600:=by
 cases b with
 |false=>exact⟨by simp,by simp⟩
 |true=>exact h.change s0 hs.1 hs.2
theorem find_val {n0:NetT} {q:QueT} (hfit:Fit n0) (hfew:Few n0) (hq:chkF n0 q=0): ∃f rs,F81 n0 q=some (f,rs,0)∧Ctx (allowA n0 q) q.1 q.2.2.1 (bif q.2.2.2.2.2.2.2.2.2.1 then(stOf (allowA n0 q) q.1).2.2.2.1 else 0)∧Whole n0∧qB n0.1.length q=true∧q.2.2.2.1=false∧
  Found (allowA n0 q) q.1 q.2.2.1 (bif q.2.2.2.2.2.2.2.2.2.1 then(stOf (allowA n0 q) q.1).2.2.2.1 else 0) q.2.2.2.2.1.toNat f rs:=by
 have hck:=checkF_val hfit q
 rw[hq] at hck
 have hq0:chkQ n0 q=0∧q.2.2.2.1=false:=by
  unfold chkF at hq
  by_cases e:chkQ n0 q=0
  ·rw[decide_eq_true e] at hq
   refine⟨e, ?_⟩
   cases hb:q.2.2.2.1 with
   |false=>rfl
   |true=>rw[hb] at hq;simp at hq
  ·rw[decide_eq_false e] at hq;exact absurd hq e
 obtain⟨hw0,hqb⟩:=chkQ_zero.1 hq0.1
 have hcq:=chkQ_code hfit q
 rw[hq0.1] at hcq
 have hal:=allowed_val hw0.sound hfew q hcq
 have hp0:n0.2.2.2.2.1.length≤4096:=hfit.paths
 have hw:=allow_whole q hp0 hw0
 have hfa:=allow_fit q hfit
 have hn:=hw.ok
 have hqb' :=hqb
 unfold qB inR at hqb'
 simp only[Bool.and_eq_true,decide_eq_true_eq] at hqb'
 obtain⟨hs0,_,ht0,hm,_⟩:=hqb'
 have hs0' :0≤q.1∧q.1< ((allowA n0 q).1.length:Int):=hs0
 have hwt:=wait_ok hn hs0' q.2.2.2.2.2.2.2.2.2.1
 have C:Ctx (allowA n0 q) q.1 q.2.2.1 (bif q.2.2.2.2.2.2.2.2.2.1 then(stOf (allowA n0 q) q.1).2.2.2.1 else 0):=⟨hn,hs0',ht0,hwt⟩
 have hp: (allowA n0 q).2.2.2.2.1.length≤4096:=hfa.paths
 have hvl:F38 (allowA n0 q)=some true:=by
  obtain⟨r,r1,_,r3⟩:=check_iff _ hfa
  unfold F38
  rw[r1]
  simp only[Option.bind_some]
  rw[decide_eq_true (r3.2 hw)]
 have hln:=lines_val hvl (fun _=>hn.sound) hfa.calls
 have hsi:Tr.idx (allowA n0 q).1 q.1=some (stOf (allowA n0 q) q.1):=(stop_sound hn.sound hs0'.1 hs0'.2).1
 have hch:=hn.change q.1 hs0'.1 hs0'.2
 suffices hsuf: ∃z:FinT×List (List PlcT) ×Int,F81 n0 q=some z∧z.2.2=0∧Found (allowA n0 q) q.1 q.2.2.1 (bif q.2.2.2.2.2.2.2.2.2.1 then(stOf (allowA n0 q) q.1).2.2.2.1 else 0) q.2.2.2.2.1.toNat z.1 z.2.1 by
  obtain⟨⟨f,rs,e⟩,h1,h2,h3⟩:=hsuf
  simp only at h2
  subst h2
  exact⟨f,rs,h1,C,hw0,hqb,hq0.2,h3⟩
 unfold F81
 rw[hck]
 simp only[Option.bind_some,decide_true,Bool.not_true,cond_false]
 rw[hal]
 simp only[Option.bind_some]
 rw[hln]
 simp only[Option.bind_some,if_true,decide_true,Bool.not_true,cond_false]
 generalize allowA n0 q=n at*
 have hS:=hn.sound
 have hrn:=hS.runs
 have hst:=hS.stops
 have hlk:=hS.links
 have hub:F91 (n.2.2.1.length:Int)=some (List.replicate n.2.2.1.length b00):=unboarded_val (by omega)
 have hmx: (maxApp:Int)=4294967296:=by simp [maxApp]
 refine bex (fun r=>r=List.replicate n.2.2.1.length b00) ⟨_,hub,rfl⟩ fun x3 hx3=> ?_
 subst hx3
 have hg0:guardB (decide ((0:Int)≤(n.2.2.1.length:Int)∧(n.2.2.1.length:Int)≤(n.2.2.1.length:Int)∧(n.2.2.1.length:Int)≤(maxApp:Int)))=some ():=by
  rw[decide_eq_true (by rw[hmx];omega)];rfl
 refine bex (fun _=>True) ⟨(),hg0,trivial⟩ fun _ _=> ?_
 refine bex (fun r:FinT=> ∃out,r=(n,[],[],List.replicate n.2.2.1.length b00,[],[],out,())∧OutK n n.2.2.2.1.length out) ?_ ?_
 ·refine run_for n.2.2.2.1.length _ (fun i (st:FinT×Int)=>st.2=(i:Int)∧ ∃out,st.1=(n,[],[],List.replicate n.2.2.1.length b00,[],[],out,())∧OutK n i out) ?_ ?_ _ ⟨rfl,_,rfl, ?_⟩
  ·rintro i ⟨st,j⟩ hi ⟨hj,out,hst',hO⟩
   simp only at hj hst'
   subst hj hst'
   left
   have e1:lkI n (i:Int)=n.2.2.2.1[i]:=by unfold lkI;rw[Int.toNat_natCast,getD_of hi]
   obtain⟨a,c,b,d,st,e,ha,_⟩:=hn.link _ (List.getElem_mem hi)
   have hao:a<out.length:=by rw[hO.1];exact ha
   have hks:=(hO.2 a _ (List.getElem?_eq_getElem hao)).1
   simp only[lt_dec hi,cond_true,idx_nat hi,Option.bind_some,wrap_succ hi (show _≤9223372036854775807 by omega),e,inb_nat hao,List.getElem?_eq_getElem hao,idx_nat hao]
   have hg:guardB (decide (List.length out[a]+List.length [(i:Int)]≤maxApp))=some ():=guard_app (by simp;omega)
   rw[hg]
   simp only[Option.bind_some,hole_ok]
   exact⟨_,rfl,rfl,_,rfl,outK_next hO (by rw[e1,e]) hao⟩
  ·rintro ⟨st,j⟩ ⟨hj,out,hst',hO⟩
   simp only at hj hst'
   subst hj hst'
   simp only[nlt_dec,cond_false]
   exact⟨_,rfl,out,rfl,hO⟩
  ·refine⟨by simp,fun i ks hks=> ?_⟩
   have:=List.eq_of_mem_replicate (List.mem_of_getElem? hks)
   subst this
   exact⟨by simp,fun x=>⟨fun h=>(nomatch h),fun h=>by omega⟩⟩
 rintro _ ⟨out,rfl,hO⟩
 have hOk:=outK_all hO
 refine bex (fun r:FinT=>r=(n,[],List.replicate n.1.length p11,List.replicate n.2.2.1.length b00,[],[],out,())) ?_ ?_
 ·refine run_for n.1.length _ (fun i (st:FinT×Int)=>st=((n,[],List.replicate i p11,List.replicate n.2.2.1.length b00,[],[],out,()),(i:Int))) ?_ ?_ _ rfl
  ·rintro i _ hi rfl
   left
   simp only[lt_dec hi,cond_true,wrap_succ hi (show _≤9223372036854775807 by omega)]
   have hg:guardB (decide (List.length (List.replicate i p11)+List.length [p11]≤maxApp))=some ():=guard_app (by simp;omega)
   erw[hg]
   simp only[Option.bind_some]
   exact⟨_,rfl,by rw[List.replicate_succ']⟩
  ·rintro _ rfl
   simp only[nlt_dec,cond_false]
   exact⟨_,rfl,rfl⟩
 intro f1 hf1
 refine bex (fun r:FinT×Int=>r=(f1,q.2.2.1+(bif q.2.2.2.2.2.2.2.2.2.1 then(stOf n q.1).2.2.2.1 else 0))) ?_ ?_
 ·cases q.2.2.2.2.2.2.2.2.2.1 with
  |false=>exact⟨_,rfl,by simp⟩
  |true=>
   simp only[cond_true,hsi,Option.bind_some]
   exact⟨_,rfl,by rw[wrap_i64 (by omega) (by omega)]⟩
 rintro _ rfl
 generalize (bif q.2.2.2.2.2.2.2.2.2.1 then(stOf n q.1).2.2.2.1 else 0)=w at*
 obtain⟨a,ha⟩: ∃a:Nat,q.1=(a:Int):=⟨q.1.toNat,by omega⟩
 obtain⟨m,hm'⟩: ∃m:Nat,q.2.2.2.2.1=(m:Int):=⟨q.2.2.2.2.1.toNat,by omega⟩
 generalize q.1=s0 at*
 generalize q.2.2.1=t0 at*
 generalize q.2.2.2.2.1=mr at*
 subst ha hm'
 simp only[Int.toNat_natCast]
 have e1:f1.1=n:=by rw[hf1]
 have e2:f1.2.1=[]:=by rw[hf1]
 have e3:f1.2.2.1=List.replicate n.1.length p11:=by rw[hf1]
 have e4:f1.2.2.2.1=List.replicate n.2.2.1.length b00:=by rw[hf1]
 have e5:f1.2.2.2.2.1=[]:=by rw[hf1]
 have e7:f1.2.2.2.2.2.2.1=out:=by rw[hf1]
 have hal:a<f1.2.2.1.length:=by rw[e3];simp;omega
 have hN1:Snd (Der n (a:Int) t0 w) 0 f1:=by
  refine⟨fun s p hq' => ?_,fun i b hb=> ?_,fun i b hb=> ?_⟩
  ·rw[e3] at hq'
   rw[List.eq_of_mem_replicate (List.mem_of_getElem? hq')]
   exact⟨fun e=>absurd rfl e,fun e=>absurd rfl e,fun e=>absurd rfl e⟩
  ·rw[e5] at hb;exact absurd hb (by simp)
  ·rw[e4] at hb
   rw[List.eq_of_mem_replicate (List.mem_of_getElem? hb)]
   exact fun e=>absurd rfl e
 have hw0' :0≤t0+w:=by omega
 have h2:Snd (Der n (a:Int) t0 w) 0 (impF f1 a t0 (t0+w) (-1)):=hN1.imp ⟨0,Nat.le_refl _,[], .nil, .here⟩ ⟨0,Nat.le_refl _,[], .nil, .init⟩
 have m2:=imp_mv f1 a ht0.1 hw0' (-1)
 have n2:=imp_new hal ht0.1 hw0' (-1)
 have k2:=impF_holds f1 a t0 (t0+w) (-1)
 refine bex (fun r=>r=impF f1 a t0 (t0+w) (-1)) ⟨_,improve_val f1 hal t0 (t0+w) (-1),rfl⟩ ?_
 rintro _ rfl
 have hwl:=walkF_snd C (k:=0) (K:=0) (s:=(a:Int)) (t:=t0) (prev:= -1) ht0.1 (js:=[]) (Nat.le_refl _) (fun p hp e1 e2=>⟨.arrW hp e1 e2, .rdyW hp e1 e2⟩) (m2.net.trans e1) (by rw[k2.now,e3];simp) h2 .nil
 have hwv:=walk_val (impF f1 a t0 (t0+w) (-1)) (s:=(a:Int)) (at' :=t0) (-1) ht0.1 ht0.2 (by rw[m2.net,e1];show f1.2.1.length+_<_;rw[e2];simp only[List.length_nil];omega) (by rw[m2.net,e1];exact hp) (fun p hp' =>by
  rw[m2.net,e1] at hp'
  have:=hn.path p hp'
  rw[k2.now,e3,List.length_replicate]
  exact⟨this.2.1.1,this.2.1.2,by omega,by omega⟩)
 have kw:=walkFold_keeps (a:Int) t0 (-1) (impF f1 a t0 (t0+w) (-1)).1.2.2.2.2.1 (impF f1 a t0 (t0+w) (-1))
 refine bex (fun r=>r=walkF (impF f1 a t0 (t0+w) (-1)) (a:Int) t0 (-1)) ⟨_,hwv,rfl⟩ ?_
 rintro _ rfl
 obtain⟨w1,w2,w3⟩:=hwl
 have m3:=m2.trans w2
 have hlab: (walkF (impF f1 a t0 (t0+w) (-1)) (a:Int) t0 (-1)).2.1.length≤4096:=by
  have:=kw.lab
  rw[m2.net,e1] at this
  have e: (impF f1 a t0 (t0+w) (-1)).2.1.length=0:=by show f1.2.1.length=0;rw[e2];rfl
  unfold walkF
  rw[m2.net,e1]
  omega
 have hH:=(walkF_holds (impF f1 a t0 (t0+w) (-1)) (a:Int) t0 (-1))
 have hR0:RI n (a:Int) t0 w 0 (walkF (impF f1 a t0 (t0+w) (-1)) (a:Int) t0 (-1)):=by
  refine⟨m3.net.trans e1,by rw[hH.now,k2.now,e3];simp,by rw[hH.linked,k2.linked,e4];simp,by rw[m3.out,e7];exact hOk, ?_,w1.now,w1.lnk, ?_, ?_⟩
  ·rw[m3.out,e7]
   intro ks hks
   obtain⟨i,hi,rfl⟩:=List.getElem_of_mem hks
   have:=(hO.2 i _ (List.getElem?_eq_getElem hi)).1
   omega
  ·exact cmp_zero C (w2.rdy _ _ n2.2) (w2.arr _ _ n2.1) w3
  ·intro s p hq' hne
   obtain⟨k,hk,js,_,hd⟩:=(w1.now s p hq').rid hne
   have:=(C.ok hd).1
   omega
 generalize walkF (impF f1 a t0 (t0+w) (-1)) (a:Int) t0 (-1)=f2 at*
 refine bex (fun r:FinT×List (List PlcT)=>Found n (a:Int) t0 w m r.1 r.2) ?_ ?_
 ·refine run_for m _ (fun i (st:FinT×List (List PlcT) ×Int)=>st.2.2=(i:Int)∧RI n (a:Int) t0 w i st.1∧st.1.2.1.length≤4096+i*4000000∧st.2.1.length=i+1∧
   ∀k,k≤i→ ∃now linked,st.2.1[k]? =some now∧now.length=n.1.length∧(∀ (s:Nat) p,now[s]? =some p→SP (Der n (a:Int) t0 w) st.1.2.1 k (s:Int) p)∧Cmp n (a:Int) t0 w k now linked) ?_ ?_ _ ⟨rfl,hR0,by omega,rfl, ?_⟩
  ·rintro i ⟨f,rs,j⟩ hi ⟨hj,hR,hlb,hrl,hst'⟩
   simp only at hj hR hlb hrl hst'
   subst hj
   left
   simp only[lt_dec hi,cond_true]
   obtain⟨g,g1,g2,⟨mm,g3⟩,g4⟩:=round_val C hp hR (by omega)
   refine bind_ex (fun r=>r=g) ⟨_,g1,rfl⟩ fun x hx=> ?_
   subst hx
   have hg:guardB (decide (List.length rs+List.length [x.2.2.1]≤maxApp))=some ():=guard_app (by simp;omega)
   rw[hg]
   simp only[Option.bind_some,wrap_succ hi (show m≤9223372036854775807 by omega)]
   refine⟨_,rfl,rfl,g2,by simp only;omega,by simp;exact hrl,fun k hk=> ?_⟩
   by_cases e:k=i+1
   ·subst e
    refine⟨x.2.2.1,x.2.2.2.1, ?_,g2.nowl,g2.now,g2.cmp⟩
    simp only
    rw[List.getElem?_append_right (by omega),hrl]
    simp
   ·obtain⟨now,linked,y1,y2,y3,y4⟩:=hst' k (by omega)
    refine⟨now,linked, ?_,y2,fun s p hq' => ?_,y4⟩
    ·simp only
     rw[List.getElem?_append_left (by omega)];exact y1
    ·simp only
     rw[g3]
     exact(y3 s p hq').app mm
  ·rintro ⟨f,rs,j⟩ ⟨hj,hR,hlb,hrl,hst'⟩
   simp only at hj hR hlb hrl hst'
   subst hj
   simp only[nlt_dec,cond_false]
   exact⟨_,rfl,hrl,hR.net,by simp only;omega,hst'⟩
  ·intro k hk
   have:k=0:=by omega
   subst this
   exact⟨f2.2.2.1,f2.2.2.2.1,rfl,hR0.nowl,hR0.now,hR0.cmp⟩
 ·rintro ⟨f,rs⟩ hF
  exact⟨_,rfl,rfl,hF⟩
end Q
namespace Q
open Tr Go
variable {n:NetT} {s0 t0 w:Int} {m:Nat} {f:FinT} {rs:List (List PlcT)}
def plcV (rs:List (List PlcT)) (k s:Nat):PlcT:=(((rs[k]?).getD [])[s]?).getD p11
def arrV (rs:List (List PlcT)) (k s:Nat):Int:=(plcV rs k s).1
def rowV (rs:List (List PlcT)) (k:Nat):List Int:=((rs[k]?).getD []).map fun p=>p.1
def arrsV (rs:List (List PlcT)):List (List Int):=rs.map fun l=>l.map fun p=>p.1
theorem Found.sound (F:Found n s0 t0 w m f rs) {k s:Nat} (hk:k≤m) (h:arrV rs k s≠ -1): ∃k',k' ≤k∧ ∃js,Ch f.2.1 (plcV rs k s).2.2.2.1 js∧Der n s0 t0 w (.arr k' (s:Int) (arrV rs k s)) js:=by
 obtain⟨now,linked,h1,h2,h3,h4⟩:=F.st k hk
 unfold arrV plcV at*
 rw[h1] at h ⊢
 simp only[Option.getD_some] at h ⊢
 by_cases hs:s<now.length
 ·rw[getD_of hs] at h ⊢
  exact(h3 s _ (List.getElem?_eq_getElem hs)).arr h
 ·rw[List.getElem?_eq_none (by omega)] at h
  exact absurd rfl h
theorem Found.complete (F:Found n s0 t0 w m f rs) {k k' s:Nat} (hk:k≤m) (hk' :k' ≤k) {t:Int} {js:List LegT} (d:Der n s0 t0 w (.arr k' (s:Int) t) js):arrV rs k s≠ -1∧arrV rs k s≤t:=by
 obtain⟨now,linked,h1,h2,h3,h4⟩:=F.st k hk
 obtain⟨p,p1,p2⟩:=h4.arr hk' d
 rw[Int.toNat_natCast] at p1
 unfold arrV plcV
 rw[h1]
 simp only[Option.getD_some]
 rw[p1]
 exact p2
theorem Found.row (F:Found n s0 t0 w m f rs) {k:Nat} (hk:k≤m): (rowV rs k).length=n.1.length:=by
 obtain⟨now,linked,h1,h2,_⟩:=F.st k hk
 unfold rowV
 rw[h1]
 simp only[Option.getD_some,List.length_map]
 exact h2
theorem Found.idxA (F:Found n s0 t0 w m f rs) {k:Nat} (hk:k≤m):Tr.idx (arrsV rs) (k:Int)=some (rowV rs k):=by
 have hl:k<rs.length:=by rw[F.len];omega
 have:k< (arrsV rs).length:=by unfold arrsV;rw[List.length_map];exact hl
 have e: (arrsV rs)[k]=rowV rs k:=by simp [arrsV,rowV,hl]
 rw[idx_nat this,e]
theorem Found.lenA (F:Found n s0 t0 w m f rs): (arrsV rs).length=m+1:=by unfold arrsV;rw[List.length_map,F.len]
theorem Found.idxR (F:Found n s0 t0 w m f rs) {k s:Nat} (hk:k≤m) (hs:s<n.1.length):Tr.idx (rowV rs k) (s:Int)=some (arrV rs k s):=by
 have hl:s< (rowV rs k).length:=by rw[F.row hk];exact hs
 rw[idx_nat hl]
 have hl' :s< ((rs[k]?).getD []).length:=by
  unfold rowV at hl
  rw[List.length_map] at hl
  exact hl
 have e: (rowV rs k)[s]=arrV rs k s:=by
  unfold arrV plcV
  rw[getD_of hl']
  simp [rowV]
 rw[e]
theorem rows_some {n0:NetT} {q:QueT} (h:F81 n0 q=some (f,rs,0)): (F81S.f (n0,q,())).isSome=true:=by
 show (F81 n0 q).isSome=true
 rw[h];rfl
theorem arrivals_val (F:Found n s0 t0 w m f rs) (hm:m≤8) (hst:n.1.length≤64) {n0:NetT} {q:QueT} (h:F81 n0 q=some (f,rs,0)):F76 n0 q=some (arrsV rs,0):=by
 unfold F76
 rw[rows_some h,h]
 simp only[cond_true,Option.bind_some]
 have hl:=F.len
 refine bind_of (fun r=>r=arrsV rs) ?_ (fun r hr=>by rw[hr])
 refine run_for rs.length _ (fun i (st:List (List Int) ×Int)=>st=((rs.take i).map (fun l=>l.map fun p=>p.1),(i:Int))) ?_ ?_ _ rfl
 ·rintro i _ hi rfl
  left
  simp only[lt_dec hi,cond_true,idx_nat hi,Option.bind_some,wrap_succ hi (show _≤9223372036854775807 by omega)]
  obtain⟨now,linked,h1,h2,_⟩:=F.st i (by omega)
  have e:rs[i]=now:=by rw[List.getElem?_eq_getElem hi] at h1;exact Option.some.inj h1
  refine bind_ex (fun r=>r=((rs.take i).map (fun l=>l.map fun p=>p.1),rs[i].map fun p=>p.1)) ?_ ?_
  ·refine run_for rs[i].length _ (fun j (st:List (List Int) ×List Int×Int)=>st=((rs.take i).map (fun l=>l.map fun p=>p.1),(rs[i].take j).map (fun p=>p.1),(j:Int))) ?_ ?_ _ rfl
   ·rintro j _ hj rfl
    left
    have hjl:rs[i].length≤64:=by rw[e];omega
    have hg:guardB (decide (List.length ((rs[i].take j).map (fun p=>p.1))+List.length [(rs[i][j]).1]≤maxApp))=some ():=guard_app (by simp;omega)
    simp only[lt_dec hj,cond_true,idx_nat hj,Option.bind_some,wrap_succ hj (show _≤9223372036854775807 by omega),hg]
    exact⟨_,rfl,by rw[List.take_succ_eq_append_getElem hj,List.map_append];rfl⟩
   ·rintro _ rfl
    simp only[nlt_dec,cond_false,List.take_length]
    exact⟨_,rfl,rfl⟩
  ·rintro _ rfl
   have hg:guardB (decide (List.length ((rs.take i).map (fun l=>l.map fun p=>p.1))+List.length [rs[i].map fun p=>p.1]≤maxApp))=some ():=guard_app (by simp;omega)
   simp only[hg,Option.bind_some]
   exact⟨_,rfl,by rw[List.take_succ_eq_append_getElem hi,List.map_append];rfl⟩
 ·rintro _ rfl
  simp only[nlt_dec,cond_false,List.take_length]
  exact⟨_,rfl,rfl⟩
theorem Found.nonneg (C:Ctx n s0 t0 w) (F:Found n s0 t0 w m f rs) {k s:Nat} (hk:k≤m):arrV rs k s= -1∨0≤arrV rs k s∧arrV rs k s≤3155932800:=by
 by_cases h:arrV rs k s= -1
 ·exact .inl h
 right
 obtain⟨k',h1,js,_,h3⟩:=F.sound hk h
 exact(C.ok h3).2
end Q
namespace Q
open Tr Go
theorem chkF_zero {n:NetT} {q:QueT} (h:chkQ n q=0) (hb:q.2.2.2.1=false):chkF n q=0:=by
 unfold chkF
 rw[decide_eq_true h,hb];rfl
end Q
namespace Q
open Tr Go
theorem Ch.len {lb:List LabT} {l:Int} {js:List LegT} (h:Ch lb l js): (js.length:Int)≤l+1:=by
 induction h with
 |nil=>simp
 |cons _ h2 _ ih=>simp only[List.length_append,List.length_cons,List.length_nil];omega
def shiftW (x y:LegT):LegT:=(x.1,x.2.1,x.2.2.1,x.2.2.2.1,x.2.2.2.2.1,x.2.2.2.2.2.1,IntKind.wrap .i64 (y.2.2.2.2.2.2.1 - IntKind.wrap .i64 (x.2.2.2.2.2.2.2.1 - x.2.2.2.2.2.2.1)),y.2.2.2.2.2.2.1,x.2.2.2.2.2.2.2.2)
def fixW:List LegT→List LegT
 |x::y::js=>(bif x.1 then x else shiftW x y)::y::js
 |js=>js
theorem fixW_two (x y:LegT) (js:List LegT):fixW (x::y::js)=(bif x.1 then x else shiftW x y)::y::js:=rfl
theorem fixW_len (js:List LegT): (fixW js).length=js.length:=by
 match js with
 | []=>rfl
 | [_]=>rfl
 |_::_::_=>rfl
theorem back_run {f:FinT} {step:FinT×Int×List LegT→Option ((FinT×Int×List LegT) ⊕ (FinT×List LegT))}
  (h1: ∀back,step (f, -1,back)=some (.inr (f,back)))
  (h2: ∀ (l:Nat) x p back,f.2.1[l]? =some (x,p,())→back.length<4294967296→step (f,(l:Int),back)=some (.inl (f,p,back++[x]))) {l:Int} {js:List LegT} (h:Ch f.2.1 l js):
  ∀back,back.length+js.length<4294967296→run step (f,l,back)=some (f,back++js.reverse):=by
 induction h with
 |nil=>intro back _;rw[run_inr (h1 back)];simp
 |cons e _ _ ih=>
  intro back hb
  simp only[List.length_append,List.length_cons,List.length_nil] at hb
  rw[run_inl (h2 _ _ _ back e (by omega)),ih _ (by simp;omega)]
  simp
theorem journey_val {f:FinT} (hlb:f.2.1.length<4000000000) {l:Int} {js:List LegT} (h:Ch f.2.1 l js):F87 f l=some (f,(fixW js,())):=by
 have hlen:=h.len
 have hlt:=h.lt
 unfold F87
 have hbk:Tr.run (fun s0:FinT×Int×List LegT=>
   bif !decide (s0.2.1=(-1:Int)) then
    Option.bind (inb s0.2.1 (List.length s0.1.2.1)) fun x1=>
    Option.bind s0.1.2.1[x1]? fun x2=>
    Option.bind (guardB (decide (List.length s0.2.2+List.length [x2.1]≤maxApp))) fun _=>
    Option.bind (inb s0.2.1 (List.length s0.1.2.1)) fun x4=>
    Option.bind s0.1.2.1[x4]? fun x5=>
    some (.inl (s0.1,x5.2.1,s0.2.2++[x2.1]))
   else some (.inr (s0.1,s0.2.2))) (f,l,[])=some (f,js.reverse):=by
  have:=back_run (step:=fun s0:FinT×Int×List LegT=>
   bif !decide (s0.2.1=(-1:Int)) then
    Option.bind (inb s0.2.1 (List.length s0.1.2.1)) fun x1=>
    Option.bind s0.1.2.1[x1]? fun x2=>
    Option.bind (guardB (decide (List.length s0.2.2+List.length [x2.1]≤maxApp))) fun _=>
    Option.bind (inb s0.2.1 (List.length s0.1.2.1)) fun x4=>
    Option.bind s0.1.2.1[x4]? fun x5=>
    some (.inl (s0.1,x5.2.1,s0.2.2++[x2.1]))
   else some (.inr (s0.1,s0.2.2))) (fun back=>rfl) (fun l x p back e hb=> ?_) h [] (by simp;omega)
  ·simpa using this
  ·have hl:=(List.getElem?_eq_some_iff.1 e).1
   have hg:guardB (decide (List.length back+List.length [x]≤maxApp))=some ():=guard_app (by simp;omega)
   simp only[decide_eq_false (show¬ (l:Int)= -1 by omega),Bool.not_false,cond_true,inb_nat hl,Option.bind_some,e,hg]
 refine bind_of (fun r=>r=(f,js.reverse)) ⟨_,hbk,rfl⟩ ?_
 rintro _ rfl
 have hjl:js.length<4000000000:=by omega
 have hm: (maxApp:Int)=4294967296:=by simp [maxApp]
 have hg:guardB (decide ((0:Int)≤(js.reverse.length:Int)∧(js.reverse.length:Int)≤(js.reverse.length:Int)∧(js.reverse.length:Int)≤(maxApp:Int)))=some ():=by
  rw[decide_eq_true (by rw[hm,List.length_reverse];omega)];rfl
 erw[hg]
 simp only[Option.bind_some]
 refine bind_of (fun r=>r=(f,js)) ?_ ?_
 ·refine run_for js.length _ (fun i (st:FinT×List LegT×List LegT×Int)=>st=(f,js.reverse,List.replicate (js.length - i) g0++(js.reverse.take i).reverse,(i:Int))) ?_ ?_ _ (by simp [g0])
  ·rintro i _ hi rfl
   left
   have hir:i<js.reverse.length:=by simpa using hi
   have hl2: (List.replicate (js.length - i) g0++(js.reverse.take i).reverse).length=js.length:=by simp;omega
   have w1:IntKind.wrap .i64 (IntKind.wrap .i64 ((js.reverse.length:Int) - 1) - (i:Int))=((js.length - 1 - i:Nat):Int):=by
    rw[List.length_reverse,wrap_i64 (x:=(js.length:Int) - 1) (by omega) (by omega),wrap_i64 (by omega) (by omega)];omega
   have hk:js.length - 1 - i< (List.replicate (js.length - i) g0++(js.reverse.take i).reverse).length:=by rw[hl2];omega
   have hi2:i<js.reverse.length:=hir
   simp only[lt_dec hir,cond_true,inb_nat hir,Option.bind_some,List.getElem?_eq_getElem hir,w1,inb_nat hk,List.getElem?_eq_getElem hk,wrap_succ hir (show _≤9223372036854775807 by rw[List.length_reverse];omega)]
   refine⟨_,rfl, ?_⟩
   have e:js.length - i=(js.length - (i+1))+1:=by omega
   rw[List.set_append_left _ _ (by simp;omega),e,List.replicate_succ',List.set_append_right _ _ (by simp;omega),List.length_replicate,show js.length - 1 - i - (js.length - (i+1))=0 by omega,List.set_cons_zero,List.append_assoc]
   rw[List.take_succ_eq_append_getElem hir,List.reverse_append]
   rfl
  ·rintro _ rfl
   have:decide ((js.length:Int)< (js.reverse.length:Int))=false:=by rw[List.length_reverse];exact nlt_dec _
   simp only[this,cond_false]
   have e:js.reverse.take js.length=js.reverse:=by rw[←List.length_reverse,List.take_length]
   exact⟨_,rfl,by rw[e];simp⟩
 ·rintro _ rfl
  match js with
  | []=>rfl
  | [x]=>rfl
  |x::y::js' =>
   have h1:decide ((1:Int)< ((x::y::js').length:Int))=true:=decide_eq_true (by simp;omega)
   have i0:inb (0:Int) (x::y::js').length=some 0:=inb_nat (i:=0) (by simp)
   have i1:inb (1:Int) (x::y::js').length=some 1:=inb_nat (i:=1) (by simp)
   simp only[h1,cond_true,i0,i1,Option.bind_some,List.getElem?_cons_zero,List.getElem?_cons_succ,List.set_cons_zero]
   rw[fixW_two]
   cases hx:x.1 with
   |true=>rfl
   |false=>simp only[Bool.not_false,cond_false,cond_true];unfold shiftW;rw[hx]
theorem Der.rides {n:NetT} {s0 t0 w:Int} {f:Fact} {js:List LegT} (d:Der n s0 t0 w f js):match f with
  | .rdy k _ _=>ridesN js=k
  | .brd k _ _ st=>ridesN js+(if st then 0 else 1)=k
  | .lnk k _ _=>ridesN js+1=k
  | .on k _ _=>ridesN js=k
  | .rid k _ _=>ridesN js=k
  | .arr k _ _=>ridesN js=k:=by
 induction d with
 |init=>rfl
 |here=>rfl
 |rdyW=>rfl
 |arrW=>rfl
 |board _ _ _ _ _ _ _ ih=>exact congrArg (· +1) ih
 |on _ _ _ ih=>
  show ridesN _=_
  rw[ridesN_app,ridesN_ride]
  exact ih
 |stay _ _ _ _ ih=>exact ih
 |link _ _ _ _ _ ih=>exact congrArg (· +1) ih
 |linked _ _ ih=>exact ih
 |ride _ _ ih=>exact ih
 |change _ ih=>exact ih
 |rdyV _ _ _ _ ih=>
  show ridesN _=_
  rw[ridesN_app,ridesN_walk]
  exact ih
 |arrR _ ih=>exact ih
 |arrV _ _ _ _ ih=>
  show ridesN _=_
  rw[ridesN_app,ridesN_walk]
  exact ih
theorem Der.rid_last {n:NetT} {s0 t0 w:Int} {k:Nat} {s t:Int} {js:List LegT} (d:Der n s0 t0 w (.rid k s t) js): ∃ks x,js=ks++[x]∧x.2.2.2.2.2.2.2.1=t∧x.2.2.2.2.2.1=s:=by
 cases d with
 |ride d _=>
  cases d with
  |on d _ _=>exact⟨_,_,rfl,rfl,rfl⟩
theorem Der.arr_last {n:NetT} {s0 t0 w:Int} {k:Nat} {s t:Int} {js:List LegT} (d:Der n s0 t0 w (.arr k s t) js): (js=[]∧t=t0∧s=s0)∨ ∃ks x,js=ks++[x]∧x.2.2.2.2.2.2.2.1=t∧x.2.2.2.2.2.1=s:=by
 cases d with
 |here=>exact .inl ⟨rfl,rfl,rfl⟩
 |arrW=>exact .inr ⟨[],_,rfl,rfl,rfl⟩
 |arrR d=>exact .inr d.rid_last
 |arrV=>exact .inr ⟨_,_,rfl,rfl,rfl⟩
theorem fixW_last (ks:List LegT) (x:LegT): ∃ks' x',fixW (ks++[x])=ks' ++[x']∧x'.2.2.2.2.2.2.2.1=x.2.2.2.2.2.2.2.1∧x'.2.2.2.2.2.1=x.2.2.2.2.2.1:=by
 match ks with
 | []=>exact⟨[],x,rfl,rfl,rfl⟩
 | [y]=>exact⟨[_],x,rfl,rfl,rfl⟩
 |y::z::ks' =>exact⟨_::z::ks',x,rfl,rfl,rfl⟩
theorem fixW_rides (js:List LegT):ridesN (fixW js)=ridesN js:=by
 match js with
 | []=>rfl
 | [_]=>rfl
 |x::y::js=>
  rw[fixW_two]
  cases h:x.1 with
  |true=>rfl
  |false=>
   have e: ∀z:LegT,z.1=false→rideC z=false:=fun z hz=>by unfold rideC;rw[hz];rfl
   have e2: (shiftW x y).1=false:=h
   unfold ridesN
   simp only[List.filter_cons,cond_false]
   rw[e x h,e _ e2]
   simp only[Bool.false_eq_true,if_false]
def arrivalJ (q:QueT) (L:List LegT):Int:=if L.length=0 then q.2.2.1 else(lg L (L.length - 1)).2.2.2.2.2.2.2.1
theorem arrival_val (q:QueT) {L:List LegT} (hl:L.length<9000000000):F74 q (L,())=some (arrivalJ q L):=by
 unfold F74 arrivalJ
 by_cases h:L.length=0
 ·rw[if_pos h,decide_eq_true (show ((L.length:Int)=0) by omega)];rfl
 ·rw[if_neg h,decide_eq_false (show¬ ((L.length:Int)=0) by omega)]
  have w1:IntKind.wrap .i64 ((L.length:Int) - 1)=((L.length - 1:Nat):Int):=by rw[wrap_i64 (by omega) (by omega)];omega
  simp only[cond_false,w1,lg_idx (show L.length - 1<L.length by omega),Option.bind_some]
theorem arrivalJ_app (q:QueT) (ks:List LegT) (x:LegT):arrivalJ q (ks++[x])=x.2.2.2.2.2.2.2.1:=by
 unfold arrivalJ lg
 rw[if_neg (by simp)]
 simp
theorem Der.arrival {n:NetT} {q:QueT} {w:Int} {k:Nat} {s t:Int} {js:List LegT} (d:Der n q.1 q.2.2.1 w (.arr k s t) js):arrivalJ q (fixW js)=t:=by
 rcases d.arr_last with ⟨rfl,rfl,_⟩ | ⟨ks,x,rfl,h,_⟩
 ·rfl
 ·obtain⟨ks',x',e,h',_⟩:=fixW_last ks x
  rw[e,arrivalJ_app,h',h]
theorem rides41_val {L:List LegT} (hl:L.length<9000000000):F75 (L,())=some (ridesN L:Int):=by
 unfold F75
 refine bind_of (fun r=>r=(ridesN L:Int)) ?_ (fun r hr=>by rw[hr])
 refine run_for L.length _ (fun i (st:Int×Int)=>st=((ridesN (L.take i):Int),(i:Int))) ?_ ?_ _ rfl
 ·rintro i _ hi rfl
  left
  have hb:ridesN (L.take i)≤L.length:=by
   unfold ridesN
   have:=List.length_filter_le rideC (L.take i)
   rw[List.length_take] at this
   omega
  have w1:IntKind.wrap .i64 ((ridesN (L.take i):Int)+1)=((ridesN (L.take i)+1:Nat):Int):=by rw[wrap_i64 (by omega) (by omega)];omega
  simp only[lt_dec hi,cond_true,idx_nat hi,Option.bind_some,wrap_succ hi (show _≤9223372036854775807 by omega),w1]
  rw[List.take_succ_eq_append_getElem hi,ridesN_app]
  have e:ridesN [L[i]]=if rideC L[i] then 1 else 0:=by
   unfold ridesN
   cases h:rideC L[i]<;>simp [h]
  rw[e]
  unfold rideC stayB
  cases L[i].1 with
  |false=>exact⟨_,rfl,rfl⟩
  |true=>
   cases L[i].2.2.2.2.2.2.2.2.1 with
   |true=>exact⟨_,rfl,rfl⟩
   |false=>exact⟨_,rfl,rfl⟩
 ·rintro _ rfl
  simp only[nlt_dec,cond_false,List.take_length]
  exact⟨_,rfl,rfl⟩
theorem least {P:Nat→Prop} : ∀ {m:Nat},P m→ ∃k,k≤m∧P k∧ ∀j,j<k→ ¬P j:=by
 intro m
 induction m using Nat.strongRecOn with
 |_ m ih=>
  intro h
  by_cases e: ∃j,j<m∧P j
  ·obtain⟨j,h1,h2⟩:=e
   obtain⟨k,k1,k2,k3⟩:=ih j h1 h2
   exact⟨k,by omega,k2,k3⟩
  ·exact⟨m,Nat.le_refl m,h,fun j hj hp=>e ⟨j,hj,hp⟩⟩
variable {n:NetT} {s0 t0 w:Int} {m:Nat} {f:FinT} {rs:List (List PlcT)}
theorem Found.idxP (F:Found n s0 t0 w m f rs) {k s:Nat} (hk:k≤m) (hs:s<n.1.length): ∃now,Tr.idx rs (k:Int)=some now∧Tr.idx now (s:Int)=some (plcV rs k s):=by
 obtain⟨now,linked,h1,h2,_⟩:=F.st k hk
 have hl:k<rs.length:=by rw[F.len];omega
 have e:rs[k]=now:=by rw[List.getElem?_eq_getElem hl] at h1;exact Option.some.inj h1
 have hsn:s<now.length:=by omega
 refine⟨now,by rw[idx_nat hl,e], ?_⟩
 unfold plcV
 rw[h1]
 simp only[Option.getD_some]
 rw[idx_nat hsn,getD_of hsn]
theorem earliest_none (F:Found n s0 t0 w m f rs) (hm:m≤8) {n0:NetT} {q:QueT} (h:F81 n0 q=some (f,rs,0)) {a:Nat} (hq:q.2.1=(a:Int)) (ha:a<n.1.length) (hv:arrV rs m a= -1):
  F77 n0 q=some (([],()),23):=by
 unfold F77
 rw[rows_some h,h]
 obtain⟨now,h1,h2⟩:=F.idxP (Nat.le_refl m) ha
 have w1:IntKind.wrap .i64 ((rs.length:Int) - 1)=(m:Int):=by rw[F.len,wrap_i64 (by omega) (by omega)];omega
 simp only[cond_true,Option.bind_some,decide_true,Bool.not_true,cond_false,w1,h1,hq,h2]
 rw[show (plcV rs m a).1= -1 from hv]
 rfl
theorem earliest_some (F:Found n s0 t0 w m f rs) (hm:m≤8) {n0:NetT} {q:QueT} (h:F81 n0 q=some (f,rs,0)) {a:Nat} (hq:q.2.1=(a:Int)) (ha:a<n.1.length) (hv:arrV rs m a≠ -1):
  ∃k k' js,k≤m∧arrV rs k a=arrV rs m a∧(∀j,j<k→arrV rs j a≠arrV rs m a)∧k' ≤k∧Ch f.2.1 (plcV rs k a).2.2.2.1 js∧Der n s0 t0 w (.arr k' (a:Int) (arrV rs m a)) js∧F77 n0 q=some ((fixW js,()),0):=by
 obtain⟨k,hk,hk1,hk2⟩:=least (P:=fun j=>arrV rs j a=arrV rs m a) (m:=m) rfl
 obtain⟨k',hk',js,hch,hd⟩:=F.sound hk (by rw[hk1];exact hv)
 rw[hk1] at hd
 refine⟨k,k',js,hk,hk1,hk2,hk',hch,hd, ?_⟩
 unfold F77
 rw[rows_some h,h]
 obtain⟨now,h1,h2⟩:=F.idxP (Nat.le_refl m) ha
 have w1:IntKind.wrap .i64 ((rs.length:Int) - 1)=(m:Int):=by rw[F.len,wrap_i64 (by omega) (by omega)];omega
 simp only[cond_true,Option.bind_some,decide_true,Bool.not_true,cond_false,w1,h1,hq,h2]
 have e1: (plcV rs m a).1=arrV rs m a:=rfl
 rw[e1,decide_eq_false hv]
 simp only[cond_false]
 obtain⟨now',h3,h4⟩:=F.idxP hk ha
 refine bind_of (fun r=>r=(f,(k:Int))) ?_ ?_
 ·refine run_for k _ (fun i (st:FinT×Int)=>st=(f,(i:Int))) ?_ ?_ _ rfl
  ·rintro i _ hi rfl
   left
   obtain⟨nw,h5,h6⟩:=F.idxP (show i≤m by omega) ha
   have e2: (plcV rs i a).1=arrV rs i a:=rfl
   simp only[h5,Option.bind_some,h6,e2,decide_eq_false (hk2 i hi),Bool.not_false,cond_true]
   exact⟨_,rfl,by rw[wrap_succ hi (by omega)]⟩
  ·rintro _ rfl
   have e2: (plcV rs k a).1=arrV rs k a:=rfl
   simp only[h3,Option.bind_some,h4,e2,hk1,decide_true,Bool.not_true,cond_false]
   exact⟨_,rfl,rfl⟩
 ·rintro _ rfl
  simp only[h3,Option.bind_some,h4,journey_val F.lab hch]
theorem fewest_val (F:Found n s0 t0 w m f rs) (hm:m≤8) (hst:n.1.length≤64) {n0:NetT} {q:QueT} (h:F81 n0 q=some (f,rs,0)) {a:Nat} (hq:q.2.1=(a:Int)) (ha:a<n.1.length) (b:Int):
  (∃k,k≤m∧(arrV rs k a≠ -1∧arrV rs k a≤b)∧(∀j,j<k→ ¬ (arrV rs j a≠ -1∧arrV rs j a≤b))∧F78 n0 q b=some ((k:Int),true))∨
  ((∀j,j≤m→ ¬ (arrV rs j a≠ -1∧arrV rs j a≤b))∧F78 n0 q b=some (0,false)):=by
 have step: ∀i,i≤m→(Option.bind (Tr.idx (arrsV rs) (i:Int)) fun x2=>
   Option.bind (Tr.idx x2 q.2.1) fun x3=>
   Option.bind (bif !decide (x3=(-1:Int)) then some (decide (x3≤b)) else some false) fun x4=>
   bif x4 then some (.inr (.inr ((i:Int),true))) else some (.inl (IntKind.wrap .i64 ((i:Int)+(1:Int)))))=
   (if arrV rs i a≠ -1∧arrV rs i a≤b then some (.inr (.inr ((i:Int),true))) else some (.inl ((i+1:Nat):Int)):Option (Int ⊕ (Unit ⊕ (Int×Bool)))):=by
  intro i hi
  rw[F.idxA hi,hq]
  simp only[Option.bind_some,F.idxR hi ha]
  have w1:IntKind.wrap .i64 ((i:Int)+1)=((i+1:Nat):Int):=by rw[wrap_i64 (by omega) (by omega)];omega
  rw[w1]
  by_cases e1:arrV rs i a= -1
  ·rw[decide_eq_true e1,if_neg (fun h=>h.1 e1)];rfl
  ·rw[decide_eq_false e1]
   by_cases e2:arrV rs i a≤b
   ·rw[decide_eq_true e2,if_pos ⟨e1,e2⟩];rfl
   ·rw[decide_eq_false e2,if_neg (fun h=>e2 h.2)];rfl
 by_cases hex: ∃j,j≤m∧(arrV rs j a≠ -1∧arrV rs j a≤b)
 ·obtain⟨j,hj,hjb⟩:=hex
  obtain⟨k,hk,hk1,hk2⟩:=least (P:=fun j=>arrV rs j a≠ -1∧arrV rs j a≤b) hjb
  left
  refine⟨k,by omega,hk1,hk2, ?_⟩
  unfold F78
  rw[arrivals_val F hm hst h]
  simp only[Option.bind_some,decide_true,Bool.not_true,cond_false]
  refine bind_of (fun r=>r= .inr ((k:Int),true)) ?_ (by rintro _ rfl;rfl)
  refine run_for k _ (fun i (st:Int)=>st=(i:Int)) ?_ ?_ _ rfl
  ·rintro i _ hi rfl
   left
   have hl:i< (arrsV rs).length:=by rw[F.lenA];omega
   rw[lt_dec hl]
   simp only[cond_true]
   have:=step i (by omega)
   rw[if_neg (hk2 i hi)] at this
   exact⟨_,this,rfl⟩
  ·rintro _ rfl
   have hl:k< (arrsV rs).length:=by rw[F.lenA];omega
   rw[lt_dec hl]
   simp only[cond_true]
   have:=step k (by omega)
   rw[if_pos hk1] at this
   exact⟨_,this,rfl⟩
 ·right
  have hno: ∀j,j≤m→ ¬ (arrV rs j a≠ -1∧arrV rs j a≤b):=fun j hj hp=>hex ⟨j,hj,hp⟩
  refine⟨hno, ?_⟩
  unfold F78
  rw[arrivals_val F hm hst h]
  simp only[Option.bind_some,decide_true,Bool.not_true,cond_false]
  refine bind_of (fun r=>r= .inl ()) ?_ (by rintro _ rfl;rfl)
  refine run_for (arrsV rs).length _ (fun i (st:Int)=>st=(i:Int)) ?_ ?_ _ rfl
  ·rintro i _ hi rfl
   left
   rw[lt_dec hi]
   simp only[cond_true]
   rw[F.lenA] at hi
   have:=step i (by omega)
   rw[if_neg (hno i (by omega))] at this
   exact⟨_,this,rfl⟩
  ·rintro _ rfl
   simp only[nlt_dec,cond_false]
   exact⟨_,rfl,rfl⟩
theorem Found.falls' (F:Found n s0 t0 w m f rs) {s:Nat} : ∀ {k k' :Nat},k≤k' →k' ≤m→arrV rs k s≠ -1→arrV rs k' s≠ -1∧arrV rs k' s≤arrV rs k s:=by
 intro k k' hk hk' hne
 obtain⟨k2,h1,js,_,h3⟩:=F.sound (show k≤m by omega) hne
 exact F.complete hk' (by omega) h3
theorem agrees (n:NetT) (h:Good Y31 n) (q:QueT):F26 n q=some true:=by
 unfold F26
 obtain⟨b,hb1,hb2⟩:=sized_val n
 rw[hb1]
 cases b with
 |false=>simp only[Option.bind_some,Bool.not_false,cond_true,example_true]
 |true=>
  have hZ:=hb2 rfl
  have hfit:=fit41 h (by have:=hZ.paths;omega)
  simp only[Option.bind_some,Bool.not_true,cond_false]
  rw[chkQ_ref hfit]
  simp only[Option.bind_some]
  by_cases hc:chkQ n q=0
  rotate_left
  ·rw[decide_eq_false hc]
   simp only[Bool.not_false,cond_true,Option.bind_some,example_true]
  rw[decide_eq_true hc]
  cases hbk:q.2.2.2.1 with
  |true=>simp only[Bool.not_true,cond_false,cond_true,Option.bind_some,example_true]
  |false=>
   simp only[Bool.not_true,cond_false,Option.bind_some]
   obtain⟨f,rs,h1,C,hw,hqb,_,F⟩:=find_val hfit hZ.few (chkF_zero hc hbk)
   have hqb' :=hqb
   unfold qB inR at hqb'
   simp only[Bool.and_eq_true,decide_eq_true_eq] at hqb'
   obtain⟨hs0,hs1,ht0,hm,_⟩:=hqb'
   obtain⟨m,hm'⟩: ∃m:Nat,q.2.2.2.2.1=(m:Int):=⟨q.2.2.2.2.1.toNat,by omega⟩
   rw[hm',Int.toNat_natCast] at F
   have hst: (allowA n q).1.length=n.1.length:=rfl
   have hst2:=hZ.stops
   have hm8:m≤8:=by omega
   rw[arrivals_val F hm8 (by rw[hst];omega) h1,hm']
   have w1:IntKind.wrap .i64 ((m:Int)+1)=((m+1:Nat):Int):=by rw[wrap_i64 (by omega) (by omega)];omega
   obtain⟨a,ha⟩: ∃a:Nat,q.2.1=(a:Int):=⟨q.2.1.toNat,by omega⟩
   have hal:a< (allowA n q).1.length:=by rw[hst];omega
   simp only[Option.bind_some,decide_true,Bool.not_true,cond_false,F.lenA,w1,F.idxA (Nat.le_refl m),F.row (Nat.le_refl m),hst,ha,F.idxR (Nat.le_refl m) hal]
   have hn:=F.nonneg C (Nat.le_refl m) (s:=a)
   by_cases hz:arrV rs m a= -1
   ·rw[earliest_none F hm8 h1 ha hal hz]
    rcases fewest_val F hm8 (by rw[hst];omega) h1 ha hal (arrV rs m a) with ⟨k,k0,k1,_⟩ | ⟨_,hf⟩
    ·have:=F.nonneg C k0 (s:=a);omega
    ·rw[hf,hz]
     simp only[Option.bind_some,decide_true,cond_true,Bool.not_false,example_true,decide_eq_true (show (-1:Int)<0 by omega)]
   ·obtain⟨k,k',js,e1,e2,e3,e4,e5,e6,e7⟩:=earliest_some F hm8 h1 ha hal hz
    rw[e7]
    have hjl:js.length<9000000000:=by have:=e5.len;have:=e5.lt;have:=F.lab;omega
    rcases fewest_val F hm8 (by rw[hst];omega) h1 ha hal (arrV rs m a) with ⟨kf,k0,k1,k2,k3⟩ | ⟨hno,_⟩
    rotate_left
    ·exact absurd ⟨hz,Int.le_refl _⟩ (hno m (Nat.le_refl m))
    rw[k3,decide_eq_false (show¬arrV rs m a<0 by omega)]
    simp only[Option.bind_some,cond_false,decide_true,cond_true]
    have hkf:kf=k:=by
     have l1:k≤kf:=by
      have:=F.falls' k0 (Nat.le_refl m) k1.1
      have he:arrV rs kf a=arrV rs m a:=by omega
      exact Nat.le_of_not_lt fun hl=>e3 kf hl he
     have l2: ¬k<kf:=fun hl=>k2 k hl ⟨by rw[e2];exact hz,by rw[e2];exact Int.le_refl _⟩
     omega
    have hk' :k' =k:=by
     have:=F.complete (show k' ≤m by omega) (Nat.le_refl k') e6
     have h5:=F.falls' (show k' ≤m by omega) (Nat.le_refl m) this.1
     have he:arrV rs k' a=arrV rs m a:=by omega
     have: ¬k' <k:=fun hl=>e3 k' hl he
     omega
    rw[arrival_val q (by rw[fixW_len];exact hjl),rides41_val (by rw[fixW_len];exact hjl),Der.arrival e6,fixW_rides,show ridesN js=k' from e6.rides,hk',hkf]
    simp only[Option.bind_some,decide_true,cond_true,example_true]
theorem agreesP (x:ElPs F26A) (h:GoodPs F26A x):F26 x.1 x.2.1=some true:=agrees _ h.1 _
end Q
