/- filter: usable runs, open stops, the allowed network; queries. Conditions: the network is valid, its lists are short. -/
import Derived.KernelRfl
import Derived.Test.YtckebckjnfcniaaGreatJLwJa2842
import Derived.Test.YtckebckjnfcniaaGreatTsF
import Derived.Test.YtckebckjnfcniaaGreatTtA
namespace Q
open Tr Go
open Option (bind_some)
theorem Zrz{α β τ:Type}{step:List β×Int->Option ((List β×Int) ⊕ τ)}(l:List α)(f:α->List β)(R:List β->τ)
  (hstep: ∀i (hi:i<l.length),step ((l.take i).flatMap f,(i:Int))=some (.inl ((l.take i).flatMap f++f l[i],((i+1:Nat):Int))))
  (hend:step (l.flatMap f,(l.length:Int))=some (.inr (R (l.flatMap f)))):run step ([],(0:Int))=some (R (l.flatMap f)):=by
 refine Exists.elim (ZaX (step:=step) l.length (fun r=>r=R (l.flatMap f)) (fun i st=>st=((l.take i).flatMap f,(i:Int))) ?_ ?_ ([],(0:Int)) (by simp)) ?_
 ·rintro i _ hi rfl;left;refine⟨_,hstep i hi, ?_⟩;rw[List.take_succ_eq_append_getElem hi,List.flatMap_append];simp
 ·rintro _ rfl;rw[List.take_length];exact⟨_,hend,rfl⟩
 ·rintro r ⟨h1,rfl⟩;exact h1
theorem ZjC{α β:Type}(f:α->β)(l:List α):l.flatMap (fun x=>[f x])=l.map f:=by
 induction l with
 |nil=>rfl
 |cons x l ih=>simp [ih]
theorem ZrN{α β:Type}{f:α->List β}(hf: ∀x,(f x).length<=1)(l:List α): (l.flatMap f).length<=l.length:=by
 induction l with
 |nil=>simp
 |cons x l ih=>have:=hf x;simp;simp at ih;omega
abbrev Za6:=Int×Int×Int×Bool×Int×Int×Bool×Bool×Int×Bool×Unit
def ZrG(n:Zav)(r:Zim):Zdy:=(n.2.1[r.2.2.2.2.1.toNat]?).getD r0
def ZrB(n:Zav)(q:Za6)(r:Zim):Bool:=Tr.useB q r (ZrG n r)
def s0:Zlk:=([],0,false,0,())
def Zb9(n:Zav)(s:Int):Zlk:=(n.1[s.toNat]?).getD s0
def Zjn(n:Zav)(q:Za6)(s:Int):Bool:=(Zb9 n s).2.2.1|| !q.2.2.2.2.2.2.1
def ZbL(n:Zav)(q:Za6)(c:ZbK):ZbK:=if Zjn n q c.1 then c else(c.1,c.2.1,c.2.2.1,false,false,())
theorem Ztc{n:Zav}(hS:ZcX n){r:Zim}(hr:r∈n.2.2.1):idx n.2.1 r.2.2.2.2.1=some (ZrG n r)/\ZrG n r∈n.2.1:=by
 have h:=hS.route _ hr;have hi:inR r.2.2.2.2.1 n.2.1.length=true:=by simp [inR];omega
 refine⟨Zbl hi r0, ?_⟩;unfold ZrG;rw[Zaj (show r.2.2.2.2.1.toNat<n.2.1.length by omega)];exact List.getElem_mem _
theorem Ztm{n:Zav}(hS:ZcX n)(q:Za6){r:Zim}(hr:r∈n.2.2.1):F15 n q r=some (ZrB n q r):=by obtain⟨h1,h2⟩:=Ztc hS hr;have hm:=(hS.mode _ h2).1;unfold F15 Tr.useF;rw[h1];simp only[bind_some,show decide ((0:Int)<=(ZrG n r).2.1)=true from decide_eq_true hm,Bool.or_true,cond_true];rfl
theorem ZuI{n:Zav}(hS:ZcX n){r:Zim}(hr:r∈n.2.2.1){c:ZbK}(hc:c∈r.2.2.2.2.2.2.2.1):idx n.1 c.1=some (Zb9 n c.1):=by have h:=hS.call _ hr _ hc;exact Zbl (show inR c.1 n.1.length=true by simp [inR];omega) s0
theorem ZrY{n:Zav}(q:Za6){s:Int}(h:idx n.1 s=some (Zb9 n s)):F14 n q s=some (Zjn n q s):=by
 unfold F14;rw[h];simp only[bind_some];unfold Zjn
 cases (Zb9 n s).2.2.1<;>rfl
theorem Zod{n:Zav}(hS:ZcX n)(q:Za6){r:Zim}(hr:r∈n.2.2.1):F13 n q r.2.2.2.2.2.2.2.1=some (r.2.2.2.2.2.2.2.1.map (ZbL n q)):=by
 have hl:=(hS.many _ hr).2;unfold F13;rw[Zrz r.2.2.2.2.2.2.2.1 (fun c=>[ZbL n q c]) id ?_ ?_]
 ·simp only[bind_some,id,ZjC,List.length_map];generalize hm:r.2.2.2.2.2.2.2.1.map (ZbL n q)=m;have hlen:m.length=r.2.2.2.2.2.2.2.1.length:=by rw[<-hm,List.length_map]
  rw[<-hlen]
  have e1:inb (m.length:Int) (m.length+1)=some m.length:=by unfold inb;rw[if_pos (by omega)];simp
  have e2:sliceB m.length m.length none (some (m.length:Int))=some (0,m.length):=by unfold sliceB;simp only[if_pos (show (0:Int)<=(m.length:Int)/\(m.length:Int)<=(m.length:Int) from ⟨by omega,by omega⟩),bind_some,Int.toNat_natCast]
  rw[e1];simp only[bind_some];rw[e2];simp
 ·intro i hi;have hc:=List.getElem_mem hi;simp only[Zaw hi,cond_true,Zaf hi,bind_some];rw[ZrY q (ZuI hS hr hc)];have hb:=ZrN (f:=fun c=>[ZbL n q c]) (by simp) (r.2.2.2.2.2.2.2.1.take i);rw[List.length_take]at hb;simp only[bind_some]
  have e: (bif !Zjn n q (r.2.2.2.2.2.2.2.1[i]).1 then some (((r.2.2.2.2.2.2.2.1[i]).1,(r.2.2.2.2.2.2.2.1[i]).2.1,(r.2.2.2.2.2.2.2.1[i]).2.2.1,false,false,(r.2.2.2.2.2.2.2.1[i]).2.2.2.2.2):ZbK) else some r.2.2.2.2.2.2.2.1[i])=some (ZbL n q r.2.2.2.2.2.2.2.1[i]):=by
   unfold ZbL
   cases Zjn n q (r.2.2.2.2.2.2.2.1[i]).1<;>rfl
  erw[e];simp only[bind_some];rw[ZaW (by simp;simp at hb;omega),Zai hi (by omega)];rfl
 ·simp only[Zax,cond_false];rfl
structure Few (n:Zav):Prop where
 stops:n.1.length<=4096
 routes:n.2.1.length<=4096
 runs:n.2.2.1.length<=4096
 links:n.2.2.2.1.length<=4096
 paths:n.2.2.2.2.1.length<=4096
 prods:n.2.2.2.2.2.1.1.length<=4096
 calls: ∀r∈n.2.2.1,r.2.2.2.2.2.2.2.1.length<=4096
theorem Zel{α:Type}(l:List α)(h:l.length<=4096): (Option.bind (Zaq (decide (List.length ([]:List Unit)+List.length l<=Zar))) fun _=>
 Option.bind (inb (↑(List.length ([]++l)):Int) (List.length ([]++l)+(1:Nat))) fun x1=>
 Option.bind (sliceB (List.length ([]++l)) x1 none (some (↑(List.length ([]++l)):Int))) fun x2=>some (List.take x2.2 ([]++l)))=some l:=by
 have e0:Zaq (decide (List.length ([]:List Unit)+List.length l<=Zar))=some ():=by unfold Zaq Zar;rw[decide_eq_true (show List.length ([]:List Unit)+List.length l<=2 ^ 39 by simp;omega)];rfl
 have e1:inb (l.length:Int) (l.length+1)=some l.length:=by unfold inb;rw[if_pos (by omega)];simp
 have e2:sliceB l.length l.length none (some (l.length:Int))=some (0,l.length):=by unfold sliceB;simp only[if_pos (show (0:Int)<=(l.length:Int)/\(l.length:Int)<=(l.length:Int) from ⟨by omega,by omega⟩),bind_some,Int.toNat_natCast]
 rw[e0];simp only[bind_some,List.nil_append];rw[e1];simp only[bind_some];rw[e2];simp
theorem Zpz{n:Zav}(h:Few n):F36 n=some n:=by
 unfold F36;have hs:F47 n.1=some n.1:=Zel n.1 h.stops;have hro:F45 n.2.1=some n.2.1:=Zel n.2.1 h.routes;have hru:F46 n.2.2.1=some n.2.2.1:=Zel n.2.2.1 h.runs;have hli:F43 n.2.2.2.1=some n.2.2.2.1:=Zel n.2.2.2.1 h.links;have hpa:F42 n.2.2.2.2.1=some n.2.2.2.2.1:=Zel n.2.2.2.2.1 h.paths;have hpr:F44 n.2.2.2.2.2.1.1=some n.2.2.2.2.2.1.1:=Zel n.2.2.2.2.2.1.1 h.prods;rw[hs,hro,hru,hli,hpa];simp only[bind_some];refine Zbo (fun r:Zav=>r=(n.1,n.2.1,n.2.2.1,n.2.2.2.1,n.2.2.2.2.1,n.2.2.2.2.2.1,())) (ZaX n.2.2.1.length _ (fun i (st:Zav×Int)=>st=((n.1,n.2.1,n.2.2.1,n.2.2.2.1,n.2.2.2.2.1,n.2.2.2.2.2.1,()),(i:Int))) ?_ ?_ _ rfl) ?_
 ·rintro i _ hi rfl;left;have hc:F41 (n.2.2.1[i]).2.2.2.2.2.2.2.1=some (n.2.2.1[i]).2.2.2.2.2.2.2.1:=Zel _ (h.calls _ (List.getElem_mem hi));simp only[Zaw hi,cond_true,ZaN hi,bind_some,List.getElem?_eq_getElem hi,hc];refine⟨_,rfl, ?_⟩;rw[Zai hi (by have:=h.runs;omega)];have e:List.set n.2.2.1 i ((n.2.2.1[i]).1,(n.2.2.1[i]).2.1,(n.2.2.1[i]).2.2.1,(n.2.2.1[i]).2.2.2.1,(n.2.2.1[i]).2.2.2.2.1,(n.2.2.1[i]).2.2.2.2.2.1,(n.2.2.1[i]).2.2.2.2.2.2.1,(n.2.2.1[i]).2.2.2.2.2.2.2.1,(n.2.2.1[i]).2.2.2.2.2.2.2.2)=n.2.2.1:=List.set_getElem_self hi;erw[e]
 ·rintro _ rfl;exact⟨_,by simp only[Zax,cond_false],rfl⟩
 ·rintro _ rfl;rw[hpr];rfl
def Zca(n:Zav)(q:Za6)(r:Zim):Zim:=(r.1,r.2.1,r.2.2.1,r.2.2.2.1,r.2.2.2.2.1,r.2.2.2.2.2.1, !ZrB n q r,r.2.2.2.2.2.2.2.1.map (ZbL n q),())
def Zd2(n:Zav)(q:Za6):List Zb8:=if q.2.2.2.2.2.2.1 then n.2.2.2.2.1.filter (fun p=>p.2.2.2.1) else n.2.2.2.2.1
def Zbd(n:Zav)(q:Za6):Zav:=(n.1,n.2.1,n.2.2.1.map (Zca n q),n.2.2.2.1,Zd2 n q,n.2.2.2.2.2.1,())
def Zet(n:Zav)(q:Za6)(i:Nat):List Zim:=(n.2.2.1.take i).map (Zca n q)++n.2.2.1.drop i
theorem Zoy(n:Zav)(q:Za6){i:Nat}(hi:i<=n.2.2.1.length): (Zet n q i).length=n.2.2.1.length:=by simp [Zet];omega
theorem ZoL(n:Zav)(q:Za6){i:Nat}(hi:i<n.2.2.1.length): (Zet n q i)[i]? =some n.2.2.1[i]:=by unfold Zet;rw[List.getElem?_append_right (by simp;omega)];simp only[List.length_map,List.length_take,Nat.min_eq_left (Nat.le_of_lt hi),Nat.sub_self,List.getElem?_drop,Nat.add_zero];exact List.getElem?_eq_getElem hi
theorem Zop(n:Zav)(q:Za6){i:Nat}(hi:i<n.2.2.1.length): (Zet n q i).set i (Zca n q n.2.2.1[i])=Zet n q (i+1):=by
 unfold Zet;have hlen: ((n.2.2.1.take i).map (Zca n q)).length=i:=by simp;omega
 rw[List.set_append_right _ _ (by omega),hlen,Nat.sub_self,List.drop_eq_getElem_cons hi,List.set_cons_zero,List.take_succ_eq_append_getElem hi,List.map_append];simp
theorem ZlP{n:Zav}(hS:ZcX n)(hF:Few n)(q:Za6)(hq:F10 n q=some 0):F12 n q=some (Zbd n q,0):=by
 unfold F12;rw[hq];simp only[bind_some,decide_true,Bool.not_true,cond_false];rw[Zpz hF];simp only[bind_some];refine Zbo (fun r:Zav=>r=(n.1,n.2.1,n.2.2.1.map (Zca n q),n.2.2.2.1,n.2.2.2.2.1,n.2.2.2.2.2.1,())) (ZaX n.2.2.1.length _ (fun i (st:Zav×Int)=>st=((n.1,n.2.1,Zet n q i,n.2.2.2.1,n.2.2.2.2.1,n.2.2.2.2.2.1,()),(i:Int))) ?_ ?_ _ (by simp [Zet])) ?_
 ·rintro i _ hi rfl;left;have hr:=List.getElem_mem hi;have hl:=Zoy n q (Nat.le_of_lt hi);have hi' :i< (Zet n q i).length:=by omega
  simp only[Zaw hi,cond_true,Zaf hi,bind_some,Ztm hS q hr,ZaN hi',ZoL n q hi,Zod hS q hr];refine⟨_, ?_,rfl⟩;rw[Zai hi (by have:=hF.runs;omega)];have hi2:i< ((Zet n q i).set i ((n.2.2.1[i]).1,(n.2.2.1[i]).2.1,(n.2.2.1[i]).2.2.1,(n.2.2.1[i]).2.2.2.1,(n.2.2.1[i]).2.2.2.2.1,(n.2.2.1[i]).2.2.2.2.2.1, !ZrB n q n.2.2.1[i],(n.2.2.1[i]).2.2.2.2.2.2.2)).length:=by rw[List.length_set];exact hi'
  erw[ZaN hi2];simp only[bind_some];erw[List.getElem?_set_self hi'];simp only[bind_some];erw[List.set_set];congr 2;have:=Zop n q hi;rw[<-this];rfl
 ·rintro _ rfl;refine⟨_,by simp only[Zax,cond_false];rfl, ?_⟩;simp [Zet]
 ·rintro _ rfl;unfold Zbd Zd2
  cases hsf:q.2.2.2.2.2.2.1 with
  |false=>rfl
  |true=>
   simp only[cond_true,if_true];refine Zbo (fun r:Zav=>r=(n.1,n.2.1,n.2.2.1.map (Zca n q),n.2.2.2.1,n.2.2.2.2.1.filter (fun p=>p.2.2.2.1),n.2.2.2.2.2.1,())) (ZaX n.2.2.2.2.1.length _ (fun i (st:Zav×Int)=>st=((n.1,n.2.1,n.2.2.1.map (Zca n q),n.2.2.2.1,(n.2.2.2.2.1.take i).filter (fun p=>p.2.2.2.1),n.2.2.2.2.2.1,()),(i:Int))) ?_ ?_ _ (by simp)) ?_
   ·rintro i _ hi rfl;left;have hb:=List.length_filter_le (fun p:Zb8=>p.2.2.2.1) (n.2.2.2.2.1.take i);rw[List.length_take]at hb;have hp:=hF.paths;simp only[Zaw hi,cond_true,Zaf hi,bind_some];rw[Zai hi (by omega),List.take_succ_eq_append_getElem hi,List.filter_append]
    cases hv: (n.2.2.2.2.1[i]).2.2.2.1 with
    |false=>
     refine⟨_,rfl, ?_⟩
     simp [hv]
    |true=>
     simp only[cond_true];rw[ZaW (by simp;omega)];refine⟨_,rfl, ?_⟩;simp [hv]
   ·rintro _ rfl;refine⟨_,by simp only[Zax,cond_false];rfl, ?_⟩;rw[List.take_length]
   ·rintro _ rfl;rfl
def qB(k:Nat)(q:Za6):Bool:=inR q.1 k&& (inR q.2.1 k&& (decide (0<=q.2.2.1/\q.2.2.1<=3155932800) && (decide (0<=q.2.2.2.2.1/\q.2.2.2.2.1<=8) && (decide (0<=q.2.2.2.2.2.1/\q.2.2.2.2.2.1<=86400) && (decide (0<=q.2.2.2.2.2.2.2.2.1/\q.2.2.2.2.2.2.2.2.1<=255) && !(q.2.2.2.2.2.2.2.2.2.1&&q.2.2.2.1))))))
theorem Zmg(x a b:Int):F11 x a b=some (decide (a<=x/\x<=b)):=Zdm x a b
theorem ZfG(x a b:Int):F93 x a b=some (decide (a<=x/\x<=b)):=Zdm x a b
theorem Ze5(x:Int){m:Nat}(hm:m<=9223372036854775807):F93 x 0 (IntKind.wrap .i64 ((m:Int) - 1))=some (inR x m):=ZjF x hm
theorem Zn8(k:Nat)(hk:k<=9223372036854775807)(q:Za6):F85 (k:Int) q=some (qB k q):=by
 unfold F85 qB;simp only[ZfG];rw[show decide ((0:Int)<=q.1/\q.1<=IntKind.wrap .i64 ((k:Int) - 1))=inR q.1 k from Option.some.inj ((ZfG _ _ _).symm.trans (Ze5 q.1 hk)),show decide ((0:Int)<=q.2.1/\q.2.1<=IntKind.wrap .i64 ((k:Int) - 1))=inR q.2.1 k from Option.some.inj ((ZfG _ _ _).symm.trans (Ze5 q.2.1 hk))];simp only[bind_some];generalize inR q.1 k=b1;generalize inR q.2.1 k=b2;generalize decide ((0:Int)<=q.2.2.1/\q.2.2.1<=3155932800)=b3;generalize decide ((0:Int)<=q.2.2.2.2.1/\q.2.2.2.2.1<=8)=b4;generalize decide ((0:Int)<=q.2.2.2.2.2.1/\q.2.2.2.2.2.1<=86400)=b5;generalize decide ((0:Int)<=q.2.2.2.2.2.2.2.2.1/\q.2.2.2.2.2.2.2.2.1<=255)=b6
 generalize q.2.2.2.2.2.2.2.2.2.1=b7;generalize q.2.2.2.1=b8
 cases b1<;>try rfl
 cases b2<;>try rfl
 cases b3<;>try rfl
 cases b4<;>try rfl
 cases b5<;>try rfl
 cases b6<;>try rfl
 cases b7<;>cases b8<;>rfl
open Classical in
noncomputable def Zkf(n:Zav)(q:Za6):Int:=if Whole n then(if qB n.1.length q=true then 0 else 22) else 21
theorem ZhF{n:Zav}{q:Za6} :Zkf n q=0↔Whole n/\qB n.1.length q=true:=by
 unfold Zkf;split
 ·next h=>split<;>simp_all
 ·next h=>simp [h]
open Classical in
theorem Zfz{n:Zav}(h:Fit n):F60 n=some (decide (Whole n)):=by obtain⟨r,_,h2,h3⟩:=Zgh n h;unfold F60;rw[h2];simp only[bind_some];congr 1;exact decide_eq_decide.2 h3
open Classical in
theorem ZnF{n:Zav}(h:Fit n)(q:Za6):F82 n q=some (Zkf n q):=by
 unfold F82 Zkf;rw[Zfz h];simp only[bind_some];by_cases hW:Whole n
 ·rw[decide_eq_true hW,if_pos hW];have hs:=hW.sound.stops;simp only[Bool.not_true,cond_false];rw[Zn8 n.1.length (by omega)];simp only[bind_some]
  cases qB n.1.length q<;>rfl
 ·rw[decide_eq_false hW,if_neg hW];rfl
theorem Zk3{n:Zav}(h:Fit n)(q:Za6):F10 n q=some (Zkf n q):=by
 obtain⟨r,h1,_,h3⟩:=Zgh n h;unfold F10 Zkf;rw[h1];simp only[bind_some];by_cases hW:Whole n
 ·rw[decide_eq_true (h3.2 hW),if_pos hW];have hk:n.1.length<=9223372036854775807:=by have:=hW.sound.stops;omega
  simp only[Bool.not_true,cond_false,Zmg];rw[show decide ((0:Int)<=q.1/\q.1<=IntKind.wrap .i64 ((n.1.length:Int) - 1))=inR q.1 n.1.length from Option.some.inj ((ZfG _ _ _).symm.trans (Ze5 q.1 hk)),show decide ((0:Int)<=q.2.1/\q.2.1<=IntKind.wrap .i64 ((n.1.length:Int) - 1))=inR q.2.1 n.1.length from Option.some.inj ((ZfG _ _ _).symm.trans (Ze5 q.2.1 hk))];unfold qB;simp only[bind_some];generalize inR q.1 n.1.length=b1;generalize inR q.2.1 n.1.length=b2;generalize decide ((0:Int)<=q.2.2.1/\q.2.2.1<=3155932800)=b3;generalize decide ((0:Int)<=q.2.2.2.2.1/\q.2.2.2.2.1<=8)=b4;generalize decide ((0:Int)<=q.2.2.2.2.2.1/\q.2.2.2.2.2.1<=86400)=b5
  generalize decide ((0:Int)<=q.2.2.2.2.2.2.2.2.1/\q.2.2.2.2.2.2.2.2.1<=255)=b6;generalize q.2.2.2.2.2.2.2.2.2.1=b7;generalize q.2.2.2.1=b8
  cases b1<;>try rfl
  cases b2<;>try rfl
  cases b3<;>try rfl
  cases b4<;>try rfl
  cases b5<;>try rfl
  cases b6<;>try rfl
  cases b7<;>cases b8<;>rfl
 ·rw[decide_eq_false (fun e=>hW (h3.1 e)),if_neg hW];rfl
theorem Zob{c l:List Zb8}(h:ZbC c l=true):c=l:=by
 unfold ZbC at h;rw[Bool.and_eq_true,decide_eq_true_eq,Option.isNone_iff_eq_none]at h;obtain⟨h1,h2⟩:=h;have h2:=Zaz.1 h2;refine List.ext_getElem h1 fun i hi hi' => ?_;have:=h2 i hi;unfold eqF at this;rw[Zaj hi,Zaj hi']at this
 have hs:Zhx c[i] l[i]=true:=by
  by_cases hs:Zhx c[i] l[i]=true
  ·exact hs
  ·rw[if_neg hs]at this;simp at this
 unfold Zhx at hs;simp only[Bool.and_eq_true,decide_eq_true_eq,beq_iff_eq]at hs;exact Prod.ext hs.1 (Prod.ext hs.2.1 (Prod.ext hs.2.2.1 (Prod.ext hs.2.2.2 rfl)))
theorem ZkQ(l:List Zb8):ZbC l l=true:=by unfold ZbC;rw[Bool.and_eq_true,decide_eq_true_eq,Option.isNone_iff_eq_none];refine⟨rfl,Zaz.2 fun i hi=> ?_⟩;unfold eqF Zhx;simp
theorem Zjq{k:Nat}{l:List Zb8} : (∀i,i<l.length->Zby k l i=0)↔(∀p∈l,Zc8 k p=false/\Zc1 p=false)/\l.Pairwise fun a b=>ZcP a≠ZcP b:=by
 constructor
 ·intro h;refine⟨fun p hp=> ?_,List.pairwise_iff_getElem.2 fun i j hi hj hij e=> ?_⟩
  ·obtain⟨i,hi,rfl⟩:=List.getElem_of_mem hp;have:=Zcu (h i hi);rw[Zaj hi]at this;exact⟨this.1,this.2.1⟩
  ·have:=(Zcu (h j hj)).2.2;refine this ⟨i,hij, ?_⟩;rw[Zaj hi,Zaj hj];exact e
 ·rintro ⟨h1,h2⟩ i hi;obtain⟨a,b⟩:=h1 _ (List.getElem_mem hi)
  unfold Zby;rw[Zaj hi,if_neg (by rw[a];simp),if_neg (by rw[b];simp),if_neg];rintro ⟨j,hj,e⟩;rw[Zaj (show j<l.length by omega)]at e;exact List.pairwise_iff_getElem.1 h2 j i (by omega) hi hj e
theorem ZhK{α β:Type}(p:β->Bool)(f:α->List β)(l:List α): (l.flatMap f).filter p=l.flatMap fun x=>(f x).filter p:=by
 induction l with
 |nil=>rfl
 |cons x l ih=>simp [List.filter_append,ih]
theorem ZpV(a b:Nat)(d f:Int): (Zdd a b d f).filter (fun p=>p.2.2.2.1)=Zdd a b f f:=by
 unfold Zdd;by_cases h:f=d
 ·subst h;rw[if_pos rfl,List.append_nil]
  split<;>simp
 ·rw[if_neg h,if_pos rfl,List.append_nil,List.filter_append]
  have e1: (if 0<d/\d<=14400 then [((a:Int),(b:Int),d,decide (f=d),())] else []).filter (fun p:Zdg=>p.2.2.2.1)=[]:=by
   split<;>simp [h]
  rw[e1]
  split<;>simp
theorem Zq6(it:Nat->Nat->List Zdg)(n m:Nat): (ZfQ it n m).filter (fun p=>p.2.2.2.1)=ZfQ (fun a b=>(it a b).filter (fun p=>p.2.2.2.1)) n m:=by
 unfold ZfQ Zkb;rw[ZhK];congr 1;funext a;rw[ZhK];congr 1;funext b
 split<;>rfl
theorem ZmC{k:Nat}(hk:k<=64){l:List Zb8}(hl:l.length<=4096)(hz: ∀i,i<l.length->Zby k l i=0)(hc: ∀c,F56 l (k:Int)=some c->ZbC c l=true):
  (∀i,i< (l.filter fun p=>p.2.2.2.1).length->Zby k (l.filter fun p=>p.2.2.2.1) i=0)/\ ∀c,F56 (l.filter fun p=>p.2.2.2.1) (k:Int)=some c->ZbC c (l.filter fun p=>p.2.2.2.1)=true:=by
 obtain⟨z1,z2⟩:=Zjq.1 hz;have hz' : ∀i,i< (l.filter fun p=>p.2.2.2.1).length->Zby k (l.filter fun p=>p.2.2.2.1) i=0:=Zjq.2 ⟨fun p hp=>z1 p (List.mem_filter.1 hp).1,z2.filter _⟩;refine⟨hz',fun c h=> ?_⟩;have hF:=Zqg hz;have hF' :=Zqg hz';have hl' : (l.filter fun p=>p.2.2.2.1).length<=4096:=Nat.le_trans (List.length_filter_le _ _) hl;obtain⟨c0,a1,a2,_⟩:=ZfH hk hF hl;obtain⟨c1,b1,b2,_⟩:=ZfH hk hF' hl';have v0:=ZfN hk hF hl (fun a b=>(Zjv hF a b).imp id fun h=>h.2);have v1:=ZfN hk hF' hl' (fun a b=>(Zjv hF' a b).imp id fun h=>h.2);rw[a1]at v0;rw[b1]at v1;have e0:=Zob (hc c0 a2);obtain rfl:c1=c:=Option.some.inj (b2.symm.trans h)
 have ed: ∀free,EdP (l.filter fun p=>p.2.2.2.1) free=EdP l true:=by
  intro free;funext u v w;refine propext ⟨fun⟨p,hp,_,h⟩=> ?_,fun⟨p,hp,h1,h⟩=> ?_⟩
  ·obtain⟨hp1,hp2⟩:=List.mem_filter.1 hp;exact⟨p,hp1,fun _=>hp2,h⟩
  ·have:=h1 rfl;exact⟨p,List.mem_filter.2 ⟨hp,this⟩,fun _=>this,h⟩
 have key:c1=l.filter fun p=>p.2.2.2.1:=by
  rw[Option.some.inj v1]
  conv=>rhs;rw[<-e0,Option.some.inj v0]
  rw[Zq6,ed,ed];congr 1;funext a b;exact(ZpV a b _ _).symm
 rw[key];exact ZkQ _
theorem Zif(n:Zav)(q:Za6)(l:List ZbK)(i:Nat): (((l.map (ZbL n q))[i]?).getD c0).1=((l[i]?).getD c0).1/\(((l.map (ZbL n q))[i]?).getD c0).2.1=((l[i]?).getD c0).2.1/\(((l.map (ZbL n q))[i]?).getD c0).2.2.1=((l[i]?).getD c0).2.2.1:=by
 rw[List.getElem?_map]
 cases l[i]? with
 |none=>exact⟨rfl,rfl,rfl⟩
 |some c=>
  simp only[Option.map_some,Option.getD_some];unfold ZbL
  split<;>exact⟨rfl,rfl,rfl⟩
theorem Zl0(n:Zav)(q:Za6)(l:List ZbK)(k lo hi:Int):Zeb (l.map (ZbL n q)) k lo hi=Zeb l k lo hi:=by
 have h:Zii (l.map (ZbL n q)) k lo hi=Zii l k lo hi:=by funext i;obtain⟨a1,a2,a3⟩:=Zif n q l i;obtain⟨b1,b2,b3⟩:=Zif n q l (i - 1);unfold Zii Zln Zkl ZkV;rw[a1,a2,a3,b1,b3]
 unfold Zeb;rw[List.length_map,h]
theorem Zng(n:Zav)(q:Za6)(a:Int): (rn (Zbd n q) a).2.2.2.2.2.2.2.1=(rn n a).2.2.2.2.2.2.2.1.map (ZbL n q):=by
 unfold rn;show (((n.2.2.1.map (Zca n q))[a.toNat]?).getD u0).2.2.2.2.2.2.2.1=_;rw[List.getElem?_map]
 cases n.2.2.1[a.toNat]? <;>rfl
theorem ZmA(n:Zav)(q:Za6)(i:Nat):Zcf (Zbd n q) i=Zcf n i:=by have hlen: (Zbd n q).2.2.1.length=n.2.2.1.length:=List.length_map ..;unfold Zcf ZmK ZoV;simp only[Zng,List.length_map,hlen];have hcl: ∀ (l:List ZbK) (x:Int),(cl (l.map (ZbL n q)) x).1=(cl l x).1:=fun l x=>(Zif n q l _).1;simp only[hcl];rfl
theorem Zox(n:Zav)(q:Za6){i:Nat}(hi:i<n.2.2.1.length):Zj4 (Zbd n q) i=Zj4 n i:=by
 have hg: ∀j,j<n.2.2.1.length->((Zbd n q).2.2.1[j]?).getD u0=Zca n q ((n.2.2.1[j]?).getD u0):=by intro j hj;show ((n.2.2.1.map (Zca n q))[j]?).getD u0=_;rw[List.getElem?_map,List.getElem?_eq_getElem hj];rfl
 unfold Zj4;rw[hg i hi]
 have hd: (∃j,j<i/\runK (((Zbd n q).2.2.1[j]?).getD u0)=runK (Zca n q ((n.2.2.1[i]?).getD u0)))↔ ∃j,j<i/\runK ((n.2.2.1[j]?).getD u0)=runK ((n.2.2.1[i]?).getD u0):=by
  constructor
  ·rintro ⟨j,hj,e⟩;rw[hg j (by omega)]at e;exact⟨j,hj,e⟩
  ·rintro ⟨j,hj,e⟩;refine⟨j,hj, ?_⟩;rw[hg j (by omega)];exact e
 have hcE:Zeb (Zca n q ((n.2.2.1[i]?).getD u0)).2.2.2.2.2.2.2.1 ((Zbd n q).1.length:Int) 0 3155932800=Zeb ((n.2.2.1[i]?).getD u0).2.2.2.2.2.2.2.1 (n.1.length:Int) 0 3155932800:=Zl0 n q _ _ _ _;simp only[hcE,hd];rfl
theorem ZlK{n:Zav}(q:Za6)(hp:n.2.2.2.2.1.length<=4096)(h:Whole n):Whole (Zbd n q):=by
 have hlen: (Zbd n q).2.2.1.length=n.2.2.1.length:=List.length_map ..
 have hP: (∀i,i< (Zd2 n q).length->Zby n.1.length (Zd2 n q) i=0)/\ ∀c,F56 (Zd2 n q) (n.1.length:Int)=some c->ZbC c (Zd2 n q)=true:=by
  unfold Zd2;split
  ·exact ZmC h.sound.stops hp (Zaz.1 h.q) h.w
  ·exact⟨Zaz.1 h.q,h.w⟩
 refine⟨h.s,h.t,by rw[hlen];exact h.u, ?_,h.v, ?_,Zaz.2 hP.1,hP.2,h.z⟩
 ·rw[hlen];exact Zaz.2 fun i hi=>by rw[Zox n q hi];exact Zaz.1 h.f i hi
 ·exact Zaz.2 fun i hi=>by rw[ZmA];exact Zaz.1 h.g i hi
theorem ZqR{n:Zav}(q:Za6)(h:Fit n):Fit (Zbd n q):=by
 refine⟨h.stops,h.routes, ?_, ?_, ?_,h.prods⟩
 ·intro r hr;obtain⟨x,hx,rfl⟩:=List.mem_map.1 (show r∈n.2.2.1.map (Zca n q) from hr);exact h.runs x hx
 ·intro r hr;obtain⟨x,hx,rfl⟩:=List.mem_map.1 (show r∈n.2.2.1.map (Zca n q) from hr);show (x.2.2.2.2.2.2.2.1.map _).length<=_;rw[List.length_map];exact h.calls x hx
 ·show (Zd2 n q).length<=_;unfold Zd2;split
  ·exact Nat.le_trans (List.length_filter_le _ _) h.paths
  ·exact h.paths
end Q
namespace Q
open Tr Go
open Option (bind_some)
theorem Zu1{a b:Nat}(ha:a<65536)(hb:b<65536):qor .i64 (a:Int) (b:Int)=((a ||| b:Nat):Int):=by
 have hor:a ||| b<2 ^ 16:=Nat.or_lt_two_pow (n:=16) (by omega) (by omega);unfold qor
 have h1: (BitVec.ofInt IntKind.i64.bits (a:Int) ||| BitVec.ofInt IntKind.i64.bits (b:Int)).toNat=a ||| b:=by rw[BitVec.toNat_or,BitVec.ofInt_natCast,BitVec.ofInt_natCast,BitVec.toNat_ofNat,BitVec.toNat_ofNat];show a % 2 ^ 64 ||| b % 2 ^ 64=a ||| b;rw[Nat.mod_eq_of_lt (show a<2 ^ 64 by omega),Nat.mod_eq_of_lt (show b<2 ^ 64 by omega)]
 rw[h1,Zak (by omega) (by omega)]
theorem Zl4{z:Int}(h0:0<=z)(h1:z<16):Zt9 .i64 1 z=some ((2 ^ z.toNat:Nat):Int):=by
 have:z=0\/z=1\/z=2\/z=3\/z=4\/z=5\/z=6\/z=7\/z=8\/z=9\/z=10\/z=11\/z=12\/z=13\/z=14\/z=15:=by omega
 rcases this with rfl|rfl|rfl|rfl|rfl|rfl|rfl|rfl|rfl|rfl|rfl|rfl|rfl|rfl|rfl|rfl<;>decide
theorem Zkz{z:Int}(h1:z<16):2 ^ z.toNat<65536:=Nat.pow_lt_pow_right (by omega) (show z.toNat<16 by omega)
abbrev ZaA:=Bool×Int×Int×Int×Int×Int×Int×Int×Bool×Unit
abbrev Zfq:=Int×Int×Int×Int×Unit
def Za0(n:Zav)(x:ZaA):List ZbK:=(rn n x.2.1).2.2.2.2.2.2.2.1
def Za7(n:Zav)(x:ZaA):Bool:=inR x.2.1 n.2.2.1.length&& (decide (0<=x.2.2.1) && (decide (x.2.2.1<x.2.2.2.1) &&decide (x.2.2.2.1< ((Za0 n x).length:Int))))
theorem Zhk(n:Zav)(x:ZaA):F72 n x=some (Za7 n x):=by
 unfold F72 Za7;by_cases h:inR x.2.1 n.2.2.1.length=true
 ·have e:idx n.2.2.1 x.2.1=some (rn n x.2.1):=Zbl h u0;simp only[e,bind_some,h];unfold inR at h;simp only[Bool.and_eq_true,decide_eq_true_eq]at h;rw[decide_eq_false (show¬x.2.1<0 by omega),decide_eq_false (show¬ (n.2.2.1.length:Int)<=x.2.1 by omega)];simp only[cond_false,bind_some];unfold Za0;generalize decide (0<=x.2.2.1)=a1;generalize decide (x.2.2.1<x.2.2.2.1)=a2;generalize decide (x.2.2.2.1< ((rn n x.2.1).2.2.2.2.2.2.2.1.length:Int))=a3
  cases a1<;>cases a2<;>cases a3<;>rfl
 ·have h' :inR x.2.1 n.2.2.1.length=false:=by simpa using h
  rw[h'];unfold inR at h;simp only[Bool.and_eq_true,decide_eq_true_eq]at h;by_cases h1:x.2.1<0
  ·rw[decide_eq_true h1];rfl
  ·rw[decide_eq_false h1,decide_eq_true (show (n.2.2.1.length:Int)<=x.2.1 by omega)];rfl
def zn(n:Zav)(l:List ZbK)(j:Nat):Nat:=2 ^ (Zb9 n ((l[j]?).getD c0).1).2.1.toNat
def zN(n:Zav)(l:List ZbK)(a:Nat):Nat->Nat
 |0=>0
 |k+1=>zN n l a k ||| zn n l (a+k)
theorem Zff{n:Zav}(h:ZcX n){a:Int}(h0:0<=a)(h1:a< (n.1.length:Int)):idx n.1 a=some (Zb9 n a)/\0<=(Zb9 n a).2.1/\(Zb9 n a).2.1<16:=by
 have hi:inR a n.1.length=true:=by unfold inR;rw[decide_eq_true h0,decide_eq_true h1];rfl
 refine⟨Zbl hi s0, ?_⟩;have hl:a.toNat<n.1.length:=by omega
 unfold Zb9;rw[Zaj hl];exact h.zone _ (List.getElem_mem hl)
theorem Zm2{n:Zav}(h:ZcX n){l:List ZbK}(hc: ∀c∈l,0<=c.1/\c.1< (n.1.length:Int)){a:Nat} : ∀k,a+k<=l.length->zN n l a k<65536
 |0,_=>by unfold zN;omega
 |k+1,hk=>by
  have ih:=Zm2 h hc (a:=a) k (by omega);have hj:a+k<l.length:=by omega
  have hcj:=hc _ (List.getElem_mem hj);have hz:=(Zff h hcj.1 hcj.2).2
  have:zn n l (a+k)<65536:=by unfold zn;rw[Zaj hj];exact Zkz hz.2
  exact Nat.or_lt_two_pow (n:=16) ih this
theorem ZoH{n:Zav}(h:ZcX n){x:ZaA}(hx:Za7 n x=true):F79 n x=some ((zN n (Za0 n x) x.2.2.1.toNat (x.2.2.2.1.toNat+1 - x.2.2.1.toNat):Nat):Int):=by
 unfold Za7 at hx;simp only[Bool.and_eq_true,decide_eq_true_eq]at hx;obtain⟨hr,h0,h1,h2⟩:=hx;have hm:=ZiU hr;have hmany:=(h.many _ hm).2;have hc: ∀c∈Za0 n x,0<=c.1/\c.1< (n.1.length:Int):=h.call _ hm;have e:idx n.2.2.1 x.2.1=some (rn n x.2.1):=Zbl hr u0;unfold F79;rw[e];simp only[bind_some];have hfold: (rn n x.2.1).2.2.2.2.2.2.2.1=Za0 n x:=rfl;simp only[hfold]at hmany ⊢;generalize Za0 n x=l at*;obtain⟨a,ha⟩: ∃a:Nat,x.2.2.1=(a:Int):=⟨x.2.2.1.toNat,by omega⟩;obtain⟨b,hb⟩: ∃b:Nat,x.2.2.2.1=(b:Int):=⟨x.2.2.2.1.toNat,by omega⟩;rw[ha]at h0 h1;rw[hb]at h1 h2;rw[ha,hb];simp only[Int.toNat_natCast];rw[Zbb (n:=b+1 - a) (fun i (st:Int×Int)=>st=(((zN n l a i:Nat):Int),((a+i:Nat):Int))) (fun _=>0) (fun _=>((zN n l a (b+1 - a):Nat):Int)) ((zN n l a (b+1 - a):Nat):Int) ?_ ?_ ?_ ((0:Int),(a:Int)) rfl]
 ·unfold pick;rw[ZbR fun _ _=>rfl];rfl
 ·rintro i _ hi rfl _;have hj:a+i<l.length:=by omega
  have hcj:=hc _ (List.getElem_mem hj);obtain⟨hs1,hs2,hs3⟩:=Zff h hcj.1 hcj.2;refine⟨(((zN n l a (i+1):Nat):Int),((a+(i+1):Nat):Int)), ?_,rfl⟩;have hw:IntKind.wrap .i64 (((a+i:Nat):Int)+1)=((a+(i+1):Nat):Int):=by rw[Zak (by omega) (by omega)];omega
  simp only[decide_eq_true (show ((a+i:Nat):Int)<=(b:Int) by omega),cond_true,Zaf hj,bind_some,hs1,Zl4 hs2 hs3,hw];rw[Zu1 (Zm2 h hc (a:=a) i (by omega)) (Zkz hs3)]
  have:zN n l a (i+1)=zN n l a i ||| 2 ^ (Zb9 n l[a+i].1).2.1.toNat:=by show zN n l a i ||| zn n l (a+i)=_;unfold zn;rw[Zaj hj]
  rw[this]
 ·intro i s _ _ hh;exact absurd rfl hh
 ·rintro _ rfl;simp only[decide_eq_false (show¬ ((a+(b+1 - a):Nat):Int)<=(b:Int) by omega),cond_false]
theorem ZsC{k:Nat}(h:0<k)(hk:k<=9223372036854775807):inb (IntKind.wrap .i64 ((k:Int) - 1)) k=some (k - 1):=by
 have e:IntKind.wrap .i64 ((k:Int) - 1)=((k - 1:Nat):Int):=by rw[Zak (by omega) (by omega)];omega
 rw[e,ZaN (by omega)]
theorem ZlO{α:Type}{l:List α}{k:Nat}(h:k<l.length)(w:α): (l.set k w)[k]? =some w:=by simp [h]
def Zuw(n:Zav)(x:ZaA):Nat:=zN n (Za0 n x) x.2.2.1.toNat (x.2.2.2.1.toNat+1 - x.2.2.1.toNat)
def r00:Zdy:=([],0,false,())
def ZgF(n:Zav)(x:ZaA):Zdy:=(n.2.1[(rn n x.2.1).2.2.2.2.1.toNat]?).getD r00
theorem ZrS{n:Zav}(h:ZcX n){x:ZaA}(hx:Za7 n x=true):idx n.2.2.1 x.2.1=some (rn n x.2.1)/\idx n.2.1 (rn n x.2.1).2.2.2.2.1=some (ZgF n x)/\0<=(ZgF n x).2.1/\(ZgF n x).2.1<16:=by
 unfold Za7 at hx;simp only[Bool.and_eq_true]at hx;have hm:=ZiU hx.1;have h1:=h.route _ hm;have hi:inR (rn n x.2.1).2.2.2.2.1 n.2.1.length=true:=by unfold inR;rw[decide_eq_true h1.1,decide_eq_true h1.2];rfl
 refine⟨Zbl hx.1 u0,Zbl hi r00, ?_⟩;have hl: (rn n x.2.1).2.2.2.2.1.toNat<n.2.1.length:=by omega
 unfold ZgF;rw[Zaj hl];have:=h.mode _ (List.getElem_mem hl);omega
def ZlI(n:Zav)(x:ZaA):Zfq:=(x.2.2.2.2.2.2.1,x.2.2.2.2.2.2.2.1,((Zuw n x:Nat):Int),((2 ^ (ZgF n x).2.1.toNat:Nat):Int),())
def ZjN(n:Zav)(x:ZaA)(l:List Zfq)(v:Zfq):List Zfq:=
 l.set (l.length - 1) (v.1,x.2.2.2.2.2.2.2.1,qor .i64 v.2.2.1 ((Zuw n x:Nat):Int),qor .i64 v.2.2.2.1 ((2 ^ (ZgF n x).2.1.toNat:Nat):Int),())
abbrev Zbj(x:ZaA):Bool:=x.2.2.2.2.2.2.2.2.1
def ZgA(n:Zav)(x:ZaA)(out:List Zfq):List Zfq:=match out[out.length - 1]? with
 |some v=>ZjN n x out v
 |none=>out
def Zci(n:Zav):List ZaA->Bool->List Zfq->List Zfq×Int
 | [],_,out=>(out,0)
 |x::l,rode,out=>
  if x.1=true/\Za7 n x=false then([],9)
  else if Zbj x=true/\(x.1=false\/rode=false) then([],19)
  else if x.1=true then Zci n l true (if Zbj x=true then ZgA n x out else out++[ZlI n x])
  else Zci n l false out
theorem Zlw(n:Zav)(x:ZaA)(l:List ZaA)(rode:Bool)(out:List Zfq):Zci n (x::l) rode out=if x.1=true/\Za7 n x=false then([],9)
  else if Zbj x=true/\(x.1=false\/rode=false) then([],19)
  else if x.1=true then Zci n l true (if Zbj x=true then ZgA n x out else out++[ZlI n x])
  else Zci n l false out:=rfl
theorem Zhq(n:Zav)(x:ZaA)(out:List Zfq): (ZgA n x out).length=out.length:=by
 unfold ZgA;split
 ·unfold ZjN;rw[List.length_set]
 ·rfl
theorem ZlC{c d:Bool}{e:Int}{K:Option Int}{k:Int}(h:K=some k): (Option.bind (bif c then some true else some d) fun x=>bif x then some e else K)=some (bif c||d then e else k):=by
 subst h;cases c<;>cases d<;>rfl
theorem ZeU{c d:Bool}{e:Int}{K:Option Int}{k:Int}(h:K=some k): (Option.bind (bif c then some d else some false) fun x=>bif x then some e else K)=some (bif c&&d then e else k):=by
 subst h;cases c<;>cases d<;>rfl
theorem Ze4{c:Bool}{e:Int}{K:Option Int}{k:Int}(h:K=some k): (bif c then some e else K)=some (bif c then e else k):=by
 subst h;cases c<;>rfl
theorem ZdS{o:Option Bool}{c:Bool}{e:Int}{K:Option Int}{k:Int}(ho:o=some c)(h:K=some k): (Option.bind o fun x=>bif x then some e else K)=some (bif c then e else k):=by
 subst ho;subst h;cases c<;>rfl
theorem ZaE{c:Bool}{e k:Int}(he:e≠0): (bif c then e else k)=0↔c=false/\k=0:=by
 cases c<;>simp [he]
def Zr0(q:Za6)(t:Zdy):Bool:=decide (q.2.2.2.2.2.2.2.2.1=(0:Int)) ||decide (ZnV .i64 (Int.fdiv q.2.2.2.2.2.2.2.2.1 (2 ^ (min (Int.toNat t.2.1) 64))) 1=1)
theorem Zst(a:Int):ZnV .i64 a 1=0\/ZnV .i64 a 1=1:=by
 unfold ZnV
 have h: (BitVec.ofInt IntKind.i64.bits a &&& BitVec.ofInt IntKind.i64.bits 1).toNat=(BitVec.ofInt IntKind.i64.bits a).toNat % 2:=by rw[BitVec.toNat_and];show _ &&& 1=_;rw[Nat.and_one_is_mod]
 rw[h];have: (BitVec.ofInt IntKind.i64.bits a).toNat % 2=0\/(BitVec.ofInt IntKind.i64.bits a).toNat % 2=1:=by omega
 rcases this with h|h<;>rw[h]
 ·left;rfl
 ·right;rfl
theorem ZrL(q:Za6)(t:Zdy)(h0:0<=t.2.1): (bif !decide (q.2.2.2.2.2.2.2.2.1=(0:Int)) then Option.bind (ZqL .i64 q.2.2.2.2.2.2.2.2.1 t.2.1) fun x=>some (decide (ZnV .i64 x (1:Int)=(0:Int))) else some false)=some (!Zr0 q t):=by
 unfold Zr0
 have hs:ZqL .i64 q.2.2.2.2.2.2.2.2.1 t.2.1=some (Int.fdiv q.2.2.2.2.2.2.2.2.1 (2 ^ (min (Int.toNat t.2.1) 64))):=by unfold ZqL;rw[if_neg (by omega)];rfl
 rw[hs];simp only[bind_some]
 cases decide (q.2.2.2.2.2.2.2.2.1=(0:Int)) with
 |true=>rfl
 |false=>
  rcases Zst (Int.fdiv q.2.2.2.2.2.2.2.2.1 (2 ^ (min (Int.toNat t.2.1) 64))) with h|h<;>rw[h]<;>rfl
def Zis(n:Zav)(q:Za6)(x:ZaA):Int:=
 bif !decide ((cl (Za0 n x) x.2.2.1).1=x.2.2.2.2.1) || !decide ((cl (Za0 n x) x.2.2.2.1).1=x.2.2.2.2.2.1) then 24 else
 bif !decide ((cl (Za0 n x) x.2.2.1).2.2.1=x.2.2.2.2.2.2.1) || !decide ((cl (Za0 n x) x.2.2.2.1).2.1=x.2.2.2.2.2.2.2.1) then 10 else
 bif (rn n x.2.1).2.2.2.2.2.2.1 then 27 else
 bif q.2.2.2.2.2.2.1&& !(rn n x.2.1).2.2.2.2.2.1 then 29 else
 bif q.2.2.2.2.2.2.2.1&& !(ZrG n (rn n x.2.1)).2.2.1 then 30 else
 bif !Zr0 q (ZrG n (rn n x.2.1)) then 31 else
 bif !Zbj x&& !(cl (Za0 n x) x.2.2.1).2.2.2.1 then 25 else
 bif !Zbj x&& !Zjn n q x.2.2.2.2.1 then 29 else 0
theorem Zks{n:Zav}{x:ZaA}(hx:Za7 n x=true):idx n.2.2.1 x.2.1=some (rn n x.2.1)/\rn n x.2.1∈n.2.2.1/\idx (rn n x.2.1).2.2.2.2.2.2.2.1 x.2.2.1=some (cl (Za0 n x) x.2.2.1)/\idx (rn n x.2.1).2.2.2.2.2.2.2.1 x.2.2.2.1=some (cl (Za0 n x) x.2.2.2.1):=by
 unfold Za7 at hx;simp only[Bool.and_eq_true,decide_eq_true_eq]at hx;obtain⟨hr,h0,h1,h2⟩:=hx;unfold Za0 at h2
 refine⟨Zbl hr u0,ZiU hr,Zbl ?_ c0,Zbl ?_ c0⟩<;> (unfold inR;rw[Bool.and_eq_true,decide_eq_true_eq,decide_eq_true_eq];omega)
theorem ZkZ{n:Zav}(q:Za6){s:Int}(h:inR s n.1.length=true):F84 n q s=some (Zjn n q s):=by
 unfold F84 Zjn;rw[show idx n.1 s=some (Zb9 n s) from Zbl h s0];simp only[bind_some]
 cases q.2.2.2.2.2.2.1<;>cases (Zb9 n s).2.2.1<;>rfl
theorem Zsx{n:Zav}(hS:ZcX n)(q:Za6){x:ZaA}(hx:Za7 n x=true)(hf:inR x.2.2.2.2.1 n.1.length=true):F96 n q x=some (Zis n q x):=by
 obtain⟨h1,h2,h3,h4⟩:=Zks hx;obtain⟨h5,h6⟩:=Ztc hS h2;have hm:=(hS.mode _ h6).1;unfold F96 Zis;rw[h1];simp only[bind_some];rw[h3,h4,h5];simp only[bind_some];refine ZlC (ZlC (Ze4 (ZeU (ZeU (ZdS (ZrL q _ hm) (ZeU (ZdS (c:= !Zbj x&& !Zjn n q x.2.2.2.2.1) ?_ rfl)))))));rw[ZkZ q hf];unfold Zbj
 cases x.2.2.2.2.2.2.2.2.1<;>rfl
def Zdk(x:ZaA)(p:Zb8):Bool:=decide (p.1=x.2.2.2.2.1) && (decide (p.2.1=x.2.2.2.2.2.1) &&decide (p.2.2.1=IntKind.wrap .i64 (x.2.2.2.2.2.2.2.1 - x.2.2.2.2.2.2.1)))
def Zgw(q:Za6)(p:Zb8):Bool:=p.2.2.2.1|| !q.2.2.2.2.2.2.1
def Zgu(n:Zav)(q:Za6)(x:ZaA):Int:=bif n.2.2.2.2.1.any fun p=>Zdk x p&&Zgw q p then 0 else bif n.2.2.2.2.1.any (Zdk x) then 29 else 18
theorem Zgf{α:Type}{l:List α}{i:Nat}(h:i<l.length)(f:α->Bool): (l.take (i+1)).any f=((l.take i).any f||f l[i]):=by rw[List.take_succ_eq_append_getElem h,List.any_append];simp
theorem Zs5{α:Type}{l:List α}{i:Nat}(h:i<l.length){f:α->Bool}(hf:f l[i]=true):l.any f=true:=List.any_eq_true.2 ⟨_,List.getElem_mem h,hf⟩
theorem ZlH{n:Zav}(hp:n.2.2.2.2.1.length<=4096)(q:Za6)(x:ZaA):F100 n q x=some (Zgu n q x):=by
 unfold F100;refine Zbo (fun r:Int ⊕ Int=>Sum.elim id id r=Zgu n q x) ?_ ?_
 ·refine ZaX n.2.2.2.2.1.length _ (fun i (s:Int×Int)=>s=((bif (n.2.2.2.2.1.take i).any (Zdk x) then 29 else 18),(i:Int))/\((n.2.2.2.2.1.take i).any fun p=>Zdk x p&&Zgw q p)=false) ?_ ?_ _ ⟨rfl,rfl⟩
  ·rintro i _ hi ⟨rfl,ha⟩;simp only[Zaw hi,cond_true,Zaf hi,bind_some,Zai hi (show _<=9223372036854775807 by omega)]
   have e1: (bif !decide ((n.2.2.2.2.1[i]).1=x.2.2.2.2.1) then some true else bif !decide ((n.2.2.2.2.1[i]).2.1=x.2.2.2.2.2.1) then some true else some !decide ((n.2.2.2.2.1[i]).2.2.1=IntKind.wrap .i64 (x.2.2.2.2.2.2.2.1 - x.2.2.2.2.2.2.1)))=some (!Zdk x n.2.2.2.2.1[i]):=by
    unfold Zdk
    cases decide ((n.2.2.2.2.1[i]).1=x.2.2.2.2.1)<;>cases decide ((n.2.2.2.2.1[i]).2.1=x.2.2.2.2.2.1)<;>rfl
   have e2: (bif (n.2.2.2.2.1[i]).2.2.2.1 then some true else some !q.2.2.2.2.2.2.1)=some (Zgw q n.2.2.2.2.1[i]):=by
    unfold Zgw
    cases (n.2.2.2.2.1[i]).2.2.2.1<;>rfl
   rw[e1,e2];simp only[bind_some]
   cases hm:Zdk x n.2.2.2.2.1[i] with
   |false=>
    left;refine⟨_,rfl, ?_, ?_⟩
    ·rw[Zgf hi,hm,Bool.or_false]
    ·rw[Zgf hi,ha,hm];rfl
   |true=>
    cases hfr:Zgw q n.2.2.2.2.1[i] with
    |true=>
     right;refine⟨_,rfl, ?_⟩;unfold Zgu;rw[Zs5 hi (f:=fun p=>Zdk x p&&Zgw q p) (by rw[hm,hfr];rfl)]
     rfl
    |false=>
     left;refine⟨_,rfl, ?_, ?_⟩
     ·rw[Zgf hi,hm,Bool.or_true];rfl
     ·rw[Zgf hi,ha,hm,hfr];rfl
  ·rintro _ ⟨rfl,ha⟩;simp only[Zax,cond_false];refine⟨_,rfl, ?_⟩;rw[List.take_length]at ha ⊢;unfold Zgu;rw[ha];rfl
 ·rintro (r|r) hr
  ·exact congrArg some hr
  ·exact congrArg some hr
def ZjY(n:Zav)(q:Za6)(x:ZaA):Int:=
 bif !inR x.2.2.2.2.1 n.1.length|| !inR x.2.2.2.2.2.1 n.1.length then 9 else
 bif (bif x.1 then !Za7 n x else !decide (x.2.1=0) || (!decide (x.2.2.1=0) || (!decide (x.2.2.2.1=0) ||Zbj x))) then 9 else
 bif !decide (0<=x.2.2.2.2.2.2.1/\x.2.2.2.2.2.2.1<=3155932800) || !decide (0<=x.2.2.2.2.2.2.2.1/\x.2.2.2.2.2.2.2.1<=3155932800) then 10 else
 bif x.1 then Zis n q x else Zgu n q x
theorem ZgB{o:Option Bool}{c:Bool}{e:Int}{K:Option Int}{k:Int}(ho:o=some c)(h:c=false->K=some k): (Option.bind o fun x=>bif x then some e else K)=some (bif c then e else k):=by
 subst ho;cases c
 ·exact h rfl
 ·rfl
theorem Zud{n:Zav}(hS:ZcX n)(hp:n.2.2.2.2.1.length<=4096)(q:Za6)(x:ZaA):F94 n q x=some (ZjY n q x):=by
 have hk:n.1.length<=9223372036854775807:=by have:=hS.stops;omega
 unfold F94 ZjY;rw[Ze5 _ hk,Ze5 _ hk]
 refine ZgB (c:= !inR x.2.2.2.2.1 n.1.length|| !inR x.2.2.2.2.2.1 n.1.length) (by cases inR x.2.2.2.2.1 n.1.length<;>rfl) fun hst=> ?_
 rw[Zhk]
 refine ZgB (c:=bif x.1 then !Za7 n x else !decide (x.2.1=0) || (!decide (x.2.2.1=0) || (!decide (x.2.2.2.1=0) ||Zbj x))) ?_ fun hex=> ?_
 ·unfold Zbj
  cases x.1 with
  |true=>cases Za7 n x<;>rfl
  |false=>cases decide (x.2.1=0)<;>cases decide (x.2.2.1=0)<;>cases decide (x.2.2.2.1=0)<;>rfl
 ·rw[ZfG,ZfG];refine ZgB (c:= !decide (0<=x.2.2.2.2.2.2.1/\x.2.2.2.2.2.2.1<=3155932800) || !decide (0<=x.2.2.2.2.2.2.2.1/\x.2.2.2.2.2.2.2.1<=3155932800)) ?_ fun _=> ?_
  ·simp only[bind_some]
   cases decide (0<=x.2.2.2.2.2.2.1/\x.2.2.2.2.2.2.1<=3155932800)<;>rfl
  ·cases hx1:x.1 with
   |false=>
    simp only[cond_false]
    rw[ZlH hp];rfl
   |true=>
    rw[hx1]at hex;simp only[cond_true]at hex ⊢
    rw[Zsx hS q (by simpa using hex) (by rw[Bool.or_eq_false_iff]at hst;simpa using hst.1)]
    rfl
def Zlh(a b:ZaA)(stay:Bool)(l:Zkp):Bool:=decide (l.1=a.2.1) && (decide (l.2.1=a.2.2.2.1) && (decide (l.2.2.1=b.2.1) && (decide (l.2.2.2.1=b.2.2.1) && (l.2.2.2.2.1==stay))))
def Zfs(n:Zav)(a b:ZaA)(stay:Bool):Bool:=n.2.2.2.1.any (Zlh a b stay)
theorem Zjc       {n : Zav }(hl : n.2.2.2.1.length <= 4096)(a b : ZaA )(stay : Bool) : F95 n a b stay = some (Zfs   n a b stay) := by
  unfold F95;refine Zbo     (fun r : Unit ⊕ Bool => Sum.elim (fun _ => false) id r = Zfs   n a b stay) ?_ ?_
  · unfold Zfs
    refine ZaX     n.2.2.2.1.length _ (fun i (s : Int) => s = (i : Int) /\ (n.2.2.2.1.take i).any (Zlh   a b stay) = false) ?_ ?_ _ ⟨rfl, rfl⟩
    · rintro i _ hi ⟨rfl, ha⟩
      simp only [Zaw    hi, cond_true, Zaf     hi, bind_some, Zai       hi (show _ <= 9223372036854775807 by omega)]
      have e1 : (bif decide ((n.2.2.2.1[i]).1 = a.2.1) then
 bif decide ((n.2.2.2.1[i]).2.1 = a.2.2.2.1) then
 bif decide ((n.2.2.2.1[i]).2.2.1 = b.2.1) then
 bif decide ((n.2.2.2.1[i]).2.2.2.1 = b.2.2.1) then some ((n.2.2.2.1[i]).2.2.2.2.1 == stay) else some false
 else some false
 else some false
 else some false) = some (Zlh   a b stay n.2.2.2.1[i]) := by
        unfold Zlh
        cases decide ((n.2.2.2.1[i]).1 = a.2.1) <;> cases decide ((n.2.2.2.1[i]).2.1 = a.2.2.2.1) <;> cases decide ((n.2.2.2.1[i]).2.2.1 = b.2.1) <;> cases decide ((n.2.2.2.1[i]).2.2.2.1 = b.2.2.1) <;> rfl
      erw [e1];simp only [bind_some]
      cases hm : Zlh   a b stay n.2.2.2.1[i] with
      | false =>
        left;refine ⟨_, rfl, rfl, ?_⟩
        rw [Zgf      hi, ha, hm]; rfl
      | true =>
        right;refine ⟨_, rfl, ?_⟩;rw [Zs5    hi hm]; rfl
    · rintro _ ⟨rfl, ha⟩
      simp only [Zax    , cond_false];refine ⟨_, rfl, ?_⟩;rw [List.take_length]at ha;rw [ha]; rfl
  · rintro (r | r) hr
    · exact congrArg some hr
    · exact congrArg some hr
def Zbh(n:Zav)(a b:ZaA):Int:=
 bif !decide (a.2.2.2.2.2.1=b.2.2.2.2.1) then 24 else
 bif !a.1&& !b.1 then 32 else
 bif Zbj b then(bif !a.1|| !Zfs n a b true then 19 else bif decide (b.2.2.2.2.2.2.1<a.2.2.2.2.2.2.2.1) then 10 else 0) else
 bif !b.1 then(bif !decide (b.2.2.2.2.2.2.1=a.2.2.2.2.2.2.2.1) then 10 else 0) else
 bif !a.1 then(bif decide (b.2.2.2.2.2.2.1<a.2.2.2.2.2.2.2.1) then 28 else 0) else
 bif decide (IntKind.wrap .i64 (a.2.2.2.2.2.2.2.1+(Zb9 n a.2.2.2.2.2.1).2.2.2.1)<=b.2.2.2.2.2.2.1) || (Zfs n a b false&&decide (a.2.2.2.2.2.2.2.1<=b.2.2.2.2.2.2.1)) then 0 else 28
theorem Zi4{n:Zav}(hl:n.2.2.2.1.length<=4096){a b:ZaA}(ha:inR b.2.2.2.2.1 n.1.length=true):F91 n a b=some (Zbh n a b):=by
 unfold F91 Zbh;rw[Zjc hl,Zjc hl];by_cases h24:a.2.2.2.2.2.1=b.2.2.2.2.1
 case neg=>rw[decide_eq_false h24];rfl
 rw[decide_eq_true h24];simp only[Bool.not_true,cond_false,bind_some];refine ZeU ?_;unfold Zbj
 cases b.2.2.2.2.2.2.2.2.1 with
 |true=>
  simp only[cond_true]
  exact ZlC (by cases decide (b.2.2.2.2.2.2.1<a.2.2.2.2.2.2.2.1)<;>rfl)
 |false=>
  simp only[cond_false]
  cases b.1 with
  |false=>
   simp only[Bool.not_false,cond_true]
   cases decide (b.2.2.2.2.2.2.1=a.2.2.2.2.2.2.2.1)<;>rfl
  |true=>
   simp only[Bool.not_true,cond_false]
   cases a.1 with
   |false=>
    simp only[Bool.not_false,cond_true]
    cases decide (b.2.2.2.2.2.2.1<a.2.2.2.2.2.2.2.1)<;>rfl
   |true=>
    simp only[Bool.not_true,cond_false];have hi:idx n.1 a.2.2.2.2.2.1=some (Zb9 n a.2.2.2.2.2.1):=by rw[h24];exact Zbl ha s0
    rw[hi];simp only[bind_some]
    cases decide (IntKind.wrap .i64 (a.2.2.2.2.2.2.2.1+(Zb9 n a.2.2.2.2.2.1).2.2.2.1)<=b.2.2.2.2.2.2.1)<;>cases Zfs n a b false<;>cases decide (a.2.2.2.2.2.2.2.1<=b.2.2.2.2.2.2.1)<;>rfl
def g0:ZaA:=(false,0,0,0,0,0,0,0,false,())
def lg(L:List ZaA)(i:Nat):ZaA:=(L[i]?).getD g0
def ZiN(n:Zav)(q:Za6)(L:List ZaA):Int:=
 bif !decide ((lg L 0).2.2.2.2.1=q.1) then 24 else
 bif Zbj (lg L 0) then 19 else
 bif !(lg L 0).1&& (decide (1<L.length) && ((lg L 1).1&& !decide ((lg L 1).2.2.2.2.2.2.1=(lg L 0).2.2.2.2.2.2.2.1))) then 10 else
 bif !(lg L 0).1&& (decide (L.length=1) && (bif q.2.2.2.1 then !decide ((lg L 0).2.2.2.2.2.2.2.1=q.2.2.1) else !decide ((lg L 0).2.2.2.2.2.2.1=q.2.2.1))) then 10 else
 bif !q.2.2.2.1&&decide ((lg L 0).2.2.2.2.2.2.1<q.2.2.1) then 10 else
 bif q.2.2.2.2.2.2.2.2.2.1&& ((lg L 0).1&&decide ((lg L 0).2.2.2.2.2.2.1<IntKind.wrap .i64 (q.2.2.1+(Zb9 n q.1).2.2.2.1))) then 28 else 0
theorem Zeu{L:List ZaA}{i:Nat}(h:i<L.length):idx L (i:Int)=some (lg L i):=by rw[Zaf h];unfold lg;rw[Zaj h]
theorem Zoj{n:Zav}{q:Za6}{L:List ZaA}(h0:0<L.length)(hq:inR q.1 n.1.length=true):F90 n q (L,())=some (ZiN n q L):=by
 unfold F90 ZiN;have e0:idx (L,()).1 (0:Int)=some (lg L 0):=Zeu h0;rw[e0];simp only[bind_some];refine Ze4 (ZdS (c:=Zbj (lg L 0)) rfl ?_ : (Option.bind (some _) fun _=>_)=_)
 refine ZdS (c:= !(lg L 0).1&& (decide (1<L.length) && ((lg L 1).1&& !decide ((lg L 1).2.2.2.2.2.2.1=(lg L 0).2.2.2.2.2.2.2.1)))) ?_ (ZdS (c:= !(lg L 0).1&& (decide (L.length=1) && (bif q.2.2.2.1 then !decide ((lg L 0).2.2.2.2.2.2.2.1=q.2.2.1) else !decide ((lg L 0).2.2.2.2.2.2.1=q.2.2.1)))) ?_ (ZeU (ZdS (c:=q.2.2.2.2.2.2.2.2.2.1&& ((lg L 0).1&&decide ((lg L 0).2.2.2.2.2.2.1<IntKind.wrap .i64 (q.2.2.1+(Zb9 n q.1).2.2.2.1)))) ?_ rfl)))
 ·by_cases h1:1<L.length
  ·have e1:idx L (1:Int)=some (lg L 1):=Zeu h1;rw[decide_eq_true (show (1:Int)< (L.length:Int) by omega),decide_eq_true h1,e1];simp only[bind_some]
   cases (lg L 0).1<;>cases (lg L 1).1<;>rfl
  ·rw[decide_eq_false (show¬ (1:Int)< (L.length:Int) by omega),decide_eq_false h1]
   cases (lg L 0).1<;>rfl
 ·rw[show decide ((L.length:Int)=1)=decide (L.length=1) from decide_eq_decide.2 (by omega)]
  cases (lg L 0).1<;>cases decide (L.length=1)<;>cases q.2.2.2.1<;>cases decide ((lg L 0).2.2.2.2.2.2.2.1=q.2.2.1)<;>cases decide ((lg L 0).2.2.2.2.2.2.1=q.2.2.1)<;>rfl
 ·rw[show idx n.1 q.1=some (Zb9 n q.1) from Zbl hq s0];simp only[bind_some]
  cases q.2.2.2.2.2.2.2.2.2.1<;>cases (lg L 0).1<;>rfl
end Q
namespace Q
open Tr Go
open Option (bind_some)
def ZlJ(L:List ZaA)(i:Nat):Bool:=decide (0<i) && (lg L (i - 1)).1
theorem Zoi{n:Zav}(h:ZcX n)(hv:F60 n=some true)(L:List ZaA)(hj:L.length<=1000):F74 n (L,())=some (Zci n L false []):=by
 unfold F74;rw[hv];simp only[bind_some,Bool.not_true,cond_false];refine Zbo (fun r=>Zci n L false []=Sum.elim (fun l:List Zfq=>(l,(0:Int))) (fun y=>y) r) ?_ ?_
 ·refine ZaX L.length _ (fun i (s:List Zfq×Int)=> ∃l,s=(l,(i:Int))/\l.length<=i/\(ZlJ L i=true->0<l.length)/\Zci n L false []=Zci n (L.drop i) (ZlJ L i) l) ?_ ?_ _ ⟨[],rfl,by simp,fun e=>(nomatch e),rfl⟩
  ·rintro i _ hi ⟨l,rfl,hl,hw,hgo⟩;have hil:L.length<=9223372036854775807:=by omega
   rw[List.drop_eq_getElem_cons hi]at hgo
   have hnx:ZlJ L (i+1)=(L[i]).1:=by unfold ZlJ lg;rw[Nat.add_sub_cancel,Zaj hi,decide_eq_true (Nat.succ_pos i)];rfl
   have hro: (bif !(L[i]).1 then some true else bif decide ((i:Int)=(0:Int)) then some true else Option.bind (idx L (IntKind.wrap .i64 ((i:Int) - (1:Int)))) fun x5=>some !x5.1)=some (!((L[i]).1&&ZlJ L i)):=by
    cases (L[i]).1 with
    |false=>rfl
    |true=>
     unfold ZlJ;by_cases h0:i=0
     ·subst h0;rfl
     ·rw[decide_eq_false (show¬ ((i:Int)=0) by omega),decide_eq_true (show 0<i by omega)];have e:IntKind.wrap .i64 ((i:Int) - 1)=((i - 1:Nat):Int):=by rw[Zak (by omega) (by omega)];omega
      rw[e,Zeu (show i - 1<L.length by omega)];rfl
   simp only[Zaw hi,cond_true,Zaf hi,bind_some,Zai hi hil,Zhk];rw[hro];generalize L[i]=x at*;rw[Zlw]at hgo;generalize ZlJ L i=w at*
   cases hx1:x.1 with
   |false=>
    rw[hx1]at hgo hnx;simp only[cond_false,bind_some,Bool.not_false,cond_true]
    cases hs:Zbj x with
    |true=>
     right;rw[hs]at hgo;unfold Zbj at hs;rw[hs];refine⟨_,rfl, ?_⟩
     rw[hgo];simp
    |false=>
     left;rw[hs]at hgo;unfold Zbj at hs;rw[hs];refine⟨_,rfl,l,rfl,by omega,fun e=>(by rw[hnx]at e;cases e), ?_⟩
     rw[hgo,hnx];simp
   |true=>
    rw[hx1]at hgo hnx;simp only[cond_true,bind_some,Bool.not_true,cond_false,Bool.true_and]
    cases hx:Za7 n x with
    |false=>
     right;rw[hx]at hgo;refine⟨_,rfl, ?_⟩
     rw[hgo];simp
    |true=>
     rw[hx]at hgo;obtain⟨e1,e2,e3,e4⟩:=ZrS h hx;have ez:=ZoH h hx;simp only[Bool.not_true,cond_false]
     cases hs:Zbj x with
     |false=>
      left;rw[hs]at hgo;have hs' :=hs;unfold Zbj at hs';rw[hs'];simp only[cond_false,bind_some];rw[e1];simp only[bind_some];rw[e2];simp only[bind_some];rw[Zl4 e3 e4,ez];simp only[bind_some];rw[ZaW (by simp;omega)];refine⟨_,rfl,l++[ZlI n x],rfl,by simp;omega,fun _=>by simp, ?_⟩
      rw[hgo,hnx];simp
     |true=>
      rw[hs]at hgo;have hs' :=hs;unfold Zbj at hs';rw[hs'];simp only[cond_true,bind_some]
      cases w with
      |false=>
       right;refine⟨_,rfl, ?_⟩
       rw[hgo];simp
      |true=>
       left;have hpos:=hw rfl;obtain⟨v,hv⟩: ∃v,l[l.length - 1]? =some v:=⟨_,List.getElem?_eq_getElem (by omega)⟩;simp only[Bool.not_true,cond_false];rw[e1];simp only[bind_some];rw[e2];simp only[bind_some];rw[Zl4 e3 e4,ez];have hb:=ZsC (k:=l.length) hpos (by omega);simp only[bind_some,List.length_set];rw[hb];simp only[bind_some,hv,ZlO (show l.length - 1<l.length by omega)];rw[ZlO (by rw[List.length_set];omega)];simp only[bind_some,List.set_set];have ea:ZgA n x l=ZjN n x l v:=by unfold ZgA;rw[hv]
       refine⟨_,rfl,ZjN n x l v,rfl,by rw[<-ea,Zhq];omega,fun _=>by rw[<-ea,Zhq];exact hpos, ?_⟩;rw[hgo, <-ea,hnx];simp
  ·rintro _ ⟨l,rfl,hl,hw,hgo⟩;simp only[Zax,cond_false];refine⟨_,rfl, ?_⟩;rw[hgo,List.drop_length];rfl
 ·rintro r hr;rw[hr]
  cases r<;>rfl
theorem Zpx(z:Int): ∃r,F77 z=some r:=by
 unfold F77
 suffices h: ∃r,run _ ((0:Int),(0:Int))=some r/\True by obtain⟨r,h,_⟩:=h;exact⟨r,by rw[h];rfl⟩
 refine ZaX 62 (fun _=>True) (fun i (s:Int×Int)=>s.2=(i:Int)) ?_ ?_ _ rfl
 ·rintro i ⟨a,b⟩ hi hb;left;simp only at hb;subst hb;have w2:IntKind.wrap .i64 ((i:Int)+1)=((i+1:Nat):Int):=by rw[Zak (by omega) (by omega)];omega
  have hs: ∃y,ZqL .i64 z (i:Int)=some y:=by unfold ZqL;rw[if_neg (by omega)];exact⟨_,rfl⟩
  obtain⟨y,hy⟩:=hs;simp only[decide_eq_true (show (i:Int)<62 by omega),cond_true,hy,bind_some,w2]
  cases decide (ZnV .i64 y 1=1) with
  |true=>exact⟨_,rfl,rfl⟩
  |false=>exact⟨_,rfl,rfl⟩
 ·rintro ⟨a,b⟩ hb;simp only at hb;subst hb;exact⟨_,rfl,trivial⟩
theorem ZgY(a b d:Int): ∃r,F78 a b d=some r:=by
 unfold F78
 cases decide (b<=a)<;>exact⟨_,rfl⟩
theorem ZlU(p:Zit){l:List Zfq}{i k:Nat}(hik:i<=k)(hk:k<l.length)(hl:l.length<=100): ∃r,F71 p l (i:Int) (k:Int)=some r:=by
 unfold F71
 suffices h: ∃r,run _ ((0:Int),(0:Int),(i:Int))=some r/\True by
  obtain⟨r,h,_⟩:=h;rw[h];simp only[bind_some];obtain⟨b,hb⟩:=Zpx r.1;obtain⟨c,hc⟩:=ZgY (l[i]).1 (l[k]).1 p.2.2.2.2.1;rw[hb];simp only[bind_some,Zaf (show i<l.length by omega),Zaf hk,hc]
  cases decide (IntKind.wrap .i64 (IntKind.wrap .i64 ((k:Int) - (i:Int))+1)<=p.2.2.1)<;>cases decide (b<=p.2.2.2.1)<;>cases c<;>exact⟨_,rfl⟩
 refine ZaX (k+1 - i) (fun _=>True) (fun c (t:Int×Int×Int)=>t.2.2=((i+c:Nat):Int)) ?_ ?_ _ rfl
 ·rintro c ⟨a,b,d⟩ hc hd;left;simp only at hd;subst hd;have e1:IntKind.wrap .i64 (((i+c:Nat):Int)+1)=((i+(c+1):Nat):Int):=by rw[Zak (by omega) (by omega)];omega
  simp only[decide_eq_true (show ((i+c:Nat):Int)<=(k:Int) by omega),cond_true,Zaf (show i+c<l.length by omega),bind_some,e1];exact⟨_,rfl,rfl⟩
 ·rintro ⟨a,b,d⟩ hd;simp only at hd;subst hd;rw[decide_eq_false (show¬ ((i+(k+1 - i):Nat):Int)<=(k:Int) by omega)];exact⟨_,rfl,trivial⟩
theorem ZlM(F:Zfu)(p:Zit){l:List Zfq}{i:Nat}(hi:i<l.length)(hl:l.length<=100): ∃r,F75 F p l (i:Int)=some r:=by
 unfold F75;by_cases h0:0<i
 ·have e:IntKind.wrap .i64 ((i:Int) - 1)=((i - 1:Nat):Int):=by rw[Zak (by omega) (by omega)];omega
  obtain⟨c,hc⟩:=ZgY (l[i - 1]).2.1 (l[i]).1 F.2.2.1;rw[decide_eq_true (show (0:Int)< (i:Int) by omega),e];simp only[cond_true,Zaf (show i - 1<l.length by omega),Zaf hi,bind_some,hc]
  cases c<;>exact⟨_,rfl⟩
 ·rw[decide_eq_false (show¬ (0:Int)< (i:Int) by omega)];exact⟨_,rfl⟩
abbrev TkT:=Int×Int×Int×Int×Unit
abbrev Zhu:=Bool×Int×List TkT×Unit
def Zgy(n:Nat)(T:List Zhu):Prop:=T.length=n+1/\ ∀j r,T[j]? =some r->r.2.2.1.length+j<=n
theorem Zgy.get{n:Nat}{T:List Zhu}(h:Zgy n T){j:Nat}(hj:j<=n): ∃r,T[j]? =some r/\r.2.2.1.length+j<=n:=by have hl:=h.1;exact⟨_,List.getElem?_eq_getElem (show j<T.length by omega),h.2 _ _ (List.getElem?_eq_getElem (show j<T.length by omega))⟩
theorem Zgy.put{n:Nat}{T:List Zhu}(h:Zgy n T){i:Nat}{r:Zhu}(hr:r.2.2.1.length+i<=n):Zgy n (T.set i r):=by
 refine⟨by rw[List.length_set];exact h.1,fun j s hs=> ?_⟩;by_cases hij:i=j
 ·subst hij;by_cases hi:i<T.length
  ·rw[List.getElem?_set_self hi]at hs;obtain rfl:=Option.some.inj hs;exact hr
  ·rw[List.getElem?_eq_none (by rw[List.length_set];omega)]at hs;cases hs
 ·rw[List.getElem?_set_ne hij]at hs;exact h.2 j s hs
theorem Zjw{β σ τ:Type}{o:Option β}{f:β->Option (σ ⊕ τ)}{Q:σ->Prop}(P:β->Prop)(h: ∃r,o=some r/\P r)(k: ∀r,P r-> ∃s,f r=some (.inl s)/\Q s): ∃s,Option.bind o f=some (.inl s)/\Q s:=by obtain⟨r,rfl,hr⟩:=h;exact k r hr
theorem ZoN(F:Zfu)(hF:F.1.length<=4096)(l:List Zfq)(hl:l.length<=8): ∃R,F73 F l=some R:=by
 unfold F73;have w0:IntKind.wrap .i64 ((l.length:Int)+1)=((l.length+1:Nat):Int):=by rw[Zak (by omega) (by omega)];omega
 have hg:Zaq (decide ((0:Int)<=((l.length+1:Nat):Int)/\((l.length+1:Nat):Int)<=((l.length+1:Nat):Int)/\((l.length+1:Nat):Int)<=(Zar:Int)))=some ():=by
  have hm: (Zar:Int)=549755813888:=by simp [Zar]
  rw[decide_eq_true (by rw[hm];omega)];rfl
 have hrep: ∀o:List Zhu,o=List.replicate (l.length+1) (false,0,[],())->inb (l.length:Int) o.length=some l.length/\o[l.length]? =some (false,0,[],()):=by rintro o rfl;exact⟨ZaN (by simp),by rw[List.getElem?_replicate,if_pos (by omega)]⟩
 obtain⟨r1,r2⟩:=hrep _ rfl;rw[w0];erw[hg];simp only[bind_some,Int.toNat_natCast];erw[r1];simp only[bind_some];erw[r2];simp only[bind_some]
 have key: ∀ (o:Option (List Zhu)) (k:List Zhu->Option (Int×List TkT×Bool)),(∃T,o=some T/\Zgy l.length T)->(∀T,Zgy l.length T-> ∃R,k T=some R)-> ∃R,Option.bind o k=some R:=by rintro o k ⟨T,rfl,h⟩ hk;exact hk T h
 refine key _ _ (ZaX l.length _ (fun c (s:List Zhu×Int)=> ∃T,s=(T,(l.length:Int) - 1 - (c:Int))/\Zgy l.length T) ?_ ?_ _ ?_) ?_
 ·rintro c _ hc ⟨T,rfl,hT⟩;left;obtain⟨i,hi⟩: ∃i:Nat,(l.length:Int) - 1 - (c:Int)=(i:Int):=⟨l.length - 1 - c,by omega⟩;have hil:i<l.length:=by omega
  rw[hi];rw[decide_eq_true (show (0:Int)<=(i:Int) by omega)];simp only[cond_true];refine Zjw (fun T' =>Zgy l.length T') ?_ ?_
  ·refine ZaX (l.length - i) _ (fun m (s:List Zhu×Int)=> ∃T,s=(T,((i+m:Nat):Int))/\Zgy l.length T) ?_ ?_ _ ⟨T,rfl,hT⟩
   ·rintro m _ hm ⟨T,rfl,hT⟩;left;have hk:i+m<l.length:=by omega
    have e1:IntKind.wrap .i64 (((i+m:Nat):Int)+1)=((i+m+1:Nat):Int):=by rw[Zak (by omega) (by omega)];omega
    have hTl:=hT.1;have hbk:inb ((i+m+1:Nat):Int) T.length=some (i+m+1):=ZaN (by omega);obtain⟨r,hr,hcr⟩:=hT.get (show i+m+1<=l.length by omega);simp only[Zaw hk,cond_true,e1,hbk,hr,bind_some]
    cases r.1 with
    |false=>exact⟨_,rfl,T,rfl,hT⟩
    |true=>
     simp only[Bool.not_true,cond_false];refine Zjw (fun T' =>Zgy l.length T') ?_ ?_
     ·refine ZaX F.1.length _ (fun p (s:List Zhu×Int)=> ∃T,s=(T,(p:Int))/\Zgy l.length T) ?_ ?_ _ ⟨T,rfl,hT⟩
      ·rintro p _ hp ⟨T,rfl,hT⟩;left;have e2:IntKind.wrap .i64 ((p:Int)+1)=((p+1:Nat):Int):=by rw[Zak (by omega) (by omega)];omega
       have hTl:=hT.1;have hbk:inb ((i+m+1:Nat):Int) T.length=some (i+m+1):=ZaN (by omega);have hbi:inb (i:Int) T.length=some i:=ZaN (by omega);obtain⟨rk,hrk,hck⟩:=hT.get (show i+m+1<=l.length by omega);obtain⟨ri,hri,hci⟩:=hT.get (show i<=l.length by omega);obtain⟨cv,hcv⟩:=ZlU F.1[p] (show i<=i+m by omega) hk (by omega);obtain⟨pr,hpr⟩:=ZlM F F.1[p] hil (by omega);simp only[Zaw hp,cond_true,Zaf hp,bind_some,hcv,hpr,hbk,hbi,hrk,hri,e2]
       cases cv with
       |false=>exact⟨_,rfl,T,rfl,hT⟩
       |true=>
        simp only[Bool.not_true,cond_false];refine Zjw (fun _=>True) ?_ fun b _=> ?_
        ·cases ri.1 with
         |false=>exact⟨_,rfl,trivial⟩
         |true=>
          simp only[cond_true]
          cases decide (ri.2.1<IntKind.wrap .i64 (pr+rk.2.1)) with
          |true=>exact⟨_,rfl,trivial⟩
          |false=>
           simp only[cond_false]
           cases decide (IntKind.wrap .i64 (pr+rk.2.1)=ri.2.1)<;>exact⟨_,rfl,trivial⟩
        ·cases b with
         |true=>exact⟨_,rfl,T,rfl,hT⟩
         |false=>
          simp only[cond_false]
          have hgd:Zaq (decide (List.length [((p:Int),(i:Int),((i+m:Nat):Int),pr,())]+List.length rk.2.2.1<=Zar))=some ():=by rw[decide_eq_true (by simp only[List.length_cons,List.length_nil,Zar];omega)];rfl
          rw[hgd];simp only[bind_some];exact⟨_,rfl,_,rfl,hT.put (by simp only[List.length_append,List.length_cons,List.length_nil];omega)⟩
      ·rintro _ ⟨T,rfl,hT⟩;simp only[Zax,cond_false];exact⟨_,rfl,hT⟩
     ·intro T' hT';exact⟨_,rfl,T',rfl,hT'⟩
   ·rintro _ ⟨T,rfl,hT⟩;rw[show i+(l.length - i)=l.length by omega];simp only[Zax,cond_false];exact⟨_,rfl,hT⟩
  ·intro T' hT';have e1:IntKind.wrap .i64 ((i:Int) - 1)=(l.length:Int) - 1 - ((c+1:Nat):Int):=by rw[Zak (by omega) (by omega)];omega
   rw[e1];exact⟨_,rfl,T',rfl,hT'⟩
 ·rintro _ ⟨T,rfl,hT⟩;rw[decide_eq_false (show¬ (0:Int)<=(l.length:Int) - 1 - (l.length:Int) by omega)];exact⟨_,rfl,hT⟩
 ·refine⟨(List.replicate (l.length+1) ((false,0,[],()):Zhu)).set l.length (true,0,[],()), ?_,Zgy.put ⟨by simp,fun j r hr=> ?_⟩ (by simp)⟩
  ·rw[Zak (by omega) (by omega)];simp only[Int.natCast_zero,Int.sub_zero]
  ·rw[List.getElem?_replicate]at hr;split at hr
   ·obtain rfl:=Option.some.inj hr;simp;omega
   ·cases hr
 ·intro T hT;obtain⟨r,hr,_⟩:=hT.get (Nat.zero_le _);have hb:inb (0:Int) T.length=some 0:=ZaN (i:=0) (by rw[hT.1];omega);simp only[hb,bind_some,hr];exact⟨_,rfl⟩
end Q
namespace Q
open Tr Go
open Option (bind_some)
def ZrZ(x:ZaA):Bool:= !x.1&& (decide (0<=x.2.2.2.2.2.2.1) && (decide (x.2.2.2.2.2.2.1<=x.2.2.2.2.2.2.2.1) &&decide (IntKind.wrap .i64 (x.2.2.2.2.2.2.2.1 - x.2.2.2.2.2.2.1)<=14400)))
def ZoJ(s:Int)(x:ZaA):Int:=bif ZrZ x then IntKind.wrap .i64 (IntKind.wrap .i64 (s+x.2.2.2.2.2.2.2.1) - x.2.2.2.2.2.2.1) else s
def Zp2(L:List ZaA):Int:=L.foldl ZoJ 0
theorem Zht      (L : List ZaA )(hj : L.length <= 1000) : F76 (L, ()) = some (Zp2   L) := by
  unfold F76;refine Zbo     (fun r => r = Zp2   L) ?_ (fun r hr => by rw [hr]);refine ZaX     L.length _ (fun i (s : Int × Int) => s = ((L.take i).foldl ZoJ   0, (i : Int))) ?_ ?_ _ rfl
  · rintro i _ hi rfl
    left
    have e1 : (bif !(L[i]).1 then
 bif decide ((0 : Int) <= (L[i]).2.2.2.2.2.2.1) then
 bif decide ((L[i]).2.2.2.2.2.2.1 <= (L[i]).2.2.2.2.2.2.2.1) then
 some (decide (IntKind.wrap .i64 ((L[i]).2.2.2.2.2.2.2.1 - (L[i]).2.2.2.2.2.2.1) <= (14400 : Int)))
 else some false
 else some false
 else some false) = some (ZrZ   L[i]) := by
      unfold ZrZ
      cases (L[i]).1 <;> cases decide ((0 : Int) <= (L[i]).2.2.2.2.2.2.1) <;> cases decide ((L[i]).2.2.2.2.2.2.1 <= (L[i]).2.2.2.2.2.2.2.1) <;> rfl
    have e2 : (L.take (i + 1)).foldl ZoJ   0 = ZoJ   ((L.take i).foldl ZoJ   0) L[i] := by rw [List.take_succ_eq_append_getElem hi, List.foldl_append]; rfl
    simp only [Zaw    hi, cond_true, Zaf     hi, bind_some, Zai       hi (show _ <= 9223372036854775807 by omega)];rw [e1, e2];unfold ZoJ
    cases ZrZ   L[i] <;> exact ⟨_, rfl, rfl⟩
  · rintro _ rfl
    simp only [Zax    , cond_false];exact ⟨_, rfl, by rw [List.take_length]; rfl⟩
def Zin(x:ZaA):Bool:=x.1&& !Zbj x
def ZaG(L:List ZaA):Nat:=(L.filter Zin).length
noncomputable def ZsP(F:Zfu)(l:List Zfq):Int:=match F73 F l with
 |some r=>bif r.2.2 then 0 else 34
 |none=>0
noncomputable def Zt1(n:Zav)(L:List ZaA):Int:=
 bif !decide ((Zci n L false []).2=0) then(Zci n L false []).2 else
 bif decide (8< (Zci n L false []).1.length) then 33 else ZsP n.2.2.2.2.2.1 (Zci n L false []).1
theorem ZkH(F:Zfu)(s:Int): ∃r,F69 F s=some r:=by
 unfold F69
 cases decide ((0:Int)<F.2.2.2.1)<;>exact⟨_,rfl⟩
theorem Zp6{n:Zav}(h:ZcX n)(hv:F60 n=some true)(hF:n.2.2.2.2.2.1.1.length<=4096)(q:Za6)(L:List ZaA)(hj:L.length<=1000): ∃c,F70 n q (L,())=some c/\c.2.2=Zt1 n L:=by
 unfold F70 Zt1;rw[Zoi h hv L hj];simp only[bind_some];generalize Zci n L false []=R;by_cases h0:R.2=0
 case neg=>rw[decide_eq_false h0];exact⟨_,rfl,rfl⟩
 rw[decide_eq_true h0];simp only[Bool.not_true,cond_false];by_cases h8:8<R.1.length
 ·rw[decide_eq_true (show (8:Int)< (R.1.length:Int) by omega),decide_eq_true h8];exact⟨_,rfl,rfl⟩
 rw[decide_eq_false (show¬ (8:Int)< (R.1.length:Int) by omega),decide_eq_false h8];simp only[cond_false];obtain⟨p,hp⟩:=ZoN n.2.2.2.2.2.1 hF R.1 (by omega);unfold ZsP;rw[hp];simp only[bind_some]
 cases p.2.2 with
 |false=>exact⟨_,rfl,rfl⟩
 |true=>
  simp only[Bool.not_true,cond_false,cond_true];obtain⟨c,hc⟩:=ZkH n.2.2.2.2.2.1 p.1;rw[hc,Zht L hj];simp only[bind_some];by_cases hL:0<L.length
  ·have e:IntKind.wrap .i64 ((L.length:Int) - 1)=((L.length - 1:Nat):Int):=by rw[Zak (by omega) (by omega)];omega
   have i0:idx L (0:Int)=some (lg L 0):=Zeu hL;rw[decide_eq_true (show (0:Int)< (L.length:Int) by omega),e,i0,Zeu (show L.length - 1<L.length by omega)];exact⟨_,rfl,rfl⟩
  ·rw[decide_eq_false (show¬ (0:Int)< (L.length:Int) by omega)];exact⟨_,rfl,rfl⟩
def Zg0(L:List ZaA)(i:Nat):Bool:=(lg L i).1&& (decide (i+1=L.length) || !Zbj (lg L (i+1)))
def ZdC(n:Zav)(q:Za6)(x:ZaA):Int:=bif !(cl (Za0 n x) x.2.2.2.1).2.2.2.2.1 then 26 else bif !Zjn n q x.2.2.2.2.2.1 then 29 else 0
def Ziu(n:Zav)(q:Za6)(L:List ZaA)(i:Nat):Int:=bif decide (i=0) then ZiN n q L else Zbh n (lg L (i - 1)) (lg L i)
def atE(n:Zav)(q:Za6)(L:List ZaA)(i:Nat):Int:=
 bif !decide (ZjY n q (lg L i)=0) then ZjY n q (lg L i) else
 bif !decide (Ziu n q L i=0) then Ziu n q L i else
 bif Zg0 L i then ZdC n q (lg L i) else 0
theorem ZkA{n:Zav}{q:Za6}{x:ZaA}(h:ZjY n q x=0):inR x.2.2.2.2.1 n.1.length=true/\inR x.2.2.2.2.2.1 n.1.length=true/\(x.1=true->Za7 n x=true/\Zis n q x=0)/\(x.1=false->Zgu n q x=0):=by
 unfold ZjY at h;rw[ZaE (by omega),ZaE (by omega),ZaE (by omega)]at h;obtain⟨h1,h2,_,h3⟩:=h;rw[Bool.or_eq_false_iff]at h1;refine⟨by simpa using h1.1,by simpa using h1.2,fun e=> ?_,fun e=> ?_⟩
 ·rw[e]at h2 h3;exact⟨by simpa using h2,h3⟩
 ·rw[e]at h3;exact h3
theorem Zkv{n:Zav}(hS:ZcX n)(hp:n.2.2.2.2.1.length<=4096){q:Za6}(hq:inR q.1 n.1.length=true){L:List ZaA}{i:Nat}(hi:i<L.length)(hj:L.length<=1000):F87 n q (L,()) (i:Int)=some (atE n q L i):=by
 unfold F87 atE;rw[show idx (L,()).1 (i:Int)=some (lg L i) from Zeu hi];simp only[bind_some];rw[Zud hS hp q];simp only[bind_some];by_cases h0:ZjY n q (lg L i)=0
 case neg=>rw[decide_eq_false h0];rfl
 rw[decide_eq_true h0];simp only[Bool.not_true,cond_false];obtain⟨z1,z2,z3,z4⟩:=ZkA h0
 have e1: (bif decide ((i:Int)=(0:Int)) then Option.bind (F90 n q (L,())) fun x2=>some x2
 else Option.bind (idx L (IntKind.wrap .i64 ((i:Int) - (1:Int)))) fun x3=>Option.bind (F91 n x3 (lg L i)) fun x4=>some x4)=some (Ziu n q L i):=by
  unfold Ziu;by_cases hi0:i=0
  ·subst hi0;rw[Zoj hi hq];rfl
  ·have e:IntKind.wrap .i64 ((i:Int) - 1)=((i - 1:Nat):Int):=by rw[Zak (by omega) (by omega)];omega
   rw[decide_eq_false (show¬ (i:Int)=0 by omega),decide_eq_false hi0,e,Zeu (show i - 1<L.length by omega)];simp only[cond_false,bind_some];rw[Zi4 (by have:=hS.links;omega) z1];rfl
 rw[e1];simp only[bind_some];refine Ze4 ?_;have w2:IntKind.wrap .i64 ((i:Int)+1)=((i+1:Nat):Int):=by rw[Zak (by omega) (by omega)];omega
 rw[w2]
 have e2: (bif (lg L i).1 then bif decide (((i+1:Nat):Int)=(↑(List.length L):Int)) then some true
 else Option.bind (idx L ((i+1:Nat):Int)) fun x6=>some !x6.2.2.2.2.2.2.2.2.1
 else some false)=some (Zg0 L i):=by
  unfold Zg0;rw[show decide (((i+1:Nat):Int)=(L.length:Int))=decide (i+1=L.length) from decide_eq_decide.2 (by omega)];by_cases h1:i+1=L.length
  ·rw[decide_eq_true h1]
   cases (lg L i).1<;>rfl
  ·rw[decide_eq_false h1,Zeu (show i+1<L.length by omega)]
   cases (lg L i).1<;>rfl
 rw[e2];simp only[bind_some]
 cases htl:Zg0 L i with
 |false=>rfl
 |true=>
  have hr: (lg L i).1=true:=by unfold Zg0 at htl;rw[Bool.and_eq_true]at htl;exact htl.1
  obtain⟨x1,_,_,x4⟩:=Zks (z3 hr).1;simp only[cond_true];rw[x1];simp only[bind_some];rw[x4];simp only[bind_some];rw[ZkZ q z2];unfold ZdC
  cases (cl (Za0 n (lg L i)) (lg L i).2.2.2.1).2.2.2.2.1<;>cases Zjn n q (lg L i).2.2.2.2.2.1<;>rfl
noncomputable def Ztd(n:Zav)(q:Za6)(L:List ZaA):Int:=
 bif !decide ((lg L (L.length - 1)).2.2.2.2.2.1=q.2.1) then 24 else
 bif q.2.2.2.1&&decide (q.2.2.1< (lg L (L.length - 1)).2.2.2.2.2.2.2.1) then 10 else
 bif decide (q.2.2.2.2.1< (ZaG L:Int)) then 33 else
 bif decide (q.2.2.2.2.2.1<Zp2 L) then 32 else Zt1 n L
theorem Zul{n:Zav}(hS:ZcX n)(hv:F60 n=some true)(hF:n.2.2.2.2.2.1.1.length<=4096)(q:Za6){L:List ZaA}(h0:0<L.length)(hj:L.length<=1000):F88 n q (L,())=some (Ztd n q L):=by
 unfold F88 Ztd;have e:IntKind.wrap .i64 ((L.length:Int) - 1)=((L.length - 1:Nat):Int):=by rw[Zak (by omega) (by omega)];omega
 simp only[e,Zeu (show L.length - 1<L.length by omega),bind_some];refine Ze4 (ZeU ?_);refine Zbo (fun r=>r=(ZaG L:Int)) ?_ ?_
 ·refine ZaX L.length _ (fun i (s:Int×Int)=>s=((ZaG (L.take i):Int),(i:Int))) ?_ ?_ _ rfl
  ·rintro i _ hi rfl;left
   have hb:ZaG (L.take i)<=L.length:=by unfold ZaG;exact Nat.le_trans (List.length_filter_le _ _) (by rw[List.length_take];omega)
   have e1: (bif (L[i]).1 then some !(L[i]).2.2.2.2.2.2.2.2.1 else some false)=some (Zin L[i]):=by
    unfold Zin Zbj
    cases (L[i]).1<;>rfl
   have e2:ZaG (L.take (i+1))=ZaG (L.take i)+(if Zin L[i] then 1 else 0):=by
    unfold ZaG;rw[List.take_succ_eq_append_getElem hi,List.filter_append,List.length_append]
    cases hr:Zin L[i]<;>simp [hr]
   have w3:IntKind.wrap .i64 ((ZaG (L.take i):Int)+1)=((ZaG (L.take i)+1:Nat):Int):=by rw[Zak (by omega) (by omega)];omega
   simp only[Zaw hi,cond_true,Zaf hi,bind_some,Zai hi (show _<=9223372036854775807 by omega),w3];rw[e1,e2]
   cases Zin L[i]<;>exact⟨_,rfl,rfl⟩
  ·rintro _ rfl;simp only[Zax,cond_false];exact⟨_,rfl,by rw[List.take_length]⟩
 ·rintro _ rfl;refine Ze4 ?_;rw[Zht L hj];simp only[bind_some];refine Ze4 ?_;obtain⟨c,h1,h2⟩:=Zp6 hS hv hF q L hj;rw[h1];exact congrArg some h2
noncomputable def Zbz(n:Zav)(q:Za6)(L:List ZaA):Int×Int:=
 bif !decide (Zkf n q=0) then(0,Zkf n q) else
 bif decide (L.length=0) then(bif !decide (q.1=q.2.1) then(0,24) else(0,0)) else
 match ZaB L.length (atE n q L) with
 |some i=>((i:Int),atE n q L i)
 |none=>bif !decide (Ztd n q L=0) then(((L.length - 1:Nat):Int),Ztd n q L) else(0,0)
open Classical in
theorem ZoI{n:Zav}(hf:Fit n)(hF:n.2.2.2.2.2.1.1.length<=4096)(q:Za6)(L:List ZaA)(hj:L.length<=1000):F81 n q (L,())=some (Zbz n q L):=by
 unfold F81 Zbz;rw[ZnF hf q];simp only[bind_some];by_cases h0:Zkf n q=0
 case neg=>rw[decide_eq_false h0];rfl
 obtain⟨hW,hq⟩:=ZhF.1 h0;have hS:=hW.sound;have hv:F60 n=some true:=by rw[Zfz hf,decide_eq_true hW]
 have hq1:inR q.1 n.1.length=true:=by unfold qB at hq;rw[Bool.and_eq_true]at hq;exact hq.1
 rw[decide_eq_true h0];simp only[Bool.not_true,cond_false];by_cases hL:L.length=0
 ·rw[decide_eq_true (show (L.length:Int)=0 by omega),decide_eq_true hL]
  cases decide (q.1=q.2.1)<;>rfl
 rw[decide_eq_false (show¬ (L.length:Int)=0 by omega),decide_eq_false hL];simp only[cond_false];rw[Zbb (n:=L.length) (fun i (s:Int)=>s=(i:Int)) (atE n q L) (fun i=> .inr ((i:Int),atE n q L i)) (.inl ()) ?_ ?_ ?_ (0:Int) rfl]
 ·unfold pick
  cases ZaB L.length (atE n q L) with
  |some i=>rfl
  |none=>
   simp only[bind_some];show (Option.bind (F88 n q (L,())) _)=_;rw[Zul hS hv hF q (by omega) hj];have e:IntKind.wrap .i64 ((L.length:Int) - 1)=((L.length - 1:Nat):Int):=by rw[Zak (by omega) (by omega)];omega
   rw[e];simp only[bind_some]
   cases decide (Ztd n q L=0)<;>rfl
 ·rintro i _ hi rfl hc;refine⟨((i+1:Nat):Int), ?_,rfl⟩;simp only[Zaw hi,cond_true,Zai hi (show _<=9223372036854775807 by omega)];rw[Zkv hS hf.paths hq1 hi hj];simp only[bind_some];rw[hc];rfl
 ·rintro i _ hi rfl hc;simp only[Zaw hi,cond_true];rw[Zkv hS hf.paths hq1 hi hj];simp only[bind_some];rw[decide_eq_false hc];rfl
 ·rintro _ rfl;simp only[Zax,cond_false]
open Classical in
theorem ZiH(n:Zav)(q:Za6)(L:List ZaA): (Zbz n q L).2=0↔Zkf n q=0/\((L.length=0/\q.1=q.2.1)\/(L.length≠0/\(∀i,i<L.length->atE n q L i=0)/\Ztd n q L=0)):=by
 unfold Zbz;by_cases h0:Zkf n q=0
 case neg=>rw[decide_eq_false h0];simp [h0]
 rw[decide_eq_true h0];simp only[Bool.not_true,cond_false];by_cases hL:L.length=0
 ·rw[decide_eq_true hL];by_cases he:q.1=q.2.1
  ·rw[decide_eq_true he];simp [h0,hL,he]
  ·rw[decide_eq_false he];simp [h0,hL,he]
 ·rw[decide_eq_false hL];simp only[cond_false]
  cases hb:ZaB L.length (atE n q L) with
  |some i=>
   have hi:=Zbw hb;simp only;constructor
   ·intro e;exact absurd e hi.2
   ·rintro ⟨_,⟨e,_⟩ | ⟨_,e,_⟩⟩
    ·exact absurd e hL
    ·exact e i hi.1
  |none=>
   have ha:=Zaz.1 hb;simp only;by_cases he:Ztd n q L=0
   ·rw[decide_eq_true he];simp [h0,hL,he];exact ha
   ·rw[decide_eq_false he];simp [h0,hL,he]
theorem ZgW{n:Zav}(hf:Fit n)(hF:n.2.2.2.2.2.1.1.length<=4096)(q:Za6)(L:List ZaA)(hj:L.length<=1000):F83 n q (L,())=some (decide ((Zbz n q L).2=0)):=by unfold F83;rw[ZoI hf hF q L hj];rfl
end Q
namespace Q
open Tr Go
open Option (bind_some)
def Zan(n:Zav)(i:Nat):List ZbK:=(rn n (i:Int)).2.2.2.2.2.2.2.1
def Zac(n:Zav)(i c:Nat):ZbK:=cl (Zan n i) (c:Int)
def ZbW(n:Zav)(i:Nat):Bool:=(rn n (i:Int)).2.2.2.2.2.2.1
def Zgv(s t a b:Int):ZaA:=(false,0,0,0,s,t,a,b,false,())
def Zcc(n:Zav)(i b c:Nat)(st:Bool):ZaA:=(true,(i:Int),(b:Int),(c:Int),(Zac n i b).1,(Zac n i c).1,(Zac n i b).2.2.1,(Zac n i c).2.1,st,())
def isLink(n:Zav)(i c j d:Nat)(st:Bool):Prop:=((i:Int),(c:Int),(j:Int),(d:Int),st,())∈n.2.2.2.1
structure Zdi (n:Zav):Prop where
 sound:ZcX n
 change: ∀s:Int,0<=s->s< (n.1.length:Int)->0<=(Zb9 n s).2.2.2.1/\(Zb9 n s).2.2.2.1<=3600
 path: ∀p∈n.2.2.2.2.1,(0<=p.1/\p.1< (n.1.length:Int))/\(0<=p.2.1/\p.2.1< (n.1.length:Int))/\p.1≠p.2.1/\1<=p.2.2.1/\p.2.2.1<=14400
 link: ∀x∈n.2.2.2.1, ∃ (i c j d:Nat) (st:Bool),x=((i:Int),(c:Int),(j:Int),(d:Int),st,())/\i<n.2.2.1.length/\j<n.2.2.1.length/\i≠j/\c< (Zan n i).length/\d< (Zan n j).length/\
  (Zac n i c).1=(Zac n j d).1/\(st=true->c+1=(Zan n i).length/\d=0)
theorem Zbi{n:Zav}{i:Nat}(hi:i<n.2.2.1.length):Zan n i=(n.2.2.1[i]).2.2.2.2.2.2.2.1:=by unfold Zan rn;rw[Int.toNat_natCast,Zaj hi]
theorem Zcd{n:Zav}{i c:Nat}(hc:c< (Zan n i).length):Zac n i c=(Zan n i)[c]:=by unfold Zac cl;rw[Int.toNat_natCast,Zaj hc]
theorem ZoA{n:Zav}{i:Nat}(h:Zcf n i=0): (cl (rn n (lk n i).1).2.2.2.2.2.2.2.1 (lk n i).2.1).1=(cl (rn n (lk n i).2.2.1).2.2.2.2.2.2.2.1 (lk n i).2.2.2.1).1/\
  ((lk n i).2.2.2.2.1=true->(lk n i).2.1+1=((rn n (lk n i).1).2.2.2.2.2.2.2.1.length:Int)/\(lk n i).2.2.2.1=0):=by
 unfold Zcf at h;simp only at h;by_cases b1:ZmK n (lk n i)=true
 ·rw[if_pos b1]at h;omega
 rw[if_neg b1]at h;by_cases b2:ZoV n (lk n i)=true
 ·rw[if_pos b2]at h;omega
 rw[if_neg b2]at h;split at h
 ·omega
 split at h
 ·omega
 split at h
 ·omega
 next h1 h2 h3=>
  refine⟨Decidable.not_not.1 h1,fun hs=>⟨?_, ?_⟩⟩
  ·exact Decidable.not_not.1 fun e=>h2 ⟨hs,e⟩
  ·exact Decidable.not_not.1 fun e=>h3 ⟨hs,e⟩
theorem Whole.ok{n:Zav}(h:Whole n):Zdi n:=by
 refine⟨h.sound,fun s h0 h1=> ?_,fun p hp=> ?_,fun x hx=> ?_⟩
 ·have s0:=h.s;unfold Zg4 at s0;split at s0
  ·exact absurd s0 (by decide)
  obtain⟨j,rfl⟩: ∃j:Nat,s=(j:Int):=⟨s.toNat,by omega⟩;have hj:j<n.1.length:=by omega
  have hz:=Zhj s0 j hj;unfold Zf9 at hz;have:=(Zct.1 hz).2.2;unfold Zb9;rw[Int.toNat_natCast];generalize hg: (n.1[j]?).getD Q.s0=y at*;have e: (n.1[j]?).getD ([],0,false,0,())=y:=by rw[<-hg];rfl
  rw[e]at this;omega
 ·obtain⟨j,hj,rfl⟩:=List.getElem_of_mem hp;obtain⟨h1,h2,_⟩:=Zcu (Zaz.1 h.q j hj);rw[Zaj hj]at h1 h2;unfold Zc8 at h1;unfold Zc1 at h2;simp only[Bool.or_eq_false_iff,Bool.not_eq_false',decide_eq_false_iff_not,decide_eq_true_eq]at h1 h2;omega
 ·obtain⟨j,hj,rfl⟩:=List.getElem_of_mem hx;have hz:=Zaz.1 h.g j hj;obtain⟨h1,h2,_⟩:=ZdR hz;obtain⟨h3,h4⟩:=ZoA hz;have e:lk n j=n.2.2.2.1[j]:=by unfold lk;rw[Zaj hj]
  rw[e]at h1 h2 h3 h4;generalize n.2.2.2.1[j]=x at*;unfold ZmK at h1;unfold ZoV at h2;unfold inR at h1 h2;simp only[Bool.or_eq_false_iff,Bool.not_eq_false',decide_eq_false_iff_not,Bool.and_eq_true,decide_eq_true_eq]at h1 h2;obtain⟨x1,x2,x3,x4,x5,x6⟩:=x;simp only at h1 h2 h3 h4;obtain⟨i,rfl⟩: ∃i:Nat,x1=(i:Int):=⟨x1.toNat,by omega⟩;obtain⟨c,rfl⟩: ∃i:Nat,x2=(i:Int):=⟨x2.toNat,by omega⟩;obtain⟨k,rfl⟩: ∃i:Nat,x3=(i:Int):=⟨x3.toNat,by omega⟩;obtain⟨d,rfl⟩: ∃i:Nat,x4=(i:Int):=⟨x4.toNat,by omega⟩;refine⟨i,c,k,d,x5,rfl,by omega,by omega,by omega, ?_, ?_,h3,fun hs=> ?_⟩
  ·unfold Zan;omega
  ·unfold Zan;omega
  ·obtain⟨a,b⟩:=h4 hs;unfold Zan;omega
theorem Zdi.isLink{n:Zav}(h:Zdi n){i c j d:Nat}{st:Bool}(hl:isLink n i c j d st):i<n.2.2.1.length/\j<n.2.2.1.length/\i≠j/\c< (Zan n i).length/\d< (Zan n j).length/\(Zac n i c).1=(Zac n j d).1/\(st=true->c+1=(Zan n i).length/\d=0):=by obtain⟨i',c',j',d',st',e,h1⟩:=h.link _ hl;simp only[Prod.mk.injEq,Int.natCast_inj]at e;obtain⟨rfl,rfl,rfl,rfl,rfl,_⟩:=e;exact h1
theorem Zdi.stop{n:Zav}(h:Zdi n){i c:Nat}(hi:i<n.2.2.1.length)(hc:c< (Zan n i).length):0<=(Zac n i c).1/\(Zac n i c).1< (n.1.length:Int):=by rw[Zcd hc];refine h.sound.call _ (List.getElem_mem hi) _ ?_;simp only[Zbi hi];exact List.getElem_mem _
theorem Zdi.time{n:Zav}(h:Zdi n){i c:Nat}(hi:i<n.2.2.1.length)(hc:c< (Zan n i).length):0<=(Zac n i c).2.1/\(Zac n i c).2.1<=(Zac n i c).2.2.1/\(Zac n i c).2.2.1<=3155932800:=by have ht:=h.sound.time _ (List.getElem_mem hi);rw[Zcd hc];simp only[Zbi hi]at hc ⊢;have:=ht c hc;omega
inductive ZqP where
 |rdy (k:Nat) (s r:Int)
 |brd (k:Nat) (i c:Nat) (st:Bool)
 |lnk (k:Nat) (i c:Nat)
 |on (k:Nat) (i c:Nat)
 |rid (k:Nat) (s t:Int)
 |arr (k:Nat) (s t:Int)
inductive Der (n:Zav) (s0 t0 w:Int):ZqP->List ZaA->Prop
 |init:Der n s0 t0 w (.rdy 0 s0 (t0+w)) []
 |here:Der n s0 t0 w (.arr 0 s0 t0) []
 |rdyW {p:Zb8} :p∈n.2.2.2.2.1->p.1=s0->t0+p.2.2.1<=3155932800->Der n s0 t0 w (.rdy 0 p.2.1 (t0+p.2.2.1)) [Zgv s0 p.2.1 t0 (t0+p.2.2.1)]
 |arrW {p:Zb8} :p∈n.2.2.2.2.1->p.1=s0->t0+p.2.2.1<=3155932800->Der n s0 t0 w (.arr 0 p.2.1 (t0+p.2.2.1)) [Zgv s0 p.2.1 t0 (t0+p.2.2.1)]
 |board {k:Nat}{s r:Int}{js:List ZaA}{i c:Nat} :Der n s0 t0 w (.rdy k s r) js->i<n.2.2.1.length->c< (Zan n i).length->ZbW n i=false->(Zac n i c).1=s->(Zac n i c).2.2.2.1=true->r<=(Zac n i c).2.2.1->Der n s0 t0 w (.brd (k+1) i c false) js
 |on {k i b c:Nat}{st:Bool}{js:List ZaA} :Der n s0 t0 w (.brd k i b st) js->b<c->c< (Zan n i).length->Der n s0 t0 w (.on k i c) (js++[Zcc n i b c st])
 |stay {k i c j d:Nat}{js:List ZaA} :Der n s0 t0 w (.on k i c) js->isLink n i c j d true->(Zac n i c).2.1<=(Zac n j d).2.2.1->ZbW n j=false->Der n s0 t0 w (.brd k j d true) js
 |link {k i c j d:Nat}{js:List ZaA} :Der n s0 t0 w (.on k i c) js->(Zac n i c).2.2.2.2.1=true->isLink n i c j d false->(Zac n i c).2.1<=(Zac n j d).2.2.1->(Zac n j d).2.2.2.1=true->Der n s0 t0 w (.lnk (k+1) j d) js
 |linked {k j d:Nat}{js:List ZaA} :Der n s0 t0 w (.lnk k j d) js->ZbW n j=false->Der n s0 t0 w (.brd k j d false) js
 |ride {k i c:Nat}{js:List ZaA} :Der n s0 t0 w (.on k i c) js->(Zac n i c).2.2.2.2.1=true->Der n s0 t0 w (.rid k (Zac n i c).1 (Zac n i c).2.1) js
 |change {k:Nat}{s t:Int}{js:List ZaA} :Der n s0 t0 w (.rid k s t) js->Der n s0 t0 w (.rdy k s (t+(Zb9 n s).2.2.2.1)) js
 |rdyV {k:Nat}{s t:Int}{js:List ZaA}{p:Zb8} :Der n s0 t0 w (.rid k s t) js->p∈n.2.2.2.2.1->p.1=s->t+p.2.2.1<=3155932800->Der n s0 t0 w (.rdy k p.2.1 (t+p.2.2.1)) (js++[Zgv s p.2.1 t (t+p.2.2.1)])
 |arrR {k:Nat}{s t:Int}{js:List ZaA} :Der n s0 t0 w (.rid k s t) js->Der n s0 t0 w (.arr k s t) js
 |arrV {k:Nat}{s t:Int}{js:List ZaA}{p:Zb8} :Der n s0 t0 w (.rid k s t) js->p∈n.2.2.2.2.1->p.1=s->t+p.2.2.1<=3155932800->Der n s0 t0 w (.arr k p.2.1 (t+p.2.2.1)) (js++[Zgv s p.2.1 t (t+p.2.2.1)])
def ZqP.ok(n:Zav):ZqP->Prop
 | .rdy _ s r=>(0<=s/\s< (n.1.length:Int))/\0<=r/\r<=3155932800+3600
 | .brd k i c _=>0<k/\i<n.2.2.1.length/\c< (Zan n i).length/\ZbW n i=false
 | .lnk k i c=>0<k/\i<n.2.2.1.length/\c< (Zan n i).length
 | .on k i c=>0<k/\i<n.2.2.1.length/\c< (Zan n i).length/\ZbW n i=false
 | .rid k s t=>0<k/\(0<=s/\s< (n.1.length:Int))/\0<=t/\t<=3155932800
 | .arr _ s t=>(0<=s/\s< (n.1.length:Int))/\0<=t/\t<=3155932800
theorem Der.ok{n:Zav}(h:Zdi n){s0 t0 w:Int}(hs:0<=s0/\s0< (n.1.length:Int))(ht:0<=t0/\t0<=3155932800)(hw:0<=w/\w<=3600){f:ZqP}{js:List ZaA}(d:Der n s0 t0 w f js):f.ok n:=by
 induction d with
 |init=>exact⟨hs,by omega,by omega⟩
 |here=>exact⟨hs,ht⟩
 |rdyW hp _ hm=>have:=h.path _ hp;exact⟨this.2.1,by omega,by omega⟩
 |arrW hp _ hm=>have:=h.path _ hp;exact⟨this.2.1,by omega,by omega⟩
 |board _ hi hc hx _ _ _ _=>exact⟨Nat.succ_pos _,hi,hc,hx⟩
 |on _ _ hc ih=>exact⟨ih.1,ih.2.1,hc,ih.2.2.2⟩
 |stay _ hl _ hx ih=>have:=h.isLink hl;exact⟨ih.1,this.2.1,this.2.2.2.2.1,hx⟩
 |link _ _ hl _ _ _=>have:=h.isLink hl;exact⟨Nat.succ_pos _,this.2.1,this.2.2.2.2.1⟩
 |linked _ hx ih=>exact⟨ih.1,ih.2.1,ih.2.2,hx⟩
 |ride _ _ ih=>
  have:=h.time ih.2.1 ih.2.2.1
  exact⟨ih.1,h.stop ih.2.1 ih.2.2.1,by omega,by omega⟩
 |change _ ih=>have:=h.change _ ih.2.1.1 ih.2.1.2;exact⟨ih.2.1,by have:=ih.2.2;omega,by have:=ih.2.2;omega⟩
 |rdyV _ hp _ hm ih=>have:=h.path _ hp;exact⟨this.2.1,by have:=ih.2.2;omega,by omega⟩
 |arrR _ ih=>exact ih.2
 |arrV _ hp _ hm ih=>have:=h.path _ hp;exact⟨this.2.1,by have:=ih.2.2;omega,by omega⟩
abbrev Zo1:=ZaA×Int×Unit
inductive Ch (lb:List Zo1):Int->List ZaA->Prop
 |nil:Ch lb (-1) []
 |cons {l:Nat}{x:ZaA}{p:Int}{js:List ZaA} :lb[l]? =some (x,p,())->p< (l:Int)->Ch lb p js->Ch lb (l:Int) (js++[x])
theorem Ch.lt{lb:List Zo1}{l:Int}{js:List ZaA}(h:Ch lb l js): -1<=l/\l< (lb.length:Int):=by
 cases h with
 |nil=>omega
 |cons h _ _=>
  have:=(List.getElem?_eq_some_iff.1 h).1;omega
theorem Ch.app{lb:List Zo1}{l:Int}{js:List ZaA}(h:Ch lb l js)(m:List Zo1):Ch (lb++m) l js:=by
 induction h with
 |nil=>exact .nil
 |cons h1 h2 _ ih=>
  have hl:=(List.getElem?_eq_some_iff.1 h1).1;exact .cons (by rw[List.getElem?_append_left hl];exact h1) h2 ih
theorem Ch.new{lb:List Zo1}{p:Int}{js:List ZaA}(h:Ch lb p js)(x:ZaA):Ch (lb++[(x,p,())]) (lb.length:Int) (js++[x]):=
 .cons (by simp) h.lt.2 (h.app _)
end Q
namespace Q
open Tr Go
open Option (bind_some)
def Zcm(q:Za6):Za6:=(q.1,q.2.1,q.2.2.1,q.2.2.2.1,q.2.2.2.2.1,q.2.2.2.2.2.1,false,false,0,q.2.2.2.2.2.2.2.2.2)
theorem ZdQ{n:Zav}{q:Za6}{x:ZaA} :Zis n q x=0↔((cl (Za0 n x) x.2.2.1).1=x.2.2.2.2.1/\(cl (Za0 n x) x.2.2.2.1).1=x.2.2.2.2.2.1)/\((cl (Za0 n x) x.2.2.1).2.2.1=x.2.2.2.2.2.2.1/\(cl (Za0 n x) x.2.2.2.1).2.1=x.2.2.2.2.2.2.2.1)/\ZrB n q (rn n x.2.1)=true/\(Zbj x=true\/(cl (Za0 n x) x.2.2.1).2.2.2.1=true/\Zjn n q x.2.2.2.2.1=true):=by
 unfold Zis;rw[ZaE (by omega),ZaE (by omega),ZaE (by omega),ZaE (by omega),ZaE (by omega),ZaE (by omega),ZaE (by omega),ZaE (by omega)];unfold ZrB Tr.useB Zr0;rw[Bool.or_eq_false_iff,Bool.or_eq_false_iff];simp only[Bool.not_eq_false',decide_eq_true_eq];generalize (rn n x.2.1).2.2.2.2.2.2.1=b1;generalize (rn n x.2.1).2.2.2.2.2.1=b2;generalize q.2.2.2.2.2.2.1=b3;generalize (ZrG n (rn n x.2.1)).2.2.1=b4;generalize q.2.2.2.2.2.2.2.1=b5;generalize (decide (q.2.2.2.2.2.2.2.2.1=(0:Int)) ||decide (ZnV .i64 (Int.fdiv q.2.2.2.2.2.2.2.2.1 (2 ^ min (Int.toNat (ZrG n (rn n x.2.1)).2.1) 64)) 1=1))=b6;generalize Zbj x=b7
 generalize (cl (Za0 n x) x.2.2.1).2.2.2.1=b8;generalize Zjn n q x.2.2.2.2.1=b9;generalize ((cl (Za0 n x) x.2.2.1).1=x.2.2.2.2.1/\(cl (Za0 n x) x.2.2.2.1).1=x.2.2.2.2.2.1)=p1;generalize ((cl (Za0 n x) x.2.2.1).2.2.1=x.2.2.2.2.2.2.1/\(cl (Za0 n x) x.2.2.2.1).2.1=x.2.2.2.2.2.2.2.1)=p2
 have key: ((b1=false/\(b3&& !b2)=false/\(b5&& !b4)=false/\(!b6)=false/\(!b7&& !b8)=false/\(!b7&& !b9)=false/\(0:Int)=0)↔((!b1&& ((b2|| !b3) && ((b4|| !b5) &&b6)))=true/\(b7=true\/b8=true/\b9=true))):=by
  cases b1<;>cases b2<;>cases b3<;>cases b4<;>cases b5<;>cases b6<;>cases b7<;>cases b8<;>cases b9<;>simp
 exact and_congr_right fun _=>and_congr_right fun _=>by
  first
  |exact key
  | (simp only[Bool.not_eq_false']at key ⊢;exact key)
theorem ZrT(n:Zav)(q:Za6):ZbL n q c0=c0:=by
 unfold ZbL
 split<;>rfl
theorem Zjm(n:Zav)(q:Za6)(l:List ZbK)(a:Int):cl (l.map (ZbL n q)) a=ZbL n q (cl l a):=by
 unfold cl;rw[List.getElem?_map]
 cases l[a.toNat]? with
 |none=>exact(ZrT n q).symm
 |some c=>rfl
theorem Zjs(n:Zav)(q:Za6)(c:ZbK):ZbL n q c=(c.1,c.2.1,c.2.2.1,c.2.2.2.1&&Zjn n q c.1,c.2.2.2.2.1&&Zjn n q c.1,()):=by
 unfold ZbL
 cases h:Zjn n q c.1 with
 |true=>simp
 |false=>simp
theorem ZfJ(n:Zav)(q:Za6)(x:ZaA):Za0 (Zbd n q) x=(Za0 n x).map (ZbL n q):=Zng n q x.2.1
theorem Zlf(n:Zav)(q:Za6)(x:ZaA):Za7 (Zbd n q) x=Za7 n x:=by have hl: (Zbd n q).2.2.1.length=n.2.2.1.length:=List.length_map ..;unfold Za7;rw[ZfJ,List.length_map,hl]
theorem ZsA{n:Zav}{q:Za6}{x:ZaA}(hx:Za7 n x=true):rn (Zbd n q) x.2.1=Zca n q (rn n x.2.1):=by
 unfold Za7 at hx;rw[Bool.and_eq_true]at hx;have h:=hx.1;unfold inR at h;simp only[Bool.and_eq_true,decide_eq_true_eq]at h;have hl:x.2.1.toNat<n.2.2.1.length:=by omega
 unfold rn;show ((n.2.2.1.map (Zca n q))[x.2.1.toNat]?).getD u0=_;rw[List.getElem?_map,List.getElem?_eq_getElem hl];rfl
theorem Zgm(n:Zav)(q:Za6)(s:Int):Zjn n (Zcm q) s=true:=by unfold Zjn Zcm;simp
theorem ZmO(n:Zav)(q:Za6)(r:Zim):ZrB n (Zcm q) r= !r.2.2.2.2.2.2.1:=by unfold ZrB Tr.useB Zcm;simp
theorem Zon{n:Zav}{q:Za6}{x:ZaA}(hx:Za7 n x=true):Zis (Zbd n q) (Zcm q) x=0↔Zis n q x=0:=by rw[ZdQ,ZdQ,ZfJ,Zjm,Zjm,Zjs,Zjs,ZsA hx,ZmO,Zgm];have hc: (Zca n q (rn n x.2.1)).2.2.2.2.2.2.1= !ZrB n q (rn n x.2.1):=rfl;rw[hc,Bool.not_not];refine and_congr_right fun h1=>and_congr_right fun _=>and_congr_right fun _=> ?_;simp only[Bool.and_eq_true];rw[h1.1];simp
theorem Zn4{α:Type}(p f:α->Bool)(l:List α): (l.filter p).any f=l.any fun x=>f x&&p x:=by
 induction l with
 |nil=>rfl
 |cons x l ih=>
  cases hp:p x with
  |true=>rw[List.filter_cons_of_pos hp,List.any_cons,List.any_cons,ih,hp,Bool.and_true]
  |false=>rw[List.filter_cons_of_neg (by simp [hp]),List.any_cons,ih,hp,Bool.and_false,Bool.false_or]
theorem ZeV{n:Zav}{q:Za6}{x:ZaA} :Zgu n q x=0↔(n.2.2.2.2.1.any fun p=>Zdk x p&&Zgw q p)=true:=by
 unfold Zgu
 cases (n.2.2.2.2.1.any fun p=>Zdk x p&&Zgw q p) with
 |true=>simp
 |false=>cases n.2.2.2.2.1.any (Zdk x)<;>simp
theorem ZoF{n:Zav}{q:Za6}{x:ZaA} :Zgu (Zbd n q) (Zcm q) x=0↔Zgu n q x=0:=by
 rw[ZeV,ZeV]
 have hfr: ∀p:Zb8,Zgw (Zcm q) p=true:=by intro p;unfold Zgw Zcm;simp
 show ((Zd2 n q).any fun p=>Zdk x p&&Zgw (Zcm q) p)=true↔_;simp only[hfr,Bool.and_true];unfold Zd2 Zgw
 cases q.2.2.2.2.2.2.1 with
 |true=>simp only[if_true];rw[Zn4];simp
 |false=>simp
theorem ZqY{n:Zav}{q:Za6}{x:ZaA} :ZjY (Zbd n q) (Zcm q) x=0↔ZjY n q x=0:=by
 have hz: ∀ (n:Zav) (q:Za6),ZjY n q x=0↔(!inR x.2.2.2.2.1 n.1.length|| !inR x.2.2.2.2.2.1 n.1.length)=false/\(bif x.1 then !Za7 n x else !decide (x.2.1=0) || (!decide (x.2.2.1=0) || (!decide (x.2.2.2.1=0) ||Zbj x)))=false/\(!decide (0<=x.2.2.2.2.2.2.1/\x.2.2.2.2.2.2.1<=3155932800) || !decide (0<=x.2.2.2.2.2.2.2.1/\x.2.2.2.2.2.2.2.1<=3155932800))=false/\(bif x.1 then Zis n q x else Zgu n q x)=0:=by intro n q;unfold ZjY;rw[ZaE (by omega),ZaE (by omega),ZaE (by omega)]
 rw[hz,hz,Zlf];refine and_congr_right fun _=>and_congr_right fun h2=>and_congr_right fun _=> ?_
 cases hx:x.1 with
 |true=>
  rw[hx]at h2
  exact Zon (by simpa using h2)
 |false=>exact ZoF
theorem ZsO{n:Zav}{q:Za6}{L:List ZaA}{i:Nat} :atE (Zbd n q) (Zcm q) L i=0↔atE n q L i=0:=by
 have hz: ∀ (n:Zav) (q:Za6),atE n q L i=0↔ZjY n q (lg L i)=0/\Ziu n q L i=0/\(Zg0 L i=true->ZdC n q (lg L i)=0):=by
  intro n q;unfold atE;by_cases h1:ZjY n q (lg L i)=0
  ·by_cases h2:Ziu n q L i=0
   ·rw[decide_eq_true h1,decide_eq_true h2]
    cases Zg0 L i<;>simp [h1,h2]
   ·rw[decide_eq_true h1,decide_eq_false h2];simp [h2]
  ·rw[decide_eq_false h1];simp [h1]
 have ha: ∀ (n:Zav) (q:Za6) (x:ZaA),ZdC n q x=0↔(cl (Za0 n x) x.2.2.2.1).2.2.2.2.1=true/\Zjn n q x.2.2.2.2.2.1=true:=by intro n q x;unfold ZdC;rw[ZaE (by omega),ZaE (by omega)];simp
 rw[hz,hz];refine(and_congr ZqY Iff.rfl).trans (and_congr_right fun h1=>and_congr Iff.rfl ?_);refine imp_congr_right fun ht=> ?_
 have hr: (lg L i).1=true:=by unfold Zg0 at ht;rw[Bool.and_eq_true]at ht;exact ht.1
 obtain⟨_,_,h3,_⟩:=ZkA h1;have h4:=(ZdQ.1 (h3 hr).2).1.2;rw[ha,ha,ZfJ,Zjm,Zjs,Zgm];simp only[Bool.and_eq_true];rw[h4];simp
end Q
namespace Q
open Tr Go
open Option (bind_some)
variable {n:Zav}{q:Za6}
theorem ZqE{n:Zav}{q:Za6}{x:ZaA} :ZjY n q x=0↔(inR x.2.2.2.2.1 n.1.length=true/\inR x.2.2.2.2.2.1 n.1.length=true)/\(bif x.1 then !Za7 n x else !decide (x.2.1=0) || (!decide (x.2.2.1=0) || (!decide (x.2.2.2.1=0) ||Zbj x)))=false/\
  ((0<=x.2.2.2.2.2.2.1/\x.2.2.2.2.2.2.1<=3155932800)/\(0<=x.2.2.2.2.2.2.2.1/\x.2.2.2.2.2.2.2.1<=3155932800))/\(bif x.1 then Zis n q x else Zgu n q x)=0:=by
 unfold ZjY;rw[ZaE (by omega),ZaE (by omega),ZaE (by omega)];simp only[Bool.or_eq_false_iff,Bool.not_eq_false',decide_eq_true_eq]
theorem ZqZ{a m:Nat} :inR (a:Int) m=true↔a<m:=by unfold inR;rw[Bool.and_eq_true,decide_eq_true_eq,decide_eq_true_eq];omega
theorem Zeg{a:Int}{m:Nat} :inR a m=true↔0<=a/\a< (m:Int):=by unfold inR;rw[Bool.and_eq_true,decide_eq_true_eq,decide_eq_true_eq]
theorem ZmX(n:Zav)(q:Za6)(i:Nat):ZrB n (Zcm q) (rn n (i:Int))=true↔ZbW n i=false:=by
 rw[ZmO];unfold ZbW
 cases (rn n (i:Int)).2.2.2.2.2.2.1<;>simp
def ZsV(n:Zav)(i b c:Nat)(st:Bool):Prop:=i<n.2.2.1.length/\b<c/\c< (Zan n i).length/\ZbW n i=false/\(st=true\/(Zac n i b).2.2.2.1=true)
theorem ZnD(h:Zdi n){x:ZaA} : (ZjY n (Zcm q) x=0/\x.1=true)↔ ∃i b c st,x=Zcc n i b c st/\ZsV n i b c st:=by
 rw[ZqE];constructor
 ·rintro ⟨⟨h1,h2,h3,h4⟩,hr⟩;rw[hr]at h2 h4;simp only[cond_true,Bool.not_eq_false']at h2 h4;have he:=h2;unfold Za7 Za0 at he;simp only[Bool.and_eq_true,decide_eq_true_eq,Zeg]at he;obtain⟨⟨e1,e2⟩,e3,e4,e5⟩:=he;obtain⟨⟨r1,r2⟩,⟨r3,r4⟩,r5,r6⟩:=ZdQ.1 h4;obtain⟨xr,xi,xb,xc,xf,xt,xd,xa,xs,u⟩:=x;simp only at hr h1 h2 h3 h4 e1 e2 e3 e4 e5 r1 r2 r3 r4 r5 r6;obtain⟨i,rfl⟩: ∃i:Nat,xi=(i:Int):=⟨xi.toNat,by omega⟩;obtain⟨b,rfl⟩: ∃i:Nat,xb=(i:Int):=⟨xb.toNat,by omega⟩;obtain⟨c,rfl⟩: ∃i:Nat,xc=(i:Int):=⟨xc.toNat,by omega⟩;subst hr;have hl:c< (Zan n i).length:=by unfold Zan;omega
  refine⟨i,b,c,xs, ?_,by omega,by omega,hl,(ZmX n q i).1 r5, ?_⟩
  ·have a1: (Zac n i b).1=xf:=r1;have a2: (Zac n i c).1=xt:=r2;have a3: (Zac n i b).2.2.1=xd:=r3;have a4: (Zac n i c).2.1=xa:=r4;unfold Zcc;rw[a1,a2,a3,a4]
  ·rcases r6 with r6|r6
   ·exact .inl r6
   ·exact .inr r6.1
 ·rintro ⟨i,b,c,st,rfl,h1,h2,h3,h4,h5⟩;have hb:b< (Zan n i).length:=by omega
  have s1:=h.stop h1 hb;have s2:=h.stop h1 h3;have t1:=h.time h1 hb;have t2:=h.time h1 h3
  have hex:Za7 n (Zcc n i b c st)=true:=by unfold Za7 Za0;simp only[Bool.and_eq_true,decide_eq_true_eq];have:c< (rn n (i:Int)).2.2.2.2.2.2.2.1.length:=h3;exact⟨ZqZ.2 h1,by show (0:Int)<=(b:Int);omega,by show (b:Int)< (c:Int);omega,by show (c:Int)<_;show (c:Int)< ((rn n (i:Int)).2.2.2.2.2.2.2.1.length:Int);omega⟩
  refine⟨⟨⟨Zeg.2 s1,Zeg.2 s2⟩, ?_,⟨⟨by show (0:Int)<=(Zac n i b).2.2.1;omega,t1.2.2⟩,⟨t2.1,by show (Zac n i c).2.1<=_;omega⟩⟩, ?_⟩,rfl⟩
  ·show (!Za7 n (Zcc n i b c st))=false;rw[hex];rfl
  ·refine ZdQ.2 ⟨⟨rfl,rfl⟩,⟨rfl,rfl⟩,(ZmX n q i).2 h4, ?_⟩;rcases h5 with h5|h5
   ·exact .inl h5
   ·exact .inr ⟨h5,Zgm ..⟩
theorem Zm6(h:Zdi n){x:ZaA} : (ZjY n (Zcm q) x=0/\x.1=false)↔ ∃p∈n.2.2.2.2.1, ∃a,x=Zgv p.1 p.2.1 a (a+p.2.2.1)/\0<=a/\a+p.2.2.1<=3155932800:=by
 rw[ZqE];constructor
 ·rintro ⟨⟨h1,h2,h3,h4⟩,hr⟩;rw[hr]at h2 h4;simp only[cond_false,Bool.or_eq_false_iff,Bool.not_eq_false',decide_eq_true_eq]at h2 h4;have h5:=ZeV.1 h4;obtain⟨p,hp,hm⟩:=List.any_eq_true.1 h5;rw[Bool.and_eq_true]at hm;have hm1:=hm.1;unfold Zdk at hm1;simp only[Bool.and_eq_true,decide_eq_true_eq]at hm1;obtain⟨xr,xi,xb,xc,xf,xt,xd,xa,xs,u⟩:=x;simp only at hr h1 h2 h3 hm1;have hpp:=h.path p hp;rw[Zak (by omega) (by omega)]at hm1;obtain⟨rfl,rfl,rfl,rfl⟩:=h2;subst hr;refine⟨p,hp,xd, ?_,by omega,by omega⟩;unfold Zgv;rw[<-hm1.1, <-hm1.2.1,show xa=xd+p.2.2.1 by omega]
 ·rintro ⟨p,hp,a,rfl,h1,h2⟩;have hpp:=h.path p hp;refine⟨⟨⟨Zeg.2 hpp.1,Zeg.2 hpp.2.1⟩,rfl,⟨⟨h1,by show a<=_;omega⟩,⟨by show 0<=a+p.2.2.1;omega,h2⟩⟩, ?_⟩,rfl⟩;show Zgu n (Zcm q) _=0;rw[ZeV];refine List.any_eq_true.2 ⟨p,hp, ?_⟩;unfold Zdk Zgw Zcm Zgv;simp only[Bool.and_eq_true,decide_eq_true_eq,Bool.not_false,Bool.or_true];exact⟨⟨trivial,trivial,by rw[Zak (by omega) (by omega)];omega⟩,trivial⟩
theorem Zly(h:Zdi n){i b c j d e:Nat}{st st' sx:Bool} :Zfs n (Zcc n i b c st) (Zcc n j d e st') sx=true↔isLink n i c j d sx:=by
 unfold Zfs;rw[List.any_eq_true];constructor
 ·rintro ⟨x,hx,hm⟩;obtain⟨i',c',j',d',s',rfl,_⟩:=h.link x hx;unfold Zlh Zcc at hm;simp only[Bool.and_eq_true,decide_eq_true_eq,beq_iff_eq]at hm;obtain⟨h1,h2,h3,h4,h5⟩:=hm;unfold isLink;rw[<-h1, <-h2, <-h3, <-h4, <-h5];exact hx
 ·intro hl;refine⟨_,hl, ?_⟩;unfold Zlh Zcc;simp
theorem Zu4(n:Zav)(s t a b s' t' a' b' :Int):Zbh n (Zgv s t a b) (Zgv s' t' a' b')≠0:=by unfold Zbh Zgv;intro h;rw[ZaE (by omega)]at h;obtain⟨_,h⟩:=h;simp at h
theorem ZuQ(n:Zav)(s t a b:Int)(j d e:Nat):Zbh n (Zgv s t a b) (Zcc n j d e true)≠0:=by unfold Zbh Zgv Zcc;intro h;rw[ZaE (by omega)]at h;obtain⟨_,h⟩:=h;simp [Zbj]at h
theorem ZuS(h:Zdi n){i b c j d e:Nat}{st:Bool} :Zbh n (Zcc n i b c st) (Zcc n j d e true)=0↔(Zac n i c).1=(Zac n j d).1/\isLink n i c j d true/\(Zac n i c).2.1<=(Zac n j d).2.2.1:=by
 unfold Zbh;have e1:Zfs n (Zcc n i b c st) (Zcc n j d e true) true=true↔isLink n i c j d true:=Zly h;generalize Zfs n (Zcc n i b c st) (Zcc n j d e true) true=B at*;unfold Zcc Zbj;simp only[Bool.not_true,Bool.false_and,cond_false,cond_true,Bool.false_or];rw[ZaE (by omega),ZaE (by omega)];rw[<-e1]
 cases B with
 |false=>simp
 |true=>
  simp only[Bool.not_true,Bool.not_eq_false',decide_eq_true_eq,true_and];refine and_congr_right fun _=> ?_;by_cases hlt: (Zac n j d).2.2.1< (Zac n i c).2.1
  ·rw[decide_eq_true hlt];simp;omega
  ·rw[decide_eq_false hlt];simp;omega
theorem Zux{i b c:Nat}{st:Bool}{s t a z:Int} :Zbh n (Zcc n i b c st) (Zgv s t a z)=0↔(Zac n i c).1=s/\a=(Zac n i c).2.1:=by
 unfold Zbh Zcc Zgv Zbj;simp only[Bool.not_true,Bool.false_and,cond_false,cond_true,Bool.not_false];rw[ZaE (by omega)];simp only[Bool.not_eq_false',decide_eq_true_eq];refine and_congr_right fun _=> ?_;by_cases hlt:a=(Zac n i c).2.1
 ·rw[decide_eq_true hlt];simp [hlt]
 ·rw[decide_eq_false hlt];simp [hlt]
theorem ZuV{j d e:Nat}{s t a z:Int} :Zbh n (Zgv s t a z) (Zcc n j d e false)=0↔t=(Zac n j d).1/\z<=(Zac n j d).2.2.1:=by
 unfold Zbh Zcc Zgv Zbj;simp only[Bool.not_true,Bool.and_false,cond_false,cond_true,Bool.not_false];rw[ZaE (by omega)];simp only[Bool.not_eq_false',decide_eq_true_eq];refine and_congr_right fun _=> ?_;by_cases hlt: (Zac n j d).2.2.1<z
 ·rw[decide_eq_true hlt];simp;omega
 ·rw[decide_eq_false hlt];simp;omega
theorem ZuK(h:Zdi n){i b c j d e:Nat}{st:Bool}(hi:i<n.2.2.1.length)(hc:c< (Zan n i).length):Zbh n (Zcc n i b c st) (Zcc n j d e false)=0↔(Zac n i c).1=(Zac n j d).1/\
  ((Zac n i c).2.1+(Zb9 n (Zac n i c).1).2.2.2.1<=(Zac n j d).2.2.1\/isLink n i c j d false/\(Zac n i c).2.1<=(Zac n j d).2.2.1):=by
 have ht:=h.time hi hc;have hs:=h.stop hi hc;have hcg:=h.change _ hs.1 hs.2;have w1:IntKind.wrap .i64 ((Zac n i c).2.1+(Zb9 n (Zac n i c).1).2.2.2.1)=(Zac n i c).2.1+(Zb9 n (Zac n i c).1).2.2.2.1:=Zak (by omega) (by omega);unfold Zbh;have e1:Zfs n (Zcc n i b c st) (Zcc n j d e false) false=true↔isLink n i c j d false:=Zly h;generalize Zfs n (Zcc n i b c st) (Zcc n j d e false) false=B at*;unfold Zcc Zbj;simp only[Bool.not_true,Bool.false_and,cond_false,w1];rw[ZaE (by omega)];simp only[Bool.not_eq_false',decide_eq_true_eq];refine and_congr_right fun _=> ?_;rw[<-e1];by_cases h1: (Zac n i c).2.1+(Zb9 n (Zac n i c).1).2.2.2.1<=(Zac n j d).2.2.1
 ·rw[decide_eq_true h1];simp [h1]
 ·rw[decide_eq_false h1];by_cases h2: (Zac n i c).2.1<=(Zac n j d).2.2.1
  ·rw[decide_eq_true h2]
   cases B with
   |true=>simp [h1,h2]
   |false=>simp [h1]
  ·rw[decide_eq_false h2];simp [h1,h2]
theorem Zi8{i b c:Nat}{st:Bool} :ZdC n (Zcm q) (Zcc n i b c st)=0↔(Zac n i c).2.2.2.2.1=true:=by unfold ZdC;rw[ZaE (by omega),ZaE (by omega),Zgm];show (!(Zac n i c).2.2.2.2.1)=false/\_↔_;simp
theorem Zm1{n:Zav}{q:Za6}{L:List ZaA}{i:Nat} :atE n q L i=0↔ZjY n q (lg L i)=0/\Ziu n q L i=0/\(Zg0 L i=true->ZdC n q (lg L i)=0):=by
 unfold atE;by_cases h1:ZjY n q (lg L i)=0
 ·by_cases h2:Ziu n q L i=0
  ·rw[decide_eq_true h1,decide_eq_true h2]
   cases Zg0 L i<;>simp [h1,h2]
  ·rw[decide_eq_true h1,decide_eq_false h2];simp [h2]
 ·rw[decide_eq_false h1];simp [h1]
theorem ZpA{n:Zav}{q:Za6}{L:List ZaA} :ZiN n q L=0↔(lg L 0).2.2.2.2.1=q.1/\Zbj (lg L 0)=false/\(!(lg L 0).1&& (decide (1<L.length) && ((lg L 1).1&& !decide ((lg L 1).2.2.2.2.2.2.1=(lg L 0).2.2.2.2.2.2.2.1))))=false/\
  (!(lg L 0).1&& (decide (L.length=1) && (bif q.2.2.2.1 then !decide ((lg L 0).2.2.2.2.2.2.2.1=q.2.2.1) else !decide ((lg L 0).2.2.2.2.2.2.1=q.2.2.1))))=false/\
  (!q.2.2.2.1&&decide ((lg L 0).2.2.2.2.2.2.1<q.2.2.1))=false/\(q.2.2.2.2.2.2.2.2.2.1&& ((lg L 0).1&&decide ((lg L 0).2.2.2.2.2.2.1<IntKind.wrap .i64 (q.2.2.1+(Zb9 n q.1).2.2.2.1))))=false:=by
 unfold ZiN;rw[ZaE (by omega),ZaE (by omega),ZaE (by omega),ZaE (by omega),ZaE (by omega)];simp only[Bool.not_eq_false',decide_eq_true_eq];refine and_congr_right fun _=>and_congr_right fun _=>and_congr_right fun _=>and_congr_right fun _=>and_congr_right fun _=> ?_
 cases (q.2.2.2.2.2.2.2.2.2.1&& ((lg L 0).1&&decide ((lg L 0).2.2.2.2.2.2.1<IntKind.wrap .i64 (q.2.2.1+(Zb9 n q.1).2.2.2.1))))<;>simp
end Q
namespace Q
open Tr Go
open Option (bind_some)
variable {n:Zav}{q:Za6}
theorem Zb3(a b:List ZaA):ZaG (a++b)=ZaG a+ZaG b:=by simp [ZaG]
theorem Zei(s t a b:Int):ZaG [Zgv s t a b]=0:=rfl
theorem Zb0(n:Zav)(i b c:Nat)(st:Bool):ZaG [Zcc n i b c st]=if st then 0 else 1:=by cases st<;>rfl
theorem Zvs{L:List ZaA}{i:Nat}(h:i<L.length):lg L i=L[i]:=by unfold lg;rw[Zaj h]
theorem ZfC{L:List ZaA}{i:Nat}(h:i<L.length):ZaG (L.take (i+1))=ZaG (L.take i)+ZaG [lg L i]:=by rw[List.take_succ_eq_append_getElem h,Zb3,Zvs h]
def Zpi(n:Zav)(s0 t0 w:Int)(L:List ZaA)(i:Nat):Prop:=
 (∃r b c st,lg L i=Zcc n r b c st/\ZsV n r b c st/\ ∃js,Der n s0 t0 w (.on (ZaG (L.take (i+1))) r c) js)\/
 (∃p∈n.2.2.2.2.1, ∃a,lg L i=Zgv p.1 p.2.1 a (a+p.2.2.1)/\(∃r,r<=a+p.2.2.1/\ ∃js,Der n s0 t0 w (.rdy (ZaG (L.take (i+1))) p.2.1 r) js)/\(0<i\/L.length=1-> ∃js,Der n s0 t0 w (.arr (ZaG (L.take (i+1))) p.2.1 (a+p.2.2.1)) js))
theorem ZpS{n:Zav}{q:Za6}{L:List ZaA}{i:Nat} :Ziu n q L (i+1)=Zbh n (lg L i) (lg L (i+1)):=by unfold Ziu;rw[decide_eq_false (Nat.succ_ne_zero i)];rfl
theorem ZnS(h:Zdi n)(hq:0<=q.1/\q.1< (n.1.length:Int))(ht:0<=q.2.2.1/\q.2.2.1<=3155932800)(hb:q.2.2.2.1=false){L:List ZaA}(h0:0<L.length)(ha:atE n (Zcm q) L 0=0):
  Zpi n q.1 q.2.2.1 (bif q.2.2.2.2.2.2.2.2.2.1 then(Zb9 n q.1).2.2.2.1 else 0) L 0:=by
 obtain⟨h1,h2,h3⟩:=Zm1.1 ha;have hcg:=h.change _ hq.1 hq.2;have h2' :ZiN n (Zcm q) L=0:=h2;obtain⟨f1,f2,f3,f4,f5,f6⟩:=ZpA.1 h2';have g1: (Zcm q).1=q.1:=rfl;have g2: (Zcm q).2.2.1=q.2.2.1:=rfl;have g3: (Zcm q).2.2.2.1=q.2.2.2.1:=rfl;have g4: (Zcm q).2.2.2.2.2.2.2.2.2.1=q.2.2.2.2.2.2.2.2.2.1:=rfl;rw[g1]at f1;rw[g3,hb,g2]at f4 f5;rw[g4,g2,g1]at f6
 cases hr: (lg L 0).1 with
 |true=>
  obtain⟨i,b,c,st,e,hk⟩:=(ZnD h).1 ⟨h1,hr⟩;have hk' :=hk;obtain⟨k1,k2,k3,k4,k5⟩:=hk';rw[e]at f1 f2 f5 f6;have hst:st=false:=f2;subst hst;have hbd: (Zac n i b).2.2.2.1=true:=k5.resolve_left (by simp);have hstop: (Zac n i b).1=q.1:=f1
  have hlate:q.2.2.1+(bif q.2.2.2.2.2.2.2.2.2.1 then(Zb9 n q.1).2.2.2.1 else 0)<=(Zac n i b).2.2.1:=by
   simp only[Bool.not_false,Bool.true_and,decide_eq_false_iff_not]at f5;have f5' : ¬ (Zac n i b).2.2.1<q.2.2.1:=f5
   cases hc:q.2.2.2.2.2.2.2.2.2.1 with
   |false=>simp only[cond_false];omega
   |true=>
    rw[hc,Zak (by omega) (by omega)]at f6;simp only[Bool.true_and]at f6;have f6' :decide ((Zac n i b).2.2.1<q.2.2.1+(Zb9 n q.1).2.2.2.1)=false:=f6;rw[decide_eq_false_iff_not]at f6';simp only[cond_true];omega
  refine .inl ⟨i,b,c,false,e,hk, ?_⟩
  have d:=Der.on (.board (.init (n:=n) (s0:=q.1) (t0:=q.2.2.1) (w:=(bif q.2.2.2.2.2.2.2.2.2.1 then(Zb9 n q.1).2.2.2.1 else 0))) k1 (by omega) k4 hstop hbd hlate) k2 k3
  have:ZaG (L.take (0+1))=1:=by rw[ZfC h0,e,Zb0];rfl
  rw[this];exact⟨_,d⟩
 |false=>
  obtain⟨p,hp,a,e,a0,a1⟩:=(Zm6 h).1 ⟨h1,hr⟩;have hpp:=h.path p hp;rw[e]at f1 f4 f5;have hs:p.1=q.1:=f1;have hK:ZaG (L.take (0+1))=0:=by rw[ZfC h0,e,Zei];rfl
  have f5' : ¬a<q.2.2.1:=by simp only[Bool.not_false,Bool.true_and,decide_eq_false_iff_not]at f5;exact f5
  refine .inr ⟨p,hp,a,e,⟨q.2.2.1+p.2.2.1,by omega, ?_⟩,fun hl=> ?_⟩
  ·rw[hK];exact⟨_, .rdyW hp hs (by omega)⟩
  ·have hl1:L.length=1:=hl.resolve_left (by omega);rw[decide_eq_true hl1]at f4;have f4' : (!decide (a=q.2.2.1))=false:=f4;simp only[Bool.not_eq_false',decide_eq_true_eq]at f4';subst f4';exact⟨_,by rw[hK];exact .arrW hp hs a1⟩
theorem Zoq(h:Zdi n){s0 t0 w:Int}{L:List ZaA}{i:Nat}(hi:i+1<L.length)(ha:atE n (Zcm q) L i=0)(hb:atE n (Zcm q) L (i+1)=0)(hr:Zpi n s0 t0 w L i):Zpi n s0 t0 w L (i+1):=by
 obtain⟨_,_,a3⟩:=Zm1.1 ha;obtain⟨b1,b2,_⟩:=Zm1.1 hb;rw[ZpS]at b2;have hK:=ZfC hi
 have htl: ∀ {r b c:Nat}{st:Bool},lg L i=Zcc n r b c st->Zbj (lg L (i+1))=false->(Zac n r c).2.2.2.2.1=true:=by intro r b c st e hs;refine Zi8.1 (?_ :ZdC n (Zcm q) (Zcc n r b c st)=0);rw[<-e];refine a3 ?_;unfold Zg0;rw[e,hs];simp [Zcc]
 cases hy: (lg L (i+1)).1 with
 |true=>
  obtain⟨j,d,e,st',ey,hk⟩:=(ZnD h).1 ⟨b1,hy⟩;have hk' :=hk;obtain⟨k1,k2,k3,k4,k5⟩:=hk';rw[ey]at b2 hK;refine .inl ⟨j,d,e,st',ey,hk, ?_⟩
  cases st' with
  |true=>
   rw[Zb0]at hK;rcases hr with ⟨r,b,c,st,ex,hx,js,dx⟩ | ⟨p,hp,a,ex,_⟩
   ·rw[ex]at b2;obtain⟨c1,c2,c3⟩:=(ZuS h).1 b2;rw[hK];exact⟨_, .on (.stay dx c2 c3 k4) k2 k3⟩
   ·rw[ex]at b2
    exact absurd b2 (ZuQ _ _ _ _ _ _ _ _)
  |false=>
   rw[Zb0]at hK;have hbd: (Zac n j d).2.2.2.1=true:=k5.resolve_left (by simp);have hns:Zbj (lg L (i+1))=false:=by rw[ey];rfl
   rcases hr with ⟨r,b,c,st,ex,hx,js,dx⟩ | ⟨p,hp,a,ex,⟨r,hr1,js,dr⟩,_⟩
   ·have hal:=htl ex hns;rw[ex]at b2;obtain⟨c1,c2⟩:=(ZuK h hx.1 hx.2.2.1).1 b2;rw[hK];rcases c2 with c2| ⟨c2,c3⟩
    ·exact⟨_, .on (.board (.change (.ride dx hal)) k1 (by omega) k4 c1.symm hbd c2) k2 k3⟩
    ·exact⟨_, .on (.linked (.link dx hal c2 c3 hbd) k4) k2 k3⟩
   ·rw[ex]at b2;obtain⟨c1,c2⟩:=ZuV.1 b2;rw[hK]
    exact⟨_, .on (.board dr k1 (by omega) k4 c1.symm hbd (by omega)) k2 k3⟩
 |false=>
  obtain⟨p,hp,a,ey,a0,a1⟩:=(Zm6 h).1 ⟨b1,hy⟩;rw[ey]at b2 hK;rw[Zei]at hK;have hns:Zbj (lg L (i+1))=false:=by rw[ey];rfl
  rcases hr with ⟨r,b,c,st,ex,hx,js,dx⟩ | ⟨p',hp',a',ex,_⟩
  ·have hal:=htl ex hns;rw[ex]at b2;obtain⟨c1,c2⟩:=Zux.1 b2;have dr:=Der.ride dx hal;refine .inr ⟨p,hp,a,ey,⟨a+p.2.2.1,Int.le_refl _, ?_⟩,fun _=> ?_⟩
   ·rw[hK,c2];exact⟨_, .rdyV dr hp c1.symm (by omega)⟩
   ·rw[hK,c2];exact⟨_, .arrV dr hp c1.symm (by omega)⟩
  ·rw[ex]at b2;exact absurd b2 (Zu4 _ _ _ _ _ _ _ _ _)
theorem ZuM(h:Zdi n)(hq:0<=q.1/\q.1< (n.1.length:Int))(ht:0<=q.2.2.1/\q.2.2.1<=3155932800)(hb:q.2.2.2.1=false){L:List ZaA}(h0:0<L.length)(ha: ∀i,i<L.length->atE n (Zcm q) L i=0):
  ∃js,Der n q.1 q.2.2.1 (bif q.2.2.2.2.2.2.2.2.2.1 then(Zb9 n q.1).2.2.2.1 else 0) (.arr (ZaG L) (lg L (L.length - 1)).2.2.2.2.2.1 (lg L (L.length - 1)).2.2.2.2.2.2.2.1) js:=by
 have key: ∀i,i<L.length->Zpi n q.1 q.2.2.1 (bif q.2.2.2.2.2.2.2.2.2.1 then(Zb9 n q.1).2.2.2.1 else 0) L i:=by
  intro i
  induction i with
  |zero=>exact fun hi=>ZnS h hq ht hb h0 (ha 0 hi)
  |succ i ih=>exact fun hi=>Zoq h hi (ha i (by omega)) (ha (i+1) hi) (ih (by omega))
 have hr:=key (L.length - 1) (by omega);have hlast:=(Zm1.1 (ha (L.length - 1) (by omega))).2.2;unfold Zpi at hr;rw[show L.length - 1+1=L.length by omega,List.take_length]at hr;rcases hr with ⟨r,b,c,st,e,hk,js,d⟩ | ⟨p,hp,a,e,_,hd⟩
 ·have hal: (Zac n r c).2.2.2.2.1=true:=by refine Zi8.1 (?_ :ZdC n (Zcm q) (Zcc n r b c st)=0);rw[<-e];refine hlast ?_;unfold Zg0;rw[e,decide_eq_true (show L.length - 1+1=L.length by omega)];rfl
  rw[e];exact⟨js, .arrR (.ride d hal)⟩
 ·rw[e];refine hd ?_;by_cases h1:L.length=1
  ·exact .inr h1
  ·exact .inl (by omega)
end Q
namespace Q
open Tr Go
open Option (bind_some)
abbrev Zc9:=Int×Int×Int×Int×Int×Int×Unit
def Zuq(a b:Zc9):Int:=
 if a.2.2.2.2.1<b.2.2.2.2.1 then -1 else if b.2.2.2.2.1<a.2.2.2.2.1 then 1 else
 if a.2.2.2.2.2.1<b.2.2.2.2.2.1 then -1 else if b.2.2.2.2.2.1<a.2.2.2.2.2.1 then 1 else
 if a.1<b.1 then -1 else if b.1<a.1 then 1 else
 if a.2.1<b.2.1 then -1 else if b.2.1<a.2.1 then 1 else 0
def ltC(a b:Zc9):Prop:=a.2.2.2.2.1<b.2.2.2.2.1\/(a.2.2.2.2.1=b.2.2.2.2.1/\(a.2.2.2.2.2.1<b.2.2.2.2.2.1\/(a.2.2.2.2.2.1=b.2.2.2.2.2.1/\(a.1<b.1\/(a.1=b.1/\a.2.1<b.2.1)))))
theorem Zuk(a b:Zc9):Zuq a b<0↔ltC a b:=by
 unfold Zuq ltC
 (repeat' split)<;>omega
theorem ZrA(a b:Zc9):0<Zuq a b↔ltC b a:=by
 unfold Zuq ltC
 (repeat' split)<;>omega
theorem Ztt{α:Type}(p:Prop)[Decidable p](x y:α): (bif decide p then x else y)=if p then x else y:=by
 by_cases h:p<;>simp [h]
theorem Zmf(a b:Zc9):F5 a b=some (Zuq a b):=by
 unfold F5 Zuq;have w1:IntKind.wrap .i64 (0+1:Int)=1:=by decide
 have w2:IntKind.wrap .i64 (1+1:Int)=2:=by decide
 have w3:IntKind.wrap .i64 (2+1:Int)=3:=by decide
 have w4:IntKind.wrap .i64 (3+1:Int)=4:=by decide
 simp only[Ztt];rw[Zbs];simp only[show (0:Int)<4 by decide,if_true,idx,show (0:Int)<=0 by decide,Int.toNat_zero,List.getElem?_cons_zero,bind_some,Int.toNat_one,List.getElem?_cons_succ,w1];by_cases h1:a.2.2.2.2.1<b.2.2.2.2.1
 ·simp [h1]
 by_cases h2:b.2.2.2.2.1<a.2.2.2.2.1
 ·simp [h1,h2]
 simp only[h1,h2,if_false,bind_some,Sum.elim_inl];rw[Zbs];simp only[show (1:Int)<4 by decide,if_true,show (0:Int)<=1 by decide,List.getElem?_cons_zero,bind_some,Int.toNat_one,List.getElem?_cons_succ,w2];by_cases h3:a.2.2.2.2.2.1<b.2.2.2.2.2.1
 ·simp [h3]
 by_cases h4:b.2.2.2.2.2.1<a.2.2.2.2.2.1
 ·simp [h3,h4]
 simp only[h3,h4,if_false,bind_some,Sum.elim_inl];rw[Zbs];simp only[show (2:Int)<4 by decide,if_true,show (0:Int)<=2 by decide,List.getElem?_cons_zero,bind_some,show Int.toNat 2=2 by decide,List.getElem?_cons_succ,w3];by_cases h5:a.1<b.1
 ·simp [h5]
 by_cases h6:b.1<a.1
 ·simp [h5,h6]
 simp only[h5,h6,if_false,bind_some,Sum.elim_inl];rw[Zbs];simp only[show (3:Int)<4 by decide,if_true,show (0:Int)<=3 by decide,List.getElem?_cons_zero,bind_some,show Int.toNat 3=3 by decide,List.getElem?_cons_succ,w4];by_cases h7:a.2.1<b.2.1
 ·simp [h7]
 by_cases h8:b.2.1<a.2.1
 ·simp [h7,h8]
 simp only[h7,h8,if_false,bind_some,Sum.elim_inl];rw[Zbs];simp
def Ziq(i:Nat)(l:List ZbK)(c:Nat):Zc9:=((i:Int),(c:Int),((l[c]?).getD c0).1,((l[c+1]?).getD c0).1,((l[c]?).getD c0).2.2.1,((l[c+1]?).getD c0).2.1,())
def ZmG(i:Nat)(l:List ZbK)(m:Nat):List Zc9:=(List.range m).map (Ziq i l)
def Zo5(i:Nat)(x:Zim):List Zc9:=if x.2.2.2.2.2.2.1=true then [] else ZmG i x.2.2.2.2.2.2.2.1 (x.2.2.2.2.2.2.2.1.length - 1)
def Zir(n:Zav)(k:Nat):List Zc9:=(List.range k).flatMap fun i=>Zo5 i ((n.2.2.1[i]?).getD u0)
theorem Zre(i:Nat)(l:List ZbK)(m:Nat):ZmG i l (m+1)=ZmG i l m++[Ziq i l m]:=by unfold ZmG;rw[List.range_succ,List.map_append];rfl
theorem ZhM(n:Zav)(k:Nat):Zir n (k+1)=Zir n k++Zo5 k ((n.2.2.1[k]?).getD u0):=by unfold Zir;rw[List.range_succ,List.flatMap_append];simp
theorem ZjO{i:Nat}{x:Zim}{c:Zc9}(h:c∈Zo5 i x):x.2.2.2.2.2.2.1=false/\ ∃k,k+1<x.2.2.2.2.2.2.2.1.length/\c=Ziq i x.2.2.2.2.2.2.2.1 k:=by
 unfold Zo5 at h;split at h
 ·simp at h
 ·next hc=>
  unfold ZmG at h;obtain⟨k,hk,rfl⟩:=List.mem_map.1 h;rw[List.mem_range]at hk;exact⟨by simpa using hc,k,by omega,rfl⟩
theorem ZrH{i:Nat}{x:Zim}(h:x.2.2.2.2.2.2.2.1.length<=32): (Zo5 i x).length<=31:=by
 unfold Zo5;split
 ·simp
 ·simp [ZmG];omega
theorem ZnQ{α:Type}{l:List α}{i:Nat}(h:i<l.length)(d:α): (l[i]?).getD d∈l:=by rw[List.getElem?_eq_getElem h];exact List.getElem_mem h
theorem Znu{n:Zav}(h:ZcX n): ∀k,k<=n.2.2.1.length->(Zir n k).length<=31*k
 |0,_=>by simp [Zir]
 |k+1,hk=>by rw[ZhM,List.length_append];have:=Znu h k (by omega);have:=ZrH (i:=k) (h.many _ (ZnQ (show k<n.2.2.1.length by omega) u0)).2;omega
theorem ZtL{i:Nat}{x:Zim}(h:ZtN x.2.2.2.2.2.2.2.1): (Zo5 i x).Pairwise ltC:=by
 unfold Zo5;split
 ·exact .nil
 ·unfold ZmG;rw[List.pairwise_map];refine List.Pairwise.imp_of_mem ?_ List.pairwise_lt_range;intro a b ha hb hab;rw[List.mem_range]at ha hb;generalize hl:x.2.2.2.2.2.2.2.1=l at*
  have step: ∀k (hk:k+1<l.length),((l[k]?).getD c0).2.2.1<=((l[k+1]?).getD c0).2.1/\((l[k+1]?).getD c0).2.1<=((l[k+1]?).getD c0).2.2.1:=by intro k hk;have t:=h (k+1) hk;have t2:=t.2.2.2 (by omega);rw[Zaj hk,Zaj (show k<l.length by omega)];have e:l[k+1 - 1]'(by omega)=l[k]:=rfl;rw[e]at t2;exact⟨t2.2,t.2.1⟩
  have mono: ∀d k,k+d+1<l.length->((l[k]?).getD c0).2.2.1<=((l[k+d]?).getD c0).2.2.1/\((l[k+1]?).getD c0).2.1<=((l[k+d+1]?).getD c0).2.1:=by
   intro d
   induction d with
   |zero=>exact fun k hk=>⟨Int.le_refl _,Int.le_refl _⟩
   |succ d ih=>
    intro k hk;have h1:=ih k (by omega);have h2:=step (k+d) (by omega);have h3:=step (k+d+1) (by omega);refine⟨?_, ?_⟩
    ·show _<=((l[k+d+1]?).getD c0).2.2.1;omega
    ·show _<=((l[k+d+1+1]?).getD c0).2.1;omega
  have m:=mono (b - a) a (by omega);rw[show a+(b - a)=b by omega]at m;show ((l[a]?).getD c0).2.2.1< ((l[b]?).getD c0).2.2.1\/(((l[a]?).getD c0).2.2.1=((l[b]?).getD c0).2.2.1/\(((l[a+1]?).getD c0).2.1< ((l[b+1]?).getD c0).2.1\/(((l[a+1]?).getD c0).2.1=((l[b+1]?).getD c0).2.1/\((i:Int)< (i:Int)\/((i:Int)=(i:Int)/\(a:Int)< (b:Int))))));obtain⟨m1,m2⟩:=m;generalize ((l[a]?).getD c0).2.2.1=w1 at*;generalize ((l[b]?).getD c0).2.2.1=w2 at*;generalize ((l[a+1]?).getD c0).2.1=w3 at*;generalize ((l[b+1]?).getD c0).2.1=w4 at*;omega
theorem Zp5{n:Zav}(h:ZcX n): ∀k,k<=n.2.2.1.length->(Zir n k).Pairwise fun a b=>ltC a b\/ltC b a:=by
 intro k hk;unfold Zir;rw[List.pairwise_flatMap];refine⟨fun i hi=> ?_, ?_⟩
 ·rw[List.mem_range]at hi;exact(ZtL (h.time _ (ZnQ (show i<n.2.2.1.length by omega) u0))).imp fun h=> .inl h
 ·refine List.Pairwise.imp ?_ List.pairwise_lt_range;intro a b hab x hx y hy;obtain⟨_,p,_,rfl⟩:=ZjO hx;obtain⟨_,q,_,rfl⟩:=ZjO hy;have key: ∀u v:Zc9,u.1<v.1->ltC u v\/ltC v u:=fun u v h=>by unfold ltC;omega
  exact key _ _ (show ((a:Nat):Int)< ((b:Nat):Int) by omega)
theorem ZtX(a:Zc9): ¬ltC a a:=by unfold ltC;omega
theorem ZuT{a b c:Zc9}(h1:ltC a b)(h2:ltC b c):ltC a c:=by unfold ltC at*;omega
theorem ZvA{α:Type}{o:Option α}{z:α}(h: ∃r,o=some r/\r=z):o=some z:=by obtain⟨r,rfl,rfl⟩:=h;rfl
theorem Zq7      {i : Nat}{x : Zim }(hl : x.2.2.2.2.2.2.2.1.length <= 32)(h1 : 1 <= x.2.2.2.2.2.2.2.1.length){out : List Zc9  }(ho : out.length <= 100000) :
    run
 (fun s3 : List Zc9   × Int =>
 bif decide (s3.2 < IntKind.wrap .i64 ((↑(List.length x.2.2.2.2.2.2.2.1) : Int) - (1 : Int))) then
 Option.bind (idx x.2.2.2.2.2.2.2.1 s3.2) fun x4 =>
 Option.bind (idx x.2.2.2.2.2.2.2.1 (IntKind.wrap .i64 (s3.2 + (1 : Int)))) fun x5 =>
 Option.bind (Zaq    (decide (List.length s3.1 + List.length [((i : Int), s3.2, x4.1, x5.1, x4.2.2.1, x5.2.1, ())] <= Zar   ))) fun _ =>
 some (.inl (s3.1 ++ [((i : Int), s3.2, x4.1, x5.1, x4.2.2.1, x5.2.1, ())], IntKind.wrap .i64 (s3.2 + (1 : Int))))
 else some (.inr s3.1))
 (out, (0 : Int)) = some (out ++ ZmG  i x.2.2.2.2.2.2.2.1 (x.2.2.2.2.2.2.2.1.length - 1)) := by
  generalize x.2.2.2.2.2.2.2.1 = l at *;have e0 : IntKind.wrap .i64 ((l.length : Int) - 1) = ((l.length - 1 : Nat) : Int) := by rw [Zak      (by omega) (by omega)]; omega
  refine ZvA   (ZaX     (l.length - 1) _ (fun c (s : List Zc9   × Int) => s = (out ++ ZmG  i l c, (c : Int))) ?_ ?_ _ (by simp [ZmG ]))
  · rintro c s hc rfl
    left;have hc1 : c + 1 < l.length := by omega
    refine ⟨(out ++ ZmG  i l (c + 1), ((c + 1 : Nat) : Int)), ?_, rfl⟩;simp only [e0, Zaw    hc, cond_true, Zaf     (show c < l.length by omega), bind_some, Zai       hc (show l.length - 1 <= 9223372036854775807 by omega), Zaf     hc1]
    rw [ZaW       (by have : (ZmG  i l c).length = c := by simp [ZmG ]
                      simp; omega)]
    simp only [bind_some, Zre      , Ziq  , Zaj     hc1, Zaj     (show c < l.length by omega), List.append_assoc]
  · rintro s rfl
    refine ⟨_, ?_, rfl⟩;simp only [e0, Zax    , cond_false]
theorem ZrC{n:Zav}{c:Zc9}(h:c∈Zir n n.2.2.1.length): ∃i, ∃hi:i<n.2.2.1.length,(n.2.2.1[i]).2.2.2.2.2.2.1=false/\ ∃k,k+1< (n.2.2.1[i]).2.2.2.2.2.2.2.1.length/\c=Ziq i (n.2.2.1[i]).2.2.2.2.2.2.2.1 k:=by unfold Zir at h;obtain⟨i,hi,hc⟩:=List.mem_flatMap.1 h;rw[List.mem_range]at hi;rw[Zaj hi]at hc;exact⟨i,hi,ZjO hc⟩
theorem Zrv{n:Zav}(hf:Fit n): ∃r,F35 n=some r/\F55 n=some r/\(r.2.2≠0->F6 n=some ([],21))/\
  (r.2.2=0->ZcX n/\ ∃ys:List Zc9,F6 n=some (ys,0)/\ys.Perm (Zir n n.2.2.1.length)/\ys.Pairwise ltC):=by
 obtain⟨r,h1,h2,h3⟩:=ZnY n hf;refine⟨r,h1,h2,fun hr=> ?_,fun hr=> ?_⟩
 ·unfold F6;rw[h1];simp only[bind_some,decide_eq_false hr,Bool.not_false,cond_true]
 ·have hS:=h3 hr;refine⟨hS, ?_⟩;have hlen:=hS.runs;have hcl:=Znu hS;obtain⟨ys,g1,g2,g3⟩:=ZkP (cmp:=F5) ltC (Zir n n.2.2.1.length) (by have:=hcl _ (Nat.le_refl _);omega) (fun x _ y _=>⟨_,Zmf x y,Zuk x y,ZrA x y⟩) (fun x _=>ZtX x) (fun a _ b _ c _=>ZuT) (Zp5 hS _ (Nat.le_refl _));refine⟨ys, ?_,g2,g3⟩;unfold F6;rw[h1];simp only[bind_some,hr,decide_true,Bool.not_true,cond_false];refine Zbo (fun r=>r=Zir n n.2.2.1.length) (ZaX n.2.2.1.length _ (fun i (s:List Zc9×Int)=>s=(Zir n i,(i:Int))) ?_ ?_ _ (by simp [Zir])) ?_
  ·rintro i s hi rfl;left;have hx:=List.getElem_mem hi;refine⟨(Zir n (i+1),((i+1:Nat):Int)), ?_,rfl⟩;have hlen2:=hcl i (by omega);simp only[Zaw hi,cond_true,Zaf hi,bind_some,Zai hi (show n.2.2.1.length<=9223372036854775807 by omega),ZhM,Zaj hi,Zo5]
   cases hc: (n.2.2.1[i]).2.2.2.2.2.2.1 with
   |true=>simp only[cond_true,if_true,List.append_nil]
   |false=>
    simp only[cond_false,Bool.false_eq_true,if_false];rw[Zq7 (hS.many _ hx).2 (by have:=(hS.many _ hx).1;omega) (by omega)];rfl
  ·rintro s rfl;refine⟨_, ?_,rfl⟩;simp only[Zax,cond_false]
  ·rintro _ rfl;unfold F127;rw[g1];rfl
theorem ZqT{ys:List Zc9}(hs:ys.Pairwise ltC){i j:Nat}(hij:i<j)(hj:j<ys.length):ltC (ys[i]'(by omega)) ys[j]:=List.pairwise_iff_getElem.1 hs i j (by omega) hj hij
theorem Zu8{α:Type}{l:List α}{i:Nat}(h:i<l.length):idx l (i:Int)=some l[i]:=Zaf h
theorem Zsb(n:Nat)(p:Nat->Bool)(h: ∀i j,i<j->j<n->p j=true->p i=true): ∃k,k<=n/\ ∀i,i<n->(p i=true↔i<k):=by
 induction n with
 |zero=>exact⟨0,Nat.le_refl _,fun i hi=>by omega⟩
 |succ n ih=>
  obtain⟨k,hk,h1⟩:=ih fun i j hij hj=>h i j hij (by omega)
  cases hp:p n with
  |true=>
   refine⟨n+1,Nat.le_refl _,fun i hi=>⟨fun _=>hi,fun _=> ?_⟩⟩;by_cases e:i=n
   ·subst e;exact hp
   ·exact h i n (by omega) (by omega) hp
  |false=>
   refine⟨k,by omega,fun i hi=> ?_⟩;by_cases e:i=n
   ·subst e;rw[hp];constructor
    ·intro h;exact absurd h (by decide)
    ·intro h;omega
   ·exact h1 i (by omega)
def Ziw(l:List Zc9)(i:Nat):Int:=((l[i]?).getD (0,0,0,0,0,0,())).2.2.2.2.1
theorem ZnH{ys:List Zc9}(hs:ys.Pairwise ltC){i j:Nat}(hij:i<j)(hj:j<ys.length):Ziw ys i<=Ziw ys j:=by have h:=ZqT hs hij hj;unfold Ziw;rw[Zaj hj,Zaj (show i<ys.length by omega)];unfold ltC at h;omega
theorem Zr2{lo hi:Nat}(h:lo<hi)(hn:hi<=1000000):IntKind.wrap .i64 (Int.tdiv (IntKind.wrap .i64 ((lo:Int)+(hi:Int))) (2:Int))=((lo+(hi - lo) / 2:Nat):Int):=by
 have e1:IntKind.wrap .i64 ((lo:Int)+(hi:Int))=((lo+hi:Nat):Int):=by rw[Zak (by omega) (by omega)];omega
 rw[e1,Int.tdiv_eq_ediv_of_nonneg (by omega),Zak (by omega) (by omega)];omega
theorem Zpp{ys:List Zc9}(hs:ys.Pairwise ltC)(hl:ys.length<=1000000)(t:Int): ∃k,k<=ys.length/\F7 ys t=some (k:Int)/\ ∀i,i<ys.length->(Ziw ys i<=t↔i<k):=by
 obtain⟨k,hk,h1⟩:=Zsb ys.length (fun i=>decide (Ziw ys i<=t)) fun i j hij hj hp=>by have:=ZnH hs hij hj;simp only[decide_eq_true_eq]at hp ⊢;omega
 simp only[decide_eq_true_eq]at h1;refine⟨k,hk, ?_,h1⟩;unfold F7 F9;simp only;rw[Zsf hk]
 ·rfl
 ·intro lo hi hlt hhi;have hm:lo+(hi - lo) / 2<ys.length:=by omega
  have hd:=h1 _ hm;unfold Ziw at hd;rw[Zaj hm]at hd;simp only[decide_eq_true (show (lo:Int)< (hi:Int) by omega),cond_true,Zr2 hlt (by omega),F8,Zu8 hm,bind_some];by_cases hc:lo+(hi - lo) / 2<k
  ·rw[if_pos hc,decide_eq_false (Int.not_lt.2 (hd.2 hc))];simp only[cond_false];rw[Zai hm (by omega)]
  ·rw[if_neg hc,decide_eq_true (Int.not_le.1 (mt hd.1 hc))];rfl
 ·intro lo;simp only[Zax,cond_false]
theorem ZtQ{n:Zav}{i m:Nat}(hi:i<n.2.2.1.length)(hm:m+1< (Zan n i).length)(hc:ZbW n i=false):Ziq i (Zan n i) m∈Zir n n.2.2.1.length:=by
 unfold Zir;refine List.mem_flatMap.2 ⟨i,List.mem_range.2 hi, ?_⟩;rw[Zaj hi];have e:Zan n i=(n.2.2.1[i]).2.2.2.2.2.2.2.1:=Zbi hi
 have hc' : (n.2.2.1[i]).2.2.2.2.2.2.1=false:=by unfold ZbW rn at hc;rw[Int.toNat_natCast,Zaj hi]at hc;exact hc
 unfold Zo5;rw[if_neg (by rw[hc'];simp), <-e];unfold ZmG;refine List.mem_map.2 ⟨m,List.mem_range.2 (by omega),rfl⟩
end Q
namespace Q
open Tr Go
open Option (bind_some)
abbrev Zew:=Int×Int×Int×Int×Int×Unit
abbrev Zky:=Int×Int×Bool×Unit
abbrev ScT:=Zav×Za6×List Zo1×List Zew×List Zky×List (List Int) ×Bool×Unit
structure Ctx (n:Zav) (s0 t0 w:Int):Prop where
 net:Zdi n
 stop:0<=s0/\s0< (n.1.length:Int)
 time:0<=t0/\t0<=3155932800
 wait:0<=w/\w<=3600
variable {n:Zav}{s0 t0 w:Int}
theorem Ctx.ok(C:Ctx n s0 t0 w){f:ZqP}{js:List ZaA}(d:Der n s0 t0 w f js):f.ok n:=d.ok C.net C.stop C.time C.wait
def Zb1(old new:Int):Bool:=decide (old= -1) ||decide (new<old)
theorem Zgb(old new:Int): (bif decide (old=(-1:Int)) then some true else some (decide (new<old)))=some (Zb1 old new):=by
 unfold Zb1
 cases decide (old=(-1:Int))<;>rfl
theorem ZbY{a b:Int} :Zb1 a b=true↔a= -1\/b<a:=by unfold Zb1;rw[Bool.or_eq_true,decide_eq_true_eq,decide_eq_true_eq]
theorem ZlZ{a b:Int}(h:Zb1 a b=false):a≠ -1/\a<=b:=by
 have: ¬ (a= -1\/b<a):=fun e=>by rw[ZbY.2 e]at h;cases h
 omega
theorem Zu2{a b t:Int}(hb:0<=b)(h:a≠ -1/\a<=t): (bif Zb1 a b then b else a)≠ -1/\(bif Zb1 a b then b else a)<=t:=by
 cases hl:Zb1 a b with
 |false=>exact h
 |true=>
  have:=ZbY.1 hl;simp only[cond_true];omega
theorem Zs3{a b:Int}(hb:0<=b): (bif Zb1 a b then b else a)≠ -1/\(bif Zb1 a b then b else a)<=b:=by
 cases hl:Zb1 a b with
 |true=>simp only[cond_true];omega
 |false=>simp only[cond_false];exact ZlZ hl
theorem ZeN{α:Type}{l:List α}{i:Nat}{p:α}(h:l[i]? =some p)(g:α->α): (l.modify i g)[i]? =some (g p):=by rw[List.getElem?_modify,h];simp
theorem Zf7{α:Type}{l:List α}{i j:Nat}(e:i≠j)(g:α->α): (l.modify i g)[j]? =l[j]? :=by rw[List.getElem?_modify];simp [e]
theorem ZfK{α:Type}{l:List α}{i j:Nat}{g:α->α}{q:α}(h: (l.modify i g)[j]? =some q): ∃p,l[j]? =some p/\(i=j/\q=g p\/i≠j/\q=p):=by
 by_cases e:i=j
 ·subst e
  cases hp:l[i]? with
  |none=>rw[List.getElem?_modify,hp]at h;simp at h
  |some p=>rw[ZeN hp]at h;cases h;exact⟨p,rfl, .inl ⟨rfl,rfl⟩⟩
 ·rw[Zf7 e]at h;exact⟨q,h, .inr ⟨e,rfl⟩⟩
theorem Zfj{α:Type}{l:List α}{i:Nat}(h:i<l.length)(g:α->α):l.modify i g=l.set i (g l[i]):=by
 apply List.ext_getElem?;intro j;rw[List.getElem?_modify,List.getElem?_set];by_cases hj:i=j
 ·subst hj;rw[List.getElem?_eq_getElem h];simp [h]
 ·simp [hj]
theorem ZmR{α:Type}{l:List α}{i j:Nat}{x y:α}(h: (l.set i x)[j]? =some y): (i=j/\y=x)\/l[j]? =some y:=by
 rw[List.getElem?_set]at h;by_cases e:i=j
 ·rw[if_pos e]at h;split at h
  ·exact .inl ⟨e,by simpa using h.symm⟩
  ·exact absurd h (by simp)
 ·rw[if_neg e]at h;exact .inr h
structure SP (D:ZqP->List ZaA->Prop) (lb:List Zo1) (s:Int) (p:Zew):Prop where
 arr:p.1≠ -1-> ∃k js,Ch lb p.2.2.2.1 js/\D (.arr k s p.1) js
 rid:p.2.1≠ -1-> ∃k js,D (.rid k s p.2.1) js
 rdy:p.2.2.1≠ -1-> ∃k js,Ch lb p.2.2.2.2.1 js/\D (.rdy k s p.2.2.1) js
def SB(D:ZqP->List ZaA->Prop)(lb:List Zo1)(i:Nat)(b:Zky):Prop:=b.1≠ -1-> ∃k, ∃c:Nat,b.1=(c:Int)/\ ∃js,Ch lb b.2.1 js/\D (.brd k i c b.2.2.1) js
structure Snd (D:ZqP->List ZaA->Prop) (f:ScT):Prop where
 pls: ∀ (s:Nat) p,f.2.2.2.1[s]? =some p->SP D f.2.2.1 (s:Int) p
 brd: ∀ (i:Nat) b,f.2.2.2.2.1[i]? =some b->SB D f.2.2.1 i b
variable {D:ZqP->List ZaA->Prop}{lb:List Zo1}
theorem SP.app{s:Int}{p:Zew}(h:SP D lb s p)(m:List Zo1):SP D (lb++m) s p:=
 ⟨fun e=>let ⟨k,js,b,c⟩:=h.arr e;⟨k,js,b.app m,c⟩,h.rid,fun e=>let ⟨k,js,b,c⟩:=h.rdy e;⟨k,js,b.app m,c⟩⟩
theorem SB.app{i:Nat}{b:Zky}(h:SB D lb i b)(m:List Zo1):SB D (lb++m) i b:=
 fun e=>let ⟨k,c,e1,js,b,d⟩:=h e;⟨k,c,e1,js,b.app m,d⟩
def LeA(l:List Zew)(s:Nat)(t:Int):Prop:= ∃p,l[s]? =some p/\p.1≠ -1/\p.1<=t
def LeR(l:List Zew)(s:Nat)(t:Int):Prop:= ∃p,l[s]? =some p/\p.2.1≠ -1/\p.2.1<=t
def LeY(l:List Zew)(s:Nat)(t:Int):Prop:= ∃p,l[s]? =some p/\p.2.2.1≠ -1/\p.2.2.1<=t
def LeB(l:List Zky)(i:Nat)(d:Int):Prop:= ∃b,l[i]? =some b/\b.1≠ -1/\b.1<=d
theorem LeA.weak{l:List Zew}{s:Nat}{t u:Int}(h:LeA l s t)(e:t<=u):LeA l s u:=let ⟨p,a,b,c⟩:=h;⟨p,a,b,Int.le_trans c e⟩
theorem LeR.weak{l:List Zew}{s:Nat}{t u:Int}(h:LeR l s t)(e:t<=u):LeR l s u:=let ⟨p,a,b,c⟩:=h;⟨p,a,b,Int.le_trans c e⟩
theorem LeY.weak{l:List Zew}{s:Nat}{t u:Int}(h:LeY l s t)(e:t<=u):LeY l s u:=let ⟨p,a,b,c⟩:=h;⟨p,a,b,Int.le_trans c e⟩
def Zka(V:List Int)(x:Int):Nat:=V.countP fun v=>Zb1 x v
theorem ZpT(V:List Int)(x:Int):Zka V x<=V.length:=List.countP_le_length
theorem Zqt{V:List Int}{x a:Int}(ha:0<=a)(hV:a∈V)(hl:Zb1 x a=true):Zka V a<Zka V x:=by
 unfold Zka
 induction V with
 |nil=>cases hV
 |cons v V ih=>
  have hm:V.countP (fun v=>Zb1 a v)<=V.countP (fun v=>Zb1 x v):=List.countP_mono_left fun u _ hu=>by have h1:=ZbY.1 hu;have h2:=ZbY.1 hl;exact ZbY.2 (by omega)
  rw[List.countP_cons,List.countP_cons]
  have h1:Zb1 a a=false:=by
   cases e:Zb1 a a with
   |false=>rfl
   |true=>have:=ZbY.1 e;omega
  rcases List.mem_cons.1 hV with rfl|hV
  ·rw[h1,hl];simp only[Bool.false_eq_true,if_false,if_true];omega
  ·have h3:=ih hV
   have h4:Zb1 a v=true->Zb1 x v=true:=fun e=>by have h1:=ZbY.1 e;have h2:=ZbY.1 hl;exact ZbY.2 (by omega)
   cases e:Zb1 a v with
   |true=>rw[h4 e];simp only[if_true];omega
   |false=>simp only[Bool.false_eq_true,if_false];omega
def Zug(b:Zky):Nat:=if b.1= -1 then 40 else b.1.toNat
def Zke(V:List Int)(l:List Zew):Nat:=(l.map fun p=>Zka V p.1+Zka V p.2.2.1).sum
def Zl3(l:List Zky):Nat:=(l.map Zug).sum
def pot(V:List Int)(f:ScT):Nat:=Zke V f.2.2.2.1+Zl3 f.2.2.2.2.1
theorem ZjT{α:Type}(g:α->Nat): ∀ {l:List α}{i:Nat} (hi:i<l.length) (x:α),((l.set i x).map g).sum+g l[i]=(l.map g).sum+g x
 | [],_,hi,_=>absurd hi (by simp)
 |a::l,0,_,x=>by simp;omega
 |a::l,i+1,hi,x=>by have:=ZjT g (l:=l) (i:=i) (by simpa using hi) x;simp only[List.set_cons_succ,List.map_cons,List.sum_cons,List.getElem_cons_succ];omega
structure Zrt (f g:ScT):Prop where
 arr: ∀s t,LeA g.2.2.2.1 s t->LeA f.2.2.2.1 s t
 rdy: ∀s t,LeY g.2.2.2.1 s t->LeY f.2.2.2.1 s t
 brd: ∀i d,LeB g.2.2.2.2.1 i d->LeB f.2.2.2.2.1 i d
structure Stp (n:Zav) (V:List Int) (T:Int) (f g:ScT):Prop where
 net:g.1=f.1
 qry:g.2.1=f.2.1
 lab: ∃m,g.2.2.1=f.2.2.1++m
 pl:g.2.2.2.1.length=f.2.2.2.1.length
 rl:g.2.2.2.2.1.length=f.2.2.2.2.1.length
 lks:g.2.2.2.2.2.1=f.2.2.2.2.2.1
 arr: ∀s t,LeA f.2.2.2.1 s t->LeA g.2.2.2.1 s t
 rid: ∀s t,LeR f.2.2.2.1 s t->LeR g.2.2.2.1 s t
 rdy: ∀s t,LeY f.2.2.2.1 s t->LeY g.2.2.2.1 s t
 brd: ∀i d,LeB f.2.2.2.2.1 i d->LeB g.2.2.2.2.1 i d
 mvd:f.2.2.2.2.2.2.1=true->g.2.2.2.2.2.2.1=true
 same:g.2.2.2.2.2.2.1=true\/Zrt f g
 late: ∀s t,t<T->LeY g.2.2.2.1 s t->LeY f.2.2.2.1 s t
 lateB: ∀ (i m:Nat),i<n.2.2.1.length->m< (Zan n i).length->(Zac n i m).2.2.1<T->LeB g.2.2.2.2.1 i (m:Int)->LeB f.2.2.2.2.1 i (m:Int)
 pot:pot V g<=pot V f
 fall:f.2.2.2.2.2.2.1=false->g.2.2.2.2.2.2.1=true->Q.pot V g<Q.pot V f
variable {V:List Int}{T:Int}
theorem Zrt.refl(f:ScT):Zrt f f:=⟨fun _ _ h=>h,fun _ _ h=>h,fun _ _ h=>h⟩
theorem Zrt.trans{f g h:ScT}(x:Zrt f g)(y:Zrt g h):Zrt f h:=⟨fun s t e=>x.arr s t (y.arr s t e),fun s t e=>x.rdy s t (y.rdy s t e),fun s t e=>x.brd s t (y.brd s t e)⟩
theorem Stp.refl(f:ScT):Stp n V T f f:=
 ⟨rfl,rfl,⟨[],by simp⟩,rfl,rfl,rfl,fun _ _ h=>h,fun _ _ h=>h,fun _ _ h=>h,fun _ _ h=>h,fun h=>h, .inr (Zrt.refl f),fun _ _ _ h=>h,fun _ _ _ _ _ h=>h,Nat.le_refl _,fun a b=>by rw[a]at b;cases b⟩
theorem Stp.trans{f g h:ScT}(x:Stp n V T f g)(y:Stp n V T g h):Stp n V T f h:=by
 obtain⟨m,hm⟩:=x.lab;obtain⟨m',hm'⟩:=y.lab
 refine⟨y.net.trans x.net,y.qry.trans x.qry,⟨m++m',by rw[hm',hm,List.append_assoc]⟩,y.pl.trans x.pl,y.rl.trans x.rl,y.lks.trans x.lks,fun s t h=>y.arr s t (x.arr s t h),fun s t h=>y.rid s t (x.rid s t h),fun s t h=>y.rdy s t (x.rdy s t h),fun s t h=>y.brd s t (x.brd s t h),fun e=>y.mvd (x.mvd e), ?_,
  fun s t a b=>x.late s t a (y.late s t a b),fun i m a b c d=>x.lateB i m a b c (y.lateB i m a b c d),Nat.le_trans y.pot x.pot,fun a b=> ?_⟩
 ·rcases y.same with e|e
  ·exact .inl e
  ·rcases x.same with e' |e'
   ·exact .inl (y.mvd e')
   ·exact .inr (e'.trans e)
 ·cases hg:g.2.2.2.2.2.2.1 with
  |true=>exact Nat.lt_of_le_of_lt y.pot (x.fall a hg)
  |false=>exact Nat.lt_of_lt_of_le (y.fall hg b) x.pot
theorem Stp.ch{f g:ScT}(h:Stp n V T f g){l:Int}{js:List ZaA}(c:Ch f.2.2.1 l js):Ch g.2.2.1 l js:=by obtain⟨m,hm⟩:=h.lab;rw[hm];exact c.app m
def Zo6(f:ScT)(x:ZaA)(prev:Int):ScT:=(f.1,f.2.1,f.2.2.1++[(x,prev,())],f.2.2.2)
theorem ZpQ(f:ScT)(hl:f.2.2.1.length<4000000000)(x:ZaA)(prev:Int):F112 f x prev=some (Zo6 f x prev,(f.2.2.1.length:Int)):=by
 unfold F112 Zo6;rw[ZaW (by simp;omega)]
 have e:IntKind.wrap .i64 (((f.2.2.1++[(x,prev,())]).length:Int) - 1)=(f.2.2.1.length:Int):=by rw[List.length_append];simp only[List.length_cons,List.length_nil];rw[Zak (by omega) (by omega)];omega
 rw[e];rfl
theorem ZmD(f:ScT)(x:ZaA)(p:Int):Stp n V T f (Zo6 f x p):=
 ⟨rfl,rfl,⟨[(x,p,())],rfl⟩,rfl,rfl,rfl,fun _ _ h=>h,fun _ _ h=>h,fun _ _ h=>h,fun _ _ h=>h,fun h=>h, .inr ⟨fun _ _ h=>h,fun _ _ h=>h,fun _ _ h=>h⟩,fun _ _ _ h=>h,fun _ _ _ _ _ h=>h,Nat.le_refl _,fun a b=>by have b' :f.2.2.2.2.2.2.1=true:=b;rw[a]at b';cases b'⟩
theorem Snd.add{f:ScT}(h:Snd D f)(x:ZaA)(p:Int):Snd D (Zo6 f x p):=
 ⟨fun s q hq=>(h.pls s q hq).app _,fun i b hb=>(h.brd i b hb).app _⟩
def Zut(p:Zew)(a l:Int):Zew:=bif Zb1 p.1 a then(a,p.2.1,p.2.2.1,l,p.2.2.2.2) else p
def Zuf(p:Zew)(r l:Int):Zew:=bif Zb1 p.2.2.1 r then(p.1,p.2.1,r,p.2.2.2.1,l,p.2.2.2.2.2) else p
def ZoY(p:Zew)(a r l:Int):Zew:=Zuf (Zut p a l) r l
def Zkd(f:ScT)(i:Nat)(a r l:Int):ScT:=(f.1,f.2.1,f.2.2.1,f.2.2.2.1.modify i fun p=>ZoY p a r l,f.2.2.2.2.1,f.2.2.2.2.2.1,
 (Zb1 ((f.2.2.2.1[i]?).getD (0,0,0,0,0,())).1 a||Zb1 ((f.2.2.2.1[i]?).getD (0,0,0,0,0,())).2.2.1 r) ||f.2.2.2.2.2.2.1,())
theorem Zhg(p:Zew)(a r l:Int): (ZoY p a r l).1=bif Zb1 p.1 a then a else p.1:=by
 unfold ZoY Zuf Zut
 cases Zb1 p.1 a<;>simp only[cond_true,cond_false]<;>cases Zb1 p.2.2.1 r<;>rfl
theorem ZfT(p:Zew)(a r l:Int): (ZoY p a r l).2.2.1=bif Zb1 p.2.2.1 r then r else p.2.2.1:=by
 unfold ZoY Zuf Zut
 cases Zb1 p.1 a<;>simp only[cond_true,cond_false]<;>cases Zb1 p.2.2.1 r<;>rfl
theorem Zkm(p:Zew)(a r l:Int): (ZoY p a r l).2.1=p.2.1:=by
 unfold ZoY Zuf Zut
 cases Zb1 p.1 a<;>simp only[cond_true,cond_false]<;>cases Zb1 p.2.2.1 r<;>rfl
theorem ZfL(f:ScT){i:Nat}(hi:i<f.2.2.2.1.length)(a r l:Int):F115 f (i:Int) a r l=some (Zkd f i a r l):=by
 unfold F115 Zkd;rw[Zfj hi];obtain⟨n,q,lb,pl,rn,lk,mv,u⟩:=f;simp only at hi;simp only[ZaN hi,bind_some,List.getElem?_eq_getElem hi,Option.getD_some];generalize hp:pl[i]=p;rw[Zgb];simp only[bind_some];unfold ZoY Zut
 cases hl:Zb1 p.1 a with
 |true=>
  simp only[cond_true,List.set_set,List.getElem?_set_self hi,bind_some];rw[Zgb];simp only[bind_some];unfold Zuf;simp only
  cases Zb1 p.2.2.1 r with
  |true=>simp only[cond_true,Bool.true_or]
  |false=>simp only[cond_false,Bool.true_or]
 |false=>
  simp only[cond_false];rw[Zgb];simp only[bind_some];unfold Zuf
  cases Zb1 p.2.2.1 r with
  |true=>simp only[cond_true,List.getElem?_set_self hi,bind_some,List.set_set,Bool.or_true,Bool.true_or]
  |false=>
   simp only[cond_false,Bool.false_or];rw[<-hp,List.set_getElem_self]
theorem ZeE{P:Zew->Prop}{l:List Zew}{i s:Nat}{g:Zew->Zew}(hg: ∀p,P p->P (g p))(h: ∃p,l[s]? =some p/\P p): ∃p,(l.modify i g)[s]? =some p/\P p:=by
 obtain⟨p,h1,h2⟩:=h;by_cases e:i=s
 ·subst e;exact⟨g p,ZeN h1 g,hg p h2⟩
 ·exact⟨p,(Zf7 e g).trans h1,h2⟩
theorem Zcp{P:Zew->Prop}{l:List Zew}{i s:Nat}{g:Zew->Zew}(hg: ∀p,l[i]? =some p->P (g p)->P p)(h: ∃p,(l.modify i g)[s]? =some p/\P p): ∃p,l[s]? =some p/\P p:=by
 obtain⟨q,h1,h2⟩:=h;obtain⟨p,hp,⟨rfl,rfl⟩ | ⟨_,rfl⟩⟩:=ZfK h1
 ·exact⟨p,hp,hg p hp h2⟩
 ·exact⟨_,hp,h2⟩
theorem Ztg{a x:Int}(ha:0<=a)(hV:a∈V):Zka V (bif Zb1 x a then a else x)<=Zka V x/\(Zb1 x a=true->Zka V (bif Zb1 x a then a else x)<Zka V x):=by
 cases hl:Zb1 x a with
 |true=>simp only[cond_true];exact⟨Nat.le_of_lt (Zqt ha hV hl),fun _=>Zqt ha hV hl⟩
 |false=>exact⟨Nat.le_refl _,fun e=>nomatch e⟩
theorem ZjV(f:ScT){i:Nat}(hi:i<f.2.2.2.1.length){a r:Int}(ha:0<=a)(hr:0<=r)(hT:T<=r)(hVa:a∈V)(hVr:r∈V)(l:Int):Stp n V T f (Zkd f i a r l):=by
 have hg: (f.2.2.2.1[i]?).getD (0,0,0,0,0,())=f.2.2.2.1[i]:=Zaj hi _
 have hpp:Zke V (Zkd f i a r l).2.2.2.1+(Zka V (f.2.2.2.1[i]).1+Zka V (f.2.2.2.1[i]).2.2.1)=Zke V f.2.2.2.1+(Zka V (bif Zb1 (f.2.2.2.1[i]).1 a then a else(f.2.2.2.1[i]).1)+Zka V (bif Zb1 (f.2.2.2.1[i]).2.2.1 r then r else(f.2.2.2.1[i]).2.2.1)):=by have:=ZjT (fun p:Zew=>Zka V p.1+Zka V p.2.2.1) hi (ZoY f.2.2.2.1[i] a r l);simp only[Zhg,ZfT]at this;unfold Zke Zkd;rw[Zfj hi];exact this
 have c1:=Ztg (x:=(f.2.2.2.1[i]).1) ha hVa;have c2:=Ztg (x:=(f.2.2.2.1[i]).2.2.1) hr hVr;refine⟨rfl,rfl,⟨[],by simp [Zkd]⟩,by simp [Zkd],rfl,rfl,fun s t h=> ?_,fun s t h=> ?_,fun s t h=> ?_,fun _ _ h=>h,fun h=> ?_, ?_,fun s t ht h=> ?_,fun _ _ _ _ _ h=>h, ?_,fun h1 h2=> ?_⟩
 ·refine ZeE (P:=fun p=>p.1≠ -1/\p.1<=t) (fun p hp=> ?_) h;rw[Zhg];exact Zu2 ha hp
 ·refine ZeE (P:=fun p=>p.2.1≠ -1/\p.2.1<=t) (fun p hp=> ?_) h;rw[Zkm];exact hp
 ·refine ZeE (P:=fun p=>p.2.2.1≠ -1/\p.2.2.1<=t) (fun p hp=> ?_) h;rw[ZfT];exact Zu2 hr hp
 ·show (_||f.2.2.2.2.2.2.1)=true;rw[h,Bool.or_true]
 ·show ((Zb1 ((f.2.2.2.1[i]?).getD (0,0,0,0,0,())).1 a||Zb1 ((f.2.2.2.1[i]?).getD (0,0,0,0,0,())).2.2.1 r) ||f.2.2.2.2.2.2.1)=true\/_;rw[hg]
  cases h1:Zb1 (f.2.2.2.1[i]).1 a with
  |true=>exact .inl rfl
  |false=>
   cases h2:Zb1 (f.2.2.2.1[i]).2.2.1 r with
   |true=>exact .inl rfl
   |false=>
    right;refine⟨fun s t h=> ?_,fun s t h=> ?_,fun _ _ h=>h⟩
    ·refine Zcp (P:=fun p=>p.1≠ -1/\p.1<=t) (fun p hp hq=> ?_) h;rw[List.getElem?_eq_getElem hi]at hp;cases hp;rw[Zhg,h1]at hq;exact hq
    ·refine Zcp (P:=fun p=>p.2.2.1≠ -1/\p.2.2.1<=t) (fun p hp hq=> ?_) h;rw[List.getElem?_eq_getElem hi]at hp;cases hp;rw[ZfT,h2]at hq;exact hq
 ·refine Zcp (P:=fun p=>p.2.2.1≠ -1/\p.2.2.1<=t) (fun p hp hq=> ?_) h;rw[ZfT]at hq
  cases hl:Zb1 p.2.2.1 r with
  |false=>rw[hl]at hq;exact hq
  |true=>rw[hl]at hq;simp only[cond_true]at hq;omega
 ·show Zke V (Zkd f i a r l).2.2.2.1+Zl3 f.2.2.2.2.1<=Zke V f.2.2.2.1+Zl3 f.2.2.2.2.1;omega
 ·have h2' : ((Zb1 ((f.2.2.2.1[i]?).getD (0,0,0,0,0,())).1 a||Zb1 ((f.2.2.2.1[i]?).getD (0,0,0,0,0,())).2.2.1 r) ||f.2.2.2.2.2.2.1)=true:=h2;rw[hg,h1,Bool.or_false,Bool.or_eq_true]at h2';show Zke V (Zkd f i a r l).2.2.2.1+Zl3 f.2.2.2.2.1<Zke V f.2.2.2.1+Zl3 f.2.2.2.2.1;rcases h2' with h|h
  ·have:=c1.2 h;omega
  ·have:=c2.2 h;omega
theorem Zml{f:ScT}{i:Nat}(hi:i<f.2.2.2.1.length){a r:Int}(ha:0<=a)(hr:0<=r)(l:Int):LeA (Zkd f i a r l).2.2.2.1 i a/\LeY (Zkd f i a r l).2.2.2.1 i r:=by have e: (Zkd f i a r l).2.2.2.1[i]? =some (ZoY f.2.2.2.1[i] a r l):=ZeN (List.getElem?_eq_getElem hi) _;exact⟨⟨_,e,by rw[Zhg];exact Zs3 ha⟩,⟨_,e,by rw[ZfT];exact Zs3 hr⟩⟩
theorem SP.imp{s:Int}{p:Zew}(h:SP D lb s p){a r l:Int}(ha: ∃k js,Ch lb l js/\D (.arr k s a) js)(hr: ∃k js,Ch lb l js/\D (.rdy k s r) js):SP D lb s (ZoY p a r l):=by
 obtain⟨h1,h2,h3⟩:=h;unfold ZoY Zuf Zut
 cases Zb1 p.1 a<;>simp only[cond_true,cond_false]<;>cases Zb1 p.2.2.1 r<;>simp only[cond_true,cond_false]
 ·exact⟨h1,h2,h3⟩
 ·exact⟨h1,h2,fun _=>hr⟩
 ·exact⟨fun _=>ha,h2,h3⟩
 ·exact⟨fun _=>ha,h2,fun _=>hr⟩
theorem Snd.imp{f:ScT}(h:Snd D f){i:Nat}{a r l:Int}(ha: ∃k js,Ch f.2.2.1 l js/\D (.arr k (i:Int) a) js)(hr: ∃k js,Ch f.2.2.1 l js/\D (.rdy k (i:Int) r) js):Snd D (Zkd f i a r l):=by
 refine⟨fun s q hq=> ?_,h.brd⟩;obtain⟨p,hp,⟨rfl,rfl⟩ | ⟨_,rfl⟩⟩:=ZfK hq
 ·exact(h.pls i p hp).imp ha hr
 ·exact h.pls s _ hp
def Zds(f:ScT)(i:Nat)(b:Zky):ScT:=
 bif !(rn f.1 (i:Int)).2.2.2.2.2.2.1&&Zb1 ((f.2.2.2.2.1[i]?).getD (0,0,false,())).1 b.1 then(f.1,f.2.1,f.2.2.1,f.2.2.2.1,f.2.2.2.2.1.set i b,f.2.2.2.2.2.1,true,()) else f
theorem ZkU(f:ScT){i:Nat}(hi:i<f.1.2.2.1.length)(hr:f.2.2.2.2.1.length=f.1.2.2.1.length)(b:Zky):F113 f (i:Int) b=some (Zds f i b):=by
 unfold F113 Zds;have hi' :i<f.2.2.2.2.1.length:=by omega
 have e:rn f.1 (i:Int)=f.1.2.2.1[i]:=by unfold rn;rw[Int.toNat_natCast,Zaj hi]
 rw[e,Zaj hi'];simp only[Zaf hi,bind_some,ZaN hi',List.getElem?_eq_getElem hi']
 cases (f.1.2.2.1[i]).2.2.2.2.2.2.1 with
 |true=>rfl
 |false=>
  simp only[Bool.not_false,cond_false,bind_some,Bool.true_and];unfold Zb1;by_cases h1: (f.2.2.2.2.1[i]).1= -1
  ·rw[decide_eq_true h1];rfl
  ·rw[decide_eq_false h1];by_cases h2: (f.2.2.2.2.1[i]).1<=b.1
   ·rw[decide_eq_true h2,decide_eq_false (show¬b.1< (f.2.2.2.2.1[i]).1 by omega)];rfl
   ·rw[decide_eq_false h2,decide_eq_true (show b.1< (f.2.2.2.2.1[i]).1 by omega)];rfl
theorem ZuB{l:List Zky}{i:Nat}{b:Zky}(h:Zb1 ((l[i]?).getD (0,0,false,())).1 b.1=true)(hb:0<=b.1){j:Nat}{d:Int}(hj:LeB l j d):LeB (l.set i b) j d:=by
 obtain⟨x,h1,h2,h3⟩:=hj;by_cases e:i=j
 ·subst e;have hi:=(List.getElem?_eq_some_iff.1 h1).1;refine⟨b,List.getElem?_set_self hi, ?_⟩;rw[h1]at h;have:=ZbY.1 h;simp only[Option.getD_some]at this;omega
 ·exact⟨x,by rw[List.getElem?_set_ne e];exact h1,h2,h3⟩
theorem ZsB{l:List Zky}{i:Nat}(hi:i<l.length){b:Zky}(h:Zb1 ((l[i]?).getD (0,0,false,())).1 b.1=false):LeB l i b.1:=by rw[Zaj hi]at h;exact⟨l[i],List.getElem?_eq_getElem hi,ZlZ h⟩
theorem Zku(C:Zdi n)(f:ScT){i c:Nat}(hi:i<n.2.2.1.length)(hir:i<f.2.2.2.2.1.length)(hc:c< (Zan n i).length)(hT:T<=(Zac n i c).2.2.1)(prev:Int)(st:Bool):Stp n V T f (Zds f i ((c:Int),prev,st,())):=by
 unfold Zds
 cases hg: (!(rn f.1 (i:Int)).2.2.2.2.2.2.1&&Zb1 ((f.2.2.2.2.1[i]?).getD (0,0,false,())).1 (c:Int)) with
 |false=>exact Stp.refl f
 |true=>
  rw[Bool.and_eq_true]at hg;have hl:=hg.2;rw[Zaj hir]at hl;have hl' :=ZbY.1 hl;have h0: (0:Int)<=(c:Int):=by omega
  have hs:=ZjT Zug hir ((c:Int),prev,st,())
  have hr:Zug ((c:Int),prev,st,())<Zug f.2.2.2.2.1[i]\/32<c:=by
   unfold Zug;simp only;rw[if_neg (by omega)];by_cases e: (f.2.2.2.2.1[i]).1= -1
   ·rw[if_pos e];omega
   ·rw[if_neg e];omega
  have hcl:c<32:=by have:=(C.sound.many _ (List.getElem_mem hi)).2;rw[Zbi hi]at hc;omega
  have hpot:Zl3 (f.2.2.2.2.1.set i ((c:Int),prev,st,()))<Zl3 f.2.2.2.2.1:=by unfold Zl3;omega
  refine⟨rfl,rfl,⟨[],by simp⟩,rfl,by simp,rfl,fun _ _ h=>h,fun _ _ h=>h,fun _ _ h=>h,fun j d h=>ZuB hg.2 h0 h,fun _=>rfl, .inl rfl,fun _ _ _ h=>h,fun j m hj hm hd h=> ?_, ?_,fun _ _=> ?_⟩
  ·obtain⟨x,h1,h2,h3⟩:=h;rcases ZmR h1 with ⟨rfl,rfl⟩ |h1
   ·exfalso;have h3' : (c:Int)<=(m:Int):=h3
    have: (Zac n i c).2.2.1<=(Zac n i m).2.2.1:=by
     have ht:=C.sound.time _ (List.getElem_mem hi);have e:=Zbi hi
     have key: ∀k,c+k< (Zan n i).length->(Zac n i c).2.2.1<=(Zac n i (c+k)).2.2.1:=by
      intro k
      induction k with
      |zero=>exact fun _=>Int.le_refl _
      |succ k ih=>
       intro hk;have h1:=ih (by omega);rw[e]at hk;have h2:=ht (c+(k+1)) hk;have h3:=h2.2.2.2 (by omega)
       have h4:Zac n i (c+(k+1))=(n.2.2.1[i]).2.2.2.2.2.2.2.1[c+(k+1)]:=by unfold Zac cl;rw[Int.toNat_natCast,e,Zaj hk]
       have hk2:c+(k+1) - 1< (n.2.2.1[i]).2.2.2.2.2.2.2.1.length:=by omega
       have h5:Zac n i (c+k)=(n.2.2.1[i]).2.2.2.2.2.2.2.1[c+(k+1) - 1]:=by unfold Zac cl;rw[Int.toNat_natCast,e,show c+k=c+(k+1) - 1 by omega,Zaj hk2]
       rw[h4];rw[h5]at h1;omega
     have:=key (m - c) (by omega);rw[show c+(m - c)=m by omega]at this;exact this
    omega
   ·exact⟨x,h1,h2,h3⟩
  ·show Zke V f.2.2.2.1+Zl3 (f.2.2.2.2.1.set i ((c:Int),prev,st,()))<=Zke V f.2.2.2.1+Zl3 f.2.2.2.2.1;omega
  ·show Zke V f.2.2.2.1+Zl3 (f.2.2.2.2.1.set i ((c:Int),prev,st,()))<Zke V f.2.2.2.1+Zl3 f.2.2.2.2.1;omega
theorem Zli{f:ScT}{i:Nat}(hi:i<f.2.2.2.2.1.length){b:Zky}(hb:0<=b.1)(hc: (rn f.1 (i:Int)).2.2.2.2.2.2.1=false):LeB (Zds f i b).2.2.2.2.1 i b.1:=by
 unfold Zds;rw[hc]
 cases hl:Zb1 ((f.2.2.2.2.1[i]?).getD (0,0,false,())).1 b.1 with
 |false=>exact ZsB hi hl
 |true=>exact⟨b,List.getElem?_set_self hi,by omega,by omega⟩
theorem Snd.board{f:ScT}(h:Snd D f){i:Nat}{b:Zky}(hb: (rn f.1 (i:Int)).2.2.2.2.2.2.1=false->SB D f.2.2.1 i b):Snd D (Zds f i b):=by
 unfold Zds
 cases hc: (rn f.1 (i:Int)).2.2.2.2.2.2.1 with
 |true=>exact h
 |false=>
  cases Zb1 ((f.2.2.2.2.1[i]?).getD (0,0,false,())).1 b.1 with
  |false=>exact h
  |true=>
   refine⟨h.pls,fun j x hx=> ?_⟩;rcases ZmR hx with ⟨rfl,rfl⟩ |hx
   ·exact hb hc
   ·exact h.brd j x hx
theorem ZiG(f:ScT)(i:Nat)(b:Zky): (Zds f i b).2.2.1=f.2.2.1:=by unfold Zds;cases (!(rn f.1 (i:Int)).2.2.2.2.2.2.1&&Zb1 ((f.2.2.2.2.1[i]?).getD (0,0,false,())).1 b.1)<;>rfl
end Q
namespace Q
open Tr Go
open Option (bind_some)
variable {n:Zav}{s0 t0 w:Int}{V:List Int}{T:Int}
theorem bex{α β:Type}{o:Option α}{f:α->Option β}{Q:β->Prop}(P:α->Prop)(h: ∃r,o=some r/\P r)(k: ∀r,P r-> ∃s,f r=some s/\Q s): ∃s,Option.bind o f=some s/\Q s:=by obtain⟨r,rfl,hr⟩:=h;exact k r hr
def p00:Zew:=(0,0,0,0,0,())
def ZbD(f:ScT)(s:Nat):Int:=((f.2.2.2.1[s]?).getD p00).2.1
def Wlk(s t:Int)(l:List Zew)(p:Zb8):Prop:=p.1=s->t+p.2.2.1<=3155932800->LeA l p.2.1.toNat (t+p.2.2.1)/\LeY l p.2.1.toNat (t+p.2.2.1)
theorem Wlk.mono{s t:Int}{g h:ScT}{p:Zb8}(y:Stp n V T g h)(z:Wlk s t g.2.2.2.1 p):Wlk s t h.2.2.2.1 p:=
 fun a b=>⟨y.arr _ _ (z a b).1,y.rdy _ _ (z a b).2⟩
theorem Wlk.weak{s t u:Int}{l:List Zew}{p:Zb8}(h:t<=u)(z:Wlk s t l p):Wlk s u l p:=
 fun a b=>let ⟨x,y⟩:=z a (by omega);⟨x.weak (by omega),y.weak (by omega)⟩
theorem Zia(f:ScT)(i:Nat)(a r l:Int)(j:Nat):ZbD (Zkd f i a r l) j=ZbD f j:=by
 unfold ZbD Zkd;simp only[List.getElem?_modify]
 cases f.2.2.2.1[j]? with
 |none=>rfl
 |some p=>
  by_cases e:i=j
  ·simp [e,Zkm]
  ·simp [e]
theorem Zqe(C:Ctx n s0 t0 w){f:ScT}(hf:f.1=n)(hpl:f.2.2.2.1.length=n.1.length)(hp:n.2.2.2.2.1.length<=4096){s t prev:Int}(ht:0<=t/\t<=3155932800)(hT:T<=t)(hV: ∀p∈n.2.2.2.2.1,t+p.2.2.1∈V)
  (hl:f.2.2.1.length+4096<4000000000) {js:List ZaA}{k:Nat} (hD: ∀p∈n.2.2.2.2.1,p.1=s->t+p.2.2.1<=3155932800->Der n s0 t0 w (.arr k p.2.1 (t+p.2.2.1)) (js++[Zgv s p.2.1 t (t+p.2.2.1)])/\Der n s0 t0 w (.rdy k p.2.1 (t+p.2.2.1)) (js++[Zgv s p.2.1 t (t+p.2.2.1)]))
  (h:Snd (Der n s0 t0 w) f) (hch:Ch f.2.2.1 prev js):
  ∃g,F118 f s t prev=some g/\Stp n V T f g/\Snd (Der n s0 t0 w) g/\(∀p∈n.2.2.2.2.1,Wlk s t g.2.2.2.1 p)/\g.2.2.1.length<=f.2.2.1.length+n.2.2.2.2.1.length/\(∀j,ZbD g j=ZbD f j):=by
 unfold F118;rw[hf];refine bex (fun g=>Stp n V T f g/\Snd (Der n s0 t0 w) g/\(∀p∈n.2.2.2.2.1,Wlk s t g.2.2.2.1 p)/\g.2.2.1.length<=f.2.2.1.length+n.2.2.2.2.1.length/\(∀j,ZbD g j=ZbD f j)) ?_ (fun r hr=>⟨r,rfl,hr⟩);have hpn: ∀g:ScT,Stp n V T f g->g.1.2.2.2.2.1=n.2.2.2.2.1:=fun g hg=>by rw[hg.net,hf]
 refine ZaX n.2.2.2.2.1.length _ (fun i (st:ScT×Int)=>st.2=(i:Int)/\Stp n V T f st.1/\Snd (Der n s0 t0 w) st.1/\(∀p∈n.2.2.2.2.1.take i,Wlk s t st.1.2.2.2.1 p)/\st.1.2.2.1.length<=f.2.2.1.length+i/\(∀j,ZbD st.1 j=ZbD f j)) ?_ ?_ _ ⟨rfl,Stp.refl f,h,(by simp),by simp,fun _=>rfl⟩
 ·rintro i ⟨g,j⟩ hi ⟨hj,h1,h2,h3,h4,h5⟩;simp only at hj h1 h2 h3 h4 h5;subst hj;left;have hmem:=List.getElem_mem hi;have hpo:=C.net.path _ hmem;rw[List.take_succ_eq_append_getElem hi];have hDi:=hD _ hmem;have hVi:=hV _ hmem;simp only[Zaw hi,cond_true,Zaf hi,bind_some,Zai hi (show _<=9223372036854775807 by omega)];generalize n.2.2.2.2.1[i]=p at*;have w1:IntKind.wrap .i64 (t+p.2.2.1)=t+p.2.2.1:=Zak (by omega) (by omega);simp only[w1];by_cases hc:p.1=s
  rotate_left
  ·rw[decide_eq_false hc];refine⟨_,rfl,rfl,h1,h2,fun q hq=> ?_,by simp only;omega,h5⟩;rcases List.mem_append.1 hq with hq|hq
   ·exact h3 q hq
   ·simp only[List.mem_singleton]at hq;subst hq;exact fun a=>absurd a hc
  by_cases hm:t+p.2.2.1<=3155932800
  rotate_left
  ·rw[decide_eq_true hc,decide_eq_false hm];refine⟨_,rfl,rfl,h1,h2,fun q hq=> ?_,by simp only;omega,h5⟩;rcases List.mem_append.1 hq with hq|hq
   ·exact h3 q hq
   ·simp only[List.mem_singleton]at hq;subst hq;exact fun _ b=>absurd b hm
  rw[decide_eq_true hc,decide_eq_true hm];simp only[cond_true,bind_some];rw[ZpQ g (by omega)];simp only[bind_some];obtain⟨d1,d2⟩:=hDi hc hm;obtain⟨y,hy⟩: ∃y:Nat,p.2.1=(y:Int):=⟨p.2.1.toNat,by omega⟩;have hnew:=(h1.ch hch).new (Zgv s p.2.1 t (t+p.2.2.1));rw[show ((false,0,0,0,s,p.2.1,t,t+p.2.2.1,false,()):ZaA)=Zgv s p.2.1 t (t+p.2.2.1) from rfl];generalize Zgv s p.2.1 t (t+p.2.2.1)=x at*;rw[hy]at d1 d2;have h0:0<=t+p.2.2.1:=by omega
  have hyl:y< (Zo6 g x prev).2.2.2.1.length:=by show y<g.2.2.2.1.length;rw[h1.pl];omega
  rw[hy,ZfL _ hyl];have hst:=(h1.trans (ZmD g x prev)).trans (ZjV (V:=V) (T:=T) (Zo6 g x prev) hyl h0 h0 (by omega) hVi hVi (g.2.2.1.length:Int));have hsn:=(h2.add x prev).imp (i:=y) ⟨k,_,hnew,d1⟩ ⟨k,_,hnew,d2⟩;refine⟨_,rfl,rfl,hst,hsn,fun q hq=> ?_, ?_,fun j=> ?_⟩
  ·rcases List.mem_append.1 hq with hq|hq
   ·exact(h3 q hq).mono ((ZmD g x prev).trans (ZjV (V:=V) (T:=T) (n:=n) (Zo6 g x prev) hyl h0 h0 (by omega) hVi hVi (g.2.2.1.length:Int)))
   ·simp only[List.mem_singleton]at hq;subst hq;intro _ _;rw[hy,Int.toNat_natCast];exact Zml hyl h0 h0 _
  ·show (g.2.2.1++[(x,prev,())]).length<=_;simp only[List.length_append,List.length_cons,List.length_nil];omega
  ·show ZbD (Zkd (Zo6 g x prev) y _ _ _) j=_;rw[Zia];exact h5 j
 ·rintro ⟨g,j⟩ ⟨hj,h1,h2,h3,h4,h5⟩;simp only at hj h1 h2 h3 h4 h5;subst hj;rw[List.take_length]at h3;simp only[Zax,cond_false];exact⟨_,rfl,h1,h2,h3,h4,h5⟩
def lkI(n:Zav)(k:Int):Zkp:=(n.2.2.2.1[k.toNat]?).getD (0,0,0,0,false,())
def ZtC(n:Zav)(out:List (List Int)):Prop:=out.length=n.2.2.1.length/\ ∀ (i:Nat) ks,out[i]? =some ks->ks.length<=1024/\ ∀x:Int,x∈ks↔inR x n.2.2.2.1.length=true/\(lkI n x).1=(i:Int)
theorem Zrl{n:Zav}{x:Int}(h:inR x n.2.2.2.1.length=true):lkI n x∈n.2.2.2.1:=by
 rw[Zeg]at h;have hl:x.toNat<n.2.2.2.1.length:=by omega
 unfold lkI;rw[Zaj hl];exact List.getElem_mem hl
theorem ZnP{i c j d:Nat}{st:Bool}(h:isLink n i c j d st): ∃x:Int,inR x n.2.2.2.1.length=true/\lkI n x=((i:Int),(c:Int),(j:Int),(d:Int),st,()):=by obtain⟨k,hk,e⟩:=List.getElem_of_mem h;refine⟨(k:Int),ZqZ.2 hk, ?_⟩;unfold lkI;rw[Int.toNat_natCast,Zaj hk,e]
def ZuL(n:Zav)(i c:Nat)(g:ScT):Prop:= ∀ (j d:Nat) (st:Bool),isLink n i c j d st->(Zac n i c).2.1<=(Zac n j d).2.2.1->
 (st=true\/(Zac n i c).2.2.2.2.1=true/\(Zac n j d).2.2.2.1=true)->ZbW n j=false->LeB g.2.2.2.2.1 j (d:Int)
theorem ZuL.mono{i c:Nat}{g h:ScT}(y:Stp n V T g h)(z:ZuL n i c g):ZuL n i c h:=fun j d st a b c e=>y.brd _ _ (z j d st a b c e)
theorem ZvU{α:Type}{l:List α}{x:Int}{d:α}(h:inR x l.length=true):idx l x=some ((l[x.toNat]?).getD d):=Zbl h d
theorem Zqq(C:Ctx n s0 t0 w){f:ScT}(hf:f.1=n)(hrl:f.2.2.2.2.1.length=n.2.2.1.length)(ho:ZtC n f.2.2.2.2.2.1)(h:Snd (Der n s0 t0 w) f){k i c:Nat}{l:Int}{js:List ZaA}(hl:Ch f.2.2.1 l js)(hd:Der n s0 t0 w (.on k i c) js)(hT:T<=(Zac n i c).2.1):
  ∃g,F114 f (i:Int) (c:Int) l (Zac n i c).2.2.2.2.1=some g/\Stp n V T f g/\Snd (Der n s0 t0 w) g/\ZuL n i c g/\g.2.2.1=f.2.2.1/\(∀j,ZbD g j=ZbD f j)/\g.2.2.2.1=f.2.2.2.1:=by
 obtain⟨_,hi,hc,_⟩:=C.ok hd;unfold F114;rw[hf];have hio:i<f.2.2.2.2.2.1.length:=by rw[ho.1];exact hi
 obtain⟨hkl,hks⟩:=ho.2 i _ (List.getElem?_eq_getElem hio);have e1:idx n.2.2.1 (i:Int)=some n.2.2.1[i]:=Zaf hi;have hcl: (n.2.2.1[i]).2.2.2.2.2.2.2.1=Zan n i:=(Zbi hi).symm;have e2:idx (Zan n i) (c:Int)=some (Zac n i c):=by rw[Zaf hc,Zcd hc]
 simp only[e1,bind_some,hcl,e2,Zaf hio];generalize f.2.2.2.2.2.1[i]=ks at*
 refine bex (fun g=>Stp n V T f g/\Snd (Der n s0 t0 w) g/\(∀x∈ks, ∀ (j d:Nat) (st:Bool),lkI n x=((i:Int),(c:Int),(j:Int),(d:Int),st,())->(Zac n i c).2.1<=(Zac n j d).2.2.1->
  (st=true\/(Zac n i c).2.2.2.2.1=true/\(Zac n j d).2.2.2.1=true)->ZbW n j=false->LeB g.2.2.2.2.1 j (d:Int))/\g.2.2.1=f.2.2.1/\(∀j,ZbD g j=ZbD f j)/\g.2.2.2.1=f.2.2.2.1) ?_ (fun r hr=>⟨r,rfl,hr.1,hr.2.1,fun j d st a b c' e=> ?_,hr.2.2.2⟩)
 rotate_left
 ·obtain⟨x,x1,x2⟩:=ZnP a;exact hr.2.2.1 x ((hks x).2 ⟨x1,by rw[x2]⟩) j d st x2 b c' e
 refine ZaX ks.length _ (fun m (st:ScT×Int)=>st.2=(m:Int)/\Stp n V T f st.1/\Snd (Der n s0 t0 w) st.1/\(∀x∈ks.take m, ∀ (j d:Nat) (s:Bool),lkI n x=((i:Int),(c:Int),(j:Int),(d:Int),s,())->(Zac n i c).2.1<=(Zac n j d).2.2.1->
  (s=true\/(Zac n i c).2.2.2.2.1=true/\(Zac n j d).2.2.2.1=true)->ZbW n j=false->LeB st.1.2.2.2.2.1 j (d:Int))/\st.1.2.2.1=f.2.2.1/\(∀j,ZbD st.1 j=ZbD f j)/\st.1.2.2.2.1=f.2.2.2.1) ?_ ?_ _ ⟨rfl,Stp.refl f,h,(by simp),rfl,fun _=>rfl,rfl⟩
 ·rintro m ⟨g,z⟩ hm ⟨hz,h1,h2,h3,h4,h5,h6⟩;simp only at hz h1 h2 h3 h4 h5 h6;subst hz;left;obtain⟨x1,x2⟩:=(hks _).1 (List.getElem_mem hm);obtain⟨i',c',j,d,st,e,_,hj,_,hc',hdl,_,_⟩:=C.net.link _ (Zrl x1);have hgn:g.1=n:=h1.net.trans hf;rw[List.take_succ_eq_append_getElem hm];have e3:idx g.1.2.2.2.1 ks[m]=some (lkI n ks[m]):=by rw[hgn];exact ZvU x1
  have e4:idx g.1.2.2.1 (j:Int)=some n.2.2.1[j]:=by rw[hgn];exact Zaf hj
  have hcj: (n.2.2.1[j]).2.2.2.2.2.2.2.1=Zan n j:=(Zbi hj).symm;have e5:idx (Zan n j) (d:Int)=some (Zac n j d):=by rw[Zaf hdl,Zcd hdl]
  simp only[Zaw hm,cond_true,Zaf hm,bind_some,Zai hm (show _<=9223372036854775807 by omega),e3,e,e4,hcj,e5];generalize ks[m]=x at*;have hi' :i' =i:=by rw[e]at x2;simp only at x2;omega
  subst hi'
  have hadd: ∀g' :ScT,Stp n V T g g' ->((Zac n i' c).2.1<=(Zac n j d).2.2.1->c' =c->(st=true\/(Zac n i' c).2.2.2.2.1=true/\(Zac n j d).2.2.2.1=true)->ZbW n j=false->LeB g'.2.2.2.2.1 j (d:Int))->
    ∀y∈ks.take m++[x], ∀ (j d:Nat) (s:Bool),lkI n y=((i' :Int),(c:Int),(j:Int),(d:Int),s,())->(Zac n i' c).2.1<=(Zac n j d).2.2.1->(s=true\/(Zac n i' c).2.2.2.2.1=true/\(Zac n j d).2.2.2.1=true)->ZbW n j=false->LeB g'.2.2.2.2.1 j (d:Int):=by
   intro g' hg' hnew y hy j1 d1 s1 b1 b2 b3 b4;rcases List.mem_append.1 hy with hy|hy
   ·exact hg'.brd _ _ (h3 y hy j1 d1 s1 b1 b2 b3 b4)
   ·simp only[List.mem_singleton]at hy;subst hy;rw[e]at b1;simp only[Prod.mk.injEq,Int.natCast_inj]at b1;obtain⟨_,rfl,rfl,rfl,rfl,_⟩:=b1;exact hnew b2 rfl b3 b4
  by_cases hcc:c' =c
  rotate_left
  ·rw[decide_eq_false (show¬ (c' :Int)=(c:Int) by omega)];exact⟨_,rfl,rfl,h1,h2,hadd g (Stp.refl g) (fun _ b=>absurd b hcc),h4,h5,h6⟩
  subst hcc;by_cases htm: (Zac n i' c').2.1<=(Zac n j d).2.2.1
  rotate_left
  ·rw[decide_eq_true rfl,decide_eq_false htm];exact⟨_,rfl,rfl,h1,h2,hadd g (Stp.refl g) (fun a=>absurd a htm),h4,h5,h6⟩
  rw[decide_eq_true rfl,decide_eq_true htm];simp only[cond_true];have hil:isLink n i' c' j d st:=by unfold isLink;rw[<-e];exact Zrl x1
  have e6: (bif st then some true else bif (Zac n i' c').2.2.2.2.1 then some (Zac n j d).2.2.2.1 else some false)=some (st|| ((Zac n i' c').2.2.2.2.1&& (Zac n j d).2.2.2.1)):=by
   cases st<;>cases (Zac n i' c').2.2.2.2.1<;>rfl
  rw[e6];simp only[bind_some]
  cases hok: (st|| ((Zac n i' c').2.2.2.2.1&& (Zac n j d).2.2.2.1)) with
  |false=>
   simp only[cond_false];refine⟨_,rfl,rfl,h1,h2,hadd g (Stp.refl g) (fun _ _ a=> ?_),h4,h5,h6⟩;exfalso;rcases a with rfl| ⟨a,b⟩
   ·simp at hok
   ·rw[a,b]at hok;simp at hok
  |true=>
   simp only[cond_true];have hjr:j<g.2.2.2.2.1.length:=by rw[h1.rl,hrl];exact hj
   rw[ZkU g (by rw[hgn];exact hj) (by rw[h1.rl,hrl,hgn])];simp only[bind_some];have hsb:=Zku (V:=V) (T:=T) C.net g hj hjr hdl (by omega) l st;refine⟨_,rfl,rfl,h1.trans hsb,h2.board fun hcn=>fun _=> ?_,hadd _ hsb fun _ _ _ hcn=>Zli hjr (b:=((d:Int),l,st,())) (by show (0:Int)<=(d:Int);omega) (by rw[hgn];exact hcn),by rw[ZiG];exact h4,fun y=> ?_, ?_⟩
   ·have hcn' :ZbW n j=false:=by rw[hgn]at hcn;exact hcn
    cases st with
    |true=>exact⟨k,d,rfl,js,h1.ch hl, .stay hd hil htm hcn'⟩
    |false=>
     simp only[Bool.false_or,Bool.and_eq_true]at hok;exact⟨k+1,d,rfl,js,h1.ch hl, .linked (.link hd hok.1 hil htm hok.2) hcn'⟩
   ·rw[<-h5 y];unfold ZbD Zds
    cases (!(rn g.1 (j:Int)).2.2.2.2.2.2.1&&Zb1 ((g.2.2.2.2.1[j]?).getD (0,0,false,())).1 (d:Int))<;>rfl
   ·rw[<-h6];unfold Zds
    cases (!(rn g.1 (j:Int)).2.2.2.2.2.2.1&&Zb1 ((g.2.2.2.2.1[j]?).getD (0,0,false,())).1 (d:Int))<;>rfl
 ·rintro ⟨g,z⟩ ⟨hz,h1,h2,h3,h4,h5,h6⟩;simp only at hz h1 h2 h3 h4 h5 h6;subst hz;rw[List.take_length]at h3;simp only[Zax,cond_false];exact⟨_,rfl,h1,h2,h3,h4,h5,h6⟩
end Q
namespace Q
open Tr Go
open Option (bind_some)
variable {n:Zav}{s0 t0 w:Int}{V:List Int}{T:Int}
def Vst(n:Zav)(i m:Nat)(g:ScT):Prop:=((Zac n i m).2.2.2.2.1=true->LeA g.2.2.2.1 (Zac n i m).1.toNat (Zac n i m).2.1/\LeY g.2.2.2.1 (Zac n i m).1.toNat ((Zac n i m).2.1+(Zb9 n (Zac n i m).1).2.2.2.1)/\
 ∀p∈n.2.2.2.2.1,Wlk (Zac n i m).1 (Zac n i m).2.1 g.2.2.2.1 p)/\ZuL n i m g
theorem Vst.mono{i m:Nat}{g h:ScT}(y:Stp n V T g h)(z:Vst n i m g):Vst n i m h:=
 ⟨fun e=>let ⟨a,b,c⟩:=z.1 e;⟨y.arr _ _ a,y.rdy _ _ b,fun p hp=>(c p hp).mono y⟩,z.2.mono y⟩
def RC(n:Zav)(f:ScT):Prop:= ∀ (s:Nat) p,f.2.2.2.1[s]? =some p->p.2.1≠ -1-> ∀q∈n.2.2.2.2.1,Wlk (s:Int) p.2.1 f.2.2.2.1 q
theorem RC.step{f g:ScT}(h:RC n f)(y:Stp n V T f g)(hr: ∀j,ZbD g j=ZbD f j):RC n g:=by
 intro s p hp hne q hq;have hs:=(List.getElem?_eq_some_iff.1 hp).1;have hsf:s<f.2.2.2.1.length:=by rw[<-y.pl];exact hs
 have e:=hr s;unfold ZbD at e;rw[hp,Zaj hsf]at e;simp only[Option.getD_some]at e;rw[e]at hne ⊢;exact(h s _ (List.getElem?_eq_getElem hsf) hne q hq).mono y
def Zg8(f:ScT)(i:Nat)(a:Int):ScT:=(f.1,f.2.1,f.2.2.1,f.2.2.2.1.modify i fun p=>(p.1,a,p.2.2),f.2.2.2.2)
theorem ZsD(f:ScT){i:Nat}(hi:i<f.2.2.2.1.length){a:Int}(ha:0<=a)(hl:Zb1 (f.2.2.2.1[i]).2.1 a=true):Stp n V T f (Zg8 f i a):=by
 have hp:Zke V (Zg8 f i a).2.2.2.1=Zke V f.2.2.2.1:=by have:=ZjT (fun p:Zew=>Zka V p.1+Zka V p.2.2.1) hi ((f.2.2.2.1[i]).1,a,(f.2.2.2.1[i]).2.2);unfold Zke Zg8;rw[Zfj hi];simp only at this ⊢;omega
 refine⟨rfl,rfl,⟨[],by simp [Zg8]⟩,by simp [Zg8],rfl,rfl,fun s t h=> ?_,fun s t h=> ?_,fun s t h=> ?_,fun _ _ h=>h,fun h=>h, .inr ⟨fun s t h=> ?_,fun s t h=> ?_,fun _ _ h=>h⟩,fun s t _ h=> ?_,fun _ _ _ _ _ h=>h, ?_,fun a b=> ?_⟩
 ·exact ZeE (P:=fun p=>p.1≠ -1/\p.1<=t) (fun p hp=>hp) h
 ·obtain⟨p,h1,h2⟩:=h;by_cases e:i=s
  ·subst e;refine⟨_,ZeN h1 _, ?_⟩;rw[List.getElem?_eq_getElem hi]at h1;cases h1;have:=ZbY.1 hl;simp only;omega
  ·exact⟨p,(Zf7 e _).trans h1,h2⟩
 ·exact ZeE (P:=fun p=>p.2.2.1≠ -1/\p.2.2.1<=t) (fun p hp=>hp) h
 ·exact Zcp (g:=fun p=>(p.1,a,p.2.2)) (P:=fun p=>p.1≠ -1/\p.1<=t) (fun p _ hp=>hp) h
 ·exact Zcp (g:=fun p=>(p.1,a,p.2.2)) (P:=fun p=>p.2.2.1≠ -1/\p.2.2.1<=t) (fun p _ hp=>hp) h
 ·exact Zcp (g:=fun p=>(p.1,a,p.2.2)) (P:=fun p=>p.2.2.1≠ -1/\p.2.2.1<=t) (fun p _ hp=>hp) h
 ·show Zke V (Zg8 f i a).2.2.2.1+Zl3 f.2.2.2.2.1<=_;rw[hp];exact Nat.le_refl _
 ·have b' :f.2.2.2.2.2.2.1=true:=b;rename_i a';rw[a]at b';cases b'
theorem Snd.ride{D:ZqP->List ZaA->Prop}{f:ScT}(h:Snd D f){i:Nat}{a:Int}(ha: ∃k js,D (.rid k (i:Int) a) js):Snd D (Zg8 f i a):=by
 refine⟨fun s q hq=> ?_,h.brd⟩;obtain⟨p,hp,⟨rfl,rfl⟩ | ⟨_,rfl⟩⟩:=ZfK hq
 ·exact⟨(h.pls i p hp).arr,fun _=>ha,(h.pls i p hp).rdy⟩
 ·exact h.pls s _ hp
structure SI (n:Zav) (s0 t0 w:Int) (f:ScT):Prop where
 net:f.1=n
 pl:f.2.2.2.1.length=n.1.length
 rl:f.2.2.2.2.1.length=n.2.2.1.length
 out:ZtC n f.2.2.2.2.2.1
 snd:Snd (Der n s0 t0 w) f
 rc:RC n f
theorem SI.step{f g:ScT}(h:SI n s0 t0 w f)(y:Stp n V T f g)(hs:Snd (Der n s0 t0 w) g)(hr:RC n g):SI n s0 t0 w g:=
 ⟨y.net.trans h.net,y.pl.trans h.pl,y.rl.trans h.rl,by rw[y.lks];exact h.out,hs,hr⟩
theorem ZpN(C:Ctx n s0 t0 w)(hp:n.2.2.2.2.1.length<=4096){f:ScT}(hI:SI n s0 t0 w f)(hl:f.2.2.1.length+4096<4000000000){s:Nat}(hs:s<n.1.length){a l:Int}{k:Nat}{js:List ZaA}(ha:0<=a/\a<=3155932800)(hT:T<=a)(hVa:a∈V)(hVr:a+(Zb9 n (s:Int)).2.2.2.1∈V)(hVw: ∀p∈n.2.2.2.2.1,a+p.2.2.1∈V)
  (hch:Ch f.2.2.1 l js) (hd:Der n s0 t0 w (.rid k (s:Int) a) js):
  ∃g,(Option.bind (inb (s:Int) (List.length f.2.2.2.1)) fun x16=>
   Option.bind (idx f.1.1 (s:Int)) fun x17=>
   Option.bind (F115 f (s:Int) a (IntKind.wrap .i64 (a+x17.2.2.2.1)) l) fun x18=>
   Option.bind (Option.bind x18.2.2.2.1[x16]? fun x19=>
    bif decide (x19.2.1=(-1:Int)) then some true
    else Option.bind x18.2.2.2.1[x16]? fun x20=>some (decide (a<x20.2.1))) fun x21=>
   Option.bind (bif x21 then
    Option.bind x18.2.2.2.1[x16]? fun x22=>
    Option.bind (F118 (x18.1,x18.2.1,x18.2.2.1,List.set x18.2.2.2.1 x16 (x22.1,a,x22.2.2),x18.2.2.2.2.1,x18.2.2.2.2.2.1,x18.2.2.2.2.2.2.1,()) (s:Int) a l) fun x23=>some x23
    else some x18) fun x24=>some x24)=some g/\Stp n V T f g/\SI n s0 t0 w g/\g.2.2.1.length<=f.2.2.1.length+n.2.2.2.2.1.length/\
   (LeA g.2.2.2.1 s a/\LeY g.2.2.2.1 s (a+(Zb9 n (s:Int)).2.2.2.1)/\ ∀p∈n.2.2.2.2.1,Wlk (s:Int) a g.2.2.2.1 p):=by
 have hcg:=C.net.change (s:Int) (by omega) (by omega);have hsl:s<f.2.2.2.1.length:=by rw[hI.pl];exact hs
 have hst:idx f.1.1 (s:Int)=some (Zb9 n (s:Int)):=by rw[hI.net];exact(Zff C.net.sound (by omega) (by omega)).1
 have w1:IntKind.wrap .i64 (a+(Zb9 n (s:Int)).2.2.2.1)=a+(Zb9 n (s:Int)).2.2.2.1:=Zak (by omega) (by omega);simp only[ZaN hsl,bind_some,hst,w1];rw[ZfL f hsl];simp only[bind_some];have hr0:0<=a+(Zb9 n (s:Int)).2.2.2.1:=by omega
 have m1:=ZjV (n:=n) (T:=T) f hsl ha.1 hr0 (by omega) hVa hVr l;have n1:=Zml hsl ha.1 hr0 l;have s1:=hI.snd.imp (i:=s) (l:=l) ⟨k,js,hch, .arrR hd⟩ ⟨k,js,hch, .change hd⟩;have r1:=hI.rc.step m1 (Zia f s a _ l);have I1:=hI.step m1 s1 r1;have hlab: (Zkd f s a (a+(Zb9 n (s:Int)).2.2.2.1) l).2.2.1=f.2.2.1:=rfl;generalize Zkd f s a (a+(Zb9 n (s:Int)).2.2.2.1) l=g at*;have hsg:s<g.2.2.2.1.length:=by rw[m1.pl];exact hsl
 simp only[List.getElem?_eq_getElem hsg,bind_some];rw[Zgb];simp only[bind_some]
 cases hls:Zb1 (g.2.2.2.1[s]).2.1 a with
 |false=>
  simp only[cond_false,bind_some];have hno:=ZlZ hls;refine⟨_,rfl,m1,I1,by rw[hlab];omega,n1.1,n1.2,fun p hp' => ?_⟩
  exact(r1 s _ (List.getElem?_eq_getElem hsg) hno.1 p hp').weak hno.2
 |true=>
  simp only[cond_true,bind_some]
  have e: (g.1,g.2.1,g.2.2.1,g.2.2.2.1.set s ((g.2.2.2.1[s]).1,a,(g.2.2.2.1[s]).2.2),g.2.2.2.2.1,g.2.2.2.2.2.1,g.2.2.2.2.2.2.1,())=Zg8 g s a:=by unfold Zg8;rw[Zfj hsg]
  rw[e];have m2:=ZsD (n:=n) (V:=V) (T:=T) g hsg ha.1 hls;have s2:=s1.ride (i:=s) (a:=a) ⟨k,js,hd⟩;have hgl: (Zg8 g s a).2.2.1=f.2.2.1:=hlab;obtain⟨h,w1,w2,w3,w4,w5,w6⟩:=Zqe C (V:=V) (T:=T) (s:=(s:Int)) (t:=a) (prev:=l) (m2.net.trans I1.net) (m2.pl.trans I1.pl) hp ha hT hVw (by rw[hgl];exact hl) (fun q hq e1 e2=>⟨.arrV hd hq e1 e2, .rdyV hd hq e1 e2⟩) s2 (by rw[hgl];exact hch);rw[w1];simp only[bind_some];have m3:=m2.trans w2
  have hrc:RC n h:=by
   intro y p hy hne q hq;have hyl:=(List.getElem?_eq_some_iff.1 hy).1;have hyg:y<g.2.2.2.1.length:=by rw[<-m3.pl];exact hyl
   have e1:=w6 y;unfold ZbD at e1;rw[hy]at e1;simp only[Option.getD_some]at e1;by_cases ey:s=y
   ·subst ey;have e2: (Zg8 g s a).2.2.2.1[s]? =some ((g.2.2.2.1[s]).1,a,(g.2.2.2.1[s]).2.2):=ZeN (List.getElem?_eq_getElem hsg) _;rw[e2]at e1;simp only[Option.getD_some]at e1;rw[e1];exact w4 q hq
   ·have e2: (Zg8 g s a).2.2.2.1[y]? =some g.2.2.2.1[y]:=(Zf7 ey _).trans (List.getElem?_eq_getElem hyg);rw[e2]at e1;simp only[Option.getD_some]at e1;rw[e1]at hne ⊢;exact(r1 y _ (List.getElem?_eq_getElem hyg) hne q hq).mono m3
  refine⟨_,rfl,m1.trans m3,I1.step m3 w3 hrc,by rw[hgl]at w5;exact w5,m3.arr _ _ n1.1,m3.rdy _ _ n1.2,w4⟩
theorem ZtA(C:Ctx n s0 t0 w)(hp:n.2.2.2.2.1.length<=4096){f:ScT}(hI:SI n s0 t0 w f)(hl:f.2.2.1.length+4097<4000000000){i m:Nat}(hi:i<n.2.2.1.length)(hm:m+1< (Zan n i).length)(hcn:ZbW n i=false)
  (hVa: (Zac n i (m+1)).2.1∈V) (hVr: (Zac n i (m+1)).2.1+(Zb9 n (Zac n i (m+1)).1).2.2.2.1∈V) (hVw: ∀p∈n.2.2.2.2.1,(Zac n i (m+1)).2.1+p.2.2.1∈V):
  ∃g,F117 f (Ziq i (Zan n i) m)=some g/\Stp n V (Zac n i m).2.2.1 f g/\SI n s0 t0 w g/\g.2.2.1.length<=f.2.2.1.length+1+n.2.2.2.2.1.length/\
   ((Zac n i m).2.2.2.1=true->LeY f.2.2.2.1 (Zac n i m).1.toNat (Zac n i m).2.2.1->LeB g.2.2.2.2.1 i (m:Int))/\(LeB g.2.2.2.2.1 i (m:Int)->Vst n i (m+1) g):=by
 have hs1:=C.net.stop hi (show m<_ by omega);have hs2:=C.net.stop hi hm;have ht1:=C.net.time hi (show m<_ by omega);have ht2:=C.net.time hi hm
 have htt: (Zac n i m).2.2.1<=(Zac n i (m+1)).2.1:=by
  have ht:=C.net.sound.time _ (List.getElem_mem hi);have e:=Zbi hi;have hm' :=hm;rw[e]at hm';have h3:=(ht (m+1) hm').2.2.2 (by omega)
  have h4:Zac n i (m+1)=(n.2.2.1[i]).2.2.2.2.2.2.2.1[m+1]:=by unfold Zac cl;rw[Int.toNat_natCast,e,Zaj hm']
  have h5:Zac n i m=(n.2.2.1[i]).2.2.2.2.2.2.2.1[m+1 - 1]:=by unfold Zac cl;rw[Int.toNat_natCast,e];exact Zaj (show m<_ by omega) _
  rw[h4,h5];exact h3.2
 have hcon:Ziq i (Zan n i) m=((i:Int),(m:Int),(Zac n i m).1,(Zac n i (m+1)).1,(Zac n i m).2.2.1,(Zac n i (m+1)).2.1,()):=rfl;rw[hcon];unfold F117;have e1:idx f.1.2.2.1 (i:Int)=some n.2.2.1[i]:=by rw[hI.net];exact Zaf hi
 have hcl: (n.2.2.1[i]).2.2.2.2.2.2.2.1=Zan n i:=(Zbi hi).symm;have hm0:m< (Zan n i).length:=by omega
 have e2:idx (Zan n i) (m:Int)=some (Zac n i m):=by rw[Zaf hm0,Zcd hm0]
 have w1:IntKind.wrap .i64 ((m:Int)+1)=((m+1:Nat):Int):=by have:=(C.net.sound.many _ (List.getElem_mem hi)).2;rw[hcl]at this;rw[Zak (by omega) (by omega)];omega
 have e3:idx (Zan n i) ((m+1:Nat):Int)=some (Zac n i (m+1)):=by rw[Zaf hm,Zcd hm]
 obtain⟨s,hs⟩: ∃s:Nat,(Zac n i m).1=(s:Int):=⟨(Zac n i m).1.toNat,by omega⟩;have hsl:s<f.2.2.2.1.length:=by rw[hI.pl];omega
 have hir:i<f.2.2.2.2.1.length:=by rw[hI.rl];exact hi
 simp only[e1,bind_some,hs,ZaN hsl,List.getElem?_eq_getElem hsl,hcl,e2,w1,e3,Int.toNat_natCast];have hsp:=hI.snd.pls s _ (List.getElem?_eq_getElem hsl)
 have hYf: ∀t,LeY f.2.2.2.1 s t->(f.2.2.2.1[s]).2.2.1≠ -1/\(f.2.2.2.1[s]).2.2.1<=t:=by rintro t ⟨p,h1,h2⟩;rw[List.getElem?_eq_getElem hsl]at h1;cases h1;exact h2
 generalize f.2.2.2.1[s]=p at*
 have ec: (bif (Zac n i m).2.2.2.1 then bif !decide (p.2.2.1=(-1:Int)) then some (decide (p.2.2.1<=(Zac n i m).2.2.1)) else some false else some false)=some ((Zac n i m).2.2.2.1&& (!decide (p.2.2.1=(-1:Int)) &&decide (p.2.2.1<=(Zac n i m).2.2.1))):=by
  cases (Zac n i m).2.2.2.1<;>cases decide (p.2.2.1=(-1:Int))<;>rfl
 rw[ec];simp only[bind_some]
 have hb: ∃g,(bif (Zac n i m).2.2.2.1&& (!decide (p.2.2.1=(-1:Int)) &&decide (p.2.2.1<=(Zac n i m).2.2.1)) then Option.bind (F113 f (i:Int) ((m:Int),p.2.2.2.2.1,false,())) fun x5=>some x5 else some f)=some g/\
   Stp n V (Zac n i m).2.2.1 f g/\SI n s0 t0 w g/\g.2.2.1=f.2.2.1/\((Zac n i m).2.2.2.1=true->LeY f.2.2.2.1 s (Zac n i m).2.2.1->LeB g.2.2.2.2.1 i (m:Int)):=by
  cases hc: ((Zac n i m).2.2.2.1&& (!decide (p.2.2.1=(-1:Int)) &&decide (p.2.2.1<=(Zac n i m).2.2.1))) with
  |false=>
   refine⟨f,rfl,Stp.refl f,hI,rfl,fun a b=> ?_⟩;have:=hYf _ b;rw[a,decide_eq_false this.1,decide_eq_true this.2]at hc
   cases hc
  |true=>
   rw[Bool.and_eq_true,Bool.and_eq_true,Bool.not_eq_true',decide_eq_false_iff_not,decide_eq_true_eq]at hc;simp only[cond_true];rw[ZkU f (by rw[hI.net];exact hi) (by rw[hI.rl,hI.net])];simp only[bind_some];have hst:=Zku (V:=V) (T:=(Zac n i m).2.2.1) C.net f hi hir hm0 (Int.le_refl _) p.2.2.2.2.1 false;obtain⟨k,js,hch,hd⟩:=hsp.rdy hc.2.1;have hsn:=hI.snd.board (i:=i) (b:=((m:Int),p.2.2.2.2.1,false,())) fun _=>fun _=>⟨k+1,m,rfl,js,hch, .board hd hi hm0 hcn hs hc.1 hc.2.2⟩
   have hrd: ∀j,ZbD (Zds f i ((m:Int),p.2.2.2.2.1,false,())) j=ZbD f j:=by
    intro j;unfold ZbD Zds
    cases (!(rn f.1 (i:Int)).2.2.2.2.2.2.1&&Zb1 ((f.2.2.2.2.1[i]?).getD (0,0,false,())).1 (m:Int))<;>rfl
   refine⟨_,rfl,hst,hI.step hst hsn (hI.rc.step hst hrd),ZiG ..,fun _ _=> ?_⟩;exact Zli hir (b:=((m:Int),p.2.2.2.2.1,false,())) (by show (0:Int)<=(m:Int);omega) (by rw[hI.net];exact hcn)
 obtain⟨f6,b1,b2,b3,b4,b5⟩:=hb;rw[b1];simp only[bind_some];have hir6:i<f6.2.2.2.2.1.length:=by rw[b3.rl];exact hi
 simp only[ZaN hir6,bind_some,List.getElem?_eq_getElem hir6];have hsb:=b3.snd.brd i _ (List.getElem?_eq_getElem hir6)
 have hLB:LeB f6.2.2.2.2.1 i (m:Int)->(f6.2.2.2.2.1[i]).1≠ -1/\(f6.2.2.2.2.1[i]).1<=(m:Int):=by rintro ⟨x,h1,h2⟩;rw[List.getElem?_eq_getElem hir6]at h1;cases h1;exact h2
 generalize f6.2.2.2.2.1[i]=b at*;by_cases c1:b.1= -1
 ·rw[decide_eq_true c1];exact⟨_,rfl,b2,b3,by rw[b4];omega,b5,fun e=>absurd c1 (hLB e).1⟩
 by_cases c2: (m:Int)<b.1
 ·rw[decide_eq_false c1,decide_eq_true c2];exact⟨_,rfl,b2,b3,by rw[b4];omega,b5,fun e=>absurd (hLB e).2 (Int.not_le.2 c2)⟩
 rw[decide_eq_false c1,decide_eq_false c2];simp only[cond_false,bind_some];obtain⟨k,c,hc,js,hch,hd⟩:=hsb c1;obtain⟨bc,prev,st,u⟩:=b;simp only at hc hch hd c1 c2;subst hc;have hon:=Der.on hd (show c<m+1 by omega) hm;have hcc:c< (Zan n i).length:=by omega
 have e4:idx (Zan n i) (c:Int)=some (Zac n i c):=by rw[Zaf hcc,Zcd hcc]
 have hio:i<f6.2.2.2.2.2.1.length:=by rw[b3.out.1];exact hi
 obtain⟨hkl,hks⟩:=b3.out.2 i _ (List.getElem?_eq_getElem hio)
 have ec2: (bif !(Zac n i (m+1)).2.2.2.2.1 then Option.bind (idx f6.2.2.2.2.2.1 (i:Int)) fun x11=>some (decide ((x11.length:Int)=(0:Int))) else some false)=some (!(Zac n i (m+1)).2.2.2.2.1&&decide (f6.2.2.2.2.2.1[i].length=0)):=by
  rw[Zaf hio];simp only[bind_some];rw[show decide (((f6.2.2.2.2.2.1[i]).length:Int)=0)=decide ((f6.2.2.2.2.2.1[i]).length=0) from decide_eq_decide.2 (by omega)]
  cases (Zac n i (m+1)).2.2.2.2.1<;>rfl
 rw[ec2];simp only[bind_some]
 cases hskip: (!(Zac n i (m+1)).2.2.2.2.1&&decide (f6.2.2.2.2.2.1[i].length=0)) with
 |true=>
  simp only[cond_true];rw[Bool.and_eq_true,Bool.not_eq_true',decide_eq_true_eq]at hskip;refine⟨_,rfl,b2,b3,by rw[b4];omega,b5,fun _=>⟨fun e=>(by rw[hskip.1]at e;cases e),fun j d sx a _ _ _=> ?_⟩⟩;exfalso;obtain⟨x,x1,x2⟩:=ZnP a;have hx:=(hks x).2 ⟨x1,by rw[x2]⟩;rw[List.length_eq_zero_iff.1 hskip.2]at hx
  cases hx
 |false=>
  simp only[cond_false,e4,bind_some];rw[ZpQ f6 (by rw[b4];omega)];simp only[bind_some];have hx: ((true,(i:Int),(c:Int),((m+1:Nat):Int),(Zac n i c).1,(Zac n i (m+1)).1,(Zac n i c).2.2.1,(Zac n i (m+1)).2.1,st,()):ZaA)=Zcc n i c (m+1) st:=rfl;rw[hx];have hnew:=hch.new (Zcc n i c (m+1) st);generalize Zcc n i c (m+1) st=x at*;have a7:=ZmD (n:=n) (V:=V) (T:=(Zac n i m).2.2.1) f6 x prev;have I7:SI n s0 t0 w (Zo6 f6 x prev):=b3.step a7 (b3.snd.add x prev) b3.rc;have hl7: (Zo6 f6 x prev).2.2.1.length=f.2.2.1.length+1:=by show (f6.2.2.1++[(x,prev,())]).length=_;rw[b4];simp
  have hch7:Ch (Zo6 f6 x prev).2.2.1 (f6.2.2.1.length:Int) (js++[x]):=hnew;generalize Zo6 f6 x prev=f7 at*;generalize (f6.2.2.1.length:Int)=l at*;obtain⟨s',hs'⟩: ∃s' :Nat,(Zac n i (m+1)).1=(s' :Int):=⟨(Zac n i (m+1)).1.toNat,by omega⟩
  have hal: ∃g,(bif (Zac n i (m+1)).2.2.2.2.1 then(Option.bind (inb (s' :Int) (List.length f7.2.2.2.1)) fun x16=>
   Option.bind (idx f7.1.1 (s' :Int)) fun x17=>
   Option.bind (F115 f7 (s' :Int) (Zac n i (m+1)).2.1 (IntKind.wrap .i64 ((Zac n i (m+1)).2.1+x17.2.2.2.1)) l) fun x18=>
   Option.bind (Option.bind x18.2.2.2.1[x16]? fun x19=>
    bif decide (x19.2.1=(-1:Int)) then some true
    else Option.bind x18.2.2.2.1[x16]? fun x20=>some (decide ((Zac n i (m+1)).2.1<x20.2.1))) fun x21=>
   Option.bind (bif x21 then
    Option.bind x18.2.2.2.1[x16]? fun x22=>
    Option.bind (F118 (x18.1,x18.2.1,x18.2.2.1,List.set x18.2.2.2.1 x16 (x22.1,(Zac n i (m+1)).2.1,x22.2.2),x18.2.2.2.2.1,x18.2.2.2.2.2.1,x18.2.2.2.2.2.2.1,()) (s' :Int) (Zac n i (m+1)).2.1 l) fun x23=>some x23
    else some x18) fun x24=>some x24) else some f7)=some g/\Stp n V (Zac n i m).2.2.1 f7 g/\SI n s0 t0 w g/\g.2.2.1.length<=f7.2.2.1.length+n.2.2.2.2.1.length/\
    ((Zac n i (m+1)).2.2.2.2.1=true->LeA g.2.2.2.1 s' (Zac n i (m+1)).2.1/\LeY g.2.2.2.1 s' ((Zac n i (m+1)).2.1+(Zb9 n (s' :Int)).2.2.2.1)/\ ∀p∈n.2.2.2.2.1,Wlk (s' :Int) (Zac n i (m+1)).2.1 g.2.2.2.1 p):=by
   cases hA: (Zac n i (m+1)).2.2.2.2.1 with
   |false=>exact⟨f7,rfl,Stp.refl f7,I7,by omega,fun e=>nomatch e⟩
   |true=>
    have hd' :=Der.ride hon hA;rw[hs']at hd' hVr;obtain⟨g,g1,g2,g3,g4,g5⟩:=ZpN C hp I7 (by rw[hl7];omega) (s:=s') (by omega) (a:=(Zac n i (m+1)).2.1) (l:=l) (T:=(Zac n i m).2.2.1) (V:=V) (by omega) htt hVa hVr hVw hch7 hd';exact⟨g,g1,g2,g3,g4,fun _=>g5⟩
  obtain⟨g,g1,g2,g3,g4,g5⟩:=hal;rw[hs'];erw[g1];simp only[bind_some];obtain⟨h,h1,h2,h3,h4,h5,h6,h7⟩:=Zqq C (V:=V) (T:=(Zac n i m).2.2.1) g3.net g3.rl g3.out g3.snd (g2.ch hch7) hon htt;rw[h1];simp only[bind_some];have hall:=(b2.trans a7).trans (g2.trans h2);refine⟨_,rfl,hall,g3.step h2 h3 (g3.rc.step h2 h6),by rw[h5];omega,fun a b=>((a7.trans g2).trans h2).brd _ _ (b5 a b),fun _=>⟨fun hA=> ?_,h4⟩⟩;obtain⟨y1,y2,y3⟩:=g5 hA;rw[hs',Int.toNat_natCast,h7];exact⟨y1,y2,y3⟩
end Q
namespace Q
open Tr Go
open Option (bind_some)
variable {n:Zav}{s0 t0 w:Int}
structure ZrX (n:Zav):Prop where
 stops:n.1.length<=8
 runs:n.2.2.1.length<=12
 paths:n.2.2.2.2.1.length<=100
 calls: (n.2.2.1.map fun r=>r.2.2.2.2.2.2.2.1.length).sum<=60
def Zus(n:Zav)(c:ZbK):List Int:=c.2.1::(c.2.1+(Zb9 n c.1).2.2.2.1)::n.2.2.2.2.1.map fun p=>c.2.1+p.2.2.1
def Zih(n:Zav)(t0 w:Int):List Int:=t0::(t0+w)::(n.2.2.2.2.1.map fun p=>t0+p.2.2.1)++n.2.2.1.flatMap fun r=>r.2.2.2.2.2.2.2.1.flatMap (Zus n)
theorem ZmZ{α β:Type}(f:α->List β)(k:Nat): ∀ (l:List α),(∀x∈l,(f x).length<=k)->(l.flatMap f).length<=l.length*k
 | [],_=>by simp
 |a::l,h=>by have h1:=h a (by simp);have h2:=ZmZ f k l (fun x hx=>h x (by simp [hx]));rw[List.flatMap_cons,List.length_append,List.length_cons,Nat.succ_mul];omega
theorem Zm7{α β:Type}(f:α->List β)(g:α->Nat): ∀ (l:List α),(∀x∈l,(f x).length<=g x)->(l.flatMap f).length<=(l.map g).sum
 | [],_=>by simp
 |a::l,h=>by have h1:=h a (by simp);have h2:=Zm7 f g l (fun x hx=>h x (by simp [hx]));rw[List.flatMap_cons,List.length_append,List.map_cons,List.sum_cons];omega
theorem Zqa{α:Type}(g:α->Nat)(k:Nat): ∀ (l:List α),(l.map fun x=>g x*k).sum=(l.map g).sum*k
 | []=>by simp
 |a::l=>by simp only[List.map_cons,List.sum_cons];rw[Zqa g k l,Nat.add_mul]
theorem Zr3(h:ZrX n): (Zih n t0 w).length<=6222:=by
 have h3:=h.paths;have h4:=h.calls;unfold Zih;rw[List.length_append,List.length_cons,List.length_cons,List.length_map]
 have: (n.2.2.1.flatMap fun r=>r.2.2.2.2.2.2.2.1.flatMap (Zus n)).length<=(n.2.2.1.map fun r=>r.2.2.2.2.2.2.2.1.length*102).sum:=by refine Zm7 _ _ _ fun r _=>ZmZ _ 102 _ fun c _=> ?_;unfold Zus;simp only[List.length_cons,List.length_map];omega
 rw[Zqa]at this;omega
theorem Zhy{i m:Nat}(hi:i<n.2.2.1.length)(hm:m< (Zan n i).length){v:Int}(hv:v∈Zus n (Zac n i m)):v∈Zih n t0 w:=by unfold Zih;refine List.mem_append_right _ (List.mem_flatMap.2 ⟨_,List.getElem_mem hi,List.mem_flatMap.2 ⟨Zac n i m, ?_,hv⟩⟩);rw[Zcd hm];have e:=Zbi hi;simp only[<-e];exact List.getElem_mem hm
def Cls(n:Zav)(i m:Nat)(g:ScT):Prop:=((Zac n i m).2.2.2.1=true->LeY g.2.2.2.1 (Zac n i m).1.toNat (Zac n i m).2.2.1->LeB g.2.2.2.2.1 i (m:Int))/\(LeB g.2.2.2.2.1 i (m:Int)->Vst n i (m+1) g)
variable {V:List Int}{T:Int}
theorem Cls.late{i m:Nat}(hi:i<n.2.2.1.length)(hm:m< (Zan n i).length){f g:ScT}(h:Cls n i m f)(y:Stp n V T f g)(hT: (Zac n i m).2.2.1<T):Cls n i m g:=
 ⟨fun a b=>y.brd _ _ (h.1 a (y.late _ _ hT b)),fun a=>(h.2 (y.lateB i m hi hm hT a)).mono y⟩
theorem Cls.same{i m:Nat}{f g:ScT}(h:Cls n i m f)(y:Stp n V T f g)(hs:Zrt f g):Cls n i m g:=
 ⟨fun a b=>y.brd _ _ (h.1 a (hs.rdy _ _ b)),fun a=>(h.2 (hs.brd _ _ a)).mono y⟩
abbrev ZkY:=Int×Int×Int×Int×Int×Int×Unit
def ZjD(n:Zav)(c:ZkY)(i m:Nat):Prop:=i<n.2.2.1.length/\m+1< (Zan n i).length/\ZbW n i=false/\c=Ziq i (Zan n i) m
theorem ZsL{c:ZkY}(h:c∈Zir n n.2.2.1.length): ∃i m,ZjD n c i m:=by obtain⟨i,hi,hc,k,hk,e⟩:=ZrC h;have e' :=Zbi hi;rw[<-e']at hk e;refine⟨i,k,hi,hk, ?_,e⟩;unfold ZbW rn;rw[Int.toNat_natCast,Zaj hi];exact hc
theorem Zt2    (C : Ctx n s0 t0 w)(hZ : ZrX  n)(L : List ZkY   )(hL : ∀ c ∈ L, ∃ i m, ZjD   n c i m /\ (Zac    n i m).2.2.1 = T)(hLl : L.length <= 60){f : ScT}(hI : SI n s0 t0 w f)(hl : f.2.2.1.length + 20000 < 4000000000) :
    ∃ g, run (fun s8 : ScT × Int => bif decide (s8.2 < (↑(List.length L) : Int)) then
        Option.bind (idx L s8.2) fun x9 => Option.bind (F117 s8.1 x9) fun x10 => some (.inl (x10, IntKind.wrap .i64 (s8.2 + (1 : Int))))
      else some (.inr s8.1)) (f, (0 : Int)) = some g /\ Stp n (Zih  n t0 w) T f g /\ SI n s0 t0 w g /\ g.2.2.1.length <= f.2.2.1.length + 6060 /\
      (g.2.2.2.2.2.2.1 = false -> ∀ c ∈ L, ∀ i m, ZjD   n c i m -> Cls n i m g) := by
  have hp := hZ.paths;have hmul : L.length * (1 + n.2.2.2.2.1.length) <= 60 * 101 := Nat.mul_le_mul hLl (by omega)
  suffices hsuf : ∃ g, run (fun s8 : ScT × Int => bif decide (s8.2 < (↑(List.length L) : Int)) then
        Option.bind (idx L s8.2) fun x9 => Option.bind (F117 s8.1 x9) fun x10 => some (.inl (x10, IntKind.wrap .i64 (s8.2 + (1 : Int))))
      else some (.inr s8.1)) (f, (0 : Int)) = some g /\ (Stp n (Zih  n t0 w) T f g /\ SI n s0 t0 w g /\ g.2.2.1.length <= f.2.2.1.length + L.length * (1 + n.2.2.2.2.1.length) /\
      (g.2.2.2.2.2.2.1 = false -> ∀ c ∈ L, ∀ i m, ZjD   n c i m -> Cls n i m g)) by
    obtain ⟨g, g1, g2, g3, g4, g5⟩ := hsuf;exact ⟨g, g1, g2, g3, by omega, g5⟩
  refine ZaX     L.length _ (fun k (st : ScT × Int) => st.2 = (k : Int) /\ Stp n (Zih  n t0 w) T f st.1 /\ SI n s0 t0 w st.1 /\ st.1.2.2.1.length <= f.2.2.1.length + k * (1 + n.2.2.2.2.1.length) /\
      (st.1.2.2.2.2.2.2.1 = false -> ∀ c ∈ L.take k, ∀ i m, ZjD   n c i m -> Cls n i m st.1)) ?_ ?_ _ ⟨rfl, Stp.refl f, hI, by simp, fun _ => by simp⟩
  · rintro k ⟨g, j⟩ hk ⟨hj, h1, h2, h3, h4⟩
    simp only at hj h1 h2 h3 h4;subst hj;left;simp only [Zaw    hk, cond_true, Zaf     hk, bind_some, Zai       hk (show _ <= 9223372036854775807 by omega)];obtain ⟨i, m, hcon, hT⟩ := hL _ (List.getElem_mem hk);have hcon' := hcon;obtain ⟨hi, hm, hcn, hc⟩ := hcon';rw [List.take_succ_eq_append_getElem hk];have hkm : k * (1 + n.2.2.2.2.1.length) <= 60 * 101 := Nat.mul_le_mul (by omega) (by omega);generalize L[k] = c at *;subst hc;obtain ⟨h, r1, r2, r3, r4, r5, r6⟩ := ZtA     (V := Zih  n t0 w) C (by omega) h2 (by omega) hi hm hcn (Zhy       hi hm (by unfold Zus ; simp)) (Zhy       hi hm (by unfold Zus ; simp)) (fun p hp' => Zhy       hi hm (List.mem_cons_of_mem _ (List.mem_cons_of_mem _ (List.mem_map.2 ⟨p, hp', rfl⟩))))
    rw [r1];rw [hT]at r2;refine ⟨_, rfl, rfl, h1.trans r2, r3, ?_, fun hmv c' hc' i' m' hcon' => ?_⟩
    · rw [Nat.succ_mul]
      simp only;omega
    · have hmg : g.2.2.2.2.2.2.1 = false := by
        cases e : g.2.2.2.2.2.2.1 with
        | false => rfl
        | true => have := r2.mvd e; rw [hmv]at this; cases this
      have hsm : Zrt  g h := r2.same.resolve_left (by rw [hmv]; simp);rcases List.mem_append.1 hc' with hc' | hc'
      · exact (h4 hmg c' hc' i' m' hcon').same r2 hsm
      · simp only [List.mem_singleton]at hc'
        subst hc';obtain ⟨_, _, _, e⟩ := hcon'
        have e1 : i' = i /\ m' = m := by unfold Ziq   at e;simp only [Prod.mk.injEq, Int.natCast_inj]at e;exact ⟨e.1.symm, e.2.1.symm⟩
        obtain ⟨rfl, rfl⟩ := e1;exact ⟨fun a b => r5 a (hsm.rdy _ _ b), r6⟩
  · rintro ⟨g, j⟩ ⟨hj, h1, h2, h3, h4⟩
    simp only at hj h1 h2 h3 h4;subst hj;rw [List.take_length]at h4;simp only [Zax    , cond_false];exact ⟨_, rfl, h1, h2, h3, h4⟩
end Q
namespace Q
open Tr Go
open Option (bind_some)
variable {n:Zav}{s0 t0 w:Int}
def Bas(n:Zav)(s0 t0 w:Int)(g:ScT):Prop:=LeA g.2.2.2.1 s0.toNat t0/\LeY g.2.2.2.1 s0.toNat (t0+w)/\ ∀p∈n.2.2.2.2.1,Wlk s0 t0 g.2.2.2.1 p
theorem Bas.mono{V:List Int}{T:Int}{f g:ScT}(h:Bas n s0 t0 w f)(y:Stp n V T f g):Bas n s0 t0 w g:=⟨y.arr _ _ h.1,y.rdy _ _ h.2.1,fun p hp=>(h.2.2 p hp).mono y⟩
theorem Zno(n:Zav): ∀k,k<=n.2.2.1.length->(Zir n k).length<=((n.2.2.1.take k).map fun r=>r.2.2.2.2.2.2.2.1.length).sum
 |0,_=>by simp [Zir]
 |k+1,h=>by
  have ih:=Zno n k (by omega);rw[ZhM,List.take_succ_eq_append_getElem (show k<_ by omega),List.length_append,List.map_append,List.sum_append,Zaj (show k<_ by omega)]
  have: (Zo5 k n.2.2.1[k]).length<=(n.2.2.1[k]).2.2.2.2.2.2.2.1.length:=by
   unfold Zo5;split
   ·simp
   ·unfold ZmG;simp
  simp only[List.map_cons,List.map_nil,List.sum_cons,List.sum_nil];omega
noncomputable def Zgc(ys:List ZkY)(s4:ScT×Int):Option ((ScT×Int) ⊕ ScT):=
 bif decide (s4.2< (↑(List.length ys):Int)) then
 Option.bind (idx ys s4.2) fun x5=>
 Option.bind (F7 ys x5.2.2.2.2.1) fun x6=>
 Option.bind (sliceB (List.length ys) (List.length ys) (some s4.2) (some x6)) fun x7=>
 Option.bind
 (run
 (fun s8:ScT×Int=>
 bif decide (s8.2< (↑(List.length (List.take (x7.2 - x7.1) (List.drop x7.1 ys))):Int)) then
 Option.bind (idx (List.take (x7.2 - x7.1) (List.drop x7.1 ys)) s8.2) fun x9=>
 Option.bind (F117 s8.1 x9) fun x10=>
 some (.inl (x10,IntKind.wrap .i64 (s8.2+(1:Int))))
 else some (.inr s8.1))
 ((s4.1.1,s4.1.2.1,s4.1.2.2.1,s4.1.2.2.2.1,s4.1.2.2.2.2.1,s4.1.2.2.2.2.2.1,false,()),(0:Int)))
 fun x11=>
 bif x11.2.2.2.2.2.2.1 then some (.inl (x11,s4.2)) else some (.inl (x11,x6))
 else some (.inr s4.1)
theorem Zt4(C:Ctx n s0 t0 w)(hZ:ZrX n){ys:List ZkY}(hys:ys.Perm (Zir n n.2.2.1.length))(hsort:ys.Pairwise ltC)(hlen:ys.length<=60): ∀ (μ:Nat) {s:ScT}{i:Nat},pot (Zih n t0 w) s+(ys.length - i)<=μ->i<=ys.length->SI n s0 t0 w s->Bas n s0 t0 w s->
  (∀j,j<i-> ∀k,i<=k->k<ys.length->Ziw ys j<Ziw ys k)->(∀c∈ys.take i, ∀a m,ZjD n c a m->Cls n a m s)->s.2.2.1.length+6060*μ+20000<4000000000->
  ∃g,run (Zgc ys) (s,(i:Int))=some g/\SI n s0 t0 w g/\Bas n s0 t0 w g/\(∀c∈ys, ∀a m,ZjD n c a m->Cls n a m g)/\g.2.2.1.length<4000000000:=by
 intro μ
 induction μ with
 |zero=>
  intro s i hμ hi hI hB _ hC hl;have:i=ys.length:=by omega
  subst this;refine⟨s,Zbx ?_,hI,hB,by rw[List.take_length]at hC;exact hC,by omega⟩;unfold Zgc
  simp only[Zax,cond_false]
 |succ μ ih=>
  intro s i hμ hi hI hB hlt hC hl;by_cases hend:i=ys.length
  ·subst hend;refine⟨s,Zbx ?_,hI,hB,by rw[List.take_length]at hC;exact hC,by omega⟩;unfold Zgc;simp only[Zax,cond_false]
  have hi' :i<ys.length:=by omega
  obtain⟨to,hto,hu,huk⟩:=Zpp hsort (by omega) (Ziw ys i);have hdi:Ziw ys i=(ys[i]).2.2.2.2.1:=by unfold Ziw;rw[Zaj hi']
  have hit:i<to:=(huk i hi').1 (Int.le_refl _)
  have hsl:sliceB ys.length ys.length (some (i:Int)) (some (to:Int))=some (i,to):=by unfold sliceB;simp only[if_pos (show (0:Int)<=(to:Int)/\(to:Int)<=(ys.length:Int) from ⟨by omega,by omega⟩),bind_some,Int.toNat_natCast];rw[if_pos (show (0:Int)<=(i:Int)/\(i:Int)<=(to:Int) from ⟨by omega,by omega⟩)]
  have hL: ∀c∈(ys.drop i).take (to - i), ∃a m,ZjD n c a m/\(Zac n a m).2.2.1=Ziw ys i:=by
   intro c hc;obtain⟨j,hj,rfl⟩:=List.getElem_of_mem hc;rw[List.length_take,List.length_drop]at hj;have hjl:i+j<ys.length:=by omega
   have e: ((ys.drop i).take (to - i))[j]'(by rw[List.length_take,List.length_drop];exact hj)=ys[i+j]:=by rw[List.getElem_take,List.getElem_drop]
   rw[e];obtain⟨a,m,hcon⟩:=ZsL (hys.mem_iff.1 (List.getElem_mem hjl));refine⟨a,m,hcon, ?_⟩;have h1:Ziw ys (i+j)=(ys[i+j]).2.2.2.2.1:=by unfold Ziw;rw[Zaj hjl]
   have h2: (ys[i+j]).2.2.2.2.1=(Zac n a m).2.2.1:=by rw[hcon.2.2.2];rfl
   have h3:Ziw ys i<=Ziw ys (i+j):=by
    by_cases e0:j=0
    ·subst e0;exact Int.le_refl _
    ·exact ZnH hsort (by omega) hjl
   have h4:=(huk (i+j) hjl).2 (by omega);omega
  have hLl: ((ys.drop i).take (to - i)).length<=60:=by rw[List.length_take,List.length_drop];omega
  have hI0:SI n s0 t0 w (s.1,s.2.1,s.2.2.1,s.2.2.2.1,s.2.2.2.2.1,s.2.2.2.2.2.1,false,()):=⟨hI.net,hI.pl,hI.rl,hI.out,⟨hI.snd.pls,hI.snd.brd⟩,hI.rc⟩;obtain⟨g,g1,g2,g3,g4,g5⟩:=Zt2 C hZ ((ys.drop i).take (to - i)) hL hLl hI0 (by show s.2.2.1.length+20000<_;omega);have hlab:g.2.2.1.length<=s.2.2.1.length+6060:=g4;have hpot:pot (Zih n t0 w) g<=pot (Zih n t0 w) s:=g2.pot;have hB' :Bas n s0 t0 w g:=hB.mono (f:=s) (g:=g) (V:=Zih n t0 w) (T:=Ziw ys i) |> fun _=>⟨g2.arr _ _ hB.1,g2.rdy _ _ hB.2.1,fun p hp=>(show Wlk s0 t0 g.2.2.2.1 p from fun a b=>⟨g2.arr _ _ (hB.2.2 p hp a b).1,g2.rdy _ _ (hB.2.2 p hp a b).2⟩)⟩
  have hold: ∀c∈ys.take i, ∀a m,ZjD n c a m->Cls n a m g:=by
   intro c hc a m hcon;have h0:=hC c hc a m hcon;obtain⟨j,hj,rfl⟩:=List.getElem_of_mem hc;rw[List.length_take]at hj;have hj' :j<i:=by omega
   have e: (ys.take i)[j]'(by rw[List.length_take];exact hj)=ys[j]'(by omega):=List.getElem_take;rw[e]at hcon
   have h1:Ziw ys j=(Zac n a m).2.2.1:=by unfold Ziw;rw[Zaj (show j<ys.length by omega),hcon.2.2.2];rfl
   have h2:=hlt j hj' i (Nat.le_refl i) hi';exact Cls.late (f:=(s.1,s.2.1,s.2.2.1,s.2.2.2.1,s.2.2.2.2.1,s.2.2.2.2.2.1,false,())) hcon.1 (by have:=hcon.2.1;omega) h0 g2 (by omega)
  have hstep:Zgc ys (s,(i:Int))=if g.2.2.2.2.2.2.1=true then some (.inl (g,(i:Int))) else some (.inl (g,(to:Int))):=by
   unfold Zgc;simp only[Zaw hi',cond_true,Zaf hi',bind_some];rw[<-hdi,hu];simp only[bind_some,hsl];rw[g1];simp only[bind_some]
   cases g.2.2.2.2.2.2.1<;>rfl
  cases hmv:g.2.2.2.2.2.2.1 with
  |true=>
   rw[if_pos hmv]at hstep;rw[ZcF hstep];have hfall:=g2.fall rfl hmv;have hfall' :pot (Zih n t0 w) g<pot (Zih n t0 w) s:=hfall
   exact ih (by omega) hi g3 hB' hlt hold (by omega)
  |false=>
   rw[if_neg (by rw[hmv];simp)]at hstep;rw[ZcF hstep];refine ih (by omega) hto g3 hB' (fun j hj k hk hkl=> ?_) (fun c hc a m hcon=> ?_) (by omega)
   ·have h1:=(huk j (by omega)).2 hj;have h2: ¬Ziw ys k<=Ziw ys i:=fun e=>by have:=(huk k hkl).1 e;omega
    omega
   ·have e:ys.take to=ys.take i++(ys.drop i).take (to - i):=by rw[<-List.take_add,show i+(to - i)=to by omega]
    rw[e]at hc;rcases List.mem_append.1 hc with hc|hc
    ·exact hold c hc a m hcon
    ·exact g5 hmv c hc a m hcon
abbrev q11:Zew:=(-1, -1, -1, -1, -1,())
abbrev b00:Zky:=(-1, -1,false,())
def Zvg(n:Zav)(k:Nat)(out:List (List Int)):Prop:=out.length=n.2.2.1.length/\ ∀ (i:Nat) ks,out[i]? =some ks->ks.length<=k/\ ∀x:Int,x∈ks↔(0<=x/\x< (k:Int))/\(lkI n x).1=(i:Int)
theorem ZqD{k:Nat}{out:List (List Int)}(h:Zvg n k out){a:Nat}(ha: (lkI n (k:Int)).1=(a:Int))(hl:a<out.length):Zvg n (k+1) (out.set a (out[a]++[(k:Int)])):=by
 refine⟨by rw[List.length_set];exact h.1,fun i ks hks=> ?_⟩
 have key: ∀ks' :List Int,out[a]? =some ks' ->(ks' ++[(k:Int)]).length<=k+1/\ ∀x:Int,x∈ks' ++[(k:Int)]↔(0<=x/\x< ((k+1:Nat):Int))/\(lkI n x).1=(a:Int):=by
  intro ks' hk';obtain⟨h1,h2⟩:=h.2 a _ hk';refine⟨by simp;exact h1,fun x=> ?_⟩;rw[List.mem_append,h2 x,List.mem_singleton];constructor
  ·rintro (⟨h3,h4⟩ |rfl)
   ·exact⟨by omega,h4⟩
   ·exact⟨by omega,ha⟩
  ·rintro ⟨h3,h4⟩;by_cases e:x=(k:Int)
   ·exact .inr e
   ·exact .inl ⟨by omega,h4⟩
 by_cases e:a=i
 ·subst e;rw[List.getElem?_set_self hl]at hks;cases hks;exact key _ (List.getElem?_eq_getElem hl)
 ·rw[List.getElem?_set_ne e]at hks;obtain⟨h1,h2⟩:=h.2 i ks hks;refine⟨by omega,fun x=> ?_⟩;rw[h2 x];constructor
  ·rintro ⟨h3,h4⟩;exact⟨by omega,h4⟩
  ·rintro ⟨h3,h4⟩;refine⟨⟨h3.1, ?_⟩,h4⟩;by_cases e' :x=(k:Int)
   ·subst e';omega
   ·omega
theorem Zsv{out:List (List Int)}(hl:n.2.2.2.1.length<=1024)(h:Zvg n n.2.2.2.1.length out):ZtC n out:=by refine⟨h.1,fun i ks hks=> ?_⟩;obtain⟨h1,h2⟩:=h.2 i ks hks;exact⟨by omega,fun x=>by rw[h2 x,Zeg]⟩
theorem Zuj(j:Nat):Zaq (Zlx (some (Int.toNat (j:Int))) j)=some ():=by rw[show Zlx (some (Int.toNat (j:Int))) j=true from Nat.beq_refl j];rfl
theorem Zsa{q:Za6}(C:Ctx n q.1 q.2.2.1 (bif q.2.2.2.2.2.2.2.2.2.1 then(Zb9 n q.1).2.2.2.1 else 0))(hZ:ZrX n):
  ∃g,F119 n q=some g/\SI n q.1 q.2.2.1 (bif q.2.2.2.2.2.2.2.2.2.1 then(Zb9 n q.1).2.2.2.1 else 0) g/\Bas n q.1 q.2.2.1 (bif q.2.2.2.2.2.2.2.2.2.1 then(Zb9 n q.1).2.2.2.1 else 0) g/\g.2.2.1.length<=100:=by
 have hS:=C.net.sound;have hrn:=hS.runs;have hst:=hS.stops;have hlk:=hS.links;have hcg:=C.net.change q.1 C.stop.1 C.stop.2;have hsi:idx n.1 q.1=some (Zb9 n q.1):=(Zff hS C.stop.1 C.stop.2).1;have hmx: (Zar:Int)=549755813888:=by simp [Zar]
 unfold F119
 have hg0:Zaq (decide ((0:Int)<=(n.2.2.1.length:Int)/\(n.2.2.1.length:Int)<=(n.2.2.1.length:Int)/\(n.2.2.1.length:Int)<=(Zar:Int)))=some ():=by rw[decide_eq_true (by rw[hmx];omega)];rfl
 refine bex (fun _=>True) ⟨(),hg0,trivial⟩ fun _ _=> ?_;refine bex (fun r:ScT=>r=(n,q,[],List.replicate n.1.length q11,[],List.replicate n.2.2.1.length [],false,())) ?_ ?_
 ·refine ZaX n.1.length _ (fun i (st:ScT×Int)=>st=((n,q,[],List.replicate i q11,[],List.replicate n.2.2.1.length [],false,()),(i:Int))) ?_ ?_ _ (by simp)
  ·rintro i _ hi rfl;left;simp only[Zaw hi,cond_true,Zai hi (show _<=9223372036854775807 by omega)];have hg:Zaq (decide (List.length (List.replicate i q11)+List.length [q11]<=Zar))=some ():=ZaW (by simp;omega);erw[hg];simp only[bind_some];exact⟨_,rfl,by rw[List.replicate_succ']⟩
  ·rintro _ rfl;simp only[Zax,cond_false];exact⟨_,rfl,rfl⟩
 intro f1 hf1;refine bex (fun r:ScT=>r=(n,q,[],List.replicate n.1.length q11,List.replicate n.2.2.1.length b00,List.replicate n.2.2.1.length [],false,())) ?_ ?_
 ·refine ZaX n.2.2.1.length _ (fun i (st:ScT×Int)=>st=((n,q,[],List.replicate n.1.length q11,List.replicate i b00,List.replicate n.2.2.1.length [],false,()),(i:Int))) ?_ ?_ _ (by rw[hf1];rfl)
  ·rintro i _ hi rfl;left;simp only[Zaw hi,cond_true,Zai hi (show _<=9223372036854775807 by omega)];have hg:Zaq (decide (List.length (List.replicate i b00)+List.length [b00]<=Zar))=some ():=ZaW (by simp;omega);erw[hg];simp only[bind_some];exact⟨_,rfl,by rw[List.replicate_succ']⟩
  ·rintro _ rfl;simp only[Zax,cond_false];exact⟨_,rfl,rfl⟩
 intro f2 hf2;refine bex (fun r:ScT=> ∃out,r=(n,q,[],List.replicate n.1.length q11,List.replicate n.2.2.1.length b00,out,false,())/\Zvg n n.2.2.2.1.length out) ?_ ?_
 ·refine ZaX n.2.2.2.1.length _ (fun i (st:ScT×Int)=>st.2=(i:Int)/\ ∃out,st.1=(n,q,[],List.replicate n.1.length q11,List.replicate n.2.2.1.length b00,out,false,())/\Zvg n i out) ?_ ?_ _ ⟨rfl,_,hf2, ?_⟩
  ·rintro i ⟨st,j⟩ hi ⟨hj,out,hst',hO⟩;simp only at hj hst';subst hj hst';left;have e1:lkI n (i:Int)=n.2.2.2.1[i]:=by unfold lkI;rw[Int.toNat_natCast,Zaj hi]
   obtain⟨a,c,b,d,st,e,ha,_⟩:=C.net.link _ (List.getElem_mem hi);have hao:a<out.length:=by rw[hO.1];exact ha
   have hks:=(hO.2 a _ (List.getElem?_eq_getElem hao)).1;simp only[Zaw hi,cond_true,Zaf hi,bind_some,Zai hi (show _<=9223372036854775807 by omega),e,ZaN hao,List.getElem?_eq_getElem hao,Zaf hao];have hg:Zaq (decide (List.length out[a]+List.length [(i:Int)]<=Zar))=some ():=ZaW (by simp;omega);rw[hg];simp only[bind_some,Zuj];exact⟨_,rfl,rfl,_,rfl,ZqD hO (by rw[e1,e]) hao⟩
  ·rintro ⟨st,j⟩ ⟨hj,out,hst',hO⟩;simp only at hj hst';subst hj hst';simp only[Zax,cond_false];exact⟨_,rfl,out,rfl,hO⟩
  ·refine⟨by simp,fun i ks hks=> ?_⟩;have:=List.eq_of_mem_replicate (List.mem_of_getElem? hks);subst this;exact⟨by simp,fun x=>⟨fun h=>(nomatch h),fun h=>by omega⟩⟩
 rintro f3 ⟨out,hf3,hO⟩;have hOk:=Zsv hlk hO;have ht:=C.time
 refine bex (fun r:ScT×Int=>r=(f3,q.2.2.1+(bif q.2.2.2.2.2.2.2.2.2.1 then(Zb9 n q.1).2.2.2.1 else 0))) ?_ ?_
 ·cases q.2.2.2.2.2.2.2.2.2.1 with
  |false=>exact⟨_,rfl,by simp⟩
  |true=>
   simp only[cond_true,hsi,bind_some];exact⟨_,rfl,by rw[Zak (by omega) (by omega)]⟩
 rintro _ rfl
 generalize (bif q.2.2.2.2.2.2.2.2.2.1 then(Zb9 n q.1).2.2.2.1 else 0)=w at*
 have hw:=C.wait;obtain⟨a,ha⟩: ∃a:Nat,q.1=(a:Int):=⟨q.1.toNat,by have:=C.stop;omega⟩;have hal:a<n.1.length:=by have:=C.stop;omega
 have e1:f3.1=n:=by rw[hf3]
 have e2:f3.2.2.1=[]:=by rw[hf3]
 have e3:f3.2.2.2.1=List.replicate n.1.length q11:=by rw[hf3]
 have e4:f3.2.2.2.2.1=List.replicate n.2.2.1.length b00:=by rw[hf3]
 have e5:f3.2.2.2.2.2.1=out:=by rw[hf3]
 have hp100:=hZ.paths
 have hI3:SI n q.1 q.2.2.1 w f3:=by
  refine⟨e1,by rw[e3];simp,by rw[e4];simp,by rw[e5];exact hOk,⟨fun s p hq' => ?_,fun i b hb=> ?_⟩,fun s p hq' hne=> ?_⟩
  ·rw[e3]at hq';rw[List.eq_of_mem_replicate (List.mem_of_getElem? hq')];exact⟨fun e=>absurd rfl e,fun e=>absurd rfl e,fun e=>absurd rfl e⟩
  ·rw[e4]at hb;rw[List.eq_of_mem_replicate (List.mem_of_getElem? hb)];exact fun e=>absurd rfl e
  ·rw[e3]at hq';rw[List.eq_of_mem_replicate (List.mem_of_getElem? hq')]at hne;exact absurd rfl hne
 have hVw: ∀p∈n.2.2.2.2.1,q.2.2.1+p.2.2.1∈Zih n q.2.2.1 w:=fun p hp=>List.mem_append_left _ (List.mem_cons_of_mem _ (List.mem_cons_of_mem _ (List.mem_map.2 ⟨p,hp,rfl⟩)));obtain⟨g,g1,g2,g3,g4,g5,g6⟩:=Zqe C (V:=Zih n q.2.2.1 w) (T:=0) (s:=q.1) (t:=q.2.2.1) (prev:= -1) (k:=0) (js:=[]) e1 hI3.pl (by omega) ht ht.1 hVw (by rw[e2];simp) (fun p hp' a1 a2=>⟨.arrW hp' a1 a2, .rdyW hp' a1 a2⟩) hI3.snd .nil;have hI4:=hI3.step g2 g3 (hI3.rc.step g2 g6);refine bex (fun r=>r=g) ⟨_,g1,rfl⟩ fun x hx=> ?_;rw[hx];have hag:a<g.2.2.2.1.length:=by rw[hI4.pl];exact hal
 have hw0:0<=q.2.2.1+w:=by omega
 have m2:=ZjV (n:=n) (V:=Zih n q.2.2.1 w) (T:=0) g hag ht.1 hw0 hw0 (List.mem_append_left _ (List.mem_cons_self ..)) (List.mem_append_left _ (List.mem_cons_of_mem _ (List.mem_cons_self ..))) (-1);have n2:=Zml hag ht.1 hw0 (-1);have h2:=g3.imp (i:=a) (a:=q.2.2.1) (r:=q.2.2.1+w) (l:= -1) ⟨0,[], .nil,by rw[<-ha];exact .here⟩ ⟨0,[], .nil,by rw[<-ha];exact .init⟩;have hI5:=hI4.step m2 h2 (hI4.rc.step m2 (Zia g a _ _ _));have hiv:=ZfL g hag q.2.2.1 (q.2.2.1+w) (-1);rw[<-ha]at hiv;rw[hiv];refine⟨_,rfl,hI5,⟨?_, ?_,fun p hp' =>(g4 p hp').mono m2⟩, ?_⟩
 ·rw[ha,Int.toNat_natCast];exact n2.1
 ·rw[ha,Int.toNat_natCast];exact n2.2
 ·show g.2.2.1.length<=100;rw[e2]at g5;simp only[List.length_nil,Nat.zero_add]at g5;omega
end Q
namespace Q
open Tr Go
open Option (bind_some)
variable {n:Zav}{s0 t0 w:Int}
noncomputable def Zs6(n:Zav)(q:Za6):Int:=bif !decide (Zkf n q=0) then Zkf n q else bif q.2.2.2.1 then 22 else 0
theorem Zou{n:Zav}(h:Fit n)(q:Za6):F109 n q=some (Zs6 n q):=by
 unfold F109 Zs6;rw[Zk3 h];simp only[bind_some]
 cases decide (Zkf n q=0)<;>cases q.2.2.2.1<;>rfl
theorem Zk1{n:Zav}(h:Fit n)(q:Za6):F103 n q=some (Zs6 n q):=by
 unfold F103 Zs6;rw[ZnF h];simp only[bind_some]
 cases decide (Zkf n q=0)<;>cases q.2.2.2.1<;>rfl
theorem ZqW{n:Zav}{q:Za6} :Zs6 n q=0↔Zkf n q=0/\q.2.2.2.1=false:=by
 unfold Zs6;by_cases h:Zkf n q=0
 ·rw[decide_eq_true h]
  cases q.2.2.2.1<;>simp [h]
 ·rw[decide_eq_false h];simp [h]
structure ZoX (n:Zav) (s0 t0 w:Int) (g:ScT):Prop where
 si:SI n s0 t0 w g
 lab:g.2.2.1.length<4000000000
 arr: ∀ {k:Nat}{s t:Int}{js:List ZaA},Der n s0 t0 w (.arr k s t) js->LeA g.2.2.2.1 s.toNat t
theorem Zub(C:Ctx n s0 t0 w){g:ScT}(hI:SI n s0 t0 w g)(hl:g.2.2.1.length<4000000000)(hB:Bas n s0 t0 w g)(hC: ∀i m,i<n.2.2.1.length->m+1< (Zan n i).length->ZbW n i=false->Cls n i m g):ZoX n s0 t0 w g:=by
 refine⟨hI,hl, ?_⟩
 have key: ∀ {f:ZqP}{js:List ZaA},Der n s0 t0 w f js->match f with
   | .rdy _ s r=>LeY g.2.2.2.1 s.toNat r
   | .brd _ i c _=>c+1< (Zan n i).length->LeB g.2.2.2.2.1 i (c:Int)
   | .lnk _ i c=>ZbW n i=false->LeB g.2.2.2.2.1 i (c:Int)
   | .on _ i c=>Vst n i c g
   | .rid _ s t=>LeA g.2.2.2.1 s.toNat t/\LeY g.2.2.2.1 s.toNat (t+(Zb9 n s).2.2.2.1)/\ ∀p∈n.2.2.2.2.1,Wlk s t g.2.2.2.1 p
   | .arr _ s t=>LeA g.2.2.2.1 s.toNat t:=by
  intro f js d
  induction d with
  |init=>exact hB.2.1
  |here=>exact hB.1
  |rdyW h1 h2 h3=>exact(hB.2.2 _ h1 h2 h3).2
  |arrW h1 h2 h3=>exact(hB.2.2 _ h1 h2 h3).1
  |board d h1 h2 h3 h4 h5 h6 ih=>
   intro hlast;refine(hC _ _ h1 hlast h3).1 h5 ?_;rw[h4]
   exact ih.weak h6
  | @on k i b c st js d h1 h2 ih=>
   obtain⟨x,x1,x2,x3⟩:=ih (by omega);obtain⟨c',rfl⟩: ∃c',c=c' +1:=⟨c - 1,by omega⟩;have hok:=C.ok d
   exact(hC i c' hok.2.1 h2 hok.2.2.2).2 ⟨x,x1,x2,by omega⟩
  |stay d h1 h2 h3 ih=>exact fun _=>ih.2 _ _ _ h1 h2 (.inl rfl) h3
  |link d h1 h2 h3 h4 ih=>exact fun hc=>ih.2 _ _ _ h2 h3 (.inr ⟨h1,h4⟩) hc
  |linked d h1 ih=>exact fun _=>ih h1
  |ride d h1 ih=>exact ih.1 h1
  |change d ih=>exact ih.2.1
  |rdyV d h1 h2 h3 ih=>exact(ih.2.2 _ h1 h2 h3).2
  |arrR d ih=>exact ih.1
  |arrV d h1 h2 h3 ih=>exact(ih.2.2 _ h1 h2 h3).1
 exact @fun _ _ _ _ d=>key d
theorem Zui(hZ:ZrX n){g:ScT}(hp:g.2.2.2.1.length=n.1.length)(hr:g.2.2.2.2.1.length=n.2.2.1.length)(hb: ∀b∈g.2.2.2.2.1,b.1<=40):pot (Zih n t0 w) g<=100032:=by
 have hm:=Zr3 (t0:=t0) (w:=w) hZ
 have h1: ∀l:List Zew,Zke (Zih n t0 w) l<=l.length*12444:=by
  intro l;unfold Zke
  induction l with
  |nil=>simp
  |cons p l ih=>
   have a:=ZpT (Zih n t0 w) p.1;have b:=ZpT (Zih n t0 w) p.2.2.1;simp only[List.map_cons,List.sum_cons,List.length_cons];omega
 have h2: ∀l:List Zky,(∀b∈l,b.1<=40)->Zl3 l<=l.length*40:=by
  intro l hl;unfold Zl3
  induction l with
  |nil=>simp
  |cons b l ih=>
   have:=ih (fun x hx=>hl x (by simp [hx]));have hb:=hl b (by simp)
   have:Zug b<=40:=by
    unfold Zug;split
    ·omega
    ·omega
   simp only[List.map_cons,List.sum_cons,List.length_cons];omega
 have a:=h1 g.2.2.2.1;have b:=h2 g.2.2.2.2.1 hb;have hs:=hZ.stops;have hn:=hZ.runs;unfold pot;have c:g.2.2.2.1.length*12444<=8*12444:=Nat.mul_le_mul_right _ (by omega);have d:g.2.2.2.2.1.length*40<=12*40:=Nat.mul_le_mul_right _ (by omega);omega
theorem ZnW{n:Zav}(h:ZrX n)(q:Za6):ZrX (Zbd n q):=by
 refine⟨h.stops,by show (n.2.2.1.map _).length<=_;rw[List.length_map];exact h.runs, ?_, ?_⟩
 ·show (Zd2 n q).length<=_;have:=h.paths;unfold Zd2;split
  ·exact Nat.le_trans (List.length_filter_le _ _) this
  ·exact this
 ·show ((n.2.2.1.map (Zca n q)).map _).sum<=_;rw[List.map_map]
  have: ((fun r:Zim=>r.2.2.2.2.2.2.2.1.length) ∘Zca n q)=fun r=>r.2.2.2.2.2.2.2.1.length:=by funext r;show ((r.2.2.2.2.2.2.2.1).map (ZbL n q)).length=_;rw[List.length_map]
  rw[this];exact h.calls
theorem Zuo{n:Zav}(h:Zdi n){s0:Int}(hs:0<=s0/\s0< (n.1.length:Int))(b:Bool):0<=(bif b then(Zb9 n s0).2.2.2.1 else 0)/\(bif b then(Zb9 n s0).2.2.2.1 else 0)<=3600:=by
 cases b with
 |false=>exact⟨by simp,by simp⟩
 |true=>exact h.change s0 hs.1 hs.2
theorem Zsu{n0:Zav}{q:Za6}(hfit:Fit n0)(hfew:Few n0)(hZ0:ZrX n0)(hq:Zs6 n0 q=0): ∃g,F110 n0 q=some (g,0)/\Ctx (Zbd n0 q) q.1 q.2.2.1 (bif q.2.2.2.2.2.2.2.2.2.1 then(Zb9 (Zbd n0 q) q.1).2.2.2.1 else 0)/\Whole n0/\qB n0.1.length q=true/\q.2.2.2.1=false/\
  ZoX (Zbd n0 q) q.1 q.2.2.1 (bif q.2.2.2.2.2.2.2.2.2.1 then(Zb9 (Zbd n0 q) q.1).2.2.2.1 else 0) g:=by
 have hck:=Zou hfit q;rw[hq]at hck;have hq0:=ZqW.1 hq;obtain⟨hw0,hqb⟩:=ZhF.1 hq0.1;have hcq:=Zk3 hfit q;rw[hq0.1]at hcq;have hal:=ZlP hw0.sound hfew q hcq;have hw:=ZlK q hfit.paths hw0;have hfa:=ZqR q hfit;have hn:=hw.ok;have hZ:=ZnW hZ0 q;have hqb' :=hqb;unfold qB inR at hqb';simp only[Bool.and_eq_true,decide_eq_true_eq]at hqb';obtain⟨hs0,_,ht0,hm,_⟩:=hqb';have hs0' :0<=q.1/\q.1< ((Zbd n0 q).1.length:Int):=hs0;have hwt:=Zuo hn hs0' q.2.2.2.2.2.2.2.2.2.1
 have C:Ctx (Zbd n0 q) q.1 q.2.2.1 (bif q.2.2.2.2.2.2.2.2.2.1 then(Zb9 (Zbd n0 q) q.1).2.2.2.1 else 0):=⟨hn,hs0',ht0,hwt⟩
 obtain⟨g0,s1,s2,s3,s4⟩:=Zsa C hZ;obtain⟨r,r1,_,_,r4⟩:=Zrv hfa
 have hr0:r.2.2=0:=by obtain⟨r',r1',_,r3'⟩:=Zgh _ hfa;rw[r1]at r1';cases r1';exact r3'.2 hw
 obtain⟨_,ys,y1,y2,y3⟩:=r4 hr0
 have hlen:ys.length<=60:=by have h1:=Zno (Zbd n0 q) _ (Nat.le_refl _);rw[List.take_length]at h1;have h2:=y2.length_eq;have h3:=hZ.calls;omega
 have hpot:pot (Zih (Zbd n0 q) q.2.2.1 (bif q.2.2.2.2.2.2.2.2.2.1 then(Zb9 (Zbd n0 q) q.1).2.2.2.1 else 0)) g0<=100032:=by
  refine Zui hZ s2.pl s2.rl fun b hb=> ?_;obtain⟨i,hi,rfl⟩:=List.getElem_of_mem hb;by_cases e: (g0.2.2.2.2.1[i]).1= -1
  ·rw[e];decide
  ·obtain⟨k,c,hc,js,_,hd⟩:=s2.snd.brd i _ (List.getElem?_eq_getElem hi) e;have hok:=C.ok hd
   have h32:c<32:=by have h1:=(hn.sound.many _ (List.getElem_mem hok.2.1)).2;have h2:=hok.2.2.1;rw[Zbi hok.2.1]at h2;exact Nat.lt_of_lt_of_le h2 h1
   rw[hc];omega
 obtain⟨g,g1,g2,g3,g4,g5⟩:=Zt4 C hZ y2 y3 hlen (100032+60) (s:=g0) (i:=0) (by omega) (Nat.zero_le _) s2 s3 (fun j hj=>absurd hj (Nat.not_lt_zero j)) (by simp) (by omega);refine⟨g, ?_,C,hw0,hqb,hq0.2,Zub C g2 g5 g3 fun i m hi hm hc=> ?_⟩
 ·unfold F110;rw[hck];simp only[bind_some,decide_true,Bool.not_true,cond_false];rw[hal];simp only[bind_some];rw[s1];simp only[bind_some];rw[y1];simp only[bind_some,decide_true,Bool.not_true,cond_false];refine Zbo (fun r=>r=g) ⟨_,g1,rfl⟩ fun r hr=>by rw[hr]
 ·exact g4 _ (y2.mem_iff.2 (ZtQ hi hm hc)) i m ⟨hi,hm,hc,rfl⟩
end Q
namespace Q
open Tr Go
open Option (bind_some)
theorem Zdn:F34=some true:=by kernel_rfl
theorem Zvh{n:Zav}(h:Zny Y31 n)(hp:n.2.2.2.2.1.length<=4096):Fit n:=by
 obtain⟨⟨_,h1⟩,⟨_,h2⟩,⟨_,h3⟩,_,_,⟨⟨_,h6⟩,_⟩,_⟩:=h;refine⟨fun x hx=> ?_,fun x hx=> ?_,fun x hx=> ?_,fun x hx=> ?_,hp,fun x hx=> ?_⟩
 ·exact(h1 x hx).1
 ·exact(h2 x hx).1
 ·exact(h3 x hx).2.2.2.1
 ·exact(h3 x hx).2.2.2.2.2.2.2.1.1
 ·exact(h6 x hx).1
def ZuA(g:ScT)(s:Nat):Zew:=(g.2.2.2.1[s]?).getD q11
def arrV(g:ScT)(s:Nat):Int:=(ZuA g s).1
def Zik(g:ScT):List Int:=g.2.2.2.1.map fun p=>p.1
theorem Zp0{n0:Zav}{q:Za6}{g:ScT}(h:F110 n0 q=some (g,0)): (F110S.f (n0,q,())).isSome=true:=by show (F110 n0 q).isSome=true;rw[h];rfl
theorem ZkR{n0:Zav}{q:Za6}{g:ScT}(hl:g.2.2.2.1.length<=64)(h:F110 n0 q=some (g,0)):F106 n0 q=some (Zik g,0):=by
 unfold F106;rw[Zp0 h,h];simp only[cond_true,bind_some,decide_true,Bool.not_true,cond_false];refine Zbo (fun r=>r=Zik g) ?_ (fun r hr=>by rw[hr]);refine ZaX g.2.2.2.1.length _ (fun i (st:List Int×List Zew×Int)=>st=((g.2.2.2.1.take i).map (fun p=>p.1),g.2.2.2.1,(i:Int))) ?_ ?_ _ rfl
 ·rintro i _ hi rfl;left;have hg:Zaq (decide (List.length ((g.2.2.2.1.take i).map fun p=>p.1)+List.length [(g.2.2.2.1[i]).1]<=Zar))=some ():=ZaW (by simp;omega);simp only[Zaw hi,cond_true,ZaN hi,bind_some,List.getElem?_eq_getElem hi,Zai hi (show _<=9223372036854775807 by omega),hg];exact⟨_,rfl,by rw[List.take_succ_eq_append_getElem hi,List.map_append];rfl⟩
 ·rintro _ rfl;simp only[Zax,cond_false,List.take_length];exact⟨_,rfl,rfl⟩
variable {n:Zav}{s0 t0 w:Int}{g:ScT}
theorem ZoX.idxA(D:ZoX n s0 t0 w g){s:Nat}(hs:s<n.1.length):idx (Zik g) (s:Int)=some (arrV g s):=by
 have hl:s<g.2.2.2.1.length:=by rw[D.si.pl];exact hs
 have hl2:s< (Zik g).length:=by unfold Zik;rw[List.length_map];exact hl
 have e: (Zik g)[s]=arrV g s:=by unfold arrV ZuA;rw[Zaj hl];simp [Zik]
 rw[Zaf hl2,e]
theorem ZoX.len(D:ZoX n s0 t0 w g): (Zik g).length=n.1.length:=by unfold Zik;rw[List.length_map,D.si.pl]
theorem ZoX.sound(D:ZoX n s0 t0 w g){s:Nat}(h:arrV g s≠ -1): ∃k js,Ch g.2.2.1 (ZuA g s).2.2.2.1 js/\Der n s0 t0 w (.arr k (s:Int) (arrV g s)) js:=by
 unfold arrV ZuA at*;by_cases hs:s<g.2.2.2.1.length
 ·rw[Zaj hs]at h ⊢;exact(D.si.snd.pls s _ (List.getElem?_eq_getElem hs)).arr h
 ·rw[List.getElem?_eq_none (by omega)]at h;exact absurd rfl h
theorem ZoX.complete(D:ZoX n s0 t0 w g){s:Nat}{k:Nat}{t:Int}{js:List ZaA}(d:Der n s0 t0 w (.arr k (s:Int) t) js):arrV g s≠ -1/\arrV g s<=t:=by obtain⟨p,p1,p2⟩:=D.arr d;rw[Int.toNat_natCast]at p1;unfold arrV ZuA;rw[p1];exact p2
theorem ZoX.nonneg(C:Ctx n s0 t0 w)(D:ZoX n s0 t0 w g)(s:Nat):arrV g s= -1\/0<=arrV g s/\arrV g s<=3155932800:=by
 by_cases h:arrV g s= -1
 ·exact .inl h
 right;obtain⟨k,js,_,d⟩:=D.sound h;exact(C.ok d).2
end Q
namespace Q
open Tr Go Gr
open Option (bind_some)
variable {n:Zav}{s0 t0 w:Int}{g:ScT}
end Q
namespace Q
open Tr Go
open Option (bind_some)
variable {n:Zav}{q:Za6}
end Q
namespace Q
open Tr Go
open Option (bind_some)
variable {n:Zav}{q:Za6}
end Q
namespace Q
open Tr Go
open Option (bind_some)
variable {n:Zav}{q:Za6}
end Q
namespace Q
open Tr Go
open Option (bind_some)
variable {n:Zav}{q:Za6}
end Q
namespace Q
open Tr Go
open Option (bind_some)
variable {n:Zav}{q:Za6}
end Q
namespace Q
open Tr Go
open Option (bind_some)
variable {n:Zav}{q:Za6}
end Q
namespace Q
open Tr Go
open Option (bind_some)
variable {n:Zav}{q:Za6}
theorem Zvv(ks:List ZaA)(x:ZaA):lg (ks++[x]) ks.length=x:=by unfold lg;simp
theorem ZuN(s t a b:Int): (Zgv s t a b).1=true->False:=fun e=>Bool.noConfusion e
end Q
namespace Q
open Tr Go
open Option (bind_some)
theorem Ch.len{lb:List Zo1}{l:Int}{js:List ZaA}(h:Ch lb l js): (js.length:Int)<=l+1:=by
 induction h with
 |nil=>simp
 |cons _ h2 _ ih=>simp only[List.length_append,List.length_cons,List.length_nil];omega
def Zt6(q:Za6)(L:List ZaA):Int:=if L.length=0 then q.2.2.1 else(lg L (L.length - 1)).2.2.2.2.2.2.2.1
theorem ZpZ(q:Za6){L:List ZaA}(hl:L.length<9000000000):F32 q (L,())=some (Zt6 q L):=by
 unfold F32 Zt6;by_cases h:L.length=0
 ·rw[if_pos h,decide_eq_true (show ((L.length:Int)=0) by omega)];rfl
 ·rw[if_neg h,decide_eq_false (show¬ ((L.length:Int)=0) by omega)];have w1:IntKind.wrap .i64 ((L.length:Int) - 1)=((L.length - 1:Nat):Int):=by rw[Zak (by omega) (by omega)];omega
  simp only[cond_false,w1,Zeu (show L.length - 1<L.length by omega),bind_some]
variable {n:Zav}{q:Za6}
end Q
namespace Q
open Tr Go
open Option (bind_some)
structure Tin (n:Zav):Prop where
 stops:n.1.length<=5
 runs:n.2.2.1.length<=7
 paths:n.2.2.2.2.1.length<=60
 calls: ∀i,i<n.2.2.1.length->(Zan n i).length<=6
variable {n:Zav}{q:Za6}
theorem ZvM{i:Nat}(hi:i<n.2.2.1.length):idx n.2.2.1 (i:Int)=some (rn n (i:Int)):=by rw[Zaf hi];unfold rn;rw[Int.toNat_natCast,Zaj hi]
theorem ZvJ{i c:Nat}(hc:c< (Zan n i).length):idx (rn n (i:Int)).2.2.2.2.2.2.2.1 (c:Int)=some (Zac n i c):=by
 have:idx (Zan n i) (c:Int)=some (Zac n i c):=by rw[Zaf hc,Zcd hc]
 exact this
theorem Zh6{β:Type}{f:Nat->List β}{c:Nat} : ∀ {i:Nat},(∀j,j<i->(f j).length<=c)->((List.range i).flatMap f).length<=i*c
 |0,_=>by simp
 |i+1,h=>by
  have:=Zh6 (f:=f) (c:=c) (i:=i) fun j hj=>h j (by omega);have h2:=h i (by omega);have e: [i].flatMap f=f i:=by simp
  rw[List.range_succ,List.flatMap_append,List.length_append,Nat.succ_mul,e];omega
theorem Zmy{β:Type}{step:List β×Int->Option ((List β×Int) ⊕ List β)}(acc:List β)(m n:Nat)(g:Nat->List β)(z:Int)(hz:z=(m:Int))
  (hstep: ∀i,i<n->step (acc++(List.range i).flatMap g,((m+i:Nat):Int))=some (.inl (acc++(List.range i).flatMap g++g i,((m+i+1:Nat):Int))))
  (hend:step (acc++(List.range n).flatMap g,((m+n:Nat):Int))=some (.inr (acc++(List.range n).flatMap g))):run step (acc,z)=some (acc++(List.range n).flatMap g):=by
 subst hz;refine Exists.elim (ZaX (step:=step) n (fun r=>r=acc++(List.range n).flatMap g) (fun i st=>st=(acc++(List.range i).flatMap g,((m+i:Nat):Int))) ?_ ?_ (acc,(m:Int)) (by simp)) ?_
 ·rintro i _ hi rfl;left;refine⟨_,hstep i hi, ?_⟩;rw[List.range_succ,List.flatMap_append,List.append_assoc];simp;omega
 ·rintro _ rfl;exact⟨_,hend,rfl⟩
 ·rintro r ⟨h1,rfl⟩;exact h1
theorem Zvk{α β:Type}{o:Option α}{f:α->Option β}{Q:β->Prop}(P:α->Prop)(h: ∃r,o=some r/\P r)(k: ∀r,P r-> ∃b,f r=some b/\Q b): ∃b,Option.bind o f=some b/\Q b:=by obtain⟨r,rfl,hr⟩:=h;exact k r hr
def Zdx(s t:Int)(p:Zb8):ZaA:=Zgv s p.2.1 t (IntKind.wrap .i64 (t+p.2.2.1))
def Zb4(n:Zav)(s t:Int):List ZaA:=(n.2.2.2.2.1.filter fun p=>decide (p.1=s)).map (Zdx s t)
theorem ZeJ(hp:n.2.2.2.2.1.length<=4096)(s t:Int):F101 n s t=some (Zb4 n s t):=by
 unfold F101;refine Zbo (fun r=>r=Zb4 n s t) ?_ (fun r hr=>by rw[hr]);refine ZaX n.2.2.2.2.1.length _ (fun i (st:List ZaA×Int)=>st=(((n.2.2.2.2.1.take i).filter fun p=>decide (p.1=s)).map (Zdx s t),(i:Int))) ?_ ?_ _ rfl
 ·rintro i _ hi rfl;left
  have hl: (((n.2.2.2.2.1.take i).filter fun p=>decide (p.1=s)).map (Zdx s t)).length<=4096:=by rw[List.length_map];have:=List.length_filter_le (fun p:Zb8=>decide (p.1=s)) (n.2.2.2.2.1.take i);rw[List.length_take]at this;omega
  have hg:Zaq (decide (List.length (((n.2.2.2.2.1.take i).filter fun p=>decide (p.1=s)).map (Zdx s t))+List.length [Zdx s t n.2.2.2.2.1[i]]<=Zar))=some ():=ZaW (by simp only[List.length_singleton];omega);unfold Zdx Zgv at hg;simp only[Zaw hi,cond_true,Zaf hi,bind_some,Zai hi (show _<=9223372036854775807 by omega)];rw[List.take_succ_eq_append_getElem hi,List.filter_append,List.map_append];by_cases h: (n.2.2.2.2.1[i]).1=s
  ·rw[decide_eq_true h];simp only[cond_true];unfold Zdx Zgv;rw[hg];refine⟨_,rfl, ?_⟩;rw[List.filter_cons,decide_eq_true h];rfl
  ·rw[decide_eq_false h];refine⟨_,rfl, ?_⟩;rw[List.filter_cons,decide_eq_false h];simp
 ·rintro _ rfl;simp only[Zax,cond_false,List.take_length];exact⟨_,rfl,rfl⟩
def ZfD(n:Zav)(i b:Nat):List ZaA:=(List.range ((Zan n i).length - (b+1))).map fun k=>Zcc n i b (b+1+k) false
def ZfS(n:Zav)(s t:Int)(i b:Nat):List ZaA:=if (Zac n i b).1=s/\t<=(Zac n i b).2.2.1 then ZfD n i b else []
def ZdM(n:Zav)(s t:Int)(i:Nat):List ZaA:=(List.range (Zan n i).length).flatMap (ZfS n s t i)
def Zcg(n:Zav)(s t:Int):List ZaA:=(List.range n.2.2.1.length).flatMap (ZdM n s t)
theorem Zrq(hT:Tin n){i:Nat}(hi:i<n.2.2.1.length)(s t:Int)(b:Nat): (ZfS n s t i b).length<=6:=by
 have:=hT.calls i hi;unfold ZfS ZfD;split
 ·rw[List.length_map,List.length_range];omega
 ·simp
theorem ZiB(hT:Tin n){i:Nat}(hi:i<n.2.2.1.length)(s t:Int){b:Nat}(hb:b<=(Zan n i).length): ((List.range b).flatMap (ZfS n s t i)).length<=36:=by have h1:=hT.calls i hi;have h2:=Zh6 (f:=ZfS n s t i) (c:=6) (i:=b) fun j _=>Zrq hT hi s t j;have:b*6<=6*6:=Nat.mul_le_mul_right _ (by omega);omega
theorem ZdZ(hT:Tin n)(s t:Int){i:Nat}(hi:i<=n.2.2.1.length): ((List.range i).flatMap (ZdM n s t)).length<=252:=by have h2:=Zh6 (f:=ZdM n s t) (c:=36) (i:=i) fun j hj=>ZiB hT (show j<n.2.2.1.length by omega) s t (Nat.le_refl _);have:=hT.runs;have:i*36<=7*36:=Nat.mul_le_mul_right _ (by omega);omega
theorem ZgR(hT:Tin n)(s t:Int):F97 n s t=some (Zcg n s t):=by
 have hr7:=hT.runs;unfold F97;refine Zbo (fun r=>r=Zcg n s t) ?_ (fun r hr=>by rw[hr]);refine⟨_,Zmy [] 0 n.2.2.1.length (ZdM n s t) 0 rfl ?_ ?_,by rw[List.nil_append];rfl⟩
 ·intro i hi;have hc6:=hT.calls i hi;simp only[List.nil_append,Nat.zero_add];simp only[Zaw hi,cond_true,ZvM hi,bind_some,Zai hi (show _<=9223372036854775807 by omega)];have hl0:=ZdZ hT s t (show i<=n.2.2.1.length by omega);refine Zbo (fun r=>r=(List.range i).flatMap (ZdM n s t)++ZdM n s t i) ?_ (fun r hr=>by rw[hr]);refine⟨_,Zmy ((List.range i).flatMap (ZdM n s t)) 0 (Zan n i).length (ZfS n s t i) 0 rfl ?_ ?_,rfl⟩
  ·intro b hb;have hl1:=ZiB hT hi s t (show b<=(Zan n i).length by omega)
   have hcl:decide (((0+b:Nat):Int)< ((rn n (i:Int)).2.2.2.2.2.2.2.1.length:Int))=true:=by rw[Nat.zero_add];exact Zaw hb
   simp only[hcl,cond_true];rw[Nat.zero_add];have hw:IntKind.wrap .i64 ((b:Int)+1)=((b+1:Nat):Int):=by rw[Zak (by omega) (by omega)];omega
   simp only[ZvJ hb,bind_some,hw];unfold ZfS;by_cases h1: (Zac n i b).1=s
   ·rw[decide_eq_true h1];by_cases h2: (Zac n i b).2.2.1<t
    ·rw[decide_eq_true h2,if_neg (by omega)];simp
    ·rw[decide_eq_false h2,if_pos ⟨h1,by omega⟩];simp only[Bool.not_true,cond_false,bind_some];refine Zbo (fun r=>r=(List.range i).flatMap (ZdM n s t)++(List.range b).flatMap (ZfS n s t i)++ZfD n i b) ?_ (fun r hr=>by rw[hr];rfl);refine⟨_,Zmy ((List.range i).flatMap (ZdM n s t)++(List.range b).flatMap (ZfS n s t i)) (b+1) ((Zan n i).length - (b+1)) (fun k=>[Zcc n i b (b+1+k) false]) _ rfl ?_ ?_,by rw[ZjC];rfl⟩
     ·intro k hk;have ha:b+1+k< (Zan n i).length:=by omega
      have hcl2:decide (((b+1+k:Nat):Int)< ((rn n (i:Int)).2.2.2.2.2.2.2.1.length:Int))=true:=Zaw ha;have hw2:IntKind.wrap .i64 (((b+1+k:Nat):Int)+1)=((b+1+k+1:Nat):Int):=by rw[Zak (by omega) (by omega)];omega
      simp only[hcl2,cond_true,ZvJ ha,bind_some,hw2];rw[ZjC];have hlk: ((List.range k).map fun k=>Zcc n i b (b+1+k) false).length<=6:=by simp;omega
      rw[ZaW (by simp only[List.length_append,List.length_singleton];omega)];simp only[bind_some];unfold Zcc;rw[h1]
     ·have:decide (((b+1+((Zan n i).length - (b+1)):Nat):Int)< ((rn n (i:Int)).2.2.2.2.2.2.2.1.length:Int))=false:=decide_eq_false (by have: (rn n (i:Int)).2.2.2.2.2.2.2.1.length=(Zan n i).length:=rfl;omega)
      simp only[this,cond_false]
   ·rw[decide_eq_false h1,if_neg (fun h=>h1 h.1)];simp
  ·have:decide (((0+(Zan n i).length:Nat):Int)< ((rn n (i:Int)).2.2.2.2.2.2.2.1.length:Int))=false:=decide_eq_false (by have: (rn n (i:Int)).2.2.2.2.2.2.2.1.length=(Zan n i).length:=rfl;omega)
   simp only[this,cond_false]
 ·simp only[Nat.zero_add,Zax,cond_false]
end Q
namespace Q
open Tr Go
open Option (bind_some)
variable {n:Zav}{q:Za6}
theorem Znb(L:List ZaA)(x:ZaA)(h:L.length<=1000):F102 (L,()) x=some (L++[x],()):=by
 unfold F102
 have h1:Zaq (decide (List.length ([]:List Unit)+List.length L<=Zar))=some ():=by rw[decide_eq_true (show List.length ([]:List Unit)+List.length L<=Zar by simp only[List.length_nil,Zar];omega)];rfl
 have h2:Zaq (decide (List.length (([]:List ZaA)++L)+List.length [x]<=Zar))=some ():=ZaW (by simp;omega);erw[h1];simp only[bind_some];erw[h2];rfl
def Zd8(r:Int):List ZaA->Bool
 | []=>false
 |y::l=>if y.2.1=r then true else if Zbj y=true then Zd8 r l else false
def Zkq(L:List ZaA)(x:ZaA):Bool:=Zbj x&&Zd8 x.2.1 L.reverse
theorem ZqM(L:List ZaA)(x:ZaA)(h:L.length<=1000):F86 (L,()) x=some (Zkq L x):=by
 unfold F86 Zkq
 have key: ∀k,k<=L.length->run (fun s0:Int=>
 Option.bind (bif decide ((0:Int)<=s0) then some x.2.2.2.2.2.2.2.2.1 else some false) fun x1=>
 bif x1 then
 Option.bind (idx L s0) fun x2=>
 bif decide (x2.2.1=x.2.1) then some (.inr (.inr true))
 else
 Option.bind (idx L s0) fun x3=>
 bif !x3.2.2.2.2.2.2.2.2.1 then some (.inr (.inr false)) else some (.inl (IntKind.wrap .i64 (s0 - (1:Int))))
 else some (.inr (.inl ()))) ((k:Int) - 1)=some (if x.2.2.2.2.2.2.2.2.1=true/\Zd8 x.2.1 (L.take k).reverse=true then(.inr true:Unit ⊕ Bool) else if x.2.2.2.2.2.2.2.2.1=true/\ ∃y∈L.take k,Zbj y=false then .inr false else .inl ()):=by
  intro k
  induction k with
  |zero=>
   intro _;refine(Zbx (r:= .inl ()) ?_).trans ?_
   ·rw[decide_eq_false (show¬ (0:Int)<=((0:Nat):Int) - 1 by omega)];rfl
   ·simp [Zd8]
  |succ k ih=>
   intro hk;have hkl:k<L.length:=by omega
   have ec: ((k+1:Nat):Int) - 1=(k:Int):=by omega
   rw[ec];have etk:L.take (k+1)=L.take k++[L[k]]:=List.take_succ_eq_append_getElem hkl;have et: (L.take (k+1)).reverse=L[k]::(L.take k).reverse:=by rw[etk,List.reverse_append];rfl
   have h0:decide ((0:Int)<=(k:Int))=true:=decide_eq_true (by omega)
   cases hs:x.2.2.2.2.2.2.2.2.1 with
   |false=>
    refine(Zbx (r:= .inl ()) ?_).trans ?_
    ·rw[h0];rfl
    ·simp
   |true=>
    rw[et];by_cases h1: (L[k]).2.1=x.2.1
    ·refine(Zbx (r:= .inr true) ?_).trans ?_
     ·rw[h0];simp only[cond_true,bind_some,Zaf hkl,decide_eq_true h1]
     ·simp [Zd8,h1]
    ·cases h2:Zbj L[k] with
     |false=>
      have h2' : (L[k]).2.2.2.2.2.2.2.2.1=false:=h2;refine(Zbx (r:= .inr false) ?_).trans ?_
      ·rw[h0];simp only[cond_true,bind_some,Zaf hkl,decide_eq_false h1,cond_false,h2',Bool.not_false]
      ·rw[if_neg (by simp [Zd8,h1,h2]),if_pos ⟨rfl,L[k],by rw[etk];exact List.mem_append_right _ (List.mem_singleton.2 rfl),h2⟩]
     |true=>
      have h2' : (L[k]).2.2.2.2.2.2.2.2.1=true:=h2;have hw:IntKind.wrap .i64 ((k:Int) - 1)=(k:Int) - 1:=Zak (by omega) (by omega);refine(ZcF (s' :=(k:Int) - 1) ?_).trans ?_
      ·rw[h0];simp only[cond_true,bind_some,Zaf hkl,decide_eq_false h1,cond_false,h2',Bool.not_true,hw]
      have h3:=ih (by omega);rw[hs]at h3;rw[h3]
      have e: (∃y∈L.take (k+1),Zbj y=false)↔ ∃y∈L.take k,Zbj y=false:=by
       rw[etk];constructor
       ·rintro ⟨y,hy,h3⟩;rcases List.mem_append.1 hy with hy|hy
        ·exact⟨y,hy,h3⟩
        ·rw[List.mem_singleton.1 hy,h2]at h3;cases h3
       ·rintro ⟨y,hy,h3⟩;exact⟨y,List.mem_append_left _ hy,h3⟩
      have eg:Zd8 x.2.1 (L[k]::(L.take k).reverse)=Zd8 x.2.1 (L.take k).reverse:=by
       show (if (L[k]).2.1=x.2.1 then true else if Zbj L[k]=true then _ else false)=_
       rw[if_neg h1,if_pos h2]
      rw[eg];simp only[true_and,e]
 have hw:IntKind.wrap .i64 ((L.length:Int) - 1)=(L.length:Int) - 1:=Zak (by omega) (by omega);rw[hw,key L.length (Nat.le_refl _),List.take_length];simp only[bind_some]
 cases hs:x.2.2.2.2.2.2.2.2.1 with
 |false=>
  have:Zbj x=false:=hs
  rw[this];simp
 |true=>
  have:Zbj x=true:=hs;rw[this]
  cases hg:Zd8 x.2.1 L.reverse with
  |true=>simp
  |false=>
   simp only[Bool.true_and,true_and];rw[if_neg (by simp)]
   split<;>rfl
theorem ZlE{L:List ZaA}(hl:L.length<=1000):F98 (L,())=some (ZaG L:Int):=by
 unfold F98;refine Zbo (fun r=>r=(ZaG L:Int)) ?_ (fun r hr=>by rw[hr]);refine ZaX L.length _ (fun i (st:Int×Int)=>st=((ZaG (L.take i):Int),(i:Int))) ?_ ?_ _ rfl
 ·rintro i _ hi rfl;left
  have hb:ZaG (L.take i)<=L.length:=by unfold ZaG;have:=List.length_filter_le Zin (L.take i);rw[List.length_take]at this;omega
  have w1:IntKind.wrap .i64 ((ZaG (L.take i):Int)+1)=((ZaG (L.take i)+1:Nat):Int):=by rw[Zak (by omega) (by omega)];omega
  simp only[Zaw hi,cond_true,Zaf hi,bind_some,Zai hi (show _<=9223372036854775807 by omega),w1];rw[List.take_succ_eq_append_getElem hi,Zb3]
  have e:ZaG [L[i]]=if Zin L[i] then 1 else 0:=by
   unfold ZaG
   cases h:Zin L[i]<;>simp [h]
  rw[e];unfold Zin Zbj
  cases L[i].1 with
  |false=>exact⟨_,rfl,rfl⟩
  |true=>
   cases L[i].2.2.2.2.2.2.2.2.1 with
   |true=>exact⟨_,rfl,rfl⟩
   |false=>exact⟨_,rfl,rfl⟩
 ·rintro _ rfl;simp only[Zax,cond_false,List.take_length];exact⟨_,rfl,rfl⟩
def ZnX(n:Zav)(q:Za6)(L:List ZaA)(i:Nat):Prop:=atE n q L i=0\/(i+1=L.length/\(atE n q L i=26\/atE n q L i=29))
def Zk2(n:Zav)(q:Za6)(L:List ZaA):Prop:=(∀i,i<L.length->ZnX n q L i)/\(ZaG L:Int)<=q.2.2.2.2.1/\Zp2 L<=q.2.2.2.2.2.1/\(q.2.2.2.1=true->(lg L (L.length - 1)).2.2.2.2.2.2.2.1<=q.2.2.1)
theorem Zme(hS:ZcX n)(hp:n.2.2.2.2.1.length<=4096)(hq:inR q.1 n.1.length=true){L:List ZaA}(h0:0<L.length)(hj:L.length<=1000): ∃b,F92 n q (L,())=some b/\(b=true↔Zk2 n q L):=by
 unfold F92;refine Zvk (fun r:Unit ⊕ Bool=>(r= .inl ()/\ ∀i,i<L.length->ZnX n q L i)\/(r= .inr false/\ ¬ ∀i,i<L.length->ZnX n q L i)) ?_ ?_
 rotate_left
 ·rintro r (⟨rfl,ha⟩ | ⟨rfl,ha⟩)
  ·simp only[Sum.elim_inl,ZlE hj,bind_some,Zht L hj];by_cases h1: (ZaG L:Int)<=q.2.2.2.2.1
   ·rw[decide_eq_true h1];by_cases h2:Zp2 L<=q.2.2.2.2.2.1
    ·rw[decide_eq_true h2]
     cases hb:q.2.2.2.1 with
     |false=>exact⟨true,rfl,by simp only[true_iff];exact⟨ha,h1,h2,fun e=>by rw[hb]at e;cases e⟩⟩
     |true=>
      have w1:IntKind.wrap .i64 ((L.length:Int) - 1)=((L.length - 1:Nat):Int):=by rw[Zak (by omega) (by omega)];omega
      simp only[cond_true,Bool.not_true,cond_false,w1,Zeu (show L.length - 1<L.length by omega),bind_some];refine⟨_,rfl, ?_⟩;rw[decide_eq_true_eq];exact⟨fun h=>⟨ha,h1,h2,fun _=>h⟩,fun h=>h.2.2.2 hb⟩
    ·rw[decide_eq_false h2];exact⟨false,rfl,by simp only[Bool.false_eq_true,false_iff];exact fun h=>h2 h.2.2.1⟩
   ·rw[decide_eq_false h1];exact⟨false,rfl,by simp only[Bool.false_eq_true,false_iff];exact fun h=>h1 h.2.1⟩
  ·exact⟨false,rfl,by simp only[Bool.false_eq_true,false_iff];exact fun h=>ha h.1⟩
 refine ZaX L.length _ (fun i (st:Int)=>st=(i:Int)/\ ∀j,j<i->ZnX n q L j) ?_ ?_ _ ⟨rfl,fun j hj=>absurd hj (Nat.not_lt_zero j)⟩
 ·rintro i _ hi ⟨rfl,ha⟩;simp only[Zaw hi,cond_true,Zkv hS hp hq hi hj,bind_some,Zai hi (show _<=9223372036854775807 by omega)]
  have hyes:ZnX n q L i-> ∀j,j<i+1->ZnX n q L j:=fun h j hj=>by
   by_cases e:j=i
   ·subst e;exact h
   ·exact ha j (by omega)
  by_cases h1:atE n q L i=0
  ·left;rw[decide_eq_true h1];exact⟨_,rfl,rfl,hyes (.inl h1)⟩
  ·rw[decide_eq_false h1];by_cases h2:i+1<L.length
   ·right;rw[decide_eq_true (show ((i+1:Nat):Int)< (L.length:Int) by omega)]
    exact⟨_,rfl, .inr ⟨rfl,fun h=>by
     rcases h i hi with h|h
     ·exact h1 h
     ·omega⟩⟩
   ·rw[decide_eq_false (show¬ ((i+1:Nat):Int)< (L.length:Int) by omega)];by_cases h3:atE n q L i=26
    ·left;rw[decide_eq_true h3];exact⟨_,rfl,rfl,hyes (.inr ⟨by omega, .inl h3⟩)⟩
    ·rw[decide_eq_false h3];by_cases h4:atE n q L i=29
     ·left;rw[decide_eq_true h4];exact⟨_,rfl,rfl,hyes (.inr ⟨by omega, .inr h4⟩)⟩
     ·right;rw[decide_eq_false h4]
      exact⟨_,rfl, .inr ⟨rfl,fun h=>by
       rcases h i hi with h| ⟨_,h|h⟩
       ·exact h1 h
       ·exact h3 h
       ·exact h4 h⟩⟩
 ·rintro _ ⟨rfl,ha⟩;simp only[Zax,cond_false];exact⟨_,rfl, .inl ⟨rfl,ha⟩⟩
end Q
namespace Q
open Tr Go
open Option (bind_some)
variable {n:Zav}{q:Za6}
def Zcj(x:ZaA):ZaA:=(x.1,x.2.1,x.2.2.1,x.2.2.2.1,x.2.2.2.2.1,x.2.2.2.2.2.1,x.2.2.2.2.2.2.1,x.2.2.2.2.2.2.2.1,true,x.2.2.2.2.2.2.2.2.2)
def Zce(n:Zav)(x:ZaA):List ZaA:=Zcg n x.2.2.2.2.2.1 x.2.2.2.2.2.2.2.1++if x.1=true then Zb4 n x.2.2.2.2.2.1 x.2.2.2.2.2.2.2.1 else []
def Zo4(n:Zav)(q:Za6)(L:List ZaA)(l:ZaA):List (List ZaA×Unit):=if atE n q (L++[l]) (L.length - 1)=0/\atE n q (L++[l]) L.length≠28 then [(L++[l],())] else []
def ZlA(n:Zav)(L:List ZaA)(x l:ZaA):List (List ZaA×Unit):=if (l.1=true/\l.2.2.1=0/\x.1=true)/\Zkq L (Zcj l)=false/\Zbh n x (Zcj l)=0 then [(L++[Zcj l],())] else []
def Zni(n:Zav)(q:Za6)(L:List ZaA)(x l:ZaA):List (List ZaA×Unit):=Zo4 n q L l++ZlA n L x l
def Zo2(n:Zav)(q:Za6)(L:List ZaA):List (List ZaA×Unit):=(Zce n (lg L (L.length - 1))).flatMap (Zni n q L (lg L (L.length - 1)))
theorem Zsy(L:List ZaA)(x l:ZaA): (Zni n q L x l).length<=2:=by
 unfold Zni Zo4 ZlA;rw[List.length_append]
 split<;>split<;>simp
theorem Zc5{α β:Type}{f:α->List β}{c:Nat}(h: ∀x,(f x).length<=c): ∀l:List α,(l.flatMap f).length<=l.length*c
 | []=>by simp
 |x::l=>by have:=Zc5 h l;have h2:=h x;rw[List.flatMap_cons,List.length_append,List.length_cons,Nat.succ_mul];omega
theorem Ze1(hT:Tin n)(s t:Int): (Zb4 n s t).length<=60:=by unfold Zb4;rw[List.length_map];exact Nat.le_trans (List.length_filter_le _ _) hT.paths
theorem Zn9(hT:Tin n)(x:ZaA): (Zce n x).length<=312:=by
 unfold Zce;rw[List.length_append];have h1:=ZdZ hT x.2.2.2.2.2.1 x.2.2.2.2.2.2.2.1 (Nat.le_refl _);have h2:=Ze1 hT x.2.2.2.2.2.1 x.2.2.2.2.2.2.2.1;unfold Zcg;split
 ·omega
 ·simp only[List.length_nil];omega
theorem Zfe{s t:Int}{x:ZaA}(h:x∈Zcg n s t): ∃i b c,i<n.2.2.1.length/\b<c/\c< (Zan n i).length/\(Zac n i b).1=s/\t<=(Zac n i b).2.2.1/\x=Zcc n i b c false:=by
 unfold Zcg at h;obtain⟨i,hi,h⟩:=List.mem_flatMap.1 h;unfold ZdM at h;obtain⟨b,hb,h⟩:=List.mem_flatMap.1 h;rw[List.mem_range]at hi hb;unfold ZfS at h;split at h
 ·next hc=>
  unfold ZfD at h;obtain⟨k,hk,rfl⟩:=List.mem_map.1 h;rw[List.mem_range]at hk;exact⟨i,b,b+1+k,hi,by omega,by omega,hc.1,hc.2,rfl⟩
 ·exact absurd h (by simp)
theorem Ze0{s t:Int}{x:ZaA}(h:x∈Zb4 n s t): ∃p∈n.2.2.2.2.1,p.1=s/\x=Zdx s t p:=by unfold Zb4 at h;obtain⟨p,hp,rfl⟩:=List.mem_map.1 h;rw[List.mem_filter,decide_eq_true_eq]at hp;exact⟨p,hp.1,hp.2,rfl⟩
theorem Zps(hN:Zdi n){x l:ZaA}(h:l∈Zce n x)(hl:l.1=true):inR (Zcj l).2.2.2.2.1 n.1.length=true:=by
 unfold Zce at h;rcases List.mem_append.1 h with h|h
 ·obtain⟨i,b,c,h1,h2,h3,h4,h5,rfl⟩:=Zfe h;have:=hN.stop h1 (show b< (Zan n i).length by omega);exact Zeg.2 this
 ·split at h
  ·obtain⟨p,hp,_,rfl⟩:=Ze0 h;cases hl
  ·exact absurd h (by simp)
theorem ZoS(hT:Tin n)(hN:Zdi n)(hlk:n.2.2.2.1.length<=4096)(hq:inR q.1 n.1.length=true){L:List ZaA}(h0:0<L.length)(hj:L.length<=900):F89 n q (L,())=some (Zo2 n q L):=by
 have hpp:n.2.2.2.2.1.length<=4096:=by have:=hT.paths;omega
 unfold F89;have w1:IntKind.wrap .i64 ((L.length:Int) - 1)=((L.length - 1:Nat):Int):=by rw[Zak (by omega) (by omega)];omega
 simp only[w1,Zeu (show L.length - 1<L.length by omega),bind_some,ZgR hT];unfold Zo2;generalize hx:lg L (L.length - 1)=x;have hnl:=Zn9 hT x;have hr:=ZdZ hT x.2.2.2.2.2.1 x.2.2.2.2.2.2.2.1 (Nat.le_refl _);have hr' : (Zcg n x.2.2.2.2.2.1 x.2.2.2.2.2.2.2.1).length<=252:=hr;have hw:=Ze1 hT x.2.2.2.2.2.1 x.2.2.2.2.2.2.2.1;refine Zbo (fun r:List (List ZaA×Unit) ×List ZaA=>r=([],Zce n x)) ?_ ?_
 ·unfold Zce
  cases h1:x.1 with
  |true=>
   simp only[cond_true,ZeJ hpp,bind_some,if_true];rw[ZaW (by omega)]
   exact⟨_,rfl,rfl⟩
  |false=>exact⟨_,rfl,by simp⟩
 rintro _ rfl;refine Zbo (fun r=>r=(Zce n x).flatMap (Zni n q L x)) ?_ (fun r hr=>by rw[hr]);have hmem: ∀i (hi:i< (Zce n x).length),(Zce n x)[i]∈Zce n x:=fun i hi=>List.getElem_mem hi;have hfr:=fun i (hi:i< (Zce n x).length)=>Zps hN (hmem i hi);generalize Zce n x=N at*;refine ZaX N.length _ (fun i (st:List (List ZaA×Unit) ×List ZaA×Int)=> ∃cur,st=((N.take i).flatMap (Zni n q L x),cur,(i:Int))/\cur.length=N.length/\ ∀k,i<=k->cur[k]? =N[k]?) ?_ ?_ _ ⟨N,rfl,rfl,fun _ _=>rfl⟩
 ·rintro i _ hi ⟨cur,rfl,hc1,hc2⟩;left;have hci:i<cur.length:=by omega
  have hxi:cur[i]? =some N[i]:=by rw[hc2 i (Nat.le_refl _),List.getElem?_eq_getElem hi]
  have hol: ((N.take i).flatMap (Zni n q L x)).length<=700:=by have:=Zc5 (f:=Zni n q L x) (c:=2) (fun l=>Zsy L x l) (N.take i);rw[List.length_take]at this;omega
  have hfi:=hfr i hi;have hdi:decide ((i:Int)< (cur.length:Int))=true:=decide_eq_true (by omega)
  have et: (N.take (i+1)).flatMap (Zni n q L x)=(N.take i).flatMap (Zni n q L x)++Zni n q L x N[i]:=by rw[List.take_succ_eq_append_getElem hi,List.flatMap_append];simp
  have hrest: ∀v k,i+1<=k->(cur.set i v)[k]? =N[k]? :=fun v k hk=>by rw[List.getElem?_set_ne (by omega)];exact hc2 k (by omega)
  rw[et];generalize hO: (N.take i).flatMap (Zni n q L x)=O at*;generalize hl:N[i]=l at*;have ha1:F87 n q (L++[l],()) ((L.length - 1:Nat):Int)=some (atE n q (L++[l]) (L.length - 1)):=Zkv hN.sound hpp hq (by simp;omega) (by simp;omega);have ha2:F87 n q (L++[l],()) (L.length:Int)=some (atE n q (L++[l]) L.length):=Zkv hN.sound hpp hq (by simp) (by simp;omega);simp only[hdi,cond_true,ZaN hci,bind_some,hxi,Znb L l (by omega),ha1,ha2];refine Zhz (fun b=>b=decide (atE n q (L++[l]) (L.length - 1)=0/\atE n q (L++[l]) L.length≠28)) ?_ ?_
  ·by_cases c1:atE n q (L++[l]) (L.length - 1)=0
   ·rw[decide_eq_true c1];by_cases c2:atE n q (L++[l]) L.length=28
    ·rw[decide_eq_true c2];exact⟨_,rfl,by simp [c2]⟩
    ·rw[decide_eq_false c2];exact⟨_,rfl,by simp [c1,c2]⟩
   ·rw[decide_eq_false c1];exact⟨_,rfl,by simp [c1]⟩
  rintro _ rfl;refine Zhz (fun r:List (List ZaA×Unit) ×List ZaA=>r=(O++Zo4 n q L l,cur)) ?_ ?_
  ·unfold Zo4;by_cases c:atE n q (L++[l]) (L.length - 1)=0/\atE n q (L++[l]) L.length≠28
   ·rw[decide_eq_true c,if_pos c];simp only[cond_true];rw[ZaW (by simp;omega)];exact⟨_,rfl,rfl⟩
   ·rw[decide_eq_false c,if_neg c];exact⟨_,rfl,by simp⟩
  rintro _ rfl
  have hal: (Zo4 n q L l).length<=1:=by unfold Zo4;split<;>simp
  refine Zhz (fun b=>b=decide (l.1=true/\l.2.2.1=0/\x.1=true)) ?_ ?_
  ·simp only[ZaN hci,bind_some,hxi]
   cases c1:l.1 with
   |false=>exact⟨_,rfl,by simp⟩
   |true=>
    simp only[cond_true];by_cases c2:l.2.2.1=0
    ·rw[decide_eq_true c2];exact⟨_,rfl,by simp [c2]⟩
    ·rw[decide_eq_false c2];exact⟨_,rfl,by simp [c2]⟩
  rintro _ rfl;unfold Zni;rw[<-List.append_assoc];by_cases c:l.1=true/\l.2.2.1=0/\x.1=true
  ·rw[decide_eq_true c];have hset: (cur.set i (Zcj l))[i]? =some (Zcj l):=ZlO hci _;have hsl:i< (cur.set i (Zcj l)).length:=by rw[List.length_set];exact hci
   have hset' :=hset;have hsl' :=ZaN hsl;unfold Zcj at hset' hsl';simp only[cond_true,ZaN hci,bind_some,hxi,hsl',hset'];have hf:Zbh n x (Zcj l)=Zbh n x (Zcj l):=rfl;have ew:F102 (L,()) (l.1,l.2.1,l.2.2.1,l.2.2.2.1,l.2.2.2.2.1,l.2.2.2.2.2.1,l.2.2.2.2.2.2.1,l.2.2.2.2.2.2.2.1,true,l.2.2.2.2.2.2.2.2.2)=some (L++[Zcj l],()):=Znb L (Zcj l) (by omega);have ea:F86 (L,()) (l.1,l.2.1,l.2.2.1,l.2.2.2.1,l.2.2.2.2.1,l.2.2.2.2.2.1,l.2.2.2.2.2.2.1,l.2.2.2.2.2.2.2.1,true,l.2.2.2.2.2.2.2.2.2)=some (Zkq L (Zcj l)):=ZqM L (Zcj l) (by omega);have ef:F91 n x (l.1,l.2.1,l.2.2.1,l.2.2.2.1,l.2.2.2.2.1,l.2.2.2.2.2.1,l.2.2.2.2.2.2.1,l.2.2.2.2.2.2.2.1,true,l.2.2.2.2.2.2.2.2.2)=some (Zbh n x (Zcj l)):=Zi4 hlk (hfi c.1)
   simp only[ew,ea,bind_some];unfold ZlA
   cases hag:Zkq L (Zcj l) with
   |true=>
    rw[if_neg (fun h=>by cases h.2.1)];simp only[Bool.not_true,cond_false,bind_some];rw[Zai hi (by omega)]
    exact⟨_,rfl,_,by rw[List.append_nil],by rw[List.length_set];exact hc1,fun k hk=>hrest _ k hk⟩
   |false=>
    simp only[Bool.not_false,cond_true,ef,bind_some];by_cases hfo:Zbh n x (Zcj l)=0
    ·rw[decide_eq_true hfo,if_pos (by exact⟨c,by simp,hfo⟩)];simp only[cond_true];rw[ZaW (by simp;omega),Zai hi (by omega)];exact⟨_,rfl,_,rfl,by rw[List.length_set];exact hc1,fun k hk=>hrest _ k hk⟩
    ·rw[decide_eq_false hfo,if_neg (fun h=>hfo h.2.2)];simp only[cond_false];rw[Zai hi (by omega)];exact⟨_,rfl,_,by rw[List.append_nil],by rw[List.length_set];exact hc1,fun k hk=>hrest _ k hk⟩
  ·rw[decide_eq_false c];unfold ZlA;rw[if_neg (fun h=>c h.1),List.append_nil,Zai hi (by omega)];exact⟨_,rfl,_,rfl,hc1,fun k hk=>hc2 k (by omega)⟩
 ·rintro _ ⟨cur,rfl,hc1,hc2⟩;have:decide ((N.length:Int)< (cur.length:Int))=false:=decide_eq_false (by omega);simp only[this,cond_false];exact⟨_,rfl,by rw[List.take_length]⟩
def Zol(q:Za6):Int:=if q.2.2.2.1=true then 0 else q.2.2.1
def ZkE(w x:ZaA):ZaA:=(w.1,w.2.1,w.2.2.1,w.2.2.2.1,w.2.2.2.2.1,w.2.2.2.2.2.1,IntKind.wrap .i64 (x.2.2.2.2.2.2.1 - w.2.2.2.2.2.2.2.1),x.2.2.2.2.2.2.1,w.2.2.2.2.2.2.2.2)
def Zd6(n:Zav)(q:Za6):List (List ZaA×Unit):=(Zcg n q.1 (Zol q)).map fun x=>([x],())
def ZcK(n:Zav)(q:Za6)(w:ZaA):List (List ZaA×Unit):=(Zcg n w.2.2.2.2.2.1 (Zol q)).map fun x=>([ZkE w x,x],())
def ZeH(n:Zav)(q:Za6):List (List ZaA×Unit):=Zd6 n q++(Zb4 n q.1 0).flatMap (ZcK n q)
theorem ZiI(hT:Tin n)(w:ZaA): (ZcK n q w).length<=252:=by unfold ZcK;rw[List.length_map];exact ZdZ hT _ _ (Nat.le_refl _)
theorem Zqd(hT:Tin n):F99 n q=some (ZeH n q):=by
 have hpp:n.2.2.2.2.1.length<=4096:=by have:=hT.paths;omega
 unfold F99 ZeH
 have ef: (bif q.2.2.2.1 then some (0:Int) else some q.2.2.1)=some (Zol q):=by unfold Zol;cases q.2.2.2.1<;>rfl
 rw[ef];simp only[bind_some,ZgR hT,ZeJ hpp];have hw:=Ze1 hT q.1 0
 have h1l: (Zd6 n q).length<=252:=by unfold Zd6;rw[List.length_map];exact ZdZ hT _ _ (Nat.le_refl _)
 refine Zbo (fun r=>r=Zd6 n q) ?_ ?_
 ·unfold Zd6 at h1l ⊢;rw[List.length_map]at h1l;generalize Zcg n q.1 (Zol q)=N at*;refine ZaX N.length _ (fun i (st:List (List ZaA×Unit) ×List ZaA×Int)=>st=((N.take i).map (fun x=>([x],())),N,(i:Int))) ?_ ?_ _ rfl
  ·rintro i _ hi rfl;left;simp only[Zaw hi,cond_true,ZaN hi,bind_some,List.getElem?_eq_getElem hi,Zai hi (show _<=9223372036854775807 by omega)];rw[ZaW (by simp;omega)];refine⟨_,rfl, ?_⟩;rw[List.take_succ_eq_append_getElem hi,List.map_append];rfl
  ·rintro _ rfl;simp only[Zax,cond_false,List.take_length];exact⟨_,rfl,rfl⟩
 rintro _ rfl;refine Zbo (fun r=>r=Zd6 n q++(Zb4 n q.1 0).flatMap (ZcK n q)) ?_ (fun r hr=>by rw[hr]);generalize Zb4 n q.1 0=W at*;refine ZaX W.length _ (fun i (st:List (List ZaA×Unit) ×Int)=>st=(Zd6 n q++(W.take i).flatMap (ZcK n q),(i:Int))) ?_ ?_ _ (by simp)
 ·rintro i _ hi rfl;left;simp only[Zaw hi,cond_true,Zaf hi,bind_some,Zai hi (show _<=9223372036854775807 by omega)]
  have hfl: ((W.take i).flatMap (ZcK n q)).length<=60*252:=by have:=Zc5 (f:=ZcK n q) (c:=252) (fun w=>ZiI hT w) (W.take i);rw[List.length_take]at this;have h3:min i W.length*252<=60*252:=Nat.mul_le_mul_right _ (by omega);exact Nat.le_trans this h3
  refine Zhz (fun r=>r=Zd6 n q++(W.take i).flatMap (ZcK n q)++ZcK n q W[i]) ?_ ?_
  ·have hsl:=ZiI (q:=q) hT W[i];have hOl: (Zd6 n q++(W.take i).flatMap (ZcK n q)).length<=252+60*252:=by rw[List.length_append];omega
   generalize Zd6 n q++(W.take i).flatMap (ZcK n q)=O at*;unfold ZcK at hsl ⊢;rw[List.length_map]at hsl;generalize Zcg n (W[i]).2.2.2.2.2.1 (Zol q)=N at*;refine ZaX N.length _ (fun k (st:List (List ZaA×Unit) ×List ZaA×Int)=>st=(O++(N.take k).map (fun x=>([ZkE W[i] x,x],())),N,(k:Int))) ?_ ?_ _ (by simp)
   ·rintro k _ hk rfl;left;simp only[Zaw hk,cond_true,ZaN hk,bind_some,List.getElem?_eq_getElem hk,Zai hk (show _<=9223372036854775807 by omega)];have hln: ((N.take k).map (fun x=>(([ZkE W[i] x,x],()):List ZaA×Unit))).length<=252:=by rw[List.length_map,List.length_take];omega
    rw[ZaW (by simp only[List.length_append,List.length_singleton];omega)];refine⟨_,rfl, ?_⟩;rw[List.take_succ_eq_append_getElem hk,List.map_append, <-List.append_assoc];rfl
   ·rintro _ rfl;simp only[Zax,cond_false,List.take_length];exact⟨_,rfl,rfl⟩
  ·rintro _ rfl;refine⟨_,rfl, ?_⟩;rw[List.take_succ_eq_append_getElem hi,List.flatMap_append, <-List.append_assoc];simp
 ·rintro _ rfl;simp only[Zax,cond_false,List.take_length];exact⟨_,rfl,rfl⟩
end Q
