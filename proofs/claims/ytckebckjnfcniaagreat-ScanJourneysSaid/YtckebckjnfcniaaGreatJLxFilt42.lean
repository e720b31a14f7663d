/- filter: usable runs, open stops, the allowed network; queries. Conditions: the network is valid, its lists are short. -/
import Derived.KernelRfl
import Derived.Test.YtckebckjnfcniaaGreatJLwJa2842
import Derived.Test.YtckebckjnfcniaaGreatTsF
import Derived.Test.YtckebckjnfcniaaGreatTtA
namespace Q
open Tr Go
open Option (bind_some)
theorem Zsh{α β τ:Type}{step:List β×Int->Option ((List β×Int) ⊕ τ)}(l:List α)(f:α->List β)(R:List β->τ)
  (hstep: ∀i (hi:i<l.length),step ((l.take i).flatMap f,(i:Int))=some (.inl ((l.take i).flatMap f++f l[i],((i+1:Nat):Int))))
  (hend:step (l.flatMap f,(l.length:Int))=some (.inr (R (l.flatMap f)))):run step ([],(0:Int))=some (R (l.flatMap f)):=by
 refine Exists.elim (ZaX (step:=step) l.length (fun r=>r=R (l.flatMap f)) (fun i st=>st=((l.take i).flatMap f,(i:Int))) ?_ ?_ ([],(0:Int)) (by simp)) ?_
 ·rintro i _ hi rfl;left;refine⟨_,hstep i hi, ?_⟩;rw[List.take_succ_eq_append_getElem hi,List.flatMap_append];simp
 ·rintro _ rfl;rw[List.take_length];exact⟨_,hend,rfl⟩
 ·rintro r ⟨h1,rfl⟩;exact h1
theorem ZsF{α β:Type}(f:α->β)(l:List α):l.flatMap (fun x=>[f x])=l.map f:=by
 induction l with
 |nil=>rfl
 |cons x l ih=>simp [ih]
theorem ZsM{α β:Type}{f:α->List β}(hf: ∀x,(f x).length<=1)(l:List α): (l.flatMap f).length<=l.length:=by
 induction l with
 |nil=>simp
 |cons x l ih=>have:=hf x;simp;simp at ih;omega
abbrev Za3:=Int×Int×Int×Bool×Int×Int×Bool×Bool×Int×Bool×Unit
def Zrm(n:Zay)(r:Zh9):Zdk:=(n.2.1[r.2.2.2.2.1.toNat]?).getD r0
def Zod(n:Zay)(q:Za3)(r:Zh9):Bool:=Tr.useB q r (Zrm n r)
def s0:Zlc:=([],0,false,0,())
def Zb2(n:Zay)(s:Int):Zlc:=(n.1[s.toNat]?).getD s0
def ZfC(n:Zay)(q:Za3)(s:Int):Bool:=(Zb2 n s).2.2.1|| !q.2.2.2.2.2.2.1
def Zbs(n:Zay)(q:Za3)(c:ZbD):ZbD:=if ZfC n q c.1 then c else(c.1,c.2.1,c.2.2.1,false,false,())
theorem ZqQ{n:Zay}(hS:ZcL n){r:Zh9}(hr:r∈n.2.2.1):idx n.2.1 r.2.2.2.2.1=some (Zrm n r)/\Zrm n r∈n.2.1:=by
 have h:=hS.route _ hr;have hi:inR r.2.2.2.2.1 n.2.1.length=true:=by simp [inR];omega
 refine⟨Zbj hi r0, ?_⟩;unfold Zrm;rw[Zak (show r.2.2.2.2.1.toNat<n.2.1.length by omega)];exact List.getElem_mem _
theorem Zts{n:Zay}(hS:ZcL n)(q:Za3){r:Zh9}(hr:r∈n.2.2.1):F15 n q r=some (Zod n q r):=by obtain⟨h1,h2⟩:=ZqQ hS hr;have hm:=(hS.mode _ h2).1;unfold F15 Tr.useF;rw[h1];simp only[bind_some,show decide ((0:Int)<=(Zrm n r).2.1)=true from decide_eq_true hm,Bool.or_true,cond_true];rfl
theorem ZuA{n:Zay}(hS:ZcL n){r:Zh9}(hr:r∈n.2.2.1){c:ZbD}(hc:c∈r.2.2.2.2.2.2.2.1):idx n.1 c.1=some (Zb2 n c.1):=by have h:=hS.call _ hr _ hc;exact Zbj (show inR c.1 n.1.length=true by simp [inR];omega) s0
theorem ZrM{n:Zay}(q:Za3){s:Int}(h:idx n.1 s=some (Zb2 n s)):F14 n q s=some (ZfC n q s):=by
 unfold F14;rw[h];simp only[bind_some];unfold ZfC
 cases (Zb2 n s).2.2.1<;>rfl
theorem Zn6{n:Zay}(hS:ZcL n)(q:Za3){r:Zh9}(hr:r∈n.2.2.1):F13 n q r.2.2.2.2.2.2.2.1=some (r.2.2.2.2.2.2.2.1.map (Zbs n q)):=by
 have hl:=(hS.many _ hr).2;unfold F13;rw[Zsh r.2.2.2.2.2.2.2.1 (fun c=>[Zbs n q c]) id ?_ ?_]
 ·simp only[bind_some,id,ZsF,List.length_map];generalize hm:r.2.2.2.2.2.2.2.1.map (Zbs n q)=m;have hlen:m.length=r.2.2.2.2.2.2.2.1.length:=by rw[<-hm,List.length_map]
  rw[<-hlen]
  have e1:inb (m.length:Int) (m.length+1)=some m.length:=by unfold inb;rw[if_pos (by omega)];simp
  have e2:sliceB m.length m.length none (some (m.length:Int))=some (0,m.length):=by unfold sliceB;simp only[if_pos (show (0:Int)<=(m.length:Int)/\(m.length:Int)<=(m.length:Int) from ⟨by omega,by omega⟩),bind_some,Int.toNat_natCast]
  rw[e1];simp only[bind_some];rw[e2];simp
 ·intro i hi;have hc:=List.getElem_mem hi;simp only[Zax hi,cond_true,Zah hi,bind_some];rw[ZrM q (ZuA hS hr hc)];have hb:=ZsM (f:=fun c=>[Zbs n q c]) (by simp) (r.2.2.2.2.2.2.2.1.take i);rw[List.length_take]at hb;simp only[bind_some]
  have e: (bif !ZfC n q (r.2.2.2.2.2.2.2.1[i]).1 then some (((r.2.2.2.2.2.2.2.1[i]).1,(r.2.2.2.2.2.2.2.1[i]).2.1,(r.2.2.2.2.2.2.2.1[i]).2.2.1,false,false,(r.2.2.2.2.2.2.2.1[i]).2.2.2.2.2):ZbD) else some r.2.2.2.2.2.2.2.1[i])=some (Zbs n q r.2.2.2.2.2.2.2.1[i]):=by
   unfold Zbs
   cases ZfC n q (r.2.2.2.2.2.2.2.1[i]).1<;>rfl
  erw[e];simp only[bind_some];rw[Zbg (by simp;simp at hb;omega),Zal hi (by omega)];rfl
 ·simp only[Zaw,cond_false];rfl
structure Few (n:Zay):Prop where
 stops:n.1.length<=4096
 routes:n.2.1.length<=4096
 runs:n.2.2.1.length<=4096
 links:n.2.2.2.1.length<=4096
 paths:n.2.2.2.2.1.length<=4096
 prods:n.2.2.2.2.2.1.1.length<=4096
 calls: ∀r∈n.2.2.1,r.2.2.2.2.2.2.2.1.length<=4096
theorem Zeg{α:Type}(l:List α)(h:l.length<=4096): (Option.bind (Zar (decide (List.length ([]:List Unit)+List.length l<=Zaq))) fun _=>
 Option.bind (inb (↑(List.length ([]++l)):Int) (List.length ([]++l)+(1:Nat))) fun x1=>
 Option.bind (sliceB (List.length ([]++l)) x1 none (some (↑(List.length ([]++l)):Int))) fun x2=>some (List.take x2.2 ([]++l)))=some l:=by
 have e0:Zar (decide (List.length ([]:List Unit)+List.length l<=Zaq))=some ():=by unfold Zar Zaq;rw[decide_eq_true (show List.length ([]:List Unit)+List.length l<=2 ^ 32 by simp;omega)];rfl
 have e1:inb (l.length:Int) (l.length+1)=some l.length:=by unfold inb;rw[if_pos (by omega)];simp
 have e2:sliceB l.length l.length none (some (l.length:Int))=some (0,l.length):=by unfold sliceB;simp only[if_pos (show (0:Int)<=(l.length:Int)/\(l.length:Int)<=(l.length:Int) from ⟨by omega,by omega⟩),bind_some,Int.toNat_natCast]
 rw[e0];simp only[bind_some,List.nil_append];rw[e1];simp only[bind_some];rw[e2];simp
theorem Zq8{n:Zay}(h:Few n):F38 n=some n:=by
 unfold F38;have hs:F49 n.1=some n.1:=Zeg n.1 h.stops;have hro:F47 n.2.1=some n.2.1:=Zeg n.2.1 h.routes;have hru:F48 n.2.2.1=some n.2.2.1:=Zeg n.2.2.1 h.runs;have hli:F45 n.2.2.2.1=some n.2.2.2.1:=Zeg n.2.2.2.1 h.links;have hpa:F44 n.2.2.2.2.1=some n.2.2.2.2.1:=Zeg n.2.2.2.2.1 h.paths;have hpr:F46 n.2.2.2.2.2.1.1=some n.2.2.2.2.2.1.1:=Zeg n.2.2.2.2.2.1.1 h.prods;rw[hs,hro,hru,hli,hpa];simp only[bind_some];refine ZcB (fun r:Zay=>r=(n.1,n.2.1,n.2.2.1,n.2.2.2.1,n.2.2.2.2.1,n.2.2.2.2.2.1,())) (ZaX n.2.2.1.length _ (fun i (st:Zay×Int)=>st=((n.1,n.2.1,n.2.2.1,n.2.2.2.1,n.2.2.2.2.1,n.2.2.2.2.2.1,()),(i:Int))) ?_ ?_ _ rfl) ?_
 ·rintro i _ hi rfl;left;have hc:F43 (n.2.2.1[i]).2.2.2.2.2.2.2.1=some (n.2.2.1[i]).2.2.2.2.2.2.2.1:=Zeg _ (h.calls _ (List.getElem_mem hi));simp only[Zax hi,cond_true,ZaH hi,bind_some,List.getElem?_eq_getElem hi,hc];refine⟨_,rfl, ?_⟩;rw[Zal hi (by have:=h.runs;omega)];have e:List.set n.2.2.1 i ((n.2.2.1[i]).1,(n.2.2.1[i]).2.1,(n.2.2.1[i]).2.2.1,(n.2.2.1[i]).2.2.2.1,(n.2.2.1[i]).2.2.2.2.1,(n.2.2.1[i]).2.2.2.2.2.1,(n.2.2.1[i]).2.2.2.2.2.2.1,(n.2.2.1[i]).2.2.2.2.2.2.2.1,(n.2.2.1[i]).2.2.2.2.2.2.2.2)=n.2.2.1:=List.set_getElem_self hi;erw[e]
 ·rintro _ rfl;exact⟨_,by simp only[Zaw,cond_false],rfl⟩
 ·rintro _ rfl;rw[hpr];rfl
def Zb6(n:Zay)(q:Za3)(r:Zh9):Zh9:=(r.1,r.2.1,r.2.2.1,r.2.2.2.1,r.2.2.2.2.1,r.2.2.2.2.2.1, !Zod n q r,r.2.2.2.2.2.2.2.1.map (Zbs n q),())
def Zbl(n:Zay)(q:Za3):List Zcf:=if q.2.2.2.2.2.2.1 then n.2.2.2.2.1.filter (fun p=>p.2.2.2.1) else n.2.2.2.2.1
def Zat(n:Zay)(q:Za3):Zay:=(n.1,n.2.1,n.2.2.1.map (Zb6 n q),n.2.2.2.1,Zbl n q,n.2.2.2.2.2.1,())
def Zel(n:Zay)(q:Za3)(i:Nat):List Zh9:=(n.2.2.1.take i).map (Zb6 n q)++n.2.2.1.drop i
theorem Zn8(n:Zay)(q:Za3){i:Nat}(hi:i<=n.2.2.1.length): (Zel n q i).length=n.2.2.1.length:=by simp [Zel];omega
theorem ZnQ(n:Zay)(q:Za3){i:Nat}(hi:i<n.2.2.1.length): (Zel n q i)[i]? =some n.2.2.1[i]:=by unfold Zel;rw[List.getElem?_append_right (by simp;omega)];simp only[List.length_map,List.length_take,Nat.min_eq_left (Nat.le_of_lt hi),Nat.sub_self,List.getElem?_drop,Nat.add_zero];exact List.getElem?_eq_getElem hi
theorem ZnP(n:Zay)(q:Za3){i:Nat}(hi:i<n.2.2.1.length): (Zel n q i).set i (Zb6 n q n.2.2.1[i])=Zel n q (i+1):=by
 unfold Zel;have hlen: ((n.2.2.1.take i).map (Zb6 n q)).length=i:=by simp;omega
 rw[List.set_append_right _ _ (by omega),hlen,Nat.sub_self,List.drop_eq_getElem_cons hi,List.set_cons_zero,List.take_succ_eq_append_getElem hi,List.map_append];simp
theorem ZlD{n:Zay}(hS:ZcL n)(hF:Few n)(q:Za3)(hq:F10 n q=some 0):F12 n q=some (Zat n q,0):=by
 unfold F12;rw[hq];simp only[bind_some,decide_true,Bool.not_true,cond_false];rw[Zq8 hF];simp only[bind_some];refine ZcB (fun r:Zay=>r=(n.1,n.2.1,n.2.2.1.map (Zb6 n q),n.2.2.2.1,n.2.2.2.2.1,n.2.2.2.2.2.1,())) (ZaX n.2.2.1.length _ (fun i (st:Zay×Int)=>st=((n.1,n.2.1,Zel n q i,n.2.2.2.1,n.2.2.2.2.1,n.2.2.2.2.2.1,()),(i:Int))) ?_ ?_ _ (by simp [Zel])) ?_
 ·rintro i _ hi rfl;left;have hr:=List.getElem_mem hi;have hl:=Zn8 n q (Nat.le_of_lt hi);have hi' :i< (Zel n q i).length:=by omega
  simp only[Zax hi,cond_true,Zah hi,bind_some,Zts hS q hr,ZaH hi',ZnQ n q hi,Zn6 hS q hr];refine⟨_, ?_,rfl⟩;rw[Zal hi (by have:=hF.runs;omega)];have hi2:i< ((Zel n q i).set i ((n.2.2.1[i]).1,(n.2.2.1[i]).2.1,(n.2.2.1[i]).2.2.1,(n.2.2.1[i]).2.2.2.1,(n.2.2.1[i]).2.2.2.2.1,(n.2.2.1[i]).2.2.2.2.2.1, !Zod n q n.2.2.1[i],(n.2.2.1[i]).2.2.2.2.2.2.2)).length:=by rw[List.length_set];exact hi'
  erw[ZaH hi2];simp only[bind_some];erw[List.getElem?_set_self hi'];simp only[bind_some];erw[List.set_set];congr 2;have:=ZnP n q hi;rw[<-this];rfl
 ·rintro _ rfl;refine⟨_,by simp only[Zaw,cond_false];rfl, ?_⟩;simp [Zel]
 ·rintro _ rfl;unfold Zat Zbl
  cases hsf:q.2.2.2.2.2.2.1 with
  |false=>rfl
  |true=>
   simp only[cond_true,if_true];refine ZcB (fun r:Zay=>r=(n.1,n.2.1,n.2.2.1.map (Zb6 n q),n.2.2.2.1,n.2.2.2.2.1.filter (fun p=>p.2.2.2.1),n.2.2.2.2.2.1,())) (ZaX n.2.2.2.2.1.length _ (fun i (st:Zay×Int)=>st=((n.1,n.2.1,n.2.2.1.map (Zb6 n q),n.2.2.2.1,(n.2.2.2.2.1.take i).filter (fun p=>p.2.2.2.1),n.2.2.2.2.2.1,()),(i:Int))) ?_ ?_ _ (by simp)) ?_
   ·rintro i _ hi rfl;left;have hb:=List.length_filter_le (fun p:Zcf=>p.2.2.2.1) (n.2.2.2.2.1.take i);rw[List.length_take]at hb;have hp:=hF.paths;simp only[Zax hi,cond_true,Zah hi,bind_some];rw[Zal hi (by omega),List.take_succ_eq_append_getElem hi,List.filter_append]
    cases hv: (n.2.2.2.2.1[i]).2.2.2.1 with
    |false=>
     refine⟨_,rfl, ?_⟩
     simp [hv]
    |true=>
     simp only[cond_true];rw[Zbg (by simp;omega)];refine⟨_,rfl, ?_⟩;simp [hv]
   ·rintro _ rfl;refine⟨_,by simp only[Zaw,cond_false];rfl, ?_⟩;rw[List.take_length]
   ·rintro _ rfl;rfl
def qB(k:Nat)(q:Za3):Bool:=inR q.1 k&& (inR q.2.1 k&& (decide (0<=q.2.2.1/\q.2.2.1<=3155932800) && (decide (0<=q.2.2.2.2.1/\q.2.2.2.2.1<=8) && (decide (0<=q.2.2.2.2.2.1/\q.2.2.2.2.2.1<=86400) && (decide (0<=q.2.2.2.2.2.2.2.2.1/\q.2.2.2.2.2.2.2.2.1<=255) && !(q.2.2.2.2.2.2.2.2.2.1&&q.2.2.2.1))))))
theorem ZlJ(x a b:Int):F11 x a b=some (decide (a<=x/\x<=b)):=Zdr x a b
theorem Zfz(x a b:Int):F90 x a b=some (decide (a<=x/\x<=b)):=Zdr x a b
theorem ZeR(x:Int){m:Nat}(hm:m<=9223372036854775807):F90 x 0 (IntKind.wrap .i64 ((m:Int) - 1))=some (inR x m):=Zjj x hm
theorem Zow(k:Nat)(hk:k<=9223372036854775807)(q:Za3):F85 (k:Int) q=some (qB k q):=by
 unfold F85 qB;simp only[Zfz];rw[show decide ((0:Int)<=q.1/\q.1<=IntKind.wrap .i64 ((k:Int) - 1))=inR q.1 k from Option.some.inj ((Zfz _ _ _).symm.trans (ZeR q.1 hk)),show decide ((0:Int)<=q.2.1/\q.2.1<=IntKind.wrap .i64 ((k:Int) - 1))=inR q.2.1 k from Option.some.inj ((Zfz _ _ _).symm.trans (ZeR q.2.1 hk))];simp only[bind_some];generalize inR q.1 k=b1;generalize inR q.2.1 k=b2;generalize decide ((0:Int)<=q.2.2.1/\q.2.2.1<=3155932800)=b3;generalize decide ((0:Int)<=q.2.2.2.2.1/\q.2.2.2.2.1<=8)=b4;generalize decide ((0:Int)<=q.2.2.2.2.2.1/\q.2.2.2.2.2.1<=86400)=b5;generalize decide ((0:Int)<=q.2.2.2.2.2.2.2.2.1/\q.2.2.2.2.2.2.2.2.1<=255)=b6
 generalize q.2.2.2.2.2.2.2.2.2.1=b7;generalize q.2.2.2.1=b8
 cases b1<;>try rfl
 cases b2<;>try rfl
 cases b3<;>try rfl
 cases b4<;>try rfl
 cases b5<;>try rfl
 cases b6<;>try rfl
 cases b7<;>cases b8<;>rfl
open Classical in
noncomputable def Zlt(n:Zay)(q:Za3):Int:=if Whole n then(if qB n.1.length q=true then 0 else 22) else 21
theorem ZhT{n:Zay}{q:Za3} :Zlt n q=0↔Whole n/\qB n.1.length q=true:=by
 unfold Zlt;split
 ·next h=>split<;>simp_all
 ·next h=>simp [h]
open Classical in
theorem Zhs{n:Zay}(h:Fit n):F61 n=some (decide (Whole n)):=by obtain⟨r,_,h2,h3⟩:=Zf0 n h;unfold F61;rw[h2];simp only[bind_some];congr 1;exact decide_eq_decide.2 h3
open Classical in
theorem Znn{n:Zay}(h:Fit n)(q:Za3):F82 n q=some (Zlt n q):=by
 unfold F82 Zlt;rw[Zhs h];simp only[bind_some];by_cases hW:Whole n
 ·rw[decide_eq_true hW,if_pos hW];have hs:=hW.sound.stops;simp only[Bool.not_true,cond_false];rw[Zow n.1.length (by omega)];simp only[bind_some]
  cases qB n.1.length q<;>rfl
 ·rw[decide_eq_false hW,if_neg hW];rfl
theorem Zkt{n:Zay}(h:Fit n)(q:Za3):F10 n q=some (Zlt n q):=by
 obtain⟨r,h1,_,h3⟩:=Zf0 n h;unfold F10 Zlt;rw[h1];simp only[bind_some];by_cases hW:Whole n
 ·rw[decide_eq_true (h3.2 hW),if_pos hW];have hk:n.1.length<=9223372036854775807:=by have:=hW.sound.stops;omega
  simp only[Bool.not_true,cond_false,ZlJ];rw[show decide ((0:Int)<=q.1/\q.1<=IntKind.wrap .i64 ((n.1.length:Int) - 1))=inR q.1 n.1.length from Option.some.inj ((Zfz _ _ _).symm.trans (ZeR q.1 hk)),show decide ((0:Int)<=q.2.1/\q.2.1<=IntKind.wrap .i64 ((n.1.length:Int) - 1))=inR q.2.1 n.1.length from Option.some.inj ((Zfz _ _ _).symm.trans (ZeR q.2.1 hk))];unfold qB;simp only[bind_some];generalize inR q.1 n.1.length=b1;generalize inR q.2.1 n.1.length=b2;generalize decide ((0:Int)<=q.2.2.1/\q.2.2.1<=3155932800)=b3;generalize decide ((0:Int)<=q.2.2.2.2.1/\q.2.2.2.2.1<=8)=b4;generalize decide ((0:Int)<=q.2.2.2.2.2.1/\q.2.2.2.2.2.1<=86400)=b5
  generalize decide ((0:Int)<=q.2.2.2.2.2.2.2.2.1/\q.2.2.2.2.2.2.2.2.1<=255)=b6;generalize q.2.2.2.2.2.2.2.2.2.1=b7;generalize q.2.2.2.1=b8
  cases b1<;>try rfl
  cases b2<;>try rfl
  cases b3<;>try rfl
  cases b4<;>try rfl
  cases b5<;>try rfl
  cases b6<;>try rfl
  cases b7<;>cases b8<;>rfl
 ·rw[decide_eq_false (fun e=>hW (h3.1 e)),if_neg hW];rfl
theorem ZoP{c l:List Zcf}(h:Zbz c l=true):c=l:=by
 unfold Zbz at h;rw[Bool.and_eq_true,decide_eq_true_eq,Option.isNone_iff_eq_none]at h;obtain⟨h1,h2⟩:=h;have h2:=ZaE.1 h2;refine List.ext_getElem h1 fun i hi hi' => ?_;have:=h2 i hi;unfold eqF at this;rw[Zak hi,Zak hi']at this
 have hs:Zh5 c[i] l[i]=true:=by
  by_cases hs:Zh5 c[i] l[i]=true
  ·exact hs
  ·rw[if_neg hs]at this;simp at this
 unfold Zh5 at hs;simp only[Bool.and_eq_true,decide_eq_true_eq,beq_iff_eq]at hs;exact Prod.ext hs.1 (Prod.ext hs.2.1 (Prod.ext hs.2.2.1 (Prod.ext hs.2.2.2 rfl)))
theorem Zlj(l:List Zcf):Zbz l l=true:=by unfold Zbz;rw[Bool.and_eq_true,decide_eq_true_eq,Option.isNone_iff_eq_none];refine⟨rfl,ZaE.2 fun i hi=> ?_⟩;unfold eqF Zh5;simp
theorem ZnF{k:Nat}{l:List Zcf} : (∀i,i<l.length->Zbx k l i=0)↔(∀p∈l,Zdd k p=false/\Zc3 p=false)/\l.Pairwise fun a b=>ZcZ a≠ZcZ b:=by
 constructor
 ·intro h;refine⟨fun p hp=> ?_,List.pairwise_iff_getElem.2 fun i j hi hj hij e=> ?_⟩
  ·obtain⟨i,hi,rfl⟩:=List.getElem_of_mem hp;have:=Zcl (h i hi);rw[Zak hi]at this;exact⟨this.1,this.2.1⟩
  ·have:=(Zcl (h j hj)).2.2;refine this ⟨i,hij, ?_⟩;rw[Zak hi,Zak hj];exact e
 ·rintro ⟨h1,h2⟩ i hi;obtain⟨a,b⟩:=h1 _ (List.getElem_mem hi);unfold Zbx;rw[Zak hi,if_neg (by rw[a];simp),if_neg (by rw[b];simp),if_neg];rintro ⟨j,hj,e⟩;rw[Zak (show j<l.length by omega)]at e;exact List.pairwise_iff_getElem.1 h2 j i (by omega) hi hj e
theorem Zhg{α β:Type}(p:β->Bool)(f:α->List β)(l:List α): (l.flatMap f).filter p=l.flatMap fun x=>(f x).filter p:=by
 induction l with
 |nil=>rfl
 |cons x l ih=>simp [List.filter_append,ih]
theorem ZpV(a b:Nat)(d f:Int): (ZcX a b d f).filter (fun p=>p.2.2.2.1)=ZcX a b f f:=by
 unfold ZcX;by_cases h:f=d
 ·subst h;rw[if_pos rfl,List.append_nil]
  split<;>simp
 ·rw[if_neg h,if_pos rfl,List.append_nil,List.filter_append]
  have e1: (if 0<d/\d<=14400 then [((a:Int),(b:Int),d,decide (f=d),())] else []).filter (fun p:Zc9=>p.2.2.2.1)=[]:=by
   split<;>simp [h]
  rw[e1]
  split<;>simp
theorem Zqo(it:Nat->Nat->List Zc9)(n m:Nat): (ZfA it n m).filter (fun p=>p.2.2.2.1)=ZfA (fun a b=>(it a b).filter (fun p=>p.2.2.2.1)) n m:=by
 unfold ZfA Zj3;rw[Zhg];congr 1;funext a;rw[Zhg];congr 1;funext b
 split<;>rfl
theorem Zmp{k:Nat}(hk:k<=64){l:List Zcf}(hl:l.length<=4096)(hz: ∀i,i<l.length->Zbx k l i=0)(hc: ∀c,F58 l (k:Int)=some c->Zbz c l=true):
  (∀i,i< (l.filter fun p=>p.2.2.2.1).length->Zbx k (l.filter fun p=>p.2.2.2.1) i=0)/\ ∀c,F58 (l.filter fun p=>p.2.2.2.1) (k:Int)=some c->Zbz c (l.filter fun p=>p.2.2.2.1)=true:=by
 obtain⟨z1,z2⟩:=ZnF.1 hz;have hz' : ∀i,i< (l.filter fun p=>p.2.2.2.1).length->Zbx k (l.filter fun p=>p.2.2.2.1) i=0:=ZnF.2 ⟨fun p hp=>z1 p (List.mem_filter.1 hp).1,z2.filter _⟩;refine⟨hz',fun c h=> ?_⟩;have hF:=ZqI hz;have hF' :=ZqI hz';have hl' : (l.filter fun p=>p.2.2.2.1).length<=4096:=Nat.le_trans (List.length_filter_le _ _) hl;obtain⟨c0,a1,a2,_⟩:=Zfq hk hF hl;obtain⟨c1,b1,b2,_⟩:=Zfq hk hF' hl';have v0:=Zft hk hF hl (fun a b=>(ZjK hF a b).imp id fun h=>h.2);have v1:=Zft hk hF' hl' (fun a b=>(ZjK hF' a b).imp id fun h=>h.2);rw[a1]at v0;rw[b1]at v1;have e0:=ZoP (hc c0 a2);obtain rfl:c1=c:=Option.some.inj (b2.symm.trans h)
 have ed: ∀free,EdP (l.filter fun p=>p.2.2.2.1) free=EdP l true:=by
  intro free;funext u v w;refine propext ⟨fun⟨p,hp,_,h⟩=> ?_,fun⟨p,hp,h1,h⟩=> ?_⟩
  ·obtain⟨hp1,hp2⟩:=List.mem_filter.1 hp;exact⟨p,hp1,fun _=>hp2,h⟩
  ·have:=h1 rfl;exact⟨p,List.mem_filter.2 ⟨hp,this⟩,fun _=>this,h⟩
 have key:c1=l.filter fun p=>p.2.2.2.1:=by
  rw[Option.some.inj v1]
  conv=>rhs;rw[<-e0,Option.some.inj v0]
  rw[Zqo,ed,ed];congr 1;funext a b;exact(ZpV a b _ _).symm
 rw[key];exact Zlj _
theorem ZfS(n:Zay)(q:Za3)(l:List ZbD)(i:Nat): (((l.map (Zbs n q))[i]?).getD c0).1=((l[i]?).getD c0).1/\(((l.map (Zbs n q))[i]?).getD c0).2.1=((l[i]?).getD c0).2.1/\(((l.map (Zbs n q))[i]?).getD c0).2.2.1=((l[i]?).getD c0).2.2.1:=by
 rw[List.getElem?_map]
 cases l[i]? with
 |none=>exact⟨rfl,rfl,rfl⟩
 |some c=>
  simp only[Option.map_some,Option.getD_some];unfold Zbs
  split<;>exact⟨rfl,rfl,rfl⟩
theorem ZlZ(n:Zay)(q:Za3)(l:List ZbD)(k lo hi:Int):Zd3 (l.map (Zbs n q)) k lo hi=Zd3 l k lo hi:=by
 have h:Zij (l.map (Zbs n q)) k lo hi=Zij l k lo hi:=by funext i;obtain⟨a1,a2,a3⟩:=ZfS n q l i;obtain⟨b1,b2,b3⟩:=ZfS n q l (i - 1);unfold Zij Zkz Zk7 ZkZ;rw[a1,a2,a3,b1,b3]
 unfold Zd3;rw[List.length_map,h]
theorem Zjh(n:Zay)(q:Za3)(a:Int): (rn (Zat n q) a).2.2.2.2.2.2.2.1=(rn n a).2.2.2.2.2.2.2.1.map (Zbs n q):=by
 unfold rn;show (((n.2.2.1.map (Zb6 n q))[a.toNat]?).getD u0).2.2.2.2.2.2.2.1=_;rw[List.getElem?_map]
 cases n.2.2.1[a.toNat]? <;>rfl
theorem Zl8(n:Zay)(q:Za3)(i:Nat):Zcc (Zat n q) i=Zcc n i:=by have hlen: (Zat n q).2.2.1.length=n.2.2.1.length:=List.length_map ..;unfold Zcc ZmV ZoV;simp only[Zjh,List.length_map,hlen];have hcl: ∀ (l:List ZbD) (x:Int),(cl (l.map (Zbs n q)) x).1=(cl l x).1:=fun l x=>(ZfS n q l _).1;simp only[hcl];rfl
theorem Zn7(n:Zay)(q:Za3){i:Nat}(hi:i<n.2.2.1.length):Zjs (Zat n q) i=Zjs n i:=by
 have hg: ∀j,j<n.2.2.1.length->((Zat n q).2.2.1[j]?).getD u0=Zb6 n q ((n.2.2.1[j]?).getD u0):=by intro j hj;show ((n.2.2.1.map (Zb6 n q))[j]?).getD u0=_;rw[List.getElem?_map,List.getElem?_eq_getElem hj];rfl
 unfold Zjs;rw[hg i hi]
 have hd: (∃j,j<i/\runK (((Zat n q).2.2.1[j]?).getD u0)=runK (Zb6 n q ((n.2.2.1[i]?).getD u0)))↔ ∃j,j<i/\runK ((n.2.2.1[j]?).getD u0)=runK ((n.2.2.1[i]?).getD u0):=by
  constructor
  ·rintro ⟨j,hj,e⟩;rw[hg j (by omega)]at e;exact⟨j,hj,e⟩
  ·rintro ⟨j,hj,e⟩;refine⟨j,hj, ?_⟩;rw[hg j (by omega)];exact e
 have hcE:Zd3 (Zb6 n q ((n.2.2.1[i]?).getD u0)).2.2.2.2.2.2.2.1 ((Zat n q).1.length:Int) 0 3155932800=Zd3 ((n.2.2.1[i]?).getD u0).2.2.2.2.2.2.2.1 (n.1.length:Int) 0 3155932800:=ZlZ n q _ _ _ _;simp only[hcE,hd];rfl
theorem ZlB{n:Zay}(q:Za3)(hp:n.2.2.2.2.1.length<=4096)(h:Whole n):Whole (Zat n q):=by
 have hlen: (Zat n q).2.2.1.length=n.2.2.1.length:=List.length_map ..
 have hP: (∀i,i< (Zbl n q).length->Zbx n.1.length (Zbl n q) i=0)/\ ∀c,F58 (Zbl n q) (n.1.length:Int)=some c->Zbz c (Zbl n q)=true:=by
  unfold Zbl;split
  ·exact Zmp h.sound.stops hp (ZaE.1 h.q) h.w
  ·exact⟨ZaE.1 h.q,h.w⟩
 refine⟨h.s,h.t,by rw[hlen];exact h.u, ?_,h.v, ?_,ZaE.2 hP.1,hP.2,h.z⟩
 ·rw[hlen];exact ZaE.2 fun i hi=>by rw[Zn7 n q hi];exact ZaE.1 h.f i hi
 ·exact ZaE.2 fun i hi=>by rw[Zl8];exact ZaE.1 h.g i hi
theorem Zp6{n:Zay}(q:Za3)(h:Fit n):Fit (Zat n q):=by
 refine⟨h.stops,h.routes, ?_, ?_, ?_,h.prods⟩
 ·intro r hr;obtain⟨x,hx,rfl⟩:=List.mem_map.1 (show r∈n.2.2.1.map (Zb6 n q) from hr);exact h.runs x hx
 ·intro r hr;obtain⟨x,hx,rfl⟩:=List.mem_map.1 (show r∈n.2.2.1.map (Zb6 n q) from hr);show (x.2.2.2.2.2.2.2.1.map _).length<=_;rw[List.length_map];exact h.calls x hx
 ·show (Zbl n q).length<=_;unfold Zbl;split
  ·exact Nat.le_trans (List.length_filter_le _ _) h.paths
  ·exact h.paths
end Q
namespace Q
open Tr Go
open Option (bind_some)
theorem ZuS{a b:Nat}(ha:a<65536)(hb:b<65536):qor .i64 (a:Int) (b:Int)=((a ||| b:Nat):Int):=by
 have hor:a ||| b<2 ^ 16:=Nat.or_lt_two_pow (n:=16) (by omega) (by omega);unfold qor
 have h1: (BitVec.ofInt IntKind.i64.bits (a:Int) ||| BitVec.ofInt IntKind.i64.bits (b:Int)).toNat=a ||| b:=by rw[BitVec.toNat_or,BitVec.ofInt_natCast,BitVec.ofInt_natCast,BitVec.toNat_ofNat,BitVec.toNat_ofNat];show a % 2 ^ 64 ||| b % 2 ^ 64=a ||| b;rw[Nat.mod_eq_of_lt (show a<2 ^ 64 by omega),Nat.mod_eq_of_lt (show b<2 ^ 64 by omega)]
 rw[h1,Zaj (by omega) (by omega)]
theorem Zmq{z:Int}(h0:0<=z)(h1:z<16):ZtY .i64 1 z=some ((2 ^ z.toNat:Nat):Int):=by
 have:z=0\/z=1\/z=2\/z=3\/z=4\/z=5\/z=6\/z=7\/z=8\/z=9\/z=10\/z=11\/z=12\/z=13\/z=14\/z=15:=by omega
 rcases this with rfl|rfl|rfl|rfl|rfl|rfl|rfl|rfl|rfl|rfl|rfl|rfl|rfl|rfl|rfl|rfl<;>decide
theorem ZkB{z:Int}(h1:z<16):2 ^ z.toNat<65536:=Nat.pow_lt_pow_right (by omega) (show z.toNat<16 by omega)
abbrev ZaM:=Bool×Int×Int×Int×Int×Int×Int×Int×Bool×Unit
abbrev Zeq:=Int×Int×Int×Int×Unit
def Za1(n:Zay)(x:ZaM):List ZbD:=(rn n x.2.1).2.2.2.2.2.2.2.1
def Za0(n:Zay)(x:ZaM):Bool:=inR x.2.1 n.2.2.1.length&& (decide (0<=x.2.2.1) && (decide (x.2.2.1<x.2.2.2.1) &&decide (x.2.2.2.1< ((Za1 n x).length:Int))))
theorem Zhp(n:Zay)(x:ZaM):F73 n x=some (Za0 n x):=by
 unfold F73 Za0;by_cases h:inR x.2.1 n.2.2.1.length=true
 ·have e:idx n.2.2.1 x.2.1=some (rn n x.2.1):=Zbj h u0;simp only[e,bind_some,h];unfold inR at h;simp only[Bool.and_eq_true,decide_eq_true_eq]at h;rw[decide_eq_false (show¬x.2.1<0 by omega),decide_eq_false (show¬ (n.2.2.1.length:Int)<=x.2.1 by omega)];simp only[cond_false,bind_some];unfold Za1;generalize decide (0<=x.2.2.1)=a1;generalize decide (x.2.2.1<x.2.2.2.1)=a2;generalize decide (x.2.2.2.1< ((rn n x.2.1).2.2.2.2.2.2.2.1.length:Int))=a3
  cases a1<;>cases a2<;>cases a3<;>rfl
 ·have h' :inR x.2.1 n.2.2.1.length=false:=by simpa using h
  rw[h'];unfold inR at h;simp only[Bool.and_eq_true,decide_eq_true_eq]at h;by_cases h1:x.2.1<0
  ·rw[decide_eq_true h1];rfl
  ·rw[decide_eq_false h1,decide_eq_true (show (n.2.2.1.length:Int)<=x.2.1 by omega)];rfl
def zn(n:Zay)(l:List ZbD)(j:Nat):Nat:=2 ^ (Zb2 n ((l[j]?).getD c0).1).2.1.toNat
def zN(n:Zay)(l:List ZbD)(a:Nat):Nat->Nat
 |0=>0
 |k+1=>zN n l a k ||| zn n l (a+k)
theorem ZcP{n:Zay}(h:ZcL n){a:Int}(h0:0<=a)(h1:a< (n.1.length:Int)):idx n.1 a=some (Zb2 n a)/\0<=(Zb2 n a).2.1/\(Zb2 n a).2.1<16:=by
 have hi:inR a n.1.length=true:=by unfold inR;rw[decide_eq_true h0,decide_eq_true h1];rfl
 refine⟨Zbj hi s0, ?_⟩;have hl:a.toNat<n.1.length:=by omega
 unfold Zb2;rw[Zak hl];exact h.zone _ (List.getElem_mem hl)
theorem Znj{n:Zay}(h:ZcL n){l:List ZbD}(hc: ∀c∈l,0<=c.1/\c.1< (n.1.length:Int)){a:Nat} : ∀k,a+k<=l.length->zN n l a k<65536
 |0,_=>by unfold zN;omega
 |k+1,hk=>by
  have ih:=Znj h hc (a:=a) k (by omega);have hj:a+k<l.length:=by omega
  have hcj:=hc _ (List.getElem_mem hj);have hz:=(ZcP h hcj.1 hcj.2).2
  have:zn n l (a+k)<65536:=by unfold zn;rw[Zak hj];exact ZkB hz.2
  exact Nat.or_lt_two_pow (n:=16) ih this
theorem ZoA{n:Zay}(h:ZcL n){x:ZaM}(hx:Za0 n x=true):F80 n x=some ((zN n (Za1 n x) x.2.2.1.toNat (x.2.2.2.1.toNat+1 - x.2.2.1.toNat):Nat):Int):=by
 unfold Za0 at hx;simp only[Bool.and_eq_true,decide_eq_true_eq]at hx;obtain⟨hr,h0,h1,h2⟩:=hx;have hm:=Zi1 hr;have hmany:=(h.many _ hm).2;have hc: ∀c∈Za1 n x,0<=c.1/\c.1< (n.1.length:Int):=h.call _ hm;have e:idx n.2.2.1 x.2.1=some (rn n x.2.1):=Zbj hr u0;unfold F80;rw[e];simp only[bind_some];have hfold: (rn n x.2.1).2.2.2.2.2.2.2.1=Za1 n x:=rfl;simp only[hfold]at hmany ⊢;generalize Za1 n x=l at*;obtain⟨a,ha⟩: ∃a:Nat,x.2.2.1=(a:Int):=⟨x.2.2.1.toNat,by omega⟩;obtain⟨b,hb⟩: ∃b:Nat,x.2.2.2.1=(b:Int):=⟨x.2.2.2.1.toNat,by omega⟩;rw[ha]at h0 h1;rw[hb]at h1 h2;rw[ha,hb];simp only[Int.toNat_natCast];rw[Zba (n:=b+1 - a) (fun i (st:Int×Int)=>st=(((zN n l a i:Nat):Int),((a+i:Nat):Int))) (fun _=>0) (fun _=>((zN n l a (b+1 - a):Nat):Int)) ((zN n l a (b+1 - a):Nat):Int) ?_ ?_ ?_ ((0:Int),(a:Int)) rfl]
 ·unfold pick;rw[ZbO fun _ _=>rfl];rfl
 ·rintro i _ hi rfl _;have hj:a+i<l.length:=by omega
  have hcj:=hc _ (List.getElem_mem hj);obtain⟨hs1,hs2,hs3⟩:=ZcP h hcj.1 hcj.2;refine⟨(((zN n l a (i+1):Nat):Int),((a+(i+1):Nat):Int)), ?_,rfl⟩;have hw:IntKind.wrap .i64 (((a+i:Nat):Int)+1)=((a+(i+1):Nat):Int):=by rw[Zaj (by omega) (by omega)];omega
  simp only[decide_eq_true (show ((a+i:Nat):Int)<=(b:Int) by omega),cond_true,Zah hj,bind_some,hs1,Zmq hs2 hs3,hw];rw[ZuS (Znj h hc (a:=a) i (by omega)) (ZkB hs3)]
  have:zN n l a (i+1)=zN n l a i ||| 2 ^ (Zb2 n l[a+i].1).2.1.toNat:=by show zN n l a i ||| zn n l (a+i)=_;unfold zn;rw[Zak hj]
  rw[this]
 ·intro i s _ _ hh;exact absurd rfl hh
 ·rintro _ rfl;simp only[decide_eq_false (show¬ ((a+(b+1 - a):Nat):Int)<=(b:Int) by omega),cond_false]
theorem ZrZ{k:Nat}(h:0<k)(hk:k<=9223372036854775807):inb (IntKind.wrap .i64 ((k:Int) - 1)) k=some (k - 1):=by
 have e:IntKind.wrap .i64 ((k:Int) - 1)=((k - 1:Nat):Int):=by rw[Zaj (by omega) (by omega)];omega
 rw[e,ZaH (by omega)]
theorem Zo4{α:Type}{l:List α}{k:Nat}(h:k<l.length)(w:α): (l.set k w)[k]? =some w:=by simp [h]
def ZqY(n:Zay)(x:ZaM):Nat:=zN n (Za1 n x) x.2.2.1.toNat (x.2.2.2.1.toNat+1 - x.2.2.1.toNat)
def r00:Zdk:=([],0,false,())
def Zd0(n:Zay)(x:ZaM):Zdk:=(n.2.1[(rn n x.2.1).2.2.2.2.1.toNat]?).getD r00
theorem ZrL{n:Zay}(h:ZcL n){x:ZaM}(hx:Za0 n x=true):idx n.2.2.1 x.2.1=some (rn n x.2.1)/\idx n.2.1 (rn n x.2.1).2.2.2.2.1=some (Zd0 n x)/\0<=(Zd0 n x).2.1/\(Zd0 n x).2.1<16:=by
 unfold Za0 at hx;simp only[Bool.and_eq_true]at hx;have hm:=Zi1 hx.1;have h1:=h.route _ hm;have hi:inR (rn n x.2.1).2.2.2.2.1 n.2.1.length=true:=by unfold inR;rw[decide_eq_true h1.1,decide_eq_true h1.2];rfl
 refine⟨Zbj hx.1 u0,Zbj hi r00, ?_⟩;have hl: (rn n x.2.1).2.2.2.2.1.toNat<n.2.1.length:=by omega
 unfold Zd0;rw[Zak hl];have:=h.mode _ (List.getElem_mem hl);omega
def Zgo(n:Zay)(x:ZaM):Zeq:=(x.2.2.2.2.2.2.1,x.2.2.2.2.2.2.2.1,((ZqY n x:Nat):Int),((2 ^ (Zd0 n x).2.1.toNat:Nat):Int),())
def Zhu(n:Zay)(x:ZaM)(l:List Zeq)(v:Zeq):List Zeq:=
 l.set (l.length - 1) (v.1,x.2.2.2.2.2.2.2.1,qor .i64 v.2.2.1 ((ZqY n x:Nat):Int),qor .i64 v.2.2.2.1 ((2 ^ (Zd0 n x).2.1.toNat:Nat):Int),())
abbrev Zbn(x:ZaM):Bool:=x.2.2.2.2.2.2.2.2.1
def Zd4(n:Zay)(x:ZaM)(out:List Zeq):List Zeq:=match out[out.length - 1]? with
 |some v=>Zhu n x out v
 |none=>out
def Zbq(n:Zay):List ZaM->Bool->List Zeq->List Zeq×Int
 | [],_,out=>(out,0)
 |x::l,rode,out=>
  if x.1=true/\Za0 n x=false then([],9)
  else if Zbn x=true/\(x.1=false\/rode=false) then([],19)
  else if x.1=true then Zbq n l true (if Zbn x=true then Zd4 n x out else out++[Zgo n x])
  else Zbq n l false out
theorem Zdu(n:Zay)(x:ZaM)(l:List ZaM)(rode:Bool)(out:List Zeq):Zbq n (x::l) rode out=if x.1=true/\Za0 n x=false then([],9)
  else if Zbn x=true/\(x.1=false\/rode=false) then([],19)
  else if x.1=true then Zbq n l true (if Zbn x=true then Zd4 n x out else out++[Zgo n x])
  else Zbq n l false out:=rfl
theorem Zh8(n:Zay)(x:ZaM)(out:List Zeq): (Zd4 n x out).length=out.length:=by
 unfold Zd4;split
 ·unfold Zhu;rw[List.length_set]
 ·rfl
theorem Zmh{c d:Bool}{e:Int}{K:Option Int}{k:Int}(h:K=some k): (Option.bind (bif c then some true else some d) fun x=>bif x then some e else K)=some (bif c||d then e else k):=by
 subst h;cases c<;>cases d<;>rfl
theorem ZeX{c d:Bool}{e:Int}{K:Option Int}{k:Int}(h:K=some k): (Option.bind (bif c then some d else some false) fun x=>bif x then some e else K)=some (bif c&&d then e else k):=by
 subst h;cases c<;>cases d<;>rfl
theorem ZeW{c:Bool}{e:Int}{K:Option Int}{k:Int}(h:K=some k): (bif c then some e else K)=some (bif c then e else k):=by
 subst h;cases c<;>rfl
theorem ZdR{o:Option Bool}{c:Bool}{e:Int}{K:Option Int}{k:Int}(ho:o=some c)(h:K=some k): (Option.bind o fun x=>bif x then some e else K)=some (bif c then e else k):=by
 subst ho;subst h;cases c<;>rfl
theorem ZaF{c:Bool}{e k:Int}(he:e≠0): (bif c then e else k)=0↔c=false/\k=0:=by
 cases c<;>simp [he]
def ZrG(q:Za3)(t:Zdk):Bool:=decide (q.2.2.2.2.2.2.2.2.1=(0:Int)) ||decide (Zlw .i64 (Int.fdiv q.2.2.2.2.2.2.2.2.1 (2 ^ (min (Int.toNat t.2.1) 64))) 1=1)
theorem Zrt(a:Int):Zlw .i64 a 1=0\/Zlw .i64 a 1=1:=by
 unfold Zlw
 have h: (BitVec.ofInt IntKind.i64.bits a &&& BitVec.ofInt IntKind.i64.bits 1).toNat=(BitVec.ofInt IntKind.i64.bits a).toNat % 2:=by rw[BitVec.toNat_and];show _ &&& 1=_;rw[Nat.and_one_is_mod]
 rw[h];have: (BitVec.ofInt IntKind.i64.bits a).toNat % 2=0\/(BitVec.ofInt IntKind.i64.bits a).toNat % 2=1:=by omega
 rcases this with h|h<;>rw[h]
 ·left;rfl
 ·right;rfl
theorem ZrJ(q:Za3)(t:Zdk)(h0:0<=t.2.1): (bif !decide (q.2.2.2.2.2.2.2.2.1=(0:Int)) then Option.bind (Zm4 .i64 q.2.2.2.2.2.2.2.2.1 t.2.1) fun x=>some (decide (Zlw .i64 x (1:Int)=(0:Int))) else some false)=some (!ZrG q t):=by
 unfold ZrG
 have hs:Zm4 .i64 q.2.2.2.2.2.2.2.2.1 t.2.1=some (Int.fdiv q.2.2.2.2.2.2.2.2.1 (2 ^ (min (Int.toNat t.2.1) 64))):=by unfold Zm4;rw[if_neg (by omega)];rfl
 rw[hs];simp only[bind_some]
 cases decide (q.2.2.2.2.2.2.2.2.1=(0:Int)) with
 |true=>rfl
 |false=>
  rcases Zrt (Int.fdiv q.2.2.2.2.2.2.2.2.1 (2 ^ (min (Int.toNat t.2.1) 64))) with h|h<;>rw[h]<;>rfl
def Zis(n:Zay)(q:Za3)(x:ZaM):Int:=
 bif !decide ((cl (Za1 n x) x.2.2.1).1=x.2.2.2.2.1) || !decide ((cl (Za1 n x) x.2.2.2.1).1=x.2.2.2.2.2.1) then 24 else
 bif !decide ((cl (Za1 n x) x.2.2.1).2.2.1=x.2.2.2.2.2.2.1) || !decide ((cl (Za1 n x) x.2.2.2.1).2.1=x.2.2.2.2.2.2.2.1) then 10 else
 bif (rn n x.2.1).2.2.2.2.2.2.1 then 27 else
 bif q.2.2.2.2.2.2.1&& !(rn n x.2.1).2.2.2.2.2.1 then 29 else
 bif q.2.2.2.2.2.2.2.1&& !(Zrm n (rn n x.2.1)).2.2.1 then 30 else
 bif !ZrG q (Zrm n (rn n x.2.1)) then 31 else
 bif !Zbn x&& !(cl (Za1 n x) x.2.2.1).2.2.2.1 then 25 else
 bif !Zbn x&& !ZfC n q x.2.2.2.2.1 then 29 else 0
theorem Zkj{n:Zay}{x:ZaM}(hx:Za0 n x=true):idx n.2.2.1 x.2.1=some (rn n x.2.1)/\rn n x.2.1∈n.2.2.1/\idx (rn n x.2.1).2.2.2.2.2.2.2.1 x.2.2.1=some (cl (Za1 n x) x.2.2.1)/\idx (rn n x.2.1).2.2.2.2.2.2.2.1 x.2.2.2.1=some (cl (Za1 n x) x.2.2.2.1):=by
 unfold Za0 at hx;simp only[Bool.and_eq_true,decide_eq_true_eq]at hx;obtain⟨hr,h0,h1,h2⟩:=hx;unfold Za1 at h2
 refine⟨Zbj hr u0,Zi1 hr,Zbj ?_ c0,Zbj ?_ c0⟩<;> (unfold inR;rw[Bool.and_eq_true,decide_eq_true_eq,decide_eq_true_eq];omega)
theorem Zga{n:Zay}(q:Za3){s:Int}(h:inR s n.1.length=true):F83 n q s=some (ZfC n q s):=by
 unfold F83 ZfC;rw[show idx n.1 s=some (Zb2 n s) from Zbj h s0];simp only[bind_some]
 cases q.2.2.2.2.2.2.1<;>cases (Zb2 n s).2.2.1<;>rfl
theorem ZrK{n:Zay}(hS:ZcL n)(q:Za3){x:ZaM}(hx:Za0 n x=true)(hf:inR x.2.2.2.2.1 n.1.length=true):F93 n q x=some (Zis n q x):=by
 obtain⟨h1,h2,h3,h4⟩:=Zkj hx;obtain⟨h5,h6⟩:=ZqQ hS h2;have hm:=(hS.mode _ h6).1;unfold F93 Zis;rw[h1];simp only[bind_some];rw[h3,h4,h5];simp only[bind_some];refine Zmh (Zmh (ZeW (ZeX (ZeX (ZdR (ZrJ q _ hm) (ZeX (ZdR (c:= !Zbn x&& !ZfC n q x.2.2.2.2.1) ?_ rfl)))))));rw[Zga q hf];unfold Zbn
 cases x.2.2.2.2.2.2.2.2.1<;>rfl
def Zdp(x:ZaM)(p:Zcf):Bool:=decide (p.1=x.2.2.2.2.1) && (decide (p.2.1=x.2.2.2.2.2.1) &&decide (p.2.2.1=IntKind.wrap .i64 (x.2.2.2.2.2.2.2.1 - x.2.2.2.2.2.2.1)))
def Zgn(q:Za3)(p:Zcf):Bool:=p.2.2.2.1|| !q.2.2.2.2.2.2.1
def ZgB(n:Zay)(q:Za3)(x:ZaM):Int:=bif n.2.2.2.2.1.any fun p=>Zdp x p&&Zgn q p then 0 else bif n.2.2.2.2.1.any (Zdp x) then 29 else 18
theorem ZfI{α:Type}{l:List α}{i:Nat}(h:i<l.length)(f:α->Bool): (l.take (i+1)).any f=((l.take i).any f||f l[i]):=by rw[List.take_succ_eq_append_getElem h,List.any_append];simp
theorem Zs6{α:Type}{l:List α}{i:Nat}(h:i<l.length){f:α->Bool}(hf:f l[i]=true):l.any f=true:=List.any_eq_true.2 ⟨_,List.getElem_mem h,hf⟩
theorem ZlR{n:Zay}(hp:n.2.2.2.2.1.length<=4096)(q:Za3)(x:ZaM):F94 n q x=some (ZgB n q x):=by
 unfold F94;refine ZcB (fun r:Int ⊕ Int=>Sum.elim id id r=ZgB n q x) ?_ ?_
 ·refine ZaX n.2.2.2.2.1.length _ (fun i (s:Int×Int)=>s=((bif (n.2.2.2.2.1.take i).any (Zdp x) then 29 else 18),(i:Int))/\((n.2.2.2.2.1.take i).any fun p=>Zdp x p&&Zgn q p)=false) ?_ ?_ _ ⟨rfl,rfl⟩
  ·rintro i _ hi ⟨rfl,ha⟩;simp only[Zax hi,cond_true,Zah hi,bind_some,Zal hi (show _<=9223372036854775807 by omega)]
   have e1: (bif !decide ((n.2.2.2.2.1[i]).1=x.2.2.2.2.1) then some true else bif !decide ((n.2.2.2.2.1[i]).2.1=x.2.2.2.2.2.1) then some true else some !decide ((n.2.2.2.2.1[i]).2.2.1=IntKind.wrap .i64 (x.2.2.2.2.2.2.2.1 - x.2.2.2.2.2.2.1)))=some (!Zdp x n.2.2.2.2.1[i]):=by
    unfold Zdp
    cases decide ((n.2.2.2.2.1[i]).1=x.2.2.2.2.1)<;>cases decide ((n.2.2.2.2.1[i]).2.1=x.2.2.2.2.2.1)<;>rfl
   have e2: (bif (n.2.2.2.2.1[i]).2.2.2.1 then some true else some !q.2.2.2.2.2.2.1)=some (Zgn q n.2.2.2.2.1[i]):=by
    unfold Zgn
    cases (n.2.2.2.2.1[i]).2.2.2.1<;>rfl
   rw[e1,e2];simp only[bind_some]
   cases hm:Zdp x n.2.2.2.2.1[i] with
   |false=>
    left;refine⟨_,rfl, ?_, ?_⟩
    ·rw[ZfI hi,hm,Bool.or_false]
    ·rw[ZfI hi,ha,hm];rfl
   |true=>
    cases hfr:Zgn q n.2.2.2.2.1[i] with
    |true=>
     right;refine⟨_,rfl, ?_⟩;unfold ZgB;rw[Zs6 hi (f:=fun p=>Zdp x p&&Zgn q p) (by rw[hm,hfr];rfl)]
     rfl
    |false=>
     left;refine⟨_,rfl, ?_, ?_⟩
     ·rw[ZfI hi,hm,Bool.or_true];rfl
     ·rw[ZfI hi,ha,hm,hfr];rfl
  ·rintro _ ⟨rfl,ha⟩;simp only[Zaw,cond_false];refine⟨_,rfl, ?_⟩;rw[List.take_length]at ha ⊢;unfold ZgB;rw[ha];rfl
 ·rintro (r|r) hr
  ·exact congrArg some hr
  ·exact congrArg some hr
def Zg4(n:Zay)(q:Za3)(x:ZaM):Int:=
 bif !inR x.2.2.2.2.1 n.1.length|| !inR x.2.2.2.2.2.1 n.1.length then 9 else
 bif (bif x.1 then !Za0 n x else !decide (x.2.1=0) || (!decide (x.2.2.1=0) || (!decide (x.2.2.2.1=0) ||Zbn x))) then 9 else
 bif !decide (0<=x.2.2.2.2.2.2.1/\x.2.2.2.2.2.2.1<=3155932800) || !decide (0<=x.2.2.2.2.2.2.2.1/\x.2.2.2.2.2.2.2.1<=3155932800) then 10 else
 bif x.1 then Zis n q x else ZgB n q x
theorem Zgk{o:Option Bool}{c:Bool}{e:Int}{K:Option Int}{k:Int}(ho:o=some c)(h:c=false->K=some k): (Option.bind o fun x=>bif x then some e else K)=some (bif c then e else k):=by
 subst ho;cases c
 ·exact h rfl
 ·rfl
theorem Zth{n:Zay}(hS:ZcL n)(hp:n.2.2.2.2.1.length<=4096)(q:Za3)(x:ZaM):F91 n q x=some (Zg4 n q x):=by
 have hk:n.1.length<=9223372036854775807:=by have:=hS.stops;omega
 unfold F91 Zg4;rw[ZeR _ hk,ZeR _ hk]
 refine Zgk (c:= !inR x.2.2.2.2.1 n.1.length|| !inR x.2.2.2.2.2.1 n.1.length) (by cases inR x.2.2.2.2.1 n.1.length<;>rfl) fun hst=> ?_
 rw[Zhp]
 refine Zgk (c:=bif x.1 then !Za0 n x else !decide (x.2.1=0) || (!decide (x.2.2.1=0) || (!decide (x.2.2.2.1=0) ||Zbn x))) ?_ fun hex=> ?_
 ·unfold Zbn
  cases x.1 with
  |true=>cases Za0 n x<;>rfl
  |false=>cases decide (x.2.1=0)<;>cases decide (x.2.2.1=0)<;>cases decide (x.2.2.2.1=0)<;>rfl
 ·rw[Zfz,Zfz];refine Zgk (c:= !decide (0<=x.2.2.2.2.2.2.1/\x.2.2.2.2.2.2.1<=3155932800) || !decide (0<=x.2.2.2.2.2.2.2.1/\x.2.2.2.2.2.2.2.1<=3155932800)) ?_ fun _=> ?_
  ·simp only[bind_some]
   cases decide (0<=x.2.2.2.2.2.2.1/\x.2.2.2.2.2.2.1<=3155932800)<;>rfl
  ·cases hx1:x.1 with
   |false=>
    simp only[cond_false]
    rw[ZlR hp];rfl
   |true=>
    rw[hx1]at hex;simp only[cond_true]at hex ⊢
    rw[ZrK hS q (by simpa using hex) (by rw[Bool.or_eq_false_iff]at hst;simpa using hst.1)]
    rfl
def Zl9(a b:ZaM)(stay:Bool)(l:ZjT):Bool:=decide (l.1=a.2.1) && (decide (l.2.1=a.2.2.2.1) && (decide (l.2.2.1=b.2.1) && (decide (l.2.2.2.1=b.2.2.1) && (l.2.2.2.2.1==stay))))
def ZgY(n:Zay)(a b:ZaM)(stay:Bool):Bool:=n.2.2.2.1.any (Zl9 a b stay)
theorem Zi9       {n : Zay }(hl : n.2.2.2.1.length <= 4096)(a b : ZaM )(stay : Bool) : F92 n a b stay = some (ZgY   n a b stay) := by
  unfold F92;refine ZcB     (fun r : Unit ⊕ Bool => Sum.elim (fun _ => false) id r = ZgY   n a b stay) ?_ ?_
  · unfold ZgY
    refine ZaX     n.2.2.2.1.length _ (fun i (s : Int) => s = (i : Int) /\ (n.2.2.2.1.take i).any (Zl9   a b stay) = false) ?_ ?_ _ ⟨rfl, rfl⟩
    · rintro i _ hi ⟨rfl, ha⟩
      simp only [Zax    hi, cond_true, Zah     hi, bind_some, Zal       hi (show _ <= 9223372036854775807 by omega)]
      have e1 : (bif decide ((n.2.2.2.1[i]).1 = a.2.1) then
 bif decide ((n.2.2.2.1[i]).2.1 = a.2.2.2.1) then
 bif decide ((n.2.2.2.1[i]).2.2.1 = b.2.1) then
 bif decide ((n.2.2.2.1[i]).2.2.2.1 = b.2.2.1) then some ((n.2.2.2.1[i]).2.2.2.2.1 == stay) else some false
 else some false
 else some false
 else some false) = some (Zl9   a b stay n.2.2.2.1[i]) := by
        unfold Zl9
        cases decide ((n.2.2.2.1[i]).1 = a.2.1) <;> cases decide ((n.2.2.2.1[i]).2.1 = a.2.2.2.1) <;> cases decide ((n.2.2.2.1[i]).2.2.1 = b.2.1) <;> cases decide ((n.2.2.2.1[i]).2.2.2.1 = b.2.2.1) <;> rfl
      erw [e1];simp only [bind_some]
      cases hm : Zl9   a b stay n.2.2.2.1[i] with
      | false =>
        left;refine ⟨_, rfl, rfl, ?_⟩
        rw [ZfI      hi, ha, hm]; rfl
      | true =>
        right;refine ⟨_, rfl, ?_⟩;rw [Zs6    hi hm]; rfl
    · rintro _ ⟨rfl, ha⟩
      simp only [Zaw    , cond_false];refine ⟨_, rfl, ?_⟩;rw [List.take_length]at ha;rw [ha]; rfl
  · rintro (r | r) hr
    · exact congrArg some hr
    · exact congrArg some hr
def ZbL(n:Zay)(a b:ZaM):Int:=
 bif !decide (a.2.2.2.2.2.1=b.2.2.2.2.1) then 24 else
 bif !a.1&& !b.1 then 32 else
 bif Zbn b then(bif !a.1|| !ZgY n a b true then 19 else bif decide (b.2.2.2.2.2.2.1<a.2.2.2.2.2.2.2.1) then 10 else 0) else
 bif !b.1 then(bif !decide (b.2.2.2.2.2.2.1=a.2.2.2.2.2.2.2.1) then 10 else 0) else
 bif !a.1 then(bif decide (b.2.2.2.2.2.2.1<a.2.2.2.2.2.2.2.1) then 28 else 0) else
 bif decide (IntKind.wrap .i64 (a.2.2.2.2.2.2.2.1+(Zb2 n a.2.2.2.2.2.1).2.2.2.1)<=b.2.2.2.2.2.2.1) || (ZgY n a b false&&decide (a.2.2.2.2.2.2.2.1<=b.2.2.2.2.2.2.1)) then 0 else 28
theorem Zoc{n:Zay}(hl:n.2.2.2.1.length<=4096){a b:ZaM}(ha:inR b.2.2.2.2.1 n.1.length=true):F89 n a b=some (ZbL n a b):=by
 unfold F89 ZbL;rw[Zi9 hl,Zi9 hl];by_cases h24:a.2.2.2.2.2.1=b.2.2.2.2.1
 case neg=>rw[decide_eq_false h24];rfl
 rw[decide_eq_true h24];simp only[Bool.not_true,cond_false,bind_some];refine ZeX ?_;unfold Zbn
 cases b.2.2.2.2.2.2.2.2.1 with
 |true=>
  simp only[cond_true]
  exact Zmh (by cases decide (b.2.2.2.2.2.2.1<a.2.2.2.2.2.2.2.1)<;>rfl)
 |false=>
  simp only[cond_false]
  cases b.1 with
  |false=>
   simp only[Bool.not_false,cond_true]
   cases decide (b.2.2.2.2.2.2.1=a.2.2.2.2.2.2.2.1)<;>rfl
  |true=>
   simp only[Bool.not_true,cond_false]
   cases a.1 with
   |false=>
    simp only[Bool.not_false,cond_true]
    cases decide (b.2.2.2.2.2.2.1<a.2.2.2.2.2.2.2.1)<;>rfl
   |true=>
    simp only[Bool.not_true,cond_false];have hi:idx n.1 a.2.2.2.2.2.1=some (Zb2 n a.2.2.2.2.2.1):=by rw[h24];exact Zbj ha s0
    rw[hi];simp only[bind_some]
    cases decide (IntKind.wrap .i64 (a.2.2.2.2.2.2.2.1+(Zb2 n a.2.2.2.2.2.1).2.2.2.1)<=b.2.2.2.2.2.2.1)<;>cases ZgY n a b false<;>cases decide (a.2.2.2.2.2.2.2.1<=b.2.2.2.2.2.2.1)<;>rfl
def g0:ZaM:=(false,0,0,0,0,0,0,0,false,())
def lg(L:List ZaM)(i:Nat):ZaM:=(L[i]?).getD g0
def ZhR(n:Zay)(q:Za3)(L:List ZaM):Int:=
 bif !decide ((lg L 0).2.2.2.2.1=q.1) then 24 else
 bif Zbn (lg L 0) then 19 else
 bif !(lg L 0).1&& (decide (1<L.length) && ((lg L 1).1&& !decide ((lg L 1).2.2.2.2.2.2.1=(lg L 0).2.2.2.2.2.2.2.1))) then 10 else
 bif !(lg L 0).1&& (decide (L.length=1) && (bif q.2.2.2.1 then !decide ((lg L 0).2.2.2.2.2.2.2.1=q.2.2.1) else !decide ((lg L 0).2.2.2.2.2.2.1=q.2.2.1))) then 10 else
 bif !q.2.2.2.1&&decide ((lg L 0).2.2.2.2.2.2.1<q.2.2.1) then 10 else
 bif q.2.2.2.2.2.2.2.2.2.1&& ((lg L 0).1&&decide ((lg L 0).2.2.2.2.2.2.1<IntKind.wrap .i64 (q.2.2.1+(Zb2 n q.1).2.2.2.1))) then 28 else 0
theorem Zet{L:List ZaM}{i:Nat}(h:i<L.length):idx L (i:Int)=some (lg L i):=by rw[Zah h];unfold lg;rw[Zak h]
theorem Zoj{n:Zay}{q:Za3}{L:List ZaM}(h0:0<L.length)(hq:inR q.1 n.1.length=true):F88 n q (L,())=some (ZhR n q L):=by
 unfold F88 ZhR;have e0:idx (L,()).1 (0:Int)=some (lg L 0):=Zet h0;rw[e0];simp only[bind_some];refine ZeW (ZdR (c:=Zbn (lg L 0)) rfl ?_ : (Option.bind (some _) fun _=>_)=_)
 refine ZdR (c:= !(lg L 0).1&& (decide (1<L.length) && ((lg L 1).1&& !decide ((lg L 1).2.2.2.2.2.2.1=(lg L 0).2.2.2.2.2.2.2.1)))) ?_ (ZdR (c:= !(lg L 0).1&& (decide (L.length=1) && (bif q.2.2.2.1 then !decide ((lg L 0).2.2.2.2.2.2.2.1=q.2.2.1) else !decide ((lg L 0).2.2.2.2.2.2.1=q.2.2.1)))) ?_ (ZeX (ZdR (c:=q.2.2.2.2.2.2.2.2.2.1&& ((lg L 0).1&&decide ((lg L 0).2.2.2.2.2.2.1<IntKind.wrap .i64 (q.2.2.1+(Zb2 n q.1).2.2.2.1)))) ?_ rfl)))
 ·by_cases h1:1<L.length
  ·have e1:idx L (1:Int)=some (lg L 1):=Zet h1;rw[decide_eq_true (show (1:Int)< (L.length:Int) by omega),decide_eq_true h1,e1];simp only[bind_some]
   cases (lg L 0).1<;>cases (lg L 1).1<;>rfl
  ·rw[decide_eq_false (show¬ (1:Int)< (L.length:Int) by omega),decide_eq_false h1]
   cases (lg L 0).1<;>rfl
 ·rw[show decide ((L.length:Int)=1)=decide (L.length=1) from decide_eq_decide.2 (by omega)]
  cases (lg L 0).1<;>cases decide (L.length=1)<;>cases q.2.2.2.1<;>cases decide ((lg L 0).2.2.2.2.2.2.2.1=q.2.2.1)<;>cases decide ((lg L 0).2.2.2.2.2.2.1=q.2.2.1)<;>rfl
 ·rw[show idx n.1 q.1=some (Zb2 n q.1) from Zbj hq s0];simp only[bind_some]
  cases q.2.2.2.2.2.2.2.2.2.1<;>cases (lg L 0).1<;>rfl
end Q
namespace Q
open Tr Go
open Option (bind_some)
def Zmo(L:List ZaM)(i:Nat):Bool:=decide (0<i) && (lg L (i - 1)).1
theorem Zn9{n:Zay}(h:ZcL n)(hv:F61 n=some true)(L:List ZaM)(hj:L.length<=1000):F75 n (L,())=some (Zbq n L false []):=by
 unfold F75;rw[hv];simp only[bind_some,Bool.not_true,cond_false];refine ZcB (fun r=>Zbq n L false []=Sum.elim (fun l:List Zeq=>(l,(0:Int))) (fun y=>y) r) ?_ ?_
 ·refine ZaX L.length _ (fun i (s:List Zeq×Int)=> ∃l,s=(l,(i:Int))/\l.length<=i/\(Zmo L i=true->0<l.length)/\Zbq n L false []=Zbq n (L.drop i) (Zmo L i) l) ?_ ?_ _ ⟨[],rfl,by simp,fun e=>(nomatch e),rfl⟩
  ·rintro i _ hi ⟨l,rfl,hl,hw,hgo⟩;have hil:L.length<=9223372036854775807:=by omega
   rw[List.drop_eq_getElem_cons hi]at hgo
   have hnx:Zmo L (i+1)=(L[i]).1:=by unfold Zmo lg;rw[Nat.add_sub_cancel,Zak hi,decide_eq_true (Nat.succ_pos i)];rfl
   have hro: (bif !(L[i]).1 then some true else bif decide ((i:Int)=(0:Int)) then some true else Option.bind (idx L (IntKind.wrap .i64 ((i:Int) - (1:Int)))) fun x5=>some !x5.1)=some (!((L[i]).1&&Zmo L i)):=by
    cases (L[i]).1 with
    |false=>rfl
    |true=>
     unfold Zmo;by_cases h0:i=0
     ·subst h0;rfl
     ·rw[decide_eq_false (show¬ ((i:Int)=0) by omega),decide_eq_true (show 0<i by omega)];have e:IntKind.wrap .i64 ((i:Int) - 1)=((i - 1:Nat):Int):=by rw[Zaj (by omega) (by omega)];omega
      rw[e,Zet (show i - 1<L.length by omega)];rfl
   simp only[Zax hi,cond_true,Zah hi,bind_some,Zal hi hil,Zhp];rw[hro];generalize L[i]=x at*;rw[Zdu]at hgo;generalize Zmo L i=w at*
   cases hx1:x.1 with
   |false=>
    rw[hx1]at hgo hnx;simp only[cond_false,bind_some,Bool.not_false,cond_true]
    cases hs:Zbn x with
    |true=>
     right;rw[hs]at hgo;unfold Zbn at hs;rw[hs];refine⟨_,rfl, ?_⟩
     rw[hgo];simp
    |false=>
     left;rw[hs]at hgo;unfold Zbn at hs;rw[hs];refine⟨_,rfl,l,rfl,by omega,fun e=>(by rw[hnx]at e;cases e), ?_⟩
     rw[hgo,hnx];simp
   |true=>
    rw[hx1]at hgo hnx;simp only[cond_true,bind_some,Bool.not_true,cond_false,Bool.true_and]
    cases hx:Za0 n x with
    |false=>
     right;rw[hx]at hgo;refine⟨_,rfl, ?_⟩
     rw[hgo];simp
    |true=>
     rw[hx]at hgo;obtain⟨e1,e2,e3,e4⟩:=ZrL h hx;have ez:=ZoA h hx;simp only[Bool.not_true,cond_false]
     cases hs:Zbn x with
     |false=>
      left;rw[hs]at hgo;have hs' :=hs;unfold Zbn at hs';rw[hs'];simp only[cond_false,bind_some];rw[e1];simp only[bind_some];rw[e2];simp only[bind_some];rw[Zmq e3 e4,ez];simp only[bind_some];rw[Zbg (by simp;omega)];refine⟨_,rfl,l++[Zgo n x],rfl,by simp;omega,fun _=>by simp, ?_⟩
      rw[hgo,hnx];simp
     |true=>
      rw[hs]at hgo;have hs' :=hs;unfold Zbn at hs';rw[hs'];simp only[cond_true,bind_some]
      cases w with
      |false=>
       right;refine⟨_,rfl, ?_⟩
       rw[hgo];simp
      |true=>
       left;have hpos:=hw rfl;obtain⟨v,hv⟩: ∃v,l[l.length - 1]? =some v:=⟨_,List.getElem?_eq_getElem (by omega)⟩;simp only[Bool.not_true,cond_false];rw[e1];simp only[bind_some];rw[e2];simp only[bind_some];rw[Zmq e3 e4,ez];have hb:=ZrZ (k:=l.length) hpos (by omega);simp only[bind_some,List.length_set];rw[hb];simp only[bind_some,hv,Zo4 (show l.length - 1<l.length by omega)];rw[Zo4 (by rw[List.length_set];omega)];simp only[bind_some,List.set_set];have ea:Zd4 n x l=Zhu n x l v:=by unfold Zd4;rw[hv]
       refine⟨_,rfl,Zhu n x l v,rfl,by rw[<-ea,Zh8];omega,fun _=>by rw[<-ea,Zh8];exact hpos, ?_⟩;rw[hgo, <-ea,hnx];simp
  ·rintro _ ⟨l,rfl,hl,hw,hgo⟩;simp only[Zaw,cond_false];refine⟨_,rfl, ?_⟩;rw[hgo,List.drop_length];rfl
 ·rintro r hr;rw[hr]
  cases r<;>rfl
theorem Zpe(z:Int): ∃r,F78 z=some r:=by
 unfold F78
 suffices h: ∃r,run _ ((0:Int),(0:Int))=some r/\True by obtain⟨r,h,_⟩:=h;exact⟨r,by rw[h];rfl⟩
 refine ZaX 62 (fun _=>True) (fun i (s:Int×Int)=>s.2=(i:Int)) ?_ ?_ _ rfl
 ·rintro i ⟨a,b⟩ hi hb;left;simp only at hb;subst hb;have w2:IntKind.wrap .i64 ((i:Int)+1)=((i+1:Nat):Int):=by rw[Zaj (by omega) (by omega)];omega
  have hs: ∃y,Zm4 .i64 z (i:Int)=some y:=by unfold Zm4;rw[if_neg (by omega)];exact⟨_,rfl⟩
  obtain⟨y,hy⟩:=hs;simp only[decide_eq_true (show (i:Int)<62 by omega),cond_true,hy,bind_some,w2]
  cases decide (Zlw .i64 y 1=1) with
  |true=>exact⟨_,rfl,rfl⟩
  |false=>exact⟨_,rfl,rfl⟩
 ·rintro ⟨a,b⟩ hb;simp only at hb;subst hb;exact⟨_,rfl,trivial⟩
theorem ZgJ(a b d:Int): ∃r,F79 a b d=some r:=by
 unfold F79
 cases decide (b<=a)<;>exact⟨_,rfl⟩
theorem ZlL(p:Zil){l:List Zeq}{i k:Nat}(hik:i<=k)(hk:k<l.length)(hl:l.length<=100): ∃r,F72 p l (i:Int) (k:Int)=some r:=by
 unfold F72
 suffices h: ∃r,run _ ((0:Int),(0:Int),(i:Int))=some r/\True by
  obtain⟨r,h,_⟩:=h;rw[h];simp only[bind_some];obtain⟨b,hb⟩:=Zpe r.1;obtain⟨c,hc⟩:=ZgJ (l[i]).1 (l[k]).1 p.2.2.2.2.1;rw[hb];simp only[bind_some,Zah (show i<l.length by omega),Zah hk,hc]
  cases decide (IntKind.wrap .i64 (IntKind.wrap .i64 ((k:Int) - (i:Int))+1)<=p.2.2.1)<;>cases decide (b<=p.2.2.2.1)<;>cases c<;>exact⟨_,rfl⟩
 refine ZaX (k+1 - i) (fun _=>True) (fun c (t:Int×Int×Int)=>t.2.2=((i+c:Nat):Int)) ?_ ?_ _ rfl
 ·rintro c ⟨a,b,d⟩ hc hd;left;simp only at hd;subst hd;have e1:IntKind.wrap .i64 (((i+c:Nat):Int)+1)=((i+(c+1):Nat):Int):=by rw[Zaj (by omega) (by omega)];omega
  simp only[decide_eq_true (show ((i+c:Nat):Int)<=(k:Int) by omega),cond_true,Zah (show i+c<l.length by omega),bind_some,e1];exact⟨_,rfl,rfl⟩
 ·rintro ⟨a,b,d⟩ hd;simp only at hd;subst hd;rw[decide_eq_false (show¬ ((i+(k+1 - i):Nat):Int)<=(k:Int) by omega)];exact⟨_,rfl,trivial⟩
theorem ZlY(F:Zfk)(p:Zil){l:List Zeq}{i:Nat}(hi:i<l.length)(hl:l.length<=100): ∃r,F76 F p l (i:Int)=some r:=by
 unfold F76;by_cases h0:0<i
 ·have e:IntKind.wrap .i64 ((i:Int) - 1)=((i - 1:Nat):Int):=by rw[Zaj (by omega) (by omega)];omega
  obtain⟨c,hc⟩:=ZgJ (l[i - 1]).2.1 (l[i]).1 F.2.2.1;rw[decide_eq_true (show (0:Int)< (i:Int) by omega),e];simp only[cond_true,Zah (show i - 1<l.length by omega),Zah hi,bind_some,hc]
  cases c<;>exact⟨_,rfl⟩
 ·rw[decide_eq_false (show¬ (0:Int)< (i:Int) by omega)];exact⟨_,rfl⟩
abbrev TkT:=Int×Int×Int×Int×Unit
abbrev ZhE:=Bool×Int×List TkT×Unit
def Zgl(n:Nat)(T:List ZhE):Prop:=T.length=n+1/\ ∀j r,T[j]? =some r->r.2.2.1.length+j<=n
theorem Zgl.get{n:Nat}{T:List ZhE}(h:Zgl n T){j:Nat}(hj:j<=n): ∃r,T[j]? =some r/\r.2.2.1.length+j<=n:=by have hl:=h.1;exact⟨_,List.getElem?_eq_getElem (show j<T.length by omega),h.2 _ _ (List.getElem?_eq_getElem (show j<T.length by omega))⟩
theorem Zgl.put{n:Nat}{T:List ZhE}(h:Zgl n T){i:Nat}{r:ZhE}(hr:r.2.2.1.length+i<=n):Zgl n (T.set i r):=by
 refine⟨by rw[List.length_set];exact h.1,fun j s hs=> ?_⟩;by_cases hij:i=j
 ·subst hij;by_cases hi:i<T.length
  ·rw[List.getElem?_set_self hi]at hs;obtain rfl:=Option.some.inj hs;exact hr
  ·rw[List.getElem?_eq_none (by rw[List.length_set];omega)]at hs;cases hs
 ·rw[List.getElem?_set_ne hij]at hs;exact h.2 j s hs
theorem Zju{β σ τ:Type}{o:Option β}{f:β->Option (σ ⊕ τ)}{Q:σ->Prop}(P:β->Prop)(h: ∃r,o=some r/\P r)(k: ∀r,P r-> ∃s,f r=some (.inl s)/\Q s): ∃s,Option.bind o f=some (.inl s)/\Q s:=by obtain⟨r,rfl,hr⟩:=h;exact k r hr
theorem ZoM(F:Zfk)(hF:F.1.length<=4096)(l:List Zeq)(hl:l.length<=8): ∃R,F74 F l=some R:=by
 unfold F74;have w0:IntKind.wrap .i64 ((l.length:Int)+1)=((l.length+1:Nat):Int):=by rw[Zaj (by omega) (by omega)];omega
 have hg:Zar (decide ((0:Int)<=((l.length+1:Nat):Int)/\((l.length+1:Nat):Int)<=((l.length+1:Nat):Int)/\((l.length+1:Nat):Int)<=(Zaq:Int)))=some ():=by
  have hm: (Zaq:Int)=4294967296:=by simp [Zaq]
  rw[decide_eq_true (by rw[hm];omega)];rfl
 have hrep: ∀o:List ZhE,o=List.replicate (l.length+1) (false,0,[],())->inb (l.length:Int) o.length=some l.length/\o[l.length]? =some (false,0,[],()):=by rintro o rfl;exact⟨ZaH (by simp),by rw[List.getElem?_replicate,if_pos (by omega)]⟩
 obtain⟨r1,r2⟩:=hrep _ rfl;rw[w0];erw[hg];simp only[bind_some,Int.toNat_natCast];erw[r1];simp only[bind_some];erw[r2];simp only[bind_some]
 have key: ∀ (o:Option (List ZhE)) (k:List ZhE->Option (Int×List TkT×Bool)),(∃T,o=some T/\Zgl l.length T)->(∀T,Zgl l.length T-> ∃R,k T=some R)-> ∃R,Option.bind o k=some R:=by rintro o k ⟨T,rfl,h⟩ hk;exact hk T h
 refine key _ _ (ZaX l.length _ (fun c (s:List ZhE×Int)=> ∃T,s=(T,(l.length:Int) - 1 - (c:Int))/\Zgl l.length T) ?_ ?_ _ ?_) ?_
 ·rintro c _ hc ⟨T,rfl,hT⟩;left;obtain⟨i,hi⟩: ∃i:Nat,(l.length:Int) - 1 - (c:Int)=(i:Int):=⟨l.length - 1 - c,by omega⟩;have hil:i<l.length:=by omega
  rw[hi];rw[decide_eq_true (show (0:Int)<=(i:Int) by omega)];simp only[cond_true];refine Zju (fun T' =>Zgl l.length T') ?_ ?_
  ·refine ZaX (l.length - i) _ (fun m (s:List ZhE×Int)=> ∃T,s=(T,((i+m:Nat):Int))/\Zgl l.length T) ?_ ?_ _ ⟨T,rfl,hT⟩
   ·rintro m _ hm ⟨T,rfl,hT⟩;left;have hk:i+m<l.length:=by omega
    have e1:IntKind.wrap .i64 (((i+m:Nat):Int)+1)=((i+m+1:Nat):Int):=by rw[Zaj (by omega) (by omega)];omega
    have hTl:=hT.1;have hbk:inb ((i+m+1:Nat):Int) T.length=some (i+m+1):=ZaH (by omega);obtain⟨r,hr,hcr⟩:=hT.get (show i+m+1<=l.length by omega);simp only[Zax hk,cond_true,e1,hbk,hr,bind_some]
    cases r.1 with
    |false=>exact⟨_,rfl,T,rfl,hT⟩
    |true=>
     simp only[Bool.not_true,cond_false];refine Zju (fun T' =>Zgl l.length T') ?_ ?_
     ·refine ZaX F.1.length _ (fun p (s:List ZhE×Int)=> ∃T,s=(T,(p:Int))/\Zgl l.length T) ?_ ?_ _ ⟨T,rfl,hT⟩
      ·rintro p _ hp ⟨T,rfl,hT⟩;left;have e2:IntKind.wrap .i64 ((p:Int)+1)=((p+1:Nat):Int):=by rw[Zaj (by omega) (by omega)];omega
       have hTl:=hT.1;have hbk:inb ((i+m+1:Nat):Int) T.length=some (i+m+1):=ZaH (by omega);have hbi:inb (i:Int) T.length=some i:=ZaH (by omega);obtain⟨rk,hrk,hck⟩:=hT.get (show i+m+1<=l.length by omega);obtain⟨ri,hri,hci⟩:=hT.get (show i<=l.length by omega);obtain⟨cv,hcv⟩:=ZlL F.1[p] (show i<=i+m by omega) hk (by omega);obtain⟨pr,hpr⟩:=ZlY F F.1[p] hil (by omega);simp only[Zax hp,cond_true,Zah hp,bind_some,hcv,hpr,hbk,hbi,hrk,hri,e2]
       cases cv with
       |false=>exact⟨_,rfl,T,rfl,hT⟩
       |true=>
        simp only[Bool.not_true,cond_false];refine Zju (fun _=>True) ?_ fun b _=> ?_
        ·cases ri.1 with
         |false=>exact⟨_,rfl,trivial⟩
         |true=>
          simp only[cond_true]
          cases decide (ri.2.1<IntKind.wrap .i64 (pr+rk.2.1)) with
          |true=>exact⟨_,rfl,trivial⟩
          |false=>
           simp only[cond_false]
           cases decide (IntKind.wrap .i64 (pr+rk.2.1)=ri.2.1)<;>exact⟨_,rfl,trivial⟩
        ·cases b with
         |true=>exact⟨_,rfl,T,rfl,hT⟩
         |false=>
          simp only[cond_false]
          have hgd:Zar (decide (List.length [((p:Int),(i:Int),((i+m:Nat):Int),pr,())]+List.length rk.2.2.1<=Zaq))=some ():=by rw[decide_eq_true (by simp only[List.length_cons,List.length_nil,Zaq];omega)];rfl
          rw[hgd];simp only[bind_some];exact⟨_,rfl,_,rfl,hT.put (by simp only[List.length_append,List.length_cons,List.length_nil];omega)⟩
      ·rintro _ ⟨T,rfl,hT⟩;simp only[Zaw,cond_false];exact⟨_,rfl,hT⟩
     ·intro T' hT';exact⟨_,rfl,T',rfl,hT'⟩
   ·rintro _ ⟨T,rfl,hT⟩;rw[show i+(l.length - i)=l.length by omega];simp only[Zaw,cond_false];exact⟨_,rfl,hT⟩
  ·intro T' hT';have e1:IntKind.wrap .i64 ((i:Int) - 1)=(l.length:Int) - 1 - ((c+1:Nat):Int):=by rw[Zaj (by omega) (by omega)];omega
   rw[e1];exact⟨_,rfl,T',rfl,hT'⟩
 ·rintro _ ⟨T,rfl,hT⟩;rw[decide_eq_false (show¬ (0:Int)<=(l.length:Int) - 1 - (l.length:Int) by omega)];exact⟨_,rfl,hT⟩
 ·refine⟨(List.replicate (l.length+1) ((false,0,[],()):ZhE)).set l.length (true,0,[],()), ?_,Zgl.put ⟨by simp,fun j r hr=> ?_⟩ (by simp)⟩
  ·rw[Zaj (by omega) (by omega)];simp only[Int.natCast_zero,Int.sub_zero]
  ·rw[List.getElem?_replicate]at hr;split at hr
   ·obtain rfl:=Option.some.inj hr;simp;omega
   ·cases hr
 ·intro T hT;obtain⟨r,hr,_⟩:=hT.get (Nat.zero_le _);have hb:inb (0:Int) T.length=some 0:=ZaH (i:=0) (by rw[hT.1];omega);simp only[hb,bind_some,hr];exact⟨_,rfl⟩
end Q
namespace Q
open Tr Go
open Option (bind_some)
def Zsw(x:ZaM):Bool:= !x.1&& (decide (0<=x.2.2.2.2.2.2.1) && (decide (x.2.2.2.2.2.2.1<=x.2.2.2.2.2.2.2.1) &&decide (IntKind.wrap .i64 (x.2.2.2.2.2.2.2.1 - x.2.2.2.2.2.2.1)<=14400)))
def Zoh(s:Int)(x:ZaM):Int:=bif Zsw x then IntKind.wrap .i64 (IntKind.wrap .i64 (s+x.2.2.2.2.2.2.2.1) - x.2.2.2.2.2.2.1) else s
def Zr3(L:List ZaM):Int:=L.foldl Zoh 0
theorem ZkI      (L : List ZaM )(hj : L.length <= 1000) : F77 (L, ()) = some (Zr3   L) := by
  unfold F77;refine ZcB     (fun r => r = Zr3   L) ?_ (fun r hr => by rw [hr]);refine ZaX     L.length _ (fun i (s : Int × Int) => s = ((L.take i).foldl Zoh   0, (i : Int))) ?_ ?_ _ rfl
  · rintro i _ hi rfl
    left
    have e1 : (bif !(L[i]).1 then
 bif decide ((0 : Int) <= (L[i]).2.2.2.2.2.2.1) then
 bif decide ((L[i]).2.2.2.2.2.2.1 <= (L[i]).2.2.2.2.2.2.2.1) then
 some (decide (IntKind.wrap .i64 ((L[i]).2.2.2.2.2.2.2.1 - (L[i]).2.2.2.2.2.2.1) <= (14400 : Int)))
 else some false
 else some false
 else some false) = some (Zsw   L[i]) := by
      unfold Zsw
      cases (L[i]).1 <;> cases decide ((0 : Int) <= (L[i]).2.2.2.2.2.2.1) <;> cases decide ((L[i]).2.2.2.2.2.2.1 <= (L[i]).2.2.2.2.2.2.2.1) <;> rfl
    have e2 : (L.take (i + 1)).foldl Zoh   0 = Zoh   ((L.take i).foldl Zoh   0) L[i] := by rw [List.take_succ_eq_append_getElem hi, List.foldl_append]; rfl
    simp only [Zax    hi, cond_true, Zah     hi, bind_some, Zal       hi (show _ <= 9223372036854775807 by omega)];rw [e1, e2];unfold Zoh
    cases Zsw   L[i] <;> exact ⟨_, rfl, rfl⟩
  · rintro _ rfl
    simp only [Zaw    , cond_false];exact ⟨_, rfl, by rw [List.take_length]; rfl⟩
def ZnS(x:ZaM):Bool:=x.1&& !Zbn x
def ZeH(L:List ZaM):Nat:=(L.filter ZnS).length
noncomputable def ZpB(F:Zfk)(l:List Zeq):Int:=match F74 F l with
 |some r=>bif r.2.2 then 0 else 34
 |none=>0
noncomputable def Zsp(n:Zay)(L:List ZaM):Int:=
 bif !decide ((Zbq n L false []).2=0) then(Zbq n L false []).2 else
 bif decide (8< (Zbq n L false []).1.length) then 33 else ZpB n.2.2.2.2.2.1 (Zbq n L false []).1
theorem Zku(F:Zfk)(s:Int): ∃r,F70 F s=some r:=by
 unfold F70
 cases decide ((0:Int)<F.2.2.2.1)<;>exact⟨_,rfl⟩
theorem Zpn{n:Zay}(h:ZcL n)(hv:F61 n=some true)(hF:n.2.2.2.2.2.1.1.length<=4096)(q:Za3)(L:List ZaM)(hj:L.length<=1000): ∃c,F71 n q (L,())=some c/\c.2.2=Zsp n L:=by
 unfold F71 Zsp;rw[Zn9 h hv L hj];simp only[bind_some];generalize Zbq n L false []=R;by_cases h0:R.2=0
 case neg=>rw[decide_eq_false h0];exact⟨_,rfl,rfl⟩
 rw[decide_eq_true h0];simp only[Bool.not_true,cond_false];by_cases h8:8<R.1.length
 ·rw[decide_eq_true (show (8:Int)< (R.1.length:Int) by omega),decide_eq_true h8];exact⟨_,rfl,rfl⟩
 rw[decide_eq_false (show¬ (8:Int)< (R.1.length:Int) by omega),decide_eq_false h8];simp only[cond_false];obtain⟨p,hp⟩:=ZoM n.2.2.2.2.2.1 hF R.1 (by omega);unfold ZpB;rw[hp];simp only[bind_some]
 cases p.2.2 with
 |false=>exact⟨_,rfl,rfl⟩
 |true=>
  simp only[Bool.not_true,cond_false,cond_true];obtain⟨c,hc⟩:=Zku n.2.2.2.2.2.1 p.1;rw[hc,ZkI L hj];simp only[bind_some];by_cases hL:0<L.length
  ·have e:IntKind.wrap .i64 ((L.length:Int) - 1)=((L.length - 1:Nat):Int):=by rw[Zaj (by omega) (by omega)];omega
   have i0:idx L (0:Int)=some (lg L 0):=Zet hL;rw[decide_eq_true (show (0:Int)< (L.length:Int) by omega),e,i0,Zet (show L.length - 1<L.length by omega)];exact⟨_,rfl,rfl⟩
  ·rw[decide_eq_false (show¬ (0:Int)< (L.length:Int) by omega)];exact⟨_,rfl,rfl⟩
def Zh3(L:List ZaM)(i:Nat):Bool:=(lg L i).1&& (decide (i+1=L.length) || !Zbn (lg L (i+1)))
def ZdA(n:Zay)(q:Za3)(x:ZaM):Int:=bif !(cl (Za1 n x) x.2.2.2.1).2.2.2.2.1 then 26 else bif !ZfC n q x.2.2.2.2.2.1 then 29 else 0
def Zir(n:Zay)(q:Za3)(L:List ZaM)(i:Nat):Int:=bif decide (i=0) then ZhR n q L else ZbL n (lg L (i - 1)) (lg L i)
def atE(n:Zay)(q:Za3)(L:List ZaM)(i:Nat):Int:=
 bif !decide (Zg4 n q (lg L i)=0) then Zg4 n q (lg L i) else
 bif !decide (Zir n q L i=0) then Zir n q L i else
 bif Zh3 L i then ZdA n q (lg L i) else 0
theorem ZhI{n:Zay}{q:Za3}{x:ZaM}(h:Zg4 n q x=0):inR x.2.2.2.2.1 n.1.length=true/\inR x.2.2.2.2.2.1 n.1.length=true/\(x.1=true->Za0 n x=true/\Zis n q x=0)/\(x.1=false->ZgB n q x=0):=by
 unfold Zg4 at h;rw[ZaF (by omega),ZaF (by omega),ZaF (by omega)]at h;obtain⟨h1,h2,_,h3⟩:=h;rw[Bool.or_eq_false_iff]at h1;refine⟨by simpa using h1.1,by simpa using h1.2,fun e=> ?_,fun e=> ?_⟩
 ·rw[e]at h2 h3;exact⟨by simpa using h2,h3⟩
 ·rw[e]at h3;exact h3
theorem ZqA{n:Zay}(hS:ZcL n)(hp:n.2.2.2.2.1.length<=4096){q:Za3}(hq:inR q.1 n.1.length=true){L:List ZaM}{i:Nat}(hi:i<L.length)(hj:L.length<=1000):F86 n q (L,()) (i:Int)=some (atE n q L i):=by
 unfold F86 atE;rw[show idx (L,()).1 (i:Int)=some (lg L i) from Zet hi];simp only[bind_some];rw[Zth hS hp q];simp only[bind_some];by_cases h0:Zg4 n q (lg L i)=0
 case neg=>rw[decide_eq_false h0];rfl
 rw[decide_eq_true h0];simp only[Bool.not_true,cond_false];obtain⟨z1,z2,z3,z4⟩:=ZhI h0
 have e1: (bif decide ((i:Int)=(0:Int)) then Option.bind (F88 n q (L,())) fun x2=>some x2
 else Option.bind (idx L (IntKind.wrap .i64 ((i:Int) - (1:Int)))) fun x3=>Option.bind (F89 n x3 (lg L i)) fun x4=>some x4)=some (Zir n q L i):=by
  unfold Zir;by_cases hi0:i=0
  ·subst hi0;rw[Zoj hi hq];rfl
  ·have e:IntKind.wrap .i64 ((i:Int) - 1)=((i - 1:Nat):Int):=by rw[Zaj (by omega) (by omega)];omega
   rw[decide_eq_false (show¬ (i:Int)=0 by omega),decide_eq_false hi0,e,Zet (show i - 1<L.length by omega)];simp only[cond_false,bind_some];rw[Zoc (by have:=hS.links;omega) z1];rfl
 rw[e1];simp only[bind_some];refine ZeW ?_;have w2:IntKind.wrap .i64 ((i:Int)+1)=((i+1:Nat):Int):=by rw[Zaj (by omega) (by omega)];omega
 rw[w2]
 have e2: (bif (lg L i).1 then bif decide (((i+1:Nat):Int)=(↑(List.length L):Int)) then some true
 else Option.bind (idx L ((i+1:Nat):Int)) fun x6=>some !x6.2.2.2.2.2.2.2.2.1
 else some false)=some (Zh3 L i):=by
  unfold Zh3;rw[show decide (((i+1:Nat):Int)=(L.length:Int))=decide (i+1=L.length) from decide_eq_decide.2 (by omega)];by_cases h1:i+1=L.length
  ·rw[decide_eq_true h1]
   cases (lg L i).1<;>rfl
  ·rw[decide_eq_false h1,Zet (show i+1<L.length by omega)]
   cases (lg L i).1<;>rfl
 rw[e2];simp only[bind_some]
 cases htl:Zh3 L i with
 |false=>rfl
 |true=>
  have hr: (lg L i).1=true:=by unfold Zh3 at htl;rw[Bool.and_eq_true]at htl;exact htl.1
  obtain⟨x1,_,_,x4⟩:=Zkj (z3 hr).1;simp only[cond_true];rw[x1];simp only[bind_some];rw[x4];simp only[bind_some];rw[Zga q z2];unfold ZdA
  cases (cl (Za1 n (lg L i)) (lg L i).2.2.2.1).2.2.2.2.1<;>cases ZfC n q (lg L i).2.2.2.2.2.1<;>rfl
noncomputable def Zp9(n:Zay)(q:Za3)(L:List ZaM):Int:=
 bif !decide ((lg L (L.length - 1)).2.2.2.2.2.1=q.2.1) then 24 else
 bif q.2.2.2.1&&decide (q.2.2.1< (lg L (L.length - 1)).2.2.2.2.2.2.2.1) then 10 else
 bif decide (q.2.2.2.2.1< (ZeH L:Int)) then 33 else
 bif decide (q.2.2.2.2.2.1<Zr3 L) then 32 else Zsp n L
theorem ZtL{n:Zay}(hS:ZcL n)(hv:F61 n=some true)(hF:n.2.2.2.2.2.1.1.length<=4096)(q:Za3){L:List ZaM}(h0:0<L.length)(hj:L.length<=1000):F87 n q (L,())=some (Zp9 n q L):=by
 unfold F87 Zp9;have e:IntKind.wrap .i64 ((L.length:Int) - 1)=((L.length - 1:Nat):Int):=by rw[Zaj (by omega) (by omega)];omega
 simp only[e,Zet (show L.length - 1<L.length by omega),bind_some];refine ZeW (ZeX ?_);refine ZcB (fun r=>r=(ZeH L:Int)) ?_ ?_
 ·refine ZaX L.length _ (fun i (s:Int×Int)=>s=((ZeH (L.take i):Int),(i:Int))) ?_ ?_ _ rfl
  ·rintro i _ hi rfl;left
   have hb:ZeH (L.take i)<=L.length:=by unfold ZeH;exact Nat.le_trans (List.length_filter_le _ _) (by rw[List.length_take];omega)
   have e1: (bif (L[i]).1 then some !(L[i]).2.2.2.2.2.2.2.2.1 else some false)=some (ZnS L[i]):=by
    unfold ZnS Zbn
    cases (L[i]).1<;>rfl
   have e2:ZeH (L.take (i+1))=ZeH (L.take i)+(if ZnS L[i] then 1 else 0):=by
    unfold ZeH;rw[List.take_succ_eq_append_getElem hi,List.filter_append,List.length_append]
    cases hr:ZnS L[i]<;>simp [hr]
   have w3:IntKind.wrap .i64 ((ZeH (L.take i):Int)+1)=((ZeH (L.take i)+1:Nat):Int):=by rw[Zaj (by omega) (by omega)];omega
   simp only[Zax hi,cond_true,Zah hi,bind_some,Zal hi (show _<=9223372036854775807 by omega),w3];rw[e1,e2]
   cases ZnS L[i]<;>exact⟨_,rfl,rfl⟩
  ·rintro _ rfl;simp only[Zaw,cond_false];exact⟨_,rfl,by rw[List.take_length]⟩
 ·rintro _ rfl;refine ZeW ?_;rw[ZkI L hj];simp only[bind_some];refine ZeW ?_;obtain⟨c,h1,h2⟩:=Zpn hS hv hF q L hj;rw[h1];exact congrArg some h2
noncomputable def Zeu(n:Zay)(q:Za3)(L:List ZaM):Int×Int:=
 bif !decide (Zlt n q=0) then(0,Zlt n q) else
 bif decide (L.length=0) then(bif !decide (q.1=q.2.1) then(0,24) else(0,0)) else
 match ZaA L.length (atE n q L) with
 |some i=>((i:Int),atE n q L i)
 |none=>bif !decide (Zp9 n q L=0) then(((L.length - 1:Nat):Int),Zp9 n q L) else(0,0)
open Classical in
theorem Zja{n:Zay}(hf:Fit n)(hF:n.2.2.2.2.2.1.1.length<=4096)(q:Za3)(L:List ZaM)(hj:L.length<=1000):F81 n q (L,())=some (Zeu n q L):=by
 unfold F81 Zeu;rw[Znn hf q];simp only[bind_some];by_cases h0:Zlt n q=0
 case neg=>rw[decide_eq_false h0];rfl
 obtain⟨hW,hq⟩:=ZhT.1 h0;have hS:=hW.sound;have hv:F61 n=some true:=by rw[Zhs hf,decide_eq_true hW]
 have hq1:inR q.1 n.1.length=true:=by unfold qB at hq;rw[Bool.and_eq_true]at hq;exact hq.1
 rw[decide_eq_true h0];simp only[Bool.not_true,cond_false];by_cases hL:L.length=0
 ·rw[decide_eq_true (show (L.length:Int)=0 by omega),decide_eq_true hL]
  cases decide (q.1=q.2.1)<;>rfl
 rw[decide_eq_false (show¬ (L.length:Int)=0 by omega),decide_eq_false hL];simp only[cond_false];rw[Zba (n:=L.length) (fun i (s:Int)=>s=(i:Int)) (atE n q L) (fun i=> .inr ((i:Int),atE n q L i)) (.inl ()) ?_ ?_ ?_ (0:Int) rfl]
 ·unfold pick
  cases ZaA L.length (atE n q L) with
  |some i=>rfl
  |none=>
   simp only[bind_some];show (Option.bind (F87 n q (L,())) _)=_;rw[ZtL hS hv hF q (by omega) hj];have e:IntKind.wrap .i64 ((L.length:Int) - 1)=((L.length - 1:Nat):Int):=by rw[Zaj (by omega) (by omega)];omega
   rw[e];simp only[bind_some]
   cases decide (Zp9 n q L=0)<;>rfl
 ·rintro i _ hi rfl hc;refine⟨((i+1:Nat):Int), ?_,rfl⟩;simp only[Zax hi,cond_true,Zal hi (show _<=9223372036854775807 by omega)];rw[ZqA hS hf.paths hq1 hi hj];simp only[bind_some];rw[hc];rfl
 ·rintro i _ hi rfl hc;simp only[Zax hi,cond_true];rw[ZqA hS hf.paths hq1 hi hj];simp only[bind_some];rw[decide_eq_false hc];rfl
 ·rintro _ rfl;simp only[Zaw,cond_false]
end Q
namespace Q
open Tr Go
open Option (bind_some)
def Zad(n:Zay)(i:Nat):List ZbD:=(rn n (i:Int)).2.2.2.2.2.2.2.1
def Zab(n:Zay)(i c:Nat):ZbD:=cl (Zad n i) (c:Int)
def Zbh(n:Zay)(i:Nat):Bool:=(rn n (i:Int)).2.2.2.2.2.2.1
def Zfn(s t a b:Int):ZaM:=(false,0,0,0,s,t,a,b,false,())
def Zdf(n:Zay)(i b c:Nat)(st:Bool):ZaM:=(true,(i:Int),(b:Int),(c:Int),(Zab n i b).1,(Zab n i c).1,(Zab n i b).2.2.1,(Zab n i c).2.1,st,())
def isLink(n:Zay)(i c j d:Nat)(st:Bool):Prop:=((i:Int),(c:Int),(j:Int),(d:Int),st,())∈n.2.2.2.1
structure Zdc (n:Zay):Prop where
 sound:ZcL n
 change: ∀s:Int,0<=s->s< (n.1.length:Int)->0<=(Zb2 n s).2.2.2.1/\(Zb2 n s).2.2.2.1<=3600
 path: ∀p∈n.2.2.2.2.1,(0<=p.1/\p.1< (n.1.length:Int))/\(0<=p.2.1/\p.2.1< (n.1.length:Int))/\p.1≠p.2.1/\1<=p.2.2.1/\p.2.2.1<=14400
 link: ∀x∈n.2.2.2.1, ∃ (i c j d:Nat) (st:Bool),x=((i:Int),(c:Int),(j:Int),(d:Int),st,())/\i<n.2.2.1.length/\j<n.2.2.1.length/\i≠j/\c< (Zad n i).length/\d< (Zad n j).length/\
  (Zab n i c).1=(Zab n j d).1/\(st=true->c+1=(Zad n i).length/\d=0)
theorem ZaO{n:Zay}{i:Nat}(hi:i<n.2.2.1.length):Zad n i=(n.2.2.1[i]).2.2.2.2.2.2.2.1:=by unfold Zad rn;rw[Int.toNat_natCast,Zak hi]
theorem Zb9{n:Zay}{i c:Nat}(hc:c< (Zad n i).length):Zab n i c=(Zad n i)[c]:=by unfold Zab cl;rw[Int.toNat_natCast,Zak hc]
theorem Zor{n:Zay}{i:Nat}(h:Zcc n i=0): (cl (rn n (lk n i).1).2.2.2.2.2.2.2.1 (lk n i).2.1).1=(cl (rn n (lk n i).2.2.1).2.2.2.2.2.2.2.1 (lk n i).2.2.2.1).1/\
  ((lk n i).2.2.2.2.1=true->(lk n i).2.1+1=((rn n (lk n i).1).2.2.2.2.2.2.2.1.length:Int)/\(lk n i).2.2.2.1=0):=by
 unfold Zcc at h;simp only at h;by_cases b1:ZmV n (lk n i)=true
 ·rw[if_pos b1]at h;omega
 rw[if_neg b1]at h;by_cases b2:ZoV n (lk n i)=true
 ·rw[if_pos b2]at h;omega
 rw[if_neg b2]at h;split at h
 ·omega
 split at h
 ·omega
 split at h
 ·omega
 next h1 h2 h3=>
  refine⟨Decidable.not_not.1 h1,fun hs=>⟨?_, ?_⟩⟩
  ·exact Decidable.not_not.1 fun e=>h2 ⟨hs,e⟩
  ·exact Decidable.not_not.1 fun e=>h3 ⟨hs,e⟩
theorem Whole.ok{n:Zay}(h:Whole n):Zdc n:=by
 refine⟨h.sound,fun s h0 h1=> ?_,fun p hp=> ?_,fun x hx=> ?_⟩
 ·have s0:=h.s;unfold ZgX at s0;split at s0
  ·exact absurd s0 (by decide)
  obtain⟨j,rfl⟩: ∃j:Nat,s=(j:Int):=⟨s.toNat,by omega⟩;have hj:j<n.1.length:=by omega
  have hz:=Zh1 s0 j hj;unfold Zf9 at hz;have:=(Zck.1 hz).2.2;unfold Zb2;rw[Int.toNat_natCast];generalize hg: (n.1[j]?).getD Q.s0=y at*;have e: (n.1[j]?).getD ([],0,false,0,())=y:=by rw[<-hg];rfl
  rw[e]at this;omega
 ·obtain⟨j,hj,rfl⟩:=List.getElem_of_mem hp;obtain⟨h1,h2,_⟩:=Zcl (ZaE.1 h.q j hj);rw[Zak hj]at h1 h2;unfold Zdd at h1;unfold Zc3 at h2;simp only[Bool.or_eq_false_iff,Bool.not_eq_false',decide_eq_false_iff_not,decide_eq_true_eq]at h1 h2;omega
 ·obtain⟨j,hj,rfl⟩:=List.getElem_of_mem hx;have hz:=ZaE.1 h.g j hj;obtain⟨h1,h2,_⟩:=Zgv hz;obtain⟨h3,h4⟩:=Zor hz;have e:lk n j=n.2.2.2.1[j]:=by unfold lk;rw[Zak hj]
  rw[e]at h1 h2 h3 h4;generalize n.2.2.2.1[j]=x at*;unfold ZmV at h1;unfold ZoV at h2;unfold inR at h1 h2;simp only[Bool.or_eq_false_iff,Bool.not_eq_false',decide_eq_false_iff_not,Bool.and_eq_true,decide_eq_true_eq]at h1 h2;obtain⟨x1,x2,x3,x4,x5,x6⟩:=x;simp only at h1 h2 h3 h4;obtain⟨i,rfl⟩: ∃i:Nat,x1=(i:Int):=⟨x1.toNat,by omega⟩;obtain⟨c,rfl⟩: ∃i:Nat,x2=(i:Int):=⟨x2.toNat,by omega⟩;obtain⟨k,rfl⟩: ∃i:Nat,x3=(i:Int):=⟨x3.toNat,by omega⟩;obtain⟨d,rfl⟩: ∃i:Nat,x4=(i:Int):=⟨x4.toNat,by omega⟩;refine⟨i,c,k,d,x5,rfl,by omega,by omega,by omega, ?_, ?_,h3,fun hs=> ?_⟩
  ·unfold Zad;omega
  ·unfold Zad;omega
  ·obtain⟨a,b⟩:=h4 hs;unfold Zad;omega
theorem Zdc.isLink{n:Zay}(h:Zdc n){i c j d:Nat}{st:Bool}(hl:isLink n i c j d st):i<n.2.2.1.length/\j<n.2.2.1.length/\i≠j/\c< (Zad n i).length/\d< (Zad n j).length/\(Zab n i c).1=(Zab n j d).1/\(st=true->c+1=(Zad n i).length/\d=0):=by obtain⟨i',c',j',d',st',e,h1⟩:=h.link _ hl;simp only[Prod.mk.injEq,Int.natCast_inj]at e;obtain⟨rfl,rfl,rfl,rfl,rfl,_⟩:=e;exact h1
theorem Zdc.stop{n:Zay}(h:Zdc n){i c:Nat}(hi:i<n.2.2.1.length)(hc:c< (Zad n i).length):0<=(Zab n i c).1/\(Zab n i c).1< (n.1.length:Int):=by rw[Zb9 hc];refine h.sound.call _ (List.getElem_mem hi) _ ?_;simp only[ZaO hi];exact List.getElem_mem _
theorem Zdc.time{n:Zay}(h:Zdc n){i c:Nat}(hi:i<n.2.2.1.length)(hc:c< (Zad n i).length):0<=(Zab n i c).2.1/\(Zab n i c).2.1<=(Zab n i c).2.2.1/\(Zab n i c).2.2.1<=3155932800:=by have ht:=h.sound.time _ (List.getElem_mem hi);rw[Zb9 hc];simp only[ZaO hi]at hc ⊢;have:=ht c hc;omega
inductive Zlu where
 |rdy (k:Nat) (s r:Int)
 |brd (k:Nat) (i c:Nat) (st:Bool)
 |lnk (k:Nat) (i c:Nat)
 |on (k:Nat) (i c:Nat)
 |rid (k:Nat) (s t:Int)
 |arr (k:Nat) (s t:Int)
inductive Der (n:Zay) (s0 t0 w:Int):Zlu->List ZaM->Prop
 |init:Der n s0 t0 w (.rdy 0 s0 (t0+w)) []
 |here:Der n s0 t0 w (.arr 0 s0 t0) []
 |rdyW {p:Zcf} :p∈n.2.2.2.2.1->p.1=s0->t0+p.2.2.1<=3155932800->Der n s0 t0 w (.rdy 0 p.2.1 (t0+p.2.2.1)) [Zfn s0 p.2.1 t0 (t0+p.2.2.1)]
 |arrW {p:Zcf} :p∈n.2.2.2.2.1->p.1=s0->t0+p.2.2.1<=3155932800->Der n s0 t0 w (.arr 0 p.2.1 (t0+p.2.2.1)) [Zfn s0 p.2.1 t0 (t0+p.2.2.1)]
 |board {k:Nat}{s r:Int}{js:List ZaM}{i c:Nat} :Der n s0 t0 w (.rdy k s r) js->i<n.2.2.1.length->c< (Zad n i).length->Zbh n i=false->(Zab n i c).1=s->(Zab n i c).2.2.2.1=true->r<=(Zab n i c).2.2.1->Der n s0 t0 w (.brd (k+1) i c false) js
 |on {k i b c:Nat}{st:Bool}{js:List ZaM} :Der n s0 t0 w (.brd k i b st) js->b<c->c< (Zad n i).length->Der n s0 t0 w (.on k i c) (js++[Zdf n i b c st])
 |stay {k i c j d:Nat}{js:List ZaM} :Der n s0 t0 w (.on k i c) js->isLink n i c j d true->(Zab n i c).2.1<=(Zab n j d).2.2.1->Zbh n j=false->Der n s0 t0 w (.brd k j d true) js
 |link {k i c j d:Nat}{js:List ZaM} :Der n s0 t0 w (.on k i c) js->(Zab n i c).2.2.2.2.1=true->isLink n i c j d false->(Zab n i c).2.1<=(Zab n j d).2.2.1->(Zab n j d).2.2.2.1=true->Der n s0 t0 w (.lnk (k+1) j d) js
 |linked {k j d:Nat}{js:List ZaM} :Der n s0 t0 w (.lnk k j d) js->Zbh n j=false->Der n s0 t0 w (.brd k j d false) js
 |ride {k i c:Nat}{js:List ZaM} :Der n s0 t0 w (.on k i c) js->(Zab n i c).2.2.2.2.1=true->Der n s0 t0 w (.rid k (Zab n i c).1 (Zab n i c).2.1) js
 |change {k:Nat}{s t:Int}{js:List ZaM} :Der n s0 t0 w (.rid k s t) js->Der n s0 t0 w (.rdy k s (t+(Zb2 n s).2.2.2.1)) js
 |rdyV {k:Nat}{s t:Int}{js:List ZaM}{p:Zcf} :Der n s0 t0 w (.rid k s t) js->p∈n.2.2.2.2.1->p.1=s->t+p.2.2.1<=3155932800->Der n s0 t0 w (.rdy k p.2.1 (t+p.2.2.1)) (js++[Zfn s p.2.1 t (t+p.2.2.1)])
 |arrR {k:Nat}{s t:Int}{js:List ZaM} :Der n s0 t0 w (.rid k s t) js->Der n s0 t0 w (.arr k s t) js
 |arrV {k:Nat}{s t:Int}{js:List ZaM}{p:Zcf} :Der n s0 t0 w (.rid k s t) js->p∈n.2.2.2.2.1->p.1=s->t+p.2.2.1<=3155932800->Der n s0 t0 w (.arr k p.2.1 (t+p.2.2.1)) (js++[Zfn s p.2.1 t (t+p.2.2.1)])
def Zlu.ok(n:Zay):Zlu->Prop
 | .rdy _ s r=>(0<=s/\s< (n.1.length:Int))/\0<=r/\r<=3155932800+3600
 | .brd k i c _=>0<k/\i<n.2.2.1.length/\c< (Zad n i).length/\Zbh n i=false
 | .lnk k i c=>0<k/\i<n.2.2.1.length/\c< (Zad n i).length
 | .on k i c=>0<k/\i<n.2.2.1.length/\c< (Zad n i).length/\Zbh n i=false
 | .rid k s t=>0<k/\(0<=s/\s< (n.1.length:Int))/\0<=t/\t<=3155932800
 | .arr _ s t=>(0<=s/\s< (n.1.length:Int))/\0<=t/\t<=3155932800
theorem Der.ok{n:Zay}(h:Zdc n){s0 t0 w:Int}(hs:0<=s0/\s0< (n.1.length:Int))(ht:0<=t0/\t0<=3155932800)(hw:0<=w/\w<=3600){f:Zlu}{js:List ZaM}(d:Der n s0 t0 w f js):f.ok n:=by
 induction d with
 |init=>exact⟨hs,by omega,by omega⟩
 |here=>exact⟨hs,ht⟩
 |rdyW hp _ hm=>have:=h.path _ hp;exact⟨this.2.1,by omega,by omega⟩
 |arrW hp _ hm=>have:=h.path _ hp;exact⟨this.2.1,by omega,by omega⟩
 |board _ hi hc hx _ _ _ _=>exact⟨Nat.succ_pos _,hi,hc,hx⟩
 |on _ _ hc ih=>exact⟨ih.1,ih.2.1,hc,ih.2.2.2⟩
 |stay _ hl _ hx ih=>have:=h.isLink hl;exact⟨ih.1,this.2.1,this.2.2.2.2.1,hx⟩
 |link _ _ hl _ _ _=>have:=h.isLink hl;exact⟨Nat.succ_pos _,this.2.1,this.2.2.2.2.1⟩
 |linked _ hx ih=>exact⟨ih.1,ih.2.1,ih.2.2,hx⟩
 |ride _ _ ih=>
  have:=h.time ih.2.1 ih.2.2.1
  exact⟨ih.1,h.stop ih.2.1 ih.2.2.1,by omega,by omega⟩
 |change _ ih=>have:=h.change _ ih.2.1.1 ih.2.1.2;exact⟨ih.2.1,by have:=ih.2.2;omega,by have:=ih.2.2;omega⟩
 |rdyV _ hp _ hm ih=>have:=h.path _ hp;exact⟨this.2.1,by have:=ih.2.2;omega,by omega⟩
 |arrR _ ih=>exact ih.2
 |arrV _ hp _ hm ih=>have:=h.path _ hp;exact⟨this.2.1,by have:=ih.2.2;omega,by omega⟩
abbrev ZoT:=ZaM×Int×Unit
inductive Ch (lb:List ZoT):Int->List ZaM->Prop
 |nil:Ch lb (-1) []
 |cons {l:Nat}{x:ZaM}{p:Int}{js:List ZaM} :lb[l]? =some (x,p,())->p< (l:Int)->Ch lb p js->Ch lb (l:Int) (js++[x])
theorem Ch.lt{lb:List ZoT}{l:Int}{js:List ZaM}(h:Ch lb l js): -1<=l/\l< (lb.length:Int):=by
 cases h with
 |nil=>omega
 |cons h _ _=>
  have:=(List.getElem?_eq_some_iff.1 h).1;omega
theorem Ch.app{lb:List ZoT}{l:Int}{js:List ZaM}(h:Ch lb l js)(m:List ZoT):Ch (lb++m) l js:=by
 induction h with
 |nil=>exact .nil
 |cons h1 h2 _ ih=>
  have hl:=(List.getElem?_eq_some_iff.1 h1).1;exact .cons (by rw[List.getElem?_append_left hl];exact h1) h2 ih
theorem Ch.new{lb:List ZoT}{p:Int}{js:List ZaM}(h:Ch lb p js)(x:ZaM):Ch (lb++[(x,p,())]) (lb.length:Int) (js++[x]):=
 .cons (by simp) h.lt.2 (h.app _)
end Q
namespace Q
open Tr Go
open Option (bind_some)
def ZbU(q:Za3):Za3:=(q.1,q.2.1,q.2.2.1,q.2.2.2.1,q.2.2.2.2.1,q.2.2.2.2.2.1,false,false,0,q.2.2.2.2.2.2.2.2.2)
theorem ZdO{n:Zay}{q:Za3}{x:ZaM} :Zis n q x=0↔((cl (Za1 n x) x.2.2.1).1=x.2.2.2.2.1/\(cl (Za1 n x) x.2.2.2.1).1=x.2.2.2.2.2.1)/\((cl (Za1 n x) x.2.2.1).2.2.1=x.2.2.2.2.2.2.1/\(cl (Za1 n x) x.2.2.2.1).2.1=x.2.2.2.2.2.2.2.1)/\Zod n q (rn n x.2.1)=true/\(Zbn x=true\/(cl (Za1 n x) x.2.2.1).2.2.2.1=true/\ZfC n q x.2.2.2.2.1=true):=by
 unfold Zis;rw[ZaF (by omega),ZaF (by omega),ZaF (by omega),ZaF (by omega),ZaF (by omega),ZaF (by omega),ZaF (by omega),ZaF (by omega)];unfold Zod Tr.useB ZrG;rw[Bool.or_eq_false_iff,Bool.or_eq_false_iff];simp only[Bool.not_eq_false',decide_eq_true_eq];generalize (rn n x.2.1).2.2.2.2.2.2.1=b1;generalize (rn n x.2.1).2.2.2.2.2.1=b2;generalize q.2.2.2.2.2.2.1=b3;generalize (Zrm n (rn n x.2.1)).2.2.1=b4;generalize q.2.2.2.2.2.2.2.1=b5;generalize (decide (q.2.2.2.2.2.2.2.2.1=(0:Int)) ||decide (Zlw .i64 (Int.fdiv q.2.2.2.2.2.2.2.2.1 (2 ^ min (Int.toNat (Zrm n (rn n x.2.1)).2.1) 64)) 1=1))=b6;generalize Zbn x=b7
 generalize (cl (Za1 n x) x.2.2.1).2.2.2.1=b8;generalize ZfC n q x.2.2.2.2.1=b9;generalize ((cl (Za1 n x) x.2.2.1).1=x.2.2.2.2.1/\(cl (Za1 n x) x.2.2.2.1).1=x.2.2.2.2.2.1)=p1;generalize ((cl (Za1 n x) x.2.2.1).2.2.1=x.2.2.2.2.2.2.1/\(cl (Za1 n x) x.2.2.2.1).2.1=x.2.2.2.2.2.2.2.1)=p2
 have key: ((b1=false/\(b3&& !b2)=false/\(b5&& !b4)=false/\(!b6)=false/\(!b7&& !b8)=false/\(!b7&& !b9)=false/\(0:Int)=0)↔((!b1&& ((b2|| !b3) && ((b4|| !b5) &&b6)))=true/\(b7=true\/b8=true/\b9=true))):=by
  cases b1<;>cases b2<;>cases b3<;>cases b4<;>cases b5<;>cases b6<;>cases b7<;>cases b8<;>cases b9<;>simp
 exact and_congr_right fun _=>and_congr_right fun _=>by
  first
  |exact key
  | (simp only[Bool.not_eq_false']at key ⊢;exact key)
theorem Zr6(n:Zay)(q:Za3):Zbs n q c0=c0:=by
 unfold Zbs
 split<;>rfl
theorem Zg6(n:Zay)(q:Za3)(l:List ZbD)(a:Int):cl (l.map (Zbs n q)) a=Zbs n q (cl l a):=by
 unfold cl;rw[List.getElem?_map]
 cases l[a.toNat]? with
 |none=>exact(Zr6 n q).symm
 |some c=>rfl
theorem Zg9(n:Zay)(q:Za3)(c:ZbD):Zbs n q c=(c.1,c.2.1,c.2.2.1,c.2.2.2.1&&ZfC n q c.1,c.2.2.2.2.1&&ZfC n q c.1,()):=by
 unfold Zbs
 cases h:ZfC n q c.1 with
 |true=>simp
 |false=>simp
theorem Zd8(n:Zay)(q:Za3)(x:ZaM):Za1 (Zat n q) x=(Za1 n x).map (Zbs n q):=Zjh n q x.2.1
theorem ZgM(n:Zay)(q:Za3)(x:ZaM):Za0 (Zat n q) x=Za0 n x:=by have hl: (Zat n q).2.2.1.length=n.2.2.1.length:=List.length_map ..;unfold Za0;rw[Zd8,List.length_map,hl]
theorem Znl{n:Zay}{q:Za3}{x:ZaM}(hx:Za0 n x=true):rn (Zat n q) x.2.1=Zb6 n q (rn n x.2.1):=by
 unfold Za0 at hx;rw[Bool.and_eq_true]at hx;have h:=hx.1;unfold inR at h;simp only[Bool.and_eq_true,decide_eq_true_eq]at h;have hl:x.2.1.toNat<n.2.2.1.length:=by omega
 unfold rn;show ((n.2.2.1.map (Zb6 n q))[x.2.1.toNat]?).getD u0=_;rw[List.getElem?_map,List.getElem?_eq_getElem hl];rfl
theorem ZfV(n:Zay)(q:Za3)(s:Int):ZfC n (ZbU q) s=true:=by unfold ZfC ZbU;simp
theorem Zm1(n:Zay)(q:Za3)(r:Zh9):Zod n (ZbU q) r= !r.2.2.2.2.2.2.1:=by unfold Zod Tr.useB ZbU;simp
theorem Zox{n:Zay}{q:Za3}{x:ZaM}(hx:Za0 n x=true):Zis (Zat n q) (ZbU q) x=0↔Zis n q x=0:=by rw[ZdO,ZdO,Zd8,Zg6,Zg6,Zg9,Zg9,Znl hx,Zm1,ZfV];have hc: (Zb6 n q (rn n x.2.1)).2.2.2.2.2.2.1= !Zod n q (rn n x.2.1):=rfl;rw[hc,Bool.not_not];refine and_congr_right fun h1=>and_congr_right fun _=>and_congr_right fun _=> ?_;simp only[Bool.and_eq_true];rw[h1.1];simp
theorem Zop{α:Type}(p f:α->Bool)(l:List α): (l.filter p).any f=l.any fun x=>f x&&p x:=by
 induction l with
 |nil=>rfl
 |cons x l ih=>
  cases hp:p x with
  |true=>rw[List.filter_cons_of_pos hp,List.any_cons,List.any_cons,ih,hp,Bool.and_true]
  |false=>rw[List.filter_cons_of_neg (by simp [hp]),List.any_cons,ih,hp,Bool.and_false,Bool.false_or]
theorem Ze1{n:Zay}{q:Za3}{x:ZaM} :ZgB n q x=0↔(n.2.2.2.2.1.any fun p=>Zdp x p&&Zgn q p)=true:=by
 unfold ZgB
 cases (n.2.2.2.2.1.any fun p=>Zdp x p&&Zgn q p) with
 |true=>simp
 |false=>cases n.2.2.2.2.1.any (Zdp x)<;>simp
theorem Zn2{n:Zay}{q:Za3}{x:ZaM} :ZgB (Zat n q) (ZbU q) x=0↔ZgB n q x=0:=by
 rw[Ze1,Ze1]
 have hfr: ∀p:Zcf,Zgn (ZbU q) p=true:=by intro p;unfold Zgn ZbU;simp
 show ((Zbl n q).any fun p=>Zdp x p&&Zgn (ZbU q) p)=true↔_;simp only[hfr,Bool.and_true];unfold Zbl Zgn
 cases q.2.2.2.2.2.2.1 with
 |true=>simp only[if_true];rw[Zop];simp
 |false=>simp
theorem Zqj{n:Zay}{q:Za3}{x:ZaM} :Zg4 (Zat n q) (ZbU q) x=0↔Zg4 n q x=0:=by
 have hz: ∀ (n:Zay) (q:Za3),Zg4 n q x=0↔(!inR x.2.2.2.2.1 n.1.length|| !inR x.2.2.2.2.2.1 n.1.length)=false/\(bif x.1 then !Za0 n x else !decide (x.2.1=0) || (!decide (x.2.2.1=0) || (!decide (x.2.2.2.1=0) ||Zbn x)))=false/\(!decide (0<=x.2.2.2.2.2.2.1/\x.2.2.2.2.2.2.1<=3155932800) || !decide (0<=x.2.2.2.2.2.2.2.1/\x.2.2.2.2.2.2.2.1<=3155932800))=false/\(bif x.1 then Zis n q x else ZgB n q x)=0:=by intro n q;unfold Zg4;rw[ZaF (by omega),ZaF (by omega),ZaF (by omega)]
 rw[hz,hz,ZgM];refine and_congr_right fun _=>and_congr_right fun h2=>and_congr_right fun _=> ?_
 cases hx:x.1 with
 |true=>
  rw[hx]at h2
  exact Zox (by simpa using h2)
 |false=>exact Zn2
theorem ZsO{n:Zay}{q:Za3}{L:List ZaM}{i:Nat} :atE (Zat n q) (ZbU q) L i=0↔atE n q L i=0:=by
 have hz: ∀ (n:Zay) (q:Za3),atE n q L i=0↔Zg4 n q (lg L i)=0/\Zir n q L i=0/\(Zh3 L i=true->ZdA n q (lg L i)=0):=by
  intro n q;unfold atE;by_cases h1:Zg4 n q (lg L i)=0
  ·by_cases h2:Zir n q L i=0
   ·rw[decide_eq_true h1,decide_eq_true h2]
    cases Zh3 L i<;>simp [h1,h2]
   ·rw[decide_eq_true h1,decide_eq_false h2];simp [h2]
  ·rw[decide_eq_false h1];simp [h1]
 have ha: ∀ (n:Zay) (q:Za3) (x:ZaM),ZdA n q x=0↔(cl (Za1 n x) x.2.2.2.1).2.2.2.2.1=true/\ZfC n q x.2.2.2.2.2.1=true:=by intro n q x;unfold ZdA;rw[ZaF (by omega),ZaF (by omega)];simp
 rw[hz,hz];refine(and_congr Zqj Iff.rfl).trans (and_congr_right fun h1=>and_congr Iff.rfl ?_);refine imp_congr_right fun ht=> ?_
 have hr: (lg L i).1=true:=by unfold Zh3 at ht;rw[Bool.and_eq_true]at ht;exact ht.1
 obtain⟨_,_,h3,_⟩:=ZhI h1;have h4:=(ZdO.1 (h3 hr).2).1.2;rw[ha,ha,Zd8,Zg6,Zg9,ZfV];simp only[Bool.and_eq_true];rw[h4];simp
theorem Zns(n:Zay)(q:Za3)(l:List ZbD)(a:Nat): ∀k,zN (Zat n q) (l.map (Zbs n q)) a k=zN n l a k
 |0=>rfl
 |k+1=>by
  have h:zn (Zat n q) (l.map (Zbs n q)) (a+k)=zn n l (a+k):=by unfold zn;rw[(ZfS n q l (a+k)).1];rfl
  unfold zN;rw[Zns n q l a k,h]
theorem ZjQ{n:Zay}{q:Za3}{x:ZaM}(hx:Za0 n x=true):ZqY (Zat n q) x=ZqY n x/\Zd0 (Zat n q) x=Zd0 n x:=by
 constructor
 ·unfold ZqY;rw[Zd8,Zns]
 ·unfold Zd0;rw[Znl hx];rfl
theorem Zed(n:Zay)(q:Za3): ∀ (L:List ZaM) (w:Bool) (out:List Zeq),Zbq (Zat n q) L w out=Zbq n L w out
 | [],_,_=>rfl
 |x::L,w,out=>by
  rw[Zdu,Zdu,ZgM];by_cases h1:x.1=true/\Za0 n x=false
  ·rw[if_pos h1,if_pos h1]
  rw[if_neg h1,if_neg h1];by_cases h2:Zbn x=true/\(x.1=false\/w=false)
  ·rw[if_pos h2,if_pos h2]
  rw[if_neg h2,if_neg h2];by_cases h3:x.1=true
  ·rw[if_pos h3,if_pos h3]
   have hx:Za0 n x=true:=by
    cases he:Za0 n x with
    |true=>rfl
    |false=>exact absurd ⟨h3,he⟩ h1
   obtain⟨e1,e2⟩:=ZjQ (q:=q) hx;have e3:Zgo (Zat n q) x=Zgo n x:=by unfold Zgo;rw[e1,e2]
   have e4:Zd4 (Zat n q) x out=Zd4 n x out:=by unfold Zd4 Zhu;rw[e1,e2]
   rw[e3,e4];exact Zed n q L _ _
  ·rw[if_neg h3,if_neg h3];exact Zed n q L _ _
end Q
namespace Q
open Tr Go
open Option (bind_some)
variable {n:Zay}{q:Za3}
theorem Zpb{n:Zay}{q:Za3}{x:ZaM} :Zg4 n q x=0↔(inR x.2.2.2.2.1 n.1.length=true/\inR x.2.2.2.2.2.1 n.1.length=true)/\(bif x.1 then !Za0 n x else !decide (x.2.1=0) || (!decide (x.2.2.1=0) || (!decide (x.2.2.2.1=0) ||Zbn x)))=false/\
  ((0<=x.2.2.2.2.2.2.1/\x.2.2.2.2.2.2.1<=3155932800)/\(0<=x.2.2.2.2.2.2.2.1/\x.2.2.2.2.2.2.2.1<=3155932800))/\(bif x.1 then Zis n q x else ZgB n q x)=0:=by
 unfold Zg4;rw[ZaF (by omega),ZaF (by omega),ZaF (by omega)];simp only[Bool.or_eq_false_iff,Bool.not_eq_false',decide_eq_true_eq]
theorem Zpk{a m:Nat} :inR (a:Int) m=true↔a<m:=by unfold inR;rw[Bool.and_eq_true,decide_eq_true_eq,decide_eq_true_eq];omega
theorem Zcz{a:Int}{m:Nat} :inR a m=true↔0<=a/\a< (m:Int):=by unfold inR;rw[Bool.and_eq_true,decide_eq_true_eq,decide_eq_true_eq]
theorem ZmO(n:Zay)(q:Za3)(i:Nat):Zod n (ZbU q) (rn n (i:Int))=true↔Zbh n i=false:=by
 rw[Zm1];unfold Zbh
 cases (rn n (i:Int)).2.2.2.2.2.2.1<;>simp
def ZuT(n:Zay)(i b c:Nat)(st:Bool):Prop:=i<n.2.2.1.length/\b<c/\c< (Zad n i).length/\Zbh n i=false/\(st=true\/(Zab n i b).2.2.2.1=true)
theorem Zeh(h:Zdc n){x:ZaM} : (Zg4 n (ZbU q) x=0/\x.1=true)↔ ∃i b c st,x=Zdf n i b c st/\ZuT n i b c st:=by
 rw[Zpb];constructor
 ·rintro ⟨⟨h1,h2,h3,h4⟩,hr⟩;rw[hr]at h2 h4;simp only[cond_true,Bool.not_eq_false']at h2 h4;have he:=h2;unfold Za0 Za1 at he;simp only[Bool.and_eq_true,decide_eq_true_eq,Zcz]at he;obtain⟨⟨e1,e2⟩,e3,e4,e5⟩:=he;obtain⟨⟨r1,r2⟩,⟨r3,r4⟩,r5,r6⟩:=ZdO.1 h4;obtain⟨xr,xi,xb,xc,xf,xt,xd,xa,xs,u⟩:=x;simp only at hr h1 h2 h3 h4 e1 e2 e3 e4 e5 r1 r2 r3 r4 r5 r6;obtain⟨i,rfl⟩: ∃i:Nat,xi=(i:Int):=⟨xi.toNat,by omega⟩;obtain⟨b,rfl⟩: ∃i:Nat,xb=(i:Int):=⟨xb.toNat,by omega⟩;obtain⟨c,rfl⟩: ∃i:Nat,xc=(i:Int):=⟨xc.toNat,by omega⟩;subst hr;have hl:c< (Zad n i).length:=by unfold Zad;omega
  refine⟨i,b,c,xs, ?_,by omega,by omega,hl,(ZmO n q i).1 r5, ?_⟩
  ·have a1: (Zab n i b).1=xf:=r1;have a2: (Zab n i c).1=xt:=r2;have a3: (Zab n i b).2.2.1=xd:=r3;have a4: (Zab n i c).2.1=xa:=r4;unfold Zdf;rw[a1,a2,a3,a4]
  ·rcases r6 with r6|r6
   ·exact .inl r6
   ·exact .inr r6.1
 ·rintro ⟨i,b,c,st,rfl,h1,h2,h3,h4,h5⟩;have hb:b< (Zad n i).length:=by omega
  have s1:=h.stop h1 hb;have s2:=h.stop h1 h3;have t1:=h.time h1 hb;have t2:=h.time h1 h3
  have hex:Za0 n (Zdf n i b c st)=true:=by unfold Za0 Za1;simp only[Bool.and_eq_true,decide_eq_true_eq];have:c< (rn n (i:Int)).2.2.2.2.2.2.2.1.length:=h3;exact⟨Zpk.2 h1,by show (0:Int)<=(b:Int);omega,by show (b:Int)< (c:Int);omega,by show (c:Int)<_;show (c:Int)< ((rn n (i:Int)).2.2.2.2.2.2.2.1.length:Int);omega⟩
  refine⟨⟨⟨Zcz.2 s1,Zcz.2 s2⟩, ?_,⟨⟨by show (0:Int)<=(Zab n i b).2.2.1;omega,t1.2.2⟩,⟨t2.1,by show (Zab n i c).2.1<=_;omega⟩⟩, ?_⟩,rfl⟩
  ·show (!Za0 n (Zdf n i b c st))=false;rw[hex];rfl
  ·refine ZdO.2 ⟨⟨rfl,rfl⟩,⟨rfl,rfl⟩,(ZmO n q i).2 h4, ?_⟩;rcases h5 with h5|h5
   ·exact .inl h5
   ·exact .inr ⟨h5,ZfV ..⟩
theorem Zd7(h:Zdc n){x:ZaM} : (Zg4 n (ZbU q) x=0/\x.1=false)↔ ∃p∈n.2.2.2.2.1, ∃a,x=Zfn p.1 p.2.1 a (a+p.2.2.1)/\0<=a/\a+p.2.2.1<=3155932800:=by
 rw[Zpb];constructor
 ·rintro ⟨⟨h1,h2,h3,h4⟩,hr⟩;rw[hr]at h2 h4;simp only[cond_false,Bool.or_eq_false_iff,Bool.not_eq_false',decide_eq_true_eq]at h2 h4;have h5:=Ze1.1 h4;obtain⟨p,hp,hm⟩:=List.any_eq_true.1 h5;rw[Bool.and_eq_true]at hm;have hm1:=hm.1;unfold Zdp at hm1;simp only[Bool.and_eq_true,decide_eq_true_eq]at hm1;obtain⟨xr,xi,xb,xc,xf,xt,xd,xa,xs,u⟩:=x;simp only at hr h1 h2 h3 hm1;have hpp:=h.path p hp;rw[Zaj (by omega) (by omega)]at hm1;obtain⟨rfl,rfl,rfl,rfl⟩:=h2;subst hr;refine⟨p,hp,xd, ?_,by omega,by omega⟩;unfold Zfn;rw[<-hm1.1, <-hm1.2.1,show xa=xd+p.2.2.1 by omega]
 ·rintro ⟨p,hp,a,rfl,h1,h2⟩;have hpp:=h.path p hp;refine⟨⟨⟨Zcz.2 hpp.1,Zcz.2 hpp.2.1⟩,rfl,⟨⟨h1,by show a<=_;omega⟩,⟨by show 0<=a+p.2.2.1;omega,h2⟩⟩, ?_⟩,rfl⟩;show ZgB n (ZbU q) _=0;rw[Ze1];refine List.any_eq_true.2 ⟨p,hp, ?_⟩;unfold Zdp Zgn ZbU Zfn;simp only[Bool.and_eq_true,decide_eq_true_eq,Bool.not_false,Bool.or_true];exact⟨⟨trivial,trivial,by rw[Zaj (by omega) (by omega)];omega⟩,trivial⟩
theorem ZkK(h:Zdc n){i b c j d e:Nat}{st st' sx:Bool} :ZgY n (Zdf n i b c st) (Zdf n j d e st') sx=true↔isLink n i c j d sx:=by
 unfold ZgY;rw[List.any_eq_true];constructor
 ·rintro ⟨x,hx,hm⟩;obtain⟨i',c',j',d',s',rfl,_⟩:=h.link x hx;unfold Zl9 Zdf at hm;simp only[Bool.and_eq_true,decide_eq_true_eq,beq_iff_eq]at hm;obtain⟨h1,h2,h3,h4,h5⟩:=hm;unfold isLink;rw[<-h1, <-h2, <-h3, <-h4, <-h5];exact hx
 ·intro hl;refine⟨_,hl, ?_⟩;unfold Zl9 Zdf;simp
theorem Zun(n:Zay)(s t a b s' t' a' b' :Int):ZbL n (Zfn s t a b) (Zfn s' t' a' b')≠0:=by unfold ZbL Zfn;intro h;rw[ZaF (by omega)]at h;obtain⟨_,h⟩:=h;simp at h
theorem Zs1(n:Zay)(s t a b:Int)(j d e:Nat):ZbL n (Zfn s t a b) (Zdf n j d e true)≠0:=by unfold ZbL Zfn Zdf;intro h;rw[ZaF (by omega)]at h;obtain⟨_,h⟩:=h;simp [Zbn]at h
theorem Zuq(h:Zdc n){i b c j d e:Nat}{st:Bool} :ZbL n (Zdf n i b c st) (Zdf n j d e true)=0↔(Zab n i c).1=(Zab n j d).1/\isLink n i c j d true/\(Zab n i c).2.1<=(Zab n j d).2.2.1:=by
 unfold ZbL;have e1:ZgY n (Zdf n i b c st) (Zdf n j d e true) true=true↔isLink n i c j d true:=ZkK h;generalize ZgY n (Zdf n i b c st) (Zdf n j d e true) true=B at*;unfold Zdf Zbn;simp only[Bool.not_true,Bool.false_and,cond_false,cond_true,Bool.false_or];rw[ZaF (by omega),ZaF (by omega)];rw[<-e1]
 cases B with
 |false=>simp
 |true=>
  simp only[Bool.not_true,Bool.not_eq_false',decide_eq_true_eq,true_and];refine and_congr_right fun _=> ?_;by_cases hlt: (Zab n j d).2.2.1< (Zab n i c).2.1
  ·rw[decide_eq_true hlt];simp;omega
  ·rw[decide_eq_false hlt];simp;omega
theorem Zuz{i b c:Nat}{st:Bool}{s t a z:Int} :ZbL n (Zdf n i b c st) (Zfn s t a z)=0↔(Zab n i c).1=s/\a=(Zab n i c).2.1:=by
 unfold ZbL Zdf Zfn Zbn;simp only[Bool.not_true,Bool.false_and,cond_false,cond_true,Bool.not_false];rw[ZaF (by omega)];simp only[Bool.not_eq_false',decide_eq_true_eq];refine and_congr_right fun _=> ?_;by_cases hlt:a=(Zab n i c).2.1
 ·rw[decide_eq_true hlt];simp [hlt]
 ·rw[decide_eq_false hlt];simp [hlt]
theorem ZqJ{j d e:Nat}{s t a z:Int} :ZbL n (Zfn s t a z) (Zdf n j d e false)=0↔t=(Zab n j d).1/\z<=(Zab n j d).2.2.1:=by
 unfold ZbL Zdf Zfn Zbn;simp only[Bool.not_true,Bool.and_false,cond_false,cond_true,Bool.not_false];rw[ZaF (by omega)];simp only[Bool.not_eq_false',decide_eq_true_eq];refine and_congr_right fun _=> ?_;by_cases hlt: (Zab n j d).2.2.1<z
 ·rw[decide_eq_true hlt];simp;omega
 ·rw[decide_eq_false hlt];simp;omega
theorem Zs5(h:Zdc n){i b c j d e:Nat}{st:Bool}(hi:i<n.2.2.1.length)(hc:c< (Zad n i).length):ZbL n (Zdf n i b c st) (Zdf n j d e false)=0↔(Zab n i c).1=(Zab n j d).1/\
  ((Zab n i c).2.1+(Zb2 n (Zab n i c).1).2.2.2.1<=(Zab n j d).2.2.1\/isLink n i c j d false/\(Zab n i c).2.1<=(Zab n j d).2.2.1):=by
 have ht:=h.time hi hc;have hs:=h.stop hi hc;have hcg:=h.change _ hs.1 hs.2;have w1:IntKind.wrap .i64 ((Zab n i c).2.1+(Zb2 n (Zab n i c).1).2.2.2.1)=(Zab n i c).2.1+(Zb2 n (Zab n i c).1).2.2.2.1:=Zaj (by omega) (by omega);unfold ZbL;have e1:ZgY n (Zdf n i b c st) (Zdf n j d e false) false=true↔isLink n i c j d false:=ZkK h;generalize ZgY n (Zdf n i b c st) (Zdf n j d e false) false=B at*;unfold Zdf Zbn;simp only[Bool.not_true,Bool.false_and,cond_false,w1];rw[ZaF (by omega)];simp only[Bool.not_eq_false',decide_eq_true_eq];refine and_congr_right fun _=> ?_;rw[<-e1];by_cases h1: (Zab n i c).2.1+(Zb2 n (Zab n i c).1).2.2.2.1<=(Zab n j d).2.2.1
 ·rw[decide_eq_true h1];simp [h1]
 ·rw[decide_eq_false h1];by_cases h2: (Zab n i c).2.1<=(Zab n j d).2.2.1
  ·rw[decide_eq_true h2]
   cases B with
   |true=>simp [h1,h2]
   |false=>simp [h1]
  ·rw[decide_eq_false h2];simp [h1,h2]
theorem ZeZ{i b c:Nat}{st:Bool} :ZdA n (ZbU q) (Zdf n i b c st)=0↔(Zab n i c).2.2.2.2.1=true:=by unfold ZdA;rw[ZaF (by omega),ZaF (by omega),ZfV];show (!(Zab n i c).2.2.2.2.1)=false/\_↔_;simp
theorem Zkk{n:Zay}{q:Za3}{L:List ZaM}{i:Nat} :atE n q L i=0↔Zg4 n q (lg L i)=0/\Zir n q L i=0/\(Zh3 L i=true->ZdA n q (lg L i)=0):=by
 unfold atE;by_cases h1:Zg4 n q (lg L i)=0
 ·by_cases h2:Zir n q L i=0
  ·rw[decide_eq_true h1,decide_eq_true h2]
   cases Zh3 L i<;>simp [h1,h2]
  ·rw[decide_eq_true h1,decide_eq_false h2];simp [h2]
 ·rw[decide_eq_false h1];simp [h1]
theorem ZfM{n:Zay}{q:Za3}{L:List ZaM} :ZhR n q L=0↔(lg L 0).2.2.2.2.1=q.1/\Zbn (lg L 0)=false/\(!(lg L 0).1&& (decide (1<L.length) && ((lg L 1).1&& !decide ((lg L 1).2.2.2.2.2.2.1=(lg L 0).2.2.2.2.2.2.2.1))))=false/\
  (!(lg L 0).1&& (decide (L.length=1) && (bif q.2.2.2.1 then !decide ((lg L 0).2.2.2.2.2.2.2.1=q.2.2.1) else !decide ((lg L 0).2.2.2.2.2.2.1=q.2.2.1))))=false/\
  (!q.2.2.2.1&&decide ((lg L 0).2.2.2.2.2.2.1<q.2.2.1))=false/\(q.2.2.2.2.2.2.2.2.2.1&& ((lg L 0).1&&decide ((lg L 0).2.2.2.2.2.2.1<IntKind.wrap .i64 (q.2.2.1+(Zb2 n q.1).2.2.2.1))))=false:=by
 unfold ZhR;rw[ZaF (by omega),ZaF (by omega),ZaF (by omega),ZaF (by omega),ZaF (by omega)];simp only[Bool.not_eq_false',decide_eq_true_eq];refine and_congr_right fun _=>and_congr_right fun _=>and_congr_right fun _=>and_congr_right fun _=>and_congr_right fun _=> ?_
 cases (q.2.2.2.2.2.2.2.2.2.1&& ((lg L 0).1&&decide ((lg L 0).2.2.2.2.2.2.1<IntKind.wrap .i64 (q.2.2.1+(Zb2 n q.1).2.2.2.1))))<;>simp
end Q
namespace Q
open Tr Go
open Option (bind_some)
variable {n:Zay}{q:Za3}
theorem Zto{L:List ZaM}{i:Nat}(h:i<L.length):lg L i=L[i]:=by unfold lg;rw[Zak h]
theorem Zlb{n:Zay}{q:Za3}{L:List ZaM}{i:Nat} :Zir n q L (i+1)=ZbL n (lg L i) (lg L (i+1)):=by unfold Zir;rw[decide_eq_false (Nat.succ_ne_zero i)];rfl
end Q
namespace Q
open Tr Go
open Option (bind_some)
abbrev ZcW:=Int×Int×Int×Int×Int×Int×Unit
def Zuf(a b:ZcW):Int:=
 if a.2.2.2.2.1<b.2.2.2.2.1 then -1 else if b.2.2.2.2.1<a.2.2.2.2.1 then 1 else
 if a.2.2.2.2.2.1<b.2.2.2.2.2.1 then -1 else if b.2.2.2.2.2.1<a.2.2.2.2.2.1 then 1 else
 if a.1<b.1 then -1 else if b.1<a.1 then 1 else
 if a.2.1<b.2.1 then -1 else if b.2.1<a.2.1 then 1 else 0
def ltC(a b:ZcW):Prop:=a.2.2.2.2.1<b.2.2.2.2.1\/(a.2.2.2.2.1=b.2.2.2.2.1/\(a.2.2.2.2.2.1<b.2.2.2.2.2.1\/(a.2.2.2.2.2.1=b.2.2.2.2.2.1/\(a.1<b.1\/(a.1=b.1/\a.2.1<b.2.1)))))
theorem ZtK(a b:ZcW):Zuf a b<0↔ltC a b:=by
 unfold Zuf ltC
 (repeat' split)<;>omega
theorem ZrH(a b:ZcW):0<Zuf a b↔ltC b a:=by
 unfold Zuf ltC
 (repeat' split)<;>omega
theorem Ztu{α:Type}(p:Prop)[Decidable p](x y:α): (bif decide p then x else y)=if p then x else y:=by
 by_cases h:p<;>simp [h]
theorem Zl7(a b:ZcW):F5 a b=some (Zuf a b):=by
 unfold F5 Zuf;have w1:IntKind.wrap .i64 (0+1:Int)=1:=by decide
 have w2:IntKind.wrap .i64 (1+1:Int)=2:=by decide
 have w3:IntKind.wrap .i64 (2+1:Int)=3:=by decide
 have w4:IntKind.wrap .i64 (3+1:Int)=4:=by decide
 simp only[Ztu];rw[Zbt];simp only[show (0:Int)<4 by decide,if_true,idx,show (0:Int)<=0 by decide,Int.toNat_zero,List.getElem?_cons_zero,bind_some,Int.toNat_one,List.getElem?_cons_succ,w1];by_cases h1:a.2.2.2.2.1<b.2.2.2.2.1
 ·simp [h1]
 by_cases h2:b.2.2.2.2.1<a.2.2.2.2.1
 ·simp [h1,h2]
 simp only[h1,h2,if_false,bind_some,Sum.elim_inl];rw[Zbt];simp only[show (1:Int)<4 by decide,if_true,show (0:Int)<=1 by decide,List.getElem?_cons_zero,bind_some,Int.toNat_one,List.getElem?_cons_succ,w2];by_cases h3:a.2.2.2.2.2.1<b.2.2.2.2.2.1
 ·simp [h3]
 by_cases h4:b.2.2.2.2.2.1<a.2.2.2.2.2.1
 ·simp [h3,h4]
 simp only[h3,h4,if_false,bind_some,Sum.elim_inl];rw[Zbt];simp only[show (2:Int)<4 by decide,if_true,show (0:Int)<=2 by decide,List.getElem?_cons_zero,bind_some,show Int.toNat 2=2 by decide,List.getElem?_cons_succ,w3];by_cases h5:a.1<b.1
 ·simp [h5]
 by_cases h6:b.1<a.1
 ·simp [h5,h6]
 simp only[h5,h6,if_false,bind_some,Sum.elim_inl];rw[Zbt];simp only[show (3:Int)<4 by decide,if_true,show (0:Int)<=3 by decide,List.getElem?_cons_zero,bind_some,show Int.toNat 3=3 by decide,List.getElem?_cons_succ,w4];by_cases h7:a.2.1<b.2.1
 ·simp [h7]
 by_cases h8:b.2.1<a.2.1
 ·simp [h7,h8]
 simp only[h7,h8,if_false,bind_some,Sum.elim_inl];rw[Zbt];simp
def Zim(i:Nat)(l:List ZbD)(c:Nat):ZcW:=((i:Int),(c:Int),((l[c]?).getD c0).1,((l[c+1]?).getD c0).1,((l[c]?).getD c0).2.2.1,((l[c+1]?).getD c0).2.1,())
def Zlx(i:Nat)(l:List ZbD)(m:Nat):List ZcW:=(List.range m).map (Zim i l)
def ZoY(i:Nat)(x:Zh9):List ZcW:=if x.2.2.2.2.2.2.1=true then [] else Zlx i x.2.2.2.2.2.2.2.1 (x.2.2.2.2.2.2.2.1.length - 1)
def Zin(n:Zay)(k:Nat):List ZcW:=(List.range k).flatMap fun i=>ZoY i ((n.2.2.1[i]?).getD u0)
theorem Zqk(i:Nat)(l:List ZbD)(m:Nat):Zlx i l (m+1)=Zlx i l m++[Zim i l m]:=by unfold Zlx;rw[List.range_succ,List.map_append];rfl
theorem Zig(n:Zay)(k:Nat):Zin n (k+1)=Zin n k++ZoY k ((n.2.2.1[k]?).getD u0):=by unfold Zin;rw[List.range_succ,List.flatMap_append];simp
theorem ZjY{i:Nat}{x:Zh9}{c:ZcW}(h:c∈ZoY i x):x.2.2.2.2.2.2.1=false/\ ∃k,k+1<x.2.2.2.2.2.2.2.1.length/\c=Zim i x.2.2.2.2.2.2.2.1 k:=by
 unfold ZoY at h;split at h
 ·simp at h
 ·next hc=>
  unfold Zlx at h;obtain⟨k,hk,rfl⟩:=List.mem_map.1 h;rw[List.mem_range]at hk;exact⟨by simpa using hc,k,by omega,rfl⟩
theorem ZsJ{i:Nat}{x:Zh9}(h:x.2.2.2.2.2.2.2.1.length<=32): (ZoY i x).length<=31:=by
 unfold ZoY;split
 ·simp
 ·simp [Zlx];omega
theorem ZmT{α:Type}{l:List α}{i:Nat}(h:i<l.length)(d:α): (l[i]?).getD d∈l:=by rw[List.getElem?_eq_getElem h];exact List.getElem_mem h
theorem Znz{n:Zay}(h:ZcL n): ∀k,k<=n.2.2.1.length->(Zin n k).length<=31*k
 |0,_=>by simp [Zin]
 |k+1,hk=>by rw[Zig,List.length_append];have:=Znz h k (by omega);have:=ZsJ (i:=k) (h.many _ (ZmT (show k<n.2.2.1.length by omega) u0)).2;omega
theorem ZtG{i:Nat}{x:Zh9}(h:ZtR x.2.2.2.2.2.2.2.1): (ZoY i x).Pairwise ltC:=by
 unfold ZoY;split
 ·exact .nil
 ·unfold Zlx;rw[List.pairwise_map];refine List.Pairwise.imp_of_mem ?_ List.pairwise_lt_range;intro a b ha hb hab;rw[List.mem_range]at ha hb;generalize hl:x.2.2.2.2.2.2.2.1=l at*
  have step: ∀k (hk:k+1<l.length),((l[k]?).getD c0).2.2.1<=((l[k+1]?).getD c0).2.1/\((l[k+1]?).getD c0).2.1<=((l[k+1]?).getD c0).2.2.1:=by intro k hk;have t:=h (k+1) hk;have t2:=t.2.2.2 (by omega);rw[Zak hk,Zak (show k<l.length by omega)];have e:l[k+1 - 1]'(by omega)=l[k]:=rfl;rw[e]at t2;exact⟨t2.2,t.2.1⟩
  have mono: ∀d k,k+d+1<l.length->((l[k]?).getD c0).2.2.1<=((l[k+d]?).getD c0).2.2.1/\((l[k+1]?).getD c0).2.1<=((l[k+d+1]?).getD c0).2.1:=by
   intro d
   induction d with
   |zero=>exact fun k hk=>⟨Int.le_refl _,Int.le_refl _⟩
   |succ d ih=>
    intro k hk;have h1:=ih k (by omega);have h2:=step (k+d) (by omega);have h3:=step (k+d+1) (by omega);refine⟨?_, ?_⟩
    ·show _<=((l[k+d+1]?).getD c0).2.2.1;omega
    ·show _<=((l[k+d+1+1]?).getD c0).2.1;omega
  have m:=mono (b - a) a (by omega);rw[show a+(b - a)=b by omega]at m;show ((l[a]?).getD c0).2.2.1< ((l[b]?).getD c0).2.2.1\/(((l[a]?).getD c0).2.2.1=((l[b]?).getD c0).2.2.1/\(((l[a+1]?).getD c0).2.1< ((l[b+1]?).getD c0).2.1\/(((l[a+1]?).getD c0).2.1=((l[b+1]?).getD c0).2.1/\((i:Int)< (i:Int)\/((i:Int)=(i:Int)/\(a:Int)< (b:Int))))));obtain⟨m1,m2⟩:=m;generalize ((l[a]?).getD c0).2.2.1=w1 at*;generalize ((l[b]?).getD c0).2.2.1=w2 at*;generalize ((l[a+1]?).getD c0).2.1=w3 at*;generalize ((l[b+1]?).getD c0).2.1=w4 at*;omega
theorem Zpi{n:Zay}(h:ZcL n): ∀k,k<=n.2.2.1.length->(Zin n k).Pairwise fun a b=>ltC a b\/ltC b a:=by
 intro k hk;unfold Zin;rw[List.pairwise_flatMap];refine⟨fun i hi=> ?_, ?_⟩
 ·rw[List.mem_range]at hi;exact(ZtG (h.time _ (ZmT (show i<n.2.2.1.length by omega) u0))).imp fun h=> .inl h
 ·refine List.Pairwise.imp ?_ List.pairwise_lt_range;intro a b hab x hx y hy;obtain⟨_,p,_,rfl⟩:=ZjY hx;obtain⟨_,q,_,rfl⟩:=ZjY hy;have key: ∀u v:ZcW,u.1<v.1->ltC u v\/ltC v u:=fun u v h=>by unfold ltC;omega
  exact key _ _ (show ((a:Nat):Int)< ((b:Nat):Int) by omega)
theorem Ztw(a:ZcW): ¬ltC a a:=by unfold ltC;omega
theorem ZuV{a b c:ZcW}(h1:ltC a b)(h2:ltC b c):ltC a c:=by unfold ltC at*;omega
theorem Zu3{α:Type}{o:Option α}{z:α}(h: ∃r,o=some r/\r=z):o=some z:=by obtain⟨r,rfl,rfl⟩:=h;rfl
theorem Zrf      {i : Nat}{x : Zh9 }(hl : x.2.2.2.2.2.2.2.1.length <= 32)(h1 : 1 <= x.2.2.2.2.2.2.2.1.length){out : List ZcW  }(ho : out.length <= 100000) :
    run
 (fun s3 : List ZcW   × Int =>
 bif decide (s3.2 < IntKind.wrap .i64 ((↑(List.length x.2.2.2.2.2.2.2.1) : Int) - (1 : Int))) then
 Option.bind (idx x.2.2.2.2.2.2.2.1 s3.2) fun x4 =>
 Option.bind (idx x.2.2.2.2.2.2.2.1 (IntKind.wrap .i64 (s3.2 + (1 : Int)))) fun x5 =>
 Option.bind (Zar    (decide (List.length s3.1 + List.length [((i : Int), s3.2, x4.1, x5.1, x4.2.2.1, x5.2.1, ())] <= Zaq   ))) fun _ =>
 some (.inl (s3.1 ++ [((i : Int), s3.2, x4.1, x5.1, x4.2.2.1, x5.2.1, ())], IntKind.wrap .i64 (s3.2 + (1 : Int))))
 else some (.inr s3.1))
 (out, (0 : Int)) = some (out ++ Zlx  i x.2.2.2.2.2.2.2.1 (x.2.2.2.2.2.2.2.1.length - 1)) := by
  generalize x.2.2.2.2.2.2.2.1 = l at *;have e0 : IntKind.wrap .i64 ((l.length : Int) - 1) = ((l.length - 1 : Nat) : Int) := by rw [Zaj      (by omega) (by omega)]; omega
  refine Zu3   (ZaX     (l.length - 1) _ (fun c (s : List ZcW   × Int) => s = (out ++ Zlx  i l c, (c : Int))) ?_ ?_ _ (by simp [Zlx ]))
  · rintro c s hc rfl
    left;have hc1 : c + 1 < l.length := by omega
    refine ⟨(out ++ Zlx  i l (c + 1), ((c + 1 : Nat) : Int)), ?_, rfl⟩;simp only [e0, Zax    hc, cond_true, Zah     (show c < l.length by omega), bind_some, Zal       hc (show l.length - 1 <= 9223372036854775807 by omega), Zah     hc1]
    rw [Zbg       (by have : (Zlx  i l c).length = c := by simp [Zlx ]
                      simp; omega)]
    simp only [bind_some, Zqk      , Zim  , Zak     hc1, Zak     (show c < l.length by omega), List.append_assoc]
  · rintro s rfl
    refine ⟨_, ?_, rfl⟩;simp only [e0, Zaw    , cond_false]
theorem Zsa{n:Zay}{c:ZcW}(h:c∈Zin n n.2.2.1.length): ∃i, ∃hi:i<n.2.2.1.length,(n.2.2.1[i]).2.2.2.2.2.2.1=false/\ ∃k,k+1< (n.2.2.1[i]).2.2.2.2.2.2.2.1.length/\c=Zim i (n.2.2.1[i]).2.2.2.2.2.2.2.1 k:=by unfold Zin at h;obtain⟨i,hi,hc⟩:=List.mem_flatMap.1 h;rw[List.mem_range]at hi;rw[Zak hi]at hc;exact⟨i,hi,ZjY hc⟩
theorem ZrA{n:Zay}(hf:Fit n): ∃r,F37 n=some r/\F57 n=some r/\(r.2.2≠0->F6 n=some ([],21))/\
  (r.2.2=0->ZcL n/\ ∃ys:List ZcW,F6 n=some (ys,0)/\ys.Perm (Zin n n.2.2.1.length)/\ys.Pairwise ltC):=by
 obtain⟨r,h1,h2,h3⟩:=ZoE n hf;refine⟨r,h1,h2,fun hr=> ?_,fun hr=> ?_⟩
 ·unfold F6;rw[h1];simp only[bind_some,decide_eq_false hr,Bool.not_false,cond_true]
 ·have hS:=h3 hr;refine⟨hS, ?_⟩;have hlen:=hS.runs;have hcl:=Znz hS;obtain⟨ys,g1,g2,g3⟩:=Zkh (cmp:=F5) ltC (Zin n n.2.2.1.length) (by have:=hcl _ (Nat.le_refl _);omega) (fun x _ y _=>⟨_,Zl7 x y,ZtK x y,ZrH x y⟩) (fun x _=>Ztw x) (fun a _ b _ c _=>ZuV) (Zpi hS _ (Nat.le_refl _));refine⟨ys, ?_,g2,g3⟩;unfold F6;rw[h1];simp only[bind_some,hr,decide_true,Bool.not_true,cond_false];refine ZcB (fun r=>r=Zin n n.2.2.1.length) (ZaX n.2.2.1.length _ (fun i (s:List ZcW×Int)=>s=(Zin n i,(i:Int))) ?_ ?_ _ (by simp [Zin])) ?_
  ·rintro i s hi rfl;left;have hx:=List.getElem_mem hi;refine⟨(Zin n (i+1),((i+1:Nat):Int)), ?_,rfl⟩;have hlen2:=hcl i (by omega);simp only[Zax hi,cond_true,Zah hi,bind_some,Zal hi (show n.2.2.1.length<=9223372036854775807 by omega),Zig,Zak hi,ZoY]
   cases hc: (n.2.2.1[i]).2.2.2.2.2.2.1 with
   |true=>simp only[cond_true,if_true,List.append_nil]
   |false=>
    simp only[cond_false,Bool.false_eq_true,if_false];rw[Zrf (hS.many _ hx).2 (by have:=(hS.many _ hx).1;omega) (by omega)];rfl
  ·rintro s rfl;refine⟨_, ?_,rfl⟩;simp only[Zaw,cond_false]
  ·rintro _ rfl;unfold F131;rw[g1];rfl
theorem Zqt{ys:List ZcW}(hs:ys.Pairwise ltC){i j:Nat}(hij:i<j)(hj:j<ys.length):ltC (ys[i]'(by omega)) ys[j]:=List.pairwise_iff_getElem.1 hs i j (by omega) hj hij
theorem Zum{α:Type}{l:List α}{i:Nat}(h:i<l.length):idx l (i:Int)=some l[i]:=Zah h
theorem ZrI(n:Nat)(p:Nat->Bool)(h: ∀i j,i<j->j<n->p j=true->p i=true): ∃k,k<=n/\ ∀i,i<n->(p i=true↔i<k):=by
 induction n with
 |zero=>exact⟨0,Nat.le_refl _,fun i hi=>by omega⟩
 |succ n ih=>
  obtain⟨k,hk,h1⟩:=ih fun i j hij hj=>h i j hij (by omega)
  cases hp:p n with
  |true=>
   refine⟨n+1,Nat.le_refl _,fun i hi=>⟨fun _=>hi,fun _=> ?_⟩⟩;by_cases e:i=n
   ·subst e;exact hp
   ·exact h i n (by omega) (by omega) hp
  |false=>
   refine⟨k,by omega,fun i hi=> ?_⟩;by_cases e:i=n
   ·subst e;rw[hp];constructor
    ·intro h;exact absurd h (by decide)
    ·intro h;omega
   ·exact h1 i (by omega)
def Zip(l:List ZcW)(i:Nat):Int:=((l[i]?).getD (0,0,0,0,0,0,())).2.2.2.2.1
theorem ZmE{ys:List ZcW}(hs:ys.Pairwise ltC){i j:Nat}(hij:i<j)(hj:j<ys.length):Zip ys i<=Zip ys j:=by have h:=Zqt hs hij hj;unfold Zip;rw[Zak hj,Zak (show i<ys.length by omega)];unfold ltC at h;omega
theorem Zsu{lo hi:Nat}(h:lo<hi)(hn:hi<=1000000):IntKind.wrap .i64 (Int.tdiv (IntKind.wrap .i64 ((lo:Int)+(hi:Int))) (2:Int))=((lo+(hi - lo) / 2:Nat):Int):=by
 have e1:IntKind.wrap .i64 ((lo:Int)+(hi:Int))=((lo+hi:Nat):Int):=by rw[Zaj (by omega) (by omega)];omega
 rw[e1,Int.tdiv_eq_ediv_of_nonneg (by omega),Zaj (by omega) (by omega)];omega
theorem ZpU{ys:List ZcW}(hs:ys.Pairwise ltC)(hl:ys.length<=1000000)(t:Int): ∃k,k<=ys.length/\F7 ys t=some (k:Int)/\ ∀i,i<ys.length->(Zip ys i<=t↔i<k):=by
 obtain⟨k,hk,h1⟩:=ZrI ys.length (fun i=>decide (Zip ys i<=t)) fun i j hij hj hp=>by have:=ZmE hs hij hj;simp only[decide_eq_true_eq]at hp ⊢;omega
 simp only[decide_eq_true_eq]at h1;refine⟨k,hk, ?_,h1⟩;unfold F7 F9;simp only;rw[Zsc hk]
 ·rfl
 ·intro lo hi hlt hhi;have hm:lo+(hi - lo) / 2<ys.length:=by omega
  have hd:=h1 _ hm;unfold Zip at hd;rw[Zak hm]at hd;simp only[decide_eq_true (show (lo:Int)< (hi:Int) by omega),cond_true,Zsu hlt (by omega),F8,Zum hm,bind_some];by_cases hc:lo+(hi - lo) / 2<k
  ·rw[if_pos hc,decide_eq_false (Int.not_lt.2 (hd.2 hc))];simp only[cond_false];rw[Zal hm (by omega)]
  ·rw[if_neg hc,decide_eq_true (Int.not_le.1 (mt hd.1 hc))];rfl
 ·intro lo;simp only[Zaw,cond_false]
theorem Zty{n:Zay}{i m:Nat}(hi:i<n.2.2.1.length)(hm:m+1< (Zad n i).length)(hc:Zbh n i=false):Zim i (Zad n i) m∈Zin n n.2.2.1.length:=by
 unfold Zin;refine List.mem_flatMap.2 ⟨i,List.mem_range.2 hi, ?_⟩;rw[Zak hi];have e:Zad n i=(n.2.2.1[i]).2.2.2.2.2.2.2.1:=ZaO hi
 have hc' : (n.2.2.1[i]).2.2.2.2.2.2.1=false:=by unfold Zbh rn at hc;rw[Int.toNat_natCast,Zak hi]at hc;exact hc
 unfold ZoY;rw[if_neg (by rw[hc'];simp), <-e];unfold Zlx;refine List.mem_map.2 ⟨m,List.mem_range.2 (by omega),rfl⟩
end Q
namespace Q
open Tr Go
open Option (bind_some)
abbrev Zer:=Int×Int×Int×Int×Int×Unit
abbrev Zlh:=Int×Int×Bool×Unit
abbrev ScT:=Zay×Za3×List ZoT×List Zer×List Zlh×List (List Int) ×Bool×Unit
structure Ctx (n:Zay) (s0 t0 w:Int):Prop where
 net:Zdc n
 stop:0<=s0/\s0< (n.1.length:Int)
 time:0<=t0/\t0<=3155932800
 wait:0<=w/\w<=3600
variable {n:Zay}{s0 t0 w:Int}
theorem Ctx.ok(C:Ctx n s0 t0 w){f:Zlu}{js:List ZaM}(d:Der n s0 t0 w f js):f.ok n:=d.ok C.net C.stop C.time C.wait
def ZbZ(old new:Int):Bool:=decide (old= -1) ||decide (new<old)
theorem Zf2(old new:Int): (bif decide (old=(-1:Int)) then some true else some (decide (new<old)))=some (ZbZ old new):=by
 unfold ZbZ
 cases decide (old=(-1:Int))<;>rfl
theorem ZbW{a b:Int} :ZbZ a b=true↔a= -1\/b<a:=by unfold ZbZ;rw[Bool.or_eq_true,decide_eq_true_eq,decide_eq_true_eq]
theorem ZlS{a b:Int}(h:ZbZ a b=false):a≠ -1/\a<=b:=by
 have: ¬ (a= -1\/b<a):=fun e=>by rw[ZbW.2 e]at h;cases h
 omega
theorem Zut{a b t:Int}(hb:0<=b)(h:a≠ -1/\a<=t): (bif ZbZ a b then b else a)≠ -1/\(bif ZbZ a b then b else a)<=t:=by
 cases hl:ZbZ a b with
 |false=>exact h
 |true=>
  have:=ZbW.1 hl;simp only[cond_true];omega
theorem ZsW{a b:Int}(hb:0<=b): (bif ZbZ a b then b else a)≠ -1/\(bif ZbZ a b then b else a)<=b:=by
 cases hl:ZbZ a b with
 |true=>simp only[cond_true];omega
 |false=>simp only[cond_false];exact ZlS hl
theorem Zc1{α:Type}{l:List α}{i:Nat}{p:α}(h:l[i]? =some p)(g:α->α): (l.modify i g)[i]? =some (g p):=by rw[List.getElem?_modify,h];simp
theorem Zez{α:Type}{l:List α}{i j:Nat}(e:i≠j)(g:α->α): (l.modify i g)[j]? =l[j]? :=by rw[List.getElem?_modify];simp [e]
theorem Zc0{α:Type}{l:List α}{i j:Nat}{g:α->α}{q:α}(h: (l.modify i g)[j]? =some q): ∃p,l[j]? =some p/\(i=j/\q=g p\/i≠j/\q=p):=by
 by_cases e:i=j
 ·subst e
  cases hp:l[i]? with
  |none=>rw[List.getElem?_modify,hp]at h;simp at h
  |some p=>rw[Zc1 hp]at h;cases h;exact⟨p,rfl, .inl ⟨rfl,rfl⟩⟩
 ·rw[Zez e]at h;exact⟨q,h, .inr ⟨e,rfl⟩⟩
theorem Zci{α:Type}{l:List α}{i:Nat}(h:i<l.length)(g:α->α):l.modify i g=l.set i (g l[i]):=by
 apply List.ext_getElem?;intro j;rw[List.getElem?_modify,List.getElem?_set];by_cases hj:i=j
 ·subst hj;rw[List.getElem?_eq_getElem h];simp [h]
 ·simp [hj]
theorem Zf3{α:Type}{l:List α}{i j:Nat}{x y:α}(h: (l.set i x)[j]? =some y): (i=j/\y=x)\/l[j]? =some y:=by
 rw[List.getElem?_set]at h;by_cases e:i=j
 ·rw[if_pos e]at h;split at h
  ·exact .inl ⟨e,by simpa using h.symm⟩
  ·exact absurd h (by simp)
 ·rw[if_neg e]at h;exact .inr h
structure SP (D:Zlu->List ZaM->Prop) (lb:List ZoT) (s:Int) (p:Zer):Prop where
 arr:p.1≠ -1-> ∃k js,Ch lb p.2.2.2.1 js/\D (.arr k s p.1) js
 rid:p.2.1≠ -1-> ∃k js,D (.rid k s p.2.1) js
 rdy:p.2.2.1≠ -1-> ∃k js,Ch lb p.2.2.2.2.1 js/\D (.rdy k s p.2.2.1) js
def SB(D:Zlu->List ZaM->Prop)(lb:List ZoT)(i:Nat)(b:Zlh):Prop:=b.1≠ -1-> ∃k, ∃c:Nat,b.1=(c:Int)/\ ∃js,Ch lb b.2.1 js/\D (.brd k i c b.2.2.1) js
structure Snd (D:Zlu->List ZaM->Prop) (f:ScT):Prop where
 pls: ∀ (s:Nat) p,f.2.2.2.1[s]? =some p->SP D f.2.2.1 (s:Int) p
 brd: ∀ (i:Nat) b,f.2.2.2.2.1[i]? =some b->SB D f.2.2.1 i b
variable {D:Zlu->List ZaM->Prop}{lb:List ZoT}
theorem SP.app{s:Int}{p:Zer}(h:SP D lb s p)(m:List ZoT):SP D (lb++m) s p:=
 ⟨fun e=>let ⟨k,js,b,c⟩:=h.arr e;⟨k,js,b.app m,c⟩,h.rid,fun e=>let ⟨k,js,b,c⟩:=h.rdy e;⟨k,js,b.app m,c⟩⟩
theorem SB.app{i:Nat}{b:Zlh}(h:SB D lb i b)(m:List ZoT):SB D (lb++m) i b:=
 fun e=>let ⟨k,c,e1,js,b,d⟩:=h e;⟨k,c,e1,js,b.app m,d⟩
def LeA(l:List Zer)(s:Nat)(t:Int):Prop:= ∃p,l[s]? =some p/\p.1≠ -1/\p.1<=t
def LeR(l:List Zer)(s:Nat)(t:Int):Prop:= ∃p,l[s]? =some p/\p.2.1≠ -1/\p.2.1<=t
def LeY(l:List Zer)(s:Nat)(t:Int):Prop:= ∃p,l[s]? =some p/\p.2.2.1≠ -1/\p.2.2.1<=t
def LeB(l:List Zlh)(i:Nat)(d:Int):Prop:= ∃b,l[i]? =some b/\b.1≠ -1/\b.1<=d
theorem LeA.weak{l:List Zer}{s:Nat}{t u:Int}(h:LeA l s t)(e:t<=u):LeA l s u:=let ⟨p,a,b,c⟩:=h;⟨p,a,b,Int.le_trans c e⟩
theorem LeR.weak{l:List Zer}{s:Nat}{t u:Int}(h:LeR l s t)(e:t<=u):LeR l s u:=let ⟨p,a,b,c⟩:=h;⟨p,a,b,Int.le_trans c e⟩
theorem LeY.weak{l:List Zer}{s:Nat}{t u:Int}(h:LeY l s t)(e:t<=u):LeY l s u:=let ⟨p,a,b,c⟩:=h;⟨p,a,b,Int.le_trans c e⟩
def Zj5(V:List Int)(x:Int):Nat:=V.countP fun v=>ZbZ x v
theorem ZqL(V:List Int)(x:Int):Zj5 V x<=V.length:=List.countP_le_length
theorem ZpN{V:List Int}{x a:Int}(ha:0<=a)(hV:a∈V)(hl:ZbZ x a=true):Zj5 V a<Zj5 V x:=by
 unfold Zj5
 induction V with
 |nil=>cases hV
 |cons v V ih=>
  have hm:V.countP (fun v=>ZbZ a v)<=V.countP (fun v=>ZbZ x v):=List.countP_mono_left fun u _ hu=>by have h1:=ZbW.1 hu;have h2:=ZbW.1 hl;exact ZbW.2 (by omega)
  rw[List.countP_cons,List.countP_cons]
  have h1:ZbZ a a=false:=by
   cases e:ZbZ a a with
   |false=>rfl
   |true=>have:=ZbW.1 e;omega
  rcases List.mem_cons.1 hV with rfl|hV
  ·rw[h1,hl];simp only[Bool.false_eq_true,if_false,if_true];omega
  ·have h3:=ih hV
   have h4:ZbZ a v=true->ZbZ x v=true:=fun e=>by have h1:=ZbW.1 e;have h2:=ZbW.1 hl;exact ZbW.2 (by omega)
   cases e:ZbZ a v with
   |true=>rw[h4 e];simp only[if_true];omega
   |false=>simp only[Bool.false_eq_true,if_false];omega
def Ztr(b:Zlh):Nat:=if b.1= -1 then 40 else b.1.toNat
def Zj7(V:List Int)(l:List Zer):Nat:=(l.map fun p=>Zj5 V p.1+Zj5 V p.2.2.1).sum
def Zml(l:List Zlh):Nat:=(l.map Ztr).sum
def pot(V:List Int)(f:ScT):Nat:=Zj7 V f.2.2.2.1+Zml f.2.2.2.2.1
theorem Zia{α:Type}(g:α->Nat): ∀ {l:List α}{i:Nat} (hi:i<l.length) (x:α),((l.set i x).map g).sum+g l[i]=(l.map g).sum+g x
 | [],_,hi,_=>absurd hi (by simp)
 |a::l,0,_,x=>by simp;omega
 |a::l,i+1,hi,x=>by have:=Zia g (l:=l) (i:=i) (by simpa using hi) x;simp only[List.set_cons_succ,List.map_cons,List.sum_cons,List.getElem_cons_succ];omega
structure Zro (f g:ScT):Prop where
 arr: ∀s t,LeA g.2.2.2.1 s t->LeA f.2.2.2.1 s t
 rdy: ∀s t,LeY g.2.2.2.1 s t->LeY f.2.2.2.1 s t
 brd: ∀i d,LeB g.2.2.2.2.1 i d->LeB f.2.2.2.2.1 i d
structure Stp (n:Zay) (V:List Int) (T:Int) (f g:ScT):Prop where
 net:g.1=f.1
 qry:g.2.1=f.2.1
 lab: ∃m,g.2.2.1=f.2.2.1++m
 pl:g.2.2.2.1.length=f.2.2.2.1.length
 rl:g.2.2.2.2.1.length=f.2.2.2.2.1.length
 lks:g.2.2.2.2.2.1=f.2.2.2.2.2.1
 arr: ∀s t,LeA f.2.2.2.1 s t->LeA g.2.2.2.1 s t
 rid: ∀s t,LeR f.2.2.2.1 s t->LeR g.2.2.2.1 s t
 rdy: ∀s t,LeY f.2.2.2.1 s t->LeY g.2.2.2.1 s t
 brd: ∀i d,LeB f.2.2.2.2.1 i d->LeB g.2.2.2.2.1 i d
 mvd:f.2.2.2.2.2.2.1=true->g.2.2.2.2.2.2.1=true
 same:g.2.2.2.2.2.2.1=true\/Zro f g
 late: ∀s t,t<T->LeY g.2.2.2.1 s t->LeY f.2.2.2.1 s t
 lateB: ∀ (i m:Nat),i<n.2.2.1.length->m< (Zad n i).length->(Zab n i m).2.2.1<T->LeB g.2.2.2.2.1 i (m:Int)->LeB f.2.2.2.2.1 i (m:Int)
 pot:pot V g<=pot V f
 fall:f.2.2.2.2.2.2.1=false->g.2.2.2.2.2.2.1=true->Q.pot V g<Q.pot V f
variable {V:List Int}{T:Int}
theorem Zro.refl(f:ScT):Zro f f:=⟨fun _ _ h=>h,fun _ _ h=>h,fun _ _ h=>h⟩
theorem Zro.trans{f g h:ScT}(x:Zro f g)(y:Zro g h):Zro f h:=⟨fun s t e=>x.arr s t (y.arr s t e),fun s t e=>x.rdy s t (y.rdy s t e),fun s t e=>x.brd s t (y.brd s t e)⟩
theorem Stp.refl(f:ScT):Stp n V T f f:=
 ⟨rfl,rfl,⟨[],by simp⟩,rfl,rfl,rfl,fun _ _ h=>h,fun _ _ h=>h,fun _ _ h=>h,fun _ _ h=>h,fun h=>h, .inr (Zro.refl f),fun _ _ _ h=>h,fun _ _ _ _ _ h=>h,Nat.le_refl _,fun a b=>by rw[a]at b;cases b⟩
theorem Stp.trans{f g h:ScT}(x:Stp n V T f g)(y:Stp n V T g h):Stp n V T f h:=by
 obtain⟨m,hm⟩:=x.lab;obtain⟨m',hm'⟩:=y.lab
 refine⟨y.net.trans x.net,y.qry.trans x.qry,⟨m++m',by rw[hm',hm,List.append_assoc]⟩,y.pl.trans x.pl,y.rl.trans x.rl,y.lks.trans x.lks,fun s t h=>y.arr s t (x.arr s t h),fun s t h=>y.rid s t (x.rid s t h),fun s t h=>y.rdy s t (x.rdy s t h),fun s t h=>y.brd s t (x.brd s t h),fun e=>y.mvd (x.mvd e), ?_,
  fun s t a b=>x.late s t a (y.late s t a b),fun i m a b c d=>x.lateB i m a b c (y.lateB i m a b c d),Nat.le_trans y.pot x.pot,fun a b=> ?_⟩
 ·rcases y.same with e|e
  ·exact .inl e
  ·rcases x.same with e' |e'
   ·exact .inl (y.mvd e')
   ·exact .inr (e'.trans e)
 ·cases hg:g.2.2.2.2.2.2.1 with
  |true=>exact Nat.lt_of_le_of_lt y.pot (x.fall a hg)
  |false=>exact Nat.lt_of_lt_of_le (y.fall hg b) x.pot
theorem Stp.ch{f g:ScT}(h:Stp n V T f g){l:Int}{js:List ZaM}(c:Ch f.2.2.1 l js):Ch g.2.2.1 l js:=by obtain⟨m,hm⟩:=h.lab;rw[hm];exact c.app m
def ZoW(f:ScT)(x:ZaM)(prev:Int):ScT:=(f.1,f.2.1,f.2.2.1++[(x,prev,())],f.2.2.2)
theorem Zp8(f:ScT)(hl:f.2.2.1.length<4000000000)(x:ZaM)(prev:Int):F116 f x prev=some (ZoW f x prev,(f.2.2.1.length:Int)):=by
 unfold F116 ZoW;rw[Zbg (by simp;omega)]
 have e:IntKind.wrap .i64 (((f.2.2.1++[(x,prev,())]).length:Int) - 1)=(f.2.2.1.length:Int):=by rw[List.length_append];simp only[List.length_cons,List.length_nil];rw[Zaj (by omega) (by omega)];omega
 rw[e];rfl
theorem ZlT(f:ScT)(x:ZaM)(p:Int):Stp n V T f (ZoW f x p):=
 ⟨rfl,rfl,⟨[(x,p,())],rfl⟩,rfl,rfl,rfl,fun _ _ h=>h,fun _ _ h=>h,fun _ _ h=>h,fun _ _ h=>h,fun h=>h, .inr ⟨fun _ _ h=>h,fun _ _ h=>h,fun _ _ h=>h⟩,fun _ _ _ h=>h,fun _ _ _ _ _ h=>h,Nat.le_refl _,fun a b=>by have b' :f.2.2.2.2.2.2.1=true:=b;rw[a]at b';cases b'⟩
theorem Snd.add{f:ScT}(h:Snd D f)(x:ZaM)(p:Int):Snd D (ZoW f x p):=
 ⟨fun s q hq=>(h.pls s q hq).app _,fun i b hb=>(h.brd i b hb).app _⟩
def Zuh(p:Zer)(a l:Int):Zer:=bif ZbZ p.1 a then(a,p.2.1,p.2.2.1,l,p.2.2.2.2) else p
def ZtX(p:Zer)(r l:Int):Zer:=bif ZbZ p.2.2.1 r then(p.1,p.2.1,r,p.2.2.2.1,l,p.2.2.2.2.2) else p
def Zo1(p:Zer)(a r l:Int):Zer:=ZtX (Zuh p a l) r l
def Zj0(f:ScT)(i:Nat)(a r l:Int):ScT:=(f.1,f.2.1,f.2.2.1,f.2.2.2.1.modify i fun p=>Zo1 p a r l,f.2.2.2.2.1,f.2.2.2.2.2.1,
 (ZbZ ((f.2.2.2.1[i]?).getD (0,0,0,0,0,())).1 a||ZbZ ((f.2.2.2.1[i]?).getD (0,0,0,0,0,())).2.2.1 r) ||f.2.2.2.2.2.2.1,())
theorem Zhc(p:Zer)(a r l:Int): (Zo1 p a r l).1=bif ZbZ p.1 a then a else p.1:=by
 unfold Zo1 ZtX Zuh
 cases ZbZ p.1 a<;>simp only[cond_true,cond_false]<;>cases ZbZ p.2.2.1 r<;>rfl
theorem ZfR(p:Zer)(a r l:Int): (Zo1 p a r l).2.2.1=bif ZbZ p.2.2.1 r then r else p.2.2.1:=by
 unfold Zo1 ZtX Zuh
 cases ZbZ p.1 a<;>simp only[cond_true,cond_false]<;>cases ZbZ p.2.2.1 r<;>rfl
theorem Zlo(p:Zer)(a r l:Int): (Zo1 p a r l).2.1=p.2.1:=by
 unfold Zo1 ZtX Zuh
 cases ZbZ p.1 a<;>simp only[cond_true,cond_false]<;>cases ZbZ p.2.2.1 r<;>rfl
theorem Zfu(f:ScT){i:Nat}(hi:i<f.2.2.2.1.length)(a r l:Int):F119 f (i:Int) a r l=some (Zj0 f i a r l):=by
 unfold F119 Zj0;rw[Zci hi];obtain⟨n,q,lb,pl,rn,lk,mv,u⟩:=f;simp only at hi;simp only[ZaH hi,bind_some,List.getElem?_eq_getElem hi,Option.getD_some];generalize hp:pl[i]=p;rw[Zf2];simp only[bind_some];unfold Zo1 Zuh
 cases hl:ZbZ p.1 a with
 |true=>
  simp only[cond_true,List.set_set,List.getElem?_set_self hi,bind_some];rw[Zf2];simp only[bind_some];unfold ZtX;simp only
  cases ZbZ p.2.2.1 r with
  |true=>simp only[cond_true,Bool.true_or]
  |false=>simp only[cond_false,Bool.true_or]
 |false=>
  simp only[cond_false];rw[Zf2];simp only[bind_some];unfold ZtX
  cases ZbZ p.2.2.1 r with
  |true=>simp only[cond_true,List.getElem?_set_self hi,bind_some,List.set_set,Bool.or_true,Bool.true_or]
  |false=>
   simp only[cond_false,Bool.false_or];rw[<-hp,List.set_getElem_self]
theorem Zes{P:Zer->Prop}{l:List Zer}{i s:Nat}{g:Zer->Zer}(hg: ∀p,P p->P (g p))(h: ∃p,l[s]? =some p/\P p): ∃p,(l.modify i g)[s]? =some p/\P p:=by
 obtain⟨p,h1,h2⟩:=h;by_cases e:i=s
 ·subst e;exact⟨g p,Zc1 h1 g,hg p h2⟩
 ·exact⟨p,(Zez e g).trans h1,h2⟩
theorem Zco{P:Zer->Prop}{l:List Zer}{i s:Nat}{g:Zer->Zer}(hg: ∀p,l[i]? =some p->P (g p)->P p)(h: ∃p,(l.modify i g)[s]? =some p/\P p): ∃p,l[s]? =some p/\P p:=by
 obtain⟨q,h1,h2⟩:=h;obtain⟨p,hp,⟨rfl,rfl⟩ | ⟨_,rfl⟩⟩:=Zc0 h1
 ·exact⟨p,hp,hg p hp h2⟩
 ·exact⟨_,hp,h2⟩
theorem ZsV{a x:Int}(ha:0<=a)(hV:a∈V):Zj5 V (bif ZbZ x a then a else x)<=Zj5 V x/\(ZbZ x a=true->Zj5 V (bif ZbZ x a then a else x)<Zj5 V x):=by
 cases hl:ZbZ x a with
 |true=>simp only[cond_true];exact⟨Nat.le_of_lt (ZpN ha hV hl),fun _=>ZpN ha hV hl⟩
 |false=>exact⟨Nat.le_refl _,fun e=>nomatch e⟩
theorem ZjS(f:ScT){i:Nat}(hi:i<f.2.2.2.1.length){a r:Int}(ha:0<=a)(hr:0<=r)(hT:T<=r)(hVa:a∈V)(hVr:r∈V)(l:Int):Stp n V T f (Zj0 f i a r l):=by
 have hg: (f.2.2.2.1[i]?).getD (0,0,0,0,0,())=f.2.2.2.1[i]:=Zak hi _
 have hpp:Zj7 V (Zj0 f i a r l).2.2.2.1+(Zj5 V (f.2.2.2.1[i]).1+Zj5 V (f.2.2.2.1[i]).2.2.1)=Zj7 V f.2.2.2.1+(Zj5 V (bif ZbZ (f.2.2.2.1[i]).1 a then a else(f.2.2.2.1[i]).1)+Zj5 V (bif ZbZ (f.2.2.2.1[i]).2.2.1 r then r else(f.2.2.2.1[i]).2.2.1)):=by have:=Zia (fun p:Zer=>Zj5 V p.1+Zj5 V p.2.2.1) hi (Zo1 f.2.2.2.1[i] a r l);simp only[Zhc,ZfR]at this;unfold Zj7 Zj0;rw[Zci hi];exact this
 have c1:=ZsV (x:=(f.2.2.2.1[i]).1) ha hVa;have c2:=ZsV (x:=(f.2.2.2.1[i]).2.2.1) hr hVr;refine⟨rfl,rfl,⟨[],by simp [Zj0]⟩,by simp [Zj0],rfl,rfl,fun s t h=> ?_,fun s t h=> ?_,fun s t h=> ?_,fun _ _ h=>h,fun h=> ?_, ?_,fun s t ht h=> ?_,fun _ _ _ _ _ h=>h, ?_,fun h1 h2=> ?_⟩
 ·refine Zes (P:=fun p=>p.1≠ -1/\p.1<=t) (fun p hp=> ?_) h;rw[Zhc];exact Zut ha hp
 ·refine Zes (P:=fun p=>p.2.1≠ -1/\p.2.1<=t) (fun p hp=> ?_) h;rw[Zlo];exact hp
 ·refine Zes (P:=fun p=>p.2.2.1≠ -1/\p.2.2.1<=t) (fun p hp=> ?_) h;rw[ZfR];exact Zut hr hp
 ·show (_||f.2.2.2.2.2.2.1)=true;rw[h,Bool.or_true]
 ·show ((ZbZ ((f.2.2.2.1[i]?).getD (0,0,0,0,0,())).1 a||ZbZ ((f.2.2.2.1[i]?).getD (0,0,0,0,0,())).2.2.1 r) ||f.2.2.2.2.2.2.1)=true\/_;rw[hg]
  cases h1:ZbZ (f.2.2.2.1[i]).1 a with
  |true=>exact .inl rfl
  |false=>
   cases h2:ZbZ (f.2.2.2.1[i]).2.2.1 r with
   |true=>exact .inl rfl
   |false=>
    right;refine⟨fun s t h=> ?_,fun s t h=> ?_,fun _ _ h=>h⟩
    ·refine Zco (P:=fun p=>p.1≠ -1/\p.1<=t) (fun p hp hq=> ?_) h;rw[List.getElem?_eq_getElem hi]at hp;cases hp;rw[Zhc,h1]at hq;exact hq
    ·refine Zco (P:=fun p=>p.2.2.1≠ -1/\p.2.2.1<=t) (fun p hp hq=> ?_) h;rw[List.getElem?_eq_getElem hi]at hp;cases hp;rw[ZfR,h2]at hq;exact hq
 ·refine Zco (P:=fun p=>p.2.2.1≠ -1/\p.2.2.1<=t) (fun p hp hq=> ?_) h;rw[ZfR]at hq
  cases hl:ZbZ p.2.2.1 r with
  |false=>rw[hl]at hq;exact hq
  |true=>rw[hl]at hq;simp only[cond_true]at hq;omega
 ·show Zj7 V (Zj0 f i a r l).2.2.2.1+Zml f.2.2.2.2.1<=Zj7 V f.2.2.2.1+Zml f.2.2.2.2.1;omega
 ·have h2' : ((ZbZ ((f.2.2.2.1[i]?).getD (0,0,0,0,0,())).1 a||ZbZ ((f.2.2.2.1[i]?).getD (0,0,0,0,0,())).2.2.1 r) ||f.2.2.2.2.2.2.1)=true:=h2;rw[hg,h1,Bool.or_false,Bool.or_eq_true]at h2';show Zj7 V (Zj0 f i a r l).2.2.2.1+Zml f.2.2.2.2.1<Zj7 V f.2.2.2.1+Zml f.2.2.2.2.1;rcases h2' with h|h
  ·have:=c1.2 h;omega
  ·have:=c2.2 h;omega
theorem Zmy{f:ScT}{i:Nat}(hi:i<f.2.2.2.1.length){a r:Int}(ha:0<=a)(hr:0<=r)(l:Int):LeA (Zj0 f i a r l).2.2.2.1 i a/\LeY (Zj0 f i a r l).2.2.2.1 i r:=by have e: (Zj0 f i a r l).2.2.2.1[i]? =some (Zo1 f.2.2.2.1[i] a r l):=Zc1 (List.getElem?_eq_getElem hi) _;exact⟨⟨_,e,by rw[Zhc];exact ZsW ha⟩,⟨_,e,by rw[ZfR];exact ZsW hr⟩⟩
theorem SP.imp{s:Int}{p:Zer}(h:SP D lb s p){a r l:Int}(ha: ∃k js,Ch lb l js/\D (.arr k s a) js)(hr: ∃k js,Ch lb l js/\D (.rdy k s r) js):SP D lb s (Zo1 p a r l):=by
 obtain⟨h1,h2,h3⟩:=h;unfold Zo1 ZtX Zuh
 cases ZbZ p.1 a<;>simp only[cond_true,cond_false]<;>cases ZbZ p.2.2.1 r<;>simp only[cond_true,cond_false]
 ·exact⟨h1,h2,h3⟩
 ·exact⟨h1,h2,fun _=>hr⟩
 ·exact⟨fun _=>ha,h2,h3⟩
 ·exact⟨fun _=>ha,h2,fun _=>hr⟩
theorem Snd.imp{f:ScT}(h:Snd D f){i:Nat}{a r l:Int}(ha: ∃k js,Ch f.2.2.1 l js/\D (.arr k (i:Int) a) js)(hr: ∃k js,Ch f.2.2.1 l js/\D (.rdy k (i:Int) r) js):Snd D (Zj0 f i a r l):=by
 refine⟨fun s q hq=> ?_,h.brd⟩;obtain⟨p,hp,⟨rfl,rfl⟩ | ⟨_,rfl⟩⟩:=Zc0 hq
 ·exact(h.pls i p hp).imp ha hr
 ·exact h.pls s _ hp
def Zdj(f:ScT)(i:Nat)(b:Zlh):ScT:=
 bif !(rn f.1 (i:Int)).2.2.2.2.2.2.1&&ZbZ ((f.2.2.2.2.1[i]?).getD (0,0,false,())).1 b.1 then(f.1,f.2.1,f.2.2.1,f.2.2.2.1,f.2.2.2.2.1.set i b,f.2.2.2.2.2.1,true,()) else f
theorem Zk4(f:ScT){i:Nat}(hi:i<f.1.2.2.1.length)(hr:f.2.2.2.2.1.length=f.1.2.2.1.length)(b:Zlh):F117 f (i:Int) b=some (Zdj f i b):=by
 unfold F117 Zdj;have hi' :i<f.2.2.2.2.1.length:=by omega
 have e:rn f.1 (i:Int)=f.1.2.2.1[i]:=by unfold rn;rw[Int.toNat_natCast,Zak hi]
 rw[e,Zak hi'];simp only[Zah hi,bind_some,ZaH hi',List.getElem?_eq_getElem hi']
 cases (f.1.2.2.1[i]).2.2.2.2.2.2.1 with
 |true=>rfl
 |false=>
  simp only[Bool.not_false,cond_false,bind_some,Bool.true_and];unfold ZbZ;by_cases h1: (f.2.2.2.2.1[i]).1= -1
  ·rw[decide_eq_true h1];rfl
  ·rw[decide_eq_false h1];by_cases h2: (f.2.2.2.2.1[i]).1<=b.1
   ·rw[decide_eq_true h2,decide_eq_false (show¬b.1< (f.2.2.2.2.1[i]).1 by omega)];rfl
   ·rw[decide_eq_false h2,decide_eq_true (show b.1< (f.2.2.2.2.1[i]).1 by omega)];rfl
theorem ZuG{l:List Zlh}{i:Nat}{b:Zlh}(h:ZbZ ((l[i]?).getD (0,0,false,())).1 b.1=true)(hb:0<=b.1){j:Nat}{d:Int}(hj:LeB l j d):LeB (l.set i b) j d:=by
 obtain⟨x,h1,h2,h3⟩:=hj;by_cases e:i=j
 ·subst e;have hi:=(List.getElem?_eq_some_iff.1 h1).1;refine⟨b,List.getElem?_set_self hi, ?_⟩;rw[h1]at h;have:=ZbW.1 h;simp only[Option.getD_some]at this;omega
 ·exact⟨x,by rw[List.getElem?_set_ne e];exact h1,h2,h3⟩
theorem Zss{l:List Zlh}{i:Nat}(hi:i<l.length){b:Zlh}(h:ZbZ ((l[i]?).getD (0,0,false,())).1 b.1=false):LeB l i b.1:=by rw[Zak hi]at h;exact⟨l[i],List.getElem?_eq_getElem hi,ZlS h⟩
theorem ZkV(C:Zdc n)(f:ScT){i c:Nat}(hi:i<n.2.2.1.length)(hir:i<f.2.2.2.2.1.length)(hc:c< (Zad n i).length)(hT:T<=(Zab n i c).2.2.1)(prev:Int)(st:Bool):Stp n V T f (Zdj f i ((c:Int),prev,st,())):=by
 unfold Zdj
 cases hg: (!(rn f.1 (i:Int)).2.2.2.2.2.2.1&&ZbZ ((f.2.2.2.2.1[i]?).getD (0,0,false,())).1 (c:Int)) with
 |false=>exact Stp.refl f
 |true=>
  rw[Bool.and_eq_true]at hg;have hl:=hg.2;rw[Zak hir]at hl;have hl' :=ZbW.1 hl;have h0: (0:Int)<=(c:Int):=by omega
  have hs:=Zia Ztr hir ((c:Int),prev,st,())
  have hr:Ztr ((c:Int),prev,st,())<Ztr f.2.2.2.2.1[i]\/32<c:=by
   unfold Ztr;simp only;rw[if_neg (by omega)];by_cases e: (f.2.2.2.2.1[i]).1= -1
   ·rw[if_pos e];omega
   ·rw[if_neg e];omega
  have hcl:c<32:=by have:=(C.sound.many _ (List.getElem_mem hi)).2;rw[ZaO hi]at hc;omega
  have hpot:Zml (f.2.2.2.2.1.set i ((c:Int),prev,st,()))<Zml f.2.2.2.2.1:=by unfold Zml;omega
  refine⟨rfl,rfl,⟨[],by simp⟩,rfl,by simp,rfl,fun _ _ h=>h,fun _ _ h=>h,fun _ _ h=>h,fun j d h=>ZuG hg.2 h0 h,fun _=>rfl, .inl rfl,fun _ _ _ h=>h,fun j m hj hm hd h=> ?_, ?_,fun _ _=> ?_⟩
  ·obtain⟨x,h1,h2,h3⟩:=h;rcases Zf3 h1 with ⟨rfl,rfl⟩ |h1
   ·exfalso;have h3' : (c:Int)<=(m:Int):=h3
    have: (Zab n i c).2.2.1<=(Zab n i m).2.2.1:=by
     have ht:=C.sound.time _ (List.getElem_mem hi);have e:=ZaO hi
     have key: ∀k,c+k< (Zad n i).length->(Zab n i c).2.2.1<=(Zab n i (c+k)).2.2.1:=by
      intro k
      induction k with
      |zero=>exact fun _=>Int.le_refl _
      |succ k ih=>
       intro hk;have h1:=ih (by omega);rw[e]at hk;have h2:=ht (c+(k+1)) hk;have h3:=h2.2.2.2 (by omega)
       have h4:Zab n i (c+(k+1))=(n.2.2.1[i]).2.2.2.2.2.2.2.1[c+(k+1)]:=by unfold Zab cl;rw[Int.toNat_natCast,e,Zak hk]
       have hk2:c+(k+1) - 1< (n.2.2.1[i]).2.2.2.2.2.2.2.1.length:=by omega
       have h5:Zab n i (c+k)=(n.2.2.1[i]).2.2.2.2.2.2.2.1[c+(k+1) - 1]:=by unfold Zab cl;rw[Int.toNat_natCast,e,show c+k=c+(k+1) - 1 by omega,Zak hk2]
       rw[h4];rw[h5]at h1;omega
     have:=key (m - c) (by omega);rw[show c+(m - c)=m by omega]at this;exact this
    omega
   ·exact⟨x,h1,h2,h3⟩
  ·show Zj7 V f.2.2.2.1+Zml (f.2.2.2.2.1.set i ((c:Int),prev,st,()))<=Zj7 V f.2.2.2.1+Zml f.2.2.2.2.1;omega
  ·show Zj7 V f.2.2.2.1+Zml (f.2.2.2.2.1.set i ((c:Int),prev,st,()))<Zj7 V f.2.2.2.1+Zml f.2.2.2.2.1;omega
theorem Zli{f:ScT}{i:Nat}(hi:i<f.2.2.2.2.1.length){b:Zlh}(hb:0<=b.1)(hc: (rn f.1 (i:Int)).2.2.2.2.2.2.1=false):LeB (Zdj f i b).2.2.2.2.1 i b.1:=by
 unfold Zdj;rw[hc]
 cases hl:ZbZ ((f.2.2.2.2.1[i]?).getD (0,0,false,())).1 b.1 with
 |false=>exact Zss hi hl
 |true=>exact⟨b,List.getElem?_set_self hi,by omega,by omega⟩
theorem Snd.board{f:ScT}(h:Snd D f){i:Nat}{b:Zlh}(hb: (rn f.1 (i:Int)).2.2.2.2.2.2.1=false->SB D f.2.2.1 i b):Snd D (Zdj f i b):=by
 unfold Zdj
 cases hc: (rn f.1 (i:Int)).2.2.2.2.2.2.1 with
 |true=>exact h
 |false=>
  cases ZbZ ((f.2.2.2.2.1[i]?).getD (0,0,false,())).1 b.1 with
  |false=>exact h
  |true=>
   refine⟨h.pls,fun j x hx=> ?_⟩;rcases Zf3 hx with ⟨rfl,rfl⟩ |hx
   ·exact hb hc
   ·exact h.brd j x hx
theorem Zi5(f:ScT)(i:Nat)(b:Zlh): (Zdj f i b).2.2.1=f.2.2.1:=by unfold Zdj;cases (!(rn f.1 (i:Int)).2.2.2.2.2.2.1&&ZbZ ((f.2.2.2.2.1[i]?).getD (0,0,false,())).1 b.1)<;>rfl
end Q
namespace Q
open Tr Go
open Option (bind_some)
variable {n:Zay}{s0 t0 w:Int}{V:List Int}{T:Int}
theorem bex{α β:Type}{o:Option α}{f:α->Option β}{Q:β->Prop}(P:α->Prop)(h: ∃r,o=some r/\P r)(k: ∀r,P r-> ∃s,f r=some s/\Q s): ∃s,Option.bind o f=some s/\Q s:=by obtain⟨r,rfl,hr⟩:=h;exact k r hr
def p00:Zer:=(0,0,0,0,0,())
def ZbB(f:ScT)(s:Nat):Int:=((f.2.2.2.1[s]?).getD p00).2.1
def Wlk(s t:Int)(l:List Zer)(p:Zcf):Prop:=p.1=s->t+p.2.2.1<=3155932800->LeA l p.2.1.toNat (t+p.2.2.1)/\LeY l p.2.1.toNat (t+p.2.2.1)
theorem Wlk.mono{s t:Int}{g h:ScT}{p:Zcf}(y:Stp n V T g h)(z:Wlk s t g.2.2.2.1 p):Wlk s t h.2.2.2.1 p:=
 fun a b=>⟨y.arr _ _ (z a b).1,y.rdy _ _ (z a b).2⟩
theorem Wlk.weak{s t u:Int}{l:List Zer}{p:Zcf}(h:t<=u)(z:Wlk s t l p):Wlk s u l p:=
 fun a b=>let ⟨x,y⟩:=z a (by omega);⟨x.weak (by omega),y.weak (by omega)⟩
theorem Zhj(f:ScT)(i:Nat)(a r l:Int)(j:Nat):ZbB (Zj0 f i a r l) j=ZbB f j:=by
 unfold ZbB Zj0;simp only[List.getElem?_modify]
 cases f.2.2.2.1[j]? with
 |none=>rfl
 |some p=>
  by_cases e:i=j
  ·simp [e,Zlo]
  ·simp [e]
theorem Zq4(C:Ctx n s0 t0 w){f:ScT}(hf:f.1=n)(hpl:f.2.2.2.1.length=n.1.length)(hp:n.2.2.2.2.1.length<=4096){s t prev:Int}(ht:0<=t/\t<=3155932800)(hT:T<=t)(hV: ∀p∈n.2.2.2.2.1,t+p.2.2.1∈V)
  (hl:f.2.2.1.length+4096<4000000000) {js:List ZaM}{k:Nat} (hD: ∀p∈n.2.2.2.2.1,p.1=s->t+p.2.2.1<=3155932800->Der n s0 t0 w (.arr k p.2.1 (t+p.2.2.1)) (js++[Zfn s p.2.1 t (t+p.2.2.1)])/\Der n s0 t0 w (.rdy k p.2.1 (t+p.2.2.1)) (js++[Zfn s p.2.1 t (t+p.2.2.1)]))
  (h:Snd (Der n s0 t0 w) f) (hch:Ch f.2.2.1 prev js):
  ∃g,F122 f s t prev=some g/\Stp n V T f g/\Snd (Der n s0 t0 w) g/\(∀p∈n.2.2.2.2.1,Wlk s t g.2.2.2.1 p)/\g.2.2.1.length<=f.2.2.1.length+n.2.2.2.2.1.length/\(∀j,ZbB g j=ZbB f j):=by
 unfold F122;rw[hf];refine bex (fun g=>Stp n V T f g/\Snd (Der n s0 t0 w) g/\(∀p∈n.2.2.2.2.1,Wlk s t g.2.2.2.1 p)/\g.2.2.1.length<=f.2.2.1.length+n.2.2.2.2.1.length/\(∀j,ZbB g j=ZbB f j)) ?_ (fun r hr=>⟨r,rfl,hr⟩);have hpn: ∀g:ScT,Stp n V T f g->g.1.2.2.2.2.1=n.2.2.2.2.1:=fun g hg=>by rw[hg.net,hf]
 refine ZaX n.2.2.2.2.1.length _ (fun i (st:ScT×Int)=>st.2=(i:Int)/\Stp n V T f st.1/\Snd (Der n s0 t0 w) st.1/\(∀p∈n.2.2.2.2.1.take i,Wlk s t st.1.2.2.2.1 p)/\st.1.2.2.1.length<=f.2.2.1.length+i/\(∀j,ZbB st.1 j=ZbB f j)) ?_ ?_ _ ⟨rfl,Stp.refl f,h,(by simp),by simp,fun _=>rfl⟩
 ·rintro i ⟨g,j⟩ hi ⟨hj,h1,h2,h3,h4,h5⟩;simp only at hj h1 h2 h3 h4 h5;subst hj;left;have hmem:=List.getElem_mem hi;have hpo:=C.net.path _ hmem;rw[List.take_succ_eq_append_getElem hi];have hDi:=hD _ hmem;have hVi:=hV _ hmem;simp only[Zax hi,cond_true,Zah hi,bind_some,Zal hi (show _<=9223372036854775807 by omega)];generalize n.2.2.2.2.1[i]=p at*;have w1:IntKind.wrap .i64 (t+p.2.2.1)=t+p.2.2.1:=Zaj (by omega) (by omega);simp only[w1];by_cases hc:p.1=s
  rotate_left
  ·rw[decide_eq_false hc];refine⟨_,rfl,rfl,h1,h2,fun q hq=> ?_,by simp only;omega,h5⟩;rcases List.mem_append.1 hq with hq|hq
   ·exact h3 q hq
   ·simp only[List.mem_singleton]at hq;subst hq;exact fun a=>absurd a hc
  by_cases hm:t+p.2.2.1<=3155932800
  rotate_left
  ·rw[decide_eq_true hc,decide_eq_false hm];refine⟨_,rfl,rfl,h1,h2,fun q hq=> ?_,by simp only;omega,h5⟩;rcases List.mem_append.1 hq with hq|hq
   ·exact h3 q hq
   ·simp only[List.mem_singleton]at hq;subst hq;exact fun _ b=>absurd b hm
  rw[decide_eq_true hc,decide_eq_true hm];simp only[cond_true,bind_some];rw[Zp8 g (by omega)];simp only[bind_some];obtain⟨d1,d2⟩:=hDi hc hm;obtain⟨y,hy⟩: ∃y:Nat,p.2.1=(y:Int):=⟨p.2.1.toNat,by omega⟩;have hnew:=(h1.ch hch).new (Zfn s p.2.1 t (t+p.2.2.1));rw[show ((false,0,0,0,s,p.2.1,t,t+p.2.2.1,false,()):ZaM)=Zfn s p.2.1 t (t+p.2.2.1) from rfl];generalize Zfn s p.2.1 t (t+p.2.2.1)=x at*;rw[hy]at d1 d2;have h0:0<=t+p.2.2.1:=by omega
  have hyl:y< (ZoW g x prev).2.2.2.1.length:=by show y<g.2.2.2.1.length;rw[h1.pl];omega
  rw[hy,Zfu _ hyl];have hst:=(h1.trans (ZlT g x prev)).trans (ZjS (V:=V) (T:=T) (ZoW g x prev) hyl h0 h0 (by omega) hVi hVi (g.2.2.1.length:Int));have hsn:=(h2.add x prev).imp (i:=y) ⟨k,_,hnew,d1⟩ ⟨k,_,hnew,d2⟩;refine⟨_,rfl,rfl,hst,hsn,fun q hq=> ?_, ?_,fun j=> ?_⟩
  ·rcases List.mem_append.1 hq with hq|hq
   ·exact(h3 q hq).mono ((ZlT g x prev).trans (ZjS (V:=V) (T:=T) (n:=n) (ZoW g x prev) hyl h0 h0 (by omega) hVi hVi (g.2.2.1.length:Int)))
   ·simp only[List.mem_singleton]at hq;subst hq;intro _ _;rw[hy,Int.toNat_natCast];exact Zmy hyl h0 h0 _
  ·show (g.2.2.1++[(x,prev,())]).length<=_;simp only[List.length_append,List.length_cons,List.length_nil];omega
  ·show ZbB (Zj0 (ZoW g x prev) y _ _ _) j=_;rw[Zhj];exact h5 j
 ·rintro ⟨g,j⟩ ⟨hj,h1,h2,h3,h4,h5⟩;simp only at hj h1 h2 h3 h4 h5;subst hj;rw[List.take_length]at h3;simp only[Zaw,cond_false];exact⟨_,rfl,h1,h2,h3,h4,h5⟩
def lkI(n:Zay)(k:Int):ZjT:=(n.2.2.2.1[k.toNat]?).getD (0,0,0,0,false,())
def Zud(n:Zay)(out:List (List Int)):Prop:=out.length=n.2.2.1.length/\ ∀ (i:Nat) ks,out[i]? =some ks->ks.length<=1024/\ ∀x:Int,x∈ks↔inR x n.2.2.2.1.length=true/\(lkI n x).1=(i:Int)
theorem Zql{n:Zay}{x:Int}(h:inR x n.2.2.2.1.length=true):lkI n x∈n.2.2.2.1:=by
 rw[Zcz]at h;have hl:x.toNat<n.2.2.2.1.length:=by omega
 unfold lkI;rw[Zak hl];exact List.getElem_mem hl
theorem ZmP{i c j d:Nat}{st:Bool}(h:isLink n i c j d st): ∃x:Int,inR x n.2.2.2.1.length=true/\lkI n x=((i:Int),(c:Int),(j:Int),(d:Int),st,()):=by obtain⟨k,hk,e⟩:=List.getElem_of_mem h;refine⟨(k:Int),Zpk.2 hk, ?_⟩;unfold lkI;rw[Int.toNat_natCast,Zak hk,e]
def ZuL(n:Zay)(i c:Nat)(g:ScT):Prop:= ∀ (j d:Nat) (st:Bool),isLink n i c j d st->(Zab n i c).2.1<=(Zab n j d).2.2.1->
 (st=true\/(Zab n i c).2.2.2.2.1=true/\(Zab n j d).2.2.2.1=true)->Zbh n j=false->LeB g.2.2.2.2.1 j (d:Int)
theorem ZuL.mono{i c:Nat}{g h:ScT}(y:Stp n V T g h)(z:ZuL n i c g):ZuL n i c h:=fun j d st a b c e=>y.brd _ _ (z j d st a b c e)
theorem ZvG{α:Type}{l:List α}{x:Int}{d:α}(h:inR x l.length=true):idx l x=some ((l[x.toNat]?).getD d):=Zbj h d
theorem ZpG(C:Ctx n s0 t0 w){f:ScT}(hf:f.1=n)(hrl:f.2.2.2.2.1.length=n.2.2.1.length)(ho:Zud n f.2.2.2.2.2.1)(h:Snd (Der n s0 t0 w) f){k i c:Nat}{l:Int}{js:List ZaM}(hl:Ch f.2.2.1 l js)(hd:Der n s0 t0 w (.on k i c) js)(hT:T<=(Zab n i c).2.1):
  ∃g,F118 f (i:Int) (c:Int) l (Zab n i c).2.2.2.2.1=some g/\Stp n V T f g/\Snd (Der n s0 t0 w) g/\ZuL n i c g/\g.2.2.1=f.2.2.1/\(∀j,ZbB g j=ZbB f j)/\g.2.2.2.1=f.2.2.2.1:=by
 obtain⟨_,hi,hc,_⟩:=C.ok hd;unfold F118;rw[hf];have hio:i<f.2.2.2.2.2.1.length:=by rw[ho.1];exact hi
 obtain⟨hkl,hks⟩:=ho.2 i _ (List.getElem?_eq_getElem hio);have e1:idx n.2.2.1 (i:Int)=some n.2.2.1[i]:=Zah hi;have hcl: (n.2.2.1[i]).2.2.2.2.2.2.2.1=Zad n i:=(ZaO hi).symm;have e2:idx (Zad n i) (c:Int)=some (Zab n i c):=by rw[Zah hc,Zb9 hc]
 simp only[e1,bind_some,hcl,e2,Zah hio];generalize f.2.2.2.2.2.1[i]=ks at*
 refine bex (fun g=>Stp n V T f g/\Snd (Der n s0 t0 w) g/\(∀x∈ks, ∀ (j d:Nat) (st:Bool),lkI n x=((i:Int),(c:Int),(j:Int),(d:Int),st,())->(Zab n i c).2.1<=(Zab n j d).2.2.1->
  (st=true\/(Zab n i c).2.2.2.2.1=true/\(Zab n j d).2.2.2.1=true)->Zbh n j=false->LeB g.2.2.2.2.1 j (d:Int))/\g.2.2.1=f.2.2.1/\(∀j,ZbB g j=ZbB f j)/\g.2.2.2.1=f.2.2.2.1) ?_ (fun r hr=>⟨r,rfl,hr.1,hr.2.1,fun j d st a b c' e=> ?_,hr.2.2.2⟩)
 rotate_left
 ·obtain⟨x,x1,x2⟩:=ZmP a;exact hr.2.2.1 x ((hks x).2 ⟨x1,by rw[x2]⟩) j d st x2 b c' e
 refine ZaX ks.length _ (fun m (st:ScT×Int)=>st.2=(m:Int)/\Stp n V T f st.1/\Snd (Der n s0 t0 w) st.1/\(∀x∈ks.take m, ∀ (j d:Nat) (s:Bool),lkI n x=((i:Int),(c:Int),(j:Int),(d:Int),s,())->(Zab n i c).2.1<=(Zab n j d).2.2.1->
  (s=true\/(Zab n i c).2.2.2.2.1=true/\(Zab n j d).2.2.2.1=true)->Zbh n j=false->LeB st.1.2.2.2.2.1 j (d:Int))/\st.1.2.2.1=f.2.2.1/\(∀j,ZbB st.1 j=ZbB f j)/\st.1.2.2.2.1=f.2.2.2.1) ?_ ?_ _ ⟨rfl,Stp.refl f,h,(by simp),rfl,fun _=>rfl,rfl⟩
 ·rintro m ⟨g,z⟩ hm ⟨hz,h1,h2,h3,h4,h5,h6⟩;simp only at hz h1 h2 h3 h4 h5 h6;subst hz;left;obtain⟨x1,x2⟩:=(hks _).1 (List.getElem_mem hm);obtain⟨i',c',j,d,st,e,_,hj,_,hc',hdl,_,_⟩:=C.net.link _ (Zql x1);have hgn:g.1=n:=h1.net.trans hf;rw[List.take_succ_eq_append_getElem hm];have e3:idx g.1.2.2.2.1 ks[m]=some (lkI n ks[m]):=by rw[hgn];exact ZvG x1
  have e4:idx g.1.2.2.1 (j:Int)=some n.2.2.1[j]:=by rw[hgn];exact Zah hj
  have hcj: (n.2.2.1[j]).2.2.2.2.2.2.2.1=Zad n j:=(ZaO hj).symm;have e5:idx (Zad n j) (d:Int)=some (Zab n j d):=by rw[Zah hdl,Zb9 hdl]
  simp only[Zax hm,cond_true,Zah hm,bind_some,Zal hm (show _<=9223372036854775807 by omega),e3,e,e4,hcj,e5];generalize ks[m]=x at*;have hi' :i' =i:=by rw[e]at x2;simp only at x2;omega
  subst hi'
  have hadd: ∀g' :ScT,Stp n V T g g' ->((Zab n i' c).2.1<=(Zab n j d).2.2.1->c' =c->(st=true\/(Zab n i' c).2.2.2.2.1=true/\(Zab n j d).2.2.2.1=true)->Zbh n j=false->LeB g'.2.2.2.2.1 j (d:Int))->
    ∀y∈ks.take m++[x], ∀ (j d:Nat) (s:Bool),lkI n y=((i' :Int),(c:Int),(j:Int),(d:Int),s,())->(Zab n i' c).2.1<=(Zab n j d).2.2.1->(s=true\/(Zab n i' c).2.2.2.2.1=true/\(Zab n j d).2.2.2.1=true)->Zbh n j=false->LeB g'.2.2.2.2.1 j (d:Int):=by
   intro g' hg' hnew y hy j1 d1 s1 b1 b2 b3 b4;rcases List.mem_append.1 hy with hy|hy
   ·exact hg'.brd _ _ (h3 y hy j1 d1 s1 b1 b2 b3 b4)
   ·simp only[List.mem_singleton]at hy;subst hy;rw[e]at b1;simp only[Prod.mk.injEq,Int.natCast_inj]at b1;obtain⟨_,rfl,rfl,rfl,rfl,_⟩:=b1;exact hnew b2 rfl b3 b4
  by_cases hcc:c' =c
  rotate_left
  ·rw[decide_eq_false (show¬ (c' :Int)=(c:Int) by omega)];exact⟨_,rfl,rfl,h1,h2,hadd g (Stp.refl g) (fun _ b=>absurd b hcc),h4,h5,h6⟩
  subst hcc;by_cases htm: (Zab n i' c').2.1<=(Zab n j d).2.2.1
  rotate_left
  ·rw[decide_eq_true rfl,decide_eq_false htm];exact⟨_,rfl,rfl,h1,h2,hadd g (Stp.refl g) (fun a=>absurd a htm),h4,h5,h6⟩
  rw[decide_eq_true rfl,decide_eq_true htm];simp only[cond_true];have hil:isLink n i' c' j d st:=by unfold isLink;rw[<-e];exact Zql x1
  have e6: (bif st then some true else bif (Zab n i' c').2.2.2.2.1 then some (Zab n j d).2.2.2.1 else some false)=some (st|| ((Zab n i' c').2.2.2.2.1&& (Zab n j d).2.2.2.1)):=by
   cases st<;>cases (Zab n i' c').2.2.2.2.1<;>rfl
  rw[e6];simp only[bind_some]
  cases hok: (st|| ((Zab n i' c').2.2.2.2.1&& (Zab n j d).2.2.2.1)) with
  |false=>
   simp only[cond_false];refine⟨_,rfl,rfl,h1,h2,hadd g (Stp.refl g) (fun _ _ a=> ?_),h4,h5,h6⟩;exfalso;rcases a with rfl| ⟨a,b⟩
   ·simp at hok
   ·rw[a,b]at hok;simp at hok
  |true=>
   simp only[cond_true];have hjr:j<g.2.2.2.2.1.length:=by rw[h1.rl,hrl];exact hj
   rw[Zk4 g (by rw[hgn];exact hj) (by rw[h1.rl,hrl,hgn])];simp only[bind_some];have hsb:=ZkV (V:=V) (T:=T) C.net g hj hjr hdl (by omega) l st;refine⟨_,rfl,rfl,h1.trans hsb,h2.board fun hcn=>fun _=> ?_,hadd _ hsb fun _ _ _ hcn=>Zli hjr (b:=((d:Int),l,st,())) (by show (0:Int)<=(d:Int);omega) (by rw[hgn];exact hcn),by rw[Zi5];exact h4,fun y=> ?_, ?_⟩
   ·have hcn' :Zbh n j=false:=by rw[hgn]at hcn;exact hcn
    cases st with
    |true=>exact⟨k,d,rfl,js,h1.ch hl, .stay hd hil htm hcn'⟩
    |false=>
     simp only[Bool.false_or,Bool.and_eq_true]at hok;exact⟨k+1,d,rfl,js,h1.ch hl, .linked (.link hd hok.1 hil htm hok.2) hcn'⟩
   ·rw[<-h5 y];unfold ZbB Zdj
    cases (!(rn g.1 (j:Int)).2.2.2.2.2.2.1&&ZbZ ((g.2.2.2.2.1[j]?).getD (0,0,false,())).1 (d:Int))<;>rfl
   ·rw[<-h6];unfold Zdj
    cases (!(rn g.1 (j:Int)).2.2.2.2.2.2.1&&ZbZ ((g.2.2.2.2.1[j]?).getD (0,0,false,())).1 (d:Int))<;>rfl
 ·rintro ⟨g,z⟩ ⟨hz,h1,h2,h3,h4,h5,h6⟩;simp only at hz h1 h2 h3 h4 h5 h6;subst hz;rw[List.take_length]at h3;simp only[Zaw,cond_false];exact⟨_,rfl,h1,h2,h3,h4,h5,h6⟩
end Q
namespace Q
open Tr Go
open Option (bind_some)
variable {n:Zay}{s0 t0 w:Int}{V:List Int}{T:Int}
def Vst(n:Zay)(i m:Nat)(g:ScT):Prop:=((Zab n i m).2.2.2.2.1=true->LeA g.2.2.2.1 (Zab n i m).1.toNat (Zab n i m).2.1/\LeY g.2.2.2.1 (Zab n i m).1.toNat ((Zab n i m).2.1+(Zb2 n (Zab n i m).1).2.2.2.1)/\
 ∀p∈n.2.2.2.2.1,Wlk (Zab n i m).1 (Zab n i m).2.1 g.2.2.2.1 p)/\ZuL n i m g
theorem Vst.mono{i m:Nat}{g h:ScT}(y:Stp n V T g h)(z:Vst n i m g):Vst n i m h:=
 ⟨fun e=>let ⟨a,b,c⟩:=z.1 e;⟨y.arr _ _ a,y.rdy _ _ b,fun p hp=>(c p hp).mono y⟩,z.2.mono y⟩
def RC(n:Zay)(f:ScT):Prop:= ∀ (s:Nat) p,f.2.2.2.1[s]? =some p->p.2.1≠ -1-> ∀q∈n.2.2.2.2.1,Wlk (s:Int) p.2.1 f.2.2.2.1 q
theorem RC.step{f g:ScT}(h:RC n f)(y:Stp n V T f g)(hr: ∀j,ZbB g j=ZbB f j):RC n g:=by
 intro s p hp hne q hq;have hs:=(List.getElem?_eq_some_iff.1 hp).1;have hsf:s<f.2.2.2.1.length:=by rw[<-y.pl];exact hs
 have e:=hr s;unfold ZbB at e;rw[hp,Zak hsf]at e;simp only[Option.getD_some]at e;rw[e]at hne ⊢;exact(h s _ (List.getElem?_eq_getElem hsf) hne q hq).mono y
def ZgS(f:ScT)(i:Nat)(a:Int):ScT:=(f.1,f.2.1,f.2.2.1,f.2.2.2.1.modify i fun p=>(p.1,a,p.2.2),f.2.2.2.2)
theorem ZrE(f:ScT){i:Nat}(hi:i<f.2.2.2.1.length){a:Int}(ha:0<=a)(hl:ZbZ (f.2.2.2.1[i]).2.1 a=true):Stp n V T f (ZgS f i a):=by
 have hp:Zj7 V (ZgS f i a).2.2.2.1=Zj7 V f.2.2.2.1:=by have:=Zia (fun p:Zer=>Zj5 V p.1+Zj5 V p.2.2.1) hi ((f.2.2.2.1[i]).1,a,(f.2.2.2.1[i]).2.2);unfold Zj7 ZgS;rw[Zci hi];simp only at this ⊢;omega
 refine⟨rfl,rfl,⟨[],by simp [ZgS]⟩,by simp [ZgS],rfl,rfl,fun s t h=> ?_,fun s t h=> ?_,fun s t h=> ?_,fun _ _ h=>h,fun h=>h, .inr ⟨fun s t h=> ?_,fun s t h=> ?_,fun _ _ h=>h⟩,fun s t _ h=> ?_,fun _ _ _ _ _ h=>h, ?_,fun a b=> ?_⟩
 ·exact Zes (P:=fun p=>p.1≠ -1/\p.1<=t) (fun p hp=>hp) h
 ·obtain⟨p,h1,h2⟩:=h;by_cases e:i=s
  ·subst e;refine⟨_,Zc1 h1 _, ?_⟩;rw[List.getElem?_eq_getElem hi]at h1;cases h1;have:=ZbW.1 hl;simp only;omega
  ·exact⟨p,(Zez e _).trans h1,h2⟩
 ·exact Zes (P:=fun p=>p.2.2.1≠ -1/\p.2.2.1<=t) (fun p hp=>hp) h
 ·exact Zco (g:=fun p=>(p.1,a,p.2.2)) (P:=fun p=>p.1≠ -1/\p.1<=t) (fun p _ hp=>hp) h
 ·exact Zco (g:=fun p=>(p.1,a,p.2.2)) (P:=fun p=>p.2.2.1≠ -1/\p.2.2.1<=t) (fun p _ hp=>hp) h
 ·exact Zco (g:=fun p=>(p.1,a,p.2.2)) (P:=fun p=>p.2.2.1≠ -1/\p.2.2.1<=t) (fun p _ hp=>hp) h
 ·show Zj7 V (ZgS f i a).2.2.2.1+Zml f.2.2.2.2.1<=_;rw[hp];exact Nat.le_refl _
 ·have b' :f.2.2.2.2.2.2.1=true:=b;rename_i a';rw[a]at b';cases b'
theorem Snd.ride{D:Zlu->List ZaM->Prop}{f:ScT}(h:Snd D f){i:Nat}{a:Int}(ha: ∃k js,D (.rid k (i:Int) a) js):Snd D (ZgS f i a):=by
 refine⟨fun s q hq=> ?_,h.brd⟩;obtain⟨p,hp,⟨rfl,rfl⟩ | ⟨_,rfl⟩⟩:=Zc0 hq
 ·exact⟨(h.pls i p hp).arr,fun _=>ha,(h.pls i p hp).rdy⟩
 ·exact h.pls s _ hp
structure SI (n:Zay) (s0 t0 w:Int) (f:ScT):Prop where
 net:f.1=n
 pl:f.2.2.2.1.length=n.1.length
 rl:f.2.2.2.2.1.length=n.2.2.1.length
 out:Zud n f.2.2.2.2.2.1
 snd:Snd (Der n s0 t0 w) f
 rc:RC n f
theorem SI.step{f g:ScT}(h:SI n s0 t0 w f)(y:Stp n V T f g)(hs:Snd (Der n s0 t0 w) g)(hr:RC n g):SI n s0 t0 w g:=
 ⟨y.net.trans h.net,y.pl.trans h.pl,y.rl.trans h.rl,by rw[y.lks];exact h.out,hs,hr⟩
theorem Zra(C:Ctx n s0 t0 w)(hp:n.2.2.2.2.1.length<=4096){f:ScT}(hI:SI n s0 t0 w f)(hl:f.2.2.1.length+4096<4000000000){s:Nat}(hs:s<n.1.length){a l:Int}{k:Nat}{js:List ZaM}(ha:0<=a/\a<=3155932800)(hT:T<=a)(hVa:a∈V)(hVr:a+(Zb2 n (s:Int)).2.2.2.1∈V)(hVw: ∀p∈n.2.2.2.2.1,a+p.2.2.1∈V)
  (hch:Ch f.2.2.1 l js) (hd:Der n s0 t0 w (.rid k (s:Int) a) js):
  ∃g,(Option.bind (inb (s:Int) (List.length f.2.2.2.1)) fun x16=>
   Option.bind (idx f.1.1 (s:Int)) fun x17=>
   Option.bind (F119 f (s:Int) a (IntKind.wrap .i64 (a+x17.2.2.2.1)) l) fun x18=>
   Option.bind (Option.bind x18.2.2.2.1[x16]? fun x19=>
    bif decide (x19.2.1=(-1:Int)) then some true
    else Option.bind x18.2.2.2.1[x16]? fun x20=>some (decide (a<x20.2.1))) fun x21=>
   Option.bind (bif x21 then
    Option.bind x18.2.2.2.1[x16]? fun x22=>
    Option.bind (F122 (x18.1,x18.2.1,x18.2.2.1,List.set x18.2.2.2.1 x16 (x22.1,a,x22.2.2),x18.2.2.2.2.1,x18.2.2.2.2.2.1,x18.2.2.2.2.2.2.1,()) (s:Int) a l) fun x23=>some x23
    else some x18) fun x24=>some x24)=some g/\Stp n V T f g/\SI n s0 t0 w g/\g.2.2.1.length<=f.2.2.1.length+n.2.2.2.2.1.length/\
   (LeA g.2.2.2.1 s a/\LeY g.2.2.2.1 s (a+(Zb2 n (s:Int)).2.2.2.1)/\ ∀p∈n.2.2.2.2.1,Wlk (s:Int) a g.2.2.2.1 p):=by
 have hcg:=C.net.change (s:Int) (by omega) (by omega);have hsl:s<f.2.2.2.1.length:=by rw[hI.pl];exact hs
 have hst:idx f.1.1 (s:Int)=some (Zb2 n (s:Int)):=by rw[hI.net];exact(ZcP C.net.sound (by omega) (by omega)).1
 have w1:IntKind.wrap .i64 (a+(Zb2 n (s:Int)).2.2.2.1)=a+(Zb2 n (s:Int)).2.2.2.1:=Zaj (by omega) (by omega);simp only[ZaH hsl,bind_some,hst,w1];rw[Zfu f hsl];simp only[bind_some];have hr0:0<=a+(Zb2 n (s:Int)).2.2.2.1:=by omega
 have m1:=ZjS (n:=n) (T:=T) f hsl ha.1 hr0 (by omega) hVa hVr l;have n1:=Zmy hsl ha.1 hr0 l;have s1:=hI.snd.imp (i:=s) (l:=l) ⟨k,js,hch, .arrR hd⟩ ⟨k,js,hch, .change hd⟩;have r1:=hI.rc.step m1 (Zhj f s a _ l);have I1:=hI.step m1 s1 r1;have hlab: (Zj0 f s a (a+(Zb2 n (s:Int)).2.2.2.1) l).2.2.1=f.2.2.1:=rfl;generalize Zj0 f s a (a+(Zb2 n (s:Int)).2.2.2.1) l=g at*;have hsg:s<g.2.2.2.1.length:=by rw[m1.pl];exact hsl
 simp only[List.getElem?_eq_getElem hsg,bind_some];rw[Zf2];simp only[bind_some]
 cases hls:ZbZ (g.2.2.2.1[s]).2.1 a with
 |false=>
  simp only[cond_false,bind_some];have hno:=ZlS hls;refine⟨_,rfl,m1,I1,by rw[hlab];omega,n1.1,n1.2,fun p hp' => ?_⟩
  exact(r1 s _ (List.getElem?_eq_getElem hsg) hno.1 p hp').weak hno.2
 |true=>
  simp only[cond_true,bind_some]
  have e: (g.1,g.2.1,g.2.2.1,g.2.2.2.1.set s ((g.2.2.2.1[s]).1,a,(g.2.2.2.1[s]).2.2),g.2.2.2.2.1,g.2.2.2.2.2.1,g.2.2.2.2.2.2.1,())=ZgS g s a:=by unfold ZgS;rw[Zci hsg]
  rw[e];have m2:=ZrE (n:=n) (V:=V) (T:=T) g hsg ha.1 hls;have s2:=s1.ride (i:=s) (a:=a) ⟨k,js,hd⟩;have hgl: (ZgS g s a).2.2.1=f.2.2.1:=hlab;obtain⟨h,w1,w2,w3,w4,w5,w6⟩:=Zq4 C (V:=V) (T:=T) (s:=(s:Int)) (t:=a) (prev:=l) (m2.net.trans I1.net) (m2.pl.trans I1.pl) hp ha hT hVw (by rw[hgl];exact hl) (fun q hq e1 e2=>⟨.arrV hd hq e1 e2, .rdyV hd hq e1 e2⟩) s2 (by rw[hgl];exact hch);rw[w1];simp only[bind_some];have m3:=m2.trans w2
  have hrc:RC n h:=by
   intro y p hy hne q hq;have hyl:=(List.getElem?_eq_some_iff.1 hy).1;have hyg:y<g.2.2.2.1.length:=by rw[<-m3.pl];exact hyl
   have e1:=w6 y;unfold ZbB at e1;rw[hy]at e1;simp only[Option.getD_some]at e1;by_cases ey:s=y
   ·subst ey;have e2: (ZgS g s a).2.2.2.1[s]? =some ((g.2.2.2.1[s]).1,a,(g.2.2.2.1[s]).2.2):=Zc1 (List.getElem?_eq_getElem hsg) _;rw[e2]at e1;simp only[Option.getD_some]at e1;rw[e1];exact w4 q hq
   ·have e2: (ZgS g s a).2.2.2.1[y]? =some g.2.2.2.1[y]:=(Zez ey _).trans (List.getElem?_eq_getElem hyg);rw[e2]at e1;simp only[Option.getD_some]at e1;rw[e1]at hne ⊢;exact(r1 y _ (List.getElem?_eq_getElem hyg) hne q hq).mono m3
  refine⟨_,rfl,m1.trans m3,I1.step m3 w3 hrc,by rw[hgl]at w5;exact w5,m3.arr _ _ n1.1,m3.rdy _ _ n1.2,w4⟩
theorem ZtQ(C:Ctx n s0 t0 w)(hp:n.2.2.2.2.1.length<=4096){f:ScT}(hI:SI n s0 t0 w f)(hl:f.2.2.1.length+4097<4000000000){i m:Nat}(hi:i<n.2.2.1.length)(hm:m+1< (Zad n i).length)(hcn:Zbh n i=false)
  (hVa: (Zab n i (m+1)).2.1∈V) (hVr: (Zab n i (m+1)).2.1+(Zb2 n (Zab n i (m+1)).1).2.2.2.1∈V) (hVw: ∀p∈n.2.2.2.2.1,(Zab n i (m+1)).2.1+p.2.2.1∈V):
  ∃g,F121 f (Zim i (Zad n i) m)=some g/\Stp n V (Zab n i m).2.2.1 f g/\SI n s0 t0 w g/\g.2.2.1.length<=f.2.2.1.length+1+n.2.2.2.2.1.length/\
   ((Zab n i m).2.2.2.1=true->LeY f.2.2.2.1 (Zab n i m).1.toNat (Zab n i m).2.2.1->LeB g.2.2.2.2.1 i (m:Int))/\(LeB g.2.2.2.2.1 i (m:Int)->Vst n i (m+1) g):=by
 have hs1:=C.net.stop hi (show m<_ by omega);have hs2:=C.net.stop hi hm;have ht1:=C.net.time hi (show m<_ by omega);have ht2:=C.net.time hi hm
 have htt: (Zab n i m).2.2.1<=(Zab n i (m+1)).2.1:=by
  have ht:=C.net.sound.time _ (List.getElem_mem hi);have e:=ZaO hi;have hm' :=hm;rw[e]at hm';have h3:=(ht (m+1) hm').2.2.2 (by omega)
  have h4:Zab n i (m+1)=(n.2.2.1[i]).2.2.2.2.2.2.2.1[m+1]:=by unfold Zab cl;rw[Int.toNat_natCast,e,Zak hm']
  have h5:Zab n i m=(n.2.2.1[i]).2.2.2.2.2.2.2.1[m+1 - 1]:=by unfold Zab cl;rw[Int.toNat_natCast,e];exact Zak (show m<_ by omega) _
  rw[h4,h5];exact h3.2
 have hcon:Zim i (Zad n i) m=((i:Int),(m:Int),(Zab n i m).1,(Zab n i (m+1)).1,(Zab n i m).2.2.1,(Zab n i (m+1)).2.1,()):=rfl;rw[hcon];unfold F121;have e1:idx f.1.2.2.1 (i:Int)=some n.2.2.1[i]:=by rw[hI.net];exact Zah hi
 have hcl: (n.2.2.1[i]).2.2.2.2.2.2.2.1=Zad n i:=(ZaO hi).symm;have hm0:m< (Zad n i).length:=by omega
 have e2:idx (Zad n i) (m:Int)=some (Zab n i m):=by rw[Zah hm0,Zb9 hm0]
 have w1:IntKind.wrap .i64 ((m:Int)+1)=((m+1:Nat):Int):=by have:=(C.net.sound.many _ (List.getElem_mem hi)).2;rw[hcl]at this;rw[Zaj (by omega) (by omega)];omega
 have e3:idx (Zad n i) ((m+1:Nat):Int)=some (Zab n i (m+1)):=by rw[Zah hm,Zb9 hm]
 obtain⟨s,hs⟩: ∃s:Nat,(Zab n i m).1=(s:Int):=⟨(Zab n i m).1.toNat,by omega⟩;have hsl:s<f.2.2.2.1.length:=by rw[hI.pl];omega
 have hir:i<f.2.2.2.2.1.length:=by rw[hI.rl];exact hi
 simp only[e1,bind_some,hs,ZaH hsl,List.getElem?_eq_getElem hsl,hcl,e2,w1,e3,Int.toNat_natCast];have hsp:=hI.snd.pls s _ (List.getElem?_eq_getElem hsl)
 have hYf: ∀t,LeY f.2.2.2.1 s t->(f.2.2.2.1[s]).2.2.1≠ -1/\(f.2.2.2.1[s]).2.2.1<=t:=by rintro t ⟨p,h1,h2⟩;rw[List.getElem?_eq_getElem hsl]at h1;cases h1;exact h2
 generalize f.2.2.2.1[s]=p at*
 have ec: (bif (Zab n i m).2.2.2.1 then bif !decide (p.2.2.1=(-1:Int)) then some (decide (p.2.2.1<=(Zab n i m).2.2.1)) else some false else some false)=some ((Zab n i m).2.2.2.1&& (!decide (p.2.2.1=(-1:Int)) &&decide (p.2.2.1<=(Zab n i m).2.2.1))):=by
  cases (Zab n i m).2.2.2.1<;>cases decide (p.2.2.1=(-1:Int))<;>rfl
 rw[ec];simp only[bind_some]
 have hb: ∃g,(bif (Zab n i m).2.2.2.1&& (!decide (p.2.2.1=(-1:Int)) &&decide (p.2.2.1<=(Zab n i m).2.2.1)) then Option.bind (F117 f (i:Int) ((m:Int),p.2.2.2.2.1,false,())) fun x5=>some x5 else some f)=some g/\
   Stp n V (Zab n i m).2.2.1 f g/\SI n s0 t0 w g/\g.2.2.1=f.2.2.1/\((Zab n i m).2.2.2.1=true->LeY f.2.2.2.1 s (Zab n i m).2.2.1->LeB g.2.2.2.2.1 i (m:Int)):=by
  cases hc: ((Zab n i m).2.2.2.1&& (!decide (p.2.2.1=(-1:Int)) &&decide (p.2.2.1<=(Zab n i m).2.2.1))) with
  |false=>
   refine⟨f,rfl,Stp.refl f,hI,rfl,fun a b=> ?_⟩;have:=hYf _ b;rw[a,decide_eq_false this.1,decide_eq_true this.2]at hc
   cases hc
  |true=>
   rw[Bool.and_eq_true,Bool.and_eq_true,Bool.not_eq_true',decide_eq_false_iff_not,decide_eq_true_eq]at hc;simp only[cond_true];rw[Zk4 f (by rw[hI.net];exact hi) (by rw[hI.rl,hI.net])];simp only[bind_some];have hst:=ZkV (V:=V) (T:=(Zab n i m).2.2.1) C.net f hi hir hm0 (Int.le_refl _) p.2.2.2.2.1 false;obtain⟨k,js,hch,hd⟩:=hsp.rdy hc.2.1;have hsn:=hI.snd.board (i:=i) (b:=((m:Int),p.2.2.2.2.1,false,())) fun _=>fun _=>⟨k+1,m,rfl,js,hch, .board hd hi hm0 hcn hs hc.1 hc.2.2⟩
   have hrd: ∀j,ZbB (Zdj f i ((m:Int),p.2.2.2.2.1,false,())) j=ZbB f j:=by
    intro j;unfold ZbB Zdj
    cases (!(rn f.1 (i:Int)).2.2.2.2.2.2.1&&ZbZ ((f.2.2.2.2.1[i]?).getD (0,0,false,())).1 (m:Int))<;>rfl
   refine⟨_,rfl,hst,hI.step hst hsn (hI.rc.step hst hrd),Zi5 ..,fun _ _=> ?_⟩;exact Zli hir (b:=((m:Int),p.2.2.2.2.1,false,())) (by show (0:Int)<=(m:Int);omega) (by rw[hI.net];exact hcn)
 obtain⟨f6,b1,b2,b3,b4,b5⟩:=hb;rw[b1];simp only[bind_some];have hir6:i<f6.2.2.2.2.1.length:=by rw[b3.rl];exact hi
 simp only[ZaH hir6,bind_some,List.getElem?_eq_getElem hir6];have hsb:=b3.snd.brd i _ (List.getElem?_eq_getElem hir6)
 have hLB:LeB f6.2.2.2.2.1 i (m:Int)->(f6.2.2.2.2.1[i]).1≠ -1/\(f6.2.2.2.2.1[i]).1<=(m:Int):=by rintro ⟨x,h1,h2⟩;rw[List.getElem?_eq_getElem hir6]at h1;cases h1;exact h2
 generalize f6.2.2.2.2.1[i]=b at*;by_cases c1:b.1= -1
 ·rw[decide_eq_true c1];exact⟨_,rfl,b2,b3,by rw[b4];omega,b5,fun e=>absurd c1 (hLB e).1⟩
 by_cases c2: (m:Int)<b.1
 ·rw[decide_eq_false c1,decide_eq_true c2];exact⟨_,rfl,b2,b3,by rw[b4];omega,b5,fun e=>absurd (hLB e).2 (Int.not_le.2 c2)⟩
 rw[decide_eq_false c1,decide_eq_false c2];simp only[cond_false,bind_some];obtain⟨k,c,hc,js,hch,hd⟩:=hsb c1;obtain⟨bc,prev,st,u⟩:=b;simp only at hc hch hd c1 c2;subst hc;have hon:=Der.on hd (show c<m+1 by omega) hm;have hcc:c< (Zad n i).length:=by omega
 have e4:idx (Zad n i) (c:Int)=some (Zab n i c):=by rw[Zah hcc,Zb9 hcc]
 have hio:i<f6.2.2.2.2.2.1.length:=by rw[b3.out.1];exact hi
 obtain⟨hkl,hks⟩:=b3.out.2 i _ (List.getElem?_eq_getElem hio)
 have ec2: (bif !(Zab n i (m+1)).2.2.2.2.1 then Option.bind (idx f6.2.2.2.2.2.1 (i:Int)) fun x11=>some (decide ((x11.length:Int)=(0:Int))) else some false)=some (!(Zab n i (m+1)).2.2.2.2.1&&decide (f6.2.2.2.2.2.1[i].length=0)):=by
  rw[Zah hio];simp only[bind_some];rw[show decide (((f6.2.2.2.2.2.1[i]).length:Int)=0)=decide ((f6.2.2.2.2.2.1[i]).length=0) from decide_eq_decide.2 (by omega)]
  cases (Zab n i (m+1)).2.2.2.2.1<;>rfl
 rw[ec2];simp only[bind_some]
 cases hskip: (!(Zab n i (m+1)).2.2.2.2.1&&decide (f6.2.2.2.2.2.1[i].length=0)) with
 |true=>
  simp only[cond_true];rw[Bool.and_eq_true,Bool.not_eq_true',decide_eq_true_eq]at hskip;refine⟨_,rfl,b2,b3,by rw[b4];omega,b5,fun _=>⟨fun e=>(by rw[hskip.1]at e;cases e),fun j d sx a _ _ _=> ?_⟩⟩;exfalso;obtain⟨x,x1,x2⟩:=ZmP a;have hx:=(hks x).2 ⟨x1,by rw[x2]⟩;rw[List.length_eq_zero_iff.1 hskip.2]at hx
  cases hx
 |false=>
  simp only[cond_false,e4,bind_some];rw[Zp8 f6 (by rw[b4];omega)];simp only[bind_some];have hx: ((true,(i:Int),(c:Int),((m+1:Nat):Int),(Zab n i c).1,(Zab n i (m+1)).1,(Zab n i c).2.2.1,(Zab n i (m+1)).2.1,st,()):ZaM)=Zdf n i c (m+1) st:=rfl;rw[hx];have hnew:=hch.new (Zdf n i c (m+1) st);generalize Zdf n i c (m+1) st=x at*;have a7:=ZlT (n:=n) (V:=V) (T:=(Zab n i m).2.2.1) f6 x prev;have I7:SI n s0 t0 w (ZoW f6 x prev):=b3.step a7 (b3.snd.add x prev) b3.rc;have hl7: (ZoW f6 x prev).2.2.1.length=f.2.2.1.length+1:=by show (f6.2.2.1++[(x,prev,())]).length=_;rw[b4];simp
  have hch7:Ch (ZoW f6 x prev).2.2.1 (f6.2.2.1.length:Int) (js++[x]):=hnew;generalize ZoW f6 x prev=f7 at*;generalize (f6.2.2.1.length:Int)=l at*;obtain⟨s',hs'⟩: ∃s' :Nat,(Zab n i (m+1)).1=(s' :Int):=⟨(Zab n i (m+1)).1.toNat,by omega⟩
  have hal: ∃g,(bif (Zab n i (m+1)).2.2.2.2.1 then(Option.bind (inb (s' :Int) (List.length f7.2.2.2.1)) fun x16=>
   Option.bind (idx f7.1.1 (s' :Int)) fun x17=>
   Option.bind (F119 f7 (s' :Int) (Zab n i (m+1)).2.1 (IntKind.wrap .i64 ((Zab n i (m+1)).2.1+x17.2.2.2.1)) l) fun x18=>
   Option.bind (Option.bind x18.2.2.2.1[x16]? fun x19=>
    bif decide (x19.2.1=(-1:Int)) then some true
    else Option.bind x18.2.2.2.1[x16]? fun x20=>some (decide ((Zab n i (m+1)).2.1<x20.2.1))) fun x21=>
   Option.bind (bif x21 then
    Option.bind x18.2.2.2.1[x16]? fun x22=>
    Option.bind (F122 (x18.1,x18.2.1,x18.2.2.1,List.set x18.2.2.2.1 x16 (x22.1,(Zab n i (m+1)).2.1,x22.2.2),x18.2.2.2.2.1,x18.2.2.2.2.2.1,x18.2.2.2.2.2.2.1,()) (s' :Int) (Zab n i (m+1)).2.1 l) fun x23=>some x23
    else some x18) fun x24=>some x24) else some f7)=some g/\Stp n V (Zab n i m).2.2.1 f7 g/\SI n s0 t0 w g/\g.2.2.1.length<=f7.2.2.1.length+n.2.2.2.2.1.length/\
    ((Zab n i (m+1)).2.2.2.2.1=true->LeA g.2.2.2.1 s' (Zab n i (m+1)).2.1/\LeY g.2.2.2.1 s' ((Zab n i (m+1)).2.1+(Zb2 n (s' :Int)).2.2.2.1)/\ ∀p∈n.2.2.2.2.1,Wlk (s' :Int) (Zab n i (m+1)).2.1 g.2.2.2.1 p):=by
   cases hA: (Zab n i (m+1)).2.2.2.2.1 with
   |false=>exact⟨f7,rfl,Stp.refl f7,I7,by omega,fun e=>nomatch e⟩
   |true=>
    have hd' :=Der.ride hon hA;rw[hs']at hd' hVr;obtain⟨g,g1,g2,g3,g4,g5⟩:=Zra C hp I7 (by rw[hl7];omega) (s:=s') (by omega) (a:=(Zab n i (m+1)).2.1) (l:=l) (T:=(Zab n i m).2.2.1) (V:=V) (by omega) htt hVa hVr hVw hch7 hd';exact⟨g,g1,g2,g3,g4,fun _=>g5⟩
  obtain⟨g,g1,g2,g3,g4,g5⟩:=hal;rw[hs'];erw[g1];simp only[bind_some];obtain⟨h,h1,h2,h3,h4,h5,h6,h7⟩:=ZpG C (V:=V) (T:=(Zab n i m).2.2.1) g3.net g3.rl g3.out g3.snd (g2.ch hch7) hon htt;rw[h1];simp only[bind_some];have hall:=(b2.trans a7).trans (g2.trans h2);refine⟨_,rfl,hall,g3.step h2 h3 (g3.rc.step h2 h6),by rw[h5];omega,fun a b=>((a7.trans g2).trans h2).brd _ _ (b5 a b),fun _=>⟨fun hA=> ?_,h4⟩⟩;obtain⟨y1,y2,y3⟩:=g5 hA;rw[hs',Int.toNat_natCast,h7];exact⟨y1,y2,y3⟩
end Q
namespace Q
open Tr Go
open Option (bind_some)
variable {n:Zay}{s0 t0 w:Int}
structure Zo3 (n:Zay):Prop where
 stops:n.1.length<=8
 runs:n.2.2.1.length<=12
 paths:n.2.2.2.2.1.length<=100
 calls: (n.2.2.1.map fun r=>r.2.2.2.2.2.2.2.1.length).sum<=60
def Zug(n:Zay)(c:ZbD):List Int:=c.2.1::(c.2.1+(Zb2 n c.1).2.2.2.1)::n.2.2.2.2.1.map fun p=>c.2.1+p.2.2.1
def Zii(n:Zay)(t0 w:Int):List Int:=t0::(t0+w)::(n.2.2.2.2.1.map fun p=>t0+p.2.2.1)++n.2.2.1.flatMap fun r=>r.2.2.2.2.2.2.2.1.flatMap (Zug n)
theorem ZnD{α β:Type}(f:α->List β)(k:Nat): ∀ (l:List α),(∀x∈l,(f x).length<=k)->(l.flatMap f).length<=l.length*k
 | [],_=>by simp
 |a::l,h=>by have h1:=h a (by simp);have h2:=ZnD f k l (fun x hx=>h x (by simp [hx]));rw[List.flatMap_cons,List.length_append,List.length_cons,Nat.succ_mul];omega
theorem ZnJ{α β:Type}(f:α->List β)(g:α->Nat): ∀ (l:List α),(∀x∈l,(f x).length<=g x)->(l.flatMap f).length<=(l.map g).sum
 | [],_=>by simp
 |a::l,h=>by have h1:=h a (by simp);have h2:=ZnJ f g l (fun x hx=>h x (by simp [hx]));rw[List.flatMap_cons,List.length_append,List.map_cons,List.sum_cons];omega
theorem Zo7{α:Type}(g:α->Nat)(k:Nat): ∀ (l:List α),(l.map fun x=>g x*k).sum=(l.map g).sum*k
 | []=>by simp
 |a::l=>by simp only[List.map_cons,List.sum_cons];rw[Zo7 g k l,Nat.add_mul]
theorem ZrN(h:Zo3 n): (Zii n t0 w).length<=6222:=by
 have h3:=h.paths;have h4:=h.calls;unfold Zii;rw[List.length_append,List.length_cons,List.length_cons,List.length_map]
 have: (n.2.2.1.flatMap fun r=>r.2.2.2.2.2.2.2.1.flatMap (Zug n)).length<=(n.2.2.1.map fun r=>r.2.2.2.2.2.2.2.1.length*102).sum:=by refine ZnJ _ _ _ fun r _=>ZnD _ 102 _ fun c _=> ?_;unfold Zug;simp only[List.length_cons,List.length_map];omega
 rw[Zo7]at this;omega
theorem ZhA{i m:Nat}(hi:i<n.2.2.1.length)(hm:m< (Zad n i).length){v:Int}(hv:v∈Zug n (Zab n i m)):v∈Zii n t0 w:=by unfold Zii;refine List.mem_append_right _ (List.mem_flatMap.2 ⟨_,List.getElem_mem hi,List.mem_flatMap.2 ⟨Zab n i m, ?_,hv⟩⟩);rw[Zb9 hm];have e:=ZaO hi;simp only[<-e];exact List.getElem_mem hm
def Cls(n:Zay)(i m:Nat)(g:ScT):Prop:=((Zab n i m).2.2.2.1=true->LeY g.2.2.2.1 (Zab n i m).1.toNat (Zab n i m).2.2.1->LeB g.2.2.2.2.1 i (m:Int))/\(LeB g.2.2.2.2.1 i (m:Int)->Vst n i (m+1) g)
variable {V:List Int}{T:Int}
theorem Cls.late{i m:Nat}(hi:i<n.2.2.1.length)(hm:m< (Zad n i).length){f g:ScT}(h:Cls n i m f)(y:Stp n V T f g)(hT: (Zab n i m).2.2.1<T):Cls n i m g:=
 ⟨fun a b=>y.brd _ _ (h.1 a (y.late _ _ hT b)),fun a=>(h.2 (y.lateB i m hi hm hT a)).mono y⟩
theorem Cls.same{i m:Nat}{f g:ScT}(h:Cls n i m f)(y:Stp n V T f g)(hs:Zro f g):Cls n i m g:=
 ⟨fun a b=>y.brd _ _ (h.1 a (hs.rdy _ _ b)),fun a=>(h.2 (hs.brd _ _ a)).mono y⟩
abbrev Zll:=Int×Int×Int×Int×Int×Int×Unit
def ZjP(n:Zay)(c:Zll)(i m:Nat):Prop:=i<n.2.2.1.length/\m+1< (Zad n i).length/\Zbh n i=false/\c=Zim i (Zad n i) m
theorem ZrD{c:Zll}(h:c∈Zin n n.2.2.1.length): ∃i m,ZjP n c i m:=by obtain⟨i,hi,hc,k,hk,e⟩:=Zsa h;have e' :=ZaO hi;rw[<-e']at hk e;refine⟨i,k,hi,hk, ?_,e⟩;unfold Zbh rn;rw[Int.toNat_natCast,Zak hi];exact hc
theorem ZtI    (C : Ctx n s0 t0 w)(hZ : Zo3  n)(L : List Zll   )(hL : ∀ c ∈ L, ∃ i m, ZjP   n c i m /\ (Zab    n i m).2.2.1 = T)(hLl : L.length <= 60){f : ScT}(hI : SI n s0 t0 w f)(hl : f.2.2.1.length + 20000 < 4000000000) :
    ∃ g, run (fun s8 : ScT × Int => bif decide (s8.2 < (↑(List.length L) : Int)) then
        Option.bind (idx L s8.2) fun x9 => Option.bind (F121 s8.1 x9) fun x10 => some (.inl (x10, IntKind.wrap .i64 (s8.2 + (1 : Int))))
      else some (.inr s8.1)) (f, (0 : Int)) = some g /\ Stp n (Zii  n t0 w) T f g /\ SI n s0 t0 w g /\ g.2.2.1.length <= f.2.2.1.length + 6060 /\
      (g.2.2.2.2.2.2.1 = false -> ∀ c ∈ L, ∀ i m, ZjP   n c i m -> Cls n i m g) := by
  have hp := hZ.paths;have hmul : L.length * (1 + n.2.2.2.2.1.length) <= 60 * 101 := Nat.mul_le_mul hLl (by omega)
  suffices hsuf : ∃ g, run (fun s8 : ScT × Int => bif decide (s8.2 < (↑(List.length L) : Int)) then
        Option.bind (idx L s8.2) fun x9 => Option.bind (F121 s8.1 x9) fun x10 => some (.inl (x10, IntKind.wrap .i64 (s8.2 + (1 : Int))))
      else some (.inr s8.1)) (f, (0 : Int)) = some g /\ (Stp n (Zii  n t0 w) T f g /\ SI n s0 t0 w g /\ g.2.2.1.length <= f.2.2.1.length + L.length * (1 + n.2.2.2.2.1.length) /\
      (g.2.2.2.2.2.2.1 = false -> ∀ c ∈ L, ∀ i m, ZjP   n c i m -> Cls n i m g)) by
    obtain ⟨g, g1, g2, g3, g4, g5⟩ := hsuf;exact ⟨g, g1, g2, g3, by omega, g5⟩
  refine ZaX     L.length _ (fun k (st : ScT × Int) => st.2 = (k : Int) /\ Stp n (Zii  n t0 w) T f st.1 /\ SI n s0 t0 w st.1 /\ st.1.2.2.1.length <= f.2.2.1.length + k * (1 + n.2.2.2.2.1.length) /\
      (st.1.2.2.2.2.2.2.1 = false -> ∀ c ∈ L.take k, ∀ i m, ZjP   n c i m -> Cls n i m st.1)) ?_ ?_ _ ⟨rfl, Stp.refl f, hI, by simp, fun _ => by simp⟩
  · rintro k ⟨g, j⟩ hk ⟨hj, h1, h2, h3, h4⟩
    simp only at hj h1 h2 h3 h4;subst hj;left;simp only [Zax    hk, cond_true, Zah     hk, bind_some, Zal       hk (show _ <= 9223372036854775807 by omega)];obtain ⟨i, m, hcon, hT⟩ := hL _ (List.getElem_mem hk);have hcon' := hcon;obtain ⟨hi, hm, hcn, hc⟩ := hcon';rw [List.take_succ_eq_append_getElem hk];have hkm : k * (1 + n.2.2.2.2.1.length) <= 60 * 101 := Nat.mul_le_mul (by omega) (by omega);generalize L[k] = c at *;subst hc;obtain ⟨h, r1, r2, r3, r4, r5, r6⟩ := ZtQ     (V := Zii  n t0 w) C (by omega) h2 (by omega) hi hm hcn (ZhA       hi hm (by unfold Zug ; simp)) (ZhA       hi hm (by unfold Zug ; simp)) (fun p hp' => ZhA       hi hm (List.mem_cons_of_mem _ (List.mem_cons_of_mem _ (List.mem_map.2 ⟨p, hp', rfl⟩))))
    rw [r1];rw [hT]at r2;refine ⟨_, rfl, rfl, h1.trans r2, r3, ?_, fun hmv c' hc' i' m' hcon' => ?_⟩
    · rw [Nat.succ_mul]
      simp only;omega
    · have hmg : g.2.2.2.2.2.2.1 = false := by
        cases e : g.2.2.2.2.2.2.1 with
        | false => rfl
        | true => have := r2.mvd e; rw [hmv]at this; cases this
      have hsm : Zro  g h := r2.same.resolve_left (by rw [hmv]; simp);rcases List.mem_append.1 hc' with hc' | hc'
      · exact (h4 hmg c' hc' i' m' hcon').same r2 hsm
      · simp only [List.mem_singleton]at hc'
        subst hc';obtain ⟨_, _, _, e⟩ := hcon'
        have e1 : i' = i /\ m' = m := by unfold Zim   at e;simp only [Prod.mk.injEq, Int.natCast_inj]at e;exact ⟨e.1.symm, e.2.1.symm⟩
        obtain ⟨rfl, rfl⟩ := e1;exact ⟨fun a b => r5 a (hsm.rdy _ _ b), r6⟩
  · rintro ⟨g, j⟩ ⟨hj, h1, h2, h3, h4⟩
    simp only at hj h1 h2 h3 h4;subst hj;rw [List.take_length]at h4;simp only [Zaw    , cond_false];exact ⟨_, rfl, h1, h2, h3, h4⟩
end Q
namespace Q
open Tr Go
open Option (bind_some)
variable {n:Zay}{s0 t0 w:Int}
def Bas(n:Zay)(s0 t0 w:Int)(g:ScT):Prop:=LeA g.2.2.2.1 s0.toNat t0/\LeY g.2.2.2.1 s0.toNat (t0+w)/\ ∀p∈n.2.2.2.2.1,Wlk s0 t0 g.2.2.2.1 p
theorem Bas.mono{V:List Int}{T:Int}{f g:ScT}(h:Bas n s0 t0 w f)(y:Stp n V T f g):Bas n s0 t0 w g:=⟨y.arr _ _ h.1,y.rdy _ _ h.2.1,fun p hp=>(h.2.2 p hp).mono y⟩
theorem Zm0(n:Zay): ∀k,k<=n.2.2.1.length->(Zin n k).length<=((n.2.2.1.take k).map fun r=>r.2.2.2.2.2.2.2.1.length).sum
 |0,_=>by simp [Zin]
 |k+1,h=>by
  have ih:=Zm0 n k (by omega);rw[Zig,List.take_succ_eq_append_getElem (show k<_ by omega),List.length_append,List.map_append,List.sum_append,Zak (show k<_ by omega)]
  have: (ZoY k n.2.2.1[k]).length<=(n.2.2.1[k]).2.2.2.2.2.2.2.1.length:=by
   unfold ZoY;split
   ·simp
   ·unfold Zlx;simp
  simp only[List.map_cons,List.map_nil,List.sum_cons,List.sum_nil];omega
noncomputable def ZfL(ys:List Zll)(s4:ScT×Int):Option ((ScT×Int) ⊕ ScT):=
 bif decide (s4.2< (↑(List.length ys):Int)) then
 Option.bind (idx ys s4.2) fun x5=>
 Option.bind (F7 ys x5.2.2.2.2.1) fun x6=>
 Option.bind (sliceB (List.length ys) (List.length ys) (some s4.2) (some x6)) fun x7=>
 Option.bind
 (run
 (fun s8:ScT×Int=>
 bif decide (s8.2< (↑(List.length (List.take (x7.2 - x7.1) (List.drop x7.1 ys))):Int)) then
 Option.bind (idx (List.take (x7.2 - x7.1) (List.drop x7.1 ys)) s8.2) fun x9=>
 Option.bind (F121 s8.1 x9) fun x10=>
 some (.inl (x10,IntKind.wrap .i64 (s8.2+(1:Int))))
 else some (.inr s8.1))
 ((s4.1.1,s4.1.2.1,s4.1.2.2.1,s4.1.2.2.2.1,s4.1.2.2.2.2.1,s4.1.2.2.2.2.2.1,false,()),(0:Int)))
 fun x11=>
 bif x11.2.2.2.2.2.2.1 then some (.inl (x11,s4.2)) else some (.inl (x11,x6))
 else some (.inr s4.1)
theorem ZtF(C:Ctx n s0 t0 w)(hZ:Zo3 n){ys:List Zll}(hys:ys.Perm (Zin n n.2.2.1.length))(hsort:ys.Pairwise ltC)(hlen:ys.length<=60): ∀ (μ:Nat) {s:ScT}{i:Nat},pot (Zii n t0 w) s+(ys.length - i)<=μ->i<=ys.length->SI n s0 t0 w s->Bas n s0 t0 w s->
  (∀j,j<i-> ∀k,i<=k->k<ys.length->Zip ys j<Zip ys k)->(∀c∈ys.take i, ∀a m,ZjP n c a m->Cls n a m s)->s.2.2.1.length+6060*μ+20000<4000000000->
  ∃g,run (ZfL ys) (s,(i:Int))=some g/\SI n s0 t0 w g/\Bas n s0 t0 w g/\(∀c∈ys, ∀a m,ZjP n c a m->Cls n a m g)/\g.2.2.1.length<4000000000:=by
 intro μ
 induction μ with
 |zero=>
  intro s i hμ hi hI hB _ hC hl;have:i=ys.length:=by omega
  subst this;refine⟨s,Zbu ?_,hI,hB,by rw[List.take_length]at hC;exact hC,by omega⟩;unfold ZfL
  simp only[Zaw,cond_false]
 |succ μ ih=>
  intro s i hμ hi hI hB hlt hC hl;by_cases hend:i=ys.length
  ·subst hend;refine⟨s,Zbu ?_,hI,hB,by rw[List.take_length]at hC;exact hC,by omega⟩;unfold ZfL;simp only[Zaw,cond_false]
  have hi' :i<ys.length:=by omega
  obtain⟨to,hto,hu,huk⟩:=ZpU hsort (by omega) (Zip ys i);have hdi:Zip ys i=(ys[i]).2.2.2.2.1:=by unfold Zip;rw[Zak hi']
  have hit:i<to:=(huk i hi').1 (Int.le_refl _)
  have hsl:sliceB ys.length ys.length (some (i:Int)) (some (to:Int))=some (i,to):=by unfold sliceB;simp only[if_pos (show (0:Int)<=(to:Int)/\(to:Int)<=(ys.length:Int) from ⟨by omega,by omega⟩),bind_some,Int.toNat_natCast];rw[if_pos (show (0:Int)<=(i:Int)/\(i:Int)<=(to:Int) from ⟨by omega,by omega⟩)]
  have hL: ∀c∈(ys.drop i).take (to - i), ∃a m,ZjP n c a m/\(Zab n a m).2.2.1=Zip ys i:=by
   intro c hc;obtain⟨j,hj,rfl⟩:=List.getElem_of_mem hc;rw[List.length_take,List.length_drop]at hj;have hjl:i+j<ys.length:=by omega
   have e: ((ys.drop i).take (to - i))[j]'(by rw[List.length_take,List.length_drop];exact hj)=ys[i+j]:=by rw[List.getElem_take,List.getElem_drop]
   rw[e];obtain⟨a,m,hcon⟩:=ZrD (hys.mem_iff.1 (List.getElem_mem hjl));refine⟨a,m,hcon, ?_⟩;have h1:Zip ys (i+j)=(ys[i+j]).2.2.2.2.1:=by unfold Zip;rw[Zak hjl]
   have h2: (ys[i+j]).2.2.2.2.1=(Zab n a m).2.2.1:=by rw[hcon.2.2.2];rfl
   have h3:Zip ys i<=Zip ys (i+j):=by
    by_cases e0:j=0
    ·subst e0;exact Int.le_refl _
    ·exact ZmE hsort (by omega) hjl
   have h4:=(huk (i+j) hjl).2 (by omega);omega
  have hLl: ((ys.drop i).take (to - i)).length<=60:=by rw[List.length_take,List.length_drop];omega
  have hI0:SI n s0 t0 w (s.1,s.2.1,s.2.2.1,s.2.2.2.1,s.2.2.2.2.1,s.2.2.2.2.2.1,false,()):=⟨hI.net,hI.pl,hI.rl,hI.out,⟨hI.snd.pls,hI.snd.brd⟩,hI.rc⟩;obtain⟨g,g1,g2,g3,g4,g5⟩:=ZtI C hZ ((ys.drop i).take (to - i)) hL hLl hI0 (by show s.2.2.1.length+20000<_;omega);have hlab:g.2.2.1.length<=s.2.2.1.length+6060:=g4;have hpot:pot (Zii n t0 w) g<=pot (Zii n t0 w) s:=g2.pot;have hB' :Bas n s0 t0 w g:=hB.mono (f:=s) (g:=g) (V:=Zii n t0 w) (T:=Zip ys i) |> fun _=>⟨g2.arr _ _ hB.1,g2.rdy _ _ hB.2.1,fun p hp=>(show Wlk s0 t0 g.2.2.2.1 p from fun a b=>⟨g2.arr _ _ (hB.2.2 p hp a b).1,g2.rdy _ _ (hB.2.2 p hp a b).2⟩)⟩
  have hold: ∀c∈ys.take i, ∀a m,ZjP n c a m->Cls n a m g:=by
   intro c hc a m hcon;have h0:=hC c hc a m hcon;obtain⟨j,hj,rfl⟩:=List.getElem_of_mem hc;rw[List.length_take]at hj;have hj' :j<i:=by omega
   have e: (ys.take i)[j]'(by rw[List.length_take];exact hj)=ys[j]'(by omega):=List.getElem_take;rw[e]at hcon
   have h1:Zip ys j=(Zab n a m).2.2.1:=by unfold Zip;rw[Zak (show j<ys.length by omega),hcon.2.2.2];rfl
   have h2:=hlt j hj' i (Nat.le_refl i) hi';exact Cls.late (f:=(s.1,s.2.1,s.2.2.1,s.2.2.2.1,s.2.2.2.2.1,s.2.2.2.2.2.1,false,())) hcon.1 (by have:=hcon.2.1;omega) h0 g2 (by omega)
  have hstep:ZfL ys (s,(i:Int))=if g.2.2.2.2.2.2.1=true then some (.inl (g,(i:Int))) else some (.inl (g,(to:Int))):=by
   unfold ZfL;simp only[Zax hi',cond_true,Zah hi',bind_some];rw[<-hdi,hu];simp only[bind_some,hsl];rw[g1];simp only[bind_some]
   cases g.2.2.2.2.2.2.1<;>rfl
  cases hmv:g.2.2.2.2.2.2.1 with
  |true=>
   rw[if_pos hmv]at hstep;rw[Zca hstep];have hfall:=g2.fall rfl hmv;have hfall' :pot (Zii n t0 w) g<pot (Zii n t0 w) s:=hfall
   exact ih (by omega) hi g3 hB' hlt hold (by omega)
  |false=>
   rw[if_neg (by rw[hmv];simp)]at hstep;rw[Zca hstep];refine ih (by omega) hto g3 hB' (fun j hj k hk hkl=> ?_) (fun c hc a m hcon=> ?_) (by omega)
   ·have h1:=(huk j (by omega)).2 hj;have h2: ¬Zip ys k<=Zip ys i:=fun e=>by have:=(huk k hkl).1 e;omega
    omega
   ·have e:ys.take to=ys.take i++(ys.drop i).take (to - i):=by rw[<-List.take_add,show i+(to - i)=to by omega]
    rw[e]at hc;rcases List.mem_append.1 hc with hc|hc
    ·exact hold c hc a m hcon
    ·exact g5 hmv c hc a m hcon
abbrev q11:Zer:=(-1, -1, -1, -1, -1,())
abbrev b00:Zlh:=(-1, -1,false,())
def Zuo(n:Zay)(k:Nat)(out:List (List Int)):Prop:=out.length=n.2.2.1.length/\ ∀ (i:Nat) ks,out[i]? =some ks->ks.length<=k/\ ∀x:Int,x∈ks↔(0<=x/\x< (k:Int))/\(lkI n x).1=(i:Int)
theorem Zp1{k:Nat}{out:List (List Int)}(h:Zuo n k out){a:Nat}(ha: (lkI n (k:Int)).1=(a:Int))(hl:a<out.length):Zuo n (k+1) (out.set a (out[a]++[(k:Int)])):=by
 refine⟨by rw[List.length_set];exact h.1,fun i ks hks=> ?_⟩
 have key: ∀ks' :List Int,out[a]? =some ks' ->(ks' ++[(k:Int)]).length<=k+1/\ ∀x:Int,x∈ks' ++[(k:Int)]↔(0<=x/\x< ((k+1:Nat):Int))/\(lkI n x).1=(a:Int):=by
  intro ks' hk';obtain⟨h1,h2⟩:=h.2 a _ hk';refine⟨by simp;exact h1,fun x=> ?_⟩;rw[List.mem_append,h2 x,List.mem_singleton];constructor
  ·rintro (⟨h3,h4⟩ |rfl)
   ·exact⟨by omega,h4⟩
   ·exact⟨by omega,ha⟩
  ·rintro ⟨h3,h4⟩;by_cases e:x=(k:Int)
   ·exact .inr e
   ·exact .inl ⟨by omega,h4⟩
 by_cases e:a=i
 ·subst e;rw[List.getElem?_set_self hl]at hks;cases hks;exact key _ (List.getElem?_eq_getElem hl)
 ·rw[List.getElem?_set_ne e]at hks;obtain⟨h1,h2⟩:=h.2 i ks hks;refine⟨by omega,fun x=> ?_⟩;rw[h2 x];constructor
  ·rintro ⟨h3,h4⟩;exact⟨by omega,h4⟩
  ·rintro ⟨h3,h4⟩;refine⟨⟨h3.1, ?_⟩,h4⟩;by_cases e' :x=(k:Int)
   ·subst e';omega
   ·omega
theorem Zrs{out:List (List Int)}(hl:n.2.2.2.1.length<=1024)(h:Zuo n n.2.2.2.1.length out):Zud n out:=by refine⟨h.1,fun i ks hks=> ?_⟩;obtain⟨h1,h2⟩:=h.2 i ks hks;exact⟨by omega,fun x=>by rw[h2 x,Zcz]⟩
theorem ZtZ(j:Nat):Zar (Zkc (some (Int.toNat (j:Int))) j)=some ():=by rw[show Zkc (some (Int.toNat (j:Int))) j=true from Nat.beq_refl j];rfl
theorem ZsE{q:Za3}(C:Ctx n q.1 q.2.2.1 (bif q.2.2.2.2.2.2.2.2.2.1 then(Zb2 n q.1).2.2.2.1 else 0))(hZ:Zo3 n):
  ∃g,F123 n q=some g/\SI n q.1 q.2.2.1 (bif q.2.2.2.2.2.2.2.2.2.1 then(Zb2 n q.1).2.2.2.1 else 0) g/\Bas n q.1 q.2.2.1 (bif q.2.2.2.2.2.2.2.2.2.1 then(Zb2 n q.1).2.2.2.1 else 0) g/\g.2.2.1.length<=100:=by
 have hS:=C.net.sound;have hrn:=hS.runs;have hst:=hS.stops;have hlk:=hS.links;have hcg:=C.net.change q.1 C.stop.1 C.stop.2;have hsi:idx n.1 q.1=some (Zb2 n q.1):=(ZcP hS C.stop.1 C.stop.2).1;have hmx: (Zaq:Int)=4294967296:=by simp [Zaq]
 unfold F123
 have hg0:Zar (decide ((0:Int)<=(n.2.2.1.length:Int)/\(n.2.2.1.length:Int)<=(n.2.2.1.length:Int)/\(n.2.2.1.length:Int)<=(Zaq:Int)))=some ():=by rw[decide_eq_true (by rw[hmx];omega)];rfl
 refine bex (fun _=>True) ⟨(),hg0,trivial⟩ fun _ _=> ?_;refine bex (fun r:ScT=>r=(n,q,[],List.replicate n.1.length q11,[],List.replicate n.2.2.1.length [],false,())) ?_ ?_
 ·refine ZaX n.1.length _ (fun i (st:ScT×Int)=>st=((n,q,[],List.replicate i q11,[],List.replicate n.2.2.1.length [],false,()),(i:Int))) ?_ ?_ _ (by simp)
  ·rintro i _ hi rfl;left;simp only[Zax hi,cond_true,Zal hi (show _<=9223372036854775807 by omega)];have hg:Zar (decide (List.length (List.replicate i q11)+List.length [q11]<=Zaq))=some ():=Zbg (by simp;omega);erw[hg];simp only[bind_some];exact⟨_,rfl,by rw[List.replicate_succ']⟩
  ·rintro _ rfl;simp only[Zaw,cond_false];exact⟨_,rfl,rfl⟩
 intro f1 hf1;refine bex (fun r:ScT=>r=(n,q,[],List.replicate n.1.length q11,List.replicate n.2.2.1.length b00,List.replicate n.2.2.1.length [],false,())) ?_ ?_
 ·refine ZaX n.2.2.1.length _ (fun i (st:ScT×Int)=>st=((n,q,[],List.replicate n.1.length q11,List.replicate i b00,List.replicate n.2.2.1.length [],false,()),(i:Int))) ?_ ?_ _ (by rw[hf1];rfl)
  ·rintro i _ hi rfl;left;simp only[Zax hi,cond_true,Zal hi (show _<=9223372036854775807 by omega)];have hg:Zar (decide (List.length (List.replicate i b00)+List.length [b00]<=Zaq))=some ():=Zbg (by simp;omega);erw[hg];simp only[bind_some];exact⟨_,rfl,by rw[List.replicate_succ']⟩
  ·rintro _ rfl;simp only[Zaw,cond_false];exact⟨_,rfl,rfl⟩
 intro f2 hf2;refine bex (fun r:ScT=> ∃out,r=(n,q,[],List.replicate n.1.length q11,List.replicate n.2.2.1.length b00,out,false,())/\Zuo n n.2.2.2.1.length out) ?_ ?_
 ·refine ZaX n.2.2.2.1.length _ (fun i (st:ScT×Int)=>st.2=(i:Int)/\ ∃out,st.1=(n,q,[],List.replicate n.1.length q11,List.replicate n.2.2.1.length b00,out,false,())/\Zuo n i out) ?_ ?_ _ ⟨rfl,_,hf2, ?_⟩
  ·rintro i ⟨st,j⟩ hi ⟨hj,out,hst',hO⟩;simp only at hj hst';subst hj hst';left;have e1:lkI n (i:Int)=n.2.2.2.1[i]:=by unfold lkI;rw[Int.toNat_natCast,Zak hi]
   obtain⟨a,c,b,d,st,e,ha,_⟩:=C.net.link _ (List.getElem_mem hi);have hao:a<out.length:=by rw[hO.1];exact ha
   have hks:=(hO.2 a _ (List.getElem?_eq_getElem hao)).1;simp only[Zax hi,cond_true,Zah hi,bind_some,Zal hi (show _<=9223372036854775807 by omega),e,ZaH hao,List.getElem?_eq_getElem hao,Zah hao];have hg:Zar (decide (List.length out[a]+List.length [(i:Int)]<=Zaq))=some ():=Zbg (by simp;omega);rw[hg];simp only[bind_some,ZtZ];exact⟨_,rfl,rfl,_,rfl,Zp1 hO (by rw[e1,e]) hao⟩
  ·rintro ⟨st,j⟩ ⟨hj,out,hst',hO⟩;simp only at hj hst';subst hj hst';simp only[Zaw,cond_false];exact⟨_,rfl,out,rfl,hO⟩
  ·refine⟨by simp,fun i ks hks=> ?_⟩;have:=List.eq_of_mem_replicate (List.mem_of_getElem? hks);subst this;exact⟨by simp,fun x=>⟨fun h=>(nomatch h),fun h=>by omega⟩⟩
 rintro f3 ⟨out,hf3,hO⟩;have hOk:=Zrs hlk hO;have ht:=C.time
 refine bex (fun r:ScT×Int=>r=(f3,q.2.2.1+(bif q.2.2.2.2.2.2.2.2.2.1 then(Zb2 n q.1).2.2.2.1 else 0))) ?_ ?_
 ·cases q.2.2.2.2.2.2.2.2.2.1 with
  |false=>exact⟨_,rfl,by simp⟩
  |true=>
   simp only[cond_true,hsi,bind_some];exact⟨_,rfl,by rw[Zaj (by omega) (by omega)]⟩
 rintro _ rfl
 generalize (bif q.2.2.2.2.2.2.2.2.2.1 then(Zb2 n q.1).2.2.2.1 else 0)=w at*
 have hw:=C.wait;obtain⟨a,ha⟩: ∃a:Nat,q.1=(a:Int):=⟨q.1.toNat,by have:=C.stop;omega⟩;have hal:a<n.1.length:=by have:=C.stop;omega
 have e1:f3.1=n:=by rw[hf3]
 have e2:f3.2.2.1=[]:=by rw[hf3]
 have e3:f3.2.2.2.1=List.replicate n.1.length q11:=by rw[hf3]
 have e4:f3.2.2.2.2.1=List.replicate n.2.2.1.length b00:=by rw[hf3]
 have e5:f3.2.2.2.2.2.1=out:=by rw[hf3]
 have hp100:=hZ.paths
 have hI3:SI n q.1 q.2.2.1 w f3:=by
  refine⟨e1,by rw[e3];simp,by rw[e4];simp,by rw[e5];exact hOk,⟨fun s p hq' => ?_,fun i b hb=> ?_⟩,fun s p hq' hne=> ?_⟩
  ·rw[e3]at hq';rw[List.eq_of_mem_replicate (List.mem_of_getElem? hq')];exact⟨fun e=>absurd rfl e,fun e=>absurd rfl e,fun e=>absurd rfl e⟩
  ·rw[e4]at hb;rw[List.eq_of_mem_replicate (List.mem_of_getElem? hb)];exact fun e=>absurd rfl e
  ·rw[e3]at hq';rw[List.eq_of_mem_replicate (List.mem_of_getElem? hq')]at hne;exact absurd rfl hne
 have hVw: ∀p∈n.2.2.2.2.1,q.2.2.1+p.2.2.1∈Zii n q.2.2.1 w:=fun p hp=>List.mem_append_left _ (List.mem_cons_of_mem _ (List.mem_cons_of_mem _ (List.mem_map.2 ⟨p,hp,rfl⟩)));obtain⟨g,g1,g2,g3,g4,g5,g6⟩:=Zq4 C (V:=Zii n q.2.2.1 w) (T:=0) (s:=q.1) (t:=q.2.2.1) (prev:= -1) (k:=0) (js:=[]) e1 hI3.pl (by omega) ht ht.1 hVw (by rw[e2];simp) (fun p hp' a1 a2=>⟨.arrW hp' a1 a2, .rdyW hp' a1 a2⟩) hI3.snd .nil;have hI4:=hI3.step g2 g3 (hI3.rc.step g2 g6);refine bex (fun r=>r=g) ⟨_,g1,rfl⟩ fun x hx=> ?_;rw[hx];have hag:a<g.2.2.2.1.length:=by rw[hI4.pl];exact hal
 have hw0:0<=q.2.2.1+w:=by omega
 have m2:=ZjS (n:=n) (V:=Zii n q.2.2.1 w) (T:=0) g hag ht.1 hw0 hw0 (List.mem_append_left _ (List.mem_cons_self ..)) (List.mem_append_left _ (List.mem_cons_of_mem _ (List.mem_cons_self ..))) (-1);have n2:=Zmy hag ht.1 hw0 (-1);have h2:=g3.imp (i:=a) (a:=q.2.2.1) (r:=q.2.2.1+w) (l:= -1) ⟨0,[], .nil,by rw[<-ha];exact .here⟩ ⟨0,[], .nil,by rw[<-ha];exact .init⟩;have hI5:=hI4.step m2 h2 (hI4.rc.step m2 (Zhj g a _ _ _));have hiv:=Zfu g hag q.2.2.1 (q.2.2.1+w) (-1);rw[<-ha]at hiv;rw[hiv];refine⟨_,rfl,hI5,⟨?_, ?_,fun p hp' =>(g4 p hp').mono m2⟩, ?_⟩
 ·rw[ha,Int.toNat_natCast];exact n2.1
 ·rw[ha,Int.toNat_natCast];exact n2.2
 ·show g.2.2.1.length<=100;rw[e2]at g5;simp only[List.length_nil,Nat.zero_add]at g5;omega
end Q
namespace Q
open Tr Go
open Option (bind_some)
variable {n:Zay}{s0 t0 w:Int}
noncomputable def Zlr(n:Zay)(q:Za3):Int:=bif !decide (Zlt n q=0) then Zlt n q else bif q.2.2.2.1 then 22 else 0
theorem Zgm{n:Zay}(h:Fit n)(q:Za3):F113 n q=some (Zlr n q):=by
 unfold F113 Zlr;rw[Zkt h];simp only[bind_some]
 cases decide (Zlt n q=0)<;>cases q.2.2.2.1<;>rfl
theorem ZgF{n:Zay}(h:Fit n)(q:Za3):F96 n q=some (Zlr n q):=by
 unfold F96 Zlr;rw[Znn h];simp only[bind_some]
 cases decide (Zlt n q=0)<;>cases q.2.2.2.1<;>rfl
theorem ZhF{n:Zay}{q:Za3} :Zlr n q=0↔Zlt n q=0/\q.2.2.2.1=false:=by
 unfold Zlr;by_cases h:Zlt n q=0
 ·rw[decide_eq_true h]
  cases q.2.2.2.1<;>simp [h]
 ·rw[decide_eq_false h];simp [h]
structure Zlv (n:Zay) (s0 t0 w:Int) (g:ScT):Prop where
 si:SI n s0 t0 w g
 lab:g.2.2.1.length<4000000000
 arr: ∀ {k:Nat}{s t:Int}{js:List ZaM},Der n s0 t0 w (.arr k s t) js->LeA g.2.2.2.1 s.toNat t
theorem Zte(C:Ctx n s0 t0 w){g:ScT}(hI:SI n s0 t0 w g)(hl:g.2.2.1.length<4000000000)(hB:Bas n s0 t0 w g)(hC: ∀i m,i<n.2.2.1.length->m+1< (Zad n i).length->Zbh n i=false->Cls n i m g):Zlv n s0 t0 w g:=by
 refine⟨hI,hl, ?_⟩
 have key: ∀ {f:Zlu}{js:List ZaM},Der n s0 t0 w f js->match f with
   | .rdy _ s r=>LeY g.2.2.2.1 s.toNat r
   | .brd _ i c _=>c+1< (Zad n i).length->LeB g.2.2.2.2.1 i (c:Int)
   | .lnk _ i c=>Zbh n i=false->LeB g.2.2.2.2.1 i (c:Int)
   | .on _ i c=>Vst n i c g
   | .rid _ s t=>LeA g.2.2.2.1 s.toNat t/\LeY g.2.2.2.1 s.toNat (t+(Zb2 n s).2.2.2.1)/\ ∀p∈n.2.2.2.2.1,Wlk s t g.2.2.2.1 p
   | .arr _ s t=>LeA g.2.2.2.1 s.toNat t:=by
  intro f js d
  induction d with
  |init=>exact hB.2.1
  |here=>exact hB.1
  |rdyW h1 h2 h3=>exact(hB.2.2 _ h1 h2 h3).2
  |arrW h1 h2 h3=>exact(hB.2.2 _ h1 h2 h3).1
  |board d h1 h2 h3 h4 h5 h6 ih=>
   intro hlast;refine(hC _ _ h1 hlast h3).1 h5 ?_;rw[h4]
   exact ih.weak h6
  | @on k i b c st js d h1 h2 ih=>
   obtain⟨x,x1,x2,x3⟩:=ih (by omega);obtain⟨c',rfl⟩: ∃c',c=c' +1:=⟨c - 1,by omega⟩;have hok:=C.ok d
   exact(hC i c' hok.2.1 h2 hok.2.2.2).2 ⟨x,x1,x2,by omega⟩
  |stay d h1 h2 h3 ih=>exact fun _=>ih.2 _ _ _ h1 h2 (.inl rfl) h3
  |link d h1 h2 h3 h4 ih=>exact fun hc=>ih.2 _ _ _ h2 h3 (.inr ⟨h1,h4⟩) hc
  |linked d h1 ih=>exact fun _=>ih h1
  |ride d h1 ih=>exact ih.1 h1
  |change d ih=>exact ih.2.1
  |rdyV d h1 h2 h3 ih=>exact(ih.2.2 _ h1 h2 h3).2
  |arrR d ih=>exact ih.1
  |arrV d h1 h2 h3 ih=>exact(ih.2.2 _ h1 h2 h3).1
 exact @fun _ _ _ _ d=>key d
theorem Zt4(hZ:Zo3 n){g:ScT}(hp:g.2.2.2.1.length=n.1.length)(hr:g.2.2.2.2.1.length=n.2.2.1.length)(hb: ∀b∈g.2.2.2.2.1,b.1<=40):pot (Zii n t0 w) g<=100032:=by
 have hm:=ZrN (t0:=t0) (w:=w) hZ
 have h1: ∀l:List Zer,Zj7 (Zii n t0 w) l<=l.length*12444:=by
  intro l;unfold Zj7
  induction l with
  |nil=>simp
  |cons p l ih=>
   have a:=ZqL (Zii n t0 w) p.1;have b:=ZqL (Zii n t0 w) p.2.2.1;simp only[List.map_cons,List.sum_cons,List.length_cons];omega
 have h2: ∀l:List Zlh,(∀b∈l,b.1<=40)->Zml l<=l.length*40:=by
  intro l hl;unfold Zml
  induction l with
  |nil=>simp
  |cons b l ih=>
   have:=ih (fun x hx=>hl x (by simp [hx]));have hb:=hl b (by simp)
   have:Ztr b<=40:=by
    unfold Ztr;split
    ·omega
    ·omega
   simp only[List.map_cons,List.sum_cons,List.length_cons];omega
 have a:=h1 g.2.2.2.1;have b:=h2 g.2.2.2.2.1 hb;have hs:=hZ.stops;have hn:=hZ.runs;unfold pot;have c:g.2.2.2.1.length*12444<=8*12444:=Nat.mul_le_mul_right _ (by omega);have d:g.2.2.2.2.1.length*40<=12*40:=Nat.mul_le_mul_right _ (by omega);omega
theorem ZnW{n:Zay}(h:Zo3 n)(q:Za3):Zo3 (Zat n q):=by
 refine⟨h.stops,by show (n.2.2.1.map _).length<=_;rw[List.length_map];exact h.runs, ?_, ?_⟩
 ·show (Zbl n q).length<=_;have:=h.paths;unfold Zbl;split
  ·exact Nat.le_trans (List.length_filter_le _ _) this
  ·exact this
 ·show ((n.2.2.1.map (Zb6 n q)).map _).sum<=_;rw[List.map_map]
  have: ((fun r:Zh9=>r.2.2.2.2.2.2.2.1.length) ∘Zb6 n q)=fun r=>r.2.2.2.2.2.2.2.1.length:=by funext r;show ((r.2.2.2.2.2.2.2.1).map (Zbs n q)).length=_;rw[List.length_map]
  rw[this];exact h.calls
theorem Zre{n:Zay}(h:Zdc n){s0:Int}(hs:0<=s0/\s0< (n.1.length:Int))(b:Bool):0<=(bif b then(Zb2 n s0).2.2.2.1 else 0)/\(bif b then(Zb2 n s0).2.2.2.1 else 0)<=3600:=by
 cases b with
 |false=>exact⟨by simp,by simp⟩
 |true=>exact h.change s0 hs.1 hs.2
theorem Zsn{n0:Zay}{q:Za3}(hfit:Fit n0)(hfew:Few n0)(hZ0:Zo3 n0)(hq:Zlr n0 q=0): ∃g,F114 n0 q=some (g,0)/\Ctx (Zat n0 q) q.1 q.2.2.1 (bif q.2.2.2.2.2.2.2.2.2.1 then(Zb2 (Zat n0 q) q.1).2.2.2.1 else 0)/\Whole n0/\qB n0.1.length q=true/\q.2.2.2.1=false/\
  Zlv (Zat n0 q) q.1 q.2.2.1 (bif q.2.2.2.2.2.2.2.2.2.1 then(Zb2 (Zat n0 q) q.1).2.2.2.1 else 0) g:=by
 have hck:=Zgm hfit q;rw[hq]at hck;have hq0:=ZhF.1 hq;obtain⟨hw0,hqb⟩:=ZhT.1 hq0.1;have hcq:=Zkt hfit q;rw[hq0.1]at hcq;have hal:=ZlD hw0.sound hfew q hcq;have hw:=ZlB q hfit.paths hw0;have hfa:=Zp6 q hfit;have hn:=hw.ok;have hZ:=ZnW hZ0 q;have hqb' :=hqb;unfold qB inR at hqb';simp only[Bool.and_eq_true,decide_eq_true_eq]at hqb';obtain⟨hs0,_,ht0,hm,_⟩:=hqb';have hs0' :0<=q.1/\q.1< ((Zat n0 q).1.length:Int):=hs0;have hwt:=Zre hn hs0' q.2.2.2.2.2.2.2.2.2.1
 have C:Ctx (Zat n0 q) q.1 q.2.2.1 (bif q.2.2.2.2.2.2.2.2.2.1 then(Zb2 (Zat n0 q) q.1).2.2.2.1 else 0):=⟨hn,hs0',ht0,hwt⟩
 obtain⟨g0,s1,s2,s3,s4⟩:=ZsE C hZ;obtain⟨r,r1,_,_,r4⟩:=ZrA hfa
 have hr0:r.2.2=0:=by obtain⟨r',r1',_,r3'⟩:=Zf0 _ hfa;rw[r1]at r1';cases r1';exact r3'.2 hw
 obtain⟨_,ys,y1,y2,y3⟩:=r4 hr0
 have hlen:ys.length<=60:=by have h1:=Zm0 (Zat n0 q) _ (Nat.le_refl _);rw[List.take_length]at h1;have h2:=y2.length_eq;have h3:=hZ.calls;omega
 have hpot:pot (Zii (Zat n0 q) q.2.2.1 (bif q.2.2.2.2.2.2.2.2.2.1 then(Zb2 (Zat n0 q) q.1).2.2.2.1 else 0)) g0<=100032:=by
  refine Zt4 hZ s2.pl s2.rl fun b hb=> ?_;obtain⟨i,hi,rfl⟩:=List.getElem_of_mem hb;by_cases e: (g0.2.2.2.2.1[i]).1= -1
  ·rw[e];decide
  ·obtain⟨k,c,hc,js,_,hd⟩:=s2.snd.brd i _ (List.getElem?_eq_getElem hi) e;have hok:=C.ok hd
   have h32:c<32:=by have h1:=(hn.sound.many _ (List.getElem_mem hok.2.1)).2;have h2:=hok.2.2.1;rw[ZaO hok.2.1]at h2;exact Nat.lt_of_lt_of_le h2 h1
   rw[hc];omega
 obtain⟨g,g1,g2,g3,g4,g5⟩:=ZtF C hZ y2 y3 hlen (100032+60) (s:=g0) (i:=0) (by omega) (Nat.zero_le _) s2 s3 (fun j hj=>absurd hj (Nat.not_lt_zero j)) (by simp) (by omega);refine⟨g, ?_,C,hw0,hqb,hq0.2,Zte C g2 g5 g3 fun i m hi hm hc=> ?_⟩
 ·unfold F114;rw[hck];simp only[bind_some,decide_true,Bool.not_true,cond_false];rw[hal];simp only[bind_some];rw[s1];simp only[bind_some];rw[y1];simp only[bind_some,decide_true,Bool.not_true,cond_false];refine ZcB (fun r=>r=g) ⟨_,g1,rfl⟩ fun r hr=>by rw[hr]
 ·exact g4 _ (y2.mem_iff.2 (Zty hi hm hc)) i m ⟨hi,hm,hc,rfl⟩
end Q
namespace Q
open Tr Go
open Option (bind_some)
theorem Zb1:F35=some true:=by kernel_rfl
theorem Zu5{n:Zay}(h:ZnG Y31 n)(hp:n.2.2.2.2.1.length<=4096):Fit n:=by
 obtain⟨⟨_,h1⟩,⟨_,h2⟩,⟨_,h3⟩,_,_,⟨⟨_,h6⟩,_⟩,_⟩:=h;refine⟨fun x hx=> ?_,fun x hx=> ?_,fun x hx=> ?_,fun x hx=> ?_,hp,fun x hx=> ?_⟩
 ·exact(h1 x hx).1
 ·exact(h2 x hx).1
 ·exact(h3 x hx).2.2.2.1
 ·exact(h3 x hx).2.2.2.2.2.2.2.1.1
 ·exact(h6 x hx).1
def ZhH(l:List Zh9):Nat:=(l.map fun r=>r.2.2.2.2.2.2.2.1.length).sum
theorem ZlG{l:List Zh9}{i:Nat}(h:i<l.length):ZhH (l.take (i+1))=ZhH (l.take i)+(l[i]).2.2.2.2.2.2.2.1.length:=by unfold ZhH;rw[List.take_succ_eq_append_getElem h,List.map_append,List.sum_append];simp
theorem Zmk{n:Zay}(hr:n.2.2.1.length<=12): ∃k:Int,F32 n=some k/\((∀x∈n.2.2.1,x.2.2.2.2.2.2.2.1.length<=4096)->k<=60->ZhH n.2.2.1<=60):=by
 unfold F32
 have key: ∀o:Option Int,(∃r,o=some r/\((∀x∈n.2.2.1,x.2.2.2.2.2.2.2.1.length<=4096)->r<=60->ZhH n.2.2.1<=60))-> ∃k:Int,(Option.bind o fun x3=>some x3)=some k/\((∀x∈n.2.2.1,x.2.2.2.2.2.2.2.1.length<=4096)->k<=60->ZhH n.2.2.1<=60):=by rintro o ⟨r,rfl,h⟩;exact⟨r,rfl,h⟩
 refine key _ ?_;refine ZaX n.2.2.1.length _ (fun i (st:Int×Int)=>st.2=(i:Int)/\((∀x∈n.2.2.1,x.2.2.2.2.2.2.2.1.length<=4096)->st.1=(ZhH (n.2.2.1.take i):Int))) ?_ ?_ _ ⟨rfl,fun _=>rfl⟩
 ·rintro i ⟨a,j⟩ hi ⟨hj,ha⟩;simp only at hj ha;subst hj;simp only[Zax hi,cond_true,bind_some];by_cases h60:a<=60
  ·left;rw[decide_eq_true h60];simp only[cond_true,Zah hi,bind_some,Zal hi (show _<=9223372036854775807 by omega)];refine⟨_,rfl,rfl,fun hall=> ?_⟩;have hx:=hall _ (List.getElem_mem hi);rw[ZlG hi];have ha' :=ha hall;show IntKind.wrap .i64 _=_;rw[Zaj (by omega) (by omega)];omega
  ·right;rw[decide_eq_false h60];exact⟨_,rfl,fun _ e=>absurd e h60⟩
 ·rintro ⟨a,j⟩ ⟨hj,ha⟩;simp only at hj ha;subst hj;rw[List.take_length]at ha;simp only[Zaw,cond_false,bind_some];exact⟨_,rfl,fun hall e=>by have:=ha hall;omega⟩
theorem ZlA{n:Zay}(h:Whole n): ∀x∈n.2.2.1,x.2.2.2.2.2.2.2.1.length<=4096:=fun x hx=>by have:=(h.sound.many x hx).2;omega
theorem Zq3{n:Zay}(h:ZnG Y31 n): ∃b,F36 n=some b/\(b=false->Fit n/\(Whole n->Zo3 n/\Few n)):=by
 unfold F36;by_cases h1: (8:Int)< (n.1.length:Int)
 ·rw[decide_eq_true h1];exact⟨true,rfl,fun e=>(nomatch e)⟩
 by_cases h2: (10:Int)< (n.2.1.length:Int)
 ·rw[decide_eq_false h1,decide_eq_true h2];exact⟨true,rfl,fun e=>(nomatch e)⟩
 by_cases h3: (12:Int)< (n.2.2.1.length:Int)
 ·rw[decide_eq_false h1,decide_eq_false h2,decide_eq_true h3];exact⟨true,rfl,fun e=>(nomatch e)⟩
 by_cases h4: (40:Int)< (n.2.2.2.1.length:Int)
 ·rw[decide_eq_false h1,decide_eq_false h2,decide_eq_false h3,decide_eq_true h4];exact⟨true,rfl,fun e=>(nomatch e)⟩
 by_cases h5: (100:Int)< (n.2.2.2.2.1.length:Int)
 ·rw[decide_eq_false h1,decide_eq_false h2,decide_eq_false h3,decide_eq_false h4,decide_eq_true h5];exact⟨true,rfl,fun e=>(nomatch e)⟩
 by_cases h6: (20:Int)< (n.2.2.2.2.2.1.1.length:Int)
 ·rw[decide_eq_false h1,decide_eq_false h2,decide_eq_false h3,decide_eq_false h4,decide_eq_false h5,decide_eq_true h6];exact⟨true,rfl,fun e=>(nomatch e)⟩
 rw[decide_eq_false h1,decide_eq_false h2,decide_eq_false h3,decide_eq_false h4,decide_eq_false h5,decide_eq_false h6];simp only[cond_false];obtain⟨k,k1,k2⟩:=Zmk (n:=n) (by omega);rw[k1];simp only[bind_some];by_cases hk: (60:Int)<k
 ·rw[decide_eq_true hk];exact⟨true,rfl,fun e=>(nomatch e)⟩
 ·rw[decide_eq_false hk];refine⟨false,rfl,fun _=>⟨Zu5 h (by omega),fun hw=> ?_⟩⟩;have hall:=ZlA hw;have hsum: (n.2.2.1.map fun r=>r.2.2.2.2.2.2.2.1.length).sum<=60:=k2 hall (by omega);exact⟨⟨by omega,by omega,by omega,hsum⟩,by omega,by omega,by omega,by omega,by omega,by omega,hall⟩
def Zsd(g:ScT)(s:Nat):Zer:=(g.2.2.2.1[s]?).getD q11
def arrV(g:ScT)(s:Nat):Int:=(Zsd g s).1
def ZgT(g:ScT):List Int:=g.2.2.2.1.map fun p=>p.1
theorem Zif{n0:Zay}{q:Za3}{g:ScT}(h:F114 n0 q=some (g,0)): (F114S.f (n0,q,())).isSome=true:=by show (F114 n0 q).isSome=true;rw[h];rfl
variable {n:Zay}{s0 t0 w:Int}{g:ScT}
theorem Zlv.idxA(D:Zlv n s0 t0 w g){s:Nat}(hs:s<n.1.length):idx (ZgT g) (s:Int)=some (arrV g s):=by
 have hl:s<g.2.2.2.1.length:=by rw[D.si.pl];exact hs
 have hl2:s< (ZgT g).length:=by unfold ZgT;rw[List.length_map];exact hl
 have e: (ZgT g)[s]=arrV g s:=by unfold arrV Zsd;rw[Zak hl];simp [ZgT]
 rw[Zah hl2,e]
theorem Zlv.len(D:Zlv n s0 t0 w g): (ZgT g).length=n.1.length:=by unfold ZgT;rw[List.length_map,D.si.pl]
theorem Zlv.sound(D:Zlv n s0 t0 w g){s:Nat}(h:arrV g s≠ -1): ∃k js,Ch g.2.2.1 (Zsd g s).2.2.2.1 js/\Der n s0 t0 w (.arr k (s:Int) (arrV g s)) js:=by
 unfold arrV Zsd at*;by_cases hs:s<g.2.2.2.1.length
 ·rw[Zak hs]at h ⊢;exact(D.si.snd.pls s _ (List.getElem?_eq_getElem hs)).arr h
 ·rw[List.getElem?_eq_none (by omega)]at h;exact absurd rfl h
theorem Zlv.complete(D:Zlv n s0 t0 w g){s:Nat}{k:Nat}{t:Int}{js:List ZaM}(d:Der n s0 t0 w (.arr k (s:Int) t) js):arrV g s≠ -1/\arrV g s<=t:=by obtain⟨p,p1,p2⟩:=D.arr d;rw[Int.toNat_natCast]at p1;unfold arrV Zsd;rw[p1];exact p2
theorem Zlv.nonneg(C:Ctx n s0 t0 w)(D:Zlv n s0 t0 w g)(s:Nat):arrV g s= -1\/0<=arrV g s/\arrV g s<=3155932800:=by
 by_cases h:arrV g s= -1
 ·exact .inl h
 right;obtain⟨k,js,_,d⟩:=D.sound h;exact(C.ok d).2
theorem ZiK{n:Zay}(hS:ZcL n)(hp:n.2.2.2.2.1.length<=4096){q:Za3}(hq:inR q.1 n.1.length=true){L:List ZaM}(hj:L.length<=1000): ∃k:Int,F84 n q (L,())=some k/\(k=(L.length:Int)↔ ∀i,i<L.length->atE n q L i=0):=by
 unfold F84
 have key: ∀o:Option (Unit ⊕ Int),(∃r,o=some r/\((r= .inl ()/\ ∀i,i<L.length->atE n q L i=0)\/ ∃i,i<L.length/\r= .inr (i:Int)/\atE n q L i≠0))->
   ∃k:Int,(Option.bind o fun x2=>Sum.elim (fun _=>some (L.length:Int)) (fun y4=>some y4) x2)=some k/\(k=(L.length:Int)↔ ∀i,i<L.length->atE n q L i=0):=by
  rintro o ⟨r,rfl,⟨rfl,h⟩ | ⟨i,hi,rfl,h⟩⟩
  ·exact⟨_,rfl,fun _=>h,fun _=>rfl⟩
  ·exact⟨_,rfl,fun e=>by omega,fun e=>absurd (e i hi) h⟩
 refine key _ ?_;refine ZaX L.length _ (fun i (st:Int)=>st=(i:Int)/\ ∀j,j<i->atE n q L j=0) ?_ ?_ _ ⟨rfl,fun j hj=>absurd hj (Nat.not_lt_zero j)⟩
 ·rintro i _ hi ⟨rfl,ha⟩;simp only[Zax hi,cond_true];rw[ZqA hS hp hq hi hj];simp only[bind_some];by_cases e:atE n q L i=0
  ·left;rw[decide_eq_true e];refine⟨_,rfl,Zal hi (by omega),fun j hj=> ?_⟩;by_cases e' :j=i
   ·subst e';exact e
   ·exact ha j (by omega)
  ·right;rw[decide_eq_false e];exact⟨_,rfl, .inr ⟨i,hi,rfl,e⟩⟩
 ·rintro _ ⟨rfl,ha⟩;simp only[Zaw,cond_false];exact⟨_,rfl, .inl ⟨rfl,ha⟩⟩
end Q
namespace Q
open Tr Go Gr
open Option (bind_some)
variable {n:Zay}{s0 t0 w:Int}{g:ScT}
theorem ZkP(h:Zdc n){i m:Nat}(hi:i<n.2.2.1.length)(hm:m+1< (Zad n i).length): (Zab n i m).2.2.1<=(Zab n i (m+1)).2.1:=by
 have ht:=h.sound.time _ (List.getElem_mem hi);have e:=ZaO hi;have hm' :=hm;rw[e]at hm';have h3:=(ht (m+1) hm').2.2.2 (by omega)
 have h4:Zab n i (m+1)=(n.2.2.1[i]).2.2.2.2.2.2.2.1[m+1]:=by unfold Zab cl;rw[Int.toNat_natCast,e,Zak hm']
 have h5:Zab n i m=(n.2.2.1[i]).2.2.2.2.2.2.2.1[m+1 - 1]:=by unfold Zab cl;rw[Int.toNat_natCast,e];exact Zak (show m<_ by omega) _
 rw[h4,h5];exact h3.2
theorem ZiJ(h:Zdc n){i b:Nat}(hi:i<n.2.2.1.length): ∀m,b+m+1< (Zad n i).length->(Zab n i b).2.2.1<=(Zab n i (b+m+1)).2.1
 |0,hm=>ZkP h hi hm
 |m+1,hm=>by have h1:=ZiJ (b:=b) h hi m (by omega);have h2:=h.time hi (show b+m+1< (Zad n i).length by omega);have h3:=ZkP h hi hm;show _<=(Zab n i (b+m+1+1)).2.1;exact Int.le_trans h1 (Int.le_trans h2.2.1 h3)
theorem Der.after(C:Ctx n s0 t0 w){f:Zlu}{js:List ZaM}(d:Der n s0 t0 w f js):match f with
  | .rdy _ _ r=>t0<=r
  | .brd _ i c _=>t0<=(Zab n i c).2.2.1
  | .lnk _ i c=>t0<=(Zab n i c).2.2.1
  | .on _ i c=>t0<=(Zab n i c).2.1
  | .rid _ _ t=>t0<=t
  | .arr _ _ t=>t0<=t:=by
 have hw:=C.wait
 induction d with
 |init=>show t0<=t0+w;omega
 |here=>exact Int.le_refl _
 |rdyW h1 h2 h3=>have:=C.net.path _ h1;show t0<=t0+_;omega
 |arrW h1 h2 h3=>have:=C.net.path _ h1;show t0<=t0+_;omega
 |board d h1 h2 h3 h4 h5 h6 ih=>exact Int.le_trans ih h6
 | @on k i b c st js d h1 h2 ih=>
  have hok:=C.ok d;have:=ZiJ C.net hok.2.1 (b:=b) (c - b - 1) (by omega);rw[show b+(c - b - 1)+1=c by omega]at this
  exact Int.le_trans ih this
 |stay d h1 h2 h3 ih=>exact Int.le_trans ih h2
 |link d h1 h2 h3 h4 ih=>exact Int.le_trans ih h3
 |linked d h1 ih=>exact ih
 |ride d h1 ih=>exact ih
 |change d ih=>
  have hok:=C.ok d;have:=C.net.change _ hok.2.1.1 hok.2.1.2;show t0<=_+_;have ih' :t0<=_:=ih
  omega
 |rdyV d h1 h2 h3 ih=>have:=C.net.path _ h1;have ih' :t0<=_:=ih;show t0<=_+_;omega
 |arrR d ih=>exact ih
 |arrV d h1 h2 h3 ih=>have:=C.net.path _ h1;have ih' :t0<=_:=ih;show t0<=_+_;omega
theorem Zb4{n:Zay}{q:Za3}{p:Zcf} :p∈Zbl n q↔p∈n.2.2.2.2.1/\(p.2.2.2.1=true\/q.2.2.2.2.2.2.1=false):=by
 unfold Zbl
 cases q.2.2.2.2.2.2.1 with
 |true=>simp
 |false=>simp
end Q
namespace Q
open Tr Go
open Option (bind_some)
variable {n:Zay}{q:Za3}
theorem ZsZ(n:Zay)(q:Za3)(i:Nat):Zad (Zat n q) i=(Zad n i).map (Zbs n q):=Zjh n q (i:Int)
theorem Zgg(n:Zay)(q:Za3)(i:Nat): (Zad (Zat n q) i).length=(Zad n i).length:=by rw[ZsZ,List.length_map]
theorem Zu9(n:Zay)(q:Za3)(i c:Nat):Zab (Zat n q) i c=Zbs n q (Zab n i c):=by unfold Zab;rw[ZsZ,Zg6]
theorem ZbA(n:Zay)(q:Za3)(i c:Nat):Zab (Zat n q) i c=((Zab n i c).1,(Zab n i c).2.1,(Zab n i c).2.2.1,(Zab n i c).2.2.2.1&&ZfC n q (Zab n i c).1,(Zab n i c).2.2.2.2.1&&ZfC n q (Zab n i c).1,()):=by rw[Zu9,Zg9]
theorem ZkO(n:Zay)(q:Za3): (Zat n q).2.2.1.length=n.2.2.1.length:=List.length_map ..
theorem Zvd{n:Zay}{q:Za3}{i:Nat}(hi:i<n.2.2.1.length):Zbh (Zat n q) i= !Zod n q n.2.2.1[i]:=by unfold Zbh rn;rw[Int.toNat_natCast];show (((n.2.2.1.map (Zb6 n q))[i]?).getD u0).2.2.2.2.2.2.1=_;rw[List.getElem?_map,List.getElem?_eq_getElem hi];rfl
theorem Zkw(hS:ZcL n)(hq:0<=q.2.2.2.2.2.2.2.2.1/\q.2.2.2.2.2.2.2.2.1<=255){i:Nat}(hi:i<n.2.2.1.length):F106 n q (i:Int)=some (Zod n q n.2.2.1[i]):=by
 obtain⟨ro,hrm⟩:=ZqQ hS (List.getElem_mem hi);have hmode:=hS.mode _ hrm;unfold F106 Zod Tr.useB;rw[Zah hi];simp only[bind_some];rw[ro];simp only[bind_some];generalize n.2.2.1[i]=r at*;generalize Zrm n r=t at*
 have wm:IntKind.wrap .u64 t.2.1=t.2.1:=by
  obtain⟨k,hk⟩: ∃k:Nat,t.2.1=(k:Int):=⟨t.2.1.toNat,by omega⟩;rw[hk];have:k<=7:=by omega
  match k,this with
  |0,_=>rfl
  |1,_=>rfl
  |2,_=>rfl
  |3,_=>rfl
  |4,_=>rfl
  |5,_=>rfl
  |6,_=>rfl
  |7,_=>rfl
 rw[wm]
 have hsh:Zm4 .i64 q.2.2.2.2.2.2.2.2.1 t.2.1=some (Int.fdiv q.2.2.2.2.2.2.2.2.1 (2 ^ (min (Int.toNat t.2.1) 64))):=by unfold Zm4;rw[if_neg (by omega)];rfl
 rw[hsh]
 have hx:0<=Int.fdiv q.2.2.2.2.2.2.2.2.1 (2 ^ (min (Int.toNat t.2.1) 64))/\Int.fdiv q.2.2.2.2.2.2.2.2.1 (2 ^ (min (Int.toNat t.2.1) 64))<=255:=by have hp: (0:Int)<2 ^ (min (Int.toNat t.2.1) 64):=Int.pow_pos (by omega);rw[Int.fdiv_eq_ediv_of_nonneg _ (Int.le_of_lt hp)];exact⟨Int.ediv_nonneg hq.1 (Int.le_of_lt hp),Int.le_trans (Int.ediv_le_self _ hq.1) hq.2⟩
 generalize Int.fdiv q.2.2.2.2.2.2.2.2.1 (2 ^ (min (Int.toNat t.2.1) 64))=x at*
 have hand:decide (Int.tmod x 2=1)=decide (Zlw .i64 x 1=1):=by
  obtain⟨k,rfl⟩: ∃k:Nat,x=(k:Int):=⟨x.toNat,by omega⟩
  have e:Zlw .i64 (k:Int) 1=((k % 2:Nat):Int):=by
   unfold Zlw
   have h: (BitVec.ofInt IntKind.i64.bits (k:Int) &&& BitVec.ofInt IntKind.i64.bits 1).toNat=k % 2:=by rw[BitVec.toNat_and];show _ &&& 1=_;rw[Nat.and_one_is_mod,BitVec.ofInt_natCast,BitVec.toNat_ofNat];show k % 18446744073709551616 % 2=k % 2;omega
   rw[h];have:k % 2=0\/k % 2=1:=by omega
   rcases this with h|h<;>rw[h]<;>rfl
  rw[e,Int.tmod_eq_emod_of_nonneg (by omega)];exact decide_eq_decide.2 (by omega)
 simp only[bind_some,hand]
 cases r.2.2.2.2.2.2.1<;>cases r.2.2.2.2.2.1<;>cases q.2.2.2.2.2.2.1<;>cases q.2.2.2.2.2.2.2.1<;>cases t.2.2.1<;>cases decide (q.2.2.2.2.2.2.2.2.1=0)<;>rfl
theorem Ztz{a b:Bool}(h: ¬ (a=true\/b=false)):a=false/\b=true:=by cases a<;>cases b<;>simp_all
def Znv(n:Zay)(q:Za3)(a b v:Int):Prop:=(v= -1/\ ∀p∈Zbl n q,p.1=a->p.2.1=b->False)\/((∃p∈Zbl n q,p.1=a/\p.2.1=b/\p.2.2.1=v)/\0<=v/\ ∀p∈Zbl n q,p.1=a->p.2.1=b->v<=p.2.2.1)
theorem Zfx(hp:n.2.2.2.2.1.length<=4096)(hpp: ∀p∈n.2.2.2.2.1,1<=p.2.2.1)(a b:Int): ∃v:Int,F107 n q a b=some (v,decide (0<=v))/\Znv n q a b v:=by
 unfold F107
 have key: ∀o:Option Int,(∃r,o=some r/\Znv n q a b r)-> ∃v:Int,(Option.bind o fun x3=>some (x3,decide ((0:Int)<=x3)))=some (v,decide (0<=v))/\Znv n q a b v:=by rintro o ⟨r,rfl,h⟩;exact⟨r,rfl,h⟩
 refine key _ ?_
 have conv: ∀ (l:List Zcf) (v:Int),((v= -1/\ ∀p∈l,(p.2.2.2.1=true\/q.2.2.2.2.2.2.1=false)->p.1=a->p.2.1=b->False)\/((∃p∈l,(p.2.2.2.1=true\/q.2.2.2.2.2.2.1=false)/\p.1=a/\p.2.1=b/\p.2.2.1=v)/\0<=v/\ ∀p∈l,(p.2.2.2.1=true\/q.2.2.2.2.2.2.1=false)->p.1=a->p.2.1=b->v<=p.2.2.1))->l=n.2.2.2.2.1->Znv n q a b v:=by
  rintro l v h rfl;rcases h with ⟨h1,h2⟩ | ⟨⟨p,p1,p2,p3⟩,h2,h3⟩
  ·exact .inl ⟨h1,fun p hp=>h2 p (Zb4.1 hp).1 (Zb4.1 hp).2⟩
  ·exact .inr ⟨⟨p,Zb4.2 ⟨p1,p2⟩,p3⟩,h2,fun p hp=>h3 p (Zb4.1 hp).1 (Zb4.1 hp).2⟩
 refine ZaX n.2.2.2.2.1.length _ (fun i (st:Int×Int)=>st.2=(i:Int)/\((st.1= -1/\ ∀p∈n.2.2.2.2.1.take i,(p.2.2.2.1=true\/q.2.2.2.2.2.2.1=false)->p.1=a->p.2.1=b->False)\/((∃p∈n.2.2.2.2.1.take i,(p.2.2.2.1=true\/q.2.2.2.2.2.2.1=false)/\p.1=a/\p.2.1=b/\p.2.2.1=st.1)/\0<=st.1/\ ∀p∈n.2.2.2.2.1.take i,(p.2.2.2.1=true\/q.2.2.2.2.2.2.1=false)->p.1=a->p.2.1=b->st.1<=p.2.2.1))) ?_ ?_ _ ⟨rfl, .inl ⟨rfl,by simp⟩⟩
 ·rintro i ⟨v,j⟩ hi ⟨hj,hv⟩;simp only at hj hv;subst hj;left;have h1:=hpp _ (List.getElem_mem hi);rw[List.take_succ_eq_append_getElem hi];generalize n.2.2.2.2.1.take i=l at*;simp only[Zax hi,cond_true,Zah hi,bind_some,Zal hi (show _<=9223372036854775807 by omega)];generalize n.2.2.2.2.1[i]=p at*
  have keep: (¬ ((p.2.2.2.1=true\/q.2.2.2.2.2.2.1=false)/\p.1=a/\p.2.1=b)\/(0<=v/\v<=p.2.2.1))->((v= -1/\ ∀x∈l++[p],(x.2.2.2.1=true\/q.2.2.2.2.2.2.1=false)->x.1=a->x.2.1=b->False)\/((∃x∈l++[p],(x.2.2.2.1=true\/q.2.2.2.2.2.2.1=false)/\x.1=a/\x.2.1=b/\x.2.2.1=v)/\0<=v/\ ∀x∈l++[p],(x.2.2.2.1=true\/q.2.2.2.2.2.2.1=false)->x.1=a->x.2.1=b->v<=x.2.2.1)):=by
   intro hno;rcases hv with ⟨a1,a2⟩ | ⟨⟨y,y1,y2⟩,a2,a3⟩
   ·refine .inl ⟨a1,fun x hx b1 b2 b3=> ?_⟩;rcases List.mem_append.1 hx with hx|hx
    ·exact a2 x hx b1 b2 b3
    ·simp only[List.mem_singleton]at hx;subst hx;rcases hno with hno|hno
     ·exact hno ⟨b1,b2,b3⟩
     ·omega
   ·refine .inr ⟨⟨y,List.mem_append_left _ y1,y2⟩,a2,fun x hx b1 b2 b3=> ?_⟩;rcases List.mem_append.1 hx with hx|hx
    ·exact a3 x hx b1 b2 b3
    ·simp only[List.mem_singleton]at hx;subst hx;rcases hno with hno|hno
     ·exact absurd ⟨b1,b2,b3⟩ hno
     ·exact hno.2
  have take' : (p.2.2.2.1=true\/q.2.2.2.2.2.2.1=false)->p.1=a->p.2.1=b->(v<0\/p.2.2.1<v)->((p.2.2.1= -1/\ ∀x∈l++[p],(x.2.2.2.1=true\/q.2.2.2.2.2.2.1=false)->x.1=a->x.2.1=b->False)\/((∃x∈l++[p],(x.2.2.2.1=true\/q.2.2.2.2.2.2.1=false)/\x.1=a/\x.2.1=b/\x.2.2.1=p.2.2.1)/\0<=p.2.2.1/\ ∀x∈l++[p],(x.2.2.2.1=true\/q.2.2.2.2.2.2.1=false)->x.1=a->x.2.1=b->p.2.2.1<=x.2.2.1)):=by
   intro c1 c2 c3 c4;refine .inr ⟨⟨p,by simp,c1,c2,c3,rfl⟩,by omega,fun x hx b1 b2 b3=> ?_⟩;rcases List.mem_append.1 hx with hx|hx
   ·rcases hv with ⟨a1,a2⟩ | ⟨_,a2,a3⟩
    ·exact(a2 x hx b1 b2 b3).elim
    ·have:=a3 x hx b1 b2 b3;omega
   ·simp only[List.mem_singleton]at hx;subst hx;exact Int.le_refl _
  by_cases e1:p.1=a
  rotate_left
  ·rw[decide_eq_false e1];exact⟨_,rfl,rfl,keep (.inl fun h=>e1 h.2.1)⟩
  by_cases e2:p.2.1=b
  rotate_left
  ·rw[decide_eq_true e1,decide_eq_false e2];exact⟨_,rfl,rfl,keep (.inl fun h=>e2 h.2.2)⟩
  rw[decide_eq_true e1,decide_eq_true e2];simp only[cond_true];by_cases e3:p.2.2.2.1=true\/q.2.2.2.2.2.2.1=false
  rotate_left
  ·obtain⟨a1,a2⟩:=Ztz e3
   have e5: ∀X:Option Bool,(bif p.2.2.2.1 then X else bif !q.2.2.2.2.2.2.1 then X else some false)=some false:=by intro X;rw[a1,a2];rfl
   erw[e5];exact⟨_,rfl,rfl,keep (.inl fun h=>e3 h.1)⟩
  have e4: (bif p.2.2.2.1 then bif decide (v< (0:Int)) then some true else some (decide (p.2.2.1<v)) else bif !q.2.2.2.2.2.2.1 then bif decide (v< (0:Int)) then some true else some (decide (p.2.2.1<v)) else some false)=some (decide (v<0) ||decide (p.2.2.1<v)):=by
   rcases e3 with e|e<;>rw[e]
   ·cases decide (v<0)<;>rfl
   ·cases p.2.2.2.1<;>cases decide (v<0)<;>rfl
  erw[e4];simp only[bind_some];by_cases e6:v<0\/p.2.2.1<v
  ·have: (decide (v<0) ||decide (p.2.2.1<v))=true:=by simpa using e6
   rw[this];exact⟨_,rfl,rfl,take' e3 e1 e2 e6⟩
  ·have: (decide (v<0) ||decide (p.2.2.1<v))=false:=by rw[Bool.or_eq_false_iff,decide_eq_false_iff_not,decide_eq_false_iff_not];omega
   rw[this];exact⟨_,rfl,rfl,keep (.inr (by omega))⟩
 ·rintro ⟨v,j⟩ ⟨hj,hv⟩;simp only at hj hv;subst hj;simp only[Zaw,cond_false]
  exact⟨_,rfl,conv _ v hv List.take_length⟩
theorem ZgD(h:Zdc n)(a c b d:Nat)(st:Bool): ∃r,F102 n (a:Int) (c:Int) (b:Int) (d:Int) st=some r/\(r=true↔isLink n a c b d st):=by
 unfold F102;have hl:=h.sound.links
 have key: ∀o:Option (Unit ⊕ Bool),(∃r,o=some r/\((r= .inl ()/\ ¬isLink n a c b d st)\/(r= .inr true/\isLink n a c b d st)))-> ∃r,(Option.bind o fun x3=>Sum.elim (fun _=>some false) (fun y5=>some y5) x3)=some r/\(r=true↔isLink n a c b d st):=by
  rintro o ⟨r,rfl,⟨rfl,h⟩ | ⟨rfl,h⟩⟩
  ·exact⟨false,rfl,by simp [h]⟩
  ·exact⟨true,rfl,by simp [h]⟩
 refine key _ ?_;refine ZaX n.2.2.2.1.length _ (fun i (s:Int)=>s=(i:Int)/\((a:Int),(c:Int),(b:Int),(d:Int),st,()) ∉ n.2.2.2.1.take i) ?_ ?_ _ ⟨rfl,by simp⟩
 ·rintro i _ hi ⟨rfl,hno⟩;simp only[Zax hi,cond_true,Zah hi,bind_some,Zal hi (show _<=9223372036854775807 by omega)];obtain⟨a',c',b',d',s',e,_⟩:=h.link _ (List.getElem_mem hi);rw[List.take_succ_eq_append_getElem hi];have hmem:=List.getElem_mem hi;generalize n.2.2.2.1[i]=x at*;subst e;by_cases hx: ((a' :Int),(c' :Int),(b' :Int),(d' :Int),s',())=(((a:Int),(c:Int),(b:Int),(d:Int),st,()):ZjT)
  ·right;simp only[Prod.mk.injEq]at hx;obtain⟨h1,h2,h3,h4,h5,_⟩:=hx;subst h5;rw[decide_eq_true h1,decide_eq_true h2,decide_eq_true h3,decide_eq_true h4];refine⟨.inr true,by simp, .inr ⟨rfl, ?_⟩⟩;unfold isLink;rw[<-h1, <-h2, <-h3, <-h4];exact hmem
  ·left
   have hf: (bif decide ((a' :Int)=a) then bif decide ((c' :Int)=c) then bif decide ((b' :Int)=b) then bif decide ((d' :Int)=d) then some (s' ==st) else some false else some false else some false else some false)=some false:=by
    by_cases h1: (a' :Int)=a
    ·by_cases h2: (c' :Int)=c
     ·by_cases h3: (b' :Int)=b
      ·by_cases h4: (d' :Int)=d
       ·have h5:s' ≠st:=fun h5=>hx (by rw[h1,h2,h3,h4,h5]);rw[decide_eq_true h1,decide_eq_true h2,decide_eq_true h3,decide_eq_true h4];simp only[cond_true];exact congrArg some (beq_eq_false_iff_ne.2 h5)
       ·rw[decide_eq_true h1,decide_eq_true h2,decide_eq_true h3,decide_eq_false h4];rfl
      ·rw[decide_eq_true h1,decide_eq_true h2,decide_eq_false h3];rfl
     ·rw[decide_eq_true h1,decide_eq_false h2];rfl
    ·rw[decide_eq_false h1];rfl
   rw[hf];refine⟨_,rfl,rfl,fun hm=> ?_⟩;rcases List.mem_append.1 hm with hm|hm
   ·exact hno hm
   ·simp only[List.mem_singleton]at hm;exact hx hm.symm
 ·rintro _ ⟨rfl,hno⟩;rw[List.take_length]at hno;simp only[Zaw,cond_false];exact⟨_,rfl, .inl ⟨rfl,hno⟩⟩
end Q
namespace Q
open Tr Go
open Option (bind_some)
variable {n:Zay}{q:Za3}
abbrev ZdW:=List (List Bool) ×List (List Bool) ×List Bool×Unit
def tt(l:List (List Bool))(i c:Nat):Prop:= ∃row,l[i]? =some row/\row[c]? =some true
def ts(l:List Bool)(i:Nat):Prop:=l[i]? =some true
structure Ziu (n:Zay) (s:ZdW):Prop where
 bl:s.1.length=n.2.2.1.length
 br: ∀ (i:Nat) row,s.1[i]? =some row->row.length=(Zad n i).length
 al:s.2.1.length=n.2.2.1.length
 ar: ∀ (i:Nat) row,s.2.1[i]? =some row->row.length=(Zad n i).length
 sl:s.2.2.1.length=n.2.2.1.length
structure NQ (n:Zay) (q:Za3):Prop where
 net:Zdc n
 paths:n.2.2.2.2.1.length<=4096
 stop:0<=q.1/\q.1< (n.1.length:Int)
 time:0<=q.2.2.1/\q.2.2.1<=3155932800
 mode:0<=q.2.2.2.2.2.2.2.2.1/\q.2.2.2.2.2.2.2.2.1<=255
def ZcF(n:Zay)(q:Za3):Int:=bif q.2.2.2.2.2.2.2.2.2.1 then(Zb2 n q.1).2.2.2.1 else 0
def Beg(n:Zay)(q:Za3)(i c:Nat):Prop:=((Zab n i c).1=q.1/\q.2.2.1+ZcF n q<=(Zab n i c).2.2.1)\/ ∃p∈Zbl n q,p.1=q.1/\p.2.1=(Zab n i c).1/\q.2.2.1+p.2.2.1<=(Zab n i c).2.2.1
def Chg(n:Zay)(q:Za3)(k d i c:Nat):Prop:=((Zab n k d).1=(Zab n i c).1/\((Zab n k d).2.1+(Zb2 n (Zab n k d).1).2.2.2.1<=(Zab n i c).2.2.1\/(Zab n k d).2.1<=(Zab n i c).2.2.1/\isLink n k d i c false))\/
 ∃p∈Zbl n q,p.1=(Zab n k d).1/\p.2.1=(Zab n i c).1/\(Zab n k d).2.1+p.2.2.1<=(Zab n i c).2.2.1
def Abd(s:ZdW)(i c:Nat):Prop:=(0<c/\ts s.2.2.1 i)\/ ∃b,b<c/\tt s.1 i b
def Opn(n:Zay)(q:Za3)(s:ZdW)(i c:Nat):Prop:=(Zab n i c).2.2.2.1=true/\ZfC n q (Zab n i c).1=true/\(Beg n q i c\/ ∃k d,k<n.2.2.1.length/\tt s.2.1 k d/\Chg n q k d i c)
def Sty(n:Zay)(s:ZdW)(i:Nat):Prop:= ∃k,k<n.2.2.1.length/\isLink n k ((Zad n k).length - 1) i 0 true/\Abd s k ((Zad n k).length - 1)/\(Zab n k ((Zad n k).length - 1)).2.1<=(Zab n i 0).2.2.1
theorem Zfi{i:Nat}(hi:i<n.2.2.1.length):idx n.2.2.1 (i:Int)=some n.2.2.1[i]/\(n.2.2.1[i]).2.2.2.2.2.2.2.1=Zad n i:=⟨Zah hi,(ZaO hi).symm⟩
theorem ZeF{i c:Nat}(hc:c< (Zad n i).length):idx (Zad n i) (c:Int)=some (Zab n i c):=by rw[Zah hc,Zb9 hc]
theorem ZhU(h:NQ n q){p:Zcf}(hp:p∈Zbl n q):p.1≠p.2.1/\1<=p.2.2.1/\p.2.2.1<=14400:=by have:=h.net.path p (Zb4.1 hp).1;omega
theorem Zpt(h:NQ n q){i c:Nat}(hi:i<n.2.2.1.length)(hc:c< (Zad n i).length): ∃b,F99 n q (i:Int) (c:Int)=some b/\(b=true↔Beg n q i c):=by
 obtain⟨e1,e2⟩:=Zfi hi;have ht:=h.net.time hi hc;have htm:=h.time;have hw:0<=ZcF n q/\ZcF n q<=3600:=Zre h.net h.stop _;unfold F99;rw[e1];simp only[bind_some,e2];rw[ZeF hc];simp only[bind_some];by_cases hs: (Zab n i c).1=q.1
 ·rw[decide_eq_true hs];simp only[cond_true]
  have ew: (bif q.2.2.2.2.2.2.2.2.2.1 then Option.bind (idx n.1 q.1) fun x2=>some x2.2.2.2.1 else some (0:Int))=some (ZcF n q):=by
   unfold ZcF
   cases q.2.2.2.2.2.2.2.2.2.1 with
   |false=>rfl
   |true=>
    simp only[cond_true];rw[(ZcP h.net.sound h.stop.1 h.stop.2).1];rfl
  rw[ew];simp only[bind_some];refine⟨_,rfl, ?_⟩;rw[decide_eq_true_eq,Zaj (by omega) (by omega)];unfold Beg;constructor
  ·exact fun e=> .inl ⟨hs,e⟩
  ·rintro (⟨_,e⟩ | ⟨p,p1,p2,p3,_⟩)
   ·exact e
   ·have:=(ZhU h p1).1;omega
 ·rw[decide_eq_false hs];simp only[cond_false];obtain⟨v,v1,v2⟩:=Zfx (q:=q) h.paths (fun p hp=>by have:=h.net.path p hp;omega) q.1 (Zab n i c).1;rw[v1];simp only[bind_some];rcases v2 with ⟨rfl,hno⟩ | ⟨⟨p,p1,p2,p3,p4⟩,h0,hmin⟩
  ·refine⟨false,rfl, ?_⟩;simp only[Bool.false_eq_true,false_iff];rintro (⟨e,_⟩ | ⟨p,p1,p2,p3,_⟩)
   ·exact hs e
   ·exact hno p p1 p2 p3
  ·have hpp:=ZhU h p1;rw[decide_eq_true h0];simp only[cond_true,bind_some];refine⟨_,rfl, ?_⟩;rw[decide_eq_true_eq,Zaj (by omega) (by omega)];constructor
   ·intro e;have e' :q.2.2.1<=(Zab n i c).2.2.1 - v:=e;exact .inr ⟨p,p1,p2,p3,by omega⟩
   ·rintro (⟨e,_⟩ | ⟨x,x1,x2,x3,x4⟩)
    ·exact absurd e hs
    ·have:=hmin x x1 x2 x3;show q.2.2.1<=(Zab n i c).2.2.1 - v;omega
theorem Zoy(h:NQ n q){k d i c:Nat}(hk:k<n.2.2.1.length)(hd:d< (Zad n k).length)(hi:i<n.2.2.1.length)(hc:c< (Zad n i).length): ∃b,F101 n q (k:Int) (d:Int) (i:Int) (c:Int)=some b/\(b=true↔Chg n q k d i c):=by
 obtain⟨e1,e2⟩:=Zfi hi;obtain⟨e3,e4⟩:=Zfi hk;have ht:=h.net.time hi hc;have ht2:=h.net.time hk hd;have hst:=h.net.stop hk hd;have hcg:=h.net.change _ hst.1 hst.2;unfold F101;rw[e3,e1];simp only[bind_some,e2,e4];rw[ZeF hc,ZeF hd];simp only[bind_some];by_cases hs: (Zab n k d).1=(Zab n i c).1
 ·rw[decide_eq_true hs];simp only[cond_true];rw[(ZcP h.net.sound hst.1 hst.2).1];simp only[bind_some];rw[Zaj (by omega) (by omega)];obtain⟨r,r1,r2⟩:=ZgD h.net k d i c false;have hno: ∀p∈Zbl n q,p.1=(Zab n k d).1->p.2.1=(Zab n i c).1->False:=fun p hp a b=>by have:=(ZhU h hp).1;omega
  by_cases h1: (Zab n k d).2.1+(Zb2 n (Zab n k d).1).2.2.2.1<=(Zab n i c).2.2.1
  ·rw[decide_eq_true h1];exact⟨true,rfl,by simp only[true_iff];exact .inl ⟨hs, .inl h1⟩⟩
  ·rw[decide_eq_false h1];simp only[cond_false];by_cases h2: (Zab n k d).2.1<=(Zab n i c).2.2.1
   ·rw[decide_eq_true h2];simp only[cond_true];rw[r1];simp only[bind_some];refine⟨r,rfl,r2.trans ⟨fun e=> .inl ⟨hs, .inr ⟨h2,e⟩⟩, ?_⟩⟩;rintro (⟨_,e|e⟩ | ⟨p,p1,p2,p3,_⟩)
    ·exact absurd e h1
    ·exact e.2
    ·exact(hno p p1 p2 p3).elim
   ·rw[decide_eq_false h2];refine⟨false,rfl, ?_⟩;simp only[Bool.false_eq_true,false_iff];rintro (⟨_,e|e⟩ | ⟨p,p1,p2,p3,_⟩)
    ·exact h1 e
    ·exact h2 e.1
    ·exact hno p p1 p2 p3
 ·rw[decide_eq_false hs];simp only[cond_false];obtain⟨v,v1,v2⟩:=Zfx (q:=q) h.paths (fun p hp=>by have:=h.net.path p hp;omega) (Zab n k d).1 (Zab n i c).1;rw[v1];simp only[bind_some];rcases v2 with ⟨rfl,hno⟩ | ⟨⟨p,p1,p2,p3,p4⟩,h0,hmin⟩
  ·refine⟨false,rfl, ?_⟩;simp only[Bool.false_eq_true,false_iff];rintro (⟨e,_⟩ | ⟨p,p1,p2,p3,_⟩)
   ·exact hs e
   ·exact hno p p1 p2 p3
  ·have hpp:=ZhU h p1;rw[decide_eq_true h0];simp only[cond_true,bind_some];refine⟨_,rfl, ?_⟩;rw[decide_eq_true_eq,Zaj (by omega) (by omega)];constructor
   ·exact fun e=> .inr ⟨p,p1,p2,p3,by omega⟩
   ·rintro (⟨e,_⟩ | ⟨x,x1,x2,x3,x4⟩)
    ·exact absurd e hs
    ·have:=hmin x x1 x2 x3;omega
theorem ZuZ{τ:Type}{m:Nat}{step:Int->Option (Int ⊕ (Unit ⊕ τ))}{P:Nat->Prop}{y:τ}(hs: ∀i:Nat,i<m->(P i/\step (i:Int)=some (.inr (.inr y)))\/(¬P i/\step (i:Int)=some (.inl ((i+1:Nat):Int))))(he:step (m:Int)=some (.inr (.inl ()))):
  ∃r,run step (0:Int)=some r/\((r= .inr y/\ ∃i,i<m/\P i)\/(r= .inl ()/\ ∀i,i<m-> ¬P i)):=by
 refine ZaX m _ (fun i (s:Int)=>s=(i:Int)/\ ∀j,j<i-> ¬P j) ?_ ?_ _ ⟨rfl,fun j hj=>absurd hj (Nat.not_lt_zero j)⟩
 ·rintro i _ hi ⟨rfl,hno⟩;rcases hs i hi with ⟨h1,h2⟩ | ⟨h1,h2⟩
  ·exact .inr ⟨_,h2, .inl ⟨rfl,i,hi,h1⟩⟩
  ·refine .inl ⟨_,h2,rfl,fun j hj=> ?_⟩;by_cases e:j=i
   ·subst e;exact h1
   ·exact hno j (by omega)
 ·rintro _ ⟨rfl,hno⟩;exact⟨_,he, .inr ⟨rfl,hno⟩⟩
theorem ZhD{o:Option (Unit ⊕ Bool)}{P:Prop}(h: ∃r,o=some r/\((r= .inr true/\P)\/(r= .inl ()/\ ¬P))): ∃b,(Option.bind o fun x=>Sum.elim (fun _=>some false) (fun y=>some y) x)=some b/\(b=true↔P):=by
 obtain⟨r,rfl,⟨rfl,h⟩ | ⟨rfl,h⟩⟩:=h
 ·exact⟨true,rfl,by simp [h]⟩
 ·exact⟨false,rfl,by simp [h]⟩
theorem ZhQ{l:List (List Bool)}{i c m:Nat}(hi:i<l.length)(hr: ∀row,l[i]? =some row->row.length=m)(hc:c<m): ∃row b,l[i]? =some row/\idx l (i:Int)=some row/\row.length=m/\row[c]? =some b/\idx row (c:Int)=some b/\(b=true↔tt l i c):=by
 have h1:=List.getElem?_eq_getElem hi;have h2:=hr _ h1;have hcl:c<l[i].length:=by omega
 refine⟨l[i],l[i][c],h1,Zah hi,h2,List.getElem?_eq_getElem hcl,Zah hcl, ?_⟩;unfold tt;rw[h1];constructor
 ·intro e;exact⟨_,rfl,by rw[List.getElem?_eq_getElem hcl,e]⟩
 ·rintro ⟨row,e1,e2⟩;cases e1;rw[List.getElem?_eq_getElem hcl]at e2;exact Option.some.inj e2
theorem Zle(h:NQ n q){s:ZdW}(hS:Ziu n s){i c:Nat}(hi:i<n.2.2.1.length)(hc:c< (Zad n i).length): ∃b,F98 s (i:Int) (c:Int)=some b/\(b=true↔Abd s i c):=by
 have hlen:=(h.net.sound.many _ (List.getElem_mem hi)).2;have hcl: (Zad n i).length<=32:=by rw[ZaO hi];exact hlen
 unfold F98;have hsl:i<s.2.2.1.length:=by rw[hS.sl];exact hi
 have hbl:i<s.1.length:=by rw[hS.bl];exact hi
 have e1: ∃b,(bif decide ((0:Int)< (c:Int)) then Option.bind (idx s.2.2.1 (i:Int)) fun x0=>some x0 else some false)=some b/\(b=true↔(0<c/\ts s.2.2.1 i)):=by
  by_cases h0:0<c
  ·rw[decide_eq_true (show (0:Int)< (c:Int) by omega),Zah hsl];refine⟨_,rfl, ?_⟩;unfold ts;rw[List.getElem?_eq_getElem hsl];simp [h0]
  ·rw[decide_eq_false (show¬ (0:Int)< (c:Int) by omega)];exact⟨false,rfl,by simp [h0]⟩
 obtain⟨b,b1,b2⟩:=e1;rw[b1];simp only[bind_some]
 cases b with
 |true=>exact⟨true,rfl,by simp only[true_iff];exact .inl (b2.1 rfl)⟩
 |false=>
  simp only[cond_false];have hn1: ¬ (0<c/\ts s.2.2.1 i):=fun e=>by have:=b2.2 e;cases this
  obtain⟨r,r1,r2⟩:=ZhD (P:= ∃m,m<c/\tt s.1 i m) (o:=run (fun s2:Int=>
   bif decide (s2< (c:Int)) then
   Option.bind (idx s.1 (i:Int)) fun x3=>
   Option.bind (idx x3 s2) fun x4=>bif x4 then some (.inr (.inr true)) else some (.inl (IntKind.wrap .i64 (s2+(1:Int))))
   else some (.inr (.inl ()))) (0:Int)) (by
    obtain⟨r,r1,r2⟩:=ZuZ (m:=c) (P:=fun m=>tt s.1 i m) (y:=true) (step:=fun s2:Int=>
     bif decide (s2< (c:Int)) then
     Option.bind (idx s.1 (i:Int)) fun x3=>
     Option.bind (idx x3 s2) fun x4=>bif x4 then some (.inr (.inr true)) else some (.inl (IntKind.wrap .i64 (s2+(1:Int))))
     else some (.inr (.inl ()))) (fun m hm=>by
      obtain⟨row,b,g1,g2,g3,g4,g5,g6⟩:=ZhQ hbl (hS.br i) (show m< (Zad n i).length by omega);simp only[Zax hm,cond_true,g2,bind_some,g5,Zal hm (show c<=9223372036854775807 by omega)]
      cases b with
      |true=>exact .inl ⟨g6.1 rfl,rfl⟩
      |false=>exact .inr ⟨fun e=>(by have:=g6.2 e;cases this),rfl⟩) (by simp only[Zaw,cond_false])
    refine⟨r,r1, ?_⟩;rcases r2 with ⟨e,m,m1,m2⟩ | ⟨e,hno⟩
    ·exact .inl ⟨e,m,m1,m2⟩
    ·exact .inr ⟨e,fun⟨m,m1,m2⟩=>hno m m1 m2⟩)
  refine⟨r,r1,r2.trans ⟨fun e=> .inr e,fun e=>e.resolve_left hn1⟩⟩
theorem ZrB(h:NQ n q){s:ZdW}(hS:Ziu n s){i c:Nat}(hi:i<n.2.2.1.length)(hc:c< (Zad n i).length): ∃b,F103 n q s (i:Int) (c:Int)=some b/\(b=true↔Opn n q s i c):=by
 obtain⟨e1,e2⟩:=Zfi hi;have hst:=h.net.stop hi hc;have hrn:=h.net.sound.runs;unfold F103;rw[e1];simp only[bind_some,e2];rw[ZeF hc];simp only[bind_some];rw[Zga q (Zcz.2 hst)];simp only[bind_some]
 have e3: (bif !(Zab n i c).2.2.2.1 then some true else some !ZfC n q (Zab n i c).1)=some (!((Zab n i c).2.2.2.1&&ZfC n q (Zab n i c).1)):=by
  cases (Zab n i c).2.2.2.1<;>rfl
 rw[e3];simp only[bind_some]
 cases hb: ((Zab n i c).2.2.2.1&&ZfC n q (Zab n i c).1) with
 |false=>
  refine⟨false,rfl, ?_⟩;simp only[Bool.false_eq_true,false_iff];rintro ⟨a,b,_⟩
  rw[a,b]at hb;cases hb
 |true=>
  rw[Bool.and_eq_true]at hb;simp only[Bool.not_true,cond_false];obtain⟨b,b1,b2⟩:=Zpt h hi hc;rw[b1];simp only[bind_some]
  cases b with
  |true=>exact⟨true,rfl,by simp only[true_iff];exact⟨hb.1,hb.2, .inl (b2.1 rfl)⟩⟩
  |false=>
   simp only[cond_false];have hnb: ¬Beg n q i c:=fun e=>by have:=b2.2 e;cases this
   have hin: ∀k,k<n.2.2.1.length-> ∃r,run (σ:=Int) (τ:=Unit ⊕ Bool) (fun s6:Int=>Option.bind (idx n.2.2.1 (k:Int)) fun x7=>
     bif decide (s6< (↑(List.length x7.2.2.2.2.2.2.2.1):Int)) then
     Option.bind (Option.bind (idx s.2.1 (k:Int)) fun x8=>Option.bind (idx x8 s6) fun x9=>bif x9 then Option.bind (F101 n q (k:Int) s6 (i:Int) (c:Int)) fun x10=>some x10 else some false)
     fun x11=>bif x11 then some (.inr (.inr true)) else some (.inl (IntKind.wrap .i64 (s6+(1:Int))))
     else some (.inr (.inl ()))) (0:Int)=some r/\((r= .inr true/\ ∃d,d< (Zad n k).length/\tt s.2.1 k d/\Chg n q k d i c)\/(r= .inl ()/\ ∀d,d< (Zad n k).length-> ¬ (tt s.2.1 k d/\Chg n q k d i c))):=by
    intro k hk;obtain⟨e5,e6⟩:=Zfi hk;have hkl:k<s.2.1.length:=by rw[hS.al];exact hk
    have hcl: (Zad n k).length<=32:=by rw[ZaO hk];exact(h.net.sound.many _ (List.getElem_mem hk)).2
    refine ZuZ (fun d hd=> ?_) (by rw[e5];simp only[bind_some,e6,Zaw,cond_false]);obtain⟨row,b,g1,g2,g3,g4,g5,g6⟩:=ZhQ hkl (hS.ar k) hd;obtain⟨x,x1,x2⟩:=Zoy h hk hd hi hc;rw[e5];simp only[bind_some,e6,Zax hd,cond_true,g2,g5,Zal hd (show _<=9223372036854775807 by omega)]
    cases b with
    |false=>exact .inr ⟨fun e=>(by have:=g6.2 e.1;cases this),rfl⟩
    |true=>
     simp only[cond_true,x1,bind_some]
     cases x with
     |true=>exact .inl ⟨⟨g6.1 rfl,x2.1 rfl⟩,rfl⟩
     |false=>exact .inr ⟨fun e=>(by have:=x2.2 e.2;cases this),rfl⟩
   have hall:=ZhD (P:= ∃k d,k<n.2.2.1.length/\tt s.2.1 k d/\Chg n q k d i c) (o:=run (σ:=Int) (τ:=Unit ⊕ Bool) (fun s5:Int=>
     bif decide (s5< (↑(List.length n.2.2.1):Int)) then
     Option.bind (run (σ:=Int) (τ:=Unit ⊕ Bool) (fun s6:Int=>Option.bind (idx n.2.2.1 s5) fun x7=>
     bif decide (s6< (↑(List.length x7.2.2.2.2.2.2.2.1):Int)) then
     Option.bind (Option.bind (idx s.2.1 s5) fun x8=>Option.bind (idx x8 s6) fun x9=>bif x9 then Option.bind (F101 n q s5 s6 (i:Int) (c:Int)) fun x10=>some x10 else some false)
     fun x11=>bif x11 then some (.inr (.inr true)) else some (.inl (IntKind.wrap .i64 (s6+(1:Int))))
     else some (.inr (.inl ()))) (0:Int)) fun x12=>Sum.elim (fun _=>some (.inl (IntKind.wrap .i64 (s5+(1:Int))))) (fun y14=>some (.inr (.inr y14))) x12
     else some (.inr (.inl ()))) (0:Int)) (by
     obtain⟨r,r1,r2⟩:=ZuZ (m:=n.2.2.1.length) (P:=fun k=> ∃d,d< (Zad n k).length/\tt s.2.1 k d/\Chg n q k d i c) (y:=true) (step:=fun s5:Int=>
       bif decide (s5< (↑(List.length n.2.2.1):Int)) then
       Option.bind (run (σ:=Int) (τ:=Unit ⊕ Bool) (fun s6:Int=>Option.bind (idx n.2.2.1 s5) fun x7=>
       bif decide (s6< (↑(List.length x7.2.2.2.2.2.2.2.1):Int)) then
       Option.bind (Option.bind (idx s.2.1 s5) fun x8=>Option.bind (idx x8 s6) fun x9=>bif x9 then Option.bind (F101 n q s5 s6 (i:Int) (c:Int)) fun x10=>some x10 else some false)
       fun x11=>bif x11 then some (.inr (.inr true)) else some (.inl (IntKind.wrap .i64 (s6+(1:Int))))
       else some (.inr (.inl ()))) (0:Int)) fun x12=>Sum.elim (fun _=>some (.inl (IntKind.wrap .i64 (s5+(1:Int))))) (fun y14=>some (.inr (.inr y14))) x12
       else some (.inr (.inl ()))) (fun k hk=>by
       obtain⟨r,r1,r2⟩:=hin k hk;simp only[Zax hk,cond_true,r1,bind_some,Zal hk (show _<=9223372036854775807 by omega)];rcases r2 with ⟨rfl,hd⟩ | ⟨rfl,hno⟩
       ·exact .inl ⟨hd,rfl⟩
       ·exact .inr ⟨fun⟨d,d1,d2⟩=>hno d d1 d2,rfl⟩) (by simp only[Zaw,cond_false])
     refine⟨r,r1, ?_⟩;rcases r2 with ⟨e,k,k1,d,d1,d2⟩ | ⟨e,hno⟩
     ·exact .inl ⟨e,k,d,k1,d2⟩
     ·refine .inr ⟨e,fun⟨k,d,k1,d2⟩=>hno k k1 ⟨d, ?_,d2⟩⟩;obtain⟨row,g1,g2⟩:=d2.1;have:=(List.getElem?_eq_some_iff.1 g2).1;rw[hS.ar k row g1]at this;exact this)
   obtain⟨r,r1,r2⟩:=hall;exact⟨r,r1,r2.trans ⟨fun e=>⟨hb.1,hb.2, .inr e⟩,fun e=>e.2.2.resolve_left hnb⟩⟩
theorem ZrQ(h:NQ n q){s:ZdW}(hS:Ziu n s){i:Nat}(hi:i<n.2.2.1.length): ∃b,F105 n s (i:Int)=some b/\(b=true↔Sty n s i):=by
 have hrn:=h.net.sound.runs;unfold F105;have h2: ∀k,k<n.2.2.1.length->2<=(Zad n k).length/\(Zad n k).length<=32:=fun k hk=>by rw[ZaO hk];exact h.net.sound.many _ (List.getElem_mem hk)
 obtain⟨e1,e2⟩:=Zfi hi;refine ZhD ?_
 have:=ZuZ (m:=n.2.2.1.length) (P:=fun k=>isLink n k ((Zad n k).length - 1) i 0 true/\Abd s k ((Zad n k).length - 1)/\(Zab n k ((Zad n k).length - 1)).2.1<=(Zab n i 0).2.2.1) (y:=true) (step:=fun s0:Int=>
   bif decide (s0< (↑(List.length n.2.2.1):Int)) then
   Option.bind (idx n.2.2.1 s0) fun x1=>
   Option.bind
   (Option.bind (F102 n s0 (IntKind.wrap .i64 ((↑(List.length x1.2.2.2.2.2.2.2.1):Int) - (1:Int))) (i:Int) (0:Int) true) fun x2=>
   bif x2 then
   Option.bind (F98 s s0 (IntKind.wrap .i64 ((↑(List.length x1.2.2.2.2.2.2.2.1):Int) - (1:Int)))) fun x3=>
   bif x3 then
   Option.bind (idx n.2.2.1 (i:Int)) fun x4=>
   Option.bind (idx x4.2.2.2.2.2.2.2.1 (0:Int)) fun x5=>
   Option.bind (idx n.2.2.1 s0) fun x6=>
   Option.bind (idx x6.2.2.2.2.2.2.2.1 (IntKind.wrap .i64 ((↑(List.length x1.2.2.2.2.2.2.2.1):Int) - (1:Int)))) fun x7=>
   some (decide (x7.2.1<=x5.2.2.1))
   else some false
   else some false)
   fun x8=>bif x8 then some (.inr (.inr true)) else some (.inl (IntKind.wrap .i64 (s0+(1:Int))))
   else some (.inr (.inl ()))) (fun k hk=>by
   obtain⟨e3,e4⟩:=Zfi hk;have hk2:=h2 k hk;have w1:IntKind.wrap .i64 (((Zad n k).length:Int) - 1)=(((Zad n k).length - 1:Nat):Int):=by rw[Zaj (by omega) (by omega)];omega
   simp only[Zax hk,cond_true,e3,bind_some,e4,w1,Zal hk (show _<=9223372036854775807 by omega)];obtain⟨r,r1,r2⟩:=ZgD h.net k ((Zad n k).length - 1) i 0 true;rw[show ((0:Int))=((0:Nat):Int) from rfl,r1];simp only[bind_some]
   cases r with
   |false=>exact .inr ⟨fun e=>(by have:=r2.2 e.1;cases this),rfl⟩
   |true=>
    obtain⟨x,x1,x2⟩:=Zle h hS hk (show (Zad n k).length - 1<_ by omega);simp only[cond_true,x1,bind_some]
    cases x with
    |false=>exact .inr ⟨fun e=>(by have:=x2.2 e.2.1;cases this),rfl⟩
    |true=>
     have hi0:=(h2 i hi).1;simp only[cond_true,e1,bind_some,e2,ZeF (show 0< (Zad n i).length by omega),ZeF (show (Zad n k).length - 1< (Zad n k).length by omega)];by_cases ht: (Zab n k ((Zad n k).length - 1)).2.1<=(Zab n i 0).2.2.1
     ·rw[decide_eq_true ht];exact .inl ⟨⟨r2.1 rfl,x2.1 rfl,ht⟩,rfl⟩
     ·rw[decide_eq_false ht];exact .inr ⟨fun e=>ht e.2.2,rfl⟩) (by simp only[Zaw,cond_false])
 obtain⟨r,r1,r2⟩:=this;refine⟨r,r1, ?_⟩;rcases r2 with ⟨e,k,k1,k2⟩ | ⟨e,hno⟩
 ·exact .inl ⟨e,k,k1,k2⟩
 ·exact .inr ⟨e,fun⟨k,k1,k2⟩=>hno k k1 k2⟩
end Q
