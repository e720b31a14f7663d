/- Lines of a valid network: the list is made. Conditions: a valid network. -/
import Derived.Test.YtibiblkamaajeaaGreatJLxFilt41
import Derived.Test.YtibiblkamaajeaaGreatJLwJa2841
namespace Q
open Tr Go
open Option (bind_some)
def Zlk (x y:Zbd):Bool:=decide (x.1=y.1) && (x.2.2.2.1==y.2.2.2.1) && (x.2.2.2.2.1==y.2.2.2.2.1) && !decide (y.2.1<x.2.1) && !decide (y.2.2.1<x.2.2.1)
def ZuQ (a b:ZjR) (i:Nat):Int:=if Zlk (cl a.2.2.2.2.2.2.2.1 i) (cl b.2.2.2.2.2.2.2.1 i) then 0 else 1
def Ztx (a b:ZjR):Bool:=decide (a.2.2.2.2.1=b.2.2.2.2.1) && (a.2.2.2.2.2.1==b.2.2.2.2.2.1) &&decide (a.2.2.2.2.2.2.2.1.length=b.2.2.2.2.2.2.2.1.length) && (Zat a.2.2.2.2.2.2.2.1.length (ZuQ a b)).isNone
theorem Znd {l:List Zbd} {i:Nat} (h:i<l.length):cl l (i:Int)=l[i]:=by
 unfold cl
 rw[show ((i:Nat):Int).toNat=i from rfl,Zah h]
theorem Zlc (x y:Zbd):F33 x y=some (decide (x.1=y.1) && ((x.2.2.2.1==y.2.2.2.1) && (x.2.2.2.2.1==y.2.2.2.2.1))):=by
 unfold F33
 rw[decide_eq_true rfl]
 simp only[Bool.true_and]
theorem Zip (a b:ZjR) (hl:a.2.2.2.2.2.2.2.1.length≤9223372036854775807):F35 a b=some (Ztx a b):=by
 unfold F35 Ztx
 by_cases h1:a.2.2.2.2.1=b.2.2.2.2.1
 case neg=>simp only[decide_eq_false h1,Bool.not_false,cond_true,bind_some,Bool.false_and]
 simp only[decide_eq_true h1,Bool.not_true,cond_false,Bool.true_and]
 cases h2: (a.2.2.2.2.2.1==b.2.2.2.2.2.1) with
 |false=>simp only[Bool.not_false,cond_true,bind_some,Bool.false_and]
 |true=>
  simp only[Bool.not_true,cond_false,Bool.true_and]
  by_cases h3:a.2.2.2.2.2.2.2.1.length=b.2.2.2.2.2.2.2.1.length
  case neg=>
   have h3' : ¬ ((a.2.2.2.2.2.2.2.1.length:Int)=(b.2.2.2.2.2.2.2.1.length:Int)):=by omega
   simp only[decide_eq_false h3,decide_eq_false h3',Bool.not_false,cond_true,bind_some,Bool.false_and]
  have h3' : ((a.2.2.2.2.2.2.2.1.length:Int)=(b.2.2.2.2.2.2.2.1.length:Int)):=by omega
  simp only[decide_eq_true h3,decide_eq_true h3',Bool.not_true,cond_false,bind_some,Bool.true_and]
  rw[Za8 (n:=a.2.2.2.2.2.2.2.1.length) (fun i st=>st=(i:Int)) (ZuQ a b) (fun _=> .inr false) (.inl ()) ?_ ?_ ?_ (0:Int) rfl]
  ·unfold pick
   cases Zat a.2.2.2.2.2.2.2.1.length (ZuQ a b)<;>rfl
  ·rintro i _ hi rfl hc
   have hi' :i<b.2.2.2.2.2.2.2.1.length:=by omega
   have hok:Zlk a.2.2.2.2.2.2.2.1[i] b.2.2.2.2.2.2.2.1[i]=true:=by
    unfold ZuQ at hc
    rw[Znd hi,Znd hi'] at hc
    split at hc
    ·assumption
    ·omega
   simp only[Zlk,Bool.and_eq_true,Bool.not_eq_true',decide_eq_true_eq] at hok
   obtain⟨⟨⟨⟨k1,k2⟩,k3⟩,k4⟩,k5⟩:=hok
   refine⟨((i+1:Nat):Int), ?_,rfl⟩
   simp only[Zay hi,cond_true,Zag hi,Zag hi',bind_some,Zlc,decide_eq_true k1,k2,k3,k4,k5,Bool.and_self,Bool.not_true,cond_false,Zan hi hl]
  ·rintro i _ hi rfl hc
   have hi' :i<b.2.2.2.2.2.2.2.1.length:=by omega
   have hok:Zlk a.2.2.2.2.2.2.2.1[i] b.2.2.2.2.2.2.2.1[i]=false:=by
    unfold ZuQ at hc
    rw[Znd hi,Znd hi'] at hc
    split at hc
    ·omega
    ·rename_i hh;simpa using hh
   simp only[Zay hi,cond_true,Zag hi,Zag hi',bind_some,Zlc]
   unfold Zlk at hok
   generalize decide (a.2.2.2.2.2.2.2.1[i].1=b.2.2.2.2.2.2.2.1[i].1)=b1 at*
   generalize (a.2.2.2.2.2.2.2.1[i].2.2.2.1==b.2.2.2.2.2.2.2.1[i].2.2.2.1)=b2 at*
   generalize (a.2.2.2.2.2.2.2.1[i].2.2.2.2.1==b.2.2.2.2.2.2.2.1[i].2.2.2.2.1)=b3 at*
   generalize decide (b.2.2.2.2.2.2.2.1[i].2.1<a.2.2.2.2.2.2.2.1[i].2.1)=b4 at*
   generalize decide (b.2.2.2.2.2.2.2.1[i].2.2.1<a.2.2.2.2.2.2.2.1[i].2.2.1)=b5 at*
   revert hok
   cases b1<;>cases b2<;>cases b3<;>cases b4<;>cases b5<;>intro hok<;>first|rfl|exact absurd hok (by decide)
  ·rintro _ rfl
   simp only[ZaC,cond_false]
def ln (l:List Int) (i:Nat):Int:=(l[i]?).getD 0
theorem Zus {l:List Int} {i:Nat} (h:i<l.length):ln l i=l[i]:=Zah h 0
def Zui (x:ZjR):Bool:=x.2.2.2.2.2.2.1
theorem ZnW {n:ZaA} (hc: ∀x∈n.2.2.1,x.2.2.2.2.2.2.2.1.length≤9223372036854775807) (a:Int): (rn n a).2.2.2.2.2.2.2.1.length≤9223372036854775807:=by
 unfold rn
 cases h:n.2.2.1[a.toNat]? with
 |none=>simp [u0]
 |some x=>exact hc x (List.mem_of_getElem? h)
theorem ZlK {n:ZaA} {a:Int} (h:inR a n.2.2.1.length=true):idx n.2.2.1 a=some (rn n a):=Za1 h u0
abbrev calls (x:ZjR):List Zbd:=x.2.2.2.2.2.2.2.1
theorem ZsT {l:List Zbd} {c:Int} (h:inR c l.length=true):idx l c=some (cl l c):=Za1 h c0
def d0 (n:ZaA) (o:Int):Int:=(cl (calls (rn n o)) 0).2.2.1
def pLe (n:ZaA) (d o:Int):Bool:=decide (d0 n o≤d)
def Ztb (n:ZaA) (out:List Int) (m:Int):List Int:=out.takeWhile (pLe n (d0 n m))++m::out.dropWhile (pLe n (d0 n m))
def Zgr (n:ZaA):Nat→List Int
 |0=>[]
 |m+1=>if Zui (rn n m) then Zgr n m else Ztb n (Zgr n m) m
structure ZuY (n:ZaA) (m:Nat) (out:List Int):Prop where
 srt:out.Pairwise fun a b=>d0 n a≤d0 n b
 el: ∀o∈out,0≤o∧o< (m:Int)∧Zui (rn n o)=false
 nd:out.Nodup
 len:out.length≤m
 all: ∀k:Nat,k<m→Zui (rn n k)=false→(k:Int)∈out
theorem ZqV {n:ZaA} {d:Int} : ∀ {out:List Int},(out.Pairwise fun a b=>d0 n a≤d0 n b)→ ∀o∈out.dropWhile (pLe n d),d<d0 n o
 | [],_,o,h=>by simp at h
 |x::l,hs,o,h=>by
  rw[List.pairwise_cons] at hs
  rw[List.dropWhile_cons] at h
  split at h
  ·exact ZqV hs.2 o h
  ·rename_i hx
   have hx' :d<d0 n x:=by
    have: ¬d0 n x≤d:=by simpa [pLe] using hx
    omega
   rcases List.mem_cons.1 h with rfl|h
   ·exact hx'
   ·have:=hs.1 o h;omega
theorem ZqX {n:ZaA} {d:Int} : ∀ {out:List Int}, ∀o∈out.takeWhile (pLe n d),d0 n o≤d
 | [],o,h=>by simp at h
 |x::l,o,h=>by
  rw[List.takeWhile_cons] at h
  split at h
  ·rename_i hx
   rcases List.mem_cons.1 h with rfl|h
   ·simpa [pLe] using hx
   ·exact ZqX o h
  ·simp at h
theorem ZuY.ins {n:ZaA} {m:Nat} {out:List Int} (h:ZuY n m out) (hc:Zui (rn n m)=false):ZuY n (m+1) (Ztb n out m):=by
 have e:out.takeWhile (pLe n (d0 n m))++out.dropWhile (pLe n (d0 n m))=out:=List.takeWhile_append_dropWhile
 have hp: (Ztb n out m).Perm ((m:Int)::out):=by
  unfold Ztb
  refine(List.perm_middle).trans ?_
  rw[e]
 have hs:=h.srt
 rw[←e] at hs
 obtain⟨s1,s2,s3⟩:=List.pairwise_append.1 hs
 refine⟨?_,fun o ho=> ?_, ?_,by rw[hp.length_eq];simp;exact h.len,fun k hk hck=> ?_⟩
 ·unfold Ztb
  refine List.pairwise_append.2 ⟨s1,List.pairwise_cons.2 ⟨fun o ho=> ?_,s2⟩,fun a ha b hb=> ?_⟩
  ·have:=ZqV h.srt o ho;omega
  ·rcases List.mem_cons.1 hb with rfl|hb
   ·exact ZqX a ha
   ·exact s3 a ha b hb
 ·rcases List.mem_cons.1 (hp.mem_iff.1 ho) with rfl|ho
  ·exact⟨by omega,by omega,hc⟩
  ·obtain⟨a,b,c⟩:=h.el o ho;exact⟨a,by omega,c⟩
 ·refine hp.nodup_iff.2 (List.nodup_cons.2 ⟨fun hm=> ?_,h.nd⟩)
  have:=(h.el _ hm).2.1;omega
 ·refine hp.mem_iff.2 ?_
  by_cases e:k=m
  ·subst e;simp
  ·exact List.mem_cons_of_mem _ (h.all k (by omega) hck)
theorem ZmN (n:ZaA): ∀m,ZuY n m (Zgr n m)
 |0=>⟨.nil,by simp [Zgr],by simp [Zgr],by simp [Zgr],fun k hk=>by omega⟩
 |m+1=>by
  unfold Zgr
  have ih:=ZmN n m
  split
  ·rename_i hc
   exact⟨ih.srt,fun o ho=>by obtain⟨a,b,c⟩:=ih.el o ho;exact⟨a,by omega,c⟩,ih.nd,by have:=ih.len;omega,fun k hk hck=>by
    by_cases e:k=m
    ·subst e;rw[hc] at hck;exact absurd hck (by decide)
    ·exact ih.all k (by omega) hck⟩
  ·rename_i hc
   exact ih.ins (by simpa using hc)
theorem ZuG {n:ZaA} {d:Int} {out:List Int} (hs:out.Pairwise fun a b=>d0 n a≤d0 n b): ∀ (i:Nat) (hi:i<out.length),pLe n d out[i]=true↔i< (out.takeWhile (pLe n d)).length:=by
 intro i hi
 have e:out.takeWhile (pLe n d)++out.dropWhile (pLe n d)=out:=List.takeWhile_append_dropWhile
 constructor
 ·intro hp
  apply Decidable.byContradiction
  intro hlt
  have hm:out[i]∈out.dropWhile (pLe n d):=by
   have h2:i - (out.takeWhile (pLe n d)).length< (out.dropWhile (pLe n d)).length:=by
    have:=congrArg List.length e;simp only[List.length_append] at this;omega
   have:out[i]=(out.dropWhile (pLe n d))[i - (out.takeWhile (pLe n d)).length]:=by
    have h3:out[i]? =(out.dropWhile (pLe n d))[i - (out.takeWhile (pLe n d)).length]? :=by
     conv=>lhs;rw[←e]
     rw[List.getElem?_append_right (by omega)]
    rw[List.getElem?_eq_getElem hi,List.getElem?_eq_getElem h2] at h3
    exact Option.some.inj h3
   rw[this];exact List.getElem_mem h2
  have:=ZqV hs _ hm
  have h4:d0 n out[i]≤d:=by simpa [pLe] using hp
  omega
 ·intro hlt
  have hm:out[i]∈out.takeWhile (pLe n d):=by
   have h3:out[i]? =(out.takeWhile (pLe n d))[i]? :=by
    conv=>lhs;rw[←e]
    rw[List.getElem?_append_left hlt]
   rw[List.getElem?_eq_getElem hi,List.getElem?_eq_getElem hlt] at h3
   rw[Option.some.inj h3];exact List.getElem_mem hlt
  simpa [pLe] using ZqX _ hm
theorem ZtS {n:ZaA} {d:Int} (out:List Int):out.takeWhile (pLe n d)=out.take (out.takeWhile (pLe n d)).length∧out.dropWhile (pLe n d)=out.drop (out.takeWhile (pLe n d)).length:=by
 have e:out.takeWhile (pLe n d)++out.dropWhile (pLe n d)=out:=List.takeWhile_append_dropWhile
 constructor
 ·have:=List.take_left (l₁:=out.takeWhile (pLe n d)) (l₂:=out.dropWhile (pLe n d))
  rw[e] at this;exact this.symm
 ·have:=List.drop_left (l₁:=out.takeWhile (pLe n d)) (l₂:=out.dropWhile (pLe n d))
  rw[e] at this;exact this.symm
theorem ZkT {n:ZaA} (h:Zdi n) {o d:Int} (hr:inR o n.2.2.1.length=true):F37 o n d=some (pLe n d o):=by
 unfold F37
 have hm:=h.many _ (ZgZ hr)
 rw[ZlK hr]
 simp only[bind_some]
 have h0:inR 0 (calls (rn n o)).length=true:=by
  unfold inR;rw[decide_eq_true (Int.le_refl 0),decide_eq_true (show (0:Int)< ((calls (rn n o)).length:Int) by show (0:Int)< ((rn n o).2.2.2.2.2.2.2.1.length:Int);omega)];rfl
 rw[ZsT h0]
 rfl
theorem Zp9 {n:ZaA} (h:Zdi n) {out:List Int} {d:Int} (hl:out.length≤4611686018427387904) (hr: ∀o∈out,inR o n.2.2.1.length=true) {k:Nat} (hk:k≤out.length) (hp: ∀ (i:Nat) (hi:i<out.length),pLe n d out[i]=true↔i<k):
  F34 out (n,d,())=some (k:Int):=by
 unfold F34
 rw[Zso (n:=out.length) hk ?_ ?_]
 ·rfl
 ·intro lo hi hlt hhi
  have hm:lo+(hi - lo) / 2<out.length:=by omega
  simp only[decide_eq_true (show (lo:Int)< (hi:Int) by omega),cond_true,ZtR (show lo≤hi by omega) (show hi≤4611686018427387904 by omega),Zag hm,bind_some]
  rw[ZkT h (hr _ (List.getElem_mem hm))]
  simp only[bind_some]
  have hp' :=hp _ hm
  cases hd:pLe n d out[lo+(hi - lo) / 2] with
  |true=>
   rw[if_pos (hp'.1 hd)]
   rw[Zaj (by omega) (by omega)]
   simp only[cond_true]
   rfl
  |false=>
   rw[if_neg (fun hh=>by rw[hp'.2 hh] at hd;exact absurd hd (by decide))]
   rfl
 ·intro lo
  simp only[decide_eq_false (show¬ (lo:Int)< (lo:Int) by omega),cond_false]
theorem ZsK (out:List Int) {k:Nat} (hk:k≤out.length):
  (List.take (k+1) (out++[(0:Int)])++List.take (min (List.length (List.take (out.length+1 - k) (List.drop k (out++[(0:Int)])))) (out.length+1 - (k+1))) (List.take (out.length+1 - k) (List.drop k (out++[(0:Int)])))++
   List.drop (k+1+min (List.length (List.take (out.length+1 - k) (List.drop k (out++[(0:Int)])))) (out.length+1 - (k+1))) (out++[(0:Int)]))=List.take (k+1) (out++[(0:Int)])++List.drop k out:=by
 have e1:List.take (out.length+1 - k) (List.drop k (out++[(0:Int)]))=List.drop k (out++[(0:Int)]):=List.take_of_length_le (by simp)
 have e2:min (List.length (List.drop k (out++[(0:Int)]))) (out.length+1 - (k+1))=out.length - k:=by simp;omega
 have e3:List.drop (out.length+1) (out++[(0:Int)])=[]:=List.drop_of_length_le (by simp)
 rw[e1,e2,show k+1+(out.length - k)=out.length+1 by omega,e3,List.append_nil]
 congr 1
 rw[List.drop_append_of_le_length hk,List.take_append_of_le_length (by simp),List.take_of_length_le (by simp)]
theorem ZtB (out:List Int) {k:Nat} (hk:k≤out.length) (x m:Int): (List.take (k+1) (out++[x])++List.drop k out).set k m=out.take k++m::out.drop k:=by
 have h1:List.take (k+1) (out++[x])=out.take k++[((out++[x])[k]'(by simp;omega))]:=by
  rw[List.take_succ_eq_append_getElem (by simp;omega),List.take_append_of_le_length hk]
 rw[h1,List.append_assoc,List.set_append_right _ _ (by simp;omega)]
 simp [Nat.min_eq_left hk]
theorem ZmS         {n : ZaA } (h : Zdi   n) : F36 n = some (Zgr  n n.2.2.1.length) := by
  unfold F36
  refine Exists.elim (Za9     (τ := List Int) n.2.2.1.length (fun r => r = Zgr  n n.2.2.1.length) (fun i (s : List Int × Int) => s = (Zgr  n i, (i : Int)))
    ?_ ?_ ([], (0 : Int)) rfl) (fun r hr => (congrArg (Option.bind · _) hr.1).trans (by rw [hr.2]; rfl))
  · rintro i _ hi rfl
    have hI := ZmN     n i
    have hin := h.runs
    have hr : inR (i : Int) n.2.2.1.length = true := by
      unfold inR; rw [decide_eq_true (show (0 : Int) ≤ (i : Int) by omega), decide_eq_true (show (i : Int) < (n.2.2.1.length : Int) by omega)]; rfl
    have hrn : n.2.2.1[i] = rn n (i : Int) := by unfold rn; rw [show ((i : Nat) : Int).toNat = i from rfl, Zah     hi]
    have hll := hI.len
    refine .inl ⟨(Zgr  n (i + 1), ((i + 1 : Nat) : Int)), ?_, rfl⟩
    simp only [Zay    hi, cond_true, Zag     hi, bind_some, hrn]
    cases hc : Zui  (rn n (i : Int)) with
    | true =>
      rw [show (rn n (i : Int)).2.2.2.2.2.2.1 = true from hc]
      simp only [cond_true, Zan       hi (show n.2.2.1.length ≤ 9223372036854775807 by omega)]
      rw [show Zgr  n (i + 1) = Zgr  n i by unfold Zgr ; rw [if_pos hc]; cases i <;> rfl]
    | false =>
      rw [show (rn n (i : Int)).2.2.2.2.2.2.1 = false from hc]
      have h0 : inR 0 (calls (rn n (i : Int))).length = true := by
        have hm := h.many _ (ZgZ    hr)
        unfold inR; rw [decide_eq_true (Int.le_refl 0), decide_eq_true (show (0 : Int) < ((calls (rn n (i : Int))).length : Int) by show (0 : Int) < ((rn n (i : Int)).2.2.2.2.2.2.2.1.length : Int); omega)]; rfl
      have hcl : idx (rn n (i : Int)).2.2.2.2.2.2.2.1 (0 : Int) = some (cl (calls (rn n (i : Int))) 0) := ZsT    h0
      have hkl : ((Zgr  n i).takeWhile (pLe n (d0 n i))).length ≤ (Zgr  n i).length := by
        have := congrArg List.length (List.takeWhile_append_dropWhile (p := pLe n (d0 n i)) (l := Zgr  n i)); simp only [List.length_append] at this; omega
      have hfind := Zp9       h (d := d0 n i) (show (Zgr  n i).length ≤ 4611686018427387904 by omega) (fun o ho => by
        obtain ⟨a, b, _⟩ := hI.el o ho
        unfold inR; rw [decide_eq_true a, decide_eq_true (show o < (n.2.2.1.length : Int) by omega)]; rfl) hkl (ZuG    hI.srt)
      rw [show Zgr  n (i + 1) = Ztb  n (Zgr  n i) i by conv => lhs; unfold Zgr
                                                       rw [if_neg (by rw [hc]; decide)]]
      simp only [cond_false, hcl, bind_some]
      rw [show (cl (calls (rn n (i : Int))) 0).2.2.1 = d0 n i from rfl, hfind]
      unfold Ztb
      obtain ⟨t1, t2⟩ := ZtS     (n := n) (d := d0 n i) (Zgr  n i)
      generalize hkk : ((Zgr  n i).takeWhile (pLe n (d0 n i))).length = k at *
      rw [t1, t2]
      clear t1 t2 hkk
      generalize Zgr  n i = out at *
      have hw : IntKind.wrap .i64 ((k : Int) + 1) = ((k + 1 : Nat) : Int) := by rw [Zaj      (by omega) (by omega)]; omega
      have s1 : sliceB (List.length (out ++ [(0 : Int)])) (List.length (out ++ [(0 : Int)])) (some ((k + 1 : Nat) : Int)) none = some (k + 1, out.length + 1) := by
        unfold sliceB
        simp only [bind_some, List.length_append, List.length_singleton]
        rw [if_pos ⟨by omega, by omega⟩]
        rfl
      have s2 : sliceB (List.length (out ++ [(0 : Int)])) (List.length (out ++ [(0 : Int)])) (some (k : Int)) none = some (k, out.length + 1) := by
        unfold sliceB
        simp only [bind_some, List.length_append, List.length_singleton]
        rw [if_pos ⟨by omega, by omega⟩]
        rfl
      have hg : Zap    (decide (List.length out + List.length [(0 : Int)] ≤ Zaq   )) = some () := Zbh       (by simp; omega)
      have hg2 : Zap    (Nat.ble (k + 1 + (out.length + 1 - (k + 1))) (List.length (out ++ [(0 : Int)]))) = some () := by
        rw [show Nat.ble (k + 1 + (out.length + 1 - (k + 1))) (List.length (out ++ [(0 : Int)])) = true from Nat.ble_eq_true_of_le (by simp; omega)]; rfl
      simp only [bind_some, hg, hw, s1, s2, hg2]
      rw [ZsK      out hkl]
      have hlen : (List.take (k + 1) (out ++ [(0 : Int)]) ++ List.drop k out).length = out.length + 1 := by simp; omega
      have hinb : inb (k : Int) (List.take (k + 1) (out ++ [(0 : Int)]) ++ List.drop k out).length = some k := ZaL     (by omega)
      rw [hinb]
      simp only [bind_some]
      rw [List.getElem?_eq_getElem (show k < (List.take (k + 1) (out ++ [(0 : Int)]) ++ List.drop k out).length by omega)]
      simp only [bind_some, ZtB     out hkl, Zan       hi (show n.2.2.1.length ≤ 9223372036854775807 by omega)]
  · rintro _ rfl
    exact ⟨_, by simp only [ZaC    , cond_false], rfl⟩
def ZsA (rows:List (List Int)) (k:Nat):List Int:=(rows[k]?).getD []
def Zkc (row:List Int):Int:=ln row (row.length - 1)
def Zt7 (n:ZaA) (rows:List (List Int)) (r:Int) (k:Nat):Int:=if Ztx (rn n (Zkc (ZsA rows k))) (rn n r) then 1 else 0
def ZkM (n:ZaA) (rows:List (List Int)) (r:Int):List (List Int):=match Zat rows.length (Zt7 n rows r) with
 |some k=>rows.set k (ZsA rows k++[r])
 |none=>rows++[[r]]
def ZeB (n:ZaA) (rs:List Int):List (List Int):=rs.foldl (ZkM n) []
structure ZqO (n:ZaA) (i:Nat) (rows:List (List Int)):Prop where
 row: ∀x∈rows,x≠ []∧(∀o∈x,inR o n.2.2.1.length=true)∧x.length≤i
 len:rows.length≤i
theorem Zhh {rows:List (List Int)} {k:Nat} (h:k<rows.length):ZsA rows k=rows[k]:=Zah h []
theorem ZqO.add {n:ZaA} {i:Nat} {rows:List (List Int)} (h:ZqO n i rows) {r:Int} (hr:inR r n.2.2.1.length=true):ZqO n (i+1) (ZkM n rows r):=by
 unfold ZkM
 cases hb:Zat rows.length (Zt7 n rows r) with
 |none=>
  refine⟨fun x hx=> ?_,by simp;exact h.len⟩
  rcases List.mem_append.1 hx with hx|hx
  ·obtain⟨a,b,c⟩:=h.row x hx;exact⟨a,b,by omega⟩
  ·simp at hx;subst hx
   exact⟨by simp,by simpa using hr,by simp⟩
 |some k=>
  have hk:=(Zbr hb).1
  refine⟨fun x hx=> ?_,by simp;have:=h.len;omega⟩
  rcases List.mem_or_eq_of_mem_set hx with hx|rfl
  ·obtain⟨a,b,c⟩:=h.row x hx;exact⟨a,b,by omega⟩
  ·rw[Zhh hk]
   obtain⟨a,b,c⟩:=h.row _ (List.getElem_mem hk)
   refine⟨by simp,fun o ho=> ?_,by simp;exact c⟩
   rcases List.mem_append.1 ho with ho|ho
   ·exact b o ho
   ·simp at ho;subst ho;exact hr
theorem Zid (n:ZaA) (rs:List Int) (r:Int):ZeB n (rs++[r])=ZkM n (ZeB n rs) r:=by simp [ZeB]
theorem ZiU {n:ZaA} {rs:List Int} (hr: ∀o∈rs,inR o n.2.2.1.length=true): ∀i,i≤rs.length→ZqO n i (ZeB n (rs.take i))
 |0,_=>⟨by simp [ZeB],by simp [ZeB]⟩
 |i+1,h=>by
  rw[List.take_succ_eq_append_getElem (by omega),Zid]
  exact(ZiU hr i (by omega)).add (hr _ (List.getElem_mem (by omega)))
theorem ZpT {n:ZaA} {i:Nat} {rows:List (List Int)} (h:ZqO n i rows) (hi:i≤4096) {j:Nat} (hj:j<rows.length):
  0<rows[j].length∧rows[j].length≤4096∧inb (IntKind.wrap .i64 ((rows[j].length:Int) - 1)) rows[j].length=some (rows[j].length - 1)∧rows[j][rows[j].length - 1]? =some (Zkc rows[j])∧inR (Zkc rows[j]) n.2.2.1.length=true:=by
 obtain⟨a,b,c⟩:=h.row _ (List.getElem_mem hj)
 have h0:0<rows[j].length:=List.length_pos_iff.2 a
 have h1:rows[j].length - 1<rows[j].length:=by omega
 have e:IntKind.wrap .i64 ((rows[j].length:Int) - 1)=((rows[j].length - 1:Nat):Int):=by rw[Zaj (by omega) (by omega)];omega
 refine⟨h0,by omega,by rw[e,ZaL h1], ?_, ?_⟩
 ·unfold Zkc;rw[Zus h1,List.getElem?_eq_getElem h1]
 ·unfold Zkc;rw[Zus h1];exact b _ (List.getElem_mem h1)
theorem Zrc (j:Nat):Zap (Zhx (some (Int.toNat (j:Int))) j)=some ():=by
 rw[show Zhx (some (Int.toNat (j:Int))) j=true from Nat.beq_refl j];rfl
theorem ZpN {n:ZaA} {vb:Bool} (hv:F38 n=some vb) (hs:vb=true→Zdi n) (hc: ∀x∈n.2.2.1,x.2.2.2.2.2.2.2.1.length≤9223372036854775807):
  F32 n=some (if vb then(ZeB n (Zgr n n.2.2.1.length),0) else([],21)):=by
 unfold F32
 rw[hv]
 cases vb with
 |false=>rfl
 |true=>
  have h:=hs rfl
  simp only[bind_some,Bool.not_true,cond_false,ZmS h,if_true]
  have hO:=ZmN n n.2.2.1.length
  have hr: ∀o∈Zgr n n.2.2.1.length,inR o n.2.2.1.length=true:=fun o ho=>by
   obtain⟨a,b,_⟩:=hO.el o ho
   unfold inR;rw[decide_eq_true a,decide_eq_true b];rfl
  have hlen: (Zgr n n.2.2.1.length).length≤1024:=by have:=hO.len;have:=h.runs;omega
  generalize Zgr n n.2.2.1.length=rs at*
  refine Exists.elim (Za9 (τ:=List (List Int)) rs.length (fun r=>r=ZeB n rs) (fun i (s:List (List Int) ×Int)=>s=(ZeB n (rs.take i),(i:Int)))
   ?_ ?_ ([],(0:Int)) rfl) (fun r hr=>(congrArg (Option.bind · _) hr.1).trans (by rw[hr.2];rfl))
  ·rintro i _ hi rfl
   have hI:=ZiU hr i (by omega)
   have hri:=hr _ (List.getElem_mem hi)
   refine .inl ⟨(ZeB n (rs.take (i+1)),((i+1:Nat):Int)), ?_,rfl⟩
   rw[List.take_succ_eq_append_getElem hi,Zid]
   generalize ZeB n (rs.take i)=rows at*
   have hrl:=hI.len
   simp only[Zay hi,cond_true,Zag hi,bind_some]
   rw[Za8 (n:=rows.length) (fun j (s:List (List Int) ×Bool×Int)=>s=(rows,false,(j:Int))) (Zt7 n rows rs[i]) (fun k=>(rows.set k (ZsA rows k++[rs[i]]),true)) (rows,false) ?_ ?_ ?_ (rows,false,(0:Int)) rfl]
   ·unfold pick ZkM
    cases Zat rows.length (Zt7 n rows rs[i]) with
    |some k=>simp only[bind_some,Bool.not_true,cond_false,Zan hi (show rs.length≤9223372036854775807 by omega)]
    |none=>
     have hg:Zap (decide (List.length rows+List.length [[rs[i]]]≤Zaq))=some ():=Zbh (by simp;omega)
     simp only[bind_some,Bool.not_false,cond_true,hg,Zan hi (show rs.length≤9223372036854775807 by omega)]
   ·rintro j _ hj rfl hchk
    obtain⟨l0,l1,l2,l3,l4⟩:=ZpT hI (by omega) hj
    refine⟨_, ?_,rfl⟩
    have hf:Ztx (rn n (Zkc rows[j])) (rn n rs[i])=false:=by
     unfold Zt7 at hchk
     rw[Zhh hj] at hchk
     cases hf:Ztx (rn n (Zkc rows[j])) (rn n rs[i]) with
     |false=>rfl
     |true=>rw[hf,if_pos rfl] at hchk;omega
    simp only[Zay hj,cond_true,ZaL hj,bind_some,List.getElem?_eq_getElem hj,Zag hj,l2,l3,ZlK l4,ZlK hri,Zip _ _ (ZnW hc _),hf,cond_false,Zan hj (show rows.length≤9223372036854775807 by omega)]
   ·rintro j _ hj rfl hchk
    obtain⟨l0,l1,l2,l3,l4⟩:=ZpT hI (by omega) hj
    have hf:Ztx (rn n (Zkc rows[j])) (rn n rs[i])=true:=by
     unfold Zt7 at hchk
     rw[Zhh hj] at hchk
     cases hf:Ztx (rn n (Zkc rows[j])) (rn n rs[i]) with
     |true=>rfl
     |false=>rw[hf] at hchk;exact absurd rfl hchk
    have hg:Zap (decide (List.length rows[j]+List.length [rs[i]]≤Zaq))=some ():=Zbh (by simp;omega)
    simp only[Zay hj,cond_true,ZaL hj,bind_some,List.getElem?_eq_getElem hj,Zag hj,l2,l3,ZlK l4,ZlK hri,Zip _ _ (ZnW hc _),hf,hg,Zrc,Zhh hj]
   ·rintro _ rfl
    simp only[ZaC,cond_false]
  ·rintro _ rfl
   exact⟨_,by simp only[ZaC,cond_false];rfl,by rw[List.take_length]⟩
end Q
namespace Q
open Tr Go
open Option (bind_some)
variable {n:ZaA} {s0 t0 w:Int} {K:Nat}
abbrev p11:ZbD:=(-1, -1, -1, -1, -1, -1,())
structure ZiB (n:ZaA) (s0 t0 w:Int) (m:Nat) (f:ZaE) (rs:List (List ZbD)):Prop where
 len:rs.length=m+1
 net:f.1=n
 lab:f.2.1.length<4000000000
 st: ∀k,k≤m→ ∃now linked,rs[k]? =some now∧now.length=n.1.length∧(∀ (s:Nat) p,now[s]? =some p→SP (Der n s0 t0 w) f.2.1 k (s:Int) p)∧Cmp n s0 t0 w k now linked
def Zuf (n:ZaA) (k:Nat) (out:List (List Int)):Prop:=out.length=n.2.2.1.length∧ ∀ (i:Nat) ks,out[i]? =some ks→ks.length≤k∧ ∀x:Int,x∈ks↔(0≤x∧x< (k:Int))∧(lkI n x).1=(i:Int)
theorem Zq0 {k:Nat} {out:List (List Int)} (h:Zuf n k out) {a:Nat} (ha: (lkI n (k:Int)).1=(a:Int)) (hl:a<out.length):Zuf n (k+1) (out.set a (out[a]++[(k:Int)])):=by
 refine⟨by rw[List.length_set];exact h.1,fun i ks hks=> ?_⟩
 rcases ZjL hks with ⟨rfl,rfl⟩ |hks'
 ·obtain⟨h1,h2⟩:=h.2 a _ (List.getElem?_eq_getElem hl)
  refine⟨by simp;exact h1,fun x=> ?_⟩
  rw[List.mem_append,h2 x,List.mem_singleton]
  constructor
  ·rintro (⟨h3,h4⟩ |rfl)
   ·exact⟨by omega,h4⟩
   ·exact⟨by omega,ha⟩
  ·rintro ⟨h3,h4⟩
   by_cases e:x=(k:Int)
   ·exact .inr e
   ·exact .inl ⟨by omega,h4⟩
 ·by_cases e:a=i
  ·subst e
   rw[List.getElem?_set_self hl] at hks
   cases hks
   obtain⟨h1,h2⟩:=h.2 a _ (List.getElem?_eq_getElem hl)
   refine⟨by simp;exact h1,fun x=> ?_⟩
   rw[List.mem_append,h2 x,List.mem_singleton]
   constructor
   ·rintro (⟨h3,h4⟩ |rfl)
    ·exact⟨by omega,h4⟩
    ·exact⟨by omega,ha⟩
   ·rintro ⟨h3,h4⟩
    by_cases e:x=(k:Int)
    ·exact .inr e
    ·exact .inl ⟨by omega,h4⟩
  ·obtain⟨h1,h2⟩:=h.2 i ks hks'
   refine⟨by omega,fun x=> ?_⟩
   rw[h2 x]
   constructor
   ·rintro ⟨h3,h4⟩;exact⟨by omega,h4⟩
   ·rintro ⟨h3,h4⟩
    refine⟨⟨h3.1, ?_⟩,h4⟩
    by_cases e' :x=(k:Int)
    ·subst e';omega
    ·omega
theorem Zse {out:List (List Int)} (h:Zuf n n.2.2.2.1.length out):Zmt n out:=by
 refine⟨h.1,fun i ks hks x=> ?_⟩
 rw[(h.2 i ks hks).2 x]
 unfold inR
 rw[Bool.and_eq_true,decide_eq_true_eq,decide_eq_true_eq]
theorem Zsi (C:Ctx n s0 t0 w) {now:List ZbD} {linked:List Zch} (hY:LeY now s0.toNat (t0+w)) (hA:LeA now s0.toNat t0) (hW: ∀p∈n.2.2.2.2.1,Wlk s0 t0 now p):Cmp n s0 t0 w 0 now linked:=by
 have no: ∀ {s t:Int} {js:List ZaP} {k:Nat},k≤0→Der n s0 t0 w (.rid k s t) js→False:=fun hk d=>by have:=(C.ok d).1;omega
 refine⟨fun hk d=> ?_,fun hk d=>(no hk d).elim,fun hk d=> ?_,fun hk d=> ?_⟩
 ·cases d with
  |init=>exact hY
  |rdyW h1 h2 h3=>exact(hW _ h1 h2 h3).2
  |change d=>exact(no hk d).elim
  |rdyV d=>exact(no hk d).elim
 ·cases d with
  |here=>exact hA
  |arrW h1 h2 h3=>exact(hW _ h1 h2 h3).1
  |arrR d=>exact(no hk d).elim
  |arrV d=>exact(no hk d).elim
 ·cases d with
  |link d=>have:=(C.ok d).1;omega
theorem Zt0 {n:ZaA} (h:Zev n) {s0:Int} (hs:0≤s0∧s0< (n.1.length:Int)) (b:Bool):0≤(bif b then(Zci n s0).2.2.2.1 else 0)∧(bif b then(Zci n s0).2.2.2.1 else 0)≤3600:=by
 cases b with
 |false=>exact⟨by simp,by simp⟩
 |true=>exact h.change s0 hs.1 hs.2
theorem Zss {n0:ZaA} {q:Zbq} (hfit:Fit n0) (hfew:Few n0) (hq:ZtA n0 q=0): ∃f rs,F103 n0 q=some (f,rs,0)∧Ctx (Za7 n0 q) q.1 q.2.2.1 (bif q.2.2.2.2.2.2.2.2.2.1 then(Zci (Za7 n0 q) q.1).2.2.2.1 else 0)∧Whole n0∧qB n0.1.length q=true∧q.2.2.2.1=false∧
  ZiB (Za7 n0 q) q.1 q.2.2.1 (bif q.2.2.2.2.2.2.2.2.2.1 then(Zci (Za7 n0 q) q.1).2.2.2.1 else 0) q.2.2.2.2.1.toNat f rs:=by
 have hck:=Zo1 hfit q
 rw[hq] at hck
 have hq0:Zkr n0 q=0∧q.2.2.2.1=false:=by
  unfold ZtA at hq
  by_cases e:Zkr n0 q=0
  ·rw[decide_eq_true e] at hq
   refine⟨e, ?_⟩
   cases hb:q.2.2.2.1 with
   |false=>rfl
   |true=>rw[hb] at hq;simp at hq
  ·rw[decide_eq_false e] at hq;exact absurd hq e
 obtain⟨hw0,hqb⟩:=Zhv.1 hq0.1
 have hcq:=ZkZ hfit q
 rw[hq0.1] at hcq
 have hal:=Zmu hw0.sound hfew q hcq
 have hp0:n0.2.2.2.2.1.length≤4096:=hfit.paths
 have hw:=Zmj q hp0 hw0
 have hfa:=Zqj q hfit
 have hn:=hw.ok
 have hqb' :=hqb
 unfold qB inR at hqb'
 simp only[Bool.and_eq_true,decide_eq_true_eq] at hqb'
 obtain⟨hs0,_,ht0,hm,_⟩:=hqb'
 have hs0' :0≤q.1∧q.1< ((Za7 n0 q).1.length:Int):=hs0
 have hwt:=Zt0 hn hs0' q.2.2.2.2.2.2.2.2.2.1
 have C:Ctx (Za7 n0 q) q.1 q.2.2.1 (bif q.2.2.2.2.2.2.2.2.2.1 then(Zci (Za7 n0 q) q.1).2.2.2.1 else 0):=⟨hn,hs0',ht0,hwt⟩
 have hp: (Za7 n0 q).2.2.2.2.1.length≤4096:=hfa.paths
 have hvl:F38 (Za7 n0 q)=some true:=by
  obtain⟨r,r1,_,r3⟩:=Zh5 _ hfa
  unfold F38
  rw[r1]
  simp only[bind_some]
  rw[decide_eq_true (r3.2 hw)]
 have hln:=ZpN hvl (fun _=>hn.sound) hfa.calls
 have hsi:idx (Za7 n0 q).1 q.1=some (Zci (Za7 n0 q) q.1):=(ZgM hn.sound hs0'.1 hs0'.2).1
 have hch:=hn.change q.1 hs0'.1 hs0'.2
 suffices hsuf: ∃z:ZaE×List (List ZbD) ×Int,F103 n0 q=some z∧z.2.2=0∧ZiB (Za7 n0 q) q.1 q.2.2.1 (bif q.2.2.2.2.2.2.2.2.2.1 then(Zci (Za7 n0 q) q.1).2.2.2.1 else 0) q.2.2.2.2.1.toNat z.1 z.2.1 by
  obtain⟨⟨f,rs,e⟩,h1,h2,h3⟩:=hsuf
  simp only at h2
  subst h2
  exact⟨f,rs,h1,C,hw0,hqb,hq0.2,h3⟩
 unfold F103
 rw[hck]
 simp only[bind_some,decide_true,Bool.not_true,cond_false]
 rw[hal]
 simp only[bind_some]
 rw[hln]
 simp only[bind_some,if_true,decide_true,Bool.not_true,cond_false]
 generalize Za7 n0 q=n at*
 have hS:=hn.sound
 have hrn:=hS.runs
 have hst:=hS.stops
 have hlk:=hS.links
 have hub:F113 (n.2.2.1.length:Int)=some (List.replicate n.2.2.1.length b00):=Zf1 (by omega)
 have hmx: (Zaq:Int)=4294967296:=by simp [Zaq]
 refine bex (fun r=>r=List.replicate n.2.2.1.length b00) ⟨_,hub,rfl⟩ fun x3 hx3=> ?_
 subst hx3
 have hg0:Zap (decide ((0:Int)≤(n.2.2.1.length:Int)∧(n.2.2.1.length:Int)≤(n.2.2.1.length:Int)∧(n.2.2.1.length:Int)≤(Zaq:Int)))=some ():=by
  rw[decide_eq_true (by rw[hmx];omega)];rfl
 refine bex (fun _=>True) ⟨(),hg0,trivial⟩ fun _ _=> ?_
 refine bex (fun r:ZaE=> ∃out,r=(n,[],[],List.replicate n.2.2.1.length b00,[],[],out,())∧Zuf n n.2.2.2.1.length out) ?_ ?_
 ·refine Za9 n.2.2.2.1.length _ (fun i (st:ZaE×Int)=>st.2=(i:Int)∧ ∃out,st.1=(n,[],[],List.replicate n.2.2.1.length b00,[],[],out,())∧Zuf n i out) ?_ ?_ _ ⟨rfl,_,rfl, ?_⟩
  ·rintro i ⟨st,j⟩ hi ⟨hj,out,hst',hO⟩
   simp only at hj hst'
   subst hj hst'
   left
   have e1:lkI n (i:Int)=n.2.2.2.1[i]:=by unfold lkI;rw[Int.toNat_natCast,Zah hi]
   obtain⟨a,c,b,d,st,e,ha,_⟩:=hn.link _ (List.getElem_mem hi)
   have hao:a<out.length:=by rw[hO.1];exact ha
   have hks:=(hO.2 a _ (List.getElem?_eq_getElem hao)).1
   simp only[Zay hi,cond_true,Zag hi,bind_some,Zan hi (show _≤9223372036854775807 by omega),e,ZaL hao,List.getElem?_eq_getElem hao,Zag hao]
   have hg:Zap (decide (List.length out[a]+List.length [(i:Int)]≤Zaq))=some ():=Zbh (by simp;omega)
   rw[hg]
   simp only[bind_some,Zrc]
   exact⟨_,rfl,rfl,_,rfl,Zq0 hO (by rw[e1,e]) hao⟩
  ·rintro ⟨st,j⟩ ⟨hj,out,hst',hO⟩
   simp only at hj hst'
   subst hj hst'
   simp only[ZaC,cond_false]
   exact⟨_,rfl,out,rfl,hO⟩
  ·refine⟨by simp,fun i ks hks=> ?_⟩
   have:=List.eq_of_mem_replicate (List.mem_of_getElem? hks)
   subst this
   exact⟨by simp,fun x=>⟨fun h=>(nomatch h),fun h=>by omega⟩⟩
 rintro _ ⟨out,rfl,hO⟩
 have hOk:=Zse hO
 refine bex (fun r:ZaE=>r=(n,[],List.replicate n.1.length p11,List.replicate n.2.2.1.length b00,[],[],out,())) ?_ ?_
 ·refine Za9 n.1.length _ (fun i (st:ZaE×Int)=>st=((n,[],List.replicate i p11,List.replicate n.2.2.1.length b00,[],[],out,()),(i:Int))) ?_ ?_ _ rfl
  ·rintro i _ hi rfl
   left
   simp only[Zay hi,cond_true,Zan hi (show _≤9223372036854775807 by omega)]
   have hg:Zap (decide (List.length (List.replicate i p11)+List.length [p11]≤Zaq))=some ():=Zbh (by simp;omega)
   erw[hg]
   simp only[bind_some]
   exact⟨_,rfl,by rw[List.replicate_succ']⟩
  ·rintro _ rfl
   simp only[ZaC,cond_false]
   exact⟨_,rfl,rfl⟩
 intro f1 hf1
 refine bex (fun r:ZaE×Int=>r=(f1,q.2.2.1+(bif q.2.2.2.2.2.2.2.2.2.1 then(Zci n q.1).2.2.2.1 else 0))) ?_ ?_
 ·cases q.2.2.2.2.2.2.2.2.2.1 with
  |false=>exact⟨_,rfl,by simp⟩
  |true=>
   simp only[cond_true,hsi,bind_some]
   exact⟨_,rfl,by rw[Zaj (by omega) (by omega)]⟩
 rintro _ rfl
 generalize (bif q.2.2.2.2.2.2.2.2.2.1 then(Zci n q.1).2.2.2.1 else 0)=w at*
 obtain⟨a,ha⟩: ∃a:Nat,q.1=(a:Int):=⟨q.1.toNat,by omega⟩
 obtain⟨m,hm'⟩: ∃m:Nat,q.2.2.2.2.1=(m:Int):=⟨q.2.2.2.2.1.toNat,by omega⟩
 generalize q.1=s0 at*
 generalize q.2.2.1=t0 at*
 generalize q.2.2.2.2.1=mr at*
 subst ha hm'
 simp only[Int.toNat_natCast]
 have e1:f1.1=n:=by rw[hf1]
 have e2:f1.2.1=[]:=by rw[hf1]
 have e3:f1.2.2.1=List.replicate n.1.length p11:=by rw[hf1]
 have e4:f1.2.2.2.1=List.replicate n.2.2.1.length b00:=by rw[hf1]
 have e5:f1.2.2.2.2.1=[]:=by rw[hf1]
 have e7:f1.2.2.2.2.2.2.1=out:=by rw[hf1]
 have hal:a<f1.2.2.1.length:=by rw[e3];simp;omega
 have hN1:Snd (Der n (a:Int) t0 w) 0 f1:=by
  refine⟨fun s p hq' => ?_,fun i b hb=> ?_,fun i b hb=> ?_⟩
  ·rw[e3] at hq'
   rw[List.eq_of_mem_replicate (List.mem_of_getElem? hq')]
   exact⟨fun e=>absurd rfl e,fun e=>absurd rfl e,fun e=>absurd rfl e⟩
  ·rw[e5] at hb;exact absurd hb (by simp)
  ·rw[e4] at hb
   rw[List.eq_of_mem_replicate (List.mem_of_getElem? hb)]
   exact fun e=>absurd rfl e
 have hw0' :0≤t0+w:=by omega
 have h2:Snd (Der n (a:Int) t0 w) 0 (ZfR f1 a t0 (t0+w) (-1)):=hN1.imp ⟨0,Nat.le_refl _,[], .nil, .here⟩ ⟨0,Nat.le_refl _,[], .nil, .init⟩
 have m2:=Zqn f1 a ht0.1 hw0' (-1)
 have n2:=ZmD hal ht0.1 hw0' (-1)
 have k2:=Ze1 f1 a t0 (t0+w) (-1)
 refine bex (fun r=>r=ZfR f1 a t0 (t0+w) (-1)) ⟨_,ZfP f1 hal t0 (t0+w) (-1),rfl⟩ ?_
 rintro _ rfl
 have hwl:=Zle C (k:=0) (K:=0) (s:=(a:Int)) (t:=t0) (prev:= -1) ht0.1 (js:=[]) (Nat.le_refl _) (fun p hp e1 e2=>⟨.arrW hp e1 e2, .rdyW hp e1 e2⟩) (m2.net.trans e1) (by rw[k2.now,e3];simp) h2 .nil
 have hwv:=ZnT (ZfR f1 a t0 (t0+w) (-1)) (s:=(a:Int)) (at' :=t0) (-1) ht0.1 ht0.2 (by rw[m2.net,e1];show f1.2.1.length+_<_;rw[e2];simp only[List.length_nil];omega) (by rw[m2.net,e1];exact hp) (fun p hp' =>by
  rw[m2.net,e1] at hp'
  have:=hn.path p hp'
  rw[k2.now,e3,List.length_replicate]
  exact⟨this.2.1.1,this.2.1.2,by omega,by omega⟩)
 have kw:=ZbZ (a:Int) t0 (-1) (ZfR f1 a t0 (t0+w) (-1)).1.2.2.2.2.1 (ZfR f1 a t0 (t0+w) (-1))
 refine bex (fun r=>r=Zgy (ZfR f1 a t0 (t0+w) (-1)) (a:Int) t0 (-1)) ⟨_,hwv,rfl⟩ ?_
 rintro _ rfl
 obtain⟨w1,w2,w3⟩:=hwl
 have m3:=m2.trans w2
 have hlab: (Zgy (ZfR f1 a t0 (t0+w) (-1)) (a:Int) t0 (-1)).2.1.length≤4096:=by
  have:=kw.lab
  rw[m2.net,e1] at this
  have e: (ZfR f1 a t0 (t0+w) (-1)).2.1.length=0:=by show f1.2.1.length=0;rw[e2];rfl
  unfold Zgy
  rw[m2.net,e1]
  omega
 have hH:=(ZhQ (ZfR f1 a t0 (t0+w) (-1)) (a:Int) t0 (-1))
 have hR0:RI n (a:Int) t0 w 0 (Zgy (ZfR f1 a t0 (t0+w) (-1)) (a:Int) t0 (-1)):=by
  refine⟨m3.net.trans e1,by rw[hH.now,k2.now,e3];simp,by rw[hH.linked,k2.linked,e4];simp,by rw[m3.out,e7];exact hOk, ?_,w1.now,w1.lnk, ?_, ?_⟩
  ·rw[m3.out,e7]
   intro ks hks
   obtain⟨i,hi,rfl⟩:=List.getElem_of_mem hks
   have:=(hO.2 i _ (List.getElem?_eq_getElem hi)).1
   omega
  ·exact Zsi C (w2.rdy _ _ n2.2) (w2.arr _ _ n2.1) w3
  ·intro s p hq' hne
   obtain⟨k,hk,js,_,hd⟩:=(w1.now s p hq').rid hne
   have:=(C.ok hd).1
   omega
 generalize Zgy (ZfR f1 a t0 (t0+w) (-1)) (a:Int) t0 (-1)=f2 at*
 refine bex (fun r:ZaE×List (List ZbD)=>ZiB n (a:Int) t0 w m r.1 r.2) ?_ ?_
 ·refine Za9 m _ (fun i (st:ZaE×List (List ZbD) ×Int)=>st.2.2=(i:Int)∧RI n (a:Int) t0 w i st.1∧st.1.2.1.length≤4096+i*4000000∧st.2.1.length=i+1∧
   ∀k,k≤i→ ∃now linked,st.2.1[k]? =some now∧now.length=n.1.length∧(∀ (s:Nat) p,now[s]? =some p→SP (Der n (a:Int) t0 w) st.1.2.1 k (s:Int) p)∧Cmp n (a:Int) t0 w k now linked) ?_ ?_ _ ⟨rfl,hR0,by omega,rfl, ?_⟩
  ·rintro i ⟨f,rs,j⟩ hi ⟨hj,hR,hlb,hrl,hst'⟩
   simp only at hj hR hlb hrl hst'
   subst hj
   left
   simp only[Zay hi,cond_true]
   obtain⟨g,g1,g2,⟨mm,g3⟩,g4⟩:=ZpP C hp hR (by omega)
   refine Zt1 (fun r=>r=g) ⟨_,g1,rfl⟩ fun x hx=> ?_
   subst hx
   have hg:Zap (decide (List.length rs+List.length [x.2.2.1]≤Zaq))=some ():=Zbh (by simp;omega)
   rw[hg]
   simp only[bind_some,Zan hi (show m≤9223372036854775807 by omega)]
   refine⟨_,rfl,rfl,g2,by simp only;omega,by simp;exact hrl,fun k hk=> ?_⟩
   by_cases e:k=i+1
   ·subst e
    refine⟨x.2.2.1,x.2.2.2.1, ?_,g2.nowl,g2.now,g2.cmp⟩
    simp only
    rw[List.getElem?_append_right (by omega),hrl]
    simp
   ·obtain⟨now,linked,y1,y2,y3,y4⟩:=hst' k (by omega)
    refine⟨now,linked, ?_,y2,fun s p hq' => ?_,y4⟩
    ·simp only
     rw[List.getElem?_append_left (by omega)];exact y1
    ·simp only
     rw[g3]
     exact(y3 s p hq').app mm
  ·rintro ⟨f,rs,j⟩ ⟨hj,hR,hlb,hrl,hst'⟩
   simp only at hj hR hlb hrl hst'
   subst hj
   simp only[ZaC,cond_false]
   exact⟨_,rfl,hrl,hR.net,by simp only;omega,hst'⟩
  ·intro k hk
   have:k=0:=by omega
   subst this
   exact⟨f2.2.2.1,f2.2.2.2.1,rfl,hR0.nowl,hR0.now,hR0.cmp⟩
 ·rintro ⟨f,rs⟩ hF
  exact⟨_,rfl,rfl,hF⟩
end Q
namespace Q
open Tr Go
open Option (bind_some)
variable {n:ZaA} {s0 t0 w:Int} {m:Nat} {f:ZaE} {rs:List (List ZbD)}
def Zrv (rs:List (List ZbD)) (k s:Nat):ZbD:=(((rs[k]?).getD [])[s]?).getD p11
def arrV (rs:List (List ZbD)) (k s:Nat):Int:=(Zrv rs k s).1
theorem ZiB.sound (F:ZiB n s0 t0 w m f rs) {k s:Nat} (hk:k≤m) (h:arrV rs k s≠ -1): ∃k',k' ≤k∧ ∃js,Ch f.2.1 (Zrv rs k s).2.2.2.1 js∧Der n s0 t0 w (.arr k' (s:Int) (arrV rs k s)) js:=by
 obtain⟨now,linked,h1,h2,h3,h4⟩:=F.st k hk
 unfold arrV Zrv at*
 rw[h1] at h ⊢
 simp only[Option.getD_some] at h ⊢
 by_cases hs:s<now.length
 ·rw[Zah hs] at h ⊢
  exact(h3 s _ (List.getElem?_eq_getElem hs)).arr h
 ·rw[List.getElem?_eq_none (by omega)] at h
  exact absurd rfl h
theorem ZiB.complete (F:ZiB n s0 t0 w m f rs) {k k' s:Nat} (hk:k≤m) (hk' :k' ≤k) {t:Int} {js:List ZaP} (d:Der n s0 t0 w (.arr k' (s:Int) t) js):arrV rs k s≠ -1∧arrV rs k s≤t:=by
 obtain⟨now,linked,h1,h2,h3,h4⟩:=F.st k hk
 obtain⟨p,p1,p2⟩:=h4.arr hk' d
 rw[Int.toNat_natCast] at p1
 unfold arrV Zrv
 rw[h1]
 simp only[Option.getD_some]
 rw[p1]
 exact p2
theorem Zq9 {n0:ZaA} {q:Zbq} (h:F103 n0 q=some (f,rs,0)): (F103S.f (n0,q,())).isSome=true:=by
 show (F103 n0 q).isSome=true
 rw[h];rfl
end Q
namespace Q
open Tr Go
open Option (bind_some)
theorem Zqd {n:ZaA} {q:Zbq} (h:Zkr n q=0) (hb:q.2.2.2.1=false):ZtA n q=0:=by
 unfold ZtA
 rw[decide_eq_true h,hb];rfl
end Q
namespace Q
open Tr Go
open Option (bind_some)
theorem Ch.len {lb:List Zm5} {l:Int} {js:List ZaP} (h:Ch lb l js): (js.length:Int)≤l+1:=by
 induction h with
 |nil=>simp
 |cons _ h2 _ ih=>simp only[List.length_append,List.length_cons,List.length_nil];omega
def ZqP (x y:ZaP):ZaP:=(x.1,x.2.1,x.2.2.1,x.2.2.2.1,x.2.2.2.2.1,x.2.2.2.2.2.1,IntKind.wrap .i64 (y.2.2.2.2.2.2.1 - IntKind.wrap .i64 (x.2.2.2.2.2.2.2.1 - x.2.2.2.2.2.2.1)),y.2.2.2.2.2.2.1,x.2.2.2.2.2.2.2.2)
def Zt9:List ZaP→List ZaP
 |x::y::js=>(bif x.1 then x else ZqP x y)::y::js
 |js=>js
theorem ZrW (x y:ZaP) (js:List ZaP):Zt9 (x::y::js)=(bif x.1 then x else ZqP x y)::y::js:=rfl
theorem ZrJ (js:List ZaP): (Zt9 js).length=js.length:=by
 match js with
 | []=>rfl
 | [_]=>rfl
 |_::_::_=>rfl
theorem Zsk {f:ZaE} {step:ZaE×Int×List ZaP→Option ((ZaE×Int×List ZaP) ⊕ (ZaE×List ZaP))}
  (h1: ∀back,step (f, -1,back)=some (.inr (f,back)))
  (h2: ∀ (l:Nat) x p back,f.2.1[l]? =some (x,p,())→back.length<4294967296→step (f,(l:Int),back)=some (.inl (f,p,back++[x]))) {l:Int} {js:List ZaP} (h:Ch f.2.1 l js):
  ∀back,back.length+js.length<4294967296→run step (f,l,back)=some (f,back++js.reverse):=by
 induction h with
 |nil=>intro back _;rw[ZbW (h1 back)];simp
 |cons e _ _ ih=>
  intro back hb
  simp only[List.length_append,List.length_cons,List.length_nil] at hb
  rw[Zc9 (h2 _ _ _ back e (by omega)),ih _ (by simp;omega)]
  simp
theorem Zms {f:ZaE} (hlb:f.2.1.length<4000000000) {l:Int} {js:List ZaP} (h:Ch f.2.1 l js):F109 f l=some (f,(Zt9 js,())):=by
 have hlen:=h.len
 have hlt:=h.lt
 unfold F109
 have hbk:run (fun s0:ZaE×Int×List ZaP=>
   bif !decide (s0.2.1=(-1:Int)) then
    Option.bind (inb s0.2.1 (List.length s0.1.2.1)) fun x1=>
    Option.bind s0.1.2.1[x1]? fun x2=>
    Option.bind (Zap (decide (List.length s0.2.2+List.length [x2.1]≤Zaq))) fun _=>
    Option.bind (inb s0.2.1 (List.length s0.1.2.1)) fun x4=>
    Option.bind s0.1.2.1[x4]? fun x5=>
    some (.inl (s0.1,x5.2.1,s0.2.2++[x2.1]))
   else some (.inr (s0.1,s0.2.2))) (f,l,[])=some (f,js.reverse):=by
  have:=Zsk (step:=fun s0:ZaE×Int×List ZaP=>
   bif !decide (s0.2.1=(-1:Int)) then
    Option.bind (inb s0.2.1 (List.length s0.1.2.1)) fun x1=>
    Option.bind s0.1.2.1[x1]? fun x2=>
    Option.bind (Zap (decide (List.length s0.2.2+List.length [x2.1]≤Zaq))) fun _=>
    Option.bind (inb s0.2.1 (List.length s0.1.2.1)) fun x4=>
    Option.bind s0.1.2.1[x4]? fun x5=>
    some (.inl (s0.1,x5.2.1,s0.2.2++[x2.1]))
   else some (.inr (s0.1,s0.2.2))) (fun back=>rfl) (fun l x p back e hb=> ?_) h [] (by simp;omega)
  ·simpa using this
  ·have hl:=(List.getElem?_eq_some_iff.1 e).1
   have hg:Zap (decide (List.length back+List.length [x]≤Zaq))=some ():=Zbh (by simp;omega)
   simp only[decide_eq_false (show¬ (l:Int)= -1 by omega),Bool.not_false,cond_true,ZaL hl,bind_some,e,hg]
 refine Zb5 (fun r=>r=(f,js.reverse)) ⟨_,hbk,rfl⟩ ?_
 rintro _ rfl
 have hjl:js.length<4000000000:=by omega
 have hm: (Zaq:Int)=4294967296:=by simp [Zaq]
 have hg:Zap (decide ((0:Int)≤(js.reverse.length:Int)∧(js.reverse.length:Int)≤(js.reverse.length:Int)∧(js.reverse.length:Int)≤(Zaq:Int)))=some ():=by
  rw[decide_eq_true (by rw[hm,List.length_reverse];omega)];rfl
 erw[hg]
 simp only[bind_some]
 refine Zb5 (fun r=>r=(f,js)) ?_ ?_
 ·refine Za9 js.length _ (fun i (st:ZaE×List ZaP×List ZaP×Int)=>st=(f,js.reverse,List.replicate (js.length - i) g0++(js.reverse.take i).reverse,(i:Int))) ?_ ?_ _ (by simp [g0])
  ·rintro i _ hi rfl
   left
   have hir:i<js.reverse.length:=by simpa using hi
   have hl2: (List.replicate (js.length - i) g0++(js.reverse.take i).reverse).length=js.length:=by simp;omega
   have w1:IntKind.wrap .i64 (IntKind.wrap .i64 ((js.reverse.length:Int) - 1) - (i:Int))=((js.length - 1 - i:Nat):Int):=by
    rw[List.length_reverse,Zaj (x:=(js.length:Int) - 1) (by omega) (by omega),Zaj (by omega) (by omega)];omega
   have hk:js.length - 1 - i< (List.replicate (js.length - i) g0++(js.reverse.take i).reverse).length:=by rw[hl2];omega
   have hi2:i<js.reverse.length:=hir
   simp only[Zay hir,cond_true,ZaL hir,bind_some,List.getElem?_eq_getElem hir,w1,ZaL hk,List.getElem?_eq_getElem hk,Zan hir (show _≤9223372036854775807 by rw[List.length_reverse];omega)]
   refine⟨_,rfl, ?_⟩
   have e:js.length - i=(js.length - (i+1))+1:=by omega
   rw[List.set_append_left _ _ (by simp;omega),e,List.replicate_succ',List.set_append_right _ _ (by simp;omega),List.length_replicate,show js.length - 1 - i - (js.length - (i+1))=0 by omega,List.set_cons_zero,List.append_assoc]
   rw[List.take_succ_eq_append_getElem hir,List.reverse_append]
   rfl
  ·rintro _ rfl
   have:decide ((js.length:Int)< (js.reverse.length:Int))=false:=by rw[List.length_reverse];exact ZaC _
   simp only[this,cond_false]
   have e:js.reverse.take js.length=js.reverse:=by rw[←List.length_reverse,List.take_length]
   exact⟨_,rfl,by rw[e];simp⟩
 ·rintro _ rfl
  match js with
  | []=>rfl
  | [x]=>rfl
  |x::y::js' =>
   have h1:decide ((1:Int)< ((x::y::js').length:Int))=true:=decide_eq_true (by simp;omega)
   have i0:inb (0:Int) (x::y::js').length=some 0:=ZaL (i:=0) (by simp)
   have i1:inb (1:Int) (x::y::js').length=some 1:=ZaL (i:=1) (by simp)
   simp only[h1,cond_true,i0,i1,bind_some,List.getElem?_cons_zero,List.getElem?_cons_succ,List.set_cons_zero]
   rw[ZrW]
   cases hx:x.1 with
   |true=>rfl
   |false=>simp only[Bool.not_false,cond_false,cond_true];unfold ZqP;rw[hx]
theorem Der.rid_last {n:ZaA} {s0 t0 w:Int} {k:Nat} {s t:Int} {js:List ZaP} (d:Der n s0 t0 w (.rid k s t) js): ∃ks x,js=ks++[x]∧x.2.2.2.2.2.2.2.1=t∧x.2.2.2.2.2.1=s:=by
 cases d with
 |ride d _=>
  cases d with
  |on d _ _=>exact⟨_,_,rfl,rfl,rfl⟩
theorem Der.arr_last {n:ZaA} {s0 t0 w:Int} {k:Nat} {s t:Int} {js:List ZaP} (d:Der n s0 t0 w (.arr k s t) js): (js=[]∧t=t0∧s=s0)∨ ∃ks x,js=ks++[x]∧x.2.2.2.2.2.2.2.1=t∧x.2.2.2.2.2.1=s:=by
 cases d with
 |here=>exact .inl ⟨rfl,rfl,rfl⟩
 |arrW=>exact .inr ⟨[],_,rfl,rfl,rfl⟩
 |arrR d=>exact .inr d.rid_last
 |arrV=>exact .inr ⟨_,_,rfl,rfl,rfl⟩
theorem ZpF (ks:List ZaP) (x:ZaP): ∃ks' x',Zt9 (ks++[x])=ks' ++[x']∧x'.2.2.2.2.2.2.2.1=x.2.2.2.2.2.2.2.1∧x'.2.2.2.2.2.1=x.2.2.2.2.2.1:=by
 match ks with
 | []=>exact⟨[],x,rfl,rfl,rfl⟩
 | [y]=>exact⟨[_],x,rfl,rfl,rfl⟩
 |y::z::ks' =>exact⟨_::z::ks',x,rfl,rfl,rfl⟩
def Zdn (q:Zbq) (L:List ZaP):Int:=if L.length=0 then q.2.2.1 else(lg L (L.length - 1)).2.2.2.2.2.2.2.1
theorem Zim (q:Zbq) {L:List ZaP} (hl:L.length<9000000000):F97 q (L,())=some (Zdn q L):=by
 unfold F97 Zdn
 by_cases h:L.length=0
 ·rw[if_pos h,decide_eq_true (show ((L.length:Int)=0) by omega)];rfl
 ·rw[if_neg h,decide_eq_false (show¬ ((L.length:Int)=0) by omega)]
  have w1:IntKind.wrap .i64 ((L.length:Int) - 1)=((L.length - 1:Nat):Int):=by rw[Zaj (by omega) (by omega)];omega
  simp only[cond_false,w1,Zfv (show L.length - 1<L.length by omega),bind_some]
theorem ZlB (q:Zbq) (ks:List ZaP) (x:ZaP):Zdn q (ks++[x])=x.2.2.2.2.2.2.2.1:=by
 unfold Zdn lg
 rw[if_neg (by simp)]
 simp
theorem Der.arrival {n:ZaA} {q:Zbq} {w:Int} {k:Nat} {s t:Int} {js:List ZaP} (d:Der n q.1 q.2.2.1 w (.arr k s t) js):Zdn q (Zt9 js)=t:=by
 rcases d.arr_last with ⟨rfl,rfl,_⟩ | ⟨ks,x,rfl,h,_⟩
 ·rfl
 ·obtain⟨ks',x',e,h',_⟩:=ZpF ks x
  rw[e,ZlB,h',h]
theorem Zu3 {P:Nat→Prop} : ∀ {m:Nat},P m→ ∃k,k≤m∧P k∧ ∀j,j<k→ ¬P j:=by
 intro m
 induction m using Nat.strongRecOn with
 |_ m ih=>
  intro h
  by_cases e: ∃j,j<m∧P j
  ·obtain⟨j,h1,h2⟩:=e
   obtain⟨k,k1,k2,k3⟩:=ih j h1 h2
   exact⟨k,by omega,k2,k3⟩
  ·exact⟨m,Nat.le_refl m,h,fun j hj hp=>e ⟨j,hj,hp⟩⟩
variable {n:ZaA} {s0 t0 w:Int} {m:Nat} {f:ZaE} {rs:List (List ZbD)}
theorem ZiB.idxP (F:ZiB n s0 t0 w m f rs) {k s:Nat} (hk:k≤m) (hs:s<n.1.length): ∃now,idx rs (k:Int)=some now∧idx now (s:Int)=some (Zrv rs k s):=by
 obtain⟨now,linked,h1,h2,_⟩:=F.st k hk
 have hl:k<rs.length:=by rw[F.len];omega
 have e:rs[k]=now:=by rw[List.getElem?_eq_getElem hl] at h1;exact Option.some.inj h1
 have hsn:s<now.length:=by omega
 refine⟨now,by rw[Zag hl,e], ?_⟩
 unfold Zrv
 rw[h1]
 simp only[Option.getD_some]
 rw[Zag hsn,Zah hsn]
theorem ZjT (F:ZiB n s0 t0 w m f rs) (hm:m≤8) {n0:ZaA} {q:Zbq} (h:F103 n0 q=some (f,rs,0)) {a:Nat} (hq:q.2.1=(a:Int)) (ha:a<n.1.length) (hv:arrV rs m a≠ -1):
  ∃k k' js,k≤m∧arrV rs k a=arrV rs m a∧(∀j,j<k→arrV rs j a≠arrV rs m a)∧k' ≤k∧Ch f.2.1 (Zrv rs k a).2.2.2.1 js∧Der n s0 t0 w (.arr k' (a:Int) (arrV rs m a)) js∧F99 n0 q=some ((Zt9 js,()),0):=by
 obtain⟨k,hk,hk1,hk2⟩:=Zu3 (P:=fun j=>arrV rs j a=arrV rs m a) (m:=m) rfl
 obtain⟨k',hk',js,hch,hd⟩:=F.sound hk (by rw[hk1];exact hv)
 rw[hk1] at hd
 refine⟨k,k',js,hk,hk1,hk2,hk',hch,hd, ?_⟩
 unfold F99
 rw[Zq9 h,h]
 obtain⟨now,h1,h2⟩:=F.idxP (Nat.le_refl m) ha
 have w1:IntKind.wrap .i64 ((rs.length:Int) - 1)=(m:Int):=by rw[F.len,Zaj (by omega) (by omega)];omega
 simp only[cond_true,bind_some,decide_true,Bool.not_true,cond_false,w1,h1,hq,h2]
 have e1: (Zrv rs m a).1=arrV rs m a:=rfl
 rw[e1,decide_eq_false hv]
 simp only[cond_false]
 obtain⟨now',h3,h4⟩:=F.idxP hk ha
 refine Zb5 (fun r=>r=(f,(k:Int))) ?_ ?_
 ·refine Za9 k _ (fun i (st:ZaE×Int)=>st=(f,(i:Int))) ?_ ?_ _ rfl
  ·rintro i _ hi rfl
   left
   obtain⟨nw,h5,h6⟩:=F.idxP (show i≤m by omega) ha
   have e2: (Zrv rs i a).1=arrV rs i a:=rfl
   simp only[h5,bind_some,h6,e2,decide_eq_false (hk2 i hi),Bool.not_false,cond_true]
   exact⟨_,rfl,by rw[Zan hi (by omega)]⟩
  ·rintro _ rfl
   have e2: (Zrv rs k a).1=arrV rs k a:=rfl
   simp only[h3,bind_some,h4,e2,hk1,decide_true,Bool.not_true,cond_false]
   exact⟨_,rfl,rfl⟩
 ·rintro _ rfl
  simp only[h3,bind_some,h4,Zms F.lab hch]
end Q
namespace Q
open Tr Go
open Option (bind_some)
structure ZuZ (n:ZaA):Prop where
 stops:n.1.length≤5
 runs:n.2.2.1.length≤7
 links:n.2.2.2.1.length≤30
 paths:n.2.2.2.2.1.length≤60
 calls: ∀r∈n.2.2.1,r.2.2.2.2.2.2.2.1.length≤6
 whole:Whole n
open Classical in
theorem ZqF {n:ZaA} (h:ZlR Y31 n): ∃b,F62 n=some b∧(b=true→ZuZ n):=by
 unfold F62
 by_cases h1: (5:Int)< (n.1.length:Int)
 ·rw[decide_eq_true h1];exact⟨false,rfl,fun e=>(nomatch e)⟩
 by_cases h2: (7:Int)< (n.2.2.1.length:Int)
 ·rw[decide_eq_false h1,decide_eq_true h2];exact⟨false,rfl,fun e=>(nomatch e)⟩
 by_cases h3: (30:Int)< (n.2.2.2.1.length:Int)
 ·rw[decide_eq_false h1,decide_eq_false h2,decide_eq_true h3];exact⟨false,rfl,fun e=>(nomatch e)⟩
 by_cases h4: (60:Int)< (n.2.2.2.2.1.length:Int)
 ·rw[decide_eq_false h1,decide_eq_false h2,decide_eq_false h3,decide_eq_true h4];exact⟨false,rfl,fun e=>(nomatch e)⟩
 rw[decide_eq_false h1,decide_eq_false h2,decide_eq_false h3,decide_eq_false h4]
 simp only[cond_false,bind_some]
 have hfit:=ZuH h (by omega)
 rw[ZfA hfit]
 have key: ∀ (o:Option (Unit ⊕ Bool)),(∃r,o=some r∧(r= .inr false∨r= .inl ()∧ ∀x∈n.2.2.1,x.2.2.2.2.2.2.2.1.length≤6))→
   ∃b,(Option.bind o fun x3=>Sum.elim (fun _=>Option.bind (some (decide (Whole n))) fun x5=>some x5) (fun y6=>some y6) x3)=some b∧(b=true→ZuZ n):=by
  rintro o ⟨r,rfl,rfl| ⟨rfl,hc⟩⟩
  ·exact⟨false,rfl,fun e=>(nomatch e)⟩
  ·exact⟨_,rfl,fun e=>⟨by omega,by omega,by omega,by omega,hc,of_decide_eq_true e⟩⟩
 refine key _ (Za9 n.2.2.1.length _ (fun i (s:Int)=>s=(i:Int)∧ ∀x∈n.2.2.1.take i,x.2.2.2.2.2.2.2.1.length≤6) ?_ ?_ _ ⟨rfl,by simp⟩)
 ·rintro i _ hi ⟨rfl,ha⟩
  simp only[Zay hi,cond_true,Zag hi,bind_some,Zan hi (show _≤9223372036854775807 by omega)]
  by_cases hc: (6:Int)< ((n.2.2.1[i]).2.2.2.2.2.2.2.1.length:Int)
  ·right
   rw[decide_eq_true hc]
   exact⟨_,rfl, .inl rfl⟩
  ·left
   rw[decide_eq_false hc]
   refine⟨_,rfl,rfl,fun x hx=> ?_⟩
   rw[List.take_succ_eq_append_getElem hi,List.mem_append] at hx
   rcases hx with hx|hx
   ·exact ha x hx
   ·simp only[List.mem_singleton] at hx
    subst hx
    omega
 ·rintro _ ⟨rfl,ha⟩
  simp only[ZaC,cond_false]
  rw[List.take_length] at ha
  exact⟨_,rfl, .inr ⟨rfl,ha⟩⟩
theorem Zkx {n:ZaA} (h:ZlR Y31 n) (q:Zbq): ∃b,F31 n q=some b∧(b=true→ZuZ n∧qB n.1.length q=true∧q.2.2.2.1=false∧q.2.2.2.2.1≤3):=by
 unfold F31
 obtain⟨b,hb1,hb2⟩:=ZqF h
 rw[hb1]
 cases b with
 |false=>exact⟨false,rfl,fun e=>(nomatch e)⟩
 |true=>
  have hT:=hb2 rfl
  simp only[bind_some,cond_true]
  rw[Zjj n.1.length (by have:=hT.stops;omega) q]
  simp only[bind_some]
  cases hq:qB n.1.length q with
  |false=>exact⟨false,rfl,fun e=>(nomatch e)⟩
  |true=>
   cases hk:q.2.2.2.1 with
   |true=>exact⟨false,rfl,fun e=>(nomatch e)⟩
   |false=>
    simp only[cond_true,Bool.not_false,bind_some]
    exact⟨_,rfl,fun e=>⟨hT,trivial,trivial,of_decide_eq_true e⟩⟩
theorem Zql {n:ZaA} (h:ZlR Y31 n) {q:Zbq} (hT:ZuZ n) (hq:qB n.1.length q=true) (hb:q.2.2.2.1=false):Fit n∧Few n∧ZtA n q=0∧Zkr n q=0:=by
 have hfit:=ZuH h (by have:=hT.paths;omega)
 have hc:=Zhv.2 ⟨hT.whole,hq⟩
 refine⟨hfit,⟨by have:=hT.stops;omega, ?_,by have:=hT.runs;omega,by have:=hT.links;omega,by have:=hT.paths;omega, ?_,fun r hr=>by have:=hT.calls r hr;omega⟩,Zqd hc hb,hc⟩
 ·have t:=hT.whole.t
  unfold ZeM at t
  split at t
  ·exact absurd t (by decide)
  ·omega
 ·have z:=hT.whole.z
  unfold Zif at z
  split at z
  ·exact absurd z (by decide)
  ·split at z
   ·exact absurd z (by decide)
   ·omega
theorem Zuw (n:ZaA) (h:ZlR Y31 n) (q:Zbq) (j:Zvx):F26 n q j=some true:=by
 obtain⟨L,⟨⟩⟩:=j
 unfold F26
 obtain⟨b,hb1,hb2⟩:=Zkx h q
 rw[hb1]
 cases b with
 |false=>simp only[bind_some,Bool.not_false,cond_true,Zdt]
 |true=>
  obtain⟨hT,hq,hbk,hm3⟩:=hb2 rfl
  obtain⟨hfit,hfew,hchk,hcq⟩:=Zql h hT hq hbk
  simp only[bind_some,Bool.not_true,cond_false]
  by_cases hL:20<L.length
  ·rw[decide_eq_true (show (20:Int)< (L.length:Int) by omega)]
   simp only[bind_some,cond_true,Zdt]
  rw[decide_eq_false (show¬ (20:Int)< (L.length:Int) by omega)]
  simp only[cond_false]
  rw[ZlL hfit (by have:=hfew.prods;omega) q L (by omega)]
  simp only[bind_some]
  by_cases hfz: (Zi6 n q L).2=0
  rotate_left
  ·rw[decide_eq_false hfz]
   simp only[Bool.not_false,cond_true,Zdt,bind_some]
  rw[decide_eq_true hfz]
  simp only[Bool.not_true,cond_false]
  obtain⟨f,rs,h1,C,hw,_,_,F⟩:=Zss hfit hfew hchk
  have hqb' :=hq
  unfold qB inR at hqb'
  simp only[Bool.and_eq_true,decide_eq_true_eq] at hqb'
  obtain⟨hs0,hs1,ht0,hm,_⟩:=hqb'
  obtain⟨m,hm'⟩: ∃m:Nat,q.2.2.2.2.1=(m:Int):=⟨q.2.2.2.2.1.toNat,by omega⟩
  rw[hm',Int.toNat_natCast] at F
  have hst: (Za7 n q).1.length=n.1.length:=rfl
  have hst2:=hT.stops
  have hm8:m≤8:=by omega
  obtain⟨a,ha⟩: ∃a:Nat,q.2.1=(a:Int):=⟨q.2.1.toNat,by omega⟩
  have hal:a< (Za7 n q).1.length:=by rw[hst];omega
  have hle:arrV rs m a≠ -1∧arrV rs m a≤Zdn q L:=by
   rcases (Zow n q L).1 hfz with ⟨_,⟨hl0,hft⟩ | ⟨hl0,hat,hend⟩⟩
   ·have d:=Der.here (n:=Za7 n q) (s0:=q.1) (t0:=q.2.2.1) (w:=(bif q.2.2.2.2.2.2.2.2.2.1 then(Zci (Za7 n q) q.1).2.2.2.1 else 0))
    rw[hft,ha] at d
    have:=F.complete (Nat.le_refl m) (Nat.zero_le m) (by rw[hft,ha];exact d)
    unfold Zdn
    rw[if_pos hl0]
    exact this
   ·have hn:=C.net
    obtain⟨js,d⟩:=ZuB (n:=Za7 n q) (q:=q) hn C.stop C.time hbk (L:=L) (by omega) (fun i hi=>ZrY.2 (hat i hi))
    unfold Zs6 at hend
    rw[ZaB (by omega),ZaB (by omega),ZaB (by omega)] at hend
    obtain⟨e1,_,e2,_⟩:=hend
    simp only[Bool.not_eq_false',decide_eq_true_eq,decide_eq_false_iff_not] at e1 e2
    rw[e1,ha] at d
    have:=F.complete (Nat.le_refl m) (show Zby L≤m by omega) d
    unfold Zdn
    rw[if_neg hl0]
    exact this
  obtain⟨k,k',js,e1,e2,e3,e4,e5,e6,e7⟩:=ZjT F hm8 h1 ha hal hle.1
  have hjl:js.length<9000000000:=by have:=e5.len;have:=e5.lt;have:=F.lab;omega
  rw[e7]
  simp only[bind_some,decide_true,cond_true]
  rw[Zim q (by rw[ZrJ];exact hjl),Zim q (by omega),Der.arrival e6]
  simp only[bind_some]
  rw[decide_eq_true hle.2]
  simp only[cond_true,Zdt,bind_some]
theorem boundsP (x:ZdT F26A) (h:Zlu F26A x):F26 x.1 x.2.1 x.2.2.1=some true:=Zuw _ h.1 _ _
end Q
