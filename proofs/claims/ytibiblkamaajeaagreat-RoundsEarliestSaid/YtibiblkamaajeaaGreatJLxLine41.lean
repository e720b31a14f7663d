/- Lines of a valid network: the list is made. Conditions: a valid network. -/
import Derived.Test.YtibiblkamaajeaaGreatJLxFilt41
import Derived.Test.YtibiblkamaajeaaGreatJLwJa2841
open Bool renaming and_eq_true ->Vi,not_true ->Vk,false_eq_true ->Vn,not_false ->Vu,true_and ->Vsa,not_eq_true' ->Vnb,false_and ->Vbc,and_self ->Vic,not_eq_false' ->Vkc,or_eq_true ->Vpc
open Int renaming toNat_natCast ->Vp,le_refl ->Vwa,toNat ->Vrc
open Go.IntKind renaming wrap ->Vd
open List renaming take_succ_eq_append_getElem ->Va,getElem?_eq_getElem ->Vb,length ->Vc,length_append ->Ve,take_length ->Vf,mem_singleton ->Vg,getElem_mem ->Vj,length_singleton ->Vl,mem_append ->Vm,mem_flatMap ->Vo,replicate ->Vr,range ->Vs,map_append ->Vv,length_take ->Vw,mem_append_left ->Vx,length_cons ->Vy,flatMap_append ->Vz,length_nil ->Vaa,length_map ->Vba,mem_append_right ->Vca,append_assoc ->Vea,append_nil ->Vfa,takeWhile_append_dropWhile ->Vha,sum_append ->Via,map_cons ->Vja,sum_cons ->Vka,drop ->Vla,length_filter_le ->Vma,take ->Vna,mem_of_getElem? ->Voa,length_reverse ->Vpa,filter_cons ->Vqa,mem_map ->Vra,length_set ->Vta,getElem?_set_self ->Vua,eq_nil_of_length_eq_zero ->Vva,mem_range ->Vxa,getElem?_append_left ->Vza,eq_of_mem_replicate ->Vab,pairwise_cons ->Vbb,take_append_of_le_length ->Veb,range_succ ->Vgb,mem_filter ->Vhb,getElem_of_mem ->Vjb,reverse_append ->Vkb,getElem?_append_right ->Vmb,mem_cons ->Vob,mem_or_eq_of_mem_set ->Vpb,getElem?_eq_some_iff ->Vqb,flatMap_cons ->Vrb,map_map ->Vub,getElem?_replicate ->Vvb,take_of_length_le ->Vwb,set_append_right ->Vxb,length_replicate ->Vyb,getElem?_eq_none ->Vzb,take_append_drop ->Vac,pairwise_append ->Vdc,replicate_succ' ->Vec,getElem?_set_ne ->Vfc,mem_of_mem_take ->Vhc,set_cons_zero ->Vjc,append_inj' ->Vmc,cons_append ->Vnc,any_eq_true ->Voc,nil_append ->Vqc
open Nat renaming le_refl ->Vh,le_trans ->Vt,zero_le ->Vda,mul_le_mul_left ->Vga,mul_le_mul_right ->Vya,zero_add ->Vcb,not_lt_zero ->Vfb,le_of_eq ->Vib,add_sub_cancel ->Vlb,succ_mul ->Vsb,add_zero ->Vtb,add_le_add ->Vcc,pow_le_pow_right ->Vgc,or_lt_two_pow ->Vlc,lt_irrefl ->Vsc
open Option renaming bind ->Vq,getD_some ->Vdb
namespace Q
open Tr Go
open Option (bind_some)
def Zmf(x y:Zbd):Bool:=decide (x.1=y.1) && (x.2.2.2.1==y.2.2.2.1) && (x.2.2.2.2.1==y.2.2.2.2.1) && !decide (y.2.1<x.2.1) && !decide (y.2.2.1<x.2.2.1)
def Zw6(a b:Zlm)(i:Nat):Int:=if Zmf (cl a.2.2.2.2.2.2.2.1 i) (cl b.2.2.2.2.2.2.2.1 i) then 0 else 1
def Zwy(a b:Zlm):Bool:=decide (a.2.2.2.2.1=b.2.2.2.2.1) && (a.2.2.2.2.2.1==b.2.2.2.2.2.1) &&decide (a.2.2.2.2.2.2.2.1.length=b.2.2.2.2.2.2.2.1.length) && (Zay a.2.2.2.2.2.2.2.1.length (Zw6 a b)).isNone
theorem ZpD{l:List Zbd}{i:Nat}(h:i<l.length):cl l (i:Int)=l[i]:=by unfold cl;rw[show ((i:Nat):Int).toNat=i from rfl,Zak h]
theorem Zmt(x y:Zbd):F33 x y=some (decide (x.1=y.1) && ((x.2.2.2.1==y.2.2.2.1) && (x.2.2.2.2.1==y.2.2.2.2.1))):=by unfold F33;rw[decide_eq_true rfl];simp only[Vsa]
theorem Zjy(a b:Zlm)(hl:a.2.2.2.2.2.2.2.1.length<=9223372036854775807):F35 a b=some (Zwy a b):=by
 unfold F35 Zwy;by_cases h1:a.2.2.2.2.1=b.2.2.2.2.1
 case neg=>simp only[decide_eq_false h1,Vu,cond_true,bind_some,Vbc]
 simp only[decide_eq_true h1,Vk,cond_false,Vsa]
 cases h2: (a.2.2.2.2.2.1==b.2.2.2.2.2.1) with
 |false=>simp only[Vu,cond_true,bind_some,Vbc]
 |true=>
  simp only[Vk,cond_false,Vsa];by_cases h3:a.2.2.2.2.2.2.2.1.length=b.2.2.2.2.2.2.2.1.length
  case neg=>
   have h3' : ¬ ((a.2.2.2.2.2.2.2.1.length:Int)=(b.2.2.2.2.2.2.2.1.length:Int)):=by omega
   simp only[decide_eq_false h3,decide_eq_false h3',Vu,cond_true,bind_some,Vbc]
  have h3' : ((a.2.2.2.2.2.2.2.1.length:Int)=(b.2.2.2.2.2.2.2.1.length:Int)):=by omega
  simp only[decide_eq_true h3,decide_eq_true h3',Vk,cond_false,bind_some,Vsa];rw[Zba (n:=a.2.2.2.2.2.2.2.1.length) (fun i st=>st=(i:Int)) (Zw6 a b) (fun _=> .inr false) (.inl ()) ?_ ?_ ?_ (0:Int) rfl]
  ·unfold pick
   cases Zay a.2.2.2.2.2.2.2.1.length (Zw6 a b)<;>rfl
  ·rintro i _ hi rfl hc;have hi' :i<b.2.2.2.2.2.2.2.1.length:=by omega
   have hok:Zmf a.2.2.2.2.2.2.2.1[i] b.2.2.2.2.2.2.2.1[i]=true:=by
    unfold Zw6 at hc;rw[ZpD hi,ZpD hi']at hc;split at hc
    ·assumption
    ·omega
   simp only[Zmf,Vi,Vnb,decide_eq_true_eq]at hok;obtain⟨⟨⟨⟨k1,k2⟩,k3⟩,k4⟩,k5⟩:=hok;refine⟨((i+1:Nat):Int), ?_,rfl⟩;simp only[Zav hi,cond_true,Zaf hi,Zaf hi',bind_some,Zmt,decide_eq_true k1,k2,k3,k4,k5,Vic,Vk,cond_false,Zai hi hl]
  ·rintro i _ hi rfl hc;have hi' :i<b.2.2.2.2.2.2.2.1.length:=by omega
   have hok:Zmf a.2.2.2.2.2.2.2.1[i] b.2.2.2.2.2.2.2.1[i]=false:=by
    unfold Zw6 at hc;rw[ZpD hi,ZpD hi']at hc;split at hc
    ·omega
    ·rename_i hh;simpa using hh
   simp only[Zav hi,cond_true,Zaf hi,Zaf hi',bind_some,Zmt];unfold Zmf at hok;generalize decide (a.2.2.2.2.2.2.2.1[i].1=b.2.2.2.2.2.2.2.1[i].1)=b1 at*;generalize (a.2.2.2.2.2.2.2.1[i].2.2.2.1==b.2.2.2.2.2.2.2.1[i].2.2.2.1)=b2 at*;generalize (a.2.2.2.2.2.2.2.1[i].2.2.2.2.1==b.2.2.2.2.2.2.2.1[i].2.2.2.2.1)=b3 at*;generalize decide (b.2.2.2.2.2.2.2.1[i].2.1<a.2.2.2.2.2.2.2.1[i].2.1)=b4 at*;generalize decide (b.2.2.2.2.2.2.2.1[i].2.2.1<a.2.2.2.2.2.2.2.1[i].2.2.1)=b5 at*
   revert hok
   cases b1<;>cases b2<;>cases b3<;>cases b4<;>cases b5<;>intro hok<;>first|rfl|exact absurd hok (by decide)
  ·rintro _ rfl;simp only[Zaw,cond_false]
def ln(l:List Int)(i:Nat):Int:=(l[i]?).getD 0
theorem ZwY{l:List Int}{i:Nat}(h:i<l.length):ln l i=l[i]:=Zak h 0
def Zw5(x:Zlm):Bool:=x.2.2.2.2.2.2.1
theorem Zpl{n:Zat}(hc: ∀x∈n.2.2.1,x.2.2.2.2.2.2.2.1.length<=9223372036854775807)(a:Int): (rn n a).2.2.2.2.2.2.2.1.length<=9223372036854775807:=by
 unfold rn
 cases h:n.2.2.1[a.toNat]? with
 |none=>simp [u0]
 |some x=>exact hc x (Voa h)
theorem Zmh{n:Zat}{a:Int}(h:inR a n.2.2.1.length=true):idx n.2.2.1 a=some (rn n a):=Za6 h u0
abbrev calls(x:Zlm):List Zbd:=x.2.2.2.2.2.2.2.1
theorem Zvs{l:List Zbd}{c:Int}(h:inR c l.length=true):idx l c=some (cl l c):=Za6 h c0
def d0(n:Zat)(o:Int):Int:=(cl (calls (rn n o)) 0).2.2.1
def pLe(n:Zat)(d o:Int):Bool:=decide (d0 n o<=d)
def Zwn(n:Zat)(out:List Int)(m:Int):List Int:=out.takeWhile (pLe n (d0 n m))++m::out.dropWhile (pLe n (d0 n m))
def ZhC(n:Zat):Nat->List Int
 |0=>[]
 |m+1=>if Zw5 (rn n m) then ZhC n m else Zwn n (ZhC n m) m
structure ZxD (n:Zat) (m:Nat) (out:List Int):Prop where
 srt:out.Pairwise fun a b=>d0 n a<=d0 n b
 el: ∀o∈out,0<=o/\o< (m:Int)/\Zw5 (rn n o)=false
 nd:out.Nodup
 len:out.length<=m
 all: ∀k:Nat,k<m->Zw5 (rn n k)=false->(k:Int)∈out
theorem Zst{n:Zat}{d:Int} : ∀ {out:List Int},(out.Pairwise fun a b=>d0 n a<=d0 n b)-> ∀o∈out.dropWhile (pLe n d),d<d0 n o
 | [],_,o,h=>by simp at h
 |x::l,hs,o,h=>by
  rw[Vbb]at hs;rw[List.dropWhile_cons]at h;split at h
  ·exact Zst hs.2 o h
  ·rename_i hx
   have hx' :d<d0 n x:=by
    have: ¬d0 n x<=d:=by simpa [pLe] using hx
    omega
   rcases Vob.1 h with rfl|h
   ·exact hx'
   ·have:=hs.1 o h;omega
theorem ZtG{n:Zat}{d:Int} : ∀ {out:List Int}, ∀o∈out.takeWhile (pLe n d),d0 n o<=d
 | [],o,h=>by simp at h
 |x::l,o,h=>by
  rw[List.takeWhile_cons]at h;split at h
  ·rename_i hx;rcases Vob.1 h with rfl|h
   ·simpa [pLe] using hx
   ·exact ZtG o h
  ·simp at h
theorem ZxD.ins{n:Zat}{m:Nat}{out:List Int}(h:ZxD n m out)(hc:Zw5 (rn n m)=false):ZxD n (m+1) (Zwn n out m):=by
 have e:out.takeWhile (pLe n (d0 n m))++out.dropWhile (pLe n (d0 n m))=out:=Vha
 have hp: (Zwn n out m).Perm ((m:Int)::out):=by unfold Zwn;refine(List.perm_middle).trans ?_;rw[e]
 have hs:=h.srt;rw[<-e]at hs;obtain⟨s1,s2,s3⟩:=Vdc.1 hs;refine⟨?_,fun o ho=> ?_, ?_,by rw[hp.length_eq];simp;exact h.len,fun k hk hck=> ?_⟩
 ·unfold Zwn;refine Vdc.2 ⟨s1,Vbb.2 ⟨fun o ho=> ?_,s2⟩,fun a ha b hb=> ?_⟩
  ·have:=Zst h.srt o ho;omega
  ·rcases Vob.1 hb with rfl|hb
   ·exact ZtG a ha
   ·exact s3 a ha b hb
 ·rcases Vob.1 (hp.mem_iff.1 ho) with rfl|ho
  ·exact⟨by omega,by omega,hc⟩
  ·obtain⟨a,b,c⟩:=h.el o ho;exact⟨a,by omega,c⟩
 ·refine hp.nodup_iff.2 (List.nodup_cons.2 ⟨fun hm=> ?_,h.nd⟩);have:=(h.el _ hm).2.1;omega
 ·refine hp.mem_iff.2 ?_;by_cases e:k=m
  ·subst e;simp
  ·exact List.mem_cons_of_mem _ (h.all k (by omega) hck)
theorem ZnH(n:Zat): ∀m,ZxD n m (ZhC n m)
 |0=>⟨.nil,by simp [ZhC],by simp [ZhC],by simp [ZhC],fun k hk=>by omega⟩
 |m+1=>by
  unfold ZhC;have ih:=ZnH n m;split
  ·rename_i hc
   exact⟨ih.srt,fun o ho=>by obtain⟨a,b,c⟩:=ih.el o ho;exact⟨a,by omega,c⟩,ih.nd,by have:=ih.len;omega,fun k hk hck=>by
    by_cases e:k=m
    ·subst e;rw[hc]at hck;exact absurd hck (by decide)
    ·exact ih.all k (by omega) hck⟩
  ·rename_i hc;exact ih.ins (by simpa using hc)
theorem ZwX{n:Zat}{d:Int}{out:List Int}(hs:out.Pairwise fun a b=>d0 n a<=d0 n b): ∀ (i:Nat) (hi:i<out.length),pLe n d out[i]=true↔i< (out.takeWhile (pLe n d)).length:=by
 intro i hi;have e:out.takeWhile (pLe n d)++out.dropWhile (pLe n d)=out:=Vha;constructor
 ·intro hp;apply Decidable.byContradiction;intro hlt
  have hm:out[i]∈out.dropWhile (pLe n d):=by
   have h2:i - (out.takeWhile (pLe n d)).length< (out.dropWhile (pLe n d)).length:=by have:=congrArg Vc e;simp only[Ve]at this;omega
   have:out[i]=(out.dropWhile (pLe n d))[i - (out.takeWhile (pLe n d)).length]:=by
    have h3:out[i]? =(out.dropWhile (pLe n d))[i - (out.takeWhile (pLe n d)).length]? :=by
     conv=>lhs;rw[<-e]
     rw[Vmb (by omega)]
    rw[Vb hi,Vb h2]at h3;exact Option.some.inj h3
   rw[this];exact Vj h2
  have:=Zst hs _ hm;have h4:d0 n out[i]<=d:=by simpa [pLe] using hp
  omega
 ·intro hlt
  have hm:out[i]∈out.takeWhile (pLe n d):=by
   have h3:out[i]? =(out.takeWhile (pLe n d))[i]? :=by
    conv=>lhs;rw[<-e]
    rw[Vza hlt]
   rw[Vb hi,Vb hlt]at h3;rw[Option.some.inj h3];exact Vj hlt
  simpa [pLe] using ZtG _ hm
theorem Zwe{n:Zat}{d:Int}(out:List Int):out.takeWhile (pLe n d)=out.take (out.takeWhile (pLe n d)).length/\out.dropWhile (pLe n d)=out.drop (out.takeWhile (pLe n d)).length:=by
 have e:out.takeWhile (pLe n d)++out.dropWhile (pLe n d)=out:=Vha;constructor
 ·have:=List.take_left (l₁:=out.takeWhile (pLe n d)) (l₂:=out.dropWhile (pLe n d));rw[e]at this;exact this.symm
 ·have:=List.drop_left (l₁:=out.takeWhile (pLe n d)) (l₂:=out.dropWhile (pLe n d));rw[e]at this;exact this.symm
theorem Znn{n:Zat}(h:Zct n){o d:Int}(hr:inR o n.2.2.1.length=true):F37 o n d=some (pLe n d o):=by
 unfold F37;have hm:=h.many _ (Zgw hr);rw[Zmh hr];simp only[bind_some]
 have h0:inR 0 (calls (rn n o)).length=true:=by unfold inR;rw[decide_eq_true (Vwa 0),decide_eq_true (show (0:Int)< ((calls (rn n o)).length:Int) by show (0:Int)< ((rn n o).2.2.2.2.2.2.2.1.length:Int);omega)];rfl
 rw[Zvs h0];rfl
theorem Zs8{n:Zat}(h:Zct n){out:List Int}{d:Int}(hl:out.length<=4611686018427387904)(hr: ∀o∈out,inR o n.2.2.1.length=true){k:Nat}(hk:k<=out.length)(hp: ∀ (i:Nat) (hi:i<out.length),pLe n d out[i]=true↔i<k):
  F34 out (n,d,())=some (k:Int):=by
 unfold F34;rw[Zum (n:=out.length) hk ?_ ?_]
 ·rfl
 ·intro lo hi hlt hhi;have hm:lo+(hi - lo) / 2<out.length:=by omega
  simp only[decide_eq_true (show (lo:Int)< (hi:Int) by omega),cond_true,Zwh (show lo<=hi by omega) (show hi<=4611686018427387904 by omega),Zaf hm,bind_some];rw[Znn h (hr _ (Vj hm))];simp only[bind_some];have hp' :=hp _ hm
  cases hd:pLe n d out[lo+(hi - lo) / 2] with
  |true=>
   rw[if_pos (hp'.1 hd)];rw[Zae (by omega) (by omega)];simp only[cond_true]
   rfl
  |false=>
   rw[if_neg (fun hh=>by rw[hp'.2 hh]at hd;exact absurd hd (by decide))];rfl
 ·intro lo;simp only[decide_eq_false (show¬ (lo:Int)< (lo:Int) by omega),cond_false]
theorem ZuQ(out:List Int){k:Nat}(hk:k<=out.length):
  (Vna (k+1) (out++[(0:Int)])++Vna (min (Vc (Vna (out.length+1 - k) (Vla k (out++[(0:Int)])))) (out.length+1 - (k+1))) (Vna (out.length+1 - k) (Vla k (out++[(0:Int)])))++
   Vla (k+1+min (Vc (Vna (out.length+1 - k) (Vla k (out++[(0:Int)])))) (out.length+1 - (k+1))) (out++[(0:Int)]))=Vna (k+1) (out++[(0:Int)])++Vla k out:=by
 have e1:Vna (out.length+1 - k) (Vla k (out++[(0:Int)]))=Vla k (out++[(0:Int)]):=Vwb (by simp);have e2:min (Vc (Vla k (out++[(0:Int)]))) (out.length+1 - (k+1))=out.length - k:=by simp;omega
 have e3:Vla (out.length+1) (out++[(0:Int)])=[]:=List.drop_of_length_le (by simp);rw[e1,e2,show k+1+(out.length - k)=out.length+1 by omega,e3,Vfa];congr 1;rw[List.drop_append_of_le_length hk,Veb (by simp),Vwb (by simp)]
theorem ZvZ(out:List Int){k:Nat}(hk:k<=out.length)(x m:Int): (Vna (k+1) (out++[x])++Vla k out).set k m=out.take k++m::out.drop k:=by
 have h1:Vna (k+1) (out++[x])=out.take k++[((out++[x])[k]'(by simp;omega))]:=by rw[Va (by simp;omega),Veb hk]
 rw[h1,Vea,Vxb _ _ (by simp;omega)];simp [Nat.min_eq_left hk]
theorem ZoF        {n : Zat }(h : Zct   n) : F36 n = some (ZhC  n n.2.2.1.length) := by
  unfold F36
  refine Exists.elim (ZaL     (τ := List Int) n.2.2.1.length (fun r => r = ZhC  n n.2.2.1.length) (fun i (s : List Int × Int) => s = (ZhC  n i, (i : Int)))
    ?_ ?_ ([], (0 : Int)) rfl) (fun r hr => (congrArg (Vq · _) hr.1).trans (by rw [hr.2]; rfl))
  · rintro i _ hi rfl
    have hI := ZnH     n i;have hin := h.runs
    have hr : inR (i : Int) n.2.2.1.length = true := by unfold inR; rw [decide_eq_true (show (0 : Int) <= (i : Int) by omega), decide_eq_true (show (i : Int) < (n.2.2.1.length : Int) by omega)]; rfl
    have hrn : n.2.2.1[i] = rn n (i : Int) := by unfold rn; rw [show ((i : Nat) : Int).toNat = i from rfl, Zak     hi]
    have hll := hI.len;refine .inl ⟨(ZhC  n (i + 1), ((i + 1 : Nat) : Int)), ?_, rfl⟩;simp only [Zav    hi, cond_true, Zaf     hi, bind_some, hrn]
    cases hc : Zw5  (rn n (i : Int)) with
    | true =>
      rw [show (rn n (i : Int)).2.2.2.2.2.2.1 = true from hc];simp only [cond_true, Zai       hi (show n.2.2.1.length <= 9223372036854775807 by omega)]
      rw [show ZhC  n (i + 1) = ZhC  n i by unfold ZhC ; rw [if_pos hc]; cases i <;> rfl]
    | false =>
      rw [show (rn n (i : Int)).2.2.2.2.2.2.1 = false from hc]
      have h0 : inR 0 (calls (rn n (i : Int))).length = true := by have hm := h.many _ (Zgw    hr);unfold inR; rw [decide_eq_true (Vwa 0), decide_eq_true (show (0 : Int) < ((calls (rn n (i : Int))).length : Int) by show (0 : Int) < ((rn n (i : Int)).2.2.2.2.2.2.2.1.length : Int); omega)]; rfl
      have hcl : idx (rn n (i : Int)).2.2.2.2.2.2.2.1 (0 : Int) = some (cl (calls (rn n (i : Int))) 0) := Zvs    h0
      have hkl : ((ZhC  n i).takeWhile (pLe n (d0 n i))).length <= (ZhC  n i).length := by have := congrArg Vc (Vha (p := pLe n (d0 n i)) (l := ZhC  n i)); simp only [Ve]at this; omega
      have hfind := Zs8       h (d := d0 n i) (show (ZhC  n i).length <= 4611686018427387904 by omega) (fun o ho => by obtain ⟨a, b, _⟩ := hI.el o ho;unfold inR; rw [decide_eq_true a, decide_eq_true (show o < (n.2.2.1.length : Int) by omega)]; rfl) hkl (ZwX    hI.srt)
      rw [show ZhC  n (i + 1) = Zwn  n (ZhC  n i) i by conv => lhs; unfold ZhC
                                                       rw [if_neg (by rw [hc]; decide)]]
      simp only [cond_false, hcl, bind_some];rw [show (cl (calls (rn n (i : Int))) 0).2.2.1 = d0 n i from rfl, hfind];unfold Zwn;obtain ⟨t1, t2⟩ := Zwe     (n := n) (d := d0 n i) (ZhC  n i);generalize hkk : ((ZhC  n i).takeWhile (pLe n (d0 n i))).length = k at *;rw [t1, t2];clear t1 t2 hkk;generalize ZhC  n i = out at *;have hw : Vd .i64 ((k : Int) + 1) = ((k + 1 : Nat) : Int) := by rw [Zae      (by omega) (by omega)]; omega
      have s1 : sliceB (Vc (out ++ [(0 : Int)])) (Vc (out ++ [(0 : Int)])) (some ((k + 1 : Nat) : Int)) none = some (k + 1, out.length + 1) := by unfold sliceB;simp only [bind_some, Ve, Vl];rw [if_pos ⟨by omega, by omega⟩];rfl
      have s2 : sliceB (Vc (out ++ [(0 : Int)])) (Vc (out ++ [(0 : Int)])) (some (k : Int)) none = some (k, out.length + 1) := by unfold sliceB;simp only [bind_some, Ve, Vl];rw [if_pos ⟨by omega, by omega⟩];rfl
      have hg : Zan    (decide (Vc out + Vc [(0 : Int)] <= Zam   )) = some () := ZaQ       (by simp; omega)
      have hg2 : Zan    (Nat.ble (k + 1 + (out.length + 1 - (k + 1))) (Vc (out ++ [(0 : Int)]))) = some () := by rw [show Nat.ble (k + 1 + (out.length + 1 - (k + 1))) (Vc (out ++ [(0 : Int)])) = true from Nat.ble_eq_true_of_le (by simp; omega)]; rfl
      simp only [bind_some, hg, hw, s1, s2, hg2];rw [ZuQ      out hkl];have hlen : (Vna (k + 1) (out ++ [(0 : Int)]) ++ Vla k out).length = out.length + 1 := by simp; omega
      have hinb : inb (k : Int) (Vna (k + 1) (out ++ [(0 : Int)]) ++ Vla k out).length = some k := ZaB     (by omega);rw [hinb];simp only [bind_some];rw [Vb (show k < (Vna (k + 1) (out ++ [(0 : Int)]) ++ Vla k out).length by omega)];simp only [bind_some, ZvZ     out hkl, Zai       hi (show n.2.2.1.length <= 9223372036854775807 by omega)]
  · rintro _ rfl
    exact ⟨_, by simp only [Zaw    , cond_false], rfl⟩
def Zu0(rows:List (List Int))(k:Nat):List Int:=(rows[k]?).getD []
def Zll(row:List Int):Int:=ln row (row.length - 1)
def ZwN(n:Zat)(rows:List (List Int))(r:Int)(k:Nat):Int:=if Zwy (rn n (Zll (Zu0 rows k))) (rn n r) then 1 else 0
def ZmA(n:Zat)(rows:List (List Int))(r:Int):List (List Int):=match Zay rows.length (ZwN n rows r) with
 |some k=>rows.set k (Zu0 rows k++[r])
 |none=>rows++[[r]]
def ZfA(n:Zat)(rs:List Int):List (List Int):=rs.foldl (ZmA n) []
structure Zsu (n:Zat) (i:Nat) (rows:List (List Int)):Prop where
 row: ∀x∈rows,x≠ []/\(∀o∈x,inR o n.2.2.1.length=true)/\x.length<=i
 len:rows.length<=i
theorem Ziw{rows:List (List Int)}{k:Nat}(h:k<rows.length):Zu0 rows k=rows[k]:=Zak h []
theorem Zsu.add{n:Zat}{i:Nat}{rows:List (List Int)}(h:Zsu n i rows){r:Int}(hr:inR r n.2.2.1.length=true):Zsu n (i+1) (ZmA n rows r):=by
 unfold ZmA
 cases hb:Zay rows.length (ZwN n rows r) with
 |none=>
  refine⟨fun x hx=> ?_,by simp;exact h.len⟩;rcases Vm.1 hx with hx|hx
  ·obtain⟨a,b,c⟩:=h.row x hx;exact⟨a,b,by omega⟩
  ·simp at hx;subst hx
   exact⟨by simp,by simpa using hr,by simp⟩
 |some k=>
  have hk:=(ZbA hb).1;refine⟨fun x hx=> ?_,by simp;have:=h.len;omega⟩;rcases Vpb hx with hx|rfl
  ·obtain⟨a,b,c⟩:=h.row x hx;exact⟨a,b,by omega⟩
  ·rw[Ziw hk];obtain⟨a,b,c⟩:=h.row _ (Vj hk);refine⟨by simp,fun o ho=> ?_,by simp;exact c⟩;rcases Vm.1 ho with ho|ho
   ·exact b o ho
   ·simp at ho;subst ho;exact hr
theorem ZjD(n:Zat)(rs:List Int)(r:Int):ZfA n (rs++[r])=ZmA n (ZfA n rs) r:=by simp [ZfA]
theorem ZkR{n:Zat}{rs:List Int}(hr: ∀o∈rs,inR o n.2.2.1.length=true): ∀i,i<=rs.length->Zsu n i (ZfA n (rs.take i))
 |0,_=>⟨by simp [ZfA],by simp [ZfA]⟩
 |i+1,h=>by rw[Va (by omega),ZjD];exact(ZkR hr i (by omega)).add (hr _ (Vj (by omega)))
theorem Zs0{n:Zat}{i:Nat}{rows:List (List Int)}(h:Zsu n i rows)(hi:i<=4096){j:Nat}(hj:j<rows.length):
  0<rows[j].length/\rows[j].length<=4096/\inb (Vd .i64 ((rows[j].length:Int) - 1)) rows[j].length=some (rows[j].length - 1)/\rows[j][rows[j].length - 1]? =some (Zll rows[j])/\inR (Zll rows[j]) n.2.2.1.length=true:=by
 obtain⟨a,b,c⟩:=h.row _ (Vj hj);have h0:0<rows[j].length:=List.length_pos_iff.2 a;have h1:rows[j].length - 1<rows[j].length:=by omega
 have e:Vd .i64 ((rows[j].length:Int) - 1)=((rows[j].length - 1:Nat):Int):=by rw[Zae (by omega) (by omega)];omega
 refine⟨h0,by omega,by rw[e,ZaB h1], ?_, ?_⟩
 ·unfold Zll;rw[ZwY h1,Vb h1]
 ·unfold Zll;rw[ZwY h1];exact b _ (Vj h1)
theorem ZsH(j:Nat):Zan (Zjf (some (Vrc (j:Int))) j)=some ():=by rw[show Zjf (some (Vrc (j:Int))) j=true from Nat.beq_refl j];rfl
theorem ZsE{n:Zat}{vb:Bool}(hv:F38 n=some vb)(hs:vb=true->Zct n)(hc: ∀x∈n.2.2.1,x.2.2.2.2.2.2.2.1.length<=9223372036854775807):
  F32 n=some (if vb then(ZfA n (ZhC n n.2.2.1.length),0) else([],21)):=by
 unfold F32;rw[hv]
 cases vb with
 |false=>rfl
 |true=>
  have h:=hs rfl;simp only[bind_some,Vk,cond_false,ZoF h,if_true];have hO:=ZnH n n.2.2.1.length
  have hr: ∀o∈ZhC n n.2.2.1.length,inR o n.2.2.1.length=true:=fun o ho=>by obtain⟨a,b,_⟩:=hO.el o ho;unfold inR;rw[decide_eq_true a,decide_eq_true b];rfl
  have hlen: (ZhC n n.2.2.1.length).length<=1024:=by have:=hO.len;have:=h.runs;omega
  generalize ZhC n n.2.2.1.length=rs at*
  refine Exists.elim (ZaL (τ:=List (List Int)) rs.length (fun r=>r=ZfA n rs) (fun i (s:List (List Int) ×Int)=>s=(ZfA n (rs.take i),(i:Int)))
   ?_ ?_ ([],(0:Int)) rfl) (fun r hr=>(congrArg (Vq · _) hr.1).trans (by rw[hr.2];rfl))
  ·rintro i _ hi rfl;have hI:=ZkR hr i (by omega);have hri:=hr _ (Vj hi);refine .inl ⟨(ZfA n (rs.take (i+1)),((i+1:Nat):Int)), ?_,rfl⟩;rw[Va hi,ZjD];generalize ZfA n (rs.take i)=rows at*;have hrl:=hI.len;simp only[Zav hi,cond_true,Zaf hi,bind_some];rw[Zba (n:=rows.length) (fun j (s:List (List Int) ×Bool×Int)=>s=(rows,false,(j:Int))) (ZwN n rows rs[i]) (fun k=>(rows.set k (Zu0 rows k++[rs[i]]),true)) (rows,false) ?_ ?_ ?_ (rows,false,(0:Int)) rfl]
   ·unfold pick ZmA
    cases Zay rows.length (ZwN n rows rs[i]) with
    |some k=>simp only[bind_some,Vk,cond_false,Zai hi (show rs.length<=9223372036854775807 by omega)]
    |none=>
     have hg:Zan (decide (Vc rows+Vc [[rs[i]]]<=Zam))=some ():=ZaQ (by simp;omega);simp only[bind_some,Vu,cond_true,hg,Zai hi (show rs.length<=9223372036854775807 by omega)]
   ·rintro j _ hj rfl hchk;obtain⟨l0,l1,l2,l3,l4⟩:=Zs0 hI (by omega) hj;refine⟨_, ?_,rfl⟩
    have hf:Zwy (rn n (Zll rows[j])) (rn n rs[i])=false:=by
     unfold ZwN at hchk;rw[Ziw hj]at hchk
     cases hf:Zwy (rn n (Zll rows[j])) (rn n rs[i]) with
     |false=>rfl
     |true=>rw[hf,if_pos rfl]at hchk;omega
    simp only[Zav hj,cond_true,ZaB hj,bind_some,Vb hj,Zaf hj,l2,l3,Zmh l4,Zmh hri,Zjy _ _ (Zpl hc _),hf,cond_false,Zai hj (show rows.length<=9223372036854775807 by omega)]
   ·rintro j _ hj rfl hchk;obtain⟨l0,l1,l2,l3,l4⟩:=Zs0 hI (by omega) hj
    have hf:Zwy (rn n (Zll rows[j])) (rn n rs[i])=true:=by
     unfold ZwN at hchk;rw[Ziw hj]at hchk
     cases hf:Zwy (rn n (Zll rows[j])) (rn n rs[i]) with
     |true=>rfl
     |false=>rw[hf]at hchk;exact absurd rfl hchk
    have hg:Zan (decide (Vc rows[j]+Vc [rs[i]]<=Zam))=some ():=ZaQ (by simp;omega);simp only[Zav hj,cond_true,ZaB hj,bind_some,Vb hj,Zaf hj,l2,l3,Zmh l4,Zmh hri,Zjy _ _ (Zpl hc _),hf,hg,ZsH,Ziw hj]
   ·rintro _ rfl;simp only[Zaw,cond_false]
  ·rintro _ rfl;exact⟨_,by simp only[Zaw,cond_false];rfl,by rw[Vf]⟩
end Q
namespace Q
open Tr Go
open Option (bind_some)
variable {n:Zat}{s0 t0 w:Int}{K:Nat}
abbrev p11:ZbK:=(-1, -1, -1, -1, -1, -1,())
structure Zee (n:Zat) (s0 t0 w:Int) (m:Nat) (f:ZaF) (rs:List (List ZbK)):Prop where
 len:rs.length=m+1
 net:f.1=n
 lab:f.2.1.length<4000000000
 st: ∀k,k<=m-> ∃now linked,rs[k]? =some now/\now.length=n.1.length/\(∀ (s:Nat) p,now[s]? =some p->SP (Der n s0 t0 w) f.2.1 k (s:Int) p)/\Cmp n s0 t0 w k now linked
def Zw8(n:Zat)(k:Nat)(out:List (List Int)):Prop:=out.length=n.2.2.1.length/\ ∀ (i:Nat) ks,out[i]? =some ks->ks.length<=k/\ ∀x:Int,x∈ks↔(0<=x/\x< (k:Int))/\(lkI n x).1=(i:Int)
theorem Zs7{k:Nat}{out:List (List Int)}(h:Zw8 n k out){a:Nat}(ha: (lkI n (k:Int)).1=(a:Int))(hl:a<out.length):Zw8 n (k+1) (out.set a (out[a]++[(k:Int)])):=by
 refine⟨by rw[Vta];exact h.1,fun i ks hks=> ?_⟩;rcases Zlu hks with ⟨rfl,rfl⟩ |hks'
 ·obtain⟨h1,h2⟩:=h.2 a _ (Vb hl);refine⟨by simp;exact h1,fun x=> ?_⟩;rw[Vm,h2 x,Vg];constructor
  ·rintro (⟨h3,h4⟩ |rfl)
   ·exact⟨by omega,h4⟩
   ·exact⟨by omega,ha⟩
  ·rintro ⟨h3,h4⟩;by_cases e:x=(k:Int)
   ·exact .inr e
   ·exact .inl ⟨by omega,h4⟩
 ·by_cases e:a=i
  ·subst e;rw[Vua hl]at hks;cases hks;obtain⟨h1,h2⟩:=h.2 a _ (Vb hl);refine⟨by simp;exact h1,fun x=> ?_⟩;rw[Vm,h2 x,Vg];constructor
   ·rintro (⟨h3,h4⟩ |rfl)
    ·exact⟨by omega,h4⟩
    ·exact⟨by omega,ha⟩
   ·rintro ⟨h3,h4⟩;by_cases e:x=(k:Int)
    ·exact .inr e
    ·exact .inl ⟨by omega,h4⟩
  ·obtain⟨h1,h2⟩:=h.2 i ks hks';refine⟨by omega,fun x=> ?_⟩;rw[h2 x];constructor
   ·rintro ⟨h3,h4⟩;exact⟨by omega,h4⟩
   ·rintro ⟨h3,h4⟩;refine⟨⟨h3.1, ?_⟩,h4⟩;by_cases e' :x=(k:Int)
    ·subst e';omega
    ·omega
theorem ZuY{out:List (List Int)}(h:Zw8 n n.2.2.2.1.length out):Zn2 n out:=by refine⟨h.1,fun i ks hks x=> ?_⟩;rw[(h.2 i ks hks).2 x];unfold inR;rw[Vi,decide_eq_true_eq,decide_eq_true_eq]
theorem Zuw(C:Ctx n s0 t0 w){now:List ZbK}{linked:List ZcA}(hY:LeY now s0.toNat (t0+w))(hA:LeA now s0.toNat t0)(hW: ∀p∈n.2.2.2.2.1,Wlk s0 t0 now p):Cmp n s0 t0 w 0 now linked:=by
 have no: ∀ {s t:Int}{js:List Zaq}{k:Nat},k<=0->Der n s0 t0 w (.rid k s t) js->False:=fun hk d=>by have:=(C.ok d).1;omega
 refine⟨fun hk d=> ?_,fun hk d=>(no hk d).elim,fun hk d=> ?_,fun hk d=> ?_⟩
 ·cases d with
  |init=>exact hY
  |rdyW h1 h2 h3=>exact(hW _ h1 h2 h3).2
  |change d=>exact(no hk d).elim
  |rdyV d=>exact(no hk d).elim
 ·cases d with
  |here=>exact hA
  |arrW h1 h2 h3=>exact(hW _ h1 h2 h3).1
  |arrR d=>exact(no hk d).elim
  |arrV d=>exact(no hk d).elim
 ·cases d with
  |link d=>have:=(C.ok d).1;omega
theorem ZvJ{n:Zat}(h:Zcu n){s0:Int}(hs:0<=s0/\s0< (n.1.length:Int))(b:Bool):0<=(bif b then(Zcm n s0).2.2.2.1 else 0)/\(bif b then(Zcm n s0).2.2.2.1 else 0)<=3600:=by
 cases b with
 |false=>exact⟨by simp,by simp⟩
 |true=>exact h.change s0 hs.1 hs.2
theorem Zur{n0:Zat}{q:Za5}(hfit:Fit n0)(hfew:Few n0)(hq:ZuP n0 q=0): ∃f rs,F118 n0 q=some (f,rs,0)/\Ctx (ZaS n0 q) q.1 q.2.2.1 (bif q.2.2.2.2.2.2.2.2.2.1 then(Zcm (ZaS n0 q) q.1).2.2.2.1 else 0)/\Whole n0/\qB n0.1.length q=true/\q.2.2.2.1=false/\
  Zee (ZaS n0 q) q.1 q.2.2.1 (bif q.2.2.2.2.2.2.2.2.2.1 then(Zcm (ZaS n0 q) q.1).2.2.2.1 else 0) q.2.2.2.2.1.toNat f rs:=by
 have hck:=ZqZ hfit q;rw[hq]at hck
 have hq0:Zkl n0 q=0/\q.2.2.2.1=false:=by
  unfold ZuP at hq;by_cases e:Zkl n0 q=0
  ·rw[decide_eq_true e]at hq;refine⟨e, ?_⟩
   cases hb:q.2.2.2.1 with
   |false=>rfl
   |true=>rw[hb]at hq;simp at hq
  ·rw[decide_eq_false e]at hq;exact absurd hq e
 obtain⟨hw0,hqb⟩:=ZfD.1 hq0.1;have hcq:=Zmi hfit q;rw[hq0.1]at hcq;have hal:=Zn3 hw0.sound hfew q hcq;have hp0:n0.2.2.2.2.1.length<=4096:=hfit.paths;have hw:=ZgE q hp0 hw0;have hfa:=ZtE q hfit;have hn:=hw.ok;have hqb' :=hqb;unfold qB inR at hqb';simp only[Vi,decide_eq_true_eq]at hqb';obtain⟨hs0,_,ht0,hm,_⟩:=hqb';have hs0' :0<=q.1/\q.1< ((ZaS n0 q).1.length:Int):=hs0;have hwt:=ZvJ hn hs0' q.2.2.2.2.2.2.2.2.2.1
 have C:Ctx (ZaS n0 q) q.1 q.2.2.1 (bif q.2.2.2.2.2.2.2.2.2.1 then(Zcm (ZaS n0 q) q.1).2.2.2.1 else 0):=⟨hn,hs0',ht0,hwt⟩
 have hp: (ZaS n0 q).2.2.2.2.1.length<=4096:=hfa.paths
 have hvl:F38 (ZaS n0 q)=some true:=by obtain⟨r,r1,_,r3⟩:=Zjz _ hfa;unfold F38;rw[r1];simp only[bind_some];rw[decide_eq_true (r3.2 hw)]
 have hln:=ZsE hvl (fun _=>hn.sound) hfa.calls;have hsi:idx (ZaS n0 q).1 q.1=some (Zcm (ZaS n0 q) q.1):=(ZhW hn.sound hs0'.1 hs0'.2).1;have hch:=hn.change q.1 hs0'.1 hs0'.2
 suffices hsuf: ∃z:ZaF×List (List ZbK) ×Int,F118 n0 q=some z/\z.2.2=0/\Zee (ZaS n0 q) q.1 q.2.2.1 (bif q.2.2.2.2.2.2.2.2.2.1 then(Zcm (ZaS n0 q) q.1).2.2.2.1 else 0) q.2.2.2.2.1.toNat z.1 z.2.1 by obtain⟨⟨f,rs,e⟩,h1,h2,h3⟩:=hsuf;simp only at h2;subst h2;exact⟨f,rs,h1,C,hw0,hqb,hq0.2,h3⟩
 unfold F118;rw[hck];simp only[bind_some,decide_true,Vk,cond_false];rw[hal];simp only[bind_some];rw[hln];simp only[bind_some,if_true,decide_true,Vk,cond_false];generalize ZaS n0 q=n at*;have hS:=hn.sound;have hrn:=hS.runs;have hst:=hS.stops;have hlk:=hS.links;have hub:F128 (n.2.2.1.length:Int)=some (Vr n.2.2.1.length b00):=Zhx (by omega);have hmx: (Zam:Int)=549755813888:=by simp [Zam]
 refine bex (fun r=>r=Vr n.2.2.1.length b00) ⟨_,hub,rfl⟩ fun x3 hx3=> ?_;subst hx3
 have hg0:Zan (decide ((0:Int)<=(n.2.2.1.length:Int)/\(n.2.2.1.length:Int)<=(n.2.2.1.length:Int)/\(n.2.2.1.length:Int)<=(Zam:Int)))=some ():=by rw[decide_eq_true (by rw[hmx];omega)];rfl
 refine bex (fun _=>True) ⟨(),hg0,trivial⟩ fun _ _=> ?_;refine bex (fun r:ZaF=> ∃out,r=(n,[],[],Vr n.2.2.1.length b00,[],[],out,())/\Zw8 n n.2.2.2.1.length out) ?_ ?_
 ·refine ZaL n.2.2.2.1.length _ (fun i (st:ZaF×Int)=>st.2=(i:Int)/\ ∃out,st.1=(n,[],[],Vr n.2.2.1.length b00,[],[],out,())/\Zw8 n i out) ?_ ?_ _ ⟨rfl,_,rfl, ?_⟩
  ·rintro i ⟨st,j⟩ hi ⟨hj,out,hst',hO⟩;simp only at hj hst';subst hj hst';left;have e1:lkI n (i:Int)=n.2.2.2.1[i]:=by unfold lkI;rw[Vp,Zak hi]
   obtain⟨a,c,b,d,st,e,ha,_⟩:=hn.link _ (Vj hi);have hao:a<out.length:=by rw[hO.1];exact ha
   have hks:=(hO.2 a _ (Vb hao)).1;simp only[Zav hi,cond_true,Zaf hi,bind_some,Zai hi (show _<=9223372036854775807 by omega),e,ZaB hao,Vb hao,Zaf hao];have hg:Zan (decide (Vc out[a]+Vc [(i:Int)]<=Zam))=some ():=ZaQ (by simp;omega);rw[hg];simp only[bind_some,ZsH];exact⟨_,rfl,rfl,_,rfl,Zs7 hO (by rw[e1,e]) hao⟩
  ·rintro ⟨st,j⟩ ⟨hj,out,hst',hO⟩;simp only at hj hst';subst hj hst';simp only[Zaw,cond_false];exact⟨_,rfl,out,rfl,hO⟩
  ·refine⟨by simp,fun i ks hks=> ?_⟩;have:=Vab (Voa hks);subst this;exact⟨by simp,fun x=>⟨fun h=>(nomatch h),fun h=>by omega⟩⟩
 rintro _ ⟨out,rfl,hO⟩;have hOk:=ZuY hO;refine bex (fun r:ZaF=>r=(n,[],Vr n.1.length p11,Vr n.2.2.1.length b00,[],[],out,())) ?_ ?_
 ·refine ZaL n.1.length _ (fun i (st:ZaF×Int)=>st=((n,[],Vr i p11,Vr n.2.2.1.length b00,[],[],out,()),(i:Int))) ?_ ?_ _ rfl
  ·rintro i _ hi rfl;left;simp only[Zav hi,cond_true,Zai hi (show _<=9223372036854775807 by omega)];have hg:Zan (decide (Vc (Vr i p11)+Vc [p11]<=Zam))=some ():=ZaQ (by simp;omega);erw[hg];simp only[bind_some];exact⟨_,rfl,by rw[Vec]⟩
  ·rintro _ rfl;simp only[Zaw,cond_false];exact⟨_,rfl,rfl⟩
 intro f1 hf1
 refine bex (fun r:ZaF×Int=>r=(f1,q.2.2.1+(bif q.2.2.2.2.2.2.2.2.2.1 then(Zcm n q.1).2.2.2.1 else 0))) ?_ ?_
 ·cases q.2.2.2.2.2.2.2.2.2.1 with
  |false=>exact⟨_,rfl,by simp⟩
  |true=>
   simp only[cond_true,hsi,bind_some];exact⟨_,rfl,by rw[Zae (by omega) (by omega)]⟩
 rintro _ rfl
 generalize (bif q.2.2.2.2.2.2.2.2.2.1 then(Zcm n q.1).2.2.2.1 else 0)=w at*
 obtain⟨a,ha⟩: ∃a:Nat,q.1=(a:Int):=⟨q.1.toNat,by omega⟩;obtain⟨m,hm'⟩: ∃m:Nat,q.2.2.2.2.1=(m:Int):=⟨q.2.2.2.2.1.toNat,by omega⟩;generalize q.1=s0 at*;generalize q.2.2.1=t0 at*;generalize q.2.2.2.2.1=mr at*;subst ha hm';simp only[Vp];have e1:f1.1=n:=by rw[hf1]
 have e2:f1.2.1=[]:=by rw[hf1]
 have e3:f1.2.2.1=Vr n.1.length p11:=by rw[hf1]
 have e4:f1.2.2.2.1=Vr n.2.2.1.length b00:=by rw[hf1]
 have e5:f1.2.2.2.2.1=[]:=by rw[hf1]
 have e7:f1.2.2.2.2.2.2.1=out:=by rw[hf1]
 have hal:a<f1.2.2.1.length:=by rw[e3];simp;omega
 have hN1:Snd (Der n (a:Int) t0 w) 0 f1:=by
  refine⟨fun s p hq' => ?_,fun i b hb=> ?_,fun i b hb=> ?_⟩
  ·rw[e3]at hq';rw[Vab (Voa hq')];exact⟨fun e=>absurd rfl e,fun e=>absurd rfl e,fun e=>absurd rfl e⟩
  ·rw[e5]at hb;exact absurd hb (by simp)
  ·rw[e4]at hb;rw[Vab (Voa hb)];exact fun e=>absurd rfl e
 have hw0' :0<=t0+w:=by omega
 have h2:Snd (Der n (a:Int) t0 w) 0 (Zg0 f1 a t0 (t0+w) (-1)):=hN1.imp ⟨0,Vh _,[], .nil, .here⟩ ⟨0,Vh _,[], .nil, .init⟩;have m2:=Zto f1 a ht0.1 hw0' (-1);have n2:=ZoM hal ht0.1 hw0' (-1);have k2:=ZfK f1 a t0 (t0+w) (-1);refine bex (fun r=>r=Zg0 f1 a t0 (t0+w) (-1)) ⟨_,ZgQ f1 hal t0 (t0+w) (-1),rfl⟩ ?_;rintro _ rfl;have hwl:=Zmo C (k:=0) (K:=0) (s:=(a:Int)) (t:=t0) (prev:= -1) ht0.1 (js:=[]) (Vh _) (fun p hp e1 e2=>⟨.arrW hp e1 e2, .rdyW hp e1 e2⟩) (m2.net.trans e1) (by rw[k2.now,e3];simp) h2 .nil
 have hwv:=Zpm (Zg0 f1 a t0 (t0+w) (-1)) (s:=(a:Int)) (at' :=t0) (-1) ht0.1 ht0.2 (by rw[m2.net,e1];show f1.2.1.length+_<_;rw[e2];simp only[Vaa];omega) (by rw[m2.net,e1];exact hp) (fun p hp' =>by rw[m2.net,e1]at hp';have:=hn.path p hp';rw[k2.now,e3,Vyb];exact⟨this.2.1.1,this.2.1.2,by omega,by omega⟩)
 have kw:=Zcf (a:Int) t0 (-1) (Zg0 f1 a t0 (t0+w) (-1)).1.2.2.2.2.1 (Zg0 f1 a t0 (t0+w) (-1));refine bex (fun r=>r=ZhQ (Zg0 f1 a t0 (t0+w) (-1)) (a:Int) t0 (-1)) ⟨_,hwv,rfl⟩ ?_;rintro _ rfl;obtain⟨w1,w2,w3⟩:=hwl;have m3:=m2.trans w2
 have hlab: (ZhQ (Zg0 f1 a t0 (t0+w) (-1)) (a:Int) t0 (-1)).2.1.length<=4096:=by
  have:=kw.lab;rw[m2.net,e1]at this;have e: (Zg0 f1 a t0 (t0+w) (-1)).2.1.length=0:=by show f1.2.1.length=0;rw[e2];rfl
  unfold ZhQ;rw[m2.net,e1];omega
 have hH:=(Zi6 (Zg0 f1 a t0 (t0+w) (-1)) (a:Int) t0 (-1))
 have hR0:RI n (a:Int) t0 w 0 (ZhQ (Zg0 f1 a t0 (t0+w) (-1)) (a:Int) t0 (-1)):=by
  refine⟨m3.net.trans e1,by rw[hH.now,k2.now,e3];simp,by rw[hH.linked,k2.linked,e4];simp,by rw[m3.out,e7];exact hOk, ?_,w1.now,w1.lnk, ?_, ?_⟩
  ·rw[m3.out,e7];intro ks hks;obtain⟨i,hi,rfl⟩:=Vjb hks;have:=(hO.2 i _ (Vb hi)).1;omega
  ·exact Zuw C (w2.rdy _ _ n2.2) (w2.arr _ _ n2.1) w3
  ·intro s p hq' hne;obtain⟨k,hk,js,_,hd⟩:=(w1.now s p hq').rid hne;have:=(C.ok hd).1;omega
 generalize ZhQ (Zg0 f1 a t0 (t0+w) (-1)) (a:Int) t0 (-1)=f2 at*;refine bex (fun r:ZaF×List (List ZbK)=>Zee n (a:Int) t0 w m r.1 r.2) ?_ ?_
 ·refine ZaL m _ (fun i (st:ZaF×List (List ZbK) ×Int)=>st.2.2=(i:Int)/\RI n (a:Int) t0 w i st.1/\st.1.2.1.length<=4096+i*4000000/\st.2.1.length=i+1/\
   ∀k,k<=i-> ∃now linked,st.2.1[k]? =some now/\now.length=n.1.length/\(∀ (s:Nat) p,now[s]? =some p->SP (Der n (a:Int) t0 w) st.1.2.1 k (s:Int) p)/\Cmp n (a:Int) t0 w k now linked) ?_ ?_ _ ⟨rfl,hR0,by omega,rfl, ?_⟩
  ·rintro i ⟨f,rs,j⟩ hi ⟨hj,hR,hlb,hrl,hst'⟩;simp only at hj hR hlb hrl hst';subst hj;left;simp only[Zav hi,cond_true];obtain⟨g,g1,g2,⟨mm,g3⟩,g4⟩:=Zrn C hp hR (by omega);refine ZhF (fun r=>r=g) ⟨_,g1,rfl⟩ fun x hx=> ?_;subst hx;have hg:Zan (decide (Vc rs+Vc [x.2.2.1]<=Zam))=some ():=ZaQ (by simp;omega);rw[hg];simp only[bind_some,Zai hi (show m<=9223372036854775807 by omega)];refine⟨_,rfl,rfl,g2,by simp only;omega,by simp;exact hrl,fun k hk=> ?_⟩;by_cases e:k=i+1
   ·subst e;refine⟨x.2.2.1,x.2.2.2.1, ?_,g2.nowl,g2.now,g2.cmp⟩;simp only;rw[Vmb (by omega),hrl];simp
   ·obtain⟨now,linked,y1,y2,y3,y4⟩:=hst' k (by omega);refine⟨now,linked, ?_,y2,fun s p hq' => ?_,y4⟩
    ·simp only;rw[Vza (by omega)];exact y1
    ·simp only;rw[g3];exact(y3 s p hq').app mm
  ·rintro ⟨f,rs,j⟩ ⟨hj,hR,hlb,hrl,hst'⟩;simp only at hj hR hlb hrl hst';subst hj;simp only[Zaw,cond_false];exact⟨_,rfl,hrl,hR.net,by simp only;omega,hst'⟩
  ·intro k hk;have:k=0:=by omega
   subst this;exact⟨f2.2.2.1,f2.2.2.2.1,rfl,hR0.nowl,hR0.now,hR0.cmp⟩
 ·rintro ⟨f,rs⟩ hF;exact⟨_,rfl,rfl,hF⟩
end Q
namespace Q
open Tr Go
open Option (bind_some)
variable {n:Zat}{s0 t0 w:Int}{m:Nat}{f:ZaF}{rs:List (List ZbK)}
def Zq9(rs:List (List ZbK))(k s:Nat):ZbK:=(((rs[k]?).getD [])[s]?).getD p11
def arrV(rs:List (List ZbK))(k s:Nat):Int:=(Zq9 rs k s).1
def Zwa(rs:List (List ZbK))(k:Nat):List Int:=((rs[k]?).getD []).map fun p=>p.1
theorem Zee.sound(F:Zee n s0 t0 w m f rs){k s:Nat}(hk:k<=m)(h:arrV rs k s≠ -1): ∃k',k' <=k/\ ∃js,Ch f.2.1 (Zq9 rs k s).2.2.2.1 js/\Der n s0 t0 w (.arr k' (s:Int) (arrV rs k s)) js:=by
 obtain⟨now,linked,h1,h2,h3,h4⟩:=F.st k hk;unfold arrV Zq9 at*;rw[h1]at h ⊢;simp only[Vdb]at h ⊢;by_cases hs:s<now.length
 ·rw[Zak hs]at h ⊢;exact(h3 s _ (Vb hs)).arr h
 ·rw[Vzb (by omega)]at h;exact absurd rfl h
theorem Zee.complete(F:Zee n s0 t0 w m f rs){k k' s:Nat}(hk:k<=m)(hk' :k' <=k){t:Int}{js:List Zaq}(d:Der n s0 t0 w (.arr k' (s:Int) t) js):arrV rs k s≠ -1/\arrV rs k s<=t:=by obtain⟨now,linked,h1,h2,h3,h4⟩:=F.st k hk;obtain⟨p,p1,p2⟩:=h4.arr hk' d;rw[Vp]at p1;unfold arrV Zq9;rw[h1];simp only[Vdb];rw[p1];exact p2
theorem Zee.row(F:Zee n s0 t0 w m f rs){k:Nat}(hk:k<=m): (Zwa rs k).length=n.1.length:=by obtain⟨now,linked,h1,h2,_⟩:=F.st k hk;unfold Zwa;rw[h1];simp only[Vdb,Vba];exact h2
theorem Zee.idxR(F:Zee n s0 t0 w m f rs){k s:Nat}(hk:k<=m)(hs:s<n.1.length):idx (Zwa rs k) (s:Int)=some (arrV rs k s):=by
 have hl:s< (Zwa rs k).length:=by rw[F.row hk];exact hs
 rw[Zaf hl]
 have hl' :s< ((rs[k]?).getD []).length:=by unfold Zwa at hl;rw[Vba]at hl;exact hl
 have e: (Zwa rs k)[s]=arrV rs k s:=by unfold arrV Zq9;rw[Zak hl'];simp [Zwa]
 rw[e]
theorem Zmc{n0:Zat}{q:Za5}(h:F118 n0 q=some (f,rs,0)): (F118S.f (n0,q,())).isSome=true:=by show (F118 n0 q).isSome=true;rw[h];rfl
theorem Zee.nonneg(C:Ctx n s0 t0 w)(F:Zee n s0 t0 w m f rs){k s:Nat}(hk:k<=m):arrV rs k s= -1\/0<=arrV rs k s/\arrV rs k s<=3155932800:=by
 by_cases h:arrV rs k s= -1
 ·exact .inl h
 right;obtain⟨k',h1,js,_,h3⟩:=F.sound hk h;exact(C.ok h3).2
end Q
namespace Q
open Tr Go
open Option (bind_some)
theorem Zsg{n:Zat}{q:Za5}(h:Zkl n q=0)(hb:q.2.2.2.1=false):ZuP n q=0:=by unfold ZuP;rw[decide_eq_true h,hb];rfl
end Q
namespace Q
open Tr Go
open Option (bind_some)
theorem Ch.len{lb:List ZoP}{l:Int}{js:List Zaq}(h:Ch lb l js): (js.length:Int)<=l+1:=by
 induction h with
 |nil=>simp
 |cons _ h2 _ ih=>simp only[Ve,Vy,Vaa];omega
def ZkE(x y:Zaq):Zaq:=(x.1,x.2.1,x.2.2.1,x.2.2.2.1,x.2.2.2.2.1,x.2.2.2.2.2.1,Vd .i64 (y.2.2.2.2.2.2.1 - Vd .i64 (x.2.2.2.2.2.2.2.1 - x.2.2.2.2.2.2.1)),y.2.2.2.2.2.2.1,x.2.2.2.2.2.2.2.2)
def ZdH:List Zaq->List Zaq
 |x::y::js=>(bif x.1 then x else ZkE x y)::y::js
 |js=>js
theorem ZlQ(x y:Zaq)(js:List Zaq):ZdH (x::y::js)=(bif x.1 then x else ZkE x y)::y::js:=rfl
theorem ZuT{f:ZaF}{step:ZaF×Int×List Zaq->Option ((ZaF×Int×List Zaq) ⊕ (ZaF×List Zaq))}
  (h1: ∀back,step (f, -1,back)=some (.inr (f,back)))
  (h2: ∀ (l:Nat) x p back,f.2.1[l]? =some (x,p,())->back.length<4294967296->step (f,(l:Int),back)=some (.inl (f,p,back++[x]))) {l:Int}{js:List Zaq} (h:Ch f.2.1 l js):
  ∀back,back.length+js.length<4294967296->run step (f,l,back)=some (f,back++js.reverse):=by
 induction h with
 |nil=>intro back _;rw[ZbC (h1 back)];simp
 |cons e _ _ ih=>
  intro back hb;simp only[Ve,Vy,Vaa]at hb;rw[ZcI (h2 _ _ _ back e (by omega)),ih _ (by simp;omega)];simp
theorem Zn0{f:ZaF}(hlb:f.2.1.length<4000000000){l:Int}{js:List Zaq}(h:Ch f.2.1 l js):F124 f l=some (f,(ZdH js,())):=by
 have hlen:=h.len;have hlt:=h.lt;unfold F124
 have hbk:run (fun s0:ZaF×Int×List Zaq=>
   bif !decide (s0.2.1=(-1:Int)) then
    Vq (inb s0.2.1 (Vc s0.1.2.1)) fun x1=>
    Vq s0.1.2.1[x1]? fun x2=>
    Vq (Zan (decide (Vc s0.2.2+Vc [x2.1]<=Zam))) fun _=>
    Vq (inb s0.2.1 (Vc s0.1.2.1)) fun x4=>
    Vq s0.1.2.1[x4]? fun x5=>
    some (.inl (s0.1,x5.2.1,s0.2.2++[x2.1]))
   else some (.inr (s0.1,s0.2.2))) (f,l,[])=some (f,js.reverse):=by
  have:=ZuT (step:=fun s0:ZaF×Int×List Zaq=>
   bif !decide (s0.2.1=(-1:Int)) then
    Vq (inb s0.2.1 (Vc s0.1.2.1)) fun x1=>
    Vq s0.1.2.1[x1]? fun x2=>
    Vq (Zan (decide (Vc s0.2.2+Vc [x2.1]<=Zam))) fun _=>
    Vq (inb s0.2.1 (Vc s0.1.2.1)) fun x4=>
    Vq s0.1.2.1[x4]? fun x5=>
    some (.inl (s0.1,x5.2.1,s0.2.2++[x2.1]))
   else some (.inr (s0.1,s0.2.2))) (fun back=>rfl) (fun l x p back e hb=> ?_) h [] (by simp;omega)
  ·simpa using this
  ·have hl:=(Vqb.1 e).1;have hg:Zan (decide (Vc back+Vc [x]<=Zam))=some ():=ZaQ (by simp;omega);simp only[decide_eq_false (show¬ (l:Int)= -1 by omega),Vu,cond_true,ZaB hl,bind_some,e,hg]
 refine Zbk (fun r=>r=(f,js.reverse)) ⟨_,hbk,rfl⟩ ?_;rintro _ rfl;have hjl:js.length<4000000000:=by omega
 have hm: (Zam:Int)=549755813888:=by simp [Zam]
 have hg:Zan (decide ((0:Int)<=(js.reverse.length:Int)/\(js.reverse.length:Int)<=(js.reverse.length:Int)/\(js.reverse.length:Int)<=(Zam:Int)))=some ():=by rw[decide_eq_true (by rw[hm,Vpa];omega)];rfl
 erw[hg];simp only[bind_some];refine Zbk (fun r=>r=(f,js)) ?_ ?_
 ·refine ZaL js.length _ (fun i (st:ZaF×List Zaq×List Zaq×Int)=>st=(f,js.reverse,Vr (js.length - i) g0++(js.reverse.take i).reverse,(i:Int))) ?_ ?_ _ (by simp [g0])
  ·rintro i _ hi rfl;left;have hir:i<js.reverse.length:=by simpa using hi
   have hl2: (Vr (js.length - i) g0++(js.reverse.take i).reverse).length=js.length:=by simp;omega
   have w1:Vd .i64 (Vd .i64 ((js.reverse.length:Int) - 1) - (i:Int))=((js.length - 1 - i:Nat):Int):=by rw[Vpa,Zae (x:=(js.length:Int) - 1) (by omega) (by omega),Zae (by omega) (by omega)];omega
   have hk:js.length - 1 - i< (Vr (js.length - i) g0++(js.reverse.take i).reverse).length:=by rw[hl2];omega
   have hi2:i<js.reverse.length:=hir;simp only[Zav hir,cond_true,ZaB hir,bind_some,Vb hir,w1,ZaB hk,Vb hk,Zai hir (show _<=9223372036854775807 by rw[Vpa];omega)];refine⟨_,rfl, ?_⟩;have e:js.length - i=(js.length - (i+1))+1:=by omega
   rw[List.set_append_left _ _ (by simp;omega),e,Vec,Vxb _ _ (by simp;omega),Vyb,show js.length - 1 - i - (js.length - (i+1))=0 by omega,Vjc,Vea];rw[Va hir,Vkb];rfl
  ·rintro _ rfl;have:decide ((js.length:Int)< (js.reverse.length:Int))=false:=by rw[Vpa];exact Zaw _
   simp only[this,cond_false];have e:js.reverse.take js.length=js.reverse:=by rw[<-Vpa,Vf]
   exact⟨_,rfl,by rw[e];simp⟩
 ·rintro _ rfl
  match js with
  | []=>rfl
  | [x]=>rfl
  |x::y::js' =>
   have h1:decide ((1:Int)< ((x::y::js').length:Int))=true:=decide_eq_true (by simp;omega);have i0:inb (0:Int) (x::y::js').length=some 0:=ZaB (i:=0) (by simp);have i1:inb (1:Int) (x::y::js').length=some 1:=ZaB (i:=1) (by simp);simp only[h1,cond_true,i0,i1,bind_some,List.getElem?_cons_zero,List.getElem?_cons_succ,Vjc];rw[ZlQ]
   cases hx:x.1 with
   |true=>rfl
   |false=>simp only[Vu,cond_false,cond_true];unfold ZkE;rw[hx]
theorem Der.rides{n:Zat}{s0 t0 w:Int}{f:Znp}{js:List Zaq}(d:Der n s0 t0 w f js):match f with
  | .rdy k _ _=>Zal js=k
  | .brd k _ _ st=>Zal js+(if st then 0 else 1)=k
  | .lnk k _ _=>Zal js+1=k
  | .on k _ _=>Zal js=k
  | .rid k _ _=>Zal js=k
  | .arr k _ _=>Zal js=k:=by
 induction d with
 |init=>rfl
 |here=>rfl
 |rdyW=>rfl
 |arrW=>rfl
 |board _ _ _ _ _ _ _ ih=>exact congrArg (· +1) ih
 |on _ _ _ ih=>
  show Zal _=_;rw[Zbc,Zbn]
  exact ih
 |stay _ _ _ _ ih=>exact ih
 |link _ _ _ _ _ ih=>exact congrArg (· +1) ih
 |linked _ _ ih=>exact ih
 |ride _ _ ih=>exact ih
 |change _ ih=>exact ih
 |rdyV _ _ _ _ ih=>
  show Zal _=_;rw[Zbc,Zcj]
  exact ih
 |arrR _ ih=>exact ih
 |arrV _ _ _ _ ih=>
  show Zal _=_;rw[Zbc,Zcj];exact ih
theorem Der.rid_last{n:Zat}{s0 t0 w:Int}{k:Nat}{s t:Int}{js:List Zaq}(d:Der n s0 t0 w (.rid k s t) js): ∃ks x,js=ks++[x]/\x.2.2.2.2.2.2.2.1=t/\x.2.2.2.2.2.1=s:=by
 cases d with
 |ride d _=>
  cases d with
  |on d _ _=>exact⟨_,_,rfl,rfl,rfl⟩
theorem Der.arr_last{n:Zat}{s0 t0 w:Int}{k:Nat}{s t:Int}{js:List Zaq}(d:Der n s0 t0 w (.arr k s t) js): (js=[]/\t=t0/\s=s0)\/ ∃ks x,js=ks++[x]/\x.2.2.2.2.2.2.2.1=t/\x.2.2.2.2.2.1=s:=by
 cases d with
 |here=>exact .inl ⟨rfl,rfl,rfl⟩
 |arrW=>exact .inr ⟨[],_,rfl,rfl,rfl⟩
 |arrR d=>exact .inr d.rid_last
 |arrV=>exact .inr ⟨_,_,rfl,rfl,rfl⟩
theorem Zns(ks:List Zaq)(x:Zaq): ∃ks' x',ZdH (ks++[x])=ks' ++[x']/\x'.2.2.2.2.2.2.2.1=x.2.2.2.2.2.2.2.1/\x'.2.2.2.2.2.1=x.2.2.2.2.2.1:=by
 match ks with
 | []=>exact⟨[],x,rfl,rfl,rfl⟩
 | [y]=>exact⟨[_],x,rfl,rfl,rfl⟩
 |y::z::ks' =>exact⟨_::z::ks',x,rfl,rfl,rfl⟩
theorem ZhJ(js:List Zaq):Zal (ZdH js)=Zal js:=by
 match js with
 | []=>rfl
 | [_]=>rfl
 |x::y::js=>
  rw[ZlQ]
  cases h:x.1 with
  |true=>rfl
  |false=>
   have e: ∀z:Zaq,z.1=false->ZeB z=false:=fun z hz=>by unfold ZeB;rw[hz];rfl
   have e2: (ZkE x y).1=false:=h;unfold Zal;simp only[Vqa,cond_false];rw[e x h,e _ e2];simp only[Vn,if_false]
def Za0(q:Za5)(L:List Zaq):Int:=if L.length=0 then q.2.2.1 else(lg L (L.length - 1)).2.2.2.2.2.2.2.1
theorem ZgM(q:Za5){L:List Zaq}(hl:L.length<9000000000):F106 q (L,())=some (Za0 q L):=by
 unfold F106 Za0;by_cases h:L.length=0
 ·rw[if_pos h,decide_eq_true (show ((L.length:Int)=0) by omega)];rfl
 ·rw[if_neg h,decide_eq_false (show¬ ((L.length:Int)=0) by omega)];have w1:Vd .i64 ((L.length:Int) - 1)=((L.length - 1:Nat):Int):=by rw[Zae (by omega) (by omega)];omega
  simp only[cond_false,w1,Zfd (show L.length - 1<L.length by omega),bind_some]
theorem Zmk(q:Za5)(ks:List Zaq)(x:Zaq):Za0 q (ks++[x])=x.2.2.2.2.2.2.2.1:=by unfold Za0 lg;rw[if_neg (by simp)];simp
theorem Der.arrival{n:Zat}{q:Za5}{w:Int}{k:Nat}{s t:Int}{js:List Zaq}(d:Der n q.1 q.2.2.1 w (.arr k s t) js):Za0 q (ZdH js)=t:=by
 rcases d.arr_last with ⟨rfl,rfl,_⟩ | ⟨ks,x,rfl,h,_⟩
 ·rfl
 ·obtain⟨ks',x',e,h',_⟩:=Zns ks x;rw[e,Zmk,h',h]
theorem ZgW{L:List Zaq}(hl:L.length<9000000000):F111 (L,())=some (Zal L:Int):=by
 unfold F111;refine Zbk (fun r=>r=(Zal L:Int)) ?_ (fun r hr=>by rw[hr]);refine ZaL L.length _ (fun i (st:Int×Int)=>st=((Zal (L.take i):Int),(i:Int))) ?_ ?_ _ rfl
 ·rintro i _ hi rfl;left
  have hb:Zal (L.take i)<=L.length:=by unfold Zal;have:=Vma ZeB (L.take i);rw[Vw]at this;omega
  have w1:Vd .i64 ((Zal (L.take i):Int)+1)=((Zal (L.take i)+1:Nat):Int):=by rw[Zae (by omega) (by omega)];omega
  simp only[Zav hi,cond_true,Zaf hi,bind_some,Zai hi (show _<=9223372036854775807 by omega),w1];rw[Va hi,Zbc]
  have e:Zal [L[i]]=if ZeB L[i] then 1 else 0:=by
   unfold Zal
   cases h:ZeB L[i]<;>simp [h]
  rw[e];unfold ZeB Za3
  cases L[i].1 with
  |false=>exact⟨_,rfl,rfl⟩
  |true=>
   cases L[i].2.2.2.2.2.2.2.2.1 with
   |true=>exact⟨_,rfl,rfl⟩
   |false=>exact⟨_,rfl,rfl⟩
 ·rintro _ rfl;simp only[Zaw,cond_false,Vf];exact⟨_,rfl,rfl⟩
theorem ZxM{P:Nat->Prop} : ∀ {m:Nat},P m-> ∃k,k<=m/\P k/\ ∀j,j<k-> ¬P j:=by
 intro m
 induction m using Nat.strongRecOn with
 |_ m ih=>
  intro h;by_cases e: ∃j,j<m/\P j
  ·obtain⟨j,h1,h2⟩:=e;obtain⟨k,k1,k2,k3⟩:=ih j h1 h2;exact⟨k,by omega,k2,k3⟩
  ·exact⟨m,Vh m,h,fun j hj hp=>e ⟨j,hj,hp⟩⟩
variable {n:Zat}{s0 t0 w:Int}{m:Nat}{f:ZaF}{rs:List (List ZbK)}
theorem Zee.idxP(F:Zee n s0 t0 w m f rs){k s:Nat}(hk:k<=m)(hs:s<n.1.length): ∃now,idx rs (k:Int)=some now/\idx now (s:Int)=some (Zq9 rs k s):=by
 obtain⟨now,linked,h1,h2,_⟩:=F.st k hk;have hl:k<rs.length:=by rw[F.len];omega
 have e:rs[k]=now:=by rw[Vb hl]at h1;exact Option.some.inj h1
 have hsn:s<now.length:=by omega
 refine⟨now,by rw[Zaf hl,e], ?_⟩;unfold Zq9;rw[h1];simp only[Vdb];rw[Zaf hsn,Zak hsn]
theorem Zlv(F:Zee n s0 t0 w m f rs)(hm:m<=8){n0:Zat}{q:Za5}(h:F118 n0 q=some (f,rs,0)){a:Nat}(hq:q.2.1=(a:Int))(ha:a<n.1.length)(hv:arrV rs m a= -1):
  F114 n0 q=some (([],()),23):=by
 unfold F114;rw[Zmc h,h];obtain⟨now,h1,h2⟩:=F.idxP (Vh m) ha;have w1:Vd .i64 ((rs.length:Int) - 1)=(m:Int):=by rw[F.len,Zae (by omega) (by omega)];omega
 simp only[cond_true,bind_some,decide_true,Vk,cond_false,w1,h1,hq,h2];rw[show (Zq9 rs m a).1= -1 from hv];rfl
theorem Zk4(F:Zee n s0 t0 w m f rs)(hm:m<=8){n0:Zat}{q:Za5}(h:F118 n0 q=some (f,rs,0)){a:Nat}(hq:q.2.1=(a:Int))(ha:a<n.1.length)(hv:arrV rs m a≠ -1):
  ∃k k' js,k<=m/\arrV rs k a=arrV rs m a/\(∀j,j<k->arrV rs j a≠arrV rs m a)/\k' <=k/\Ch f.2.1 (Zq9 rs k a).2.2.2.1 js/\Der n s0 t0 w (.arr k' (a:Int) (arrV rs m a)) js/\F114 n0 q=some ((ZdH js,()),0):=by
 obtain⟨k,hk,hk1,hk2⟩:=ZxM (P:=fun j=>arrV rs j a=arrV rs m a) (m:=m) rfl;obtain⟨k',hk',js,hch,hd⟩:=F.sound hk (by rw[hk1];exact hv);rw[hk1]at hd;refine⟨k,k',js,hk,hk1,hk2,hk',hch,hd, ?_⟩;unfold F114;rw[Zmc h,h];obtain⟨now,h1,h2⟩:=F.idxP (Vh m) ha;have w1:Vd .i64 ((rs.length:Int) - 1)=(m:Int):=by rw[F.len,Zae (by omega) (by omega)];omega
 simp only[cond_true,bind_some,decide_true,Vk,cond_false,w1,h1,hq,h2];have e1: (Zq9 rs m a).1=arrV rs m a:=rfl;rw[e1,decide_eq_false hv];simp only[cond_false];obtain⟨now',h3,h4⟩:=F.idxP hk ha;refine Zbk (fun r=>r=(f,(k:Int))) ?_ ?_
 ·refine ZaL k _ (fun i (st:ZaF×Int)=>st=(f,(i:Int))) ?_ ?_ _ rfl
  ·rintro i _ hi rfl;left;obtain⟨nw,h5,h6⟩:=F.idxP (show i<=m by omega) ha;have e2: (Zq9 rs i a).1=arrV rs i a:=rfl;simp only[h5,bind_some,h6,e2,decide_eq_false (hk2 i hi),Vu,cond_true];exact⟨_,rfl,by rw[Zai hi (by omega)]⟩
  ·rintro _ rfl;have e2: (Zq9 rs k a).1=arrV rs k a:=rfl;simp only[h3,bind_some,h4,e2,hk1,decide_true,Vk,cond_false];exact⟨_,rfl,rfl⟩
 ·rintro _ rfl;simp only[h3,bind_some,h4,Zn0 F.lab hch]
theorem Zee.falls' (F:Zee n s0 t0 w m f rs){s:Nat} : ∀ {k k' :Nat},k<=k' ->k' <=m->arrV rs k s≠ -1->arrV rs k' s≠ -1/\arrV rs k' s<=arrV rs k s:=by intro k k' hk hk' hne;obtain⟨k2,h1,js,_,h3⟩:=F.sound (show k<=m by omega) hne;exact F.complete hk' (by omega) h3
end Q
namespace Q
open Tr Go
open Option (bind_some)
structure ZwQ (n:Zat):Prop where
 stops:n.1.length<=5
 runs:n.2.2.1.length<=7
 links:n.2.2.2.1.length<=30
 paths:n.2.2.2.2.1.length<=60
 calls: ∀r∈n.2.2.1,r.2.2.2.2.2.2.2.1.length<=6
 whole:Whole n
open Classical in
theorem ZtD{n:Zat}(h:Znf Y31 n): ∃b,F62 n=some b/\(b=true->ZwQ n):=by
 unfold F62;by_cases h1: (5:Int)< (n.1.length:Int)
 ·rw[decide_eq_true h1];exact⟨false,rfl,fun e=>(nomatch e)⟩
 by_cases h2: (7:Int)< (n.2.2.1.length:Int)
 ·rw[decide_eq_false h1,decide_eq_true h2];exact⟨false,rfl,fun e=>(nomatch e)⟩
 by_cases h3: (30:Int)< (n.2.2.2.1.length:Int)
 ·rw[decide_eq_false h1,decide_eq_false h2,decide_eq_true h3];exact⟨false,rfl,fun e=>(nomatch e)⟩
 by_cases h4: (60:Int)< (n.2.2.2.2.1.length:Int)
 ·rw[decide_eq_false h1,decide_eq_false h2,decide_eq_false h3,decide_eq_true h4];exact⟨false,rfl,fun e=>(nomatch e)⟩
 rw[decide_eq_false h1,decide_eq_false h2,decide_eq_false h3,decide_eq_false h4];simp only[cond_false,bind_some];have hfit:=Zxx h (by omega);rw[Zgz hfit]
 have key: ∀ (o:Option (Unit ⊕ Bool)),(∃r,o=some r/\(r= .inr false\/r= .inl ()/\ ∀x∈n.2.2.1,x.2.2.2.2.2.2.2.1.length<=6))->
   ∃b,(Vq o fun x3=>Sum.elim (fun _=>Vq (some (decide (Whole n))) fun x5=>some x5) (fun y6=>some y6) x3)=some b/\(b=true->ZwQ n):=by
  rintro o ⟨r,rfl,rfl| ⟨rfl,hc⟩⟩
  ·exact⟨false,rfl,fun e=>(nomatch e)⟩
  ·exact⟨_,rfl,fun e=>⟨by omega,by omega,by omega,by omega,hc,of_decide_eq_true e⟩⟩
 refine key _ (ZaL n.2.2.1.length _ (fun i (s:Int)=>s=(i:Int)/\ ∀x∈n.2.2.1.take i,x.2.2.2.2.2.2.2.1.length<=6) ?_ ?_ _ ⟨rfl,by simp⟩)
 ·rintro i _ hi ⟨rfl,ha⟩;simp only[Zav hi,cond_true,Zaf hi,bind_some,Zai hi (show _<=9223372036854775807 by omega)];by_cases hc: (6:Int)< ((n.2.2.1[i]).2.2.2.2.2.2.2.1.length:Int)
  ·right;rw[decide_eq_true hc];exact⟨_,rfl, .inl rfl⟩
  ·left;rw[decide_eq_false hc];refine⟨_,rfl,rfl,fun x hx=> ?_⟩;rw[Va hi,Vm]at hx;rcases hx with hx|hx
   ·exact ha x hx
   ·simp only[Vg]at hx;subst hx;omega
 ·rintro _ ⟨rfl,ha⟩;simp only[Zaw,cond_false];rw[Vf]at ha;exact⟨_,rfl, .inr ⟨rfl,ha⟩⟩
theorem Zm5{n:Zat}(h:Znf Y31 n)(q:Za5): ∃b,F31 n q=some b/\(b=true->ZwQ n/\qB n.1.length q=true/\q.2.2.2.1=false/\q.2.2.2.2.1<=3):=by
 unfold F31;obtain⟨b,hb1,hb2⟩:=ZtD h;rw[hb1]
 cases b with
 |false=>exact⟨false,rfl,fun e=>(nomatch e)⟩
 |true=>
  have hT:=hb2 rfl;simp only[bind_some,cond_true];rw[Zki n.1.length (by have:=hT.stops;omega) q];simp only[bind_some]
  cases hq:qB n.1.length q with
  |false=>exact⟨false,rfl,fun e=>(nomatch e)⟩
  |true=>
   cases hk:q.2.2.2.1 with
   |true=>exact⟨false,rfl,fun e=>(nomatch e)⟩
   |false=>
    simp only[cond_true,Vu,bind_some];exact⟨_,rfl,fun e=>⟨hT,trivial,trivial,of_decide_eq_true e⟩⟩
theorem ZtL{n:Zat}(h:Znf Y31 n){q:Za5}(hT:ZwQ n)(hq:qB n.1.length q=true)(hb:q.2.2.2.1=false):Fit n/\Few n/\ZuP n q=0/\Zkl n q=0:=by
 have hfit:=Zxx h (by have:=hT.paths;omega);have hc:=ZfD.2 ⟨hT.whole,hq⟩;refine⟨hfit,⟨by have:=hT.stops;omega, ?_,by have:=hT.runs;omega,by have:=hT.links;omega,by have:=hT.paths;omega, ?_,fun r hr=>by have:=hT.calls r hr;omega⟩,Zsg hc hb,hc⟩
 ·have t:=hT.whole.t;unfold ZfI at t;split at t
  ·exact absurd t (by decide)
  ·omega
 ·have z:=hT.whole.z;unfold ZhL at z;split at z
  ·exact absurd z (by decide)
  ·split at z
   ·exact absurd z (by decide)
   ·omega
end Q
namespace Q
open Tr Go
open Option (bind_some)
variable {n:Zat}{q:Za5}
def Zw3(n:Zat)(q:Za5)(x:Zaq):Prop:=x.2.2.2.2.1=q.1/\Za3 x=false/\q.2.2.1<=x.2.2.2.2.2.2.1/\(x.1=false->x.2.2.2.2.2.2.1=q.2.2.1)/\(q.2.2.2.2.2.2.2.2.2.1=true->x.1=true->q.2.2.1+(Zcm n q.1).2.2.2.1<=x.2.2.2.2.2.2.1)
def Zuo(n:Zat)(q:Za5)(x y:Zaq):Prop:=Zbj n x y=0/\(x.1=true->Za3 y=false->ZbZ n (Zby q) x=0)
def Znq(n:Zat)(q:Za5)(L:List Zaq):Prop:=(∀i,i<L.length->ZhU n (Zby q) (lg L i)=0)/\(∀i,i+1<L.length->Zuo n q (lg L i) (lg L (i+1)))/\(0<L.length->Zw3 n q (lg L 0))
def Ztk(n:Zat)(q:Za5)(L:List Zaq):Prop:= ∀ks x,L=ks++[x]->x.1=true->ZbZ n (Zby q) x=0
theorem ZsR{ks:List Zaq}{x:Zaq}{i:Nat}(h:i<ks.length):lg (ks++[x]) i=lg ks i:=by unfold lg;rw[Vza h]
theorem ZuR(ks:List Zaq)(x:Zaq):lg (ks++[x]) ks.length=x:=by unfold lg;simp
theorem Zpp:Znq n q []:=⟨fun i h=>absurd h (Vfb i),fun _ h=>absurd h (Vfb _),fun h=>absurd h (Vsc 0)⟩
theorem ZpL{x:Zaq}(h1:ZhU n (Zby q) x=0)(h2:Zw3 n q x):Znq n q [x]:=by
 refine⟨fun i h=> ?_,fun i h=> ?_,fun _=>h2⟩
 ·have:i=0:=by simp at h;omega
  subst this;exact h1
 ·simp at h
theorem Zfs{ks:List Zaq}{x y:Zaq}(h:Znq n q (ks++[x]))(h1:ZhU n (Zby q) y=0)(h2:Zuo n q x y):Znq n q (ks++[x]++[y]):=by
 have hl: (ks++[x]).length=ks.length+1:=by simp
 refine⟨fun i hi=> ?_,fun i hi=> ?_,fun _=> ?_⟩
 ·rw[Ve,Vl,hl]at hi;by_cases e:i<ks.length+1
  ·rw[ZsR (by omega)];exact h.1 i (by omega)
  ·have:i=(ks++[x]).length:=by omega
   rw[this,ZuR];exact h1
 ·rw[Ve,Vl,hl]at hi;by_cases e:i+1<ks.length+1
  ·rw[ZsR (show i< (ks++[x]).length by omega),ZsR (show i+1< (ks++[x]).length by omega)];exact h.2.1 i (by omega)
  ·have e1:i=ks.length:=by omega
   rw[ZsR (show i< (ks++[x]).length by omega)];have:i+1=(ks++[x]).length:=by omega
   rw[this,ZuR,e1,ZuR];exact h2
 ·rw[ZsR (by omega)];exact h.2.2 (by omega)
def Znp.legs(n:Zat)(q:Za5):Znp->List Zaq->Prop
 | .rdy _ s r,js=>Znq n q js/\ ∀i c c',i<n.2.2.1.length->c<c' ->c' < (Zaj n i).length->ZcS n i=false->(Zac n i c).1=s->(Zac n i c).2.2.2.1=true->r<=(Zac n i c).2.2.1->Znq n q (js++[Zbw n i c c' false])
 | .brd _ i c st,js=> ∀c',c<c' ->c' < (Zaj n i).length->Znq n q (js++[Zbw n i c c' st])
 | .lnk _ i c,js=>ZcS n i=false-> ∀c',c<c' ->c' < (Zaj n i).length->Znq n q (js++[Zbw n i c c' false])
 | .on _ i c,js=>Znq n q js/\ ∃ks b st,js=ks++[Zbw n i b c st]/\i<n.2.2.1.length/\c< (Zaj n i).length
 | .rid _ s t,js=>Znq n q js/\ ∃ks i b c st,js=ks++[Zbw n i b c st]/\i<n.2.2.1.length/\c< (Zaj n i).length/\(Zac n i c).2.2.2.2.1=true/\s=(Zac n i c).1/\t=(Zac n i c).2.1
 | .arr _ _ _,js=>Znq n q js/\Ztk n q js
theorem Zm4(s t a b:Int): (ZdU s t a b).1=true->False:=fun e=>Bool.noConfusion e
theorem ZxO(n:Zat)(i b c:Nat)(st:Bool): (Zbw n i b c st).1=false->False:=fun e=>Bool.noConfusion e
theorem Zmz(ks:List Zaq)(s t a b:Int):Ztk n q (ks++[ZdU s t a b]):=by intro ls x e hx;have:=Vmc e rfl;have e2:=this.2;simp only[List.cons.injEq,and_true]at e2;rw[<-e2]at hx;exact(Zm4 _ _ _ _ hx).elim
theorem ZsL{ks:List Zaq}{i b c:Nat}{st:Bool}(h: (Zac n i c).2.2.2.2.1=true):Ztk n q (ks++[Zbw n i b c st]):=by intro ls x e hx;have:=Vmc e rfl;have e2:=this.2;simp only[List.cons.injEq,and_true]at e2;rw[<-e2];exact Zdm.2 h
theorem ZuC(h:Zcu n)(hs:0<=q.1/\q.1< (n.1.length:Int))(ht:0<=q.2.2.1/\q.2.2.1<=3155932800){f:Znp}{js:List Zaq}(d:Der n q.1 q.2.2.1 (bif q.2.2.2.2.2.2.2.2.2.1 then(Zcm n q.1).2.2.2.1 else 0) f js):f.legs n q js:=by
 have hcg:=h.change _ hs.1 hs.2
 have first: ∀ {p:Zb3},p∈n.2.2.2.2.1->p.1=q.1->q.2.2.1+p.2.2.1<=3155932800->Znq n q [ZdU q.1 p.2.1 q.2.2.1 (q.2.2.1+p.2.2.1)]:=by intro p h1 h2 h3;refine ZpL ((Zdc h).2 ⟨p,h1,q.2.2.1,by rw[h2],ht.1,h3⟩).1 ⟨rfl,rfl,Vwa _,fun _=>rfl,fun _ e=>(Zm4 _ _ _ _ e).elim⟩
 have walk: ∀ {ks:List Zaq}{i b c:Nat}{st:Bool}{p:Zb3},Znq n q (ks++[Zbw n i b c st])->(Zac n i c).2.2.2.2.1=true->p∈n.2.2.2.2.1->p.1=(Zac n i c).1->i<n.2.2.1.length->c< (Zaj n i).length->(Zac n i c).2.1+p.2.2.1<=3155932800->Znq n q (ks++[Zbw n i b c st]++[ZdU (Zac n i c).1 p.2.1 (Zac n i c).2.1 ((Zac n i c).2.1+p.2.2.1)]):=by intro ks i b c st p h1 h2 h3 h4 h5 h6 h7;exact Zfs h1 ((Zdc h).2 ⟨p,h3,_,by rw[h4],(h.time h5 h6).1,h7⟩).1 ⟨Ztd.2 ⟨rfl,rfl⟩,fun _ _=>Zdm.2 h2⟩
 have behind: ∀ {ks:List Zaq}{s t a z:Int}{i c c' :Nat},Znq n q (ks++[ZdU s t a z])->i<n.2.2.1.length->c<c' ->c' < (Zaj n i).length->ZcS n i=false->(Zac n i c).1=t->(Zac n i c).2.2.2.1=true->z<=(Zac n i c).2.2.1->Znq n q (ks++[ZdU s t a z]++[Zbw n i c c' false]):=by intro ks s t a z i c c' h1 h2 h3 h4 h5 h6 h7 h8;exact Zfs h1 ((Zdf h).2 ⟨i,c,c',false,rfl,h2,h3,h4,h5, .inr h7⟩).1 ⟨ZkN.2 ⟨h6.symm,h8⟩,fun e=>(Zm4 _ _ _ _ e).elim⟩
 induction d with
 |init=>
  refine⟨Zpp,fun i c c' h1 h2 h3 h4 h5 h6 h7=> ?_⟩;refine ZpL ((Zdf h).2 ⟨i,c,c',false,rfl,h1,h2,h3,h4, .inr h6⟩).1 ⟨h5,rfl, ?_,fun e=>(ZxO _ _ _ _ _ e).elim,fun e _=> ?_⟩
  ·show q.2.2.1<=(Zac n i c).2.2.1
   cases hc:q.2.2.2.2.2.2.2.2.2.1 with
   |true=>rw[hc]at h7;simp only[cond_true]at h7;omega
   |false=>rw[hc]at h7;simp only[cond_false]at h7;omega
  ·rw[e]at h7
   exact h7
 |here=>exact⟨Zpp,fun ks x e=>by simp at e⟩
 |rdyW h1 h2 h3=>exact⟨first h1 h2 h3,fun i c c' a1 a2 a3 a4 a5 a6 a7=>behind (ks:=[]) (first h1 h2 h3) a1 a2 a3 a4 a5 a6 a7⟩
 |arrW h1 h2 h3=>exact⟨first h1 h2 h3,fun a b e=>Zmz [] _ _ _ _ a b e⟩
 |board d h1 h2 h3 h4 h5 h6 ih=>exact fun c' a1 a2=>ih.2 _ _ _ h1 a1 a2 h3 h4 h5 h6
 |on d h1 h2 ih=>exact⟨ih _ h1 h2,_,_,_,rfl,(d.ok h hs ht (by cases q.2.2.2.2.2.2.2.2.2.1<;>simp<;>omega)).2.1,h2⟩
 |stay d h1 h2 h3 ih=>
  intro c' a1 a2;obtain⟨i1,ks,b,st,rfl,i2,i3⟩:=ih;obtain⟨l1,l2,l3,l4,l5,l6,l7⟩:=h.isLink h1
  exact Zfs i1 ((Zdf h).2 ⟨_,_,c',true,rfl,l2,a1,a2,h3, .inl rfl⟩).1 ⟨(ZpT h).2 ⟨l6,h1,h2⟩,fun _ e=>absurd e (by simp [Za3,Zbw])⟩
 |link d h1 h2 h3 h4 ih=>
  intro hcn c' a1 a2;obtain⟨i1,ks,b,st,rfl,i2,i3⟩:=ih;obtain⟨l1,l2,l3,l4,l5,l6,l7⟩:=h.isLink h2
  exact Zfs i1 ((Zdf h).2 ⟨_,_,c',false,rfl,l2,a1,a2,hcn, .inr h4⟩).1 ⟨(Zo5 h l1 l4).2 ⟨l6, .inr ⟨h2,h3⟩⟩,fun _ _=>Zdm.2 h1⟩
 |linked d h1 ih=>exact ih h1
 |ride d h1 ih=>
  obtain⟨i1,ks,b,st,rfl,i2,i3⟩:=ih
  exact⟨i1,ks,_,b,_,st,rfl,i2,i3,h1,rfl,rfl⟩
 |change d ih=>
  obtain⟨i1,ks,i,b,c,st,rfl,i2,i3,i4,rfl,rfl⟩:=ih;refine⟨i1,fun j e e' a1 a2 a3 a4 a5 a6 a7=> ?_⟩
  exact Zfs i1 ((Zdf h).2 ⟨j,e,e',false,rfl,a1,a2,a3,a4, .inr a6⟩).1 ⟨(Zo5 h i2 i3).2 ⟨a5.symm, .inl a7⟩,fun _ _=>Zdm.2 i4⟩
 |rdyV d h1 h2 h3 ih=>
  obtain⟨i1,ks,i,b,c,st,rfl,i2,i3,i4,rfl,rfl⟩:=ih;have:=walk i1 i4 h1 h2 i2 i3 h3
  exact⟨this,fun j e e' a1 a2 a3 a4 a5 a6 a7=>behind this a1 a2 a3 a4 a5 a6 a7⟩
 |arrR d ih=>
  obtain⟨i1,ks,i,b,c,st,rfl,i2,i3,i4,rfl,rfl⟩:=ih
  exact⟨i1,ZsL i4⟩
 |arrV d h1 h2 h3 ih=>
  obtain⟨i1,ks,i,b,c,st,rfl,i2,i3,i4,rfl,rfl⟩:=ih;exact⟨walk i1 i4 h1 h2 i2 i3 h3,fun a b e=>Zmz _ _ _ _ _ a b e⟩
theorem ZvH{L:List Zaq}(h1: ∀i,i<L.length->ZhU n (Zby q) (lg L i)=0)(h2: ∀i,i+1<L.length->Zuo n q (lg L i) (lg L (i+1)))(h3:0<L.length->Zhd n (Zby q) L=0)(h4:Ztk n q L): ∀i,i<L.length->atE n (Zby q) L i=0:=by
 intro i hi;refine Zd3.2 ⟨h1 i hi, ?_,fun hb=> ?_⟩
 ·cases i with
  |zero=>exact h3 hi
  |succ i=>rw[ZeF];exact(h2 i hi).1
 ·unfold Zgi at hb;simp only[Vi,Vpc,decide_eq_true_eq,Vnb]at hb;by_cases e:i+1=L.length
  ·refine h4 (L.take i) (lg L i) ?_ hb.1;have:=Va hi;rw[e,Vf]at this;rw[ZjZ hi];exact this
  ·exact(h2 i (by omega)).2 hb.1 (hb.2.resolve_left e)
theorem ZeR(x:Zaq)(L:List Zaq)(i:Nat):lg (x::L) (i+1)=lg L i:=by unfold lg;simp
theorem ZvK(h:Zcu n)(hs:0<=q.1/\q.1< (n.1.length:Int))(ht:0<=q.2.2.1/\q.2.2.1<=3155932800)(hb:q.2.2.2.1=false){L:List Zaq}(hL:Znq n q L)(hT:Ztk n q L): ∀i,i< (ZdH L).length->atE n (Zby q) (ZdH L) i=0:=by
 have hcg:=h.change _ hs.1 hs.2;obtain⟨h1,h2,h3⟩:=hL;have g1: (Zby q).1=q.1:=rfl;have g2: (Zby q).2.2.1=q.2.2.1:=rfl;have g3: (Zby q).2.2.2.1=q.2.2.2.1:=rfl;have g4: (Zby q).2.2.2.2.2.2.2.2.2.1=q.2.2.2.2.2.2.2.2.2.1:=rfl;have w1:Vd .i64 (q.2.2.1+(Zcm n q.1).2.2.2.1)=q.2.2.1+(Zcm n q.1).2.2.2.1:=Zae (by omega) (by omega)
 match L,h1,h2,h3,hT with
 | [],_,_,_,_=>exact fun i hi=>absurd hi (Vfb i)
 | [x],h1,h2,h3,hT=>
  refine ZvH h1 h2 (fun _=> ?_) hT;obtain⟨a1,a2,a3,a4,a5⟩:=h3 (by simp);have ex:lg [x] 0=x:=rfl;rw[ex]at a1 a2 a3 a4 a5;refine Zce.2 ?_;rw[g1,g2,g3,g4,w1,hb];show x.2.2.2.2.1=q.1/\Za3 x=false/\_/\_/\(true&&decide (x.2.2.2.2.2.2.1<q.2.2.1))=false/\(q.2.2.2.2.2.2.2.2.2.1&& (x.1&&decide (x.2.2.2.2.2.2.1<q.2.2.1+(Zcm n q.1).2.2.2.1)))=false;refine⟨a1,a2,by show (!x.1&& (false&&_))=false;simp, ?_,by rw[decide_eq_false (by omega)];rfl, ?_⟩
  ·show (!x.1&& (true&& (!decide (x.2.2.2.2.2.2.1=q.2.2.1))))=false
   cases hx:x.1 with
   |true=>rfl
   |false=>rw[decide_eq_true (a4 hx)];rfl
  ·cases hc:q.2.2.2.2.2.2.2.2.2.1 with
   |false=>rfl
   |true=>
    cases hx:x.1 with
    |false=>rfl
    |true=>rw[decide_eq_false (by have:=a5 hc hx;omega)];rfl
 |x::y::js,h1,h2,h3,hT=>
  rw[ZlQ];obtain⟨a1,a2,a3,a4,a5⟩:=h3 (by simp);have ex:lg (x::y::js) 0=x:=rfl;have ey:lg (x::y::js) 1=y:=rfl;rw[ex]at a1 a2 a3 a4 a5
  cases hx:x.1 with
  |true=>
   simp only[cond_true];refine ZvH h1 h2 (fun _=> ?_) hT;refine Zce.2 ?_;rw[g1,g2,g3,g4,w1,hb,ex,hx];refine⟨a1,a2,rfl,rfl,by rw[decide_eq_false (by omega)];rfl, ?_⟩
   cases hc:q.2.2.2.2.2.2.2.2.2.1 with
   |false=>rfl
   |true=>rw[decide_eq_false (by have:=a5 hc hx;omega)];rfl
  |false=>
   simp only[cond_false];have l0:=h1 0 (by simp);have l1:=h1 1 (by simp);have f0:=(h2 0 (by simp)).1;rw[ex]at l0 f0;rw[ey]at l1 f0;obtain⟨p,hp,a,e,b1,b2⟩:=(Zdc h).1 ⟨l0,hx⟩;have hpp:=h.path p hp
   cases hy:y.1 with
   |false=>
    obtain⟨p',hp',a',e',_⟩:=(Zdc h).1 ⟨l1,hy⟩;rw[e,e']at f0
    exact(Zkm _ _ _ _ _ _ _ _ _ f0).elim
   |true=>
    obtain⟨j,d,c,st,e',k1,k2,k3,k4,k5⟩:=(Zdf h).1 ⟨l1,hy⟩
    cases st with
    |true=>rw[e,e']at f0;exact(Zjh _ _ _ _ _ _ _ _ f0).elim
    |false=>
     rw[e,e']at f0;obtain⟨f1,f2⟩:=ZkN.1 f0;have htm:=h.time k1 (show d< (Zaj n j).length by omega);have ha:a=q.2.2.1:=by have:=a4 hx;rw[e]at this;exact this
     have eS:ZkE x y=ZdU p.1 p.2.1 ((Zac n j d).2.2.1 - p.2.2.1) ((Zac n j d).2.2.1 - p.2.2.1+p.2.2.1):=by rw[e,e'];unfold ZkE ZdU Zbw;simp only;rw[Zae (x:=a+p.2.2.1 - a) (by omega) (by omega),Zae (by omega) (by omega)];rw[show (Zac n j d).2.2.1 - (a+p.2.2.1 - a)=(Zac n j d).2.2.1 - p.2.2.1 by omega,show (Zac n j d).2.2.1 - p.2.2.1+p.2.2.1=(Zac n j d).2.2.1 by omega]
     rw[eS];refine ZvH (fun i hi=> ?_) (fun i hi=> ?_) (fun _=> ?_) (fun ks z ez hz=> ?_)
     ·cases i with
      |zero=>exact((Zdc h).2 ⟨p,hp,_,rfl,by omega,by omega⟩).1
      |succ i=>rw[ZeR];have:=h1 (i+1) hi;rw[ZeR]at this;exact this
     ·cases i with
      |zero=>
       show Zuo n q (ZdU _ _ _ _) y;rw[e']
       exact⟨ZkN.2 ⟨f1,by omega⟩,fun e=>(Zm4 _ _ _ _ e).elim⟩
      |succ i=>rw[ZeR,ZeR];have:=h2 (i+1) hi;rw[ZeR,ZeR]at this;exact this
     ·refine Zce.2 ?_;rw[g1,g2,g3,g4,w1,hb];have hq1:p.1=q.1:=by rw[e]at a1;exact a1
      refine⟨hq1,rfl, ?_, ?_, ?_, ?_⟩
      ·show (true&& (decide (1< (y::js).length+1) && (y.1&& !decide (y.2.2.2.2.2.2.1=(Zac n j d).2.2.1 - p.2.2.1+p.2.2.1))))=false;rw[e'];have:decide ((Zbw n j d c false).2.2.2.2.2.2.1=(Zac n j d).2.2.1 - p.2.2.1+p.2.2.1)=true:=decide_eq_true (by show (Zac n j d).2.2.1=_;omega);rw[this];simp
      ·have:decide ((ZdU p.1 p.2.1 ((Zac n j d).2.2.1 - p.2.2.1) ((Zac n j d).2.2.1 - p.2.2.1+p.2.2.1)::y::js).length=1)=false:=decide_eq_false (by simp);rw[this];simp
      ·show (true&&decide ((Zac n j d).2.2.1 - p.2.2.1<q.2.2.1))=false;rw[decide_eq_false (by omega)];rfl
      ·show (_&& (false&&_))=false;simp
     ·cases ks with
      |nil=>simp at ez
      |cons k ks=>
       rw[Vnc,List.cons.injEq]at ez;exact hT (x::ks) z (by rw[Vnc,ez.2]) hz
theorem Zwg(n:Zat): ∀ (L:List Zaq) (w:Bool) (out:List ZdA),(∀x∈L,x.1=true->ZaN n x=true)->(∀x∈L,Za3 x=true->x.1=true)->(0<L.length->Za3 (lg L 0)=true->w=true)->(∀i,i+1<L.length->Za3 (lg L (i+1))=true->(lg L i).1=true)->(Zbu n L w out).2=0
 | [],_,_,_,_,_,_=>rfl
 |x::L,w,out,h1,h2,h3,h4=>by
  rw[ZcP];have hx0:lg (x::L) 0=x:=rfl
  rw[if_neg (fun h=>by have:=h1 x (by simp) h.1;rw[h.2]at this;cases this),if_neg (fun h=>by
   rcases h.2 with e|e
   ·have:=h2 x (by simp) h.1;rw[e]at this;cases this
   ·have:=h3 (by simp) (by rw[hx0];exact h.1);rw[e]at this;cases this)]
  have hn:0<L.length->Za3 (lg L 0)=true->x.1=true:=fun hl hs=>by have:=h4 0 (by simpa using hl) (by rw[ZeR];exact hs);rw[hx0]at this;exact this
  have hr: ∀i,i+1<L.length->Za3 (lg L (i+1))=true->(lg L i).1=true:=fun i hi hs=>by have:=h4 (i+1) (by simpa using hi) (by rw[ZeR];exact hs);rw[ZeR]at this;exact this
  by_cases hx:x.1=true
  ·rw[if_pos hx];exact Zwg n L true _ (fun y hy=>h1 y (by simp [hy])) (fun y hy=>h2 y (by simp [hy])) (fun _ _=>rfl) hr
  ·rw[if_neg hx];exact Zwg n L false _ (fun y hy=>h1 y (by simp [hy])) (fun y hy=>h2 y (by simp [hy])) (fun hl hs=>absurd (hn hl hs) hx) hr
theorem Zwp(h:Zcu n){L:List Zaq}(ha: ∀i,i<L.length->atE n (Zby q) L i=0): (Zbu n L false []).2=0:=by
 have hg: ∀x∈L,ZhU n (Zby q) x=0:=by intro x hx;obtain⟨i,hi,rfl⟩:=Vjb hx;have:=(Zd3.1 (ha i hi)).1;rw[ZjZ hi]at this;exact this
 have hst: ∀x∈L,Za3 x=true->x.1=true:=by
  intro x hx hs
  cases e:x.1 with
  |true=>rfl
  |false=>
   obtain⟨p,hp,a,e',_⟩:=(Zdc h).1 ⟨hg x hx,e⟩;rw[e']at hs;cases hs
 refine Zwg n L false [] (fun x hx hr=>((ZiH (hg x hx)).2.2.1 hr).1) hst (fun h0 hs=> ?_) (fun i hi hs=> ?_)
 ·have h2:Zhd n (Zby q) L=0:=(Zd3.1 (ha 0 h0)).2.1;rw[(Zce.1 h2).2.1]at hs;cases hs
 ·cases e: (lg L i).1 with
  |true=>rfl
  |false=>
   have hb:=Zd3.1 (ha (i+1) hi);have hf:=hb.2.1;rw[ZeF]at hf;obtain⟨p,hp,a,e',_⟩:=(Zdc h).1 ⟨(Zd3.1 (ha i (by omega))).1,e⟩;have hr: (lg L (i+1)).1=true:=hst _ (by rw[ZjZ hi];exact Vj hi) hs;obtain⟨j,d,c,st,e2,_⟩:=(Zdf h).1 ⟨hb.1,hr⟩;rw[e2]at hs;have:st=true:=hs;subst this;rw[e',e2]at hf;exact(Zjh _ _ _ _ _ _ _ _ hf).elim
end Q
namespace Q
open Tr Go
open Option (bind_some)
structure Tin (n:Zat):Prop where
 stops:n.1.length<=5
 runs:n.2.2.1.length<=7
 paths:n.2.2.2.2.1.length<=60
 calls: ∀i,i<n.2.2.1.length->(Zaj n i).length<=6
variable {n:Zat}{q:Za5}
theorem idxR{i:Nat}(hi:i<n.2.2.1.length):idx n.2.2.1 (i:Int)=some (rn n (i:Int)):=by rw[Zaf hi];unfold rn;rw[Vp,Zak hi]
theorem Zx1{i c:Nat}(hc:c< (Zaj n i).length):idx (rn n (i:Int)).2.2.2.2.2.2.2.1 (c:Int)=some (Zac n i c):=by
 have:idx (Zaj n i) (c:Int)=some (Zac n i c):=by rw[Zaf hc,ZiB hc]
 exact this
theorem ZjA{β:Type}{f:Nat->List β}{c:Nat} : ∀ {i:Nat},(∀j,j<i->(f j).length<=c)->((Vs i).flatMap f).length<=i*c
 |0,_=>by simp
 |i+1,h=>by
  have:=ZjA (f:=f) (c:=c) (i:=i) fun j hj=>h j (by omega);have h2:=h i (by omega);have e: [i].flatMap f=f i:=by simp
  rw[Vgb,Vz,Ve,Vsb,e];omega
theorem ZoH{β:Type}{step:List β×Int->Option ((List β×Int) ⊕ List β)}(acc:List β)(m n:Nat)(g:Nat->List β)(z:Int)(hz:z=(m:Int))
  (hstep: ∀i,i<n->step (acc++(Vs i).flatMap g,((m+i:Nat):Int))=some (.inl (acc++(Vs i).flatMap g++g i,((m+i+1:Nat):Int))))
  (hend:step (acc++(Vs n).flatMap g,((m+n:Nat):Int))=some (.inr (acc++(Vs n).flatMap g))):run step (acc,z)=some (acc++(Vs n).flatMap g):=by
 subst hz;refine Exists.elim (ZaL (step:=step) n (fun r=>r=acc++(Vs n).flatMap g) (fun i st=>st=(acc++(Vs i).flatMap g,((m+i:Nat):Int))) ?_ ?_ (acc,(m:Int)) (by simp)) ?_
 ·rintro i _ hi rfl;left;refine⟨_,hstep i hi, ?_⟩;rw[Vgb,Vz,Vea];simp;omega
 ·rintro _ rfl;exact⟨_,hend,rfl⟩
 ·rintro r ⟨h1,rfl⟩;exact h1
theorem ZwM{α β:Type}{o:Option α}{f:α->Option β}{Q:β->Prop}(P:α->Prop)(h: ∃r,o=some r/\P r)(k: ∀r,P r-> ∃b,f r=some b/\Q b): ∃b,Vq o f=some b/\Q b:=by obtain⟨r,rfl,hr⟩:=h;exact k r hr
def Zcb(s t:Int)(p:Zb3):Zaq:=ZdU s p.2.1 t (Vd .i64 (t+p.2.2.1))
def Zb2(n:Zat)(s t:Int):List Zaq:=(n.2.2.2.2.1.filter fun p=>decide (p.1=s)).map (Zcb s t)
theorem Zfx(hp:n.2.2.2.2.1.length<=4096)(s t:Int):F104 n s t=some (Zb2 n s t):=by
 unfold F104;refine Zbk (fun r=>r=Zb2 n s t) ?_ (fun r hr=>by rw[hr]);refine ZaL n.2.2.2.2.1.length _ (fun i (st:List Zaq×Int)=>st=(((n.2.2.2.2.1.take i).filter fun p=>decide (p.1=s)).map (Zcb s t),(i:Int))) ?_ ?_ _ rfl
 ·rintro i _ hi rfl;left
  have hl: (((n.2.2.2.2.1.take i).filter fun p=>decide (p.1=s)).map (Zcb s t)).length<=4096:=by rw[Vba];have:=Vma (fun p:Zb3=>decide (p.1=s)) (n.2.2.2.2.1.take i);rw[Vw]at this;omega
  have hg:Zan (decide (Vc (((n.2.2.2.2.1.take i).filter fun p=>decide (p.1=s)).map (Zcb s t))+Vc [Zcb s t n.2.2.2.2.1[i]]<=Zam))=some ():=ZaQ (by simp only[Vl];omega);unfold Zcb ZdU at hg;simp only[Zav hi,cond_true,Zaf hi,bind_some,Zai hi (show _<=9223372036854775807 by omega)];rw[Va hi,List.filter_append,Vv];by_cases h: (n.2.2.2.2.1[i]).1=s
  ·rw[decide_eq_true h];simp only[cond_true];unfold Zcb ZdU;rw[hg];refine⟨_,rfl, ?_⟩;rw[Vqa,decide_eq_true h];rfl
  ·rw[decide_eq_false h];refine⟨_,rfl, ?_⟩;rw[Vqa,decide_eq_false h];simp
 ·rintro _ rfl;simp only[Zaw,cond_false,Vf];exact⟨_,rfl,rfl⟩
def ZfJ(n:Zat)(i b:Nat):List Zaq:=(Vs ((Zaj n i).length - (b+1))).map fun k=>Zbw n i b (b+1+k) false
def ZgJ(n:Zat)(s t:Int)(i b:Nat):List Zaq:=if (Zac n i b).1=s/\t<=(Zac n i b).2.2.1 then ZfJ n i b else []
def Zd0(n:Zat)(s t:Int)(i:Nat):List Zaq:=(Vs (Zaj n i).length).flatMap (ZgJ n s t i)
def Zcg(n:Zat)(s t:Int):List Zaq:=(Vs n.2.2.1.length).flatMap (Zd0 n s t)
theorem ZrM(hT:Tin n){i:Nat}(hi:i<n.2.2.1.length)(s t:Int)(b:Nat): (ZgJ n s t i b).length<=6:=by
 have:=hT.calls i hi;unfold ZgJ ZfJ;split
 ·rw[Vba,List.length_range];omega
 ·simp
theorem Zka(hT:Tin n){i:Nat}(hi:i<n.2.2.1.length)(s t:Int){b:Nat}(hb:b<=(Zaj n i).length): ((Vs b).flatMap (ZgJ n s t i)).length<=36:=by have h1:=hT.calls i hi;have h2:=ZjA (f:=ZgJ n s t i) (c:=6) (i:=b) fun j _=>ZrM hT hi s t j;have:b*6<=6*6:=Vya _ (by omega);omega
theorem Zet(hT:Tin n)(s t:Int){i:Nat}(hi:i<=n.2.2.1.length): ((Vs i).flatMap (Zd0 n s t)).length<=252:=by have h2:=ZjA (f:=Zd0 n s t) (c:=36) (i:=i) fun j hj=>Zka hT (show j<n.2.2.1.length by omega) s t (Vh _);have:=hT.runs;have:i*36<=7*36:=Vya _ (by omega);omega
theorem Zh9(hT:Tin n)(s t:Int):F100 n s t=some (Zcg n s t):=by
 have hr7:=hT.runs;unfold F100;refine Zbk (fun r=>r=Zcg n s t) ?_ (fun r hr=>by rw[hr]);refine⟨_,ZoH [] 0 n.2.2.1.length (Zd0 n s t) 0 rfl ?_ ?_,by rw[Vqc];rfl⟩
 ·intro i hi;have hc6:=hT.calls i hi;simp only[Vqc,Vcb];simp only[Zav hi,cond_true,idxR hi,bind_some,Zai hi (show _<=9223372036854775807 by omega)];have hl0:=Zet hT s t (show i<=n.2.2.1.length by omega);refine Zbk (fun r=>r=(Vs i).flatMap (Zd0 n s t)++Zd0 n s t i) ?_ (fun r hr=>by rw[hr]);refine⟨_,ZoH ((Vs i).flatMap (Zd0 n s t)) 0 (Zaj n i).length (ZgJ n s t i) 0 rfl ?_ ?_,rfl⟩
  ·intro b hb;have hl1:=Zka hT hi s t (show b<=(Zaj n i).length by omega)
   have hcl:decide (((0+b:Nat):Int)< ((rn n (i:Int)).2.2.2.2.2.2.2.1.length:Int))=true:=by rw[Vcb];exact Zav hb
   simp only[hcl,cond_true];rw[Vcb];have hw:Vd .i64 ((b:Int)+1)=((b+1:Nat):Int):=by rw[Zae (by omega) (by omega)];omega
   simp only[Zx1 hb,bind_some,hw];unfold ZgJ;by_cases h1: (Zac n i b).1=s
   ·rw[decide_eq_true h1];by_cases h2: (Zac n i b).2.2.1<t
    ·rw[decide_eq_true h2,if_neg (by omega)];simp
    ·rw[decide_eq_false h2,if_pos ⟨h1,by omega⟩];simp only[Vk,cond_false,bind_some];refine Zbk (fun r=>r=(Vs i).flatMap (Zd0 n s t)++(Vs b).flatMap (ZgJ n s t i)++ZfJ n i b) ?_ (fun r hr=>by rw[hr];rfl);refine⟨_,ZoH ((Vs i).flatMap (Zd0 n s t)++(Vs b).flatMap (ZgJ n s t i)) (b+1) ((Zaj n i).length - (b+1)) (fun k=>[Zbw n i b (b+1+k) false]) _ rfl ?_ ?_,by rw[Zls];rfl⟩
     ·intro k hk;have ha:b+1+k< (Zaj n i).length:=by omega
      have hcl2:decide (((b+1+k:Nat):Int)< ((rn n (i:Int)).2.2.2.2.2.2.2.1.length:Int))=true:=Zav ha;have hw2:Vd .i64 (((b+1+k:Nat):Int)+1)=((b+1+k+1:Nat):Int):=by rw[Zae (by omega) (by omega)];omega
      simp only[hcl2,cond_true,Zx1 ha,bind_some,hw2];rw[Zls];have hlk: ((Vs k).map fun k=>Zbw n i b (b+1+k) false).length<=6:=by simp;omega
      rw[ZaQ (by simp only[Ve,Vl];omega)];simp only[bind_some];unfold Zbw;rw[h1]
     ·have:decide (((b+1+((Zaj n i).length - (b+1)):Nat):Int)< ((rn n (i:Int)).2.2.2.2.2.2.2.1.length:Int))=false:=decide_eq_false (by have: (rn n (i:Int)).2.2.2.2.2.2.2.1.length=(Zaj n i).length:=rfl;omega)
      simp only[this,cond_false]
   ·rw[decide_eq_false h1,if_neg (fun h=>h1 h.1)];simp
  ·have:decide (((0+(Zaj n i).length:Nat):Int)< ((rn n (i:Int)).2.2.2.2.2.2.2.1.length:Int))=false:=decide_eq_false (by have: (rn n (i:Int)).2.2.2.2.2.2.2.1.length=(Zaj n i).length:=rfl;omega)
   simp only[this,cond_false]
 ·simp only[Vcb,Zaw,cond_false]
end Q
namespace Q
open Tr Go
open Option (bind_some)
variable {n:Zat}{q:Za5}
theorem ZpE(L:List Zaq)(x:Zaq)(h:L.length<=1000):F105 (L,()) x=some (L++[x],()):=by
 unfold F105
 have h1:Zan (decide (Vc ([]:List Unit)+Vc L<=Zam))=some ():=by rw[decide_eq_true (show Vc ([]:List Unit)+Vc L<=Zam by simp only[Vaa,Zam];omega)];rfl
 have h2:Zan (decide (Vc (([]:List Zaq)++L)+Vc [x]<=Zam))=some ():=ZaQ (by simp;omega);erw[h1];simp only[bind_some];erw[h2];rfl
def Zcv(r:Int):List Zaq->Bool
 | []=>false
 |y::l=>if y.2.1=r then true else if Za3 y=true then Zcv r l else false
def Zjb(L:List Zaq)(x:Zaq):Bool:=Za3 x&&Zcv x.2.1 L.reverse
theorem Zr9(L:List Zaq)(x:Zaq)(h:L.length<=1000):F89 (L,()) x=some (Zjb L x):=by
 unfold F89 Zjb
 have key: ∀k,k<=L.length->run (fun s0:Int=>
 Vq (bif decide ((0:Int)<=s0) then some x.2.2.2.2.2.2.2.2.1 else some false) fun x1=>
 bif x1 then
 Vq (idx L s0) fun x2=>
 bif decide (x2.2.1=x.2.1) then some (.inr (.inr true))
 else
 Vq (idx L s0) fun x3=>
 bif !x3.2.2.2.2.2.2.2.2.1 then some (.inr (.inr false)) else some (.inl (Vd .i64 (s0 - (1:Int))))
 else some (.inr (.inl ()))) ((k:Int) - 1)=some (if x.2.2.2.2.2.2.2.2.1=true/\Zcv x.2.1 (L.take k).reverse=true then(.inr true:Unit ⊕ Bool) else if x.2.2.2.2.2.2.2.2.1=true/\ ∃y∈L.take k,Za3 y=false then .inr false else .inl ()):=by
  intro k
  induction k with
  |zero=>
   intro _;refine(ZbC (r:= .inl ()) ?_).trans ?_
   ·rw[decide_eq_false (show¬ (0:Int)<=((0:Nat):Int) - 1 by omega)];rfl
   ·simp [Zcv]
  |succ k ih=>
   intro hk;have hkl:k<L.length:=by omega
   have ec: ((k+1:Nat):Int) - 1=(k:Int):=by omega
   rw[ec];have etk:L.take (k+1)=L.take k++[L[k]]:=Va hkl;have et: (L.take (k+1)).reverse=L[k]::(L.take k).reverse:=by rw[etk,Vkb];rfl
   have h0:decide ((0:Int)<=(k:Int))=true:=decide_eq_true (by omega)
   cases hs:x.2.2.2.2.2.2.2.2.1 with
   |false=>
    refine(ZbC (r:= .inl ()) ?_).trans ?_
    ·rw[h0];rfl
    ·simp
   |true=>
    rw[et];by_cases h1: (L[k]).2.1=x.2.1
    ·refine(ZbC (r:= .inr true) ?_).trans ?_
     ·rw[h0];simp only[cond_true,bind_some,Zaf hkl,decide_eq_true h1]
     ·simp [Zcv,h1]
    ·cases h2:Za3 L[k] with
     |false=>
      have h2' : (L[k]).2.2.2.2.2.2.2.2.1=false:=h2;refine(ZbC (r:= .inr false) ?_).trans ?_
      ·rw[h0];simp only[cond_true,bind_some,Zaf hkl,decide_eq_false h1,cond_false,h2',Vu]
      ·rw[if_neg (by simp [Zcv,h1,h2]),if_pos ⟨rfl,L[k],by rw[etk];exact Vca _ (Vg.2 rfl),h2⟩]
     |true=>
      have h2' : (L[k]).2.2.2.2.2.2.2.2.1=true:=h2;have hw:Vd .i64 ((k:Int) - 1)=(k:Int) - 1:=Zae (by omega) (by omega);refine(ZcI (s' :=(k:Int) - 1) ?_).trans ?_
      ·rw[h0];simp only[cond_true,bind_some,Zaf hkl,decide_eq_false h1,cond_false,h2',Vk,hw]
      have h3:=ih (by omega);rw[hs]at h3;rw[h3]
      have e: (∃y∈L.take (k+1),Za3 y=false)↔ ∃y∈L.take k,Za3 y=false:=by
       rw[etk];constructor
       ·rintro ⟨y,hy,h3⟩;rcases Vm.1 hy with hy|hy
        ·exact⟨y,hy,h3⟩
        ·rw[Vg.1 hy,h2]at h3;cases h3
       ·rintro ⟨y,hy,h3⟩;exact⟨y,Vx _ hy,h3⟩
      have eg:Zcv x.2.1 (L[k]::(L.take k).reverse)=Zcv x.2.1 (L.take k).reverse:=by
       show (if (L[k]).2.1=x.2.1 then true else if Za3 L[k]=true then _ else false)=_
       rw[if_neg h1,if_pos h2]
      rw[eg];simp only[true_and,e]
 have hw:Vd .i64 ((L.length:Int) - 1)=(L.length:Int) - 1:=Zae (by omega) (by omega);rw[hw,key L.length (Vh _),Vf];simp only[bind_some]
 cases hs:x.2.2.2.2.2.2.2.2.1 with
 |false=>
  have:Za3 x=false:=hs
  rw[this];simp
 |true=>
  have:Za3 x=true:=hs;rw[this]
  cases hg:Zcv x.2.1 L.reverse with
  |true=>simp
  |false=>
   simp only[Vsa,true_and];rw[if_neg (by simp)]
   split<;>rfl
theorem Zoh{L:List Zaq}(hl:L.length<=1000):F101 (L,())=some (Zal L:Int):=by
 unfold F101;refine Zbk (fun r=>r=(Zal L:Int)) ?_ (fun r hr=>by rw[hr]);refine ZaL L.length _ (fun i (st:Int×Int)=>st=((Zal (L.take i):Int),(i:Int))) ?_ ?_ _ rfl
 ·rintro i _ hi rfl;left
  have hb:Zal (L.take i)<=L.length:=by unfold Zal;have:=Vma ZeB (L.take i);rw[Vw]at this;omega
  have w1:Vd .i64 ((Zal (L.take i):Int)+1)=((Zal (L.take i)+1:Nat):Int):=by rw[Zae (by omega) (by omega)];omega
  simp only[Zav hi,cond_true,Zaf hi,bind_some,Zai hi (show _<=9223372036854775807 by omega),w1];rw[Va hi,Zbc]
  have e:Zal [L[i]]=if ZeB L[i] then 1 else 0:=by
   unfold Zal
   cases h:ZeB L[i]<;>simp [h]
  rw[e];unfold ZeB Za3
  cases L[i].1 with
  |false=>exact⟨_,rfl,rfl⟩
  |true=>
   cases L[i].2.2.2.2.2.2.2.2.1 with
   |true=>exact⟨_,rfl,rfl⟩
   |false=>exact⟨_,rfl,rfl⟩
 ·rintro _ rfl;simp only[Zaw,cond_false,Vf];exact⟨_,rfl,rfl⟩
def Zoy(n:Zat)(q:Za5)(L:List Zaq)(i:Nat):Prop:=atE n q L i=0\/(i+1=L.length/\(atE n q L i=26\/atE n q L i=29))
def ZlO(n:Zat)(q:Za5)(L:List Zaq):Prop:=(∀i,i<L.length->Zoy n q L i)/\(Zal L:Int)<=q.2.2.2.2.1/\ZeT L<=q.2.2.2.2.2.1/\(q.2.2.2.1=true->(lg L (L.length - 1)).2.2.2.2.2.2.2.1<=q.2.2.1)
theorem ZnG(hS:Zct n)(hp:n.2.2.2.2.1.length<=4096)(hq:inR q.1 n.1.length=true){L:List Zaq}(h0:0<L.length)(hj:L.length<=1000): ∃b,F95 n q (L,())=some b/\(b=true↔ZlO n q L):=by
 unfold F95;refine ZwM (fun r:Unit ⊕ Bool=>(r= .inl ()/\ ∀i,i<L.length->Zoy n q L i)\/(r= .inr false/\ ¬ ∀i,i<L.length->Zoy n q L i)) ?_ ?_
 rotate_left
 ·rintro r (⟨rfl,ha⟩ | ⟨rfl,ha⟩)
  ·simp only[Sum.elim_inl,Zoh hj,bind_some,Zg3 L hj];by_cases h1: (Zal L:Int)<=q.2.2.2.2.1
   ·rw[decide_eq_true h1];by_cases h2:ZeT L<=q.2.2.2.2.2.1
    ·rw[decide_eq_true h2]
     cases hb:q.2.2.2.1 with
     |false=>exact⟨true,rfl,by simp only[true_iff];exact⟨ha,h1,h2,fun e=>by rw[hb]at e;cases e⟩⟩
     |true=>
      have w1:Vd .i64 ((L.length:Int) - 1)=((L.length - 1:Nat):Int):=by rw[Zae (by omega) (by omega)];omega
      simp only[cond_true,Vk,cond_false,w1,Zfd (show L.length - 1<L.length by omega),bind_some];refine⟨_,rfl, ?_⟩;rw[decide_eq_true_eq];exact⟨fun h=>⟨ha,h1,h2,fun _=>h⟩,fun h=>h.2.2.2 hb⟩
    ·rw[decide_eq_false h2];exact⟨false,rfl,by simp only[Vn,false_iff];exact fun h=>h2 h.2.2.1⟩
   ·rw[decide_eq_false h1];exact⟨false,rfl,by simp only[Vn,false_iff];exact fun h=>h1 h.2.1⟩
  ·exact⟨false,rfl,by simp only[Vn,false_iff];exact fun h=>ha h.1⟩
 refine ZaL L.length _ (fun i (st:Int)=>st=(i:Int)/\ ∀j,j<i->Zoy n q L j) ?_ ?_ _ ⟨rfl,fun j hj=>absurd hj (Vfb j)⟩
 ·rintro i _ hi ⟨rfl,ha⟩;simp only[Zav hi,cond_true,Zmv hS hp hq hi hj,bind_some,Zai hi (show _<=9223372036854775807 by omega)]
  have hyes:Zoy n q L i-> ∀j,j<i+1->Zoy n q L j:=fun h j hj=>by
   by_cases e:j=i
   ·subst e;exact h
   ·exact ha j (by omega)
  by_cases h1:atE n q L i=0
  ·left;rw[decide_eq_true h1];exact⟨_,rfl,rfl,hyes (.inl h1)⟩
  ·rw[decide_eq_false h1];by_cases h2:i+1<L.length
   ·right;rw[decide_eq_true (show ((i+1:Nat):Int)< (L.length:Int) by omega)]
    exact⟨_,rfl, .inr ⟨rfl,fun h=>by
     rcases h i hi with h|h
     ·exact h1 h
     ·omega⟩⟩
   ·rw[decide_eq_false (show¬ ((i+1:Nat):Int)< (L.length:Int) by omega)];by_cases h3:atE n q L i=26
    ·left;rw[decide_eq_true h3];exact⟨_,rfl,rfl,hyes (.inr ⟨by omega, .inl h3⟩)⟩
    ·rw[decide_eq_false h3];by_cases h4:atE n q L i=29
     ·left;rw[decide_eq_true h4];exact⟨_,rfl,rfl,hyes (.inr ⟨by omega, .inr h4⟩)⟩
     ·right;rw[decide_eq_false h4]
      exact⟨_,rfl, .inr ⟨rfl,fun h=>by
       rcases h i hi with h| ⟨_,h|h⟩
       ·exact h1 h
       ·exact h3 h
       ·exact h4 h⟩⟩
 ·rintro _ ⟨rfl,ha⟩;simp only[Zaw,cond_false];exact⟨_,rfl, .inl ⟨rfl,ha⟩⟩
end Q
namespace Q
open Tr Go
open Option (bind_some)
variable {n:Zat}{q:Za5}
def Zb9(x:Zaq):Zaq:=(x.1,x.2.1,x.2.2.1,x.2.2.2.1,x.2.2.2.2.1,x.2.2.2.2.2.1,x.2.2.2.2.2.2.1,x.2.2.2.2.2.2.2.1,true,x.2.2.2.2.2.2.2.2.2)
def ZbY(n:Zat)(x:Zaq):List Zaq:=Zcg n x.2.2.2.2.2.1 x.2.2.2.2.2.2.2.1++if x.1=true then Zb2 n x.2.2.2.2.2.1 x.2.2.2.2.2.2.2.1 else []
def Zp5(n:Zat)(q:Za5)(L:List Zaq)(l:Zaq):List (List Zaq×Unit):=if atE n q (L++[l]) (L.length - 1)=0/\atE n q (L++[l]) L.length≠28 then [(L++[l],())] else []
def ZmK(n:Zat)(L:List Zaq)(x l:Zaq):List (List Zaq×Unit):=if (l.1=true/\l.2.2.1=0/\x.1=true)/\Zjb L (Zb9 l)=false/\Zbj n x (Zb9 l)=0 then [(L++[Zb9 l],())] else []
def Zpx(n:Zat)(q:Za5)(L:List Zaq)(x l:Zaq):List (List Zaq×Unit):=Zp5 n q L l++ZmK n L x l
def Znx(n:Zat)(q:Za5)(L:List Zaq):List (List Zaq×Unit):=(ZbY n (lg L (L.length - 1))).flatMap (Zpx n q L (lg L (L.length - 1)))
theorem Zu1(L:List Zaq)(x l:Zaq): (Zpx n q L x l).length<=2:=by
 unfold Zpx Zp5 ZmK;rw[Ve]
 split<;>split<;>simp
theorem Zds{α β:Type}{f:α->List β}{c:Nat}(h: ∀x,(f x).length<=c): ∀l:List α,(l.flatMap f).length<=l.length*c
 | []=>by simp
 |x::l=>by have:=Zds h l;have h2:=h x;rw[Vrb,Ve,Vy,Vsb];omega
theorem ZfW(hT:Tin n)(s t:Int): (Zb2 n s t).length<=60:=by unfold Zb2;rw[Vba];exact Vt (Vma _ _) hT.paths
theorem Zp2(hT:Tin n)(x:Zaq): (ZbY n x).length<=312:=by
 unfold ZbY;rw[Ve];have h1:=Zet hT x.2.2.2.2.2.1 x.2.2.2.2.2.2.2.1 (Vh _);have h2:=ZfW hT x.2.2.2.2.2.1 x.2.2.2.2.2.2.2.1;unfold Zcg;split
 ·omega
 ·simp only[Vaa];omega
theorem ZfM{s t:Int}{x:Zaq}(h:x∈Zcg n s t): ∃i b c,i<n.2.2.1.length/\b<c/\c< (Zaj n i).length/\(Zac n i b).1=s/\t<=(Zac n i b).2.2.1/\x=Zbw n i b c false:=by
 unfold Zcg at h;obtain⟨i,hi,h⟩:=Vo.1 h;unfold Zd0 at h;obtain⟨b,hb,h⟩:=Vo.1 h;rw[Vxa]at hi hb;unfold ZgJ at h;split at h
 ·next hc=>
  unfold ZfJ at h;obtain⟨k,hk,rfl⟩:=Vra.1 h;rw[Vxa]at hk;exact⟨i,b,b+1+k,hi,by omega,by omega,hc.1,hc.2,rfl⟩
 ·exact absurd h (by simp)
theorem Zf6{s t:Int}{x:Zaq}(h:x∈Zb2 n s t): ∃p∈n.2.2.2.2.1,p.1=s/\x=Zcb s t p:=by unfold Zb2 at h;obtain⟨p,hp,rfl⟩:=Vra.1 h;rw[Vhb,decide_eq_true_eq]at hp;exact⟨p,hp.1,hp.2,rfl⟩
theorem Zs9(hN:Zcu n){x l:Zaq}(h:l∈ZbY n x)(hl:l.1=true):inR (Zb9 l).2.2.2.2.1 n.1.length=true:=by
 unfold ZbY at h;rcases Vm.1 h with h|h
 ·obtain⟨i,b,c,h1,h2,h3,h4,h5,rfl⟩:=ZfM h;have:=hN.stop h1 (show b< (Zaj n i).length by omega);exact Zef.2 this
 ·split at h
  ·obtain⟨p,hp,_,rfl⟩:=Zf6 h;cases hl
  ·exact absurd h (by simp)
theorem Zqe(hT:Tin n)(hN:Zcu n)(hlk:n.2.2.2.1.length<=4096)(hq:inR q.1 n.1.length=true){L:List Zaq}(h0:0<L.length)(hj:L.length<=900):F92 n q (L,())=some (Znx n q L):=by
 have hpp:n.2.2.2.2.1.length<=4096:=by have:=hT.paths;omega
 unfold F92;have w1:Vd .i64 ((L.length:Int) - 1)=((L.length - 1:Nat):Int):=by rw[Zae (by omega) (by omega)];omega
 simp only[w1,Zfd (show L.length - 1<L.length by omega),bind_some,Zh9 hT];unfold Znx;generalize hx:lg L (L.length - 1)=x;have hnl:=Zp2 hT x;have hr:=Zet hT x.2.2.2.2.2.1 x.2.2.2.2.2.2.2.1 (Vh _);have hr' : (Zcg n x.2.2.2.2.2.1 x.2.2.2.2.2.2.2.1).length<=252:=hr;have hw:=ZfW hT x.2.2.2.2.2.1 x.2.2.2.2.2.2.2.1;refine Zbk (fun r:List (List Zaq×Unit) ×List Zaq=>r=([],ZbY n x)) ?_ ?_
 ·unfold ZbY
  cases h1:x.1 with
  |true=>
   simp only[cond_true,Zfx hpp,bind_some,if_true];rw[ZaQ (by omega)]
   exact⟨_,rfl,rfl⟩
  |false=>exact⟨_,rfl,by simp⟩
 rintro _ rfl;refine Zbk (fun r=>r=(ZbY n x).flatMap (Zpx n q L x)) ?_ (fun r hr=>by rw[hr]);have hmem: ∀i (hi:i< (ZbY n x).length),(ZbY n x)[i]∈ZbY n x:=fun i hi=>Vj hi;have hfr:=fun i (hi:i< (ZbY n x).length)=>Zs9 hN (hmem i hi);generalize ZbY n x=N at*;refine ZaL N.length _ (fun i (st:List (List Zaq×Unit) ×List Zaq×Int)=> ∃cur,st=((N.take i).flatMap (Zpx n q L x),cur,(i:Int))/\cur.length=N.length/\ ∀k,i<=k->cur[k]? =N[k]?) ?_ ?_ _ ⟨N,rfl,rfl,fun _ _=>rfl⟩
 ·rintro i _ hi ⟨cur,rfl,hc1,hc2⟩;left;have hci:i<cur.length:=by omega
  have hxi:cur[i]? =some N[i]:=by rw[hc2 i (Vh _),Vb hi]
  have hol: ((N.take i).flatMap (Zpx n q L x)).length<=700:=by have:=Zds (f:=Zpx n q L x) (c:=2) (fun l=>Zu1 L x l) (N.take i);rw[Vw]at this;omega
  have hfi:=hfr i hi;have hdi:decide ((i:Int)< (cur.length:Int))=true:=decide_eq_true (by omega)
  have et: (N.take (i+1)).flatMap (Zpx n q L x)=(N.take i).flatMap (Zpx n q L x)++Zpx n q L x N[i]:=by rw[Va hi,Vz];simp
  have hrest: ∀v k,i+1<=k->(cur.set i v)[k]? =N[k]? :=fun v k hk=>by rw[Vfc (by omega)];exact hc2 k (by omega)
  rw[et];generalize hO: (N.take i).flatMap (Zpx n q L x)=O at*;generalize hl:N[i]=l at*;have ha1:F90 n q (L++[l],()) ((L.length - 1:Nat):Int)=some (atE n q (L++[l]) (L.length - 1)):=Zmv hN.sound hpp hq (by simp;omega) (by simp;omega);have ha2:F90 n q (L++[l],()) (L.length:Int)=some (atE n q (L++[l]) L.length):=Zmv hN.sound hpp hq (by simp) (by simp;omega);simp only[hdi,cond_true,ZaB hci,bind_some,hxi,ZpE L l (by omega),ha1,ha2];refine ZhF (fun b=>b=decide (atE n q (L++[l]) (L.length - 1)=0/\atE n q (L++[l]) L.length≠28)) ?_ ?_
  ·by_cases c1:atE n q (L++[l]) (L.length - 1)=0
   ·rw[decide_eq_true c1];by_cases c2:atE n q (L++[l]) L.length=28
    ·rw[decide_eq_true c2];exact⟨_,rfl,by simp [c2]⟩
    ·rw[decide_eq_false c2];exact⟨_,rfl,by simp [c1,c2]⟩
   ·rw[decide_eq_false c1];exact⟨_,rfl,by simp [c1]⟩
  rintro _ rfl;refine ZhF (fun r:List (List Zaq×Unit) ×List Zaq=>r=(O++Zp5 n q L l,cur)) ?_ ?_
  ·unfold Zp5;by_cases c:atE n q (L++[l]) (L.length - 1)=0/\atE n q (L++[l]) L.length≠28
   ·rw[decide_eq_true c,if_pos c];simp only[cond_true];rw[ZaQ (by simp;omega)];exact⟨_,rfl,rfl⟩
   ·rw[decide_eq_false c,if_neg c];exact⟨_,rfl,by simp⟩
  rintro _ rfl
  have hal: (Zp5 n q L l).length<=1:=by unfold Zp5;split<;>simp
  refine ZhF (fun b=>b=decide (l.1=true/\l.2.2.1=0/\x.1=true)) ?_ ?_
  ·simp only[ZaB hci,bind_some,hxi]
   cases c1:l.1 with
   |false=>exact⟨_,rfl,by simp⟩
   |true=>
    simp only[cond_true];by_cases c2:l.2.2.1=0
    ·rw[decide_eq_true c2];exact⟨_,rfl,by simp [c2]⟩
    ·rw[decide_eq_false c2];exact⟨_,rfl,by simp [c2]⟩
  rintro _ rfl;unfold Zpx;rw[<-Vea];by_cases c:l.1=true/\l.2.2.1=0/\x.1=true
  ·rw[decide_eq_true c];have hset: (cur.set i (Zb9 l))[i]? =some (Zb9 l):=Zn5 hci _;have hsl:i< (cur.set i (Zb9 l)).length:=by rw[Vta];exact hci
   have hset' :=hset;have hsl' :=ZaB hsl;unfold Zb9 at hset' hsl';simp only[cond_true,ZaB hci,bind_some,hxi,hsl',hset'];have hf:Zbj n x (Zb9 l)=Zbj n x (Zb9 l):=rfl;have ew:F105 (L,()) (l.1,l.2.1,l.2.2.1,l.2.2.2.1,l.2.2.2.2.1,l.2.2.2.2.2.1,l.2.2.2.2.2.2.1,l.2.2.2.2.2.2.2.1,true,l.2.2.2.2.2.2.2.2.2)=some (L++[Zb9 l],()):=ZpE L (Zb9 l) (by omega);have ea:F89 (L,()) (l.1,l.2.1,l.2.2.1,l.2.2.2.1,l.2.2.2.2.1,l.2.2.2.2.2.1,l.2.2.2.2.2.2.1,l.2.2.2.2.2.2.2.1,true,l.2.2.2.2.2.2.2.2.2)=some (Zjb L (Zb9 l)):=Zr9 L (Zb9 l) (by omega);have ef:F94 n x (l.1,l.2.1,l.2.2.1,l.2.2.2.1,l.2.2.2.2.1,l.2.2.2.2.2.1,l.2.2.2.2.2.2.1,l.2.2.2.2.2.2.2.1,true,l.2.2.2.2.2.2.2.2.2)=some (Zbj n x (Zb9 l)):=ZkJ hlk (hfi c.1)
   simp only[ew,ea,bind_some];unfold ZmK
   cases hag:Zjb L (Zb9 l) with
   |true=>
    rw[if_neg (fun h=>by cases h.2.1)];simp only[Vk,cond_false,bind_some];rw[Zai hi (by omega)]
    exact⟨_,rfl,_,by rw[Vfa],by rw[Vta];exact hc1,fun k hk=>hrest _ k hk⟩
   |false=>
    simp only[Vu,cond_true,ef,bind_some];by_cases hfo:Zbj n x (Zb9 l)=0
    ·rw[decide_eq_true hfo,if_pos (by exact⟨c,by simp,hfo⟩)];simp only[cond_true];rw[ZaQ (by simp;omega),Zai hi (by omega)];exact⟨_,rfl,_,rfl,by rw[Vta];exact hc1,fun k hk=>hrest _ k hk⟩
    ·rw[decide_eq_false hfo,if_neg (fun h=>hfo h.2.2)];simp only[cond_false];rw[Zai hi (by omega)];exact⟨_,rfl,_,by rw[Vfa],by rw[Vta];exact hc1,fun k hk=>hrest _ k hk⟩
  ·rw[decide_eq_false c];unfold ZmK;rw[if_neg (fun h=>c h.1),Vfa,Zai hi (by omega)];exact⟨_,rfl,_,rfl,hc1,fun k hk=>hc2 k (by omega)⟩
 ·rintro _ ⟨cur,rfl,hc1,hc2⟩;have:decide ((N.length:Int)< (cur.length:Int))=false:=decide_eq_false (by omega);simp only[this,cond_false];exact⟨_,rfl,by rw[Vf]⟩
def ZmL(q:Za5):Int:=if q.2.2.2.1=true then 0 else q.2.2.1
def Zju(w x:Zaq):Zaq:=(w.1,w.2.1,w.2.2.1,w.2.2.2.1,w.2.2.2.2.1,w.2.2.2.2.2.1,Vd .i64 (x.2.2.2.2.2.2.1 - w.2.2.2.2.2.2.2.1),x.2.2.2.2.2.2.1,w.2.2.2.2.2.2.2.2)
def Zd8(n:Zat)(q:Za5):List (List Zaq×Unit):=(Zcg n q.1 (ZmL q)).map fun x=>([x],())
def ZcO(n:Zat)(q:Za5)(w:Zaq):List (List Zaq×Unit):=(Zcg n w.2.2.2.2.2.1 (ZmL q)).map fun x=>([Zju w x,x],())
def Zeo(n:Zat)(q:Za5):List (List Zaq×Unit):=Zd8 n q++(Zb2 n q.1 0).flatMap (ZcO n q)
theorem Zko(hT:Tin n)(w:Zaq): (ZcO n q w).length<=252:=by unfold ZcO;rw[Vba];exact Zet hT _ _ (Vh _)
theorem ZrA(hT:Tin n):F102 n q=some (Zeo n q):=by
 have hpp:n.2.2.2.2.1.length<=4096:=by have:=hT.paths;omega
 unfold F102 Zeo
 have ef: (bif q.2.2.2.1 then some (0:Int) else some q.2.2.1)=some (ZmL q):=by unfold ZmL;cases q.2.2.2.1<;>rfl
 rw[ef];simp only[bind_some,Zh9 hT,Zfx hpp];have hw:=ZfW hT q.1 0
 have h1l: (Zd8 n q).length<=252:=by unfold Zd8;rw[Vba];exact Zet hT _ _ (Vh _)
 refine Zbk (fun r=>r=Zd8 n q) ?_ ?_
 ·unfold Zd8 at h1l ⊢;rw[Vba]at h1l;generalize Zcg n q.1 (ZmL q)=N at*;refine ZaL N.length _ (fun i (st:List (List Zaq×Unit) ×List Zaq×Int)=>st=((N.take i).map (fun x=>([x],())),N,(i:Int))) ?_ ?_ _ rfl
  ·rintro i _ hi rfl;left;simp only[Zav hi,cond_true,ZaB hi,bind_some,Vb hi,Zai hi (show _<=9223372036854775807 by omega)];rw[ZaQ (by simp;omega)];refine⟨_,rfl, ?_⟩;rw[Va hi,Vv];rfl
  ·rintro _ rfl;simp only[Zaw,cond_false,Vf];exact⟨_,rfl,rfl⟩
 rintro _ rfl;refine Zbk (fun r=>r=Zd8 n q++(Zb2 n q.1 0).flatMap (ZcO n q)) ?_ (fun r hr=>by rw[hr]);generalize Zb2 n q.1 0=W at*;refine ZaL W.length _ (fun i (st:List (List Zaq×Unit) ×Int)=>st=(Zd8 n q++(W.take i).flatMap (ZcO n q),(i:Int))) ?_ ?_ _ (by simp)
 ·rintro i _ hi rfl;left;simp only[Zav hi,cond_true,Zaf hi,bind_some,Zai hi (show _<=9223372036854775807 by omega)]
  have hfl: ((W.take i).flatMap (ZcO n q)).length<=60*252:=by have:=Zds (f:=ZcO n q) (c:=252) (fun w=>Zko hT w) (W.take i);rw[Vw]at this;have h3:min i W.length*252<=60*252:=Vya _ (by omega);exact Vt this h3
  refine ZhF (fun r=>r=Zd8 n q++(W.take i).flatMap (ZcO n q)++ZcO n q W[i]) ?_ ?_
  ·have hsl:=Zko (q:=q) hT W[i];have hOl: (Zd8 n q++(W.take i).flatMap (ZcO n q)).length<=252+60*252:=by rw[Ve];omega
   generalize Zd8 n q++(W.take i).flatMap (ZcO n q)=O at*;unfold ZcO at hsl ⊢;rw[Vba]at hsl;generalize Zcg n (W[i]).2.2.2.2.2.1 (ZmL q)=N at*;refine ZaL N.length _ (fun k (st:List (List Zaq×Unit) ×List Zaq×Int)=>st=(O++(N.take k).map (fun x=>([Zju W[i] x,x],())),N,(k:Int))) ?_ ?_ _ (by simp)
   ·rintro k _ hk rfl;left;simp only[Zav hk,cond_true,ZaB hk,bind_some,Vb hk,Zai hk (show _<=9223372036854775807 by omega)];have hln: ((N.take k).map (fun x=>(([Zju W[i] x,x],()):List Zaq×Unit))).length<=252:=by rw[Vba,Vw];omega
    rw[ZaQ (by simp only[Ve,Vl];omega)];refine⟨_,rfl, ?_⟩;rw[Va hk,Vv, <-Vea];rfl
   ·rintro _ rfl;simp only[Zaw,cond_false,Vf];exact⟨_,rfl,rfl⟩
  ·rintro _ rfl;refine⟨_,rfl, ?_⟩;rw[Va hi,Vz, <-Vea];simp
 ·rintro _ rfl;simp only[Zaw,cond_false,Vf];exact⟨_,rfl,rfl⟩
end Q
namespace Q
open Tr Go
open Option (bind_some)
variable {n:Zat}{q:Za5}
noncomputable def ZqS(n:Zat):Int->Option Int:=nxL n n.2.2.2.1.length
def Rch(n:Zat)(a b:Int):Prop:= ∃k,orb (ZqS n) a (k+1)=some b
theorem Zr8(f:Int->Option Int): ∀ (k:Nat) {a b c:Int}{l:Nat},orb f a k=some b->orb f b l=some c->orb f a (k+l)=some c
 |0,a,b,c,l,h1,h2=>by
  have:a=b:=Option.some.inj h1
  rw[this,Vcb];exact h2
 |k+1,a,b,c,l,h1,h2=>by have h1' : (f a).bind (fun b=>orb f b k)=some b:=h1;obtain⟨a',e1,e2⟩:=Option.bind_eq_some_iff.1 h1';have:=Zr8 f k e2 h2;rw[show k+1+l=(k+l)+1 by omega];show (f a).bind (fun b=>orb f b (k+l))=some c;rw[e1];exact this
theorem Rch.trans{a b c:Int}(h1:Rch n a b)(h2:Rch n b c):Rch n a c:=by obtain⟨k,h1⟩:=h1;obtain⟨l,h2⟩:=h2;exact⟨k+l+1,by rw[show k+l+1+1=(k+1)+(l+1) by omega];exact Zr8 _ _ h1 h2⟩
theorem Rch.one{a b:Int}(h:ZqS n a=some b):Rch n a b:=⟨0,by show (ZqS n a).bind (fun b=>some b)=some b;rw[h];rfl⟩
theorem Rch.irr(h:Whole n){a:Int} : ¬Rch n a a:=by rintro ⟨k,hk⟩;exact ZpP (Zf7 (fun j hj=>Zaz.1 h.g j hj) a) k hk
theorem ZeI(h:Whole n){i c j d:Nat}(hl:isLink n i c j d true):ZqS n (i:Int)=some (j:Int):=by
 obtain⟨a,ha,he⟩:=Vjb hl;have ea:lk n a=((i:Int),(c:Int),(j:Int),(d:Int),true,()):=by unfold lk;rw[Zak ha,he]
 cases hs:ZqS n (i:Int) with
 |none=>
  have:=Zoz hs a ha (by rw[ea]);rw[ea]at this
  exact absurd rfl this
 |some b=>
  obtain⟨a',h1,h2,h3,h4⟩:=Zjc hs
  have:a' =a:=by
   rcases Nat.lt_trichotomy a' a with hlt|rfl|hlt
   ·have:=(Zeu (Zaz.1 h.g a ha)).2.2 (by rw[ea]);exact absurd ⟨a',hlt,h2, .inl (by rw[h3,ea])⟩ this.1
   ·rfl
   ·have:=(Zeu (Zaz.1 h.g a' h1)).2.2 h2;exact absurd ⟨a,hlt,by rw[ea], .inl (by rw[h3,ea])⟩ this.1
  rw[this,ea]at h4;rw[<-h4]
open Classical in
noncomputable def ZlI(n:Zat)(a b:Nat):Nat:=if Rch n (a:Int) (b:Int) then 1 else 0
noncomputable def rnk(n:Zat)(a:Nat):Nat:=ZlI n a 0+ZlI n a 1+ZlI n a 2+ZlI n a 3+ZlI n a 4+ZlI n a 5+ZlI n a 6
theorem Zwf(a b:Nat):ZlI n a b<=1:=by unfold ZlI;split<;>omega
theorem ZpF(h:Whole n)(a:Nat):ZlI n a a=0:=by unfold ZlI;rw[if_neg (Rch.irr h)]
theorem Zs5(h:Whole n)(a b:Nat):ZlI n a b+ZlI n b a<=1:=by
 unfold ZlI;by_cases h1:Rch n (a:Int) (b:Int)
 ·rw[if_pos h1,if_neg (fun h2=>Rch.irr h (h1.trans h2))];omega
 ·rw[if_neg h1];split<;>omega
theorem Zpe(a:Nat):rnk n a<=7:=by have:=fun b=>Zwf (n:=n) a b;have h0:=this 0;have h1:=this 1;have h2:=this 2;have h3:=this 3;have h4:=this 4;have h5:=this 5;have h6:=this 6;unfold rnk;omega
theorem ZvF(h:Whole n):rnk n 0+rnk n 1+rnk n 2+rnk n 3+rnk n 4+rnk n 5+rnk n 6<=21:=by have a:=Zs5 h;have i:=ZpF h;have i0:=i 0;have i1:=i 1;have i2:=i 2;have i3:=i 3;have i4:=i 4;have i5:=i 5;have i6:=i 6;have a01:=a 0 1;have a02:=a 0 2;have a03:=a 0 3;have a04:=a 0 4;have a05:=a 0 5;have a06:=a 0 6;have a12:=a 1 2;have a13:=a 1 3;have a14:=a 1 4;have a15:=a 1 5;have a16:=a 1 6;have a23:=a 2 3;have a24:=a 2 4;have a25:=a 2 5;have a26:=a 2 6;have a34:=a 3 4;have a35:=a 3 5;have a36:=a 3 6;have a45:=a 4 5;have a46:=a 4 6;have a56:=a 5 6;unfold rnk;omega
theorem Zta(h:Whole n){i j:Nat}(hj:j<7)(hs:ZqS n (i:Int)=some (j:Int)):rnk n j+1<=rnk n i:=by
 have hr:=Rch.one hs
 have hm: ∀k,ZlI n j k<=ZlI n i k:=fun k=>by
  unfold ZlI;by_cases h1:Rch n (j:Int) (k:Int)
  ·rw[if_pos h1,if_pos (hr.trans h1)];exact Vh _
  ·rw[if_neg h1];exact Vda _
 have h1:ZlI n i j=1:=by unfold ZlI;rw[if_pos hr]
 have h0:=ZpF h j;have m0:=hm 0;have m1:=hm 1;have m2:=hm 2;have m3:=hm 3;have m4:=hm 4;have m5:=hm 5;have m6:=hm 6;unfold rnk;have hc:j=0\/j=1\/j=2\/j=3\/j=4\/j=5\/j=6:=by omega
 rcases hc with rfl|rfl|rfl|rfl|rfl|rfl|rfl<;>omega
def ZbH:Nat->(Nat->Nat)->Nat
 |0,_=>0
 |m+1,f=>ZbH m f+f m
theorem ZbJ{f g:Nat->Nat} : ∀ {m:Nat},(∀i,i<m->f i<=g i)->ZbH m f<=ZbH m g
 |0,_=>Vh _
 |m+1,h=>Vcc (ZbJ fun i hi=>h i (by omega)) (h m (by omega))
theorem Zez(f g:Nat->Nat): ∀m,ZbH m (fun i=>f i+g i)=ZbH m f+ZbH m g
 |0=>rfl
 |m+1=>by show ZbH m _+(f m+g m)=(ZbH m f+f m)+(ZbH m g+g m);rw[Zez f g m];omega
theorem Zel(c:Nat)(f:Nat->Nat): ∀m,ZbH m (fun i=>c*f i)=c*ZbH m f
 |0=>rfl
 |m+1=>by show ZbH m _+_=c* (ZbH m f+f m);rw[Zel c f m,Nat.mul_add]
theorem Zdp{f:Nat->Nat} : ∀ {m:Nat},(∀i,i<m->f i=0)->ZbH m f=0
 |0,_=>rfl
 |m+1,h=>by show ZbH m f+f m=0;rw[Zdp fun i hi=>h i (by omega),h m (by omega)]
theorem Zhj{f:Nat->Nat}{j:Nat} : ∀ {m:Nat},(∀i,i<m->i≠j->f i=0)->ZbH m f<=f j
 |0,_=>Vda _
 |m+1,h=>by
  show ZbH m f+f m<=f j;by_cases e:m=j
  ·subst e;rw[Zdp fun i hi=>h i (by omega) (by omega)];omega
  ·rw[h m (by omega) e];exact Zhj fun i hi he=>h i (by omega) he
theorem ZgI(c:Nat): ∀m,ZbH m (fun _=>c)=m*c
 |0=>by simp [ZbH]
 |m+1=>by show ZbH m _+c=_;rw[ZgI c m,Vsb]
theorem ZfR{β:Type}(w:β->Nat)(f:Nat->List β): ∀m,(((Vs m).flatMap f).map w).sum=ZbH m fun i=>((f i).map w).sum
 |0=>rfl
 |m+1=>by
  have e: [m].flatMap f=f m:=by simp
  rw[Vgb,Vz,Vv,Via,ZfR w f m,e];rfl
theorem ZlK{β:Type}(w:β->Nat)(f:Nat->β): ∀m,(((Vs m).map f).map w).sum=ZbH m fun i=>w (f i)
 |0=>rfl
 |m+1=>by rw[Vgb,Vv,Vv,Via,ZlK w f m];simp [ZbH]
def gW:Nat->Nat
 |0=>271
 |l+1=>61+1260*gW l
theorem Zw0(l:Nat):271<=gW l:=by
 induction l with
 |zero=>exact Vh _
 |succ l ih=>unfold gW;omega
noncomputable def Zir(n:Zat)(l i c:Nat):Nat:=gW l* (1+if c+1=(Zaj n i).length then 5*rnk n i else 0)
noncomputable def wr(n:Zat):Nat->Nat->Nat->Nat
 |0,_,_=>1
 |l+1,i,c=>Zir n l i c
noncomputable def bw(n:Zat)(l i b:Nat):Nat:=ZbH ((Zaj n i).length - (b+1)) fun k=>wr n l i (b+1+k)
noncomputable def rW(n:Zat)(l:Nat)(s:Int):Nat:=ZbH n.2.2.1.length fun i=>ZbH (Zaj n i).length fun b=>if (Zac n i b).1=s then bw n l i b else 0
noncomputable def tW(n:Zat)(l:Nat):Nat:=ZbH n.2.2.1.length fun i=>ZbH (Zaj n i).length fun b=>bw n l i b
theorem Zsk(l i b:Nat):ZbH ((Zaj n i).length - (b+1)) (fun k=>Zir n l i (b+1+k))<=gW l* ((Zaj n i).length - (b+1)+5*rnk n i):=by
 unfold Zir;rw[Zel];refine Vga _ ?_;rw[Zez,ZgI];refine Vcc (by omega) ?_;by_cases hm: (Zaj n i).length - (b+1)=0
 ·rw[hm];exact Vda _
 ·refine Vt (Zhj (j:=(Zaj n i).length - (b+1) - 1) fun k hk he=>if_neg (by omega)) ?_
  split<;>omega
theorem ZxG(l i:Nat): ∀m,m<=(Zaj n i).length->(Zaj n i).length<=6->ZbH m (fun b=>ZbH ((Zaj n i).length - (b+1)) fun k=>Zir n l i (b+1+k))<=gW l* (15+25*rnk n i):=by
 intro m hm h6
 refine Vt (ZbJ (g:=fun b=>gW l* ((Zaj n i).length - (b+1)+(if b+1< (Zaj n i).length then 5*rnk n i else 0))) fun b hb=> ?_) ?_
 ·by_cases hb2:b+1< (Zaj n i).length
  ·rw[if_pos hb2];exact Zsk l i b
  ·have: (Zaj n i).length - (b+1)=0:=by omega
   rw[this];exact Vda _
 ·rw[Zel];refine Vga _ ?_;generalize (Zaj n i).length=k at*;generalize rnk n i=r;have hk:k=0\/k=1\/k=2\/k=3\/k=4\/k=5\/k=6:=by omega
  have hmm:m=0\/m=1\/m=2\/m=3\/m=4\/m=5\/m=6:=by omega
  rcases hk with rfl|rfl|rfl|rfl|rfl|rfl|rfl<;>rcases hmm with rfl|rfl|rfl|rfl|rfl|rfl|rfl<;>simp [ZbH]<;>omega
theorem ZnE{f:Nat->Nat}{m:Nat}(hm:m<=7):ZbH m f<=f 0+f 1+f 2+f 3+f 4+f 5+f 6:=by
 have hmm:m=0\/m=1\/m=2\/m=3\/m=4\/m=5\/m=6\/m=7:=by omega
 rcases hmm with rfl|rfl|rfl|rfl|rfl|rfl|rfl|rfl<;>simp [ZbH]<;>omega
theorem ZxR(hW:Whole n)(hT:Tin n)(l:Nat):61+2*tW n l<=gW l:=by
 cases l with
 |zero=>
  have:tW n 0<=105:=by
   unfold tW;refine Vt (ZbJ (g:=fun _=>15) fun i hi=> ?_) ?_
   ·have h6:=hT.calls i hi;unfold bw wr;generalize (Zaj n i).length=k at*;have hk:k=0\/k=1\/k=2\/k=3\/k=4\/k=5\/k=6:=by omega
    rcases hk with rfl|rfl|rfl|rfl|rfl|rfl|rfl<;>simp [ZbH]
   ·rw[ZgI];have:=hT.runs;omega
  show 61+2*tW n 0<=271
  omega
 |succ l=>
  have h1:tW n (l+1)<=gW l*630:=by unfold tW bw wr;refine Vt (ZbJ (g:=fun i=>gW l* (15+25*rnk n i)) fun i hi=>ZxG l i _ (Vh _) (hT.calls i hi)) ?_;rw[Zel];refine Vga _ (Vt (ZnE hT.runs) ?_);have:=ZvF hW;omega
  show 61+2*tW n (l+1)<=61+1260*gW l;omega
def Zv9(P:List Zb3)(s t:Int):Nat:=(P.filter fun p=>decide (p.1=s) &&decide (p.2.1=t)).length
theorem Zrs(l:Nat)(s:Int): ∀P:List Zb3,((P.filter fun p=>decide (p.1=s)).map fun p=>rW n l p.2.1).sum=ZbH n.2.2.1.length fun i=>ZbH (Zaj n i).length fun b=>Zv9 P s (Zac n i b).1*bw n l i b
 | []=>by
  symm
  exact Zdp fun i _=>Zdp fun b _=>by simp [Zv9]
 |p::P=>by
  have ih:=Zrs l s P;rw[Vqa];by_cases h:p.1=s
  ·rw[if_pos (by rw[decide_eq_true h]),Vja,Vka,ih];unfold rW;rw[<-Zez];congr 1;funext i;rw[<-Zez];congr 1;funext b;unfold Zv9;rw[Vqa,decide_eq_true h];by_cases h2:p.2.1=(Zac n i b).1
   ·rw[if_pos h2.symm,decide_eq_true h2];simp only[Vic,if_true,Vy,Vsb];omega
   ·rw[if_neg (fun e=>h2 e.symm),decide_eq_false h2];simp
  ·rw[if_neg (by rw[decide_eq_false h];simp),ih];congr 1;funext i;congr 1;funext b;unfold Zv9;rw[Vqa,decide_eq_false h];simp
theorem Zv7(hW:Whole n)(s t:Int): (if t=s then 1 else 0)+Zv9 n.2.2.2.2.1 s t<=2:=by
 obtain⟨h1,h2⟩:=Zld.1 (Zaz.1 hW.q);unfold Zv9
 have hm: ∀p∈n.2.2.2.2.1.filter (fun p=>decide (p.1=s) &&decide (p.2.1=t)),p.1=s/\p.2.1=t:=fun p hp=>by have:=(Vhb.1 hp).2;rw[Vi,decide_eq_true_eq,decide_eq_true_eq]at this;exact this
 have hp:=h2.sublist (List.filter_sublist (p:=fun p:Zb3=>decide (p.1=s) &&decide (p.2.1=t)))
 have hne: ∀p∈n.2.2.2.2.1.filter (fun p=>decide (p.1=s) &&decide (p.2.1=t)),p.1≠p.2.1:=fun p hp=>by exact(hW.ok.path p (Vhb.1 hp).1).2.2.1
 generalize n.2.2.2.2.1.filter (fun p=>decide (p.1=s) &&decide (p.2.1=t))=F at*
 match F,hm,hp,hne with
 | [],_,_,_=>simp;split<;>omega
 | [a],hm,_,hne=>
  have:=hm a (by simp);have h3:=hne a (by simp);rw[if_neg (fun e=>h3 (by rw[this.1,this.2,e]))]
  simp
 | [a,b],hm,_,hne=>
  have:=hm a (by simp);have h3:=hne a (by simp);rw[if_neg (fun e=>h3 (by rw[this.1,this.2,e]))]
  simp
 |a::b::c::F,hm,hp,_=>
  exfalso;have ha:=hm a (by simp);have hb:=hm b (by simp);have hc:=hm c (by simp);rw[Vbb]at hp;have hab:=hp.1 b (by simp);have hac:=hp.1 c (by simp);have hbc:=(Vbb.1 hp.2).1 c (by simp);unfold Zdd at hab hac hbc;rw[ha.1,ha.2,hb.1,hb.2]at hab;rw[ha.1,ha.2,hc.1,hc.2]at hac;rw[hb.1,hb.2,hc.1,hc.2]at hbc;have hx:a.2.2.2.1≠b.2.2.2.1:=fun e=>hab (by rw[e]);have hy:a.2.2.2.1≠c.2.2.2.1:=fun e=>hac (by rw[e]);have hz:b.2.2.2.1≠c.2.2.2.1:=fun e=>hbc (by rw[e]);exact(show∀x y z:Bool,x≠y->x≠z->y≠z->False by decide) _ _ _ hx hy hz
theorem Zvw(hW:Whole n)(hT:Tin n)(l:Nat)(s:Int):1+rW n l s+((n.2.2.2.2.1.filter fun p=>decide (p.1=s)).map fun p=>1+rW n l p.2.1).sum<=gW l:=by
 have e1: ∀P:List Zb3,(P.map fun p=>1+rW n l p.2.1).sum=P.length+(P.map fun p=>rW n l p.2.1).sum:=by
  intro P
  induction P with
  |nil=>rfl
  |cons p P ih=>rw[Vja,Vka,ih,Vja,Vka,Vy];omega
 rw[e1,Zrs];have hl: (n.2.2.2.2.1.filter fun p=>decide (p.1=s)).length<=60:=Vt (Vma _ _) hT.paths
 have key:rW n l s+(ZbH n.2.2.1.length fun i=>ZbH (Zaj n i).length fun b=>Zv9 n.2.2.2.2.1 s (Zac n i b).1*bw n l i b)<=2*tW n l:=by
  unfold rW tW;rw[<-Zez, <-Zel];refine ZbJ fun i _=> ?_;rw[<-Zez, <-Zel];refine ZbJ fun b _=> ?_;have:=Zv7 hW s (Zac n i b).1
  have h3: (if (Zac n i b).1=s then bw n l i b else 0)=(if (Zac n i b).1=s then 1 else 0) *bw n l i b:=by split<;>simp
  rw[h3, <-Nat.add_mul];exact Vya _ this
 have:=ZxR hW hT l;omega
end Q
namespace Q
open Tr Go
open Option (bind_some)
variable {n:Zat}{q:Za5}{m:Nat}
noncomputable def ZuJ(n:Zat)(l:Nat)(x:Zaq):Nat:=if x.1=true then Zir n l x.2.1.toNat x.2.2.2.1.toNat else 1+rW n l x.2.2.2.2.2.1
noncomputable def wJ(n:Zat)(m:Nat)(L:List Zaq):Nat:=if Zal L<=m then ZuJ n (m - Zal L) (lg L (L.length - 1)) else 1
noncomputable def hJ(n:Zat)(m:Nat)(L:List Zaq):Nat:=if Zal L<=m then 20* (m - Zal L)+(if (lg L (L.length - 1)).1=true then 10+rnk n (lg L (L.length - 1)).2.1.toNat else 5) else 0
theorem Zsc(l i c:Nat):1<=Zir n l i c:=by unfold Zir;have:=Zw0 l;exact Vt (by omega:1<=gW l*1) (Vga _ (by omega))
theorem Zvg(L:List Zaq):1<=wJ n m L:=by
 unfold wJ ZuJ;split
 ·split
  ·exact Zsc ..
  ·omega
 ·exact Vh _
theorem Ze6(L:List Zaq)(x:Zaq):lg (L++[x]) ((L++[x]).length - 1)=x:=by rw[Ve,Vl,Vlb,ZuR]
theorem ZnR{L:List Zaq}(hr:Zal L<=m)(i b c:Nat):wJ n m (L++[Zbw n i b c false])=wr n (m - Zal L) i c:=by
 unfold wJ;rw[Zbc,Zbn,Ze6];simp only[Vn,if_false];by_cases h:Zal L+1<=m
 ·rw[if_pos h,show m - Zal L=(m - (Zal L+1))+1 by omega];rfl
 ·rw[if_neg h,show m - Zal L=0 by omega];rfl
theorem Zv8{L:List Zaq}(hr:Zal L<=m)(i b c:Nat):wJ n m (L++[Zbw n i b c true])=Zir n (m - Zal L) i c:=by unfold wJ;rw[Zbc,Zbn,Ze6];simp only[if_true,Vtb];rw[if_pos hr];rfl
theorem ZwC{L:List Zaq}(hr:Zal L<=m)(s t:Int)(p:Zb3):wJ n m (L++[Zcb s t p])=1+rW n (m - Zal L) p.2.1:=by unfold wJ Zcb;rw[Zbc,Zcj,Ze6,Vtb,if_pos hr];rfl
theorem ZrE{α β:Type}(w:β->Nat)(f:α->List β): ∀l:List α,((l.flatMap f).map w).sum=(l.map fun x=>((f x).map w).sum).sum
 | []=>rfl
 |x::l=>by rw[Vrb,Vv,Via,ZrE w f l];rfl
theorem Zrq{α:Type}{f g:α->Nat} : ∀ {l:List α},(∀x∈l,f x<=g x)->(l.map f).sum<=(l.map g).sum
 | [],_=>Vh _
 |x::l,h=>by rw[Vja,Vka,Vja,Vka];exact Vcc (h x (by simp)) (Zrq fun y hy=>h y (by simp [hy]))
theorem ZvB{α:Type}(f g:α->Nat): ∀l:List α,(l.map fun x=>f x+g x).sum=(l.map f).sum+(l.map g).sum
 | []=>rfl
 |x::l=>by simp only[Vja,Vka];rw[ZvB f g l];omega
theorem Zut{α:Type}{f:α->Nat} : ∀ {l:List α},(∀x∈l,f x=0)->(l.map f).sum=0
 | [],_=>rfl
 |x::l,h=>by rw[Vja,Vka,h x (by simp),Zut fun y hy=>h y (by simp [hy])]
theorem Zlj{l:Nat}{f:Zaq->Nat}(hf: ∀i b c,f (Zbw n i b c false)<=wr n l i c)(s t:Int): ((Zcg n s t).map f).sum<=rW n l s:=by
 unfold Zcg rW;rw[ZfR];refine ZbJ fun i _=> ?_;unfold Zd0;rw[ZfR];refine ZbJ fun b _=> ?_;unfold ZgJ;by_cases h: (Zac n i b).1=s
 ·rw[if_pos h];split
  ·unfold ZfJ bw;rw[ZlK];exact ZbJ fun k _=>hf ..
  ·exact Vda _
 ·rw[if_neg (fun e=>h e.1),if_neg h];exact Vh _
theorem ZuN(hT:Tin n){l j:Nat}{f:Zaq->Nat}(hj:j<n.2.2.1.length)(h0: ∀i b c,(i≠j\/b≠0)->f (Zbw n i b c false)=0)(hf: ∀c,f (Zbw n j 0 c false)<=Zir n l j c)(s t:Int): ((Zcg n s t).map f).sum<=gW l* (5+5*rnk n j):=by
 have hb: ∀i b,(i≠j\/b≠0)->((ZgJ n s t i b).map f).sum=0:=by
  intro i b h;unfold ZgJ;split
  ·unfold ZfJ;rw[ZlK];exact Zdp fun k _=>h0 i b _ h
  ·rfl
 unfold Zcg;rw[ZfR];refine Vt (Zhj (j:=j) fun i _ he=> ?_) ?_
 ·unfold Zd0;rw[ZfR];exact Zdp fun b _=>hb i b (.inl he)
 ·unfold Zd0;rw[ZfR];refine Vt (Zhj (j:=0) fun b _ he=>hb j b (.inr he)) ?_;unfold ZgJ;split
  ·unfold ZfJ;rw[ZlK];refine Vt (ZbJ fun k _=>hf _) (Vt (Zsk l j 0) (Vga _ ?_));have:=hT.calls j hj;omega
  ·exact Vda _
theorem Zit{a b:Zaq}(h:Zbj n a b=0)(hs:Za3 b=true):Zgh n a b true=true:=by
 unfold Zbj at h;rw[hs,Zas (by omega)]at h;have h:=h.2;rw[Zas (by omega)]at h;have h:=h.2;simp only[cond_true]at h
 cases hl:Zgh n a b true with
 |true=>rfl
 |false=>rw[hl]at h;simp at h
theorem ZoE(h:Zcu n){a:Zaq}{i b c:Nat}(hl:Zgh n a (Zbw n i b c true) true=true): ∃k d:Nat,a.2.1=(k:Int)/\a.2.2.2.1=(d:Int)/\isLink n k d i b true:=by unfold Zgh at hl;obtain⟨x,hx,hm⟩:=Voc.1 hl;obtain⟨i',c',j',d',s',rfl,_⟩:=h.link x hx;unfold Zme Zbw at hm;simp only[Vi,decide_eq_true_eq,beq_iff_eq,Int.natCast_inj]at hm;obtain⟨h1,h2,h3,h4,h5⟩:=hm;refine⟨i',c',h1.symm,h2.symm, ?_⟩;unfold isLink;rw[<-h3, <-h4, <-h5];exact hx
theorem Zvx(L:List Zaq)(l:Zaq): ((Zp5 n q L l).map fun y=>wJ n m y.1).sum<=wJ n m (L++[l]):=by
 unfold Zp5;split
 ·simp
 ·exact Vda _
theorem Zxe(L:List Zaq)(x l:Zaq): ((ZmK n L x l).map fun y=>wJ n m y.1).sum<=wJ n m (L++[Zb9 l]):=by
 unfold ZmK;split
 ·simp
 ·exact Vda _
theorem Zli{L:List Zaq}{x l:Zaq}(h: ¬ ((l.1=true/\l.2.2.1=0/\x.1=true)/\Zbj n x (Zb9 l)=0)):ZmK n L x l=[]:=by unfold ZmK;exact if_neg fun e=>h ⟨e.1,e.2.2⟩
theorem Zxp(hW:Whole n)(hT:Tin n){L:List Zaq}(hr:Zal L<=m):1+((Znx n q L).map fun y=>wJ n m y.1).sum<=wJ n m L:=by
 unfold Znx;have eW:wJ n m L=ZuJ n (m - Zal L) (lg L (L.length - 1)):=if_pos hr;rw[ZrE,eW];generalize lg L (L.length - 1)=x
 have e1: ((ZbY n x).map fun l=>((Zpx n q L x l).map fun y=>wJ n m y.1).sum).sum=((ZbY n x).map fun l=>((Zp5 n q L l).map fun y=>wJ n m y.1).sum).sum+((ZbY n x).map fun l=>((ZmK n L x l).map fun y=>wJ n m y.1).sum).sum:=by rw[<-ZvB];unfold Zpx;simp only[Vv,Via]
 rw[e1]
 have hA: ((Zcg n x.2.2.2.2.2.1 x.2.2.2.2.2.2.2.1).map fun l=>((Zp5 n q L l).map fun y=>wJ n m y.1).sum).sum<=rW n (m - Zal L) x.2.2.2.2.2.1:=
  Zlj (fun i b c=>Vt (Zvx L _) (Vib (ZnR hr i b c))) _ _
 unfold ZbY ZuJ
 cases hx:x.1 with
 |false=>
  simp only[Vn,if_false,Vfa]
  have hS: ((Zcg n x.2.2.2.2.2.1 x.2.2.2.2.2.2.2.1).map fun l=>((ZmK n L x l).map fun y=>wJ n m y.1).sum).sum=0:=
   Zut fun l _=>by rw[Zli (fun e=>by rw[hx]at e;cases e.1.2.2)];rfl
  omega
 |true=>
  simp only[if_true,Vv,Via]
  have hB: ((Zb2 n x.2.2.2.2.2.1 x.2.2.2.2.2.2.2.1).map fun l=>((Zp5 n q L l).map fun y=>wJ n m y.1).sum).sum<=((n.2.2.2.2.1.filter fun p=>decide (p.1=x.2.2.2.2.2.1)).map fun p=>1+rW n (m - Zal L) p.2.1).sum:=by unfold Zb2;rw[Vub];exact Zrq fun p _=>Vt (Zvx L _) (Vib (ZwC hr _ _ p))
  have hC: ((Zb2 n x.2.2.2.2.2.1 x.2.2.2.2.2.2.2.1).map fun l=>((ZmK n L x l).map fun y=>wJ n m y.1).sum).sum=0:=
   Zut fun l hl=>by obtain⟨p,_,_,rfl⟩:=Zf6 hl;rw[Zli (fun e=>Bool.noConfusion e.1.1)];rfl
  have hN:=Zvw hW hT (m - Zal L) x.2.2.2.2.2.1
  have hD: ((Zcg n x.2.2.2.2.2.1 x.2.2.2.2.2.2.2.1).map fun l=>((ZmK n L x l).map fun y=>wJ n m y.1).sum).sum+gW (m - Zal L)<=Zir n (m - Zal L) x.2.1.toNat x.2.2.2.1.toNat:=by
   by_cases he: ∃i c j:Nat,x.2.1=(i:Int)/\x.2.2.2.1=(c:Int)/\isLink n i c j 0 true
   ·obtain⟨i,c,j,h1,h2,h3⟩:=he;obtain⟨l1,l2,l3,l4,l5,l6,l7⟩:=hW.ok.isLink h3;have hs:=ZeI hW h3;have hj7:j<7:=by have:=hT.runs;omega
    have hrk:=Zta hW hj7 hs
    have:=ZuN (l:=m - Zal L) (f:=fun l=>((ZmK n L x l).map fun y=>wJ n m y.1).sum) hT l2 (fun i' b' c' hne=>by
     show ((ZmK n L x (Zbw n i' b' c' false)).map fun y=>wJ n m y.1).sum=0;rw[Zli]
     ·rfl
     ·rintro ⟨⟨_,e2,_⟩,e4⟩;have e2' : (b' :Int)=0:=e2;have hb:b' =0:=by omega
      subst hb;obtain⟨k,d,g1,g2,g3⟩:=ZoE (i:=i') (b:=0) (c:=c') hW.ok (Zit e4 rfl);have hs2:=ZeI hW g3;have:k=i:=by have:=h1.symm.trans g1;omega
      subst this;rw[hs]at hs2;have:i' =j:=by have:=Option.some.inj hs2;omega
      rcases hne with hne|hne
      ·exact hne this
      ·exact hne rfl) (fun c' =>Vt (Zxe L x _) (Vib (Zv8 hr j 0 c'))) x.2.2.2.2.2.1 x.2.2.2.2.2.2.2.1
    rw[h1,h2,Vp,Vp];unfold Zir;rw[if_pos (l7 rfl).1,Nat.mul_add,Nat.mul_one];have h5:gW (m - Zal L) * (5+5*rnk n j)<=gW (m - Zal L) * (5*rnk n i):=Vga _ (by omega);omega
   ·have hz: ((Zcg n x.2.2.2.2.2.1 x.2.2.2.2.2.2.2.1).map fun l=>((ZmK n L x l).map fun y=>wJ n m y.1).sum).sum=0:=
     Zut fun l hl=>by
      obtain⟨i,b,c,_,_,_,_,_,rfl⟩:=ZfM hl;rw[Zli]
      ·rfl
      ·rintro ⟨⟨_,e2,_⟩,e4⟩;have e2' : (b:Int)=0:=e2;have hb:b=0:=by omega
       subst hb;obtain⟨k,d,g1,g2,g3⟩:=ZoE (i:=i) (b:=0) (c:=c) hW.ok (Zit e4 rfl);exact he ⟨k,d,i,g1,g2,g3⟩
    rw[hz];unfold Zir
    have:gW (m - Zal L) *1<=gW (m - Zal L) * (1+if x.2.2.2.1.toNat+1=(Zaj n x.2.1.toNat).length then 5*rnk n x.2.1.toNat else 0):=Vga _ (by omega)
    omega
  omega
theorem ZxF(hW:Whole n)(hT:Tin n){L:List Zaq}(hr:Zal L<=m){y:List Zaq×Unit}(hy:y∈Znx n q L):y.1.length=L.length+1/\hJ n m y.1<hJ n m L:=by
 unfold Znx at hy;obtain⟨l,hl,hy⟩:=Vo.1 hy
 have eH:hJ n m L=20* (m - Zal L)+(if (lg L (L.length - 1)).1=true then 10+rnk n (lg L (L.length - 1)).2.1.toNat else 5):=if_pos hr
 rw[eH];generalize lg L (L.length - 1)=x at*
 have hlow:5<=(if x.1=true then 10+rnk n x.2.1.toNat else 5):=by split<;>omega
 have hride: ∀i b c,hJ n m (L++[Zbw n i b c false])<20* (m - Zal L)+(if x.1=true then 10+rnk n x.2.1.toNat else 5):=by
  intro i b c;unfold hJ;rw[Zbc,Zbn,Ze6];have hk:=Zpe (n:=n) i;have e: (Zbw n i b c false).2.1.toNat=i:=Vp i;have e2: (Zbw n i b c false).1=true:=rfl;rw[e,e2];simp only[Vn,if_false,if_true];by_cases h:Zal L+1<=m
  ·rw[if_pos h];omega
  ·rw[if_neg h];omega
 rcases Vm.1 hy with hy|hy
 ·unfold Zp5 at hy;split at hy
  ·rw[Vg]at hy;subst hy;refine⟨by simp, ?_⟩;unfold ZbY at hl;rcases Vm.1 hl with hl|hl
   ·obtain⟨i,b,c,_,_,_,_,_,rfl⟩:=ZfM hl;exact hride i b c
   ·split at hl
    ·next hx=>
     obtain⟨p,_,_,rfl⟩:=Zf6 hl;rw[if_pos hx];unfold hJ Zcb;rw[Zbc,Zcj,Ze6,Vtb,if_pos hr];rw[if_neg (fun e=>Zm4 _ _ _ _ e)];omega
    ·exact absurd hl (by simp)
  ·exact absurd hy (by simp)
 ·unfold ZmK at hy;split at hy
  ·next hc=>
   rw[Vg]at hy;subst hy;refine⟨by simp, ?_⟩;obtain⟨⟨c1,c2,c3⟩,_,c4⟩:=hc;rw[if_pos c3];unfold ZbY at hl;rcases Vm.1 hl with hl|hl
   ·obtain⟨i,b,c,hi,_,_,_,_,rfl⟩:=ZfM hl;have c2' : (b:Int)=0:=c2;have hb:b=0:=by omega
    subst hb;obtain⟨k,d,g1,g2,g3⟩:=ZoE (i:=i) (b:=0) (c:=c) hW.ok (Zit c4 rfl);have hi7:i<7:=by have:=hT.runs;omega
    have:=Zta hW hi7 (ZeI hW g3);rw[g1,Vp];show hJ n m (L++[Zbw n i 0 c true])<_;unfold hJ;rw[Zbc,Zbn,Ze6];have e: (Zbw n i 0 c true).2.1.toNat=i:=Vp i;have e2: (Zbw n i 0 c true).1=true:=rfl;rw[e,e2];simp only[if_true,Vtb];rw[if_pos hr];omega
   ·rw[if_pos c3]at hl;obtain⟨p,_,_,rfl⟩:=Zf6 hl;cases c1
  ·exact absurd hy (by simp)
end Q
namespace Q
open Tr Go
open Option (bind_some)
variable {n:Zat}{q:Za5}{m:Nat}
theorem Zws(hW:Whole n)(hT:Tin n): ((Zeo n q).map fun y=>wJ n m y.1).sum<=gW m:=by
 have h0:Zal ([]:List Zaq)<=m:=Vda _
 have e1: ((Zd8 n q).map fun y=>wJ n m y.1).sum<=rW n m q.1:=by unfold Zd8;rw[Vub];refine Zlj (f:=(fun y:List Zaq×Unit=>wJ n m y.1) ∘fun x=>([x],())) (fun i b c=> ?_) _ _;exact Vib (ZnR (L:=[]) h0 i b c)
 have e2: (((Zb2 n q.1 0).flatMap (ZcO n q)).map fun y=>wJ n m y.1).sum<=((n.2.2.2.2.1.filter fun p=>decide (p.1=q.1)).map fun p=>1+rW n m p.2.1).sum:=by rw[ZrE];unfold Zb2;rw[Vub];refine Zrq fun p _=> ?_;show ((ZcO n q (Zcb q.1 0 p)).map fun y=>wJ n m y.1).sum<=1+rW n m p.2.1;unfold ZcO;rw[Vub];refine Vt (Zlj (l:=m) (f:=(fun y:List Zaq×Unit=>wJ n m y.1) ∘fun x=>([Zju (Zcb q.1 0 p) x,x],())) (fun i b c=> ?_) _ _) (Nat.le_add_left _ _);exact Vib (ZnR (L:=[Zju (Zcb q.1 0 p) (Zbw n i b c false)]) (Vda _) i b c)
 have e3:=Zvw hW hT m q.1;unfold Zeo;rw[Vv,Via];omega
theorem ZvU{y:List Zaq×Unit}(hy:y∈Zeo n q):0<y.1.length/\y.1.length+hJ n m y.1<=20*m+30:=by
 have hh: ∀L:List Zaq,hJ n m L<=20*m+17:=fun L=>by
  unfold hJ;have:=Zpe (n:=n) (lg L (L.length - 1)).2.1.toNat;split
  ·split<;>omega
  ·omega
 have:=hh y.1;unfold Zeo at hy;rcases Vm.1 hy with hy|hy
 ·unfold Zd8 at hy;obtain⟨x,_,rfl⟩:=Vra.1 hy;exact⟨by simp,by simp only[Vl]at*;omega⟩
 ·obtain⟨w,_,hy⟩:=Vo.1 hy;unfold ZcO at hy;obtain⟨x,_,rfl⟩:=Vra.1 hy;exact⟨by simp,by simp only[Vy,Vaa]at*;omega⟩
open Classical in
noncomputable def Ze2(n:Zat)(q:Za5)(y:List Zaq×Unit):List (List Zaq×Unit):=if ZlO n q y.1 then Znx n q y.1 else []
open Classical in
noncomputable def Zfl(n:Zat)(q:Za5)(y:List Zaq×Unit):List (List Zaq×Unit):=if ZlO n q y.1/\(ZbF n q y.1).2=0 then [y] else []
theorem ZjE(y:List Zaq×Unit): (Zfl n q y).length<=1:=by unfold Zfl;split<;>simp
theorem Zu8{L:List Zaq}(h:ZlO n q L)(hm:q.2.2.2.2.1=(m:Int)):Zal L<=m:=by have:=h.2.1;omega
theorem Zln(hW:Whole n)(hT:Tin n)(hm:q.2.2.2.2.1=(m:Int)): ∀l:List (List Zaq×Unit),l.length+((l.flatMap (Ze2 n q)).map fun y=>wJ n m y.1).sum<=(l.map fun y=>wJ n m y.1).sum
 | []=>Vh _
 |y::l=>by
  have ih:=Zln hW hT hm l;rw[Vrb,Vv,Via,Vja,Vka,Vy]
  have:1+((Ze2 n q y).map fun y=>wJ n m y.1).sum<=wJ n m y.1:=by
   unfold Ze2;split
   ·next h=>exact Zxp hW hT (Zu8 h hm)
   ·exact Zvg _
  omega
theorem Zxt(l:List (List Zaq×Unit)):l.length<=(l.map fun y=>wJ n m y.1).sum:=by
 induction l with
 |nil=>exact Vh _
 |cons y l ih=>
  rw[Vja,Vka,Vy];have:=Zvg (n:=n) (m:=m) y.1;omega
theorem Zxj(l:List (List Zaq×Unit))(i:Nat): ((l.take i).map fun y=>wJ n m y.1).sum<=(l.map fun y=>wJ n m y.1).sum:=by
 have:l=l.take i++l.drop i:=(Vac i l).symm
 conv=>rhs;rw[this]
 rw[Vv,Via];omega
structure ZwI (n:Zat) (q:Za5) (m:Nat) (s:List (List Zaq×Unit) ×List (List Zaq×Unit)):Prop where
 size:s.1.length+(s.2.map fun y=>wJ n m y.1).sum<=549755813000
 good: ∀y∈s.1,(ZbF n q y.1).2=0/\y.1.length<=100
 low: ∀y∈s.2,0<y.1.length/\y.1.length+hJ n m y.1<=100
 done: ∃D:List Zaq->Prop,(∀L,D L->ZlO n q L->((ZbF n q L).2=0->(L,())∈s.1)/\ ∀y∈Znx n q L,D y.1\/y∈s.2)/\ ∀y∈Zeo n q,D y.1\/y∈s.2
theorem Zrx(hW:Whole n)(hT:Tin n)(hm:q.2.2.2.2.1=(m:Int)){s:List (List Zaq×Unit) ×List (List Zaq×Unit)}(I:ZwI n q m s):ZwI n q m (s.1++s.2.flatMap (Zfl n q),s.2.flatMap (Ze2 n q)):=by
 have hr:=Zln hW hT hm s.2;have hg:=Zds (f:=Zfl n q) (c:=1) (fun y=>ZjE y) s.2;refine⟨?_,fun y hy=> ?_,fun y hy=> ?_, ?_⟩
 ·have:=I.size;simp only[Ve];omega
 ·rcases Vm.1 hy with hy|hy
  ·exact I.good y hy
  ·obtain⟨z,hz,hy⟩:=Vo.1 hy;unfold Zfl at hy;split at hy
   ·next h=>
    rw[Vg]at hy;subst hy;exact⟨h.2,by have:=I.low y hz;omega⟩
   ·exact absurd hy (by simp)
 ·obtain⟨z,hz,hy⟩:=Vo.1 hy;unfold Ze2 at hy;split at hy
  ·next h=>
   obtain⟨e1,e2⟩:=ZxF hW hT (Zu8 h hm) hy;have:=I.low z hz;omega
  ·exact absurd hy (by simp)
 ·obtain⟨D,d1,d2⟩:=I.done;refine⟨fun L=>D L\/ ∃y∈s.2,y.1=L, ?_,fun y hy=> ?_⟩
  ·rintro L (hD| ⟨⟨L',u⟩,hD,rfl⟩) hH
   ·obtain⟨a1,a2⟩:=d1 L hD hH;refine⟨fun e=>Vx _ (a1 e),fun y hy=> .inl ?_⟩;rcases a2 y hy with h|h
    ·exact .inl h
    ·exact .inr ⟨y,h,rfl⟩
   ·refine⟨fun e=>Vca _ (Vo.2 ⟨_,hD, ?_⟩),fun y hy=> .inr (Vo.2 ⟨_,hD, ?_⟩)⟩
    ·unfold Zfl;rw[if_pos ⟨hH,e⟩];exact Vg.2 rfl
    ·unfold Ze2;rw[if_pos hH];exact hy
  ·left;rcases d2 y hy with h|h
   ·exact .inl h
   ·exact .inr ⟨y,h,rfl⟩
structure Zxy (n:Zat) (q:Za5) (out:List (List Zaq×Unit)):Prop where
 size:out.length<=549755813000
 good: ∀y∈out,(ZbF n q y.1).2=0/\y.1.length<=100
 none:q.1=q.2.1->([],())∈out
 walk: ∀w∈Zb2 n q.1 q.2.2.1,(ZbF n q [w]).2=0->([w],())∈out
 done: ∃D:List Zaq->Prop,(∀L,D L->ZlO n q L->((ZbF n q L).2=0->(L,())∈out)/\ ∀y∈Znx n q L,D y.1)/\ ∀y∈Zeo n q,D y.1
theorem Zql(hfit:Fit n)(hW:Whole n)(hT:Tin n)(hF:n.2.2.2.2.2.1.1.length<=4096)(hq:qB n.1.length q=true)(hb:q.2.2.2.1=false)(hm:q.2.2.2.2.1=(m:Int))(h3:m<=3): ∃out,F83 n q=some out/\Zxy n q out:=by
 have hN:=hW.ok;have hpp:n.2.2.2.2.1.length<=4096:=by have:=hT.paths;omega
 have hlk:n.2.2.2.1.length<=4096:=by have:=hW.v;omega
 have hq1:inR q.1 n.1.length=true:=by unfold qB at hq;rw[Vi]at hq;exact hq.1
 have hck:Zkl n q=0:=ZfD.2 ⟨hW,hq⟩;have hw60:=ZfW hT q.1 q.2.2.1;unfold F83
 refine ZwM (fun r:List (List Zaq×Unit)=>r=if q.1=q.2.1 then [([],())] else []) ?_ ?_
 ·by_cases h:q.1=q.2.1
  ·rw[decide_eq_true h,if_pos h];exact⟨_,rfl,rfl⟩
  ·rw[decide_eq_false h,if_neg h];exact⟨_,rfl,rfl⟩
 rintro x0 hx0
 have hx1:x0.length<=1:=by rw[hx0];split<;>simp
 rw[Zfx hpp];simp only[bind_some]
 have hbeg: ∃x7:List (List Zaq×Unit),x7.length<=61/\(∀y∈x7,(ZbF n q y.1).2=0/\y.1.length<=100)/\(q.1=q.2.1->([],())∈x7)/\(∀w∈Zb2 n q.1 q.2.2.1,(ZbF n q [w]).2=0->([w],())∈x7)/\x7=x0++(Zb2 n q.1 q.2.2.1).flatMap fun w=>if (ZbF n q [w]).2=0 then [([w],())] else []:=by
  refine⟨_, ?_,fun y hy=> ?_,fun e=> ?_,fun w hw e=> ?_,rfl⟩
  ·have:=Zds (f:=fun w=>if (ZbF n q [w]).2=0 then [(([w],()):List Zaq×Unit)] else []) (c:=1) (fun w=>by split<;>simp) (Zb2 n q.1 q.2.2.1)
   rw[Ve];omega
  ·rcases Vm.1 hy with hy|hy
   ·rw[hx0]at hy;split at hy
    ·next he=>
     rw[Vg]at hy;subst hy;exact⟨(ZeK n q []).2 ⟨hck, .inl ⟨rfl,he⟩⟩,by simp⟩
    ·exact absurd hy (by simp)
   ·obtain⟨w,_,hy⟩:=Vo.1 hy;split at hy
    ·next he=>
     rw[Vg]at hy;subst hy;exact⟨he,by simp⟩
    ·exact absurd hy (by simp)
  ·rw[hx0,if_pos e];simp
  ·exact Vca _ (Vo.2 ⟨w,hw,by rw[if_pos e];exact Vg.2 rfl⟩)
 obtain⟨x7,b1,b2,b3,b4,b5⟩:=hbeg;refine ZwM (fun r=>r=x7) ?_ ?_
 ·rw[b5];generalize Zb2 n q.1 q.2.2.1=W at*
  refine ZaL W.length _ (fun i (st:List (List Zaq×Unit) ×Int)=>st=(x0++(W.take i).flatMap (fun w=>if (ZbF n q [w]).2=0 then [([w],())] else []),(i:Int))) ?_ ?_ _ (by simp)
  ·rintro i _ hi rfl;left
   have hl: ((W.take i).flatMap (fun w=>if (ZbF n q [w]).2=0 then [(([w],()):List Zaq×Unit)] else [])).length<=60:=by
    have:=Zds (f:=fun w=>if (ZbF n q [w]).2=0 then [(([w],()):List Zaq×Unit)] else []) (c:=1) (fun w=>by split<;>simp) (W.take i)
    rw[Vw]at this;omega
   have et: (W.take (i+1)).flatMap (fun w=>if (ZbF n q [w]).2=0 then [(([w],()):List Zaq×Unit)] else [])=(W.take i).flatMap (fun w=>if (ZbF n q [w]).2=0 then [(([w],()):List Zaq×Unit)] else [])++if (ZbF n q [W[i]]).2=0 then [([W[i]],())] else []:=by rw[Va hi,Vz];simp
   have hfv:F86 n q ([W[i]],())=some (decide ((ZbF n q [W[i]]).2=0)):=Zfi hfit hF q [W[i]] (by simp);rw[et];simp only[Zav hi,cond_true,Zaf hi,bind_some,hb,cond_false,hfv,Zai hi (show _<=9223372036854775807 by omega)];by_cases hc: (ZbF n q [W[i]]).2=0
   ·rw[decide_eq_true hc,if_pos hc];simp only[cond_true];rw[ZaQ (by simp only[Ve,Vl];omega)];exact⟨_,rfl,by rw[Vea]⟩
   ·rw[decide_eq_false hc,if_neg hc];exact⟨_,rfl,by rw[Vfa]⟩
  ·rintro _ rfl;simp only[Zaw,cond_false,Vf];exact⟨_,rfl,rfl⟩
 rintro r7 hr7;rw[hr7,ZrA hT];simp only[bind_some];refine ZwM (fun r=>ZwI n q m (r,[])/\ ∀y∈x7,y∈r) ?_ ?_
 rotate_left
 ·rintro out ⟨I,hsub⟩;refine⟨out,rfl,by have:=I.size;simp only at this;omega,I.good,fun e=>hsub _ (b3 e),fun w hw e=>hsub _ (b4 w hw e), ?_⟩;obtain⟨D,d1,d2⟩:=I.done;exact⟨D,fun L hD hH=>⟨(d1 L hD hH).1,fun y hy=>((d1 L hD hH).2 y hy).resolve_right (by simp)⟩,fun y hy=>(d2 y hy).resolve_right (by simp)⟩
 have hg3:gW m<=542198816521:=by
  have:m=0\/m=1\/m=2\/m=3:=by omega
  rcases this with rfl|rfl|rfl|rfl<;>decide
 have hsw:=Zws (q:=q) (m:=m) hW hT
 have h0:ZwI n q m (x7,Zeo n q):=by refine⟨by show x7.length+((Zeo n q).map fun y=>wJ n m y.1).sum<=549755813000;omega,b2,fun y hy=> ?_,⟨fun _=>False,fun _ h=>h.elim,fun y hy=> .inr hy⟩⟩;have:=ZvU (m:=m) hy;omega
 refine ZlT (Inv:=fun s:List (List Zaq×Unit) ×List (List Zaq×Unit)=>ZwI n q m s/\ ∀y∈x7,y∈s.1) (μ:=fun s=>(s.2.map fun y=>wJ n m y.1).sum) (ZjM:=fun r=>ZwI n q m (r,[])/\ ∀y∈x7,y∈r) ?_ (x7,Zeo n q) ⟨h0,fun y hy=>hy⟩;rintro ⟨out,opn⟩ ⟨I,hsub⟩
 cases opn with
 |nil=>
  right
  exact⟨out,rfl,I,hsub⟩
 |cons y0 opn0=>
  left;generalize hop:y0::opn0=opn at*;have hlen:0<opn.length:=by rw[<-hop];simp
  have hr:=Zln hW hT hm opn;have hlw:=Zxt (n:=n) (m:=m) opn;have hsz:=I.size;simp only at hsz;refine⟨(out++opn.flatMap (Zfl n q),opn.flatMap (Ze2 n q)), ?_,⟨Zrx hW hT hm I,fun y hy=>Vx _ (hsub y hy)⟩,by show ((opn.flatMap (Ze2 n q)).map fun y=>wJ n m y.1).sum< (opn.map fun y=>wJ n m y.1).sum;omega⟩;rw[decide_eq_true (show (0:Int)< (opn.length:Int) by omega)];simp only[cond_true];refine Zbk (fun r=>r=(out++opn.flatMap (Zfl n q),opn.flatMap (Ze2 n q))) ?_ (fun r hr=>by rw[hr]);refine ZaL opn.length _ (fun i (st:List (List Zaq×Unit) ×List (List Zaq×Unit) ×Int)=>st=(out++(opn.take i).flatMap (Zfl n q),(opn.take i).flatMap (Ze2 n q),(i:Int))) ?_ ?_ _ (by simp)
  ·rintro i _ hi rfl;left;have hlow:=I.low opn[i] (Vj hi);have hgl:=Zds (f:=Zfl n q) (c:=1) (fun y=>ZjE y) (opn.take i);rw[Vw]at hgl
   have hml: ((opn.take (i+1)).flatMap (Ze2 n q)).length<=549755813000:=by have a1:=Zxt (n:=n) (m:=m) ((opn.take (i+1)).flatMap (Ze2 n q));have a2:=Zln hW hT hm (opn.take (i+1));have a3:=Zxj (n:=n) (m:=m) opn (i+1);omega
   have em: (opn.take (i+1)).flatMap (Ze2 n q)=(opn.take i).flatMap (Ze2 n q)++Ze2 n q opn[i]:=by rw[Va hi,Vz];simp
   have eg: (opn.take (i+1)).flatMap (Zfl n q)=(opn.take i).flatMap (Zfl n q)++Zfl n q opn[i]:=by rw[Va hi,Vz];simp
   rw[em,Ve]at hml;rw[em,eg];have hgd:=ZjE (n:=n) (q:=q) opn[i];obtain⟨b,hb1,hb2⟩:=ZnG (n:=n) (q:=q) hN.sound hpp hq1 (L:=(opn[i]).1) hlow.1 (by omega);have hb1' :F95 n q opn[i]=some b:=hb1;have hfe:F86 n q opn[i]=some (decide ((ZbF n q (opn[i]).1).2=0)):=Zfi hfit hF q (opn[i]).1 (by omega);have hex:F92 n q opn[i]=some (Znx n q (opn[i]).1):=Zqe (L:=(opn[i]).1) hT hN hlk hq1 hlow.1 (by omega);have hw:Vd .i64 ((i:Int)+1)=((i+1:Nat):Int):=by rw[Zae (by omega) (by omega)];omega
   simp only[Zav hi,cond_true,Zaf hi,bind_some,hb1',hw]
   cases b with
   |false=>
    have hno: ¬ZlO n q (opn[i]).1:=fun e=>by have:=hb2.2 e;cases this
    simp only[Vu,cond_true];refine⟨_,rfl, ?_⟩;unfold Zfl Ze2
    rw[if_neg (fun e=>hno e.1),if_neg hno,Vfa,Vfa]
   |true=>
    have hyes:ZlO n q (opn[i]).1:=hb2.1 rfl;have emo:Ze2 n q opn[i]=Znx n q (opn[i]).1:=if_pos hyes;rw[emo]at hml;simp only[Vk,cond_false,hfe,bind_some,hex];refine ZhF (fun r=>r=(out++(opn.take i).flatMap (Zfl n q)++Zfl n q opn[i],(opn.take i).flatMap (Ze2 n q))) ?_ ?_
    ·unfold Zfl at hgd hgl ⊢;by_cases hc: (ZbF n q (opn[i]).1).2=0
     ·rw[decide_eq_true hc,if_pos ⟨hyes,hc⟩];simp only[cond_true];rw[Zms (by simp only[Ve,Vl];omega)];exact⟨_,rfl,rfl⟩
     ·rw[decide_eq_false hc,if_neg (fun e=>hc e.2)];exact⟨_,rfl,by rw[Vfa]⟩
    ·rintro _ rfl;have hgb:Zan (decide (((opn.take i).flatMap (Ze2 n q)).length+(Znx n q (opn[i]).1).length<=Zam))=some ():=Zms (by omega);simp only[hgb,bind_some];exact⟨_,rfl,by rw[emo,Vea]⟩
  ·rintro _ rfl;simp only[Zaw,cond_false,Vf];exact⟨_,rfl,rfl⟩
end Q
namespace Q
open Tr Go
open Option (bind_some)
variable {n:Zat}{q:Za5}{m:Nat}
theorem ZbX{x:Zaq}(h:ZhU n q x=0)(hr:x.1=true): ∃i b c st,x=Zbw n i b c st/\i<n.2.2.1.length/\b<c/\c< (Zaj n i).length:=by
 obtain⟨h1,h2,h3,h4⟩:=ZkW.1 h;rw[hr]at h2 h4;simp only[cond_true,Vkc]at h2 h4;have he:=h2;unfold ZaN ZaY at he;simp only[Vi,decide_eq_true_eq,Zef]at he;obtain⟨⟨e1,e2⟩,e3,e4,e5⟩:=he;obtain⟨⟨r1,r2⟩,⟨r3,r4⟩,_⟩:=Zdk.1 h4;obtain⟨xr,xi,xb,xc,xf,xt,xd,xa,xs,u⟩:=x;simp only at hr h1 h2 h3 h4 e1 e2 e3 e4 e5 r1 r2 r3 r4;obtain⟨i,rfl⟩: ∃i:Nat,xi=(i:Int):=⟨xi.toNat,by omega⟩;obtain⟨b,rfl⟩: ∃i:Nat,xb=(i:Int):=⟨xb.toNat,by omega⟩;obtain⟨c,rfl⟩: ∃i:Nat,xc=(i:Int):=⟨xc.toNat,by omega⟩;subst hr;have hl:c< (Zaj n i).length:=by unfold Zaj;omega
 refine⟨i,b,c,xs, ?_,by omega,by omega,hl⟩;have a1: (Zac n i b).1=xf:=r1;have a2: (Zac n i c).1=xt:=r2;have a3: (Zac n i b).2.2.1=xd:=r3;have a4: (Zac n i c).2.1=xa:=r4;unfold Zbw;rw[a1,a2,a3,a4]
theorem Zbx(hN:Zcu n){x:Zaq}(h:ZhU n q x=0)(hr:x.1=false): ∃p∈n.2.2.2.2.1, ∃a,x=ZdU p.1 p.2.1 a (a+p.2.2.1)/\0<=a/\a+p.2.2.1<=3155932800:=by obtain⟨h1,h2,h3,h4⟩:=ZkW.1 h;rw[hr]at h2 h4;simp only[cond_false,Bool.or_eq_false_iff,Vkc,decide_eq_true_eq]at h2 h4;have h5:=ZeA.1 h4;obtain⟨p,hp,hm⟩:=Voc.1 h5;rw[Vi]at hm;have hm1:=hm.1;unfold ZdI at hm1;simp only[Vi,decide_eq_true_eq]at hm1;obtain⟨xr,xi,xb,xc,xf,xt,xd,xa,xs,u⟩:=x;simp only at hr h1 h2 h3 hm1;have hpp:=hN.path p hp;rw[Zae (by omega) (by omega)]at hm1;obtain⟨rfl,rfl,rfl,rfl⟩:=h2;subst hr;refine⟨p,hp,xd, ?_,by omega,by omega⟩;unfold ZdU;rw[<-hm1.1, <-hm1.2.1,show xa=xd+p.2.2.1 by omega]
theorem Zh2{J:List Zaq}{k i:Nat}(h:i<k):lg (J.take k) i=lg J i:=by unfold lg;rw[List.getElem?_take,if_pos h]
theorem Ztb(x:Zaq):ZbZ n q x=0\/ZbZ n q x=26\/ZbZ n q x=29:=by
 unfold ZbZ
 cases (!(cl (ZaY n x) x.2.2.2.1).2.2.2.2.1)<;>cases (!ZkQ n q x.2.2.2.2.2.1)<;>simp
structure ZjL (n:Zat) (q:Za5) (J:List Zaq):Prop where
 pos:0<J.length
 leg: ∀i,i<J.length->ZhU n q (lg J i)=0
 fol: ∀i,i+1<J.length->Zbj n (lg J i) (lg J (i+1))=0/\((lg J i).1=true->Za3 (lg J (i+1))=false->ZbZ n q (lg J i)=0)
 fst:Zhd n q J=0
theorem Zon{J:List Zaq}(h0:0<J.length)(ha: ∀i,i<J.length->atE n q J i=0):ZjL n q J:=by
 refine⟨h0,fun i hi=>(Zd3.1 (ha i hi)).1,fun i hi=>⟨?_,fun h1 h2=> ?_⟩,(Zd3.1 (ha 0 h0)).2.1⟩
 ·have:=(Zd3.1 (ha (i+1) hi)).2.1;rw[ZeF]at this;exact this
 ·refine(Zd3.1 (ha i (by omega))).2.2 ?_;unfold Zgi;rw[h1,h2];simp
theorem ZjL.at0{J:List Zaq}(h:ZjL n q J){i:Nat}(hi:i+1<J.length):atE n q J i=0:=by
 refine Zd3.2 ⟨h.leg i (by omega), ?_,fun hb=> ?_⟩
 ·cases i with
  |zero=>exact h.fst
  |succ i=>rw[ZeF];exact(h.fol i (by omega)).1
 ·unfold Zgi at hb;simp only[Vi,Vpc,decide_eq_true_eq,Vnb]at hb;exact(h.fol i hi).2 hb.1 (hb.2.resolve_left (by omega))
theorem ZjL.at1{J:List Zaq}(h:ZjL n q J){i:Nat}(hi:i<J.length):atE n q J i=0\/atE n q J i=26\/atE n q J i=29:=by
 have h1:=h.leg i hi
 have h2:ZjH n q J i=0:=by
  cases i with
  |zero=>exact h.fst
  |succ i=>rw[ZeF];exact(h.fol i hi).1
 unfold atE;rw[decide_eq_true h1,decide_eq_true h2];have:=Ztb (n:=n) (q:=q) (lg J i)
 cases Zgi J i<;>simp [this]
theorem ZjL.hope{J:List Zaq}(h:ZjL n q J): ∀i,i<J.length->Zoy n q J i:=by
 intro i hi;by_cases e:i+1<J.length
 ·exact .inl (h.at0 e)
 ·rcases h.at1 hi with h1|h1
  ·exact .inl h1
  ·exact .inr ⟨by omega,h1⟩
theorem ZjL.take{J:List Zaq}(h:ZjL n q J){k:Nat}(hk:k<=J.length)(h0:0<k)(h2:2<=k\/(lg J 0).1=true):ZjL n q (J.take k):=by
 have hl: (J.take k).length=k:=by rw[Vw];omega
 refine⟨by omega,fun i hi=> ?_,fun i hi=> ?_, ?_⟩
 ·rw[Zh2 (by omega)];exact h.leg i (by omega)
 ·rw[Zh2 (by omega),Zh2 (by omega)];exact h.fol i (by omega)
 ·obtain⟨f1,f2,f3,f4,f5,f6⟩:=Zce.1 h.fst;refine Zce.2 ?_;rw[Zh2 h0,hl];rcases h2 with h2|h2
  ·rw[Zh2 (show 1<k by omega)];refine⟨f1,f2, ?_, ?_,f5,f6⟩
   ·rw[decide_eq_true (show 1<k by omega)];rw[decide_eq_true (show 1<J.length by omega)]at f3;exact f3
   ·rw[decide_eq_false (show¬k=1 by omega)];simp
  ·rw[h2]at f6 ⊢;exact⟨f1,f2,rfl,rfl,f5,f6⟩
theorem Zj6(J:List Zaq)(k:Nat):Zal (J.take k)<=Zal J:=by
 have:J=J.take k++J.drop k:=(Vac k J).symm
 conv=>rhs;rw[this]
 rw[Zbc];omega
theorem ZmV(L:List Zaq)(x:Zaq):ZeT (L++[x])=ZjS (ZeT L) x:=by unfold ZeT;rw[List.foldl_append];rfl
theorem ZkO(s:Int)(i b c:Nat)(st:Bool):ZjS s (Zbw n i b c st)=s:=rfl
theorem ZkA{s a w:Int}(h0:0<=s)(h1:s<=1000000000000)(ha:0<=a)(hb:a+w<=3155932800)(hw:1<=w/\w<=14400)(u v:Int):ZjS s (ZdU u v a (a+w))=s+w:=by unfold ZjS ZsQ ZdU;simp only[Vu,Vsa];rw[decide_eq_true ha,decide_eq_true (show a<=a+w by omega),Zae (x:=a+w - a) (by omega) (by omega),decide_eq_true (show a+w - a<=14400 by omega)];simp only[Vic,cond_true];rw[Zae (x:=s+(a+w)) (by omega) (by omega),Zae (by omega) (by omega)];omega
theorem ZjL.walks(hN:Zcu n){J:List Zaq}(h:ZjL n q J)(hm:Zal J<=1000): ∀k,k+1<=J.length->0<=ZeT (J.take k)/\ZeT (J.take k)<=ZeT (J.take (k+1))/\ZeT (J.take (k+1))<=14400* (Zal (J.take (k+1)):Int)+(if (lg J k).1=true then 0 else 14400):=by
 intro k
 induction k with
 |zero=>
  intro hk;have e:J.take (0+1)=[]++[lg J 0]:=by rw[Va hk,ZjZ hk];rfl
  have e0:ZeT (J.take 0)=0:=rfl;rw[e,e0,ZmV];have e1:ZeT []=0:=rfl;rw[e1]
  cases hx: (lg J 0).1 with
  |true=>
   obtain⟨i,b,c,st,ex,_⟩:=ZbX (h.leg 0 hk) hx;rw[ex,ZkO];simp
   omega
  |false=>
   obtain⟨p,hp,a,ex,b1,b2⟩:=Zbx hN (h.leg 0 hk) hx;have hpp:=hN.path p hp;rw[ex,ZkA (by omega) (by omega) b1 b2 ⟨hpp.2.2.2.1,hpp.2.2.2.2⟩];simp only[Vn,if_false]
   omega
 |succ k ih=>
  intro hk;obtain⟨i1,i2,i3⟩:=ih (by omega);have hlt:k+1<J.length:=by omega
  have e:J.take (k+1+1)=J.take (k+1)++[lg J (k+1)]:=by rw[Va hlt,ZjZ hlt]
  have hrk:=Zj6 J (k+1);rw[e,ZmV,Zbc]
  cases hx: (lg J (k+1)).1 with
  |true=>
   obtain⟨i,b,c,st,ex,_⟩:=ZbX (h.leg (k+1) hlt) hx;have hf:=(h.fol k hlt).1;rw[ex]at hf ⊢;rw[ZkO,Zbn];simp only[if_true]
   cases hy: (lg J k).1 with
   |true=>
    rw[hy]at i3;simp only[if_true]at i3
    cases st<;>simp<;>omega
   |false=>
    rw[hy]at i3;simp only[Vn,if_false]at i3
    cases st with
    |true=>
     obtain⟨p,hp,a,ey,_⟩:=Zbx hN (h.leg k (by omega)) hy;rw[ey]at hf
     exact(Zjh _ _ _ _ _ _ _ _ hf).elim
    |false=>simp only[Vn,if_false];omega
  |false=>
   obtain⟨p,hp,a,ex,b1,b2⟩:=Zbx hN (h.leg (k+1) hlt) hx;have hpp:=hN.path p hp;have hf:=(h.fol k hlt).1
   cases hy: (lg J k).1 with
   |false=>
    obtain⟨p',hp',a',ey,_⟩:=Zbx hN (h.leg k (by omega)) hy;rw[ex,ey]at hf
    exact(Zkm _ _ _ _ _ _ _ _ _ hf).elim
   |true=>
    rw[hy]at i3;simp only[if_true]at i3;rw[ex,ZkA (by omega) (by omega) b1 b2 ⟨hpp.2.2.2.1,hpp.2.2.2.2⟩,Zcj];simp only[Vn,if_false];omega
theorem ZjL.stay_link(hN:Zcu n){J:List Zaq}(h:ZjL n q J){k:Nat}(hk:k+1<J.length)(hs:Za3 (lg J (k+1))=true): ∃i b c st j e,lg J k=Zbw n i b c st/\lg J (k+1)=Zbw n j 0 e true/\isLink n i c j 0 true:=by
 have hf:=(h.fol k hk).1;have hl:=Zit hf hs
 have hy: (lg J (k+1)).1=true:=by
  cases hy: (lg J (k+1)).1 with
  |true=>rfl
  |false=>
   obtain⟨p,_,a,e,_⟩:=Zbx hN (h.leg (k+1) hk) hy;rw[e]at hs;cases hs
 obtain⟨j,d,e,st',ey,_⟩:=ZbX (h.leg (k+1) hk) hy;rw[ey]at hs hl hf;have hst:st' =true:=hs;subst hst
 cases hx: (lg J k).1 with
 |false=>
  obtain⟨p,_,a,ex,_⟩:=Zbx hN (h.leg k (by omega)) hx;rw[ex]at hf
  exact(Zjh _ _ _ _ _ _ _ _ hf).elim
 |true=>
  obtain⟨i,b,c,st,ex,_⟩:=ZbX (h.leg k (by omega)) hx;rw[ex]at hf;obtain⟨_,g2,_⟩:=(ZpT hN).1 hf;have hd:=((hN.isLink g2).2.2.2.2.2.2 rfl).2;subst hd;exact⟨i,b,c,st,j,e,ex,ey,g2⟩
theorem ZjL.again(hW:Whole n){J:List Zaq}(h:ZjL n q J){r:Int} : ∀k,k<J.length->Rch n (lg J k).2.1 r->Zcv r (J.take (k+1)).reverse=false:=by
 intro k
 induction k with
 |zero=>
  intro hk hr;have e: (J.take (0+1)).reverse=[lg J 0]:=by rw[Va hk,ZjZ hk];rfl
  rw[e];unfold Zcv;rw[if_neg (fun e=>Rch.irr hW (by rw[e]at hr;exact hr))];have:=(Zce.1 h.fst).2.1
  rw[this];rfl
 |succ k ih=>
  intro hk hr;have e: (J.take (k+1+1)).reverse=lg J (k+1)::(J.take (k+1)).reverse:=by rw[Va hk,Vkb,ZjZ hk];rfl
  rw[e];unfold Zcv;rw[if_neg (fun e=>Rch.irr hW (by rw[e]at hr;exact hr))]
  cases hs:Za3 (lg J (k+1)) with
  |false=>rfl
  |true=>
   obtain⟨i,b,c,st,j,e',ex,ey,g⟩:=h.stay_link hW.ok hk hs;rw[if_pos rfl];refine ih (by omega) (Rch.trans (b:=(lg J (k+1)).2.1) ?_ hr);rw[ex,ey];exact Rch.one (ZeI hW g)
end Q
namespace Q
open Tr Go
open Option (bind_some)
variable {n:Zat}{q:Za5}{m:Nat}
theorem Zek{s t:Int}{i b c:Nat}(h1:i<n.2.2.1.length)(h2:b<c)(h3:c< (Zaj n i).length)(h4: (Zac n i b).1=s)(h5:t<=(Zac n i b).2.2.1):Zbw n i b c false∈Zcg n s t:=by unfold Zcg;refine Vo.2 ⟨i,Vxa.2 h1, ?_⟩;unfold Zd0;refine Vo.2 ⟨b,Vxa.2 (by omega), ?_⟩;unfold ZgJ;rw[if_pos ⟨h4,h5⟩];unfold ZfJ;refine Vra.2 ⟨c - (b+1),Vxa.2 (by omega), ?_⟩;rw[show b+1+(c - (b+1))=c by omega]
theorem ZhP{s t:Int}{p:Zb3}(h1:p∈n.2.2.2.2.1)(h2:p.1=s):Zcb s t p∈Zb2 n s t:=by unfold Zb2;exact Vra.2 ⟨p,Vhb.2 ⟨h1,by rw[decide_eq_true h2]⟩,rfl⟩
theorem ZdB{J:List Zaq}{k:Nat}(h:k<J.length):J.take (k+1)=J.take k++[lg J k]:=by rw[Va h,ZjZ h]
theorem ZjL.mono(hN:Zcu n){J:List Zaq}(h:ZjL n q J)(hm:Zal J<=1000): ∀d k,k+d=J.length->ZeT (J.take k)<=ZeT J:=by
 intro d
 induction d with
 |zero=>intro k hk;rw[show k=J.length by omega,Vf];exact Vwa _
 |succ d ih=>
  intro k hk;exact Int.le_trans (h.walks hN hm k (by omega)).2.1 (ih (k+1) (by omega))
theorem ZjL.ext(hW:Whole n){J:List Zaq}(h:ZjL n q J){k:Nat}(h0:0<k)(hk:k<J.length)(h2:2<=k\/(lg J 0).1=true): (J.take (k+1),())∈Znx n q (J.take k):=by
 have hN:=hW.ok;have hl: (J.take k).length=k:=by rw[Vw];omega
 obtain⟨k',rfl⟩: ∃k',k=k' +1:=⟨k - 1,by omega⟩;have hlast:lg (J.take (k' +1)) ((J.take (k' +1)).length - 1)=lg J k' :=by rw[hl,Vlb,Zh2 (by omega)]
 have hf:=(h.fol k' hk).1;have hT2:=h.take (k:=k' +1+1) (by omega) (by omega) (.inl (by omega));have hl2: (J.take (k' +1+1)).length=k' +1+1:=by rw[Vw];omega
 have hA:lg J (k' +1)∈ZbY n (lg J k')->(J.take (k' +1+1),())∈Znx n q (J.take (k' +1)):=fun hin=>by unfold Znx;rw[hlast];refine Vo.2 ⟨_,hin,Vx _ ?_⟩;unfold Zp5;rw[<-ZdB hk,hl];have a1:=hT2.at0 (i:=k') (by omega);have a2:=hT2.at1 (i:=k' +1) (by omega);rw[if_pos ⟨by rw[Vlb];exact a1,by omega⟩];exact Vg.2 rfl
 cases hx: (lg J (k' +1)).1 with
 |false=>
  obtain⟨p,hp,a,ex,b1,b2⟩:=Zbx hN (h.leg (k' +1) hk) hx;refine hA ?_
  cases hy: (lg J k').1 with
  |false=>
   obtain⟨p',_,a',ey,_⟩:=Zbx hN (h.leg k' (by omega)) hy;rw[ex,ey]at hf
   exact(Zkm _ _ _ _ _ _ _ _ _ hf).elim
  |true=>
   obtain⟨i,b,c,st,ey,_⟩:=ZbX (h.leg k' (by omega)) hy;have hpp:=hN.path p hp;rw[ex,ey]at hf ⊢;obtain⟨f1,f2⟩:=Ztd.1 hf;unfold ZbY;refine Vca _ ?_;rw[if_pos (show (Zbw n i b c st).1=true from rfl)];show _∈Zb2 n (Zac n i c).1 (Zac n i c).2.1;have:=ZhP (s:=(Zac n i c).1) (t:=(Zac n i c).2.1) hp f1.symm;unfold Zcb at this;rw[Zae (by omega) (by omega)]at this;rw[<-f1,f2]
   exact this
 |true=>
  obtain⟨j,d,e,st',ex,g1,g2,g3⟩:=ZbX (h.leg (k' +1) hk) hx
  have hin: ∀st'',st' =st'' ->Zbw n j d e false∈ZbY n (lg J k'):=by
   intro st'' hst;unfold ZbY;refine Vx _ ?_
   cases hy: (lg J k').1 with
   |false=>
    obtain⟨p',_,a',ey,_⟩:=Zbx hN (h.leg k' (by omega)) hy;rw[ex,ey]at hf
    cases st' with
    |true=>exact(Zjh _ _ _ _ _ _ _ _ hf).elim
    |false=>
     obtain⟨f1,f2⟩:=ZkN.1 hf;rw[ey]
     exact Zek g1 g2 g3 f1.symm f2
   |true=>
    obtain⟨i,b,c,st,ey,k1,k2,k3⟩:=ZbX (h.leg k' (by omega)) hy;rw[ex,ey]at hf;rw[ey];have hcg:=hN.change (Zac n i c).1 (hN.stop k1 k3).1 (hN.stop k1 k3).2
    cases st' with
    |true=>
     obtain⟨f1,_,f3⟩:=(ZpT hN).1 hf
     exact Zek g1 g2 g3 f1.symm f3
    |false=>
     obtain⟨f1,f2⟩:=(Zo5 hN k1 k3).1 hf;exact Zek g1 g2 g3 f1.symm (by show (Zac n i c).2.1<=_;omega)
  cases st' with
  |false=>exact hA (by rw[ex];exact hin false rfl)
  |true=>
   have hst:Za3 (lg J (k' +1))=true:=by rw[ex];rfl
   obtain⟨i,b,c,st,j',e',ey,ez,g⟩:=h.stay_link hN hk hst
   have hag:Zjb (J.take (k' +1)) (Zb9 (Zbw n j d e false))=false:=by
    unfold Zjb
    have:Zcv (j:Int) (J.take (k' +1)).reverse=false:=by
     refine h.again hW k' (by omega) ?_;have: (lg J (k' +1)).2.1=(j:Int):=by rw[ex];rfl
     rw[ez]at this;rw[<-this,ey];exact Rch.one (ZeI hW g)
    show (Za3 (Zb9 (Zbw n j d e false)) &&Zcv (j:Int) (J.take (k' +1)).reverse)=false;rw[this];simp
   have hd: (d:Int)=0:=by
    have h1: (lg J (k' +1)).2.2.1=(d:Int):=by rw[ex];rfl
    rw[ez]at h1;exact h1.symm
   unfold Znx;rw[hlast];refine Vo.2 ⟨_,hin true rfl,Vca _ ?_⟩;unfold ZmK;have hs:Zb9 (Zbw n j d e false)=lg J (k' +1):=by rw[ex];rfl
   rw[if_pos ⟨⟨rfl,hd,by rw[ey];rfl⟩,hag,by rw[hs];exact hf⟩,hs, <-ZdB hk];exact Vg.2 rfl
theorem Zvj(hW:Whole n)(hb:q.2.2.2.1=false)(hm:q.2.2.2.2.1<=8){out:List (List Zaq×Unit)}(A:Zxy n q out){J:List Zaq}(hc: (ZbF n q J).2=0): (J,())∈out:=by
 have hN:=hW.ok;rcases ((ZeK n q J).1 hc).2 with ⟨h0,he⟩ | ⟨h0,hat,hend⟩
 ·rw[Vva h0];exact A.none he
 have h:=Zon (by omega) hat;unfold ZrH at hend;rw[Zas (by omega),Zas (by omega),Zas (by omega),Zas (by omega)]at hend;obtain⟨_,_,e3,e4,_⟩:=hend;rw[decide_eq_false_iff_not]at e3 e4;have hr1000:Zal J<=1000:=by omega
 obtain⟨f1,f2,f3,f4,f5,f6⟩:=Zce.1 h.fst;rw[hb]at f4 f5
 have f5' :q.2.2.1<=(lg J 0).2.2.2.2.2.2.1:=by simp only[Vu,Vsa,decide_eq_false_iff_not]at f5;omega
 have hfq:ZmL q=q.2.2.1:=by unfold ZmL;rw[hb];rfl
 by_cases hone: (lg J 0).1=false/\J.length=1
 ·obtain⟨p,hp,a,ex,b1,b2⟩:=Zbx hN (h.leg 0 (by omega)) hone.1;rw[ex,hone.2]at f4
  have ha:a=q.2.2.1:=by
   have f4' : (true&& (decide (1=1) && !decide (a=q.2.2.1)))=false:=f4;by_cases e:a=q.2.2.1
   ·exact e
   ·rw[decide_eq_false e]at f4';cases f4'
  rw[ex]at f1;have f1' :p.1=q.1:=f1;have hpp:=hN.path p hp
  have eJ:J=[lg J 0]:=by have:=ZdB (J:=J) (k:=0) (by omega);rw[show 0+1=J.length by omega,Vf]at this;exact this
  have ew:lg J 0=Zcb q.1 q.2.2.1 p:=by rw[ex];unfold Zcb;rw[Zae (by omega) (by omega),f1',ha]
  have:=A.walk _ (ZhP (t:=q.2.2.1) hp f1') (by rw[<-ew, <-eJ];exact hc);rw[<-ew, <-eJ]at this;exact this
 obtain⟨D,d1,d2⟩:=A.done
 have hope: ∀k,0<k->k<=J.length->(2<=k\/(lg J 0).1=true)->ZlO n q (J.take k):=by intro k h1 h2 h3;have hw:=h.mono hN hr1000 (J.length - k) k (by omega);have hrt:=Zj6 J k;exact⟨(h.take h2 h1 h3).hope,by omega,by omega,fun e=>by rw[hb]at e;cases e⟩
 have step: ∀k d,0<k->(2<=k\/(lg J 0).1=true)->k+d=J.length->D (J.take k)->D J:=by
  intro k d
  induction d generalizing k with
  |zero=>intro _ _ hk hD;rw[show k=J.length by omega,Vf]at hD;exact hD
  |succ d ih=>
   intro h1 h3 hk hD;exact ih (k+1) (by omega) (by omega) (by omega) ((d1 _ hD (hope k h1 (by omega) h3)).2 _ (h.ext hW h1 (by omega) h3))
 have fin:D J->(J,())∈out:=fun hD=>by
  by_cases h2:2<=J.length
  ·have:=hope J.length (by omega) (Vh _) (.inl h2);rw[Vf]at this;exact(d1 J hD this).1 hc
  ·have h1: (lg J 0).1=true:=by
    cases e: (lg J 0).1 with
    |true=>rfl
    |false=>exact absurd ⟨e,by omega⟩ hone
   have:=hope J.length (by omega) (Vh _) (.inr h1);rw[Vf]at this;exact(d1 J hD this).1 hc
 cases hx: (lg J 0).1 with
 |true=>
  obtain⟨i,b,c,st,ex,g1,g2,g3⟩:=ZbX (h.leg 0 (by omega)) hx;rw[ex]at f1 f2 f5';have hst:st=false:=f2;subst hst;refine fin (step 1 (J.length - 1) (by omega) (.inr hx) (by omega) (d2 (J.take 1,()) ?_));unfold Zeo Zd8;refine Vx _ (Vra.2 ⟨Zbw n i b c false,Zek g1 g2 g3 f1 (by rw[hfq];exact f5'), ?_⟩);have:=ZdB (J:=J) (k:=0) (by omega);rw[this,ex]
  rfl
 |false=>
  have h2:2<=J.length:=by
   by_cases e:J.length=1
   ·exact absurd ⟨hx,e⟩ hone
   ·omega
  obtain⟨p,hp,a,ex,b1,b2⟩:=Zbx hN (h.leg 0 (by omega)) hx;have hpp:=hN.path p hp;have hf:=(h.fol 0 (by omega)).1
  cases hy: (lg J 1).1 with
  |false=>
   obtain⟨p',_,a',ey,_⟩:=Zbx hN (h.leg 1 (by omega)) hy;rw[show (0:Nat)+1=1 from rfl,ex,ey]at hf
   exact(Zkm _ _ _ _ _ _ _ _ _ hf).elim
  |true=>
   obtain⟨i,b,c,st,ey,g1,g2,g3⟩:=ZbX (h.leg 1 (by omega)) hy;rw[show (0:Nat)+1=1 from rfl,ex,ey]at hf
   cases st with
   |true=>exact(Zjh _ _ _ _ _ _ _ _ hf).elim
   |false=>
    obtain⟨h3,h4⟩:=ZkN.1 hf;rw[ex]at f1 f5' f3;rw[ey]at f3;have f1' :p.1=q.1:=f1;have f5'' :q.2.2.1<=a:=f5'
    have hdep: (Zac n i b).2.2.1=a+p.2.2.1:=by have: (true&& (decide (1<J.length) && (true&& !decide ((Zac n i b).2.2.1=a+p.2.2.1))))=false:=f3;rw[decide_eq_true (show 1<J.length by omega)]at this;simpa using this
    refine fin (step 2 (J.length - 2) (by omega) (.inl (by omega)) (by omega) (d2 (J.take 2,()) ?_));unfold Zeo;refine Vca _ (Vo.2 ⟨Zcb q.1 0 p,ZhP hp f1', ?_⟩);unfold ZcO;refine Vra.2 ⟨Zbw n i b c false,Zek g1 g2 g3 h3.symm (by rw[hfq];omega), ?_⟩;have t1:=ZdB (J:=J) (k:=1) (by omega);have t0:=ZdB (J:=J) (k:=0) (by omega);rw[show (2:Nat)=1+1 from rfl,t1,show (1:Nat)=0+1 from rfl,t0,ex,ey]
    have:Zju (Zcb q.1 0 p) (Zbw n i b c false)=ZdU p.1 p.2.1 a (a+p.2.2.1):=by have e1: (Zbw n i b c false).2.2.2.2.2.2.1=(Zac n i b).2.2.1:=rfl;have e2: (Zcb q.1 0 p).2.2.2.2.2.2.2.1=Vd .i64 (0+p.2.2.1):=rfl;unfold Zju;rw[e1,e2,hdep,Zae (x:=0+p.2.2.1) (by omega) (by omega),Zae (by omega) (by omega),show a+p.2.2.1 - (0+p.2.2.1)=a by omega];unfold Zcb ZdU;rw[f1']
    rw[this];rfl
end Q
namespace Q
open Tr Go
open Option (bind_some)
variable {n:Zat}
def Zd6:Zjw:=([(102:UInt8),(114:UInt8),(101:UInt8),(101:UInt8)],(0:Int),(1:Int),(16:Int),(0:Int),(255:Int),())
def Zhy:Zfo:=([Zd6],(0:Int),(0:Int),(0:Int),())
def ZoJ(r:ZdA):Prop:= ∃Z M:Nat,r.2.2.1=(Z:Int)/\Z<65536/\r.2.2.2.1=(M:Int)/\M<256
theorem Zxa(h:Zct n){x:Zaq}(hx:ZaN n x=true):ZoJ (ZfF n x):=by
 refine⟨ZlB n x,2 ^ (Zcn n x).2.1.toNat,rfl,ZnB h hx,rfl, ?_⟩
 have hm: (Zcn n x).2.1<=7:=by
  unfold ZaN at hx;simp only[Vi]at hx;have hm:=Zgw hx.1;have h1:=h.route _ hm;have hl: (rn n x.2.1).2.2.2.2.1.toNat<n.2.1.length:=by omega
  unfold Zcn;rw[Zak hl];exact(h.mode _ (Vj hl)).2
 exact Nat.lt_of_le_of_lt (Vgc (by omega) (show (Zcn n x).2.1.toNat<=7 by omega)) (by decide)
theorem ZxE(h:Zct n){x:Zaq}(hx:ZaN n x=true){l:List ZdA}(hl: ∀r∈l,ZoJ r): ∀r∈Zc2 n x l,ZoJ r:=by
 intro r hr;unfold Zc2 at hr;split at hr
 ·next v hv=>
  unfold ZhH at hr;rcases Vpb hr with hr|rfl
  ·exact hl r hr
  ·obtain⟨Z,M,h1,h2,h3,h4⟩:=hl v (Voa hv);obtain⟨Z',M',g1,g2,g3,g4⟩:=Zxa h hx;have g1' : ((ZlB n x:Nat):Int)=(Z' :Int):=g1;have g3' : ((2 ^ (Zcn n x).2.1.toNat:Nat):Int)=(M' :Int):=g3;refine⟨Z ||| Z',M ||| M', ?_,Vlc (n:=16) h2 g2, ?_,Vlc (n:=8) h4 g4⟩
   ·show qor .i64 v.2.2.1 ((ZlB n x:Nat):Int)=_;rw[h1,g1',Znj h2 g2]
   ·show qor .i64 v.2.2.2.1 ((2 ^ (Zcn n x).2.1.toNat:Nat):Int)=_;rw[h3,g3',Znj (by omega) (by omega)]
 ·exact hl r hr
theorem ZxC(h:Zct n): ∀ (L:List Zaq) (w:Bool) (out:List ZdA),(∀r∈out,ZoJ r)->(∀r∈(Zbu n L w out).1,ZoJ r)/\(Zbu n L w out).1.length<=out.length+Zal L
 | [],_,out,ho=>⟨ho,Nat.le_add_right _ _⟩
 |x::L,w,out,ho=>by
  have hn:Zal (x::L)=Zal [x]+Zal L:=Zbc [x] L
  have h1:Zal [x]=if ZeB x then 1 else 0:=by
   unfold Zal
   cases hc:ZeB x<;>simp [hc]
  rw[ZcP,hn,h1];by_cases c1:x.1=true/\ZaN n x=false
  ·rw[if_pos c1];exact⟨fun r hr=>absurd hr (by simp),Vda _⟩
  rw[if_neg c1];by_cases c2:Za3 x=true/\(x.1=false\/w=false)
  ·rw[if_pos c2];exact⟨fun r hr=>absurd hr (by simp),Vda _⟩
  rw[if_neg c2];by_cases c3:x.1=true
  ·rw[if_pos c3]
   have hx:ZaN n x=true:=by
    cases e:ZaN n x with
    |true=>rfl
    |false=>exact absurd ⟨c3,e⟩ c1
   cases hs:Za3 x with
   |true=>
    rw[if_pos rfl];obtain⟨a,b⟩:=ZxC h L true (Zc2 n x out) (ZxE h hx ho);rw[ZgX]at b
    exact⟨a,by omega⟩
   |false=>
    rw[if_neg (by simp)]
    obtain⟨a,b⟩:=ZxC h L true (out++[ZfF n x]) (fun r hr=>by
     rcases Vm.1 hr with hr|hr
     ·exact ho r hr
     ·rw[Vg.1 hr];exact Zxa h hx)
    refine⟨a, ?_⟩;have:ZeB x=true:=by unfold ZeB;rw[c3,hs];rfl
    rw[this,if_pos rfl];rw[Ve,Vl]at b;omega
  ·rw[if_neg c3];obtain⟨a,b⟩:=ZxC h L false out ho;exact⟨a,by omega⟩
theorem ZuL: ((Vs 256).all fun M=>decide (Tr.qandNot .i64 (M:Int) 255=0))=true:=by kernel_rfl
theorem Zts(M:Nat)(h:M<256):Tr.qandNot .i64 (M:Int) 255=0:=of_decide_eq_true (List.all_eq_true.1 ZuL M (Vxa.2 h))
theorem Zwk{Z:Nat}(hZ:Z<65536): ∃r:Int,F80 (Z:Int)=some r/\r<=16:=by
 unfold F80
 suffices h: ∃r:Int,run _ ((0:Int),(0:Int))=some r/\r<=16 by obtain⟨r,h,h2⟩:=h;exact⟨r,by rw[h];rfl,h2⟩
 refine ZaL 62 (fun r:Int=>r<=16) (fun i (s:Int×Int)=>s.2=(i:Int)/\s.1<=(i:Int)/\s.1<=16/\0<=s.1) ?_ ?_ _ ⟨rfl,by simp,by simp,by simp⟩
 ·rintro i ⟨a,b⟩ hi ⟨hb,h1,h2,h3⟩;left;simp only at hb h1 h2 h3;subst hb;have w2:Vd .i64 ((i:Int)+1)=((i+1:Nat):Int):=by rw[Zae (by omega) (by omega)];omega
  have w1:Vd .i64 (a+1)=a+1:=Zae (by omega) (by omega)
  have hs: ∃y,ZqT .i64 (Z:Int) (i:Int)=some y/\(16<=i->y=0):=by
   unfold ZqT;rw[if_neg (by omega)];refine⟨_,rfl,fun h16=> ?_⟩;have e1:min (Vrc (i:Int)) IntKind.i64.bits=i:=by rw[Vp];show min i 64=i;omega
   have hlt:Z<2 ^ i:=Nat.lt_of_lt_of_le (show Z<2 ^ 16 by omega) (Vgc (by omega) h16)
   have e2:Int.fdiv (Z:Int) (2 ^ i)=0:=by
    have e: ((2:Int) ^ i)=((2 ^ i:Nat):Int):=by simp
    rw[e,Int.fdiv_eq_ediv_of_nonneg _ (by omega)];exact Int.ediv_eq_zero_of_lt (by omega) (by omega)
   rw[e1,e2]
  obtain⟨y,hy,hy0⟩:=hs;simp only[decide_eq_true (show (i:Int)<62 by omega),cond_true,hy,bind_some,w2,w1];by_cases h16:16<=i
  ·rw[hy0 h16];have:decide (Zos .i64 0 1=1)=false:=by decide
   rw[this];exact⟨_,rfl,rfl,by show a<=_;omega,h2,h3⟩
  ·cases decide (Zos .i64 y 1=1) with
   |true=>exact⟨_,rfl,rfl,by show a+1<=_;omega,by show a+1<=16;omega,by show 0<=a+1;omega⟩
   |false=>exact⟨_,rfl,rfl,by show a<=_;omega,h2,h3⟩
 ·rintro ⟨a,b⟩ ⟨hb,h1,h2,h3⟩;simp only at hb;subst hb;exact⟨_,rfl,h2⟩
theorem Zp4{l:List ZdA}{i:Nat}(hi:i<l.length)(hl:l.length<=100)(hg:ZoJ l[i]):F74 Zd6 l (i:Int) (i:Int)=some true:=by
 obtain⟨Z,M,h1,h2,h3,h4⟩:=hg;unfold F74
 have hrun:run (fun s0:Int×Int×Int=>
 bif decide (s0.2.2<=(i:Int)) then
 Vq (idx l s0.2.2) fun x1=>
 Vq (idx l s0.2.2) fun x2=>
 some (.inl (qor .i64 s0.1 x1.2.2.1,qor .i64 s0.2.1 x2.2.2.2.1,Vd .i64 (s0.2.2+(1:Int))))
 else some (.inr (s0.1,s0.2.1))) ((0:Int),(0:Int),(i:Int))=some ((Z:Int),(M:Int)):=by
  refine(ZcI (s' :=((Z:Int),(M:Int),((i+1:Nat):Int))) ?_).trans (ZbC ?_)
  ·have w:Vd .i64 ((i:Int)+1)=((i+1:Nat):Int):=by rw[Zae (by omega) (by omega)];omega
   have e1:qor .i64 0 (Z:Int)=(Z:Int):=by have:=Znj (a:=0) (b:=Z) (by omega) h2;rw[Nat.zero_or]at this;exact this
   have e2:qor .i64 0 (M:Int)=(M:Int):=by have:=Znj (a:=0) (b:=M) (by omega) (by omega);rw[Nat.zero_or]at this;exact this
   simp only[decide_eq_true (Vwa (i:Int)),cond_true,Zaf hi,bind_some,h1,h3,e1,e2,w]
  ·rw[decide_eq_false (show¬ ((i+1:Nat):Int)<=(i:Int) by omega)];rfl
 obtain⟨b,b1,b2⟩:=Zwk h2;rw[hrun];have w:Vd .i64 (Vd .i64 ((i:Int) - (i:Int))+1)=1:=by rw[Int.sub_self];decide
 have p1:Zd6.2.2.1=1:=rfl;have p2:Zd6.2.2.2.1=16:=rfl;have p3:Zd6.2.2.2.2.2.1=255:=rfl
 have hw:F81 (l[i]).1 (l[i]).1 Zd6.2.2.2.2.1=some true:=by unfold F81;rw[decide_eq_true (Vwa _)];rfl
 simp only[bind_some,w,p1,p2,p3,b1,Zaf hi,hw,Zts M h4];rw[decide_eq_true (Vwa 1),decide_eq_true b2];rfl
def OkT(m lo:Nat)(T:List ZdR):Prop:=ZgG m T/\ ∀j r,lo<=j->T[j]? =some r->r.1=true
theorem OkT.put{m lo:Nat}{T:List ZdR}(h:OkT m lo T){i:Nat}{r:ZdR}(hr:r.2.2.1.length+i<=m)(hk:r.1=true):OkT m lo (T.set i r):=by
 refine⟨h.1.put hr,fun j s hj hs=> ?_⟩;by_cases hij:i=j
 ·subst hij;by_cases hi:i<T.length
  ·rw[Vua hi]at hs;obtain rfl:=Option.some.inj hs;exact hk
  ·rw[Vzb (by rw[Vta];omega)]at hs;cases hs
 ·rw[Vfc hij]at hs;exact h.2 j s hj hs
theorem OkT.down{m i:Nat}{T:List ZdR}(h:OkT m (i+1) T)(hi: ∀r,T[i]? =some r->r.1=true):OkT m i T:=
 ⟨h.1,fun j r hj hr=>by
  by_cases e:j=i
  ·subst e;exact hi r hr
  ·exact h.2 j r (by omega) hr⟩
theorem Zqa(l:List ZdA)(hl:l.length<=8)(hg: ∀r∈l,ZoJ r): ∃R,F76 Zhy l=some R/\R.2.2=true:=by
 unfold F76;have w0:Vd .i64 ((l.length:Int)+1)=((l.length+1:Nat):Int):=by rw[Zae (by omega) (by omega)];omega
 have hgd:Zan (decide ((0:Int)<=((l.length+1:Nat):Int)/\((l.length+1:Nat):Int)<=((l.length+1:Nat):Int)/\((l.length+1:Nat):Int)<=(Zam:Int)))=some ():=by
  have hm: (Zam:Int)=549755813888:=by simp [Zam]
  rw[decide_eq_true (by rw[hm];omega)];rfl
 have hrep: ∀o:List ZdR,o=Vr (l.length+1) (false,0,[],())->inb (l.length:Int) o.length=some l.length/\o[l.length]? =some (false,0,[],()):=by rintro o rfl;exact⟨ZaB (by simp),by rw[Vvb,if_pos (by omega)]⟩
 obtain⟨r1,r2⟩:=hrep _ rfl;rw[w0];erw[hgd];simp only[bind_some,Vp];erw[r1];simp only[bind_some];erw[r2];simp only[bind_some]
 have key: ∀ (o:Option (List ZdR)) (k:List ZdR->Option (Int×List TkT×Bool)),(∃T,o=some T/\OkT l.length 0 T)->(∀T,OkT l.length 0 T-> ∃R,k T=some R/\R.2.2=true)-> ∃R,Vq o k=some R/\R.2.2=true:=by rintro o k ⟨T,rfl,h⟩ hk;exact hk T h
 refine key _ _ (ZaL l.length _ (fun c (s:List ZdR×Int)=> ∃T,s=(T,(l.length:Int) - 1 - (c:Int))/\OkT l.length (l.length - c) T) ?_ ?_ _ ?_) ?_
 ·rintro c _ hc ⟨T,rfl,hT⟩;left;obtain⟨i,hi⟩: ∃i:Nat,(l.length:Int) - 1 - (c:Int)=(i:Int):=⟨l.length - 1 - c,by omega⟩;have hil:i<l.length:=by omega
  rw[show l.length - c=i+1 by omega]at hT;rw[show l.length - (c+1)=i by omega];rw[hi];rw[decide_eq_true (show (0:Int)<=(i:Int) by omega)];simp only[cond_true];refine Zf4 (fun T' =>OkT l.length i T') ?_ ?_
  ·refine ZaL (l.length - i) _ (fun m (s:List ZdR×Int)=> ∃T,s=(T,((i+m:Nat):Int))/\OkT l.length (i+1) T/\(0<m-> ∀r,T[i]? =some r->r.1=true)) ?_ ?_ _ ⟨T,rfl,hT,fun e=>absurd e (Vsc 0)⟩
   ·rintro m _ hm ⟨T,rfl,hT,hok⟩;left;have hk:i+m<l.length:=by omega
    have e1:Vd .i64 (((i+m:Nat):Int)+1)=((i+m+1:Nat):Int):=by rw[Zae (by omega) (by omega)];omega
    have hTl:=hT.1.1;have hbk:inb ((i+m+1:Nat):Int) T.length=some (i+m+1):=ZaB (by omega);obtain⟨r,hr,hcr⟩:=hT.1.get (show i+m+1<=l.length by omega);have hrt:=hT.2 _ r (show i+1<=i+m+1 by omega) hr;simp only[Zav hk,cond_true,e1,hbk,hr,bind_some,hrt,Vk,cond_false];refine Zf4 (fun T' =>OkT l.length (i+1) T' /\ ∀r,T'[i]? =some r->r.1=true) ?_ ?_
    ·refine ZaL 1 _ (fun p (s:List ZdR×Int)=> ∃T,s=(T,(p:Int))/\OkT l.length (i+1) T/\(0<m+p-> ∀r,T[i]? =some r->r.1=true)) ?_ ?_ _ ⟨T,rfl,hT,hok⟩
     ·rintro p _ hp ⟨T,rfl,hT,hok⟩;left;have hp0:p=0:=by omega
      subst hp0;have hTl:=hT.1.1;have hbk:inb ((i+m+1:Nat):Int) T.length=some (i+m+1):=ZaB (by omega);have hbi:inb (i:Int) T.length=some i:=ZaB (by omega);obtain⟨rk,hrk,hck⟩:=hT.1.get (show i+m+1<=l.length by omega);obtain⟨ri,hri,hci⟩:=hT.1.get (show i<=l.length by omega)
      obtain⟨cv,hcv,hc1⟩: ∃cv,F74 Zd6 l (i:Int) ((i+m:Nat):Int)=some cv/\(m=0->cv=true):=by
       by_cases hm0:m=0
       ·subst hm0;exact⟨true,Zp4 hil (by omega) (hg _ (Vj hil)),fun _=>rfl⟩
       ·obtain⟨cv,hcv⟩:=Zjk Zd6 (show i<=i+m by omega) hk (by omega);exact⟨cv,hcv,fun e=>absurd e hm0⟩
      obtain⟨pr,hpr⟩:=Zja Zhy Zd6 hil (by omega);have hdl:decide (((0:Nat):Int)< (Zhy.1.length:Int))=true:=by decide
      have hix:idx Zhy.1 ((0:Nat):Int)=some Zd6:=rfl;have hw:Vd .i64 (((0:Nat):Int)+1)=((0+1:Nat):Int):=by decide
      simp only[hdl,cond_true,hix,bind_some,hcv,hpr,hbk,hbi,hrk,hri,hw]
      cases cv with
      |false=>
       refine⟨_,rfl,T,rfl,hT,fun _=>hok ?_⟩;by_cases hm0:m=0
       ·cases hc1 hm0
       ·omega
      |true=>
       simp only[Vk,cond_false];refine Zf4 (fun b=>b=true->ri.1=true) ?_ fun b hb=> ?_
       ·cases hri1:ri.1 with
        |false=>exact⟨_,rfl,fun e=>by cases e⟩
        |true=>
         simp only[cond_true]
         cases decide (ri.2.1<Vd .i64 (pr+rk.2.1)) with
         |true=>exact⟨_,rfl,fun _=>trivial⟩
         |false=>
          simp only[cond_false]
          cases decide (Vd .i64 (pr+rk.2.1)=ri.2.1)<;>exact⟨_,rfl,fun _=>trivial⟩
       ·cases b with
        |true=>
         refine⟨_,rfl,T,rfl,hT,fun _ r hr=> ?_⟩;rw[hri]at hr;rw[<-Option.some.inj hr]
         exact hb rfl
        |false=>
         simp only[cond_false]
         have hgd:Zan (decide (Vc [(((0:Nat):Int),(i:Int),((i+m:Nat):Int),pr,())]+Vc rk.2.2.1<=Zam))=some ():=by rw[decide_eq_true (by simp only[Vy,Vaa,Zam];omega)];rfl
         rw[hgd];simp only[bind_some];refine⟨_,rfl,_,rfl,hT.put (by simp only[Ve,Vy,Vaa];omega) rfl,fun _ r hr=> ?_⟩;rw[Vua (by omega)]at hr;rw[<-Option.some.inj hr]
     ·rintro _ ⟨T,rfl,hT,hok⟩;have hdl:decide (((1:Nat):Int)< (Zhy.1.length:Int))=false:=by decide
      simp only[hdl,cond_false];exact⟨_,rfl,hT,hok (by omega)⟩
    ·rintro T' ⟨hT',hok'⟩;exact⟨_,rfl,T',rfl,hT',fun _=>hok'⟩
   ·rintro _ ⟨T,rfl,hT,hok⟩;rw[show i+(l.length - i)=l.length by omega];simp only[Zaw,cond_false];exact⟨_,rfl,hT.down (hok (by omega))⟩
  ·intro T' hT';have e1:Vd .i64 ((i:Int) - 1)=(l.length:Int) - 1 - ((c+1:Nat):Int):=by rw[Zae (by omega) (by omega)];omega
   rw[e1];exact⟨_,rfl,T',rfl,hT'⟩
 ·rintro _ ⟨T,rfl,hT⟩;rw[decide_eq_false (show¬ (0:Int)<=(l.length:Int) - 1 - (l.length:Int) by omega)];rw[Nat.sub_self]at hT;exact⟨_,rfl,hT⟩
 ·refine⟨(Vr (l.length+1) ((false,0,[],()):ZdR)).set l.length (true,0,[],()), ?_,ZgG.put ⟨by simp,fun j r hr=> ?_⟩ (by simp),fun j r hj hr=> ?_⟩
  ·rw[Zae (by omega) (by omega)];simp only[Int.natCast_zero,Int.sub_zero]
  ·rw[Vvb]at hr;split at hr
   ·obtain rfl:=Option.some.inj hr;simp;omega
   ·cases hr
  ·have hjl:j<l.length+1:=by have:=(Vqb.1 hr).1;simp at this;omega
   have:j=l.length:=by omega
   subst this;rw[Vua (by simp)]at hr;rw[<-Option.some.inj hr]
 ·intro T hT;obtain⟨r,hr,_⟩:=hT.1.get (Vda _);have hb:inb (0:Int) T.length=some 0:=ZaB (i:=0) (by rw[hT.1.1];omega);have hrt:=hT.2 0 r (Vh _) hr;simp only[hb,bind_some,hr];exact⟨_,rfl,hrt⟩
end Q
namespace Q
open Tr Go
open Option (bind_some)
variable {n:Zat}{q:Za5}
def frN(n:Zat):Zat:=(n.1,n.2.1,n.2.2.1,n.2.2.2.1,n.2.2.2.2.1,Zhy,())
def qS(q:Za5)(s:Int):Za5:=(q.1,s,q.2.2.1,q.2.2.2.1,q.2.2.2.2.1,86400,q.2.2.2.2.2.2)
theorem ZpX(n:Zat):F112 n=some (frN n):=rfl
open Classical in
theorem Zo6: (ZhL Zhy).2=0:=by
 have h1:Zqn Zhy=true:=by decide
 have hv:Zbg Zd6.1=true:=by decide
 have hn:ZjB Zd6=true:=by decide
 have hz:Zhp Zhy.1 0=0:=Zcp.2 ⟨by show¬Zbg Zd6.1=false;rw[hv];simp,by rintro ⟨j,hj,_⟩;omega,by show¬ZjB Zd6=false;rw[hn];simp⟩;unfold ZhL;rw[if_neg (by rw[h1];simp),if_neg (by decide)]
 have:Zay Zhy.1.length (Zhp Zhy.1)=none:=Zaz.2 fun i hi=>by
  have hi' :i<1:=hi;have:i=0:=by omega
  rw[this];exact hz
 unfold pick;rw[this]
theorem ZfC(h:Whole n):Whole (frN n):=⟨h.s,h.t,h.u,h.f,h.v,h.g,h.q,h.w,Zo6⟩
theorem Zrf(h:Fit n):Fit (frN n):=⟨h.stops,h.routes,h.runs,h.calls,h.paths,fun x hx=>by rw[Vg.1 hx];decide⟩
theorem Zrg(h:Tin n):Tin (frN n):=⟨h.stops,h.runs,h.paths,h.calls⟩
theorem Der.toFr{s0 t0 w:Int}{f:Znp}{js:List Zaq}(d:Der n s0 t0 w f js):Der (frN n) s0 t0 w f js:=by
 induction d with
 |init=>exact .init
 |here=>exact .here
 |rdyW h1 h2 h3=>exact .rdyW h1 h2 h3
 |arrW h1 h2 h3=>exact .arrW h1 h2 h3
 |board d h1 h2 h3 h4 h5 h6 ih=>exact .board ih h1 h2 h3 h4 h5 h6
 |on d h1 h2 ih=>exact .on ih h1 h2
 |stay d h1 h2 h3 ih=>exact .stay ih h1 h2 h3
 |link d h1 h2 h3 h4 ih=>exact .link ih h1 h2 h3 h4
 |linked d h1 ih=>exact .linked ih h1
 |ride d h1 ih=>exact .ride ih h1
 |change d ih=>exact .change ih
 |rdyV d h1 h2 h3 ih=>exact .rdyV ih h1 h2 h3
 |arrR d ih=>exact .arrR ih
 |arrV d h1 h2 h3 ih=>exact .arrV ih h1 h2 h3
theorem Der.ofFr{s0 t0 w:Int}{f:Znp}{js:List Zaq}(d:Der (frN n) s0 t0 w f js):Der n s0 t0 w f js:=by
 induction d with
 |init=>exact .init
 |here=>exact .here
 |rdyW h1 h2 h3=>exact .rdyW h1 h2 h3
 |arrW h1 h2 h3=>exact .arrW h1 h2 h3
 |board d h1 h2 h3 h4 h5 h6 ih=>exact .board ih h1 h2 h3 h4 h5 h6
 |on d h1 h2 ih=>exact .on ih h1 h2
 |stay d h1 h2 h3 ih=>exact .stay ih h1 h2 h3
 |link d h1 h2 h3 h4 ih=>exact .link ih h1 h2 h3 h4
 |linked d h1 ih=>exact .linked ih h1
 |ride d h1 ih=>exact .ride ih h1
 |change d ih=>exact .change ih
 |rdyV d h1 h2 h3 ih=>exact .rdyV ih h1 h2 h3
 |arrR d ih=>exact .arrR ih
 |arrV d h1 h2 h3 ih=>exact .arrV ih h1 h2 h3
def Zsx(n:Zat)(q:Za5):Int:=bif q.2.2.2.2.2.2.2.2.2.1 then(Zcm (ZaS n q) q.1).2.2.2.1 else 0
theorem ZrU(h:Zct n){L:List Zaq}(hg: (Zbu (frN n) L false []).2=0)(hr:Zal L<=8):ZsO (frN n) L=0:=by have hS:Zct (frN n):=⟨h.stops,h.runs,h.links,h.zone,h.mode,h.route,h.many,h.call,h.time,h.base,Zo6⟩;obtain⟨g1,g2⟩:=ZxC hS L false [] (fun r hr=>absurd hr (by simp));rw[Vaa,Vcb]at g2;obtain⟨R,r1,r2⟩:=Zqa _ (by omega) g1;unfold ZsO ZtB;rw[decide_eq_true hg,decide_eq_false (by omega)];have: (frN n).2.2.2.2.2.1=Zhy:=rfl;rw[this,r1];simp only[Vk,cond_false,r2,cond_true]
structure ZjX (n:Zat) (q:Za5):Prop where
 tiny:ZwQ n
 fit:Fit n
 few:Few n
 que:qB n.1.length q=true
 fwd:q.2.2.2.1=false
 three:q.2.2.2.2.1<=3
theorem ZjX.qS(C:ZjX n q){s:Int}(hs:0<=s/\s< (n.1.length:Int)):qB (frN n).1.length (qS q s)=true:=by have hq:=C.que;unfold qB at hq ⊢;simp only[Vi,decide_eq_true_eq,Zef]at hq ⊢;exact⟨hq.1,hs,hq.2.2.1,hq.2.2.2.1,(show (0:Int)<=86400/\(86400:Int)<=86400 by omega),hq.2.2.2.2.2.1,hq.2.2.2.2.2.2⟩
theorem ZjX.possible(C:ZjX n q){s:Int}(hs:0<=s/\s< (n.1.length:Int)): ∃out,F110 n q s=some out/\Zxy (frN n) (Q.qS q s) out:=by have hq:=C.que;unfold qB at hq;simp only[Vi,decide_eq_true_eq]at hq;obtain⟨m,hm⟩: ∃m:Nat,q.2.2.2.2.1=(m:Int):=⟨q.2.2.2.2.1.toNat,by omega⟩;have h3:=C.three;have hT:Tin n:=⟨C.tiny.stops,C.tiny.runs,C.tiny.paths,fun i hi=>by rw[Zdg hi];exact C.tiny.calls _ (Vj hi)⟩;obtain⟨out,o1,o2⟩:=Zql (n:=frN n) (q:=Q.qS q s) (Zrf C.fit) (ZfC C.tiny.whole) (Zrg hT) (show Zhy.1.length<=4096 by decide) (C.qS hs) C.fwd hm (by omega);refine⟨out, ?_,o2⟩;unfold F110;rw[ZpX];simp only[bind_some];have e:F83 (frN n) (q.1,s,q.2.2.1,q.2.2.2.1,q.2.2.2.2.1,(86400:Int),q.2.2.2.2.2.2)=some out:=o1;rw[e];rfl
theorem ZjX.der(C:ZjX n q){s:Int}{L:List Zaq}(h: (ZbF (frN n) (Q.qS q s) L).2=0): (Zal L:Int)<=q.2.2.2.2.1/\ ∃js,Der (ZaS n q) q.1 q.2.2.1 (Zsx n q) (.arr (Zal L) s (Za0 q L)) js:=by
 have hq:=C.que;unfold qB at hq;simp only[Vi,decide_eq_true_eq,Zef]at hq;have hN:Zcu (ZaS (frN n) (Q.qS q s)):=(ZgE _ (show (frN n).2.2.2.2.1.length<=4096 from C.fit.paths) (ZfC C.tiny.whole)).ok;rcases (ZeK (frN n) (Q.qS q s) L).1 h with ⟨_,⟨h0,he⟩ | ⟨h0,hat,hend⟩⟩
 ·rw[Vva h0];have he' :q.1=s:=he;refine⟨by show (0:Int)<=_;omega,[], ?_⟩;have:Za0 q []=q.2.2.1:=rfl;rw[this, <-he'];exact .here
 ·obtain⟨js,d⟩:=Zxv (n:=ZaS (frN n) (Q.qS q s)) (q:=Q.qS q s) hN hq.1 hq.2.2.1 C.fwd (L:=L) (by omega) (fun i hi=>Zpb.2 (hat i hi));unfold ZrH at hend;rw[Zas (by omega),Zas (by omega),Zas (by omega)]at hend;obtain⟨e1,_,e2,_⟩:=hend
  have e1' : (lg L (L.length - 1)).2.2.2.2.2.1=s:=by
   have e1: (!decide ((lg L (L.length - 1)).2.2.2.2.2.1=s))=false:=e1;by_cases e: (lg L (L.length - 1)).2.2.2.2.2.1=s
   ·exact e
   ·rw[decide_eq_false e]at e1;cases e1
  have e2' : (Zal L:Int)<=q.2.2.2.2.1:=by rw[decide_eq_false_iff_not]at e2;have: ¬q.2.2.2.2.1< (Zal L:Int):=e2;omega
  refine⟨e2',js, ?_⟩;rw[e1']at d;unfold Za0;rw[if_neg h0];exact Der.ofFr d
theorem ZjX.member(C:ZjX n q){s:Int}(hs:0<=s/\s< (n.1.length:Int)){k:Nat}{t:Int}{js:List Zaq}(d:Der (ZaS n q) q.1 q.2.2.1 (Zsx n q) (.arr k s t) js)(hk: (k:Int)<=q.2.2.2.2.1): (ZbF (frN n) (Q.qS q s) (ZdH js)).2=0:=by
 have hq:=C.que;unfold qB at hq;simp only[Vi,decide_eq_true_eq,Zef]at hq;have hW' :=ZfC C.tiny.whole;have hN:Zcu (ZaS (frN n) (Q.qS q s)):=(ZgE _ (show (frN n).2.2.2.2.1.length<=4096 from C.fit.paths) hW').ok;have d' :Der (ZaS (frN n) (Q.qS q s)) q.1 q.2.2.1 (Zsx n q) (.arr k s t) js:=d.toFr;have hck:Zkl (frN n) (Q.qS q s)=0:=ZfD.2 ⟨hW',C.qS hs⟩;have hrd:=d.rides;simp only at hrd;have hrf:Zal (ZdH js)=k:=by rw[ZhJ,hrd]
 have h3:=C.three;obtain⟨l1,l2⟩:=ZuC (n:=ZaS (frN n) (Q.qS q s)) (q:=Q.qS q s) hN hq.1 hq.2.2.1 d';have hat:=ZvK (n:=ZaS (frN n) (Q.qS q s)) (q:=Q.qS q s) hN hq.1 hq.2.2.1 C.fwd l1 l2;have hat' : ∀i,i< (ZdH js).length->atE (frN n) (Q.qS q s) (ZdH js) i=0:=fun i hi=>Zpb.1 (hat i hi);refine(ZeK (frN n) (Q.qS q s) (ZdH js)).2 ⟨hck, ?_⟩;rcases d.arr_last with ⟨rfl,_,e⟩ | ⟨ks,x,rfl,x1,x2⟩
 ·exact .inl ⟨rfl,e.symm⟩
 ·obtain⟨ks',x',e',x3,x4⟩:=Zns ks x;have hne: (ZdH (ks++[x])).length≠0:=by rw[e'];simp
  refine .inr ⟨hne,hat', ?_⟩;have hF:=Zon (by omega) hat';have hwk:=(hF.walks hW'.ok (by omega) ((ZdH (ks++[x])).length - 1) (by omega)).2.2;rw[show (ZdH (ks++[x])).length - 1+1=(ZdH (ks++[x])).length by omega,Vf,hrf]at hwk
  have hw2:ZeT (ZdH (ks++[x]))<=86400:=by
   have: (if (lg (ZdH (ks++[x])) ((ZdH (ks++[x])).length - 1)).1=true then(0:Int) else 14400)<=14400:=by split<;>omega
   omega
  have hgo: (Zbu (frN n) (ZdH (ks++[x])) false []).2=0:=by have:=Zwp hN hat;rw[Ze4]at this;exact this
  have hto: (lg (ZdH (ks++[x])) ((ZdH (ks++[x])).length - 1)).2.2.2.2.2.1=s:=by rw[e',Ze6,x4,x2]
  unfold ZrH;rw[Zas (by omega),Zas (by omega),Zas (by omega),Zas (by omega),hto,hrf];refine⟨by show (!decide (s=s))=false;simp, ?_, ?_, ?_,ZrU C.tiny.whole.sound hgo (by omega)⟩
  ·show (q.2.2.2.1&&_)=false;rw[C.fwd];rfl
  ·exact decide_eq_false (by show¬q.2.2.2.2.1< (k:Int);omega)
  ·exact decide_eq_false (by show¬ (86400:Int)<_;omega)
end Q
namespace Q
open Tr Go
open Option (bind_some)
variable {n:Zat}{q:Za5}
def ZgD{α:Type}(p:α->Prop)(v:α->Int)(l:List α)(e:Int):Prop:=(e= -1/\ ∀y∈l, ¬p y)\/(∃y∈l,p y/\e=v y/\ ∀y' ∈l,p y' ->e<=v y')
theorem ZgD.no{α:Type}{p:α->Prop}{v:α->Int}{l:List α}{e:Int}(h:ZgD p v l e){x:α}(hx: ¬p x):ZgD p v (l++[x]) e:=by
 have hm: ∀ {y:α},y∈l++[x]->p y->y∈l:=fun hy hp=>by
  rcases Vm.1 hy with hy|hy
  ·exact hy
  ·rw[Vg.1 hy]at hp;exact absurd hp hx
 rcases h with ⟨h1,h2⟩ | ⟨y,h1,h2,h3,h4⟩
 ·exact .inl ⟨h1,fun y hy hp=>h2 y (hm hy hp) hp⟩
 ·exact .inr ⟨y,Vx _ h1,h2,h3,fun y' hy hp=>h4 y' (hm hy hp) hp⟩
theorem ZgD.less{α:Type}{p:α->Prop}{v:α->Int}{l:List α}{e:Int}(h:ZgD p v l e)(hv: ∀y∈l,0<=v y){x:α}(hx:p x)(hl:e<0\/v x<e):ZgD p v (l++[x]) (v x):=by
 refine .inr ⟨x,Vca _ (Vg.2 rfl),hx,rfl,fun y' hy hp=> ?_⟩;rcases Vm.1 hy with hy|hy
 ·rcases h with ⟨h1,h2⟩ | ⟨y,h1,h2,h3,h4⟩
  ·exact absurd hp (h2 y' hy)
  ·have:=h4 y' hy hp;have:=hv y h1;omega
 ·rw[Vg.1 hy];exact Vwa _
theorem ZgD.more{α:Type}{p:α->Prop}{v:α->Int}{l:List α}{e:Int}(h:ZgD p v l e){x:α}(hl: ¬ (e<0\/v x<e)):ZgD p v (l++[x]) e:=by
 rcases h with ⟨h1,h2⟩ | ⟨y,h1,h2,h3,h4⟩
 ·omega
 ·refine .inr ⟨y,Vx _ h1,h2,h3,fun y' hy hp=> ?_⟩;rcases Vm.1 hy with hy|hy
  ·exact h4 y' hy hp
  ·rw[Vg.1 hy];omega
theorem Zuz(q:Za5){out:List Zu5}(hs:out.length<=549755813000)(hl: ∀y∈out,y.1.length<=100)(hv: ∀y∈out,0<=Za0 q y.1)(k:Int): ∃e:Int,F107 q out k=some e/\ZgD (fun y:Zu5=>(Zal y.1:Int)<=k) (fun y=>Za0 q y.1) out e:=by
 unfold F107;refine ZwM (fun e:Int=>ZgD (fun y:Zu5=>(Zal y.1:Int)<=k) (fun y=>Za0 q y.1) out e) ?_ (fun e he=>⟨e,rfl,he⟩);refine ZaL out.length _ (fun i (st:Int×Int)=>st.2=(i:Int)/\ZgD (fun y:Zu5=>(Zal y.1:Int)<=k) (fun y=>Za0 q y.1) (out.take i) st.1) ?_ ?_ _ ⟨rfl, .inl ⟨rfl,by simp⟩⟩
 ·rintro i ⟨b,j⟩ hi ⟨hj,hM⟩;simp only at hj hM;subst hj;left;have hml:out[i]∈out:=Vj hi;have hr:F111 out[i]=some (Zal (out[i]).1:Int):=ZgW (L:=(out[i]).1) (by have:=hl _ hml;omega);have ha:F106 q out[i]=some (Za0 q (out[i]).1):=ZgM q (L:=(out[i]).1) (by have:=hl _ hml;omega);simp only[Zav hi,cond_true,Zaf hi,bind_some,hr,ha,Zai hi (show _<=9223372036854775807 by omega)];rw[Va hi];by_cases h1: (Zal (out[i]).1:Int)<=k
  ·rw[decide_eq_true h1];by_cases h2:b<0
   ·rw[decide_eq_true h2];exact⟨_,rfl,rfl,hM.less (fun y hy=>hv y (Vhc hy)) h1 (.inl h2)⟩
   ·rw[decide_eq_false h2];by_cases h3:Za0 q (out[i]).1<b
    ·rw[decide_eq_true h3];exact⟨_,rfl,rfl,hM.less (fun y hy=>hv y (Vhc hy)) h1 (.inr h3)⟩
    ·rw[decide_eq_false h3];exact⟨_,rfl,rfl,hM.more (by omega)⟩
  ·rw[decide_eq_false h1];exact⟨_,rfl,rfl,hM.no h1⟩
 ·rintro ⟨b,j⟩ ⟨hj,hM⟩;simp only at hj hM;subst hj;simp only[Zaw,cond_false];rw[Vf]at hM;exact⟨_,rfl,hM⟩
theorem ZuB(q:Za5){out:List Zu5}(hs:out.length<=549755813000)(hl: ∀y∈out,y.1.length<=100)(k:Int): ∃e:Int,F108 q out k=some e/\ZgD (fun y:Zu5=>Za0 q y.1<=k) (fun y=>(Zal y.1:Int)) out e:=by
 unfold F108;refine ZwM (fun e:Int=>ZgD (fun y:Zu5=>Za0 q y.1<=k) (fun y=>(Zal y.1:Int)) out e) ?_ (fun e he=>⟨e,rfl,he⟩);refine ZaL out.length _ (fun i (st:Int×Int)=>st.2=(i:Int)/\ZgD (fun y:Zu5=>Za0 q y.1<=k) (fun y=>(Zal y.1:Int)) (out.take i) st.1) ?_ ?_ _ ⟨rfl, .inl ⟨rfl,by simp⟩⟩
 ·rintro i ⟨b,j⟩ hi ⟨hj,hM⟩;simp only at hj hM;subst hj;left;have hml:out[i]∈out:=Vj hi;have hr:F111 out[i]=some (Zal (out[i]).1:Int):=ZgW (L:=(out[i]).1) (by have:=hl _ hml;omega);have ha:F106 q out[i]=some (Za0 q (out[i]).1):=ZgM q (L:=(out[i]).1) (by have:=hl _ hml;omega);simp only[Zav hi,cond_true,Zaf hi,bind_some,hr,ha,Zai hi (show _<=9223372036854775807 by omega)];rw[Va hi];have h0: ∀y∈out.take i,(0:Int)<=(Zal y.1:Int):=fun y _=>by omega
  by_cases h1:Za0 q (out[i]).1<=k
  ·rw[decide_eq_true h1];by_cases h2:b<0
   ·rw[decide_eq_true h2];exact⟨_,rfl,rfl,hM.less h0 h1 (.inl h2)⟩
   ·rw[decide_eq_false h2];by_cases h3: (Zal (out[i]).1:Int)<b
    ·rw[decide_eq_true h3];exact⟨_,rfl,rfl,hM.less h0 h1 (.inr h3)⟩
    ·rw[decide_eq_false h3];exact⟨_,rfl,rfl,hM.more (by omega)⟩
  ·rw[decide_eq_false h1];exact⟨_,rfl,rfl,hM.no h1⟩
 ·rintro ⟨b,j⟩ ⟨hj,hM⟩;simp only at hj hM;subst hj;simp only[Zaw,cond_false];rw[Vf]at hM;exact⟨_,rfl,hM⟩
theorem Zyg{n:Zat}{q:Za5}(C:ZjX n q)(hchk:ZuP n q=0){a:Nat}(ha:a<n.1.length): ∃f rs, ∃m:Nat, ∃out,F118 n q=some (f,rs,0)/\q.2.2.2.2.1=(m:Int)/\m<=3/\Zee (ZaS n q) q.1 q.2.2.1 (Zsx n q) m f rs/\Ctx (ZaS n q) q.1 q.2.2.1 (Zsx n q)/\F110 n q (a:Int)=some out/\Zxy (frN n) (qS q (a:Int)) out/\
  (∀y∈out,Zal y.1<=m/\0<=Za0 q y.1/\arrV rs (Zal y.1) a≠ -1/\ ∀k:Nat,Zal y.1<=k->k<=m->arrV rs k a≠ -1/\arrV rs k a<=Za0 q y.1)/\
  (∀k:Nat,k<=m->arrV rs k a≠ -1-> ∃y∈out,Zal y.1<=k/\Za0 q y.1=arrV rs k a):=by
 obtain⟨f,rs,h1,C1,hw,_,_,F⟩:=Zur C.fit C.few hchk;have hqb' :=C.que;unfold qB inR at hqb';simp only[Vi,decide_eq_true_eq]at hqb';have h3:=C.three;obtain⟨m,hm⟩: ∃m:Nat,q.2.2.2.2.1=(m:Int):=⟨q.2.2.2.2.1.toNat,by omega⟩;rw[hm,Vp]at F;have hs:0<=(a:Int)/\(a:Int)< (n.1.length:Int):=by omega
 obtain⟨out,o1,o2⟩:=C.possible hs;have hW' :=ZfC C.tiny.whole;refine⟨f,rs,m,out,h1,hm,by omega,F,C1,o1,o2,fun y hy=> ?_,fun k hk hne=> ?_⟩
 ·obtain⟨e1,js,d⟩:=C.der (o2.good y hy).1;have hrm:Zal y.1<=m:=by omega
  have hok:=C1.ok d;exact⟨hrm,hok.2.1,(F.complete hrm (Vh _) d).1,fun k h1 h2=>F.complete h2 h1 d⟩
 ·obtain⟨k',e1,js,_,d⟩:=F.sound hk hne;have hmem:=C.member hs d (by omega);have hin:=Zvj (n:=frN n) (q:=qS q (a:Int)) hW' C.fwd (show q.2.2.2.2.1<=8 by omega) o2 hmem;have hrd:=d.rides;simp only at hrd;exact⟨_,hin,by show Zal (ZdH js)<=k;rw[ZhJ,hrd];exact e1,Der.arrival d⟩
theorem Zxh{n:Zat}(h:Znf Y31 n){q:Za5}(hT:ZwQ n)(hq:qB n.1.length q=true)(hb:q.2.2.2.1=false)(h3:q.2.2.2.2.1<=3):ZjX n q/\ZuP n q=0:=by obtain⟨hfit,hfew,hchk,_⟩:=ZtL h hT hq hb;exact⟨⟨hT,hfit,hfew,hq,hb,h3⟩,hchk⟩
end Q
namespace Q
open Tr Go
open Option (bind_some)
variable {n:Zat}{q:Za5}
end Q
namespace Q
open Tr Go
open Option (bind_some)
variable {n:Zat}{q:Za5}
theorem ZjL.few(hW:Whole n)(hT:Tin n){J:List Zaq}(h:ZjL n q J): ∀k,k+1<=J.length->k+1+(if (lg J k).1=true then rnk n (lg J k).2.1.toNat else 0)<=9*Zal (J.take (k+1))+(if (lg J k).1=true then 0 else 1):=by
 have hN:=hW.ok;intro k
 induction k with
 |zero=>
  intro hk;have e:J.take (0+1)=[lg J 0]:=by rw[Va hk,ZjZ hk];rfl
  rw[e]
  cases hx: (lg J 0).1 with
  |true=>
   obtain⟨i,b,c,st,ex,_⟩:=ZbX (h.leg 0 hk) hx;have hs:=(Zce.1 h.fst).2.1;rw[ex]at hs ⊢;have hst:st=false:=hs;subst hst;have:=Zpe (n:=n) (Zbw n i b c false).2.1.toNat;rw[Zbn];simp only[if_true,Vn,if_false]
   omega
  |false=>simp
 |succ k ih=>
  intro hk;have hi:=ih (by omega);have hlt:k+1<J.length:=by omega
  have e:J.take (k+1+1)=J.take (k+1)++[lg J (k+1)]:=ZdB hlt;rw[e,Zbc]
  cases hx: (lg J (k+1)).1 with
  |false=>
   obtain⟨p,_,a,ex,_⟩:=Zbx hN (h.leg (k+1) hlt) hx;have hf:=(h.fol k hlt).1
   cases hy: (lg J k).1 with
   |false=>
    obtain⟨p',_,a',ey,_⟩:=Zbx hN (h.leg k (by omega)) hy;rw[ex,ey]at hf
    exact(Zkm _ _ _ _ _ _ _ _ _ hf).elim
   |true=>
    rw[hy]at hi;simp only[if_true]at hi;simp only[Vn,if_false]
    omega
  |true=>
   obtain⟨i,b,c,st,ex,g1,_⟩:=ZbX (h.leg (k+1) hlt) hx;simp only[if_true]
   cases st with
   |false=>
    have:=Zpe (n:=n) (lg J (k+1)).2.1.toNat;rw[ex]at this ⊢;rw[Zbn];simp only[Vn,if_false]
    have hi2:k+1<=9*Zal (J.take (k+1))+1:=by
     revert hi
     split<;>intro hi<;>omega
    omega
   |true=>
    have hst:Za3 (lg J (k+1))=true:=by rw[ex];rfl
    obtain⟨i',b',c',st',j',e',ey,ez,g⟩:=h.stay_link hN hlt hst;have hy: (lg J k).1=true:=by rw[ey];rfl
    rw[hy]at hi;simp only[if_true]at hi;have hj:j' <7:=by have:=(hN.isLink g).2.1;have:=hT.runs;omega
    have hr:=Zta hW hj (ZeI hW g);rw[ey]at hi;have t1: (Zbw n i' b' c' st').2.1.toNat=i' :=Vp i';rw[t1]at hi;rw[ez];have t2: (Zbw n j' 0 e' true).2.1.toNat=j' :=Vp j';rw[t2,Zbn];simp only[if_true];omega
theorem Zq0(n:Zat)(h:Znf Y31 n)(q:Za5):F26 n q=some true:=by
 unfold F26;obtain⟨b,hb1,hb2⟩:=Zm5 h q;rw[hb1]
 cases b with
 |false=>simp only[bind_some,Vu,cond_true,Zft]
 |true=>
  obtain⟨hT,hq,hbk,hm3⟩:=hb2 rfl;simp only[bind_some,Vk,cond_false];have hqb' :=hq;unfold qB inR at hqb';simp only[Vi,decide_eq_true_eq]at hqb';obtain⟨a,ha⟩: ∃a:Nat,q.2.1=(a:Int):=⟨q.2.1.toNat,by omega⟩;have hal:a<n.1.length:=by omega
  obtain⟨C,hchk⟩:=Zxh h hT hq hbk hm3;obtain⟨f,rs,m,out,h1,hm,hm3',F,C1,o1,o2,g1,g2⟩:=Zyg C hchk hal;have hst2:=hT.stops;have hm8:m<=8:=by omega
  obtain⟨e,e1,e2⟩:=Zuz q o2.size (fun y hy=>(o2.good y hy).2) (fun y hy=>(g1 y hy).2.1) q.2.2.2.2.1;rw[ha,o1];by_cases hv:arrV rs m a= -1
  ·have hee:e= -1:=by
    rcases e2 with ⟨x1,_⟩ | ⟨y,x1,_⟩
    ·exact x1
    ·have hy:=g1 y x1;exact absurd hv (hy.2.2.2 m hy.1 (Vh _)).1
   rw[Zlv F hm8 h1 ha hal hv];simp only[bind_some,e1,hee];rw[decide_eq_true (show (-1:Int)<0 by omega)];simp only[decide_true,cond_true,Vaa,bind_some,Zft];rfl
  ·obtain⟨k,k',js,q1,q2,q3,q4,q5,q6,q7⟩:=Zk4 F hm8 h1 ha hal hv;have hs:0<=(a:Int)/\(a:Int)< (n.1.length:Int):=by omega
   have hmem:=C.member hs q6 (by omega);have hW' :=ZfC C.tiny.whole;have hTin:Tin n:=⟨C.tiny.stops,C.tiny.runs,C.tiny.paths,fun i hi=>by rw[Zdg hi];exact C.tiny.calls _ (Vj hi)⟩;have hin:=Zvj (n:=frN n) (q:=qS q (a:Int)) hW' C.fwd (show q.2.2.2.2.1<=8 by omega) o2 hmem;have hrd:=q6.rides;simp only at hrd;have hrf:Zal (ZdH js)=k' :=by rw[ZhJ,hrd]
   have harr:=Der.arrival q6;have hnn:=Zee.nonneg C1 F (Vh m) (s:=a)
   have hee:e=arrV rs m a:=by
    rcases e2 with ⟨x1,x2⟩ | ⟨y,x1,x2,x3,x4⟩
    ·exact absurd (show (Zal (ZdH js):Int)<=q.2.2.2.2.1 by omega) (x2 _ hin)
    ·have hy:=g1 y x1;have h5:=hy.2.2.2 m hy.1 (Vh _);have x3' :e=Za0 q y.1:=x3;have x4' :e<=Za0 q (ZdH js):=x4 _ hin (show (Zal (ZdH js):Int)<=q.2.2.2.2.1 by omega);omega
   have hchk0:=ZeK (frN n) (qS q (a:Int)) (ZdH js)
   have hlen: (ZdH js).length<=40/\ZeT (ZdH js)<=86400:=by
    rcases (hchk0.1 hmem).2 with ⟨l0,_⟩ | ⟨l0,lat,lend⟩
    ·rw[Vva l0];exact⟨by simp,by decide⟩
    ·have hF:=Zon (by omega) lat;have hfew:=hF.few hW' (Zrg hTin) ((ZdH js).length - 1) (by omega);rw[show (ZdH js).length - 1+1=(ZdH js).length by omega,Vf,hrf]at hfew;unfold ZrH at lend;rw[Zas (by omega),Zas (by omega),Zas (by omega),Zas (by omega)]at lend;have hw:=lend.2.2.2.1;rw[decide_eq_false_iff_not]at hw;have hw' : ¬ (86400:Int)<ZeT (ZdH js):=hw;refine⟨?_,by omega⟩
     have: (if (lg (ZdH js) ((ZdH js).length - 1)).1=true then 0 else 1)<=1:=by split<;>omega
     omega
   have hposs:F109 n q (ZdH js,())=some true:=by
    unfold F109;rw[ZpX]
    have hfe:F86 (frN n) (q.1,q.2.1,q.2.2.1,q.2.2.2.1,q.2.2.2.2.1,(86400:Int),q.2.2.2.2.2.2) (ZdH js,())=some true:=by have:=Zfi (Zrf C.fit) (show (frN n).2.2.2.2.2.1.1.length<=4096 from (by decide:Zhy.1.length<=4096)) (qS q (a:Int)) (ZdH js) (by omega);rw[decide_eq_true hmem]at this;rw[ha];exact this
    simp only[bind_some,hfe,cond_true,Zg3 (ZdH js) (by omega),decide_eq_true hlen.2]
   obtain⟨e',f1,f2⟩:=ZuB q o2.size (fun y hy=>(o2.good y hy).2) (arrV rs m a)
   have hff:e' =(k' :Int):=by
    have hmin: ∀y∈out,Za0 q y.1<=arrV rs m a->k' <=Zal y.1:=by
     intro y hy hle;have hy1:=g1 y hy;have h5:=hy1.2.2.2 (Zal y.1) (Vh _) hy1.1;have h6:=F.falls' hy1.1 (Vh m) h5.1;by_cases hlt:Zal y.1<k
     ·exact absurd (show arrV rs (Zal y.1) a=arrV rs m a by omega) (q3 _ hlt)
     ·omega
    rcases f2 with ⟨x1,x2⟩ | ⟨y,x1,x2,x3,x4⟩
    ·exact absurd (show Za0 q (ZdH js)<=arrV rs m a by omega) (x2 _ hin)
    ·have x3' :e' =(Zal y.1:Int):=x3;have x4' :e' <=(Zal (ZdH js):Int):=x4 _ hin (show Za0 q (ZdH js)<=arrV rs m a by omega);have:=hmin y x1 x2;omega
   rw[q7];simp only[bind_some,e1,hee];rw[decide_eq_false (show¬arrV rs m a<0 by omega),decide_eq_false (show¬ (40:Int)< ((ZdH js).length:Int) by omega)];simp only[cond_false,decide_true,Vk,hposs,bind_some,ZgM q (show (ZdH js).length<9000000000 by omega),harr,cond_true,ZgW (show (ZdH js).length<9000000000 by omega),hrf,f1,hff,Zft]
theorem earliest41P(x:Zer F26A)(h:Zm9 F26A x):F26 x.1 x.2.1=some true:=Zq0 _ h.1 _
end Q
