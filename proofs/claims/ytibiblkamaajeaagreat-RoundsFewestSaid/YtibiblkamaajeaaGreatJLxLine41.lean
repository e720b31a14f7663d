/- Lines of a valid network: the list is made. Conditions: a valid network. -/
import Derived.Test.YtibiblkamaajeaaGreatJLxFilt41
import Derived.Test.YtibiblkamaajeaaGreatJLwJa2841
open Bool renaming and_eq_true ->Vh,not_true ->Vm,false_eq_true ->Vr,not_false ->Vw,true_and ->Vra,not_eq_true' ->Vkb,false_and ->Vwb,and_self ->Vbc,not_eq_false' ->Vdc,or_eq_true ->Vic
open Int renaming toNat_natCast ->Vq,le_refl ->Vua,toNat ->Vkc
open Go.IntKind renaming wrap ->Vc
open List renaming take_succ_eq_append_getElem ->Va,getElem?_eq_getElem ->Vb,length ->Vd,length_append ->Ve,mem_singleton ->Vf,take_length ->Vg,getElem_mem ->Vj,length_singleton ->Vk,mem_append ->Vl,mem_flatMap ->Vn,range ->Vo,map_append ->Vp,replicate ->Vt,length_map ->Vu,length_take ->Vv,mem_append_left ->Vx,flatMap_append ->Vy,mem_append_right ->Vaa,append_nil ->Vca,takeWhile_append_dropWhile ->Vea,length_cons ->Vfa,append_assoc ->Vga,sum_append ->Vha,map_cons ->Via,sum_cons ->Vja,drop ->Vka,length_filter_le ->Vla,length_nil ->Vma,take ->Vna,mem_of_getElem? ->Voa,filter_cons ->Vpa,mem_map ->Vqa,length_set ->Vsa,getElem?_set_self ->Vta,mem_range ->Vva,getElem?_append_left ->Vxa,eq_of_mem_replicate ->Vya,pairwise_cons ->Vza,take_append_of_le_length ->Vbb,range_succ ->Vdb,mem_filter ->Veb,eq_nil_of_length_eq_zero ->Vfb,getElem_of_mem ->Vhb,getElem?_append_right ->Vjb,mem_cons ->Vlb,mem_or_eq_of_mem_set ->Vmb,flatMap_cons ->Vnb,map_map ->Vrb,getElem?_replicate ->Vsb,take_of_length_le ->Vtb,getElem?_eq_none ->Vub,take_append_drop ->Vvb,pairwise_append ->Vyb,getElem?_set_ne ->Vzb,reverse_append ->Vcc,append_inj' ->Vfc,cons_append ->Vgc,any_eq_true ->Vhc,nil_append ->Vjc
open Nat renaming le_refl ->Vi,le_trans ->Vs,zero_le ->Vba,mul_le_mul_left ->Vda,mul_le_mul_right ->Vwa,zero_add ->Vab,not_lt_zero ->Vcb,le_of_eq ->Vgb,add_sub_cancel ->Vib,succ_mul ->Vpb,add_zero ->Vqb,add_le_add ->Vxb,pow_le_pow_right ->Vac,or_lt_two_pow ->Vec,lt_irrefl ->Vlc
open Option renaming bind ->Vz,getD_some ->Vob
namespace Q
open Tr Go
open Option (bind_some)
def ZmI(x y:Zbe):Bool:=decide (x.1=y.1) && (x.2.2.2.1==y.2.2.2.1) && (x.2.2.2.2.1==y.2.2.2.2.1) && !decide (y.2.1<x.2.1) && !decide (y.2.2.1<x.2.2.1)
def Zw3(a b:Zlk)(i:Nat):Int:=if ZmI (cl a.2.2.2.2.2.2.2.1 i) (cl b.2.2.2.2.2.2.2.1 i) then 0 else 1
def Zvw(a b:Zlk):Bool:=decide (a.2.2.2.2.1=b.2.2.2.2.1) && (a.2.2.2.2.2.1==b.2.2.2.2.2.1) &&decide (a.2.2.2.2.2.2.2.1.length=b.2.2.2.2.2.2.2.1.length) && (Zay a.2.2.2.2.2.2.2.1.length (Zw3 a b)).isNone
theorem ZoZ{l:List Zbe}{i:Nat}(h:i<l.length):cl l (i:Int)=l[i]:=by unfold cl;rw[show ((i:Nat):Int).toNat=i from rfl,Zak h]
theorem Znj(x y:Zbe):F33 x y=some (decide (x.1=y.1) && ((x.2.2.2.1==y.2.2.2.1) && (x.2.2.2.2.1==y.2.2.2.2.1))):=by unfold F33;rw[decide_eq_true rfl];simp only[Vra]
theorem ZiC(a b:Zlk)(hl:a.2.2.2.2.2.2.2.1.length<=9223372036854775807):F35 a b=some (Zvw a b):=by
 unfold F35 Zvw;by_cases h1:a.2.2.2.2.1=b.2.2.2.2.1
 case neg=>simp only[decide_eq_false h1,Vw,cond_true,bind_some,Vwb]
 simp only[decide_eq_true h1,Vm,cond_false,Vra]
 cases h2: (a.2.2.2.2.2.1==b.2.2.2.2.2.1) with
 |false=>simp only[Vw,cond_true,bind_some,Vwb]
 |true=>
  simp only[Vm,cond_false,Vra];by_cases h3:a.2.2.2.2.2.2.2.1.length=b.2.2.2.2.2.2.2.1.length
  case neg=>
   have h3' : ¬ ((a.2.2.2.2.2.2.2.1.length:Int)=(b.2.2.2.2.2.2.2.1.length:Int)):=by omega
   simp only[decide_eq_false h3,decide_eq_false h3',Vw,cond_true,bind_some,Vwb]
  have h3' : ((a.2.2.2.2.2.2.2.1.length:Int)=(b.2.2.2.2.2.2.2.1.length:Int)):=by omega
  simp only[decide_eq_true h3,decide_eq_true h3',Vm,cond_false,bind_some,Vra];rw[Za7 (n:=a.2.2.2.2.2.2.2.1.length) (fun i st=>st=(i:Int)) (Zw3 a b) (fun _=> .inr false) (.inl ()) ?_ ?_ ?_ (0:Int) rfl]
  ·unfold pick
   cases Zay a.2.2.2.2.2.2.2.1.length (Zw3 a b)<;>rfl
  ·rintro i _ hi rfl hc;have hi' :i<b.2.2.2.2.2.2.2.1.length:=by omega
   have hok:ZmI a.2.2.2.2.2.2.2.1[i] b.2.2.2.2.2.2.2.1[i]=true:=by
    unfold Zw3 at hc;rw[ZoZ hi,ZoZ hi']at hc;split at hc
    ·assumption
    ·omega
   simp only[ZmI,Vh,Vkb,decide_eq_true_eq]at hok;obtain⟨⟨⟨⟨k1,k2⟩,k3⟩,k4⟩,k5⟩:=hok;refine⟨((i+1:Nat):Int), ?_,rfl⟩;simp only[Zat hi,cond_true,Zaf hi,Zaf hi',bind_some,Znj,decide_eq_true k1,k2,k3,k4,k5,Vbc,Vm,cond_false,Zaj hi hl]
  ·rintro i _ hi rfl hc;have hi' :i<b.2.2.2.2.2.2.2.1.length:=by omega
   have hok:ZmI a.2.2.2.2.2.2.2.1[i] b.2.2.2.2.2.2.2.1[i]=false:=by
    unfold Zw3 at hc;rw[ZoZ hi,ZoZ hi']at hc;split at hc
    ·omega
    ·rename_i hh;simpa using hh
   simp only[Zat hi,cond_true,Zaf hi,Zaf hi',bind_some,Znj];unfold ZmI at hok;generalize decide (a.2.2.2.2.2.2.2.1[i].1=b.2.2.2.2.2.2.2.1[i].1)=b1 at*;generalize (a.2.2.2.2.2.2.2.1[i].2.2.2.1==b.2.2.2.2.2.2.2.1[i].2.2.2.1)=b2 at*;generalize (a.2.2.2.2.2.2.2.1[i].2.2.2.2.1==b.2.2.2.2.2.2.2.1[i].2.2.2.2.1)=b3 at*;generalize decide (b.2.2.2.2.2.2.2.1[i].2.1<a.2.2.2.2.2.2.2.1[i].2.1)=b4 at*;generalize decide (b.2.2.2.2.2.2.2.1[i].2.2.1<a.2.2.2.2.2.2.2.1[i].2.2.1)=b5 at*
   revert hok
   cases b1<;>cases b2<;>cases b3<;>cases b4<;>cases b5<;>intro hok<;>first|rfl|exact absurd hok (by decide)
  ·rintro _ rfl;simp only[Zaw,cond_false]
def ln(l:List Int)(i:Nat):Int:=(l[i]?).getD 0
theorem Zxh{l:List Int}{i:Nat}(h:i<l.length):ln l i=l[i]:=Zak h 0
def Zxr(x:Zlk):Bool:=x.2.2.2.2.2.2.1
theorem ZpG{n:Zas}(hc: ∀x∈n.2.2.1,x.2.2.2.2.2.2.2.1.length<=9223372036854775807)(a:Int): (rn n a).2.2.2.2.2.2.2.1.length<=9223372036854775807:=by
 unfold rn
 cases h:n.2.2.1[a.toNat]? with
 |none=>simp [u0]
 |some x=>exact hc x (Voa h)
theorem Zl8{n:Zas}{a:Int}(h:inR a n.2.2.1.length=true):idx n.2.2.1 a=some (rn n a):=Za5 h u0
abbrev calls(x:Zlk):List Zbe:=x.2.2.2.2.2.2.2.1
theorem Zvf{l:List Zbe}{c:Int}(h:inR c l.length=true):idx l c=some (cl l c):=Za5 h c0
def d0(n:Zas)(o:Int):Int:=(cl (calls (rn n o)) 0).2.2.1
def pLe(n:Zas)(d o:Int):Bool:=decide (d0 n o<=d)
def Zwh(n:Zas)(out:List Int)(m:Int):List Int:=out.takeWhile (pLe n (d0 n m))++m::out.dropWhile (pLe n (d0 n m))
def Zhw(n:Zas):Nat->List Int
 |0=>[]
 |m+1=>if Zxr (rn n m) then Zhw n m else Zwh n (Zhw n m) m
structure ZxB (n:Zas) (m:Nat) (out:List Int):Prop where
 srt:out.Pairwise fun a b=>d0 n a<=d0 n b
 el: ∀o∈out,0<=o/\o< (m:Int)/\Zxr (rn n o)=false
 nd:out.Nodup
 len:out.length<=m
 all: ∀k:Nat,k<m->Zxr (rn n k)=false->(k:Int)∈out
theorem ZsI{n:Zas}{d:Int} : ∀ {out:List Int},(out.Pairwise fun a b=>d0 n a<=d0 n b)-> ∀o∈out.dropWhile (pLe n d),d<d0 n o
 | [],_,o,h=>by simp at h
 |x::l,hs,o,h=>by
  rw[Vza]at hs;rw[List.dropWhile_cons]at h;split at h
  ·exact ZsI hs.2 o h
  ·rename_i hx
   have hx' :d<d0 n x:=by
    have: ¬d0 n x<=d:=by simpa [pLe] using hx
    omega
   rcases Vlb.1 h with rfl|h
   ·exact hx'
   ·have:=hs.1 o h;omega
theorem Zrv{n:Zas}{d:Int} : ∀ {out:List Int}, ∀o∈out.takeWhile (pLe n d),d0 n o<=d
 | [],o,h=>by simp at h
 |x::l,o,h=>by
  rw[List.takeWhile_cons]at h;split at h
  ·rename_i hx;rcases Vlb.1 h with rfl|h
   ·simpa [pLe] using hx
   ·exact Zrv o h
  ·simp at h
theorem ZxB.ins{n:Zas}{m:Nat}{out:List Int}(h:ZxB n m out)(hc:Zxr (rn n m)=false):ZxB n (m+1) (Zwh n out m):=by
 have e:out.takeWhile (pLe n (d0 n m))++out.dropWhile (pLe n (d0 n m))=out:=Vea
 have hp: (Zwh n out m).Perm ((m:Int)::out):=by unfold Zwh;refine(List.perm_middle).trans ?_;rw[e]
 have hs:=h.srt;rw[<-e]at hs;obtain⟨s1,s2,s3⟩:=Vyb.1 hs;refine⟨?_,fun o ho=> ?_, ?_,by rw[hp.length_eq];simp;exact h.len,fun k hk hck=> ?_⟩
 ·unfold Zwh;refine Vyb.2 ⟨s1,Vza.2 ⟨fun o ho=> ?_,s2⟩,fun a ha b hb=> ?_⟩
  ·have:=ZsI h.srt o ho;omega
  ·rcases Vlb.1 hb with rfl|hb
   ·exact Zrv a ha
   ·exact s3 a ha b hb
 ·rcases Vlb.1 (hp.mem_iff.1 ho) with rfl|ho
  ·exact⟨by omega,by omega,hc⟩
  ·obtain⟨a,b,c⟩:=h.el o ho;exact⟨a,by omega,c⟩
 ·refine hp.nodup_iff.2 (List.nodup_cons.2 ⟨fun hm=> ?_,h.nd⟩);have:=(h.el _ hm).2.1;omega
 ·refine hp.mem_iff.2 ?_;by_cases e:k=m
  ·subst e;simp
  ·exact List.mem_cons_of_mem _ (h.all k (by omega) hck)
theorem Zoj(n:Zas): ∀m,ZxB n m (Zhw n m)
 |0=>⟨.nil,by simp [Zhw],by simp [Zhw],by simp [Zhw],fun k hk=>by omega⟩
 |m+1=>by
  unfold Zhw;have ih:=Zoj n m;split
  ·rename_i hc
   exact⟨ih.srt,fun o ho=>by obtain⟨a,b,c⟩:=ih.el o ho;exact⟨a,by omega,c⟩,ih.nd,by have:=ih.len;omega,fun k hk hck=>by
    by_cases e:k=m
    ·subst e;rw[hc]at hck;exact absurd hck (by decide)
    ·exact ih.all k (by omega) hck⟩
  ·rename_i hc;exact ih.ins (by simpa using hc)
theorem ZwW{n:Zas}{d:Int}{out:List Int}(hs:out.Pairwise fun a b=>d0 n a<=d0 n b): ∀ (i:Nat) (hi:i<out.length),pLe n d out[i]=true↔i< (out.takeWhile (pLe n d)).length:=by
 intro i hi;have e:out.takeWhile (pLe n d)++out.dropWhile (pLe n d)=out:=Vea;constructor
 ·intro hp;apply Decidable.byContradiction;intro hlt
  have hm:out[i]∈out.dropWhile (pLe n d):=by
   have h2:i - (out.takeWhile (pLe n d)).length< (out.dropWhile (pLe n d)).length:=by have:=congrArg Vd e;simp only[Ve]at this;omega
   have:out[i]=(out.dropWhile (pLe n d))[i - (out.takeWhile (pLe n d)).length]:=by
    have h3:out[i]? =(out.dropWhile (pLe n d))[i - (out.takeWhile (pLe n d)).length]? :=by
     conv=>lhs;rw[<-e]
     rw[Vjb (by omega)]
    rw[Vb hi,Vb h2]at h3;exact Option.some.inj h3
   rw[this];exact Vj h2
  have:=ZsI hs _ hm;have h4:d0 n out[i]<=d:=by simpa [pLe] using hp
  omega
 ·intro hlt
  have hm:out[i]∈out.takeWhile (pLe n d):=by
   have h3:out[i]? =(out.takeWhile (pLe n d))[i]? :=by
    conv=>lhs;rw[<-e]
    rw[Vxa hlt]
   rw[Vb hi,Vb hlt]at h3;rw[Option.some.inj h3];exact Vj hlt
  simpa [pLe] using Zrv _ hm
theorem ZvN{n:Zas}{d:Int}(out:List Int):out.takeWhile (pLe n d)=out.take (out.takeWhile (pLe n d)).length/\out.dropWhile (pLe n d)=out.drop (out.takeWhile (pLe n d)).length:=by
 have e:out.takeWhile (pLe n d)++out.dropWhile (pLe n d)=out:=Vea;constructor
 ·have:=List.take_left (l₁:=out.takeWhile (pLe n d)) (l₂:=out.dropWhile (pLe n d));rw[e]at this;exact this.symm
 ·have:=List.drop_left (l₁:=out.takeWhile (pLe n d)) (l₂:=out.dropWhile (pLe n d));rw[e]at this;exact this.symm
theorem Zma{n:Zas}(h:Zcr n){o d:Int}(hr:inR o n.2.2.1.length=true):F37 o n d=some (pLe n d o):=by
 unfold F37;have hm:=h.many _ (Zgq hr);rw[Zl8 hr];simp only[bind_some]
 have h0:inR 0 (calls (rn n o)).length=true:=by unfold inR;rw[decide_eq_true (Vua 0),decide_eq_true (show (0:Int)< ((calls (rn n o)).length:Int) by show (0:Int)< ((rn n o).2.2.2.2.2.2.2.1.length:Int);omega)];rfl
 rw[Zvf h0];rfl
theorem Zsa{n:Zas}(h:Zcr n){out:List Int}{d:Int}(hl:out.length<=4611686018427387904)(hr: ∀o∈out,inR o n.2.2.1.length=true){k:Nat}(hk:k<=out.length)(hp: ∀ (i:Nat) (hi:i<out.length),pLe n d out[i]=true↔i<k):
  F34 out (n,d,())=some (k:Int):=by
 unfold F34;rw[Zua (n:=out.length) hk ?_ ?_]
 ·rfl
 ·intro lo hi hlt hhi;have hm:lo+(hi - lo) / 2<out.length:=by omega
  simp only[decide_eq_true (show (lo:Int)< (hi:Int) by omega),cond_true,Zwa (show lo<=hi by omega) (show hi<=4611686018427387904 by omega),Zaf hm,bind_some];rw[Zma h (hr _ (Vj hm))];simp only[bind_some];have hp' :=hp _ hm
  cases hd:pLe n d out[lo+(hi - lo) / 2] with
  |true=>
   rw[if_pos (hp'.1 hd)];rw[Zae (by omega) (by omega)];simp only[cond_true]
   rfl
  |false=>
   rw[if_neg (fun hh=>by rw[hp'.2 hh]at hd;exact absurd hd (by decide))];rfl
 ·intro lo;simp only[decide_eq_false (show¬ (lo:Int)< (lo:Int) by omega),cond_false]
theorem ZuY(out:List Int){k:Nat}(hk:k<=out.length):
  (Vna (k+1) (out++[(0:Int)])++Vna (min (Vd (Vna (out.length+1 - k) (Vka k (out++[(0:Int)])))) (out.length+1 - (k+1))) (Vna (out.length+1 - k) (Vka k (out++[(0:Int)])))++
   Vka (k+1+min (Vd (Vna (out.length+1 - k) (Vka k (out++[(0:Int)])))) (out.length+1 - (k+1))) (out++[(0:Int)]))=Vna (k+1) (out++[(0:Int)])++Vka k out:=by
 have e1:Vna (out.length+1 - k) (Vka k (out++[(0:Int)]))=Vka k (out++[(0:Int)]):=Vtb (by simp);have e2:min (Vd (Vka k (out++[(0:Int)]))) (out.length+1 - (k+1))=out.length - k:=by simp;omega
 have e3:Vka (out.length+1) (out++[(0:Int)])=[]:=List.drop_of_length_le (by simp);rw[e1,e2,show k+1+(out.length - k)=out.length+1 by omega,e3,Vca];congr 1;rw[List.drop_append_of_le_length hk,Vbb (by simp),Vtb (by simp)]
theorem ZvQ(out:List Int){k:Nat}(hk:k<=out.length)(x m:Int): (Vna (k+1) (out++[x])++Vka k out).set k m=out.take k++m::out.drop k:=by
 have h1:Vna (k+1) (out++[x])=out.take k++[((out++[x])[k]'(by simp;omega))]:=by rw[Va (by simp;omega),Vbb hk]
 rw[h1,Vga,List.set_append_right _ _ (by simp;omega)];simp [Nat.min_eq_left hk]
theorem ZoG        {n : Zas }(h : Zcr   n) : F36 n = some (Zhw  n n.2.2.1.length) := by
  unfold F36
  refine Exists.elim (ZaL     (τ := List Int) n.2.2.1.length (fun r => r = Zhw  n n.2.2.1.length) (fun i (s : List Int × Int) => s = (Zhw  n i, (i : Int)))
    ?_ ?_ ([], (0 : Int)) rfl) (fun r hr => (congrArg (Vz · _) hr.1).trans (by rw [hr.2]; rfl))
  · rintro i _ hi rfl
    have hI := Zoj     n i;have hin := h.runs
    have hr : inR (i : Int) n.2.2.1.length = true := by unfold inR; rw [decide_eq_true (show (0 : Int) <= (i : Int) by omega), decide_eq_true (show (i : Int) < (n.2.2.1.length : Int) by omega)]; rfl
    have hrn : n.2.2.1[i] = rn n (i : Int) := by unfold rn; rw [show ((i : Nat) : Int).toNat = i from rfl, Zak     hi]
    have hll := hI.len;refine .inl ⟨(Zhw  n (i + 1), ((i + 1 : Nat) : Int)), ?_, rfl⟩;simp only [Zat    hi, cond_true, Zaf     hi, bind_some, hrn]
    cases hc : Zxr  (rn n (i : Int)) with
    | true =>
      rw [show (rn n (i : Int)).2.2.2.2.2.2.1 = true from hc];simp only [cond_true, Zaj       hi (show n.2.2.1.length <= 9223372036854775807 by omega)]
      rw [show Zhw  n (i + 1) = Zhw  n i by unfold Zhw ; rw [if_pos hc]; cases i <;> rfl]
    | false =>
      rw [show (rn n (i : Int)).2.2.2.2.2.2.1 = false from hc]
      have h0 : inR 0 (calls (rn n (i : Int))).length = true := by have hm := h.many _ (Zgq    hr);unfold inR; rw [decide_eq_true (Vua 0), decide_eq_true (show (0 : Int) < ((calls (rn n (i : Int))).length : Int) by show (0 : Int) < ((rn n (i : Int)).2.2.2.2.2.2.2.1.length : Int); omega)]; rfl
      have hcl : idx (rn n (i : Int)).2.2.2.2.2.2.2.1 (0 : Int) = some (cl (calls (rn n (i : Int))) 0) := Zvf    h0
      have hkl : ((Zhw  n i).takeWhile (pLe n (d0 n i))).length <= (Zhw  n i).length := by have := congrArg Vd (Vea (p := pLe n (d0 n i)) (l := Zhw  n i)); simp only [Ve]at this; omega
      have hfind := Zsa       h (d := d0 n i) (show (Zhw  n i).length <= 4611686018427387904 by omega) (fun o ho => by obtain ⟨a, b, _⟩ := hI.el o ho;unfold inR; rw [decide_eq_true a, decide_eq_true (show o < (n.2.2.1.length : Int) by omega)]; rfl) hkl (ZwW    hI.srt)
      rw [show Zhw  n (i + 1) = Zwh  n (Zhw  n i) i by conv => lhs; unfold Zhw
                                                       rw [if_neg (by rw [hc]; decide)]]
      simp only [cond_false, hcl, bind_some];rw [show (cl (calls (rn n (i : Int))) 0).2.2.1 = d0 n i from rfl, hfind];unfold Zwh;obtain ⟨t1, t2⟩ := ZvN     (n := n) (d := d0 n i) (Zhw  n i);generalize hkk : ((Zhw  n i).takeWhile (pLe n (d0 n i))).length = k at *;rw [t1, t2];clear t1 t2 hkk;generalize Zhw  n i = out at *;have hw : Vc .i64 ((k : Int) + 1) = ((k + 1 : Nat) : Int) := by rw [Zae      (by omega) (by omega)]; omega
      have s1 : sliceB (Vd (out ++ [(0 : Int)])) (Vd (out ++ [(0 : Int)])) (some ((k + 1 : Nat) : Int)) none = some (k + 1, out.length + 1) := by unfold sliceB;simp only [bind_some, Ve, Vk];rw [if_pos ⟨by omega, by omega⟩];rfl
      have s2 : sliceB (Vd (out ++ [(0 : Int)])) (Vd (out ++ [(0 : Int)])) (some (k : Int)) none = some (k, out.length + 1) := by unfold sliceB;simp only [bind_some, Ve, Vk];rw [if_pos ⟨by omega, by omega⟩];rfl
      have hg : Zam    (decide (Vd out + Vd [(0 : Int)] <= Zan   )) = some () := ZaO       (by simp; omega)
      have hg2 : Zam    (Nat.ble (k + 1 + (out.length + 1 - (k + 1))) (Vd (out ++ [(0 : Int)]))) = some () := by rw [show Nat.ble (k + 1 + (out.length + 1 - (k + 1))) (Vd (out ++ [(0 : Int)])) = true from Nat.ble_eq_true_of_le (by simp; omega)]; rfl
      simp only [bind_some, hg, hw, s1, s2, hg2];rw [ZuY      out hkl];have hlen : (Vna (k + 1) (out ++ [(0 : Int)]) ++ Vka k out).length = out.length + 1 := by simp; omega
      have hinb : inb (k : Int) (Vna (k + 1) (out ++ [(0 : Int)]) ++ Vka k out).length = some k := ZaE     (by omega);rw [hinb];simp only [bind_some];rw [Vb (show k < (Vna (k + 1) (out ++ [(0 : Int)]) ++ Vka k out).length by omega)];simp only [bind_some, ZvQ     out hkl, Zaj       hi (show n.2.2.1.length <= 9223372036854775807 by omega)]
  · rintro _ rfl
    exact ⟨_, by simp only [Zaw    , cond_false], rfl⟩
def ZtP(rows:List (List Int))(k:Nat):List Int:=(rows[k]?).getD []
def Zlq(row:List Int):Int:=ln row (row.length - 1)
def ZwG(n:Zas)(rows:List (List Int))(r:Int)(k:Nat):Int:=if Zvw (rn n (Zlq (ZtP rows k))) (rn n r) then 1 else 0
def Znn(n:Zas)(rows:List (List Int))(r:Int):List (List Int):=match Zay rows.length (ZwG n rows r) with
 |some k=>rows.set k (ZtP rows k++[r])
 |none=>rows++[[r]]
def Zfn(n:Zas)(rs:List Int):List (List Int):=rs.foldl (Znn n) []
structure ZsH (n:Zas) (i:Nat) (rows:List (List Int)):Prop where
 row: ∀x∈rows,x≠ []/\(∀o∈x,inR o n.2.2.1.length=true)/\x.length<=i
 len:rows.length<=i
theorem Zir{rows:List (List Int)}{k:Nat}(h:k<rows.length):ZtP rows k=rows[k]:=Zak h []
theorem ZsH.add{n:Zas}{i:Nat}{rows:List (List Int)}(h:ZsH n i rows){r:Int}(hr:inR r n.2.2.1.length=true):ZsH n (i+1) (Znn n rows r):=by
 unfold Znn
 cases hb:Zay rows.length (ZwG n rows r) with
 |none=>
  refine⟨fun x hx=> ?_,by simp;exact h.len⟩;rcases Vl.1 hx with hx|hx
  ·obtain⟨a,b,c⟩:=h.row x hx;exact⟨a,b,by omega⟩
  ·simp at hx;subst hx
   exact⟨by simp,by simpa using hr,by simp⟩
 |some k=>
  have hk:=(Zby hb).1;refine⟨fun x hx=> ?_,by simp;have:=h.len;omega⟩;rcases Vmb hx with hx|rfl
  ·obtain⟨a,b,c⟩:=h.row x hx;exact⟨a,b,by omega⟩
  ·rw[Zir hk];obtain⟨a,b,c⟩:=h.row _ (Vj hk);refine⟨by simp,fun o ho=> ?_,by simp;exact c⟩;rcases Vl.1 ho with ho|ho
   ·exact b o ho
   ·simp at ho;subst ho;exact hr
theorem ZjF(n:Zas)(rs:List Int)(r:Int):Zfn n (rs++[r])=Znn n (Zfn n rs) r:=by simp [Zfn]
theorem Zkm{n:Zas}{rs:List Int}(hr: ∀o∈rs,inR o n.2.2.1.length=true): ∀i,i<=rs.length->ZsH n i (Zfn n (rs.take i))
 |0,_=>⟨by simp [Zfn],by simp [Zfn]⟩
 |i+1,h=>by rw[Va (by omega),ZjF];exact(Zkm hr i (by omega)).add (hr _ (Vj (by omega)))
theorem ZsP{n:Zas}{i:Nat}{rows:List (List Int)}(h:ZsH n i rows)(hi:i<=4096){j:Nat}(hj:j<rows.length):
  0<rows[j].length/\rows[j].length<=4096/\inb (Vc .i64 ((rows[j].length:Int) - 1)) rows[j].length=some (rows[j].length - 1)/\rows[j][rows[j].length - 1]? =some (Zlq rows[j])/\inR (Zlq rows[j]) n.2.2.1.length=true:=by
 obtain⟨a,b,c⟩:=h.row _ (Vj hj);have h0:0<rows[j].length:=List.length_pos_iff.2 a;have h1:rows[j].length - 1<rows[j].length:=by omega
 have e:Vc .i64 ((rows[j].length:Int) - 1)=((rows[j].length - 1:Nat):Int):=by rw[Zae (by omega) (by omega)];omega
 refine⟨h0,by omega,by rw[e,ZaE h1], ?_, ?_⟩
 ·unfold Zlq;rw[Zxh h1,Vb h1]
 ·unfold Zlq;rw[Zxh h1];exact b _ (Vj h1)
theorem Ztl(j:Nat):Zam (Zjk (some (Vkc (j:Int))) j)=some ():=by rw[show Zjk (some (Vkc (j:Int))) j=true from Nat.beq_refl j];rfl
theorem Ztm{n:Zas}{vb:Bool}(hv:F38 n=some vb)(hs:vb=true->Zcr n)(hc: ∀x∈n.2.2.1,x.2.2.2.2.2.2.2.1.length<=9223372036854775807):
  F32 n=some (if vb then(Zfn n (Zhw n n.2.2.1.length),0) else([],21)):=by
 unfold F32;rw[hv]
 cases vb with
 |false=>rfl
 |true=>
  have h:=hs rfl;simp only[bind_some,Vm,cond_false,ZoG h,if_true];have hO:=Zoj n n.2.2.1.length
  have hr: ∀o∈Zhw n n.2.2.1.length,inR o n.2.2.1.length=true:=fun o ho=>by obtain⟨a,b,_⟩:=hO.el o ho;unfold inR;rw[decide_eq_true a,decide_eq_true b];rfl
  have hlen: (Zhw n n.2.2.1.length).length<=1024:=by have:=hO.len;have:=h.runs;omega
  generalize Zhw n n.2.2.1.length=rs at*
  refine Exists.elim (ZaL (τ:=List (List Int)) rs.length (fun r=>r=Zfn n rs) (fun i (s:List (List Int) ×Int)=>s=(Zfn n (rs.take i),(i:Int)))
   ?_ ?_ ([],(0:Int)) rfl) (fun r hr=>(congrArg (Vz · _) hr.1).trans (by rw[hr.2];rfl))
  ·rintro i _ hi rfl;have hI:=Zkm hr i (by omega);have hri:=hr _ (Vj hi);refine .inl ⟨(Zfn n (rs.take (i+1)),((i+1:Nat):Int)), ?_,rfl⟩;rw[Va hi,ZjF];generalize Zfn n (rs.take i)=rows at*;have hrl:=hI.len;simp only[Zat hi,cond_true,Zaf hi,bind_some];rw[Za7 (n:=rows.length) (fun j (s:List (List Int) ×Bool×Int)=>s=(rows,false,(j:Int))) (ZwG n rows rs[i]) (fun k=>(rows.set k (ZtP rows k++[rs[i]]),true)) (rows,false) ?_ ?_ ?_ (rows,false,(0:Int)) rfl]
   ·unfold pick Znn
    cases Zay rows.length (ZwG n rows rs[i]) with
    |some k=>simp only[bind_some,Vm,cond_false,Zaj hi (show rs.length<=9223372036854775807 by omega)]
    |none=>
     have hg:Zam (decide (Vd rows+Vd [[rs[i]]]<=Zan))=some ():=ZaO (by simp;omega);simp only[bind_some,Vw,cond_true,hg,Zaj hi (show rs.length<=9223372036854775807 by omega)]
   ·rintro j _ hj rfl hchk;obtain⟨l0,l1,l2,l3,l4⟩:=ZsP hI (by omega) hj;refine⟨_, ?_,rfl⟩
    have hf:Zvw (rn n (Zlq rows[j])) (rn n rs[i])=false:=by
     unfold ZwG at hchk;rw[Zir hj]at hchk
     cases hf:Zvw (rn n (Zlq rows[j])) (rn n rs[i]) with
     |false=>rfl
     |true=>rw[hf,if_pos rfl]at hchk;omega
    simp only[Zat hj,cond_true,ZaE hj,bind_some,Vb hj,Zaf hj,l2,l3,Zl8 l4,Zl8 hri,ZiC _ _ (ZpG hc _),hf,cond_false,Zaj hj (show rows.length<=9223372036854775807 by omega)]
   ·rintro j _ hj rfl hchk;obtain⟨l0,l1,l2,l3,l4⟩:=ZsP hI (by omega) hj
    have hf:Zvw (rn n (Zlq rows[j])) (rn n rs[i])=true:=by
     unfold ZwG at hchk;rw[Zir hj]at hchk
     cases hf:Zvw (rn n (Zlq rows[j])) (rn n rs[i]) with
     |true=>rfl
     |false=>rw[hf]at hchk;exact absurd rfl hchk
    have hg:Zam (decide (Vd rows[j]+Vd [rs[i]]<=Zan))=some ():=ZaO (by simp;omega);simp only[Zat hj,cond_true,ZaE hj,bind_some,Vb hj,Zaf hj,l2,l3,Zl8 l4,Zl8 hri,ZiC _ _ (ZpG hc _),hf,hg,Ztl,Zir hj]
   ·rintro _ rfl;simp only[Zaw,cond_false]
  ·rintro _ rfl;exact⟨_,by simp only[Zaw,cond_false];rfl,by rw[Vg]⟩
end Q
namespace Q
open Tr Go
open Option (bind_some)
variable {n:Zas}{s0 t0 w:Int}{K:Nat}
abbrev p11:ZbI:=(-1, -1, -1, -1, -1, -1,())
structure Zfd (n:Zas) (s0 t0 w:Int) (m:Nat) (f:ZaH) (rs:List (List ZbI)):Prop where
 len:rs.length=m+1
 net:f.1=n
 lab:f.2.1.length<4000000000
 st: ∀k,k<=m-> ∃now linked,rs[k]? =some now/\now.length=n.1.length/\(∀ (s:Nat) p,now[s]? =some p->SP (Der n s0 t0 w) f.2.1 k (s:Int) p)/\Cmp n s0 t0 w k now linked
def ZwV(n:Zas)(k:Nat)(out:List (List Int)):Prop:=out.length=n.2.2.1.length/\ ∀ (i:Nat) ks,out[i]? =some ks->ks.length<=k/\ ∀x:Int,x∈ks↔(0<=x/\x< (k:Int))/\(lkI n x).1=(i:Int)
theorem Zra{k:Nat}{out:List (List Int)}(h:ZwV n k out){a:Nat}(ha: (lkI n (k:Int)).1=(a:Int))(hl:a<out.length):ZwV n (k+1) (out.set a (out[a]++[(k:Int)])):=by
 refine⟨by rw[Vsa];exact h.1,fun i ks hks=> ?_⟩;rcases Zly hks with ⟨rfl,rfl⟩ |hks'
 ·obtain⟨h1,h2⟩:=h.2 a _ (Vb hl);refine⟨by simp;exact h1,fun x=> ?_⟩;rw[Vl,h2 x,Vf];constructor
  ·rintro (⟨h3,h4⟩ |rfl)
   ·exact⟨by omega,h4⟩
   ·exact⟨by omega,ha⟩
  ·rintro ⟨h3,h4⟩;by_cases e:x=(k:Int)
   ·exact .inr e
   ·exact .inl ⟨by omega,h4⟩
 ·by_cases e:a=i
  ·subst e;rw[Vta hl]at hks;cases hks;obtain⟨h1,h2⟩:=h.2 a _ (Vb hl);refine⟨by simp;exact h1,fun x=> ?_⟩;rw[Vl,h2 x,Vf];constructor
   ·rintro (⟨h3,h4⟩ |rfl)
    ·exact⟨by omega,h4⟩
    ·exact⟨by omega,ha⟩
   ·rintro ⟨h3,h4⟩;by_cases e:x=(k:Int)
    ·exact .inr e
    ·exact .inl ⟨by omega,h4⟩
  ·obtain⟨h1,h2⟩:=h.2 i ks hks';refine⟨by omega,fun x=> ?_⟩;rw[h2 x];constructor
   ·rintro ⟨h3,h4⟩;exact⟨by omega,h4⟩
   ·rintro ⟨h3,h4⟩;refine⟨⟨h3.1, ?_⟩,h4⟩;by_cases e' :x=(k:Int)
    ·subst e';omega
    ·omega
theorem Zuf{out:List (List Int)}(h:ZwV n n.2.2.2.1.length out):ZoA n out:=by refine⟨h.1,fun i ks hks x=> ?_⟩;rw[(h.2 i ks hks).2 x];unfold inR;rw[Vh,decide_eq_true_eq,decide_eq_true_eq]
theorem ZuT(C:Ctx n s0 t0 w){now:List ZbI}{linked:List ZcA}(hY:LeY now s0.toNat (t0+w))(hA:LeA now s0.toNat t0)(hW: ∀p∈n.2.2.2.2.1,Wlk s0 t0 now p):Cmp n s0 t0 w 0 now linked:=by
 have no: ∀ {s t:Int}{js:List Zar}{k:Nat},k<=0->Der n s0 t0 w (.rid k s t) js->False:=fun hk d=>by have:=(C.ok d).1;omega
 refine⟨fun hk d=> ?_,fun hk d=>(no hk d).elim,fun hk d=> ?_,fun hk d=> ?_⟩
 ·cases d with
  |init=>exact hY
  |rdyW h1 h2 h3=>exact(hW _ h1 h2 h3).2
  |change d=>exact(no hk d).elim
  |rdyV d=>exact(no hk d).elim
 ·cases d with
  |here=>exact hA
  |arrW h1 h2 h3=>exact(hW _ h1 h2 h3).1
  |arrR d=>exact(no hk d).elim
  |arrV d=>exact(no hk d).elim
 ·cases d with
  |link d=>have:=(C.ok d).1;omega
theorem Zwm{n:Zas}(h:Zcq n){s0:Int}(hs:0<=s0/\s0< (n.1.length:Int))(b:Bool):0<=(bif b then(Zci n s0).2.2.2.1 else 0)/\(bif b then(Zci n s0).2.2.2.1 else 0)<=3600:=by
 cases b with
 |false=>exact⟨by simp,by simp⟩
 |true=>exact h.change s0 hs.1 hs.2
theorem Zuu{n0:Zas}{q:Za4}(hfit:Fit n0)(hfew:Few n0)(hq:ZuW n0 q=0): ∃f rs,F116 n0 q=some (f,rs,0)/\Ctx (ZaQ n0 q) q.1 q.2.2.1 (bif q.2.2.2.2.2.2.2.2.2.1 then(Zci (ZaQ n0 q) q.1).2.2.2.1 else 0)/\Whole n0/\qB n0.1.length q=true/\q.2.2.2.1=false/\
  Zfd (ZaQ n0 q) q.1 q.2.2.1 (bif q.2.2.2.2.2.2.2.2.2.1 then(Zci (ZaQ n0 q) q.1).2.2.2.1 else 0) q.2.2.2.2.1.toNat f rs:=by
 have hck:=Zp0 hfit q;rw[hq]at hck
 have hq0:ZkJ n0 q=0/\q.2.2.2.1=false:=by
  unfold ZuW at hq;by_cases e:ZkJ n0 q=0
  ·rw[decide_eq_true e]at hq;refine⟨e, ?_⟩
   cases hb:q.2.2.2.1 with
   |false=>rfl
   |true=>rw[hb]at hq;simp at hq
  ·rw[decide_eq_false e]at hq;exact absurd hq e
 obtain⟨hw0,hqb⟩:=ZfE.1 hq0.1;have hcq:=Znd hfit q;rw[hq0.1]at hcq;have hal:=Zn6 hw0.sound hfew q hcq;have hp0:n0.2.2.2.2.1.length<=4096:=hfit.paths;have hw:=ZgD q hp0 hw0;have hfa:=Ztr q hfit;have hn:=hw.ok;have hqb' :=hqb;unfold qB inR at hqb';simp only[Vh,decide_eq_true_eq]at hqb';obtain⟨hs0,_,ht0,hm,_⟩:=hqb';have hs0' :0<=q.1/\q.1< ((ZaQ n0 q).1.length:Int):=hs0;have hwt:=Zwm hn hs0' q.2.2.2.2.2.2.2.2.2.1
 have C:Ctx (ZaQ n0 q) q.1 q.2.2.1 (bif q.2.2.2.2.2.2.2.2.2.1 then(Zci (ZaQ n0 q) q.1).2.2.2.1 else 0):=⟨hn,hs0',ht0,hwt⟩
 have hp: (ZaQ n0 q).2.2.2.2.1.length<=4096:=hfa.paths
 have hvl:F38 (ZaQ n0 q)=some true:=by obtain⟨r,r1,_,r3⟩:=ZiJ _ hfa;unfold F38;rw[r1];simp only[bind_some];rw[decide_eq_true (r3.2 hw)]
 have hln:=Ztm hvl (fun _=>hn.sound) hfa.calls;have hsi:idx (ZaQ n0 q).1 q.1=some (Zci (ZaQ n0 q) q.1):=(ZhY hn.sound hs0'.1 hs0'.2).1;have hch:=hn.change q.1 hs0'.1 hs0'.2
 suffices hsuf: ∃z:ZaH×List (List ZbI) ×Int,F116 n0 q=some z/\z.2.2=0/\Zfd (ZaQ n0 q) q.1 q.2.2.1 (bif q.2.2.2.2.2.2.2.2.2.1 then(Zci (ZaQ n0 q) q.1).2.2.2.1 else 0) q.2.2.2.2.1.toNat z.1 z.2.1 by obtain⟨⟨f,rs,e⟩,h1,h2,h3⟩:=hsuf;simp only at h2;subst h2;exact⟨f,rs,h1,C,hw0,hqb,hq0.2,h3⟩
 unfold F116;rw[hck];simp only[bind_some,decide_true,Vm,cond_false];rw[hal];simp only[bind_some];rw[hln];simp only[bind_some,if_true,decide_true,Vm,cond_false];generalize ZaQ n0 q=n at*;have hS:=hn.sound;have hrn:=hS.runs;have hst:=hS.stops;have hlk:=hS.links;have hub:F126 (n.2.2.1.length:Int)=some (Vt n.2.2.1.length b00):=Zhc (by omega);have hmx: (Zan:Int)=549755813888:=by simp [Zan]
 refine bex (fun r=>r=Vt n.2.2.1.length b00) ⟨_,hub,rfl⟩ fun x3 hx3=> ?_;subst hx3
 have hg0:Zam (decide ((0:Int)<=(n.2.2.1.length:Int)/\(n.2.2.1.length:Int)<=(n.2.2.1.length:Int)/\(n.2.2.1.length:Int)<=(Zan:Int)))=some ():=by rw[decide_eq_true (by rw[hmx];omega)];rfl
 refine bex (fun _=>True) ⟨(),hg0,trivial⟩ fun _ _=> ?_;refine bex (fun r:ZaH=> ∃out,r=(n,[],[],Vt n.2.2.1.length b00,[],[],out,())/\ZwV n n.2.2.2.1.length out) ?_ ?_
 ·refine ZaL n.2.2.2.1.length _ (fun i (st:ZaH×Int)=>st.2=(i:Int)/\ ∃out,st.1=(n,[],[],Vt n.2.2.1.length b00,[],[],out,())/\ZwV n i out) ?_ ?_ _ ⟨rfl,_,rfl, ?_⟩
  ·rintro i ⟨st,j⟩ hi ⟨hj,out,hst',hO⟩;simp only at hj hst';subst hj hst';left;have e1:lkI n (i:Int)=n.2.2.2.1[i]:=by unfold lkI;rw[Vq,Zak hi]
   obtain⟨a,c,b,d,st,e,ha,_⟩:=hn.link _ (Vj hi);have hao:a<out.length:=by rw[hO.1];exact ha
   have hks:=(hO.2 a _ (Vb hao)).1;simp only[Zat hi,cond_true,Zaf hi,bind_some,Zaj hi (show _<=9223372036854775807 by omega),e,ZaE hao,Vb hao,Zaf hao];have hg:Zam (decide (Vd out[a]+Vd [(i:Int)]<=Zan))=some ():=ZaO (by simp;omega);rw[hg];simp only[bind_some,Ztl];exact⟨_,rfl,rfl,_,rfl,Zra hO (by rw[e1,e]) hao⟩
  ·rintro ⟨st,j⟩ ⟨hj,out,hst',hO⟩;simp only at hj hst';subst hj hst';simp only[Zaw,cond_false];exact⟨_,rfl,out,rfl,hO⟩
  ·refine⟨by simp,fun i ks hks=> ?_⟩;have:=Vya (Voa hks);subst this;exact⟨by simp,fun x=>⟨fun h=>(nomatch h),fun h=>by omega⟩⟩
 rintro _ ⟨out,rfl,hO⟩;have hOk:=Zuf hO;refine bex (fun r:ZaH=>r=(n,[],Vt n.1.length p11,Vt n.2.2.1.length b00,[],[],out,())) ?_ ?_
 ·refine ZaL n.1.length _ (fun i (st:ZaH×Int)=>st=((n,[],Vt i p11,Vt n.2.2.1.length b00,[],[],out,()),(i:Int))) ?_ ?_ _ rfl
  ·rintro i _ hi rfl;left;simp only[Zat hi,cond_true,Zaj hi (show _<=9223372036854775807 by omega)];have hg:Zam (decide (Vd (Vt i p11)+Vd [p11]<=Zan))=some ():=ZaO (by simp;omega);erw[hg];simp only[bind_some];exact⟨_,rfl,by rw[List.replicate_succ']⟩
  ·rintro _ rfl;simp only[Zaw,cond_false];exact⟨_,rfl,rfl⟩
 intro f1 hf1
 refine bex (fun r:ZaH×Int=>r=(f1,q.2.2.1+(bif q.2.2.2.2.2.2.2.2.2.1 then(Zci n q.1).2.2.2.1 else 0))) ?_ ?_
 ·cases q.2.2.2.2.2.2.2.2.2.1 with
  |false=>exact⟨_,rfl,by simp⟩
  |true=>
   simp only[cond_true,hsi,bind_some];exact⟨_,rfl,by rw[Zae (by omega) (by omega)]⟩
 rintro _ rfl
 generalize (bif q.2.2.2.2.2.2.2.2.2.1 then(Zci n q.1).2.2.2.1 else 0)=w at*
 obtain⟨a,ha⟩: ∃a:Nat,q.1=(a:Int):=⟨q.1.toNat,by omega⟩;obtain⟨m,hm'⟩: ∃m:Nat,q.2.2.2.2.1=(m:Int):=⟨q.2.2.2.2.1.toNat,by omega⟩;generalize q.1=s0 at*;generalize q.2.2.1=t0 at*;generalize q.2.2.2.2.1=mr at*;subst ha hm';simp only[Vq];have e1:f1.1=n:=by rw[hf1]
 have e2:f1.2.1=[]:=by rw[hf1]
 have e3:f1.2.2.1=Vt n.1.length p11:=by rw[hf1]
 have e4:f1.2.2.2.1=Vt n.2.2.1.length b00:=by rw[hf1]
 have e5:f1.2.2.2.2.1=[]:=by rw[hf1]
 have e7:f1.2.2.2.2.2.2.1=out:=by rw[hf1]
 have hal:a<f1.2.2.1.length:=by rw[e3];simp;omega
 have hN1:Snd (Der n (a:Int) t0 w) 0 f1:=by
  refine⟨fun s p hq' => ?_,fun i b hb=> ?_,fun i b hb=> ?_⟩
  ·rw[e3]at hq';rw[Vya (Voa hq')];exact⟨fun e=>absurd rfl e,fun e=>absurd rfl e,fun e=>absurd rfl e⟩
  ·rw[e5]at hb;exact absurd hb (by simp)
  ·rw[e4]at hb;rw[Vya (Voa hb)];exact fun e=>absurd rfl e
 have hw0' :0<=t0+w:=by omega
 have h2:Snd (Der n (a:Int) t0 w) 0 (ZgU f1 a t0 (t0+w) (-1)):=hN1.imp ⟨0,Vi _,[], .nil, .here⟩ ⟨0,Vi _,[], .nil, .init⟩;have m2:=Zsx f1 a ht0.1 hw0' (-1);have n2:=Zoo hal ht0.1 hw0' (-1);have k2:=Zf1 f1 a t0 (t0+w) (-1);refine bex (fun r=>r=ZgU f1 a t0 (t0+w) (-1)) ⟨_,ZgM f1 hal t0 (t0+w) (-1),rfl⟩ ?_;rintro _ rfl;have hwl:=Zml C (k:=0) (K:=0) (s:=(a:Int)) (t:=t0) (prev:= -1) ht0.1 (js:=[]) (Vi _) (fun p hp e1 e2=>⟨.arrW hp e1 e2, .rdyW hp e1 e2⟩) (m2.net.trans e1) (by rw[k2.now,e3];simp) h2 .nil
 have hwv:=Zpu (ZgU f1 a t0 (t0+w) (-1)) (s:=(a:Int)) (at' :=t0) (-1) ht0.1 ht0.2 (by rw[m2.net,e1];show f1.2.1.length+_<_;rw[e2];simp only[Vma];omega) (by rw[m2.net,e1];exact hp) (fun p hp' =>by rw[m2.net,e1]at hp';have:=hn.path p hp';rw[k2.now,e3,List.length_replicate];exact⟨this.2.1.1,this.2.1.2,by omega,by omega⟩)
 have kw:=Zce (a:Int) t0 (-1) (ZgU f1 a t0 (t0+w) (-1)).1.2.2.2.2.1 (ZgU f1 a t0 (t0+w) (-1));refine bex (fun r=>r=ZhE (ZgU f1 a t0 (t0+w) (-1)) (a:Int) t0 (-1)) ⟨_,hwv,rfl⟩ ?_;rintro _ rfl;obtain⟨w1,w2,w3⟩:=hwl;have m3:=m2.trans w2
 have hlab: (ZhE (ZgU f1 a t0 (t0+w) (-1)) (a:Int) t0 (-1)).2.1.length<=4096:=by
  have:=kw.lab;rw[m2.net,e1]at this;have e: (ZgU f1 a t0 (t0+w) (-1)).2.1.length=0:=by show f1.2.1.length=0;rw[e2];rfl
  unfold ZhE;rw[m2.net,e1];omega
 have hH:=(ZiE (ZgU f1 a t0 (t0+w) (-1)) (a:Int) t0 (-1))
 have hR0:RI n (a:Int) t0 w 0 (ZhE (ZgU f1 a t0 (t0+w) (-1)) (a:Int) t0 (-1)):=by
  refine⟨m3.net.trans e1,by rw[hH.now,k2.now,e3];simp,by rw[hH.linked,k2.linked,e4];simp,by rw[m3.out,e7];exact hOk, ?_,w1.now,w1.lnk, ?_, ?_⟩
  ·rw[m3.out,e7];intro ks hks;obtain⟨i,hi,rfl⟩:=Vhb hks;have:=(hO.2 i _ (Vb hi)).1;omega
  ·exact ZuT C (w2.rdy _ _ n2.2) (w2.arr _ _ n2.1) w3
  ·intro s p hq' hne;obtain⟨k,hk,js,_,hd⟩:=(w1.now s p hq').rid hne;have:=(C.ok hd).1;omega
 generalize ZhE (ZgU f1 a t0 (t0+w) (-1)) (a:Int) t0 (-1)=f2 at*;refine bex (fun r:ZaH×List (List ZbI)=>Zfd n (a:Int) t0 w m r.1 r.2) ?_ ?_
 ·refine ZaL m _ (fun i (st:ZaH×List (List ZbI) ×Int)=>st.2.2=(i:Int)/\RI n (a:Int) t0 w i st.1/\st.1.2.1.length<=4096+i*4000000/\st.2.1.length=i+1/\
   ∀k,k<=i-> ∃now linked,st.2.1[k]? =some now/\now.length=n.1.length/\(∀ (s:Nat) p,now[s]? =some p->SP (Der n (a:Int) t0 w) st.1.2.1 k (s:Int) p)/\Cmp n (a:Int) t0 w k now linked) ?_ ?_ _ ⟨rfl,hR0,by omega,rfl, ?_⟩
  ·rintro i ⟨f,rs,j⟩ hi ⟨hj,hR,hlb,hrl,hst'⟩;simp only at hj hR hlb hrl hst';subst hj;left;simp only[Zat hi,cond_true];obtain⟨g,g1,g2,⟨mm,g3⟩,g4⟩:=Zrq C hp hR (by omega);refine ZgF (fun r=>r=g) ⟨_,g1,rfl⟩ fun x hx=> ?_;subst hx;have hg:Zam (decide (Vd rs+Vd [x.2.2.1]<=Zan))=some ():=ZaO (by simp;omega);rw[hg];simp only[bind_some,Zaj hi (show m<=9223372036854775807 by omega)];refine⟨_,rfl,rfl,g2,by simp only;omega,by simp;exact hrl,fun k hk=> ?_⟩;by_cases e:k=i+1
   ·subst e;refine⟨x.2.2.1,x.2.2.2.1, ?_,g2.nowl,g2.now,g2.cmp⟩;simp only;rw[Vjb (by omega),hrl];simp
   ·obtain⟨now,linked,y1,y2,y3,y4⟩:=hst' k (by omega);refine⟨now,linked, ?_,y2,fun s p hq' => ?_,y4⟩
    ·simp only;rw[Vxa (by omega)];exact y1
    ·simp only;rw[g3];exact(y3 s p hq').app mm
  ·rintro ⟨f,rs,j⟩ ⟨hj,hR,hlb,hrl,hst'⟩;simp only at hj hR hlb hrl hst';subst hj;simp only[Zaw,cond_false];exact⟨_,rfl,hrl,hR.net,by simp only;omega,hst'⟩
  ·intro k hk;have:k=0:=by omega
   subst this;exact⟨f2.2.2.1,f2.2.2.2.1,rfl,hR0.nowl,hR0.now,hR0.cmp⟩
 ·rintro ⟨f,rs⟩ hF;exact⟨_,rfl,rfl,hF⟩
end Q
namespace Q
open Tr Go
open Option (bind_some)
variable {n:Zas}{s0 t0 w:Int}{m:Nat}{f:ZaH}{rs:List (List ZbI)}
def ZwZ(rs:List (List ZbI))(k s:Nat):ZbI:=(((rs[k]?).getD [])[s]?).getD p11
def arrV(rs:List (List ZbI))(k s:Nat):Int:=(ZwZ rs k s).1
def ZtG(rs:List (List ZbI))(k:Nat):List Int:=((rs[k]?).getD []).map fun p=>p.1
def ZhA(rs:List (List ZbI)):List (List Int):=rs.map fun l=>l.map fun p=>p.1
theorem Zfd.sound(F:Zfd n s0 t0 w m f rs){k s:Nat}(hk:k<=m)(h:arrV rs k s≠ -1): ∃k',k' <=k/\ ∃js,Ch f.2.1 (ZwZ rs k s).2.2.2.1 js/\Der n s0 t0 w (.arr k' (s:Int) (arrV rs k s)) js:=by
 obtain⟨now,linked,h1,h2,h3,h4⟩:=F.st k hk;unfold arrV ZwZ at*;rw[h1]at h ⊢;simp only[Vob]at h ⊢;by_cases hs:s<now.length
 ·rw[Zak hs]at h ⊢;exact(h3 s _ (Vb hs)).arr h
 ·rw[Vub (by omega)]at h;exact absurd rfl h
theorem Zfd.complete(F:Zfd n s0 t0 w m f rs){k k' s:Nat}(hk:k<=m)(hk' :k' <=k){t:Int}{js:List Zar}(d:Der n s0 t0 w (.arr k' (s:Int) t) js):arrV rs k s≠ -1/\arrV rs k s<=t:=by obtain⟨now,linked,h1,h2,h3,h4⟩:=F.st k hk;obtain⟨p,p1,p2⟩:=h4.arr hk' d;rw[Vq]at p1;unfold arrV ZwZ;rw[h1];simp only[Vob];rw[p1];exact p2
theorem Zfd.row(F:Zfd n s0 t0 w m f rs){k:Nat}(hk:k<=m): (ZtG rs k).length=n.1.length:=by obtain⟨now,linked,h1,h2,_⟩:=F.st k hk;unfold ZtG;rw[h1];simp only[Vob,Vu];exact h2
theorem Zfd.idxA(F:Zfd n s0 t0 w m f rs){k:Nat}(hk:k<=m):idx (ZhA rs) (k:Int)=some (ZtG rs k):=by
 have hl:k<rs.length:=by rw[F.len];omega
 have:k< (ZhA rs).length:=by unfold ZhA;rw[Vu];exact hl
 have e: (ZhA rs)[k]=ZtG rs k:=by simp [ZhA,ZtG,hl]
 rw[Zaf this,e]
theorem Zfd.lenA(F:Zfd n s0 t0 w m f rs): (ZhA rs).length=m+1:=by unfold ZhA;rw[Vu,F.len]
theorem Zfd.idxR(F:Zfd n s0 t0 w m f rs){k s:Nat}(hk:k<=m)(hs:s<n.1.length):idx (ZtG rs k) (s:Int)=some (arrV rs k s):=by
 have hl:s< (ZtG rs k).length:=by rw[F.row hk];exact hs
 rw[Zaf hl]
 have hl' :s< ((rs[k]?).getD []).length:=by unfold ZtG at hl;rw[Vu]at hl;exact hl
 have e: (ZtG rs k)[s]=arrV rs k s:=by unfold arrV ZwZ;rw[Zak hl'];simp [ZtG]
 rw[e]
theorem Zrb{n0:Zas}{q:Za4}(h:F116 n0 q=some (f,rs,0)): (F116S.f (n0,q,())).isSome=true:=by show (F116 n0 q).isSome=true;rw[h];rfl
theorem Zh5(F:Zfd n s0 t0 w m f rs)(hm:m<=8)(hst:n.1.length<=64){n0:Zas}{q:Za4}(h:F116 n0 q=some (f,rs,0)):F111 n0 q=some (ZhA rs,0):=by
 unfold F111;rw[Zrb h,h];simp only[cond_true,bind_some];have hl:=F.len;refine Zbi (fun r=>r=ZhA rs) ?_ (fun r hr=>by rw[hr]);refine ZaL rs.length _ (fun i (st:List (List Int) ×Int)=>st=((rs.take i).map (fun l=>l.map fun p=>p.1),(i:Int))) ?_ ?_ _ rfl
 ·rintro i _ hi rfl;left;simp only[Zat hi,cond_true,Zaf hi,bind_some,Zaj hi (show _<=9223372036854775807 by omega)];obtain⟨now,linked,h1,h2,_⟩:=F.st i (by omega);have e:rs[i]=now:=by rw[Vb hi]at h1;exact Option.some.inj h1
  refine ZgF (fun r=>r=((rs.take i).map (fun l=>l.map fun p=>p.1),rs[i].map fun p=>p.1)) ?_ ?_
  ·refine ZaL rs[i].length _ (fun j (st:List (List Int) ×List Int×Int)=>st=((rs.take i).map (fun l=>l.map fun p=>p.1),(rs[i].take j).map (fun p=>p.1),(j:Int))) ?_ ?_ _ rfl
   ·rintro j _ hj rfl;left;have hjl:rs[i].length<=64:=by rw[e];omega
    have hg:Zam (decide (Vd ((rs[i].take j).map (fun p=>p.1))+Vd [(rs[i][j]).1]<=Zan))=some ():=ZaO (by simp;omega);simp only[Zat hj,cond_true,Zaf hj,bind_some,Zaj hj (show _<=9223372036854775807 by omega),hg];exact⟨_,rfl,by rw[Va hj,Vp];rfl⟩
   ·rintro _ rfl;simp only[Zaw,cond_false,Vg];exact⟨_,rfl,rfl⟩
  ·rintro _ rfl;have hg:Zam (decide (Vd ((rs.take i).map (fun l=>l.map fun p=>p.1))+Vd [rs[i].map fun p=>p.1]<=Zan))=some ():=ZaO (by simp;omega);simp only[hg,bind_some];exact⟨_,rfl,by rw[Va hi,Vp];rfl⟩
 ·rintro _ rfl;simp only[Zaw,cond_false,Vg];exact⟨_,rfl,rfl⟩
end Q
namespace Q
open Tr Go
open Option (bind_some)
theorem Zte{n:Zas}{q:Za4}(h:ZkJ n q=0)(hb:q.2.2.2.1=false):ZuW n q=0:=by unfold ZuW;rw[decide_eq_true h,hb];rfl
end Q
namespace Q
open Tr Go
open Option (bind_some)
def ZmB(x y:Zar):Zar:=(x.1,x.2.1,x.2.2.1,x.2.2.2.1,x.2.2.2.2.1,x.2.2.2.2.2.1,Vc .i64 (y.2.2.2.2.2.2.1 - Vc .i64 (x.2.2.2.2.2.2.2.1 - x.2.2.2.2.2.2.1)),y.2.2.2.2.2.2.1,x.2.2.2.2.2.2.2.2)
def ZjJ:List Zar->List Zar
 |x::y::js=>(bif x.1 then x else ZmB x y)::y::js
 |js=>js
theorem Zo6(x y:Zar)(js:List Zar):ZjJ (x::y::js)=(bif x.1 then x else ZmB x y)::y::js:=rfl
theorem Der.rides{n:Zas}{s0 t0 w:Int}{f:Zmt}{js:List Zar}(d:Der n s0 t0 w f js):match f with
  | .rdy k _ _=>Zal js=k
  | .brd k _ _ st=>Zal js+(if st then 0 else 1)=k
  | .lnk k _ _=>Zal js+1=k
  | .on k _ _=>Zal js=k
  | .rid k _ _=>Zal js=k
  | .arr k _ _=>Zal js=k:=by
 induction d with
 |init=>rfl
 |here=>rfl
 |rdyW=>rfl
 |arrW=>rfl
 |board _ _ _ _ _ _ _ ih=>exact congrArg (· +1) ih
 |on _ _ _ ih=>
  show Zal _=_;rw[Zbf,ZbG]
  exact ih
 |stay _ _ _ _ ih=>exact ih
 |link _ _ _ _ _ ih=>exact congrArg (· +1) ih
 |linked _ _ ih=>exact ih
 |ride _ _ ih=>exact ih
 |change _ ih=>exact ih
 |rdyV _ _ _ _ ih=>
  show Zal _=_;rw[Zbf,Zck]
  exact ih
 |arrR _ ih=>exact ih
 |arrV _ _ _ _ ih=>
  show Zal _=_;rw[Zbf,Zck];exact ih
theorem Der.rid_last{n:Zas}{s0 t0 w:Int}{k:Nat}{s t:Int}{js:List Zar}(d:Der n s0 t0 w (.rid k s t) js): ∃ks x,js=ks++[x]/\x.2.2.2.2.2.2.2.1=t/\x.2.2.2.2.2.1=s:=by
 cases d with
 |ride d _=>
  cases d with
  |on d _ _=>exact⟨_,_,rfl,rfl,rfl⟩
theorem Der.arr_last{n:Zas}{s0 t0 w:Int}{k:Nat}{s t:Int}{js:List Zar}(d:Der n s0 t0 w (.arr k s t) js): (js=[]/\t=t0/\s=s0)\/ ∃ks x,js=ks++[x]/\x.2.2.2.2.2.2.2.1=t/\x.2.2.2.2.2.1=s:=by
 cases d with
 |here=>exact .inl ⟨rfl,rfl,rfl⟩
 |arrW=>exact .inr ⟨[],_,rfl,rfl,rfl⟩
 |arrR d=>exact .inr d.rid_last
 |arrV=>exact .inr ⟨_,_,rfl,rfl,rfl⟩
theorem ZmE(ks:List Zar)(x:Zar): ∃ks' x',ZjJ (ks++[x])=ks' ++[x']/\x'.2.2.2.2.2.2.2.1=x.2.2.2.2.2.2.2.1/\x'.2.2.2.2.2.1=x.2.2.2.2.2.1:=by
 match ks with
 | []=>exact⟨[],x,rfl,rfl,rfl⟩
 | [y]=>exact⟨[_],x,rfl,rfl,rfl⟩
 |y::z::ks' =>exact⟨_::z::ks',x,rfl,rfl,rfl⟩
theorem Zj3(js:List Zar):Zal (ZjJ js)=Zal js:=by
 match js with
 | []=>rfl
 | [_]=>rfl
 |x::y::js=>
  rw[Zo6]
  cases h:x.1 with
  |true=>rfl
  |false=>
   have e: ∀z:Zar,z.1=false->Zet z=false:=fun z hz=>by unfold Zet;rw[hz];rfl
   have e2: (ZmB x y).1=false:=h;unfold Zal;simp only[Vpa,cond_false];rw[e x h,e _ e2];simp only[Vr,if_false]
def Zbk(q:Za4)(L:List Zar):Int:=if L.length=0 then q.2.2.1 else(lg L (L.length - 1)).2.2.2.2.2.2.2.1
theorem Zos(q:Za4){L:List Zar}(hl:L.length<9000000000):F106 q (L,())=some (Zbk q L):=by
 unfold F106 Zbk;by_cases h:L.length=0
 ·rw[if_pos h,decide_eq_true (show ((L.length:Int)=0) by omega)];rfl
 ·rw[if_neg h,decide_eq_false (show¬ ((L.length:Int)=0) by omega)];have w1:Vc .i64 ((L.length:Int) - 1)=((L.length - 1:Nat):Int):=by rw[Zae (by omega) (by omega)];omega
  simp only[cond_false,w1,Zfb (show L.length - 1<L.length by omega),bind_some]
theorem Zl3(q:Za4)(ks:List Zar)(x:Zar):Zbk q (ks++[x])=x.2.2.2.2.2.2.2.1:=by unfold Zbk lg;rw[if_neg (by simp)];simp
theorem Der.arrival{n:Zas}{q:Za4}{w:Int}{k:Nat}{s t:Int}{js:List Zar}(d:Der n q.1 q.2.2.1 w (.arr k s t) js):Zbk q (ZjJ js)=t:=by
 rcases d.arr_last with ⟨rfl,rfl,_⟩ | ⟨ks,x,rfl,h,_⟩
 ·rfl
 ·obtain⟨ks',x',e,h',_⟩:=ZmE ks x;rw[e,Zl3,h',h]
theorem ZnK{L:List Zar}(hl:L.length<9000000000):F109 (L,())=some (Zal L:Int):=by
 unfold F109;refine Zbi (fun r=>r=(Zal L:Int)) ?_ (fun r hr=>by rw[hr]);refine ZaL L.length _ (fun i (st:Int×Int)=>st=((Zal (L.take i):Int),(i:Int))) ?_ ?_ _ rfl
 ·rintro i _ hi rfl;left
  have hb:Zal (L.take i)<=L.length:=by unfold Zal;have:=Vla Zet (L.take i);rw[Vv]at this;omega
  have w1:Vc .i64 ((Zal (L.take i):Int)+1)=((Zal (L.take i)+1:Nat):Int):=by rw[Zae (by omega) (by omega)];omega
  simp only[Zat hi,cond_true,Zaf hi,bind_some,Zaj hi (show _<=9223372036854775807 by omega),w1];rw[Va hi,Zbf]
  have e:Zal [L[i]]=if Zet L[i] then 1 else 0:=by
   unfold Zal
   cases h:Zet L[i]<;>simp [h]
  rw[e];unfold Zet Za2
  cases L[i].1 with
  |false=>exact⟨_,rfl,rfl⟩
  |true=>
   cases L[i].2.2.2.2.2.2.2.2.1 with
   |true=>exact⟨_,rfl,rfl⟩
   |false=>exact⟨_,rfl,rfl⟩
 ·rintro _ rfl;simp only[Zaw,cond_false,Vg];exact⟨_,rfl,rfl⟩
theorem ZxL{P:Nat->Prop} : ∀ {m:Nat},P m-> ∃k,k<=m/\P k/\ ∀j,j<k-> ¬P j:=by
 intro m
 induction m using Nat.strongRecOn with
 |_ m ih=>
  intro h;by_cases e: ∃j,j<m/\P j
  ·obtain⟨j,h1,h2⟩:=e;obtain⟨k,k1,k2,k3⟩:=ih j h1 h2;exact⟨k,by omega,k2,k3⟩
  ·exact⟨m,Vi m,h,fun j hj hp=>e ⟨j,hj,hp⟩⟩
variable {n:Zas}{s0 t0 w:Int}{m:Nat}{f:ZaH}{rs:List (List ZbI)}
theorem ZqO(F:Zfd n s0 t0 w m f rs)(hm:m<=8)(hst:n.1.length<=64){n0:Zas}{q:Za4}(h:F116 n0 q=some (f,rs,0)){a:Nat}(hq:q.2.1=(a:Int))(ha:a<n.1.length)(b:Int):
  (∃k,k<=m/\(arrV rs k a≠ -1/\arrV rs k a<=b)/\(∀j,j<k-> ¬ (arrV rs j a≠ -1/\arrV rs j a<=b))/\F113 n0 q b=some ((k:Int),true))\/
  ((∀j,j<=m-> ¬ (arrV rs j a≠ -1/\arrV rs j a<=b))/\F113 n0 q b=some (0,false)):=by
 have step: ∀i,i<=m->(Vz (idx (ZhA rs) (i:Int)) fun x2=>
   Vz (idx x2 q.2.1) fun x3=>
   Vz (bif !decide (x3=(-1:Int)) then some (decide (x3<=b)) else some false) fun x4=>
   bif x4 then some (.inr (.inr ((i:Int),true))) else some (.inl (Vc .i64 ((i:Int)+(1:Int)))))=
   (if arrV rs i a≠ -1/\arrV rs i a<=b then some (.inr (.inr ((i:Int),true))) else some (.inl ((i+1:Nat):Int)):Option (Int ⊕ (Unit ⊕ (Int×Bool)))):=by
  intro i hi;rw[F.idxA hi,hq];simp only[bind_some,F.idxR hi ha];have w1:Vc .i64 ((i:Int)+1)=((i+1:Nat):Int):=by rw[Zae (by omega) (by omega)];omega
  rw[w1];by_cases e1:arrV rs i a= -1
  ·rw[decide_eq_true e1,if_neg (fun h=>h.1 e1)];rfl
  ·rw[decide_eq_false e1];by_cases e2:arrV rs i a<=b
   ·rw[decide_eq_true e2,if_pos ⟨e1,e2⟩];rfl
   ·rw[decide_eq_false e2,if_neg (fun h=>e2 h.2)];rfl
 by_cases hex: ∃j,j<=m/\(arrV rs j a≠ -1/\arrV rs j a<=b)
 ·obtain⟨j,hj,hjb⟩:=hex;obtain⟨k,hk,hk1,hk2⟩:=ZxL (P:=fun j=>arrV rs j a≠ -1/\arrV rs j a<=b) hjb;left;refine⟨k,by omega,hk1,hk2, ?_⟩;unfold F113;rw[Zh5 F hm hst h];simp only[bind_some,decide_true,Vm,cond_false];refine Zbi (fun r=>r= .inr ((k:Int),true)) ?_ (by rintro _ rfl;rfl);refine ZaL k _ (fun i (st:Int)=>st=(i:Int)) ?_ ?_ _ rfl
  ·rintro i _ hi rfl;left;have hl:i< (ZhA rs).length:=by rw[F.lenA];omega
   rw[Zat hl];simp only[cond_true];have:=step i (by omega);rw[if_neg (hk2 i hi)]at this;exact⟨_,this,rfl⟩
  ·rintro _ rfl;have hl:k< (ZhA rs).length:=by rw[F.lenA];omega
   rw[Zat hl];simp only[cond_true];have:=step k (by omega);rw[if_pos hk1]at this;exact⟨_,this,rfl⟩
 ·right;have hno: ∀j,j<=m-> ¬ (arrV rs j a≠ -1/\arrV rs j a<=b):=fun j hj hp=>hex ⟨j,hj,hp⟩;refine⟨hno, ?_⟩;unfold F113;rw[Zh5 F hm hst h];simp only[bind_some,decide_true,Vm,cond_false];refine Zbi (fun r=>r= .inl ()) ?_ (by rintro _ rfl;rfl);refine ZaL (ZhA rs).length _ (fun i (st:Int)=>st=(i:Int)) ?_ ?_ _ rfl
  ·rintro i _ hi rfl;left;rw[Zat hi];simp only[cond_true];rw[F.lenA]at hi;have:=step i (by omega);rw[if_neg (hno i (by omega))]at this;exact⟨_,this,rfl⟩
  ·rintro _ rfl;simp only[Zaw,cond_false];exact⟨_,rfl,rfl⟩
end Q
namespace Q
open Tr Go
open Option (bind_some)
structure ZwD (n:Zas):Prop where
 stops:n.1.length<=5
 runs:n.2.2.1.length<=7
 links:n.2.2.2.1.length<=30
 paths:n.2.2.2.2.1.length<=60
 calls: ∀r∈n.2.2.1,r.2.2.2.2.2.2.2.1.length<=6
 whole:Whole n
open Classical in
theorem Zsu{n:Zas}(h:Zng Y31 n): ∃b,F62 n=some b/\(b=true->ZwD n):=by
 unfold F62;by_cases h1: (5:Int)< (n.1.length:Int)
 ·rw[decide_eq_true h1];exact⟨false,rfl,fun e=>(nomatch e)⟩
 by_cases h2: (7:Int)< (n.2.2.1.length:Int)
 ·rw[decide_eq_false h1,decide_eq_true h2];exact⟨false,rfl,fun e=>(nomatch e)⟩
 by_cases h3: (30:Int)< (n.2.2.2.1.length:Int)
 ·rw[decide_eq_false h1,decide_eq_false h2,decide_eq_true h3];exact⟨false,rfl,fun e=>(nomatch e)⟩
 by_cases h4: (60:Int)< (n.2.2.2.2.1.length:Int)
 ·rw[decide_eq_false h1,decide_eq_false h2,decide_eq_false h3,decide_eq_true h4];exact⟨false,rfl,fun e=>(nomatch e)⟩
 rw[decide_eq_false h1,decide_eq_false h2,decide_eq_false h3,decide_eq_false h4];simp only[cond_false,bind_some];have hfit:=Zxu h (by omega);rw[ZgC hfit]
 have key: ∀ (o:Option (Unit ⊕ Bool)),(∃r,o=some r/\(r= .inr false\/r= .inl ()/\ ∀x∈n.2.2.1,x.2.2.2.2.2.2.2.1.length<=6))->
   ∃b,(Vz o fun x3=>Sum.elim (fun _=>Vz (some (decide (Whole n))) fun x5=>some x5) (fun y6=>some y6) x3)=some b/\(b=true->ZwD n):=by
  rintro o ⟨r,rfl,rfl| ⟨rfl,hc⟩⟩
  ·exact⟨false,rfl,fun e=>(nomatch e)⟩
  ·exact⟨_,rfl,fun e=>⟨by omega,by omega,by omega,by omega,hc,of_decide_eq_true e⟩⟩
 refine key _ (ZaL n.2.2.1.length _ (fun i (s:Int)=>s=(i:Int)/\ ∀x∈n.2.2.1.take i,x.2.2.2.2.2.2.2.1.length<=6) ?_ ?_ _ ⟨rfl,by simp⟩)
 ·rintro i _ hi ⟨rfl,ha⟩;simp only[Zat hi,cond_true,Zaf hi,bind_some,Zaj hi (show _<=9223372036854775807 by omega)];by_cases hc: (6:Int)< ((n.2.2.1[i]).2.2.2.2.2.2.2.1.length:Int)
  ·right;rw[decide_eq_true hc];exact⟨_,rfl, .inl rfl⟩
  ·left;rw[decide_eq_false hc];refine⟨_,rfl,rfl,fun x hx=> ?_⟩;rw[Va hi,Vl]at hx;rcases hx with hx|hx
   ·exact ha x hx
   ·simp only[Vf]at hx;subst hx;omega
 ·rintro _ ⟨rfl,ha⟩;simp only[Zaw,cond_false];rw[Vg]at ha;exact⟨_,rfl, .inr ⟨rfl,ha⟩⟩
theorem Zmn{n:Zas}(h:Zng Y31 n)(q:Za4): ∃b,F31 n q=some b/\(b=true->ZwD n/\qB n.1.length q=true/\q.2.2.2.1=false/\q.2.2.2.2.1<=3):=by
 unfold F31;obtain⟨b,hb1,hb2⟩:=Zsu h;rw[hb1]
 cases b with
 |false=>exact⟨false,rfl,fun e=>(nomatch e)⟩
 |true=>
  have hT:=hb2 rfl;simp only[bind_some,cond_true];rw[Zj1 n.1.length (by have:=hT.stops;omega) q];simp only[bind_some]
  cases hq:qB n.1.length q with
  |false=>exact⟨false,rfl,fun e=>(nomatch e)⟩
  |true=>
   cases hk:q.2.2.2.1 with
   |true=>exact⟨false,rfl,fun e=>(nomatch e)⟩
   |false=>
    simp only[cond_true,Vw,bind_some];exact⟨_,rfl,fun e=>⟨hT,trivial,trivial,of_decide_eq_true e⟩⟩
theorem Zsz{n:Zas}(h:Zng Y31 n){q:Za4}(hT:ZwD n)(hq:qB n.1.length q=true)(hb:q.2.2.2.1=false):Fit n/\Few n/\ZuW n q=0/\ZkJ n q=0:=by
 have hfit:=Zxu h (by have:=hT.paths;omega);have hc:=ZfE.2 ⟨hT.whole,hq⟩;refine⟨hfit,⟨by have:=hT.stops;omega, ?_,by have:=hT.runs;omega,by have:=hT.links;omega,by have:=hT.paths;omega, ?_,fun r hr=>by have:=hT.calls r hr;omega⟩,Zte hc hb,hc⟩
 ·have t:=hT.whole.t;unfold Zfm at t;split at t
  ·exact absurd t (by decide)
  ·omega
 ·have z:=hT.whole.z;unfold ZhV at z;split at z
  ·exact absurd z (by decide)
  ·split at z
   ·exact absurd z (by decide)
   ·omega
end Q
namespace Q
open Tr Go
open Option (bind_some)
variable {n:Zas}{q:Za4}
def Zxq(n:Zas)(q:Za4)(x:Zar):Prop:=x.2.2.2.2.1=q.1/\Za2 x=false/\q.2.2.1<=x.2.2.2.2.2.2.1/\(x.1=false->x.2.2.2.2.2.2.1=q.2.2.1)/\(q.2.2.2.2.2.2.2.2.2.1=true->x.1=true->q.2.2.1+(Zci n q.1).2.2.2.1<=x.2.2.2.2.2.2.1)
def Zug(n:Zas)(q:Za4)(x y:Zar):Prop:=Zbj n x y=0/\(x.1=true->Za2 y=false->ZbV n (Zbv q) x=0)
def Zl1(n:Zas)(q:Za4)(L:List Zar):Prop:=(∀i,i<L.length->ZhP n (Zbv q) (lg L i)=0)/\(∀i,i+1<L.length->Zug n q (lg L i) (lg L (i+1)))/\(0<L.length->Zxq n q (lg L 0))
def Zs7(n:Zas)(q:Za4)(L:List Zar):Prop:= ∀ks x,L=ks++[x]->x.1=true->ZbV n (Zbv q) x=0
theorem Zts{ks:List Zar}{x:Zar}{i:Nat}(h:i<ks.length):lg (ks++[x]) i=lg ks i:=by unfold lg;rw[Vxa h]
theorem ZuC(ks:List Zar)(x:Zar):lg (ks++[x]) ks.length=x:=by unfold lg;simp
theorem ZoY:Zl1 n q []:=⟨fun i h=>absurd h (Vcb i),fun _ h=>absurd h (Vcb _),fun h=>absurd h (Vlc 0)⟩
theorem Zpl{x:Zar}(h1:ZhP n (Zbv q) x=0)(h2:Zxq n q x):Zl1 n q [x]:=by
 refine⟨fun i h=> ?_,fun i h=> ?_,fun _=>h2⟩
 ·have:i=0:=by simp at h;omega
  subst this;exact h1
 ·simp at h
theorem ZfC{ks:List Zar}{x y:Zar}(h:Zl1 n q (ks++[x]))(h1:ZhP n (Zbv q) y=0)(h2:Zug n q x y):Zl1 n q (ks++[x]++[y]):=by
 have hl: (ks++[x]).length=ks.length+1:=by simp
 refine⟨fun i hi=> ?_,fun i hi=> ?_,fun _=> ?_⟩
 ·rw[Ve,Vk,hl]at hi;by_cases e:i<ks.length+1
  ·rw[Zts (by omega)];exact h.1 i (by omega)
  ·have:i=(ks++[x]).length:=by omega
   rw[this,ZuC];exact h1
 ·rw[Ve,Vk,hl]at hi;by_cases e:i+1<ks.length+1
  ·rw[Zts (show i< (ks++[x]).length by omega),Zts (show i+1< (ks++[x]).length by omega)];exact h.2.1 i (by omega)
  ·have e1:i=ks.length:=by omega
   rw[Zts (show i< (ks++[x]).length by omega)];have:i+1=(ks++[x]).length:=by omega
   rw[this,ZuC,e1,ZuC];exact h2
 ·rw[Zts (by omega)];exact h.2.2 (by omega)
def Zmt.legs(n:Zas)(q:Za4):Zmt->List Zar->Prop
 | .rdy _ s r,js=>Zl1 n q js/\ ∀i c c',i<n.2.2.1.length->c<c' ->c' < (Zai n i).length->ZcU n i=false->(Zac n i c).1=s->(Zac n i c).2.2.2.1=true->r<=(Zac n i c).2.2.1->Zl1 n q (js++[ZbB n i c c' false])
 | .brd _ i c st,js=> ∀c',c<c' ->c' < (Zai n i).length->Zl1 n q (js++[ZbB n i c c' st])
 | .lnk _ i c,js=>ZcU n i=false-> ∀c',c<c' ->c' < (Zai n i).length->Zl1 n q (js++[ZbB n i c c' false])
 | .on _ i c,js=>Zl1 n q js/\ ∃ks b st,js=ks++[ZbB n i b c st]/\i<n.2.2.1.length/\c< (Zai n i).length
 | .rid _ s t,js=>Zl1 n q js/\ ∃ks i b c st,js=ks++[ZbB n i b c st]/\i<n.2.2.1.length/\c< (Zai n i).length/\(Zac n i c).2.2.2.2.1=true/\s=(Zac n i c).1/\t=(Zac n i c).2.1
 | .arr _ _ _,js=>Zl1 n q js/\Zs7 n q js
theorem Zmc(s t a b:Int): (ZdZ s t a b).1=true->False:=fun e=>Bool.noConfusion e
theorem ZxM(n:Zas)(i b c:Nat)(st:Bool): (ZbB n i b c st).1=false->False:=fun e=>Bool.noConfusion e
theorem Zmu(ks:List Zar)(s t a b:Int):Zs7 n q (ks++[ZdZ s t a b]):=by intro ls x e hx;have:=Vfc e rfl;have e2:=this.2;simp only[List.cons.injEq,and_true]at e2;rw[<-e2]at hx;exact(Zmc _ _ _ _ hx).elim
theorem ZrN{ks:List Zar}{i b c:Nat}{st:Bool}(h: (Zac n i c).2.2.2.2.1=true):Zs7 n q (ks++[ZbB n i b c st]):=by intro ls x e hx;have:=Vfc e rfl;have e2:=this.2;simp only[List.cons.injEq,and_true]at e2;rw[<-e2];exact Zdo.2 h
theorem Zt0(h:Zcq n)(hs:0<=q.1/\q.1< (n.1.length:Int))(ht:0<=q.2.2.1/\q.2.2.1<=3155932800){f:Zmt}{js:List Zar}(d:Der n q.1 q.2.2.1 (bif q.2.2.2.2.2.2.2.2.2.1 then(Zci n q.1).2.2.2.1 else 0) f js):f.legs n q js:=by
 have hcg:=h.change _ hs.1 hs.2
 have first: ∀ {p:Zb2},p∈n.2.2.2.2.1->p.1=q.1->q.2.2.1+p.2.2.1<=3155932800->Zl1 n q [ZdZ q.1 p.2.1 q.2.2.1 (q.2.2.1+p.2.2.1)]:=by intro p h1 h2 h3;refine Zpl ((Zc9 h).2 ⟨p,h1,q.2.2.1,by rw[h2],ht.1,h3⟩).1 ⟨rfl,rfl,Vua _,fun _=>rfl,fun _ e=>(Zmc _ _ _ _ e).elim⟩
 have walk: ∀ {ks:List Zar}{i b c:Nat}{st:Bool}{p:Zb2},Zl1 n q (ks++[ZbB n i b c st])->(Zac n i c).2.2.2.2.1=true->p∈n.2.2.2.2.1->p.1=(Zac n i c).1->i<n.2.2.1.length->c< (Zai n i).length->(Zac n i c).2.1+p.2.2.1<=3155932800->Zl1 n q (ks++[ZbB n i b c st]++[ZdZ (Zac n i c).1 p.2.1 (Zac n i c).2.1 ((Zac n i c).2.1+p.2.2.1)]):=by intro ks i b c st p h1 h2 h3 h4 h5 h6 h7;exact ZfC h1 ((Zc9 h).2 ⟨p,h3,_,by rw[h4],(h.time h5 h6).1,h7⟩).1 ⟨Zrr.2 ⟨rfl,rfl⟩,fun _ _=>Zdo.2 h2⟩
 have behind: ∀ {ks:List Zar}{s t a z:Int}{i c c' :Nat},Zl1 n q (ks++[ZdZ s t a z])->i<n.2.2.1.length->c<c' ->c' < (Zai n i).length->ZcU n i=false->(Zac n i c).1=t->(Zac n i c).2.2.2.1=true->z<=(Zac n i c).2.2.1->Zl1 n q (ks++[ZdZ s t a z]++[ZbB n i c c' false]):=by intro ks s t a z i c c' h1 h2 h3 h4 h5 h6 h7 h8;exact ZfC h1 ((Zc8 h).2 ⟨i,c,c',false,rfl,h2,h3,h4,h5, .inr h7⟩).1 ⟨Zku.2 ⟨h6.symm,h8⟩,fun e=>(Zmc _ _ _ _ e).elim⟩
 induction d with
 |init=>
  refine⟨ZoY,fun i c c' h1 h2 h3 h4 h5 h6 h7=> ?_⟩;refine Zpl ((Zc8 h).2 ⟨i,c,c',false,rfl,h1,h2,h3,h4, .inr h6⟩).1 ⟨h5,rfl, ?_,fun e=>(ZxM _ _ _ _ _ e).elim,fun e _=> ?_⟩
  ·show q.2.2.1<=(Zac n i c).2.2.1
   cases hc:q.2.2.2.2.2.2.2.2.2.1 with
   |true=>rw[hc]at h7;simp only[cond_true]at h7;omega
   |false=>rw[hc]at h7;simp only[cond_false]at h7;omega
  ·rw[e]at h7
   exact h7
 |here=>exact⟨ZoY,fun ks x e=>by simp at e⟩
 |rdyW h1 h2 h3=>exact⟨first h1 h2 h3,fun i c c' a1 a2 a3 a4 a5 a6 a7=>behind (ks:=[]) (first h1 h2 h3) a1 a2 a3 a4 a5 a6 a7⟩
 |arrW h1 h2 h3=>exact⟨first h1 h2 h3,fun a b e=>Zmu [] _ _ _ _ a b e⟩
 |board d h1 h2 h3 h4 h5 h6 ih=>exact fun c' a1 a2=>ih.2 _ _ _ h1 a1 a2 h3 h4 h5 h6
 |on d h1 h2 ih=>exact⟨ih _ h1 h2,_,_,_,rfl,(d.ok h hs ht (by cases q.2.2.2.2.2.2.2.2.2.1<;>simp<;>omega)).2.1,h2⟩
 |stay d h1 h2 h3 ih=>
  intro c' a1 a2;obtain⟨i1,ks,b,st,rfl,i2,i3⟩:=ih;obtain⟨l1,l2,l3,l4,l5,l6,l7⟩:=h.isLink h1
  exact ZfC i1 ((Zc8 h).2 ⟨_,_,c',true,rfl,l2,a1,a2,h3, .inl rfl⟩).1 ⟨(Zo0 h).2 ⟨l6,h1,h2⟩,fun _ e=>absurd e (by simp [Za2,ZbB])⟩
 |link d h1 h2 h3 h4 ih=>
  intro hcn c' a1 a2;obtain⟨i1,ks,b,st,rfl,i2,i3⟩:=ih;obtain⟨l1,l2,l3,l4,l5,l6,l7⟩:=h.isLink h2
  exact ZfC i1 ((Zc8 h).2 ⟨_,_,c',false,rfl,l2,a1,a2,hcn, .inr h4⟩).1 ⟨(Zpt h l1 l4).2 ⟨l6, .inr ⟨h2,h3⟩⟩,fun _ _=>Zdo.2 h1⟩
 |linked d h1 ih=>exact ih h1
 |ride d h1 ih=>
  obtain⟨i1,ks,b,st,rfl,i2,i3⟩:=ih
  exact⟨i1,ks,_,b,_,st,rfl,i2,i3,h1,rfl,rfl⟩
 |change d ih=>
  obtain⟨i1,ks,i,b,c,st,rfl,i2,i3,i4,rfl,rfl⟩:=ih;refine⟨i1,fun j e e' a1 a2 a3 a4 a5 a6 a7=> ?_⟩
  exact ZfC i1 ((Zc8 h).2 ⟨j,e,e',false,rfl,a1,a2,a3,a4, .inr a6⟩).1 ⟨(Zpt h i2 i3).2 ⟨a5.symm, .inl a7⟩,fun _ _=>Zdo.2 i4⟩
 |rdyV d h1 h2 h3 ih=>
  obtain⟨i1,ks,i,b,c,st,rfl,i2,i3,i4,rfl,rfl⟩:=ih;have:=walk i1 i4 h1 h2 i2 i3 h3
  exact⟨this,fun j e e' a1 a2 a3 a4 a5 a6 a7=>behind this a1 a2 a3 a4 a5 a6 a7⟩
 |arrR d ih=>
  obtain⟨i1,ks,i,b,c,st,rfl,i2,i3,i4,rfl,rfl⟩:=ih
  exact⟨i1,ZrN i4⟩
 |arrV d h1 h2 h3 ih=>
  obtain⟨i1,ks,i,b,c,st,rfl,i2,i3,i4,rfl,rfl⟩:=ih;exact⟨walk i1 i4 h1 h2 i2 i3 h3,fun a b e=>Zmu _ _ _ _ _ a b e⟩
theorem Zvz{L:List Zar}(h1: ∀i,i<L.length->ZhP n (Zbv q) (lg L i)=0)(h2: ∀i,i+1<L.length->Zug n q (lg L i) (lg L (i+1)))(h3:0<L.length->Zg4 n (Zbv q) L=0)(h4:Zs7 n q L): ∀i,i<L.length->atE n (Zbv q) L i=0:=by
 intro i hi;refine Zd1.2 ⟨h1 i hi, ?_,fun hb=> ?_⟩
 ·cases i with
  |zero=>exact h3 hi
  |succ i=>rw[Zes];exact(h2 i hi).1
 ·unfold Zgh at hb;simp only[Vh,Vic,decide_eq_true_eq,Vkb]at hb;by_cases e:i+1=L.length
  ·refine h4 (L.take i) (lg L i) ?_ hb.1;have:=Va hi;rw[e,Vg]at this;rw[ZlC hi];exact this
  ·exact(h2 i (by omega)).2 hb.1 (hb.2.resolve_left e)
theorem Ze5(x:Zar)(L:List Zar)(i:Nat):lg (x::L) (i+1)=lg L i:=by unfold lg;simp
theorem Zv4(h:Zcq n)(hs:0<=q.1/\q.1< (n.1.length:Int))(ht:0<=q.2.2.1/\q.2.2.1<=3155932800)(hb:q.2.2.2.1=false){L:List Zar}(hL:Zl1 n q L)(hT:Zs7 n q L): ∀i,i< (ZjJ L).length->atE n (Zbv q) (ZjJ L) i=0:=by
 have hcg:=h.change _ hs.1 hs.2;obtain⟨h1,h2,h3⟩:=hL;have g1: (Zbv q).1=q.1:=rfl;have g2: (Zbv q).2.2.1=q.2.2.1:=rfl;have g3: (Zbv q).2.2.2.1=q.2.2.2.1:=rfl;have g4: (Zbv q).2.2.2.2.2.2.2.2.2.1=q.2.2.2.2.2.2.2.2.2.1:=rfl;have w1:Vc .i64 (q.2.2.1+(Zci n q.1).2.2.2.1)=q.2.2.1+(Zci n q.1).2.2.2.1:=Zae (by omega) (by omega)
 match L,h1,h2,h3,hT with
 | [],_,_,_,_=>exact fun i hi=>absurd hi (Vcb i)
 | [x],h1,h2,h3,hT=>
  refine Zvz h1 h2 (fun _=> ?_) hT;obtain⟨a1,a2,a3,a4,a5⟩:=h3 (by simp);have ex:lg [x] 0=x:=rfl;rw[ex]at a1 a2 a3 a4 a5;refine Zcy.2 ?_;rw[g1,g2,g3,g4,w1,hb];show x.2.2.2.2.1=q.1/\Za2 x=false/\_/\_/\(true&&decide (x.2.2.2.2.2.2.1<q.2.2.1))=false/\(q.2.2.2.2.2.2.2.2.2.1&& (x.1&&decide (x.2.2.2.2.2.2.1<q.2.2.1+(Zci n q.1).2.2.2.1)))=false;refine⟨a1,a2,by show (!x.1&& (false&&_))=false;simp, ?_,by rw[decide_eq_false (by omega)];rfl, ?_⟩
  ·show (!x.1&& (true&& (!decide (x.2.2.2.2.2.2.1=q.2.2.1))))=false
   cases hx:x.1 with
   |true=>rfl
   |false=>rw[decide_eq_true (a4 hx)];rfl
  ·cases hc:q.2.2.2.2.2.2.2.2.2.1 with
   |false=>rfl
   |true=>
    cases hx:x.1 with
    |false=>rfl
    |true=>rw[decide_eq_false (by have:=a5 hc hx;omega)];rfl
 |x::y::js,h1,h2,h3,hT=>
  rw[Zo6];obtain⟨a1,a2,a3,a4,a5⟩:=h3 (by simp);have ex:lg (x::y::js) 0=x:=rfl;have ey:lg (x::y::js) 1=y:=rfl;rw[ex]at a1 a2 a3 a4 a5
  cases hx:x.1 with
  |true=>
   simp only[cond_true];refine Zvz h1 h2 (fun _=> ?_) hT;refine Zcy.2 ?_;rw[g1,g2,g3,g4,w1,hb,ex,hx];refine⟨a1,a2,rfl,rfl,by rw[decide_eq_false (by omega)];rfl, ?_⟩
   cases hc:q.2.2.2.2.2.2.2.2.2.1 with
   |false=>rfl
   |true=>rw[decide_eq_false (by have:=a5 hc hx;omega)];rfl
  |false=>
   simp only[cond_false];have l0:=h1 0 (by simp);have l1:=h1 1 (by simp);have f0:=(h2 0 (by simp)).1;rw[ex]at l0 f0;rw[ey]at l1 f0;obtain⟨p,hp,a,e,b1,b2⟩:=(Zc9 h).1 ⟨l0,hx⟩;have hpp:=h.path p hp
   cases hy:y.1 with
   |false=>
    obtain⟨p',hp',a',e',_⟩:=(Zc9 h).1 ⟨l1,hy⟩;rw[e,e']at f0
    exact(Zl0 _ _ _ _ _ _ _ _ _ f0).elim
   |true=>
    obtain⟨j,d,c,st,e',k1,k2,k3,k4,k5⟩:=(Zc8 h).1 ⟨l1,hy⟩
    cases st with
    |true=>rw[e,e']at f0;exact(ZjH _ _ _ _ _ _ _ _ f0).elim
    |false=>
     rw[e,e']at f0;obtain⟨f1,f2⟩:=Zku.1 f0;have htm:=h.time k1 (show d< (Zai n j).length by omega);have ha:a=q.2.2.1:=by have:=a4 hx;rw[e]at this;exact this
     have eS:ZmB x y=ZdZ p.1 p.2.1 ((Zac n j d).2.2.1 - p.2.2.1) ((Zac n j d).2.2.1 - p.2.2.1+p.2.2.1):=by rw[e,e'];unfold ZmB ZdZ ZbB;simp only;rw[Zae (x:=a+p.2.2.1 - a) (by omega) (by omega),Zae (by omega) (by omega)];rw[show (Zac n j d).2.2.1 - (a+p.2.2.1 - a)=(Zac n j d).2.2.1 - p.2.2.1 by omega,show (Zac n j d).2.2.1 - p.2.2.1+p.2.2.1=(Zac n j d).2.2.1 by omega]
     rw[eS];refine Zvz (fun i hi=> ?_) (fun i hi=> ?_) (fun _=> ?_) (fun ks z ez hz=> ?_)
     ·cases i with
      |zero=>exact((Zc9 h).2 ⟨p,hp,_,rfl,by omega,by omega⟩).1
      |succ i=>rw[Ze5];have:=h1 (i+1) hi;rw[Ze5]at this;exact this
     ·cases i with
      |zero=>
       show Zug n q (ZdZ _ _ _ _) y;rw[e']
       exact⟨Zku.2 ⟨f1,by omega⟩,fun e=>(Zmc _ _ _ _ e).elim⟩
      |succ i=>rw[Ze5,Ze5];have:=h2 (i+1) hi;rw[Ze5,Ze5]at this;exact this
     ·refine Zcy.2 ?_;rw[g1,g2,g3,g4,w1,hb];have hq1:p.1=q.1:=by rw[e]at a1;exact a1
      refine⟨hq1,rfl, ?_, ?_, ?_, ?_⟩
      ·show (true&& (decide (1< (y::js).length+1) && (y.1&& !decide (y.2.2.2.2.2.2.1=(Zac n j d).2.2.1 - p.2.2.1+p.2.2.1))))=false;rw[e'];have:decide ((ZbB n j d c false).2.2.2.2.2.2.1=(Zac n j d).2.2.1 - p.2.2.1+p.2.2.1)=true:=decide_eq_true (by show (Zac n j d).2.2.1=_;omega);rw[this];simp
      ·have:decide ((ZdZ p.1 p.2.1 ((Zac n j d).2.2.1 - p.2.2.1) ((Zac n j d).2.2.1 - p.2.2.1+p.2.2.1)::y::js).length=1)=false:=decide_eq_false (by simp);rw[this];simp
      ·show (true&&decide ((Zac n j d).2.2.1 - p.2.2.1<q.2.2.1))=false;rw[decide_eq_false (by omega)];rfl
      ·show (_&& (false&&_))=false;simp
     ·cases ks with
      |nil=>simp at ez
      |cons k ks=>
       rw[Vgc,List.cons.injEq]at ez;exact hT (x::ks) z (by rw[Vgc,ez.2]) hz
theorem Zwn(n:Zas): ∀ (L:List Zar) (w:Bool) (out:List Zdu),(∀x∈L,x.1=true->ZaN n x=true)->(∀x∈L,Za2 x=true->x.1=true)->(0<L.length->Za2 (lg L 0)=true->w=true)->(∀i,i+1<L.length->Za2 (lg L (i+1))=true->(lg L i).1=true)->(Zbs n L w out).2=0
 | [],_,_,_,_,_,_=>rfl
 |x::L,w,out,h1,h2,h3,h4=>by
  rw[ZcX];have hx0:lg (x::L) 0=x:=rfl
  rw[if_neg (fun h=>by have:=h1 x (by simp) h.1;rw[h.2]at this;cases this),if_neg (fun h=>by
   rcases h.2 with e|e
   ·have:=h2 x (by simp) h.1;rw[e]at this;cases this
   ·have:=h3 (by simp) (by rw[hx0];exact h.1);rw[e]at this;cases this)]
  have hn:0<L.length->Za2 (lg L 0)=true->x.1=true:=fun hl hs=>by have:=h4 0 (by simpa using hl) (by rw[Ze5];exact hs);rw[hx0]at this;exact this
  have hr: ∀i,i+1<L.length->Za2 (lg L (i+1))=true->(lg L i).1=true:=fun i hi hs=>by have:=h4 (i+1) (by simpa using hi) (by rw[Ze5];exact hs);rw[Ze5]at this;exact this
  by_cases hx:x.1=true
  ·rw[if_pos hx];exact Zwn n L true _ (fun y hy=>h1 y (by simp [hy])) (fun y hy=>h2 y (by simp [hy])) (fun _ _=>rfl) hr
  ·rw[if_neg hx];exact Zwn n L false _ (fun y hy=>h1 y (by simp [hy])) (fun y hy=>h2 y (by simp [hy])) (fun hl hs=>absurd (hn hl hs) hx) hr
theorem Zwf(h:Zcq n){L:List Zar}(ha: ∀i,i<L.length->atE n (Zbv q) L i=0): (Zbs n L false []).2=0:=by
 have hg: ∀x∈L,ZhP n (Zbv q) x=0:=by intro x hx;obtain⟨i,hi,rfl⟩:=Vhb hx;have:=(Zd1.1 (ha i hi)).1;rw[ZlC hi]at this;exact this
 have hst: ∀x∈L,Za2 x=true->x.1=true:=by
  intro x hx hs
  cases e:x.1 with
  |true=>rfl
  |false=>
   obtain⟨p,hp,a,e',_⟩:=(Zc9 h).1 ⟨hg x hx,e⟩;rw[e']at hs;cases hs
 refine Zwn n L false [] (fun x hx hr=>((Ziz (hg x hx)).2.2.1 hr).1) hst (fun h0 hs=> ?_) (fun i hi hs=> ?_)
 ·have h2:Zg4 n (Zbv q) L=0:=(Zd1.1 (ha 0 h0)).2.1;rw[(Zcy.1 h2).2.1]at hs;cases hs
 ·cases e: (lg L i).1 with
  |true=>rfl
  |false=>
   have hb:=Zd1.1 (ha (i+1) hi);have hf:=hb.2.1;rw[Zes]at hf;obtain⟨p,hp,a,e',_⟩:=(Zc9 h).1 ⟨(Zd1.1 (ha i (by omega))).1,e⟩;have hr: (lg L (i+1)).1=true:=hst _ (by rw[ZlC hi];exact Vj hi) hs;obtain⟨j,d,c,st,e2,_⟩:=(Zc8 h).1 ⟨hb.1,hr⟩;rw[e2]at hs;have:st=true:=hs;subst this;rw[e',e2]at hf;exact(ZjH _ _ _ _ _ _ _ _ hf).elim
end Q
namespace Q
open Tr Go
open Option (bind_some)
structure Tin (n:Zas):Prop where
 stops:n.1.length<=5
 runs:n.2.2.1.length<=7
 paths:n.2.2.2.2.1.length<=60
 calls: ∀i,i<n.2.2.1.length->(Zai n i).length<=6
variable {n:Zas}{q:Za4}
theorem idxR{i:Nat}(hi:i<n.2.2.1.length):idx n.2.2.1 (i:Int)=some (rn n (i:Int)):=by rw[Zaf hi];unfold rn;rw[Vq,Zak hi]
theorem ZxY{i c:Nat}(hc:c< (Zai n i).length):idx (rn n (i:Int)).2.2.2.2.2.2.2.1 (c:Int)=some (Zac n i c):=by
 have:idx (Zai n i) (c:Int)=some (Zac n i c):=by rw[Zaf hc,Zjs hc]
 exact this
theorem Zjl{β:Type}{f:Nat->List β}{c:Nat} : ∀ {i:Nat},(∀j,j<i->(f j).length<=c)->((Vo i).flatMap f).length<=i*c
 |0,_=>by simp
 |i+1,h=>by
  have:=Zjl (f:=f) (c:=c) (i:=i) fun j hj=>h j (by omega);have h2:=h i (by omega);have e: [i].flatMap f=f i:=by simp
  rw[Vdb,Vy,Ve,Vpb,e];omega
theorem ZoH{β:Type}{step:List β×Int->Option ((List β×Int) ⊕ List β)}(acc:List β)(m n:Nat)(g:Nat->List β)(z:Int)(hz:z=(m:Int))
  (hstep: ∀i,i<n->step (acc++(Vo i).flatMap g,((m+i:Nat):Int))=some (.inl (acc++(Vo i).flatMap g++g i,((m+i+1:Nat):Int))))
  (hend:step (acc++(Vo n).flatMap g,((m+n:Nat):Int))=some (.inr (acc++(Vo n).flatMap g))):run step (acc,z)=some (acc++(Vo n).flatMap g):=by
 subst hz;refine Exists.elim (ZaL (step:=step) n (fun r=>r=acc++(Vo n).flatMap g) (fun i st=>st=(acc++(Vo i).flatMap g,((m+i:Nat):Int))) ?_ ?_ (acc,(m:Int)) (by simp)) ?_
 ·rintro i _ hi rfl;left;refine⟨_,hstep i hi, ?_⟩;rw[Vdb,Vy,Vga];simp;omega
 ·rintro _ rfl;exact⟨_,hend,rfl⟩
 ·rintro r ⟨h1,rfl⟩;exact h1
theorem ZwS{α β:Type}{o:Option α}{f:α->Option β}{Q:β->Prop}(P:α->Prop)(h: ∃r,o=some r/\P r)(k: ∀r,P r-> ∃b,f r=some b/\Q b): ∃b,Vz o f=some b/\Q b:=by obtain⟨r,rfl,hr⟩:=h;exact k r hr
def Zb8(s t:Int)(p:Zb2):Zar:=ZdZ s p.2.1 t (Vc .i64 (t+p.2.2.1))
def ZbT(n:Zas)(s t:Int):List Zar:=(n.2.2.2.2.1.filter fun p=>decide (p.1=s)).map (Zb8 s t)
theorem Zfj(hp:n.2.2.2.2.1.length<=4096)(s t:Int):F104 n s t=some (ZbT n s t):=by
 unfold F104;refine Zbi (fun r=>r=ZbT n s t) ?_ (fun r hr=>by rw[hr]);refine ZaL n.2.2.2.2.1.length _ (fun i (st:List Zar×Int)=>st=(((n.2.2.2.2.1.take i).filter fun p=>decide (p.1=s)).map (Zb8 s t),(i:Int))) ?_ ?_ _ rfl
 ·rintro i _ hi rfl;left
  have hl: (((n.2.2.2.2.1.take i).filter fun p=>decide (p.1=s)).map (Zb8 s t)).length<=4096:=by rw[Vu];have:=Vla (fun p:Zb2=>decide (p.1=s)) (n.2.2.2.2.1.take i);rw[Vv]at this;omega
  have hg:Zam (decide (Vd (((n.2.2.2.2.1.take i).filter fun p=>decide (p.1=s)).map (Zb8 s t))+Vd [Zb8 s t n.2.2.2.2.1[i]]<=Zan))=some ():=ZaO (by simp only[Vk];omega);unfold Zb8 ZdZ at hg;simp only[Zat hi,cond_true,Zaf hi,bind_some,Zaj hi (show _<=9223372036854775807 by omega)];rw[Va hi,List.filter_append,Vp];by_cases h: (n.2.2.2.2.1[i]).1=s
  ·rw[decide_eq_true h];simp only[cond_true];unfold Zb8 ZdZ;rw[hg];refine⟨_,rfl, ?_⟩;rw[Vpa,decide_eq_true h];rfl
  ·rw[decide_eq_false h];refine⟨_,rfl, ?_⟩;rw[Vpa,decide_eq_false h];simp
 ·rintro _ rfl;simp only[Zaw,cond_false,Vg];exact⟨_,rfl,rfl⟩
def Zfr(n:Zas)(i b:Nat):List Zar:=(Vo ((Zai n i).length - (b+1))).map fun k=>ZbB n i b (b+1+k) false
def ZgN(n:Zas)(s t:Int)(i b:Nat):List Zar:=if (Zac n i b).1=s/\t<=(Zac n i b).2.2.1 then Zfr n i b else []
def Zd3(n:Zas)(s t:Int)(i:Nat):List Zar:=(Vo (Zai n i).length).flatMap (ZgN n s t i)
def Zcd(n:Zas)(s t:Int):List Zar:=(Vo n.2.2.1.length).flatMap (Zd3 n s t)
theorem Zro(hT:Tin n){i:Nat}(hi:i<n.2.2.1.length)(s t:Int)(b:Nat): (ZgN n s t i b).length<=6:=by
 have:=hT.calls i hi;unfold ZgN Zfr;split
 ·rw[Vu,List.length_range];omega
 ·simp
theorem Zkp(hT:Tin n){i:Nat}(hi:i<n.2.2.1.length)(s t:Int){b:Nat}(hb:b<=(Zai n i).length): ((Vo b).flatMap (ZgN n s t i)).length<=36:=by have h1:=hT.calls i hi;have h2:=Zjl (f:=ZgN n s t i) (c:=6) (i:=b) fun j _=>Zro hT hi s t j;have:b*6<=6*6:=Vwa _ (by omega);omega
theorem Zex(hT:Tin n)(s t:Int){i:Nat}(hi:i<=n.2.2.1.length): ((Vo i).flatMap (Zd3 n s t)).length<=252:=by have h2:=Zjl (f:=Zd3 n s t) (c:=36) (i:=i) fun j hj=>Zkp hT (show j<n.2.2.1.length by omega) s t (Vi _);have:=hT.runs;have:i*36<=7*36:=Vwa _ (by omega);omega
theorem Zh0(hT:Tin n)(s t:Int):F100 n s t=some (Zcd n s t):=by
 have hr7:=hT.runs;unfold F100;refine Zbi (fun r=>r=Zcd n s t) ?_ (fun r hr=>by rw[hr]);refine⟨_,ZoH [] 0 n.2.2.1.length (Zd3 n s t) 0 rfl ?_ ?_,by rw[Vjc];rfl⟩
 ·intro i hi;have hc6:=hT.calls i hi;simp only[Vjc,Vab];simp only[Zat hi,cond_true,idxR hi,bind_some,Zaj hi (show _<=9223372036854775807 by omega)];have hl0:=Zex hT s t (show i<=n.2.2.1.length by omega);refine Zbi (fun r=>r=(Vo i).flatMap (Zd3 n s t)++Zd3 n s t i) ?_ (fun r hr=>by rw[hr]);refine⟨_,ZoH ((Vo i).flatMap (Zd3 n s t)) 0 (Zai n i).length (ZgN n s t i) 0 rfl ?_ ?_,rfl⟩
  ·intro b hb;have hl1:=Zkp hT hi s t (show b<=(Zai n i).length by omega)
   have hcl:decide (((0+b:Nat):Int)< ((rn n (i:Int)).2.2.2.2.2.2.2.1.length:Int))=true:=by rw[Vab];exact Zat hb
   simp only[hcl,cond_true];rw[Vab];have hw:Vc .i64 ((b:Int)+1)=((b+1:Nat):Int):=by rw[Zae (by omega) (by omega)];omega
   simp only[ZxY hb,bind_some,hw];unfold ZgN;by_cases h1: (Zac n i b).1=s
   ·rw[decide_eq_true h1];by_cases h2: (Zac n i b).2.2.1<t
    ·rw[decide_eq_true h2,if_neg (by omega)];simp
    ·rw[decide_eq_false h2,if_pos ⟨h1,by omega⟩];simp only[Vm,cond_false,bind_some];refine Zbi (fun r=>r=(Vo i).flatMap (Zd3 n s t)++(Vo b).flatMap (ZgN n s t i)++Zfr n i b) ?_ (fun r hr=>by rw[hr];rfl);refine⟨_,ZoH ((Vo i).flatMap (Zd3 n s t)++(Vo b).flatMap (ZgN n s t i)) (b+1) ((Zai n i).length - (b+1)) (fun k=>[ZbB n i b (b+1+k) false]) _ rfl ?_ ?_,by rw[Zlr];rfl⟩
     ·intro k hk;have ha:b+1+k< (Zai n i).length:=by omega
      have hcl2:decide (((b+1+k:Nat):Int)< ((rn n (i:Int)).2.2.2.2.2.2.2.1.length:Int))=true:=Zat ha;have hw2:Vc .i64 (((b+1+k:Nat):Int)+1)=((b+1+k+1:Nat):Int):=by rw[Zae (by omega) (by omega)];omega
      simp only[hcl2,cond_true,ZxY ha,bind_some,hw2];rw[Zlr];have hlk: ((Vo k).map fun k=>ZbB n i b (b+1+k) false).length<=6:=by simp;omega
      rw[ZaO (by simp only[Ve,Vk];omega)];simp only[bind_some];unfold ZbB;rw[h1]
     ·have:decide (((b+1+((Zai n i).length - (b+1)):Nat):Int)< ((rn n (i:Int)).2.2.2.2.2.2.2.1.length:Int))=false:=decide_eq_false (by have: (rn n (i:Int)).2.2.2.2.2.2.2.1.length=(Zai n i).length:=rfl;omega)
      simp only[this,cond_false]
   ·rw[decide_eq_false h1,if_neg (fun h=>h1 h.1)];simp
  ·have:decide (((0+(Zai n i).length:Nat):Int)< ((rn n (i:Int)).2.2.2.2.2.2.2.1.length:Int))=false:=decide_eq_false (by have: (rn n (i:Int)).2.2.2.2.2.2.2.1.length=(Zai n i).length:=rfl;omega)
   simp only[this,cond_false]
 ·simp only[Vab,Zaw,cond_false]
end Q
namespace Q
open Tr Go
open Option (bind_some)
variable {n:Zas}{q:Za4}
theorem Zo2(L:List Zar)(x:Zar)(h:L.length<=1000):F105 (L,()) x=some (L++[x],()):=by
 unfold F105
 have h1:Zam (decide (Vd ([]:List Unit)+Vd L<=Zan))=some ():=by rw[decide_eq_true (show Vd ([]:List Unit)+Vd L<=Zan by simp only[Vma,Zan];omega)];rfl
 have h2:Zam (decide (Vd (([]:List Zar)++L)+Vd [x]<=Zan))=some ():=ZaO (by simp;omega);erw[h1];simp only[bind_some];erw[h2];rfl
def Zct(r:Int):List Zar->Bool
 | []=>false
 |y::l=>if y.2.1=r then true else if Za2 y=true then Zct r l else false
def ZjA(L:List Zar)(x:Zar):Bool:=Za2 x&&Zct x.2.1 L.reverse
theorem ZtE(L:List Zar)(x:Zar)(h:L.length<=1000):F89 (L,()) x=some (ZjA L x):=by
 unfold F89 ZjA
 have key: ∀k,k<=L.length->run (fun s0:Int=>
 Vz (bif decide ((0:Int)<=s0) then some x.2.2.2.2.2.2.2.2.1 else some false) fun x1=>
 bif x1 then
 Vz (idx L s0) fun x2=>
 bif decide (x2.2.1=x.2.1) then some (.inr (.inr true))
 else
 Vz (idx L s0) fun x3=>
 bif !x3.2.2.2.2.2.2.2.2.1 then some (.inr (.inr false)) else some (.inl (Vc .i64 (s0 - (1:Int))))
 else some (.inr (.inl ()))) ((k:Int) - 1)=some (if x.2.2.2.2.2.2.2.2.1=true/\Zct x.2.1 (L.take k).reverse=true then(.inr true:Unit ⊕ Bool) else if x.2.2.2.2.2.2.2.2.1=true/\ ∃y∈L.take k,Za2 y=false then .inr false else .inl ()):=by
  intro k
  induction k with
  |zero=>
   intro _;refine(ZbE (r:= .inl ()) ?_).trans ?_
   ·rw[decide_eq_false (show¬ (0:Int)<=((0:Nat):Int) - 1 by omega)];rfl
   ·simp [Zct]
  |succ k ih=>
   intro hk;have hkl:k<L.length:=by omega
   have ec: ((k+1:Nat):Int) - 1=(k:Int):=by omega
   rw[ec];have etk:L.take (k+1)=L.take k++[L[k]]:=Va hkl;have et: (L.take (k+1)).reverse=L[k]::(L.take k).reverse:=by rw[etk,Vcc];rfl
   have h0:decide ((0:Int)<=(k:Int))=true:=decide_eq_true (by omega)
   cases hs:x.2.2.2.2.2.2.2.2.1 with
   |false=>
    refine(ZbE (r:= .inl ()) ?_).trans ?_
    ·rw[h0];rfl
    ·simp
   |true=>
    rw[et];by_cases h1: (L[k]).2.1=x.2.1
    ·refine(ZbE (r:= .inr true) ?_).trans ?_
     ·rw[h0];simp only[cond_true,bind_some,Zaf hkl,decide_eq_true h1]
     ·simp [Zct,h1]
    ·cases h2:Za2 L[k] with
     |false=>
      have h2' : (L[k]).2.2.2.2.2.2.2.2.1=false:=h2;refine(ZbE (r:= .inr false) ?_).trans ?_
      ·rw[h0];simp only[cond_true,bind_some,Zaf hkl,decide_eq_false h1,cond_false,h2',Vw]
      ·rw[if_neg (by simp [Zct,h1,h2]),if_pos ⟨rfl,L[k],by rw[etk];exact Vaa _ (Vf.2 rfl),h2⟩]
     |true=>
      have h2' : (L[k]).2.2.2.2.2.2.2.2.1=true:=h2;have hw:Vc .i64 ((k:Int) - 1)=(k:Int) - 1:=Zae (by omega) (by omega);refine(ZcZ (s' :=(k:Int) - 1) ?_).trans ?_
      ·rw[h0];simp only[cond_true,bind_some,Zaf hkl,decide_eq_false h1,cond_false,h2',Vm,hw]
      have h3:=ih (by omega);rw[hs]at h3;rw[h3]
      have e: (∃y∈L.take (k+1),Za2 y=false)↔ ∃y∈L.take k,Za2 y=false:=by
       rw[etk];constructor
       ·rintro ⟨y,hy,h3⟩;rcases Vl.1 hy with hy|hy
        ·exact⟨y,hy,h3⟩
        ·rw[Vf.1 hy,h2]at h3;cases h3
       ·rintro ⟨y,hy,h3⟩;exact⟨y,Vx _ hy,h3⟩
      have eg:Zct x.2.1 (L[k]::(L.take k).reverse)=Zct x.2.1 (L.take k).reverse:=by
       show (if (L[k]).2.1=x.2.1 then true else if Za2 L[k]=true then _ else false)=_
       rw[if_neg h1,if_pos h2]
      rw[eg];simp only[true_and,e]
 have hw:Vc .i64 ((L.length:Int) - 1)=(L.length:Int) - 1:=Zae (by omega) (by omega);rw[hw,key L.length (Vi _),Vg];simp only[bind_some]
 cases hs:x.2.2.2.2.2.2.2.2.1 with
 |false=>
  have:Za2 x=false:=hs
  rw[this];simp
 |true=>
  have:Za2 x=true:=hs;rw[this]
  cases hg:Zct x.2.1 L.reverse with
  |true=>simp
  |false=>
   simp only[Vra,true_and];rw[if_neg (by simp)]
   split<;>rfl
theorem Zox{L:List Zar}(hl:L.length<=1000):F101 (L,())=some (Zal L:Int):=by
 unfold F101;refine Zbi (fun r=>r=(Zal L:Int)) ?_ (fun r hr=>by rw[hr]);refine ZaL L.length _ (fun i (st:Int×Int)=>st=((Zal (L.take i):Int),(i:Int))) ?_ ?_ _ rfl
 ·rintro i _ hi rfl;left
  have hb:Zal (L.take i)<=L.length:=by unfold Zal;have:=Vla Zet (L.take i);rw[Vv]at this;omega
  have w1:Vc .i64 ((Zal (L.take i):Int)+1)=((Zal (L.take i)+1:Nat):Int):=by rw[Zae (by omega) (by omega)];omega
  simp only[Zat hi,cond_true,Zaf hi,bind_some,Zaj hi (show _<=9223372036854775807 by omega),w1];rw[Va hi,Zbf]
  have e:Zal [L[i]]=if Zet L[i] then 1 else 0:=by
   unfold Zal
   cases h:Zet L[i]<;>simp [h]
  rw[e];unfold Zet Za2
  cases L[i].1 with
  |false=>exact⟨_,rfl,rfl⟩
  |true=>
   cases L[i].2.2.2.2.2.2.2.2.1 with
   |true=>exact⟨_,rfl,rfl⟩
   |false=>exact⟨_,rfl,rfl⟩
 ·rintro _ rfl;simp only[Zaw,cond_false,Vg];exact⟨_,rfl,rfl⟩
def Zn3(n:Zas)(q:Za4)(L:List Zar)(i:Nat):Prop:=atE n q L i=0\/(i+1=L.length/\(atE n q L i=26\/atE n q L i=29))
def Zla(n:Zas)(q:Za4)(L:List Zar):Prop:=(∀i,i<L.length->Zn3 n q L i)/\(Zal L:Int)<=q.2.2.2.2.1/\Zfv L<=q.2.2.2.2.2.1/\(q.2.2.2.1=true->(lg L (L.length - 1)).2.2.2.2.2.2.2.1<=q.2.2.1)
theorem Zoc(hS:Zcr n)(hp:n.2.2.2.2.1.length<=4096)(hq:inR q.1 n.1.length=true){L:List Zar}(h0:0<L.length)(hj:L.length<=1000): ∃b,F95 n q (L,())=some b/\(b=true↔Zla n q L):=by
 unfold F95;refine ZwS (fun r:Unit ⊕ Bool=>(r= .inl ()/\ ∀i,i<L.length->Zn3 n q L i)\/(r= .inr false/\ ¬ ∀i,i<L.length->Zn3 n q L i)) ?_ ?_
 rotate_left
 ·rintro r (⟨rfl,ha⟩ | ⟨rfl,ha⟩)
  ·simp only[Sum.elim_inl,Zox hj,bind_some,Zjw L hj];by_cases h1: (Zal L:Int)<=q.2.2.2.2.1
   ·rw[decide_eq_true h1];by_cases h2:Zfv L<=q.2.2.2.2.2.1
    ·rw[decide_eq_true h2]
     cases hb:q.2.2.2.1 with
     |false=>exact⟨true,rfl,by simp only[true_iff];exact⟨ha,h1,h2,fun e=>by rw[hb]at e;cases e⟩⟩
     |true=>
      have w1:Vc .i64 ((L.length:Int) - 1)=((L.length - 1:Nat):Int):=by rw[Zae (by omega) (by omega)];omega
      simp only[cond_true,Vm,cond_false,w1,Zfb (show L.length - 1<L.length by omega),bind_some];refine⟨_,rfl, ?_⟩;rw[decide_eq_true_eq];exact⟨fun h=>⟨ha,h1,h2,fun _=>h⟩,fun h=>h.2.2.2 hb⟩
    ·rw[decide_eq_false h2];exact⟨false,rfl,by simp only[Vr,false_iff];exact fun h=>h2 h.2.2.1⟩
   ·rw[decide_eq_false h1];exact⟨false,rfl,by simp only[Vr,false_iff];exact fun h=>h1 h.2.1⟩
  ·exact⟨false,rfl,by simp only[Vr,false_iff];exact fun h=>ha h.1⟩
 refine ZaL L.length _ (fun i (st:Int)=>st=(i:Int)/\ ∀j,j<i->Zn3 n q L j) ?_ ?_ _ ⟨rfl,fun j hj=>absurd hj (Vcb j)⟩
 ·rintro i _ hi ⟨rfl,ha⟩;simp only[Zat hi,cond_true,Zm5 hS hp hq hi hj,bind_some,Zaj hi (show _<=9223372036854775807 by omega)]
  have hyes:Zn3 n q L i-> ∀j,j<i+1->Zn3 n q L j:=fun h j hj=>by
   by_cases e:j=i
   ·subst e;exact h
   ·exact ha j (by omega)
  by_cases h1:atE n q L i=0
  ·left;rw[decide_eq_true h1];exact⟨_,rfl,rfl,hyes (.inl h1)⟩
  ·rw[decide_eq_false h1];by_cases h2:i+1<L.length
   ·right;rw[decide_eq_true (show ((i+1:Nat):Int)< (L.length:Int) by omega)]
    exact⟨_,rfl, .inr ⟨rfl,fun h=>by
     rcases h i hi with h|h
     ·exact h1 h
     ·omega⟩⟩
   ·rw[decide_eq_false (show¬ ((i+1:Nat):Int)< (L.length:Int) by omega)];by_cases h3:atE n q L i=26
    ·left;rw[decide_eq_true h3];exact⟨_,rfl,rfl,hyes (.inr ⟨by omega, .inl h3⟩)⟩
    ·rw[decide_eq_false h3];by_cases h4:atE n q L i=29
     ·left;rw[decide_eq_true h4];exact⟨_,rfl,rfl,hyes (.inr ⟨by omega, .inr h4⟩)⟩
     ·right;rw[decide_eq_false h4]
      exact⟨_,rfl, .inr ⟨rfl,fun h=>by
       rcases h i hi with h| ⟨_,h|h⟩
       ·exact h1 h
       ·exact h3 h
       ·exact h4 h⟩⟩
 ·rintro _ ⟨rfl,ha⟩;simp only[Zaw,cond_false];exact⟨_,rfl, .inl ⟨rfl,ha⟩⟩
end Q
namespace Q
open Tr Go
open Option (bind_some)
variable {n:Zas}{q:Za4}
def Zca(x:Zar):Zar:=(x.1,x.2.1,x.2.2.1,x.2.2.2.1,x.2.2.2.2.1,x.2.2.2.2.2.1,x.2.2.2.2.2.2.1,x.2.2.2.2.2.2.2.1,true,x.2.2.2.2.2.2.2.2.2)
def ZbY(n:Zas)(x:Zar):List Zar:=Zcd n x.2.2.2.2.2.1 x.2.2.2.2.2.2.2.1++if x.1=true then ZbT n x.2.2.2.2.2.1 x.2.2.2.2.2.2.2.1 else []
def ZpX(n:Zas)(q:Za4)(L:List Zar)(l:Zar):List (List Zar×Unit):=if atE n q (L++[l]) (L.length - 1)=0/\atE n q (L++[l]) L.length≠28 then [(L++[l],())] else []
def ZlZ(n:Zas)(L:List Zar)(x l:Zar):List (List Zar×Unit):=if (l.1=true/\l.2.2.1=0/\x.1=true)/\ZjA L (Zca l)=false/\Zbj n x (Zca l)=0 then [(L++[Zca l],())] else []
def ZpS(n:Zas)(q:Za4)(L:List Zar)(x l:Zar):List (List Zar×Unit):=ZpX n q L l++ZlZ n L x l
def Zns(n:Zas)(q:Za4)(L:List Zar):List (List Zar×Unit):=(ZbY n (lg L (L.length - 1))).flatMap (ZpS n q L (lg L (L.length - 1)))
theorem Zux(L:List Zar)(x l:Zar): (ZpS n q L x l).length<=2:=by
 unfold ZpS ZpX ZlZ;rw[Ve]
 split<;>split<;>simp
theorem Zdv{α β:Type}{f:α->List β}{c:Nat}(h: ∀x,(f x).length<=c): ∀l:List α,(l.flatMap f).length<=l.length*c
 | []=>by simp
 |x::l=>by have:=Zdv h l;have h2:=h x;rw[Vnb,Ve,Vfa,Vpb];omega
theorem ZfK(hT:Tin n)(s t:Int): (ZbT n s t).length<=60:=by unfold ZbT;rw[Vu];exact Vs (Vla _ _) hT.paths
theorem Zp4(hT:Tin n)(x:Zar): (ZbY n x).length<=312:=by
 unfold ZbY;rw[Ve];have h1:=Zex hT x.2.2.2.2.2.1 x.2.2.2.2.2.2.2.1 (Vi _);have h2:=ZfK hT x.2.2.2.2.2.1 x.2.2.2.2.2.2.2.1;unfold Zcd;split
 ·omega
 ·simp only[Vma];omega
theorem ZfH{s t:Int}{x:Zar}(h:x∈Zcd n s t): ∃i b c,i<n.2.2.1.length/\b<c/\c< (Zai n i).length/\(Zac n i b).1=s/\t<=(Zac n i b).2.2.1/\x=ZbB n i b c false:=by
 unfold Zcd at h;obtain⟨i,hi,h⟩:=Vn.1 h;unfold Zd3 at h;obtain⟨b,hb,h⟩:=Vn.1 h;rw[Vva]at hi hb;unfold ZgN at h;split at h
 ·next hc=>
  unfold Zfr at h;obtain⟨k,hk,rfl⟩:=Vqa.1 h;rw[Vva]at hk;exact⟨i,b,b+1+k,hi,by omega,by omega,hc.1,hc.2,rfl⟩
 ·exact absurd h (by simp)
theorem ZfS{s t:Int}{x:Zar}(h:x∈ZbT n s t): ∃p∈n.2.2.2.2.1,p.1=s/\x=Zb8 s t p:=by unfold ZbT at h;obtain⟨p,hp,rfl⟩:=Vqa.1 h;rw[Veb,decide_eq_true_eq]at hp;exact⟨p,hp.1,hp.2,rfl⟩
theorem Zsr(hN:Zcq n){x l:Zar}(h:l∈ZbY n x)(hl:l.1=true):inR (Zca l).2.2.2.2.1 n.1.length=true:=by
 unfold ZbY at h;rcases Vl.1 h with h|h
 ·obtain⟨i,b,c,h1,h2,h3,h4,h5,rfl⟩:=ZfH h;have:=hN.stop h1 (show b< (Zai n i).length by omega);exact Zeb.2 this
 ·split at h
  ·obtain⟨p,hp,_,rfl⟩:=ZfS h;cases hl
  ·exact absurd h (by simp)
theorem Zq1(hT:Tin n)(hN:Zcq n)(hlk:n.2.2.2.1.length<=4096)(hq:inR q.1 n.1.length=true){L:List Zar}(h0:0<L.length)(hj:L.length<=900):F92 n q (L,())=some (Zns n q L):=by
 have hpp:n.2.2.2.2.1.length<=4096:=by have:=hT.paths;omega
 unfold F92;have w1:Vc .i64 ((L.length:Int) - 1)=((L.length - 1:Nat):Int):=by rw[Zae (by omega) (by omega)];omega
 simp only[w1,Zfb (show L.length - 1<L.length by omega),bind_some,Zh0 hT];unfold Zns;generalize hx:lg L (L.length - 1)=x;have hnl:=Zp4 hT x;have hr:=Zex hT x.2.2.2.2.2.1 x.2.2.2.2.2.2.2.1 (Vi _);have hr' : (Zcd n x.2.2.2.2.2.1 x.2.2.2.2.2.2.2.1).length<=252:=hr;have hw:=ZfK hT x.2.2.2.2.2.1 x.2.2.2.2.2.2.2.1;refine Zbi (fun r:List (List Zar×Unit) ×List Zar=>r=([],ZbY n x)) ?_ ?_
 ·unfold ZbY
  cases h1:x.1 with
  |true=>
   simp only[cond_true,Zfj hpp,bind_some,if_true];rw[ZaO (by omega)]
   exact⟨_,rfl,rfl⟩
  |false=>exact⟨_,rfl,by simp⟩
 rintro _ rfl;refine Zbi (fun r=>r=(ZbY n x).flatMap (ZpS n q L x)) ?_ (fun r hr=>by rw[hr]);have hmem: ∀i (hi:i< (ZbY n x).length),(ZbY n x)[i]∈ZbY n x:=fun i hi=>Vj hi;have hfr:=fun i (hi:i< (ZbY n x).length)=>Zsr hN (hmem i hi);generalize ZbY n x=N at*;refine ZaL N.length _ (fun i (st:List (List Zar×Unit) ×List Zar×Int)=> ∃cur,st=((N.take i).flatMap (ZpS n q L x),cur,(i:Int))/\cur.length=N.length/\ ∀k,i<=k->cur[k]? =N[k]?) ?_ ?_ _ ⟨N,rfl,rfl,fun _ _=>rfl⟩
 ·rintro i _ hi ⟨cur,rfl,hc1,hc2⟩;left;have hci:i<cur.length:=by omega
  have hxi:cur[i]? =some N[i]:=by rw[hc2 i (Vi _),Vb hi]
  have hol: ((N.take i).flatMap (ZpS n q L x)).length<=700:=by have:=Zdv (f:=ZpS n q L x) (c:=2) (fun l=>Zux L x l) (N.take i);rw[Vv]at this;omega
  have hfi:=hfr i hi;have hdi:decide ((i:Int)< (cur.length:Int))=true:=decide_eq_true (by omega)
  have et: (N.take (i+1)).flatMap (ZpS n q L x)=(N.take i).flatMap (ZpS n q L x)++ZpS n q L x N[i]:=by rw[Va hi,Vy];simp
  have hrest: ∀v k,i+1<=k->(cur.set i v)[k]? =N[k]? :=fun v k hk=>by rw[Vzb (by omega)];exact hc2 k (by omega)
  rw[et];generalize hO: (N.take i).flatMap (ZpS n q L x)=O at*;generalize hl:N[i]=l at*;have ha1:F90 n q (L++[l],()) ((L.length - 1:Nat):Int)=some (atE n q (L++[l]) (L.length - 1)):=Zm5 hN.sound hpp hq (by simp;omega) (by simp;omega);have ha2:F90 n q (L++[l],()) (L.length:Int)=some (atE n q (L++[l]) L.length):=Zm5 hN.sound hpp hq (by simp) (by simp;omega);simp only[hdi,cond_true,ZaE hci,bind_some,hxi,Zo2 L l (by omega),ha1,ha2];refine ZgF (fun b=>b=decide (atE n q (L++[l]) (L.length - 1)=0/\atE n q (L++[l]) L.length≠28)) ?_ ?_
  ·by_cases c1:atE n q (L++[l]) (L.length - 1)=0
   ·rw[decide_eq_true c1];by_cases c2:atE n q (L++[l]) L.length=28
    ·rw[decide_eq_true c2];exact⟨_,rfl,by simp [c2]⟩
    ·rw[decide_eq_false c2];exact⟨_,rfl,by simp [c1,c2]⟩
   ·rw[decide_eq_false c1];exact⟨_,rfl,by simp [c1]⟩
  rintro _ rfl;refine ZgF (fun r:List (List Zar×Unit) ×List Zar=>r=(O++ZpX n q L l,cur)) ?_ ?_
  ·unfold ZpX;by_cases c:atE n q (L++[l]) (L.length - 1)=0/\atE n q (L++[l]) L.length≠28
   ·rw[decide_eq_true c,if_pos c];simp only[cond_true];rw[ZaO (by simp;omega)];exact⟨_,rfl,rfl⟩
   ·rw[decide_eq_false c,if_neg c];exact⟨_,rfl,by simp⟩
  rintro _ rfl
  have hal: (ZpX n q L l).length<=1:=by unfold ZpX;split<;>simp
  refine ZgF (fun b=>b=decide (l.1=true/\l.2.2.1=0/\x.1=true)) ?_ ?_
  ·simp only[ZaE hci,bind_some,hxi]
   cases c1:l.1 with
   |false=>exact⟨_,rfl,by simp⟩
   |true=>
    simp only[cond_true];by_cases c2:l.2.2.1=0
    ·rw[decide_eq_true c2];exact⟨_,rfl,by simp [c2]⟩
    ·rw[decide_eq_false c2];exact⟨_,rfl,by simp [c2]⟩
  rintro _ rfl;unfold ZpS;rw[<-Vga];by_cases c:l.1=true/\l.2.2.1=0/\x.1=true
  ·rw[decide_eq_true c];have hset: (cur.set i (Zca l))[i]? =some (Zca l):=Zn2 hci _;have hsl:i< (cur.set i (Zca l)).length:=by rw[Vsa];exact hci
   have hset' :=hset;have hsl' :=ZaE hsl;unfold Zca at hset' hsl';simp only[cond_true,ZaE hci,bind_some,hxi,hsl',hset'];have hf:Zbj n x (Zca l)=Zbj n x (Zca l):=rfl;have ew:F105 (L,()) (l.1,l.2.1,l.2.2.1,l.2.2.2.1,l.2.2.2.2.1,l.2.2.2.2.2.1,l.2.2.2.2.2.2.1,l.2.2.2.2.2.2.2.1,true,l.2.2.2.2.2.2.2.2.2)=some (L++[Zca l],()):=Zo2 L (Zca l) (by omega);have ea:F89 (L,()) (l.1,l.2.1,l.2.2.1,l.2.2.2.1,l.2.2.2.2.1,l.2.2.2.2.2.1,l.2.2.2.2.2.2.1,l.2.2.2.2.2.2.2.1,true,l.2.2.2.2.2.2.2.2.2)=some (ZjA L (Zca l)):=ZtE L (Zca l) (by omega);have ef:F94 n x (l.1,l.2.1,l.2.2.1,l.2.2.2.1,l.2.2.2.2.1,l.2.2.2.2.2.1,l.2.2.2.2.2.2.1,l.2.2.2.2.2.2.2.1,true,l.2.2.2.2.2.2.2.2.2)=some (Zbj n x (Zca l)):=Zkr hlk (hfi c.1)
   simp only[ew,ea,bind_some];unfold ZlZ
   cases hag:ZjA L (Zca l) with
   |true=>
    rw[if_neg (fun h=>by cases h.2.1)];simp only[Vm,cond_false,bind_some];rw[Zaj hi (by omega)]
    exact⟨_,rfl,_,by rw[Vca],by rw[Vsa];exact hc1,fun k hk=>hrest _ k hk⟩
   |false=>
    simp only[Vw,cond_true,ef,bind_some];by_cases hfo:Zbj n x (Zca l)=0
    ·rw[decide_eq_true hfo,if_pos (by exact⟨c,by simp,hfo⟩)];simp only[cond_true];rw[ZaO (by simp;omega),Zaj hi (by omega)];exact⟨_,rfl,_,rfl,by rw[Vsa];exact hc1,fun k hk=>hrest _ k hk⟩
    ·rw[decide_eq_false hfo,if_neg (fun h=>hfo h.2.2)];simp only[cond_false];rw[Zaj hi (by omega)];exact⟨_,rfl,_,by rw[Vca],by rw[Vsa];exact hc1,fun k hk=>hrest _ k hk⟩
  ·rw[decide_eq_false c];unfold ZlZ;rw[if_neg (fun h=>c h.1),Vca,Zaj hi (by omega)];exact⟨_,rfl,_,rfl,hc1,fun k hk=>hc2 k (by omega)⟩
 ·rintro _ ⟨cur,rfl,hc1,hc2⟩;have:decide ((N.length:Int)< (cur.length:Int))=false:=decide_eq_false (by omega);simp only[this,cond_false];exact⟨_,rfl,by rw[Vg]⟩
def Zmx(q:Za4):Int:=if q.2.2.2.1=true then 0 else q.2.2.1
def ZjE(w x:Zar):Zar:=(w.1,w.2.1,w.2.2.1,w.2.2.2.1,w.2.2.2.2.1,w.2.2.2.2.2.1,Vc .i64 (x.2.2.2.2.2.2.1 - w.2.2.2.2.2.2.2.1),x.2.2.2.2.2.2.1,w.2.2.2.2.2.2.2.2)
def Zd6(n:Zas)(q:Za4):List (List Zar×Unit):=(Zcd n q.1 (Zmx q)).map fun x=>([x],())
def ZcM(n:Zas)(q:Za4)(w:Zar):List (List Zar×Unit):=(Zcd n w.2.2.2.2.2.1 (Zmx q)).map fun x=>([ZjE w x,x],())
def ZeD(n:Zas)(q:Za4):List (List Zar×Unit):=Zd6 n q++(ZbT n q.1 0).flatMap (ZcM n q)
theorem Zj7(hT:Tin n)(w:Zar): (ZcM n q w).length<=252:=by unfold ZcM;rw[Vu];exact Zex hT _ _ (Vi _)
theorem ZtA(hT:Tin n):F102 n q=some (ZeD n q):=by
 have hpp:n.2.2.2.2.1.length<=4096:=by have:=hT.paths;omega
 unfold F102 ZeD
 have ef: (bif q.2.2.2.1 then some (0:Int) else some q.2.2.1)=some (Zmx q):=by unfold Zmx;cases q.2.2.2.1<;>rfl
 rw[ef];simp only[bind_some,Zh0 hT,Zfj hpp];have hw:=ZfK hT q.1 0
 have h1l: (Zd6 n q).length<=252:=by unfold Zd6;rw[Vu];exact Zex hT _ _ (Vi _)
 refine Zbi (fun r=>r=Zd6 n q) ?_ ?_
 ·unfold Zd6 at h1l ⊢;rw[Vu]at h1l;generalize Zcd n q.1 (Zmx q)=N at*;refine ZaL N.length _ (fun i (st:List (List Zar×Unit) ×List Zar×Int)=>st=((N.take i).map (fun x=>([x],())),N,(i:Int))) ?_ ?_ _ rfl
  ·rintro i _ hi rfl;left;simp only[Zat hi,cond_true,ZaE hi,bind_some,Vb hi,Zaj hi (show _<=9223372036854775807 by omega)];rw[ZaO (by simp;omega)];refine⟨_,rfl, ?_⟩;rw[Va hi,Vp];rfl
  ·rintro _ rfl;simp only[Zaw,cond_false,Vg];exact⟨_,rfl,rfl⟩
 rintro _ rfl;refine Zbi (fun r=>r=Zd6 n q++(ZbT n q.1 0).flatMap (ZcM n q)) ?_ (fun r hr=>by rw[hr]);generalize ZbT n q.1 0=W at*;refine ZaL W.length _ (fun i (st:List (List Zar×Unit) ×Int)=>st=(Zd6 n q++(W.take i).flatMap (ZcM n q),(i:Int))) ?_ ?_ _ (by simp)
 ·rintro i _ hi rfl;left;simp only[Zat hi,cond_true,Zaf hi,bind_some,Zaj hi (show _<=9223372036854775807 by omega)]
  have hfl: ((W.take i).flatMap (ZcM n q)).length<=60*252:=by have:=Zdv (f:=ZcM n q) (c:=252) (fun w=>Zj7 hT w) (W.take i);rw[Vv]at this;have h3:min i W.length*252<=60*252:=Vwa _ (by omega);exact Vs this h3
  refine ZgF (fun r=>r=Zd6 n q++(W.take i).flatMap (ZcM n q)++ZcM n q W[i]) ?_ ?_
  ·have hsl:=Zj7 (q:=q) hT W[i];have hOl: (Zd6 n q++(W.take i).flatMap (ZcM n q)).length<=252+60*252:=by rw[Ve];omega
   generalize Zd6 n q++(W.take i).flatMap (ZcM n q)=O at*;unfold ZcM at hsl ⊢;rw[Vu]at hsl;generalize Zcd n (W[i]).2.2.2.2.2.1 (Zmx q)=N at*;refine ZaL N.length _ (fun k (st:List (List Zar×Unit) ×List Zar×Int)=>st=(O++(N.take k).map (fun x=>([ZjE W[i] x,x],())),N,(k:Int))) ?_ ?_ _ (by simp)
   ·rintro k _ hk rfl;left;simp only[Zat hk,cond_true,ZaE hk,bind_some,Vb hk,Zaj hk (show _<=9223372036854775807 by omega)];have hln: ((N.take k).map (fun x=>(([ZjE W[i] x,x],()):List Zar×Unit))).length<=252:=by rw[Vu,Vv];omega
    rw[ZaO (by simp only[Ve,Vk];omega)];refine⟨_,rfl, ?_⟩;rw[Va hk,Vp, <-Vga];rfl
   ·rintro _ rfl;simp only[Zaw,cond_false,Vg];exact⟨_,rfl,rfl⟩
  ·rintro _ rfl;refine⟨_,rfl, ?_⟩;rw[Va hi,Vy, <-Vga];simp
 ·rintro _ rfl;simp only[Zaw,cond_false,Vg];exact⟨_,rfl,rfl⟩
end Q
namespace Q
open Tr Go
open Option (bind_some)
variable {n:Zas}{q:Za4}
noncomputable def Zqv(n:Zas):Int->Option Int:=nxL n n.2.2.2.1.length
def Rch(n:Zas)(a b:Int):Prop:= ∃k,orb (Zqv n) a (k+1)=some b
theorem Ztc(f:Int->Option Int): ∀ (k:Nat) {a b c:Int}{l:Nat},orb f a k=some b->orb f b l=some c->orb f a (k+l)=some c
 |0,a,b,c,l,h1,h2=>by
  have:a=b:=Option.some.inj h1
  rw[this,Vab];exact h2
 |k+1,a,b,c,l,h1,h2=>by have h1' : (f a).bind (fun b=>orb f b k)=some b:=h1;obtain⟨a',e1,e2⟩:=Option.bind_eq_some_iff.1 h1';have:=Ztc f k e2 h2;rw[show k+1+l=(k+l)+1 by omega];show (f a).bind (fun b=>orb f b (k+l))=some c;rw[e1];exact this
theorem Rch.trans{a b c:Int}(h1:Rch n a b)(h2:Rch n b c):Rch n a c:=by obtain⟨k,h1⟩:=h1;obtain⟨l,h2⟩:=h2;exact⟨k+l+1,by rw[show k+l+1+1=(k+1)+(l+1) by omega];exact Ztc _ _ h1 h2⟩
theorem Rch.one{a b:Int}(h:Zqv n a=some b):Rch n a b:=⟨0,by show (Zqv n a).bind (fun b=>some b)=some b;rw[h];rfl⟩
theorem Rch.irr(h:Whole n){a:Int} : ¬Rch n a a:=by rintro ⟨k,hk⟩;exact ZpC (Zf2 (fun j hj=>Zaz.1 h.g j hj) a) k hk
theorem ZfB(h:Whole n){i c j d:Nat}(hl:isLink n i c j d true):Zqv n (i:Int)=some (j:Int):=by
 obtain⟨a,ha,he⟩:=Vhb hl;have ea:lk n a=((i:Int),(c:Int),(j:Int),(d:Int),true,()):=by unfold lk;rw[Zak ha,he]
 cases hs:Zqv n (i:Int) with
 |none=>
  have:=Zn4 hs a ha (by rw[ea]);rw[ea]at this
  exact absurd rfl this
 |some b=>
  obtain⟨a',h1,h2,h3,h4⟩:=ZiU hs
  have:a' =a:=by
   rcases Nat.lt_trichotomy a' a with hlt|rfl|hlt
   ·have:=(ZeG (Zaz.1 h.g a ha)).2.2 (by rw[ea]);exact absurd ⟨a',hlt,h2, .inl (by rw[h3,ea])⟩ this.1
   ·rfl
   ·have:=(ZeG (Zaz.1 h.g a' h1)).2.2 h2;exact absurd ⟨a,hlt,by rw[ea], .inl (by rw[h3,ea])⟩ this.1
  rw[this,ea]at h4;rw[<-h4]
open Classical in
noncomputable def Zli(n:Zas)(a b:Nat):Nat:=if Rch n (a:Int) (b:Int) then 1 else 0
noncomputable def rnk(n:Zas)(a:Nat):Nat:=Zli n a 0+Zli n a 1+Zli n a 2+Zli n a 3+Zli n a 4+Zli n a 5+Zli n a 6
theorem Zwd(a b:Nat):Zli n a b<=1:=by unfold Zli;split<;>omega
theorem Zpo(h:Whole n)(a:Nat):Zli n a a=0:=by unfold Zli;rw[if_neg (Rch.irr h)]
theorem Ztx(h:Whole n)(a b:Nat):Zli n a b+Zli n b a<=1:=by
 unfold Zli;by_cases h1:Rch n (a:Int) (b:Int)
 ·rw[if_pos h1,if_neg (fun h2=>Rch.irr h (h1.trans h2))];omega
 ·rw[if_neg h1];split<;>omega
theorem Zvh(a:Nat):rnk n a<=7:=by have:=fun b=>Zwd (n:=n) a b;have h0:=this 0;have h1:=this 1;have h2:=this 2;have h3:=this 3;have h4:=this 4;have h5:=this 5;have h6:=this 6;unfold rnk;omega
theorem Zwv(h:Whole n):rnk n 0+rnk n 1+rnk n 2+rnk n 3+rnk n 4+rnk n 5+rnk n 6<=21:=by have a:=Ztx h;have i:=Zpo h;have i0:=i 0;have i1:=i 1;have i2:=i 2;have i3:=i 3;have i4:=i 4;have i5:=i 5;have i6:=i 6;have a01:=a 0 1;have a02:=a 0 2;have a03:=a 0 3;have a04:=a 0 4;have a05:=a 0 5;have a06:=a 0 6;have a12:=a 1 2;have a13:=a 1 3;have a14:=a 1 4;have a15:=a 1 5;have a16:=a 1 6;have a23:=a 2 3;have a24:=a 2 4;have a25:=a 2 5;have a26:=a 2 6;have a34:=a 3 4;have a35:=a 3 5;have a36:=a 3 6;have a45:=a 4 5;have a46:=a 4 6;have a56:=a 5 6;unfold rnk;omega
theorem Zu6(h:Whole n){i j:Nat}(hj:j<7)(hs:Zqv n (i:Int)=some (j:Int)):rnk n j+1<=rnk n i:=by
 have hr:=Rch.one hs
 have hm: ∀k,Zli n j k<=Zli n i k:=fun k=>by
  unfold Zli;by_cases h1:Rch n (j:Int) (k:Int)
  ·rw[if_pos h1,if_pos (hr.trans h1)];exact Vi _
  ·rw[if_neg h1];exact Vba _
 have h1:Zli n i j=1:=by unfold Zli;rw[if_pos hr]
 have h0:=Zpo h j;have m0:=hm 0;have m1:=hm 1;have m2:=hm 2;have m3:=hm 3;have m4:=hm 4;have m5:=hm 5;have m6:=hm 6;unfold rnk;have hc:j=0\/j=1\/j=2\/j=3\/j=4\/j=5\/j=6:=by omega
 rcases hc with rfl|rfl|rfl|rfl|rfl|rfl|rfl<;>omega
def ZbF:Nat->(Nat->Nat)->Nat
 |0,_=>0
 |m+1,f=>ZbF m f+f m
theorem ZbK{f g:Nat->Nat} : ∀ {m:Nat},(∀i,i<m->f i<=g i)->ZbF m f<=ZbF m g
 |0,_=>Vi _
 |m+1,h=>Vxb (ZbK fun i hi=>h i (by omega)) (h m (by omega))
theorem Zeo(f g:Nat->Nat): ∀m,ZbF m (fun i=>f i+g i)=ZbF m f+ZbF m g
 |0=>rfl
 |m+1=>by show ZbF m _+(f m+g m)=(ZbF m f+f m)+(ZbF m g+g m);rw[Zeo f g m];omega
theorem Zef(c:Nat)(f:Nat->Nat): ∀m,ZbF m (fun i=>c*f i)=c*ZbF m f
 |0=>rfl
 |m+1=>by show ZbF m _+_=c* (ZbF m f+f m);rw[Zef c f m,Nat.mul_add]
theorem Zdp{f:Nat->Nat} : ∀ {m:Nat},(∀i,i<m->f i=0)->ZbF m f=0
 |0,_=>rfl
 |m+1,h=>by show ZbF m f+f m=0;rw[Zdp fun i hi=>h i (by omega),h m (by omega)]
theorem Zg1{f:Nat->Nat}{j:Nat} : ∀ {m:Nat},(∀i,i<m->i≠j->f i=0)->ZbF m f<=f j
 |0,_=>Vba _
 |m+1,h=>by
  show ZbF m f+f m<=f j;by_cases e:m=j
  ·subst e;rw[Zdp fun i hi=>h i (by omega) (by omega)];omega
  ·rw[h m (by omega) e];exact Zg1 fun i hi he=>h i (by omega) he
theorem Zgz(c:Nat): ∀m,ZbF m (fun _=>c)=m*c
 |0=>by simp [ZbF]
 |m+1=>by show ZbF m _+c=_;rw[Zgz c m,Vpb]
theorem ZfR{β:Type}(w:β->Nat)(f:Nat->List β): ∀m,(((Vo m).flatMap f).map w).sum=ZbF m fun i=>((f i).map w).sum
 |0=>rfl
 |m+1=>by
  have e: [m].flatMap f=f m:=by simp
  rw[Vdb,Vy,Vp,Vha,ZfR w f m,e];rfl
theorem Zlp{β:Type}(w:β->Nat)(f:Nat->β): ∀m,(((Vo m).map f).map w).sum=ZbF m fun i=>w (f i)
 |0=>rfl
 |m+1=>by rw[Vdb,Vp,Vp,Vha,Zlp w f m];simp [ZbF]
def gW:Nat->Nat
 |0=>271
 |l+1=>61+1260*gW l
theorem ZwP(l:Nat):271<=gW l:=by
 induction l with
 |zero=>exact Vi _
 |succ l ih=>unfold gW;omega
noncomputable def Zih(n:Zas)(l i c:Nat):Nat:=gW l* (1+if c+1=(Zai n i).length then 5*rnk n i else 0)
noncomputable def wr(n:Zas):Nat->Nat->Nat->Nat
 |0,_,_=>1
 |l+1,i,c=>Zih n l i c
noncomputable def bw(n:Zas)(l i b:Nat):Nat:=ZbF ((Zai n i).length - (b+1)) fun k=>wr n l i (b+1+k)
noncomputable def rW(n:Zas)(l:Nat)(s:Int):Nat:=ZbF n.2.2.1.length fun i=>ZbF (Zai n i).length fun b=>if (Zac n i b).1=s then bw n l i b else 0
noncomputable def tW(n:Zas)(l:Nat):Nat:=ZbF n.2.2.1.length fun i=>ZbF (Zai n i).length fun b=>bw n l i b
theorem ZtC(l i b:Nat):ZbF ((Zai n i).length - (b+1)) (fun k=>Zih n l i (b+1+k))<=gW l* ((Zai n i).length - (b+1)+5*rnk n i):=by
 unfold Zih;rw[Zef];refine Vda _ ?_;rw[Zeo,Zgz];refine Vxb (by omega) ?_;by_cases hm: (Zai n i).length - (b+1)=0
 ·rw[hm];exact Vba _
 ·refine Vs (Zg1 (j:=(Zai n i).length - (b+1) - 1) fun k hk he=>if_neg (by omega)) ?_
  split<;>omega
theorem ZxS(l i:Nat): ∀m,m<=(Zai n i).length->(Zai n i).length<=6->ZbF m (fun b=>ZbF ((Zai n i).length - (b+1)) fun k=>Zih n l i (b+1+k))<=gW l* (15+25*rnk n i):=by
 intro m hm h6
 refine Vs (ZbK (g:=fun b=>gW l* ((Zai n i).length - (b+1)+(if b+1< (Zai n i).length then 5*rnk n i else 0))) fun b hb=> ?_) ?_
 ·by_cases hb2:b+1< (Zai n i).length
  ·rw[if_pos hb2];exact ZtC l i b
  ·have: (Zai n i).length - (b+1)=0:=by omega
   rw[this];exact Vba _
 ·rw[Zef];refine Vda _ ?_;generalize (Zai n i).length=k at*;generalize rnk n i=r;have hk:k=0\/k=1\/k=2\/k=3\/k=4\/k=5\/k=6:=by omega
  have hmm:m=0\/m=1\/m=2\/m=3\/m=4\/m=5\/m=6:=by omega
  rcases hk with rfl|rfl|rfl|rfl|rfl|rfl|rfl<;>rcases hmm with rfl|rfl|rfl|rfl|rfl|rfl|rfl<;>simp [ZbF]<;>omega
theorem ZnQ{f:Nat->Nat}{m:Nat}(hm:m<=7):ZbF m f<=f 0+f 1+f 2+f 3+f 4+f 5+f 6:=by
 have hmm:m=0\/m=1\/m=2\/m=3\/m=4\/m=5\/m=6\/m=7:=by omega
 rcases hmm with rfl|rfl|rfl|rfl|rfl|rfl|rfl|rfl<;>simp [ZbF]<;>omega
theorem ZxF(hW:Whole n)(hT:Tin n)(l:Nat):61+2*tW n l<=gW l:=by
 cases l with
 |zero=>
  have:tW n 0<=105:=by
   unfold tW;refine Vs (ZbK (g:=fun _=>15) fun i hi=> ?_) ?_
   ·have h6:=hT.calls i hi;unfold bw wr;generalize (Zai n i).length=k at*;have hk:k=0\/k=1\/k=2\/k=3\/k=4\/k=5\/k=6:=by omega
    rcases hk with rfl|rfl|rfl|rfl|rfl|rfl|rfl<;>simp [ZbF]
   ·rw[Zgz];have:=hT.runs;omega
  show 61+2*tW n 0<=271
  omega
 |succ l=>
  have h1:tW n (l+1)<=gW l*630:=by unfold tW bw wr;refine Vs (ZbK (g:=fun i=>gW l* (15+25*rnk n i)) fun i hi=>ZxS l i _ (Vi _) (hT.calls i hi)) ?_;rw[Zef];refine Vda _ (Vs (ZnQ hT.runs) ?_);have:=Zwv hW;omega
  show 61+2*tW n (l+1)<=61+1260*gW l;omega
def ZvH(P:List Zb2)(s t:Int):Nat:=(P.filter fun p=>decide (p.1=s) &&decide (p.2.1=t)).length
theorem ZrO(l:Nat)(s:Int): ∀P:List Zb2,((P.filter fun p=>decide (p.1=s)).map fun p=>rW n l p.2.1).sum=ZbF n.2.2.1.length fun i=>ZbF (Zai n i).length fun b=>ZvH P s (Zac n i b).1*bw n l i b
 | []=>by
  symm
  exact Zdp fun i _=>Zdp fun b _=>by simp [ZvH]
 |p::P=>by
  have ih:=ZrO l s P;rw[Vpa];by_cases h:p.1=s
  ·rw[if_pos (by rw[decide_eq_true h]),Via,Vja,ih];unfold rW;rw[<-Zeo];congr 1;funext i;rw[<-Zeo];congr 1;funext b;unfold ZvH;rw[Vpa,decide_eq_true h];by_cases h2:p.2.1=(Zac n i b).1
   ·rw[if_pos h2.symm,decide_eq_true h2];simp only[Vbc,if_true,Vfa,Vpb];omega
   ·rw[if_neg (fun e=>h2 e.symm),decide_eq_false h2];simp
  ·rw[if_neg (by rw[decide_eq_false h];simp),ih];congr 1;funext i;congr 1;funext b;unfold ZvH;rw[Vpa,decide_eq_false h];simp
theorem ZvW(hW:Whole n)(s t:Int): (if t=s then 1 else 0)+ZvH n.2.2.2.2.1 s t<=2:=by
 obtain⟨h1,h2⟩:=ZkT.1 (Zaz.1 hW.q);unfold ZvH
 have hm: ∀p∈n.2.2.2.2.1.filter (fun p=>decide (p.1=s) &&decide (p.2.1=t)),p.1=s/\p.2.1=t:=fun p hp=>by have:=(Veb.1 hp).2;rw[Vh,decide_eq_true_eq,decide_eq_true_eq]at this;exact this
 have hp:=h2.sublist (List.filter_sublist (p:=fun p:Zb2=>decide (p.1=s) &&decide (p.2.1=t)))
 have hne: ∀p∈n.2.2.2.2.1.filter (fun p=>decide (p.1=s) &&decide (p.2.1=t)),p.1≠p.2.1:=fun p hp=>by exact(hW.ok.path p (Veb.1 hp).1).2.2.1
 generalize n.2.2.2.2.1.filter (fun p=>decide (p.1=s) &&decide (p.2.1=t))=F at*
 match F,hm,hp,hne with
 | [],_,_,_=>simp;split<;>omega
 | [a],hm,_,hne=>
  have:=hm a (by simp);have h3:=hne a (by simp);rw[if_neg (fun e=>h3 (by rw[this.1,this.2,e]))]
  simp
 | [a,b],hm,_,hne=>
  have:=hm a (by simp);have h3:=hne a (by simp);rw[if_neg (fun e=>h3 (by rw[this.1,this.2,e]))]
  simp
 |a::b::c::F,hm,hp,_=>
  exfalso;have ha:=hm a (by simp);have hb:=hm b (by simp);have hc:=hm c (by simp);rw[Vza]at hp;have hab:=hp.1 b (by simp);have hac:=hp.1 c (by simp);have hbc:=(Vza.1 hp.2).1 c (by simp);unfold Zda at hab hac hbc;rw[ha.1,ha.2,hb.1,hb.2]at hab;rw[ha.1,ha.2,hc.1,hc.2]at hac;rw[hb.1,hb.2,hc.1,hc.2]at hbc;have hx:a.2.2.2.1≠b.2.2.2.1:=fun e=>hab (by rw[e]);have hy:a.2.2.2.1≠c.2.2.2.1:=fun e=>hac (by rw[e]);have hz:b.2.2.2.1≠c.2.2.2.1:=fun e=>hbc (by rw[e]);exact(show∀x y z:Bool,x≠y->x≠z->y≠z->False by decide) _ _ _ hx hy hz
theorem Zve(hW:Whole n)(hT:Tin n)(l:Nat)(s:Int):1+rW n l s+((n.2.2.2.2.1.filter fun p=>decide (p.1=s)).map fun p=>1+rW n l p.2.1).sum<=gW l:=by
 have e1: ∀P:List Zb2,(P.map fun p=>1+rW n l p.2.1).sum=P.length+(P.map fun p=>rW n l p.2.1).sum:=by
  intro P
  induction P with
  |nil=>rfl
  |cons p P ih=>rw[Via,Vja,ih,Via,Vja,Vfa];omega
 rw[e1,ZrO];have hl: (n.2.2.2.2.1.filter fun p=>decide (p.1=s)).length<=60:=Vs (Vla _ _) hT.paths
 have key:rW n l s+(ZbF n.2.2.1.length fun i=>ZbF (Zai n i).length fun b=>ZvH n.2.2.2.2.1 s (Zac n i b).1*bw n l i b)<=2*tW n l:=by
  unfold rW tW;rw[<-Zeo, <-Zef];refine ZbK fun i _=> ?_;rw[<-Zeo, <-Zef];refine ZbK fun b _=> ?_;have:=ZvW hW s (Zac n i b).1
  have h3: (if (Zac n i b).1=s then bw n l i b else 0)=(if (Zac n i b).1=s then 1 else 0) *bw n l i b:=by split<;>simp
  rw[h3, <-Nat.add_mul];exact Vwa _ this
 have:=ZxF hW hT l;omega
end Q
namespace Q
open Tr Go
open Option (bind_some)
variable {n:Zas}{q:Za4}{m:Nat}
noncomputable def Zur(n:Zas)(l:Nat)(x:Zar):Nat:=if x.1=true then Zih n l x.2.1.toNat x.2.2.2.1.toNat else 1+rW n l x.2.2.2.2.2.1
noncomputable def wJ(n:Zas)(m:Nat)(L:List Zar):Nat:=if Zal L<=m then Zur n (m - Zal L) (lg L (L.length - 1)) else 1
noncomputable def hJ(n:Zas)(m:Nat)(L:List Zar):Nat:=if Zal L<=m then 20* (m - Zal L)+(if (lg L (L.length - 1)).1=true then 10+rnk n (lg L (L.length - 1)).2.1.toNat else 5) else 0
theorem ZrZ(l i c:Nat):1<=Zih n l i c:=by unfold Zih;have:=ZwP l;exact Vs (by omega:1<=gW l*1) (Vda _ (by omega))
theorem Zvj(L:List Zar):1<=wJ n m L:=by
 unfold wJ Zur;split
 ·split
  ·exact ZrZ ..
  ·omega
 ·exact Vi _
theorem ZeY(L:List Zar)(x:Zar):lg (L++[x]) ((L++[x]).length - 1)=x:=by rw[Ve,Vk,Vib,ZuC]
theorem ZnI{L:List Zar}(hr:Zal L<=m)(i b c:Nat):wJ n m (L++[ZbB n i b c false])=wr n (m - Zal L) i c:=by
 unfold wJ;rw[Zbf,ZbG,ZeY];simp only[Vr,if_false];by_cases h:Zal L+1<=m
 ·rw[if_pos h,show m - Zal L=(m - (Zal L+1))+1 by omega];rfl
 ·rw[if_neg h,show m - Zal L=0 by omega];rfl
theorem Zvx{L:List Zar}(hr:Zal L<=m)(i b c:Nat):wJ n m (L++[ZbB n i b c true])=Zih n (m - Zal L) i c:=by unfold wJ;rw[Zbf,ZbG,ZeY];simp only[if_true,Vqb];rw[if_pos hr];rfl
theorem Zwr{L:List Zar}(hr:Zal L<=m)(s t:Int)(p:Zb2):wJ n m (L++[Zb8 s t p])=1+rW n (m - Zal L) p.2.1:=by unfold wJ Zb8;rw[Zbf,Zck,ZeY,Vqb,if_pos hr];rfl
theorem Zrc{α β:Type}(w:β->Nat)(f:α->List β): ∀l:List α,((l.flatMap f).map w).sum=(l.map fun x=>((f x).map w).sum).sum
 | []=>rfl
 |x::l=>by rw[Vnb,Vp,Vha,Zrc w f l];rfl
theorem Zre{α:Type}{f g:α->Nat} : ∀ {l:List α},(∀x∈l,f x<=g x)->(l.map f).sum<=(l.map g).sum
 | [],_=>Vi _
 |x::l,h=>by rw[Via,Vja,Via,Vja];exact Vxb (h x (by simp)) (Zre fun y hy=>h y (by simp [hy]))
theorem Zu5{α:Type}(f g:α->Nat): ∀l:List α,(l.map fun x=>f x+g x).sum=(l.map f).sum+(l.map g).sum
 | []=>rfl
 |x::l=>by simp only[Via,Vja];rw[Zu5 f g l];omega
theorem Zud{α:Type}{f:α->Nat} : ∀ {l:List α},(∀x∈l,f x=0)->(l.map f).sum=0
 | [],_=>rfl
 |x::l,h=>by rw[Via,Vja,h x (by simp),Zud fun y hy=>h y (by simp [hy])]
theorem Zk4{l:Nat}{f:Zar->Nat}(hf: ∀i b c,f (ZbB n i b c false)<=wr n l i c)(s t:Int): ((Zcd n s t).map f).sum<=rW n l s:=by
 unfold Zcd rW;rw[ZfR];refine ZbK fun i _=> ?_;unfold Zd3;rw[ZfR];refine ZbK fun b _=> ?_;unfold ZgN;by_cases h: (Zac n i b).1=s
 ·rw[if_pos h];split
  ·unfold Zfr bw;rw[Zlp];exact ZbK fun k _=>hf ..
  ·exact Vba _
 ·rw[if_neg (fun e=>h e.1),if_neg h];exact Vi _
theorem Zub(hT:Tin n){l j:Nat}{f:Zar->Nat}(hj:j<n.2.2.1.length)(h0: ∀i b c,(i≠j\/b≠0)->f (ZbB n i b c false)=0)(hf: ∀c,f (ZbB n j 0 c false)<=Zih n l j c)(s t:Int): ((Zcd n s t).map f).sum<=gW l* (5+5*rnk n j):=by
 have hb: ∀i b,(i≠j\/b≠0)->((ZgN n s t i b).map f).sum=0:=by
  intro i b h;unfold ZgN;split
  ·unfold Zfr;rw[Zlp];exact Zdp fun k _=>h0 i b _ h
  ·rfl
 unfold Zcd;rw[ZfR];refine Vs (Zg1 (j:=j) fun i _ he=> ?_) ?_
 ·unfold Zd3;rw[ZfR];exact Zdp fun b _=>hb i b (.inl he)
 ·unfold Zd3;rw[ZfR];refine Vs (Zg1 (j:=0) fun b _ he=>hb j b (.inr he)) ?_;unfold ZgN;split
  ·unfold Zfr;rw[Zlp];refine Vs (ZbK fun k _=>hf _) (Vs (ZtC l j 0) (Vda _ ?_));have:=hT.calls j hj;omega
  ·exact Vba _
theorem Zis{a b:Zar}(h:Zbj n a b=0)(hs:Za2 b=true):Zgf n a b true=true:=by
 unfold Zbj at h;rw[hs,Zau (by omega)]at h;have h:=h.2;rw[Zau (by omega)]at h;have h:=h.2;simp only[cond_true]at h
 cases hl:Zgf n a b true with
 |true=>rfl
 |false=>rw[hl]at h;simp at h
theorem Zoe(h:Zcq n){a:Zar}{i b c:Nat}(hl:Zgf n a (ZbB n i b c true) true=true): ∃k d:Nat,a.2.1=(k:Int)/\a.2.2.2.1=(d:Int)/\isLink n k d i b true:=by unfold Zgf at hl;obtain⟨x,hx,hm⟩:=Vhc.1 hl;obtain⟨i',c',j',d',s',rfl,_⟩:=h.link x hx;unfold Zmv ZbB at hm;simp only[Vh,decide_eq_true_eq,beq_iff_eq,Int.natCast_inj]at hm;obtain⟨h1,h2,h3,h4,h5⟩:=hm;refine⟨i',c',h1.symm,h2.symm, ?_⟩;unfold isLink;rw[<-h3, <-h4, <-h5];exact hx
theorem ZuZ(L:List Zar)(l:Zar): ((ZpX n q L l).map fun y=>wJ n m y.1).sum<=wJ n m (L++[l]):=by
 unfold ZpX;split
 ·simp
 ·exact Vba _
theorem Zw1(L:List Zar)(x l:Zar): ((ZlZ n L x l).map fun y=>wJ n m y.1).sum<=wJ n m (L++[Zca l]):=by
 unfold ZlZ;split
 ·simp
 ·exact Vba _
theorem Zld{L:List Zar}{x l:Zar}(h: ¬ ((l.1=true/\l.2.2.1=0/\x.1=true)/\Zbj n x (Zca l)=0)):ZlZ n L x l=[]:=by unfold ZlZ;exact if_neg fun e=>h ⟨e.1,e.2.2⟩
theorem ZwX(hW:Whole n)(hT:Tin n){L:List Zar}(hr:Zal L<=m):1+((Zns n q L).map fun y=>wJ n m y.1).sum<=wJ n m L:=by
 unfold Zns;have eW:wJ n m L=Zur n (m - Zal L) (lg L (L.length - 1)):=if_pos hr;rw[Zrc,eW];generalize lg L (L.length - 1)=x
 have e1: ((ZbY n x).map fun l=>((ZpS n q L x l).map fun y=>wJ n m y.1).sum).sum=((ZbY n x).map fun l=>((ZpX n q L l).map fun y=>wJ n m y.1).sum).sum+((ZbY n x).map fun l=>((ZlZ n L x l).map fun y=>wJ n m y.1).sum).sum:=by rw[<-Zu5];unfold ZpS;simp only[Vp,Vha]
 rw[e1]
 have hA: ((Zcd n x.2.2.2.2.2.1 x.2.2.2.2.2.2.2.1).map fun l=>((ZpX n q L l).map fun y=>wJ n m y.1).sum).sum<=rW n (m - Zal L) x.2.2.2.2.2.1:=
  Zk4 (fun i b c=>Vs (ZuZ L _) (Vgb (ZnI hr i b c))) _ _
 unfold ZbY Zur
 cases hx:x.1 with
 |false=>
  simp only[Vr,if_false,Vca]
  have hS: ((Zcd n x.2.2.2.2.2.1 x.2.2.2.2.2.2.2.1).map fun l=>((ZlZ n L x l).map fun y=>wJ n m y.1).sum).sum=0:=
   Zud fun l _=>by rw[Zld (fun e=>by rw[hx]at e;cases e.1.2.2)];rfl
  omega
 |true=>
  simp only[if_true,Vp,Vha]
  have hB: ((ZbT n x.2.2.2.2.2.1 x.2.2.2.2.2.2.2.1).map fun l=>((ZpX n q L l).map fun y=>wJ n m y.1).sum).sum<=((n.2.2.2.2.1.filter fun p=>decide (p.1=x.2.2.2.2.2.1)).map fun p=>1+rW n (m - Zal L) p.2.1).sum:=by unfold ZbT;rw[Vrb];exact Zre fun p _=>Vs (ZuZ L _) (Vgb (Zwr hr _ _ p))
  have hC: ((ZbT n x.2.2.2.2.2.1 x.2.2.2.2.2.2.2.1).map fun l=>((ZlZ n L x l).map fun y=>wJ n m y.1).sum).sum=0:=
   Zud fun l hl=>by obtain⟨p,_,_,rfl⟩:=ZfS hl;rw[Zld (fun e=>Bool.noConfusion e.1.1)];rfl
  have hN:=Zve hW hT (m - Zal L) x.2.2.2.2.2.1
  have hD: ((Zcd n x.2.2.2.2.2.1 x.2.2.2.2.2.2.2.1).map fun l=>((ZlZ n L x l).map fun y=>wJ n m y.1).sum).sum+gW (m - Zal L)<=Zih n (m - Zal L) x.2.1.toNat x.2.2.2.1.toNat:=by
   by_cases he: ∃i c j:Nat,x.2.1=(i:Int)/\x.2.2.2.1=(c:Int)/\isLink n i c j 0 true
   ·obtain⟨i,c,j,h1,h2,h3⟩:=he;obtain⟨l1,l2,l3,l4,l5,l6,l7⟩:=hW.ok.isLink h3;have hs:=ZfB hW h3;have hj7:j<7:=by have:=hT.runs;omega
    have hrk:=Zu6 hW hj7 hs
    have:=Zub (l:=m - Zal L) (f:=fun l=>((ZlZ n L x l).map fun y=>wJ n m y.1).sum) hT l2 (fun i' b' c' hne=>by
     show ((ZlZ n L x (ZbB n i' b' c' false)).map fun y=>wJ n m y.1).sum=0;rw[Zld]
     ·rfl
     ·rintro ⟨⟨_,e2,_⟩,e4⟩;have e2' : (b' :Int)=0:=e2;have hb:b' =0:=by omega
      subst hb;obtain⟨k,d,g1,g2,g3⟩:=Zoe (i:=i') (b:=0) (c:=c') hW.ok (Zis e4 rfl);have hs2:=ZfB hW g3;have:k=i:=by have:=h1.symm.trans g1;omega
      subst this;rw[hs]at hs2;have:i' =j:=by have:=Option.some.inj hs2;omega
      rcases hne with hne|hne
      ·exact hne this
      ·exact hne rfl) (fun c' =>Vs (Zw1 L x _) (Vgb (Zvx hr j 0 c'))) x.2.2.2.2.2.1 x.2.2.2.2.2.2.2.1
    rw[h1,h2,Vq,Vq];unfold Zih;rw[if_pos (l7 rfl).1,Nat.mul_add,Nat.mul_one];have h5:gW (m - Zal L) * (5+5*rnk n j)<=gW (m - Zal L) * (5*rnk n i):=Vda _ (by omega);omega
   ·have hz: ((Zcd n x.2.2.2.2.2.1 x.2.2.2.2.2.2.2.1).map fun l=>((ZlZ n L x l).map fun y=>wJ n m y.1).sum).sum=0:=
     Zud fun l hl=>by
      obtain⟨i,b,c,_,_,_,_,_,rfl⟩:=ZfH hl;rw[Zld]
      ·rfl
      ·rintro ⟨⟨_,e2,_⟩,e4⟩;have e2' : (b:Int)=0:=e2;have hb:b=0:=by omega
       subst hb;obtain⟨k,d,g1,g2,g3⟩:=Zoe (i:=i) (b:=0) (c:=c) hW.ok (Zis e4 rfl);exact he ⟨k,d,i,g1,g2,g3⟩
    rw[hz];unfold Zih
    have:gW (m - Zal L) *1<=gW (m - Zal L) * (1+if x.2.2.2.1.toNat+1=(Zai n x.2.1.toNat).length then 5*rnk n x.2.1.toNat else 0):=Vda _ (by omega)
    omega
  omega
theorem ZxJ(hW:Whole n)(hT:Tin n){L:List Zar}(hr:Zal L<=m){y:List Zar×Unit}(hy:y∈Zns n q L):y.1.length=L.length+1/\hJ n m y.1<hJ n m L:=by
 unfold Zns at hy;obtain⟨l,hl,hy⟩:=Vn.1 hy
 have eH:hJ n m L=20* (m - Zal L)+(if (lg L (L.length - 1)).1=true then 10+rnk n (lg L (L.length - 1)).2.1.toNat else 5):=if_pos hr
 rw[eH];generalize lg L (L.length - 1)=x at*
 have hlow:5<=(if x.1=true then 10+rnk n x.2.1.toNat else 5):=by split<;>omega
 have hride: ∀i b c,hJ n m (L++[ZbB n i b c false])<20* (m - Zal L)+(if x.1=true then 10+rnk n x.2.1.toNat else 5):=by
  intro i b c;unfold hJ;rw[Zbf,ZbG,ZeY];have hk:=Zvh (n:=n) i;have e: (ZbB n i b c false).2.1.toNat=i:=Vq i;have e2: (ZbB n i b c false).1=true:=rfl;rw[e,e2];simp only[Vr,if_false,if_true];by_cases h:Zal L+1<=m
  ·rw[if_pos h];omega
  ·rw[if_neg h];omega
 rcases Vl.1 hy with hy|hy
 ·unfold ZpX at hy;split at hy
  ·rw[Vf]at hy;subst hy;refine⟨by simp, ?_⟩;unfold ZbY at hl;rcases Vl.1 hl with hl|hl
   ·obtain⟨i,b,c,_,_,_,_,_,rfl⟩:=ZfH hl;exact hride i b c
   ·split at hl
    ·next hx=>
     obtain⟨p,_,_,rfl⟩:=ZfS hl;rw[if_pos hx];unfold hJ Zb8;rw[Zbf,Zck,ZeY,Vqb,if_pos hr];rw[if_neg (fun e=>Zmc _ _ _ _ e)];omega
    ·exact absurd hl (by simp)
  ·exact absurd hy (by simp)
 ·unfold ZlZ at hy;split at hy
  ·next hc=>
   rw[Vf]at hy;subst hy;refine⟨by simp, ?_⟩;obtain⟨⟨c1,c2,c3⟩,_,c4⟩:=hc;rw[if_pos c3];unfold ZbY at hl;rcases Vl.1 hl with hl|hl
   ·obtain⟨i,b,c,hi,_,_,_,_,rfl⟩:=ZfH hl;have c2' : (b:Int)=0:=c2;have hb:b=0:=by omega
    subst hb;obtain⟨k,d,g1,g2,g3⟩:=Zoe (i:=i) (b:=0) (c:=c) hW.ok (Zis c4 rfl);have hi7:i<7:=by have:=hT.runs;omega
    have:=Zu6 hW hi7 (ZfB hW g3);rw[g1,Vq];show hJ n m (L++[ZbB n i 0 c true])<_;unfold hJ;rw[Zbf,ZbG,ZeY];have e: (ZbB n i 0 c true).2.1.toNat=i:=Vq i;have e2: (ZbB n i 0 c true).1=true:=rfl;rw[e,e2];simp only[if_true,Vqb];rw[if_pos hr];omega
   ·rw[if_pos c3]at hl;obtain⟨p,_,_,rfl⟩:=ZfS hl;cases c1
  ·exact absurd hy (by simp)
end Q
namespace Q
open Tr Go
open Option (bind_some)
variable {n:Zas}{q:Za4}{m:Nat}
theorem ZvR(hW:Whole n)(hT:Tin n): ((ZeD n q).map fun y=>wJ n m y.1).sum<=gW m:=by
 have h0:Zal ([]:List Zar)<=m:=Vba _
 have e1: ((Zd6 n q).map fun y=>wJ n m y.1).sum<=rW n m q.1:=by unfold Zd6;rw[Vrb];refine Zk4 (f:=(fun y:List Zar×Unit=>wJ n m y.1) ∘fun x=>([x],())) (fun i b c=> ?_) _ _;exact Vgb (ZnI (L:=[]) h0 i b c)
 have e2: (((ZbT n q.1 0).flatMap (ZcM n q)).map fun y=>wJ n m y.1).sum<=((n.2.2.2.2.1.filter fun p=>decide (p.1=q.1)).map fun p=>1+rW n m p.2.1).sum:=by rw[Zrc];unfold ZbT;rw[Vrb];refine Zre fun p _=> ?_;show ((ZcM n q (Zb8 q.1 0 p)).map fun y=>wJ n m y.1).sum<=1+rW n m p.2.1;unfold ZcM;rw[Vrb];refine Vs (Zk4 (l:=m) (f:=(fun y:List Zar×Unit=>wJ n m y.1) ∘fun x=>([ZjE (Zb8 q.1 0 p) x,x],())) (fun i b c=> ?_) _ _) (Nat.le_add_left _ _);exact Vgb (ZnI (L:=[ZjE (Zb8 q.1 0 p) (ZbB n i b c false)]) (Vba _) i b c)
 have e3:=Zve hW hT m q.1;unfold ZeD;rw[Vp,Vha];omega
theorem ZvJ{y:List Zar×Unit}(hy:y∈ZeD n q):0<y.1.length/\y.1.length+hJ n m y.1<=20*m+30:=by
 have hh: ∀L:List Zar,hJ n m L<=20*m+17:=fun L=>by
  unfold hJ;have:=Zvh (n:=n) (lg L (L.length - 1)).2.1.toNat;split
  ·split<;>omega
  ·omega
 have:=hh y.1;unfold ZeD at hy;rcases Vl.1 hy with hy|hy
 ·unfold Zd6 at hy;obtain⟨x,_,rfl⟩:=Vqa.1 hy;exact⟨by simp,by simp only[Vk]at*;omega⟩
 ·obtain⟨w,_,hy⟩:=Vn.1 hy;unfold ZcM at hy;obtain⟨x,_,rfl⟩:=Vqa.1 hy;exact⟨by simp,by simp only[Vfa,Vma]at*;omega⟩
open Classical in
noncomputable def ZeX(n:Zas)(q:Za4)(y:List Zar×Unit):List (List Zar×Unit):=if Zla n q y.1 then Zns n q y.1 else []
open Classical in
noncomputable def Zft(n:Zas)(q:Za4)(y:List Zar×Unit):List (List Zar×Unit):=if Zla n q y.1/\(ZbA n q y.1).2=0 then [y] else []
theorem Zjj(y:List Zar×Unit): (Zft n q y).length<=1:=by unfold Zft;split<;>simp
theorem Zvv{L:List Zar}(h:Zla n q L)(hm:q.2.2.2.2.1=(m:Int)):Zal L<=m:=by have:=h.2.1;omega
theorem ZkU(hW:Whole n)(hT:Tin n)(hm:q.2.2.2.2.1=(m:Int)): ∀l:List (List Zar×Unit),l.length+((l.flatMap (ZeX n q)).map fun y=>wJ n m y.1).sum<=(l.map fun y=>wJ n m y.1).sum
 | []=>Vi _
 |y::l=>by
  have ih:=ZkU hW hT hm l;rw[Vnb,Vp,Vha,Via,Vja,Vfa]
  have:1+((ZeX n q y).map fun y=>wJ n m y.1).sum<=wJ n m y.1:=by
   unfold ZeX;split
   ·next h=>exact ZwX hW hT (Zvv h hm)
   ·exact Zvj _
  omega
theorem Zxa(l:List (List Zar×Unit)):l.length<=(l.map fun y=>wJ n m y.1).sum:=by
 induction l with
 |nil=>exact Vi _
 |cons y l ih=>
  rw[Via,Vja,Vfa];have:=Zvj (n:=n) (m:=m) y.1;omega
theorem ZwY(l:List (List Zar×Unit))(i:Nat): ((l.take i).map fun y=>wJ n m y.1).sum<=(l.map fun y=>wJ n m y.1).sum:=by
 have:l=l.take i++l.drop i:=(Vvb i l).symm
 conv=>rhs;rw[this]
 rw[Vp,Vha];omega
structure ZwH (n:Zas) (q:Za4) (m:Nat) (s:List (List Zar×Unit) ×List (List Zar×Unit)):Prop where
 size:s.1.length+(s.2.map fun y=>wJ n m y.1).sum<=549755813000
 good: ∀y∈s.1,(ZbA n q y.1).2=0/\y.1.length<=100
 low: ∀y∈s.2,0<y.1.length/\y.1.length+hJ n m y.1<=100
 done: ∃D:List Zar->Prop,(∀L,D L->Zla n q L->((ZbA n q L).2=0->(L,())∈s.1)/\ ∀y∈Zns n q L,D y.1\/y∈s.2)/\ ∀y∈ZeD n q,D y.1\/y∈s.2
theorem Zsq(hW:Whole n)(hT:Tin n)(hm:q.2.2.2.2.1=(m:Int)){s:List (List Zar×Unit) ×List (List Zar×Unit)}(I:ZwH n q m s):ZwH n q m (s.1++s.2.flatMap (Zft n q),s.2.flatMap (ZeX n q)):=by
 have hr:=ZkU hW hT hm s.2;have hg:=Zdv (f:=Zft n q) (c:=1) (fun y=>Zjj y) s.2;refine⟨?_,fun y hy=> ?_,fun y hy=> ?_, ?_⟩
 ·have:=I.size;simp only[Ve];omega
 ·rcases Vl.1 hy with hy|hy
  ·exact I.good y hy
  ·obtain⟨z,hz,hy⟩:=Vn.1 hy;unfold Zft at hy;split at hy
   ·next h=>
    rw[Vf]at hy;subst hy;exact⟨h.2,by have:=I.low y hz;omega⟩
   ·exact absurd hy (by simp)
 ·obtain⟨z,hz,hy⟩:=Vn.1 hy;unfold ZeX at hy;split at hy
  ·next h=>
   obtain⟨e1,e2⟩:=ZxJ hW hT (Zvv h hm) hy;have:=I.low z hz;omega
  ·exact absurd hy (by simp)
 ·obtain⟨D,d1,d2⟩:=I.done;refine⟨fun L=>D L\/ ∃y∈s.2,y.1=L, ?_,fun y hy=> ?_⟩
  ·rintro L (hD| ⟨⟨L',u⟩,hD,rfl⟩) hH
   ·obtain⟨a1,a2⟩:=d1 L hD hH;refine⟨fun e=>Vx _ (a1 e),fun y hy=> .inl ?_⟩;rcases a2 y hy with h|h
    ·exact .inl h
    ·exact .inr ⟨y,h,rfl⟩
   ·refine⟨fun e=>Vaa _ (Vn.2 ⟨_,hD, ?_⟩),fun y hy=> .inr (Vn.2 ⟨_,hD, ?_⟩)⟩
    ·unfold Zft;rw[if_pos ⟨hH,e⟩];exact Vf.2 rfl
    ·unfold ZeX;rw[if_pos hH];exact hy
  ·left;rcases d2 y hy with h|h
   ·exact .inl h
   ·exact .inr ⟨y,h,rfl⟩
structure ZxA (n:Zas) (q:Za4) (out:List (List Zar×Unit)):Prop where
 size:out.length<=549755813000
 good: ∀y∈out,(ZbA n q y.1).2=0/\y.1.length<=100
 none:q.1=q.2.1->([],())∈out
 walk: ∀w∈ZbT n q.1 q.2.2.1,(ZbA n q [w]).2=0->([w],())∈out
 done: ∃D:List Zar->Prop,(∀L,D L->Zla n q L->((ZbA n q L).2=0->(L,())∈out)/\ ∀y∈Zns n q L,D y.1)/\ ∀y∈ZeD n q,D y.1
theorem Zqo(hfit:Fit n)(hW:Whole n)(hT:Tin n)(hF:n.2.2.2.2.2.1.1.length<=4096)(hq:qB n.1.length q=true)(hb:q.2.2.2.1=false)(hm:q.2.2.2.2.1=(m:Int))(h3:m<=3): ∃out,F83 n q=some out/\ZxA n q out:=by
 have hN:=hW.ok;have hpp:n.2.2.2.2.1.length<=4096:=by have:=hT.paths;omega
 have hlk:n.2.2.2.1.length<=4096:=by have:=hW.v;omega
 have hq1:inR q.1 n.1.length=true:=by unfold qB at hq;rw[Vh]at hq;exact hq.1
 have hck:ZkJ n q=0:=ZfE.2 ⟨hW,hq⟩;have hw60:=ZfK hT q.1 q.2.2.1;unfold F83
 refine ZwS (fun r:List (List Zar×Unit)=>r=if q.1=q.2.1 then [([],())] else []) ?_ ?_
 ·by_cases h:q.1=q.2.1
  ·rw[decide_eq_true h,if_pos h];exact⟨_,rfl,rfl⟩
  ·rw[decide_eq_false h,if_neg h];exact⟨_,rfl,rfl⟩
 rintro x0 hx0
 have hx1:x0.length<=1:=by rw[hx0];split<;>simp
 rw[Zfj hpp];simp only[bind_some]
 have hbeg: ∃x7:List (List Zar×Unit),x7.length<=61/\(∀y∈x7,(ZbA n q y.1).2=0/\y.1.length<=100)/\(q.1=q.2.1->([],())∈x7)/\(∀w∈ZbT n q.1 q.2.2.1,(ZbA n q [w]).2=0->([w],())∈x7)/\x7=x0++(ZbT n q.1 q.2.2.1).flatMap fun w=>if (ZbA n q [w]).2=0 then [([w],())] else []:=by
  refine⟨_, ?_,fun y hy=> ?_,fun e=> ?_,fun w hw e=> ?_,rfl⟩
  ·have:=Zdv (f:=fun w=>if (ZbA n q [w]).2=0 then [(([w],()):List Zar×Unit)] else []) (c:=1) (fun w=>by split<;>simp) (ZbT n q.1 q.2.2.1)
   rw[Ve];omega
  ·rcases Vl.1 hy with hy|hy
   ·rw[hx0]at hy;split at hy
    ·next he=>
     rw[Vf]at hy;subst hy;exact⟨(Zgb n q []).2 ⟨hck, .inl ⟨rfl,he⟩⟩,by simp⟩
    ·exact absurd hy (by simp)
   ·obtain⟨w,_,hy⟩:=Vn.1 hy;split at hy
    ·next he=>
     rw[Vf]at hy;subst hy;exact⟨he,by simp⟩
    ·exact absurd hy (by simp)
  ·rw[hx0,if_pos e];simp
  ·exact Vaa _ (Vn.2 ⟨w,hw,by rw[if_pos e];exact Vf.2 rfl⟩)
 obtain⟨x7,b1,b2,b3,b4,b5⟩:=hbeg;refine ZwS (fun r=>r=x7) ?_ ?_
 ·rw[b5];generalize ZbT n q.1 q.2.2.1=W at*
  refine ZaL W.length _ (fun i (st:List (List Zar×Unit) ×Int)=>st=(x0++(W.take i).flatMap (fun w=>if (ZbA n q [w]).2=0 then [([w],())] else []),(i:Int))) ?_ ?_ _ (by simp)
  ·rintro i _ hi rfl;left
   have hl: ((W.take i).flatMap (fun w=>if (ZbA n q [w]).2=0 then [(([w],()):List Zar×Unit)] else [])).length<=60:=by
    have:=Zdv (f:=fun w=>if (ZbA n q [w]).2=0 then [(([w],()):List Zar×Unit)] else []) (c:=1) (fun w=>by split<;>simp) (W.take i)
    rw[Vv]at this;omega
   have et: (W.take (i+1)).flatMap (fun w=>if (ZbA n q [w]).2=0 then [(([w],()):List Zar×Unit)] else [])=(W.take i).flatMap (fun w=>if (ZbA n q [w]).2=0 then [(([w],()):List Zar×Unit)] else [])++if (ZbA n q [W[i]]).2=0 then [([W[i]],())] else []:=by rw[Va hi,Vy];simp
   have hfv:F86 n q ([W[i]],())=some (decide ((ZbA n q [W[i]]).2=0)):=Zic hfit hF q [W[i]] (by simp);rw[et];simp only[Zat hi,cond_true,Zaf hi,bind_some,hb,cond_false,hfv,Zaj hi (show _<=9223372036854775807 by omega)];by_cases hc: (ZbA n q [W[i]]).2=0
   ·rw[decide_eq_true hc,if_pos hc];simp only[cond_true];rw[ZaO (by simp only[Ve,Vk];omega)];exact⟨_,rfl,by rw[Vga]⟩
   ·rw[decide_eq_false hc,if_neg hc];exact⟨_,rfl,by rw[Vca]⟩
  ·rintro _ rfl;simp only[Zaw,cond_false,Vg];exact⟨_,rfl,rfl⟩
 rintro r7 hr7;rw[hr7,ZtA hT];simp only[bind_some];refine ZwS (fun r=>ZwH n q m (r,[])/\ ∀y∈x7,y∈r) ?_ ?_
 rotate_left
 ·rintro out ⟨I,hsub⟩;refine⟨out,rfl,by have:=I.size;simp only at this;omega,I.good,fun e=>hsub _ (b3 e),fun w hw e=>hsub _ (b4 w hw e), ?_⟩;obtain⟨D,d1,d2⟩:=I.done;exact⟨D,fun L hD hH=>⟨(d1 L hD hH).1,fun y hy=>((d1 L hD hH).2 y hy).resolve_right (by simp)⟩,fun y hy=>(d2 y hy).resolve_right (by simp)⟩
 have hg3:gW m<=542198816521:=by
  have:m=0\/m=1\/m=2\/m=3:=by omega
  rcases this with rfl|rfl|rfl|rfl<;>decide
 have hsw:=ZvR (q:=q) (m:=m) hW hT
 have h0:ZwH n q m (x7,ZeD n q):=by refine⟨by show x7.length+((ZeD n q).map fun y=>wJ n m y.1).sum<=549755813000;omega,b2,fun y hy=> ?_,⟨fun _=>False,fun _ h=>h.elim,fun y hy=> .inr hy⟩⟩;have:=ZvJ (m:=m) hy;omega
 refine ZlB (Inv:=fun s:List (List Zar×Unit) ×List (List Zar×Unit)=>ZwH n q m s/\ ∀y∈x7,y∈s.1) (μ:=fun s=>(s.2.map fun y=>wJ n m y.1).sum) (ZjL:=fun r=>ZwH n q m (r,[])/\ ∀y∈x7,y∈r) ?_ (x7,ZeD n q) ⟨h0,fun y hy=>hy⟩;rintro ⟨out,opn⟩ ⟨I,hsub⟩
 cases opn with
 |nil=>
  right
  exact⟨out,rfl,I,hsub⟩
 |cons y0 opn0=>
  left;generalize hop:y0::opn0=opn at*;have hlen:0<opn.length:=by rw[<-hop];simp
  have hr:=ZkU hW hT hm opn;have hlw:=Zxa (n:=n) (m:=m) opn;have hsz:=I.size;simp only at hsz;refine⟨(out++opn.flatMap (Zft n q),opn.flatMap (ZeX n q)), ?_,⟨Zsq hW hT hm I,fun y hy=>Vx _ (hsub y hy)⟩,by show ((opn.flatMap (ZeX n q)).map fun y=>wJ n m y.1).sum< (opn.map fun y=>wJ n m y.1).sum;omega⟩;rw[decide_eq_true (show (0:Int)< (opn.length:Int) by omega)];simp only[cond_true];refine Zbi (fun r=>r=(out++opn.flatMap (Zft n q),opn.flatMap (ZeX n q))) ?_ (fun r hr=>by rw[hr]);refine ZaL opn.length _ (fun i (st:List (List Zar×Unit) ×List (List Zar×Unit) ×Int)=>st=(out++(opn.take i).flatMap (Zft n q),(opn.take i).flatMap (ZeX n q),(i:Int))) ?_ ?_ _ (by simp)
  ·rintro i _ hi rfl;left;have hlow:=I.low opn[i] (Vj hi);have hgl:=Zdv (f:=Zft n q) (c:=1) (fun y=>Zjj y) (opn.take i);rw[Vv]at hgl
   have hml: ((opn.take (i+1)).flatMap (ZeX n q)).length<=549755813000:=by have a1:=Zxa (n:=n) (m:=m) ((opn.take (i+1)).flatMap (ZeX n q));have a2:=ZkU hW hT hm (opn.take (i+1));have a3:=ZwY (n:=n) (m:=m) opn (i+1);omega
   have em: (opn.take (i+1)).flatMap (ZeX n q)=(opn.take i).flatMap (ZeX n q)++ZeX n q opn[i]:=by rw[Va hi,Vy];simp
   have eg: (opn.take (i+1)).flatMap (Zft n q)=(opn.take i).flatMap (Zft n q)++Zft n q opn[i]:=by rw[Va hi,Vy];simp
   rw[em,Ve]at hml;rw[em,eg];have hgd:=Zjj (n:=n) (q:=q) opn[i];obtain⟨b,hb1,hb2⟩:=Zoc (n:=n) (q:=q) hN.sound hpp hq1 (L:=(opn[i]).1) hlow.1 (by omega);have hb1' :F95 n q opn[i]=some b:=hb1;have hfe:F86 n q opn[i]=some (decide ((ZbA n q (opn[i]).1).2=0)):=Zic hfit hF q (opn[i]).1 (by omega);have hex:F92 n q opn[i]=some (Zns n q (opn[i]).1):=Zq1 (L:=(opn[i]).1) hT hN hlk hq1 hlow.1 (by omega);have hw:Vc .i64 ((i:Int)+1)=((i+1:Nat):Int):=by rw[Zae (by omega) (by omega)];omega
   simp only[Zat hi,cond_true,Zaf hi,bind_some,hb1',hw]
   cases b with
   |false=>
    have hno: ¬Zla n q (opn[i]).1:=fun e=>by have:=hb2.2 e;cases this
    simp only[Vw,cond_true];refine⟨_,rfl, ?_⟩;unfold Zft ZeX
    rw[if_neg (fun e=>hno e.1),if_neg hno,Vca,Vca]
   |true=>
    have hyes:Zla n q (opn[i]).1:=hb2.1 rfl;have emo:ZeX n q opn[i]=Zns n q (opn[i]).1:=if_pos hyes;rw[emo]at hml;simp only[Vm,cond_false,hfe,bind_some,hex];refine ZgF (fun r=>r=(out++(opn.take i).flatMap (Zft n q)++Zft n q opn[i],(opn.take i).flatMap (ZeX n q))) ?_ ?_
    ·unfold Zft at hgd hgl ⊢;by_cases hc: (ZbA n q (opn[i]).1).2=0
     ·rw[decide_eq_true hc,if_pos ⟨hyes,hc⟩];simp only[cond_true];rw[Zmr (by simp only[Ve,Vk];omega)];exact⟨_,rfl,rfl⟩
     ·rw[decide_eq_false hc,if_neg (fun e=>hc e.2)];exact⟨_,rfl,by rw[Vca]⟩
    ·rintro _ rfl;have hgb:Zam (decide (((opn.take i).flatMap (ZeX n q)).length+(Zns n q (opn[i]).1).length<=Zan))=some ():=Zmr (by omega);simp only[hgb,bind_some];exact⟨_,rfl,by rw[emo,Vga]⟩
  ·rintro _ rfl;simp only[Zaw,cond_false,Vg];exact⟨_,rfl,rfl⟩
end Q
namespace Q
open Tr Go
open Option (bind_some)
variable {n:Zas}{q:Za4}{m:Nat}
theorem Zcu{x:Zar}(h:ZhP n q x=0)(hr:x.1=true): ∃i b c st,x=ZbB n i b c st/\i<n.2.2.1.length/\b<c/\c< (Zai n i).length:=by
 obtain⟨h1,h2,h3,h4⟩:=ZlP.1 h;rw[hr]at h2 h4;simp only[cond_true,Vdc]at h2 h4;have he:=h2;unfold ZaN ZaY at he;simp only[Vh,decide_eq_true_eq,Zeb]at he;obtain⟨⟨e1,e2⟩,e3,e4,e5⟩:=he;obtain⟨⟨r1,r2⟩,⟨r3,r4⟩,_⟩:=Zdi.1 h4;obtain⟨xr,xi,xb,xc,xf,xt,xd,xa,xs,u⟩:=x;simp only at hr h1 h2 h3 h4 e1 e2 e3 e4 e5 r1 r2 r3 r4;obtain⟨i,rfl⟩: ∃i:Nat,xi=(i:Int):=⟨xi.toNat,by omega⟩;obtain⟨b,rfl⟩: ∃i:Nat,xb=(i:Int):=⟨xb.toNat,by omega⟩;obtain⟨c,rfl⟩: ∃i:Nat,xc=(i:Int):=⟨xc.toNat,by omega⟩;subst hr;have hl:c< (Zai n i).length:=by unfold Zai;omega
 refine⟨i,b,c,xs, ?_,by omega,by omega,hl⟩;have a1: (Zac n i b).1=xf:=r1;have a2: (Zac n i c).1=xt:=r2;have a3: (Zac n i b).2.2.1=xd:=r3;have a4: (Zac n i c).2.1=xa:=r4;unfold ZbB;rw[a1,a2,a3,a4]
theorem ZbJ(hN:Zcq n){x:Zar}(h:ZhP n q x=0)(hr:x.1=false): ∃p∈n.2.2.2.2.1, ∃a,x=ZdZ p.1 p.2.1 a (a+p.2.2.1)/\0<=a/\a+p.2.2.1<=3155932800:=by obtain⟨h1,h2,h3,h4⟩:=ZlP.1 h;rw[hr]at h2 h4;simp only[cond_false,Bool.or_eq_false_iff,Vdc,decide_eq_true_eq]at h2 h4;have h5:=Zej.1 h4;obtain⟨p,hp,hm⟩:=Vhc.1 h5;rw[Vh]at hm;have hm1:=hm.1;unfold ZdG at hm1;simp only[Vh,decide_eq_true_eq]at hm1;obtain⟨xr,xi,xb,xc,xf,xt,xd,xa,xs,u⟩:=x;simp only at hr h1 h2 h3 hm1;have hpp:=hN.path p hp;rw[Zae (by omega) (by omega)]at hm1;obtain⟨rfl,rfl,rfl,rfl⟩:=h2;subst hr;refine⟨p,hp,xd, ?_,by omega,by omega⟩;unfold ZdZ;rw[<-hm1.1, <-hm1.2.1,show xa=xd+p.2.2.1 by omega]
theorem ZhW{J:List Zar}{k i:Nat}(h:i<k):lg (J.take k) i=lg J i:=by unfold lg;rw[List.getElem?_take,if_pos h]
theorem Zsw(x:Zar):ZbV n q x=0\/ZbV n q x=26\/ZbV n q x=29:=by
 unfold ZbV
 cases (!(cl (ZaY n x) x.2.2.2.1).2.2.2.2.1)<;>cases (!Zky n q x.2.2.2.2.2.1)<;>simp
structure Zkg (n:Zas) (q:Za4) (J:List Zar):Prop where
 pos:0<J.length
 leg: ∀i,i<J.length->ZhP n q (lg J i)=0
 fol: ∀i,i+1<J.length->Zbj n (lg J i) (lg J (i+1))=0/\((lg J i).1=true->Za2 (lg J (i+1))=false->ZbV n q (lg J i)=0)
 fst:Zg4 n q J=0
theorem Zrm{J:List Zar}(h0:0<J.length)(ha: ∀i,i<J.length->atE n q J i=0):Zkg n q J:=by
 refine⟨h0,fun i hi=>(Zd1.1 (ha i hi)).1,fun i hi=>⟨?_,fun h1 h2=> ?_⟩,(Zd1.1 (ha 0 h0)).2.1⟩
 ·have:=(Zd1.1 (ha (i+1) hi)).2.1;rw[Zes]at this;exact this
 ·refine(Zd1.1 (ha i (by omega))).2.2 ?_;unfold Zgh;rw[h1,h2];simp
theorem Zkg.at0{J:List Zar}(h:Zkg n q J){i:Nat}(hi:i+1<J.length):atE n q J i=0:=by
 refine Zd1.2 ⟨h.leg i (by omega), ?_,fun hb=> ?_⟩
 ·cases i with
  |zero=>exact h.fst
  |succ i=>rw[Zes];exact(h.fol i (by omega)).1
 ·unfold Zgh at hb;simp only[Vh,Vic,decide_eq_true_eq,Vkb]at hb;exact(h.fol i hi).2 hb.1 (hb.2.resolve_left (by omega))
theorem Zkg.at1{J:List Zar}(h:Zkg n q J){i:Nat}(hi:i<J.length):atE n q J i=0\/atE n q J i=26\/atE n q J i=29:=by
 have h1:=h.leg i hi
 have h2:ZiN n q J i=0:=by
  cases i with
  |zero=>exact h.fst
  |succ i=>rw[Zes];exact(h.fol i hi).1
 unfold atE;rw[decide_eq_true h1,decide_eq_true h2];have:=Zsw (n:=n) (q:=q) (lg J i)
 cases Zgh J i<;>simp [this]
theorem Zkg.hope{J:List Zar}(h:Zkg n q J): ∀i,i<J.length->Zn3 n q J i:=by
 intro i hi;by_cases e:i+1<J.length
 ·exact .inl (h.at0 e)
 ·rcases h.at1 hi with h1|h1
  ·exact .inl h1
  ·exact .inr ⟨by omega,h1⟩
theorem Zkg.take{J:List Zar}(h:Zkg n q J){k:Nat}(hk:k<=J.length)(h0:0<k)(h2:2<=k\/(lg J 0).1=true):Zkg n q (J.take k):=by
 have hl: (J.take k).length=k:=by rw[Vv];omega
 refine⟨by omega,fun i hi=> ?_,fun i hi=> ?_, ?_⟩
 ·rw[ZhW (by omega)];exact h.leg i (by omega)
 ·rw[ZhW (by omega),ZhW (by omega)];exact h.fol i (by omega)
 ·obtain⟨f1,f2,f3,f4,f5,f6⟩:=Zcy.1 h.fst;refine Zcy.2 ?_;rw[ZhW h0,hl];rcases h2 with h2|h2
  ·rw[ZhW (show 1<k by omega)];refine⟨f1,f2, ?_, ?_,f5,f6⟩
   ·rw[decide_eq_true (show 1<k by omega)];rw[decide_eq_true (show 1<J.length by omega)]at f3;exact f3
   ·rw[decide_eq_false (show¬k=1 by omega)];simp
  ·rw[h2]at f6 ⊢;exact⟨f1,f2,rfl,rfl,f5,f6⟩
theorem Zkj(J:List Zar)(k:Nat):Zal (J.take k)<=Zal J:=by
 have:J=J.take k++J.drop k:=(Vvb k J).symm
 conv=>rhs;rw[this]
 rw[Zbf];omega
theorem Znl(L:List Zar)(x:Zar):Zfv (L++[x])=ZjV (Zfv L) x:=by unfold Zfv;rw[List.foldl_append];rfl
theorem ZkO(s:Int)(i b c:Nat)(st:Bool):ZjV s (ZbB n i b c st)=s:=rfl
theorem Zj8{s a w:Int}(h0:0<=s)(h1:s<=1000000000000)(ha:0<=a)(hb:a+w<=3155932800)(hw:1<=w/\w<=14400)(u v:Int):ZjV s (ZdZ u v a (a+w))=s+w:=by unfold ZjV Zq8 ZdZ;simp only[Vw,Vra];rw[decide_eq_true ha,decide_eq_true (show a<=a+w by omega),Zae (x:=a+w - a) (by omega) (by omega),decide_eq_true (show a+w - a<=14400 by omega)];simp only[Vbc,cond_true];rw[Zae (x:=s+(a+w)) (by omega) (by omega),Zae (by omega) (by omega)];omega
theorem Zkg.walks(hN:Zcq n){J:List Zar}(h:Zkg n q J)(hm:Zal J<=1000): ∀k,k+1<=J.length->0<=Zfv (J.take k)/\Zfv (J.take k)<=Zfv (J.take (k+1))/\Zfv (J.take (k+1))<=14400* (Zal (J.take (k+1)):Int)+(if (lg J k).1=true then 0 else 14400):=by
 intro k
 induction k with
 |zero=>
  intro hk;have e:J.take (0+1)=[]++[lg J 0]:=by rw[Va hk,ZlC hk];rfl
  have e0:Zfv (J.take 0)=0:=rfl;rw[e,e0,Znl];have e1:Zfv []=0:=rfl;rw[e1]
  cases hx: (lg J 0).1 with
  |true=>
   obtain⟨i,b,c,st,ex,_⟩:=Zcu (h.leg 0 hk) hx;rw[ex,ZkO];simp
   omega
  |false=>
   obtain⟨p,hp,a,ex,b1,b2⟩:=ZbJ hN (h.leg 0 hk) hx;have hpp:=hN.path p hp;rw[ex,Zj8 (by omega) (by omega) b1 b2 ⟨hpp.2.2.2.1,hpp.2.2.2.2⟩];simp only[Vr,if_false]
   omega
 |succ k ih=>
  intro hk;obtain⟨i1,i2,i3⟩:=ih (by omega);have hlt:k+1<J.length:=by omega
  have e:J.take (k+1+1)=J.take (k+1)++[lg J (k+1)]:=by rw[Va hlt,ZlC hlt]
  have hrk:=Zkj J (k+1);rw[e,Znl,Zbf]
  cases hx: (lg J (k+1)).1 with
  |true=>
   obtain⟨i,b,c,st,ex,_⟩:=Zcu (h.leg (k+1) hlt) hx;have hf:=(h.fol k hlt).1;rw[ex]at hf ⊢;rw[ZkO,ZbG];simp only[if_true]
   cases hy: (lg J k).1 with
   |true=>
    rw[hy]at i3;simp only[if_true]at i3
    cases st<;>simp<;>omega
   |false=>
    rw[hy]at i3;simp only[Vr,if_false]at i3
    cases st with
    |true=>
     obtain⟨p,hp,a,ey,_⟩:=ZbJ hN (h.leg k (by omega)) hy;rw[ey]at hf
     exact(ZjH _ _ _ _ _ _ _ _ hf).elim
    |false=>simp only[Vr,if_false];omega
  |false=>
   obtain⟨p,hp,a,ex,b1,b2⟩:=ZbJ hN (h.leg (k+1) hlt) hx;have hpp:=hN.path p hp;have hf:=(h.fol k hlt).1
   cases hy: (lg J k).1 with
   |false=>
    obtain⟨p',hp',a',ey,_⟩:=ZbJ hN (h.leg k (by omega)) hy;rw[ex,ey]at hf
    exact(Zl0 _ _ _ _ _ _ _ _ _ hf).elim
   |true=>
    rw[hy]at i3;simp only[if_true]at i3;rw[ex,Zj8 (by omega) (by omega) b1 b2 ⟨hpp.2.2.2.1,hpp.2.2.2.2⟩,Zck];simp only[Vr,if_false];omega
theorem Zkg.stay_link(hN:Zcq n){J:List Zar}(h:Zkg n q J){k:Nat}(hk:k+1<J.length)(hs:Za2 (lg J (k+1))=true): ∃i b c st j e,lg J k=ZbB n i b c st/\lg J (k+1)=ZbB n j 0 e true/\isLink n i c j 0 true:=by
 have hf:=(h.fol k hk).1;have hl:=Zis hf hs
 have hy: (lg J (k+1)).1=true:=by
  cases hy: (lg J (k+1)).1 with
  |true=>rfl
  |false=>
   obtain⟨p,_,a,e,_⟩:=ZbJ hN (h.leg (k+1) hk) hy;rw[e]at hs;cases hs
 obtain⟨j,d,e,st',ey,_⟩:=Zcu (h.leg (k+1) hk) hy;rw[ey]at hs hl hf;have hst:st' =true:=hs;subst hst
 cases hx: (lg J k).1 with
 |false=>
  obtain⟨p,_,a,ex,_⟩:=ZbJ hN (h.leg k (by omega)) hx;rw[ex]at hf
  exact(ZjH _ _ _ _ _ _ _ _ hf).elim
 |true=>
  obtain⟨i,b,c,st,ex,_⟩:=Zcu (h.leg k (by omega)) hx;rw[ex]at hf;obtain⟨_,g2,_⟩:=(Zo0 hN).1 hf;have hd:=((hN.isLink g2).2.2.2.2.2.2 rfl).2;subst hd;exact⟨i,b,c,st,j,e,ex,ey,g2⟩
theorem Zkg.again(hW:Whole n){J:List Zar}(h:Zkg n q J){r:Int} : ∀k,k<J.length->Rch n (lg J k).2.1 r->Zct r (J.take (k+1)).reverse=false:=by
 intro k
 induction k with
 |zero=>
  intro hk hr;have e: (J.take (0+1)).reverse=[lg J 0]:=by rw[Va hk,ZlC hk];rfl
  rw[e];unfold Zct;rw[if_neg (fun e=>Rch.irr hW (by rw[e]at hr;exact hr))];have:=(Zcy.1 h.fst).2.1
  rw[this];rfl
 |succ k ih=>
  intro hk hr;have e: (J.take (k+1+1)).reverse=lg J (k+1)::(J.take (k+1)).reverse:=by rw[Va hk,Vcc,ZlC hk];rfl
  rw[e];unfold Zct;rw[if_neg (fun e=>Rch.irr hW (by rw[e]at hr;exact hr))]
  cases hs:Za2 (lg J (k+1)) with
  |false=>rfl
  |true=>
   obtain⟨i,b,c,st,j,e',ex,ey,g⟩:=h.stay_link hW.ok hk hs;rw[if_pos rfl];refine ih (by omega) (Rch.trans (b:=(lg J (k+1)).2.1) ?_ hr);rw[ex,ey];exact Rch.one (ZfB hW g)
end Q
namespace Q
open Tr Go
open Option (bind_some)
variable {n:Zas}{q:Za4}{m:Nat}
theorem Zem{s t:Int}{i b c:Nat}(h1:i<n.2.2.1.length)(h2:b<c)(h3:c< (Zai n i).length)(h4: (Zac n i b).1=s)(h5:t<=(Zac n i b).2.2.1):ZbB n i b c false∈Zcd n s t:=by unfold Zcd;refine Vn.2 ⟨i,Vva.2 h1, ?_⟩;unfold Zd3;refine Vn.2 ⟨b,Vva.2 (by omega), ?_⟩;unfold ZgN;rw[if_pos ⟨h4,h5⟩];unfold Zfr;refine Vqa.2 ⟨c - (b+1),Vva.2 (by omega), ?_⟩;rw[show b+1+(c - (b+1))=c by omega]
theorem ZhC{s t:Int}{p:Zb2}(h1:p∈n.2.2.2.2.1)(h2:p.1=s):Zb8 s t p∈ZbT n s t:=by unfold ZbT;exact Vqa.2 ⟨p,Veb.2 ⟨h1,by rw[decide_eq_true h2]⟩,rfl⟩
theorem ZeF{J:List Zar}{k:Nat}(h:k<J.length):J.take (k+1)=J.take k++[lg J k]:=by rw[Va h,ZlC h]
theorem Zkg.mono(hN:Zcq n){J:List Zar}(h:Zkg n q J)(hm:Zal J<=1000): ∀d k,k+d=J.length->Zfv (J.take k)<=Zfv J:=by
 intro d
 induction d with
 |zero=>intro k hk;rw[show k=J.length by omega,Vg];exact Vua _
 |succ d ih=>
  intro k hk;exact Int.le_trans (h.walks hN hm k (by omega)).2.1 (ih (k+1) (by omega))
theorem Zkg.ext(hW:Whole n){J:List Zar}(h:Zkg n q J){k:Nat}(h0:0<k)(hk:k<J.length)(h2:2<=k\/(lg J 0).1=true): (J.take (k+1),())∈Zns n q (J.take k):=by
 have hN:=hW.ok;have hl: (J.take k).length=k:=by rw[Vv];omega
 obtain⟨k',rfl⟩: ∃k',k=k' +1:=⟨k - 1,by omega⟩;have hlast:lg (J.take (k' +1)) ((J.take (k' +1)).length - 1)=lg J k' :=by rw[hl,Vib,ZhW (by omega)]
 have hf:=(h.fol k' hk).1;have hT2:=h.take (k:=k' +1+1) (by omega) (by omega) (.inl (by omega));have hl2: (J.take (k' +1+1)).length=k' +1+1:=by rw[Vv];omega
 have hA:lg J (k' +1)∈ZbY n (lg J k')->(J.take (k' +1+1),())∈Zns n q (J.take (k' +1)):=fun hin=>by unfold Zns;rw[hlast];refine Vn.2 ⟨_,hin,Vx _ ?_⟩;unfold ZpX;rw[<-ZeF hk,hl];have a1:=hT2.at0 (i:=k') (by omega);have a2:=hT2.at1 (i:=k' +1) (by omega);rw[if_pos ⟨by rw[Vib];exact a1,by omega⟩];exact Vf.2 rfl
 cases hx: (lg J (k' +1)).1 with
 |false=>
  obtain⟨p,hp,a,ex,b1,b2⟩:=ZbJ hN (h.leg (k' +1) hk) hx;refine hA ?_
  cases hy: (lg J k').1 with
  |false=>
   obtain⟨p',_,a',ey,_⟩:=ZbJ hN (h.leg k' (by omega)) hy;rw[ex,ey]at hf
   exact(Zl0 _ _ _ _ _ _ _ _ _ hf).elim
  |true=>
   obtain⟨i,b,c,st,ey,_⟩:=Zcu (h.leg k' (by omega)) hy;have hpp:=hN.path p hp;rw[ex,ey]at hf ⊢;obtain⟨f1,f2⟩:=Zrr.1 hf;unfold ZbY;refine Vaa _ ?_;rw[if_pos (show (ZbB n i b c st).1=true from rfl)];show _∈ZbT n (Zac n i c).1 (Zac n i c).2.1;have:=ZhC (s:=(Zac n i c).1) (t:=(Zac n i c).2.1) hp f1.symm;unfold Zb8 at this;rw[Zae (by omega) (by omega)]at this;rw[<-f1,f2]
   exact this
 |true=>
  obtain⟨j,d,e,st',ex,g1,g2,g3⟩:=Zcu (h.leg (k' +1) hk) hx
  have hin: ∀st'',st' =st'' ->ZbB n j d e false∈ZbY n (lg J k'):=by
   intro st'' hst;unfold ZbY;refine Vx _ ?_
   cases hy: (lg J k').1 with
   |false=>
    obtain⟨p',_,a',ey,_⟩:=ZbJ hN (h.leg k' (by omega)) hy;rw[ex,ey]at hf
    cases st' with
    |true=>exact(ZjH _ _ _ _ _ _ _ _ hf).elim
    |false=>
     obtain⟨f1,f2⟩:=Zku.1 hf;rw[ey]
     exact Zem g1 g2 g3 f1.symm f2
   |true=>
    obtain⟨i,b,c,st,ey,k1,k2,k3⟩:=Zcu (h.leg k' (by omega)) hy;rw[ex,ey]at hf;rw[ey];have hcg:=hN.change (Zac n i c).1 (hN.stop k1 k3).1 (hN.stop k1 k3).2
    cases st' with
    |true=>
     obtain⟨f1,_,f3⟩:=(Zo0 hN).1 hf
     exact Zem g1 g2 g3 f1.symm f3
    |false=>
     obtain⟨f1,f2⟩:=(Zpt hN k1 k3).1 hf;exact Zem g1 g2 g3 f1.symm (by show (Zac n i c).2.1<=_;omega)
  cases st' with
  |false=>exact hA (by rw[ex];exact hin false rfl)
  |true=>
   have hst:Za2 (lg J (k' +1))=true:=by rw[ex];rfl
   obtain⟨i,b,c,st,j',e',ey,ez,g⟩:=h.stay_link hN hk hst
   have hag:ZjA (J.take (k' +1)) (Zca (ZbB n j d e false))=false:=by
    unfold ZjA
    have:Zct (j:Int) (J.take (k' +1)).reverse=false:=by
     refine h.again hW k' (by omega) ?_;have: (lg J (k' +1)).2.1=(j:Int):=by rw[ex];rfl
     rw[ez]at this;rw[<-this,ey];exact Rch.one (ZfB hW g)
    show (Za2 (Zca (ZbB n j d e false)) &&Zct (j:Int) (J.take (k' +1)).reverse)=false;rw[this];simp
   have hd: (d:Int)=0:=by
    have h1: (lg J (k' +1)).2.2.1=(d:Int):=by rw[ex];rfl
    rw[ez]at h1;exact h1.symm
   unfold Zns;rw[hlast];refine Vn.2 ⟨_,hin true rfl,Vaa _ ?_⟩;unfold ZlZ;have hs:Zca (ZbB n j d e false)=lg J (k' +1):=by rw[ex];rfl
   rw[if_pos ⟨⟨rfl,hd,by rw[ey];rfl⟩,hag,by rw[hs];exact hf⟩,hs, <-ZeF hk];exact Vf.2 rfl
theorem Zxd(hW:Whole n)(hb:q.2.2.2.1=false)(hm:q.2.2.2.2.1<=8){out:List (List Zar×Unit)}(A:ZxA n q out){J:List Zar}(hc: (ZbA n q J).2=0): (J,())∈out:=by
 have hN:=hW.ok;rcases ((Zgb n q J).1 hc).2 with ⟨h0,he⟩ | ⟨h0,hat,hend⟩
 ·rw[Vfb h0];exact A.none he
 have h:=Zrm (by omega) hat;unfold ZtF at hend;rw[Zau (by omega),Zau (by omega),Zau (by omega),Zau (by omega)]at hend;obtain⟨_,_,e3,e4,_⟩:=hend;rw[decide_eq_false_iff_not]at e3 e4;have hr1000:Zal J<=1000:=by omega
 obtain⟨f1,f2,f3,f4,f5,f6⟩:=Zcy.1 h.fst;rw[hb]at f4 f5
 have f5' :q.2.2.1<=(lg J 0).2.2.2.2.2.2.1:=by simp only[Vw,Vra,decide_eq_false_iff_not]at f5;omega
 have hfq:Zmx q=q.2.2.1:=by unfold Zmx;rw[hb];rfl
 by_cases hone: (lg J 0).1=false/\J.length=1
 ·obtain⟨p,hp,a,ex,b1,b2⟩:=ZbJ hN (h.leg 0 (by omega)) hone.1;rw[ex,hone.2]at f4
  have ha:a=q.2.2.1:=by
   have f4' : (true&& (decide (1=1) && !decide (a=q.2.2.1)))=false:=f4;by_cases e:a=q.2.2.1
   ·exact e
   ·rw[decide_eq_false e]at f4';cases f4'
  rw[ex]at f1;have f1' :p.1=q.1:=f1;have hpp:=hN.path p hp
  have eJ:J=[lg J 0]:=by have:=ZeF (J:=J) (k:=0) (by omega);rw[show 0+1=J.length by omega,Vg]at this;exact this
  have ew:lg J 0=Zb8 q.1 q.2.2.1 p:=by rw[ex];unfold Zb8;rw[Zae (by omega) (by omega),f1',ha]
  have:=A.walk _ (ZhC (t:=q.2.2.1) hp f1') (by rw[<-ew, <-eJ];exact hc);rw[<-ew, <-eJ]at this;exact this
 obtain⟨D,d1,d2⟩:=A.done
 have hope: ∀k,0<k->k<=J.length->(2<=k\/(lg J 0).1=true)->Zla n q (J.take k):=by intro k h1 h2 h3;have hw:=h.mono hN hr1000 (J.length - k) k (by omega);have hrt:=Zkj J k;exact⟨(h.take h2 h1 h3).hope,by omega,by omega,fun e=>by rw[hb]at e;cases e⟩
 have step: ∀k d,0<k->(2<=k\/(lg J 0).1=true)->k+d=J.length->D (J.take k)->D J:=by
  intro k d
  induction d generalizing k with
  |zero=>intro _ _ hk hD;rw[show k=J.length by omega,Vg]at hD;exact hD
  |succ d ih=>
   intro h1 h3 hk hD;exact ih (k+1) (by omega) (by omega) (by omega) ((d1 _ hD (hope k h1 (by omega) h3)).2 _ (h.ext hW h1 (by omega) h3))
 have fin:D J->(J,())∈out:=fun hD=>by
  by_cases h2:2<=J.length
  ·have:=hope J.length (by omega) (Vi _) (.inl h2);rw[Vg]at this;exact(d1 J hD this).1 hc
  ·have h1: (lg J 0).1=true:=by
    cases e: (lg J 0).1 with
    |true=>rfl
    |false=>exact absurd ⟨e,by omega⟩ hone
   have:=hope J.length (by omega) (Vi _) (.inr h1);rw[Vg]at this;exact(d1 J hD this).1 hc
 cases hx: (lg J 0).1 with
 |true=>
  obtain⟨i,b,c,st,ex,g1,g2,g3⟩:=Zcu (h.leg 0 (by omega)) hx;rw[ex]at f1 f2 f5';have hst:st=false:=f2;subst hst;refine fin (step 1 (J.length - 1) (by omega) (.inr hx) (by omega) (d2 (J.take 1,()) ?_));unfold ZeD Zd6;refine Vx _ (Vqa.2 ⟨ZbB n i b c false,Zem g1 g2 g3 f1 (by rw[hfq];exact f5'), ?_⟩);have:=ZeF (J:=J) (k:=0) (by omega);rw[this,ex]
  rfl
 |false=>
  have h2:2<=J.length:=by
   by_cases e:J.length=1
   ·exact absurd ⟨hx,e⟩ hone
   ·omega
  obtain⟨p,hp,a,ex,b1,b2⟩:=ZbJ hN (h.leg 0 (by omega)) hx;have hpp:=hN.path p hp;have hf:=(h.fol 0 (by omega)).1
  cases hy: (lg J 1).1 with
  |false=>
   obtain⟨p',_,a',ey,_⟩:=ZbJ hN (h.leg 1 (by omega)) hy;rw[show (0:Nat)+1=1 from rfl,ex,ey]at hf
   exact(Zl0 _ _ _ _ _ _ _ _ _ hf).elim
  |true=>
   obtain⟨i,b,c,st,ey,g1,g2,g3⟩:=Zcu (h.leg 1 (by omega)) hy;rw[show (0:Nat)+1=1 from rfl,ex,ey]at hf
   cases st with
   |true=>exact(ZjH _ _ _ _ _ _ _ _ hf).elim
   |false=>
    obtain⟨h3,h4⟩:=Zku.1 hf;rw[ex]at f1 f5' f3;rw[ey]at f3;have f1' :p.1=q.1:=f1;have f5'' :q.2.2.1<=a:=f5'
    have hdep: (Zac n i b).2.2.1=a+p.2.2.1:=by have: (true&& (decide (1<J.length) && (true&& !decide ((Zac n i b).2.2.1=a+p.2.2.1))))=false:=f3;rw[decide_eq_true (show 1<J.length by omega)]at this;simpa using this
    refine fin (step 2 (J.length - 2) (by omega) (.inl (by omega)) (by omega) (d2 (J.take 2,()) ?_));unfold ZeD;refine Vaa _ (Vn.2 ⟨Zb8 q.1 0 p,ZhC hp f1', ?_⟩);unfold ZcM;refine Vqa.2 ⟨ZbB n i b c false,Zem g1 g2 g3 h3.symm (by rw[hfq];omega), ?_⟩;have t1:=ZeF (J:=J) (k:=1) (by omega);have t0:=ZeF (J:=J) (k:=0) (by omega);rw[show (2:Nat)=1+1 from rfl,t1,show (1:Nat)=0+1 from rfl,t0,ex,ey]
    have:ZjE (Zb8 q.1 0 p) (ZbB n i b c false)=ZdZ p.1 p.2.1 a (a+p.2.2.1):=by have e1: (ZbB n i b c false).2.2.2.2.2.2.1=(Zac n i b).2.2.1:=rfl;have e2: (Zb8 q.1 0 p).2.2.2.2.2.2.2.1=Vc .i64 (0+p.2.2.1):=rfl;unfold ZjE;rw[e1,e2,hdep,Zae (x:=0+p.2.2.1) (by omega) (by omega),Zae (by omega) (by omega),show a+p.2.2.1 - (0+p.2.2.1)=a by omega];unfold Zb8 ZdZ;rw[f1']
    rw[this];rfl
end Q
namespace Q
open Tr Go
open Option (bind_some)
variable {n:Zas}
def Zd2:Zju:=([(102:UInt8),(114:UInt8),(101:UInt8),(101:UInt8)],(0:Int),(1:Int),(16:Int),(0:Int),(255:Int),())
def ZhO:Zfl:=([Zd2],(0:Int),(0:Int),(0:Int),())
def Zny(r:Zdu):Prop:= ∃Z M:Nat,r.2.2.1=(Z:Int)/\Z<65536/\r.2.2.2.1=(M:Int)/\M<256
theorem ZwU(h:Zcr n){x:Zar}(hx:ZaN n x=true):Zny (Zfo n x):=by
 refine⟨ZkS n x,2 ^ (Zcl n x).2.1.toNat,rfl,Zor h hx,rfl, ?_⟩
 have hm: (Zcl n x).2.1<=7:=by
  unfold ZaN at hx;simp only[Vh]at hx;have hm:=Zgq hx.1;have h1:=h.route _ hm;have hl: (rn n x.2.1).2.2.2.2.1.toNat<n.2.1.length:=by omega
  unfold Zcl;rw[Zak hl];exact(h.mode _ (Vj hl)).2
 exact Nat.lt_of_le_of_lt (Vac (by omega) (show (Zcl n x).2.1.toNat<=7 by omega)) (by decide)
theorem ZxQ(h:Zcr n){x:Zar}(hx:ZaN n x=true){l:List Zdu}(hl: ∀r∈l,Zny r): ∀r∈Zc0 n x l,Zny r:=by
 intro r hr;unfold Zc0 at hr;split at hr
 ·next v hv=>
  unfold ZhQ at hr;rcases Vmb hr with hr|rfl
  ·exact hl r hr
  ·obtain⟨Z,M,h1,h2,h3,h4⟩:=hl v (Voa hv);obtain⟨Z',M',g1,g2,g3,g4⟩:=ZwU h hx;have g1' : ((ZkS n x:Nat):Int)=(Z' :Int):=g1;have g3' : ((2 ^ (Zcl n x).2.1.toNat:Nat):Int)=(M' :Int):=g3;refine⟨Z ||| Z',M ||| M', ?_,Vec (n:=16) h2 g2, ?_,Vec (n:=8) h4 g4⟩
   ·show qor .i64 v.2.2.1 ((ZkS n x:Nat):Int)=_;rw[h1,g1',Zmj h2 g2]
   ·show qor .i64 v.2.2.2.1 ((2 ^ (Zcl n x).2.1.toNat:Nat):Int)=_;rw[h3,g3',Zmj (by omega) (by omega)]
 ·exact hl r hr
theorem Zxx(h:Zcr n): ∀ (L:List Zar) (w:Bool) (out:List Zdu),(∀r∈out,Zny r)->(∀r∈(Zbs n L w out).1,Zny r)/\(Zbs n L w out).1.length<=out.length+Zal L
 | [],_,out,ho=>⟨ho,Nat.le_add_right _ _⟩
 |x::L,w,out,ho=>by
  have hn:Zal (x::L)=Zal [x]+Zal L:=Zbf [x] L
  have h1:Zal [x]=if Zet x then 1 else 0:=by
   unfold Zal
   cases hc:Zet x<;>simp [hc]
  rw[ZcX,hn,h1];by_cases c1:x.1=true/\ZaN n x=false
  ·rw[if_pos c1];exact⟨fun r hr=>absurd hr (by simp),Vba _⟩
  rw[if_neg c1];by_cases c2:Za2 x=true/\(x.1=false\/w=false)
  ·rw[if_pos c2];exact⟨fun r hr=>absurd hr (by simp),Vba _⟩
  rw[if_neg c2];by_cases c3:x.1=true
  ·rw[if_pos c3]
   have hx:ZaN n x=true:=by
    cases e:ZaN n x with
    |true=>rfl
    |false=>exact absurd ⟨c3,e⟩ c1
   cases hs:Za2 x with
   |true=>
    rw[if_pos rfl];obtain⟨a,b⟩:=Zxx h L true (Zc0 n x out) (ZxQ h hx ho);rw[Zgy]at b
    exact⟨a,by omega⟩
   |false=>
    rw[if_neg (by simp)]
    obtain⟨a,b⟩:=Zxx h L true (out++[Zfo n x]) (fun r hr=>by
     rcases Vl.1 hr with hr|hr
     ·exact ho r hr
     ·rw[Vf.1 hr];exact ZwU h hx)
    refine⟨a, ?_⟩;have:Zet x=true:=by unfold Zet;rw[c3,hs];rfl
    rw[this,if_pos rfl];rw[Ve,Vk]at b;omega
  ·rw[if_neg c3];obtain⟨a,b⟩:=Zxx h L false out ho;exact⟨a,by omega⟩
theorem Zuw: ((Vo 256).all fun M=>decide (Tr.qandNot .i64 (M:Int) 255=0))=true:=by kernel_rfl
theorem Zsb(M:Nat)(h:M<256):Tr.qandNot .i64 (M:Int) 255=0:=of_decide_eq_true (List.all_eq_true.1 Zuw M (Vva.2 h))
theorem Zwp{Z:Nat}(hZ:Z<65536): ∃r:Int,F80 (Z:Int)=some r/\r<=16:=by
 unfold F80
 suffices h: ∃r:Int,run _ ((0:Int),(0:Int))=some r/\r<=16 by obtain⟨r,h,h2⟩:=h;exact⟨r,by rw[h];rfl,h2⟩
 refine ZaL 62 (fun r:Int=>r<=16) (fun i (s:Int×Int)=>s.2=(i:Int)/\s.1<=(i:Int)/\s.1<=16/\0<=s.1) ?_ ?_ _ ⟨rfl,by simp,by simp,by simp⟩
 ·rintro i ⟨a,b⟩ hi ⟨hb,h1,h2,h3⟩;left;simp only at hb h1 h2 h3;subst hb;have w2:Vc .i64 ((i:Int)+1)=((i+1:Nat):Int):=by rw[Zae (by omega) (by omega)];omega
  have w1:Vc .i64 (a+1)=a+1:=Zae (by omega) (by omega)
  have hs: ∃y,Zqt .i64 (Z:Int) (i:Int)=some y/\(16<=i->y=0):=by
   unfold Zqt;rw[if_neg (by omega)];refine⟨_,rfl,fun h16=> ?_⟩;have e1:min (Vkc (i:Int)) IntKind.i64.bits=i:=by rw[Vq];show min i 64=i;omega
   have hlt:Z<2 ^ i:=Nat.lt_of_lt_of_le (show Z<2 ^ 16 by omega) (Vac (by omega) h16)
   have e2:Int.fdiv (Z:Int) (2 ^ i)=0:=by
    have e: ((2:Int) ^ i)=((2 ^ i:Nat):Int):=by simp
    rw[e,Int.fdiv_eq_ediv_of_nonneg _ (by omega)];exact Int.ediv_eq_zero_of_lt (by omega) (by omega)
   rw[e1,e2]
  obtain⟨y,hy,hy0⟩:=hs;simp only[decide_eq_true (show (i:Int)<62 by omega),cond_true,hy,bind_some,w2,w1];by_cases h16:16<=i
  ·rw[hy0 h16];have:decide (ZnO .i64 0 1=1)=false:=by decide
   rw[this];exact⟨_,rfl,rfl,by show a<=_;omega,h2,h3⟩
  ·cases decide (ZnO .i64 y 1=1) with
   |true=>exact⟨_,rfl,rfl,by show a+1<=_;omega,by show a+1<=16;omega,by show 0<=a+1;omega⟩
   |false=>exact⟨_,rfl,rfl,by show a<=_;omega,h2,h3⟩
 ·rintro ⟨a,b⟩ ⟨hb,h1,h2,h3⟩;simp only at hb;subst hb;exact⟨_,rfl,h2⟩
theorem ZqV{l:List Zdu}{i:Nat}(hi:i<l.length)(hl:l.length<=100)(hg:Zny l[i]):F74 Zd2 l (i:Int) (i:Int)=some true:=by
 obtain⟨Z,M,h1,h2,h3,h4⟩:=hg;unfold F74
 have hrun:run (fun s0:Int×Int×Int=>
 bif decide (s0.2.2<=(i:Int)) then
 Vz (idx l s0.2.2) fun x1=>
 Vz (idx l s0.2.2) fun x2=>
 some (.inl (qor .i64 s0.1 x1.2.2.1,qor .i64 s0.2.1 x2.2.2.2.1,Vc .i64 (s0.2.2+(1:Int))))
 else some (.inr (s0.1,s0.2.1))) ((0:Int),(0:Int),(i:Int))=some ((Z:Int),(M:Int)):=by
  refine(ZcZ (s' :=((Z:Int),(M:Int),((i+1:Nat):Int))) ?_).trans (ZbE ?_)
  ·have w:Vc .i64 ((i:Int)+1)=((i+1:Nat):Int):=by rw[Zae (by omega) (by omega)];omega
   have e1:qor .i64 0 (Z:Int)=(Z:Int):=by have:=Zmj (a:=0) (b:=Z) (by omega) h2;rw[Nat.zero_or]at this;exact this
   have e2:qor .i64 0 (M:Int)=(M:Int):=by have:=Zmj (a:=0) (b:=M) (by omega) (by omega);rw[Nat.zero_or]at this;exact this
   simp only[decide_eq_true (Vua (i:Int)),cond_true,Zaf hi,bind_some,h1,h3,e1,e2,w]
  ·rw[decide_eq_false (show¬ ((i+1:Nat):Int)<=(i:Int) by omega)];rfl
 obtain⟨b,b1,b2⟩:=Zwp h2;rw[hrun];have w:Vc .i64 (Vc .i64 ((i:Int) - (i:Int))+1)=1:=by rw[Int.sub_self];decide
 have p1:Zd2.2.2.1=1:=rfl;have p2:Zd2.2.2.2.1=16:=rfl;have p3:Zd2.2.2.2.2.2.1=255:=rfl
 have hw:F81 (l[i]).1 (l[i]).1 Zd2.2.2.2.2.1=some true:=by unfold F81;rw[decide_eq_true (Vua _)];rfl
 simp only[bind_some,w,p1,p2,p3,b1,Zaf hi,hw,Zsb M h4];rw[decide_eq_true (Vua 1),decide_eq_true b2];rfl
def OkT(m lo:Nat)(T:List ZdN):Prop:=ZgH m T/\ ∀j r,lo<=j->T[j]? =some r->r.1=true
theorem OkT.put{m lo:Nat}{T:List ZdN}(h:OkT m lo T){i:Nat}{r:ZdN}(hr:r.2.2.1.length+i<=m)(hk:r.1=true):OkT m lo (T.set i r):=by
 refine⟨h.1.put hr,fun j s hj hs=> ?_⟩;by_cases hij:i=j
 ·subst hij;by_cases hi:i<T.length
  ·rw[Vta hi]at hs;obtain rfl:=Option.some.inj hs;exact hk
  ·rw[Vub (by rw[Vsa];omega)]at hs;cases hs
 ·rw[Vzb hij]at hs;exact h.2 j s hj hs
theorem OkT.down{m i:Nat}{T:List ZdN}(h:OkT m (i+1) T)(hi: ∀r,T[i]? =some r->r.1=true):OkT m i T:=
 ⟨h.1,fun j r hj hr=>by
  by_cases e:j=i
  ·subst e;exact hi r hr
  ·exact h.2 j r (by omega) hr⟩
theorem ZqG(l:List Zdu)(hl:l.length<=8)(hg: ∀r∈l,Zny r): ∃R,F76 ZhO l=some R/\R.2.2=true:=by
 unfold F76;have w0:Vc .i64 ((l.length:Int)+1)=((l.length+1:Nat):Int):=by rw[Zae (by omega) (by omega)];omega
 have hgd:Zam (decide ((0:Int)<=((l.length+1:Nat):Int)/\((l.length+1:Nat):Int)<=((l.length+1:Nat):Int)/\((l.length+1:Nat):Int)<=(Zan:Int)))=some ():=by
  have hm: (Zan:Int)=549755813888:=by simp [Zan]
  rw[decide_eq_true (by rw[hm];omega)];rfl
 have hrep: ∀o:List ZdN,o=Vt (l.length+1) (false,0,[],())->inb (l.length:Int) o.length=some l.length/\o[l.length]? =some (false,0,[],()):=by rintro o rfl;exact⟨ZaE (by simp),by rw[Vsb,if_pos (by omega)]⟩
 obtain⟨r1,r2⟩:=hrep _ rfl;rw[w0];erw[hgd];simp only[bind_some,Vq];erw[r1];simp only[bind_some];erw[r2];simp only[bind_some]
 have key: ∀ (o:Option (List ZdN)) (k:List ZdN->Option (Int×List TkT×Bool)),(∃T,o=some T/\OkT l.length 0 T)->(∀T,OkT l.length 0 T-> ∃R,k T=some R/\R.2.2=true)-> ∃R,Vz o k=some R/\R.2.2=true:=by rintro o k ⟨T,rfl,h⟩ hk;exact hk T h
 refine key _ _ (ZaL l.length _ (fun c (s:List ZdN×Int)=> ∃T,s=(T,(l.length:Int) - 1 - (c:Int))/\OkT l.length (l.length - c) T) ?_ ?_ _ ?_) ?_
 ·rintro c _ hc ⟨T,rfl,hT⟩;left;obtain⟨i,hi⟩: ∃i:Nat,(l.length:Int) - 1 - (c:Int)=(i:Int):=⟨l.length - 1 - c,by omega⟩;have hil:i<l.length:=by omega
  rw[show l.length - c=i+1 by omega]at hT;rw[show l.length - (c+1)=i by omega];rw[hi];rw[decide_eq_true (show (0:Int)<=(i:Int) by omega)];simp only[cond_true];refine ZfL (fun T' =>OkT l.length i T') ?_ ?_
  ·refine ZaL (l.length - i) _ (fun m (s:List ZdN×Int)=> ∃T,s=(T,((i+m:Nat):Int))/\OkT l.length (i+1) T/\(0<m-> ∀r,T[i]? =some r->r.1=true)) ?_ ?_ _ ⟨T,rfl,hT,fun e=>absurd e (Vlc 0)⟩
   ·rintro m _ hm ⟨T,rfl,hT,hok⟩;left;have hk:i+m<l.length:=by omega
    have e1:Vc .i64 (((i+m:Nat):Int)+1)=((i+m+1:Nat):Int):=by rw[Zae (by omega) (by omega)];omega
    have hTl:=hT.1.1;have hbk:inb ((i+m+1:Nat):Int) T.length=some (i+m+1):=ZaE (by omega);obtain⟨r,hr,hcr⟩:=hT.1.get (show i+m+1<=l.length by omega);have hrt:=hT.2 _ r (show i+1<=i+m+1 by omega) hr;simp only[Zat hk,cond_true,e1,hbk,hr,bind_some,hrt,Vm,cond_false];refine ZfL (fun T' =>OkT l.length (i+1) T' /\ ∀r,T'[i]? =some r->r.1=true) ?_ ?_
    ·refine ZaL 1 _ (fun p (s:List ZdN×Int)=> ∃T,s=(T,(p:Int))/\OkT l.length (i+1) T/\(0<m+p-> ∀r,T[i]? =some r->r.1=true)) ?_ ?_ _ ⟨T,rfl,hT,hok⟩
     ·rintro p _ hp ⟨T,rfl,hT,hok⟩;left;have hp0:p=0:=by omega
      subst hp0;have hTl:=hT.1.1;have hbk:inb ((i+m+1:Nat):Int) T.length=some (i+m+1):=ZaE (by omega);have hbi:inb (i:Int) T.length=some i:=ZaE (by omega);obtain⟨rk,hrk,hck⟩:=hT.1.get (show i+m+1<=l.length by omega);obtain⟨ri,hri,hci⟩:=hT.1.get (show i<=l.length by omega)
      obtain⟨cv,hcv,hc1⟩: ∃cv,F74 Zd2 l (i:Int) ((i+m:Nat):Int)=some cv/\(m=0->cv=true):=by
       by_cases hm0:m=0
       ·subst hm0;exact⟨true,ZqV hil (by omega) (hg _ (Vj hil)),fun _=>rfl⟩
       ·obtain⟨cv,hcv⟩:=ZiM Zd2 (show i<=i+m by omega) hk (by omega);exact⟨cv,hcv,fun e=>absurd e hm0⟩
      obtain⟨pr,hpr⟩:=Ziy ZhO Zd2 hil (by omega);have hdl:decide (((0:Nat):Int)< (ZhO.1.length:Int))=true:=by decide
      have hix:idx ZhO.1 ((0:Nat):Int)=some Zd2:=rfl;have hw:Vc .i64 (((0:Nat):Int)+1)=((0+1:Nat):Int):=by decide
      simp only[hdl,cond_true,hix,bind_some,hcv,hpr,hbk,hbi,hrk,hri,hw]
      cases cv with
      |false=>
       refine⟨_,rfl,T,rfl,hT,fun _=>hok ?_⟩;by_cases hm0:m=0
       ·cases hc1 hm0
       ·omega
      |true=>
       simp only[Vm,cond_false];refine ZfL (fun b=>b=true->ri.1=true) ?_ fun b hb=> ?_
       ·cases hri1:ri.1 with
        |false=>exact⟨_,rfl,fun e=>by cases e⟩
        |true=>
         simp only[cond_true]
         cases decide (ri.2.1<Vc .i64 (pr+rk.2.1)) with
         |true=>exact⟨_,rfl,fun _=>trivial⟩
         |false=>
          simp only[cond_false]
          cases decide (Vc .i64 (pr+rk.2.1)=ri.2.1)<;>exact⟨_,rfl,fun _=>trivial⟩
       ·cases b with
        |true=>
         refine⟨_,rfl,T,rfl,hT,fun _ r hr=> ?_⟩;rw[hri]at hr;rw[<-Option.some.inj hr]
         exact hb rfl
        |false=>
         simp only[cond_false]
         have hgd:Zam (decide (Vd [(((0:Nat):Int),(i:Int),((i+m:Nat):Int),pr,())]+Vd rk.2.2.1<=Zan))=some ():=by rw[decide_eq_true (by simp only[Vfa,Vma,Zan];omega)];rfl
         rw[hgd];simp only[bind_some];refine⟨_,rfl,_,rfl,hT.put (by simp only[Ve,Vfa,Vma];omega) rfl,fun _ r hr=> ?_⟩;rw[Vta (by omega)]at hr;rw[<-Option.some.inj hr]
     ·rintro _ ⟨T,rfl,hT,hok⟩;have hdl:decide (((1:Nat):Int)< (ZhO.1.length:Int))=false:=by decide
      simp only[hdl,cond_false];exact⟨_,rfl,hT,hok (by omega)⟩
    ·rintro T' ⟨hT',hok'⟩;exact⟨_,rfl,T',rfl,hT',fun _=>hok'⟩
   ·rintro _ ⟨T,rfl,hT,hok⟩;rw[show i+(l.length - i)=l.length by omega];simp only[Zaw,cond_false];exact⟨_,rfl,hT.down (hok (by omega))⟩
  ·intro T' hT';have e1:Vc .i64 ((i:Int) - 1)=(l.length:Int) - 1 - ((c+1:Nat):Int):=by rw[Zae (by omega) (by omega)];omega
   rw[e1];exact⟨_,rfl,T',rfl,hT'⟩
 ·rintro _ ⟨T,rfl,hT⟩;rw[decide_eq_false (show¬ (0:Int)<=(l.length:Int) - 1 - (l.length:Int) by omega)];rw[Nat.sub_self]at hT;exact⟨_,rfl,hT⟩
 ·refine⟨(Vt (l.length+1) ((false,0,[],()):ZdN)).set l.length (true,0,[],()), ?_,ZgH.put ⟨by simp,fun j r hr=> ?_⟩ (by simp),fun j r hj hr=> ?_⟩
  ·rw[Zae (by omega) (by omega)];simp only[Int.natCast_zero,Int.sub_zero]
  ·rw[Vsb]at hr;split at hr
   ·obtain rfl:=Option.some.inj hr;simp;omega
   ·cases hr
  ·have hjl:j<l.length+1:=by have:=(List.getElem?_eq_some_iff.1 hr).1;simp at this;omega
   have:j=l.length:=by omega
   subst this;rw[Vta (by simp)]at hr;rw[<-Option.some.inj hr]
 ·intro T hT;obtain⟨r,hr,_⟩:=hT.1.get (Vba _);have hb:inb (0:Int) T.length=some 0:=ZaE (i:=0) (by rw[hT.1.1];omega);have hrt:=hT.2 0 r (Vi _) hr;simp only[hb,bind_some,hr];exact⟨_,rfl,hrt⟩
end Q
namespace Q
open Tr Go
open Option (bind_some)
variable {n:Zas}{q:Za4}
def frN(n:Zas):Zas:=(n.1,n.2.1,n.2.2.1,n.2.2.2.1,n.2.2.2.2.1,ZhO,())
def qS(q:Za4)(s:Int):Za4:=(q.1,s,q.2.2.1,q.2.2.2.1,q.2.2.2.2.1,86400,q.2.2.2.2.2.2)
theorem ZtY(n:Zas):F110 n=some (frN n):=rfl
open Classical in
theorem Zo7: (ZhV ZhO).2=0:=by
 have h1:ZqT ZhO=true:=by decide
 have hv:Zbb Zd2.1=true:=by decide
 have hn:ZiV Zd2=true:=by decide
 have hz:Zhd ZhO.1 0=0:=Zcm.2 ⟨by show¬Zbb Zd2.1=false;rw[hv];simp,by rintro ⟨j,hj,_⟩;omega,by show¬ZiV Zd2=false;rw[hn];simp⟩;unfold ZhV;rw[if_neg (by rw[h1];simp),if_neg (by decide)]
 have:Zay ZhO.1.length (Zhd ZhO.1)=none:=Zaz.2 fun i hi=>by
  have hi' :i<1:=hi;have:i=0:=by omega
  rw[this];exact hz
 unfold pick;rw[this]
theorem ZgY(h:Whole n):Whole (frN n):=⟨h.s,h.t,h.u,h.f,h.v,h.g,h.q,h.w,Zo7⟩
theorem ZvA(h:Fit n):Fit (frN n):=⟨h.stops,h.routes,h.runs,h.calls,h.paths,fun x hx=>by rw[Vf.1 hx];decide⟩
theorem ZwB(h:Tin n):Tin (frN n):=⟨h.stops,h.runs,h.paths,h.calls⟩
theorem Der.toFr{s0 t0 w:Int}{f:Zmt}{js:List Zar}(d:Der n s0 t0 w f js):Der (frN n) s0 t0 w f js:=by
 induction d with
 |init=>exact .init
 |here=>exact .here
 |rdyW h1 h2 h3=>exact .rdyW h1 h2 h3
 |arrW h1 h2 h3=>exact .arrW h1 h2 h3
 |board d h1 h2 h3 h4 h5 h6 ih=>exact .board ih h1 h2 h3 h4 h5 h6
 |on d h1 h2 ih=>exact .on ih h1 h2
 |stay d h1 h2 h3 ih=>exact .stay ih h1 h2 h3
 |link d h1 h2 h3 h4 ih=>exact .link ih h1 h2 h3 h4
 |linked d h1 ih=>exact .linked ih h1
 |ride d h1 ih=>exact .ride ih h1
 |change d ih=>exact .change ih
 |rdyV d h1 h2 h3 ih=>exact .rdyV ih h1 h2 h3
 |arrR d ih=>exact .arrR ih
 |arrV d h1 h2 h3 ih=>exact .arrV ih h1 h2 h3
theorem Der.ofFr{s0 t0 w:Int}{f:Zmt}{js:List Zar}(d:Der (frN n) s0 t0 w f js):Der n s0 t0 w f js:=by
 induction d with
 |init=>exact .init
 |here=>exact .here
 |rdyW h1 h2 h3=>exact .rdyW h1 h2 h3
 |arrW h1 h2 h3=>exact .arrW h1 h2 h3
 |board d h1 h2 h3 h4 h5 h6 ih=>exact .board ih h1 h2 h3 h4 h5 h6
 |on d h1 h2 ih=>exact .on ih h1 h2
 |stay d h1 h2 h3 ih=>exact .stay ih h1 h2 h3
 |link d h1 h2 h3 h4 ih=>exact .link ih h1 h2 h3 h4
 |linked d h1 ih=>exact .linked ih h1
 |ride d h1 ih=>exact .ride ih h1
 |change d ih=>exact .change ih
 |rdyV d h1 h2 h3 ih=>exact .rdyV ih h1 h2 h3
 |arrR d ih=>exact .arrR ih
 |arrV d h1 h2 h3 ih=>exact .arrV ih h1 h2 h3
def Zs8(n:Zas)(q:Za4):Int:=bif q.2.2.2.2.2.2.2.2.2.1 then(Zci (ZaQ n q) q.1).2.2.2.1 else 0
theorem Zr8(h:Zcr n){L:List Zar}(hg: (Zbs (frN n) L false []).2=0)(hr:Zal L<=8):ZsG (frN n) L=0:=by have hS:Zcr (frN n):=⟨h.stops,h.runs,h.links,h.zone,h.mode,h.route,h.many,h.call,h.time,h.base,Zo7⟩;obtain⟨g1,g2⟩:=Zxx hS L false [] (fun r hr=>absurd hr (by simp));rw[Vma,Vab]at g2;obtain⟨R,r1,r2⟩:=ZqG _ (by omega) g1;unfold ZsG ZrF;rw[decide_eq_true hg,decide_eq_false (by omega)];have: (frN n).2.2.2.2.2.1=ZhO:=rfl;rw[this,r1];simp only[Vm,cond_false,r2,cond_true]
structure ZjN (n:Zas) (q:Za4):Prop where
 tiny:ZwD n
 fit:Fit n
 few:Few n
 que:qB n.1.length q=true
 fwd:q.2.2.2.1=false
 three:q.2.2.2.2.1<=3
theorem ZjN.qS(C:ZjN n q){s:Int}(hs:0<=s/\s< (n.1.length:Int)):qB (frN n).1.length (qS q s)=true:=by have hq:=C.que;unfold qB at hq ⊢;simp only[Vh,decide_eq_true_eq,Zeb]at hq ⊢;exact⟨hq.1,hs,hq.2.2.1,hq.2.2.2.1,(show (0:Int)<=86400/\(86400:Int)<=86400 by omega),hq.2.2.2.2.2.1,hq.2.2.2.2.2.2⟩
theorem ZjN.possible(C:ZjN n q){s:Int}(hs:0<=s/\s< (n.1.length:Int)): ∃out,F108 n q s=some out/\ZxA (frN n) (Q.qS q s) out:=by have hq:=C.que;unfold qB at hq;simp only[Vh,decide_eq_true_eq]at hq;obtain⟨m,hm⟩: ∃m:Nat,q.2.2.2.2.1=(m:Int):=⟨q.2.2.2.2.1.toNat,by omega⟩;have h3:=C.three;have hT:Tin n:=⟨C.tiny.stops,C.tiny.runs,C.tiny.paths,fun i hi=>by rw[Zen hi];exact C.tiny.calls _ (Vj hi)⟩;obtain⟨out,o1,o2⟩:=Zqo (n:=frN n) (q:=Q.qS q s) (ZvA C.fit) (ZgY C.tiny.whole) (ZwB hT) (show ZhO.1.length<=4096 by decide) (C.qS hs) C.fwd hm (by omega);refine⟨out, ?_,o2⟩;unfold F108;rw[ZtY];simp only[bind_some];have e:F83 (frN n) (q.1,s,q.2.2.1,q.2.2.2.1,q.2.2.2.2.1,(86400:Int),q.2.2.2.2.2.2)=some out:=o1;rw[e];rfl
theorem ZjN.der(C:ZjN n q){s:Int}{L:List Zar}(h: (ZbA (frN n) (Q.qS q s) L).2=0): (Zal L:Int)<=q.2.2.2.2.1/\ ∃js,Der (ZaQ n q) q.1 q.2.2.1 (Zs8 n q) (.arr (Zal L) s (Zbk q L)) js:=by
 have hq:=C.que;unfold qB at hq;simp only[Vh,decide_eq_true_eq,Zeb]at hq;have hN:Zcq (ZaQ (frN n) (Q.qS q s)):=(ZgD _ (show (frN n).2.2.2.2.1.length<=4096 from C.fit.paths) (ZgY C.tiny.whole)).ok;rcases (Zgb (frN n) (Q.qS q s) L).1 h with ⟨_,⟨h0,he⟩ | ⟨h0,hat,hend⟩⟩
 ·rw[Vfb h0];have he' :q.1=s:=he;refine⟨by show (0:Int)<=_;omega,[], ?_⟩;have:Zbk q []=q.2.2.1:=rfl;rw[this, <-he'];exact .here
 ·obtain⟨js,d⟩:=ZwN (n:=ZaQ (frN n) (Q.qS q s)) (q:=Q.qS q s) hN hq.1 hq.2.2.1 C.fwd (L:=L) (by omega) (fun i hi=>ZoQ.2 (hat i hi));unfold ZtF at hend;rw[Zau (by omega),Zau (by omega),Zau (by omega)]at hend;obtain⟨e1,_,e2,_⟩:=hend
  have e1' : (lg L (L.length - 1)).2.2.2.2.2.1=s:=by
   have e1: (!decide ((lg L (L.length - 1)).2.2.2.2.2.1=s))=false:=e1;by_cases e: (lg L (L.length - 1)).2.2.2.2.2.1=s
   ·exact e
   ·rw[decide_eq_false e]at e1;cases e1
  have e2' : (Zal L:Int)<=q.2.2.2.2.1:=by rw[decide_eq_false_iff_not]at e2;have: ¬q.2.2.2.2.1< (Zal L:Int):=e2;omega
  refine⟨e2',js, ?_⟩;rw[e1']at d;unfold Zbk;rw[if_neg h0];exact Der.ofFr d
theorem ZjN.member(C:ZjN n q){s:Int}(hs:0<=s/\s< (n.1.length:Int)){k:Nat}{t:Int}{js:List Zar}(d:Der (ZaQ n q) q.1 q.2.2.1 (Zs8 n q) (.arr k s t) js)(hk: (k:Int)<=q.2.2.2.2.1): (ZbA (frN n) (Q.qS q s) (ZjJ js)).2=0:=by
 have hq:=C.que;unfold qB at hq;simp only[Vh,decide_eq_true_eq,Zeb]at hq;have hW' :=ZgY C.tiny.whole;have hN:Zcq (ZaQ (frN n) (Q.qS q s)):=(ZgD _ (show (frN n).2.2.2.2.1.length<=4096 from C.fit.paths) hW').ok;have d' :Der (ZaQ (frN n) (Q.qS q s)) q.1 q.2.2.1 (Zs8 n q) (.arr k s t) js:=d.toFr;have hck:ZkJ (frN n) (Q.qS q s)=0:=ZfE.2 ⟨hW',C.qS hs⟩;have hrd:=d.rides;simp only at hrd;have hrf:Zal (ZjJ js)=k:=by rw[Zj3,hrd]
 have h3:=C.three;obtain⟨l1,l2⟩:=Zt0 (n:=ZaQ (frN n) (Q.qS q s)) (q:=Q.qS q s) hN hq.1 hq.2.2.1 d';have hat:=Zv4 (n:=ZaQ (frN n) (Q.qS q s)) (q:=Q.qS q s) hN hq.1 hq.2.2.1 C.fwd l1 l2;have hat' : ∀i,i< (ZjJ js).length->atE (frN n) (Q.qS q s) (ZjJ js) i=0:=fun i hi=>ZoQ.1 (hat i hi);refine(Zgb (frN n) (Q.qS q s) (ZjJ js)).2 ⟨hck, ?_⟩;rcases d.arr_last with ⟨rfl,_,e⟩ | ⟨ks,x,rfl,x1,x2⟩
 ·exact .inl ⟨rfl,e.symm⟩
 ·obtain⟨ks',x',e',x3,x4⟩:=ZmE ks x;have hne: (ZjJ (ks++[x])).length≠0:=by rw[e'];simp
  refine .inr ⟨hne,hat', ?_⟩;have hF:=Zrm (by omega) hat';have hwk:=(hF.walks hW'.ok (by omega) ((ZjJ (ks++[x])).length - 1) (by omega)).2.2;rw[show (ZjJ (ks++[x])).length - 1+1=(ZjJ (ks++[x])).length by omega,Vg,hrf]at hwk
  have hw2:Zfv (ZjJ (ks++[x]))<=86400:=by
   have: (if (lg (ZjJ (ks++[x])) ((ZjJ (ks++[x])).length - 1)).1=true then(0:Int) else 14400)<=14400:=by split<;>omega
   omega
  have hgo: (Zbs (frN n) (ZjJ (ks++[x])) false []).2=0:=by have:=Zwf hN hat;rw[ZeZ]at this;exact this
  have hto: (lg (ZjJ (ks++[x])) ((ZjJ (ks++[x])).length - 1)).2.2.2.2.2.1=s:=by rw[e',ZeY,x4,x2]
  unfold ZtF;rw[Zau (by omega),Zau (by omega),Zau (by omega),Zau (by omega),hto,hrf];refine⟨by show (!decide (s=s))=false;simp, ?_, ?_, ?_,Zr8 C.tiny.whole.sound hgo (by omega)⟩
  ·show (q.2.2.2.1&&_)=false;rw[C.fwd];rfl
  ·exact decide_eq_false (by show¬q.2.2.2.2.1< (k:Int);omega)
  ·exact decide_eq_false (by show¬ (86400:Int)<_;omega)
end Q
namespace Q
open Tr Go
open Option (bind_some)
variable {n:Zas}{q:Za4}
def Zio{α:Type}(p:α->Prop)(v:α->Int)(l:List α)(e:Int):Prop:=(e= -1/\ ∀y∈l, ¬p y)\/(∃y∈l,p y/\e=v y/\ ∀y' ∈l,p y' ->e<=v y')
theorem Zio.no{α:Type}{p:α->Prop}{v:α->Int}{l:List α}{e:Int}(h:Zio p v l e){x:α}(hx: ¬p x):Zio p v (l++[x]) e:=by
 have hm: ∀ {y:α},y∈l++[x]->p y->y∈l:=fun hy hp=>by
  rcases Vl.1 hy with hy|hy
  ·exact hy
  ·rw[Vf.1 hy]at hp;exact absurd hp hx
 rcases h with ⟨h1,h2⟩ | ⟨y,h1,h2,h3,h4⟩
 ·exact .inl ⟨h1,fun y hy hp=>h2 y (hm hy hp) hp⟩
 ·exact .inr ⟨y,Vx _ h1,h2,h3,fun y' hy hp=>h4 y' (hm hy hp) hp⟩
theorem Zio.less{α:Type}{p:α->Prop}{v:α->Int}{l:List α}{e:Int}(h:Zio p v l e)(hv: ∀y∈l,0<=v y){x:α}(hx:p x)(hl:e<0\/v x<e):Zio p v (l++[x]) (v x):=by
 refine .inr ⟨x,Vaa _ (Vf.2 rfl),hx,rfl,fun y' hy hp=> ?_⟩;rcases Vl.1 hy with hy|hy
 ·rcases h with ⟨h1,h2⟩ | ⟨y,h1,h2,h3,h4⟩
  ·exact absurd hp (h2 y' hy)
  ·have:=h4 y' hy hp;have:=hv y h1;omega
 ·rw[Vf.1 hy];exact Vua _
theorem Zio.more{α:Type}{p:α->Prop}{v:α->Int}{l:List α}{e:Int}(h:Zio p v l e){x:α}(hl: ¬ (e<0\/v x<e)):Zio p v (l++[x]) e:=by
 rcases h with ⟨h1,h2⟩ | ⟨y,h1,h2,h3,h4⟩
 ·omega
 ·refine .inr ⟨y,Vx _ h1,h2,h3,fun y' hy hp=> ?_⟩;rcases Vl.1 hy with hy|hy
  ·exact h4 y' hy hp
  ·rw[Vf.1 hy];omega
theorem Zue(q:Za4){out:List Zxv}(hs:out.length<=549755813000)(hl: ∀y∈out,y.1.length<=100)(k:Int): ∃e:Int,F107 q out k=some e/\Zio (fun y:Zxv=>Zbk q y.1<=k) (fun y=>(Zal y.1:Int)) out e:=by
 unfold F107;refine ZwS (fun e:Int=>Zio (fun y:Zxv=>Zbk q y.1<=k) (fun y=>(Zal y.1:Int)) out e) ?_ (fun e he=>⟨e,rfl,he⟩);refine ZaL out.length _ (fun i (st:Int×Int)=>st.2=(i:Int)/\Zio (fun y:Zxv=>Zbk q y.1<=k) (fun y=>(Zal y.1:Int)) (out.take i) st.1) ?_ ?_ _ ⟨rfl, .inl ⟨rfl,by simp⟩⟩
 ·rintro i ⟨b,j⟩ hi ⟨hj,hM⟩;simp only at hj hM;subst hj;left;have hml:out[i]∈out:=Vj hi;have hr:F109 out[i]=some (Zal (out[i]).1:Int):=ZnK (L:=(out[i]).1) (by have:=hl _ hml;omega);have ha:F106 q out[i]=some (Zbk q (out[i]).1):=Zos q (L:=(out[i]).1) (by have:=hl _ hml;omega);simp only[Zat hi,cond_true,Zaf hi,bind_some,hr,ha,Zaj hi (show _<=9223372036854775807 by omega)];rw[Va hi];have h0: ∀y∈out.take i,(0:Int)<=(Zal y.1:Int):=fun y _=>by omega
  by_cases h1:Zbk q (out[i]).1<=k
  ·rw[decide_eq_true h1];by_cases h2:b<0
   ·rw[decide_eq_true h2];exact⟨_,rfl,rfl,hM.less h0 h1 (.inl h2)⟩
   ·rw[decide_eq_false h2];by_cases h3: (Zal (out[i]).1:Int)<b
    ·rw[decide_eq_true h3];exact⟨_,rfl,rfl,hM.less h0 h1 (.inr h3)⟩
    ·rw[decide_eq_false h3];exact⟨_,rfl,rfl,hM.more (by omega)⟩
  ·rw[decide_eq_false h1];exact⟨_,rfl,rfl,hM.no h1⟩
 ·rintro ⟨b,j⟩ ⟨hj,hM⟩;simp only at hj hM;subst hj;simp only[Zaw,cond_false];rw[Vg]at hM;exact⟨_,rfl,hM⟩
theorem Zyl{n:Zas}{q:Za4}(C:ZjN n q)(hchk:ZuW n q=0){a:Nat}(ha:a<n.1.length): ∃f rs, ∃m:Nat, ∃out,F116 n q=some (f,rs,0)/\q.2.2.2.2.1=(m:Int)/\m<=3/\Zfd (ZaQ n q) q.1 q.2.2.1 (Zs8 n q) m f rs/\Ctx (ZaQ n q) q.1 q.2.2.1 (Zs8 n q)/\F108 n q (a:Int)=some out/\ZxA (frN n) (qS q (a:Int)) out/\
  (∀y∈out,Zal y.1<=m/\0<=Zbk q y.1/\arrV rs (Zal y.1) a≠ -1/\ ∀k:Nat,Zal y.1<=k->k<=m->arrV rs k a≠ -1/\arrV rs k a<=Zbk q y.1)/\
  (∀k:Nat,k<=m->arrV rs k a≠ -1-> ∃y∈out,Zal y.1<=k/\Zbk q y.1=arrV rs k a):=by
 obtain⟨f,rs,h1,C1,hw,_,_,F⟩:=Zuu C.fit C.few hchk;have hqb' :=C.que;unfold qB inR at hqb';simp only[Vh,decide_eq_true_eq]at hqb';have h3:=C.three;obtain⟨m,hm⟩: ∃m:Nat,q.2.2.2.2.1=(m:Int):=⟨q.2.2.2.2.1.toNat,by omega⟩;rw[hm,Vq]at F;have hs:0<=(a:Int)/\(a:Int)< (n.1.length:Int):=by omega
 obtain⟨out,o1,o2⟩:=C.possible hs;have hW' :=ZgY C.tiny.whole;refine⟨f,rs,m,out,h1,hm,by omega,F,C1,o1,o2,fun y hy=> ?_,fun k hk hne=> ?_⟩
 ·obtain⟨e1,js,d⟩:=C.der (o2.good y hy).1;have hrm:Zal y.1<=m:=by omega
  have hok:=C1.ok d;exact⟨hrm,hok.2.1,(F.complete hrm (Vi _) d).1,fun k h1 h2=>F.complete h2 h1 d⟩
 ·obtain⟨k',e1,js,_,d⟩:=F.sound hk hne;have hmem:=C.member hs d (by omega);have hin:=Zxd (n:=frN n) (q:=qS q (a:Int)) hW' C.fwd (show q.2.2.2.2.1<=8 by omega) o2 hmem;have hrd:=d.rides;simp only at hrd;exact⟨_,hin,by show Zal (ZjJ js)<=k;rw[Zj3,hrd];exact e1,Der.arrival d⟩
theorem ZwL{n:Zas}(h:Zng Y31 n){q:Za4}(hT:ZwD n)(hq:qB n.1.length q=true)(hb:q.2.2.2.1=false)(h3:q.2.2.2.2.1<=3):ZjN n q/\ZuW n q=0:=by obtain⟨hfit,hfew,hchk,_⟩:=Zsz h hT hq hb;exact⟨⟨hT,hfit,hfew,hq,hb,h3⟩,hchk⟩
end Q
namespace Q
open Tr Go
open Option (bind_some)
variable {n:Zas}{q:Za4}
theorem ZtS(n:Zas)(h:Zng Y31 n)(q:Za4)(by' :Int):F26 n q by' =some true:=by
 unfold F26;obtain⟨b,hb1,hb2⟩:=Zmn h q;rw[hb1]
 cases b with
 |false=>simp only[bind_some,Vw,cond_true,Zfy]
 |true=>
  obtain⟨hT,hq,hbk,hm3⟩:=hb2 rfl;simp only[bind_some,Vm,cond_false];have hqb' :=hq;unfold qB inR at hqb';simp only[Vh,decide_eq_true_eq]at hqb';obtain⟨a,ha⟩: ∃a:Nat,q.2.1=(a:Int):=⟨q.2.1.toNat,by omega⟩;have hal:a<n.1.length:=by omega
  obtain⟨C,hchk⟩:=ZwL h hT hq hbk hm3;obtain⟨f,rs,m,out,h1,hm,hm3',F,C1,o1,o2,g1,g2⟩:=Zyl C hchk hal;have hst: (ZaQ n q).1.length=n.1.length:=rfl;have hst2:=hT.stops;obtain⟨e,e1,e2⟩:=Zue q o2.size (fun y hy=>(o2.good y hy).2) by'
  rw[ha,o1];rcases ZqO F (by omega) (by rw[hst];omega) h1 ha hal by' with ⟨k,k1,k2,k3,k4⟩ | ⟨k3,k4⟩
  ·have hee:e=(k:Int):=by
    obtain⟨y0,y1,y2,y3⟩:=g2 k k1 k2.1;rcases e2 with ⟨x1,x2⟩ | ⟨y,x1,x2,x3,x4⟩
    ·exact absurd (show Zbk q y0.1<=by' by omega) (x2 y0 y1)
    ·have x3' :e=(Zal y.1:Int):=x3;have x2' :Zbk q y.1<=by' :=x2
     have h4:e<=(Zal y0.1:Int):=x4 y0 y1 (show Zbk q y0.1<=by' by omega);have hy:=g1 y x1;have h5:=hy.2.2.2 (Zal y.1) (Vi _) hy.1;by_cases hlt:Zal y.1<k
     ·exact absurd ⟨h5.1,by omega⟩ (k3 _ hlt)
     ·omega
   rw[k4];simp only[bind_some,e1,hee];rw[decide_eq_false (show¬ (k:Int)<0 by omega)];simp only[cond_false,decide_true,cond_true,bind_some,Zfy]
  ·have hee:e= -1:=by
    rcases e2 with ⟨x1,x2⟩ | ⟨y,x1,x2,x3,x4⟩
    ·exact x1
    ·have x2' :Zbk q y.1<=by' :=x2
     have hy:=g1 y x1;have h5:=hy.2.2.2 (Zal y.1) (Vi _) hy.1;exact absurd ⟨h5.1,by omega⟩ (k3 _ hy.1)
   rw[k4];simp only[bind_some,e1,hee];rw[decide_eq_true (show (-1:Int)<0 by omega)];simp only[decide_true,cond_true,Vw,bind_some,Zfy]
theorem fewest41P(x:Zeq F26A)(h:ZlX F26A x):F26 x.1 x.2.1 x.2.2.1=some true:=ZtS _ h.1 _ _
end Q
