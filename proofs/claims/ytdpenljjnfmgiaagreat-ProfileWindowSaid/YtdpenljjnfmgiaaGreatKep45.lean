/- profile's keep in terms of contents. Conditions: none. -/
import Derived.Test.YtdpenljjnfmgiaaGreatKep45a
open List renaming length_map ->Va,mem_append ->Vb,mem_singleton ->Vc,map_congr_left ->Ve,mem_flatten ->Vf,getElem_mem ->Vg,mem_filter ->Vi,map_append ->Vj,map_cons ->Vk,mem_map ->Vl,map_nil ->Vm
open Option renaming isSome_iff_exists ->Vd
open Prod renaming snd ->Vh
open Option renaming some ->Ua,none ->Ub
open Bool renaming true ->Uc,false ->Ud
open Decidable renaming decide ->Ue
namespace Qn
open Tr Q Go Go.Proofs
abbrev FX:=ZS Zd Zk ZG Y94
noncomputable def cov(m u:El Y94):Option Bool:=F111 (Ua (0,m)) (Ua (0,u))
noncomputable def covB(m u:El Y94):Bool:=(cov m u).getD Ud
theorem Zmw b c m u:F111 (Ua (b,m)) (Ua (c,u))=cov m u:=by rfl
noncomputable def rowAt(x:FX)(u:El Y94):List (El Y94):=(x.2.2.2.1[u.1.toNat]?).getD []
def KeepC(x:FX)(u:El Y94):Prop:=0<=u.1/\u.1.toNat<x.2.2.2.1.length/\(∀m∈rowAt x u,(cov m u).isSome=Uc/\(cov u m).isSome=Uc)/\(rowAt x u).length+1<=549755813888/\x.2.2.2.2.1.length+1<=549755813888/\x.2.2.2.2.2.length+1<=549755813888/\((rowAt x u).any (λm=>covB m u)=Uc\/u ∉ JS x)
noncomputable def keepZ(x:FX)(u:El Y94):FX:=if (rowAt x u).any (λm=>covB m u)=Uc then x else(x.1,x.2.1,x.2.2.1,x.2.2.2.1.set u.1.toNat ((rowAt x u).filter (λm=> !covB u m)++[u]),x.2.2.2.2.1++[u],if u.1=x.2.1.2.1 then x.2.2.2.2.2++[u] else x.2.2.2.2.2)
instance dq1:DecidableEq (Int×Int×Unit):=inferInstance
instance dq2:DecidableEq (Int×Int×Int×Int×Unit):=inferInstance
instance dq3:DecidableEq (Int×Int×Int×Int×Int×Unit):=inferInstance
instance dq4:DecidableEq (List (List UInt8×Int×Int×Int×Int×Int×Unit)):=inferInstance
instance dq5:DecidableEq (Option (List (List UInt8×Int×Int×Int×Int×Int×Unit)×Int×Int×Int×Unit)):=inferInstance
instance dq6:DecidableEq (Int×List Int×Unit):=inferInstance
instance dq7:DecidableEq (List (Option (List (List UInt8×Int×Int×Int×Int×Int×Unit)×Int×Int×Int×Unit)×(Int×Int×Int×Int×Unit)×Int×List Int×Unit)):=inferInstance
instance dq8:DecidableEq (Int×Int×Int×Bool×Unit):=inferInstance
instance dqb:DecidableEq (Int×Int×Int×Int×Int×Int×Int×Bool×Unit):=inferInstance
instance dq9:DecidableEq (List (Bool×Int×Int×Int×Int×Int×Int×Int×Bool×Unit)):=inferInstance
instance dqa:DecidableEq (Bool×List (Option (List (List UInt8×Int×Int×Int×Int×Int×Unit)×Int×Int×Int×Unit)×(Int×Int×Int×Int×Unit)×Int×List Int×Unit)×List (Bool×Int×Int×Int×Int×Int×Int×Int×Bool×Unit)×Unit):=inferInstance
instance ZAn:DecidableEq (El Y94):=inferInstanceAs (DecidableEq (Int×Int×Int×Int×Int×Bool×List (Option (List (List UInt8×Int×Int×Int×Int×Int×Unit)×Int×Int×Int×Unit)×(Int×Int×Int×Int×Unit)×Int×List Int×Unit)×List (Bool×Int×Int×Int×Int×Int×Int×Int×Bool×Unit)×Unit))
noncomputable def Zjw(x:FX)(u:El Y94):Bool:=Ue ((0:Int)<=u.1)&&(Ue (u.1.toNat<x.2.2.2.1.length)&&((rowAt x u).all (λm=>(cov m u).isSome&&(cov u m).isSome)&&(Ue ((rowAt x u).length+1<=549755813888)&&(Ue (x.2.2.2.2.1.length+1<=549755813888)&&(Ue (x.2.2.2.2.2.length+1<=549755813888)&&((rowAt x u).any (λm=>covB m u) || !(JS x).any λy=>Ue (y=u)))))))
theorem Zv1{x u}:Zjw x u=Uc↔KeepC x u:=by
 unfold Zjw KeepC;simp only[Bool.and_eq_true,Bool.or_eq_true,KJ,List.all_eq_true,Bool.not_eq_true',List.any_eq_false];constructor;.rintro ⟨b,c,d,f,g,i,j⟩;exact⟨b,c,λm a=>d m a,f,g,i,j.imp id λh a=>h u a rfl⟩
 rintro ⟨b,c,d,f,g,i,j⟩;exact⟨b,c,λm a=>d m a,f,g,i,j.imp id λh y k e=>h (e▸k)⟩
noncomputable instance (x:FX) (u:El Y94):Decidable (KeepC x u):=decidable_of_iff (Zjw x u=Uc) Zv1
noncomputable def keepF:FX->El (.pt Y94)->Option FX
 |_,none=>Ub
 |x,Ua u=>if KeepC x u then Ua (keepZ x u) else Ub
theorem keep_tag{x u}(h:KeepC x u){c b}(T:Yl c x)(R:∀y∈JS x,c y=b->y=u):∃d,Yl d (keepZ x u)/\F105 (Kn (WG c x)) (Ua (b,u))=Ua (Kn (WG d (keepZ x u))):=by
 have⟨n,q,lk,bags,op,fd⟩:=x;obtain⟨W,p,H,N,O,P,Q⟩:=h;simp only at p O P;generalize I:(u.1:Int).toNat=i at p;have L:u.1=(i:Int):=by have:((u.1:Int).toNat:Int)=u.1:=Int.toNat_of_nonneg W;rw[<-this,I]
 have k:rowAt (n,q,lk,bags,op,fd) u=bags[i]:=by simp[rowAt,I,List.getElem?_eq_getElem p,Option.getD_some]
 rw[k]at H N Q;have J:i<(bags.map λr=>r.map (KA (lb:=Y94) c)).length:=by rw[Va];exact p
 have g:(bags.map λr=>r.map (KA (lb:=Y94) c))[i]=bags[i].map (KA (lb:=Y94) c):=List.getElem_map ..;have S:=Zv2 (n:=n) (q:=q) (lk:=lk) (bags:=bags.map λr=>r.map (KA (lb:=Y94) c)) (op:=op.map (KA (lb:=Y94) c)) (fd:=fd.map (KA (lb:=Y94) c)) (b:=b) (y:=u) J L (pc:=λv=>covB ((v.map Vh).getD u) u) (pd:=λv=>covB u ((v.map Vh).getD u))
  (λv B=>by rw[g]at B;obtain⟨m,z,rfl⟩:=Vl.1 B;have⟨r,f⟩:=Vd.1 (H m z).1;show F111 (Ua (c m,m)) (Ua (b,u))=Ua (covB m u);rw[Zmw,covB,f];rfl)
  (λv B=>by rw[g]at B;obtain⟨m,z,rfl⟩:=Vl.1 B;have⟨r,f⟩:=Vd.1 (H m z).2;show F111 (Ua (b,u)) (Ua (c m,m))=Ua (covB u m);rw[Zmw,covB,f];rfl)
  (by rw[g,Va];exact N) (by rw[Va];exact O) (by rw[Va];exact P)
 have t:((bags.map λr:List (El Y94)=>r.map (KA (lb:=Y94) c))[i]).any (λv=>covB ((v.map Vh).getD u) u)=bags[i].any λm=>covB m u:=by rw[g,List.any_map];rfl
 rw[t]at S;show∃d,Yl d (keepZ (n,q,lk,bags,op,fd) u)/\F105 (n,q,lk,bags.map λr=>r.map (KA (lb:=Y94) c),op.map (KA (lb:=Y94) c),fd.map (KA (lb:=Y94) c),()) (Ua (b,u))=_;rw[S];unfold keepZ;rw[k];by_cases w:(bags[i].any λm=>covB m u)=Uc;.rw[Zn w,Zn w];exact⟨c,T,rfl⟩
 rw[Zg w,Zg w];have D:u ∉ JS (n,q,lk,bags,op,fd):=Q.resolve_left w
 classical
 refine⟨λy=>if y=u then b else c y,?_,?_⟩
 .have o:∀y∈JS (tn:=Zd) (tq:=Zk) (lt:=ZG) (lb:=Y94) (n,q,lk,bags.set (u.1:Int).toNat ((bags[i].filter λm=> !covB u m)++[u]),op++[u],if u.1=q.2.1 then fd++[u] else fd),y=u\/y∈JS (tn:=Zd) (tq:=Zk) (lt:=ZG) (lb:=Y94) (n,q,lk,bags,op,fd):=by
   intro y a;simp only[JS,Vb,Vf]at a⊢;rcases a with (⟨r,f,a⟩|a) |a
   .obtain f|rfl:=List.mem_or_eq_of_mem_set f
    .exact .inr (.inl (.inl ⟨r,f,a⟩))
    obtain a|a:=Vb.1 a;.exact .inr (.inl (.inl ⟨bags[i],Vg p,(Vi.1 a).1⟩))
    exact .inl (Vc.1 a)
   .obtain a|a:=a
    .exact .inr (.inl (.inr a))
    exact .inl (Vc.1 a)
   split at a
   .obtain a|a:=Vb.1 a
    .exact .inr (.inr a)
    exact .inl (Vc.1 a)
   exact .inr (.inr a)
  intro y a C M e;simp at e;obtain rfl|h:=o y a<;>obtain rfl|F:=o C M;.rfl
  .rw[Zn rfl]at e;split at e
   .exact(by assumption:C=y).symm
   exact(R C F e.symm).symm
  .rw[Zn rfl]at e;split at e
   .assumption
   exact R y h e
  have n1:y≠u:=λE=>D (E▸h);have n2:C≠u:=λE=>D (E▸F);rw[Zg n1,Zg n2]at e;exact T y h C F e
 generalize s:(λy=>if y=u then b else c y)=d;have U:KA (lb:=Y94) d u=Ua (b,u):=by subst s;simp[KA]
 have key:∀l:List (El Y94),u ∉ l->l.map (KA (lb:=Y94) d)=l.map (KA (lb:=Y94) c):=λl hl=>Ve λm z=>by have:m≠u:=λe=>hl (e▸z);subst s;simp[KA,this]
 simp only[JS,Vb,Vf,not_or]at D;have⟨⟨j,K⟩,A⟩:=D;have j:∀r∈bags,u ∉ r:=λr f a=>j ⟨r,f,a⟩;have kb:(bags.map λr=>r.map (KA (lb:=Y94) d))=bags.map λr=>r.map (KA (lb:=Y94) c):=Ve λr f=>key r (j r f);have kf:((bags[i].map (KA (lb:=Y94) c)).filter λv=> !covB u ((v.map Vh).getD u))=(bags[i].filter λm=> !covB u m).map (KA (lb:=Y94) d):=by rw[key _ λa=>j _ (Vg p) (Vi.1 a).1,List.filter_map];rfl
 rw[g,kf];simp only[Kn,WG,List.map_set,kb,I,Vj,Vk,Vm,U,key op K];split;.simp only[Vj,Vk,Vm,U,key fd A]
 simp only[key fd A]
end Qn
namespace Tr
open Go Go.Proofs
noncomputable def keepF:Qn.FX->El (.pt Qn.Y94)->Option Qn.FX:=Qn.keepF
theorem keep_ok:ZR Tryz.prog 131 (Zqh keepF Uc):=by
 refine Zwv Qn.F105_ok (λ_=>rfl) λx u z a f b e c=>?_;have a:Qn.keepF x (Ua u)=Ua z:=a;simp only[Qn.keepF]at a;split at a;.rename_i d;cases a;exact Qn.keep_tag d e c
 cases a
end Tr
