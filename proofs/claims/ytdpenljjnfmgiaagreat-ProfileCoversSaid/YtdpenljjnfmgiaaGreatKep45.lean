/- profile's keep in terms of contents. Conditions: none. -/
import Derived.Test.YtdpenljjnfmgiaaGreatKep45a
open List renaming length_map ->Va,mem_append ->Vb,mem_singleton ->Vc,map_congr_left ->Ve,mem_flatten ->Vf,getElem_mem ->Vg,mem_filter ->Vi,map_append ->Vj,map_cons ->Vk,mem_map ->Vl,map_nil ->Vm
open Option renaming isSome_iff_exists ->Vd
open Prod renaming snd ->Vh
open Option renaming some ->Ua,none ->Ub
open Bool renaming true ->Uc,false ->Ud
open Decidable renaming decide ->Ue
namespace Qn
open Tr Q Go Go.Proofs
abbrev FX:=ZQ Zh Zk ZB Y94
noncomputable def cov(m u:El Y94):Option Bool:=F110 (Ua (0,m)) (Ua (0,u))
noncomputable def covB(m u:El Y94):Bool:=(cov m u).getD Ud
theorem ZkR(b c:Nat)(m u:El Y94):F110 (Ua (b,m)) (Ua (c,u))=cov m u:=by unfold cov F110;rfl
noncomputable def rowAt(x:FX)(u:El Y94):List (El Y94):=(x.2.2.2.1[(u.1:Int).toNat]?).getD []
def KeepC(x:FX)(u:El Y94):Prop:=0<=(u.1:Int)/\(u.1:Int).toNat<x.2.2.2.1.length/\(∀m∈rowAt x u,(cov m u).isSome=Uc/\(cov u m).isSome=Uc)/\(rowAt x u).length+1<=549755813888/\x.2.2.2.2.1.length+1<=549755813888/\x.2.2.2.2.2.length+1<=549755813888/\((rowAt x u).any (λm=>covB m u)=Uc\/u ∉ JO x)
noncomputable def keepZ(x:FX)(u:El Y94):FX:=if (rowAt x u).any (λm=>covB m u)=Uc then x else(x.1,x.2.1,x.2.2.1,x.2.2.2.1.set (u.1:Int).toNat ((rowAt x u).filter (λm=> !covB u m)++[u]),x.2.2.2.2.1++[u],if u.1=x.2.1.2.1 then x.2.2.2.2.2++[u] else x.2.2.2.2.2)
instance dq1:DecidableEq (Int×Int×Unit):=inferInstance
instance dq2:DecidableEq (Int×Int×Int×Int×Unit):=inferInstance
instance dq3:DecidableEq (Int×Int×Int×Int×Int×Unit):=inferInstance
instance dq4:DecidableEq (List (List UInt8×Int×Int×Int×Int×Int×Unit)):=inferInstance
instance dq5:DecidableEq (Option (List (List UInt8×Int×Int×Int×Int×Int×Unit)×Int×Int×Int×Unit)):=inferInstance
instance dq6:DecidableEq (Int×List Int×Unit):=inferInstance
instance dq7:DecidableEq (List (Option (List (List UInt8×Int×Int×Int×Int×Int×Unit)×Int×Int×Int×Unit)×(Int×Int×Int×Int×Unit)×Int×List Int×Unit)):=inferInstance
instance dq8:DecidableEq (Int×Int×Int×Bool×Unit):=inferInstance
instance dqb:DecidableEq (Int×Int×Int×Int×Int×Int×Int×Bool×Unit):=inferInstance
instance dq9:DecidableEq (List (Bool×Int×Int×Int×Int×Int×Int×Int×Bool×Unit)):=inferInstance
instance dqa:DecidableEq (Bool×List (Option (List (List UInt8×Int×Int×Int×Int×Int×Unit)×Int×Int×Int×Unit)×(Int×Int×Int×Int×Unit)×Int×List Int×Unit)×List (Bool×Int×Int×Int×Int×Int×Int×Int×Bool×Unit)×Unit):=inferInstance
instance ZxP:DecidableEq (El Y94):=inferInstanceAs (DecidableEq (Int×Int×Int×Int×Int×Bool×List (Option (List (List UInt8×Int×Int×Int×Int×Int×Unit)×Int×Int×Int×Unit)×(Int×Int×Int×Int×Unit)×Int×List Int×Unit)×List (Bool×Int×Int×Int×Int×Int×Int×Int×Bool×Unit)×Unit))
noncomputable def Zh4(x:FX)(u:El Y94):Bool:=Ue ((0:Int)<=(u.1:Int))&&(Ue ((u.1:Int).toNat<x.2.2.2.1.length)&&((rowAt x u).all (λm=>(cov m u).isSome&&(cov u m).isSome)&&(Ue ((rowAt x u).length+1<=549755813888)&&(Ue (x.2.2.2.2.1.length+1<=549755813888)&&(Ue (x.2.2.2.2.2.length+1<=549755813888)&&((rowAt x u).any (λm=>covB m u) || !(JO x).any λy=>Ue (y=u)))))))
theorem ZtR{x:FX}{u:El Y94}:Zh4 x u=Uc↔KeepC x u:=by
 unfold Zh4 KeepC;simp only[Bool.and_eq_true,Bool.or_eq_true,Kx,List.all_eq_true,Bool.not_eq_true',List.any_eq_false];constructor
 ·rintro ⟨b,c,d,f,g,i,j⟩;exact⟨b,c,λm a=>d m a,f,g,i,j.imp id λh a=>h u a rfl⟩
 ·rintro ⟨b,c,d,f,g,i,j⟩;exact⟨b,c,λm a=>d m a,f,g,i,j.imp id λh y k e=>h (e▸k)⟩
noncomputable instance (x:FX) (u:El Y94):Decidable (KeepC x u):=decidable_of_iff (Zh4 x u=Uc) ZtR
noncomputable def keepF:FX->El (.pt Y94)->Option FX
 |_,none=>Ub
 |x,Ua u=>if KeepC x u then Ua (keepZ x u) else Ub
theorem keep_tag{x:FX}{u:El Y94}(h:KeepC x u){c:El Y94->Nat}{b:Nat}(S:X6 c x)(Q:∀y∈JO x,c y=b->y=u):∃d:El Y94->Nat,X6 d (keepZ x u)/\F104 (Kj (WH c x)) (Ua (b,u))=Ua (Kj (WH d (keepZ x u))):=by
 obtain⟨n,q,lk,bags,op,fd⟩:=x;obtain⟨U,p,G,M,N,O,P⟩:=h;simp only at p N O;generalize H:(u.1:Int).toNat=i at p;have K:u.1=(i:Int):=by have:((u.1:Int).toNat:Int)=u.1:=Int.toNat_of_nonneg U;rw[<-this,H]
 have k:rowAt (n,q,lk,bags,op,fd) u=bags[i]:=by simp only[rowAt,H,List.getElem?_eq_getElem p,Option.getD_some]
 rw[k]at G M P;have I:i<(bags.map λr:List (El Y94)=>r.map (Kp (lb:=Y94) c)).length:=by rw[Va];exact p
 have g:(bags.map λr:List (El Y94)=>r.map (Kp (lb:=Y94) c))[i]=bags[i].map (Kp (lb:=Y94) c):=List.getElem_map ..;have R:=ZtS (n:=n) (q:=q) (lk:=lk) (bags:=bags.map λr:List (El Y94)=>r.map (Kp (lb:=Y94) c)) (op:=op.map (Kp (lb:=Y94) c)) (fd:=fd.map (Kp (lb:=Y94) c)) (b:=b) (y:=u) I K (pc:=λv=>covB ((v.map Vh).getD u) u) (pd:=λv=>covB u ((v.map Vh).getD u))
  (λv B=>by rw[g]at B;obtain⟨m,z,rfl⟩:=Vl.1 B;obtain⟨r,f⟩:=Vd.1 (G m z).1;show F110 (Ua (c m,m)) (Ua (b,u))=Ua (covB m u);rw[ZkR,covB,f];rfl)
  (λv B=>by rw[g]at B;obtain⟨m,z,rfl⟩:=Vl.1 B;obtain⟨r,f⟩:=Vd.1 (G m z).2;show F110 (Ua (b,u)) (Ua (c m,m))=Ua (covB u m);rw[ZkR,covB,f];rfl)
  (by rw[g,Va];exact M) (by rw[Va];exact N) (by rw[Va];exact O)
 have t:((bags.map λr:List (El Y94)=>r.map (Kp (lb:=Y94) c))[i]).any (λv=>covB ((v.map Vh).getD u) u)=bags[i].any λm=>covB m u:=by rw[g,List.any_map];rfl
 rw[t]at R;show∃d,X6 d (keepZ (n,q,lk,bags,op,fd) u)/\F104 (n,q,lk,bags.map (λr:List (El Y94)=>r.map (Kp (lb:=Y94) c)),op.map (Kp (lb:=Y94) c),fd.map (Kp (lb:=Y94) c),()) (Ua (b,u))=_;rw[R];unfold keepZ;rw[k];by_cases w:(bags[i].any λm=>covB m u)=Uc
 ·rw[Zn w,Zn w];exact⟨c,S,rfl⟩
 ·rw[Zg w,Zg w];have D:u ∉ JO (n,q,lk,bags,op,fd):=P.resolve_left w
  classical
  refine⟨λy=>if y=u then b else c y,?_,?_⟩
  ·have o:∀y∈JO (tn:=Zh) (tq:=Zk) (lt:=ZB) (lb:=Y94) (n,q,lk,bags.set (u.1:Int).toNat ((bags[i].filter λm=> !covB u m)++[u]),op++[u],if u.1=q.2.1 then fd++[u] else fd),y=u\/y∈JO (tn:=Zh) (tq:=Zk) (lt:=ZB) (lb:=Y94) (n,q,lk,bags,op,fd):=by
    intro y a;simp only[JO,Vb,Vf]at a⊢;rcases a with (⟨r,f,a⟩|a) |a
    ·rcases List.mem_or_eq_of_mem_set f with f|rfl
     ·exact .inr (.inl (.inl ⟨r,f,a⟩))
     ·rcases Vb.1 a with a|a
      ·exact .inr (.inl (.inl ⟨bags[i],Vg p,(Vi.1 a).1⟩))
      ·exact .inl (Vc.1 a)
    ·rcases a with a|a
     ·exact .inr (.inl (.inr a))
     ·exact .inl (Vc.1 a)
    ·split at a
     ·rcases Vb.1 a with a|a
      ·exact .inr (.inr a)
      ·exact .inl (Vc.1 a)
     ·exact .inr (.inr a)
   intro y a C L e;simp only at e;rcases o y a with rfl|h<;>rcases o C L with rfl|F
   ·rfl
   ·rw[Zn rfl]at e;split at e
    ·exact(by assumption:C=y).symm
    ·exact(Q C F e.symm).symm
   ·rw[Zn rfl]at e;split at e
    ·assumption
    ·exact Q y h e
   ·have X:y≠u:=λE=>D (E▸h);have Y:C≠u:=λE=>D (E▸F);rw[Zg X,Zg Y]at e;exact S y h C F e
  ·generalize s:(λy=>if y=u then b else c y)=d;have T:Kp (lb:=Y94) d u=Ua (b,u):=by subst s;simp [Kp]
   have key:∀l:List (El Y94),u ∉ l->l.map (Kp (lb:=Y94) d)=l.map (Kp (lb:=Y94) c):=λl V=>Ve λm z=>by have:m≠u:=λe=>V (e▸z);subst s;simp [Kp,this]
   simp only[JO,Vb,Vf,not_or]at D;obtain⟨⟨j,J⟩,A⟩:=D;have j:∀r∈bags,u ∉ r:=λr f a=>j ⟨r,f,a⟩;have W:(bags.map λr:List (El Y94)=>r.map (Kp (lb:=Y94) d))=bags.map λr:List (El Y94)=>r.map (Kp (lb:=Y94) c):=Ve λr f=>key r (j r f);have kf:((bags[i].map (Kp (lb:=Y94) c)).filter λv=> !covB u ((v.map Vh).getD u))=(bags[i].filter λm=> !covB u m).map (Kp (lb:=Y94) d):=by rw[key _ (λa=>j _ (Vg p) (Vi.1 a).1),List.filter_map];rfl
   rw[g,kf];simp only[Kj,WH,List.map_set,W,H,Vj,Vk,Vm,T,key op J];split
   ·simp only[Vj,Vk,Vm,T,key fd A]
   ·simp only[key fd A]
end Qn
namespace Tr
open Go Go.Proofs
noncomputable def keepF:Qn.FX->El (.pt Qn.Y94)->Option Qn.FX:=Qn.keepF
theorem keep_ok:ZT Tryz.prog 131 (Zod keepF Uc):=by
 refine Zuj (g:=λx l=>Qn.F104 x l) (Qn.F104_ok:ZT Tryz.prog 131 Qn.F104S) (λ_=>rfl) λx u z a f b e c=>?_;have a:Qn.keepF x (Ua u)=Ua z:=a;simp only[Qn.keepF]at a;split at a
 ·rename_i d;cases a;exact Qn.keep_tag d e c
 ·cases a
end Tr
