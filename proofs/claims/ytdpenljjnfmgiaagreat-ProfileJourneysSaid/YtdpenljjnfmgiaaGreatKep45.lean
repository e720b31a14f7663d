/- profile's keep in terms of contents. Conditions: none. -/
import Derived.Test.YtdpenljjnfmgiaaGreatKep45a
open List renaming length_map ->Va,mem_append ->Vb,mem_singleton ->Vc,map_congr_left ->Ve,mem_flatten ->Vf,getElem_mem ->Vg,mem_filter ->Vi,map_append ->Vj,map_cons ->Vk,mem_map ->Vl,map_nil ->Vm
open Option renaming isSome_iff_exists ->Vd
open Prod renaming snd ->Vh
open Option renaming some ->Ua,none ->Ub
open Bool renaming true ->Uc,false ->Ud
open Decidable renaming decide ->Ue
namespace Qn
open Tr Q Go Go.Proofs
abbrev FX:=ZO Zh Zk ZC Y94
noncomputable def cov(m u:El Y94):Option Bool:=F111 (Ua (0,m)) (Ua (0,u))
noncomputable def covB(m u:El Y94):Bool:=(cov m u).getD Ud
theorem Zkx(b c:Nat)(m u:El Y94):F111 (Ua (b,m)) (Ua (c,u))=cov m u:=by unfold cov F111;rfl
noncomputable def rowAt(x:FX)(u:El Y94):List (El Y94):=(x.2.2.2.1[(u.1:Int).toNat]?).getD []
def KeepC(x:FX)(u:El Y94):Prop:=0<=(u.1:Int)/\(u.1:Int).toNat<x.2.2.2.1.length/\(∀m∈rowAt x u,(cov m u).isSome=Uc/\(cov u m).isSome=Uc)/\(rowAt x u).length+1<=549755813888/\x.2.2.2.2.1.length+1<=549755813888/\x.2.2.2.2.2.length+1<=549755813888/\((rowAt x u).any (fun m=>covB m u)=Uc\/u ∉ JN x)
noncomputable def keepZ(x:FX)(u:El Y94):FX:=if (rowAt x u).any (fun m=>covB m u)=Uc then x else(x.1,x.2.1,x.2.2.1,x.2.2.2.1.set (u.1:Int).toNat ((rowAt x u).filter (fun m=> !covB u m)++[u]),x.2.2.2.2.1++[u],if u.1=x.2.1.2.1 then x.2.2.2.2.2++[u] else x.2.2.2.2.2)
instance dq1:DecidableEq (Int×Int×Unit):=inferInstance
instance dq2:DecidableEq (Int×Int×Int×Int×Unit):=inferInstance
instance dq3:DecidableEq (Int×Int×Int×Int×Int×Unit):=inferInstance
instance dq4:DecidableEq (List (List UInt8×Int×Int×Int×Int×Int×Unit)):=inferInstance
instance dq5:DecidableEq (Option (List (List UInt8×Int×Int×Int×Int×Int×Unit) ×Int×Int×Int×Unit)):=inferInstance
instance dq6:DecidableEq (Int×List Int×Unit):=inferInstance
instance dq7:DecidableEq (List (Option (List (List UInt8×Int×Int×Int×Int×Int×Unit) ×Int×Int×Int×Unit) ×(Int×Int×Int×Int×Unit) ×Int×List Int×Unit)):=inferInstance
instance dq8:DecidableEq (Int×Int×Int×Bool×Unit):=inferInstance
instance dqb:DecidableEq (Int×Int×Int×Int×Int×Int×Int×Bool×Unit):=inferInstance
instance dq9:DecidableEq (List (Bool×Int×Int×Int×Int×Int×Int×Int×Bool×Unit)):=inferInstance
instance dqa:DecidableEq (Bool×List (Option (List (List UInt8×Int×Int×Int×Int×Int×Unit) ×Int×Int×Int×Unit) ×(Int×Int×Int×Int×Unit) ×Int×List Int×Unit) ×List (Bool×Int×Int×Int×Int×Int×Int×Int×Bool×Unit) ×Unit):=inferInstance
instance Zw3:DecidableEq (El Y94):=inferInstanceAs (DecidableEq (Int×Int×Int×Int×Int×Bool×List (Option (List (List UInt8×Int×Int×Int×Int×Int×Unit) ×Int×Int×Int×Unit) ×(Int×Int×Int×Int×Unit) ×Int×List Int×Unit) ×List (Bool×Int×Int×Int×Int×Int×Int×Int×Bool×Unit) ×Unit))
noncomputable def ZhP(x:FX)(u:El Y94):Bool:=Ue ((0:Int)<=(u.1:Int)) && (Ue ((u.1:Int).toNat<x.2.2.2.1.length) && ((rowAt x u).all (fun m=>(cov m u).isSome&& (cov u m).isSome) && (Ue ((rowAt x u).length+1<=549755813888) && (Ue (x.2.2.2.2.1.length+1<=549755813888) && (Ue (x.2.2.2.2.2.length+1<=549755813888) && ((rowAt x u).any (fun m=>covB m u) || !(JN x).any fun y=>Ue (y=u)))))))
theorem Zs8{x:FX}{u:El Y94} :ZhP x u=Uc↔KeepC x u:=by
 unfold ZhP KeepC;simp only[Bool.and_eq_true,Bool.or_eq_true,KD,List.all_eq_true,Bool.not_eq_true',List.any_eq_false];constructor
 ·rintro ⟨b,c,d,f,g,i,j⟩;exact⟨b,c,fun m a=>d m a,f,g,i,j.imp id fun h a=>h u a rfl⟩
 ·rintro ⟨b,c,d,f,g,i,j⟩;exact⟨b,c,fun m a=>d m a,f,g,i,j.imp id fun h y k e=>h (e▸k)⟩
noncomputable instance (x:FX) (u:El Y94):Decidable (KeepC x u):=decidable_of_iff (ZhP x u=Uc) Zs8
noncomputable def keepF:FX->El (.pt Y94)->Option FX
 |_,none=>Ub
 |x,Ua u=>if KeepC x u then Ua (keepZ x u) else Ub
theorem keep_tag{x:FX}{u:El Y94}(h:KeepC x u){c:El Y94->Nat}{b:Nat}(S:X2 c x)(Q:∀y∈JN x,c y=b->y=u):∃d:El Y94->Nat,X2 d (keepZ x u)/\F105 (KI (WF c x)) (Ua (b,u))=Ua (KI (WF d (keepZ x u))):=by
 obtain⟨n,q,lk,bags,op,fd⟩:=x;obtain⟨U,p,G,M,N,O,P⟩:=h;simp only at p N O;generalize H:(u.1:Int).toNat=i at p
 have K:u.1=(i:Int):=by have:((u.1:Int).toNat:Int)=u.1:=Int.toNat_of_nonneg U;rw[<-this,H]
 have k:rowAt (n,q,lk,bags,op,fd) u=bags[i]:=by simp only[rowAt,H,List.getElem?_eq_getElem p,Option.getD_some]
 rw[k]at G M P;have I:i<(bags.map fun r:List (El Y94)=>r.map (Kq (lb:=Y94) c)).length:=by rw[Va];exact p
 have g:(bags.map fun r:List (El Y94)=>r.map (Kq (lb:=Y94) c))[i]=bags[i].map (Kq (lb:=Y94) c):=List.getElem_map ..
 have R:=Zs9 (n:=n) (q:=q) (lk:=lk) (bags:=bags.map fun r:List (El Y94)=>r.map (Kq (lb:=Y94) c)) (op:=op.map (Kq (lb:=Y94) c)) (fd:=fd.map (Kq (lb:=Y94) c)) (b:=b) (y:=u) I K (pc:=fun v=>covB ((v.map Vh).getD u) u) (pd:=fun v=>covB u ((v.map Vh).getD u))
  (fun v B=>by rw[g]at B;obtain⟨m,z,rfl⟩:=Vl.1 B;obtain⟨r,f⟩:=Vd.1 (G m z).1;show F111 (Ua (c m,m)) (Ua (b,u))=Ua (covB m u);rw[Zkx,covB,f];rfl)
  (fun v B=>by rw[g]at B;obtain⟨m,z,rfl⟩:=Vl.1 B;obtain⟨r,f⟩:=Vd.1 (G m z).2;show F111 (Ua (b,u)) (Ua (c m,m))=Ua (covB u m);rw[Zkx,covB,f];rfl)
  (by rw[g,Va];exact M) (by rw[Va];exact N) (by rw[Va];exact O)
 have t:((bags.map fun r:List (El Y94)=>r.map (Kq (lb:=Y94) c))[i]).any (fun v=>covB ((v.map Vh).getD u) u)=bags[i].any fun m=>covB m u:=by rw[g,List.any_map];rfl
 rw[t]at R;show∃d,X2 d (keepZ (n,q,lk,bags,op,fd) u)/\F105 (n,q,lk,bags.map (fun r:List (El Y94)=>r.map (Kq (lb:=Y94) c)),op.map (Kq (lb:=Y94) c),fd.map (Kq (lb:=Y94) c),()) (Ua (b,u))=_;rw[R];unfold keepZ;rw[k];by_cases w:(bags[i].any fun m=>covB m u)=Uc
 ·rw[Zv w,Zv w];exact⟨c,S,rfl⟩
 ·rw[Zg w,Zg w];have D:u ∉ JN (n,q,lk,bags,op,fd):=P.resolve_left w
  classical
  refine⟨fun y=>if y=u then b else c y,?_,?_⟩
  ·have o:∀y∈JN (tn:=Zh) (tq:=Zk) (lt:=ZC) (lb:=Y94) (n,q,lk,bags.set (u.1:Int).toNat ((bags[i].filter fun m=> !covB u m)++[u]),op++[u],if u.1=q.2.1 then fd++[u] else fd),y=u\/y∈JN (tn:=Zh) (tq:=Zk) (lt:=ZC) (lb:=Y94) (n,q,lk,bags,op,fd):=by
    intro y a;simp only[JN,Vb,Vf]at a⊢;rcases a with (⟨r,f,a⟩|a) |a
    ·rcases List.mem_or_eq_of_mem_set f with f|rfl
     ·exact .inr (.inl (.inl ⟨r,f,a⟩))
     ·rcases Vb.1 a with a|a
      ·exact .inr (.inl (.inl ⟨bags[i],Vg p,(Vi.1 a).1⟩))
      ·exact .inl (Vc.1 a)
    ·rcases a with a|a
     ·exact .inr (.inl (.inr a))
     ·exact .inl (Vc.1 a)
    ·split at a
     ·rcases Vb.1 a with a|a
      ·exact .inr (.inr a)
      ·exact .inl (Vc.1 a)
     ·exact .inr (.inr a)
   intro y a C L e;simp only at e
   rcases o y a with rfl|h<;>rcases o C L with rfl|F
   ·rfl
   ·rw[Zv rfl]at e;split at e
    ·exact(by assumption:C=y).symm
    ·exact(Q C F e.symm).symm
   ·rw[Zv rfl]at e;split at e
    ·assumption
    ·exact Q y h e
   ·have X:y≠u:=fun E=>D (E▸h);have Y:C≠u:=fun E=>D (E▸F);rw[Zg X,Zg Y]at e;exact S y h C F e
  ·generalize s:(fun y=>if y=u then b else c y)=d
   have T:Kq (lb:=Y94) d u=Ua (b,u):=by subst s;simp [Kq]
   have key:∀l:List (El Y94),u ∉ l->l.map (Kq (lb:=Y94) d)=l.map (Kq (lb:=Y94) c):=fun l V=>Ve fun m z=>by have:m≠u:=fun e=>V (e▸z);subst s;simp [Kq,this]
   simp only[JN,Vb,Vf,not_or]at D;obtain⟨⟨j,J⟩,A⟩:=D;have j:∀r∈bags,u ∉ r:=fun r f a=>j ⟨r,f,a⟩;have W:(bags.map fun r:List (El Y94)=>r.map (Kq (lb:=Y94) d))=bags.map fun r:List (El Y94)=>r.map (Kq (lb:=Y94) c):=Ve fun r f=>key r (j r f)
   have kf:((bags[i].map (Kq (lb:=Y94) c)).filter fun v=> !covB u ((v.map Vh).getD u))=(bags[i].filter fun m=> !covB u m).map (Kq (lb:=Y94) d):=by rw[key _ (fun a=>j _ (Vg p) (Vi.1 a).1),List.filter_map];rfl
   rw[g,kf];simp only[KI,WF,List.map_set,W,H,Vj,Vk,Vm,T,key op J];split
   ·simp only[Vj,Vk,Vm,T,key fd A]
   ·simp only[key fd A]
end Qn
namespace Tr
open Go Go.Proofs
noncomputable def keepF:Qn.FX->El (.pt Qn.Y94)->Option Qn.FX:=Qn.keepF
theorem keep_ok:ZS Tryz.prog 131 (ZnA keepF Uc):=by
 refine ZtC (g:=fun x l=>Qn.F105 x l) (Qn.F105_ok:ZS Tryz.prog 131 Qn.F105S) (fun _=>rfl) fun x u z a f b e c=>?_;have a:Qn.keepF x (Ua u)=Ua z:=a;simp only[Qn.keepF]at a;split at a
 ·rename_i d;cases a;exact Qn.keep_tag d e c
 ·cases a
end Tr
