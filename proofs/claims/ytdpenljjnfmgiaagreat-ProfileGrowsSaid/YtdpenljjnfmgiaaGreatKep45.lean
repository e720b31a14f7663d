/- profile's keep in terms of contents. Conditions: none. -/
import Derived.Test.YtdpenljjnfmgiaaGreatKep45a
open List renaming length_map ->Va,mem_append ->Vb,mem_singleton ->Vc,map_congr_left ->Ve,mem_flatten ->Vf,getElem_mem ->Vg,mem_filter ->Vi,map_append ->Vj,map_cons ->Vk,mem_map ->Vl,map_nil ->Vm
open Option renaming isSome_iff_exists ->Vd
open Prod renaming snd ->Vh
namespace Qn
open Tr Q Go Go.Proofs
abbrev FX:=ZH Zh Zm Zx Y94
noncomputable def cov(m u:El Y94):Option Bool:=F112 (some (0,m)) (some (0,u))
noncomputable def covB(m u:El Y94):Bool:=(cov m u).getD false
theorem Zjj(b c:Nat)(m u:El Y94):F112 (some (b,m)) (some (c,u))=cov m u:=by unfold cov F112;rfl
noncomputable def rowAt(x:FX)(u:El Y94):List (El Y94):=(x.2.2.2.1[(u.1:Int).toNat]?).getD []
def KeepC(x:FX)(u:El Y94):Prop:=0<=(u.1:Int)/\(u.1:Int).toNat<x.2.2.2.1.length/\(∀m∈rowAt x u,(cov m u).isSome=true/\(cov u m).isSome=true)/\(rowAt x u).length+1<=549755813888/\x.2.2.2.2.1.length+1<=549755813888/\x.2.2.2.2.2.length+1<=549755813888/\((rowAt x u).any (fun m=>covB m u)=true\/u ∉ Jz x)
noncomputable def keepZ(x:FX)(u:El Y94):FX:=if (rowAt x u).any (fun m=>covB m u)=true then x else(x.1,x.2.1,x.2.2.1,x.2.2.2.1.set (u.1:Int).toNat ((rowAt x u).filter (fun m=> !covB u m)++[u]),x.2.2.2.2.1++[u],if u.1=x.2.1.2.1 then x.2.2.2.2.2++[u] else x.2.2.2.2.2)
instance dq1:DecidableEq (Int×Int×Unit):=inferInstance
instance dq2:DecidableEq (Int×Int×Int×Int×Unit):=inferInstance
instance dq3:DecidableEq (Int×Int×Int×Int×Int×Unit):=inferInstance
instance dq4:DecidableEq (List (List UInt8×Int×Int×Int×Int×Int×Unit)):=inferInstance
instance dq5:DecidableEq (Option (List (List UInt8×Int×Int×Int×Int×Int×Unit) ×Int×Int×Int×Unit)):=inferInstance
instance dq6:DecidableEq (Int×List Int×Unit):=inferInstance
instance dq7:DecidableEq (List (Option (List (List UInt8×Int×Int×Int×Int×Int×Unit) ×Int×Int×Int×Unit) ×(Int×Int×Int×Int×Unit) ×Int×List Int×Unit)):=inferInstance
instance dq8:DecidableEq (Int×Int×Int×Bool×Unit):=inferInstance
instance dqb:DecidableEq (Int×Int×Int×Int×Int×Int×Int×Bool×Unit):=inferInstance
instance dq9:DecidableEq (List (Bool×Int×Int×Int×Int×Int×Int×Int×Bool×Unit)):=inferInstance
instance dqa:DecidableEq (Bool×List (Option (List (List UInt8×Int×Int×Int×Int×Int×Unit) ×Int×Int×Int×Unit) ×(Int×Int×Int×Int×Unit) ×Int×List Int×Unit) ×List (Bool×Int×Int×Int×Int×Int×Int×Int×Bool×Unit) ×Unit):=inferInstance
instance ZuI:DecidableEq (El Y94):=inferInstanceAs (DecidableEq (Int×Int×Int×Int×Int×Bool×List (Option (List (List UInt8×Int×Int×Int×Int×Int×Unit) ×Int×Int×Int×Unit) ×(Int×Int×Int×Int×Unit) ×Int×List Int×Unit) ×List (Bool×Int×Int×Int×Int×Int×Int×Int×Bool×Unit) ×Unit))
noncomputable def ZgF(x:FX)(u:El Y94):Bool:=decide ((0:Int)<=(u.1:Int)) && (decide ((u.1:Int).toNat<x.2.2.2.1.length) && ((rowAt x u).all (fun m=>(cov m u).isSome&& (cov u m).isSome) && (decide ((rowAt x u).length+1<=549755813888) && (decide (x.2.2.2.2.1.length+1<=549755813888) && (decide (x.2.2.2.2.2.length+1<=549755813888) && ((rowAt x u).any (fun m=>covB m u) || !(Jz x).any fun y=>decide (y=u)))))))
theorem Zrg{x:FX}{u:El Y94} :ZgF x u=true↔KeepC x u:=by
 unfold ZgF KeepC;simp only[Bool.and_eq_true,Bool.or_eq_true,WC,List.all_eq_true,Bool.not_eq_true',List.any_eq_false,decide_eq_false_iff_not];constructor
 ·rintro ⟨b,c,d,f,g,i,j⟩;exact⟨b,c,fun m a=>d m a,f,g,i,j.imp id fun h a=>h u a rfl⟩
 ·rintro ⟨b,c,d,f,g,i,j⟩;exact⟨b,c,fun m a=>d m a,f,g,i,j.imp id fun h y k e=>h (e▸k)⟩
noncomputable instance (x:FX) (u:El Y94):Decidable (KeepC x u):=decidable_of_iff (ZgF x u=true) Zrg
noncomputable def keepF:FX->El (.pt Y94)->Option FX
 |_,none=>none
 |x,some u=>if KeepC x u then some (keepZ x u) else none
theorem keep_tag{x:FX}{u:El Y94}(h:KeepC x u){c:El Y94->Nat}{b:Nat}(S:XI c x)(Q:∀y∈Jz x,c y=b->y=u):∃d:El Y94->Nat,XI d (keepZ x u)/\F106 (Kw (Wo c x)) (some (b,u))=some (Kw (Wo d (keepZ x u))):=by
 obtain⟨n,q,lk,bags,op,fd⟩:=x;obtain⟨U,p,G,M,N,O,P⟩:=h;simp only at p N O;generalize H:(u.1:Int).toNat=i at p
 have K:u.1=(i:Int):=by have:((u.1:Int).toNat:Int)=u.1:=Int.toNat_of_nonneg U;rw[<-this,H]
 have k:rowAt (n,q,lk,bags,op,fd) u=bags[i]:=by simp only[rowAt,H,List.getElem?_eq_getElem p,Option.getD_some]
 rw[k]at G M P;have I:i<(bags.map fun r:List (El Y94)=>r.map (Kk (lb:=Y94) c)).length:=by rw[Va];exact p
 have g:(bags.map fun r:List (El Y94)=>r.map (Kk (lb:=Y94) c))[i]=bags[i].map (Kk (lb:=Y94) c):=List.getElem_map ..
 have R:=Zrh (n:=n) (q:=q) (lk:=lk) (bags:=bags.map fun r:List (El Y94)=>r.map (Kk (lb:=Y94) c)) (op:=op.map (Kk (lb:=Y94) c)) (fd:=fd.map (Kk (lb:=Y94) c)) (b:=b) (y:=u) I K (pc:=fun v=>covB ((v.map Vh).getD u) u) (pd:=fun v=>covB u ((v.map Vh).getD u))
  (fun v B=>by rw[g]at B;obtain⟨m,z,rfl⟩:=Vl.1 B;obtain⟨r,f⟩:=Vd.1 (G m z).1;show F112 (some (c m,m)) (some (b,u))=some (covB m u);rw[Zjj,covB,f];rfl)
  (fun v B=>by rw[g]at B;obtain⟨m,z,rfl⟩:=Vl.1 B;obtain⟨r,f⟩:=Vd.1 (G m z).2;show F112 (some (b,u)) (some (c m,m))=some (covB u m);rw[Zjj,covB,f];rfl)
  (by rw[g,Va];exact M) (by rw[Va];exact N) (by rw[Va];exact O)
 have t:((bags.map fun r:List (El Y94)=>r.map (Kk (lb:=Y94) c))[i]).any (fun v=>covB ((v.map Vh).getD u) u)=bags[i].any fun m=>covB m u:=by rw[g,List.any_map];rfl
 rw[t]at R;show∃d,XI d (keepZ (n,q,lk,bags,op,fd) u)/\F106 (n,q,lk,bags.map (fun r:List (El Y94)=>r.map (Kk (lb:=Y94) c)),op.map (Kk (lb:=Y94) c),fd.map (Kk (lb:=Y94) c),()) (some (b,u))=_;rw[R];unfold keepZ;rw[k];by_cases w:(bags[i].any fun m=>covB m u)=true
 ·rw[Zr w,Zr w];exact⟨c,S,rfl⟩
 ·rw[Zf w,Zf w];have D:u ∉ Jz (n,q,lk,bags,op,fd):=P.resolve_left w
  classical
  refine⟨fun y=>if y=u then b else c y,?_,?_⟩
  ·have o:∀y∈Jz (tn:=Zh) (tq:=Zm) (lt:=Zx) (lb:=Y94) (n,q,lk,bags.set (u.1:Int).toNat ((bags[i].filter fun m=> !covB u m)++[u]),op++[u],if u.1=q.2.1 then fd++[u] else fd),y=u\/y∈Jz (tn:=Zh) (tq:=Zm) (lt:=Zx) (lb:=Y94) (n,q,lk,bags,op,fd):=by
    intro y a;simp only[Jz,Vb,Vf]at a⊢;rcases a with (⟨r,f,a⟩|a) |a
    ·rcases List.mem_or_eq_of_mem_set f with f|rfl
     ·exact .inr (.inl (.inl ⟨r,f,a⟩))
     ·rcases Vb.1 a with a|a
      ·exact .inr (.inl (.inl ⟨bags[i],Vg p,(Vi.1 a).1⟩))
      ·exact .inl (Vc.1 a)
    ·rcases a with a|a
     ·exact .inr (.inl (.inr a))
     ·exact .inl (Vc.1 a)
    ·split at a
     ·rcases Vb.1 a with a|a
      ·exact .inr (.inr a)
      ·exact .inl (Vc.1 a)
     ·exact .inr (.inr a)
   intro y a C L e;simp only at e
   rcases o y a with rfl|h<;>rcases o C L with rfl|F
   ·rfl
   ·rw[Zr rfl]at e;split at e
    ·exact(by assumption:C=y).symm
    ·exact(Q C F e.symm).symm
   ·rw[Zr rfl]at e;split at e
    ·assumption
    ·exact Q y h e
   ·have X:y≠u:=fun E=>D (E▸h);have Y:C≠u:=fun E=>D (E▸F);rw[Zf X,Zf Y]at e;exact S y h C F e
  ·generalize s:(fun y=>if y=u then b else c y)=d
   have T:Kk (lb:=Y94) d u=some (b,u):=by subst s;simp [Kk]
   have key:∀l:List (El Y94),u ∉ l->l.map (Kk (lb:=Y94) d)=l.map (Kk (lb:=Y94) c):=fun l V=>Ve fun m z=>by have:m≠u:=fun e=>V (e▸z);subst s;simp [Kk,this]
   simp only[Jz,Vb,Vf,not_or]at D;obtain⟨⟨j,J⟩,A⟩:=D;have j:∀r∈bags,u ∉ r:=fun r f a=>j ⟨r,f,a⟩;have W:(bags.map fun r:List (El Y94)=>r.map (Kk (lb:=Y94) d))=bags.map fun r:List (El Y94)=>r.map (Kk (lb:=Y94) c):=Ve fun r f=>key r (j r f)
   have kf:((bags[i].map (Kk (lb:=Y94) c)).filter fun v=> !covB u ((v.map Vh).getD u))=(bags[i].filter fun m=> !covB u m).map (Kk (lb:=Y94) d):=by rw[key _ (fun a=>j _ (Vg p) (Vi.1 a).1),List.filter_map];rfl
   rw[g,kf];simp only[Kw,Wo,List.map_set,W,H,Vj,Vk,Vm,T,key op J];split
   ·simp only[Vj,Vk,Vm,T,key fd A]
   ·simp only[key fd A]
end Qn
namespace Tr
open Go Go.Proofs
noncomputable def keepF:Qn.FX->El (.pt Qn.Y94)->Option Qn.FX:=Qn.keepF
theorem keep_ok:ZL Tryz.prog 131 (Zl3 keepF true):=by
 refine ZrF (g:=fun x l=>Qn.F106 x l) (Qn.F106_ok:ZL Tryz.prog 131 Qn.F106S) (fun _=>rfl) fun x u z a f b e c=>?_;have a:Qn.keepF x (some u)=some z:=a;simp only[Qn.keepF]at a;split at a
 ·rename_i d;cases a;exact Qn.keep_tag d e c
 ·cases a
end Tr
