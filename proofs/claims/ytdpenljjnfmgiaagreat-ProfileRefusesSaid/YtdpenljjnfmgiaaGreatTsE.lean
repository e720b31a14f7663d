/- Tables of types, checked by the kernel; functions by their specs, in the form that is printed by program. Conditions: the tables pass the check. -/
import Derived.KernelRfl
import Derived.Test.YtdpenljjnfmgiaaGreatTsD
open Bool renaming and_eq_true ->Vb
open List renaming all_eq_true ->Vc,mem_cons ->Vd
open Nat renaming eq_of_beq_eq_true ->Va
namespace Tr
universe u
open Go
def ZgM(P:Program)(tys:List (Nat×Ty))(ms:List (Nat×Ty×Ty))(pks:List (Nat×Nat))(bds:List (Nat×Nat):=[]):Bool:=
 (bds.all fun p=>match P.info? p.1 with
  |some i=>(match i.zero with
   |some z=>(match z.cells.toList with
    | [.pointer none, .slice none 0 0]=>true
    |_=>false)
   |none=>false)
  |none=>false) &&
 (tys.all fun p=>Zra P (fun n=>tys.lookup n) p.1 p.2) &&
 (ms.all fun p=>match P.underlying p.1 with
  |some (.map K V)=>tys.lookup K==some p.2.1&&tys.lookup V==some p.2.2
  |_=>false) &&
 (pks.all fun p=>match P.underlying p.1 with
  |some (.pointer _)=>Nat.beq p.2 1
  |some (.func ..)=>Nat.beq p.2 2
  |some (.map _ _)=>Nat.beq p.2 3
  |_=>false)
theorem ZbF{α:Type u}{k:Nat}{x:α} : ∀ {l:List (Nat×α)},l.lookup k=some x->(k,x)∈l
 | [],h=>by simp at h
 | (i,y)::l,h=>by
  rw[List.lookup_cons]at h
  cases hb:k==i with
  |true=>rw[hb]at h;simp only[Option.some.injEq]at h;have:=beq_iff_eq.1 hb;subst this;subst h;simp
  |false=>rw[hb]at h;exact List.mem_cons_of_mem _ (ZbF h)
theorem typesOk_of{P:Program}{tys:List (Nat×Ty)}{ms:List (Nat×Ty×Ty)}{pks bds:List (Nat×Nat)}(h:ZgM P tys ms pks bds=true){E:Env}(h1:E.ty=fun n=>tys.lookup n)(h2:E.mty=fun n=>ms.lookup n)(h3:E.pk=fun n=>(pks.lookup n).getD 0)(h4:E.bd=fun n=>bds.lookup n)(h5: ∀T,E.pz T=true-> ∃e,P.underlying T=some (.pointer e)/\ ∀w:World, ∃n,(Go.sizeOf e).run P w= .ok n w/\n≠0):Zah P E:=by
 simp only[ZgM,Vb,Vc]at h;obtain⟨⟨⟨hbd,ht⟩,hm⟩,hp⟩:=h;refine⟨fun T t hT=> ?_,fun T m hT=> ?_,fun T=> ?_,h5,fun T e hT=> ?_⟩
 rotate_left 3
 ·rw[h4]at hT;have:=hbd (T,e) (ZbF hT);simp only at this;split at this
  ·rename_i i hi;split at this
   ·rename_i z hz;split at this
    ·rename_i hc;refine⟨z,fun w=> ?_, ?_⟩
     ·simp only[zeroValue,typeInfo,Sem.run_bind,run_program,Result.andThen_ok,hi,Sem.run_pure,hz]
     ·rw[<-Array.toList_inj];exact hc
    ·cases this
   ·cases this
  ·cases this
 ·rw[h1]at hT ⊢;exact ZpY (ht (T,t) (ZbF hT))
 ·rw[h2]at hT;rw[h1];have:=hm (T,m) (ZbF hT);simp only at this;split at this
  ·rename_i K V hu;simp only[Vb,beq_iff_eq]at this;exact⟨K,V,hu,this.1,this.2⟩
  ·cases this
 ·have hpk:E.pk T=(pks.lookup T).getD 0:=by rw[h3]
  rw[hpk]
  cases hl:pks.lookup T with
  |none=>exact⟨fun h=>(by simp at h),fun h=>(by simp at h),fun h=>(by simp at h)⟩
  |some k=>
   have:=hp (T,k) (ZbF hl);simp only at this;simp only[Option.getD_some];split at this
   ·rename_i e hu;have:=Va this;subst this;exact⟨fun _=>⟨e,hu⟩,fun h=>(by simp at h),fun h=>(by simp at h)⟩
   ·rename_i x y z hu;have:=Va this;subst this;exact⟨fun h=>(by simp at h),fun _=>⟨x,y,z,hu⟩,fun h=>(by simp at h)⟩
   ·rename_i x y hu;have:=Va this;subst this;exact⟨fun h=>(by simp at h),fun h=>(by simp at h),fun _=>⟨x,y,hu⟩⟩
   ·cases this
def Zhd(P:Program)(f:FuncId):List Spec->Prop
 | []=>True
 |S::l=>ZaF P f S/\Zhd P f l
def ZjQ(P:Program):List (Nat×List Spec)->Prop
 | []=>True
 |p::m=>Zhd P p.1 p.2/\ZjQ P m
theorem Zhd.mem{P:Program}{f:FuncId} : ∀ {l:List Spec},Zhd P f l-> ∀S∈l,ZaF P f S
 | [],_,S,h=>by simp at h
 |T::l,h,S,hS=>by
  rcases Vd.1 hS with rfl|hS
  ·exact h.1
  ·exact Zhd.mem h.2 S hS
theorem ZjQ.mem{P:Program} : ∀ {m:List (Nat×List Spec)},ZjQ P m-> ∀p∈m,Zhd P p.1 p.2
 | [],_,p,h=>by simp at h
 |q::m,h,p,hp=>by
  rcases Vd.1 hp with rfl|hp
  ·exact h.1
  ·exact ZjQ.mem h.2 p hp
theorem Zhs{P:Program}{m:List (Nat×List Spec)}(h:ZjQ P m){E:Env}(h1:E.specs=fun n=>(m.lookup n).getD []): ∀f, ∀S∈E.specs f,ZaF P f S:=by
 refine fun f S hS=> ?_;have e:E.specs f=(m.lookup f).getD []:=by rw[h1]
 rw[e]at hS
 cases hl:m.lookup f with
 |none=>rw[hl]at hS;simp at hS
 |some l=>rw[hl]at hS;exact(h.mem (f,l) (ZbF hl)).mem S hS
theorem Zaf{P:Program}{tys:List (Nat×Ty)}{ms:List (Nat×Ty×Ty)}{pks bds:List (Nat×Nat)}{rws zxs:List Nat}{m:List (Nat×List Spec)}{nt:Nat}{f:FuncId}{fn:Func}{S:Spec}{hint:ZfT}{pack:ZbQ S.args×ZcJ S.res->S.α}
  (hm:P.follows .mixedOrders=true) (ht:ZgM P tys ms pks bds=true) (hS:ZjQ P m)
  (hev: ∀x z,S.f x=some z->Zh5 (mkE tys ms pks rws zxs m nt bds) (Zcp fn) fn.results hint S.args S.res pack x S.kp=some z)
  (hf:P.funcs[f]? =some fn:=by kernel_rfl) (hb:fn.body=some (Zcp fn):=by kernel_rfl) (hnt:nt=fn.ntmps:=by kernel_rfl) (hname: (fn.name== "runtime.NumGoroutine")=false:=by kernel_rfl)
  (hwf:S.args.wf=true:=by kernel_rfl) (hlen:Nat.ble S.args.len nt=true:=by kernel_rfl) (hpack: ∀y,S.unp (pack y)=y:=by intro y;rfl) (hpl: (!S.pl||m.all fun p=>p.2.all (·.pl))=true:=by kernel_rfl):ZaF P f S:=
 Zkq (E:=mkE tys ms pks rws zxs m nt bds) hm (typesOk_of ht rfl rfl rfl rfl fun _ h=>absurd (show false=true from h) (by decide)) (Zhs hS rfl) (fun _ _ _ _ h e=>absurd (show none=some h from e) (by simp)) hf hb hnt hname hwf hlen hpack (fun h g T hT=>by
  rw[h]at hpl;simp only[Bool.not_true,Bool.false_or,Vc]at hpl;have e: (mkE tys ms pks rws zxs m nt bds).specs g=(m.lookup g).getD []:=rfl;rw[e]at hT
  cases hl:m.lookup g with
  |none=>rw[hl]at hT;simp at hT
  |some l=>rw[hl]at hT;exact hpl (g,l) (ZbF hl) T hT) hev
end Tr
