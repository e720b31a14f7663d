/- More operations: least and greatest, slices of slices, rows made new. Conditions: the table of types is the program's. -/
import Derived.Test.YtdpenljjnfmgiaaGreatTrO
open Array renaming toList_map ->Vs
open Bool renaming not_eq_false' ->Ve,false_eq_true ->Vq
open Go.Builtin renaming min_ ->Vu,max_ ->Vv
open Go.Instr renaming sliceBound ->Vh,sliceAt ->Vi,slice ->Vk,sliceBounds ->Vr
open List renaming take_append_drop ->Vm,map_cons ->Vn,flatten_append ->Vo
open Nat renaming le_refl ->Vg
open Option renaming map_none ->Vf,map_some ->Vj,bind_eq_some_iff ->Vl,isSome_none ->Vp,bind_none ->Vt
open Prod.mk renaming injEq ->Vb
open Go.Result renaming andThen_ok ->Va
open Go.Sem renaming run_bind ->Vc,run_pure ->Vd
namespace Tr
open Go
section ops
variable {P:Program}{E:Env}{B:Zbr}{H:AH}{w:World}{g:Gh}{ow:Nat->Nat->Prop}{nid:Nat}{a:Act}{F:Nat->AV}{v:AV}{patch:ZaY}{rd:List Nat}{o:Oper}
theorem ZhG{f:Int->Int->Int}{m2:Value->Value->Sem Value}(hm: ∀k x y w,(m2 (.int k x) (.int k y)).run P w= .ok (.int k (f x y)) w){k:IntKind}(hF:Fr w g F a.tmps):
  ∀ (l:List Operand) (x:Int) (r r' :List Nat) (v:AV),(Zll f k x (l.map (aev F))).run H r=some (v,r')-> ∃n,v= .d (.int k) n/\((l.map a.eval).foldlM m2 (.int k x)).run P w= .ok (.int k n) w
 | [],x,r,r',v,h=>by
  simp only[List.map_nil,Zll,Zab]at h
  simp_all
 |y::l,x,r,r',v,h=>by
  have hy:=hF.eval y;simp only[Vn]at h ⊢;unfold Zll at h;split at h
  ·grind
  ·rename_i k' b l' heq;obtain⟨h1,h2⟩:=List.cons.inj heq;subst h2;simp only[Zae,Zaa,and_false,or_false,beq_iff_eq]at h;obtain⟨rfl,h⟩:=h;rw[h1]at hy;obtain⟨n,hn,hr⟩:=ZhG hm hF l _ _ _ _ h;refine⟨n,hn, ?_⟩;rw[List.foldlM_cons,VR.int hy,Vc,hm]
   assumption
  ·simp [Zaa]at h
theorem Zpj{c:Call}(hR:RH B H w g ow)(hF:Fr w g F a.tmps)(ho:o.op= .call c)(hc:c.callee= .builtin .min)
  (h: (Za1 E nid o.op o.type (aev F)).run H []=some ((v,patch),rd)):Did B (Zad H patch) w g nid v ((execOp a.eval o).run P w):=by
 rw[ho]at h;simp only[Za1,hc]at h;split at h
 ·rename_i x l hargs;have hx:=hF.eval x;split at h
  ·rename_i k n hy;simp only[Zaj,Zab,Vb]at h;obtain⟨v',m,h,⟨rfl,rfl⟩,_⟩:=h;obtain⟨n',rfl,hr⟩:=ZhG (P:=P) (m2:=Builtin.min2) (fun _ _ _ _=>rfl) hF l _ _ _ _ h;rw[hy]at hx;refine Did.pure hR (val:= .int k n') ?_ (Zbj _ _)
   have: (Vu c.argTypes o.type (c.args.map a.eval)).run P w= .ok (.int k n') w:=by unfold Vu;rw[Vs,hargs,Vn,VR.int hx];omega
   simp only[execOp,ho,ZaL hc,builtin,Vc,this,Va,Vd]
  ·simp [Zaa]at h
 ·simp [Zaa]at h
theorem Zpw{c:Call}(hR:RH B H w g ow)(hF:Fr w g F a.tmps)(ho:o.op= .call c)(hc:c.callee= .builtin .max)
  (h: (Za1 E nid o.op o.type (aev F)).run H []=some ((v,patch),rd)):Did B (Zad H patch) w g nid v ((execOp a.eval o).run P w):=by
 rw[ho]at h;simp only[Za1,hc]at h;split at h
 ·rename_i x l hargs;have hx:=hF.eval x;split at h
  ·rename_i k n hy;simp only[Zaj,Zab,Vb]at h;obtain⟨v',m,h,⟨rfl,rfl⟩,_⟩:=h;obtain⟨n',rfl,hr⟩:=ZhG (P:=P) (m2:=Builtin.max2) (fun _ _ _ _=>rfl) hF l _ _ _ _ h;rw[hy]at hx;refine Did.pure hR (val:= .int k n') ?_ (Zbj _ _)
   have: (Vv c.argTypes o.type (c.args.map a.eval)).run P w= .ok (.int k n') w:=by unfold Vv;rw[Vs,hargs,Vn,VR.int hx];omega
   simp only[execOp,ho,ZaL hc,builtin,Vc,this,Va,Vd]
  ·simp [Zaa]at h
 ·simp [Zaa]at h
theorem Zkt{x:Operand}{n:Int}(hF:Fr w g F a.tmps)(h:Zba (aev F x)=some n): ∃k,a.eval x= .int k n:=by
 have hx:=hF.eval x;unfold Zba at h;split at h
 ·rename_i k m hy;cases h;rw[hy]at hx;exact⟨k,VR.int hx⟩
 grind
theorem Za6{len cap:Nat}{isS:Bool}{lo hi:Option Operand}{l h cap' :Nat}(hF:Fr w g F a.tmps)(hcap:cap<=cap')
  (hlo: ∀x∈lo,(Zba (aev F x)).isSome) (hhi: ∀x∈hi,(Zba (aev F x)).isSome)
  (hs:sliceB len cap (lo.bind fun o=>Zba (aev F o)) (hi.bind fun o=>Zba (aev F o))=some (l,h)) (hlc:len<=cap):
  (Vr isS len cap' (lo.map a.eval) (hi.map a.eval) none).run P w= .ok (l,h,cap') w/\l<=h/\h<=cap:=by
 have bound: ∀ (x:Operand) (n:Int) (y:Nat) (code:BoundsCode),Zba (aev F x)=some n->0<=n->n<=y->(Vh (a.eval x) y code).run P w= .ok n.toNat w:=by intro x n y code hx h0 h1;obtain⟨k,he⟩:=Zkt hF hx;simp only[Vh,he,asIntOf,Vc,Vd,Va,h0,h1,and_self,if_true]
 unfold sliceB at hs;simp only[Vl]at hs;obtain⟨h',hh,hl⟩:=hs
 have hhigh: ((match hi.map a.eval,(none:Option Value) with
  |some v,some _=>Vh v cap' .slice3B
  |some v,none=>Vh v cap' (if isS then .sliceAcap else .sliceAlen)
  |none,none=>pure len
  |none,some _=>stuck "Slice: max without high"):Sem Nat).run P w= .ok h' w∧h' ≤cap:=by
  cases hi with
  |none=>simp_all
  |some x=>
   grind
 have hlow: ((match lo.map a.eval with
  |some v=>Vh v h' (if (none:Option Value).isSome then .slice3C else .sliceB)
  |none=>pure 0):Sem Nat).run P w= .ok l w/\l<=h' /\h' =h:=by
  cases lo with
  |none=>simp only[Vt,Option.some.injEq,Vb]at hl;obtain⟨rfl,rfl⟩:=hl;simp
  |some x=>
   grind
 obtain⟨h1,h2⟩:=hhigh;obtain⟨h3,h4,rfl⟩:=hlow;refine⟨?_,h4,h2⟩;unfold Vr
 cases hi<;>cases lo<;>simp only[Vf,Vj,Vc,Vd,Va,Vp,Vq,if_false]at h1 h3 ⊢ <;> (simp_all)<;> (simp_all)<;>simp_all
theorem ZcC.part{w:World}{b off:Nat}{css:List (List Value)}{s l n:Nat}(hs: ∀c∈css,c.length=s)(hl:l<=css.length)(h:ZcC w b off css.flatten):ZcC w b (off+l*s) ((css.drop l).take n).flatten:=by
 have e:css.flatten=(css.take l).flatten++(((css.drop l).take n).flatten++((css.drop l).drop n).flatten):=by rw[<-Vo,Vm, <-Vo,Vm]
 have hlen: (css.take l).flatten.length=l*s:=by rw[Zap fun c hc=>hs c (List.mem_of_mem_take hc),List.length_take,Nat.min_eq_left hl]
 intro j hj;have hj' :l*s+j<css.flatten.length:=by grind
 have:=h (l*s+j) hj'
 grind
theorem ZbP{lo:Option Operand}(h:Zbm (aev F) lo=true): ∀x∈lo,(Zba (aev F x)).isSome:=by intro x hx;cases hx;exact h
theorem Zny{T:TypeId}{x:Operand}{lo hi:Option Operand}(hT:Zah P E)(hR:RH B H w g ow)(hF:Fr w g F a.tmps)(ho:o.op= .slice T x lo hi none)
  (h: (Za1 E nid o.op o.type (aev F)).run H []=some ((v,patch),rd)):Did B (Zad H patch) w g nid v ((execOp a.eval o).run P w):=by
 rw[ho]at h;simp only[Za1,Zae,Zaa,and_false,false_or,Ve,Bool.and_eq_true]at h;obtain⟨⟨hlo,hhi⟩,h⟩:=h;have hlo:=ZbP hlo;have hhi:=ZbP hhi;have hx:=hF.eval x;split at h
 ·rename_i t xs hy;simp only[Zae,Zac,Zab,Zaa,and_false,false_or,Ve,beq_iff_eq,Vb]at h;obtain⟨ht,⟨l,h'⟩,hs,⟨rfl,rfl⟩,_⟩:=h;obtain⟨Et,hu,hEt⟩:=Zar hT ht;obtain⟨a0,cap,css,he,hfa,hl,hcap⟩:=(hy▸hx).sl;obtain⟨hb,hlh,hhl⟩:=Za6 (P:=P) (w:=w) (isS:=true) hF hcap hlo hhi hs (Vg _)
  refine Did.pure hR (val:= .slice (if cap=l then a0 else a0.map (·.add (l*t.size))) (h' - l) (cap - l)) ?_ (ZaR ?_ rfl rfl)
  ·simp only[execOp,ho,he,Vi,Vk,Vf,underlying,Vc,run_program,Va,hu,Vd,hb,(hT.ty Et t hEt).run_sizeOf]
  ·simp only[CV,Rd];have hlen: ((xs.drop l).take (h' - l)).length=h' - l:=by grind
   refine⟨_,cap - l,(css.drop l).take (h' - l),by rw[hlen],(hfa.drop l).take _,fun hne=> ?_,by omega⟩;have hpos:0<h' - l:=by grind
   obtain⟨b,off,rfl,hI,hL⟩:=hl (by grind);refine⟨b,off+l*t.size, ?_,hI,ZcC.part (Rd.all_length hfa) (by rw[<-hfa.length];omega) hL⟩;rw[if_neg (by omega)];simp only[Vj,Option.some.injEq];unfold Addr.add;simp
 ·rename_i s hy;simp only[Zae,Zac,Zab,Zaa,and_false,false_or,Ve,beq_iff_eq,Vb]at h;obtain⟨ht,⟨l,h'⟩,hs,⟨rfl,rfl⟩,_⟩:=h;rw[hy]at hx;obtain⟨hb,hlh,hhl⟩:=Za6 (P:=P) (w:=w) (isS:=false) hF (Vg _) hlo hhi hs (Vg _);have hsz: (⟨s.toArray⟩:ByteArray).size=s.length:=by rfl
  refine Did.pure hR (val:= .string ((⟨s.toArray⟩:ByteArray).extract l h')) ?_ ?_
  ·simp only[execOp,ho,VR.str hx,Vi,Vk,Vf,underlying,Vc,run_program,Va,ZeZ hT ht,Vd,Vp,Vq,if_false,hsz,hb]
  ·have: (⟨s.toArray⟩:ByteArray).extract l h' =⟨((s.drop l).take (h' - l)).toArray⟩:=by apply ByteArray.ext;simp
   rw[this];exact ZiC _
 ·rename_i hy;split at h
  ·rename_i t ht;simp only[Zac,Zab,Vb]at h;obtain⟨⟨l,h'⟩,hs,⟨rfl,rfl⟩,_⟩:=h;obtain⟨Et,hu,hEt⟩:=Zar hT ht;have he:=(hy▸hx).nils;obtain⟨hb,hlh,hhl⟩:=Za6 (P:=P) (w:=w) (isS:=true) hF (Vg 0) hlo hhi hs (Vg _);have hl0:l=0:=by omega
   have hh0:h' =0:=by omega
   subst hl0 hh0;refine Did.pure hR (val:= .slice none 0 0) ?_ (by grind);simp only[execOp,ho,he,Vi,Vk,Vf,underlying,Vc,run_program,Va,hu,Vd,hb,(hT.ty Et t hEt).run_sizeOf];rfl
  ·simp [Zaa]at h
 ·rename_i id hy;rw[Zag]at h;split at h
  ·rename_i t xs hH;simp only[Zae,Zac,Zaa,and_false,false_or,Ve,beq_iff_eq]at h;obtain⟨ht,⟨l,h'⟩,hs,h⟩:=h
   have hh:v= .vs id l (h' - l)/\patch=[]:=by
    cases lo with
    |none=>
     simp only[Zab,Vb]at h
     have hl:0=l:=by simp only[sliceB,Vt,Vl,Option.some.injEq,Vb]at hs;omega
     grind
    |some x=>
     simp only[Zab,Vb]at h
     grind
   obtain⟨rfl,rfl⟩:=hh;obtain⟨Et,hu,hEt⟩:=Zar hT ht;obtain⟨hk,he⟩:=(hy▸hx).vw;obtain⟨_,hty,hO⟩:=hR.objs id _ hH
   have key: ∃ (a0:Option Addr) (cap:Nat),g.slv id= .slice a0 xs.length cap/\xs.length<=cap/\(∀l n,l+n<=xs.length->Zds (g.slv id) t.size l n [.slice (if cap=l then a0 else a0.map (·.add (l*t.size))) n (cap - l)]):=by
    rcases hO with ⟨rfl,_,hO⟩ | ⟨b,cap,cs,e,css,_,_,hO,_,hcap,_⟩
    ·refine⟨none,0,hO,Vg _,fun l n hln=> .inl ⟨hO, ?_, ?_, ?_⟩⟩
     all_goals grind
    ·refine⟨_,cap,hO,hcap,fun l n hln=> .inr ⟨b,xs.length,cap,cap - l,hO,hln,by omega,by omega, ?_⟩⟩;congr 2;by_cases h0:cap=l
     ·grind
     ·rw[if_neg h0,if_neg (by omega)];simp only[Vj,Option.some.injEq];unfold Addr.add
      grind
   obtain⟨a0,cap,hv,hcap,hsub⟩:=key;obtain⟨hb,hlh,hhl⟩:=Za6 (P:=P) (w:=w) (isS:=true) hF hcap hlo hhi hs (Vg _)
   refine Did.pure hR (val:= .slice (if cap=l then a0 else a0.map (·.add (l*t.size))) (h' - l) (cap - l)) ?_ (ZaR ?_ rfl rfl)
   ·simp only[execOp,ho,he,hv,Vi,Vk,Vf,underlying,Vc,run_program,Va,hu,Vd,hb,(hT.ty Et t hEt).run_sizeOf]
   ·simp only[CV]
    grind
  ·rename_i t xs hH;simp only[Zae,Zac,Zab,Zaa,and_false,false_or,Ve,beq_iff_eq,Vb]at h;obtain⟨ht,⟨l,h'⟩,hs,⟨rfl,rfl⟩,_⟩:=h;obtain⟨Et,hu,hEt⟩:=Zar hT ht;obtain⟨a0,cap,css,he,hfa,hl,hcap⟩:=(Zkm hR hH (hy▸hx)).sl;obtain⟨hb,hlh,hhl⟩:=Za6 (P:=P) (w:=w) (isS:=true) hF hcap hlo hhi hs (Vg _)
   refine Did.pure hR (val:= .slice (if cap=l then a0 else a0.map (·.add (l*t.size))) (h' - l) (cap - l)) ?_ (ZaR ?_ rfl rfl)
   ·simp only[execOp,ho,he,Vi,Vk,Vf,underlying,Vc,run_program,Va,hu,Vd,hb,(hT.ty Et t hEt).run_sizeOf]
   ·simp only[CV,Rd];have hlen: ((xs.drop l).take (h' - l)).length=h' - l:=by grind
    refine⟨_,cap - l,(css.drop l).take (h' - l),by rw[hlen],(hfa.drop l).take _,fun hne=> ?_,by omega⟩;have hpos:0<h' - l:=by grind
    obtain⟨b,off,rfl,hI,hL⟩:=hl (by grind);refine⟨b,off+l*t.size, ?_,hI,ZcC.part (Rd.all_length hfa) (by rw[<-hfa.length];omega) hL⟩;rw[if_neg (by omega)];simp only[Vj,Option.some.injEq];unfold Addr.add;simp
  ·simp [Zaa]at h
 ·simp [Zaa]at h
end ops
end Tr
