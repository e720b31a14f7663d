/- More operations: least and greatest, slices of slices, rows made new. Conditions: the table of types is the program's. -/
import Derived.Test.YtibiblkamaajeaaGreatTrO
open Array renaming toList_map ->Vx
open Bool renaming not_eq_false' ->Ve,false_eq_true ->Vu
open Go.Builtin renaming min_ ->Vz,max_ ->Vaa
open Go.Instr renaming sliceBound ->Vi,sliceAt ->Vk,slice ->Vl,sliceBounds ->Vw
open List renaming getElem?_eq_getElem ->Vj,take_append_drop ->Vp,map_cons ->Vq,flatten_append ->Vr,length_pos_iff ->Vs,length_append ->Vv
open Nat renaming le_refl ->Vh
open Option renaming map_some ->Vf,map_none ->Vg,isSome_iff_exists ->Vm,bind_none ->Vn,bind_eq_some_iff ->Vo,isSome_none ->Vt,bind_some ->Vy
open Prod.mk renaming injEq ->Vb
open Go.Result renaming andThen_ok ->Va
open Go.Sem renaming run_bind ->Vc,run_pure ->Vd
namespace Tr
open Go
section ops
variable {P:Program}{E:Env}{B:Zcs}{H:AH}{w:World}{g:Gh}{ow:Nat->Nat->Prop}{nid:Nat}{a:Act}{F:Nat->AV}{v:AV}{patch:Zbt}{rd:List Nat}{o:Oper}
theorem Zlg{f:Int->Int->Int}{m2:Value->Value->Sem Value}(hm: ∀k x y w,(m2 (.int k x) (.int k y)).run P w= .ok (.int k (f x y)) w){k:IntKind}(hF:Fr w g F a.tmps):
  ∀ (l:List Operand) (x:Int) (r r' :List Nat) (v:AV),(Zqg f k x (l.map (aev F))).run H r=some (v,r')-> ∃n,v= .d (.int k) n/\((l.map a.eval).foldlM m2 (.int k x)).run P w= .ok (.int k n) w
 | [],x,r,r',v,h=>by
  simp only[List.map_nil,Zqg,Zab]at h
  exact⟨x,h.1.symm,rfl⟩
 |y::l,x,r,r',v,h=>by
  have hy:=hF.eval y;simp only[Vq]at h ⊢;unfold Zqg at h;split at h
  ·rename_i heq;simp at heq
  ·rename_i k' b l' heq;obtain⟨h1,h2⟩:=List.cons.inj heq;subst h2;simp only[Zao,Zaa,and_false,or_false,beq_iff_eq]at h;obtain⟨rfl,h⟩:=h;rw[h1]at hy;obtain⟨n,hn,hr⟩:=Zlg hm hF l _ _ _ _ h;refine⟨n,hn, ?_⟩;rw[List.foldlM_cons,VR.int hy,Vc,hm];exact hr
  ·simp [Zaa]at h
theorem ZvE{c:Call}(hR:RH B H w g ow)(hF:Fr w g F a.tmps)(ho:o.op= .call c)(hc:c.callee= .builtin .min)
  (h: (aop E nid o.op o.type (aev F)).run H []=some ((v,patch),rd)):Did B (Zag H patch) w g nid v ((execOp a.eval o).run P w):=by
 rw[ho]at h;simp only[aop,hc]at h;split at h
 ·rename_i x l hargs;have hx:=hF.eval x;split at h
  ·rename_i k n hy;simp only[Zav,Zab,Vb]at h;obtain⟨v',m,h,⟨rfl,rfl⟩,_⟩:=h;obtain⟨n',rfl,hr⟩:=Zlg (P:=P) (m2:=Builtin.min2) (fun _ _ _ _=>rfl) hF l _ _ _ _ h;rw[hy]at hx;refine Did.pure hR (val:= .int k n') ?_ (Zb0 _ _)
   have: (Vz c.argTypes o.type (c.args.map a.eval)).run P w= .ok (.int k n') w:=by unfold Vz;rw[Vx,hargs,Vq,VR.int hx];exact hr
   simp only[execOp,ho,Zbq hc,builtin,Vc,this,Va,Vd]
  ·simp [Zaa]at h
 ·simp [Zaa]at h
theorem Zwj{c:Call}(hR:RH B H w g ow)(hF:Fr w g F a.tmps)(ho:o.op= .call c)(hc:c.callee= .builtin .max)
  (h: (aop E nid o.op o.type (aev F)).run H []=some ((v,patch),rd)):Did B (Zag H patch) w g nid v ((execOp a.eval o).run P w):=by
 rw[ho]at h;simp only[aop,hc]at h;split at h
 ·rename_i x l hargs;have hx:=hF.eval x;split at h
  ·rename_i k n hy;simp only[Zav,Zab,Vb]at h;obtain⟨v',m,h,⟨rfl,rfl⟩,_⟩:=h;obtain⟨n',rfl,hr⟩:=Zlg (P:=P) (m2:=Builtin.max2) (fun _ _ _ _=>rfl) hF l _ _ _ _ h;rw[hy]at hx;refine Did.pure hR (val:= .int k n') ?_ (Zb0 _ _)
   have: (Vaa c.argTypes o.type (c.args.map a.eval)).run P w= .ok (.int k n') w:=by unfold Vaa;rw[Vx,hargs,Vq,VR.int hx];exact hr
   simp only[execOp,ho,Zbq hc,builtin,Vc,this,Va,Vd]
  ·simp [Zaa]at h
 ·simp [Zaa]at h
theorem Zpx{x:Operand}{n:Int}(hF:Fr w g F a.tmps)(h:ZbZ (aev F x)=some n): ∃k,a.eval x= .int k n:=by
 have hx:=hF.eval x;unfold ZbZ at h;split at h
 ·rename_i k m hy;cases h;rw[hy]at hx;exact⟨k,VR.int hx⟩
 ·cases h
theorem ZbW{len cap:Nat}{isS:Bool}{lo hi:Option Operand}{l h cap' :Nat}(hF:Fr w g F a.tmps)(hcap:cap<=cap')
  (hlo: ∀x∈lo,(ZbZ (aev F x)).isSome) (hhi: ∀x∈hi,(ZbZ (aev F x)).isSome)
  (hs:sliceB len cap (lo.bind fun o=>ZbZ (aev F o)) (hi.bind fun o=>ZbZ (aev F o))=some (l,h)) (hlc:len<=cap):
  (Vw isS len cap' (lo.map a.eval) (hi.map a.eval) none).run P w= .ok (l,h,cap') w/\l<=h/\h<=cap:=by
 have bound: ∀ (x:Operand) (n:Int) (y:Nat) (code:BoundsCode),ZbZ (aev F x)=some n->0<=n->n<=y->(Vi (a.eval x) y code).run P w= .ok n.toNat w:=by intro x n y code hx h0 h1;obtain⟨k,he⟩:=Zpx hF hx;simp only[Vi,he,asIntOf,Vc,Vd,Va,h0,h1,and_self,if_true]
 unfold sliceB at hs;simp only[Vo]at hs;obtain⟨h',hh,hl⟩:=hs
 have hhigh: ((match hi.map a.eval,(none:Option Value) with
  |some v,some _=>Vi v cap' .slice3B
  |some v,none=>Vi v cap' (if isS then .sliceAcap else .sliceAlen)
  |none,none=>pure len
  |none,some _=>stuck "Slice: max without high"):Sem Nat).run P w= .ok h' w∧h' ≤cap:=by
  cases hi with
  |none=>simp only[Vn,Option.some.injEq]at hh;subst hh;exact⟨rfl,hlc⟩
  |some x=>
   obtain⟨n,hn⟩:=Vm.1 (hhi x rfl);simp only[Vy,hn]at hh;split at hh
   ·rename_i hb;cases hh;refine⟨?_,by omega⟩;simp only[Vf];exact bound x n cap' _ hn hb.1 (by omega)
   ·cases hh
 have hlow: ((match lo.map a.eval with
  |some v=>Vi v h' (if (none:Option Value).isSome then .slice3C else .sliceB)
  |none=>pure 0):Sem Nat).run P w= .ok l w/\l<=h' /\h' =h:=by
  cases lo with
  |none=>simp only[Vn,Option.some.injEq,Vb]at hl;obtain⟨rfl,rfl⟩:=hl;exact⟨rfl,Nat.zero_le _,rfl⟩
  |some x=>
   obtain⟨n,hn⟩:=Vm.1 (hlo x rfl);simp only[Vy,hn]at hl;split at hl
   ·rename_i hb;simp only[Option.some.injEq,Vb]at hl;obtain⟨rfl,rfl⟩:=hl;refine⟨?_,by omega,rfl⟩;simp only[Vf];exact bound x n h' _ hn hb.1 (by omega)
   ·cases hl
 obtain⟨h1,h2⟩:=hhigh;obtain⟨h3,h4,rfl⟩:=hlow;refine⟨?_,h4,h2⟩;unfold Vw
 cases hi<;>cases lo<;>simp only[Vg,Vf,Vc,Vd,Va,Vt,Vu,if_false]at h1 h3 ⊢ <;> (try simp only[Result.ok.injEq,and_true]at h1)<;> (try simp only[Result.ok.injEq,and_true]at h3)<;>simp_all
theorem Zec.part{w:World}{b off:Nat}{css:List (List Value)}{s l n:Nat}(hs: ∀c∈css,c.length=s)(hl:l<=css.length)(h:Zec w b off css.flatten):Zec w b (off+l*s) ((css.drop l).take n).flatten:=by
 have e:css.flatten=(css.take l).flatten++(((css.drop l).take n).flatten++((css.drop l).drop n).flatten):=by rw[<-Vr,Vp, <-Vr,Vp]
 have hlen: (css.take l).flatten.length=l*s:=by rw[ZaM fun c hc=>hs c (List.mem_of_mem_take hc),List.length_take,Nat.min_eq_left hl]
 intro j hj;have hj' :l*s+j<css.flatten.length:=by rw[e,Vv,Vv,hlen];omega
 have:=h (l*s+j) hj';rw[<-Nat.add_assoc]at this;rw[this];congr 1;have e1:css.flatten[l*s+j]'hj' =(css.flatten[l*s+j]?).get (by rw[Vj hj'];rfl):=by simp
 rw[<-Option.some_inj, <-Vj,e,List.getElem?_append_right (by omega),hlen,Nat.add_sub_cancel_left,List.getElem?_append_left hj,Vj]
theorem ZhG{lo:Option Operand}(h:Zea (aev F) lo=true): ∀x∈lo,(ZbZ (aev F x)).isSome:=by intro x hx;cases hx;exact h
theorem ZrY{T:TypeId}{x:Operand}{lo hi:Option Operand}(hT:ZaB P E)(hR:RH B H w g ow)(hF:Fr w g F a.tmps)(ho:o.op= .slice T x lo hi none)
  (h: (aop E nid o.op o.type (aev F)).run H []=some ((v,patch),rd)):Did B (Zag H patch) w g nid v ((execOp a.eval o).run P w):=by
 rw[ho]at h;simp only[aop,Zao,Zaa,and_false,false_or,Ve,Bool.and_eq_true]at h;obtain⟨⟨hlo,hhi⟩,h⟩:=h;have hlo:=ZhG hlo;have hhi:=ZhG hhi;have hx:=hF.eval x;split at h
 ·rename_i t xs hy;simp only[Zao,Zah,Zab,Zaa,and_false,false_or,Ve,beq_iff_eq,Vb]at h;obtain⟨ht,⟨l,h'⟩,hs,⟨rfl,rfl⟩,_⟩:=h;obtain⟨Et,hu,hEt⟩:=ZaR hT ht;obtain⟨a0,cap,css,he,hfa,hl,hcap⟩:=(hy▸hx).sl;obtain⟨hb,hlh,hhl⟩:=ZbW (P:=P) (w:=w) (isS:=true) hF hcap hlo hhi hs (Vh _)
  refine Did.pure hR (val:= .slice (if cap=l then a0 else a0.map (·.add (l*t.size))) (h' - l) (cap - l)) ?_ (Zbl ?_ rfl rfl)
  ·simp only[execOp,ho,he,Vk,Vl,Vg,underlying,Vc,run_program,Va,hu,Vd,hb,(hT.ty Et t hEt).run_sizeOf]
  ·simp only[CV,Rd];have hlen: ((xs.drop l).take (h' - l)).length=h' - l:=by simp;omega
   refine⟨_,cap - l,(css.drop l).take (h' - l),by rw[hlen],(hfa.drop l).take _,fun hne=> ?_,by rw[hlen];omega⟩;have hpos:0<h' - l:=by rw[<-hlen];exact Vs.2 hne
   obtain⟨b,off,rfl,hI,hL⟩:=hl (by rintro rfl;simp at hhl;omega);refine⟨b,off+l*t.size, ?_,hI,Zec.part (Rd.all_length hfa) (by rw[<-hfa.length];omega) hL⟩;rw[if_neg (by omega)];simp only[Vf,Option.some.injEq];unfold Addr.add;split
   ·rename_i h0;rw[h0];rfl
   ·rfl
 ·rename_i s hy;simp only[Zao,Zah,Zab,Zaa,and_false,false_or,Ve,beq_iff_eq,Vb]at h;obtain⟨ht,⟨l,h'⟩,hs,⟨rfl,rfl⟩,_⟩:=h;rw[hy]at hx;obtain⟨hb,hlh,hhl⟩:=ZbW (P:=P) (w:=w) (isS:=false) hF (Vh _) hlo hhi hs (Vh _);have hsz: (⟨s.toArray⟩:ByteArray).size=s.length:=by simp [ByteArray.size]
  refine Did.pure hR (val:= .string ((⟨s.toArray⟩:ByteArray).extract l h')) ?_ ?_
  ·simp only[execOp,ho,VR.str hx,Vk,Vl,Vg,underlying,Vc,run_program,Va,Zhg hT ht,Vd,Vt,Vu,if_false,hsz,hb]
  ·have: (⟨s.toArray⟩:ByteArray).extract l h' =⟨((s.drop l).take (h' - l)).toArray⟩:=by apply ByteArray.ext;rw[ByteArray.data_extract];apply Array.toList_inj.1;simp [List.extract]
   rw[this];exact Zmg _
 ·rename_i hy;split at h
  ·rename_i t ht;simp only[Zah,Zab,Vb]at h;obtain⟨⟨l,h'⟩,hs,⟨rfl,rfl⟩,_⟩:=h;obtain⟨Et,hu,hEt⟩:=ZaR hT ht;have he:=(hy▸hx).nils;obtain⟨hb,hlh,hhl⟩:=ZbW (P:=P) (w:=w) (isS:=true) hF (Vh 0) hlo hhi hs (Vh _);have hl0:l=0:=by omega
   have hh0:h' =0:=by omega
   subst hl0 hh0;refine Did.pure hR (val:= .slice none 0 0) ?_ (Zbl (by simp only[CV]) rfl rfl);simp only[execOp,ho,he,Vk,Vl,Vg,underlying,Vc,run_program,Va,hu,Vd,hb,(hT.ty Et t hEt).run_sizeOf];rfl
  ·simp [Zaa]at h
 ·rename_i id hy;rw[Zap]at h;split at h
  ·rename_i t xs hH;simp only[Zao,Zah,Zaa,and_false,false_or,Ve,beq_iff_eq]at h;obtain⟨ht,⟨l,h'⟩,hs,h⟩:=h
   have hh:v= .vs id l (h' - l)/\patch=[]:=by
    cases lo with
    |none=>
     simp only[Zab,Vb]at h
     have hl:0=l:=by simp only[sliceB,Vn,Vo,Option.some.injEq,Vb]at hs;obtain⟨_,_,h1,_⟩:=hs;exact h1
     subst hl
     exact⟨h.1.1.symm,h.1.2.symm⟩
    |some x=>
     simp only[Zab,Vb]at h;exact⟨h.1.1.symm,h.1.2.symm⟩
   obtain⟨rfl,rfl⟩:=hh;obtain⟨Et,hu,hEt⟩:=ZaR hT ht;obtain⟨hk,he⟩:=(hy▸hx).vw;obtain⟨_,hty,hO⟩:=hR.objs id _ hH
   have key: ∃ (a0:Option Addr) (cap:Nat),g.slv id= .slice a0 xs.length cap/\xs.length<=cap/\(∀l n,l+n<=xs.length->ZfP (g.slv id) t.size l n [.slice (if cap=l then a0 else a0.map (·.add (l*t.size))) n (cap - l)]):=by
    rcases hO with ⟨rfl,_,hO⟩ | ⟨b,cap,cs,e,css,_,_,hO,_,hcap,_⟩
    ·refine⟨none,0,hO,Vh _,fun l n hln=> .inl ⟨hO, ?_, ?_, ?_⟩⟩
     ·simp at hln;omega
     ·simp at hln;omega
     ·simp at hln;obtain⟨rfl,rfl⟩:l=0/\n=0:=by omega
      rfl
    ·refine⟨_,cap,hO,hcap,fun l n hln=> .inr ⟨b,xs.length,cap,cap - l,hO,hln,by omega,by omega, ?_⟩⟩;congr 2;by_cases h0:cap=l
     ·simp [h0]
     ·rw[if_neg h0,if_neg (by omega)];simp only[Vf,Option.some.injEq];unfold Addr.add;split
      ·rename_i h0;rw[h0]
      ·simp
   obtain⟨a0,cap,hv,hcap,hsub⟩:=key;obtain⟨hb,hlh,hhl⟩:=ZbW (P:=P) (w:=w) (isS:=true) hF hcap hlo hhi hs (Vh _)
   refine Did.pure hR (val:= .slice (if cap=l then a0 else a0.map (·.add (l*t.size))) (h' - l) (cap - l)) ?_ (Zbl ?_ rfl rfl)
   ·simp only[execOp,ho,he,hv,Vk,Vl,Vg,underlying,Vc,run_program,Va,hu,Vd,hb,(hT.ty Et t hEt).run_sizeOf]
   ·simp only[CV];exact⟨hk,by rw[hty];exact hsub l (h' - l) (by omega)⟩
  ·rename_i t xs hH;simp only[Zao,Zah,Zab,Zaa,and_false,false_or,Ve,beq_iff_eq,Vb]at h;obtain⟨ht,⟨l,h'⟩,hs,⟨rfl,rfl⟩,_⟩:=h;obtain⟨Et,hu,hEt⟩:=ZaR hT ht;obtain⟨a0,cap,css,he,hfa,hl,hcap⟩:=(Zo4 hR hH (hy▸hx)).sl;obtain⟨hb,hlh,hhl⟩:=ZbW (P:=P) (w:=w) (isS:=true) hF hcap hlo hhi hs (Vh _)
   refine Did.pure hR (val:= .slice (if cap=l then a0 else a0.map (·.add (l*t.size))) (h' - l) (cap - l)) ?_ (Zbl ?_ rfl rfl)
   ·simp only[execOp,ho,he,Vk,Vl,Vg,underlying,Vc,run_program,Va,hu,Vd,hb,(hT.ty Et t hEt).run_sizeOf]
   ·simp only[CV,Rd];have hlen: ((xs.drop l).take (h' - l)).length=h' - l:=by simp;omega
    refine⟨_,cap - l,(css.drop l).take (h' - l),by rw[hlen],(hfa.drop l).take _,fun hne=> ?_,by rw[hlen];omega⟩;have hpos:0<h' - l:=by rw[<-hlen];exact Vs.2 hne
    obtain⟨b,off,rfl,hI,hL⟩:=hl (by rintro rfl;simp at hhl;omega);refine⟨b,off+l*t.size, ?_,hI,Zec.part (Rd.all_length hfa) (by rw[<-hfa.length];omega) hL⟩;rw[if_neg (by omega)];simp only[Vf,Option.some.injEq];unfold Addr.add;split
    ·rename_i h0;rw[h0];rfl
    ·rfl
  ·simp [Zaa]at h
 ·simp [Zaa]at h
end ops
end Tr
