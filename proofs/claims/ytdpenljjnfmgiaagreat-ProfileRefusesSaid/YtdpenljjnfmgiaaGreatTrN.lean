/- Operations on numbers, strings and bools; conversions; function values; lengths. Conditions: the table of types is the program's. -/
import Derived.Test.YtdpenljjnfmgiaaGreatTrM
open Bool renaming and_eq_true ->Vd
open Go.IntKind renaming i64 ->Ve
open Nat renaming le_of_ble_eq_true ->Vc
open Go.Result renaming andThen_ok ->Va
open Go.Sem renaming run_bind ->Vb
namespace Tr
open Go
section ops
variable {P:Program}{E:Env}{B:Zbr}{H:AH}{w:World}{g:Gh}{ow:Nat->Nat->Prop}{nid:Nat}{a:Act}{F:Nat->AV}{v:AV}{patch:ZaY}{rd:List Nat}{o:Oper}
theorem Zdk{op:BinOp}{k:IntKind}{x y:Int}{T:TypeId}{z:Int}(h: (Op.intBits op k x y).run P w= .ok (.int k z) w)(hop:op= .and\/op= .or\/op= .xor\/op= .andNot): (binOp op T (.int k x) (.int k y)).run P w= .ok (.int k z) w:=by
 rcases hop with rfl|rfl|rfl|rfl<;>simp [binOp,h]
theorem Zcd{op:BinOp}{k:IntKind}{x y:Int}{T:TypeId}{b:Bool}(h: (Op.intCmp op x y).run P w= .ok (.bool b) w)(hop:op= .eql\/op= .neq\/op= .lss\/op= .leq\/op= .gtr\/op= .geq): (binOp op T (.int k x) (.int k y)).run P w= .ok (.bool b) w:=by
 rcases hop with rfl|rfl|rfl|rfl|rfl|rfl<;>simp [binOp,h]
theorem ZmI{k:IntKind}{x y z:Int}(h:Zrf k x y=some z):y≠0/\z=k.wrap (x.tdiv y):=by
 unfold Zrf at h;split at h
 ·simp at h
 ·rename_i hy;exact⟨hy,by simpa using h.symm⟩
theorem Zmk{x y z:Int}(h:Zrk x y=some z):y≠0/\z=x.tmod y:=by
 unfold Zrk at h;split at h
 ·simp at h
 ·rename_i hy;exact⟨hy,by simpa using h.symm⟩
theorem ZnI{k:IntKind}{x y z:Int}(h:ZqS k x y=some z): ¬y<0/\z=k.wrap (x*2 ^ (min y.toNat k.bits)):=by
 unfold ZqS at h;split at h
 ·simp at h
 ·rename_i hy;exact⟨hy,by simpa using h.symm⟩
theorem Znm{k:IntKind}{x y z:Int}(h:Zq4 k x y=some z): ¬y<0/\z=x.fdiv (2 ^ (min y.toNat k.bits)):=by
 unfold Zq4 at h;split at h
 ·simp at h
 ·rename_i hy;exact⟨hy,by simpa using h.symm⟩
theorem ZpP{op:BinOp}{k:IntKind}{x y:Int}{l l' :List Nat}{T:TypeId}(h: (ZpU op k x y).run H l=some (v,l')): ∃val,(binOp op T (.int k x) (.int k y)).run P w= .ok val w/\VR w g v val/\l' =l:=by
 cases op<;>simp only[ZpU,Zab,Zac]at h
 case add=>obtain⟨rfl,rfl⟩:=h;exact⟨.int k (k.wrap (x+y)),by simp [binOp,Op.intArith],Zbj _ _,rfl⟩
 case sub=>obtain⟨rfl,rfl⟩:=h;exact⟨.int k (k.wrap (x - y)),by simp [binOp,Op.intArith],Zbj _ _,rfl⟩
 case mul=>obtain⟨rfl,rfl⟩:=h;exact⟨.int k (k.wrap (x*y)),by simp [binOp,Op.intArith],Zbj _ _,rfl⟩
 case quo=>obtain⟨z,hz,rfl,rfl⟩:=h;obtain⟨h0,rfl⟩:=ZmI hz;exact⟨_,by simp [binOp,Op.intDiv,h0],Zbj _ _,rfl⟩
 case rem=>obtain⟨z,hz,rfl,rfl⟩:=h;obtain⟨h0,rfl⟩:=Zmk hz;exact⟨_,by simp [binOp,Op.intDiv,h0],Zbj _ _,rfl⟩
 case and=>obtain⟨rfl,rfl⟩:=h;exact⟨_,Zdk rfl (.inl rfl),Zbj _ _,rfl⟩
 case or=>obtain⟨rfl,rfl⟩:=h;exact⟨_,Zdk rfl (.inr (.inl rfl)),Zbj _ _,rfl⟩
 case xor=>obtain⟨rfl,rfl⟩:=h;exact⟨_,Zdk rfl (.inr (.inr (.inl rfl))),Zbj _ _,rfl⟩
 case andNot=>obtain⟨rfl,rfl⟩:=h;exact⟨_,Zdk rfl (.inr (.inr (.inr rfl))),Zbj _ _,rfl⟩
 case shl=>obtain⟨z,hz,rfl,rfl⟩:=h;obtain⟨h0,rfl⟩:=ZnI hz;exact⟨_,by simp [binOp,Op.shift,h0],Zbj _ _,rfl⟩
 case shr=>obtain⟨z,hz,rfl,rfl⟩:=h;obtain⟨h0,rfl⟩:=Znm hz;exact⟨_,by simp [binOp,Op.shift,h0],Zbj _ _,rfl⟩
 case eql=>obtain⟨rfl,rfl⟩:=h;exact⟨_,Zcd rfl (.inl rfl),Zbe _,rfl⟩
 case neq=>obtain⟨rfl,rfl⟩:=h;exact⟨_,Zcd rfl (.inr (.inl rfl)),Zbe _,rfl⟩
 case lss=>obtain⟨rfl,rfl⟩:=h;exact⟨_,Zcd rfl (.inr (.inr (.inl rfl))),Zbe _,rfl⟩
 case leq=>obtain⟨rfl,rfl⟩:=h;exact⟨_,Zcd rfl (.inr (.inr (.inr (.inl rfl)))),Zbe _,rfl⟩
 case gtr=>obtain⟨rfl,rfl⟩:=h;exact⟨_,Zcd rfl (.inr (.inr (.inr (.inr (.inl rfl))))),Zbe _,rfl⟩
 case geq=>obtain⟨rfl,rfl⟩:=h;exact⟨_,Zcd rfl (.inr (.inr (.inr (.inr (.inr rfl))))),Zbe _,rfl⟩
theorem Zp1{op:BinOp}{x y:List UInt8}{l l' :List Nat}{T:TypeId}(h: (Zrg op x y).run H l=some (v,l')): ∃val,(binOp op T (.string ⟨x.toArray⟩) (.string ⟨y.toArray⟩)).run P w= .ok val w/\VR w g v val/\l' =l:=by
 have heq: (x==y)=decide (x=y):=by rw[Bool.eq_iff_iff];simp
 cases op<;>simp only[Zrg,Zab,Zac,Zaa]at h
 case add=>
  obtain⟨z,hz,rfl,rfl⟩:=h;simp only[catStr]at hz
  cases hd:decide (x.length+y.length<2 ^ 62) with
  |false=>rw[hd]at hz;simp at hz
  |true=>
   rw[hd]at hz;simp only[cond_true,Option.some.injEq]at hz;subst hz;refine⟨_, ?_,ZiC _,rfl⟩;have hlt:x.length+y.length<2 ^ 62:=by simpa using hd
   have hsz: ¬ (((⟨x.toArray⟩:ByteArray).size+(⟨y.toArray⟩:ByteArray).size:Nat):Int) >Ve.max:=by
    have:Ve.max=9223372036854775807:=by decide
    rw[this];simp [ByteArray.size];omega
   simp only[binOp,Op.stringOp,hsz,if_false,Sem.run_pure];congr 2
 all_goals
  obtain⟨rfl,rfl⟩:=h;refine⟨_, ?_,Zbe _,rfl⟩;simp only[binOp,Op.stringOp,ZcG,Sem.run_pure,heq]
theorem Zbc{op:BinOp}{T:TypeId}{x y:Operand}{vx vy:Value}(h1:vx≠ .nilIface)(h2:Zav vx=false): (eqGuard op T x y vx vy).run P w= .ok () w:=by
 unfold eqGuard
 cases vx<;>first|exact absurd rfl h1| (simp [Zav]at h2;done) | (split<;>rfl)
theorem ZfF(hT:Zah P E){T:TypeId}{t:Ty}(ht:E.ty T=some t){op:BinOp}{x y:Operand}{vx vy:Value}(hx:Zav vx=t.agg)(hy:Zav vy=t.agg)(hnx:vx≠ .nilIface): (eqGuard op T x y vx vy).run P w= .ok () w:=by
 cases ha:t.agg with
 |true=>
  rw[ha]at hx hy
  cases vx<;>simp [Zav]at hx
  cases vy<;>simp [Zav]at hy
  exact run_eqGuard_agg w op T x y _ _ (hT.ty T t ht).guard
 |false=>
  rw[ha]at hx;exact Zbc hnx hx
theorem ZpJ{T:TypeId}{op:BinOp}{x y:Operand}{l l' :List Nat}(hT:Zah P E)(hF:Fr w g F a.tmps)(h: (Zri E.ty T op (aev F x) (aev F y)).run H l=some (v,l')):
  ∃val,(do eqGuard op T x y (a.eval x) (a.eval y);binOp op T (a.eval x) (a.eval y):Sem Value).run P w= .ok val w/\VR w g v val/\l' =l:=by
 have hx:=hF.eval x;have hy:=hF.eval y
 have guard0: ∀ {vx vy:Value},vx≠ .nilIface->Zav vx=false->(eqGuard op T x y vx vy).run P w= .ok () w:=by exact fun h1 h2=>Zbc h1 h2
 unfold Zri at h;split at h
 ·rename_i k m k' n hx' hy';rw[hx']at hx;rw[hy']at hy;rw[VR.int hx,VR.int hy];simp only[Vb,guard0 (vx:= .int k m) (by simp) rfl,Va];split at h
  ·simp only[ZpU,Zac,Zab]at h;obtain⟨z,hz,rfl,rfl⟩:=h;refine⟨_, ?_,Zbj _ _,rfl⟩;simp only[ZqS]at hz;split at hz
   ·simp at hz
   ·rename_i hne;simp only[Option.some.injEq]at hz;subst hz;simp [binOp,Op.shift,hne]
  ·simp only[ZpU,Zac,Zab]at h;obtain⟨z,hz,rfl,rfl⟩:=h;refine⟨_, ?_,Zbj _ _,rfl⟩;simp only[Zq4]at hz;split at hz
   ·simp at hz
   ·rename_i hne;simp only[Option.some.injEq]at hz;subst hz;simp [binOp,Op.shift,hne]
  ·simp only[Zae,Zaa,and_false,or_false,beq_iff_eq]at h;obtain⟨rfl,h⟩:=h;exact ZpP h
 ·rename_i s1 s2 hx' hy';rw[hx']at hx;rw[hy']at hy;rw[VR.str hx,VR.str hy];simp only[Vb,guard0 (vx:= .string ⟨s1.toArray⟩) (by simp) rfl,Va];exact Zp1 h
 ·rename_i t x0 t' y0 hni hns hx' hy'
  have data: ∀ (r:Bool) (y1:El t),E.ty T=some t->t.dep<=100->ZaE t' t y0=some y1->ZbC t x0 y1=some r->(Op.equal T (a.eval x) (a.eval y)).run P w= .ok r w/\(eqGuard op T x y (a.eval x) (a.eval y)).run P w= .ok () w/\
    (∀k n,a.eval x≠ .int k n)/\(∀s,a.eval x≠ .string s)/\(∀k n,a.eval x≠ .float k n)/\(∀k n m,a.eval x≠ .complex k n m)/\a.eval x≠ .nilIface:=by
   intro r y1 ht hd hc hr;obtain⟨rfl,rfl⟩:=Zan hc;rw[hx']at hx;rw[hy']at hy;have h1:VR1 w g (.d t' x0) (a.eval x):=hx;have h2:VR1 w g (.d t' y1) (a.eval y):=hy;have hax:Zav (a.eval x)=t'.agg:=h1.2.resolve_left (by simp);have hay:Zav (a.eval y)=t'.agg:=h2.2.resolve_left (by simp)
   have hshape: (∀k n,a.eval x≠ .int k n)/\(∀s,a.eval x≠ .string s)/\(∀k n,a.eval x≠ .float k n)/\(∀k n m,a.eval x≠ .complex k n m)/\a.eval x≠ .nilIface:=by
    cases t' with
    |int k=>exact(hni k x0 k y1 rfl HEq.rfl rfl HEq.rfl).elim
    |str=>exact(hns x0 y1 rfl HEq.rfl rfl HEq.rfl).elim
    |bool=>rw[hx.bool];simp
    |sl t=>simp [ZbC]at hr
    |ref=>simp [ZbC]at hr
    |_=>(cases hv:a.eval x<;>rw[hv]at hax<;>simp [Zav,Ty.agg]at hax ⊢)
   refine⟨ZiJ hT _ t' T x0 y1 _ _ r 10000 (Nat.lt_succ_self _) ht (by omega) hr h1 h2,ZfF hT ht hax hay hshape.2.2.2.2,hshape⟩
  have neqv: ∀ (op:BinOp) (r:Bool),(op= .eql\/op= .neq)->(Op.equal T (a.eval x) (a.eval y)).run P w= .ok r w->(∀k n,a.eval x≠ .int k n)->(∀s,a.eval x≠ .string s)->(∀k n,a.eval x≠ .float k n)->(∀k n m,a.eval x≠ .complex k n m)->
    (binOp op T (a.eval x) (a.eval y)).run P w= .ok (.bool (if op= .eql then r else !r)) w:=by
   intro op r hop he h1 h2 h3 h4
   rcases hop with rfl|rfl<;>unfold binOp<;>cases hv:a.eval x<;>simp_all
  split at h
  ·simp only[Zae,Zac,Zab,Zaa,and_false,or_false,Vd,beq_iff_eq]at h;obtain⟨⟨ht,hd⟩,y1,hc,r,hr,rfl,rfl⟩:=h;obtain⟨h1,h2,h3,h4,h5,h6,_⟩:=data r y1 ht (Vc hd) hc hr;refine⟨.bool r, ?_,Zbe _,rfl⟩;simp only[Vb,h2,Va,neqv .eql r (.inl rfl) h1 h3 h4 h5 h6,if_true]
  ·simp only[Zae,Zac,Zab,Zaa,and_false,or_false,Vd,beq_iff_eq]at h;obtain⟨⟨ht,hd⟩,y1,hc,r,hr,rfl,rfl⟩:=h;obtain⟨h1,h2,h3,h4,h5,h6,_⟩:=data r y1 ht (Vc hd) hc hr;refine⟨.bool (!r), ?_,Zbe _,rfl⟩;simp only[Vb,h2,Va,neqv .neq r (.inr rfl) h1 h3 h4 h5 h6];simp
  ·simp [Zaa]at h
 ·simp [Zaa]at h
end ops
end Tr
