/- More operations: operators, conversions, function values, lengths, slices of slices. Conditions: the table of types is the program's. -/
import Derived.Test.YtdpenljjnfmgiaaGreatTrN
open Bool renaming and_eq_true ->Vd,not_false ->Vg,not_eq_true' ->Vi
open Go.Builtin renaming len_ ->Vf
open Nat renaming beq_eq ->Vk
open Prod.mk renaming injEq ->Ve
open Go.Result renaming andThen_ok ->Va
open Go.Sem renaming run_bind ->Vb,run_pure ->Vc
open Go.Value renaming oneCell' ->Vh,cells ->Vj
namespace Tr
open Go
section ops
variable {P:Program}{E:Env}{B:Zbr}{H:AH}{w:World}{g:Gh}{ow:Nat->Nat->Prop}{nid:Nat}{a:Act}{F:Nat->AV}{v:AV}{patch:ZaY}{rd:List Nat}{o:Oper}
def _root_.Go.Operand.eval' :Operand->Value
 | .const v=>v
 |_=>undef
theorem Zmc{T:TypeId}{u:AV}{vx:Value}{y:Operand}(hT:Zah P E)(hx:VR w g u vx)(h:Zk0 (E.pk T) u y=true):
  (Op.equal T vx y.eval').run P w= .ok false w/\(vx≠ .nilIface/\Zav vx=false)/\ ∀op,(op= .eql->(binOp op T vx y.eval').run P w= .ok (.bool false) w)/\(op= .neq->(binOp op T vx y.eval').run P w= .ok (.bool true) w):=by
 obtain⟨p1,p2,p3⟩:=hT.pk T;unfold Zk0 at h;split at h
 ·simp only[Vd,Vk]at h;obtain⟨hk,h⟩:=h;obtain⟨e,he⟩:=p1 hk;split at h
  ·obtain⟨_,o',t,b,_,_,rfl⟩:=hx.ptr
   have key: (Op.equal T (.pointer (some ⟨b,o',none⟩)) (.pointer none)).run P w= .ok false w:=by
    have: ∀d,(Op.equalIn (d+1) T (.pointer (some ⟨b,o',none⟩)) (.pointer none)).run P w= .ok false w:=fun d=>by simp only[Op.equalIn,underlying,Vb,run_program,Va,he,Vc]
    exact this 9999
   exact⟨key,⟨by simp,rfl⟩,fun op=>⟨fun e=>by subst e;simp only[binOp,Operand.eval',Vb,key,Va,Vc],fun e=>by subst e;simp only[binOp,Operand.eval',Vb,key,Va,Vc,Vg]⟩⟩
  grind
 ·simp only[Vd,Vk]at h;obtain⟨hk,h⟩:=h;obtain⟨e1,e2,e3,he⟩:=p2 hk;split at h
  ·obtain⟨cc,rfl,_⟩:=hx.fn;rename_i f l _
   have key: (Op.equal T (.func (.func f) #[] cc.toArray) .nilFunc).run P w= .ok false w:=by
    have: ∀d,(Op.equalIn (d+1) T (.func (.func f) #[] cc.toArray) .nilFunc).run P w= .ok false w:=fun d=>by simp only[Op.equalIn,underlying,Vb,run_program,Va,he,Vc]
    exact this 9999
   exact⟨key,⟨by simp,rfl⟩,fun op=>⟨fun e=>by subst e;simp only[binOp,Operand.eval',Vb,key,Va,Vc],fun e=>by subst e;simp only[binOp,Operand.eval',Vb,key,Va,Vc,Vg]⟩⟩
  grind
 ·simp only[Vd,Vk]at h;obtain⟨hk,h⟩:=h;obtain⟨e1,e2,he⟩:=p3 hk;split at h
  ·obtain⟨_,b,_,rfl⟩:=hx.mp
   have key: (Op.equal T (.map (some b)) (.map none)).run P w= .ok false w:=by
    have: ∀d,(Op.equalIn (d+1) T (.map (some b)) (.map none)).run P w= .ok false w:=fun d=>by simp only[Op.equalIn,underlying,Vb,run_program,Va,he,Vc]
    exact this 9999
   exact⟨key,⟨by simp,rfl⟩,fun op=>⟨fun e=>by subst e;simp only[binOp,Operand.eval',Vb,key,Va,Vc],fun e=>by subst e;simp only[binOp,Operand.eval',Vb,key,Va,Vc,Vg]⟩⟩
  grind
 grind
theorem ZmP{op:BinOp}{T T' :TypeId}{x y:Operand}(hT:Zah P E)(hR:RH B H w g ow)(hF:Fr w g F a.tmps)(ho:o.op= .binOp op T x y T')
  (h: (Za1 E nid o.op o.type (aev F)).run H []=some ((v,patch),rd)):Did B (Zad H patch) w g nid v ((execOp a.eval o).run P w):=by
 rw[ho]at h;simp only[Za1,Zae]at h;rcases h with ⟨hn,h⟩ | ⟨_,h⟩
 ·obtain⟨heq,hne,hni⟩:=Zmc (w:=w) hT (hF.eval x) hn
  have hy:a.eval y=y.eval' :=by
   cases y<;>simp [Zk0]at hn;rfl
  have hg: ∀op,(eqGuard op T x y (a.eval x) y.eval').run P w= .ok () w:=fun op=>Zbc hne.1 hne.2;split at h
  ·simp only[Zab,Ve]at h;obtain⟨⟨rfl,rfl⟩,_⟩:=h;refine Did.pure hR (val:= .bool false) ?_ (Zbe _);simp only[execOp,ho,hy,Vb,hg,Va,(hni .eql).1 rfl];rfl
  ·simp only[Zab,Ve]at h;obtain⟨⟨rfl,rfl⟩,_⟩:=h;refine Did.pure hR (val:= .bool true) ?_ (Zbe _);simp only[execOp,ho,hy,Vb,hg,Va,(hni .neq).2 rfl];rfl
  ·simp [Zaa]at h
 simp only[Zaj,Zab,Ve]at h;obtain⟨v',m,h,⟨rfl,rfl⟩,_⟩:=h;obtain⟨val,h1,h2,_⟩:=ZpJ hT hF h;refine Did.pure hR ?_ h2;simp only[execOp,ho];rw[Vb,h1];rfl
theorem Zoe{op:UnOp}{T:TypeId}{x:Operand}(hR:RH B H w g ow)(hF:Fr w g F a.tmps)(ho:o.op= .unOp op T x)
  (h: (Za1 E nid o.op o.type (aev F)).run H []=some ((v,patch),rd)):Did B (Zad H patch) w g nid v ((execOp a.eval o).run P w):=by
 rw[ho]at h;simp only[Za1,Zaj,Zab,Ve]at h;obtain⟨v',m,h,⟨rfl,rfl⟩,_⟩:=h;have hx:=hF.eval x;unfold aun at h;split at h
 ·rename_i b hy;simp only[Zab]at h;obtain⟨rfl,_⟩:=h;rw[hy]at hx;refine Did.pure hR (val:= .bool (!b)) ?_ (Zbe _);simp only[execOp,ho,VR.bool hx,Op.unary,Vb,Vc,Va]
 ·rename_i k n hy;simp only[Zab]at h;obtain⟨rfl,_⟩:=h;rw[hy]at hx;refine Did.pure hR (val:= .int k (k.wrap (0 - n))) ?_ (Zbj _ _);simp only[execOp,ho,VR.int hx,Op.unary,Op.intArith,Vb,Vc,Va]
 ·simp [Zaa]at h
theorem Ziq{T:TypeId}{k:IntKind}(hT:Zah P E)(h:E.ty T=some (.int k)):P.underlying T=some (.int k):=by
 have hs:=(hT.ty T _ h).shape
 cases hu:P.underlying T with
 |none=>rw[hu]at hs;simp [Zak]at hs
 |some d=>rw[hu]at hs;cases d<;>simp [Zak]at hs;grind
theorem ZeZ{T:TypeId}(hT:Zah P E)(h:E.ty T=some .str):P.underlying T=some .string:=by
 have hs:=(hT.ty T _ h).shape
 cases hu:P.underlying T with
 |none=>rw[hu]at hs;simp [Zak]at hs
 |some d=>rw[hu]at hs;cases d<;>simp [Zak]at hs;rfl
theorem Zk9{T:TypeId}{t:Ty}(hT:Zah P E)(h:E.ty T=some t): ∃d,P.underlying T=some d:=by
 have hs:=(hT.ty T _ h).shape
 cases hu:P.underlying T with
 |none=>rw[hu]at hs;simp [Zak]at hs
 |some d=>simp
theorem ZoI{x:AV}{v:Value}(hc:ZiH x=true)(h:VR w g x v):CV w g x [v]:=by
 unfold ZiH at hc;simp only[Vd,Vi]at hc;obtain⟨ha,hc⟩:=hc;have h1:VR1 w g x v:=h.to1 (by intro l hl;subst hl;simp [ZlR]at hc)
 have hv:Zav v=false:=by
  rcases h1.2 with h|h
  ·subst h;simp [ZlR]at hc
  grind
 have:v.cells.toList=[v]:=by cases v<;>simp_all [Vj,Zav]
 rw[<-this];exact h1.1
theorem ZoM{x:AV}{v:Value}(hc:ZiH x=true)(h:CV w g x [v]):VR w g x v:=by
 unfold ZiH at hc;simp only[Vd,Vi]at hc;obtain⟨ha,hc⟩:=hc
 have key:Zav v=false:=by
  cases x with
  |d t y=>
   have:=Rd.oneCell t y [v] (by assumption) v (by simp)
   cases v<;>simp_all [Vh,Zav]
  |junk=>simp [ZlR]at hc
  |tup l=>simp [ZlR]at hc
  |agg l=>simp [ZlR]at hc
  |jk n=>simp [ZlR]at hc
  |dp t y=>simp only[CV]at h;obtain⟨b,off,c,h,_⟩:=h;cases h;rfl
  |ptr id p=>simp only[CV]at h;obtain⟨_,o,t,b,_,_,h⟩:=h;cases h;rfl
  |vp id i p=>simp only[CV]at h;obtain⟨_,o,t,b,_,_,h⟩:=h;cases h;rfl
  |mp id=>simp only[CV]at h;obtain⟨_,b,_,h⟩:=h;cases h;rfl
  |fn f l=>simp only[CV]at h;obtain⟨cc,h,_⟩:=h;cases h;rfl
  |nilr=>simp only[CV]at h;rcases h with h|h|h<;>cases h<;>rfl
  |nw id ver kt k=>simp only[CV]at h;obtain⟨_,_,u,h,h2,_⟩:=h;cases h;cases v<;>simp_all [Vh,Zav]
  |np id ver kt k i p=>simp only[CV]at h;obtain⟨_,_,ad,h,_⟩:=h;cases h;rfl
  |nils=>simp only[CV]at h;cases h;rfl
  |vw id=>simp only[CV]at h;obtain⟨_,h,h2⟩:=h;cases h;cases hv:g.slv id<;>simp_all [Vh,Zav]
  |vs id lo n=>simp only[CV,Zds]at h;obtain⟨_,⟨_,_,_,h⟩ | ⟨b,len,cap,m,_,_,_,_,h⟩⟩:=h<;>cases h<;>rfl
 have:v.cells.toList=[v]:=by cases v<;>simp_all [Vj,Zav]
 exact VR.of1 ⟨by grind,by grind⟩
theorem ZgZ: ∀ (xs:List Operand),Fr w g F a.tmps->Zfw (AVs.ofList (xs.map (aev F)))=true->CVs w g (AVs.ofList (xs.map (aev F))) (xs.map a.eval)
 | [],_,_=>by rfl
 |x::l,hF,h=>by simp only[List.map_cons,AVs.ofList,Zfw,Vd]at h ⊢;simp only[CVs];exact⟨[a.eval x],l.map a.eval,rfl,ZoI h.1 (hF.eval x),ZgZ l hF h.2⟩
theorem Zfd: ∀ (l:AVs) (cs:List Value),Zfw l=true->CVs w g l cs->VRs w g l cs
 | .nil,cs,_,h=>by assumption
 | .cons x l,cs,hc,h=>by
  simp only[Zfw,Vd]at hc;simp only[CVs]at h;obtain⟨c1,c2,rfl,h1,h2⟩:=h;have hx:=hc.1
  have: ∃v,c1=[v]:=by
   have hl:c1.length=1:=by
    unfold ZiH at hx;simp only[Vd]at hx;obtain⟨_,hx⟩:=hx
    cases x with
    |d t y=>simp only[ZlR]at hx;rw[Rd.length t y c1 (by assumption)];simp_all
    |junk=>simp [ZlR]at hx
    |tup l=>simp [ZlR]at hx
    |agg l=>simp [ZlR]at hx
    |jk n=>simp [ZlR]at hx
    |dp t y=>simp only[CV]at h1;grind
    |ptr id p=>simp only[CV]at h1;grind
    |vp id i p=>simp only[CV]at h1;grind
    |mp id=>simp only[CV]at h1;grind
    |fn f l=>simp only[CV]at h1;grind
    |nilr=>simp only[CV]at h1;grind
    |nw id ver kt k=>simp only[CV]at h1;grind
    |np id ver kt k i p=>simp only[CV]at h1;grind
    |nils=>simp only[CV]at h1;grind
    |vw id=>simp only[CV]at h1;grind
    |vs id lo n=>simp only[CV,Zds]at h1;grind
   exact List.length_eq_one_iff.1 hl
  obtain⟨v,rfl⟩:=this;have hv:=ZoM hx h1;refine⟨v,c2,rfl,hv.to1 ?_,Zfd l c2 hc.2 h2⟩;intro m hm;subst hm;assumption
theorem ZiA{f:FuncId}{first caps:Array Operand}(hR:RH B H w g ow)(hF:Fr w g F a.tmps)(ho:o.op= .makeFunc (.func f) first caps)
  (h: (Za1 E nid o.op o.type (aev F)).run H []=some ((v,patch),rd)):Did B (Zad H patch) w g nid v ((execOp a.eval o).run P w):=by
 rw[ho]at h;simp only[Za1,Zae,Zab,Zaa,and_false,or_false,Ve,Vd]at h;obtain⟨⟨h1,h2⟩,⟨rfl,rfl⟩,_⟩:=h
 have hf:first= #[]:=by grind
 refine Did.pure hR (val:= .func (.func f) #[] (caps.map a.eval)) ?_ ⟨?_, .inr rfl⟩
 ·simp only[execOp,ho,Instr.makeFunc,hf,Vb,Vc,Va,Array.map_empty]
 ·simp only[CV];exact⟨caps.toList.map a.eval,by simp [Vj, <-Array.toList_inj],ZgZ _ hF h2⟩
theorem ZaL{c:Call}{b:Builtin}{ty:TypeId}(hc:c.callee= .builtin b):
  (do let d<-resolve a.eval c ty;invoke d.target d.args:Sem Next).run P w=(builtin b c.argTypes ty (c.args.map fun| .const _=>true|_=>false) (c.args.map a.eval)).run P w:=by
 unfold resolve;rw[hc];rfl
theorem ZpL(v:Value): (#[v]:Array Value)[0]? =some v:=rfl
theorem ZpI{c:Call}(hT:Zah P E)(hR:RH B H w g ow)(hF:Fr w g F a.tmps)(ho:o.op= .call c)(hc:c.callee= .builtin .len)
  (h: (Za1 E nid o.op o.type (aev F)).run H []=some ((v,patch),rd)):Did B (Zad H patch) w g nid v ((execOp a.eval o).run P w):=by
 rw[ho]at h;simp only[Za1,hc]at h;split at h
 ·rename_i x T hargs hty;simp only[Zaj,Zab,Ve]at h;obtain⟨v',m,h,⟨rfl,rfl⟩,_⟩:=h;have hx:=hF.eval x
  have hargs' :c.args.map a.eval= #[a.eval x]:=by
   have:c.args= #[x]:=by grind
   grind
  have fin: ∀ (n:Int),v' = .d (.int .i64) n->(Vf c.argTypes o.type #[a.eval x]).run P w= .ok (.int .i64 n) w->Did B (Zad H []) w g nid v' ((execOp a.eval o).run P w):=by intro n hv hr;subst hv;refine Did.pure hR (val:= .int .i64 n) ?_ (Zbj _ _);simp only[execOp,ho,ZaL hc,builtin,hargs',Vb,hr,Va,Vc]
  have sl: ∀ (a0:Option Addr) (n cap:Nat),Zdy (E.ty T)=true->a.eval x= .slice a0 n cap->(Vf c.argTypes o.type #[a.eval x]).run P w= .ok (.int .i64 n) w:=by
   intro a0 n cap hs he
   have: ∃t,E.ty T=some (.sl t):=by
    cases ht:E.ty T with
    |none=>rw[ht]at hs;simp [Zdy]at hs
    |some t=>cases t<;>rw[ht]at hs<;>simp [Zdy]at hs;simp
   obtain⟨t,ht⟩:=this;obtain⟨Et,hu,_⟩:=Zar hT ht;simp only[Vf,hty,he,ZpL,underlying,Vb,run_program,Va,hu,Vc,goInt]
  unfold Zrp at h;split at h
  ·rename_i t xs hy;simp only[Zae,Zab,Zaa,and_false,or_false]at h;obtain⟨hs,rfl,_⟩:=h;obtain⟨a0,cap,css,he,_⟩:=(hy▸hx).sl
   grind
  ·rename_i s hy;simp only[Zae,Zab,Zaa,and_false,or_false,beq_iff_eq]at h;obtain⟨hs,rfl,_⟩:=h;rw[hy]at hx;refine fin _ rfl ?_;simp only[Vf,hty,VR.str hx,underlying,Vb,run_program,Va,ZeZ hT hs,ZpL,Vc,goInt];rfl
  ·rename_i hy;simp only[Zae,Zab,Zaa,and_false,or_false]at h;obtain⟨hs,rfl,_⟩:=h;exact fin _ rfl (sl _ _ _ hs (hy▸hx).nils)
  ·rename_i id lo n hy;simp only[Zae,Zab,Zaa,and_false,or_false]at h;obtain⟨hs,rfl,_⟩:=h;obtain⟨_,h1⟩:=(hy▸hx).vs;rcases h1 with ⟨_,_,rfl,h1⟩ | ⟨b,len,cap,m,_,_,_,_,h1⟩
   all_goals grind
  ·rename_i id hy;simp only[Zae,Zaa,and_false,or_false]at h;obtain⟨hs,h⟩:=h;rw[Zag]at h;split at h
   ·rename_i t xs hH;simp only[Zab]at h;obtain⟨rfl,_⟩:=h;obtain⟨_,he⟩:=(hy▸hx).vw;obtain⟨_,_,hO⟩:=hR.objs id _ hH
    grind
   ·rename_i t xs u hole hH;simp only[Zab]at h;obtain⟨rfl,_⟩:=h;obtain⟨_,he⟩:=(hy▸hx).vw;obtain⟨_,_,_,_,hO⟩:=hR.objs id _ hH
    grind
   ·rename_i t xs hH;simp only[Zab]at h;obtain⟨rfl,_⟩:=h;obtain⟨a0,cap,css,he,_⟩:=(Zkm hR hH (hy▸hx)).sl
    grind
   ·simp [Zaa]at h
  ·rename_i id ver kt k hy;simp only[Zae,Zaj,Zab,Zaa,and_false,or_false]at h;obtain⟨hs,r,m1,hacc,rfl,_⟩:=h;obtain⟨_,_,_,_,hrow⟩:=Zdf hR (hy▸hx) hacc;rcases hrow with ⟨h1,h2⟩ | ⟨b,cap,cs,e,css,h2,_⟩
   all_goals grind
  ·rename_i id hy;simp only[Zae,Zaa,and_false,or_false]at h;obtain⟨hs,h⟩:=h;rw[Zag]at h;split at h
   ·rename_i kt vt mm hH;simp only[Zab]at h;obtain⟨rfl,_⟩:=h;obtain⟨_,b,hb,he⟩:=(hy▸hx).mp;obtain⟨_,b',es,clock,hb',_,hh,_,hfa⟩:=hR.objs id _ hH;rw[hb]at hb';cases hb';obtain⟨mt,hmt⟩:=Option.isSome_iff_exists.1 hs;obtain⟨K,V,hu,_,_⟩:=hT.mty T mt hmt;have hget: (getObj b).run P w= .ok (.map es clock) w:=by simp only[getObj,Sem.run,hh]
    refine fin _ rfl ?_;have hlen:es.size=mm.length:=by rw[hfa.length];simp
    simp only[Vf,hty,he,underlying,Vb,run_program,Va,hu,ZpL,Vc,hget,goInt,hlen]
   ·simp [Zaa]at h
  ·simp [Zaa]at h
 ·simp [Zaa]at h
end ops
end Tr
