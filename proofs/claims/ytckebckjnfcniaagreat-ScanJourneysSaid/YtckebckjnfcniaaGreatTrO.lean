/- More operations: operators, conversions, function values, lengths, slices of slices. Conditions: the table of types is the program's. -/
import Derived.Test.YtckebckjnfcniaaGreatTrN
namespace Tr
open Go
section ops
variable {P:Program}{E:Env}{B:Zb7}{H:AH}{w:World}{g:Gh}{ow:Nat->Nat->Prop}{nid:Nat}{a:Act}{F:Nat->AV}{v:AV}{patch:Zbm}{rd:List Nat}{o:Oper}
def _root_.Go.Operand.eval' :Operand->Value
 | .const v=>v
 |_=>undef
theorem Zqd{T:TypeId}{u:AV}{vx:Value}{y:Operand}(hT:ZaB P E)(hx:VR w g u vx)(h:ZmF (E.pk T) u y=true):
  (Op.equal T vx y.eval').run P w= .ok false w/\(vx≠ .nilIface/\ZaN vx=false)/\ ∀op,(op= .eql->(binOp op T vx y.eval').run P w= .ok (.bool false) w)/\(op= .neq->(binOp op T vx y.eval').run P w= .ok (.bool true) w):=by
 obtain⟨p1,p2,p3⟩:=hT.pk T;unfold ZmF at h;split at h
 ·simp only[Bool.and_eq_true,Nat.beq_eq]at h;obtain⟨hk,h⟩:=h;obtain⟨e,he⟩:=p1 hk;split at h
  ·obtain⟨_,o',t,b,_,_,rfl⟩:=hx.ptr
   have key: (Op.equal T (.pointer (some ⟨b,o',none⟩)) (.pointer none)).run P w= .ok false w:=by
    have: ∀d,(Op.equalIn (d+1) T (.pointer (some ⟨b,o',none⟩)) (.pointer none)).run P w= .ok false w:=fun d=>by simp only[Op.equalIn,underlying,Sem.run_bind,run_program,Result.andThen_ok,he,Sem.run_pure]
    exact this 9999
   exact⟨key,⟨by simp,rfl⟩,fun op=>⟨fun e=>by subst e;simp only[binOp,Operand.eval',Sem.run_bind,key,Result.andThen_ok,Sem.run_pure],fun e=>by subst e;simp only[binOp,Operand.eval',Sem.run_bind,key,Result.andThen_ok,Sem.run_pure,Bool.not_false]⟩⟩
  ·simp at h
 ·simp only[Bool.and_eq_true,Nat.beq_eq]at h;obtain⟨hk,h⟩:=h;obtain⟨e1,e2,e3,he⟩:=p2 hk;split at h
  ·obtain⟨cc,rfl,_⟩:=hx.fn;rename_i f l _
   have key: (Op.equal T (.func (.func f) #[] cc.toArray) .nilFunc).run P w= .ok false w:=by
    have: ∀d,(Op.equalIn (d+1) T (.func (.func f) #[] cc.toArray) .nilFunc).run P w= .ok false w:=fun d=>by simp only[Op.equalIn,underlying,Sem.run_bind,run_program,Result.andThen_ok,he,Sem.run_pure]
    exact this 9999
   exact⟨key,⟨by simp,rfl⟩,fun op=>⟨fun e=>by subst e;simp only[binOp,Operand.eval',Sem.run_bind,key,Result.andThen_ok,Sem.run_pure],fun e=>by subst e;simp only[binOp,Operand.eval',Sem.run_bind,key,Result.andThen_ok,Sem.run_pure,Bool.not_false]⟩⟩
  ·simp at h
 ·simp only[Bool.and_eq_true,Nat.beq_eq]at h;obtain⟨hk,h⟩:=h;obtain⟨e1,e2,he⟩:=p3 hk;split at h
  ·obtain⟨_,b,_,rfl⟩:=hx.mp
   have key: (Op.equal T (.map (some b)) (.map none)).run P w= .ok false w:=by
    have: ∀d,(Op.equalIn (d+1) T (.map (some b)) (.map none)).run P w= .ok false w:=fun d=>by simp only[Op.equalIn,underlying,Sem.run_bind,run_program,Result.andThen_ok,he,Sem.run_pure]
    exact this 9999
   exact⟨key,⟨by simp,rfl⟩,fun op=>⟨fun e=>by subst e;simp only[binOp,Operand.eval',Sem.run_bind,key,Result.andThen_ok,Sem.run_pure],fun e=>by subst e;simp only[binOp,Operand.eval',Sem.run_bind,key,Result.andThen_ok,Sem.run_pure,Bool.not_false]⟩⟩
  ·simp at h
 ·simp at h
theorem Zqu{op:BinOp}{T T' :TypeId}{x y:Operand}(hT:ZaB P E)(hR:RH B H w g ow)(hF:Fr w g F a.tmps)(ho:o.op= .binOp op T x y T')
  (h: (aop E nid o.op o.type (aev F)).run H []=some ((v,patch),rd)):Did B (Zaf H patch) w g nid v ((execOp a.eval o).run P w):=by
 rw[ho]at h;simp only[aop,Zan]at h;rcases h with ⟨hn,h⟩ | ⟨_,h⟩
 ·obtain⟨heq,hne,hni⟩:=Zqd (w:=w) hT (hF.eval x) hn
  have hy:a.eval y=y.eval' :=by
   cases y<;>simp [ZmF]at hn;rfl
  have hg: ∀op,(eqGuard op T x y (a.eval x) y.eval').run P w= .ok () w:=fun op=>Zcj hne.1 hne.2;split at h
  ·simp only[Zac,Prod.mk.injEq]at h;obtain⟨⟨rfl,rfl⟩,_⟩:=h;refine Did.pure hR (val:= .bool false) ?_ (Zb0 _);simp only[execOp,ho,hy,Sem.run_bind,hg,Result.andThen_ok,(hni .eql).1 rfl];rfl
  ·simp only[Zac,Prod.mk.injEq]at h;obtain⟨⟨rfl,rfl⟩,_⟩:=h;refine Did.pure hR (val:= .bool true) ?_ (Zb0 _);simp only[execOp,ho,hy,Sem.run_bind,hg,Result.andThen_ok,(hni .neq).2 rfl];rfl
  ·simp [Zaa]at h
 simp only[Zas,Zac,Prod.mk.injEq]at h;obtain⟨v',m,h,⟨rfl,rfl⟩,_⟩:=h;obtain⟨val,h1,h2,_⟩:=ZtO hT hF h;refine Did.pure hR ?_ h2;simp only[execOp,ho];rw[Sem.run_bind,h1];rfl
theorem Zsg{op:UnOp}{T:TypeId}{x:Operand}(hR:RH B H w g ow)(hF:Fr w g F a.tmps)(ho:o.op= .unOp op T x)
  (h: (aop E nid o.op o.type (aev F)).run H []=some ((v,patch),rd)):Did B (Zaf H patch) w g nid v ((execOp a.eval o).run P w):=by
 rw[ho]at h;simp only[aop,Zas,Zac,Prod.mk.injEq]at h;obtain⟨v',m,h,⟨rfl,rfl⟩,_⟩:=h;have hx:=hF.eval x;unfold aun at h;split at h
 ·rename_i b hy;simp only[Zac]at h;obtain⟨rfl,_⟩:=h;rw[hy]at hx;refine Did.pure hR (val:= .bool (!b)) ?_ (Zb0 _);simp only[execOp,ho,VR.bool hx,Op.unary,Sem.run_bind,Sem.run_pure,Result.andThen_ok]
 ·rename_i k n hy;simp only[Zac]at h;obtain⟨rfl,_⟩:=h;rw[hy]at hx;refine Did.pure hR (val:= .int k (k.wrap (0 - n))) ?_ (ZbI _ _);simp only[execOp,ho,VR.int hx,Op.unary,Op.intArith,Sem.run_bind,Sem.run_pure,Result.andThen_ok]
 ·simp [Zaa]at h
theorem Zks{T:TypeId}{k:IntKind}(hT:ZaB P E)(h:E.ty T=some (.int k)):P.underlying T=some (.int k):=by
 have hs:=(hT.ty T _ h).shape
 cases hu:P.underlying T with
 |none=>rw[hu]at hs;simp [Zav]at hs
 |some d=>rw[hu]at hs;cases d<;>simp [Zav]at hs;rw[hs]
theorem ZfZ{T:TypeId}(hT:ZaB P E)(h:E.ty T=some .str):P.underlying T=some .string:=by
 have hs:=(hT.ty T _ h).shape
 cases hu:P.underlying T with
 |none=>rw[hu]at hs;simp [Zav]at hs
 |some d=>rw[hu]at hs;cases d<;>simp [Zav]at hs;rfl
theorem Zov{T:TypeId}{t:Ty}(hT:ZaB P E)(h:E.ty T=some t): ∃d,P.underlying T=some d:=by
 have hs:=(hT.ty T _ h).shape
 cases hu:P.underlying T with
 |none=>rw[hu]at hs;simp [Zav]at hs
 |some d=>exact⟨d,rfl⟩
theorem Zru{x:AV}{v:Value}(hc:ZlM x=true)(h:VR w g x v):CV w g x [v]:=by
 unfold ZlM at hc;simp only[Bool.and_eq_true,Bool.not_eq_true']at hc;obtain⟨ha,hc⟩:=hc;have h1:VR1 w g x v:=h.to1 (by intro l hl;subst hl;simp [ZoN]at hc)
 have hv:ZaN v=false:=by
  rcases h1.2 with h|h
  ·subst h;simp [ZoN]at hc
  ·rw[h,ha]
 have:v.cells.toList=[v]:=by cases v<;>simp_all [Value.cells,ZaN]
 rw[<-this];exact h1.1
theorem ZrT{x:AV}{v:Value}(hc:ZlM x=true)(h:CV w g x [v]):VR w g x v:=by
 unfold ZlM at hc;simp only[Bool.and_eq_true,Bool.not_eq_true']at hc;obtain⟨ha,hc⟩:=hc
 have key:ZaN v=false:=by
  cases x with
  |d t y=>
   have:=Rd.oneCell t y [v] (by simpa only[CV] using h) v (by simp)
   cases v<;>simp_all [Value.oneCell',ZaN]
  |junk=>simp [ZoN]at hc
  |tup l=>simp [ZoN]at hc
  |agg l=>simp [ZoN]at hc
  |jk n=>simp [ZoN]at hc
  |dp t y=>simp only[CV]at h;obtain⟨b,off,c,h,_⟩:=h;cases h;rfl
  |ptr id p=>simp only[CV]at h;obtain⟨_,o,t,b,_,_,h⟩:=h;cases h;rfl
  |vp id i p=>simp only[CV]at h;obtain⟨_,o,t,b,_,_,h⟩:=h;cases h;rfl
  |mp id=>simp only[CV]at h;obtain⟨_,b,_,h⟩:=h;cases h;rfl
  |fn f l=>simp only[CV]at h;obtain⟨cc,h,_⟩:=h;cases h;rfl
  |nilr=>simp only[CV]at h;rcases h with h|h|h<;>cases h<;>rfl
  |nw id ver kt k=>simp only[CV]at h;obtain⟨_,_,u,h,h2,_⟩:=h;cases h;cases v<;>simp_all [Value.oneCell',ZaN]
  |np id ver kt k i p=>simp only[CV]at h;obtain⟨_,_,ad,h,_⟩:=h;cases h;rfl
  |nils=>simp only[CV]at h;cases h;rfl
  |vw id=>simp only[CV]at h;obtain⟨_,h,h2⟩:=h;cases h;cases hv:g.slv id<;>simp_all [Value.oneCell',ZaN]
  |vs id lo n=>simp only[CV,ZeQ]at h;obtain⟨_,⟨_,_,_,h⟩ | ⟨b,len,cap,m,_,_,_,_,h⟩⟩:=h<;>cases h<;>rfl
 have:v.cells.toList=[v]:=by cases v<;>simp_all [Value.cells,ZaN]
 exact VR.of1 ⟨by rw[this];exact h, .inr (by rw[key,ha])⟩
theorem ZiZ: ∀ (xs:List Operand),Fr w g F a.tmps->ZhM (AVs.ofList (xs.map (aev F)))=true->CVs w g (AVs.ofList (xs.map (aev F))) (xs.map a.eval)
 | [],_,_=>by simp [AVs.ofList,CVs]
 |x::l,hF,h=>by simp only[List.map_cons,AVs.ofList,ZhM,Bool.and_eq_true]at h ⊢;simp only[CVs];exact⟨[a.eval x],l.map a.eval,rfl,Zru h.1 (hF.eval x),ZiZ l hF h.2⟩
theorem ZiL: ∀ (l:AVs) (cs:List Value),ZhM l=true->CVs w g l cs->VRs w g l cs
 | .nil,cs,_,h=>by simpa [CVs,VRs] using h
 | .cons x l,cs,hc,h=>by
  simp only[ZhM,Bool.and_eq_true]at hc;simp only[CVs]at h;obtain⟨c1,c2,rfl,h1,h2⟩:=h;have hx:=hc.1
  have: ∃v,c1=[v]:=by
   have hl:c1.length=1:=by
    unfold ZlM at hx;simp only[Bool.and_eq_true]at hx;obtain⟨_,hx⟩:=hx
    cases x with
    |d t y=>simp only[ZoN]at hx;rw[Rd.length t y c1 (by simpa only[CV] using h1)];exact Nat.eq_of_beq_eq_true hx
    |junk=>simp [ZoN]at hx
    |tup l=>simp [ZoN]at hx
    |agg l=>simp [ZoN]at hx
    |jk n=>simp [ZoN]at hx
    |dp t y=>simp only[CV]at h1;obtain⟨b,off,c,h,_⟩:=h1;rw[h];rfl
    |ptr id p=>simp only[CV]at h1;obtain⟨_,o,t,b,_,_,h⟩:=h1;rw[h];rfl
    |vp id i p=>simp only[CV]at h1;obtain⟨_,o,t,b,_,_,h⟩:=h1;rw[h];rfl
    |mp id=>simp only[CV]at h1;obtain⟨_,b,_,h⟩:=h1;rw[h];rfl
    |fn f l=>simp only[CV]at h1;obtain⟨cc,h,_⟩:=h1;rw[h];rfl
    |nilr=>simp only[CV]at h1;rcases h1 with h|h|h<;>rw[h]<;>rfl
    |nw id ver kt k=>simp only[CV]at h1;obtain⟨_,_,u,h,_⟩:=h1;rw[h];rfl
    |np id ver kt k i p=>simp only[CV]at h1;obtain⟨_,_,ad,h,_⟩:=h1;rw[h];rfl
    |nils=>simp only[CV]at h1;rw[h1];rfl
    |vw id=>simp only[CV]at h1;rw[h1.2.1];rfl
    |vs id lo n=>simp only[CV,ZeQ]at h1;obtain⟨_,⟨_,_,_,h⟩ | ⟨b,len,cap,m,_,_,_,_,h⟩⟩:=h1<;>rw[h]<;>rfl
   exact List.length_eq_one_iff.1 hl
  obtain⟨v,rfl⟩:=this;have hv:=ZrT hx h1;refine⟨v,c2,rfl,hv.to1 ?_,ZiL l c2 hc.2 h2⟩;intro m hm;subst hm;simp [ZlM,ZoN]at hx
theorem ZkT{f:FuncId}{first caps:Array Operand}(hR:RH B H w g ow)(hF:Fr w g F a.tmps)(ho:o.op= .makeFunc (.func f) first caps)
  (h: (aop E nid o.op o.type (aev F)).run H []=some ((v,patch),rd)):Did B (Zaf H patch) w g nid v ((execOp a.eval o).run P w):=by
 rw[ho]at h;simp only[aop,Zan,Zac,Zaa,and_false,or_false,Prod.mk.injEq,Bool.and_eq_true]at h;obtain⟨⟨h1,h2⟩,⟨rfl,rfl⟩,_⟩:=h
 have hf:first= #[]:=by simpa using h1
 refine Did.pure hR (val:= .func (.func f) #[] (caps.map a.eval)) ?_ ⟨?_, .inr rfl⟩
 ·simp only[execOp,ho,Instr.makeFunc,hf,Sem.run_bind,Sem.run_pure,Result.andThen_ok,Array.map_empty]
 ·simp only[CV];exact⟨caps.toList.map a.eval,by simp [Value.cells, <-Array.toList_inj],ZiZ _ hF h2⟩
theorem Zbk{c:Call}{b:Builtin}{ty:TypeId}(hc:c.callee= .builtin b):
  (do let d<-resolve a.eval c ty;invoke d.target d.args:Sem Next).run P w=(builtin b c.argTypes ty (c.args.map fun| .const _=>true|_=>false) (c.args.map a.eval)).run P w:=by
 unfold resolve;rw[hc];rfl
theorem Zu8(v:Value): (#[v]:Array Value)[0]? =some v:=rfl
theorem ZtD{c:Call}(hT:ZaB P E)(hR:RH B H w g ow)(hF:Fr w g F a.tmps)(ho:o.op= .call c)(hc:c.callee= .builtin .len)
  (h: (aop E nid o.op o.type (aev F)).run H []=some ((v,patch),rd)):Did B (Zaf H patch) w g nid v ((execOp a.eval o).run P w):=by
 rw[ho]at h;simp only[aop,hc]at h;split at h
 ·rename_i x T hargs hty;simp only[Zas,Zac,Prod.mk.injEq]at h;obtain⟨v',m,h,⟨rfl,rfl⟩,_⟩:=h;have hx:=hF.eval x
  have hargs' :c.args.map a.eval= #[a.eval x]:=by
   have:c.args= #[x]:=by rw[<-Array.toList_inj];exact hargs
   rw[this];simp
  have fin: ∀ (n:Int),v' = .d (.int .i64) n->(Builtin.len_ c.argTypes o.type #[a.eval x]).run P w= .ok (.int .i64 n) w->Did B (Zaf H []) w g nid v' ((execOp a.eval o).run P w):=by intro n hv hr;subst hv;refine Did.pure hR (val:= .int .i64 n) ?_ (ZbI _ _);simp only[execOp,ho,Zbk hc,builtin,hargs',Sem.run_bind,hr,Result.andThen_ok,Sem.run_pure]
  have sl: ∀ (a0:Option Addr) (n cap:Nat),Zfp (E.ty T)=true->a.eval x= .slice a0 n cap->(Builtin.len_ c.argTypes o.type #[a.eval x]).run P w= .ok (.int .i64 n) w:=by
   intro a0 n cap hs he
   have: ∃t,E.ty T=some (.sl t):=by
    cases ht:E.ty T with
    |none=>rw[ht]at hs;simp [Zfp]at hs
    |some t=>cases t<;>rw[ht]at hs<;>simp [Zfp]at hs;exact⟨_,rfl⟩
   obtain⟨t,ht⟩:=this;obtain⟨Et,hu,_⟩:=ZaP hT ht;simp only[Builtin.len_,hty,he,Zu8,underlying,Sem.run_bind,run_program,Result.andThen_ok,hu,Sem.run_pure,goInt]
  unfold Zvi at h;split at h
  ·rename_i t xs hy;simp only[Zan,Zac,Zaa,and_false,or_false]at h;obtain⟨hs,rfl,_⟩:=h;obtain⟨a0,cap,css,he,_⟩:=(hy▸hx).sl;exact fin _ rfl (sl _ _ _ hs he)
  ·rename_i s hy;simp only[Zan,Zac,Zaa,and_false,or_false,beq_iff_eq]at h;obtain⟨hs,rfl,_⟩:=h;rw[hy]at hx;refine fin _ rfl ?_;simp only[Builtin.len_,hty,VR.str hx,underlying,Sem.run_bind,run_program,Result.andThen_ok,ZfZ hT hs,Zu8,Sem.run_pure,goInt];simp [ByteArray.size]
  ·rename_i hy;simp only[Zan,Zac,Zaa,and_false,or_false]at h;obtain⟨hs,rfl,_⟩:=h;exact fin _ rfl (sl _ _ _ hs (hy▸hx).nils)
  ·rename_i id lo n hy;simp only[Zan,Zac,Zaa,and_false,or_false]at h;obtain⟨hs,rfl,_⟩:=h;obtain⟨_,h1⟩:=(hy▸hx).vs;rcases h1 with ⟨_,_,rfl,h1⟩ | ⟨b,len,cap,m,_,_,_,_,h1⟩
   ·exact fin _ rfl (sl _ _ _ hs (List.cons.inj h1).1)
   ·exact fin _ rfl (sl _ _ _ hs (List.cons.inj h1).1)
  ·rename_i id hy;simp only[Zan,Zaa,and_false,or_false]at h;obtain⟨hs,h⟩:=h;rw[Zao]at h;split at h
   ·rename_i t xs hH;simp only[Zac]at h;obtain⟨rfl,_⟩:=h;obtain⟨_,he⟩:=(hy▸hx).vw;obtain⟨_,_,hO⟩:=hR.objs id _ hH;rcases hO with ⟨rfl,_,hO⟩ | ⟨b,cap,cs,e,css,_,_,hO,_⟩
    ·exact fin _ rfl (sl _ _ _ hs (he.trans hO))
    ·exact fin _ rfl (sl _ _ _ hs (he.trans hO))
   ·rename_i t xs u hole hH;simp only[Zac]at h;obtain⟨rfl,_⟩:=h;obtain⟨_,he⟩:=(hy▸hx).vw;obtain⟨_,_,_,_,hO⟩:=hR.objs id _ hH;rcases hO with ⟨rfl,_,hO⟩ | ⟨b,cap,cs,e,_,_,hO,_⟩
    ·exact fin _ rfl (sl _ _ _ hs (he.trans hO))
    ·exact fin _ rfl (sl _ _ _ hs (he.trans hO))
   ·rename_i t xs hH;simp only[Zac]at h;obtain⟨rfl,_⟩:=h;obtain⟨a0,cap,css,he,_⟩:=(ZmK hR hH (hy▸hx)).sl;exact fin _ rfl (sl _ _ _ hs he)
   ·simp [Zaa]at h
  ·rename_i id ver kt k hy;simp only[Zan,Zas,Zac,Zaa,and_false,or_false]at h;obtain⟨hs,r,m1,hacc,rfl,_⟩:=h;obtain⟨_,_,_,_,hrow⟩:=ZdI hR (hy▸hx) hacc;rcases hrow with ⟨h1,h2⟩ | ⟨b,cap,cs,e,css,h2,_⟩
   ·exact fin _ rfl (sl none r.2.length 0 hs (by rw[h1,h2];rfl))
   ·exact fin _ rfl (sl _ _ _ hs h2)
  ·rename_i id hy;simp only[Zan,Zaa,and_false,or_false]at h;obtain⟨hs,h⟩:=h;rw[Zao]at h;split at h
   ·rename_i kt vt mm hH;simp only[Zac]at h;obtain⟨rfl,_⟩:=h;obtain⟨_,b,hb,he⟩:=(hy▸hx).mp;obtain⟨_,b',es,clock,hb',_,hh,_,hfa⟩:=hR.objs id _ hH;rw[hb]at hb';cases hb';obtain⟨mt,hmt⟩:=Option.isSome_iff_exists.1 hs;obtain⟨K,V,hu,_,_⟩:=hT.mty T mt hmt;have hget: (getObj b).run P w= .ok (.map es clock) w:=by simp only[getObj,Sem.run,hh]
    refine fin _ rfl ?_;have hlen:es.size=mm.length:=by rw[hfa.length];simp
    simp only[Builtin.len_,hty,he,underlying,Sem.run_bind,run_program,Result.andThen_ok,hu,Zu8,Sem.run_pure,hget,goInt,hlen]
   ·simp [Zaa]at h
  ·simp [Zaa]at h
 ·simp [Zaa]at h
end ops
end Tr
