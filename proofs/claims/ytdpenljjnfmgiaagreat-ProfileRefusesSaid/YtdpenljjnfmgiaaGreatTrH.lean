/- Operations of the abstract machine are those of the model: the frame, simple operations. Conditions: the table of types is the program's. -/
import Derived.Test.YtdpenljjnfmgiaaGreatTrG
open Prod.mk renaming injEq ->Vb
open Go.Value renaming cells ->Va,oneCell' ->Vc
namespace Tr
open Go
section
variable {α β:Type}{H:AH}{l l' :List Nat}
theorem Zab{a x:α} : (Acc.ret a).run H l=some (x,l')↔a=x/\l=l' :=by simp [Acc.run]
theorem Zaa{x:α×List Nat} : (Acc.fail:Acc α).run H l=some x↔False:=by simp [Acc.run]
theorem Zac{o:Option β}{k:β->Acc α}{x:α×List Nat} : (Acc.opt o k).run H l=some x↔ ∃b,o=some b/\(k b).run H l=some x:=by
 cases o<;>simp [Acc.run]
theorem Zag{id:Nat}{k:Option Zc0->Acc α}{x:α×List Nat} : (Acc.getH id k).run H l=some x↔(k (H id)).run H (id::l)=some x:=Iff.rfl
theorem ZhI{b:Bool}{k:Bool->Acc α}{x:α×List Nat} : (Acc.bool b k).run H l=some x↔(k b).run H l=some x:=Iff.rfl
theorem Zaj{a:Acc β}{f:β->Acc α}{x:α×List Nat} : (a.bind f).run H l=some x↔ ∃y m,a.run H l=some (y,m)/\(f y).run H m=some x:=by
 rw[Acc.run_bind]
 cases a.run H l with
 |none=>simp
 |some r=>
  obtain⟨y,m⟩:=r;simp only[Option.bind_some,Option.some.injEq,Vb];exact⟨fun h=>⟨y,m,⟨rfl,rfl⟩,h⟩,fun⟨y',m',⟨h1,h2⟩,h⟩=>by subst h1;subst h2;exact h⟩
theorem Zae{b:Bool}{x y:Acc α}{z:α×List Nat} : (bif b then x else y).run H l=some z↔(b=true/\x.run H l=some z)\/(b=false/\y.run H l=some z):=by
 cases b<;>simp
end
theorem Zal{v c:Value}(h:v.cells.toList=[c])(ha:Zav v=false):v=c:=by
 cases v<;>simp_all [Va,Zav]
section
variable {w:World}{g:Gh}
theorem VR.int{k:IntKind}{n:Int}{v:Value}(h:VR w g (.d (.int k) n) v):v= .int k n:=by obtain⟨h1,h2⟩:=h;simp only[CV,Rd]at h1;exact Zal h1 (by simpa [AV.isAgg,Ty.agg] using h2)
theorem VR.bool{b:Bool}{v:Value}(h:VR w g (.d .bool b) v):v= .bool b:=by obtain⟨h1,h2⟩:=h;simp only[CV,Rd]at h1;exact Zal h1 (by simpa [AV.isAgg,Ty.agg] using h2)
theorem VR.str{s:List UInt8}{v:Value}(h:VR w g (.d .str s) v):v= .string ⟨s.toArray⟩:=by obtain⟨h1,h2⟩:=h;simp only[CV,Rd]at h1;exact Zal h1 (by simpa [AV.isAgg,Ty.agg] using h2)
theorem VR.sl{t:Ty}{xs:List (El t)}{v:Value}(h:VR w g (.d (.sl t) xs) v): ∃a cap css,v= .slice a xs.length cap/\Fa (Rd w g.I t) xs css/\
  (xs≠ []-> ∃b off,a=some ⟨b,off,none⟩/\g.I b/\ZcC w b off css.flatten)/\xs.length<=cap:=by
 obtain⟨h1,h2⟩:=h;simp only[CV,Rd]at h1;obtain⟨a,cap,css,h3,h4,h5⟩:=h1;exact⟨a,cap,css,Zal h3 (by simpa [AV.isAgg,Ty.agg] using h2),h4,h5⟩
theorem VR.ptr{id:Nat}{p:List Nat}{v:Value}(h:VR w g (.ptr id p) v):g.K id/\ ∃o t b,Zbh (g.ty id) p=some (o,t)/\g.blk id=some b/\v= .pointer (some ⟨b,o,none⟩):=by obtain⟨h1,h2⟩:=h;simp only[CV]at h1;obtain⟨hk,o,t,b,h3,h4,h5⟩:=h1;exact⟨hk,o,t,b,h3,h4,Zal h5 (by simpa [AV.isAgg] using h2)⟩
theorem VR.vp{id i:Nat}{p:List Nat}{v:Value}(h:VR w g (.vp id i p) v):g.K id/\ ∃o t b,Zbh (g.ty id) p=some (o,t)/\g.blk id=some b/\v= .pointer (some ⟨b,i* (g.ty id).size+o,none⟩):=by obtain⟨h1,h2⟩:=h;simp only[CV]at h1;obtain⟨hk,o,t,b,h3,h4,h5⟩:=h1;exact⟨hk,o,t,b,h3,h4,Zal h5 (by simpa [AV.isAgg] using h2)⟩
theorem VR.dp{t:Ty}{x:El t}{v:Value}(h:VR w g (.dp t x) v): ∃b off c,v= .pointer (some ⟨b,off,none⟩)/\g.I b/\ZcC w b off c/\Rd w g.I t x c:=by obtain⟨h1,h2⟩:=h;simp only[CV]at h1;obtain⟨b,off,c,h3,h4⟩:=h1;exact⟨b,off,c,Zal h3 (by simpa [AV.isAgg] using h2),h4⟩
theorem VR.vw{id:Nat}{v:Value}(h:VR w g (.vw id) v):g.K id/\v=g.slv id:=by obtain⟨h1,h2⟩:=h;simp only[CV]at h1;exact⟨h1.1,Zal h1.2.1 (by simpa [AV.isAgg] using h2)⟩
theorem VR.vs{id lo n:Nat}{v:Value}(h:VR w g (.vs id lo n) v):g.K id/\Zds (g.slv id) (g.ty id).size lo n [v]:=by
 obtain⟨h1,h2⟩:=h;simp only[CV]at h1;refine⟨h1.1, ?_⟩;have ha:Zav v=false:=by simpa [AV.isAgg] using h2
 have:v.cells.toList=[v]:=by cases v<;>simp_all [Va,Zav]
 rw[this]at h1;exact h1.2
theorem VR.nw{id ver:Nat}{kt:Ty}{k:El kt}{v:Value}(h:VR w g (.nw id ver kt k) v):g.K id/\ver<=g.ver id/\v.oneCell' =true/\(g.ver id=ver->v=g.row id kt k):=by obtain⟨h1,h2⟩:=h;simp only[CV]at h1;obtain⟨hk,hv,u,h3,h4,h5⟩:=h1;have:v=u:=Zal h3 (by simpa [AV.isAgg] using h2);subst this;exact⟨hk,hv,h4,h5⟩
theorem VR.np{id ver:Nat}{kt:Ty}{k:El kt}{i:Nat}{p:List Nat}{v:Value}(h:VR w g (.np id ver kt k i p) v):g.K id/\ver<=g.ver id/\ ∃a,v= .pointer (some a)/\
  (g.ver id=ver-> ∃b len cap o t,g.row id kt k= .slice (some ⟨b,0,none⟩) len cap/\Zbh (ety (g.ty id)) p=some (o,t)/\a=⟨b,i* (ety (g.ty id)).size+o,none⟩):=by
 obtain⟨h1,h2⟩:=h;simp only[CV]at h1;obtain⟨hk,hv,a,h3,h4⟩:=h1;exact⟨hk,hv,a,Zal h3 (by simpa [AV.isAgg] using h2),h4⟩
theorem VR.mp{id:Nat}{v:Value}(h:VR w g (.mp id) v):g.K id/\ ∃b,g.blk id=some b/\v= .map (some b):=by obtain⟨h1,h2⟩:=h;simp only[CV]at h1;obtain⟨hk,b,h3,h4⟩:=h1;exact⟨hk,b,h3,Zal h4 (by simpa [AV.isAgg] using h2)⟩
theorem VR.fn{f:FuncId}{l:AVs}{v:Value}(h:VR w g (.fn f l) v): ∃cc:List Value,v= .func (.func f) #[] cc.toArray/\CVs w g l cc:=by obtain⟨h1,h2⟩:=h;simp only[CV]at h1;obtain⟨cc,h3,h4⟩:=h1;exact⟨cc,Zal h3 (by simpa [AV.isAgg] using h2),h4⟩
theorem VR.nils{v:Value}(h:VR w g .nils v):v= .slice none 0 0:=by obtain⟨h1,h2⟩:=h;simp only[CV]at h1;exact Zal h1 (by simpa [AV.isAgg] using h2)
theorem VR.nilr{v:Value}(h:VR w g .nilr v):v= .pointer none\/v= .nilFunc\/v= .map none:=by
 obtain⟨h1,h2⟩:=h;simp only[CV]at h1;have ha:Zav v=false:=by simpa [AV.isAgg] using h2
 rcases h1 with h|h|h
 ·exact .inl (Zal h ha)
 ·exact .inr (.inl (Zal h ha))
 ·exact .inr (.inr (Zal h ha))
theorem VR.of1{a:AV}{v:Value}(h:VR1 w g a v):VR w g a v:=by
 cases a with
 |tup l=>exact absurd h.1 (by simp [CV])
 |_=>exact h
theorem VR.to1{a:AV}{v:Value}(h:VR w g a v)(hn: ∀l,a≠ .tup l):VR1 w g a v:=by
 cases a with
 |tup l=>exact absurd rfl (hn l)
 |_=>exact h
theorem Zbj(k:IntKind)(n:Int):VR w g (.d (.int k) n) (.int k n):=⟨by simp [CV,Rd,Va], .inr rfl⟩
theorem Zbe(b:Bool):VR w g (.d .bool b) (.bool b):=⟨by simp [CV,Rd,Va], .inr rfl⟩
theorem ZiC(s:List UInt8):VR w g (.d .str s) (.string ⟨s.toArray⟩):=⟨by simp [CV,Rd,Va], .inr rfl⟩
theorem ZaR{a:AV}{v:Value}(h:CV w g a [v])(h1:v.oneCell' =true)(ha:a.isAgg=false):VR w g a v:=by
 apply VR.of1;refine⟨?_, .inr ?_⟩
 ·have:v.cells= #[v]:=by cases v<;>simp_all [Va,Vc]
  simpa [this] using h
 ·rw[ha];cases v<;>simp_all [Zav,Vc]
end
def Fr(w:World)(g:Gh)(F:Nat->AV)(tmps:Array Value):Prop:= ∀t,VR w g (F t) (tmps.getD t undef)
theorem Fr.mono{w w' :World}{g g' :Gh}{F:Nat->AV}{tmps:Array Value}(hw:ZaV g.I w w')(hg:g.Le g')(h:Fr w g F tmps):Fr w' g' F tmps:=fun t=>(h t).mono hw hg
theorem ZoK{w:World}{g:Gh}(v:Value):VR w g (Zkb v) v:=by
 unfold Zkb;split
 ·exact Zbe _
 ·exact Zbj _ _
 ·rename_i s;obtain⟨⟨l⟩⟩:=s;exact ZiC l
 ·exact⟨by simp [CV,Va], .inr rfl⟩
 ·exact⟨by simp [CV,Va], .inr rfl⟩
 ·exact⟨by simp [CV,Va], .inr rfl⟩
 ·exact⟨by simp [CV,Va], .inr rfl⟩
 ·exact Zdj
theorem Fr.eval{w:World}{g:Gh}{F:Nat->AV}{a:Act}(h:Fr w g F a.tmps)(x:Operand):VR w g (aev F x) (a.eval x):=by
 cases x with
 |tmp t=>exact h t
 |const v=>exact ZoK v
 |global i=>exact Zdj
 |func f=>exact⟨by simp [CV,CVs,aev,Act.eval,Va], .inr rfl⟩
def Did(B:Zbr)(H' :AH)(w:World)(g:Gh)(nid:Nat)(v:AV)(r:Result Next):Prop:=
 ∃val w' g' ow',(r= .ok (.value val) w' \/(r= .ok .skip w' /\val=undef))/\RH B H' w' g' ow' /\g.Le g' /\ZaV g.I w w' /\VR w' g' v val/\
  ∀id,g'.K id->g.K id\/(nid<=id/\id<nid+ZaU)
theorem Did.pure{B:Zbr}{H:AH}{w:World}{g:Gh}{ow:Nat->Nat->Prop}{nid:Nat}{v:AV}{val:Value}{r:Result Next}(hR:RH B H w g ow)(hr:r= .ok (.value val) w)(hv:VR w g v val):Did B H w g nid v r:=
 ⟨val,w,g,ow, .inl hr,hR, .refl g,fun _ _=>rfl,hv,fun _ h=> .inl h⟩
theorem Did.after_le{B:Zbr}{H' :AH}{w:World}{g g1:Gh}{nid:Nat}{v:AV}{r:Result Next}(hle:g.Le g1)(hK: ∀id,g1.K id->g.K id)(h:Did B H' w g1 nid v r):Did B H' w g nid v r:=by obtain⟨val,w',g',ow',h1,h2,h3,h4,h5,h6⟩:=h;exact⟨val,w',g',ow',h1,h2,hle.trans h3,fun b hb=>h4 b (hle.I b hb),h5,fun id hid=>(h6 id hid).imp (hK id) fun h=>h⟩
theorem ZdF{g:Gh}{nid:Nat}(hk: ∀id,g.K id->id<nid\/nid+ZaU<=id): ¬g.K nid:=fun h=>by have:=hk nid h;unfold ZaU at this;omega
theorem Did.new' {B:Zbr}{H:AH}{w:World}{g:Gh}{ow:Nat->Nat->Prop}{nid:Nat}{v:AV}{val:Value}{r:Result Next}{t:Ty}{sv:Value}{o:Obj}{ob:Zc0}(hR:RH B H w g ow)(hnk: ¬g.K nid)
  (hr:r= .ok (.value val) (w.alloc o)) (ho:ZeB (w.alloc o) (g.add nid t (some w.heap.size) sv) (fun k=>k=w.heap.size) nid ob)
  (hv:VR (w.alloc o) (g.add nid t (some w.heap.size) sv) v val):Did B (Zbl H nid (some ob)) w g nid v r:=by
 have hlt: ∀k,k<w.heap.size->(w.alloc o).heap[k]? =w.heap[k]? :=fun k hk=>by show (w.heap.push o)[k]? =_;rw[Array.getElem?_push,if_neg (by omega)]
 refine⟨val,w.alloc o,g.add nid t (some w.heap.size) sv,Zc4 ow nid (fun k=>k=w.heap.size), .inl hr, ?_,Gh.le_add hnk _ _ _,fun b hb=>hlt b (hR.ilt b hb),hv, ?_⟩
 ·have hsz: (w.alloc o).heap.size=w.heap.size+1:=Array.size_push ..;refine hR.add hnk hlt (by omega) rfl rfl ⟨rfl,Nat.le_refl _⟩ (fun k hk=> ?_) ho;subst hk;refine⟨fun hI=>absurd (hR.ilt _ hI) (by omega),by omega, .inr hR.size,fun id' h1 h2=> ?_⟩;have:=(hR.sep id' _ h1 h2).2.1;omega
 ·intro id h;rcases h with rfl|h
  ·exact .inr ⟨Nat.le_refl _,by unfold ZaU;omega⟩
  ·exact .inl h
theorem Did.new{B:Zbr}{H:AH}{w:World}{g:Gh}{ow:Nat->Nat->Prop}{nid:Nat}{v:AV}{val:Value}{r:Result Next}{t:Ty}{sv:Value}{o:Obj}{ob:Zc0}(hR:RH B H w g ow)(hk: ∀id,g.K id->id<nid\/nid+ZaU<=id)
  (hr:r= .ok (.value val) (w.alloc o)) (ho:ZeB (w.alloc o) (g.add nid t (some w.heap.size) sv) (fun k=>k=w.heap.size) nid ob)
  (hv:VR (w.alloc o) (g.add nid t (some w.heap.size) sv) v val):Did B (Zbl H nid (some ob)) w g nid v r:=Did.new' hR (ZdF hk) hr ho hv
structure Zah (P:Program) (E:Env):Prop where
 ty: ∀T t,E.ty T=some t->TOk P E.ty T t
 mty: ∀T m,E.mty T=some m-> ∃K V,P.underlying T=some (.map K V)/\E.ty K=some m.1/\E.ty V=some m.2
 pk: ∀T,(E.pk T=1-> ∃e,P.underlying T=some (.pointer e))/\(E.pk T=2-> ∃a b c,P.underlying T=some (.func a b c))/\(E.pk T=3-> ∃a b,P.underlying T=some (.map a b))
 pz: ∀T,E.pz T=true-> ∃e,P.underlying T=some (.pointer e)/\ ∀w:World, ∃n,(Go.sizeOf e).run P w= .ok n w/\n≠0
 bd: ∀T e,E.bd T=some e-> ∃z:Value,(∀w,(zeroValue T).run P w= .ok z w)/\z.cells= #[.pointer none, .slice none 0 0]
section ops
variable {P:Program}{E:Env}{B:Zbr}{H:AH}{w:World}{g:Gh}{ow:Nat->Nat->Prop}{nid:Nat}{a:Act}{F:Nat->AV}{v:AV}{patch:ZaY}{rd:List Nat}{o:Oper}
theorem ZkX{x:Operand}(hR:RH B H w g ow)(hF:Fr w g F a.tmps)(ho:o.op= .move x\/o.op= .assign x)(h: (Za1 E nid o.op o.type (aev F)).run H []=some ((v,patch),rd)):Did B (Zad H patch) w g nid v ((execOp a.eval o).run P w):=by
 rcases ho with ho|ho<;>rw[ho]at h<;>simp only[Za1,Zab,Vb]at h<;>obtain⟨⟨rfl,rfl⟩,_⟩:=h<;>
  exact Did.pure hR (by unfold execOp;rw[ho];rfl) (hF.eval x)
theorem Zob{c x y:Operand}(hR:RH B H w g ow)(hF:Fr w g F a.tmps)(ho:o.op= .pick c x y)(h: (Za1 E nid o.op o.type (aev F)).run H []=some ((v,patch),rd)):Did B (Zad H patch) w g nid v ((execOp a.eval o).run P w):=by
 rw[ho]at h;simp only[Za1]at h;split at h
 ·rename_i t hc;simp only[ZhI,Zab,Vb]at h;obtain⟨⟨rfl,rfl⟩,_⟩:=h;have hb:=(hc▸hF.eval c).bool;cases t
  ·exact Did.pure hR (by unfold execOp;rw[ho];simp only[hb];rfl) (hF.eval y)
  ·exact Did.pure hR (by unfold execOp;rw[ho];simp only[hb];rfl) (hF.eval x)
 ·simp [Zaa]at h
theorem ZiN{x:Operand}(hR:RH B H w g ow)(hF:Fr w g F a.tmps)(ho:o.op= .nilCheck x)(h: (Za1 E nid o.op o.type (aev F)).run H []=some ((v,patch),rd)):Did B (Zad H patch) w g nid v ((execOp a.eval o).run P w):=by
 rw[ho]at h;simp only[Za1,Zae,Zab,Zaa,and_false,or_false,Vb]at h;obtain⟨hr,⟨rfl,rfl⟩,_⟩:=h;have hx:=hF.eval x;refine Did.pure (val:=a.eval x) hR ?_ hx
 cases he:aev F x<;>rw[he]at hr hx<;>simp [Zl4]at hr
 ·obtain⟨b,off,c,h1,_⟩:=hx.dp;simp [execOp,ho,h1]
 ·obtain⟨_,o',t,b,_,_,h1⟩:=hx.ptr;simp [execOp,ho,h1]
 ·obtain⟨_,o',t,b,_,_,h1⟩:=hx.vp;simp [execOp,ho,h1]
 ·obtain⟨_,b,_,h1⟩:=hx.mp;simp [execOp,ho,h1]
 ·obtain⟨cc,h1,_⟩:=hx.fn;simp [execOp,ho,h1]
 ·obtain⟨_,_,a,h1,_⟩:=hx.np;simp [execOp,ho,h1]
theorem ZjM{x:Operand}{i:Nat}(hR:RH B H w g ow)(hF:Fr w g F a.tmps)(ho:o.op= .extract x i)(h: (Za1 E nid o.op o.type (aev F)).run H []=some ((v,patch),rd)):Did B (Zad H patch) w g nid v ((execOp a.eval o).run P w):=by
 rw[ho]at h;simp only[Za1]at h;split at h
 ·rename_i l hc;simp only[Zac,Zab,Vb]at h;obtain⟨v',hn,⟨rfl,rfl⟩,_⟩:=h;have hx:=hF.eval x;rw[hc]at hx;obtain⟨vs,h1,h2⟩:=hx
  have key: ∀ (l:AVs) (vs:List Value) (i:Nat),VRs w g l vs->l.nth i=some v' -> ∃u,vs[i]? =some u/\VR1 w g v' u:=by
   intro l
   induction l using AVs.rec (motive_1:=fun _=>True) with
   |nil=>intro vs i _ h;simp [AVs.nth]at h
   |cons b l _ ih=>
    intro vs i hv h;obtain⟨u,r,rfl,h3,h4⟩:=hv
    cases i with
    |zero=>simp only[AVs.nth,Option.some.injEq]at h;subst h;exact⟨u,rfl,h3⟩
    |succ i=>simp only[AVs.nth]at h;simpa using ih r i h4 h
   |_=>trivial
  obtain⟨u,h3,h4⟩:=key l vs i h2 hn;refine Did.pure (val:=u) hR ?_ (VR.of1 h4);simp [execOp,ho,h1,Instr.extract,h3]
 ·simp [Zaa]at h
end ops
end Tr
