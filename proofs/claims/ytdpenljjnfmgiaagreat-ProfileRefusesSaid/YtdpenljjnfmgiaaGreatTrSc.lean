/- copy, cap and slices with three indexes. Conditions: the table of types is the program's. -/
import Derived.Laws.BytesArg
import Derived.Test.YtdpenljjnfmgiaaGreatTrS
open Bool renaming not_eq_false' ->Vp
open Go.Builtin renaming copy_ ->Vj,firstCells ->Vn,cap_ ->Vx
open Go.Instr renaming sliceBounds ->Vq,sliceBound ->Vs
open List renaming mem_of_mem_take ->Ve,length_take ->Vh,take_append_drop ->Vl,flatten_append ->Vm,length_append ->Vo,drop_drop ->Vv,drop_left ->Vw
open Nat renaming min_eq_left ->Vi
open Option renaming bind_eq_some_iff ->Vf,isSome_iff_exists ->Vk,bind_some ->Vr,bind_none ->Vt,map_some ->Vu
open Prod.mk renaming injEq ->Vb
open Go.Result renaming andThen_ok ->Va
open Go.Sem renaming run_bind ->Vc,run_pure ->Vd
open Go.Value renaming slice ->Vg
namespace Tr
open Go
section ops
variable {P:Program}{E:Env}{B:Zbr}{H:AH}{w:World}{g:Gh}{ow:Nat->Nat->Prop}{F:Nat->AV}{a:Act}{nid:Nat}{o:Oper}{v:AV}{patch:ZaY}{rd:List Nat}
theorem ZiV{id:Nat}{x:Option Zc0}(h:H id=x):Zbl H id x=H:=by
 funext k;by_cases e:k=id
 ·subst e;rw[ZaT,h]
 ·rw[Zat e]
theorem Zn9{T0 ty Et:TypeId}{ie:TypeInfo}{argTypes:Array TypeId}(h0:argTypes[0]? =some T0)(hu:P.underlying T0=some (.slice Et))(hie:P.info? Et=some ie)
  {base xb:Option Addr}{n cap m c:Nat}{news:List Value} (hfn: (Vn ie.size (Nat.min m n) (.slice xb m c)).run P w= .ok news.toArray w):
  (Vj argTypes ty #[.slice base n cap, .slice xb m c]).run P w=(do (match base with|some a=>storeCells a news|none=>pure ());pure (.int .i64 ((Nat.min m n:Nat):Int)):Sem Value).run P w:=by
 have ha: (#[Vg base n cap,Vg xb m c]:Array Value)[0]? =some (.slice base n cap):=rfl;have hb: (#[Vg base n cap,Vg xb m c]:Array Value)[1]? =some (.slice xb m c):=rfl;unfold Vj;simp only[h0,ha,hb,Vc,run_underlying hu,Va,Builtin.lenOf,Vd,Go.sizeOf,typeInfo,run_program,hie,hfn]
 cases base<;>simp [goInt]
theorem ZkC{id lo n m cap:Nat}{t:Ty}{xs ys:List (El t)}{base:Option Addr}{xv:Value}{T0 ty Et:TypeId}{ie:TypeInfo}{argTypes:Array TypeId}{r:Result Next}(hR:RH B H w g ow)(hH:H id=some (.vec t xs))
  (h0:argTypes[0]? =some T0) (hu:P.underlying T0=some (.slice Et)) (hie:P.info? Et=some ie) (hsz:ie.size=t.size) (hX:Zit w g t ys xv) (hlo:lo+n<=xs.length)
  (hS:n=0\/ ∃b len,g.slv id= .slice (some ⟨b,0,none⟩) len m/\base=some ⟨b,lo*t.size,none⟩)
  (hr: ∀val w',(Vj argTypes ty #[.slice base n cap,xv]).run P w= .ok val w' ->r= .ok (.value val) w'):
  Did B (Zbl H id (some (.vec t (xs.take lo++ys.take (min ys.length n)++xs.drop (lo+min ys.length n))))) w g nid (.d (.int .i64) ((min ys.length n:Nat):Int)) r:=by
 obtain⟨xb,c,css2,rfl,hfa2,hl2⟩:=hX;have hk:Nat.min ys.length n=min ys.length n:=rfl;generalize hkk:min ys.length n=k at*;have hky:k<=ys.length:=by omega
 have hkn:k<=n:=by omega
 have hfn: (Vn ie.size k (.slice xb ys.length c)).run P w= .ok (css2.take k).flatten.toArray w:=by
  rw[hsz];by_cases hk0:k=0
  ·subst hk0
   cases xb with
   |none=>rfl
   |some ad=>exact run_firstCells_some (P:=P) w _ _ ad _ _ [] (by simp) (by simp)
  ·obtain⟨b,off,rfl,hL⟩:=hl2 (by grind);have hp:=ZcC.part (l:=0) (n:=k) (Rd.all_length hfa2) (Nat.zero_le _) hL;simp only[Nat.zero_mul,Nat.add_zero,List.drop_zero]at hp;refine run_firstCells_some (P:=P) w _ _ _ _ _ _ ?_ ?_
   ·rw[Zap fun c hc=>Rd.all_length hfa2 c (Ve hc),Vh, <-hfa2.length,Vi hky]
   ·intro j u hj;obtain⟨hlt,rfl⟩:=List.getElem?_eq_some_iff.1 hj;have:=hp j hlt;rw[Zb4, <-this]
 have hrun:=Zn9 (ty:=ty) (base:=base) (n:=n) (cap:=cap) h0 hu hie (by rw[hk];omega);rw[hk]at hrun;have hid:H id≠none:=by grind
 by_cases hk0:k=0
 ·subst hk0;have e:xs.take lo++ys.take 0++xs.drop (lo+0)=xs:=by simp
  rw[e,ZiV hH];refine Did.pure hR (val:= .int .i64 ((0:Nat):Int)) (hr _ _ (hrun.trans ?_)) (Zbj _ _)
  cases base<;>simp [storeCells]
 ·rcases hS with hS| ⟨b,len,hslv,rfl⟩
  ·omega
  obtain⟨hK,hty,hO⟩:=hR.objs id _ hH;rcases hO with ⟨rfl,_⟩ | ⟨b',cap',cs,e,css,hblk,hob,hslv',hh,hcap',hcs,hfa,rest,hrest⟩
  ·grind
  rw[hslv]at hslv';simp only[Vg.injEq,Option.some.injEq,Addr.mk.injEq,and_true]at hslv';obtain⟨rfl,rfl,rfl⟩:=hslv';have hl1:=Zap (Rd.all_length hfa)
  have hn2: ((css2.take k).flatten).length=k*t.size:=by rw[Zap fun c hc=>Rd.all_length hfa2 c (Ve hc),Vh, <-hfa2.length,Vi hky]
  have hn1: ((css.take lo).flatten).length=lo*t.size:=by rw[Zap fun c hc=>Rd.all_length hfa c (Ve hc),Vh, <-hfa.length,Vi (by omega)]
  have hnm: (((css.drop lo).take k).flatten).length=k*t.size:=by rw[Zap fun c hc=>Rd.all_length hfa c (by grind),Vh,List.length_drop, <-hfa.length,Vi (by omega)]
  have hsplit:css.flatten=(css.take lo).flatten++(((css.drop lo).take k).flatten++(css.drop (lo+k)).flatten):=by rw[<-Vv, <-Vm,Vl, <-Vm,Vl]
  have hcs2:cs.toList=(css.take lo).flatten++(((css.drop lo).take k).flatten++((css.drop (lo+k)).flatten++rest)):=by
   grind
  have hsize:cs.size=lo*t.size+(k*t.size+((css.drop (lo+k)).flatten++rest).length):=by rw[<-Array.length_toList,hcs2,Vo,Vo,hn1,hnm]
  have hone: ∀u∈(css2.take k).flatten,u.oneCell' =true:=by
   intro u hu;obtain⟨c1,hc1,hu⟩:=List.mem_flatten.1 hu;obtain⟨i,hi,rfl⟩:=List.getElem_of_mem (Ve hc1);have hi' :i<ys.length:=by rw[hfa2.length];omega
   obtain⟨c',h2,h3⟩:=hfa2.get i ys[i] (by simp);rw[List.getElem?_eq_getElem hi]at h2;cases h2;exact Rd.oneCell t _ _ h3 u hu
  have hst:=run_storeCells_at P b (lo*t.size) e (css2.take k).flatten 0 cs w hh (by omega) hone
  have hnew: (cs.toList.take (lo*t.size+0)++(css2.take k).flatten++cs.toList.drop (lo*t.size+0+(css2.take k).flatten.length))=(css.take lo++css2.take k++css.drop (lo+k)).flatten++rest:=by rw[Nat.add_zero,hn2,hcs2, <-hn1,List.take_left, <-Vv,Vw, <-hnm,Vw];simp
  rw[hnew]at hst
  have hr' :=hr _ _ (hrun.trans (by simp only[Vc,hst,Va,Vd];rfl))
  have hs:=hR.sep id b hid hob;have hag:ZaV g.I w (w.setRow b ((css.take lo++css2.take k++css.drop (lo+k)).flatten++rest).toArray):=fun q hq=>setRow_other w b q _ (by grind)
  have hfan:Fa (Rd (w.setRow b ((css.take lo++css2.take k++css.drop (lo+k)).flatten++rest).toArray) g.I t) (xs.take lo++ys.take k++xs.drop (lo+k)) (css.take lo++css2.take k++css.drop (lo+k)):=
   (((hfa.take lo).append (hfa2.take k)).append (hfa.drop (lo+k))).mono fun x c hx=>Rd.mono hag (by simp) t x c hx
  have hlen: (xs.take lo++ys.take k++xs.drop (lo+k)).length=xs.length:=by grind
  refine⟨.int .i64 (k:Int),_,g,ow, .inl hr',hR.write hid hob (fun q hq=>setRow_other w b q _ hq) (size_setRow w b _) rfl rfl ⟨rfl,Nat.le_refl _⟩ ?_, .refl g,hag,Zbj _ _,by grind⟩;refine⟨hty, .inr ⟨b,m,_,e,_,hblk,hob,by grind,ZbJ hh,by omega, ?_,hfan,rest,by simp⟩⟩
  grind
theorem ZoO{c:Call}(hT:Zah P E)(hR:RH B H w g ow)(hF:Fr w g F a.tmps)(ho:o.op= .call c)(hc:c.callee= .builtin .copy)
  (h: (Za1 E nid o.op o.type (aev F)).run H []=some ((v,patch),rd)):Did B (Zad H patch) w g nid v ((execOp a.eval o).run P w):=by
 rw[ho]at h;simp only[Za1,hc]at h;split at h
 ·rename_i d s t hargs hty
  have hargs' :c.args.map a.eval= #[a.eval d,a.eval s]:=by
   have:c.args= #[d,s]:=by grind
   grind
  obtain⟨T0,h0,ht0⟩:=Vf.1 hty;obtain⟨Et,hu,hEt⟩:=Zar hT ht0;obtain⟨ie,z,hie,hsz,_⟩:=(hT.ty Et _ hEt).info
  have hrun: ∀val w',(Vj c.argTypes o.type #[a.eval d,a.eval s]).run P w= .ok val w' ->(execOp a.eval o).run P w= .ok (.value val) w' :=by intro val w' hrun;simp only[execOp,ho,ZaL hc,builtin,hargs',Vc,hrun,Va,Vd]
  unfold Zqq at h;split at h
  ·rename_i id hy;rw[Zag]at h;split at h
   ·rename_i t' xs hH;simp only[Zac,Zaj,Zab,Vb]at h;obtain⟨xs2,hxs,⟨ys,ids⟩,m1,hX,⟨rfl,rfl⟩,_⟩:=h;obtain⟨rfl,rfl⟩:=ZbU hxs;have hdv:=hy▸hF.eval d;obtain⟨hK,he⟩:=hdv.vw;have hX' :=Zc1 hR (hF.eval s) hX;obtain⟨_,hty',hO⟩:=hR.objs id _ hH
    have hd: ∃base m,a.eval d= .slice base xs2.length m/\(xs2.length=0\/ ∃b len,g.slv id= .slice (some ⟨b,0,none⟩) len m/\base=some ⟨b,0*t'.size,none⟩):=by
     grind
    obtain⟨base,m,hd1,hd2⟩:=hd;have:=ZkC (nid:=nid) (lo:=0) (n:=xs2.length) (m:=m) (cap:=m) (ty:=o.type) hR hH h0 hu hie hsz hX' (by omega) hd2 (r:=(execOp a.eval o).run P w) (by grind);simpa [Zad] using this
   ·simp [Zaa]at h
  ·rename_i id lo n hy;rw[Zag]at h;split at h
   ·rename_i t' xs hH;simp only[Zac,Zaj,Zab,Vb]at h;obtain⟨xs2,hxs,u,hg,⟨ys,ids⟩,m1,hX,⟨rfl,rfl⟩,_⟩:=h;obtain⟨rfl,rfl⟩:=ZbU hxs;have hlo:lo+n<=xs2.length:=Nat.le_of_ble_eq_true (ZaK hg);have hdv:=hy▸hF.eval d;obtain⟨hK,he⟩:=hdv.vs;have hX' :=Zc1 hR (hF.eval s) hX;obtain⟨_,hty',_⟩:=hR.objs id _ hH;rw[hty']at he
    have hd: ∃base m cap,a.eval d= .slice base n cap/\(n=0\/ ∃b len,g.slv id= .slice (some ⟨b,0,none⟩) len m/\base=some ⟨b,lo*t'.size,none⟩):=by
     rcases he with ⟨_,_,rfl,hv⟩ | ⟨b,len,cap,m,hslv,h1,h2,h3,hv⟩
     all_goals grind
    obtain⟨base,m,cap,hd1,hd2⟩:=hd;have:=ZkC (nid:=nid) (lo:=lo) (n:=n) (m:=m) (cap:=cap) (ty:=o.type) hR hH h0 hu hie hsz hX' hlo hd2 (r:=(execOp a.eval o).run P w) (by grind)
    assumption
   ·simp [Zaa]at h
  ·simp [Zaa]at h
 ·simp [Zaa]at h
theorem Zp9{c:Call}(hT:Zah P E)(hR:RH B H w g ow)(hF:Fr w g F a.tmps)(ho:o.op= .call c)(hc:c.callee= .builtin .cap)
  (h: (Za1 E nid o.op o.type (aev F)).run H []=some ((v,patch),rd)):Did B (Zad H patch) w g nid v ((execOp a.eval o).run P w):=by
 rw[ho]at h;simp only[Za1,hc]at h;split at h
 ·rename_i x T hargs hty
  have hargs' :c.args.map a.eval= #[a.eval x]:=by
   have:c.args= #[x]:=by grind
   grind
  split at h
  ·rename_i hx;simp only[Zae,Zaa,and_false,or_false,Zab,Vb]at h;obtain⟨hs,⟨rfl,rfl⟩,_⟩:=h;have he:=(hx▸hF.eval x).nils
   have: ∃t,E.ty T=some (.sl t):=by
    cases ht:E.ty T with
    |none=>rw[ht]at hs;simp [Zdy]at hs
    |some t=>cases t<;>rw[ht]at hs<;>simp [Zdy]at hs;simp
   obtain⟨t,ht⟩:=this;obtain⟨Et,hu,_⟩:=Zar hT ht;refine Did.pure hR (val:= .int .i64 0) ?_ (Zbj _ _)
   have hcap: (Vx c.argTypes o.type #[.slice none 0 0]).run P w= .ok (.int .i64 0) w:=by have ha: (#[Vg none 0 0]:Array Value)[0]? =some (.slice none 0 0):=rfl;unfold Vx;simp only[hty,ha,Vc,run_underlying hu,Va];rfl
   simp only[execOp,ho,ZaL hc,builtin,hargs',he,Vc,hcap,Va,Vd]
  ·simp [Zaa]at h
 ·simp [Zaa]at h
theorem ZkJ{I:Nat->Prop} : ∀ {y:List Int}{css:List (List Value)},Fa (Rd w I (.int .u8)) y css->css.flatten=y.map (Value.int .u8)
 | [],[],_=>rfl
 |_::_,_::_,⟨h,q⟩=>by rw[List.flatten_cons,ZkJ q,show _=_ from h];rfl
theorem ZjC{S T:TypeId}{x:Operand}(hT:Zah P E)(hR:RH B H w g ow)(hF:Fr w g F a.tmps)(ho:o.op= .convert S T x)
  (h: (Za1 E nid o.op o.type (aev F)).run H []=some ((v,patch),rd)):Did B (Zad H patch) w g nid v ((execOp a.eval o).run P w):=by
 rw[ho]at h;simp only[Za1,Zac]at h;obtain⟨s,hs,t,ht,h⟩:=h;have hx:=hF.eval x;obtain⟨d,hd⟩:=Zk9 hT hs;split at h
 ·rename_i k k' n hy;simp only[Zab,Vb]at h;obtain⟨⟨rfl,rfl⟩,_⟩:=h;rw[hy]at hx;refine Did.pure hR (val:= .int k (k.wrap n)) ?_ (Zbj _ _);simp only[execOp,ho,VR.int hx,convert,underlying,Vc,run_program,Va,hd,Ziq hT ht,Vd,Conv.intToInt]
 ·rename_i y hy;simp only[Zab,Vb]at h;obtain⟨⟨rfl,rfl⟩,_⟩:=h;rw[hy]at hx;refine Did.pure hR (val:= .string ⟨y.toArray⟩) ?_ (ZiC _);simp only[execOp,ho,VR.str hx,convert,underlying,Vc,run_program,Va,hd,ZeZ hT ht,Vd]
 ·simp only[Zae,Zaa,and_false,or_false,beq_iff_eq,Acc.run_bind]at h;obtain⟨rfl,h⟩:=h
  cases hb: (ZhY (.int .u8) (aev F x)).run H [] with
  |none=>grind
  |some r=>
   obtain⟨⟨y,ids⟩,l'⟩:=r;rw[hb]at h;simp only[Vr,Zab,Vb]at h;obtain⟨⟨rfl,rfl⟩,_⟩:=h;obtain⟨Et,hu,hEt⟩:=Zar hT hs;have hue:=Ziq hT hEt;have hud:=ZeZ hT ht;obtain⟨xb,c,css,hv,hfa,hl⟩:=Zc1 hR hx hb;refine Did.pure hR (val:= .string (strOfNums y)) ?_ (ZiC (ZhU y))
   have key: (convert S T (.slice xb y.length c)).run P w= .ok (.string (strOfNums y)) w:=by
    by_cases hne:y=[]
    ·subst hne
     cases xb with
     |none=>exact run_convert_bytes_nil w S Et hu hue _ _ T hud
     |some a0=>
      rw[run_convert_bytes_string w S T Et _ _ _ hu hue hud];rfl
    ·obtain⟨b,off,rfl,hlies⟩:=hl hne;have hfl:=ZkJ hfa;refine run_convert_bytes_arg w S Et hu hue b off _ c y rfl (fun i hi=> ?_) T hud;have hi' :i<css.flatten.length:=by grind
     rw[hlies i hi',List.getElem_of_eq hfl]
     grind
   simp only[execOp,ho,hv,Vc,key,Va,Vd]
 ·simp [Zaa]at h
theorem ZfD{len cap m:Nat}{lo:Option Operand}{hi mx:Operand}{l h:Nat}{mi:Int}(hF:Fr w g F a.tmps)(hm:m<=cap)
  (hlo: ∀x∈lo,(Zba (aev F x)).isSome) (hhi: (Zba (aev F hi)).isSome) (hmx:Zba (aev F mx)=some mi) (hmi:0<=mi/\m=mi.toNat)
  (hs:sliceB len m (lo.bind fun o=>Zba (aev F o)) (Zba (aev F hi))=some (l,h)):
  (Vq true len cap (lo.map a.eval) (some (a.eval hi)) (some (a.eval mx))).run P w= .ok (l,h,m) w/\l<=h/\h<=m:=by
 have bound: ∀ (x:Operand) (n:Int) (y:Nat) (code:BoundsCode),Zba (aev F x)=some n->0<=n->n<=y->(Vs (a.eval x) y code).run P w= .ok n.toNat w:=by intro x n y code hx h0 h1;obtain⟨k,he⟩:=Zkt hF hx;simp only[Vs,he,asIntOf,Vc,Vd,Va,h0,h1,and_self,if_true]
 obtain⟨n,hn⟩:=Vk.1 hhi;unfold sliceB at hs;rw[hn]at hs;simp only[Vf]at hs;obtain⟨h',hh,hl⟩:=hs;split at hh
 ·rename_i hb;cases hh;have b1:=bound mx mi cap .slice3Acap hmx hmi.1 (by omega);have b2:=bound hi n m .slice3B hn hb.1 hb.2;rw[<-hmi.2]at b1;unfold Vq
  cases lo with
  |none=>
   simp only[Vt,Option.some.injEq,Vb]at hl;obtain⟨rfl,rfl⟩:=hl;refine⟨?_,Nat.zero_le _,by omega⟩
   simp_all
  |some x=>
   obtain⟨n2,hn2⟩:=Vk.1 (hlo x rfl);simp only[Vr,hn2]at hl;split at hl
   ·rename_i hb2;simp only[Option.some.injEq,Vb]at hl;obtain⟨rfl,rfl⟩:=hl;have b3:=bound x n2 n.toNat .slice3C hn2 hb2.1 hb2.2;refine⟨?_,by omega,by omega⟩
    simp_all
   grind
 grind
theorem ZlH{T:TypeId}{x hi mx:Operand}{lo:Option Operand}(hT:Zah P E)(hR:RH B H w g ow)(hF:Fr w g F a.tmps)(ho:o.op= .slice T x lo (some hi) (some mx))
  (h: (Za1 E nid o.op o.type (aev F)).run H []=some ((v,patch),rd)):Did B (Zad H patch) w g nid v ((execOp a.eval o).run P w):=by
 rw[ho]at h;simp only[Za1,Zae,Zaa,and_false,false_or,Vp,Bool.and_eq_true]at h;obtain⟨⟨hlo,hhi⟩,h⟩:=h;have hlo:=ZbP hlo;have hhi: (Zba (aev F hi)).isSome:=hhi;have hx:=hF.eval x;split at h
 ·rename_i id hy;rw[Zag]at h;split at h
  ·rename_i t xs hH;simp only[Zae,Zac,Zaa,and_false,false_or,Vp,beq_iff_eq]at h;obtain⟨ht,mi,hmi,m,hm,⟨l,h'⟩,hs,h⟩:=h
   have hh:v= .vs id l (h' - l)/\patch=[]:=by
    cases lo with
    |none=>
     simp only[Zab,Vb]at h
     have hl:0=l:=by simp only[sliceB,Vt,Vf,Option.some.injEq,Vb]at hs;omega
     grind
    |some x=>
     simp only[Zab,Vb]at h
     grind
   obtain⟨rfl,rfl⟩:=hh;obtain⟨hm0,hm1,hm2⟩:=ZcQ hm;have hmm:m<=xs.length:=by omega
   obtain⟨Et,hu,hEt⟩:=Zar hT ht;obtain⟨hk,he⟩:=(hy▸hx).vw;obtain⟨_,hty,hO⟩:=hR.objs id _ hH
   have key: ∃ (a0:Option Addr) (cap:Nat),g.slv id= .slice a0 xs.length cap/\xs.length<=cap/\(∀l n m,l+n<=xs.length->l+n<=m->m<=xs.length->Zds (g.slv id) t.size l n [.slice (if m=l then a0 else a0.map (·.add (l*t.size))) n (m - l)]):=by
    rcases hO with ⟨rfl,_,hO⟩ | ⟨b,cap,cs,e,css,_,_,hO,_,hcap,_⟩
    ·refine⟨none,0,hO,Nat.le_refl _,fun l n m hln hlm hmm=> .inl ⟨hO, ?_, ?_, ?_⟩⟩
     all_goals grind
    ·refine⟨_,cap,hO,hcap,fun l n m hln hlm hmm=> .inr ⟨b,xs.length,cap,m - l,hO,hln,by omega,by omega, ?_⟩⟩;congr 2;by_cases h0:m=l
     ·grind
     ·rw[if_neg h0,if_neg (by omega)];simp only[Vu,Option.some.injEq];unfold Addr.add
      grind
   obtain⟨a0,cap,hv,hcap,hsub⟩:=key;obtain⟨hb,hlh,hhl⟩:=ZfD (P:=P) (w:=w) (cap:=cap) hF (by omega) hlo hhi hmi ⟨hm0,hm2⟩ hs
   refine Did.pure hR (val:= .slice (if m=l then a0 else a0.map (·.add (l*t.size))) (h' - l) (m - l)) ?_ (ZaR ?_ rfl rfl)
   ·simp only[execOp,ho,he,hv,Instr.sliceAt,Instr.slice,Vu,underlying,Vc,run_program,Va,hu,Vd,hb,(hT.ty Et t hEt).run_sizeOf]
   ·simp only[CV]
    grind
  ·simp [Zaa]at h
 ·simp [Zaa]at h
end ops
end Tr
