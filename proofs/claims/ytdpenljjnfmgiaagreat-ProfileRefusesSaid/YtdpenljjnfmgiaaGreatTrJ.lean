/- Operations on addresses and parts. Conditions: the table of types is the program's. -/
import Derived.Test.YtdpenljjnfmgiaaGreatTrI
open Bool renaming and_eq_true ->Vh,or_eq_false_iff ->Vi,not_eq_false' ->Vj
open Go.Instr renaming indexAt ->Vg,sureAddr ->Vl,fieldAt ->Vm,index ->Vn
open List renaming cons_append ->Vk
open Option renaming map_eq_some_iff ->Ve
open Prod.mk renaming injEq ->Vc,inj ->Vf
open Go.Result renaming andThen_ok ->Va
open Go.Sem renaming run_bind ->Vb,run_pure ->Vd
namespace Tr
open Go
theorem Zpk: ∀ (p:List Nat) (t:Ty) (o:Nat) (t1:Ty),Zbh t p=some (o,t1)->Zo9 t p=some t1:=by
 intro p t
 induction t generalizing p with
 |prod a b iha ihb=>
  intro o t1 h
  match p with
  | []=>rw[Zaz]at h;obtain⟨rfl,rfl⟩:=Vf (Option.some.inj h);rfl
  |0::p=>simp only[Zbh]at h;simpa only[Zo9] using iha p o t1 h
  | (n+1)::p=>
   simp only[Zbh,Ve]at h;obtain⟨r,h1,h2⟩:=h;obtain⟨rfl,rfl⟩:=Vf h2
   simpa only[Zo9] using ihb (n::p) r.1 r.2 h1
 |arr n t ih=>
  intro o t1 h
  match p with
  | []=>rw[Zaz]at h;obtain⟨rfl,rfl⟩:=Vf (Option.some.inj h);rfl
  |i::p=>
   simp only[Zbh]at h;split at h
   ·simp only[Ve]at h;obtain⟨r,h1,h2⟩:=h;obtain⟨rfl,rfl⟩:=Vf h2;simpa only[Zo9] using ih p r.1 r.2 h1
   grind
 |_=>
  intro o t1 h
  match p with
  | []=>rw[Zaz]at h;obtain⟨rfl,rfl⟩:=Vf (Option.some.inj h);rfl
  |_::_=>simp [Zbh]at h
theorem Zcm: ∀ (p:List Nat) (t:Ty) (q:List Nat) (o:Nat) (t1:Ty) (o2:Nat) (t2:Ty),Zbh t p=some (o,t1)->Zbh t1 q=some (o2,t2)->Zbh t (p++q)=some (o+o2,t2):=by
 intro p t
 induction t generalizing p with
 |prod a b iha ihb=>
  intro q o t1 o2 t2 h1 h2
  match p with
  | []=>
   rw[Zaz]at h1
   grind
  |0::p=>
   simp only[Zbh]at h1
   simpa [Zbh] using iha p q o t1 o2 t2 h1 h2
  | (n+1)::p=>
   simp only[Zbh,Ve]at h1;obtain⟨r,h1,h3⟩:=h1;obtain⟨rfl,rfl⟩:=Vf h3;have:=ihb (n::p) q r.1 r.2 o2 t2 h1 h2;simp only[Vk,Zbh,Ve]
   grind
 |arr n t ih=>
  intro q o t1 o2 t2 h1 h2
  match p with
  | []=>
   rw[Zaz]at h1
   grind
  |i::p=>
   simp only[Zbh]at h1;split at h1
   ·rename_i hi;simp only[Ve]at h1;obtain⟨r,h1,h3⟩:=h1;obtain⟨rfl,rfl⟩:=Vf h3;have:=ih p q r.1 r.2 o2 t2 h1 h2;simp only[Vk,Zbh,if_pos hi,Ve]
    grind
   grind
 |_=>
  intro q o t1 o2 t2 h1 h2
  match p with
  | []=>
   rw[Zaz]at h1
   grind
  |_::_=>simp [Zbh]at h1
theorem Zb4(b o n:Nat): (⟨b,o,none⟩:Addr).add n=⟨b,o+n,none⟩:=by unfold Addr.add;simp
theorem ZeH{α:Type}{xs:List α}{n:Int}{y:α}(h:idx xs n=some y):0<=n/\xs[n.toNat]? =some y/\n<xs.length:=by
 unfold idx at h
 grind
theorem ZcQ{n:Int}{m j:Nat}(h:inb n m=some j):0<=n/\n<m/\j=n.toNat:=by
 unfold inb at h
 grind
section ops
variable {P:Program}{E:Env}{B:Zbr}{H:AH}{w:World}{g:Gh}{ow:Nat->Nat->Prop}{nid:Nat}{a:Act}{F:Nat->AV}{v:AV}{patch:ZaY}{rd:List Nat}{o:Oper}
theorem ZfM{T f:Nat}{t:Ty}{r:Nat×Ty}(h:TOk P E.ty T t)(hr:Zbh t [f]=some r)(hn: ∀n e,t≠ .arr n e):
  ∃fs fd,P.underlying T=some (.struct fs)∧fs[f]? =some fd∧fd.offset=r.1∧E.ty fd.type=some r.2∧fd.name≠ "_" :=by
 have hs:=h.shape
 cases t with
 |prod a b=>
  cases hu:P.underlying T with
  |none=>rw[hu]at hs;simp [Zak]at hs
  |some d=>
   rw[hu]at hs
   cases d with
   |struct fs=>
    simp only[Zak,Vh,List.all_eq_true,List.mem_range]at hs
    have hlt:f<fs.size:=by
     rcases Nat.lt_or_ge f fs.size with h|h
     ·exact h
     ·exfalso
      have key: ∀ (t:Ty) (k m:Nat),(Zbh t [k]).isNone=true->t.chain=true->k<=m->(Zbh t [m]).isNone=true:=by
       intro t
       induction t with
       |prod a b _ ihb=>
        intro k m h1 h2 h3
        cases k with
        |zero=>simp [Zbh,Zaz]at h1
        |succ k=>
         cases m with
         |zero=>omega
         |succ m=>
          simp only[Zbh,Option.isNone_map]at h1 ⊢
          exact ihb k m h1 h2 (by omega)
       |unit=>intro k m _ _ _;rfl
       |_=>intro k m _ h2;simp [Ty.chain]at h2
      have:=key (.prod a b) _ f hs.1.2 hs.2 h
      grind
    grind
   |_=>simp [Zak]at hs
 |unit=>simp [Zbh]at hr
 |arr n e=>grind
 |_=>simp [Zbh]at hr
theorem Zfr{t:Ty}(h:t.isStruct=true): ∀n e,t≠ .arr n e:=by rintro n e rfl;simp [Ty.isStruct]at h
theorem ZiT{t:Ty}(h:t.isStruct=true):t.agg=true:=by
 cases t<;>simp_all [Ty.isStruct,Ty.agg]
theorem ZjN{T f:Nat}{fs:Array Field}{fd:Field}{t' :Ty}{b o' :Nat}(hT:Zah P E)(h1:P.underlying T=some (.struct fs))(h2:fs[f]? =some fd)(h3:E.ty fd.type=some t')(h4:t'.size≠0):
  (Vm T (.pointer (some ⟨b,o',none⟩)) f).run P w= .ok (.pointer (some ⟨b,o' +fd.offset,none⟩)) w:=by
 simp only[Vm,underlying,Vb,run_program,Va,h1,Vd,h2,Vl,fieldPlace,(hT.ty _ _ h3).run_sizeOf,h4,if_false,Zb4]
theorem ZcC.sub{b off:Nat}{pre c1 post:List Value}(h:ZcC w b off (pre++c1++post)):ZcC w b (off+pre.length) c1:=by
 intro j hj;have:=h (pre.length+j) (by grind)
 grind
theorem Zh9{T f:Nat}{x:Operand}(hT:Zah P E)(hR:RH B H w g ow)(hF:Fr w g F a.tmps)(ho:o.op= .fieldAddr T x f)
  (h: (Za1 E nid o.op o.type (aev F)).run H []=some ((v,patch),rd)):Did B (Zad H patch) w g nid v ((execOp a.eval o).run P w):=by
 rw[ho]at h;simp only[Za1,Zac,Zae,Zaa,and_false,false_or,Vi,Vj]at h;obtain⟨t,ht,r,hr,⟨hsz,hst⟩,h⟩:=h;have hsz' :r.2.size≠0:=by intro e;simp_all
 obtain⟨fs,fd,h1,h2,h3,h4,_⟩:=ZfM (hT.ty T t ht) hr (Zfr hst);have hx:=hF.eval x
 have key: ∀ {b o' :Nat},a.eval x= .pointer (some ⟨b,o',none⟩)->(execOp a.eval o).run P w= .ok (.value (.pointer (some ⟨b,o' +r.1,none⟩))) w:=by intro b o' he;simp only[execOp,ho,he,Vb,ZjN hT h1 h2 h4 hsz',Va,Vd,h3]
 split at h
 ·rename_i t' y hy;simp only[Zae,Zaj,Zab,Zaa,and_false,or_false,beq_iff_eq,Vc]at h;obtain⟨rfl,u,m,h5,⟨rfl,rfl⟩,_⟩:=h;obtain⟨b,off,c,h6,h7,h8,h9⟩:=(hy▸hx).dp;obtain⟨_,c1,⟨o2,pre,post,h10,h11,h12⟩,h13⟩:=ZeT [f] t' y _ _ u c h5 h9;rw[hr]at h10;cases h10;refine Did.pure hR (key h6) (ZaR ?_ rfl rfl);simp only[CV];refine⟨b,off+o2,c1,rfl,h7, ?_,h13⟩;rw[<-h12];rw[h11]at h8;exact h8.sub
 ·rename_i id p hy;rw[Zag]at h;split at h
  ·rename_i t0 c hH;simp only[Zac,Zae,Zab,Zaa,and_false,or_false,beq_iff_eq,Vc]at h;obtain⟨q,hq,rfl,⟨rfl,rfl⟩,_⟩:=h;obtain⟨hk,o',t1,b,h5,h6,h7⟩:=(hy▸hx).ptr;obtain⟨_,hty,_⟩:=hR.objs id _ hH;rw[hty]at h5;have e1:=(Zpk _ _ _ _ h5).symm.trans hq;obtain rfl:=Option.some.inj e1;refine Did.pure hR (key h7) (ZaR ?_ rfl rfl);simp only[CV];exact⟨hk,o' +r.1,r.2,b,by rw[hty];exact Zcm p t0 [f] _ _ _ _ h5 hr,h6,rfl⟩
  ·simp [Zaa]at h
 ·rename_i id i p hy;rw[Zag]at h;split at h
  ·rename_i t0 xs hH;simp only[Zac,Zae,Zab,Zaa,and_false,or_false,beq_iff_eq,Vc]at h;obtain⟨q,hq,rfl,⟨rfl,rfl⟩,_⟩:=h;obtain⟨hk,o',t1,b,h5,h6,h7⟩:=(hy▸hx).vp;obtain⟨_,hty,_⟩:=hR.objs id _ hH;have hq' :=hq;rw[hty,hq]at h5;cases h5;refine Did.pure hR (key h7) (ZaR ?_ rfl rfl);simp only[CV];exact⟨hk,o' +r.1,r.2,b,by rw[hty];exact Zcm p t0 [f] _ _ _ _ hq hr,h6,by grind⟩
  ·simp [Zaa]at h
 ·rename_i id ver kt k i p hy;simp only[Zac,Zaj,Zae,Zab,Zaa,and_false,or_false,beq_iff_eq,Vc]at h;obtain⟨s,m,hacc,q,hq,rfl,⟨rfl,rfl⟩,_⟩:=h;obtain⟨hk,hv,ad,h5,h6⟩:=(hy▸hx).np;obtain⟨_,hty,hver,_⟩:=ZeR hR hk hacc;obtain⟨b,len,cap,o',t1,h7,h8,h9⟩:=h6 hver;rw[hty]at h8 h9;simp only[ety]at h8 h9;rw[hq]at h8;cases h8;subst h9;refine Did.pure hR (key h5) (ZaR ?_ rfl rfl);simp only[CV];refine⟨hk,hv,_,rfl,fun _=>⟨b,len,cap,o' +r.1,r.2,h7, ?_, ?_⟩⟩
  ·rw[hty];exact Zcm p s.1 [f] _ _ _ _ hq hr
  ·rw[hty];simp only[ety];grind
 ·simp [Zaa]at h
theorem ZcL{T:TypeId}{t:Ty}(hT:TOk P E.ty T t){cs:Array Value}{pre c post:List Value}(hcs:cs.toList=pre++c++post)(hl:c.length=t.size)(h1:t.agg=false-> ∃v,c=[v]):
  (part T cs pre.length).run P w= .ok (mkV t.agg c) w:=by
 simp only[part,Vb,hT.run_isAgg,Va]
 cases ha:t.agg with
 |true=>
  simp only[if_true,Vb,hT.run_sizeOf,Va,Vd,mkV];congr 2;apply Array.ext'
  simp_all
 |false=>
  obtain⟨u,rfl⟩:=h1 ha
  have:cs[pre.length]? =some u:=by rw[<-Array.getElem?_toList,hcs,List.append_assoc,List.getElem?_append_right (by omega)];simp
  simp [this,mkV]
theorem Zbp{x:AV}{val:Value}(h:VR1 w g x val)(hx:x.isAgg=true)(hj:x≠ .junk): ∃cs,val= .agg cs/\CV w g x cs.toList:=by
 obtain⟨h1,h2⟩:=h;rcases h2 with h2|h2
 ·grind
 ·rw[hx]at h2
  cases val<;>simp [Zav]at h2
  exact⟨_,rfl,h1⟩
theorem Zmu{T f:Nat}{x:Operand}(hT:Zah P E)(hR:RH B H w g ow)(hF:Fr w g F a.tmps)(ho:o.op= .field T x f)
  (h: (Za1 E nid o.op o.type (aev F)).run H []=some ((v,patch),rd)):Did B (Zad H patch) w g nid v ((execOp a.eval o).run P w):=by
 rw[ho]at h;simp only[Za1,Zac,Zae,Zaa,and_false,false_or,or_false,Vi,Vj,Zaj,Zab,Vc,Vh]at h;obtain⟨t,ht,r,hr,⟨⟨hst,hf⟩,hsol⟩,v',m,hg,⟨hv,hvs⟩,⟨rfl,rfl⟩,_⟩:=h;obtain⟨fs,fd,h1,h2,h3,h4,_⟩:=ZfM (hT.ty T t ht) hr (Zfr hst);obtain⟨cs,he,hc⟩:=Zbp ((hF.eval x).to1 (Zey hf).2) (by rw[Zd0 hf hsol,ZiT hst]) (Zey hf).1;obtain⟨_,t',c1,⟨o2,pre,post,h5,h6,h7⟩,h8,h9⟩:=Zf2 hg hf hc;rw[hr]at h5;cases h5;obtain⟨h10,h11⟩:=Zgk h9 h8 (Zd0 h8 hvs);refine Did.pure hR ?_ (VR.of1 h10);have h3' :fd.offset=pre.length:=by omega
 simp only[execOp,ho,Vb,Instr.field,underlying,run_program,Va,h1,Vd,h2,he,asAgg,h3',ZcL (hT.ty _ _ h4) h6 (CV.length v' t' c1 h8 h9) h11]
theorem Zar{T:TypeId}{t:Ty}(hT:Zah P E)(h:E.ty T=some (.sl t)): ∃Et,P.underlying T=some (.slice Et)/\E.ty Et=some t:=by
 have hs:=(hT.ty T _ h).shape
 cases hu:P.underlying T with
 |none=>rw[hu]at hs;simp [Zak]at hs
 |some d=>rw[hu]at hs;cases d<;>simp [Zak]at hs;grind
theorem Zca{T:TypeId}{t:Ty}{n:Nat}(hT:Zah P E)(h:E.ty T=some (.arr n t)): ∃Et,P.underlying T=some (.array n Et)/\E.ty Et=some t:=by
 have hs:=(hT.ty T _ h).shape
 cases hu:P.underlying T with
 |none=>rw[hu]at hs;simp [Zak]at hs
 |some d=>rw[hu]at hs;cases d<;>simp [Zak]at hs;grind
theorem Za9{T Et:TypeId}{t:Ty}{b o' len cap:Nat}{k:IntKind}{n:Int}(hT:Zah P E)(h1:P.underlying T=some (.slice Et))(h2:E.ty Et=some t)(h0:0<=n)(hn:n<len):
  (Vg T (.slice (some ⟨b,o',none⟩) len cap) (.int k n)).run P w= .ok (.pointer (some ⟨b,o' +n.toNat*t.size,none⟩)) w:=by
 simp only[Vg,asIntOf,underlying,Vb,run_program,Va,h1,Vd,h0,hn,and_self,if_true,(hT.ty _ _ h2).run_sizeOf,Zb4]
theorem ZcU{T Et:TypeId}{t:Ty}{b o' m:Nat}{k:IntKind}{n:Int}(hT:Zah P E)(h1:P.underlying T=some (.array m Et))(h2:E.ty Et=some t)(h0:0<=n)(hn:n<m):
  (Vg T (.pointer (some ⟨b,o',none⟩)) (.int k n)).run P w= .ok (.pointer (some ⟨b,o' +n.toNat*t.size,none⟩)) w:=by
 simp only[Vg,asIntOf,underlying,Vl,Vb,run_program,Va,h1,Vd,h0,hn,and_self,if_true,(hT.ty _ _ h2).run_sizeOf,Zb4]
theorem ZpC{I:Nat->Prop}{t:Ty}{xs:List (El t)}{css:List (List Value)}{b off:Nat}(h:Fa (Rd w I t) xs css)(hl:ZcC w b off css.flatten){i:Nat}{y:El t}(hy:xs[i]? =some y):
  ∃c,Rd w I t y c/\ZcC w b (off+i*t.size) c:=by
 obtain⟨c,hc,hr⟩:=h.get i y hy;obtain⟨s1,s2,_⟩:=Za7 hc t.size (Rd.all_length h);refine⟨c,hr, ?_⟩;rw[s1]at hl;rw[<-s2];exact hl.sub
theorem Zkm{id:Nat}{t:Ty}{xs:List (El t)}{val:Value}(hR:RH B H w g ow)(hH:H id=some (.dat t xs))(hx:VR w g (.vw id) val):VR w g (.d (.sl t) xs) val:=by
 obtain⟨_,_,hr⟩:=hR.objs id _ hH;have h1:=(hx.to1 (by simp)).1;simp only[CV]at h1;rw[<-hx.vw.2]at hr;have hone:val.oneCell' =true:=by rw[hx.vw.2];grind
 exact ZaR (by assumption) hone rfl
theorem ZhO{T:Nat}{x i:Operand}(hT:Zah P E)(hR:RH B H w g ow)(hF:Fr w g F a.tmps)(ho:o.op= .indexAddr T x i)
  (h: (Za1 E nid o.op o.type (aev F)).run H []=some ((v,patch),rd)):Did B (Zad H patch) w g nid v ((execOp a.eval o).run P w):=by
 rw[ho]at h;simp only[Za1,Zac]at h;obtain⟨T',hT',h⟩:=h;have hx:=hF.eval x;have hi:=hF.eval i;split at h
 ·rename_i t xs k n hx' hi';simp only[Zae,Zac,Zab,Zaa,and_false,or_false,beq_iff_eq,Vc]at h;obtain⟨rfl,y,hy,⟨rfl,rfl⟩,_⟩:=h;obtain⟨h0,hy1,hn⟩:=ZeH hy;obtain⟨Et,h1,h2⟩:=Zar hT hT';obtain⟨ad,cap,css,h3,h4,h5,_⟩:=(hx' ▸hx).sl;obtain⟨b,off,rfl,h6,h7⟩:=h5 (by grind);obtain⟨c,h8,h9⟩:=ZpC h4 h7 hy1;refine Did.pure (val:= .pointer (some ⟨b,off+n.toNat*t.size,none⟩)) hR ?_ (ZaR ?_ rfl rfl)
  ·simp only[execOp,ho,h3,(hi' ▸hi).int,Vb,Za9 hT h1 h2 h0 hn,Va,Vd]
  ·simp only[CV];grind
 ·rename_i id k n hx' hi';rw[Zag]at h;split at h
  ·rename_i t xs hH;simp only[Zae,Zac,Zab,Zaa,and_false,or_false,beq_iff_eq,Vc]at h;obtain⟨rfl,j,hj,⟨rfl,rfl⟩,_⟩:=h;obtain⟨h0,hn,rfl⟩:=ZcQ hj;obtain⟨Et,h1,h2⟩:=Zar hT hT';obtain⟨hk,hsv⟩:=(hx' ▸hx).vw;obtain⟨_,hty,hO⟩:=hR.objs id _ hH;rcases hO with ⟨rfl,_⟩ | ⟨b,cap,cs,e,css,hb,hJ,hs,hh,hl,hcap,hfa,hpre⟩
   ·grind
   refine Did.pure (val:= .pointer (some ⟨b,0+n.toNat*t.size,none⟩)) hR ?_ (ZaR ?_ rfl rfl)
   ·simp only[execOp,ho,hsv,hs,(hi' ▸hi).int,Vb,Za9 hT h1 h2 h0 hn,Va,Vd]
   ·simp only[CV];exact⟨hk,0,t,b,by rw[hty,Zaz],hb,by grind⟩
  ·rename_i t xs u hole hH;simp only[Zae,Zac,Zab,Zaa,and_false,or_false,beq_iff_eq,Vc]at h;obtain⟨rfl,j,hj,⟨rfl,rfl⟩,_⟩:=h;obtain⟨h0,hn,rfl⟩:=ZcQ hj;obtain⟨Et,h1,h2⟩:=Zar hT hT';obtain⟨hk,hsv⟩:=(hx' ▸hx).vw;obtain⟨_,hty,_,_,hO⟩:=hR.objs id _ hH;rcases hO with ⟨rfl,_⟩ | ⟨b,cap,cs,e,hb,hJ,hs,hh,hl,hcap,hpre⟩
   ·grind
   refine Did.pure (val:= .pointer (some ⟨b,0+n.toNat* (Ty.sl t).size,none⟩)) hR ?_ (ZaR ?_ rfl rfl)
   ·simp only[execOp,ho,hsv,hs,(hi' ▸hi).int,Vb,Za9 hT h1 h2 h0 hn,Va,Vd]
   ·simp only[CV];exact⟨hk,0, .sl t,b,by rw[hty,Zaz],hb,by grind⟩
  ·rename_i t xs hH;simp only[Zae,Zac,Zab,Zaa,and_false,or_false,beq_iff_eq,Vc]at h;obtain⟨rfl,y,hy,⟨rfl,rfl⟩,_⟩:=h;obtain⟨h0,hy1,hn⟩:=ZeH hy;obtain⟨Et,h1,h2⟩:=Zar hT hT';obtain⟨ad,cap,css,h3,h4,h5,_⟩:=(Zkm hR hH (hx' ▸hx)).sl;obtain⟨b,off,rfl,h6,h7⟩:=h5 (by grind);obtain⟨c,h8,h9⟩:=ZpC h4 h7 hy1;refine Did.pure (val:= .pointer (some ⟨b,off+n.toNat*t.size,none⟩)) hR ?_ (ZaR ?_ rfl rfl)
   ·simp only[execOp,ho,h3,(hi' ▸hi).int,Vb,Za9 hT h1 h2 h0 hn,Va,Vd]
   ·simp only[CV];grind
  ·simp [Zaa]at h
 ·rename_i id ver kt k k2 n hx' hi';simp only[Zaj,Zae,Zac,Zab,Zaa,and_false,or_false,beq_iff_eq,Vc]at h;obtain⟨r,m,hacc,rfl,j,hj,⟨rfl,rfl⟩,_⟩:=h;obtain⟨h0,hn,rfl⟩:=ZcQ hj;obtain⟨Et,h1,h2⟩:=Zar hT hT';obtain⟨hk,hv,_,_⟩:=(hx' ▸hx).nw;obtain⟨_,hty,hver,hvr,hrow⟩:=Zdf hR (hx' ▸hx) hacc;rcases hrow with ⟨h3,_⟩ | ⟨b,cap,cs,e,css,h3,hJ,hh,hl,hcap,hfa,hpre⟩
  ·grind
  refine Did.pure (val:= .pointer (some ⟨b,0+n.toNat*r.1.size,none⟩)) hR ?_ (ZaR ?_ rfl rfl)
  ·simp only[execOp,ho,h3,(hi' ▸hi).int,Vb,Za9 hT h1 h2 h0 hn,Va,Vd]
  ·simp only[CV];refine⟨hk,hv,_,rfl,fun _=>⟨b,r.2.length,cap,0,r.1,by grind,by rw[hty,Zaz];rfl,by rw[hty];simp [ety]⟩⟩
 ·rename_i id lo m k n hx' hi';rw[Zag]at h;split at h
  ·rename_i t xs hH;simp only[Zae,Zac,Zab,Zaa,and_false,or_false,beq_iff_eq,Vc]at h;obtain⟨rfl,_,hlo,j,hj,⟨rfl,rfl⟩,_⟩:=h;obtain⟨h0,hn,rfl⟩:=ZcQ hj;obtain⟨Et,h1,h2⟩:=Zar hT hT';obtain⟨hk,hsv⟩:=(hx' ▸hx).vs;obtain⟨_,hty,hO⟩:=hR.objs id _ hH;rcases hO with ⟨rfl,hb,hs⟩ | ⟨b,cap,cs,e,css,hb,hJ,hs,hh,hl,hcap,hfa,hpre⟩
   ·exfalso;rw[hs]at hsv;rcases hsv with ⟨_,_,rfl,_⟩ | ⟨b,len,cap,m',h3,_⟩
    all_goals grind
   rw[hs,hty]at hsv;rcases hsv with ⟨h3,_⟩ | ⟨b',len,cap',m',h3,h4,h5,h6,h7⟩
   ·omega
   injection h3 with h3 h3' h3'';injection h3 with h3;cases h3;have hm:m' ≠0:=by omega
   rw[if_neg hm]at h7;have he:a.eval x= .slice (some ⟨b,lo*t.size,none⟩) m m' :=by grind
   refine Did.pure (val:= .pointer (some ⟨b,lo*t.size+n.toNat*t.size,none⟩)) hR ?_ (ZaR ?_ rfl rfl)
   ·simp only[execOp,ho,he,(hi' ▸hi).int,Vb,Za9 hT h1 h2 h0 hn,Va,Vd]
   ·simp only[CV];exact⟨hk,0,t,b,by rw[hty,Zaz],hb,by grind⟩
  ·simp [Zaa]at h
 ·rename_i m t xs k n hx' hi';simp only[Zae,Zac,Zab,Zaa,and_false,or_false,beq_iff_eq,Vc]at h;obtain⟨rfl,y,hy,⟨rfl,rfl⟩,_⟩:=h;obtain⟨h0,hy1,hn⟩:=ZeH hy;obtain⟨Et,h1,h2⟩:=Zca hT hT';obtain⟨b,off,c,h3,h4,h5,h6,css,rfl,h7⟩:=(hx' ▸hx).dp;rw[h6]at hn;obtain⟨c,h8,h9⟩:=ZpC h7 h5 hy1;refine Did.pure (val:= .pointer (some ⟨b,off+n.toNat*t.size,none⟩)) hR ?_ (ZaR ?_ rfl rfl)
  ·simp only[execOp,ho,h3,(hi' ▸hi).int,Vb,ZcU hT h1 h2 h0 hn,Va,Vd]
  ·simp only[CV];grind
 ·rename_i id p k n hx' hi';rw[Zag]at h;split at h
  ·rename_i t0 c hH;simp only[Zac]at h;obtain⟨q,hq,h⟩:=h;split at h
   ·rename_i m t hm;simp only[Zae,Zac,Zab,Zaa,and_false,or_false,beq_iff_eq,Vc]at h;obtain⟨rfl,j,hj,⟨rfl,rfl⟩,_⟩:=h;obtain⟨h0,hn,rfl⟩:=ZcQ hj;obtain⟨Et,h1,h2⟩:=Zca hT hT';obtain⟨hk,o',t1,b,h5,h6,h7⟩:=(hx' ▸hx).ptr;obtain⟨_,hty,_⟩:=hR.objs id _ hH;rw[hty,hq]at h5;cases h5;simp only at hm;subst hm;refine Did.pure (val:= .pointer (some ⟨b,o' +n.toNat*t.size,none⟩)) hR ?_ (ZaR ?_ rfl rfl)
    ·simp only[execOp,ho,h7,(hi' ▸hi).int,Vb,ZcU hT h1 h2 h0 hn,Va,Vd]
    ·simp only[CV];refine⟨hk,o' +n.toNat*t.size,t,b, ?_,h6,rfl⟩;rw[hty]
     have:Zbh (.arr m t) [n.toNat]=some (n.toNat*t.size,t):=by simp only[Zbh];grind
     exact Zcm p t0 [n.toNat] _ _ _ _ hq this
   ·simp [Zaa]at h
  ·simp [Zaa]at h
 ·simp [Zaa]at h
theorem Zmx{T:Nat}{x i:Operand}(hT:Zah P E)(hR:RH B H w g ow)(hF:Fr w g F a.tmps)(ho:o.op= .index T x i)
  (h: (Za1 E nid o.op o.type (aev F)).run H []=some ((v,patch),rd)):Did B (Zad H patch) w g nid v ((execOp a.eval o).run P w):=by
 rw[ho]at h;simp only[Za1,Zac]at h;obtain⟨T',hT',h⟩:=h;have hx:=hF.eval x;have hi:=hF.eval i;split at h
 ·rename_i m t xs k n hx' hi';simp only[Zae,Zac,Zab,Zaa,and_false,or_false,beq_iff_eq,Vc,Vh]at h;obtain⟨⟨rfl,hsz⟩,y,hy,⟨rfl,rfl⟩,_⟩:=h;obtain⟨h0,hy1,hn⟩:=ZeH hy;obtain⟨Et,h1,h2⟩:=Zca hT hT';obtain⟨cs,he,hc⟩:=Zbp (x:= .d (.arr m t) xs) (hx' ▸hx) rfl (by simp);simp only[CV]at hc;obtain⟨h6,css,h7,h8⟩:=hc;rw[h6]at hn;obtain⟨c,h9,h10⟩:=h8.get _ y hy1;obtain⟨s1,s2,_⟩:=Za7 h9 t.size (Rd.all_length h8);obtain⟨h11,h12⟩:=Zgk (w:=w) (g:=g) (a:= .d t y) (t:=t) (by assumption) (by simp [AV.fits]) rfl;refine Did.pure hR ?_ (VR.of1 h11);have hp:=ZcL (w:=w) (hT.ty _ _ h2) (cs:=cs) (pre:=(css.take n.toNat).flatten) (c:=c) (post:=(css.drop (n.toNat+1)).flatten) (by grind) (Rd.length t y c h10) h12
  rw[s2]at hp;simp only[execOp,ho,he,(hi' ▸hi).int,Vn,asIntOf,underlying,Vb,run_program,Va,h1,Vd,h0,hn,and_self,if_true,(hT.ty _ _ h2).run_sizeOf,hp]
 ·rename_i xs k n hx' hi';simp only[Zae,Zac,Zab,Zaa,and_false,or_false,beq_iff_eq,Vc]at h;obtain⟨rfl,y,hy,⟨rfl,rfl⟩,_⟩:=h;obtain⟨h0,hy1,hn⟩:=ZeH hy
  have hu:P.underlying T=some .string:=by
   have hs:=(hT.ty T _ hT').shape
   cases hu:P.underlying T with
   |none=>rw[hu]at hs;simp [Zak]at hs
   |some d=>rw[hu]at hs;cases d<;>simp [Zak]at hs;rfl
  refine Did.pure (val:= .int .u8 y.toNat) hR ?_ (Zbj _ _)
  have hb: (⟨xs.toArray⟩:ByteArray)[n.toNat]? =some y:=by
   have hlt:n.toNat<xs.length:=by omega
   have hx2:xs[n.toNat]=y:=by grind
   rw[getElem?_pos (⟨xs.toArray⟩:ByteArray) n.toNat (by assumption)];congr 1
  simp only[execOp,ho,(hx' ▸hx).str,(hi' ▸hi).int,Vn,asIntOf,underlying,Vb,run_program,Va,hu,Vd,h0,if_true,hb]
 ·simp [Zaa]at h
end ops
end Tr
