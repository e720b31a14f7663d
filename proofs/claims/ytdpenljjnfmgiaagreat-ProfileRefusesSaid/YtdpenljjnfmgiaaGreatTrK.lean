/- Comparing data, keys of maps. Conditions: the table of types is the program's. -/
import Derived.Laws.StructEq
import Derived.ChangeKeysEq
import Derived.Test.YtdpenljjnfmgiaaGreatTrJ
open Array renaming getElem?_eq_some_iff ->Vb
open Bool renaming and_eq_true ->Ve
open List renaming length_append ->Va,append_assoc ->Vc
open Go.Result renaming andThen_ok ->Vd
namespace Tr
open Go
theorem Ty.depth_pos(t:Ty):1<=t.dep:=by
 induction t with
 |prod a b _ ihb=>simp only[Ty.dep];omega
 |arr n t ih=>simp only[Ty.dep];omega
 |sl t ih=>simp only[Ty.dep];omega
 |_=>simp [Ty.dep]
section
variable {P:Program}{E:Env}{w:World}{g:Gh}
theorem ZcG(l:List UInt8): (⟨l.toArray⟩:ByteArray).toList=l:=by rw[ByteArray.toList_eq]
theorem Zgl{T f:Nat}{t:Ty}{fs:Array Field}(h:TOk P E.ty T t)(hu:P.underlying T=some (.struct fs))(hf:f<fs.size): ∃r,Zbh t [f]=some r:=by
 have hs:=h.shape;rw[hu]at hs
 cases t with
 |prod a b=>
  simp only[Zak,Ve,List.all_eq_true,List.mem_range]at hs;have h1:=hs.1.1 f hf;rw[Array.getElem?_eq_getElem hf]at h1
  cases ho:Zbh (.prod a b) [f] with
  |none=>simp [ho]at h1
  |some r=>exact⟨r,rfl⟩
 |unit=>
  simp only[Zak,Array.isEmpty_iff]at hs;subst hs
  simp at hf
 |_=>simp [Zak]at hs
theorem Zhb{t:Ty}{x:El t}{c:List Value}(h:Rd w g.I t x c):VR1 w g (.d t x) (mkV t.agg c)/\(t.agg=false-> ∃v,c=[v]):=
 Zgk (a:= .d t x) (by simpa only[CV] using h) (by simp [AV.fits]) rfl
theorem ZiJ(hT:Zah P E): ∀ (N:Nat) (t:Ty) (T:TypeId) (x y:El t) (vx vy:Value) (r:Bool) (d:Nat),sizeOf t<N->E.ty T=some t->t.dep<=d->ZbC t x y=some r->
  VR1 w g (.d t x) vx->VR1 w g (.d t y) vy->(Op.equalIn d T vx vy).run P w= .ok r w:=by
 intro N
 induction N with
 |zero=>intro t T x y vx vy r d h;omega
 |succ N ih=>
 intro t T x y vx vy r d hN ht hd heq hx hy;obtain⟨d,rfl⟩: ∃d',d=d' +1:=⟨d - 1,by have:=t.depth_pos;omega⟩;have hok:=hT.ty T t ht
 cases t with
 |int k=>
  have hu:P.underlying T=some (.int k):=by
   have hs:=hok.shape
   cases hu:P.underlying T with
   |none=>rw[hu]at hs;simp [Zak]at hs
   |some d=>rw[hu]at hs;cases d<;>simp [Zak]at hs;rw[hs]
  rw[(VR.of1 hx).int,(VR.of1 hy).int,run_equalIn_int w d T k k x y hu];simp only[ZbC,Option.some.injEq]at heq
  subst heq;rfl
 |bool=>
  have hu:P.underlying T=some .bool:=by
   have hs:=hok.shape
   cases hu:P.underlying T with
   |none=>rw[hu]at hs;simp [Zak]at hs
   |some d=>rw[hu]at hs;cases d<;>simp [Zak]at hs;rfl
  rw[(VR.of1 hx).bool,(VR.of1 hy).bool,run_equalIn_bool' w d T x y hu];simp only[ZbC,Option.some.injEq]at heq
  subst heq;rfl
 |str=>
  have hu:P.underlying T=some .string:=by
   have hs:=hok.shape
   cases hu:P.underlying T with
   |none=>rw[hu]at hs;simp [Zak]at hs
   |some d=>rw[hu]at hs;cases d<;>simp [Zak]at hs;rfl
  rw[(VR.of1 hx).str,(VR.of1 hy).str,run_equalIn_string w d T _ _ hu,ZcG,ZcG];simp only[ZbC,Option.some.injEq]at heq;subst heq;congr 1
  rw[Bool.eq_iff_iff];simp
 |sl t=>simp [ZbC]at heq
 |ref=>simp [ZbC]at heq
 |arr n e=>
  obtain⟨Et,hu,he⟩:=Zca hT ht;obtain⟨xs,rfl,hcx⟩:=Zbp hx rfl (by simp);obtain⟨ys,rfl,hcy⟩:=Zbp hy rfl (by simp);simp only[CV]at hcx hcy;obtain⟨hlx,cssx,h1,h2⟩:=hcx;obtain⟨hly,cssy,h3,h4⟩:=hcy;obtain⟨i,z,hi,hisz,_⟩:=(hT.ty Et e he).info;have hcells:P.cellsOf Et=e.size:=by simp [Program.cellsOf,hi,hisz]
  rw[run_equalIn_array w d xs ys hu hi,hcells];simp only[ZbC]at heq
  have key: ∀ (m k:Nat) (lx ly:List (El e)) (cx cy:List (List Value)) (px py:List Value) (r:Bool),m=lx.length->ZbC.eqs (ZbC e) lx ly=some r->Fa (Rd w g.I e) lx cx->Fa (Rd w g.I e) ly cy->
    xs.toList=px++cx.flatten->ys.toList=py++cy.flatten->px.length=k*e.size->py.length=k*e.size->
    (Op.eqItems d Et e.size xs ys (List.range' k m)).run P w= .ok r w:=by
   intro m
   induction m with
   |zero=>
    intro k lx ly cx cy px py r hm hq hfx hfy _ _ _ _;have:lx=[]:=List.length_eq_zero_iff.1 hm.symm;subst this
    cases ly with
    |nil=>simp only[ZbC.eqs,Option.some.injEq]at hq;subst hq;rfl
    |cons _ _=>simp [ZbC.eqs]at hq
   |succ m ihm=>
    intro k lx ly cx cy px py r hm hq hfx hfy hex hey hpx hpy
    cases lx with
    |nil=>simp at hm
    |cons a lx=>
    cases ly with
    |nil=>simp [ZbC.eqs]at hq
    |cons b ly=>
     simp only[ZbC.eqs,Option.bind_eq_some_iff]at hq;obtain⟨p,hp,q,hq,hr⟩:=hq;simp only[Option.some.injEq]at hr
     cases cx with
     |nil=>exact hfx.elim
     |cons ca cx=>
     cases cy with
     |nil=>exact hfy.elim
     |cons cb cy=>
      obtain⟨ha,hfx⟩:=hfx;obtain⟨hb,hfy⟩:=hfy;obtain⟨v1,v2⟩:=Zhb (g:=g) ha;obtain⟨u1,u2⟩:=Zhb (g:=g) hb;rw[List.flatten_cons, <-Vc]at hex hey;have e1:=ZcL (w:=w) (hT.ty Et e he) hex (Rd.length e a ca ha) v2;have e2:=ZcL (w:=w) (hT.ty Et e he) hey (Rd.length e b cb hb) u2;rw[hpx]at e1;rw[hpy]at e2;have e3:=ih e Et a b _ _ p d (by simp at hN;omega) he (by simp [Ty.dep]at hd;omega) hp v1 u1;simp only[List.range'_succ,Op.eqItems,Sem.run_bind,e1,e2,e3,Vd,Sem.run_ite,Sem.run_pure]
      cases p with
      |false=>simp at hr;subst hr;rfl
      |true=>
       simp at hr;subst hr
       have:=ihm (k+1) lx ly cx cy (px++ca) (py++cb) q (by simp at hm;omega) hq hfx hfy hex hey
        (by rw[Va,hpx,Rd.length e a ca ha,Nat.add_mul];omega) (by rw[Va,hpy,Rd.length e b cb hb,Nat.add_mul];omega)
       simpa using this
  rw[List.range_eq_range']
  exact key n 0 x y cssx cssy [] [] r hlx.symm heq h2 h4 h1 h3 (by simp) (by simp)
 |unit=>
  obtain⟨xs,rfl,hcx⟩:=Zbp hx rfl (by simp);obtain⟨ys,rfl,hcy⟩:=Zbp hy rfl (by simp);have hs:=hok.shape
  cases hu:P.underlying T with
  |none=>rw[hu]at hs;simp [Zak]at hs
  |some dd=>
   rw[hu]at hs
   cases dd<;>simp [Zak]at hs
   have hfo:P.fieldsOf T= #[]:=by simp [Program.fieldsOf,hu,hs]
   rw[run_equalIn_struct w d T xs ys (by rw[hfo,hu,hs]) hok.stood,hfo];simp only[ZbC,Option.some.injEq]at heq
   subst heq;rfl
 |prod a0 b0=>
  obtain⟨xs,rfl,hcx⟩:=Zbp hx rfl (by simp);obtain⟨ys,rfl,hcy⟩:=Zbp hy rfl (by simp);simp only[CV]at hcx hcy;have hs:=hok.shape
  cases hu:P.underlying T with
  |none=>rw[hu]at hs;simp [Zak]at hs
  |some dd=>
   rw[hu]at hs
   cases dd with
   |struct fs=>
    have hfo:P.fieldsOf T=fs:=by simp [Program.fieldsOf,hu]
    rw[run_equalIn_struct w d T xs ys (by rw[hfo,hu]) hok.stood,hfo];have hch:b0.chain=true:=by simp only[Zak,Ve]at hs;exact hs.2
    have key: ∀ (u:Ty) (k base:Nat) (x y:El u) (px cx py cy:List Value) (r:Bool),sizeOf u<=sizeOf (Ty.prod a0 b0)->u.chain=true->u.dep<=d+1->(∀f,Zbh (.prod a0 b0) [k+f]=(Zbh u [f]).map fun q=>(q.1+base,q.2))->
      xs.toList=px++cx->ys.toList=py++cy->px.length=base->py.length=base->Rd w g.I u x cx->Rd w g.I u y cy->ZbC u x y=some r->
      (Op.eqFields d xs ys (fs.toList.drop k)).run P w= .ok r w:=by
     intro u
     induction u with
     |unit=>
      intro k base x y px cx py cy r _ _ _ hoff _ _ _ _ _ _ heq
      have hk:fs.size<=k:=by
       rcases Nat.lt_or_ge k fs.size with h|h
       ·obtain⟨r,hr⟩:=Zgl hok hu h;have:=hoff 0;rw[Nat.add_zero,hr]at this;simp [Zbh]at this
       ·exact h
      rw[List.drop_eq_nil_of_le (by simpa using hk)];simp only[ZbC,Option.some.injEq]at heq
      subst heq;rfl
     |prod a b _ ihb=>
      intro k base x y px cx py cy r hsz hc hdep hoff hex hey hpx hpy hrx hry heq;obtain⟨c1,c2,rfl,hx1,hx2⟩:=hrx;obtain⟨e1,e2,rfl,hy1,hy2⟩:=hry;obtain⟨p,q,hp,hq,rfl⟩:=Zip heq
      have h0:Zbh (.prod a0 b0) [k]=some (base,a):=by have:=hoff 0;rw[Nat.add_zero]at this;rw[this];simp only[Zbh,Zaz,Option.map_some,Nat.zero_add]
      obtain⟨fs',fd,hu',hfd,hfo',hfty,hname⟩:=ZfM hok h0 (by intro n e;simp);rw[hu]at hu';cases hu';have hklt:k<fs.size:=(Vb.1 hfd).1
      have hdrop:fs.toList.drop k=fd::fs.toList.drop (k+1):=by rw[List.drop_eq_getElem_cons (by simpa using hklt)];congr 1;have:=(Vb.1 hfd).2;simpa using this
      obtain⟨v1,v2⟩:=Zhb (g:=g) hx1;obtain⟨u1,u2⟩:=Zhb (g:=g) hy1;rw[<-Vc]at hex hey;have r1:=ZcL (w:=w) (hT.ty _ _ hfty) hex (Rd.length a _ c1 hx1) v2;have r2:=ZcL (w:=w) (hT.ty _ _ hfty) hey (Rd.length a _ e1 hy1) u2;have hoffs:fd.offset=base:=hfo';rw[hpx]at r1;rw[hpy]at r2;have r3:=ih a fd.type x.1 y.1 _ _ p d (by simp at hN hsz;omega) hfty (by simp only[Ty.dep]at hdep;omega) hp v1 u1;rw[hdrop];simp only[Op.eqFields,hname,ne_eq,not_false_eq_true,if_true,hoffs,Sem.run_bind,r1,r2,r3,Vd,Sem.run_ite,Sem.run_pure]
      cases p with
      |false=>rfl
      |true=>
       have:=ihb (k+1) (base+a.size) x.2 y.2 (px++c1) c2 (py++e1) e2 q (by simp at hsz ⊢;omega) hc (by simp only[Ty.dep]at hdep;omega)
        (fun f=>by have:=hoff (f+1);rw[show k+1+f=k+(f+1) by omega,this];simp only[Zbh,Option.map_map];congr 1;funext z;simp only[Function.comp];congr 1;omega) hex hey (by rw[Va,hpx,Rd.length a _ c1 hx1]) (by rw[Va,hpy,Rd.length a _ e1 hy1]) hx2 hy2 hq
       simpa using this
     |_=>intro k base x y px cx py cy r _ hc;simp [Ty.chain]at hc
    have hd' : (Ty.prod a0 b0).dep<=d+1:=hd
    exact key (.prod a0 b0) 0 0 x y [] xs.toList [] ys.toList r (Nat.le_refl _) hch hd' (fun f=>by simp) rfl rfl rfl rfl hcx hcy heq
   |_=>simp [Zak]at hs
end
end Tr
