/- Maps. Conditions: the table of types is the program's. -/
import Derived.Test.YtdpenljjnfmgiaaGreatTrK
open Bool renaming and_eq_true ->Vc
open Go.Instr renaming checkKey ->Va,findNow ->Vf,findAsking ->Vg,sameNow ->Vh,findKey ->Vm
open List renaming length_append ->Vi,append_assoc ->Vj,forIn_cons ->Vl
open Option renaming getD_some ->Vk
open Go.Result renaming andThen_ok ->Vb
open Go.Sem renaming run_bind ->Vd,run_pure ->Ve
namespace Tr
open Go
section
variable {P:Program}{E:Env}{w:World}{g:Gh}
theorem Zim{a b:Ty}{x y:El (.prod a b)}{p q:Bool}(hp:ZbC a x.1 y.1=some p)(hq:ZbC b x.2 y.2=some q): ∃r,ZbC (.prod a b) x y=some r:=by
 cases b with
 |unit=>exact⟨p,hp⟩
 |_=>
  refine⟨p&&q, ?_⟩;show (ZbC a x.1 y.1).bind _=_
  grind
theorem Znj{I:Nat->Prop} : ∀ (t:Ty) (x y:El t) (cx cy:List Value),t.key=true->Rd w I t x cx->Rd w I t y cy-> ∃r,ZbC t x y=some r:=by
 intro t
 induction t with
 |int k=>intro x y _ _ _ _ _;exact⟨_,rfl⟩
 |bool=>intro x y _ _ _ _ _;exact⟨_,rfl⟩
 |str=>intro x y _ _ _ _ _;exact⟨_,rfl⟩
 |unit=>intro x y _ _ _ _ _;exact⟨_,rfl⟩
 |sl t _=>intro x y _ _ h;simp [Ty.key]at h
 |ref=>intro x y _ _ h;simp [Ty.key]at h
 |prod a b iha ihb=>
  intro x y cx cy hk hx hy;obtain⟨c1,c2,_,h1,h2⟩:=hx;obtain⟨d1,d2,_,h3,h4⟩:=hy;simp only[Ty.key,Vc]at hk;obtain⟨p,hp⟩:=iha _ _ _ _ hk.1 h1 h3;obtain⟨q,hq⟩:=ihb _ _ _ _ hk.2 h2 h4
  exact Zim hp hq
 |arr n t ih=>
  intro x y cx cy hk hx hy;obtain⟨h1,cssx,_,h2⟩:=hx;obtain⟨h3,cssy,_,h4⟩:=hy;simp only[Ty.key]at hk
  have key: ∀ (l m:List (El t)) (cl cm:List (List Value)),l.length=m.length->Fa (Rd w I t) l cl->Fa (Rd w I t) m cm-> ∃r,ZbC.eqs (ZbC t) l m=some r:=by
   intro l
   induction l with
   |nil=>intro m _ _ h _ _;cases m<;>simp at h;exact⟨true,rfl⟩
   |cons a l ihl=>
    intro m cl cm h hl hm
    cases m with
    |nil=>grind
    |cons b m=>
     cases cl with
     |nil=>exact hl.elim
     |cons ca cl=>
     cases cm with
     |nil=>exact hm.elim
     |cons cb cm=>
     obtain⟨p,hp⟩:=ih a b ca cb hk hl.1 hm.1;obtain⟨q,hq⟩:=ihl m cl cm (by grind) hl.2 hm.2;exact⟨p&&q,by simp [ZbC.eqs,hp,hq]⟩
  exact key x y cssx cssy (by omega) h2 h4
theorem Zm2{I:Nat->Prop} : ∀ (t:Ty) (x:El t) (cx cy:List Value),t.key=true->Rd w I t x cx->Rd w I t x cy->cx=cy:=by
 intro t
 induction t with
 |int k=>intro x cx cy _ h1 h2;exact h1.trans h2.symm
 |bool=>intro x cx cy _ h1 h2;exact h1.trans h2.symm
 |str=>intro x cx cy _ h1 h2;exact h1.trans h2.symm
 |unit=>intro x cx cy _ h1 h2;exact h1.trans h2.symm
 |sl t _=>intro x _ _ h;simp [Ty.key]at h
 |ref=>intro x _ _ h;simp [Ty.key]at h
 |prod a b iha ihb=>
  intro x cx cy hk h1 h2;obtain⟨c1,c2,rfl,h3,h4⟩:=h1;obtain⟨d1,d2,rfl,h5,h6⟩:=h2;simp only[Ty.key,Vc]at hk
  grind
 |arr n t ih=>
  intro x cx cy hk h1 h2;obtain⟨_,css,rfl,h3⟩:=h1;obtain⟨_,dss,rfl,h4⟩:=h2;simp only[Ty.key]at hk
  have key: ∀ (l:List (El t)) (cl cm:List (List Value)),Fa (Rd w I t) l cl->Fa (Rd w I t) l cm->cl=cm:=by
   intro l
   induction l with
   |nil=>intro cl cm h1 h2;cases cl<;>cases cm<;>simp [Fa]at h1 h2 ⊢
   |cons a l ihl=>
    intro cl cm h1 h2
    cases cl with
    |nil=>exact h1.elim
    |cons ca cl=>
    cases cm with
    |nil=>exact h2.elim
    |cons cb cm=>rw[ih a ca cb hk h1.1 h2.1,ihl cl cm h1.2 h2.2]
  grind
theorem Zm1{t:Ty}{x:El t}{v u:Value}(hk:t.key=true)(h1:VR1 w g (.d t x) v)(h2:VR1 w g (.d t x) u):v=u:=by
 obtain⟨c1,e1⟩:=h1;obtain⟨c2,e2⟩:=h2;simp only[CV]at c1 c2;have hc:=Zm2 t x _ _ hk c1 c2
 have ha:Zav v=Zav u:=by
  grind
 cases v<;>cases u<;>simp_all [Value.cells,Zav]
theorem ZcH         (hT : Zah     P E)(em : Bool) : ∀ (N : Nat) (t : Ty) (T : TypeId) (x : El t) (v : Value) (n : Nat), sizeOf t < N -> E.ty T = some t -> t.key = true -> t.dep <= n -> VR1 w g (.d t x) v ->
    (Va em n T v).run P w = .ok () w := by
  intro N
  induction N with
  | zero => omega
  | succ N ih =>
  intro t T x v n hN ht hk hd hv;obtain ⟨n, rfl⟩ : ∃ m, n = m + 1 := ⟨n - 1, by have := t.depth_pos; omega⟩;have hok := hT.ty T _ ht;have hs := hok.shape
  cases hu : P.underlying T with
  | none => rw [hu]at hs; cases t <;> simp [Zak    ]at hs
  | some d =>
  rw [hu]at hs
  cases t with
  | sl t => simp [Ty.key]at hk
  | ref => simp [Ty.key]at hk
  | unit =>
    obtain ⟨xs, rfl, hcx⟩ := Zbp       hv rfl (by simp)
    cases d <;> simp [Zak    ]at hs
    subst hs
    simp [Va, underlying, hu]
  | prod a0 b0 =>
    obtain ⟨xs, rfl, hcx⟩ := Zbp       hv rfl (by simp);simp only [CV]at hcx
    cases d with
    | struct fs =>
      have hch : b0.chain = true := by simp only [Zak    , Vc]at hs; grind
      simp only [Va, underlying, Vd, run_program, Vb, hu, Ve];rw [<- Array.forIn_toList]
      have key : ∀ (u : Ty) (k base : Nat) (x : El u) (px cx : List Value), sizeOf u <= sizeOf (Ty.prod a0 b0) -> u.chain = true -> u.key = true -> u.dep <= n + 1 -> (∀ f, Zbh  (.prod a0 b0) [k + f] = (Zbh  u [f]).map fun q => (q.1 + base, q.2)) ->
          xs.toList = px ++ cx -> px.length = base -> Rd w g.I u x cx ->
          (forIn (fs.toList.drop k) PUnit.unit fun (f : Field) __s => (if f.name ≠ "_" then do
              let __do_lift <- part f.type xs f.offset
              Va em n f.type __do_lift
              pure (ForInStep.yield PUnit.unit)
            else pure (ForInStep.yield PUnit.unit) : Sem (ForInStep PUnit))).run P w = .ok PUnit.unit w := by
        intro u
        induction u with
        | unit =>
          intro k base x px cx _ _ _ _ hoff _ _ _
          have hk : fs.size <= k := by
            rcases Nat.lt_or_ge k fs.size with h | h
            · obtain ⟨r, hr⟩ := Zgl         hok hu h
              have := hoff 0;rw [Nat.add_zero, hr]at this;simp [Zbh ]at this
            omega
          rw [List.drop_eq_nil_of_le (by omega)]
          rfl
        | prod a b _ ihb =>
          intro k base x px cx hsz hc hkey hdep hoff hex hpx hrx;obtain ⟨c1, c2, rfl, hx1, hx2⟩ := hrx;simp only [Ty.key, Vc]at hkey
          have h0 : Zbh  (.prod a0 b0) [k] = some (base, a) := by have := hoff 0;rw [Nat.add_zero]at this;rw [this];simp only [Zbh , Zaz     , Option.map_some, Nat.zero_add]
          obtain ⟨fs', fd, hu', hfd, hfo', hfty, hname⟩ := ZfM      hok h0 (by simp);rw [hu]at hu'; cases hu';have hklt : k < fs.size := by grind
          have hdrop : fs.toList.drop k = fd :: fs.toList.drop (k + 1) := by
            rw [List.drop_eq_getElem_cons (by omega)]
            grind
          obtain ⟨v1, v2⟩ := Zhb    (g := g) hx1;rw [<- Vj]at hex;have r1 := ZcL      (w := w) (hT.ty _ _ hfty) hex (Rd.length a _ c1 hx1) v2;have hoffs : fd.offset = base := hfo';rw [hpx]at r1;have r3 := ih a fd.type x.1 _ n (by grind) hfty hkey.1 (by simp only [Ty.dep]at hdep; omega) v1;rw [hdrop];simp only [Vl, hname, ne_eq, not_false_eq_true, if_true, hoffs, Vd, r1, r3, Vb, Ve]
          have := ihb (k + 1) (base + a.size) x.2 (px ++ c1) c2 (by grind) hc hkey.2 (by simp only [Ty.dep]at hdep; omega)
            (fun f => by
              have := hoff (f + 1);rw [show k + 1 + f = k + (f + 1) by omega, this];simp only [Zbh , Option.map_map];congr 1
              grind) hex (by rw [Vi, hpx, Rd.length a _ c1 hx1]) hx2
          omega
        | _ => intro k base x px cx _ hc; simp [Ty.chain]at hc
      have := key (.prod a0 b0) 0 0 x [] xs.toList (Nat.le_refl _) hch hk hd (by simp) rfl rfl hcx
      simp_all
    | _ => simp [Zak    ]at hs
  | arr m e =>
    obtain ⟨Et, hu', he⟩ := Zca        hT ht;rw [hu]at hu'; cases hu';obtain ⟨xs, rfl, hcx⟩ := Zbp       hv rfl (by simp);simp only [CV]at hcx;obtain ⟨hlx, cssx, h1, h2⟩ := hcx;simp only [Va, underlying, Vd, run_program, Vb, hu, Ve];simp only [Std.Legacy.Range.forIn_eq_forIn_range', Std.Legacy.Range.size, Nat.sub_zero, Nat.add_one_sub_one, Nat.div_one]
    have key : ∀ (m k : Nat) (lx : List (El e)) (cx : List (List Value)) (px : List Value), m = lx.length -> Fa (Rd w g.I e) lx cx -> xs.toList = px ++ cx.flatten -> px.length = k * e.size ->
        (forIn (List.range' k m) PUnit.unit fun (i : Nat) __s => (do
              let __do_lift <- Go.sizeOf Et
              let __do_lift <- part Et xs (i * __do_lift)
              Va em n Et __do_lift
              pure (ForInStep.yield PUnit.unit) : Sem (ForInStep PUnit))).run P w = .ok PUnit.unit w := by
      intro m
      induction m with
      | zero => simp
      | succ m ihm =>
        intro k lx cx px hm hfx hex hpx
        cases lx with
        | nil => grind
        | cons a lx =>
        cases cx with
        | nil => exact hfx.elim
        | cons ca cx =>
          obtain ⟨ha, hfx⟩ := hfx;obtain ⟨v1, v2⟩ := Zhb    (g := g) ha;rw [List.flatten_cons, <- Vj]at hex;have e1 := ZcL      (w := w) (hT.ty Et e he) hex (Rd.length e a ca ha) v2;rw [hpx]at e1;have e3 := ih e Et a _ n (by grind) he hk (by simp [Ty.dep]at hd; omega) v1;simp only [List.range'_succ, Vl, Vd, (hT.ty Et e he).run_sizeOf, e1, e3, Vb, Ve];have := ihm (k + 1) lx cx (px ++ ca) (by grind) hfx hex (by rw [Vi, hpx, Rd.length e a ca ha, Nat.add_mul]; omega);omega
    have := key m 0 x cssx [] hlx.symm h2 h1 (by simp)
    simp_all
  | int k =>
    cases d <;> simp [Zak    ]at hs
    rw [(VR.of1 hv).int]
    simp [Va, underlying, hu]
  | bool =>
    cases d <;> simp [Zak    ]at hs
    rw [(VR.of1 hv).bool]
    simp [Va, underlying, hu]
  | str =>
    cases d <;> simp [Zak    ]at hs
    rw [(VR.of1 hv).str];simp [Va, underlying, hu]
def Zpt{β:Type}(w:World)(g:Gh)(kt:Ty)(m:List (El kt×β))(es:List MapEntry):Prop:=Fa (fun kv (e:MapEntry)=>VR1 w g (.d kt kv.1) e.key) m es
def Zre(w:World)(g:Gh)(kt vt:Ty)(m:List (El kt×El vt))(es:List MapEntry):Prop:=Fa (fun kv (e:MapEntry)=>VR1 w g (.d kt kv.1) e.key/\VR1 w g (.d vt kv.2) e.val) m es
theorem Zej(hT:Zah P E){K:TypeId}{kt:Ty}{β:Type}(hK:E.ty K=some kt)(hk:kt.keyOk=true){x:El kt}{v:Value}(hv:VR1 w g (.d kt x) v): ∀ (m:List (El kt×β)) (es:List MapEntry) (i:Nat),Zpt w g kt m es->
  (Vg K v es i).run P w= .ok ((ZcB (Zai kt) x m).map fun j=>(i+j,((es[j]?).map (·.val)).getD undef)) w
 | [],[],i,_=>rfl
 |kv::m,e::es,i,⟨h1,h3⟩=>by
  simp only[Ty.keyOk,Vc]at hk;have hdep:kt.dep<=10000:=by have:=Nat.le_of_ble_eq_true hk.2;omega
  obtain⟨r,hr⟩:=Znj kt x kv.1 _ _ hk.1 (by simpa only[CV] using hv.1) (by simpa only[CV] using h1.1);have e1:=ZiJ (w:=w) (g:=g) hT _ kt K x kv.1 v e.key r 10000 (Nat.lt_succ_self _) hK hdep hr hv h1;have hq:Zai kt x kv.1=r:=by simp [Zai,hr]
  simp only[Vg,Op.equal,Op.maxDepth,Vd,e1,Vb,Sem.run_ite,Ve,ZcB,hq]
  cases r with
  |true=>simp
  |false=>
   simp only[Bool.false_eq_true,if_false,cond_false];rw[Zej hT hK (by simp [Ty.keyOk,hk]) hv m es (i+1) h3]
   cases ZcB (Zai kt) x m with
   |none=>rfl
   |some j=>grind
theorem Zdx(hT:Zah P E){K:TypeId}{kt:Ty}{β:Type}(hK:E.ty K=some kt)(hk:kt.keyOk=true){x:El kt}{v:Value}(hv:VR1 w g (.d kt x) v)(m:List (El kt×β))(es:List MapEntry)(h:Zpt w g kt m es):
  (Vm K v es).run P w= .ok ((ZcB (Zai kt) x m).map fun j=>(j,((es[j]?).map (·.val)).getD undef)) w:=by
 obtain⟨d,hd⟩:=(hT.ty K kt hK).und;have hs:=(hT.ty K kt hK).shape;rw[hd]at hs;have hask:=Zej hT hK hk hv m es 0 h;simp only[Nat.zero_add]at hask;simp only[Vm,underlying,Vd,run_program,Vb,hd,Ve]
 have now: ∀ (f:Value->Value->Option Bool) (_: ∀e:MapEntry,Vh d v e.key=f v e.key) (m:List (El kt×β)) (es:List MapEntry) (i:Nat),Zpt w g kt m es->
   (∀kv e,VR1 w g (.d kt kv) e->f v e=some (Zai kt x kv))->Vf d v es i=some ((ZcB (Zai kt) x m).map fun j=>(i+j,((es[j]?).map (·.val)).getD undef)):=by
  intro f hf m
  induction m with
  |nil=>intro es i h _;cases es with
   |nil=>rfl
   |cons _ _=>exact h.elim
  |cons kv m ih=>
   intro es i h hkey
   cases es with
   |nil=>exact h.elim
   |cons e es=>
    obtain⟨h1,h3⟩:=h;simp only[Vf,hf e,hkey kv.1 e.key h1,ZcB]
    cases Zai kt x kv.1 with
    |true=>simp
    |false=>
     simp only[cond_false,ih es (i+1) h3 hkey]
     cases ZcB (Zai kt) x m with
     |none=>rfl
     |some j=>grind
 have other: (∀e:MapEntry,e∈es->Vh d v e.key=none)->(match Vf d v es 0 with|some r=>pure r|none=>Vg K v es:Sem _).run P w=
   .ok ((ZcB (Zai kt) x m).map fun j=>(j,((es[j]?).map (·.val)).getD undef)) w:=by
  intro hn
  cases es with
  |nil=>
   assumption
  |cons e es=>
   simp only[Vf,hn e (by simp)];omega
 cases kt with
 |int k=>
  cases d<;>simp [Zak]at hs
  have e1:=now (fun a b=>match a,b with| .int k a, .int k' b=>if k=k' then some (a==b) else none|_,_=>none) (fun e=>by rw[(VR.of1 hv).int];cases e.key<;>rfl) m es 0 h (fun kv e he=>by rw[(VR.of1 hv).int,(VR.of1 he).int];simp only[if_true,Zai,ZbC,Vk];rfl)
  simp_all
 |bool=>
  cases d<;>simp [Zak]at hs
  have e1:=now (fun a b=>match a,b with| .bool a, .bool b=>some (a==b) |_,_=>none) (fun e=>by rw[(VR.of1 hv).bool];cases e.key<;>rfl) m es 0 h (fun kv e he=>by rw[(VR.of1 hv).bool,(VR.of1 he).bool];rfl)
  simp_all
 |str=>
  cases d<;>simp [Zak]at hs
  have e1:=now (fun a b=>match a,b with| .string a, .string b=>some (a==b) |_,_=>none) (fun e=>by rw[(VR.of1 hv).str];cases e.key<;>rfl) m es 0 h (fun kv e he=>by rw[(VR.of1 hv).str,(VR.of1 he).str];simp only[Zai,ZbC,Vk,beq_toListBytes,ZcG];grind)
  simp_all
 |_=>
  refine other fun e _=> ?_
  cases d<;>simp [Zak]at hs<;>simp [Vh]
end
end Tr
