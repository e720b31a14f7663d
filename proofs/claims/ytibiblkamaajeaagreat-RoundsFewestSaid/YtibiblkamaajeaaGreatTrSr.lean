/- A range over a map: its beginning, its step, its entry. Conditions: the table of types is the program's. -/
import Derived.Maps.RangeRun
import Derived.Test.YtibiblkamaajeaaGreatTrS
open Array renaming getElem?_setIfInBounds ->Vb
open List renaming filter_eq_self ->Ve,mem_map ->Vg
open Nat renaming le_refl ->Vc
open Prod.mk renaming injEq ->Vf
open Go.Result renaming andThen_ok ->Va
open Go.Sem renaming run_bind ->Vd
namespace Tr
open Go
section ops
variable {P:Program}{E:Env}{B:Zcs}{H:AH}{w:World}{g:Gh}{ow:Nat->Nat->Prop}{nid:Nat}{a:Act}{F:Nat->AV}{v:AV}{patch:Zbt}{rd:List Nat}{o:Oper}
theorem Zm8{L:List MapEntry}(hn: (L.map (·.born)).Nodup){i:Nat}{e:MapEntry}(hi:L[i]? =some e):L.filter (fun x=>x.born !=e.born)=L.eraseIdx i:=by
 induction L generalizing i with
 |nil=>simp at hi
 |cons x l ih=>
  obtain⟨h1,h2⟩:=List.nodup_cons.1 hn
  cases i with
  |zero=>
   simp only[List.getElem?_cons_zero,Option.some.injEq]at hi;subst hi;simp only[List.eraseIdx_cons_zero];rw[List.filter_cons_of_neg (by simp)];rw[Ve];intro y hy;simp only[bne_iff_ne,ne_eq];intro he
   exact h1 (Vg.2 ⟨y,hy,he⟩)
  |succ i=>
   simp only[List.getElem?_cons_succ]at hi;simp only[List.eraseIdx_cons_succ];rw[List.filter_cons_of_pos,ih h2 hi];simp only[bne_iff_ne,ne_eq];intro he;exact h1 (Vg.2 ⟨e,List.mem_of_getElem? hi,he.symm⟩)
theorem Zqn(es:Array MapEntry)(seen:Array Nat)(n:Nat):ZhI es (seen.push n)=(ZhI es seen).filter fun x=>x.born !=n:=by
 unfold ZhI;rw[List.filter_filter];apply List.filter_congr;intro x _;rw[Array.contains_push]
 cases h1:seen.contains x.born<;>cases h2:x.born==n<;>simp [bne,h2]<;>simp_all
theorem Zk5(es:Array MapEntry)(seen:Array Nat): (leftOf es seen).toList=ZhI es seen:=by unfold leftOf ZhI;rw[Array.toList_filter]
theorem Zr7(es:Array MapEntry):ZhI es #[]=es.toList:=by unfold ZhI;rw[Ve];intro x _;simp
theorem ZnE{es:Array MapEntry}(h: (es.toList.map (·.born)).Nodup)(seen:Array Nat): ((ZhI es seen).map (·.born)).Nodup:=
 h.sublist ((List.filter_sublist).map _)
theorem Zs6{T:TypeId}{x:Operand}(hT:ZaB P E)(hR:RH B H w g ow)(hF:Fr w g F a.tmps)(hk: ∀id,g.K id->id<nid\/nid+ZaI<=id)(ho:o.op= .range T x)
  (h: (aop E nid o.op o.type (aev F)).run H []=some ((v,patch),rd)):Did B (Zag H patch) w g nid v ((execOp a.eval o).run P w):=by
 rw[ho]at h;simp only[aop,Zah]at h;obtain⟨m,hm,h⟩:=h;obtain⟨K,V,hu,hK,hV⟩:=hT.mty T m hm;split at h
 ·rename_i id hy;rw[Zap]at h;split at h
  ·rename_i kt vt m hH;simp only[Zab,Vf]at h;obtain⟨⟨rfl,rfl⟩,_⟩:=h;obtain⟨_,b,hb,he⟩:=(hy▸hF.eval x).mp;obtain⟨_,b',es,clock,hb',hob,hh,hbn,hfa⟩:=hR.objs id _ hH;rw[hb]at hb';cases hb'
   have hrun: (execOp a.eval o).run P w= .ok (.value (.pointer (some ⟨w.heap.size,0,none⟩))) (w.alloc (.mapIter (some b) clock #[] clock)):=by simp only[execOp,ho,Vd,he,run_range_map w T K V b es clock hu hh,Va];rfl
   have hlt: ∀k,k<w.heap.size->(w.alloc (.mapIter (some b) clock #[] clock)).heap[k]? =w.heap[k]? :=fun k hk=>by show (w.heap.push _)[k]? =_;rw[Array.getElem?_push,if_neg (by omega)]
   have hsz: (w.alloc (.mapIter (some b) clock #[] clock)).heap.size=w.heap.size+1:=Array.size_push ..;obtain⟨p1,p2,p3⟩:=hR.sep id b (by rw[hH];simp) hob;simp only[Zag];have hle:g.Le (g.add nid .ref (some w.heap.size) undef):=Gh.le_add (Zg0 hk) _ _ _;have hag:Zbm g.I w (w.alloc (.mapIter (some b) clock #[] clock)):=fun k hk' =>hlt k (hR.ilt k hk');refine⟨_,_,g.add nid .ref (some w.heap.size) undef,ZeN ow nid (fun k=>k=w.heap.size\/k=b), .inl hrun, ?_,hle,hag, ?_, ?_⟩
   ·refine(hR.drop id).add (Zg0 hk) hlt (by omega) rfl rfl ⟨rfl,Vc _⟩ (fun k hkj=> ?_) ?_
    ·rcases hkj with rfl|rfl
     ·refine⟨fun hI=>absurd (hR.ilt _ hI) (by omega),by omega, .inr hR.size,fun id' h1 h2=> ?_⟩;have:=(hR.sep id' _ (Zbx h1).2 h2).2.1;omega
     ·refine⟨p1,by omega,p3,fun id' h1 h2=> ?_⟩;obtain⟨h3,h4⟩:=Zbx h1;exact h3 (hR.dist id' id _ h4 (by rw[hH];simp) h2 hob)
    ·refine⟨w.heap.size,b,es,clock,clock, #[],by simp [Gh.add],by simp [Gh.add], .inl rfl, .inr rfl,Zcx _ _,(hlt b p2).trans hh,⟨hbn.1,Vc _,hbn.2⟩, ?_,fun kv hkv=>by cases hkv⟩;rw[Zr7];exact hfa.mono fun kv e hx=>⟨hx.1.mono hag hle,hx.2.mono hag hle⟩
   ·refine Zbl ?_ rfl rfl;simp only[CV];exact⟨.inl rfl,0, .ref,w.heap.size,by simp [Gh.add,ZaT],by simp [Gh.add],rfl⟩
   ·intro id h;rcases h with rfl|h
    ·exact .inr ⟨Vc _,by unfold ZaI;omega⟩
    ·exact .inl h
  ·simp [Zaa]at h
 ·simp [Zaa]at h
theorem Zps{it:Operand}{id:Nat}{kt vt:Ty}{cur:Option (El kt×El vt)}(hR:RH B H w g ow)(hF:Fr w g F a.tmps)(ho:o.op= .next it false)(hy:aev F it= .ptr id [])(hH:H id=some (.rng kt vt [] cur)):
  (execOp a.eval o).run P w= .ok (.value (.tuple #[.bool false])) w/\VR w g (.tup (.cons (.d .bool false) .nil)) (.tuple #[.bool false]):=by
 obtain⟨_,o',t,b,h1,h2,he⟩:=(hy▸hF.eval it).ptr;obtain⟨_,b',mb,es,clock,since,seen,hty,hb',_,_,hh,hm,⟨h3,h4,h5⟩,h6,_⟩:=hR.objs id _ hH;rw[hty,ZaT]at h1;cases h1;rw[h2]at hb';cases hb'
 have hl:ZhI es seen=[]:=by
  cases hl:ZhI es seen with
  |nil=>rfl
  |cons e l=>rw[hl]at h6;exact h6.elim
 rcases run_next_at (P:=P) w o.type b mb since clock seen es clock hh hm h3 h4 with ⟨_,hrun⟩ | ⟨e,he',_⟩
 ·refine⟨?_,[.bool false],rfl, .bool false,[],rfl,⟨?_, ?_⟩,rfl⟩
  ·simp only[execOp,ho,Vd,he,hrun,Va];rfl
  ·simp only[CV];rfl
  ·exact .inr rfl
 ·rw[Zk5,hl]at he';simp at he'
theorem ZtU{it:Operand}(hR:RH B H w g ow)(hF:Fr w g F a.tmps)(ho:o.op= .next it false)
  (h: (aop E nid o.op o.type (aev F)).run H []=some ((v,patch),rd)):Did B (Zag H patch) w g nid v ((execOp a.eval o).run P w):=by
 rw[ho]at h;simp only[aop]at h;split at h
 ·rename_i id hy;rw[Zap]at h;split at h
  ·rename_i kt vt cur hH;simp only[Zab,Vf]at h;obtain⟨⟨rfl,rfl⟩,_⟩:=h;obtain⟨h1,h2⟩:=Zps (P:=P) hR hF ho hy hH;exact Did.pure hR h1 h2
  ·simp [Zaa]at h
 ·simp [Zaa]at h
theorem Zrn{it:Operand}(hR:RH B H w g ow)(hF:Fr w g F a.tmps)(ho:o.op= .entry it)
  (h: (aop E nid o.op o.type (aev F)).run H []=some ((v,patch),rd)):Did B (Zag H patch) w g nid v ((execOp a.eval o).run P w):=by
 rw[ho]at h;simp only[aop]at h;split at h
 ·rename_i id hy;rw[Zap]at h;split at h
  ·rename_i kt vt rest kv hH;simp only[Zab,Vf]at h;obtain⟨⟨rfl,rfl⟩,_⟩:=h;obtain⟨_,o',t,b,h1,h2,he⟩:=(hy▸hF.eval it).ptr;obtain⟨_,b',mb,es,clock,since,seen,hty,hb',_,_,hh,hm,⟨h3,h4,h5⟩,h6,h7⟩:=hR.objs id _ hH;rw[hty,ZaT]at h1;cases h1;rw[h2]at hb';cases hb';obtain⟨e,hem,seen',rfl,hk1,hv1⟩:=h7 kv rfl;have hrun:=run_entry_at (P:=P) w b mb since seen' es clock e hh hm hem h5;refine Did.pure hR (val:= .tuple #[e.key,e.val]) ?_ ⟨[e.key,e.val],rfl,e.key,[e.val],rfl,hk1,e.val,[],rfl,hv1,rfl⟩;simp only[execOp,ho,Vd,he,hrun,Va];rfl
  ·simp [Zaa]at h
 ·simp [Zaa]at h
theorem Zuv{it:Operand}{id:Nat}{kt vt:Ty}{rest:List (El kt×El vt)}{cur:Option (El kt×El vt)}(hR:RH B H w g ow)(hF:Fr w g F a.tmps)(ho:o.op= .next it false)(hy:aev F it= .ptr id [])
  (hH:H id=some (.rng kt vt rest cur)) (hne:rest≠ []): ∃i kv val w',i<rest.length/\rest[i]? =some kv/\(execOp a.eval o).run P w= .ok (.value val) w' /\RH B (Zb7 H id (some (.rng kt vt (rest.eraseIdx i) (some kv)))) w' g ow/\Zbm g.I w w' /\
   VR w' g (.tup (.cons (.d .bool true) (.cons (.d kt kv.1) (.cons (.d vt kv.2) .nil)))) val:=by
 obtain⟨_,o',t,b,h1,h2,he⟩:=(hy▸hF.eval it).ptr;obtain⟨hK,b',mb,es,clock,since,seen,hty,hb',hob,homb,hh,hm,⟨h3,h4,h5⟩,h6,_⟩:=hR.objs id _ hH;rw[hty,ZaT]at h1;cases h1;rw[h2]at hb';cases hb';rcases run_next_at (P:=P) w o.type b mb since clock seen es clock hh hm h3 h4 with ⟨h0,_⟩ | ⟨e,he',w1,hw1,hrun⟩
 ·exfalso
  have hl:ZhI es seen=[]:=by rw[<-Zk5];exact List.eq_nil_of_length_eq_zero (by simpa using h0)
  rw[hl]at h6
  cases rest with
  |nil=>exact hne rfl
  |cons x l=>exact h6.elim
 ·rw[Zk5]at he';obtain⟨i,hi⟩:=List.getElem?_of_mem he';have hil:i<rest.length:=by rw[h6.length];exact(List.getElem?_eq_some_iff.1 hi).1
  obtain⟨e2,he2,hx1,hx2⟩:=h6.get i rest[i] (by simp [hil]);rw[hi]at he2;cases he2
  have hs:Zbh w w1:=by rcases hw1 with rfl|rfl<;>exact⟨rfl,rfl,rfl,⟨rfl,by first|exact Nat.le_succ _|exact Vc _⟩⟩
  have hR1:=hR.same hs;have hsep:=hR.sep id b (by rw[hH];simp) hob
  have hheap: ∀k,k≠b->(Go.ChangeMaps.setBlock w1 b (.mapIter (some mb) since (seen.push e.born) clock)).heap[k]? =w1.heap[k]? :=by intro k hk;show (w1.heap.setIfInBounds b _)[k]? =_;rw[Vb,if_neg (by omega)]
  have hag:Zbm g.I w (Go.ChangeMaps.setBlock w1 b (.mapIter (some mb) since (seen.push e.born) clock)):=fun k hk=>by rw[hheap k (fun e=>hsep.1 (e▸hk)),hs.heap]
  have hme:b≠mb:=by intro hbm;rw[hbm,hm]at hh;cases hh
  refine⟨i,rest[i], .tuple #[.bool true,e.key,e.val],_,hil,by simp [hil], ?_,hR1.write (by rw[hH];simp) hob hheap (by show (w1.heap.setIfInBounds b _).size=_;simp) rfl rfl ⟨rfl,Vc _⟩ ?_,hag, ?_⟩
  ·simp only[execOp,ho,Vd,he,hrun,Va];rfl
  ·refine⟨b,mb,es,clock,since,seen.push e.born,hty,h2,hob,homb, ?_, ?_,⟨h3,h4,h5⟩, ?_,fun kv hkv=> ?_⟩
   ·show (w1.heap.setIfInBounds b _)[b]? =_;rw[Vb,if_pos rfl,if_pos (by rw[hs.heap];exact hsep.2.1)]
   ·rw[hheap mb (fun h=>hme h.symm),hs.heap];exact hm
   ·rw[Zqn,Zm8 (ZnE h5 seen) hi];exact(h6.mono fun kv e hx=>⟨hx.1.mono hag (.refl g),hx.2.mono hag (.refl g)⟩).eraseIdx i
   ·cases hkv;exact⟨e,(List.mem_filter.1 he').1,seen,rfl,hx1.mono hag (.refl g),hx2.mono hag (.refl g)⟩
  ·exact⟨[.bool true,e.key,e.val],rfl, .bool true,_,rfl,⟨by simp only[CV];rfl, .inr rfl⟩,e.key,_,rfl,hx1.mono hag (.refl g),e.val,_,rfl,hx2.mono hag (.refl g),rfl⟩
end ops
end Tr
