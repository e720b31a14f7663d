/- A range over a map: its beginning, its step, its entry. Conditions: the table of types is the program's. -/
import Derived.Maps.RangeRun
import Derived.Test.YtdpenljjnfmgiaaGreatTrS
open Nat renaming le_refl ->Vc
open Prod.mk renaming injEq ->Vd
open Go.Result renaming andThen_ok ->Va
open Go.Sem renaming run_bind ->Vb
namespace Tr
open Go
section ops
variable {P:Program}{E:Env}{B:Zbr}{H:AH}{w:World}{g:Gh}{ow:Nat->Nat->Prop}{nid:Nat}{a:Act}{F:Nat->AV}{v:AV}{patch:ZaY}{rd:List Nat}{o:Oper}
theorem Zjc{L:List MapEntry}(hn: (L.map (·.born)).Nodup){i:Nat}{e:MapEntry}(hi:L[i]? =some e):L.filter (fun x=>x.born !=e.born)=L.eraseIdx i:=by
 induction L generalizing i with
 |nil=>rfl
 |cons x l ih=>
  obtain⟨h1,h2⟩:=List.nodup_cons.1 hn
  cases i with
  |zero=>
   simp_all
  |succ i=>
   grind
theorem ZlE(es:Array MapEntry)(seen:Array Nat)(n:Nat):Zfo es (seen.push n)=(Zfo es seen).filter fun x=>x.born !=n:=by
 unfold Zfo;rw[List.filter_filter]
 grind
theorem ZhF(es:Array MapEntry)(seen:Array Nat): (leftOf es seen).toList=Zfo es seen:=by unfold leftOf Zfo;simp
theorem ZmR(es:Array MapEntry):Zfo es #[]=es.toList:=by unfold Zfo;simp
theorem ZjK{es:Array MapEntry}(h: (es.toList.map (·.born)).Nodup)(seen:Array Nat): ((Zfo es seen).map (·.born)).Nodup:=
 h.sublist ((List.filter_sublist).map _)
theorem ZlY{T:TypeId}{x:Operand}(hT:Zah P E)(hR:RH B H w g ow)(hF:Fr w g F a.tmps)(hk: ∀id,g.K id->id<nid\/nid+ZaU<=id)(ho:o.op= .range T x)
  (h: (Za1 E nid o.op o.type (aev F)).run H []=some ((v,patch),rd)):Did B (Zad H patch) w g nid v ((execOp a.eval o).run P w):=by
 rw[ho]at h;simp only[Za1,Zac]at h;obtain⟨m,hm,h⟩:=h;obtain⟨K,V,hu,hK,hV⟩:=hT.mty T m hm;split at h
 ·rename_i id hy;rw[Zag]at h;split at h
  ·rename_i kt vt m hH;simp only[Zab,Vd]at h;obtain⟨⟨rfl,rfl⟩,_⟩:=h;obtain⟨_,b,hb,he⟩:=(hy▸hF.eval x).mp;obtain⟨_,b',es,clock,hb',hob,hh,hbn,hfa⟩:=hR.objs id _ hH;rw[hb]at hb';cases hb'
   have hrun: (execOp a.eval o).run P w= .ok (.value (.pointer (some ⟨w.heap.size,0,none⟩))) (w.alloc (.mapIter (some b) clock #[] clock)):=by simp only[execOp,ho,Vb,he,run_range_map w T K V b es clock hu hh,Va];rfl
   have hlt: ∀k,k<w.heap.size->(w.alloc (.mapIter (some b) clock #[] clock)).heap[k]? =w.heap[k]? :=fun k hk=>by show (w.heap.push _)[k]? =_;grind
   have hsz: (w.alloc (.mapIter (some b) clock #[] clock)).heap.size=w.heap.size+1:=Array.size_push ..;obtain⟨p1,p2,p3⟩:=hR.sep id b (by grind) hob;simp only[Zad];have hle:g.Le (g.add nid .ref (some w.heap.size) undef):=Gh.le_add (ZdF hk) _ _ _;have hag:ZaV g.I w (w.alloc (.mapIter (some b) clock #[] clock)):=fun k hk' =>hlt k (hR.ilt k hk');refine⟨_,_,g.add nid .ref (some w.heap.size) undef,Zc4 ow nid (fun k=>k=w.heap.size\/k=b), .inl hrun, ?_,hle,hag, ?_, ?_⟩
   ·refine(hR.drop id).add (ZdF hk) hlt (by omega) rfl rfl ⟨rfl,Vc _⟩ (fun k hkj=> ?_) ?_
    ·rcases hkj with rfl|rfl
     ·refine⟨fun hI=>absurd (hR.ilt _ hI) (by omega),by omega, .inr hR.size,fun id' h1 h2=> ?_⟩;have:=(hR.sep id' _ (Za8 h1).2 h2).2.1;omega
     ·refine⟨p1,by omega,p3,fun id' h1 h2=> ?_⟩;obtain⟨h3,h4⟩:=Za8 h1;exact h3 (hR.dist id' id _ h4 (by grind) h2 hob)
    ·refine⟨w.heap.size,b,es,clock,clock, #[],by simp [Gh.add],by simp [Gh.add], .inl rfl, .inr rfl,Zbi _ _,by grind,⟨hbn.1,Vc _,hbn.2⟩, ?_,by simp⟩;rw[ZmR];exact hfa.mono fun kv e hx=>⟨hx.1.mono hag hle,hx.2.mono hag hle⟩
   ·refine ZaR ?_ rfl rfl;simp only[CV];exact⟨.inl rfl,0, .ref,w.heap.size,by simp [Gh.add,Zaz],by simp [Gh.add],rfl⟩
   ·intro id h;rcases h with rfl|h
    ·exact .inr ⟨Vc _,by unfold ZaU;omega⟩
    grind
  ·simp [Zaa]at h
 ·simp [Zaa]at h
theorem Zkz{it:Operand}{id:Nat}{kt vt:Ty}{cur:Option (El kt×El vt)}(hR:RH B H w g ow)(hF:Fr w g F a.tmps)(ho:o.op= .next it false)(hy:aev F it= .ptr id [])(hH:H id=some (.rng kt vt [] cur)):
  (execOp a.eval o).run P w= .ok (.value (.tuple #[.bool false])) w/\VR w g (.tup (.cons (.d .bool false) .nil)) (.tuple #[.bool false]):=by
 obtain⟨_,o',t,b,h1,h2,he⟩:=(hy▸hF.eval it).ptr;obtain⟨_,b',mb,es,clock,since,seen,hty,hb',_,_,hh,hm,⟨h3,h4,h5⟩,h6,_⟩:=hR.objs id _ hH;rw[hty,Zaz]at h1;cases h1;rw[h2]at hb';cases hb'
 have hl:Zfo es seen=[]:=by
  cases hl:Zfo es seen with
  |nil=>rfl
  |cons e l=>rw[hl]at h6;exact h6.elim
 rcases run_next_at (P:=P) w o.type b mb since clock seen es clock hh hm h3 h4 with ⟨_,hrun⟩ | ⟨e,he',_⟩
 ·refine⟨?_,[.bool false],rfl, .bool false,[],rfl,⟨?_, ?_⟩,rfl⟩
  ·simp only[execOp,ho,Vb,he,hrun,Va];rfl
  ·rfl
  ·exact .inr rfl
 ·rw[ZhF,hl]at he'
  grind
theorem ZoH{it:Operand}(hR:RH B H w g ow)(hF:Fr w g F a.tmps)(ho:o.op= .next it false)
  (h: (Za1 E nid o.op o.type (aev F)).run H []=some ((v,patch),rd)):Did B (Zad H patch) w g nid v ((execOp a.eval o).run P w):=by
 rw[ho]at h;simp only[Za1]at h;split at h
 ·rename_i id hy;rw[Zag]at h;split at h
  ·rename_i kt vt cur hH;simp only[Zab,Vd]at h;obtain⟨⟨rfl,rfl⟩,_⟩:=h;obtain⟨h1,h2⟩:=Zkz (P:=P) hR hF ho hy hH;exact Did.pure hR h1 h2
  ·simp [Zaa]at h
 ·simp [Zaa]at h
theorem Zmy{it:Operand}(hR:RH B H w g ow)(hF:Fr w g F a.tmps)(ho:o.op= .entry it)
  (h: (Za1 E nid o.op o.type (aev F)).run H []=some ((v,patch),rd)):Did B (Zad H patch) w g nid v ((execOp a.eval o).run P w):=by
 rw[ho]at h;simp only[Za1]at h;split at h
 ·rename_i id hy;rw[Zag]at h;split at h
  ·rename_i kt vt rest kv hH;simp only[Zab,Vd]at h;obtain⟨⟨rfl,rfl⟩,_⟩:=h;obtain⟨_,o',t,b,h1,h2,he⟩:=(hy▸hF.eval it).ptr;obtain⟨_,b',mb,es,clock,since,seen,hty,hb',_,_,hh,hm,⟨h3,h4,h5⟩,h6,h7⟩:=hR.objs id _ hH;rw[hty,Zaz]at h1;cases h1;rw[h2]at hb';cases hb';obtain⟨e,hem,seen',rfl,hk1,hv1⟩:=h7 kv rfl;have hrun:=run_entry_at (P:=P) w b mb since seen' es clock e hh hm hem h5;refine Did.pure hR (val:= .tuple #[e.key,e.val]) ?_ ⟨[e.key,e.val],rfl,e.key,[e.val],rfl,hk1,e.val,[],rfl,hv1,rfl⟩;simp only[execOp,ho,Vb,he,hrun,Va];rfl
  ·simp [Zaa]at h
 ·simp [Zaa]at h
theorem Zot{it:Operand}{id:Nat}{kt vt:Ty}{rest:List (El kt×El vt)}{cur:Option (El kt×El vt)}(hR:RH B H w g ow)(hF:Fr w g F a.tmps)(ho:o.op= .next it false)(hy:aev F it= .ptr id [])
  (hH:H id=some (.rng kt vt rest cur)) (hne:rest≠ []): ∃i kv val w',i<rest.length/\rest[i]? =some kv/\(execOp a.eval o).run P w= .ok (.value val) w' /\RH B (Zbl H id (some (.rng kt vt (rest.eraseIdx i) (some kv)))) w' g ow/\ZaV g.I w w' /\
   VR w' g (.tup (.cons (.d .bool true) (.cons (.d kt kv.1) (.cons (.d vt kv.2) .nil)))) val:=by
 obtain⟨_,o',t,b,h1,h2,he⟩:=(hy▸hF.eval it).ptr;obtain⟨hK,b',mb,es,clock,since,seen,hty,hb',hob,homb,hh,hm,⟨h3,h4,h5⟩,h6,_⟩:=hR.objs id _ hH;rw[hty,Zaz]at h1;cases h1;rw[h2]at hb';cases hb';rcases run_next_at (P:=P) w o.type b mb since clock seen es clock hh hm h3 h4 with ⟨h0,_⟩ | ⟨e,he',w1,hw1,hrun⟩
 ·exfalso
  have hl:Zfo es seen=[]:=by
   rw[<-ZhF]
   grind
  rw[hl]at h6
  cases rest with
  |nil=>grind
  |cons x l=>assumption
 ·rw[ZhF]at he';obtain⟨i,hi⟩:=List.getElem?_of_mem he';have hil:i<rest.length:=by rw[h6.length];grind
  obtain⟨e2,he2,hx1,hx2⟩:=h6.get i rest[i] (by simp);rw[hi]at he2;cases he2
  have hs:ZaM w w1:=by rcases hw1 with rfl|rfl<;>exact⟨rfl,rfl,rfl,⟨rfl,by simp⟩⟩
  have hR1:=hR.same hs;have hsep:=hR.sep id b (by grind) hob
  have hheap: ∀k,k≠b->(Go.ChangeMaps.setBlock w1 b (.mapIter (some mb) since (seen.push e.born) clock)).heap[k]? =w1.heap[k]? :=by
   intro k hk;show (w1.heap.setIfInBounds b _)[k]? =_
   grind
  have hag:ZaV g.I w (Go.ChangeMaps.setBlock w1 b (.mapIter (some mb) since (seen.push e.born) clock)):=fun k hk=>by rw[hheap k (by grind),hs.heap]
  have hme:b≠mb:=by
   grind
  refine⟨i,rest[i], .tuple #[.bool true,e.key,e.val],_,hil,by simp, ?_,hR1.write (by grind) hob hheap (by show (w1.heap.setIfInBounds b _).size=_;simp) rfl rfl ⟨rfl,Vc _⟩ ?_,hag, ?_⟩
  ·simp only[execOp,ho,Vb,he,hrun,Va];rfl
  ·refine⟨b,mb,es,clock,since,seen.push e.born,hty,h2,hob,homb, ?_, ?_,⟨h3,h4,h5⟩, ?_,fun kv hkv=> ?_⟩
   ·show (w1.heap.setIfInBounds b _)[b]? =_;rw[Array.getElem?_setIfInBounds,if_pos rfl,if_pos (by rw[hs.heap];omega)]
   ·rw[hheap mb (by omega),hs.heap];omega
   ·rw[ZlE,Zjc (ZjK h5 seen) hi];exact(h6.mono fun kv e hx=>⟨hx.1.mono hag (.refl g),hx.2.mono hag (.refl g)⟩).eraseIdx i
   ·cases hkv;exact⟨e,(List.mem_filter.1 he').1,seen,rfl,hx1.mono hag (.refl g),hx2.mono hag (.refl g)⟩
  ·exact⟨[.bool true,e.key,e.val],rfl, .bool true,_,rfl,⟨by rfl, .inr rfl⟩,e.key,_,rfl,hx1.mono hag (.refl g),e.val,_,rfl,hx2.mono hag (.refl g),rfl⟩
end ops
end Tr
