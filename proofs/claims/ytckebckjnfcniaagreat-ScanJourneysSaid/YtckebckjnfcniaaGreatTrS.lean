/- append. Conditions: the table of types is the program's. -/
import Derived.Laws.AppendOwn
import Derived.Test.YtckebckjnfcniaaGreatTrR
namespace Tr
open Go
section ops
variable {P:Program}{E:Env}{B:Zb7}{H:AH}{w:World}{g:Gh}{ow:Nat->Nat->Prop}{nid:Nat}{a:Act}{F:Nat->AV}{v:AV}{patch:Zbm}{rd:List Nat}{o:Oper}
def Zk1(w:World)(g:Gh)(t:Ty)(y:List (El t))(v:Value):Prop:=
 ∃xb c css,v= .slice xb y.length c/\Fa (Rd w g.I t) y css/\(y≠ []-> ∃b off,xb=some ⟨b,off,none⟩/\Zdz w b off css.flatten)
theorem ZdG{t:Ty}{x:AV}{val:Value}{y:List (El t)}{ids l l' :List Nat}(hR:RH B H w g ow)(hx:VR w g x val)(h: (ZjX t x).run H l=some ((y,ids),l')):Zk1 w g t y val:=by
 have hsrc: (∃t' xs u hole id,x= .vw id/\H id=some (.rows t' xs u hole))->False:=by rintro ⟨t',xs,u,hole,id,rfl,hH⟩;simp only[ZjX]at h;rw[Zao,hH]at h;simp [Zaa]at h
 have h: ∃l,(ZaZ (.sl t) x).run H l=some ((y,ids),l'):=by
  cases x with
  |vw id=>
   simp only[ZjX]at h;rw[Zao]at h;split at h
   ·simp [Zaa]at h
   ·exact⟨_,h⟩
  |_=>exact⟨_,h⟩
 obtain⟨l,h⟩:=h
 cases x with
 |d t' z=>
  simp only[ZaZ,Zag,Zac,Prod.mk.injEq]at h;obtain⟨y',hy,⟨rfl,rfl⟩,_⟩:=h;obtain⟨rfl,rfl⟩:=Zaz hy;obtain⟨xb,c,css,h1,h2,h3,_⟩:=hx.sl
  exact⟨xb,c,css,h1,h2,fun hne=>let ⟨b,off,h4,_,h5⟩:=h3 hne;⟨b,off,h4,h5⟩⟩
 |nils=>
  simp only[ZaZ,Zac,Prod.mk.injEq]at h;obtain⟨⟨rfl,rfl⟩,_⟩:=h
  exact⟨none,0,[],hx.nils,trivial,fun h=>absurd rfl h⟩
 |vw id=>
  simp only[ZaZ]at h;rw[Zao]at h;split at h
  ·rename_i t' xs hH;simp only[Zag,Zac,Prod.mk.injEq]at h;obtain⟨y',hy,⟨rfl,rfl⟩,_⟩:=h;obtain⟨he,rfl⟩:=Zaz hy;cases he;obtain⟨_,hv⟩:=hx.vw;obtain⟨_,_,hO⟩:=hR.objs id _ hH;rcases hO with ⟨rfl,_,hs⟩ | ⟨b,cap,cs,e,css,_,_,hs,hh,_,_,hfa,hc⟩
   ·exact⟨none,0,[],hv.trans hs,trivial,fun h=>absurd rfl h⟩
   ·exact⟨some ⟨b,0,none⟩,cap,css,hv.trans hs,hfa,fun _=>⟨b,0,rfl,Zdz.of_vec hh hc⟩⟩
  ·rename_i hH;exact(hsrc ⟨_,_,_,_,id,rfl,hH⟩).elim
  ·rename_i t' xs hH;simp only[Zag,Zac,Prod.mk.injEq]at h;obtain⟨y',hy,⟨rfl,rfl⟩,_⟩:=h;obtain⟨he,rfl⟩:=Zaz hy;cases he;obtain⟨xb,c,css,h1,h2,h3,_⟩:=(ZmK hR hH hx).sl
   exact⟨xb,c,css,h1,h2,fun hne=>let ⟨b,off,h4,_,h5⟩:=h3 hne;⟨b,off,h4,h5⟩⟩
  ·simp [Zaa]at h
 |nw id ver kt k=>
  simp only[ZaZ,Zas,Zag,Zac,Prod.mk.injEq]at h;obtain⟨r,m,hacc,y',hy,⟨rfl,rfl⟩,_⟩:=h;obtain⟨he,rfl⟩:=Zcy hy;obtain⟨t0,row⟩:=r;simp only at he;subst he;obtain⟨_,_,_,_,hrow⟩:=ZdI hR hx hacc;rcases hrow with ⟨h1,h2⟩ | ⟨b,cap,cs,e,css,h2,_,hh,_,_,hfa,hc⟩
  ·simp only at h1;subst h1;exact⟨none,0,[],h2,trivial,fun h=>absurd rfl h⟩
  ·exact⟨some ⟨b,0,none⟩,cap,css,h2,hfa,fun _=>⟨b,0,rfl,Zdz.of_vec hh hc⟩⟩
 |vs id lo n=>
  simp only[ZaZ]at h;rw[Zao]at h;split at h
  ·rename_i t' xs hH;simp only[Zag,Zac,Prod.mk.injEq]at h;obtain⟨y',hy,⟨rfl,rfl⟩,_⟩:=h;obtain⟨he,rfl⟩:=Zaz hy;cases he;obtain⟨_,hv⟩:=hx.vs;obtain⟨_,hty,hO⟩:=hR.objs id _ hH;rw[hty]at hv;rcases hv with ⟨hs,rfl,rfl,hv⟩ | ⟨b,len,cap,m,hs,h1,h2,h3,hv⟩
   ·refine⟨none,0,[],by simpa using (List.cons.inj hv).1,by simp;trivial,fun h=>absurd (by simp) h⟩
   ·rcases hO with ⟨_,_,hs'⟩ | ⟨b',cap',cs,e,css,_,_,hs',hh,_,_,hfa,hc⟩
    ·rw[hs]at hs';cases hs'
    ·rw[hs]at hs';simp only[Value.slice.injEq,Option.some.injEq,Addr.mk.injEq,and_true]at hs';obtain⟨rfl,rfl,rfl⟩:=hs';have hlen: ((xs.drop lo).take n).length=n:=by simp;omega
     refine⟨some ⟨b,if m=0 then 0 else lo*t.size,none⟩,m,(css.drop lo).take n, ?_,(hfa.drop lo).take n,fun hne=>⟨b,lo*t.size, ?_, ?_⟩⟩
     ·show val= .slice _ ((xs.drop lo).take n).length m;rw[hlen];exact(List.cons.inj hv).1
     ·have:0< ((xs.drop lo).take n).length:=List.length_pos_iff.2 hne;rw[if_neg (by omega)]
     ·have:=Zdz.part (off:=0) (l:=lo) (n:=n) (Rd.all_length hfa) (by rw[<-hfa.length];omega) (Zdz.of_vec hh hc);simpa using this
  ·simp [Zaa]at h
 |agg l0=>cases l0<;>simp [ZaZ,Zb8,Zaa]at h
 |_=>simp [ZaZ,Zaa]at h
theorem Zi0{b off n cap sz:Nat}{css:List (List Value)}(hs: ∀c∈css,c.length=sz)(hn:css.length=n)(hL:Zdz w b off css.flatten){w' :World}(hw:Zbb w w'):
  (Builtin.firstCells sz n (.slice (some ⟨b,off,none⟩) n cap)).run P w' = .ok css.flatten.toArray w' :=by
 refine run_firstCells_some (P:=P) w' sz n _ n cap _ (by rw[ZaK hs,hn]) ?_;intro j u hj;obtain⟨hlt,rfl⟩:=List.getElem?_eq_some_iff.1 hj;have:=hL j hlt;rw[Zdm, <-this];simp only[World.cell?,hw.heap]
theorem Ziy{T0 T1 ty Et E1:TypeId}{ie:TypeInfo}{z:Value}{argTypes:Array TypeId}(h0:argTypes[0]? =some T0)(h1:argTypes[1]? =some T1)(hu:P.underlying T0=some (.slice Et))(hu1:P.underlying T1=some (.slice E1))
  (hie:P.info? Et=some ie) (hz:ie.zero=some z) (hby:ie.bytes<=4096) {base xb:Option Addr}{n cap m c:Nat}{olds news:List Value}
  (hfo: ∀w',Zbb w w' ->(Builtin.firstCells ie.size n (.slice base n cap)).run P w' = .ok olds.toArray w') (hfn: ∀w',Zbb w w' ->(Builtin.firstCells ie.size m (.slice xb m c)).run P w' = .ok news.toArray w') (hmx:n+m<=4294967296):
  (n+m<=cap/\(Builtin.append_ argTypes ty #[.slice base n cap, .slice xb m c]).run P w=(do (match base with|some a=>storeCells (a.add (n*ie.size)) news|none=>pure ());pure (.slice base (n+m) cap):Sem Value).run P w)\/
  (∃cap' w1,n+m<=cap' /\Zbb w w1/\(Builtin.append_ argTypes ty #[.slice base n cap, .slice xb m c]).run P w= .ok (.slice (some ⟨w.heap.size,0,none⟩) (n+m) cap') (w1.alloc (.cells (olds.toArray++news.toArray++Builtin.zeroCells z.cells (cap' - (n+m))) Et))):=by
 have ha: (#[Value.slice base n cap,Value.slice xb m c]:Array Value)[0]? =some (.slice base n cap):=rfl;have hb: (#[Value.slice base n cap,Value.slice xb m c]:Array Value)[1]? =some (.slice xb m c):=rfl;by_cases hr:n+m<=cap
 ·refine .inl ⟨hr, ?_⟩;simp [Builtin.append_,h0,h1,run_underlying hu,run_underlying hu1,Go.sizeOf,typeInfo,hie,Builtin.lenOf,hr,hfn w (.refl w)]
  cases base<;>simp
 ·refine .inr ⟨grownCap w (n+m) cap Et,w.drew,grownCap_ge ..,⟨rfl,rfl,rfl,⟨rfl,by first|exact Nat.le_succ _|exact Nat.le_refl _⟩⟩, ?_⟩
  have h63: ¬ (9223372036854775807< ((n:Int)+(m:Int))):=by omega
  have h48: ¬ (281474976710656<Builtin.nextslicecap (n+m) cap*ie.bytes):=by have:=growslice_fits (need:=n+m) (old:=cap) (bytes:=ie.bytes) (by omega) (Nat.le_trans (Nat.mul_le_mul hmx hby) (by decide));omega
  simp [Builtin.append_,h0,h1,run_underlying hu,run_underlying hu1,Go.sizeOf,typeInfo,zeroValue,hie,hz,Builtin.lenOf,hr,h63,h48,Question.forced,hfn w.drew ⟨rfl,rfl,rfl,⟨rfl,by first|exact Nat.le_succ _|exact Nat.le_refl _⟩⟩,hfo w.drew ⟨rfl,rfl,rfl,⟨rfl,by first|exact Nat.le_succ _|exact Nat.le_refl _⟩⟩,newRow,grownCap]
  try (congr 2;apply Array.toList_inj.1;simp)
theorem ZiS{t:Ty}{H' :AH}{ie:TypeInfo}{z:Value}{T0 T1 Et E1 ty:TypeId}{argTypes:Array TypeId}{sv xv:Value}{xs ys:List (El t)}{r:Result Next}(hR:RH B H w g ow)(hnk: ¬g.K nid)
  (h0:argTypes[0]? =some T0) (h1:argTypes[1]? =some T1) (hu:P.underlying T0=some (.slice Et)) (hu1:P.underlying T1=some (.slice E1))
  (hie:P.info? Et=some ie) (hz:ie.zero=some z) (hzs:z.cells.size=t.size) (hsz:ie.size=t.size) (hby:ie.bytes<=4096) (hmx:xs.length+ys.length<=4294967296) (hX:Zk1 w g t ys xv)
  (hr: ∀val w',(Builtin.append_ argTypes ty #[sv,xv]).run P w= .ok val w' ->r= .ok (.value val) w')
  (hS: (H' =H/\xs=[]/\sv= .slice none 0 0)\/ ∃id,H' =ZbS H id none/\H id≠none/\((xs=[]/\sv= .slice none 0 0)\/ ∃b cap cs e css,ow id b/\sv= .slice (some ⟨b,0,none⟩) xs.length cap/\w.heap[b]? =some (.cells cs e (0,0))/\
   xs.length<=cap/\cap*t.size<=cs.size/\Fa (Rd w g.I t) xs css/\css.flatten<+:cs.toList)):Did B (ZbS H' nid (some (.vec t (xs++ys)))) w g nid (.vw nid) r:=by
 obtain⟨xb,c,css2,rfl,hfa2,hl2⟩:=hX;have hlen: (xs++ys).length=xs.length+ys.length:=List.length_append
 have hR' :RH B H' w g ow:=by
  rcases hS with ⟨rfl,_⟩ | ⟨id,rfl,_⟩
  ·exact hR
  ·exact hR.drop id
 have hfn: ∀w',Zbb w w' ->(Builtin.firstCells ie.size ys.length (.slice xb ys.length c)).run P w' = .ok css2.flatten.toArray w' :=by
  intro w' hw;rw[hsz];by_cases hy:ys=[]
  ·subst hy;have:css2=[]:=by have:=hfa2.length;exact List.length_eq_zero_iff.1 (by simpa using this.symm)
   subst this
   cases xb with
   |none=>exact run_firstCells_none (P:=P) w' _ _ _ _
   |some ad=>exact run_firstCells_some (P:=P) w' _ _ ad _ _ [] (by simp) (by simp)
  ·obtain⟨b,off,rfl,hL⟩:=hl2 hy;exact Zi0 (Rd.all_length hfa2) hfa2.length.symm hL hw
 have hO: ∃base cap css1,sv= .slice base xs.length cap/\Fa (Rd w g.I t) xs css1/\(∀w',Zbb w w' ->(Builtin.firstCells ie.size xs.length (.slice base xs.length cap)).run P w' = .ok css1.flatten.toArray w')/\
   ((base=none/\cap=0/\xs=[])\/ ∃id b cs e,H' =ZbS H id none/\H id≠none/\ow id b/\base=some ⟨b,0,none⟩/\w.heap[b]? =some (.cells cs e (0,0))/\cap*t.size<=cs.size/\css1.flatten<+:cs.toList):=by
  rcases hS with ⟨_,rfl,rfl⟩ | ⟨id,hH',hid,⟨rfl,rfl⟩ | ⟨b,cap,cs,e,css,ho,rfl,hh,_,hcap,hfa,hc⟩⟩
  ·exact⟨none,0,[],rfl,trivial,fun w' _=>run_firstCells_none (P:=P) w' _ _ _ _, .inl ⟨rfl,rfl,rfl⟩⟩
  ·exact⟨none,0,[],rfl,trivial,fun w' _=>run_firstCells_none (P:=P) w' _ _ _ _, .inl ⟨rfl,rfl,rfl⟩⟩
  ·refine⟨_,cap,css,rfl,hfa,fun w' hw=> ?_, .inr ⟨id,b,cs,e,hH',hid,ho,rfl,hh,hcap,hc⟩⟩;rw[hsz];exact Zi0 (Rd.all_length hfa) hfa.length.symm (Zdz.of_vec hh hc) hw
 obtain⟨base,cap,css1,rfl,hfa1,hfo,hbase⟩:=hO;have hl1' :=ZaK (Rd.all_length hfa1);have hl2' :=ZaK (Rd.all_length hfa2);rw[<-hfa1.length]at hl1';rw[<-hfa2.length]at hl2';rcases Ziy (ty:=ty) h0 h1 hu hu1 hie hz hby hfo hfn hmx with ⟨hroom,hrun⟩ | ⟨cap',w1,hc',hw1,hrun⟩
 ·
  rcases hbase with ⟨rfl,rfl,rfl⟩ | ⟨id,b,cs,e,rfl,hid,ho,rfl,hh,hcap,hc⟩
  ·have hy:ys=[]:=List.length_eq_zero_iff.1 (by have h2:0+ys.length<=0:=hroom;omega);subst hy;have hr' :=hr _ _ (hrun.trans (by simp only[Sem.run_bind,Sem.run_pure,Result.andThen_ok];rfl));refine⟨_,w,g.add nid t none (.slice none 0 0),Zd5 ow nid (fun _=>False), .inl hr', ?_,Gh.le_add hnk _ _ _,fun _ _=>rfl, ?_, ?_⟩
   ·exact hR'.add hnk (fun _ _=>rfl) (Nat.le_refl _) rfl rfl ⟨rfl,Nat.le_refl _⟩ (fun k hk=>hk.elim) ⟨by simp [Gh.add], .inl ⟨rfl,by simp [Gh.add],by simp [Gh.add]⟩⟩
   ·refine Zbd ?_ rfl rfl;simp only[CV];exact⟨.inl rfl,by simp [Gh.add],by simp [Gh.add,Value.oneCell']⟩
   ·intro id h;rcases h with rfl|h
    ·exact .inr ⟨Nat.le_refl _,by unfold ZaG;omega⟩
    ·exact .inl h
  ·obtain⟨rest,hrest⟩:=hc;have hsum:cs.size=css1.flatten.length+rest.length:=by rw[<-Array.length_toList, <-hrest,List.length_append]
   have hmul: (xs.length+ys.length) *t.size<=cap*t.size:=Nat.mul_le_mul_right _ hroom;rw[Nat.add_mul]at hmul;have hs:=hR.sep id b hid ho
   have hone: ∀u∈css2.flatten,u.oneCell' =true:=by
    intro u hu;obtain⟨c1,hc1,hu⟩:=List.mem_flatten.1 hu;obtain⟨i,hi,rfl⟩:=List.getElem_of_mem hc1;have hi' :i<ys.length:=by rw[hfa2.length];exact hi
    obtain⟨c',h2,h3⟩:=hfa2.get i ys[i] (List.getElem?_eq_getElem hi');rw[List.getElem?_eq_getElem hi]at h2;cases h2;exact Rd.oneCell t _ _ h3 u hu
   have hst:=run_storeCells_at P b (xs.length*t.size) e css2.flatten 0 cs w hh (by omega) hone
   have hnew: (cs.toList.take (xs.length*t.size+0)++css2.flatten++cs.toList.drop (xs.length*t.size+0+css2.flatten.length))=(css1++css2).flatten++rest.drop css2.flatten.length:=by rw[Nat.add_zero, <-hl1', <-hrest,List.take_left,List.flatten_append,List.drop_append,List.drop_eq_nil_of_le (by omega)];simp
   rw[hnew]at hst
   have hr' :=hr (.slice (some ⟨b,0,none⟩) (xs.length+ys.length) cap) (w.setRow b ((css1++css2).flatten++rest.drop css2.flatten.length).toArray) (hrun.trans (by simp only[Sem.run_bind,Zdm,hsz,Nat.zero_add,hst,Result.andThen_ok,Sem.run_pure]))
   have hfree: ∀k,ZbS H id none k≠none-> ¬ow k b:=by intro k hk hb;obtain⟨h3,h4⟩:=Zbo hk;exact h3 (hR.dist k id b h4 hid hb ho)
   have hR2:=hR'.free (w' :=w.setRow b ((css1++css2).flatten++rest.drop css2.flatten.length).toArray) hfree hs.1 hs.2.2 (fun k hk=>setRow_other w b k _ hk) (size_setRow w b _) rfl rfl ⟨rfl,Nat.le_refl _⟩;have hag:Zbe g.I w (w.setRow b ((css1++css2).flatten++rest.drop css2.flatten.length).toArray):=fun k hk=>setRow_other w b k _ (fun e=>hs.1 (e▸hk));refine⟨_,_,g.add nid t (some b) (.slice (some ⟨b,0,none⟩) (xs++ys).length cap),Zd5 ow nid (fun k=>k=b), .inl hr', ?_,Gh.le_add hnk _ _ _,hag, ?_, ?_⟩
   ·refine hR2.add hnk (fun _ _=>rfl) (Nat.le_refl _) rfl rfl ⟨rfl,Nat.le_refl _⟩ (fun k hk=> ?_) ?_
    ·subst hk;exact⟨hs.1,by rw[size_setRow];exact hs.2.1,hs.2.2,hfree⟩
    ·refine⟨by simp [Gh.add], .inr ⟨b,cap,_,e,css1++css2,by simp [Gh.add],rfl,by simp [Gh.add],ZdJ hh,by rw[hlen];exact hroom, ?_, ?_,⟨rest.drop css2.flatten.length,by simp⟩⟩⟩
     ·simp only[List.size_toArray,List.length_append,List.flatten_append,List.length_drop];omega
     ·exact(hfa1.append hfa2).mono fun x c hx=>Rd.mono hag (fun _ h=>h) t x c hx
   ·refine Zbd ?_ rfl rfl;simp only[CV];exact⟨.inl rfl,by simp [Gh.add,hlen],by simp [Gh.add,Value.oneCell']⟩
   ·intro id h;rcases h with rfl|h
    ·exact .inr ⟨Nat.le_refl _,by unfold ZaG;omega⟩
    ·exact .inl h
 ·have hr' :=hr _ _ hrun;refine ZjD hR' hnk (hfa1.append hfa2) ?_ (by rw[hlen];exact hc') ?_ hw1 (by rw[hlen];exact hr')
  ·refine⟨(Builtin.zeroCells z.cells (cap' - (xs.length+ys.length))).toList, ?_⟩;simp
  ·have hzc: (Builtin.zeroCells z.cells (cap' - (xs.length+ys.length))).size=(cap' - (xs.length+ys.length)) *t.size:=by simp [Builtin.zeroCells,hzs]
   simp only[Array.size_append,List.size_toArray,hl1',hl2',hzc]
   have:cap' *t.size=xs.length*t.size+ys.length*t.size+(cap' - (xs.length+ys.length)) *t.size:=by rw[<-Nat.add_mul, <-Nat.add_mul];congr 1;omega
   omega
theorem Zri{id ver tmp:Nat}{kt:Ty}{k:El kt}{val:Value}{r: (t:Ty) ×List (El t)}{o' :ZdX}{l l' l2 l2' :List Nat}(hR:RH B H w g ow)(hv:VR w g (.nw id ver kt k) val)(hacc: (Zc6 id ver kt k).run H l=some (r,l'))(hhole: (ZlN id nid kt k).run H l2=some (o',l2'))
  (htmp: ¬g.K tmp): ∃g2 ow2,RH B (ZbS (ZbS H id (some o')) tmp (some (.vec r.1 r.2))) w g2 ow2/\g.Le g2/\g2.I=g.I/\(∀i,g2.K i->g.K i\/i=tmp)/\(∀b,ow2 tmp b↔ZfD val=some b)/\id≠tmp:=by
 obtain⟨hK,_,_,_⟩:=hv.nw;obtain⟨hidl,hty,hver,hval,hrow⟩:=ZdI hR hv hacc;have hidt:id≠tmp:=fun e=>htmp (e▸hK);have hsep: ∀b,ow id b-> ¬g.I b/\b<w.heap.size/\(B.own0 b\/B.w0.heap.size<=b):=fun b hb=>hR.sep id b hidl hb
 have hO:g.ver id<nid/\Zf5 w (g.bump id nid (g.row id)) (fun b=>ow id b/\ZfD val≠some b) id o' :=by
  have hrowE: (g.bump id nid (g.row id)).row id=g.row id:=by simp [Gh.bump]
  simp only[Zc6]at hacc;rw[Zao]at hacc;simp only[ZlN]at hhole;rw[Zao]at hhole;split at hacc
  ·rename_i t xs u hH;rw[hH]at hhole;simp only[Zan,Zag,Zac,Zaa,and_false,or_false]at hacc hhole;obtain⟨hu,i',hi',x,hx,rfl,_⟩:=hacc;obtain⟨hlt,i2,hi2,rfl,_⟩:=hhole;obtain⟨rfl,rfl⟩:=Zaz hi';have:=Zef hi2;subst this;obtain⟨_,hty,hver2,hrf,hO⟩:=hR.objs id _ hH;refine⟨by rw[hver2];exact Nat.le_of_ble_eq_true hlt,hty,by simp [Gh.bump], ?_, ?_⟩
   ·unfold idx at hx;split at hx
    ·rename_i h0;have e1: ((i2.toNat:Nat):Int)=i2:=Int.toNat_of_nonneg h0;rw[hrowE];refine hrf.take i2.toNat fun j x' hx' hj hr=>hr.mono (fun _ _=>rfl) (fun _ h=>h) (fun b hb h=>⟨h,fun hb2=> ?_⟩) fun _ _ _=>rfl;rw[hval]at hb2;exact hrf.ds j i2.toNat x' x b hx' hx hj (by simp) (by simp) hb (by simp only[e1];exact hb2)
    ·simp at hx
   ·rcases hO with h| ⟨b,cap,cs,e,h1,h2,h3,h4,h5,h6,h7⟩
    ·exact .inl h
    ·refine .inr ⟨b,cap,cs,e,h1,⟨h2,fun hb=> ?_⟩,h3,h4,h5,h6,by rw[hrowE];exact h7⟩;unfold idx at hx;split at hx
     ·rename_i h0;have e1: ((i2.toNat:Nat):Int)=i2:=Int.toNat_of_nonneg h0;rw[hval]at hb;exact hrf.tp i2.toNat x b hx (by simp) (by simp only[e1];exact hb) h1
     ·simp at hx
  ·rename_i kt' t m u hH;rw[hH]at hhole;simp only[Zan,Zag,Zac,Zaa,and_false,or_false,Bool.and_eq_true]at hacc hhole;obtain⟨⟨hu,hko⟩,k',hk',rfl,_⟩:=hacc;obtain⟨hlt,k2,hk2,rfl,_⟩:=hhole;obtain⟨rfl,rfl⟩:=Zaz hk';have:=Zef hk2;subst this;obtain⟨_,hty,hver2,hrf,hnd,habs,b,es,clock,h1,h2,h3,h4⟩:=hR.objs id _ hH
   have hin: ∀b',ZfD val=some b' -> ∃x,(k2,x)∈m:=fun b' hb' =>by
    by_cases h:k2∈m.map Prod.fst
    ·obtain⟨q,hq,h5⟩:=List.mem_map.1 h;exact⟨q.2,by rw[<-h5];exact hq⟩
    ·rw[hval,habs k2 h]at hb';simp [ZfD]at hb'
   refine⟨by rw[hver2];exact Nat.le_of_ble_eq_true hlt,hty,by simp [Gh.bump], ?_,hnd,by rw[hrowE];exact habs,b,es,clock,h1,⟨h2,fun hb=> ?_⟩,h3,by rw[hrowE];exact h4.mono fun kv e hx=>⟨⟨by have:=hx.1.1;simp only[CV]at this ⊢;exact this,hx.1.2⟩,hx.2⟩⟩
   ·rw[hrowE];refine hrf.take k2 fun j x' hx' hj hr=>hr.mono (fun _ _=>rfl) (fun _ h=>h) (fun b' hb' h=>⟨h,fun hb2=> ?_⟩) fun _ _ _=>rfl;obtain⟨x,hx⟩:=hin b' hb2;rw[hval]at hb2;exact hrf.ds j k2 x' x b' hx' hx hj (by simp) (by simp) hb' hb2
   ·obtain⟨x,hx⟩:=hin b hb;rw[hval]at hb;exact hrf.tp k2 x b hx (by simp) hb h1
  ·simp [Zaa]at hacc
 have hR1:=hR.bump (w' :=w) hK hO.1 (fun _ _=>rfl) (Nat.le_refl _) rfl rfl ⟨rfl,Nat.le_refl _⟩ (fun _ _ _=>rfl) (fun b hb=>by obtain⟨p,q,r⟩:=hsep b hb.1;exact⟨p,q,r,fun k hk h1 h2=>hk (hR.dist k id b h1 hidl h2 hb.1)⟩) hO.2
 have htmp1: ¬ (g.bump id nid (g.row id)).K tmp:=htmp
 have hfree: ∀b,ZfD val=some b->ow id b/\ ¬g.I b/\b<w.heap.size/\(B.own0 b\/B.w0.heap.size<=b)/\ ∀k,ZbS H id (some o') k≠none-> ¬Zd5 ow id (fun b=>ow id b/\ZfD val≠some b) k b:=fun b hb=>by
  have hob:=hrow.own hb;obtain⟨p,q,r⟩:=hsep b hob;refine⟨hob,p,q,r,fun k h1 h2=> ?_⟩;by_cases hk:k=id
  ·subst hk;rw[ZaS]at h2;exact h2.2 hb
  ·rw[ZaD hk]at h1;rw[ZaY hk]at h2;exact hk (hR.dist k id b h1 hidl h2 hob)
 have hvec: ∃b,Zf5 w ((g.bump id nid (g.row id)).add tmp r.1 b val) (fun b=>ZfD val=some b) tmp (.vec r.1 r.2):=by
  rcases hrow with ⟨h1,h2⟩ | ⟨b,cap,cs,e,css,h2,_,hh,h5,h6,hfa,hc⟩
  ·exact⟨none,by simp [Gh.add], .inl ⟨h1,by simp [Gh.add],by simp [Gh.add,h2]⟩⟩
  ·exact⟨some b,by simp [Gh.add], .inr ⟨b,cap,cs,e,css,by simp [Gh.add],by rw[h2];rfl,by simp [Gh.add,h2],hh,h5,h6,hfa,hc⟩⟩
 obtain⟨b,hvec⟩:=hvec;refine⟨_,_,hR1.add htmp1 (fun _ _=>rfl) (Nat.le_refl _) rfl rfl ⟨rfl,Nat.le_refl _⟩ (fun c hc=>(hfree c hc).2) hvec,(Gh.le_bump hO.1).trans (Gh.le_add htmp1 _ _ _),rfl,fun i hi=> ?_,fun c=> ?_,hidt⟩
 ·rcases hi with h|h
  ·exact .inr h
  ·exact .inl h
 ·rw[ZaS]
theorem ZmU{b cap n:Nat}{hd:List Value}{cs:Array Value}{e:TypeId}(hh:w.heap[b]? =some (.cells cs e (0,0)))(hl:hd.length=n)(hc: ∀i,i<n->cs[i]? =some (hd.getD i undef)){w' :World}(hw:Zbb w w'):
  (Builtin.firstCells 1 n (.slice (some ⟨b,0,none⟩) n cap)).run P w' = .ok hd.toArray w' :=by
 refine run_firstCells_some (P:=P) w' 1 n _ n cap _ (by rw[hl,Nat.mul_one]) ?_;intro j u hj;obtain⟨hlt,rfl⟩:=List.getElem?_eq_some_iff.1 hj;have:=hc j (by omega);rw[Zdm];simp only[World.cell?,hw.heap,hh,Nat.zero_add];simpa [hlt] using this
theorem Zmm{t:Ty}{ie:TypeInfo}{z:Value}{T0 T1 Et E1 ty:TypeId}{argTypes:Array TypeId}{sv xv:Value}{xs ys:List (List (El t))}{ids1 ids2:List Nat}{r:Result Next}(hR:RH B H w g ow)(hnk: ¬g.K nid)
  (h0:argTypes[0]? =some T0) (h1:argTypes[1]? =some T1) (hu:P.underlying T0=some (.slice Et)) (hu1:P.underlying T1=some (.slice E1))
  (hie:P.info? Et=some ie) (hz:ie.zero=some z) (hzs:z.cells.size=(Ty.sl t).size) (hsz:ie.size=(Ty.sl t).size) (hby:ie.bytes<=4096) (hmx:xs.length+ys.length<=4294967296)
  (hS:Zcg w g.I (ZaV H ow ids1) t xs sv) (hX:Zcg w g.I (ZaV H ow ids2) t ys xv) (hdis: ∀k,k∈ids1->k ∉ ids2)
  (hr: ∀val w',(Builtin.append_ argTypes ty #[sv,xv]).run P w= .ok val w' ->r= .ok (.value val) w'):Did B (Zaf (Zaf H ((ids1++ids2).map fun id=>(id,none))) [(nid,some (.rows t (xs++ys) 0 none))]) w g nid (.vw nid) r:=by
 show Did B (ZbS _ nid _) _ _ _ _ _;have hsz1:ie.size=1:=hsz;obtain⟨hd1,hrl1,ht1⟩:=hS;obtain⟨hd2,hrl2,ht2⟩:=hX;have hR1:RH B (Zaf H ((ids1++ids2).map fun id=>(id,none))) w g ow:=hR.drops _
 have hJ: ∀b,ZaV H ow ids1 b-> ¬ZaV H ow ids2 b:=fun b ⟨k,a1,a2,a3⟩ ⟨k',b1,b2,b3⟩=>by have:=hR.dist k k' b a2 b2 a3 b3;subst this;exact hdis k a1 b1
 have hRL:=hrl1.append hrl2 hJ
 have hRL:RL w g.I (ZaV H ow (ids1++ids2)) t (hd1++hd2) (xs++ys):=hRL.mono (fun _ _=>rfl) (fun _ h=>h) (fun b hb=>by
  rcases hb with ⟨k,a1,a2⟩ | ⟨k,a1,a2⟩
  ·exact⟨k,by simp [a1],a2⟩
  ·exact⟨k,by simp [a1],a2⟩) fun _ _ _ _ _=>rfl
 have hbig: ∀b,ZaV H ow (ids1++ids2) b->b<w.heap.size:=fun b ⟨k,_,a2,a3⟩=>(hR.sep k b a2 a3).2.1;have hl1:=hrl1.1;have hl2:=hrl2.1
 have hxv: ∃xb c,xv= .slice xb ys.length c/\ ∀w',Zbb w w' ->(Builtin.firstCells ie.size ys.length (.slice xb ys.length c)).run P w' = .ok hd2.toArray w' :=by
  rw[hsz1];rcases ht2 with ⟨rfl,rfl⟩ | ⟨b,cap,cs,e,_,_,rfl,hh,_,_,hcs⟩
  ·have:hd2=[]:=List.length_eq_zero_iff.1 (by simpa using hl2);subst this;exact⟨none,0,rfl,fun w' _=>run_firstCells_none (P:=P) w' _ _ _ _⟩
  ·exact⟨_,cap,rfl,fun w' hw=>ZmU hh hl2 hcs hw⟩
 obtain⟨xb,c,rfl,hfn⟩:=hxv
 have hsv: ∃base cap,sv= .slice base xs.length cap/\(∀w',Zbb w w' ->(Builtin.firstCells ie.size xs.length (.slice base xs.length cap)).run P w' = .ok hd1.toArray w')/\((base=none/\cap=0/\xs=[])\/
   ∃b cs e,ZaV H ow ids1 b/\base=some ⟨b,0,none⟩/\w.heap[b]? =some (.cells cs e (0,0))/\cap<=cs.size/\(∀i,i<xs.length->cs[i]? =some (hd1.getD i undef))/\ ∀i x,xs[i]? =some x->ZfD (hd1.getD i undef)≠some b):=by
  rw[hsz1];rcases ht1 with ⟨rfl,rfl⟩ | ⟨b,cap,cs,e,hJb,hne,rfl,hh,_,hcap,hcs⟩
  ·have:hd1=[]:=List.length_eq_zero_iff.1 (by simpa using hl1);subst this;exact⟨none,0,rfl,fun w' _=>run_firstCells_none (P:=P) w' _ _ _ _, .inl ⟨rfl,rfl,rfl⟩⟩
  ·exact⟨_,cap,rfl,fun w' hw=>ZmU hh hl1 hcs hw, .inr ⟨b,cs,e,hJb,rfl,hh,hcap,hcs,hne⟩⟩
 obtain⟨base,cap,rfl,hfo,hbase⟩:=hsv;have hlen: (xs++ys).length=xs.length+ys.length:=List.length_append;rcases Ziy (ty:=ty) h0 h1 hu hu1 hie hz hby hfo hfn hmx with ⟨hroom,hrun⟩ | ⟨cap',w1,hc',hw1,hrun⟩
 ·rcases hbase with ⟨rfl,rfl,rfl⟩ | ⟨b,cs,e,⟨kb,hkb,hkl,hkb2⟩,rfl,hh,hcap,hcs,hne⟩
  ·have hy:ys=[]:=List.length_eq_zero_iff.1 (by have h2:0+ys.length<=0:=hroom;omega);subst hy;have hr' :=hr _ _ (hrun.trans (by simp only[Sem.run_bind,Sem.run_pure,Result.andThen_ok];rfl));exact ZfN (J:=fun _=>False) hR1 hnk (fun _ _=>rfl) (Nat.le_refl _) rfl rfl ⟨rfl,Nat.le_refl _⟩ hr' ⟨[],RL.nil, .inl ⟨rfl,rfl⟩⟩ (fun b hb=>hb.elim)
  ·have hs:=hR.sep kb b hkl hkb2
   have hone: ∀u∈hd2,u.oneCell' =true:=by
    intro u hu;obtain⟨i,hi,rfl⟩:=List.getElem_of_mem hu;have hi' :i<ys.length:=by omega
    have:=(hrl2.row (List.getElem?_eq_getElem hi')).one.1;simpa [hi] using this
   have hst:=run_storeCells_at P b (xs.length*1) e hd2 0 cs w hh (by omega) hone
   have htake:cs.toList.take xs.length=hd1:=by
    apply List.ext_getElem?;intro i;by_cases hi:i<xs.length
    ·rw[List.getElem?_take_of_lt hi,Array.getElem?_toList,hcs i hi];have:i<hd1.length:=by omega
     simp [this]
    ·rw[List.getElem?_eq_none (by rw[List.length_take];omega),List.getElem?_eq_none (by omega)]
   have hnew: (cs.toList.take (xs.length*1+0)++hd2++cs.toList.drop (xs.length*1+0+hd2.length))=(hd1++hd2)++cs.toList.drop (xs.length+hd2.length):=by rw[Nat.add_zero,Nat.mul_one,htake]
   rw[hnew]at hst
   have hr' :=hr (.slice (some ⟨b,0,none⟩) (xs.length+ys.length) cap) (w.setRow b ((hd1++hd2)++cs.toList.drop (xs.length+hd2.length)).toArray) (hrun.trans (by simp only[Sem.run_bind,Zdm,hsz1,Nat.zero_add,hst,Result.andThen_ok,Sem.run_pure]))
   have hother: ∀k,k≠b->(w.setRow b ((hd1++hd2)++cs.toList.drop (xs.length+hd2.length)).toArray).heap[k]? =w.heap[k]? :=fun k hk=>setRow_other w b k _ hk;have hfr:=ZeT (ids:=ids1++ids2) hR (b:=b) ⟨kb,by simp [hkb],hkl,hkb2⟩;have hR2:=hR1.free (w' :=w.setRow b ((hd1++hd2)++cs.toList.drop (xs.length+hd2.length)).toArray) (b:=b) hfr.2.2.2 hs.1 hs.2.2 hother (size_setRow w b _) rfl rfl ⟨rfl,Nat.le_refl _⟩;have hag:Zbe g.I w (w.setRow b ((hd1++hd2)++cs.toList.drop (xs.length+hd2.length)).toArray):=fun k hk=>hother k (fun e=>hs.1 (e▸hk))
   have hrne: ∀i x,(xs++ys)[i]? =some x->ZfD ((hd1++hd2).getD i undef)≠some b:=by
    intro i x hx hb;rcases Nat.lt_or_ge i xs.length with hl|hl
    ·rw[List.getElem?_append_left hl]at hx;have: (hd1++hd2).getD i undef=hd1.getD i undef:=by simp only[List.getD_eq_getElem?_getD];rw[List.getElem?_append_left (by omega)]
     rw[this]at hb;exact hne i x hx hb
    ·rw[List.getElem?_append_right hl]at hx;have: (hd1++hd2).getD i undef=hd2.getD (i - xs.length) undef:=by simp only[List.getD_eq_getElem?_getD];rw[List.getElem?_append_right (by omega),hl1]
     rw[this]at hb;exact hJ b ⟨kb,hkb,hkl,hkb2⟩ ((hrl2.row hx).own hb)
   have hdid:=ZfN (w' :=w.setRow b ((hd1++hd2)++cs.toList.drop (xs.length+hd2.length)).toArray) (J:=ZaV H ow (ids1++ids2)) (t:=t) (xs:=xs++ys) hR2 hnk (fun _ _=>rfl) (Nat.le_refl _) rfl rfl ⟨rfl,Nat.le_refl _⟩ hr' ?_ (fun b' hb' => ?_)
   ·obtain⟨val,w',g',ow',d1,d2,d3,d4,d5,d6⟩:=hdid;exact⟨val,w',g',ow',d1,d2,d3,fun k hk=>(d4 k hk).trans (hag k hk),d5,d6⟩
   ·refine⟨hd1++hd2,hRL.mono hag (fun _ h=>h) (fun _ h=> .inl h) (fun i x b' hx hb' =>hother b' fun e=>hrne i x hx (e▸hb')), .inr ⟨b,cap,_,e, .inl ⟨kb,by simp [hkb],hkl,hkb2⟩,hrne,by rw[hlen],ZdJ hh,by rw[hlen];exact hroom, ?_,fun i hi=> ?_⟩⟩
    ·have:cs.toList.length=cs.size:=Array.length_toList;simp only[List.size_toArray,List.length_append,List.length_drop];omega
    ·have hi' :i< (hd1++hd2).length:=by rw[List.length_append,hl1,hl2];rw[hlen]at hi;exact hi
     simp only[List.getElem?_toArray,List.getD_eq_getElem?_getD];rw[List.getElem?_append_left hi',List.getElem?_eq_getElem hi'];rfl
   ·obtain⟨p,q,r,s⟩:=ZeT hR hb';exact⟨p,by rw[size_setRow];exact q,r,s⟩
 ·have hr' :=hr _ _ hrun;have hR2:=hR1.same hw1;have hsize:w1.heap.size=w.heap.size:=by rw[hw1.heap]
  have hdid:=ZfN (w' :=w1.alloc (.cells (hd1.toArray++hd2.toArray++Builtin.zeroCells z.cells (cap' - (xs.length+ys.length))) Et)) (J:=ZaV H ow (ids1++ids2)) (t:=t) (xs:=xs++ys) hR2 hnk (fun k hk=>Zde hk) (by show _<=(w1.heap.push _).size;simp) rfl rfl ⟨rfl,Nat.le_refl _⟩ hr' ?_ (fun b' hb' => ?_)
  ·obtain⟨val,w',g',ow',d1,d2,d3,d4,d5,d6⟩:=hdid;exact⟨val,w',g',ow',d1,d2,d3,fun k hk=>(d4 k hk).trans (hw1.agree g.I k hk),d5,d6⟩
  ·have hb0: ∀b,b<w.heap.size->(w1.alloc (.cells (hd1.toArray++hd2.toArray++Builtin.zeroCells z.cells (cap' - (xs.length+ys.length))) Et)).heap[b]? =w.heap[b]? :=fun b hb=>by rw[Zde (by omega),hw1.heap]
   refine⟨hd1++hd2,hRL.mono (fun b hb=>hb0 b (hR.ilt b hb)) (fun _ h=>h) (fun _ h=> .inl h) (fun i x b' hx hb' =>hb0 b' (hbig b' ((hRL.row hx).own hb'))), .inr ⟨w1.heap.size,cap',_,Et, .inr ⟨Nat.le_refl _,by show _< (w1.heap.push _).size;simp⟩,fun i x hx hb' => ?_,by rw[hlen,hsize],Zcd _ _,by rw[hlen];exact hc', ?_,fun i hi=> ?_⟩⟩
   ·have:=hbig _ ((hRL.row hx).own hb');omega
   ·have hzc: (Builtin.zeroCells z.cells (cap' - (xs.length+ys.length))).size=(cap' - (xs.length+ys.length)) *1:=by simp [Builtin.zeroCells,hzs,Ty.size]
    simp only[Array.size_append,List.size_toArray,hl1,hl2,hzc];omega
   ·have hi' :i< (hd1++hd2).length:=by rw[List.length_append,hl1,hl2];rw[hlen]at hi;exact hi
    rw[Array.getElem?_append_left (by simpa using hi')];simp only[List.append_toArray,List.getElem?_toArray,List.getD_eq_getElem?_getD];rw[List.getElem?_eq_getElem hi'];rfl
  ·obtain⟨p,q,r,s⟩:=ZeT hR hb';exact⟨p,by omega,r,s⟩
theorem ZhL{T0 T1 ty Et:TypeId}{ie:TypeInfo}{z:Value}{argTypes:Array TypeId}{k0 k:IntKind}(h0:argTypes[0]? =some T0)(h1:argTypes[1]? =some T1)(hu:P.underlying T0=some (.slice Et))(hu1:P.underlying T1=some (.int k0))
  (hie:P.info? Et=some ie) (hz:ie.zero=some z) (hzs:z.cells.size=ie.size) (hby:ie.bytes<=4096) {n:Nat} (hn:0<n) (hmx:n<=4294967296):
  ∃cap' w1 zc,n<=cap' /\Zbb w w1/\zc.toList=(List.replicate n z.cells.toList).flatten/\(Builtin.append_ argTypes ty #[.slice none 0 0, .int k (n:Int)]).run P w= .ok (.slice (some ⟨w.heap.size,0,none⟩) n cap') (w1.alloc (.cells (zc++Builtin.zeroCells z.cells (cap' - n)) Et)):=by
 have hwn:IntKind.i64.wrap (n:Int)=(n:Int):=by
  have hw64: ∀x:Int,IntKind.i64.wrap x=(x+9223372036854775808) % 18446744073709551616 - 9223372036854775808:=fun x=>by simp [IntKind.wrap,IntKind.bits,IntKind.signed];try omega
  rw[hw64];omega
 have hbytes: ¬ (281474976710656< (n:Int) * (ie.bytes:Int)):=by have h1: (n:Int) * (ie.bytes:Int)<=4294967296*4096:=Int.mul_le_mul (by omega) (by omega) (by omega) (by omega);omega
 have h63: ¬ (9223372036854775807< (n:Int)):=by omega
 have h48: ¬ (281474976710656<Builtin.nextslicecap n 0*ie.bytes):=by have:=growslice_fits (need:=n) (old:=0) (bytes:=ie.bytes) (by omega) (Nat.le_trans (Nat.mul_le_mul hmx hby) (by decide));omega
 have hz0:=ZdS z.cells n;have hn0:n≠0:=by omega
 have hneg: ¬ ((n:Int)<0):=by omega
 have hfc: ∀w' :World,(Builtin.firstCells ie.size 0 (.slice none 0 0)).run P w' = .ok #[] w' :=fun w' =>run_firstCells_none (P:=P) w' _ _ _ _
 refine⟨grownCap w n 0 Et,w.drew,if n*ie.size=0 then #[] else Builtin.zeroCells z.cells n,grownCap_ge ..,⟨rfl,rfl,rfl,⟨rfl,by first|exact Nat.le_succ _|exact Nat.le_refl _⟩⟩, ?_, ?_⟩
 ·rw[<-hz0];by_cases hsz:n*ie.size=0
  ·rw[if_pos hsz,hzs,hsz];simp
  ·rw[if_neg hsz];rfl
 ·by_cases hsz:n*ie.size=0
  ·simp [Builtin.append_,h0,h1,run_underlying hu,run_underlying hu1,Go.sizeOf,typeInfo,zeroValue,hie,hz,asInt,asIntOf,hwn,hbytes,hn0,h63,h48,Question.forced,newRow,grownCap,hsz,hneg,hfc]
  ·simp [Builtin.append_,h0,h1,run_underlying hu,run_underlying hu1,Go.sizeOf,typeInfo,zeroValue,hie,hz,asInt,asIntOf,hwn,hbytes,hn0,h63,h48,Question.forced,newRow,grownCap,hsz,hneg,hfc]
theorem ZoC{c:Call}(hT:ZaB P E)(hR:RH B H w g ow)(hF:Fr w g F a.tmps)(hk: ∀id,g.K id->id<nid\/nid+ZaG<=id)(ho:o.op= .call c)(hc:c.callee= .builtin .append)
  (h: (aop E nid o.op o.type (aev F)).run H []=some ((v,patch),rd)):Did B (Zaf H patch) w g nid v ((execOp a.eval o).run P w):=by
 rw[ho]at h;simp only[aop,hc]at h;split at h
 ·rename_i s x t hargs hty;rw[Zan]at h
  have hargs' :c.args.map a.eval= #[a.eval s,a.eval x]:=by
   have:c.args= #[s,x]:=by rw[<-Array.toList_inj];exact hargs
   rw[this];simp
  obtain⟨T0,h0,ht0⟩:=Option.bind_eq_some_iff.1 hty;rcases h with ⟨_,h⟩ | ⟨hs1,h⟩
  ·split at h
   ·rename_i k n k0 hs hx hT1;simp only[Zan,Zaa,and_false,false_or,Bool.or_eq_false_iff,Bool.not_eq_false']at h;obtain⟨⟨_,hd⟩,h⟩:=h;simp only[ZuF,Zag,Zac,Prod.mk.injEq]at h;obtain⟨u,hg,⟨rfl,rfl⟩,_⟩:=h;have hg: (1:Int)<=n/\n<=(Zaq:Int):=of_decide_eq_true (Zbi hg);obtain⟨T1,h1,ht1⟩:=Option.bind_eq_some_iff.1 hT1;obtain⟨Et,hu,hEt⟩:=ZaP hT ht0
    have hu1:P.underlying T1=some (.int k0):=by
     have hsh:=(hT.ty T1 _ ht1).shape
     cases hu:P.underlying T1 with
     |none=>rw[hu]at hsh;simp [Zav]at hsh
     |some d=>rw[hu]at hsh;cases d<;>simp [Zav]at hsh;rw[hsh]
    obtain⟨ie,z,hie,hsz,hz,hzs,hby,hrows⟩:=Zid (w:=w) (g:=g) hT hEt hd;have hvs:a.eval s= .slice none 0 0:=(hs▸hF.eval s).nils;have hvx:=VR.int (hx▸hF.eval x);obtain⟨m,hm⟩: ∃m:Nat,n=(m:Int):=⟨_,(Int.toNat_of_nonneg (by omega)).symm⟩;subst hm
    have hmx:m<=4294967296:=by have h2: (m:Int)<=((4294967296:Nat):Int):=hg.2;omega
    obtain⟨cap',w1,zc,c1,c2,c3,c4⟩:=ZhL (P:=P) (w:=w) (ty:=o.type) (k:=k) h0 h1 hu hu1 hie hz (by rw[hzs,hsz]) hby (n:=m) (by omega) hmx
    have hrun: (execOp a.eval o).run P w= .ok (.value (.slice (some ⟨w.heap.size,0,none⟩) m cap')) (w1.alloc (.cells (zc++Builtin.zeroCells z.cells (cap' - m)) Et)):=by rw[hvs,hvx]at hargs';simp only[execOp,ho,Zbk hc,builtin,hargs',Sem.run_bind,c4,Result.andThen_ok,Sem.run_pure]
    have hlen: (List.replicate ((m:Int)).toNat (Zbr t)).length=m:=by simp
    refine ZjD hR (ZfH hk) (w1:=w1) (cells:=zc++Builtin.zeroCells z.cells (cap' - m)) (T:=Et) (cap:=cap') (css:=List.replicate m z.cells.toList) (by simpa using hrows m) ?_ (by rw[hlen];exact c1) ?_ c2 (by rw[hlen];exact hrun)
    ·rw[Array.toList_append,c3];exact List.prefix_append _ _
    ·have e1:zc.size=m*t.size:=by rw[<-Array.length_toList,c3,ZaK (css:=List.replicate m z.cells.toList) (n:=t.size) (by intro c hc;rw[(List.mem_replicate.1 hc).2];simpa using hzs),List.length_replicate]
     have e2: (Builtin.zeroCells z.cells (cap' - m)).size=(cap' - m) *t.size:=by simp [Builtin.zeroCells,hzs]
     rw[Array.size_append,e1,e2, <-Nat.add_mul];exact Nat.mul_le_mul_right _ (by omega)
   ·simp [Zaa]at h
  simp only[Bool.not_eq_false']at hs1;simp only[Zan]at h
  have: ∃T1 t1,c.argTypes[1]? =some T1/\E.ty T1=some (.sl t1):=by
   cases hh:c.argTypes[1]? with
   |none=>rw[hh]at hs1;simp [Zfp]at hs1
   |some T1=>
    rw[hh]at hs1;simp only[Option.bind_some]at hs1
    cases ht:E.ty T1 with
    |none=>rw[ht]at hs1;simp [Zfp]at hs1
    |some t1=>cases t1<;>rw[ht]at hs1<;>simp [Zfp]at hs1;exact⟨T1,_,rfl,ht⟩
  obtain⟨T1,t1,h1,ht1⟩:=this;obtain⟨Et,hu,hEt⟩:=ZaP hT ht0;obtain⟨E1,hu1,_⟩:=ZaP hT ht1;obtain⟨ie,z,hie,hsz,hby,hz,hzok,_⟩:=(hT.ty Et _ hEt).info
  have hzs:z.cells.size=t.size:=by obtain⟨h3,h4⟩:=Zhx (w:=w) (g:=g) hzok;have:=CV.length _ t _ h4 h3;simpa using this
  have hrun: ∀val w',(Builtin.append_ c.argTypes o.type #[a.eval s,a.eval x]).run P w= .ok val w' ->(execOp a.eval o).run P w= .ok (.value val) w' :=by intro val w' hrun;simp only[execOp,ho,Zbk hc,builtin,hargs',Sem.run_bind,hrun,Result.andThen_ok,Sem.run_pure]
  rcases h with ⟨_,h⟩ | ⟨_,h⟩
  ·split at h
   ·rename_i t';simp only[Zuv,Zas,Zag,Zac,Prod.mk.injEq]at h;obtain⟨⟨xs,ids1⟩,m1,hS,⟨ys,ids2⟩,m2,hX,u,hg,u2,hg2,⟨rfl,rfl⟩,_⟩:=h;have hmx:xs.length+ys.length<=4294967296:=of_decide_eq_true (Zbi hg);obtain⟨n1,n2,n3⟩:=List.nodup_append.1 (Ze9.1 (Zbi hg2));rw[ZaI];exact Zmm hR (ZfH hk) h0 h1 hu hu1 hie hz hzs hsz hby hmx (Zgz hR (hF.eval s) hS).1 (Zgz hR (hF.eval x) hX).1 (fun k h1 h2=>n3 k h1 k h2 rfl) hrun
   ·simp [Zaa]at h
  split at h
  ·rename_i id ver kt k hs';simp only[ZuU,Zas,Zag,Zac,Prod.mk.injEq]at h;obtain⟨r,m1,hacc,xs,hxs,⟨ys,ids2⟩,m2,hX,u,hg,u2,hg2,o',m3,hhole,⟨rfl,rfl⟩,_⟩:=h;obtain⟨he,rfl⟩:=Zcy hxs;obtain⟨t0,row⟩:=r;simp only at he;subst he;have hmx:row.length+ys.length<=4294967296:=of_decide_eq_true (Zbi hg);have htmp: ¬g.K (nid+1):=fun h=>by have:=hk _ h;unfold ZaG at this;omega
   have hsv:=hs' ▸hF.eval s;obtain⟨g2,ow2,hR2,hle,hI,hK2,how,hne⟩:=Zri hR hsv hacc hhole htmp;obtain⟨_,_,_,_,hrow⟩:=ZdI hR hsv hacc;have hX' :=ZdG hR (hF.eval x) hX;have hX2:Zk1 w g2 t0 ys (a.eval x):=by unfold Zk1 at hX' ⊢;rw[hI];exact hX'
   have hnk2: ¬g2.K nid:=fun h=>by
    rcases hK2 _ h with h|h
    ·exact ZfH hk h
    ·omega
   have hdid:=ZiS (ty:=o.type) (H' :=ZbS (ZbS (ZbS H id (some o')) (nid+1) (some (.vec t0 row))) (nid+1) none) (xs:=row) hR2 hnk2 h0 h1 hu hu1 hie hz hzs hsz hby hmx hX2 hrun (sv:=a.eval s) (.inr ⟨nid+1,rfl,by rw[Za8];simp,by
    rcases hrow with ⟨h3,h4⟩ | ⟨b,cap,cs,e,css,h3,_,h5,h6,h7,h8,h9⟩
    ·exact .inl ⟨h3,h4⟩
    ·exact .inr ⟨b,cap,cs,e,css,(how b).2 (by rw[h3];rfl),h3,h5,h6,h7,by rw[hI];exact h8,h9⟩⟩)
   obtain⟨val,w',g',ow',d1,d2,d3,d4,d5,d6⟩:=hdid
   have hHtmp:H (nid+1)=none:=by
    cases hh:H (nid+1) with
    |none=>rfl
    |some ob=>exact absurd (hR.objs _ _ hh).1 htmp
   have hHe:ZbS (ZbS (ZbS (ZbS H id (some o')) (nid+1) (some (.vec t0 row))) (nid+1) none) nid (some (.vec t0 (row++ys)))=Zaf H [(id,some o'),(nid,some (.vec t0 (row++ys)))]:=by
    simp only[Zaf];funext q;by_cases q1:q=nid
    ·subst q1;rw[Za8,Za8]
    ·rw[ZaD q1,ZaD q1];by_cases q2:q=nid+1
     ·subst q2;rw[Za8,ZaD (Ne.symm hne),hHtmp]
     ·rw[ZaD q2,ZaD q2]
   rw[hHe]at d2;refine⟨val,w',g',ow',d1,d2,hle.trans d3,by rw[<-hI];exact d4,d5,fun q hq=> ?_⟩;rcases d6 q hq with h|h
   ·rcases hK2 q h with h|h
    ·exact .inl h
    ·exact .inr ⟨by omega,by unfold ZaG;omega⟩
   ·exact .inr h
  simp only[Zvm,Zas,Zag,Zac,Prod.mk.injEq]at h;obtain⟨⟨xs,ids⟩,m1,hS,⟨ys,ids2⟩,m2,hX,u,hg,⟨rfl,rfl⟩,_⟩:=h
  have hmx:xs.length+ys.length<=4294967296:=by
   unfold Zar at hg
   cases hd:decide (xs.length+ys.length<=Zaq) with
   |true=>exact of_decide_eq_true hd
   |false=>simp only[hd]at hg;simp at hg
  have hO:=ZeY hR (hF.eval s) hS;have hX' :=ZdG hR (hF.eval x) hX
  have hp:Zaf H (ids.map (fun id=>(id,none))++[(nid,some (.vec t (xs++ys)))])=ZbS (Zaf H (ids.map fun id=>(id,none))) nid (some (.vec t (xs++ys))):=by exact ZaI _ _ _
  rw[hp];refine ZiS (ty:=o.type) hR (ZfH hk) h0 h1 hu hu1 hie hz hzs hsz hby hmx hX' hrun (sv:=a.eval s) ?_
  ·rcases hO with ⟨rfl,rfl,h3⟩ | ⟨id,rfl,h3,h4⟩
   ·exact .inl ⟨rfl,rfl,h3⟩
   ·exact .inr ⟨id,rfl,h3,h4⟩
 ·simp [Zaa]at h
end ops
end Tr
