/- Rows made new: slice literals, make, append. Conditions: the table of types is the program's. -/
import Derived.Test.YtdpenljjnfmgiaaGreatTrQa
open Array renaming range ->Vg
open Bool renaming not_eq_false' ->Vj,or_eq_false_iff ->Vn,false_eq_true ->Vp
open Go.Instr renaming buildSlice ->Vi,makeSlice ->Vl
open Go.IntKind renaming i64 ->Vr
open List renaming replicate ->Va,length_replicate ->Vh,getElem?_eq_getElem ->Vk,getElem?_eq_none ->Vm,flatten_append ->Vo,map_map ->Vs
open Nat renaming le_refl ->Vq
open Prod.mk renaming injEq ->Vf
open Go.Result renaming andThen_ok ->Vb
open Go.Sem renaming run_bind ->Vd,run_pure ->Ve
open Go.Value renaming slice ->Vc
namespace Tr
open Go
theorem ZbR(z:Array Value): ∀n:Nat,((Vg (n*z.size)).map (z[· % z.size]!)).toList=(Va n z.toList).flatten
 |0=>by simp
 |n+1=>by
  have ih:=ZbR z n;simp only[Array.toList_map,Array.toList_range]at ih ⊢;rw[Nat.add_mul,Nat.one_mul,List.range_add,List.map_append,ih,List.replicate_succ',Vo,Vs];congr 1;simp only[List.flatten_cons,List.flatten_nil,List.append_nil];apply List.ext_getElem
  ·simp
  ·intro i h1 h2;have hi:i<z.size:=by omega
   simp only[List.getElem_map,List.getElem_range,Function.comp];rw[Nat.mul_comm,Nat.mul_add_mod,Nat.mod_eq_of_lt hi]
   grind
section ops
variable {P:Program}{E:Env}{B:Zbr}{H:AH}{w:World}{g:Gh}{ow:Nat->Nat->Prop}{nid:Nat}{a:Act}{F:Nat->AV}{v:AV}{patch:ZaY}{rd:List Nat}{o:Oper}
theorem Zh8(hR:RH B H w g ow)(hnk: ¬g.K nid){t:Ty}{T:TypeId}{xs:List (El t)}{css:List (List Value)}{cap:Nat}{cells:Array Value}(hfa:Fa (Rd w g.I t) xs css)
  (hc:css.flatten<+:cells.toList) (hcap:xs.length<=cap) (hsz:cap*t.size<=cells.size) {r:Result Next}{w1:World} (hw1:ZaM w w1)
  (hr:r= .ok (.value (.slice (some ⟨w.heap.size,0,none⟩) xs.length cap)) (w1.alloc (.cells cells T))):Did B (Zbl H nid (some (.vec t xs))) w g nid (.vw nid) r:=by
 have hR1:=hR.same hw1;have hsize:w1.heap.size=w.heap.size:=by rw[hw1.heap]
 have key:Did B (Zbl H nid (some (.vec t xs))) w1 g nid (.vw nid) r:=by
  refine Did.new' (t:=t) (sv:= .slice (some ⟨w1.heap.size,0,none⟩) xs.length cap) hR1 hnk (hsize▸hr) ?_ ?_
  ·refine⟨by simp [Gh.add], .inr ⟨w1.heap.size,cap,cells,T,css,by simp [Gh.add],rfl,by simp [Gh.add],Zbi _ _,hcap,hsz, ?_,hc⟩⟩;refine hfa.mono fun x c hx=> ?_;have:=Zir (x:= .d t x) (cs:=c) hR1 hnk (t:=t) (sv:= .slice (some ⟨w1.heap.size,0,none⟩) xs.length cap) (b:=some w1.heap.size) (ob:= .cells cells T) (by simp only[CV];exact Rd.mono (hw1.agree _) (by simp) t x c hx)
   assumption
  ·refine ZaR ?_ rfl rfl;simp only[CV];exact⟨.inl rfl,by simp [Gh.add],by simp [Gh.add,Value.oneCell']⟩
 obtain⟨val,w',g',ow',h1,h2,h3,h4,h5,h6⟩:=key;exact⟨val,w',g',ow',h1,h2,h3,fun b hb=>(h4 b hb).trans (by rw[hw1.heap]),h5,h6⟩
theorem Ze4{Et:TypeId}{e:Ty}(hT:Zah P E)(hEt:E.ty Et=some e)(hd:e.data=true): ∃ie z,P.info? Et=some ie/\ie.size=e.size/\ie.zero=some z/\z.cells.size=e.size/\ie.bytes<=4096/\
  ∀n,Fa (Rd w g.I e) (Va n (zeroEl e)) (Va n z.cells.toList):=by
 obtain⟨ie,z,hi,hsz,hby,hz,hzok,_⟩:=(hT.ty Et _ hEt).info
 have hzr:Rd w g.I e (zeroEl e) z.cells.toList:=by unfold ZdR at hzok;rw[hd]at hzok;exact ZeI _ _ hzok
 refine⟨ie,z,hi,hsz,hz, ?_,hby, ?_⟩
 ·have:=Rd.length _ _ _ hzr;omega
 ·intro n
  induction n with
  |zero=>trivial
  |succ n ih=>exact⟨hzr,ih⟩
theorem Zcg(hR:RH B H w g ow){ids:List Nat}{b:Nat}(hb:ZaC H ow ids b): ¬g.I b/\b<w.heap.size/\(B.own0 b\/B.w0.heap.size<=b)/\ ∀id,Zad H (ids.map fun id=>(id,none)) id≠none-> ¬ow id b:=by
 obtain⟨k,h1,h2,h3⟩:=hb;obtain⟨p,q,r⟩:=hR.sep k b h2 h3;refine⟨p,q,r,fun id hid ho=> ?_⟩;rw[ZcP]at hid;split at hid
 ·grind
 ·rename_i hn;exact hn (hR.dist id k b hid h2 ho h3▸h1)
theorem Ze2{w' :World}{J:Nat->Prop}{t:Ty}{xs:List (List (El t))}{val:Value}{r:Result Next}(hR:RH B H w g ow)(hnk: ¬g.K nid)(hheap: ∀k,k<w.heap.size->w'.heap[k]? =w.heap[k]?)(hsz:w.heap.size<=w'.heap.size)(hos:w'.os=w.os)(htape:w'.tape=w.tape)(hout:Zjn w' w)
  (hr:r= .ok (.value val) w') (hrows:ZbL w' g.I (fun b=>J b\/(w.heap.size<=b/\b<w'.heap.size)) t xs val) (hJ: ∀b,J b-> ¬g.I b/\b<w.heap.size/\(B.own0 b\/B.w0.heap.size<=b)/\ ∀id,H id≠none-> ¬ow id b):Did B (Zbl H nid (some (.rows t xs 0 none))) w g nid (.vw nid) r:=by
 obtain⟨b,rr,ho⟩:=hrows.obj nid
 have hval:val.oneCell' =true/\Zav val=false:=by
  obtain⟨hd,_,h⟩:=hrows
  rcases h with ⟨_,rfl⟩ | ⟨_,_,_,_,_,_,rfl,_⟩<;>exact⟨rfl,rfl⟩
 refine⟨val,w',g.add nid (.sl t) b val rr,Zc4 ow nid (fun b=>J b\/(w.heap.size<=b/\b<w'.heap.size)), .inl hr, ?_,Gh.le_add hnk _ _ _ _,fun b hb=>hheap b (hR.ilt b hb), ?_, ?_⟩
 ·refine hR.add hnk hheap hsz hos htape hout (fun k hk=> ?_) ho;rcases hk with hk| ⟨h1,h2⟩
  ·grind
  ·refine⟨fun hI=>absurd (hR.ilt _ hI) (by omega),h2, .inr (by have:=hR.size;omega),fun id' h3 h4=> ?_⟩;have:=(hR.sep id' _ h3 h4).2.1;omega
 ·refine ZaR ?_ hval.1 rfl;simp only[CV];exact⟨.inl rfl,by simp [Gh.add],by simp [Gh.add,hval.1]⟩
 ·intro id h;rcases h with rfl|h
  ·exact .inr ⟨Vq _,by unfold ZaU;omega⟩
  grind
theorem Zfx(hR:RH B H w g ow)(hF:Fr w g F a.tmps){t:Ty}{ps:List (Nat×Operand)} : ∀ (m n:Nat) (ys:List (List (El t))) (ids l l' :List Nat),(ZdM t (ps.map fun p=>(p.1,aev F p.2)) m n).run H l=some ((ys,ids),l')->ids.Nodup->
  ∃hd:List Value,hd.length=m/\(∀j,j<m->hd[j]? =some (match ps.lookup (n+j) with|some x=>a.eval x|none=> .slice none 0 0))/\RL w g.I (ZaC H ow ids) t hd ys
 |0,n,ys,ids,l,l',h,_=>by
  simp only[ZdM,Zab,Vf]at h;obtain⟨⟨rfl,rfl⟩,_⟩:=h
  exact⟨[],rfl,by omega,RL.nil⟩
 |m+1,n,ys,ids,l,l',h,hn=>by
  simp only[ZdM,Zaj,Zab,Vf]at h;obtain⟨⟨y,i1⟩,m1,h1,⟨ys2,i2⟩,m2,h2,⟨rfl,rfl⟩,_⟩:=h;obtain⟨n1,n2,n3⟩:=List.nodup_append.1 hn;obtain⟨hd,h3,h4,h5⟩:=Zfx hR hF m (n+1) ys2 i2 _ _ h2 n2;rw[ZbO]at h1
  have hv:VR w g (((ps.lookup n).map (aev F)).getD .nils) (match ps.lookup n with|some x=>a.eval x|none=> .slice none 0 0):=by
   cases ps.lookup n with
   |none=>exact ZaR (by rfl) rfl rfl
   |some x=>exact hF.eval x
  have hr:=Zdq hR hv h1
  refine⟨(match ps.lookup n with|some x=>a.eval x|none=> .slice none 0 0)::hd,by grind,fun j hj=> ?_, ?_⟩
  ·grind
  ·have:=(RL.single hr).append h5 (fun c ⟨k,a1,a2,a3⟩ ⟨k',b1,b2,b3⟩=>by
    have:=hR.dist k k' c a2 b2 a3 b3
    grind)
   exact this.mono (fun _ _=>rfl) (by simp) (fun b hb=>by
    rcases hb with ⟨k,a1,a2⟩ | ⟨k,a1,a2⟩
    ·exact⟨k,by grind,a2⟩
    ·exact⟨k,by grind,a2⟩) (by simp)
theorem ZgR{T:TypeId}{n:Nat}{ps:Array (Nat×Operand)}(hT:Zah P E)(hR:RH B H w g ow)(hF:Fr w g F a.tmps)(hk: ∀id,g.K id->id<nid\/nid+ZaU<=id)(ho:o.op= .buildSlice T n ps)
  (h: (Za1 E nid o.op o.type (aev F)).run H []=some ((v,patch),rd)):Did B (Zad H patch) w g nid v ((execOp a.eval o).run P w):=by
 rw[ho]at h;simp only[Za1,Zac]at h;obtain⟨t,ht,h⟩:=h;split at h
 ·rename_i e;rw[Zae]at h;rcases h with ⟨_,h⟩ | ⟨_,h⟩
  ·split at h
   ·rename_i e';simp only[Zae,Zaj,Zac,Zab,Zaa,and_false,false_or,Vn,Vj,Vf]at h;obtain⟨⟨hp,hbig⟩,⟨ys,ids⟩,m1,hbr,_,hnd,⟨rfl,rfl⟩,_⟩:=h;obtain⟨Et,hu,hEt⟩:=Zar hT ht;have hzero:=ZhQ (hT.ty Et _ hEt) w;obtain⟨hd,hdl,hval,hrl⟩:=Zfx hR hF n 0 ys ids [] m1 hbr (Zea.1 (ZaK hnd))
    have hbig' : ¬n* (Ty.sl e').size>2 ^ 24:=by
     intro hb;have:Nat.blt (2 ^ 24) n=true:=by simpa [Nat.blt_eq,Ty.size] using hb
     grind
    have hkeys:=Zb5 hp;have hlens: (Va n [Vc none 0 0]).map List.length=Va n 1:=by simp
    obtain⟨h1,h2⟩:=Zgm (place:=fun i=>some (i* (Ty.sl e').size,(Ty.sl e').size)) (lens:=Va n 1) (by
     intro i hi;simp only[Vh]at hi
     simp [List.take_replicate,Nat.min_eq_left (Nat.le_of_lt hi),Ty.size]) (ps.toList.map fun p=>(p.1,a.eval p.2)) (Va n [Vc none 0 0]) hlens (by
     intro p hp';obtain⟨q,hq,rfl⟩:=List.mem_map.1 hp';have hk:=hkeys.2 q.1 (by grind);refine⟨1,by grind, ?_⟩;have h3:=hval q.1 hk;rw[Nat.zero_add,ZcK hkeys.1 hq]at h3;obtain⟨x,hx⟩: ∃x,ys[q.1]? =some x:=⟨_,Vk (by rw[<-hrl.1,hdl];exact hk)⟩;have h4:=(hrl.row hx).one;have h5:hd.getD q.1 undef=a.eval q.2:=by grind
     rw[h5]at h4
     cases hv:a.eval q.2<;>rw[hv]at h4<;>simp [Zav]at h4<;>rfl)
    have hcs: (ZdB (Va n [Vc none 0 0]) (ps.toList.map fun p=>(p.1,a.eval p.2))).flatten=hd:=by
     have:ZdB (Va n [Vc none 0 0]) (ps.toList.map fun p=>(p.1,a.eval p.2))=hd.map fun v=>[v]:=by
      apply List.ext_getElem?;intro j;by_cases hj:j<n
      ·rw[Zec _ _ (by rw[Vs,Vh];assumption) j (by grind),ZbO,List.getElem?_map,hval j hj,Nat.zero_add]
       cases hl:ps.toList.lookup j with
       |none=>grind
       |some x=>
        simp only[Option.map_some];obtain⟨y,hy⟩: ∃y,ys[j]? =some y:=⟨_,Vk (by rw[<-hrl.1,hdl];exact hj)⟩;have h4:=(hrl.row hy).one;have h5:hd.getD j undef=a.eval x:=by grind
        rw[h5]at h4;congr 1
        cases hv:a.eval x<;>rw[hv]at h4<;>simp [Zav]at h4<;>rfl
      ·rw[Vm (by rw[Zb3];grind),Vm (by grind)]
     rw[this];generalize hd=l
     induction l with
     |nil=>rfl
     |cons x l ih=>grind
    have hparts: (ps.map fun(i,x)=>(i,a.eval x)).toList=ps.toList.map fun p=>(p.1,a.eval p.2):=by simp
    have h0:=ZbR #[Vc none 0 0] n
    have hrun: (execOp a.eval o).run P w= .ok (.value (.slice (some ⟨w.heap.size,0,none⟩) n n)) (w.alloc (.cells hd.toArray Et)):=by
     rw[hcs]at h1;by_cases hm:n* (Ty.sl e').size=0
     ·have hcells: (Vg (n* (Ty.sl e').size)).map ((#[]:Array Value)[· % (#[]:Array Value).size]!)=(Va n [Vc none 0 0]).flatten.toArray:=by
       rw[hm];have:n=0:=by simpa [Ty.size] using hm
       grind
      simp only[execOp,ho,Vi,underlying,Vd,run_program,Vb,hu,Ve,(hT.ty _ _ hEt).run_sizeOf,if_neg hbig',if_pos hm,hcells,hparts,h1,newRow,run_newObj];rfl
     ·have hcells: (Vg (n* (Ty.sl e').size)).map ((#[Vc none 0 0]:Array Value)[· % (#[Vc none 0 0]:Array Value).size]!)=(Va n [Vc none 0 0]).flatten.toArray:=by
       apply Array.toList_inj.1
       assumption
      simp only[execOp,ho,Vi,underlying,Vd,run_program,Vb,hu,Ve,(hT.ty _ _ hEt).run_sizeOf,if_neg hbig',if_neg hm,hzero,Value.cells,hcells,hparts,h1,newRow,run_newObj];rfl
    have hyl:ys.length=n:=by rw[<-hrl.1,hdl]
    rw[Zau];refine Ze2 (w' :=w.alloc (.cells hd.toArray Et)) (J:=ZaC H ow ids) (hR.drops ids) (ZdF hk) (fun k hk=>Zbk hk) (by simp) rfl rfl ⟨rfl,Vq _⟩ hrun ?_ (fun b hb=>Zcg hR hb);refine⟨hd,hrl.mono (fun b hb=>Zbk (hR.ilt b hb)) (by simp) (by grind) (fun i x b hx hr=> ?_), .inr ⟨w.heap.size,n,hd.toArray,Et,by simp,fun i x hx hr=> ?_,by grind,Zbi _ _,by grind,by grind,fun i hi=> ?_⟩⟩
    ·obtain⟨k,_,h3,h4⟩:=(hrl.row hx).own hr;exact Zbk (hR.sep k b h3 h4).2.1
    ·obtain⟨k,_,h3,h4⟩:=(hrl.row hx).own hr;have:=(hR.sep k _ h3 h4).2.1;omega
    grind
   ·simp [Zaa]at h
  simp only[Zae,Zaj,Zac,Zab,Zaa,and_false,false_or,Vn,Vj,Vf]at h;obtain⟨⟨⟨hp,hd⟩,hbig⟩,⟨qs,ids⟩,m1,hqs,l,hl,ds,m2,hds,⟨rfl,rfl⟩,_⟩:=h;obtain⟨Et,hu,hEt⟩:=Zar hT ht;have hR0:=hR;have hqf:=Zg4 (J:=ZaC H ow ids) hR hF _ _ _ _ _ hqs (by simp);have hle:=g.le_grow (ZaC H ow ids);rw[Zau,Zau];refine Did.after_le hle (fun _ h=>h) (Did.dats hR hds ?_);have hR:=hR.freezeIds (ids:=ids);have hk: ∀id,(g.grow (ZaC H ow ids)).K id->id<nid\/nid+ZaU<=id:=hk;generalize g.grow (ZaC H ow ids)=g at hR hk hqf ⊢;obtain⟨ie,z,hie,hsz,hz,hzs,_,hrows⟩:=Ze4 (w:=w) (g:=g) hT hEt hd;obtain⟨css',h1,h2⟩:=Zhp (g:=g) hqf hp hl (hrows n)
  have hlen:=(Zb9 hl).1
  have hbig' : ¬n*e.size>2 ^ 24:=by
   intro hb;have:Nat.blt (2 ^ 24) (n*e.size)=true:=by simpa [Nat.blt_eq] using hb
   grind
  refine Zh8 hR (ZdF hk) (cells:=css'.flatten.toArray) (T:=Et) (cap:=n) h2 (by simp) (by omega) ?_ (.refl w) ?_
  ·have:=Zap (Rd.all_length h2);rw[List.size_toArray,this, <-h2.length,hlen];omega
  ·have h0:=ZbR z.cells n;rw[hzs]at h0;have hparts: (ps.map fun(i,x)=>(i,a.eval x)).toList=ps.toList.map fun p=>(p.1,a.eval p.2):=by simp
   have hzero: (zeroValue Et).run P w= .ok z w:=by simp [zeroValue,typeInfo,hie,hz]
   by_cases hm:n*e.size=0
   ·have hcells: (Vg (n*e.size)).map ((#[]:Array Value)[· % (#[]:Array Value).size]!)=(Va n z.cells.toList).flatten.toArray:=by
     grind
    simp only[execOp,ho,Vi,underlying,Vd,run_program,Vb,hu,Ve,(hT.ty _ _ hEt).run_sizeOf,if_neg hbig',if_pos hm,hcells,hparts,h1,newRow,run_newObj,hlen];rfl
   ·have hcells: (Vg (n*e.size)).map (z.cells[· % z.cells.size]!)=(Va n z.cells.toList).flatten.toArray:=by
     grind
    simp only[execOp,ho,Vi,underlying,Vd,run_program,Vb,hu,Ve,(hT.ty _ _ hEt).run_sizeOf,if_neg hbig',if_neg hm,hzero,hcells,hparts,h1,newRow,run_newObj,hlen];rfl
 ·simp [Zaa]at h
theorem Zh1{T Et:TypeId}{e:Ty}{k1 k2:IntKind}{n m:Int}{ie:TypeInfo}{z:Value}(hT:Zah P E)(hu:P.underlying T=some (.slice Et))(hEt:E.ty Et=some e)(hie:P.info? Et=some ie)(hz:ie.zero=some z)(hzs:z.cells.size=e.size)
  (hby:ie.bytes<=256) (h0:0<=n) (hnm:n<=m) (hmx:m<=549755813888):
  (Vl T (.int k1 n) (.int k2 m)).run P w= .ok (.slice (some ⟨w.heap.size,0,none⟩) n.toNat m.toNat) (w.alloc (.cells (Va m.toNat z.cells.toList).flatten.toArray Et)):=by
 have hw64: ∀x:Int,Vr.wrap x=(x+9223372036854775808) % 18446744073709551616 - 9223372036854775808:=fun x=>by simp [IntKind.wrap,IntKind.bits,IntKind.signed];omega
 have hwn:Vr.wrap n=n:=by grind
 have hwm:Vr.wrap m=m:=by grind
 have hbytes: ¬ (281474976710656< (ie.bytes:Int) *m):=by have h1: (ie.bytes:Int) *m<=256*549755813888:=Int.mul_le_mul (by omega) hmx (by omega) (by omega);omega
 have hz0:=ZbR z.cells m.toNat;rw[hzs]at hz0;have hzero: (zeroValue Et).run P w= .ok z w:=by simp [zeroValue,typeInfo,hie,hz]
 have hm0: ¬m<0:=by omega
 have hn0: ¬n<0:=by omega
 have hgt: ¬m<n:=by omega
 have hcond: (decide (m<0) ||decide ((ie.bytes:Int) *m>2 ^ 48) ||decide (n<0) ||decide (n>m))=false:=by
  grind
 by_cases hm:m.toNat*e.size=0
 ·have hcells: (Vg (m.toNat*e.size)).map ((#[]:Array Value)[· % (#[]:Array Value).size]!)=(Va m.toNat z.cells.toList).flatten.toArray:=by
   grind
  simp only[Vl,Vd,run_underlying hu,asInt,asIntOf,typeInfo,run_program,hie,hwn,hwm,Ve,Vb,hcond,Vp,if_false,(hT.ty _ _ hEt).run_sizeOf,run_askRoom,hm,if_true];rw[hm]at hcells;simp only[Vd,Ve,Vb,hcells,newRow,run_newObj];rfl
 ·have hcells: (Vg (m.toNat*e.size)).map (z.cells[· % z.cells.size]!)=(Va m.toNat z.cells.toList).flatten.toArray:=by
   grind
  simp only[Vl,Vd,run_underlying hu,asInt,asIntOf,typeInfo,run_program,hie,hwn,hwm,Ve,Vb,hcond,Vp,if_false,(hT.ty _ _ hEt).run_sizeOf,run_askRoom,if_neg hm,hzero,hcells,newRow,run_newObj];rfl
theorem ZhB{T:TypeId}{lo co:Operand}(hT:Zah P E)(hR:RH B H w g ow)(hF:Fr w g F a.tmps)(hk: ∀id,g.K id->id<nid\/nid+ZaU<=id)(ho:o.op= .makeSlice T lo co)
  (h: (Za1 E nid o.op o.type (aev F)).run H []=some ((v,patch),rd)):Did B (Zad H patch) w g nid v ((execOp a.eval o).run P w):=by
 rw[ho]at h;simp only[Za1,Zac]at h;obtain⟨t,ht,h⟩:=h;have hlo:=hF.eval lo;have hco:=hF.eval co;split at h
 ·rename_i e k1 n k2 m hl hc
  revert n m
  intro (n:Int) (m:Int) hl hc h;rw[Zae]at h;rcases h with ⟨_,h⟩ | ⟨_,h⟩
  ·split at h
   ·rename_i e';simp only[Zac,Zab,Vf]at h;obtain⟨u,hg,⟨rfl,rfl⟩,_⟩:=h;have hg3:0<=n/\n<=m/\m<=(Zax:Int):=of_decide_eq_true (ZaK hg);obtain⟨h0,hnm,hmx⟩:=hg3;obtain⟨Et,hu,hEt⟩:=Zar hT ht;obtain⟨ie,z,hie,hsz,hby,hz,hzok,hzag⟩:=(hT.ty Et _ hEt).info
    have hz0:z= .slice none 0 0:=by
     have h1:=ZhQ (hT.ty Et _ hEt) w;have h2: (zeroValue Et).run P w= .ok z w:=by simp [zeroValue,typeInfo,hie,hz]
     grind
    subst hz0;rw[hl]at hlo;rw[hc]at hco;have hmx' :m<=549755813888:=by assumption
    have hrun:=Zh1 (w:=w) (k1:=k1) (k2:=k2) hT hu hEt hie hz rfl ((hT.ty _ _ ht).small _ _ hu hie) h0 hnm hmx'
    have hex: (execOp a.eval o).run P w= .ok (.value (.slice (some ⟨w.heap.size,0,none⟩) n.toNat m.toNat)) (w.alloc (.cells (Va m.toNat [Vc none 0 0]).flatten.toArray Et)):=by simp only[execOp,ho,VR.int hlo,VR.int hco,Vd,hrun,Vb,Ve];rfl
    have hfl: ∀q:Nat,(Va q [Vc none 0 0]).flatten=Va q (Vc none 0 0):=by simp
    have hnil: ∀i x,(Va n.toNat ([]:List (El e')))[i]? =some x->x=[]/\(Va n.toNat (Vc none 0 0)).getD i undef= .slice none 0 0:=by grind
    refine Ze2 (w' :=w.alloc (.cells (Va m.toNat [Vc none 0 0]).flatten.toArray Et)) (J:=fun _=>False) hR (ZdF hk) (fun k hk=>Zbk hk) (by simp) rfl rfl ⟨rfl,Vq _⟩ hex ?_ (by simp);refine⟨Va n.toNat (.slice none 0 0),⟨by simp,⟨fun i x hx _=> ?_,fun i j x y b hx hy _ _ _ hb=> ?_,by simp⟩⟩, .inr ⟨w.heap.size,m.toNat,_,Et,by simp,fun i x hx hb=> ?_,by simp,Zbi _ _,by grind,by simp,fun i hi=> ?_⟩⟩
    ·obtain⟨rfl,h2⟩:=hnil i x hx;exact .inl ⟨rfl,h2⟩
    ·simp only[(hnil i x hx).2,ZeN]at hb;grind
    ·rw[(hnil i x hx).2]at hb;simp [ZeN]at hb
    grind
   ·simp [Zaa]at h
  simp only[Zae,Zac,Zab,Zaa,and_false,false_or,Vj,Vf]at h;obtain⟨hd,u,hg,⟨rfl,rfl⟩,_⟩:=h
  have hg:0<=n/\n<=m/\m<=Zax:=by
   unfold Zas at hg
   grind
  obtain⟨h0,hnm,hmx⟩:=hg;obtain⟨Et,hu,hEt⟩:=Zar hT ht;obtain⟨ie,z,hie,hsz,hz,hzs,hby,hrows⟩:=Ze4 (w:=w) (g:=g) hT hEt hd;rw[hl]at hlo;rw[hc]at hco;have hmx' :m<=549755813888:=by assumption
  have hrun:=Zh1 (w:=w) (k1:=k1) (k2:=k2) hT hu hEt hie hz hzs ((hT.ty _ _ ht).small _ _ hu hie) h0 hnm hmx';have hlen: (Va n.toNat (zeroEl e)).length=n.toNat:=Vh;refine Zh8 hR (ZdF hk) (w1:=w) (cells:=(Va m.toNat z.cells.toList).flatten.toArray) (T:=Et) (cap:=m.toNat) (css:=Va n.toNat z.cells.toList) (hrows _) ?_ (by omega) ?_ (.refl w) ?_
  ·have:m.toNat=n.toNat+(m.toNat - n.toNat):=by omega
   refine⟨(Va (m.toNat - n.toNat) z.cells.toList).flatten, ?_⟩;rw[<-Vo,List.replicate_append_replicate, <-this]
  ·simp_all
  ·rw[hlen];simp only[execOp,ho,VR.int hlo,VR.int hco,Vd,hrun,Vb,Ve]
 ·simp [Zaa]at h
end ops
end Tr
