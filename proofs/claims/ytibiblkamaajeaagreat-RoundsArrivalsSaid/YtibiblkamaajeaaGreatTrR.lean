/- Rows made new: slice literals, make, append. Conditions: the table of types is the program's. -/
import Derived.Test.YtibiblkamaajeaaGreatTrQa
open Array renaming toList_inj ->Vg,range ->Vi
open Bool renaming or_eq_false_iff ->Vl,not_eq_false' ->Vm,false_eq_true ->Vr
open Go.Instr renaming buildSlice ->Vk,makeSlice ->Vo
open Go.IntKind renaming i64 ->Vu
open List renaming replicate ->Va,length_replicate ->Vf,getElem?_eq_getElem ->Vn,getElem?_eq_none ->Vp,flatten_append ->Vq,flatten_cons ->Vs,size_toArray ->Vt,map_map ->Vv,mem_map ->Vw
open Nat renaming le_refl ->Vj
open Prod.mk renaming injEq ->Vh
open Go.Result renaming andThen_ok ->Vb
open Go.Sem renaming run_bind ->Vd,run_pure ->Ve
open Go.Value renaming slice ->Vc
namespace Tr
open Go
theorem ZeA(z:Array Value): ∀n:Nat,((Vi (n*z.size)).map (z[· % z.size]!)).toList=(Va n z.toList).flatten
 |0=>by simp
 |n+1=>by
  have ih:=ZeA z n;simp only[Array.toList_map,Array.toList_range]at ih ⊢;rw[Nat.add_mul,Nat.one_mul,List.range_add,List.map_append,ih,List.replicate_succ',Vq,Vv];congr 1;simp only[Vs,List.flatten_nil,List.append_nil];apply List.ext_getElem
  ·simp
  ·intro i h1 h2;have hi:i<z.size:=by simpa using h1
   simp only[List.getElem_map,List.getElem_range,Function.comp];rw[Nat.mul_comm,Nat.mul_add_mod,Nat.mod_eq_of_lt hi];simp [hi]
section ops
variable {P:Program}{E:Env}{B:Zcq}{H:AH}{w:World}{g:Gh}{ow:Nat->Nat->Prop}{nid:Nat}{a:Act}{F:Nat->AV}{v:AV}{patch:Zbu}{rd:List Nat}{o:Oper}
theorem ZlJ(hR:RH B H w g ow)(hnk: ¬g.K nid){t:Ty}{T:TypeId}{xs:List (El t)}{css:List (List Value)}{cap:Nat}{cells:Array Value}(hfa:Fa (Rd w g.I t) xs css)
  (hc:css.flatten<+:cells.toList) (hcap:xs.length<=cap) (hsz:cap*t.size<=cells.size) {r:Result Next}{w1:World} (hw1:Zbh w w1)
  (hr:r= .ok (.value (.slice (some ⟨w.heap.size,0,none⟩) xs.length cap)) (w1.alloc (.cells cells T))):Did B (Zca H nid (some (.vec t xs))) w g nid (.vw nid) r:=by
 have hR1:=hR.same hw1;have hsize:w1.heap.size=w.heap.size:=by rw[hw1.heap]
 have key:Did B (Zca H nid (some (.vec t xs))) w1 g nid (.vw nid) r:=by
  refine Did.new' (t:=t) (sv:= .slice (some ⟨w1.heap.size,0,none⟩) xs.length cap) hR1 hnk (hsize▸hr) ?_ ?_
  ·refine⟨by simp [Gh.add], .inr ⟨w1.heap.size,cap,cells,T,css,by simp [Gh.add],rfl,by simp [Gh.add],Zct _ _,hcap,hsz, ?_,hc⟩⟩;refine hfa.mono fun x c hx=> ?_;have:=Zne (x:= .d t x) (cs:=c) hR1 hnk (t:=t) (sv:= .slice (some ⟨w1.heap.size,0,none⟩) xs.length cap) (b:=some w1.heap.size) (ob:= .cells cells T) (by simp only[CV];exact Rd.mono (hw1.agree _) (fun _ h=>h) t x c hx);simpa only[CV] using this
  ·refine Zbj ?_ rfl rfl;simp only[CV];exact⟨.inl rfl,by simp [Gh.add],by simp [Gh.add,Value.oneCell']⟩
 obtain⟨val,w',g',ow',h1,h2,h3,h4,h5,h6⟩:=key;exact⟨val,w',g',ow',h1,h2,h3,fun b hb=>(h4 b hb).trans (by rw[hw1.heap]),h5,h6⟩
theorem Zju{Et:TypeId}{e:Ty}(hT:ZaB P E)(hEt:E.ty Et=some e)(hd:e.data=true): ∃ie z,P.info? Et=some ie/\ie.size=e.size/\ie.zero=some z/\z.cells.size=e.size/\ie.bytes<=4096/\
  ∀n,Fa (Rd w g.I e) (Va n (ZbB e)) (Va n z.cells.toList):=by
 obtain⟨ie,z,hi,hsz,hby,hz,hzok,_⟩:=(hT.ty Et _ hEt).info
 have hzr:Rd w g.I e (ZbB e) z.cells.toList:=by unfold Zfx at hzok;rw[hd]at hzok;exact Zht _ _ hzok
 refine⟨ie,z,hi,hsz,hz, ?_,hby, ?_⟩
 ·have:=Rd.length _ _ _ hzr;simpa using this
 ·intro n
  induction n with
  |zero=>trivial
  |succ n ih=>exact⟨hzr,ih⟩
theorem ZfL(hR:RH B H w g ow){ids:List Nat}{b:Nat}(hb:ZaW H ow ids b): ¬g.I b/\b<w.heap.size/\(B.own0 b\/B.w0.heap.size<=b)/\ ∀id,Zag H (ids.map fun id=>(id,none)) id≠none-> ¬ow id b:=by
 obtain⟨k,h1,h2,h3⟩:=hb;obtain⟨p,q,r⟩:=hR.sep k b h2 h3;refine⟨p,q,r,fun id hid ho=> ?_⟩;rw[ZdW]at hid;split at hid
 ·simp at hid
 ·rename_i hn;exact hn (hR.dist id k b hid h2 ho h3▸h1)
theorem Zg0{w' :World}{J:Nat->Prop}{t:Ty}{xs:List (List (El t))}{val:Value}{r:Result Next}(hR:RH B H w g ow)(hnk: ¬g.K nid)(hheap: ∀k,k<w.heap.size->w'.heap[k]? =w.heap[k]?)(hsz:w.heap.size<=w'.heap.size)(hos:w'.os=w.os)(htape:w'.tape=w.tape)(hout:Zq7 w' w)
  (hr:r= .ok (.value val) w') (hrows:ZcC w' g.I (fun b=>J b\/(w.heap.size<=b/\b<w'.heap.size)) t xs val) (hJ: ∀b,J b-> ¬g.I b/\b<w.heap.size/\(B.own0 b\/B.w0.heap.size<=b)/\ ∀id,H id≠none-> ¬ow id b):Did B (Zca H nid (some (.rows t xs 0 none))) w g nid (.vw nid) r:=by
 obtain⟨b,rr,ho⟩:=hrows.obj nid
 have hval:val.oneCell' =true/\ZaP val=false:=by
  obtain⟨hd,_,h⟩:=hrows
  rcases h with ⟨_,rfl⟩ | ⟨_,_,_,_,_,_,rfl,_⟩<;>exact⟨rfl,rfl⟩
 refine⟨val,w',g.add nid (.sl t) b val rr,ZeV ow nid (fun b=>J b\/(w.heap.size<=b/\b<w'.heap.size)), .inl hr, ?_,Gh.le_add hnk _ _ _ _,fun b hb=>hheap b (hR.ilt b hb), ?_, ?_⟩
 ·refine hR.add hnk hheap hsz hos htape hout (fun k hk=> ?_) ho;rcases hk with hk| ⟨h1,h2⟩
  ·obtain⟨p,q,r,s⟩:=hJ k hk;exact⟨p,by omega,r,s⟩
  ·refine⟨fun hI=>absurd (hR.ilt _ hI) (by omega),h2, .inr (by have:=hR.size;omega),fun id' h3 h4=> ?_⟩;have:=(hR.sep id' _ h3 h4).2.1;omega
 ·refine Zbj ?_ hval.1 rfl;simp only[CV];exact⟨.inl rfl,by simp [Gh.add],by simp [Gh.add,hval.1]⟩
 ·intro id h;rcases h with rfl|h
  ·exact .inr ⟨Vj _,by unfold ZaI;omega⟩
  ·exact .inl h
theorem Zh4(hR:RH B H w g ow)(hF:Fr w g F a.tmps){t:Ty}{ps:List (Nat×Operand)} : ∀ (m n:Nat) (ys:List (List (El t))) (ids l l' :List Nat),(Zfu t (ps.map fun p=>(p.1,aev F p.2)) m n).run H l=some ((ys,ids),l')->ids.Nodup->
  ∃hd:List Value,hd.length=m/\(∀j,j<m->hd[j]? =some (match ps.lookup (n+j) with|some x=>a.eval x|none=> .slice none 0 0))/\RL w g.I (ZaW H ow ids) t hd ys
 |0,n,ys,ids,l,l',h,_=>by
  simp only[Zfu,Zab,Vh]at h;obtain⟨⟨rfl,rfl⟩,_⟩:=h
  exact⟨[],rfl,fun j hj=>by omega,RL.nil⟩
 |m+1,n,ys,ids,l,l',h,hn=>by
  simp only[Zfu,Zav,Zab,Vh]at h;obtain⟨⟨y,i1⟩,m1,h1,⟨ys2,i2⟩,m2,h2,⟨rfl,rfl⟩,_⟩:=h;obtain⟨n1,n2,n3⟩:=List.nodup_append.1 hn;obtain⟨hd,h3,h4,h5⟩:=Zh4 hR hF m (n+1) ys2 i2 _ _ h2 n2;rw[ZcI]at h1
  have hv:VR w g (((ps.lookup n).map (aev F)).getD .nils) (match ps.lookup n with|some x=>a.eval x|none=> .slice none 0 0):=by
   cases ps.lookup n with
   |none=>exact Zbj (by simp only[Option.map_none,Option.getD_none,CV]) rfl rfl
   |some x=>exact hF.eval x
  have hr:=ZeQ hR hv h1
  refine⟨(match ps.lookup n with|some x=>a.eval x|none=> .slice none 0 0)::hd,by simp [h3],fun j hj=> ?_, ?_⟩
  ·cases j with
   |zero=>simp
   |succ j=>
    have:=h4 j (by omega);rw[show n+1+j=n+(j+1) from by omega]at this;simpa using this
  ·have:=(RL.single hr).append h5 (fun c ⟨k,a1,a2,a3⟩ ⟨k',b1,b2,b3⟩=>by have:=hR.dist k k' c a2 b2 a3 b3;subst this;exact n3 k a1 k b1 rfl)
   exact this.mono (fun _ _=>rfl) (fun _ h=>h) (fun b hb=>by
    rcases hb with ⟨k,a1,a2⟩ | ⟨k,a1,a2⟩
    ·exact⟨k,by simp [a1],a2⟩
    ·exact⟨k,by simp [a1],a2⟩) fun _ _ _ _ _=>rfl
theorem ZjT{T:TypeId}{n:Nat}{ps:Array (Nat×Operand)}(hT:ZaB P E)(hR:RH B H w g ow)(hF:Fr w g F a.tmps)(hk: ∀id,g.K id->id<nid\/nid+ZaI<=id)(ho:o.op= .buildSlice T n ps)
  (h: (aop E nid o.op o.type (aev F)).run H []=some ((v,patch),rd)):Did B (Zag H patch) w g nid v ((execOp a.eval o).run P w):=by
 rw[ho]at h;simp only[aop,Zah]at h;obtain⟨t,ht,h⟩:=h;split at h
 ·rename_i e;rw[Zao]at h;rcases h with ⟨_,h⟩ | ⟨_,h⟩
  ·split at h
   ·rename_i e';simp only[Zao,Zav,Zah,Zab,Zaa,and_false,false_or,Vl,Vm,Vh]at h;obtain⟨⟨hp,hbig⟩,⟨ys,ids⟩,m1,hbr,_,hnd,⟨rfl,rfl⟩,_⟩:=h;obtain⟨Et,hu,hEt⟩:=ZaR hT ht;have hzero:=ZnB (hT.ty Et _ hEt) w;obtain⟨hd,hdl,hval,hrl⟩:=Zh4 hR hF n 0 ys ids [] m1 hbr (ZfW.1 (Zbq hnd))
    have hbig' : ¬n* (Ty.sl e').size>2 ^ 24:=by
     intro hb;have:Nat.blt (2 ^ 24) n=true:=by simpa [Nat.blt_eq,Ty.size] using hb
     rw[this]at hbig;cases hbig
    have hkeys:=Zdf hp;have hlens: (Va n [Vc none 0 0]).map List.length=Va n 1:=by simp
    obtain⟨h1,h2⟩:=ZkV (place:=fun i=>some (i* (Ty.sl e').size,(Ty.sl e').size)) (lens:=Va n 1) (by
     intro i hi;simp only[Vf]at hi
     simp [List.take_replicate,Nat.min_eq_left (Nat.le_of_lt hi),Ty.size]) (ps.toList.map fun p=>(p.1,a.eval p.2)) (Va n [Vc none 0 0]) hlens (by
     intro p hp';obtain⟨q,hq,rfl⟩:=Vw.1 hp';have hk:=hkeys.2 q.1 (Vw.2 ⟨q,hq,rfl⟩);refine⟨1,by simp [hk], ?_⟩;have h3:=hval q.1 hk;rw[Nat.zero_add,ZdY hkeys.1 hq]at h3;obtain⟨x,hx⟩: ∃x,ys[q.1]? =some x:=⟨_,Vn (by rw[<-hrl.1,hdl];exact hk)⟩;have h4:=(hrl.row hx).one;have h5:hd.getD q.1 undef=a.eval q.2:=by simp [h3]
     rw[h5]at h4
     cases hv:a.eval q.2<;>rw[hv]at h4<;>simp [ZaP]at h4<;>rfl)
    have hcs: (Zgr (Va n [Vc none 0 0]) (ps.toList.map fun p=>(p.1,a.eval p.2))).flatten=hd:=by
     have:Zgr (Va n [Vc none 0 0]) (ps.toList.map fun p=>(p.1,a.eval p.2))=hd.map fun v=>[v]:=by
      apply List.ext_getElem?;intro j;by_cases hj:j<n
      ·rw[ZfR _ _ (by rw[Vv,Vf];exact hp) j (by simpa using hj),ZcI,List.getElem?_map,hval j hj,Nat.zero_add]
       cases hl:ps.toList.lookup j with
       |none=>simp [hj]
       |some x=>
        simp only[Option.map_some];obtain⟨y,hy⟩: ∃y,ys[j]? =some y:=⟨_,Vn (by rw[<-hrl.1,hdl];exact hj)⟩;have h4:=(hrl.row hy).one;have h5:hd.getD j undef=a.eval x:=by simp [hval j hj,hl]
        rw[h5]at h4;congr 1
        cases hv:a.eval x<;>rw[hv]at h4<;>simp [ZaP]at h4<;>rfl
      ·rw[Vp (by rw[Zcu];simpa using hj),Vp (by simpa [hdl] using hj)]
     rw[this];generalize hd=l
     induction l with
     |nil=>rfl
     |cons x l ih=>show [x]++((l.map fun v=>[v]).flatten)=x::l;rw[ih];rfl
    have hparts: (ps.map fun(i,x)=>(i,a.eval x)).toList=ps.toList.map fun p=>(p.1,a.eval p.2):=by simp
    have h0:=ZeA #[Vc none 0 0] n
    have hrun: (execOp a.eval o).run P w= .ok (.value (.slice (some ⟨w.heap.size,0,none⟩) n n)) (w.alloc (.cells hd.toArray Et)):=by
     rw[hcs]at h1;by_cases hm:n* (Ty.sl e').size=0
     ·have hcells: (Vi (n* (Ty.sl e').size)).map ((#[]:Array Value)[· % (#[]:Array Value).size]!)=(Va n [Vc none 0 0]).flatten.toArray:=by
       rw[hm];have:n=0:=by simpa [Ty.size] using hm
       subst this;simp
      simp only[execOp,ho,Vk,underlying,Vd,run_program,Vb,hu,Ve,(hT.ty _ _ hEt).run_sizeOf,if_neg hbig',if_pos hm,hcells,hparts,h1,newRow,run_newObj];rfl
     ·have hcells: (Vi (n* (Ty.sl e').size)).map ((#[Vc none 0 0]:Array Value)[· % (#[Vc none 0 0]:Array Value).size]!)=(Va n [Vc none 0 0]).flatten.toArray:=by apply Vg.1;exact h0
      simp only[execOp,ho,Vk,underlying,Vd,run_program,Vb,hu,Ve,(hT.ty _ _ hEt).run_sizeOf,if_neg hbig',if_neg hm,hzero,Value.cells,hcells,hparts,h1,newRow,run_newObj];rfl
    have hyl:ys.length=n:=by rw[<-hrl.1,hdl]
    rw[ZaG];refine Zg0 (w' :=w.alloc (.cells hd.toArray Et)) (J:=ZaW H ow ids) (hR.drops ids) (Zho hk) (fun k hk=>Zdu hk) (by show _<=(w.heap.push _).size;simp) rfl rfl ⟨rfl,Vj _⟩ hrun ?_ (fun b hb=>ZfL hR hb);refine⟨hd,hrl.mono (fun b hb=>Zdu (hR.ilt b hb)) (fun _ h=>h) (fun _ h=> .inl h) (fun i x b hx hr=> ?_), .inr ⟨w.heap.size,n,hd.toArray,Et, .inr ⟨Vj _,by show _< (w.heap.push _).size;simp⟩,fun i x hx hr=> ?_,by rw[hyl],Zct _ _,by show ys.length<=n;omega,by simp [hdl],fun i hi=> ?_⟩⟩
    ·obtain⟨k,_,h3,h4⟩:=(hrl.row hx).own hr;exact Zdu (hR.sep k b h3 h4).2.1
    ·obtain⟨k,_,h3,h4⟩:=(hrl.row hx).own hr;have:=(hR.sep k _ h3 h4).2.1;omega
    ·have hi:i<ys.length:=hi;have hi' :i<hd.length:=by omega
     simp [hi']
   ·simp [Zaa]at h
  simp only[Zao,Zav,Zah,Zab,Zaa,and_false,false_or,Vl,Vm,Vh]at h;obtain⟨⟨⟨hp,hd⟩,hbig⟩,⟨qs,ids⟩,m1,hqs,l,hl,ds,m2,hds,⟨rfl,rfl⟩,_⟩:=h;obtain⟨Et,hu,hEt⟩:=ZaR hT ht;have hR0:=hR;have hqf:=Zks (J:=ZaW H ow ids) hR hF _ _ _ _ _ hqs (fun _ h=>h);have hle:=g.le_grow (ZaW H ow ids);rw[ZaG,ZaG];refine Did.after_le hle (fun _ h=>h) (Did.dats hR hds ?_);have hR:=hR.freezeIds (ids:=ids);have hk: ∀id,(g.grow (ZaW H ow ids)).K id->id<nid\/nid+ZaI<=id:=hk;generalize g.grow (ZaW H ow ids)=g at hR hk hqf ⊢;obtain⟨ie,z,hie,hsz,hz,hzs,_,hrows⟩:=Zju (w:=w) (g:=g) hT hEt hd;obtain⟨css',h1,h2⟩:=ZkB (g:=g) hqf hp hl (hrows n)
  have hlen:=(Zdg hl).1
  have hbig' : ¬n*e.size>2 ^ 24:=by
   intro hb;have:Nat.blt (2 ^ 24) (n*e.size)=true:=by simpa [Nat.blt_eq] using hb
   rw[this]at hbig;cases hbig
  refine ZlJ hR (Zho hk) (cells:=css'.flatten.toArray) (T:=Et) (cap:=n) h2 (by simp) (by omega) ?_ (.refl w) ?_
  ·have:=ZaK (Rd.all_length h2);rw[Vt,this, <-h2.length,hlen];exact Vj _
  ·have h0:=ZeA z.cells n;rw[hzs]at h0;have hparts: (ps.map fun(i,x)=>(i,a.eval x)).toList=ps.toList.map fun p=>(p.1,a.eval p.2):=by simp
   have hzero: (zeroValue Et).run P w= .ok z w:=by simp [zeroValue,typeInfo,hie,hz]
   by_cases hm:n*e.size=0
   ·have hcells: (Vi (n*e.size)).map ((#[]:Array Value)[· % (#[]:Array Value).size]!)=(Va n z.cells.toList).flatten.toArray:=by rw[hm]at h0 ⊢;apply Vg.1;simpa using h0
    simp only[execOp,ho,Vk,underlying,Vd,run_program,Vb,hu,Ve,(hT.ty _ _ hEt).run_sizeOf,if_neg hbig',if_pos hm,hcells,hparts,h1,newRow,run_newObj,hlen];rfl
   ·have hcells: (Vi (n*e.size)).map (z.cells[· % z.cells.size]!)=(Va n z.cells.toList).flatten.toArray:=by apply Vg.1;rw[<-h0,hzs]
    simp only[execOp,ho,Vk,underlying,Vd,run_program,Vb,hu,Ve,(hT.ty _ _ hEt).run_sizeOf,if_neg hbig',if_neg hm,hzero,hcells,hparts,h1,newRow,run_newObj,hlen];rfl
 ·simp [Zaa]at h
theorem ZpM{T Et:TypeId}{e:Ty}{k1 k2:IntKind}{n m:Int}{ie:TypeInfo}{z:Value}(hT:ZaB P E)(hu:P.underlying T=some (.slice Et))(hEt:E.ty Et=some e)(hie:P.info? Et=some ie)(hz:ie.zero=some z)(hzs:z.cells.size=e.size)
  (hby:ie.bytes<=256) (h0:0<=n) (hnm:n<=m) (hmx:m<=549755813888):
  (Vo T (.int k1 n) (.int k2 m)).run P w= .ok (.slice (some ⟨w.heap.size,0,none⟩) n.toNat m.toNat) (w.alloc (.cells (Va m.toNat z.cells.toList).flatten.toArray Et)):=by
 have hw64: ∀x:Int,Vu.wrap x=(x+9223372036854775808) % 18446744073709551616 - 9223372036854775808:=fun x=>by simp [IntKind.wrap,IntKind.bits,IntKind.signed];try omega
 have hwn:Vu.wrap n=n:=by rw[hw64];omega
 have hwm:Vu.wrap m=m:=by rw[hw64];omega
 have hbytes: ¬ (281474976710656< (ie.bytes:Int) *m):=by have h1: (ie.bytes:Int) *m<=256*549755813888:=Int.mul_le_mul (by omega) hmx (by omega) (by omega);omega
 have hz0:=ZeA z.cells m.toNat;rw[hzs]at hz0;have hzero: (zeroValue Et).run P w= .ok z w:=by simp [zeroValue,typeInfo,hie,hz]
 have hm0: ¬m<0:=by omega
 have hn0: ¬n<0:=by omega
 have hgt: ¬m<n:=by omega
 have hcond: (decide (m<0) ||decide ((ie.bytes:Int) *m>2 ^ 48) ||decide (n<0) ||decide (n>m))=false:=by simp only[Vl,decide_eq_false_iff_not];exact⟨⟨⟨hm0,by simpa using hbytes⟩,hn0⟩,by omega⟩
 by_cases hm:m.toNat*e.size=0
 ·have hcells: (Vi (m.toNat*e.size)).map ((#[]:Array Value)[· % (#[]:Array Value).size]!)=(Va m.toNat z.cells.toList).flatten.toArray:=by rw[hm]at hz0 ⊢;apply Vg.1;simpa using hz0
  simp only[Vo,Vd,run_underlying hu,asInt,asIntOf,typeInfo,run_program,hie,hwn,hwm,Ve,Vb,hcond,Vr,if_false,(hT.ty _ _ hEt).run_sizeOf,run_askRoom,hm,if_true];rw[hm]at hcells;simp only[Vd,Ve,Vb,hcells,newRow,run_newObj];rfl
 ·have hcells: (Vi (m.toNat*e.size)).map (z.cells[· % z.cells.size]!)=(Va m.toNat z.cells.toList).flatten.toArray:=by apply Vg.1;rw[<-hz0,hzs]
  simp only[Vo,Vd,run_underlying hu,asInt,asIntOf,typeInfo,run_program,hie,hwn,hwm,Ve,Vb,hcond,Vr,if_false,(hT.ty _ _ hEt).run_sizeOf,run_askRoom,if_neg hm,hzero,hcells,newRow,run_newObj];rfl
theorem ZlA{T:TypeId}{lo co:Operand}(hT:ZaB P E)(hR:RH B H w g ow)(hF:Fr w g F a.tmps)(hk: ∀id,g.K id->id<nid\/nid+ZaI<=id)(ho:o.op= .makeSlice T lo co)
  (h: (aop E nid o.op o.type (aev F)).run H []=some ((v,patch),rd)):Did B (Zag H patch) w g nid v ((execOp a.eval o).run P w):=by
 rw[ho]at h;simp only[aop,Zah]at h;obtain⟨t,ht,h⟩:=h;have hlo:=hF.eval lo;have hco:=hF.eval co;split at h
 ·rename_i e k1 n k2 m hl hc
  revert n m
  intro (n:Int) (m:Int) hl hc h;rw[Zao]at h;rcases h with ⟨_,h⟩ | ⟨_,h⟩
  ·split at h
   ·rename_i e';simp only[Zah,Zab,Vh]at h;obtain⟨u,hg,⟨rfl,rfl⟩,_⟩:=h;have hg3:0<=n/\n<=m/\m<=(Zal:Int):=of_decide_eq_true (Zbq hg);obtain⟨h0,hnm,hmx⟩:=hg3;obtain⟨Et,hu,hEt⟩:=ZaR hT ht;obtain⟨ie,z,hie,hsz,hby,hz,hzok,hzag⟩:=(hT.ty Et _ hEt).info
    have hz0:z= .slice none 0 0:=by
     have h1:=ZnB (hT.ty Et _ hEt) w;have h2: (zeroValue Et).run P w= .ok z w:=by simp [zeroValue,typeInfo,hie,hz]
     rw[h2]at h1;cases h1;rfl
    subst hz0;rw[hl]at hlo;rw[hc]at hco;have hmx' :m<=549755813888:=by simpa [Zal] using hmx
    have hrun:=ZpM (w:=w) (k1:=k1) (k2:=k2) hT hu hEt hie hz rfl ((hT.ty _ _ ht).small _ _ hu hie) h0 hnm hmx'
    have hex: (execOp a.eval o).run P w= .ok (.value (.slice (some ⟨w.heap.size,0,none⟩) n.toNat m.toNat)) (w.alloc (.cells (Va m.toNat [Vc none 0 0]).flatten.toArray Et)):=by simp only[execOp,ho,VR.int hlo,VR.int hco,Vd,hrun,Vb,Ve];rfl
    have hfl: ∀q:Nat,(Va q [Vc none 0 0]).flatten=Va q (Vc none 0 0):=fun q=>by
     induction q with
     |zero=>rfl
     |succ q ih=>rw[List.replicate_succ,Vs,ih];rfl
    have hnil: ∀i x,(Va n.toNat ([]:List (El e')))[i]? =some x->x=[]/\(Va n.toNat (Vc none 0 0)).getD i undef= .slice none 0 0:=fun i x hx=>by
     rw[List.getElem?_replicate]at hx;split at hx
     ·rename_i hi;simp at hx;subst hx;exact⟨rfl,by simp [hi]⟩
     ·simp at hx
    refine Zg0 (w' :=w.alloc (.cells (Va m.toNat [Vc none 0 0]).flatten.toArray Et)) (J:=fun _=>False) hR (Zho hk) (fun k hk=>Zdu hk) (by show _<=(w.heap.push _).size;simp) rfl rfl ⟨rfl,Vj _⟩ hex ?_ (fun b hb=>hb.elim);refine⟨Va n.toNat (.slice none 0 0),⟨by simp,⟨fun i x hx _=> ?_,fun i j x y b hx hy _ _ _ hb=> ?_,fun _ _ _ _ _ _=>by simp⟩⟩, .inr ⟨w.heap.size,m.toNat,_,Et, .inr ⟨Vj _,by show _< (w.heap.push _).size;simp⟩,fun i x hx hb=> ?_,by simp,Zct _ _,by simp;omega,by rw[hfl];simp,fun i hi=> ?_⟩⟩
    ·obtain⟨rfl,h2⟩:=hnil i x hx;exact .inl ⟨rfl,h2⟩
    ·simp only[(hnil i x hx).2,Zhs]at hb;cases hb
    ·rw[(hnil i x hx).2]at hb;simp [Zhs]at hb
    ·have hi' :i<n.toNat:=by simpa using hi
     rw[hfl];have:i<m.toNat:=by omega
     simp [hi',this]
   ·simp [Zaa]at h
  simp only[Zao,Zah,Zab,Zaa,and_false,false_or,Vm,Vh]at h;obtain⟨hd,u,hg,⟨rfl,rfl⟩,_⟩:=h
  have hg:0<=n/\n<=m/\m<=Zal:=by
   unfold Zam at hg
   cases hdec:decide (0<=n/\n<=m/\m<=(Zal:Int)) with
   |true=>simpa using hdec
   |false=>rw[hdec]at hg;simp at hg
  obtain⟨h0,hnm,hmx⟩:=hg;obtain⟨Et,hu,hEt⟩:=ZaR hT ht;obtain⟨ie,z,hie,hsz,hz,hzs,hby,hrows⟩:=Zju (w:=w) (g:=g) hT hEt hd;rw[hl]at hlo;rw[hc]at hco;have hmx' :m<=549755813888:=by simpa [Zal] using hmx
  have hrun:=ZpM (w:=w) (k1:=k1) (k2:=k2) hT hu hEt hie hz hzs ((hT.ty _ _ ht).small _ _ hu hie) h0 hnm hmx';have hlen: (Va n.toNat (ZbB e)).length=n.toNat:=Vf;refine ZlJ hR (Zho hk) (w1:=w) (cells:=(Va m.toNat z.cells.toList).flatten.toArray) (T:=Et) (cap:=m.toNat) (css:=Va n.toNat z.cells.toList) (hrows _) ?_ (by rw[hlen];omega) ?_ (.refl w) ?_
  ·have:m.toNat=n.toNat+(m.toNat - n.toNat):=by omega
   refine⟨(Va (m.toNat - n.toNat) z.cells.toList).flatten, ?_⟩;rw[<-Vq,List.replicate_append_replicate, <-this]
  ·have:=ZaK (css:=Va m.toNat z.cells.toList) (n:=e.size) (by intro c hc;rw[(List.mem_replicate.1 hc).2];simpa using hzs);rw[Vt,this,Vf];exact Vj _
  ·rw[hlen];simp only[execOp,ho,VR.int hlo,VR.int hco,Vd,hrun,Vb,Ve]
 ·simp [Zaa]at h
end ops
end Tr
