/- Operations on memory: variables, loads, stores, addresses. Conditions: the table of types is the program's. -/
import Derived.Laws.StructEq
import Derived.ChangeKeysEq
import Derived.Laws.AppendOwn
import Derived.Test.YtdpenljjnfmgiaaGreatETrA
open Array renaming length_toList ->Vv,getElem?_eq_getElem ->Vfa,range ->Vsa,getElem?_setIfInBounds ->Vfb,getElem?_eq_some_iff ->Vkb,toList_inj ->Vsb,toList_map ->Vtb,toList_push ->Vjc,size_append ->Vnc,map_empty ->Vzc
open Bool renaming and_eq_true ->Ve,not_eq_false' ->Vi,false_eq_true ->Vy,or_eq_false_iff ->Vba,not_eq_true' ->Vwa,not_false ->Vhb,eq_iff_iff ->Vwc,and_true ->Vld
open Go.Builtin renaming zeroCells ->Vk,firstCells ->Vq,append_ ->Vt,len_ ->Vdb,nextslicecap ->Vdc,lenOf ->Vnd,min_ ->Vpd,max_ ->Vqd
open Go.Instr renaming checkKey ->Vz,sureAddr ->Vga,mapUpdate ->Vla,sliceBound ->Voa,lookup ->Vua,sliceAt ->Vbb,buildSlice ->Vcb,slice ->Vlb,storeAt ->Vmb,indexAt ->Vnb,findNow ->Vpb,findAsking ->Vrb,makeSlice ->Vzb,sameNow ->Vec,keyThatStays ->Vhc,sliceBounds ->Vkc,fill ->Vbd,makeFunc ->Vdd,fieldAt ->Vhd,findKey ->Vid,makeMap ->Vjd,alloc ->Vtd,index ->Vud
open Int renaming toNat_of_nonneg ->Vpa,mul_le_mul ->Vfd
open Go.IntKind renaming i64 ->Vra,signed ->Ved,wrap ->Vrd,bits ->Vsd
open List renaming replicate ->Vf,length_append ->Vn,map_cons ->Vs,getElem?_eq_some_iff ->Vw,length_replicate ->Vx,getElem?_eq_getElem ->Vaa,ext_getElem? ->Vda,append_assoc ->Vea,length ->Vha,flatten_append ->Vja,drop_eq_getElem_cons ->Vqa,getElem?_cons_succ ->Vva,drop_eq_nil_of_le ->Vxa,take_append_drop ->Vza,getElem_of_mem ->Vgb,getElem?_append_right ->Vjb,flatten_cons ->Vob,all_eq_true ->Vqb,getElem?_cons_zero ->Vub,mem_map ->Vwb,map_map ->Vxb,getElem?_eq_none ->Vbc,mem_range ->Vcc,take_replicate ->Vfc,length_pos_iff ->Vgc,getElem?_set ->Vic,nodup_append ->Vlc,size_toArray ->Vmc,isEmpty_iff ->Voc,cons_append ->Vpc,range'_succ ->Vqc,lookup_cons ->Vtc,isEmpty_nil ->Vvc,forIn_cons ->Vxc,map_append ->Vyc,mem_cons ->Vmd,map_nil ->Vod
open Nat renaming le_refl ->Vg,le_of_ble_eq_true ->Vh,zero_add ->Vp,lt_succ_self ->Via,add_mul ->Vma,add_zero ->Vta,eq_of_beq_eq_true ->Vya,lt_or_ge ->Vvb,min_eq_left ->Vyb,beq_eq ->Vad,mul_le_mul ->Vgd,blt ->Vkd
open Option renaming map_some ->Vl,map_none ->Vm,map_eq_some_iff ->Vr,bind_eq_some_iff ->Vu,getD_some ->Vca,isSome_none ->Vib,bind_none ->Vsc,getD_none ->Vuc,map_map ->Vcd
open Prod renaming fst ->Vka
open Prod.mk renaming injEq ->Vc,inj ->Vo
open Go.Result renaming andThen_ok ->Va
open Go.Sem renaming run_bind ->Vb,run_pure ->Vd,run ->Veb,run_ite ->Vrc
open Go.Value renaming slice ->Vj,oneCell' ->Vna,cells ->Vab
open Go.World renaming cell? ->Vac
section
namespace Tr
open Go
theorem ZaI{a:AV}{t:Ty}(h:a.fits t=true):a≠ .junk/\ ∀l,a≠ .tup l:=by
 constructor
 ·rintro rfl;simp [AV.fits]at h
 ·rintro l rfl;simp [AV.fits]at h
theorem ZdO{a:AV}{t:Ty}(h:a.fits t=true)(b:a.solid=true):a.isAgg=t.agg:=by
 rcases Zqs h with h|⟨n,rfl⟩
 ·exact h
 ·simp [AV.solid]at b
section ops
variable {P:Program}{E:Z3}{B:ZS}{H:AH}{w:World}{g:Gh}{ow:Nat->Nat->Prop}{nid:Nat}{a:Act}{F:Nat->AV}{v:AV}{patch:Kq}{rd:List Nat}{o:Oper}
theorem Zh4{id:Nat}{t:Ty}{b:Nat}{sv:Value} :VR w (g.add id t (some b) sv) (.ptr id []) (.pointer (some ⟨b,0,none⟩)):=by refine Kx ?_ rfl rfl;simp only[CV];exact⟨.inl rfl,0,t,b,by simp [Gh.add,K0],by simp [Gh.add],rfl⟩
theorem Gv(w:World)(o:Obj):(w.alloc o).heap[w.heap.size]? =some o:=by show (w.heap.push o)[w.heap.size]? =_;simp
theorem G0{w:World}{o:Obj}{k:Nat}(h:k<w.heap.size):(w.alloc o).heap[k]? =w.heap[k]? :=by
 show (w.heap.push o)[k]? =_
 grind
theorem Zik(d:RH B H w g ow)(c:¬g.K nid){t:Ty}{sv:Value}{b:Option Nat}{ob:Obj}{x:AV}{cs:List Value}(h:CV w g x cs):CV (w.alloc ob) (g.add nid t b sv) x cs:=
 CV.mono (fun _ e=>G0 (d.ilt _ e)) (Gh.le_add c _ _ _) x cs h
theorem Zni(c:RH B H w g ow)(d:∀id,g.K id->id<nid\/nid+K8<=id){t:Ty}{sv:Value}{b:Option Nat}{ob:Obj}{x:AV}{cs:List Value}(h:CV w g x cs):CV (w.alloc ob) (g.add nid t b sv) x cs:=Zik c (X7 d) h
theorem ZkF(b:RH B H w g ow)(f:∀id,g.K id->id<nid\/nid+K8<=id){t:Ty}{T:TypeId}{c:AV}{cells:Array Value}(e:c.fits t=true)(d:CV w g c cells.toList){r:Result Next}
 (h:r=.ok (.value (.pointer (some ⟨w.heap.size,0,none⟩))) (w.alloc (.cells cells T))):Zo B (ZO H nid (some (.var t c))) w g nid (.ptr nid []) r:=by
 refine Zo.new (t:=t) (sv:=undef) b f h ?_ Zh4;refine⟨by simp [Gh.add],e,w.heap.size,cells,T,by simp [Gh.add],rfl,Gv _ _,?_,Zni b f d⟩;have:=CV.length c t _ e d;omega
theorem ZnD{T:TypeId}(j:ZX P E)(i:RH B H w g ow)(c:∀id,g.K id->id<nid\/nid+K8<=id)(d:o.op=.alloc T)(h:(ZG E nid o.op o.type (Zt F)).run H []=some ((v,patch),rd)):
 Zo B (Zn H patch) w g nid v ((execOp a.eval o).run P w):=by
 rw[d]at h;simp only[ZG]at h;split at h
 ·rename_i e l;simp only[Zd,Vc]at h;obtain⟨⟨rfl,rfl⟩,_⟩:=h;obtain⟨z,f,b⟩:=j.bd T e l;refine Zo.new (t:=.unit) (sv:=undef) (val:=.pointer (some ⟨w.heap.size,0,none⟩)) (o:=.cells z.cells T) i c ?_ ?_ Zh4
  ·simp only[execOp,d,Vtd,Vb,f,Va,newVar,newRow,run_newObj,Vd];rfl
  ·refine⟨w.heap.size,by simp [Gh.add],rfl,.pointer none,.slice none 0 0,.inl rfl,?_,⟨by rfl,by simp⟩,fun k c=>by simp [Value.ownBlock]at c,fun _=>rfl⟩;rw[Gv,b]
 simp only[Zu,Zd,Vc]at h;obtain⟨t,m,⟨rfl,rfl⟩,_⟩:=h;obtain⟨z,f,b⟩:=(j.ty T t m).run_zerox (E.zx T) w;refine ZkF i c (T:=T) (cells:=z.cells) (b w g).2 (b w g).1.1 ?_;simp only[execOp,d,Vtd,Vb,f,Va,newVar,newRow,run_newObj,Vd];rfl
theorem ZnH{T:TypeId}{x:Operand}(d:RH B H w g ow)(hF:Fr w g F a.tmps)(e:∀id,g.K id->id<nid\/nid+K8<=id)(c:o.op=.box T x)
 (h:(ZG E nid o.op o.type (Zt F)).run H []=some ((v,patch),rd)):Zo B (Zn H patch) w g nid v ((execOp a.eval o).run P w):=by
 rw[c]at h;simp only[ZG,Zu,ZD,Zd,Zb,ZJ,ZY,Vc]at h;obtain⟨t,i,b,⟨rfl,rfl⟩,_⟩:=h;have f:=(hF.eval x).to1 (ZaI b).2;refine ZkF d e (T:=T) (cells:=(a.eval x).cells) b f.1 ?_;simp only[execOp,c,Instr.box,Vb,Va,newVar,newRow,run_newObj,Vd];rfl
theorem ZmB{t:Ty}{xs:List (El t)}{id:Nat}{J:Nat->Prop}(h:ORel w g J id (.vec t xs)){i:Nat}{x:El t}(k:xs[i]? =some x):
 ∃b cap cs e css c,g.ty id=t/\g.blk id=some b/\J b/\g.slv id=.slice (some ⟨b,0,none⟩) xs.length cap/\w.heap[b]? =some (.cells cs e (0,0))/\xs.length<=cap/\cap*t.size<=cs.size/\
  Fa (Rd w g.I t) xs css/\css[i]? =some c/\Rd w g.I t x c/\ ∃r,cs.toList=(css.take i).flatten++c++((css.drop (i+1)).flatten++r)/\(css.take i).flatten.length=i*t.size/\
   ∀c',(css.set i c').flatten++r=(css.take i).flatten++c' ++((css.drop (i+1)).flatten++r):=by
 obtain⟨j,h⟩:=h;rcases h with ⟨rfl,_⟩|⟨b,cap,cs,e,css,m,n,p,q,s,u,d,r,y⟩
 ·grind
 ·obtain⟨c,f,l⟩:=d.get i x k;obtain⟨z,A,C⟩:=DQ f t.size (Rd.all_length d)
  grind
theorem _root_.Tr.ORel.fndVar{w:World}{g:Gh}{J:Nat->Prop}{id:Nat}{tn tq lt lb:Ty}{x:ZH tn tq lt lb}(h:ORel w g J id (.fnd tn tq lt lb x)):ORel w g J id (.var (g.ty id) (ZbY tn tq lt x)):=by
 obtain⟨f,b,u,y,M,G,K,L,_,_,_,_,cells,e,s,t,c3,r,m,i,z,n,p,q,c,j,k,l⟩:=h
 have d:(g.ty id).size=tn.size+(tq.size+(lt.size+3))/\(ZbY tn tq lt x).fits (g.ty id)=true:=by
  rcases f with f|f
  all_goals rw[f];exact⟨by simp [WX,XQ,Ty.size],by simp [ZbY,WX,XQ,AV.fits,Zl.fits,Ty.size]⟩
 refine⟨rfl,d.2,b,cells,e,u,y,z,?_,?_⟩
 ·have:=congrArg Vha n;simp only[Vv,Vn,List.length_cons,List.length_nil,Rd.length _ _ _ p,Rd.length _ _ _ q,Rd.length _ _ _ c]at this;rw[this,d.1]
 ·rw[n];simp only[ZbY,CV,Z2]
  have A:r.oneCell' =true:=by
   obtain⟨N,_,h|⟨b,cap,cs,e,_,_,h,_⟩⟩:=j
   ·rw[h.2];rfl
   ·rw[h];rfl
  have C:m.oneCell' =true:=by
   rcases k with h|⟨b,off,cap,cs,e,_,h,_⟩
   ·rw[h.2];rfl
   ·rw[h];rfl
  have D:i.oneCell' =true:=by
   rcases l with h|⟨b,cap,cs,e,_,h,_⟩
   ·rw[h.2];rfl
   ·rw[h];rfl
  exact⟨s,_,rfl,p,t,_,rfl,q,c3,_,rfl,c,[r],[m,i],rfl,⟨rfl,by simpa using A⟩,[m],[i],rfl,⟨rfl,by simpa using C⟩,[i],[],rfl,⟨rfl,by simpa using D⟩,rfl⟩
theorem Zir{T:TypeId}{x:Operand}(hT:ZX P E)(W:RH B H w g ow)(hF:Fr w g F a.tmps)(ho:o.op=.load T x)
 (h:(ZG E nid o.op o.type (Zt F)).run H []=some ((v,patch),rd)):Zo B (Zn H patch) w g nid v ((execOp a.eval o).run P w):=by
 rw[ho]at h;simp only[ZG,Zu]at h;obtain⟨t,ht,h⟩:=h;have Y:=hF.eval x
 have fin:∀{b off:Nat}{c:List Value},a.eval x=.pointer (some ⟨b,off,none⟩)->YH w b off c->CV w g v c->v.fits t=true->v.solid=true->patch=[]->Zo B (Zn H patch) w g nid v ((execOp a.eval o).run P w):=by intro b off c he hc a2 S hs hp;subst hp;obtain⟨n,V⟩:=Zbt a2 S (ZdO S hs);refine Zo.pure W ?_ (VR.of1 n);simp only[execOp,ho,he,Instr.loadAt,Vga,Vb,Vd,Va,Zhn (hT.ty T t ht) hc (CV.length v t c S a2) V]
 split at h
 ·rename_i t' y L;simp only[ZD,Zd,Zb,ZJ,ZY,Kd,Vc]at h;obtain⟨rfl,⟨rfl,rfl⟩,_⟩:=h;obtain⟨b,off,c,n,V,l,G⟩:=(L▸Y).dp;exact fin n l.at (by assumption) (by simp [AV.fits]) rfl rfl
 ·rename_i id p L;rw[ZN]at h;split at h
  ·rename_i t0 c R;simp only[ZQ,ZD,Zd,Zb,ZJ,ZY,Vc,Ve]at h;obtain⟨v',m,n,⟨V,Q⟩,⟨rfl,rfl⟩,_⟩:=h;obtain⟨X,o',t1,b,l,G,K⟩:=(L▸Y).ptr;obtain⟨_,d,S,b',cs,e,J,Z,h8,h9,O⟩:=W.objs id _ R;obtain⟨_,t2,N,⟨o2,pre,post,f,s,z⟩,a5,A⟩:=ZdT n S O;rw[d,f]at l;obtain⟨rfl,rfl⟩:=Vo (Option.some.inj l);rw[G]at J;cases J;refine fin K ?_ A V Q rfl;rw[<-z];exact YH.of_heap h8 s
  ·rename_i tn tq lt lb c R;simp only[ZQ,ZD,Zd,Zb,ZJ,ZY,Vc,Ve]at h;obtain⟨v',m,n,⟨V,Q⟩,⟨rfl,rfl⟩,_⟩:=h;obtain⟨X,o',t1,b,l,G,K⟩:=(L▸Y).ptr;obtain⟨d,S,b',cs,e,J,Z,h8,h9,O⟩:=ORel.fndVar (W.objs id _ R).2;obtain⟨_,t2,N,⟨o2,pre,post,f,s,z⟩,a5,A⟩:=ZdT n S O;rw[f]at l;obtain⟨rfl,rfl⟩:=Vo (Option.some.inj l);rw[G]at J;cases J;refine fin K ?_ A V Q rfl;rw[<-z];exact YH.of_heap h8 s
  ·simp [Zb]at h
 ·rename_i id i p L;rw[ZN]at h;split at h
  ·rename_i t0 xs R;simp only[Zu,ZQ,ZD,Zd,Zb,ZJ,ZY,Kd,Vc]at h;obtain⟨x',D,y,m,n,rfl,⟨rfl,rfl⟩,_⟩:=h;obtain⟨X,o',t1,b,l,G,K⟩:=(L▸Y).vp;obtain⟨_,hO⟩:=W.objs id _ R;obtain⟨b',cap,cs,e,q,c,d,hb,hJ,a9,hh,hl,M,a7,a6,U,r,a1,a3,_⟩:=ZmB hO D;obtain⟨_,N,⟨o2,pre,post,f,s,z⟩,A⟩:=ZdU p t0 x' _ _ y c n U;rw[d,f]at l;obtain⟨rfl,rfl⟩:=Vo (Option.some.inj l);rw[G]at hb;cases hb;refine fin K (c:=N) ?_ (by assumption) (by simp [AV.fits]) rfl rfl;have:cs.toList=((q.take i).flatten++pre)++N++(post++((q.drop (i+1)).flatten++r)):=by grind
   have:=YH.of_heap hh this
   grind
  ·rename_i t0 xs u R;simp only[Zu,ZD,Zd,Zb,ZJ,ZY,Kd,Vc,Ve,Voc]at h;obtain⟨⟨rfl,rfl⟩,x',D,⟨rfl,rfl⟩,_⟩:=h;obtain⟨X,o',t1,b,l,G,K⟩:=(L▸Y).vp;rw[K0]at l;obtain⟨rfl,rfl⟩:=Vo (Option.some.inj l);obtain⟨_,d,C,a8,hO⟩:=W.objs id _ R;rcases hO with ⟨rfl,_⟩|⟨b',cap,cs,e,hb,hJ,a9,hh,hl,M,a1⟩
   ·grind
   ·rw[G]at hb;cases hb;have hi:i<xs.length:=by grind
    have n:=a8.rd i x' D (by simp);refine fin K (c:=[g.row id (.int .i64) (i:Int)]) ?_ ?_ rfl rfl rfl
    ·rw[d];intro j v hj
     cases j with
     |zero=>
      simp only[Vub,Option.some.injEq]at hj;subst hj;simp only[Ty.size,Nat.mul_one,Vta,Vac,hh]
      grind
     |succ j=>grind
    ·simp only[CV];exact⟨X,Nat.le_of_eq C.symm,_,rfl,n.one.1,fun _=>rfl⟩
  ·simp [Zb]at h
 ·rename_i id ver kt k i p L;simp only[Zu,ZQ,ZD,Zd,Zb,ZJ,ZY,Kd,Vc]at h;obtain⟨r,m1,a0,x',D,y,m,n,rfl,⟨rfl,rfl⟩,_⟩:=h;obtain⟨X,hv,ad,l,G⟩:=(L▸Y).np;obtain⟨b1,d,C,a4⟩:=Zc1 W X a0;obtain⟨b,len,cap,o',t1,K,J,Z⟩:=G C;obtain⟨b',b0,cs,e,q,c,hd,hJ,hh,hl,M,a7,a6,U,r',a1,a3,_⟩:=ZlF a4 D;rw[K]at hd;simp only[Vj.injEq,Option.some.injEq,Addr.mk.injEq,and_true]at hd;obtain⟨rfl,_,_⟩:=hd;obtain⟨_,N,⟨o2,pre,post,f,s,z⟩,A⟩:=ZdU p r.1 x' _ _ y c n U;rw[d]at J Z;simp only[Db]at J Z;rw[f]at J;obtain⟨rfl,rfl⟩:=Vo (Option.some.inj J);subst Z;refine fin l (c:=N) ?_ (by assumption) (by simp [AV.fits]) rfl rfl;have:cs.toList=((q.take i).flatten++pre)++N++(post++((q.drop (i+1)).flatten++r')):=by grind
  have:=YH.of_heap hh this
  grind
 ·simp [Zb]at h
theorem Zcx{T:TypeId}{t:Ty}(k:W3 P E.ty T t){b:Nat}{cs:Array Value}{e:TypeId}{pre c post d:List Value}{val:Value}(m:w.heap[b]? =some (.cells cs e (0,0)))
 (h:cs.toList=pre++c++post) (l:val.cells.toList=d) (p:c.length=d.length) (n:d.length=t.size) (j:∀v∈d,v.oneCell' =true):
 (storeVar T ⟨b,pre.length,none⟩ val).run P w=.ok () (w.setRow b (pre++d++post).toArray):=by
 have f:val.cells.size=t.size:=by grind
 have i:cs.size=pre.length+c.length+post.length:=by rw[<-Vv,h];grind
 simp only[storeVar,Vb,k.run_sizeOf,Va,f,ne_eq,not_true_eq_false,if_false,l];rw[run_storeCells_at P b pre.length e d 0 cs w m (by omega) j]
 grind
theorem Dp{b:Nat}{cs cs' :Array Value}{e:TypeId}(c:w.heap[b]? =some (.cells cs e (0,0))):(w.setRow b cs').heap[b]? =some (.cells cs' e (0,0)):=setRow_heap w b cs cs' e (0,0) c
theorem Zo.write{id b:Nat}{h:KO}{cs' :Array Value}{r:Result Next}(d:RH B H w g ow)(c:H id≠none)(e:ow id b)(j:r=.ok .skip (w.setRow b cs'))
 (i:ORel (w.setRow b cs') g (ow id) id h):Zo B (ZO H id (some h)) w g nid .junk r:=by
 have l:=d.sep id b c e;refine⟨undef,w.setRow b cs',g,ow,by grind,d.write c e (fun k f=>setRow_other w b k cs' f) (by simp) rfl rfl ⟨rfl,Vg _⟩ i,.refl g,?_,Hb,by grind⟩;intro k f;exact setRow_other w b k cs' (by grind)
theorem Zc6{id b:Nat}{cs' :Array Value}(d:RH B H w g ow)(c:H id≠none)(f:ow id b):Kf g.I w (w.setRow b cs'):=fun k h=>
 setRow_other w b k cs' (fun e=>(d.sep id b c f).1 (e▸h))
theorem ZtT{t0:Ty}{xs:List (List (El t0))}{u:Nat}{hole:Option Nat}{id i:Nat}{y:AV}{val:Value}{ys:List (El t0)}{ids l l' :List Nat}{x' :List (El t0)}{r:Result Next}(z:RH B H w g ow)(hH:H id=some (.rows t0 xs u hole))
 (R:DS hole i=true) (hu:u<nid) (b4:xs[i]? =some x') (K:VR w g y val) (t:(Jb t0 y).run H l=some ((ys,ids),l'))
 (W:∀b cap cs e,g.blk id=some b->g.slv id=.slice (some ⟨b,0,none⟩) xs.length cap->w.heap[b]? =some (.cells cs e (0,0))->i<cs.size->r=.ok .skip (w.setRow b (cs.toList.set i val).toArray)):
 Zo B (Zn H (ids.map (fun id=>(id,none))++[(id,some (.rows t0 (xs.set i ys) nid none))])) w g nid .junk r:=by
 have D:=Zcn z K t;obtain⟨hK,a8,b0,N,hO⟩:=z.objs id _ hH
 have s:∀k,Zn H (ids.map fun id=>(id,none)) k≠none->k ∉ ids/\H k≠none:=by
  intro k G;rw[Da]at G
  grind
 have S:id ∉ ids:=fun hm=>by
  rcases Zcm z K t with ⟨rfl,_⟩|⟨b5,rfl,_,_⟩
  ·grind
  ·simp only[List.mem_singleton]at hm;subst hm;unfold Jb at t;split at t
   ·rename_i k;rw[ZN]at t;split at t
    ·rename_i a2;simp only[Zu,Zd,Vc,List.cons.injEq,and_true]at t
     grind
    ·simp [Zb]at t
   ·rename_i k n;rw[ZN]at t;split at t
    ·rename_i a2;simp only[Zu,Zd,Vc,List.cons.injEq,and_true]at t
     grind
    ·simp [Zb]at t
   ·simp only[Zd,Vc]at t
    grind
   ·simp [Zb]at t
 rcases hO with ⟨rfl,_⟩|⟨b,cap,cs,e,hb,Z,a7,hh,hl,a9,b1⟩
 ·grind
 ·have b2:i<xs.length:=by grind
  have A:H id≠none:=by grind
  have W:=W b cap cs e hb a7 hh (by omega);have b3:=z.sep id b A Z;have a0:RH B (Zn H (ids.map fun id=>(id,none))) w g ow:=z.drops ids;rw[J2];have m:∀k,k≠b->(w.setRow b (cs.toList.set i val).toArray).heap[k]? =w.heap[k]? :=fun k G=>setRow_other w b k _ G;have M:Kf g.I w (w.setRow b (cs.toList.set i val).toArray):=fun k G=>by grind
  have a5:∀d,K2 val=some d->ZF H ow ids d:=fun d c=>D.own c
  have a3:∀d,ZF H ow ids d->d≠b/\ ¬ow id d:=fun d ⟨k,O,L,V⟩=>by
   have J:¬ow id d:=fun Q=>S (z.dist id k d A L Q V▸O)
   grind
  let f:(U:Ty)->El U->Value:=fun U k=>if h:U=.int .i64 then(if (h▸k:El (.int .i64))=(i:Int) then val else g.row id U k) else g.row id U k
  have a6:∀j:Nat,j≠i->f (.int .i64) (j:Int)=g.row id (.int .i64) (j:Int):=by grind
  have C:f (.int .i64) (i:Int)=val:=by grind
  refine⟨undef,w.setRow b (cs.toList.set i val).toArray,g.bump id nid f,JU ow id (fun d=>ow id d\/ZF H ow ids d),by grind,?_,Gh.le_bump (by omega),M,Hb,fun _ h=>.inl h⟩;refine a0.bump (id:=id) (v:=nid) hK (by omega) (fun d c=>?_) (by simp) rfl rfl ⟨rfl,Vg _⟩ (fun d O L=>m d fun e=>?_) (fun d c=>?_) ?_
  ·rcases c with c|⟨k,G,O,L⟩
   ·grind
   ·refine m d fun e=>G ?_;subst e;exact(z.dist id k d A (s k O).2 Z L).symm
  ·grind
  ·rw[size_setRow];rcases c with c|⟨k,O,L,V⟩
   ·obtain⟨p,q,r⟩:=z.sep id d A c;exact⟨p,q,r,fun k G Q Y=>G (z.dist k id d (s k Q).2 A Y c)⟩
   ·obtain⟨p,q,r⟩:=z.sep k d L V;refine⟨p,q,r,fun k' G Q Y=>(s k' Q).1 ?_⟩;have:=z.dist k' k d (by grind) L Y V
    grind
  ·refine⟨a8,Zr rfl,?_,.inr ⟨b,cap,(cs.toList.set i val).toArray,e,hb,.inl Z,by show g.slv id=_;grind,setRow_heap w b cs _ e (0,0) hh,by grind,by grind,fun j T=>?_⟩⟩
   ·show RF _ g.I _ t0 (g.blk id) (fun j:Nat=>(if id=id then f else g.row id) (.int .i64) (j:Int)) _ none
    rw[Zr rfl];refine N.put (k0:=i) (x0:=ys) (by omega) (fun j x X=>?_) ?_ ?_ (fun j x X T W=>?_) fun d c=>?_
    ·grind
    ·cases hole with
     |none=>simp
     |some j=>exact .inr (by rw[Vya R])
    ·show K7 _ _ _ _ _ (f (.int .i64) (i:Int));rw[C];exact D.mono M (by simp) (by grind) (by grind)
    ·refine W.mono M (by simp) (by grind) fun d c h=>m d fun e=>?_
     have J:hole≠some j:=fun e=>by rw[e]at R;exact T (Vya R)
     exact N.tp j x d X J c (e▸hb)
    ·have c:K2 (f (.int .i64) (i:Int))=some d:=c;rw[C]at c;have a4:=a3 d (a5 d c);refine⟨fun j x X T a1=>a4.2 ?_,by grind⟩
     have J:hole≠some j:=fun e=>by rw[e]at R;exact T (Vya R)
     exact(N.rd j x X J).own a1
   ·have T:j<xs.length:=by grind
    show _=some ((if id=id then f else g.row id) (.int .i64) (j:Int))
    rw[Zr rfl];simp only[List.getElem?_toArray,Vic]
    grind
theorem Ztw{w' :World}{id ver:Nat}{G:Ty}{k:El G}{r:(t:Ty) ×List (El t)}{row:List (El r.1)}{o' :KO}{l l' l2 b3:List Nat}{b i:Nat}(hR:RH B H w g ow)(c:(XZ id ver G k).run H l=some (r,l'))
 (f:(Zfo id G k r.1 row).run H l2=some (o',b3)) (T:K2 (g.row id G k)=some b) (a9:i<r.2.length) (K:K7 w' g.I (ow id) r.1 row (g.row id G k)) (n:∀k,k≠b->w'.heap[k]? =w.heap[k]?):ORel w' g (ow id) id o' :=by
 have R:H id≠none:=by
  simp only[XZ]at c;rw[ZN]at c;split at c
  ·grind
  ·grind
  ·simp [Zb]at c
 have b0:ow id b:=K.own T;have N:Kf g.I w w' :=fun k hk=>n k fun e=>(hR.sep id b R b0).1 (e▸hk);simp only[XZ]at c;rw[ZN]at c;simp only[Zfo]at f;rw[ZN]at f;split at c
 ·rename_i t xs u V;rw[V]at f;simp only[ZD,Zu,Zd,Zb,ZJ,ZY]at c f;obtain⟨hu,i',a2,x,p,rfl,_⟩:=c;obtain⟨L,a3,y,hy,rfl,_⟩:=f;obtain⟨rfl,rfl⟩:=Kv a2;have:=Zdh a3;subst this;obtain⟨_,rfl⟩:=DK hy;obtain⟨_,S,A,h,hO⟩:=hR.objs id _ V;unfold idx at p;split at p
  ·rename_i h0;have D:=p;have b7:L.toNat<xs.length:=by grind
   have e1:((L.toNat:Nat):Int)=L:=Vpa h0;refine⟨S,A,h.put (k0:=L.toNat) (x0:=y) (by simp) (fun j x p=>?_) (.inl rfl) (by grind) (fun j x p Q hr=>?_) (fun J q=>?_),?_⟩
   ·grind
   ·refine hr.mono N (by simp) (by simp) fun J q _=>n J fun e=>?_;subst e;exact h.ds j L.toNat x _ J p D Q (by simp) (by simp) q (by grind)
   ·simp only[e1]at q;rw[T]at q;cases q;exact⟨fun j x p Q O=>h.ds j L.toNat x _ b p D Q (by simp) (by simp) O (by grind),h.tp L.toNat _ b D (by simp) (by grind)⟩
   ·rcases hO with ⟨rfl,_⟩|⟨J,cap,cs,e,Y,h2,h3,Z,h5,h6,h7⟩
    ·grind
    ·refine .inr ⟨J,cap,cs,e,Y,h2,by grind,(n J fun e=>?_).trans Z,by grind,h6,by grind⟩;exact h.tp L.toNat _ b D (by simp) (by grind) (e▸Y)
  grind
 ·rename_i b8 t m u V;rw[V]at f;simp only[ZD,Zu,Zd,Zb,ZJ,ZY,Ve]at c f;obtain⟨⟨hu,a8⟩,k',a5,rfl,_⟩:=c;obtain⟨M,a6,y,hy,rfl,_⟩:=f;obtain⟨rfl,rfl⟩:=Kv a5;have:=Zdh a6;subst this;obtain⟨_,rfl⟩:=DK hy;obtain⟨_,S,A,h,X,b4,J,es,clock,Y,h2,h3,Z⟩:=hR.objs id _ V;have s:=Df a8;simp only at a9
  cases hg:ZK (Zj G) M m with
  |none=>grind
  |some x0=>
   have z:=Zc8 s hg;have a4:M∈m.map Vka:=by grind
   have a7:=(DF s (v:=y)).1 a4;have b1:=h.tp M x0 b z (by simp) T;refine⟨S,A,h.put (k0:=M) (x0:=y) (by simp) (fun j x p=>Zd7 s X p) (.inl rfl) K (fun j x p Q hr=>?_) (fun b2 C=>?_),Zft s X,by grind,J,es,clock,Y,h2,by grind,Z.1,?_⟩
   ·refine hr.mono N (by simp) (by simp) fun b2 C _=>n b2 fun e=>?_;subst e;exact h.ds j M x _ b2 p z Q (by simp) (by simp) C T
   ·rw[T]at C;cases C;exact⟨fun j x p Q O=>h.ds j M x _ b p z Q (by simp) (by simp) O T,b1⟩
   ·rw[DE];have U:=Z.2.mono fun kv e p=>(⟨p.1.mono N (.refl g),p.2⟩:Ki w' g (.d G kv.1) e.key/\e.val=g.row id G kv.1)
    cases W:WJ (Zj G) M m with
    |none=>
     rw[G1,W]at hg;grind
    |some j=>
     simp only;obtain⟨e1,a0,a1⟩:=DD _ _ _ _ W;obtain⟨en,b6,hp⟩:=U.get j e1 a0;have b5:=(JA s).1 a1;have:=U.set j (a:=(M,y)) (b:=en) (by grind)
     have e5:es.toList.set j en=es.toList:=by
      apply Vda
      grind
     grind
 ·simp [Zb]at c
theorem Zn8{T:TypeId}{x y:Operand}(hT:ZX P E)(A:RH B H w g ow)(hF:Fr w g F a.tmps)(ho:o.op=.store T x y)
 (h:(ZG E nid o.op o.type (Zt F)).run H []=some ((v,patch),rd)):Zo B (Zn H patch) w g nid v ((execOp a.eval o).run P w):=by
 rw[ho]at h;simp only[ZG,Zu,ZD,Zb,ZJ,ZY]at h;obtain⟨t,ht,hf,h⟩:=h;have Z:=hF.eval x;have hy:=(hF.eval y).to1 (ZaI hf).2;have O:=CV.oneCell _ _ (ZaI hf).1 hy.1 t hf;have N:=CV.length _ t _ hf hy.1;split at h
 ·rename_i id p C;rw[ZN]at h;split at h
  ·rename_i t0 c hH;simp only[ZQ,Zd,Vc]at h;obtain⟨c',m,h1,⟨rfl,rfl⟩,_⟩:=h;obtain⟨hk,o',t1,b,Q,R,V⟩:=(C▸Z).ptr;obtain⟨_,n,b5,b',cs,e,h6,h7,h8,h9,b1⟩:=A.objs id _ hH;obtain⟨_,o2,pre,c1,post,t2,⟨D,z,G,J⟩,K,b2⟩:=ZlR h1 b5 b1 hy.1 (by omega);rw[n,D]at Q;obtain⟨rfl,rfl⟩:=Vo (Option.some.inj Q);rw[R]at h6;cases h6;subst G;have j:=Zc6 (cs' :=(pre++(a.eval y).cells.toList++post).toArray) A (by grind) h7;refine Zo.write A (by grind) h7 (cs' :=(pre++(a.eval y).cells.toList++post).toArray) ?_ ?_
   ·simp only[execOp,ho,V,Vmb,Vga,Vb,Vd,Va,Zcx (hT.ty T t ht) h8 z rfl J N O]
   ·refine⟨n,K,b,_,e,R,h7,Dp h8,?_,?_⟩
    ·have:cs.size=pre.length+c1.length+post.length:=by rw[<-Vv,z];grind
     grind
    ·simpa using CV.mono j (.refl g) _ _ b2
  ·simp [Zb]at h
 ·rename_i id i p C;rw[ZN]at h;split at h
  ·rename_i t0 xs hH;simp only[Zu,ZQ,Zd,Vc]at h;obtain⟨e0,U,dv,L,e',m,h1,⟨rfl,rfl⟩,_⟩:=h
   have a0:Zt F y=.d dv.1 dv.2:=by
    cases M:Zt F y<;>rw[M]at L<;>simp [AV.dv?]at L
    grind
   rw[a0]at hy hf;obtain⟨hk,o',t1,b,Q,R,V⟩:=(C▸Z).vp;obtain⟨_,hO⟩:=A.objs id _ hH;obtain⟨b',cap,cs,e,f,c,n,hb,hJ,b8,M,hl,a6,a1,b3,a4,r,b4,a3,Y⟩:=ZmB hO U;obtain⟨_,o2,pre,c1,post,D,z,G,J,K⟩:=Zez p t0 e0 _ _ dv e' c _ h1 a4 (by simpa only[CV] using hy.1);rw[n,D]at Q;obtain⟨rfl,rfl⟩:=Vo (Option.some.inj Q);rw[R]at hb;cases hb;subst G;have l:cs.toList=((f.take i).flatten++pre)++c1++(post++((f.drop (i+1)).flatten++r)):=by grind
   have j:=Zc6 (cs' :=(((f.take i).flatten++pre)++(a.eval y).cells.toList++(post++((f.drop (i+1)).flatten++r))).toArray) A (by grind) hJ;refine Zo.write A (by grind) hJ (cs' :=(((f.take i).flatten++pre)++(a.eval y).cells.toList++(post++((f.drop (i+1)).flatten++r))).toArray) ?_ ?_
   ·have q:i* (g.ty id).size+pre.length=((f.take i).flatten++pre).length:=by grind
    simp only[execOp,ho,V,Vmb,Vga,Vb,Vd,Va,q,Zcx (hT.ty T t ht) M l rfl J N O]
   ·have a2:(f.set i (pre++(a.eval y).cells.toList++post)).flatten++r=((f.take i).flatten++pre)++(a.eval y).cells.toList++(post++((f.drop (i+1)).flatten++r)):=by grind
    refine⟨n,.inr ⟨b,cap,_,e,f.set i (pre++(a.eval y).cells.toList++post),R,hJ,by grind,Dp M,by grind,?_,?_,r,?_⟩⟩
    ·have:cs.size=((f.take i).flatten++pre).length+c1.length+(post++((f.drop (i+1)).flatten++r)).length:=by rw[<-Vv,l];grind
     grind
    ·exact(a1.set i K).mono fun x c Z=>Rd.mono j (by simp) t0 x c Z
    omega
  ·rename_i t0 xs u c4 hH;simp only[Zu,ZD,ZQ,Zd,Zb,ZJ,ZY,Kd,Vc,Ve,Voc]at h;obtain⟨⟨⟨rfl,rfl⟩,b6⟩,uu,s,x',b9,⟨ys,ids⟩,m,X,⟨rfl,rfl⟩,_⟩:=h;have s:=X9 s;obtain⟨hk,o',t1,b,Q,R,V⟩:=(C▸Z).vp;rw[K0]at Q;obtain⟨rfl,rfl⟩:=Vo (Option.some.inj Q);refine ZtT A hH s (Vh b6) b9 (hF.eval y) X fun b' cap cs e hb b8 M hi=>?_;rw[R]at hb;cases hb;obtain⟨_,n,_⟩:=A.objs id _ hH;have j:Z8 (a.eval y)=false:=(Zcn A (hF.eval y) X).one.2
   have S:(a.eval y).cells.toList=[a.eval y]:=by
    cases hv:a.eval y<;>rw[hv]at j<;>simp [Z8]at j<;>rfl
   have hl:i<cs.toList.length:=by omega
   have z:cs.toList=cs.toList.take i++[cs.toList[i]]++cs.toList.drop (i+1):=by rw[Vea,List.singleton_append, <-Vqa hl,Vza]
   have c5:(cs.toList.take i).length=i:=by grind
   have a5:i* (g.ty id).size+0=(cs.toList.take i).length:=by grind
   have:=Zcx (hT.ty T _ ht) M z (d:=[a.eval y]) S rfl rfl (by grind);simp only[execOp,ho,V,Vmb,Vga,Vb,Vd,Va,a5,this]
   grind
  ·simp [Zb]at h
 ·rename_i id ver kt k i p C;simp only[Zu,ZQ,Zd,Vc]at h;obtain⟨r,m1,W,e0,U,dv,L,e',m2,h1,o',m3,Y,⟨rfl,rfl⟩,_⟩:=h
  have a0:Zt F y=.d dv.1 dv.2:=by
   cases M:Zt F y<;>rw[M]at L<;>simp [AV.dv?]at L
   grind
  rw[a0]at hy hf;obtain⟨hk,hv,ad,Q,R⟩:=(C▸Z).np;obtain⟨a7,n,b0,a9⟩:=Zc1 A hk W;obtain⟨b,len,cap,o2,t1,V,h6,h7⟩:=R b0;obtain⟨b',c2,cs,e,f,c,hd,hJ,M,hl,a6,a1,b3,a4,r',b4,a3,b7⟩:=ZlF a9 U;rw[V]at hd;simp only[Vj.injEq,Option.some.injEq,Addr.mk.injEq,and_true]at hd;obtain⟨rfl,rfl,rfl⟩:=hd;obtain⟨_,o3,pre,c1,post,D,z,G,J,K⟩:=Zez p r.1 e0 _ _ dv e' c _ h1 a4 (by simpa only[CV] using hy.1);rw[n]at h6 h7;simp only[Db]at h6 h7;rw[D]at h6;obtain⟨rfl,rfl⟩:=Vo (Option.some.inj h6);subst G;subst h7;have l:cs.toList=((f.take i).flatten++pre)++c1++(post++((f.drop (i+1)).flatten++r')):=by grind
  have j:=Zc6 (cs' :=(((f.take i).flatten++pre)++(a.eval y).cells.toList++(post++((f.drop (i+1)).flatten++r'))).toArray) A a7 hJ;have a2:(f.set i (pre++(a.eval y).cells.toList++post)).flatten++r' =((f.take i).flatten++pre)++(a.eval y).cells.toList++(post++((f.drop (i+1)).flatten++r')):=by grind
  have a8:K7 (w.setRow b (((f.take i).flatten++pre)++(a.eval y).cells.toList++(post++((f.drop (i+1)).flatten++r'))).toArray) g.I (ow id) r.1 (r.2.set i e') (g.row id kt k):=by
   refine .inr ⟨b,cap,_,e,f.set i (pre++(a.eval y).cells.toList++post),by grind,hJ,Dp M,by grind,?_,?_,r',?_⟩
   ·have:cs.size=((f.take i).flatten++pre).length+c1.length+(post++((f.drop (i+1)).flatten++r')).length:=by rw[<-Vv,l];grind
    grind
   ·exact(a1.mono fun x c Z=>Rd.mono j (by simp) _ x c Z).set i (Rd.mono j (by simp) _ _ _ K)
   omega
  refine Zo.write A a7 hJ (cs' :=(((f.take i).flatten++pre)++(a.eval y).cells.toList++(post++((f.drop (i+1)).flatten++r'))).toArray) ?_ ?_
  ·have q:i*r.1.size+pre.length=((f.take i).flatten++pre).length:=by grind
   simp only[execOp,ho,Q,Vmb,Vga,Vb,Vd,Va,q,Zcx (hT.ty T t ht) M l rfl J N O]
  ·exact Ztw A W Y (by rw[V];rfl) (Vw.1 U).1 a8 (fun k hk=>setRow_other w b k _ hk)
 ·simp [Zb]at h
end ops
end Tr
end
section
namespace Tr
open Go
theorem Zmp:∀(p:List Nat) (t:Ty) (o:Nat) (c:Ty),ZM t p=some (o,c)->Y0 t p=some c:=by
 intro p t
 induction t generalizing p with
 |prod a b f j=>
  intro o c h
  match p with
  |[]=>rw[K0]at h;obtain⟨rfl,rfl⟩:=Vo (Option.some.inj h);rfl
  |0::p=>simp only[ZM]at h;simpa only[Y0] using f p o c h
  |(n+1)::p=>
   simp only[ZM,Vr]at h;obtain⟨r,d,e⟩:=h;obtain⟨rfl,rfl⟩:=Vo e
   simpa only[Y0] using j (n::p) r.1 r.2 d
 |arr n t k=>
  intro o c h
  match p with
  |[]=>rw[K0]at h;obtain⟨rfl,rfl⟩:=Vo (Option.some.inj h);rfl
  |i::p=>
   simp only[ZM]at h;split at h
   ·simp only[Vr]at h;obtain⟨r,d,e⟩:=h;obtain⟨rfl,rfl⟩:=Vo e;simpa only[Y0] using k p r.1 r.2 d
   grind
 |_=>
  intro o c h
  match p with
  |[]=>rw[K0]at h;obtain⟨rfl,rfl⟩:=Vo (Option.some.inj h);rfl
  |_::_=>simp [ZM]at h
theorem Zck:∀(p:List Nat) (t:Ty) (q:List Nat) (o:Nat) (f:Ty) (d:Nat) (e:Ty),ZM t p=some (o,f)->ZM f q=some (d,e)->ZM t (p++q)=some (o+d,e):=by
 intro p t
 induction t generalizing p with
 |prod a b k l=>
  intro q o f d e c h
  match p with
  |[]=>
   rw[K0]at c
   grind
  |0::p=>
   simp only[ZM]at c
   simpa [ZM] using k p q o f d e c h
  |(n+1)::p=>
   simp only[ZM,Vr]at c;obtain⟨r,c,j⟩:=c;obtain⟨rfl,rfl⟩:=Vo j;have:=l (n::p) q r.1 r.2 d e c h;simp only[Vpc,ZM,Vr]
   grind
 |arr n t s=>
  intro q o f d e c h
  match p with
  |[]=>
   rw[K0]at c
   grind
  |i::p=>
   simp only[ZM]at c;split at c
   ·rename_i m;simp only[Vr]at c;obtain⟨r,c,j⟩:=c;obtain⟨rfl,rfl⟩:=Vo j;have:=s p q r.1 r.2 d e c h;simp only[Vpc,ZM,Zr m,Vr]
    grind
   grind
 |_=>
  intro q o f d e c h
  match p with
  |[]=>
   rw[K0]at c
   grind
  |_::_=>simp [ZM]at c
theorem HT(b o n:Nat):(⟨b,o,none⟩:Addr).add n=⟨b,o+n,none⟩:=by unfold Addr.add;simp
theorem Zb2{α:Type}{xs:List α}{n:Int}{y:α}(h:idx xs n=some y):0<=n/\xs[n.toNat]? =some y/\n<xs.length:=by
 unfold idx at h
 grind
theorem RE{n:Int}{m j:Nat}(h:ZA n m=some j):0<=n/\n<m/\j=n.toNat:=by
 unfold ZA at h
 grind
section ops
variable {P:Program}{E:Z3}{B:ZS}{H:AH}{w:World}{g:Gh}{ow:Nat->Nat->Prop}{nid:Nat}{a:Act}{F:Nat->AV}{v:AV}{patch:Kq}{rd:List Nat}{o:Oper}
theorem ZdL{T f:Nat}{t:Ty}{r:Nat×Ty}(h:W3 P E.ty T t)(q:ZM t [f]=some r)(y:∀n e,t≠ .arr n e):
 ∃i fd,P.underlying T=some (.struct i)∧i[f]? =some fd∧fd.offset=r.1∧E.ty fd.type=some r.2∧fd.name≠ "_" :=by
 have c:=h.shape
 cases t with
 |prod a b=>
  cases s:P.underlying T with
  |none=>rw[s]at c;simp [Z6]at c
  |some d=>
   rw[s]at c
   cases d with
   |struct i=>
    simp only[Z6,Ve,Vqb,Vcc]at c
    have u:f<i.size:=by
     rcases Vvb f i.size with h|h
     ·exact h
     ·exfalso
      have key:∀(t:Ty) (k m:Nat),(ZM t [k]).isNone=true->t.chain=true->k<=m->(ZM t [m]).isNone=true:=by
       intro t
       induction t with
       |prod a b _ p=>
        intro k m j l x
        cases k with
        |zero=>simp [ZM,K0]at j
        |succ k=>
         cases m with
         |zero=>omega
         |succ m=>
          simp only[ZM,Option.isNone_map]at j⊢
          exact p k m j l (by omega)
       |unit=>intro k m _ _ _;rfl
       |_=>intro k m _ l;simp [Ty.chain]at l
      have:=key (.prod a b) _ f c.1.2 c.2 h
      grind
    grind
   |_=>simp [Z6]at c
 |unit=>simp [ZM]at q
 |arr n e=>grind
 |_=>simp [ZM]at q
theorem Zka{t:Ty}(h:t.isStruct=true):∀n e,t≠ .arr n e:=by rintro n e rfl;simp [Ty.isStruct]at h
theorem Zq8{t:Ty}(h:t.isStruct=true):t.agg=true:=by
 cases t<;>simp_all [Ty.isStruct,Ty.agg]
theorem Ztf{T f:Nat}{c:Array Field}{fd:Field}{e:Ty}{b d:Nat}(l:ZX P E)(h:P.underlying T=some (.struct c))(i:c[f]? =some fd)(j:E.ty fd.type=some e)(k:e.size≠0):
 (Vhd T (.pointer (some ⟨b,d,none⟩)) f).run P w=.ok (.pointer (some ⟨b,d+fd.offset,none⟩)) w:=by
 simp only[Vhd,underlying,Vb,run_program,Va,h,Vd,i,Vga,fieldPlace,(l.ty _ _ j).run_sizeOf,k,if_false,HT]
theorem Kp.sub{b off:Nat}{pre c post:List Value}(h:Kp w b off (pre++c++post)):Kp w b (off+pre.length) c:=by
 intro j d;have:=h (pre.length+j) (by grind)
 grind
theorem Ziq{T f:Nat}{x:Operand}(hT:ZX P E)(G:RH B H w g ow)(hF:Fr w g F a.tmps)(ho:o.op=.fieldAddr T x f)
 (h:(ZG E nid o.op o.type (Zt F)).run H []=some ((v,patch),rd)):Zo B (Zn H patch) w g nid v ((execOp a.eval o).run P w):=by
 rw[ho]at h;simp only[ZG,Zu,ZD,Zb,ZJ,false_or,Vba,Vi]at h;obtain⟨t,ht,r,O,⟨a5,a3⟩,h⟩:=h;have W:r.2.size≠0:=by intro e;simp_all
 obtain⟨fs,fd,h1,h2,h3,h4,_⟩:=ZdL (hT.ty T t ht) O (Zka a3);have Y:=hF.eval x
 have key:∀{b z:Nat},a.eval x=.pointer (some ⟨b,z,none⟩)->(execOp a.eval o).run P w=.ok (.value (.pointer (some ⟨b,z+r.1,none⟩))) w:=by intro b z he;simp only[execOp,ho,he,Vb,Ztf hT h1 h2 h4 W,Va,Vd,h3]
 split at h
 ·rename_i t' y K;simp only[ZD,ZQ,Zd,Zb,ZJ,ZY,Kd,Vc]at h;obtain⟨rfl,u,m,j,⟨rfl,rfl⟩,_⟩:=h;obtain⟨b,off,c,C,D,L,R⟩:=(K▸Y).dp;obtain⟨_,c1,⟨o2,pre,post,Q,a0,a1⟩,a2⟩:=ZdU [f] t' y _ _ u c j R;rw[O]at Q;cases Q;refine Zo.pure G (key C) (Kx ?_ rfl rfl);simp only[CV];refine⟨b,off+o2,c1,rfl,D,?_,a2⟩;rw[<-a1];rw[a0]at L;exact L.sub
 ·rename_i id p K;rw[ZN]at h;split at h
  ·rename_i t0 c S;simp only[Zu,ZD,Zd,Zb,ZJ,ZY,Kd,Vc]at h;obtain⟨q,l,rfl,⟨rfl,rfl⟩,_⟩:=h;obtain⟨J,z,t1,b,j,C,D⟩:=(K▸Y).ptr;obtain⟨_,d,_⟩:=G.objs id _ S;rw[d]at j;have e1:=(Zmp _ _ _ _ j).symm.trans l;obtain rfl:=Option.some.inj e1;refine Zo.pure G (key D) (Kx ?_ rfl rfl);simp only[CV];exact⟨J,z+r.1,r.2,b,by rw[d];exact Zck p t0 [f] _ _ _ _ j O,C,rfl⟩
  ·rename_i tn tq lt lb c S;simp only[ZD,Zd,Zb,ZJ,ZY,Vc]at h;obtain⟨l,⟨rfl,rfl⟩,_⟩:=h;obtain⟨J,z,t1,b,j,C,D⟩:=(K▸Y).ptr;obtain⟨_,d,_⟩:=G.objs id _ S;refine Zo.pure G (key D) (Kx ?_ rfl rfl);simp only[CV]
   have V:∃u,ZM (g.ty id) (p++[f])=some (z+r.1,u):=by
    have e1:=Zmp _ _ _ _ j
    cases p with
    |nil=>
     rw[K0]at j;obtain⟨rfl,rfl⟩:=Vo (Option.some.inj j);simp only[Bool.or_eq_true,Kd]at l;rw[Vp,List.nil_append]
     have Z:∀A B:Ty,(A=WX tn tq lt lb\/A=XQ tn tq lt lb)->(B=WX tn tq lt lb\/B=XQ tn tq lt lb)->∀r:Nat×Ty,ZM A [f]=some r->∃u,ZM B [f]=some (r.1,u):=by
      intro A B M N r h
      have e:(ZM A [f]).map Vka=(ZM B [f]).map Vka:=by
       match f with
       |0=>rcases M with rfl|rfl<;>rcases N with rfl|rfl<;>simp [WX,XQ,ZM]
       |1=>rcases M with rfl|rfl<;>rcases N with rfl|rfl<;>simp [WX,XQ,ZM]
       |2=>rcases M with rfl|rfl<;>rcases N with rfl|rfl<;>simp [WX,XQ,ZM]
       |3=>rcases M with rfl|rfl<;>rcases N with rfl|rfl<;>simp [WX,XQ,ZM]
       |4=>rcases M with rfl|rfl<;>rcases N with rfl|rfl<;>simp [WX,XQ,ZM,Ty.size]
       |5=>rcases M with rfl|rfl<;>rcases N with rfl|rfl<;>simp [WX,XQ,ZM,Ty.size]
       |n+6=>rcases M with rfl|rfl<;>rcases N with rfl|rfl<;>simp [WX,XQ,ZM]
      rw[h]at e
      cases hb:ZM B [f] with
      |none=>rw[hb]at e;simp at e
      |some s=>rw[hb]at e;simp only[Vl,Option.some.injEq]at e;exact⟨s.2,by rw[e]⟩
     exact Z t (g.ty id) (l.imp Eq.symm Eq.symm) d r O
    |cons i p=>
     simp only[Ve,Kd]at l;obtain⟨hi,l⟩:=l;have hi:i<3:=by simpa using hi
     have e2:Y0 (g.ty id) (i::p)=Y0 (WX tn tq lt lb) (i::p):=by
      rcases d with d|d
      ·rw[d]
      ·rw[d]
       match i,hi with
       |0,_=>simp [WX,XQ,Y0]
       |1,_=>simp [WX,XQ,Y0]
       |2,_=>simp [WX,XQ,Y0]
     rw[e2,l]at e1;obtain rfl:=Option.some.inj e1;exact⟨r.2,Zck (i::p) _ [f] _ _ _ _ j O⟩
   obtain⟨u,hu⟩:=V;exact⟨J,z+r.1,u,b,hu,C,rfl⟩
  ·simp [Zb]at h
 ·rename_i id i p K;rw[ZN]at h;split at h
  ·rename_i t0 xs S;simp only[Zu,ZD,Zd,Zb,ZJ,ZY,Kd,Vc]at h;obtain⟨q,l,rfl,⟨rfl,rfl⟩,_⟩:=h;obtain⟨J,z,t1,b,j,C,D⟩:=(K▸Y).vp;obtain⟨_,d,_⟩:=G.objs id _ S;have a4:=l;rw[d,l]at j;cases j;refine Zo.pure G (key D) (Kx ?_ rfl rfl);simp only[CV];exact⟨J,z+r.1,r.2,b,by rw[d];exact Zck p t0 [f] _ _ _ _ l O,C,by grind⟩
  ·simp [Zb]at h
 ·rename_i id ver kt k i p K;simp only[Zu,ZQ,ZD,Zd,Zb,ZJ,ZY,Kd,Vc]at h;obtain⟨s,m,U,q,l,rfl,⟨rfl,rfl⟩,_⟩:=h;obtain⟨J,hv,ad,j,C⟩:=(K▸Y).np;obtain⟨_,d,X,_⟩:=Zc1 G J U;obtain⟨b,len,cap,z,t1,D,L,R⟩:=C X;rw[d]at L R;simp only[Db]at L R;rw[l]at L;cases L;subst R;refine Zo.pure G (key j) (Kx ?_ rfl rfl);simp only[CV];refine⟨J,hv,_,rfl,fun _=>⟨b,len,cap,z+r.1,r.2,D,?_,?_⟩⟩
  ·rw[d];exact Zck p s.1 [f] _ _ _ _ l O
  ·rw[d];simp only[Db];grind
 ·simp [Zb]at h
theorem D4{T:TypeId}{t:Ty}(d:W3 P E.ty T t){cs:Array Value}{pre c post:List Value}(b:cs.toList=pre++c++post)(h:c.length=t.size)(e:t.agg=false->∃v,c=[v]):
 (part T cs pre.length).run P w=.ok (H7 t.agg c) w:=by
 simp only[part,Vb,d.run_isAgg,Va]
 cases f:t.agg with
 |true=>
  simp only[if_true,Vb,d.run_sizeOf,Va,Vd,H7];congr 2;apply Array.ext'
  simp_all
 |false=>
  obtain⟨u,rfl⟩:=e f
  have:cs[pre.length]? =some u:=by rw[<-Array.getElem?_toList,b,Vea,Vjb (by omega)];simp
  simp [this,H7]
theorem HU{x:AV}{val:Value}(h:Ki w g x val)(d:x.isAgg=true)(e:x≠ .junk):∃cs,val=.agg cs/\CV w g x cs.toList:=by
 obtain⟨c,b⟩:=h;rcases b with b|b
 ·grind
 ·rw[d]at b
  cases val<;>simp [Z8]at b
  exact⟨_,rfl,c⟩
theorem ZnQ{T f:Nat}{x:Operand}(q:ZX P E)(G:RH B H w g ow)(hF:Fr w g F a.tmps)(s:o.op=.field T x f)
 (h:(ZG E nid o.op o.type (Zt F)).run H []=some ((v,patch),rd)):Zo B (Zn H patch) w g nid v ((execOp a.eval o).run P w):=by
 rw[s]at h;simp only[ZG,Zu,ZD,Zb,ZJ,false_or,ZY,Vba,Vi,ZQ,Zd,Vc,Ve]at h;obtain⟨t,M,r,u,⟨⟨c,d⟩,b⟩,O,m,L,⟨U,l⟩,⟨rfl,rfl⟩,_⟩:=h;obtain⟨Q,fd,z,A,R,C,_⟩:=ZdL (q.ty T t M) u (Zka c);obtain⟨cs,K,J⟩:=HU ((hF.eval x).to1 (ZaI d).2) (by rw[ZdO d b,Zq8 c]) (ZaI d).1;obtain⟨_,N,y,⟨V,pre,post,n,D,S⟩,k,p⟩:=ZdT L d J;rw[u]at n;cases n;obtain⟨e,i⟩:=Zbt p k (ZdO k l);refine Zo.pure G ?_ (VR.of1 e);have j:fd.offset=pre.length:=by omega
 simp only[execOp,s,Vb,Instr.field,underlying,run_program,Va,z,Vd,A,K,asAgg,j,D4 (q.ty _ _ C) D (CV.length O N y k p) i]
theorem WM{T:TypeId}{t:Ty}(f:ZX P E)(h:E.ty T=some (.sl t)):∃c,P.underlying T=some (.slice c)/\E.ty c=some t:=by
 have b:=(f.ty T _ h).shape
 cases e:P.underlying T with
 |none=>rw[e]at b;simp [Z6]at b
 |some d=>rw[e]at b;cases d<;>simp [Z6]at b;grind
theorem ZbB{T:TypeId}{t:Ty}{n:Nat}(f:ZX P E)(h:E.ty T=some (.arr n t)):∃c,P.underlying T=some (.array n c)/\E.ty c=some t:=by
 have b:=(f.ty T _ h).shape
 cases e:P.underlying T with
 |none=>rw[e]at b;simp [Z6]at b
 |some d=>rw[e]at b;cases d<;>simp [Z6]at b;grind
theorem R2{T c:TypeId}{t:Ty}{b d len cap:Nat}{k:IntKind}{n:Int}(i:ZX P E)(f:P.underlying T=some (.slice c))(h:E.ty c=some t)(e:0<=n)(j:n<len):
 (Vnb T (.slice (some ⟨b,d,none⟩) len cap) (.int k n)).run P w=.ok (.pointer (some ⟨b,d+n.toNat*t.size,none⟩)) w:=by
 simp only[Vnb,asIntOf,underlying,Vb,run_program,Va,f,Vd,e,j,and_self,if_true,(i.ty _ _ h).run_sizeOf,HT]
theorem ZlM{T c:TypeId}{t:Ty}{b d m:Nat}{k:IntKind}{n:Int}(i:ZX P E)(f:P.underlying T=some (.array m c))(h:E.ty c=some t)(e:0<=n)(j:n<m):
 (Vnb T (.pointer (some ⟨b,d,none⟩)) (.int k n)).run P w=.ok (.pointer (some ⟨b,d+n.toNat*t.size,none⟩)) w:=by
 simp only[Vnb,asIntOf,underlying,Vga,Vb,run_program,Va,f,Vd,e,j,and_self,if_true,(i.ty _ _ h).run_sizeOf,HT]
theorem Zgi{I:Nat->Prop}{t:Ty}{xs:List (El t)}{css:List (List Value)}{b off:Nat}(h:Fa (Rd w I t) xs css)(d:Kp w b off css.flatten){i:Nat}{y:El t}(j:xs[i]? =some y):
 ∃c,Rd w I t y c/\Kp w b (off+i*t.size) c:=by
 obtain⟨c,e,f⟩:=h.get i y j;obtain⟨k,l,_⟩:=DQ e t.size (Rd.all_length h);refine⟨c,f,?_⟩;rw[k]at d;rw[<-l];exact d.sub
theorem ZeS{id:Nat}{t:Ty}{xs:List (El t)}{val:Value}(h:RH B H w g ow)(f:H id=some (.dat t xs))(c:VR w g (.vw id) val):VR w g (.d (.sl t) xs) val:=by
 obtain⟨_,_,i⟩:=h.objs id _ f;have e:=(c.to1 (by simp)).1;simp only[CV]at e;rw[<-c.vw.2]at i;have b:val.oneCell' =true:=by rw[c.vw.2];grind
 exact Kx (by assumption) b rfl
theorem ZnS{T:Nat}{x i:Operand}(C:ZX P E)(L:RH B H w g ow)(hF:Fr w g F a.tmps)(X:o.op=.indexAddr T x i)
 (h:(ZG E nid o.op o.type (Zt F)).run H []=some ((v,patch),rd)):Zo B (Zn H patch) w g nid v ((execOp a.eval o).run P w):=by
 rw[X]at h;simp only[ZG,Zu]at h;obtain⟨T',s,h⟩:=h;have Y:=hF.eval x;have Z:=hF.eval i;split at h
 ·rename_i t xs k n d f;simp only[ZD,Zu,Zd,Zb,ZJ,ZY,Kd,Vc]at h;obtain⟨rfl,y,hy,⟨rfl,rfl⟩,_⟩:=h;obtain⟨G,Q,D⟩:=Zb2 hy;obtain⟨Et,J,K⟩:=WM C s;obtain⟨ad,cap,M,A,h4,R,_⟩:=(d▸Y).sl;obtain⟨b,off,rfl,h6,S⟩:=R (by grind);obtain⟨c,h8,h9⟩:=Zgi h4 S Q;refine Zo.pure (val:=.pointer (some ⟨b,off+n.toNat*t.size,none⟩)) L ?_ (Kx ?_ rfl rfl)
  ·simp only[execOp,X,A,(f▸Z).int,Vb,R2 C J K G D,Va,Vd]
  ·simp only[CV];grind
 ·rename_i id k n d f;rw[ZN]at h;split at h
  ·rename_i t xs U;simp only[ZD,Zu,Zd,Zb,ZJ,ZY,Kd,Vc]at h;obtain⟨rfl,j,V,⟨rfl,rfl⟩,_⟩:=h;obtain⟨G,D,rfl⟩:=RE V;obtain⟨Et,J,K⟩:=WM C s;obtain⟨W,z⟩:=(d▸Y).vw;obtain⟨_,l,hO⟩:=L.objs id _ U;rcases hO with ⟨rfl,_⟩|⟨b,cap,cs,e,M,hb,hJ,hs,hh,hl,N,a1,O⟩
   ·grind
   refine Zo.pure (val:=.pointer (some ⟨b,0+n.toNat*t.size,none⟩)) L ?_ (Kx ?_ rfl rfl)
   ·simp only[execOp,X,z,hs,(f▸Z).int,Vb,R2 C J K G D,Va,Vd]
   ·simp only[CV];exact⟨W,0,t,b,by rw[l,K0],hb,by grind⟩
  ·rename_i t xs u a5 U;simp only[ZD,Zu,Zd,Zb,ZJ,ZY,Kd,Vc]at h;obtain⟨rfl,j,V,⟨rfl,rfl⟩,_⟩:=h;obtain⟨G,D,rfl⟩:=RE V;obtain⟨Et,J,K⟩:=WM C s;obtain⟨W,z⟩:=(d▸Y).vw;obtain⟨_,l,_,_,hO⟩:=L.objs id _ U;rcases hO with ⟨rfl,_⟩|⟨b,cap,cs,e,hb,hJ,hs,hh,hl,N,O⟩
   ·grind
   refine Zo.pure (val:=.pointer (some ⟨b,0+n.toNat* (Ty.sl t).size,none⟩)) L ?_ (Kx ?_ rfl rfl)
   ·simp only[execOp,X,z,hs,(f▸Z).int,Vb,R2 C J K G D,Va,Vd]
   ·simp only[CV];exact⟨W,0,.sl t,b,by rw[l,K0],hb,by grind⟩
  ·rename_i t xs U;simp only[ZD,Zu,Zd,Zb,ZJ,ZY,Kd,Vc]at h;obtain⟨rfl,y,hy,⟨rfl,rfl⟩,_⟩:=h;obtain⟨G,Q,D⟩:=Zb2 hy;obtain⟨Et,J,K⟩:=WM C s;obtain⟨ad,cap,M,A,h4,R,_⟩:=(ZeS L U (d▸Y)).sl;obtain⟨b,off,rfl,h6,S⟩:=R (by grind);obtain⟨c,h8,h9⟩:=Zgi h4 S Q;refine Zo.pure (val:=.pointer (some ⟨b,off+n.toNat*t.size,none⟩)) L ?_ (Kx ?_ rfl rfl)
   ·simp only[execOp,X,A,(f▸Z).int,Vb,R2 C J K G D,Va,Vd]
   ·simp only[CV];grind
  ·simp [Zb]at h
 ·rename_i id ver kt k k2 n d f;simp only[ZQ,ZD,Zu,Zd,Zb,ZJ,ZY,Kd,Vc]at h;obtain⟨r,m,a0,rfl,j,V,⟨rfl,rfl⟩,_⟩:=h;obtain⟨G,D,rfl⟩:=RE V;obtain⟨Et,J,K⟩:=WM C s;obtain⟨W,hv,_,_⟩:=(d▸Y).nw;obtain⟨_,l,a6,a9,a2⟩:=Zah L (d▸Y) a0;rcases a2 with ⟨A,_⟩|⟨b,cap,cs,e,M,A,hJ,hh,hl,N,a1,O⟩
  ·grind
  refine Zo.pure (val:=.pointer (some ⟨b,0+n.toNat*r.1.size,none⟩)) L ?_ (Kx ?_ rfl rfl)
  ·simp only[execOp,X,A,(f▸Z).int,Vb,R2 C J K G D,Va,Vd]
  ·simp only[CV];refine⟨W,hv,_,rfl,fun _=>⟨b,r.2.length,cap,0,r.1,by grind,by rw[l,K0];rfl,by rw[l];simp [Db]⟩⟩
 ·rename_i id lo m k n d f;rw[ZN]at h;split at h
  ·rename_i t xs U;simp only[ZD,Zu,Zd,Zb,ZJ,ZY,Kd,Vc]at h;obtain⟨rfl,_,a8,j,V,⟨rfl,rfl⟩,_⟩:=h;obtain⟨G,D,rfl⟩:=RE V;obtain⟨Et,J,K⟩:=WM C s;obtain⟨W,z⟩:=(d▸Y).vs;obtain⟨_,l,hO⟩:=L.objs id _ U;rcases hO with ⟨rfl,hb,hs⟩|⟨b,cap,cs,e,M,hb,hJ,hs,hh,hl,N,a1,O⟩
   ·exfalso;rw[hs]at z;rcases z with ⟨_,_,rfl,_⟩|⟨b,len,cap,m',A,_⟩
    all_goals grind
   rw[hs,l]at z;rcases z with ⟨A,_⟩|⟨b',len,a3,m',A,h4,R,h6,S⟩
   ·omega
   injection A with A a7 a4;injection A with A;cases A;have hm:m' ≠0:=by omega
   rw[Zf hm]at S;have he:a.eval x=.slice (some ⟨b,lo*t.size,none⟩) m m' :=by grind
   refine Zo.pure (val:=.pointer (some ⟨b,lo*t.size+n.toNat*t.size,none⟩)) L ?_ (Kx ?_ rfl rfl)
   ·simp only[execOp,X,he,(f▸Z).int,Vb,R2 C J K G D,Va,Vd]
   ·simp only[CV];exact⟨W,0,t,b,by rw[l,K0],hb,by grind⟩
  ·simp [Zb]at h
 ·rename_i m t xs k n d f;simp only[ZD,Zu,Zd,Zb,ZJ,ZY,Kd,Vc]at h;obtain⟨rfl,y,hy,⟨rfl,rfl⟩,_⟩:=h;obtain⟨G,Q,D⟩:=Zb2 hy;obtain⟨Et,J,K⟩:=ZbB C s;obtain⟨b,off,c,A,h4,R,h6,M,rfl,S⟩:=(d▸Y).dp;rw[h6]at D;obtain⟨c,h8,h9⟩:=Zgi S R Q;refine Zo.pure (val:=.pointer (some ⟨b,off+n.toNat*t.size,none⟩)) L ?_ (Kx ?_ rfl rfl)
  ·simp only[execOp,X,A,(f▸Z).int,Vb,ZlM C J K G D,Va,Vd]
  ·simp only[CV];grind
 ·rename_i id p k n d f;rw[ZN]at h;split at h
  ·rename_i t0 c U;simp only[Zu]at h;obtain⟨q,hq,h⟩:=h;split at h
   ·rename_i m t hm;simp only[ZD,Zu,Zd,Zb,ZJ,ZY,Kd,Vc]at h;obtain⟨rfl,j,V,⟨rfl,rfl⟩,_⟩:=h;obtain⟨G,D,rfl⟩:=RE V;obtain⟨Et,J,K⟩:=ZbB C s;obtain⟨W,o',t1,b,R,h6,S⟩:=(d▸Y).ptr;obtain⟨_,l,_⟩:=L.objs id _ U;rw[l,hq]at R;cases R;simp only at hm;subst hm;refine Zo.pure (val:=.pointer (some ⟨b,o' +n.toNat*t.size,none⟩)) L ?_ (Kx ?_ rfl rfl)
    ·simp only[execOp,X,S,(f▸Z).int,Vb,ZlM C J K G D,Va,Vd]
    ·simp only[CV];refine⟨W,o' +n.toNat*t.size,t,b,?_,h6,rfl⟩;rw[l]
     have:ZM (.arr m t) [n.toNat]=some (n.toNat*t.size,t):=by simp only[ZM];grind
     exact Zck p t0 [n.toNat] _ _ _ _ hq this
   ·simp [Zb]at h
  ·simp [Zb]at h
 ·simp [Zb]at h
theorem ZnR{T:Nat}{x i:Operand}(p:ZX P E)(L:RH B H w g ow)(hF:Fr w g F a.tmps)(D:o.op=.index T x i)
 (h:(ZG E nid o.op o.type (Zt F)).run H []=some ((v,patch),rd)):Zo B (Zn H patch) w g nid v ((execOp a.eval o).run P w):=by
 rw[D]at h;simp only[ZG,Zu]at h;obtain⟨T',j,h⟩:=h;have Q:=hF.eval x;have N:=hF.eval i;split at h
 ·rename_i m t xs k n e b;simp only[ZD,Zu,Zd,Zb,ZJ,ZY,Kd,Vc,Ve]at h;obtain⟨⟨rfl,Y⟩,y,G,⟨rfl,rfl⟩,_⟩:=h;obtain⟨s,l,C⟩:=Zb2 G;obtain⟨Et,R,J⟩:=ZbB p j;obtain⟨cs,W,M⟩:=HU (x:=.d (.arr m t) xs) (e▸Q) rfl (by simp);simp only[CV]at M;obtain⟨S,f,h7,K⟩:=M;rw[S]at C;obtain⟨c,U,u⟩:=K.get _ y l;obtain⟨s1,s2,_⟩:=DQ U t.size (Rd.all_length K);obtain⟨z,A⟩:=Zbt (w:=w) (g:=g) (a:=.d t y) (t:=t) (by assumption) (by simp [AV.fits]) rfl;refine Zo.pure L ?_ (VR.of1 z);have O:=D4 (w:=w) (p.ty _ _ J) (cs:=cs) (pre:=(f.take n.toNat).flatten) (c:=c) (post:=(f.drop (n.toNat+1)).flatten) (by grind) (Rd.length t y c u) A
  rw[s2]at O;simp only[execOp,D,W,(b▸N).int,Vud,asIntOf,underlying,Vb,run_program,Va,R,Vd,s,C,and_self,if_true,(p.ty _ _ J).run_sizeOf,O]
 ·rename_i xs k n e b;simp only[ZD,Zu,Zd,Zb,ZJ,ZY,Kd,Vc]at h;obtain⟨rfl,y,G,⟨rfl,rfl⟩,_⟩:=h;obtain⟨s,l,C⟩:=Zb2 G
  have r:P.underlying T=some .string:=by
   have q:=(p.ty T _ j).shape
   cases r:P.underlying T with
   |none=>rw[r]at q;simp [Z6]at q
   |some d=>rw[r]at q;cases d<;>simp [Z6]at q;rfl
  refine Zo.pure (val:=.int .u8 y.toNat) L ?_ (W4 _ _)
  have V:(⟨xs.toArray⟩:ByteArray)[n.toNat]? =some y:=by
   have X:n.toNat<xs.length:=by omega
   have Z:xs[n.toNat]=y:=by grind
   rw[getElem?_pos (⟨xs.toArray⟩:ByteArray) n.toNat (by assumption)];congr 1
  simp only[execOp,D,(e▸Q).str,(b▸N).int,Vud,asIntOf,underlying,Vb,run_program,Va,r,Vd,s,if_true,V]
 ·simp [Zb]at h
end ops
end Tr
end
section
namespace Tr
open Go
theorem Ty.depth_pos(t:Ty):1<=t.dep:=by
 induction t with
 |prod a b _ d=>simp only[Ty.dep];omega
 |arr n t c=>simp only[Ty.dep];omega
 |sl t c=>simp only[Ty.dep];omega
 |_=>simp [Ty.dep]
section
variable {P:Program}{E:Z3}{w:World}{g:Gh}
theorem ZeI(l:List UInt8):(⟨l.toArray⟩:ByteArray).toList=l:=by rw[ByteArray.toList_eq]
theorem ZjH{T f:Nat}{t:Ty}{e:Array Field}(h:W3 P E.ty T t)(k:P.underlying T=some (.struct e))(d:f<e.size):∃r,ZM t [f]=some r:=by
 have c:=h.shape;rw[k]at c
 cases t with
 |prod a b=>
  simp only[Z6,Ve,Vqb,Vcc]at c;have i:=c.1.1 f d;rw[Vfa d]at i
  cases j:ZM (.prod a b) [f] with
  |none=>simp [j]at i
  |some r=>exact⟨r,rfl⟩
 |unit=>
  simp only[Z6,Array.isEmpty_iff]at c;subst c
  simp at d
 |_=>simp [Z6]at c
theorem ZaR{t:Ty}{x:El t}{c:List Value}(h:Rd w g.I t x c):Ki w g (.d t x) (H7 t.agg c)/\(t.agg=false->∃v,c=[v]):=
 Zbt (a:=.d t x) (by simpa only[CV] using h) (by simp [AV.fits]) rfl
theorem ZlJ(hT:ZX P E):∀(N:Nat) (t:Ty) (T:TypeId) (x y:El t) (vx vy:Value) (r:Bool) (d:Nat),sizeOf t<N->E.ty T=some t->t.dep<=d->eqEl t x y=some r->
 Ki w g (.d t x) vx->Ki w g (.d t y) vy->(Op.equalIn d T vx vy).run P w=.ok r w:=by
 intro N
 induction N with
 |zero=>intro t T x y vx vy r d h;omega
 |succ N ih=>
 intro t T x y vx vy r d hN ht hd c hx hy;obtain⟨d,rfl⟩:∃d',d=d' +1:=⟨d - 1,by have:=t.depth_pos;omega⟩;have s:=hT.ty T t ht
 cases t with
 |int k=>
  have l:P.underlying T=some (.int k):=by
   have j:=s.shape
   cases l:P.underlying T with
   |none=>rw[l]at j;simp [Z6]at j
   |some d=>rw[l]at j;cases d<;>simp [Z6]at j;rw[j]
  rw[(VR.of1 hx).int,(VR.of1 hy).int,run_equalIn_int w d T k k x y l];simp only[eqEl,Option.some.injEq]at c
  subst c;rfl
 |bool=>
  have l:P.underlying T=some .bool:=by
   have j:=s.shape
   cases l:P.underlying T with
   |none=>rw[l]at j;simp [Z6]at j
   |some d=>rw[l]at j;cases d<;>simp [Z6]at j;rfl
  rw[(VR.of1 hx).bool,(VR.of1 hy).bool,run_equalIn_bool' w d T x y l];simp only[eqEl,Option.some.injEq]at c
  subst c;rfl
 |str=>
  have l:P.underlying T=some .string:=by
   have j:=s.shape
   cases l:P.underlying T with
   |none=>rw[l]at j;simp [Z6]at j
   |some d=>rw[l]at j;cases d<;>simp [Z6]at j;rfl
  rw[(VR.of1 hx).str,(VR.of1 hy).str,run_equalIn_string w d T _ _ l,ZeI,ZeI];simp only[eqEl,Option.some.injEq]at c;subst c;congr 1
  rw[Vwc];simp
 |sl t=>simp [eqEl]at c
 |ref=>simp [eqEl]at c
 |pt t=>simp [eqEl]at c
 |lk a b=>simp [eqEl]at c
 |pn t=>simp [eqEl]at c
 |arr n e=>
  obtain⟨Et,l,he⟩:=ZbB hT ht;obtain⟨xs,rfl,J⟩:=HU hx rfl (by simp);obtain⟨X,rfl,K⟩:=HU hy rfl (by simp);simp only[CV]at J K;obtain⟨b8,a7,h1,h2⟩:=J;obtain⟨d0,a8,h3,h4⟩:=K;obtain⟨i,z,hi,b2,_⟩:=(hT.ty Et e he).info;have Y:P.cellsOf Et=e.size:=by simp [Program.cellsOf,hi,b2]
  rw[run_equalIn_array w d xs X l hi,Y];simp only[eqEl]at c
  have key:∀(m k:Nat) (Z ly:List (El e)) (cx G:List (List Value)) (L M:List Value) (r:Bool),m=Z.length->eqEl.eqs (eqEl e) Z ly=some r->Fa (Rd w g.I e) Z cx->Fa (Rd w g.I e) ly G->
   xs.toList=L++cx.flatten->X.toList=M++G.flatten->L.length=k*e.size->M.length=k*e.size->
   (Op.eqItems d Et e.size xs X (List.range' k m)).run P w=.ok r w:=by
   intro m
   induction m with
   |zero=>
    intro k Z ly cx G L M r hm W R S _ _ _ _;have:Z=[]:=List.length_eq_zero_iff.1 hm.symm;subst this
    cases ly with
    |nil=>simp only[eqEl.eqs,Option.some.injEq]at W;subst W;rfl
    |cons _ _=>simp [eqEl.eqs]at W
   |succ m c8=>
    intro k Z ly cx G L M r hm W R S A C U V
    cases Z with
    |nil=>simp at hm
    |cons a Z=>
    cases ly with
    |nil=>simp [eqEl.eqs]at W
    |cons b ly=>
     simp only[eqEl.eqs,Vu]at W;obtain⟨p,hp,q,W,hr⟩:=W;simp only[Option.some.injEq]at hr
     cases cx with
     |nil=>exact R.elim
     |cons ca cx=>
     cases G with
     |nil=>exact S.elim
     |cons cb G=>
      obtain⟨ha,R⟩:=R;obtain⟨hb,S⟩:=S;obtain⟨v1,v2⟩:=ZaR (g:=g) ha;obtain⟨u1,u2⟩:=ZaR (g:=g) hb;rw[Vob, <-Vea]at A C;have e1:=D4 (w:=w) (hT.ty Et e he) A (Rd.length e a ca ha) v2;have e2:=D4 (w:=w) (hT.ty Et e he) C (Rd.length e b cb hb) u2;rw[U]at e1;rw[V]at e2;have e3:=ih e Et a b _ _ p d (by simp at hN;omega) he (by simp [Ty.dep]at hd;omega) hp v1 u1;simp only[Vqc,Op.eqItems,Vb,e1,e2,e3,Va,Vrc,Vd]
      cases p with
      |false=>simp at hr;subst hr;rfl
      |true=>
       simp at hr;subst hr
       have:=c8 (k+1) Z ly cx G (L++ca) (M++cb) q (by simp at hm;omega) W R S A C
        (by rw[Vn,U,Rd.length e a ca ha,Vma];omega) (by rw[Vn,V,Rd.length e b cb hb,Vma];omega)
       simpa using this
  rw[List.range_eq_range']
  exact key n 0 x y a7 a8 [] [] r b8.symm c h2 h4 h1 h3 (by simp) (by simp)
 |unit=>
  obtain⟨xs,rfl,J⟩:=HU hx rfl (by simp);obtain⟨X,rfl,K⟩:=HU hy rfl (by simp);have j:=s.shape
  cases l:P.underlying T with
  |none=>rw[l]at j;simp [Z6]at j
  |some dd=>
   rw[l]at j
   cases dd<;>simp [Z6]at j
   have O:P.fieldsOf T= #[]:=by simp [Program.fieldsOf,l,j]
   rw[run_equalIn_struct w d T xs X (by rw[O,l,j]) s.stood,O];simp only[eqEl,Option.some.injEq]at c
   subst c;rfl
 |prod a0 b0=>
  obtain⟨xs,rfl,J⟩:=HU hx rfl (by simp);obtain⟨X,rfl,K⟩:=HU hy rfl (by simp);simp only[CV]at J K;have j:=s.shape
  cases l:P.underlying T with
  |none=>rw[l]at j;simp [Z6]at j
  |some dd=>
   rw[l]at j
   cases dd with
   |struct fs=>
    have O:P.fieldsOf T=fs:=by simp [Program.fieldsOf,l]
    rw[run_equalIn_struct w d T xs X (by rw[O,l]) s.stood,O];have b6:b0.chain=true:=by simp only[Z6,Ve]at j;exact j.2
    have key:∀(u:Ty) (k base:Nat) (x y:El u) (L cx M G:List Value) (r:Bool),sizeOf u<=sizeOf (Ty.prod a0 b0)->u.chain=true->u.dep<=d+1->(∀f,ZM (.prod a0 b0) [k+f]=(ZM u [f]).map fun q=>(q.1+base,q.2))->
     xs.toList=L++cx->X.toList=M++G->L.length=base->M.length=base->Rd w g.I u x cx->Rd w g.I u y G->eqEl u x y=some r->
     (Op.eqFields d xs X (fs.toList.drop k)).run P w=.ok r w:=by
     intro u
     induction u with
     |unit=>
      intro k base x y L cx M G r _ _ _ D _ _ _ _ _ _ c
      have hk:fs.size<=k:=by
       rcases Vvb k fs.size with h|h
       ·obtain⟨r,hr⟩:=ZjH s l h;have:=D 0;rw[Vta,hr]at this;simp [ZM]at this
       ·exact h
      rw[Vxa (by simpa using hk)];simp only[eqEl,Option.some.injEq]at c
      subst c;rfl
     |prod a b _ c7=>
      intro k base x y L cx M G r b4 hc a1 D A C U V b9 c4 c;obtain⟨c1,c2,rfl,a5,c5⟩:=b9;obtain⟨e1,e2,rfl,a6,c6⟩:=c4;obtain⟨p,q,hp,W,rfl⟩:=Zjt c
      have h0:ZM (.prod a0 b0) [k]=some (base,a):=by have:=D 0;rw[Vta]at this;rw[this];simp only[ZM,K0,Vl,Vp]
      obtain⟨c9,fd,b5,a9,b1,Q,a3⟩:=ZdL s h0 (by intro n e;simp);rw[l]at b5;cases b5;have b3:k<fs.size:=(Vkb.1 a9).1
      have a2:fs.toList.drop k=fd::fs.toList.drop (k+1):=by rw[Vqa (by simpa using b3)];congr 1;have:=(Vkb.1 a9).2;simpa using this
      obtain⟨v1,v2⟩:=ZaR (g:=g) a5;obtain⟨u1,u2⟩:=ZaR (g:=g) a6;rw[<-Vea]at A C;have r1:=D4 (w:=w) (hT.ty _ _ Q) A (Rd.length a _ c1 a5) v2;have r2:=D4 (w:=w) (hT.ty _ _ Q) C (Rd.length a _ e1 a6) u2;have a4:fd.offset=base:=b1;rw[U]at r1;rw[V]at r2;have r3:=ih a fd.type x.1 y.1 _ _ p d (by simp at hN b4;omega) Q (by simp only[Ty.dep]at a1;omega) hp v1 u1;rw[a2];simp only[Op.eqFields,a3,ne_eq,not_false_eq_true,if_true,a4,Vb,r1,r2,r3,Va,Vrc,Vd]
      cases p with
      |false=>rfl
      |true=>
       have:=c7 (k+1) (base+a.size) x.2 y.2 (L++c1) c2 (M++e1) e2 q (by simp at b4⊢;omega) hc (by simp only[Ty.dep]at a1;omega)
        (fun f=>by have:=D (f+1);rw[show k+1+f=k+(f+1) by omega,this];simp only[ZM,Vcd];congr 1;funext z;simp only[Function.comp];congr 1;omega) A C (by rw[Vn,U,Rd.length a _ c1 a5]) (by rw[Vn,V,Rd.length a _ e1 a6]) c5 c6 W
       simpa using this
     |_=>intro k base x y L cx M G r _ hc;simp [Ty.chain]at hc
    have b7:(Ty.prod a0 b0).dep<=d+1:=hd
    exact key (.prod a0 b0) 0 0 x y [] xs.toList [] X.toList r (Vg _) b6 b7 (fun f=>by simp) rfl rfl rfl rfl J K c
   |_=>simp [Z6]at j
end
end Tr
end
section
namespace Tr
open Go
section
variable {P:Program}{E:Z3}{w:World}{g:Gh}
theorem Zqf{a b:Ty}{x y:El (.prod a b)}{p q:Bool}(c:eqEl a x.1 y.1=some p)(d:eqEl b x.2 y.2=some q):∃r,eqEl (.prod a b) x y=some r:=by
 cases b with
 |unit=>exact⟨p,c⟩
 |_=>
  refine⟨p&&q,?_⟩;show (eqEl a x.1 y.1).bind _=_
  grind
theorem Zqh{I:Nat->Prop} :∀(t:Ty) (x y:El t) (cx i:List Value),t.key=true->Rd w I t x cx->Rd w I t y i->∃r,eqEl t x y=some r:=by
 intro t
 induction t with
 |int k=>intro x y _ _ _ _ _;exact⟨_,rfl⟩
 |bool=>intro x y _ _ _ _ _;exact⟨_,rfl⟩
 |str=>intro x y _ _ _ _ _;exact⟨_,rfl⟩
 |unit=>intro x y _ _ _ _ _;exact⟨_,rfl⟩
 |sl t _=>intro x y _ _ h;simp [Ty.key]at h
 |ref=>intro x y _ _ h;simp [Ty.key]at h
 |pt t _=>intro x y _ _ h;simp [Ty.key]at h
 |lk a b _ _=>intro x y _ _ h;simp [Ty.key]at h
 |pn t _=>intro x y _ _ h;simp [Ty.key]at h
 |prod a b J K=>
  intro x y cx i c D G;obtain⟨S,T,_,M,j⟩:=D;obtain⟨U,V,_,N,s⟩:=G;simp only[Ty.key,Ve]at c;obtain⟨p,A⟩:=J _ _ _ _ c.1 M N;obtain⟨q,C⟩:=K _ _ _ _ c.2 j s
  exact Zqf A C
 |arr n t R=>
  intro x y cx i c D G;obtain⟨M,e,_,j⟩:=D;obtain⟨N,f,_,s⟩:=G;simp only[Ty.key]at c
  have key:∀(l m:List (El t)) (cl d:List (List Value)),l.length=m.length->Fa (Rd w I t) l cl->Fa (Rd w I t) m d->∃r,eqEl.eqs (eqEl t) l m=some r:=by
   intro l
   induction l with
   |nil=>intro m _ _ h _ _;cases m<;>simp at h;exact⟨true,rfl⟩
   |cons a l L=>
    intro m cl d h u z
    cases m with
    |nil=>grind
    |cons b m=>
     cases cl with
     |nil=>exact u.elim
     |cons O cl=>
     cases d with
     |nil=>exact z.elim
     |cons Q d=>
     obtain⟨p,A⟩:=R a b O Q c u.1 z.1;obtain⟨q,C⟩:=L m cl d (by grind) u.2 z.2;exact⟨p&&q,by simp [eqEl.eqs,A,C]⟩
  exact key x y e f (by omega) j s
theorem Zrj{I:Nat->Prop} :∀(t:Ty) (x:El t) (cx f:List Value),t.key=true->Rd w I t x cx->Rd w I t x f->cx=f:=by
 intro t
 induction t with
 |int k=>intro x cx f _ c d;exact c.trans d.symm
 |bool=>intro x cx f _ c d;exact c.trans d.symm
 |str=>intro x cx f _ c d;exact c.trans d.symm
 |unit=>intro x cx f _ c d;exact c.trans d.symm
 |sl t _=>intro x _ _ h;simp [Ty.key]at h
 |ref=>intro x _ _ h;simp [Ty.key]at h
 |pt t _=>intro x _ _ h;simp [Ty.key]at h
 |lk a b _ _=>intro x _ _ h;simp [Ty.key]at h
 |pn t _=>intro x _ _ h;simp [Ty.key]at h
 |prod a b z A=>
  intro x cx f i c d;obtain⟨C,D,rfl,s,u⟩:=c;obtain⟨G,J,rfl,K,L⟩:=d;simp only[Ty.key,Ve]at i
  grind
 |arr n t y=>
  intro x cx f i c d;obtain⟨_,q,rfl,s⟩:=c;obtain⟨_,r,rfl,u⟩:=d;simp only[Ty.key]at i
  have key:∀(l:List (El t)) (cl e:List (List Value)),Fa (Rd w I t) l cl->Fa (Rd w I t) l e->cl=e:=by
   intro l
   induction l with
   |nil=>intro cl e c d;cases cl<;>cases e<;>simp [Fa]at c d⊢
   |cons a l j=>
    intro cl e c d
    cases cl with
    |nil=>exact c.elim
    |cons m cl=>
    cases e with
    |nil=>exact d.elim
    |cons p e=>rw[y a m p i c.1 d.1,j cl e c.2 d.2]
  grind
theorem ZgI{t:Ty}{x:El t}{v u:Value}(h:t.key=true)(e:Ki w g (.d t x) v)(f:Ki w g (.d t x) u):v=u:=by
 obtain⟨b,i⟩:=e;obtain⟨c,j⟩:=f;simp only[CV]at b c;have l:=Zrj t x _ _ h b c
 have k:Z8 v=Z8 u:=by
  grind
 cases v<;>cases u<;>simp_all [Vab,Z8]
theorem Zcv(Z:ZX P E)(em:Bool):∀(N:Nat) (t:Ty) (T:TypeId) (x:El t) (v:Value) (n:Nat),sizeOf t<N->E.ty T=some t->t.key=true->t.dep<=n->Ki w g (.d t x) v->
 (Vz em n T v).run P w=.ok () w:=by
 intro N
 induction N with
 |zero=>omega
 |succ N ih=>
 intro t T x v n hN ht K hd V;obtain⟨n,rfl⟩:∃m,n=m+1:=⟨n - 1,by have:=t.depth_pos;omega⟩;have Q:=Z.ty T _ ht;have C:=Q.shape
 cases y:P.underlying T with
 |none=>rw[y]at C;cases t<;>simp [Z6]at C
 |some d=>
 rw[y]at C
 cases t with
 |sl t=>simp [Ty.key]at K
 |ref=>simp [Ty.key]at K
 |pt t=>simp [Ty.key]at K
 |lk a b=>simp [Ty.key]at K
 |pn t=>simp [Ty.key]at K
 |unit=>
  obtain⟨xs,rfl,l⟩:=HU V rfl (by simp)
  cases d<;>simp [Z6]at C
  subst C
  simp [Vz,underlying,y]
 |prod a0 X=>
  obtain⟨xs,rfl,l⟩:=HU V rfl (by simp);simp only[CV]at l
  cases d with
  |struct U=>
   have a2:X.chain=true:=by simp only[Z6,Ve]at C;grind
   simp only[Vz,underlying,Vb,run_program,Va,y,Vd];rw[<-Array.forIn_toList]
   have key:∀(u:Ty) (k base:Nat) (x:El u) (A cx:List Value),sizeOf u<=sizeOf (Ty.prod a0 X)->u.chain=true->u.key=true->u.dep<=n+1->(∀f,ZM (.prod a0 X) [k+f]=(ZM u [f]).map fun q=>(q.1+base,q.2))->
    xs.toList=A++cx->A.length=base->Rd w g.I u x cx->
    (forIn (U.toList.drop k) PUnit.unit fun(f:Field) __s=>(if f.name≠ "_" then do
      let __do_lift<-part f.type xs f.offset
      Vz em n f.type __do_lift
      pure (ForInStep.yield PUnit.unit)
      else pure (ForInStep.yield PUnit.unit):Sem (ForInStep PUnit))).run P w=.ok PUnit.unit w:=by
    intro u
    induction u with
    |unit=>
     intro k base x A cx _ _ _ _ j _ _ _
     have K:U.size<=k:=by
      rcases Vvb k U.size with h|h
      ·obtain⟨r,hr⟩:=ZjH Q y h;have:=j 0;rw[Vta,hr]at this;simp [ZM]at this
      omega
     rw[Vxa (by omega)]
     rfl
    |prod a b _ a6=>
     intro k base x A cx b2 hc p G j c s a4;obtain⟨c1,c2,rfl,R,a5⟩:=a4;simp only[Ty.key,Ve]at p
     have h0:ZM (.prod a0 X) [k]=some (base,a):=by have:=j 0;rw[Vta]at this;rw[this];simp only[ZM,K0,Vl,Vp]
     obtain⟨a9,fd,z,b1,a1,J,M⟩:=ZdL Q h0 (by simp);rw[y]at z;cases z;have a8:k<U.size:=by grind
     have L:U.toList.drop k=fd::U.toList.drop (k+1):=by
      rw[Vqa (by omega)]
      grind
     obtain⟨v1,v2⟩:=ZaR (g:=g) R;rw[<-Vea]at c;have r1:=D4 (w:=w) (Z.ty _ _ J) c (Rd.length a _ c1 R) v2;have O:fd.offset=base:=a1;rw[s]at r1;have r3:=ih a fd.type x.1 _ n (by grind) J p.1 (by simp only[Ty.dep]at G;omega) v1;rw[L];simp only[Vxc,M,ne_eq,not_false_eq_true,if_true,O,Vb,r1,r3,Va,Vd]
     have:=a6 (k+1) (base+a.size) x.2 (A++c1) c2 (by grind) hc p.2 (by simp only[Ty.dep]at G;omega)
      (fun f=>by
        have:=j (f+1);rw[show k+1+f=k+(f+1) by omega,this];simp only[ZM,Vcd];congr 1
        grind) c (by rw[Vn,s,Rd.length a _ c1 R]) a5
     omega
    |_=>intro k base x A cx _ hc;simp [Ty.chain]at hc
   have:=key (.prod a0 X) 0 0 x [] xs.toList (Vg _) a2 K hd (by simp) rfl rfl l
   simp_all
  |_=>simp [Z6]at C
 |arr m e=>
  obtain⟨S,z,he⟩:=ZbB Z ht;rw[y]at z;cases z;obtain⟨xs,rfl,l⟩:=HU V rfl (by simp);simp only[CV]at l;obtain⟨a3,Y,h1,h2⟩:=l;simp only[Vz,underlying,Vb,run_program,Va,y,Vd];simp only[Std.Legacy.Range.forIn_eq_forIn_range',Std.Legacy.Range.size,Nat.sub_zero,Nat.add_one_sub_one,Nat.div_one]
  have key:∀(m k:Nat) (W:List (El e)) (cx:List (List Value)) (A:List Value),m=W.length->Fa (Rd w g.I e) W cx->xs.toList=A++cx.flatten->A.length=k*e.size->
   (forIn (List.range' k m) PUnit.unit fun(i:Nat) __s=>(do
     let __do_lift<-Go.sizeOf S
     let __do_lift<-part S xs (i*__do_lift)
     Vz em n S __do_lift
     pure (ForInStep.yield PUnit.unit):Sem (ForInStep PUnit))).run P w=.ok PUnit.unit w:=by
   intro m
   induction m with
   |zero=>simp
   |succ m a7=>
    intro k W cx A hm D c s
    cases W with
    |nil=>grind
    |cons a W=>
    cases cx with
    |nil=>exact D.elim
    |cons ca cx=>
     obtain⟨ha,D⟩:=D;obtain⟨v1,v2⟩:=ZaR (g:=g) ha;rw[Vob, <-Vea]at c;have e1:=D4 (w:=w) (Z.ty S e he) c (Rd.length e a ca ha) v2;rw[s]at e1;have e3:=ih e S a _ n (by grind) he K (by simp [Ty.dep]at hd;omega) v1;simp only[Vqc,Vxc,Vb,(Z.ty S e he).run_sizeOf,e1,e3,Va,Vd];have:=a7 (k+1) W cx (A++ca) (by grind) D c (by rw[Vn,s,Rd.length e a ca ha,Vma];omega);omega
  have:=key m 0 x Y [] a3.symm h2 h1 (by simp)
  simp_all
 |int k=>
  cases d<;>simp [Z6]at C
  rw[(VR.of1 V).int]
  simp [Vz,underlying,y]
 |bool=>
  cases d<;>simp [Z6]at C
  rw[(VR.of1 V).bool]
  simp [Vz,underlying,y]
 |str=>
  cases d<;>simp [Z6]at C
  rw[(VR.of1 V).str];simp [Vz,underlying,y]
def Ze5{β:Type}(w:World)(g:Gh)(b:Ty)(m:List (El b×β))(es:List MapEntry):Prop:=Fa (fun kv (e:MapEntry)=>Ki w g (.d b kv.1) e.key) m es
def ZmT(w:World)(g:Gh)(b c:Ty)(m:List (El b×El c))(es:List MapEntry):Prop:=Fa (fun kv (e:MapEntry)=>Ki w g (.d b kv.1) e.key/\Ki w g (.d c kv.2) e.val) m es
theorem ZlK(n:ZX P E){K:TypeId}{b:Ty}{β:Type}(l:E.ty K=some b)(f:b.keyOk=true){x:El b}{v:Value}(h:Ki w g (.d b x) v):∀(m:List (El b×β)) (es:List MapEntry) (i:Nat),Ze5 w g b m es->
 (Vrb K v es i).run P w=.ok ((WJ (Zj b) x m).map fun j=>(i+j,((es[j]?).map (·.val)).getD undef)) w
 |[],[],i,_=>rfl
 |kv::m,e::es,i,⟨k,s⟩=>by
  simp only[Ty.keyOk,Ve]at f;have c:b.dep<=10000:=by have:=Vh f.2;omega
  obtain⟨r,p⟩:=Zqh b x kv.1 _ _ f.1 (by simpa only[CV] using h.1) (by simpa only[CV] using k.1);have q:=ZlJ (w:=w) (g:=g) n _ b K x kv.1 v e.key r 10000 (Via _) l c p h k;have t:Zj b x kv.1=r:=by simp [Zj,p]
  simp only[Vrb,Op.equal,Op.maxDepth,Vb,q,Va,Vrc,Vd,WJ,t]
  cases r with
  |true=>simp
  |false=>
   simp only[Vy,if_false,Ze];rw[ZlK n l (by simp [Ty.keyOk,f]) h m es (i+1) s]
   cases WJ (Zj b) x m with
   |none=>rfl
   |some j=>grind
theorem Zcw(u:ZX P E){K:TypeId}{c:Ty}{β:Type}(t:E.ty K=some c)(G:c.keyOk=true){x:El c}{v:Value}(n:Ki w g (.d c x) v)(m:List (El c×β))(es:List MapEntry)(h:Ze5 w g c m es):
 (Vid K v es).run P w=.ok ((WJ (Zj c) x m).map fun j=>(j,((es[j]?).map (·.val)).getD undef)) w:=by
 obtain⟨d,z⟩:=(u.ty K c t).und;have s:=(u.ty K c t).shape;rw[z]at s;have p:=ZlK u t G n m es 0 h;simp only[Vp]at p;simp only[Vid,underlying,Vb,run_program,Va,z,Vd]
 have now:∀(f:Value->Value->Option Bool) (_:∀e:MapEntry,Vec d v e.key=f v e.key) (m:List (El c×β)) (es:List MapEntry) (i:Nat),Ze5 w g c m es->
  (∀kv e,Ki w g (.d c kv) e->f v e=some (Zj c x kv))->Vpb d v es i=some ((WJ (Zj c) x m).map fun j=>(i+j,((es[j]?).map (·.val)).getD undef)):=by
  intro f D m
  induction m with
  |nil=>intro es i h _;cases es with
   |nil=>rfl
   |cons _ _=>exact h.elim
  |cons kv m L=>
   intro es i h l
   cases es with
   |nil=>exact h.elim
   |cons e es=>
    obtain⟨A,C⟩:=h;simp only[Vpb,D e,l kv.1 e.key A,WJ]
    cases Zj c x kv.1 with
    |true=>simp
    |false=>
     simp only[Ze,L es (i+1) C l]
     cases WJ (Zj c) x m with
     |none=>rfl
     |some j=>grind
 have other:(∀e:MapEntry,e∈es->Vec d v e.key=none)->(match Vpb d v es 0 with|some r=>pure r|none=>Vrb K v es:Sem _).run P w=
  .ok ((WJ (Zj c) x m).map fun j=>(j,((es[j]?).map (·.val)).getD undef)) w:=by
  intro J
  cases es with
  |nil=>
   assumption
  |cons e es=>
   simp only[Vpb,J e (by simp)];omega
 cases c with
 |int k=>
  cases d<;>simp [Z6]at s
  have y:=now (fun a b=>match a,b with|.int k a,.int M b=>if k=M then some (a==b) else none|_,_=>none) (fun e=>by rw[(VR.of1 n).int];cases e.key<;>rfl) m es 0 h (fun kv e q=>by rw[(VR.of1 n).int,(VR.of1 q).int];simp only[if_true,Zj,eqEl,Vca];rfl)
  simp_all
 |bool=>
  cases d<;>simp [Z6]at s
  have y:=now (fun a b=>match a,b with|.bool a,.bool b=>some (a==b) |_,_=>none) (fun e=>by rw[(VR.of1 n).bool];cases e.key<;>rfl) m es 0 h (fun kv e q=>by rw[(VR.of1 n).bool,(VR.of1 q).bool];rfl)
  simp_all
 |str=>
  cases d<;>simp [Z6]at s
  have y:=now (fun a b=>match a,b with|.string a,.string b=>some (a==b) |_,_=>none) (fun e=>by rw[(VR.of1 n).str];cases e.key<;>rfl) m es 0 h (fun kv e q=>by rw[(VR.of1 n).str,(VR.of1 q).str];simp only[Zj,eqEl,Vca,beq_toListBytes,ZeI];grind)
  simp_all
 |_=>
  refine other fun e _=>?_
  cases d<;>simp [Z6]at s<;>simp [Vec]
end
end Tr
end
section
namespace Tr
open Go
section ops
variable {P:Program}{E:Z3}{B:ZS}{H:AH}{w:World}{g:Gh}{ow:Nat->Nat->Prop}{nid:Nat}{a:Act}{F:Nat->AV}{v:AV}{patch:Kq}{rd:List Nat}{o:Oper}
theorem ZlO{T K V:TypeId}{r:Option Operand}(hF:Fr w g F a.tmps)(f:P.underlying T=some (.map K V))(c:(match r with|none=>true|some x=>(KF (Zt F x)).isSome)=true)(d:o.op=.makeMap T r):
 (execOp a.eval o).run P w=.ok (.value (.map (some w.heap.size))) (w.alloc (.map #[] 0)):=by
 cases r with
 |none=>simp only[execOp,d,Vb,Vjd,Vm,Vd,Va,run_newObj];rfl
 |some x=>
  have e:=hF.eval x;simp only at c
  cases b:Zt F x<;>rw[b]at c<;>simp [KF]at c
  rename_i t y
  cases t<;>simp at c
  rw[b]at e;simp only[execOp,d,Vb,Vjd,Vl,underlying,run_program,f,Vd,Va,e.int,asInt,asIntOf,run_newObj];rfl
theorem ZnW{T:TypeId}{r:Option Operand}(n:ZX P E)(f:RH B H w g ow)(hF:Fr w g F a.tmps)(j:∀id,g.K id->id<nid\/nid+K8<=id)(c:o.op=.makeMap T r)
 (h:(ZG E nid o.op o.type (Zt F)).run H []=some ((v,patch),rd)):Zo B (Zn H patch) w g nid v ((execOp a.eval o).run P w):=by
 rw[c]at h;simp only[ZG,Zu,ZD]at h;obtain⟨m,p,h⟩:=h;obtain⟨K,V,l,q,s⟩:=n.mty T m p;rcases h with ⟨_,h⟩|⟨_,h⟩
 ·split at h
  ·rename_i u t;simp only[ZD,Zd,Zb,ZJ,ZY,Vc,Ve]at h;obtain⟨⟨b,d⟩,⟨rfl,rfl⟩,_⟩:=h;refine Zo.new (t:=.sl t) (sv:=undef) f j (val:=.map (some w.heap.size)) (o:=.map #[] 0) (ZlO hF l d c) ?_ ?_
   ·refine⟨by simp [Gh.add],by simp [Gh.add],⟨by simp,by simp,by simp⟩,by simp,fun k _=>by simp [Gh.add],w.heap.size, #[],0,by simp [Gh.add],rfl,Gv _ _,⟨rfl,fun i e h=>by simp at h⟩,trivial⟩
   ·refine Kx ?_ rfl rfl;simp only[CV];exact⟨.inl rfl,w.heap.size,by simp [Gh.add],rfl⟩
  ·simp [Zb]at h
 simp only[Zd,Zb,ZJ,ZY,Vc,Ve]at h;obtain⟨⟨b,d⟩,⟨rfl,rfl⟩,_⟩:=h;refine Zo.new (t:=.unit) (sv:=undef) f j (val:=.map (some w.heap.size)) (o:=.map #[] 0) (ZlO hF l d c) ?_ ?_
 ·exact⟨w.heap.size, #[],0,by simp [Gh.add],rfl,Gv _ _,Bn.empty 0,trivial⟩
 ·refine Kx ?_ rfl rfl;simp only[CV];exact⟨.inl rfl,w.heap.size,by simp [Gh.add],rfl⟩
theorem ZnU{T:TypeId}{m k:Operand}{ok:Bool}(D:ZX P E)(hR:RH B H w g ow)(hF:Fr w g F a.tmps)(ho:o.op=.lookup T m k ok)
 (h:(ZG E nid o.op o.type (Zt F)).run H []=some ((v,patch),rd)):Zo B (Zn H patch) w g nid v ((execOp a.eval o).run P w):=by
 rw[ho]at h;simp only[ZG,Zu]at h;obtain⟨mt,Z,h⟩:=h;obtain⟨K,V,hu,O,hV⟩:=D.mty T mt Z;have hm:=hF.eval m;have A:=hF.eval k;split at h
 ·rename_i id l x W U;rw[ZN]at h;split at h
  ·rename_i a8 vt es hH;simp only[ZD,Zu,Zd,Zb,ZJ,ZY,Ve,Kd,Vc]at h;obtain⟨⟨⟨⟨c,rfl⟩,rfl⟩,R⟩,y,hy,⟨rfl,rfl⟩,_⟩:=h;obtain⟨rfl,rfl⟩:=Kv hy;obtain⟨a4,b,hb,hv⟩:=(W▸hm).mp;obtain⟨_,b',n,clock,p,hJ,hh,b0,r⟩:=hR.objs id _ hH;rw[hb]at p;cases p;rw[U]at A;have s:Ki w g (.d mt.1 y) (a.eval k):=A
   have q:=Zcv (w:=w) D n.isEmpty _ mt.1 K y (a.eval k) 10000 (Via _) O (by simp only[Ty.keyOk,Ve]at c;grind) (by simp only[Ty.keyOk,Ve]at c;have:=Vh c.2;omega) s
   have f:=Zcw D O c s es n.toList (r.mono (by grind));have i:(getObj b).run P w=.ok (.map n clock) w:=by simp only[getObj,Veb,hh]
   obtain⟨z,hz,a7⟩:=(D.ty V mt.2 hV).run_zero w;have a1:=(a7 w g).1;have a1:=ZuC R a1
   have L:∃u,(Vua T (a.eval m) (a.eval k) ok).run P w=.ok (if ok then .tuple #[u,.bool (ZK (Zj mt.1) y es).isSome] else u) w/\Ki w g (.d mt.2 ((ZK (Zj mt.1) y es).getD (zeroEl mt.2))) u:=by
    rw[G1]
    cases C:WJ (Zj mt.1) y es with
    |none=>
     rw[C]at f;refine⟨z,?_,by grind⟩;simp only[Vua,underlying,Vb,run_program,Va,hu,Vd,hv,i,q,f,Vm,hz]
     rfl
    |some j=>
     rw[C]at f;obtain⟨e,S,_⟩:=DD _ _ _ _ C;obtain⟨me,M,h1,h2⟩:=r.get j e S;refine⟨me.val,?_,by grind⟩;simp only[Vua,underlying,Vb,run_program,Va,hu,Vd,hv,i,q,f,Vl,M,Vca,Za,S];rfl
   obtain⟨u,G,J⟩:=L
   refine Zo.pure (val:=if ok then .tuple #[u,.bool (ZK (Zj mt.1) y es).isSome] else u) hR ?_ ?_
   ·simp only[execOp,ho,Vb,G,Va,Vd]
   ·cases ok with
    |true=>exact⟨[u,.bool _],rfl,u,_,rfl,J,.bool _,[],rfl,JG _,rfl⟩
    |false=>assumption
  ·rename_i a8 t es u0 hH;simp only[ZD,Zu,Zd,Zb,ZJ,ZY,Ve,Kd,Vc]at h;obtain⟨⟨⟨c,X⟩,Y⟩,y,hy,⟨rfl,rfl⟩,_⟩:=h;obtain⟨rfl,rfl⟩:=Kv hy;obtain⟨a4,b,hb,hv⟩:=(W▸hm).mp;obtain⟨_,b4,a9,a5,b3,Q,b',n,clock,p,hJ,hh,b1,r⟩:=hR.objs id _ hH;rw[hb]at p;cases p;rw[U]at A;have s:Ki w g (.d l y) (a.eval k):=A;rw[X]at O;rw[Y]at hV
   have q:=Zcv (w:=w) D n.isEmpty _ l K y (a.eval k) 10000 (Via _) O (Df c) (by simp only[Ty.keyOk,Ve]at c;have:=Vh c.2;omega) s
   have f:=Zcw D O c s es n.toList (r.mono (by grind));have i:(getObj b).run P w=.ok (.map n clock) w:=by simp only[getObj,Veb,hh]
   have hz:=Ze1 (D.ty V (.sl t) hV) w
   have L:(Vua T (a.eval m) (a.eval k) ok).run P w=.ok (if ok then .tuple #[g.row id l y,.bool (ZK (Zj l) y es).isSome] else g.row id l y) w/\(g.row id l y).oneCell'=true/\Z8 (g.row id l y)=false:=by
    rw[G1]
    cases C:WJ (Zj l) y es with
    |none=>
     rw[C]at f;have a0:g.row id l y=.slice none 0 0:=Q y (Zaj (Df c) (by rw[G1,C];rfl));rw[a0];refine⟨?_,rfl,rfl⟩;simp only[Vua,underlying,Vb,run_program,Va,hu,Vd,hv,i,q,f,Vm,hz]
     rfl
    |some j=>
     rw[C]at f;obtain⟨e,S,a3⟩:=DD _ _ _ _ C;have a2:=(JA (Df c)).1 a3;obtain⟨me,M,h1,h2⟩:=r.get j e S;rw[<-a2]at h2;have a6:=(a5.rd y e.2 (by grind) (by simp)).one;refine⟨?_,a6⟩;simp only[Vua,underlying,Vb,run_program,Va,hu,Vd,hv,i,q,f,Vl,M,Vca,Za,S,h2];rfl
   obtain⟨G,J,b2⟩:=L;have N:Ki w g (.nw id u0 l y) (g.row id l y):=VR.to1 (Kx (a:=.nw id u0 l y) (by simp only[CV];grind) J rfl) (by simp)
   refine Zo.pure (val:=if ok then .tuple #[g.row id l y,.bool (ZK (Zj l) y es).isSome] else g.row id l y) hR ?_ ?_
   ·simp only[execOp,ho,Vb,G,Va,Vd]
   ·cases ok with
    |true=>exact⟨[g.row id l y,.bool _],rfl,g.row id l y,_,rfl,N,.bool _,[],rfl,JG _,rfl⟩
    |false=>assumption
  ·simp [Zb]at h
 ·simp [Zb]at h
theorem Zhm(v:Value):∃w',(Vhc v v).run P w=.ok v w' /\W2 w w' :=by
 unfold Vhc
 cases Instr.sameBits 10000 v v with
 |true=>exact⟨w,rfl,.refl w⟩
 |false=>
  refine⟨{w with drawn:=w.drawn+1},?_,⟨rfl,rfl,rfl,⟨rfl,by simp⟩⟩⟩;simp only[Vy,if_false,Vb,run_choose,Question.forced,Vd,ite_self];rfl
theorem Ix.push{es:Array MapEntry}{clock:Nat}(h:Ix es clock){e:MapEntry}(f:e.born=clock):Ix (es.push e) (clock+1):=by
 obtain⟨c,d⟩:=h;refine⟨by simp [c],fun i x b=>?_⟩;rw[Array.getElem?_push]at b;split at b
 ·cases b;omega
 ·exact d i x b
theorem Ix.modify{es:Array MapEntry}{clock:Nat}(h:Ix es clock){i:Nat}{f:MapEntry->MapEntry}(k:∀e,(f e).born=e.born):Ix (es.modify i f) clock:=by
 obtain⟨d,c⟩:=h;refine⟨by simp [d],fun j x b=>?_⟩;rw[Array.getElem?_modify]at b;split at b
 ·obtain⟨y,l,rfl⟩:=Vr.1 b;rw[k];exact c j y l
 ·exact c j x b
def Yg(g:Gh)(id:Nat)(c:Ty)(y:El c)(v:Value):(b:Ty)->El b->Value:=fun b k=>if h:b=c then(if Zj c (h▸k) y then v else g.row id b k) else g.row id b k
theorem Zhj{id:Nat}{b:Ty}{y:El b}{v:Value}(c:b.key=true)(k:El b)(d:k≠y):Yg g id b y v b k=g.row id b k:=by
 have:Zj b k y=false:=by
  cases e:Zj b k y
  ·rfl
  ·exact absurd ((JA c).1 e) d
 unfold Yg
 grind
theorem Zhi{id:Nat}{c:Ty}{y:El c}{v:Value}(b:c.key=true):Yg g id c y v c y=v:=by simp [Yg,(JA b).2 rfl]
theorem ZkC{i t:Ty}{es:List (El i×List (El t))}{u id b clock:Nat}{hole:Option (El i)}{y:El i}{ys:List (El t)}{ids:List Nat}{b3:Array MapEntry}{N:Value}{w1:World}{es' :Array MapEntry}{c' :Nat}{r:Result Next}(O:RH B H w g ow)(f:i.key=true)(a5:g.K id)(n:H id≠none)(b1:g.ty id=.sl t)(b5:g.ver id=u)(b8:u+1<=nid)
 (a0:RF w g.I (ow id) t (g.blk id) (g.row id i) (fun k x=>(k,x)∈es) hole) (Z:(es.map Vka).Nodup) (W:∀k,k ∉ es.map Vka->g.row id i k=.slice none 0 0) (hb:g.blk id=some b) (hJ:ow id b) (hh:w.heap[b]? =some (.map b3 clock)) (S:hole=none\/hole=some y) (X:id ∉ ids)
 (D:K7 w g.I (ZF H ow ids) t ys N) (hs:W2 w w1) (hr:r=.ok .skip {w1 with heap:=w1.heap.setIfInBounds b (.map es' c')}) (Y:Ix es' c')
 (R:∀w2,Kf g.I w w2->Fa (fun kv (e:MapEntry)=>Ki w2 g (.d i kv.1) e.key/\e.val=Yg g id i y N i kv.1) (Kh (Zj i) y ys es) es'.toList):
 Zo B (Zn H (ids.map (fun id=>(id,none))++[(id,some (.mrows i t (Kh (Zj i) y ys es) nid none))])) w g nid .junk r:=by
 have s:∀k,Zn H (ids.map fun id=>(id,none)) k≠none->k ∉ ids/\H k≠none:=by
  intro k A;rw[Da]at A
  grind
 have a6:∀l,ZF H ow ids l->¬ow id l:=fun l ⟨k,T,L,U⟩ V=>X (O.dist id k l n L V U▸T);have C:∀k,k≠y->Yg g id i y N i k=g.row id i k:=fun k A=>Zhj f k A;have G:Yg g id i y N i y=N:=Zhi f;have a2:RH B (Zn H (ids.map fun id=>(id,none))) w1 g ow:=(O.drops ids).same hs
 have m:∀k,k≠b->({w1 with heap:=w1.heap.setIfInBounds b (.map es' c')} :World).heap[k]? =w1.heap[k]? :=by
  grind
 have b4:=O.sep id b n hJ
 have M:Kf g.I w {w1 with heap:=w1.heap.setIfInBounds b (.map es' c')} :=fun k A=>by rw[m k (by grind),hs.heap]
 have a1:∀k,k≠b->({w1 with heap:=w1.heap.setIfInBounds b (.map es' c')} :World).heap[k]? =w.heap[k]? :=fun k A=>by rw[m k A,hs.heap]
 have a4:∀{J:Nat->Prop}{x:List (El t)}{hd:Value},K7 w g.I J t x hd->∀l,K2 hd=some l->l≠b:=by
  intro J x hd a9 l c e;subst e;rcases a9 with ⟨_,rfl⟩|⟨b2,cap,cells,e,b6,rfl,_,U,_⟩
  ·simp [K2]at c
  ·simp only[K2,Option.some.injEq]at c
   grind
 rw[J2];refine⟨undef, {w1 with heap:=w1.heap.setIfInBounds b (.map es' c')},g.bump id nid (Yg g id i y N),JU ow id (fun l=>ow id l\/ZF H ow ids l),.inr ⟨hr,rfl⟩,?_,Gh.le_bump (by omega),M,Hb,fun _ h=>.inl h⟩;refine a2.bump (id:=id) (v:=nid) a5 (by omega) (fun l c=>?_) (by simp) rfl rfl ⟨rfl,Vg _⟩ (fun l T L=>m l fun e=>?_) (fun l c=>?_) ?_
 ·rcases c with c|⟨k,A,T,L⟩
  ·grind
  ·refine m l fun e=>A ?_;subst e;exact(O.dist id k l n (s k T).2 hJ L).symm
 ·grind
 ·have b0:({w1 with heap:=w1.heap.setIfInBounds b (.map es' c')} :World).heap.size=w.heap.size:=by show (w1.heap.setIfInBounds b _).size=_;rw[<-hs.heap];simp
  rw[b0];rcases c with c|⟨k,T,L,U⟩
  ·obtain⟨p,q,r⟩:=O.sep id l n c;exact⟨p,q,r,fun k A V h5=>A (O.dist k id l (s k V).2 n h5 c)⟩
  ·obtain⟨p,q,r⟩:=O.sep k l L U;refine⟨p,q,r,fun k' A V h5=>(s k' V).1 ?_⟩;have:=O.dist k' k l (by grind) L h5 U
   grind
 ·have z:(g.bump id nid (Yg g id i y N)).row id i=Yg g id i y N i:=by show (if id=id then Yg g id i y N else g.row id) i=_;simp
  refine⟨b1,Zr rfl,?_,Zft f Z,fun q hq=>?_,b,es',c',hb,.inl hJ,?_,Y,?_⟩
  ·rw[z];refine a0.put (k0:=y) (x0:=ys) C (fun j x Q=>Zd7 f Z Q) S ?_ (fun j x Q hj hr=>?_) fun l c=>?_
   ·rw[G];exact D.mono M (by simp) (by grind) (by grind)
   ·exact hr.mono M (by simp) (by grind) (by grind)
   ·rw[G]at c;have a8:=D.own c;refine⟨fun j x Q hj a3=>a6 l a8 ?_,by grind⟩;have a7:hole≠some j:=by grind
    exact(a0.rd j x Q a7).own a3
  ·rw[z]
   have b7:y∈(Kh (Zj i) y ys es).map Vka:=by
    by_cases h:y∈es.map Vka
    ·rw[(DF f).1 h];exact h
    ·rw[(DF f).2 h];simp
   rw[C q (by grind)];refine W q fun h=>hq ?_;by_cases L:y∈es.map Vka
   ·rw[(DF f).1 L];exact h
   ·rw[(DF f).2 L,Vyc];grind
  ·show (w1.heap.setIfInBounds b _)[b]? =_;rw[Vfb,Zr rfl,Zr (by rw[hs.heap];omega)]
  ·rw[z];exact(R _ M).mono fun kv e Q=>⟨⟨by have:=Q.1.1;assumption,Q.1.2⟩,Q.2⟩
theorem ZnY{T:TypeId}{m k x:Operand}(hT:ZX P E)(hR:RH B H w g ow)(hF:Fr w g F a.tmps)(ho:o.op=.mapUpdate T m k x)
 (h:(ZG E nid o.op o.type (Zt F)).run H []=some ((v,patch),rd)):Zo B (Zn H patch) w g nid v ((execOp a.eval o).run P w):=by
 rw[ho]at h;simp only[ZG,Zu]at h;obtain⟨mt,c4,h⟩:=h;obtain⟨K,V,hu,hK,hV⟩:=hT.mty T mt c4;have hm:=hF.eval m;have a0:=hF.eval k;have b0:=hF.eval x;split at h
 ·rename_i id J y0 vt z0 a5 a3 a9;rw[ZN]at h;split at h
  ·rename_i d6 e3 es hH;simp only[ZD,Zu,Zd,Zb,ZJ,ZY,Ve,Kd,Vc]at h;obtain⟨⟨f,rfl⟩,y,hy,u,d5,⟨rfl,rfl⟩,_⟩:=h;obtain⟨rfl,rfl⟩:=Kv hy;obtain⟨rfl,rfl⟩:=Kv d5;obtain⟨b4,b,hb,hv⟩:=(a5▸hm).mp;obtain⟨_,b',c,clock,Q,hJ,hh,b2,s⟩:=hR.objs id _ hH;rw[hb]at Q;cases Q;rw[a3]at a0;rw[a9]at b0;have z:Ki w g (.d mt.1 y) (a.eval k):=a0;have c7:Ki w g (.d vt u) (a.eval x):=b0
   have R:=Zcv (w:=w) hT false _ mt.1 K y (a.eval k) 10000 (Via _) hK (by simp only[Ty.keyOk,Ve]at f;grind) (by simp only[Ty.keyOk,Ve]at f;have:=Vh f.2;omega) z
   have D:=Zcw hT hK f z es c.toList (s.mono (by grind));have G:(getObj b).run P w=.ok (.map c clock) w:=by simp only[getObj,Veb,hh]
   have fin:∀(q:World) (i:Array MapEntry) (O:Nat),W2 w q->(Vla T (a.eval m) (a.eval k) (a.eval x)).run P w=.ok () {q with heap:=q.heap.setIfInBounds b (.map i O)} ->Bn i O->
    ZmT w g mt.1 vt (Kh (Zj mt.1) y u es) i.toList->Zo B (Zn H [(id,some (.map mt.1 vt (Kh (Zj mt.1) y u es)))]) w g nid .junk ((execOp a.eval o).run P w):=by
    intro q i O hs Z b3 L;have c8:=hR.same hs
    have S:∀k,k≠b->({q with heap:=q.heap.setIfInBounds b (.map i O)} :World).heap[k]? =q.heap[k]? :=by
     grind
    have e1:=hR.sep id b (by grind) hJ
    have C:Kf g.I w {q with heap:=q.heap.setIfInBounds b (.map i O)} :=fun k hk=>by rw[S k (by grind),hs.heap]
    have d7:Kf g.I q {q with heap:=q.heap.setIfInBounds b (.map i O)} :=fun k hk=>by grind
    refine⟨undef,_,g,ow,.inr ⟨?_,rfl⟩,c8.write (by grind) hJ S (by simp) rfl rfl ⟨rfl,Vg _⟩ ?_,.refl g,C,Hb,by grind⟩
    ·simp only[execOp,ho,Vb,Z,Va,Vd]
    ·refine⟨b,i,O,hb,hJ,?_,b3,L.mono fun p e hp=>⟨hp.1.mono C (.refl g),hp.2.mono C (.refl g)⟩⟩;show (q.heap.setIfInBounds b _)[b]? =_;rw[Vfb,Zr rfl,Zr (by rw[hs.heap];omega)]
   cases N:WJ (Zj mt.1) y es with
   |none=>
    rw[N]at D;refine fin w (c.push {key:=a.eval k,val:=a.eval x,born:=clock}) (clock+1) (.refl w) ?_ (b2.push rfl) ?_
    ·simp only[Vla,underlying,Vb,run_program,Va,hu,Vd,hv,G,R,D,Vm];simp only[setObj,Veb,hh]
    ·rw[DE,N,Vjc]
     exact s.append ⟨⟨z,c7⟩,trivial⟩
   |some j=>
    rw[N]at D;obtain⟨e,he,M⟩:=DD _ _ _ _ N;obtain⟨me,d1,h1,h2⟩:=s.get j e he
    have U:y=e.1:=by
     unfold Zj at M
     cases hq:eqEl mt.1 y e.1 with
     |none=>grind
     |some r=>rw[hq]at M;simp at M;subst M;exact Zju _ _ _ hq
    have W:me.key=a.eval k:=ZgI (t:=mt.1) (x:=y) (by simp only[Ty.keyOk,Ve]at f;grind) (U▸h1) z;obtain⟨q,a8,hs⟩:=Zhm (P:=P) (w:=w) (a.eval k);have X:c[j]? =some me:=by grind
    refine fin q (c.modify j fun e=>{e with key:=a.eval k,val:=a.eval x}) clock hs ?_ (b2.same ?_) ?_
    ·simp only[Vla,underlying,Vb,run_program,Va,hu,Vd,hv,G,R,D,Vl,X,W,Vca,a8];have a1:q.heap[b]? =some (.map c clock):=by rw[hs.heap];omega
     simp only[setObj,Veb,a1]
    ·apply Vda
     grind
    ·rw[DE,N]
     have:(c.modify j fun e=>{e with key:=a.eval k,val:=a.eval x}).toList=c.toList.set j {me with key:=a.eval k,val:=a.eval x} :=by
      apply Vda
      grind
     rw[this];exact s.set j ⟨z,c7⟩
  ·simp [Zb]at h
 ·rename_i id J y0 i2 a5 a3 a9;rw[ZN]at h;split at h
  ·rename_i d6 t es u Y hH;simp only[ZD,Zu,ZQ,Zd,Zb,ZJ,ZY,Ve,Kd,Vc]at h;obtain⟨⟨⟨⟨f,c2⟩,d9⟩,a4⟩,y,hy,_,c9,⟨ys,ids⟩,m2,A,⟨rfl,rfl⟩,_⟩:=h;obtain⟨rfl,rfl⟩:=Kv hy;have a4:=Vh a4;obtain⟨b4,b,hb,hv⟩:=(a5▸hm).mp;have b5:H id≠none:=by grind
   obtain⟨_,d4,c6,d2,c5,b1,b',c,clock,Q,hJ,hh,b7,s⟩:=hR.objs id _ hH;rw[hb]at Q;cases Q;rw[a3]at a0;have z:Ki w g (.d J y) (a.eval k):=a0;rw[c2]at hK;have l:=Df f;have a7:=Zcn hR (a9▸b0) A
   have R:=Zcv (w:=w) hT false _ J K y (a.eval k) 10000 (Via _) hK l (by simp only[Ty.keyOk,Ve]at f;have:=Vh f.2;omega) z
   have D:=Zcw hT hK f z es c.toList (s.mono (by grind));have G:(getObj b).run P w=.ok (.map c clock) w:=by simp only[getObj,Veb,hh]
   have a2:Y=none\/Y=some y:=by
    cases Y with
    |none=>simp
    |some j=>exact .inr (by rw[(JA l).1 (X9 c9)])
   have b6:id ∉ ids:=fun hm=>by
    simp only[Jb]at A;rw[ZN]at A;split at A
    ·rename_i c1;simp only[Zu,Zd,Vc]at A
     grind
    ·simp [Zb]at A
   have a6:∀k,k≠y->Yg g id J y (a.eval x) J k=g.row id J k:=fun k hk=>Zhj l k hk;have d3:Yg g id J y (a.eval x) J y=a.eval x:=Zhi l
   have fin:∀(q:World) (i:Array MapEntry) (O:Nat),W2 w q->(Vla T (a.eval m) (a.eval k) (a.eval x)).run P w=.ok () {q with heap:=q.heap.setIfInBounds b (.map i O)} ->Ix i O->
    (∀w2,Kf g.I w w2->Fa (fun kv (e:MapEntry)=>Ki w2 g (.d J kv.1) e.key/\e.val=Yg g id J y (a.eval x) J kv.1) (Kh (Zj J) y ys es) i.toList)->Zo B (Zn H (ids.map (fun id=>(id,none))++[(id,some (.mrows J t (Kh (Zj J) y ys es) nid none))])) w g nid .junk ((execOp a.eval o).run P w):=by
    intro q i O hs Z b8 L;exact ZkC hR l b4 b5 d4 c6 a4 d2 c5 b1 hb hJ hh a2 b6 a7 hs (by simp only[execOp,ho,Vb,Z,Va,Vd]) b8 L
   have d8:∀w2,Kf g.I w w2->Ki w2 g (.d J y) (a.eval k):=fun w2 C=>z.mono C (.refl g)
   cases N:WJ (Zj J) y es with
   |none=>
    rw[N]at D;have e2:y ∉ es.map Vka:=Zaj l (by rw[G1,N];rfl);refine fin w (c.push {key:=a.eval k,val:=a.eval x,born:=clock}) (clock+1) (.refl w) ?_ (b7.push rfl) fun w2 C=>?_
    ·simp only[Vla,underlying,Vb,run_program,Va,hu,Vd,hv,G,R,D,Vm];simp only[setObj,Veb,hh]
    ·rw[DE,N,Vjc];refine(ZaB s.length fun n kv e h1 h2=>?_ :Fa _ es c.toList).append ⟨by grind,trivial⟩;have:=ZdK s h1 h2;refine⟨this.1.mono C (.refl g),?_⟩
     grind
   |some j=>
    rw[N]at D;obtain⟨e,he,M⟩:=DD _ _ _ _ N;have U:=(JA l).1 M;obtain⟨me,d1,h1,h2⟩:=s.get j e he;have W:me.key=a.eval k:=ZgI (t:=J) (x:=y) l (U▸h1) z;obtain⟨q,a8,hs⟩:=Zhm (P:=P) (w:=w) (a.eval k);have X:c[j]? =some me:=by grind
    refine fin q (c.modify j fun e=>{e with key:=a.eval k,val:=a.eval x}) clock hs ?_ (b7.modify fun _=>rfl) fun w2 C=>?_
    ·simp only[Vla,underlying,Vb,run_program,Va,hu,Vd,hv,G,R,D,Vl,X,W,Vca,a8];have a1:q.heap[b]? =some (.map c clock):=by rw[hs.heap];omega
     simp only[setObj,Veb,a1]
    ·rw[DE,N]
     have:(c.modify j fun e=>{e with key:=a.eval k,val:=a.eval x}).toList=c.toList.set j {me with key:=a.eval k,val:=a.eval x} :=by
      apply Vda
      grind
     rw[this];refine ZaB (by simp [s.length]) fun n kv en g1 g2=>?_;rw[Vic]at g1 g2;split at g1
     ·grind
     ·rename_i b9;rw[Zf b9]at g2;have:=ZdK s g1 g2;refine⟨this.1.mono C (.refl g),?_⟩;rw[a6 kv.1 fun e4=>b9 ?_]
      ·grind
      ·have d0:(es.map Vka)[j]? =some y:=by grind
       have c1:(es.map Vka)[n]? =some y:=by grind
       exact(List.getElem?_inj (by grind) c5).1 (d0.trans c1.symm)
  ·simp [Zb]at h
 ·simp [Zb]at h
end ops
end Tr
end
section
namespace Tr
open Go
section ops
variable {P:Program}{E:Z3}{B:ZS}{H:AH}{w:World}{g:Gh}{ow:Nat->Nat->Prop}{nid:Nat}{a:Act}{F:Nat->AV}{v:AV}{patch:Kq}{rd:List Nat}{o:Oper}
theorem Zeu{op:BinOp}{k:IntKind}{x y:Int}{T:TypeId}{z:Int}(h:(Op.intBits op k x y).run P w=.ok (.int k z) w)(b:op=.and\/op=.or\/op=.xor\/op=.andNot):(binOp op T (.int k x) (.int k y)).run P w=.ok (.int k z) w:=by
 rcases b with rfl|rfl|rfl|rfl<;>simp [binOp,h]
theorem Za7{op:BinOp}{k:IntKind}{x y:Int}{T:TypeId}{b:Bool}(h:(Op.intCmp op x y).run P w=.ok (.bool b) w)(c:op=.eql\/op=.neq\/op=.lss\/op=.leq\/op=.gtr\/op=.geq):(binOp op T (.int k x) (.int k y)).run P w=.ok (.bool b) w:=by
 rcases c with rfl|rfl|rfl|rfl|rfl|rfl<;>simp [binOp,h]
theorem ZsH{k:IntKind}{x y z:Int}(h:Zg8 k x y=some z):y≠0/\z=k.wrap (x.tdiv y):=by
 unfold Zg8 at h;split at h
 ·simp at h
 ·rename_i b;exact⟨b,by simpa using h.symm⟩
theorem ZsI{x y z:Int}(h:Zg9 x y=some z):y≠0/\z=x.tmod y:=by
 unfold Zg9 at h;split at h
 ·simp at h
 ·rename_i b;exact⟨b,by simpa using h.symm⟩
theorem ZsJ{k:IntKind}{x y z:Int}(h:GH k x y=some z):¬y<0/\z=k.wrap (x*2 ^ (min y.toNat k.bits)):=by
 unfold GH at h;split at h
 ·simp at h
 ·rename_i b;exact⟨b,by simpa using h.symm⟩
theorem ZsK{k:IntKind}{x y z:Int}(h:Zeo k x y=some z):¬y<0/\z=x.fdiv (2 ^ (min y.toNat k.bits)):=by
 unfold Zeo at h;split at h
 ·simp at h
 ·rename_i b;exact⟨b,by simpa using h.symm⟩
theorem Znp{op:BinOp}{k:IntKind}{x y:Int}{l d:List Nat}{T:TypeId}(h:(Rk op k x y).run H l=some (v,d)):∃val,(binOp op T (.int k x) (.int k y)).run P w=.ok val w/\VR w g v val/\d=l:=by
 cases op<;>simp only[Rk,Zd,Zu]at h
 case add=>obtain⟨rfl,rfl⟩:=h;exact⟨.int k (k.wrap (x+y)),by simp [binOp,Op.intArith],W4 _ _,rfl⟩
 case sub=>obtain⟨rfl,rfl⟩:=h;exact⟨.int k (k.wrap (x - y)),by simp [binOp,Op.intArith],W4 _ _,rfl⟩
 case mul=>obtain⟨rfl,rfl⟩:=h;exact⟨.int k (k.wrap (x*y)),by simp [binOp,Op.intArith],W4 _ _,rfl⟩
 case quo=>obtain⟨z,c,rfl,rfl⟩:=h;obtain⟨b,rfl⟩:=ZsH c;exact⟨_,by simp [binOp,Op.intDiv,b],W4 _ _,rfl⟩
 case rem=>obtain⟨z,c,rfl,rfl⟩:=h;obtain⟨b,rfl⟩:=ZsI c;exact⟨_,by simp [binOp,Op.intDiv,b],W4 _ _,rfl⟩
 case and=>obtain⟨rfl,rfl⟩:=h;exact⟨_,Zeu rfl (.inl rfl),W4 _ _,rfl⟩
 case or=>obtain⟨rfl,rfl⟩:=h;exact⟨_,Zeu rfl (.inr (.inl rfl)),W4 _ _,rfl⟩
 case xor=>obtain⟨rfl,rfl⟩:=h;exact⟨_,Zeu rfl (.inr (.inr (.inl rfl))),W4 _ _,rfl⟩
 case andNot=>obtain⟨rfl,rfl⟩:=h;exact⟨_,Zeu rfl (.inr (.inr (.inr rfl))),W4 _ _,rfl⟩
 case shl=>obtain⟨z,c,rfl,rfl⟩:=h;obtain⟨b,rfl⟩:=ZsJ c;exact⟨_,by simp [binOp,Op.shift,b],W4 _ _,rfl⟩
 case shr=>obtain⟨z,c,rfl,rfl⟩:=h;obtain⟨b,rfl⟩:=ZsK c;exact⟨_,by simp [binOp,Op.shift,b],W4 _ _,rfl⟩
 case eql=>obtain⟨rfl,rfl⟩:=h;exact⟨_,Za7 rfl (.inl rfl),JG _,rfl⟩
 case neq=>obtain⟨rfl,rfl⟩:=h;exact⟨_,Za7 rfl (.inr (.inl rfl)),JG _,rfl⟩
 case lss=>obtain⟨rfl,rfl⟩:=h;exact⟨_,Za7 rfl (.inr (.inr (.inl rfl))),JG _,rfl⟩
 case leq=>obtain⟨rfl,rfl⟩:=h;exact⟨_,Za7 rfl (.inr (.inr (.inr (.inl rfl)))),JG _,rfl⟩
 case gtr=>obtain⟨rfl,rfl⟩:=h;exact⟨_,Za7 rfl (.inr (.inr (.inr (.inr (.inl rfl))))),JG _,rfl⟩
 case geq=>obtain⟨rfl,rfl⟩:=h;exact⟨_,Za7 rfl (.inr (.inr (.inr (.inr (.inr rfl))))),JG _,rfl⟩
theorem Zoo{op:BinOp}{x y:List UInt8}{l f:List Nat}{T:TypeId}(h:(Zfw op x y).run H l=some (v,f)):∃val,(binOp op T (.string ⟨x.toArray⟩) (.string ⟨y.toArray⟩)).run P w=.ok val w/\VR w g v val/\f=l:=by
 have d:(x==y)=decide (x=y):=by rw[Vwc];simp
 cases op<;>simp only[Zfw,Zd,Zu,Zb]at h
 case add=>
  obtain⟨z,b,rfl,rfl⟩:=h;simp only[catStr]at b
  cases c:decide (x.length+y.length<2 ^ 62) with
  |false=>rw[c]at b;simp at b
  |true=>
   rw[c]at b;simp only[Zc,Option.some.injEq]at b;subst b;refine⟨_,?_,Zbu _,rfl⟩;have i:x.length+y.length<2 ^ 62:=by simpa using c
   have e:¬(((⟨x.toArray⟩:ByteArray).size+(⟨y.toArray⟩:ByteArray).size:Nat):Int) >Vra.max:=by
    have:Vra.max=9223372036854775807:=by decide
    rw[this];simp [ByteArray.size];omega
   simp only[binOp,Op.stringOp,e,if_false,Vd];congr 2
 all_goals
  obtain⟨rfl,rfl⟩:=h;refine⟨_,?_,JG _,rfl⟩;simp only[binOp,Op.stringOp,ZeI,Vd,d]
theorem Za6{op:BinOp}{T:TypeId}{x y:Operand}{vx d:Value}(b:vx≠ .nilIface)(c:Z8 vx=false):(eqGuard op T x y vx d).run P w=.ok () w:=by
 unfold eqGuard
 cases vx<;>first|exact absurd rfl b|(simp [Z8]at c;done) |(split<;>rfl)
theorem Zte(h:ZX P E){T:TypeId}{t:Ty}(i:E.ty T=some t){op:BinOp}{x y:Operand}{vx d:Value}(b:Z8 vx=t.agg)(f:Z8 d=t.agg)(c:vx≠ .nilIface):(eqGuard op T x y vx d).run P w=.ok () w:=by
 cases e:t.agg with
 |true=>
  rw[e]at b f
  cases vx<;>simp [Z8]at b
  cases d<;>simp [Z8]at f
  exact run_eqGuard_agg w op T x y _ _ (h.ty T t i).guard
 |false=>
  rw[e]at b;exact Za6 c b
theorem Znh{T:TypeId}{op:BinOp}{x y:Operand}{l l' :List Nat}(hT:ZX P E)(hF:Fr w g F a.tmps)(h:(Zfn E.ty T op (Zt F x) (Zt F y)).run H l=some (v,l')):
 ∃val,(do eqGuard op T x y (a.eval x) (a.eval y);binOp op T (a.eval x) (a.eval y):Sem Value).run P w=.ok val w/\VR w g v val/\l' =l:=by
 have J:=hF.eval x;have M:=hF.eval y
 have c:∀{vx vy:Value},vx≠ .nilIface->Z8 vx=false->(eqGuard op T x y vx vy).run P w=.ok () w:=by exact fun u A=>Za6 u A
 unfold Zfn at h;split at h
 ·rename_i k m k' n f i;rw[f]at J;rw[i]at M;rw[VR.int J,VR.int M];simp only[Vb,c (vx:=.int k m) (by simp) rfl,Va];split at h
  ·simp only[Rk,Zu,Zd]at h;obtain⟨z,j,rfl,rfl⟩:=h;refine⟨_,?_,W4 _ _,rfl⟩;simp only[GH]at j;split at j
   ·simp at j
   ·rename_i G;simp only[Option.some.injEq]at j;subst j;simp [binOp,Op.shift,G]
  ·simp only[Rk,Zu,Zd]at h;obtain⟨z,j,rfl,rfl⟩:=h;refine⟨_,?_,W4 _ _,rfl⟩;simp only[Zeo]at j;split at j
   ·simp at j
   ·rename_i G;simp only[Option.some.injEq]at j;subst j;simp [binOp,Op.shift,G]
  ·simp only[ZD,Zb,ZJ,ZY,Kd]at h;obtain⟨rfl,h⟩:=h;exact Znp h
 ·rename_i s1 s2 f i;rw[f]at J;rw[i]at M;rw[VR.str J,VR.str M];simp only[Vb,c (vx:=.string ⟨s1.toArray⟩) (by simp) rfl,Va];exact Zoo h
 ·rename_i t O K y0 X Y f i
  have data:∀(r:Bool) (p:El t),E.ty T=some t->t.dep<=100->Kl K t y0=some p->eqEl t O p=some r->(Op.equal T (a.eval x) (a.eval y)).run P w=.ok r w/\(eqGuard op T x y (a.eval x) (a.eval y)).run P w=.ok () w/\
   (∀k n,a.eval x≠ .int k n)/\(∀s,a.eval x≠ .string s)/\(∀k n,a.eval x≠ .float k n)/\(∀k n m,a.eval x≠ .complex k n m)/\a.eval x≠ .nilIface:=by
   intro r p L S N q;obtain⟨rfl,rfl⟩:=Kv N;rw[f]at J;rw[i]at M;have u:Ki w g (.d K O) (a.eval x):=J;have A:Ki w g (.d K p) (a.eval y):=M;have D:Z8 (a.eval x)=K.agg:=u.2.resolve_left (by simp);have W:Z8 (a.eval y)=K.agg:=A.2.resolve_left (by simp)
   have e:(∀k n,a.eval x≠ .int k n)/\(∀s,a.eval x≠ .string s)/\(∀k n,a.eval x≠ .float k n)/\(∀k n m,a.eval x≠ .complex k n m)/\a.eval x≠ .nilIface:=by
    cases K with
    |int k=>exact(X k O k p rfl HEq.rfl rfl HEq.rfl).elim
    |str=>exact(Y O p rfl HEq.rfl rfl HEq.rfl).elim
    |bool=>rw[J.bool];simp
    |sl t=>simp [eqEl]at q
    |ref=>simp [eqEl]at q
    |pt t=>simp [eqEl]at q
    |lk a b=>simp [eqEl]at q
    |pn t=>simp [eqEl]at q
    |_=>(cases hv:a.eval x<;>rw[hv]at D<;>simp [Z8,Ty.agg]at D⊢)
   refine⟨ZlJ hT _ K T O p _ _ r 10000 (Via _) L (by omega) q u A,Zte hT L D W e.2.2.2.2,e⟩
  have C:∀(op:BinOp) (r:Bool),(op=.eql\/op=.neq)->(Op.equal T (a.eval x) (a.eval y)).run P w=.ok r w->(∀k n,a.eval x≠ .int k n)->(∀s,a.eval x≠ .string s)->(∀k n,a.eval x≠ .float k n)->(∀k n m,a.eval x≠ .complex k n m)->
   (binOp op T (a.eval x) (a.eval y)).run P w=.ok (.bool (if op=.eql then r else !r)) w:=by
   intro op r Z he u A Q R
   rcases Z with rfl|rfl<;>unfold binOp<;>cases hv:a.eval x<;>simp_all
  split at h
  ·simp only[ZD,Zu,Zd,Zb,ZJ,ZY,Ve,Kd]at h;obtain⟨⟨L,S⟩,p,N,r,q,rfl,rfl⟩:=h;obtain⟨u,A,Q,R,U,V,_⟩:=data r p L (Vh S) N q;refine⟨.bool r,?_,JG _,rfl⟩;simp only[Vb,A,Va,C .eql r (.inl rfl) u Q R U V,if_true]
  ·simp only[ZD,Zu,Zd,Zb,ZJ,ZY,Ve,Kd]at h;obtain⟨⟨L,S⟩,p,N,r,q,rfl,rfl⟩:=h;obtain⟨u,A,Q,R,U,V,_⟩:=data r p L (Vh S) N q;refine⟨.bool (!r),?_,JG _,rfl⟩;simp only[Vb,A,Va,C .neq r (.inr rfl) u Q R U V];simp
  ·simp [Zb]at h
 ·simp [Zb]at h
end ops
end Tr
end
section
namespace Tr
open Go
section ops
variable {P:Program}{E:Z3}{B:ZS}{H:AH}{w:World}{g:Gh}{ow:Nat->Nat->Prop}{nid:Nat}{a:Act}{F:Nat->AV}{v:AV}{patch:Kq}{rd:List Nat}{o:Oper}
def _root_.Go.Operand.eval' :Operand->Value
 |.const v=>v
 |_=>undef
theorem Zr8{T:TypeId}{u:AV}{vx:Value}{y:Operand}(z:ZX P E)(p:VR w g u vx)(h:Zec (E.pk T) u y=true):
 (Op.equal T vx y.eval').run P w=.ok false w/\(vx≠ .nilIface/\Z8 vx=false)/\ ∀op,(op=.eql->(binOp op T vx y.eval').run P w=.ok (.bool false) w)/\(op=.neq->(binOp op T vx y.eval').run P w=.ok (.bool true) w):=by
 obtain⟨A,C,D⟩:=z.pk T;unfold Zec at h;split at h
 ·simp only[Ve,Vad]at h;obtain⟨i,h⟩:=h;obtain⟨e,c⟩:=A i;split at h
  ·obtain⟨_,q,t,b,_,_,rfl⟩:=p.ptr
   have key:(Op.equal T (.pointer (some ⟨b,q,none⟩)) (.pointer none)).run P w=.ok false w:=by
    have:∀d,(Op.equalIn (d+1) T (.pointer (some ⟨b,q,none⟩)) (.pointer none)).run P w=.ok false w:=fun d=>by simp only[Op.equalIn,underlying,Vb,run_program,Va,c,Vd]
    exact this 9999
   exact⟨key,⟨by simp,rfl⟩,fun op=>⟨fun e=>by subst e;simp only[binOp,Operand.eval',Vb,key,Va,Vd],fun e=>by subst e;simp only[binOp,Operand.eval',Vb,key,Va,Vd,Vhb]⟩⟩
  grind
 ·simp only[Ve,Vad]at h;obtain⟨i,h⟩:=h;obtain⟨s,x,G,c⟩:=C i;split at h
  ·obtain⟨r,n,_⟩:=p.fn;rename_i f l _
   obtain⟨m,k,j,rfl⟩:∃m k j,vx=.func (.func m) k j:=by
    rcases ZaK f r with ⟨_,h⟩|⟨_,h⟩
    all_goals exact⟨_,_,_,n.trans h⟩
   have key:(Op.equal T (.func (.func m) k j) .nilFunc).run P w=.ok false w:=by
    have:∀d,(Op.equalIn (d+1) T (.func (.func m) k j) .nilFunc).run P w=.ok false w:=fun d=>by simp only[Op.equalIn,underlying,Vb,run_program,Va,c,Vd]
    exact this 9999
   exact⟨key,⟨by simp,rfl⟩,fun op=>⟨fun e=>by subst e;simp only[binOp,Operand.eval',Vb,key,Va,Vd],fun e=>by subst e;simp only[binOp,Operand.eval',Vb,key,Va,Vd,Vhb]⟩⟩
  grind
 ·simp only[Ve,Vad]at h;obtain⟨i,h⟩:=h;obtain⟨s,x,c⟩:=D i;split at h
  ·obtain⟨_,b,_,rfl⟩:=p.mp
   have key:(Op.equal T (.map (some b)) (.map none)).run P w=.ok false w:=by
    have:∀d,(Op.equalIn (d+1) T (.map (some b)) (.map none)).run P w=.ok false w:=fun d=>by simp only[Op.equalIn,underlying,Vb,run_program,Va,c,Vd]
    exact this 9999
   exact⟨key,⟨by simp,rfl⟩,fun op=>⟨fun e=>by subst e;simp only[binOp,Operand.eval',Vb,key,Va,Vd],fun e=>by subst e;simp only[binOp,Operand.eval',Vb,key,Va,Vd,Vhb]⟩⟩
  grind
 grind
theorem ZnF{op:BinOp}{T l:TypeId}{x y:Operand}(f:ZX P E)(e:RH B H w g ow)(hF:Fr w g F a.tmps)(d:o.op=.binOp op T x y l)
 (h:(ZG E nid o.op o.type (Zt F)).run H []=some ((v,patch),rd)):Zo B (Zn H patch) w g nid v ((execOp a.eval o).run P w):=by
 rw[d]at h;simp only[ZG,ZD]at h;rcases h with ⟨j,h⟩|⟨_,h⟩
 ·obtain⟨q,b,c⟩:=Zr8 (w:=w) f (hF.eval x) j
  have k:a.eval y=y.eval' :=by
   cases y<;>simp [Zec]at j;rfl
  have i:∀op,(eqGuard op T x y (a.eval x) y.eval').run P w=.ok () w:=fun op=>Za6 b.1 b.2;split at h
  ·simp only[Zd,Vc]at h;obtain⟨⟨rfl,rfl⟩,_⟩:=h;refine Zo.pure e (val:=.bool false) ?_ (JG _);simp only[execOp,d,k,Vb,i,Va,(c .eql).1 rfl];rfl
  ·simp only[Zd,Vc]at h;obtain⟨⟨rfl,rfl⟩,_⟩:=h;refine Zo.pure e (val:=.bool true) ?_ (JG _);simp only[execOp,d,k,Vb,i,Va,(c .neq).2 rfl];rfl
  ·simp [Zb]at h
 simp only[ZQ,Zd,Vc]at h;obtain⟨r,m,h,⟨rfl,rfl⟩,_⟩:=h;obtain⟨val,n,p,_⟩:=Znh f hF h;refine Zo.pure e ?_ p;simp only[execOp,d];rw[Vb,n];rfl
theorem Zn9{op:UnOp}{T:TypeId}{x:Operand}(f:RH B H w g ow)(hF:Fr w g F a.tmps)(d:o.op=.unOp op T x)
 (h:(ZG E nid o.op o.type (Zt F)).run H []=some ((v,patch),rd)):Zo B (Zn H patch) w g nid v ((execOp a.eval o).run P w):=by
 rw[d]at h;simp only[ZG,ZQ,Zd,Vc]at h;obtain⟨i,m,h,⟨rfl,rfl⟩,_⟩:=h;have c:=hF.eval x;unfold aun at h;split at h
 ·rename_i b e;simp only[Zd]at h;obtain⟨rfl,_⟩:=h;rw[e]at c;refine Zo.pure f (val:=.bool (!b)) ?_ (JG _);simp only[execOp,d,VR.bool c,Op.unary,Vb,Vd,Va]
 ·rename_i k n e;simp only[Zd]at h;obtain⟨rfl,_⟩:=h;rw[e]at c;refine Zo.pure f (val:=.int k (k.wrap (0 - n))) ?_ (W4 _ _);simp only[execOp,d,VR.int c,Op.unary,Op.intArith,Vb,Vd,Va]
 ·simp [Zb]at h
theorem Zmu{T:TypeId}{k:IntKind}(e:ZX P E)(h:E.ty T=some (.int k)):P.underlying T=some (.int k):=by
 have b:=(e.ty T _ h).shape
 cases c:P.underlying T with
 |none=>rw[c]at b;simp [Z6]at b
 |some d=>rw[c]at b;cases d<;>simp [Z6]at b;grind
theorem ZeN{T:TypeId}(e:ZX P E)(h:E.ty T=some .str):P.underlying T=some .string:=by
 have b:=(e.ty T _ h).shape
 cases c:P.underlying T with
 |none=>rw[c]at b;simp [Z6]at b
 |some d=>rw[c]at b;cases d<;>simp [Z6]at b;rfl
theorem Zua{T:TypeId}{t:Ty}(c:ZX P E)(h:E.ty T=some t):∃d,P.underlying T=some d:=by
 have b:=(c.ty T _ h).shape
 cases e:P.underlying T with
 |none=>rw[e]at b;simp [Z6]at b
 |some d=>simp
theorem ZoK{x:AV}{v:Value}(b:Zar x=true)(h:VR w g x v):CV w g x [v]:=by
 unfold Zar at b;simp only[Ve,Vwa]at b;obtain⟨e,b⟩:=b;have c:Ki w g x v:=h.to1 (by intro l d;subst d;simp [YN]at b)
 have f:Z8 v=false:=by
  rcases c.2 with h|h
  ·subst h;simp [YN]at b
  grind
 have:v.cells.toList=[v]:=by cases v<;>simp_all [Vab,Z8]
 rw[<-this];exact c.1
theorem ZoM{x:AV}{v:Value}(e:Zar x=true)(h:CV w g x [v]):VR w g x v:=by
 unfold Zar at e;simp only[Ve,Vwa]at e;obtain⟨z,e⟩:=e
 have key:Z8 v=false:=by
  cases x with
  |d t y=>
   have:=Rd.oneCell t y [v] (by assumption) v (by simp)
   cases v<;>simp_all [Vna,Z8]
  |junk=>simp [YN]at e
  |tup l=>simp [YN]at e
  |agg l=>simp [YN]at e
  |jk n=>simp [YN]at e
  |op id i=>simp [YN]at e
  |dp t y=>simp only[CV]at h;obtain⟨b,off,c,h,_⟩:=h;cases h;rfl
  |ptr id p=>simp only[CV]at h;obtain⟨_,o,t,b,_,_,h⟩:=h;cases h;rfl
  |vp id i p=>simp only[CV]at h;obtain⟨_,o,t,b,_,_,h⟩:=h;cases h;rfl
  |mp id=>simp only[CV]at h;obtain⟨_,b,_,h⟩:=h;cases h;rfl
  |fn f l=>simp only[CV]at h;obtain⟨j,h,_⟩:=h;cases h;exact ZjO f j
  |nilr p=>have h:=ZaT h;rcases h with h|h|h<;>cases h<;>rfl
  |nw id ver r k=>simp only[CV]at h;obtain⟨_,_,u,h,q,_⟩:=h;cases h;cases v<;>simp_all [Vna,Z8]
  |np id ver r k i p=>simp only[CV]at h;obtain⟨_,_,s,h,_⟩:=h;cases h;rfl
  |nils=>simp only[CV]at h;cases h;rfl
  |vw id=>simp only[CV]at h;obtain⟨_,h,q⟩:=h;cases h;cases A:g.slv id<;>simp_all [Vna,Z8]
  |vs id C n=>simp only[CV,Za9]at h;obtain⟨_,⟨_,_,_,h⟩|⟨b,len,cap,m,_,_,_,_,h⟩⟩:=h<;>cases h<;>rfl
 have:v.cells.toList=[v]:=by cases v<;>simp_all [Vab,Z8]
 exact VR.of1 ⟨by grind,by grind⟩
theorem ZfG:∀(xs:List Operand),Fr w g F a.tmps->G5 (Zl.ofList (xs.map (Zt F)))=true->Z2 w g (Zl.ofList (xs.map (Zt F))) (xs.map a.eval)
 |[],_,_=>by rfl
 |x::l,b,h=>by simp only[Vs,Zl.ofList,G5,Ve]at h⊢;simp only[Z2];exact⟨[a.eval x],l.map a.eval,rfl,ZoK h.1 (b.eval x),ZfG l b h.2⟩
theorem ZiT:∀(l:Zl) (cs:List Value),G5 l=true->Z2 w g l cs->Wt w g l cs
 |.nil,cs,_,h=>by assumption
 |.cons x l,cs,j,h=>by
  simp only[G5,Ve]at j;simp only[Z2]at h;obtain⟨e,q,rfl,b,r⟩:=h;have c:=j.1
  have:∃v,e=[v]:=by
   have s:e.length=1:=by
    unfold Zar at c;simp only[Ve]at c;obtain⟨_,c⟩:=c
    cases x with
    |d t y=>simp only[YN]at c;rw[Rd.length t y e (by assumption)];simp_all
    |junk=>simp [YN]at c
    |tup l=>simp [YN]at c
    |agg l=>simp [YN]at c
    |jk n=>simp [YN]at c
    |op id i=>simp [YN]at c
    |dp t y=>simp only[CV]at b;grind
    |ptr id p=>simp only[CV]at b;grind
    |vp id i p=>simp only[CV]at b;grind
    |mp id=>simp only[CV]at b;grind
    |fn f l=>simp only[CV]at b;grind
    |nilr p=>have b:=ZaT b;grind
    |nw id ver A k=>simp only[CV]at b;grind
    |np id ver A k i p=>simp only[CV]at b;grind
    |nils=>simp only[CV]at b;grind
    |vw id=>simp only[CV]at b;grind
    |vs id C n=>simp only[CV,Za9]at b;grind
   exact List.length_eq_one_iff.1 s
  obtain⟨v,rfl⟩:=this;have z:=ZoM c b;refine⟨v,q,rfl,z.to1 ?_,ZiT l q j.2 r⟩;intro m u;subst u;assumption
theorem ZnV{f:FuncId}{first b:Array Operand}(e:RH B H w g ow)(hF:Fr w g F a.tmps)(c:o.op=.makeFunc (.func f) first b)
 (h:(ZG E nid o.op o.type (Zt F)).run H []=some ((v,patch),rd)):Zo B (Zn H patch) w g nid v ((execOp a.eval o).run P w):=by
 rw[c]at h;simp only[ZG,ZD,Zd,Zb,ZJ,ZY,Vc,Ve]at h;obtain⟨⟨⟨l,i⟩,d⟩,⟨rfl,rfl⟩,_⟩:=h
 have j:first= #[]:=by grind
 have k:JL f (b.toList.map a.eval)=.func (.func f) #[] (b.map a.eval):=by unfold JL;rw[i];simp [<-Vsb]
 refine Zo.pure e (val:=.func (.func f) #[] (b.map a.eval)) ?_ ⟨?_,.inr rfl⟩
 ·simp only[execOp,c,Vdd,j,Vb,Vd,Va,Vzc]
 ·simp only[CV];exact⟨b.toList.map a.eval,by simp [Vab,k],ZfG _ hF d⟩
theorem ZnG{f:FuncId}{first b:Array Operand}(d:RH B H w g ow)(hF:Fr w g F a.tmps)(j:o.op=.makeFunc (.func f) first b)(l:b.isEmpty=true)(c:G5 (Zl.ofList (first.toList.map (Zt F)))=true):
 Zo B H w g nid (.fn (f+Wu) (Zl.ofList (first.toList.map (Zt F)))) ((execOp a.eval o).run P w):=by
 have i:b= #[]:=by grind
 have e:Vkd (f+Wu) Wu=false:=by
  cases h:Vkd (f+Wu) Wu with
  |false=>rfl
  |true=>have:=Vh h;omega
 have k:JL (f+Wu) (first.toList.map a.eval)=.func (.func f) (first.map a.eval) #[]:=by unfold JL;rw[e,Ze,Nat.add_sub_cancel];simp [<-Vsb]
 refine Zo.pure d (val:=.func (.func f) (first.map a.eval) #[]) ?_ ⟨?_,.inr rfl⟩
 ·simp only[execOp,j,Vdd,i,Vb,Vd,Va,Vzc]
 ·simp only[CV]
  exact⟨first.toList.map a.eval,by simp [Vab,k],ZfG _ hF c⟩
theorem Dj{c:Call}{b:Builtin}{ty:TypeId}(e:c.callee=.builtin b):
 (do let d<-resolve a.eval c ty;invoke d.target d.args:Sem Next).run P w=(builtin b c.argTypes ty (c.args.map fun|.const _=>true|_=>false) (c.args.map a.eval)).run P w:=by
 unfold resolve;rw[e];rfl
theorem Zal(v:Value):(#[v]:Array Value)[0]? =some v:=rfl
theorem ZnT{c:Call}(S:ZX P E)(z:RH B H w g ow)(hF:Fr w g F a.tmps)(ho:o.op=.call c)(Z:c.callee=.builtin .len)
 (h:(ZG E nid o.op o.type (Zt F)).run H []=some ((v,patch),rd)):Zo B (Zn H patch) w g nid v ((execOp a.eval o).run P w):=by
 rw[ho]at h;simp only[ZG,Z]at h;split at h
 ·rename_i x T U A;simp only[ZQ,Zd,Vc]at h;obtain⟨v',m,h,⟨rfl,rfl⟩,_⟩:=h;have j:=hF.eval x
  have q:c.args.map a.eval= #[a.eval x]:=by
   have:c.args= #[x]:=by grind
   grind
  have fin:∀(n:Int),v' =.d (.int .i64) n->(Vdb c.argTypes o.type #[a.eval x]).run P w=.ok (.int .i64 n) w->Zo B (Zn H []) w g nid v' ((execOp a.eval o).run P w):=by intro n hv hr;subst hv;refine Zo.pure z (val:=.int .i64 n) ?_ (W4 _ _);simp only[execOp,ho,Dj Z,builtin,q,Vb,hr,Va,Vd]
  have sl:∀(O:Option Addr) (n cap:Nat),W6 (E.ty T)=true->a.eval x=.slice O n cap->(Vdb c.argTypes o.type #[a.eval x]).run P w=.ok (.int .i64 n) w:=by
   intro O n cap i l
   have:∃t,E.ty T=some (.sl t):=by
    cases R:E.ty T with
    |none=>rw[R]at i;simp [W6]at i
    |some t=>cases t<;>rw[R]at i<;>simp [W6]at i;simp
   obtain⟨t,R⟩:=this;obtain⟨Et,Y,_⟩:=WM S R;simp only[Vdb,A,l,Zal,underlying,Vb,run_program,Va,Y,Vd,goInt]
  unfold Zil at h;split at h
  ·rename_i t xs f;simp only[ZD,Zd,Zb,ZJ,ZY]at h;obtain⟨i,rfl,_⟩:=h;obtain⟨O,cap,C,l,_⟩:=(f▸j).sl
   grind
  ·rename_i s f;simp only[ZD,Zd,Zb,ZJ,ZY,Kd]at h;obtain⟨i,rfl,_⟩:=h;rw[f]at j;refine fin _ rfl ?_;simp only[Vdb,A,VR.str j,underlying,Vb,run_program,Va,ZeN S i,Zal,Vd,goInt];rfl
  ·rename_i f;simp only[ZD,Zd,Zb,ZJ,ZY]at h;obtain⟨i,rfl,_⟩:=h;exact fin _ rfl (sl _ _ _ i (f▸j).nils)
  ·rename_i id lo n f;simp only[ZD,Zd,Zb,ZJ,ZY]at h;obtain⟨i,rfl,_⟩:=h;obtain⟨_,Q⟩:=(f▸j).vs;rcases Q with ⟨_,_,rfl,Q⟩|⟨b,len,cap,m,_,_,_,_,Q⟩
   all_goals grind
  ·rename_i id f;simp only[ZD,Zb,ZJ,ZY]at h;obtain⟨N,h⟩:=h;rw[ZN]at h;split at h
   ·rename_i t xs p;simp only[Zd]at h;obtain⟨rfl,_⟩:=h;obtain⟨_,l⟩:=(f▸j).vw;obtain⟨_,_,y⟩:=z.objs id _ p
    grind
   ·rename_i t xs u a1 p;simp only[Zd]at h;obtain⟨rfl,_⟩:=h;obtain⟨_,l⟩:=(f▸j).vw;obtain⟨_,_,_,_,y⟩:=z.objs id _ p
    grind
   ·rename_i t xs p;simp only[Zd]at h;obtain⟨rfl,_⟩:=h;obtain⟨O,cap,C,l,_⟩:=(ZeS z p (f▸j)).sl
    grind
   ·rename_i lb xs p;simp only[Zd]at h;obtain⟨rfl,_⟩:=h;obtain⟨_,l⟩:=(f▸j).vw;obtain⟨_,_,y⟩:=z.objs id _ p;rcases y with ⟨rfl,y⟩|⟨b,off,cap,cs,e,i,y,_⟩
    ·exact fin _ rfl (sl _ _ _ N (l.trans y))
    ·exact fin _ rfl (sl _ _ _ N (l.trans y))
   ·simp [Zb]at h
  ·rename_i id ver kt k f;simp only[ZD,ZQ,Zd,Zb,ZJ,ZY]at h;obtain⟨i,r,m1,D,rfl,_⟩:=h;obtain⟨_,_,_,_,M⟩:=Zah z (f▸j) D;rcases M with ⟨Q,h2⟩|⟨b,cap,cs,e,C,h2,_⟩
   all_goals grind
  ·rename_i id f;simp only[ZD,Zb,ZJ,ZY]at h;obtain⟨i,h⟩:=h;rw[ZN]at h;split at h
   ·rename_i kt vt mm p;simp only[Zd]at h;obtain⟨rfl,_⟩:=h;obtain⟨_,b,hb,l⟩:=(f▸j).mp;obtain⟨_,b',es,clock,G,_,hh,_,W⟩:=z.objs id _ p;rw[hb]at G;cases G;obtain⟨mt,X⟩:=Option.isSome_iff_exists.1 i;obtain⟨K,V,Y,_,_⟩:=S.mty T mt X;have J:(getObj b).run P w=.ok (.map es clock) w:=by simp only[getObj,Veb,hh]
    refine fin _ rfl ?_;have L:es.size=mm.length:=by rw[W.length];simp
    simp only[Vdb,A,l,underlying,Vb,run_program,Va,Y,Zal,Vd,J,goInt,L]
   ·simp [Zb]at h
  ·simp [Zb]at h
 ·simp [Zb]at h
end ops
end Tr
end
section
namespace Tr
open Go
section ops
variable {P:Program}{E:Z3}{B:ZS}{H:AH}{w:World}{g:Gh}{ow:Nat->Nat->Prop}{nid:Nat}{a:Act}{F:Nat->AV}{v:AV}{patch:Kq}{rd:List Nat}{o:Oper}
theorem Zfq{f:Int->Int->Int}{m2:Value->Value->Sem Value}(i:∀k x y w,(m2 (.int k x) (.int k y)).run P w=.ok (.int k (f x y)) w){k:IntKind}(hF:Fr w g F a.tmps):
 ∀(l:List Operand) (x:Int) (r e:List Nat) (v:AV),(Zai f k x (l.map (Zt F))).run H r=some (v,e)->∃n,v=.d (.int k) n/\((l.map a.eval).foldlM m2 (.int k x)).run P w=.ok (.int k n) w
 |[],x,r,e,v,h=>by
  simp only[Vod,Zai,Zd]at h
  simp_all
 |y::l,x,r,e,v,h=>by
  have j:=hF.eval y;simp only[Vs]at h⊢;unfold Zai at h;split at h
  ·grind
  ·rename_i t b u c;obtain⟨m,p⟩:=List.cons.inj c;subst p;simp only[ZD,Zb,ZJ,ZY,Kd]at h;obtain⟨rfl,h⟩:=h;rw[m]at j;obtain⟨n,q,s⟩:=Zfq i hF l _ _ _ _ h;refine⟨n,q,?_⟩;rw[List.foldlM_cons,VR.int j,Vb,i]
   assumption
  ·simp [Zb]at h
theorem Zn0{c:Call}(j:RH B H w g ow)(hF:Fr w g F a.tmps)(e:o.op=.call c)(d:c.callee=.builtin .min)
 (h:(ZG E nid o.op o.type (Zt F)).run H []=some ((v,patch),rd)):Zo B (Zn H patch) w g nid v ((execOp a.eval o).run P w):=by
 rw[e]at h;simp only[ZG,d]at h;split at h
 ·rename_i x l b;have f:=hF.eval x;split at h
  ·rename_i k n p;simp only[ZQ,Zd,Vc]at h;obtain⟨r,m,h,⟨rfl,rfl⟩,_⟩:=h;obtain⟨i,rfl,q⟩:=Zfq (P:=P) (m2:=Builtin.min2) (fun _ _ _ _=>rfl) hF l _ _ _ _ h;rw[p]at f;refine Zo.pure j (val:=.int k i) ?_ (W4 _ _)
   have:(Vpd c.argTypes o.type (c.args.map a.eval)).run P w=.ok (.int k i) w:=by unfold Vpd;rw[Vtb,b,Vs,VR.int f];omega
   simp only[execOp,e,Dj d,builtin,Vb,this,Va,Vd]
  ·simp [Zb]at h
 ·simp [Zb]at h
theorem ZnZ{c:Call}(j:RH B H w g ow)(hF:Fr w g F a.tmps)(e:o.op=.call c)(d:c.callee=.builtin .max)
 (h:(ZG E nid o.op o.type (Zt F)).run H []=some ((v,patch),rd)):Zo B (Zn H patch) w g nid v ((execOp a.eval o).run P w):=by
 rw[e]at h;simp only[ZG,d]at h;split at h
 ·rename_i x l b;have f:=hF.eval x;split at h
  ·rename_i k n p;simp only[ZQ,Zd,Vc]at h;obtain⟨r,m,h,⟨rfl,rfl⟩,_⟩:=h;obtain⟨i,rfl,q⟩:=Zfq (P:=P) (m2:=Builtin.max2) (fun _ _ _ _=>rfl) hF l _ _ _ _ h;rw[p]at f;refine Zo.pure j (val:=.int k i) ?_ (W4 _ _)
   have:(Vqd c.argTypes o.type (c.args.map a.eval)).run P w=.ok (.int k i) w:=by unfold Vqd;rw[Vtb,b,Vs,VR.int f];omega
   simp only[execOp,e,Dj d,builtin,Vb,this,Va,Vd]
  ·simp [Zb]at h
 ·simp [Zb]at h
theorem Zix{x:Operand}{n:Int}(hF:Fr w g F a.tmps)(h:KF (Zt F x)=some n):∃k,a.eval x=.int k n:=by
 have b:=hF.eval x;unfold KF at h;split at h
 ·rename_i k m c;cases h;rw[c]at b;exact⟨k,VR.int b⟩
 grind
theorem R3{len cap:Nat}{isS:Bool}{lo d:Option Operand}{l h b:Nat}(hF:Fr w g F a.tmps)(m:cap<=b)
 (C:∀x∈lo,(KF (Zt F x)).isSome) (z:∀x∈d,(KF (Zt F x)).isSome)
 (j:sliceB len cap (lo.bind fun o=>KF (Zt F o)) (d.bind fun o=>KF (Zt F o))=some (l,h)) (A:len<=cap):
 (Vkc isS len b (lo.map a.eval) (d.map a.eval) none).run P w=.ok (l,h,b) w/\l<=h/\h<=cap:=by
 have bound:∀(x:Operand) (n:Int) (y:Nat) (code:BoundsCode),KF (Zt F x)=some n->0<=n->n<=y->(Voa (a.eval x) y code).run P w=.ok n.toNat w:=by intro x n y code D q i;obtain⟨k,u⟩:=Zix hF D;simp only[Voa,u,asIntOf,Vb,Vd,Va,q,i,and_self,if_true]
 unfold sliceB at j;simp only[Vu]at j;obtain⟨e,G,p⟩:=j
 have c:((match d.map a.eval,(none:Option Value) with
  |some v,some _=>Voa v b .slice3B
  |some v,none=>Voa v b (if isS then .sliceAcap else .sliceAlen)
  |none,none=>pure len
  |none,some _=>stuck "Slice: max without high"):Sem Nat).run P w=.ok e w∧e≤cap:=by
  cases d with
  |none=>simp_all
  |some x=>
   grind
 have f:((match lo.map a.eval with
  |some v=>Voa v e (if (none:Option Value).isSome then .slice3C else .sliceB)
  |none=>pure 0):Sem Nat).run P w=.ok l w/\l<=e/\e=h:=by
  cases lo with
  |none=>simp only[Vsc,Option.some.injEq,Vc]at p;obtain⟨rfl,rfl⟩:=p;simp
  |some x=>
   grind
 obtain⟨i,r⟩:=c;obtain⟨s,t,rfl⟩:=f;refine⟨?_,t,r⟩;unfold Vkc
 cases d<;>cases lo<;>simp only[Vm,Vl,Vb,Vd,Va,Vib,Vy,if_false]at i s⊢ <;> (simp_all)<;> (simp_all)<;>simp_all
theorem Kp.part{w:World}{b off:Nat}{css:List (List Value)}{s l n:Nat}(m:∀c∈css,c.length=s)(k:l<=css.length)(h:Kp w b off css.flatten):Kp w b (off+l*s) ((css.drop l).take n).flatten:=by
 have e:css.flatten=(css.take l).flatten++(((css.drop l).take n).flatten++((css.drop l).drop n).flatten):=by rw[<-Vja,Vza, <-Vja,Vza]
 have f:(css.take l).flatten.length=l*s:=by rw[Jy fun c i=>m c (List.mem_of_mem_take i),List.length_take,Vyb k]
 intro j p;have d:l*s+j<css.flatten.length:=by grind
 have:=h (l*s+j) d
 grind
theorem Rn{lo:Option Operand}(h:Xr (Zt F) lo=true):∀x∈lo,(KF (Zt F x)).isSome:=by intro x b;cases b;exact h
theorem Zn6{T:TypeId}{x:Operand}{lo hi:Option Operand}(u:ZX P E)(K:RH B H w g ow)(hF:Fr w g F a.tmps)(N:o.op=.slice T x lo hi none)
 (h:(ZG E nid o.op o.type (Zt F)).run H []=some ((v,patch),rd)):Zo B (Zn H patch) w g nid v ((execOp a.eval o).run P w):=by
 rw[N]at h;simp only[ZG,ZD,Zb,ZJ,false_or,Vi,Ve]at h;obtain⟨⟨k,j⟩,h⟩:=h;have k:=Rn k;have j:=Rn j;have O:=hF.eval x;split at h
 ·rename_i t xs D;simp only[ZD,Zu,Zd,Zb,ZJ,false_or,Vi,Kd,Vc]at h;obtain⟨C,⟨l,d⟩,q,⟨rfl,rfl⟩,_⟩:=h;obtain⟨G,M,f⟩:=WM u C;obtain⟨m,cap,r,L,i,S,c⟩:=(D▸O).sl;obtain⟨y,A,z⟩:=R3 (P:=P) (w:=w) (isS:=true) hF c k j q (Vg _)
  refine Zo.pure K (val:=.slice (if cap=l then m else m.map (·.add (l*t.size))) (d - l) (cap - l)) ?_ (Kx ?_ rfl rfl)
  ·simp only[execOp,N,L,Vbb,Vlb,Vm,underlying,Vb,run_program,Va,M,Vd,y,(u.ty G t f).run_sizeOf]
  ·simp only[CV,Rd];have p:((xs.drop l).take (d - l)).length=d - l:=by grind
   refine⟨_,cap - l,(r.drop l).take (d - l),by rw[p],(i.drop l).take _,fun Y=>?_,by omega⟩;have R:0<d - l:=by grind
   obtain⟨b,off,rfl,V,hL⟩:=S (by grind);refine⟨b,off+l*t.size,?_,V,Kp.part (Rd.all_length i) (by rw[<-i.length];omega) hL⟩;rw[Zf (by omega)];simp only[Vl,Option.some.injEq];unfold Addr.add;simp
 ·rename_i s D;simp only[ZD,Zu,Zd,Zb,ZJ,false_or,Vi,Kd,Vc]at h;obtain⟨C,⟨l,d⟩,q,⟨rfl,rfl⟩,_⟩:=h;rw[D]at O;obtain⟨y,A,z⟩:=R3 (P:=P) (w:=w) (isS:=false) hF (Vg _) k j q (Vg _);have Z:(⟨s.toArray⟩:ByteArray).size=s.length:=by rfl
  refine Zo.pure K (val:=.string ((⟨s.toArray⟩:ByteArray).extract l d)) ?_ ?_
  ·simp only[execOp,N,VR.str O,Vbb,Vlb,Vm,underlying,Vb,run_program,Va,ZeN u C,Vd,Vib,Vy,if_false,Z,y]
  ·have:(⟨s.toArray⟩:ByteArray).extract l d=⟨((s.drop l).take (d - l)).toArray⟩:=by apply ByteArray.ext;simp
   rw[this];exact Zbu _
 ·rename_i D;split at h
  ·rename_i t C;simp only[Zu,Zd,Vc]at h;obtain⟨⟨l,d⟩,q,⟨rfl,rfl⟩,_⟩:=h;obtain⟨G,M,f⟩:=WM u C;have L:=(D▸O).nils;obtain⟨y,A,z⟩:=R3 (P:=P) (w:=w) (isS:=true) hF (Vg 0) k j q (Vg _);have X:l=0:=by omega
   have W:d=0:=by omega
   subst X W;refine Zo.pure K (val:=.slice none 0 0) ?_ (by grind);simp only[execOp,N,L,Vbb,Vlb,Vm,underlying,Vb,run_program,Va,M,Vd,y,(u.ty G t f).run_sizeOf];rfl
  ·simp [Zb]at h
 ·rename_i id D;rw[ZN]at h;split at h
  ·rename_i t xs U;simp only[ZD,Zu,Zb,ZJ,false_or,Vi,Kd]at h;obtain⟨C,⟨l,d⟩,q,h⟩:=h
   have hh:v=.vs id l (d - l)/\patch=[]:=by
    cases lo with
    |none=>
     simp only[Zd,Vc]at h
     have S:0=l:=by simp only[sliceB,Vsc,Vu,Option.some.injEq,Vc]at q;omega
     grind
    |some x=>
     simp only[Zd,Vc]at h
     grind
   obtain⟨rfl,rfl⟩:=hh;obtain⟨G,M,f⟩:=WM u C;obtain⟨hk,L⟩:=(D▸O).vw;obtain⟨_,a2,J⟩:=K.objs id _ U
   have key:∃(m:Option Addr) (cap:Nat),g.slv id=.slice m xs.length cap/\xs.length<=cap/\(∀l n,l+n<=xs.length->Za9 (g.slv id) t.size l n [.slice (if cap=l then m else m.map (·.add (l*t.size))) n (cap - l)]):=by
    rcases J with ⟨rfl,_,J⟩|⟨b,cap,cs,e,r,_,_,J,_,c,_⟩
    ·refine⟨none,0,J,Vg _,fun l n Q=>.inl ⟨J,?_,?_,?_⟩⟩
     all_goals grind
    ·refine⟨_,cap,J,c,fun l n Q=>.inr ⟨b,xs.length,cap,cap - l,J,Q,by omega,by omega,?_⟩⟩;congr 2;by_cases h0:cap=l
     ·grind
     ·rw[Zf h0,Zf (by omega)];simp only[Vl,Option.some.injEq];unfold Addr.add
      grind
   obtain⟨m,cap,hv,c,a1⟩:=key;obtain⟨y,A,z⟩:=R3 (P:=P) (w:=w) (isS:=true) hF c k j q (Vg _)
   refine Zo.pure K (val:=.slice (if cap=l then m else m.map (·.add (l*t.size))) (d - l) (cap - l)) ?_ (Kx ?_ rfl rfl)
   ·simp only[execOp,N,L,hv,Vbb,Vlb,Vm,underlying,Vb,run_program,Va,M,Vd,y,(u.ty G t f).run_sizeOf]
   ·simp only[CV]
    grind
  ·rename_i t xs U;simp only[ZD,Zu,Zd,Zb,ZJ,false_or,Vi,Kd,Vc]at h;obtain⟨C,⟨l,d⟩,q,⟨rfl,rfl⟩,_⟩:=h;obtain⟨G,M,f⟩:=WM u C;obtain⟨m,cap,r,L,i,S,c⟩:=(ZeS K U (D▸O)).sl;obtain⟨y,A,z⟩:=R3 (P:=P) (w:=w) (isS:=true) hF c k j q (Vg _)
   refine Zo.pure K (val:=.slice (if cap=l then m else m.map (·.add (l*t.size))) (d - l) (cap - l)) ?_ (Kx ?_ rfl rfl)
   ·simp only[execOp,N,L,Vbb,Vlb,Vm,underlying,Vb,run_program,Va,M,Vd,y,(u.ty G t f).run_sizeOf]
   ·simp only[CV,Rd];have p:((xs.drop l).take (d - l)).length=d - l:=by grind
    refine⟨_,cap - l,(r.drop l).take (d - l),by rw[p],(i.drop l).take _,fun Y=>?_,by omega⟩;have R:0<d - l:=by grind
    obtain⟨b,off,rfl,V,hL⟩:=S (by grind);refine⟨b,off+l*t.size,?_,V,Kp.part (Rd.all_length i) (by rw[<-i.length];omega) hL⟩;rw[Zf (by omega)];simp only[Vl,Option.some.injEq];unfold Addr.add;simp
  ·simp [Zb]at h
 ·simp [Zb]at h
end ops
end Tr
end
section
namespace Tr
open Go
theorem ZjR(off:Nat):∀(d:List Value) (k:Nat) (pre c post:List Value),c.length=d.length->pre.length=off+k->
 (d.zipIdx k).foldl (fun(cs:Array Value) x=>cs.setIfInBounds (off+x.2) x.1) (pre++c++post).toArray=(pre++d++post).toArray
 |[],k,pre,c,post,h,_=>by
  simp_all
 |x::d,k,pre,c,post,h,b=>by
  match c,h with
  |y::c,h=>
   simp only[List.zipIdx_cons,List.foldl_cons]
   have e:(pre++(y::c)++post).toArray.setIfInBounds (off+k) x=((pre++[x])++c++post).toArray:=by
    grind
   rw[e,ZjR off d (k+1) (pre++[x]) c post (by grind) (by grind)];simp
def GJ(css:List (List Value))(b:List (Nat×Value)):List (List Value):=b.foldl (fun css p=>css.set p.1 p.2.cells.toList) css
theorem ZdM{place:Nat->Option (Nat×Nat)}{lens:List Nat}(l:∀i,(h:i<lens.length)->place i=some ((lens.take i).sum,lens[i])):∀(c:List (Nat×Value)) (css:List (List Value)),css.map Vha=lens->
 (∀p∈c,∃n,lens[p.1]? =some n/\p.2.cells.size=n)->Vbd place css.flatten.toArray c=some (GJ css c).flatten.toArray/\(GJ css c).map Vha=lens
 |[],css,j,_=>⟨rfl,j⟩
 |(i,v)::c,css,j,h=>by
  obtain⟨n,k,u⟩:=h (i,v) (by simp);simp only at k u;obtain⟨s,rfl⟩:=Vw.1 k;have t:i<css.length:=by grind
  have r:css[i].length=lens[i]:=by grind
  have b:css.flatten=(css.take i).flatten++css[i]++(css.drop (i+1)).flatten:=by
   calc css.flatten=(css.take i++css[i]::css.drop (i+1)).flatten:=by simp
    _=_:=by grind
  have f:(css.take i).flatten.length=(lens.take i).sum:=by simp_all
  have m:css.set i v.cells.toList=css.take i++v.cells.toList::css.drop (i+1):=List.set_eq_take_append_cons_drop .. |>.trans (by grind)
  have d:(css.set i v.cells.toList).map Vha=lens:=by
   simp_all
  obtain⟨y,q⟩:=ZdM l c (css.set i v.cells.toList) d (by grind);refine⟨?_,q⟩;unfold Vbd;simp only[l i s];rw[Zf]
  ·rw[<-Array.foldl_toList,Array.toList_zipIdx,b];have:=ZjR (lens.take i).sum v.cells.toList 0 (css.take i).flatten css[i] (css.drop (i+1)).flatten (by grind) f;have e:=this;rw[show (List.foldl (fun(cs:Array Value) (x:Value×Nat)=>cs.setIfInBounds ((List.take i lens).sum+x.2) x.1) ((css.take i).flatten++css[i]++(css.drop (i+1)).flatten).toArray (v.cells.toList.zipIdx))=_ from e];have:((css.take i).flatten++v.cells.toList++(css.drop (i+1)).flatten)=(css.set i v.cells.toList).flatten:=by grind
   rw[this]
   assumption
  grind
theorem Zex:∀(b:List (Nat×Value)) (css:List (List Value)),Ga css.length (b.map (·.1))=true->∀j,j<css.length->
 (GJ css b)[j]? =(match b.lookup j with|some v=>some v.cells.toList|none=>css[j]?)
 |[],css,_,j,_=>rfl
 |(i,v)::b,css,h,j,d=>by
  simp only[Vs,Ga,Ve,Vwa]at h;have c:=Vh h.1.1;have:=Zex b (css.set i v.cells.toList) (by grind) j (by grind);show (GJ (css.set i v.cells.toList) b)[j]? =_
  grind
theorem Zey:∀(b:List (Nat×Value)) (css:List (List Value)),(GJ css b).length=css.length
 |[],_=>rfl
 |(i,v)::b,css=>by show (GJ (css.set i v.cells.toList) b).length=_;rw[Zey b,List.length_set]
section ops
variable {P:Program}{E:Z3}{B:ZS}{H:AH}{w:World}{g:Gh}{ow:Nat->Nat->Prop}{nid:Nat}{a:Act}{F:Nat->AV}{v:AV}{patch:Kq}{rd:List Nat}{o:Oper}
def Zl.toL:Zl->List AV
 |.nil=>[]
 |.cons v l=>v::l.toL
theorem ZcG:∀{l:Zl}{cs:List Value},Z2 w g l cs↔∃css,cs=css.flatten/\Fa (CV w g) l.toL css
 |.nil,cs=>by
  simp only[Z2,Zl.toL];constructor
  ·rintro rfl;exact⟨[],rfl,trivial⟩
  ·rintro ⟨css,rfl,h⟩
   match css,h with
   |[],_=>rfl
 |.cons v l,cs=>by
  simp only[Z2,Zl.toL];constructor
  ·rintro ⟨e,i,rfl,b,d⟩;obtain⟨css,rfl,f⟩:=ZcG.1 d;exact⟨e::css,rfl,b,f⟩
  ·rintro ⟨css,rfl,h⟩
   match css,h with
   |c::css,⟨b,d⟩=>exact⟨c,css.flatten,rfl,b,ZcG.2 (by grind)⟩
theorem ZkB:∀{l:Zl}{d:DV}{cs:List Value},H6 l=some d->Z2 w g l cs->Rd w g.I d.1 d.2 cs
 |.nil,d,cs,h,b=>by
  simp only[H6,Option.some.injEq]at h
  subst h;assumption
 |.cons v l,d,cs,h,b=>by
  simp only[Z2]at b;obtain⟨e,f,rfl,k,j⟩:=b
  cases v with
  |d t x=>
   simp only[H6]at h
   cases c:H6 l with
   |none=>grind
   |some i=>
    obtain⟨u,y⟩:=i;rw[c]at h;simp only[Option.some.injEq]at h;subst h;simp only[Rd]
    exact⟨e,f,rfl,by assumption,ZkB c j⟩
  |_=>simp [H6]at h
theorem ZrT{l:Zl}{cs:List Value}(h:Z2 w g l cs):CV w g (Zce l) cs/\(Zce l).isAgg=true:=by
 unfold Zce
 cases b:H6 l with
 |none=>exact⟨by assumption,rfl⟩
 |some d=>
  refine⟨by simpa only[CV] using ZkB b h,?_⟩
  cases l with
  |nil=>simp only[H6,Option.some.injEq]at b;subst b;rfl
  |cons v l=>
   cases v with
   |d t x=>
    simp only[H6]at b;split at b
    ·cases b;rfl
    grind
   |_=>simp [H6]at b
theorem ZuG:∀(t:Ty) (cs:List Value),t.chain=true->t.data=true->Rd w g.I t (zeroEl t) cs->Z2 w g (Gl true t) cs:=by
 intro t
 induction t with
 |prod a b _ d=>
  intro cs f c h;simp only[Ty.data,Ve]at c;simp only[Rd]at h;obtain⟨i,e,rfl,k,j⟩:=h;simp only[Gl,Z2];refine⟨i,e,rfl,?_,d e (by assumption) c.2 j⟩;simp only[Y1,c.1,Bool.true_or,Vld,Zc,CV]
  assumption
 |unit=>
  intro cs _ _ h
  assumption
 |_=>intro cs f;simp [Ty.chain]at f
def Ty.parts:Ty->List Ty
 |.prod a b=>a::b.parts
 |_=>[]
theorem Zgo:∀t:Ty,fieldsOf t=t.parts.length
 |.prod a b=>by simp [fieldsOf,Ty.parts,Zgo b]
 |.unit|.int _|.bool|.str|.sl _|.arr _ _|.ref|.pt _|.lk _ _|.pn _=>rfl
theorem ZkP:∀(t:Ty) (n:Nat),t.chain=true->ZM t [n]=(t.parts[n]?).map fun e=>(((t.parts.take n).map Ty.size).sum,e):=by
 intro t
 induction t with
 |prod a b _ d=>
  intro n c;have c:b.chain=true:=by assumption
  cases n with
  |zero=>simp [ZM,Ty.parts]
  |succ n=>
   simp only[ZM,d n c,Ty.parts,Vva,List.take_succ_cons,Vs,List.sum_cons]
   grind
 |unit=>intro n _;rfl
 |_=>intro n c;simp [Ty.chain]at c
theorem ZmL(z:Bool):∀t:Ty,(Gl z t).toL=t.parts.map (Y1 z)
 |.prod a b=>by simp only[Gl,Zl.toL,Ty.parts,Vs,ZmL z b]
 |.unit|.int _|.bool|.str|.sl _|.arr _ _|.ref|.pt _|.lk _ _|.pn _=>rfl
theorem ZfC(z:Bool)(c:List (Nat×AV)):∀(t:Ty) (k n:Nat),(DJ z c t k).toL[n]? =(t.parts[n]?).map fun d=>(c.lookup (k+n)).getD (Y1 z d)
 |.prod a b,k,n=>by
  cases n with
  |zero=>rfl
  |succ n=>
   simp only[DJ,Zl.toL,Ty.parts,Vva]
   rw[ZfC z c b (k+1) n,show k+1+n=k+(n+1) by omega]
 |.unit,_,_|.int _,_,_|.bool,_,_|.str,_,_|.sl _,_,_|.arr _ _,_,_|.ref,_,_|.pt _,_,_|.lk _ _,_,_|.pn _,_,_=>rfl
theorem ZjM:∀{l:Zl}{t:Ty},l.fits t=true->∀{n:Nat}{v:AV},l.toL[n]? =some v->∃d,t.parts[n]? =some d/\v.fits d=true
 |.nil,t,_,n,v,h=>by simp [Zl.toL]at h
 |.cons x l,t,c,n,v,h=>by
  cases t with
  |prod a b=>
   simp only[Zl.fits,Ve]at c
   cases n with
   |zero=>simp only[Zl.toL,Vub,Option.some.injEq]at h;subst h;exact⟨a,rfl,c.1⟩
   |succ n=>simp only[Zl.toL,Vva]at h;exact ZjM c.2 h
  |_=>simp [Zl.fits]at c
theorem Zks{α β:Type}{f:α->Option β}{g:α->β} :∀{l:List α},(∀x∈l,f x=some (g x))->l.mapM f=some (l.map g)
 |[],_=>rfl
 |x::l,h=>by rw[List.mapM_cons,h x (by simp),Zks fun y b=>h y (by simp [b])];rfl
theorem ZtU{T:TypeId}{n k:Ty}(x:ZX P E)(h:E.ty T=some (.prod n k)):∃e c,P.underlying T=some (.struct e)/\k.chain=true/\
 e.toList.mapM (fun f=>(P.info? f.type).map fun i=>(f.offset,i.size))=some c/\ ∀i u,(Ty.prod n k).parts[i]? =some u->c[i]? =some ((((Ty.prod n k).parts.take i).map Ty.size).sum,u.size):=by
 have q:=(x.ty T _ h).shape
 cases A:P.underlying T with
 |none=>rw[A]at q;simp [Z6]at q
 |some d=>
  rw[A]at q
  cases d with
  |struct e=>
   simp only[Z6,Ve,Vqb,Vcc]at q;obtain⟨⟨j,m⟩,s⟩:=q;have b:(Ty.prod n k).chain=true:=s
   have y:(Ty.prod n k).parts.length<=e.size:=by
    rw[ZkP _ _ b]at m
    grind
   refine⟨e,e.toList.map fun f=>(f.offset,((E.ty f.type).map Ty.size).getD 0),rfl,s,Zks fun f C=>?_,?_⟩
   ·obtain⟨i,t,rfl⟩:=Vgb C;have l:i<e.size:=by omega
    have p:=j i l;rw[Vfa l]at p
    cases D:ZM (.prod n k) [i] with
    |none=>grind
    |some r=>
     rw[D]at p;simp only[Ve,Kd]at p;obtain⟨K,z,l,G,_⟩:=(x.ty _ _ p.1.2).info
     grind
   ·intro i u J;have t:i<e.size:=by grind
    have p:=j i t;rw[ZkP _ _ b,Vfa t,J]at p
    grind
  |_=>simp [Z6]at q
theorem RQ{α β γ:Type}[BEq α](f:β->γ)(k:α):∀l:List (α×β),(l.map fun p=>(p.1,f p.2)).lookup k=(l.lookup k).map f
 |[]=>rfl
 |(i,x)::l=>by
  simp only[Vs,Vtc,RQ f k l]
  grind
theorem Zef{α β:Type}[BEq α][LawfulBEq α]{k:α}{x:β} :∀{l:List (α×β)},(l.map (·.1)).Nodup->(k,x)∈l->l.lookup k=some x
 |(i,y)::l,b,h=>by
  simp only[Vs,List.nodup_cons]at b;rw[Vtc];rcases Vmd.1 h with h|h
  ·grind
  ·have:(k==i)=false:=by
    grind
   rw[this];exact Zef b.2 h
theorem Zel{n:Nat} :∀{l:List Nat},Ga n l=true->l.Nodup/\ ∀i∈l,i<n
 |[],_=>by simp
 |i::l,h=>by
  simp only[Ga,Ve,Vwa]at h;obtain⟨⟨c,e⟩,d⟩:=h;obtain⟨f,k⟩:=Zel d;refine⟨by grind,?_⟩;intro j b;rcases Vmd.1 b with rfl|b
  ·exact Vh c
  grind
theorem ZuD(z:Bool)(t:Ty):(Y1 z t).fits t=true:=by
 unfold Y1
 cases b:t.data&& (z|| !t.isSl) with
 |true=>simp [AV.fits]
 |false=>cases t<;>simp [ZeZ,AV.fits]
theorem ZuF{d b:Ty}{cs:List Value}(x:Bool)(c:b.chain=true)(h:Gm (.prod d b) cs=true):∃css,cs=css.flatten/\Fa (CV w g) ((Ty.prod d b).parts.map (Y1 ((Ty.prod d b).data&& !x))) css:=by
 rw[<-ZmL];apply ZcG.1
 cases x with
 |true=>rw[Bool.not_true,Bool.and_false];exact(ZeX _ _ (ZmN c h)).1
 |false=>
 rw[Vhb,Vld];unfold Gm at h
 cases e:(Ty.prod d b).data with
 |true=>
  rw[e]at h
  exact ZuG _ _ c e (ZcE _ _ h)
 |false=>
  rw[e]at h;exact(ZeX _ _ h).1
theorem ZmO{z:Bool} :∀{l:List Ty}{css:List (List Value)},Fa (CV w g) (l.map (Y1 z)) css->css.map Vha=l.map Ty.size
 |[],[],_=>rfl
 |t::l,c::css,⟨b,d⟩=>by rw[Vs,Vs,CV.length _ t c (ZuD z t) b,ZmO d]
theorem Zqt{v:AV}{t:Ty}(h:v.fits t=true):∀l,v≠ .tup l:=by rintro l rfl;simp [AV.fits]at h
theorem Zoy{T:TypeId}{f h:Ty}{e:List (Nat×Operand)}(V:ZX P E)(Y:E.ty T=some (.prod f h))(hF:Fr w g F a.tmps)(hp:Ga (fieldsOf (.prod f h)) (e.map (·.1))=true)
 (x:Bool) (hf:(DJ (Ty.data (.prod f h) && !x) (e.map fun p=>(p.1,Zt F p.2)) (.prod f h) 0).fits (.prod f h)=true):
 ∃cells,P.built T (e.map fun p=>(p.1,a.eval p.2))=some cells/\Z2 w g (DJ (Ty.data (.prod f h) && !x) (e.map fun p=>(p.1,Zt F p.2)) (.prod f h) 0) cells.toList:=by
 obtain⟨fs,r,hu,K,a1,u⟩:=ZtU V Y;obtain⟨i,z,hi,_,_,hz,A,_⟩:=(V.ty T _ Y).info;obtain⟨d,W,s⟩:=ZuF (w:=w) (g:=g) x K A;have j:=Zel hp;have l:d.map Vha=(Ty.prod f h).parts.map Ty.size:=ZmO s;have hn:d.length=(Ty.prod f h).parts.length:=by have:=congrArg Vha l;grind
 have G:∀k y,(k,y)∈e->∃m,(Ty.prod f h).parts[k]? =some m/\(Zt F y).fits m=true/\e.lookup k=some y:=by
  intro k y S;have N:=Zef j.1 S;have X:=j.2 k (by grind);rw[Zgo]at X;have C:=ZfC (Ty.data (.prod f h) && !x) (e.map fun p=>(p.1,Zt F p.2)) (.prod f h) 0 k;rw[RQ,Vp,N,Vaa X]at C;obtain⟨m,Z,D⟩:=ZjM hf C
  grind
 have L:∀x m,(Zt F x).fits m=true->CV w g (Zt F x) (a.eval x).cells.toList:=fun x m S=>((hF.eval x).to1 (Zqt S)).1
 have M:=ZdM (place:=(r.toArray[·]?)) (lens:=(Ty.prod f h).parts.map Ty.size) (by
  simp_all) (e.map fun p=>(p.1,a.eval p.2)) d l (by
  intro p Q;obtain⟨q,hq,rfl⟩:=Vwb.1 Q;obtain⟨m,Z,D,_⟩:=G q.1 q.2 hq;refine⟨m.size,by grind,?_⟩;have:=CV.length _ m _ D (L q.2 m D);omega)
 refine⟨(GJ d (e.map fun p=>(p.1,a.eval p.2))).flatten.toArray,?_,?_⟩
 ·unfold Program.built;have a2:z.cells=d.flatten.toArray:=by grind
  grind
 ·apply ZcG.2;refine⟨GJ d (e.map fun p=>(p.1,a.eval p.2)),rfl,ZaB ?_ ?_⟩
  ·rw[Zey]
   have:∀z (t:Ty) e k,(DJ z e t k).toL.length=t.parts.length:=by
    intro z t
    induction t with
    |prod a b _ U=>intro e k;simp [DJ,Zl.toL,Ty.parts,U]
    |_=>intro e k;rfl
   grind
  ·intro n v c R J;rw[ZfC,RQ,Vp]at R
   have O:n<d.length:=by
    grind
   rw[Zex _ _ (by rw[Vxb,hn, <-Zgo];assumption) n O,RQ]at J
   cases N:e.lookup n with
   |none=>
    rw[N]at J R;simp only[Vm,Vuc]at J R;obtain⟨c',h1,C⟩:=s.get n v (by grind)
    grind
   |some x=>
    grind
theorem Zdd{t:Ty}{b:List (Nat×AV)} :∀{m k:Nat}{l:List (El t)},Ro t b m k=some l->l.length=m/\ ∀j,(h:j<l.length)->(b.lookup (k+j)).getD (.d t (zeroEl t))=.d t l[j]
 |0,k,l,h=>by
  simp only[Ro,Option.some.injEq]at h
  grind
 |m+1,k,l,h=>by
  simp only[Ro]at h;split at h
  ·rename_i q x n;simp only[Vu]at h;obtain⟨y,e,p,c,h⟩:=h;cases h;obtain⟨rfl,rfl⟩:=Kv e;obtain⟨f,i⟩:=Zdd c
   grind
  grind
theorem Zk2{c:List (Nat×Operand)} :∀{b:List (Nat×AV)},Fa (fun p q=>q.1=p.1/\VR w g q.2 (a.eval p.2)) c b->∀k,(c.lookup k=none/\b.lookup k=none)\/ ∃x v,c.lookup k=some x/\b.lookup k=some v/\VR w g v (a.eval x):=by
 induction c with
 |nil=>intro b h k;cases b with|nil=>simp|cons q b=>exact h.elim
 |cons p c i=>
  intro b h k
  cases b with
  |nil=>exact h.elim
  |cons q b=>
   obtain⟨⟨d,e⟩,f⟩:=h
   grind
theorem Zk3(hF:Fr w g F a.tmps):∀b:List (Nat×Operand),Fa (fun p q=>q.1=p.1/\VR w g q.2 (a.eval p.2)) b (b.map fun p=>(p.1,Zt F p.2))
 |[]=>trivial
 |p::b=>⟨⟨rfl,hF.eval p.2⟩,Zk3 hF b⟩
theorem ZiO{e:Ty}{s:List (Nat×Operand)}{M:List (Nat×AV)}{n:Nat}{l:List (El e)}{css:List (List Value)}(C:Fa (fun p q=>q.1=p.1/\VR w g q.2 (a.eval p.2)) s M)(T:Ga n (s.map (·.1))=true)
 (Q:Ro e M n 0=some l) (j:Fa (Rd w g.I e) (Vf n (zeroEl e)) css):
 ∃f,Vbd (fun i=>some (i*e.size,e.size)) css.flatten.toArray (s.map fun p=>(p.1,a.eval p.2))=some f.flatten.toArray/\Fa (Rd w g.I e) l f:=by
 obtain⟨J,h⟩:=Zdd Q;have b:=Zel T;have O:css.length=n:=by rw[<-j.length,Vx]
 have m:css.map Vha=Vf n e.size:=by apply List.eq_replicate_iff.2;refine⟨by grind,?_⟩;intro c y;obtain⟨d,R,rfl⟩:=Vwb.1 y;exact Rd.all_length j d R
 have G:∀k x,s.lookup k=some x->(z:k<l.length)->Rd w g.I e l[k] (a.eval x).cells.toList:=by
  intro k x L z;have r:=h k z;rw[Vp]at r;rcases Zk2 C k with ⟨u,_⟩|⟨V,U,u,A,D⟩
  ·grind
  rw[L]at u;cases u;rw[A]at r;simp only[Vca]at r;rw[r]at D;have t:Ki w g (.d e l[k]) (a.eval x):=D;simpa only[CV] using t.1
 obtain⟨r,D⟩:=ZdM (place:=fun i=>some (i*e.size,e.size)) (lens:=Vf n e.size) (by
  intro i N;simp only[Vx]at N
  simp [Vfc,Vyb (Nat.le_of_lt N)]) (s.map fun p=>(p.1,a.eval p.2)) css m (by
  intro p K;obtain⟨q,C,rfl⟩:=Vwb.1 K;have z:=b.2 q.1 (by grind);refine⟨e.size,by grind,?_⟩;have:=Rd.length _ _ _ (G q.1 q.2 (Zef b.1 C) (by omega));omega)
 refine⟨_,r,ZaB (by rw[Zey,J,O]) ?_⟩;intro k x c L y;obtain⟨z,rfl⟩:=Vw.1 L;rw[Zex _ _ (by rw[Vxb,O];assumption) k (by omega),RQ]at y
 cases S:s.lookup k with
 |none=>
  rw[S]at y;simp only[Vm]at y;have t:=h k z;rw[Vp]at t
  have A:M.lookup k=none:=by
   rcases Zk2 C k with ⟨_,A⟩|⟨V,U,u,_⟩
   all_goals grind
  rw[A]at t;simp only[Vuc,AV.d.injEq,heq_eq_eq,true_and]at t;obtain⟨W,X,u⟩:=j.get k (zeroEl e) (by grind)
  grind
 |some x=>
  grind
theorem Ziv{T:TypeId}{n:Nat}{t:Ty}(f:ZX P E)(h:E.ty T=some (.arr n t)):∃c,P.underlying T=some (.array n c)/\E.ty c=some t:=by
 have b:=(f.ty T _ h).shape
 cases e:P.underlying T with
 |none=>rw[e]at b;simp [Z6]at b
 |some d=>
  rw[e]at b
  cases d<;>simp [Z6]at b
  grind
end ops
end Tr
end
section
namespace Tr
open Go
section
variable {B:ZS}{H:AH}{w:World}{g:Gh}{ow:Nat->Nat->Prop}{F:Nat->AV}{I:Nat->Prop}
theorem Kp.of_vec{b:Nat}{cs:Array Value}{e:TypeId}{css:List (List Value)}(h:w.heap[b]? =some (.cells cs e (0,0)))(f:css.flatten<+:cs.toList):Kp w b 0 css.flatten:=by
 intro j i;obtain⟨r,k⟩:=f;have d:css.flatten.length<=cs.toList.length:=by grind
 simp only[Vac,h,Vib,Vy,if_false,Vp];have c:j<cs.size:=by grind
 rw[Vfa c];congr 1;have:cs.toList[j]'(by omega)=css.flatten[j]:=by grind
 grind
theorem Zoh(t:Ty)(cs:List Value)(x:List (El t))(ids l c:List Nat)(h:(Ke (.sl t) (.nils)).run H l=some ((x,ids),c))(b:CV w g (.nils) cs):Rd w I (.sl t) x cs:=by simp only[Ke,Zd,Vc]at h;obtain⟨⟨rfl,rfl⟩,_⟩:=h;simp only[CV]at b;exact⟨none,0,[],b,trivial,by simp,Vg _⟩
theorem Zol(j:RH B H w g ow)(i:∀b,g.I b->I b)(t:Ty){id:Nat}(cs:List Value)(x:List (El t))(ids l p:List Nat)(h:(Ke (.sl t) (.vw id)).run H l=some ((x,ids),p))(c:CV w g (.vw id) cs)(m:∀b,ZF H ow ids b->I b):Rd w I (.sl t) x cs:=by
 simp only[Ke]at h;rw[ZN]at h;split at h
 ·rename_i n xs d;simp only[Zu,Zd,Vc]at h;obtain⟨y,f,⟨rfl,rfl⟩,_⟩:=h;obtain⟨e,rfl⟩:=Kv f;cases e;simp only[CV]at c;rw[c.2.1];exact ZmA (j.objs id _ d).2 i fun b k=>m b ⟨id,by simp,by grind,k⟩
 ·rename_i n xs u d;simp only[Zu,Zd,Vc]at h;obtain⟨y,f,⟨rfl,rfl⟩,_⟩:=h;obtain⟨e,rfl⟩:=DK f;subst e;simp only[CV]at c;rw[c.2.1];exact ZlH (j.objs id _ d).2 i fun b k=>m b ⟨id,by simp,by grind,k⟩
 ·rename_i n xs d;simp only[Zu,Zd,Vc]at h;obtain⟨y,f,⟨rfl,rfl⟩,_⟩:=h;obtain⟨e,rfl⟩:=Kv f;cases e;simp only[CV]at c;rw[c.2.1];exact Rd.mono (fun _ _=>rfl) i _ _ _ (j.objs id _ d).2.2
 ·simp [Zb]at h
theorem Zoi(u:RH B H w g ow)(q:∀b,g.I b->I b)(t:Ty){id ver:Nat}{j:Ty}{k:El j}(cs:List Value)(x:List (El t))(ids l C:List Nat)(h:(Ke (.sl t) (.nw id ver j k)).run H l=some ((x,ids),C))(e:CV w g (.nw id ver j k) cs)(s:∀b,ZF H ow ids b->I b):Rd w I (.sl t) x cs:=by simp only[Ke,ZQ,Zu,Zd,Vc]at h;obtain⟨r,m,c,y,A,⟨rfl,rfl⟩,_⟩:=h;obtain⟨n,rfl⟩:=DK A;obtain⟨D,row⟩:=r;simp only at n;subst n;have f:=e;simp only[CV]at e;obtain⟨_,_,v,rfl,p,_⟩:=e;obtain⟨i,_,_,_,d⟩:=Zah u (Kx f p rfl) c;exact d.data q fun b z=>s b ⟨id,by simp,i,z⟩
theorem Zok(J:RH B H w g ow)(D:∀b,g.I b->I b)(t:Ty){id lo n:Nat}(cs:List Value)(x:List (El t))(ids l Q:List Nat)(h:(Ke (.sl t) (.vs id lo n)).run H l=some ((x,ids),Q))(s:CV w g (.vs id lo n) cs)(G:∀b,ZF H ow ids b->I b):Rd w I (.sl t) x cs:=by
 simp only[Ke]at h;rw[ZN]at h;split at h
 ·rename_i V xs C;simp only[Zu,Zd,Vc]at h;obtain⟨y,O,⟨rfl,rfl⟩,_⟩:=h;obtain⟨K,rfl⟩:=Kv O;cases K;simp only[CV]at s;obtain⟨_,A⟩:=s;obtain⟨_,q,i⟩:=J.objs id _ C;rw[q]at A;rcases A with ⟨z,rfl,rfl,rfl⟩|⟨b,len,cap,m,z,S,T,U,rfl⟩
  ·exact⟨none,0,[],by simp,by simp;trivial,by simp,by simp⟩
  ·rcases i with ⟨_,_,d⟩|⟨R,r,cells,e,k,_,M,d,L,_,_,f,j⟩
   ·grind
   ·rw[z]at d;simp only[Vj.injEq,Option.some.injEq,Addr.mk.injEq,and_true]at d;obtain⟨rfl,rfl,rfl⟩:=d;have u:((xs.drop lo).take n).length=n:=by grind
    refine⟨some ⟨b,if m=0 then 0 else lo*t.size,none⟩,m,(k.drop lo).take n,?_,((f.drop lo).take n).mono fun x c N=>Rd.mono (fun _ _=>rfl) D t x c N,fun p=>⟨b,lo*t.size,?_,G b ⟨id,by simp,by grind,M⟩,?_⟩,?_⟩
    ·grind
    ·have:0<((xs.drop lo).take n).length:=Vgc.2 p
     grind
    ·have:=Kp.part (off:=0) (l:=lo) (n:=n) (Rd.all_length f) (by rw[<-f.length];omega) (Kp.of_vec L j)
     grind
    grind
 ·simp [Zb]at h
theorem ZkM{a b:Ty}{y:El (RU a b)}{p off:Nat}{c:List Value}(l:I p)(k:Kp w p off c)(h:Rd w I (RU a b) y c):Rd w I (.lk a b) ((y.1,y.2.2)::y.2.1) [.pointer (some ⟨p,off,none⟩)]:=by simp only[Rd]at h⊢;obtain⟨d,m,rfl,f,c3,e,rfl,i,j⟩:=h;exact⟨p,off,d,c3,e,rfl,l,k,f,i,j⟩
theorem Zof(e:∀b,g.I b->I b)(a b:Ty){d:Ty}{y:El d}(cs:List Value)(x:List (El a×El b))(ids l n:List Nat)(h:(Ke (.lk a b) (.dp d y)).run H l=some ((x,ids),n))(f:CV w g (.dp d y) cs):Rd w I (.lk a b) x cs:=by simp only[Ke,Zu,Zd,Vc]at h;obtain⟨z,m,⟨rfl,rfl⟩,_⟩:=h;obtain⟨rfl,rfl⟩:=Kv m;simp only[CV]at f;obtain⟨p,off,c,rfl,i,j,k⟩:=f;exact ZkM (e _ i) j (Rd.mono (fun _ _=>rfl) e _ _ _ k)
theorem Zmz(s:RH B H w g ow)(q:∀b,g.I b->I b){id:Nat}{x f:Ty}{y:El f}{cs:List Value}(k:H id=some (.var x (.d f y)))(l:CV w g (.ptr id []) cs)(r:∀b,ZF H ow [id] b->I b):∃b cells e,cs=[.pointer (some ⟨b,0,none⟩)]/\I b/\w.heap[b]? =some (.cells cells e (0,0))/\Rd w I f y cells.toList:=by simp only[CV]at l;obtain⟨_,o,t,b,h,m,rfl⟩:=l;obtain⟨_,u,C,z,c,e,i,n,p,A,j⟩:=s.objs id _ k;rw[K0,Option.some.injEq,Vc]at h;obtain⟨rfl,_⟩:=h;rw[m]at i;cases i;simp only[CV]at j;exact⟨b,c,e,rfl,r b ⟨id,by simp,by rw[k];simp,n⟩,p,Rd.mono (fun _ _=>rfl) q _ _ _ j⟩
theorem Zoj(f:RH B H w g ow)(d:∀b,g.I b->I b)(t:Ty){id:Nat}(cs:List Value)(x:Option (El t))(ids l k:List Nat)(h:(Ke (.pt t) (.ptr id [])).run H l=some ((x,ids),k))(i:CV w g (.ptr id []) cs)(e:∀b,ZF H ow ids b->I b):Rd w I (.pt t) x cs:=by
 simp only[Ke,Vvc,Zc]at h;rw[ZN]at h;split at h
 ·rename_i n m y c;simp only[Zu,Zd,Vc]at h;obtain⟨z,j,⟨rfl,rfl⟩,_⟩:=h;obtain⟨rfl,rfl⟩:=Kv j;exact Zmz f d c i e
 ·simp [Zb]at h
theorem Zog(n:RH B H w g ow)(k:∀b,g.I b->I b)(a b:Ty){id:Nat}(cs:List Value)(x:List (El a×El b))(ids l s:List Nat)(h:(Ke (.lk a b) (.ptr id [])).run H l=some ((x,ids),s))(q:CV w g (.ptr id []) cs)(m:∀b,ZF H ow ids b->I b):Rd w I (.lk a b) x cs:=by
 simp only[Ke,Vvc,Zc]at h;rw[ZN]at h;split at h
 ·rename_i u t y j;simp only[Zu,Zd,Vc]at h;obtain⟨z,r,⟨rfl,rfl⟩,_⟩:=h;obtain⟨rfl,rfl⟩:=Kv r;obtain⟨p,c,e,rfl,d,f,i⟩:=Zmz n k j q m;refine ZkM d ?_ i;have:=Kp.of_vec (w:=w) (b:=p) (css:=[c.toList]) f (by simp);simpa using this
 ·simp [Zb]at h
mutual
theorem DH(j:RH B H w g ow)(i:∀b,g.I b->I b):∀(t:Ty) (v:AV) (cs:List Value) (x:El t) (ids l e:List Nat),(Ke t v).run H l=some ((x,ids),e)->CV w g v cs->(∀b,ZF H ow ids b->I b)->Rd w I t x cs
 |t,.d M y,cs,x,ids,l,e,h,c,_=>by
  simp only[Ke,Zu,Zd,Vc]at h;obtain⟨z,J,⟨rfl,rfl⟩,_⟩:=h;obtain⟨rfl,rfl⟩:=Kv J
  exact Rd.mono (fun _ _=>rfl) i _ _ cs (by simpa only[CV] using c)
 |t,.nils,cs,x,ids,l,e,h,c,f=>by
  cases t with
  |sl t=>exact Zoh t cs x ids l e h c
  |_=>simp [Ke,Zb]at h
 |t,.vw id,cs,x,ids,l,e,h,c,f=>by
  cases t with
  |sl t=>exact Zol j i t cs x ids l e h c f
  |_=>simp [Ke,Zb]at h
 |t,.vs id lo n,cs,x,ids,l,e,h,c,f=>by
  cases t with
  |sl t=>exact Zok j i t cs x ids l e h c f
  |_=>simp [Ke,Zb]at h
 |t,.nw id ver Q k,cs,x,ids,l,e,h,c,f=>by
  cases t with
  |sl t=>exact Zoi j i t cs x ids l e h c f
  |_=>simp [Ke,Zb]at h
 |t,.np _ _ _ _ _ _,_,_,_,_,_,h,_,_=>by simp [Ke,Zb]at h
 |t,.agg vs,cs,x,ids,l,e,h,c,f=>by
  simp only[Ke]at h;simp only[CV]at c
  exact Ziw j i t vs cs x ids l e h c f
 |t,.junk,_,_,_,_,_,h,_,_=>by simp [Ke,Zb]at h
 |t,.tup _,_,_,_,_,_,h,_,_=>by simp [Ke,Zb]at h
 |t,.dp M y,cs,x,ids,l,e,h,c,f=>by
  cases t with
  |lk a b=>exact Zof i a b cs x ids l e h c
  |_=>simp [Ke,Zb]at h
 |t,.ptr id [],cs,x,ids,l,e,h,c,f=>by
  cases t with
  |pt t=>exact Zoj j i t cs x ids l e h c f
  |lk a b=>exact Zog j i a b cs x ids l e h c f
  |_=>simp [Ke,Zb]at h
 |t,.ptr id (_::_),cs,x,ids,l,e,h,c,f=>by
  cases t<;>simp [Ke,Zb]at h
 |t,.vp _ _ _,_,_,_,_,_,h,_,_=>by simp [Ke,Zb]at h
 |t,.mp _,_,_,_,_,_,h,_,_=>by simp [Ke,Zb]at h
 |t,.fn _ _,_,_,_,_,_,h,_,_=>by simp [Ke,Zb]at h
 |t,.nilr p,cs,x,ids,l,e,h,c,_=>by
  cases p with
  |true=>
   have c:=ZkK c
   cases t with
   |pt t=>
    simp only[Ke,Zc,Zd,Vc]at h;obtain⟨⟨rfl,_⟩,_⟩:=h
    exact c
   |lk a b=>
    simp only[Ke,Zc,Zd,Vc]at h;obtain⟨⟨rfl,_⟩,_⟩:=h
    exact c
   |pn t=>
    simp only[Ke,Zc,Zd,Vc]at h;obtain⟨⟨rfl,_⟩,_⟩:=h
    exact c
   |_=>simp [Ke,Zb]at h
  |false=>cases t<;>simp [Ke,Zb]at h
 |t,.jk _,_,_,_,_,_,h,_,_=>by simp [Ke,Zb]at h
theorem Ziw(j:RH B H w g ow)(i:∀b,g.I b->I b):∀(t:Ty) (v:Zl) (cs:List Value) (x:El t) (ids l e:List Nat),(XM t v).run H l=some ((x,ids),e)->Z2 w g v cs->(∀b,ZF H ow ids b->I b)->Rd w I t x cs
 |.unit,.nil,cs,x,ids,l,e,h,c,_=>by simpa [Z2,Rd] using c
 |.prod a b,.cons v vs,cs,x,ids,l,e,h,c,f=>by
  simp only[XM,ZQ,Zd,Vc]at h;obtain⟨⟨N,K⟩,R,A,⟨O,L⟩,m2,C,⟨rfl,rfl⟩,_⟩:=h;simp only[Z2]at c;obtain⟨s,u,rfl,D,G⟩:=c;simp only[Rd]
  exact⟨s,u,rfl,DH j i a v s N K _ _ A D fun b m=>f b (let ⟨id,q,r⟩:=m;⟨id,by simp [q],r⟩),Ziw j i b vs u O L _ _ C G fun b m=>f b (let ⟨id,q,r⟩:=m;⟨id,by simp [q],r⟩)⟩
 |.unit,.cons _ _,_,_,_,_,_,h,_,_=>by simp [XM,Zb]at h
 |.prod _ _,.nil,_,_,_,_,_,h,_,_=>by simp [XM,Zb]at h
 |.int _,_,_,_,_,_,_,h,_,_=>by simp [XM,Zb]at h
 |.bool,_,_,_,_,_,_,h,_,_=>by simp [XM,Zb]at h
 |.str,_,_,_,_,_,_,h,_,_=>by simp [XM,Zb]at h
 |.sl _,_,_,_,_,_,_,h,_,_=>by simp [XM,Zb]at h
 |.arr _ _,_,_,_,_,_,_,h,_,_=>by simp [XM,Zb]at h
 |.ref,_,_,_,_,_,_,h,_,_=>by simp [XM,Zb]at h
 |.pt _,_,_,_,_,_,_,h,_,_=>by simp [XM,Zb]at h
 |.lk _ _,_,_,_,_,_,_,h,_,_=>by simp [XM,Zb]at h
 |.pn _,_,_,_,_,_,_,h,_,_=>by simp [XM,Zb]at h
end
theorem Zql{t:Ty}{x:El t}{u:Ty}(h:(X4 t x).fits t=true)(_:u=t):t.agg=true:=by
 cases t<;>simp [X4,Zl.fits]at h<;>rfl
theorem Zfu{t:Ty}{v:AV}{r:El t×List Nat}{l c:List Nat}(h:(Ke t v).run H l=some (r,c)):v≠ .junk/\v.isAgg=t.agg:=by
 cases v with
 |d e x=>
  simp only[Ke,Zu,Zd]at h;obtain⟨z,b,_⟩:=h;obtain⟨rfl,_⟩:=Kv b
  exact⟨by simp,rfl⟩
 |agg vs=>
  simp only[Ke]at h
  cases t<;>cases vs<;>simp [XM,Zb]at h<;>exact⟨by simp,rfl⟩
 |ptr id p=>cases p<;>cases t<;>simp [Ke,Zb]at h<;>exact⟨by simp,rfl⟩
 |nilr p=>cases p<;>cases t<;>simp [Ke,Zb]at h<;>exact⟨by simp,rfl⟩
 |_=>cases t<;>simp [Ke,Zb]at h<;>exact⟨by simp,rfl⟩
theorem ZkZ{i j:List Nat}(h:∀id∈i,id∈j){b:Nat}(e:ZF H ow i b):ZF H ow j b:=
 let ⟨id,c,d⟩:=e;⟨id,h id c,d⟩
theorem RH.freezeIds{ids:List Nat}(d:RH B H w g ow):RH B (Zn H (ids.map fun id=>(id,none))) w (g.grow (ZF H ow ids)) ow:=by
 refine(d.drops ids).grow fun b i=>?_;obtain⟨k,h,e,f⟩:=i;obtain⟨p,q,r⟩:=d.sep k b e f;refine⟨q,.inr r,fun id c l=>?_⟩;rw[Da]at c;split at c
 ·grind
 ·rename_i j;exact j (d.dist id k b c e l f▸h)
theorem ZbO{B C:ZS}{j:AH}{w0:World}{g0:Gh}{e:Nat->Nat->Prop}(n:RH C j w0 g0 e){w:World}{g:Gh}(c:g0.Le g)(i:∀b,g0.I b->w.heap[b]? =w0.heap[b]?):∀(br:List Nat) (ds:Kq) (l z:List Nat),(G7 br).run j l=some (ds,z)->(∀id∈br,∀b,j id≠none->e id b->g.I b/\w.heap[b]? =w0.heap[b]?)->
 ∀{H:AH}{ow:Nat->Nat->Prop},RH B H w g ow->∃A,RH B (Zn H ds) w g A
 |[],ds,l,z,h,_,H,ow,d=>by
  simp only[G7,Zd]at h;obtain⟨rfl,_⟩:=h
  exact⟨ow,d⟩
 |id::br,ds,l,z,h,D,H,ow,d=>by
  simp only[G7]at h;rw[ZN]at h;split at h
  ·rename_i t xs s;simp only[ZQ,Zd]at h;obtain⟨p,m,r,rfl,_⟩:=h;obtain⟨f,k⟩:=n.objs id _ s;have x:j id≠none:=by grind
   have y:Rd w g.I (.sl t) xs [g.slv id]:=by rw[c.slv _ f];exact Rd.mono (I:=fun b=>g0.I b\/e id b) (fun b q=>by grind) (fun b q=>q.elim (c.I b) (by grind)) _ _ _ (ZmA k (by grind) (by grind))
   exact ZbO n c i br p _ _ r (by grind) (d.putDat (c.K _ f) ((c.ty _ f).trans k.1) y)
  ·rename_i t xs u s;simp only[ZQ,Zd]at h;obtain⟨p,m,r,rfl,_⟩:=h;obtain⟨f,k⟩:=n.objs id _ s;have x:j id≠none:=by grind
   have y:Rd w g.I (.sl (.sl t)) xs [g.slv id]:=by rw[c.slv _ f];exact Rd.mono (I:=fun b=>g0.I b\/e id b) (fun b q=>by grind) (fun b q=>q.elim (c.I b) (by grind)) _ _ _ (ZlH k (by grind) (by grind))
   exact ZbO n c i br p _ _ r (by grind) (d.putDat (c.K _ f) ((c.ty _ f).trans k.1) y)
  ·exact ZbO n c i br ds _ _ h (by grind) d
theorem Zo.dats{B:ZS}{H1:AH}{nid:Nat}{v:AV}{r:Result Next}{ids:List Nat}{ds:Kq}{l x:List Nat}(u:RH B H w g ow)(j:(G7 ids).run H l=some (ds,x))(h:Zo B H1 w (g.grow (ZF H ow ids)) nid v r):Zo B (Zn H1 ds) w (g.grow (ZF H ow ids)) nid v r:=by obtain⟨val,z,m,y,n,p,f,i,q,s⟩:=h;obtain⟨k,t⟩:=ZbO u ((g.le_grow _).trans f) (fun b e=>i b (.inl e)) ids ds _ _ j (fun id c b d e=>⟨f.I b (.inr ⟨id,c,d,e⟩),i b (.inr ⟨id,c,d,e⟩)⟩) p;exact⟨val,z,m,k,n,t,f,i,q,s⟩
theorem ZjS{a:Act}{e:Ty}(s:RH B H w g ow)(hF:Fr w g F a.tmps){J:Nat->Prop} :∀(d:List (Nat×Operand)) (f:List (Nat×AV)) (ids l k:List Nat),(Zb0 e (d.map fun p=>(p.1,Zt F p.2))).run H l=some ((f,ids),k)->
 (∀b,ZF H ow ids b->J b)->Fa (fun p q=>q.1=p.1/\VR w (g.grow J) q.2 (a.eval p.2)) d f
 |[],f,ids,l,k,h,_=>by
  simp only[Vod,Zb0,Zd,Vc]at h;obtain⟨⟨rfl,_⟩,_⟩:=h
  trivial
 |p::d,f,ids,l,k,h,n=>by
  simp only[Vs,Zb0,ZQ,Zd,Vc]at h;obtain⟨⟨x,C⟩,G,c,⟨r,D⟩,K,u,⟨rfl,rfl⟩,_⟩:=h;refine⟨⟨rfl,?_⟩,ZjS s hF d r D _ _ u fun b i=>n b (ZkZ (by grind) i)⟩;obtain⟨z,y⟩:=Zfu c
  have j:∀m,Zt F p.2≠ .tup m:=by
   intro m A;rw[A]at c
   cases e<;>simp [Ke,Zb]at c
  have t:=(hF.eval p.2).to1 j;refine .of1 ⟨?_,.inr ?_⟩
  ·simp only[CV];exact DH (I:=(g.grow J).I) s (fun _ h=>.inl h) e _ _ x C _ _ c t.1 fun b i=>.inr (n b <| ZkZ (by grind) i)
  ·rw[t.2.resolve_left z,y];rfl
end
section ops
variable {P:Program}{E:Z3}{B:ZS}{H:AH}{w:World}{g:Gh}{ow:Nat->Nat->Prop}{nid:Nat}{a:Act}{F:Nat->AV}{v:AV}{patch:Kq}{rd:List Nat}{o:Oper}
theorem ZnI{T:TypeId}{u:Array (Nat×Operand)}(q:ZX P E)(G:RH B H w g ow)(hF:Fr w g F a.tmps)(M:o.op=.build T u)
 (h:(ZG E nid o.op o.type (Zt F)).run H []=some ((v,patch),rd)):Zo B (Zn H patch) w g nid v ((execOp a.eval o).run P w):=by
 rw[M]at h;simp only[ZG,Zu]at h;obtain⟨t,N,h⟩:=h;have s:(u.map fun(i,x)=>(i,a.eval x)).toList=u.toList.map fun p=>(p.1,a.eval p.2):=by simp
 have fin:∀{cells:Array Value},P.built T (u.toList.map fun p=>(p.1,a.eval p.2))=some cells->patch=[]->CV w g v cells.toList->v.isAgg=true->Zo B (Zn H patch) w g nid v ((execOp a.eval o).run P w):=by intro cells r j hv J;subst j;refine Zo.pure G (val:=.agg cells) ?_ (VR.of1 ⟨by assumption,.inr (by rw[J];rfl)⟩);simp only[execOp,M,Vb];rw[run_build w T _ cells (by grind)];rfl
 split at h
 ·rename_i S U;simp only[ZD,Zd,Zb,ZJ,false_or,ZY,Vi,Vc]at h;obtain⟨j,X,h⟩:=h;obtain⟨cells,V,C⟩:=Zoy q N hF j (E.zx T) X;obtain⟨W,h4⟩:=ZrT C;rcases h with ⟨_,h⟩|⟨_,⟨rfl,rfl⟩,_⟩
  ·simp only[ZQ,Zd,Vc]at h;obtain⟨⟨y,ids⟩,m,K,⟨rfl,rfl⟩,_⟩:=h;have f:=g.le_grow (ZF H ow ids);have Z:Rd w (g.grow (ZF H ow ids)).I (.prod S U) y cells.toList:=DH G (fun b r=>f.I b r) _ _ _ _ _ _ _ K W (fun b r=>.inr r);refine Zo.after_le f (fun _ h=>h) (Zo.pure (val:=.agg cells) G.freezeIds ?_ (VR.of1 ⟨by assumption,.inr rfl⟩));simp only[execOp,M,Vb];rw[run_build w T _ cells (by grind)];rfl
  grind
 ·rename_i n e;simp only[ZD,Zu,Zd,Zb,ZJ,false_or,Vba,Vi,Vc]at h;obtain⟨⟨j,K⟩,l,Q,⟨rfl,rfl⟩,_⟩:=h;obtain⟨R,hu,D⟩:=Ziv q N;obtain⟨i,z,hi,_,_,hz,c,_⟩:=(q.ty T _ N).info;obtain⟨ie,ze,Y,a1,_⟩:=(q.ty R _ D).info
  have k:Rd w g.I (.arr n e) (zeroEl (.arr n e)) z.cells.toList:=by unfold Gm at c;rw[show (Ty.arr n e).data=true from K]at c;exact ZcE _ _ c
  simp only[Rd]at k;obtain⟨_,A,O,L⟩:=k;obtain⟨d,V,C⟩:=ZiO (Zk3 hF _) j Q L;refine fin (cells:=d.flatten.toArray) ?_ rfl ?_ rfl
  ·unfold Program.built;have a2:z.cells=A.flatten.toArray:=by grind
   grind
  ·simp only[CV,Rd];exact⟨(Zdd Q).1,d,rfl,C⟩
 ·simp [Zb]at h
end ops
end Tr
end
section
namespace Tr
open Go
theorem Zbm(z:Array Value):∀n:Nat,((Vsa (n*z.size)).map (z[· % z.size]!)).toList=(Vf n z.toList).flatten
 |0=>by simp
 |n+1=>by
  have b:=Zbm z n;simp only[Vtb,Array.toList_range]at b⊢;rw[Vma,Nat.one_mul,List.range_add,Vyc,b,List.replicate_succ',Vja,Vxb];congr 1;simp only[Vob,List.flatten_nil,List.append_nil];apply List.ext_getElem
  ·simp
  ·intro i d e;have c:i<z.size:=by omega
   simp only[List.getElem_map,List.getElem_range,Function.comp];rw[Nat.mul_comm,Nat.mul_add_mod,Nat.mod_eq_of_lt c]
   grind
section ops
variable {P:Program}{E:Z3}{B:ZS}{H:AH}{w:World}{g:Gh}{ow:Nat->Nat->Prop}{nid:Nat}{a:Act}{F:Nat->AV}{v:AV}{patch:Kq}{rd:List Nat}{o:Oper}
theorem Zeb(A:RH B H w g ow)(j:¬g.K nid){t:Ty}{T:TypeId}{xs:List (El t)}{css:List (List Value)}{cap:Nat}{cells:Array Value}(k:Fa (Rd w g.I t) xs css)
 (D:css.flatten<+:cells.toList) (i:xs.length<=cap) (l:cap*t.size<=cells.size) {r:Result Next}{w1:World} (e:W2 w w1)
 (G:r=.ok (.value (.slice (some ⟨w.heap.size,0,none⟩) xs.length cap)) (w1.alloc (.cells cells T))):Zo B (ZO H nid (some (.vec t xs))) w g nid (.vw nid) r:=by
 have h:=A.same e;have f:w1.heap.size=w.heap.size:=by rw[e.heap]
 have key:Zo B (ZO H nid (some (.vec t xs))) w1 g nid (.vw nid) r:=by
  refine Zo.new' (t:=t) (sv:=.slice (some ⟨w1.heap.size,0,none⟩) xs.length cap) h j (f▸G) ?_ ?_
  ·refine⟨by simp [Gh.add],.inr ⟨w1.heap.size,cap,cells,T,css,by simp [Gh.add],rfl,by simp [Gh.add],Gv _ _,i,l,?_,D⟩⟩;refine k.mono fun x c J=>?_;have:=Zik (x:=.d t x) (cs:=c) h j (t:=t) (sv:=.slice (some ⟨w1.heap.size,0,none⟩) xs.length cap) (b:=some w1.heap.size) (ob:=.cells cells T) (by simp only[CV];exact Rd.mono (e.agree _) (by simp) t x c J)
   assumption
  ·refine Kx ?_ rfl rfl;simp only[CV];exact⟨.inl rfl,by simp [Gh.add],by simp [Gh.add,Vna]⟩
 obtain⟨val,L,n,m,p,q,s,u,y,z⟩:=key;exact⟨val,L,n,m,p,q,s,fun b C=>(u b C).trans (by rw[e.heap]),y,z⟩
theorem Ze0{f:TypeId}{e:Ty}(k:ZX P E)(h:E.ty f=some e)(l:e.data=true):∃c z,P.info? f=some c/\c.size=e.size/\c.zero=some z/\z.cells.size=e.size/\c.bytes<=4096/\
 ∀n,Fa (Rd w g.I e) (Vf n (zeroEl e)) (Vf n z.cells.toList):=by
 obtain⟨c,z,m,j,i,p,b,_⟩:=(k.ty f _ h).info
 have d:Rd w g.I e (zeroEl e) z.cells.toList:=by unfold Gm at b;rw[l]at b;exact ZcE _ _ b
 refine⟨c,z,m,j,p,?_,i,?_⟩
 ·have:=Rd.length _ _ _ d;omega
 ·intro n
  induction n with
  |zero=>trivial
  |succ n q=>exact⟨d,q⟩
theorem ZdD(f:RH B H w g ow){ids:List Nat}{b:Nat}(i:ZF H ow ids b):¬g.I b/\b<w.heap.size/\(B.own0 b\/B.w0.heap.size<=b)/\ ∀id,Zn H (ids.map fun id=>(id,none)) id≠none->¬ow id b:=by
 obtain⟨k,h,d,e⟩:=i;obtain⟨p,q,r⟩:=f.sep k b d e;refine⟨p,q,r,fun id c l=>?_⟩;rw[Da]at c;split at c
 ·grind
 ·rename_i j;exact j (f.dist id k b c d l e▸h)
theorem Zcg{w' :World}{J:Nat->Prop}{t:Ty}{xs:List (List (El t))}{val:Value}{r:Result Next}(i:RH B H w g ow)(j:¬g.K nid)(c:∀k,k<w.heap.size->w'.heap[k]? =w.heap[k]?)(n:w.heap.size<=w'.heap.size)(m:w'.os=w.os)(f:w'.tape=w.tape)(l:Ym w' w)
 (C:r=.ok (.value val) w') (d:JQ w' g.I (fun b=>J b\/(w.heap.size<=b/\b<w'.heap.size)) t xs val) (L:∀b,J b->¬g.I b/\b<w.heap.size/\(B.own0 b\/B.w0.heap.size<=b)/\ ∀id,H id≠none->¬ow id b):Zo B (ZO H nid (some (.rows t xs 0 none))) w g nid (.vw nid) r:=by
 obtain⟨b,D,A⟩:=d.obj nid
 have e:val.oneCell' =true/\Z8 val=false:=by
  obtain⟨M,_,h⟩:=d
  rcases h with ⟨_,rfl⟩|⟨_,_,_,_,_,_,rfl,_⟩<;>exact⟨rfl,rfl⟩
 refine⟨val,w',g.add nid (.sl t) b val D,JU ow nid (fun b=>J b\/(w.heap.size<=b/\b<w'.heap.size)),.inl C,?_,Gh.le_add j _ _ _ _,fun b z=>c b (i.ilt b z),?_,?_⟩
 ·refine i.add j c n m f l (fun k q=>?_) A;rcases q with q|⟨G,s⟩
  ·grind
  ·refine⟨fun y=>absurd (i.ilt _ y) (by omega),s,.inr (by have:=i.size;omega),fun p u x=>?_⟩;have:=(i.sep p _ u x).2.1;omega
 ·refine Kx ?_ e.1 rfl;simp only[CV];exact⟨.inl rfl,by simp [Gh.add],by simp [Gh.add,e.1]⟩
 ·intro id h;rcases h with rfl|h
  ·exact .inr ⟨Vg _,by unfold K8;omega⟩
  grind
theorem ZiN(q:RH B H w g ow)(hF:Fr w g F a.tmps){t:Ty}{d:List (Nat×Operand)} :∀(m n:Nat) (i:List (List (El t))) (ids l r:List Nat),(ZbF t (d.map fun p=>(p.1,Zt F p.2)) m n).run H l=some ((i,ids),r)->ids.Nodup->
 ∃f:List Value,f.length=m/\(∀j,j<m->f[j]? =some (match d.lookup (n+j) with|some x=>a.eval x|none=>.slice none 0 0))/\RL w g.I (ZF H ow ids) t f i
 |0,n,i,ids,l,r,h,_=>by
  simp only[ZbF,Zd,Vc]at h;obtain⟨⟨rfl,rfl⟩,_⟩:=h
  exact⟨[],rfl,by omega,RL.nil⟩
 |m+1,n,i,ids,l,r,h,L=>by
  simp only[ZbF,ZQ,Zd,Vc]at h;obtain⟨⟨y,W⟩,X,z,⟨s,O⟩,Y,G,⟨rfl,rfl⟩,_⟩:=h;obtain⟨Z,R,n3⟩:=Vlc.1 L;obtain⟨f,T,U,J⟩:=ZiN q hF m (n+1) s O _ _ G R;rw[RQ]at z
  have N:VR w g (((d.lookup n).map (Zt F)).getD .nils) (match d.lookup n with|some x=>a.eval x|none=>.slice none 0 0):=by
   cases d.lookup n with
   |none=>exact Kx (by rfl) rfl rfl
   |some x=>exact hF.eval x
  have M:=Zcn q N z
  refine⟨(match d.lookup n with|some x=>a.eval x|none=>.slice none 0 0)::f,by grind,fun j V=>?_,?_⟩
  ·grind
  ·have:=(RL.single M).append J (fun c ⟨k,u,e,A⟩ ⟨Q,S,C,D⟩=>by
    have:=q.dist k Q c e C A D
    grind)
   exact this.mono (fun _ _=>rfl) (by simp) (fun b K=>by
    rcases K with ⟨k,u,e⟩|⟨k,u,e⟩
    ·exact⟨k,by grind,e⟩
    ·exact⟨k,by grind,e⟩) (by simp)
theorem ZnJ{T:TypeId}{n:Nat}{M:Array (Nat×Operand)}(N:ZX P E)(u:RH B H w g ow)(hF:Fr w g F a.tmps)(L:∀id,g.K id->id<nid\/nid+K8<=id)(ho:o.op=.buildSlice T n M)
 (h:(ZG E nid o.op o.type (Zt F)).run H []=some ((v,patch),rd)):Zo B (Zn H patch) w g nid v ((execOp a.eval o).run P w):=by
 rw[ho]at h;simp only[ZG,Zu]at h;obtain⟨t,ht,h⟩:=h;split at h
 ·rename_i e;rw[ZD]at h;rcases h with ⟨_,h⟩|⟨_,h⟩
  ·split at h
   ·rename_i X;simp only[ZD,ZQ,Zu,Zd,Zb,ZJ,false_or,Vba,Vi,Vc]at h;obtain⟨⟨hp,a0⟩,⟨ys,ids⟩,m1,a3,_,a8,⟨rfl,rfl⟩,_⟩:=h;obtain⟨Q,hu,r⟩:=WM N ht;have s:=Ze1 (N.ty Q _ r) w;obtain⟨C,S,O,m⟩:=ZiN u hF n 0 ys ids [] m1 a3 (Zee.1 (X9 a8))
    have f:¬n* (Ty.sl X).size>2 ^ 24:=by
     intro R;have:Vkd (2 ^ 24) n=true:=by simpa [Nat.blt_eq,Ty.size] using R
     grind
    have D:=Zel hp;have U:(Vf n [Vj none 0 0]).map Vha=Vf n 1:=by simp
    obtain⟨Y,h2⟩:=ZdM (place:=fun i=>some (i* (Ty.sl X).size,(Ty.sl X).size)) (lens:=Vf n 1) (by
     intro i hi;simp only[Vx]at hi
     simp [Vfc,Vyb (Nat.le_of_lt hi),Ty.size]) (M.toList.map fun p=>(p.1,a.eval p.2)) (Vf n [Vj none 0 0]) U (by
     intro p a9;obtain⟨q,hq,rfl⟩:=Vwb.1 a9;have L:=D.2 q.1 (by grind);refine⟨1,by grind,?_⟩;have h3:=O q.1 L;rw[Vp,Zef D.1 hq]at h3;obtain⟨x,hx⟩:∃x,ys[q.1]? =some x:=⟨_,Vaa (by rw[<-m.1,S];exact L)⟩;have A:=(m.row hx).one;have h5:C.getD q.1 undef=a.eval q.2:=by grind
     rw[h5]at A
     cases hv:a.eval q.2<;>rw[hv]at A<;>simp [Z8]at A<;>rfl)
    have a4:(GJ (Vf n [Vj none 0 0]) (M.toList.map fun p=>(p.1,a.eval p.2))).flatten=C:=by
     have:GJ (Vf n [Vj none 0 0]) (M.toList.map fun p=>(p.1,a.eval p.2))=C.map fun v=>[v]:=by
      apply Vda;intro j;by_cases hj:j<n
      ·rw[Zex _ _ (by rw[Vxb,Vx];assumption) j (by grind),RQ,List.getElem?_map,O j hj,Vp]
       cases hl:M.toList.lookup j with
       |none=>grind
       |some x=>
        simp only[Vl];obtain⟨y,hy⟩:∃y,ys[j]? =some y:=⟨_,Vaa (by rw[<-m.1,S];exact hj)⟩;have A:=(m.row hy).one;have h5:C.getD j undef=a.eval x:=by grind
        rw[h5]at A;congr 1
        cases hv:a.eval x<;>rw[hv]at A<;>simp [Z8]at A<;>rfl
      ·rw[Vbc (by rw[Zey];grind),Vbc (by grind)]
     rw[this];generalize C=l
     induction l with
     |nil=>rfl
     |cons x l ih=>grind
    have d:(M.map fun(i,x)=>(i,a.eval x)).toList=M.toList.map fun p=>(p.1,a.eval p.2):=by simp
    have h0:=Zbm #[Vj none 0 0] n
    have a2:(execOp a.eval o).run P w=.ok (.value (.slice (some ⟨w.heap.size,0,none⟩) n n)) (w.alloc (.cells C.toArray Q)):=by
     rw[a4]at Y;by_cases V:n* (Ty.sl X).size=0
     ·have c:(Vsa (n* (Ty.sl X).size)).map ((#[]:Array Value)[· % (#[]:Array Value).size]!)=(Vf n [Vj none 0 0]).flatten.toArray:=by
       rw[V];have:n=0:=by simpa [Ty.size] using V
       grind
      simp only[execOp,ho,Vcb,underlying,Vb,run_program,Va,hu,Vd,(N.ty _ _ r).run_sizeOf,Zf f,Zr V,c,d,Y,newRow,run_newObj];rfl
     ·have c:(Vsa (n* (Ty.sl X).size)).map ((#[Vj none 0 0]:Array Value)[· % (#[Vj none 0 0]:Array Value).size]!)=(Vf n [Vj none 0 0]).flatten.toArray:=by
       apply Vsb.1
       assumption
      simp only[execOp,ho,Vcb,underlying,Vb,run_program,Va,hu,Vd,(N.ty _ _ r).run_sizeOf,Zf f,Zf V,s,Vab,c,d,Y,newRow,run_newObj];rfl
    have b4:ys.length=n:=by rw[<-m.1,S]
    rw[J2];refine Zcg (w' :=w.alloc (.cells C.toArray Q)) (J:=ZF H ow ids) (u.drops ids) (X7 L) (fun k L=>G0 L) (by simp) rfl rfl ⟨rfl,Vg _⟩ a2 ?_ (fun b R=>ZdD u R);refine⟨C,m.mono (fun b R=>G0 (u.ilt b R)) (by simp) (by grind) (fun i x b hx hr=>?_),.inr ⟨w.heap.size,n,C.toArray,Q,by simp,fun i x hx hr=>?_,by grind,Gv _ _,by grind,by grind,fun i hi=>?_⟩⟩
    ·obtain⟨k,_,h3,A⟩:=(m.row hx).own hr;exact G0 (u.sep k b h3 A).2.1
    ·obtain⟨k,_,h3,A⟩:=(m.row hx).own hr;have:=(u.sep k _ h3 A).2.1;omega
    grind
   ·simp [Zb]at h
  simp only[ZD,ZQ,Zu,Zd,Zb,ZJ,false_or,Vba,Vi,Vc]at h;obtain⟨⟨⟨hp,C⟩,a0⟩,⟨qs,ids⟩,m1,b0,l,hl,ds,m2,a5,⟨rfl,rfl⟩,_⟩:=h;obtain⟨Q,hu,r⟩:=WM N ht;have b2:=u;have a1:=ZjS (J:=ZF H ow ids) u hF _ _ _ _ _ b0 (by simp);have a7:=g.le_grow (ZF H ow ids);rw[J2,J2];refine Zo.after_le a7 (fun _ h=>h) (Zo.dats u a5 ?_);have u:=u.freezeIds (ids:=ids);have L:∀id,(g.grow (ZF H ow ids)).K id->id<nid\/nid+K8<=id:=L;generalize g.grow (ZF H ow ids)=g at u L a1⊢;obtain⟨ie,z,a6,b3,hz,b1,_,W⟩:=Ze0 (w:=w) (g:=g) N r C;obtain⟨Z,Y,h2⟩:=ZiO (g:=g) a1 hp hl (W n);have G:=(Zdd hl).1
  have f:¬n*e.size>2 ^ 24:=by
   intro R;have:Vkd (2 ^ 24) (n*e.size)=true:=by simpa [Nat.blt_eq] using R
   grind
  refine Zeb u (X7 L) (cells:=Z.flatten.toArray) (T:=Q) (cap:=n) h2 (by simp) (by omega) ?_ (.refl w) ?_
  ·have:=Jy (Rd.all_length h2);rw[Vmc,this, <-h2.length,G];omega
  ·have h0:=Zbm z.cells n;rw[b1]at h0;have d:(M.map fun(i,x)=>(i,a.eval x)).toList=M.toList.map fun p=>(p.1,a.eval p.2):=by simp
   have s:(zeroValue Q).run P w=.ok z w:=by simp [zeroValue,typeInfo,a6,hz]
   by_cases V:n*e.size=0
   ·have c:(Vsa (n*e.size)).map ((#[]:Array Value)[· % (#[]:Array Value).size]!)=(Vf n z.cells.toList).flatten.toArray:=by
     grind
    simp only[execOp,ho,Vcb,underlying,Vb,run_program,Va,hu,Vd,(N.ty _ _ r).run_sizeOf,Zf f,Zr V,c,d,Y,newRow,run_newObj,G];rfl
   ·have c:(Vsa (n*e.size)).map (z.cells[· % z.cells.size]!)=(Vf n z.cells.toList).flatten.toArray:=by
     grind
    simp only[execOp,ho,Vcb,underlying,Vb,run_program,Va,hu,Vd,(N.ty _ _ r).run_sizeOf,Zf f,Zf V,s,c,d,Y,newRow,run_newObj,G];rfl
 ·simp [Zb]at h
theorem ZlN{T i:TypeId}{e:Ty}{k1 k2:IntKind}{n m:Int}{h:TypeInfo}{z:Value}(u:ZX P E)(y:P.underlying T=some (.slice i))(j:E.ty i=some e)(d:P.info? i=some h)(K:h.zero=some z)(t:z.cells.size=e.size)
 (C:h.bytes<=256) (L:0<=n) (J:n<=m) (r:m<=549755813888):
 (Vzb T (.int k1 n) (.int k2 m)).run P w=.ok (.slice (some ⟨w.heap.size,0,none⟩) n.toNat m.toNat) (w.alloc (.cells (Vf m.toNat z.cells.toList).flatten.toArray i)):=by
 have A:∀x:Int,Vra.wrap x=(x+9223372036854775808) % 18446744073709551616 - 9223372036854775808:=fun x=>by simp [Vrd,Vsd,Ved];omega
 have l:Vra.wrap n=n:=by grind
 have k:Vra.wrap m=m:=by grind
 have p:¬(281474976710656<(h.bytes:Int) *m):=by have M:(h.bytes:Int) *m<=256*549755813888:=Vfd (by omega) r (by omega) (by omega);omega
 have s:=Zbm z.cells m.toNat;rw[t]at s;have f:(zeroValue i).run P w=.ok z w:=by simp [zeroValue,typeInfo,d,K]
 have D:¬m<0:=by omega
 have G:¬n<0:=by omega
 have hgt:¬m<n:=by omega
 have c:(decide (m<0) ||decide ((h.bytes:Int) *m>2 ^ 48) ||decide (n<0) ||decide (n>m))=false:=by
  grind
 by_cases q:m.toNat*e.size=0
 ·have b:(Vsa (m.toNat*e.size)).map ((#[]:Array Value)[· % (#[]:Array Value).size]!)=(Vf m.toNat z.cells.toList).flatten.toArray:=by
   grind
  simp only[Vzb,Vb,run_underlying y,asInt,asIntOf,typeInfo,run_program,d,l,k,Vd,Va,c,Vy,if_false,(u.ty _ _ j).run_sizeOf,run_askRoom,q,if_true];rw[q]at b;simp only[Vb,Vd,Va,b,newRow,run_newObj];rfl
 ·have b:(Vsa (m.toNat*e.size)).map (z.cells[· % z.cells.size]!)=(Vf m.toNat z.cells.toList).flatten.toArray:=by
   grind
  simp only[Vzb,Vb,run_underlying y,asInt,asIntOf,typeInfo,run_program,d,l,k,Vd,Va,c,Vy,if_false,(u.ty _ _ j).run_sizeOf,run_askRoom,Zf q,f,b,newRow,run_newObj];rfl
theorem ZnX{T:TypeId}{lo co:Operand}(r:ZX P E)(hR:RH B H w g ow)(hF:Fr w g F a.tmps)(R:∀id,g.K id->id<nid\/nid+K8<=id)(ho:o.op=.makeSlice T lo co)
 (h:(ZG E nid o.op o.type (Zt F)).run H []=some ((v,patch),rd)):Zo B (Zn H patch) w g nid v ((execOp a.eval o).run P w):=by
 rw[ho]at h;simp only[ZG,Zu]at h;obtain⟨t,S,h⟩:=h;have A:=hF.eval lo;have s:=hF.eval co;split at h
 ·rename_i e k1 n k2 m hl X
  revert n m
  intro (n:Int) (m:Int) hl X h;rw[ZD]at h;rcases h with ⟨_,h⟩|⟨_,h⟩
  ·split at h
   ·rename_i e';simp only[Zu,Zd,Vc]at h;obtain⟨u,L,⟨rfl,rfl⟩,_⟩:=h;have Z:0<=n/\n<=m/\m<=(ZC:Int):=J9 (X9 L);obtain⟨V,D,a0⟩:=Z;obtain⟨C,N,c⟩:=WM r S;obtain⟨ie,z,d,a1,W,U,a5,a4⟩:=(r.ty C _ c).info
    have a2:z=.slice none 0 0:=by
     have h1:=Ze1 (r.ty C _ c) w;have h2:(zeroValue C).run P w=.ok z w:=by simp [zeroValue,typeInfo,d,U]
     grind
    subst a2;rw[hl]at A;rw[X]at s;have f:m<=549755813888:=by assumption
    have p:=ZlN (w:=w) (k1:=k1) (k2:=k2) r N c d U rfl ((r.ty _ _ S).small _ _ N d) V D f
    have Y:(execOp a.eval o).run P w=.ok (.value (.slice (some ⟨w.heap.size,0,none⟩) n.toNat m.toNat)) (w.alloc (.cells (Vf m.toNat [Vj none 0 0]).flatten.toArray C)):=by simp only[execOp,ho,VR.int A,VR.int s,Vb,p,Va,Vd];rfl
    have a6:∀q:Nat,(Vf q [Vj none 0 0]).flatten=Vf q (Vj none 0 0):=by simp
    have l:∀i x,(Vf n.toNat ([]:List (El e')))[i]? =some x->x=[]/\(Vf n.toNat (Vj none 0 0)).getD i undef=.slice none 0 0:=by grind
    refine Zcg (w' :=w.alloc (.cells (Vf m.toNat [Vj none 0 0]).flatten.toArray C)) (J:=fun _=>False) hR (X7 R) (fun k R=>G0 R) (by simp) rfl rfl ⟨rfl,Vg _⟩ Y ?_ (by simp);refine⟨Vf n.toNat (.slice none 0 0),⟨by simp,⟨fun i x O _=>?_,fun i j x y b O hy _ _ _ Q=>?_,by simp⟩⟩,.inr ⟨w.heap.size,m.toNat,_,C,by simp,fun i x O Q=>?_,by simp,Gv _ _,by grind,by simp,fun i hi=>?_⟩⟩
    ·obtain⟨rfl,h2⟩:=l i x O;exact .inl ⟨rfl,h2⟩
    ·simp only[(l i x O).2,K2]at Q;grind
    ·rw[(l i x O).2]at Q;simp [K2]at Q
    grind
   ·simp [Zb]at h
  simp only[ZD,Zu,Zd,Zb,ZJ,false_or,Vi,Vc]at h;obtain⟨hd,u,L,⟨rfl,rfl⟩,_⟩:=h
  have L:0<=n/\n<=m/\m<=ZC:=by
   unfold Zy at L
   grind
  obtain⟨V,D,a0⟩:=L;obtain⟨C,N,c⟩:=WM r S;obtain⟨ie,z,d,a1,U,a3,W,G⟩:=Ze0 (w:=w) (g:=g) r c hd;rw[hl]at A;rw[X]at s;have f:m<=549755813888:=by assumption
  have p:=ZlN (w:=w) (k1:=k1) (k2:=k2) r N c d U a3 ((r.ty _ _ S).small _ _ N d) V D f;have M:(Vf n.toNat (zeroEl e)).length=n.toNat:=Vx;refine Zeb hR (X7 R) (w1:=w) (cells:=(Vf m.toNat z.cells.toList).flatten.toArray) (T:=C) (cap:=m.toNat) (css:=Vf n.toNat z.cells.toList) (G _) ?_ (by omega) ?_ (.refl w) ?_
  ·have:m.toNat=n.toNat+(m.toNat - n.toNat):=by omega
   refine⟨(Vf (m.toNat - n.toNat) z.cells.toList).flatten,?_⟩;rw[<-Vja,List.replicate_append_replicate, <-this]
  ·simp_all
  ·rw[M];simp only[execOp,ho,VR.int A,VR.int s,Vb,p,Va,Vd]
 ·simp [Zb]at h
end ops
end Tr
end
section
namespace Tr
open Go
section ops
variable {P:Program}{E:Z3}{B:ZS}{H:AH}{w:World}{g:Gh}{ow:Nat->Nat->Prop}{nid:Nat}{a:Act}{F:Nat->AV}{v:AV}{patch:Kq}{rd:List Nat}{o:Oper}
def Zae(w:World)(g:Gh)(t:Ty)(y:List (El t))(v:Value):Prop:=
 ∃e c d,v=.slice e y.length c/\Fa (Rd w g.I t) y d/\(y≠ []->∃b off,e=some ⟨b,off,none⟩/\Kp w b off d.flatten)
theorem Zam{t:Ty}{x:AV}{val:Value}{y:List (El t)}{ids l l' :List Nat}(S:RH B H w g ow)(L:VR w g x val)(h:(HV t x).run H l=some ((y,ids),l')):Zae w g t y val:=by
 have a1:(∃M xs u A id,x=.vw id/\H id=some (.rows M xs u A))->False:=by rintro ⟨M,xs,u,A,id,rfl,D⟩;simp only[HV]at h;rw[ZN,D]at h;simp [Zb]at h
 have h:∃l,(Ke (.sl t) x).run H l=some ((y,ids),l'):=by
  cases x with
  |vw id=>
   simp only[HV]at h;rw[ZN]at h
   grind
  |_=>exact⟨_,h⟩
 obtain⟨l,h⟩:=h
 cases x with
 |d M z=>
  simp only[Ke,Zu,Zd,Vc]at h;obtain⟨T,p,⟨rfl,rfl⟩,_⟩:=h;obtain⟨rfl,rfl⟩:=Kv p;obtain⟨X,c,f,C,q,Z,_⟩:=L.sl
  exact⟨X,c,f,C,q,by grind⟩
 |nils=>
  simp only[Ke,Zd,Vc]at h;obtain⟨⟨rfl,rfl⟩,_⟩:=h
  exact⟨none,0,[],L.nils,trivial,by simp⟩
 |vw id=>
  simp only[Ke]at h;rw[ZN]at h;split at h
  ·rename_i M xs D;simp only[Zu,Zd,Vc]at h;obtain⟨T,p,⟨rfl,rfl⟩,_⟩:=h;obtain⟨s,rfl⟩:=Kv p;cases s;obtain⟨_,G⟩:=L.vw;obtain⟨_,_,U⟩:=S.objs id _ D;rcases U with ⟨rfl,_,K⟩|⟨b,cap,cs,e,f,_,_,K,Q,_,_,i,O⟩
   ·exact⟨none,0,[],G.trans K,trivial,by simp⟩
   ·exact⟨some ⟨b,0,none⟩,cap,f,G.trans K,i,fun _=>⟨b,0,rfl,Kp.of_vec Q O⟩⟩
  ·grind
  ·rename_i M xs D;simp only[Zu,Zd,Vc]at h;obtain⟨T,p,⟨rfl,rfl⟩,_⟩:=h;obtain⟨s,rfl⟩:=Kv p;cases s;obtain⟨X,c,f,C,q,Z,_⟩:=(ZeS S D L).sl;exact⟨X,c,f,C,q,by grind⟩
  ·simp [Zb]at h
 |nw id ver kt k=>
  simp only[Ke,ZQ,Zu,Zd,Vc]at h;obtain⟨r,m,N,T,p,⟨rfl,rfl⟩,_⟩:=h;obtain⟨s,rfl⟩:=DK p;obtain⟨t0,row⟩:=r;simp only at s;subst s;obtain⟨_,_,_,_,R⟩:=Zah S L N;rcases R with ⟨C,q⟩|⟨b,cap,cs,e,f,q,_,Q,_,_,i,O⟩
  ·simp only at C;subst C;exact⟨none,0,[],q,trivial,by simp⟩
  ·exact⟨some ⟨b,0,none⟩,cap,f,q,i,fun _=>⟨b,0,rfl,Kp.of_vec Q O⟩⟩
 |vs id J n=>
  simp only[Ke]at h;rw[ZN]at h;split at h
  ·rename_i M xs D;simp only[Zu,Zd,Vc]at h;obtain⟨T,p,⟨rfl,rfl⟩,_⟩:=h;obtain⟨s,rfl⟩:=Kv p;cases s;obtain⟨_,G⟩:=L.vs;obtain⟨_,W,U⟩:=S.objs id _ D;rw[W]at G;rcases G with ⟨K,rfl,rfl,G⟩|⟨b,len,cap,m,K,C,q,Z,G⟩
   ·refine⟨none,0,[],by grind,by simp;trivial,by simp⟩
   ·rcases U with ⟨_,_,j⟩|⟨b',Y,cs,e,f,_,_,j,Q,_,_,i,O⟩
    ·grind
    ·rw[K]at j;simp only[Vj.injEq,Option.some.injEq,Addr.mk.injEq,and_true]at j;obtain⟨rfl,rfl,rfl⟩:=j;have a0:((xs.drop J).take n).length=n:=by grind
     refine⟨some ⟨b,if m=0 then 0 else J*t.size,none⟩,m,(f.drop J).take n,?_,(i.drop J).take n,fun V=>⟨b,J*t.size,?_,?_⟩⟩
     ·grind
     ·have:0<((xs.drop J).take n).length:=Vgc.2 V
      grind
     ·have:=Kp.part (off:=0) (l:=J) (n:=n) (Rd.all_length i) (by rw[<-i.length];omega) (Kp.of_vec Q O)
      grind
  ·simp [Zb]at h
 |agg l0=>cases l0<;>simp [Ke,XM,Zb]at h
 |_=>simp [Ke,Zb]at h
theorem Zgp{b off n cap sz:Nat}{css:List (List Value)}(h:∀c∈css,c.length=sz)(f:css.length=n)(hL:Kp w b off css.flatten){w' :World}(i:W2 w w'):
 (Vq sz n (.slice (some ⟨b,off,none⟩) n cap)).run P w' =.ok css.flatten.toArray w' :=by
 refine run_firstCells_some (P:=P) w' sz n _ n cap _ (by rw[Jy h,f]) ?_;intro j u e;obtain⟨d,rfl⟩:=Vw.1 e;have:=hL j d;rw[HT, <-this];simp only[Vac,i.heap]
theorem Zhk{u x ty k E1:TypeId}{d:TypeInfo}{z:Value}{argTypes:Array TypeId}(y:argTypes[0]? =some u)(A:argTypes[1]? =some x)(C:P.underlying u=some (.slice k))(j:P.underlying x=some (.slice E1))
 (i:P.info? k=some d) (D:d.zero=some z) (q:d.bytes<=256) {base f:Option Addr}{n cap m c:Nat}{e news:List Value}
 (r:∀w',W2 w w' ->(Vq d.size n (.slice base n cap)).run P w' =.ok e.toArray w') (h:∀w',W2 w w' ->(Vq d.size m (.slice f m c)).run P w' =.ok news.toArray w') (s:n+m<=549755813888):
 (n+m<=cap/\(Vt argTypes ty #[.slice base n cap,.slice f m c]).run P w=(do (match base with|some a=>storeCells (a.add (n*d.size)) news|none=>pure ());pure (.slice base (n+m) cap):Sem Value).run P w)\/
 (∃b w1,n+m<=b/\W2 w w1/\(Vt argTypes ty #[.slice base n cap,.slice f m c]).run P w=.ok (.slice (some ⟨w.heap.size,0,none⟩) (n+m) b) (w1.alloc (.cells (e.toArray++news.toArray++Vk z.cells (b - (n+m))) k))):=by
 have G:(#[Vj base n cap,Vj f m c]:Array Value)[0]? =some (.slice base n cap):=rfl;have J:(#[Vj base n cap,Vj f m c]:Array Value)[1]? =some (.slice f m c):=rfl;by_cases t:n+m<=cap
 ·refine .inl ⟨t,?_⟩;simp [Vt,y,A,run_underlying C,run_underlying j,Go.sizeOf,typeInfo,i,Vnd,t,h w (.refl w)]
  cases base<;>simp
 ·refine .inr ⟨grownCap w (n+m) cap k,w.drew,grownCap_ge ..,⟨rfl,rfl,rfl,⟨rfl,by simp⟩⟩,?_⟩;have p:¬(9223372036854775807<((n:Int)+(m:Int))):=by omega
  have l:¬(281474976710656<Vdc (n+m) cap*d.bytes):=by have:=growslice_fits (need:=n+m) (old:=cap) (bytes:=d.bytes) (by omega) (Nat.le_trans (Vgd s q) (by decide));omega
  simp [Vt,y,A,run_underlying C,run_underlying j,Go.sizeOf,typeInfo,zeroValue,i,D,Vnd,t,p,l,Question.forced,h w.drew ⟨rfl,rfl,rfl,⟨rfl,by simp⟩⟩,r w.drew ⟨rfl,rfl,rfl,⟨rfl,by simp⟩⟩,newRow,grownCap]
  grind
theorem Zit{t:Ty}{H' :AH}{R:TypeInfo}{z:Value}{T0 T1 Et E1 ty:TypeId}{argTypes:Array TypeId}{sv xv:Value}{xs l:List (El t)}{r:Result Next}(hR:RH B H w g ow)(y:¬g.K nid)
 (h0:argTypes[0]? =some T0) (h1:argTypes[1]? =some T1) (Z:P.underlying T0=some (.slice Et)) (a8:P.underlying T1=some (.slice E1))
 (a5:P.info? Et=some R) (hz:R.zero=some z) (b1:z.cells.size=t.size) (Q:R.size=t.size) (a1:R.bytes<=256) (a7:xs.length+l.length<=549755813888) (hX:Zae w g t l xv)
 (hr:∀val w',(Vt argTypes ty #[sv,xv]).run P w=.ok val w' ->r=.ok (.value val) w')
 (hS:(H' =H/\xs=[]/\sv=.slice none 0 0)\/ ∃id,H' =ZO H id none/\H id≠none/\((xs=[]/\sv=.slice none 0 0)\/ ∃b cap cs e css,ow id b/\sv=.slice (some ⟨b,0,none⟩) xs.length cap/\w.heap[b]? =some (.cells cs e (0,0))/\
   xs.length<=cap/\cap*t.size<=cs.size/\Fa (Rd w g.I t) xs css/\css.flatten<+:cs.toList)):Zo B (ZO H' nid (some (.vec t (xs++l)))) w g nid (.vw nid) r:=by
 obtain⟨xb,c,d,rfl,j,a6⟩:=hX;have s:(xs++l).length=xs.length+l.length:=Vn
 have G:RH B H' w g ow:=by
  rcases hS with ⟨rfl,_⟩|⟨id,rfl,_⟩
  ·omega
  ·exact hR.drop id
 have a3:∀w',W2 w w' ->(Vq R.size l.length (.slice xb l.length c)).run P w' =.ok d.flatten.toArray w' :=by
  intro w' hw;rw[Q];by_cases hy:l=[]
  ·subst hy;have:d=[]:=by have:=j.length;grind
   subst this
   cases xb with
   |none=>rfl
   |some ad=>exact run_firstCells_some (P:=P) w' _ _ ad _ _ [] (by simp) (by simp)
  ·obtain⟨b,off,rfl,hL⟩:=a6 hy;exact Zgp (Rd.all_length j) j.length.symm hL hw
 have hO:∃base cap f,sv=.slice base xs.length cap/\Fa (Rd w g.I t) xs f/\(∀w',W2 w w' ->(Vq R.size xs.length (.slice base xs.length cap)).run P w' =.ok f.flatten.toArray w')/\
  ((base=none/\cap=0/\xs=[])\/ ∃id b cs e,H' =ZO H id none/\H id≠none/\ow id b/\base=some ⟨b,0,none⟩/\w.heap[b]? =some (.cells cs e (0,0))/\cap*t.size<=cs.size/\f.flatten<+:cs.toList):=by
  rcases hS with ⟨_,rfl,rfl⟩|⟨id,b3,N,⟨rfl,rfl⟩|⟨b,cap,cs,e,css,ho,rfl,hh,_,T,L,hc⟩⟩
  ·exact⟨none,0,[],rfl,trivial,fun w' _=>by rfl,by simp⟩
  ·exact⟨none,0,[],rfl,trivial,fun w' _=>by rfl,by simp⟩
  ·refine⟨_,cap,css,rfl,L,fun w' hw=>?_,by grind⟩;rw[Q];exact Zgp (Rd.all_length L) L.length.symm (Kp.of_vec hh hc) hw
 obtain⟨base,cap,f,rfl,n,a4,J⟩:=hO;have q:=Jy (Rd.all_length n);have D:=Jy (Rd.all_length j);rw[<-n.length]at q;rw[<-j.length]at D;rcases Zhk (ty:=ty) h0 h1 Z a8 a5 hz a1 a4 a3 a7 with ⟨O,p⟩|⟨m,w1,b4,a9,p⟩
 ·
  rcases J with ⟨rfl,rfl,rfl⟩|⟨id,b,cs,e,rfl,N,ho,rfl,hh,T,hc⟩
  ·have hy:l=[]:=by grind
   subst hy;have C:=hr _ _ (p.trans (by simp only[Vb,Vd,Va];rfl));refine⟨_,w,g.add nid t none (.slice none 0 0),JU ow nid (fun _=>False),.inl C,?_,Gh.le_add y _ _ _,fun _ _=>rfl,?_,?_⟩
   ·exact G.add y (by simp) (Vg _) rfl rfl ⟨rfl,Vg _⟩ (by simp) ⟨by simp [Gh.add],.inl ⟨rfl,by simp [Gh.add],by simp [Gh.add]⟩⟩
   ·refine Kx ?_ rfl rfl;simp only[CV];exact⟨.inl rfl,by simp [Gh.add],by simp [Gh.add,Vna]⟩
   ·intro id h;rcases h with rfl|h
    ·exact .inr ⟨Vg _,by unfold K8;omega⟩
    grind
  ·obtain⟨rest,A⟩:=hc;have b2:cs.size=f.flatten.length+rest.length:=by rw[<-Vv, <-A,Vn]
   have V:(xs.length+l.length) *t.size<=cap*t.size:=Nat.mul_le_mul_right _ O;rw[Vma]at V;have hs:=hR.sep id b N ho
   have X:∀u∈d.flatten,u.oneCell' =true:=by
    intro u Z;obtain⟨c1,a2,Z⟩:=List.mem_flatten.1 Z;obtain⟨i,hi,rfl⟩:=Vgb a2;have b5:i<l.length:=by rw[j.length];omega
    obtain⟨c',h2,h3⟩:=j.get i l[i] (by simp);rw[Vaa hi]at h2;cases h2;exact Rd.oneCell t _ _ h3 u Z
   have Y:=run_storeCells_at P b (xs.length*t.size) e d.flatten 0 cs w hh (by omega) X
   have W:(cs.toList.take (xs.length*t.size+0)++d.flatten++cs.toList.drop (xs.length*t.size+0+d.flatten.length))=(f++d).flatten++rest.drop d.flatten.length:=by rw[Vta, <-q, <-A,List.take_left,Vja,List.drop_append,Vxa (by omega)];simp
   rw[W]at Y
   have C:=hr (.slice (some ⟨b,0,none⟩) (xs.length+l.length) cap) (w.setRow b ((f++d).flatten++rest.drop d.flatten.length).toArray) (p.trans (by simp only[Vb,HT,Q,Vp,Y,Va,Vd]))
   have M:∀k,ZO H id none k≠none->¬ow k b:=by intro k U hb;obtain⟨h3,h4⟩:=Yh U;exact h3 (hR.dist k id b h4 N hb ho)
   have a0:=G.free (w' :=w.setRow b ((f++d).flatten++rest.drop d.flatten.length).toArray) M hs.1 hs.2.2 (fun k U=>setRow_other w b k _ U) (size_setRow w b _) rfl rfl ⟨rfl,Vg _⟩;have S:Kf g.I w (w.setRow b ((f++d).flatten++rest.drop d.flatten.length).toArray):=fun k U=>setRow_other w b k _ (by grind);refine⟨_,_,g.add nid t (some b) (.slice (some ⟨b,0,none⟩) (xs++l).length cap),JU ow nid (fun k=>k=b),.inl C,?_,Gh.le_add y _ _ _,S,?_,?_⟩
   ·refine a0.add y (by simp) (Vg _) rfl rfl ⟨rfl,Vg _⟩ (fun k U=>?_) ?_
    ·simp_all
    ·refine⟨by simp [Gh.add],.inr ⟨b,cap,_,e,f++d,by simp [Gh.add],rfl,by simp [Gh.add],Dp hh,by omega,?_,?_,by simp⟩⟩
     ·grind
     ·exact(n.append j).mono fun x c hx=>Rd.mono S (fun _ h=>h) t x c hx
   ·refine Kx ?_ rfl rfl;simp only[CV];exact⟨.inl rfl,by simp [Gh.add,s],by simp [Gh.add,Vna]⟩
   ·intro id h;rcases h with rfl|h
    ·exact .inr ⟨Vg _,by unfold K8;omega⟩
    grind
 ·have C:=hr _ _ p;refine Zeb G y (n.append j) ?_ (by rw[s];omega) ?_ a9 (by rw[s];omega)
  ·simp
  ·have b0:(Vk z.cells (m - (xs.length+l.length))).size=(m - (xs.length+l.length)) *t.size:=by simp [Vk,b1]
   simp only[Vnc,Vmc,q,D,b0]
   have:m*t.size=xs.length*t.size+l.length*t.size+(m - (xs.length+l.length)) *t.size:=by rw[<-Vma, <-Vma];grind
   omega
theorem Zl5{id ver tmp:Nat}{kt:Ty}{k:El kt}{val:Value}{r:(t:Ty) ×List (El t)}{o' :KO}{l l' l2 b4:List Nat}(S:RH B H w g ow)(hv:VR w g (.nw id ver kt k) val)(f:(XZ id ver kt k).run H l=some (r,l'))(d:(Zc0 id nid kt k).run H l2=some (o',b4))
 (a3:¬g.K tmp):∃g2 a4,RH B (ZO (ZO H id (some o')) tmp (some (.vec r.1 r.2))) w g2 a4/\g.Le g2/\g2.I=g.I/\(∀i,g2.K i->g.K i\/i=tmp)/\(∀b,a4 tmp b↔K2 val=some b)/\id≠tmp/\g2.slv tmp=val:=by
 obtain⟨hK,_,_,_⟩:=hv.nw;obtain⟨G,O,b5,n,Q⟩:=Zah S hv f;have a1:id≠tmp:=by grind
 have R:∀b,ow id b->¬g.I b/\b<w.heap.size/\(B.own0 b\/B.w0.heap.size<=b):=fun b A=>S.sep id b G A
 have hO:g.ver id<nid/\ORel w (g.bump id nid (g.row id)) (fun b=>ow id b/\K2 val≠some b) id o' :=by
  have y:(g.bump id nid (g.row id)).row id=g.row id:=by simp [Gh.bump]
  simp only[XZ]at f;rw[ZN]at f;simp only[Zc0]at d;rw[ZN]at d;split at f
  ·rename_i t xs u hH;rw[hH]at d;simp only[ZD,Zu,Zd,Zb,ZJ,ZY]at f d;obtain⟨hu,i',a8,x,M,rfl,_⟩:=f;obtain⟨b2,X,a9,rfl,_⟩:=d;obtain⟨rfl,rfl⟩:=Kv a8;have:=Zdh a9;subst this;obtain⟨_,O,V,s,hO⟩:=S.objs id _ hH;refine⟨by simp_all,O,by simp [Gh.bump],?_,?_⟩
   ·unfold idx at M;split at M
    ·rename_i h0;have e1:((X.toNat:Nat):Int)=X:=Vpa h0;rw[y];refine s.take X.toNat fun j x' W hj hr=>hr.mono (fun _ _=>rfl) (by simp) (fun b A h=>⟨h,fun D=>?_⟩) (by simp);rw[n]at D;exact s.ds j X.toNat x' x b W M hj (by simp) (by simp) A (by grind)
    grind
   ·rcases hO with h|⟨b,cap,cs,e,C,z,h3,h4,h5,h6,h7⟩
    ·exact .inl h
    ·refine .inr ⟨b,cap,cs,e,C,⟨z,fun A=>?_⟩,h3,h4,h5,h6,by grind⟩;unfold idx at M;split at M
     ·rename_i h0;have e1:((X.toNat:Nat):Int)=X:=Vpa h0;rw[n]at A;exact s.tp X.toNat x b M (by simp) (by grind) C
     grind
  ·rename_i b7 t m u hH;rw[hH]at d;simp only[ZD,Zu,Zd,Zb,ZJ,ZY,Ve]at f d;obtain⟨⟨hu,b6⟩,k',b0,rfl,_⟩:=f;obtain⟨b2,Z,b1,rfl,_⟩:=d;obtain⟨rfl,rfl⟩:=Kv b0;have:=Zdh b1;subst this;obtain⟨_,O,V,s,b3,a0,b,es,clock,C,z,h3,h4⟩:=S.objs id _ hH
   have a2:∀b',K2 val=some b' ->∃x,(Z,x)∈m:=fun b' N=>by
    by_cases h:Z∈m.map Vka
    ·grind
    ·rw[n,a0 Z h]at N;simp [K2]at N
   refine⟨by simp_all,O,by simp [Gh.bump],?_,b3,by grind,b,es,clock,C,⟨z,fun A=>?_⟩,h3,by rw[y];assumption⟩
   ·rw[y];refine s.take Z fun j x' W hj hr=>hr.mono (fun _ _=>rfl) (by simp) (fun b' N h=>⟨h,fun D=>?_⟩) (by simp);obtain⟨x,M⟩:=a2 b' D;rw[n]at D;exact s.ds j Z x' x b' W M hj (by simp) (by simp) N D
   ·obtain⟨x,M⟩:=a2 b A;rw[n]at A;exact s.tp Z x b M (by simp) A C
  ·simp [Zb]at f
 have a6:=S.bump (w' :=w) hK hO.1 (by simp) (Vg _) rfl rfl ⟨rfl,Vg _⟩ (by simp) (fun b A=>by obtain⟨p,q,r⟩:=R b A.1;exact⟨p,q,r,fun k Y C z=>Y (S.dist k id b C G z A.1)⟩) hO.2
 have J:¬(g.bump id nid (g.row id)).K tmp:=a3
 have T:∀b,K2 val=some b->ow id b/\ ¬g.I b/\b<w.heap.size/\(B.own0 b\/B.w0.heap.size<=b)/\ ∀k,ZO H id (some o') k≠none->¬JU ow id (fun b=>ow id b/\K2 val≠some b) k b:=fun b A=>by
  have U:=Q.own A;obtain⟨p,q,r⟩:=R b U;refine⟨U,p,q,r,fun k C z=>?_⟩;by_cases Y:k=id
  ·subst Y;rw[JI]at z;grind
  ·rw[Ko Y]at C;rw[WQ Y]at z;exact Y (S.dist k id b C G z U)
 have L:∃b,ORel w ((g.bump id nid (g.row id)).add tmp r.1 b val) (fun b=>K2 val=some b) tmp (.vec r.1 r.2):=by
  rcases Q with ⟨C,z⟩|⟨b,cap,cs,e,a5,z,_,hh,h5,h6,a7,hc⟩
  ·exact⟨none,by simp [Gh.add],.inl ⟨C,by simp [Gh.add],by simp [Gh.add,z]⟩⟩
  ·exact⟨some b,by simp [Gh.add],.inr ⟨b,cap,cs,e,a5,by simp [Gh.add],by rw[z];rfl,by simp [Gh.add,z],hh,h5,h6,a7,hc⟩⟩
 obtain⟨b,L⟩:=L;refine⟨_,_,a6.add J (by simp) (Vg _) rfl rfl ⟨rfl,Vg _⟩ (fun c hc=>(T c hc).2) L,(Gh.le_bump hO.1).trans (Gh.le_add J _ _ _),rfl,fun i hi=>?_,fun c=>?_,a1,by simp [Gh.add]⟩
 ·rcases hi with h|h
  ·omega
  ·exact .inl h
 ·rw[JI]
theorem ZjJ{b cap n:Nat}{c:List Value}{cs:Array Value}{e:TypeId}(f:w.heap[b]? =some (.cells cs e (0,0)))(m:c.length=n)(d:∀i,i<n->cs[i]? =some (c.getD i undef)){w' :World}(l:W2 w w'):
 (Vq 1 n (.slice (some ⟨b,0,none⟩) n cap)).run P w' =.ok c.toArray w' :=by
 refine run_firstCells_some (P:=P) w' 1 n _ n cap _ (by omega) ?_;intro j u h;obtain⟨k,rfl⟩:=Vw.1 h;have:=d j (by omega);rw[HT];simp only[Vac,l.heap,f,Vp]
 grind
theorem Zod{t:Ty}{ie:TypeInfo}{z:Value}{T0 T1 Et E1 ty:TypeId}{argTypes:Array TypeId}{sv xv:Value}{xs l:List (List (El t))}{h j:List Nat}{r:Result Next}(S:RH B H w g ow)(a0:¬g.K nid)
 (h0:argTypes[0]? =some T0) (h1:argTypes[1]? =some T1) (hu:P.underlying T0=some (.slice Et)) (e2:P.underlying T1=some (.slice E1))
 (c1:P.info? Et=some ie) (hz:ie.zero=some z) (e4:z.cells.size=(Ty.sl t).size) (d7:ie.size=(Ty.sl t).size) (b5:ie.bytes<=256) (c6:xs.length+l.length<=549755813888)
 (hS:JQ w g.I (ZF H ow h) t xs sv) (hX:JQ w g.I (ZF H ow j) t l xv) (e5:∀k,k∈h->k ∉ j)
 (hr:∀val w',(Vt argTypes ty #[sv,xv]).run P w=.ok val w' ->r=.ok (.value val) w'):Zo B (Zn (Zn H ((h++j).map fun id=>(id,none))) [(nid,some (.rows t (xs++l) 0 none))]) w g nid (.vw nid) r:=by
 show Zo B (ZO _ nid _) _ _ _ _ _;have M:ie.size=1:=d7;obtain⟨f,U,d8⟩:=hS;obtain⟨d,A,d9⟩:=hX;have W:RH B (Zn H ((h++j).map fun id=>(id,none))) w g ow:=S.drops _
 have hJ:∀b,ZF H ow h b->¬ZF H ow j b:=fun b ⟨k,a1,V,a3⟩ ⟨k',b1,b2,b3⟩=>by
  have:=S.dist k k' b V b2 a3 b3
  grind
 have D:=U.append A hJ
 have D:RL w g.I (ZF H ow (h++j)) t (f++d) (xs++l):=D.mono (fun _ _=>rfl) (by simp) (fun b Y=>by
  rcases Y with ⟨k,a1,V⟩|⟨k,a1,V⟩
  ·exact⟨k,by grind,V⟩
  ·exact⟨k,by grind,V⟩) (by simp)
 have T:∀b,ZF H ow (h++j) b->b<w.heap.size:=fun b ⟨k,_,V,a3⟩=>(S.sep k b V a3).2.1;have c4:=U.1;have c5:=A.1
 have e3:∃xb c,xv=.slice xb l.length c/\ ∀w',W2 w w' ->(Vq ie.size l.length (.slice xb l.length c)).run P w' =.ok d.toArray w' :=by
  rw[M];rcases d9 with ⟨rfl,rfl⟩|⟨b,cap,cs,e,_,_,rfl,hh,_,_,N⟩
  ·have:d=[]:=by grind
   subst this;exact⟨none,0,rfl,fun w' _=>by rfl⟩
  ·exact⟨_,cap,rfl,fun w' hw=>ZjJ hh c5 N hw⟩
 obtain⟨xb,c,rfl,b6⟩:=e3
 have d0:∃base cap,sv=.slice base xs.length cap/\(∀w',W2 w w' ->(Vq ie.size xs.length (.slice base xs.length cap)).run P w' =.ok f.toArray w')/\((base=none/\cap=0/\xs=[])\/
  ∃b cs e,ZF H ow h b/\base=some ⟨b,0,none⟩/\w.heap[b]? =some (.cells cs e (0,0))/\cap<=cs.size/\(∀i,i<xs.length->cs[i]? =some (f.getD i undef))/\ ∀i x,xs[i]? =some x->K2 (f.getD i undef)≠some b):=by
  rw[M];rcases d8 with ⟨rfl,rfl⟩|⟨b,cap,cs,e,e7,c7,rfl,hh,_,a6,N⟩
  ·have:f=[]:=by grind
   subst this;exact⟨none,0,rfl,fun w' _=>by rfl,by simp⟩
  ·exact⟨_,cap,rfl,fun w' hw=>ZjJ hh c4 N hw,by grind⟩
 obtain⟨base,cap,rfl,b7,Z⟩:=d0;have e6:(xs++l).length=xs.length+l.length:=Vn;rcases Zhk (ty:=ty) h0 h1 hu e2 c1 hz b5 b7 b6 c6 with ⟨c8,C⟩|⟨m,w1,e9,R,C⟩
 ·rcases Z with ⟨rfl,rfl,rfl⟩|⟨b,cs,e,⟨kb,c2,O,y⟩,rfl,hh,a6,N,c7⟩
  ·have hy:l=[]:=by grind
   subst hy;have L:=hr _ _ (C.trans (by simp only[Vb,Vd,Va];rfl));exact Zcg (J:=fun _=>False) W a0 (by simp) (Vg _) rfl rfl ⟨rfl,Vg _⟩ L ⟨[],RL.nil,by simp⟩ (by simp)
  ·have hs:=S.sep kb b O y
   have a8:∀u∈d,u.oneCell' =true:=by
    intro u hu;obtain⟨i,hi,rfl⟩:=Vgb hu;have b9:i<l.length:=by omega
    have:=(A.row (Vaa b9)).one.1
    grind
   have b0:=run_storeCells_at P b (xs.length*1) e d 0 cs w hh (by omega) a8
   have e1:cs.toList.take xs.length=f:=by
    apply Vda
    grind
   have a7:(cs.toList.take (xs.length*1+0)++d++cs.toList.drop (xs.length*1+0+d.length))=(f++d)++cs.toList.drop (xs.length+d.length):=by
    grind
   rw[a7]at b0
   have L:=hr (.slice (some ⟨b,0,none⟩) (xs.length+l.length) cap) (w.setRow b ((f++d)++cs.toList.drop (xs.length+d.length)).toArray) (C.trans (by simp only[Vb,HT,M,Vp,b0,Va,Vd]))
   have Q:∀k,k≠b->(w.setRow b ((f++d)++cs.toList.drop (xs.length+d.length)).toArray).heap[k]? =w.heap[k]? :=fun k hk=>setRow_other w b k _ hk;have b8:=ZdD (ids:=h++j) S (b:=b) ⟨kb,by grind,O,y⟩;have X:=W.free (w' :=w.setRow b ((f++d)++cs.toList.drop (xs.length+d.length)).toArray) (b:=b) b8.2.2.2 hs.1 hs.2.2 Q (size_setRow w b _) rfl rfl ⟨rfl,Vg _⟩;have b4:Kf g.I w (w.setRow b ((f++d)++cs.toList.drop (xs.length+d.length)).toArray):=fun k hk=>by grind
   have a9:∀i x,(xs++l)[i]? =some x->K2 ((f++d).getD i undef)≠some b:=by
    intro i x hx Y;rcases Vvb i xs.length with hl|hl
    ·grind
    ·rw[Vjb hl]at hx;have:(f++d).getD i undef=d.getD (i - xs.length) undef:=by grind
     rw[this]at Y;exact hJ b ⟨kb,c2,O,y⟩ ((A.row hx).own Y)
   have G:=Zcg (w' :=w.setRow b ((f++d)++cs.toList.drop (xs.length+d.length)).toArray) (J:=ZF H ow (h++j)) (t:=t) (xs:=xs++l) X a0 (by simp) (Vg _) rfl rfl ⟨rfl,Vg _⟩ L ?_ (fun b' n=>?_)
   ·obtain⟨val,w',g',a4,d1,d2,d3,d4,d5,d6⟩:=G;exact⟨val,w',g',a4,d1,d2,d3,by grind,d5,d6⟩
   ·refine⟨f++d,D.mono b4 (by simp) (by grind) (by grind),.inr ⟨b,cap,_,e,.inl ⟨kb,by grind,O,y⟩,a9,by simp,Dp hh,by omega,?_,by grind⟩⟩
    all_goals grind
   ·obtain⟨p,q,r,s⟩:=ZdD S n
    simp_all
 ·have L:=hr _ _ C;have X:=W.same R;have c9:w1.heap.size=w.heap.size:=by rw[R.heap]
  have G:=Zcg (w' :=w1.alloc (.cells (f.toArray++d.toArray++Vk z.cells (m - (xs.length+l.length))) Et)) (J:=ZF H ow (h++j)) (t:=t) (xs:=xs++l) X a0 (fun k hk=>G0 hk) (by simp) rfl rfl ⟨rfl,Vg _⟩ L ?_ (fun b' n=>?_)
  ·obtain⟨val,w',g',a4,d1,d2,d3,d4,d5,d6⟩:=G;exact⟨val,w',g',a4,d1,d2,d3,fun k hk=>(d4 k hk).trans (R.agree g.I k hk),d5,d6⟩
  ·have a5:∀b,b<w.heap.size->(w1.alloc (.cells (f.toArray++d.toArray++Vk z.cells (m - (xs.length+l.length))) Et)).heap[b]? =w.heap[b]? :=fun b Y=>by rw[G0 (by omega),R.heap]
   refine⟨f++d,D.mono (fun b Y=>a5 b (S.ilt b Y)) (by simp) (by grind) (fun i x b' hx n=>a5 b' (T b' ((D.row hx).own n))),.inr ⟨w1.heap.size,m,_,Et,by simp,fun i x hx n=>?_,by grind,Gv _ _,by omega,?_,fun i hi=>?_⟩⟩
   ·have:=T _ ((D.row hx).own n);omega
   ·have f1:(Vk z.cells (m - (xs.length+l.length))).size=(m - (xs.length+l.length)) *1:=by simp [Vk,e4,Ty.size]
    grind
   grind
  ·obtain⟨p,q,r,s⟩:=ZdD S n
   grind
theorem Ztb{C D ty r:TypeId}{c:TypeInfo}{z:Value}{argTypes:Array TypeId}{k0 k:IntKind}(G:argTypes[0]? =some C)(s:argTypes[1]? =some D)(J:P.underlying C=some (.slice r))(p:P.underlying D=some (.int k0))
 (l:P.info? r=some c) (L:c.zero=some z) (N:z.cells.size=c.size) (t:c.bytes<=256) {n:Nat} (O:0<n) (u:n<=549755813888):
 ∃d w1 M,n<=d/\W2 w w1/\M.toList=(Vf n z.cells.toList).flatten/\(Vt argTypes ty #[.slice none 0 0,.int k (n:Int)]).run P w=.ok (.slice (some ⟨w.heap.size,0,none⟩) n d) (w1.alloc (.cells (M++Vk z.cells (d - n)) r)):=by
 have q:Vra.wrap (n:Int)=(n:Int):=by
  have K:∀x:Int,Vra.wrap x=(x+9223372036854775808) % 18446744073709551616 - 9223372036854775808:=fun x=>by simp [Vrd,Vsd,Ved];omega
  grind
 have b:¬(281474976710656<(n:Int) * (c.bytes:Int)):=by have s:(n:Int) * (c.bytes:Int)<=549755813888*256:=Vfd (by omega) (by omega) (by omega) (by omega);omega
 have i:¬(9223372036854775807<(n:Int)):=by omega
 have h:¬(281474976710656<Vdc n 0*c.bytes):=by have:=growslice_fits (need:=n) (old:=0) (bytes:=c.bytes) (by omega) (Nat.le_trans (Vgd u t) (by decide));omega
 have y:=Zbm z.cells n;have m:n≠0:=by omega
 have f:¬((n:Int)<0):=by omega
 have j:∀A:World,(Vq c.size 0 (.slice none 0 0)).run P A=.ok #[] A:=fun A=>by rfl
 refine⟨grownCap w n 0 r,w.drew,if n*c.size=0 then #[] else Vk z.cells n,grownCap_ge ..,⟨rfl,rfl,rfl,⟨rfl,by simp⟩⟩,?_,?_⟩
 ·rw[<-y];by_cases e:n*c.size=0
  ·grind
  ·rw[Zf e];rfl
 ·by_cases e:n*c.size=0
  ·simp [Vt,G,s,run_underlying J,run_underlying p,Go.sizeOf,typeInfo,zeroValue,l,L,asInt,asIntOf,q,b,m,i,h,Question.forced,newRow,grownCap,e,f,j]
  ·simp [Vt,G,s,run_underlying J,run_underlying p,Go.sizeOf,typeInfo,zeroValue,l,L,asInt,asIntOf,q,b,m,i,h,Question.forced,newRow,grownCap,e,f,j]
theorem ZnE{c:Call}(U:ZX P E)(A:RH B H w g ow)(hF:Fr w g F a.tmps)(hk:∀id,g.K id->id<nid\/nid+K8<=id)(ho:o.op=.call c)(hc:c.callee=.builtin .append)
 (h:(ZG E nid o.op o.type (Zt F)).run H []=some ((v,patch),rd)):Zo B (Zn H patch) w g nid v ((execOp a.eval o).run P w):=by
 rw[ho]at h;simp only[ZG,hc]at h;split at h
 ·rename_i s x t b4 c5;rw[ZD]at h
  have j:c.args.map a.eval= #[a.eval s,a.eval x]:=by
   have:c.args= #[s,x]:=by grind
   grind
  obtain⟨T0,h0,S⟩:=Vu.1 c5;rcases h with ⟨_,h⟩|⟨l,h⟩
  ·split at h
   ·rename_i k n k0 hs hx b2;simp only[ZD,Zb,ZJ,false_or,Vba,Vi]at h;obtain⟨⟨_,hd⟩,h⟩:=h;simp only[ZiB,Zu,Zd,Vc]at h;obtain⟨u,O,⟨rfl,rfl⟩,_⟩:=h;have O:(1:Int)<=n/\n<=(ZC:Int):=J9 (X9 O);obtain⟨M,h1,a2⟩:=Vu.1 b2;obtain⟨Et,L,Y⟩:=WM U S
    have D:P.underlying M=some (.int k0):=by
     have Q:=(U.ty M _ a2).shape
     cases L:P.underlying M with
     |none=>rw[L]at Q;simp [Z6]at Q
     |some d=>rw[L]at Q;cases d<;>simp [Z6]at Q;grind
    obtain⟨ie,z,p,R,hz,G,_,b8⟩:=Ze0 (w:=w) (g:=g) U Y hd;have C:=(U.ty _ _ S).small _ _ L p;have c6:a.eval s=.slice none 0 0:=(hs▸hF.eval s).nils;have c7:=VR.int (hx▸hF.eval x);obtain⟨m,hm⟩:∃m:Nat,n=(m:Int):=⟨_,(Vpa (by omega)).symm⟩;subst hm
    have y:m<=549755813888:=by have h2:(m:Int)<=((549755813888:Nat):Int):=O.2;omega
    obtain⟨f,w1,zc,c1,c2,c3,c4⟩:=Ztb (P:=P) (w:=w) (ty:=o.type) (k:=k) h0 h1 L D p hz (by omega) C (n:=m) (by omega) y
    have i:(execOp a.eval o).run P w=.ok (.value (.slice (some ⟨w.heap.size,0,none⟩) m f)) (w1.alloc (.cells (zc++Vk z.cells (f - m)) Et)):=by rw[c6,c7]at j;simp only[execOp,ho,Dj hc,builtin,j,Vb,c4,Va,Vd]
    have d0:(Vf ((m:Int)).toNat (zeroEl t)).length=m:=by simp
    refine Zeb A (X7 hk) (w1:=w1) (cells:=zc++Vk z.cells (f - m)) (T:=Et) (cap:=f) (css:=Vf m z.cells.toList) (by grind) ?_ (by omega) ?_ c2 (by grind)
    ·grind
    ·have e1:zc.size=m*t.size:=by rw[<-Vv,c3,Jy (css:=Vf m z.cells.toList) (n:=t.size) (by grind),Vx]
     have e2:(Vk z.cells (f - m)).size=(f - m) *t.size:=by simp [Vk,G]
     rw[Vnc,e1,e2, <-Vma]
     grind
   ·simp [Zb]at h
  simp only[Vi]at l;simp only[ZD]at h
  have:∃M t1,c.argTypes[1]? =some M/\E.ty M=some (.sl t1):=by
   cases hh:c.argTypes[1]? with
   |none=>rw[hh]at l;simp [W6]at l
   |some M=>
    rw[hh]at l;simp only[Za]at l
    cases ht:E.ty M with
    |none=>rw[ht]at l;simp [W6]at l
    |some t1=>cases t1<;>rw[ht]at l<;>simp [W6]at l;grind
  obtain⟨M,t1,h1,a2⟩:=this;obtain⟨Et,L,Y⟩:=WM U S;obtain⟨E1,D,_⟩:=WM U a2;obtain⟨ie,z,p,R,_,hz,a9,_⟩:=(U.ty Et _ Y).info;have C:=(U.ty _ _ S).small _ _ L p
  have G:z.cells.size=t.size:=by obtain⟨N,h4⟩:=ZeY (w:=w) (g:=g) a9;have:=CV.length _ t _ h4 N;omega
  have i:∀val w',(Vt c.argTypes o.type #[a.eval s,a.eval x]).run P w=.ok val w' ->(execOp a.eval o).run P w=.ok (.value val) w' :=by intro val w' i;simp only[execOp,ho,Dj hc,builtin,j,Vb,i,Va,Vd]
  rcases h with ⟨_,h⟩|⟨_,h⟩
  ·split at h
   ·rename_i t';simp only[Zid,ZQ,Zu,Zd,Vc]at h;obtain⟨⟨xs,d7⟩,m1,hS,⟨J,X⟩,m2,hX,u,O,u2,a5,⟨rfl,rfl⟩,_⟩:=h;have y:xs.length+J.length<=549755813888:=J9 (X9 O);obtain⟨n1,n2,n3⟩:=Vlc.1 (Zee.1 (X9 a5));rw[J2];exact Zod A (X7 hk) h0 h1 L D p hz G R C y (Zek A (hF.eval s) hS).1 (Zek A (hF.eval x) hX).1 (by grind) i
   ·simp [Zb]at h
  split at h
  ·rename_i id ver kt k b9;simp only[Zic,ZQ,Zu,Zd,Vc]at h;obtain⟨r,m1,V,xs,c8,⟨J,X⟩,m2,hX,u,O,u2,a5,o',m3,a1,⟨rfl,rfl⟩,_⟩:=h;obtain⟨he,rfl⟩:=DK c8;obtain⟨t0,row⟩:=r;simp only at he;subst he;have y:row.length+J.length<=549755813888:=J9 (X9 O);have W:¬g.K (nid+1):=fun h=>by have:=hk _ h;unfold K8 at this;omega
   have a8:=b9▸hF.eval s;obtain⟨g2,d8,b1,b5,hI,a3,b7,b6,_⟩:=Zl5 A a8 V a1 W;obtain⟨_,_,_,_,a7⟩:=Zah A a8 V;have a0:=Zam A (hF.eval x) hX;have b3:Zae w g2 t0 J (a.eval x):=by unfold Zae at a0⊢;grind
   have a6:¬g2.K nid:=fun h=>by
    rcases a3 _ h with h|h
    ·exact X7 hk h
    ·omega
   have a4:=Zit (ty:=o.type) (H' :=ZO (ZO (ZO H id (some o')) (nid+1) (some (.vec t0 row))) (nid+1) none) (xs:=row) b1 a6 h0 h1 L D p hz G R C y b3 i (sv:=a.eval s) (.inr ⟨nid+1,rfl,by rw[Xj];simp,by
    rcases a7 with ⟨N,h4⟩|⟨b,cap,cs,e,css,N,_,h5,h6,h7,h8,h9⟩
    ·grind
    ·exact .inr ⟨b,cap,cs,e,css,(b7 b).2 (by rw[N];rfl),N,h5,h6,h7,by grind,h9⟩⟩)
   obtain⟨val,w',g',c9,d1,d2,d3,d4,d5,d6⟩:=a4
   have Z:H (nid+1)=none:=by
    cases hh:H (nid+1) with
    |none=>rfl
    |some ob=>exact absurd (A.objs _ _ hh).1 W
   have b0:ZO (ZO (ZO (ZO H id (some o')) (nid+1) (some (.vec t0 row))) (nid+1) none) nid (some (.vec t0 (row++J)))=Zn H [(id,some o'),(nid,some (.vec t0 (row++J)))]:=by
    simp only[Zn];funext q;by_cases q1:q=nid
    ·subst q1;rw[Xj,Xj]
    ·rw[Ko q1,Ko q1];by_cases q2:q=nid+1
     ·subst q2;rw[Xj,Ko (Ne.symm b6),Z]
     ·rw[Ko q2,Ko q2]
   rw[b0]at d2;refine⟨val,w',g',c9,d1,d2,b5.trans d3,by grind,d5,fun q hq=>?_⟩;rcases d6 q hq with h|h
   ·rcases a3 q h with h|h
    ·grind
    ·exact .inr ⟨by omega,by unfold K8;omega⟩
   omega
  simp only[Zib,ZQ,Zu,Zd,Vc]at h;obtain⟨⟨xs,ids⟩,m1,hS,⟨J,X⟩,m2,hX,u,O,⟨rfl,rfl⟩,_⟩:=h
  have y:xs.length+J.length<=549755813888:=by
   unfold Zy at O
   cases hd:decide (xs.length+J.length<=ZC) with
   |true=>exact J9 hd
   |false=>grind
  have hO:=Zcm A (hF.eval s) hS;have a0:=Zam A (hF.eval x) hX
  have hp:Zn H (ids.map (fun id=>(id,none))++[(nid,some (.vec t (xs++J)))])=ZO (Zn H (ids.map fun id=>(id,none))) nid (some (.vec t (xs++J))):=by exact J2 _ _ _
  rw[hp];refine Zit (ty:=o.type) A (X7 hk) h0 h1 L D p hz G R C y a0 i (sv:=a.eval s) ?_
  ·rcases hO with ⟨rfl,rfl,N⟩|⟨id,rfl,N,h4⟩
   ·exact .inl ⟨rfl,rfl,N⟩
   ·exact .inr ⟨id,rfl,N,h4⟩
 ·simp [Zb]at h
end ops
end Tr
end
