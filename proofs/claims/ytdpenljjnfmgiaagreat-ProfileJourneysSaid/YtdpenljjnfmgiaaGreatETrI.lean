/- Operations on memory: variables, loads, stores, addresses. Conditions: the table of types is the program's. -/
import Derived.Laws.StructEq
import Derived.ChangeKeysEq
import Derived.Laws.AppendOwn
import Derived.Test.YtdpenljjnfmgiaaGreatETrA
open Array renaming length_toList ->Vv,getElem?_eq_getElem ->Vfa,range ->Vsa,getElem?_setIfInBounds ->Vfb,getElem?_eq_some_iff ->Vkb,toList_inj ->Vsb,toList_map ->Vtb,toList_push ->Vjc,size_append ->Vnc,map_empty ->Vzc
open Bool renaming and_eq_true ->Ve,not_eq_false' ->Vi,false_eq_true ->Vy,or_eq_false_iff ->Vba,not_eq_true' ->Vwa,not_false ->Vhb,eq_iff_iff ->Vwc,and_true ->Vld
open Go.Builtin renaming zeroCells ->Vk,firstCells ->Vq,append_ ->Vt,len_ ->Vdb,nextslicecap ->Vdc,lenOf ->Vnd,min_ ->Vpd,max_ ->Vqd
open Go.Instr renaming checkKey ->Vz,sureAddr ->Vga,mapUpdate ->Vla,sliceBound ->Voa,lookup ->Vua,sliceAt ->Vbb,buildSlice ->Vcb,slice ->Vlb,storeAt ->Vmb,indexAt ->Vnb,findNow ->Vpb,findAsking ->Vrb,makeSlice ->Vzb,sameNow ->Vec,keyThatStays ->Vhc,sliceBounds ->Vkc,fill ->Vbd,makeFunc ->Vdd,fieldAt ->Vhd,findKey ->Vid,makeMap ->Vjd,alloc ->Vtd,index ->Vud
open Int renaming toNat_of_nonneg ->Vpa,mul_le_mul ->Vfd
open Go.IntKind renaming i64 ->Vra,signed ->Ved,wrap ->Vrd,bits ->Vsd
open List renaming replicate ->Vf,length_append ->Vn,map_cons ->Vs,getElem?_eq_some_iff ->Vw,length_replicate ->Vx,getElem?_eq_getElem ->Vaa,ext_getElem? ->Vda,append_assoc ->Vea,length ->Vha,flatten_append ->Vja,drop_eq_getElem_cons ->Vqa,getElem?_cons_succ ->Vva,drop_eq_nil_of_le ->Vxa,take_append_drop ->Vza,getElem_of_mem ->Vgb,getElem?_append_right ->Vjb,flatten_cons ->Vob,all_eq_true ->Vqb,getElem?_cons_zero ->Vub,mem_map ->Vwb,map_map ->Vxb,getElem?_eq_none ->Vbc,mem_range ->Vcc,take_replicate ->Vfc,length_pos_iff ->Vgc,getElem?_set ->Vic,nodup_append ->Vlc,size_toArray ->Vmc,isEmpty_iff ->Voc,cons_append ->Vpc,range'_succ ->Vqc,lookup_cons ->Vtc,isEmpty_nil ->Vvc,forIn_cons ->Vxc,map_append ->Vyc,mem_cons ->Vmd,map_nil ->Vod
open Nat renaming le_refl ->Vg,le_of_ble_eq_true ->Vh,zero_add ->Vp,lt_succ_self ->Via,add_mul ->Vma,add_zero ->Vta,eq_of_beq_eq_true ->Vya,lt_or_ge ->Vvb,min_eq_left ->Vyb,beq_eq ->Vad,mul_le_mul ->Vgd,blt ->Vkd
open Option renaming map_some ->Vl,map_none ->Vm,map_eq_some_iff ->Vr,bind_eq_some_iff ->Vu,getD_some ->Vca,isSome_none ->Vib,bind_none ->Vsc,getD_none ->Vuc,map_map ->Vcd
open Prod renaming fst ->Vka
open Prod.mk renaming injEq ->Vc,inj ->Vo
open Go.Result renaming andThen_ok ->Va
open Go.Sem renaming run_bind ->Vb,run_pure ->Vd,run ->Veb,run_ite ->Vrc
open Go.Value renaming slice ->Vj,oneCell' ->Vna,cells ->Vab
open Go.World renaming cell? ->Vac
open Option renaming some ->Ua,none ->Ub
open Bool renaming true ->Uc,false ->Ud
open Decidable renaming decide ->Ue
section
namespace Tr
open Go
theorem ZbI{a:AV}{t:Ty}(h:a.fits t=Uc):a≠ .junk/\ ∀l,a≠ .tup l:=by
 constructor
 ·rintro rfl;simp [AV.fits]at h
 ·rintro l rfl;simp [AV.fits]at h
theorem ZeQ{a:AV}{t:Ty}(h:a.fits t=Uc)(b:a.solid=Uc):a.isAgg=t.agg:=by
 rcases Zsh h with h|⟨n,rfl⟩
 ·exact h
 ·simp [AV.solid]at b
section ops
variable {P:Program}{E:Ka}{B:Z1}{H:AH}{w:World}{g:Gh}{ow:Nat->Nat->Prop}{nid:Nat}{a:Act}{F:Nat->AV}{v:AV}{patch:Kx}{rd:List Nat}{o:Oper}
theorem Zja{id:Nat}{t:Ty}{b:Nat}{sv:Value} :VR w (g.add id t (Ua b) sv) (.ptr id []) (.pointer (Ua ⟨b,0,Ub⟩)):=by refine KK ?_ rfl rfl;simp only[CV];exact⟨.inl rfl,0,t,b,by simp [Gh.add,Wg],by simp [Gh.add],rfl⟩
theorem G7(w:World)(o:Obj):(w.alloc o).heap[w.heap.size]? =Ua o:=by show (w.heap.push o)[w.heap.size]? =_;simp
theorem DK{w:World}{o:Obj}{k:Nat}(h:k<w.heap.size):(w.alloc o).heap[k]? =w.heap[k]? :=by
 show (w.heap.push o)[k]? =_
 grind
theorem Zjo(d:RH B H w g ow)(c:¬g.K nid){t:Ty}{sv:Value}{b:Option Nat}{ob:Obj}{x:AV}{cs:List Value}(h:CV w g x cs):CV (w.alloc ob) (g.add nid t b sv) x cs:=
 CV.mono (fun _ e=>DK (d.ilt _ e)) (Gh.le_add c _ _ _) x cs h
theorem Zo0(c:RH B H w g ow)(d:∀id,g.K id->id<nid\/nid+Wr<=id){t:Ty}{sv:Value}{b:Option Nat}{ob:Obj}{x:AV}{cs:List Value}(h:CV w g x cs):CV (w.alloc ob) (g.add nid t b sv) x cs:=Zjo c (Yu d) h
theorem Zl4(b:RH B H w g ow)(f:∀id,g.K id->id<nid\/nid+Wr<=id){t:Ty}{T:TypeId}{c:AV}{cells:Array Value}(e:c.fits t=Uc)(d:CV w g c cells.toList){r:Result Next}
 (h:r=.ok (.value (.pointer (Ua ⟨w.heap.size,0,Ub⟩))) (w.alloc (.cells cells T))):Zq B (ZY H nid (Ua (.var t c))) w g nid (.ptr nid []) r:=by
 refine Zq.new (t:=t) (sv:=undef) b f h ?_ Zja;refine⟨by simp [Gh.add],e,w.heap.size,cells,T,by simp [Gh.add],rfl,G7 _ _,?_,Zo0 b f d⟩;have:=CV.length c t _ e d;omega
theorem Zpk{T:TypeId}(j:Z3 P E)(i:RH B H w g ow)(c:∀id,g.K id->id<nid\/nid+Wr<=id)(d:o.op=.alloc T)(h:(ZN E nid o.op o.type (Zx F)).run H []=Ua ((v,patch),rd)):
 Zq B (Zp H patch) w g nid v ((execOp a.eval o).run P w):=by
 rw[d]at h;simp only[ZN]at h;split at h
 ·rename_i e l;simp only[Zf,Vc]at h;obtain⟨⟨rfl,rfl⟩,_⟩:=h;obtain⟨z,f,b⟩:=j.bd T e l;refine Zq.new (t:=.unit) (sv:=undef) (val:=.pointer (Ua ⟨w.heap.size,0,Ub⟩)) (o:=.cells z.cells T) i c ?_ ?_ Zja
  ·simp only[execOp,d,Vtd,Vb,f,Va,newVar,newRow,run_newObj,Vd];rfl
  ·refine⟨w.heap.size,by simp [Gh.add],rfl,.pointer Ub,.slice Ub 0 0,.inl rfl,?_,⟨by rfl,by simp⟩,fun k c=>by simp [Value.ownBlock]at c,fun _=>rfl⟩;rw[G7,b]
 simp only[Zy,Zf,Vc]at h;obtain⟨t,m,⟨rfl,rfl⟩,_⟩:=h;obtain⟨z,f,b⟩:=(j.ty T t m).run_zerox (E.zx T) w;refine Zl4 i c (T:=T) (cells:=z.cells) (b w g).2 (b w g).1.1 ?_;simp only[execOp,d,Vtd,Vb,f,Va,newVar,newRow,run_newObj,Vd];rfl
theorem Zpo{T:TypeId}{x:Operand}(d:RH B H w g ow)(hF:Fr w g F a.tmps)(e:∀id,g.K id->id<nid\/nid+Wr<=id)(c:o.op=.box T x)
 (h:(ZN E nid o.op o.type (Zx F)).run H []=Ua ((v,patch),rd)):Zq B (Zp H patch) w g nid v ((execOp a.eval o).run P w):=by
 rw[c]at h;simp only[ZN,Zy,ZJ,Zf,Zb,ZP,Z6,Vc]at h;obtain⟨t,i,b,⟨rfl,rfl⟩,_⟩:=h;have f:=(hF.eval x).to1 (ZbI b).2;refine Zl4 d e (T:=T) (cells:=(a.eval x).cells) b f.1 ?_;simp only[execOp,c,Instr.box,Vb,Va,newVar,newRow,run_newObj,Vd];rfl
theorem Zoc{t:Ty}{xs:List (El t)}{id:Nat}{J:Nat->Prop}(h:ORel w g J id (.vec t xs)){i:Nat}{x:El t}(k:xs[i]? =Ua x):
 ∃b cap cs e css c,g.ty id=t/\g.blk id=Ua b/\J b/\g.slv id=.slice (Ua ⟨b,0,Ub⟩) xs.length cap/\w.heap[b]? =Ua (.cells cs e (0,0))/\xs.length<=cap/\cap*t.size<=cs.size/\
  Fa (Rd w g.I t) xs css/\css[i]? =Ua c/\Rd w g.I t x c/\ ∃r,cs.toList=(css.take i).flatten++c++((css.drop (i+1)).flatten++r)/\(css.take i).flatten.length=i*t.size/\
   ∀c',(css.set i c').flatten++r=(css.take i).flatten++c' ++((css.drop (i+1)).flatten++r):=by
 obtain⟨j,h⟩:=h;rcases h with ⟨rfl,_⟩|⟨b,cap,cs,e,css,m,n,p,q,s,u,d,r,y⟩
 ·grind
 ·obtain⟨c,f,l⟩:=d.get i x k;obtain⟨z,A,C⟩:=RO f t.size (Rd.all_length d)
  grind
theorem _root_.Tr.ORel.fndVar{w:World}{g:Gh}{J:Nat->Prop}{id:Nat}{tn tq lt lb:Ty}{x:ZO tn tq lt lb}(h:ORel w g J id (.fnd tn tq lt lb x)):ORel w g J id (.var (g.ty id) (Zc2 tn tq lt x)):=by
 obtain⟨f,b,u,y,M,G,K,L,_,_,_,_,cells,e,s,t,c3,r,m,i,z,n,p,q,c,j,k,l⟩:=h
 have d:(g.ty id).size=tn.size+(tq.size+(lt.size+3))/\(Zc2 tn tq lt x).fits (g.ty id)=true:=by
  rcases f with f|f
  all_goals rw[f];exact⟨by simp [Jd,Yc,Ty.size],by simp [Zc2,Jd,Yc,AV.fits,Zo.fits,Ty.size]⟩
 refine⟨rfl,d.2,b,cells,e,u,y,z,?_,?_⟩
 ·have:=congrArg Vha n;simp only[Vv,Vn,List.length_cons,List.length_nil,Rd.length _ _ _ p,Rd.length _ _ _ q,Rd.length _ _ _ c]at this;rw[this,d.1]
 ·rw[n];simp only[Zc2,CV,Z9]
  have A:r.oneCell' =true:=by
   obtain⟨N,_,h|⟨b,cap,cs,e,_,_,h,_⟩⟩:=j
   ·rw[h.2];rfl
   ·rw[h];rfl
  have C:m.oneCell' =true:=by
   rcases k with h|⟨b,off,cap,cs,e,_,h,_⟩
   ·rw[h.2];rfl
   ·rw[h];rfl
  have D:i.oneCell' =true:=by
   rcases l with h|⟨b,cap,cs,e,_,h,_⟩
   ·rw[h.2];rfl
   ·rw[h];rfl
  exact⟨s,_,rfl,p,t,_,rfl,q,c3,_,rfl,c,[r],[m,i],rfl,⟨rfl,by simpa using A⟩,[m],[i],rfl,⟨rfl,by simpa using C⟩,[i],[],rfl,⟨rfl,by simpa using D⟩,rfl⟩
theorem ZjA{T:TypeId}{x:Operand}(hT:Z3 P E)(W:RH B H w g ow)(hF:Fr w g F a.tmps)(ho:o.op=.load T x)
 (h:(ZN E nid o.op o.type (Zx F)).run H []=Ua ((v,patch),rd)):Zq B (Zp H patch) w g nid v ((execOp a.eval o).run P w):=by
 rw[ho]at h;simp only[ZN,Zy]at h;obtain⟨t,ht,h⟩:=h;have Y:=hF.eval x
 have fin:∀{b off:Nat}{c:List Value},a.eval x=.pointer (Ua ⟨b,off,Ub⟩)->Y6 w b off c->CV w g v c->v.fits t=Uc->v.solid=Uc->patch=[]->Zq B (Zp H patch) w g nid v ((execOp a.eval o).run P w):=by intro b off c he hc a2 S hs hp;subst hp;obtain⟨n,V⟩:=Zcv a2 S (ZeQ S hs);refine Zq.pure W ?_ (VR.of1 n);simp only[execOp,ho,he,Instr.loadAt,Vga,Vb,Vd,Va,Zit (hT.ty T t ht) hc (CV.length v t c S a2) V]
 split at h
 ·rename_i t' y L;simp only[ZJ,Zf,Zb,ZP,Z6,Kj,Vc]at h;obtain⟨rfl,⟨rfl,rfl⟩,_⟩:=h;obtain⟨b,off,c,n,V,l,G⟩:=(L▸Y).dp;exact fin n l.at (by assumption) (by simp [AV.fits]) rfl rfl
 ·rename_i id p L;rw[ZX]at h;split at h
  ·rename_i t0 c R;simp only[Z0,ZJ,Zf,Zb,ZP,Z6,Vc,Ve]at h;obtain⟨v',m,n,⟨V,Q⟩,⟨rfl,rfl⟩,_⟩:=h;obtain⟨X,o',t1,b,l,G,K⟩:=(L▸Y).ptr;obtain⟨_,d,S,b',cs,e,J,Z,h8,h9,O⟩:=W.objs id _ R;obtain⟨_,t2,N,⟨o2,pre,post,f,s,z⟩,a5,A⟩:=ZeV n S O;rw[d,f]at l;obtain⟨rfl,rfl⟩:=Vo (Ky l);rw[G]at J;cases J;refine fin K ?_ A V Q rfl;rw[<-z];exact Y6.of_heap h8 s
  ·rename_i tn tq lt lb c R;simp only[Z0,ZJ,Zf,Zb,ZP,Z6,Vc,Ve]at h;obtain⟨v',m,n,⟨V,Q⟩,⟨rfl,rfl⟩,_⟩:=h;obtain⟨X,o',t1,b,l,G,K⟩:=(L▸Y).ptr;obtain⟨d,S,b',cs,e,J,Z,h8,h9,O⟩:=ORel.fndVar (W.objs id _ R).2;obtain⟨_,t2,N,⟨o2,pre,post,f,s,z⟩,a5,A⟩:=ZeV n S O;rw[f]at l;obtain⟨rfl,rfl⟩:=Vo (Ky l);rw[G]at J;cases J;refine fin K ?_ A V Q rfl;rw[<-z];exact Y6.of_heap h8 s
  ·simp [Zb]at h
 ·rename_i id i p L;rw[ZX]at h;split at h
  ·rename_i t0 xs R;simp only[Zy,Z0,ZJ,Zf,Zb,ZP,Z6,Kj,Vc]at h;obtain⟨x',D,y,m,n,rfl,⟨rfl,rfl⟩,_⟩:=h;obtain⟨X,o',t1,b,l,G,K⟩:=(L▸Y).vp;obtain⟨_,hO⟩:=W.objs id _ R;obtain⟨b',cap,cs,e,q,c,d,hb,hJ,a9,hh,hl,M,a7,a6,U,r,a1,a3,_⟩:=Zoc hO D;obtain⟨_,N,⟨o2,pre,post,f,s,z⟩,A⟩:=ZeW p t0 x' _ _ y c n U;rw[d,f]at l;obtain⟨rfl,rfl⟩:=Vo (Ky l);rw[G]at hb;cases hb;refine fin K (c:=N) ?_ (by assumption) (by simp [AV.fits]) rfl rfl;have:cs.toList=((q.take i).flatten++pre)++N++(post++((q.drop (i+1)).flatten++r)):=by grind
   have:=Y6.of_heap hh this
   grind
  ·rename_i t0 xs u R;simp only[Zy,ZJ,Zf,Zb,ZP,Z6,Kj,Vc,Ve,Voc]at h;obtain⟨⟨rfl,rfl⟩,x',D,⟨rfl,rfl⟩,_⟩:=h;obtain⟨X,o',t1,b,l,G,K⟩:=(L▸Y).vp;rw[Wg]at l;obtain⟨rfl,rfl⟩:=Vo (Ky l);obtain⟨_,d,C,a8,hO⟩:=W.objs id _ R;rcases hO with ⟨rfl,_⟩|⟨b',cap,cs,e,hb,hJ,a9,hh,hl,M,a1⟩
   ·grind
   ·rw[G]at hb;cases hb;have hi:i<xs.length:=by grind
    have n:=a8.rd i x' D (by simp);refine fin K (c:=[g.row id (.int .i64) (i:Int)]) ?_ ?_ rfl rfl rfl
    ·rw[d];intro j v hj
     cases j with
     |zero=>
      simp only[Vub,ZB]at hj;subst hj;simp only[Ty.size,Nat.mul_one,Vta,Vac,hh]
      grind
     |succ j=>grind
    ·simp only[CV];exact⟨X,Nat.le_of_eq C.symm,_,rfl,n.one.1,fun _=>rfl⟩
  ·simp [Zb]at h
 ·rename_i id ver kt k i p L;simp only[Zy,Z0,ZJ,Zf,Zb,ZP,Z6,Kj,Vc]at h;obtain⟨r,m1,a0,x',D,y,m,n,rfl,⟨rfl,rfl⟩,_⟩:=h;obtain⟨X,hv,ad,l,G⟩:=(L▸Y).np;obtain⟨b1,d,C,a4⟩:=Zd5 W X a0;obtain⟨b,len,cap,o',t1,K,J,Z⟩:=G C;obtain⟨b',b0,cs,e,q,c,hd,hJ,hh,hl,M,a7,a6,U,r',a1,a3,_⟩:=Znd a4 D;rw[K]at hd;simp only[Vj.injEq,ZB,Addr.mk.injEq,and_true]at hd;obtain⟨rfl,_,_⟩:=hd;obtain⟨_,N,⟨o2,pre,post,f,s,z⟩,A⟩:=ZeW p r.1 x' _ _ y c n U;rw[d]at J Z;simp only[DW]at J Z;rw[f]at J;obtain⟨rfl,rfl⟩:=Vo (Ky J);subst Z;refine fin l (c:=N) ?_ (by assumption) (by simp [AV.fits]) rfl rfl;have:cs.toList=((q.take i).flatten++pre)++N++(post++((q.drop (i+1)).flatten++r')):=by grind
  have:=Y6.of_heap hh this
  grind
 ·simp [Zb]at h
theorem ZdB{T:TypeId}{t:Ty}(k:Ji P E.ty T t){b:Nat}{cs:Array Value}{e:TypeId}{pre c post d:List Value}{val:Value}(m:w.heap[b]? =Ua (.cells cs e (0,0)))
 (h:cs.toList=pre++c++post) (l:val.cells.toList=d) (p:c.length=d.length) (n:d.length=t.size) (j:∀v∈d,v.oneCell' =Uc):
 (storeVar T ⟨b,pre.length,Ub⟩ val).run P w=.ok () (w.setRow b (pre++d++post).toArray):=by
 have f:val.cells.size=t.size:=by grind
 have i:cs.size=pre.length+c.length+post.length:=by rw[<-Vv,h];grind
 simp only[storeVar,Vb,k.run_sizeOf,Va,f,ne_eq,not_true_eq_false,if_false,l];rw[run_storeCells_at P b pre.length e d 0 cs w m (by omega) j]
 grind
theorem Ra{b:Nat}{cs cs' :Array Value}{e:TypeId}(c:w.heap[b]? =Ua (.cells cs e (0,0))):(w.setRow b cs').heap[b]? =Ua (.cells cs' e (0,0)):=setRow_heap w b cs cs' e (0,0) c
theorem Zq.write{id b:Nat}{h:K1}{cs' :Array Value}{r:Result Next}(d:RH B H w g ow)(c:H id≠Ub)(e:ow id b)(j:r=.ok .skip (w.setRow b cs'))
 (i:ORel (w.setRow b cs') g (ow id) id h):Zq B (ZY H id (Ua h)) w g nid .junk r:=by
 have l:=d.sep id b c e;refine⟨undef,w.setRow b cs',g,ow,by grind,d.write c e (fun k f=>setRow_other w b k cs' f) (by simp) rfl rfl ⟨rfl,Vg _⟩ i,.refl g,?_,HB,by grind⟩;intro k f;exact setRow_other w b k cs' (by grind)
theorem Zd9{id b:Nat}{cs' :Array Value}(d:RH B H w g ow)(c:H id≠Ub)(f:ow id b):Km g.I w (w.setRow b cs'):=fun k h=>
 setRow_other w b k cs' (fun e=>(d.sep id b c f).1 (e▸h))
theorem Zv8{t0:Ty}{xs:List (List (El t0))}{u:Nat}{hole:Option Nat}{id i:Nat}{y:AV}{val:Value}{ys:List (El t0)}{ids l l' :List Nat}{x' :List (El t0)}{r:Result Next}(z:RH B H w g ow)(hH:H id=Ua (.rows t0 xs u hole))
 (R:RR hole i=Uc) (hu:u<nid) (b4:xs[i]? =Ua x') (K:VR w g y val) (t:(Jq t0 y).run H l=Ua ((ys,ids),l'))
 (W:∀b cap cs e,g.blk id=Ua b->g.slv id=.slice (Ua ⟨b,0,Ub⟩) xs.length cap->w.heap[b]? =Ua (.cells cs e (0,0))->i<cs.size->r=.ok .skip (w.setRow b (cs.toList.set i val).toArray)):
 Zq B (Zp H (ids.map (fun id=>(id,Ub))++[(id,Ua (.rows t0 (xs.set i ys) nid Ub))])) w g nid .junk r:=by
 have D:=Zdq z K t;obtain⟨hK,a8,b0,N,hO⟩:=z.objs id _ hH
 have s:∀k,Zp H (ids.map fun id=>(id,Ub)) k≠Ub->k ∉ ids/\H k≠none:=by
  intro k G;rw[DU]at G
  grind
 have S:id ∉ ids:=fun hm=>by
  rcases Zdp z K t with ⟨rfl,_⟩|⟨b5,rfl,_,_⟩
  ·grind
  ·simp only[List.mem_singleton]at hm;subst hm;unfold Jq at t;split at t
   ·rename_i k;rw[ZX]at t;split at t
    ·rename_i a2;simp only[Zy,Zf,Vc,Xe,and_true]at t
     grind
    ·simp [Zb]at t
   ·rename_i k n;rw[ZX]at t;split at t
    ·rename_i a2;simp only[Zy,Zf,Vc,Xe,and_true]at t
     grind
    ·simp [Zb]at t
   ·simp only[Zf,Vc]at t
    grind
   ·simp [Zb]at t
 rcases hO with ⟨rfl,_⟩|⟨b,cap,cs,e,hb,Z,a7,hh,hl,a9,b1⟩
 ·grind
 ·have b2:i<xs.length:=by grind
  have A:H id≠none:=by grind
  have W:=W b cap cs e hb a7 hh (by omega);have b3:=z.sep id b A Z;have a0:RH B (Zp H (ids.map fun id=>(id,Ub))) w g ow:=z.drops ids;rw[Xj];have m:∀k,k≠b->(w.setRow b (cs.toList.set i val).toArray).heap[k]? =w.heap[k]? :=fun k G=>setRow_other w b k _ G;have M:Km g.I w (w.setRow b (cs.toList.set i val).toArray):=fun k G=>by grind
  have a5:∀d,Wi val=Ua d->ZL H ow ids d:=fun d c=>D.own c
  have a3:∀d,ZL H ow ids d->d≠b/\ ¬ow id d:=fun d ⟨k,O,L,V⟩=>by
   have J:¬ow id d:=fun Q=>S (z.dist id k d A L Q V▸O)
   grind
  let f:(U:Ty)->El U->Value:=fun U k=>if h:U=.int .i64 then(if (h▸k:El (.int .i64))=(i:Int) then val else g.row id U k) else g.row id U k
  have a6:∀j:Nat,j≠i->f (.int .i64) (j:Int)=g.row id (.int .i64) (j:Int):=by grind
  have C:f (.int .i64) (i:Int)=val:=by grind
  refine⟨undef,w.setRow b (cs.toList.set i val).toArray,g.bump id nid f,Xd ow id (fun d=>ow id d\/ZL H ow ids d),by grind,?_,Gh.le_bump (by omega),M,HB,fun _ h=>.inl h⟩;refine a0.bump (id:=id) (v:=nid) hK (by omega) (fun d c=>?_) (by simp) rfl rfl ⟨rfl,Vg _⟩ (fun d O L=>m d fun e=>?_) (fun d c=>?_) ?_
  ·rcases c with c|⟨k,G,O,L⟩
   ·grind
   ·refine m d fun e=>G ?_;subst e;exact(z.dist id k d A (s k O).2 Z L).symm
  ·grind
  ·rw[size_setRow];rcases c with c|⟨k,O,L,V⟩
   ·obtain⟨p,q,r⟩:=z.sep id d A c;exact⟨p,q,r,fun k G Q Y=>G (z.dist k id d (s k Q).2 A Y c)⟩
   ·obtain⟨p,q,r⟩:=z.sep k d L V;refine⟨p,q,r,fun k' G Q Y=>(s k' Q).1 ?_⟩;have:=z.dist k' k d (by grind) L Y V
    grind
  ·refine⟨a8,Zv rfl,?_,.inr ⟨b,cap,(cs.toList.set i val).toArray,e,hb,.inl Z,by show g.slv id=_;grind,setRow_heap w b cs _ e (0,0) hh,by grind,by grind,fun j T=>?_⟩⟩
   ·show RF _ g.I _ t0 (g.blk id) (fun j:Nat=>(if id=id then f else g.row id) (.int .i64) (j:Int)) _ Ub
    rw[Zv rfl];refine N.put (k0:=i) (x0:=ys) (by omega) (fun j x X=>?_) ?_ ?_ (fun j x X T W=>?_) fun d c=>?_
    ·grind
    ·cases hole with
     |none=>simp
     |some j=>exact .inr (by rw[Vya R])
    ·show Wp _ _ _ _ _ (f (.int .i64) (i:Int));rw[C];exact D.mono M (by simp) (by grind) (by grind)
    ·refine W.mono M (by simp) (by grind) fun d c h=>m d fun e=>?_
     have J:hole≠Ua j:=fun e=>by rw[e]at R;exact T (Vya R)
     exact N.tp j x d X J c (e▸hb)
    ·have c:Wi (f (.int .i64) (i:Int))=Ua d:=c;rw[C]at c;have a4:=a3 d (a5 d c);refine⟨fun j x X T a1=>a4.2 ?_,by grind⟩
     have J:hole≠Ua j:=fun e=>by rw[e]at R;exact T (Vya R)
     exact(N.rd j x X J).own a1
   ·have T:j<xs.length:=by grind
    show _=Ua ((if id=id then f else g.row id) (.int .i64) (j:Int))
    rw[Zv rfl];simp only[List.getElem?_toArray,Vic]
    grind
theorem ZvI{w' :World}{id ver:Nat}{G:Ty}{k:El G}{r:(t:Ty) ×List (El t)}{row:List (El r.1)}{o' :K1}{l l' l2 b3:List Nat}{b i:Nat}(hR:RH B H w g ow)(c:(Yn id ver G k).run H l=Ua (r,l'))
 (f:(Zgp id G k r.1 row).run H l2=Ua (o',b3)) (T:Wi (g.row id G k)=Ua b) (a9:i<r.2.length) (K:Wp w' g.I (ow id) r.1 row (g.row id G k)) (n:∀k,k≠b->w'.heap[k]? =w.heap[k]?):ORel w' g (ow id) id o' :=by
 have R:H id≠none:=by
  simp only[Yn]at c;rw[ZX]at c;split at c
  ·grind
  ·grind
  ·simp [Zb]at c
 have b0:ow id b:=K.own T;have N:Km g.I w w' :=fun k hk=>n k fun e=>(hR.sep id b R b0).1 (e▸hk);simp only[Yn]at c;rw[ZX]at c;simp only[Zgp]at f;rw[ZX]at f;split at c
 ·rename_i t xs u V;rw[V]at f;simp only[ZJ,Zy,Zf,Zb,ZP,Z6]at c f;obtain⟨hu,i',a2,x,p,rfl,_⟩:=c;obtain⟨L,a3,y,hy,rfl,_⟩:=f;obtain⟨rfl,rfl⟩:=KE a2;have:=Zel a3;subst this;obtain⟨_,rfl⟩:=RE hy;obtain⟨_,S,A,h,hO⟩:=hR.objs id _ V;unfold idx at p;split at p
  ·rename_i h0;have D:=p;have b7:L.toNat<xs.length:=by grind
   have e1:((L.toNat:Nat):Int)=L:=Vpa h0;refine⟨S,A,h.put (k0:=L.toNat) (x0:=y) (by simp) (fun j x p=>?_) (.inl rfl) (by grind) (fun j x p Q hr=>?_) (fun J q=>?_),?_⟩
   ·grind
   ·refine hr.mono N (by simp) (by simp) fun J q _=>n J fun e=>?_;subst e;exact h.ds j L.toNat x _ J p D Q (by simp) (by simp) q (by grind)
   ·simp only[e1]at q;rw[T]at q;cases q;exact⟨fun j x p Q O=>h.ds j L.toNat x _ b p D Q (by simp) (by simp) O (by grind),h.tp L.toNat _ b D (by simp) (by grind)⟩
   ·rcases hO with ⟨rfl,_⟩|⟨J,cap,cs,e,Y,h2,h3,Z,h5,h6,h7⟩
    ·grind
    ·refine .inr ⟨J,cap,cs,e,Y,h2,by grind,(n J fun e=>?_).trans Z,by grind,h6,by grind⟩;exact h.tp L.toNat _ b D (by simp) (by grind) (e▸Y)
  grind
 ·rename_i b8 t m u V;rw[V]at f;simp only[ZJ,Zy,Zf,Zb,ZP,Z6,Ve]at c f;obtain⟨⟨hu,a8⟩,k',a5,rfl,_⟩:=c;obtain⟨M,a6,y,hy,rfl,_⟩:=f;obtain⟨rfl,rfl⟩:=KE a5;have:=Zel a6;subst this;obtain⟨_,rfl⟩:=RE hy;obtain⟨_,S,A,h,X,b4,J,es,clock,Y,h2,h3,Z⟩:=hR.objs id _ V;have s:=DY a8;simp only at a9
  cases hg:ZT (Zm G) M m with
  |none=>grind
  |some x0=>
   have z:=Zeb s hg;have a4:M∈m.map Vka:=by grind
   have a7:=(Ry s (v:=y)).1 a4;have b1:=h.tp M x0 b z (by simp) T;refine⟨S,A,h.put (k0:=M) (x0:=y) (by simp) (fun j x p=>Ze8 s X p) (.inl rfl) K (fun j x p Q hr=>?_) (fun b2 C=>?_),Zgv s X,by grind,J,es,clock,Y,h2,by grind,Z.1,?_⟩
   ·refine hr.mono N (by simp) (by simp) fun b2 C _=>n b2 fun e=>?_;subst e;exact h.ds j M x _ b2 p z Q (by simp) (by simp) C T
   ·rw[T]at C;cases C;exact⟨fun j x p Q O=>h.ds j M x _ b p z Q (by simp) (by simp) O T,b1⟩
   ·rw[Rx];have U:=Z.2.mono fun kv e p=>(⟨p.1.mono N (.refl g),p.2⟩:Ko w' g (.d G kv.1) e.key/\e.val=g.row id G kv.1)
    cases W:WY (Zm G) M m with
    |none=>
     rw[DL,W]at hg;grind
    |some j=>
     simp only;obtain⟨e1,a0,a1⟩:=Rw _ _ _ _ W;obtain⟨en,b6,hp⟩:=U.get j e1 a0;have b5:=(JO s).1 a1;have:=U.set j (a:=(M,y)) (b:=en) (by grind)
     have e5:es.toList.set j en=es.toList:=by
      apply Vda
      grind
     grind
 ·simp [Zb]at c
theorem ZpP{T:TypeId}{x y:Operand}(hT:Z3 P E)(A:RH B H w g ow)(hF:Fr w g F a.tmps)(ho:o.op=.store T x y)
 (h:(ZN E nid o.op o.type (Zx F)).run H []=Ua ((v,patch),rd)):Zq B (Zp H patch) w g nid v ((execOp a.eval o).run P w):=by
 rw[ho]at h;simp only[ZN,Zy,ZJ,Zb,ZP,Z6]at h;obtain⟨t,ht,hf,h⟩:=h;have Z:=hF.eval x;have hy:=(hF.eval y).to1 (ZbI hf).2;have O:=CV.oneCell _ _ (ZbI hf).1 hy.1 t hf;have N:=CV.length _ t _ hf hy.1;split at h
 ·rename_i id p C;rw[ZX]at h;split at h
  ·rename_i t0 c hH;simp only[Z0,Zf,Vc]at h;obtain⟨c',m,h1,⟨rfl,rfl⟩,_⟩:=h;obtain⟨hk,o',t1,b,Q,R,V⟩:=(C▸Z).ptr;obtain⟨_,n,b5,b',cs,e,h6,h7,h8,h9,b1⟩:=A.objs id _ hH;obtain⟨_,o2,pre,c1,post,t2,⟨D,z,G,J⟩,K,b2⟩:=Znp h1 b5 b1 hy.1 (by omega);rw[n,D]at Q;obtain⟨rfl,rfl⟩:=Vo (Ky Q);rw[R]at h6;cases h6;subst G;have j:=Zd9 (cs' :=(pre++(a.eval y).cells.toList++post).toArray) A (by grind) h7;refine Zq.write A (by grind) h7 (cs' :=(pre++(a.eval y).cells.toList++post).toArray) ?_ ?_
   ·simp only[execOp,ho,V,Vmb,Vga,Vb,Vd,Va,ZdB (hT.ty T t ht) h8 z rfl J N O]
   ·refine⟨n,K,b,_,e,R,h7,Ra h8,?_,?_⟩
    ·have:cs.size=pre.length+c1.length+post.length:=by rw[<-Vv,z];grind
     grind
    ·simpa using CV.mono j (.refl g) _ _ b2
  ·simp [Zb]at h
 ·rename_i id i p C;rw[ZX]at h;split at h
  ·rename_i t0 xs hH;simp only[Zy,Z0,Zf,Vc]at h;obtain⟨e0,U,dv,L,e',m,h1,⟨rfl,rfl⟩,_⟩:=h
   have a0:Zx F y=.d dv.1 dv.2:=by
    cases M:Zx F y<;>rw[M]at L<;>simp [AV.dv?]at L
    grind
   rw[a0]at hy hf;obtain⟨hk,o',t1,b,Q,R,V⟩:=(C▸Z).vp;obtain⟨_,hO⟩:=A.objs id _ hH;obtain⟨b',cap,cs,e,f,c,n,hb,hJ,b8,M,hl,a6,a1,b3,a4,r,b4,a3,Y⟩:=Zoc hO U;obtain⟨_,o2,pre,c1,post,D,z,G,J,K⟩:=ZfD p t0 e0 _ _ dv e' c _ h1 a4 (by simpa only[CV] using hy.1);rw[n,D]at Q;obtain⟨rfl,rfl⟩:=Vo (Ky Q);rw[R]at hb;cases hb;subst G;have l:cs.toList=((f.take i).flatten++pre)++c1++(post++((f.drop (i+1)).flatten++r)):=by grind
   have j:=Zd9 (cs' :=(((f.take i).flatten++pre)++(a.eval y).cells.toList++(post++((f.drop (i+1)).flatten++r))).toArray) A (by grind) hJ;refine Zq.write A (by grind) hJ (cs' :=(((f.take i).flatten++pre)++(a.eval y).cells.toList++(post++((f.drop (i+1)).flatten++r))).toArray) ?_ ?_
   ·have q:i* (g.ty id).size+pre.length=((f.take i).flatten++pre).length:=by grind
    simp only[execOp,ho,V,Vmb,Vga,Vb,Vd,Va,q,ZdB (hT.ty T t ht) M l rfl J N O]
   ·have a2:(f.set i (pre++(a.eval y).cells.toList++post)).flatten++r=((f.take i).flatten++pre)++(a.eval y).cells.toList++(post++((f.drop (i+1)).flatten++r)):=by grind
    refine⟨n,.inr ⟨b,cap,_,e,f.set i (pre++(a.eval y).cells.toList++post),R,hJ,by grind,Ra M,by grind,?_,?_,r,?_⟩⟩
    ·have:cs.size=((f.take i).flatten++pre).length+c1.length+(post++((f.drop (i+1)).flatten++r)).length:=by rw[<-Vv,l];grind
     grind
    ·exact(a1.set i K).mono fun x c Z=>Rd.mono j (by simp) t0 x c Z
    omega
  ·rename_i t0 xs u c4 hH;simp only[Zy,ZJ,Z0,Zf,Zb,ZP,Z6,Kj,Vc,Ve,Voc]at h;obtain⟨⟨⟨rfl,rfl⟩,b6⟩,uu,s,x',b9,⟨ys,ids⟩,m,X,⟨rfl,rfl⟩,_⟩:=h;have s:=Yw s;obtain⟨hk,o',t1,b,Q,R,V⟩:=(C▸Z).vp;rw[Wg]at Q;obtain⟨rfl,rfl⟩:=Vo (Ky Q);refine Zv8 A hH s (Vh b6) b9 (hF.eval y) X fun b' cap cs e hb b8 M hi=>?_;rw[R]at hb;cases hb;obtain⟨_,n,_⟩:=A.objs id _ hH;have j:Kf (a.eval y)=false:=(Zdq A (hF.eval y) X).one.2
   have S:(a.eval y).cells.toList=[a.eval y]:=by
    cases hv:a.eval y<;>rw[hv]at j<;>simp [Kf]at j<;>rfl
   have hl:i<cs.toList.length:=by omega
   have z:cs.toList=cs.toList.take i++[cs.toList[i]]++cs.toList.drop (i+1):=by rw[Vea,List.singleton_append, <-Vqa hl,Vza]
   have c5:(cs.toList.take i).length=i:=by grind
   have a5:i* (g.ty id).size+0=(cs.toList.take i).length:=by grind
   have:=ZdB (hT.ty T _ ht) M z (d:=[a.eval y]) S rfl rfl (by grind);simp only[execOp,ho,V,Vmb,Vga,Vb,Vd,Va,a5,this]
   grind
  ·simp [Zb]at h
 ·rename_i id ver kt k i p C;simp only[Zy,Z0,Zf,Vc]at h;obtain⟨r,m1,W,e0,U,dv,L,e',m2,h1,o',m3,Y,⟨rfl,rfl⟩,_⟩:=h
  have a0:Zx F y=.d dv.1 dv.2:=by
   cases M:Zx F y<;>rw[M]at L<;>simp [AV.dv?]at L
   grind
  rw[a0]at hy hf;obtain⟨hk,hv,ad,Q,R⟩:=(C▸Z).np;obtain⟨a7,n,b0,a9⟩:=Zd5 A hk W;obtain⟨b,len,cap,o2,t1,V,h6,h7⟩:=R b0;obtain⟨b',c2,cs,e,f,c,hd,hJ,M,hl,a6,a1,b3,a4,r',b4,a3,b7⟩:=Znd a9 U;rw[V]at hd;simp only[Vj.injEq,ZB,Addr.mk.injEq,and_true]at hd;obtain⟨rfl,rfl,rfl⟩:=hd;obtain⟨_,o3,pre,c1,post,D,z,G,J,K⟩:=ZfD p r.1 e0 _ _ dv e' c _ h1 a4 (by simpa only[CV] using hy.1);rw[n]at h6 h7;simp only[DW]at h6 h7;rw[D]at h6;obtain⟨rfl,rfl⟩:=Vo (Ky h6);subst G;subst h7;have l:cs.toList=((f.take i).flatten++pre)++c1++(post++((f.drop (i+1)).flatten++r')):=by grind
  have j:=Zd9 (cs' :=(((f.take i).flatten++pre)++(a.eval y).cells.toList++(post++((f.drop (i+1)).flatten++r'))).toArray) A a7 hJ;have a2:(f.set i (pre++(a.eval y).cells.toList++post)).flatten++r' =((f.take i).flatten++pre)++(a.eval y).cells.toList++(post++((f.drop (i+1)).flatten++r')):=by grind
  have a8:Wp (w.setRow b (((f.take i).flatten++pre)++(a.eval y).cells.toList++(post++((f.drop (i+1)).flatten++r'))).toArray) g.I (ow id) r.1 (r.2.set i e') (g.row id kt k):=by
   refine .inr ⟨b,cap,_,e,f.set i (pre++(a.eval y).cells.toList++post),by grind,hJ,Ra M,by grind,?_,?_,r',?_⟩
   ·have:cs.size=((f.take i).flatten++pre).length+c1.length+(post++((f.drop (i+1)).flatten++r')).length:=by rw[<-Vv,l];grind
    grind
   ·exact(a1.mono fun x c Z=>Rd.mono j (by simp) _ x c Z).set i (Rd.mono j (by simp) _ _ _ K)
   omega
  refine Zq.write A a7 hJ (cs' :=(((f.take i).flatten++pre)++(a.eval y).cells.toList++(post++((f.drop (i+1)).flatten++r'))).toArray) ?_ ?_
  ·have q:i*r.1.size+pre.length=((f.take i).flatten++pre).length:=by grind
   simp only[execOp,ho,Q,Vmb,Vga,Vb,Vd,Va,q,ZdB (hT.ty T t ht) M l rfl J N O]
  ·exact ZvI A W Y (by rw[V];rfl) (Vw.1 U).1 a8 (fun k hk=>setRow_other w b k _ hk)
 ·simp [Zb]at h
end ops
end Tr
end
section
namespace Tr
open Go
theorem ZnW:∀(p:List Nat) (t:Ty) (o:Nat) (c:Ty),ZW t p=Ua (o,c)->Hs t p=Ua c:=by
 intro p t
 induction t generalizing p with
 |prod a b f j=>
  intro o c h
  match p with
  |[]=>rw[Wg]at h;obtain⟨rfl,rfl⟩:=Vo (Ky h);rfl
  |0::p=>simp only[ZW]at h;simpa only[Hs] using f p o c h
  |(n+1)::p=>
   simp only[ZW,Vr]at h;obtain⟨r,d,e⟩:=h;obtain⟨rfl,rfl⟩:=Vo e
   simpa only[Hs] using j (n::p) r.1 r.2 d
 |arr n t k=>
  intro o c h
  match p with
  |[]=>rw[Wg]at h;obtain⟨rfl,rfl⟩:=Vo (Ky h);rfl
  |i::p=>
   simp only[ZW]at h;split at h
   ·simp only[Vr]at h;obtain⟨r,d,e⟩:=h;obtain⟨rfl,rfl⟩:=Vo e;simpa only[Hs] using k p r.1 r.2 d
   grind
 |_=>
  intro o c h
  match p with
  |[]=>rw[Wg]at h;obtain⟨rfl,rfl⟩:=Vo (Ky h);rfl
  |_::_=>simp [ZW]at h
theorem Zdn:∀(p:List Nat) (t:Ty) (q:List Nat) (o:Nat) (f:Ty) (d:Nat) (e:Ty),ZW t p=Ua (o,f)->ZW f q=Ua (d,e)->ZW t (p++q)=Ua (o+d,e):=by
 intro p t
 induction t generalizing p with
 |prod a b k l=>
  intro q o f d e c h
  match p with
  |[]=>
   rw[Wg]at c
   grind
  |0::p=>
   simp only[ZW]at c
   simpa [ZW] using k p q o f d e c h
  |(n+1)::p=>
   simp only[ZW,Vr]at c;obtain⟨r,c,j⟩:=c;obtain⟨rfl,rfl⟩:=Vo j;have:=l (n::p) q r.1 r.2 d e c h;simp only[Vpc,ZW,Vr]
   grind
 |arr n t s=>
  intro q o f d e c h
  match p with
  |[]=>
   rw[Wg]at c
   grind
  |i::p=>
   simp only[ZW]at c;split at c
   ·rename_i m;simp only[Vr]at c;obtain⟨r,c,j⟩:=c;obtain⟨rfl,rfl⟩:=Vo j;have:=s p q r.1 r.2 d e c h;simp only[Vpc,ZW,Zv m,Vr]
    grind
   grind
 |_=>
  intro q o f d e c h
  match p with
  |[]=>
   rw[Wg]at c
   grind
  |_::_=>simp [ZW]at c
theorem GC(b o n:Nat):(⟨b,o,Ub⟩:Addr).add n=⟨b,o+n,Ub⟩:=by unfold Addr.add;simp
theorem Zc6{α:Type}{xs:List α}{n:Int}{y:α}(h:idx xs n=Ua y):0<=n/\xs[n.toNat]? =Ua y/\n<xs.length:=by
 unfold idx at h
 grind
theorem ZaD{n:Int}{m j:Nat}(h:Zs n m=Ua j):0<=n/\n<m/\j=n.toNat:=by
 unfold Zs at h
 grind
section ops
variable {P:Program}{E:Ka}{B:Z1}{H:AH}{w:World}{g:Gh}{ow:Nat->Nat->Prop}{nid:Nat}{a:Act}{F:Nat->AV}{v:AV}{patch:Kx}{rd:List Nat}{o:Oper}
theorem ZeN{T f:Nat}{t:Ty}{r:Nat×Ty}(h:Ji P E.ty T t)(q:ZW t [f]=Ua r)(y:∀n e,t≠ .arr n e):
 ∃i fd,P.underlying T=some (.struct i)∧i[f]? =some fd∧fd.offset=r.1∧E.ty fd.type=some r.2∧fd.name≠ "_" :=by
 have c:=h.shape
 cases t with
 |prod a b=>
  cases s:P.underlying T with
  |none=>rw[s]at c;simp [Kd]at c
  |some d=>
   rw[s]at c
   cases d with
   |struct i=>
    simp only[Kd,Ve,Vqb,Vcc]at c
    have u:f<i.size:=by
     rcases Vvb f i.size with h|h
     ·exact h
     ·exfalso
      have key:∀(t:Ty) (k m:Nat),(ZW t [k]).isNone=Uc->t.chain=Uc->k<=m->(ZW t [m]).isNone=true:=by
       intro t
       induction t with
       |prod a b _ p=>
        intro k m j l x
        cases k with
        |zero=>simp [ZW,Wg]at j
        |succ k=>
         cases m with
         |zero=>omega
         |succ m=>
          simp only[ZW,Option.isNone_map]at j⊢
          exact p k m j l (by omega)
       |unit=>intro k m _ _ _;rfl
       |_=>intro k m _ l;simp [Ty.chain]at l
      have:=key (.prod a b) _ f c.1.2 c.2 h
      grind
    grind
   |_=>simp [Kd]at c
 |unit=>simp [ZW]at q
 |arr n e=>grind
 |_=>simp [ZW]at q
theorem Zlt{t:Ty}(h:t.isStruct=Uc):∀n e,t≠ .arr n e:=by rintro n e rfl;simp [Ty.isStruct]at h
theorem ZsZ{t:Ty}(h:t.isStruct=Uc):t.agg=true:=by
 cases t<;>simp_all [Ty.isStruct,Ty.agg]
theorem Zvq{T f:Nat}{c:Array Field}{fd:Field}{e:Ty}{b d:Nat}(l:Z3 P E)(h:P.underlying T=Ua (.struct c))(i:c[f]? =Ua fd)(j:E.ty fd.type=Ua e)(k:e.size≠0):
 (Vhd T (.pointer (Ua ⟨b,d,Ub⟩)) f).run P w=.ok (.pointer (Ua ⟨b,d+fd.offset,Ub⟩)) w:=by
 simp only[Vhd,underlying,Vb,run_program,Va,h,Vd,i,Vga,fieldPlace,(l.ty _ _ j).run_sizeOf,k,if_false,GC]
theorem Kw.sub{b off:Nat}{pre c post:List Value}(h:Kw w b off (pre++c++post)):Kw w b (off+pre.length) c:=by
 intro j d;have:=h (pre.length+j) (by grind)
 grind
theorem Zjz{T f:Nat}{x:Operand}(hT:Z3 P E)(G:RH B H w g ow)(hF:Fr w g F a.tmps)(ho:o.op=.fieldAddr T x f)
 (h:(ZN E nid o.op o.type (Zx F)).run H []=Ua ((v,patch),rd)):Zq B (Zp H patch) w g nid v ((execOp a.eval o).run P w):=by
 rw[ho]at h;simp only[ZN,Zy,ZJ,Zb,ZP,false_or,Vba,Vi]at h;obtain⟨t,ht,r,O,⟨a5,a3⟩,h⟩:=h;have W:r.2.size≠0:=by intro e;simp_all
 obtain⟨fs,fd,h1,h2,h3,h4,_⟩:=ZeN (hT.ty T t ht) O (Zlt a3);have Y:=hF.eval x
 have key:∀{b z:Nat},a.eval x=.pointer (Ua ⟨b,z,Ub⟩)->(execOp a.eval o).run P w=.ok (.value (.pointer (Ua ⟨b,z+r.1,Ub⟩))) w:=by intro b z he;simp only[execOp,ho,he,Vb,Zvq hT h1 h2 h4 W,Va,Vd,h3]
 split at h
 ·rename_i t' y K;simp only[ZJ,Z0,Zf,Zb,ZP,Z6,Kj,Vc]at h;obtain⟨rfl,u,m,j,⟨rfl,rfl⟩,_⟩:=h;obtain⟨b,off,c,C,D,L,R⟩:=(K▸Y).dp;obtain⟨_,c1,⟨o2,pre,post,Q,a0,a1⟩,a2⟩:=ZeW [f] t' y _ _ u c j R;rw[O]at Q;cases Q;refine Zq.pure G (key C) (KK ?_ rfl rfl);simp only[CV];refine⟨b,off+o2,c1,rfl,D,?_,a2⟩;rw[<-a1];rw[a0]at L;exact L.sub
 ·rename_i id p K;rw[ZX]at h;split at h
  ·rename_i t0 c S;simp only[Zy,ZJ,Zf,Zb,ZP,Z6,Kj,Vc]at h;obtain⟨q,l,rfl,⟨rfl,rfl⟩,_⟩:=h;obtain⟨J,z,t1,b,j,C,D⟩:=(K▸Y).ptr;obtain⟨_,d,_⟩:=G.objs id _ S;rw[d]at j;have e1:=(ZnW _ _ _ _ j).symm.trans l;obtain rfl:=Ky e1;refine Zq.pure G (key D) (KK ?_ rfl rfl);simp only[CV];exact⟨J,z+r.1,r.2,b,by rw[d];exact Zdn p t0 [f] _ _ _ _ j O,C,rfl⟩
  ·rename_i tn tq lt lb c S;simp only[ZJ,Zf,Zb,ZP,Z6,Vc]at h;obtain⟨l,⟨rfl,rfl⟩,_⟩:=h;obtain⟨J,z,t1,b,j,C,D⟩:=(K▸Y).ptr;obtain⟨_,d,_⟩:=G.objs id _ S;refine Zq.pure G (key D) (KK ?_ rfl rfl);simp only[CV]
   have V:∃u,ZW (g.ty id) (p++[f])=Ua (z+r.1,u):=by
    have e1:=ZnW _ _ _ _ j
    cases p with
    |nil=>
     rw[Wg]at j;obtain⟨rfl,rfl⟩:=Vo (Ky j);simp only[Bool.or_eq_true,Kj]at l;rw[Vp,List.nil_append]
     have Z:∀A B:Ty,(A=Jd tn tq lt lb\/A=Yc tn tq lt lb)->(B=Jd tn tq lt lb\/B=Yc tn tq lt lb)->∀r:Nat×Ty,ZW A [f]=Ua r->∃u,ZW B [f]=Ua (r.1,u):=by
      intro A B M N r h
      have e:(ZW A [f]).map Vka=(ZW B [f]).map Vka:=by
       match f with
       |0=>rcases M with rfl|rfl<;>rcases N with rfl|rfl<;>simp [Jd,Yc,ZW]
       |1=>rcases M with rfl|rfl<;>rcases N with rfl|rfl<;>simp [Jd,Yc,ZW]
       |2=>rcases M with rfl|rfl<;>rcases N with rfl|rfl<;>simp [Jd,Yc,ZW]
       |3=>rcases M with rfl|rfl<;>rcases N with rfl|rfl<;>simp [Jd,Yc,ZW]
       |4=>rcases M with rfl|rfl<;>rcases N with rfl|rfl<;>simp [Jd,Yc,ZW,Ty.size]
       |5=>rcases M with rfl|rfl<;>rcases N with rfl|rfl<;>simp [Jd,Yc,ZW,Ty.size]
       |n+6=>rcases M with rfl|rfl<;>rcases N with rfl|rfl<;>simp [Jd,Yc,ZW]
      rw[h]at e
      cases hb:ZW B [f] with
      |none=>rw[hb]at e;simp at e
      |some s=>rw[hb]at e;simp only[Vl,ZB]at e;exact⟨s.2,by rw[e]⟩
     exact Z t (g.ty id) (l.imp Eq.symm Eq.symm) d r O
    |cons i p=>
     simp only[Ve,Kj]at l;obtain⟨hi,l⟩:=l;have hi:i<3:=by simpa using hi
     have e2:Hs (g.ty id) (i::p)=Hs (Jd tn tq lt lb) (i::p):=by
      rcases d with d|d
      ·rw[d]
      ·rw[d]
       match i,hi with
       |0,_=>simp [Jd,Yc,Hs]
       |1,_=>simp [Jd,Yc,Hs]
       |2,_=>simp [Jd,Yc,Hs]
     rw[e2,l]at e1;obtain rfl:=Ky e1;exact⟨r.2,Zdn (i::p) _ [f] _ _ _ _ j O⟩
   obtain⟨u,hu⟩:=V;exact⟨J,z+r.1,u,b,hu,C,rfl⟩
  ·simp [Zb]at h
 ·rename_i id i p K;rw[ZX]at h;split at h
  ·rename_i t0 xs S;simp only[Zy,ZJ,Zf,Zb,ZP,Z6,Kj,Vc]at h;obtain⟨q,l,rfl,⟨rfl,rfl⟩,_⟩:=h;obtain⟨J,z,t1,b,j,C,D⟩:=(K▸Y).vp;obtain⟨_,d,_⟩:=G.objs id _ S;have a4:=l;rw[d,l]at j;cases j;refine Zq.pure G (key D) (KK ?_ rfl rfl);simp only[CV];exact⟨J,z+r.1,r.2,b,by rw[d];exact Zdn p t0 [f] _ _ _ _ l O,C,by grind⟩
  ·simp [Zb]at h
 ·rename_i id ver kt k i p K;simp only[Zy,Z0,ZJ,Zf,Zb,ZP,Z6,Kj,Vc]at h;obtain⟨s,m,U,q,l,rfl,⟨rfl,rfl⟩,_⟩:=h;obtain⟨J,hv,ad,j,C⟩:=(K▸Y).np;obtain⟨_,d,X,_⟩:=Zd5 G J U;obtain⟨b,len,cap,z,t1,D,L,R⟩:=C X;rw[d]at L R;simp only[DW]at L R;rw[l]at L;cases L;subst R;refine Zq.pure G (key j) (KK ?_ rfl rfl);simp only[CV];refine⟨J,hv,_,rfl,fun _=>⟨b,len,cap,z+r.1,r.2,D,?_,?_⟩⟩
  ·rw[d];exact Zdn p s.1 [f] _ _ _ _ l O
  ·rw[d];simp only[DW];grind
 ·simp [Zb]at h
theorem R0{T:TypeId}{t:Ty}(d:Ji P E.ty T t){cs:Array Value}{pre c post:List Value}(b:cs.toList=pre++c++post)(h:c.length=t.size)(e:t.agg=Ud->∃v,c=[v]):
 (part T cs pre.length).run P w=.ok (GQ t.agg c) w:=by
 simp only[part,Vb,d.run_isAgg,Va]
 cases f:t.agg with
 |true=>
  simp only[if_true,Vb,d.run_sizeOf,Va,Vd,GQ];congr 2;apply Array.ext'
  simp_all
 |false=>
  obtain⟨u,rfl⟩:=e f
  have:cs[pre.length]? =Ua u:=by rw[<-Array.getElem?_toList,b,Vea,Vjb (by omega)];simp
  simp [this,GQ]
theorem GD{x:AV}{val:Value}(h:Ko w g x val)(d:x.isAgg=Uc)(e:x≠ .junk):∃cs,val=.agg cs/\CV w g x cs.toList:=by
 obtain⟨c,b⟩:=h;rcases b with b|b
 ·grind
 ·rw[d]at b
  cases val<;>simp [Kf]at b
  exact⟨_,rfl,c⟩
theorem Zpx{T f:Nat}{x:Operand}(q:Z3 P E)(G:RH B H w g ow)(hF:Fr w g F a.tmps)(s:o.op=.field T x f)
 (h:(ZN E nid o.op o.type (Zx F)).run H []=Ua ((v,patch),rd)):Zq B (Zp H patch) w g nid v ((execOp a.eval o).run P w):=by
 rw[s]at h;simp only[ZN,Zy,ZJ,Zb,ZP,false_or,Z6,Vba,Vi,Z0,Zf,Vc,Ve]at h;obtain⟨t,M,r,u,⟨⟨c,d⟩,b⟩,O,m,L,⟨U,l⟩,⟨rfl,rfl⟩,_⟩:=h;obtain⟨Q,fd,z,A,R,C,_⟩:=ZeN (q.ty T t M) u (Zlt c);obtain⟨cs,K,J⟩:=GD ((hF.eval x).to1 (ZbI d).2) (by rw[ZeQ d b,ZsZ c]) (ZbI d).1;obtain⟨_,N,y,⟨V,pre,post,n,D,S⟩,k,p⟩:=ZeV L d J;rw[u]at n;cases n;obtain⟨e,i⟩:=Zcv p k (ZeQ k l);refine Zq.pure G ?_ (VR.of1 e);have j:fd.offset=pre.length:=by omega
 simp only[execOp,s,Vb,Instr.field,underlying,run_program,Va,z,Vd,A,K,asAgg,j,R0 (q.ty _ _ C) D (CV.length O N y k p) i]
theorem W1{T:TypeId}{t:Ty}(f:Z3 P E)(h:E.ty T=Ua (.sl t)):∃c,P.underlying T=Ua (.slice c)/\E.ty c=Ua t:=by
 have b:=(f.ty T _ h).shape
 cases e:P.underlying T with
 |none=>rw[e]at b;simp [Kd]at b
 |some d=>rw[e]at b;cases d<;>simp [Kd]at b;grind
theorem ZcE{T:TypeId}{t:Ty}{n:Nat}(f:Z3 P E)(h:E.ty T=Ua (.arr n t)):∃c,P.underlying T=Ua (.array n c)/\E.ty c=Ua t:=by
 have b:=(f.ty T _ h).shape
 cases e:P.underlying T with
 |none=>rw[e]at b;simp [Kd]at b
 |some d=>rw[e]at b;cases d<;>simp [Kd]at b;grind
theorem ZaY{T c:TypeId}{t:Ty}{b d len cap:Nat}{k:IntKind}{n:Int}(i:Z3 P E)(f:P.underlying T=Ua (.slice c))(h:E.ty c=Ua t)(e:0<=n)(j:n<len):
 (Vnb T (.slice (Ua ⟨b,d,Ub⟩) len cap) (.int k n)).run P w=.ok (.pointer (Ua ⟨b,d+n.toNat*t.size,Ub⟩)) w:=by
 simp only[Vnb,asIntOf,underlying,Vb,run_program,Va,f,Vd,e,j,and_self,if_true,(i.ty _ _ h).run_sizeOf,GC]
theorem Znk{T c:TypeId}{t:Ty}{b d m:Nat}{k:IntKind}{n:Int}(i:Z3 P E)(f:P.underlying T=Ua (.array m c))(h:E.ty c=Ua t)(e:0<=n)(j:n<m):
 (Vnb T (.pointer (Ua ⟨b,d,Ub⟩)) (.int k n)).run P w=.ok (.pointer (Ua ⟨b,d+n.toNat*t.size,Ub⟩)) w:=by
 simp only[Vnb,asIntOf,underlying,Vga,Vb,run_program,Va,f,Vd,e,j,and_self,if_true,(i.ty _ _ h).run_sizeOf,GC]
theorem Zhp{I:Nat->Prop}{t:Ty}{xs:List (El t)}{css:List (List Value)}{b off:Nat}(h:Fa (Rd w I t) xs css)(d:Kw w b off css.flatten){i:Nat}{y:El t}(j:xs[i]? =Ua y):
 ∃c,Rd w I t y c/\Kw w b (off+i*t.size) c:=by
 obtain⟨c,e,f⟩:=h.get i y j;obtain⟨k,l,_⟩:=RO e t.size (Rd.all_length h);refine⟨c,f,?_⟩;rw[k]at d;rw[<-l];exact d.sub
theorem ZfU{id:Nat}{t:Ty}{xs:List (El t)}{val:Value}(h:RH B H w g ow)(f:H id=Ua (.dat t xs))(c:VR w g (.vw id) val):VR w g (.d (.sl t) xs) val:=by
 obtain⟨_,_,i⟩:=h.objs id _ f;have e:=(c.to1 (by simp)).1;simp only[CV]at e;rw[<-c.vw.2]at i;have b:val.oneCell' =true:=by rw[c.vw.2];grind
 exact KK (by assumption) b rfl
theorem Zpz{T:Nat}{x i:Operand}(C:Z3 P E)(L:RH B H w g ow)(hF:Fr w g F a.tmps)(X:o.op=.indexAddr T x i)
 (h:(ZN E nid o.op o.type (Zx F)).run H []=Ua ((v,patch),rd)):Zq B (Zp H patch) w g nid v ((execOp a.eval o).run P w):=by
 rw[X]at h;simp only[ZN,Zy]at h;obtain⟨T',s,h⟩:=h;have Y:=hF.eval x;have Z:=hF.eval i;split at h
 ·rename_i t xs k n d f;simp only[ZJ,Zy,Zf,Zb,ZP,Z6,Kj,Vc]at h;obtain⟨rfl,y,hy,⟨rfl,rfl⟩,_⟩:=h;obtain⟨G,Q,D⟩:=Zc6 hy;obtain⟨Et,J,K⟩:=W1 C s;obtain⟨ad,cap,M,A,h4,R,_⟩:=(d▸Y).sl;obtain⟨b,off,rfl,h6,S⟩:=R (by grind);obtain⟨c,h8,h9⟩:=Zhp h4 S Q;refine Zq.pure (val:=.pointer (Ua ⟨b,off+n.toNat*t.size,Ub⟩)) L ?_ (KK ?_ rfl rfl)
  ·simp only[execOp,X,A,(f▸Z).int,Vb,ZaY C J K G D,Va,Vd]
  ·simp only[CV];grind
 ·rename_i id k n d f;rw[ZX]at h;split at h
  ·rename_i t xs U;simp only[ZJ,Zy,Zf,Zb,ZP,Z6,Kj,Vc]at h;obtain⟨rfl,j,V,⟨rfl,rfl⟩,_⟩:=h;obtain⟨G,D,rfl⟩:=ZaD V;obtain⟨Et,J,K⟩:=W1 C s;obtain⟨W,z⟩:=(d▸Y).vw;obtain⟨_,l,hO⟩:=L.objs id _ U;rcases hO with ⟨rfl,_⟩|⟨b,cap,cs,e,M,hb,hJ,hs,hh,hl,N,a1,O⟩
   ·grind
   refine Zq.pure (val:=.pointer (Ua ⟨b,0+n.toNat*t.size,Ub⟩)) L ?_ (KK ?_ rfl rfl)
   ·simp only[execOp,X,z,hs,(f▸Z).int,Vb,ZaY C J K G D,Va,Vd]
   ·simp only[CV];exact⟨W,0,t,b,by rw[l,Wg],hb,by grind⟩
  ·rename_i t xs u a5 U;simp only[ZJ,Zy,Zf,Zb,ZP,Z6,Kj,Vc]at h;obtain⟨rfl,j,V,⟨rfl,rfl⟩,_⟩:=h;obtain⟨G,D,rfl⟩:=ZaD V;obtain⟨Et,J,K⟩:=W1 C s;obtain⟨W,z⟩:=(d▸Y).vw;obtain⟨_,l,_,_,hO⟩:=L.objs id _ U;rcases hO with ⟨rfl,_⟩|⟨b,cap,cs,e,hb,hJ,hs,hh,hl,N,O⟩
   ·grind
   refine Zq.pure (val:=.pointer (Ua ⟨b,0+n.toNat* (Ty.sl t).size,Ub⟩)) L ?_ (KK ?_ rfl rfl)
   ·simp only[execOp,X,z,hs,(f▸Z).int,Vb,ZaY C J K G D,Va,Vd]
   ·simp only[CV];exact⟨W,0,.sl t,b,by rw[l,Wg],hb,by grind⟩
  ·rename_i t xs U;simp only[ZJ,Zy,Zf,Zb,ZP,Z6,Kj,Vc]at h;obtain⟨rfl,y,hy,⟨rfl,rfl⟩,_⟩:=h;obtain⟨G,Q,D⟩:=Zc6 hy;obtain⟨Et,J,K⟩:=W1 C s;obtain⟨ad,cap,M,A,h4,R,_⟩:=(ZfU L U (d▸Y)).sl;obtain⟨b,off,rfl,h6,S⟩:=R (by grind);obtain⟨c,h8,h9⟩:=Zhp h4 S Q;refine Zq.pure (val:=.pointer (Ua ⟨b,off+n.toNat*t.size,Ub⟩)) L ?_ (KK ?_ rfl rfl)
   ·simp only[execOp,X,A,(f▸Z).int,Vb,ZaY C J K G D,Va,Vd]
   ·simp only[CV];grind
  ·simp [Zb]at h
 ·rename_i id ver kt k k2 n d f;simp only[Z0,ZJ,Zy,Zf,Zb,ZP,Z6,Kj,Vc]at h;obtain⟨r,m,a0,rfl,j,V,⟨rfl,rfl⟩,_⟩:=h;obtain⟨G,D,rfl⟩:=ZaD V;obtain⟨Et,J,K⟩:=W1 C s;obtain⟨W,hv,_,_⟩:=(d▸Y).nw;obtain⟨_,l,a6,a9,a2⟩:=Zbf L (d▸Y) a0;rcases a2 with ⟨A,_⟩|⟨b,cap,cs,e,M,A,hJ,hh,hl,N,a1,O⟩
  ·grind
  refine Zq.pure (val:=.pointer (Ua ⟨b,0+n.toNat*r.1.size,Ub⟩)) L ?_ (KK ?_ rfl rfl)
  ·simp only[execOp,X,A,(f▸Z).int,Vb,ZaY C J K G D,Va,Vd]
  ·simp only[CV];refine⟨W,hv,_,rfl,fun _=>⟨b,r.2.length,cap,0,r.1,by grind,by rw[l,Wg];rfl,by rw[l];simp [DW]⟩⟩
 ·rename_i id lo m k n d f;rw[ZX]at h;split at h
  ·rename_i t xs U;simp only[ZJ,Zy,Zf,Zb,ZP,Z6,Kj,Vc]at h;obtain⟨rfl,_,a8,j,V,⟨rfl,rfl⟩,_⟩:=h;obtain⟨G,D,rfl⟩:=ZaD V;obtain⟨Et,J,K⟩:=W1 C s;obtain⟨W,z⟩:=(d▸Y).vs;obtain⟨_,l,hO⟩:=L.objs id _ U;rcases hO with ⟨rfl,hb,hs⟩|⟨b,cap,cs,e,M,hb,hJ,hs,hh,hl,N,a1,O⟩
   ·exfalso;rw[hs]at z;rcases z with ⟨_,_,rfl,_⟩|⟨b,len,cap,m',A,_⟩
    all_goals grind
   rw[hs,l]at z;rcases z with ⟨A,_⟩|⟨b',len,a3,m',A,h4,R,h6,S⟩
   ·omega
   injection A with A a7 a4;injection A with A;cases A;have hm:m' ≠0:=by omega
   rw[Zg hm]at S;have he:a.eval x=.slice (Ua ⟨b,lo*t.size,Ub⟩) m m' :=by grind
   refine Zq.pure (val:=.pointer (Ua ⟨b,lo*t.size+n.toNat*t.size,Ub⟩)) L ?_ (KK ?_ rfl rfl)
   ·simp only[execOp,X,he,(f▸Z).int,Vb,ZaY C J K G D,Va,Vd]
   ·simp only[CV];exact⟨W,0,t,b,by rw[l,Wg],hb,by grind⟩
  ·simp [Zb]at h
 ·rename_i m t xs k n d f;simp only[ZJ,Zy,Zf,Zb,ZP,Z6,Kj,Vc]at h;obtain⟨rfl,y,hy,⟨rfl,rfl⟩,_⟩:=h;obtain⟨G,Q,D⟩:=Zc6 hy;obtain⟨Et,J,K⟩:=ZcE C s;obtain⟨b,off,c,A,h4,R,h6,M,rfl,S⟩:=(d▸Y).dp;rw[h6]at D;obtain⟨c,h8,h9⟩:=Zhp S R Q;refine Zq.pure (val:=.pointer (Ua ⟨b,off+n.toNat*t.size,Ub⟩)) L ?_ (KK ?_ rfl rfl)
  ·simp only[execOp,X,A,(f▸Z).int,Vb,Znk C J K G D,Va,Vd]
  ·simp only[CV];grind
 ·rename_i id p k n d f;rw[ZX]at h;split at h
  ·rename_i t0 c U;simp only[Zy]at h;obtain⟨q,hq,h⟩:=h;split at h
   ·rename_i m t hm;simp only[ZJ,Zy,Zf,Zb,ZP,Z6,Kj,Vc]at h;obtain⟨rfl,j,V,⟨rfl,rfl⟩,_⟩:=h;obtain⟨G,D,rfl⟩:=ZaD V;obtain⟨Et,J,K⟩:=ZcE C s;obtain⟨W,o',t1,b,R,h6,S⟩:=(d▸Y).ptr;obtain⟨_,l,_⟩:=L.objs id _ U;rw[l,hq]at R;cases R;simp only at hm;subst hm;refine Zq.pure (val:=.pointer (Ua ⟨b,o' +n.toNat*t.size,Ub⟩)) L ?_ (KK ?_ rfl rfl)
    ·simp only[execOp,X,S,(f▸Z).int,Vb,Znk C J K G D,Va,Vd]
    ·simp only[CV];refine⟨W,o' +n.toNat*t.size,t,b,?_,h6,rfl⟩;rw[l]
     have:ZW (.arr m t) [n.toNat]=Ua (n.toNat*t.size,t):=by simp only[ZW];grind
     exact Zdn p t0 [n.toNat] _ _ _ _ hq this
   ·simp [Zb]at h
  ·simp [Zb]at h
 ·simp [Zb]at h
theorem Zpy{T:Nat}{x i:Operand}(p:Z3 P E)(L:RH B H w g ow)(hF:Fr w g F a.tmps)(D:o.op=.index T x i)
 (h:(ZN E nid o.op o.type (Zx F)).run H []=Ua ((v,patch),rd)):Zq B (Zp H patch) w g nid v ((execOp a.eval o).run P w):=by
 rw[D]at h;simp only[ZN,Zy]at h;obtain⟨T',j,h⟩:=h;have Q:=hF.eval x;have N:=hF.eval i;split at h
 ·rename_i m t xs k n e b;simp only[ZJ,Zy,Zf,Zb,ZP,Z6,Kj,Vc,Ve]at h;obtain⟨⟨rfl,Y⟩,y,G,⟨rfl,rfl⟩,_⟩:=h;obtain⟨s,l,C⟩:=Zc6 G;obtain⟨Et,R,J⟩:=ZcE p j;obtain⟨cs,W,M⟩:=GD (x:=.d (.arr m t) xs) (e▸Q) rfl (by simp);simp only[CV]at M;obtain⟨S,f,h7,K⟩:=M;rw[S]at C;obtain⟨c,U,u⟩:=K.get _ y l;obtain⟨s1,s2,_⟩:=RO U t.size (Rd.all_length K);obtain⟨z,A⟩:=Zcv (w:=w) (g:=g) (a:=.d t y) (t:=t) (by assumption) (by simp [AV.fits]) rfl;refine Zq.pure L ?_ (VR.of1 z);have O:=R0 (w:=w) (p.ty _ _ J) (cs:=cs) (pre:=(f.take n.toNat).flatten) (c:=c) (post:=(f.drop (n.toNat+1)).flatten) (by grind) (Rd.length t y c u) A
  rw[s2]at O;simp only[execOp,D,W,(b▸N).int,Vud,asIntOf,underlying,Vb,run_program,Va,R,Vd,s,C,and_self,if_true,(p.ty _ _ J).run_sizeOf,O]
 ·rename_i xs k n e b;simp only[ZJ,Zy,Zf,Zb,ZP,Z6,Kj,Vc]at h;obtain⟨rfl,y,G,⟨rfl,rfl⟩,_⟩:=h;obtain⟨s,l,C⟩:=Zc6 G
  have r:P.underlying T=Ua .string:=by
   have q:=(p.ty T _ j).shape
   cases r:P.underlying T with
   |none=>rw[r]at q;simp [Kd]at q
   |some d=>rw[r]at q;cases d<;>simp [Kd]at q;rfl
  refine Zq.pure (val:=.int .u8 y.toNat) L ?_ (Jj _ _)
  have V:(⟨xs.toArray⟩:ByteArray)[n.toNat]? =Ua y:=by
   have X:n.toNat<xs.length:=by omega
   have Z:xs[n.toNat]=y:=by grind
   rw[getElem?_pos (⟨xs.toArray⟩:ByteArray) n.toNat (by assumption)];congr 1
  simp only[execOp,D,(e▸Q).str,(b▸N).int,Vud,asIntOf,underlying,Vb,run_program,Va,r,Vd,s,if_true,V]
 ·simp [Zb]at h
end ops
end Tr
end
section
namespace Tr
open Go
theorem Ty.depth_pos(t:Ty):1<=t.dep:=by
 induction t with
 |prod a b _ d=>simp only[Ty.dep];omega
 |arr n t c=>simp only[Ty.dep];omega
 |sl t c=>simp only[Ty.dep];omega
 |_=>simp [Ty.dep]
section
variable {P:Program}{E:Ka}{w:World}{g:Gh}
theorem ZfL(l:List UInt8):(⟨l.toArray⟩:ByteArray).toList=l:=by rw[ByteArray.toList_eq]
theorem ZkZ{T f:Nat}{t:Ty}{e:Array Field}(h:Ji P E.ty T t)(k:P.underlying T=Ua (.struct e))(d:f<e.size):∃r,ZW t [f]=Ua r:=by
 have c:=h.shape;rw[k]at c
 cases t with
 |prod a b=>
  simp only[Kd,Ve,Vqb,Vcc]at c;have i:=c.1.1 f d;rw[Vfa d]at i
  cases j:ZW (.prod a b) [f] with
  |none=>simp [j]at i
  |some r=>exact⟨r,rfl⟩
 |unit=>
  simp only[Kd,Array.isEmpty_iff]at c;subst c
  simp at d
 |_=>simp [Kd]at c
theorem ZbS{t:Ty}{x:El t}{c:List Value}(h:Rd w g.I t x c):Ko w g (.d t x) (GQ t.agg c)/\(t.agg=Ud->∃v,c=[v]):=
 Zcv (a:=.d t x) (by simpa only[CV] using h) (by simp [AV.fits]) rfl
theorem Znh(hT:Z3 P E):∀(N:Nat) (t:Ty) (T:TypeId) (x y:El t) (vx vy:Value) (r:Bool) (d:Nat),sizeOf t<N->E.ty T=Ua t->t.dep<=d->eqEl t x y=Ua r->
 Ko w g (.d t x) vx->Ko w g (.d t y) vy->(Op.equalIn d T vx vy).run P w=.ok r w:=by
 intro N
 induction N with
 |zero=>intro t T x y vx vy r d h;omega
 |succ N ih=>
 intro t T x y vx vy r d hN ht hd c hx hy;obtain⟨d,rfl⟩:∃d',d=d' +1:=⟨d - 1,by have:=t.depth_pos;omega⟩;have s:=hT.ty T t ht
 cases t with
 |int k=>
  have l:P.underlying T=Ua (.int k):=by
   have j:=s.shape
   cases l:P.underlying T with
   |none=>rw[l]at j;simp [Kd]at j
   |some d=>rw[l]at j;cases d<;>simp [Kd]at j;rw[j]
  rw[(VR.of1 hx).int,(VR.of1 hy).int,run_equalIn_int w d T k k x y l];simp only[eqEl,ZB]at c
  subst c;rfl
 |bool=>
  have l:P.underlying T=Ua .bool:=by
   have j:=s.shape
   cases l:P.underlying T with
   |none=>rw[l]at j;simp [Kd]at j
   |some d=>rw[l]at j;cases d<;>simp [Kd]at j;rfl
  rw[(VR.of1 hx).bool,(VR.of1 hy).bool,run_equalIn_bool' w d T x y l];simp only[eqEl,ZB]at c
  subst c;rfl
 |str=>
  have l:P.underlying T=Ua .string:=by
   have j:=s.shape
   cases l:P.underlying T with
   |none=>rw[l]at j;simp [Kd]at j
   |some d=>rw[l]at j;cases d<;>simp [Kd]at j;rfl
  rw[(VR.of1 hx).str,(VR.of1 hy).str,run_equalIn_string w d T _ _ l,ZfL,ZfL];simp only[eqEl,ZB]at c;subst c;congr 1
  rw[Vwc];simp
 |sl t=>simp [eqEl]at c
 |ref=>simp [eqEl]at c
 |pt t=>simp [eqEl]at c
 |lk a b=>simp [eqEl]at c
 |pn t=>simp [eqEl]at c
 |arr n e=>
  obtain⟨Et,l,he⟩:=ZcE hT ht;obtain⟨xs,rfl,J⟩:=GD hx rfl (by simp);obtain⟨X,rfl,K⟩:=GD hy rfl (by simp);simp only[CV]at J K;obtain⟨b8,a7,h1,h2⟩:=J;obtain⟨d0,a8,h3,h4⟩:=K;obtain⟨i,z,hi,b2,_⟩:=(hT.ty Et e he).info;have Y:P.cellsOf Et=e.size:=by simp [Program.cellsOf,hi,b2]
  rw[run_equalIn_array w d xs X l hi,Y];simp only[eqEl]at c
  have key:∀(m k:Nat) (Z ly:List (El e)) (cx G:List (List Value)) (L M:List Value) (r:Bool),m=Z.length->eqEl.eqs (eqEl e) Z ly=Ua r->Fa (Rd w g.I e) Z cx->Fa (Rd w g.I e) ly G->
   xs.toList=L++cx.flatten->X.toList=M++G.flatten->L.length=k*e.size->M.length=k*e.size->
   (Op.eqItems d Et e.size xs X (List.range' k m)).run P w=.ok r w:=by
   intro m
   induction m with
   |zero=>
    intro k Z ly cx G L M r hm W R S _ _ _ _;have:Z=[]:=List.length_eq_zero_iff.1 hm.symm;subst this
    cases ly with
    |nil=>simp only[eqEl.eqs,ZB]at W;subst W;rfl
    |cons _ _=>simp [eqEl.eqs]at W
   |succ m c8=>
    intro k Z ly cx G L M r hm W R S A C U V
    cases Z with
    |nil=>simp at hm
    |cons a Z=>
    cases ly with
    |nil=>simp [eqEl.eqs]at W
    |cons b ly=>
     simp only[eqEl.eqs,Vu]at W;obtain⟨p,hp,q,W,hr⟩:=W;simp only[ZB]at hr
     cases cx with
     |nil=>exact R.elim
     |cons ca cx=>
     cases G with
     |nil=>exact S.elim
     |cons cb G=>
      obtain⟨ha,R⟩:=R;obtain⟨hb,S⟩:=S;obtain⟨v1,v2⟩:=ZbS (g:=g) ha;obtain⟨u1,u2⟩:=ZbS (g:=g) hb;rw[Vob, <-Vea]at A C;have e1:=R0 (w:=w) (hT.ty Et e he) A (Rd.length e a ca ha) v2;have e2:=R0 (w:=w) (hT.ty Et e he) C (Rd.length e b cb hb) u2;rw[U]at e1;rw[V]at e2;have e3:=ih e Et a b _ _ p d (by simp at hN;omega) he (by simp [Ty.dep]at hd;omega) hp v1 u1;simp only[Vqc,Op.eqItems,Vb,e1,e2,e3,Va,Vrc,Vd]
      cases p with
      |false=>simp at hr;subst hr;rfl
      |true=>
       simp at hr;subst hr
       have:=c8 (k+1) Z ly cx G (L++ca) (M++cb) q (by simp at hm;omega) W R S A C
        (by rw[Vn,U,Rd.length e a ca ha,Vma];omega) (by rw[Vn,V,Rd.length e b cb hb,Vma];omega)
       simpa using this
  rw[List.range_eq_range']
  exact key n 0 x y a7 a8 [] [] r b8.symm c h2 h4 h1 h3 (by simp) (by simp)
 |unit=>
  obtain⟨xs,rfl,J⟩:=GD hx rfl (by simp);obtain⟨X,rfl,K⟩:=GD hy rfl (by simp);have j:=s.shape
  cases l:P.underlying T with
  |none=>rw[l]at j;simp [Kd]at j
  |some dd=>
   rw[l]at j
   cases dd<;>simp [Kd]at j
   have O:P.fieldsOf T= #[]:=by simp [Program.fieldsOf,l,j]
   rw[run_equalIn_struct w d T xs X (by rw[O,l,j]) s.stood,O];simp only[eqEl,ZB]at c
   subst c;rfl
 |prod a0 b0=>
  obtain⟨xs,rfl,J⟩:=GD hx rfl (by simp);obtain⟨X,rfl,K⟩:=GD hy rfl (by simp);simp only[CV]at J K;have j:=s.shape
  cases l:P.underlying T with
  |none=>rw[l]at j;simp [Kd]at j
  |some dd=>
   rw[l]at j
   cases dd with
   |struct fs=>
    have O:P.fieldsOf T=fs:=by simp [Program.fieldsOf,l]
    rw[run_equalIn_struct w d T xs X (by rw[O,l]) s.stood,O];have b6:b0.chain=true:=by simp only[Kd,Ve]at j;exact j.2
    have key:∀(u:Ty) (k base:Nat) (x y:El u) (L cx M G:List Value) (r:Bool),sizeOf u<=sizeOf (Ty.prod a0 b0)->u.chain=Uc->u.dep<=d+1->(∀f,ZW (.prod a0 b0) [k+f]=(ZW u [f]).map fun q=>(q.1+base,q.2))->
     xs.toList=L++cx->X.toList=M++G->L.length=base->M.length=base->Rd w g.I u x cx->Rd w g.I u y G->eqEl u x y=Ua r->
     (Op.eqFields d xs X (fs.toList.drop k)).run P w=.ok r w:=by
     intro u
     induction u with
     |unit=>
      intro k base x y L cx M G r _ _ _ D _ _ _ _ _ _ c
      have hk:fs.size<=k:=by
       rcases Vvb k fs.size with h|h
       ·obtain⟨r,hr⟩:=ZkZ s l h;have:=D 0;rw[Vta,hr]at this;simp [ZW]at this
       ·exact h
      rw[Vxa (by simpa using hk)];simp only[eqEl,ZB]at c
      subst c;rfl
     |prod a b _ c7=>
      intro k base x y L cx M G r b4 hc a1 D A C U V b9 c4 c;obtain⟨c1,c2,rfl,a5,c5⟩:=b9;obtain⟨e1,e2,rfl,a6,c6⟩:=c4;obtain⟨p,q,hp,W,rfl⟩:=ZkI c
      have h0:ZW (.prod a0 b0) [k]=Ua (base,a):=by have:=D 0;rw[Vta]at this;rw[this];simp only[ZW,Wg,Vl,Vp]
      obtain⟨c9,fd,b5,a9,b1,Q,a3⟩:=ZeN s h0 (by intro n e;simp);rw[l]at b5;cases b5;have b3:k<fs.size:=(Vkb.1 a9).1
      have a2:fs.toList.drop k=fd::fs.toList.drop (k+1):=by rw[Vqa (by simpa using b3)];congr 1;have:=(Vkb.1 a9).2;simpa using this
      obtain⟨v1,v2⟩:=ZbS (g:=g) a5;obtain⟨u1,u2⟩:=ZbS (g:=g) a6;rw[<-Vea]at A C;have r1:=R0 (w:=w) (hT.ty _ _ Q) A (Rd.length a _ c1 a5) v2;have r2:=R0 (w:=w) (hT.ty _ _ Q) C (Rd.length a _ e1 a6) u2;have a4:fd.offset=base:=b1;rw[U]at r1;rw[V]at r2;have r3:=ih a fd.type x.1 y.1 _ _ p d (by simp at hN b4;omega) Q (by simp only[Ty.dep]at a1;omega) hp v1 u1;rw[a2];simp only[Op.eqFields,a3,ne_eq,not_false_eq_true,if_true,a4,Vb,r1,r2,r3,Va,Vrc,Vd]
      cases p with
      |false=>rfl
      |true=>
       have:=c7 (k+1) (base+a.size) x.2 y.2 (L++c1) c2 (M++e1) e2 q (by simp at b4⊢;omega) hc (by simp only[Ty.dep]at a1;omega)
        (fun f=>by have:=D (f+1);rw[show k+1+f=k+(f+1) by omega,this];simp only[ZW,Vcd];congr 1;funext z;simp only[Function.comp];congr 1;omega) A C (by rw[Vn,U,Rd.length a _ c1 a5]) (by rw[Vn,V,Rd.length a _ e1 a6]) c5 c6 W
       simpa using this
     |_=>intro k base x y L cx M G r _ hc;simp [Ty.chain]at hc
    have b7:(Ty.prod a0 b0).dep<=d+1:=hd
    exact key (.prod a0 b0) 0 0 x y [] xs.toList [] X.toList r (Vg _) b6 b7 (fun f=>by simp) rfl rfl rfl rfl J K c
   |_=>simp [Kd]at j
end
end Tr
end
section
namespace Tr
open Go
section
variable {P:Program}{E:Ka}{w:World}{g:Gh}
theorem Zr4{a b:Ty}{x y:El (.prod a b)}{p q:Bool}(c:eqEl a x.1 y.1=Ua p)(d:eqEl b x.2 y.2=Ua q):∃r,eqEl (.prod a b) x y=Ua r:=by
 cases b with
 |unit=>exact⟨p,c⟩
 |_=>
  refine⟨p&&q,?_⟩;show (eqEl a x.1 y.1).bind _=_
  grind
theorem Zr6{I:Nat->Prop} :∀(t:Ty) (x y:El t) (cx i:List Value),t.key=Uc->Rd w I t x cx->Rd w I t y i->∃r,eqEl t x y=Ua r:=by
 intro t
 induction t with
 |int k=>intro x y _ _ _ _ _;exact⟨_,rfl⟩
 |bool=>intro x y _ _ _ _ _;exact⟨_,rfl⟩
 |str=>intro x y _ _ _ _ _;exact⟨_,rfl⟩
 |unit=>intro x y _ _ _ _ _;exact⟨_,rfl⟩
 |sl t _=>intro x y _ _ h;simp [Ty.key]at h
 |ref=>intro x y _ _ h;simp [Ty.key]at h
 |pt t _=>intro x y _ _ h;simp [Ty.key]at h
 |lk a b _ _=>intro x y _ _ h;simp [Ty.key]at h
 |pn t _=>intro x y _ _ h;simp [Ty.key]at h
 |prod a b J K=>
  intro x y cx i c D G;obtain⟨S,T,_,M,j⟩:=D;obtain⟨U,V,_,N,s⟩:=G;simp only[Ty.key,Ve]at c;obtain⟨p,A⟩:=J _ _ _ _ c.1 M N;obtain⟨q,C⟩:=K _ _ _ _ c.2 j s
  exact Zr4 A C
 |arr n t R=>
  intro x y cx i c D G;obtain⟨M,e,_,j⟩:=D;obtain⟨N,f,_,s⟩:=G;simp only[Ty.key]at c
  have key:∀(l m:List (El t)) (cl d:List (List Value)),l.length=m.length->Fa (Rd w I t) l cl->Fa (Rd w I t) m d->∃r,eqEl.eqs (eqEl t) l m=Ua r:=by
   intro l
   induction l with
   |nil=>intro m _ _ h _ _;cases m<;>simp at h;exact⟨Uc,rfl⟩
   |cons a l L=>
    intro m cl d h u z
    cases m with
    |nil=>grind
    |cons b m=>
     cases cl with
     |nil=>exact u.elim
     |cons O cl=>
     cases d with
     |nil=>exact z.elim
     |cons Q d=>
     obtain⟨p,A⟩:=R a b O Q c u.1 z.1;obtain⟨q,C⟩:=L m cl d (by grind) u.2 z.2;exact⟨p&&q,by simp [eqEl.eqs,A,C]⟩
  exact key x y e f (by omega) j s
theorem Ztb{I:Nat->Prop} :∀(t:Ty) (x:El t) (cx f:List Value),t.key=Uc->Rd w I t x cx->Rd w I t x f->cx=f:=by
 intro t
 induction t with
 |int k=>intro x cx f _ c d;exact c.trans d.symm
 |bool=>intro x cx f _ c d;exact c.trans d.symm
 |str=>intro x cx f _ c d;exact c.trans d.symm
 |unit=>intro x cx f _ c d;exact c.trans d.symm
 |sl t _=>intro x _ _ h;simp [Ty.key]at h
 |ref=>intro x _ _ h;simp [Ty.key]at h
 |pt t _=>intro x _ _ h;simp [Ty.key]at h
 |lk a b _ _=>intro x _ _ h;simp [Ty.key]at h
 |pn t _=>intro x _ _ h;simp [Ty.key]at h
 |prod a b z A=>
  intro x cx f i c d;obtain⟨C,D,rfl,s,u⟩:=c;obtain⟨G,J,rfl,K,L⟩:=d;simp only[Ty.key,Ve]at i
  grind
 |arr n t y=>
  intro x cx f i c d;obtain⟨_,q,rfl,s⟩:=c;obtain⟨_,r,rfl,u⟩:=d;simp only[Ty.key]at i
  have key:∀(l:List (El t)) (cl e:List (List Value)),Fa (Rd w I t) l cl->Fa (Rd w I t) l e->cl=e:=by
   intro l
   induction l with
   |nil=>intro cl e c d;cases cl<;>cases e<;>simp [Fa]at c d⊢
   |cons a l j=>
    intro cl e c d
    cases cl with
    |nil=>exact c.elim
    |cons m cl=>
    cases e with
    |nil=>exact d.elim
    |cons p e=>rw[y a m p i c.1 d.1,j cl e c.2 d.2]
  grind
theorem ZhS{t:Ty}{x:El t}{v u:Value}(h:t.key=Uc)(e:Ko w g (.d t x) v)(f:Ko w g (.d t x) u):v=u:=by
 obtain⟨b,i⟩:=e;obtain⟨c,j⟩:=f;simp only[CV]at b c;have l:=Ztb t x _ _ h b c
 have k:Kf v=Kf u:=by
  grind
 cases v<;>cases u<;>simp_all [Vab,Kf]
theorem Zdz(Z:Z3 P E)(em:Bool):∀(N:Nat) (t:Ty) (T:TypeId) (x:El t) (v:Value) (n:Nat),sizeOf t<N->E.ty T=Ua t->t.key=Uc->t.dep<=n->Ko w g (.d t x) v->
 (Vz em n T v).run P w=.ok () w:=by
 intro N
 induction N with
 |zero=>omega
 |succ N ih=>
 intro t T x v n hN ht K hd V;obtain⟨n,rfl⟩:∃m,n=m+1:=⟨n - 1,by have:=t.depth_pos;omega⟩;have Q:=Z.ty T _ ht;have C:=Q.shape
 cases y:P.underlying T with
 |none=>rw[y]at C;cases t<;>simp [Kd]at C
 |some d=>
 rw[y]at C
 cases t with
 |sl t=>simp [Ty.key]at K
 |ref=>simp [Ty.key]at K
 |pt t=>simp [Ty.key]at K
 |lk a b=>simp [Ty.key]at K
 |pn t=>simp [Ty.key]at K
 |unit=>
  obtain⟨xs,rfl,l⟩:=GD V rfl (by simp)
  cases d<;>simp [Kd]at C
  subst C
  simp [Vz,underlying,y]
 |prod a0 X=>
  obtain⟨xs,rfl,l⟩:=GD V rfl (by simp);simp only[CV]at l
  cases d with
  |struct U=>
   have a2:X.chain=true:=by simp only[Kd,Ve]at C;grind
   simp only[Vz,underlying,Vb,run_program,Va,y,Vd];rw[<-Array.forIn_toList]
   have key:∀(u:Ty) (k base:Nat) (x:El u) (A cx:List Value),sizeOf u<=sizeOf (Ty.prod a0 X)->u.chain=Uc->u.key=Uc->u.dep<=n+1->(∀f,ZW (.prod a0 X) [k+f]=(ZW u [f]).map fun q=>(q.1+base,q.2))->
    xs.toList=A++cx->A.length=base->Rd w g.I u x cx->
    (forIn (U.toList.drop k) PUnit.unit fun(f:Field) __s=>(if f.name≠ "_" then do
      let __do_lift<-part f.type xs f.offset
      Vz em n f.type __do_lift
      pure (ForInStep.yield PUnit.unit)
      else pure (ForInStep.yield PUnit.unit):Sem (ForInStep PUnit))).run P w=.ok PUnit.unit w:=by
    intro u
    induction u with
    |unit=>
     intro k base x A cx _ _ _ _ j _ _ _
     have K:U.size<=k:=by
      rcases Vvb k U.size with h|h
      ·obtain⟨r,hr⟩:=ZkZ Q y h;have:=j 0;rw[Vta,hr]at this;simp [ZW]at this
      omega
     rw[Vxa (by omega)]
     rfl
    |prod a b _ a6=>
     intro k base x A cx b2 hc p G j c s a4;obtain⟨c1,c2,rfl,R,a5⟩:=a4;simp only[Ty.key,Ve]at p
     have h0:ZW (.prod a0 X) [k]=Ua (base,a):=by have:=j 0;rw[Vta]at this;rw[this];simp only[ZW,Wg,Vl,Vp]
     obtain⟨a9,fd,z,b1,a1,J,M⟩:=ZeN Q h0 (by simp);rw[y]at z;cases z;have a8:k<U.size:=by grind
     have L:U.toList.drop k=fd::U.toList.drop (k+1):=by
      rw[Vqa (by omega)]
      grind
     obtain⟨v1,v2⟩:=ZbS (g:=g) R;rw[<-Vea]at c;have r1:=R0 (w:=w) (Z.ty _ _ J) c (Rd.length a _ c1 R) v2;have O:fd.offset=base:=a1;rw[s]at r1;have r3:=ih a fd.type x.1 _ n (by grind) J p.1 (by simp only[Ty.dep]at G;omega) v1;rw[L];simp only[Vxc,M,ne_eq,not_false_eq_true,if_true,O,Vb,r1,r3,Va,Vd]
     have:=a6 (k+1) (base+a.size) x.2 (A++c1) c2 (by grind) hc p.2 (by simp only[Ty.dep]at G;omega)
      (fun f=>by
        have:=j (f+1);rw[show k+1+f=k+(f+1) by omega,this];simp only[ZW,Vcd];congr 1
        grind) c (by rw[Vn,s,Rd.length a _ c1 R]) a5
     omega
    |_=>intro k base x A cx _ hc;simp [Ty.chain]at hc
   have:=key (.prod a0 X) 0 0 x [] xs.toList (Vg _) a2 K hd (by simp) rfl rfl l
   simp_all
  |_=>simp [Kd]at C
 |arr m e=>
  obtain⟨S,z,he⟩:=ZcE Z ht;rw[y]at z;cases z;obtain⟨xs,rfl,l⟩:=GD V rfl (by simp);simp only[CV]at l;obtain⟨a3,Y,h1,h2⟩:=l;simp only[Vz,underlying,Vb,run_program,Va,y,Vd];simp only[Std.Legacy.Range.forIn_eq_forIn_range',Std.Legacy.Range.size,Nat.sub_zero,Nat.add_one_sub_one,Nat.div_one]
  have key:∀(m k:Nat) (W:List (El e)) (cx:List (List Value)) (A:List Value),m=W.length->Fa (Rd w g.I e) W cx->xs.toList=A++cx.flatten->A.length=k*e.size->
   (forIn (List.range' k m) PUnit.unit fun(i:Nat) __s=>(do
     let __do_lift<-Go.sizeOf S
     let __do_lift<-part S xs (i*__do_lift)
     Vz em n S __do_lift
     pure (ForInStep.yield PUnit.unit):Sem (ForInStep PUnit))).run P w=.ok PUnit.unit w:=by
   intro m
   induction m with
   |zero=>simp
   |succ m a7=>
    intro k W cx A hm D c s
    cases W with
    |nil=>grind
    |cons a W=>
    cases cx with
    |nil=>exact D.elim
    |cons ca cx=>
     obtain⟨ha,D⟩:=D;obtain⟨v1,v2⟩:=ZbS (g:=g) ha;rw[Vob, <-Vea]at c;have e1:=R0 (w:=w) (Z.ty S e he) c (Rd.length e a ca ha) v2;rw[s]at e1;have e3:=ih e S a _ n (by grind) he K (by simp [Ty.dep]at hd;omega) v1;simp only[Vqc,Vxc,Vb,(Z.ty S e he).run_sizeOf,e1,e3,Va,Vd];have:=a7 (k+1) W cx (A++ca) (by grind) D c (by rw[Vn,s,Rd.length e a ca ha,Vma];omega);omega
  have:=key m 0 x Y [] a3.symm h2 h1 (by simp)
  simp_all
 |int k=>
  cases d<;>simp [Kd]at C
  rw[(VR.of1 V).int]
  simp [Vz,underlying,y]
 |bool=>
  cases d<;>simp [Kd]at C
  rw[(VR.of1 V).bool]
  simp [Vz,underlying,y]
 |str=>
  cases d<;>simp [Kd]at C
  rw[(VR.of1 V).str];simp [Vz,underlying,y]
def Zf7{β:Type}(w:World)(g:Gh)(b:Ty)(m:List (El b×β))(es:List MapEntry):Prop:=Fa (fun kv (e:MapEntry)=>Ko w g (.d b kv.1) e.key) m es
def Zoz(w:World)(g:Gh)(b c:Ty)(m:List (El b×El c))(es:List MapEntry):Prop:=Fa (fun kv (e:MapEntry)=>Ko w g (.d b kv.1) e.key/\Ko w g (.d c kv.2) e.val) m es
theorem Zni(n:Z3 P E){K:TypeId}{b:Ty}{β:Type}(l:E.ty K=Ua b)(f:b.keyOk=Uc){x:El b}{v:Value}(h:Ko w g (.d b x) v):∀(m:List (El b×β)) (es:List MapEntry) (i:Nat),Zf7 w g b m es->
 (Vrb K v es i).run P w=.ok ((WY (Zm b) x m).map fun j=>(i+j,((es[j]?).map (·.val)).getD undef)) w
 |[],[],i,_=>rfl
 |kv::m,e::es,i,⟨k,s⟩=>by
  simp only[Ty.keyOk,Ve]at f;have c:b.dep<=10000:=by have:=Vh f.2;omega
  obtain⟨r,p⟩:=Zr6 b x kv.1 _ _ f.1 (by simpa only[CV] using h.1) (by simpa only[CV] using k.1);have q:=Znh (w:=w) (g:=g) n _ b K x kv.1 v e.key r 10000 (Via _) l c p h k;have t:Zm b x kv.1=r:=by simp [Zm,p]
  simp only[Vrb,Op.equal,Op.maxDepth,Vb,q,Va,Vrc,Vd,WY,t]
  cases r with
  |true=>simp
  |false=>
   simp only[Vy,if_false,Zd];rw[Zni n l (by simp [Ty.keyOk,f]) h m es (i+1) s]
   cases WY (Zm b) x m with
   |none=>rfl
   |some j=>grind
theorem ZdA(u:Z3 P E){K:TypeId}{c:Ty}{β:Type}(t:E.ty K=Ua c)(G:c.keyOk=Uc){x:El c}{v:Value}(n:Ko w g (.d c x) v)(m:List (El c×β))(es:List MapEntry)(h:Zf7 w g c m es):
 (Vid K v es).run P w=.ok ((WY (Zm c) x m).map fun j=>(j,((es[j]?).map (·.val)).getD undef)) w:=by
 obtain⟨d,z⟩:=(u.ty K c t).und;have s:=(u.ty K c t).shape;rw[z]at s;have p:=Zni u t G n m es 0 h;simp only[Vp]at p;simp only[Vid,underlying,Vb,run_program,Va,z,Vd]
 have now:∀(f:Value->Value->Option Bool) (_:∀e:MapEntry,Vec d v e.key=f v e.key) (m:List (El c×β)) (es:List MapEntry) (i:Nat),Zf7 w g c m es->
  (∀kv e,Ko w g (.d c kv) e->f v e=Ua (Zm c x kv))->Vpb d v es i=Ua ((WY (Zm c) x m).map fun j=>(i+j,((es[j]?).map (·.val)).getD undef)):=by
  intro f D m
  induction m with
  |nil=>intro es i h _;cases es with
   |nil=>rfl
   |cons _ _=>exact h.elim
  |cons kv m L=>
   intro es i h l
   cases es with
   |nil=>exact h.elim
   |cons e es=>
    obtain⟨A,C⟩:=h;simp only[Vpb,D e,l kv.1 e.key A,WY]
    cases Zm c x kv.1 with
    |true=>simp
    |false=>
     simp only[Zd,L es (i+1) C l]
     cases WY (Zm c) x m with
     |none=>rfl
     |some j=>grind
 have other:(∀e:MapEntry,e∈es->Vec d v e.key=Ub)->(match Vpb d v es 0 with|some r=>pure r|none=>Vrb K v es:Sem _).run P w=
  .ok ((WY (Zm c) x m).map fun j=>(j,((es[j]?).map (·.val)).getD undef)) w:=by
  intro J
  cases es with
  |nil=>
   assumption
  |cons e es=>
   simp only[Vpb,J e (by simp)];omega
 cases c with
 |int k=>
  cases d<;>simp [Kd]at s
  have y:=now (fun a b=>match a,b with|.int k a,.int M b=>if k=M then Ua (a==b) else Ub|_,_=>Ub) (fun e=>by rw[(VR.of1 n).int];cases e.key<;>rfl) m es 0 h (fun kv e q=>by rw[(VR.of1 n).int,(VR.of1 q).int];simp only[if_true,Zm,eqEl,Vca];rfl)
  simp_all
 |bool=>
  cases d<;>simp [Kd]at s
  have y:=now (fun a b=>match a,b with|.bool a,.bool b=>Ua (a==b) |_,_=>Ub) (fun e=>by rw[(VR.of1 n).bool];cases e.key<;>rfl) m es 0 h (fun kv e q=>by rw[(VR.of1 n).bool,(VR.of1 q).bool];rfl)
  simp_all
 |str=>
  cases d<;>simp [Kd]at s
  have y:=now (fun a b=>match a,b with|.string a,.string b=>Ua (a==b) |_,_=>Ub) (fun e=>by rw[(VR.of1 n).str];cases e.key<;>rfl) m es 0 h (fun kv e q=>by rw[(VR.of1 n).str,(VR.of1 q).str];simp only[Zm,eqEl,Vca,beq_toListBytes,ZfL];grind)
  simp_all
 |_=>
  refine other fun e _=>?_
  cases d<;>simp [Kd]at s<;>simp [Vec]
end
end Tr
end
section
namespace Tr
open Go
section ops
variable {P:Program}{E:Ka}{B:Z1}{H:AH}{w:World}{g:Gh}{ow:Nat->Nat->Prop}{nid:Nat}{a:Act}{F:Nat->AV}{v:AV}{patch:Kx}{rd:List Nat}{o:Oper}
theorem Znm{T K V:TypeId}{r:Option Operand}(hF:Fr w g F a.tmps)(f:P.underlying T=Ua (.map K V))(c:(match r with|none=>Uc|some x=>(KR (Zx F x)).isSome)=Uc)(d:o.op=.makeMap T r):
 (execOp a.eval o).run P w=.ok (.value (.map (Ua w.heap.size))) (w.alloc (.map #[] 0)):=by
 cases r with
 |none=>simp only[execOp,d,Vb,Vjd,Vm,Vd,Va,run_newObj];rfl
 |some x=>
  have e:=hF.eval x;simp only at c
  cases b:Zx F x<;>rw[b]at c<;>simp [KR]at c
  rename_i t y
  cases t<;>simp at c
  rw[b]at e;simp only[execOp,d,Vb,Vjd,Vl,underlying,run_program,f,Vd,Va,e.int,asInt,asIntOf,run_newObj];rfl
theorem ZpD{T:TypeId}{r:Option Operand}(n:Z3 P E)(f:RH B H w g ow)(hF:Fr w g F a.tmps)(j:∀id,g.K id->id<nid\/nid+Wr<=id)(c:o.op=.makeMap T r)
 (h:(ZN E nid o.op o.type (Zx F)).run H []=Ua ((v,patch),rd)):Zq B (Zp H patch) w g nid v ((execOp a.eval o).run P w):=by
 rw[c]at h;simp only[ZN,Zy,ZJ]at h;obtain⟨m,p,h⟩:=h;obtain⟨K,V,l,q,s⟩:=n.mty T m p;rcases h with ⟨_,h⟩|⟨_,h⟩
 ·split at h
  ·rename_i u t;simp only[ZJ,Zf,Zb,ZP,Z6,Vc,Ve]at h;obtain⟨⟨b,d⟩,⟨rfl,rfl⟩,_⟩:=h;refine Zq.new (t:=.sl t) (sv:=undef) f j (val:=.map (Ua w.heap.size)) (o:=.map #[] 0) (Znm hF l d c) ?_ ?_
   ·refine⟨by simp [Gh.add],by simp [Gh.add],⟨by simp,by simp,by simp⟩,by simp,fun k _=>by simp [Gh.add],w.heap.size, #[],0,by simp [Gh.add],rfl,G7 _ _,⟨rfl,fun i e h=>by simp at h⟩,trivial⟩
   ·refine KK ?_ rfl rfl;simp only[CV];exact⟨.inl rfl,w.heap.size,by simp [Gh.add],rfl⟩
  ·simp [Zb]at h
 simp only[Zf,Zb,ZP,Z6,Vc,Ve]at h;obtain⟨⟨b,d⟩,⟨rfl,rfl⟩,_⟩:=h;refine Zq.new (t:=.unit) (sv:=undef) f j (val:=.map (Ua w.heap.size)) (o:=.map #[] 0) (Znm hF l d c) ?_ ?_
 ·exact⟨w.heap.size, #[],0,by simp [Gh.add],rfl,G7 _ _,Bn.empty 0,trivial⟩
 ·refine KK ?_ rfl rfl;simp only[CV];exact⟨.inl rfl,w.heap.size,by simp [Gh.add],rfl⟩
theorem ZpB{T:TypeId}{m k:Operand}{ok:Bool}(D:Z3 P E)(hR:RH B H w g ow)(hF:Fr w g F a.tmps)(ho:o.op=.lookup T m k ok)
 (h:(ZN E nid o.op o.type (Zx F)).run H []=Ua ((v,patch),rd)):Zq B (Zp H patch) w g nid v ((execOp a.eval o).run P w):=by
 rw[ho]at h;simp only[ZN,Zy]at h;obtain⟨mt,Z,h⟩:=h;obtain⟨K,V,hu,O,hV⟩:=D.mty T mt Z;have hm:=hF.eval m;have A:=hF.eval k;split at h
 ·rename_i id l x W U;rw[ZX]at h;split at h
  ·rename_i a8 vt es hH;simp only[ZJ,Zy,Zf,Zb,ZP,Z6,Ve,Kj,Vc]at h;obtain⟨⟨⟨⟨c,rfl⟩,rfl⟩,R⟩,y,hy,⟨rfl,rfl⟩,_⟩:=h;obtain⟨rfl,rfl⟩:=KE hy;obtain⟨a4,b,hb,hv⟩:=(W▸hm).mp;obtain⟨_,b',n,clock,p,hJ,hh,b0,r⟩:=hR.objs id _ hH;rw[hb]at p;cases p;rw[U]at A;have s:Ko w g (.d mt.1 y) (a.eval k):=A
   have q:=Zdz (w:=w) D n.isEmpty _ mt.1 K y (a.eval k) 10000 (Via _) O (by simp only[Ty.keyOk,Ve]at c;grind) (by simp only[Ty.keyOk,Ve]at c;have:=Vh c.2;omega) s
   have f:=ZdA D O c s es n.toList (r.mono (by grind));have i:(getObj b).run P w=.ok (.map n clock) w:=by simp only[getObj,Veb,hh]
   obtain⟨z,hz,a7⟩:=(D.ty V mt.2 hV).run_zero w;have a1:=(a7 w g).1;have a1:=ZwW R a1
   have L:∃u,(Vua T (a.eval m) (a.eval k) ok).run P w=.ok (if ok then .tuple #[u,.bool (ZT (Zm mt.1) y es).isSome] else u) w/\Ko w g (.d mt.2 ((ZT (Zm mt.1) y es).getD (zeroEl mt.2))) u:=by
    rw[DL]
    cases C:WY (Zm mt.1) y es with
    |none=>
     rw[C]at f;refine⟨z,?_,by grind⟩;simp only[Vua,underlying,Vb,run_program,Va,hu,Vd,hv,i,q,f,Vm,hz]
     rfl
    |some j=>
     rw[C]at f;obtain⟨e,S,_⟩:=Rw _ _ _ _ C;obtain⟨me,M,h1,h2⟩:=r.get j e S;refine⟨me.val,?_,by grind⟩;simp only[Vua,underlying,Vb,run_program,Va,hu,Vd,hv,i,q,f,Vl,M,Vca,Za,S];rfl
   obtain⟨u,G,J⟩:=L
   refine Zq.pure (val:=if ok then .tuple #[u,.bool (ZT (Zm mt.1) y es).isSome] else u) hR ?_ ?_
   ·simp only[execOp,ho,Vb,G,Va,Vd]
   ·cases ok with
    |true=>exact⟨[u,.bool _],rfl,u,_,rfl,J,.bool _,[],rfl,JW _,rfl⟩
    |false=>assumption
  ·rename_i a8 t es u0 hH;simp only[ZJ,Zy,Zf,Zb,ZP,Z6,Ve,Kj,Vc]at h;obtain⟨⟨⟨c,X⟩,Y⟩,y,hy,⟨rfl,rfl⟩,_⟩:=h;obtain⟨rfl,rfl⟩:=KE hy;obtain⟨a4,b,hb,hv⟩:=(W▸hm).mp;obtain⟨_,b4,a9,a5,b3,Q,b',n,clock,p,hJ,hh,b1,r⟩:=hR.objs id _ hH;rw[hb]at p;cases p;rw[U]at A;have s:Ko w g (.d l y) (a.eval k):=A;rw[X]at O;rw[Y]at hV
   have q:=Zdz (w:=w) D n.isEmpty _ l K y (a.eval k) 10000 (Via _) O (DY c) (by simp only[Ty.keyOk,Ve]at c;have:=Vh c.2;omega) s
   have f:=ZdA D O c s es n.toList (r.mono (by grind));have i:(getObj b).run P w=.ok (.map n clock) w:=by simp only[getObj,Veb,hh]
   have hz:=Zf4 (D.ty V (.sl t) hV) w
   have L:(Vua T (a.eval m) (a.eval k) ok).run P w=.ok (if ok then .tuple #[g.row id l y,.bool (ZT (Zm l) y es).isSome] else g.row id l y) w/\(g.row id l y).oneCell'=Uc/\Kf (g.row id l y)=false:=by
    rw[DL]
    cases C:WY (Zm l) y es with
    |none=>
     rw[C]at f;have a0:g.row id l y=.slice Ub 0 0:=Q y (Zbi (DY c) (by rw[DL,C];rfl));rw[a0];refine⟨?_,rfl,rfl⟩;simp only[Vua,underlying,Vb,run_program,Va,hu,Vd,hv,i,q,f,Vm,hz]
     rfl
    |some j=>
     rw[C]at f;obtain⟨e,S,a3⟩:=Rw _ _ _ _ C;have a2:=(JO (DY c)).1 a3;obtain⟨me,M,h1,h2⟩:=r.get j e S;rw[<-a2]at h2;have a6:=(a5.rd y e.2 (by grind) (by simp)).one;refine⟨?_,a6⟩;simp only[Vua,underlying,Vb,run_program,Va,hu,Vd,hv,i,q,f,Vl,M,Vca,Za,S,h2];rfl
   obtain⟨G,J,b2⟩:=L;have N:Ko w g (.nw id u0 l y) (g.row id l y):=VR.to1 (KK (a:=.nw id u0 l y) (by simp only[CV];grind) J rfl) (by simp)
   refine Zq.pure (val:=if ok then .tuple #[g.row id l y,.bool (ZT (Zm l) y es).isSome] else g.row id l y) hR ?_ ?_
   ·simp only[execOp,ho,Vb,G,Va,Vd]
   ·cases ok with
    |true=>exact⟨[g.row id l y,.bool _],rfl,g.row id l y,_,rfl,N,.bool _,[],rfl,JW _,rfl⟩
    |false=>assumption
  ·simp [Zb]at h
 ·simp [Zb]at h
theorem Zis(v:Value):∃w',(Vhc v v).run P w=.ok v w' /\Jh w w' :=by
 unfold Vhc
 cases Instr.sameBits 10000 v v with
 |true=>exact⟨w,rfl,.refl w⟩
 |false=>
  refine⟨{w with drawn:=w.drawn+1},?_,⟨rfl,rfl,rfl,⟨rfl,by simp⟩⟩⟩;simp only[Vy,if_false,Vb,run_choose,Question.forced,Vd,ite_self];rfl
theorem Ix.push{es:Array MapEntry}{clock:Nat}(h:Ix es clock){e:MapEntry}(f:e.born=clock):Ix (es.push e) (clock+1):=by
 obtain⟨c,d⟩:=h;refine⟨by simp [c],fun i x b=>?_⟩;rw[Array.getElem?_push]at b;split at b
 ·cases b;omega
 ·exact d i x b
theorem Ix.modify{es:Array MapEntry}{clock:Nat}(h:Ix es clock){i:Nat}{f:MapEntry->MapEntry}(k:∀e,(f e).born=e.born):Ix (es.modify i f) clock:=by
 obtain⟨d,c⟩:=h;refine⟨by simp [d],fun j x b=>?_⟩;rw[Array.getElem?_modify]at b;split at b
 ·obtain⟨y,l,rfl⟩:=Vr.1 b;rw[k];exact c j y l
 ·exact c j x b
def YE(g:Gh)(id:Nat)(c:Ty)(y:El c)(v:Value):(b:Ty)->El b->Value:=fun b k=>if h:b=c then(if Zm c (h▸k) y then v else g.row id b k) else g.row id b k
theorem Zip{id:Nat}{b:Ty}{y:El b}{v:Value}(c:b.key=Uc)(k:El b)(d:k≠y):YE g id b y v b k=g.row id b k:=by
 have:Zm b k y=false:=by
  cases e:Zm b k y
  ·rfl
  ·exact absurd ((JO c).1 e) d
 unfold YE
 grind
theorem Zio{id:Nat}{c:Ty}{y:El c}{v:Value}(b:c.key=Uc):YE g id c y v c y=v:=by simp [YE,(JO b).2 rfl]
theorem Zl1{i t:Ty}{es:List (El i×List (El t))}{u id b clock:Nat}{hole:Option (El i)}{y:El i}{ys:List (El t)}{ids:List Nat}{b3:Array MapEntry}{N:Value}{w1:World}{es' :Array MapEntry}{c' :Nat}{r:Result Next}(O:RH B H w g ow)(f:i.key=Uc)(a5:g.K id)(n:H id≠Ub)(b1:g.ty id=.sl t)(b5:g.ver id=u)(b8:u+1<=nid)
 (a0:RF w g.I (ow id) t (g.blk id) (g.row id i) (fun k x=>(k,x)∈es) hole) (Z:(es.map Vka).Nodup) (W:∀k,k ∉ es.map Vka->g.row id i k=.slice Ub 0 0) (hb:g.blk id=Ua b) (hJ:ow id b) (hh:w.heap[b]? =Ua (.map b3 clock)) (S:hole=Ub\/hole=Ua y) (X:id ∉ ids)
 (D:Wp w g.I (ZL H ow ids) t ys N) (hs:Jh w w1) (hr:r=.ok .skip {w1 with heap:=w1.heap.setIfInBounds b (.map es' c')}) (Y:Ix es' c')
 (R:∀w2,Km g.I w w2->Fa (fun kv (e:MapEntry)=>Ko w2 g (.d i kv.1) e.key/\e.val=YE g id i y N i kv.1) (Kn (Zm i) y ys es) es'.toList):
 Zq B (Zp H (ids.map (fun id=>(id,Ub))++[(id,Ua (.mrows i t (Kn (Zm i) y ys es) nid Ub))])) w g nid .junk r:=by
 have s:∀k,Zp H (ids.map fun id=>(id,Ub)) k≠Ub->k ∉ ids/\H k≠none:=by
  intro k A;rw[DU]at A
  grind
 have a6:∀l,ZL H ow ids l->¬ow id l:=fun l ⟨k,T,L,U⟩ V=>X (O.dist id k l n L V U▸T);have C:∀k,k≠y->YE g id i y N i k=g.row id i k:=fun k A=>Zip f k A;have G:YE g id i y N i y=N:=Zio f;have a2:RH B (Zp H (ids.map fun id=>(id,Ub))) w1 g ow:=(O.drops ids).same hs
 have m:∀k,k≠b->({w1 with heap:=w1.heap.setIfInBounds b (.map es' c')} :World).heap[k]? =w1.heap[k]? :=by
  grind
 have b4:=O.sep id b n hJ
 have M:Km g.I w {w1 with heap:=w1.heap.setIfInBounds b (.map es' c')} :=fun k A=>by rw[m k (by grind),hs.heap]
 have a1:∀k,k≠b->({w1 with heap:=w1.heap.setIfInBounds b (.map es' c')} :World).heap[k]? =w.heap[k]? :=fun k A=>by rw[m k A,hs.heap]
 have a4:∀{J:Nat->Prop}{x:List (El t)}{hd:Value},Wp w g.I J t x hd->∀l,Wi hd=Ua l->l≠b:=by
  intro J x hd a9 l c e;subst e;rcases a9 with ⟨_,rfl⟩|⟨b2,cap,cells,e,b6,rfl,_,U,_⟩
  ·simp [Wi]at c
  ·simp only[Wi,ZB]at c
   grind
 rw[Xj];refine⟨undef, {w1 with heap:=w1.heap.setIfInBounds b (.map es' c')},g.bump id nid (YE g id i y N),Xd ow id (fun l=>ow id l\/ZL H ow ids l),.inr ⟨hr,rfl⟩,?_,Gh.le_bump (by omega),M,HB,fun _ h=>.inl h⟩;refine a2.bump (id:=id) (v:=nid) a5 (by omega) (fun l c=>?_) (by simp) rfl rfl ⟨rfl,Vg _⟩ (fun l T L=>m l fun e=>?_) (fun l c=>?_) ?_
 ·rcases c with c|⟨k,A,T,L⟩
  ·grind
  ·refine m l fun e=>A ?_;subst e;exact(O.dist id k l n (s k T).2 hJ L).symm
 ·grind
 ·have b0:({w1 with heap:=w1.heap.setIfInBounds b (.map es' c')} :World).heap.size=w.heap.size:=by show (w1.heap.setIfInBounds b _).size=_;rw[<-hs.heap];simp
  rw[b0];rcases c with c|⟨k,T,L,U⟩
  ·obtain⟨p,q,r⟩:=O.sep id l n c;exact⟨p,q,r,fun k A V h5=>A (O.dist k id l (s k V).2 n h5 c)⟩
  ·obtain⟨p,q,r⟩:=O.sep k l L U;refine⟨p,q,r,fun k' A V h5=>(s k' V).1 ?_⟩;have:=O.dist k' k l (by grind) L h5 U
   grind
 ·have z:(g.bump id nid (YE g id i y N)).row id i=YE g id i y N i:=by show (if id=id then YE g id i y N else g.row id) i=_;simp
  refine⟨b1,Zv rfl,?_,Zgv f Z,fun q hq=>?_,b,es',c',hb,.inl hJ,?_,Y,?_⟩
  ·rw[z];refine a0.put (k0:=y) (x0:=ys) C (fun j x Q=>Ze8 f Z Q) S ?_ (fun j x Q hj hr=>?_) fun l c=>?_
   ·rw[G];exact D.mono M (by simp) (by grind) (by grind)
   ·exact hr.mono M (by simp) (by grind) (by grind)
   ·rw[G]at c;have a8:=D.own c;refine⟨fun j x Q hj a3=>a6 l a8 ?_,by grind⟩;have a7:hole≠Ua j:=by grind
    exact(a0.rd j x Q a7).own a3
  ·rw[z]
   have b7:y∈(Kn (Zm i) y ys es).map Vka:=by
    by_cases h:y∈es.map Vka
    ·rw[(Ry f).1 h];exact h
    ·rw[(Ry f).2 h];simp
   rw[C q (by grind)];refine W q fun h=>hq ?_;by_cases L:y∈es.map Vka
   ·rw[(Ry f).1 L];exact h
   ·rw[(Ry f).2 L,Vyc];grind
  ·show (w1.heap.setIfInBounds b _)[b]? =_;rw[Vfb,Zv rfl,Zv (by rw[hs.heap];omega)]
  ·rw[z];exact(R _ M).mono fun kv e Q=>⟨⟨by have:=Q.1.1;assumption,Q.1.2⟩,Q.2⟩
theorem ZpF{T:TypeId}{m k x:Operand}(hT:Z3 P E)(hR:RH B H w g ow)(hF:Fr w g F a.tmps)(ho:o.op=.mapUpdate T m k x)
 (h:(ZN E nid o.op o.type (Zx F)).run H []=Ua ((v,patch),rd)):Zq B (Zp H patch) w g nid v ((execOp a.eval o).run P w):=by
 rw[ho]at h;simp only[ZN,Zy]at h;obtain⟨mt,c4,h⟩:=h;obtain⟨K,V,hu,hK,hV⟩:=hT.mty T mt c4;have hm:=hF.eval m;have a0:=hF.eval k;have b0:=hF.eval x;split at h
 ·rename_i id J y0 vt z0 a5 a3 a9;rw[ZX]at h;split at h
  ·rename_i d6 e3 es hH;simp only[ZJ,Zy,Zf,Zb,ZP,Z6,Ve,Kj,Vc]at h;obtain⟨⟨f,rfl⟩,y,hy,u,d5,⟨rfl,rfl⟩,_⟩:=h;obtain⟨rfl,rfl⟩:=KE hy;obtain⟨rfl,rfl⟩:=KE d5;obtain⟨b4,b,hb,hv⟩:=(a5▸hm).mp;obtain⟨_,b',c,clock,Q,hJ,hh,b2,s⟩:=hR.objs id _ hH;rw[hb]at Q;cases Q;rw[a3]at a0;rw[a9]at b0;have z:Ko w g (.d mt.1 y) (a.eval k):=a0;have c7:Ko w g (.d vt u) (a.eval x):=b0
   have R:=Zdz (w:=w) hT Ud _ mt.1 K y (a.eval k) 10000 (Via _) hK (by simp only[Ty.keyOk,Ve]at f;grind) (by simp only[Ty.keyOk,Ve]at f;have:=Vh f.2;omega) z
   have D:=ZdA hT hK f z es c.toList (s.mono (by grind));have G:(getObj b).run P w=.ok (.map c clock) w:=by simp only[getObj,Veb,hh]
   have fin:∀(q:World) (i:Array MapEntry) (O:Nat),Jh w q->(Vla T (a.eval m) (a.eval k) (a.eval x)).run P w=.ok () {q with heap:=q.heap.setIfInBounds b (.map i O)} ->Bn i O->
    Zoz w g mt.1 vt (Kn (Zm mt.1) y u es) i.toList->Zq B (Zp H [(id,Ua (.map mt.1 vt (Kn (Zm mt.1) y u es)))]) w g nid .junk ((execOp a.eval o).run P w):=by
    intro q i O hs Z b3 L;have c8:=hR.same hs
    have S:∀k,k≠b->({q with heap:=q.heap.setIfInBounds b (.map i O)} :World).heap[k]? =q.heap[k]? :=by
     grind
    have e1:=hR.sep id b (by grind) hJ
    have C:Km g.I w {q with heap:=q.heap.setIfInBounds b (.map i O)} :=fun k hk=>by rw[S k (by grind),hs.heap]
    have d7:Km g.I q {q with heap:=q.heap.setIfInBounds b (.map i O)} :=fun k hk=>by grind
    refine⟨undef,_,g,ow,.inr ⟨?_,rfl⟩,c8.write (by grind) hJ S (by simp) rfl rfl ⟨rfl,Vg _⟩ ?_,.refl g,C,HB,by grind⟩
    ·simp only[execOp,ho,Vb,Z,Va,Vd]
    ·refine⟨b,i,O,hb,hJ,?_,b3,L.mono fun p e hp=>⟨hp.1.mono C (.refl g),hp.2.mono C (.refl g)⟩⟩;show (q.heap.setIfInBounds b _)[b]? =_;rw[Vfb,Zv rfl,Zv (by rw[hs.heap];omega)]
   cases N:WY (Zm mt.1) y es with
   |none=>
    rw[N]at D;refine fin w (c.push {key:=a.eval k,val:=a.eval x,born:=clock}) (clock+1) (.refl w) ?_ (b2.push rfl) ?_
    ·simp only[Vla,underlying,Vb,run_program,Va,hu,Vd,hv,G,R,D,Vm];simp only[setObj,Veb,hh]
    ·rw[Rx,N,Vjc]
     exact s.append ⟨⟨z,c7⟩,trivial⟩
   |some j=>
    rw[N]at D;obtain⟨e,he,M⟩:=Rw _ _ _ _ N;obtain⟨me,d1,h1,h2⟩:=s.get j e he
    have U:y=e.1:=by
     unfold Zm at M
     cases hq:eqEl mt.1 y e.1 with
     |none=>grind
     |some r=>rw[hq]at M;simp at M;subst M;exact ZkJ _ _ _ hq
    have W:me.key=a.eval k:=ZhS (t:=mt.1) (x:=y) (by simp only[Ty.keyOk,Ve]at f;grind) (U▸h1) z;obtain⟨q,a8,hs⟩:=Zis (P:=P) (w:=w) (a.eval k);have X:c[j]? =Ua me:=by grind
    refine fin q (c.modify j fun e=>{e with key:=a.eval k,val:=a.eval x}) clock hs ?_ (b2.same ?_) ?_
    ·simp only[Vla,underlying,Vb,run_program,Va,hu,Vd,hv,G,R,D,Vl,X,W,Vca,a8];have a1:q.heap[b]? =Ua (.map c clock):=by rw[hs.heap];omega
     simp only[setObj,Veb,a1]
    ·apply Vda
     grind
    ·rw[Rx,N]
     have:(c.modify j fun e=>{e with key:=a.eval k,val:=a.eval x}).toList=c.toList.set j {me with key:=a.eval k,val:=a.eval x} :=by
      apply Vda
      grind
     rw[this];exact s.set j ⟨z,c7⟩
  ·simp [Zb]at h
 ·rename_i id J y0 i2 a5 a3 a9;rw[ZX]at h;split at h
  ·rename_i d6 t es u Y hH;simp only[ZJ,Zy,Z0,Zf,Zb,ZP,Z6,Ve,Kj,Vc]at h;obtain⟨⟨⟨⟨f,c2⟩,d9⟩,a4⟩,y,hy,_,c9,⟨ys,ids⟩,m2,A,⟨rfl,rfl⟩,_⟩:=h;obtain⟨rfl,rfl⟩:=KE hy;have a4:=Vh a4;obtain⟨b4,b,hb,hv⟩:=(a5▸hm).mp;have b5:H id≠none:=by grind
   obtain⟨_,d4,c6,d2,c5,b1,b',c,clock,Q,hJ,hh,b7,s⟩:=hR.objs id _ hH;rw[hb]at Q;cases Q;rw[a3]at a0;have z:Ko w g (.d J y) (a.eval k):=a0;rw[c2]at hK;have l:=DY f;have a7:=Zdq hR (a9▸b0) A
   have R:=Zdz (w:=w) hT Ud _ J K y (a.eval k) 10000 (Via _) hK l (by simp only[Ty.keyOk,Ve]at f;have:=Vh f.2;omega) z
   have D:=ZdA hT hK f z es c.toList (s.mono (by grind));have G:(getObj b).run P w=.ok (.map c clock) w:=by simp only[getObj,Veb,hh]
   have a2:Y=Ub\/Y=Ua y:=by
    cases Y with
    |none=>simp
    |some j=>exact .inr (by rw[(JO l).1 (Yw c9)])
   have b6:id ∉ ids:=fun hm=>by
    simp only[Jq]at A;rw[ZX]at A;split at A
    ·rename_i c1;simp only[Zy,Zf,Vc]at A
     grind
    ·simp [Zb]at A
   have a6:∀k,k≠y->YE g id J y (a.eval x) J k=g.row id J k:=fun k hk=>Zip l k hk;have d3:YE g id J y (a.eval x) J y=a.eval x:=Zio l
   have fin:∀(q:World) (i:Array MapEntry) (O:Nat),Jh w q->(Vla T (a.eval m) (a.eval k) (a.eval x)).run P w=.ok () {q with heap:=q.heap.setIfInBounds b (.map i O)} ->Ix i O->
    (∀w2,Km g.I w w2->Fa (fun kv (e:MapEntry)=>Ko w2 g (.d J kv.1) e.key/\e.val=YE g id J y (a.eval x) J kv.1) (Kn (Zm J) y ys es) i.toList)->Zq B (Zp H (ids.map (fun id=>(id,Ub))++[(id,Ua (.mrows J t (Kn (Zm J) y ys es) nid Ub))])) w g nid .junk ((execOp a.eval o).run P w):=by
    intro q i O hs Z b8 L;exact Zl1 hR l b4 b5 d4 c6 a4 d2 c5 b1 hb hJ hh a2 b6 a7 hs (by simp only[execOp,ho,Vb,Z,Va,Vd]) b8 L
   have d8:∀w2,Km g.I w w2->Ko w2 g (.d J y) (a.eval k):=fun w2 C=>z.mono C (.refl g)
   cases N:WY (Zm J) y es with
   |none=>
    rw[N]at D;have e2:y ∉ es.map Vka:=Zbi l (by rw[DL,N];rfl);refine fin w (c.push {key:=a.eval k,val:=a.eval x,born:=clock}) (clock+1) (.refl w) ?_ (b7.push rfl) fun w2 C=>?_
    ·simp only[Vla,underlying,Vb,run_program,Va,hu,Vd,hv,G,R,D,Vm];simp only[setObj,Veb,hh]
    ·rw[Rx,N,Vjc];refine(ZbC s.length fun n kv e h1 h2=>?_ :Fa _ es c.toList).append ⟨by grind,trivial⟩;have:=ZeL s h1 h2;refine⟨this.1.mono C (.refl g),?_⟩
     grind
   |some j=>
    rw[N]at D;obtain⟨e,he,M⟩:=Rw _ _ _ _ N;have U:=(JO l).1 M;obtain⟨me,d1,h1,h2⟩:=s.get j e he;have W:me.key=a.eval k:=ZhS (t:=J) (x:=y) l (U▸h1) z;obtain⟨q,a8,hs⟩:=Zis (P:=P) (w:=w) (a.eval k);have X:c[j]? =Ua me:=by grind
    refine fin q (c.modify j fun e=>{e with key:=a.eval k,val:=a.eval x}) clock hs ?_ (b7.modify fun _=>rfl) fun w2 C=>?_
    ·simp only[Vla,underlying,Vb,run_program,Va,hu,Vd,hv,G,R,D,Vl,X,W,Vca,a8];have a1:q.heap[b]? =Ua (.map c clock):=by rw[hs.heap];omega
     simp only[setObj,Veb,a1]
    ·rw[Rx,N]
     have:(c.modify j fun e=>{e with key:=a.eval k,val:=a.eval x}).toList=c.toList.set j {me with key:=a.eval k,val:=a.eval x} :=by
      apply Vda
      grind
     rw[this];refine ZbC (by simp [s.length]) fun n kv en g1 g2=>?_;rw[Vic]at g1 g2;split at g1
     ·grind
     ·rename_i b9;rw[Zg b9]at g2;have:=ZeL s g1 g2;refine⟨this.1.mono C (.refl g),?_⟩;rw[a6 kv.1 fun e4=>b9 ?_]
      ·grind
      ·have d0:(es.map Vka)[j]? =Ua y:=by grind
       have c1:(es.map Vka)[n]? =Ua y:=by grind
       exact(List.getElem?_inj (by grind) c5).1 (d0.trans c1.symm)
  ·simp [Zb]at h
 ·simp [Zb]at h
end ops
end Tr
end
section
namespace Tr
open Go
section ops
variable {P:Program}{E:Ka}{B:Z1}{H:AH}{w:World}{g:Gh}{ow:Nat->Nat->Prop}{nid:Nat}{a:Act}{F:Nat->AV}{v:AV}{patch:Kx}{rd:List Nat}{o:Oper}
theorem Zfy{op:BinOp}{k:IntKind}{x y:Int}{T:TypeId}{z:Int}(h:(Op.intBits op k x y).run P w=.ok (.int k z) w)(b:op=.and\/op=.or\/op=.xor\/op=.andNot):(binOp op T (.int k x) (.int k y)).run P w=.ok (.int k z) w:=by
 rcases b with rfl|rfl|rfl|rfl<;>simp [binOp,h]
theorem Zb9{op:BinOp}{k:IntKind}{x y:Int}{T:TypeId}{b:Bool}(h:(Op.intCmp op x y).run P w=.ok (.bool b) w)(c:op=.eql\/op=.neq\/op=.lss\/op=.leq\/op=.gtr\/op=.geq):(binOp op T (.int k x) (.int k y)).run P w=.ok (.bool b) w:=by
 rcases c with rfl|rfl|rfl|rfl|rfl|rfl<;>simp [binOp,h]
theorem ZuL{k:IntKind}{x y z:Int}(h:Zig k x y=Ua z):y≠0/\z=k.wrap (x.tdiv y):=by
 unfold Zig at h;split at h
 ·simp at h
 ·rename_i b;exact⟨b,by simpa using h.symm⟩
theorem ZuM{x y z:Int}(h:Zih x y=Ua z):y≠0/\z=x.tmod y:=by
 unfold Zih at h;split at h
 ·simp at h
 ·rename_i b;exact⟨b,by simpa using h.symm⟩
theorem ZuN{k:IntKind}{x y z:Int}(h:Gp k x y=Ua z):¬y<0/\z=k.wrap (x*2 ^ (min y.toNat k.bits)):=by
 unfold Gp at h;split at h
 ·simp at h
 ·rename_i b;exact⟨b,by simpa using h.symm⟩
theorem ZuO{k:IntKind}{x y z:Int}(h:HR k x y=Ua z):¬y<0/\z=x.fdiv (2 ^ (min y.toNat k.bits)):=by
 unfold HR at h;split at h
 ·simp at h
 ·rename_i b;exact⟨b,by simpa using h.symm⟩
theorem Zo6{op:BinOp}{k:IntKind}{x y:Int}{l d:List Nat}{T:TypeId}(h:(Zaf op k x y).run H l=Ua (v,d)):∃val,(binOp op T (.int k x) (.int k y)).run P w=.ok val w/\VR w g v val/\d=l:=by
 cases op<;>simp only[Zaf,Zf,Zy]at h
 case add=>obtain⟨rfl,rfl⟩:=h;exact⟨.int k (k.wrap (x+y)),by simp [binOp,Op.intArith],Jj _ _,rfl⟩
 case sub=>obtain⟨rfl,rfl⟩:=h;exact⟨.int k (k.wrap (x - y)),by simp [binOp,Op.intArith],Jj _ _,rfl⟩
 case mul=>obtain⟨rfl,rfl⟩:=h;exact⟨.int k (k.wrap (x*y)),by simp [binOp,Op.intArith],Jj _ _,rfl⟩
 case quo=>obtain⟨z,c,rfl,rfl⟩:=h;obtain⟨b,rfl⟩:=ZuL c;exact⟨_,by simp [binOp,Op.intDiv,b],Jj _ _,rfl⟩
 case rem=>obtain⟨z,c,rfl,rfl⟩:=h;obtain⟨b,rfl⟩:=ZuM c;exact⟨_,by simp [binOp,Op.intDiv,b],Jj _ _,rfl⟩
 case and=>obtain⟨rfl,rfl⟩:=h;exact⟨_,Zfy rfl (.inl rfl),Jj _ _,rfl⟩
 case or=>obtain⟨rfl,rfl⟩:=h;exact⟨_,Zfy rfl (.inr (.inl rfl)),Jj _ _,rfl⟩
 case xor=>obtain⟨rfl,rfl⟩:=h;exact⟨_,Zfy rfl (.inr (.inr (.inl rfl))),Jj _ _,rfl⟩
 case andNot=>obtain⟨rfl,rfl⟩:=h;exact⟨_,Zfy rfl (.inr (.inr (.inr rfl))),Jj _ _,rfl⟩
 case shl=>obtain⟨z,c,rfl,rfl⟩:=h;obtain⟨b,rfl⟩:=ZuN c;exact⟨_,by simp [binOp,Op.shift,b],Jj _ _,rfl⟩
 case shr=>obtain⟨z,c,rfl,rfl⟩:=h;obtain⟨b,rfl⟩:=ZuO c;exact⟨_,by simp [binOp,Op.shift,b],Jj _ _,rfl⟩
 case eql=>obtain⟨rfl,rfl⟩:=h;exact⟨_,Zb9 rfl (.inl rfl),JW _,rfl⟩
 case neq=>obtain⟨rfl,rfl⟩:=h;exact⟨_,Zb9 rfl (.inr (.inl rfl)),JW _,rfl⟩
 case lss=>obtain⟨rfl,rfl⟩:=h;exact⟨_,Zb9 rfl (.inr (.inr (.inl rfl))),JW _,rfl⟩
 case leq=>obtain⟨rfl,rfl⟩:=h;exact⟨_,Zb9 rfl (.inr (.inr (.inr (.inl rfl)))),JW _,rfl⟩
 case gtr=>obtain⟨rfl,rfl⟩:=h;exact⟨_,Zb9 rfl (.inr (.inr (.inr (.inr (.inl rfl))))),JW _,rfl⟩
 case geq=>obtain⟨rfl,rfl⟩:=h;exact⟨_,Zb9 rfl (.inr (.inr (.inr (.inr (.inr rfl))))),JW _,rfl⟩
theorem Zp5{op:BinOp}{x y:List UInt8}{l f:List Nat}{T:TypeId}(h:(Zgz op x y).run H l=Ua (v,f)):∃val,(binOp op T (.string ⟨x.toArray⟩) (.string ⟨y.toArray⟩)).run P w=.ok val w/\VR w g v val/\f=l:=by
 have d:(x==y)=Ue (x=y):=by rw[Vwc];simp
 cases op<;>simp only[Zgz,Zf,Zy,Zb]at h
 case add=>
  obtain⟨z,b,rfl,rfl⟩:=h;simp only[catStr]at b
  cases c:Ue (x.length+y.length<2 ^ 62) with
  |false=>rw[c]at b;simp at b
  |true=>
   rw[c]at b;simp only[Ze,ZB]at b;subst b;refine⟨_,?_,Zcw _,rfl⟩;have i:x.length+y.length<2 ^ 62:=by simpa using c
   have e:¬(((⟨x.toArray⟩:ByteArray).size+(⟨y.toArray⟩:ByteArray).size:Nat):Int) >Vra.max:=by
    have:Vra.max=9223372036854775807:=by decide
    rw[this];simp [ByteArray.size];omega
   simp only[binOp,Op.stringOp,e,if_false,Vd];congr 2
 all_goals
  obtain⟨rfl,rfl⟩:=h;refine⟨_,?_,JW _,rfl⟩;simp only[binOp,Op.stringOp,ZfL,Vd,d]
theorem Zb8{op:BinOp}{T:TypeId}{x y:Operand}{vx d:Value}(b:vx≠ .nilIface)(c:Kf vx=Ud):(eqGuard op T x y vx d).run P w=.ok () w:=by
 unfold eqGuard
 cases vx<;>first|exact absurd rfl b|(simp [Kf]at c;done) |(split<;>rfl)
theorem Zvp(h:Z3 P E){T:TypeId}{t:Ty}(i:E.ty T=Ua t){op:BinOp}{x y:Operand}{vx d:Value}(b:Kf vx=t.agg)(f:Kf d=t.agg)(c:vx≠ .nilIface):(eqGuard op T x y vx d).run P w=.ok () w:=by
 cases e:t.agg with
 |true=>
  rw[e]at b f
  cases vx<;>simp [Kf]at b
  cases d<;>simp [Kf]at f
  exact run_eqGuard_agg w op T x y _ _ (h.ty T t i).guard
 |false=>
  rw[e]at b;exact Zb8 c b
theorem ZoY{T:TypeId}{op:BinOp}{x y:Operand}{l l' :List Nat}(hT:Z3 P E)(hF:Fr w g F a.tmps)(h:(Zgo E.ty T op (Zx F x) (Zx F y)).run H l=Ua (v,l')):
 ∃val,(do eqGuard op T x y (a.eval x) (a.eval y);binOp op T (a.eval x) (a.eval y):Sem Value).run P w=.ok val w/\VR w g v val/\l' =l:=by
 have J:=hF.eval x;have M:=hF.eval y
 have c:∀{vx vy:Value},vx≠ .nilIface->Kf vx=Ud->(eqGuard op T x y vx vy).run P w=.ok () w:=by exact fun u A=>Zb8 u A
 unfold Zgo at h;split at h
 ·rename_i k m k' n f i;rw[f]at J;rw[i]at M;rw[VR.int J,VR.int M];simp only[Vb,c (vx:=.int k m) (by simp) rfl,Va];split at h
  ·simp only[Zaf,Zy,Zf]at h;obtain⟨z,j,rfl,rfl⟩:=h;refine⟨_,?_,Jj _ _,rfl⟩;simp only[Gp]at j;split at j
   ·simp at j
   ·rename_i G;simp only[ZB]at j;subst j;simp [binOp,Op.shift,G]
  ·simp only[Zaf,Zy,Zf]at h;obtain⟨z,j,rfl,rfl⟩:=h;refine⟨_,?_,Jj _ _,rfl⟩;simp only[HR]at j;split at j
   ·simp at j
   ·rename_i G;simp only[ZB]at j;subst j;simp [binOp,Op.shift,G]
  ·simp only[ZJ,Zb,ZP,Z6,Kj]at h;obtain⟨rfl,h⟩:=h;exact Zo6 h
 ·rename_i s1 s2 f i;rw[f]at J;rw[i]at M;rw[VR.str J,VR.str M];simp only[Vb,c (vx:=.string ⟨s1.toArray⟩) (by simp) rfl,Va];exact Zp5 h
 ·rename_i t O K y0 X Y f i
  have data:∀(r:Bool) (p:El t),E.ty T=Ua t->t.dep<=100->Kr K t y0=Ua p->eqEl t O p=Ua r->(Op.equal T (a.eval x) (a.eval y)).run P w=.ok r w/\(eqGuard op T x y (a.eval x) (a.eval y)).run P w=.ok () w/\
   (∀k n,a.eval x≠ .int k n)/\(∀s,a.eval x≠ .string s)/\(∀k n,a.eval x≠ .float k n)/\(∀k n m,a.eval x≠ .complex k n m)/\a.eval x≠ .nilIface:=by
   intro r p L S N q;obtain⟨rfl,rfl⟩:=KE N;rw[f]at J;rw[i]at M;have u:Ko w g (.d K O) (a.eval x):=J;have A:Ko w g (.d K p) (a.eval y):=M;have D:Kf (a.eval x)=K.agg:=u.2.resolve_left (by simp);have W:Kf (a.eval y)=K.agg:=A.2.resolve_left (by simp)
   have e:(∀k n,a.eval x≠ .int k n)/\(∀s,a.eval x≠ .string s)/\(∀k n,a.eval x≠ .float k n)/\(∀k n m,a.eval x≠ .complex k n m)/\a.eval x≠ .nilIface:=by
    cases K with
    |int k=>exact(X k O k p rfl HEq.rfl rfl HEq.rfl).elim
    |str=>exact(Y O p rfl HEq.rfl rfl HEq.rfl).elim
    |bool=>rw[J.bool];simp
    |sl t=>simp [eqEl]at q
    |ref=>simp [eqEl]at q
    |pt t=>simp [eqEl]at q
    |lk a b=>simp [eqEl]at q
    |pn t=>simp [eqEl]at q
    |_=>(cases hv:a.eval x<;>rw[hv]at D<;>simp [Kf,Ty.agg]at D⊢)
   refine⟨Znh hT _ K T O p _ _ r 10000 (Via _) L (by omega) q u A,Zvp hT L D W e.2.2.2.2,e⟩
  have C:∀(op:BinOp) (r:Bool),(op=.eql\/op=.neq)->(Op.equal T (a.eval x) (a.eval y)).run P w=.ok r w->(∀k n,a.eval x≠ .int k n)->(∀s,a.eval x≠ .string s)->(∀k n,a.eval x≠ .float k n)->(∀k n m,a.eval x≠ .complex k n m)->
   (binOp op T (a.eval x) (a.eval y)).run P w=.ok (.bool (if op=.eql then r else !r)) w:=by
   intro op r Z he u A Q R
   rcases Z with rfl|rfl<;>unfold binOp<;>cases hv:a.eval x<;>simp_all
  split at h
  ·simp only[ZJ,Zy,Zf,Zb,ZP,Z6,Ve,Kj]at h;obtain⟨⟨L,S⟩,p,N,r,q,rfl,rfl⟩:=h;obtain⟨u,A,Q,R,U,V,_⟩:=data r p L (Vh S) N q;refine⟨.bool r,?_,JW _,rfl⟩;simp only[Vb,A,Va,C .eql r (.inl rfl) u Q R U V,if_true]
  ·simp only[ZJ,Zy,Zf,Zb,ZP,Z6,Ve,Kj]at h;obtain⟨⟨L,S⟩,p,N,r,q,rfl,rfl⟩:=h;obtain⟨u,A,Q,R,U,V,_⟩:=data r p L (Vh S) N q;refine⟨.bool (!r),?_,JW _,rfl⟩;simp only[Vb,A,Va,C .neq r (.inr rfl) u Q R U V];simp
  ·simp [Zb]at h
 ·simp [Zb]at h
end ops
end Tr
end
section
namespace Tr
open Go
section ops
variable {P:Program}{E:Ka}{B:Z1}{H:AH}{w:World}{g:Gh}{ow:Nat->Nat->Prop}{nid:Nat}{a:Act}{F:Nat->AV}{v:AV}{patch:Kx}{rd:List Nat}{o:Oper}
def _root_.Go.Operand.eval' :Operand->Value
 |.const v=>v
 |_=>undef
theorem Zt6{T:TypeId}{u:AV}{vx:Value}{y:Operand}(z:Z3 P E)(p:VR w g u vx)(h:Zfd (E.pk T) u y=Uc):
 (Op.equal T vx y.eval').run P w=.ok Ud w/\(vx≠ .nilIface/\Kf vx=Ud)/\ ∀op,(op=.eql->(binOp op T vx y.eval').run P w=.ok (.bool Ud) w)/\(op=.neq->(binOp op T vx y.eval').run P w=.ok (.bool Uc) w):=by
 obtain⟨A,C,D⟩:=z.pk T;unfold Zfd at h;split at h
 ·simp only[Ve,Vad]at h;obtain⟨i,h⟩:=h;obtain⟨e,c⟩:=A i;split at h
  ·obtain⟨_,q,t,b,_,_,rfl⟩:=p.ptr
   have key:(Op.equal T (.pointer (Ua ⟨b,q,Ub⟩)) (.pointer Ub)).run P w=.ok Ud w:=by
    have:∀d,(Op.equalIn (d+1) T (.pointer (Ua ⟨b,q,Ub⟩)) (.pointer Ub)).run P w=.ok Ud w:=fun d=>by simp only[Op.equalIn,underlying,Vb,run_program,Va,c,Vd]
    exact this 9999
   exact⟨key,⟨by simp,rfl⟩,fun op=>⟨fun e=>by subst e;simp only[binOp,Operand.eval',Vb,key,Va,Vd],fun e=>by subst e;simp only[binOp,Operand.eval',Vb,key,Va,Vd,Vhb]⟩⟩
  grind
 ·simp only[Ve,Vad]at h;obtain⟨i,h⟩:=h;obtain⟨s,x,G,c⟩:=C i;split at h
  ·obtain⟨r,n,_⟩:=p.fn;rename_i f l _
   obtain⟨m,k,j,rfl⟩:∃m k j,vx=.func (.func m) k j:=by
    rcases ZbK f r with ⟨_,h⟩|⟨_,h⟩
    all_goals exact⟨_,_,_,n.trans h⟩
   have key:(Op.equal T (.func (.func m) k j) .nilFunc).run P w=.ok Ud w:=by
    have:∀d,(Op.equalIn (d+1) T (.func (.func m) k j) .nilFunc).run P w=.ok Ud w:=fun d=>by simp only[Op.equalIn,underlying,Vb,run_program,Va,c,Vd]
    exact this 9999
   exact⟨key,⟨by simp,rfl⟩,fun op=>⟨fun e=>by subst e;simp only[binOp,Operand.eval',Vb,key,Va,Vd],fun e=>by subst e;simp only[binOp,Operand.eval',Vb,key,Va,Vd,Vhb]⟩⟩
  grind
 ·simp only[Ve,Vad]at h;obtain⟨i,h⟩:=h;obtain⟨s,x,c⟩:=D i;split at h
  ·obtain⟨_,b,_,rfl⟩:=p.mp
   have key:(Op.equal T (.map (Ua b)) (.map Ub)).run P w=.ok Ud w:=by
    have:∀d,(Op.equalIn (d+1) T (.map (Ua b)) (.map Ub)).run P w=.ok Ud w:=fun d=>by simp only[Op.equalIn,underlying,Vb,run_program,Va,c,Vd]
    exact this 9999
   exact⟨key,⟨by simp,rfl⟩,fun op=>⟨fun e=>by subst e;simp only[binOp,Operand.eval',Vb,key,Va,Vd],fun e=>by subst e;simp only[binOp,Operand.eval',Vb,key,Va,Vd,Vhb]⟩⟩
  grind
 grind
theorem Zpm{op:BinOp}{T l:TypeId}{x y:Operand}(f:Z3 P E)(e:RH B H w g ow)(hF:Fr w g F a.tmps)(d:o.op=.binOp op T x y l)
 (h:(ZN E nid o.op o.type (Zx F)).run H []=Ua ((v,patch),rd)):Zq B (Zp H patch) w g nid v ((execOp a.eval o).run P w):=by
 rw[d]at h;simp only[ZN,ZJ]at h;rcases h with ⟨j,h⟩|⟨_,h⟩
 ·obtain⟨q,b,c⟩:=Zt6 (w:=w) f (hF.eval x) j
  have k:a.eval y=y.eval' :=by
   cases y<;>simp [Zfd]at j;rfl
  have i:∀op,(eqGuard op T x y (a.eval x) y.eval').run P w=.ok () w:=fun op=>Zb8 b.1 b.2;split at h
  ·simp only[Zf,Vc]at h;obtain⟨⟨rfl,rfl⟩,_⟩:=h;refine Zq.pure e (val:=.bool Ud) ?_ (JW _);simp only[execOp,d,k,Vb,i,Va,(c .eql).1 rfl];rfl
  ·simp only[Zf,Vc]at h;obtain⟨⟨rfl,rfl⟩,_⟩:=h;refine Zq.pure e (val:=.bool Uc) ?_ (JW _);simp only[execOp,d,k,Vb,i,Va,(c .neq).2 rfl];rfl
  ·simp [Zb]at h
 simp only[Z0,Zf,Vc]at h;obtain⟨r,m,h,⟨rfl,rfl⟩,_⟩:=h;obtain⟨val,n,p,_⟩:=ZoY f hF h;refine Zq.pure e ?_ p;simp only[execOp,d];rw[Vb,n];rfl
theorem ZpQ{op:UnOp}{T:TypeId}{x:Operand}(f:RH B H w g ow)(hF:Fr w g F a.tmps)(d:o.op=.unOp op T x)
 (h:(ZN E nid o.op o.type (Zx F)).run H []=Ua ((v,patch),rd)):Zq B (Zp H patch) w g nid v ((execOp a.eval o).run P w):=by
 rw[d]at h;simp only[ZN,Z0,Zf,Vc]at h;obtain⟨i,m,h,⟨rfl,rfl⟩,_⟩:=h;have c:=hF.eval x;unfold aun at h;split at h
 ·rename_i b e;simp only[Zf]at h;obtain⟨rfl,_⟩:=h;rw[e]at c;refine Zq.pure f (val:=.bool (!b)) ?_ (JW _);simp only[execOp,d,VR.bool c,Op.unary,Vb,Vd,Va]
 ·rename_i k n e;simp only[Zf]at h;obtain⟨rfl,_⟩:=h;rw[e]at c;refine Zq.pure f (val:=.int k (k.wrap (0 - n))) ?_ (Jj _ _);simp only[execOp,d,VR.int c,Op.unary,Op.intArith,Vb,Vd,Va]
 ·simp [Zb]at h
theorem Zn1{T:TypeId}{k:IntKind}(e:Z3 P E)(h:E.ty T=Ua (.int k)):P.underlying T=Ua (.int k):=by
 have b:=(e.ty T _ h).shape
 cases c:P.underlying T with
 |none=>rw[c]at b;simp [Kd]at b
 |some d=>rw[c]at b;cases d<;>simp [Kd]at b;grind
theorem ZfQ{T:TypeId}(e:Z3 P E)(h:E.ty T=Ua .str):P.underlying T=Ua .string:=by
 have b:=(e.ty T _ h).shape
 cases c:P.underlying T with
 |none=>rw[c]at b;simp [Kd]at b
 |some d=>rw[c]at b;cases d<;>simp [Kd]at b;rfl
theorem Zws{T:TypeId}{t:Ty}(c:Z3 P E)(h:E.ty T=Ua t):∃d,P.underlying T=Ua d:=by
 have b:=(c.ty T _ h).shape
 cases e:P.underlying T with
 |none=>rw[e]at b;simp [Kd]at b
 |some d=>simp
theorem Zqv{x:AV}{v:Value}(b:Zbt x=Uc)(h:VR w g x v):CV w g x [v]:=by
 unfold Zbt at b;simp only[Ve,Vwa]at b;obtain⟨e,b⟩:=b;have c:Ko w g x v:=h.to1 (by intro l d;subst d;simp [Hf]at b)
 have f:Kf v=false:=by
  rcases c.2 with h|h
  ·subst h;simp [Hf]at b
  grind
 have:v.cells.toList=[v]:=by cases v<;>simp_all [Vab,Kf]
 rw[<-this];exact c.1
theorem Zqy{x:AV}{v:Value}(e:Zbt x=Uc)(h:CV w g x [v]):VR w g x v:=by
 unfold Zbt at e;simp only[Ve,Vwa]at e;obtain⟨z,e⟩:=e
 have key:Kf v=false:=by
  cases x with
  |d t y=>
   have:=Rd.oneCell t y [v] (by assumption) v (by simp)
   cases v<;>simp_all [Vna,Kf]
  |junk=>simp [Hf]at e
  |tup l=>simp [Hf]at e
  |agg l=>simp [Hf]at e
  |jk n=>simp [Hf]at e
  |op id i=>simp [Hf]at e
  |dp t y=>simp only[CV]at h;obtain⟨b,off,c,h,_⟩:=h;cases h;rfl
  |ptr id p=>simp only[CV]at h;obtain⟨_,o,t,b,_,_,h⟩:=h;cases h;rfl
  |vp id i p=>simp only[CV]at h;obtain⟨_,o,t,b,_,_,h⟩:=h;cases h;rfl
  |mp id=>simp only[CV]at h;obtain⟨_,b,_,h⟩:=h;cases h;rfl
  |fn f l=>simp only[CV]at h;obtain⟨j,h,_⟩:=h;cases h;exact Zk6 f j
  |nilr p=>have h:=ZbU h;rcases h with h|h|h<;>cases h<;>rfl
  |nw id ver r k=>simp only[CV]at h;obtain⟨_,_,u,h,q,_⟩:=h;cases h;cases v<;>simp_all [Vna,Kf]
  |np id ver r k i p=>simp only[CV]at h;obtain⟨_,_,s,h,_⟩:=h;cases h;rfl
  |nils=>simp only[CV]at h;cases h;rfl
  |vw id=>simp only[CV]at h;obtain⟨_,h,q⟩:=h;cases h;cases A:g.slv id<;>simp_all [Vna,Kf]
  |vs id C n=>simp only[CV,Zcb]at h;obtain⟨_,⟨_,_,_,h⟩|⟨b,len,cap,m,_,_,_,_,h⟩⟩:=h<;>cases h<;>rfl
 have:v.cells.toList=[v]:=by cases v<;>simp_all [Vab,Kf]
 exact VR.of1 ⟨by grind,by grind⟩
theorem ZgK:∀(xs:List Operand),Fr w g F a.tmps->DP (Zo.ofList (xs.map (Zx F)))=Uc->Z9 w g (Zo.ofList (xs.map (Zx F))) (xs.map a.eval)
 |[],_,_=>by rfl
 |x::l,b,h=>by simp only[Vs,Zo.ofList,DP,Ve]at h⊢;simp only[Z9];exact⟨[a.eval x],l.map a.eval,rfl,Zqv h.1 (b.eval x),ZgK l b h.2⟩
theorem Zj2:∀(l:Zo) (cs:List Value),DP l=Uc->Z9 w g l cs->WK w g l cs
 |.nil,cs,_,h=>by assumption
 |.cons x l,cs,j,h=>by
  simp only[DP,Ve]at j;simp only[Z9]at h;obtain⟨e,q,rfl,b,r⟩:=h;have c:=j.1
  have:∃v,e=[v]:=by
   have s:e.length=1:=by
    unfold Zbt at c;simp only[Ve]at c;obtain⟨_,c⟩:=c
    cases x with
    |d t y=>simp only[Hf]at c;rw[Rd.length t y e (by assumption)];simp_all
    |junk=>simp [Hf]at c
    |tup l=>simp [Hf]at c
    |agg l=>simp [Hf]at c
    |jk n=>simp [Hf]at c
    |op id i=>simp [Hf]at c
    |dp t y=>simp only[CV]at b;grind
    |ptr id p=>simp only[CV]at b;grind
    |vp id i p=>simp only[CV]at b;grind
    |mp id=>simp only[CV]at b;grind
    |fn f l=>simp only[CV]at b;grind
    |nilr p=>have b:=ZbU b;grind
    |nw id ver A k=>simp only[CV]at b;grind
    |np id ver A k i p=>simp only[CV]at b;grind
    |nils=>simp only[CV]at b;grind
    |vw id=>simp only[CV]at b;grind
    |vs id C n=>simp only[CV,Zcb]at b;grind
   exact List.length_eq_one_iff.1 s
  obtain⟨v,rfl⟩:=this;have z:=Zqy c b;refine⟨v,q,rfl,z.to1 ?_,Zj2 l q j.2 r⟩;intro m u;subst u;assumption
theorem ZpC{f:FuncId}{first b:Array Operand}(e:RH B H w g ow)(hF:Fr w g F a.tmps)(c:o.op=.makeFunc (.func f) first b)
 (h:(ZN E nid o.op o.type (Zx F)).run H []=Ua ((v,patch),rd)):Zq B (Zp H patch) w g nid v ((execOp a.eval o).run P w):=by
 rw[c]at h;simp only[ZN,ZJ,Zf,Zb,ZP,Z6,Vc,Ve]at h;obtain⟨⟨⟨l,i⟩,d⟩,⟨rfl,rfl⟩,_⟩:=h
 have j:first= #[]:=by grind
 have k:J4 f (b.toList.map a.eval)=.func (.func f) #[] (b.map a.eval):=by unfold J4;rw[i];simp [<-Vsb]
 refine Zq.pure e (val:=.func (.func f) #[] (b.map a.eval)) ?_ ⟨?_,.inr rfl⟩
 ·simp only[execOp,c,Vdd,j,Vb,Vd,Va,Vzc]
 ·simp only[CV];exact⟨b.toList.map a.eval,by simp [Vab,k],ZgK _ hF d⟩
theorem Zpn{f:FuncId}{first b:Array Operand}(d:RH B H w g ow)(hF:Fr w g F a.tmps)(j:o.op=.makeFunc (.func f) first b)(l:b.isEmpty=Uc)(c:DP (Zo.ofList (first.toList.map (Zx F)))=Uc):
 Zq B H w g nid (.fn (f+WL) (Zo.ofList (first.toList.map (Zx F)))) ((execOp a.eval o).run P w):=by
 have i:b= #[]:=by grind
 have e:Vkd (f+WL) WL=false:=by
  cases h:Vkd (f+WL) WL with
  |false=>rfl
  |true=>have:=Vh h;omega
 have k:J4 (f+WL) (first.toList.map a.eval)=.func (.func f) (first.map a.eval) #[]:=by unfold J4;rw[e,Zd,Nat.add_sub_cancel];simp [<-Vsb]
 refine Zq.pure d (val:=.func (.func f) (first.map a.eval) #[]) ?_ ⟨?_,.inr rfl⟩
 ·simp only[execOp,j,Vdd,i,Vb,Vd,Va,Vzc]
 ·simp only[CV]
  exact⟨first.toList.map a.eval,by simp [Vab,k],ZgK _ hF c⟩
theorem D3{c:Call}{b:Builtin}{ty:TypeId}(e:c.callee=.builtin b):
 (do let d<-resolve a.eval c ty;invoke d.target d.args:Sem Next).run P w=(builtin b c.argTypes ty (c.args.map fun|.const _=>Uc|_=>Ud) (c.args.map a.eval)).run P w:=by
 unfold resolve;rw[e];rfl
theorem Zbl(v:Value):(#[v]:Array Value)[0]? =Ua v:=rfl
theorem ZpA{c:Call}(S:Z3 P E)(z:RH B H w g ow)(hF:Fr w g F a.tmps)(ho:o.op=.call c)(Z:c.callee=.builtin .len)
 (h:(ZN E nid o.op o.type (Zx F)).run H []=Ua ((v,patch),rd)):Zq B (Zp H patch) w g nid v ((execOp a.eval o).run P w):=by
 rw[ho]at h;simp only[ZN,Z]at h;split at h
 ·rename_i x T U A;simp only[Z0,Zf,Vc]at h;obtain⟨v',m,h,⟨rfl,rfl⟩,_⟩:=h;have j:=hF.eval x
  have q:c.args.map a.eval= #[a.eval x]:=by
   have:c.args= #[x]:=by grind
   grind
  have fin:∀(n:Int),v' =.d (.int .i64) n->(Vdb c.argTypes o.type #[a.eval x]).run P w=.ok (.int .i64 n) w->Zq B (Zp H []) w g nid v' ((execOp a.eval o).run P w):=by intro n hv hr;subst hv;refine Zq.pure z (val:=.int .i64 n) ?_ (Jj _ _);simp only[execOp,ho,D3 Z,builtin,q,Vb,hr,Va,Vd]
  have sl:∀(O:Option Addr) (n cap:Nat),Jm (E.ty T)=Uc->a.eval x=.slice O n cap->(Vdb c.argTypes o.type #[a.eval x]).run P w=.ok (.int .i64 n) w:=by
   intro O n cap i l
   have:∃t,E.ty T=Ua (.sl t):=by
    cases R:E.ty T with
    |none=>rw[R]at i;simp [Jm]at i
    |some t=>cases t<;>rw[R]at i<;>simp [Jm]at i;simp
   obtain⟨t,R⟩:=this;obtain⟨Et,Y,_⟩:=W1 S R;simp only[Vdb,A,l,Zbl,underlying,Vb,run_program,Va,Y,Vd,goInt]
  unfold Zjt at h;split at h
  ·rename_i t xs f;simp only[ZJ,Zf,Zb,ZP,Z6]at h;obtain⟨i,rfl,_⟩:=h;obtain⟨O,cap,C,l,_⟩:=(f▸j).sl
   grind
  ·rename_i s f;simp only[ZJ,Zf,Zb,ZP,Z6,Kj]at h;obtain⟨i,rfl,_⟩:=h;rw[f]at j;refine fin _ rfl ?_;simp only[Vdb,A,VR.str j,underlying,Vb,run_program,Va,ZfQ S i,Zbl,Vd,goInt];rfl
  ·rename_i f;simp only[ZJ,Zf,Zb,ZP,Z6]at h;obtain⟨i,rfl,_⟩:=h;exact fin _ rfl (sl _ _ _ i (f▸j).nils)
  ·rename_i id lo n f;simp only[ZJ,Zf,Zb,ZP,Z6]at h;obtain⟨i,rfl,_⟩:=h;obtain⟨_,Q⟩:=(f▸j).vs;rcases Q with ⟨_,_,rfl,Q⟩|⟨b,len,cap,m,_,_,_,_,Q⟩
   all_goals grind
  ·rename_i id f;simp only[ZJ,Zb,ZP,Z6]at h;obtain⟨N,h⟩:=h;rw[ZX]at h;split at h
   ·rename_i t xs p;simp only[Zf]at h;obtain⟨rfl,_⟩:=h;obtain⟨_,l⟩:=(f▸j).vw;obtain⟨_,_,y⟩:=z.objs id _ p
    grind
   ·rename_i t xs u a1 p;simp only[Zf]at h;obtain⟨rfl,_⟩:=h;obtain⟨_,l⟩:=(f▸j).vw;obtain⟨_,_,_,_,y⟩:=z.objs id _ p
    grind
   ·rename_i t xs p;simp only[Zf]at h;obtain⟨rfl,_⟩:=h;obtain⟨O,cap,C,l,_⟩:=(ZfU z p (f▸j)).sl
    grind
   ·rename_i lb xs p;simp only[Zf]at h;obtain⟨rfl,_⟩:=h;obtain⟨_,l⟩:=(f▸j).vw;obtain⟨_,_,y⟩:=z.objs id _ p;rcases y with ⟨rfl,y⟩|⟨b,off,cap,cs,e,i,y,_⟩
    ·exact fin _ rfl (sl _ _ _ N (l.trans y))
    ·exact fin _ rfl (sl _ _ _ N (l.trans y))
   ·simp [Zb]at h
  ·rename_i id ver kt k f;simp only[ZJ,Z0,Zf,Zb,ZP,Z6]at h;obtain⟨i,r,m1,D,rfl,_⟩:=h;obtain⟨_,_,_,_,M⟩:=Zbf z (f▸j) D;rcases M with ⟨Q,h2⟩|⟨b,cap,cs,e,C,h2,_⟩
   all_goals grind
  ·rename_i id f;simp only[ZJ,Zb,ZP,Z6]at h;obtain⟨i,h⟩:=h;rw[ZX]at h;split at h
   ·rename_i kt vt mm p;simp only[Zf]at h;obtain⟨rfl,_⟩:=h;obtain⟨_,b,hb,l⟩:=(f▸j).mp;obtain⟨_,b',es,clock,G,_,hh,_,W⟩:=z.objs id _ p;rw[hb]at G;cases G;obtain⟨mt,X⟩:=Option.isSome_iff_exists.1 i;obtain⟨K,V,Y,_,_⟩:=S.mty T mt X;have J:(getObj b).run P w=.ok (.map es clock) w:=by simp only[getObj,Veb,hh]
    refine fin _ rfl ?_;have L:es.size=mm.length:=by rw[W.length];simp
    simp only[Vdb,A,l,underlying,Vb,run_program,Va,Y,Zbl,Vd,J,goInt,L]
   ·simp [Zb]at h
  ·simp [Zb]at h
 ·simp [Zb]at h
end ops
end Tr
end
section
namespace Tr
open Go
section ops
variable {P:Program}{E:Ka}{B:Z1}{H:AH}{w:World}{g:Gh}{ow:Nat->Nat->Prop}{nid:Nat}{a:Act}{F:Nat->AV}{v:AV}{patch:Kx}{rd:List Nat}{o:Oper}
theorem Zgr{f:Int->Int->Int}{m2:Value->Value->Sem Value}(i:∀k x y w,(m2 (.int k x) (.int k y)).run P w=.ok (.int k (f x y)) w){k:IntKind}(hF:Fr w g F a.tmps):
 ∀(l:List Operand) (x:Int) (r e:List Nat) (v:AV),(Zbh f k x (l.map (Zx F))).run H r=Ua (v,e)->∃n,v=.d (.int k) n/\((l.map a.eval).foldlM m2 (.int k x)).run P w=.ok (.int k n) w
 |[],x,r,e,v,h=>by
  simp only[Vod,Zbh,Zf]at h
  simp_all
 |y::l,x,r,e,v,h=>by
  have j:=hF.eval y;simp only[Vs]at h⊢;unfold Zbh at h;split at h
  ·grind
  ·rename_i t b u c;obtain⟨m,p⟩:=List.cons.inj c;subst p;simp only[ZJ,Zb,ZP,Z6,Kj]at h;obtain⟨rfl,h⟩:=h;rw[m]at j;obtain⟨n,q,s⟩:=Zgr i hF l _ _ _ _ h;refine⟨n,q,?_⟩;rw[List.foldlM_cons,VR.int j,Vb,i]
   assumption
  ·simp [Zb]at h
theorem ZpH{c:Call}(j:RH B H w g ow)(hF:Fr w g F a.tmps)(e:o.op=.call c)(d:c.callee=.builtin .min)
 (h:(ZN E nid o.op o.type (Zx F)).run H []=Ua ((v,patch),rd)):Zq B (Zp H patch) w g nid v ((execOp a.eval o).run P w):=by
 rw[e]at h;simp only[ZN,d]at h;split at h
 ·rename_i x l b;have f:=hF.eval x;split at h
  ·rename_i k n p;simp only[Z0,Zf,Vc]at h;obtain⟨r,m,h,⟨rfl,rfl⟩,_⟩:=h;obtain⟨i,rfl,q⟩:=Zgr (P:=P) (m2:=Builtin.min2) (fun _ _ _ _=>rfl) hF l _ _ _ _ h;rw[p]at f;refine Zq.pure j (val:=.int k i) ?_ (Jj _ _)
   have:(Vpd c.argTypes o.type (c.args.map a.eval)).run P w=.ok (.int k i) w:=by unfold Vpd;rw[Vtb,b,Vs,VR.int f];omega
   simp only[execOp,e,D3 d,builtin,Vb,this,Va,Vd]
  ·simp [Zb]at h
 ·simp [Zb]at h
theorem ZpG{c:Call}(j:RH B H w g ow)(hF:Fr w g F a.tmps)(e:o.op=.call c)(d:c.callee=.builtin .max)
 (h:(ZN E nid o.op o.type (Zx F)).run H []=Ua ((v,patch),rd)):Zq B (Zp H patch) w g nid v ((execOp a.eval o).run P w):=by
 rw[e]at h;simp only[ZN,d]at h;split at h
 ·rename_i x l b;have f:=hF.eval x;split at h
  ·rename_i k n p;simp only[Z0,Zf,Vc]at h;obtain⟨r,m,h,⟨rfl,rfl⟩,_⟩:=h;obtain⟨i,rfl,q⟩:=Zgr (P:=P) (m2:=Builtin.max2) (fun _ _ _ _=>rfl) hF l _ _ _ _ h;rw[p]at f;refine Zq.pure j (val:=.int k i) ?_ (Jj _ _)
   have:(Vqd c.argTypes o.type (c.args.map a.eval)).run P w=.ok (.int k i) w:=by unfold Vqd;rw[Vtb,b,Vs,VR.int f];omega
   simp only[execOp,e,D3 d,builtin,Vb,this,Va,Vd]
  ·simp [Zb]at h
 ·simp [Zb]at h
theorem ZjG{x:Operand}{n:Int}(hF:Fr w g F a.tmps)(h:KR (Zx F x)=Ua n):∃k,a.eval x=.int k n:=by
 have b:=hF.eval x;unfold KR at h;split at h
 ·rename_i k m c;cases h;rw[c]at b;exact⟨k,VR.int b⟩
 grind
theorem ZaZ{len cap:Nat}{isS:Bool}{lo d:Option Operand}{l h b:Nat}(hF:Fr w g F a.tmps)(m:cap<=b)
 (C:∀x∈lo,(KR (Zx F x)).isSome) (z:∀x∈d,(KR (Zx F x)).isSome)
 (j:sliceB len cap (lo.bind fun o=>KR (Zx F o)) (d.bind fun o=>KR (Zx F o))=Ua (l,h)) (A:len<=cap):
 (Vkc isS len b (lo.map a.eval) (d.map a.eval) Ub).run P w=.ok (l,h,b) w/\l<=h/\h<=cap:=by
 have bound:∀(x:Operand) (n:Int) (y:Nat) (code:BoundsCode),KR (Zx F x)=Ua n->0<=n->n<=y->(Voa (a.eval x) y code).run P w=.ok n.toNat w:=by intro x n y code D q i;obtain⟨k,u⟩:=ZjG hF D;simp only[Voa,u,asIntOf,Vb,Vd,Va,q,i,and_self,if_true]
 unfold sliceB at j;simp only[Vu]at j;obtain⟨e,G,p⟩:=j
 have c:((match d.map a.eval,(none:Option Value) with
  |some v,Ua _=>Voa v b .slice3B
  |some v,none=>Voa v b (if isS then .sliceAcap else .sliceAlen)
  |none,none=>pure len
  |none,some _=>stuck "Slice: max without high"):Sem Nat).run P w=.ok e w∧e≤cap:=by
  cases d with
  |none=>simp_all
  |some x=>
   grind
 have f:((match lo.map a.eval with
  |some v=>Voa v e (if (none:Option Value).isSome then .slice3C else .sliceB)
  |none=>pure 0):Sem Nat).run P w=.ok l w/\l<=e/\e=h:=by
  cases lo with
  |none=>simp only[Vsc,ZB,Vc]at p;obtain⟨rfl,rfl⟩:=p;simp
  |some x=>
   grind
 obtain⟨i,r⟩:=c;obtain⟨s,t,rfl⟩:=f;refine⟨?_,t,r⟩;unfold Vkc
 cases d<;>cases lo<;>simp only[Vm,Vl,Vb,Vd,Va,Vib,Vy,if_false]at i s⊢ <;> (simp_all)<;> (simp_all)<;>simp_all
theorem Kw.part{w:World}{b off:Nat}{css:List (List Value)}{s l n:Nat}(m:∀c∈css,c.length=s)(k:l<=css.length)(h:Kw w b off css.flatten):Kw w b (off+l*s) ((css.drop l).take n).flatten:=by
 have e:css.flatten=(css.take l).flatten++(((css.drop l).take n).flatten++((css.drop l).drop n).flatten):=by rw[<-Vja,Vza, <-Vja,Vza]
 have f:(css.take l).flatten.length=l*s:=by rw[JM fun c i=>m c (List.mem_of_mem_take i),List.length_take,Vyb k]
 intro j p;have d:l*s+j<css.flatten.length:=by grind
 have:=h (l*s+j) d
 grind
theorem Zah{lo:Option Operand}(h:XL (Zx F) lo=Uc):∀x∈lo,(KR (Zx F x)).isSome:=by intro x b;cases b;exact h
theorem ZpN{T:TypeId}{x:Operand}{lo hi:Option Operand}(u:Z3 P E)(K:RH B H w g ow)(hF:Fr w g F a.tmps)(N:o.op=.slice T x lo hi Ub)
 (h:(ZN E nid o.op o.type (Zx F)).run H []=Ua ((v,patch),rd)):Zq B (Zp H patch) w g nid v ((execOp a.eval o).run P w):=by
 rw[N]at h;simp only[ZN,ZJ,Zb,ZP,false_or,Vi,Ve]at h;obtain⟨⟨k,j⟩,h⟩:=h;have k:=Zah k;have j:=Zah j;have O:=hF.eval x;split at h
 ·rename_i t xs D;simp only[ZJ,Zy,Zf,Zb,ZP,false_or,Vi,Kj,Vc]at h;obtain⟨C,⟨l,d⟩,q,⟨rfl,rfl⟩,_⟩:=h;obtain⟨G,M,f⟩:=W1 u C;obtain⟨m,cap,r,L,i,S,c⟩:=(D▸O).sl;obtain⟨y,A,z⟩:=ZaZ (P:=P) (w:=w) (isS:=true) hF c k j q (Vg _)
  refine Zq.pure K (val:=.slice (if cap=l then m else m.map (·.add (l*t.size))) (d - l) (cap - l)) ?_ (KK ?_ rfl rfl)
  ·simp only[execOp,N,L,Vbb,Vlb,Vm,underlying,Vb,run_program,Va,M,Vd,y,(u.ty G t f).run_sizeOf]
  ·simp only[CV,Rd];have p:((xs.drop l).take (d - l)).length=d - l:=by grind
   refine⟨_,cap - l,(r.drop l).take (d - l),by rw[p],(i.drop l).take _,fun Y=>?_,by omega⟩;have R:0<d - l:=by grind
   obtain⟨b,off,rfl,V,hL⟩:=S (by grind);refine⟨b,off+l*t.size,?_,V,Kw.part (Rd.all_length i) (by rw[<-i.length];omega) hL⟩;rw[Zg (by omega)];simp only[Vl,ZB];unfold Addr.add;simp
 ·rename_i s D;simp only[ZJ,Zy,Zf,Zb,ZP,false_or,Vi,Kj,Vc]at h;obtain⟨C,⟨l,d⟩,q,⟨rfl,rfl⟩,_⟩:=h;rw[D]at O;obtain⟨y,A,z⟩:=ZaZ (P:=P) (w:=w) (isS:=Ud) hF (Vg _) k j q (Vg _);have Z:(⟨s.toArray⟩:ByteArray).size=s.length:=by rfl
  refine Zq.pure K (val:=.string ((⟨s.toArray⟩:ByteArray).extract l d)) ?_ ?_
  ·simp only[execOp,N,VR.str O,Vbb,Vlb,Vm,underlying,Vb,run_program,Va,ZfQ u C,Vd,Vib,Vy,if_false,Z,y]
  ·have:(⟨s.toArray⟩:ByteArray).extract l d=⟨((s.drop l).take (d - l)).toArray⟩:=by apply ByteArray.ext;simp
   rw[this];exact Zcw _
 ·rename_i D;split at h
  ·rename_i t C;simp only[Zy,Zf,Vc]at h;obtain⟨⟨l,d⟩,q,⟨rfl,rfl⟩,_⟩:=h;obtain⟨G,M,f⟩:=W1 u C;have L:=(D▸O).nils;obtain⟨y,A,z⟩:=ZaZ (P:=P) (w:=w) (isS:=true) hF (Vg 0) k j q (Vg _);have X:l=0:=by omega
   have W:d=0:=by omega
   subst X W;refine Zq.pure K (val:=.slice Ub 0 0) ?_ (by grind);simp only[execOp,N,L,Vbb,Vlb,Vm,underlying,Vb,run_program,Va,M,Vd,y,(u.ty G t f).run_sizeOf];rfl
  ·simp [Zb]at h
 ·rename_i id D;rw[ZX]at h;split at h
  ·rename_i t xs U;simp only[ZJ,Zy,Zb,ZP,false_or,Vi,Kj]at h;obtain⟨C,⟨l,d⟩,q,h⟩:=h
   have hh:v=.vs id l (d - l)/\patch=[]:=by
    cases lo with
    |none=>
     simp only[Zf,Vc]at h
     have S:0=l:=by simp only[sliceB,Vsc,Vu,ZB,Vc]at q;omega
     grind
    |some x=>
     simp only[Zf,Vc]at h
     grind
   obtain⟨rfl,rfl⟩:=hh;obtain⟨G,M,f⟩:=W1 u C;obtain⟨hk,L⟩:=(D▸O).vw;obtain⟨_,a2,J⟩:=K.objs id _ U
   have key:∃(m:Option Addr) (cap:Nat),g.slv id=.slice m xs.length cap/\xs.length<=cap/\(∀l n,l+n<=xs.length->Zcb (g.slv id) t.size l n [.slice (if cap=l then m else m.map (·.add (l*t.size))) n (cap - l)]):=by
    rcases J with ⟨rfl,_,J⟩|⟨b,cap,cs,e,r,_,_,J,_,c,_⟩
    ·refine⟨Ub,0,J,Vg _,fun l n Q=>.inl ⟨J,?_,?_,?_⟩⟩
     all_goals grind
    ·refine⟨_,cap,J,c,fun l n Q=>.inr ⟨b,xs.length,cap,cap - l,J,Q,by omega,by omega,?_⟩⟩;congr 2;by_cases h0:cap=l
     ·grind
     ·rw[Zg h0,Zg (by omega)];simp only[Vl,ZB];unfold Addr.add
      grind
   obtain⟨m,cap,hv,c,a1⟩:=key;obtain⟨y,A,z⟩:=ZaZ (P:=P) (w:=w) (isS:=true) hF c k j q (Vg _)
   refine Zq.pure K (val:=.slice (if cap=l then m else m.map (·.add (l*t.size))) (d - l) (cap - l)) ?_ (KK ?_ rfl rfl)
   ·simp only[execOp,N,L,hv,Vbb,Vlb,Vm,underlying,Vb,run_program,Va,M,Vd,y,(u.ty G t f).run_sizeOf]
   ·simp only[CV]
    grind
  ·rename_i t xs U;simp only[ZJ,Zy,Zf,Zb,ZP,false_or,Vi,Kj,Vc]at h;obtain⟨C,⟨l,d⟩,q,⟨rfl,rfl⟩,_⟩:=h;obtain⟨G,M,f⟩:=W1 u C;obtain⟨m,cap,r,L,i,S,c⟩:=(ZfU K U (D▸O)).sl;obtain⟨y,A,z⟩:=ZaZ (P:=P) (w:=w) (isS:=true) hF c k j q (Vg _)
   refine Zq.pure K (val:=.slice (if cap=l then m else m.map (·.add (l*t.size))) (d - l) (cap - l)) ?_ (KK ?_ rfl rfl)
   ·simp only[execOp,N,L,Vbb,Vlb,Vm,underlying,Vb,run_program,Va,M,Vd,y,(u.ty G t f).run_sizeOf]
   ·simp only[CV,Rd];have p:((xs.drop l).take (d - l)).length=d - l:=by grind
    refine⟨_,cap - l,(r.drop l).take (d - l),by rw[p],(i.drop l).take _,fun Y=>?_,by omega⟩;have R:0<d - l:=by grind
    obtain⟨b,off,rfl,V,hL⟩:=S (by grind);refine⟨b,off+l*t.size,?_,V,Kw.part (Rd.all_length i) (by rw[<-i.length];omega) hL⟩;rw[Zg (by omega)];simp only[Vl,ZB];unfold Addr.add;simp
  ·simp [Zb]at h
 ·simp [Zb]at h
end ops
end Tr
end
section
namespace Tr
open Go
theorem Zla(off:Nat):∀(d:List Value) (k:Nat) (pre c post:List Value),c.length=d.length->pre.length=off+k->
 (d.zipIdx k).foldl (fun(cs:Array Value) x=>cs.setIfInBounds (off+x.2) x.1) (pre++c++post).toArray=(pre++d++post).toArray
 |[],k,pre,c,post,h,_=>by
  simp_all
 |x::d,k,pre,c,post,h,b=>by
  match c,h with
  |y::c,h=>
   simp only[List.zipIdx_cons,List.foldl_cons]
   have e:(pre++(y::c)++post).toArray.setIfInBounds (off+k) x=((pre++[x])++c++post).toArray:=by
    grind
   rw[e,Zla off d (k+1) (pre++[x]) c post (by grind) (by grind)];simp
def Ds(css:List (List Value))(b:List (Nat×Value)):List (List Value):=b.foldl (fun css p=>css.set p.1 p.2.cells.toList) css
theorem ZeO{place:Nat->Option (Nat×Nat)}{lens:List Nat}(l:∀i,(h:i<lens.length)->place i=Ua ((lens.take i).sum,lens[i])):∀(c:List (Nat×Value)) (css:List (List Value)),css.map Vha=lens->
 (∀p∈c,∃n,lens[p.1]? =Ua n/\p.2.cells.size=n)->Vbd place css.flatten.toArray c=Ua (Ds css c).flatten.toArray/\(Ds css c).map Vha=lens
 |[],css,j,_=>⟨rfl,j⟩
 |(i,v)::c,css,j,h=>by
  obtain⟨n,k,u⟩:=h (i,v) (by simp);simp only at k u;obtain⟨s,rfl⟩:=Vw.1 k;have t:i<css.length:=by grind
  have r:css[i].length=lens[i]:=by grind
  have b:css.flatten=(css.take i).flatten++css[i]++(css.drop (i+1)).flatten:=by
   calc css.flatten=(css.take i++css[i]::css.drop (i+1)).flatten:=by simp
    _=_:=by grind
  have f:(css.take i).flatten.length=(lens.take i).sum:=by simp_all
  have m:css.set i v.cells.toList=css.take i++v.cells.toList::css.drop (i+1):=List.set_eq_take_append_cons_drop .. |>.trans (by grind)
  have d:(css.set i v.cells.toList).map Vha=lens:=by
   simp_all
  obtain⟨y,q⟩:=ZeO l c (css.set i v.cells.toList) d (by grind);refine⟨?_,q⟩;unfold Vbd;simp only[l i s];rw[Zg]
  ·rw[<-Array.foldl_toList,Array.toList_zipIdx,b];have:=Zla (lens.take i).sum v.cells.toList 0 (css.take i).flatten css[i] (css.drop (i+1)).flatten (by grind) f;have e:=this;rw[show (List.foldl (fun(cs:Array Value) (x:Value×Nat)=>cs.setIfInBounds ((List.take i lens).sum+x.2) x.1) ((css.take i).flatten++css[i]++(css.drop (i+1)).flatten).toArray (v.cells.toList.zipIdx))=_ from e];have:((css.take i).flatten++v.cells.toList++(css.drop (i+1)).flatten)=(css.set i v.cells.toList).flatten:=by grind
   rw[this]
   assumption
  grind
theorem ZfB:∀(b:List (Nat×Value)) (css:List (List Value)),GT css.length (b.map (·.1))=Uc->∀j,j<css.length->
 (Ds css b)[j]? =(match b.lookup j with|some v=>Ua v.cells.toList|none=>css[j]?)
 |[],css,_,j,_=>rfl
 |(i,v)::b,css,h,j,d=>by
  simp only[Vs,GT,Ve,Vwa]at h;have c:=Vh h.1.1;have:=ZfB b (css.set i v.cells.toList) (by grind) j (by grind);show (Ds (css.set i v.cells.toList) b)[j]? =_
  grind
theorem ZfC:∀(b:List (Nat×Value)) (css:List (List Value)),(Ds css b).length=css.length
 |[],_=>rfl
 |(i,v)::b,css=>by show (Ds (css.set i v.cells.toList) b).length=_;rw[ZfC b,List.length_set]
section ops
variable {P:Program}{E:Ka}{B:Z1}{H:AH}{w:World}{g:Gh}{ow:Nat->Nat->Prop}{nid:Nat}{a:Act}{F:Nat->AV}{v:AV}{patch:Kx}{rd:List Nat}{o:Oper}
def Zo.toL:Zo->List AV
 |.nil=>[]
 |.cons v l=>v::l.toL
theorem ZdO:∀{l:Zo}{cs:List Value},Z9 w g l cs↔∃css,cs=css.flatten/\Fa (CV w g) l.toL css
 |.nil,cs=>by
  simp only[Z9,Zo.toL];constructor
  ·rintro rfl;exact⟨[],rfl,trivial⟩
  ·rintro ⟨css,rfl,h⟩
   match css,h with
   |[],_=>rfl
 |.cons v l,cs=>by
  simp only[Z9,Zo.toL];constructor
  ·rintro ⟨e,i,rfl,b,d⟩;obtain⟨css,rfl,f⟩:=ZdO.1 d;exact⟨e::css,rfl,b,f⟩
  ·rintro ⟨css,rfl,h⟩
   match css,h with
   |c::css,⟨b,d⟩=>exact⟨c,css.flatten,rfl,b,ZdO.2 (by grind)⟩
theorem Zl0:∀{l:Zo}{d:DV}{cs:List Value},GP l=Ua d->Z9 w g l cs->Rd w g.I d.1 d.2 cs
 |.nil,d,cs,h,b=>by
  simp only[GP,ZB]at h
  subst h;assumption
 |.cons v l,d,cs,h,b=>by
  simp only[Z9]at b;obtain⟨e,f,rfl,k,j⟩:=b
  cases v with
  |d t x=>
   simp only[GP]at h
   cases c:GP l with
   |none=>grind
   |some i=>
    obtain⟨u,y⟩:=i;rw[c]at h;simp only[ZB]at h;subst h;simp only[Rd]
    exact⟨e,f,rfl,by assumption,Zl0 c j⟩
  |_=>simp [GP]at h
theorem ZtP{l:Zo}{cs:List Value}(h:Z9 w g l cs):CV w g (Zdh l) cs/\(Zdh l).isAgg=true:=by
 unfold Zdh
 cases b:GP l with
 |none=>exact⟨by assumption,rfl⟩
 |some d=>
  refine⟨by simpa only[CV] using Zl0 b h,?_⟩
  cases l with
  |nil=>simp only[GP,ZB]at b;subst b;rfl
  |cons v l=>
   cases v with
   |d t x=>
    simp only[GP]at b;split at b
    ·cases b;rfl
    grind
   |_=>simp [GP]at b
theorem Zw0:∀(t:Ty) (cs:List Value),t.chain=Uc->t.data=Uc->Rd w g.I t (zeroEl t) cs->Z9 w g (G0 Uc t) cs:=by
 intro t
 induction t with
 |prod a b _ d=>
  intro cs f c h;simp only[Ty.data,Ve]at c;simp only[Rd]at h;obtain⟨i,e,rfl,k,j⟩:=h;simp only[G0,Z9];refine⟨i,e,rfl,?_,d e (by assumption) c.2 j⟩;simp only[Ht,c.1,Bool.true_or,Vld,Ze,CV]
  assumption
 |unit=>
  intro cs _ _ h
  assumption
 |_=>intro cs f;simp [Ty.chain]at f
def Ty.parts:Ty->List Ty
 |.prod a b=>a::b.parts
 |_=>[]
theorem Zhv:∀t:Ty,fieldsOf t=t.parts.length
 |.prod a b=>by simp [fieldsOf,Ty.parts,Zhv b]
 |.unit|.int _|.bool|.str|.sl _|.arr _ _|.ref|.pt _|.lk _ _|.pn _=>rfl
theorem Zme:∀(t:Ty) (n:Nat),t.chain=Uc->ZW t [n]=(t.parts[n]?).map fun e=>(((t.parts.take n).map Ty.size).sum,e):=by
 intro t
 induction t with
 |prod a b _ d=>
  intro n c;have c:b.chain=true:=by assumption
  cases n with
  |zero=>simp [ZW,Ty.parts]
  |succ n=>
   simp only[ZW,d n c,Ty.parts,Vva,List.take_succ_cons,Vs,List.sum_cons]
   grind
 |unit=>intro n _;rfl
 |_=>intro n c;simp [Ty.chain]at c
theorem Zop(z:Bool):∀t:Ty,(G0 z t).toL=t.parts.map (Ht z)
 |.prod a b=>by simp only[G0,Zo.toL,Ty.parts,Vs,Zop z b]
 |.unit|.int _|.bool|.str|.sl _|.arr _ _|.ref|.pt _|.lk _ _|.pn _=>rfl
theorem ZgH(z:Bool)(c:List (Nat×AV)):∀(t:Ty) (k n:Nat),(RD z c t k).toL[n]? =(t.parts[n]?).map fun d=>(c.lookup (k+n)).getD (Ht z d)
 |.prod a b,k,n=>by
  cases n with
  |zero=>rfl
  |succ n=>
   simp only[RD,Zo.toL,Ty.parts,Vva]
   rw[ZgH z c b (k+1) n,show k+1+n=k+(n+1) by omega]
 |.unit,_,_|.int _,_,_|.bool,_,_|.str,_,_|.sl _,_,_|.arr _ _,_,_|.ref,_,_|.pt _,_,_|.lk _ _,_,_|.pn _,_,_=>rfl
theorem Zk4:∀{l:Zo}{t:Ty},l.fits t=Uc->∀{n:Nat}{v:AV},l.toL[n]? =Ua v->∃d,t.parts[n]? =Ua d/\v.fits d=Uc
 |.nil,t,_,n,v,h=>by simp [Zo.toL]at h
 |.cons x l,t,c,n,v,h=>by
  cases t with
  |prod a b=>
   simp only[Zo.fits,Ve]at c
   cases n with
   |zero=>simp only[Zo.toL,Vub,ZB]at h;subst h;exact⟨a,rfl,c.1⟩
   |succ n=>simp only[Zo.toL,Vva]at h;exact Zk4 c.2 h
  |_=>simp [Zo.fits]at c
theorem ZlR{α β:Type}{f:α->Option β}{g:α->β} :∀{l:List α},(∀x∈l,f x=Ua (g x))->l.mapM f=Ua (l.map g)
 |[],_=>rfl
 |x::l,h=>by rw[List.mapM_cons,h x (by simp),ZlR fun y b=>h y (by simp [b])];rfl
theorem Zv9{T:TypeId}{n k:Ty}(x:Z3 P E)(h:E.ty T=Ua (.prod n k)):∃e c,P.underlying T=Ua (.struct e)/\k.chain=Uc/\
 e.toList.mapM (fun f=>(P.info? f.type).map fun i=>(f.offset,i.size))=Ua c/\ ∀i u,(Ty.prod n k).parts[i]? =Ua u->c[i]? =Ua ((((Ty.prod n k).parts.take i).map Ty.size).sum,u.size):=by
 have q:=(x.ty T _ h).shape
 cases A:P.underlying T with
 |none=>rw[A]at q;simp [Kd]at q
 |some d=>
  rw[A]at q
  cases d with
  |struct e=>
   simp only[Kd,Ve,Vqb,Vcc]at q;obtain⟨⟨j,m⟩,s⟩:=q;have b:(Ty.prod n k).chain=true:=s
   have y:(Ty.prod n k).parts.length<=e.size:=by
    rw[Zme _ _ b]at m
    grind
   refine⟨e,e.toList.map fun f=>(f.offset,((E.ty f.type).map Ty.size).getD 0),rfl,s,ZlR fun f C=>?_,?_⟩
   ·obtain⟨i,t,rfl⟩:=Vgb C;have l:i<e.size:=by omega
    have p:=j i l;rw[Vfa l]at p
    cases D:ZW (.prod n k) [i] with
    |none=>grind
    |some r=>
     rw[D]at p;simp only[Ve,Kj]at p;obtain⟨K,z,l,G,_⟩:=(x.ty _ _ p.1.2).info
     grind
   ·intro i u J;have t:i<e.size:=by grind
    have p:=j i t;rw[Zme _ _ b,Vfa t,J]at p
    grind
  |_=>simp [Kd]at q
theorem ZaN{α β γ:Type}[BEq α](f:β->γ)(k:α):∀l:List (α×β),(l.map fun p=>(p.1,f p.2)).lookup k=(l.lookup k).map f
 |[]=>rfl
 |(i,x)::l=>by
  simp only[Vs,Vtc,ZaN f k l]
  grind
theorem Zfg{α β:Type}[BEq α][LawfulBEq α]{k:α}{x:β} :∀{l:List (α×β)},(l.map (·.1)).Nodup->(k,x)∈l->l.lookup k=Ua x
 |(i,y)::l,b,h=>by
  simp only[Vs,List.nodup_cons]at b;rw[Vtc];rcases Vmd.1 h with h|h
  ·grind
  ·have:(k==i)=false:=by
    grind
   rw[this];exact Zfg b.2 h
theorem Zfm{n:Nat} :∀{l:List Nat},GT n l=Uc->l.Nodup/\ ∀i∈l,i<n
 |[],_=>by simp
 |i::l,h=>by
  simp only[GT,Ve,Vwa]at h;obtain⟨⟨c,e⟩,d⟩:=h;obtain⟨f,k⟩:=Zfm d;refine⟨by grind,?_⟩;intro j b;rcases Vmd.1 b with rfl|b
  ·exact Vh c
  grind
theorem ZwX(z:Bool)(t:Ty):(Ht z t).fits t=true:=by
 unfold Ht
 cases b:t.data&& (z|| !t.isSl) with
 |true=>simp [AV.fits]
 |false=>cases t<;>simp [Zf2,AV.fits]
theorem ZwZ{d b:Ty}{cs:List Value}(x:Bool)(c:b.chain=Uc)(h:G1 (.prod d b) cs=Uc):∃css,cs=css.flatten/\Fa (CV w g) ((Ty.prod d b).parts.map (Ht ((Ty.prod d b).data&& !x))) css:=by
 rw[<-Zop];apply ZdO.1
 cases x with
 |true=>rw[Bool.not_true,Bool.and_false];exact(Zf0 _ _ (Zor c h)).1
 |false=>
 rw[Vhb,Vld];unfold G1 at h
 cases e:(Ty.prod d b).data with
 |true=>
  rw[e]at h
  exact Zw0 _ _ c e (ZdM _ _ h)
 |false=>
  rw[e]at h;exact(Zf0 _ _ h).1
theorem Zos{z:Bool} :∀{l:List Ty}{css:List (List Value)},Fa (CV w g) (l.map (Ht z)) css->css.map Vha=l.map Ty.size
 |[],[],_=>rfl
 |t::l,c::css,⟨b,d⟩=>by rw[Vs,Vs,CV.length _ t c (ZwX z t) b,Zos d]
theorem Zsi{v:AV}{t:Ty}(h:v.fits t=Uc):∀l,v≠ .tup l:=by rintro l rfl;simp [AV.fits]at h
theorem Zqi{T:TypeId}{f h:Ty}{e:List (Nat×Operand)}(V:Z3 P E)(Y:E.ty T=Ua (.prod f h))(hF:Fr w g F a.tmps)(hp:GT (fieldsOf (.prod f h)) (e.map (·.1))=Uc)
 (x:Bool) (hf:(RD (Ty.data (.prod f h) && !x) (e.map fun p=>(p.1,Zx F p.2)) (.prod f h) 0).fits (.prod f h)=Uc):
 ∃cells,P.built T (e.map fun p=>(p.1,a.eval p.2))=Ua cells/\Z9 w g (RD (Ty.data (.prod f h) && !x) (e.map fun p=>(p.1,Zx F p.2)) (.prod f h) 0) cells.toList:=by
 obtain⟨fs,r,hu,K,a1,u⟩:=Zv9 V Y;obtain⟨i,z,hi,_,_,hz,A,_⟩:=(V.ty T _ Y).info;obtain⟨d,W,s⟩:=ZwZ (w:=w) (g:=g) x K A;have j:=Zfm hp;have l:d.map Vha=(Ty.prod f h).parts.map Ty.size:=Zos s;have hn:d.length=(Ty.prod f h).parts.length:=by have:=congrArg Vha l;grind
 have G:∀k y,(k,y)∈e->∃m,(Ty.prod f h).parts[k]? =Ua m/\(Zx F y).fits m=Uc/\e.lookup k=Ua y:=by
  intro k y S;have N:=Zfg j.1 S;have X:=j.2 k (by grind);rw[Zhv]at X;have C:=ZgH (Ty.data (.prod f h) && !x) (e.map fun p=>(p.1,Zx F p.2)) (.prod f h) 0 k;rw[ZaN,Vp,N,Vaa X]at C;obtain⟨m,Z,D⟩:=Zk4 hf C
  grind
 have L:∀x m,(Zx F x).fits m=Uc->CV w g (Zx F x) (a.eval x).cells.toList:=fun x m S=>((hF.eval x).to1 (Zsi S)).1
 have M:=ZeO (place:=(r.toArray[·]?)) (lens:=(Ty.prod f h).parts.map Ty.size) (by
  simp_all) (e.map fun p=>(p.1,a.eval p.2)) d l (by
  intro p Q;obtain⟨q,hq,rfl⟩:=Vwb.1 Q;obtain⟨m,Z,D,_⟩:=G q.1 q.2 hq;refine⟨m.size,by grind,?_⟩;have:=CV.length _ m _ D (L q.2 m D);omega)
 refine⟨(Ds d (e.map fun p=>(p.1,a.eval p.2))).flatten.toArray,?_,?_⟩
 ·unfold Program.built;have a2:z.cells=d.flatten.toArray:=by grind
  grind
 ·apply ZdO.2;refine⟨Ds d (e.map fun p=>(p.1,a.eval p.2)),rfl,ZbC ?_ ?_⟩
  ·rw[ZfC]
   have:∀z (t:Ty) e k,(RD z e t k).toL.length=t.parts.length:=by
    intro z t
    induction t with
    |prod a b _ U=>intro e k;simp [RD,Zo.toL,Ty.parts,U]
    |_=>intro e k;rfl
   grind
  ·intro n v c R J;rw[ZgH,ZaN,Vp]at R
   have O:n<d.length:=by
    grind
   rw[ZfB _ _ (by rw[Vxb,hn, <-Zhv];assumption) n O,ZaN]at J
   cases N:e.lookup n with
   |none=>
    rw[N]at J R;simp only[Vm,Vuc]at J R;obtain⟨c',h1,C⟩:=s.get n v (by grind)
    grind
   |some x=>
    grind
theorem Zeg{t:Ty}{b:List (Nat×AV)} :∀{m k:Nat}{l:List (El t)},Zai t b m k=Ua l->l.length=m/\ ∀j,(h:j<l.length)->(b.lookup (k+j)).getD (.d t (zeroEl t))=.d t l[j]
 |0,k,l,h=>by
  simp only[Zai,ZB]at h
  grind
 |m+1,k,l,h=>by
  simp only[Zai]at h;split at h
  ·rename_i q x n;simp only[Vu]at h;obtain⟨y,e,p,c,h⟩:=h;cases h;obtain⟨rfl,rfl⟩:=KE e;obtain⟨f,i⟩:=Zeg c
   grind
  grind
theorem Zmt{c:List (Nat×Operand)} :∀{b:List (Nat×AV)},Fa (fun p q=>q.1=p.1/\VR w g q.2 (a.eval p.2)) c b->∀k,(c.lookup k=Ub/\b.lookup k=Ub)\/ ∃x v,c.lookup k=Ua x/\b.lookup k=Ua v/\VR w g v (a.eval x):=by
 induction c with
 |nil=>intro b h k;cases b with|nil=>simp|cons q b=>exact h.elim
 |cons p c i=>
  intro b h k
  cases b with
  |nil=>exact h.elim
  |cons q b=>
   obtain⟨⟨d,e⟩,f⟩:=h
   grind
theorem Zmu(hF:Fr w g F a.tmps):∀b:List (Nat×Operand),Fa (fun p q=>q.1=p.1/\VR w g q.2 (a.eval p.2)) b (b.map fun p=>(p.1,Zx F p.2))
 |[]=>trivial
 |p::b=>⟨⟨rfl,hF.eval p.2⟩,Zmu hF b⟩
theorem ZjX{e:Ty}{s:List (Nat×Operand)}{M:List (Nat×AV)}{n:Nat}{l:List (El e)}{css:List (List Value)}(C:Fa (fun p q=>q.1=p.1/\VR w g q.2 (a.eval p.2)) s M)(T:GT n (s.map (·.1))=Uc)
 (Q:Zai e M n 0=Ua l) (j:Fa (Rd w g.I e) (Vf n (zeroEl e)) css):
 ∃f,Vbd (fun i=>Ua (i*e.size,e.size)) css.flatten.toArray (s.map fun p=>(p.1,a.eval p.2))=Ua f.flatten.toArray/\Fa (Rd w g.I e) l f:=by
 obtain⟨J,h⟩:=Zeg Q;have b:=Zfm T;have O:css.length=n:=by rw[<-j.length,Vx]
 have m:css.map Vha=Vf n e.size:=by apply List.eq_replicate_iff.2;refine⟨by grind,?_⟩;intro c y;obtain⟨d,R,rfl⟩:=Vwb.1 y;exact Rd.all_length j d R
 have G:∀k x,s.lookup k=Ua x->(z:k<l.length)->Rd w g.I e l[k] (a.eval x).cells.toList:=by
  intro k x L z;have r:=h k z;rw[Vp]at r;rcases Zmt C k with ⟨u,_⟩|⟨V,U,u,A,D⟩
  ·grind
  rw[L]at u;cases u;rw[A]at r;simp only[Vca]at r;rw[r]at D;have t:Ko w g (.d e l[k]) (a.eval x):=D;simpa only[CV] using t.1
 obtain⟨r,D⟩:=ZeO (place:=fun i=>Ua (i*e.size,e.size)) (lens:=Vf n e.size) (by
  intro i N;simp only[Vx]at N
  simp [Vfc,Vyb (Nat.le_of_lt N)]) (s.map fun p=>(p.1,a.eval p.2)) css m (by
  intro p K;obtain⟨q,C,rfl⟩:=Vwb.1 K;have z:=b.2 q.1 (by grind);refine⟨e.size,by grind,?_⟩;have:=Rd.length _ _ _ (G q.1 q.2 (Zfg b.1 C) (by omega));omega)
 refine⟨_,r,ZbC (by rw[ZfC,J,O]) ?_⟩;intro k x c L y;obtain⟨z,rfl⟩:=Vw.1 L;rw[ZfB _ _ (by rw[Vxb,O];assumption) k (by omega),ZaN]at y
 cases S:s.lookup k with
 |none=>
  rw[S]at y;simp only[Vm]at y;have t:=h k z;rw[Vp]at t
  have A:M.lookup k=none:=by
   rcases Zmt C k with ⟨_,A⟩|⟨V,U,u,_⟩
   all_goals grind
  rw[A]at t;simp only[Vuc,AV.d.injEq,heq_eq_eq,true_and]at t;obtain⟨W,X,u⟩:=j.get k (zeroEl e) (by grind)
  grind
 |some x=>
  grind
theorem ZjE{T:TypeId}{n:Nat}{t:Ty}(f:Z3 P E)(h:E.ty T=Ua (.arr n t)):∃c,P.underlying T=Ua (.array n c)/\E.ty c=Ua t:=by
 have b:=(f.ty T _ h).shape
 cases e:P.underlying T with
 |none=>rw[e]at b;simp [Kd]at b
 |some d=>
  rw[e]at b
  cases d<;>simp [Kd]at b
  grind
end ops
end Tr
end
section
namespace Tr
open Go
section
variable {B:Z1}{H:AH}{w:World}{g:Gh}{ow:Nat->Nat->Prop}{F:Nat->AV}{I:Nat->Prop}
theorem Kw.of_vec{b:Nat}{cs:Array Value}{e:TypeId}{css:List (List Value)}(h:w.heap[b]? =Ua (.cells cs e (0,0)))(f:css.flatten<+:cs.toList):Kw w b 0 css.flatten:=by
 intro j i;obtain⟨r,k⟩:=f;have d:css.flatten.length<=cs.toList.length:=by grind
 simp only[Vac,h,Vib,Vy,if_false,Vp];have c:j<cs.size:=by grind
 rw[Vfa c];congr 1;have:cs.toList[j]'(by omega)=css.flatten[j]:=by grind
 grind
theorem ZpY(t:Ty)(cs:List Value)(x:List (El t))(ids l c:List Nat)(h:(Kk (.sl t) (.nils)).run H l=Ua ((x,ids),c))(b:CV w g (.nils) cs):Rd w I (.sl t) x cs:=by simp only[Kk,Zf,Vc]at h;obtain⟨⟨rfl,rfl⟩,_⟩:=h;simp only[CV]at b;exact⟨Ub,0,[],b,trivial,by simp,Vg _⟩
theorem Zp2(j:RH B H w g ow)(i:∀b,g.I b->I b)(t:Ty){id:Nat}(cs:List Value)(x:List (El t))(ids l p:List Nat)(h:(Kk (.sl t) (.vw id)).run H l=Ua ((x,ids),p))(c:CV w g (.vw id) cs)(m:∀b,ZL H ow ids b->I b):Rd w I (.sl t) x cs:=by
 simp only[Kk]at h;rw[ZX]at h;split at h
 ·rename_i n xs d;simp only[Zy,Zf,Vc]at h;obtain⟨y,f,⟨rfl,rfl⟩,_⟩:=h;obtain⟨e,rfl⟩:=KE f;cases e;simp only[CV]at c;rw[c.2.1];exact Zob (j.objs id _ d).2 i fun b k=>m b ⟨id,by simp,by grind,k⟩
 ·rename_i n xs u d;simp only[Zy,Zf,Vc]at h;obtain⟨y,f,⟨rfl,rfl⟩,_⟩:=h;obtain⟨e,rfl⟩:=RE f;subst e;simp only[CV]at c;rw[c.2.1];exact Znf (j.objs id _ d).2 i fun b k=>m b ⟨id,by simp,by grind,k⟩
 ·rename_i n xs d;simp only[Zy,Zf,Vc]at h;obtain⟨y,f,⟨rfl,rfl⟩,_⟩:=h;obtain⟨e,rfl⟩:=KE f;cases e;simp only[CV]at c;rw[c.2.1];exact Rd.mono (fun _ _=>rfl) i _ _ _ (j.objs id _ d).2.2
 ·simp [Zb]at h
theorem ZpZ(u:RH B H w g ow)(q:∀b,g.I b->I b)(t:Ty){id ver:Nat}{j:Ty}{k:El j}(cs:List Value)(x:List (El t))(ids l C:List Nat)(h:(Kk (.sl t) (.nw id ver j k)).run H l=Ua ((x,ids),C))(e:CV w g (.nw id ver j k) cs)(s:∀b,ZL H ow ids b->I b):Rd w I (.sl t) x cs:=by simp only[Kk,Z0,Zy,Zf,Vc]at h;obtain⟨r,m,c,y,A,⟨rfl,rfl⟩,_⟩:=h;obtain⟨n,rfl⟩:=RE A;obtain⟨D,row⟩:=r;simp only at n;subst n;have f:=e;simp only[CV]at e;obtain⟨_,_,v,rfl,p,_⟩:=e;obtain⟨i,_,_,_,d⟩:=Zbf u (KK f p rfl) c;exact d.data q fun b z=>s b ⟨id,by simp,i,z⟩
theorem Zp1(J:RH B H w g ow)(D:∀b,g.I b->I b)(t:Ty){id lo n:Nat}(cs:List Value)(x:List (El t))(ids l Q:List Nat)(h:(Kk (.sl t) (.vs id lo n)).run H l=Ua ((x,ids),Q))(s:CV w g (.vs id lo n) cs)(G:∀b,ZL H ow ids b->I b):Rd w I (.sl t) x cs:=by
 simp only[Kk]at h;rw[ZX]at h;split at h
 ·rename_i V xs C;simp only[Zy,Zf,Vc]at h;obtain⟨y,O,⟨rfl,rfl⟩,_⟩:=h;obtain⟨K,rfl⟩:=KE O;cases K;simp only[CV]at s;obtain⟨_,A⟩:=s;obtain⟨_,q,i⟩:=J.objs id _ C;rw[q]at A;rcases A with ⟨z,rfl,rfl,rfl⟩|⟨b,len,cap,m,z,S,T,U,rfl⟩
  ·exact⟨Ub,0,[],by simp,by simp;trivial,by simp,by simp⟩
  ·rcases i with ⟨_,_,d⟩|⟨R,r,cells,e,k,_,M,d,L,_,_,f,j⟩
   ·grind
   ·rw[z]at d;simp only[Vj.injEq,ZB,Addr.mk.injEq,and_true]at d;obtain⟨rfl,rfl,rfl⟩:=d;have u:((xs.drop lo).take n).length=n:=by grind
    refine⟨Ua ⟨b,if m=0 then 0 else lo*t.size,Ub⟩,m,(k.drop lo).take n,?_,((f.drop lo).take n).mono fun x c N=>Rd.mono (fun _ _=>rfl) D t x c N,fun p=>⟨b,lo*t.size,?_,G b ⟨id,by simp,by grind,M⟩,?_⟩,?_⟩
    ·grind
    ·have:0<((xs.drop lo).take n).length:=Vgc.2 p
     grind
    ·have:=Kw.part (off:=0) (l:=lo) (n:=n) (Rd.all_length f) (by rw[<-f.length];omega) (Kw.of_vec L j)
     grind
    grind
 ·simp [Zb]at h
theorem Zmb{a b:Ty}{y:El (ZaQ a b)}{p off:Nat}{c:List Value}(l:I p)(k:Kw w p off c)(h:Rd w I (ZaQ a b) y c):Rd w I (.lk a b) ((y.1,y.2.2)::y.2.1) [.pointer (Ua ⟨p,off,Ub⟩)]:=by simp only[Rd]at h⊢;obtain⟨d,m,rfl,f,c3,e,rfl,i,j⟩:=h;exact⟨p,off,d,c3,e,rfl,l,k,f,i,j⟩
theorem ZpW(e:∀b,g.I b->I b)(a b:Ty){d:Ty}{y:El d}(cs:List Value)(x:List (El a×El b))(ids l n:List Nat)(h:(Kk (.lk a b) (.dp d y)).run H l=Ua ((x,ids),n))(f:CV w g (.dp d y) cs):Rd w I (.lk a b) x cs:=by simp only[Kk,Zy,Zf,Vc]at h;obtain⟨z,m,⟨rfl,rfl⟩,_⟩:=h;obtain⟨rfl,rfl⟩:=KE m;simp only[CV]at f;obtain⟨p,off,c,rfl,i,j,k⟩:=f;exact Zmb (e _ i) j (Rd.mono (fun _ _=>rfl) e _ _ _ k)
theorem Zoa(s:RH B H w g ow)(q:∀b,g.I b->I b){id:Nat}{x f:Ty}{y:El f}{cs:List Value}(k:H id=Ua (.var x (.d f y)))(l:CV w g (.ptr id []) cs)(r:∀b,ZL H ow [id] b->I b):∃b cells e,cs=[.pointer (Ua ⟨b,0,Ub⟩)]/\I b/\w.heap[b]? =Ua (.cells cells e (0,0))/\Rd w I f y cells.toList:=by simp only[CV]at l;obtain⟨_,o,t,b,h,m,rfl⟩:=l;obtain⟨_,u,C,z,c,e,i,n,p,A,j⟩:=s.objs id _ k;rw[Wg,ZB,Vc]at h;obtain⟨rfl,_⟩:=h;rw[m]at i;cases i;simp only[CV]at j;exact⟨b,c,e,rfl,r b ⟨id,by simp,by rw[k];simp,n⟩,p,Rd.mono (fun _ _=>rfl) q _ _ _ j⟩
theorem Zp0(f:RH B H w g ow)(d:∀b,g.I b->I b)(t:Ty){id:Nat}(cs:List Value)(x:Option (El t))(ids l k:List Nat)(h:(Kk (.pt t) (.ptr id [])).run H l=Ua ((x,ids),k))(i:CV w g (.ptr id []) cs)(e:∀b,ZL H ow ids b->I b):Rd w I (.pt t) x cs:=by
 simp only[Kk,Vvc,Ze]at h;rw[ZX]at h;split at h
 ·rename_i n m y c;simp only[Zy,Zf,Vc]at h;obtain⟨z,j,⟨rfl,rfl⟩,_⟩:=h;obtain⟨rfl,rfl⟩:=KE j;exact Zoa f d c i e
 ·simp [Zb]at h
theorem ZpX(n:RH B H w g ow)(k:∀b,g.I b->I b)(a b:Ty){id:Nat}(cs:List Value)(x:List (El a×El b))(ids l s:List Nat)(h:(Kk (.lk a b) (.ptr id [])).run H l=Ua ((x,ids),s))(q:CV w g (.ptr id []) cs)(m:∀b,ZL H ow ids b->I b):Rd w I (.lk a b) x cs:=by
 simp only[Kk,Vvc,Ze]at h;rw[ZX]at h;split at h
 ·rename_i u t y j;simp only[Zy,Zf,Vc]at h;obtain⟨z,r,⟨rfl,rfl⟩,_⟩:=h;obtain⟨rfl,rfl⟩:=KE r;obtain⟨p,c,e,rfl,d,f,i⟩:=Zoa n k j q m;refine Zmb d ?_ i;have:=Kw.of_vec (w:=w) (b:=p) (css:=[c.toList]) f (by simp);simpa using this
 ·simp [Zb]at h
mutual
theorem RA(j:RH B H w g ow)(i:∀b,g.I b->I b):∀(t:Ty) (v:AV) (cs:List Value) (x:El t) (ids l e:List Nat),(Kk t v).run H l=Ua ((x,ids),e)->CV w g v cs->(∀b,ZL H ow ids b->I b)->Rd w I t x cs
 |t,.d M y,cs,x,ids,l,e,h,c,_=>by
  simp only[Kk,Zy,Zf,Vc]at h;obtain⟨z,J,⟨rfl,rfl⟩,_⟩:=h;obtain⟨rfl,rfl⟩:=KE J
  exact Rd.mono (fun _ _=>rfl) i _ _ cs (by simpa only[CV] using c)
 |t,.nils,cs,x,ids,l,e,h,c,f=>by
  cases t with
  |sl t=>exact ZpY t cs x ids l e h c
  |_=>simp [Kk,Zb]at h
 |t,.vw id,cs,x,ids,l,e,h,c,f=>by
  cases t with
  |sl t=>exact Zp2 j i t cs x ids l e h c f
  |_=>simp [Kk,Zb]at h
 |t,.vs id lo n,cs,x,ids,l,e,h,c,f=>by
  cases t with
  |sl t=>exact Zp1 j i t cs x ids l e h c f
  |_=>simp [Kk,Zb]at h
 |t,.nw id ver Q k,cs,x,ids,l,e,h,c,f=>by
  cases t with
  |sl t=>exact ZpZ j i t cs x ids l e h c f
  |_=>simp [Kk,Zb]at h
 |t,.np _ _ _ _ _ _,_,_,_,_,_,h,_,_=>by simp [Kk,Zb]at h
 |t,.agg vs,cs,x,ids,l,e,h,c,f=>by
  simp only[Kk]at h;simp only[CV]at c
  exact ZjF j i t vs cs x ids l e h c f
 |t,.junk,_,_,_,_,_,h,_,_=>by simp [Kk,Zb]at h
 |t,.tup _,_,_,_,_,_,h,_,_=>by simp [Kk,Zb]at h
 |t,.dp M y,cs,x,ids,l,e,h,c,f=>by
  cases t with
  |lk a b=>exact ZpW i a b cs x ids l e h c
  |_=>simp [Kk,Zb]at h
 |t,.ptr id [],cs,x,ids,l,e,h,c,f=>by
  cases t with
  |pt t=>exact Zp0 j i t cs x ids l e h c f
  |lk a b=>exact ZpX j i a b cs x ids l e h c f
  |_=>simp [Kk,Zb]at h
 |t,.ptr id (_::_),cs,x,ids,l,e,h,c,f=>by
  cases t<;>simp [Kk,Zb]at h
 |t,.vp _ _ _,_,_,_,_,_,h,_,_=>by simp [Kk,Zb]at h
 |t,.mp _,_,_,_,_,_,h,_,_=>by simp [Kk,Zb]at h
 |t,.fn _ _,_,_,_,_,_,h,_,_=>by simp [Kk,Zb]at h
 |t,.nilr p,cs,x,ids,l,e,h,c,_=>by
  cases p with
  |true=>
   have c:=Zl9 c
   cases t with
   |pt t=>
    simp only[Kk,Ze,Zf,Vc]at h;obtain⟨⟨rfl,_⟩,_⟩:=h
    exact c
   |lk a b=>
    simp only[Kk,Ze,Zf,Vc]at h;obtain⟨⟨rfl,_⟩,_⟩:=h
    exact c
   |pn t=>
    simp only[Kk,Ze,Zf,Vc]at h;obtain⟨⟨rfl,_⟩,_⟩:=h
    exact c
   |_=>simp [Kk,Zb]at h
  |false=>cases t<;>simp [Kk,Zb]at h
 |t,.jk _,_,_,_,_,_,h,_,_=>by simp [Kk,Zb]at h
theorem ZjF(j:RH B H w g ow)(i:∀b,g.I b->I b):∀(t:Ty) (v:Zo) (cs:List Value) (x:El t) (ids l e:List Nat),(X7 t v).run H l=Ua ((x,ids),e)->Z9 w g v cs->(∀b,ZL H ow ids b->I b)->Rd w I t x cs
 |.unit,.nil,cs,x,ids,l,e,h,c,_=>by simpa [Z9,Rd] using c
 |.prod a b,.cons v vs,cs,x,ids,l,e,h,c,f=>by
  simp only[X7,Z0,Zf,Vc]at h;obtain⟨⟨N,K⟩,R,A,⟨O,L⟩,m2,C,⟨rfl,rfl⟩,_⟩:=h;simp only[Z9]at c;obtain⟨s,u,rfl,D,G⟩:=c;simp only[Rd]
  exact⟨s,u,rfl,RA j i a v s N K _ _ A D fun b m=>f b (let ⟨id,q,r⟩:=m;⟨id,by simp [q],r⟩),ZjF j i b vs u O L _ _ C G fun b m=>f b (let ⟨id,q,r⟩:=m;⟨id,by simp [q],r⟩)⟩
 |.unit,.cons _ _,_,_,_,_,_,h,_,_=>by simp [X7,Zb]at h
 |.prod _ _,.nil,_,_,_,_,_,h,_,_=>by simp [X7,Zb]at h
 |.int _,_,_,_,_,_,_,h,_,_=>by simp [X7,Zb]at h
 |.bool,_,_,_,_,_,_,h,_,_=>by simp [X7,Zb]at h
 |.str,_,_,_,_,_,_,h,_,_=>by simp [X7,Zb]at h
 |.sl _,_,_,_,_,_,_,h,_,_=>by simp [X7,Zb]at h
 |.arr _ _,_,_,_,_,_,_,h,_,_=>by simp [X7,Zb]at h
 |.ref,_,_,_,_,_,_,h,_,_=>by simp [X7,Zb]at h
 |.pt _,_,_,_,_,_,_,h,_,_=>by simp [X7,Zb]at h
 |.lk _ _,_,_,_,_,_,_,h,_,_=>by simp [X7,Zb]at h
 |.pn _,_,_,_,_,_,_,h,_,_=>by simp [X7,Zb]at h
end
theorem Zr9{t:Ty}{x:El t}{u:Ty}(h:(Yr t x).fits t=Uc)(_:u=t):t.agg=true:=by
 cases t<;>simp [Yr,Zo.fits]at h<;>rfl
theorem Zgw{t:Ty}{v:AV}{r:El t×List Nat}{l c:List Nat}(h:(Kk t v).run H l=Ua (r,c)):v≠ .junk/\v.isAgg=t.agg:=by
 cases v with
 |d e x=>
  simp only[Kk,Zy,Zf]at h;obtain⟨z,b,_⟩:=h;obtain⟨rfl,_⟩:=KE b
  exact⟨by simp,rfl⟩
 |agg vs=>
  simp only[Kk]at h
  cases t<;>cases vs<;>simp [X7,Zb]at h<;>exact⟨by simp,rfl⟩
 |ptr id p=>cases p<;>cases t<;>simp [Kk,Zb]at h<;>exact⟨by simp,rfl⟩
 |nilr p=>cases p<;>cases t<;>simp [Kk,Zb]at h<;>exact⟨by simp,rfl⟩
 |_=>cases t<;>simp [Kk,Zb]at h<;>exact⟨by simp,rfl⟩
theorem Zmq{i j:List Nat}(h:∀id∈i,id∈j){b:Nat}(e:ZL H ow i b):ZL H ow j b:=
 let ⟨id,c,d⟩:=e;⟨id,h id c,d⟩
theorem RH.freezeIds{ids:List Nat}(d:RH B H w g ow):RH B (Zp H (ids.map fun id=>(id,Ub))) w (g.grow (ZL H ow ids)) ow:=by
 refine(d.drops ids).grow fun b i=>?_;obtain⟨k,h,e,f⟩:=i;obtain⟨p,q,r⟩:=d.sep k b e f;refine⟨q,.inr r,fun id c l=>?_⟩;rw[DU]at c;split at c
 ·grind
 ·rename_i j;exact j (d.dist id k b c e l f▸h)
theorem ZcS{B C:Z1}{j:AH}{w0:World}{g0:Gh}{e:Nat->Nat->Prop}(n:RH C j w0 g0 e){w:World}{g:Gh}(c:g0.Le g)(i:∀b,g0.I b->w.heap[b]? =w0.heap[b]?):∀(br:List Nat) (ds:Kx) (l z:List Nat),(DR br).run j l=Ua (ds,z)->(∀id∈br,∀b,j id≠Ub->e id b->g.I b/\w.heap[b]? =w0.heap[b]?)->
 ∀{H:AH}{ow:Nat->Nat->Prop},RH B H w g ow->∃A,RH B (Zp H ds) w g A
 |[],ds,l,z,h,_,H,ow,d=>by
  simp only[DR,Zf]at h;obtain⟨rfl,_⟩:=h
  exact⟨ow,d⟩
 |id::br,ds,l,z,h,D,H,ow,d=>by
  simp only[DR]at h;rw[ZX]at h;split at h
  ·rename_i t xs s;simp only[Z0,Zf]at h;obtain⟨p,m,r,rfl,_⟩:=h;obtain⟨f,k⟩:=n.objs id _ s;have x:j id≠none:=by grind
   have y:Rd w g.I (.sl t) xs [g.slv id]:=by rw[c.slv _ f];exact Rd.mono (I:=fun b=>g0.I b\/e id b) (fun b q=>by grind) (fun b q=>q.elim (c.I b) (by grind)) _ _ _ (Zob k (by grind) (by grind))
   exact ZcS n c i br p _ _ r (by grind) (d.putDat (c.K _ f) ((c.ty _ f).trans k.1) y)
  ·rename_i t xs u s;simp only[Z0,Zf]at h;obtain⟨p,m,r,rfl,_⟩:=h;obtain⟨f,k⟩:=n.objs id _ s;have x:j id≠none:=by grind
   have y:Rd w g.I (.sl (.sl t)) xs [g.slv id]:=by rw[c.slv _ f];exact Rd.mono (I:=fun b=>g0.I b\/e id b) (fun b q=>by grind) (fun b q=>q.elim (c.I b) (by grind)) _ _ _ (Znf k (by grind) (by grind))
   exact ZcS n c i br p _ _ r (by grind) (d.putDat (c.K _ f) ((c.ty _ f).trans k.1) y)
  ·exact ZcS n c i br ds _ _ h (by grind) d
theorem Zq.dats{B:Z1}{H1:AH}{nid:Nat}{v:AV}{r:Result Next}{ids:List Nat}{ds:Kx}{l x:List Nat}(u:RH B H w g ow)(j:(DR ids).run H l=Ua (ds,x))(h:Zq B H1 w (g.grow (ZL H ow ids)) nid v r):Zq B (Zp H1 ds) w (g.grow (ZL H ow ids)) nid v r:=by obtain⟨val,z,m,y,n,p,f,i,q,s⟩:=h;obtain⟨k,t⟩:=ZcS u ((g.le_grow _).trans f) (fun b e=>i b (.inl e)) ids ds _ _ j (fun id c b d e=>⟨f.I b (.inr ⟨id,c,d,e⟩),i b (.inr ⟨id,c,d,e⟩)⟩) p;exact⟨val,z,m,k,n,t,f,i,q,s⟩
theorem Zlc{a:Act}{e:Ty}(s:RH B H w g ow)(hF:Fr w g F a.tmps){J:Nat->Prop} :∀(d:List (Nat×Operand)) (f:List (Nat×AV)) (ids l k:List Nat),(Zc4 e (d.map fun p=>(p.1,Zx F p.2))).run H l=Ua ((f,ids),k)->
 (∀b,ZL H ow ids b->J b)->Fa (fun p q=>q.1=p.1/\VR w (g.grow J) q.2 (a.eval p.2)) d f
 |[],f,ids,l,k,h,_=>by
  simp only[Vod,Zc4,Zf,Vc]at h;obtain⟨⟨rfl,_⟩,_⟩:=h
  trivial
 |p::d,f,ids,l,k,h,n=>by
  simp only[Vs,Zc4,Z0,Zf,Vc]at h;obtain⟨⟨x,C⟩,G,c,⟨r,D⟩,K,u,⟨rfl,rfl⟩,_⟩:=h;refine⟨⟨rfl,?_⟩,Zlc s hF d r D _ _ u fun b i=>n b (Zmq (by grind) i)⟩;obtain⟨z,y⟩:=Zgw c
  have j:∀m,Zx F p.2≠ .tup m:=by
   intro m A;rw[A]at c
   cases e<;>simp [Kk,Zb]at c
  have t:=(hF.eval p.2).to1 j;refine .of1 ⟨?_,.inr ?_⟩
  ·simp only[CV];exact RA (I:=(g.grow J).I) s (fun _ h=>.inl h) e _ _ x C _ _ c t.1 fun b i=>.inr (n b <| Zmq (by grind) i)
  ·rw[t.2.resolve_left z,y];rfl
end
section ops
variable {P:Program}{E:Ka}{B:Z1}{H:AH}{w:World}{g:Gh}{ow:Nat->Nat->Prop}{nid:Nat}{a:Act}{F:Nat->AV}{v:AV}{patch:Kx}{rd:List Nat}{o:Oper}
theorem Zpp{T:TypeId}{u:Array (Nat×Operand)}(q:Z3 P E)(G:RH B H w g ow)(hF:Fr w g F a.tmps)(M:o.op=.build T u)
 (h:(ZN E nid o.op o.type (Zx F)).run H []=Ua ((v,patch),rd)):Zq B (Zp H patch) w g nid v ((execOp a.eval o).run P w):=by
 rw[M]at h;simp only[ZN,Zy]at h;obtain⟨t,N,h⟩:=h;have s:(u.map fun(i,x)=>(i,a.eval x)).toList=u.toList.map fun p=>(p.1,a.eval p.2):=by simp
 have fin:∀{cells:Array Value},P.built T (u.toList.map fun p=>(p.1,a.eval p.2))=Ua cells->patch=[]->CV w g v cells.toList->v.isAgg=Uc->Zq B (Zp H patch) w g nid v ((execOp a.eval o).run P w):=by intro cells r j hv J;subst j;refine Zq.pure G (val:=.agg cells) ?_ (VR.of1 ⟨by assumption,.inr (by rw[J];rfl)⟩);simp only[execOp,M,Vb];rw[run_build w T _ cells (by grind)];rfl
 split at h
 ·rename_i S U;simp only[ZJ,Zf,Zb,ZP,false_or,Z6,Vi,Vc]at h;obtain⟨j,X,h⟩:=h;obtain⟨cells,V,C⟩:=Zqi q N hF j (E.zx T) X;obtain⟨W,h4⟩:=ZtP C;rcases h with ⟨_,h⟩|⟨_,⟨rfl,rfl⟩,_⟩
  ·simp only[Z0,Zf,Vc]at h;obtain⟨⟨y,ids⟩,m,K,⟨rfl,rfl⟩,_⟩:=h;have f:=g.le_grow (ZL H ow ids);have Z:Rd w (g.grow (ZL H ow ids)).I (.prod S U) y cells.toList:=RA G (fun b r=>f.I b r) _ _ _ _ _ _ _ K W (fun b r=>.inr r);refine Zq.after_le f (fun _ h=>h) (Zq.pure (val:=.agg cells) G.freezeIds ?_ (VR.of1 ⟨by assumption,.inr rfl⟩));simp only[execOp,M,Vb];rw[run_build w T _ cells (by grind)];rfl
  grind
 ·rename_i n e;simp only[ZJ,Zy,Zf,Zb,ZP,false_or,Vba,Vi,Vc]at h;obtain⟨⟨j,K⟩,l,Q,⟨rfl,rfl⟩,_⟩:=h;obtain⟨R,hu,D⟩:=ZjE q N;obtain⟨i,z,hi,_,_,hz,c,_⟩:=(q.ty T _ N).info;obtain⟨ie,ze,Y,a1,_⟩:=(q.ty R _ D).info
  have k:Rd w g.I (.arr n e) (zeroEl (.arr n e)) z.cells.toList:=by unfold G1 at c;rw[show (Ty.arr n e).data=Uc from K]at c;exact ZdM _ _ c
  simp only[Rd]at k;obtain⟨_,A,O,L⟩:=k;obtain⟨d,V,C⟩:=ZjX (Zmu hF _) j Q L;refine fin (cells:=d.flatten.toArray) ?_ rfl ?_ rfl
  ·unfold Program.built;have a2:z.cells=A.flatten.toArray:=by grind
   grind
  ·simp only[CV,Rd];exact⟨(Zeg Q).1,d,rfl,C⟩
 ·simp [Zb]at h
end ops
end Tr
end
section
namespace Tr
open Go
theorem Zco(z:Array Value):∀n:Nat,((Vsa (n*z.size)).map (z[· % z.size]!)).toList=(Vf n z.toList).flatten
 |0=>by simp
 |n+1=>by
  have b:=Zco z n;simp only[Vtb,Array.toList_range]at b⊢;rw[Vma,Nat.one_mul,List.range_add,Vyc,b,List.replicate_succ',Vja,Vxb];congr 1;simp only[Vob,List.flatten_nil,List.append_nil];apply List.ext_getElem
  ·simp
  ·intro i d e;have c:i<z.size:=by omega
   simp only[List.getElem_map,List.getElem_range,Function.comp];rw[Nat.mul_comm,Nat.mul_add_mod,Nat.mod_eq_of_lt c]
   grind
section ops
variable {P:Program}{E:Ka}{B:Z1}{H:AH}{w:World}{g:Gh}{ow:Nat->Nat->Prop}{nid:Nat}{a:Act}{F:Nat->AV}{v:AV}{patch:Kx}{rd:List Nat}{o:Oper}
theorem Zfc(A:RH B H w g ow)(j:¬g.K nid){t:Ty}{T:TypeId}{xs:List (El t)}{css:List (List Value)}{cap:Nat}{cells:Array Value}(k:Fa (Rd w g.I t) xs css)
 (D:css.flatten<+:cells.toList) (i:xs.length<=cap) (l:cap*t.size<=cells.size) {r:Result Next}{w1:World} (e:Jh w w1)
 (G:r=.ok (.value (.slice (Ua ⟨w.heap.size,0,Ub⟩) xs.length cap)) (w1.alloc (.cells cells T))):Zq B (ZY H nid (Ua (.vec t xs))) w g nid (.vw nid) r:=by
 have h:=A.same e;have f:w1.heap.size=w.heap.size:=by rw[e.heap]
 have key:Zq B (ZY H nid (Ua (.vec t xs))) w1 g nid (.vw nid) r:=by
  refine Zq.new' (t:=t) (sv:=.slice (Ua ⟨w1.heap.size,0,Ub⟩) xs.length cap) h j (f▸G) ?_ ?_
  ·refine⟨by simp [Gh.add],.inr ⟨w1.heap.size,cap,cells,T,css,by simp [Gh.add],rfl,by simp [Gh.add],G7 _ _,i,l,?_,D⟩⟩;refine k.mono fun x c J=>?_;have:=Zjo (x:=.d t x) (cs:=c) h j (t:=t) (sv:=.slice (Ua ⟨w1.heap.size,0,Ub⟩) xs.length cap) (b:=Ua w1.heap.size) (ob:=.cells cells T) (by simp only[CV];exact Rd.mono (e.agree _) (by simp) t x c J)
   assumption
  ·refine KK ?_ rfl rfl;simp only[CV];exact⟨.inl rfl,by simp [Gh.add],by simp [Gh.add,Vna]⟩
 obtain⟨val,L,n,m,p,q,s,u,y,z⟩:=key;exact⟨val,L,n,m,p,q,s,fun b C=>(u b C).trans (by rw[e.heap]),y,z⟩
theorem Zf3{f:TypeId}{e:Ty}(k:Z3 P E)(h:E.ty f=Ua e)(l:e.data=Uc):∃c z,P.info? f=Ua c/\c.size=e.size/\c.zero=Ua z/\z.cells.size=e.size/\c.bytes<=4096/\
 ∀n,Fa (Rd w g.I e) (Vf n (zeroEl e)) (Vf n z.cells.toList):=by
 obtain⟨c,z,m,j,i,p,b,_⟩:=(k.ty f _ h).info
 have d:Rd w g.I e (zeroEl e) z.cells.toList:=by unfold G1 at b;rw[l]at b;exact ZdM _ _ b
 refine⟨c,z,m,j,p,?_,i,?_⟩
 ·have:=Rd.length _ _ _ d;omega
 ·intro n
  induction n with
  |zero=>trivial
  |succ n q=>exact⟨d,q⟩
theorem ZeF(f:RH B H w g ow){ids:List Nat}{b:Nat}(i:ZL H ow ids b):¬g.I b/\b<w.heap.size/\(B.own0 b\/B.w0.heap.size<=b)/\ ∀id,Zp H (ids.map fun id=>(id,Ub)) id≠Ub->¬ow id b:=by
 obtain⟨k,h,d,e⟩:=i;obtain⟨p,q,r⟩:=f.sep k b d e;refine⟨p,q,r,fun id c l=>?_⟩;rw[DU]at c;split at c
 ·grind
 ·rename_i j;exact j (f.dist id k b c d l e▸h)
theorem Zdj{w' :World}{J:Nat->Prop}{t:Ty}{xs:List (List (El t))}{val:Value}{r:Result Next}(i:RH B H w g ow)(j:¬g.K nid)(c:∀k,k<w.heap.size->w'.heap[k]? =w.heap[k]?)(n:w.heap.size<=w'.heap.size)(m:w'.os=w.os)(f:w'.tape=w.tape)(l:YK w' w)
 (C:r=.ok (.value val) w') (d:J9 w' g.I (fun b=>J b\/(w.heap.size<=b/\b<w'.heap.size)) t xs val) (L:∀b,J b->¬g.I b/\b<w.heap.size/\(B.own0 b\/B.w0.heap.size<=b)/\ ∀id,H id≠Ub->¬ow id b):Zq B (ZY H nid (Ua (.rows t xs 0 Ub))) w g nid (.vw nid) r:=by
 obtain⟨b,D,A⟩:=d.obj nid
 have e:val.oneCell' =Uc/\Kf val=false:=by
  obtain⟨M,_,h⟩:=d
  rcases h with ⟨_,rfl⟩|⟨_,_,_,_,_,_,rfl,_⟩<;>exact⟨rfl,rfl⟩
 refine⟨val,w',g.add nid (.sl t) b val D,Xd ow nid (fun b=>J b\/(w.heap.size<=b/\b<w'.heap.size)),.inl C,?_,Gh.le_add j _ _ _ _,fun b z=>c b (i.ilt b z),?_,?_⟩
 ·refine i.add j c n m f l (fun k q=>?_) A;rcases q with q|⟨G,s⟩
  ·grind
  ·refine⟨fun y=>absurd (i.ilt _ y) (by omega),s,.inr (by have:=i.size;omega),fun p u x=>?_⟩;have:=(i.sep p _ u x).2.1;omega
 ·refine KK ?_ e.1 rfl;simp only[CV];exact⟨.inl rfl,by simp [Gh.add],by simp [Gh.add,e.1]⟩
 ·intro id h;rcases h with rfl|h
  ·exact .inr ⟨Vg _,by unfold Wr;omega⟩
  grind
theorem ZjW(q:RH B H w g ow)(hF:Fr w g F a.tmps){t:Ty}{d:List (Nat×Operand)} :∀(m n:Nat) (i:List (List (El t))) (ids l r:List Nat),(ZcI t (d.map fun p=>(p.1,Zx F p.2)) m n).run H l=Ua ((i,ids),r)->ids.Nodup->
 ∃f:List Value,f.length=m/\(∀j,j<m->f[j]? =Ua (match d.lookup (n+j) with|some x=>a.eval x|none=>.slice Ub 0 0))/\RL w g.I (ZL H ow ids) t f i
 |0,n,i,ids,l,r,h,_=>by
  simp only[ZcI,Zf,Vc]at h;obtain⟨⟨rfl,rfl⟩,_⟩:=h
  exact⟨[],rfl,by omega,RL.nil⟩
 |m+1,n,i,ids,l,r,h,L=>by
  simp only[ZcI,Z0,Zf,Vc]at h;obtain⟨⟨y,W⟩,X,z,⟨s,O⟩,Y,G,⟨rfl,rfl⟩,_⟩:=h;obtain⟨Z,R,n3⟩:=Vlc.1 L;obtain⟨f,T,U,J⟩:=ZjW q hF m (n+1) s O _ _ G R;rw[ZaN]at z
  have N:VR w g (((d.lookup n).map (Zx F)).getD .nils) (match d.lookup n with|some x=>a.eval x|none=>.slice Ub 0 0):=by
   cases d.lookup n with
   |none=>exact KK (by rfl) rfl rfl
   |some x=>exact hF.eval x
  have M:=Zdq q N z
  refine⟨(match d.lookup n with|some x=>a.eval x|none=>.slice Ub 0 0)::f,by grind,fun j V=>?_,?_⟩
  ·grind
  ·have:=(RL.single M).append J (fun c ⟨k,u,e,A⟩ ⟨Q,S,C,D⟩=>by
    have:=q.dist k Q c e C A D
    grind)
   exact this.mono (fun _ _=>rfl) (by simp) (fun b K=>by
    rcases K with ⟨k,u,e⟩|⟨k,u,e⟩
    ·exact⟨k,by grind,e⟩
    ·exact⟨k,by grind,e⟩) (by simp)
theorem Zpq{T:TypeId}{n:Nat}{M:Array (Nat×Operand)}(N:Z3 P E)(u:RH B H w g ow)(hF:Fr w g F a.tmps)(L:∀id,g.K id->id<nid\/nid+Wr<=id)(ho:o.op=.buildSlice T n M)
 (h:(ZN E nid o.op o.type (Zx F)).run H []=Ua ((v,patch),rd)):Zq B (Zp H patch) w g nid v ((execOp a.eval o).run P w):=by
 rw[ho]at h;simp only[ZN,Zy]at h;obtain⟨t,ht,h⟩:=h;split at h
 ·rename_i e;rw[ZJ]at h;rcases h with ⟨_,h⟩|⟨_,h⟩
  ·split at h
   ·rename_i X;simp only[ZJ,Z0,Zy,Zf,Zb,ZP,false_or,Vba,Vi,Vc]at h;obtain⟨⟨hp,a0⟩,⟨ys,ids⟩,m1,a3,_,a8,⟨rfl,rfl⟩,_⟩:=h;obtain⟨Q,hu,r⟩:=W1 N ht;have s:=Zf4 (N.ty Q _ r) w;obtain⟨C,S,O,m⟩:=ZjW u hF n 0 ys ids [] m1 a3 (Zff.1 (Yw a8))
    have f:¬n* (Ty.sl X).size>2 ^ 24:=by
     intro R;have:Vkd (2 ^ 24) n=true:=by simpa [Nat.blt_eq,Ty.size] using R
     grind
    have D:=Zfm hp;have U:(Vf n [Vj Ub 0 0]).map Vha=Vf n 1:=by simp
    obtain⟨Y,h2⟩:=ZeO (place:=fun i=>Ua (i* (Ty.sl X).size,(Ty.sl X).size)) (lens:=Vf n 1) (by
     intro i hi;simp only[Vx]at hi
     simp [Vfc,Vyb (Nat.le_of_lt hi),Ty.size]) (M.toList.map fun p=>(p.1,a.eval p.2)) (Vf n [Vj Ub 0 0]) U (by
     intro p a9;obtain⟨q,hq,rfl⟩:=Vwb.1 a9;have L:=D.2 q.1 (by grind);refine⟨1,by grind,?_⟩;have h3:=O q.1 L;rw[Vp,Zfg D.1 hq]at h3;obtain⟨x,hx⟩:∃x,ys[q.1]? =Ua x:=⟨_,Vaa (by rw[<-m.1,S];exact L)⟩;have A:=(m.row hx).one;have h5:C.getD q.1 undef=a.eval q.2:=by grind
     rw[h5]at A
     cases hv:a.eval q.2<;>rw[hv]at A<;>simp [Kf]at A<;>rfl)
    have a4:(Ds (Vf n [Vj Ub 0 0]) (M.toList.map fun p=>(p.1,a.eval p.2))).flatten=C:=by
     have:Ds (Vf n [Vj Ub 0 0]) (M.toList.map fun p=>(p.1,a.eval p.2))=C.map fun v=>[v]:=by
      apply Vda;intro j;by_cases hj:j<n
      ·rw[ZfB _ _ (by rw[Vxb,Vx];assumption) j (by grind),ZaN,List.getElem?_map,O j hj,Vp]
       cases hl:M.toList.lookup j with
       |none=>grind
       |some x=>
        simp only[Vl];obtain⟨y,hy⟩:∃y,ys[j]? =Ua y:=⟨_,Vaa (by rw[<-m.1,S];exact hj)⟩;have A:=(m.row hy).one;have h5:C.getD j undef=a.eval x:=by grind
        rw[h5]at A;congr 1
        cases hv:a.eval x<;>rw[hv]at A<;>simp [Kf]at A<;>rfl
      ·rw[Vbc (by rw[ZfC];grind),Vbc (by grind)]
     rw[this];generalize C=l
     induction l with
     |nil=>rfl
     |cons x l ih=>grind
    have d:(M.map fun(i,x)=>(i,a.eval x)).toList=M.toList.map fun p=>(p.1,a.eval p.2):=by simp
    have h0:=Zco #[Vj Ub 0 0] n
    have a2:(execOp a.eval o).run P w=.ok (.value (.slice (Ua ⟨w.heap.size,0,Ub⟩) n n)) (w.alloc (.cells C.toArray Q)):=by
     rw[a4]at Y;by_cases V:n* (Ty.sl X).size=0
     ·have c:(Vsa (n* (Ty.sl X).size)).map ((#[]:Array Value)[· % (#[]:Array Value).size]!)=(Vf n [Vj Ub 0 0]).flatten.toArray:=by
       rw[V];have:n=0:=by simpa [Ty.size] using V
       grind
      simp only[execOp,ho,Vcb,underlying,Vb,run_program,Va,hu,Vd,(N.ty _ _ r).run_sizeOf,Zg f,Zv V,c,d,Y,newRow,run_newObj];rfl
     ·have c:(Vsa (n* (Ty.sl X).size)).map ((#[Vj Ub 0 0]:Array Value)[· % (#[Vj Ub 0 0]:Array Value).size]!)=(Vf n [Vj Ub 0 0]).flatten.toArray:=by
       apply Vsb.1
       assumption
      simp only[execOp,ho,Vcb,underlying,Vb,run_program,Va,hu,Vd,(N.ty _ _ r).run_sizeOf,Zg f,Zg V,s,Vab,c,d,Y,newRow,run_newObj];rfl
    have b4:ys.length=n:=by rw[<-m.1,S]
    rw[Xj];refine Zdj (w' :=w.alloc (.cells C.toArray Q)) (J:=ZL H ow ids) (u.drops ids) (Yu L) (fun k L=>DK L) (by simp) rfl rfl ⟨rfl,Vg _⟩ a2 ?_ (fun b R=>ZeF u R);refine⟨C,m.mono (fun b R=>DK (u.ilt b R)) (by simp) (by grind) (fun i x b hx hr=>?_),.inr ⟨w.heap.size,n,C.toArray,Q,by simp,fun i x hx hr=>?_,by grind,G7 _ _,by grind,by grind,fun i hi=>?_⟩⟩
    ·obtain⟨k,_,h3,A⟩:=(m.row hx).own hr;exact DK (u.sep k b h3 A).2.1
    ·obtain⟨k,_,h3,A⟩:=(m.row hx).own hr;have:=(u.sep k _ h3 A).2.1;omega
    grind
   ·simp [Zb]at h
  simp only[ZJ,Z0,Zy,Zf,Zb,ZP,false_or,Vba,Vi,Vc]at h;obtain⟨⟨⟨hp,C⟩,a0⟩,⟨qs,ids⟩,m1,b0,l,hl,ds,m2,a5,⟨rfl,rfl⟩,_⟩:=h;obtain⟨Q,hu,r⟩:=W1 N ht;have b2:=u;have a1:=Zlc (J:=ZL H ow ids) u hF _ _ _ _ _ b0 (by simp);have a7:=g.le_grow (ZL H ow ids);rw[Xj,Xj];refine Zq.after_le a7 (fun _ h=>h) (Zq.dats u a5 ?_);have u:=u.freezeIds (ids:=ids);have L:∀id,(g.grow (ZL H ow ids)).K id->id<nid\/nid+Wr<=id:=L;generalize g.grow (ZL H ow ids)=g at u L a1⊢;obtain⟨ie,z,a6,b3,hz,b1,_,W⟩:=Zf3 (w:=w) (g:=g) N r C;obtain⟨Z,Y,h2⟩:=ZjX (g:=g) a1 hp hl (W n);have G:=(Zeg hl).1
  have f:¬n*e.size>2 ^ 24:=by
   intro R;have:Vkd (2 ^ 24) (n*e.size)=true:=by simpa [Nat.blt_eq] using R
   grind
  refine Zfc u (Yu L) (cells:=Z.flatten.toArray) (T:=Q) (cap:=n) h2 (by simp) (by omega) ?_ (.refl w) ?_
  ·have:=JM (Rd.all_length h2);rw[Vmc,this, <-h2.length,G];omega
  ·have h0:=Zco z.cells n;rw[b1]at h0;have d:(M.map fun(i,x)=>(i,a.eval x)).toList=M.toList.map fun p=>(p.1,a.eval p.2):=by simp
   have s:(zeroValue Q).run P w=.ok z w:=by simp [zeroValue,typeInfo,a6,hz]
   by_cases V:n*e.size=0
   ·have c:(Vsa (n*e.size)).map ((#[]:Array Value)[· % (#[]:Array Value).size]!)=(Vf n z.cells.toList).flatten.toArray:=by
     grind
    simp only[execOp,ho,Vcb,underlying,Vb,run_program,Va,hu,Vd,(N.ty _ _ r).run_sizeOf,Zg f,Zv V,c,d,Y,newRow,run_newObj,G];rfl
   ·have c:(Vsa (n*e.size)).map (z.cells[· % z.cells.size]!)=(Vf n z.cells.toList).flatten.toArray:=by
     grind
    simp only[execOp,ho,Vcb,underlying,Vb,run_program,Va,hu,Vd,(N.ty _ _ r).run_sizeOf,Zg f,Zg V,s,c,d,Y,newRow,run_newObj,G];rfl
 ·simp [Zb]at h
theorem Znl{T i:TypeId}{e:Ty}{k1 k2:IntKind}{n m:Int}{h:TypeInfo}{z:Value}(u:Z3 P E)(y:P.underlying T=Ua (.slice i))(j:E.ty i=Ua e)(d:P.info? i=Ua h)(K:h.zero=Ua z)(t:z.cells.size=e.size)
 (C:h.bytes<=256) (L:0<=n) (J:n<=m) (r:m<=549755813888):
 (Vzb T (.int k1 n) (.int k2 m)).run P w=.ok (.slice (Ua ⟨w.heap.size,0,Ub⟩) n.toNat m.toNat) (w.alloc (.cells (Vf m.toNat z.cells.toList).flatten.toArray i)):=by
 have A:∀x:Int,Vra.wrap x=(x+9223372036854775808) % 18446744073709551616 - 9223372036854775808:=fun x=>by simp [Vrd,Vsd,Ved];omega
 have l:Vra.wrap n=n:=by grind
 have k:Vra.wrap m=m:=by grind
 have p:¬(281474976710656<(h.bytes:Int) *m):=by have M:(h.bytes:Int) *m<=256*549755813888:=Vfd (by omega) r (by omega) (by omega);omega
 have s:=Zco z.cells m.toNat;rw[t]at s;have f:(zeroValue i).run P w=.ok z w:=by simp [zeroValue,typeInfo,d,K]
 have D:¬m<0:=by omega
 have G:¬n<0:=by omega
 have hgt:¬m<n:=by omega
 have c:(Ue (m<0) ||decide ((h.bytes:Int) *m>2 ^ 48) ||decide (n<0) ||decide (n>m))=false:=by
  grind
 by_cases q:m.toNat*e.size=0
 ·have b:(Vsa (m.toNat*e.size)).map ((#[]:Array Value)[· % (#[]:Array Value).size]!)=(Vf m.toNat z.cells.toList).flatten.toArray:=by
   grind
  simp only[Vzb,Vb,run_underlying y,asInt,asIntOf,typeInfo,run_program,d,l,k,Vd,Va,c,Vy,if_false,(u.ty _ _ j).run_sizeOf,run_askRoom,q,if_true];rw[q]at b;simp only[Vb,Vd,Va,b,newRow,run_newObj];rfl
 ·have b:(Vsa (m.toNat*e.size)).map (z.cells[· % z.cells.size]!)=(Vf m.toNat z.cells.toList).flatten.toArray:=by
   grind
  simp only[Vzb,Vb,run_underlying y,asInt,asIntOf,typeInfo,run_program,d,l,k,Vd,Va,c,Vy,if_false,(u.ty _ _ j).run_sizeOf,run_askRoom,Zg q,f,b,newRow,run_newObj];rfl
theorem ZpE{T:TypeId}{lo co:Operand}(r:Z3 P E)(hR:RH B H w g ow)(hF:Fr w g F a.tmps)(R:∀id,g.K id->id<nid\/nid+Wr<=id)(ho:o.op=.makeSlice T lo co)
 (h:(ZN E nid o.op o.type (Zx F)).run H []=Ua ((v,patch),rd)):Zq B (Zp H patch) w g nid v ((execOp a.eval o).run P w):=by
 rw[ho]at h;simp only[ZN,Zy]at h;obtain⟨t,S,h⟩:=h;have A:=hF.eval lo;have s:=hF.eval co;split at h
 ·rename_i e k1 n k2 m hl X
  revert n m
  intro (n:Int) (m:Int) hl X h;rw[ZJ]at h;rcases h with ⟨_,h⟩|⟨_,h⟩
  ·split at h
   ·rename_i e';simp only[Zy,Zf,Vc]at h;obtain⟨u,L,⟨rfl,rfl⟩,_⟩:=h;have Z:0<=n/\n<=m/\m<=(ZD:Int):=Xq (Yw L);obtain⟨V,D,a0⟩:=Z;obtain⟨C,N,c⟩:=W1 r S;obtain⟨ie,z,d,a1,W,U,a5,a4⟩:=(r.ty C _ c).info
    have a2:z=.slice Ub 0 0:=by
     have h1:=Zf4 (r.ty C _ c) w;have h2:(zeroValue C).run P w=.ok z w:=by simp [zeroValue,typeInfo,d,U]
     grind
    subst a2;rw[hl]at A;rw[X]at s;have f:m<=549755813888:=by assumption
    have p:=Znl (w:=w) (k1:=k1) (k2:=k2) r N c d U rfl ((r.ty _ _ S).small _ _ N d) V D f
    have Y:(execOp a.eval o).run P w=.ok (.value (.slice (Ua ⟨w.heap.size,0,Ub⟩) n.toNat m.toNat)) (w.alloc (.cells (Vf m.toNat [Vj Ub 0 0]).flatten.toArray C)):=by simp only[execOp,ho,VR.int A,VR.int s,Vb,p,Va,Vd];rfl
    have a6:∀q:Nat,(Vf q [Vj Ub 0 0]).flatten=Vf q (Vj Ub 0 0):=by simp
    have l:∀i x,(Vf n.toNat ([]:List (El e')))[i]? =Ua x->x=[]/\(Vf n.toNat (Vj Ub 0 0)).getD i undef=.slice Ub 0 0:=by grind
    refine Zdj (w' :=w.alloc (.cells (Vf m.toNat [Vj Ub 0 0]).flatten.toArray C)) (J:=fun _=>False) hR (Yu R) (fun k R=>DK R) (by simp) rfl rfl ⟨rfl,Vg _⟩ Y ?_ (by simp);refine⟨Vf n.toNat (.slice Ub 0 0),⟨by simp,⟨fun i x O _=>?_,fun i j x y b O hy _ _ _ Q=>?_,by simp⟩⟩,.inr ⟨w.heap.size,m.toNat,_,C,by simp,fun i x O Q=>?_,by simp,G7 _ _,by grind,by simp,fun i hi=>?_⟩⟩
    ·obtain⟨rfl,h2⟩:=l i x O;exact .inl ⟨rfl,h2⟩
    ·simp only[(l i x O).2,Wi]at Q;grind
    ·rw[(l i x O).2]at Q;simp [Wi]at Q
    grind
   ·simp [Zb]at h
  simp only[ZJ,Zy,Zf,Zb,ZP,false_or,Vi,Vc]at h;obtain⟨hd,u,L,⟨rfl,rfl⟩,_⟩:=h
  have L:0<=n/\n<=m/\m<=ZD:=by
   unfold Zz at L
   grind
  obtain⟨V,D,a0⟩:=L;obtain⟨C,N,c⟩:=W1 r S;obtain⟨ie,z,d,a1,U,a3,W,G⟩:=Zf3 (w:=w) (g:=g) r c hd;rw[hl]at A;rw[X]at s;have f:m<=549755813888:=by assumption
  have p:=Znl (w:=w) (k1:=k1) (k2:=k2) r N c d U a3 ((r.ty _ _ S).small _ _ N d) V D f;have M:(Vf n.toNat (zeroEl e)).length=n.toNat:=Vx;refine Zfc hR (Yu R) (w1:=w) (cells:=(Vf m.toNat z.cells.toList).flatten.toArray) (T:=C) (cap:=m.toNat) (css:=Vf n.toNat z.cells.toList) (G _) ?_ (by omega) ?_ (.refl w) ?_
  ·have:m.toNat=n.toNat+(m.toNat - n.toNat):=by omega
   refine⟨(Vf (m.toNat - n.toNat) z.cells.toList).flatten,?_⟩;rw[<-Vja,List.replicate_append_replicate, <-this]
  ·simp_all
  ·rw[M];simp only[execOp,ho,VR.int A,VR.int s,Vb,p,Va,Vd]
 ·simp [Zb]at h
end ops
end Tr
end
section
namespace Tr
open Go
section ops
variable {P:Program}{E:Ka}{B:Z1}{H:AH}{w:World}{g:Gh}{ow:Nat->Nat->Prop}{nid:Nat}{a:Act}{F:Nat->AV}{v:AV}{patch:Kx}{rd:List Nat}{o:Oper}
def Zbc(w:World)(g:Gh)(t:Ty)(y:List (El t))(v:Value):Prop:=
 ∃e c d,v=.slice e y.length c/\Fa (Rd w g.I t) y d/\(y≠ []->∃b off,e=Ua ⟨b,off,Ub⟩/\Kw w b off d.flatten)
theorem Zbm{t:Ty}{x:AV}{val:Value}{y:List (El t)}{ids l l' :List Nat}(S:RH B H w g ow)(L:VR w g x val)(h:(GE t x).run H l=Ua ((y,ids),l')):Zbc w g t y val:=by
 have a1:(∃M xs u A id,x=.vw id/\H id=Ua (.rows M xs u A))->False:=by rintro ⟨M,xs,u,A,id,rfl,D⟩;simp only[GE]at h;rw[ZX,D]at h;simp [Zb]at h
 have h:∃l,(Kk (.sl t) x).run H l=Ua ((y,ids),l'):=by
  cases x with
  |vw id=>
   simp only[GE]at h;rw[ZX]at h
   grind
  |_=>exact⟨_,h⟩
 obtain⟨l,h⟩:=h
 cases x with
 |d M z=>
  simp only[Kk,Zy,Zf,Vc]at h;obtain⟨T,p,⟨rfl,rfl⟩,_⟩:=h;obtain⟨rfl,rfl⟩:=KE p;obtain⟨X,c,f,C,q,Z,_⟩:=L.sl
  exact⟨X,c,f,C,q,by grind⟩
 |nils=>
  simp only[Kk,Zf,Vc]at h;obtain⟨⟨rfl,rfl⟩,_⟩:=h
  exact⟨Ub,0,[],L.nils,trivial,by simp⟩
 |vw id=>
  simp only[Kk]at h;rw[ZX]at h;split at h
  ·rename_i M xs D;simp only[Zy,Zf,Vc]at h;obtain⟨T,p,⟨rfl,rfl⟩,_⟩:=h;obtain⟨s,rfl⟩:=KE p;cases s;obtain⟨_,G⟩:=L.vw;obtain⟨_,_,U⟩:=S.objs id _ D;rcases U with ⟨rfl,_,K⟩|⟨b,cap,cs,e,f,_,_,K,Q,_,_,i,O⟩
   ·exact⟨Ub,0,[],G.trans K,trivial,by simp⟩
   ·exact⟨Ua ⟨b,0,Ub⟩,cap,f,G.trans K,i,fun _=>⟨b,0,rfl,Kw.of_vec Q O⟩⟩
  ·grind
  ·rename_i M xs D;simp only[Zy,Zf,Vc]at h;obtain⟨T,p,⟨rfl,rfl⟩,_⟩:=h;obtain⟨s,rfl⟩:=KE p;cases s;obtain⟨X,c,f,C,q,Z,_⟩:=(ZfU S D L).sl;exact⟨X,c,f,C,q,by grind⟩
  ·simp [Zb]at h
 |nw id ver kt k=>
  simp only[Kk,Z0,Zy,Zf,Vc]at h;obtain⟨r,m,N,T,p,⟨rfl,rfl⟩,_⟩:=h;obtain⟨s,rfl⟩:=RE p;obtain⟨t0,row⟩:=r;simp only at s;subst s;obtain⟨_,_,_,_,R⟩:=Zbf S L N;rcases R with ⟨C,q⟩|⟨b,cap,cs,e,f,q,_,Q,_,_,i,O⟩
  ·simp only at C;subst C;exact⟨Ub,0,[],q,trivial,by simp⟩
  ·exact⟨Ua ⟨b,0,Ub⟩,cap,f,q,i,fun _=>⟨b,0,rfl,Kw.of_vec Q O⟩⟩
 |vs id J n=>
  simp only[Kk]at h;rw[ZX]at h;split at h
  ·rename_i M xs D;simp only[Zy,Zf,Vc]at h;obtain⟨T,p,⟨rfl,rfl⟩,_⟩:=h;obtain⟨s,rfl⟩:=KE p;cases s;obtain⟨_,G⟩:=L.vs;obtain⟨_,W,U⟩:=S.objs id _ D;rw[W]at G;rcases G with ⟨K,rfl,rfl,G⟩|⟨b,len,cap,m,K,C,q,Z,G⟩
   ·refine⟨Ub,0,[],by grind,by simp;trivial,by simp⟩
   ·rcases U with ⟨_,_,j⟩|⟨b',Y,cs,e,f,_,_,j,Q,_,_,i,O⟩
    ·grind
    ·rw[K]at j;simp only[Vj.injEq,ZB,Addr.mk.injEq,and_true]at j;obtain⟨rfl,rfl,rfl⟩:=j;have a0:((xs.drop J).take n).length=n:=by grind
     refine⟨Ua ⟨b,if m=0 then 0 else J*t.size,Ub⟩,m,(f.drop J).take n,?_,(i.drop J).take n,fun V=>⟨b,J*t.size,?_,?_⟩⟩
     ·grind
     ·have:0<((xs.drop J).take n).length:=Vgc.2 V
      grind
     ·have:=Kw.part (off:=0) (l:=J) (n:=n) (Rd.all_length i) (by rw[<-i.length];omega) (Kw.of_vec Q O)
      grind
  ·simp [Zb]at h
 |agg l0=>cases l0<;>simp [Kk,X7,Zb]at h
 |_=>simp [Kk,Zb]at h
theorem Zhw{b off n cap sz:Nat}{css:List (List Value)}(h:∀c∈css,c.length=sz)(f:css.length=n)(hL:Kw w b off css.flatten){w' :World}(i:Jh w w'):
 (Vq sz n (.slice (Ua ⟨b,off,Ub⟩) n cap)).run P w' =.ok css.flatten.toArray w' :=by
 refine run_firstCells_some (P:=P) w' sz n _ n cap _ (by rw[JM h,f]) ?_;intro j u e;obtain⟨d,rfl⟩:=Vw.1 e;have:=hL j d;rw[GC, <-this];simp only[Vac,i.heap]
theorem Ziq{u x ty k E1:TypeId}{d:TypeInfo}{z:Value}{argTypes:Array TypeId}(y:argTypes[0]? =Ua u)(A:argTypes[1]? =Ua x)(C:P.underlying u=Ua (.slice k))(j:P.underlying x=Ua (.slice E1))
 (i:P.info? k=Ua d) (D:d.zero=Ua z) (q:d.bytes<=256) {base f:Option Addr}{n cap m c:Nat}{e news:List Value}
 (r:∀w',Jh w w' ->(Vq d.size n (.slice base n cap)).run P w' =.ok e.toArray w') (h:∀w',Jh w w' ->(Vq d.size m (.slice f m c)).run P w' =.ok news.toArray w') (s:n+m<=549755813888):
 (n+m<=cap/\(Vt argTypes ty #[.slice base n cap,.slice f m c]).run P w=(do (match base with|some a=>storeCells (a.add (n*d.size)) news|none=>pure ());pure (.slice base (n+m) cap):Sem Value).run P w)\/
 (∃b w1,n+m<=b/\Jh w w1/\(Vt argTypes ty #[.slice base n cap,.slice f m c]).run P w=.ok (.slice (Ua ⟨w.heap.size,0,Ub⟩) (n+m) b) (w1.alloc (.cells (e.toArray++news.toArray++Vk z.cells (b - (n+m))) k))):=by
 have G:(#[Vj base n cap,Vj f m c]:Array Value)[0]? =Ua (.slice base n cap):=rfl;have J:(#[Vj base n cap,Vj f m c]:Array Value)[1]? =Ua (.slice f m c):=rfl;by_cases t:n+m<=cap
 ·refine .inl ⟨t,?_⟩;simp [Vt,y,A,run_underlying C,run_underlying j,Go.sizeOf,typeInfo,i,Vnd,t,h w (.refl w)]
  cases base<;>simp
 ·refine .inr ⟨grownCap w (n+m) cap k,w.drew,grownCap_ge ..,⟨rfl,rfl,rfl,⟨rfl,by simp⟩⟩,?_⟩;have p:¬(9223372036854775807<((n:Int)+(m:Int))):=by omega
  have l:¬(281474976710656<Vdc (n+m) cap*d.bytes):=by have:=growslice_fits (need:=n+m) (old:=cap) (bytes:=d.bytes) (by omega) (Nat.le_trans (Vgd s q) (by decide));omega
  simp [Vt,y,A,run_underlying C,run_underlying j,Go.sizeOf,typeInfo,zeroValue,i,D,Vnd,t,p,l,Question.forced,h w.drew ⟨rfl,rfl,rfl,⟨rfl,by simp⟩⟩,r w.drew ⟨rfl,rfl,rfl,⟨rfl,by simp⟩⟩,newRow,grownCap]
  grind
theorem ZjC{t:Ty}{H' :AH}{R:TypeInfo}{z:Value}{T0 T1 Et E1 ty:TypeId}{argTypes:Array TypeId}{sv xv:Value}{xs l:List (El t)}{r:Result Next}(hR:RH B H w g ow)(y:¬g.K nid)
 (h0:argTypes[0]? =Ua T0) (h1:argTypes[1]? =Ua T1) (Z:P.underlying T0=Ua (.slice Et)) (a8:P.underlying T1=Ua (.slice E1))
 (a5:P.info? Et=Ua R) (hz:R.zero=Ua z) (b1:z.cells.size=t.size) (Q:R.size=t.size) (a1:R.bytes<=256) (a7:xs.length+l.length<=549755813888) (hX:Zbc w g t l xv)
 (hr:∀val w',(Vt argTypes ty #[sv,xv]).run P w=.ok val w' ->r=.ok (.value val) w')
 (hS:(H' =H/\xs=[]/\sv=.slice Ub 0 0)\/ ∃id,H' =ZY H id Ub/\H id≠Ub/\((xs=[]/\sv=.slice Ub 0 0)\/ ∃b cap cs e css,ow id b/\sv=.slice (Ua ⟨b,0,Ub⟩) xs.length cap/\w.heap[b]? =Ua (.cells cs e (0,0))/\
   xs.length<=cap/\cap*t.size<=cs.size/\Fa (Rd w g.I t) xs css/\css.flatten<+:cs.toList)):Zq B (ZY H' nid (Ua (.vec t (xs++l)))) w g nid (.vw nid) r:=by
 obtain⟨xb,c,d,rfl,j,a6⟩:=hX;have s:(xs++l).length=xs.length+l.length:=Vn
 have G:RH B H' w g ow:=by
  rcases hS with ⟨rfl,_⟩|⟨id,rfl,_⟩
  ·omega
  ·exact hR.drop id
 have a3:∀w',Jh w w' ->(Vq R.size l.length (.slice xb l.length c)).run P w' =.ok d.flatten.toArray w' :=by
  intro w' hw;rw[Q];by_cases hy:l=[]
  ·subst hy;have:d=[]:=by have:=j.length;grind
   subst this
   cases xb with
   |none=>rfl
   |some ad=>exact run_firstCells_some (P:=P) w' _ _ ad _ _ [] (by simp) (by simp)
  ·obtain⟨b,off,rfl,hL⟩:=a6 hy;exact Zhw (Rd.all_length j) j.length.symm hL hw
 have hO:∃base cap f,sv=.slice base xs.length cap/\Fa (Rd w g.I t) xs f/\(∀w',Jh w w' ->(Vq R.size xs.length (.slice base xs.length cap)).run P w' =.ok f.flatten.toArray w')/\
  ((base=Ub/\cap=0/\xs=[])\/ ∃id b cs e,H' =ZY H id Ub/\H id≠Ub/\ow id b/\base=Ua ⟨b,0,Ub⟩/\w.heap[b]? =Ua (.cells cs e (0,0))/\cap*t.size<=cs.size/\f.flatten<+:cs.toList):=by
  rcases hS with ⟨_,rfl,rfl⟩|⟨id,b3,N,⟨rfl,rfl⟩|⟨b,cap,cs,e,css,ho,rfl,hh,_,T,L,hc⟩⟩
  ·exact⟨Ub,0,[],rfl,trivial,fun w' _=>by rfl,by simp⟩
  ·exact⟨Ub,0,[],rfl,trivial,fun w' _=>by rfl,by simp⟩
  ·refine⟨_,cap,css,rfl,L,fun w' hw=>?_,by grind⟩;rw[Q];exact Zhw (Rd.all_length L) L.length.symm (Kw.of_vec hh hc) hw
 obtain⟨base,cap,f,rfl,n,a4,J⟩:=hO;have q:=JM (Rd.all_length n);have D:=JM (Rd.all_length j);rw[<-n.length]at q;rw[<-j.length]at D;rcases Ziq (ty:=ty) h0 h1 Z a8 a5 hz a1 a4 a3 a7 with ⟨O,p⟩|⟨m,w1,b4,a9,p⟩
 ·
  rcases J with ⟨rfl,rfl,rfl⟩|⟨id,b,cs,e,rfl,N,ho,rfl,hh,T,hc⟩
  ·have hy:l=[]:=by grind
   subst hy;have C:=hr _ _ (p.trans (by simp only[Vb,Vd,Va];rfl));refine⟨_,w,g.add nid t Ub (.slice Ub 0 0),Xd ow nid (fun _=>False),.inl C,?_,Gh.le_add y _ _ _,fun _ _=>rfl,?_,?_⟩
   ·exact G.add y (by simp) (Vg _) rfl rfl ⟨rfl,Vg _⟩ (by simp) ⟨by simp [Gh.add],.inl ⟨rfl,by simp [Gh.add],by simp [Gh.add]⟩⟩
   ·refine KK ?_ rfl rfl;simp only[CV];exact⟨.inl rfl,by simp [Gh.add],by simp [Gh.add,Vna]⟩
   ·intro id h;rcases h with rfl|h
    ·exact .inr ⟨Vg _,by unfold Wr;omega⟩
    grind
  ·obtain⟨rest,A⟩:=hc;have b2:cs.size=f.flatten.length+rest.length:=by rw[<-Vv, <-A,Vn]
   have V:(xs.length+l.length) *t.size<=cap*t.size:=Nat.mul_le_mul_right _ O;rw[Vma]at V;have hs:=hR.sep id b N ho
   have X:∀u∈d.flatten,u.oneCell' =true:=by
    intro u Z;obtain⟨c1,a2,Z⟩:=List.mem_flatten.1 Z;obtain⟨i,hi,rfl⟩:=Vgb a2;have b5:i<l.length:=by rw[j.length];omega
    obtain⟨c',h2,h3⟩:=j.get i l[i] (by simp);rw[Vaa hi]at h2;cases h2;exact Rd.oneCell t _ _ h3 u Z
   have Y:=run_storeCells_at P b (xs.length*t.size) e d.flatten 0 cs w hh (by omega) X
   have W:(cs.toList.take (xs.length*t.size+0)++d.flatten++cs.toList.drop (xs.length*t.size+0+d.flatten.length))=(f++d).flatten++rest.drop d.flatten.length:=by rw[Vta, <-q, <-A,List.take_left,Vja,List.drop_append,Vxa (by omega)];simp
   rw[W]at Y
   have C:=hr (.slice (Ua ⟨b,0,Ub⟩) (xs.length+l.length) cap) (w.setRow b ((f++d).flatten++rest.drop d.flatten.length).toArray) (p.trans (by simp only[Vb,GC,Q,Vp,Y,Va,Vd]))
   have M:∀k,ZY H id Ub k≠Ub->¬ow k b:=by intro k U hb;obtain⟨h3,h4⟩:=YF U;exact h3 (hR.dist k id b h4 N hb ho)
   have a0:=G.free (w' :=w.setRow b ((f++d).flatten++rest.drop d.flatten.length).toArray) M hs.1 hs.2.2 (fun k U=>setRow_other w b k _ U) (size_setRow w b _) rfl rfl ⟨rfl,Vg _⟩;have S:Km g.I w (w.setRow b ((f++d).flatten++rest.drop d.flatten.length).toArray):=fun k U=>setRow_other w b k _ (by grind);refine⟨_,_,g.add nid t (Ua b) (.slice (Ua ⟨b,0,Ub⟩) (xs++l).length cap),Xd ow nid (fun k=>k=b),.inl C,?_,Gh.le_add y _ _ _,S,?_,?_⟩
   ·refine a0.add y (by simp) (Vg _) rfl rfl ⟨rfl,Vg _⟩ (fun k U=>?_) ?_
    ·simp_all
    ·refine⟨by simp [Gh.add],.inr ⟨b,cap,_,e,f++d,by simp [Gh.add],rfl,by simp [Gh.add],Ra hh,by omega,?_,?_,by simp⟩⟩
     ·grind
     ·exact(n.append j).mono fun x c hx=>Rd.mono S (fun _ h=>h) t x c hx
   ·refine KK ?_ rfl rfl;simp only[CV];exact⟨.inl rfl,by simp [Gh.add,s],by simp [Gh.add,Vna]⟩
   ·intro id h;rcases h with rfl|h
    ·exact .inr ⟨Vg _,by unfold Wr;omega⟩
    grind
 ·have C:=hr _ _ p;refine Zfc G y (n.append j) ?_ (by rw[s];omega) ?_ a9 (by rw[s];omega)
  ·simp
  ·have b0:(Vk z.cells (m - (xs.length+l.length))).size=(m - (xs.length+l.length)) *t.size:=by simp [Vk,b1]
   simp only[Vnc,Vmc,q,D,b0]
   have:m*t.size=xs.length*t.size+l.length*t.size+(m - (xs.length+l.length)) *t.size:=by rw[<-Vma, <-Vma];grind
   omega
theorem ZnC{id ver tmp:Nat}{kt:Ty}{k:El kt}{val:Value}{r:(t:Ty) ×List (El t)}{o' :K1}{l l' l2 b4:List Nat}(S:RH B H w g ow)(hv:VR w g (.nw id ver kt k) val)(f:(Yn id ver kt k).run H l=Ua (r,l'))(d:(Zd4 id nid kt k).run H l2=Ua (o',b4))
 (a3:¬g.K tmp):∃g2 a4,RH B (ZY (ZY H id (Ua o')) tmp (Ua (.vec r.1 r.2))) w g2 a4/\g.Le g2/\g2.I=g.I/\(∀i,g2.K i->g.K i\/i=tmp)/\(∀b,a4 tmp b↔Wi val=Ua b)/\id≠tmp/\g2.slv tmp=val:=by
 obtain⟨hK,_,_,_⟩:=hv.nw;obtain⟨G,O,b5,n,Q⟩:=Zbf S hv f;have a1:id≠tmp:=by grind
 have R:∀b,ow id b->¬g.I b/\b<w.heap.size/\(B.own0 b\/B.w0.heap.size<=b):=fun b A=>S.sep id b G A
 have hO:g.ver id<nid/\ORel w (g.bump id nid (g.row id)) (fun b=>ow id b/\Wi val≠Ua b) id o' :=by
  have y:(g.bump id nid (g.row id)).row id=g.row id:=by simp [Gh.bump]
  simp only[Yn]at f;rw[ZX]at f;simp only[Zd4]at d;rw[ZX]at d;split at f
  ·rename_i t xs u hH;rw[hH]at d;simp only[ZJ,Zy,Zf,Zb,ZP,Z6]at f d;obtain⟨hu,i',a8,x,M,rfl,_⟩:=f;obtain⟨b2,X,a9,rfl,_⟩:=d;obtain⟨rfl,rfl⟩:=KE a8;have:=Zel a9;subst this;obtain⟨_,O,V,s,hO⟩:=S.objs id _ hH;refine⟨by simp_all,O,by simp [Gh.bump],?_,?_⟩
   ·unfold idx at M;split at M
    ·rename_i h0;have e1:((X.toNat:Nat):Int)=X:=Vpa h0;rw[y];refine s.take X.toNat fun j x' W hj hr=>hr.mono (fun _ _=>rfl) (by simp) (fun b A h=>⟨h,fun D=>?_⟩) (by simp);rw[n]at D;exact s.ds j X.toNat x' x b W M hj (by simp) (by simp) A (by grind)
    grind
   ·rcases hO with h|⟨b,cap,cs,e,C,z,h3,h4,h5,h6,h7⟩
    ·exact .inl h
    ·refine .inr ⟨b,cap,cs,e,C,⟨z,fun A=>?_⟩,h3,h4,h5,h6,by grind⟩;unfold idx at M;split at M
     ·rename_i h0;have e1:((X.toNat:Nat):Int)=X:=Vpa h0;rw[n]at A;exact s.tp X.toNat x b M (by simp) (by grind) C
     grind
  ·rename_i b7 t m u hH;rw[hH]at d;simp only[ZJ,Zy,Zf,Zb,ZP,Z6,Ve]at f d;obtain⟨⟨hu,b6⟩,k',b0,rfl,_⟩:=f;obtain⟨b2,Z,b1,rfl,_⟩:=d;obtain⟨rfl,rfl⟩:=KE b0;have:=Zel b1;subst this;obtain⟨_,O,V,s,b3,a0,b,es,clock,C,z,h3,h4⟩:=S.objs id _ hH
   have a2:∀b',Wi val=Ua b' ->∃x,(Z,x)∈m:=fun b' N=>by
    by_cases h:Z∈m.map Vka
    ·grind
    ·rw[n,a0 Z h]at N;simp [Wi]at N
   refine⟨by simp_all,O,by simp [Gh.bump],?_,b3,by grind,b,es,clock,C,⟨z,fun A=>?_⟩,h3,by rw[y];assumption⟩
   ·rw[y];refine s.take Z fun j x' W hj hr=>hr.mono (fun _ _=>rfl) (by simp) (fun b' N h=>⟨h,fun D=>?_⟩) (by simp);obtain⟨x,M⟩:=a2 b' D;rw[n]at D;exact s.ds j Z x' x b' W M hj (by simp) (by simp) N D
   ·obtain⟨x,M⟩:=a2 b A;rw[n]at A;exact s.tp Z x b M (by simp) A C
  ·simp [Zb]at f
 have a6:=S.bump (w' :=w) hK hO.1 (by simp) (Vg _) rfl rfl ⟨rfl,Vg _⟩ (by simp) (fun b A=>by obtain⟨p,q,r⟩:=R b A.1;exact⟨p,q,r,fun k Y C z=>Y (S.dist k id b C G z A.1)⟩) hO.2
 have J:¬(g.bump id nid (g.row id)).K tmp:=a3
 have T:∀b,Wi val=Ua b->ow id b/\ ¬g.I b/\b<w.heap.size/\(B.own0 b\/B.w0.heap.size<=b)/\ ∀k,ZY H id (Ua o') k≠Ub->¬Xd ow id (fun b=>ow id b/\Wi val≠Ua b) k b:=fun b A=>by
  have U:=Q.own A;obtain⟨p,q,r⟩:=R b U;refine⟨U,p,q,r,fun k C z=>?_⟩;by_cases Y:k=id
  ·subst Y;rw[JZ]at z;grind
  ·rw[Kt Y]at C;rw[W4 Y]at z;exact Y (S.dist k id b C G z U)
 have L:∃b,ORel w ((g.bump id nid (g.row id)).add tmp r.1 b val) (fun b=>Wi val=Ua b) tmp (.vec r.1 r.2):=by
  rcases Q with ⟨C,z⟩|⟨b,cap,cs,e,a5,z,_,hh,h5,h6,a7,hc⟩
  ·exact⟨Ub,by simp [Gh.add],.inl ⟨C,by simp [Gh.add],by simp [Gh.add,z]⟩⟩
  ·exact⟨Ua b,by simp [Gh.add],.inr ⟨b,cap,cs,e,a5,by simp [Gh.add],by rw[z];rfl,by simp [Gh.add,z],hh,h5,h6,a7,hc⟩⟩
 obtain⟨b,L⟩:=L;refine⟨_,_,a6.add J (by simp) (Vg _) rfl rfl ⟨rfl,Vg _⟩ (fun c hc=>(T c hc).2) L,(Gh.le_bump hO.1).trans (Gh.le_add J _ _ _),rfl,fun i hi=>?_,fun c=>?_,a1,by simp [Gh.add]⟩
 ·rcases hi with h|h
  ·omega
  ·exact .inl h
 ·rw[JZ]
theorem Zk1{b cap n:Nat}{c:List Value}{cs:Array Value}{e:TypeId}(f:w.heap[b]? =Ua (.cells cs e (0,0)))(m:c.length=n)(d:∀i,i<n->cs[i]? =Ua (c.getD i undef)){w' :World}(l:Jh w w'):
 (Vq 1 n (.slice (Ua ⟨b,0,Ub⟩) n cap)).run P w' =.ok c.toArray w' :=by
 refine run_firstCells_some (P:=P) w' 1 n _ n cap _ (by omega) ?_;intro j u h;obtain⟨k,rfl⟩:=Vw.1 h;have:=d j (by omega);rw[GC];simp only[Vac,l.heap,f,Vp]
 grind
theorem ZpU{t:Ty}{ie:TypeInfo}{z:Value}{T0 T1 Et E1 ty:TypeId}{argTypes:Array TypeId}{sv xv:Value}{xs l:List (List (El t))}{h j:List Nat}{r:Result Next}(S:RH B H w g ow)(a0:¬g.K nid)
 (h0:argTypes[0]? =Ua T0) (h1:argTypes[1]? =Ua T1) (hu:P.underlying T0=Ua (.slice Et)) (e2:P.underlying T1=Ua (.slice E1))
 (c1:P.info? Et=Ua ie) (hz:ie.zero=Ua z) (e4:z.cells.size=(Ty.sl t).size) (d7:ie.size=(Ty.sl t).size) (b5:ie.bytes<=256) (c6:xs.length+l.length<=549755813888)
 (hS:J9 w g.I (ZL H ow h) t xs sv) (hX:J9 w g.I (ZL H ow j) t l xv) (e5:∀k,k∈h->k ∉ j)
 (hr:∀val w',(Vt argTypes ty #[sv,xv]).run P w=.ok val w' ->r=.ok (.value val) w'):Zq B (Zp (Zp H ((h++j).map fun id=>(id,Ub))) [(nid,Ua (.rows t (xs++l) 0 Ub))]) w g nid (.vw nid) r:=by
 show Zq B (ZY _ nid _) _ _ _ _ _;have M:ie.size=1:=d7;obtain⟨f,U,d8⟩:=hS;obtain⟨d,A,d9⟩:=hX;have W:RH B (Zp H ((h++j).map fun id=>(id,Ub))) w g ow:=S.drops _
 have hJ:∀b,ZL H ow h b->¬ZL H ow j b:=fun b ⟨k,a1,V,a3⟩ ⟨k',b1,b2,b3⟩=>by
  have:=S.dist k k' b V b2 a3 b3
  grind
 have D:=U.append A hJ
 have D:RL w g.I (ZL H ow (h++j)) t (f++d) (xs++l):=D.mono (fun _ _=>rfl) (by simp) (fun b Y=>by
  rcases Y with ⟨k,a1,V⟩|⟨k,a1,V⟩
  ·exact⟨k,by grind,V⟩
  ·exact⟨k,by grind,V⟩) (by simp)
 have T:∀b,ZL H ow (h++j) b->b<w.heap.size:=fun b ⟨k,_,V,a3⟩=>(S.sep k b V a3).2.1;have c4:=U.1;have c5:=A.1
 have e3:∃xb c,xv=.slice xb l.length c/\ ∀w',Jh w w' ->(Vq ie.size l.length (.slice xb l.length c)).run P w' =.ok d.toArray w' :=by
  rw[M];rcases d9 with ⟨rfl,rfl⟩|⟨b,cap,cs,e,_,_,rfl,hh,_,_,N⟩
  ·have:d=[]:=by grind
   subst this;exact⟨Ub,0,rfl,fun w' _=>by rfl⟩
  ·exact⟨_,cap,rfl,fun w' hw=>Zk1 hh c5 N hw⟩
 obtain⟨xb,c,rfl,b6⟩:=e3
 have d0:∃base cap,sv=.slice base xs.length cap/\(∀w',Jh w w' ->(Vq ie.size xs.length (.slice base xs.length cap)).run P w' =.ok f.toArray w')/\((base=Ub/\cap=0/\xs=[])\/
  ∃b cs e,ZL H ow h b/\base=Ua ⟨b,0,Ub⟩/\w.heap[b]? =Ua (.cells cs e (0,0))/\cap<=cs.size/\(∀i,i<xs.length->cs[i]? =Ua (f.getD i undef))/\ ∀i x,xs[i]? =Ua x->Wi (f.getD i undef)≠Ua b):=by
  rw[M];rcases d8 with ⟨rfl,rfl⟩|⟨b,cap,cs,e,e7,c7,rfl,hh,_,a6,N⟩
  ·have:f=[]:=by grind
   subst this;exact⟨Ub,0,rfl,fun w' _=>by rfl,by simp⟩
  ·exact⟨_,cap,rfl,fun w' hw=>Zk1 hh c4 N hw,by grind⟩
 obtain⟨base,cap,rfl,b7,Z⟩:=d0;have e6:(xs++l).length=xs.length+l.length:=Vn;rcases Ziq (ty:=ty) h0 h1 hu e2 c1 hz b5 b7 b6 c6 with ⟨c8,C⟩|⟨m,w1,e9,R,C⟩
 ·rcases Z with ⟨rfl,rfl,rfl⟩|⟨b,cs,e,⟨kb,c2,O,y⟩,rfl,hh,a6,N,c7⟩
  ·have hy:l=[]:=by grind
   subst hy;have L:=hr _ _ (C.trans (by simp only[Vb,Vd,Va];rfl));exact Zdj (J:=fun _=>False) W a0 (by simp) (Vg _) rfl rfl ⟨rfl,Vg _⟩ L ⟨[],RL.nil,by simp⟩ (by simp)
  ·have hs:=S.sep kb b O y
   have a8:∀u∈d,u.oneCell' =true:=by
    intro u hu;obtain⟨i,hi,rfl⟩:=Vgb hu;have b9:i<l.length:=by omega
    have:=(A.row (Vaa b9)).one.1
    grind
   have b0:=run_storeCells_at P b (xs.length*1) e d 0 cs w hh (by omega) a8
   have e1:cs.toList.take xs.length=f:=by
    apply Vda
    grind
   have a7:(cs.toList.take (xs.length*1+0)++d++cs.toList.drop (xs.length*1+0+d.length))=(f++d)++cs.toList.drop (xs.length+d.length):=by
    grind
   rw[a7]at b0
   have L:=hr (.slice (Ua ⟨b,0,Ub⟩) (xs.length+l.length) cap) (w.setRow b ((f++d)++cs.toList.drop (xs.length+d.length)).toArray) (C.trans (by simp only[Vb,GC,M,Vp,b0,Va,Vd]))
   have Q:∀k,k≠b->(w.setRow b ((f++d)++cs.toList.drop (xs.length+d.length)).toArray).heap[k]? =w.heap[k]? :=fun k hk=>setRow_other w b k _ hk;have b8:=ZeF (ids:=h++j) S (b:=b) ⟨kb,by grind,O,y⟩;have X:=W.free (w' :=w.setRow b ((f++d)++cs.toList.drop (xs.length+d.length)).toArray) (b:=b) b8.2.2.2 hs.1 hs.2.2 Q (size_setRow w b _) rfl rfl ⟨rfl,Vg _⟩;have b4:Km g.I w (w.setRow b ((f++d)++cs.toList.drop (xs.length+d.length)).toArray):=fun k hk=>by grind
   have a9:∀i x,(xs++l)[i]? =Ua x->Wi ((f++d).getD i undef)≠Ua b:=by
    intro i x hx Y;rcases Vvb i xs.length with hl|hl
    ·grind
    ·rw[Vjb hl]at hx;have:(f++d).getD i undef=d.getD (i - xs.length) undef:=by grind
     rw[this]at Y;exact hJ b ⟨kb,c2,O,y⟩ ((A.row hx).own Y)
   have G:=Zdj (w' :=w.setRow b ((f++d)++cs.toList.drop (xs.length+d.length)).toArray) (J:=ZL H ow (h++j)) (t:=t) (xs:=xs++l) X a0 (by simp) (Vg _) rfl rfl ⟨rfl,Vg _⟩ L ?_ (fun b' n=>?_)
   ·obtain⟨val,w',g',a4,d1,d2,d3,d4,d5,d6⟩:=G;exact⟨val,w',g',a4,d1,d2,d3,by grind,d5,d6⟩
   ·refine⟨f++d,D.mono b4 (by simp) (by grind) (by grind),.inr ⟨b,cap,_,e,.inl ⟨kb,by grind,O,y⟩,a9,by simp,Ra hh,by omega,?_,by grind⟩⟩
    all_goals grind
   ·obtain⟨p,q,r,s⟩:=ZeF S n
    simp_all
 ·have L:=hr _ _ C;have X:=W.same R;have c9:w1.heap.size=w.heap.size:=by rw[R.heap]
  have G:=Zdj (w' :=w1.alloc (.cells (f.toArray++d.toArray++Vk z.cells (m - (xs.length+l.length))) Et)) (J:=ZL H ow (h++j)) (t:=t) (xs:=xs++l) X a0 (fun k hk=>DK hk) (by simp) rfl rfl ⟨rfl,Vg _⟩ L ?_ (fun b' n=>?_)
  ·obtain⟨val,w',g',a4,d1,d2,d3,d4,d5,d6⟩:=G;exact⟨val,w',g',a4,d1,d2,d3,fun k hk=>(d4 k hk).trans (R.agree g.I k hk),d5,d6⟩
  ·have a5:∀b,b<w.heap.size->(w1.alloc (.cells (f.toArray++d.toArray++Vk z.cells (m - (xs.length+l.length))) Et)).heap[b]? =w.heap[b]? :=fun b Y=>by rw[DK (by omega),R.heap]
   refine⟨f++d,D.mono (fun b Y=>a5 b (S.ilt b Y)) (by simp) (by grind) (fun i x b' hx n=>a5 b' (T b' ((D.row hx).own n))),.inr ⟨w1.heap.size,m,_,Et,by simp,fun i x hx n=>?_,by grind,G7 _ _,by omega,?_,fun i hi=>?_⟩⟩
   ·have:=T _ ((D.row hx).own n);omega
   ·have f1:(Vk z.cells (m - (xs.length+l.length))).size=(m - (xs.length+l.length)) *1:=by simp [Vk,e4,Ty.size]
    grind
   grind
  ·obtain⟨p,q,r,s⟩:=ZeF S n
   grind
theorem Zvm{C D ty r:TypeId}{c:TypeInfo}{z:Value}{argTypes:Array TypeId}{k0 k:IntKind}(G:argTypes[0]? =Ua C)(s:argTypes[1]? =Ua D)(J:P.underlying C=Ua (.slice r))(p:P.underlying D=Ua (.int k0))
 (l:P.info? r=Ua c) (L:c.zero=Ua z) (N:z.cells.size=c.size) (t:c.bytes<=256) {n:Nat} (O:0<n) (u:n<=549755813888):
 ∃d w1 M,n<=d/\Jh w w1/\M.toList=(Vf n z.cells.toList).flatten/\(Vt argTypes ty #[.slice Ub 0 0,.int k (n:Int)]).run P w=.ok (.slice (Ua ⟨w.heap.size,0,Ub⟩) n d) (w1.alloc (.cells (M++Vk z.cells (d - n)) r)):=by
 have q:Vra.wrap (n:Int)=(n:Int):=by
  have K:∀x:Int,Vra.wrap x=(x+9223372036854775808) % 18446744073709551616 - 9223372036854775808:=fun x=>by simp [Vrd,Vsd,Ved];omega
  grind
 have b:¬(281474976710656<(n:Int) * (c.bytes:Int)):=by have s:(n:Int) * (c.bytes:Int)<=549755813888*256:=Vfd (by omega) (by omega) (by omega) (by omega);omega
 have i:¬(9223372036854775807<(n:Int)):=by omega
 have h:¬(281474976710656<Vdc n 0*c.bytes):=by have:=growslice_fits (need:=n) (old:=0) (bytes:=c.bytes) (by omega) (Nat.le_trans (Vgd u t) (by decide));omega
 have y:=Zco z.cells n;have m:n≠0:=by omega
 have f:¬((n:Int)<0):=by omega
 have j:∀A:World,(Vq c.size 0 (.slice Ub 0 0)).run P A=.ok #[] A:=fun A=>by rfl
 refine⟨grownCap w n 0 r,w.drew,if n*c.size=0 then #[] else Vk z.cells n,grownCap_ge ..,⟨rfl,rfl,rfl,⟨rfl,by simp⟩⟩,?_,?_⟩
 ·rw[<-y];by_cases e:n*c.size=0
  ·grind
  ·rw[Zg e];rfl
 ·by_cases e:n*c.size=0
  ·simp [Vt,G,s,run_underlying J,run_underlying p,Go.sizeOf,typeInfo,zeroValue,l,L,asInt,asIntOf,q,b,m,i,h,Question.forced,newRow,grownCap,e,f,j]
  ·simp [Vt,G,s,run_underlying J,run_underlying p,Go.sizeOf,typeInfo,zeroValue,l,L,asInt,asIntOf,q,b,m,i,h,Question.forced,newRow,grownCap,e,f,j]
theorem Zpl{c:Call}(U:Z3 P E)(A:RH B H w g ow)(hF:Fr w g F a.tmps)(hk:∀id,g.K id->id<nid\/nid+Wr<=id)(ho:o.op=.call c)(hc:c.callee=.builtin .append)
 (h:(ZN E nid o.op o.type (Zx F)).run H []=Ua ((v,patch),rd)):Zq B (Zp H patch) w g nid v ((execOp a.eval o).run P w):=by
 rw[ho]at h;simp only[ZN,hc]at h;split at h
 ·rename_i s x t b4 c5;rw[ZJ]at h
  have j:c.args.map a.eval= #[a.eval s,a.eval x]:=by
   have:c.args= #[s,x]:=by grind
   grind
  obtain⟨T0,h0,S⟩:=Vu.1 c5;rcases h with ⟨_,h⟩|⟨l,h⟩
  ·split at h
   ·rename_i k n k0 hs hx b2;simp only[ZJ,Zb,ZP,false_or,Vba,Vi]at h;obtain⟨⟨_,hd⟩,h⟩:=h;simp only[ZjK,Zy,Zf,Vc]at h;obtain⟨u,O,⟨rfl,rfl⟩,_⟩:=h;have O:(1:Int)<=n/\n<=(ZD:Int):=Xq (Yw O);obtain⟨M,h1,a2⟩:=Vu.1 b2;obtain⟨Et,L,Y⟩:=W1 U S
    have D:P.underlying M=Ua (.int k0):=by
     have Q:=(U.ty M _ a2).shape
     cases L:P.underlying M with
     |none=>rw[L]at Q;simp [Kd]at Q
     |some d=>rw[L]at Q;cases d<;>simp [Kd]at Q;grind
    obtain⟨ie,z,p,R,hz,G,_,b8⟩:=Zf3 (w:=w) (g:=g) U Y hd;have C:=(U.ty _ _ S).small _ _ L p;have c6:a.eval s=.slice Ub 0 0:=(hs▸hF.eval s).nils;have c7:=VR.int (hx▸hF.eval x);obtain⟨m,hm⟩:∃m:Nat,n=(m:Int):=⟨_,(Vpa (by omega)).symm⟩;subst hm
    have y:m<=549755813888:=by have h2:(m:Int)<=((549755813888:Nat):Int):=O.2;omega
    obtain⟨f,w1,zc,c1,c2,c3,c4⟩:=Zvm (P:=P) (w:=w) (ty:=o.type) (k:=k) h0 h1 L D p hz (by omega) C (n:=m) (by omega) y
    have i:(execOp a.eval o).run P w=.ok (.value (.slice (Ua ⟨w.heap.size,0,Ub⟩) m f)) (w1.alloc (.cells (zc++Vk z.cells (f - m)) Et)):=by rw[c6,c7]at j;simp only[execOp,ho,D3 hc,builtin,j,Vb,c4,Va,Vd]
    have d0:(Vf ((m:Int)).toNat (zeroEl t)).length=m:=by simp
    refine Zfc A (Yu hk) (w1:=w1) (cells:=zc++Vk z.cells (f - m)) (T:=Et) (cap:=f) (css:=Vf m z.cells.toList) (by grind) ?_ (by omega) ?_ c2 (by grind)
    ·grind
    ·have e1:zc.size=m*t.size:=by rw[<-Vv,c3,JM (css:=Vf m z.cells.toList) (n:=t.size) (by grind),Vx]
     have e2:(Vk z.cells (f - m)).size=(f - m) *t.size:=by simp [Vk,G]
     rw[Vnc,e1,e2, <-Vma]
     grind
   ·simp [Zb]at h
  simp only[Vi]at l;simp only[ZJ]at h
  have:∃M t1,c.argTypes[1]? =Ua M/\E.ty M=Ua (.sl t1):=by
   cases hh:c.argTypes[1]? with
   |none=>rw[hh]at l;simp [Jm]at l
   |some M=>
    rw[hh]at l;simp only[Za]at l
    cases ht:E.ty M with
    |none=>rw[ht]at l;simp [Jm]at l
    |some t1=>cases t1<;>rw[ht]at l<;>simp [Jm]at l;grind
  obtain⟨M,t1,h1,a2⟩:=this;obtain⟨Et,L,Y⟩:=W1 U S;obtain⟨E1,D,_⟩:=W1 U a2;obtain⟨ie,z,p,R,_,hz,a9,_⟩:=(U.ty Et _ Y).info;have C:=(U.ty _ _ S).small _ _ L p
  have G:z.cells.size=t.size:=by obtain⟨N,h4⟩:=Zf1 (w:=w) (g:=g) a9;have:=CV.length _ t _ h4 N;omega
  have i:∀val w',(Vt c.argTypes o.type #[a.eval s,a.eval x]).run P w=.ok val w' ->(execOp a.eval o).run P w=.ok (.value val) w' :=by intro val w' i;simp only[execOp,ho,D3 hc,builtin,j,Vb,i,Va,Vd]
  rcases h with ⟨_,h⟩|⟨_,h⟩
  ·split at h
   ·rename_i t';simp only[Zji,Z0,Zy,Zf,Vc]at h;obtain⟨⟨xs,d7⟩,m1,hS,⟨J,X⟩,m2,hX,u,O,u2,a5,⟨rfl,rfl⟩,_⟩:=h;have y:xs.length+J.length<=549755813888:=Xq (Yw O);obtain⟨n1,n2,n3⟩:=Vlc.1 (Zff.1 (Yw a5));rw[Xj];exact ZpU A (Yu hk) h0 h1 L D p hz G R C y (Zfl A (hF.eval s) hS).1 (Zfl A (hF.eval x) hX).1 (by grind) i
   ·simp [Zb]at h
  split at h
  ·rename_i id ver kt k b9;simp only[Zjh,Z0,Zy,Zf,Vc]at h;obtain⟨r,m1,V,xs,c8,⟨J,X⟩,m2,hX,u,O,u2,a5,o',m3,a1,⟨rfl,rfl⟩,_⟩:=h;obtain⟨he,rfl⟩:=RE c8;obtain⟨t0,row⟩:=r;simp only at he;subst he;have y:row.length+J.length<=549755813888:=Xq (Yw O);have W:¬g.K (nid+1):=fun h=>by have:=hk _ h;unfold Wr at this;omega
   have a8:=b9▸hF.eval s;obtain⟨g2,d8,b1,b5,hI,a3,b7,b6,_⟩:=ZnC A a8 V a1 W;obtain⟨_,_,_,_,a7⟩:=Zbf A a8 V;have a0:=Zbm A (hF.eval x) hX;have b3:Zbc w g2 t0 J (a.eval x):=by unfold Zbc at a0⊢;grind
   have a6:¬g2.K nid:=fun h=>by
    rcases a3 _ h with h|h
    ·exact Yu hk h
    ·omega
   have a4:=ZjC (ty:=o.type) (H' :=ZY (ZY (ZY H id (Ua o')) (nid+1) (Ua (.vec t0 row))) (nid+1) Ub) (xs:=row) b1 a6 h0 h1 L D p hz G R C y b3 i (sv:=a.eval s) (.inr ⟨nid+1,rfl,by rw[XC];simp,by
    rcases a7 with ⟨N,h4⟩|⟨b,cap,cs,e,css,N,_,h5,h6,h7,h8,h9⟩
    ·grind
    ·exact .inr ⟨b,cap,cs,e,css,(b7 b).2 (by rw[N];rfl),N,h5,h6,h7,by grind,h9⟩⟩)
   obtain⟨val,w',g',c9,d1,d2,d3,d4,d5,d6⟩:=a4
   have Z:H (nid+1)=none:=by
    cases hh:H (nid+1) with
    |none=>rfl
    |some ob=>exact absurd (A.objs _ _ hh).1 W
   have b0:ZY (ZY (ZY (ZY H id (Ua o')) (nid+1) (Ua (.vec t0 row))) (nid+1) Ub) nid (Ua (.vec t0 (row++J)))=Zp H [(id,Ua o'),(nid,Ua (.vec t0 (row++J)))]:=by
    simp only[Zp];funext q;by_cases q1:q=nid
    ·subst q1;rw[XC,XC]
    ·rw[Kt q1,Kt q1];by_cases q2:q=nid+1
     ·subst q2;rw[XC,Kt (Ne.symm b6),Z]
     ·rw[Kt q2,Kt q2]
   rw[b0]at d2;refine⟨val,w',g',c9,d1,d2,b5.trans d3,by grind,d5,fun q hq=>?_⟩;rcases d6 q hq with h|h
   ·rcases a3 q h with h|h
    ·grind
    ·exact .inr ⟨by omega,by unfold Wr;omega⟩
   omega
  simp only[Zjg,Z0,Zy,Zf,Vc]at h;obtain⟨⟨xs,ids⟩,m1,hS,⟨J,X⟩,m2,hX,u,O,⟨rfl,rfl⟩,_⟩:=h
  have y:xs.length+J.length<=549755813888:=by
   unfold Zz at O
   cases hd:Ue (xs.length+J.length<=ZD) with
   |true=>exact Xq hd
   |false=>grind
  have hO:=Zdp A (hF.eval s) hS;have a0:=Zbm A (hF.eval x) hX
  have hp:Zp H (ids.map (fun id=>(id,Ub))++[(nid,Ua (.vec t (xs++J)))])=ZY (Zp H (ids.map fun id=>(id,Ub))) nid (Ua (.vec t (xs++J))):=by exact Xj _ _ _
  rw[hp];refine ZjC (ty:=o.type) A (Yu hk) h0 h1 L D p hz G R C y a0 i (sv:=a.eval s) ?_
  ·rcases hO with ⟨rfl,rfl,N⟩|⟨id,rfl,N,h4⟩
   ·exact .inl ⟨rfl,rfl,N⟩
   ·exact .inr ⟨id,rfl,N,h4⟩
 ·simp [Zb]at h
end ops
end Tr
end
