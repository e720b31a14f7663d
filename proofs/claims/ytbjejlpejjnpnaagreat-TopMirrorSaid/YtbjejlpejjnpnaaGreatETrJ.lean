/- Operations on addresses and parts. Conditions: the table of types is the program's. -/
import Derived.Laws.StructEq
import Derived.ChangeKeysEq
import Derived.Laws.AppendOwn
import Derived.Laws.BytesArg
import Derived.Maps.RangeRun
import Derived.Test.YtbjejlpejjnpnaaGreatETrA
open Array renaming getElem?_eq_getElem ->Vea,getElem?_setIfInBounds ->Via,range ->Vva,length_toList ->Vjb,getElem?_eq_some_iff ->Vob,toList_map ->Vwb,toList_push ->Vjc,size_append ->Vmc,toList_inj ->Vqc
open Bool renaming and_eq_true ->Ve,not_eq_false' ->Vh,false_eq_true ->Vy,or_eq_false_iff ->Vaa,not_eq_true' ->Vab,not_false ->Vlb,eq_iff_iff ->Vwc,and_true ->Vnd
open Go.Builtin renaming zeroCells ->Vk,firstCells ->Vo,append_ ->Vt,len_ ->Vhb,copy_ ->Vtb,nextslicecap ->Vdc,lenOf ->Vhc,min_ ->Vqd,max_ ->Vrd,cap_ ->Vud
open Go.Instr renaming checkKey ->Vz,sliceBound ->Vca,mapUpdate ->Vha,sliceAt ->Vra,lookup ->Vxa,sliceBounds ->Vbb,slice ->Vfb,buildSlice ->Vgb,indexAt ->Vqb,findNow ->Vsb,findAsking ->Vvb,makeSlice ->Vac,sameNow ->Vec,keyThatStays ->Vic,fill ->Vbd,sureAddr ->Vcd,fieldAt ->Vkd,findKey ->Vld,makeMap ->Vmd,index ->Vvd
open Int renaming toNat_of_nonneg ->Vkb,mul_le_mul ->Vfd
open Go.IntKind renaming i64 ->Vua,signed ->Ved,wrap ->Vsd,bits ->Vtd
open List renaming replicate ->Vf,length_append ->Vn,map_cons ->Vr,getElem?_eq_getElem ->Vu,flatten_append ->Vv,getElem?_eq_some_iff ->Vw,length_replicate ->Vx,mem_of_mem_take ->Vfa,append_assoc ->Vja,ext_getElem? ->Vla,take_append_drop ->Vma,length ->Vna,length_take ->Vqa,getElem_of_mem ->Vsa,getElem?_cons_succ ->Vya,flatten_cons ->Vza,drop_eq_nil_of_le ->Vcb,getElem?_append_right ->Vnb,drop_eq_getElem_cons ->Vrb,all_eq_true ->Vub,mem_map ->Vyb,map_map ->Vzb,getElem?_eq_none ->Vbc,mem_range ->Vcc,take_replicate ->Vfc,length_pos_iff ->Vgc,nodup_append ->Vkc,size_toArray ->Vlc,cons_append ->Vnc,range'_succ ->Voc,lookup_cons ->Vrc,isEmpty_nil ->Vuc,mem_flatten ->Vvc,forIn_cons ->Vxc,map_append ->Vyc,nodup_cons ->Vzc,take_left ->Vhd,drop_drop ->Vid,drop_left ->Vjd,mem_cons ->Vod,map_nil ->Vpd
open Nat renaming le_refl ->Vg,le_of_ble_eq_true ->Vj,zero_add ->Vs,min_eq_left ->Vda,lt_succ_self ->Vga,add_mul ->Vka,add_zero ->Vpa,lt_or_ge ->Vxb,beq_eq ->Vad,mul_le_mul ->Vgd
open Option renaming bind_eq_some_iff ->Vl,map_some ->Vm,map_none ->Vp,map_eq_some_iff ->Vq,getD_some ->Vba,isSome_iff_exists ->Vwa,bind_none ->Veb,isSome_none ->Vmb,getD_none ->Vsc,map_map ->Vdd
open Prod renaming fst ->Vdb
open Prod.mk renaming injEq ->Vc,inj ->Vta
open Go.Result renaming andThen_ok ->Va
open Go.Sem renaming run_bind ->Vb,run_pure ->Vd,run ->Vib,run_ite ->Vpc
open Go.Value renaming slice ->Vi,oneCell' ->Voa,cells ->Vpb
open Go.World renaming cell? ->Vtc
section
namespace Tr
open Go
theorem Zus:∀(p:List Nat) (t:Ty) (o:Nat) (c:Ty),Z0 t p=some (o,c)->Ru t p=some c:=by
 intro p t
 induction t generalizing p with
 |prod a b f j=>
  intro o c h
  match p with
  |[]=>rw[WE]at h;obtain⟨rfl,rfl⟩:=Vta (Option.some.inj h);rfl
  |0::p=>simp only[Z0]at h;simpa only[Ru] using f p o c h
  |(n+1)::p=>
   simp only[Z0,Vq]at h;obtain⟨r,d,e⟩:=h;obtain⟨rfl,rfl⟩:=Vta e
   simpa only[Ru] using j (n::p) r.1 r.2 d
 |arr n t k=>
  intro o c h
  match p with
  |[]=>rw[WE]at h;obtain⟨rfl,rfl⟩:=Vta (Option.some.inj h);rfl
  |i::p=>
   simp only[Z0]at h;split at h
   ·simp only[Vq]at h;obtain⟨r,d,e⟩:=h;obtain⟨rfl,rfl⟩:=Vta e;simpa only[Ru] using k p r.1 r.2 d
   grind
 |_=>
  intro o c h
  match p with
  |[]=>rw[WE]at h;obtain⟨rfl,rfl⟩:=Vta (Option.some.inj h);rfl
  |_::_=>simp [Z0]at h
theorem Zej:∀(p:List Nat) (t:Ty) (q:List Nat) (o:Nat) (f:Ty) (d:Nat) (e:Ty),Z0 t p=some (o,f)->Z0 f q=some (d,e)->Z0 t (p++q)=some (o+d,e):=by
 intro p t
 induction t generalizing p with
 |prod a b k l=>
  intro q o f d e c h
  match p with
  |[]=>
   rw[WE]at c
   grind
  |0::p=>
   simp only[Z0]at c
   simpa [Z0] using k p q o f d e c h
  |(n+1)::p=>
   simp only[Z0,Vq]at c;obtain⟨r,c,j⟩:=c;obtain⟨rfl,rfl⟩:=Vta j;have:=l (n::p) q r.1 r.2 d e c h;simp only[Vnc,Z0,Vq]
   grind
 |arr n t s=>
  intro q o f d e c h
  match p with
  |[]=>
   rw[WE]at c
   grind
  |i::p=>
   simp only[Z0]at c;split at c
   ·rename_i m;simp only[Vq]at c;obtain⟨r,c,j⟩:=c;obtain⟨rfl,rfl⟩:=Vta j;have:=s p q r.1 r.2 d e c h;simp only[Vnc,Z0,Zp m,Vq]
    grind
   grind
 |_=>
  intro q o f d e c h
  match p with
  |[]=>
   rw[WE]at c
   grind
  |_::_=>simp [Z0]at c
theorem DT(b o n:Nat):(⟨b,o,none⟩:Addr).add n=⟨b,o+n,none⟩:=by unfold Addr.add;simp
theorem Zcd{α:Type}{xs:List α}{n:Int}{y:α}(h:idx xs n=some y):0<=n/\xs[n.toNat]? =some y/\n<xs.length:=by
 unfold idx at h
 grind
theorem ZaY{n:Int}{m j:Nat}(h:Zo n m=some j):0<=n/\n<m/\j=n.toNat:=by
 unfold Zo at h
 grind
section ops
variable {P:Program}{E:Km}{B:Kd}{H:AH}{w:World}{g:Gh}{ow:Nat->Nat->Prop}{nid:Nat}{a:Act}{F:Nat->AV}{v:AV}{patch:KB}{rd:List Nat}{o:Oper}
theorem ZdL{T f:Nat}{t:Ty}{r:Nat×Ty}(h:W7 P E.ty T t)(q:Z0 t [f]=some r)(y:∀n e,t≠ .arr n e):
 ∃i fd,P.underlying T=some (.struct i)∧i[f]? =some fd∧fd.offset=r.1∧E.ty fd.type=some r.2∧fd.name≠ "_" :=by
 have c:=h.shape
 cases t with
 |prod a b=>
  cases s:P.underlying T with
  |none=>rw[s]at c;simp [Kb]at c
  |some d=>
   rw[s]at c
   cases d with
   |struct i=>
    simp only[Kb,Ve,Vub,Vcc]at c
    have u:f<i.size:=by
     rcases Vxb f i.size with h|h
     ·exact h
     ·exfalso
      have key:∀(t:Ty) (k m:Nat),(Z0 t [k]).isNone=true->t.chain=true->k<=m->(Z0 t [m]).isNone=true:=by
       intro t
       induction t with
       |prod a b _ p=>
        intro k m j l x
        cases k with
        |zero=>simp [Z0,WE]at j
        |succ k=>
         cases m with
         |zero=>omega
         |succ m=>
          simp only[Z0,Option.isNone_map]at j⊢
          exact p k m j l (by omega)
       |unit=>intro k m _ _ _;rfl
       |_=>intro k m _ l;simp [Ty.chain]at l
      have:=key (.prod a b) _ f c.1.2 c.2 h
      grind
    grind
   |_=>simp [Kb]at c
 |unit=>simp [Z0]at q
 |arr n e=>grind
 |_=>simp [Z0]at q
theorem Zkk{t:Ty}(h:t.isStruct=true):∀n e,t≠ .arr n e:=by rintro n e rfl;simp [Ty.isStruct]at h
theorem Zrd{t:Ty}(h:t.isStruct=true):t.agg=true:=by
 cases t<;>simp_all [Ty.isStruct,Ty.agg]
theorem Ztl{T f:Nat}{c:Array Field}{fd:Field}{e:Ty}{b d:Nat}(l:Z9 P E)(h:P.underlying T=some (.struct c))(i:c[f]? =some fd)(j:E.ty fd.type=some e)(k:e.size≠0):
 (Vkd T (.pointer (some ⟨b,d,none⟩)) f).run P w=.ok (.pointer (some ⟨b,d+fd.offset,none⟩)) w:=by
 simp only[Vkd,underlying,Vb,run_program,Va,h,Vd,i,Vcd,fieldPlace,(l.ty _ _ j).run_sizeOf,k,if_false,DT]
theorem KH.sub{b off:Nat}{pre c post:List Value}(h:KH w b off (pre++c++post)):KH w b (off+pre.length) c:=by
 intro j d;have:=h (pre.length+j) (by grind)
 grind
theorem ZiF{T f:Nat}{x:Operand}(Z:Z9 P E)(D:RH B H w g ow)(hF:Fr w g F a.tmps)(ho:o.op=.fieldAddr T x f)
 (h:(ZQ E nid o.op o.type (ZB F)).run H []=some ((v,patch),rd)):Zx B (Zr H patch) w g nid v ((execOp a.eval o).run P w):=by
 rw[ho]at h;simp only[ZQ,ZC,ZL,Zb,ZR,false_or,Vaa,Vh]at h;obtain⟨t,ht,r,N,⟨a1,X⟩,h⟩:=h;have O:r.2.size≠0:=by intro e;simp_all
 obtain⟨fs,fd,h1,h2,h3,h4,_⟩:=ZdL (Z.ty T t ht) N (Zkk X);have R:=hF.eval x
 have key:∀{b l:Nat},a.eval x=.pointer (some ⟨b,l,none⟩)->(execOp a.eval o).run P w=.ok (.value (.pointer (some ⟨b,l+r.1,none⟩))) w:=by intro b l he;simp only[execOp,ho,he,Vb,Ztl Z h1 h2 h4 O,Va,Vd,h3]
 split at h
 ·rename_i t' y G;simp only[ZL,Z4,Zi,Zb,ZR,Z3,Ks,Vc]at h;obtain⟨rfl,u,m,j,⟨rfl,rfl⟩,_⟩:=h;obtain⟨b,off,c,z,A,C,L⟩:=(G▸R).dp;obtain⟨_,c1,⟨o2,pre,post,K,S,U⟩,V⟩:=ZdV [f] t' y _ _ u c j L;rw[N]at K;cases K;refine Zx.pure D (key z) (K8 ?_ rfl rfl);simp only[CV];refine⟨b,off+o2,c1,rfl,A,?_,V⟩;rw[<-U];rw[S]at C;exact C.sub
 ·rename_i id p G;rw[Z1]at h;split at h
  ·rename_i Y c W;simp only[ZC,ZL,Zi,Zb,ZR,Z3,Ks,Vc]at h;obtain⟨q,n,rfl,⟨rfl,rfl⟩,_⟩:=h;obtain⟨J,l,t1,b,j,z,A⟩:=(G▸R).ptr;obtain⟨_,d,_⟩:=D.objs id _ W;rw[d]at j;have e1:=(Zus _ _ _ _ j).symm.trans n;obtain rfl:=Option.some.inj e1;refine Zx.pure D (key A) (K8 ?_ rfl rfl);simp only[CV];exact⟨J,l+r.1,r.2,b,by rw[d];exact Zej p Y [f] _ _ _ _ j N,z,rfl⟩
  ·simp [Zb]at h
 ·rename_i id i p G;rw[Z1]at h;split at h
  ·rename_i Y xs W;simp only[ZC,ZL,Zi,Zb,ZR,Z3,Ks,Vc]at h;obtain⟨q,n,rfl,⟨rfl,rfl⟩,_⟩:=h;obtain⟨J,l,t1,b,j,z,A⟩:=(G▸R).vp;obtain⟨_,d,_⟩:=D.objs id _ W;have a0:=n;rw[d,n]at j;cases j;refine Zx.pure D (key A) (K8 ?_ rfl rfl);simp only[CV];exact⟨J,l+r.1,r.2,b,by rw[d];exact Zej p Y [f] _ _ _ _ n N,z,by grind⟩
  ·simp [Zb]at h
 ·rename_i id ver kt k i p G;simp only[ZC,Z4,ZL,Zi,Zb,ZR,Z3,Ks,Vc]at h;obtain⟨s,m,M,q,n,rfl,⟨rfl,rfl⟩,_⟩:=h;obtain⟨J,hv,ad,j,z⟩:=(G▸R).np;obtain⟨_,d,Q,_⟩:=Zdf D J M;obtain⟨b,len,cap,l,t1,A,C,L⟩:=z Q;rw[d]at C L;simp only[Di]at C L;rw[n]at C;cases C;subst L;refine Zx.pure D (key j) (K8 ?_ rfl rfl);simp only[CV];refine⟨J,hv,_,rfl,fun _=>⟨b,len,cap,l+r.1,r.2,A,?_,?_⟩⟩
  ·rw[d];exact Zej p s.1 [f] _ _ _ _ n N
  ·rw[d];simp only[Di];grind
 ·simp [Zb]at h
theorem Rr{T:TypeId}{t:Ty}(d:W7 P E.ty T t){cs:Array Value}{pre c post:List Value}(b:cs.toList=pre++c++post)(h:c.length=t.size)(e:t.agg=false->∃v,c=[v]):
 (part T cs pre.length).run P w=.ok (GI t.agg c) w:=by
 simp only[part,Vb,d.run_isAgg,Va]
 cases f:t.agg with
 |true=>
  simp only[if_true,Vb,d.run_sizeOf,Va,Vd,GI];congr 2;apply Array.ext'
  simp_all
 |false=>
  obtain⟨u,rfl⟩:=e f
  have:cs[pre.length]? =some u:=by rw[<-Array.getElem?_toList,b,Vja,Vnb (by omega)];simp
  simp [this,GI]
theorem H3{x:AV}{val:Value}(h:Kk w g x val)(d:x.isAgg=true)(e:x≠ .junk):∃cs,val=.agg cs/\CV w g x cs.toList:=by
 obtain⟨c,b⟩:=h;rcases b with b|b
 ·grind
 ·rw[d]at b
  cases val<;>simp [Ka]at b
  exact⟨_,rfl,c⟩
theorem Zot{T f:Nat}{x:Operand}(q:Z9 P E)(G:RH B H w g ow)(hF:Fr w g F a.tmps)(s:o.op=.field T x f)
 (h:(ZQ E nid o.op o.type (ZB F)).run H []=some ((v,patch),rd)):Zx B (Zr H patch) w g nid v ((execOp a.eval o).run P w):=by
 rw[s]at h;simp only[ZQ,ZC,ZL,Zb,ZR,false_or,Z3,Vaa,Vh,Z4,Zi,Vc,Ve]at h;obtain⟨t,M,r,u,⟨⟨c,d⟩,b⟩,O,m,L,⟨U,l⟩,⟨rfl,rfl⟩,_⟩:=h;obtain⟨Q,fd,z,A,R,C,_⟩:=ZdL (q.ty T t M) u (Zkk c);obtain⟨cs,K,J⟩:=H3 ((hF.eval x).to1 (ZaU d).2) (by rw[ZdO d b,Zrd c]) (ZaU d).1;obtain⟨_,N,y,⟨V,pre,post,n,D,S⟩,k,p⟩:=Zgk L d J;rw[u]at n;cases n;obtain⟨e,i⟩:=ZbH p k (ZdO k l);refine Zx.pure G ?_ (VR.of1 e);have j:fd.offset=pre.length:=by omega
 simp only[execOp,s,Vb,Instr.field,underlying,run_program,Va,z,Vd,A,K,asAgg,j,Rr (q.ty _ _ C) D (CV.length O N y k p) i]
theorem Jz{T:TypeId}{t:Ty}(f:Z9 P E)(h:E.ty T=some (.sl t)):∃c,P.underlying T=some (.slice c)/\E.ty c=some t:=by
 have b:=(f.ty T _ h).shape
 cases e:P.underlying T with
 |none=>rw[e]at b;simp [Kb]at b
 |some d=>rw[e]at b;cases d<;>simp [Kb]at b;grind
theorem ZbP{T:TypeId}{t:Ty}{n:Nat}(f:Z9 P E)(h:E.ty T=some (.arr n t)):∃c,P.underlying T=some (.array n c)/\E.ty c=some t:=by
 have b:=(f.ty T _ h).shape
 cases e:P.underlying T with
 |none=>rw[e]at b;simp [Kb]at b
 |some d=>rw[e]at b;cases d<;>simp [Kb]at b;grind
theorem Zbg{T c:TypeId}{t:Ty}{b d len cap:Nat}{k:IntKind}{n:Int}(i:Z9 P E)(f:P.underlying T=some (.slice c))(h:E.ty c=some t)(e:0<=n)(j:n<len):
 (Vqb T (.slice (some ⟨b,d,none⟩) len cap) (.int k n)).run P w=.ok (.pointer (some ⟨b,d+n.toNat*t.size,none⟩)) w:=by
 simp only[Vqb,asIntOf,underlying,Vb,run_program,Va,f,Vd,e,j,and_self,if_true,(i.ty _ _ h).run_sizeOf,DT]
theorem Zmk{T c:TypeId}{t:Ty}{b d m:Nat}{k:IntKind}{n:Int}(i:Z9 P E)(f:P.underlying T=some (.array m c))(h:E.ty c=some t)(e:0<=n)(j:n<m):
 (Vqb T (.pointer (some ⟨b,d,none⟩)) (.int k n)).run P w=.ok (.pointer (some ⟨b,d+n.toNat*t.size,none⟩)) w:=by
 simp only[Vqb,asIntOf,underlying,Vcd,Vb,run_program,Va,f,Vd,e,j,and_self,if_true,(i.ty _ _ h).run_sizeOf,DT]
theorem Zgb{I:Nat->Prop}{t:Ty}{xs:List (El t)}{css:List (List Value)}{b off:Nat}(h:Fa (Rd w I t) xs css)(d:KH w b off css.flatten){i:Nat}{y:El t}(j:xs[i]? =some y):
 ∃c,Rd w I t y c/\KH w b (off+i*t.size) c:=by
 obtain⟨c,e,f⟩:=h.get i y j;obtain⟨k,l,_⟩:=D9 e t.size (Rd.all_length h);refine⟨c,f,?_⟩;rw[k]at d;rw[<-l];exact d.sub
theorem ZeU{id:Nat}{t:Ty}{xs:List (El t)}{val:Value}(h:RH B H w g ow)(f:H id=some (.dat t xs))(c:VR w g (.vw id) val):VR w g (.d (.sl t) xs) val:=by
 obtain⟨_,_,i⟩:=h.objs id _ f;have e:=(c.to1 (by simp)).1;simp only[CV]at e;rw[<-c.vw.2]at i;have b:val.oneCell' =true:=by rw[c.vw.2];grind
 exact K8 (by assumption) b rfl
theorem Zov{T:Nat}{x i:Operand}(C:Z9 P E)(L:RH B H w g ow)(hF:Fr w g F a.tmps)(X:o.op=.indexAddr T x i)
 (h:(ZQ E nid o.op o.type (ZB F)).run H []=some ((v,patch),rd)):Zx B (Zr H patch) w g nid v ((execOp a.eval o).run P w):=by
 rw[X]at h;simp only[ZQ,ZC]at h;obtain⟨T',s,h⟩:=h;have Y:=hF.eval x;have Z:=hF.eval i;split at h
 ·rename_i t xs k n d f;simp only[ZL,ZC,Zi,Zb,ZR,Z3,Ks,Vc]at h;obtain⟨rfl,y,hy,⟨rfl,rfl⟩,_⟩:=h;obtain⟨G,Q,D⟩:=Zcd hy;obtain⟨Et,J,K⟩:=Jz C s;obtain⟨ad,cap,M,A,h4,R,_⟩:=(d▸Y).sl;obtain⟨b,off,rfl,h6,S⟩:=R (by grind);obtain⟨c,h8,h9⟩:=Zgb h4 S Q;refine Zx.pure (val:=.pointer (some ⟨b,off+n.toNat*t.size,none⟩)) L ?_ (K8 ?_ rfl rfl)
  ·simp only[execOp,X,A,(f▸Z).int,Vb,Zbg C J K G D,Va,Vd]
  ·simp only[CV];grind
 ·rename_i id k n d f;rw[Z1]at h;split at h
  ·rename_i t xs U;simp only[ZL,ZC,Zi,Zb,ZR,Z3,Ks,Vc]at h;obtain⟨rfl,j,V,⟨rfl,rfl⟩,_⟩:=h;obtain⟨G,D,rfl⟩:=ZaY V;obtain⟨Et,J,K⟩:=Jz C s;obtain⟨W,z⟩:=(d▸Y).vw;obtain⟨_,l,hO⟩:=L.objs id _ U;rcases hO with ⟨rfl,_⟩|⟨b,cap,cs,e,M,hb,hJ,hs,hh,hl,N,a1,O⟩
   ·grind
   refine Zx.pure (val:=.pointer (some ⟨b,0+n.toNat*t.size,none⟩)) L ?_ (K8 ?_ rfl rfl)
   ·simp only[execOp,X,z,hs,(f▸Z).int,Vb,Zbg C J K G D,Va,Vd]
   ·simp only[CV];exact⟨W,0,t,b,by rw[l,WE],hb,by grind⟩
  ·rename_i t xs u a5 U;simp only[ZL,ZC,Zi,Zb,ZR,Z3,Ks,Vc]at h;obtain⟨rfl,j,V,⟨rfl,rfl⟩,_⟩:=h;obtain⟨G,D,rfl⟩:=ZaY V;obtain⟨Et,J,K⟩:=Jz C s;obtain⟨W,z⟩:=(d▸Y).vw;obtain⟨_,l,_,_,hO⟩:=L.objs id _ U;rcases hO with ⟨rfl,_⟩|⟨b,cap,cs,e,hb,hJ,hs,hh,hl,N,O⟩
   ·grind
   refine Zx.pure (val:=.pointer (some ⟨b,0+n.toNat* (Ty.sl t).size,none⟩)) L ?_ (K8 ?_ rfl rfl)
   ·simp only[execOp,X,z,hs,(f▸Z).int,Vb,Zbg C J K G D,Va,Vd]
   ·simp only[CV];exact⟨W,0,.sl t,b,by rw[l,WE],hb,by grind⟩
  ·rename_i t xs U;simp only[ZL,ZC,Zi,Zb,ZR,Z3,Ks,Vc]at h;obtain⟨rfl,y,hy,⟨rfl,rfl⟩,_⟩:=h;obtain⟨G,Q,D⟩:=Zcd hy;obtain⟨Et,J,K⟩:=Jz C s;obtain⟨ad,cap,M,A,h4,R,_⟩:=(ZeU L U (d▸Y)).sl;obtain⟨b,off,rfl,h6,S⟩:=R (by grind);obtain⟨c,h8,h9⟩:=Zgb h4 S Q;refine Zx.pure (val:=.pointer (some ⟨b,off+n.toNat*t.size,none⟩)) L ?_ (K8 ?_ rfl rfl)
   ·simp only[execOp,X,A,(f▸Z).int,Vb,Zbg C J K G D,Va,Vd]
   ·simp only[CV];grind
  ·simp [Zb]at h
 ·rename_i id ver kt k k2 n d f;simp only[Z4,ZL,ZC,Zi,Zb,ZR,Z3,Ks,Vc]at h;obtain⟨r,m,a0,rfl,j,V,⟨rfl,rfl⟩,_⟩:=h;obtain⟨G,D,rfl⟩:=ZaY V;obtain⟨Et,J,K⟩:=Jz C s;obtain⟨W,hv,_,_⟩:=(d▸Y).nw;obtain⟨_,l,a6,a9,a2⟩:=Zaw L (d▸Y) a0;rcases a2 with ⟨A,_⟩|⟨b,cap,cs,e,M,A,hJ,hh,hl,N,a1,O⟩
  ·grind
  refine Zx.pure (val:=.pointer (some ⟨b,0+n.toNat*r.1.size,none⟩)) L ?_ (K8 ?_ rfl rfl)
  ·simp only[execOp,X,A,(f▸Z).int,Vb,Zbg C J K G D,Va,Vd]
  ·simp only[CV];refine⟨W,hv,_,rfl,fun _=>⟨b,r.2.length,cap,0,r.1,by grind,by rw[l,WE];rfl,by rw[l];simp [Di]⟩⟩
 ·rename_i id lo m k n d f;rw[Z1]at h;split at h
  ·rename_i t xs U;simp only[ZL,ZC,Zi,Zb,ZR,Z3,Ks,Vc]at h;obtain⟨rfl,_,a8,j,V,⟨rfl,rfl⟩,_⟩:=h;obtain⟨G,D,rfl⟩:=ZaY V;obtain⟨Et,J,K⟩:=Jz C s;obtain⟨W,z⟩:=(d▸Y).vs;obtain⟨_,l,hO⟩:=L.objs id _ U;rcases hO with ⟨rfl,hb,hs⟩|⟨b,cap,cs,e,M,hb,hJ,hs,hh,hl,N,a1,O⟩
   ·exfalso;rw[hs]at z;rcases z with ⟨_,_,rfl,_⟩|⟨b,len,cap,m',A,_⟩
    all_goals grind
   rw[hs,l]at z;rcases z with ⟨A,_⟩|⟨b',len,a3,m',A,h4,R,h6,S⟩
   ·omega
   injection A with A a7 a4;injection A with A;cases A;have hm:m' ≠0:=by omega
   rw[Zf hm]at S;have he:a.eval x=.slice (some ⟨b,lo*t.size,none⟩) m m' :=by grind
   refine Zx.pure (val:=.pointer (some ⟨b,lo*t.size+n.toNat*t.size,none⟩)) L ?_ (K8 ?_ rfl rfl)
   ·simp only[execOp,X,he,(f▸Z).int,Vb,Zbg C J K G D,Va,Vd]
   ·simp only[CV];exact⟨W,0,t,b,by rw[l,WE],hb,by grind⟩
  ·simp [Zb]at h
 ·rename_i m t xs k n d f;simp only[ZL,ZC,Zi,Zb,ZR,Z3,Ks,Vc]at h;obtain⟨rfl,y,hy,⟨rfl,rfl⟩,_⟩:=h;obtain⟨G,Q,D⟩:=Zcd hy;obtain⟨Et,J,K⟩:=ZbP C s;obtain⟨b,off,c,A,h4,R,h6,M,rfl,S⟩:=(d▸Y).dp;rw[h6]at D;obtain⟨c,h8,h9⟩:=Zgb S R Q;refine Zx.pure (val:=.pointer (some ⟨b,off+n.toNat*t.size,none⟩)) L ?_ (K8 ?_ rfl rfl)
  ·simp only[execOp,X,A,(f▸Z).int,Vb,Zmk C J K G D,Va,Vd]
  ·simp only[CV];grind
 ·rename_i id p k n d f;rw[Z1]at h;split at h
  ·rename_i t0 c U;simp only[ZC]at h;obtain⟨q,hq,h⟩:=h;split at h
   ·rename_i m t hm;simp only[ZL,ZC,Zi,Zb,ZR,Z3,Ks,Vc]at h;obtain⟨rfl,j,V,⟨rfl,rfl⟩,_⟩:=h;obtain⟨G,D,rfl⟩:=ZaY V;obtain⟨Et,J,K⟩:=ZbP C s;obtain⟨W,o',t1,b,R,h6,S⟩:=(d▸Y).ptr;obtain⟨_,l,_⟩:=L.objs id _ U;rw[l,hq]at R;cases R;simp only at hm;subst hm;refine Zx.pure (val:=.pointer (some ⟨b,o' +n.toNat*t.size,none⟩)) L ?_ (K8 ?_ rfl rfl)
    ·simp only[execOp,X,S,(f▸Z).int,Vb,Zmk C J K G D,Va,Vd]
    ·simp only[CV];refine⟨W,o' +n.toNat*t.size,t,b,?_,h6,rfl⟩;rw[l]
     have:Z0 (.arr m t) [n.toNat]=some (n.toNat*t.size,t):=by simp only[Z0];grind
     exact Zej p t0 [n.toNat] _ _ _ _ hq this
   ·simp [Zb]at h
  ·simp [Zb]at h
 ·simp [Zb]at h
theorem Zou{T:Nat}{x i:Operand}(p:Z9 P E)(L:RH B H w g ow)(hF:Fr w g F a.tmps)(D:o.op=.index T x i)
 (h:(ZQ E nid o.op o.type (ZB F)).run H []=some ((v,patch),rd)):Zx B (Zr H patch) w g nid v ((execOp a.eval o).run P w):=by
 rw[D]at h;simp only[ZQ,ZC]at h;obtain⟨T',j,h⟩:=h;have Q:=hF.eval x;have N:=hF.eval i;split at h
 ·rename_i m t xs k n e b;simp only[ZL,ZC,Zi,Zb,ZR,Z3,Ks,Vc,Ve]at h;obtain⟨⟨rfl,Y⟩,y,G,⟨rfl,rfl⟩,_⟩:=h;obtain⟨s,l,C⟩:=Zcd G;obtain⟨Et,R,J⟩:=ZbP p j;obtain⟨cs,W,M⟩:=H3 (x:=.d (.arr m t) xs) (e▸Q) rfl (by simp);simp only[CV]at M;obtain⟨S,f,h7,K⟩:=M;rw[S]at C;obtain⟨c,U,u⟩:=K.get _ y l;obtain⟨s1,s2,_⟩:=D9 U t.size (Rd.all_length K);obtain⟨z,A⟩:=ZbH (w:=w) (g:=g) (a:=.d t y) (t:=t) (by assumption) (by simp [AV.fits]) rfl;refine Zx.pure L ?_ (VR.of1 z);have O:=Rr (w:=w) (p.ty _ _ J) (cs:=cs) (pre:=(f.take n.toNat).flatten) (c:=c) (post:=(f.drop (n.toNat+1)).flatten) (by grind) (Rd.length t y c u) A
  rw[s2]at O;simp only[execOp,D,W,(b▸N).int,Vvd,asIntOf,underlying,Vb,run_program,Va,R,Vd,s,C,and_self,if_true,(p.ty _ _ J).run_sizeOf,O]
 ·rename_i xs k n e b;simp only[ZL,ZC,Zi,Zb,ZR,Z3,Ks,Vc]at h;obtain⟨rfl,y,G,⟨rfl,rfl⟩,_⟩:=h;obtain⟨s,l,C⟩:=Zcd G
  have r:P.underlying T=some .string:=by
   have q:=(p.ty T _ j).shape
   cases r:P.underlying T with
   |none=>rw[r]at q;simp [Kb]at q
   |some d=>rw[r]at q;cases d<;>simp [Kb]at q;rfl
  refine Zx.pure (val:=.int .u8 y.toNat) L ?_ (Je _ _)
  have V:(⟨xs.toArray⟩:ByteArray)[n.toNat]? =some y:=by
   have X:n.toNat<xs.length:=by omega
   have Z:xs[n.toNat]=y:=by grind
   rw[getElem?_pos (⟨xs.toArray⟩:ByteArray) n.toNat (by assumption)];congr 1
  simp only[execOp,D,(e▸Q).str,(b▸N).int,Vvd,asIntOf,underlying,Vb,run_program,Va,r,Vd,s,if_true,V]
 ·simp [Zb]at h
end ops
end Tr
end
section
namespace Tr
open Go
theorem Ty.depth_pos(t:Ty):1<=t.dep:=by
 induction t with
 |prod a b _ d=>simp only[Ty.dep];omega
 |arr n t c=>simp only[Ty.dep];omega
 |sl t c=>simp only[Ty.dep];omega
 |_=>simp [Ty.dep]
section
variable {P:Program}{E:Km}{w:World}{g:Gh}
theorem ZeN(l:List UInt8):(⟨l.toArray⟩:ByteArray).toList=l:=by rw[ByteArray.toList_eq]
theorem ZjL{T f:Nat}{t:Ty}{e:Array Field}(h:W7 P E.ty T t)(k:P.underlying T=some (.struct e))(d:f<e.size):∃r,Z0 t [f]=some r:=by
 have c:=h.shape;rw[k]at c
 cases t with
 |prod a b=>
  simp only[Kb,Ve,Vub,Vcc]at c;have i:=c.1.1 f d;rw[Vea d]at i
  cases j:Z0 (.prod a b) [f] with
  |none=>simp [j]at i
  |some r=>exact⟨r,rfl⟩
 |unit=>
  simp only[Kb,Array.isEmpty_iff]at c;subst c
  simp at d
 |_=>simp [Kb]at c
theorem Za2{t:Ty}{x:El t}{c:List Value}(h:Rd w g.I t x c):Kk w g (.d t x) (GI t.agg c)/\(t.agg=false->∃v,c=[v]):=
 ZbH (a:=.d t x) (by simpa only[CV] using h) (by simp [AV.fits]) rfl
theorem Zmh(hT:Z9 P E):∀(N:Nat) (t:Ty) (T:TypeId) (x y:El t) (vx vy:Value) (r:Bool) (d:Nat),sizeOf t<N->E.ty T=some t->t.dep<=d->eqEl t x y=some r->
 Kk w g (.d t x) vx->Kk w g (.d t y) vy->(Op.equalIn d T vx vy).run P w=.ok r w:=by
 intro N
 induction N with
 |zero=>intro t T x y vx vy r d h;omega
 |succ N ih=>
 intro t T x y vx vy r d hN ht hd c hx hy;obtain⟨d,rfl⟩:∃d',d=d' +1:=⟨d - 1,by have:=t.depth_pos;omega⟩;have s:=hT.ty T t ht
 cases t with
 |int k=>
  have l:P.underlying T=some (.int k):=by
   have j:=s.shape
   cases l:P.underlying T with
   |none=>rw[l]at j;simp [Kb]at j
   |some d=>rw[l]at j;cases d<;>simp [Kb]at j;rw[j]
  rw[(VR.of1 hx).int,(VR.of1 hy).int,run_equalIn_int w d T k k x y l];simp only[eqEl,Option.some.injEq]at c
  subst c;rfl
 |bool=>
  have l:P.underlying T=some .bool:=by
   have j:=s.shape
   cases l:P.underlying T with
   |none=>rw[l]at j;simp [Kb]at j
   |some d=>rw[l]at j;cases d<;>simp [Kb]at j;rfl
  rw[(VR.of1 hx).bool,(VR.of1 hy).bool,run_equalIn_bool' w d T x y l];simp only[eqEl,Option.some.injEq]at c
  subst c;rfl
 |str=>
  have l:P.underlying T=some .string:=by
   have j:=s.shape
   cases l:P.underlying T with
   |none=>rw[l]at j;simp [Kb]at j
   |some d=>rw[l]at j;cases d<;>simp [Kb]at j;rfl
  rw[(VR.of1 hx).str,(VR.of1 hy).str,run_equalIn_string w d T _ _ l,ZeN,ZeN];simp only[eqEl,Option.some.injEq]at c;subst c;congr 1
  rw[Vwc];simp
 |sl t=>simp [eqEl]at c
 |ref=>simp [eqEl]at c
 |pt t=>simp [eqEl]at c
 |lk a b=>simp [eqEl]at c
 |pn t=>simp [eqEl]at c
 |arr n e=>
  obtain⟨Et,l,he⟩:=ZbP hT ht;obtain⟨xs,rfl,K⟩:=H3 hx rfl (by simp);obtain⟨Y,rfl,L⟩:=H3 hy rfl (by simp);simp only[CV]at K L;obtain⟨b8,a7,h1,h2⟩:=K;obtain⟨d0,a8,h3,h4⟩:=L;obtain⟨i,z,hi,b2,_⟩:=(hT.ty Et e he).info;have Z:P.cellsOf Et=e.size:=by simp [Program.cellsOf,hi,b2]
  rw[run_equalIn_array w d xs Y l hi,Z];simp only[eqEl]at c
  have key:∀(m k:Nat) (lx ly:List (El e)) (G J:List (List Value)) (M O:List Value) (r:Bool),m=lx.length->eqEl.eqs (eqEl e) lx ly=some r->Fa (Rd w g.I e) lx G->Fa (Rd w g.I e) ly J->
   xs.toList=M++G.flatten->Y.toList=O++J.flatten->M.length=k*e.size->O.length=k*e.size->
   (Op.eqItems d Et e.size xs Y (List.range' k m)).run P w=.ok r w:=by
   intro m
   induction m with
   |zero=>
    intro k lx ly G J M O r hm X S U _ _ _ _;have:lx=[]:=List.length_eq_zero_iff.1 hm.symm;subst this
    cases ly with
    |nil=>simp only[eqEl.eqs,Option.some.injEq]at X;subst X;rfl
    |cons _ _=>simp [eqEl.eqs]at X
   |succ m c8=>
    intro k lx ly G J M O r hm X S U A C V W
    cases lx with
    |nil=>simp at hm
    |cons a lx=>
    cases ly with
    |nil=>simp [eqEl.eqs]at X
    |cons b ly=>
     simp only[eqEl.eqs,Vl]at X;obtain⟨p,hp,q,X,hr⟩:=X;simp only[Option.some.injEq]at hr
     cases G with
     |nil=>exact S.elim
     |cons ca G=>
     cases J with
     |nil=>exact U.elim
     |cons cb J=>
      obtain⟨ha,S⟩:=S;obtain⟨hb,U⟩:=U;obtain⟨v1,v2⟩:=Za2 (g:=g) ha;obtain⟨u1,u2⟩:=Za2 (g:=g) hb;rw[Vza, <-Vja]at A C;have e1:=Rr (w:=w) (hT.ty Et e he) A (Rd.length e a ca ha) v2;have e2:=Rr (w:=w) (hT.ty Et e he) C (Rd.length e b cb hb) u2;rw[V]at e1;rw[W]at e2;have e3:=ih e Et a b _ _ p d (by simp at hN;omega) he (by simp [Ty.dep]at hd;omega) hp v1 u1;simp only[Voc,Op.eqItems,Vb,e1,e2,e3,Va,Vpc,Vd]
      cases p with
      |false=>simp at hr;subst hr;rfl
      |true=>
       simp at hr;subst hr
       have:=c8 (k+1) lx ly G J (M++ca) (O++cb) q (by simp at hm;omega) X S U A C
        (by rw[Vn,V,Rd.length e a ca ha,Vka];omega) (by rw[Vn,W,Rd.length e b cb hb,Vka];omega)
       simpa using this
  rw[List.range_eq_range']
  exact key n 0 x y a7 a8 [] [] r b8.symm c h2 h4 h1 h3 (by simp) (by simp)
 |unit=>
  obtain⟨xs,rfl,K⟩:=H3 hx rfl (by simp);obtain⟨Y,rfl,L⟩:=H3 hy rfl (by simp);have j:=s.shape
  cases l:P.underlying T with
  |none=>rw[l]at j;simp [Kb]at j
  |some dd=>
   rw[l]at j
   cases dd<;>simp [Kb]at j
   have Q:P.fieldsOf T= #[]:=by simp [Program.fieldsOf,l,j]
   rw[run_equalIn_struct w d T xs Y (by rw[Q,l,j]) s.stood,Q];simp only[eqEl,Option.some.injEq]at c
   subst c;rfl
 |prod a0 b0=>
  obtain⟨xs,rfl,K⟩:=H3 hx rfl (by simp);obtain⟨Y,rfl,L⟩:=H3 hy rfl (by simp);simp only[CV]at K L;have j:=s.shape
  cases l:P.underlying T with
  |none=>rw[l]at j;simp [Kb]at j
  |some dd=>
   rw[l]at j
   cases dd with
   |struct fs=>
    have Q:P.fieldsOf T=fs:=by simp [Program.fieldsOf,l]
    rw[run_equalIn_struct w d T xs Y (by rw[Q,l]) s.stood,Q];have b6:b0.chain=true:=by simp only[Kb,Ve]at j;exact j.2
    have key:∀(u:Ty) (k base:Nat) (x y:El u) (M G O J:List Value) (r:Bool),sizeOf u<=sizeOf (Ty.prod a0 b0)->u.chain=true->u.dep<=d+1->(∀f,Z0 (.prod a0 b0) [k+f]=(Z0 u [f]).map fun q=>(q.1+base,q.2))->
     xs.toList=M++G->Y.toList=O++J->M.length=base->O.length=base->Rd w g.I u x G->Rd w g.I u y J->eqEl u x y=some r->
     (Op.eqFields d xs Y (fs.toList.drop k)).run P w=.ok r w:=by
     intro u
     induction u with
     |unit=>
      intro k base x y M G O J r _ _ _ D _ _ _ _ _ _ c
      have hk:fs.size<=k:=by
       rcases Vxb k fs.size with h|h
       ·obtain⟨r,hr⟩:=ZjL s l h;have:=D 0;rw[Vpa,hr]at this;simp [Z0]at this
       ·exact h
      rw[Vcb (by simpa using hk)];simp only[eqEl,Option.some.injEq]at c
      subst c;rfl
     |prod a b _ c7=>
      intro k base x y M G O J r b4 hc a1 D A C V W b9 c4 c;obtain⟨c1,c2,rfl,a5,c5⟩:=b9;obtain⟨e1,e2,rfl,a6,c6⟩:=c4;obtain⟨p,q,hp,X,rfl⟩:=Zjy c
      have h0:Z0 (.prod a0 b0) [k]=some (base,a):=by have:=D 0;rw[Vpa]at this;rw[this];simp only[Z0,WE,Vm,Vs]
      obtain⟨c9,fd,b5,a9,b1,R,a3⟩:=ZdL s h0 (by intro n e;simp);rw[l]at b5;cases b5;have b3:k<fs.size:=(Vob.1 a9).1
      have a2:fs.toList.drop k=fd::fs.toList.drop (k+1):=by rw[Vrb (by simpa using b3)];congr 1;have:=(Vob.1 a9).2;simpa using this
      obtain⟨v1,v2⟩:=Za2 (g:=g) a5;obtain⟨u1,u2⟩:=Za2 (g:=g) a6;rw[<-Vja]at A C;have r1:=Rr (w:=w) (hT.ty _ _ R) A (Rd.length a _ c1 a5) v2;have r2:=Rr (w:=w) (hT.ty _ _ R) C (Rd.length a _ e1 a6) u2;have a4:fd.offset=base:=b1;rw[V]at r1;rw[W]at r2;have r3:=ih a fd.type x.1 y.1 _ _ p d (by simp at hN b4;omega) R (by simp only[Ty.dep]at a1;omega) hp v1 u1;rw[a2];simp only[Op.eqFields,a3,ne_eq,not_false_eq_true,if_true,a4,Vb,r1,r2,r3,Va,Vpc,Vd]
      cases p with
      |false=>rfl
      |true=>
       have:=c7 (k+1) (base+a.size) x.2 y.2 (M++c1) c2 (O++e1) e2 q (by simp at b4⊢;omega) hc (by simp only[Ty.dep]at a1;omega)
        (fun f=>by have:=D (f+1);rw[show k+1+f=k+(f+1) by omega,this];simp only[Z0,Vdd];congr 1;funext z;simp only[Function.comp];congr 1;omega) A C (by rw[Vn,V,Rd.length a _ c1 a5]) (by rw[Vn,W,Rd.length a _ e1 a6]) c5 c6 X
       simpa using this
     |_=>intro k base x y M G O J r _ hc;simp [Ty.chain]at hc
    have b7:(Ty.prod a0 b0).dep<=d+1:=hd
    exact key (.prod a0 b0) 0 0 x y [] xs.toList [] Y.toList r (Vg _) b6 b7 (fun f=>by simp) rfl rfl rfl rfl K L c
   |_=>simp [Kb]at j
end
end Tr
end
section
namespace Tr
open Go
section
variable {P:Program}{E:Km}{w:World}{g:Gh}
theorem Zqr{a b:Ty}{x y:El (.prod a b)}{p q:Bool}(c:eqEl a x.1 y.1=some p)(d:eqEl b x.2 y.2=some q):∃r,eqEl (.prod a b) x y=some r:=by
 cases b with
 |unit=>exact⟨p,c⟩
 |_=>
  refine⟨p&&q,?_⟩;show (eqEl a x.1 y.1).bind _=_
  grind
theorem Zqt{I:Nat->Prop} :∀(t:Ty) (x y:El t) (i j:List Value),t.key=true->Rd w I t x i->Rd w I t y j->∃r,eqEl t x y=some r:=by
 intro t
 induction t with
 |int k=>intro x y _ _ _ _ _;exact⟨_,rfl⟩
 |bool=>intro x y _ _ _ _ _;exact⟨_,rfl⟩
 |str=>intro x y _ _ _ _ _;exact⟨_,rfl⟩
 |unit=>intro x y _ _ _ _ _;exact⟨_,rfl⟩
 |sl t _=>intro x y _ _ h;simp [Ty.key]at h
 |ref=>intro x y _ _ h;simp [Ty.key]at h
 |pt t _=>intro x y _ _ h;simp [Ty.key]at h
 |lk a b _ _=>intro x y _ _ h;simp [Ty.key]at h
 |pn t _=>intro x y _ _ h;simp [Ty.key]at h
 |prod a b K L=>
  intro x y i j c G J;obtain⟨T,U,_,N,s⟩:=G;obtain⟨V,W,_,O,u⟩:=J;simp only[Ty.key,Ve]at c;obtain⟨p,C⟩:=K _ _ _ _ c.1 N O;obtain⟨q,D⟩:=L _ _ _ _ c.2 s u
  exact Zqr C D
 |arr n t S=>
  intro x y i j c G J;obtain⟨N,e,_,s⟩:=G;obtain⟨O,f,_,u⟩:=J;simp only[Ty.key]at c
  have key:∀(l m:List (El t)) (cl d:List (List Value)),l.length=m.length->Fa (Rd w I t) l cl->Fa (Rd w I t) m d->∃r,eqEl.eqs (eqEl t) l m=some r:=by
   intro l
   induction l with
   |nil=>intro m _ _ h _ _;cases m<;>simp at h;exact⟨true,rfl⟩
   |cons a l M=>
    intro m cl d h z A
    cases m with
    |nil=>grind
    |cons b m=>
     cases cl with
     |nil=>exact z.elim
     |cons Q cl=>
     cases d with
     |nil=>exact A.elim
     |cons R d=>
     obtain⟨p,C⟩:=S a b Q R c z.1 A.1;obtain⟨q,D⟩:=M m cl d (by grind) z.2 A.2;exact⟨p&&q,by simp [eqEl.eqs,C,D]⟩
  exact key x y e f (by omega) s u
theorem Zrm{I:Nat->Prop} :∀(t:Ty) (x:El t) (f i:List Value),t.key=true->Rd w I t x f->Rd w I t x i->f=i:=by
 intro t
 induction t with
 |int k=>intro x f i _ c d;exact c.trans d.symm
 |bool=>intro x f i _ c d;exact c.trans d.symm
 |str=>intro x f i _ c d;exact c.trans d.symm
 |unit=>intro x f i _ c d;exact c.trans d.symm
 |sl t _=>intro x _ _ h;simp [Ty.key]at h
 |ref=>intro x _ _ h;simp [Ty.key]at h
 |pt t _=>intro x _ _ h;simp [Ty.key]at h
 |lk a b _ _=>intro x _ _ h;simp [Ty.key]at h
 |pn t _=>intro x _ _ h;simp [Ty.key]at h
 |prod a b A C=>
  intro x f i j c d;obtain⟨D,G,rfl,u,y⟩:=c;obtain⟨J,K,rfl,L,M⟩:=d;simp only[Ty.key,Ve]at j
  grind
 |arr n t z=>
  intro x f i j c d;obtain⟨_,r,rfl,u⟩:=c;obtain⟨_,s,rfl,y⟩:=d;simp only[Ty.key]at j
  have key:∀(l:List (El t)) (cl e:List (List Value)),Fa (Rd w I t) l cl->Fa (Rd w I t) l e->cl=e:=by
   intro l
   induction l with
   |nil=>intro cl e c d;cases cl<;>cases e<;>simp [Fa]at c d⊢
   |cons a l m=>
    intro cl e c d
    cases cl with
    |nil=>exact c.elim
    |cons p cl=>
    cases e with
    |nil=>exact d.elim
    |cons q e=>rw[z a p q j c.1 d.1,m cl e c.2 d.2]
  grind
theorem Zgy{t:Ty}{x:El t}{v u:Value}(h:t.key=true)(e:Kk w g (.d t x) v)(f:Kk w g (.d t x) u):v=u:=by
 obtain⟨b,i⟩:=e;obtain⟨c,j⟩:=f;simp only[CV]at b c;have l:=Zrm t x _ _ h b c
 have k:Ka v=Ka u:=by
  grind
 cases v<;>cases u<;>simp_all [Vpb,Ka]
theorem ZcG(hT:Z9 P E)(em:Bool):∀(N:Nat) (t:Ty) (T:TypeId) (x:El t) (v:Value) (n:Nat),sizeOf t<N->E.ty T=some t->t.key=true->t.dep<=n->Kk w g (.d t x) v->
 (Vz em n T v).run P w=.ok () w:=by
 intro N
 induction N with
 |zero=>omega
 |succ N ih=>
 intro t T x v n hN ht L hd W;obtain⟨n,rfl⟩:∃m,n=m+1:=⟨n - 1,by have:=t.depth_pos;omega⟩;have R:=hT.ty T _ ht;have D:=R.shape
 cases z:P.underlying T with
 |none=>rw[z]at D;cases t<;>simp [Kb]at D
 |some d=>
 rw[z]at D
 cases t with
 |sl t=>simp [Ty.key]at L
 |ref=>simp [Ty.key]at L
 |pt t=>simp [Ty.key]at L
 |lk a b=>simp [Ty.key]at L
 |pn t=>simp [Ty.key]at L
 |unit=>
  obtain⟨xs,rfl,l⟩:=H3 W rfl (by simp)
  cases d<;>simp [Kb]at D
  subst D
  simp [Vz,underlying,z]
 |prod a0 Y=>
  obtain⟨xs,rfl,l⟩:=H3 W rfl (by simp);simp only[CV]at l
  cases d with
  |struct V=>
   have a2:Y.chain=true:=by simp only[Kb,Ve]at D;grind
   simp only[Vz,underlying,Vb,run_program,Va,z,Vd];rw[<-Array.forIn_toList]
   have key:∀(u:Ty) (k base:Nat) (x:El u) (C p:List Value),sizeOf u<=sizeOf (Ty.prod a0 Y)->u.chain=true->u.key=true->u.dep<=n+1->(∀f,Z0 (.prod a0 Y) [k+f]=(Z0 u [f]).map fun q=>(q.1+base,q.2))->
    xs.toList=C++p->C.length=base->Rd w g.I u x p->
    (forIn (V.toList.drop k) PUnit.unit fun(f:Field) __s=>(if f.name≠ "_" then do
      let __do_lift<-part f.type xs f.offset
      Vz em n f.type __do_lift
      pure (ForInStep.yield PUnit.unit)
      else pure (ForInStep.yield PUnit.unit):Sem (ForInStep PUnit))).run P w=.ok PUnit.unit w:=by
    intro u
    induction u with
    |unit=>
     intro k base x C p _ _ _ _ j _ _ _
     have L:V.size<=k:=by
      rcases Vxb k V.size with h|h
      ·obtain⟨r,hr⟩:=ZjL R z h;have:=j 0;rw[Vpa,hr]at this;simp [Z0]at this
      omega
     rw[Vcb (by omega)]
     rfl
    |prod a b _ a6=>
     intro k base x C p b2 hc s J j c y a4;obtain⟨c1,c2,rfl,S,a5⟩:=a4;simp only[Ty.key,Ve]at s
     have h0:Z0 (.prod a0 Y) [k]=some (base,a):=by have:=j 0;rw[Vpa]at this;rw[this];simp only[Z0,WE,Vm,Vs]
     obtain⟨a9,fd,A,b1,a1,K,O⟩:=ZdL R h0 (by simp);rw[z]at A;cases A;have a8:k<V.size:=by grind
     have M:V.toList.drop k=fd::V.toList.drop (k+1):=by
      rw[Vrb (by omega)]
      grind
     obtain⟨v1,v2⟩:=Za2 (g:=g) S;rw[<-Vja]at c;have r1:=Rr (w:=w) (hT.ty _ _ K) c (Rd.length a _ c1 S) v2;have Q:fd.offset=base:=a1;rw[y]at r1;have r3:=ih a fd.type x.1 _ n (by grind) K s.1 (by simp only[Ty.dep]at J;omega) v1;rw[M];simp only[Vxc,O,ne_eq,not_false_eq_true,if_true,Q,Vb,r1,r3,Va,Vd]
     have:=a6 (k+1) (base+a.size) x.2 (C++c1) c2 (by grind) hc s.2 (by simp only[Ty.dep]at J;omega)
      (fun f=>by
        have:=j (f+1);rw[show k+1+f=k+(f+1) by omega,this];simp only[Z0,Vdd];congr 1
        grind) c (by rw[Vn,y,Rd.length a _ c1 S]) a5
     omega
    |_=>intro k base x C p _ hc;simp [Ty.chain]at hc
   have:=key (.prod a0 Y) 0 0 x [] xs.toList (Vg _) a2 L hd (by simp) rfl rfl l
   simp_all
  |_=>simp [Kb]at D
 |arr m e=>
  obtain⟨U,A,he⟩:=ZbP hT ht;rw[z]at A;cases A;obtain⟨xs,rfl,l⟩:=H3 W rfl (by simp);simp only[CV]at l;obtain⟨a3,Z,h1,h2⟩:=l;simp only[Vz,underlying,Vb,run_program,Va,z,Vd];simp only[Std.Legacy.Range.forIn_eq_forIn_range',Std.Legacy.Range.size,Nat.sub_zero,Nat.add_one_sub_one,Nat.div_one]
  have key:∀(m k:Nat) (X:List (El e)) (p:List (List Value)) (C:List Value),m=X.length->Fa (Rd w g.I e) X p->xs.toList=C++p.flatten->C.length=k*e.size->
   (forIn (List.range' k m) PUnit.unit fun(i:Nat) __s=>(do
     let __do_lift<-Go.sizeOf U
     let __do_lift<-part U xs (i*__do_lift)
     Vz em n U __do_lift
     pure (ForInStep.yield PUnit.unit):Sem (ForInStep PUnit))).run P w=.ok PUnit.unit w:=by
   intro m
   induction m with
   |zero=>simp
   |succ m a7=>
    intro k X p C hm G c y
    cases X with
    |nil=>grind
    |cons a X=>
    cases p with
    |nil=>exact G.elim
    |cons ca p=>
     obtain⟨ha,G⟩:=G;obtain⟨v1,v2⟩:=Za2 (g:=g) ha;rw[Vza, <-Vja]at c;have e1:=Rr (w:=w) (hT.ty U e he) c (Rd.length e a ca ha) v2;rw[y]at e1;have e3:=ih e U a _ n (by grind) he L (by simp [Ty.dep]at hd;omega) v1;simp only[Voc,Vxc,Vb,(hT.ty U e he).run_sizeOf,e1,e3,Va,Vd];have:=a7 (k+1) X p (C++ca) (by grind) G c (by rw[Vn,y,Rd.length e a ca ha,Vka];omega);omega
  have:=key m 0 x Z [] a3.symm h2 h1 (by simp)
  simp_all
 |int k=>
  cases d<;>simp [Kb]at D
  rw[(VR.of1 W).int]
  simp [Vz,underlying,z]
 |bool=>
  cases d<;>simp [Kb]at D
  rw[(VR.of1 W).bool]
  simp [Vz,underlying,z]
 |str=>
  cases d<;>simp [Kb]at D
  rw[(VR.of1 W).str];simp [Vz,underlying,z]
def Ze7{β:Type}(w:World)(g:Gh)(b:Ty)(m:List (El b×β))(es:List MapEntry):Prop:=Fa (fun kv (e:MapEntry)=>Kk w g (.d b kv.1) e.key) m es
def Znt(w:World)(g:Gh)(b c:Ty)(m:List (El b×El c))(es:List MapEntry):Prop:=Fa (fun kv (e:MapEntry)=>Kk w g (.d b kv.1) e.key/\Kk w g (.d c kv.2) e.val) m es
theorem Zmi(n:Z9 P E){K:TypeId}{b:Ty}{β:Type}(l:E.ty K=some b)(f:b.keyOk=true){x:El b}{v:Value}(h:Kk w g (.d b x) v):∀(m:List (El b×β)) (es:List MapEntry) (i:Nat),Ze7 w g b m es->
 (Vvb K v es i).run P w=.ok ((WR (Zj b) x m).map fun j=>(i+j,((es[j]?).map (·.val)).getD undef)) w
 |[],[],i,_=>rfl
 |kv::m,e::es,i,⟨k,s⟩=>by
  simp only[Ty.keyOk,Ve]at f;have c:b.dep<=10000:=by have:=Vj f.2;omega
  obtain⟨r,p⟩:=Zqt b x kv.1 _ _ f.1 (by simpa only[CV] using h.1) (by simpa only[CV] using k.1);have q:=Zmh (w:=w) (g:=g) n _ b K x kv.1 v e.key r 10000 (Vga _) l c p h k;have t:Zj b x kv.1=r:=by simp [Zj,p]
  simp only[Vvb,Op.equal,Op.maxDepth,Vb,q,Va,Vpc,Vd,WR,t]
  cases r with
  |true=>simp
  |false=>
   simp only[Vy,if_false,Ze];rw[Zmi n l (by simp [Ty.keyOk,f]) h m es (i+1) s]
   cases WR (Zj b) x m with
   |none=>rfl
   |some j=>grind
theorem ZcI(u:Z9 P E){K:TypeId}{c:Ty}{β:Type}(t:E.ty K=some c)(G:c.keyOk=true){x:El c}{v:Value}(n:Kk w g (.d c x) v)(m:List (El c×β))(es:List MapEntry)(h:Ze7 w g c m es):
 (Vld K v es).run P w=.ok ((WR (Zj c) x m).map fun j=>(j,((es[j]?).map (·.val)).getD undef)) w:=by
 obtain⟨d,z⟩:=(u.ty K c t).und;have s:=(u.ty K c t).shape;rw[z]at s;have p:=Zmi u t G n m es 0 h;simp only[Vs]at p;simp only[Vld,underlying,Vb,run_program,Va,z,Vd]
 have now:∀(f:Value->Value->Option Bool) (_:∀e:MapEntry,Vec d v e.key=f v e.key) (m:List (El c×β)) (es:List MapEntry) (i:Nat),Ze7 w g c m es->
  (∀kv e,Kk w g (.d c kv) e->f v e=some (Zj c x kv))->Vsb d v es i=some ((WR (Zj c) x m).map fun j=>(i+j,((es[j]?).map (·.val)).getD undef)):=by
  intro f D m
  induction m with
  |nil=>intro es i h _;cases es with
   |nil=>rfl
   |cons _ _=>exact h.elim
  |cons kv m L=>
   intro es i h l
   cases es with
   |nil=>exact h.elim
   |cons e es=>
    obtain⟨A,C⟩:=h;simp only[Vsb,D e,l kv.1 e.key A,WR]
    cases Zj c x kv.1 with
    |true=>simp
    |false=>
     simp only[Ze,L es (i+1) C l]
     cases WR (Zj c) x m with
     |none=>rfl
     |some j=>grind
 have other:(∀e:MapEntry,e∈es->Vec d v e.key=none)->(match Vsb d v es 0 with|some r=>pure r|none=>Vvb K v es:Sem _).run P w=
  .ok ((WR (Zj c) x m).map fun j=>(j,((es[j]?).map (·.val)).getD undef)) w:=by
  intro J
  cases es with
  |nil=>
   assumption
  |cons e es=>
   simp only[Vsb,J e (by simp)];omega
 cases c with
 |int k=>
  cases d<;>simp [Kb]at s
  have y:=now (fun a b=>match a,b with|.int k a,.int M b=>if k=M then some (a==b) else none|_,_=>none) (fun e=>by rw[(VR.of1 n).int];cases e.key<;>rfl) m es 0 h (fun kv e q=>by rw[(VR.of1 n).int,(VR.of1 q).int];simp only[if_true,Zj,eqEl,Vba];rfl)
  simp_all
 |bool=>
  cases d<;>simp [Kb]at s
  have y:=now (fun a b=>match a,b with|.bool a,.bool b=>some (a==b) |_,_=>none) (fun e=>by rw[(VR.of1 n).bool];cases e.key<;>rfl) m es 0 h (fun kv e q=>by rw[(VR.of1 n).bool,(VR.of1 q).bool];rfl)
  simp_all
 |str=>
  cases d<;>simp [Kb]at s
  have y:=now (fun a b=>match a,b with|.string a,.string b=>some (a==b) |_,_=>none) (fun e=>by rw[(VR.of1 n).str];cases e.key<;>rfl) m es 0 h (fun kv e q=>by rw[(VR.of1 n).str,(VR.of1 q).str];simp only[Zj,eqEl,Vba,beq_toListBytes,ZeN];grind)
  simp_all
 |_=>
  refine other fun e _=>?_
  cases d<;>simp [Kb]at s<;>simp [Vec]
end
end Tr
end
section
namespace Tr
open Go
section ops
variable {P:Program}{E:Km}{B:Kd}{H:AH}{w:World}{g:Gh}{ow:Nat->Nat->Prop}{nid:Nat}{a:Act}{F:Nat->AV}{v:AV}{patch:KB}{rd:List Nat}{o:Oper}
theorem Zmn{T K V:TypeId}{r:Option Operand}(hF:Fr w g F a.tmps)(f:P.underlying T=some (.map K V))(c:(match r with|none=>true|some x=>(Wj (ZB F x)).isSome)=true)(d:o.op=.makeMap T r):
 (execOp a.eval o).run P w=.ok (.value (.map (some w.heap.size))) (w.alloc (.map #[] 0)):=by
 cases r with
 |none=>simp only[execOp,d,Vb,Vmd,Vp,Vd,Va,run_newObj];rfl
 |some x=>
  have e:=hF.eval x;simp only at c
  cases b:ZB F x<;>rw[b]at c<;>simp [Wj]at c
  rename_i t y
  cases t<;>simp at c
  rw[b]at e;simp only[execOp,d,Vb,Vmd,Vm,underlying,run_program,f,Vd,Va,e.int,asInt,asIntOf,run_newObj];rfl
theorem Zoz{T:TypeId}{r:Option Operand}(n:Z9 P E)(f:RH B H w g ow)(hF:Fr w g F a.tmps)(j:∀id,g.K id->id<nid\/nid+Ws<=id)(c:o.op=.makeMap T r)
 (h:(ZQ E nid o.op o.type (ZB F)).run H []=some ((v,patch),rd)):Zx B (Zr H patch) w g nid v ((execOp a.eval o).run P w):=by
 rw[c]at h;simp only[ZQ,ZC,ZL]at h;obtain⟨m,p,h⟩:=h;obtain⟨K,V,l,q,s⟩:=n.mty T m p;rcases h with ⟨_,h⟩|⟨_,h⟩
 ·split at h
  ·rename_i u t;simp only[ZL,Zi,Zb,ZR,Z3,Vc,Ve]at h;obtain⟨⟨b,d⟩,⟨rfl,rfl⟩,_⟩:=h;refine Zx.new (t:=.sl t) (sv:=undef) f j (val:=.map (some w.heap.size)) (o:=.map #[] 0) (Zmn hF l d c) ?_ ?_
   ·refine⟨by simp [Gh.add],by simp [Gh.add],⟨by simp,by simp,by simp⟩,by simp,fun k _=>by simp [Gh.add],w.heap.size, #[],0,by simp [Gh.add],rfl,G3 _ _,⟨rfl,fun i e h=>by simp at h⟩,trivial⟩
   ·refine K8 ?_ rfl rfl;simp only[CV];exact⟨.inl rfl,w.heap.size,by simp [Gh.add],rfl⟩
  ·simp [Zb]at h
 simp only[Zi,Zb,ZR,Z3,Vc,Ve]at h;obtain⟨⟨b,d⟩,⟨rfl,rfl⟩,_⟩:=h;refine Zx.new (t:=.unit) (sv:=undef) f j (val:=.map (some w.heap.size)) (o:=.map #[] 0) (Zmn hF l d c) ?_ ?_
 ·exact⟨w.heap.size, #[],0,by simp [Gh.add],rfl,G3 _ _,Bn.empty 0,trivial⟩
 ·refine K8 ?_ rfl rfl;simp only[CV];exact⟨.inl rfl,w.heap.size,by simp [Gh.add],rfl⟩
theorem Zox{T:TypeId}{m k:Operand}{ok:Bool}(D:Z9 P E)(hR:RH B H w g ow)(hF:Fr w g F a.tmps)(ho:o.op=.lookup T m k ok)
 (h:(ZQ E nid o.op o.type (ZB F)).run H []=some ((v,patch),rd)):Zx B (Zr H patch) w g nid v ((execOp a.eval o).run P w):=by
 rw[ho]at h;simp only[ZQ,ZC]at h;obtain⟨mt,Z,h⟩:=h;obtain⟨K,V,hu,O,hV⟩:=D.mty T mt Z;have hm:=hF.eval m;have A:=hF.eval k;split at h
 ·rename_i id l x W U;rw[Z1]at h;split at h
  ·rename_i a8 vt es hH;simp only[ZL,ZC,Zi,Zb,ZR,Z3,Ve,Ks,Vc]at h;obtain⟨⟨⟨⟨c,rfl⟩,rfl⟩,R⟩,y,hy,⟨rfl,rfl⟩,_⟩:=h;obtain⟨rfl,rfl⟩:=KR hy;obtain⟨a4,b,hb,hv⟩:=(W▸hm).mp;obtain⟨_,b',n,clock,p,hJ,hh,b0,r⟩:=hR.objs id _ hH;rw[hb]at p;cases p;rw[U]at A;have s:Kk w g (.d mt.1 y) (a.eval k):=A
   have q:=ZcG (w:=w) D n.isEmpty _ mt.1 K y (a.eval k) 10000 (Vga _) O (by simp only[Ty.keyOk,Ve]at c;grind) (by simp only[Ty.keyOk,Ve]at c;have:=Vj c.2;omega) s
   have f:=ZcI D O c s es n.toList (r.mono (by grind));have i:(getObj b).run P w=.ok (.map n clock) w:=by simp only[getObj,Vib,hh]
   obtain⟨z,hz,a7⟩:=(D.ty V mt.2 hV).run_zero w;have a1:=(a7 w g).1;have a1:=Zu0 R a1
   have L:∃u,(Vxa T (a.eval m) (a.eval k) ok).run P w=.ok (if ok then .tuple #[u,.bool (ZI (Zj mt.1) y es).isSome] else u) w/\Kk w g (.d mt.2 ((ZI (Zj mt.1) y es).getD (zeroEl mt.2))) u:=by
    rw[G4]
    cases C:WR (Zj mt.1) y es with
    |none=>
     rw[C]at f;refine⟨z,?_,by grind⟩;simp only[Vxa,underlying,Vb,run_program,Va,hu,Vd,hv,i,q,f,Vp,hz]
     rfl
    |some j=>
     rw[C]at f;obtain⟨e,S,_⟩:=DW _ _ _ _ C;obtain⟨me,M,h1,h2⟩:=r.get j e S;refine⟨me.val,?_,by grind⟩;simp only[Vxa,underlying,Vb,run_program,Va,hu,Vd,hv,i,q,f,Vm,M,Vba,Za,S];rfl
   obtain⟨u,G,J⟩:=L
   refine Zx.pure (val:=if ok then .tuple #[u,.bool (ZI (Zj mt.1) y es).isSome] else u) hR ?_ ?_
   ·simp only[execOp,ho,Vb,G,Va,Vd]
   ·cases ok with
    |true=>exact⟨[u,.bool _],rfl,u,_,rfl,J,.bool _,[],rfl,Xj _,rfl⟩
    |false=>assumption
  ·rename_i a8 t es u0 hH;simp only[ZL,ZC,Zi,Zb,ZR,Z3,Ve,Ks,Vc]at h;obtain⟨⟨⟨c,X⟩,Y⟩,y,hy,⟨rfl,rfl⟩,_⟩:=h;obtain⟨rfl,rfl⟩:=KR hy;obtain⟨a4,b,hb,hv⟩:=(W▸hm).mp;obtain⟨_,b4,a9,a5,b3,Q,b',n,clock,p,hJ,hh,b1,r⟩:=hR.objs id _ hH;rw[hb]at p;cases p;rw[U]at A;have s:Kk w g (.d l y) (a.eval k):=A;rw[X]at O;rw[Y]at hV
   have q:=ZcG (w:=w) D n.isEmpty _ l K y (a.eval k) 10000 (Vga _) O (Do c) (by simp only[Ty.keyOk,Ve]at c;have:=Vj c.2;omega) s
   have f:=ZcI D O c s es n.toList (r.mono (by grind));have i:(getObj b).run P w=.ok (.map n clock) w:=by simp only[getObj,Vib,hh]
   have hz:=Ze3 (D.ty V (.sl t) hV) w
   have L:(Vxa T (a.eval m) (a.eval k) ok).run P w=.ok (if ok then .tuple #[g.row id l y,.bool (ZI (Zj l) y es).isSome] else g.row id l y) w/\(g.row id l y).oneCell'=true/\Ka (g.row id l y)=false:=by
    rw[G4]
    cases C:WR (Zj l) y es with
    |none=>
     rw[C]at f;have a0:g.row id l y=.slice none 0 0:=Q y (Zay (Do c) (by rw[G4,C];rfl));rw[a0];refine⟨?_,rfl,rfl⟩;simp only[Vxa,underlying,Vb,run_program,Va,hu,Vd,hv,i,q,f,Vp,hz]
     rfl
    |some j=>
     rw[C]at f;obtain⟨e,S,a3⟩:=DW _ _ _ _ C;have a2:=(Jv (Do c)).1 a3;obtain⟨me,M,h1,h2⟩:=r.get j e S;rw[<-a2]at h2;have a6:=(a5.rd y e.2 (by grind) (by simp)).one;refine⟨?_,a6⟩;simp only[Vxa,underlying,Vb,run_program,Va,hu,Vd,hv,i,q,f,Vm,M,Vba,Za,S,h2];rfl
   obtain⟨G,J,b2⟩:=L;have N:Kk w g (.nw id u0 l y) (g.row id l y):=VR.to1 (K8 (a:=.nw id u0 l y) (by simp only[CV];grind) J rfl) (by simp)
   refine Zx.pure (val:=if ok then .tuple #[g.row id l y,.bool (ZI (Zj l) y es).isSome] else g.row id l y) hR ?_ ?_
   ·simp only[execOp,ho,Vb,G,Va,Vd]
   ·cases ok with
    |true=>exact⟨[g.row id l y,.bool _],rfl,g.row id l y,_,rfl,N,.bool _,[],rfl,Xj _,rfl⟩
    |false=>assumption
  ·simp [Zb]at h
 ·simp [Zb]at h
theorem Zhu(v:Value):∃w',(Vic v v).run P w=.ok v w' /\Jr w w' :=by
 unfold Vic
 cases Instr.sameBits 10000 v v with
 |true=>exact⟨w,rfl,.refl w⟩
 |false=>
  refine⟨{w with drawn:=w.drawn+1},?_,⟨rfl,rfl,rfl,⟨rfl,by simp⟩⟩⟩;simp only[Vy,if_false,Vb,run_choose,Question.forced,Vd,ite_self];rfl
theorem Ix.push{es:Array MapEntry}{clock:Nat}(h:Ix es clock){e:MapEntry}(f:e.born=clock):Ix (es.push e) (clock+1):=by
 obtain⟨c,d⟩:=h;refine⟨by simp [c],fun i x b=>?_⟩;rw[Array.getElem?_push]at b;split at b
 ·cases b;omega
 ·exact d i x b
theorem Ix.modify{es:Array MapEntry}{clock:Nat}(h:Ix es clock){i:Nat}{f:MapEntry->MapEntry}(k:∀e,(f e).born=e.born):Ix (es.modify i f) clock:=by
 obtain⟨d,c⟩:=h;refine⟨by simp [d],fun j x b=>?_⟩;rw[Array.getElem?_modify]at b;split at b
 ·obtain⟨y,l,rfl⟩:=Vq.1 b;rw[k];exact c j y l
 ·exact c j x b
def Yl(g:Gh)(id:Nat)(c:Ty)(y:El c)(v:Value):(b:Ty)->El b->Value:=fun b k=>if h:b=c then(if Zj c (h▸k) y then v else g.row id b k) else g.row id b k
theorem Zhs{id:Nat}{b:Ty}{y:El b}{v:Value}(c:b.key=true)(k:El b)(d:k≠y):Yl g id b y v b k=g.row id b k:=by
 have:Zj b k y=false:=by
  cases e:Zj b k y
  ·rfl
  ·exact absurd ((Jv c).1 e) d
 unfold Yl
 grind
theorem Zhr{id:Nat}{c:Ty}{y:El c}{v:Value}(b:c.key=true):Yl g id c y v c y=v:=by simp [Yl,(Jv b).2 rfl]
theorem Zk1{i t:Ty}{es:List (El i×List (El t))}{u id b clock:Nat}{hole:Option (El i)}{y:El i}{ys:List (El t)}{ids:List Nat}{b3:Array MapEntry}{N:Value}{w1:World}{es' :Array MapEntry}{c' :Nat}{r:Result Next}(O:RH B H w g ow)(f:i.key=true)(a5:g.K id)(n:H id≠none)(b1:g.ty id=.sl t)(b5:g.ver id=u)(b8:u+1<=nid)
 (a0:RF w g.I (ow id) t (g.blk id) (g.row id i) (fun k x=>(k,x)∈es) hole) (Z:(es.map Vdb).Nodup) (W:∀k,k ∉ es.map Vdb->g.row id i k=.slice none 0 0) (hb:g.blk id=some b) (hJ:ow id b) (hh:w.heap[b]? =some (.map b3 clock)) (S:hole=none\/hole=some y) (X:id ∉ ids)
 (D:WH w g.I (ZV H ow ids) t ys N) (hs:Jr w w1) (hr:r=.ok .skip {w1 with heap:=w1.heap.setIfInBounds b (.map es' c')}) (Y:Ix es' c')
 (R:∀w2,Kj g.I w w2->Fa (fun kv (e:MapEntry)=>Kk w2 g (.d i kv.1) e.key/\e.val=Yl g id i y N i kv.1) (ZZ (Zj i) y ys es) es'.toList):
 Zx B (Zr H (ids.map (fun id=>(id,none))++[(id,some (.mrows i t (ZZ (Zj i) y ys es) nid none))])) w g nid .junk r:=by
 have s:∀k,Zr H (ids.map fun id=>(id,none)) k≠none->k ∉ ids/\H k≠none:=by
  intro k A;rw[Dg]at A
  grind
 have a6:∀l,ZV H ow ids l->¬ow id l:=fun l ⟨k,T,L,U⟩ V=>X (O.dist id k l n L V U▸T);have C:∀k,k≠y->Yl g id i y N i k=g.row id i k:=fun k A=>Zhs f k A;have G:Yl g id i y N i y=N:=Zhr f;have a2:RH B (Zr H (ids.map fun id=>(id,none))) w1 g ow:=(O.drops ids).same hs
 have m:∀k,k≠b->({w1 with heap:=w1.heap.setIfInBounds b (.map es' c')} :World).heap[k]? =w1.heap[k]? :=by
  grind
 have b4:=O.sep id b n hJ
 have M:Kj g.I w {w1 with heap:=w1.heap.setIfInBounds b (.map es' c')} :=fun k A=>by rw[m k (by grind),hs.heap]
 have a1:∀k,k≠b->({w1 with heap:=w1.heap.setIfInBounds b (.map es' c')} :World).heap[k]? =w.heap[k]? :=fun k A=>by rw[m k A,hs.heap]
 have a4:∀{J:Nat->Prop}{x:List (El t)}{hd:Value},WH w g.I J t x hd->∀l,Wo hd=some l->l≠b:=by
  intro J x hd a9 l c e;subst e;rcases a9 with ⟨_,rfl⟩|⟨b2,cap,cells,e,b6,rfl,_,U,_⟩
  ·simp [Wo]at c
  ·simp only[Wo,Option.some.injEq]at c
   grind
 rw[Xc];refine⟨undef, {w1 with heap:=w1.heap.setIfInBounds b (.map es' c')},g.bump id nid (Yl g id i y N),Xm ow id (fun l=>ow id l\/ZV H ow ids l),.inr ⟨hr,rfl⟩,?_,Gh.le_bump (by omega),M,DO,fun _ h=>.inl h⟩;refine a2.bump (id:=id) (v:=nid) a5 (by omega) (fun l c=>?_) (by simp) rfl rfl ⟨rfl,Vg _⟩ (fun l T L=>m l fun e=>?_) (fun l c=>?_) ?_
 ·rcases c with c|⟨k,A,T,L⟩
  ·grind
  ·refine m l fun e=>A ?_;subst e;exact(O.dist id k l n (s k T).2 hJ L).symm
 ·grind
 ·have b0:({w1 with heap:=w1.heap.setIfInBounds b (.map es' c')} :World).heap.size=w.heap.size:=by show (w1.heap.setIfInBounds b _).size=_;rw[<-hs.heap];simp
  rw[b0];rcases c with c|⟨k,T,L,U⟩
  ·obtain⟨p,q,r⟩:=O.sep id l n c;exact⟨p,q,r,fun k A V h5=>A (O.dist k id l (s k V).2 n h5 c)⟩
  ·obtain⟨p,q,r⟩:=O.sep k l L U;refine⟨p,q,r,fun k' A V h5=>(s k' V).1 ?_⟩;have:=O.dist k' k l (by grind) L h5 U
   grind
 ·have z:(g.bump id nid (Yl g id i y N)).row id i=Yl g id i y N i:=by show (if id=id then Yl g id i y N else g.row id) i=_;simp
  refine⟨b1,Zp rfl,?_,Zfz f Z,fun q hq=>?_,b,es',c',hb,.inl hJ,?_,Y,?_⟩
  ·rw[z];refine a0.put (k0:=y) (x0:=ys) C (fun j x Q=>Zed f Z Q) S ?_ (fun j x Q hj hr=>?_) fun l c=>?_
   ·rw[G];exact D.mono M (by simp) (by grind) (by grind)
   ·exact hr.mono M (by simp) (by grind) (by grind)
   ·rw[G]at c;have a8:=D.own c;refine⟨fun j x Q hj a3=>a6 l a8 ?_,by grind⟩;have a7:hole≠some j:=by grind
    exact(a0.rd j x Q a7).own a3
  ·rw[z]
   have b7:y∈(ZZ (Zj i) y ys es).map Vdb:=by
    by_cases h:y∈es.map Vdb
    ·rw[(DY f).1 h];exact h
    ·rw[(DY f).2 h];simp
   rw[C q (by grind)];refine W q fun h=>hq ?_;by_cases L:y∈es.map Vdb
   ·rw[(DY f).1 L];exact h
   ·rw[(DY f).2 L,Vyc];grind
  ·show (w1.heap.setIfInBounds b _)[b]? =_;rw[Via,Zp rfl,Zp (by rw[hs.heap];omega)]
  ·rw[z];exact(R _ M).mono fun kv e Q=>⟨⟨by have:=Q.1.1;assumption,Q.1.2⟩,Q.2⟩
theorem ZoB{T:TypeId}{m k x:Operand}(hT:Z9 P E)(hR:RH B H w g ow)(hF:Fr w g F a.tmps)(ho:o.op=.mapUpdate T m k x)
 (h:(ZQ E nid o.op o.type (ZB F)).run H []=some ((v,patch),rd)):Zx B (Zr H patch) w g nid v ((execOp a.eval o).run P w):=by
 rw[ho]at h;simp only[ZQ,ZC]at h;obtain⟨mt,c4,h⟩:=h;obtain⟨K,V,hu,hK,hV⟩:=hT.mty T mt c4;have hm:=hF.eval m;have a0:=hF.eval k;have b0:=hF.eval x;split at h
 ·rename_i id J y0 vt z0 a5 a3 a9;rw[Z1]at h;split at h
  ·rename_i d6 e3 es hH;simp only[ZL,ZC,Zi,Zb,ZR,Z3,Ve,Ks,Vc]at h;obtain⟨⟨f,rfl⟩,y,hy,u,d5,⟨rfl,rfl⟩,_⟩:=h;obtain⟨rfl,rfl⟩:=KR hy;obtain⟨rfl,rfl⟩:=KR d5;obtain⟨b4,b,hb,hv⟩:=(a5▸hm).mp;obtain⟨_,b',c,clock,Q,hJ,hh,b2,s⟩:=hR.objs id _ hH;rw[hb]at Q;cases Q;rw[a3]at a0;rw[a9]at b0;have z:Kk w g (.d mt.1 y) (a.eval k):=a0;have c7:Kk w g (.d vt u) (a.eval x):=b0
   have R:=ZcG (w:=w) hT false _ mt.1 K y (a.eval k) 10000 (Vga _) hK (by simp only[Ty.keyOk,Ve]at f;grind) (by simp only[Ty.keyOk,Ve]at f;have:=Vj f.2;omega) z
   have D:=ZcI hT hK f z es c.toList (s.mono (by grind));have G:(getObj b).run P w=.ok (.map c clock) w:=by simp only[getObj,Vib,hh]
   have fin:∀(q:World) (i:Array MapEntry) (O:Nat),Jr w q->(Vha T (a.eval m) (a.eval k) (a.eval x)).run P w=.ok () {q with heap:=q.heap.setIfInBounds b (.map i O)} ->Bn i O->
    Znt w g mt.1 vt (ZZ (Zj mt.1) y u es) i.toList->Zx B (Zr H [(id,some (.map mt.1 vt (ZZ (Zj mt.1) y u es)))]) w g nid .junk ((execOp a.eval o).run P w):=by
    intro q i O hs Z b3 L;have c8:=hR.same hs
    have S:∀k,k≠b->({q with heap:=q.heap.setIfInBounds b (.map i O)} :World).heap[k]? =q.heap[k]? :=by
     grind
    have e1:=hR.sep id b (by grind) hJ
    have C:Kj g.I w {q with heap:=q.heap.setIfInBounds b (.map i O)} :=fun k hk=>by rw[S k (by grind),hs.heap]
    have d7:Kj g.I q {q with heap:=q.heap.setIfInBounds b (.map i O)} :=fun k hk=>by grind
    refine⟨undef,_,g,ow,.inr ⟨?_,rfl⟩,c8.write (by grind) hJ S (by simp) rfl rfl ⟨rfl,Vg _⟩ ?_,.refl g,C,DO,by grind⟩
    ·simp only[execOp,ho,Vb,Z,Va,Vd]
    ·refine⟨b,i,O,hb,hJ,?_,b3,L.mono fun p e hp=>⟨hp.1.mono C (.refl g),hp.2.mono C (.refl g)⟩⟩;show (q.heap.setIfInBounds b _)[b]? =_;rw[Via,Zp rfl,Zp (by rw[hs.heap];omega)]
   cases N:WR (Zj mt.1) y es with
   |none=>
    rw[N]at D;refine fin w (c.push {key:=a.eval k,val:=a.eval x,born:=clock}) (clock+1) (.refl w) ?_ (b2.push rfl) ?_
    ·simp only[Vha,underlying,Vb,run_program,Va,hu,Vd,hv,G,R,D,Vp];simp only[setObj,Vib,hh]
    ·rw[DX,N,Vjc]
     exact s.append ⟨⟨z,c7⟩,trivial⟩
   |some j=>
    rw[N]at D;obtain⟨e,he,M⟩:=DW _ _ _ _ N;obtain⟨me,d1,h1,h2⟩:=s.get j e he
    have U:y=e.1:=by
     unfold Zj at M
     cases hq:eqEl mt.1 y e.1 with
     |none=>grind
     |some r=>rw[hq]at M;simp at M;subst M;exact Zjz _ _ _ hq
    have W:me.key=a.eval k:=Zgy (t:=mt.1) (x:=y) (by simp only[Ty.keyOk,Ve]at f;grind) (U▸h1) z;obtain⟨q,a8,hs⟩:=Zhu (P:=P) (w:=w) (a.eval k);have X:c[j]? =some me:=by grind
    refine fin q (c.modify j fun e=>{e with key:=a.eval k,val:=a.eval x}) clock hs ?_ (b2.same ?_) ?_
    ·simp only[Vha,underlying,Vb,run_program,Va,hu,Vd,hv,G,R,D,Vm,X,W,Vba,a8];have a1:q.heap[b]? =some (.map c clock):=by rw[hs.heap];omega
     simp only[setObj,Vib,a1]
    ·apply Vla
     grind
    ·rw[DX,N]
     have:(c.modify j fun e=>{e with key:=a.eval k,val:=a.eval x}).toList=c.toList.set j {me with key:=a.eval k,val:=a.eval x} :=by
      apply Vla
      grind
     rw[this];exact s.set j ⟨z,c7⟩
  ·simp [Zb]at h
 ·rename_i id J y0 i2 a5 a3 a9;rw[Z1]at h;split at h
  ·rename_i d6 t es u Y hH;simp only[ZL,ZC,Z4,Zi,Zb,ZR,Z3,Ve,Ks,Vc]at h;obtain⟨⟨⟨⟨f,c2⟩,d9⟩,a4⟩,y,hy,_,c9,⟨ys,ids⟩,m2,A,⟨rfl,rfl⟩,_⟩:=h;obtain⟨rfl,rfl⟩:=KR hy;have a4:=Vj a4;obtain⟨b4,b,hb,hv⟩:=(a5▸hm).mp;have b5:H id≠none:=by grind
   obtain⟨_,d4,c6,d2,c5,b1,b',c,clock,Q,hJ,hh,b7,s⟩:=hR.objs id _ hH;rw[hb]at Q;cases Q;rw[a3]at a0;have z:Kk w g (.d J y) (a.eval k):=a0;rw[c2]at hK;have l:=Do f;have a7:=Zcx hR (a9▸b0) A
   have R:=ZcG (w:=w) hT false _ J K y (a.eval k) 10000 (Vga _) hK l (by simp only[Ty.keyOk,Ve]at f;have:=Vj f.2;omega) z
   have D:=ZcI hT hK f z es c.toList (s.mono (by grind));have G:(getObj b).run P w=.ok (.map c clock) w:=by simp only[getObj,Vib,hh]
   have a2:Y=none\/Y=some y:=by
    cases Y with
    |none=>simp
    |some j=>exact .inr (by rw[(Jv l).1 (Ht c9)])
   have b6:id ∉ ids:=fun hm=>by
    simp only[Xb]at A;rw[Z1]at A;split at A
    ·rename_i c1;simp only[ZC,Zi,Vc]at A
     grind
    ·simp [Zb]at A
   have a6:∀k,k≠y->Yl g id J y (a.eval x) J k=g.row id J k:=fun k hk=>Zhs l k hk;have d3:Yl g id J y (a.eval x) J y=a.eval x:=Zhr l
   have fin:∀(q:World) (i:Array MapEntry) (O:Nat),Jr w q->(Vha T (a.eval m) (a.eval k) (a.eval x)).run P w=.ok () {q with heap:=q.heap.setIfInBounds b (.map i O)} ->Ix i O->
    (∀w2,Kj g.I w w2->Fa (fun kv (e:MapEntry)=>Kk w2 g (.d J kv.1) e.key/\e.val=Yl g id J y (a.eval x) J kv.1) (ZZ (Zj J) y ys es) i.toList)->Zx B (Zr H (ids.map (fun id=>(id,none))++[(id,some (.mrows J t (ZZ (Zj J) y ys es) nid none))])) w g nid .junk ((execOp a.eval o).run P w):=by
    intro q i O hs Z b8 L;exact Zk1 hR l b4 b5 d4 c6 a4 d2 c5 b1 hb hJ hh a2 b6 a7 hs (by simp only[execOp,ho,Vb,Z,Va,Vd]) b8 L
   have d8:∀w2,Kj g.I w w2->Kk w2 g (.d J y) (a.eval k):=fun w2 C=>z.mono C (.refl g)
   cases N:WR (Zj J) y es with
   |none=>
    rw[N]at D;have e2:y ∉ es.map Vdb:=Zay l (by rw[G4,N];rfl);refine fin w (c.push {key:=a.eval k,val:=a.eval x,born:=clock}) (clock+1) (.refl w) ?_ (b7.push rfl) fun w2 C=>?_
    ·simp only[Vha,underlying,Vb,run_program,Va,hu,Vd,hv,G,R,D,Vp];simp only[setObj,Vib,hh]
    ·rw[DX,N,Vjc];refine(ZaO s.length fun n kv e h1 h2=>?_ :Fa _ es c.toList).append ⟨by grind,trivial⟩;have:=ZdK s h1 h2;refine⟨this.1.mono C (.refl g),?_⟩
     grind
   |some j=>
    rw[N]at D;obtain⟨e,he,M⟩:=DW _ _ _ _ N;have U:=(Jv l).1 M;obtain⟨me,d1,h1,h2⟩:=s.get j e he;have W:me.key=a.eval k:=Zgy (t:=J) (x:=y) l (U▸h1) z;obtain⟨q,a8,hs⟩:=Zhu (P:=P) (w:=w) (a.eval k);have X:c[j]? =some me:=by grind
    refine fin q (c.modify j fun e=>{e with key:=a.eval k,val:=a.eval x}) clock hs ?_ (b7.modify fun _=>rfl) fun w2 C=>?_
    ·simp only[Vha,underlying,Vb,run_program,Va,hu,Vd,hv,G,R,D,Vm,X,W,Vba,a8];have a1:q.heap[b]? =some (.map c clock):=by rw[hs.heap];omega
     simp only[setObj,Vib,a1]
    ·rw[DX,N]
     have:(c.modify j fun e=>{e with key:=a.eval k,val:=a.eval x}).toList=c.toList.set j {me with key:=a.eval k,val:=a.eval x} :=by
      apply Vla
      grind
     rw[this];refine ZaO (by simp [s.length]) fun n kv en g1 g2=>?_;rw[List.getElem?_set]at g1 g2;split at g1
     ·grind
     ·rename_i b9;rw[Zf b9]at g2;have:=ZdK s g1 g2;refine⟨this.1.mono C (.refl g),?_⟩;rw[a6 kv.1 fun e4=>b9 ?_]
      ·grind
      ·have d0:(es.map Vdb)[j]? =some y:=by grind
       have c1:(es.map Vdb)[n]? =some y:=by grind
       exact(List.getElem?_inj (by grind) c5).1 (d0.trans c1.symm)
  ·simp [Zb]at h
 ·simp [Zb]at h
end ops
end Tr
end
section
namespace Tr
open Go
section ops
variable {P:Program}{E:Km}{B:Kd}{H:AH}{w:World}{g:Gh}{ow:Nat->Nat->Prop}{nid:Nat}{a:Act}{F:Nat->AV}{v:AV}{patch:KB}{rd:List Nat}{o:Oper}
theorem ZeB{op:BinOp}{k:IntKind}{x y:Int}{T:TypeId}{z:Int}(h:(Op.intBits op k x y).run P w=.ok (.int k z) w)(b:op=.and\/op=.or\/op=.xor\/op=.andNot):(binOp op T (.int k x) (.int k y)).run P w=.ok (.int k z) w:=by
 rcases b with rfl|rfl|rfl|rfl<;>simp [binOp,h]
theorem Zbh{op:BinOp}{k:IntKind}{x y:Int}{T:TypeId}{b:Bool}(h:(Op.intCmp op x y).run P w=.ok (.bool b) w)(c:op=.eql\/op=.neq\/op=.lss\/op=.leq\/op=.gtr\/op=.geq):(binOp op T (.int k x) (.int k y)).run P w=.ok (.bool b) w:=by
 rcases c with rfl|rfl|rfl|rfl|rfl|rfl<;>simp [binOp,h]
theorem ZsN{k:IntKind}{x y z:Int}(h:Zha k x y=some z):y≠0/\z=k.wrap (x.tdiv y):=by
 unfold Zha at h;split at h
 ·simp at h
 ·rename_i b;exact⟨b,by simpa using h.symm⟩
theorem ZsO{x y z:Int}(h:Zhb x y=some z):y≠0/\z=x.tmod y:=by
 unfold Zhb at h;split at h
 ·simp at h
 ·rename_i b;exact⟨b,by simpa using h.symm⟩
theorem ZsP{k:IntKind}{x y z:Int}(h:GK k x y=some z):¬y<0/\z=k.wrap (x*2 ^ (min y.toNat k.bits)):=by
 unfold GK at h;split at h
 ·simp at h
 ·rename_i b;exact⟨b,by simpa using h.symm⟩
theorem ZsQ{k:IntKind}{x y z:Int}(h:Zcz k x y=some z):¬y<0/\z=x.fdiv (2 ^ (min y.toNat k.bits)):=by
 unfold Zcz at h;split at h
 ·simp at h
 ·rename_i b;exact⟨b,by simpa using h.symm⟩
theorem Zn3{op:BinOp}{k:IntKind}{x y:Int}{l d:List Nat}{T:TypeId}(h:(RM op k x y).run H l=some (v,d)):∃val,(binOp op T (.int k x) (.int k y)).run P w=.ok val w/\VR w g v val/\d=l:=by
 cases op<;>simp only[RM,Zi,ZC]at h
 case add=>obtain⟨rfl,rfl⟩:=h;exact⟨.int k (k.wrap (x+y)),by simp [binOp,Op.intArith],Je _ _,rfl⟩
 case sub=>obtain⟨rfl,rfl⟩:=h;exact⟨.int k (k.wrap (x - y)),by simp [binOp,Op.intArith],Je _ _,rfl⟩
 case mul=>obtain⟨rfl,rfl⟩:=h;exact⟨.int k (k.wrap (x*y)),by simp [binOp,Op.intArith],Je _ _,rfl⟩
 case quo=>obtain⟨z,c,rfl,rfl⟩:=h;obtain⟨b,rfl⟩:=ZsN c;exact⟨_,by simp [binOp,Op.intDiv,b],Je _ _,rfl⟩
 case rem=>obtain⟨z,c,rfl,rfl⟩:=h;obtain⟨b,rfl⟩:=ZsO c;exact⟨_,by simp [binOp,Op.intDiv,b],Je _ _,rfl⟩
 case and=>obtain⟨rfl,rfl⟩:=h;exact⟨_,ZeB rfl (.inl rfl),Je _ _,rfl⟩
 case or=>obtain⟨rfl,rfl⟩:=h;exact⟨_,ZeB rfl (.inr (.inl rfl)),Je _ _,rfl⟩
 case xor=>obtain⟨rfl,rfl⟩:=h;exact⟨_,ZeB rfl (.inr (.inr (.inl rfl))),Je _ _,rfl⟩
 case andNot=>obtain⟨rfl,rfl⟩:=h;exact⟨_,ZeB rfl (.inr (.inr (.inr rfl))),Je _ _,rfl⟩
 case shl=>obtain⟨z,c,rfl,rfl⟩:=h;obtain⟨b,rfl⟩:=ZsP c;exact⟨_,by simp [binOp,Op.shift,b],Je _ _,rfl⟩
 case shr=>obtain⟨z,c,rfl,rfl⟩:=h;obtain⟨b,rfl⟩:=ZsQ c;exact⟨_,by simp [binOp,Op.shift,b],Je _ _,rfl⟩
 case eql=>obtain⟨rfl,rfl⟩:=h;exact⟨_,Zbh rfl (.inl rfl),Xj _,rfl⟩
 case neq=>obtain⟨rfl,rfl⟩:=h;exact⟨_,Zbh rfl (.inr (.inl rfl)),Xj _,rfl⟩
 case lss=>obtain⟨rfl,rfl⟩:=h;exact⟨_,Zbh rfl (.inr (.inr (.inl rfl))),Xj _,rfl⟩
 case leq=>obtain⟨rfl,rfl⟩:=h;exact⟨_,Zbh rfl (.inr (.inr (.inr (.inl rfl)))),Xj _,rfl⟩
 case gtr=>obtain⟨rfl,rfl⟩:=h;exact⟨_,Zbh rfl (.inr (.inr (.inr (.inr (.inl rfl))))),Xj _,rfl⟩
 case geq=>obtain⟨rfl,rfl⟩:=h;exact⟨_,Zbh rfl (.inr (.inr (.inr (.inr (.inr rfl))))),Xj _,rfl⟩
theorem Zo1{op:BinOp}{x y:List UInt8}{l f:List Nat}{T:TypeId}(h:(ZfE op x y).run H l=some (v,f)):∃val,(binOp op T (.string ⟨x.toArray⟩) (.string ⟨y.toArray⟩)).run P w=.ok val w/\VR w g v val/\f=l:=by
 have d:(x==y)=decide (x=y):=by rw[Vwc];simp
 cases op<;>simp only[ZfE,Zi,ZC,Zb]at h
 case add=>
  obtain⟨z,b,rfl,rfl⟩:=h;simp only[Zjc]at b
  cases c:decide (x.length+y.length<2 ^ 62) with
  |false=>rw[c]at b;simp at b
  |true=>
   rw[c]at b;simp only[Zc,Option.some.injEq]at b;subst b;refine⟨_,?_,ZbI _,rfl⟩;have i:x.length+y.length<2 ^ 62:=by simpa using c
   have e:¬(((⟨x.toArray⟩:ByteArray).size+(⟨y.toArray⟩:ByteArray).size:Nat):Int) >Vua.max:=by
    have:Vua.max=9223372036854775807:=by decide
    rw[this];simp [ByteArray.size];omega
   simp only[binOp,Op.stringOp,e,if_false,Vd];congr 2
 all_goals
  obtain⟨rfl,rfl⟩:=h;refine⟨_,?_,Xj _,rfl⟩;simp only[binOp,Op.stringOp,ZeN,Vd,d]
theorem ZcH{op:BinOp}{T:TypeId}{x y:Operand}{vx d:Value}(b:vx≠ .nilIface)(c:Ka vx=false):(eqGuard op T x y vx d).run P w=.ok () w:=by
 unfold eqGuard
 cases vx<;>first|exact absurd rfl b|(simp [Ka]at c;done) |(split<;>rfl)
theorem Ztk(h:Z9 P E){T:TypeId}{t:Ty}(i:E.ty T=some t){op:BinOp}{x y:Operand}{vx d:Value}(b:Ka vx=t.agg)(f:Ka d=t.agg)(c:vx≠ .nilIface):(eqGuard op T x y vx d).run P w=.ok () w:=by
 cases e:t.agg with
 |true=>
  rw[e]at b f
  cases vx<;>simp [Ka]at b
  cases d<;>simp [Ka]at f
  exact run_eqGuard_agg w op T x y _ _ (h.ty T t i).guard
 |false=>
  rw[e]at b;exact ZcH c b
theorem ZnY{T:TypeId}{op:BinOp}{x y:Operand}{l l' :List Nat}(hT:Z9 P E)(hF:Fr w g F a.tmps)(h:(Zfo E.ty T op (ZB F x) (ZB F y)).run H l=some (v,l')):
 ∃val,(do eqGuard op T x y (a.eval x) (a.eval y);binOp op T (a.eval x) (a.eval y):Sem Value).run P w=.ok val w/\VR w g v val/\l' =l:=by
 have J:=hF.eval x;have M:=hF.eval y
 have c:∀{vx vy:Value},vx≠ .nilIface->Ka vx=false->(eqGuard op T x y vx vy).run P w=.ok () w:=by exact fun u A=>ZcH u A
 unfold Zfo at h;split at h
 ·rename_i k m k' n f i;rw[f]at J;rw[i]at M;rw[VR.int J,VR.int M];simp only[Vb,c (vx:=.int k m) (by simp) rfl,Va];split at h
  ·simp only[RM,ZC,Zi]at h;obtain⟨z,j,rfl,rfl⟩:=h;refine⟨_,?_,Je _ _,rfl⟩;simp only[GK]at j;split at j
   ·simp at j
   ·rename_i G;simp only[Option.some.injEq]at j;subst j;simp [binOp,Op.shift,G]
  ·simp only[RM,ZC,Zi]at h;obtain⟨z,j,rfl,rfl⟩:=h;refine⟨_,?_,Je _ _,rfl⟩;simp only[Zcz]at j;split at j
   ·simp at j
   ·rename_i G;simp only[Option.some.injEq]at j;subst j;simp [binOp,Op.shift,G]
  ·simp only[ZL,Zb,ZR,Z3,Ks]at h;obtain⟨rfl,h⟩:=h;exact Zn3 h
 ·rename_i s1 s2 f i;rw[f]at J;rw[i]at M;rw[VR.str J,VR.str M];simp only[Vb,c (vx:=.string ⟨s1.toArray⟩) (by simp) rfl,Va];exact Zo1 h
 ·rename_i t O K y0 X Y f i
  have data:∀(r:Bool) (p:El t),E.ty T=some t->t.dep<=100->Kw K t y0=some p->eqEl t O p=some r->(Op.equal T (a.eval x) (a.eval y)).run P w=.ok r w/\(eqGuard op T x y (a.eval x) (a.eval y)).run P w=.ok () w/\
   (∀k n,a.eval x≠ .int k n)/\(∀s,a.eval x≠ .string s)/\(∀k n,a.eval x≠ .float k n)/\(∀k n m,a.eval x≠ .complex k n m)/\a.eval x≠ .nilIface:=by
   intro r p L S N q;obtain⟨rfl,rfl⟩:=KR N;rw[f]at J;rw[i]at M;have u:Kk w g (.d K O) (a.eval x):=J;have A:Kk w g (.d K p) (a.eval y):=M;have D:Ka (a.eval x)=K.agg:=u.2.resolve_left (by simp);have W:Ka (a.eval y)=K.agg:=A.2.resolve_left (by simp)
   have e:(∀k n,a.eval x≠ .int k n)/\(∀s,a.eval x≠ .string s)/\(∀k n,a.eval x≠ .float k n)/\(∀k n m,a.eval x≠ .complex k n m)/\a.eval x≠ .nilIface:=by
    cases K with
    |int k=>exact(X k O k p rfl HEq.rfl rfl HEq.rfl).elim
    |str=>exact(Y O p rfl HEq.rfl rfl HEq.rfl).elim
    |bool=>rw[J.bool];simp
    |sl t=>simp [eqEl]at q
    |ref=>simp [eqEl]at q
    |pt t=>simp [eqEl]at q
    |lk a b=>simp [eqEl]at q
    |pn t=>simp [eqEl]at q
    |_=>(cases hv:a.eval x<;>rw[hv]at D<;>simp [Ka,Ty.agg]at D⊢)
   refine⟨Zmh hT _ K T O p _ _ r 10000 (Vga _) L (by omega) q u A,Ztk hT L D W e.2.2.2.2,e⟩
  have C:∀(op:BinOp) (r:Bool),(op=.eql\/op=.neq)->(Op.equal T (a.eval x) (a.eval y)).run P w=.ok r w->(∀k n,a.eval x≠ .int k n)->(∀s,a.eval x≠ .string s)->(∀k n,a.eval x≠ .float k n)->(∀k n m,a.eval x≠ .complex k n m)->
   (binOp op T (a.eval x) (a.eval y)).run P w=.ok (.bool (if op=.eql then r else !r)) w:=by
   intro op r Z he u A Q R
   rcases Z with rfl|rfl<;>unfold binOp<;>cases hv:a.eval x<;>simp_all
  split at h
  ·simp only[ZL,ZC,Zi,Zb,ZR,Z3,Ve,Ks]at h;obtain⟨⟨L,S⟩,p,N,r,q,rfl,rfl⟩:=h;obtain⟨u,A,Q,R,U,V,_⟩:=data r p L (Vj S) N q;refine⟨.bool r,?_,Xj _,rfl⟩;simp only[Vb,A,Va,C .eql r (.inl rfl) u Q R U V,if_true]
  ·simp only[ZL,ZC,Zi,Zb,ZR,Z3,Ve,Ks]at h;obtain⟨⟨L,S⟩,p,N,r,q,rfl,rfl⟩:=h;obtain⟨u,A,Q,R,U,V,_⟩:=data r p L (Vj S) N q;refine⟨.bool (!r),?_,Xj _,rfl⟩;simp only[Vb,A,Va,C .neq r (.inr rfl) u Q R U V];simp
  ·simp [Zb]at h
 ·simp [Zb]at h
end ops
end Tr
end
section
namespace Tr
open Go
section ops
variable {P:Program}{E:Km}{B:Kd}{H:AH}{w:World}{g:Gh}{ow:Nat->Nat->Prop}{nid:Nat}{a:Act}{F:Nat->AV}{v:AV}{patch:KB}{rd:List Nat}{o:Oper}
def _root_.Go.Operand.eval' :Operand->Value
 |.const v=>v
 |_=>undef
theorem Zsj{T:TypeId}{u:AV}{vx:Value}{y:Operand}(q:Z9 P E)(j:VR w g u vx)(h:Zef (E.pk T) u y=true):
 (Op.equal T vx y.eval').run P w=.ok false w/\(vx≠ .nilIface/\Ka vx=false)/\ ∀op,(op=.eql->(binOp op T vx y.eval').run P w=.ok (.bool false) w)/\(op=.neq->(binOp op T vx y.eval').run P w=.ok (.bool true) w):=by
 obtain⟨r,s,x⟩:=q.pk T;unfold Zef at h;split at h
 ·simp only[Ve,Vad]at h;obtain⟨i,h⟩:=h;obtain⟨e,c⟩:=r i;split at h
  ·obtain⟨_,m,t,b,_,_,rfl⟩:=j.ptr
   have key:(Op.equal T (.pointer (some ⟨b,m,none⟩)) (.pointer none)).run P w=.ok false w:=by
    have:∀d,(Op.equalIn (d+1) T (.pointer (some ⟨b,m,none⟩)) (.pointer none)).run P w=.ok false w:=fun d=>by simp only[Op.equalIn,underlying,Vb,run_program,Va,c,Vd]
    exact this 9999
   exact⟨key,⟨by simp,rfl⟩,fun op=>⟨fun e=>by subst e;simp only[binOp,Operand.eval',Vb,key,Va,Vd],fun e=>by subst e;simp only[binOp,Operand.eval',Vb,key,Va,Vd,Vlb]⟩⟩
  grind
 ·simp only[Ve,Vad]at h;obtain⟨i,h⟩:=h;obtain⟨n,p,z,c⟩:=s i;split at h
  ·obtain⟨k,rfl,_⟩:=j.fn;rename_i f l _
   have key:(Op.equal T (.func (.func f) #[] k.toArray) .nilFunc).run P w=.ok false w:=by
    have:∀d,(Op.equalIn (d+1) T (.func (.func f) #[] k.toArray) .nilFunc).run P w=.ok false w:=fun d=>by simp only[Op.equalIn,underlying,Vb,run_program,Va,c,Vd]
    exact this 9999
   exact⟨key,⟨by simp,rfl⟩,fun op=>⟨fun e=>by subst e;simp only[binOp,Operand.eval',Vb,key,Va,Vd],fun e=>by subst e;simp only[binOp,Operand.eval',Vb,key,Va,Vd,Vlb]⟩⟩
  grind
 ·simp only[Ve,Vad]at h;obtain⟨i,h⟩:=h;obtain⟨n,p,c⟩:=x i;split at h
  ·obtain⟨_,b,_,rfl⟩:=j.mp
   have key:(Op.equal T (.map (some b)) (.map none)).run P w=.ok false w:=by
    have:∀d,(Op.equalIn (d+1) T (.map (some b)) (.map none)).run P w=.ok false w:=fun d=>by simp only[Op.equalIn,underlying,Vb,run_program,Va,c,Vd]
    exact this 9999
   exact⟨key,⟨by simp,rfl⟩,fun op=>⟨fun e=>by subst e;simp only[binOp,Operand.eval',Vb,key,Va,Vd],fun e=>by subst e;simp only[binOp,Operand.eval',Vb,key,Va,Vd,Vlb]⟩⟩
  grind
 grind
theorem Zoj{op:BinOp}{T l:TypeId}{x y:Operand}(f:Z9 P E)(e:RH B H w g ow)(hF:Fr w g F a.tmps)(d:o.op=.binOp op T x y l)
 (h:(ZQ E nid o.op o.type (ZB F)).run H []=some ((v,patch),rd)):Zx B (Zr H patch) w g nid v ((execOp a.eval o).run P w):=by
 rw[d]at h;simp only[ZQ,ZL]at h;rcases h with ⟨j,h⟩|⟨_,h⟩
 ·obtain⟨q,b,c⟩:=Zsj (w:=w) f (hF.eval x) j
  have k:a.eval y=y.eval' :=by
   cases y<;>simp [Zef]at j;rfl
  have i:∀op,(eqGuard op T x y (a.eval x) y.eval').run P w=.ok () w:=fun op=>ZcH b.1 b.2;split at h
  ·simp only[Zi,Vc]at h;obtain⟨⟨rfl,rfl⟩,_⟩:=h;refine Zx.pure e (val:=.bool false) ?_ (Xj _);simp only[execOp,d,k,Vb,i,Va,(c .eql).1 rfl];rfl
  ·simp only[Zi,Vc]at h;obtain⟨⟨rfl,rfl⟩,_⟩:=h;refine Zx.pure e (val:=.bool true) ?_ (Xj _);simp only[execOp,d,k,Vb,i,Va,(c .neq).2 rfl];rfl
  ·simp [Zb]at h
 simp only[Z4,Zi,Vc]at h;obtain⟨r,m,h,⟨rfl,rfl⟩,_⟩:=h;obtain⟨val,n,p,_⟩:=ZnY f hF h;refine Zx.pure e ?_ p;simp only[execOp,d];rw[Vb,n];rfl
theorem ZoM{op:UnOp}{T:TypeId}{x:Operand}(f:RH B H w g ow)(hF:Fr w g F a.tmps)(d:o.op=.unOp op T x)
 (h:(ZQ E nid o.op o.type (ZB F)).run H []=some ((v,patch),rd)):Zx B (Zr H patch) w g nid v ((execOp a.eval o).run P w):=by
 rw[d]at h;simp only[ZQ,Z4,Zi,Vc]at h;obtain⟨i,m,h,⟨rfl,rfl⟩,_⟩:=h;have c:=hF.eval x;unfold aun at h;split at h
 ·rename_i b e;simp only[Zi]at h;obtain⟨rfl,_⟩:=h;rw[e]at c;refine Zx.pure f (val:=.bool (!b)) ?_ (Xj _);simp only[execOp,d,VR.bool c,Op.unary,Vb,Vd,Va]
 ·rename_i k n e;simp only[Zi]at h;obtain⟨rfl,_⟩:=h;rw[e]at c;refine Zx.pure f (val:=.int k (k.wrap (0 - n))) ?_ (Je _ _);simp only[execOp,d,VR.int c,Op.unary,Op.intArith,Vb,Vd,Va]
 ·simp [Zb]at h
theorem ZmX{T:TypeId}{k:IntKind}(e:Z9 P E)(h:E.ty T=some (.int k)):P.underlying T=some (.int k):=by
 have b:=(e.ty T _ h).shape
 cases c:P.underlying T with
 |none=>rw[c]at b;simp [Kb]at b
 |some d=>rw[c]at b;cases d<;>simp [Kb]at b;grind
theorem ZeQ{T:TypeId}(e:Z9 P E)(h:E.ty T=some .str):P.underlying T=some .string:=by
 have b:=(e.ty T _ h).shape
 cases c:P.underlying T with
 |none=>rw[c]at b;simp [Kb]at b
 |some d=>rw[c]at b;cases d<;>simp [Kb]at b;rfl
theorem Zuw{T:TypeId}{t:Ty}(c:Z9 P E)(h:E.ty T=some t):∃d,P.underlying T=some d:=by
 have b:=(c.ty T _ h).shape
 cases e:P.underlying T with
 |none=>rw[e]at b;simp [Kb]at b
 |some d=>simp
theorem Zpu{x:AV}{v:Value}(b:ZaI x=true)(h:VR w g x v):CV w g x [v]:=by
 unfold ZaI at b;simp only[Ve,Vab]at b;obtain⟨e,b⟩:=b;have c:Kk w g x v:=h.to1 (by intro l d;subst d;simp [HH]at b)
 have f:Ka v=false:=by
  rcases c.2 with h|h
  ·subst h;simp [HH]at b
  grind
 have:v.cells.toList=[v]:=by cases v<;>simp_all [Vpb,Ka]
 rw[<-this];exact c.1
theorem Zpw{x:AV}{v:Value}(e:ZaI x=true)(h:CV w g x [v]):VR w g x v:=by
 unfold ZaI at e;simp only[Ve,Vab]at e;obtain⟨z,e⟩:=e
 have key:Ka v=false:=by
  cases x with
  |d t y=>
   have:=Rd.oneCell t y [v] (by assumption) v (by simp)
   cases v<;>simp_all [Voa,Ka]
  |junk=>simp [HH]at e
  |tup l=>simp [HH]at e
  |agg l=>simp [HH]at e
  |jk n=>simp [HH]at e
  |dp t y=>simp only[CV]at h;obtain⟨b,off,c,h,_⟩:=h;cases h;rfl
  |ptr id p=>simp only[CV]at h;obtain⟨_,o,t,b,_,_,h⟩:=h;cases h;rfl
  |vp id i p=>simp only[CV]at h;obtain⟨_,o,t,b,_,_,h⟩:=h;cases h;rfl
  |mp id=>simp only[CV]at h;obtain⟨_,b,_,h⟩:=h;cases h;rfl
  |fn f l=>simp only[CV]at h;obtain⟨s,h,_⟩:=h;cases h;rfl
  |nilr p=>have h:=Za3 h;rcases h with h|h|h<;>cases h<;>rfl
  |nw id ver q k=>simp only[CV]at h;obtain⟨_,_,u,h,j,_⟩:=h;cases h;cases v<;>simp_all [Voa,Ka]
  |np id ver q k i p=>simp only[CV]at h;obtain⟨_,_,r,h,_⟩:=h;cases h;rfl
  |nils=>simp only[CV]at h;cases h;rfl
  |vw id=>simp only[CV]at h;obtain⟨_,h,j⟩:=h;cases h;cases A:g.slv id<;>simp_all [Voa,Ka]
  |vs id C n=>simp only[CV,Zbk]at h;obtain⟨_,⟨_,_,_,h⟩|⟨b,len,cap,m,_,_,_,_,h⟩⟩:=h<;>cases h<;>rfl
 have:v.cells.toList=[v]:=by cases v<;>simp_all [Vpb,Ka]
 exact VR.of1 ⟨by grind,by grind⟩
theorem Zjd:∀(xs:List Operand),Fr w g F a.tmps->RR (Zq.ofList (xs.map (ZB F)))=true->Z5 w g (Zq.ofList (xs.map (ZB F))) (xs.map a.eval)
 |[],_,_=>by rfl
 |x::l,b,h=>by simp only[Vr,Zq.ofList,RR,Ve]at h⊢;simp only[Z5];exact⟨[a.eval x],l.map a.eval,rfl,Zpu h.1 (b.eval x),Zjd l b h.2⟩
theorem Zja:∀(l:Zq) (cs:List Value),RR l=true->Z5 w g l cs->WM w g l cs
 |.nil,cs,_,h=>by assumption
 |.cons x l,cs,j,h=>by
  simp only[RR,Ve]at j;simp only[Z5]at h;obtain⟨e,q,rfl,b,r⟩:=h;have c:=j.1
  have:∃v,e=[v]:=by
   have s:e.length=1:=by
    unfold ZaI at c;simp only[Ve]at c;obtain⟨_,c⟩:=c
    cases x with
    |d t y=>simp only[HH]at c;rw[Rd.length t y e (by assumption)];simp_all
    |junk=>simp [HH]at c
    |tup l=>simp [HH]at c
    |agg l=>simp [HH]at c
    |jk n=>simp [HH]at c
    |dp t y=>simp only[CV]at b;grind
    |ptr id p=>simp only[CV]at b;grind
    |vp id i p=>simp only[CV]at b;grind
    |mp id=>simp only[CV]at b;grind
    |fn f l=>simp only[CV]at b;grind
    |nilr p=>have b:=Za3 b;grind
    |nw id ver A k=>simp only[CV]at b;grind
    |np id ver A k i p=>simp only[CV]at b;grind
    |nils=>simp only[CV]at b;grind
    |vw id=>simp only[CV]at b;grind
    |vs id C n=>simp only[CV,Zbk]at b;grind
   exact List.length_eq_one_iff.1 s
  obtain⟨v,rfl⟩:=this;have z:=Zpw c b;refine⟨v,q,rfl,z.to1 ?_,Zja l q j.2 r⟩;intro m u;subst u;assumption
theorem Zoy{f:FuncId}{first b:Array Operand}(e:RH B H w g ow)(hF:Fr w g F a.tmps)(c:o.op=.makeFunc (.func f) first b)
 (h:(ZQ E nid o.op o.type (ZB F)).run H []=some ((v,patch),rd)):Zx B (Zr H patch) w g nid v ((execOp a.eval o).run P w):=by
 rw[c]at h;simp only[ZQ,ZL,Zi,Zb,ZR,Z3,Vc,Ve]at h;obtain⟨⟨j,d⟩,⟨rfl,rfl⟩,_⟩:=h
 have i:first= #[]:=by grind
 refine Zx.pure e (val:=.func (.func f) #[] (b.map a.eval)) ?_ ⟨?_,.inr rfl⟩
 ·simp only[execOp,c,Instr.makeFunc,i,Vb,Vd,Va,Array.map_empty]
 ·simp only[CV];exact⟨b.toList.map a.eval,by simp [Vpb, <-Vqc],Zjd _ hF d⟩
theorem Ro{c:Call}{b:Builtin}{ty:TypeId}(e:c.callee=.builtin b):
 (do let d<-resolve a.eval c ty;invoke d.target d.args:Sem Next).run P w=(builtin b c.argTypes ty (c.args.map fun|.const _=>true|_=>false) (c.args.map a.eval)).run P w:=by
 unfold resolve;rw[e];rfl
theorem ZaB(v:Value):(#[v]:Array Value)[0]? =some v:=rfl
theorem Zow{c:Call}(Q:Z9 P E)(z:RH B H w g ow)(hF:Fr w g F a.tmps)(Y:o.op=.call c)(X:c.callee=.builtin .len)
 (h:(ZQ E nid o.op o.type (ZB F)).run H []=some ((v,patch),rd)):Zx B (Zr H patch) w g nid v ((execOp a.eval o).run P w):=by
 rw[Y]at h;simp only[ZQ,X]at h;split at h
 ·rename_i x T R y;simp only[Z4,Zi,Vc]at h;obtain⟨v',m,h,⟨rfl,rfl⟩,_⟩:=h;have j:=hF.eval x
  have l:c.args.map a.eval= #[a.eval x]:=by
   have:c.args= #[x]:=by grind
   grind
  have fin:∀(n:Int),v' =.d (.int .i64) n->(Vhb c.argTypes o.type #[a.eval x]).run P w=.ok (.int .i64 n) w->Zx B (Zr H []) w g nid v' ((execOp a.eval o).run P w):=by intro n hv hr;subst hv;refine Zx.pure z (val:=.int .i64 n) ?_ (Je _ _);simp only[execOp,Y,Ro X,builtin,l,Vb,hr,Va,Vd]
  have sl:∀(M:Option Addr) (n cap:Nat),Ye (E.ty T)=true->a.eval x=.slice M n cap->(Vhb c.argTypes o.type #[a.eval x]).run P w=.ok (.int .i64 n) w:=by
   intro M n cap i q
   have:∃t,E.ty T=some (.sl t):=by
    cases O:E.ty T with
    |none=>rw[O]at i;simp [Ye]at i
    |some t=>cases t<;>rw[O]at i<;>simp [Ye]at i;simp
   obtain⟨t,O⟩:=this;obtain⟨Et,W,_⟩:=Jz Q O;simp only[Vhb,y,q,ZaB,underlying,Vb,run_program,Va,W,Vd,goInt]
  unfold Zix at h;split at h
  ·rename_i t xs f;simp only[ZL,Zi,Zb,ZR,Z3]at h;obtain⟨i,rfl,_⟩:=h;obtain⟨M,cap,A,q,_⟩:=(f▸j).sl
   grind
  ·rename_i s f;simp only[ZL,Zi,Zb,ZR,Z3,Ks]at h;obtain⟨i,rfl,_⟩:=h;rw[f]at j;refine fin _ rfl ?_;simp only[Vhb,y,VR.str j,underlying,Vb,run_program,Va,ZeQ Q i,ZaB,Vd,goInt];rfl
  ·rename_i f;simp only[ZL,Zi,Zb,ZR,Z3]at h;obtain⟨i,rfl,_⟩:=h;exact fin _ rfl (sl _ _ _ i (f▸j).nils)
  ·rename_i id lo n f;simp only[ZL,Zi,Zb,ZR,Z3]at h;obtain⟨i,rfl,_⟩:=h;obtain⟨_,N⟩:=(f▸j).vs;rcases N with ⟨_,_,rfl,N⟩|⟨b,len,cap,m,_,_,_,_,N⟩
   all_goals grind
  ·rename_i id f;simp only[ZL,Zb,ZR,Z3]at h;obtain⟨i,h⟩:=h;rw[Z1]at h;split at h
   ·rename_i t xs p;simp only[Zi]at h;obtain⟨rfl,_⟩:=h;obtain⟨_,q⟩:=(f▸j).vw;obtain⟨_,_,hO⟩:=z.objs id _ p
    grind
   ·rename_i t xs u Z p;simp only[Zi]at h;obtain⟨rfl,_⟩:=h;obtain⟨_,q⟩:=(f▸j).vw;obtain⟨_,_,_,_,hO⟩:=z.objs id _ p
    grind
   ·rename_i t xs p;simp only[Zi]at h;obtain⟨rfl,_⟩:=h;obtain⟨M,cap,A,q,_⟩:=(ZeU z p (f▸j)).sl
    grind
   ·simp [Zb]at h
  ·rename_i id ver kt k f;simp only[ZL,Z4,Zi,Zb,ZR,Z3]at h;obtain⟨i,r,m1,C,rfl,_⟩:=h;obtain⟨_,_,_,_,L⟩:=Zaw z (f▸j) C;rcases L with ⟨N,h2⟩|⟨b,cap,cs,e,A,h2,_⟩
   all_goals grind
  ·rename_i id f;simp only[ZL,Zb,ZR,Z3]at h;obtain⟨i,h⟩:=h;rw[Z1]at h;split at h
   ·rename_i kt vt mm p;simp only[Zi]at h;obtain⟨rfl,_⟩:=h;obtain⟨_,b,hb,q⟩:=(f▸j).mp;obtain⟨_,b',es,clock,D,_,hh,_,S⟩:=z.objs id _ p;rw[hb]at D;cases D;obtain⟨mt,U⟩:=Vwa.1 i;obtain⟨K,V,W,_,_⟩:=Q.mty T mt U;have G:(getObj b).run P w=.ok (.map es clock) w:=by simp only[getObj,Vib,hh]
    refine fin _ rfl ?_;have J:es.size=mm.length:=by rw[S.length];simp
    simp only[Vhb,y,q,underlying,Vb,run_program,Va,W,ZaB,Vd,G,goInt,J]
   ·simp [Zb]at h
  ·simp [Zb]at h
 ·simp [Zb]at h
end ops
end Tr
end
section
namespace Tr
open Go
section ops
variable {P:Program}{E:Km}{B:Kd}{H:AH}{w:World}{g:Gh}{ow:Nat->Nat->Prop}{nid:Nat}{a:Act}{F:Nat->AV}{v:AV}{patch:KB}{rd:List Nat}{o:Oper}
theorem Zfv{f:Int->Int->Int}{m2:Value->Value->Sem Value}(i:∀k x y w,(m2 (.int k x) (.int k y)).run P w=.ok (.int k (f x y)) w){k:IntKind}(hF:Fr w g F a.tmps):
 ∀(l:List Operand) (x:Int) (r e:List Nat) (v:AV),(Zax f k x (l.map (ZB F))).run H r=some (v,e)->∃n,v=.d (.int k) n/\((l.map a.eval).foldlM m2 (.int k x)).run P w=.ok (.int k n) w
 |[],x,r,e,v,h=>by
  simp only[Vpd,Zax,Zi]at h
  simp_all
 |y::l,x,r,e,v,h=>by
  have j:=hF.eval y;simp only[Vr]at h⊢;unfold Zax at h;split at h
  ·grind
  ·rename_i t b u c;obtain⟨m,p⟩:=List.cons.inj c;subst p;simp only[ZL,Zb,ZR,Z3,Ks]at h;obtain⟨rfl,h⟩:=h;rw[m]at j;obtain⟨n,q,s⟩:=Zfv i hF l _ _ _ _ h;refine⟨n,q,?_⟩;rw[List.foldlM_cons,VR.int j,Vb,i]
   assumption
  ·simp [Zb]at h
theorem ZoD{c:Call}(j:RH B H w g ow)(hF:Fr w g F a.tmps)(e:o.op=.call c)(d:c.callee=.builtin .min)
 (h:(ZQ E nid o.op o.type (ZB F)).run H []=some ((v,patch),rd)):Zx B (Zr H patch) w g nid v ((execOp a.eval o).run P w):=by
 rw[e]at h;simp only[ZQ,d]at h;split at h
 ·rename_i x l b;have f:=hF.eval x;split at h
  ·rename_i k n p;simp only[Z4,Zi,Vc]at h;obtain⟨r,m,h,⟨rfl,rfl⟩,_⟩:=h;obtain⟨i,rfl,q⟩:=Zfv (P:=P) (m2:=Builtin.min2) (fun _ _ _ _=>rfl) hF l _ _ _ _ h;rw[p]at f;refine Zx.pure j (val:=.int k i) ?_ (Je _ _)
   have:(Vqd c.argTypes o.type (c.args.map a.eval)).run P w=.ok (.int k i) w:=by unfold Vqd;rw[Vwb,b,Vr,VR.int f];omega
   simp only[execOp,e,Ro d,builtin,Vb,this,Va,Vd]
  ·simp [Zb]at h
 ·simp [Zb]at h
theorem ZoC{c:Call}(j:RH B H w g ow)(hF:Fr w g F a.tmps)(e:o.op=.call c)(d:c.callee=.builtin .max)
 (h:(ZQ E nid o.op o.type (ZB F)).run H []=some ((v,patch),rd)):Zx B (Zr H patch) w g nid v ((execOp a.eval o).run P w):=by
 rw[e]at h;simp only[ZQ,d]at h;split at h
 ·rename_i x l b;have f:=hF.eval x;split at h
  ·rename_i k n p;simp only[Z4,Zi,Vc]at h;obtain⟨r,m,h,⟨rfl,rfl⟩,_⟩:=h;obtain⟨i,rfl,q⟩:=Zfv (P:=P) (m2:=Builtin.max2) (fun _ _ _ _=>rfl) hF l _ _ _ _ h;rw[p]at f;refine Zx.pure j (val:=.int k i) ?_ (Je _ _)
   have:(Vrd c.argTypes o.type (c.args.map a.eval)).run P w=.ok (.int k i) w:=by unfold Vrd;rw[Vwb,b,Vr,VR.int f];omega
   simp only[execOp,e,Ro d,builtin,Vb,this,Va,Vd]
  ·simp [Zb]at h
 ·simp [Zb]at h
theorem ZiL{x:Operand}{n:Int}(hF:Fr w g F a.tmps)(h:Wj (ZB F x)=some n):∃k,a.eval x=.int k n:=by
 have b:=hF.eval x;unfold Wj at h;split at h
 ·rename_i k m c;cases h;rw[c]at b;exact⟨k,VR.int b⟩
 grind
theorem ZcJ{len cap:Nat}{isS:Bool}{lo d:Option Operand}{l h b:Nat}(hF:Fr w g F a.tmps)(m:cap<=b)
 (C:∀x∈lo,(Wj (ZB F x)).isSome) (z:∀x∈d,(Wj (ZB F x)).isSome)
 (j:sliceB len cap (lo.bind fun o=>Wj (ZB F o)) (d.bind fun o=>Wj (ZB F o))=some (l,h)) (A:len<=cap):
 (Vbb isS len b (lo.map a.eval) (d.map a.eval) none).run P w=.ok (l,h,b) w/\l<=h/\h<=cap:=by
 have bound:∀(x:Operand) (n:Int) (y:Nat) (code:BoundsCode),Wj (ZB F x)=some n->0<=n->n<=y->(Vca (a.eval x) y code).run P w=.ok n.toNat w:=by intro x n y code D q i;obtain⟨k,u⟩:=ZiL hF D;simp only[Vca,u,asIntOf,Vb,Vd,Va,q,i,and_self,if_true]
 unfold sliceB at j;simp only[Vl]at j;obtain⟨e,G,p⟩:=j
 have c:((match d.map a.eval,(none:Option Value) with
  |some v,some _=>Vca v b .slice3B
  |some v,none=>Vca v b (if isS then .sliceAcap else .sliceAlen)
  |none,none=>pure len
  |none,some _=>stuck "Slice: max without high"):Sem Nat).run P w=.ok e w∧e≤cap:=by
  cases d with
  |none=>simp_all
  |some x=>
   grind
 have f:((match lo.map a.eval with
  |some v=>Vca v e (if (none:Option Value).isSome then .slice3C else .sliceB)
  |none=>pure 0):Sem Nat).run P w=.ok l w/\l<=e/\e=h:=by
  cases lo with
  |none=>simp only[Veb,Option.some.injEq,Vc]at p;obtain⟨rfl,rfl⟩:=p;simp
  |some x=>
   grind
 obtain⟨i,r⟩:=c;obtain⟨s,t,rfl⟩:=f;refine⟨?_,t,r⟩;unfold Vbb
 cases d<;>cases lo<;>simp only[Vp,Vm,Vb,Vd,Va,Vmb,Vy,if_false]at i s⊢ <;> (simp_all)<;> (simp_all)<;>simp_all
theorem KH.part{w:World}{b off:Nat}{css:List (List Value)}{s l n:Nat}(m:∀c∈css,c.length=s)(k:l<=css.length)(h:KH w b off css.flatten):KH w b (off+l*s) ((css.drop l).take n).flatten:=by
 have e:css.flatten=(css.take l).flatten++(((css.drop l).take n).flatten++((css.drop l).drop n).flatten):=by rw[<-Vv,Vma, <-Vv,Vma]
 have f:(css.take l).flatten.length=l*s:=by rw[JV fun c i=>m c (Vfa i),Vqa,Vda k]
 intro j p;have d:l*s+j<css.flatten.length:=by grind
 have:=h (l*s+j) d
 grind
theorem ZfN{lo:Option Operand}(h:GB (ZB F) lo=true):∀x∈lo,(Wj (ZB F x)).isSome:=by intro x b;cases b;exact h
theorem ZoJ{T:TypeId}{x:Operand}{lo hi:Option Operand}(u:Z9 P E)(K:RH B H w g ow)(hF:Fr w g F a.tmps)(N:o.op=.slice T x lo hi none)
 (h:(ZQ E nid o.op o.type (ZB F)).run H []=some ((v,patch),rd)):Zx B (Zr H patch) w g nid v ((execOp a.eval o).run P w):=by
 rw[N]at h;simp only[ZQ,ZL,Zb,ZR,false_or,Vh,Ve]at h;obtain⟨⟨k,j⟩,h⟩:=h;have k:=ZfN k;have j:=ZfN j;have O:=hF.eval x;split at h
 ·rename_i t xs D;simp only[ZL,ZC,Zi,Zb,ZR,false_or,Vh,Ks,Vc]at h;obtain⟨C,⟨l,d⟩,q,⟨rfl,rfl⟩,_⟩:=h;obtain⟨G,M,f⟩:=Jz u C;obtain⟨m,cap,r,L,i,S,c⟩:=(D▸O).sl;obtain⟨y,A,z⟩:=ZcJ (P:=P) (w:=w) (isS:=true) hF c k j q (Vg _)
  refine Zx.pure K (val:=.slice (if cap=l then m else m.map (·.add (l*t.size))) (d - l) (cap - l)) ?_ (K8 ?_ rfl rfl)
  ·simp only[execOp,N,L,Vra,Vfb,Vp,underlying,Vb,run_program,Va,M,Vd,y,(u.ty G t f).run_sizeOf]
  ·simp only[CV,Rd];have p:((xs.drop l).take (d - l)).length=d - l:=by grind
   refine⟨_,cap - l,(r.drop l).take (d - l),by rw[p],(i.drop l).take _,fun Y=>?_,by omega⟩;have R:0<d - l:=by grind
   obtain⟨b,off,rfl,V,hL⟩:=S (by grind);refine⟨b,off+l*t.size,?_,V,KH.part (Rd.all_length i) (by rw[<-i.length];omega) hL⟩;rw[Zf (by omega)];simp only[Vm,Option.some.injEq];unfold Addr.add;simp
 ·rename_i s D;simp only[ZL,ZC,Zi,Zb,ZR,false_or,Vh,Ks,Vc]at h;obtain⟨C,⟨l,d⟩,q,⟨rfl,rfl⟩,_⟩:=h;rw[D]at O;obtain⟨y,A,z⟩:=ZcJ (P:=P) (w:=w) (isS:=false) hF (Vg _) k j q (Vg _);have Z:(⟨s.toArray⟩:ByteArray).size=s.length:=by rfl
  refine Zx.pure K (val:=.string ((⟨s.toArray⟩:ByteArray).extract l d)) ?_ ?_
  ·simp only[execOp,N,VR.str O,Vra,Vfb,Vp,underlying,Vb,run_program,Va,ZeQ u C,Vd,Vmb,Vy,if_false,Z,y]
  ·have:(⟨s.toArray⟩:ByteArray).extract l d=⟨((s.drop l).take (d - l)).toArray⟩:=by apply ByteArray.ext;simp
   rw[this];exact ZbI _
 ·rename_i D;split at h
  ·rename_i t C;simp only[ZC,Zi,Vc]at h;obtain⟨⟨l,d⟩,q,⟨rfl,rfl⟩,_⟩:=h;obtain⟨G,M,f⟩:=Jz u C;have L:=(D▸O).nils;obtain⟨y,A,z⟩:=ZcJ (P:=P) (w:=w) (isS:=true) hF (Vg 0) k j q (Vg _);have X:l=0:=by omega
   have W:d=0:=by omega
   subst X W;refine Zx.pure K (val:=.slice none 0 0) ?_ (by grind);simp only[execOp,N,L,Vra,Vfb,Vp,underlying,Vb,run_program,Va,M,Vd,y,(u.ty G t f).run_sizeOf];rfl
  ·simp [Zb]at h
 ·rename_i id D;rw[Z1]at h;split at h
  ·rename_i t xs U;simp only[ZL,ZC,Zb,ZR,false_or,Vh,Ks]at h;obtain⟨C,⟨l,d⟩,q,h⟩:=h
   have hh:v=.vs id l (d - l)/\patch=[]:=by
    cases lo with
    |none=>
     simp only[Zi,Vc]at h
     have S:0=l:=by simp only[sliceB,Veb,Vl,Option.some.injEq,Vc]at q;omega
     grind
    |some x=>
     simp only[Zi,Vc]at h
     grind
   obtain⟨rfl,rfl⟩:=hh;obtain⟨G,M,f⟩:=Jz u C;obtain⟨hk,L⟩:=(D▸O).vw;obtain⟨_,a2,J⟩:=K.objs id _ U
   have key:∃(m:Option Addr) (cap:Nat),g.slv id=.slice m xs.length cap/\xs.length<=cap/\(∀l n,l+n<=xs.length->Zbk (g.slv id) t.size l n [.slice (if cap=l then m else m.map (·.add (l*t.size))) n (cap - l)]):=by
    rcases J with ⟨rfl,_,J⟩|⟨b,cap,cs,e,r,_,_,J,_,c,_⟩
    ·refine⟨none,0,J,Vg _,fun l n Q=>.inl ⟨J,?_,?_,?_⟩⟩
     all_goals grind
    ·refine⟨_,cap,J,c,fun l n Q=>.inr ⟨b,xs.length,cap,cap - l,J,Q,by omega,by omega,?_⟩⟩;congr 2;by_cases h0:cap=l
     ·grind
     ·rw[Zf h0,Zf (by omega)];simp only[Vm,Option.some.injEq];unfold Addr.add
      grind
   obtain⟨m,cap,hv,c,a1⟩:=key;obtain⟨y,A,z⟩:=ZcJ (P:=P) (w:=w) (isS:=true) hF c k j q (Vg _)
   refine Zx.pure K (val:=.slice (if cap=l then m else m.map (·.add (l*t.size))) (d - l) (cap - l)) ?_ (K8 ?_ rfl rfl)
   ·simp only[execOp,N,L,hv,Vra,Vfb,Vp,underlying,Vb,run_program,Va,M,Vd,y,(u.ty G t f).run_sizeOf]
   ·simp only[CV]
    grind
  ·rename_i t xs U;simp only[ZL,ZC,Zi,Zb,ZR,false_or,Vh,Ks,Vc]at h;obtain⟨C,⟨l,d⟩,q,⟨rfl,rfl⟩,_⟩:=h;obtain⟨G,M,f⟩:=Jz u C;obtain⟨m,cap,r,L,i,S,c⟩:=(ZeU K U (D▸O)).sl;obtain⟨y,A,z⟩:=ZcJ (P:=P) (w:=w) (isS:=true) hF c k j q (Vg _)
   refine Zx.pure K (val:=.slice (if cap=l then m else m.map (·.add (l*t.size))) (d - l) (cap - l)) ?_ (K8 ?_ rfl rfl)
   ·simp only[execOp,N,L,Vra,Vfb,Vp,underlying,Vb,run_program,Va,M,Vd,y,(u.ty G t f).run_sizeOf]
   ·simp only[CV,Rd];have p:((xs.drop l).take (d - l)).length=d - l:=by grind
    refine⟨_,cap - l,(r.drop l).take (d - l),by rw[p],(i.drop l).take _,fun Y=>?_,by omega⟩;have R:0<d - l:=by grind
    obtain⟨b,off,rfl,V,hL⟩:=S (by grind);refine⟨b,off+l*t.size,?_,V,KH.part (Rd.all_length i) (by rw[<-i.length];omega) hL⟩;rw[Zf (by omega)];simp only[Vm,Option.some.injEq];unfold Addr.add;simp
  ·simp [Zb]at h
 ·simp [Zb]at h
end ops
end Tr
end
section
namespace Tr
open Go
theorem ZjU(off:Nat):∀(d:List Value) (k:Nat) (pre c post:List Value),c.length=d.length->pre.length=off+k->
 (d.zipIdx k).foldl (fun(cs:Array Value) x=>cs.setIfInBounds (off+x.2) x.1) (pre++c++post).toArray=(pre++d++post).toArray
 |[],k,pre,c,post,h,_=>by
  simp_all
 |x::d,k,pre,c,post,h,b=>by
  match c,h with
  |y::c,h=>
   simp only[List.zipIdx_cons,List.foldl_cons]
   have e:(pre++(y::c)++post).toArray.setIfInBounds (off+k) x=((pre++[x])++c++post).toArray:=by
    grind
   rw[e,ZjU off d (k+1) (pre++[x]) c post (by grind) (by grind)];simp
def GO(css:List (List Value))(b:List (Nat×Value)):List (List Value):=b.foldl (fun css p=>css.set p.1 p.2.cells.toList) css
theorem ZdM{place:Nat->Option (Nat×Nat)}{lens:List Nat}(l:∀i,(h:i<lens.length)->place i=some ((lens.take i).sum,lens[i])):∀(c:List (Nat×Value)) (css:List (List Value)),css.map Vna=lens->
 (∀p∈c,∃n,lens[p.1]? =some n/\p.2.cells.size=n)->Vbd place css.flatten.toArray c=some (GO css c).flatten.toArray/\(GO css c).map Vna=lens
 |[],css,j,_=>⟨rfl,j⟩
 |(i,v)::c,css,j,h=>by
  obtain⟨n,k,u⟩:=h (i,v) (by simp);simp only at k u;obtain⟨s,rfl⟩:=Vw.1 k;have t:i<css.length:=by grind
  have r:css[i].length=lens[i]:=by grind
  have b:css.flatten=(css.take i).flatten++css[i]++(css.drop (i+1)).flatten:=by
   calc css.flatten=(css.take i++css[i]::css.drop (i+1)).flatten:=by simp
    _=_:=by grind
  have f:(css.take i).flatten.length=(lens.take i).sum:=by simp_all
  have m:css.set i v.cells.toList=css.take i++v.cells.toList::css.drop (i+1):=List.set_eq_take_append_cons_drop .. |>.trans (by grind)
  have d:(css.set i v.cells.toList).map Vna=lens:=by
   simp_all
  obtain⟨y,q⟩:=ZdM l c (css.set i v.cells.toList) d (by grind);refine⟨?_,q⟩;unfold Vbd;simp only[l i s];rw[Zf]
  ·rw[<-Array.foldl_toList,Array.toList_zipIdx,b];have:=ZjU (lens.take i).sum v.cells.toList 0 (css.take i).flatten css[i] (css.drop (i+1)).flatten (by grind) f;have e:=this;rw[show (List.foldl (fun(cs:Array Value) (x:Value×Nat)=>cs.setIfInBounds ((List.take i lens).sum+x.2) x.1) ((css.take i).flatten++css[i]++(css.drop (i+1)).flatten).toArray (v.cells.toList.zipIdx))=_ from e];have:((css.take i).flatten++v.cells.toList++(css.drop (i+1)).flatten)=(css.set i v.cells.toList).flatten:=by grind
   rw[this]
   assumption
  grind
theorem ZeE:∀(b:List (Nat×Value)) (css:List (List Value)),Gf css.length (b.map (·.1))=true->∀j,j<css.length->
 (GO css b)[j]? =(match b.lookup j with|some v=>some v.cells.toList|none=>css[j]?)
 |[],css,_,j,_=>rfl
 |(i,v)::b,css,h,j,d=>by
  simp only[Vr,Gf,Ve,Vab]at h;have c:=Vj h.1.1;have:=ZeE b (css.set i v.cells.toList) (by grind) j (by grind);show (GO (css.set i v.cells.toList) b)[j]? =_
  grind
theorem ZeF:∀(b:List (Nat×Value)) (css:List (List Value)),(GO css b).length=css.length
 |[],_=>rfl
 |(i,v)::b,css=>by show (GO (css.set i v.cells.toList) b).length=_;rw[ZeF b,List.length_set]
section ops
variable {P:Program}{E:Km}{B:Kd}{H:AH}{w:World}{g:Gh}{ow:Nat->Nat->Prop}{nid:Nat}{a:Act}{F:Nat->AV}{v:AV}{patch:KB}{rd:List Nat}{o:Oper}
def Zq.toL:Zq->List AV
 |.nil=>[]
 |.cons v l=>v::l.toL
theorem ZcY:∀{l:Zq}{cs:List Value},Z5 w g l cs↔∃css,cs=css.flatten/\Fa (CV w g) l.toL css
 |.nil,cs=>by
  simp only[Z5,Zq.toL];constructor
  ·rintro rfl;exact⟨[],rfl,trivial⟩
  ·rintro ⟨css,rfl,h⟩
   match css,h with
   |[],_=>rfl
 |.cons v l,cs=>by
  simp only[Z5,Zq.toL];constructor
  ·rintro ⟨e,i,rfl,b,d⟩;obtain⟨css,rfl,f⟩:=ZcY.1 d;exact⟨e::css,rfl,b,f⟩
  ·rintro ⟨css,rfl,h⟩
   match css,h with
   |c::css,⟨b,d⟩=>exact⟨c,css.flatten,rfl,b,ZcY.2 (by grind)⟩
theorem ZkV:∀{l:Zq}{d:DV}{cs:List Value},Ga l=some d->Z5 w g l cs->Rd w g.I d.1 d.2 cs
 |.nil,d,cs,h,b=>by
  simp only[Ga,Option.some.injEq]at h
  subst h;assumption
 |.cons v l,d,cs,h,b=>by
  simp only[Z5]at b;obtain⟨e,f,rfl,k,j⟩:=b
  cases v with
  |d t x=>
   simp only[Ga]at h
   cases c:Ga l with
   |none=>grind
   |some i=>
    obtain⟨u,y⟩:=i;rw[c]at h;simp only[Option.some.injEq]at h;subst h;simp only[Rd]
    exact⟨e,f,rfl,by assumption,ZkV c j⟩
  |_=>simp [Ga]at h
theorem ZrU{l:Zq}{cs:List Value}(h:Z5 w g l cs):CV w g (Zcr l) cs/\(Zcr l).isAgg=true:=by
 unfold Zcr
 cases b:Ga l with
 |none=>exact⟨by assumption,rfl⟩
 |some d=>
  refine⟨by simpa only[CV] using ZkV b h,?_⟩
  cases l with
  |nil=>simp only[Ga,Option.some.injEq]at b;subst b;rfl
  |cons v l=>
   cases v with
   |d t x=>
    simp only[Ga]at b;split at b
    ·cases b;rfl
    grind
   |_=>simp [Ga]at b
theorem Zu4:∀(t:Ty) (cs:List Value),t.chain=true->t.data=true->Rd w g.I t (zeroEl t) cs->Z5 w g (Gt true t) cs:=by
 intro t
 induction t with
 |prod a b _ d=>
  intro cs f c h;simp only[Ty.data,Ve]at c;simp only[Rd]at h;obtain⟨i,e,rfl,k,j⟩:=h;simp only[Gt,Z5];refine⟨i,e,rfl,?_,d e (by assumption) c.2 j⟩;simp only[Hh,c.1,Bool.true_or,Vnd,Zc,CV]
  assumption
 |unit=>
  intro cs _ _ h
  assumption
 |_=>intro cs f;simp [Ty.chain]at f
def Ty.parts:Ty->List Ty
 |.prod a b=>a::b.parts
 |_=>[]
theorem Zgg:∀t:Ty,fieldsOf t=t.parts.length
 |.prod a b=>by simp [fieldsOf,Ty.parts,Zgg b]
 |.unit|.int _|.bool|.str|.sl _|.arr _ _|.ref|.pt _|.lk _ _|.pn _=>rfl
theorem Zlf:∀(t:Ty) (n:Nat),t.chain=true->Z0 t [n]=(t.parts[n]?).map fun e=>(((t.parts.take n).map Ty.size).sum,e):=by
 intro t
 induction t with
 |prod a b _ d=>
  intro n c;have c:b.chain=true:=by assumption
  cases n with
  |zero=>simp [Z0,Ty.parts]
  |succ n=>
   simp only[Z0,d n c,Ty.parts,Vya,List.take_succ_cons,Vr,List.sum_cons]
   grind
 |unit=>intro n _;rfl
 |_=>intro n c;simp [Ty.chain]at c
theorem Zno(z:Bool):∀t:Ty,(Gt z t).toL=t.parts.map (Hh z)
 |.prod a b=>by simp only[Gt,Zq.toL,Ty.parts,Vr,Zno z b]
 |.unit|.int _|.bool|.str|.sl _|.arr _ _|.ref|.pt _|.lk _ _|.pn _=>rfl
theorem ZfO(z:Bool)(c:List (Nat×AV)):∀(t:Ty) (k n:Nat),(DZ z c t k).toL[n]? =(t.parts[n]?).map fun d=>(c.lookup (k+n)).getD (Hh z d)
 |.prod a b,k,n=>by
  cases n with
  |zero=>rfl
  |succ n=>
   simp only[DZ,Zq.toL,Ty.parts,Vya]
   rw[ZfO z c b (k+1) n,show k+1+n=k+(n+1) by omega]
 |.unit,_,_|.int _,_,_|.bool,_,_|.str,_,_|.sl _,_,_|.arr _ _,_,_|.ref,_,_|.pt _,_,_|.lk _ _,_,_|.pn _,_,_=>rfl
theorem ZjR:∀{l:Zq}{t:Ty},l.fits t=true->∀{n:Nat}{v:AV},l.toL[n]? =some v->∃d,t.parts[n]? =some d/\v.fits d=true
 |.nil,t,_,n,v,h=>by simp [Zq.toL]at h
 |.cons x l,t,c,n,v,h=>by
  cases t with
  |prod a b=>
   simp only[Zq.fits,Ve]at c
   cases n with
   |zero=>simp only[Zq.toL,List.getElem?_cons_zero,Option.some.injEq]at h;subst h;exact⟨a,rfl,c.1⟩
   |succ n=>simp only[Zq.toL,Vya]at h;exact ZjR c.2 h
  |_=>simp [Zq.fits]at c
theorem ZkQ{α β:Type}{f:α->Option β}{g:α->β} :∀{l:List α},(∀x∈l,f x=some (g x))->l.mapM f=some (l.map g)
 |[],_=>rfl
 |x::l,h=>by rw[List.mapM_cons,h x (by simp),ZkQ fun y b=>h y (by simp [b])];rfl
theorem Zui{T:TypeId}{n k:Ty}(x:Z9 P E)(h:E.ty T=some (.prod n k)):∃e c,P.underlying T=some (.struct e)/\k.chain=true/\
 e.toList.mapM (fun f=>(P.info? f.type).map fun i=>(f.offset,i.size))=some c/\ ∀i u,(Ty.prod n k).parts[i]? =some u->c[i]? =some ((((Ty.prod n k).parts.take i).map Ty.size).sum,u.size):=by
 have q:=(x.ty T _ h).shape
 cases A:P.underlying T with
 |none=>rw[A]at q;simp [Kb]at q
 |some d=>
  rw[A]at q
  cases d with
  |struct e=>
   simp only[Kb,Ve,Vub,Vcc]at q;obtain⟨⟨j,m⟩,s⟩:=q;have b:(Ty.prod n k).chain=true:=s
   have y:(Ty.prod n k).parts.length<=e.size:=by
    rw[Zlf _ _ b]at m
    grind
   refine⟨e,e.toList.map fun f=>(f.offset,((E.ty f.type).map Ty.size).getD 0),rfl,s,ZkQ fun f C=>?_,?_⟩
   ·obtain⟨i,t,rfl⟩:=Vsa C;have l:i<e.size:=by omega
    have p:=j i l;rw[Vea l]at p
    cases D:Z0 (.prod n k) [i] with
    |none=>grind
    |some r=>
     rw[D]at p;simp only[Ve,Ks]at p;obtain⟨K,z,l,G,_⟩:=(x.ty _ _ p.1.2).info
     grind
   ·intro i u J;have t:i<e.size:=by grind
    have p:=j i t;rw[Zlf _ _ b,Vea t,J]at p
    grind
  |_=>simp [Kb]at q
theorem R9{α β γ:Type}[BEq α](f:β->γ)(k:α):∀l:List (α×β),(l.map fun p=>(p.1,f p.2)).lookup k=(l.lookup k).map f
 |[]=>rfl
 |(i,x)::l=>by
  simp only[Vr,Vrc,R9 f k l]
  grind
theorem Zeh{α β:Type}[BEq α][LawfulBEq α]{k:α}{x:β} :∀{l:List (α×β)},(l.map (·.1)).Nodup->(k,x)∈l->l.lookup k=some x
 |(i,y)::l,b,h=>by
  simp only[Vr,Vzc]at b;rw[Vrc];rcases Vod.1 h with h|h
  ·grind
  ·have:(k==i)=false:=by
    grind
   rw[this];exact Zeh b.2 h
theorem Zeq{n:Nat} :∀{l:List Nat},Gf n l=true->l.Nodup/\ ∀i∈l,i<n
 |[],_=>by simp
 |i::l,h=>by
  simp only[Gf,Ve,Vab]at h;obtain⟨⟨c,e⟩,d⟩:=h;obtain⟨f,k⟩:=Zeq d;refine⟨by grind,?_⟩;intro j b;rcases Vod.1 b with rfl|b
  ·exact Vj c
  grind
theorem Zu1(z:Bool)(t:Ty):(Hh z t).fits t=true:=by
 unfold Hh
 cases b:t.data&& (z|| !t.isSl) with
 |true=>simp [AV.fits]
 |false=>cases t<;>simp [Ze1,AV.fits]
theorem Zu3{d b:Ty}{cs:List Value}(x:Bool)(c:b.chain=true)(h:Gu (.prod d b) cs=true):∃css,cs=css.flatten/\Fa (CV w g) ((Ty.prod d b).parts.map (Hh ((Ty.prod d b).data&& !x))) css:=by
 rw[<-Zno];apply ZcY.1
 cases x with
 |true=>rw[Bool.not_true,Bool.and_false];exact(Ze0 _ _ (Znq c h)).1
 |false=>
 rw[Vlb,Vnd];unfold Gu at h
 cases e:(Ty.prod d b).data with
 |true=>
  rw[e]at h
  exact Zu4 _ _ c e (ZcW _ _ h)
 |false=>
  rw[e]at h;exact(Ze0 _ _ h).1
theorem Znr{z:Bool} :∀{l:List Ty}{css:List (List Value)},Fa (CV w g) (l.map (Hh z)) css->css.map Vna=l.map Ty.size
 |[],[],_=>rfl
 |t::l,c::css,⟨b,d⟩=>by rw[Vr,Vr,CV.length _ t c (Zu1 z t) b,Znr d]
theorem ZqJ{v:AV}{t:Ty}(h:v.fits t=true):∀l,v≠ .tup l:=by rintro l rfl;simp [AV.fits]at h
theorem Zpf{T:TypeId}{f h:Ty}{e:List (Nat×Operand)}(V:Z9 P E)(Y:E.ty T=some (.prod f h))(hF:Fr w g F a.tmps)(hp:Gf (fieldsOf (.prod f h)) (e.map (·.1))=true)
 (x:Bool) (hf:(DZ (Ty.data (.prod f h) && !x) (e.map fun p=>(p.1,ZB F p.2)) (.prod f h) 0).fits (.prod f h)=true):
 ∃cells,P.built T (e.map fun p=>(p.1,a.eval p.2))=some cells/\Z5 w g (DZ (Ty.data (.prod f h) && !x) (e.map fun p=>(p.1,ZB F p.2)) (.prod f h) 0) cells.toList:=by
 obtain⟨fs,r,hu,K,a1,u⟩:=Zui V Y;obtain⟨i,z,hi,_,_,hz,A,_⟩:=(V.ty T _ Y).info;obtain⟨d,W,s⟩:=Zu3 (w:=w) (g:=g) x K A;have j:=Zeq hp;have l:d.map Vna=(Ty.prod f h).parts.map Ty.size:=Znr s;have hn:d.length=(Ty.prod f h).parts.length:=by have:=congrArg Vna l;grind
 have G:∀k y,(k,y)∈e->∃m,(Ty.prod f h).parts[k]? =some m/\(ZB F y).fits m=true/\e.lookup k=some y:=by
  intro k y S;have N:=Zeh j.1 S;have X:=j.2 k (by grind);rw[Zgg]at X;have C:=ZfO (Ty.data (.prod f h) && !x) (e.map fun p=>(p.1,ZB F p.2)) (.prod f h) 0 k;rw[R9,Vs,N,Vu X]at C;obtain⟨m,Z,D⟩:=ZjR hf C
  grind
 have L:∀x m,(ZB F x).fits m=true->CV w g (ZB F x) (a.eval x).cells.toList:=fun x m S=>((hF.eval x).to1 (ZqJ S)).1
 have M:=ZdM (place:=(r.toArray[·]?)) (lens:=(Ty.prod f h).parts.map Ty.size) (by
  simp_all) (e.map fun p=>(p.1,a.eval p.2)) d l (by
  intro p Q;obtain⟨q,hq,rfl⟩:=Vyb.1 Q;obtain⟨m,Z,D,_⟩:=G q.1 q.2 hq;refine⟨m.size,by grind,?_⟩;have:=CV.length _ m _ D (L q.2 m D);omega)
 refine⟨(GO d (e.map fun p=>(p.1,a.eval p.2))).flatten.toArray,?_,?_⟩
 ·unfold Program.built;have a2:z.cells=d.flatten.toArray:=by grind
  grind
 ·apply ZcY.2;refine⟨GO d (e.map fun p=>(p.1,a.eval p.2)),rfl,ZaO ?_ ?_⟩
  ·rw[ZeF]
   have:∀z (t:Ty) e k,(DZ z e t k).toL.length=t.parts.length:=by
    intro z t
    induction t with
    |prod a b _ U=>intro e k;simp [DZ,Zq.toL,Ty.parts,U]
    |_=>intro e k;rfl
   grind
  ·intro n v c R J;rw[ZfO,R9,Vs]at R
   have O:n<d.length:=by
    grind
   rw[ZeE _ _ (by rw[Vzb,hn, <-Zgg];assumption) n O,R9]at J
   cases N:e.lookup n with
   |none=>
    rw[N]at J R;simp only[Vp,Vsc]at J R;obtain⟨c',h1,C⟩:=s.get n v (by grind)
    grind
   |some x=>
    grind
theorem Zdr{t:Ty}{b:List (Nat×AV)} :∀{m k:Nat}{l:List (El t)},RP t b m k=some l->l.length=m/\ ∀j,(h:j<l.length)->(b.lookup (k+j)).getD (.d t (zeroEl t))=.d t l[j]
 |0,k,l,h=>by
  simp only[RP,Option.some.injEq]at h
  grind
 |m+1,k,l,h=>by
  simp only[RP]at h;split at h
  ·rename_i q x n;simp only[Vl]at h;obtain⟨y,e,p,c,h⟩:=h;cases h;obtain⟨rfl,rfl⟩:=KR e;obtain⟨f,i⟩:=Zdr c
   grind
  grind
theorem Zlu{c:List (Nat×Operand)} :∀{b:List (Nat×AV)},Fa (fun p q=>q.1=p.1/\VR w g q.2 (a.eval p.2)) c b->∀k,(c.lookup k=none/\b.lookup k=none)\/ ∃x v,c.lookup k=some x/\b.lookup k=some v/\VR w g v (a.eval x):=by
 induction c with
 |nil=>intro b h k;cases b with|nil=>simp|cons q b=>exact h.elim
 |cons p c i=>
  intro b h k
  cases b with
  |nil=>exact h.elim
  |cons q b=>
   obtain⟨⟨d,e⟩,f⟩:=h
   grind
theorem Zlv(hF:Fr w g F a.tmps):∀b:List (Nat×Operand),Fa (fun p q=>q.1=p.1/\VR w g q.2 (a.eval p.2)) b (b.map fun p=>(p.1,ZB F p.2))
 |[]=>trivial
 |p::b=>⟨⟨rfl,hF.eval p.2⟩,Zlv hF b⟩
theorem Zi3{e:Ty}{s:List (Nat×Operand)}{M:List (Nat×AV)}{n:Nat}{l:List (El e)}{css:List (List Value)}(C:Fa (fun p q=>q.1=p.1/\VR w g q.2 (a.eval p.2)) s M)(T:Gf n (s.map (·.1))=true)
 (Q:RP e M n 0=some l) (j:Fa (Rd w g.I e) (Vf n (zeroEl e)) css):
 ∃f,Vbd (fun i=>some (i*e.size,e.size)) css.flatten.toArray (s.map fun p=>(p.1,a.eval p.2))=some f.flatten.toArray/\Fa (Rd w g.I e) l f:=by
 obtain⟨J,h⟩:=Zdr Q;have b:=Zeq T;have O:css.length=n:=by rw[<-j.length,Vx]
 have m:css.map Vna=Vf n e.size:=by apply List.eq_replicate_iff.2;refine⟨by grind,?_⟩;intro c y;obtain⟨d,R,rfl⟩:=Vyb.1 y;exact Rd.all_length j d R
 have G:∀k x,s.lookup k=some x->(z:k<l.length)->Rd w g.I e l[k] (a.eval x).cells.toList:=by
  intro k x L z;have r:=h k z;rw[Vs]at r;rcases Zlu C k with ⟨u,_⟩|⟨V,U,u,A,D⟩
  ·grind
  rw[L]at u;cases u;rw[A]at r;simp only[Vba]at r;rw[r]at D;have t:Kk w g (.d e l[k]) (a.eval x):=D;simpa only[CV] using t.1
 obtain⟨r,D⟩:=ZdM (place:=fun i=>some (i*e.size,e.size)) (lens:=Vf n e.size) (by
  intro i N;simp only[Vx]at N
  simp [Vfc,Vda (Nat.le_of_lt N)]) (s.map fun p=>(p.1,a.eval p.2)) css m (by
  intro p K;obtain⟨q,C,rfl⟩:=Vyb.1 K;have z:=b.2 q.1 (by grind);refine⟨e.size,by grind,?_⟩;have:=Rd.length _ _ _ (G q.1 q.2 (Zeh b.1 C) (by omega));omega)
 refine⟨_,r,ZaO (by rw[ZeF,J,O]) ?_⟩;intro k x c L y;obtain⟨z,rfl⟩:=Vw.1 L;rw[ZeE _ _ (by rw[Vzb,O];assumption) k (by omega),R9]at y
 cases S:s.lookup k with
 |none=>
  rw[S]at y;simp only[Vp]at y;have t:=h k z;rw[Vs]at t
  have A:M.lookup k=none:=by
   rcases Zlu C k with ⟨_,A⟩|⟨V,U,u,_⟩
   all_goals grind
  rw[A]at t;simp only[Vsc,AV.d.injEq,heq_eq_eq,true_and]at t;obtain⟨W,X,u⟩:=j.get k (zeroEl e) (by grind)
  grind
 |some x=>
  grind
theorem ZoQ{T:TypeId}{n:Nat}{t:Ty}(f:Z9 P E)(h:E.ty T=some (.arr n t)):∃c,P.underlying T=some (.array n c)/\E.ty c=some t:=by
 have b:=(f.ty T _ h).shape
 cases e:P.underlying T with
 |none=>rw[e]at b;simp [Kb]at b
 |some d=>
  rw[e]at b
  cases d<;>simp [Kb]at b
  grind
end ops
end Tr
end
section
namespace Tr
open Go
section
variable {B:Kd}{H:AH}{w:World}{g:Gh}{ow:Nat->Nat->Prop}{F:Nat->AV}{I:Nat->Prop}
theorem KH.of_vec{b:Nat}{cs:Array Value}{e:TypeId}{css:List (List Value)}(h:w.heap[b]? =some (.cells cs e (0,0)))(f:css.flatten<+:cs.toList):KH w b 0 css.flatten:=by
 intro j i;obtain⟨r,k⟩:=f;have d:css.flatten.length<=cs.toList.length:=by grind
 simp only[Vtc,h,Vmb,Vy,if_false,Vs];have c:j<cs.size:=by grind
 rw[Vea c];congr 1;have:cs.toList[j]'(by omega)=css.flatten[j]:=by grind
 grind
theorem ZoT(t:Ty)(cs:List Value)(x:List (El t))(ids l c:List Nat)(h:(Kl (.sl t) (.nils)).run H l=some ((x,ids),c))(b:CV w g (.nils) cs):Rd w I (.sl t) x cs:=by simp only[Kl,Zi,Vc]at h;obtain⟨⟨rfl,rfl⟩,_⟩:=h;simp only[CV]at b;exact⟨none,0,[],b,trivial,by simp,Vg _⟩
theorem ZoX(j:RH B H w g ow)(i:∀b,g.I b->I b)(t:Ty){id:Nat}(cs:List Value)(x:List (El t))(ids l p:List Nat)(h:(Kl (.sl t) (.vw id)).run H l=some ((x,ids),p))(c:CV w g (.vw id) cs)(m:∀b,ZV H ow ids b->I b):Rd w I (.sl t) x cs:=by
 simp only[Kl]at h;rw[Z1]at h;split at h
 ·rename_i n xs d;simp only[ZC,Zi,Vc]at h;obtain⟨y,f,⟨rfl,rfl⟩,_⟩:=h;obtain⟨e,rfl⟩:=KR f;cases e;simp only[CV]at c;rw[c.2.1];exact Zm6 (j.objs id _ d).2 i fun b k=>m b ⟨id,by simp,by grind,k⟩
 ·rename_i n xs u d;simp only[ZC,Zi,Vc]at h;obtain⟨y,f,⟨rfl,rfl⟩,_⟩:=h;obtain⟨e,rfl⟩:=D2 f;subst e;simp only[CV]at c;rw[c.2.1];exact Zme (j.objs id _ d).2 i fun b k=>m b ⟨id,by simp,by grind,k⟩
 ·rename_i n xs d;simp only[ZC,Zi,Vc]at h;obtain⟨y,f,⟨rfl,rfl⟩,_⟩:=h;obtain⟨e,rfl⟩:=KR f;cases e;simp only[CV]at c;rw[c.2.1];exact Rd.mono (fun _ _=>rfl) i _ _ _ (j.objs id _ d).2.2
 ·simp [Zb]at h
theorem ZoU(u:RH B H w g ow)(q:∀b,g.I b->I b)(t:Ty){id ver:Nat}{j:Ty}{k:El j}(cs:List Value)(x:List (El t))(ids l C:List Nat)(h:(Kl (.sl t) (.nw id ver j k)).run H l=some ((x,ids),C))(e:CV w g (.nw id ver j k) cs)(s:∀b,ZV H ow ids b->I b):Rd w I (.sl t) x cs:=by simp only[Kl,Z4,ZC,Zi,Vc]at h;obtain⟨r,m,c,y,A,⟨rfl,rfl⟩,_⟩:=h;obtain⟨n,rfl⟩:=D2 A;obtain⟨D,row⟩:=r;simp only at n;subst n;have f:=e;simp only[CV]at e;obtain⟨_,_,v,rfl,p,_⟩:=e;obtain⟨i,_,_,_,d⟩:=Zaw u (K8 f p rfl) c;exact d.data q fun b z=>s b ⟨id,by simp,i,z⟩
theorem ZoW(J:RH B H w g ow)(D:∀b,g.I b->I b)(t:Ty){id lo n:Nat}(cs:List Value)(x:List (El t))(ids l Q:List Nat)(h:(Kl (.sl t) (.vs id lo n)).run H l=some ((x,ids),Q))(s:CV w g (.vs id lo n) cs)(G:∀b,ZV H ow ids b->I b):Rd w I (.sl t) x cs:=by
 simp only[Kl]at h;rw[Z1]at h;split at h
 ·rename_i V xs C;simp only[ZC,Zi,Vc]at h;obtain⟨y,O,⟨rfl,rfl⟩,_⟩:=h;obtain⟨K,rfl⟩:=KR O;cases K;simp only[CV]at s;obtain⟨_,A⟩:=s;obtain⟨_,q,i⟩:=J.objs id _ C;rw[q]at A;rcases A with ⟨z,rfl,rfl,rfl⟩|⟨b,len,cap,m,z,S,T,U,rfl⟩
  ·exact⟨none,0,[],by simp,by simp;trivial,by simp,by simp⟩
  ·rcases i with ⟨_,_,d⟩|⟨R,r,cells,e,k,_,M,d,L,_,_,f,j⟩
   ·grind
   ·rw[z]at d;simp only[Vi.injEq,Option.some.injEq,Addr.mk.injEq,and_true]at d;obtain⟨rfl,rfl,rfl⟩:=d;have u:((xs.drop lo).take n).length=n:=by grind
    refine⟨some ⟨b,if m=0 then 0 else lo*t.size,none⟩,m,(k.drop lo).take n,?_,((f.drop lo).take n).mono fun x c N=>Rd.mono (fun _ _=>rfl) D t x c N,fun p=>⟨b,lo*t.size,?_,G b ⟨id,by simp,by grind,M⟩,?_⟩,?_⟩
    ·grind
    ·have:0<((xs.drop lo).take n).length:=Vgc.2 p
     grind
    ·have:=KH.part (off:=0) (l:=lo) (n:=n) (Rd.all_length f) (by rw[<-f.length];omega) (KH.of_vec L j)
     grind
    grind
 ·simp [Zb]at h
theorem Zk9{a b:Ty}{y:El (Zac a b)}{p off:Nat}{c:List Value}(l:I p)(k:KH w p off c)(h:Rd w I (Zac a b) y c):Rd w I (.lk a b) ((y.1,y.2.2)::y.2.1) [.pointer (some ⟨p,off,none⟩)]:=by simp only[Rd]at h⊢;obtain⟨d,m,rfl,f,c3,e,rfl,i,j⟩:=h;exact⟨p,off,d,c3,e,rfl,l,k,f,i,j⟩
theorem ZoR(e:∀b,g.I b->I b)(a b:Ty){d:Ty}{y:El d}(cs:List Value)(x:List (El a×El b))(ids l n:List Nat)(h:(Kl (.lk a b) (.dp d y)).run H l=some ((x,ids),n))(f:CV w g (.dp d y) cs):Rd w I (.lk a b) x cs:=by simp only[Kl,ZC,Zi,Vc]at h;obtain⟨z,m,⟨rfl,rfl⟩,_⟩:=h;obtain⟨rfl,rfl⟩:=KR m;simp only[CV]at f;obtain⟨p,off,c,rfl,i,j,k⟩:=f;exact Zk9 (e _ i) j (Rd.mono (fun _ _=>rfl) e _ _ _ k)
theorem Zm5(s:RH B H w g ow)(q:∀b,g.I b->I b){id:Nat}{x f:Ty}{y:El f}{cs:List Value}(k:H id=some (.var x (.d f y)))(l:CV w g (.ptr id []) cs)(r:∀b,ZV H ow [id] b->I b):∃b cells e,cs=[.pointer (some ⟨b,0,none⟩)]/\I b/\w.heap[b]? =some (.cells cells e (0,0))/\Rd w I f y cells.toList:=by simp only[CV]at l;obtain⟨_,o,t,b,h,m,rfl⟩:=l;obtain⟨_,u,C,z,c,e,i,n,p,A,j⟩:=s.objs id _ k;rw[WE,Option.some.injEq,Vc]at h;obtain⟨rfl,_⟩:=h;rw[m]at i;cases i;simp only[CV]at j;exact⟨b,c,e,rfl,r b ⟨id,by simp,by rw[k];simp,n⟩,p,Rd.mono (fun _ _=>rfl) q _ _ _ j⟩
theorem ZoV(f:RH B H w g ow)(d:∀b,g.I b->I b)(t:Ty){id:Nat}(cs:List Value)(x:Option (El t))(ids l k:List Nat)(h:(Kl (.pt t) (.ptr id [])).run H l=some ((x,ids),k))(i:CV w g (.ptr id []) cs)(e:∀b,ZV H ow ids b->I b):Rd w I (.pt t) x cs:=by
 simp only[Kl,Vuc,Zc]at h;rw[Z1]at h;split at h
 ·rename_i n m y c;simp only[ZC,Zi,Vc]at h;obtain⟨z,j,⟨rfl,rfl⟩,_⟩:=h;obtain⟨rfl,rfl⟩:=KR j;exact Zm5 f d c i e
 ·simp [Zb]at h
theorem ZoS(n:RH B H w g ow)(k:∀b,g.I b->I b)(a b:Ty){id:Nat}(cs:List Value)(x:List (El a×El b))(ids l s:List Nat)(h:(Kl (.lk a b) (.ptr id [])).run H l=some ((x,ids),s))(q:CV w g (.ptr id []) cs)(m:∀b,ZV H ow ids b->I b):Rd w I (.lk a b) x cs:=by
 simp only[Kl,Vuc,Zc]at h;rw[Z1]at h;split at h
 ·rename_i u t y j;simp only[ZC,Zi,Vc]at h;obtain⟨z,r,⟨rfl,rfl⟩,_⟩:=h;obtain⟨rfl,rfl⟩:=KR r;obtain⟨p,c,e,rfl,d,f,i⟩:=Zm5 n k j q m;refine Zk9 d ?_ i;have:=KH.of_vec (w:=w) (b:=p) (css:=[c.toList]) f (by simp);simpa using this
 ·simp [Zb]at h
mutual
theorem ZbQ(j:RH B H w g ow)(i:∀b,g.I b->I b):∀(t:Ty) (v:AV) (cs:List Value) (x:El t) (ids l e:List Nat),(Kl t v).run H l=some ((x,ids),e)->CV w g v cs->(∀b,ZV H ow ids b->I b)->Rd w I t x cs
 |t,.d M y,cs,x,ids,l,e,h,c,_=>by
  simp only[Kl,ZC,Zi,Vc]at h;obtain⟨z,J,⟨rfl,rfl⟩,_⟩:=h;obtain⟨rfl,rfl⟩:=KR J
  exact Rd.mono (fun _ _=>rfl) i _ _ cs (by simpa only[CV] using c)
 |t,.nils,cs,x,ids,l,e,h,c,f=>by
  cases t with
  |sl t=>exact ZoT t cs x ids l e h c
  |_=>simp [Kl,Zb]at h
 |t,.vw id,cs,x,ids,l,e,h,c,f=>by
  cases t with
  |sl t=>exact ZoX j i t cs x ids l e h c f
  |_=>simp [Kl,Zb]at h
 |t,.vs id lo n,cs,x,ids,l,e,h,c,f=>by
  cases t with
  |sl t=>exact ZoW j i t cs x ids l e h c f
  |_=>simp [Kl,Zb]at h
 |t,.nw id ver Q k,cs,x,ids,l,e,h,c,f=>by
  cases t with
  |sl t=>exact ZoU j i t cs x ids l e h c f
  |_=>simp [Kl,Zb]at h
 |t,.np _ _ _ _ _ _,_,_,_,_,_,h,_,_=>by simp [Kl,Zb]at h
 |t,.agg vs,cs,x,ids,l,e,h,c,f=>by
  simp only[Kl]at h;simp only[CV]at c
  exact ZiK j i t vs cs x ids l e h c f
 |t,.junk,_,_,_,_,_,h,_,_=>by simp [Kl,Zb]at h
 |t,.tup _,_,_,_,_,_,h,_,_=>by simp [Kl,Zb]at h
 |t,.dp M y,cs,x,ids,l,e,h,c,f=>by
  cases t with
  |lk a b=>exact ZoR i a b cs x ids l e h c
  |_=>simp [Kl,Zb]at h
 |t,.ptr id [],cs,x,ids,l,e,h,c,f=>by
  cases t with
  |pt t=>exact ZoV j i t cs x ids l e h c f
  |lk a b=>exact ZoS j i a b cs x ids l e h c f
  |_=>simp [Kl,Zb]at h
 |t,.ptr id (_::_),cs,x,ids,l,e,h,c,f=>by
  cases t<;>simp [Kl,Zb]at h
 |t,.vp _ _ _,_,_,_,_,_,h,_,_=>by simp [Kl,Zb]at h
 |t,.mp _,_,_,_,_,_,h,_,_=>by simp [Kl,Zb]at h
 |t,.fn _ _,_,_,_,_,_,h,_,_=>by simp [Kl,Zb]at h
 |t,.nilr p,cs,x,ids,l,e,h,c,_=>by
  cases p with
  |true=>
   have c:=Zk7 c
   cases t with
   |pt t=>
    simp only[Kl,Zc,Zi,Vc]at h;obtain⟨⟨rfl,_⟩,_⟩:=h
    exact c
   |lk a b=>
    simp only[Kl,Zc,Zi,Vc]at h;obtain⟨⟨rfl,_⟩,_⟩:=h
    exact c
   |pn t=>
    simp only[Kl,Zc,Zi,Vc]at h;obtain⟨⟨rfl,_⟩,_⟩:=h
    exact c
   |_=>simp [Kl,Zb]at h
  |false=>cases t<;>simp [Kl,Zb]at h
 |t,.jk _,_,_,_,_,_,h,_,_=>by simp [Kl,Zb]at h
theorem ZiK(j:RH B H w g ow)(i:∀b,g.I b->I b):∀(t:Ty) (v:Zq) (cs:List Value) (x:El t) (ids l e:List Nat),(XV t v).run H l=some ((x,ids),e)->Z5 w g v cs->(∀b,ZV H ow ids b->I b)->Rd w I t x cs
 |.unit,.nil,cs,x,ids,l,e,h,c,_=>by simpa [Z5,Rd] using c
 |.prod a b,.cons v vs,cs,x,ids,l,e,h,c,f=>by
  simp only[XV,Z4,Zi,Vc]at h;obtain⟨⟨N,K⟩,R,A,⟨O,L⟩,m2,C,⟨rfl,rfl⟩,_⟩:=h;simp only[Z5]at c;obtain⟨s,u,rfl,D,G⟩:=c;simp only[Rd]
  exact⟨s,u,rfl,ZbQ j i a v s N K _ _ A D fun b m=>f b (let ⟨id,q,r⟩:=m;⟨id,by simp [q],r⟩),ZiK j i b vs u O L _ _ C G fun b m=>f b (let ⟨id,q,r⟩:=m;⟨id,by simp [q],r⟩)⟩
 |.unit,.cons _ _,_,_,_,_,_,h,_,_=>by simp [XV,Zb]at h
 |.prod _ _,.nil,_,_,_,_,_,h,_,_=>by simp [XV,Zb]at h
 |.int _,_,_,_,_,_,_,h,_,_=>by simp [XV,Zb]at h
 |.bool,_,_,_,_,_,_,h,_,_=>by simp [XV,Zb]at h
 |.str,_,_,_,_,_,_,h,_,_=>by simp [XV,Zb]at h
 |.sl _,_,_,_,_,_,_,h,_,_=>by simp [XV,Zb]at h
 |.arr _ _,_,_,_,_,_,_,h,_,_=>by simp [XV,Zb]at h
 |.ref,_,_,_,_,_,_,h,_,_=>by simp [XV,Zb]at h
 |.pt _,_,_,_,_,_,_,h,_,_=>by simp [XV,Zb]at h
 |.lk _ _,_,_,_,_,_,_,h,_,_=>by simp [XV,Zb]at h
 |.pn _,_,_,_,_,_,_,h,_,_=>by simp [XV,Zb]at h
end
theorem Zqy{t:Ty}{x:El t}{u:Ty}(h:(Ya t x).fits t=true)(_:u=t):t.agg=true:=by
 cases t<;>simp [Ya,Zq.fits]at h<;>rfl
theorem ZfB{t:Ty}{v:AV}{r:El t×List Nat}{l c:List Nat}(h:(Kl t v).run H l=some (r,c)):v≠ .junk/\v.isAgg=t.agg:=by
 cases v with
 |d e x=>
  simp only[Kl,ZC,Zi]at h;obtain⟨z,b,_⟩:=h;obtain⟨rfl,_⟩:=KR b
  exact⟨by simp,rfl⟩
 |agg vs=>
  simp only[Kl]at h
  cases t<;>cases vs<;>simp [XV,Zb]at h<;>exact⟨by simp,rfl⟩
 |ptr id p=>cases p<;>cases t<;>simp [Kl,Zb]at h<;>exact⟨by simp,rfl⟩
 |nilr p=>cases p<;>cases t<;>simp [Kl,Zb]at h<;>exact⟨by simp,rfl⟩
 |_=>cases t<;>simp [Kl,Zb]at h<;>exact⟨by simp,rfl⟩
theorem Zlt{i j:List Nat}(h:∀id∈i,id∈j){b:Nat}(e:ZV H ow i b):ZV H ow j b:=
 let ⟨id,c,d⟩:=e;⟨id,h id c,d⟩
theorem RH.freezeIds{ids:List Nat}(d:RH B H w g ow):RH B (Zr H (ids.map fun id=>(id,none))) w (g.grow (ZV H ow ids)) ow:=by
 refine(d.drops ids).grow fun b i=>?_;obtain⟨k,h,e,f⟩:=i;obtain⟨p,q,r⟩:=d.sep k b e f;refine⟨q,.inr r,fun id c l=>?_⟩;rw[Dg]at c;split at c
 ·grind
 ·rename_i j;exact j (d.dist id k b c e l f▸h)
theorem ZbY{B C:Kd}{j:AH}{w0:World}{g0:Gh}{e:Nat->Nat->Prop}(n:RH C j w0 g0 e){w:World}{g:Gh}(c:g0.Le g)(i:∀b,g0.I b->w.heap[b]? =w0.heap[b]?):∀(br:List Nat) (ds:KB) (l z:List Nat),(Dd br).run j l=some (ds,z)->(∀id∈br,∀b,j id≠none->e id b->g.I b/\w.heap[b]? =w0.heap[b]?)->
 ∀{H:AH}{ow:Nat->Nat->Prop},RH B H w g ow->∃A,RH B (Zr H ds) w g A
 |[],ds,l,z,h,_,H,ow,d=>by
  simp only[Dd,Zi]at h;obtain⟨rfl,_⟩:=h
  exact⟨ow,d⟩
 |id::br,ds,l,z,h,D,H,ow,d=>by
  simp only[Dd]at h;rw[Z1]at h;split at h
  ·rename_i t xs s;simp only[Z4,Zi]at h;obtain⟨p,m,r,rfl,_⟩:=h;obtain⟨f,k⟩:=n.objs id _ s;have x:j id≠none:=by grind
   have y:Rd w g.I (.sl t) xs [g.slv id]:=by rw[c.slv _ f];exact Rd.mono (I:=fun b=>g0.I b\/e id b) (fun b q=>by grind) (fun b q=>q.elim (c.I b) (by grind)) _ _ _ (Zm6 k (by grind) (by grind))
   exact ZbY n c i br p _ _ r (by grind) (d.putDat (c.K _ f) ((c.ty _ f).trans k.1) y)
  ·rename_i t xs u s;simp only[Z4,Zi]at h;obtain⟨p,m,r,rfl,_⟩:=h;obtain⟨f,k⟩:=n.objs id _ s;have x:j id≠none:=by grind
   have y:Rd w g.I (.sl (.sl t)) xs [g.slv id]:=by rw[c.slv _ f];exact Rd.mono (I:=fun b=>g0.I b\/e id b) (fun b q=>by grind) (fun b q=>q.elim (c.I b) (by grind)) _ _ _ (Zme k (by grind) (by grind))
   exact ZbY n c i br p _ _ r (by grind) (d.putDat (c.K _ f) ((c.ty _ f).trans k.1) y)
  ·exact ZbY n c i br ds _ _ h (by grind) d
theorem Zx.dats{B:Kd}{H1:AH}{nid:Nat}{v:AV}{r:Result Next}{ids:List Nat}{ds:KB}{l x:List Nat}(u:RH B H w g ow)(j:(Dd ids).run H l=some (ds,x))(h:Zx B H1 w (g.grow (ZV H ow ids)) nid v r):Zx B (Zr H1 ds) w (g.grow (ZV H ow ids)) nid v r:=by obtain⟨val,z,m,y,n,p,f,i,q,s⟩:=h;obtain⟨k,t⟩:=ZbY u ((g.le_grow _).trans f) (fun b e=>i b (.inl e)) ids ds _ _ j (fun id c b d e=>⟨f.I b (.inr ⟨id,c,d,e⟩),i b (.inr ⟨id,c,d,e⟩)⟩) p;exact⟨val,z,m,k,n,t,f,i,q,s⟩
theorem ZjW{a:Act}{e:Ty}(s:RH B H w g ow)(hF:Fr w g F a.tmps){J:Nat->Prop} :∀(d:List (Nat×Operand)) (f:List (Nat×AV)) (ids l k:List Nat),(Zcb e (d.map fun p=>(p.1,ZB F p.2))).run H l=some ((f,ids),k)->
 (∀b,ZV H ow ids b->J b)->Fa (fun p q=>q.1=p.1/\VR w (g.grow J) q.2 (a.eval p.2)) d f
 |[],f,ids,l,k,h,_=>by
  simp only[Vpd,Zcb,Zi,Vc]at h;obtain⟨⟨rfl,_⟩,_⟩:=h
  trivial
 |p::d,f,ids,l,k,h,n=>by
  simp only[Vr,Zcb,Z4,Zi,Vc]at h;obtain⟨⟨x,C⟩,G,c,⟨r,D⟩,K,u,⟨rfl,rfl⟩,_⟩:=h;refine⟨⟨rfl,?_⟩,ZjW s hF d r D _ _ u fun b i=>n b (Zlt (by grind) i)⟩;obtain⟨z,y⟩:=ZfB c
  have j:∀m,ZB F p.2≠ .tup m:=by
   intro m A;rw[A]at c
   cases e<;>simp [Kl,Zb]at c
  have t:=(hF.eval p.2).to1 j;refine .of1 ⟨?_,.inr ?_⟩
  ·simp only[CV];exact ZbQ (I:=(g.grow J).I) s (fun _ h=>.inl h) e _ _ x C _ _ c t.1 fun b i=>.inr (n b <| Zlt (by grind) i)
  ·rw[t.2.resolve_left z,y];rfl
end
section ops
variable {P:Program}{E:Km}{B:Kd}{H:AH}{w:World}{g:Gh}{ow:Nat->Nat->Prop}{nid:Nat}{a:Act}{F:Nat->AV}{v:AV}{patch:KB}{rd:List Nat}{o:Oper}
theorem Zol{T:TypeId}{u:Array (Nat×Operand)}(q:Z9 P E)(G:RH B H w g ow)(hF:Fr w g F a.tmps)(M:o.op=.build T u)
 (h:(ZQ E nid o.op o.type (ZB F)).run H []=some ((v,patch),rd)):Zx B (Zr H patch) w g nid v ((execOp a.eval o).run P w):=by
 rw[M]at h;simp only[ZQ,ZC]at h;obtain⟨t,N,h⟩:=h;have s:(u.map fun(i,x)=>(i,a.eval x)).toList=u.toList.map fun p=>(p.1,a.eval p.2):=by simp
 have fin:∀{cells:Array Value},P.built T (u.toList.map fun p=>(p.1,a.eval p.2))=some cells->patch=[]->CV w g v cells.toList->v.isAgg=true->Zx B (Zr H patch) w g nid v ((execOp a.eval o).run P w):=by intro cells r j hv J;subst j;refine Zx.pure G (val:=.agg cells) ?_ (VR.of1 ⟨by assumption,.inr (by rw[J];rfl)⟩);simp only[execOp,M,Vb];rw[run_build w T _ cells (by grind)];rfl
 split at h
 ·rename_i S U;simp only[ZL,Zi,Zb,ZR,false_or,Z3,Vh,Vc]at h;obtain⟨j,X,h⟩:=h;obtain⟨cells,V,C⟩:=Zpf q N hF j (E.zx T) X;obtain⟨W,h4⟩:=ZrU C;rcases h with ⟨_,h⟩|⟨_,⟨rfl,rfl⟩,_⟩
  ·simp only[Z4,Zi,Vc]at h;obtain⟨⟨y,ids⟩,m,K,⟨rfl,rfl⟩,_⟩:=h;have f:=g.le_grow (ZV H ow ids);have Z:Rd w (g.grow (ZV H ow ids)).I (.prod S U) y cells.toList:=ZbQ G (fun b r=>f.I b r) _ _ _ _ _ _ _ K W (fun b r=>.inr r);refine Zx.after_le f (fun _ h=>h) (Zx.pure (val:=.agg cells) G.freezeIds ?_ (VR.of1 ⟨by assumption,.inr rfl⟩));simp only[execOp,M,Vb];rw[run_build w T _ cells (by grind)];rfl
  grind
 ·rename_i n e;simp only[ZL,ZC,Zi,Zb,ZR,false_or,Vaa,Vh,Vc]at h;obtain⟨⟨j,K⟩,l,Q,⟨rfl,rfl⟩,_⟩:=h;obtain⟨R,hu,D⟩:=ZoQ q N;obtain⟨i,z,hi,_,_,hz,c,_⟩:=(q.ty T _ N).info;obtain⟨ie,ze,Y,a1,_⟩:=(q.ty R _ D).info
  have k:Rd w g.I (.arr n e) (zeroEl (.arr n e)) z.cells.toList:=by unfold Gu at c;rw[show (Ty.arr n e).data=true from K]at c;exact ZcW _ _ c
  simp only[Rd]at k;obtain⟨_,A,O,L⟩:=k;obtain⟨d,V,C⟩:=Zi3 (Zlv hF _) j Q L;refine fin (cells:=d.flatten.toArray) ?_ rfl ?_ rfl
  ·unfold Program.built;have a2:z.cells=A.flatten.toArray:=by grind
   grind
  ·simp only[CV,Rd];exact⟨(Zdr Q).1,d,rfl,C⟩
 ·simp [Zb]at h
end ops
end Tr
end
section
namespace Tr
open Go
theorem Zbv(z:Array Value):∀n:Nat,((Vva (n*z.size)).map (z[· % z.size]!)).toList=(Vf n z.toList).flatten
 |0=>by simp
 |n+1=>by
  have b:=Zbv z n;simp only[Vwb,Array.toList_range]at b⊢;rw[Vka,Nat.one_mul,List.range_add,Vyc,b,List.replicate_succ',Vv,Vzb];congr 1;simp only[Vza,List.flatten_nil,List.append_nil];apply List.ext_getElem
  ·simp
  ·intro i d e;have c:i<z.size:=by omega
   simp only[List.getElem_map,List.getElem_range,Function.comp];rw[Nat.mul_comm,Nat.mul_add_mod,Nat.mod_eq_of_lt c]
   grind
section ops
variable {P:Program}{E:Km}{B:Kd}{H:AH}{w:World}{g:Gh}{ow:Nat->Nat->Prop}{nid:Nat}{a:Act}{F:Nat->AV}{v:AV}{patch:KB}{rd:List Nat}{o:Oper}
theorem Zee(A:RH B H w g ow)(j:¬g.K nid){t:Ty}{T:TypeId}{xs:List (El t)}{css:List (List Value)}{cap:Nat}{cells:Array Value}(k:Fa (Rd w g.I t) xs css)
 (D:css.flatten<+:cells.toList) (i:xs.length<=cap) (l:cap*t.size<=cells.size) {r:Result Next}{w1:World} (e:Jr w w1)
 (G:r=.ok (.value (.slice (some ⟨w.heap.size,0,none⟩) xs.length cap)) (w1.alloc (.cells cells T))):Zx B (Kc H nid (some (.vec t xs))) w g nid (.vw nid) r:=by
 have h:=A.same e;have f:w1.heap.size=w.heap.size:=by rw[e.heap]
 have key:Zx B (Kc H nid (some (.vec t xs))) w1 g nid (.vw nid) r:=by
  refine Zx.new' (t:=t) (sv:=.slice (some ⟨w1.heap.size,0,none⟩) xs.length cap) h j (f▸G) ?_ ?_
  ·refine⟨by simp [Gh.add],.inr ⟨w1.heap.size,cap,cells,T,css,by simp [Gh.add],rfl,by simp [Gh.add],G3 _ _,i,l,?_,D⟩⟩;refine k.mono fun x c J=>?_;have:=Ziu (x:=.d t x) (cs:=c) h j (t:=t) (sv:=.slice (some ⟨w1.heap.size,0,none⟩) xs.length cap) (b:=some w1.heap.size) (ob:=.cells cells T) (by simp only[CV];exact Rd.mono (e.agree _) (by simp) t x c J)
   assumption
  ·refine K8 ?_ rfl rfl;simp only[CV];exact⟨.inl rfl,by simp [Gh.add],by simp [Gh.add,Voa]⟩
 obtain⟨val,L,n,m,p,q,s,u,y,z⟩:=key;exact⟨val,L,n,m,p,q,s,fun b C=>(u b C).trans (by rw[e.heap]),y,z⟩
theorem Ze2{f:TypeId}{e:Ty}(k:Z9 P E)(h:E.ty f=some e)(l:e.data=true):∃c z,P.info? f=some c/\c.size=e.size/\c.zero=some z/\z.cells.size=e.size/\c.bytes<=4096/\
 ∀n,Fa (Rd w g.I e) (Vf n (zeroEl e)) (Vf n z.cells.toList):=by
 obtain⟨c,z,m,j,i,p,b,_⟩:=(k.ty f _ h).info
 have d:Rd w g.I e (zeroEl e) z.cells.toList:=by unfold Gu at b;rw[l]at b;exact ZcW _ _ b
 refine⟨c,z,m,j,p,?_,i,?_⟩
 ·have:=Rd.length _ _ _ d;omega
 ·intro n
  induction n with
  |zero=>trivial
  |succ n q=>exact⟨d,q⟩
theorem ZdE(f:RH B H w g ow){ids:List Nat}{b:Nat}(i:ZV H ow ids b):¬g.I b/\b<w.heap.size/\(B.own0 b\/B.w0.heap.size<=b)/\ ∀id,Zr H (ids.map fun id=>(id,none)) id≠none->¬ow id b:=by
 obtain⟨k,h,d,e⟩:=i;obtain⟨p,q,r⟩:=f.sep k b d e;refine⟨p,q,r,fun id c l=>?_⟩;rw[Dg]at c;split at c
 ·grind
 ·rename_i j;exact j (f.dist id k b c d l e▸h)
theorem Zcu{w' :World}{J:Nat->Prop}{t:Ty}{xs:List (List (El t))}{val:Value}{r:Result Next}(i:RH B H w g ow)(j:¬g.K nid)(c:∀k,k<w.heap.size->w'.heap[k]? =w.heap[k]?)(n:w.heap.size<=w'.heap.size)(m:w'.os=w.os)(f:w'.tape=w.tape)(l:X2 w' w)
 (C:r=.ok (.value val) w') (d:XE w' g.I (fun b=>J b\/(w.heap.size<=b/\b<w'.heap.size)) t xs val) (L:∀b,J b->¬g.I b/\b<w.heap.size/\(B.own0 b\/B.w0.heap.size<=b)/\ ∀id,H id≠none->¬ow id b):Zx B (Kc H nid (some (.rows t xs 0 none))) w g nid (.vw nid) r:=by
 obtain⟨b,D,A⟩:=d.obj nid
 have e:val.oneCell' =true/\Ka val=false:=by
  obtain⟨M,_,h⟩:=d
  rcases h with ⟨_,rfl⟩|⟨_,_,_,_,_,_,rfl,_⟩<;>exact⟨rfl,rfl⟩
 refine⟨val,w',g.add nid (.sl t) b val D,Xm ow nid (fun b=>J b\/(w.heap.size<=b/\b<w'.heap.size)),.inl C,?_,Gh.le_add j _ _ _ _,fun b z=>c b (i.ilt b z),?_,?_⟩
 ·refine i.add j c n m f l (fun k q=>?_) A;rcases q with q|⟨G,s⟩
  ·grind
  ·refine⟨fun y=>absurd (i.ilt _ y) (by omega),s,.inr (by have:=i.size;omega),fun p u x=>?_⟩;have:=(i.sep p _ u x).2.1;omega
 ·refine K8 ?_ e.1 rfl;simp only[CV];exact⟨.inl rfl,by simp [Gh.add],by simp [Gh.add,e.1]⟩
 ·intro id h;rcases h with rfl|h
  ·exact .inr ⟨Vg _,by unfold Ws;omega⟩
  grind
theorem Zi2(q:RH B H w g ow)(hF:Fr w g F a.tmps){t:Ty}{d:List (Nat×Operand)} :∀(m n:Nat) (i:List (List (El t))) (ids l r:List Nat),(ZbU t (d.map fun p=>(p.1,ZB F p.2)) m n).run H l=some ((i,ids),r)->ids.Nodup->
 ∃f:List Value,f.length=m/\(∀j,j<m->f[j]? =some (match d.lookup (n+j) with|some x=>a.eval x|none=>.slice none 0 0))/\RL w g.I (ZV H ow ids) t f i
 |0,n,i,ids,l,r,h,_=>by
  simp only[ZbU,Zi,Vc]at h;obtain⟨⟨rfl,rfl⟩,_⟩:=h
  exact⟨[],rfl,by omega,RL.nil⟩
 |m+1,n,i,ids,l,r,h,L=>by
  simp only[ZbU,Z4,Zi,Vc]at h;obtain⟨⟨y,W⟩,X,z,⟨s,O⟩,Y,G,⟨rfl,rfl⟩,_⟩:=h;obtain⟨Z,R,n3⟩:=Vkc.1 L;obtain⟨f,T,U,J⟩:=Zi2 q hF m (n+1) s O _ _ G R;rw[R9]at z
  have N:VR w g (((d.lookup n).map (ZB F)).getD .nils) (match d.lookup n with|some x=>a.eval x|none=>.slice none 0 0):=by
   cases d.lookup n with
   |none=>exact K8 (by rfl) rfl rfl
   |some x=>exact hF.eval x
  have M:=Zcx q N z
  refine⟨(match d.lookup n with|some x=>a.eval x|none=>.slice none 0 0)::f,by grind,fun j V=>?_,?_⟩
  ·grind
  ·have:=(RL.single M).append J (fun c ⟨k,u,e,A⟩ ⟨Q,S,C,D⟩=>by
    have:=q.dist k Q c e C A D
    grind)
   exact this.mono (fun _ _=>rfl) (by simp) (fun b K=>by
    rcases K with ⟨k,u,e⟩|⟨k,u,e⟩
    ·exact⟨k,by grind,e⟩
    ·exact⟨k,by grind,e⟩) (by simp)
theorem Zom{T:TypeId}{n:Nat}{M:Array (Nat×Operand)}(N:Z9 P E)(u:RH B H w g ow)(hF:Fr w g F a.tmps)(L:∀id,g.K id->id<nid\/nid+Ws<=id)(ho:o.op=.buildSlice T n M)
 (h:(ZQ E nid o.op o.type (ZB F)).run H []=some ((v,patch),rd)):Zx B (Zr H patch) w g nid v ((execOp a.eval o).run P w):=by
 rw[ho]at h;simp only[ZQ,ZC]at h;obtain⟨t,ht,h⟩:=h;split at h
 ·rename_i e;rw[ZL]at h;rcases h with ⟨_,h⟩|⟨_,h⟩
  ·split at h
   ·rename_i X;simp only[ZL,Z4,ZC,Zi,Zb,ZR,false_or,Vaa,Vh,Vc]at h;obtain⟨⟨hp,a0⟩,⟨ys,ids⟩,m1,a3,_,a8,⟨rfl,rfl⟩,_⟩:=h;obtain⟨Q,hu,r⟩:=Jz N ht;have s:=Ze3 (N.ty Q _ r) w;obtain⟨C,S,O,m⟩:=Zi2 u hF n 0 ys ids [] m1 a3 (Zeg.1 (Ht a8))
    have f:¬n* (Ty.sl X).size>2 ^ 24:=by
     intro R;have:Nat.blt (2 ^ 24) n=true:=by simpa [Nat.blt_eq,Ty.size] using R
     grind
    have D:=Zeq hp;have U:(Vf n [Vi none 0 0]).map Vna=Vf n 1:=by simp
    obtain⟨Y,h2⟩:=ZdM (place:=fun i=>some (i* (Ty.sl X).size,(Ty.sl X).size)) (lens:=Vf n 1) (by
     intro i hi;simp only[Vx]at hi
     simp [Vfc,Vda (Nat.le_of_lt hi),Ty.size]) (M.toList.map fun p=>(p.1,a.eval p.2)) (Vf n [Vi none 0 0]) U (by
     intro p a9;obtain⟨q,hq,rfl⟩:=Vyb.1 a9;have L:=D.2 q.1 (by grind);refine⟨1,by grind,?_⟩;have h3:=O q.1 L;rw[Vs,Zeh D.1 hq]at h3;obtain⟨x,hx⟩:∃x,ys[q.1]? =some x:=⟨_,Vu (by rw[<-m.1,S];exact L)⟩;have A:=(m.row hx).one;have h5:C.getD q.1 undef=a.eval q.2:=by grind
     rw[h5]at A
     cases hv:a.eval q.2<;>rw[hv]at A<;>simp [Ka]at A<;>rfl)
    have a4:(GO (Vf n [Vi none 0 0]) (M.toList.map fun p=>(p.1,a.eval p.2))).flatten=C:=by
     have:GO (Vf n [Vi none 0 0]) (M.toList.map fun p=>(p.1,a.eval p.2))=C.map fun v=>[v]:=by
      apply Vla;intro j;by_cases hj:j<n
      ·rw[ZeE _ _ (by rw[Vzb,Vx];assumption) j (by grind),R9,List.getElem?_map,O j hj,Vs]
       cases hl:M.toList.lookup j with
       |none=>grind
       |some x=>
        simp only[Vm];obtain⟨y,hy⟩:∃y,ys[j]? =some y:=⟨_,Vu (by rw[<-m.1,S];exact hj)⟩;have A:=(m.row hy).one;have h5:C.getD j undef=a.eval x:=by grind
        rw[h5]at A;congr 1
        cases hv:a.eval x<;>rw[hv]at A<;>simp [Ka]at A<;>rfl
      ·rw[Vbc (by rw[ZeF];grind),Vbc (by grind)]
     rw[this];generalize C=l
     induction l with
     |nil=>rfl
     |cons x l ih=>grind
    have d:(M.map fun(i,x)=>(i,a.eval x)).toList=M.toList.map fun p=>(p.1,a.eval p.2):=by simp
    have h0:=Zbv #[Vi none 0 0] n
    have a2:(execOp a.eval o).run P w=.ok (.value (.slice (some ⟨w.heap.size,0,none⟩) n n)) (w.alloc (.cells C.toArray Q)):=by
     rw[a4]at Y;by_cases V:n* (Ty.sl X).size=0
     ·have c:(Vva (n* (Ty.sl X).size)).map ((#[]:Array Value)[· % (#[]:Array Value).size]!)=(Vf n [Vi none 0 0]).flatten.toArray:=by
       rw[V];have:n=0:=by simpa [Ty.size] using V
       grind
      simp only[execOp,ho,Vgb,underlying,Vb,run_program,Va,hu,Vd,(N.ty _ _ r).run_sizeOf,Zf f,Zp V,c,d,Y,newRow,run_newObj];rfl
     ·have c:(Vva (n* (Ty.sl X).size)).map ((#[Vi none 0 0]:Array Value)[· % (#[Vi none 0 0]:Array Value).size]!)=(Vf n [Vi none 0 0]).flatten.toArray:=by
       apply Vqc.1
       assumption
      simp only[execOp,ho,Vgb,underlying,Vb,run_program,Va,hu,Vd,(N.ty _ _ r).run_sizeOf,Zf f,Zf V,s,Vpb,c,d,Y,newRow,run_newObj];rfl
    have b4:ys.length=n:=by rw[<-m.1,S]
    rw[Xc];refine Zcu (w' :=w.alloc (.cells C.toArray Q)) (J:=ZV H ow ids) (u.drops ids) (Hb L) (fun k L=>RN L) (by simp) rfl rfl ⟨rfl,Vg _⟩ a2 ?_ (fun b R=>ZdE u R);refine⟨C,m.mono (fun b R=>RN (u.ilt b R)) (by simp) (by grind) (fun i x b hx hr=>?_),.inr ⟨w.heap.size,n,C.toArray,Q,by simp,fun i x hx hr=>?_,by grind,G3 _ _,by grind,by grind,fun i hi=>?_⟩⟩
    ·obtain⟨k,_,h3,A⟩:=(m.row hx).own hr;exact RN (u.sep k b h3 A).2.1
    ·obtain⟨k,_,h3,A⟩:=(m.row hx).own hr;have:=(u.sep k _ h3 A).2.1;omega
    grind
   ·simp [Zb]at h
  simp only[ZL,Z4,ZC,Zi,Zb,ZR,false_or,Vaa,Vh,Vc]at h;obtain⟨⟨⟨hp,C⟩,a0⟩,⟨qs,ids⟩,m1,b0,l,hl,ds,m2,a5,⟨rfl,rfl⟩,_⟩:=h;obtain⟨Q,hu,r⟩:=Jz N ht;have b2:=u;have a1:=ZjW (J:=ZV H ow ids) u hF _ _ _ _ _ b0 (by simp);have a7:=g.le_grow (ZV H ow ids);rw[Xc,Xc];refine Zx.after_le a7 (fun _ h=>h) (Zx.dats u a5 ?_);have u:=u.freezeIds (ids:=ids);have L:∀id,(g.grow (ZV H ow ids)).K id->id<nid\/nid+Ws<=id:=L;generalize g.grow (ZV H ow ids)=g at u L a1⊢;obtain⟨ie,z,a6,b3,hz,b1,_,W⟩:=Ze2 (w:=w) (g:=g) N r C;obtain⟨Z,Y,h2⟩:=Zi3 (g:=g) a1 hp hl (W n);have G:=(Zdr hl).1
  have f:¬n*e.size>2 ^ 24:=by
   intro R;have:Nat.blt (2 ^ 24) (n*e.size)=true:=by simpa [Nat.blt_eq] using R
   grind
  refine Zee u (Hb L) (cells:=Z.flatten.toArray) (T:=Q) (cap:=n) h2 (by simp) (by omega) ?_ (.refl w) ?_
  ·have:=JV (Rd.all_length h2);rw[Vlc,this, <-h2.length,G];omega
  ·have h0:=Zbv z.cells n;rw[b1]at h0;have d:(M.map fun(i,x)=>(i,a.eval x)).toList=M.toList.map fun p=>(p.1,a.eval p.2):=by simp
   have s:(zeroValue Q).run P w=.ok z w:=by simp [zeroValue,typeInfo,a6,hz]
   by_cases V:n*e.size=0
   ·have c:(Vva (n*e.size)).map ((#[]:Array Value)[· % (#[]:Array Value).size]!)=(Vf n z.cells.toList).flatten.toArray:=by
     grind
    simp only[execOp,ho,Vgb,underlying,Vb,run_program,Va,hu,Vd,(N.ty _ _ r).run_sizeOf,Zf f,Zp V,c,d,Y,newRow,run_newObj,G];rfl
   ·have c:(Vva (n*e.size)).map (z.cells[· % z.cells.size]!)=(Vf n z.cells.toList).flatten.toArray:=by
     grind
    simp only[execOp,ho,Vgb,underlying,Vb,run_program,Va,hu,Vd,(N.ty _ _ r).run_sizeOf,Zf f,Zf V,s,c,d,Y,newRow,run_newObj,G];rfl
 ·simp [Zb]at h
theorem Zmm{T i:TypeId}{e:Ty}{k1 k2:IntKind}{n m:Int}{h:TypeInfo}{z:Value}(u:Z9 P E)(y:P.underlying T=some (.slice i))(j:E.ty i=some e)(d:P.info? i=some h)(L:h.zero=some z)(t:z.cells.size=e.size)
 (C:h.bytes<=256) (M:0<=n) (K:n<=m) (r:m<=549755813888):
 (Vac T (.int k1 n) (.int k2 m)).run P w=.ok (.slice (some ⟨w.heap.size,0,none⟩) n.toNat m.toNat) (w.alloc (.cells (Vf m.toNat z.cells.toList).flatten.toArray i)):=by
 have A:∀x:Int,Vua.wrap x=(x+9223372036854775808) % 18446744073709551616 - 9223372036854775808:=fun x=>by simp [Vsd,Vtd,Ved];omega
 have l:Vua.wrap n=n:=by grind
 have k:Vua.wrap m=m:=by grind
 have p:¬(281474976710656<(h.bytes:Int) *m):=by have N:(h.bytes:Int) *m<=256*549755813888:=Vfd (by omega) r (by omega) (by omega);omega
 have s:=Zbv z.cells m.toNat;rw[t]at s;have f:(zeroValue i).run P w=.ok z w:=by simp [zeroValue,typeInfo,d,L]
 have G:¬m<0:=by omega
 have J:¬n<0:=by omega
 have D:¬m<n:=by omega
 have c:(decide (m<0) ||decide ((h.bytes:Int) *m>2 ^ 48) ||decide (n<0) ||decide (n>m))=false:=by
  grind
 by_cases q:m.toNat*e.size=0
 ·have b:(Vva (m.toNat*e.size)).map ((#[]:Array Value)[· % (#[]:Array Value).size]!)=(Vf m.toNat z.cells.toList).flatten.toArray:=by
   grind
  simp only[Vac,Vb,run_underlying y,asInt,asIntOf,typeInfo,run_program,d,l,k,Vd,Va,c,Vy,if_false,(u.ty _ _ j).run_sizeOf,run_askRoom,q,if_true];rw[q]at b;simp only[Vb,Vd,Va,b,newRow,run_newObj];rfl
 ·have b:(Vva (m.toNat*e.size)).map (z.cells[· % z.cells.size]!)=(Vf m.toNat z.cells.toList).flatten.toArray:=by
   grind
  simp only[Vac,Vb,run_underlying y,asInt,asIntOf,typeInfo,run_program,d,l,k,Vd,Va,c,Vy,if_false,(u.ty _ _ j).run_sizeOf,run_askRoom,Zf q,f,b,newRow,run_newObj];rfl
theorem ZoA{T:TypeId}{lo co:Operand}(r:Z9 P E)(hR:RH B H w g ow)(hF:Fr w g F a.tmps)(R:∀id,g.K id->id<nid\/nid+Ws<=id)(ho:o.op=.makeSlice T lo co)
 (h:(ZQ E nid o.op o.type (ZB F)).run H []=some ((v,patch),rd)):Zx B (Zr H patch) w g nid v ((execOp a.eval o).run P w):=by
 rw[ho]at h;simp only[ZQ,ZC]at h;obtain⟨t,S,h⟩:=h;have A:=hF.eval lo;have s:=hF.eval co;split at h
 ·rename_i e k1 n k2 m hl X
  revert n m
  intro (n:Int) (m:Int) hl X h;rw[ZL]at h;rcases h with ⟨_,h⟩|⟨_,h⟩
  ·split at h
   ·rename_i e';simp only[ZC,Zi,Vc]at h;obtain⟨u,L,⟨rfl,rfl⟩,_⟩:=h;have Z:0<=n/\n<=m/\m<=(ZE:Int):=X8 (Ht L);obtain⟨V,D,a0⟩:=Z;obtain⟨C,N,c⟩:=Jz r S;obtain⟨ie,z,d,a1,W,U,a5,a4⟩:=(r.ty C _ c).info
    have a2:z=.slice none 0 0:=by
     have h1:=Ze3 (r.ty C _ c) w;have h2:(zeroValue C).run P w=.ok z w:=by simp [zeroValue,typeInfo,d,U]
     grind
    subst a2;rw[hl]at A;rw[X]at s;have f:m<=549755813888:=by assumption
    have p:=Zmm (w:=w) (k1:=k1) (k2:=k2) r N c d U rfl ((r.ty _ _ S).small _ _ N d) V D f
    have Y:(execOp a.eval o).run P w=.ok (.value (.slice (some ⟨w.heap.size,0,none⟩) n.toNat m.toNat)) (w.alloc (.cells (Vf m.toNat [Vi none 0 0]).flatten.toArray C)):=by simp only[execOp,ho,VR.int A,VR.int s,Vb,p,Va,Vd];rfl
    have a6:∀q:Nat,(Vf q [Vi none 0 0]).flatten=Vf q (Vi none 0 0):=by simp
    have l:∀i x,(Vf n.toNat ([]:List (El e')))[i]? =some x->x=[]/\(Vf n.toNat (Vi none 0 0)).getD i undef=.slice none 0 0:=by grind
    refine Zcu (w' :=w.alloc (.cells (Vf m.toNat [Vi none 0 0]).flatten.toArray C)) (J:=fun _=>False) hR (Hb R) (fun k R=>RN R) (by simp) rfl rfl ⟨rfl,Vg _⟩ Y ?_ (by simp);refine⟨Vf n.toNat (.slice none 0 0),⟨by simp,⟨fun i x O _=>?_,fun i j x y b O hy _ _ _ Q=>?_,by simp⟩⟩,.inr ⟨w.heap.size,m.toNat,_,C,by simp,fun i x O Q=>?_,by simp,G3 _ _,by grind,by simp,fun i hi=>?_⟩⟩
    ·obtain⟨rfl,h2⟩:=l i x O;exact .inl ⟨rfl,h2⟩
    ·simp only[(l i x O).2,Wo]at Q;grind
    ·rw[(l i x O).2]at Q;simp [Wo]at Q
    grind
   ·simp [Zb]at h
  simp only[ZL,ZC,Zi,Zb,ZR,false_or,Vh,Vc]at h;obtain⟨hd,u,L,⟨rfl,rfl⟩,_⟩:=h
  have L:0<=n/\n<=m/\m<=ZE:=by
   unfold ZD at L
   grind
  obtain⟨V,D,a0⟩:=L;obtain⟨C,N,c⟩:=Jz r S;obtain⟨ie,z,d,a1,U,a3,W,G⟩:=Ze2 (w:=w) (g:=g) r c hd;rw[hl]at A;rw[X]at s;have f:m<=549755813888:=by assumption
  have p:=Zmm (w:=w) (k1:=k1) (k2:=k2) r N c d U a3 ((r.ty _ _ S).small _ _ N d) V D f;have M:(Vf n.toNat (zeroEl e)).length=n.toNat:=Vx;refine Zee hR (Hb R) (w1:=w) (cells:=(Vf m.toNat z.cells.toList).flatten.toArray) (T:=C) (cap:=m.toNat) (css:=Vf n.toNat z.cells.toList) (G _) ?_ (by omega) ?_ (.refl w) ?_
  ·have:m.toNat=n.toNat+(m.toNat - n.toNat):=by omega
   refine⟨(Vf (m.toNat - n.toNat) z.cells.toList).flatten,?_⟩;rw[<-Vv,List.replicate_append_replicate, <-this]
  ·simp_all
  ·rw[M];simp only[execOp,ho,VR.int A,VR.int s,Vb,p,Va,Vd]
 ·simp [Zb]at h
end ops
end Tr
end
section
namespace Tr
open Go
section ops
variable {P:Program}{E:Km}{B:Kd}{H:AH}{w:World}{g:Gh}{ow:Nat->Nat->Prop}{nid:Nat}{a:Act}{F:Nat->AV}{v:AV}{patch:KB}{rd:List Nat}{o:Oper}
def ZbF(w:World)(g:Gh)(t:Ty)(y:List (El t))(v:Value):Prop:=
 ∃e c d,v=.slice e y.length c/\Fa (Rd w g.I t) y d/\(y≠ []->∃b off,e=some ⟨b,off,none⟩/\KH w b off d.flatten)
theorem ZbR{t:Ty}{x:AV}{val:Value}{y:List (El t)}{ids l l' :List Nat}(S:RH B H w g ow)(L:VR w g x val)(h:(G5 t x).run H l=some ((y,ids),l')):ZbF w g t y val:=by
 have a1:(∃M xs u A id,x=.vw id/\H id=some (.rows M xs u A))->False:=by rintro ⟨M,xs,u,A,id,rfl,D⟩;simp only[G5]at h;rw[Z1,D]at h;simp [Zb]at h
 have h:∃l,(Kl (.sl t) x).run H l=some ((y,ids),l'):=by
  cases x with
  |vw id=>
   simp only[G5]at h;rw[Z1]at h
   grind
  |_=>exact⟨_,h⟩
 obtain⟨l,h⟩:=h
 cases x with
 |d M z=>
  simp only[Kl,ZC,Zi,Vc]at h;obtain⟨T,p,⟨rfl,rfl⟩,_⟩:=h;obtain⟨rfl,rfl⟩:=KR p;obtain⟨X,c,f,C,q,Z,_⟩:=L.sl
  exact⟨X,c,f,C,q,by grind⟩
 |nils=>
  simp only[Kl,Zi,Vc]at h;obtain⟨⟨rfl,rfl⟩,_⟩:=h
  exact⟨none,0,[],L.nils,trivial,by simp⟩
 |vw id=>
  simp only[Kl]at h;rw[Z1]at h;split at h
  ·rename_i M xs D;simp only[ZC,Zi,Vc]at h;obtain⟨T,p,⟨rfl,rfl⟩,_⟩:=h;obtain⟨s,rfl⟩:=KR p;cases s;obtain⟨_,G⟩:=L.vw;obtain⟨_,_,U⟩:=S.objs id _ D;rcases U with ⟨rfl,_,K⟩|⟨b,cap,cs,e,f,_,_,K,Q,_,_,i,O⟩
   ·exact⟨none,0,[],G.trans K,trivial,by simp⟩
   ·exact⟨some ⟨b,0,none⟩,cap,f,G.trans K,i,fun _=>⟨b,0,rfl,KH.of_vec Q O⟩⟩
  ·grind
  ·rename_i M xs D;simp only[ZC,Zi,Vc]at h;obtain⟨T,p,⟨rfl,rfl⟩,_⟩:=h;obtain⟨s,rfl⟩:=KR p;cases s;obtain⟨X,c,f,C,q,Z,_⟩:=(ZeU S D L).sl;exact⟨X,c,f,C,q,by grind⟩
  ·simp [Zb]at h
 |nw id ver kt k=>
  simp only[Kl,Z4,ZC,Zi,Vc]at h;obtain⟨r,m,N,T,p,⟨rfl,rfl⟩,_⟩:=h;obtain⟨s,rfl⟩:=D2 p;obtain⟨t0,row⟩:=r;simp only at s;subst s;obtain⟨_,_,_,_,R⟩:=Zaw S L N;rcases R with ⟨C,q⟩|⟨b,cap,cs,e,f,q,_,Q,_,_,i,O⟩
  ·simp only at C;subst C;exact⟨none,0,[],q,trivial,by simp⟩
  ·exact⟨some ⟨b,0,none⟩,cap,f,q,i,fun _=>⟨b,0,rfl,KH.of_vec Q O⟩⟩
 |vs id J n=>
  simp only[Kl]at h;rw[Z1]at h;split at h
  ·rename_i M xs D;simp only[ZC,Zi,Vc]at h;obtain⟨T,p,⟨rfl,rfl⟩,_⟩:=h;obtain⟨s,rfl⟩:=KR p;cases s;obtain⟨_,G⟩:=L.vs;obtain⟨_,W,U⟩:=S.objs id _ D;rw[W]at G;rcases G with ⟨K,rfl,rfl,G⟩|⟨b,len,cap,m,K,C,q,Z,G⟩
   ·refine⟨none,0,[],by grind,by simp;trivial,by simp⟩
   ·rcases U with ⟨_,_,j⟩|⟨b',Y,cs,e,f,_,_,j,Q,_,_,i,O⟩
    ·grind
    ·rw[K]at j;simp only[Vi.injEq,Option.some.injEq,Addr.mk.injEq,and_true]at j;obtain⟨rfl,rfl,rfl⟩:=j;have a0:((xs.drop J).take n).length=n:=by grind
     refine⟨some ⟨b,if m=0 then 0 else J*t.size,none⟩,m,(f.drop J).take n,?_,(i.drop J).take n,fun V=>⟨b,J*t.size,?_,?_⟩⟩
     ·grind
     ·have:0<((xs.drop J).take n).length:=Vgc.2 V
      grind
     ·have:=KH.part (off:=0) (l:=J) (n:=n) (Rd.all_length i) (by rw[<-i.length];omega) (KH.of_vec Q O)
      grind
  ·simp [Zb]at h
 |agg l0=>cases l0<;>simp [Kl,XV,Zb]at h
 |_=>simp [Kl,Zb]at h
theorem ZjO{b off n cap sz:Nat}{css:List (List Value)}(h:∀c∈css,c.length=sz)(f:css.length=n)(hL:KH w b off css.flatten){w' :World}(i:Jr w w'):
 (Vo sz n (.slice (some ⟨b,off,none⟩) n cap)).run P w' =.ok css.flatten.toArray w' :=by
 refine run_firstCells_some (P:=P) w' sz n _ n cap _ (by rw[JV h,f]) ?_;intro j u e;obtain⟨d,rfl⟩:=Vw.1 e;have:=hL j d;rw[DT, <-this];simp only[Vtc,i.heap]
theorem Zmg{u x ty k D:TypeId}{d:TypeInfo}{z:Value}{argTypes:Array TypeId}(y:argTypes[0]? =some u)(A:argTypes[1]? =some x)(C:P.underlying u=some (.slice k))(j:P.underlying x=some (.slice D))
 (i:P.info? k=some d) (G:d.zero=some z) (q:d.bytes<=256) {base f:Option Addr}{n cap m c:Nat}{e news:List Value}
 (r:∀w',Jr w w' ->(Vo d.size n (.slice base n cap)).run P w' =.ok e.toArray w') (h:∀w',Jr w w' ->(Vo d.size m (.slice f m c)).run P w' =.ok news.toArray w') (s:n+m<=549755813888):
 (n+m<=cap/\(Vt argTypes ty #[.slice base n cap,.slice f m c]).run P w=(do (match base with|some a=>storeCells (a.add (n*d.size)) news|none=>pure ());pure (.slice base (n+m) cap):Sem Value).run P w)\/
 (∃b w1,n+m<=b/\Jr w w1/\(Vt argTypes ty #[.slice base n cap,.slice f m c]).run P w=.ok (.slice (some ⟨w.heap.size,0,none⟩) (n+m) b) (w1.alloc (.cells (e.toArray++news.toArray++Vk z.cells (b - (n+m))) k))):=by
 have J:(#[Vi base n cap,Vi f m c]:Array Value)[0]? =some (.slice base n cap):=rfl;have K:(#[Vi base n cap,Vi f m c]:Array Value)[1]? =some (.slice f m c):=rfl;by_cases t:n+m<=cap
 ·refine .inl ⟨t,?_⟩;simp [Vt,y,A,run_underlying C,run_underlying j,Go.sizeOf,typeInfo,i,Vhc,t,h w (.refl w)]
  cases base<;>simp
 ·refine .inr ⟨grownCap w (n+m) cap k,w.drew,grownCap_ge ..,⟨rfl,rfl,rfl,⟨rfl,by simp⟩⟩,?_⟩;have p:¬(9223372036854775807<((n:Int)+(m:Int))):=by omega
  have l:¬(281474976710656<Vdc (n+m) cap*d.bytes):=by have:=growslice_fits (need:=n+m) (old:=cap) (bytes:=d.bytes) (by omega) (Nat.le_trans (Vgd s q) (by decide));omega
  simp [Vt,y,A,run_underlying C,run_underlying j,Go.sizeOf,typeInfo,zeroValue,i,G,Vhc,t,p,l,Question.forced,h w.drew ⟨rfl,rfl,rfl,⟨rfl,by simp⟩⟩,r w.drew ⟨rfl,rfl,rfl,⟨rfl,by simp⟩⟩,newRow,grownCap]
  grind
theorem ZiI{t:Ty}{H' :AH}{R:TypeInfo}{z:Value}{T0 T1 Et E1 ty:TypeId}{argTypes:Array TypeId}{sv xv:Value}{xs l:List (El t)}{r:Result Next}(hR:RH B H w g ow)(y:¬g.K nid)
 (h0:argTypes[0]? =some T0) (h1:argTypes[1]? =some T1) (Z:P.underlying T0=some (.slice Et)) (a8:P.underlying T1=some (.slice E1))
 (a5:P.info? Et=some R) (hz:R.zero=some z) (b1:z.cells.size=t.size) (Q:R.size=t.size) (a1:R.bytes<=256) (a7:xs.length+l.length<=549755813888) (hX:ZbF w g t l xv)
 (hr:∀val w',(Vt argTypes ty #[sv,xv]).run P w=.ok val w' ->r=.ok (.value val) w')
 (hS:(H' =H/\xs=[]/\sv=.slice none 0 0)\/ ∃id,H' =Kc H id none/\H id≠none/\((xs=[]/\sv=.slice none 0 0)\/ ∃b cap cs e css,ow id b/\sv=.slice (some ⟨b,0,none⟩) xs.length cap/\w.heap[b]? =some (.cells cs e (0,0))/\
   xs.length<=cap/\cap*t.size<=cs.size/\Fa (Rd w g.I t) xs css/\css.flatten<+:cs.toList)):Zx B (Kc H' nid (some (.vec t (xs++l)))) w g nid (.vw nid) r:=by
 obtain⟨xb,c,d,rfl,j,a6⟩:=hX;have s:(xs++l).length=xs.length+l.length:=Vn
 have G:RH B H' w g ow:=by
  rcases hS with ⟨rfl,_⟩|⟨id,rfl,_⟩
  ·omega
  ·exact hR.drop id
 have a3:∀w',Jr w w' ->(Vo R.size l.length (.slice xb l.length c)).run P w' =.ok d.flatten.toArray w' :=by
  intro w' hw;rw[Q];by_cases hy:l=[]
  ·subst hy;have:d=[]:=by have:=j.length;grind
   subst this
   cases xb with
   |none=>rfl
   |some ad=>exact run_firstCells_some (P:=P) w' _ _ ad _ _ [] (by simp) (by simp)
  ·obtain⟨b,off,rfl,hL⟩:=a6 hy;exact ZjO (Rd.all_length j) j.length.symm hL hw
 have hO:∃base cap f,sv=.slice base xs.length cap/\Fa (Rd w g.I t) xs f/\(∀w',Jr w w' ->(Vo R.size xs.length (.slice base xs.length cap)).run P w' =.ok f.flatten.toArray w')/\
  ((base=none/\cap=0/\xs=[])\/ ∃id b cs e,H' =Kc H id none/\H id≠none/\ow id b/\base=some ⟨b,0,none⟩/\w.heap[b]? =some (.cells cs e (0,0))/\cap*t.size<=cs.size/\f.flatten<+:cs.toList):=by
  rcases hS with ⟨_,rfl,rfl⟩|⟨id,b3,N,⟨rfl,rfl⟩|⟨b,cap,cs,e,css,ho,rfl,hh,_,T,L,hc⟩⟩
  ·exact⟨none,0,[],rfl,trivial,fun w' _=>by rfl,by simp⟩
  ·exact⟨none,0,[],rfl,trivial,fun w' _=>by rfl,by simp⟩
  ·refine⟨_,cap,css,rfl,L,fun w' hw=>?_,by grind⟩;rw[Q];exact ZjO (Rd.all_length L) L.length.symm (KH.of_vec hh hc) hw
 obtain⟨base,cap,f,rfl,n,a4,J⟩:=hO;have q:=JV (Rd.all_length n);have D:=JV (Rd.all_length j);rw[<-n.length]at q;rw[<-j.length]at D;rcases Zmg (ty:=ty) h0 h1 Z a8 a5 hz a1 a4 a3 a7 with ⟨O,p⟩|⟨m,w1,b4,a9,p⟩
 ·
  rcases J with ⟨rfl,rfl,rfl⟩|⟨id,b,cs,e,rfl,N,ho,rfl,hh,T,hc⟩
  ·have hy:l=[]:=by grind
   subst hy;have C:=hr _ _ (p.trans (by simp only[Vb,Vd,Va];rfl));refine⟨_,w,g.add nid t none (.slice none 0 0),Xm ow nid (fun _=>False),.inl C,?_,Gh.le_add y _ _ _,fun _ _=>rfl,?_,?_⟩
   ·exact G.add y (by simp) (Vg _) rfl rfl ⟨rfl,Vg _⟩ (by simp) ⟨by simp [Gh.add],.inl ⟨rfl,by simp [Gh.add],by simp [Gh.add]⟩⟩
   ·refine K8 ?_ rfl rfl;simp only[CV];exact⟨.inl rfl,by simp [Gh.add],by simp [Gh.add,Voa]⟩
   ·intro id h;rcases h with rfl|h
    ·exact .inr ⟨Vg _,by unfold Ws;omega⟩
    grind
  ·obtain⟨rest,A⟩:=hc;have b2:cs.size=f.flatten.length+rest.length:=by rw[<-Vjb, <-A,Vn]
   have V:(xs.length+l.length) *t.size<=cap*t.size:=Nat.mul_le_mul_right _ O;rw[Vka]at V;have hs:=hR.sep id b N ho
   have X:∀u∈d.flatten,u.oneCell' =true:=by
    intro u Z;obtain⟨c1,a2,Z⟩:=Vvc.1 Z;obtain⟨i,hi,rfl⟩:=Vsa a2;have b5:i<l.length:=by rw[j.length];omega
    obtain⟨c',h2,h3⟩:=j.get i l[i] (by simp);rw[Vu hi]at h2;cases h2;exact Rd.oneCell t _ _ h3 u Z
   have Y:=run_storeCells_at P b (xs.length*t.size) e d.flatten 0 cs w hh (by omega) X
   have W:(cs.toList.take (xs.length*t.size+0)++d.flatten++cs.toList.drop (xs.length*t.size+0+d.flatten.length))=(f++d).flatten++rest.drop d.flatten.length:=by rw[Vpa, <-q, <-A,Vhd,Vv,List.drop_append,Vcb (by omega)];simp
   rw[W]at Y
   have C:=hr (.slice (some ⟨b,0,none⟩) (xs.length+l.length) cap) (w.setRow b ((f++d).flatten++rest.drop d.flatten.length).toArray) (p.trans (by simp only[Vb,DT,Q,Vs,Y,Va,Vd]))
   have M:∀k,Kc H id none k≠none->¬ow k b:=by intro k U hb;obtain⟨h3,h4⟩:=DE U;exact h3 (hR.dist k id b h4 N hb ho)
   have a0:=G.free (w' :=w.setRow b ((f++d).flatten++rest.drop d.flatten.length).toArray) M hs.1 hs.2.2 (fun k U=>setRow_other w b k _ U) (size_setRow w b _) rfl rfl ⟨rfl,Vg _⟩;have S:Kj g.I w (w.setRow b ((f++d).flatten++rest.drop d.flatten.length).toArray):=fun k U=>setRow_other w b k _ (by grind);refine⟨_,_,g.add nid t (some b) (.slice (some ⟨b,0,none⟩) (xs++l).length cap),Xm ow nid (fun k=>k=b),.inl C,?_,Gh.le_add y _ _ _,S,?_,?_⟩
   ·refine a0.add y (by simp) (Vg _) rfl rfl ⟨rfl,Vg _⟩ (fun k U=>?_) ?_
    ·simp_all
    ·refine⟨by simp [Gh.add],.inr ⟨b,cap,_,e,f++d,by simp [Gh.add],rfl,by simp [Gh.add],Rs hh,by omega,?_,?_,by simp⟩⟩
     ·grind
     ·exact(n.append j).mono fun x c hx=>Rd.mono S (fun _ h=>h) t x c hx
   ·refine K8 ?_ rfl rfl;simp only[CV];exact⟨.inl rfl,by simp [Gh.add,s],by simp [Gh.add,Voa]⟩
   ·intro id h;rcases h with rfl|h
    ·exact .inr ⟨Vg _,by unfold Ws;omega⟩
    grind
 ·have C:=hr _ _ p;refine Zee G y (n.append j) ?_ (by rw[s];omega) ?_ a9 (by rw[s];omega)
  ·simp
  ·have b0:(Vk z.cells (m - (xs.length+l.length))).size=(m - (xs.length+l.length)) *t.size:=by simp [Vk,b1]
   simp only[Vmc,Vlc,q,D,b0]
   have:m*t.size=xs.length*t.size+l.length*t.size+(m - (xs.length+l.length)) *t.size:=by rw[<-Vka, <-Vka];grind
   omega
theorem Zt0{id ver tmp:Nat}{kt:Ty}{k:El kt}{val:Value}{r:(t:Ty) ×List (El t)}{o' :K0}{l l' l2 b4:List Nat}(S:RH B H w g ow)(hv:VR w g (.nw id ver kt k) val)(f:(YB id ver kt k).run H l=some (r,l'))(d:(Zfp id nid kt k).run H l2=some (o',b4))
 (a3:¬g.K tmp):∃g2 a4,RH B (Kc (Kc H id (some o')) tmp (some (.vec r.1 r.2))) w g2 a4/\g.Le g2/\g2.I=g.I/\(∀i,g2.K i->g.K i\/i=tmp)/\(∀b,a4 tmp b↔Wo val=some b)/\id≠tmp:=by
 obtain⟨hK,_,_,_⟩:=hv.nw;obtain⟨G,O,b5,n,Q⟩:=Zaw S hv f;have a1:id≠tmp:=by grind
 have R:∀b,ow id b->¬g.I b/\b<w.heap.size/\(B.own0 b\/B.w0.heap.size<=b):=fun b A=>S.sep id b G A
 have hO:g.ver id<nid/\WF w (g.bump id nid (g.row id)) (fun b=>ow id b/\Wo val≠some b) id o' :=by
  have y:(g.bump id nid (g.row id)).row id=g.row id:=by simp [Gh.bump]
  simp only[YB]at f;rw[Z1]at f;simp only[Zfp]at d;rw[Z1]at d;split at f
  ·rename_i t xs u hH;rw[hH]at d;simp only[ZL,ZC,Zi,Zb,ZR,Z3]at f d;obtain⟨hu,i',a8,x,M,rfl,_⟩:=f;obtain⟨b2,X,a9,rfl,_⟩:=d;obtain⟨rfl,rfl⟩:=KR a8;have:=Zdu a9;subst this;obtain⟨_,O,V,s,hO⟩:=S.objs id _ hH;refine⟨by simp_all,O,by simp [Gh.bump],?_,?_⟩
   ·unfold idx at M;split at M
    ·rename_i h0;have e1:((X.toNat:Nat):Int)=X:=Vkb h0;rw[y];refine s.take X.toNat fun j x' W hj hr=>hr.mono (fun _ _=>rfl) (by simp) (fun b A h=>⟨h,fun D=>?_⟩) (by simp);rw[n]at D;exact s.ds j X.toNat x' x b W M hj (by simp) (by simp) A (by grind)
    grind
   ·rcases hO with h|⟨b,cap,cs,e,C,z,h3,h4,h5,h6,h7⟩
    ·exact .inl h
    ·refine .inr ⟨b,cap,cs,e,C,⟨z,fun A=>?_⟩,h3,h4,h5,h6,by grind⟩;unfold idx at M;split at M
     ·rename_i h0;have e1:((X.toNat:Nat):Int)=X:=Vkb h0;rw[n]at A;exact s.tp X.toNat x b M (by simp) (by grind) C
     grind
  ·rename_i b7 t m u hH;rw[hH]at d;simp only[ZL,ZC,Zi,Zb,ZR,Z3,Ve]at f d;obtain⟨⟨hu,b6⟩,k',b0,rfl,_⟩:=f;obtain⟨b2,Z,b1,rfl,_⟩:=d;obtain⟨rfl,rfl⟩:=KR b0;have:=Zdu b1;subst this;obtain⟨_,O,V,s,b3,a0,b,es,clock,C,z,h3,h4⟩:=S.objs id _ hH
   have a2:∀b',Wo val=some b' ->∃x,(Z,x)∈m:=fun b' N=>by
    by_cases h:Z∈m.map Vdb
    ·grind
    ·rw[n,a0 Z h]at N;simp [Wo]at N
   refine⟨by simp_all,O,by simp [Gh.bump],?_,b3,by grind,b,es,clock,C,⟨z,fun A=>?_⟩,h3,by rw[y];assumption⟩
   ·rw[y];refine s.take Z fun j x' W hj hr=>hr.mono (fun _ _=>rfl) (by simp) (fun b' N h=>⟨h,fun D=>?_⟩) (by simp);obtain⟨x,M⟩:=a2 b' D;rw[n]at D;exact s.ds j Z x' x b' W M hj (by simp) (by simp) N D
   ·obtain⟨x,M⟩:=a2 b A;rw[n]at A;exact s.tp Z x b M (by simp) A C
  ·simp [Zb]at f
 have a6:=S.bump (w' :=w) hK hO.1 (by simp) (Vg _) rfl rfl ⟨rfl,Vg _⟩ (by simp) (fun b A=>by obtain⟨p,q,r⟩:=R b A.1;exact⟨p,q,r,fun k Y C z=>Y (S.dist k id b C G z A.1)⟩) hO.2
 have J:¬(g.bump id nid (g.row id)).K tmp:=a3
 have T:∀b,Wo val=some b->ow id b/\ ¬g.I b/\b<w.heap.size/\(B.own0 b\/B.w0.heap.size<=b)/\ ∀k,Kc H id (some o') k≠none->¬Xm ow id (fun b=>ow id b/\Wo val≠some b) k b:=fun b A=>by
  have U:=Q.own A;obtain⟨p,q,r⟩:=R b U;refine⟨U,p,q,r,fun k C z=>?_⟩;by_cases Y:k=id
  ·subst Y;rw[JS]at z;grind
  ·rw[Ky Y]at C;rw[WV Y]at z;exact Y (S.dist k id b C G z U)
 have L:∃b,WF w ((g.bump id nid (g.row id)).add tmp r.1 b val) (fun b=>Wo val=some b) tmp (.vec r.1 r.2):=by
  rcases Q with ⟨C,z⟩|⟨b,cap,cs,e,a5,z,_,hh,h5,h6,a7,hc⟩
  ·exact⟨none,by simp [Gh.add],.inl ⟨C,by simp [Gh.add],by simp [Gh.add,z]⟩⟩
  ·exact⟨some b,by simp [Gh.add],.inr ⟨b,cap,cs,e,a5,by simp [Gh.add],by rw[z];rfl,by simp [Gh.add,z],hh,h5,h6,a7,hc⟩⟩
 obtain⟨b,L⟩:=L;refine⟨_,_,a6.add J (by simp) (Vg _) rfl rfl ⟨rfl,Vg _⟩ (fun c hc=>(T c hc).2) L,(Gh.le_bump hO.1).trans (Gh.le_add J _ _ _),rfl,fun i hi=>?_,fun c=>?_,a1⟩
 ·rcases hi with h|h
  ·omega
  ·exact .inl h
 ·rw[JS]
theorem ZjN{b cap n:Nat}{c:List Value}{cs:Array Value}{e:TypeId}(f:w.heap[b]? =some (.cells cs e (0,0)))(m:c.length=n)(d:∀i,i<n->cs[i]? =some (c.getD i undef)){w' :World}(l:Jr w w'):
 (Vo 1 n (.slice (some ⟨b,0,none⟩) n cap)).run P w' =.ok c.toArray w' :=by
 refine run_firstCells_some (P:=P) w' 1 n _ n cap _ (by omega) ?_;intro j u h;obtain⟨k,rfl⟩:=Vw.1 h;have:=d j (by omega);rw[DT];simp only[Vtc,l.heap,f,Vs]
 grind
theorem ZoP{t:Ty}{ie:TypeInfo}{z:Value}{T0 T1 Et E1 ty:TypeId}{argTypes:Array TypeId}{sv xv:Value}{xs l:List (List (El t))}{h j:List Nat}{r:Result Next}(S:RH B H w g ow)(a0:¬g.K nid)
 (h0:argTypes[0]? =some T0) (h1:argTypes[1]? =some T1) (hu:P.underlying T0=some (.slice Et)) (e2:P.underlying T1=some (.slice E1))
 (c1:P.info? Et=some ie) (hz:ie.zero=some z) (e4:z.cells.size=(Ty.sl t).size) (d7:ie.size=(Ty.sl t).size) (b5:ie.bytes<=256) (c6:xs.length+l.length<=549755813888)
 (hS:XE w g.I (ZV H ow h) t xs sv) (hX:XE w g.I (ZV H ow j) t l xv) (e5:∀k,k∈h->k ∉ j)
 (hr:∀val w',(Vt argTypes ty #[sv,xv]).run P w=.ok val w' ->r=.ok (.value val) w'):Zx B (Zr (Zr H ((h++j).map fun id=>(id,none))) [(nid,some (.rows t (xs++l) 0 none))]) w g nid (.vw nid) r:=by
 show Zx B (Kc _ nid _) _ _ _ _ _;have M:ie.size=1:=d7;obtain⟨f,U,d8⟩:=hS;obtain⟨d,A,d9⟩:=hX;have W:RH B (Zr H ((h++j).map fun id=>(id,none))) w g ow:=S.drops _
 have hJ:∀b,ZV H ow h b->¬ZV H ow j b:=fun b ⟨k,a1,V,a3⟩ ⟨k',b1,b2,b3⟩=>by
  have:=S.dist k k' b V b2 a3 b3
  grind
 have D:=U.append A hJ
 have D:RL w g.I (ZV H ow (h++j)) t (f++d) (xs++l):=D.mono (fun _ _=>rfl) (by simp) (fun b Y=>by
  rcases Y with ⟨k,a1,V⟩|⟨k,a1,V⟩
  ·exact⟨k,by grind,V⟩
  ·exact⟨k,by grind,V⟩) (by simp)
 have T:∀b,ZV H ow (h++j) b->b<w.heap.size:=fun b ⟨k,_,V,a3⟩=>(S.sep k b V a3).2.1;have c4:=U.1;have c5:=A.1
 have e3:∃xb c,xv=.slice xb l.length c/\ ∀w',Jr w w' ->(Vo ie.size l.length (.slice xb l.length c)).run P w' =.ok d.toArray w' :=by
  rw[M];rcases d9 with ⟨rfl,rfl⟩|⟨b,cap,cs,e,_,_,rfl,hh,_,_,N⟩
  ·have:d=[]:=by grind
   subst this;exact⟨none,0,rfl,fun w' _=>by rfl⟩
  ·exact⟨_,cap,rfl,fun w' hw=>ZjN hh c5 N hw⟩
 obtain⟨xb,c,rfl,b6⟩:=e3
 have d0:∃base cap,sv=.slice base xs.length cap/\(∀w',Jr w w' ->(Vo ie.size xs.length (.slice base xs.length cap)).run P w' =.ok f.toArray w')/\((base=none/\cap=0/\xs=[])\/
  ∃b cs e,ZV H ow h b/\base=some ⟨b,0,none⟩/\w.heap[b]? =some (.cells cs e (0,0))/\cap<=cs.size/\(∀i,i<xs.length->cs[i]? =some (f.getD i undef))/\ ∀i x,xs[i]? =some x->Wo (f.getD i undef)≠some b):=by
  rw[M];rcases d8 with ⟨rfl,rfl⟩|⟨b,cap,cs,e,e7,c7,rfl,hh,_,a6,N⟩
  ·have:f=[]:=by grind
   subst this;exact⟨none,0,rfl,fun w' _=>by rfl,by simp⟩
  ·exact⟨_,cap,rfl,fun w' hw=>ZjN hh c4 N hw,by grind⟩
 obtain⟨base,cap,rfl,b7,Z⟩:=d0;have e6:(xs++l).length=xs.length+l.length:=Vn;rcases Zmg (ty:=ty) h0 h1 hu e2 c1 hz b5 b7 b6 c6 with ⟨c8,C⟩|⟨m,w1,e8,R,C⟩
 ·rcases Z with ⟨rfl,rfl,rfl⟩|⟨b,cs,e,⟨kb,c2,O,y⟩,rfl,hh,a6,N,c7⟩
  ·have hy:l=[]:=by grind
   subst hy;have L:=hr _ _ (C.trans (by simp only[Vb,Vd,Va];rfl));exact Zcu (J:=fun _=>False) W a0 (by simp) (Vg _) rfl rfl ⟨rfl,Vg _⟩ L ⟨[],RL.nil,by simp⟩ (by simp)
  ·have hs:=S.sep kb b O y
   have a8:∀u∈d,u.oneCell' =true:=by
    intro u hu;obtain⟨i,hi,rfl⟩:=Vsa hu;have b9:i<l.length:=by omega
    have:=(A.row (Vu b9)).one.1
    grind
   have b0:=run_storeCells_at P b (xs.length*1) e d 0 cs w hh (by omega) a8
   have e1:cs.toList.take xs.length=f:=by
    apply Vla
    grind
   have a7:(cs.toList.take (xs.length*1+0)++d++cs.toList.drop (xs.length*1+0+d.length))=(f++d)++cs.toList.drop (xs.length+d.length):=by
    grind
   rw[a7]at b0
   have L:=hr (.slice (some ⟨b,0,none⟩) (xs.length+l.length) cap) (w.setRow b ((f++d)++cs.toList.drop (xs.length+d.length)).toArray) (C.trans (by simp only[Vb,DT,M,Vs,b0,Va,Vd]))
   have Q:∀k,k≠b->(w.setRow b ((f++d)++cs.toList.drop (xs.length+d.length)).toArray).heap[k]? =w.heap[k]? :=fun k hk=>setRow_other w b k _ hk;have b8:=ZdE (ids:=h++j) S (b:=b) ⟨kb,by grind,O,y⟩;have X:=W.free (w' :=w.setRow b ((f++d)++cs.toList.drop (xs.length+d.length)).toArray) (b:=b) b8.2.2.2 hs.1 hs.2.2 Q (size_setRow w b _) rfl rfl ⟨rfl,Vg _⟩;have b4:Kj g.I w (w.setRow b ((f++d)++cs.toList.drop (xs.length+d.length)).toArray):=fun k hk=>by grind
   have a9:∀i x,(xs++l)[i]? =some x->Wo ((f++d).getD i undef)≠some b:=by
    intro i x hx Y;rcases Vxb i xs.length with hl|hl
    ·grind
    ·rw[Vnb hl]at hx;have:(f++d).getD i undef=d.getD (i - xs.length) undef:=by grind
     rw[this]at Y;exact hJ b ⟨kb,c2,O,y⟩ ((A.row hx).own Y)
   have G:=Zcu (w' :=w.setRow b ((f++d)++cs.toList.drop (xs.length+d.length)).toArray) (J:=ZV H ow (h++j)) (t:=t) (xs:=xs++l) X a0 (by simp) (Vg _) rfl rfl ⟨rfl,Vg _⟩ L ?_ (fun b' n=>?_)
   ·obtain⟨val,w',g',a4,d1,d2,d3,d4,d5,d6⟩:=G;exact⟨val,w',g',a4,d1,d2,d3,by grind,d5,d6⟩
   ·refine⟨f++d,D.mono b4 (by simp) (by grind) (by grind),.inr ⟨b,cap,_,e,.inl ⟨kb,by grind,O,y⟩,a9,by simp,Rs hh,by omega,?_,by grind⟩⟩
    all_goals grind
   ·obtain⟨p,q,r,s⟩:=ZdE S n
    simp_all
 ·have L:=hr _ _ C;have X:=W.same R;have c9:w1.heap.size=w.heap.size:=by rw[R.heap]
  have G:=Zcu (w' :=w1.alloc (.cells (f.toArray++d.toArray++Vk z.cells (m - (xs.length+l.length))) Et)) (J:=ZV H ow (h++j)) (t:=t) (xs:=xs++l) X a0 (fun k hk=>RN hk) (by simp) rfl rfl ⟨rfl,Vg _⟩ L ?_ (fun b' n=>?_)
  ·obtain⟨val,w',g',a4,d1,d2,d3,d4,d5,d6⟩:=G;exact⟨val,w',g',a4,d1,d2,d3,fun k hk=>(d4 k hk).trans (R.agree g.I k hk),d5,d6⟩
  ·have a5:∀b,b<w.heap.size->(w1.alloc (.cells (f.toArray++d.toArray++Vk z.cells (m - (xs.length+l.length))) Et)).heap[b]? =w.heap[b]? :=fun b Y=>by rw[RN (by omega),R.heap]
   refine⟨f++d,D.mono (fun b Y=>a5 b (S.ilt b Y)) (by simp) (by grind) (fun i x b' hx n=>a5 b' (T b' ((D.row hx).own n))),.inr ⟨w1.heap.size,m,_,Et,by simp,fun i x hx n=>?_,by grind,G3 _ _,by omega,?_,fun i hi=>?_⟩⟩
   ·have:=T _ ((D.row hx).own n);omega
   ·have e9:(Vk z.cells (m - (xs.length+l.length))).size=(m - (xs.length+l.length)) *1:=by simp [Vk,e4,Ty.size]
    grind
   grind
  ·obtain⟨p,q,r,s⟩:=ZdE S n
   grind
theorem Zth{C D ty r:TypeId}{c:TypeInfo}{z:Value}{argTypes:Array TypeId}{k0 k:IntKind}(G:argTypes[0]? =some C)(s:argTypes[1]? =some D)(J:P.underlying C=some (.slice r))(p:P.underlying D=some (.int k0))
 (l:P.info? r=some c) (L:c.zero=some z) (N:z.cells.size=c.size) (t:c.bytes<=256) {n:Nat} (O:0<n) (u:n<=549755813888):
 ∃d w1 M,n<=d/\Jr w w1/\M.toList=(Vf n z.cells.toList).flatten/\(Vt argTypes ty #[.slice none 0 0,.int k (n:Int)]).run P w=.ok (.slice (some ⟨w.heap.size,0,none⟩) n d) (w1.alloc (.cells (M++Vk z.cells (d - n)) r)):=by
 have q:Vua.wrap (n:Int)=(n:Int):=by
  have K:∀x:Int,Vua.wrap x=(x+9223372036854775808) % 18446744073709551616 - 9223372036854775808:=fun x=>by simp [Vsd,Vtd,Ved];omega
  grind
 have b:¬(281474976710656<(n:Int) * (c.bytes:Int)):=by have s:(n:Int) * (c.bytes:Int)<=549755813888*256:=Vfd (by omega) (by omega) (by omega) (by omega);omega
 have i:¬(9223372036854775807<(n:Int)):=by omega
 have h:¬(281474976710656<Vdc n 0*c.bytes):=by have:=growslice_fits (need:=n) (old:=0) (bytes:=c.bytes) (by omega) (Nat.le_trans (Vgd u t) (by decide));omega
 have y:=Zbv z.cells n;have m:n≠0:=by omega
 have f:¬((n:Int)<0):=by omega
 have j:∀A:World,(Vo c.size 0 (.slice none 0 0)).run P A=.ok #[] A:=fun A=>by rfl
 refine⟨grownCap w n 0 r,w.drew,if n*c.size=0 then #[] else Vk z.cells n,grownCap_ge ..,⟨rfl,rfl,rfl,⟨rfl,by simp⟩⟩,?_,?_⟩
 ·rw[<-y];by_cases e:n*c.size=0
  ·grind
  ·rw[Zf e];rfl
 ·by_cases e:n*c.size=0
  ·simp [Vt,G,s,run_underlying J,run_underlying p,Go.sizeOf,typeInfo,zeroValue,l,L,asInt,asIntOf,q,b,m,i,h,Question.forced,newRow,grownCap,e,f,j]
  ·simp [Vt,G,s,run_underlying J,run_underlying p,Go.sizeOf,typeInfo,zeroValue,l,L,asInt,asIntOf,q,b,m,i,h,Question.forced,newRow,grownCap,e,f,j]
theorem Zoi{c:Call}(U:Z9 P E)(A:RH B H w g ow)(hF:Fr w g F a.tmps)(hk:∀id,g.K id->id<nid\/nid+Ws<=id)(ho:o.op=.call c)(hc:c.callee=.builtin .append)
 (h:(ZQ E nid o.op o.type (ZB F)).run H []=some ((v,patch),rd)):Zx B (Zr H patch) w g nid v ((execOp a.eval o).run P w):=by
 rw[ho]at h;simp only[ZQ,hc]at h;split at h
 ·rename_i s x t b4 c5;rw[ZL]at h
  have j:c.args.map a.eval= #[a.eval s,a.eval x]:=by
   have:c.args= #[s,x]:=by grind
   grind
  obtain⟨T0,h0,S⟩:=Vl.1 c5;rcases h with ⟨_,h⟩|⟨l,h⟩
  ·split at h
   ·rename_i k n k0 hs hx b2;simp only[ZL,Zb,ZR,false_or,Vaa,Vh]at h;obtain⟨⟨_,hd⟩,h⟩:=h;simp only[ZiR,ZC,Zi,Vc]at h;obtain⟨u,O,⟨rfl,rfl⟩,_⟩:=h;have O:(1:Int)<=n/\n<=(ZE:Int):=X8 (Ht O);obtain⟨M,h1,a2⟩:=Vl.1 b2;obtain⟨Et,L,Y⟩:=Jz U S
    have D:P.underlying M=some (.int k0):=by
     have Q:=(U.ty M _ a2).shape
     cases L:P.underlying M with
     |none=>rw[L]at Q;simp [Kb]at Q
     |some d=>rw[L]at Q;cases d<;>simp [Kb]at Q;grind
    obtain⟨ie,z,p,R,hz,G,_,b8⟩:=Ze2 (w:=w) (g:=g) U Y hd;have C:=(U.ty _ _ S).small _ _ L p;have c6:a.eval s=.slice none 0 0:=(hs▸hF.eval s).nils;have c7:=VR.int (hx▸hF.eval x);obtain⟨m,hm⟩:∃m:Nat,n=(m:Int):=⟨_,(Vkb (by omega)).symm⟩;subst hm
    have y:m<=549755813888:=by have h2:(m:Int)<=((549755813888:Nat):Int):=O.2;omega
    obtain⟨f,w1,zc,c1,c2,c3,c4⟩:=Zth (P:=P) (w:=w) (ty:=o.type) (k:=k) h0 h1 L D p hz (by omega) C (n:=m) (by omega) y
    have i:(execOp a.eval o).run P w=.ok (.value (.slice (some ⟨w.heap.size,0,none⟩) m f)) (w1.alloc (.cells (zc++Vk z.cells (f - m)) Et)):=by rw[c6,c7]at j;simp only[execOp,ho,Ro hc,builtin,j,Vb,c4,Va,Vd]
    have d0:(Vf ((m:Int)).toNat (zeroEl t)).length=m:=by simp
    refine Zee A (Hb hk) (w1:=w1) (cells:=zc++Vk z.cells (f - m)) (T:=Et) (cap:=f) (css:=Vf m z.cells.toList) (by grind) ?_ (by omega) ?_ c2 (by grind)
    ·grind
    ·have e1:zc.size=m*t.size:=by rw[<-Vjb,c3,JV (css:=Vf m z.cells.toList) (n:=t.size) (by grind),Vx]
     have e2:(Vk z.cells (f - m)).size=(f - m) *t.size:=by simp [Vk,G]
     rw[Vmc,e1,e2, <-Vka]
     grind
   ·simp [Zb]at h
  simp only[Vh]at l;simp only[ZL]at h
  have:∃M t1,c.argTypes[1]? =some M/\E.ty M=some (.sl t1):=by
   cases hh:c.argTypes[1]? with
   |none=>rw[hh]at l;simp [Ye]at l
   |some M=>
    rw[hh]at l;simp only[Za]at l
    cases ht:E.ty M with
    |none=>rw[ht]at l;simp [Ye]at l
    |some t1=>cases t1<;>rw[ht]at l<;>simp [Ye]at l;grind
  obtain⟨M,t1,h1,a2⟩:=this;obtain⟨Et,L,Y⟩:=Jz U S;obtain⟨E1,D,_⟩:=Jz U a2;obtain⟨ie,z,p,R,_,hz,a9,_⟩:=(U.ty Et _ Y).info;have C:=(U.ty _ _ S).small _ _ L p
  have G:z.cells.size=t.size:=by obtain⟨N,h4⟩:=ZhZ (w:=w) (g:=g) a9;have:=CV.length _ t _ h4 N;omega
  have i:∀val w',(Vt c.argTypes o.type #[a.eval s,a.eval x]).run P w=.ok val w' ->(execOp a.eval o).run P w=.ok (.value val) w' :=by intro val w' i;simp only[execOp,ho,Ro hc,builtin,j,Vb,i,Va,Vd]
  rcases h with ⟨_,h⟩|⟨_,h⟩
  ·split at h
   ·rename_i t';simp only[Zip,Z4,ZC,Zi,Vc]at h;obtain⟨⟨xs,d7⟩,m1,hS,⟨J,X⟩,m2,hX,u,O,u2,a5,⟨rfl,rfl⟩,_⟩:=h;have y:xs.length+J.length<=549755813888:=X8 (Ht O);obtain⟨n1,n2,n3⟩:=Vkc.1 (Zeg.1 (Ht a5));rw[Xc];exact ZoP A (Hb hk) h0 h1 L D p hz G R C y (Zg1 A (hF.eval s) hS).1 (Zg1 A (hF.eval x) hX).1 (by grind) i
   ·simp [Zb]at h
  split at h
  ·rename_i id ver kt k b9;simp only[Zio,Z4,ZC,Zi,Vc]at h;obtain⟨r,m1,V,xs,c8,⟨J,X⟩,m2,hX,u,O,u2,a5,o',m3,a1,⟨rfl,rfl⟩,_⟩:=h;obtain⟨he,rfl⟩:=D2 c8;obtain⟨t0,row⟩:=r;simp only at he;subst he;have y:row.length+J.length<=549755813888:=X8 (Ht O);have W:¬g.K (nid+1):=fun h=>by have:=hk _ h;unfold Ws at this;omega
   have a8:=b9▸hF.eval s;obtain⟨g2,d8,b1,b5,hI,a3,b7,b6⟩:=Zt0 A a8 V a1 W;obtain⟨_,_,_,_,a7⟩:=Zaw A a8 V;have a0:=ZbR A (hF.eval x) hX;have b3:ZbF w g2 t0 J (a.eval x):=by unfold ZbF at a0⊢;grind
   have a6:¬g2.K nid:=fun h=>by
    rcases a3 _ h with h|h
    ·exact Hb hk h
    ·omega
   have a4:=ZiI (ty:=o.type) (H' :=Kc (Kc (Kc H id (some o')) (nid+1) (some (.vec t0 row))) (nid+1) none) (xs:=row) b1 a6 h0 h1 L D p hz G R C y b3 i (sv:=a.eval s) (.inr ⟨nid+1,rfl,by rw[XM];simp,by
    rcases a7 with ⟨N,h4⟩|⟨b,cap,cs,e,css,N,_,h5,h6,h7,h8,h9⟩
    ·grind
    ·exact .inr ⟨b,cap,cs,e,css,(b7 b).2 (by rw[N];rfl),N,h5,h6,h7,by grind,h9⟩⟩)
   obtain⟨val,w',g',c9,d1,d2,d3,d4,d5,d6⟩:=a4
   have Z:H (nid+1)=none:=by
    cases hh:H (nid+1) with
    |none=>rfl
    |some ob=>exact absurd (A.objs _ _ hh).1 W
   have b0:Kc (Kc (Kc (Kc H id (some o')) (nid+1) (some (.vec t0 row))) (nid+1) none) nid (some (.vec t0 (row++J)))=Zr H [(id,some o'),(nid,some (.vec t0 (row++J)))]:=by
    simp only[Zr];funext q;by_cases q1:q=nid
    ·subst q1;rw[XM,XM]
    ·rw[Ky q1,Ky q1];by_cases q2:q=nid+1
     ·subst q2;rw[XM,Ky (Ne.symm b6),Z]
     ·rw[Ky q2,Ky q2]
   rw[b0]at d2;refine⟨val,w',g',c9,d1,d2,b5.trans d3,by grind,d5,fun q hq=>?_⟩;rcases d6 q hq with h|h
   ·rcases a3 q h with h|h
    ·grind
    ·exact .inr ⟨by omega,by unfold Ws;omega⟩
   omega
  simp only[Zin,Z4,ZC,Zi,Vc]at h;obtain⟨⟨xs,ids⟩,m1,hS,⟨J,X⟩,m2,hX,u,O,⟨rfl,rfl⟩,_⟩:=h
  have y:xs.length+J.length<=549755813888:=by
   unfold ZD at O
   cases hd:decide (xs.length+J.length<=ZE) with
   |true=>exact X8 hd
   |false=>grind
  have hO:=Zep A (hF.eval s) hS;have a0:=ZbR A (hF.eval x) hX
  have hp:Zr H (ids.map (fun id=>(id,none))++[(nid,some (.vec t (xs++J)))])=Kc (Zr H (ids.map fun id=>(id,none))) nid (some (.vec t (xs++J))):=by exact Xc _ _ _
  rw[hp];refine ZiI (ty:=o.type) A (Hb hk) h0 h1 L D p hz G R C y a0 i (sv:=a.eval s) ?_
  ·rcases hO with ⟨rfl,rfl,N⟩|⟨id,rfl,N,h4⟩
   ·exact .inl ⟨rfl,rfl,N⟩
   ·exact .inr ⟨id,rfl,N,h4⟩
 ·simp [Zb]at h
end ops
end Tr
end
section
namespace Tr
open Go
section ops
variable {P:Program}{E:Km}{B:Kd}{H:AH}{w:World}{g:Gh}{ow:Nat->Nat->Prop}{F:Nat->AV}{a:Act}{nid:Nat}{o:Oper}{v:AV}{patch:KB}{rd:List Nat}
theorem Zm1{id:Nat}{x:Option K0}(h:H id=x):Kc H id x=H:=by
 funext k;by_cases e:k=id
 ·subst e;rw[XM,h]
 ·rw[Ky e]
theorem Ztj{h ty f:TypeId}{i:TypeInfo}{argTypes:Array TypeId}(j:argTypes[0]? =some h)(p:P.underlying h=some (.slice f))(e:P.info? f=some i)
 {base b:Option Addr}{n cap m c:Nat}{news:List Value} (d:(Vo i.size (Nat.min m n) (.slice b m c)).run P w=.ok news.toArray w):
 (Vtb argTypes ty #[.slice base n cap,.slice b m c]).run P w=(do (match base with|some a=>storeCells a news|none=>pure ());pure (.int .i64 ((Nat.min m n:Nat):Int)):Sem Value).run P w:=by
 have k:(#[Vi base n cap,Vi b m c]:Array Value)[0]? =some (.slice base n cap):=rfl;have l:(#[Vi base n cap,Vi b m c]:Array Value)[1]? =some (.slice b m c):=rfl;unfold Vtb;simp only[j,k,l,Vb,run_underlying p,Va,Vhc,Vd,Go.sizeOf,typeInfo,run_program,e,d]
 cases base<;>simp [goInt]
theorem Zjp{id lo n m cap:Nat}{t:Ty}{xs z:List (El t)}{base:Option Addr}{xv:Value}{T0 ty Et:TypeId}{ie:TypeInfo}{argTypes:Array TypeId}{r:Result Next}(X:RH B H w g ow)(hH:H id=some (.vec t xs))
 (h0:argTypes[0]? =some T0) (W:P.underlying T0=some (.slice Et)) (a1:P.info? Et=some ie) (a8:ie.size=t.size) (hX:ZbF w g t z xv) (b8:lo+n<=xs.length)
 (hS:n=0\/ ∃b len,g.slv id=.slice (some ⟨b,0,none⟩) len m/\base=some ⟨b,lo*t.size,none⟩)
 (hr:∀val w',(Vtb argTypes ty #[.slice base n cap,xv]).run P w=.ok val w' ->r=.ok (.value val) w'):
 Zx B (Kc H id (some (.vec t (xs.take lo++z.take (min z.length n)++xs.drop (lo+min z.length n))))) w g nid (.d (.int .i64) ((min z.length n:Nat):Int)) r:=by
 obtain⟨xb,c,h,rfl,p,a2⟩:=hX;have hk:Nat.min z.length n=min z.length n:=rfl;generalize b5:min z.length n=k at*;have O:k<=z.length:=by omega
 have b6:k<=n:=by omega
 have b3:(Vo ie.size k (.slice xb z.length c)).run P w=.ok (h.take k).flatten.toArray w:=by
  rw[a8];by_cases D:k=0
  ·subst D
   cases xb with
   |none=>rfl
   |some ad=>exact run_firstCells_some (P:=P) w _ _ ad _ _ [] (by simp) (by simp)
  ·obtain⟨b,off,rfl,hL⟩:=a2 (by grind);have hp:=KH.part (l:=0) (n:=k) (Rd.all_length p) (Nat.zero_le _) hL;simp only[Nat.zero_mul,Vpa,List.drop_zero]at hp;refine run_firstCells_some (P:=P) w _ _ _ _ _ _ ?_ ?_
   ·rw[JV fun c J=>Rd.all_length p c (Vfa J),Vqa, <-p.length,Vda O]
   ·intro j u hj;obtain⟨a3,rfl⟩:=Vw.1 hj;have:=hp j a3;rw[DT, <-this]
 have A:=Ztj (ty:=ty) (base:=base) (n:=n) (cap:=cap) h0 W a1 (by rw[hk];omega);rw[hk]at A;have N:H id≠none:=by grind
 by_cases D:k=0
 ·subst D;have e:xs.take lo++z.take 0++xs.drop (lo+0)=xs:=by simp
  rw[e,Zm1 hH];refine Zx.pure X (val:=.int .i64 ((0:Nat):Int)) (hr _ _ (A.trans ?_)) (Je _ _)
  cases base<;>simp [storeCells]
 ·rcases hS with hS|⟨b,len,U,rfl⟩
  ·omega
  obtain⟨hK,a9,hO⟩:=X.objs id _ hH;rcases hO with ⟨rfl,_⟩|⟨b',b0,cs,e,f,L,G,y,hh,a0,b2,s,rest,a6⟩
  ·grind
  rw[U]at y;simp only[Vi.injEq,Option.some.injEq,Addr.mk.injEq,and_true]at y;obtain⟨rfl,rfl,rfl⟩:=y;have b7:=JV (Rd.all_length s)
  have a4:((h.take k).flatten).length=k*t.size:=by rw[JV fun c J=>Rd.all_length p c (Vfa J),Vqa, <-p.length,Vda O]
  have Q:((f.take lo).flatten).length=lo*t.size:=by rw[JV fun c J=>Rd.all_length s c (Vfa J),Vqa, <-s.length,Vda (by omega)]
  have S:(((f.drop lo).take k).flatten).length=k*t.size:=by rw[JV fun c J=>Rd.all_length s c (by grind),Vqa,List.length_drop, <-s.length,Vda (by omega)]
  have Y:f.flatten=(f.take lo).flatten++(((f.drop lo).take k).flatten++(f.drop (lo+k)).flatten):=by rw[<-Vid, <-Vv,Vma, <-Vv,Vma]
  have C:cs.toList=(f.take lo).flatten++(((f.drop lo).take k).flatten++((f.drop (lo+k)).flatten++rest)):=by
   grind
  have a7:cs.size=lo*t.size+(k*t.size+((f.drop (lo+k)).flatten++rest).length):=by rw[<-Vjb,C,Vn,Vn,Q,S]
  have T:∀u∈(h.take k).flatten,u.oneCell' =true:=by
   intro u W;obtain⟨c1,Z,W⟩:=Vvc.1 W;obtain⟨i,hi,rfl⟩:=Vsa (Vfa Z);have b4:i<z.length:=by rw[p.length];omega
   obtain⟨c',h2,h3⟩:=p.get i z[i] (by simp);rw[Vu hi]at h2;cases h2;exact Rd.oneCell t _ _ h3 u W
  have V:=run_storeCells_at P b (lo*t.size) e (h.take k).flatten 0 cs w hh (by omega) T
  have R:(cs.toList.take (lo*t.size+0)++(h.take k).flatten++cs.toList.drop (lo*t.size+0+(h.take k).flatten.length))=(f.take lo++h.take k++f.drop (lo+k)).flatten++rest:=by rw[Vpa,a4,C, <-Q,Vhd, <-Vid,Vjd, <-S,Vjd];simp
  rw[R]at V
  have a5:=hr _ _ (A.trans (by simp only[Vb,V,Va,Vd];rfl))
  have hs:=X.sep id b N G;have K:Kj g.I w (w.setRow b ((f.take lo++h.take k++f.drop (lo+k)).flatten++rest).toArray):=fun q hq=>setRow_other w b q _ (by grind)
  have M:Fa (Rd (w.setRow b ((f.take lo++h.take k++f.drop (lo+k)).flatten++rest).toArray) g.I t) (xs.take lo++z.take k++xs.drop (lo+k)) (f.take lo++h.take k++f.drop (lo+k)):=
   (((s.take lo).append (p.take k)).append (s.drop (lo+k))).mono fun x c hx=>Rd.mono K (by simp) t x c hx
  have b1:(xs.take lo++z.take k++xs.drop (lo+k)).length=xs.length:=by grind
  refine⟨.int .i64 (k:Int),_,g,ow,.inl a5,X.write N G (fun q hq=>setRow_other w b q _ hq) (size_setRow w b _) rfl rfl ⟨rfl,Vg _⟩ ?_,.refl g,K,Je _ _,by grind⟩;refine⟨a9,.inr ⟨b,m,_,e,_,L,G,by grind,Rs hh,by omega,?_,M,rest,by simp⟩⟩
  grind
theorem Zoq{c:Call}(V:Z9 P E)(x:RH B H w g ow)(hF:Fr w g F a.tmps)(X:o.op=.call c)(W:c.callee=.builtin .copy)
 (h:(ZQ E nid o.op o.type (ZB F)).run H []=some ((v,patch),rd)):Zx B (Zr H patch) w g nid v ((execOp a.eval o).run P w):=by
 rw[X]at h;simp only[ZQ,W]at h;split at h
 ·rename_i d s t J Q
  have f:c.args.map a.eval= #[a.eval d,a.eval s]:=by
   have:c.args= #[d,s]:=by grind
   grind
  obtain⟨T0,U,O⟩:=Vl.1 Q;obtain⟨Et,Z,D⟩:=Jz V O;obtain⟨ie,z,A,C,_⟩:=(V.ty Et _ D).info
  have i:∀val T,(Vtb c.argTypes o.type #[a.eval d,a.eval s]).run P w=.ok val T->(execOp a.eval o).run P w=.ok (.value val) T:=by intro val T i;simp only[execOp,X,Ro W,builtin,f,Vb,i,Va,Vd]
  unfold Ziq at h;split at h
  ·rename_i id R;rw[Z1]at h;split at h
   ·rename_i S xs y;simp only[ZC,Z4,Zi,Vc]at h;obtain⟨e,q,⟨ys,ids⟩,m1,G,⟨rfl,rfl⟩,_⟩:=h;obtain⟨rfl,rfl⟩:=D2 q;have p:=R▸hF.eval d;obtain⟨hK,M⟩:=p.vw;have k:=ZbR x (hF.eval s) G;obtain⟨_,j,hO⟩:=x.objs id _ y
    have K:∃base m,a.eval d=.slice base e.length m/\(e.length=0\/ ∃b len,g.slv id=.slice (some ⟨b,0,none⟩) len m/\base=some ⟨b,0*S.size,none⟩):=by
     grind
    obtain⟨base,m,L,l⟩:=K;have:=Zjp (nid:=nid) (lo:=0) (n:=e.length) (m:=m) (cap:=m) (ty:=o.type) x y U Z A C k (by omega) l (r:=(execOp a.eval o).run P w) (by grind);simpa [Zr] using this
   ·simp [Zb]at h
  ·rename_i id lo n R;rw[Z1]at h;split at h
   ·rename_i S xs y;simp only[ZC,Z4,Zi,Vc]at h;obtain⟨e,q,u,hg,⟨ys,ids⟩,m1,G,⟨rfl,rfl⟩,_⟩:=h;obtain⟨rfl,rfl⟩:=D2 q;have N:lo+n<=e.length:=Vj (Ht hg);have p:=R▸hF.eval d;obtain⟨hK,M⟩:=p.vs;have k:=ZbR x (hF.eval s) G;obtain⟨_,j,_⟩:=x.objs id _ y;rw[j]at M
    have K:∃base m cap,a.eval d=.slice base n cap/\(n=0\/ ∃b len,g.slv id=.slice (some ⟨b,0,none⟩) len m/\base=some ⟨b,lo*S.size,none⟩):=by
     rcases M with ⟨_,_,rfl,hv⟩|⟨b,len,cap,m,Y,h1,h2,h3,hv⟩
     all_goals grind
    obtain⟨base,m,cap,L,l⟩:=K;have:=Zjp (nid:=nid) (lo:=lo) (n:=n) (m:=m) (cap:=cap) (ty:=o.type) x y U Z A C k N l (r:=(execOp a.eval o).run P w) (by grind)
    assumption
   ·simp [Zb]at h
  ·simp [Zb]at h
 ·simp [Zb]at h
theorem Zon{c:Call}(n:Z9 P E)(m:RH B H w g ow)(hF:Fr w g F a.tmps)(l:o.op=.call c)(k:c.callee=.builtin .cap)
 (h:(ZQ E nid o.op o.type (ZB F)).run H []=some ((v,patch),rd)):Zx B (Zr H patch) w g nid v ((execOp a.eval o).run P w):=by
 rw[l]at h;simp only[ZQ,k]at h;split at h
 ·rename_i x T i j
  have b:c.args.map a.eval= #[a.eval x]:=by
   have:c.args= #[x]:=by grind
   grind
  split at h
  ·rename_i s;simp only[ZL,Zb,ZR,Z3,Zi,Vc]at h;obtain⟨e,⟨rfl,rfl⟩,_⟩:=h;have q:=(s▸hF.eval x).nils
   have:∃t,E.ty T=some (.sl t):=by
    cases f:E.ty T with
    |none=>rw[f]at e;simp [Ye]at e
    |some t=>cases t<;>rw[f]at e<;>simp [Ye]at e;simp
   obtain⟨t,f⟩:=this;obtain⟨u,r,_⟩:=Jz n f;refine Zx.pure m (val:=.int .i64 0) ?_ (Je _ _)
   have d:(Vud c.argTypes o.type #[.slice none 0 0]).run P w=.ok (.int .i64 0) w:=by have p:(#[Vi none 0 0]:Array Value)[0]? =some (.slice none 0 0):=rfl;unfold Vud;simp only[j,p,Vb,run_underlying r,Va];rfl
   simp only[execOp,l,Ro k,builtin,b,q,Vb,d,Va,Vd]
  ·simp [Zb]at h
 ·simp [Zb]at h
theorem ZjI{I:Nat->Prop} :∀{y:List Int}{css:List (List Value)},Fa (Rd w I (.int .u8)) y css->css.flatten=y.map (Value.int .u8)
 |[],[],_=>rfl
 |_::_,_::_,⟨h,q⟩=>by rw[Vza,ZjI q,show _=_ from h];rfl
theorem Zop{S T:TypeId}{x:Operand}(l:Z9 P E)(q:RH B H w g ow)(hF:Fr w g F a.tmps)(u:o.op=.convert S T x)
 (h:(ZQ E nid o.op o.type (ZB F)).run H []=some ((v,patch),rd)):Zx B (Zr H patch) w g nid v ((execOp a.eval o).run P w):=by
 rw[u]at h;simp only[ZQ,ZC]at h;obtain⟨s,Q,t,K,h⟩:=h;have p:=hF.eval x;obtain⟨d,O⟩:=Zuw l Q;split at h
 ·rename_i k Y n M;simp only[Zi,Vc]at h;obtain⟨⟨rfl,rfl⟩,_⟩:=h;rw[M]at p;refine Zx.pure q (val:=.int k (k.wrap n)) ?_ (Je _ _);simp only[execOp,u,VR.int p,convert,underlying,Vb,run_program,Va,O,ZmX l K,Vd,Conv.intToInt]
 ·rename_i y M;simp only[Zi,Vc]at h;obtain⟨⟨rfl,rfl⟩,_⟩:=h;rw[M]at p;refine Zx.pure q (val:=.string ⟨y.toArray⟩) ?_ (ZbI _);simp only[execOp,u,VR.str p,convert,underlying,Vb,run_program,Va,O,ZeQ l K,Vd]
 ·simp only[ZL,Zb,ZR,Z3,Ks,Zw.run_bind]at h;obtain⟨rfl,h⟩:=h
  cases N:(G5 (.int .u8) (ZB F x)).run H [] with
  |none=>grind
  |some r=>
   obtain⟨⟨y,ids⟩,Z⟩:=r;rw[N]at h;simp only[Za,Zi,Vc]at h;obtain⟨⟨rfl,rfl⟩,_⟩:=h;obtain⟨z,L,C⟩:=Jz l Q;have j:=ZmX l C;have f:=ZeQ l K;obtain⟨R,c,A,V,D,U⟩:=ZbR q p N;refine Zx.pure q (val:=.string (strOfNums y)) ?_ (ZbI (Zi4 y))
   have key:(convert S T (.slice R y.length c)).run P w=.ok (.string (strOfNums y)) w:=by
    by_cases m:y=[]
    ·subst m
     cases R with
     |none=>exact run_convert_bytes_nil w S z L j _ _ T f
     |some W=>
      rw[run_convert_bytes_string w S T z _ _ _ L j f];rfl
    ·obtain⟨b,off,rfl,e⟩:=U m;have G:=ZjI D;refine run_convert_bytes_arg w S z L j b off _ c y rfl (fun i X=>?_) T f;have J:i<A.flatten.length:=by grind
     rw[e i J,List.getElem_of_eq G]
     grind
   simp only[execOp,u,V,Vb,key,Va,Vd]
 ·simp [Zb]at h
theorem Ztq{len cap m:Nat}{lo:Option Operand}{f s:Operand}{l h:Nat}{j:Int}(hF:Fr w g F a.tmps)(O:m<=cap)
 (q:∀x∈lo,(Wj (ZB F x)).isSome) (p:(Wj (ZB F f)).isSome) (r:Wj (ZB F s)=some j) (d:0<=j/\m=j.toNat)
 (i:sliceB len m (lo.bind fun o=>Wj (ZB F o)) (Wj (ZB F f))=some (l,h)):
 (Vbb true len cap (lo.map a.eval) (some (a.eval f)) (some (a.eval s))).run P w=.ok (l,h,m) w/\l<=h/\h<=m:=by
 have bound:∀(x:Operand) (n:Int) (y:Nat) (code:BoundsCode),Wj (ZB F x)=some n->0<=n->n<=y->(Vca (a.eval x) y code).run P w=.ok n.toNat w:=by intro x n y code J C D;obtain⟨k,G⟩:=ZiL hF J;simp only[Vca,G,asIntOf,Vb,Vd,Va,C,D,and_self,if_true]
 obtain⟨n,z⟩:=Vwa.1 p;unfold sliceB at i;rw[z]at i;simp only[Vl]at i;obtain⟨N,u,b⟩:=i;split at u
 ·rename_i t;cases u;have A:=bound s j cap .slice3Acap r d.1 (by omega);have L:=bound f n m .slice3B z t.1 t.2;rw[<-d.2]at A;unfold Vbb
  cases lo with
  |none=>
   simp only[Veb,Option.some.injEq,Vc]at b;obtain⟨rfl,rfl⟩:=b;refine⟨?_,Nat.zero_le _,by omega⟩
   simp_all
  |some x=>
   obtain⟨K,e⟩:=Vwa.1 (q x rfl);simp only[Za,e]at b;split at b
   ·rename_i c;simp only[Option.some.injEq,Vc]at b;obtain⟨rfl,rfl⟩:=b;have M:=bound x K n.toNat .slice3C e c.1 c.2;refine⟨?_,by omega,by omega⟩
    simp_all
   grind
 grind
theorem ZoK{T:TypeId}{x D mx:Operand}{lo:Option Operand}(C:Z9 P E)(A:RH B H w g ow)(hF:Fr w g F a.tmps)(G:o.op=.slice T x lo (some D) (some mx))
 (h:(ZQ E nid o.op o.type (ZB F)).run H []=some ((v,patch),rd)):Zx B (Zr H patch) w g nid v ((execOp a.eval o).run P w):=by
 rw[G]at h;simp only[ZQ,ZL,Zb,ZR,false_or,Vh,Ve]at h;obtain⟨⟨i,f⟩,h⟩:=h;have i:=ZfN i;have f:(Wj (ZB F D)).isSome:=f;have hx:=hF.eval x;split at h
 ·rename_i id hy;rw[Z1]at h;split at h
  ·rename_i t xs O;simp only[ZL,ZC,Zb,ZR,false_or,Vh,Ks]at h;obtain⟨Y,mi,y,m,W,⟨l,z⟩,J,h⟩:=h
   have S:v=.vs id l (z - l)/\patch=[]:=by
    cases lo with
    |none=>
     simp only[Zi,Vc]at h
     have hl:0=l:=by simp only[sliceB,Veb,Vl,Option.some.injEq,Vc]at J;omega
     grind
    |some x=>
     simp only[Zi,Vc]at h
     grind
   obtain⟨rfl,rfl⟩:=S;obtain⟨s,X,u⟩:=ZaY W;have p:m<=xs.length:=by omega
   obtain⟨L,hu,q⟩:=Jz C Y;obtain⟨hk,R⟩:=(hy▸hx).vw;obtain⟨_,Z,d⟩:=A.objs id _ O
   have key:∃(j:Option Addr) (cap:Nat),g.slv id=.slice j xs.length cap/\xs.length<=cap/\(∀l n m,l+n<=xs.length->l+n<=m->m<=xs.length->Zbk (g.slv id) t.size l n [.slice (if m=l then j else j.map (·.add (l*t.size))) n (m - l)]):=by
    rcases d with ⟨rfl,_,d⟩|⟨b,cap,cs,e,M,_,_,d,_,c,_⟩
    ·refine⟨none,0,d,Vg _,fun l n m k r p=>.inl ⟨d,?_,?_,?_⟩⟩
     all_goals grind
    ·refine⟨_,cap,d,c,fun l n m k r p=>.inr ⟨b,xs.length,cap,m - l,d,k,by omega,by omega,?_⟩⟩;congr 2;by_cases N:m=l
     ·grind
     ·rw[Zf N,Zf (by omega)];simp only[Vm,Option.some.injEq];unfold Addr.add
      grind
   obtain⟨j,cap,hv,c,K⟩:=key;obtain⟨Q,V,U⟩:=Ztq (P:=P) (w:=w) (cap:=cap) hF (by omega) i f y ⟨s,u⟩ J
   refine Zx.pure A (val:=.slice (if m=l then j else j.map (·.add (l*t.size))) (z - l) (m - l)) ?_ (K8 ?_ rfl rfl)
   ·simp only[execOp,G,R,hv,Vra,Vfb,Vm,underlying,Vb,run_program,Va,hu,Vd,Q,(C.ty L t q).run_sizeOf]
   ·simp only[CV]
    grind
  ·simp [Zb]at h
 ·simp [Zb]at h
end ops
end Tr
end
section
namespace Tr
open Go
section ops
variable {P:Program}{E:Km}{B:Kd}{H:AH}{w:World}{g:Gh}{ow:Nat->Nat->Prop}{nid:Nat}{a:Act}{F:Nat->AV}{v:AV}{patch:KB}{rd:List Nat}{o:Oper}
theorem ZqE{L:List MapEntry}(b:(L.map (·.born)).Nodup){i:Nat}{e:MapEntry}(f:L[i]? =some e):L.filter (fun x=>x.born !=e.born)=L.eraseIdx i:=by
 induction L generalizing i with
 |nil=>rfl
 |cons x l h=>
  obtain⟨c,d⟩:=Vzc.1 b
  cases i with
  |zero=>
   simp_all
  |succ i=>
   grind
theorem Zrz(es:Array MapEntry)(seen:Array Nat)(n:Nat):Hv es (seen.push n)=(Hv es seen).filter fun x=>x.born !=n:=by
 unfold Hv;rw[List.filter_filter]
 grind
theorem ZgE(es:Array MapEntry)(seen:Array Nat):(leftOf es seen).toList=Hv es seen:=by unfold leftOf Hv;simp
theorem Zrx(es:Array MapEntry):Hv es #[]=es.toList:=by unfold Hv;simp
theorem Zry{es:Array MapEntry}(h:(es.toList.map (·.born)).Nodup)(seen:Array Nat):((Hv es seen).map (·.born)).Nodup:=
 h.sublist ((List.filter_sublist).map _)
theorem ZoI{T:TypeId}{x:Operand}(M:Z9 P E)(c:RH B H w g ow)(hF:Fr w g F a.tmps)(u:∀id,g.K id->id<nid\/nid+Ws<=id)(A:o.op=.range T x)
 (h:(ZQ E nid o.op o.type (ZB F)).run H []=some ((v,patch),rd)):Zx B (Zr H patch) w g nid v ((execOp a.eval o).run P w):=by
 rw[A]at h;simp only[ZQ,ZC]at h;obtain⟨m,R,h⟩:=h;obtain⟨K,V,U,hK,hV⟩:=M.mty T m R;split at h
 ·rename_i id W;rw[Z1]at h;split at h
  ·rename_i kt vt m J;simp only[Zi,Vc]at h;obtain⟨⟨rfl,rfl⟩,_⟩:=h;obtain⟨_,b,N,O⟩:=(W▸hF.eval x).mp;obtain⟨_,Z,es,clock,j,p,Q,l,t⟩:=c.objs id _ J;rw[N]at j;cases j
   have q:(execOp a.eval o).run P w=.ok (.value (.pointer (some ⟨w.heap.size,0,none⟩))) (w.alloc (.mapIter (some b) clock #[] clock)):=by simp only[execOp,A,Vb,O,run_range_map w T K V b es clock U Q,Va];rfl
   have n:∀k,k<w.heap.size->(w.alloc (.mapIter (some b) clock #[] clock)).heap[k]? =w.heap[k]? :=fun k u=>by show (w.heap.push _)[k]? =_;grind
   have S:(w.alloc (.mapIter (some b) clock #[] clock)).heap.size=w.heap.size+1:=Array.size_push ..;obtain⟨X,p2,Y⟩:=c.sep id b (by grind) p;simp only[Zr];have f:g.Le (g.add nid .ref (some w.heap.size) undef):=Gh.le_add (Hb u) _ _ _;have d:Kj g.I w (w.alloc (.mapIter (some b) clock #[] clock)):=fun k y=>n k (c.ilt k y);refine⟨_,_,g.add nid .ref (some w.heap.size) undef,Xm ow nid (fun k=>k=w.heap.size\/k=b),.inl q,?_,f,d,?_,?_⟩
   ·refine(c.drop id).add (Hb u) n (by omega) rfl rfl ⟨rfl,Vg _⟩ (fun k z=>?_) ?_
    ·rcases z with rfl|rfl
     ·refine⟨fun L=>absurd (c.ilt _ L) (by omega),by omega,.inr c.size,fun i r s=>?_⟩;have:=(c.sep i _ (DE r).2 s).2.1;omega
     ·refine⟨X,by omega,Y,fun i r s=>?_⟩;obtain⟨D,G⟩:=DE r;exact D (c.dist i id _ G (by grind) s p)
    ·refine⟨w.heap.size,b,es,clock,clock, #[],by simp [Gh.add],by simp [Gh.add],.inl rfl,.inr rfl,G3 _ _,by grind,⟨l.1,Vg _,l.2⟩,?_,by simp⟩;rw[Zrx];exact t.mono fun kv e C=>⟨C.1.mono d f,C.2.mono d f⟩
   ·refine K8 ?_ rfl rfl;simp only[CV];exact⟨.inl rfl,0,.ref,w.heap.size,by simp [Gh.add,WE],by simp [Gh.add],rfl⟩
   ·intro id h;rcases h with rfl|h
    ·exact .inr ⟨Vg _,by unfold Ws;omega⟩
    grind
  ·simp [Zb]at h
 ·simp [Zb]at h
theorem Zk5{it:Operand}{id:Nat}{n p:Ty}{cur:Option (El n×El p)}(x:RH B H w g ow)(hF:Fr w g F a.tmps)(C:o.op=.next it false)(D:ZB F it=.ptr id [])(u:H id=some (.rng n p [] cur)):
 (execOp a.eval o).run P w=.ok (.value (.tuple #[.bool false])) w/\VR w g (.tup (.cons (.d .bool false) .nil)) (.tuple #[.bool false]):=by
 obtain⟨_,L,t,b,k,q,y⟩:=(D▸hF.eval it).ptr;obtain⟨_,J,G,es,clock,since,seen,j,c,_,_,z,A,⟨r,s,K⟩,m,_⟩:=x.objs id _ u;rw[j,WE]at k;cases k;rw[q]at c;cases c
 have i:Hv es seen=[]:=by
  cases i:Hv es seen with
  |nil=>rfl
  |cons e l=>rw[i]at m;exact m.elim
 rcases run_next_at (P:=P) w o.type b G since clock seen es clock z A r s with ⟨_,f⟩|⟨e,h,_⟩
 ·refine⟨?_,[.bool false],rfl,.bool false,[],rfl,⟨?_,?_⟩,rfl⟩
  ·simp only[execOp,C,Vb,y,f,Va];rfl
  ·rfl
  ·exact .inr rfl
 ·rw[ZgE,i]at h
  grind
theorem ZoE{it:Operand}(b:RH B H w g ow)(hF:Fr w g F a.tmps)(c:o.op=.next it false)
 (h:(ZQ E nid o.op o.type (ZB F)).run H []=some ((v,patch),rd)):Zx B (Zr H patch) w g nid v ((execOp a.eval o).run P w):=by
 rw[c]at h;simp only[ZQ]at h;split at h
 ·rename_i id i;rw[Z1]at h;split at h
  ·rename_i j k cur f;simp only[Zi,Vc]at h;obtain⟨⟨rfl,rfl⟩,_⟩:=h;obtain⟨d,e⟩:=Zk5 (P:=P) b hF c i f;exact Zx.pure b d e
  ·simp [Zb]at h
 ·simp [Zb]at h
theorem Zor{it:Operand}(n:RH B H w g ow)(hF:Fr w g F a.tmps)(p:o.op=.entry it)
 (h:(ZQ E nid o.op o.type (ZB F)).run H []=some ((v,patch),rd)):Zx B (Zr H patch) w g nid v ((execOp a.eval o).run P w):=by
 rw[p]at h;simp only[ZQ]at h;split at h
 ·rename_i id A;rw[Z1]at h;split at h
  ·rename_i L N rest kv u;simp only[Zi,Vc]at h;obtain⟨⟨rfl,rfl⟩,_⟩:=h;obtain⟨_,M,t,b,m,q,x⟩:=(A▸hF.eval it).ptr;obtain⟨_,D,C,es,clock,since,seen,k,d,_,_,y,z,⟨G,J,r⟩,K,s⟩:=n.objs id _ u;rw[k,WE]at m;cases m;rw[q]at d;cases d;obtain⟨e,i,c,rfl,j,l⟩:=s kv rfl;have f:=run_entry_at (P:=P) w b C since c es clock e y z i r;refine Zx.pure n (val:=.tuple #[e.key,e.val]) ?_ ⟨[e.key,e.val],rfl,e.key,[e.val],rfl,j,e.val,[],rfl,l,rfl⟩;simp only[execOp,p,Vb,x,f,Va];rfl
  ·simp [Zb]at h
 ·simp [Zb]at h
theorem Zsi{it:Operand}{id:Nat}{A C:Ty}{rest:List (El A×El C)}{cur:Option (El A×El C)}(J:RH B H w g ow)(hF:Fr w g F a.tmps)(ho:o.op=.next it false)(hy:ZB F it=.ptr id [])
 (X:H id=some (.rng A C rest cur)) (a1:rest≠ []):∃i kv val w',i<rest.length/\rest[i]? =some kv/\(execOp a.eval o).run P w=.ok (.value val) w' /\RH B (Kc H id (some (.rng A C (rest.eraseIdx i) (some kv)))) w' g ow/\Kj g.I w w' /\
   VR w' g (.tup (.cons (.d .bool true) (.cons (.d A kv.1) (.cons (.d C kv.2) .nil)))) val:=by
 obtain⟨_,o',t,b,O,Q,Y⟩:=(hy▸hF.eval it).ptr;obtain⟨hK,b',n,es,clock,since,seen,u,p,j,r,Z,hm,⟨R,S,T⟩,D,_⟩:=J.objs id _ X;rw[u,WE]at O;cases O;rw[Q]at p;cases p;rcases run_next_at (P:=P) w o.type b n since clock seen es clock Z hm R S with ⟨h0,_⟩|⟨e,h,m,N,s⟩
 ·exfalso
  have hl:Hv es seen=[]:=by
   rw[<-ZgE]
   grind
  rw[hl]at D
  cases rest with
  |nil=>grind
  |cons x l=>assumption
 ·rw[ZgE]at h;obtain⟨i,U⟩:=List.getElem?_of_mem h;have L:i<rest.length:=by rw[D.length];grind
  obtain⟨e2,q,y,z⟩:=D.get i rest[i] (by simp);rw[U]at q;cases q
  have G:Jr w m:=by rcases N with rfl|rfl<;>exact⟨rfl,rfl,rfl,⟨rfl,by simp⟩⟩
  have K:=J.same G;have V:=J.sep id b (by grind) j
  have f:∀k,k≠b->(Go.ChangeMaps.setBlock m b (.mapIter (some n) since (seen.push e.born) clock)).heap[k]? =m.heap[k]? :=by
   intro k hk;show (m.heap.setIfInBounds b _)[k]? =_
   grind
  have c:Kj g.I w (Go.ChangeMaps.setBlock m b (.mapIter (some n) since (seen.push e.born) clock)):=fun k hk=>by rw[f k (by grind),G.heap]
  have a0:b≠n:=by
   grind
  refine⟨i,rest[i],.tuple #[.bool true,e.key,e.val],_,L,by simp,?_,K.write (by grind) j f (by show (m.heap.setIfInBounds b _).size=_;simp) rfl rfl ⟨rfl,Vg _⟩ ?_,c,?_⟩
  ·simp only[execOp,ho,Vb,Y,s,Va];rfl
  ·refine⟨b,n,es,clock,since,seen.push e.born,u,Q,j,r,?_,?_,⟨R,S,T⟩,?_,fun kv M=>?_⟩
   ·show (m.heap.setIfInBounds b _)[b]? =_;rw[Via,Zp rfl,Zp (by rw[G.heap];omega)]
   ·rw[f n (by omega),G.heap];omega
   ·rw[Zrz,ZqE (Zry T seen) U];exact(D.mono fun kv e W=>⟨W.1.mono c (.refl g),W.2.mono c (.refl g)⟩).eraseIdx i
   ·cases M;exact⟨e,(List.mem_filter.1 h).1,seen,rfl,y.mono c (.refl g),z.mono c (.refl g)⟩
  ·exact⟨[.bool true,e.key,e.val],rfl,.bool true,_,rfl,⟨by rfl,.inr rfl⟩,e.key,_,rfl,y.mono c (.refl g),e.val,_,rfl,z.mono c (.refl g),rfl⟩
end ops
end Tr
end
