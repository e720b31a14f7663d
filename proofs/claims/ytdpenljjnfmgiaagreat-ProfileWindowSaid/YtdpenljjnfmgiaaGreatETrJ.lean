/- Operations on addresses and parts. Conditions: the table of types is the program's. -/
import Derived.Laws.StructEq
import Derived.ChangeKeysEq
import Derived.Laws.AppendOwn
import Derived.Laws.BytesArg
import Derived.Maps.RangeRun
import Derived.Test.YtdpenljjnfmgiaaGreatETrA
open Array renaming getElem?_setIfInBounds ->Vca,getElem?_eq_getElem ->Vka,range ->Vpa,getElem?_eq_some_iff ->Vfb,toList_inj ->Vnb,toList_push ->Vac,toList_map ->Vec,map_empty ->Vmc
open Bool renaming and_eq_true ->Ve,not_eq_false' ->Vh,or_eq_false_iff ->Vy,false_eq_true ->Vra,not_false ->Vwb,eq_iff_iff ->Vjc
open Go.Builtin renaming firstCells ->Vm,append_ ->Vw,zeroCells ->Vx,len_ ->Vbb,lenOf ->Vwc,min_ ->Vxc,max_ ->Vyc
open Go.Instr renaming checkKey ->Vr,sliceBound ->Vu,mapUpdate ->Vba,sliceAt ->Vma,lookup ->Vta,sliceBounds ->Vua,slice ->Vxa,buildSlice ->Vya,indexAt ->Vgb,findNow ->Vjb,findAsking ->Vmb,makeSlice ->Vsb,sameNow ->Vxb,keyThatStays ->Vzb,fill ->Vpc,sureAddr ->Vqc,makeFunc ->Vsc,fieldAt ->Vtc,findKey ->Vuc,index ->Vzc
open Go.IntKind renaming i64 ->Vtb
open List renaming replicate ->Vg,length_append ->Vl,getElem?_eq_getElem ->Vs,length_replicate ->Vv,flatten_append ->Vaa,append_assoc ->Vea,ext_getElem? ->Vfa,length ->Vga,nodup_append ->Vha,map_cons ->Vla,getElem?_eq_some_iff ->Vna,mem_singleton ->Vsa,drop_eq_nil_of_le ->Vva,nodup_cons ->Vza,getElem_of_mem ->Vdb,getElem?_append_right ->Veb,flatten_cons ->Vhb,drop_eq_getElem_cons ->Vib,mem_cons ->Vkb,all_eq_true ->Vlb,mem_map ->Vpb,map_map ->Vqb,take_append_drop ->Vub,getElem?_eq_none ->Vvb,length_pos_iff ->Vyb,size_toArray ->Vbc,cons_append ->Vcc,range'_succ ->Vdc,lookup_cons ->Vgc,isEmpty_nil ->Vic,forIn_cons ->Vkc,map_append ->Vlc,mem_append ->Vnc
open Nat renaming le_refl ->Vf,le_of_ble_eq_true ->Vi,zero_add ->Vn,lt_succ_self ->Vz,add_mul ->Voa,add_zero ->Vab,lt_or_ge ->Vob,min_eq_left ->Vrb,beq_eq ->Voc,blt ->Vvc
open Option renaming map_some ->Vj,bind_eq_some_iff ->Vk,map_eq_some_iff ->Vp,map_none ->Vq,getD_some ->Vt,isSome_iff_exists ->Vqa,bind_none ->Vfc,map_map ->Vrc
open Prod renaming fst ->Vja
open Prod.mk renaming injEq ->Vb,inj ->Vda
open Go.Result renaming andThen_ok ->Va
open Go.Sem renaming run_bind ->Vc,run_pure ->Vd,run ->Vcb
open Go.Value renaming slice ->Vo,oneCell' ->Via,cells ->Vwa
open Go.World renaming cell? ->Vhc
open Option renaming some ->Ua,none ->Ub
open Bool renaming true ->Uc,false ->Ud
open Decidable renaming decide ->Ue
section
namespace Tr
open Go
theorem ZqD:∀p t o c,ZV t p=Ua (o,c)->H3 t p=Ua c:=by
 intro p t
 induction t generalizing p with
 |prod a b f j=>
  intro o c h
  match p with
  |[]=>obtain⟨rfl,rfl⟩:=Vda (Kx h);rfl|0::p=>simpa only[H3] using f p o c h|(n+1)::p=>
   simp only[ZV,Vp]at h;have⟨r,d,e⟩:=h;obtain⟨rfl,rfl⟩:=Vda e
   simpa only[H3] using j (n::p) r.1 r.2 d
 |arr n t k=>
  intro o c h
  match p with
  |[]=>obtain⟨rfl,rfl⟩:=Vda (Kx h);rfl|i::p=>
   simp only[ZV]at h;split at h;.simp only[Vp]at h;have⟨r,d,e⟩:=h;obtain⟨rfl,rfl⟩:=Vda e;simpa only[H3] using k p r.1 r.2 d
   grind
 |_=>
  intro o c h
  match p with|[]=>obtain⟨rfl,rfl⟩:=Vda (Kx h);rfl|_::_=>simp[ZV]at h
theorem Zen:∀p t q o e d f,ZV t p=Ua (o,e)->ZV e q=Ua (d,f)->ZV t (p++q)=Ua (o+d,f):=by
 intro p t
 induction t generalizing p with
 |prod a b k l=>
  intro q o e d f c h
  match p with
  |[]=>
   rw[WW]at c
   grind|0::p=>
   simpa[ZV] using k p q o e d f c h|(n+1)::p=>
   simp only[ZV,Vp]at c;have⟨r,c,j⟩:=c;obtain⟨rfl,rfl⟩:=Vda j;simp only[Vcc,ZV]
   grind
 |arr n t s=>
  intro q o e d f c h
  match p with
  |[]=>
   rw[WW]at c
   grind|i::p=>
   simp only[ZV]at c;split at c;.rename_i m;simp only[Vp]at c;have⟨r,c,j⟩:=c;obtain⟨rfl,rfl⟩:=Vda j;simp only[Vcc,ZV,Vp];grind
   grind
 |_=>
  intro q o e d f c h
  match p with
  |[]=>
   rw[WW]at c
   grind|_::_=>simp[ZV]at c
theorem D8 b o n:(⟨b,o,Ub⟩:Addr).add n=⟨b,o+n,Ub⟩:=by unfold Addr.add;simp
theorem Zd5{α}{xs n}{y:α}(h:idx xs n=Ua y):0<=n/\xs[n.toNat]? =Ua y/\n<xs.length:=by unfold idx at h;grind
theorem ZbG{n m j}(h:Zo n m=Ua j):0<=n/\n<m/\j=n.toNat:=by unfold Zo at h;grind
section ops
variable {P:Program}{E:Kh}{B:KR}{H:AH}{w:X}{g:Gh}{ow:Nat->Nat->Prop}{nid:Nat}{a:Act}{F:Nat->AV}{v:AV}{patch:Wm}{rd:V Nat}{o:Oper}
theorem ZfX{T f:Nat}{t r}(h:Jq P E.ty T t)(q:ZV t [f]=Ua r)(y:∀n e,t≠ .arr n e):
 ∃i fd,P.underlying T=some (.struct i)∧i[f]? =some fd∧fd.offset=r.1∧E.ty fd.type=some r.2∧fd.name≠ "_" :=by
 have c:=h.shape
 cases t with
 |prod a b=>
  cases s:P.underlying T with
  |none=>rw[s]at c;simp[Ka]at c|some d=>
   rw[s]at c
   cases d with
   |struct i=>
    simp only[Ka,Ve,Vlb,List.mem_range]at c;have u:f<i.size:=by
     obtain h|h:=Vob f i.size;.exact h
     exfalso;have key:∀t k m,(ZV t [k]).isNone=Uc->t.chain=Uc->k<=m->(ZV t [m]).isNone=true:=by
      intro t
      induction t with
      |prod a b _ p=>
       intro k m j l x
       cases k with
       |zero=>simp[ZV]at j|succ k=>
        cases m with
        |zero=>omega|succ m=>
         simp only[ZV,Option.isNone_map]at j⊢
         exact p k m j l (by omega)
      |unit=>intro k m _ _ _;rfl|_=>intro k m _ l;simp[Ty.chain]at l
     have:=key (.prod a b) _ f c.1.2 c.2 h;grind
    grind
   |_=>simp[Ka]at c
 |unit=>simp[ZV]at q|arr n e=>grind|_=>simp[ZV]at q
theorem ZnF{t:Ty}(h:t.isStruct=Uc):∀n e,t≠ .arr n e:=by rintro n e rfl;simp[Ty.isStruct]at h
theorem ZvT{t:Ty}(h:t.isStruct=Uc):t.agg=true:=by
 cases t<;>simp_all[Ty.isStruct,Ty.agg]
theorem Zyw{T f:Nat}{c fd e b d}(l:Z0 P E)(h:P.underlying T=Ua (.struct c))(i:c[f]? =Ua fd)(j:E.ty fd.type=Ua e)(k:e.size≠0):
 (Vtc T (.pointer (Ua ⟨b,d,Ub⟩)) f).run P w=.ok (.pointer (Ua ⟨b,d+fd.offset,Ub⟩)) w:=by
 simp[Vtc,underlying,h,i,Vqc,fieldPlace,(l.ty _ _ j).run_sizeOf,k,D8]
theorem KH.sub{b off pre c post}(h:KH w b off (pre++c++post)):KH w b (off+pre.length) c:=by intro j d;have:=h (pre.length+j) (by grind);grind
theorem Zlx{T f:Nat}{x}(hT:Z0 P E)(J:RH B H w g ow)(hF:Fr w g F a.tmps)(ho:o.op=.fieldAddr T x f)
 (h:(ZP E nid o.op o.type (Zz F)).run H []=Ua ((v,patch),rd)):Zv B (Zu H patch) w g nid v ((execOp a.eval o).run P w):=by
 rw[ho]at h;simp only[ZP,ZD,ZN,Zb,ZW,false_or,Vy,Vh]at h;have⟨t,ht,r,Q,⟨a9,a7⟩,h⟩:=h;have a1:r.2.size≠0:=by intro e;simp_all
 have⟨fs,fd,h1,h2,h3,h4,_⟩:=ZfX (hT.ty T t ht) Q (ZnF a7);have hx:=hF.eval x;have key:∀{b z},a.eval x=.pointer (Ua ⟨b,z,Ub⟩)->(execOp a.eval o).run P w=.ok (.value (.pointer (Ua ⟨b,z+r.1,Ub⟩))) w:=by intro b z he;simp[execOp,ho,he,Vc,Zyw hT h1 h2 h4 a1,Va,Vd,h3]
 split at h;.rename_i t' y L;simp only[ZN,ZY,Zr,Zb,ZW,Z7,Kp,Vb]at h;obtain⟨rfl,u,m,j,⟨rfl,rfl⟩,_⟩:=h;have⟨b,off,c,C,D,M,S⟩:=(L▸hx).dp;have⟨_,c1,⟨o2,pre,post,R,a4,a5⟩,a6⟩:=Zgb [f] t' y _ _ u c j S;rw[Q]at R;cases R;refine Zv.pure J (key C) (KT ?_ rfl rfl);simp only[CV];refine⟨b,off+o2,c1,rfl,D,?_,a6⟩;rw[<-a5];rw[a4]at M;exact M.sub
 .rename_i id p L;rw[ZZ]at h;split at h
  .rename_i t0 c U;simp[ZD,ZN,Zr,Zb,ZW,Z7,Kp,Vb]at h;obtain⟨q,l,rfl,⟨rfl,rfl⟩,_⟩:=h;have⟨K,z,t1,b,j,C,D⟩:=(L▸hx).ptr;have⟨_,d,_⟩:=J.objs id _ U;rw[d]at j;have e1:=(ZqD _ _ _ _ j).symm.trans l;obtain rfl:=Kx e1;refine Zv.pure J (key D) (KT ?_ rfl rfl);simp only[CV];exact⟨K,z+r.1,r.2,b,by rw[d];exact Zen p t0 [f] _ _ _ _ j Q,C,rfl⟩
  .rename_i tn tq lt lb c U;simp only[ZN,Zr,Zb,ZW,Z7,Vb]at h;obtain⟨l,⟨rfl,rfl⟩,_⟩:=h;have⟨K,z,t1,b,j,C,D⟩:=(L▸hx).ptr;have⟨_,d,_⟩:=J.objs id _ U;refine Zv.pure J (key D) (KT ?_ rfl rfl);simp only[CV];have a0:∃u,ZV (g.ty id) (p++[f])=Ua (z+r.1,u):=by
    have e1:=ZqD _ _ _ _ j
    cases p with
    |nil=>
     rw[WW]at j;obtain⟨rfl,rfl⟩:=Vda (Kx j);simp only[Bool.or_eq_true,Kp]at l;rw[Vn,List.nil_append];have a3:∀A B,(A=Jn tn tq lt lb\/A=Yx tn tq lt lb)->(B=Jn tn tq lt lb\/B=Yx tn tq lt lb)->∀r,ZV A [f]=Ua r->∃u,ZV B [f]=Ua (r.1,u):=by
      intro A B N O r h;have e:(ZV A [f]).map Vja=(ZV B [f]).map Vja:=by
       match f with|0|1|2|3=>obtain rfl|rfl:=N<;>obtain rfl|rfl:=O<;>simp[Jn,Yx,ZV]|4|5=>obtain rfl|rfl:=N<;>obtain rfl|rfl:=O<;>simp[Jn,Yx,ZV,Ty.size]|n+6=>obtain rfl|rfl:=N<;>obtain rfl|rfl:=O<;>simp[Jn,Yx,ZV]
      rw[h]at e
      cases hb:ZV B [f] with|none=>rw[hb]at e;simp at e|some s=>rw[hb]at e;simp only[Vj,Z4]at e;exact⟨s.2,by rw[e]⟩
     exact a3 t (g.ty id) (l.imp Eq.symm Eq.symm) d r Q
    |cons i p=>
     simp only[Ve,Kp]at l;have⟨hi,l⟩:=l;have hi:i<3:=by simpa using hi
     have e2:H3 (g.ty id) (i::p)=H3 (Jn tn tq lt lb) (i::p):=by
      obtain d|d:=d;.rw[d]
      rw[d]
      match i,hi with|0,_|1,_|2,_=>simp[Jn,Yx,H3]
     rw[e2,l]at e1;obtain rfl:=Kx e1;exact⟨r.2,Zen (i::p) _ [f] _ _ _ _ j Q⟩
   have⟨u,hu⟩:=a0;exact⟨K,z+r.1,u,b,hu,C,rfl⟩
  simp[Zb]at h
 .rename_i id i p L;rw[ZZ]at h;split at h
  .rename_i t0 xs U;simp only[ZD,ZN,Zr,Zb,ZW,Z7,Kp,Vb]at h;obtain⟨q,l,rfl,⟨rfl,rfl⟩,_⟩:=h;have⟨K,z,t1,b,j,C,D⟩:=(L▸hx).vp;have⟨_,d,_⟩:=J.objs id _ U;have a8:=l;rw[d,l]at j;cases j;refine Zv.pure J (key D) (KT ?_ rfl rfl);simp only[CV];exact⟨K,z+r.1,r.2,b,by rw[d];exact Zen p t0 [f] _ _ _ _ l Q,C,by grind⟩
  simp[Zb]at h
 .rename_i id ver kt k i p L;simp only[ZD,ZY,ZN,Zr,Zb,ZW,Z7,Kp,Vb]at h;obtain⟨s,m,W,q,l,rfl,⟨rfl,rfl⟩,_⟩:=h;have⟨K,hv,ad,j,C⟩:=(L▸hx).np;have⟨_,d,a2,_⟩:=Zfa J K W;have⟨b,len,cap,z,t1,D,M,S⟩:=C a2;rw[d]at M S;simp only[RZ]at M S;rw[l]at M;cases M;subst S;refine Zv.pure J (key j) (KT ?_ rfl rfl);simp only[CV];refine⟨K,hv,_,rfl,λ_=>⟨b,len,cap,z+r.1,r.2,D,?_,?_⟩⟩
  .rw[d];exact Zen p s.1 [f] _ _ _ _ l Q
  rw[d];simp only[RZ];grind
 simp[Zb]at h
theorem Za7{T t}(d:Jq P E.ty T t){cs pre c post}(b:cs.toList=pre++c++post)(h:c.length=t.size)(e:t.agg=Ud->∃v,c=[v]):
 (part T cs pre.length).run P w=.ok (Rj t.agg c) w:=by
 simp[part,d.run_isAgg]
 cases f:t.agg with
 |true=>
  simp[d.run_sizeOf,Rj];congr 2;apply Array.ext'
  simp_all|false=>
  obtain⟨u,rfl⟩:=e f;have:cs[pre.length]? =Ua u:=by rw[<-Array.getElem?_toList,b,Vea,Veb (by omega)];simp
  simp[this,Rj]
theorem Dt{x val}(h:Kw w g x val)(d:x.isAgg=Uc)(e:x≠ .junk):∃cs,val=.agg cs/\CV w g x cs.toList:=by
 have⟨c,b⟩:=h;obtain b|b:=b;.grind
 rw[d]at b;cases val<;>simp[Kb]at b;exact⟨_,rfl,c⟩
theorem Zse{T f:Nat}{x}(q:Z0 P E)(J:RH B H w g ow)(hF:Fr w g F a.tmps)(s:o.op=.field T x f)
 (h:(ZP E nid o.op o.type (Zz F)).run H []=Ua ((v,patch),rd)):Zv B (Zu H patch) w g nid v ((execOp a.eval o).run P w):=by
 rw[s]at h;simp only[ZP,ZD,ZN,Zb,ZW,false_or,Z7,Vy,Vh,ZY,Zr,Vb,Ve]at h;obtain⟨t,N,r,u,⟨⟨c,d⟩,b⟩,Q,m,M,⟨W,l⟩,⟨rfl,rfl⟩,_⟩:=h;have⟨R,fd,z,A,S,C,_⟩:=ZfX (q.ty T t N) u (ZnF c);have⟨cs,L,K⟩:=Dt ((hF.eval x).to1 (ZcH d).2) (by rw[Zf0 d b,ZvT c]) (ZcH d).1;have⟨_,O,y,⟨o2,pre,post,n,D,U⟩,k,p⟩:=Zf9 M d K;rw[u]at n;cases n;have⟨e,i⟩:=Zdt p k (Zf0 k l);refine Zv.pure J ?_ (VR.of1 e);have j:fd.offset=pre.length:=by omega
 simp[execOp,s,Instr.field,underlying,z,A,L,asAgg,j,Za7 (q.ty _ _ C) D (CV.length Q O y k p) i]
theorem Ju{T t}(f:Z0 P E)(h:E.ty T=Ua (.sl t)):∃c,P.underlying T=Ua (.slice c)/\E.ty c=Ua t:=by
 have b:=(f.ty T _ h).shape
 cases e:P.underlying T with|none=>rw[e]at b;simp[Ka]at b|some d=>rw[e]at b;cases d<;>simp[Ka]at b;grind
theorem ZdB{T t n}(f:Z0 P E)(h:E.ty T=Ua (.arr n t)):∃c,P.underlying T=Ua (.array n c)/\E.ty c=Ua t:=by
 have b:=(f.ty T _ h).shape
 cases e:P.underlying T with|none=>rw[e]at b;simp[Ka]at b|some d=>rw[e]at b;cases d<;>simp[Ka]at b;grind
theorem ZbX{T c t}{b d len cap:Nat}{k}{n:Int}(i:Z0 P E)(f:P.underlying T=Ua (.slice c))(h:E.ty c=Ua t)(e:0<=n)(j:n<len):
 (Vgb T (.slice (Ua ⟨b,d,Ub⟩) len cap) (.int k n)).run P w=.ok (.pointer (Ua ⟨b,d+n.toNat*t.size,Ub⟩)) w:=by
 simp[Vgb,asIntOf,underlying,f,e,j,(i.ty _ _ h).run_sizeOf,D8]
theorem Zp0{T c t b d m k}{n:Int}(i:Z0 P E)(f:P.underlying T=Ua (.array m c))(h:E.ty c=Ua t)(e:0<=n)(j:n<m):
 (Vgb T (.pointer (Ua ⟨b,d,Ub⟩)) (.int k n)).run P w=.ok (.pointer (Ua ⟨b,d+n.toNat*t.size,Ub⟩)) w:=by
 simp[Vgb,asIntOf,underlying,Vqc,f,e,j,(i.ty _ _ h).run_sizeOf,D8]
theorem ZiZ{I t xs css b off}(h:Fa (Rd w I t) xs css)(d:KH w b off css.flatten){i y}(j:xs[i]? =Ua y):
 ∃c,Rd w I t y c/\KH w b (off+i*t.size) c:=by
 have⟨c,e,f⟩:=h.get i y j;have⟨k,l,_⟩:=ZaP e t.size (Rd.all_length h);refine⟨c,f,?_⟩;rw[k]at d;rw[<-l];exact d.sub
theorem Zho{id t xs val}(h:RH B H w g ow)(f:H id=Ua (.dat t xs))(c:VR w g (.vw id) val):VR w g (.d (.sl t) xs) val:=by
 have⟨_,_,i⟩:=h.objs id _ f;have e:=(c.to1 (by simp)).1;simp[CV]at e;rw[<-c.vw.2]at i;have b:val.oneCell' =true:=by rw[c.vw.2];grind
 exact KT (by assumption) b rfl
theorem Zsg{T:Nat}{x i}(C:Z0 P E)(M:RH B H w g ow)(hF:Fr w g F a.tmps)(ho:o.op=.indexAddr T x i)
 (h:(ZP E nid o.op o.type (Zz F)).run H []=Ua ((v,patch),rd)):Zv B (Zu H patch) w g nid v ((execOp a.eval o).run P w):=by
 rw[ho]at h;simp only[ZP,ZD]at h;have⟨T',s,h⟩:=h;have hx:=hF.eval x;have hi:=hF.eval i;split at h
 .rename_i t xs k n d f;simp only[ZN,ZD,Zr,Zb,ZW,Z7,Kp,Vb]at h;obtain⟨rfl,y,hy,⟨rfl,rfl⟩,_⟩:=h;have⟨J,R,D⟩:=Zd5 hy;have⟨Et,K,L⟩:=Ju C s;have⟨ad,cap,N,A,h4,S,_⟩:=(d▸hx).sl;obtain⟨b,off,rfl,h6,U⟩:=S (by grind);have⟨c,h8,h9⟩:=ZiZ h4 U R;refine Zv.pure (val:=.pointer (Ua ⟨b,off+n.toNat*t.size,Ub⟩)) M ?_ (KT ?_ rfl rfl)
  .simp only[execOp,ho,A,(f▸hi).int,Vc,ZbX C K L J D,Va,Vd]
  simp only[CV];grind
 .rename_i id k n d f;rw[ZZ]at h;split at h
  .rename_i t xs W;simp only[ZN,ZD,Zr,Zb,ZW,Z7,Kp,Vb]at h;obtain⟨rfl,j,hj,⟨rfl,rfl⟩,_⟩:=h;obtain⟨J,D,rfl⟩:=ZbG hj;have⟨Et,K,L⟩:=Ju C s;have⟨hk,z⟩:=(d▸hx).vw;have⟨_,l,hO⟩:=M.objs id _ W;obtain⟨rfl,_⟩|⟨b,cap,cs,e,N,hb,hJ,hs,hh,hl,O,a1,Q⟩:=hO
   .grind
   refine Zv.pure (val:=.pointer (Ua ⟨b,0+n.toNat*t.size,Ub⟩)) M ?_ (KT ?_ rfl rfl);.simp only[execOp,ho,z,hs,(f▸hi).int,Vc,ZbX C K L J D,Va,Vd]
   simp only[CV];exact⟨hk,0,t,b,by rw[l,WW],hb,by grind⟩
  .rename_i t xs u a5 W;simp only[ZN,ZD,Zr,Zb,ZW,Z7,Kp,Vb]at h;obtain⟨rfl,j,hj,⟨rfl,rfl⟩,_⟩:=h;obtain⟨J,D,rfl⟩:=ZbG hj;have⟨Et,K,L⟩:=Ju C s;have⟨hk,z⟩:=(d▸hx).vw;have⟨_,l,_,_,hO⟩:=M.objs id _ W;obtain⟨rfl,_⟩|⟨b,cap,cs,e,hb,hJ,hs,hh,hl,O,Q⟩:=hO
   .grind
   refine Zv.pure (val:=.pointer (Ua ⟨b,0+n.toNat* (Ty.sl t).size,Ub⟩)) M ?_ (KT ?_ rfl rfl);.simp only[execOp,ho,z,hs,(f▸hi).int,Vc,ZbX C K L J D,Va,Vd]
   simp only[CV];exact⟨hk,0,.sl t,b,by rw[l,WW],hb,by grind⟩
  .rename_i t xs W;simp only[ZN,ZD,Zr,Zb,ZW,Z7,Kp,Vb]at h;obtain⟨rfl,y,hy,⟨rfl,rfl⟩,_⟩:=h;have⟨J,R,D⟩:=Zd5 hy;have⟨Et,K,L⟩:=Ju C s;have⟨ad,cap,N,A,h4,S,_⟩:=(Zho M W (d▸hx)).sl;obtain⟨b,off,rfl,h6,U⟩:=S (by grind);have⟨c,h8,h9⟩:=ZiZ h4 U R;refine Zv.pure (val:=.pointer (Ua ⟨b,off+n.toNat*t.size,Ub⟩)) M ?_ (KT ?_ rfl rfl)
   .simp only[execOp,ho,A,(f▸hi).int,Vc,ZbX C K L J D,Va,Vd]
   simp only[CV];grind
  simp[Zb]at h
 .rename_i id ver kt k k2 n d f;simp only[ZY,ZN,ZD,Zr,Zb,ZW,Z7,Kp,Vb]at h;obtain⟨r,m,a0,rfl,j,hj,⟨rfl,rfl⟩,_⟩:=h;obtain⟨J,D,rfl⟩:=ZbG hj;have⟨Et,K,L⟩:=Ju C s;have⟨hk,hv,_,_⟩:=(d▸hx).nw;have⟨_,l,a6,a9,a2⟩:=Zce M (d▸hx) a0;obtain⟨A,_⟩|⟨b,cap,cs,e,N,A,hJ,hh,hl,O,a1,Q⟩:=a2
  .grind
  refine Zv.pure (val:=.pointer (Ua ⟨b,0+n.toNat*r.1.size,Ub⟩)) M ?_ (KT ?_ rfl rfl);.simp only[execOp,ho,A,(f▸hi).int,Vc,ZbX C K L J D,Va,Vd]
  simp only[CV];refine⟨hk,hv,_,rfl,λ_=>⟨b,r.2.length,cap,0,r.1,by grind,by rw[l,WW];rfl,by rw[l];simp[RZ]⟩⟩
 .rename_i id lo m k n d f;rw[ZZ]at h;split at h
  .rename_i t xs W;simp only[ZN,ZD,Zr,Zb,ZW,Z7,Kp,Vb]at h;obtain⟨rfl,_,a8,j,hj,⟨rfl,rfl⟩,_⟩:=h;obtain⟨J,D,rfl⟩:=ZbG hj;have⟨Et,K,L⟩:=Ju C s;have⟨hk,z⟩:=(d▸hx).vs;have⟨_,l,hO⟩:=M.objs id _ W;obtain⟨rfl,hb,hs⟩|⟨b,cap,cs,e,N,hb,hJ,hs,hh,hl,O,a1,Q⟩:=hO
   .exfalso;rw[hs]at z;obtain⟨_,_,rfl,_⟩|⟨b,len,cap,m',A,_⟩:=z;all_goals grind
   rw[hs,l]at z;obtain⟨A,_⟩|⟨b',len,a3,m',A,h4,S,h6,U⟩:=z;.omega
   injection A with A a7 a4;injection A with A;cases A;have hm:m' ≠0:=by omega
   rw[Zg hm]at U;have he:a.eval x=.slice (Ua ⟨b,lo*t.size,Ub⟩) m m' :=by grind
   refine Zv.pure (val:=.pointer (Ua ⟨b,lo*t.size+n.toNat*t.size,Ub⟩)) M ?_ (KT ?_ rfl rfl);.simp only[execOp,ho,he,(f▸hi).int,Vc,ZbX C K L J D,Va,Vd]
   simp only[CV];exact⟨hk,0,t,b,by rw[l,WW],hb,by grind⟩
  simp[Zb]at h
 .rename_i m t xs k n d f;simp only[ZN,ZD,Zr,Zb,ZW,Z7,Kp,Vb]at h;obtain⟨rfl,y,hy,⟨rfl,rfl⟩,_⟩:=h;have⟨J,R,D⟩:=Zd5 hy;have⟨Et,K,L⟩:=ZdB C s;obtain⟨b,off,c,A,h4,S,h6,N,rfl,U⟩:=(d▸hx).dp;rw[h6]at D;have⟨c,h8,h9⟩:=ZiZ U S R;refine Zv.pure (val:=.pointer (Ua ⟨b,off+n.toNat*t.size,Ub⟩)) M ?_ (KT ?_ rfl rfl)
  .simp only[execOp,ho,A,(f▸hi).int,Vc,Zp0 C K L J D,Va,Vd]
  simp only[CV];grind
 .rename_i id p k n d f;rw[ZZ]at h;split at h
  .rename_i t0 c W;simp only[ZD]at h;have⟨q,hq,h⟩:=h;split at h
   .rename_i m t hm;simp only[ZN,ZD,Zr,Zb,ZW,Z7,Kp,Vb]at h;obtain⟨rfl,j,hj,⟨rfl,rfl⟩,_⟩:=h;obtain⟨J,D,rfl⟩:=ZbG hj;have⟨Et,K,L⟩:=ZdB C s;have⟨hk,o',t1,b,S,h6,U⟩:=(d▸hx).ptr;have⟨_,l,_⟩:=M.objs id _ W;rw[l,hq]at S;cases S;simp only at hm;subst hm;refine Zv.pure (val:=.pointer (Ua ⟨b,o' +n.toNat*t.size,Ub⟩)) M ?_ (KT ?_ rfl rfl)
    .simp only[execOp,ho,U,(f▸hi).int,Vc,Zp0 C K L J D,Va,Vd]
    simp only[CV];refine⟨hk,o' +n.toNat*t.size,t,b,?_,h6,rfl⟩;rw[l];have:ZV (.arr m t) [n.toNat]=Ua (n.toNat*t.size,t):=by simp only[ZV];grind
    exact Zen p t0 [n.toNat] _ _ _ _ hq this
   simp[Zb]at h
  simp[Zb]at h
 simp[Zb]at h
theorem Zsf{T:Nat}{x i}(p:Z0 P E)(M:RH B H w g ow)(hF:Fr w g F a.tmps)(D:o.op=.index T x i)
 (h:(ZP E nid o.op o.type (Zz F)).run H []=Ua ((v,patch),rd)):Zv B (Zu H patch) w g nid v ((execOp a.eval o).run P w):=by
 rw[D]at h;simp[ZP,ZD]at h;have⟨T',j,h⟩:=h;have Q:=hF.eval x;have N:=hF.eval i;split at h;.rename_i m t xs k n e b;simp[ZN,ZD,Zr,Zb,ZW,Z7,Kp,Vb,Ve]at h;obtain⟨⟨rfl,a1⟩,y,J,⟨rfl,rfl⟩,_⟩:=h;have⟨s,l,C⟩:=Zd5 J;have⟨Et,R,K⟩:=ZdB p j;have⟨cs,he,hc⟩:=Dt (e▸Q) rfl (by simp);have⟨S,f,h7,L⟩:=hc;rw[S]at C;have⟨c,U,u⟩:=L.get _ y l;have⟨s1,s2,_⟩:=ZaP U t.size (Rd.all_length L);obtain⟨z,A⟩:=Zdt (w:=w) (g:=g) (a:=.d t y) (t:=t) (by assumption) (by simp[AV.fits]) rfl;refine Zv.pure M ?_ (VR.of1 z);have O:=Za7 (w:=w) (p.ty _ _ K) (cs:=cs) (pre:=(f.take n.toNat).flatten) (c:=c) (post:=(f.drop (n.toNat+1)).flatten) (by grind) (Rd.length t y c u) A;rw[s2]at O;simp[execOp,D,he,(b▸N).int,Vzc,asIntOf,underlying,Vc,run_program,Va,R,Vd,s,C,and_self,if_true,(p.ty _ _ K).run_sizeOf,O]
 .rename_i xs k n e b;simp[ZN,ZD,Zr,Zb,ZW,Z7,Kp,Vb]at h;obtain⟨rfl,y,J,⟨rfl,rfl⟩,_⟩:=h;have⟨s,l,C⟩:=Zd5 J;have r:P.underlying T=Ua .string:=by
   have q:=(p.ty T _ j).shape
   cases r:P.underlying T with|none=>rw[r]at q;simp[Ka]at q|some d=>rw[r]at q;cases d<;>simp[Ka]at q;rfl
  refine Zv.pure M ?_ (Xb _ _);have W:(⟨xs.toArray⟩:ByteArray)[n.toNat]? =Ua y:=by
   have a0:n.toNat<xs.length:=by omega
   have a2:xs[n.toNat]=y:=by grind
   rw[getElem?_pos (⟨xs.toArray⟩:ByteArray) n.toNat (by assumption)];congr 1
  simp[execOp,D,(e▸Q).str,(b▸N).int,Vzc,asIntOf,underlying,Vc,run_program,Va,r,Vd,s,if_true,W]
 simp[Zb]at h
end ops
theorem Ty.depth_pos(t:Ty):1<=t.dep:=by
 induction t with|prod a b _ d=>simp[Ty.dep];omega|arr _ _ _|sl _ _=>simp only[Ty.dep];omega|_=>simp[Ty.dep]
section
variable {P:Program}{E:Kh}{w:X}{g:Gh}
theorem ZkE l:(⟨l.toArray⟩:ByteArray).toList=l:=by rw[ByteArray.toList_eq]
theorem Zm7{T f:Nat}{t e}(h:Jq P E.ty T t)(k:P.underlying T=Ua (.struct e))(d:f<e.size):∃r,ZV t [f]=Ua r:=by
 have c:=h.shape;rw[k]at c
 cases t with
 |prod a b=>
  simp[Ka,Vlb]at c;have i:=c.1.1 f d;rw[Vka d]at i
  cases j:ZV (.prod a b) [f] with|none=>simp[j]at i|some r=>exact⟨r,rfl⟩
 |unit=>
  simp[Ka]at c;subst c
  simp at d|_=>simp[Ka]at c
theorem ZcQ{t x c}(h:Rd w g.I t x c):Kw w g (.d t x) (Rj t.agg c)/\(t.agg=Ud->∃v,c=[v]):=
 Zdt (by simpa only[CV] using h) (by simp[AV.fits]) rfl
theorem ZpX(hT:Z0 P E):∀N t T (x y:El t) vx vy r d,sizeOf t<N->E.ty T=Ua t->t.dep<=d->eqEl t x y=Ua r->
 Kw w g (.d t x) vx->Kw w g (.d t y) vy->(Op.equalIn d T vx vy).run P w=.ok r w:=by
 intro N
 induction N with
 |zero=>intro t T x y vx vy r d h;omega|succ N ih=>
 intro t T x y vx vy r d hN ht hd c hx hy;obtain⟨d,rfl⟩:∃d',d=d' +1:=⟨d - 1,by have:=t.depth_pos;omega⟩;have s:=hT.ty T t ht
 cases t with
 |int k=>
  have l:P.underlying T=Ua (.int k):=by
   have j:=s.shape
   cases l:P.underlying T with|none=>rw[l]at j;simp[Ka]at j|some d=>rw[l]at j;cases d<;>simp[Ka]at j;rw[j]
  rw[(VR.of1 hx).int,(VR.of1 hy).int,run_equalIn_int w d T k k x y l];simp only[eqEl,Z4]at c
  subst c;rfl
 |bool=>
  have l:P.underlying T=Ua .bool:=by
   have j:=s.shape
   cases l:P.underlying T with|none=>rw[l]at j;simp[Ka]at j|some d=>rw[l]at j;cases d<;>simp[Ka]at j;rfl
  rw[(VR.of1 hx).bool,(VR.of1 hy).bool,run_equalIn_bool' w d T x y l];simp only[eqEl,Z4]at c
  subst c;rfl
 |str=>
  have l:P.underlying T=Ua .string:=by
   have j:=s.shape
   cases l:P.underlying T with|none=>rw[l]at j;simp[Ka]at j|some d=>rw[l]at j;cases d<;>simp[Ka]at j;rfl
  rw[(VR.of1 hx).str,(VR.of1 hy).str,run_equalIn_string w d T _ _ l,ZkE,ZkE];simp only[eqEl,Z4]at c;subst c;congr 1
  rw[Vjc];simp
 |sl _|ref|pt _|lk _ _|pn _=>simp[eqEl]at c|arr n e=>
  have⟨Et,l,he⟩:=ZdB hT ht;obtain⟨xs,rfl,K⟩:=Dt hx rfl (by simp);obtain⟨ys,rfl,L⟩:=Dt hy rfl (by simp);simp only[CV]at K L;have⟨c4,a9,h1,h2⟩:=K;have⟨d2,b1,h3,h4⟩:=L;have⟨i,z,hi,b4,_⟩:=(hT.ty Et e he).info;have a2:P.cellsOf Et=e.size:=by simp[Program.cellsOf,hi,b4]
  rw[run_equalIn_array w d xs ys l hi,a2];simp only[eqEl]at c;have key:∀m k lx ly cx J M O r,m=lx.length->eqEl.eqs (eqEl e) lx ly=Ua r->Fa (Rd w g.I e) lx cx->Fa (Rd w g.I e) ly J->
   xs.toList=M++cx.flatten->ys.toList=O++J.flatten->M.length=k*e.size->O.length=k*e.size->
   (Op.eqItems d Et e.size xs ys (List.range' k m)).run P w=.ok r w:=by
   intro m
   induction m with
   |zero=>
    intro k lx ly cx J M O r hm hq S U _ _ _ _;have:lx=[]:=List.length_eq_zero_iff.1 hm.symm;subst this
    cases ly with|nil=>simp only[eqEl.eqs,Z4]at hq;subst hq;rfl|cons _ _=>simp[eqEl.eqs]at hq
   |succ m d0=>
    intro k lx ly cx J M O r hm hq S U A C W a1
    cases lx with
    |nil=>simp at hm|cons a lx=>
    cases ly with
    |nil=>simp[eqEl.eqs]at hq|cons b ly=>
     simp only[eqEl.eqs,Vk]at hq;obtain⟨p,hp,q,hq,hr⟩:=hq;simp only[Z4]at hr
     cases cx with
     |nil=>exact S.elim|cons ca cx=>
     cases J with
     |nil=>exact U.elim|cons cb J=>
      have⟨ha,S⟩:=S;have⟨hb,U⟩:=U;have⟨v1,v2⟩:=ZcQ (g:=g) ha;have⟨u1,u2⟩:=ZcQ (g:=g) hb;rw[Vhb,<-Vea]at A C;have e1:=Za7 (w:=w) (hT.ty Et e he) A (Rd.length e a ca ha) v2;have e2:=Za7 (w:=w) (hT.ty Et e he) C (Rd.length e b cb hb) u2;rw[W]at e1;rw[a1]at e2;have e3:=ih e Et a b _ _ p d (by simp at hN;omega) he (by simp[Ty.dep]at hd;omega) hp v1 u1;simp only[Vdc,Op.eqItems,Vc,e1,e2,e3,Va,Sem.run_ite,Vd]
      cases p with
      |false=>simp at hr;subst hr;rfl|true=>
       simp at hr;subst hr;have:=d0 (k+1) lx ly cx J (M++ca) (O++cb) q (by simp at hm;omega) hq S U A C
        (by rw[Vl,W,Rd.length e a ca ha,Voa];omega) (by rw[Vl,a1,Rd.length e b cb hb,Voa];omega)
       simpa using this
  rw[List.range_eq_range']
  exact key n 0 x y a9 b1 [] [] r c4.symm c h2 h4 h1 h3 (by simp) (by simp)
 |unit=>
  obtain⟨xs,rfl,K⟩:=Dt hx rfl (by simp);obtain⟨ys,rfl,L⟩:=Dt hy rfl (by simp);have j:=s.shape
  cases l:P.underlying T with
  |none=>rw[l]at j;simp[Ka]at j|some dd=>
   rw[l]at j;cases dd<;>simp[Ka]at j;have Q:P.fieldsOf T= #[]:=by simp[Program.fieldsOf,l,j]
   rw[run_equalIn_struct w d T xs ys (by rw[Q,l,j]) s.stood,Q];simp only[eqEl,Z4]at c
   subst c;rfl
 |prod a0 b0=>
  obtain⟨xs,rfl,K⟩:=Dt hx rfl (by simp);obtain⟨ys,rfl,L⟩:=Dt hy rfl (by simp);simp only[CV]at K L;have j:=s.shape
  cases l:P.underlying T with
  |none=>rw[l]at j;simp[Ka]at j|some dd=>
   rw[l]at j
   cases dd with
   |struct fs=>
    have Q:P.fieldsOf T=fs:=by simp[Program.fieldsOf,l]
    rw[run_equalIn_struct w d T xs ys (by rw[Q,l]) s.stood,Q];have b8:b0.chain=true:=by simp only[Ka,Ve]at j;exact j.2
    have key:∀u k base (x y:El u) (M cx O J:V Y) (r:Bool),sizeOf u<=sizeOf (Ty.prod a0 b0)->u.chain=Uc->u.dep<=d+1->(∀f,ZV (.prod a0 b0) [k+f]=(ZV u [f]).map λq=>(q.1+base,q.2))->
     xs.toList=M++cx->ys.toList=O++J->M.length=base->O.length=base->Rd w g.I u x cx->Rd w g.I u y J->eqEl u x y=Ua r->
     (Op.eqFields d xs ys (fs.toList.drop k)).run P w=.ok r w:=by
     intro u
     induction u with
     |unit=>
      intro k base x y M cx O J r _ _ _ D _ _ _ _ _ _ c;have hk:fs.size<=k:=by
       obtain h|h:=Vob k fs.size;.have⟨r,hr⟩:=Zm7 s l h;have:=D 0;rw[Vab,hr]at this;simp[ZV]at this
       exact h
      rw[Vva (by simpa using hk)];simp only[eqEl,Z4]at c
      subst c;rfl|prod a b _ c9=>
      intro k base x y M cx O J r b6 hc a3 D A C W a1 c5 c6 c;obtain⟨c1,c2,rfl,a7,c7⟩:=c5;obtain⟨e1,e2,rfl,a8,c8⟩:=c6;obtain⟨p,q,hp,hq,rfl⟩:=ZmO c;have h0:ZV (.prod a0 b0) [k]=Ua (base,a):=by have:=D 0;rw[Vab]at this;rw[this];simp only[ZV,WW,Vj,Vn]
      have⟨d1,fd,b7,b2,b3,R,a5⟩:=ZfX s h0 (by intro n e;simp);rw[l]at b7;cases b7;have b5:k<fs.size:=(Vfb.1 b2).1;have a4:fs.toList.drop k=fd::fs.toList.drop (k+1):=by rw[Vib (by simpa using b5)];congr 1;have:=(Vfb.1 b2).2;simpa using this
      have⟨v1,v2⟩:=ZcQ (g:=g) a7;have⟨u1,u2⟩:=ZcQ (g:=g) a8;rw[<-Vea]at A C;have r1:=Za7 (w:=w) (hT.ty _ _ R) A (Rd.length a _ c1 a7) v2;have r2:=Za7 (w:=w) (hT.ty _ _ R) C (Rd.length a _ e1 a8) u2;have a6:fd.offset=base:=b3;rw[W]at r1;rw[a1]at r2;have r3:=ih a fd.type x.1 y.1 _ _ p d (by simp at hN b6;omega) R (by simp only[Ty.dep]at a3;omega) hp v1 u1;rw[a4];simp only[Op.eqFields,a5,ne_eq,not_false_eq_true,if_true,a6,Vc,r1,r2,r3,Va,Sem.run_ite,Vd]
      cases p with
      |false=>rfl|true=>
       have:=c9 (k+1) (base+a.size) x.2 y.2 (M++c1) c2 (O++e1) e2 q (by simp at b6⊢;omega) hc (by simp only[Ty.dep]at a3;omega)
        (λf=>by have:=D (f+1);rw[show k+1+f=k+(f+1) by omega,this];simp only[ZV,Vrc];congr 1;funext z;simp only[Function.comp];congr 1;omega) A C (by rw[Vl,W,Rd.length a _ c1 a7]) (by rw[Vl,a1,Rd.length a _ e1 a8]) c7 c8 hq
       simpa using this
     |_=>intro k base x y M cx O J r _ hc;simp[Ty.chain]at hc
    have b9:(Ty.prod a0 b0).dep<=d+1:=hd
    exact key (.prod a0 b0) 0 0 x y [] xs.toList [] ys.toList r (Vf _) b8 b9 (λf=>by simp) rfl rfl rfl rfl K L c
   |_=>simp[Ka]at j
end
section
variable {P:Program}{E:Kh}{w:X}{g:Gh}
theorem ZuT{a b x y p q}(c:eqEl a x.1 y.1=Ua p)(d:eqEl b x.2 y.2=Ua q):∃r,eqEl (.prod a b) x y=Ua r:=by
 cases b with
 |unit=>exact⟨p,c⟩|_=>
  refine⟨p&&q,?_⟩;show (eqEl a x.1 y.1).bind _=_;grind
theorem ZuV{I}:∀t x y cx i,t.key=Uc->Rd w I t x cx->Rd w I t y i->∃r,eqEl t x y=Ua r:=by
 intro t
 induction t with
 |int _|bool|str|unit=>intro x y _ _ _ _ _;exact⟨_,rfl⟩|sl _ _|ref|pt _ _|lk _ _ _ _|pn _ _=>intro x y _ _ h;simp[Ty.key]at h|prod a b K L=>
  intro x y cx i f D J;have⟨T,U,_,N,j⟩:=D;have⟨W,d2,_,O,s⟩:=J;simp[Ty.key]at f;have⟨p,A⟩:=K _ _ _ _ f.1 N O;have⟨q,C⟩:=L _ _ _ _ f.2 j s
  exact ZuT A C|arr n t S=>
  intro x y cx i f D J;have⟨N,d,_,j⟩:=D;have⟨O,e,_,s⟩:=J;have key:∀l m cl c,l.length=m.length->Fa (Rd w I t) l cl->Fa (Rd w I t) m c->∃r,eqEl.eqs (eqEl t) l m=Ua r:=by
   intro l
   induction l with
   |nil=>intro m _ _ h _ _;cases m<;>simp at h;exact⟨Uc,rfl⟩|cons a l M=>
    intro m cl c h u z
    cases m with
    |nil=>grind|cons b m=>
     cases cl with
     |nil=>exact u.elim|cons Q cl=>
     cases c with
     |nil=>exact z.elim|cons R c=>
     have⟨p,A⟩:=S a b Q R f u.1 z.1;have⟨q,C⟩:=M m cl c (by grind) u.2 z.2;exact⟨p&&q,by simp[eqEl.eqs,A,C]⟩
  exact key x y d e (by omega) j s
theorem Zv4{I}:∀t x cx f,t.key=Uc->Rd w I t x cx->Rd w I t x f->cx=f:=by
 intro t
 induction t with
 |int _|bool|str|unit=>intro x cx f _ c d;exact c.trans d.symm|sl _ _|ref|pt _ _|lk _ _ _ _|pn _ _=>intro x _ _ h;simp[Ty.key]at h|prod a b z A=>
  intro x cx f i c d;obtain⟨C,D,rfl,s,u⟩:=c;obtain⟨J,K,rfl,L,M⟩:=d;simp[Ty.key]at i
  grind|arr n t y=>
  intro x cx f i c d;obtain⟨_,q,rfl,s⟩:=c;obtain⟨_,r,rfl,u⟩:=d;have key:∀l cl e,Fa (Rd w I t) l cl->Fa (Rd w I t) l e->cl=e:=by
   intro l
   induction l with
   |nil=>intro cl e c d;cases cl<;>cases e<;>simp[Fa]at c d⊢|cons a l j=>
    intro cl e c d
    cases cl with
    |nil=>exact c.elim|cons m cl=>
    cases e with|nil=>exact d.elim|cons p e=>rw[y a m p i c.1 d.1,j cl e c.2 d.2]
  grind
theorem ZnN{t x v u}(h:t.key=Uc)(e:Kw w g (.d t x) v)(f:Kw w g (.d t x) u):v=u:=by
 have⟨b,i⟩:=e;have⟨c,j⟩:=f;have k:=Zv4 t x _ _ h b c;cases v<;>cases u<;>simp_all[Vwa,Kb]
theorem ZgV(hT:Z0 P E) em:∀N t T (x:El t) v n,sizeOf t<N->E.ty T=Ua t->t.key=Uc->t.dep<=n->Kw w g (.d t x) v->
 (Vr em n T v).run P w=.ok () w:=by
 intro N
 induction N with
 |zero=>omega|succ N ih=>
 intro t T x v n hN ht L hd hv;obtain⟨n,rfl⟩:∃m,n=m+1:=⟨n - 1,by have:=t.depth_pos;omega⟩;have R:=hT.ty T _ ht;have A:=R.shape
 cases s:P.underlying T with
 |none=>rw[s]at A;cases t<;>simp[Ka]at A|some d=>
 rw[s]at A
 cases t with
 |sl _|ref|pt _|lk _ _|pn _=>simp[Ty.key]at L|unit=>
  obtain⟨xs,rfl,C⟩:=Dt hv rfl (by simp);cases d<;>simp[Ka]at A;subst A
  simp[Vr,underlying,s]|prod a0 b0=>
  obtain⟨xs,rfl,C⟩:=Dt hv rfl (by simp)
  cases d with
  |struct W=>
   have a3:b0.chain=true:=by simp only[Ka,Ve]at A;grind
   simp only[Vr,underlying,Vc,run_program,Va,s,Vd];rw[<-Array.forIn_toList];have key:∀u k base (x:El u) z cx,sizeOf u<=sizeOf (Ty.prod a0 b0)->u.chain=Uc->u.key=Uc->u.dep<=n+1->(∀f,ZV (.prod a0 b0) [k+f]=(ZV u [f]).map λq=>(q.1+base,q.2))->
    xs.toList=z++cx->z.length=base->Rd w g.I u x cx->
    (forIn (W.toList.drop k) PUnit.unit fun(f:Field) __s=>(if f.name≠ "_" then do
      let __do_lift<-part f.type xs f.offset
      Vr em n f.type __do_lift
      pure (ForInStep.yield PUnit.unit)
      else pure (ForInStep.yield PUnit.unit):Sem (ForInStep PUnit))).run P w=.ok PUnit.unit w:=by
    intro u
    induction u with
    |unit=>
     intro k base x z cx _ _ _ _ j _ _ _;have L:W.size<=k:=by
      obtain h|h:=Vob k W.size;.have⟨r,hr⟩:=Zm7 R s h;have:=j 0;rw[Vab,hr]at this;simp[ZV]at this
      omega
     rw[Vva (by omega)]
     rfl|prod a b _ a7=>
     intro k base x z cx b3 hc l J j c p a5;obtain⟨c1,c2,rfl,S,a6⟩:=a5;simp only[Ty.key,Ve]at l;have h0:ZV (.prod a0 b0) [k]=Ua (base,a):=by have:=j 0;rw[Vab]at this;rw[this];simp only[ZV,WW,Vj,Vn]
     have⟨b1,fd,y,b2,a2,K,O⟩:=ZfX R h0 (by simp);rw[s]at y;cases y;have a9:k<W.size:=by grind
     have M:W.toList.drop k=fd::W.toList.drop (k+1):=by rw[Vib (by omega)];grind
     have⟨v1,v2⟩:=ZcQ (g:=g) S;rw[<-Vea]at c;have r1:=Za7 (w:=w) (hT.ty _ _ K) c (Rd.length a _ c1 S) v2;have Q:fd.offset=base:=a2;rw[p]at r1;have r3:=ih a fd.type x.1 _ n (by grind) K l.1 (by simp only[Ty.dep]at J;omega) v1;rw[M];simp only[Vkc,O,ne_eq,not_false_eq_true,if_true,Q,Vc,r1,r3,Va,Vd];have:=a7 (k+1) (base+a.size) x.2 (z++c1) c2 (by grind) hc l.2 (by simp only[Ty.dep]at J;omega)
      (λf=>by have:=j (f+1);rw[show k+1+f=k+(f+1) by omega,this];simp only[ZV,Vrc];congr 1;grind) c (by rw[Vl,p,Rd.length a _ c1 S]) a6
     omega|_=>intro k base x z cx _ hc;simp[Ty.chain]at hc
   have:=key (.prod a0 b0) 0 0 x [] xs.toList (Vf _) a3 L hd (by simp) rfl rfl C
   simp_all
  |_=>simp[Ka]at A
 |arr m e=>
  have⟨U,y,he⟩:=ZdB hT ht;rw[s]at y;cases y;obtain⟨xs,rfl,C⟩:=Dt hv rfl (by simp);have⟨a4,a1,h1,h2⟩:=C;simp only[Vr,underlying,Vc,run_program,Va,s,Vd];have key:∀(m k:Nat) (lx:V (El e)) (cx:V (V Y)) (z:V Y),m=lx.length->Fa (Rd w g.I e) lx cx->xs.toList=z++cx.flatten->z.length=k*e.size->
   (forIn (List.range' k m) PUnit.unit λ(i:Nat) __s=>(do
     let __do_lift<-Go.sizeOf U
     let __do_lift<-part U xs (i*__do_lift)
     Vr em n U __do_lift
     pure (ForInStep.yield PUnit.unit):Sem (ForInStep PUnit))).run P w=.ok PUnit.unit w:=by
   intro m
   induction m with
   |zero=>simp|succ m a8=>
    intro k lx cx z hm D c p
    cases lx with
    |nil=>grind|cons a lx=>
    cases cx with
    |nil=>exact D.elim|cons ca cx=>
     have⟨ha,D⟩:=D;have⟨v1,v2⟩:=ZcQ (g:=g) ha;rw[Vhb,<-Vea]at c;have e1:=Za7 (w:=w) (hT.ty U e he) c (Rd.length e a ca ha) v2;rw[p]at e1;have e3:=ih e U a _ n (by grind) he L (by simp[Ty.dep]at hd;omega) v1;simp only[Vdc,Vkc,Vc,(hT.ty U e he).run_sizeOf,e1,e3,Va,Vd];have:=a8 (k+1) lx cx (z++ca) (by grind) D c (by rw[Vl,p,Rd.length e a ca ha,Voa];omega);omega
  have:=key m 0 x a1 [] a4.symm h2 h1 (by simp)
  simp_all
 |int k=>
  cases d<;>simp[Ka]at A;rw[(VR.of1 hv).int]
  simp[Vr,underlying,s]|bool=>
  cases d<;>simp[Ka]at A;rw[(VR.of1 hv).bool]
  simp[Vr,underlying,s]|str=>
  cases d<;>simp[Ka]at A;rw[(VR.of1 hv).str];simp[Vr,underlying,s]
def ZhF{β}(w:X)(g:Gh) b(m:V (El b×β))(es:V MapEntry):Prop:=Fa (λkv e=>Kw w g (.d b kv.1) e.key) m es
def Zri(w:X)(g:Gh) b c(m:V (El b×El c))(es:V MapEntry):Prop:=Fa (λkv e=>Kw w g (.d b kv.1) e.key/\Kw w g (.d c kv.2) e.val) m es
theorem ZpY(n:Z0 P E){K b}{β}(l:E.ty K=Ua b)(f:b.keyOk=Uc){x v}(h:Kw w g (.d b x) v):∀(m:V (El b×β)) es i,ZhF w g b m es->
 (Vmb K v es i).run P w=.ok ((JR (Zs b) x m).map λj=>(i+j,((es[j]?).map (·.val)).getD undef)) w
 |[],[],i,_=>rfl|kv::m,e::es,i,⟨k,s⟩=>by
  simp only[Ty.keyOk,Ve]at f;have c:b.dep<=10000:=by have:=Vi f.2;omega
  have⟨r,p⟩:=ZuV b x kv.1 _ _ f.1 (by simpa only[CV] using h.1) (by simpa only[CV] using k.1);have q:=ZpX n _ b K x kv.1 v e.key r 10000 (Vz _) l c p h k;have t:Zs b x kv.1=r:=by simp[Zs,p]
  simp[Vmb,Op.equal,Op.maxDepth,q,JR,t]
  cases r with
  |true=>simp|false=>
   rw[ZpY n l (by simp[Ty.keyOk,f]) h m es (i+1) s]
   cases JR (Zs b) x m with|none=>rfl|some j=>grind
theorem ZgW(u:Z0 P E){K c}{β}(t:E.ty K=Ua c)(J:c.keyOk=Uc){x v}(n:Kw w g (.d c x) v)(m:V (El c×β)) es(h:ZhF w g c m es):
 (Vuc K v es).run P w=.ok ((JR (Zs c) x m).map λj=>(j,((es[j]?).map (·.val)).getD undef)) w:=by
 have⟨d,z⟩:=(u.ty K c t).und;have s:=(u.ty K c t).shape;rw[z]at s;have p:=ZpY u t J n m es 0 h;simp[Vn]at p;simp[Vuc,underlying,Vc,run_program,Va,z,Vd];have now:∀(f:Y->Y->Option Bool) (_:∀e:MapEntry,Vxb d v e.key=f v e.key) (m:V (El c×β)) es i,ZhF w g c m es->
  (∀kv e,Kw w g (.d c kv) e->f v e=Ua (Zs c x kv))->Vjb d v es i=Ua ((JR (Zs c) x m).map λj=>(i+j,((es[j]?).map (·.val)).getD undef)):=by
  intro f D m
  induction m with
  |nil=>intro es i h _;cases es with|nil=>rfl|cons _ _=>exact h.elim
  |cons kv m M=>
   intro es i h l
   cases es with
   |nil=>exact h.elim|cons e es=>
    have⟨A,C⟩:=h;simp[Vjb,D e,l kv.1 e.key A,JR]
    cases Zs c x kv.1 with
    |true=>simp|false=>
     simp[Ze,M es (i+1) C l]
     cases JR (Zs c) x m with|none=>rfl|some j=>grind
 have other:(∀e,e∈es->Vxb d v e.key=Ub)->(match Vjb d v es 0 with|some r=>pure r|none=>Vmb K v es).run P w=
  .ok ((JR (Zs c) x m).map λj=>(j,((es[j]?).map (·.val)).getD undef)) w:=by
  intro L
  cases es with
  |nil=>
   assumption|cons e es=>
   simp[Vjb,L e (by simp)];omega
 cases c with
 |int k=>
  cases d<;>simp[Ka]at s;have y:=now (λa b=>match a,b with|.int k a,.int N b=>if k=N then Ua (a==b) else Ub|_,_=>Ub) (λe=>by rw[(VR.of1 n).int];cases e.key<;>rfl) m es 0 h (λkv e q=>by rw[(VR.of1 n).int,(VR.of1 q).int];simp[if_true,eqEl,Vt];rfl)
  simp_all
 |bool=>
  cases d<;>simp[Ka]at s;have y:=now (λa b=>match a,b with|.bool a,.bool b=>Ua (a==b) |_,_=>Ub) (λe=>by rw[(VR.of1 n).bool];cases e.key<;>rfl) m es 0 h (λkv e q=>by rw[(VR.of1 n).bool,(VR.of1 q).bool];rfl)
  simp_all
 |str=>
  cases d<;>simp[Ka]at s;have y:=now (λa b=>match a,b with|.string a,.string b=>Ua (a==b) |_,_=>Ub) (λe=>by rw[(VR.of1 n).str];cases e.key<;>rfl) m es 0 h (λkv e q=>by rw[(VR.of1 n).str,(VR.of1 q).str];simp[Zs,eqEl,Vt,beq_toListBytes,ZkE];grind)
  simp_all
 |_=>
  refine other λe _=>?_;cases d<;>simp[Ka]at s<;>simp[Vxb]
end
section ops
variable {P:Program}{E:Kh}{B:KR}{H:AH}{w:X}{g:Gh}{ow:Nat->Nat->Prop}{nid:Nat}{a:Act}{F:Nat->AV}{v:AV}{patch:Wm}{rd:V Nat}{o:Oper}
theorem Zp3{T K V r}(hF:Fr w g F a.tmps)(f:P.underlying T=Ua (.map K V))(c:(match r with|none=>Uc|some x=>(K1 (Zz F x)).isSome)=Uc)(d:o.op=.makeMap T r):
 (execOp a.eval o).run P w=.ok (.value (.map (Ua w.heap.size))) (w.alloc (.map #[] 0)):=by
 cases r with
 |none=>simp[execOp,d];rfl|some x=>
  have e:=hF.eval x;simp at c;cases b:Zz F x<;>rw[b]at c<;>simp[K1]at c;rename_i t y;cases t<;>simp at c;rw[b]at e;simp[execOp,d,Instr.makeMap,underlying,f,e.int];rfl
theorem Zsk{T r}(n:Z0 P E)(f:RH B H w g ow)(hF:Fr w g F a.tmps)(j:∀id,g.K id->id<nid\/nid+Wv<=id)(c:o.op=.makeMap T r)
 (h:(ZP E nid o.op o.type (Zz F)).run H []=Ua ((v,patch),rd)):Zv B (Zu H patch) w g nid v ((execOp a.eval o).run P w):=by
 rw[c]at h;simp only[ZP,ZD,ZN]at h;have⟨m,p,h⟩:=h;have⟨K,V,l,q,s⟩:=n.mty T m p;obtain⟨_,h⟩|⟨_,h⟩:=h
 .split at h
  .rename_i u t;simp[ZN,Zb,Ve]at h;obtain⟨⟨b,d⟩,⟨rfl,rfl⟩,_⟩:=h;refine Zv.new (t:=.sl t) (sv:=undef) f j (Zp3 hF l d c) ?_ ?_
   .refine⟨by simp[Gh.add],by simp[Gh.add],⟨by simp,by simp,by simp⟩,by simp,λk _=>by simp[Gh.add],w.heap.size, #[],0,by simp[Gh.add],rfl,RO _ _,⟨rfl,λi e h=>by simp at h⟩,trivial⟩
   refine KT ?_ rfl rfl;exact⟨.inl rfl,w.heap.size,by simp[Gh.add],rfl⟩
  simp[Zb]at h
 simp[Zb,Ve]at h;obtain⟨⟨b,d⟩,⟨rfl,rfl⟩,_⟩:=h;refine Zv.new (t:=.unit) (sv:=undef) f j (Zp3 hF l d c) ?_ ?_;.exact⟨w.heap.size, #[],0,by simp[Gh.add],rfl,RO _ _,Bn.empty 0,trivial⟩
 refine KT ?_ rfl rfl;exact⟨.inl rfl,w.heap.size,by simp[Gh.add],rfl⟩
theorem Zsi{T m k ok}(D:Z0 P E)(hR:RH B H w g ow)(hF:Fr w g F a.tmps)(ho:o.op=.lookup T m k ok)
 (h:(ZP E nid o.op o.type (Zz F)).run H []=Ua ((v,patch),rd)):Zv B (Zu H patch) w g nid v ((execOp a.eval o).run P w):=by
 rw[ho]at h;simp only[ZP,ZD]at h;have⟨mt,a3,h⟩:=h;have⟨K,V,hu,Q,hV⟩:=D.mty T mt a3;have hm:=hF.eval m;have A:=hF.eval k;split at h
 .rename_i id l x a0 W;rw[ZZ]at h;split at h
  .rename_i b2 vt es hH;simp[ZN,ZD,Zr,Zb,ZW,Z7,Ve,Kp,Vb]at h;obtain⟨⟨⟨⟨c,rfl⟩,rfl⟩,S⟩,y,hy,⟨rfl,rfl⟩,_⟩:=h;obtain⟨rfl,rfl⟩:=KS hy;have⟨a8,b,hb,hv⟩:=(a0▸hm).mp;have⟨_,b',n,clock,p,hJ,hh,b4,r⟩:=hR.objs id _ hH;rw[hb]at p;cases p;rw[W]at A;have s:Kw w g (.d mt.1 y) (a.eval k):=A;have q:=ZgV D n.isEmpty _ mt.1 K y (a.eval k) 10000 (Vz _) Q (by simp[Ty.keyOk,Ve]at c;grind) (by simp only[Ty.keyOk,Ve]at c;have:=Vi c.2;omega) s;have f:=ZgW D Q c s es n.toList (r.mono (by grind));have i:(getObj b).run P w=.ok (.map n clock) w:=by simp[getObj,Vcb,hh]
   have⟨z,hz,b1⟩:=(D.ty V mt.2 hV).run_zero w;have a5:=(b1 w g).1;have a5:=ZAg S a5;have M:∃u,(Vta T (a.eval m) (a.eval k) ok).run P w=.ok (if ok then .tuple #[u,.bool (ZT (Zs mt.1) y es).isSome] else u) w/\Kw w g (.d mt.2 ((ZT (Zs mt.1) y es).getD (zeroEl mt.2))) u:=by
    rw[Zci]
    cases C:JR (Zs mt.1) y es with
    |none=>
     rw[C]at f;refine⟨z,?_,by grind⟩;simp only[Vta,underlying,Vc,run_program,Va,hu,Vd,hv,i,q,f,Vq,hz]
     rfl|some j=>
     rw[C]at f;have⟨e,U,_⟩:=Zcj _ _ _ _ C;have⟨me,N,h1,h2⟩:=r.get j e U;refine⟨me.val,?_,by grind⟩;simp only[Vta,underlying,Vc,run_program,Va,hu,Vd,hv,i,q,f,Vj,N,Vt,Za,U];rfl
   have⟨u,J,L⟩:=M;refine Zv.pure (val:=if ok then .tuple #[u,.bool (ZT (Zs mt.1) y es).isSome] else u) hR ?_ ?_;.simp only[execOp,ho,Vc,J,Va,Vd]
   cases ok with|true=>exact⟨[u,.bool _],rfl,u,_,rfl,L,.bool _,[],rfl,Xa _,rfl⟩|false=>assumption
  .rename_i b2 t es u0 hH;simp only[ZN,ZD,Zr,Zb,ZW,Z7,Ve,Kp,Vb]at h;obtain⟨⟨⟨c,a1⟩,a2⟩,y,hy,⟨rfl,rfl⟩,_⟩:=h;obtain⟨rfl,rfl⟩:=KS hy;have⟨a8,b,hb,hv⟩:=(a0▸hm).mp;have⟨_,b8,b3,a9,b7,R,b',n,clock,p,hJ,hh,b5,r⟩:=hR.objs id _ hH;rw[hb]at p;cases p;rw[W]at A;have s:Kw w g (.d l y) (a.eval k):=A;rw[a1]at Q;rw[a2]at hV;have q:=ZgV D n.isEmpty _ l K y (a.eval k) 10000 (Vz _) Q (ZbM c) (by simp only[Ty.keyOk,Ve]at c;have:=Vi c.2;omega) s;have f:=ZgW D Q c s es n.toList (r.mono (by grind));have i:(getObj b).run P w=.ok (.map n clock) w:=by simp only[getObj,Vcb,hh]
   have hz:=ZkX (D.ty V (.sl t) hV) w;have M:(Vta T (a.eval m) (a.eval k) ok).run P w=.ok (if ok then .tuple #[g.row id l y,.bool (ZT (Zs l) y es).isSome] else g.row id l y) w/\(g.row id l y).oneCell'=Uc/\Kb (g.row id l y)=false:=by
    rw[Zci]
    cases C:JR (Zs l) y es with
    |none=>
     rw[C]at f;have a4:g.row id l y=.slice Ub 0 0:=R y (Zfe (ZbM c) (by rw[Zci,C];rfl));rw[a4];refine⟨?_,rfl,rfl⟩;simp only[Vta,underlying,Vc,run_program,Va,hu,Vd,hv,i,q,f,Vq,hz]
     rfl|some j=>
     rw[C]at f;have⟨e,U,a7⟩:=Zcj _ _ _ _ C;have a6:=(XO (ZbM c)).1 a7;have⟨me,N,h1,h2⟩:=r.get j e U;rw[<-a6]at h2;have b0:=(a9.rd y e.2 (by grind) (by simp)).one;refine⟨?_,b0⟩;simp only[Vta,underlying,Vc,run_program,Va,hu,Vd,hv,i,q,f,Vj,N,Vt,Za,U,h2];rfl
   have⟨J,L,b6⟩:=M;have O:Kw w g (.nw id u0 l y) (g.row id l y):=VR.to1 (KT (by simp only[CV];grind) L rfl) (by simp);refine Zv.pure (val:=if ok then .tuple #[g.row id l y,.bool (ZT (Zs l) y es).isSome] else g.row id l y) hR ?_ ?_;.simp only[execOp,ho,Vc,J,Va,Vd]
   cases ok with|true=>exact⟨[g.row id l y,.bool _],rfl,g.row id l y,_,rfl,O,.bool _,[],rfl,Xa _,rfl⟩|false=>assumption
  simp[Zb]at h
 simp[Zb]at h
theorem Zp1 v:∃w',(Vzb v v).run P w=.ok v w' /\JG w w' :=by
 unfold Vzb
 cases Instr.sameBits 10000 v v with
 |true=>exact⟨w,rfl,.refl w⟩|false=>
  refine⟨{w with drawn:=w.drawn+1},?_,⟨rfl,rfl,rfl,⟨rfl,by simp⟩⟩⟩;simp only[ite_self];rfl
theorem Ix.push{es clock}(h:Ix es clock){e}(f:e.born=clock):Ix (es.push e) (clock+1):=by
 have⟨c,d⟩:=h;refine⟨by simp[c],λi x b=>?_⟩;rw[Array.getElem?_push]at b;split at b;.cases b;omega
 exact d i x b
theorem Ix.modify{es clock}(h:Ix es clock){i f}(k:∀e,(f e).born=e.born):Ix (es.modify i f) clock:=by
 have⟨d,c⟩:=h;refine⟨by simp[d],λj x b=>?_⟩;rw[Array.getElem?_modify]at b;split at b;.obtain⟨y,l,rfl⟩:=Vp.1 b;rw[k];exact c j y l
 exact c j x b
def HX(g:Gh)(id:Nat) c(y:El c)(v:Y):(b:Ty)->El b->Y:=λb k=>if h:b=c then(if Zs c (h▸k) y then v else g.row id b k) else g.row id b k
theorem ZpS{id b y v}(c:b.key=Uc) k(d:k≠y):HX g id b y v b k=g.row id b k:=by
 have:Zs b k y=false:=by
  cases e:Zs b k y;.rfl
  exact absurd ((XO c).1 e) d
 unfold HX;grind
theorem ZpR{id c y v}(b:c.key=Uc):HX g id c y v c y=v:=by simp[HX,(XO b).2 rfl]
theorem ZwO{l t es u id b clock C y ys ids b8 R w1 m S r}(T:RH B H w g ow)(f:l.key=Uc)(b0:g.K id)(s:H id≠Ub)(b7:g.ty id=.sl t)(c1:g.ver id=u)(c5:u+1<=nid)
 (a5:RF w g.I (ow id) t (g.blk id) (g.row id l) (λk x=>(k,x)∈es) C) (a4:(es.map Vja).Nodup) (a1:∀k,k ∉ es.map Vja->g.row id l k=.slice Ub 0 0) (hb:g.blk id=Ua b) (hJ:ow id b) (hh:w.heap[b]? =Ua (.map b8 clock)) (a0:C=Ub\/C=Ua y) (a2:id ∉ ids)
 (M:WF w g.I (ZO H ow ids) t ys R) (hs:JG w w1) (hr:r=.ok .skip {w1 with heap:=w1.heap.setIfInBounds b (.map m S)}) (a3:Ix m S)
 (W:∀w2,Kt g.I w w2->Fa (λkv e=>Kw w2 g (.d l kv.1) e.key/\e.val=HX g id l y R l kv.1) (Ky (Zs l) y ys es) m.toList):
 Zv B (Zu H (ids.map (λid=>(id,Ub))++[(id,Ua (.mrows l t (Ky (Zs l) y ys es) nid Ub))])) w g nid .junk r:=by
 have z:∀k,Zu H (ids.map λid=>(id,Ub)) k≠Ub->k ∉ ids/\H k≠none:=by intro k D;rw[RY]at D;grind
 have b1:∀i,ZO H ow ids i->¬ow id i:=λi ⟨k,h1,O,h3⟩ h4=>a2 (T.dist id k i s O h4 h3▸h1);have L:∀k,k≠y->HX g id l y R l k=g.row id l k:=λk D=>ZpS f k D;have N:HX g id l y R l y=R:=ZpR f;have a7:RH B (Zu H (ids.map λid=>(id,Ub))) w1 g ow:=(T.drops ids).same hs;have n:∀k,k≠b->({w1 with heap:=w1.heap.setIfInBounds b (.map m S)}).heap[k]? =w1.heap[k]? :=by grind
 have b9:=T.sep id b s hJ;have Q:Kt g.I w {w1 with heap:=w1.heap.setIfInBounds b (.map m S)}:=λk D=>by rw[n k (by grind),hs.heap]
 have a6:∀k,k≠b->({w1 with heap:=w1.heap.setIfInBounds b (.map m S)}).heap[k]? =w.heap[k]? :=λk D=>by rw[n k D,hs.heap]
 have a9:∀{J}{x}{hd},WF w g.I J t x hd->∀i,WQ hd=Ua i->i≠b:=by
  intro J x hd b5 i c e;obtain⟨_,rfl⟩|⟨b2,cap,cells,e,c2,rfl,_,h3,_⟩:=b5;.simp[WQ]at c
  simp[WQ]at c;grind
 rw[XB];refine⟨undef, {w1 with heap:=w1.heap.setIfInBounds b (.map m S)},g.bump id nid (HX g id l y R),Xv ow id λi=>ow id i\/ZO H ow ids i,.inr ⟨hr,rfl⟩,?_,Gh.le_bump (by omega),Q,Gi,λ_ h=>.inl h⟩;refine a7.bump (id:=id) b0 (by omega) (λi c=>?_) (by simp) rfl rfl ⟨rfl,Vf _⟩ (λi h1 O=>n i λe=>?_) (λi c=>?_) ?_
 .obtain c|⟨k,D,h1,O⟩:=c
  .grind
  refine n i λe=>D ?_;subst e;exact(T.dist id k i s (z k h1).2 hJ O).symm
 .grind
 .have b6:({w1 with heap:=w1.heap.setIfInBounds b (.map m S)}).heap.size=w.heap.size:=by rw[<-hs.heap];simp
  rw[b6];obtain c|⟨k,h1,O,h3⟩:=c;.have⟨p,q,r⟩:=T.sep id i s c;exact⟨p,q,r,λk D h4 h5=>D (T.dist k id i (z k h4).2 s h5 c)⟩
  have⟨p,q,r⟩:=T.sep k i O h3;refine⟨p,q,r,λk' D h4 h5=>(z k' h4).1 ?_⟩;have:=T.dist k' k i (by grind) O h5 h3;grind
 have A:(g.bump id nid (HX g id l y R)).row id l=HX g id l y R l:=by show (if id=id then HX g id l y R else g.row id) l=_;simp
 refine⟨b7,Zn rfl,?_,Zh8 f a4,λq hq=>?_,b,m,S,hb,.inl hJ,?_,a3,?_⟩
 .rw[A];refine a5.put L (λj x U=>Zgr f a4 U) a0 ?_ (λj x U hj hr=>?_) λi c=>?_
  .rw[N];exact M.mono Q (by simp) (by grind) (by grind)
  .exact hr.mono Q (by simp) (by grind) (by grind)
  rw[N]at c;have b4:=M.own c;refine⟨λj x U hj a8=>b1 i b4 ?_,by grind⟩;have b3:C≠Ua j:=by grind
  exact(a5.rd j x U b3).own a8
 .rw[A];have c4:y∈(Ky (Zs l) y ys es).map Vja:=by
   by_cases h:y∈es.map Vja;.rw[(ZaD f).1 h];exact h
   rw[(ZaD f).2 h];simp
  rw[L q (by grind)];refine a1 q λh=>hq ?_;by_cases O:y∈es.map Vja;.rw[(ZaD f).1 O];exact h
  rw[(ZaD f).2 O,Vlc];grind
 .rw[Vca,Zn rfl,Zn (by rw[hs.heap];omega)]
 rw[A];exact(W _ Q).mono λkv e U=>⟨⟨by have:=U.1.1;assumption,U.1.2⟩,U.2⟩
theorem Zsm{T m k x}(hT:Z0 P E)(hR:RH B H w g ow)(hF:Fr w g F a.tmps)(ho:o.op=.mapUpdate T m k x)
 (h:(ZP E nid o.op o.type (Zz F)).run H []=Ua ((v,patch),rd)):Zv B (Zu H patch) w g nid v ((execOp a.eval o).run P w):=by
 rw[ho]at h;simp only[ZP,ZD]at h;have⟨mt,c7,h⟩:=h;have⟨K,V,hu,hK,hV⟩:=hT.mty T mt c7;have hm:=hF.eval m;have a3:=hF.eval k;have b3:=hF.eval x;split at h
 .rename_i id L y0 vt z0 a8 a6 b2;rw[ZZ]at h;split at h
  .rename_i d9 e6 es hH;simp only[ZN,ZD,Zr,Zb,ZW,Z7,Ve,Kp,Vb]at h;obtain⟨⟨f,rfl⟩,y,hy,u,d8,⟨rfl,rfl⟩,_⟩:=h;obtain⟨rfl,rfl⟩:=KS hy;obtain⟨rfl,rfl⟩:=KS d8;have⟨b7,b,hb,hv⟩:=(a8▸hm).mp;have⟨_,b',c,clock,O,hJ,hh,b5,q⟩:=hR.objs id _ hH;rw[hb]at O;cases O;rw[a6]at a3;rw[b2]at b3;have s:Kw w g (.d mt.1 y) (a.eval k):=a3;have d0:Kw w g (.d vt u) (a.eval x):=b3;have Q:=ZgV hT Ud _ mt.1 K y (a.eval k) 10000 (Vz _) hK (by simp only[Ty.keyOk,Ve]at f;grind) (by simp only[Ty.keyOk,Ve]at f;have:=Vi f.2;omega) s;have D:=ZgW hT hK f s es c.toList (q.mono (by grind));have J:(getObj b).run P w=.ok (.map c clock) w:=by simp only[getObj,Vcb,hh]
   have fin:∀(A:X) (l:Array MapEntry) (c' :Nat),JG w A->(Vba T (a.eval m) (a.eval k) (a.eval x)).run P w=.ok () {A with heap:=A.heap.setIfInBounds b (.map l c')} ->Bn l c' ->
    Zri w g mt.1 vt (Ky (Zs mt.1) y u es) l.toList->Zv B (Zu H [(id,Ua (.map mt.1 vt (Ky (Zs mt.1) y u es)))]) w g nid .junk ((execOp a.eval o).run P w):=by
    intro A l c' hs a2 b6 M;have d1:=hR.same hs;have S:∀k,k≠b->({A with heap:=A.heap.setIfInBounds b (.map l c')}:X).heap[k]? =A.heap[k]? :=by grind
    have e3:=hR.sep id b (by grind) hJ;have C:Kt g.I w {A with heap:=A.heap.setIfInBounds b (.map l c')}:=λk hk=>by rw[S k (by grind),hs.heap]
    refine⟨undef,_,g,ow,.inr ⟨?_,rfl⟩,d1.write (by grind) hJ S (by simp) rfl rfl ⟨rfl,Vf _⟩ ?_,.refl g,C,Gi,by grind⟩;.simp only[execOp,ho,Vc,a2,Va,Vd]
    refine⟨b,l,c',hb,hJ,?_,b6,M.mono λp e hp=>⟨hp.1.mono C (.refl g),hp.2.mono C (.refl g)⟩⟩;rw[Vca,Zn rfl,Zn (by rw[hs.heap];omega)]
   cases N:JR (Zs mt.1) y es with
   |none=>
    rw[N]at D;refine fin w (c.push {key:=a.eval k,val:=a.eval x,born:=clock}) (clock+1) (.refl w) ?_ (b5.push rfl) ?_;.simp only[Vba,underlying,Vc,run_program,Va,hu,Vd,hv,J,Q,D,Vq];simp only[setObj,Vcb,hh]
    rw[Zck,N,Vac]
    exact q.append ⟨⟨s,d0⟩,trivial⟩|some j=>
    rw[N]at D;have⟨e,he,R⟩:=Zcj _ _ _ _ N;have⟨me,d4,h1,h2⟩:=q.get j e he;have U:y=e.1:=by
     unfold Zs at R
     cases hq:eqEl mt.1 y e.1 with|none=>grind|some r=>rw[hq]at R;subst R;exact ZmP _ _ _ hq
    have W:me.key=a.eval k:=ZnN (by simp only[Ty.keyOk,Ve]at f;grind) (U▸h1) s;obtain⟨A,b1,hs⟩:=Zp1 (P:=P) (a.eval k);have a0:c[j]? =Ua me:=by grind
    refine fin A (c.modify j λe=>{e with key:=a.eval k,val:=a.eval x}) clock hs ?_ (b5.same ?_) ?_
    .simp only[Vba,underlying,Vc,run_program,Va,hu,Vd,hv,J,Q,D,Vj,a0,W,Vt,b1];have a4:A.heap[b]? =Ua (.map c clock):=by rw[hs.heap];omega
     simp only[setObj,Vcb,a4]
    .apply Vfa;grind
    rw[Zck,N];have:(c.modify j λe=>{e with key:=a.eval k,val:=a.eval x}).toList=c.toList.set j {me with key:=a.eval k,val:=a.eval x}:=by apply Vfa;grind
    rw[this];exact q.set j ⟨s,d0⟩
  simp[Zb]at h
 .rename_i id L y0 i2 a8 a6 b2;rw[ZZ]at h;split at h
  .rename_i d9 t es u a1 hH;simp only[ZN,ZD,ZY,Zr,Zb,ZW,Z7,Ve,Kp,Vb]at h;obtain⟨⟨⟨⟨f,c6⟩,e2⟩,a7⟩,y,hy,_,d2,⟨ys,ids⟩,m2,z,⟨rfl,rfl⟩,_⟩:=h;obtain⟨rfl,rfl⟩:=KS hy;have a7:=Vi a7;obtain⟨b7,b,hb,hv⟩:=(a8▸hm).mp;have b8:H id≠none:=by grind
   obtain⟨_,d7,c9,d5,c8,b4,b',c,clock,O,hJ,hh,c1,q⟩:=hR.objs id _ hH;rw[hb]at O;cases O;rw[a6]at a3;have s:Kw w g (.d L y) (a.eval k):=a3;rw[c6]at hK;have i:=ZbM f;have b0:=ZgF hR (b2▸b3) z;have Q:=ZgV hT Ud _ L K y (a.eval k) 10000 (Vz _) hK i (by simp only[Ty.keyOk,Ve]at f;have:=Vi f.2;omega) s;have D:=ZgW hT hK f s es c.toList (q.mono (by grind));have J:(getObj b).run P w=.ok (.map c clock) w:=by simp only[getObj,Vcb,hh]
   have a5:a1=Ub\/a1=Ua y:=by
    cases a1 with|none=>simp|some j=>exact .inr (by rw[(XO i).1 (Gu d2)])
   have b9:id ∉ ids:=λhm=>by
    simp only[J1]at z;rw[ZZ]at z;split at z;.rename_i c5;simp only[ZD,Zr,Vb]at z;grind
    simp[Zb]at z
   have a9:∀k,k≠y->HX g id L y (a.eval x) L k=g.row id L k:=λk hk=>ZpS i k hk;have d6:HX g id L y (a.eval x) L y=a.eval x:=ZpR i;have fin:∀(A:X) (l:Array MapEntry) (c' :Nat),JG w A->(Vba T (a.eval m) (a.eval k) (a.eval x)).run P w=.ok () {A with heap:=A.heap.setIfInBounds b (.map l c')} ->Ix l c' ->
    (∀w2,Kt g.I w w2->Fa (λkv (e:MapEntry)=>Kw w2 g (.d L kv.1) e.key/\e.val=HX g id L y (a.eval x) L kv.1) (Ky (Zs L) y ys es) l.toList)->Zv B (Zu H (ids.map (λid=>(id,Ub))++[(id,Ua (.mrows L t (Ky (Zs L) y ys es) nid Ub))])) w g nid .junk ((execOp a.eval o).run P w):=by
    intro A l c' hs a2 c2 M;exact ZwO hR i b7 b8 d7 c9 a7 d5 c8 b4 hb hJ hh a5 b9 b0 hs (by simp only[execOp,ho,Vc,a2,Va,Vd]) c2 M
   have e1:∀w2,Kt g.I w w2->Kw w2 g (.d L y) (a.eval k):=λw2 C=>s.mono C (.refl g)
   cases N:JR (Zs L) y es with
   |none=>
    rw[N]at D;have e5:y ∉ es.map Vja:=Zfe i (by rw[Zci,N];rfl);refine fin w (c.push {key:=a.eval k,val:=a.eval x,born:=clock}) (clock+1) (.refl w) ?_ (c1.push rfl) λw2 C=>?_;.simp only[Vba,underlying,Vc,run_program,Va,hu,Vd,hv,J,Q,D,Vq];simp only[setObj,Vcb,hh]
    rw[Zck,N,Vac];refine(ZdV q.length λn kv e h1 h2=>?_ :Fa _ es c.toList).append ⟨by grind,trivial⟩;have:=Zi2 q h1 h2;refine⟨this.1.mono C (.refl g),?_⟩
    grind|some j=>
    rw[N]at D;obtain⟨e,he,R⟩:=Zcj _ _ _ _ N;have U:=(XO i).1 R;obtain⟨me,d4,h1,h2⟩:=q.get j e he;have W:me.key=a.eval k:=ZnN i (U▸h1) s;obtain⟨A,b1,hs⟩:=Zp1 (P:=P) (a.eval k);have a0:c[j]? =Ua me:=by grind
    refine fin A (c.modify j λe=>{e with key:=a.eval k,val:=a.eval x}) clock hs ?_ (c1.modify λ_=>rfl) λw2 C=>?_
    .simp only[Vba,underlying,Vc,run_program,Va,hu,Vd,hv,J,Q,D,Vj,a0,W,Vt,b1];have a4:A.heap[b]? =Ua (.map c clock):=by rw[hs.heap];omega
     simp only[setObj,Vcb,a4]
    rw[Zck,N];have:(c.modify j λe=>{e with key:=a.eval k,val:=a.eval x}).toList=c.toList.set j {me with key:=a.eval k,val:=a.eval x}:=by apply Vfa;grind
    rw[this];refine ZdV (by simp[q.length]) λn kv en g1 g2=>?_;rw[List.getElem?_set]at g1 g2;split at g1;.grind
    rename_i c4;rw[Zg c4]at g2;have:=Zi2 q g1 g2;refine⟨this.1.mono C (.refl g),?_⟩;rw[a9 kv.1 λe4=>c4 ?_];.grind
    have d3:(es.map Vja)[j]? =Ua y:=by grind
    have c5:(es.map Vja)[n]? =Ua y:=by grind
    exact(List.getElem?_inj (by grind) c8).1 (d3.trans c5.symm)
  simp[Zb]at h
 simp[Zb]at h
end ops
section ops
variable {P:Program}{E:Kh}{B:KR}{H:AH}{w:X}{g:Gh}{ow:Nat->Nat->Prop}{nid:Nat}{a:Act}{F:Nat->AV}{v:AV}{patch:Wm}{rd:V Nat}{o:Oper}
theorem ZgX{op k x y T z}(h:(Op.intBits op k x y).run P w=.ok (.int k z) w)(b:op=.and\/op=.or\/op=.xor\/op=.andNot):(binOp op T (.int k x) (.int k y)).run P w=.ok (.int k z) w:=by
 obtain rfl|rfl|rfl|rfl:=b<;>simp[binOp,h]
theorem Zdc{op k x y T b}(h:(Op.intCmp op x y).run P w=.ok (.bool b) w)(c:op=.eql\/op=.neq\/op=.lss\/op=.leq\/op=.gtr\/op=.geq):(binOp op T (.int k x) (.int k y)).run P w=.ok (.bool b) w:=by
 obtain rfl|rfl|rfl|rfl|rfl|rfl:=c<;>simp[binOp,h]
theorem ZxV{k x y z}(h:Zj7 k x y=Ua z):y≠0/\z=k.wrap (x.tdiv y):=by
 unfold Zj7 at h;split at h;.simp at h
 rename_i b;exact⟨b,by simpa using h.symm⟩
theorem ZxW{x y z}(h:Zj8 x y=Ua z):y≠0/\z=x.tmod y:=by
 unfold Zj8 at h;split at h;.simp at h
 rename_i b;exact⟨b,by simpa using h.symm⟩
theorem ZxX{k x y z}(h:G8 k x y=Ua z):¬y<0/\z=k.wrap (x*2 ^ (min y.toNat k.bits)):=by
 unfold G8 at h;split at h;.simp at h
 rename_i b;exact⟨b,by simpa using h.symm⟩
theorem ZxY{k x y z}(h:GF k x y=Ua z):¬y<0/\z=x.fdiv (2 ^ (min y.toNat k.bits)):=by
 unfold GF at h;split at h;.simp at h
 rename_i b;exact⟨b,by simpa using h.symm⟩
theorem ZrM{op k x y l d T}(h:(Zbp op k x y).run H l=Ua (v,d)):∃val,(binOp op T (.int k x) (.int k y)).run P w=.ok val w/\VR w g v val/\d=l:=by
 cases op<;>simp[Zbp,ZD]at h;case add=>obtain⟨rfl,rfl⟩:=h;exact⟨.int k (k.wrap (x+y)),by simp[binOp,Op.intArith],Xb _ _,rfl⟩
 case sub=>obtain⟨rfl,rfl⟩:=h;exact⟨.int k (k.wrap (x - y)),by simp[binOp,Op.intArith],Xb _ _,rfl⟩
 case mul=>obtain⟨rfl,rfl⟩:=h;exact⟨.int k (k.wrap (x*y)),by simp[binOp,Op.intArith],Xb _ _,rfl⟩
 case quo=>obtain⟨z,c,rfl,rfl⟩:=h;obtain⟨b,rfl⟩:=ZxV c;exact⟨_,by simp[binOp,Op.intDiv,b],Xb _ _,rfl⟩
 case rem=>obtain⟨z,c,rfl,rfl⟩:=h;obtain⟨b,rfl⟩:=ZxW c;exact⟨_,by simp[binOp,Op.intDiv,b],Xb _ _,rfl⟩
 case and=>obtain⟨rfl,rfl⟩:=h;exact⟨_,ZgX rfl (.inl rfl),Xb _ _,rfl⟩
 case or=>obtain⟨rfl,rfl⟩:=h;exact⟨_,ZgX rfl (.inr (.inl rfl)),Xb _ _,rfl⟩
 case xor=>obtain⟨rfl,rfl⟩:=h;exact⟨_,ZgX rfl (.inr (.inr (.inl rfl))),Xb _ _,rfl⟩
 case andNot=>obtain⟨rfl,rfl⟩:=h;exact⟨_,ZgX rfl (.inr (.inr (.inr rfl))),Xb _ _,rfl⟩
 case shl=>obtain⟨z,c,rfl,rfl⟩:=h;obtain⟨b,rfl⟩:=ZxX c;exact⟨_,by simp[binOp,Op.shift,b],Xb _ _,rfl⟩
 case shr=>obtain⟨z,c,rfl,rfl⟩:=h;obtain⟨b,rfl⟩:=ZxY c;exact⟨_,by simp[binOp,Op.shift,b],Xb _ _,rfl⟩
 case eql=>obtain⟨rfl,rfl⟩:=h;exact⟨_,Zdc rfl (.inl rfl),Xa _,rfl⟩
 case neq=>obtain⟨rfl,rfl⟩:=h;exact⟨_,Zdc rfl (.inr (.inl rfl)),Xa _,rfl⟩
 case lss=>obtain⟨rfl,rfl⟩:=h;exact⟨_,Zdc rfl (.inr (.inr (.inl rfl))),Xa _,rfl⟩
 case leq=>obtain⟨rfl,rfl⟩:=h;exact⟨_,Zdc rfl (.inr (.inr (.inr (.inl rfl)))),Xa _,rfl⟩
 case gtr=>obtain⟨rfl,rfl⟩:=h;exact⟨_,Zdc rfl (.inr (.inr (.inr (.inr (.inl rfl))))),Xa _,rfl⟩
 case geq=>obtain⟨rfl,rfl⟩:=h;exact⟨_,Zdc rfl (.inr (.inr (.inr (.inr (.inr rfl))))),Xa _,rfl⟩
theorem ZsM{op x y l f T}(h:(Zib op x y).run H l=Ua (v,f)):∃val,(binOp op T (.string ⟨x.toArray⟩) (.string ⟨y.toArray⟩)).run P w=.ok val w/\VR w g v val/\f=l:=by
 have d:(x==y)=Ue (x=y):=by rw[Vjc];simp
 cases op<;>simp only[Zib,ZD,Zb]at h;case add=>
  obtain⟨z,b,rfl,rfl⟩:=h;simp[catStr]at b
  cases c:Ue (x.length+y.length<2 ^ 62) with
  |false=>rw[c]at b;simp at b|true=>
   rw[c]at b;simp[Z4]at b;subst b;refine⟨_,?_,Ze6 _,rfl⟩;have i:x.length+y.length<2 ^ 62:=by simpa using c
   have e:¬(((⟨x.toArray⟩:ByteArray).size+(⟨y.toArray⟩:ByteArray).size:Nat)) >Vtb.max:=by simp[ByteArray.size];omega
   simp only[binOp,Op.stringOp,e,Vd];congr 2
 all_goals
  obtain⟨rfl,rfl⟩:=h;refine⟨_,?_,Xa _,rfl⟩;simp[binOp,Op.stringOp,d]
theorem Zdb{op T x y vx d}(b:vx≠ .nilIface)(c:Kb vx=Ud):(eqGuard op T x y vx d).run P w=.ok () w:=by
 unfold eqGuard;cases vx<;>first|exact absurd rfl b|(simp[Kb]at c;done) |(split<;>rfl)
theorem Zyv(h:Z0 P E){T t}(i:E.ty T=Ua t){op x y vx d}(b:Kb vx=t.agg)(f:Kb d=t.agg)(c:vx≠ .nilIface):(eqGuard op T x y vx d).run P w=.ok () w:=by
 cases e:t.agg with
 |true=>
  rw[e]at b f;cases vx<;>simp[Kb]at b;cases d<;>simp[Kb]at f
  exact run_eqGuard_agg w op T x y _ _ (h.ty T t i).guard|false=>
  rw[e]at b;exact Zdb c b
theorem ZrE{T op x y l l'}(hT:Z0 P E)(hF:Fr w g F a.tmps)(h:(ZhX E.ty T op (Zz F x) (Zz F y)).run H l=Ua (v,l')):
 ∃val,(do eqGuard op T x y (a.eval x) (a.eval y);binOp op T (a.eval x) (a.eval y):Sem Y).run P w=.ok val w/\VR w g v val/\l' =l:=by
 have K:=hF.eval x;have N:=hF.eval y;have c:∀{vx vy},vx≠ .nilIface->Kb vx=Ud->(eqGuard op T x y vx vy).run P w=.ok () w:=by exact λu A=>Zdb u A
 unfold ZhX at h;split at h
 .rename_i k m k' n f i;rw[f]at K;rw[i]at N;rw[VR.int K,VR.int N];simp only[Vc,c (vx:=.int k m) (by simp) rfl,Va];split at h
  .simp only[Zbp,ZD,Zr]at h;obtain⟨z,j,rfl,rfl⟩:=h;refine⟨_,?_,Xb _ _,rfl⟩;simp only[G8]at j;split at j
   .simp at j
   rename_i J;simp only[Z4]at j;subst j;simp[binOp,Op.shift,J]
  .simp only[Zbp,ZD,Zr]at h;obtain⟨z,j,rfl,rfl⟩:=h;refine⟨_,?_,Xb _ _,rfl⟩;simp only[GF]at j;split at j
   .simp at j
   rename_i J;simp only[Z4]at j;subst j;simp[binOp,Op.shift,J]
  simp only[ZN,Zb,ZW,Z7,Kp]at h;obtain⟨rfl,h⟩:=h;exact ZrM h
 .rename_i s1 s2 f i;rw[f]at K;rw[i]at N;rw[VR.str K,VR.str N];simp only[Vc,c (vx:=.string ⟨s1.toArray⟩) (by simp) rfl,Va];exact ZsM h
 .rename_i t Q L y0 a1 a2 f i;have data:∀r p,E.ty T=Ua t->t.dep<=100->KC L t y0=Ua p->eqEl t Q p=Ua r->(Op.equal T (a.eval x) (a.eval y)).run P w=.ok r w/\(eqGuard op T x y (a.eval x) (a.eval y)).run P w=.ok () w/\
   (∀k n,a.eval x≠ .int k n)/\(∀s,a.eval x≠ .string s)/\(∀k n,a.eval x≠ .float k n)/\(∀k n m,a.eval x≠ .complex k n m)/\a.eval x≠ .nilIface:=by
   intro r p M U O q;obtain⟨rfl,rfl⟩:=KS O;rw[f]at K;rw[i]at N;have u:Kw w g (.d L Q) (a.eval x):=K;have A:Kw w g (.d L p) (a.eval y):=N;have D:Kb (a.eval x)=L.agg:=u.2.resolve_left (by simp);have a0:Kb (a.eval y)=L.agg:=A.2.resolve_left (by simp);have e:(∀k n,a.eval x≠ .int k n)/\(∀s,a.eval x≠ .string s)/\(∀k n,a.eval x≠ .float k n)/\(∀k n m,a.eval x≠ .complex k n m)/\a.eval x≠ .nilIface:=by
    cases L with|int k=>exact(a1 k Q k p rfl HEq.rfl rfl HEq.rfl).elim|str=>exact(a2 Q p rfl HEq.rfl rfl HEq.rfl).elim|bool=>rw[K.bool];simp|sl _|ref|pt _|lk _ _|pn _=>simp[eqEl]at q|_=>(cases hv:a.eval x<;>rw[hv]at D<;>simp[Kb,Ty.agg]at D⊢)
   refine⟨ZpX hT _ L T Q p _ _ r 10000 (Vz _) M (by omega) q u A,Zyv hT M D a0 e.2.2.2.2,e⟩
  have C:∀op r,(op=.eql\/op=.neq)->(Op.equal T (a.eval x) (a.eval y)).run P w=.ok r w->(∀k n,a.eval x≠ .int k n)->(∀s,a.eval x≠ .string s)->(∀k n,a.eval x≠ .float k n)->(∀k n m,a.eval x≠ .complex k n m)->
   (binOp op T (a.eval x) (a.eval y)).run P w=.ok (.bool (if op=.eql then r else !r)) w:=by
   intro op r a3 he u A R S;obtain rfl|rfl:=a3<;>unfold binOp<;>cases hv:a.eval x<;>simp_all
  split at h;.simp only[ZN,ZD,Zr,Zb,ZW,Z7,Ve,Kp]at h;obtain⟨⟨M,U⟩,p,O,r,q,rfl,rfl⟩:=h;have⟨u,A,R,S,W,h6,_⟩:=data r p M (Vi U) O q;refine⟨.bool r,?_,Xa _,rfl⟩;simp only[Vc,A,Va,C .eql r (.inl rfl) u R S W h6,if_true]
  .simp only[ZN,ZD,Zr,Zb,ZW,Z7,Ve,Kp]at h;obtain⟨⟨M,U⟩,p,O,r,q,rfl,rfl⟩:=h;have⟨u,A,R,S,W,h6,_⟩:=data r p M (Vi U) O q;refine⟨.bool (!r),?_,Xa _,rfl⟩;simp only[Vc,A,Va,C .neq r (.inr rfl) u R S W h6];simp
  simp[Zb]at h
 simp[Zb]at h
end ops
section ops
variable {P:Program}{E:Kh}{B:KR}{H:AH}{w:X}{g:Gh}{ow:Nat->Nat->Prop}{nid:Nat}{a:Act}{F:Nat->AV}{v:AV}{patch:Wm}{rd:V Nat}{o:Oper}
def _root_.Go.Operand.eval' :G->Y|.const v=>v|_=>undef
theorem Zw3{T u vx y}(z:Z0 P E)(p:VR w g u vx)(h:Zgw (E.pk T) u y=Uc):
 (Op.equal T vx y.eval').run P w=.ok Ud w/\(vx≠ .nilIface/\Kb vx=Ud)/\∀op,(op=.eql->(binOp op T vx y.eval').run P w=.ok (.bool Ud) w)/\(op=.neq->(binOp op T vx y.eval').run P w=.ok (.bool Uc) w):=by
 have⟨A,C,D⟩:=z.pk T;unfold Zgw at h;split at h
 .simp[Ve,Voc]at h;have⟨i,h⟩:=h;have⟨e,c⟩:=A i;split at h
  .obtain⟨_,q,t,b,_,_,rfl⟩:=p.ptr;have key:(Op.equal T (.pointer (Ua ⟨b,q,Ub⟩)) (.pointer Ub)).run P w=.ok Ud w:=by
    have:∀d,(Op.equalIn (d+1) T (.pointer (Ua ⟨b,q,Ub⟩)) (.pointer Ub)).run P w=.ok Ud w:=λd=>by simp[Op.equalIn,underlying,Vc,run_program,Va,c,Vd]
    exact this 9999
   exact⟨key,⟨by simp,rfl⟩,λop=>⟨λe=>by subst e;simp[binOp,Operand.eval',Vc,key,Va,Vd],λe=>by subst e;simp[binOp,Operand.eval',Vc,key,Va,Vd,Vwb]⟩⟩
  grind
 .simp[Ve,Voc]at h;obtain⟨i,h⟩:=h;have⟨s,x,J,c⟩:=C i;split at h
  .have⟨r,n,_⟩:=p.fn;rename_i f l _;obtain⟨m,k,j,rfl⟩:∃m k j,vx=.func (.func m) k j:=by
    obtain⟨_,h⟩|⟨_,h⟩:=ZcJ f r;all_goals exact⟨_,_,_,n.trans h⟩
   have key:(Op.equal T (.func (.func m) k j) .nilFunc).run P w=.ok Ud w:=by
    have:∀d,(Op.equalIn (d+1) T (.func (.func m) k j) .nilFunc).run P w=.ok Ud w:=λd=>by simp[Op.equalIn,underlying,Vc,run_program,Va,c,Vd]
    exact this 9999
   exact⟨key,⟨by simp,rfl⟩,λop=>⟨λe=>by subst e;simp[binOp,Operand.eval',Vc,key,Va,Vd],λe=>by subst e;simp[binOp,Operand.eval',Vc,key,Va,Vd,Vwb]⟩⟩
  grind
 .simp[Ve,Voc]at h;have⟨i,h⟩:=h;have⟨s,x,c⟩:=D i;split at h
  .obtain⟨_,b,_,rfl⟩:=p.mp;have key:(Op.equal T (.map (Ua b)) (.map Ub)).run P w=.ok Ud w:=by
    have:∀d,(Op.equalIn (d+1) T (.map (Ua b)) (.map Ub)).run P w=.ok Ud w:=λd=>by simp[Op.equalIn,underlying,Vc,run_program,Va,c,Vd]
    exact this 9999
   exact⟨key,⟨by simp,rfl⟩,λop=>⟨λe=>by subst e;simp[binOp,Operand.eval',Vc,key,Va,Vd],λe=>by subst e;simp[binOp,Operand.eval',Vc,key,Va,Vd,Vwb]⟩⟩
  grind
 grind
theorem Zr5{op T l x y}(f:Z0 P E)(e:RH B H w g ow)(hF:Fr w g F a.tmps)(d:o.op=.binOp op T x y l)
 (h:(ZP E nid o.op o.type (Zz F)).run H []=Ua ((v,patch),rd)):Zv B (Zu H patch) w g nid v ((execOp a.eval o).run P w):=by
 rw[d]at h;simp[ZP,ZN]at h;obtain⟨j,h⟩|⟨_,h⟩:=h
 .have⟨q,b,c⟩:=Zw3 f (hF.eval x) j;have k:a.eval y=y.eval' :=by
   cases y<;>simp[Zgw]at j;rfl
  have i:∀op,(eqGuard op T x y (a.eval x) y.eval').run P w=.ok () w:=λop=>Zdb b.1 b.2;split at h;.obtain⟨⟨rfl,rfl⟩,_⟩:=h;refine Zv.pure e ?_ (Xa _);simp only[execOp,d,k,Vc,i,Va,(c .eql).1 rfl];rfl
  .obtain⟨⟨rfl,rfl⟩,_⟩:=h;refine Zv.pure e ?_ (Xa _);simp only[execOp,d,k,Vc,i,Va,(c .neq).2 rfl];rfl
  simp[Zb]at h
 simp only[ZY,Vb]at h;obtain⟨r,m,h,⟨rfl,rfl⟩,_⟩:=h;have⟨val,n,p,_⟩:=ZrE f hF h;refine Zv.pure e ?_ p;simp only[execOp,d];rw[Vc,n];rfl
theorem Zsx{op T x}(f:RH B H w g ow)(hF:Fr w g F a.tmps)(d:o.op=.unOp op T x)
 (h:(ZP E nid o.op o.type (Zz F)).run H []=Ua ((v,patch),rd)):Zv B (Zu H patch) w g nid v ((execOp a.eval o).run P w):=by
 rw[d]at h;simp only[ZP,ZY,Vb]at h;obtain⟨i,m,h,⟨rfl,rfl⟩,_⟩:=h;have c:=hF.eval x;unfold aun at h;split at h;.rename_i b e;obtain⟨rfl,_⟩:=h;rw[e]at c;refine Zv.pure f ?_ (Xa _);simp[execOp,d,VR.bool c,Op.unary,Va]
 .rename_i k n e;obtain⟨rfl,_⟩:=h;rw[e]at c;refine Zv.pure f ?_ (Xb _ _);simp[execOp,d,VR.int c,Op.unary,Op.intArith,Vd]
 simp[Zb]at h
theorem ZqG{T k}(e:Z0 P E)(h:E.ty T=Ua (.int k)):P.underlying T=Ua (.int k):=by
 have b:=(e.ty T _ h).shape
 cases c:P.underlying T with|none=>rw[c]at b;simp[Ka]at b|some d=>rw[c]at b;cases d<;>simp[Ka]at b;grind
theorem ZkJ{T}(e:Z0 P E)(h:E.ty T=Ua .str):P.underlying T=Ua .string:=by
 have b:=(e.ty T _ h).shape
 cases c:P.underlying T with|none=>rw[c]at b;simp[Ka]at b|some d=>rw[c]at b;cases d<;>simp[Ka]at b;rfl
theorem ZzD{T t}(c:Z0 P E)(h:E.ty T=Ua t):∃d,P.underlying T=Ua d:=by
 have b:=(c.ty T _ h).shape
 cases e:P.underlying T with|none=>rw[e]at b;simp[Ka]at b|some d=>simp
theorem Ztd{x v}(b:Zcu x=Uc)(h:VR w g x v):CV w g x [v]:=by
 unfold Zcu at b;simp[Ve]at b;have⟨e,b⟩:=b;have c:Kw w g x v:=h.to1 (by intro l d;subst d;simp[HG]at b);have f:Kb v=false:=by
  obtain h|h:=c.2;.subst h;simp[HG]at b
  grind
 have:v.cells.toList=[v]:=by cases v<;>simp_all[Vwa,Kb]
 rw[<-this];exact c.1
theorem Ztg{x v}(e:Zcu x=Uc)(h:CV w g x [v]):VR w g x v:=by
 unfold Zcu at e;simp[Ve]at e;have⟨z,e⟩:=e;have key:Kb v=false:=by
  cases x with
  |d t y=>
   have:=Rd.oneCell t y [v] (by assumption) v (by simp)
   cases v<;>simp_all[Via,Kb]|junk|tup _|agg _|jk _|op _ _=>simp[HG]at e|dp t y=>have⟨b,off,c,h,_⟩:=h;cases h;rfl|ptr _ _|vp _ _ _=>have⟨_,o,t,b,_,_,h⟩:=h;cases h;rfl|mp id=>have⟨_,b,_,h⟩:=h;cases h;rfl|fn f l=>have⟨j,h,_⟩:=h;cases h;exact Zne f j|nilr p=>have h:=ZcT h;obtain h|h|h:=h<;>cases h<;>rfl|nw id ver r k=>have⟨_,_,u,h,q,_⟩:=h;cases h;cases v<;>simp_all[Via,Kb]|np id ver r k i p=>have⟨_,_,s,h,_⟩:=h;cases h;rfl|nils=>simp[CV]at h;cases h;rfl|vw id=>simp[CV]at h;have⟨_,h,q⟩:=h;cases h;cases A:g.slv id<;>simp_all[Via,Kb]|vs id C n=>obtain⟨_,⟨_,_,_,h⟩|⟨b,len,cap,m,_,_,_,_,h⟩⟩:=h<;>cases h<;>rfl
 have:v.cells.toList=[v]:=by cases v<;>simp_all[Vwa,Kb]
 exact VR.of1 ⟨by grind,by grind⟩
theorem Zim:∀(xs:V G),Fr w g F a.tmps->RT (ZF.ofList (xs.map (Zz F)))=Uc->Kk w g (ZF.ofList (xs.map (Zz F))) (xs.map a.eval)|[],_,_=>by rfl|x::l,b,h=>by simp[ZF.ofList,RT]at h⊢;exact⟨[a.eval x],l.map a.eval,rfl,Ztd h.1 (b.eval x),Zim l b h.2⟩
theorem Zl1:∀l cs,RT l=Uc->Kk w g l cs->Jd w g l cs
 |.nil,cs,_,h=>by assumption|.cons x l,cs,j,h=>by
  simp[RT]at j;obtain⟨e,q,rfl,b,r⟩:=h;have c:=j.1;have:∃v,e=[v]:=by
   have s:e.length=1:=by
    unfold Zcu at c;simp[Ve]at c;have⟨_,c⟩:=c
    cases x with|d t y=>simp[HG]at c;rw[Rd.length t y e (by assumption)];simp_all|junk|tup _|agg _|jk _|op _ _=>simp[HG]at c|dp _ _|ptr _ _|vp _ _ _|mp _|fn _ _=>simp[CV]at b;grind|nilr p=>have b:=ZcT b;grind|nw _ ver A _|np _ ver A _ _ _=>simp[CV]at b;grind|nils|vw _=>simp[CV]at b;grind|vs id C n=>simp[CV,ZeI]at b;grind
   exact List.length_eq_one_iff.1 s
  obtain⟨v,rfl⟩:=this;have z:=Ztg c b;refine⟨v,q,rfl,z.to1 ?_,Zl1 l q j.2 r⟩;intro m u;subst u;assumption
theorem Zsj{f first b}(e:RH B H w g ow)(hF:Fr w g F a.tmps)(c:o.op=.makeFunc (.func f) first b)
 (h:(ZP E nid o.op o.type (Zz F)).run H []=Ua ((v,patch),rd)):Zv B (Zu H patch) w g nid v ((execOp a.eval o).run P w):=by
 rw[c]at h;simp only[ZP,ZN,Zb,ZW,Z7,Ve]at h;obtain⟨⟨⟨l,i⟩,d⟩,⟨rfl,rfl⟩,_⟩:=h;have j:first= #[]:=by grind
 have k:Xi f (b.toList.map a.eval)=.func (.func f) #[] (b.map a.eval):=by unfold Xi;rw[i];simp[<-Vnb]
 refine Zv.pure e (val:=.func (.func f) #[] (b.map a.eval)) ?_ ⟨?_,.inr rfl⟩;.simp[execOp,c,Vsc,j,Vmc]
 exact⟨b.toList.map a.eval,by simp[Vwa,k],Zim _ hF d⟩
theorem Zr6{f first b}(d:RH B H w g ow)(hF:Fr w g F a.tmps)(j:o.op=.makeFunc (.func f) first b)(l:b.isEmpty=Uc)(c:RT (ZF.ofList (first.toList.map (Zz F)))=Uc):
 Zv B H w g nid (.fn (f+WO) (ZF.ofList (first.toList.map (Zz F)))) ((execOp a.eval o).run P w):=by
 have i:b= #[]:=by grind
 have e:Vvc (f+WO) WO=false:=by
  cases h:Vvc (f+WO) WO with|false=>rfl|true=>have:=Vi h;omega
 have k:Xi (f+WO) (first.toList.map a.eval)=.func (.func f) (first.map a.eval) #[]:=by unfold Xi;rw[e,Ze,Nat.add_sub_cancel];simp[<-Vnb]
 refine Zv.pure d (val:=.func (.func f) (first.map a.eval) #[]) ?_ ⟨?_,.inr rfl⟩
 .simp[execOp,j,Vsc,i,Vmc]
 exact⟨first.toList.map a.eval,by simp[Vwa,k],Zim _ hF c⟩
theorem Zc5{c b ty}(e:c.callee=.builtin b):
 (do let d<-resolve a.eval c ty;invoke d.target d.args).run P w=(builtin b c.argTypes ty (c.args.map fun|.const _=>Uc|_=>Ud) (c.args.map a.eval)).run P w:=by
 unfold resolve;rw[e];rfl
theorem Zcn v:(#[v]:Array Y)[0]? =Ua v:=rfl
theorem Zsh{c}(U:Z0 P E)(z:RH B H w g ow)(hF:Fr w g F a.tmps)(ho:o.op=.call c)(hc:c.callee=.builtin .len)
 (h:(ZP E nid o.op o.type (Zz F)).run H []=Ua ((v,patch),rd)):Zv B (Zu H patch) w g nid v ((execOp a.eval o).run P w):=by
 rw[ho]at h;simp[ZP,hc]at h;split at h
 .rename_i x T W A;simp only[ZY,Zr,Vb]at h;obtain⟨v',m,h,⟨rfl,rfl⟩,_⟩:=h;have j:=hF.eval x;have q:c.args.map a.eval= #[a.eval x]:=by
   have:c.args= #[x]:=by grind
   grind
  have fin:∀n,v' =.d (.int .i64) n->(Vbb c.argTypes o.type #[a.eval x]).run P w=.ok (.int .i64 n) w->Zv B (Zu H []) w g nid v' ((execOp a.eval o).run P w):=by intro n hv hr;subst hv;refine Zv.pure z ?_ (Xb _ _);simp[execOp,ho,Zc5 hc,builtin,q,Vc,hr,Va,Vd]
  have sl:∀Q n cap,JV (E.ty T)=Uc->a.eval x=.slice Q n cap->(Vbb c.argTypes o.type #[a.eval x]).run P w=.ok (.int .i64 n) w:=by
   intro Q n cap i l;have:∃t,E.ty T=Ua (.sl t):=by
    cases S:E.ty T with|none=>rw[S]at i;simp[JV]at i|some t=>cases t<;>rw[S]at i<;>simp[JV]at i;simp
   have⟨t,S⟩:=this;have⟨Et,hu,_⟩:=Ju U S;simp[Vbb,A,l,Zcn,underlying,Vc,run_program,Va,hu,Vd,goInt]
  unfold Zlr at h;split at h;.rename_i t xs f;simp[ZN,Zr,Zb,ZW,Z7]at h;obtain⟨i,rfl,_⟩:=h;have⟨Q,cap,C,l,_⟩:=(f▸j).sl;grind
  .rename_i s f;simp[ZN,Zr,Zb,ZW,Z7,Kp]at h;obtain⟨i,rfl,_⟩:=h;rw[f]at j;refine fin _ rfl ?_;simp[Vbb,A,VR.str j,underlying,Vc,run_program,Va,ZkJ U i,Zcn,Vd,goInt];rfl
  .rename_i f;simp[ZN,Zr,Zb,ZW,Z7]at h;obtain⟨i,rfl,_⟩:=h;exact fin _ rfl (sl _ _ _ i (f▸j).nils)
  .rename_i id lo n f;simp[ZN,Zr,Zb,ZW,Z7]at h;obtain⟨i,rfl,_⟩:=h;have⟨_,R⟩:=(f▸j).vs;obtain⟨_,_,rfl,R⟩|⟨b,len,cap,m,_,_,_,_,R⟩:=R;all_goals grind
  .rename_i id f;simp[ZN,Zb,ZW,Z7]at h;have⟨O,h⟩:=h;rw[ZZ]at h;split at h
   .rename_i t xs p;obtain⟨rfl,_⟩:=h;have⟨_,l⟩:=(f▸j).vw;have⟨_,_,y⟩:=z.objs id _ p;grind
   .rename_i t xs u a3 p;obtain⟨rfl,_⟩:=h;have⟨_,l⟩:=(f▸j).vw;have⟨_,_,_,_,y⟩:=z.objs id _ p;grind
   .rename_i t xs p;obtain⟨rfl,_⟩:=h;have⟨Q,cap,C,l,_⟩:=(Zho z p (f▸j)).sl;grind
   .rename_i lb xs p;obtain⟨rfl,_⟩:=h;have⟨_,l⟩:=(f▸j).vw;have⟨_,_,y⟩:=z.objs id _ p;obtain⟨rfl,y⟩|⟨b,off,cap,cs,e,i,y,_⟩:=y
    .exact fin _ rfl (sl _ _ _ O (l.trans y))
    exact fin _ rfl (sl _ _ _ O (l.trans y))
   simp[Zb]at h
  .rename_i id ver kt k f;simp only[ZN,ZY,Zr,Zb,ZW,Z7]at h;obtain⟨i,r,m1,D,rfl,_⟩:=h;have⟨_,_,_,_,N⟩:=Zce z (f▸j) D;obtain⟨R,h2⟩|⟨b,cap,cs,e,C,h2,_⟩:=N;all_goals grind
  .rename_i id f;simp only[ZN,Zb,ZW,Z7]at h;have⟨i,h⟩:=h;rw[ZZ]at h;split at h
   .rename_i kt vt mm p;obtain⟨rfl,_⟩:=h;have⟨_,b,hb,l⟩:=(f▸j).mp;have⟨_,b',es,clock,J,_,hh,_,a1⟩:=z.objs id _ p;rw[hb]at J;cases J;have⟨mt,a2⟩:=Vqa.1 i;have⟨K,V,hu,_,_⟩:=U.mty T mt a2;have L:(getObj b).run P w=.ok (.map es clock) w:=by simp only[getObj,Vcb,hh]
    refine fin _ rfl ?_;have M:es.size=mm.length:=by rw[a1.length];simp
    simp only[Vbb,A,l,underlying,Vc,run_program,Va,hu,Zcn,Vd,L,goInt,M]
   simp[Zb]at h
  simp[Zb]at h
 simp[Zb]at h
end ops
section ops
variable {P:Program}{E:Kh}{B:KR}{H:AH}{w:X}{g:Gh}{ow:Nat->Nat->Prop}{nid:Nat}{a:Act}{F:Nat->AV}{v:AV}{patch:Wm}{rd:V Nat}{o:Oper}
theorem Zh5{f}{m2:Y->Y->Sem Y}(i:∀k x y w,(m2 (.int k x) (.int k y)).run P w=.ok (.int k (f x y)) w){k}(hF:Fr w g F a.tmps):
 ∀(l:V G) x r e v,(Zcg f k x (l.map (Zz F))).run H r=Ua (v,e)->∃n,v=.d (.int k) n/\((l.map a.eval).foldlM m2 (.int k x)).run P w=.ok (.int k n) w
 |[],x,r,e,v,h=>by
  simp[Zcg,Zr]at h
  simp_all|y::l,x,r,e,v,h=>by
  have j:=hF.eval y;simp only[Vla]at h⊢;unfold Zcg at h;split at h;.grind
  .rename_i t b u c;have⟨m,p⟩:=List.cons.inj c;subst p;simp[ZN,Zb,Z7]at h;obtain⟨rfl,h⟩:=h;rw[m]at j;have⟨n,q,s⟩:=Zh5 i hF l _ _ _ _ h;refine⟨n,q,?_⟩;rw[List.foldlM_cons,VR.int j,Vc,i];assumption
  simp[Zb]at h
theorem Zso{c}(i:RH B H w g ow)(hF:Fr w g F a.tmps)(e:o.op=.call c)(d:c.callee=.builtin .min)
 (h:(ZP E nid o.op o.type (Zz F)).run H []=Ua ((v,patch),rd)):Zv B (Zu H patch) w g nid v ((execOp a.eval o).run P w):=by
 rw[e]at h;simp[ZP,d]at h;split at h
 .rename_i x l b;have f:=hF.eval x;split at h
  .rename_i k n j;simp only[ZY,Vb]at h;obtain⟨r,m,h,⟨rfl,rfl⟩,_⟩:=h;obtain⟨p,rfl,q⟩:=Zh5 (m2:=Builtin.min2) (λ_ _ _ _=>rfl) hF l _ _ _ _ h;rw[j]at f;refine Zv.pure i ?_ (Xb _ _);have:(Vxc c.argTypes o.type (c.args.map a.eval)).run P w=.ok (.int k p) w:=by unfold Vxc;rw[Vec,b,Vla,VR.int f];omega
   simp[execOp,e,Zc5 d,builtin,this,Va]
  simp[Zb]at h
 simp[Zb]at h
theorem Zsn{c}(i:RH B H w g ow)(hF:Fr w g F a.tmps)(e:o.op=.call c)(d:c.callee=.builtin .max)
 (h:(ZP E nid o.op o.type (Zz F)).run H []=Ua ((v,patch),rd)):Zv B (Zu H patch) w g nid v ((execOp a.eval o).run P w):=by
 rw[e]at h;simp[ZP,d]at h;split at h
 .rename_i x l b;have f:=hF.eval x;split at h
  .rename_i k n j;simp only[ZY,Vb]at h;obtain⟨r,m,h,⟨rfl,rfl⟩,_⟩:=h;obtain⟨p,rfl,q⟩:=Zh5 (m2:=Builtin.max2) (λ_ _ _ _=>rfl) hF l _ _ _ _ h;rw[j]at f;refine Zv.pure i ?_ (Xb _ _);have:(Vyc c.argTypes o.type (c.args.map a.eval)).run P w=.ok (.int k p) w:=by unfold Vyc;rw[Vec,b,Vla,VR.int f];omega
   simp[execOp,e,Zc5 d,builtin,this,Va]
  simp[Zb]at h
 simp[Zb]at h
theorem ZlE{x n}(hF:Fr w g F a.tmps)(h:K1 (Zz F x)=Ua n):∃k,a.eval x=.int k n:=by
 have b:=hF.eval x;unfold K1 at h;split at h;.rename_i k m c;cases h;rw[c]at b;exact⟨k,VR.int b⟩
 grind
theorem ZbY{len cap isS}{e d:Option G}{l h b}(hF:Fr w g F a.tmps)(p:cap<=b)
 (D:∀x∈e,(K1 (Zz F x)).isSome) (z:∀x∈d,(K1 (Zz F x)).isSome)
 (m:sliceB len cap (e.bind λo=>K1 (Zz F o)) (d.bind λo=>K1 (Zz F o))=Ua (l,h)) (C:len<=cap):
 (Vua isS len b (e.map a.eval) (d.map a.eval) Ub).run P w=.ok (l,h,b) w/\l<=h/\h<=cap:=by
 have bound:∀x n (y:Nat) code,K1 (Zz F x)=Ua n->0<=n->n<=y->(Vu (a.eval x) y code).run P w=.ok n.toNat w:=by intro x n y code J q j;have⟨k,u⟩:=ZlE hF J;simp[Vu,u,asIntOf,Vd,q,j,if_true]
 unfold sliceB at m;simp[Vk]at m;have⟨f,K,A⟩:=m
 have c:((match d.map a.eval,(none:Option Y) with
  |some v,Ua _=>Vu v b .slice3B|some v,none=>Vu v b (if isS then .sliceAcap else .sliceAlen)|none,none=>pure len
  |none,some _=>stuck "Slice: max without high")).run P w=.ok f w∧f≤cap:=by
  cases d with
  |none=>simp_all|some x=>
   grind
 have i:((match e.map a.eval with
  |some v=>Vu v f (if (none:Option Y).isSome then .slice3C else .sliceB)|none=>pure 0)).run P w=.ok l w/\l<=f/\f=h:=by
  cases e with
  |none=>obtain⟨rfl,rfl⟩:=A;simp|some x=>
   grind
 have⟨j,r⟩:=c;obtain⟨s,t,rfl⟩:=i;refine⟨?_,t,r⟩;unfold Vua;cases d<;>cases e<;>simp[Vra]at j s⊢ <;> (simp_all)<;> (simp_all)<;>simp_all
theorem KH.part{w b off}{css:V (V Y)}{s l n}(m:∀c∈css,c.length=s)(k:l<=css.length)(h:KH w b off css.flatten):KH w b (off+l*s) ((css.drop l).take n).flatten:=by
 have e:css.flatten=(css.take l).flatten++(((css.drop l).take n).flatten++((css.drop l).drop n).flatten):=by rw[<-Vaa,Vub,<-Vaa,Vub]
 have f:(css.take l).flatten.length=l*s:=by rw[Hm λc i=>m c (List.mem_of_mem_take i),List.length_take,Vrb k]
 intro j p;have d:l*s+j<css.flatten.length:=by grind
 have:=h (l*s+j) d;grind
theorem Zbs{b}(h:X5 (Zz F) b=Uc):∀x∈b,(K1 (Zz F x)).isSome:=by intro x c;cases c;exact h
theorem Zsu{T x lo hi}(u:Z0 P E)(L:RH B H w g ow)(hF:Fr w g F a.tmps)(O:o.op=.slice T x lo hi Ub)
 (h:(ZP E nid o.op o.type (Zz F)).run H []=Ua ((v,patch),rd)):Zv B (Zu H patch) w g nid v ((execOp a.eval o).run P w):=by
 rw[O]at h;simp only[ZP,ZN,Zb,ZW,false_or,Vh,Ve]at h;have⟨⟨k,j⟩,h⟩:=h;have k:=Zbs k;have j:=Zbs j;have Q:=hF.eval x;split at h
 .rename_i t xs D;simp only[ZN,ZD,Zr,Zb,ZW,false_or,Vh,Kp,Vb]at h;obtain⟨C,⟨l,d⟩,q,⟨rfl,rfl⟩,_⟩:=h;have⟨J,N,f⟩:=Ju u C;have⟨m,cap,r,M,i,U,c⟩:=(D▸Q).sl;have⟨y,A,z⟩:=ZbY (P:=P) (w:=w) (isS:=true) hF c k j q (Vf _);refine Zv.pure L (val:=.slice (if cap=l then m else m.map (·.add (l*t.size))) (d - l) (cap - l)) ?_ (KT ?_ rfl rfl)
  .simp only[execOp,O,M,Vma,Vxa,Vq,underlying,Vc,run_program,Va,N,Vd,y,(u.ty J t f).run_sizeOf]
  simp only[CV,Rd];have p:((xs.drop l).take (d - l)).length=d - l:=by grind
  refine⟨_,cap - l,(r.drop l).take (d - l),by rw[p],(i.drop l).take _,λa3=>?_,by omega⟩;have S:0<d - l:=by grind
  obtain⟨b,off,rfl,hI,hL⟩:=U (by grind);refine⟨b,off+l*t.size,?_,hI,KH.part (Rd.all_length i) (by rw[<-i.length];omega) hL⟩;rw[Zg (by omega)];simp only[Vj,Z4];unfold Addr.add;simp
 .rename_i s D;simp only[ZN,ZD,Zr,Zb,ZW,false_or,Vh,Kp,Vb]at h;obtain⟨C,⟨l,d⟩,q,⟨rfl,rfl⟩,_⟩:=h;rw[D]at Q;have⟨y,A,z⟩:=ZbY (P:=P) (w:=w) (isS:=Ud) hF (Vf _) k j q (Vf _);have a4:(⟨s.toArray⟩:ByteArray).size=s.length:=by rfl
  refine Zv.pure L (val:=.string ((⟨s.toArray⟩:ByteArray).extract l d)) ?_ ?_;.simp only[execOp,O,VR.str Q,Vma,Vxa,Vq,underlying,Vc,run_program,Va,ZkJ u C,Vd,Option.isSome_none,Vra,if_false,a4,y]
  have:(⟨s.toArray⟩:ByteArray).extract l d=⟨((s.drop l).take (d - l)).toArray⟩:=by apply ByteArray.ext;simp
  rw[this];exact Ze6 _
 .rename_i D;split at h
  .rename_i t C;simp only[ZD,Zr,Vb]at h;obtain⟨⟨l,d⟩,q,⟨rfl,rfl⟩,_⟩:=h;have⟨J,N,f⟩:=Ju u C;have M:=(D▸Q).nils;have⟨y,A,z⟩:=ZbY (P:=P) (w:=w) (isS:=true) hF (Vf 0) k j q (Vf _);have a2:l=0:=by omega
   have a1:d=0:=by omega
   subst a2 a1;refine Zv.pure L (val:=.slice Ub 0 0) ?_ (by grind);simp only[execOp,O,M,Vma,Vxa,Vq,underlying,Vc,run_program,Va,N,Vd,y,(u.ty J t f).run_sizeOf];rfl
  simp[Zb]at h
 .rename_i id D;rw[ZZ]at h;split at h
  .rename_i t xs W;simp only[ZN,ZD,Zb,ZW,false_or,Vh,Kp]at h;have⟨C,⟨l,d⟩,q,h⟩:=h;have hh:v=.vs id l (d - l)/\patch=[]:=by
    cases lo with
    |none=>
     simp only[Zr,Vb]at h;have U:0=l:=by simp only[sliceB,Vfc,Vk,Z4,Vb]at q;omega
     grind|some x=>
     simp only[Zr,Vb]at h;grind
   obtain⟨rfl,rfl⟩:=hh;have⟨J,N,f⟩:=Ju u C;have⟨hk,M⟩:=(D▸Q).vw;have⟨_,a6,K⟩:=L.objs id _ W;have key:∃m cap,g.slv id=.slice m xs.length cap/\xs.length<=cap/\(∀l n,l+n<=xs.length->ZeI (g.slv id) t.size l n [.slice (if cap=l then m else m.map (·.add (l*t.size))) n (cap - l)]):=by
    obtain⟨rfl,_,K⟩|⟨b,cap,cs,e,r,_,_,K,_,c,_⟩:=K
    .refine⟨Ub,0,K,Vf _,λl n R=>.inl ⟨K,?_,?_,?_⟩⟩;all_goals grind
    refine⟨_,cap,K,c,λl n R=>.inr ⟨b,xs.length,cap,cap - l,K,R,by omega,by omega,?_⟩⟩;congr 2;by_cases h0:cap=l;.grind
    rw[Zg h0,Zg (by omega)];simp only[Vj,Z4];unfold Addr.add;grind
   have⟨m,cap,hv,c,a5⟩:=key;have⟨y,A,z⟩:=ZbY (P:=P) (w:=w) (isS:=true) hF c k j q (Vf _);refine Zv.pure L (val:=.slice (if cap=l then m else m.map (·.add (l*t.size))) (d - l) (cap - l)) ?_ (KT ?_ rfl rfl);.simp only[execOp,O,M,hv,Vma,Vxa,Vq,underlying,Vc,run_program,Va,N,Vd,y,(u.ty J t f).run_sizeOf]
   simp only[CV];grind
  .rename_i t xs W;simp only[ZN,ZD,Zr,Zb,ZW,false_or,Vh,Kp,Vb]at h;obtain⟨C,⟨l,d⟩,q,⟨rfl,rfl⟩,_⟩:=h;have⟨J,N,f⟩:=Ju u C;have⟨m,cap,r,M,i,U,c⟩:=(Zho L W (D▸Q)).sl;have⟨y,A,z⟩:=ZbY (P:=P) (w:=w) (isS:=true) hF c k j q (Vf _);refine Zv.pure L (val:=.slice (if cap=l then m else m.map (·.add (l*t.size))) (d - l) (cap - l)) ?_ (KT ?_ rfl rfl)
   .simp only[execOp,O,M,Vma,Vxa,Vq,underlying,Vc,run_program,Va,N,Vd,y,(u.ty J t f).run_sizeOf]
   simp only[CV,Rd];have p:((xs.drop l).take (d - l)).length=d - l:=by grind
   refine⟨_,cap - l,(r.drop l).take (d - l),by rw[p],(i.drop l).take _,λa3=>?_,by omega⟩;have S:0<d - l:=by grind
   obtain⟨b,off,rfl,hI,hL⟩:=U (by grind);refine⟨b,off+l*t.size,?_,hI,KH.part (Rd.all_length i) (by rw[<-i.length];omega) hL⟩;rw[Zg (by omega)];simp only[Vj,Z4];unfold Addr.add;simp
  simp[Zb]at h
 simp[Zb]at h
end ops
theorem Znh off:∀d k (pre c post:V Y),c.length=d.length->pre.length=off+k->
 (d.zipIdx k).foldl (λcs x=>cs.setIfInBounds (off+x.2) x.1) (pre++c++post).toArray=(pre++d++post).toArray
 |[],k,pre,c,post,h,_=>by simp_all|x::d,k,pre,c,post,h,b=>by
  match c,h with
  |y::c,h=>
   simp only[List.zipIdx_cons,List.foldl_cons];have e:(pre++(y::c)++post).toArray.setIfInBounds (off+k) x=((pre++[x])++c++post).toArray:=by grind
   rw[e,Znh off d (k+1) (pre++[x]) c post (by grind) (by grind)];simp
def Ro(css:V (V Y))(b:V (Nat×Y)):V (V Y):=b.foldl (λcss p=>css.set p.1 p.2.cells.toList) css
theorem ZfY{place lens}(k:∀i,(h:i<lens.length)->place i=Ua ((lens.take i).sum,lens[i])):∀c css,css.map Vga=lens->
 (∀p∈c,∃n,lens[p.1]? =Ua n/\p.2.cells.size=n)->Vpc place css.flatten.toArray c=Ua (Ro css c).flatten.toArray/\(Ro css c).map Vga=lens
 |[],css,j,_=>⟨rfl,j⟩|(i,v)::c,css,j,h=>by
  have⟨n,s,u⟩:=h (i,v) (by simp);obtain⟨q,rfl⟩:=Vna.1 s;have r:i<css.length:=by grind
  have b:css.flatten=(css.take i).flatten++css[i]++(css.drop (i+1)).flatten:=by
   calc css.flatten=(css.take i++css[i]::css.drop (i+1)).flatten:=by simp
    _=_:=by grind
  have f:(css.take i).flatten.length=(lens.take i).sum:=by simp_all
  have l:css.set i v.cells.toList=css.take i++v.cells.toList::css.drop (i+1):=List.set_eq_take_append_cons_drop .. |>.trans (by grind);have d:(css.set i v.cells.toList).map Vga=lens:=by simp_all
  have⟨t,m⟩:=ZfY k c (css.set i v.cells.toList) d (by grind);refine⟨?_,m⟩;unfold Vpc;simp only[k i q];rw[Zg]
  .rw[<-Array.foldl_toList,Array.toList_zipIdx,b];have:=Znh (lens.take i).sum v.cells.toList 0 (css.take i).flatten css[i] (css.drop (i+1)).flatten (by grind) f;have e:=this;rw[e];have:((css.take i).flatten++v.cells.toList++(css.drop (i+1)).flatten)=(css.set i v.cells.toList).flatten:=by grind
   rw[this];assumption
  grind
theorem Zg0:∀b css,DL css.length (b.map (·.1))=Uc->∀j,j<css.length->
 (Ro css b)[j]? =(match b.lookup j with|some v=>Ua v.cells.toList|none=>css[j]?)
 |[],css,_,j,_=>rfl|(i,v)::b,css,h,j,c=>by simp[DL]at h;have:=Zg0 b (css.set i v.cells.toList) (by grind) j (by grind);show (Ro (css.set i v.cells.toList) b)[j]? =_;grind
theorem Zg1:∀b css,(Ro css b).length=css.length|[],_=>rfl|(i,v)::b,css=>by show (Ro (css.set i v.cells.toList) b).length=_;rw[Zg1 b,List.length_set]
section ops
variable {P:Program}{E:Kh}{B:KR}{H:AH}{w:X}{g:Gh}{ow:Nat->Nat->Prop}{nid:Nat}{a:Act}{F:Nat->AV}{v:AV}{patch:Wm}{rd:V Nat}{o:Oper}
def ZF.toL:ZF->V AV|.nil=>[]|.cons v l=>v::l.toL
theorem ZeU:∀{l}{cs},Kk w g l cs↔∃css,cs=css.flatten/\Fa (CV w g) l.toL css
 |.nil,cs=>by
  constructor;.rintro rfl;exact⟨[],rfl,trivial⟩
  rintro ⟨css,rfl,h⟩
  match css,h with|[],_=>rfl
 |.cons v l,cs=>by
  constructor;.rintro ⟨e,i,rfl,b,d⟩;obtain⟨css,rfl,f⟩:=ZeU.1 d;exact⟨e::css,rfl,b,f⟩
  rintro ⟨css,rfl,h⟩
  match css,h with|c::css,⟨b,d⟩=>exact⟨c,css.flatten,rfl,b,ZeU.2 (by grind)⟩
theorem Zok:∀{l}{d}{cs},DJ l=Ua d->Kk w g l cs->Rd w g.I d.1 d.2 cs
 |.nil,d,cs,h,b=>by
  simp[DJ]at h
  subst h;assumption|.cons v l,d,cs,h,b=>by
  obtain⟨e,f,rfl,k,i⟩:=b
  cases v with
  |d t x=>
   simp[DJ]at h
   cases c:DJ l with
   |none=>grind|some j=>
    rw[c]at h;simp[Z4]at h;subst h
    exact⟨e,f,rfl,by assumption,Zok c i⟩
  |_=>simp[DJ]at h
theorem ZwK{l cs}(h:Kk w g l cs):CV w g (Zeh l) cs/\(Zeh l).isAgg=true:=by
 unfold Zeh
 cases b:DJ l with
 |none=>exact⟨by assumption,rfl⟩|some d=>
  refine⟨by simpa only[CV] using Zok b h,?_⟩
  cases l with
  |nil=>simp[DJ]at b;subst b;rfl|cons v l=>
   cases v with
   |d t x=>
    simp[DJ]at b;split at b;.cases b;rfl
    grind|_=>simp[DJ]at b
theorem ZAk:∀t cs,t.chain=Uc->t.data=Uc->Rd w g.I t (zeroEl t) cs->Kk w g (Ru Uc t) cs:=by
 intro t
 induction t with
 |prod a b _ d=>
  intro cs f c h;simp[Ty.data]at c;obtain⟨i,e,rfl,k,j⟩:=h;refine⟨i,e,rfl,?_,d e (by assumption) c.2 j⟩;simp[H5,c.1,CV]
  assumption|unit=>
  intro cs _ _ h
  assumption|_=>intro cs f;simp[Ty.chain]at f
def Ty.parts:Ty->V Ty|.prod a b=>a::b.parts|_=>[]
theorem Zi6:∀t,fieldsOf t=t.parts.length|.prod a b=>by simp[fieldsOf,Ty.parts,Zi6 b]|.unit|.int _|.bool|.str|.sl _|.arr _ _|.ref|.pt _|.lk _ _|.pn _=>rfl
theorem ZoC:∀t n,t.chain=Uc->ZV t [n]=(t.parts[n]?).map λe=>(((t.parts.take n).map Ty.size).sum,e):=by
 intro t
 induction t with
 |prod a b _ d=>
  intro n c;have c:b.chain=true:=by assumption
  cases n with
  |zero=>simp[ZV,Ty.parts]|succ n=>
   simp[ZV,d n c,Ty.parts,List.sum_cons]
   grind
 |unit=>intro n _;rfl|_=>intro n c;simp[Ty.chain]at c
theorem Zq8 z:∀t,(Ru z t).toL=t.parts.map (H5 z)|.prod a b=>by simp[Ru,ZF.toL,Ty.parts,Zq8 z b]|.unit|.int _|.bool|.str|.sl _|.arr _ _|.ref|.pt _|.lk _ _|.pn _=>rfl
theorem Zij z c:∀t k n,(ZaH z c t k).toL[n]? =(t.parts[n]?).map λd=>(c.lookup (k+n)).getD (H5 z d)
 |.prod a b,k,n=>by
  cases n with
  |zero=>rfl|succ n=>
   simp[ZaH,ZF.toL,Ty.parts]
   rw[Zij z c b (k+1) n,show k+1+n=k+(n+1) by omega]
 |.unit,_,_|.int _,_,_|.bool,_,_|.str,_,_|.sl _,_,_|.arr _ _,_,_|.ref,_,_|.pt _,_,_|.lk _ _,_,_|.pn _,_,_=>rfl
theorem Znc:∀{l:ZF}{t},l.fits t=Uc->∀{n:Nat}{v},l.toL[n]? =Ua v->∃d,t.parts[n]? =Ua d/\v.fits d=Uc
 |.nil,t,_,n,v,h=>by simp[ZF.toL]at h|.cons x l,t,c,n,v,h=>by
  cases t with
  |prod a b=>
   simp[ZF.fits]at c
   cases n with|zero=>simp[ZF.toL,Z4]at h;subst h;exact⟨a,rfl,c.1⟩|succ n=>exact Znc c.2 h
  |_=>simp[ZF.fits]at c
theorem Zoa{α β:Type}{f}{g:α->β}:∀{l:V α},(∀x∈l,f x=Ua (g x))->l.mapM f=Ua (l.map g)|[],_=>rfl|x::l,h=>by rw[List.mapM_cons,h x (by simp),Zoa λy b=>h y (by simp[b])];rfl
theorem Zzk{T n k}(x:Z0 P E)(h:E.ty T=Ua (.prod n k)):∃e c,P.underlying T=Ua (.struct e)/\k.chain=Uc/\
 e.toList.mapM (λf=>(P.info? f.type).map λi=>(f.offset,i.size))=Ua c/\∀i u,(Ty.prod n k).parts[i]? =Ua u->c[i]? =Ua ((((Ty.prod n k).parts.take i).map Ty.size).sum,u.size):=by
 have q:=(x.ty T _ h).shape
 cases A:P.underlying T with
 |none=>rw[A]at q;simp[Ka]at q|some d=>
  rw[A]at q
  cases d with
  |struct e=>
   simp[Ka,Vlb]at q;have⟨⟨j,m⟩,s⟩:=q;have b:(Ty.prod n k).chain=true:=s;have y:(Ty.prod n k).parts.length<=e.size:=by rw[ZoC _ _ b]at m;grind
   refine⟨e,e.toList.map λf=>(f.offset,((E.ty f.type).map Ty.size).getD 0),rfl,s,Zoa λf C=>?_,?_⟩
   .obtain⟨i,t,rfl⟩:=Vdb C;have l:i<e.size:=by omega
    have p:=j i l;rw[Vka l]at p
    cases D:ZV (.prod n k) [i] with
    |none=>grind|some r=>
     rw[D]at p;simp[Kp]at p;have⟨L,z,l,J,_⟩:=(x.ty _ _ p.1.2).info;grind
   intro i u K;have t:i<e.size:=by grind
   have p:=j i t;rw[ZoC _ _ b,Vka t,K]at p
   grind
  |_=>simp[Ka]at q
theorem ZbP{α β b:Type}[BEq α](f:β->b) k:∀l:V (α×β),(l.map λp=>(p.1,f p.2)).lookup k=(l.lookup k).map f|[]=>rfl|(i,x)::l=>by simp[Vgc,ZbP f k l];grind
theorem ZgB{α β:Type}[BEq α][LawfulBEq α]{k x}:∀{l:V (α×β)},(l.map (·.1)).Nodup->(k,x)∈l->l.lookup k=Ua x
 |(i,y)::l,b,h=>by
  simp[Vza]at b;rw[Vgc];obtain h|h:=Vkb.1 h;.grind
  have:(k==i)=false:=by grind
  rw[this];exact ZgB b.2 h
theorem ZgH{n}:∀{l},DL n l=Uc->l.Nodup/\∀i∈l,i<n
 |[],_=>by simp|i::l,h=>by
  simp only[DL,Ve]at h;have⟨⟨c,e⟩,d⟩:=h;have⟨f,k⟩:=ZgH d;refine⟨by grind,?_⟩;intro j b;obtain rfl|b:=Vkb.1 b;.exact Vi c
  grind
theorem ZAh z t:(H5 z t).fits t=true:=by
 unfold H5
 cases b:t.data&&(z|| !t.isSl) with|true=>simp[AV.fits]|false=>cases t<;>simp[ZhB,AV.fits]
theorem ZAj{d b cs} x(c:b.chain=Uc)(h:D1 (.prod d b) cs=Uc):∃css,cs=css.flatten/\Fa (CV w g) ((Ty.prod d b).parts.map (H5 ((Ty.prod d b).data&& !x))) css:=by
 rw[<-Zq8];apply ZeU.1
 cases x with
 |true=>rw[Bool.not_true,Bool.and_false];exact(Zhz _ _ (Zra c h)).1|false=>
 unfold D1 at h
 cases e:(Ty.prod d b).data with
 |true=>
  rw[e]at h
  exact ZAk _ _ c e (ZeR _ _ h)|false=>
  rw[e]at h;exact(Zhz _ _ h).1
theorem Zrb{z}:∀{l:V Ty}{css},Fa (CV w g) (l.map (H5 z)) css->css.map Vga=l.map Ty.size|[],[],_=>rfl|t::l,c::css,⟨b,d⟩=>by rw[Vla,Vla,CV.length _ t c (ZAh z t) b,Zrb d]
theorem Zvg{v:AV}{t}(h:v.fits t=Uc):∀l,v≠ .tup l:=by rintro l rfl;simp[AV.fits]at h
theorem ZsZ{T f h}{e:V (Nat×G)}(S:Z0 P E)(ht:E.ty T=Ua (.prod f h))(hF:Fr w g F a.tmps)(hp:DL (fieldsOf (.prod f h)) (e.map (·.1))=Uc)
 x (hf:(ZaH (Ty.data (.prod f h)&& !x) (e.map λp=>(p.1,Zz F p.2)) (.prod f h) 0).fits (.prod f h)=Uc):
 ∃cells,P.built T (e.map λp=>(p.1,a.eval p.2))=Ua cells/\Kk w g (ZaH (Ty.data (.prod f h)&& !x) (e.map λp=>(p.1,Zz F p.2)) (.prod f h) 0) cells.toList:=by
 have⟨fs,r,hu,K,a1,u⟩:=Zzk S ht;have⟨i,z,hi,_,_,hz,A,_⟩:=(S.ty T _ ht).info;have⟨d,U,s⟩:=ZAj (w:=w) (g:=g) x K A;have j:=ZgH hp;have l:d.map Vga=(Ty.prod f h).parts.map Ty.size:=Zrb s;have hn:d.length=(Ty.prod f h).parts.length:=by have:=congrArg Vga l;grind
 have J:∀k y,(k,y)∈e->∃m,(Ty.prod f h).parts[k]? =Ua m/\(Zz F y).fits m=Uc/\e.lookup k=Ua y:=by intro k y Q;have hl:=ZgB j.1 Q;have W:=j.2 k (by grind);rw[Zi6]at W;have C:=Zij (Ty.data (.prod f h)&& !x) (e.map λp=>(p.1,Zz F p.2)) (.prod f h) 0 k;rw[ZbP,Vn,hl,Vs W]at C;have⟨m,h3,D⟩:=Znc hf C;grind
 have L:∀x m,(Zz F x).fits m=Uc->CV w g (Zz F x) (a.eval x).cells.toList:=λx m Q=>((hF.eval x).to1 (Zvg Q)).1;have M:=ZfY (place:=(r.toArray[·]?)) (by
  simp_all) (e.map λp=>(p.1,a.eval p.2)) d l (by
  intro p O;obtain⟨q,hq,rfl⟩:=Vpb.1 O;have⟨m,h3,D,_⟩:=J q.1 q.2 hq;refine⟨m.size,by grind,?_⟩;have:=CV.length _ m _ D (L q.2 m D);omega)
 refine⟨(Ro d (e.map λp=>(p.1,a.eval p.2))).flatten.toArray,?_,?_⟩
 .unfold Program.built;have a2:z.cells=d.flatten.toArray:=by grind
  grind
 apply ZeU.2;refine⟨Ro d (e.map λp=>(p.1,a.eval p.2)),rfl,ZdV ?_ ?_⟩
 .rw[Zg1];have:∀z t e k,(ZaH z e t k).toL.length=t.parts.length:=by
   intro z t
   induction t with|prod a b _ R=>intro e k;simp[ZaH,ZF.toL,Ty.parts,R]|_=>intro e k;rfl
  grind
 intro n v c hv hc;rw[Zij,ZbP,Vn]at hv;have N:n<d.length:=by grind
 rw[Zg0 _ _ (by rw[Vqb,hn,<-Zi6];assumption) n N,ZbP]at hc
 cases hl:e.lookup n with
 |none=>
  have⟨c',h1,C⟩:=s.get n v (by grind)
  grind|some x=>
  grind
theorem Zfo{t b}:∀{m k}{l},Zbt t b m k=Ua l->l.length=m/\∀j,(h:j<l.length)->(b.lookup (k+j)).getD (.d t (zeroEl t))=.d t l[j]
 |0,k,l,h=>by
  simp[Zbt]at h
  grind|m+1,k,l,h=>by
  simp[Zbt]at h;split at h;.rename_i q x n;simp[Vk]at h;have⟨y,e,p,c,h⟩:=h;cases h;obtain⟨rfl,rfl⟩:=KS e;have⟨f,i⟩:=Zfo c;grind
  grind
theorem ZoS{c}:∀{b:V (Nat×AV)},Fa (λp q=>q.1=p.1/\VR w g q.2 (a.eval p.2)) c b->∀k,(c.lookup k=Ub/\b.lookup k=Ub)\/∃x v,c.lookup k=Ua x/\b.lookup k=Ua v/\VR w g v (a.eval x):=by
 induction c with
 |nil=>intro b h k;cases b with|nil=>simp|cons q b=>exact h.elim
 |cons p c i=>
  intro b h k
  cases b with
  |nil=>exact h.elim|cons q b=>
   have⟨⟨d,e⟩,f⟩:=h;grind
theorem ZoT(hF:Fr w g F a.tmps):∀b:V (Nat×G),Fa (λp q=>q.1=p.1/\VR w g q.2 (a.eval p.2)) b (b.map λp=>(p.1,Zz F p.2))|[]=>trivial|p::b=>⟨⟨rfl,hF.eval p.2⟩,ZoT hF b⟩
theorem ZlV{e}{s:V (Nat×G)}{N n l css}(y:Fa (λp q=>q.1=p.1/\VR w g q.2 (a.eval p.2)) s N)(T:DL n (s.map (·.1))=Uc)
 (R:Zbt e N n 0=Ua l) (j:Fa (Rd w g.I e) (Vg n (zeroEl e)) css):
 ∃f,Vpc (λi=>Ua (i*e.size,e.size)) css.flatten.toArray (s.map λp=>(p.1,a.eval p.2))=Ua f.flatten.toArray/\Fa (Rd w g.I e) l f:=by
 have⟨K,h⟩:=Zfo R;have b:=ZgH T;have Q:css.length=n:=by rw[<-j.length,Vv]
 have m:css.map Vga=Vg n e.size:=by apply List.eq_replicate_iff.2;refine⟨by grind,?_⟩;intro c D;obtain⟨d,S,rfl⟩:=Vpb.1 D;exact Rd.all_length j d S
 have J:∀k x,s.lookup k=Ua x->(u:k<l.length)->Rd w g.I e l[k] (a.eval x).cells.toList:=by
  intro k x M u;have r:=h k u;rw[Vn]at r;obtain⟨t,_⟩|⟨W,U,t,C,z⟩:=ZoS y k;.grind
  rw[M]at t;cases t;rw[C]at r;simp[Vt]at r;rw[r]at z;have A:Kw w g (.d e l[k]) (a.eval x):=z;simpa only[CV] using A.1
 have⟨r,z⟩:=ZfY (place:=λi=>Ua (i*e.size,e.size)) (by
  intro i O;simp[Vv]at O;simp[Vrb (Nat.le_of_lt O)]) (s.map λp=>(p.1,a.eval p.2)) css m (by
  intro p L;obtain⟨q,y,rfl⟩:=Vpb.1 L;have u:=b.2 q.1 (by grind);refine⟨e.size,by grind,?_⟩;have:=Rd.length _ _ _ (J q.1 q.2 (ZgB b.1 y) (by omega));omega)
 refine⟨_,r,ZdV (by rw[Zg1,K,Q]) ?_⟩;intro k x c M D;obtain⟨u,rfl⟩:=Vna.1 M;rw[Zg0 _ _ (by rw[Vqb,Q];assumption) k (by omega),ZbP]at D
 cases hl:s.lookup k with
 |none=>
  have A:=h k u;rw[Vn]at A;have C:N.lookup k=none:=by
   obtain⟨_,C⟩|⟨W,U,t,_⟩:=ZoS y k;all_goals grind
  have⟨c',h4,t⟩:=j.get k (zeroEl e) (by grind)
  grind|some x=>
  grind
theorem ZlC{T n t}(f:Z0 P E)(h:E.ty T=Ua (.arr n t)):∃c,P.underlying T=Ua (.array n c)/\E.ty c=Ua t:=by
 have b:=(f.ty T _ h).shape
 cases e:P.underlying T with
 |none=>rw[e]at b;simp[Ka]at b|some d=>
  rw[e]at b;cases d<;>simp[Ka]at b;grind
end ops
section
variable {B:KR}{H:AH}{w:X}{g:Gh}{ow:Nat->Nat->Prop}{F:Nat->AV}{I:Nat->Prop}
theorem KH.of_vec{b cs e}{css:V (V Y)}(d:w.heap[b]? =Ua (.cells cs e (0,0)))(c:css.flatten<+:cs.toList):KH w b 0 css.flatten:=by
 intro j h;have⟨r,i⟩:=c;simp[Vhc,d];have f:j<cs.size:=by grind
 congr 1;have:cs.toList[j]'(by omega)=css.flatten[j]:=by grind
 grind
theorem ZsF t cs(x:V (El t)) ids l c(h:(Km (.sl t) (.nils)).run H l=Ua ((x,ids),c))(b:CV w g (.nils) cs):Rd w I (.sl t) x cs:=by obtain⟨⟨rfl,rfl⟩,_⟩:=h;exact⟨Ub,0,[],b,trivial,by simp,Vf _⟩
theorem ZsJ(i:RH B H w g ow)(f:∀b,g.I b->I b) t{id} cs(x:V (El t)) ids l p(h:(Km (.sl t) (.vw id)).run H l=Ua ((x,ids),p))(k:CV w g (.vw id) cs)(m:∀b,ZO H ow ids b->I b):Rd w I (.sl t) x cs:=by
 simp[Km]at h;rw[ZZ]at h;split at h;.rename_i n xs c;simp[ZD]at h;obtain⟨y,e,⟨rfl,rfl⟩,_⟩:=h;obtain⟨d,rfl⟩:=KS e;cases d;rw[k.2.1];exact ZqP (i.objs id _ c).2 f λb j=>m b ⟨id,by simp,by grind,j⟩
 .rename_i n xs u c;simp[ZD]at h;obtain⟨y,e,⟨rfl,rfl⟩,_⟩:=h;obtain⟨d,rfl⟩:=Zcv e;subst d;rw[k.2.1];exact ZpV (i.objs id _ c).2 f λb j=>m b ⟨id,by simp,by grind,j⟩
 .rename_i n xs c;simp[ZD]at h;obtain⟨y,e,⟨rfl,rfl⟩,_⟩:=h;obtain⟨d,rfl⟩:=KS e;cases d;rw[k.2.1];exact Rd.mono (λ_ _=>rfl) f _ _ _ (i.objs id _ c).2.2
 simp[Zb]at h
theorem ZsG(s:RH B H w g ow)(p:∀b,g.I b->I b) t{id ver j k} cs(x:V (El t)) ids l C(h:(Km (.sl t) (.nw id ver j k)).run H l=Ua ((x,ids),C))(i:CV w g (.nw id ver j k) cs)(q:∀b,ZO H ow ids b->I b):Rd w I (.sl t) x cs:=by simp[Km,ZY,ZD]at h;obtain⟨r,m,c,y,A,⟨rfl,rfl⟩,_⟩:=h;obtain⟨z,rfl⟩:=Zcv A;subst z;have e:=i;obtain⟨_,_,v,rfl,n,_⟩:=i;have⟨f,_,_,_,d⟩:=Zce s (KT e n rfl) c;exact d.data p λb u=>q b ⟨id,by simp,f,u⟩
theorem ZsI(C:RH B H w g ow)(z:∀b,g.I b->I b) t{id d n} cs(x:V (El t)) ids l R(h:(Km (.sl t) (.vs id d n)).run H l=Ua ((x,ids),R))(D:CV w g (.vs id d n) cs)(A:∀b,ZO H ow ids b->I b):Rd w I (.sl t) x cs:=by
 simp[Km]at h;rw[ZZ]at h;split at h
 .rename_i t' xs u;simp[ZD]at h;obtain⟨y,Q,⟨rfl,rfl⟩,_⟩:=h;obtain⟨J,rfl⟩:=KS Q;cases J;have⟨_,N⟩:=D;have⟨_,M,j⟩:=C.objs id _ u;obtain⟨s,rfl,rfl,rfl⟩|⟨b,len,cap,m,s,T,U,W,rfl⟩:=N
  .exact⟨Ub,0,[],by simp,by trivial,by simp,by simp⟩
  obtain⟨_,_,i⟩|⟨S,r,cells,e,p,_,L,i,K,_,_,f,k⟩:=j;.grind
  rw[s]at i;obtain⟨rfl,rfl,rfl⟩:=i;refine⟨Ua ⟨b,if m=0 then 0 else d*t.size,Ub⟩,m,(p.drop d).take n,?_,((f.drop d).take n).mono λx c O=>Rd.mono (λ_ _=>rfl) z t x c O,λq=>⟨b,d*t.size,?_,A b ⟨id,by simp,by grind,L⟩,?_⟩,?_⟩;.grind
  .have:0<((xs.drop d).take n).length:=Vyb.2 q;grind
  .have:=KH.part (l:=d) (n:=n) (Rd.all_length f) (by rw[<-f.length];omega) (KH.of_vec K k);grind
  grind
 simp[Zb]at h
theorem Zox{a b y p off c}(l:I p)(k:KH w p off c)(h:Rd w I (ZcU a b) y c):Rd w I (.lk a b) ((y.1,y.2.2)::y.2.1) [.pointer (Ua ⟨p,off,Ub⟩)]:=by obtain⟨d,m,rfl,f,c3,e,rfl,i,j⟩:=h;exact⟨p,off,d,c3,e,rfl,l,k,f,i,j⟩
theorem ZsD(d:∀b,g.I b->I b) a b{e y} cs(x:V (El a×El b)) ids l n(h:(Km (.lk a b) (.dp e y)).run H l=Ua ((x,ids),n))(k:CV w g (.dp e y) cs):Rd w I (.lk a b) x cs:=by simp only[Km,ZD]at h;obtain⟨z,m,⟨rfl,rfl⟩,_⟩:=h;obtain⟨rfl,rfl⟩:=KS m;obtain⟨p,off,c,rfl,f,i,j⟩:=k;exact Zox (d _ f) i (Rd.mono (λ_ _=>rfl) d _ _ _ j)
theorem ZqO(r:RH B H w g ow)(p:∀b,g.I b->I b){id x j y cs}(i:H id=Ua (.var x (.d j y)))(s:CV w g (.ptr id []) cs)(q:∀b,ZO H ow [id] b->I b):∃b cells e,cs=[.pointer (Ua ⟨b,0,Ub⟩)]/\I b/\w.heap[b]? =Ua (.cells cells e (0,0))/\Rd w I j y cells.toList:=by obtain⟨_,o,t,b,f,k,rfl⟩:=s;have⟨_,u,C,z,c,e,h,l,m,A,n⟩:=r.objs id _ i;rw[WW,Z4,Vb]at f;obtain⟨rfl,_⟩:=f;rw[k]at h;cases h;exact⟨b,c,e,rfl,q b ⟨id,by simp,by rw[i];simp,l⟩,m,Rd.mono (λ_ _=>rfl) p _ _ _ n⟩
theorem ZsH(f:RH B H w g ow)(d:∀b,g.I b->I b) t{id} cs(x:Option (El t)) ids l k(h:(Km (.pt t) (.ptr id [])).run H l=Ua ((x,ids),k))(i:CV w g (.ptr id []) cs)(e:∀b,ZO H ow ids b->I b):Rd w I (.pt t) x cs:=by
 simp[Km,Vic]at h;rw[ZZ]at h;split at h;.rename_i n m y c;simp[ZD]at h;obtain⟨z,j,⟨rfl,rfl⟩,_⟩:=h;obtain⟨rfl,rfl⟩:=KS j;exact ZqO f d c i e
 simp[Zb]at h
theorem ZsE(n:RH B H w g ow)(k:∀b,g.I b->I b) a b{id} cs(x:V (El a×El b)) ids l s(h:(Km (.lk a b) (.ptr id [])).run H l=Ua ((x,ids),s))(q:CV w g (.ptr id []) cs)(m:∀b,ZO H ow ids b->I b):Rd w I (.lk a b) x cs:=by
 simp[Km,Vic]at h;rw[ZZ]at h;split at h;.rename_i u t y j;simp only[ZD]at h;obtain⟨z,r,⟨rfl,rfl⟩,_⟩:=h;obtain⟨rfl,rfl⟩:=KS r;obtain⟨p,c,e,rfl,d,f,i⟩:=ZqO n k j q m;refine Zox d ?_ i;have:=KH.of_vec (css:=[c.toList]) f (by simp);simpa using this
 simp[Zb]at h
mutual
theorem ZaE(j:RH B H w g ow)(i:∀b,g.I b->I b):∀(t:Ty) (v:AV) (cs:V Y) (x:El t) (ids l e:V Nat),(Km t v).run H l=Ua ((x,ids),e)->CV w g v cs->(∀b,ZO H ow ids b->I b)->Rd w I t x cs
 |t,.d N y,cs,x,ids,l,e,h,c,_=>by
  simp only[Km,ZD,Zr,Vb]at h;obtain⟨z,K,⟨rfl,rfl⟩,_⟩:=h;obtain⟨rfl,rfl⟩:=KS K
  exact Rd.mono (λ_ _=>rfl) i _ _ cs (by simpa only[CV] using c)|t,.nils,cs,x,ids,l,e,h,c,f=>by
  cases t with|sl t=>exact ZsF t cs x ids l e h c|_=>simp[Km,Zb]at h
 |t,.vw id,cs,x,ids,l,e,h,c,f=>by
  cases t with|sl t=>exact ZsJ j i t cs x ids l e h c f|_=>simp[Km,Zb]at h
 |t,.vs id S n,cs,x,ids,l,e,h,c,f=>by
  cases t with|sl t=>exact ZsI j i t cs x ids l e h c f|_=>simp[Km,Zb]at h
 |t,.nw id ver R k,cs,x,ids,l,e,h,c,f=>by
  cases t with|sl t=>exact ZsG j i t cs x ids l e h c f|_=>simp[Km,Zb]at h
 |t,.np _ _ _ _ _ _,_,_,_,_,_,h,_,_=>by simp[Km,Zb]at h|t,.agg vs,cs,x,ids,l,e,h,c,f=>by
  simp only[Km]at h;simp only[CV]at c
  exact ZlD j i t vs cs x ids l e h c f|_,.junk,_,_,_,_,_,h,_,_|_,.tup _,_,_,_,_,_,h,_,_=>by simp[Km,Zb]at h|t,.dp N y,cs,x,ids,l,e,h,c,f=>by
  cases t with|lk a b=>exact ZsD i a b cs x ids l e h c|_=>simp[Km,Zb]at h
 |t,.ptr id [],cs,x,ids,l,e,h,c,f=>by
  cases t with|pt t=>exact ZsH j i t cs x ids l e h c f|lk a b=>exact ZsE j i a b cs x ids l e h c f|_=>simp[Km,Zb]at h
 |t,.ptr id (_::_),cs,x,ids,l,e,h,c,f=>by
  cases t<;>simp[Km,Zb]at h|_,.vp _ _ _,_,_,_,_,_,h,_,_|_,.mp _,_,_,_,_,_,h,_,_|_,.fn _ _,_,_,_,_,_,h,_,_=>by simp[Km,Zb]at h|t,.nilr p,cs,x,ids,l,e,h,c,_=>by
  cases p with
  |true=>
   have c:=Zou c
   cases t with
   |pt t=>
    simp only[Km,Zf,Zr,Vb]at h;obtain⟨⟨rfl,_⟩,_⟩:=h
    exact c|lk a b=>
    simp only[Km,Zf,Zr,Vb]at h;obtain⟨⟨rfl,_⟩,_⟩:=h
    exact c|pn t=>
    simp only[Km,Zf,Zr,Vb]at h;obtain⟨⟨rfl,_⟩,_⟩:=h
    exact c|_=>simp[Km,Zb]at h
  |false=>cases t<;>simp[Km,Zb]at h
 |t,.jk _,_,_,_,_,_,h,_,_=>by simp[Km,Zb]at h
theorem ZlD(j:RH B H w g ow)(i:∀b,g.I b->I b):∀(t:Ty) (v:ZF) (cs:V Y) (x:El t) (ids l e:V Nat),(Yr t v).run H l=Ua ((x,ids),e)->Kk w g v cs->(∀b,ZO H ow ids b->I b)->Rd w I t x cs
 |.unit,.nil,cs,x,ids,l,e,h,c,_=>by simpa[Kk,Rd] using c|.prod a b,.cons v vs,cs,x,ids,l,e,h,c,f=>by
  simp only[Yr,ZY,Zr,Vb]at h;obtain⟨⟨O,L⟩,T,A,⟨Q,M⟩,m2,C,⟨rfl,rfl⟩,_⟩:=h;simp only[Kk]at c;obtain⟨s,u,rfl,D,J⟩:=c;simp only[Rd]
  exact⟨s,u,rfl,ZaE j i a v s O L _ _ A D λb m=>f b (let ⟨id,q,r⟩:=m;⟨id,by simp[q],r⟩),ZlD j i b vs u Q M _ _ C J λb m=>f b (let ⟨id,q,r⟩:=m;⟨id,by simp[q],r⟩)⟩|.unit,.cons _ _,_,_,_,_,_,h,_,_|.prod _ _,.nil,_,_,_,_,_,h,_,_|.int _,_,_,_,_,_,_,h,_,_|.bool,_,_,_,_,_,_,h,_,_|.str,_,_,_,_,_,_,h,_,_|.sl _,_,_,_,_,_,_,h,_,_|.arr _ _,_,_,_,_,_,_,h,_,_|.ref,_,_,_,_,_,_,h,_,_|.pt _,_,_,_,_,_,_,h,_,_|.lk _ _,_,_,_,_,_,_,h,_,_|.pn _,_,_,_,_,_,_,h,_,_=>by simp[Yr,Zb]at h
end
theorem ZuY{t x u}(h:(HM t x).fits t=Uc)(_:u=t):t.agg=true:=by
 cases t<;>simp[HM,ZF.fits]at h<;>rfl
theorem Zh9{t v r l c}(h:(Km t v).run H l=Ua (r,c)):v≠ .junk/\v.isAgg=t.agg:=by
 cases v with
 |d e x=>
  simp[Km,ZD]at h;have⟨z,b,_⟩:=h;obtain⟨rfl,_⟩:=KS b
  exact⟨by simp,rfl⟩|agg vs=>
  simp[Km]at h
  cases t<;>cases vs<;>simp[Yr,Zb]at h<;>exact⟨by simp,rfl⟩|ptr _ p|nilr p=>cases p<;>cases t<;>simp[Km,Zb]at h<;>exact⟨by simp,rfl⟩|_=>cases t<;>simp[Km,Zb]at h<;>exact⟨by simp,rfl⟩
theorem ZoP{i j}(h:∀id∈i,id∈j){b}(e:ZO H ow i b):ZO H ow j b:=
 let ⟨id,c,d⟩:=e;⟨id,h id c,d⟩
theorem RH.freezeIds{ids}(d:RH B H w g ow):RH B (Zu H (ids.map λid=>(id,Ub))) w (g.grow (ZO H ow ids)) ow:=by
 refine(d.drops ids).grow λb i=>?_;have⟨k,h,e,f⟩:=i;have⟨p,q,r⟩:=d.sep k b e f;refine⟨q,.inr r,λid c l=>?_⟩;rw[RY]at c;split at c;.grind
 rename_i j;exact j (d.dist id k b c e l f▸h)
theorem ZdO{B A q w0 g0 e}(k:RH A q w0 g0 e){w g}(c:g0.Le g)(i:∀b,g0.I b->w.heap[b]? =w0.heap[b]?):∀br ds l y,(ZaK br).run q l=Ua (ds,y)->(∀id∈br,∀b,q id≠Ub->e id b->g.I b/\w.heap[b]? =w0.heap[b]?)->
 ∀{H}{ow},RH B H w g ow->∃z,RH B (Zu H ds) w g z
 |[],ds,l,y,h,_,H,ow,d=>by
  obtain⟨rfl,_⟩:=h
  exact⟨ow,d⟩|id::br,ds,l,y,h,C,H,ow,d=>by
  simp[ZaK]at h;rw[ZZ]at h;split at h
  .rename_i t xs s;simp[ZY]at h;obtain⟨p,m,r,rfl,_⟩:=h;have⟨f,j⟩:=k.objs id _ s;have x:Rd w g.I (.sl t) xs [g.slv id]:=by rw[c.slv _ f];exact Rd.mono (I:=λb=>g0.I b\/e id b) (λb n=>by grind) (λb n=>n.elim (c.I b) (by grind)) _ _ _ (ZqP j (by grind) (by grind))
   exact ZdO k c i br p _ _ r (by grind) (d.putDat (c.K _ f) ((c.ty _ f).trans j.1) x)
  .rename_i t xs u s;simp[ZY]at h;obtain⟨p,m,r,rfl,_⟩:=h;have⟨f,j⟩:=k.objs id _ s;have x:Rd w g.I (.sl (.sl t)) xs [g.slv id]:=by rw[c.slv _ f];exact Rd.mono (I:=λb=>g0.I b\/e id b) (λb n=>by grind) (λb n=>n.elim (c.I b) (by grind)) _ _ _ (ZpV j (by grind) (by grind))
   exact ZdO k c i br p _ _ r (by grind) (d.putDat (c.K _ f) ((c.ty _ f).trans j.1) x)
  exact ZdO k c i br ds _ _ h (by grind) d
theorem Zv.dats{B H1 nid v r ids ds l x}(u:RH B H w g ow)(j:(ZaK ids).run H l=Ua (ds,x))(h:Zv B H1 w (g.grow (ZO H ow ids)) nid v r):Zv B (Zu H1 ds) w (g.grow (ZO H ow ids)) nid v r:=by have⟨val,w',m,y,n,p,f,i,q,s⟩:=h;have⟨k,t⟩:=ZdO u ((g.le_grow _).trans f) (λb e=>i b (.inl e)) ids ds _ _ j (λid c b d e=>⟨f.I b (.inr ⟨id,c,d,e⟩),i b (.inr ⟨id,c,d,e⟩)⟩) p;exact⟨val,w',m,k,n,t,f,i,q,s⟩
theorem Znk{a:Act}{e}(s:RH B H w g ow)(hF:Fr w g F a.tmps){J}:∀(d:V (Nat×G)) f ids l k,(Zf8 e (d.map λp=>(p.1,Zz F p.2))).run H l=Ua ((f,ids),k)->
 (∀b,ZO H ow ids b->J b)->Fa (λp q=>q.1=p.1/\VR w (g.grow J) q.2 (a.eval p.2)) d f
 |[],f,ids,l,k,h,_=>by
  obtain⟨⟨rfl,_⟩,_⟩:=h
  trivial|p::d,f,ids,l,k,h,n=>by
  simp only[Vla,Zf8,ZY]at h;obtain⟨⟨x,C⟩,K,c,⟨r,D⟩,L,u,⟨rfl,rfl⟩,_⟩:=h;refine⟨⟨rfl,?_⟩,Znk s hF d r D _ _ u λb i=>n b (ZoP (by grind) i)⟩;have⟨z,y⟩:=Zh9 c;have j:∀m,Zz F p.2≠ .tup m:=by
   intro m A;rw[A]at c;cases e<;>simp[Km,Zb]at c
  have t:=(hF.eval p.2).to1 j;refine .of1 ⟨?_,.inr ?_⟩;.exact ZaE s (λ_ h=>.inl h) e _ _ x C _ _ c t.1 λb i=>.inr (n b <| ZoP (by grind) i)
  rw[t.2.resolve_left z,y];rfl
end
section ops
variable {P:Program}{E:Kh}{B:KR}{H:AH}{w:X}{g:Gh}{ow:Nat->Nat->Prop}{nid:Nat}{a:Act}{F:Nat->AV}{v:AV}{patch:Wm}{rd:V Nat}{o:Oper}
theorem Zr8{T s}(k:Z0 P E)(D:RH B H w g ow)(hF:Fr w g F a.tmps)(M:o.op=.build T s)
 (h:(ZP E nid o.op o.type (Zz F)).run H []=Ua ((v,patch),rd)):Zv B (Zu H patch) w g nid v ((execOp a.eval o).run P w):=by
 rw[M]at h;simp[ZP,ZD]at h;have⟨t,N,h⟩:=h;have r:(s.map λ(i,x)=>(i,a.eval x)).toList=s.toList.map λp=>(p.1,a.eval p.2):=by simp
 have fin:∀{cells},P.built T (s.toList.map λp=>(p.1,a.eval p.2))=Ua cells->patch=[]->CV w g v cells.toList->v.isAgg=Uc->Zv B (Zu H patch) w g nid v ((execOp a.eval o).run P w):=by intro cells q j hv J;subst j;refine Zv.pure D (val:=.agg cells) ?_ (VR.of1 ⟨by assumption,.inr (by rw[J];rfl)⟩);simp[execOp,M,Vc];rw[run_build w T _ cells (by grind)];rfl
 split at h
 .rename_i U W;simp[ZN,Zr,Zb,ZW,false_or,Z7,Vh,Vb]at h;have⟨j,hf,h⟩:=h;have⟨cells,h1,A⟩:=ZsZ k N hF j (E.zx T) hf;have⟨h3,h4⟩:=ZwK A;obtain⟨_,h⟩|⟨_,⟨rfl,rfl⟩,_⟩:=h
  .simp only[ZY,Zr,Vb]at h;obtain⟨⟨y,ids⟩,m,K,⟨rfl,rfl⟩,_⟩:=h;have f:=g.le_grow (ZO H ow ids);have a2:Rd w (g.grow (ZO H ow ids)).I (.prod U W) y cells.toList:=ZaE D (λb q=>f.I b q) _ _ _ _ _ _ _ K h3 λb q=>.inr q;refine Zv.after_le f (λ_ h=>h) (Zv.pure (val:=.agg cells) D.freezeIds ?_ (VR.of1 ⟨by assumption,.inr rfl⟩));simp[execOp,M,Vc];rw[run_build w T _ cells (by grind)];rfl
  grind
 .rename_i n e;simp[ZN,ZD,Zr,Zb,ZW,false_or,Vy,Vh,Vb]at h;obtain⟨⟨j,K⟩,l,R,⟨rfl,rfl⟩,_⟩:=h;have⟨S,hu,C⟩:=ZlC k N;have⟨i,z,hi,_,_,hz,c,_⟩:=(k.ty T _ N).info;have⟨ie,ze,a1,a3,_⟩:=(k.ty S _ C).info;have O:Rd w g.I (.arr n e) (zeroEl (.arr n e)) z.cells.toList:=by unfold D1 at c;rw[show (Ty.arr n e).data=Uc from K]at c;exact ZeR _ _ c
  have⟨_,u,Q,L⟩:=O;have⟨d,h1,A⟩:=ZlV (ZoT hF _) j R L;refine fin (cells:=d.flatten.toArray) ?_ rfl ?_ rfl
  .unfold Program.built;have a4:z.cells=u.flatten.toArray:=by grind
   grind
  exact⟨(Zfo R).1,d,rfl,A⟩
 simp[Zb]at h
end ops
theorem ZeS(z:Array Y):∀n,((Vpa (n*z.size)).map (z[· % z.size]!)).toList=(Vg n z.toList).flatten
 |0=>by simp|n+1=>by
  have b:=ZeS z n;simp[Array.toList_range]at b⊢;rw[Voa,Nat.one_mul,List.range_add,Vlc,b,List.replicate_succ',Vaa,Vqb];congr 1;simp[List.append_nil];apply List.ext_getElem;.simp
  intro i d e;have c:i<z.size:=by omega
  simp only[List.getElem_map,List.getElem_range,Function.comp];rw[Nat.mul_comm,Nat.mul_add_mod,Nat.mod_eq_of_lt c];grind
section ops
variable {P:Program}{E:Kh}{B:KR}{H:AH}{w:X}{g:Gh}{ow:Nat->Nat->Prop}{nid:Nat}{a:Act}{F:Nat->AV}{v:AV}{patch:Wm}{rd:V Nat}{o:Oper}
theorem ZjP(A:RH B H w g ow)(j:¬g.K nid){t T xs css cap cells}(k:Fa (Rd w g.I t) xs css)
 (D:css.flatten<+:cells.toList) (i:xs.length<=cap) (l:cap*t.size<=cells.size) {r}{w1} (e:JG w w1)
 (J:r=.ok (.value (.slice (Ua ⟨w.heap.size,0,Ub⟩) xs.length cap)) (w1.alloc (.cells cells T))):Zv B (ZX H nid (Ua (.vec t xs))) w g nid (.vw nid) r:=by
 have h:=A.same e;have f:w1.heap.size=w.heap.size:=by rw[e.heap]
 have key:Zv B (ZX H nid (Ua (.vec t xs))) w1 g nid (.vw nid) r:=by
  refine Zv.new' (t:=t) (sv:=.slice (Ua ⟨w1.heap.size,0,Ub⟩) xs.length cap) h j (f▸J) ?_ ?_;.refine⟨by simp[Gh.add],.inr ⟨w1.heap.size,cap,cells,T,css,by simp[Gh.add],rfl,by simp[Gh.add],RO _ _,i,l,?_,D⟩⟩;refine k.mono λx c L=>?_;have:=Zlo (x:=.d t x) h j (t:=t) (sv:=.slice (Ua ⟨w1.heap.size,0,Ub⟩) xs.length cap) (b:=Ua w1.heap.size) (ob:=.cells cells T) (by exact Rd.mono (e.agree _) (by simp) t x c L);assumption
  refine KT ?_ rfl rfl;exact⟨.inl rfl,by simp[Gh.add],by simp[Gh.add,Via]⟩
 have⟨val,w',n,m,p,q,s,u,y,z⟩:=key;exact⟨val,w',n,m,p,q,s,λb C=>(u b C).trans (by rw[e.heap]),y,z⟩
theorem ZkW{f e}(k:Z0 P E)(h:E.ty f=Ua e)(l:e.data=Uc):∃c z,P.info? f=Ua c/\c.size=e.size/\c.zero=Ua z/\z.cells.size=e.size/\c.bytes<=4096/\
 ∀n,Fa (Rd w g.I e) (Vg n (zeroEl e)) (Vg n z.cells.toList):=by
 have⟨c,z,m,j,i,p,b,_⟩:=(k.ty f _ h).info;have d:Rd w g.I e (zeroEl e) z.cells.toList:=by unfold D1 at b;rw[l]at b;exact ZeR _ _ b
 refine⟨c,z,m,j,p,?_,i,?_⟩;.have:=Rd.length _ _ _ d;omega
 intro n
 induction n with|zero=>trivial|succ n q=>exact⟨d,q⟩
theorem ZfP(f:RH B H w g ow){ids b}(i:ZO H ow ids b):¬g.I b/\b<w.heap.size/\(B.own0 b\/B.w0.heap.size<=b)/\∀id,Zu H (ids.map λid=>(id,Ub)) id≠Ub->¬ow id b:=by
 have⟨k,h,d,e⟩:=i;have⟨p,q,r⟩:=f.sep k b d e;refine⟨p,q,r,λid c l=>?_⟩;rw[RY]at c;split at c;.grind
 rename_i j;exact j (f.dist id k b c d l e▸h)
theorem Zei{w'}{J:Nat->Prop}{t xs val r}(i:RH B H w g ow)(j:¬g.K nid)(c:∀k,k<w.heap.size->w'.heap[k]? =w.heap[k]?)(n:w.heap.size<=w'.heap.size)(m:w'.os=w.os)(f:w'.tape=w.tape)(l:Y2 w' w)
 (C:r=.ok (.value val) w') (d:Xs w' g.I (λb=>J b\/(w.heap.size<=b/\b<w'.heap.size)) t xs val) (hJ:∀b,J b->¬g.I b/\b<w.heap.size/\(B.own0 b\/B.w0.heap.size<=b)/\∀id,H id≠Ub->¬ow id b):Zv B (ZX H nid (Ua (.rows t xs 0 Ub))) w g nid (.vw nid) r:=by
 have⟨b,D,A⟩:=d.obj nid;have e:val.oneCell' =Uc/\Kb val=false:=by
  have⟨M,_,h⟩:=d;obtain⟨_,rfl⟩|⟨_,_,_,_,_,_,rfl,_⟩:=h<;>exact⟨rfl,rfl⟩
 refine⟨val,w',g.add nid (.sl t) b val D,Xv ow nid λb=>J b\/(w.heap.size<=b/\b<w'.heap.size),.inl C,?_,Gh.le_add j _ _ _ _,λb z=>c b (i.ilt b z),?_,?_⟩
 .refine i.add j c n m f l (λk q=>?_) A;obtain q|⟨L,s⟩:=q
  .grind
  refine⟨λy=>absurd (i.ilt _ y) (by omega),s,.inr (by have:=i.size;omega),λp u x=>?_⟩;have:=(i.sep p _ u x).2.1;omega
 .refine KT ?_ e.1 rfl;exact⟨.inl rfl,by simp[Gh.add],by simp[Gh.add,e.1]⟩
 intro id h;obtain rfl|h:=h;.exact .inr ⟨Vf _,by unfold Wv;omega⟩
 grind
theorem ZlU(q:RH B H w g ow)(hF:Fr w g F a.tmps){t}{d:V (Nat×G)}:∀m n i ids l r,(Zfp t (d.map λp=>(p.1,Zz F p.2)) m n).run H l=Ua ((i,ids),r)->ids.Nodup->
 ∃f,f.length=m/\(∀j,j<m->f[j]? =Ua (match d.lookup (n+j) with|some x=>a.eval x|none=>.slice Ub 0 0))/\RL w g.I (ZO H ow ids) t f i
 |0,n,i,ids,l,r,h,_=>by
  obtain⟨⟨rfl,rfl⟩,_⟩:=h
  exact⟨[],rfl,by omega,RL.nil⟩|m+1,n,i,ids,l,r,h,M=>by
  simp only[Zfp,ZY]at h;obtain⟨⟨y,i1⟩,m1,z,⟨s,Q⟩,m2,J,⟨rfl,rfl⟩,_⟩:=h;have⟨n1,S,n3⟩:=Vha.1 M;have⟨f,U,W,K⟩:=ZlU q hF m (n+1) s Q _ _ J S;rw[ZbP]at z;have O:VR w g (((d.lookup n).map (Zz F)).getD .nils) (match d.lookup n with|some x=>a.eval x|none=>.slice Ub 0 0):=by
   cases d.lookup n with|none=>exact KT (by rfl) rfl rfl|some x=>exact hF.eval x
  have N:=ZgF q O z;refine⟨(match d.lookup n with|some x=>a.eval x|none=>.slice Ub 0 0)::f,by grind,λj hj=>?_,?_⟩
  .grind
  have:=(RL.single N).append K (λc ⟨k,u,e,A⟩ ⟨R,T,C,D⟩=>by have:=q.dist k R c e C A D;grind);exact this.mono (λ_ _=>rfl) (by simp) (λb L=>by
   obtain⟨k,u,e⟩|⟨k,u,e⟩:=L;.exact⟨k,by grind,e⟩
   exact⟨k,by grind,e⟩) (by simp)
theorem Zr9{T n N}(O:Z0 P E)(u:RH B H w g ow)(hF:Fr w g F a.tmps)(M:∀id,g.K id->id<nid\/nid+Wv<=id)(ho:o.op=.buildSlice T n N)
 (h:(ZP E nid o.op o.type (Zz F)).run H []=Ua ((v,patch),rd)):Zv B (Zu H patch) w g nid v ((execOp a.eval o).run P w):=by
 rw[ho]at h;simp only[ZP,ZD]at h;have⟨t,ht,h⟩:=h;split at h
 .rename_i e;rw[ZN]at h;obtain⟨_,h⟩|⟨_,h⟩:=h
  .split at h
   .rename_i e';simp only[ZN,ZY,ZD,Zr,Zb,ZW,false_or,Vy,Vh,Vb]at h;obtain⟨⟨hp,a2⟩,⟨ys,ids⟩,m1,a5,_,b0,⟨rfl,rfl⟩,_⟩:=h;have⟨Et,hu,r⟩:=Ju O ht;have s:=ZkX (O.ty Et _ r) w;have⟨L,S,Q,m⟩:=ZlU u hF n 0 ys ids [] m1 a5 (ZgA.1 (Gu b0));have f:¬n* (Ty.sl e').size>2 ^ 24:=by
     intro R;have:Vvc (2 ^ 24) n=true:=by simpa[Nat.blt_eq,Ty.size] using R
     grind
    have C:=ZgH hp;have U:(Vg n [Vo Ub 0 0]).map Vga=Vg n 1:=by simp
    have⟨h1,h2⟩:=ZfY (place:=λi=>Ua (i* (Ty.sl e').size,(Ty.sl e').size)) (by
     intro i hi;simp[Vv]at hi;simp[List.take_replicate,Vrb (Nat.le_of_lt hi),Ty.size]) (N.toList.map λp=>(p.1,a.eval p.2)) (Vg n [Vo Ub 0 0]) U (by
     intro p b1;obtain⟨q,hq,rfl⟩:=Vpb.1 b1;have M:=C.2 q.1 (by grind);refine⟨1,by grind,?_⟩;have h3:=Q q.1 M;rw[Vn,ZgB C.1 hq]at h3;have⟨x,hx⟩:∃x,ys[q.1]? =Ua x:=⟨_,Vs (by rw[<-m.1,S];exact M)⟩;have A:=(m.row hx).one;have h5:L.getD q.1 undef=a.eval q.2:=by grind
     rw[h5]at A;cases hv:a.eval q.2<;>rw[hv]at A<;>simp[Kb]at A<;>rfl)
    have a6:(Ro (Vg n [Vo Ub 0 0]) (N.toList.map λp=>(p.1,a.eval p.2))).flatten=L:=by
     have:Ro (Vg n [Vo Ub 0 0]) (N.toList.map λp=>(p.1,a.eval p.2))=L.map λv=>[v]:=by
      apply Vfa;intro j;by_cases hj:j<n
      .rw[Zg0 _ _ (by rw[Vqb,Vv];assumption) j (by grind),ZbP,List.getElem?_map,Q j hj,Vn]
       cases hl:N.toList.lookup j with
       |none=>grind|some x=>
        simp[Vj];have⟨y,hy⟩:∃y,ys[j]? =Ua y:=⟨_,Vs (by rw[<-m.1,S];exact hj)⟩;have A:=(m.row hy).one;have h5:L.getD j undef=a.eval x:=by grind
        rw[h5]at A;congr 1;cases hv:a.eval x<;>rw[hv]at A<;>simp[Kb]at A<;>rfl
      rw[Vvb (by rw[Zg1];grind),Vvb (by grind)]
     rw[this];generalize L=l
     induction l with|nil=>rfl|cons x l ih=>grind
    have d:(N.map λ(i,x)=>(i,a.eval x)).toList=N.toList.map λp=>(p.1,a.eval p.2):=by simp
    have h0:=ZeS #[Vo Ub 0 0] n;have a4:(execOp a.eval o).run P w=.ok (.value (.slice (Ua ⟨w.heap.size,0,Ub⟩) n n)) (w.alloc (.cells L.toArray Et)):=by
     rw[a6]at h1;by_cases W:n* (Ty.sl e').size=0
     .have c:(Vpa (n* (Ty.sl e').size)).map ((#[]:Array Y)[· % (#[]:Array Y).size]!)=(Vg n [Vo Ub 0 0]).flatten.toArray:=by
       rw[W];have:n=0:=by simpa[Ty.size] using W
       grind
      simp only[execOp,ho,Vya,underlying,Vc,run_program,Va,hu,Vd,(O.ty _ _ r).run_sizeOf,Zg f,Zn W,c,d,h1,newRow,run_newObj];rfl
     have c:(Vpa (n* (Ty.sl e').size)).map ((#[Vo Ub 0 0]:Array Y)[· % (#[Vo Ub 0 0]:Array Y).size]!)=(Vg n [Vo Ub 0 0]).flatten.toArray:=by apply Vnb.1;assumption
     simp only[execOp,ho,Vya,underlying,Vc,run_program,Va,hu,Vd,(O.ty _ _ r).run_sizeOf,Zg f,Zg W,s,Vwa,c,d,h1,newRow,run_newObj];rfl
    have b6:ys.length=n:=by rw[<-m.1,S]
    rw[XB];refine Zei (u.drops ids) (Ho M) (λk M=>RP M) (by simp) rfl rfl ⟨rfl,Vf _⟩ a4 ?_ λb R=>ZfP u R;refine⟨L,m.mono (λb R=>RP (u.ilt b R)) (by simp) (by grind) λi x b hx hr=>?_,.inr ⟨w.heap.size,n,L.toArray,Et,by simp,λi x hx hr=>?_,by grind,RO _ _,by grind,by grind,λi hi=>?_⟩⟩;.have⟨k,_,h3,A⟩:=(m.row hx).own hr;exact RP (u.sep k b h3 A).2.1
    .have⟨k,_,h3,A⟩:=(m.row hx).own hr;have:=(u.sep k _ h3 A).2.1;omega
    grind
   simp[Zb]at h
  simp only[ZN,ZY,ZD,Zr,Zb,ZW,false_or,Vy,Vh,Vb]at h;obtain⟨⟨⟨hp,L⟩,a2⟩,⟨qs,ids⟩,m1,b2,l,hl,ds,m2,a7,⟨rfl,rfl⟩,_⟩:=h;have⟨Et,hu,r⟩:=Ju O ht;have b4:=u;have a3:=Znk (J:=ZO H ow ids) u hF _ _ _ _ _ b2 (by simp);have a9:=g.le_grow (ZO H ow ids);rw[XB,XB];refine Zv.after_le a9 (λ_ h=>h) (Zv.dats u a7 ?_);have u:=u.freezeIds (ids:=ids);have M:∀id,(g.grow (ZO H ow ids)).K id->id<nid\/nid+Wv<=id:=M;generalize g.grow (ZO H ow ids)=g at u M a3⊢;have⟨ie,z,a8,b5,hz,b3,_,a0⟩:=ZkW (w:=w) (g:=g) O r L;have⟨a1,h1,h2⟩:=ZlV (g:=g) a3 hp hl (a0 n);have D:=(Zfo hl).1;have f:¬n*e.size>2 ^ 24:=by
   intro R;have:Vvc (2 ^ 24) (n*e.size)=true:=by simpa[Nat.blt_eq] using R
   grind
  refine ZjP u (Ho M) (cells:=a1.flatten.toArray) (T:=Et) (cap:=n) h2 (by simp) (by omega) ?_ (.refl w) ?_;.have:=Hm (Rd.all_length h2);rw[Vbc,this,<-h2.length,D];omega
  have h0:=ZeS z.cells n;rw[b3]at h0;have d:(N.map λ(i,x)=>(i,a.eval x)).toList=N.toList.map λp=>(p.1,a.eval p.2):=by simp
  have s:(zeroValue Et).run P w=.ok z w:=by simp[zeroValue,typeInfo,a8,hz]
  by_cases W:n*e.size=0
  .have c:(Vpa (n*e.size)).map ((#[]:Array Y)[· % (#[]:Array Y).size]!)=(Vg n z.cells.toList).flatten.toArray:=by grind
   simp only[execOp,ho,Vya,underlying,Vc,run_program,Va,hu,Vd,(O.ty _ _ r).run_sizeOf,Zg f,Zn W,c,d,h1,newRow,run_newObj,D];rfl
  have c:(Vpa (n*e.size)).map (z.cells[· % z.cells.size]!)=(Vg n z.cells.toList).flatten.toArray:=by grind
  simp only[execOp,ho,Vya,underlying,Vc,run_program,Va,hu,Vd,(O.ty _ _ r).run_sizeOf,Zg f,Zg W,s,c,d,h1,newRow,run_newObj,D];rfl
 simp[Zb]at h
theorem Zp2{T i e k1 k2 n m h z}(s:Z0 P E)(t:P.underlying T=Ua (.slice i))(j:E.ty i=Ua e)(d:P.info? i=Ua h)(C:h.zero=Ua z)(J:z.cells.size=e.size)
 (y:h.bytes<=256) (K:0<=n) (A:n<=m) (r:m<=549755813888):
 (Vsb T (.int k1 n) (.int k2 m)).run P w=.ok (.slice (Ua ⟨w.heap.size,0,Ub⟩) n.toNat m.toNat) (w.alloc (.cells (Vg m.toNat z.cells.toList).flatten.toArray i)):=by
 have u:∀x,Vtb.wrap x=(x+9223372036854775808) % 18446744073709551616 - 9223372036854775808:=λx=>by simp[IntKind.wrap,IntKind.bits,IntKind.signed];omega
 have l:Vtb.wrap n=n:=by grind
 have k:Vtb.wrap m=m:=by grind
 have p:¬(281474976710656<h.bytes*m):=by have L:h.bytes*m<=256*549755813888:=Int.mul_le_mul (by omega) r (by omega) (by omega);omega
 have D:=ZeS z.cells m.toNat;have f:(zeroValue i).run P w=.ok z w:=by simp[zeroValue,typeInfo,d,C]
 have c:(Ue (m<0) ||decide (h.bytes*m>2 ^ 48) ||decide (n<0) ||decide (n>m))=false:=by grind
 by_cases q:m.toNat*e.size=0
 .have b:(Vpa (m.toNat*e.size)).map ((#[])[· % (#[]:Array Y).size]!)=(Vg m.toNat z.cells.toList).flatten.toArray:=by grind
  simp only[Vsb,Vc,run_underlying t,asInt,asIntOf,typeInfo,run_program,d,l,k,Vd,Va,c,Vra,if_false,(s.ty _ _ j).run_sizeOf,run_askRoom,q,if_true];rw[q]at b;simp only[Vc,Vd,Va,b,newRow,run_newObj];rfl
 have b:(Vpa (m.toNat*e.size)).map (z.cells[· % z.cells.size]!)=(Vg m.toNat z.cells.toList).flatten.toArray:=by grind
 simp only[Vsb,Vc,run_underlying t,asInt,asIntOf,typeInfo,run_program,d,l,k,Vd,Va,c,Vra,if_false,(s.ty _ _ j).run_sizeOf,run_askRoom,Zg q,f,b,newRow,run_newObj];rfl
theorem Zsl{T lo co}(p:Z0 P E)(hR:RH B H w g ow)(hF:Fr w g F a.tmps)(R:∀id,g.K id->id<nid\/nid+Wv<=id)(ho:o.op=.makeSlice T lo co)
 (h:(ZP E nid o.op o.type (Zz F)).run H []=Ua ((v,patch),rd)):Zv B (Zu H patch) w g nid v ((execOp a.eval o).run P w):=by
 rw[ho]at h;simp only[ZP,ZD]at h;have⟨t,S,h⟩:=h;have s:=hF.eval lo;have r:=hF.eval co;split at h
 .rename_i e k1 n k2 m hl hc
  revert n m
  intro (n:Int) (m:Int) hl hc h;rw[ZN]at h;obtain⟨_,h⟩|⟨_,h⟩:=h
  .split at h
   .rename_i e';simp only[ZD,Zr,Vb]at h;obtain⟨u,M,⟨rfl,rfl⟩,_⟩:=h;have a2:0<=n/\n<=m/\m<=(Zt:Int):=Xw (Gu M);have⟨h0,D,a3⟩:=a2;have⟨C,O,c⟩:=Ju p S;have⟨ie,z,d,a4,a0,W,a8,a7⟩:=(p.ty C _ c).info;have a5:z=.slice Ub 0 0:=by
     have h1:=ZkX (p.ty C _ c) w;have h2:(zeroValue C).run P w=.ok z w:=by simp[zeroValue,typeInfo,d,W]
     grind
    subst a5;rw[hl]at s;rw[hc]at r;have f:m<=549755813888:=by assumption
    have l:=Zp2 (w:=w) (k1:=k1) (k2:=k2) p O c d W rfl ((p.ty _ _ S).small _ _ O d) h0 D f;have a1:(execOp a.eval o).run P w=.ok (.value (.slice (Ua ⟨w.heap.size,0,Ub⟩) n.toNat m.toNat)) (w.alloc (.cells (Vg m.toNat [Vo Ub 0 0]).flatten.toArray C)):=by simp only[execOp,ho,VR.int s,VR.int r,Vc,l,Va,Vd];rfl
    have a9:∀q,(Vg q [Vo Ub 0 0]).flatten=Vg q (Vo Ub 0 0):=by simp
    have A:∀i x,(Vg n.toNat ([]:V (El e')))[i]? =Ua x->x=[]/\(Vg n.toNat (Vo Ub 0 0)).getD i undef=.slice Ub 0 0:=by grind
    refine Zei (J:=λ_=>False) hR (Ho R) (λk R=>RP R) (by simp) rfl rfl ⟨rfl,Vf _⟩ a1 ?_ (by simp);refine⟨Vg n.toNat (.slice Ub 0 0),⟨by simp,⟨λi x U _=>?_,λi j x y b U hy _ _ _ Q=>?_,by simp⟩⟩,.inr ⟨w.heap.size,m.toNat,_,C,by simp,λi x U Q=>?_,by simp,RO _ _,by grind,by simp,λi hi=>?_⟩⟩;.obtain⟨rfl,h2⟩:=A i x U;exact .inl ⟨rfl,h2⟩
    .simp[WQ]at Q;grind
    .rw[(A i x U).2]at Q;simp[WQ]at Q
    grind
   simp[Zb]at h
  simp only[ZN,ZD,Zr,Zb,ZW,false_or,Vh,Vb]at h;obtain⟨hd,u,M,⟨rfl,rfl⟩,_⟩:=h;have M:0<=n/\n<=m/\m<=Zt:=by unfold Zw at M;grind
  have⟨h0,D,a3⟩:=M;have⟨C,O,c⟩:=Ju p S;have⟨ie,z,d,a4,W,a6,a0,L⟩:=ZkW (w:=w) (g:=g) p c hd;rw[hl]at s;rw[hc]at r;have f:m<=549755813888:=by assumption
  have l:=Zp2 (w:=w) (k1:=k1) (k2:=k2) p O c d W a6 ((p.ty _ _ S).small _ _ O d) h0 D f;have N:(Vg n.toNat (zeroEl e)).length=n.toNat:=Vv;refine ZjP hR (Ho R) (w1:=w) (cells:=(Vg m.toNat z.cells.toList).flatten.toArray) (T:=C) (cap:=m.toNat) (L _) ?_ (by omega) ?_ (.refl w) ?_
  .have:m.toNat=n.toNat+(m.toNat - n.toNat):=by omega
   refine⟨(Vg (m.toNat - n.toNat) z.cells.toList).flatten,?_⟩;rw[<-Vaa,List.replicate_append_replicate,<-this]
  .simp_all
  rw[N];simp[execOp,ho,VR.int s,VR.int r,Vc,l,Va,Vd]
 simp[Zb]at h
end ops
section ops
variable {P:Program}{E:Kh}{B:KR}{H:AH}{w:X}{g:Gh}{ow:Nat->Nat->Prop}{nid:Nat}{a:Act}{F:Nat->AV}{v:AV}{patch:Wm}{rd:V Nat}{o:Oper}
def Zds(w:X)(g:Gh) t(y:V (El t))(v:Y):Prop:=
 ∃e c d,v=.slice e y.length c/\Fa (Rd w g.I t) y d/\(y≠ []->∃b off,e=Ua ⟨b,off,Ub⟩/\KH w b off d.flatten)
theorem Zfh{t x val y ids l l'}(T:RH B H w g ow)(L:VR w g x val)(h:(RQ t x).run H l=Ua ((y,ids),l')):Zds w g t y val:=by
 have a2:(∃N xs u q id,x=.vw id/\H id=Ua (.rows N xs u q))->False:=by rintro ⟨N,xs,u,q,id,rfl,A⟩;simp[RQ]at h;rw[ZZ,A]at h;simp[Zb]at h
 have h:∃l,(Km (.sl t) x).run H l=Ua ((y,ids),l'):=by
  cases x with
  |vw id=>
   simp[RQ]at h;rw[ZZ]at h
   grind|_=>exact⟨_,h⟩
 have⟨l,h⟩:=h
 cases x with
 |d N z=>
  simp[Km,ZD,Zr,Vb]at h;obtain⟨U,j,⟨rfl,rfl⟩,_⟩:=h;obtain⟨rfl,rfl⟩:=KS j;have⟨xb,c,f,s,p,h3,_⟩:=L.sl
  exact⟨xb,c,f,s,p,by grind⟩|nils=>
  obtain⟨⟨rfl,rfl⟩,_⟩:=h
  exact⟨Ub,0,[],L.nils,trivial,by simp⟩|vw id=>
  simp[Km]at h;rw[ZZ]at h;split at h
  .rename_i N xs A;simp[ZD,Zr,Vb]at h;obtain⟨U,j,⟨rfl,rfl⟩,_⟩:=h;obtain⟨C,rfl⟩:=KS j;cases C;have⟨_,K⟩:=L.vw;have⟨_,_,W⟩:=T.objs id _ A;obtain⟨rfl,_,J⟩|⟨b,cap,cs,e,f,_,_,J,R,_,_,i,Q⟩:=W
   .exact⟨Ub,0,[],K.trans J,trivial,by simp⟩
   exact⟨Ua ⟨b,0,Ub⟩,cap,f,K.trans J,i,λ_=>⟨b,0,rfl,KH.of_vec R Q⟩⟩
  .grind
  .rename_i N xs A;simp[ZD,Zr,Vb]at h;obtain⟨U,j,⟨rfl,rfl⟩,_⟩:=h;obtain⟨C,rfl⟩:=KS j;cases C;have⟨xb,c,f,s,p,h3,_⟩:=(Zho T A L).sl;exact⟨xb,c,f,s,p,by grind⟩
  simp[Zb]at h|nw id ver kt k=>
  simp[Km,ZY,ZD,Zr,Vb]at h;obtain⟨r,m,O,U,j,⟨rfl,rfl⟩,_⟩:=h;obtain⟨C,rfl⟩:=Zcv j;have⟨t0,row⟩:=r;subst C;have⟨_,_,_,_,S⟩:=Zce T L O;obtain⟨s,p⟩|⟨b,cap,cs,e,f,p,_,R,_,_,i,Q⟩:=S;.simp at s;subst s;exact⟨Ub,0,[],p,trivial,by simp⟩
  exact⟨Ua ⟨b,0,Ub⟩,cap,f,p,i,λ_=>⟨b,0,rfl,KH.of_vec R Q⟩⟩|vs id M n=>
  simp[Km]at h;rw[ZZ]at h;split at h
  .rename_i N xs A;simp[ZD,Zr,Vb]at h;obtain⟨U,j,⟨rfl,rfl⟩,_⟩:=h;obtain⟨C,rfl⟩:=KS j;cases C;have⟨_,K⟩:=L.vs;have⟨_,a3,W⟩:=T.objs id _ A;obtain⟨J,rfl,rfl,K⟩|⟨b,len,cap,m,J,s,p,h3,K⟩:=K
   .refine⟨Ub,0,[],by grind,by simp;trivial,by simp⟩
   obtain⟨_,_,D⟩|⟨b',a1,cs,e,f,_,_,D,R,_,_,i,Q⟩:=W;.grind
   rw[J]at D;obtain⟨rfl,rfl,rfl⟩:=D;refine⟨Ua ⟨b,if m=0 then 0 else M*t.size,Ub⟩,m,(f.drop M).take n,?_,(i.drop M).take n,λa0=>⟨b,M*t.size,?_,?_⟩⟩;.grind
   .have:0<((xs.drop M).take n).length:=Vyb.2 a0;grind
   have:=KH.part (l:=M) (n:=n) (Rd.all_length i) (by rw[<-i.length];omega) (KH.of_vec R Q);grind
  simp[Zb]at h|agg l0=>cases l0<;>simp[Km,Yr,Zb]at h|_=>simp[Km,Zb]at h
theorem Zi7{b off n cap sz}{css:V (V Y)}(h:∀c∈css,c.length=sz)(f:css.length=n)(hL:KH w b off css.flatten){w'}(i:JG w w'):
 (Vm sz n (.slice (Ua ⟨b,off,Ub⟩) n cap)).run P w' =.ok css.flatten.toArray w' :=by
 refine run_firstCells_some w' sz n _ n cap _ (by rw[Hm h,f]) ?_;intro j u e;obtain⟨d,rfl⟩:=Vna.1 e;have:=hL j d;rw[D8,<-this];simp[Vhc,i.heap]
theorem Zkj{s t ty j E1 e z argTypes}(u:argTypes[0]? =Ua s)(x:argTypes[1]? =Ua t)(y:P.underlying s=Ua (.slice j))(i:P.underlying t=Ua (.slice E1))
 (h:P.info? j=Ua e) (D:e.zero=Ua z) (k:e.bytes<=256) {base r}{n cap m c}{d news:V Y}
 (l:∀w',JG w w' ->(Vm e.size n (.slice base n cap)).run P w' =.ok d.toArray w') (f:∀w',JG w w' ->(Vm e.size m (.slice r m c)).run P w' =.ok news.toArray w') (p:n+m<=549755813888):
 (n+m<=cap/\(Vw argTypes ty #[.slice base n cap,.slice r m c]).run P w=(do (match base with|some a=>storeCells (a.add (n*e.size)) news|none=>pure ());pure (.slice base (n+m) cap):Sem Y).run P w)\/
 (∃b w1,n+m<=b/\JG w w1/\(Vw argTypes ty #[.slice base n cap,.slice r m c]).run P w=.ok (.slice (Ua ⟨w.heap.size,0,Ub⟩) (n+m) b) (w1.alloc (.cells (d.toArray++news.toArray++Vx z.cells (b - (n+m))) j))):=by
 by_cases q:n+m<=cap;.refine .inl ⟨q,?_⟩;simp[Vw,u,x,run_underlying y,run_underlying i,Go.sizeOf,typeInfo,h,Vwc,q,f w (.refl w)];cases base<;>simp
 refine .inr ⟨grownCap w (n+m) cap j,w.drew,grownCap_ge ..,⟨rfl,rfl,rfl,⟨rfl,by simp⟩⟩,?_⟩;have C:¬(9223372036854775807<(n+m)):=by omega
 have A:¬(281474976710656<Builtin.nextslicecap (n+m) cap*e.bytes):=by have:=growslice_fits (old:=cap) (by omega) (Nat.le_trans (Nat.mul_le_mul p k) (by decide));omega
 simp[Vw,u,x,run_underlying y,run_underlying i,Go.sizeOf,typeInfo,zeroValue,h,D,Vwc,q,Question.forced,f w.drew ⟨rfl,rfl,rfl,⟨rfl,by simp⟩⟩,l w.drew ⟨rfl,rfl,rfl,⟨rfl,by simp⟩⟩,newRow,grownCap];grind
theorem ZlA{t T S z T0 T1 Et E1 ty argTypes sv xv xs l r}(hR:RH B H w g ow)(y:¬g.K nid)
 (h0:argTypes[0]? =Ua T0) (h1:argTypes[1]? =Ua T1) (hu:P.underlying T0=Ua (.slice Et)) (b2:P.underlying T1=Ua (.slice E1))
 (a9:P.info? Et=Ua S) (hz:S.zero=Ua z) (b5:z.cells.size=t.size) (R:S.size=t.size) (a5:S.bytes<=256) (b1:xs.length+l.length<=549755813888) (hX:Zds w g t l xv)
 (hr:∀val w',(Vw argTypes ty #[sv,xv]).run P w=.ok val w' ->r=.ok (.value val) w')
 (hS:(T=H/\xs=[]/\sv=.slice Ub 0 0)\/∃id,T=ZX H id Ub/\H id≠Ub/\((xs=[]/\sv=.slice Ub 0 0)\/∃b cap cs e css,ow id b/\sv=.slice (Ua ⟨b,0,Ub⟩) xs.length cap/\w.heap[b]? =Ua (.cells cs e (0,0))/\
   xs.length<=cap/\cap*t.size<=cs.size/\Fa (Rd w g.I t) xs css/\css.flatten<+:cs.toList)):Zv B (ZX T nid (Ua (.vec t (xs++l)))) w g nid (.vw nid) r:=by
 obtain⟨xb,c,d,rfl,j,b0⟩:=hX;have s:(xs++l).length=xs.length+l.length:=Vl;have D:RH B T w g ow:=by
  obtain⟨rfl,_⟩|⟨id,rfl,_⟩:=hS;.omega
  exact hR.drop id
 have a7:∀w',JG w w' ->(Vm S.size l.length (.slice xb l.length c)).run P w' =.ok d.flatten.toArray w' :=by
  intro w' hw;rw[R];by_cases hy:l=[]
  .subst hy;have:d=[]:=by have:=j.length;grind
   subst this
   cases xb with|none=>rfl|some ad=>exact run_firstCells_some (P:=P) w' _ _ ad _ _ [] (by simp) (by simp)
  obtain⟨b,off,rfl,hL⟩:=b0 hy;exact Zi7 (Rd.all_length j) j.length.symm hL hw
 have hO:∃base cap f,sv=.slice base xs.length cap/\Fa (Rd w g.I t) xs f/\(∀w',JG w w' ->(Vm S.size xs.length (.slice base xs.length cap)).run P w' =.ok f.flatten.toArray w')/\
  ((base=Ub/\cap=0/\xs=[])\/∃id b cs e,T=ZX H id Ub/\H id≠Ub/\ow id b/\base=Ua ⟨b,0,Ub⟩/\w.heap[b]? =Ua (.cells cs e (0,0))/\cap*t.size<=cs.size/\f.flatten<+:cs.toList):=by
  obtain⟨_,rfl,rfl⟩|⟨id,b6,N,⟨rfl,rfl⟩|⟨b,cap,cs,e,css,ho,rfl,hh,_,W,L,hc⟩⟩:=hS;.exact⟨Ub,0,[],rfl,trivial,λw' _=>by rfl,by simp⟩
  .exact⟨Ub,0,[],rfl,trivial,λw' _=>by rfl,by simp⟩
  refine⟨_,cap,css,rfl,L,λw' hw=>?_,by grind⟩;rw[R];exact Zi7 (Rd.all_length L) L.length.symm (KH.of_vec hh hc) hw
 obtain⟨base,cap,f,rfl,n,a8,J⟩:=hO;have q:=Hm (Rd.all_length n);have C:=Hm (Rd.all_length j);rw[<-n.length]at q;rw[<-j.length]at C;obtain⟨Q,p⟩|⟨m,w1,b7,b3,p⟩:=Zkj h0 h1 hu b2 a9 hz a5 a8 a7 b1
 ·
  obtain⟨rfl,rfl,rfl⟩|⟨id,b,cs,e,rfl,N,ho,rfl,hh,W,hc⟩:=J
  .have hy:l=[]:=by grind
   subst hy;have A:=hr _ _ (p.trans (by rfl));refine⟨_,w,g.add nid t Ub (.slice Ub 0 0),Xv ow nid λ_=>False,.inl A,?_,Gh.le_add y _ _ _,λ_ _=>rfl,?_,?_⟩;.exact D.add y (by simp) (Vf _) rfl rfl ⟨rfl,Vf _⟩ (by simp) ⟨by simp[Gh.add],.inl ⟨rfl,by simp[Gh.add],by simp[Gh.add]⟩⟩
   .refine KT ?_ rfl rfl;exact⟨.inl rfl,by simp[Gh.add],by simp[Gh.add,Via]⟩
   intro id h;obtain rfl|h:=h;.exact .inr ⟨Vf _,by unfold Wv;omega⟩
   grind
  have⟨rest,O⟩:=hc;have a0:(xs.length+l.length) *t.size<=cap*t.size:=Nat.mul_le_mul_right _ Q;rw[Voa]at a0;have hs:=hR.sep id b N ho;have a2:∀u∈d.flatten,u.oneCell' =true:=by
   intro u hu;have⟨c1,a6,hu⟩:=List.mem_flatten.1 hu;obtain⟨i,hi,rfl⟩:=Vdb a6;have b8:i<l.length:=by rw[j.length];omega
   have⟨c',h2,h3⟩:=j.get i l[i] (by simp);rw[Vs hi]at h2;cases h2;exact Rd.oneCell t _ _ h3 u hu
  have a3:=run_storeCells_at P b (xs.length*t.size) e d.flatten 0 cs w hh (by omega) a2;have a1:(cs.toList.take (xs.length*t.size+0)++d.flatten++cs.toList.drop (xs.length*t.size+0+d.flatten.length))=(f++d).flatten++rest.drop d.flatten.length:=by rw[Vab,<-q,<-O,List.take_left,Vaa,List.drop_append,Vva (by omega)];simp
  rw[a1]at a3;have A:=hr (.slice (Ua ⟨b,0,Ub⟩) (xs.length+l.length) cap) (w.setRow b ((f++d).flatten++rest.drop d.flatten.length).toArray) (p.trans (by simp[Vc,D8,R,Vn,a3,Va,Vd]));have M:∀k,ZX H id Ub k≠Ub->¬ow k b:=by intro k hk hb;have⟨h3,h4⟩:=YZ hk;exact h3 (hR.dist k id b h4 N hb ho)
  have a4:=D.free (w' :=w.setRow b ((f++d).flatten++rest.drop d.flatten.length).toArray) M hs.1 hs.2.2 (λk hk=>setRow_other w b k _ hk) (size_setRow w b _) rfl rfl ⟨rfl,Vf _⟩;have U:Kt g.I w (w.setRow b ((f++d).flatten++rest.drop d.flatten.length).toArray):=λk hk=>setRow_other w b k _ (by grind);refine⟨_,_,g.add nid t (Ua b) (.slice (Ua ⟨b,0,Ub⟩) (xs++l).length cap),Xv ow nid λk=>k=b,.inl A,?_,Gh.le_add y _ _ _,U,?_,?_⟩
  .refine a4.add y (by simp) (Vf _) rfl rfl ⟨rfl,Vf _⟩ (λk hk=>?_) ?_
   .simp_all
   refine⟨by simp[Gh.add],.inr ⟨b,cap,_,e,f++d,by simp[Gh.add],rfl,by simp[Gh.add],Za8 hh,by omega,?_,?_,by simp⟩⟩;.grind
   exact(n.append j).mono λx c hx=>Rd.mono U (λ_ h=>h) t x c hx
  .refine KT ?_ rfl rfl;exact⟨.inl rfl,by simp[Gh.add,s],by simp[Gh.add,Via]⟩
  intro id h;obtain rfl|h:=h;.exact .inr ⟨Vf _,by unfold Wv;omega⟩
  grind
 have A:=hr _ _ p;refine ZjP D y (n.append j) ?_ (by rw[s];omega) ?_ b3 (by rw[s];omega);.simp
 have b4:(Vx z.cells (m - (xs.length+l.length))).size=(m - (xs.length+l.length)) *t.size:=by simp[Vx,b5]
 simp[Array.size_append,Vbc,q,C,b4];have:m*t.size=xs.length*t.size+l.length*t.size+(m - (xs.length+l.length)) *t.size:=by rw[<-Voa,<-Voa];grind
 omega
theorem Zqj{id ver tmp kt k val r o' l l' l2 b6}(T:RH B H w g ow)(hv:VR w g (.nw id ver kt k) val)(f:(YK id ver kt k).run H l=Ua (r,l'))(d:(Ze9 id nid kt k).run H l2=Ua (o',b6))
 (a5:¬g.K tmp):∃g2 a6,RH B (ZX (ZX H id (Ua o')) tmp (Ua (.vec r.1 r.2))) w g2 a6/\g.Le g2/\g2.I=g.I/\(∀i,g2.K i->g.K i\/i=tmp)/\(∀b,a6 tmp b↔WQ val=Ua b)/\id≠tmp/\g2.slv tmp=val:=by
 have⟨hK,_,_,_⟩:=hv.nw;have⟨C,Q,b7,J,R⟩:=Zce T hv f;have a3:id≠tmp:=by grind
 have S:∀b,ow id b->¬g.I b/\b<w.heap.size/\(B.own0 b\/B.w0.heap.size<=b):=λb z=>T.sep id b C z;have hO:g.ver id<nid/\ORel w (g.bump id nid (g.row id)) (λb=>ow id b/\WQ val≠Ua b) id o' :=by
  have s:(g.bump id nid (g.row id)).row id=g.row id:=by simp[Gh.bump]
  simp[YK]at f;rw[ZZ]at f;simp[Ze9]at d;rw[ZZ]at d;split at f
  .rename_i t xs u hH;rw[hH]at d;simp[ZN,ZD,Zr,Zb,ZW,Z7]at f d;obtain⟨hu,i',b0,x,M,rfl,_⟩:=f;obtain⟨b4,i2,b1,rfl,_⟩:=d;obtain⟨rfl,rfl⟩:=KS b0;have:=Zft b1;subst this;have⟨_,Q,a0,n,hO⟩:=T.objs id _ hH;refine⟨by simp_all,Q,by simp[Gh.bump],?_,?_⟩
   .unfold idx at M;split at M
    .rename_i h0;have e1:((i2.toNat:Nat))=i2:=Int.toNat_of_nonneg h0;rw[s];refine n.take i2.toNat λj x' a1 hj hr=>hr.mono (λ_ _=>rfl) (by simp) (λb z h=>⟨h,λO=>?_⟩) (by simp);exact n.ds j i2.toNat x' x b a1 M hj (by simp) (by simp) z (by grind)
    grind
   obtain h|⟨b,cap,cs,e,A,y,h3,h4,h5,h6,h7⟩:=hO;.exact .inl h
   refine .inr ⟨b,cap,cs,e,A,⟨y,λz=>?_⟩,h3,h4,h5,h6,by grind⟩;unfold idx at M;split at M;.rename_i h0;exact n.tp i2.toNat x b M (by simp) (by grind) A
   grind
  .rename_i b9 t m u hH;rw[hH]at d;simp[ZN,ZD,Zb,ZW,Z7,Ve]at f d;obtain⟨⟨hu,b8⟩,k',b2,rfl,_⟩:=f;obtain⟨b4,k2,b3,rfl,_⟩:=d;obtain⟨rfl,rfl⟩:=KS b2;have:=Zft b3;subst this;have⟨_,Q,a0,n,b5,a2,b,es,clock,A,y,h3,h4⟩:=T.objs id _ hH;have a4:∀b',WQ val=Ua b' ->∃x,(k2,x)∈m:=λb' N=>by
    by_cases h:k2∈m.map Vja;.grind
    rw[J,a2 k2 h]at N;simp[WQ]at N
   refine⟨by simp_all,Q,by simp[Gh.bump],?_,b5,by grind,b,es,clock,A,⟨y,λz=>?_⟩,h3,by rw[s];assumption⟩;.rw[s];refine n.take k2 λj x' a1 hj hr=>hr.mono (λ_ _=>rfl) (by simp) (λb' N h=>⟨h,λO=>?_⟩) (by simp);have⟨x,M⟩:=a4 b' O;rw[J]at O;exact n.ds j k2 x' x b' a1 M hj (by simp) (by simp) N O
   have⟨x,M⟩:=a4 b z;rw[J]at z;exact n.tp k2 x b M (by simp) z A
  simp[Zb]at f
 have a8:=T.bump hK hO.1 (by simp) (Vf _) rfl rfl ⟨rfl,Vf _⟩ (by simp) (λb z=>by have⟨p,q,r⟩:=S b z.1;exact⟨p,q,r,λk hk A y=>hk (T.dist k id b A C y z.1)⟩) hO.2;have D:¬(g.bump id nid (g.row id)).K tmp:=a5;have U:∀b,WQ val=Ua b->ow id b/\ ¬g.I b/\b<w.heap.size/\(B.own0 b\/B.w0.heap.size<=b)/\∀k,ZX H id (Ua o') k≠Ub->¬Xv ow id (λb=>ow id b/\WQ val≠Ua b) k b:=λb z=>by
  have W:=R.own z;have⟨p,q,r⟩:=S b W;refine⟨W,p,q,r,λk A y=>?_⟩;by_cases hk:k=id;.subst hk;rw[Xd]at y;grind
  rw[KB hk]at A;rw[Je hk]at y;exact hk (T.dist k id b A C y W)
 have L:∃b,ORel w ((g.bump id nid (g.row id)).add tmp r.1 b val) (λb=>WQ val=Ua b) tmp (.vec r.1 r.2):=by
  obtain⟨A,y⟩|⟨b,cap,cs,e,a7,y,_,hh,h5,h6,a9,hc⟩:=R;.exact⟨Ub,by simp[Gh.add],.inl ⟨A,by simp[Gh.add],by simp[Gh.add,y]⟩⟩
  exact⟨Ua b,by simp[Gh.add],.inr ⟨b,cap,cs,e,a7,by simp[Gh.add],by rw[y];rfl,by simp[Gh.add,y],hh,h5,h6,a9,hc⟩⟩
 have⟨b,L⟩:=L;refine⟨_,_,a8.add D (by simp) (Vf _) rfl rfl ⟨rfl,Vf _⟩ (λc hc=>(U c hc).2) L,(Gh.le_bump hO.1).trans (Gh.le_add D _ _ _),rfl,λi hi=>?_,λc=>?_,a3,by simp[Gh.add]⟩
 .obtain h|h:=hi
  .omega
  exact .inl h
 rw[Xd]
theorem Zm9{b cap n}{c:V Y}{cs e}(h:w.heap[b]? =Ua (.cells cs e (0,0)))(l:c.length=n)(f:∀i,i<n->cs[i]? =Ua (c.getD i undef)){w'}(d:JG w w'):
 (Vm 1 n (.slice (Ua ⟨b,0,Ub⟩) n cap)).run P w' =.ok c.toArray w' :=by
 refine run_firstCells_some w' 1 n _ n cap _ (by omega) ?_;intro j u k;rw[D8];simp[Vhc,d.heap];grind
theorem ZsB{t ie z T0 T1 Et E1 ty argTypes sv xv xs l f h r}(T:RH B H w g ow)(a6:¬g.K nid)
 (h0:argTypes[0]? =Ua T0) (h1:argTypes[1]? =Ua T1) (hu:P.underlying T0=Ua (.slice Et)) (e5:P.underlying T1=Ua (.slice E1))
 (c5:P.info? Et=Ua ie) (hz:ie.zero=Ua z) (e7:z.cells.size=(Ty.sl t).size) (e1:ie.size=(Ty.sl t).size) (b8:ie.bytes<=256) (c9:xs.length+l.length<=549755813888)
 (hS:Xs w g.I (ZO H ow f) t xs sv) (hX:Xs w g.I (ZO H ow h) t l xv) (e9:∀k,k∈f->k ∉ h)
 (hr:∀val w',(Vw argTypes ty #[sv,xv]).run P w=.ok val w' ->r=.ok (.value val) w'):Zv B (Zu (Zu H ((f++h).map λid=>(id,Ub))) [(nid,Ua (.rows t (xs++l) 0 Ub))]) w g nid (.vw nid) r:=by
 have N:ie.size=1:=e1;have⟨j,W,e2⟩:=hS;have⟨d,A,e3⟩:=hX;have a0:RH B (Zu H ((f++h).map λid=>(id,Ub))) w g ow:=T.drops _;have hJ:∀b,ZO H ow f b->¬ZO H ow h b:=λb ⟨k,a1,a2,a3⟩ ⟨k',b1,b2,b3⟩=>by have:=T.dist k k' b a2 b2 a3 b3;grind
 have D:=W.append A hJ;have D:RL w g.I (ZO H ow (f++h)) t (j++d) (xs++l):=D.mono (λ_ _=>rfl) (by simp) (λb hb=>by
  obtain⟨k,a1,a2⟩|⟨k,a1,a2⟩:=hb;.exact⟨k,by grind,a2⟩
  exact⟨k,by grind,a2⟩) (by simp)
 have U:∀b,ZO H ow (f++h) b->b<w.heap.size:=λb ⟨k,_,a2,a3⟩=>(T.sep k b a2 a3).2.1;have c7:=W.1;have c8:=A.1;have e6:∃xb c,xv=.slice xb l.length c/\∀w',JG w w' ->(Vm ie.size l.length (.slice xb l.length c)).run P w' =.ok d.toArray w' :=by
  rw[N];obtain⟨rfl,rfl⟩|⟨b,cap,cs,e,_,_,rfl,hh,_,_,O⟩:=e3
  .have:d=[]:=by grind
   subst this;exact⟨Ub,0,rfl,λw' _=>by rfl⟩
  exact⟨_,cap,rfl,λw' hw=>Zm9 hh c8 O hw⟩
 obtain⟨xb,c,rfl,b9⟩:=e6;have d9:∃base cap,sv=.slice base xs.length cap/\(∀w',JG w w' ->(Vm ie.size xs.length (.slice base xs.length cap)).run P w' =.ok j.toArray w')/\((base=Ub/\cap=0/\xs=[])\/
  ∃b cs e,ZO H ow f b/\base=Ua ⟨b,0,Ub⟩/\w.heap[b]? =Ua (.cells cs e (0,0))/\cap<=cs.size/\(∀i,i<xs.length->cs[i]? =Ua (j.getD i undef))/\∀i x,xs[i]? =Ua x->WQ (j.getD i undef)≠Ua b):=by
  rw[N];obtain⟨rfl,rfl⟩|⟨b,cap,cs,e,f2,d0,rfl,hh,_,a9,O⟩:=e2
  .have:j=[]:=by grind
   subst this;exact⟨Ub,0,rfl,λw' _=>by rfl,by simp⟩
  exact⟨_,cap,rfl,λw' hw=>Zm9 hh c7 O hw,by grind⟩
 obtain⟨base,cap,rfl,c1,a5⟩:=d9;have f1:(xs++l).length=xs.length+l.length:=Vl;obtain⟨d7,C⟩|⟨n,w1,f3,S,C⟩:=Zkj h0 h1 hu e5 c5 hz b8 c1 b9 c9
 .obtain⟨rfl,rfl,rfl⟩|⟨b,cs,e,⟨kb,c6,Q,y⟩,rfl,hh,a9,O,d0⟩:=a5
  .have hy:l=[]:=by grind
   subst hy;have M:=hr _ _ (C.trans (by rfl));exact Zei (J:=λ_=>False) a0 a6 (by simp) (Vf _) rfl rfl ⟨rfl,Vf _⟩ M ⟨[],RL.nil,by simp⟩ (by simp)
  have hs:=T.sep kb b Q y;have b4:∀u∈d,u.oneCell' =true:=by
   intro u hu;obtain⟨i,hi,rfl⟩:=Vdb hu;have c4:i<l.length:=by omega
   have:=(A.row (Vs c4)).one.1;grind
  have b6:=run_storeCells_at P b (xs.length*1) e d 0 cs w hh (by omega) b4;have e4:cs.toList.take xs.length=j:=by apply Vfa;grind
  have b0:(cs.toList.take (xs.length*1+0)++d++cs.toList.drop (xs.length*1+0+d.length))=(j++d)++cs.toList.drop (xs.length+d.length):=by grind
  rw[b0]at b6;have M:=hr (.slice (Ua ⟨b,0,Ub⟩) (xs.length+l.length) cap) (w.setRow b ((j++d)++cs.toList.drop (xs.length+d.length)).toArray) (C.trans (by simp only[Vc,D8,N,Vn,b6,Va,Vd]));have R:∀k,k≠b->(w.setRow b ((j++d)++cs.toList.drop (xs.length+d.length)).toArray).heap[k]? =w.heap[k]? :=λk hk=>setRow_other w b k _ hk;have c2:=ZfP (ids:=f++h) T (b:=b) ⟨kb,by grind,Q,y⟩;have a4:=a0.free (b:=b) c2.2.2.2 hs.1 hs.2.2 R (size_setRow w b _) rfl rfl ⟨rfl,Vf _⟩;have b7:Kt g.I w (w.setRow b ((j++d)++cs.toList.drop (xs.length+d.length)).toArray):=λk hk=>by grind
  have b5:∀i x,(xs++l)[i]? =Ua x->WQ ((j++d).getD i undef)≠Ua b:=by
   intro i x hx hb;obtain hl|hl:=Vob i xs.length;.grind
   rw[Veb hl]at hx;have:(j++d).getD i undef=d.getD (i - xs.length) undef:=by grind
   rw[this]at hb;exact hJ b ⟨kb,c6,Q,y⟩ ((A.row hx).own hb)
  have L:=Zei (J:=ZO H ow (f++h)) (t:=t) (xs:=xs++l) a4 a6 (by simp) (Vf _) rfl rfl ⟨rfl,Vf _⟩ M ?_ (λb' m=>?_);.have⟨val,w',g',a7,d1,d2,d3,d4,d5,d6⟩:=L;exact⟨val,w',g',a7,d1,d2,d3,by grind,d5,d6⟩
  .refine⟨j++d,D.mono b7 (by simp) (by grind) (by grind),.inr ⟨b,cap,_,e,.inl ⟨kb,by grind,Q,y⟩,b5,by simp,Za8 hh,by omega,?_,by grind⟩⟩;all_goals grind
  have⟨p,q,r,s⟩:=ZfP T m;simp_all
 have M:=hr _ _ C;have a4:=a0.same S;have d8:w1.heap.size=w.heap.size:=by rw[S.heap]
 have L:=Zei (J:=ZO H ow (f++h)) (t:=t) (xs:=xs++l) a4 a6 (λk hk=>RP hk) (by simp) rfl rfl ⟨rfl,Vf _⟩ M ?_ (λb' m=>?_);.have⟨val,w',g',a7,d1,d2,d3,d4,d5,d6⟩:=L;exact⟨val,w',g',a7,d1,d2,d3,λk hk=>(d4 k hk).trans (S.agree g.I k hk),d5,d6⟩
 .have a8:∀b,b<w.heap.size->(w1.alloc (.cells (j.toArray++d.toArray++Vx z.cells (n - (xs.length+l.length))) Et)).heap[b]? =w.heap[b]? :=λb hb=>by rw[RP (by omega),S.heap]
  refine⟨j++d,D.mono (λb hb=>a8 b (T.ilt b hb)) (by simp) (by grind) λi x b' hx m=>a8 b' (U b' ((D.row hx).own m)),.inr ⟨w1.heap.size,n,_,Et,by simp,λi x hx m=>?_,by grind,RO _ _,by omega,?_,λi hi=>?_⟩⟩;.have:=U _ ((D.row hx).own m);omega
  .have f4:(Vx z.cells (n - (xs.length+l.length))).size=(n - (xs.length+l.length)) *1:=by simp[Vx,e7,Ty.size]
   grind
  grind
 have⟨p,q,r,s⟩:=ZfP T m;grind
theorem Zr4{c}(hT:Z0 P E)(l:RH B H w g ow)(hF:Fr w g F a.tmps)(hk:∀id,g.K id->id<nid\/nid+Wv<=id)(ho:o.op=.call c)(hc:c.callee=.builtin .append)
 (h:(ZP E nid o.op o.type (Zz F)).run H []=Ua ((v,patch),rd)):Zv B (Zu H patch) w g nid v ((execOp a.eval o).run P w):=by
 rw[ho]at h;simp only[ZP,hc]at h;split at h
 .rename_i s x t b1 b7;rw[ZN]at h;have n:c.args.map a.eval= #[a.eval s,a.eval x]:=by
   have:c.args= #[s,x]:=by grind
   grind
  have⟨T0,h0,a4⟩:=Vk.1 b7;obtain⟨_,h⟩|⟨f,h⟩:=h;.simp[Zb]at h
  simp[ZN]at h;have:∃R t1,c.argTypes[1]? =Ua R/\E.ty R=Ua (.sl t1):=by
   cases hh:c.argTypes[1]? with
   |none=>rw[hh]at f;simp[JV]at f|some R=>
    rw[hh]at f;simp[Za]at f
    cases ht:E.ty R with|none=>rw[ht]at f;simp[JV]at f|some t1=>cases t1<;>rw[ht]at f<;>simp[JV]at f;grind
  have⟨R,t1,h1,b6⟩:=this;have⟨Et,hu,a7⟩:=Ju hT a4;have⟨E1,O,_⟩:=Ju hT b6;have⟨ie,z,p,N,_,hz,a5,_⟩:=(hT.ty Et _ a7).info;have L:=(hT.ty _ _ a4).small _ _ hu p;have Q:z.cells.size=t.size:=by have⟨m,h4⟩:=ZhA (w:=w) (g:=g) a5;have:=CV.length _ t _ h4 m;omega
  have d:∀val w',(Vw c.argTypes o.type #[a.eval s,a.eval x]).run P w=.ok val w' ->(execOp a.eval o).run P w=.ok (.value val) w' :=by intro val w' d;simp[execOp,ho,Zc5 hc,builtin,n,Vc,d,Va,Vd]
  obtain⟨_,h⟩|⟨_,h⟩:=h
  .split at h
   .rename_i t';simp only[Zlj,ZY,ZD,Zr,Vb]at h;obtain⟨⟨xs,c1⟩,m1,hS,⟨j,C⟩,m2,T,u,W,u2,a0,⟨rfl,rfl⟩,_⟩:=h;have i:xs.length+j.length<=549755813888:=Xw (Gu W);have⟨n1,n2,n3⟩:=Vha.1 (ZgA.1 (Gu a0));rw[XB];exact ZsB l (Ho hk) h0 h1 hu O p hz Q N L i (ZgG l (hF.eval s) hS).1 (ZgG l (hF.eval x) T).1 (by grind) d
   simp[Zb]at h
  split at h
  .rename_i id ver kt k b5;simp only[Zli,ZY,ZD,Zr,Vb]at h;obtain⟨r,m1,y,xs,b8,⟨j,C⟩,m2,T,u,W,u2,a0,o',m3,M,⟨rfl,rfl⟩,_⟩:=h;obtain⟨he,rfl⟩:=Zcv b8;have⟨t0,row⟩:=r;simp at he;subst he;have i:row.length+j.length<=549755813888:=Xw (Gu W);have A:¬g.K (nid+1):=λh=>by have:=hk _ h;unfold Wv at this;omega
   have a3:=b5▸hF.eval s;have⟨g2,c2,a9,b2,hI,S,b4,b3,_⟩:=Zqj l a3 y M A;have⟨_,_,_,_,a2⟩:=Zce l a3 y;have J:=Zfh l (hF.eval x) T;have b0:Zds w g2 t0 j (a.eval x):=by unfold Zds at J⊢;grind
   have a1:¬g2.K nid:=λh=>by
    obtain h|h:=S _ h;.exact Ho hk h
    omega
   have U:=ZlA (ty:=o.type) (xs:=row) a9 a1 h0 h1 hu O p hz Q N L i b0 d (sv:=a.eval s) (.inr ⟨nid+1,rfl,by rw[XY];simp,by
    obtain⟨m,h4⟩|⟨b,cap,cs,e,a6,m,_,h5,h6,h7,h8,h9⟩:=a2;.grind
    exact .inr ⟨b,cap,cs,e,a6,(b4 b).2 (by rw[m];rfl),m,h5,h6,h7,by grind,h9⟩⟩)
   have⟨val,w',g',b9,d1,d2,d3,d4,d5,d6⟩:=U;have D:H (nid+1)=none:=by
    cases hh:H (nid+1) with|none=>rfl|some ob=>exact absurd (l.objs _ _ hh).1 A
   have a8:ZX (ZX (ZX (ZX H id (Ua o')) (nid+1) (Ua (.vec t0 row))) (nid+1) Ub) nid (Ua (.vec t0 (row++j)))=Zu H [(id,Ua o'),(nid,Ua (.vec t0 (row++j)))]:=by
    simp only[Zu];funext q;by_cases q1:q=nid;.subst q1;rw[XY,XY]
    rw[KB q1,KB q1];by_cases q2:q=nid+1;.subst q2;rw[XY,KB (Ne.symm b3),D]
    rw[KB q2,KB q2]
   rw[a8]at d2;refine⟨val,w',g',b9,d1,d2,b2.trans d3,by grind,d5,λq hq=>?_⟩;obtain h|h:=d6 q hq
   .obtain h|h:=S q h
    .grind
    exact .inr ⟨by omega,by unfold Wv;omega⟩
   omega
  simp only[Zlh,ZY,ZD,Zr,Vb]at h;obtain⟨⟨xs,ids⟩,m1,hS,⟨j,C⟩,m2,T,u,W,⟨rfl,rfl⟩,_⟩:=h;have i:xs.length+j.length<=549755813888:=by
   unfold Zw at W
   cases hd:Ue (xs.length+j.length<=Zt) with|true=>exact Xw hd|false=>grind
  have hO:=Zet l (hF.eval s) hS;have J:=Zfh l (hF.eval x) T;have hp:Zu H (ids.map (λid=>(id,Ub))++[(nid,Ua (.vec t (xs++j)))])=ZX (Zu H (ids.map λid=>(id,Ub))) nid (Ua (.vec t (xs++j))):=by exact XB _ _ _
  rw[hp];refine ZlA (ty:=o.type) l (Ho hk) h0 h1 hu O p hz Q N L i J d (sv:=a.eval s) ?_;obtain⟨rfl,rfl,m⟩|⟨id,rfl,m,h4⟩:=hO;.exact .inl ⟨rfl,rfl,m⟩
  exact .inr ⟨id,rfl,m,h4⟩
 simp[Zb]at h
end ops
section ops
variable {P:Program}{E:Kh}{B:KR}{H:AH}{w:X}{g:Gh}{ow:Nat->Nat->Prop}{F:Nat->AV}{a:Act}{nid:Nat}{o:Oper}{v:AV}{patch:Wm}{rd:V Nat}
theorem ZzH{id x}(h:H id=x):ZX H id x=H:=by
 funext k;by_cases e:k=id;.subst e;rw[XY,h]
 rw[KB e]
theorem Zm3{I}:∀{y:V Int}{css},Fa (Rd w I (.int .u8)) y css->css.flatten=y.map (Value.int .u8)|[],[],_=>rfl|_::_,_::_,⟨h,q⟩=>by rw[Vhb,Zm3 q,h];rfl
theorem Zsb{S T x}(l:Z0 P E)(z:RH B H w g ow)(hF:Fr w g F a.tmps)(J:o.op=.convert S T x)
 (h:(ZP E nid o.op o.type (Zz F)).run H []=Ua ((v,patch),rd)):Zv B (Zu H patch) w g nid v ((execOp a.eval o).run P w):=by
 rw[J]at h;simp[ZP,ZD]at h;have⟨s,N,t,O,h⟩:=h;have L:=hF.eval x;have⟨d,R⟩:=ZzD l N;split at h;.rename_i k k' n hy;simp[Zr,Vb]at h;obtain⟨⟨rfl,rfl⟩,_⟩:=h;rw[hy]at L;refine Zv.pure z ?_ (Xb _ _);simp[execOp,J,VR.int L,convert,underlying,Vc,Va,R,ZqG l O,Vd,Conv.intToInt]
 .simp[ZN,Zb,ZW,Z7,Kp,ZE.run_bind]at h;obtain⟨rfl,h⟩:=h
  cases M:(RQ (.int .u8) (Zz F x)).run H [] with
  |none=>grind|some r=>
   have⟨⟨y,ids⟩,l'⟩:=r;rw[M]at h;simp[Za,Zr,Vb]at h;obtain⟨⟨rfl,rfl⟩,_⟩:=h;have⟨p,K,u⟩:=Ju l N;have j:=ZqG l u;have f:=ZkJ l O;have⟨Q,c,q,W,A,U⟩:=Zfh z L M;refine Zv.pure z (val:=.string (strOfNums y)) ?_ (Ze6 (Zfq y));have key:(convert S T (.slice Q y.length c)).run P w=.ok (.string (strOfNums y)) w:=by
    by_cases m:y=[]
    .subst m
     cases Q with
     |none=>exact run_convert_bytes_nil w S p K j _ _ T f|some a0=>
      rw[run_convert_bytes_string w S T p _ _ _ K j f];rfl
    obtain⟨b,off,rfl,e⟩:=U m;have C:=Zm3 A;refine run_convert_bytes_arg w S p K j b off _ c y rfl (λi hi=>?_) T f;have D:i<q.flatten.length:=by grind
    rw[e i D,List.getElem_of_eq C];grind
   simp[execOp,J,W,Vc,key,Va,Vd]
 simp[Zb]at h
theorem ZyA{len cap m}{d:Option G}{i r l h e}(hF:Fr w g F a.tmps)(N:m<=cap)
 (j:∀x∈d,(K1 (Zz F x)).isSome) (f:(K1 (Zz F i)).isSome) (q:K1 (Zz F r)=Ua e) (p:0<=e/\m=e.toNat)
 (c:sliceB len m (d.bind λo=>K1 (Zz F o)) (K1 (Zz F i))=Ua (l,h)):
 (Vua Uc len cap (d.map a.eval) (Ua (a.eval i)) (Ua (a.eval r))).run P w=.ok (l,h,m) w/\l<=h/\h<=m:=by
 have bound:∀x n (y:Nat) code,K1 (Zz F x)=Ua n->0<=n->n<=y->(Vu (a.eval x) y code).run P w=.ok n.toNat w:=by intro x n y code J t u;have⟨k,A⟩:=ZlE hF J;simp[Vu,A,asIntOf,t,u,if_true]
 have⟨n,C⟩:=Vqa.1 f;unfold sliceB at c;rw[C]at c;simp only[Vk]at c;have⟨L,s,b⟩:=c;split at s
 .rename_i M;cases s;have K:=bound r e cap .slice3Acap q p.1 (by omega);unfold Vua
  cases d with
  |none=>
   simp[Vb]at b;obtain⟨rfl,rfl⟩:=b;refine⟨?_,Nat.zero_le _,by omega⟩
   simp_all|some x=>
   have⟨O,D⟩:=Vqa.1 (j x rfl);simp only[Za]at b;split at b;.rename_i z;simp[Z4]at b;refine⟨?_,by omega,by omega⟩;simp_all
   grind
 grind
theorem Zsv{T x D mx M}(C:Z0 P E)(A:RH B H w g ow)(hF:Fr w g F a.tmps)(J:o.op=.slice T x M (Ua D) (Ua mx))
 (h:(ZP E nid o.op o.type (Zz F)).run H []=Ua ((v,patch),rd)):Zv B (Zu H patch) w g nid v ((execOp a.eval o).run P w):=by
 rw[J]at h;simp only[ZP,ZN,Zb,ZW,false_or,Vh,Ve]at h;have⟨⟨i,f⟩,h⟩:=h;have i:=Zbs i;have f:(K1 (Zz F D)).isSome:=f;have hx:=hF.eval x;split at h
 .rename_i id hy;rw[ZZ]at h;split at h
  .rename_i t xs Q;simp only[ZN,ZD,Zb,ZW,false_or,Vh,Kp]at h;have⟨ht,mi,y,m,hm,⟨l,z⟩,K,h⟩:=h;have U:v=.vs id l (z - l)/\patch=[]:=by
    cases M with
    |none=>
     simp[Zr,Vb]at h;have hl:0=l:=by simp[sliceB,Vfc,Vk,Z4,Vb]at K;omega
     grind|some x=>
     simp[Zr,Vb]at h;grind
   obtain⟨rfl,rfl⟩:=U;have⟨s,a2,u⟩:=ZbG hm;have p:m<=xs.length:=by omega
   have⟨N,hu,q⟩:=Ju C ht;have⟨hk,S⟩:=(hy▸hx).vw;have⟨_,a3,d⟩:=A.objs id _ Q;have key:∃j cap,g.slv id=.slice j xs.length cap/\xs.length<=cap/\(∀l n m,l+n<=xs.length->l+n<=m->m<=xs.length->ZeI (g.slv id) t.size l n [.slice (if m=l then j else j.map (·.add (l*t.size))) n (m - l)]):=by
    obtain⟨rfl,_,d⟩|⟨b,cap,cs,e,O,_,_,d,_,c,_⟩:=d
    .refine⟨Ub,0,d,Vf _,λl n m k r p=>.inl ⟨d,?_,?_,?_⟩⟩;all_goals grind
    refine⟨_,cap,d,c,λl n m k r p=>.inr ⟨b,xs.length,cap,m - l,d,k,by omega,by omega,?_⟩⟩;congr 2;by_cases h0:m=l;.grind
    simp[Vj,Z4];unfold Addr.add;grind
   have⟨j,cap,hv,c,L⟩:=key;have⟨R,a1,W⟩:=ZyA (P:=P) (w:=w) (cap:=cap) hF (by omega) i f y ⟨s,u⟩ K;refine Zv.pure A (val:=.slice (if m=l then j else j.map (·.add (l*t.size))) (z - l) (m - l)) ?_ (KT ?_ rfl rfl);.simp[execOp,J,S,hv,Vma,Vxa,Vj,underlying,Vc,run_program,Va,hu,Vd,R,(C.ty N t q).run_sizeOf]
   simp[CV];grind
  simp[Zb]at h
 simp[Zb]at h
end ops
section ops
variable {P:Program}{E:Kh}{B:KR}{H:AH}{w:X}{g:Gh}{ow:Nat->Nat->Prop}{nid:Nat}{a:Act}{F:Nat->AV}{v:AV}{patch:Wm}{rd:V Nat}{o:Oper}
theorem Zu9{L:V MapEntry}(c:(L.map (·.born)).Nodup){i e}(b:L[i]? =Ua e):L.filter (λx=>x.born !=e.born)=L.eraseIdx i:=by
 induction L generalizing i with
 |nil=>rfl|cons x l d=>
  cases i with
  |zero=>
   simp_all|succ i=>
   grind
theorem Zwk es seen n:Gx es (seen.push n)=(Gx es seen).filter λx=>x.born !=n:=by unfold Gx;rw[List.filter_filter];grind
theorem ZjE es seen:(leftOf es seen).toList=Gx es seen:=by unfold leftOf Gx;simp
theorem Zwi es:Gx es #[]=es.toList:=by unfold Gx;simp
theorem Zwj{es}(h:(es.toList.map (·.born)).Nodup) seen:((Gx es seen).map (·.born)).Nodup:=
 h.sublist ((List.filter_sublist).map _)
theorem Zst{T x}(N:Z0 P E)(c:RH B H w g ow)(hF:Fr w g F a.tmps)(u:∀id,g.K id->id<nid\/nid+Wv<=id)(A:o.op=.range T x)
 (h:(ZP E nid o.op o.type (Zz F)).run H []=Ua ((v,patch),rd)):Zv B (Zu H patch) w g nid v ((execOp a.eval o).run P w):=by
 rw[A]at h;simp only[ZP,ZD]at h;have⟨m,S,h⟩:=h;have⟨K,V,W,hK,hV⟩:=N.mty T m S;split at h
 .rename_i id hy;rw[ZZ]at h;split at h
  .rename_i kt vt m L;obtain⟨⟨rfl,rfl⟩,_⟩:=h;have⟨_,b,O,Q⟩:=(hy▸hF.eval x).mp;have⟨_,b',es,clock,j,p,R,l,t⟩:=c.objs id _ L;rw[O]at j;cases j;have q:(execOp a.eval o).run P w=.ok (.value (.pointer (Ua ⟨w.heap.size,0,Ub⟩))) (w.alloc (.mapIter (Ua b) clock #[] clock)):=by simp only[execOp,A,Vc,Q,run_range_map w T K V b es clock W R];rfl
   have n:∀k,k<w.heap.size->(w.alloc (.mapIter (Ua b) clock #[] clock)).heap[k]? =w.heap[k]? :=λk u=>by show (w.heap.push _)[k]? =_;grind
   have U:(w.alloc (.mapIter (Ua b) clock #[] clock)).heap.size=w.heap.size+1:=Array.size_push ..;have⟨p1,p2,p3⟩:=c.sep id b (by grind) p;have f:g.Le (g.add nid .ref (Ua w.heap.size) undef):=Gh.le_add (Ho u) _ _ _;have d:Kt g.I w (w.alloc (.mapIter (Ua b) clock #[] clock)):=λk y=>n k (c.ilt k y);refine⟨_,_,g.add nid .ref (Ua w.heap.size) undef,Xv ow nid λk=>k=w.heap.size\/k=b,.inl q,?_,f,d,?_,?_⟩
   .refine(c.drop id).add (Ho u) n (by omega) rfl rfl ⟨rfl,Vf _⟩ (λk z=>?_) ?_
    .obtain rfl|rfl:=z
     .refine⟨λM=>absurd (c.ilt _ M) (by omega),by omega,.inr c.size,λi r s=>?_⟩;have:=(c.sep i _ (YZ r).2 s).2.1;omega
     refine⟨p1,by omega,p3,λi r s=>?_⟩;have⟨D,J⟩:=YZ r;exact D (c.dist i id _ J (by grind) s p)
    refine⟨w.heap.size,b,es,clock,clock, #[],by simp[Gh.add],by simp[Gh.add],.inl rfl,.inr rfl,RO _ _,by grind,⟨l.1,Vf _,l.2⟩,?_,by simp⟩;rw[Zwi];exact t.mono λkv e C=>⟨C.1.mono d f,C.2.mono d f⟩
   .refine KT ?_ rfl rfl;exact⟨.inl rfl,0,.ref,w.heap.size,by simp[Gh.add,WW],by simp[Gh.add],rfl⟩
   intro id h;obtain rfl|h:=h;.exact .inr ⟨Vf _,by unfold Wv;omega⟩
   grind
  simp[Zb]at h
 simp[Zb]at h
theorem Zor{it id C J cur}(s:RH B H w g ow)(hF:Fr w g F a.tmps)(z:o.op=.next it Ud)(A:Zz F it=.ptr id [])(r:H id=Ua (.rng C J [] cur)):
 (execOp a.eval o).run P w=.ok (.value (.tuple #[.bool Ud])) w/\VR w g (.tup (.cons (.d .bool Ud) .nil)) (.tuple #[.bool Ud]):=by
 have⟨_,M,t,b,k,n,u⟩:=(A▸hF.eval it).ptr;have⟨_,K,D,es,clock,since,seen,j,c,_,_,x,y,⟨p,q,L⟩,m,_⟩:=s.objs id _ r;rw[j,WW]at k;cases k;rw[n]at c;cases c;have i:Gx es seen=[]:=by
  cases i:Gx es seen with|nil=>rfl|cons e l=>rw[i]at m;exact m.elim
 obtain⟨_,f⟩|⟨e,h,_⟩:=run_next_at (P:=P) w o.type b D since clock seen es clock x y p q
 .refine⟨?_,[.bool Ud],rfl,.bool Ud,[],rfl,⟨?_,?_⟩,rfl⟩
  .simp only[execOp,z,Vc,u,f];rfl
  .rfl
  exact .inr rfl
 rw[ZjE,i]at h;grind
theorem Zsp{it}(b:RH B H w g ow)(hF:Fr w g F a.tmps)(c:o.op=.next it Ud)
 (h:(ZP E nid o.op o.type (Zz F)).run H []=Ua ((v,patch),rd)):Zv B (Zu H patch) w g nid v ((execOp a.eval o).run P w):=by
 rw[c]at h;simp[ZP]at h;split at h
 .rename_i id i;rw[ZZ]at h;split at h
  .rename_i j k cur f;obtain⟨⟨rfl,rfl⟩,_⟩:=h;have⟨d,e⟩:=Zor (P:=P) b hF c i f;exact Zv.pure b d e
  simp[Zb]at h
 simp[Zb]at h
theorem Zsc{it}(n:RH B H w g ow)(hF:Fr w g F a.tmps)(p:o.op=.entry it)
 (h:(ZP E nid o.op o.type (Zz F)).run H []=Ua ((v,patch),rd)):Zv B (Zu H patch) w g nid v ((execOp a.eval o).run P w):=by
 rw[p]at h;simp[ZP]at h;split at h
 .rename_i id A;rw[ZZ]at h;split at h
  .rename_i M O rest kv u;obtain⟨⟨rfl,rfl⟩,_⟩:=h;have⟨_,N,t,b,m,q,x⟩:=(A▸hF.eval it).ptr;have⟨_,D,C,es,clock,since,seen,k,d,_,_,y,z,⟨J,K,r⟩,L,s⟩:=n.objs id _ u;rw[k,WW]at m;cases m;rw[q]at d;cases d;obtain⟨e,i,c,rfl,j,l⟩:=s kv rfl;have f:=run_entry_at (P:=P) w b C since c es clock e y z i r;refine Zv.pure n ?_ ⟨[e.key,e.val],rfl,e.key,[e.val],rfl,j,e.val,[],rfl,l,rfl⟩;simp only[execOp,p,Vc,x,f];rfl
  simp[Zb]at h
 simp[Zb]at h
theorem Zw0{it id N O rest cur}(D:RH B H w g ow)(hF:Fr w g F a.tmps)(ho:o.op=.next it Ud)(hy:Zz F it=.ptr id [])
 (hH:H id=Ua (.rng N O rest cur)) (a2:rest≠ []):∃i kv val w',i<rest.length/\rest[i]? =Ua kv/\(execOp a.eval o).run P w=.ok (.value val) w' /\RH B (ZX H id (Ua (.rng N O (rest.eraseIdx i) (Ua kv)))) w' g ow/\Kt g.I w w' /\
   VR w' g (.tup (.cons (.d .bool Uc) (.cons (.d N kv.1) (.cons (.d O kv.2) .nil)))) val:=by
 have⟨_,o',t,b,Q,R,he⟩:=(hy▸hF.eval it).ptr;have⟨hK,b',n,es,clock,since,seen,u,p,j,r,hh,hm,⟨S,T,U⟩,A,_⟩:=D.objs id _ hH;rw[u,WW]at Q;cases Q;rw[R]at p;cases p;obtain⟨h0,_⟩|⟨e,h,m,M,s⟩:=run_next_at (P:=P) w o.type b n since clock seen es clock hh hm S T
 .exfalso;have hl:Gx es seen=[]:=by rw[<-ZjE];grind
  rw[hl]at A
  cases rest with|nil=>grind|cons x l=>assumption
 rw[ZjE]at h;have⟨i,W⟩:=List.getElem?_of_mem h;have K:i<rest.length:=by rw[A.length];grind
 have⟨e2,q,y,z⟩:=A.get i rest[i] (by simp);rw[W]at q;cases q;have C:JG w m:=by obtain rfl|rfl:=M<;>exact⟨rfl,rfl,rfl,⟨rfl,by simp⟩⟩
 have J:=D.same C;have a0:=D.sep id b (by grind) j;have f:∀k,k≠b->(Go.ChangeMaps.setBlock m b (.mapIter (Ua n) since (seen.push e.born) clock)).heap[k]? =m.heap[k]? :=by intro k hk;show (m.heap.setIfInBounds b _)[k]? =_;grind
 have c:Kt g.I w (Go.ChangeMaps.setBlock m b (.mapIter (Ua n) since (seen.push e.born) clock)):=λk hk=>by rw[f k (by grind),C.heap]
 have a1:b≠n:=by grind
 refine⟨i,rest[i],.tuple #[.bool Uc,e.key,e.val],_,K,by simp,?_,J.write (by grind) j f (by show (m.heap.setIfInBounds b _).size=_;simp) rfl rfl ⟨rfl,Vf _⟩ ?_,c,?_⟩;.simp only[execOp,ho,Vc,he,s];rfl
 .refine⟨b,n,es,clock,since,seen.push e.born,u,R,j,r,?_,?_,⟨S,T,U⟩,?_,λkv L=>?_⟩
  .show (m.heap.setIfInBounds b _)[b]? =_;rw[Vca,Zn rfl,Zn (by rw[C.heap];omega)]
  .rw[f n (by omega),C.heap];omega
  .rw[Zwk,Zu9 (Zwj U seen) W];exact(A.mono λkv e hx=>⟨hx.1.mono c (.refl g),hx.2.mono c (.refl g)⟩).eraseIdx i
  cases L;exact⟨e,(List.mem_filter.1 h).1,seen,rfl,y.mono c (.refl g),z.mono c (.refl g)⟩
 exact⟨[.bool Uc,e.key,e.val],rfl,.bool Uc,_,rfl,⟨by rfl,.inr rfl⟩,e.key,_,rfl,y.mono c (.refl g),e.val,_,rfl,z.mono c (.refl g),rfl⟩
end ops
def Pat.isAgg:Pat->Bool|.pd t=>t.agg|.agg _=>Uc|_=>Ud
mutual
def PC(w:X)(I:Nat->Prop):(p:Pat)->WH p->V Nat->V Y->Prop
 |.pd t,x,js,cs=>js=[]/\Rd w I t x cs|.own t _,x,js,cs=>(js=[]/\x=[]/\cs=[.slice Ub 0 0])\/
   ∃b cap cells e css,js=[b]/\cs=[.slice (Ua ⟨b,0,Ub⟩) x.length cap]/\w.heap[b]? =Ua (.cells cells e (0,0))/\x.length<=cap/\cap*t.size<=cells.size/\Fa (Rd w I t) x css/\css.flatten<+:cells.toList|.var t p,x,js,cs=>p.fits t=Uc/\∃b h cells e,js=b::h/\cs=[.pointer (Ua ⟨b,0,Ub⟩)]/\w.heap[b]? =Ua (.cells cells e (0,0))/\cells.size=t.size/\PC w I p x h cells.toList|.ro t,x,js,cs=>js=[]/\∃b off c,cs=[.pointer (Ua ⟨b,off,Ub⟩)]/\I b/\KH w b off c/\Rd w I t x c|.map d i,x,js,cs=>∃b es clock,js=[b]/\cs=[.map (Ua b)]/\w.heap[b]? =Ua (.map es clock)/\Bn es clock/\Fa (λkv e=>(Rd w I d kv.1 e.key.cells.toList/\Kb e.key=d.agg)/\(Rd w I i kv.2 e.val.cells.toList/\Kb e.val=i.agg)) x es.toList|.rows t _,x,js,cs=>∃v,cs=[v]/\Xs w I (· ∈js) t x v|.mrows d t,x,js,cs=>∃v,cs=[v]/\HC w I (· ∈js) d t x v|.it d i,x,js,cs=>∃b j es clock since seen,js=[b,j]/\b≠j/\cs=[.pointer (Ua ⟨b,0,Ub⟩)]/\w.heap[b]? =Ua (.mapIter (Ua j) since seen clock)/\w.heap[j]? =Ua (.map es clock)/\
   ((∀x∈es.toList,x.born<since)/\since<=clock/\(es.toList.map (·.born)).Nodup)/\Fa (λkv e=>(Rd w I d kv.1 e.key.cells.toList/\Kb e.key=d.agg)/\(Rd w I i kv.2 e.val.cells.toList/\Kb e.val=i.agg)) x (Gx es seen)|.fnd tn tq lt lb,x,js,cs=>∃b,cs=[.pointer (Ua ⟨b,0,Ub⟩)]/\Zap w I (· ∈js) tn tq lt lb x b|.owo lb,x,js,cs=>∃v,cs=[v]/\HE w I (· ∈js) lb x v|.agg l,x,js,cs=>J8 w I l x js cs|.fn f l,x,js,cs=>∃n:V Y,cs=[Xi f n]/\J8 w I l x js n|.nilr,_,js,cs=>js=[]/\(cs=[.pointer Ub]\/cs=[.nilFunc]\/cs=[.map Ub])|.nils,_,js,cs=>js=[]/\cs=[.slice Ub 0 0]|.any,_,js,_=>js=[]
def J8(w:X)(I:Nat->Prop):(l:Pats)->KX l->V Nat->V Y->Prop|.nil,_,js,cs=>js=[]/\cs=[]|.cons p l,x,js,cs=>∃q r k m,js=q++r/\cs=k++m/\PC w I p x.1 q k/\J8 w I l x.2 r m
end
def PV(w:X)(I:Nat->Prop) p(x:WH p)(js:V Nat)(v:Y):Prop:=PC w I p x js v.cells.toList/\(p=.any\/Kb v=p.isAgg)
def J9(w:X)(I:Nat->Prop):(l:Pats)->KX l->V Nat->V Y->Prop|.nil,_,b,vs=>b=[]/\vs=[]|.cons p l,x,b,vs=>∃c d v r,b=c++d/\vs=v::r/\PV w I p x.1 c v/\J9 w I l x.2 d r
section
variable {w w' :X}{I I' :Nat->Prop}
mutual
theorem PC.mono(n:Kt I w w')(m:∀b,I b->I' b):∀(p:Pat) (x:WH p) (js:V Nat) (cs:V Y),(∀b∈js,w'.heap[b]? =w.heap[b]?)->PC w I p x js cs->PC w' I' p x js cs
 |.pd t,x,js,cs,_,h=>⟨h.1,Rd.mono n m t x cs h.2⟩|.own t k,x,js,cs,d,h=>by
  simp only[PC]at h⊢;obtain h|⟨b,cap,cells,e,css,rfl,j,i,r,s,A,T⟩:=h;.exact .inl h
  exact .inr ⟨b,cap,cells,e,css,rfl,j,(d b (by simp)).trans i,r,s,A.mono λx c q=>Rd.mono n m t x c q,T⟩|.var t p,x,js,cs,d,h=>by
  simp only[PC]at h⊢;obtain⟨U,b,y,cells,e,rfl,j,i,r,s⟩:=h
  exact⟨U,b,y,cells,e,rfl,j,(d b (by simp)).trans i,r,PC.mono n m p x y _ (λR C=>d R (by simp[C])) s⟩|.ro t,x,js,cs,_,h=>by
  simp only[PC]at h⊢;obtain⟨d,b,off,c,j,i,r,s⟩:=h
  exact⟨d,b,off,c,j,m _ i,r.mono (n _ i),Rd.mono n m t x _ s⟩|.map z J,x,js,cs,d,h=>by
  simp only[PC]at h⊢;obtain⟨b,es,clock,rfl,j,i,D,r⟩:=h
  exact⟨b,es,clock,rfl,j,(d b (by simp)).trans i,D,r.mono λx e q=>⟨⟨Rd.mono n m z _ _ q.1.1,q.1.2⟩,Rd.mono n m J _ _ q.2.1,q.2.2⟩⟩|.rows t k,x,js,cs,d,h=>by
  simp only[PC]at h⊢;obtain⟨v,j,i⟩:=h
  exact⟨v,j,i.mono n m (λ_ h=>h) d⟩|.it z J,x,js,cs,d,h=>by
  simp only[PC]at h⊢;obtain⟨b,Q,es,clock,since,seen,rfl,S,j,i,r,s,A⟩:=h
  exact⟨b,Q,es,clock,since,seen,rfl,S,j,(d b (by simp)).trans i,(d Q (by simp)).trans r,s,A.mono λx e q=>⟨⟨Rd.mono n m z _ _ q.1.1,q.1.2⟩,Rd.mono n m J _ _ q.2.1,q.2.2⟩⟩|.mrows z t,x,js,cs,d,h=>by
  simp only[PC]at h⊢;obtain⟨v,j,i⟩:=h
  exact⟨v,j,i.mono n m (λ_ h=>h) d⟩|.owo lb,x,js,cs,d,h=>by
  simp only[PC]at h⊢;obtain⟨v,j,i⟩:=h
  exact⟨v,j,i.mono n m (λ_ _ h=>h) λb _ u=>d b u⟩|.fnd tn tq lt lb,x,js,cs,d,h=>by
  simp only[PC]at h⊢;obtain⟨b,j,i⟩:=h
  exact⟨b,j,i.mono n m (λ_ h=>h) d⟩|.agg l,x,js,cs,d,h=>by
  simp only[PC]at h⊢
  exact J8.mono n m l x js cs d h|.fn f l,x,js,cs,d,h=>by
  simp only[PC]at h⊢;obtain⟨M,j,i⟩:=h
  exact⟨M,j,J8.mono n m l x js M d i⟩|.nilr,_,_,_,_,h|.nils,_,_,_,_,h|.any,_,_,_,_,h=>by simpa only[PC] using h
theorem J8.mono(n:Kt I w w')(m:∀b,I b->I' b):∀(l:Pats) (x:KX l) (js:V Nat) (cs:V Y),(∀b∈js,w'.heap[b]? =w.heap[b]?)->J8 w I l x js cs->J8 w' I' l x js cs|.nil,_,js,cs,_,h=>by simpa only[J8] using h|.cons p l,x,js,cs,d,h=>by simp only[J8]at h⊢;obtain⟨N,O,K,L,rfl,rfl,j,i⟩:=h;exact⟨N,O,K,L,rfl,rfl,PC.mono n m p x.1 N K (λb u=>d b (by simp[u])) j,J8.mono n m l x.2 O L (λb u=>d b (by simp[u])) i⟩
end
theorem PV.mono(e:Kt I w w')(c:∀b,I b->I' b){p x js v}(d:∀b∈js,w'.heap[b]? =w.heap[b]?)(h:PV w I p x js v):PV w' I' p x js v:=
 ⟨PC.mono e c p x js _ d h.1,h.2⟩
theorem J9.mono(d:Kt I w w')(c:∀b,I b->I' b):∀{l}{x}{js}{vs},(∀b∈js,w'.heap[b]? =w.heap[b]?)->J9 w I l x js vs->J9 w' I' l x js vs|.nil,_,_,_,_,h=>h|.cons p l,x,js,vs,k,h=>by obtain⟨i,j,v,r,rfl,rfl,e,f⟩:=h;exact⟨i,j,v,r,rfl,rfl,e.mono d c (by grind),J9.mono d c (by grind) f⟩
end
section
variable {B:KR}{H:AH}{w:X}{g:Gh}{ow:Nat->Nat->Prop}{F:Nat->AV}{I:Nat->Prop}
theorem HT(m:RH B H w g ow){i j b}(d:ZO H ow i b)(e:ZO H ow j b):∃id,id∈i/\id∈j:=by have⟨id,n,f,h⟩:=d;have⟨c,p,k,l⟩:=e;have:=m.dist id c b f k h l;grind
theorem Wx{i j}(h:∀id∈i,id∈j){b}(e:ZO H ow i b):ZO H ow j b:=
 let ⟨id,c,d⟩:=e;⟨id,h id c,d⟩
noncomputable def RR(w:X)(J:Nat->Prop):V Nat:=(List.range w.heap.size).filter λb=> @decide (J b) (Classical.propDecidable _)
theorem Ri{J b}:b∈RR w J↔b<w.heap.size/\J b:=by unfold RR;simp
theorem ZdF{J}:(RR w J).Nodup:=List.nodup_range.filter _
theorem Zeu(e:RH B H w g ow){ids b}(h:ZO H ow ids b):b<w.heap.size:=by have⟨id,_,c,d⟩:=h;exact(e.sep id b c d).2.1
theorem Zxk(s:RH B H w g ow){t v cs x ids l A}(c:CV w g v cs)(h:(J1 t v).run H l=Ua ((x,ids),A)):∃val,cs=[val]/\WF w g.I (ZO H ow ids) t x val:=by
 have d:∃val,cs=[val]/\VR w g v val:=by
  cases v with
  |vw id=>exact⟨_,c.2.1,KT (by simp only[CV];exact⟨c.1,trivial,c.2.2⟩) c.2.2 rfl⟩|vs id C n=>
   have:∃val,cs=[val]/\val.oneCell' =true:=by
    obtain⟨_,_,_,rfl⟩|⟨b,len,cap,m,_,_,_,_,rfl⟩:=c.2;.exact⟨_,rfl,rfl⟩
    exact⟨_,rfl,rfl⟩
   obtain⟨val,rfl,p⟩:=this
   exact⟨val,rfl,KT (by simpa only[CV] using c) p rfl⟩|nils=>exact⟨_,c,KT (by simp[CV]) rfl rfl⟩|_=>simp[J1,Zb]at h
 obtain⟨val,rfl,z⟩:=d;refine⟨val,rfl,?_⟩;obtain⟨rfl,rfl,rfl⟩|⟨id,rfl,k,⟨rfl,rfl⟩|⟨b,cap,cells,e,i,y,rfl,u,q,r,j,f⟩⟩:=Zet s z h;.exact .inl ⟨rfl,rfl⟩
 .exact .inl ⟨rfl,rfl⟩
 exact .inr ⟨b,cap,cells,e,i,rfl,⟨id,by simp,k,y⟩,u,q,r,j,f⟩
theorem ZoM(n:RH B H w g ow){lb v cs x ids l D}(p:CV w g v cs)(h:(R5 lb v).run H l=Ua ((x,ids),D)):∃val,cs=[val]/\HE w g.I (ZO H ow ids) lb x val:=by
 cases v with
 |vw id=>
  refine⟨_,p.2.1,?_⟩;simp[R5]at h;rw[ZZ]at h;split at h
  .rename_i J xs c;simp[ZD]at h;obtain⟨K,m,⟨rfl,rfl⟩,_⟩:=h;obtain⟨f,rfl⟩:=KS m;cases f;have⟨_,_,d⟩:=n.objs id _ c;obtain⟨rfl,_,j⟩|⟨b,cap,cs,e,q,_,A,j,z,t,u,i,C⟩:=d
   .exact .inl ⟨rfl,j⟩
   have⟨k,r,s⟩:=Zi0 i;exact .inr ⟨b,0,cap,cs,e,k,j,⟨id,by simp,by rw[c];simp,A⟩,z,t,by simpa[Ty.size] using u,s,by rw[<-r];simpa using C⟩
  .rename_i J xs c;simp[ZD]at h;obtain⟨K,m,⟨rfl,rfl⟩,_⟩:=h;obtain⟨f,rfl⟩:=KS m;cases f;have⟨_,_,d⟩:=n.objs id _ c;exact d.mono (λ_ _=>rfl) (λ_ h=>h) (λb _ y=>⟨id,by simp,by rw[c];simp,y⟩) λ_ _ _=>rfl
  simp[Zb]at h|nils=>
  obtain⟨⟨rfl,rfl⟩,_⟩:=h
  exact⟨_,p,.inl ⟨rfl,rfl⟩⟩|_=>simp[R5,Zb]at h
theorem Zxm(d:RH B H w g ow){t v cs x ids l f}(b:CV w g v cs)(h:(YW t v).run H l=Ua ((x,ids),f)):∃val,cs=[val]/\Xs w g.I (ZO H ow ids) t x val:=by
 have c:∃val,cs=[val]/\VR w g v val:=by
  cases v with|vw id=>exact⟨_,b.2.1,KT (by simp only[CV];exact⟨b.1,trivial,b.2.2⟩) b.2.2 rfl⟩|nils=>exact⟨_,b,KT (by simp[CV]) rfl rfl⟩|_=>simp[YW,Zb]at h
 obtain⟨val,rfl,e⟩:=c;exact⟨val,rfl,(ZgG d e h).1⟩
mutual
theorem DB(s:RH B H w g ow)(J:∀b,g.I b->I b):∀(p:Pat) (v:AV) (cs:V Y) (x:WH p) (ids:ZI) (l L:V Nat),(ext p v).run H l=Ua ((x,ids),L)->CV w g v cs->(∀b,ZO H ow ids.br b->I b)->
 ids.tk.Nodup->∃js,PC w I p x js cs/\js.Nodup/\∀b∈js,ZO H ow ids.tk b
 |.pd t,v,cs,x,ids,l,L,h,d,D,_=>by
  simp only[ext,ZY,Zr,Vb]at h;obtain⟨⟨x1,i1⟩,m,r,⟨rfl,rfl⟩,_⟩:=h
  exact⟨[],⟨rfl,ZaE s J t v cs x1 i1 _ _ r d D⟩,.nil,by simp⟩|.own t k,v,cs,x,ids,l,L,h,d,D,_=>by
  simp only[ext,ZY,Zr,Vb]at h;obtain⟨⟨x1,i1⟩,m,r,⟨rfl,rfl⟩,_⟩:=h;have a1:∃val,cs=[val]/\VR w g v val:=by
   cases v with
   |vw id=>simp only[CV]at d;exact⟨_,d.2.1,KT (by simp only[CV];exact⟨d.1,trivial,d.2.2⟩) d.2.2 rfl⟩|vs id lo n=>
    simp only[CV]at d;have:∃val,cs=[val]/\val.oneCell' =true:=by
     obtain⟨_,_,_,rfl⟩|⟨b,len,cap,m,_,_,_,_,rfl⟩:=d.2;.exact⟨_,rfl,rfl⟩
     exact⟨_,rfl,rfl⟩
    obtain⟨val,rfl,r⟩:=this
    exact⟨val,rfl,KT (by simpa only[CV] using d) r rfl⟩|nils=>simp only[CV]at d;exact⟨_,d,KT (by simp only[CV]) rfl rfl⟩|_=>simp[J1,Zb]at r
  obtain⟨val,rfl,hv⟩:=a1;obtain⟨rfl,rfl,rfl⟩|⟨id,rfl,a3,⟨rfl,rfl⟩|⟨b,cap,cells,e,css,ho,rfl,U,M,Q,a0,b3⟩⟩:=Zet s hv r;.exact⟨[],.inl ⟨rfl,rfl,rfl⟩,.nil,by simp⟩
  .exact⟨[],.inl ⟨rfl,rfl,rfl⟩,.nil,by simp⟩
  exact⟨[b],.inr ⟨b,cap,cells,e,css,rfl,rfl,U,M,Q,a0.mono λx c hx=>Rd.mono (λ_ _=>rfl) J t x c hx,b3⟩,by simp,λb' A=>by simp only[Vsa]at A;subst A;exact⟨id,by simp,a3,ho⟩⟩
 |.var t p,v,cs,x,ids,l,L,h,d,D,T=>by
  simp only[ext]at h;split at h
  .rename_i id;rw[ZZ]at h;split at h
   .rename_i t' c N;simp only[ZN,ZY,Zr,Zb,ZW,Z7,Ve,Kp,Vb]at h;obtain⟨⟨rfl,hf⟩,⟨x1,i1⟩,m,r,⟨rfl,rfl⟩,_⟩:=h;obtain⟨_,a2,b0,b,cells,e,q,O,U,a7,R⟩:=s.objs id _ N;simp only[CV]at d;obtain⟨_,o,t2,b',Q,C,rfl⟩:=d;rw[WW]at Q;cases Q;rw[q]at C;cases C;simp only[Vza]at T;obtain⟨js,h5,h6,h7⟩:=DB s J p c cells.toList x1 i1 _ _ r R (λb q=>D b q) T.2;refine⟨b::js,⟨hf,b,js,cells,e,rfl,rfl,U,a7,h5⟩,Vza.2 ⟨λb7=>?_,h6⟩,?_⟩
    .obtain⟨d5,h8,h9⟩:=HT s (i:=[id]) ⟨id,by simp,by rw[N];simp,O⟩ (h7 b b7);simp only[Vsa]at h8;subst h8;exact T.1 h9
    intro b' A;obtain rfl|A:=Vkb.1 A;.exact⟨id,by simp,by rw[N];simp,O⟩
    exact Wx (λ_ h=>List.mem_cons_of_mem _ h) (h7 b' A)
   simp[Zb]at h
  simp[Zb]at h|.ro t,v,cs,x,ids,l,L,h,d,D,_=>by
  simp only[ext]at h;split at h
  .rename_i id;rw[ZZ]at h;split at h
   .rename_i t0 t' y N;simp only[ZD,Zr,Vb]at h;obtain⟨z,W,⟨rfl,rfl⟩,_⟩:=h;obtain⟨rfl,rfl⟩:=KS W;obtain⟨_,a2,b0,b,cells,e,q,O,U,a7,R⟩:=s.objs id _ N;simp only[CV]at d;obtain⟨_,o,t2,b',Q,C,rfl⟩:=d;rw[WW]at Q;cases Q;rw[q]at C;cases C;have R:=(show Rd w g.I _ _ cells.toList by simpa only[CV] using R);refine⟨[],⟨rfl,b,0,cells.toList,rfl,D b ⟨id,by simp,by rw[N];simp,O⟩,?_,Rd.mono (λ_ _=>rfl) J _ _ _ R⟩,.nil,by simp⟩;have:=KH.of_vec (css:=[cells.toList]) U (by simp);simpa using this
   simp[Zb]at h
  .rename_i t' y;simp only[ZD,Zr,Vb]at h;obtain⟨z,W,⟨rfl,rfl⟩,_⟩:=h;obtain⟨rfl,rfl⟩:=KS W;simp only[CV]at d;obtain⟨b,off,c,r,M,Q,C⟩:=d;exact⟨[],⟨rfl,b,off,c,r,J _ M,Q,Rd.mono (λ_ _=>rfl) J _ _ _ C⟩,.nil,by simp⟩
  simp[Zb]at h|.map kt vt,v,cs,x,ids,l,L,h,d,D,_=>by
  simp only[ext]at h;split at h
  .rename_i id;rw[ZZ]at h;split at h
   .rename_i k e m N;simp only[ZD,Zr,Vb]at h;obtain⟨z,W,⟨rfl,rfl⟩,_⟩:=h;obtain⟨he,rfl⟩:=KS W;cases he;obtain⟨_,b,es,clock,q,O,U,b9,a0⟩:=s.objs id _ N;simp only[CV]at d;obtain⟨_,b',C,rfl⟩:=d;rw[q]at C;cases C;refine⟨[b],⟨b,es,clock,rfl,rfl,U,b9,a0.mono λkv e hx=>?_⟩,by simp,λb' A=>by simp only[Vsa]at A;subst A;exact⟨id,by simp,by rw[N];simp,O⟩⟩;obtain⟨⟨r,M⟩,Q,C⟩:=hx;exact⟨⟨Rd.mono (λ_ _=>rfl) J _ _ _ (by simpa only[CV] using r),by simpa[AV.isAgg] using M⟩,Rd.mono (λ_ _=>rfl) J _ _ _ (by simpa only[CV] using Q),by simpa[AV.isAgg] using C⟩
   simp[Zb]at h
  simp[Zb]at h|.it kt vt,v,cs,x,ids,l,L,h,d,D,_=>by
  simp only[ext]at h;split at h
  .rename_i id;rw[ZZ]at h;split at h
   .rename_i k e m cur N;simp only[ZD,Zr,Vb]at h;obtain⟨z,W,⟨rfl,rfl⟩,_⟩:=h;obtain⟨he,rfl⟩:=KS W;cases he;obtain⟨_,b,mb,es,clock,since,seen,a2,q,O,b2,U,hm,Q,a0,_⟩:=s.objs id _ N;simp only[CV]at d;obtain⟨_,o',t',b',r,C,rfl⟩:=d;rw[a2,WW]at r;cases r;rw[q]at C;cases C;have b1:b≠mb:=by intro b8;rw[b8,hm]at U;cases U
    refine⟨[b,mb],⟨b,mb,es,clock,since,seen,rfl,b1,rfl,U,hm,Q,a0.mono λkv e hx=>?_⟩,by simp[b1],λb' A=>by
     simp only[Vkb,List.not_mem_nil,Z7]at A;obtain rfl|rfl:=A;.exact⟨id,by simp,by rw[N];simp,O⟩
     exact⟨id,by simp,by rw[N];simp,b2⟩⟩
    obtain⟨⟨r,M⟩,Q,C⟩:=hx;exact⟨⟨Rd.mono (λ_ _=>rfl) J _ _ _ (by simpa only[CV] using r),by simpa[AV.isAgg] using M⟩,Rd.mono (λ_ _=>rfl) J _ _ _ (by simpa only[CV] using Q),by simpa[AV.isAgg] using C⟩
   simp[Zb]at h
  simp[Zb]at h|.rows t k,v,cs,x,ids,l,L,h,d,D,_=>by
  simp only[ext,ZY,Zr,Vb]at h;obtain⟨⟨x1,i1⟩,m,r,⟨rfl,rfl⟩,_⟩:=h;have a1:∃val,cs=[val]/\VR w g v val:=by
   cases v with|vw id=>simp only[CV]at d;exact⟨_,d.2.1,KT (by simp only[CV];exact⟨d.1,trivial,d.2.2⟩) d.2.2 rfl⟩|nils=>simp only[CV]at d;exact⟨_,d,KT (by simp only[CV]) rfl rfl⟩|_=>simp[YW,Zb]at r
  obtain⟨val,rfl,hv⟩:=a1;obtain⟨a6,_⟩:=ZgG s hv r
  exact⟨RR w (ZO H ow i1),⟨val,rfl,a6.mono (λ_ _=>rfl) J (λb q=>Ri.2 ⟨Zeu s q,q⟩) λ_ _=>rfl⟩,ZdF,λb q=>(Ri.1 q).2⟩
 |.mrows kt t,v,cs,x,ids,l,L,h,d,D,_=>by
  simp only[ext]at h;split at h
  .rename_i id;rw[ZZ]at h;split at h
   .rename_i k t' m u N;simp only[ZD,Zr,Vb]at h;obtain⟨z,W,⟨rfl,rfl⟩,_⟩:=h;obtain⟨he,rfl⟩:=KS W;cases he;obtain⟨b,q,hm⟩:=HC.of_obj (s.objs id _ N).2;simp only[CV]at d;obtain⟨_,b',C,rfl⟩:=d;rw[q]at C;cases C;have S:∀b,ow id b->ZO H ow [id] b:=λb q=>⟨id,by simp,by rw[N];simp,q⟩;exact⟨RR w (ZO H ow [id]),⟨_,rfl,hm.mono (λ_ _=>rfl) J (λb q=>Ri.2 ⟨Zeu s (S b q),S b q⟩) λ_ _=>rfl⟩,ZdF,λb q=>(Ri.1 q).2⟩
   simp[Zb]at h
  simp[Zb]at h|.owo lb,v,cs,x,ids,l,L,h,d,D,_=>by
  simp only[ext,ZY,Zr,Vb]at h;obtain⟨⟨x1,i1⟩,m,r,⟨rfl,rfl⟩,_⟩:=h;obtain⟨val,rfl,hv⟩:=ZoM s d r
  exact⟨RR w (ZO H ow i1),⟨val,rfl,hv.mono (λ_ _=>rfl) J (λb _ q=>Ri.2 ⟨Zeu s q,q⟩) λ_ _ _=>rfl⟩,ZdF,λb q=>(Ri.1 q).2⟩|.fnd tn tq lt lb,v,cs,x,ids,l,L,h,d,D,T=>by
  simp only[ext]at h;split at h
  .rename_i id;rw[ZZ]at h;split at h
   .rename_i e7 e9 d7 d6 bs N;simp only[ZD,Zr]at h;obtain⟨z,W,⟨rfl,rfl⟩,_⟩:=h;obtain⟨he,rfl⟩:=KS W;cases he;obtain⟨_,a2,b,q,hm⟩:=s.objs id _ N;simp only[CV]at d;obtain⟨_,o',t',b',r,C,rfl⟩:=d;rw[WW]at r;cases r;rw[q]at C;cases C;have S:∀b,ow id b->ZO H ow [id] b:=λb q=>⟨id,by simp,by rw[N];simp,q⟩;exact⟨RR w (ZO H ow [id]),⟨b,rfl,hm.mono (λ_ _=>rfl) J (λb q=>Ri.2 ⟨Zeu s (S b q),S b q⟩) λ_ _=>rfl⟩,ZdF,λb q=>(Ri.1 q).2⟩
   .rename_i t v1 v2 v3 v4 v5 v6 N;simp only[ZN,ZY,ZD,Zr,Zb,ZW,Z7,Kp,Vb]at h;obtain⟨rfl,⟨y1,i1⟩,m1,e1,⟨y2,i2⟩,m2,e2,⟨y3,i3⟩,m3,e3,⟨y4,i4⟩,m4,e4,⟨y5,i5⟩,m5,e5,⟨y6,i6⟩,m6,e6,z,W,⟨rfl,rfl⟩,_⟩:=h;obtain⟨ad,d0,b4⟩:=ZzE W;simp only[WG,Vb]at b4;obtain⟨rfl,rfl,rfl,rfl,rfl,rfl⟩:=b4;obtain⟨_,a2,b0,b,cells,e,q,O,U,a7,R⟩:=s.objs id _ N;simp only[CV]at d;obtain⟨_,o',t',b',r,C,rfl⟩:=d;rw[WW]at r;cases r;rw[q]at C;cases C;simp only[CV,Kk]at R;obtain⟨c1,r1,c9,k1,c2,r2,rfl,k2,c3,r3,rfl,k3,c4,r4,rfl,k4,c5,r5,rfl,k5,c6,r6,rfl,k6,rfl⟩:=R;obtain⟨d1,rfl,g4⟩:=Zxm s k4 e4;obtain⟨d2,rfl,g5⟩:=ZoM s k5 e5;obtain⟨d3,rfl,g6⟩:=Zxk s k6 e6;simp only at T D;simp only[Vza,Vha,Vnc,not_or]at T;obtain⟨⟨n4,n5,n6⟩,d8,⟨_,_,d9⟩,d4⟩:=T;have a3:ZO H ow [id] b:=⟨id,by simp,by rw[N];simp,O⟩;have dj:∀{i j:V Nat}{k:Nat},ZO H ow i k->ZO H ow j k->∃n,n∈i/\n∈j:=λr M=>HT s r M;have a4:∀{i:V Nat}{k:Nat},(∀n∈i,n∈id::(i4++(i5++i6)))->ZO H ow i k->k∈RR w (ZO H ow (id::(i4++(i5++i6)))):=λhi K=>Ri.2 ⟨Zeu s K,Wx hi K⟩;have a5:∀{i:V Nat}{k:Nat},id ∉ i->ZO H ow i k->k≠b:=by intro i k hi K e;subst e;obtain⟨n,r,M⟩:=dj a3 K;simp only[Vsa]at r;exact hi (r▸M)
    refine⟨RR w (ZO H ow (id::(i4++(i5++i6)))),⟨b,rfl,a4 (by simp) a3,ad,ZO H ow i4,ZO H ow i5,ZO H ow i6,d0,λk K=>⟨a4 (by grind) K,a5 n4 K,λh5=>?_,λh6=>?_⟩,λk K=>⟨a4 (by grind) K,a5 n5 K,λh6=>?_⟩,λk K=>⟨a4 (by grind) K,a5 n6 K⟩,
     cells,e,c1,c2,c3,d1,d2,d3,U,by simpa using c9,ZaE s J tn v1 c1 _ i1 _ _ e1 k1 λk K=>D k (Wx (by grind) K),ZaE s J tq v2 c2 _ i2 _ _ e2 k2 λk K=>D k (Wx (by grind) K),ZaE s J lt v3 c3 _ i3 _ _ e3 k3 λk K=>D k (Wx (by grind) K),
     g4.mono (λ_ _=>rfl) J (λ_ h=>h) λ_ _=>rfl,g5.mono (λ_ _=>rfl) J (λ_ _ h=>h) λ_ _ _=>rfl,g6.mono (λ_ _=>rfl) J (λ_ _ h=>h) λ_ _ _=>rfl⟩,ZdF,λk K=>(Ri.1 K).2⟩
    .obtain⟨n,r,M⟩:=dj K h5;grind
    .obtain⟨n,r,M⟩:=dj K h6;grind
    obtain⟨n,r,M⟩:=dj K h6;grind
   simp[Zb]at h
  simp[Zb]at h|.agg pl,v,cs,x,ids,l,L,h,d,D,T=>by
  simp only[ext]at h;split at h;.rename_i vs;simp only[CV]at d;obtain⟨js,r,M⟩:=ZfU s J pl vs cs x ids l L h d D T;exact⟨js,r,M⟩
  .rename_i t y;simp only[ZN,Zb,ZW,Z7]at h;obtain⟨hf,h⟩:=h;obtain⟨js,r,M⟩:=ZfU s J pl _ cs x ids l L h (ZmW t y cs hf (by simpa only[CV] using d)) D T;exact⟨js,r,M⟩
  simp[Zb]at h|.fn f pl,v,cs,x,ids,l,L,h,d,D,T=>by
  simp only[ext]at h;split at h;.rename_i f' a8;simp only[ZN,Zb,ZW,Z7]at h;obtain⟨hf,h⟩:=h;have hf:=Nat.eq_of_beq_eq_true hf;subst hf;simp only[CV]at d;obtain⟨cc,rfl,c7⟩:=d;obtain⟨js,r,M⟩:=ZfU s J pl a8 cc x ids l L h c7 D T;exact⟨js,⟨cc,rfl,r⟩,M⟩
  simp[Zb]at h|.nilr,v,cs,x,ids,l,L,h,d,D,_=>by
  simp only[ext]at h;split at h;.simp only[Zr,Vb]at h;obtain⟨⟨_,rfl⟩,_⟩:=h;have d:=ZcT d;exact⟨[],⟨rfl,d⟩,.nil,by simp⟩
  simp[Zb]at h|.nils,v,cs,x,ids,l,L,h,d,D,_=>by
  simp only[ext]at h;split at h;.simp only[Zr,Vb]at h;obtain⟨⟨_,rfl⟩,_⟩:=h;simp only[CV]at d;exact⟨[],⟨rfl,d⟩,.nil,by simp⟩
  simp[Zb]at h|.any,v,cs,x,ids,l,L,h,d,D,_=>by simp only[ext,Zr,Vb]at h;obtain⟨⟨_,rfl⟩,_⟩:=h;exact⟨[],rfl,.nil,by simp⟩
theorem ZfU(s:RH B H w g ow)(J:∀b,g.I b->I b):∀(pl:Pats) (v:ZF) (cs:V Y) (x:KX pl) (ids:ZI) (l L:V Nat),(WP pl v).run H l=Ua ((x,ids),L)->Kk w g v cs->(∀b,ZO H ow ids.br b->I b)->
 ids.tk.Nodup->∃js,J8 w I pl x js cs/\js.Nodup/\∀b∈js,ZO H ow ids.tk b
 |.nil,.nil,cs,x,ids,l,L,h,d,D,_=>by
  simp only[WP,Zr,Vb]at h;obtain⟨⟨_,rfl⟩,_⟩:=h;simp only[Kk]at d
  exact⟨[],⟨rfl,d⟩,.nil,by simp⟩|.cons p pl,.cons v vs,cs,x,ids,l,L,h,d,D,T=>by
  simp only[WP,ZY,Zr,Vb]at h;obtain⟨⟨x1,i1⟩,m1,r,⟨x2,i2⟩,m2,M,⟨rfl,rfl⟩,_⟩:=h;simp only[Kk]at d;obtain⟨c1,c2,rfl,Q,C⟩:=d;have c8:(i1.tk++i2.tk).Nodup:=T;obtain⟨n1,n2,n3⟩:=Vha.1 c8;obtain⟨j1,h5,h6,h7⟩:=DB s J p v c1 x1 i1 _ _ r Q (λb q=>D b (Wx (λ_ h=>by simp[ZI.app,h]) q)) n1;obtain⟨j2,h8,h9,a9⟩:=ZfU s J pl vs c2 x2 i2 _ _ M C (λb q=>D b (Wx (λ_ h=>by simp[ZI.app,h]) q)) n2;refine⟨j1++j2,⟨j1,j2,c1,c2,rfl,rfl,h5,h8⟩,Vha.2 ⟨h6,h9,λb q b' A e=>?_⟩,λb q=>?_⟩;.subst e;obtain⟨id,b5,b6⟩:=HT s (h7 b q) (a9 b A);exact n3 id b5 id b6 rfl
  obtain q|q:=Vnc.1 q;.exact Wx (λ_ h=>by simp[ZI.app,h]) (h7 b q)
  exact Wx (λ_ h=>by simp[ZI.app,h]) (a9 b q)|.nil,.cons _ _,_,_,_,_,_,h,_,_,_|.cons _ _,.nil,_,_,_,_,_,h,_,_,_=>by simp[WP,Zb]at h
end
end
end Tr
end
