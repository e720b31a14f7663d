/- Operations on addresses and parts. Conditions: the table of types is the program's. -/
import Derived.Laws.StructEq
import Derived.ChangeKeysEq
import Derived.Laws.AppendOwn
import Derived.Laws.BytesArg
import Derived.Maps.RangeRun
import Derived.Test.YtdpenljjnfmgiaaGreatETrA
open Array renaming getElem?_setIfInBounds ->Vfa,getElem?_eq_getElem ->Vma,range ->Vpa,getElem?_eq_some_iff ->Veb,toList_inj ->Vlb,toList_map ->Vmb,toList_push ->Vcc,map_empty ->Vpc
open Bool renaming and_eq_true ->Ve,not_eq_false' ->Vh,or_eq_false_iff ->Vaa,false_eq_true ->Vda,not_false ->Vwb,not_eq_true' ->Vdc,eq_iff_iff ->Vmc
open Go.Builtin renaming firstCells ->Vo,append_ ->Vx,zeroCells ->Vz,len_ ->Vab,lenOf ->Vad,min_ ->Vbd,max_ ->Vcd
open Go.Instr renaming checkKey ->Vs,sliceBound ->Vv,mapUpdate ->Vea,sliceAt ->Vna,lookup ->Vra,sliceBounds ->Vta,slice ->Vxa,buildSlice ->Vya,indexAt ->Vgb,findNow ->Vib,findAsking ->Vkb,makeSlice ->Vsb,sameNow ->Vxb,keyThatStays ->Vac,fill ->Vsc,sureAddr ->Vtc,makeFunc ->Vvc,fieldAt ->Vwc,findKey ->Vxc,index ->Vdd
open Go.IntKind renaming i64 ->Vfb
open List renaming replicate ->Vg,map_cons ->Vl,length_append ->Vn,getElem?_eq_getElem ->Vt,length_replicate ->Vw,getElem?_eq_some_iff ->Vy,flatten_append ->Vca,append_assoc ->Vha,ext_getElem? ->Via,length ->Vja,flatten_cons ->Vsa,drop_eq_nil_of_le ->Vua,getElem_of_mem ->Vcb,getElem?_append_right ->Vdb,drop_eq_getElem_cons ->Vhb,all_eq_true ->Vjb,getElem?_cons_succ ->Vob,mem_map ->Vpb,map_map ->Vqb,take_append_drop ->Vtb,getElem?_eq_none ->Vub,mem_range ->Vvb,take_replicate ->Vyb,length_pos_iff ->Vzb,nodup_append ->Vec,size_toArray ->Vfc,cons_append ->Vgc,range'_succ ->Vhc,lookup_cons ->Vjc,isEmpty_nil ->Vlc,forIn_cons ->Vnc,map_append ->Voc,nodup_cons ->Vqc,mem_cons ->Vzc
open Nat renaming le_refl ->Vf,le_of_ble_eq_true ->Vj,zero_add ->Vp,lt_succ_self ->Vba,add_mul ->Voa,add_zero ->Vza,lt_or_ge ->Vnb,min_eq_left ->Vrb,beq_eq ->Vrc,blt ->Vyc
open Option renaming map_some ->Vi,bind_eq_some_iff ->Vk,map_none ->Vm,map_eq_some_iff ->Vr,getD_some ->Vu,isSome_iff_exists ->Vqa,bind_none ->Vwa,isSome_none ->Vbc,map_map ->Vuc
open Prod renaming fst ->Vla
open Prod.mk renaming injEq ->Vc,inj ->Vga
open Go.Result renaming andThen_ok ->Va
open Go.Sem renaming run_bind ->Vb,run_pure ->Vd,run ->Vbb,run_ite ->Vic
open Go.Value renaming slice ->Vq,oneCell' ->Vka,cells ->Vva
open Go.World renaming cell? ->Vkc
open Option renaming some ->Ua,none ->Ub
open Bool renaming true ->Uc,false ->Ud
open Decidable renaming decide ->Ue
section
namespace Tr
open Go
theorem ZoA:∀(p:List Nat) (t:Ty) (o:Nat) (c:Ty),ZX t p=Ua (o,c)->Hx t p=Ua c:=by
 intro p t
 induction t generalizing p with
 |prod a b f j=>
  intro o c h
  match p with
  |[]=>obtain⟨rfl,rfl⟩:=Vga (KO h);rfl
  |0::p=>simpa only[Hx] using f p o c h
  |(n+1)::p=>
   simp only[ZX,Vr]at h;have ⟨r,d,e⟩:=h;obtain⟨rfl,rfl⟩:=Vga e
   simpa only[Hx] using j (n::p) r.1 r.2 d
 |arr n t k=>
  intro o c h
  match p with
  |[]=>obtain⟨rfl,rfl⟩:=Vga (KO h);rfl
  |i::p=>
   simp only[ZX]at h;split at h
   ·simp only[Vr]at h;have ⟨r,d,e⟩:=h;obtain⟨rfl,rfl⟩:=Vga e;simpa only[Hx] using k p r.1 r.2 d
   grind
 |_=>
  intro o c h
  match p with
  |[]=>obtain⟨rfl,rfl⟩:=Vga (KO h);rfl
  |_::_=>simp [ZX]at h
theorem Zdl:∀(p:List Nat) (t:Ty) (q:List Nat) (o:Nat) (e:Ty) (d:Nat) (f:Ty),ZX t p=Ua (o,e)->ZX e q=Ua (d,f)->ZX t (p++q)=Ua (o+d,f):=by
 intro p t
 induction t generalizing p with
 |prod a b k l=>
  intro q o e d f c h
  match p with
  |[]=>
   rw[WR]at c
   grind
  |0::p=>
   simpa [ZX] using k p q o e d f c h
  |(n+1)::p=>
   simp only[ZX,Vr]at c;obtain⟨r,c,j⟩:=c;obtain⟨rfl,rfl⟩:=Vga j;simp only[Vgc,ZX]
   grind
 |arr n t s=>
  intro q o e d f c h
  match p with
  |[]=>
   rw[WR]at c
   grind
  |i::p=>
   simp only[ZX]at c;split at c
   ·rename_i m;simp only[Vr]at c;obtain⟨r,c,j⟩:=c;obtain⟨rfl,rfl⟩:=Vga j;simp only[Vgc,ZX,Vr];grind
   grind
 |_=>
  intro q o e d f c h
  match p with
  |[]=>
   rw[WR]at c
   grind
  |_::_=>simp [ZX]at c
theorem Dt(b o n:Nat):(⟨b,o,Ub⟩:Addr).add n=⟨b,o+n,Ub⟩:=by unfold Addr.add;simp
theorem Zc5{α:Type}{xs:List α}{n:Int}{y:α}(h:idx xs n=Ua y):0<=n/\xs[n.toNat]? =Ua y/\n<xs.length:=by unfold idx at h;grind
theorem ZaD{n:Int}{m j:Nat}(h:Zv n m=Ua j):0<=n/\n<m/\j=n.toNat:=by unfold Zv at h;grind
section ops
variable {P:Program}{E:Z9}{B:Z1}{H:AH}{w:World}{g:Gh}{ow:Nat->Nat->Prop}{nid:Nat}{a:Act}{F:Nat->AV}{v:AV}{patch:KF}{rd:List Nat}{o:Oper}
theorem ZeT{T f:Nat}{t:Ty}{r:Nat×Ty}(h:Jo P E.ty T t)(q:ZX t [f]=Ua r)(y:∀n e,t≠ .arr n e):
 ∃i fd,P.underlying T=some (.struct i)∧i[f]? =some fd∧fd.offset=r.1∧E.ty fd.type=some r.2∧fd.name≠ "_" :=by
 have c:=h.shape
 cases t with
 |prod a b=>
  cases s:P.underlying T with
  |none=>rw[s]at c;simp [Ke]at c
  |some d=>
   rw[s]at c
   cases d with
   |struct i=>
    simp only[Ke,Ve,Vjb,Vvb]at c;have u:f<i.size:=by
     rcases Vnb f i.size with h|h
     ·exact h
     ·exfalso;have key:∀(t:Ty) (k m:Nat),(ZX t [k]).isNone=Uc->t.chain=Uc->k<=m->(ZX t [m]).isNone=true:=by
       intro t
       induction t with
       |prod a b _ p=>
        intro k m j l x
        cases k with
        |zero=>simp [ZX,WR]at j
        |succ k=>
         cases m with
         |zero=>omega
         |succ m=>
          simp only[ZX,Option.isNone_map]at j⊢
          exact p k m j l (by omega)
       |unit=>intro k m _ _ _;rfl
       |_=>intro k m _ l;simp [Ty.chain]at l
      have:=key (.prod a b) _ f c.1.2 c.2 h;grind
    grind
   |_=>simp [Ke]at c
 |unit=>simp [ZX]at q
 |arr n e=>grind
 |_=>simp [ZX]at q
theorem ZlR{t:Ty}(h:t.isStruct=Uc):∀n e,t≠ .arr n e:=by rintro n e rfl;simp [Ty.isStruct]at h
theorem ZtJ{t:Ty}(h:t.isStruct=Uc):t.agg=true:=by
 cases t<;>simp_all [Ty.isStruct,Ty.agg]
theorem Zwc{T f:Nat}{c:Array Field}{fd:Field}{e:Ty}{b d:Nat}(l:Z4 P E)(h:P.underlying T=Ua (.struct c))(i:c[f]? =Ua fd)(j:E.ty fd.type=Ua e)(k:e.size≠0):
 (Vwc T (.pointer (Ua ⟨b,d,Ub⟩)) f).run P w=.ok (.pointer (Ua ⟨b,d+fd.offset,Ub⟩)) w:=by
 simp [Vwc,underlying,Vb,run_program,Va,h,Vd,i,Vtc,fieldPlace,(l.ty _ _ j).run_sizeOf,k,if_false,Dt]
theorem KB.sub{b off:Nat}{pre c post:List Value}(h:KB w b off (pre++c++post)):KB w b (off+pre.length) c:=by intro j d;have:=h (pre.length+j) (by grind);grind
theorem ZjZ{T f:Nat}{x:Operand}(hT:Z4 P E)(G:RH B H w g ow)(hF:Fr w g F a.tmps)(ho:o.op=.fieldAddr T x f)
 (h:(ZS E nid o.op o.type (Zz F)).run H []=Ua ((v,patch),rd)):Zu B (Zs H patch) w g nid v ((execOp a.eval o).run P w):=by
 rw[ho]at h;simp only[ZS,ZA,ZO,Zb,ZU,false_or,Vaa,Vh]at h;obtain⟨t,ht,r,O,⟨a5,a3⟩,h⟩:=h;have W:r.2.size≠0:=by intro e;simp_all
 obtain⟨fs,fd,h1,h2,h3,h4,_⟩:=ZeT (hT.ty T t ht) O (ZlR a3);have Y:=hF.eval x;have key:∀{b z:Nat},a.eval x=.pointer (Ua ⟨b,z,Ub⟩)->(execOp a.eval o).run P w=.ok (.value (.pointer (Ua ⟨b,z+r.1,Ub⟩))) w:=by intro b z he;simp only[execOp,ho,he,Vb,Zwc hT h1 h2 h4 W,Va,Vd,h3]
 split at h
 ·rename_i t' y K;simp only[ZO,Z2,Zj,Zb,ZU,Ka,Ki,Vc]at h;obtain⟨rfl,u,m,j,⟨rfl,rfl⟩,_⟩:=h;obtain⟨b,off,c,C,D,L,R⟩:=(K▸Y).dp;obtain⟨_,c1,⟨o2,pre,post,Q,a0,a1⟩,a2⟩:=Ze5 [f] t' y _ _ u c j R;rw[O]at Q;cases Q;refine Zu.pure G (key C) (KN ?_ rfl rfl);simp only[CV];refine⟨b,off+o2,c1,rfl,D,?_,a2⟩;rw[<-a1];rw[a0]at L;exact L.sub
 ·rename_i id p K;rw[Z3]at h;split at h
  ·rename_i t0 c S;simp only[ZA,ZO,Zj,Zb,ZU,Ka,Ki,Vc]at h;obtain⟨q,l,rfl,⟨rfl,rfl⟩,_⟩:=h;obtain⟨J,z,t1,b,j,C,D⟩:=(K▸Y).ptr;obtain⟨_,d,_⟩:=G.objs id _ S;rw[d]at j;have e1:=(ZoA _ _ _ _ j).symm.trans l;obtain rfl:=KO e1;refine Zu.pure G (key D) (KN ?_ rfl rfl);simp only[CV];exact⟨J,z+r.1,r.2,b,by rw[d];exact Zdl p t0 [f] _ _ _ _ j O,C,rfl⟩
  ·rename_i tn tq lt lb c S;simp only[ZO,Zj,Zb,ZU,Ka,Vc]at h;obtain⟨l,⟨rfl,rfl⟩,_⟩:=h;obtain⟨J,z,t1,b,j,C,D⟩:=(K▸Y).ptr;obtain⟨_,d,_⟩:=G.objs id _ S;refine Zu.pure G (key D) (KN ?_ rfl rfl);simp only[CV];have V:∃u,ZX (g.ty id) (p++[f])=Ua (z+r.1,u):=by
    have e1:=ZoA _ _ _ _ j
    cases p with
    |nil=>
     rw[WR]at j;obtain⟨rfl,rfl⟩:=Vga (KO j);simp only[Bool.or_eq_true,Ki]at l;rw[Vp,List.nil_append];have Z:∀A B:Ty,(A=Jk tn tq lt lb\/A=Ye tn tq lt lb)->(B=Jk tn tq lt lb\/B=Ye tn tq lt lb)->∀r:Nat×Ty,ZX A [f]=Ua r->∃u,ZX B [f]=Ua (r.1,u):=by
      intro A B M N r h;have e:(ZX A [f]).map Vla=(ZX B [f]).map Vla:=by
       match f with
       |0=>rcases M with rfl|rfl<;>rcases N with rfl|rfl<;>simp [Jk,Ye,ZX]
       |1=>rcases M with rfl|rfl<;>rcases N with rfl|rfl<;>simp [Jk,Ye,ZX]
       |2=>rcases M with rfl|rfl<;>rcases N with rfl|rfl<;>simp [Jk,Ye,ZX]
       |3=>rcases M with rfl|rfl<;>rcases N with rfl|rfl<;>simp [Jk,Ye,ZX]
       |4=>rcases M with rfl|rfl<;>rcases N with rfl|rfl<;>simp [Jk,Ye,ZX,Ty.size]
       |5=>rcases M with rfl|rfl<;>rcases N with rfl|rfl<;>simp [Jk,Ye,ZX,Ty.size]
       |n+6=>rcases M with rfl|rfl<;>rcases N with rfl|rfl<;>simp [Jk,Ye,ZX]
      rw[h]at e
      cases hb:ZX B [f] with
      |none=>rw[hb]at e;simp at e
      |some s=>rw[hb]at e;simp only[Vi,ZL]at e;exact⟨s.2,by rw[e]⟩
     exact Z t (g.ty id) (l.imp Eq.symm Eq.symm) d r O
    |cons i p=>
     simp only[Ve,Ki]at l;obtain⟨hi,l⟩:=l;have hi:i<3:=by simpa using hi
     have e2:Hx (g.ty id) (i::p)=Hx (Jk tn tq lt lb) (i::p):=by
      rcases d with d|d
      ·rw[d]
      ·rw[d]
       match i,hi with
       |0,_=>simp [Jk,Ye,Hx]
       |1,_=>simp [Jk,Ye,Hx]
       |2,_=>simp [Jk,Ye,Hx]
     rw[e2,l]at e1;obtain rfl:=KO e1;exact⟨r.2,Zdl (i::p) _ [f] _ _ _ _ j O⟩
   obtain⟨u,hu⟩:=V;exact⟨J,z+r.1,u,b,hu,C,rfl⟩
  ·simp [Zb]at h
 ·rename_i id i p K;rw[Z3]at h;split at h
  ·rename_i t0 xs S;simp only[ZA,ZO,Zj,Zb,ZU,Ka,Ki,Vc]at h;obtain⟨q,l,rfl,⟨rfl,rfl⟩,_⟩:=h;obtain⟨J,z,t1,b,j,C,D⟩:=(K▸Y).vp;obtain⟨_,d,_⟩:=G.objs id _ S;have a4:=l;rw[d,l]at j;cases j;refine Zu.pure G (key D) (KN ?_ rfl rfl);simp only[CV];exact⟨J,z+r.1,r.2,b,by rw[d];exact Zdl p t0 [f] _ _ _ _ l O,C,by grind⟩
  ·simp [Zb]at h
 ·rename_i id ver kt k i p K;simp only[ZA,Z2,ZO,Zj,Zb,ZU,Ka,Ki,Vc]at h;obtain⟨s,m,U,q,l,rfl,⟨rfl,rfl⟩,_⟩:=h;obtain⟨J,hv,ad,j,C⟩:=(K▸Y).np;obtain⟨_,d,X,_⟩:=Zd6 G J U;obtain⟨b,len,cap,z,t1,D,L,R⟩:=C X;rw[d]at L R;simp only[Re]at L R;rw[l]at L;cases L;subst R;refine Zu.pure G (key j) (KN ?_ rfl rfl);simp only[CV];refine⟨J,hv,_,rfl,λ_=>⟨b,len,cap,z+r.1,r.2,D,?_,?_⟩⟩
  ·rw[d];exact Zdl p s.1 [f] _ _ _ _ l O
  ·rw[d];simp only[Re];grind
 ·simp [Zb]at h
theorem R6{T:TypeId}{t:Ty}(d:Jo P E.ty T t){cs:Array Value}{pre c post:List Value}(b:cs.toList=pre++c++post)(h:c.length=t.size)(e:t.agg=Ud->∃v,c=[v]):
 (part T cs pre.length).run P w=.ok (G5 t.agg c) w:=by
 simp [part,Vb,d.run_isAgg]
 cases f:t.agg with
 |true=>
  simp only[if_true,Vb,d.run_sizeOf,Va,Vd,G5];congr 2;apply Array.ext'
  simp_all
 |false=>
  obtain⟨u,rfl⟩:=e f;have:cs[pre.length]? =Ua u:=by rw[<-Array.getElem?_toList,b,Vha,Vdb (by omega)];simp
  simp [this,G5]
theorem GQ{x:AV}{val:Value}(h:Ku w g x val)(d:x.isAgg=Uc)(e:x≠ .junk):∃cs,val=.agg cs/\CV w g x cs.toList:=by
 have ⟨c,b⟩:=h;rcases b with b|b
 ·grind
 ·rw[d]at b;cases val<;>simp [Kd]at b
  exact⟨_,rfl,c⟩
theorem Zp3{T f:Nat}{x:Operand}(q:Z4 P E)(G:RH B H w g ow)(hF:Fr w g F a.tmps)(s:o.op=.field T x f)
 (h:(ZS E nid o.op o.type (Zz F)).run H []=Ua ((v,patch),rd)):Zu B (Zs H patch) w g nid v ((execOp a.eval o).run P w):=by
 rw[s]at h;simp only[ZS,ZA,ZO,Zb,ZU,false_or,Ka,Vaa,Vh,Z2,Zj,Vc,Ve]at h;obtain⟨t,M,r,u,⟨⟨c,d⟩,b⟩,O,m,L,⟨U,l⟩,⟨rfl,rfl⟩,_⟩:=h;obtain⟨Q,fd,z,A,R,C,_⟩:=ZeT (q.ty T t M) u (ZlR c);obtain⟨cs,K,J⟩:=GQ ((hF.eval x).to1 (ZbJ d).2) (by rw[ZeW d b,ZtJ c]) (ZbJ d).1;obtain⟨_,N,y,⟨V,pre,post,n,D,S⟩,k,p⟩:=Ze3 L d J;rw[u]at n;cases n;obtain⟨e,i⟩:=Zcv p k (ZeW k l);refine Zu.pure G ?_ (VR.of1 e);have j:fd.offset=pre.length:=by omega
 simp only[execOp,s,Vb,Instr.field,underlying,run_program,Va,z,Vd,A,K,asAgg,j,R6 (q.ty _ _ C) D (CV.length O N y k p) i]
theorem Js{T:TypeId}{t:Ty}(f:Z4 P E)(h:E.ty T=Ua (.sl t)):∃c,P.underlying T=Ua (.slice c)/\E.ty c=Ua t:=by
 have b:=(f.ty T _ h).shape
 cases e:P.underlying T with
 |none=>rw[e]at b;simp [Ke]at b
 |some d=>rw[e]at b;cases d<;>simp [Ke]at b;grind
theorem ZcD{T:TypeId}{t:Ty}{n:Nat}(f:Z4 P E)(h:E.ty T=Ua (.arr n t)):∃c,P.underlying T=Ua (.array n c)/\E.ty c=Ua t:=by
 have b:=(f.ty T _ h).shape
 cases e:P.underlying T with
 |none=>rw[e]at b;simp [Ke]at b
 |some d=>rw[e]at b;cases d<;>simp [Ke]at b;grind
theorem ZaZ{T c:TypeId}{t:Ty}{b d len cap:Nat}{k:IntKind}{n:Int}(i:Z4 P E)(f:P.underlying T=Ua (.slice c))(h:E.ty c=Ua t)(e:0<=n)(j:n<len):
 (Vgb T (.slice (Ua ⟨b,d,Ub⟩) len cap) (.int k n)).run P w=.ok (.pointer (Ua ⟨b,d+n.toNat*t.size,Ub⟩)) w:=by
 simp [Vgb,asIntOf,underlying,Vb,run_program,Va,f,Vd,e,j,and_self,if_true,(i.ty _ _ h).run_sizeOf,Dt]
theorem ZnW{T c:TypeId}{t:Ty}{b d m:Nat}{k:IntKind}{n:Int}(i:Z4 P E)(f:P.underlying T=Ua (.array m c))(h:E.ty c=Ua t)(e:0<=n)(j:n<m):
 (Vgb T (.pointer (Ua ⟨b,d,Ub⟩)) (.int k n)).run P w=.ok (.pointer (Ua ⟨b,d+n.toNat*t.size,Ub⟩)) w:=by
 simp [Vgb,asIntOf,underlying,Vtc,Vb,run_program,Va,f,Vd,e,j,and_self,if_true,(i.ty _ _ h).run_sizeOf,Dt]
theorem ZhE{I:Nat->Prop}{t:Ty}{xs:List (El t)}{css:List (List Value)}{b off:Nat}(h:Fa (Rd w I t) xs css)(d:KB w b off css.flatten){i:Nat}{y:El t}(j:xs[i]? =Ua y):
 ∃c,Rd w I t y c/\KB w b (off+i*t.size) c:=by
 have ⟨c,e,f⟩:=h.get i y j;have ⟨k,l,_⟩:=RT e t.size (Rd.all_length h);refine⟨c,f,?_⟩;rw[k]at d;rw[<-l];exact d.sub
theorem Zga{id:Nat}{t:Ty}{xs:List (El t)}{val:Value}(h:RH B H w g ow)(f:H id=Ua (.dat t xs))(c:VR w g (.vw id) val):VR w g (.d (.sl t) xs) val:=by
 have ⟨_,_,i⟩:=h.objs id _ f;have e:=(c.to1 (by simp)).1;simp [CV]at e;rw[<-c.vw.2]at i;have b:val.oneCell' =true:=by rw[c.vw.2];grind
 exact KN (by assumption) b rfl
theorem Zp5{T:Nat}{x i:Operand}(C:Z4 P E)(L:RH B H w g ow)(hF:Fr w g F a.tmps)(X:o.op=.indexAddr T x i)
 (h:(ZS E nid o.op o.type (Zz F)).run H []=Ua ((v,patch),rd)):Zu B (Zs H patch) w g nid v ((execOp a.eval o).run P w):=by
 rw[X]at h;simp only[ZS,ZA]at h;obtain⟨T',s,h⟩:=h;have Y:=hF.eval x;have Z:=hF.eval i;split at h
 ·rename_i t xs k n d f;simp only[ZO,ZA,Zj,Zb,ZU,Ka,Ki,Vc]at h;obtain⟨rfl,y,hy,⟨rfl,rfl⟩,_⟩:=h;obtain⟨G,Q,D⟩:=Zc5 hy;obtain⟨Et,J,K⟩:=Js C s;obtain⟨ad,cap,M,A,h4,R,_⟩:=(d▸Y).sl;obtain⟨b,off,rfl,h6,S⟩:=R (by grind);obtain⟨c,h8,h9⟩:=ZhE h4 S Q;refine Zu.pure (val:=.pointer (Ua ⟨b,off+n.toNat*t.size,Ub⟩)) L ?_ (KN ?_ rfl rfl)
  ·simp only[execOp,X,A,(f▸Z).int,Vb,ZaZ C J K G D,Va,Vd]
  ·simp only[CV];grind
 ·rename_i id k n d f;rw[Z3]at h;split at h
  ·rename_i t xs U;simp only[ZO,ZA,Zj,Zb,ZU,Ka,Ki,Vc]at h;obtain⟨rfl,j,V,⟨rfl,rfl⟩,_⟩:=h;obtain⟨G,D,rfl⟩:=ZaD V;obtain⟨Et,J,K⟩:=Js C s;obtain⟨W,z⟩:=(d▸Y).vw;obtain⟨_,l,hO⟩:=L.objs id _ U;rcases hO with ⟨rfl,_⟩|⟨b,cap,cs,e,M,hb,hJ,hs,hh,hl,N,a1,O⟩
   ·grind
   refine Zu.pure (val:=.pointer (Ua ⟨b,0+n.toNat*t.size,Ub⟩)) L ?_ (KN ?_ rfl rfl)
   ·simp only[execOp,X,z,hs,(f▸Z).int,Vb,ZaZ C J K G D,Va,Vd]
   ·simp only[CV];exact⟨W,0,t,b,by rw[l,WR],hb,by grind⟩
  ·rename_i t xs u a5 U;simp only[ZO,ZA,Zj,Zb,ZU,Ka,Ki,Vc]at h;obtain⟨rfl,j,V,⟨rfl,rfl⟩,_⟩:=h;obtain⟨G,D,rfl⟩:=ZaD V;obtain⟨Et,J,K⟩:=Js C s;obtain⟨W,z⟩:=(d▸Y).vw;obtain⟨_,l,_,_,hO⟩:=L.objs id _ U;rcases hO with ⟨rfl,_⟩|⟨b,cap,cs,e,hb,hJ,hs,hh,hl,N,O⟩
   ·grind
   refine Zu.pure (val:=.pointer (Ua ⟨b,0+n.toNat* (Ty.sl t).size,Ub⟩)) L ?_ (KN ?_ rfl rfl)
   ·simp only[execOp,X,z,hs,(f▸Z).int,Vb,ZaZ C J K G D,Va,Vd]
   ·simp only[CV];exact⟨W,0,.sl t,b,by rw[l,WR],hb,by grind⟩
  ·rename_i t xs U;simp only[ZO,ZA,Zj,Zb,ZU,Ka,Ki,Vc]at h;obtain⟨rfl,y,hy,⟨rfl,rfl⟩,_⟩:=h;obtain⟨G,Q,D⟩:=Zc5 hy;obtain⟨Et,J,K⟩:=Js C s;obtain⟨ad,cap,M,A,h4,R,_⟩:=(Zga L U (d▸Y)).sl;obtain⟨b,off,rfl,h6,S⟩:=R (by grind);obtain⟨c,h8,h9⟩:=ZhE h4 S Q;refine Zu.pure (val:=.pointer (Ua ⟨b,off+n.toNat*t.size,Ub⟩)) L ?_ (KN ?_ rfl rfl)
   ·simp only[execOp,X,A,(f▸Z).int,Vb,ZaZ C J K G D,Va,Vd]
   ·simp only[CV];grind
  ·simp [Zb]at h
 ·rename_i id ver kt k k2 n d f;simp only[Z2,ZO,ZA,Zj,Zb,ZU,Ka,Ki,Vc]at h;obtain⟨r,m,a0,rfl,j,V,⟨rfl,rfl⟩,_⟩:=h;obtain⟨G,D,rfl⟩:=ZaD V;obtain⟨Et,J,K⟩:=Js C s;obtain⟨W,hv,_,_⟩:=(d▸Y).nw;obtain⟨_,l,a6,a9,a2⟩:=Zbd L (d▸Y) a0;rcases a2 with ⟨A,_⟩|⟨b,cap,cs,e,M,A,hJ,hh,hl,N,a1,O⟩
  ·grind
  refine Zu.pure (val:=.pointer (Ua ⟨b,0+n.toNat*r.1.size,Ub⟩)) L ?_ (KN ?_ rfl rfl)
  ·simp only[execOp,X,A,(f▸Z).int,Vb,ZaZ C J K G D,Va,Vd]
  ·simp only[CV];refine⟨W,hv,_,rfl,λ_=>⟨b,r.2.length,cap,0,r.1,by grind,by rw[l,WR];rfl,by rw[l];simp [Re]⟩⟩
 ·rename_i id lo m k n d f;rw[Z3]at h;split at h
  ·rename_i t xs U;simp only[ZO,ZA,Zj,Zb,ZU,Ka,Ki,Vc]at h;obtain⟨rfl,_,a8,j,V,⟨rfl,rfl⟩,_⟩:=h;obtain⟨G,D,rfl⟩:=ZaD V;obtain⟨Et,J,K⟩:=Js C s;obtain⟨W,z⟩:=(d▸Y).vs;obtain⟨_,l,hO⟩:=L.objs id _ U;rcases hO with ⟨rfl,hb,hs⟩|⟨b,cap,cs,e,M,hb,hJ,hs,hh,hl,N,a1,O⟩
   ·exfalso;rw[hs]at z;rcases z with ⟨_,_,rfl,_⟩|⟨b,len,cap,m',A,_⟩
    all_goals grind
   rw[hs,l]at z;rcases z with ⟨A,_⟩|⟨b',len,a3,m',A,h4,R,h6,S⟩
   ·omega
   injection A with A a7 a4;injection A with A;cases A;have hm:m' ≠0:=by omega
   rw[Zg hm]at S;have he:a.eval x=.slice (Ua ⟨b,lo*t.size,Ub⟩) m m' :=by grind
   refine Zu.pure (val:=.pointer (Ua ⟨b,lo*t.size+n.toNat*t.size,Ub⟩)) L ?_ (KN ?_ rfl rfl)
   ·simp only[execOp,X,he,(f▸Z).int,Vb,ZaZ C J K G D,Va,Vd]
   ·simp only[CV];exact⟨W,0,t,b,by rw[l,WR],hb,by grind⟩
  ·simp [Zb]at h
 ·rename_i m t xs k n d f;simp only[ZO,ZA,Zj,Zb,ZU,Ka,Ki,Vc]at h;obtain⟨rfl,y,hy,⟨rfl,rfl⟩,_⟩:=h;obtain⟨G,Q,D⟩:=Zc5 hy;obtain⟨Et,J,K⟩:=ZcD C s;obtain⟨b,off,c,A,h4,R,h6,M,rfl,S⟩:=(d▸Y).dp;rw[h6]at D;obtain⟨c,h8,h9⟩:=ZhE S R Q;refine Zu.pure (val:=.pointer (Ua ⟨b,off+n.toNat*t.size,Ub⟩)) L ?_ (KN ?_ rfl rfl)
  ·simp only[execOp,X,A,(f▸Z).int,Vb,ZnW C J K G D,Va,Vd]
  ·simp only[CV];grind
 ·rename_i id p k n d f;rw[Z3]at h;split at h
  ·rename_i t0 c U;simp only[ZA]at h;obtain⟨q,hq,h⟩:=h;split at h
   ·rename_i m t hm;simp only[ZO,ZA,Zj,Zb,ZU,Ka,Ki,Vc]at h;obtain⟨rfl,j,V,⟨rfl,rfl⟩,_⟩:=h;obtain⟨G,D,rfl⟩:=ZaD V;obtain⟨Et,J,K⟩:=ZcD C s;obtain⟨W,o',t1,b,R,h6,S⟩:=(d▸Y).ptr;obtain⟨_,l,_⟩:=L.objs id _ U;rw[l,hq]at R;cases R;simp only at hm;subst hm;refine Zu.pure (val:=.pointer (Ua ⟨b,o' +n.toNat*t.size,Ub⟩)) L ?_ (KN ?_ rfl rfl)
    ·simp only[execOp,X,S,(f▸Z).int,Vb,ZnW C J K G D,Va,Vd]
    ·simp only[CV];refine⟨W,o' +n.toNat*t.size,t,b,?_,h6,rfl⟩;rw[l];have:ZX (.arr m t) [n.toNat]=Ua (n.toNat*t.size,t):=by simp only[ZX];grind
     exact Zdl p t0 [n.toNat] _ _ _ _ hq this
   ·simp [Zb]at h
  ·simp [Zb]at h
 ·simp [Zb]at h
theorem Zp4{T:Nat}{x i:Operand}(p:Z4 P E)(L:RH B H w g ow)(hF:Fr w g F a.tmps)(D:o.op=.index T x i)
 (h:(ZS E nid o.op o.type (Zz F)).run H []=Ua ((v,patch),rd)):Zu B (Zs H patch) w g nid v ((execOp a.eval o).run P w):=by
 rw[D]at h;simp only[ZS,ZA]at h;obtain⟨T',j,h⟩:=h;have O:=hF.eval x;have M:=hF.eval i;split at h
 ·rename_i m t xs k n e b;simp only[ZO,ZA,Zj,Zb,ZU,Ka,Ki,Vc,Ve]at h;obtain⟨⟨rfl,Y⟩,y,G,⟨rfl,rfl⟩,_⟩:=h;obtain⟨s,l,C⟩:=Zc5 G;obtain⟨Et,Q,J⟩:=ZcD p j;obtain⟨cs,W,V⟩:=GQ (e▸O) rfl (by simp);obtain⟨R,f,h7,K⟩:=V;rw[R]at C;obtain⟨c,S,u⟩:=K.get _ y l;obtain⟨s1,s2,_⟩:=RT S t.size (Rd.all_length K);obtain⟨z,A⟩:=Zcv (w:=w) (g:=g) (a:=.d t y) (t:=t) (by assumption) (by simp [AV.fits]) rfl;refine Zu.pure L ?_ (VR.of1 z);have N:=R6 (w:=w) (p.ty _ _ J) (cs:=cs) (pre:=(f.take n.toNat).flatten) (c:=c) (post:=(f.drop (n.toNat+1)).flatten) (by grind) (Rd.length t y c u) A;rw[s2]at N;simp only[execOp,D,W,(b▸M).int,Vdd,asIntOf,underlying,Vb,run_program,Va,Q,Vd,s,C,and_self,if_true,(p.ty _ _ J).run_sizeOf,N]
 ·rename_i xs k n e b;simp only[ZO,ZA,Zj,Zb,ZU,Ka,Ki,Vc]at h;obtain⟨rfl,y,G,⟨rfl,rfl⟩,_⟩:=h;obtain⟨s,l,C⟩:=Zc5 G;have r:P.underlying T=Ua .string:=by
   have q:=(p.ty T _ j).shape
   cases r:P.underlying T with
   |none=>rw[r]at q;simp [Ke]at q
   |some d=>rw[r]at q;cases d<;>simp [Ke]at q;rfl
  refine Zu.pure L ?_ (J1 _ _);have U:(⟨xs.toArray⟩:ByteArray)[n.toNat]? =Ua y:=by
   have X:n.toNat<xs.length:=by omega
   have Z:xs[n.toNat]=y:=by grind
   rw[getElem?_pos (⟨xs.toArray⟩:ByteArray) n.toNat (by assumption)];congr 1
  simp only[execOp,D,(e▸O).str,(b▸M).int,Vdd,asIntOf,underlying,Vb,run_program,Va,r,Vd,s,if_true,U]
 ·simp [Zb]at h
end ops
end Tr
end
section
namespace Tr
open Go
theorem Ty.depth_pos(t:Ty):1<=t.dep:=by
 induction t with
 |prod a b _ d=>simp [Ty.dep];omega
 |arr n t c=>simp only[Ty.dep];omega
 |sl t c=>simp only[Ty.dep];omega
 |_=>simp [Ty.dep]
section
variable {P:Program}{E:Z9}{w:World}{g:Gh}
theorem Zf0(l:List UInt8):(⟨l.toArray⟩:ByteArray).toList=l:=by rw[ByteArray.toList_eq]
theorem Zlm{T f:Nat}{t:Ty}{e:Array Field}(h:Jo P E.ty T t)(k:P.underlying T=Ua (.struct e))(d:f<e.size):∃r,ZX t [f]=Ua r:=by
 have c:=h.shape;rw[k]at c
 cases t with
 |prod a b=>
  simp [Ke,Ve,Vjb,Vvb]at c;have i:=c.1.1 f d;rw[Vma d]at i
  cases j:ZX (.prod a b) [f] with
  |none=>simp [j]at i
  |some r=>exact⟨r,rfl⟩
 |unit=>
  simp only[Ke,Array.isEmpty_iff]at c;subst c
  simp at d
 |_=>simp [Ke]at c
theorem ZbQ{t:Ty}{x:El t}{c:List Value}(h:Rd w g.I t x c):Ku w g (.d t x) (G5 t.agg c)/\(t.agg=Ud->∃v,c=[v]):=
 Zcv (by simpa only[CV] using h) (by simp [AV.fits]) rfl
theorem ZnT(hT:Z4 P E):∀(N:Nat) (t:Ty) (T:TypeId) (x y:El t) (vx vy:Value) (r:Bool) (d:Nat),sizeOf t<N->E.ty T=Ua t->t.dep<=d->eqEl t x y=Ua r->
 Ku w g (.d t x) vx->Ku w g (.d t y) vy->(Op.equalIn d T vx vy).run P w=.ok r w:=by
 intro N
 induction N with
 |zero=>intro t T x y vx vy r d h;omega
 |succ N ih=>
 intro t T x y vx vy r d hN ht hd c hx hy;obtain⟨d,rfl⟩:∃d',d=d' +1:=⟨d - 1,by have:=t.depth_pos;omega⟩;have s:=hT.ty T t ht
 cases t with
 |int k=>
  have l:P.underlying T=Ua (.int k):=by
   have j:=s.shape
   cases l:P.underlying T with
   |none=>rw[l]at j;simp [Ke]at j
   |some d=>rw[l]at j;cases d<;>simp [Ke]at j;rw[j]
  rw[(VR.of1 hx).int,(VR.of1 hy).int,run_equalIn_int w d T k k x y l];simp only[eqEl,ZL]at c
  subst c;rfl
 |bool=>
  have l:P.underlying T=Ua .bool:=by
   have j:=s.shape
   cases l:P.underlying T with
   |none=>rw[l]at j;simp [Ke]at j
   |some d=>rw[l]at j;cases d<;>simp [Ke]at j;rfl
  rw[(VR.of1 hx).bool,(VR.of1 hy).bool,run_equalIn_bool' w d T x y l];simp only[eqEl,ZL]at c
  subst c;rfl
 |str=>
  have l:P.underlying T=Ua .string:=by
   have j:=s.shape
   cases l:P.underlying T with
   |none=>rw[l]at j;simp [Ke]at j
   |some d=>rw[l]at j;cases d<;>simp [Ke]at j;rfl
  rw[(VR.of1 hx).str,(VR.of1 hy).str,run_equalIn_string w d T _ _ l,Zf0,Zf0];simp only[eqEl,ZL]at c;subst c;congr 1
  rw[Vmc];simp
 |sl t=>simp [eqEl]at c
 |ref=>simp [eqEl]at c
 |pt t=>simp [eqEl]at c
 |lk a b=>simp [eqEl]at c
 |pn t=>simp [eqEl]at c
 |arr n e=>
  obtain⟨Et,l,he⟩:=ZcD hT ht;obtain⟨xs,rfl,J⟩:=GQ hx rfl (by simp);obtain⟨X,rfl,K⟩:=GQ hy rfl (by simp);simp only[CV]at J K;obtain⟨b8,a7,h1,h2⟩:=J;obtain⟨d0,a8,h3,h4⟩:=K;obtain⟨i,z,hi,b2,_⟩:=(hT.ty Et e he).info;have Y:P.cellsOf Et=e.size:=by simp [Program.cellsOf,hi,b2]
  rw[run_equalIn_array w d xs X l hi,Y];simp only[eqEl]at c;have key:∀(m k:Nat) (Z ly:List (El e)) (cx G:List (List Value)) (L M:List Value) (r:Bool),m=Z.length->eqEl.eqs (eqEl e) Z ly=Ua r->Fa (Rd w g.I e) Z cx->Fa (Rd w g.I e) ly G->
   xs.toList=L++cx.flatten->X.toList=M++G.flatten->L.length=k*e.size->M.length=k*e.size->
   (Op.eqItems d Et e.size xs X (List.range' k m)).run P w=.ok r w:=by
   intro m
   induction m with
   |zero=>
    intro k Z ly cx G L M r hm W R S _ _ _ _;have:Z=[]:=List.length_eq_zero_iff.1 hm.symm;subst this
    cases ly with
    |nil=>simp only[eqEl.eqs,ZL]at W;subst W;rfl
    |cons _ _=>simp [eqEl.eqs]at W
   |succ m c8=>
    intro k Z ly cx G L M r hm W R S A C U V
    cases Z with
    |nil=>simp at hm
    |cons a Z=>
    cases ly with
    |nil=>simp [eqEl.eqs]at W
    |cons b ly=>
     simp only[eqEl.eqs,Vk]at W;obtain⟨p,hp,q,W,hr⟩:=W;simp only[ZL]at hr
     cases cx with
     |nil=>exact R.elim
     |cons ca cx=>
     cases G with
     |nil=>exact S.elim
     |cons cb G=>
      obtain⟨ha,R⟩:=R;obtain⟨hb,S⟩:=S;obtain⟨v1,v2⟩:=ZbQ (g:=g) ha;obtain⟨u1,u2⟩:=ZbQ (g:=g) hb;rw[Vsa,<-Vha]at A C;have e1:=R6 (w:=w) (hT.ty Et e he) A (Rd.length e a ca ha) v2;have e2:=R6 (w:=w) (hT.ty Et e he) C (Rd.length e b cb hb) u2;rw[U]at e1;rw[V]at e2;have e3:=ih e Et a b _ _ p d (by simp at hN;omega) he (by simp [Ty.dep]at hd;omega) hp v1 u1;simp only[Vhc,Op.eqItems,Vb,e1,e2,e3,Va,Vic,Vd]
      cases p with
      |false=>simp at hr;subst hr;rfl
      |true=>
       simp at hr;subst hr;have:=c8 (k+1) Z ly cx G (L++ca) (M++cb) q (by simp at hm;omega) W R S A C
        (by rw[Vn,U,Rd.length e a ca ha,Voa];omega) (by rw[Vn,V,Rd.length e b cb hb,Voa];omega)
       simpa using this
  rw[List.range_eq_range']
  exact key n 0 x y a7 a8 [] [] r b8.symm c h2 h4 h1 h3 (by simp) (by simp)
 |unit=>
  obtain⟨xs,rfl,J⟩:=GQ hx rfl (by simp);obtain⟨X,rfl,K⟩:=GQ hy rfl (by simp);have j:=s.shape
  cases l:P.underlying T with
  |none=>rw[l]at j;simp [Ke]at j
  |some dd=>
   rw[l]at j;cases dd<;>simp [Ke]at j
   have O:P.fieldsOf T= #[]:=by simp [Program.fieldsOf,l,j]
   rw[run_equalIn_struct w d T xs X (by rw[O,l,j]) s.stood,O];simp only[eqEl,ZL]at c
   subst c;rfl
 |prod a0 b0=>
  obtain⟨xs,rfl,J⟩:=GQ hx rfl (by simp);obtain⟨X,rfl,K⟩:=GQ hy rfl (by simp);simp only[CV]at J K;have j:=s.shape
  cases l:P.underlying T with
  |none=>rw[l]at j;simp [Ke]at j
  |some dd=>
   rw[l]at j
   cases dd with
   |struct fs=>
    have O:P.fieldsOf T=fs:=by simp [Program.fieldsOf,l]
    rw[run_equalIn_struct w d T xs X (by rw[O,l]) s.stood,O];have b6:b0.chain=true:=by simp only[Ke,Ve]at j;exact j.2
    have key:∀(u:Ty) (k base:Nat) (x y:El u) (L cx M G:List Value) (r:Bool),sizeOf u<=sizeOf (Ty.prod a0 b0)->u.chain=Uc->u.dep<=d+1->(∀f,ZX (.prod a0 b0) [k+f]=(ZX u [f]).map λq=>(q.1+base,q.2))->
     xs.toList=L++cx->X.toList=M++G->L.length=base->M.length=base->Rd w g.I u x cx->Rd w g.I u y G->eqEl u x y=Ua r->
     (Op.eqFields d xs X (fs.toList.drop k)).run P w=.ok r w:=by
     intro u
     induction u with
     |unit=>
      intro k base x y L cx M G r _ _ _ D _ _ _ _ _ _ c;have hk:fs.size<=k:=by
       rcases Vnb k fs.size with h|h
       ·obtain⟨r,hr⟩:=Zlm s l h;have:=D 0;rw[Vza,hr]at this;simp [ZX]at this
       ·exact h
      rw[Vua (by simpa using hk)];simp only[eqEl,ZL]at c
      subst c;rfl
     |prod a b _ c7=>
      intro k base x y L cx M G r b4 hc a1 D A C U V b9 c4 c;obtain⟨c1,c2,rfl,a5,c5⟩:=b9;obtain⟨e1,e2,rfl,a6,c6⟩:=c4;obtain⟨p,q,hp,W,rfl⟩:=Zk3 c;have h0:ZX (.prod a0 b0) [k]=Ua (base,a):=by have:=D 0;rw[Vza]at this;rw[this];simp only[ZX,WR,Vi,Vp]
      obtain⟨c9,fd,b5,a9,b1,Q,a3⟩:=ZeT s h0 (by intro n e;simp);rw[l]at b5;cases b5;have b3:k<fs.size:=(Veb.1 a9).1;have a2:fs.toList.drop k=fd::fs.toList.drop (k+1):=by rw[Vhb (by simpa using b3)];congr 1;have:=(Veb.1 a9).2;simpa using this
      obtain⟨v1,v2⟩:=ZbQ (g:=g) a5;obtain⟨u1,u2⟩:=ZbQ (g:=g) a6;rw[<-Vha]at A C;have r1:=R6 (w:=w) (hT.ty _ _ Q) A (Rd.length a _ c1 a5) v2;have r2:=R6 (w:=w) (hT.ty _ _ Q) C (Rd.length a _ e1 a6) u2;have a4:fd.offset=base:=b1;rw[U]at r1;rw[V]at r2;have r3:=ih a fd.type x.1 y.1 _ _ p d (by simp at hN b4;omega) Q (by simp only[Ty.dep]at a1;omega) hp v1 u1;rw[a2];simp only[Op.eqFields,a3,ne_eq,not_false_eq_true,if_true,a4,Vb,r1,r2,r3,Va,Vic,Vd]
      cases p with
      |false=>rfl
      |true=>
       have:=c7 (k+1) (base+a.size) x.2 y.2 (L++c1) c2 (M++e1) e2 q (by simp at b4⊢;omega) hc (by simp only[Ty.dep]at a1;omega)
        (λf=>by have:=D (f+1);rw[show k+1+f=k+(f+1) by omega,this];simp only[ZX,Vuc];congr 1;funext z;simp only[Function.comp];congr 1;omega) A C (by rw[Vn,U,Rd.length a _ c1 a5]) (by rw[Vn,V,Rd.length a _ e1 a6]) c5 c6 W
       simpa using this
     |_=>intro k base x y L cx M G r _ hc;simp [Ty.chain]at hc
    have b7:(Ty.prod a0 b0).dep<=d+1:=hd
    exact key (.prod a0 b0) 0 0 x y [] xs.toList [] X.toList r (Vf _) b6 b7 (λf=>by simp) rfl rfl rfl rfl J K c
   |_=>simp [Ke]at j
end
end Tr
end
section
namespace Tr
open Go
section
variable {P:Program}{E:Z9}{w:World}{g:Gh}
theorem ZsG{a b:Ty}{x y:El (.prod a b)}{p q:Bool}(c:eqEl a x.1 y.1=Ua p)(d:eqEl b x.2 y.2=Ua q):∃r,eqEl (.prod a b) x y=Ua r:=by
 cases b with
 |unit=>exact⟨p,c⟩
 |_=>
  refine⟨p&&q,?_⟩;show (eqEl a x.1 y.1).bind _=_;grind
theorem ZsI{I:Nat->Prop}:∀(t:Ty) (x y:El t) (cx i:List Value),t.key=Uc->Rd w I t x cx->Rd w I t y i->∃r,eqEl t x y=Ua r:=by
 intro t
 induction t with
 |int k=>intro x y _ _ _ _ _;exact⟨_,rfl⟩
 |bool=>intro x y _ _ _ _ _;exact⟨_,rfl⟩
 |str=>intro x y _ _ _ _ _;exact⟨_,rfl⟩
 |unit=>intro x y _ _ _ _ _;exact⟨_,rfl⟩
 |sl t _=>intro x y _ _ h;simp [Ty.key]at h
 |ref=>intro x y _ _ h;simp [Ty.key]at h
 |pt t _=>intro x y _ _ h;simp [Ty.key]at h
 |lk a b _ _=>intro x y _ _ h;simp [Ty.key]at h
 |pn t _=>intro x y _ _ h;simp [Ty.key]at h
 |prod a b J K=>
  intro x y cx i c D G;obtain⟨S,T,_,M,j⟩:=D;obtain⟨U,V,_,N,s⟩:=G;simp only[Ty.key,Ve]at c;obtain⟨p,A⟩:=J _ _ _ _ c.1 M N;obtain⟨q,C⟩:=K _ _ _ _ c.2 j s
  exact ZsG A C
 |arr n t R=>
  intro x y cx i c D G;obtain⟨M,e,_,j⟩:=D;obtain⟨N,f,_,s⟩:=G;simp only[Ty.key]at c;have key:∀(l m:List (El t)) (cl d:List (List Value)),l.length=m.length->Fa (Rd w I t) l cl->Fa (Rd w I t) m d->∃r,eqEl.eqs (eqEl t) l m=Ua r:=by
   intro l
   induction l with
   |nil=>intro m _ _ h _ _;cases m<;>simp at h;exact⟨Uc,rfl⟩
   |cons a l L=>
    intro m cl d h u z
    cases m with
    |nil=>grind
    |cons b m=>
     cases cl with
     |nil=>exact u.elim
     |cons O cl=>
     cases d with
     |nil=>exact z.elim
     |cons Q d=>
     obtain⟨p,A⟩:=R a b O Q c u.1 z.1;obtain⟨q,C⟩:=L m cl d (by grind) u.2 z.2;exact⟨p&&q,by simp [eqEl.eqs,A,C]⟩
  exact key x y e f (by omega) j s
theorem ZtU{I:Nat->Prop}:∀(t:Ty) (x:El t) (cx f:List Value),t.key=Uc->Rd w I t x cx->Rd w I t x f->cx=f:=by
 intro t
 induction t with
 |int k=>intro x cx f _ c d;exact c.trans d.symm
 |bool=>intro x cx f _ c d;exact c.trans d.symm
 |str=>intro x cx f _ c d;exact c.trans d.symm
 |unit=>intro x cx f _ c d;exact c.trans d.symm
 |sl t _=>intro x _ _ h;simp [Ty.key]at h
 |ref=>intro x _ _ h;simp [Ty.key]at h
 |pt t _=>intro x _ _ h;simp [Ty.key]at h
 |lk a b _ _=>intro x _ _ h;simp [Ty.key]at h
 |pn t _=>intro x _ _ h;simp [Ty.key]at h
 |prod a b z A=>
  intro x cx f i c d;obtain⟨C,D,rfl,s,u⟩:=c;obtain⟨G,J,rfl,K,L⟩:=d;simp only[Ty.key,Ve]at i
  grind
 |arr n t y=>
  intro x cx f i c d;obtain⟨_,q,rfl,s⟩:=c;obtain⟨_,r,rfl,u⟩:=d;simp only[Ty.key]at i;have key:∀(l:List (El t)) (cl e:List (List Value)),Fa (Rd w I t) l cl->Fa (Rd w I t) l e->cl=e:=by
   intro l
   induction l with
   |nil=>intro cl e c d;cases cl<;>cases e<;>simp [Fa]at c d⊢
   |cons a l j=>
    intro cl e c d
    cases cl with
    |nil=>exact c.elim
    |cons m cl=>
    cases e with
    |nil=>exact d.elim
    |cons p e=>rw[y a m p i c.1 d.1,j cl e c.2 d.2]
  grind
theorem ZlZ{t:Ty}{x:El t}{v u:Value}(h:t.key=Uc)(e:Ku w g (.d t x) v)(f:Ku w g (.d t x) u):v=u:=by
 obtain⟨b,i⟩:=e;obtain⟨c,j⟩:=f;simp only[CV]at b c;have l:=ZtU t x _ _ h b c;have k:Kd v=Kd u:=by grind
 cases v<;>cases u<;>simp_all [Vva,Kd]
theorem ZfF(Z:Z4 P E)(em:Bool):∀(N:Nat) (t:Ty) (T:TypeId) (x:El t) (v:Value) (n:Nat),sizeOf t<N->E.ty T=Ua t->t.key=Uc->t.dep<=n->Ku w g (.d t x) v->
 (Vs em n T v).run P w=.ok () w:=by
 intro N
 induction N with
 |zero=>omega
 |succ N ih=>
 intro t T x v n hN ht K hd V;obtain⟨n,rfl⟩:∃m,n=m+1:=⟨n - 1,by have:=t.depth_pos;omega⟩;have Q:=Z.ty T _ ht;have C:=Q.shape
 cases y:P.underlying T with
 |none=>rw[y]at C;cases t<;>simp [Ke]at C
 |some d=>
 rw[y]at C
 cases t with
 |sl t=>simp [Ty.key]at K
 |ref=>simp [Ty.key]at K
 |pt t=>simp [Ty.key]at K
 |lk a b=>simp [Ty.key]at K
 |pn t=>simp [Ty.key]at K
 |unit=>
  obtain⟨xs,rfl,l⟩:=GQ V rfl (by simp);cases d<;>simp [Ke]at C
  subst C
  simp [Vs,underlying,y]
 |prod a0 X=>
  obtain⟨xs,rfl,l⟩:=GQ V rfl (by simp);simp only[CV]at l
  cases d with
  |struct U=>
   have a2:X.chain=true:=by simp only[Ke,Ve]at C;grind
   simp only[Vs,underlying,Vb,run_program,Va,y,Vd];rw[<-Array.forIn_toList];have key:∀(u:Ty) (k base:Nat) (x:El u) (A cx:List Value),sizeOf u<=sizeOf (Ty.prod a0 X)->u.chain=Uc->u.key=Uc->u.dep<=n+1->(∀f,ZX (.prod a0 X) [k+f]=(ZX u [f]).map λq=>(q.1+base,q.2))->
    xs.toList=A++cx->A.length=base->Rd w g.I u x cx->
    (forIn (U.toList.drop k) PUnit.unit fun(f:Field) __s=>(if f.name≠ "_" then do
      let __do_lift<-part f.type xs f.offset
      Vs em n f.type __do_lift
      pure (ForInStep.yield PUnit.unit)
      else pure (ForInStep.yield PUnit.unit):Sem (ForInStep PUnit))).run P w=.ok PUnit.unit w:=by
    intro u
    induction u with
    |unit=>
     intro k base x A cx _ _ _ _ j _ _ _;have K:U.size<=k:=by
      rcases Vnb k U.size with h|h
      ·obtain⟨r,hr⟩:=Zlm Q y h;have:=j 0;rw[Vza,hr]at this;simp [ZX]at this
      omega
     rw[Vua (by omega)]
     rfl
    |prod a b _ a6=>
     intro k base x A cx b2 hc p G j c s a4;obtain⟨c1,c2,rfl,R,a5⟩:=a4;simp only[Ty.key,Ve]at p;have h0:ZX (.prod a0 X) [k]=Ua (base,a):=by have:=j 0;rw[Vza]at this;rw[this];simp only[ZX,WR,Vi,Vp]
     obtain⟨a9,fd,z,b1,a1,J,M⟩:=ZeT Q h0 (by simp);rw[y]at z;cases z;have a8:k<U.size:=by grind
     have L:U.toList.drop k=fd::U.toList.drop (k+1):=by rw[Vhb (by omega)];grind
     obtain⟨v1,v2⟩:=ZbQ (g:=g) R;rw[<-Vha]at c;have r1:=R6 (w:=w) (Z.ty _ _ J) c (Rd.length a _ c1 R) v2;have O:fd.offset=base:=a1;rw[s]at r1;have r3:=ih a fd.type x.1 _ n (by grind) J p.1 (by simp only[Ty.dep]at G;omega) v1;rw[L];simp only[Vnc,M,ne_eq,not_false_eq_true,if_true,O,Vb,r1,r3,Va,Vd];have:=a6 (k+1) (base+a.size) x.2 (A++c1) c2 (by grind) hc p.2 (by simp only[Ty.dep]at G;omega)
      (λf=>by have:=j (f+1);rw[show k+1+f=k+(f+1) by omega,this];simp only[ZX,Vuc];congr 1;grind) c (by rw[Vn,s,Rd.length a _ c1 R]) a5
     omega
    |_=>intro k base x A cx _ hc;simp [Ty.chain]at hc
   have:=key (.prod a0 X) 0 0 x [] xs.toList (Vf _) a2 K hd (by simp) rfl rfl l
   simp_all
  |_=>simp [Ke]at C
 |arr m e=>
  obtain⟨S,z,he⟩:=ZcD Z ht;rw[y]at z;cases z;obtain⟨xs,rfl,l⟩:=GQ V rfl (by simp);simp only[CV]at l;obtain⟨a3,Y,h1,h2⟩:=l;simp only[Vs,underlying,Vb,run_program,Va,y,Vd];simp only[Std.Legacy.Range.forIn_eq_forIn_range',Std.Legacy.Range.size,Nat.sub_zero,Nat.add_one_sub_one,Nat.div_one];have key:∀(m k:Nat) (W:List (El e)) (cx:List (List Value)) (A:List Value),m=W.length->Fa (Rd w g.I e) W cx->xs.toList=A++cx.flatten->A.length=k*e.size->
   (forIn (List.range' k m) PUnit.unit λ(i:Nat) __s=>(do
     let __do_lift<-Go.sizeOf S
     let __do_lift<-part S xs (i*__do_lift)
     Vs em n S __do_lift
     pure (ForInStep.yield PUnit.unit):Sem (ForInStep PUnit))).run P w=.ok PUnit.unit w:=by
   intro m
   induction m with
   |zero=>simp
   |succ m a7=>
    intro k W cx A hm D c s
    cases W with
    |nil=>grind
    |cons a W=>
    cases cx with
    |nil=>exact D.elim
    |cons ca cx=>
     obtain⟨ha,D⟩:=D;obtain⟨v1,v2⟩:=ZbQ (g:=g) ha;rw[Vsa,<-Vha]at c;have e1:=R6 (w:=w) (Z.ty S e he) c (Rd.length e a ca ha) v2;rw[s]at e1;have e3:=ih e S a _ n (by grind) he K (by simp [Ty.dep]at hd;omega) v1;simp only[Vhc,Vnc,Vb,(Z.ty S e he).run_sizeOf,e1,e3,Va,Vd];have:=a7 (k+1) W cx (A++ca) (by grind) D c (by rw[Vn,s,Rd.length e a ca ha,Voa];omega);omega
  have:=key m 0 x Y [] a3.symm h2 h1 (by simp)
  simp_all
 |int k=>
  cases d<;>simp [Ke]at C
  rw[(VR.of1 V).int]
  simp [Vs,underlying,y]
 |bool=>
  cases d<;>simp [Ke]at C
  rw[(VR.of1 V).bool]
  simp [Vs,underlying,y]
 |str=>
  cases d<;>simp [Ke]at C
  rw[(VR.of1 V).str];simp [Vs,underlying,y]
def Zgl{β:Type}(w:World)(g:Gh)(b:Ty)(m:List (El b×β))(es:List MapEntry):Prop:=Fa (λkv (e:MapEntry)=>Ku w g (.d b kv.1) e.key) m es
def Zo5(w:World)(g:Gh)(b c:Ty)(m:List (El b×El c))(es:List MapEntry):Prop:=Fa (λkv (e:MapEntry)=>Ku w g (.d b kv.1) e.key/\Ku w g (.d c kv.2) e.val) m es
theorem ZnU(n:Z4 P E){K:TypeId}{b:Ty}{β:Type}(l:E.ty K=Ua b)(f:b.keyOk=Uc){x:El b}{v:Value}(h:Ku w g (.d b x) v):∀(m:List (El b×β)) (es:List MapEntry) (i:Nat),Zgl w g b m es->
 (Vkb K v es i).run P w=.ok ((JL (Zr b) x m).map λj=>(i+j,((es[j]?).map (·.val)).getD undef)) w
 |[],[],i,_=>rfl
 |kv::m,e::es,i,⟨k,s⟩=>by
  simp only[Ty.keyOk,Ve]at f;have c:b.dep<=10000:=by have:=Vj f.2;omega
  obtain⟨r,p⟩:=ZsI b x kv.1 _ _ f.1 (by simpa only[CV] using h.1) (by simpa only[CV] using k.1);have q:=ZnT (w:=w) (g:=g) n _ b K x kv.1 v e.key r 10000 (Vba _) l c p h k;have t:Zr b x kv.1=r:=by simp [Zr,p]
  simp only[Vkb,Op.equal,Op.maxDepth,Vb,q,Va,Vic,Vd,JL,t]
  cases r with
  |true=>simp
  |false=>
   simp only[Vda,if_false,Ze];rw[ZnU n l (by simp [Ty.keyOk,f]) h m es (i+1) s]
   cases JL (Zr b) x m with
   |none=>rfl
   |some j=>grind
theorem ZfG(u:Z4 P E){K:TypeId}{c:Ty}{β:Type}(t:E.ty K=Ua c)(G:c.keyOk=Uc){x:El c}{v:Value}(n:Ku w g (.d c x) v)(m:List (El c×β))(es:List MapEntry)(h:Zgl w g c m es):
 (Vxc K v es).run P w=.ok ((JL (Zr c) x m).map λj=>(j,((es[j]?).map (·.val)).getD undef)) w:=by
 obtain⟨d,z⟩:=(u.ty K c t).und;have s:=(u.ty K c t).shape;rw[z]at s;have p:=ZnU u t G n m es 0 h;simp only[Vp]at p;simp only[Vxc,underlying,Vb,run_program,Va,z,Vd];have now:∀(f:Value->Value->Option Bool) (_:∀e:MapEntry,Vxb d v e.key=f v e.key) (m:List (El c×β)) (es:List MapEntry) (i:Nat),Zgl w g c m es->
  (∀kv e,Ku w g (.d c kv) e->f v e=Ua (Zr c x kv))->Vib d v es i=Ua ((JL (Zr c) x m).map λj=>(i+j,((es[j]?).map (·.val)).getD undef)):=by
  intro f D m
  induction m with
  |nil=>intro es i h _;cases es with
   |nil=>rfl
   |cons _ _=>exact h.elim
  |cons kv m L=>
   intro es i h l
   cases es with
   |nil=>exact h.elim
   |cons e es=>
    obtain⟨A,C⟩:=h;simp only[Vib,D e,l kv.1 e.key A,JL]
    cases Zr c x kv.1 with
    |true=>simp
    |false=>
     simp only[Ze,L es (i+1) C l]
     cases JL (Zr c) x m with
     |none=>rfl
     |some j=>grind
 have other:(∀e:MapEntry,e∈es->Vxb d v e.key=Ub)->(match Vib d v es 0 with|some r=>pure r|none=>Vkb K v es:Sem _).run P w=
  .ok ((JL (Zr c) x m).map λj=>(j,((es[j]?).map (·.val)).getD undef)) w:=by
  intro J
  cases es with
  |nil=>
   assumption
  |cons e es=>
   simp only[Vib,J e (by simp)];omega
 cases c with
 |int k=>
  cases d<;>simp [Ke]at s
  have y:=now (λa b=>match a,b with|.int k a,.int M b=>if k=M then Ua (a==b) else Ub|_,_=>Ub) (λe=>by rw[(VR.of1 n).int];cases e.key<;>rfl) m es 0 h (λkv e q=>by rw[(VR.of1 n).int,(VR.of1 q).int];simp only[if_true,Zr,eqEl,Vu];rfl)
  simp_all
 |bool=>
  cases d<;>simp [Ke]at s
  have y:=now (λa b=>match a,b with|.bool a,.bool b=>Ua (a==b) |_,_=>Ub) (λe=>by rw[(VR.of1 n).bool];cases e.key<;>rfl) m es 0 h (λkv e q=>by rw[(VR.of1 n).bool,(VR.of1 q).bool];rfl)
  simp_all
 |str=>
  cases d<;>simp [Ke]at s
  have y:=now (λa b=>match a,b with|.string a,.string b=>Ua (a==b) |_,_=>Ub) (λe=>by rw[(VR.of1 n).str];cases e.key<;>rfl) m es 0 h (λkv e q=>by rw[(VR.of1 n).str,(VR.of1 q).str];simp only[Zr,eqEl,Vu,beq_toListBytes,Zf0];grind)
  simp_all
 |_=>
  refine other λe _=>?_;cases d<;>simp [Ke]at s<;>simp [Vxb]
end
end Tr
end
section
namespace Tr
open Go
section ops
variable {P:Program}{E:Z9}{B:Z1}{H:AH}{w:World}{g:Gh}{ow:Nat->Nat->Prop}{nid:Nat}{a:Act}{F:Nat->AV}{v:AV}{patch:KF}{rd:List Nat}{o:Oper}
theorem ZnZ{T K V:TypeId}{r:Option Operand}(hF:Fr w g F a.tmps)(f:P.underlying T=Ua (.map K V))(c:(match r with|none=>Uc|some x=>(KW (Zz F x)).isSome)=Uc)(d:o.op=.makeMap T r):
 (execOp a.eval o).run P w=.ok (.value (.map (Ua w.heap.size))) (w.alloc (.map #[] 0)):=by
 cases r with
 |none=>simp [execOp,d,run_newObj];rfl
 |some x=>
  have e:=hF.eval x;simp at c;cases b:Zz F x<;>rw[b]at c<;>simp [KW]at c
  rename_i t y;cases t<;>simp at c
  rw[b]at e;simp [execOp,d,Vb,Instr.makeMap,Vi,underlying,run_program,f,Va,e.int,asIntOf];rfl
theorem Zp9{T:TypeId}{r:Option Operand}(n:Z4 P E)(f:RH B H w g ow)(hF:Fr w g F a.tmps)(j:∀id,g.K id->id<nid\/nid+Wu<=id)(c:o.op=.makeMap T r)
 (h:(ZS E nid o.op o.type (Zz F)).run H []=Ua ((v,patch),rd)):Zu B (Zs H patch) w g nid v ((execOp a.eval o).run P w):=by
 rw[c]at h;simp only[ZS,ZA,ZO]at h;obtain⟨m,p,h⟩:=h;obtain⟨K,V,l,q,s⟩:=n.mty T m p;rcases h with ⟨_,h⟩|⟨_,h⟩
 ·split at h
  ·rename_i u t;simp only[ZO,Zb,ZU,Ka,Ve]at h;obtain⟨⟨b,d⟩,⟨rfl,rfl⟩,_⟩:=h;refine Zu.new (t:=.sl t) (sv:=undef) f j (ZnZ hF l d c) ?_ ?_
   ·refine⟨by simp [Gh.add],by simp [Gh.add],⟨by simp,by simp,by simp⟩,by simp,λk _=>by simp [Gh.add],w.heap.size, #[],0,by simp [Gh.add],rfl,D1 _ _,⟨rfl,λi e h=>by simp at h⟩,trivial⟩
   ·refine KN ?_ rfl rfl;exact⟨.inl rfl,w.heap.size,by simp [Gh.add],rfl⟩
  ·simp [Zb]at h
 simp only[Zb,ZU,Ka,Ve]at h;obtain⟨⟨b,d⟩,⟨rfl,rfl⟩,_⟩:=h;refine Zu.new (t:=.unit) (sv:=undef) f j (ZnZ hF l d c) ?_ ?_
 ·exact⟨w.heap.size, #[],0,by simp [Gh.add],rfl,D1 _ _,Bn.empty 0,trivial⟩
 ·refine KN ?_ rfl rfl;exact⟨.inl rfl,w.heap.size,by simp [Gh.add],rfl⟩
theorem Zp7{T:TypeId}{m k:Operand}{ok:Bool}(D:Z4 P E)(hR:RH B H w g ow)(hF:Fr w g F a.tmps)(ho:o.op=.lookup T m k ok)
 (h:(ZS E nid o.op o.type (Zz F)).run H []=Ua ((v,patch),rd)):Zu B (Zs H patch) w g nid v ((execOp a.eval o).run P w):=by
 rw[ho]at h;simp only[ZS,ZA]at h;obtain⟨mt,Z,h⟩:=h;obtain⟨K,V,hu,O,hV⟩:=D.mty T mt Z;have hm:=hF.eval m;have A:=hF.eval k;split at h
 ·rename_i id l x W U;rw[Z3]at h;split at h
  ·rename_i a8 vt es hH;simp only[ZO,ZA,Zj,Zb,ZU,Ka,Ve,Ki,Vc]at h;obtain⟨⟨⟨⟨c,rfl⟩,rfl⟩,R⟩,y,hy,⟨rfl,rfl⟩,_⟩:=h;obtain⟨rfl,rfl⟩:=KK hy;obtain⟨a4,b,hb,hv⟩:=(W▸hm).mp;obtain⟨_,b',n,clock,p,hJ,hh,b0,r⟩:=hR.objs id _ hH;rw[hb]at p;cases p;rw[U]at A;have s:Ku w g (.d mt.1 y) (a.eval k):=A;have q:=ZfF D n.isEmpty _ mt.1 K y (a.eval k) 10000 (Vba _) O (by simp only[Ty.keyOk,Ve]at c;grind) (by simp only[Ty.keyOk,Ve]at c;have:=Vj c.2;omega) s
   have f:=ZfG D O c s es n.toList (r.mono (by grind));have i:(getObj b).run P w=.ok (.map n clock) w:=by simp only[getObj,Vbb,hh]
   obtain⟨z,hz,a7⟩:=(D.ty V mt.2 hV).run_zero w;have a1:=(a7 w g).1;have a1:=ZxI R a1;have L:∃u,(Vra T (a.eval m) (a.eval k) ok).run P w=.ok (if ok then .tuple #[u,.bool (ZW (Zr mt.1) y es).isSome] else u) w/\Ku w g (.d mt.2 ((ZW (Zr mt.1) y es).getD (zeroEl mt.2))) u:=by
    rw[Zbg]
    cases C:JL (Zr mt.1) y es with
    |none=>
     rw[C]at f;refine⟨z,?_,by grind⟩;simp only[Vra,underlying,Vb,run_program,Va,hu,Vd,hv,i,q,f,Vm,hz]
     rfl
    |some j=>
     rw[C]at f;obtain⟨e,S,_⟩:=Zbh _ _ _ _ C;obtain⟨me,M,h1,h2⟩:=r.get j e S;refine⟨me.val,?_,by grind⟩;simp only[Vra,underlying,Vb,run_program,Va,hu,Vd,hv,i,q,f,Vi,M,Vu,Za,S];rfl
   obtain⟨u,G,J⟩:=L;refine Zu.pure (val:=if ok then .tuple #[u,.bool (ZW (Zr mt.1) y es).isSome] else u) hR ?_ ?_
   ·simp only[execOp,ho,Vb,G,Va,Vd]
   ·cases ok with
    |true=>exact⟨[u,.bool _],rfl,u,_,rfl,J,.bool _,[],rfl,JZ _,rfl⟩
    |false=>assumption
  ·rename_i a8 t es u0 hH;simp only[ZO,ZA,Zj,Zb,ZU,Ka,Ve,Ki,Vc]at h;obtain⟨⟨⟨c,X⟩,Y⟩,y,hy,⟨rfl,rfl⟩,_⟩:=h;obtain⟨rfl,rfl⟩:=KK hy;obtain⟨a4,b,hb,hv⟩:=(W▸hm).mp;obtain⟨_,b4,a9,a5,b3,Q,b',n,clock,p,hJ,hh,b1,r⟩:=hR.objs id _ hH;rw[hb]at p;cases p;rw[U]at A;have s:Ku w g (.d l y) (a.eval k):=A;rw[X]at O;rw[Y]at hV;have q:=ZfF D n.isEmpty _ l K y (a.eval k) 10000 (Vba _) O (ZaJ c) (by simp only[Ty.keyOk,Ve]at c;have:=Vj c.2;omega) s
   have f:=ZfG D O c s es n.toList (r.mono (by grind));have i:(getObj b).run P w=.ok (.map n clock) w:=by simp only[getObj,Vbb,hh]
   have hz:=Zjq (D.ty V (.sl t) hV) w;have L:(Vra T (a.eval m) (a.eval k) ok).run P w=.ok (if ok then .tuple #[g.row id l y,.bool (ZW (Zr l) y es).isSome] else g.row id l y) w/\(g.row id l y).oneCell'=Uc/\Kd (g.row id l y)=false:=by
    rw[Zbg]
    cases C:JL (Zr l) y es with
    |none=>
     rw[C]at f;have a0:g.row id l y=.slice Ub 0 0:=Q y (Zea (ZaJ c) (by rw[Zbg,C];rfl));rw[a0];refine⟨?_,rfl,rfl⟩;simp only[Vra,underlying,Vb,run_program,Va,hu,Vd,hv,i,q,f,Vm,hz]
     rfl
    |some j=>
     rw[C]at f;obtain⟨e,S,a3⟩:=Zbh _ _ _ _ C;have a2:=(XD (ZaJ c)).1 a3;obtain⟨me,M,h1,h2⟩:=r.get j e S;rw[<-a2]at h2;have a6:=(a5.rd y e.2 (by grind) (by simp)).one;refine⟨?_,a6⟩;simp only[Vra,underlying,Vb,run_program,Va,hu,Vd,hv,i,q,f,Vi,M,Vu,Za,S,h2];rfl
   obtain⟨G,J,b2⟩:=L;have N:Ku w g (.nw id u0 l y) (g.row id l y):=VR.to1 (KN (by simp only[CV];grind) J rfl) (by simp);refine Zu.pure (val:=if ok then .tuple #[g.row id l y,.bool (ZW (Zr l) y es).isSome] else g.row id l y) hR ?_ ?_
   ·simp only[execOp,ho,Vb,G,Va,Vd]
   ·cases ok with
    |true=>exact⟨[g.row id l y,.bool _],rfl,g.row id l y,_,rfl,N,.bool _,[],rfl,JZ _,rfl⟩
    |false=>assumption
  ·simp [Zb]at h
 ·simp [Zb]at h
theorem ZnX(v:Value):∃w',(Vac v v).run P w=.ok v w' /\JD w w' :=by
 unfold Vac
 cases Instr.sameBits 10000 v v with
 |true=>exact⟨w,rfl,.refl w⟩
 |false=>
  refine⟨{w with drawn:=w.drawn+1},?_,⟨rfl,rfl,rfl,⟨rfl,by simp⟩⟩⟩;simp only[ite_self];rfl
theorem Ix.push{es:Array MapEntry}{clock:Nat}(h:Ix es clock){e:MapEntry}(f:e.born=clock):Ix (es.push e) (clock+1):=by
 have ⟨c,d⟩:=h;refine⟨by simp [c],λi x b=>?_⟩;rw[Array.getElem?_push]at b;split at b
 ·cases b;omega
 ·exact d i x b
theorem Ix.modify{es:Array MapEntry}{clock:Nat}(h:Ix es clock){i:Nat}{f:MapEntry->MapEntry}(k:∀e,(f e).born=e.born):Ix (es.modify i f) clock:=by
 have ⟨d,c⟩:=h;refine⟨by simp [d],λj x b=>?_⟩;rw[Array.getElem?_modify]at b;split at b
 ·obtain⟨y,l,rfl⟩:=Vr.1 b;rw[k];exact c j y l
 ·exact c j x b
def Hv(g:Gh)(id:Nat)(c:Ty)(y:El c)(v:Value):(b:Ty)->El b->Value:=λb k=>if h:b=c then(if Zr c (h▸k) y then v else g.row id b k) else g.row id b k
theorem ZnO{id:Nat}{b:Ty}{y:El b}{v:Value}(c:b.key=Uc)(k:El b)(d:k≠y):Hv g id b y v b k=g.row id b k:=by
 have:Zr b k y=false:=by
  cases e:Zr b k y
  ·rfl
  ·exact absurd ((XD c).1 e) d
 unfold Hv;grind
theorem ZnN{id:Nat}{c:Ty}{y:El c}{v:Value}(b:c.key=Uc):Hv g id c y v c y=v:=by simp [Hv,(XD b).2 rfl]
theorem ZuA{i t:Ty}{es:List (El i×List (El t))}{u id b clock:Nat}{hole:Option (El i)}{y:El i}{ys:List (El t)}{ids:List Nat}{b5:Array MapEntry}{O:Value}{w1:World}{m:Array MapEntry}{Q:Nat}{r:Result Next}(R:RH B H w g ow)(f:i.key=Uc)(a7:g.K id)(s:H id≠Ub)(b4:g.ty id=.sl t)(b7:g.ver id=u)(c1:u+1<=nid)
 (a2:RF w g.I (ow id) t (g.blk id) (g.row id i) (λk x=>(k,x)∈es) hole) (a1:(es.map Vla).Nodup) (Y:∀k,k ∉ es.map Vla->g.row id i k=.slice Ub 0 0) (hb:g.blk id=Ua b) (hJ:ow id b) (hh:w.heap[b]? =Ua (.map b5 clock)) (U:hole=Ub\/hole=Ua y) (Z:id ∉ ids)
 (G:WG w g.I (ZP H ow ids) t ys O) (hs:JD w w1) (hr:r=.ok .skip {w1 with heap:=w1.heap.setIfInBounds b (.map m Q)}) (a0:Ix m Q)
 (T:∀w2,Kq g.I w w2->Fa (λkv (e:MapEntry)=>Ku w2 g (.d i kv.1) e.key/\e.val=Hv g id i y O i kv.1) (Kv (Zr i) y ys es) m.toList):
 Zu B (Zs H (ids.map (λid=>(id,Ub))++[(id,Ua (.mrows i t (Kv (Zr i) y ys es) nid Ub))])) w g nid .junk r:=by
 have z:∀k,Zs H (ids.map λid=>(id,Ub)) k≠Ub->k ∉ ids/\H k≠none:=by intro k C;rw[Rb]at C;grind
 have a8:∀l,ZP H ow ids l->¬ow id l:=λl ⟨k,V,M,W⟩ X=>Z (R.dist id k l s M X W▸V);have D:∀k,k≠y->Hv g id i y O i k=g.row id i k:=λk C=>ZnO f k C;have L:Hv g id i y O i y=O:=ZnN f;have a4:RH B (Zs H (ids.map λid=>(id,Ub))) w1 g ow:=(R.drops ids).same hs;have n:∀k,k≠b->({w1 with heap:=w1.heap.setIfInBounds b (.map m Q)}:World).heap[k]? =w1.heap[k]? :=by grind
 have b6:=R.sep id b s hJ;have N:Kq g.I w {w1 with heap:=w1.heap.setIfInBounds b (.map m Q)}:=λk C=>by rw[n k (by grind),hs.heap]
 have a3:∀k,k≠b->({w1 with heap:=w1.heap.setIfInBounds b (.map m Q)}:World).heap[k]? =w.heap[k]? :=λk C=>by rw[n k C,hs.heap]
 have a6:∀{J:Nat->Prop}{x:List (El t)}{hd:Value},WG w g.I J t x hd->∀l,WS hd=Ua l->l≠b:=by
  intro J x hd b1 l c e;rcases b1 with ⟨_,rfl⟩|⟨b2,cap,cells,e,b8,rfl,_,W,_⟩
  ·simp [WS]at c
  ·simp [WS]at c;grind
 rw[Xq];refine⟨undef, {w1 with heap:=w1.heap.setIfInBounds b (.map m Q)},g.bump id nid (Hv g id i y O),Xk ow id (λl=>ow id l\/ZP H ow ids l),.inr ⟨hr,rfl⟩,?_,Gh.le_bump (by omega),N,HH,λ_ h=>.inl h⟩;refine a4.bump (id:=id) a7 (by omega) (λl c=>?_) (by simp) rfl rfl ⟨rfl,Vf _⟩ (λl V M=>n l λe=>?_) (λl c=>?_) ?_
 ·rcases c with c|⟨k,C,V,M⟩
  ·grind
  ·refine n l λe=>C ?_;subst e;exact(R.dist id k l s (z k V).2 hJ M).symm
 ·grind
 ·have b3:({w1 with heap:=w1.heap.setIfInBounds b (.map m Q)}:World).heap.size=w.heap.size:=by rw[<-hs.heap];simp
  rw[b3];rcases c with c|⟨k,V,M,W⟩
  ·have ⟨p,q,r⟩:=R.sep id l s c;exact⟨p,q,r,λk C X h5=>C (R.dist k id l (z k X).2 s h5 c)⟩
  ·have ⟨p,q,r⟩:=R.sep k l M W;refine⟨p,q,r,λk' C X h5=>(z k' X).1 ?_⟩;have:=R.dist k' k l (by grind) M h5 W;grind
 ·have A:(g.bump id nid (Hv g id i y O)).row id i=Hv g id i y O i:=by show (if id=id then Hv g id i y O else g.row id) i=_;simp
  refine⟨b4,Zn rfl,?_,ZgM f a1,λq hq=>?_,b,m,Q,hb,.inl hJ,?_,a0,?_⟩
  ·rw[A];refine a2.put D (λj x S=>Zfh f a1 S) U ?_ (λj x S hj hr=>?_) λl c=>?_
   ·rw[L];exact G.mono N (by simp) (by grind) (by grind)
   ·exact hr.mono N (by simp) (by grind) (by grind)
   ·rw[L]at c;have b0:=G.own c;refine⟨λj x S hj a5=>a8 l b0 ?_,by grind⟩;have a9:hole≠Ua j:=by grind
    exact(a2.rd j x S a9).own a5
  ·rw[A];have b9:y∈(Kv (Zr i) y ys es).map Vla:=by
    by_cases h:y∈es.map Vla
    ·rw[(RG f).1 h];exact h
    ·rw[(RG f).2 h];simp
   rw[D q (by grind)];refine Y q λh=>hq ?_;by_cases M:y∈es.map Vla
   ·rw[(RG f).1 M];exact h
   ·rw[(RG f).2 M,Voc];grind
  ·rw[Vfa,Zn rfl,Zn (by rw[hs.heap];omega)]
  ·rw[A];exact(T _ N).mono λkv e S=>⟨⟨by have:=S.1.1;assumption,S.1.2⟩,S.2⟩
theorem Zqb{T:TypeId}{m k x:Operand}(hT:Z4 P E)(hR:RH B H w g ow)(hF:Fr w g F a.tmps)(ho:o.op=.mapUpdate T m k x)
 (h:(ZS E nid o.op o.type (Zz F)).run H []=Ua ((v,patch),rd)):Zu B (Zs H patch) w g nid v ((execOp a.eval o).run P w):=by
 rw[ho]at h;simp only[ZS,ZA]at h;obtain⟨mt,c4,h⟩:=h;obtain⟨K,V,hu,hK,hV⟩:=hT.mty T mt c4;have hm:=hF.eval m;have a0:=hF.eval k;have b0:=hF.eval x;split at h
 ·rename_i id J y0 vt z0 a5 a3 a9;rw[Z3]at h;split at h
  ·rename_i d6 e2 es hH;simp only[ZO,ZA,Zj,Zb,ZU,Ka,Ve,Ki,Vc]at h;obtain⟨⟨f,rfl⟩,y,hy,u,d5,⟨rfl,rfl⟩,_⟩:=h;obtain⟨rfl,rfl⟩:=KK hy;obtain⟨rfl,rfl⟩:=KK d5;obtain⟨b4,b,hb,hv⟩:=(a5▸hm).mp;obtain⟨_,b',c,clock,N,hJ,hh,b2,q⟩:=hR.objs id _ hH;rw[hb]at N;cases N;rw[a3]at a0;rw[a9]at b0;have s:Ku w g (.d mt.1 y) (a.eval k):=a0;have c7:Ku w g (.d vt u) (a.eval x):=b0;have O:=ZfF hT Ud _ mt.1 K y (a.eval k) 10000 (Vba _) hK (by simp only[Ty.keyOk,Ve]at f;grind) (by simp only[Ty.keyOk,Ve]at f;have:=Vj f.2;omega) s
   have D:=ZfG hT hK f s es c.toList (q.mono (by grind));have G:(getObj b).run P w=.ok (.map c clock) w:=by simp only[getObj,Vbb,hh]
   have fin:∀(A:World) (l:Array MapEntry) (c' :Nat),JD w A->(Vea T (a.eval m) (a.eval k) (a.eval x)).run P w=.ok () {A with heap:=A.heap.setIfInBounds b (.map l c')} ->Bn l c' ->
    Zo5 w g mt.1 vt (Kv (Zr mt.1) y u es) l.toList->Zu B (Zs H [(id,Ua (.map mt.1 vt (Kv (Zr mt.1) y u es)))]) w g nid .junk ((execOp a.eval o).run P w):=by
    intro A l c' Z Y b3 L;have c8:=hR.same Z;have R:∀k,k≠b->({A with heap:=A.heap.setIfInBounds b (.map l c')}:World).heap[k]? =A.heap[k]? :=by grind
    have d9:=hR.sep id b (by grind) hJ;have C:Kq g.I w {A with heap:=A.heap.setIfInBounds b (.map l c')}:=λk hk=>by rw[R k (by grind),Z.heap]
    refine⟨undef,_,g,ow,.inr ⟨?_,rfl⟩,c8.write (by grind) hJ R (by simp) rfl rfl ⟨rfl,Vf _⟩ ?_,.refl g,C,HH,by grind⟩
    ·simp only[execOp,ho,Vb,Y,Va,Vd]
    ·refine⟨b,l,c',hb,hJ,?_,b3,L.mono λp e hp=>⟨hp.1.mono C (.refl g),hp.2.mono C (.refl g)⟩⟩;rw[Vfa,Zn rfl,Zn (by rw[Z.heap];omega)]
   cases M:JL (Zr mt.1) y es with
   |none=>
    rw[M]at D;refine fin w (c.push {key:=a.eval k,val:=a.eval x,born:=clock}) (clock+1) (.refl w) ?_ (b2.push rfl) ?_
    ·simp only[Vea,underlying,Vb,run_program,Va,hu,Vd,hv,G,O,D,Vm];simp only[setObj,Vbb,hh]
    ·rw[Zbi,M,Vcc]
     exact q.append ⟨⟨s,c7⟩,trivial⟩
   |some j=>
    rw[M]at D;obtain⟨e,he,Q⟩:=Zbh _ _ _ _ M;obtain⟨me,d1,h1,h2⟩:=q.get j e he;have S:y=e.1:=by
     unfold Zr at Q
     cases hq:eqEl mt.1 y e.1 with
     |none=>grind
     |some r=>rw[hq]at Q;subst Q;exact Zk4 _ _ _ hq
    have U:me.key=a.eval k:=ZlZ (by simp only[Ty.keyOk,Ve]at f;grind) (S▸h1) s;obtain⟨A,a8,Z⟩:=ZnX (P:=P) (a.eval k);have W:c[j]? =Ua me:=by grind
    refine fin A (c.modify j λe=>{e with key:=a.eval k,val:=a.eval x}) clock Z ?_ (b2.same ?_) ?_
    ·simp only[Vea,underlying,Vb,run_program,Va,hu,Vd,hv,G,O,D,Vi,W,U,Vu,a8];have a1:A.heap[b]? =Ua (.map c clock):=by rw[Z.heap];omega
     simp only[setObj,Vbb,a1]
    ·apply Via;grind
    ·rw[Zbi,M];have:(c.modify j λe=>{e with key:=a.eval k,val:=a.eval x}).toList=c.toList.set j {me with key:=a.eval k,val:=a.eval x}:=by apply Via;grind
     rw[this];exact q.set j ⟨s,c7⟩
  ·simp [Zb]at h
 ·rename_i id J y0 i2 a5 a3 a9;rw[Z3]at h;split at h
  ·rename_i d6 t es u X hH;simp only[ZO,ZA,Z2,Zj,Zb,ZU,Ka,Ve,Ki,Vc]at h;obtain⟨⟨⟨⟨f,c2⟩,d8⟩,a4⟩,y,hy,_,c9,⟨ys,ids⟩,m2,z,⟨rfl,rfl⟩,_⟩:=h;obtain⟨rfl,rfl⟩:=KK hy;have a4:=Vj a4;obtain⟨b4,b,hb,hv⟩:=(a5▸hm).mp;have b5:H id≠none:=by grind
   obtain⟨_,d4,c6,d2,c5,b1,b',c,clock,N,hJ,hh,b7,q⟩:=hR.objs id _ hH;rw[hb]at N;cases N;rw[a3]at a0;have s:Ku w g (.d J y) (a.eval k):=a0;rw[c2]at hK;have i:=ZaJ f;have a7:=Zfw hR (a9▸b0) z;have O:=ZfF hT Ud _ J K y (a.eval k) 10000 (Vba _) hK i (by simp only[Ty.keyOk,Ve]at f;have:=Vj f.2;omega) s
   have D:=ZfG hT hK f s es c.toList (q.mono (by grind));have G:(getObj b).run P w=.ok (.map c clock) w:=by simp only[getObj,Vbb,hh]
   have a2:X=Ub\/X=Ua y:=by
    cases X with
    |none=>simp
    |some j=>exact .inr (by rw[(XD i).1 (HO c9)])
   have b6:id ∉ ids:=λhm=>by
    simp only[JS]at z;rw[Z3]at z;split at z
    ·rename_i c1;simp only[ZA,Zj,Vc]at z;grind
    ·simp [Zb]at z
   have a6:∀k,k≠y->Hv g id J y (a.eval x) J k=g.row id J k:=λk hk=>ZnO i k hk;have d3:Hv g id J y (a.eval x) J y=a.eval x:=ZnN i;have fin:∀(A:World) (l:Array MapEntry) (c' :Nat),JD w A->(Vea T (a.eval m) (a.eval k) (a.eval x)).run P w=.ok () {A with heap:=A.heap.setIfInBounds b (.map l c')} ->Ix l c' ->
    (∀w2,Kq g.I w w2->Fa (λkv (e:MapEntry)=>Ku w2 g (.d J kv.1) e.key/\e.val=Hv g id J y (a.eval x) J kv.1) (Kv (Zr J) y ys es) l.toList)->Zu B (Zs H (ids.map (λid=>(id,Ub))++[(id,Ua (.mrows J t (Kv (Zr J) y ys es) nid Ub))])) w g nid .junk ((execOp a.eval o).run P w):=by
    intro A l c' Z Y b8 L;exact ZuA hR i b4 b5 d4 c6 a4 d2 c5 b1 hb hJ hh a2 b6 a7 Z (by simp only[execOp,ho,Vb,Y,Va,Vd]) b8 L
   have d7:∀w2,Kq g.I w w2->Ku w2 g (.d J y) (a.eval k):=λw2 C=>s.mono C (.refl g)
   cases M:JL (Zr J) y es with
   |none=>
    rw[M]at D;have e1:y ∉ es.map Vla:=Zea i (by rw[Zbg,M];rfl);refine fin w (c.push {key:=a.eval k,val:=a.eval x,born:=clock}) (clock+1) (.refl w) ?_ (b7.push rfl) λw2 C=>?_
    ·simp only[Vea,underlying,Vb,run_program,Va,hu,Vd,hv,G,O,D,Vm];simp only[setObj,Vbb,hh]
    ·rw[Zbi,M,Vcc];refine(ZcX q.length λn kv e h1 h2=>?_ :Fa _ es c.toList).append ⟨by grind,trivial⟩;have:=ZhH q h1 h2;refine⟨this.1.mono C (.refl g),?_⟩
     grind
   |some j=>
    rw[M]at D;obtain⟨e,he,Q⟩:=Zbh _ _ _ _ M;have S:=(XD i).1 Q;obtain⟨me,d1,h1,h2⟩:=q.get j e he;have U:me.key=a.eval k:=ZlZ i (S▸h1) s;obtain⟨A,a8,Z⟩:=ZnX (P:=P) (a.eval k);have W:c[j]? =Ua me:=by grind
    refine fin A (c.modify j λe=>{e with key:=a.eval k,val:=a.eval x}) clock Z ?_ (b7.modify λ_=>rfl) λw2 C=>?_
    ·simp only[Vea,underlying,Vb,run_program,Va,hu,Vd,hv,G,O,D,Vi,W,U,Vu,a8];have a1:A.heap[b]? =Ua (.map c clock):=by rw[Z.heap];omega
     simp only[setObj,Vbb,a1]
    ·rw[Zbi,M];have:(c.modify j λe=>{e with key:=a.eval k,val:=a.eval x}).toList=c.toList.set j {me with key:=a.eval k,val:=a.eval x}:=by apply Via;grind
     rw[this];refine ZcX (by simp [q.length]) λn kv en g1 g2=>?_;rw[List.getElem?_set]at g1 g2;split at g1
     ·grind
     ·rename_i b9;rw[Zg b9]at g2;have:=ZhH q g1 g2;refine⟨this.1.mono C (.refl g),?_⟩;rw[a6 kv.1 λe4=>b9 ?_]
      ·grind
      ·have d0:(es.map Vla)[j]? =Ua y:=by grind
       have c1:(es.map Vla)[n]? =Ua y:=by grind
       exact(List.getElem?_inj (by grind) c5).1 (d0.trans c1.symm)
  ·simp [Zb]at h
 ·simp [Zb]at h
end ops
end Tr
end
section
namespace Tr
open Go
section ops
variable {P:Program}{E:Z9}{B:Z1}{H:AH}{w:World}{g:Gh}{ow:Nat->Nat->Prop}{nid:Nat}{a:Act}{F:Nat->AV}{v:AV}{patch:KF}{rd:List Nat}{o:Oper}
theorem ZfH{op:BinOp}{k:IntKind}{x y:Int}{T:TypeId}{z:Int}(h:(Op.intBits op k x y).run P w=.ok (.int k z) w)(b:op=.and\/op=.or\/op=.xor\/op=.andNot):(binOp op T (.int k x) (.int k y)).run P w=.ok (.int k z) w:=by
 rcases b with rfl|rfl|rfl|rfl<;>simp [binOp,h]
theorem Zca{op:BinOp}{k:IntKind}{x y:Int}{T:TypeId}{b:Bool}(h:(Op.intCmp op x y).run P w=.ok (.bool b) w)(c:op=.eql\/op=.neq\/op=.lss\/op=.leq\/op=.gtr\/op=.geq):(binOp op T (.int k x) (.int k y)).run P w=.ok (.bool b) w:=by
 rcases c with rfl|rfl|rfl|rfl|rfl|rfl<;>simp [binOp,h]
theorem ZvB{k:IntKind}{x y z:Int}(h:ZiG k x y=Ua z):y≠0/\z=k.wrap (x.tdiv y):=by
 unfold ZiG at h;split at h
 ·simp at h
 ·rename_i b;exact⟨b,by simpa using h.symm⟩
theorem ZvC{x y z:Int}(h:ZiH x y=Ua z):y≠0/\z=x.tmod y:=by
 unfold ZiH at h;split at h
 ·simp at h
 ·rename_i b;exact⟨b,by simpa using h.symm⟩
theorem ZvD{k:IntKind}{x y z:Int}(h:GE k x y=Ua z):¬y<0/\z=k.wrap (x*2 ^ (min y.toNat k.bits)):=by
 unfold GE at h;split at h
 ·simp at h
 ·rename_i b;exact⟨b,by simpa using h.symm⟩
theorem ZvE{k:IntKind}{x y z:Int}(h:G9 k x y=Ua z):¬y<0/\z=x.fdiv (2 ^ (min y.toNat k.bits)):=by
 unfold G9 at h;split at h
 ·simp at h
 ·rename_i b;exact⟨b,by simpa using h.symm⟩
theorem ZpC{op:BinOp}{k:IntKind}{x y:Int}{l d:List Nat}{T:TypeId}(h:(Zaj op k x y).run H l=Ua (v,d)):∃val,(binOp op T (.int k x) (.int k y)).run P w=.ok val w/\VR w g v val/\d=l:=by
 cases op<;>simp only[Zaj,Zj,ZA]at h
 case add=>obtain⟨rfl,rfl⟩:=h;exact⟨.int k (k.wrap (x+y)),by simp [binOp,Op.intArith],J1 _ _,rfl⟩
 case sub=>obtain⟨rfl,rfl⟩:=h;exact⟨.int k (k.wrap (x - y)),by simp [binOp,Op.intArith],J1 _ _,rfl⟩
 case mul=>obtain⟨rfl,rfl⟩:=h;exact⟨.int k (k.wrap (x*y)),by simp [binOp,Op.intArith],J1 _ _,rfl⟩
 case quo=>obtain⟨z,c,rfl,rfl⟩:=h;obtain⟨b,rfl⟩:=ZvB c;exact⟨_,by simp [binOp,Op.intDiv,b],J1 _ _,rfl⟩
 case rem=>obtain⟨z,c,rfl,rfl⟩:=h;obtain⟨b,rfl⟩:=ZvC c;exact⟨_,by simp [binOp,Op.intDiv,b],J1 _ _,rfl⟩
 case and=>obtain⟨rfl,rfl⟩:=h;exact⟨_,ZfH rfl (.inl rfl),J1 _ _,rfl⟩
 case or=>obtain⟨rfl,rfl⟩:=h;exact⟨_,ZfH rfl (.inr (.inl rfl)),J1 _ _,rfl⟩
 case xor=>obtain⟨rfl,rfl⟩:=h;exact⟨_,ZfH rfl (.inr (.inr (.inl rfl))),J1 _ _,rfl⟩
 case andNot=>obtain⟨rfl,rfl⟩:=h;exact⟨_,ZfH rfl (.inr (.inr (.inr rfl))),J1 _ _,rfl⟩
 case shl=>obtain⟨z,c,rfl,rfl⟩:=h;obtain⟨b,rfl⟩:=ZvD c;exact⟨_,by simp [binOp,Op.shift,b],J1 _ _,rfl⟩
 case shr=>obtain⟨z,c,rfl,rfl⟩:=h;obtain⟨b,rfl⟩:=ZvE c;exact⟨_,by simp [binOp,Op.shift,b],J1 _ _,rfl⟩
 case eql=>obtain⟨rfl,rfl⟩:=h;exact⟨_,Zca rfl (.inl rfl),JZ _,rfl⟩
 case neq=>obtain⟨rfl,rfl⟩:=h;exact⟨_,Zca rfl (.inr (.inl rfl)),JZ _,rfl⟩
 case lss=>obtain⟨rfl,rfl⟩:=h;exact⟨_,Zca rfl (.inr (.inr (.inl rfl))),JZ _,rfl⟩
 case leq=>obtain⟨rfl,rfl⟩:=h;exact⟨_,Zca rfl (.inr (.inr (.inr (.inl rfl)))),JZ _,rfl⟩
 case gtr=>obtain⟨rfl,rfl⟩:=h;exact⟨_,Zca rfl (.inr (.inr (.inr (.inr (.inl rfl))))),JZ _,rfl⟩
 case geq=>obtain⟨rfl,rfl⟩:=h;exact⟨_,Zca rfl (.inr (.inr (.inr (.inr (.inr rfl))))),JZ _,rfl⟩
theorem ZqB{op:BinOp}{x y:List UInt8}{l f:List Nat}{T:TypeId}(h:(ZgP op x y).run H l=Ua (v,f)):∃val,(binOp op T (.string ⟨x.toArray⟩) (.string ⟨y.toArray⟩)).run P w=.ok val w/\VR w g v val/\f=l:=by
 have d:(x==y)=Ue (x=y):=by rw[Vmc];simp
 cases op<;>simp only[ZgP,Zj,ZA,Zb]at h
 case add=>
  obtain⟨z,b,rfl,rfl⟩:=h;simp only[catStr]at b
  cases c:Ue (x.length+y.length<2 ^ 62) with
  |false=>rw[c]at b;simp at b
  |true=>
   rw[c]at b;simp only[Zd,ZL]at b;subst b;refine⟨_,?_,Zd2 _,rfl⟩;have i:x.length+y.length<2 ^ 62:=by simpa using c
   have e:¬(((⟨x.toArray⟩:ByteArray).size+(⟨y.toArray⟩:ByteArray).size:Nat):Int) >Vfb.max:=by
    have:Vfb.max=9223372036854775807:=by decide
    rw[this];simp [ByteArray.size];omega
   simp only[binOp,Op.stringOp,e,if_false,Vd];congr 2
 all_goals
  obtain⟨rfl,rfl⟩:=h;refine⟨_,?_,JZ _,rfl⟩;simp only[binOp,Op.stringOp,Zf0,Vd,d]
theorem Zb9{op:BinOp}{T:TypeId}{x y:Operand}{vx d:Value}(b:vx≠ .nilIface)(c:Kd vx=Ud):(eqGuard op T x y vx d).run P w=.ok () w:=by
 unfold eqGuard;cases vx<;>first|exact absurd rfl b|(simp [Kd]at c;done) |(split<;>rfl)
theorem Zwb(h:Z4 P E){T:TypeId}{t:Ty}(i:E.ty T=Ua t){op:BinOp}{x y:Operand}{vx d:Value}(b:Kd vx=t.agg)(f:Kd d=t.agg)(c:vx≠ .nilIface):(eqGuard op T x y vx d).run P w=.ok () w:=by
 cases e:t.agg with
 |true=>
  rw[e]at b f;cases vx<;>simp [Kd]at b
  cases d<;>simp [Kd]at f
  exact run_eqGuard_agg w op T x y _ _ (h.ty T t i).guard
 |false=>
  rw[e]at b;exact Zb9 c b
theorem Zpu{T:TypeId}{op:BinOp}{x y:Operand}{l l' :List Nat}(hT:Z4 P E)(hF:Fr w g F a.tmps)(h:(ZgC E.ty T op (Zz F x) (Zz F y)).run H l=Ua (v,l')):
 ∃val,(do eqGuard op T x y (a.eval x) (a.eval y);binOp op T (a.eval x) (a.eval y):Sem Value).run P w=.ok val w/\VR w g v val/\l' =l:=by
 have J:=hF.eval x;have M:=hF.eval y;have c:∀{vx vy:Value},vx≠ .nilIface->Kd vx=Ud->(eqGuard op T x y vx vy).run P w=.ok () w:=by exact λu A=>Zb9 u A
 unfold ZgC at h;split at h
 ·rename_i k m k' n f i;rw[f]at J;rw[i]at M;rw[VR.int J,VR.int M];simp only[Vb,c (vx:=.int k m) (by simp) rfl,Va];split at h
  ·simp only[Zaj,ZA,Zj]at h;obtain⟨z,j,rfl,rfl⟩:=h;refine⟨_,?_,J1 _ _,rfl⟩;simp only[GE]at j;split at j
   ·simp at j
   ·rename_i G;simp only[ZL]at j;subst j;simp [binOp,Op.shift,G]
  ·simp only[Zaj,ZA,Zj]at h;obtain⟨z,j,rfl,rfl⟩:=h;refine⟨_,?_,J1 _ _,rfl⟩;simp only[G9]at j;split at j
   ·simp at j
   ·rename_i G;simp only[ZL]at j;subst j;simp [binOp,Op.shift,G]
  ·simp only[ZO,Zb,ZU,Ka,Ki]at h;obtain⟨rfl,h⟩:=h;exact ZpC h
 ·rename_i s1 s2 f i;rw[f]at J;rw[i]at M;rw[VR.str J,VR.str M];simp only[Vb,c (vx:=.string ⟨s1.toArray⟩) (by simp) rfl,Va];exact ZqB h
 ·rename_i t O K y0 X Y f i;have data:∀(r:Bool) (p:El t),E.ty T=Ua t->t.dep<=100->Kz K t y0=Ua p->eqEl t O p=Ua r->(Op.equal T (a.eval x) (a.eval y)).run P w=.ok r w/\(eqGuard op T x y (a.eval x) (a.eval y)).run P w=.ok () w/\
   (∀k n,a.eval x≠ .int k n)/\(∀s,a.eval x≠ .string s)/\(∀k n,a.eval x≠ .float k n)/\(∀k n m,a.eval x≠ .complex k n m)/\a.eval x≠ .nilIface:=by
   intro r p L S N q;obtain⟨rfl,rfl⟩:=KK N;rw[f]at J;rw[i]at M;have u:Ku w g (.d K O) (a.eval x):=J;have A:Ku w g (.d K p) (a.eval y):=M;have D:Kd (a.eval x)=K.agg:=u.2.resolve_left (by simp);have W:Kd (a.eval y)=K.agg:=A.2.resolve_left (by simp);have e:(∀k n,a.eval x≠ .int k n)/\(∀s,a.eval x≠ .string s)/\(∀k n,a.eval x≠ .float k n)/\(∀k n m,a.eval x≠ .complex k n m)/\a.eval x≠ .nilIface:=by
    cases K with
    |int k=>exact(X k O k p rfl HEq.rfl rfl HEq.rfl).elim
    |str=>exact(Y O p rfl HEq.rfl rfl HEq.rfl).elim
    |bool=>rw[J.bool];simp
    |sl t=>simp [eqEl]at q
    |ref=>simp [eqEl]at q
    |pt t=>simp [eqEl]at q
    |lk a b=>simp [eqEl]at q
    |pn t=>simp [eqEl]at q
    |_=>(cases hv:a.eval x<;>rw[hv]at D<;>simp [Kd,Ty.agg]at D⊢)
   refine⟨ZnT hT _ K T O p _ _ r 10000 (Vba _) L (by omega) q u A,Zwb hT L D W e.2.2.2.2,e⟩
  have C:∀(op:BinOp) (r:Bool),(op=.eql\/op=.neq)->(Op.equal T (a.eval x) (a.eval y)).run P w=.ok r w->(∀k n,a.eval x≠ .int k n)->(∀s,a.eval x≠ .string s)->(∀k n,a.eval x≠ .float k n)->(∀k n m,a.eval x≠ .complex k n m)->
   (binOp op T (a.eval x) (a.eval y)).run P w=.ok (.bool (if op=.eql then r else !r)) w:=by
   intro op r Z he u A Q R;rcases Z with rfl|rfl<;>unfold binOp<;>cases hv:a.eval x<;>simp_all
  split at h
  ·simp only[ZO,ZA,Zj,Zb,ZU,Ka,Ve,Ki]at h;obtain⟨⟨L,S⟩,p,N,r,q,rfl,rfl⟩:=h;obtain⟨u,A,Q,R,U,V,_⟩:=data r p L (Vj S) N q;refine⟨.bool r,?_,JZ _,rfl⟩;simp only[Vb,A,Va,C .eql r (.inl rfl) u Q R U V,if_true]
  ·simp only[ZO,ZA,Zj,Zb,ZU,Ka,Ve,Ki]at h;obtain⟨⟨L,S⟩,p,N,r,q,rfl,rfl⟩:=h;obtain⟨u,A,Q,R,U,V,_⟩:=data r p L (Vj S) N q;refine⟨.bool (!r),?_,JZ _,rfl⟩;simp only[Vb,A,Va,C .neq r (.inr rfl) u Q R U V];simp
  ·simp [Zb]at h
 ·simp [Zb]at h
end ops
end Tr
end
section
namespace Tr
open Go
section ops
variable {P:Program}{E:Z9}{B:Z1}{H:AH}{w:World}{g:Gh}{ow:Nat->Nat->Prop}{nid:Nat}{a:Act}{F:Nat->AV}{v:AV}{patch:KF}{rd:List Nat}{o:Oper}
def _root_.Go.Operand.eval' :Operand->Value
 |.const v=>v
 |_=>undef
theorem ZuN{T:TypeId}{u:AV}{vx:Value}{y:Operand}(z:Z4 P E)(p:VR w g u vx)(h:Zfm (E.pk T) u y=Uc):
 (Op.equal T vx y.eval').run P w=.ok Ud w/\(vx≠ .nilIface/\Kd vx=Ud)/\∀op,(op=.eql->(binOp op T vx y.eval').run P w=.ok (.bool Ud) w)/\(op=.neq->(binOp op T vx y.eval').run P w=.ok (.bool Uc) w):=by
 obtain⟨A,C,D⟩:=z.pk T;unfold Zfm at h;split at h
 ·simp only[Ve,Vrc]at h;obtain⟨i,h⟩:=h;obtain⟨e,c⟩:=A i;split at h
  ·obtain⟨_,q,t,b,_,_,rfl⟩:=p.ptr;have key:(Op.equal T (.pointer (Ua ⟨b,q,Ub⟩)) (.pointer Ub)).run P w=.ok Ud w:=by
    have:∀d,(Op.equalIn (d+1) T (.pointer (Ua ⟨b,q,Ub⟩)) (.pointer Ub)).run P w=.ok Ud w:=λd=>by simp only[Op.equalIn,underlying,Vb,run_program,Va,c,Vd]
    exact this 9999
   exact⟨key,⟨by simp,rfl⟩,λop=>⟨λe=>by subst e;simp only[binOp,Operand.eval',Vb,key,Va,Vd],λe=>by subst e;simp only[binOp,Operand.eval',Vb,key,Va,Vd,Vwb]⟩⟩
  grind
 ·simp only[Ve,Vrc]at h;obtain⟨i,h⟩:=h;obtain⟨s,x,G,c⟩:=C i;split at h
  ·obtain⟨r,n,_⟩:=p.fn;rename_i f l _;obtain⟨m,k,j,rfl⟩:∃m k j,vx=.func (.func m) k j:=by
    rcases ZbL f r with ⟨_,h⟩|⟨_,h⟩
    all_goals exact⟨_,_,_,n.trans h⟩
   have key:(Op.equal T (.func (.func m) k j) .nilFunc).run P w=.ok Ud w:=by
    have:∀d,(Op.equalIn (d+1) T (.func (.func m) k j) .nilFunc).run P w=.ok Ud w:=λd=>by simp only[Op.equalIn,underlying,Vb,run_program,Va,c,Vd]
    exact this 9999
   exact⟨key,⟨by simp,rfl⟩,λop=>⟨λe=>by subst e;simp only[binOp,Operand.eval',Vb,key,Va,Vd],λe=>by subst e;simp only[binOp,Operand.eval',Vb,key,Va,Vd,Vwb]⟩⟩
  grind
 ·simp only[Ve,Vrc]at h;obtain⟨i,h⟩:=h;obtain⟨s,x,c⟩:=D i;split at h
  ·obtain⟨_,b,_,rfl⟩:=p.mp;have key:(Op.equal T (.map (Ua b)) (.map Ub)).run P w=.ok Ud w:=by
    have:∀d,(Op.equalIn (d+1) T (.map (Ua b)) (.map Ub)).run P w=.ok Ud w:=λd=>by simp only[Op.equalIn,underlying,Vb,run_program,Va,c,Vd]
    exact this 9999
   exact⟨key,⟨by simp,rfl⟩,λop=>⟨λe=>by subst e;simp only[binOp,Operand.eval',Vb,key,Va,Vd],λe=>by subst e;simp only[binOp,Operand.eval',Vb,key,Va,Vd,Vwb]⟩⟩
  grind
 grind
theorem ZpU{op:BinOp}{T l:TypeId}{x y:Operand}(f:Z4 P E)(e:RH B H w g ow)(hF:Fr w g F a.tmps)(d:o.op=.binOp op T x y l)
 (h:(ZS E nid o.op o.type (Zz F)).run H []=Ua ((v,patch),rd)):Zu B (Zs H patch) w g nid v ((execOp a.eval o).run P w):=by
 rw[d]at h;simp only[ZS,ZO]at h;rcases h with ⟨j,h⟩|⟨_,h⟩
 ·obtain⟨q,b,c⟩:=ZuN (w:=w) f (hF.eval x) j;have k:a.eval y=y.eval' :=by
   cases y<;>simp [Zfm]at j;rfl
  have i:∀op,(eqGuard op T x y (a.eval x) y.eval').run P w=.ok () w:=λop=>Zb9 b.1 b.2;split at h
  ·simp only[Zj,Vc]at h;obtain⟨⟨rfl,rfl⟩,_⟩:=h;refine Zu.pure e (val:=.bool Ud) ?_ (JZ _);simp only[execOp,d,k,Vb,i,Va,(c .eql).1 rfl];rfl
  ·simp only[Zj,Vc]at h;obtain⟨⟨rfl,rfl⟩,_⟩:=h;refine Zu.pure e (val:=.bool Uc) ?_ (JZ _);simp only[execOp,d,k,Vb,i,Va,(c .neq).2 rfl];rfl
  ·simp [Zb]at h
 simp only[Z2,Zj,Vc]at h;obtain⟨r,m,h,⟨rfl,rfl⟩,_⟩:=h;obtain⟨val,n,p,_⟩:=Zpu f hF h;refine Zu.pure e ?_ p;simp only[execOp,d];rw[Vb,n];rfl
theorem Zqm{op:UnOp}{T:TypeId}{x:Operand}(f:RH B H w g ow)(hF:Fr w g F a.tmps)(d:o.op=.unOp op T x)
 (h:(ZS E nid o.op o.type (Zz F)).run H []=Ua ((v,patch),rd)):Zu B (Zs H patch) w g nid v ((execOp a.eval o).run P w):=by
 rw[d]at h;simp only[ZS,Z2,Zj,Vc]at h;obtain⟨i,m,h,⟨rfl,rfl⟩,_⟩:=h;have c:=hF.eval x;unfold aun at h;split at h
 ·rename_i b e;simp only[Zj]at h;obtain⟨rfl,_⟩:=h;rw[e]at c;refine Zu.pure f (val:=.bool (!b)) ?_ (JZ _);simp only[execOp,d,VR.bool c,Op.unary,Vb,Vd,Va]
 ·rename_i k n e;simp only[Zj]at h;obtain⟨rfl,_⟩:=h;rw[e]at c;refine Zu.pure f (val:=.int k (k.wrap (0 - n))) ?_ (J1 _ _);simp only[execOp,d,VR.int c,Op.unary,Op.intArith,Vb,Vd,Va]
 ·simp [Zb]at h
theorem ZoF{T:TypeId}{k:IntKind}(e:Z4 P E)(h:E.ty T=Ua (.int k)):P.underlying T=Ua (.int k):=by
 have b:=(e.ty T _ h).shape
 cases c:P.underlying T with
 |none=>rw[c]at b;simp [Ke]at b
 |some d=>rw[c]at b;cases d<;>simp [Ke]at b;grind
theorem Zjd{T:TypeId}(e:Z4 P E)(h:E.ty T=Ua .str):P.underlying T=Ua .string:=by
 have b:=(e.ty T _ h).shape
 cases c:P.underlying T with
 |none=>rw[c]at b;simp [Ke]at b
 |some d=>rw[c]at b;cases d<;>simp [Ke]at b;rfl
theorem Zw6{T:TypeId}{t:Ty}(c:Z4 P E)(h:E.ty T=Ua t):∃d,P.underlying T=Ua d:=by
 have b:=(c.ty T _ h).shape
 cases e:P.underlying T with
 |none=>rw[e]at b;simp [Ke]at b
 |some d=>simp
theorem Zq0{x:AV}{v:Value}(b:Zbt x=Uc)(h:VR w g x v):CV w g x [v]:=by
 unfold Zbt at b;simp only[Ve,Vdc]at b;obtain⟨e,b⟩:=b;have c:Ku w g x v:=h.to1 (by intro l d;subst d;simp [Hg]at b);have f:Kd v=false:=by
  rcases c.2 with h|h
  ·subst h;simp [Hg]at b
  grind
 have:v.cells.toList=[v]:=by cases v<;>simp_all [Vva,Kd]
 rw[<-this];exact c.1
theorem Zq3{x:AV}{v:Value}(e:Zbt x=Uc)(h:CV w g x [v]):VR w g x v:=by
 unfold Zbt at e;simp only[Ve,Vdc]at e;obtain⟨z,e⟩:=e;have key:Kd v=false:=by
  cases x with
  |d t y=>
   have:=Rd.oneCell t y [v] (by assumption) v (by simp)
   cases v<;>simp_all [Vka,Kd]
  |junk=>simp [Hg]at e
  |tup l=>simp [Hg]at e
  |agg l=>simp [Hg]at e
  |jk n=>simp [Hg]at e
  |op id i=>simp [Hg]at e
  |dp t y=>simp only[CV]at h;obtain⟨b,off,c,h,_⟩:=h;cases h;rfl
  |ptr id p=>simp only[CV]at h;obtain⟨_,o,t,b,_,_,h⟩:=h;cases h;rfl
  |vp id i p=>simp only[CV]at h;obtain⟨_,o,t,b,_,_,h⟩:=h;cases h;rfl
  |mp id=>simp only[CV]at h;obtain⟨_,b,_,h⟩:=h;cases h;rfl
  |fn f l=>simp only[CV]at h;obtain⟨j,h,_⟩:=h;cases h;exact Zlt f j
  |nilr p=>have h:=ZbT h;rcases h with h|h|h<;>cases h<;>rfl
  |nw id ver r k=>simp only[CV]at h;obtain⟨_,_,u,h,q,_⟩:=h;cases h;cases v<;>simp_all [Vka,Kd]
  |np id ver r k i p=>simp only[CV]at h;obtain⟨_,_,s,h,_⟩:=h;cases h;rfl
  |nils=>simp only[CV]at h;cases h;rfl
  |vw id=>simp only[CV]at h;obtain⟨_,h,q⟩:=h;cases h;cases A:g.slv id<;>simp_all [Vka,Kd]
  |vs id C n=>simp only[CV,Zcc]at h;obtain⟨_,⟨_,_,_,h⟩|⟨b,len,cap,m,_,_,_,_,h⟩⟩:=h<;>cases h<;>rfl
 have:v.cells.toList=[v]:=by cases v<;>simp_all [Vva,Kd]
 exact VR.of1 ⟨by grind,by grind⟩
theorem ZgZ:∀(xs:List Operand),Fr w g F a.tmps->D7 (Zo.ofList (xs.map (Zz F)))=Uc->Kg w g (Zo.ofList (xs.map (Zz F))) (xs.map a.eval)
 |[],_,_=>by rfl
 |x::l,b,h=>by simp only[Vl,Zo.ofList,D7,Ve]at h⊢;simp only[Kg];exact⟨[a.eval x],l.map a.eval,rfl,Zq0 h.1 (b.eval x),ZgZ l b h.2⟩
theorem Zkt:∀(l:Zo) (cs:List Value),D7 l=Uc->Kg w g l cs->W8 w g l cs
 |.nil,cs,_,h=>by assumption
 |.cons x l,cs,j,h=>by
  simp only[D7,Ve]at j;simp only[Kg]at h;obtain⟨e,q,rfl,b,r⟩:=h;have c:=j.1;have:∃v,e=[v]:=by
   have s:e.length=1:=by
    unfold Zbt at c;simp only[Ve]at c;obtain⟨_,c⟩:=c
    cases x with
    |d t y=>simp only[Hg]at c;rw[Rd.length t y e (by assumption)];simp_all
    |junk=>simp [Hg]at c
    |tup l=>simp [Hg]at c
    |agg l=>simp [Hg]at c
    |jk n=>simp [Hg]at c
    |op id i=>simp [Hg]at c
    |dp t y=>simp only[CV]at b;grind
    |ptr id p=>simp only[CV]at b;grind
    |vp id i p=>simp only[CV]at b;grind
    |mp id=>simp only[CV]at b;grind
    |fn f l=>simp only[CV]at b;grind
    |nilr p=>have b:=ZbT b;grind
    |nw id ver A k=>simp only[CV]at b;grind
    |np id ver A k i p=>simp only[CV]at b;grind
    |nils=>simp only[CV]at b;grind
    |vw id=>simp only[CV]at b;grind
    |vs id C n=>simp only[CV,Zcc]at b;grind
   exact List.length_eq_one_iff.1 s
  obtain⟨v,rfl⟩:=this;have z:=Zq3 c b;refine⟨v,q,rfl,z.to1 ?_,Zkt l q j.2 r⟩;intro m u;subst u;assumption
theorem Zp8{f:FuncId}{first b:Array Operand}(e:RH B H w g ow)(hF:Fr w g F a.tmps)(c:o.op=.makeFunc (.func f) first b)
 (h:(ZS E nid o.op o.type (Zz F)).run H []=Ua ((v,patch),rd)):Zu B (Zs H patch) w g nid v ((execOp a.eval o).run P w):=by
 rw[c]at h;simp only[ZS,ZO,Zj,Zb,ZU,Ka,Vc,Ve]at h;obtain⟨⟨⟨l,i⟩,d⟩,⟨rfl,rfl⟩,_⟩:=h;have j:first= #[]:=by grind
 have k:Xa f (b.toList.map a.eval)=.func (.func f) #[] (b.map a.eval):=by unfold Xa;rw[i];simp [<-Vlb]
 refine Zu.pure e (val:=.func (.func f) #[] (b.map a.eval)) ?_ ⟨?_,.inr rfl⟩
 ·simp only[execOp,c,Vvc,j,Vb,Vd,Va,Vpc]
 ·simp only[CV];exact⟨b.toList.map a.eval,by simp [Vva,k],ZgZ _ hF d⟩
theorem ZpV{f:FuncId}{first b:Array Operand}(d:RH B H w g ow)(hF:Fr w g F a.tmps)(j:o.op=.makeFunc (.func f) first b)(l:b.isEmpty=Uc)(c:D7 (Zo.ofList (first.toList.map (Zz F)))=Uc):
 Zu B H w g nid (.fn (f+WQ) (Zo.ofList (first.toList.map (Zz F)))) ((execOp a.eval o).run P w):=by
 have i:b= #[]:=by grind
 have e:Vyc (f+WQ) WQ=false:=by
  cases h:Vyc (f+WQ) WQ with
  |false=>rfl
  |true=>have:=Vj h;omega
 have k:Xa (f+WQ) (first.toList.map a.eval)=.func (.func f) (first.map a.eval) #[]:=by unfold Xa;rw[e,Ze,Nat.add_sub_cancel];simp [<-Vlb]
 refine Zu.pure d (val:=.func (.func f) (first.map a.eval) #[]) ?_ ⟨?_,.inr rfl⟩
 ·simp only[execOp,j,Vvc,i,Vb,Vd,Va,Vpc]
 ·simp only[CV];exact⟨first.toList.map a.eval,by simp [Vva,k],ZgZ _ hF c⟩
theorem Zb3{c:Call}{b:Builtin}{ty:TypeId}(e:c.callee=.builtin b):
 (do let d<-resolve a.eval c ty;invoke d.target d.args:Sem Next).run P w=(builtin b c.argTypes ty (c.args.map fun|.const _=>Uc|_=>Ud) (c.args.map a.eval)).run P w:=by
 unfold resolve;rw[e];rfl
theorem Zbl(v:Value):(#[v]:Array Value)[0]? =Ua v:=rfl
theorem Zp6{c:Call}(S:Z4 P E)(z:RH B H w g ow)(hF:Fr w g F a.tmps)(ho:o.op=.call c)(Z:c.callee=.builtin .len)
 (h:(ZS E nid o.op o.type (Zz F)).run H []=Ua ((v,patch),rd)):Zu B (Zs H patch) w g nid v ((execOp a.eval o).run P w):=by
 rw[ho]at h;simp only[ZS,Z]at h;split at h
 ·rename_i x T U A;simp only[Z2,Zj,Vc]at h;obtain⟨v',m,h,⟨rfl,rfl⟩,_⟩:=h;have j:=hF.eval x;have q:c.args.map a.eval= #[a.eval x]:=by
   have:c.args= #[x]:=by grind
   grind
  have fin:∀(n:Int),v' =.d (.int .i64) n->(Vab c.argTypes o.type #[a.eval x]).run P w=.ok (.int .i64 n) w->Zu B (Zs H []) w g nid v' ((execOp a.eval o).run P w):=by intro n hv hr;subst hv;refine Zu.pure z (val:=.int .i64 n) ?_ (J1 _ _);simp only[execOp,ho,Zb3 Z,builtin,q,Vb,hr,Va,Vd]
  have sl:∀(O:Option Addr) (n cap:Nat),JP (E.ty T)=Uc->a.eval x=.slice O n cap->(Vab c.argTypes o.type #[a.eval x]).run P w=.ok (.int .i64 n) w:=by
   intro O n cap i l;have:∃t,E.ty T=Ua (.sl t):=by
    cases R:E.ty T with
    |none=>rw[R]at i;simp [JP]at i
    |some t=>cases t<;>rw[R]at i<;>simp [JP]at i;simp
   obtain⟨t,R⟩:=this;obtain⟨Et,Y,_⟩:=Js S R;simp only[Vab,A,l,Zbl,underlying,Vb,run_program,Va,Y,Vd,goInt]
  unfold ZjU at h;split at h
  ·rename_i t xs f;simp only[ZO,Zj,Zb,ZU,Ka]at h;obtain⟨i,rfl,_⟩:=h;obtain⟨O,cap,C,l,_⟩:=(f▸j).sl;grind
  ·rename_i s f;simp only[ZO,Zj,Zb,ZU,Ka,Ki]at h;obtain⟨i,rfl,_⟩:=h;rw[f]at j;refine fin _ rfl ?_;simp only[Vab,A,VR.str j,underlying,Vb,run_program,Va,Zjd S i,Zbl,Vd,goInt];rfl
  ·rename_i f;simp only[ZO,Zj,Zb,ZU,Ka]at h;obtain⟨i,rfl,_⟩:=h;exact fin _ rfl (sl _ _ _ i (f▸j).nils)
  ·rename_i id lo n f;simp only[ZO,Zj,Zb,ZU,Ka]at h;obtain⟨i,rfl,_⟩:=h;obtain⟨_,Q⟩:=(f▸j).vs;rcases Q with ⟨_,_,rfl,Q⟩|⟨b,len,cap,m,_,_,_,_,Q⟩
   all_goals grind
  ·rename_i id f;simp only[ZO,Zb,ZU,Ka]at h;obtain⟨N,h⟩:=h;rw[Z3]at h;split at h
   ·rename_i t xs p;simp only[Zj]at h;obtain⟨rfl,_⟩:=h;obtain⟨_,l⟩:=(f▸j).vw;obtain⟨_,_,y⟩:=z.objs id _ p;grind
   ·rename_i t xs u a1 p;simp only[Zj]at h;obtain⟨rfl,_⟩:=h;obtain⟨_,l⟩:=(f▸j).vw;obtain⟨_,_,_,_,y⟩:=z.objs id _ p;grind
   ·rename_i t xs p;simp only[Zj]at h;obtain⟨rfl,_⟩:=h;obtain⟨O,cap,C,l,_⟩:=(Zga z p (f▸j)).sl;grind
   ·rename_i lb xs p;simp only[Zj]at h;obtain⟨rfl,_⟩:=h;obtain⟨_,l⟩:=(f▸j).vw;obtain⟨_,_,y⟩:=z.objs id _ p;rcases y with ⟨rfl,y⟩|⟨b,off,cap,cs,e,i,y,_⟩
    ·exact fin _ rfl (sl _ _ _ N (l.trans y))
    ·exact fin _ rfl (sl _ _ _ N (l.trans y))
   ·simp [Zb]at h
  ·rename_i id ver kt k f;simp only[ZO,Z2,Zj,Zb,ZU,Ka]at h;obtain⟨i,r,m1,D,rfl,_⟩:=h;obtain⟨_,_,_,_,M⟩:=Zbd z (f▸j) D;rcases M with ⟨Q,h2⟩|⟨b,cap,cs,e,C,h2,_⟩
   all_goals grind
  ·rename_i id f;simp only[ZO,Zb,ZU,Ka]at h;obtain⟨i,h⟩:=h;rw[Z3]at h;split at h
   ·rename_i kt vt mm p;simp only[Zj]at h;obtain⟨rfl,_⟩:=h;obtain⟨_,b,hb,l⟩:=(f▸j).mp;obtain⟨_,b',es,clock,G,_,hh,_,W⟩:=z.objs id _ p;rw[hb]at G;cases G;obtain⟨mt,X⟩:=Vqa.1 i;obtain⟨K,V,Y,_,_⟩:=S.mty T mt X;have J:(getObj b).run P w=.ok (.map es clock) w:=by simp only[getObj,Vbb,hh]
    refine fin _ rfl ?_;have L:es.size=mm.length:=by rw[W.length];simp
    simp only[Vab,A,l,underlying,Vb,run_program,Va,Y,Zbl,Vd,J,goInt,L]
   ·simp [Zb]at h
  ·simp [Zb]at h
 ·simp [Zb]at h
end ops
end Tr
end
section
namespace Tr
open Go
section ops
variable {P:Program}{E:Z9}{B:Z1}{H:AH}{w:World}{g:Gh}{ow:Nat->Nat->Prop}{nid:Nat}{a:Act}{F:Nat->AV}{v:AV}{patch:KF}{rd:List Nat}{o:Oper}
theorem ZgI{f:Int->Int->Int}{m2:Value->Value->Sem Value}(i:∀k x y w,(m2 (.int k x) (.int k y)).run P w=.ok (.int k (f x y)) w){k:IntKind}(hF:Fr w g F a.tmps):
 ∀(l:List Operand) (x:Int) (r e:List Nat) (v:AV),(Zbf f k x (l.map (Zz F))).run H r=Ua (v,e)->∃n,v=.d (.int k) n/\((l.map a.eval).foldlM m2 (.int k x)).run P w=.ok (.int k n) w
 |[],x,r,e,v,h=>by
  simp only[List.map_nil,Zbf,Zj]at h
  simp_all
 |y::l,x,r,e,v,h=>by
  have j:=hF.eval y;simp only[Vl]at h⊢;unfold Zbf at h;split at h
  ·grind
  ·rename_i t b u c;obtain⟨m,p⟩:=List.cons.inj c;subst p;simp only[ZO,Zb,ZU,Ka,Ki]at h;obtain⟨rfl,h⟩:=h;rw[m]at j;obtain⟨n,q,s⟩:=ZgI i hF l _ _ _ _ h;refine⟨n,q,?_⟩;rw[List.foldlM_cons,VR.int j,Vb,i];assumption
  ·simp [Zb]at h
theorem Zqd{c:Call}(j:RH B H w g ow)(hF:Fr w g F a.tmps)(e:o.op=.call c)(d:c.callee=.builtin .min)
 (h:(ZS E nid o.op o.type (Zz F)).run H []=Ua ((v,patch),rd)):Zu B (Zs H patch) w g nid v ((execOp a.eval o).run P w):=by
 rw[e]at h;simp only[ZS,d]at h;split at h
 ·rename_i x l b;have f:=hF.eval x;split at h
  ·rename_i k n p;simp only[Z2,Zj,Vc]at h;obtain⟨r,m,h,⟨rfl,rfl⟩,_⟩:=h;obtain⟨i,rfl,q⟩:=ZgI (P:=P) (m2:=Builtin.min2) (λ_ _ _ _=>rfl) hF l _ _ _ _ h;rw[p]at f;refine Zu.pure j (val:=.int k i) ?_ (J1 _ _);have:(Vbd c.argTypes o.type (c.args.map a.eval)).run P w=.ok (.int k i) w:=by unfold Vbd;rw[Vmb,b,Vl,VR.int f];omega
   simp only[execOp,e,Zb3 d,builtin,Vb,this,Va,Vd]
  ·simp [Zb]at h
 ·simp [Zb]at h
theorem Zqc{c:Call}(j:RH B H w g ow)(hF:Fr w g F a.tmps)(e:o.op=.call c)(d:c.callee=.builtin .max)
 (h:(ZS E nid o.op o.type (Zz F)).run H []=Ua ((v,patch),rd)):Zu B (Zs H patch) w g nid v ((execOp a.eval o).run P w):=by
 rw[e]at h;simp only[ZS,d]at h;split at h
 ·rename_i x l b;have f:=hF.eval x;split at h
  ·rename_i k n p;simp only[Z2,Zj,Vc]at h;obtain⟨r,m,h,⟨rfl,rfl⟩,_⟩:=h;obtain⟨i,rfl,q⟩:=ZgI (P:=P) (m2:=Builtin.max2) (λ_ _ _ _=>rfl) hF l _ _ _ _ h;rw[p]at f;refine Zu.pure j (val:=.int k i) ?_ (J1 _ _);have:(Vcd c.argTypes o.type (c.args.map a.eval)).run P w=.ok (.int k i) w:=by unfold Vcd;rw[Vmb,b,Vl,VR.int f];omega
   simp only[execOp,e,Zb3 d,builtin,Vb,this,Va,Vd]
  ·simp [Zb]at h
 ·simp [Zb]at h
theorem Zj6{x:Operand}{n:Int}(hF:Fr w g F a.tmps)(h:KW (Zz F x)=Ua n):∃k,a.eval x=.int k n:=by
 have b:=hF.eval x;unfold KW at h;split at h
 ·rename_i k m c;cases h;rw[c]at b;exact⟨k,VR.int b⟩
 grind
theorem Za0{len cap:Nat}{isS:Bool}{e d:Option Operand}{l h b:Nat}(hF:Fr w g F a.tmps)(p:cap<=b)
 (D:∀x∈e,(KW (Zz F x)).isSome) (A:∀x∈d,(KW (Zz F x)).isSome)
 (m:sliceB len cap (e.bind λo=>KW (Zz F o)) (d.bind λo=>KW (Zz F o))=Ua (l,h)) (C:len<=cap):
 (Vta isS len b (e.map a.eval) (d.map a.eval) Ub).run P w=.ok (l,h,b) w/\l<=h/\h<=cap:=by
 have bound:∀(x:Operand) (n:Int) (y:Nat) (code:BoundsCode),KW (Zz F x)=Ua n->0<=n->n<=y->(Vv (a.eval x) y code).run P w=.ok n.toNat w:=by intro x n y code G r j;obtain⟨k,z⟩:=Zj6 hF G;simp only[Vv,z,asIntOf,Vb,Vd,Va,r,j,and_self,if_true]
 unfold sliceB at m;simp only[Vk]at m;obtain⟨f,J,q⟩:=m
 have c:((match d.map a.eval,(none:Option Value) with
  |some v,Ua _=>Vv v b .slice3B
  |some v,none=>Vv v b (if isS then .sliceAcap else .sliceAlen)
  |none,none=>pure len
  |none,some _=>stuck "Slice: max without high"):Sem Nat).run P w=.ok f w∧f≤cap:=by
  cases d with
  |none=>simp_all
  |some x=>
   grind
 have i:((match e.map a.eval with
  |some v=>Vv v f (if (none:Option Value).isSome then .slice3C else .sliceB)
  |none=>pure 0):Sem Nat).run P w=.ok l w/\l<=f/\f=h:=by
  cases e with
  |none=>simp only[Vwa,ZL,Vc]at q;obtain⟨rfl,rfl⟩:=q;simp
  |some x=>
   grind
 obtain⟨j,s⟩:=c;obtain⟨t,u,rfl⟩:=i;refine⟨?_,u,s⟩;unfold Vta;cases d<;>cases e<;>simp only[Vm,Vi,Vb,Vd,Va,Vbc,Vda,if_false]at j t⊢ <;> (simp_all)<;> (simp_all)<;>simp_all
theorem KB.part{w:World}{b off:Nat}{css:List (List Value)}{s l n:Nat}(m:∀c∈css,c.length=s)(k:l<=css.length)(h:KB w b off css.flatten):KB w b (off+l*s) ((css.drop l).take n).flatten:=by
 have e:css.flatten=(css.take l).flatten++(((css.drop l).take n).flatten++((css.drop l).drop n).flatten):=by rw[<-Vca,Vtb,<-Vca,Vtb]
 have f:(css.take l).flatten.length=l*s:=by rw[Yt λc i=>m c (List.mem_of_mem_take i),List.length_take,Vrb k]
 intro j p;have d:l*s+j<css.flatten.length:=by grind
 have:=h (l*s+j) d;grind
theorem Zam{b:Option Operand}(h:XS (Zz F) b=Uc):∀x∈b,(KW (Zz F x)).isSome:=by intro x c;cases c;exact h
theorem Zqj{T:TypeId}{x:Operand}{lo hi:Option Operand}(u:Z4 P E)(K:RH B H w g ow)(hF:Fr w g F a.tmps)(N:o.op=.slice T x lo hi Ub)
 (h:(ZS E nid o.op o.type (Zz F)).run H []=Ua ((v,patch),rd)):Zu B (Zs H patch) w g nid v ((execOp a.eval o).run P w):=by
 rw[N]at h;simp only[ZS,ZO,Zb,ZU,false_or,Vh,Ve]at h;obtain⟨⟨k,j⟩,h⟩:=h;have k:=Zam k;have j:=Zam j;have O:=hF.eval x;split at h
 ·rename_i t xs D;simp only[ZO,ZA,Zj,Zb,ZU,false_or,Vh,Ki,Vc]at h;obtain⟨C,⟨l,d⟩,q,⟨rfl,rfl⟩,_⟩:=h;obtain⟨G,M,f⟩:=Js u C;obtain⟨m,cap,r,L,i,S,c⟩:=(D▸O).sl;obtain⟨y,A,z⟩:=Za0 (P:=P) (w:=w) (isS:=true) hF c k j q (Vf _);refine Zu.pure K (val:=.slice (if cap=l then m else m.map (·.add (l*t.size))) (d - l) (cap - l)) ?_ (KN ?_ rfl rfl)
  ·simp only[execOp,N,L,Vna,Vxa,Vm,underlying,Vb,run_program,Va,M,Vd,y,(u.ty G t f).run_sizeOf]
  ·simp only[CV,Rd];have p:((xs.drop l).take (d - l)).length=d - l:=by grind
   refine⟨_,cap - l,(r.drop l).take (d - l),by rw[p],(i.drop l).take _,λY=>?_,by omega⟩;have R:0<d - l:=by grind
   obtain⟨b,off,rfl,V,hL⟩:=S (by grind);refine⟨b,off+l*t.size,?_,V,KB.part (Rd.all_length i) (by rw[<-i.length];omega) hL⟩;rw[Zg (by omega)];simp only[Vi,ZL];unfold Addr.add;simp
 ·rename_i s D;simp only[ZO,ZA,Zj,Zb,ZU,false_or,Vh,Ki,Vc]at h;obtain⟨C,⟨l,d⟩,q,⟨rfl,rfl⟩,_⟩:=h;rw[D]at O;obtain⟨y,A,z⟩:=Za0 (P:=P) (w:=w) (isS:=Ud) hF (Vf _) k j q (Vf _);have Z:(⟨s.toArray⟩:ByteArray).size=s.length:=by rfl
  refine Zu.pure K (val:=.string ((⟨s.toArray⟩:ByteArray).extract l d)) ?_ ?_
  ·simp only[execOp,N,VR.str O,Vna,Vxa,Vm,underlying,Vb,run_program,Va,Zjd u C,Vd,Vbc,Vda,if_false,Z,y]
  ·have:(⟨s.toArray⟩:ByteArray).extract l d=⟨((s.drop l).take (d - l)).toArray⟩:=by apply ByteArray.ext;simp
   rw[this];exact Zd2 _
 ·rename_i D;split at h
  ·rename_i t C;simp only[ZA,Zj,Vc]at h;obtain⟨⟨l,d⟩,q,⟨rfl,rfl⟩,_⟩:=h;obtain⟨G,M,f⟩:=Js u C;have L:=(D▸O).nils;obtain⟨y,A,z⟩:=Za0 (P:=P) (w:=w) (isS:=true) hF (Vf 0) k j q (Vf _);have X:l=0:=by omega
   have W:d=0:=by omega
   subst X W;refine Zu.pure K (val:=.slice Ub 0 0) ?_ (by grind);simp only[execOp,N,L,Vna,Vxa,Vm,underlying,Vb,run_program,Va,M,Vd,y,(u.ty G t f).run_sizeOf];rfl
  ·simp [Zb]at h
 ·rename_i id D;rw[Z3]at h;split at h
  ·rename_i t xs U;simp only[ZO,ZA,Zb,ZU,false_or,Vh,Ki]at h;obtain⟨C,⟨l,d⟩,q,h⟩:=h;have hh:v=.vs id l (d - l)/\patch=[]:=by
    cases lo with
    |none=>
     simp only[Zj,Vc]at h;have S:0=l:=by simp only[sliceB,Vwa,Vk,ZL,Vc]at q;omega
     grind
    |some x=>
     simp only[Zj,Vc]at h;grind
   obtain⟨rfl,rfl⟩:=hh;obtain⟨G,M,f⟩:=Js u C;obtain⟨hk,L⟩:=(D▸O).vw;obtain⟨_,a2,J⟩:=K.objs id _ U;have key:∃(m:Option Addr) (cap:Nat),g.slv id=.slice m xs.length cap/\xs.length<=cap/\(∀l n,l+n<=xs.length->Zcc (g.slv id) t.size l n [.slice (if cap=l then m else m.map (·.add (l*t.size))) n (cap - l)]):=by
    rcases J with ⟨rfl,_,J⟩|⟨b,cap,cs,e,r,_,_,J,_,c,_⟩
    ·refine⟨Ub,0,J,Vf _,λl n Q=>.inl ⟨J,?_,?_,?_⟩⟩
     all_goals grind
    ·refine⟨_,cap,J,c,λl n Q=>.inr ⟨b,xs.length,cap,cap - l,J,Q,by omega,by omega,?_⟩⟩;congr 2;by_cases h0:cap=l
     ·grind
     ·rw[Zg h0,Zg (by omega)];simp only[Vi,ZL];unfold Addr.add;grind
   obtain⟨m,cap,hv,c,a1⟩:=key;obtain⟨y,A,z⟩:=Za0 (P:=P) (w:=w) (isS:=true) hF c k j q (Vf _);refine Zu.pure K (val:=.slice (if cap=l then m else m.map (·.add (l*t.size))) (d - l) (cap - l)) ?_ (KN ?_ rfl rfl)
   ·simp only[execOp,N,L,hv,Vna,Vxa,Vm,underlying,Vb,run_program,Va,M,Vd,y,(u.ty G t f).run_sizeOf]
   ·simp only[CV];grind
  ·rename_i t xs U;simp only[ZO,ZA,Zj,Zb,ZU,false_or,Vh,Ki,Vc]at h;obtain⟨C,⟨l,d⟩,q,⟨rfl,rfl⟩,_⟩:=h;obtain⟨G,M,f⟩:=Js u C;obtain⟨m,cap,r,L,i,S,c⟩:=(Zga K U (D▸O)).sl;obtain⟨y,A,z⟩:=Za0 (P:=P) (w:=w) (isS:=true) hF c k j q (Vf _);refine Zu.pure K (val:=.slice (if cap=l then m else m.map (·.add (l*t.size))) (d - l) (cap - l)) ?_ (KN ?_ rfl rfl)
   ·simp only[execOp,N,L,Vna,Vxa,Vm,underlying,Vb,run_program,Va,M,Vd,y,(u.ty G t f).run_sizeOf]
   ·simp only[CV,Rd];have p:((xs.drop l).take (d - l)).length=d - l:=by grind
    refine⟨_,cap - l,(r.drop l).take (d - l),by rw[p],(i.drop l).take _,λY=>?_,by omega⟩;have R:0<d - l:=by grind
    obtain⟨b,off,rfl,V,hL⟩:=S (by grind);refine⟨b,off+l*t.size,?_,V,KB.part (Rd.all_length i) (by rw[<-i.length];omega) hL⟩;rw[Zg (by omega)];simp only[Vi,ZL];unfold Addr.add;simp
  ·simp [Zb]at h
 ·simp [Zb]at h
end ops
end Tr
end
section
namespace Tr
open Go
theorem Zlx(off:Nat):∀(d:List Value) (k:Nat) (pre c post:List Value),c.length=d.length->pre.length=off+k->
 (d.zipIdx k).foldl (λ(cs:Array Value) x=>cs.setIfInBounds (off+x.2) x.1) (pre++c++post).toArray=(pre++d++post).toArray
 |[],k,pre,c,post,h,_=>by simp_all
 |x::d,k,pre,c,post,h,b=>by
  match c,h with
  |y::c,h=>
   simp only[List.zipIdx_cons,List.foldl_cons];have e:(pre++(y::c)++post).toArray.setIfInBounds (off+k) x=((pre++[x])++c++post).toArray:=by grind
   rw[e,Zlx off d (k+1) (pre++[x]) c post (by grind) (by grind)];simp
def DN(css:List (List Value))(b:List (Nat×Value)):List (List Value):=b.foldl (λcss p=>css.set p.1 p.2.cells.toList) css
theorem ZeU{place:Nat->Option (Nat×Nat)}{lens:List Nat}(k:∀i,(h:i<lens.length)->place i=Ua ((lens.take i).sum,lens[i])):∀(c:List (Nat×Value)) (css:List (List Value)),css.map Vja=lens->
 (∀p∈c,∃n,lens[p.1]? =Ua n/\p.2.cells.size=n)->Vsc place css.flatten.toArray c=Ua (DN css c).flatten.toArray/\(DN css c).map Vja=lens
 |[],css,j,_=>⟨rfl,j⟩
 |(i,v)::c,css,j,h=>by
  have ⟨n,s,u⟩:=h (i,v) (by simp);obtain⟨q,rfl⟩:=Vy.1 s;have r:i<css.length:=by grind
  have b:css.flatten=(css.take i).flatten++css[i]++(css.drop (i+1)).flatten:=by
   calc css.flatten=(css.take i++css[i]::css.drop (i+1)).flatten:=by simp
    _=_:=by grind
  have f:(css.take i).flatten.length=(lens.take i).sum:=by simp_all
  have l:css.set i v.cells.toList=css.take i++v.cells.toList::css.drop (i+1):=List.set_eq_take_append_cons_drop .. |>.trans (by grind);have d:(css.set i v.cells.toList).map Vja=lens:=by simp_all
  have ⟨t,m⟩:=ZeU k c (css.set i v.cells.toList) d (by grind);refine⟨?_,m⟩;unfold Vsc;simp only[k i q];rw[Zg]
  ·rw[<-Array.foldl_toList,Array.toList_zipIdx,b];have:=Zlx (lens.take i).sum v.cells.toList 0 (css.take i).flatten css[i] (css.drop (i+1)).flatten (by grind) f;have e:=this;rw[e];have:((css.take i).flatten++v.cells.toList++(css.drop (i+1)).flatten)=(css.set i v.cells.toList).flatten:=by grind
   rw[this];assumption
  grind
theorem ZfK:∀(b:List (Nat×Value)) (css:List (List Value)),G8 css.length (b.map (·.1))=Uc->∀j,j<css.length->
 (DN css b)[j]? =(match b.lookup j with|some v=>Ua v.cells.toList|none=>css[j]?)
 |[],css,_,j,_=>rfl
 |(i,v)::b,css,h,j,c=>by simp [Vl,G8,Ve]at h;have:=ZfK b (css.set i v.cells.toList) (by grind) j (by grind);show (DN (css.set i v.cells.toList) b)[j]? =_;grind
theorem ZfL:∀(b:List (Nat×Value)) (css:List (List Value)),(DN css b).length=css.length
 |[],_=>rfl
 |(i,v)::b,css=>by show (DN (css.set i v.cells.toList) b).length=_;rw[ZfL b,List.length_set]
section ops
variable {P:Program}{E:Z9}{B:Z1}{H:AH}{w:World}{g:Gh}{ow:Nat->Nat->Prop}{nid:Nat}{a:Act}{F:Nat->AV}{v:AV}{patch:KF}{rd:List Nat}{o:Oper}
def Zo.toL:Zo->List AV
 |.nil=>[]
 |.cons v l=>v::l.toL
theorem ZdQ:∀{l:Zo}{cs:List Value},Kg w g l cs↔∃css,cs=css.flatten/\Fa (CV w g) l.toL css
 |.nil,cs=>by
  constructor
  ·rintro rfl;exact⟨[],rfl,trivial⟩
  ·rintro ⟨css,rfl,h⟩
   match css,h with
   |[],_=>rfl
 |.cons v l,cs=>by
  constructor
  ·rintro ⟨e,i,rfl,b,d⟩;obtain⟨css,rfl,f⟩:=ZdQ.1 d;exact⟨e::css,rfl,b,f⟩
  ·rintro ⟨css,rfl,h⟩
   match css,h with
   |c::css,⟨b,d⟩=>exact⟨c,css.flatten,rfl,b,ZdQ.2 (by grind)⟩
theorem Zms:∀{l:Zo}{d:DV}{cs:List Value},G4 l=Ua d->Kg w g l cs->Rd w g.I d.1 d.2 cs
 |.nil,d,cs,h,b=>by
  simp [G4,ZL]at h
  subst h;assumption
 |.cons v l,d,cs,h,b=>by
  obtain⟨e,f,rfl,k,i⟩:=b
  cases v with
  |d t x=>
   simp [G4]at h
   cases c:G4 l with
   |none=>grind
   |some j=>
    rw[c]at h;simp [ZL]at h;subst h
    exact⟨e,f,rfl,by assumption,Zms c i⟩
  |_=>simp [G4]at h
theorem Zuw{l:Zo}{cs:List Value}(h:Kg w g l cs):CV w g (Zdf l) cs/\(Zdf l).isAgg=true:=by
 unfold Zdf
 cases b:G4 l with
 |none=>exact⟨by assumption,rfl⟩
 |some d=>
  refine⟨by simpa only[CV] using Zms b h,?_⟩
  cases l with
  |nil=>simp [G4,ZL]at b;subst b;rfl
  |cons v l=>
   cases v with
   |d t x=>
    simp [G4]at b;split at b
    ·cases b;rfl
    grind
   |_=>simp [G4]at b
theorem ZxM:∀(t:Ty) (cs:List Value),t.chain=Uc->t.data=Uc->Rd w g.I t (zeroEl t) cs->Kg w g (DS Uc t) cs:=by
 intro t
 induction t with
 |prod a b _ d=>
  intro cs f c h;simp only[Ty.data,Ve]at c;obtain⟨i,e,rfl,k,j⟩:=h;refine⟨i,e,rfl,?_,d e (by assumption) c.2 j⟩;simp only[Hz,c.1,Bool.true_or,Bool.and_true,Zd,CV]
  assumption
 |unit=>
  intro cs _ _ h
  assumption
 |_=>intro cs f;simp [Ty.chain]at f
def Ty.parts:Ty->List Ty
 |.prod a b=>a::b.parts
 |_=>[]
theorem ZhL:∀t:Ty,fieldsOf t=t.parts.length
 |.prod a b=>by simp [fieldsOf,Ty.parts,ZhL b]
 |.unit|.int _|.bool|.str|.sl _|.arr _ _|.ref|.pt _|.lk _ _|.pn _=>rfl
theorem ZmJ:∀(t:Ty) (n:Nat),t.chain=Uc->ZX t [n]=(t.parts[n]?).map λe=>(((t.parts.take n).map Ty.size).sum,e):=by
 intro t
 induction t with
 |prod a b _ d=>
  intro n c;have c:b.chain=true:=by assumption
  cases n with
  |zero=>simp [ZX,Ty.parts]
  |succ n=>
   simp only[ZX,d n c,Ty.parts,Vob,List.take_succ_cons,Vl,List.sum_cons]
   grind
 |unit=>intro n _;rfl
 |_=>intro n c;simp [Ty.chain]at c
theorem ZoW(z:Bool):∀t:Ty,(DS z t).toL=t.parts.map (Hz z)
 |.prod a b=>by simp [DS,Zo.toL,Ty.parts,Vl,ZoW z b]
 |.unit|.int _|.bool|.str|.sl _|.arr _ _|.ref|.pt _|.lk _ _|.pn _=>rfl
theorem ZgW(z:Bool)(c:List (Nat×AV)):∀(t:Ty) (k n:Nat),(RM z c t k).toL[n]? =(t.parts[n]?).map λd=>(c.lookup (k+n)).getD (Hz z d)
 |.prod a b,k,n=>by
  cases n with
  |zero=>rfl
  |succ n=>
   simp [RM,Zo.toL,Ty.parts,Vob]
   rw[ZgW z c b (k+1) n,show k+1+n=k+(n+1) by omega]
 |.unit,_,_|.int _,_,_|.bool,_,_|.str,_,_|.sl _,_,_|.arr _ _,_,_|.ref,_,_|.pt _,_,_|.lk _ _,_,_|.pn _,_,_=>rfl
theorem Zlr:∀{l:Zo}{t:Ty},l.fits t=Uc->∀{n:Nat}{v:AV},l.toL[n]? =Ua v->∃d,t.parts[n]? =Ua d/\v.fits d=Uc
 |.nil,t,_,n,v,h=>by simp [Zo.toL]at h
 |.cons x l,t,c,n,v,h=>by
  cases t with
  |prod a b=>
   simp only[Zo.fits,Ve]at c
   cases n with
   |zero=>simp only[Zo.toL,List.getElem?_cons_zero,ZL]at h;subst h;exact⟨a,rfl,c.1⟩
   |succ n=>exact Zlr c.2 h
  |_=>simp [Zo.fits]at c
theorem Zmj{α β:Type}{f:α->Option β}{g:α->β}:∀{l:List α},(∀x∈l,f x=Ua (g x))->l.mapM f=Ua (l.map g)
 |[],_=>rfl
 |x::l,h=>by rw[List.mapM_cons,h x (by simp),Zmj λy b=>h y (by simp [b])];rfl
theorem ZwR{T:TypeId}{n k:Ty}(x:Z4 P E)(h:E.ty T=Ua (.prod n k)):∃e c,P.underlying T=Ua (.struct e)/\k.chain=Uc/\
 e.toList.mapM (λf=>(P.info? f.type).map λi=>(f.offset,i.size))=Ua c/\∀i u,(Ty.prod n k).parts[i]? =Ua u->c[i]? =Ua ((((Ty.prod n k).parts.take i).map Ty.size).sum,u.size):=by
 have q:=(x.ty T _ h).shape
 cases A:P.underlying T with
 |none=>rw[A]at q;simp [Ke]at q
 |some d=>
  rw[A]at q
  cases d with
  |struct e=>
   simp [Ke,Ve,Vjb,Vvb]at q;have ⟨⟨j,m⟩,s⟩:=q;have b:(Ty.prod n k).chain=true:=s;have y:(Ty.prod n k).parts.length<=e.size:=by rw[ZmJ _ _ b]at m;grind
   refine⟨e,e.toList.map λf=>(f.offset,((E.ty f.type).map Ty.size).getD 0),rfl,s,Zmj λf C=>?_,?_⟩
   ·obtain⟨i,t,rfl⟩:=Vcb C;have l:i<e.size:=by omega
    have p:=j i l;rw[Vma l]at p
    cases D:ZX (.prod n k) [i] with
    |none=>grind
    |some r=>
     rw[D]at p;simp [Ve,Ki]at p;have ⟨K,z,l,G,_⟩:=(x.ty _ _ p.1.2).info;grind
   ·intro i u J;have t:i<e.size:=by grind
    have p:=j i t;rw[ZmJ _ _ b,Vma t,J]at p
    grind
  |_=>simp [Ke]at q
theorem ZaN{α β γ:Type}[BEq α](f:β->γ)(k:α):∀l:List (α×β),(l.map λp=>(p.1,f p.2)).lookup k=(l.lookup k).map f
 |[]=>rfl
 |(i,x)::l=>by simp [Vl,Vjc,ZaN f k l];grind
theorem Zfr{α β:Type}[BEq α][LawfulBEq α]{k:α}{x:β}:∀{l:List (α×β)},(l.map (·.1)).Nodup->(k,x)∈l->l.lookup k=Ua x
 |(i,y)::l,b,h=>by
  simp [Vl,Vqc]at b;rw[Vjc];rcases Vzc.1 h with h|h
  ·grind
  ·have:(k==i)=false:=by grind
   rw[this];exact Zfr b.2 h
theorem Zfy{n:Nat}:∀{l:List Nat},G8 n l=Uc->l.Nodup/\∀i∈l,i<n
 |[],_=>by simp
 |i::l,h=>by
  simp only[G8,Ve]at h;have ⟨⟨c,e⟩,d⟩:=h;have ⟨f,k⟩:=Zfy d;refine⟨by grind,?_⟩;intro j b;rcases Vzc.1 b with rfl|b
  ·exact Vj c
  grind
theorem ZxJ(z:Bool)(t:Ty):(Hz z t).fits t=true:=by
 unfold Hz
 cases b:t.data&&(z|| !t.isSl) with
 |true=>simp [AV.fits]
 |false=>cases t<;>simp [Zgi,AV.fits]
theorem ZxL{d b:Ty}{cs:List Value}(x:Bool)(c:b.chain=Uc)(h:Dl (.prod d b) cs=Uc):∃css,cs=css.flatten/\Fa (CV w g) ((Ty.prod d b).parts.map (Hz ((Ty.prod d b).data&& !x))) css:=by
 rw[<-ZoW];apply ZdQ.1
 cases x with
 |true=>rw[Bool.not_true,Bool.and_false];exact(Zgg _ _ (ZoY c h)).1
 |false=>
 unfold Dl at h
 cases e:(Ty.prod d b).data with
 |true=>
  rw[e]at h
  exact ZxM _ _ c e (ZdM _ _ h)
 |false=>
  rw[e]at h;exact(Zgg _ _ h).1
theorem ZoZ{z:Bool}:∀{l:List Ty}{css:List (List Value)},Fa (CV w g) (l.map (Hz z)) css->css.map Vja=l.map Ty.size
 |[],[],_=>rfl
 |t::l,c::css,⟨b,d⟩=>by rw[Vl,Vl,CV.length _ t c (ZxJ z t) b,ZoZ d]
theorem Zs0{v:AV}{t:Ty}(h:v.fits t=Uc):∀l,v≠ .tup l:=by rintro l rfl;simp [AV.fits]at h
theorem ZqO{T:TypeId}{f h:Ty}{e:List (Nat×Operand)}(R:Z4 P E)(W:E.ty T=Ua (.prod f h))(hF:Fr w g F a.tmps)(hp:G8 (fieldsOf (.prod f h)) (e.map (·.1))=Uc)
 (x:Bool) (Z:(RM (Ty.data (.prod f h)&& !x) (e.map λp=>(p.1,Zz F p.2)) (.prod f h) 0).fits (.prod f h)=Uc):
 ∃cells,P.built T (e.map λp=>(p.1,a.eval p.2))=Ua cells/\Kg w g (RM (Ty.data (.prod f h)&& !x) (e.map λp=>(p.1,Zz F p.2)) (.prod f h) 0) cells.toList:=by
 obtain⟨fs,r,hu,J,a1,u⟩:=ZwR R W;obtain⟨i,z,hi,_,_,hz,A,_⟩:=(R.ty T _ W).info;obtain⟨d,S,s⟩:=ZxL (w:=w) (g:=g) x J A;have j:=Zfy hp;have l:d.map Vja=(Ty.prod f h).parts.map Ty.size:=ZoZ s;have hn:d.length=(Ty.prod f h).parts.length:=by have:=congrArg Vja l;grind
 have G:∀k y,(k,y)∈e->∃m,(Ty.prod f h).parts[k]? =Ua m/\(Zz F y).fits m=Uc/\e.lookup k=Ua y:=by intro k y O;have V:=Zfr j.1 O;have U:=j.2 k (by grind);rw[ZhL]at U;have C:=ZgW (Ty.data (.prod f h)&& !x) (e.map λp=>(p.1,Zz F p.2)) (.prod f h) 0 k;rw[ZaN,Vp,V,Vt U]at C;obtain⟨m,X,D⟩:=Zlr Z C;grind
 have K:∀x m,(Zz F x).fits m=Uc->CV w g (Zz F x) (a.eval x).cells.toList:=λx m O=>((hF.eval x).to1 (Zs0 O)).1;have L:=ZeU (place:=(r.toArray[·]?)) (by
  simp_all) (e.map λp=>(p.1,a.eval p.2)) d l (by
  intro p N;obtain⟨q,hq,rfl⟩:=Vpb.1 N;obtain⟨m,X,D,_⟩:=G q.1 q.2 hq;refine⟨m.size,by grind,?_⟩;have:=CV.length _ m _ D (K q.2 m D);omega)
 refine⟨(DN d (e.map λp=>(p.1,a.eval p.2))).flatten.toArray,?_,?_⟩
 ·unfold Program.built;have a2:z.cells=d.flatten.toArray:=by grind
  grind
 ·apply ZdQ.2;refine⟨DN d (e.map λp=>(p.1,a.eval p.2)),rfl,ZcX ?_ ?_⟩
  ·rw[ZfL];have:∀z (t:Ty) e k,(RM z e t k).toL.length=t.parts.length:=by
    intro z t
    induction t with
    |prod a b _ Q=>intro e k;simp [RM,Zo.toL,Ty.parts,Q]
    |_=>intro e k;rfl
   grind
  ·intro n v c hv Y;rw[ZgW,ZaN,Vp]at hv;have M:n<d.length:=by grind
   rw[ZfK _ _ (by rw[Vqb,hn,<-ZhL];assumption) n M,ZaN]at Y
   cases V:e.lookup n with
   |none=>
    obtain⟨c',h1,C⟩:=s.get n v (by grind)
    grind
   |some x=>
    grind
theorem Zej{t:Ty}{b:List (Nat×AV)}:∀{m k:Nat}{l:List (El t)},Zan t b m k=Ua l->l.length=m/\∀j,(h:j<l.length)->(b.lookup (k+j)).getD (.d t (zeroEl t))=.d t l[j]
 |0,k,l,h=>by
  simp [Zan]at h
  grind
 |m+1,k,l,h=>by
  simp [Zan]at h;split at h
  ·rename_i q x n;simp [Vk]at h;have ⟨y,e,p,c,h⟩:=h;cases h;obtain⟨rfl,rfl⟩:=KK e;have ⟨f,i⟩:=Zej c;grind
  grind
theorem ZmZ{c:List (Nat×Operand)}:∀{b:List (Nat×AV)},Fa (λp q=>q.1=p.1/\VR w g q.2 (a.eval p.2)) c b->∀k,(c.lookup k=Ub/\b.lookup k=Ub)\/∃x v,c.lookup k=Ua x/\b.lookup k=Ua v/\VR w g v (a.eval x):=by
 induction c with
 |nil=>intro b h k;cases b with|nil=>simp|cons q b=>exact h.elim
 |cons p c i=>
  intro b h k
  cases b with
  |nil=>exact h.elim
  |cons q b=>
   have ⟨⟨d,e⟩,f⟩:=h;grind
theorem Zm0(hF:Fr w g F a.tmps):∀b:List (Nat×Operand),Fa (λp q=>q.1=p.1/\VR w g q.2 (a.eval p.2)) b (b.map λp=>(p.1,Zz F p.2))
 |[]=>trivial
 |p::b=>⟨⟨rfl,hF.eval p.2⟩,Zm0 hF b⟩
theorem Zkn{e:Ty}{s:List (Nat×Operand)}{M:List (Nat×AV)}{n:Nat}{l:List (El e)}{css:List (List Value)}(C:Fa (λp q=>q.1=p.1/\VR w g q.2 (a.eval p.2)) s M)(T:G8 n (s.map (·.1))=Uc)
 (Q:Zan e M n 0=Ua l) (j:Fa (Rd w g.I e) (Vg n (zeroEl e)) css):
 ∃f,Vsc (λi=>Ua (i*e.size,e.size)) css.flatten.toArray (s.map λp=>(p.1,a.eval p.2))=Ua f.flatten.toArray/\Fa (Rd w g.I e) l f:=by
 obtain⟨J,h⟩:=Zej Q;have b:=Zfy T;have O:css.length=n:=by rw[<-j.length,Vw]
 have m:css.map Vja=Vg n e.size:=by apply List.eq_replicate_iff.2;refine⟨by grind,?_⟩;intro c A;obtain⟨d,R,rfl⟩:=Vpb.1 A;exact Rd.all_length j d R
 have G:∀k x,s.lookup k=Ua x->(u:k<l.length)->Rd w g.I e l[k] (a.eval x).cells.toList:=by
  intro k x L u;have r:=h k u;rw[Vp]at r;rcases ZmZ C k with ⟨t,_⟩|⟨V,U,t,z,D⟩
  ·grind
  rw[L]at t;cases t;rw[z]at r;simp only[Vu]at r;rw[r]at D;have y:Ku w g (.d e l[k]) (a.eval x):=D;simpa only[CV] using y.1
 obtain⟨r,D⟩:=ZeU (place:=λi=>Ua (i*e.size,e.size)) (by
  intro i N;simp only[Vw]at N;simp [Vyb,Vrb (Nat.le_of_lt N)]) (s.map λp=>(p.1,a.eval p.2)) css m (by
  intro p K;obtain⟨q,C,rfl⟩:=Vpb.1 K;have u:=b.2 q.1 (by grind);refine⟨e.size,by grind,?_⟩;have:=Rd.length _ _ _ (G q.1 q.2 (Zfr b.1 C) (by omega));omega)
 refine⟨_,r,ZcX (by rw[ZfL,J,O]) ?_⟩;intro k x c L A;obtain⟨u,rfl⟩:=Vy.1 L;rw[ZfK _ _ (by rw[Vqb,O];assumption) k (by omega),ZaN]at A
 cases S:s.lookup k with
 |none=>
  rw[S]at A;have y:=h k u;rw[Vp]at y;have z:M.lookup k=none:=by
   rcases ZmZ C k with ⟨_,z⟩|⟨V,U,t,_⟩
   all_goals grind
  rw[z]at y;obtain⟨W,X,t⟩:=j.get k (zeroEl e) (by grind)
  grind
 |some x=>
  grind
theorem Zj4{T:TypeId}{n:Nat}{t:Ty}(f:Z4 P E)(h:E.ty T=Ua (.arr n t)):∃c,P.underlying T=Ua (.array n c)/\E.ty c=Ua t:=by
 have b:=(f.ty T _ h).shape
 cases e:P.underlying T with
 |none=>rw[e]at b;simp [Ke]at b
 |some d=>
  rw[e]at b;cases d<;>simp [Ke]at b
  grind
end ops
end Tr
end
section
namespace Tr
open Go
section
variable {B:Z1}{H:AH}{w:World}{g:Gh}{ow:Nat->Nat->Prop}{F:Nat->AV}{I:Nat->Prop}
theorem KB.of_vec{b:Nat}{cs:Array Value}{e:TypeId}{css:List (List Value)}(f:w.heap[b]? =Ua (.cells cs e (0,0)))(d:css.flatten<+:cs.toList):KB w b 0 css.flatten:=by
 intro j i;have ⟨r,k⟩:=d;have c:css.flatten.length<=cs.toList.length:=by grind
 simp [Vkc,f,if_false];have h:j<cs.size:=by grind
 congr 1;have:cs.toList[j]'(by omega)=css.flatten[j]:=by grind
 grind
theorem Zqu(t:Ty)(cs:List Value)(x:List (El t))(ids l c:List Nat)(h:(Kk (.sl t) (.nils)).run H l=Ua ((x,ids),c))(b:CV w g (.nils) cs):Rd w I (.sl t) x cs:=by obtain⟨⟨rfl,rfl⟩,_⟩:=h;exact⟨Ub,0,[],b,trivial,by simp,Vf _⟩
theorem Zqy(i:RH B H w g ow)(f:∀b,g.I b->I b)(t:Ty){id:Nat}(cs:List Value)(x:List (El t))(ids l p:List Nat)(h:(Kk (.sl t) (.vw id)).run H l=Ua ((x,ids),p))(k:CV w g (.vw id) cs)(m:∀b,ZP H ow ids b->I b):Rd w I (.sl t) x cs:=by
 simp only[Kk]at h;rw[Z3]at h;split at h
 ·rename_i n xs c;simp only[ZA,Vc]at h;obtain⟨y,e,⟨rfl,rfl⟩,_⟩:=h;obtain⟨d,rfl⟩:=KK e;cases d;rw[k.2.1];exact ZoM (i.objs id _ c).2 f λb j=>m b ⟨id,by simp,by grind,j⟩
 ·rename_i n xs u c;simp only[ZA,Vc]at h;obtain⟨y,e,⟨rfl,rfl⟩,_⟩:=h;obtain⟨d,rfl⟩:=Zbu e;subst d;rw[k.2.1];exact ZnR (i.objs id _ c).2 f λb j=>m b ⟨id,by simp,by grind,j⟩
 ·rename_i n xs c;simp only[ZA,Vc]at h;obtain⟨y,e,⟨rfl,rfl⟩,_⟩:=h;obtain⟨d,rfl⟩:=KK e;cases d;rw[k.2.1];exact Rd.mono (λ_ _=>rfl) f _ _ _ (i.objs id _ c).2.2
 ·simp [Zb]at h
theorem Zqv(s:RH B H w g ow)(p:∀b,g.I b->I b)(t:Ty){id ver:Nat}{i:Ty}{k:El i}(cs:List Value)(x:List (El t))(ids l C:List Nat)(h:(Kk (.sl t) (.nw id ver i k)).run H l=Ua ((x,ids),C))(j:CV w g (.nw id ver i k) cs)(q:∀b,ZP H ow ids b->I b):Rd w I (.sl t) x cs:=by simp [Kk,Z2,ZA,Zj]at h;obtain⟨r,m,c,y,A,⟨rfl,rfl⟩,_⟩:=h;obtain⟨z,rfl⟩:=Zbu A;have ⟨D,row⟩:=r;subst z;have e:=j;obtain⟨_,_,v,rfl,n,_⟩:=j;have ⟨f,_,_,_,d⟩:=Zbd s (KN e n rfl) c;exact d.data p λb u=>q b ⟨id,by simp,f,u⟩
theorem Zqx(C:RH B H w g ow)(z:∀b,g.I b->I b)(t:Ty){id d n:Nat}(cs:List Value)(x:List (El t))(ids l Q:List Nat)(h:(Kk (.sl t) (.vs id d n)).run H l=Ua ((x,ids),Q))(D:CV w g (.vs id d n) cs)(A:∀b,ZP H ow ids b->I b):Rd w I (.sl t) x cs:=by
 simp [Kk]at h;rw[Z3]at h;split at h
 ·rename_i V xs u;simp [ZA,Vc]at h;obtain⟨y,O,⟨rfl,rfl⟩,_⟩:=h;obtain⟨G,rfl⟩:=KK O;cases G;have ⟨_,M⟩:=D;have ⟨_,L,j⟩:=C.objs id _ u;rcases M with ⟨s,rfl,rfl,rfl⟩|⟨b,len,cap,m,s,S,T,U,rfl⟩
  ·exact⟨Ub,0,[],by simp,by trivial,by simp,by simp⟩
  ·rcases j with ⟨_,_,i⟩|⟨R,r,cells,e,p,_,K,i,J,_,_,f,k⟩
   ·grind
   ·rw[s]at i;obtain⟨rfl,rfl,rfl⟩:=i;refine⟨Ua ⟨b,if m=0 then 0 else d*t.size,Ub⟩,m,(p.drop d).take n,?_,((f.drop d).take n).mono λx c N=>Rd.mono (λ_ _=>rfl) z t x c N,λq=>⟨b,d*t.size,?_,A b ⟨id,by simp,by grind,K⟩,?_⟩,?_⟩
    ·grind
    ·have:0<((xs.drop d).take n).length:=Vzb.2 q;grind
    ·have:=KB.part (l:=d) (n:=n) (Rd.all_length f) (by rw[<-f.length];omega) (KB.of_vec J k);grind
    grind
 ·simp [Zb]at h
theorem ZmE{a b:Ty}{y:El (ZaP a b)}{p off:Nat}{c:List Value}(l:I p)(k:KB w p off c)(h:Rd w I (ZaP a b) y c):Rd w I (.lk a b) ((y.1,y.2.2)::y.2.1) [.pointer (Ua ⟨p,off,Ub⟩)]:=by obtain⟨d,m,rfl,f,c3,e,rfl,i,j⟩:=h;exact⟨p,off,d,c3,e,rfl,l,k,f,i,j⟩
theorem Zqs(e:∀b,g.I b->I b)(a b:Ty){d:Ty}{y:El d}(cs:List Value)(x:List (El a×El b))(ids l n:List Nat)(h:(Kk (.lk a b) (.dp d y)).run H l=Ua ((x,ids),n))(k:CV w g (.dp d y) cs):Rd w I (.lk a b) x cs:=by simp only[Kk,ZA,Vc]at h;obtain⟨z,m,⟨rfl,rfl⟩,_⟩:=h;obtain⟨rfl,rfl⟩:=KK m;obtain⟨p,off,c,rfl,f,i,j⟩:=k;exact ZmE (e _ f) i (Rd.mono (λ_ _=>rfl) e _ _ _ j)
theorem ZoL(r:RH B H w g ow)(p:∀b,g.I b->I b){id:Nat}{x f:Ty}{y:El f}{cs:List Value}(j:H id=Ua (.var x (.d f y)))(s:CV w g (.ptr id []) cs)(q:∀b,ZP H ow [id] b->I b):∃b cells e,cs=[.pointer (Ua ⟨b,0,Ub⟩)]/\I b/\w.heap[b]? =Ua (.cells cells e (0,0))/\Rd w I f y cells.toList:=by obtain⟨_,o,t,b,h,k,rfl⟩:=s;have ⟨_,u,C,z,c,e,i,l,m,A,n⟩:=r.objs id _ j;rw[WR,ZL,Vc]at h;obtain⟨rfl,_⟩:=h;rw[k]at i;cases i;exact⟨b,c,e,rfl,q b ⟨id,by simp,by rw[j];simp,l⟩,m,Rd.mono (λ_ _=>rfl) p _ _ _ n⟩
theorem Zqw(f:RH B H w g ow)(d:∀b,g.I b->I b)(t:Ty){id:Nat}(cs:List Value)(x:Option (El t))(ids l k:List Nat)(h:(Kk (.pt t) (.ptr id [])).run H l=Ua ((x,ids),k))(i:CV w g (.ptr id []) cs)(e:∀b,ZP H ow ids b->I b):Rd w I (.pt t) x cs:=by
 simp [Kk,Vlc,Zd]at h;rw[Z3]at h;split at h
 ·rename_i n m y c;simp [ZA,Zj]at h;obtain⟨z,j,⟨rfl,rfl⟩,_⟩:=h;obtain⟨rfl,rfl⟩:=KK j;exact ZoL f d c i e
 ·simp [Zb]at h
theorem Zqt(n:RH B H w g ow)(k:∀b,g.I b->I b)(a b:Ty){id:Nat}(cs:List Value)(x:List (El a×El b))(ids l s:List Nat)(h:(Kk (.lk a b) (.ptr id [])).run H l=Ua ((x,ids),s))(q:CV w g (.ptr id []) cs)(m:∀b,ZP H ow ids b->I b):Rd w I (.lk a b) x cs:=by
 simp [Kk,Vlc,Zd]at h;rw[Z3]at h;split at h
 ·rename_i u t y j;simp only[ZA,Vc]at h;obtain⟨z,r,⟨rfl,rfl⟩,_⟩:=h;obtain⟨rfl,rfl⟩:=KK r;obtain⟨p,c,e,rfl,d,f,i⟩:=ZoL n k j q m;refine ZmE d ?_ i;have:=KB.of_vec (css:=[c.toList]) f (by simp);simpa using this
 ·simp [Zb]at h
mutual
theorem RK(j:RH B H w g ow)(i:∀b,g.I b->I b):∀(t:Ty) (v:AV) (cs:List Value) (x:El t) (ids l e:List Nat),(Kk t v).run H l=Ua ((x,ids),e)->CV w g v cs->(∀b,ZP H ow ids b->I b)->Rd w I t x cs
 |t,.d M y,cs,x,ids,l,e,h,c,_=>by
  simp only[Kk,ZA,Zj,Vc]at h;obtain⟨z,J,⟨rfl,rfl⟩,_⟩:=h;obtain⟨rfl,rfl⟩:=KK J
  exact Rd.mono (λ_ _=>rfl) i _ _ cs (by simpa only[CV] using c)
 |t,.nils,cs,x,ids,l,e,h,c,f=>by
  cases t with
  |sl t=>exact Zqu t cs x ids l e h c
  |_=>simp [Kk,Zb]at h
 |t,.vw id,cs,x,ids,l,e,h,c,f=>by
  cases t with
  |sl t=>exact Zqy j i t cs x ids l e h c f
  |_=>simp [Kk,Zb]at h
 |t,.vs id R n,cs,x,ids,l,e,h,c,f=>by
  cases t with
  |sl t=>exact Zqx j i t cs x ids l e h c f
  |_=>simp [Kk,Zb]at h
 |t,.nw id ver Q k,cs,x,ids,l,e,h,c,f=>by
  cases t with
  |sl t=>exact Zqv j i t cs x ids l e h c f
  |_=>simp [Kk,Zb]at h
 |t,.np _ _ _ _ _ _,_,_,_,_,_,h,_,_=>by simp [Kk,Zb]at h
 |t,.agg vs,cs,x,ids,l,e,h,c,f=>by
  simp only[Kk]at h;simp only[CV]at c
  exact Zj5 j i t vs cs x ids l e h c f
 |t,.junk,_,_,_,_,_,h,_,_=>by simp [Kk,Zb]at h
 |t,.tup _,_,_,_,_,_,h,_,_=>by simp [Kk,Zb]at h
 |t,.dp M y,cs,x,ids,l,e,h,c,f=>by
  cases t with
  |lk a b=>exact Zqs i a b cs x ids l e h c
  |_=>simp [Kk,Zb]at h
 |t,.ptr id [],cs,x,ids,l,e,h,c,f=>by
  cases t with
  |pt t=>exact Zqw j i t cs x ids l e h c f
  |lk a b=>exact Zqt j i a b cs x ids l e h c f
  |_=>simp [Kk,Zb]at h
 |t,.ptr id (_::_),cs,x,ids,l,e,h,c,f=>by
  cases t<;>simp [Kk,Zb]at h
 |t,.vp _ _ _,_,_,_,_,_,h,_,_=>by simp [Kk,Zb]at h
 |t,.mp _,_,_,_,_,_,h,_,_=>by simp [Kk,Zb]at h
 |t,.fn _ _,_,_,_,_,_,h,_,_=>by simp [Kk,Zb]at h
 |t,.nilr p,cs,x,ids,l,e,h,c,_=>by
  cases p with
  |true=>
   have c:=ZmB c
   cases t with
   |pt t=>
    simp only[Kk,Zd,Zj,Vc]at h;obtain⟨⟨rfl,_⟩,_⟩:=h
    exact c
   |lk a b=>
    simp only[Kk,Zd,Zj,Vc]at h;obtain⟨⟨rfl,_⟩,_⟩:=h
    exact c
   |pn t=>
    simp only[Kk,Zd,Zj,Vc]at h;obtain⟨⟨rfl,_⟩,_⟩:=h
    exact c
   |_=>simp [Kk,Zb]at h
  |false=>cases t<;>simp [Kk,Zb]at h
 |t,.jk _,_,_,_,_,_,h,_,_=>by simp [Kk,Zb]at h
theorem Zj5(j:RH B H w g ow)(i:∀b,g.I b->I b):∀(t:Ty) (v:Zo) (cs:List Value) (x:El t) (ids l e:List Nat),(Yb t v).run H l=Ua ((x,ids),e)->Kg w g v cs->(∀b,ZP H ow ids b->I b)->Rd w I t x cs
 |.unit,.nil,cs,x,ids,l,e,h,c,_=>by simpa [Kg,Rd] using c
 |.prod a b,.cons v vs,cs,x,ids,l,e,h,c,f=>by
  simp only[Yb,Z2,Zj,Vc]at h;obtain⟨⟨N,K⟩,S,A,⟨O,L⟩,m2,C,⟨rfl,rfl⟩,_⟩:=h;simp only[Kg]at c;obtain⟨s,u,rfl,D,G⟩:=c;simp only[Rd]
  exact⟨s,u,rfl,RK j i a v s N K _ _ A D λb m=>f b (let ⟨id,q,r⟩:=m;⟨id,by simp [q],r⟩),Zj5 j i b vs u O L _ _ C G λb m=>f b (let ⟨id,q,r⟩:=m;⟨id,by simp [q],r⟩)⟩
 |.unit,.cons _ _,_,_,_,_,_,h,_,_=>by simp [Yb,Zb]at h
 |.prod _ _,.nil,_,_,_,_,_,h,_,_=>by simp [Yb,Zb]at h
 |.int _,_,_,_,_,_,_,h,_,_=>by simp [Yb,Zb]at h
 |.bool,_,_,_,_,_,_,h,_,_=>by simp [Yb,Zb]at h
 |.str,_,_,_,_,_,_,h,_,_=>by simp [Yb,Zb]at h
 |.sl _,_,_,_,_,_,_,h,_,_=>by simp [Yb,Zb]at h
 |.arr _ _,_,_,_,_,_,_,h,_,_=>by simp [Yb,Zb]at h
 |.ref,_,_,_,_,_,_,h,_,_=>by simp [Yb,Zb]at h
 |.pt _,_,_,_,_,_,_,h,_,_=>by simp [Yb,Zb]at h
 |.lk _ _,_,_,_,_,_,_,h,_,_=>by simp [Yb,Zb]at h
 |.pn _,_,_,_,_,_,_,h,_,_=>by simp [Yb,Zb]at h
end
theorem ZsN{t:Ty}{x:El t}{u:Ty}(h:(Hl t x).fits t=Uc)(_:u=t):t.agg=true:=by
 cases t<;>simp [Hl,Zo.fits]at h<;>rfl
theorem ZgN{t:Ty}{v:AV}{r:El t×List Nat}{l c:List Nat}(h:(Kk t v).run H l=Ua (r,c)):v≠ .junk/\v.isAgg=t.agg:=by
 cases v with
 |d e x=>
  simp only[Kk,ZA]at h;obtain⟨z,b,_⟩:=h;obtain⟨rfl,_⟩:=KK b
  exact⟨by simp,rfl⟩
 |agg vs=>
  simp only[Kk]at h
  cases t<;>cases vs<;>simp [Yb,Zb]at h<;>exact⟨by simp,rfl⟩
 |ptr id p=>cases p<;>cases t<;>simp [Kk,Zb]at h<;>exact⟨by simp,rfl⟩
 |nilr p=>cases p<;>cases t<;>simp [Kk,Zb]at h<;>exact⟨by simp,rfl⟩
 |_=>cases t<;>simp [Kk,Zb]at h<;>exact⟨by simp,rfl⟩
theorem ZmW{i j:List Nat}(h:∀id∈i,id∈j){b:Nat}(e:ZP H ow i b):ZP H ow j b:=
 let ⟨id,c,d⟩:=e;⟨id,h id c,d⟩
theorem RH.freezeIds{ids:List Nat}(d:RH B H w g ow):RH B (Zs H (ids.map λid=>(id,Ub))) w (g.grow (ZP H ow ids)) ow:=by
 refine(d.drops ids).grow λb i=>?_;have ⟨k,h,e,f⟩:=i;have ⟨p,q,r⟩:=d.sep k b e f;refine⟨q,.inr r,λid c l=>?_⟩;rw[Rb]at c;split at c
 ·grind
 ·rename_i j;exact j (d.dist id k b c e l f▸h)
theorem ZcR{B A:Z1}{q:AH}{w0:World}{g0:Gh}{e:Nat->Nat->Prop}(k:RH A q w0 g0 e){w:World}{g:Gh}(c:g0.Le g)(i:∀b,g0.I b->w.heap[b]? =w0.heap[b]?):∀(br:List Nat) (ds:KF) (l y:List Nat),(RO br).run q l=Ua (ds,y)->(∀id∈br,∀b,q id≠Ub->e id b->g.I b/\w.heap[b]? =w0.heap[b]?)->
 ∀{H:AH}{ow:Nat->Nat->Prop},RH B H w g ow->∃z,RH B (Zs H ds) w g z
 |[],ds,l,y,h,_,H,ow,d=>by
  obtain⟨rfl,_⟩:=h
  exact⟨ow,d⟩
 |id::br,ds,l,y,h,D,H,ow,d=>by
  simp [RO]at h;rw[Z3]at h;split at h
  ·rename_i t xs s;simp [Z2]at h;obtain⟨p,m,r,rfl,_⟩:=h;have ⟨f,j⟩:=k.objs id _ s;have C:q id≠none:=by grind
   have x:Rd w g.I (.sl t) xs [g.slv id]:=by rw[c.slv _ f];exact Rd.mono (I:=λb=>g0.I b\/e id b) (λb n=>by grind) (λb n=>n.elim (c.I b) (by grind)) _ _ _ (ZoM j (by grind) (by grind))
   exact ZcR k c i br p _ _ r (by grind) (d.putDat (c.K _ f) ((c.ty _ f).trans j.1) x)
  ·rename_i t xs u s;simp [Z2]at h;obtain⟨p,m,r,rfl,_⟩:=h;have ⟨f,j⟩:=k.objs id _ s;have x:Rd w g.I (.sl (.sl t)) xs [g.slv id]:=by rw[c.slv _ f];exact Rd.mono (I:=λb=>g0.I b\/e id b) (λb n=>by grind) (λb n=>n.elim (c.I b) (by grind)) _ _ _ (ZnR j (by grind) (by grind))
   exact ZcR k c i br p _ _ r (by grind) (d.putDat (c.K _ f) ((c.ty _ f).trans j.1) x)
  ·exact ZcR k c i br ds _ _ h (by grind) d
theorem Zu.dats{B:Z1}{H1:AH}{nid:Nat}{v:AV}{r:Result Next}{ids:List Nat}{ds:KF}{l x:List Nat}(u:RH B H w g ow)(j:(RO ids).run H l=Ua (ds,x))(h:Zu B H1 w (g.grow (ZP H ow ids)) nid v r):Zu B (Zs H1 ds) w (g.grow (ZP H ow ids)) nid v r:=by have ⟨val,z,m,y,n,p,f,i,q,s⟩:=h;have ⟨k,t⟩:=ZcR u ((g.le_grow _).trans f) (λb e=>i b (.inl e)) ids ds _ _ j (λid c b d e=>⟨f.I b (.inr ⟨id,c,d,e⟩),i b (.inr ⟨id,c,d,e⟩)⟩) p;exact⟨val,z,m,k,n,t,f,i,q,s⟩
theorem Zly{a:Act}{e:Ty}(s:RH B H w g ow)(hF:Fr w g F a.tmps){J:Nat->Prop}:∀(d:List (Nat×Operand)) (f:List (Nat×AV)) (ids l k:List Nat),(Ze2 e (d.map λp=>(p.1,Zz F p.2))).run H l=Ua ((f,ids),k)->
 (∀b,ZP H ow ids b->J b)->Fa (λp q=>q.1=p.1/\VR w (g.grow J) q.2 (a.eval p.2)) d f
 |[],f,ids,l,k,h,_=>by
  obtain⟨⟨rfl,_⟩,_⟩:=h
  trivial
 |p::d,f,ids,l,k,h,n=>by
  simp only[Vl,Ze2,Z2,Vc]at h;obtain⟨⟨x,C⟩,G,c,⟨r,D⟩,K,u,⟨rfl,rfl⟩,_⟩:=h;refine⟨⟨rfl,?_⟩,Zly s hF d r D _ _ u λb i=>n b (ZmW (by grind) i)⟩;have ⟨z,y⟩:=ZgN c;have j:∀m,Zz F p.2≠ .tup m:=by
   intro m A;rw[A]at c;cases e<;>simp [Kk,Zb]at c
  have t:=(hF.eval p.2).to1 j;refine .of1 ⟨?_,.inr ?_⟩
  ·exact RK s (λ_ h=>.inl h) e _ _ x C _ _ c t.1 λb i=>.inr (n b <| ZmW (by grind) i)
  ·rw[t.2.resolve_left z,y];rfl
end
section ops
variable {P:Program}{E:Z9}{B:Z1}{H:AH}{w:World}{g:Gh}{ow:Nat->Nat->Prop}{nid:Nat}{a:Act}{F:Nat->AV}{v:AV}{patch:KF}{rd:List Nat}{o:Oper}
theorem ZpX{T:TypeId}{s:Array (Nat×Operand)}(k:Z4 P E)(D:RH B H w g ow)(hF:Fr w g F a.tmps)(L:o.op=.build T s)
 (h:(ZS E nid o.op o.type (Zz F)).run H []=Ua ((v,patch),rd)):Zu B (Zs H patch) w g nid v ((execOp a.eval o).run P w):=by
 rw[L]at h;simp only[ZS,ZA]at h;obtain⟨t,M,h⟩:=h;have r:(s.map λ(i,x)=>(i,a.eval x)).toList=s.toList.map λp=>(p.1,a.eval p.2):=by simp
 have fin:∀{cells:Array Value},P.built T (s.toList.map λp=>(p.1,a.eval p.2))=Ua cells->patch=[]->CV w g v cells.toList->v.isAgg=Uc->Zu B (Zs H patch) w g nid v ((execOp a.eval o).run P w):=by intro cells q j hv G;subst j;refine Zu.pure D (val:=.agg cells) ?_ (VR.of1 ⟨by assumption,.inr (by rw[G];rfl)⟩);simp only[execOp,L,Vb];rw[run_build w T _ cells (by grind)];rfl
 split at h
 ·rename_i S U;simp only[ZO,Zj,Zb,ZU,false_or,Ka,Vh,Vc]at h;obtain⟨j,X,h⟩:=h;obtain⟨cells,V,A⟩:=ZqO k M hF j (E.zx T) X;obtain⟨W,h4⟩:=Zuw A;rcases h with ⟨_,h⟩|⟨_,⟨rfl,rfl⟩,_⟩
  ·simp only[Z2,Zj,Vc]at h;obtain⟨⟨y,ids⟩,m,J,⟨rfl,rfl⟩,_⟩:=h;have f:=g.le_grow (ZP H ow ids);have Z:Rd w (g.grow (ZP H ow ids)).I (.prod S U) y cells.toList:=RK D (λb q=>f.I b q) _ _ _ _ _ _ _ J W (λb q=>.inr q);refine Zu.after_le f (λ_ h=>h) (Zu.pure (val:=.agg cells) D.freezeIds ?_ (VR.of1 ⟨by assumption,.inr rfl⟩));simp only[execOp,L,Vb];rw[run_build w T _ cells (by grind)];rfl
  grind
 ·rename_i n e;simp only[ZO,ZA,Zj,Zb,ZU,false_or,Vaa,Vh,Vc]at h;obtain⟨⟨j,J⟩,l,Q,⟨rfl,rfl⟩,_⟩:=h;obtain⟨R,hu,C⟩:=Zj4 k M;obtain⟨i,z,hi,_,_,hz,c,_⟩:=(k.ty T _ M).info;obtain⟨ie,ze,Y,a1,_⟩:=(k.ty R _ C).info;have N:Rd w g.I (.arr n e) (zeroEl (.arr n e)) z.cells.toList:=by unfold Dl at c;rw[show (Ty.arr n e).data=Uc from J]at c;exact ZdM _ _ c
  obtain⟨_,u,O,K⟩:=N;obtain⟨d,V,A⟩:=Zkn (Zm0 hF _) j Q K;refine fin (cells:=d.flatten.toArray) ?_ rfl ?_ rfl
  ·unfold Program.built;have a2:z.cells=u.flatten.toArray:=by grind
   grind
  ·exact⟨(Zej Q).1,d,rfl,A⟩
 ·simp [Zb]at h
end ops
end Tr
end
section
namespace Tr
open Go
theorem ZdN(z:Array Value):∀n:Nat,((Vpa (n*z.size)).map (z[· % z.size]!)).toList=(Vg n z.toList).flatten
 |0=>by simp
 |n+1=>by
  have b:=ZdN z n;simp only[Vmb,Array.toList_range]at b⊢;rw[Voa,Nat.one_mul,List.range_add,Voc,b,List.replicate_succ',Vca,Vqb];congr 1;simp only[Vsa,List.flatten_nil,List.append_nil];apply List.ext_getElem
  ·simp
  ·intro i d e;have c:i<z.size:=by omega
   simp only[List.getElem_map,List.getElem_range,Function.comp];rw[Nat.mul_comm,Nat.mul_add_mod,Nat.mod_eq_of_lt c];grind
section ops
variable {P:Program}{E:Z9}{B:Z1}{H:AH}{w:World}{g:Gh}{ow:Nat->Nat->Prop}{nid:Nat}{a:Act}{F:Nat->AV}{v:AV}{patch:KF}{rd:List Nat}{o:Oper}
theorem Zin(A:RH B H w g ow)(j:¬g.K nid){t:Ty}{T:TypeId}{xs:List (El t)}{css:List (List Value)}{cap:Nat}{cells:Array Value}(k:Fa (Rd w g.I t) xs css)
 (D:css.flatten<+:cells.toList) (i:xs.length<=cap) (l:cap*t.size<=cells.size) {r:Result Next}{w1:World} (e:JD w w1)
 (G:r=.ok (.value (.slice (Ua ⟨w.heap.size,0,Ub⟩) xs.length cap)) (w1.alloc (.cells cells T))):Zu B (Z0 H nid (Ua (.vec t xs))) w g nid (.vw nid) r:=by
 have h:=A.same e;have f:w1.heap.size=w.heap.size:=by rw[e.heap]
 have key:Zu B (Z0 H nid (Ua (.vec t xs))) w1 g nid (.vw nid) r:=by
  refine Zu.new' (t:=t) (sv:=.slice (Ua ⟨w1.heap.size,0,Ub⟩) xs.length cap) h j (f▸G) ?_ ?_
  ·refine⟨by simp [Gh.add],.inr ⟨w1.heap.size,cap,cells,T,css,by simp [Gh.add],rfl,by simp [Gh.add],D1 _ _,i,l,?_,D⟩⟩;refine k.mono λx c J=>?_;have:=ZjQ (x:=.d t x) h j (t:=t) (sv:=.slice (Ua ⟨w1.heap.size,0,Ub⟩) xs.length cap) (b:=Ua w1.heap.size) (ob:=.cells cells T) (by exact Rd.mono (e.agree _) (by simp) t x c J);assumption
  ·refine KN ?_ rfl rfl;exact⟨.inl rfl,by simp [Gh.add],by simp [Gh.add,Vka]⟩
 have ⟨val,L,n,m,p,q,s,u,y,z⟩:=key;exact⟨val,L,n,m,p,q,s,λb C=>(u b C).trans (by rw[e.heap]),y,z⟩
theorem Zjp{f:TypeId}{e:Ty}(k:Z4 P E)(h:E.ty f=Ua e)(l:e.data=Uc):∃c z,P.info? f=Ua c/\c.size=e.size/\c.zero=Ua z/\z.cells.size=e.size/\c.bytes<=4096/\
 ∀n,Fa (Rd w g.I e) (Vg n (zeroEl e)) (Vg n z.cells.toList):=by
 have ⟨c,z,m,j,i,p,b,_⟩:=(k.ty f _ h).info;have d:Rd w g.I e (zeroEl e) z.cells.toList:=by unfold Dl at b;rw[l]at b;exact ZdM _ _ b
 refine⟨c,z,m,j,p,?_,i,?_⟩
 ·have:=Rd.length _ _ _ d;omega
 ·intro n
  induction n with
  |zero=>trivial
  |succ n q=>exact⟨d,q⟩
theorem ZeM(f:RH B H w g ow){ids:List Nat}{b:Nat}(i:ZP H ow ids b):¬g.I b/\b<w.heap.size/\(B.own0 b\/B.w0.heap.size<=b)/\∀id,Zs H (ids.map λid=>(id,Ub)) id≠Ub->¬ow id b:=by
 have ⟨k,h,d,e⟩:=i;have ⟨p,q,r⟩:=f.sep k b d e;refine⟨p,q,r,λid c l=>?_⟩;rw[Rb]at c;split at c
 ·grind
 ·rename_i j;exact j (f.dist id k b c d l e▸h)
theorem Zdg{w' :World}{J:Nat->Prop}{t:Ty}{xs:List (List (El t))}{val:Value}{r:Result Next}(i:RH B H w g ow)(j:¬g.K nid)(c:∀k,k<w.heap.size->w'.heap[k]? =w.heap[k]?)(n:w.heap.size<=w'.heap.size)(m:w'.os=w.os)(f:w'.tape=w.tape)(l:YF w' w)
 (C:r=.ok (.value val) w') (d:Xg w' g.I (λb=>J b\/(w.heap.size<=b/\b<w'.heap.size)) t xs val) (L:∀b,J b->¬g.I b/\b<w.heap.size/\(B.own0 b\/B.w0.heap.size<=b)/\∀id,H id≠Ub->¬ow id b):Zu B (Z0 H nid (Ua (.rows t xs 0 Ub))) w g nid (.vw nid) r:=by
 have ⟨b,D,A⟩:=d.obj nid;have e:val.oneCell' =Uc/\Kd val=false:=by
  have ⟨M,_,h⟩:=d;rcases h with ⟨_,rfl⟩|⟨_,_,_,_,_,_,rfl,_⟩<;>exact⟨rfl,rfl⟩
 refine⟨val,w',g.add nid (.sl t) b val D,Xk ow nid (λb=>J b\/(w.heap.size<=b/\b<w'.heap.size)),.inl C,?_,Gh.le_add j _ _ _ _,λb z=>c b (i.ilt b z),?_,?_⟩
 ·refine i.add j c n m f l (λk q=>?_) A;rcases q with q|⟨G,s⟩
  ·grind
  ·refine⟨λy=>absurd (i.ilt _ y) (by omega),s,.inr (by have:=i.size;omega),λp u x=>?_⟩;have:=(i.sep p _ u x).2.1;omega
 ·refine KN ?_ e.1 rfl;exact⟨.inl rfl,by simp [Gh.add],by simp [Gh.add,e.1]⟩
 ·intro id h;rcases h with rfl|h
  ·exact .inr ⟨Vf _,by unfold Wu;omega⟩
  grind
theorem Zkm(q:RH B H w g ow)(hF:Fr w g F a.tmps){t:Ty}{d:List (Nat×Operand)}:∀(m n:Nat) (i:List (List (El t))) (ids l r:List Nat),(Zek t (d.map λp=>(p.1,Zz F p.2)) m n).run H l=Ua ((i,ids),r)->ids.Nodup->
 ∃f:List Value,f.length=m/\(∀j,j<m->f[j]? =Ua (match d.lookup (n+j) with|some x=>a.eval x|none=>.slice Ub 0 0))/\RL w g.I (ZP H ow ids) t f i
 |0,n,i,ids,l,r,h,_=>by
  obtain⟨⟨rfl,rfl⟩,_⟩:=h
  exact⟨[],rfl,by omega,RL.nil⟩
 |m+1,n,i,ids,l,r,h,L=>by
  simp only[Zek,Z2,Vc]at h;obtain⟨⟨y,W⟩,X,z,⟨s,O⟩,Y,G,⟨rfl,rfl⟩,_⟩:=h;have ⟨Z,R,n3⟩:=Vec.1 L;have ⟨f,T,U,J⟩:=Zkm q hF m (n+1) s O _ _ G R;rw[ZaN]at z;have N:VR w g (((d.lookup n).map (Zz F)).getD .nils) (match d.lookup n with|some x=>a.eval x|none=>.slice Ub 0 0):=by
   cases d.lookup n with
   |none=>exact KN (by rfl) rfl rfl
   |some x=>exact hF.eval x
  have M:=Zfw q N z;refine⟨(match d.lookup n with|some x=>a.eval x|none=>.slice Ub 0 0)::f,by grind,λj V=>?_,?_⟩
  ·grind
  ·have:=(RL.single M).append J (λc ⟨k,u,e,A⟩ ⟨Q,S,C,D⟩=>by have:=q.dist k Q c e C A D;grind)
   exact this.mono (λ_ _=>rfl) (by simp) (λb K=>by
    rcases K with ⟨k,u,e⟩|⟨k,u,e⟩
    ·exact⟨k,by grind,e⟩
    ·exact⟨k,by grind,e⟩) (by simp)
theorem ZpY{T:TypeId}{n:Nat}{M:Array (Nat×Operand)}(N:Z4 P E)(u:RH B H w g ow)(hF:Fr w g F a.tmps)(L:∀id,g.K id->id<nid\/nid+Wu<=id)(ho:o.op=.buildSlice T n M)
 (h:(ZS E nid o.op o.type (Zz F)).run H []=Ua ((v,patch),rd)):Zu B (Zs H patch) w g nid v ((execOp a.eval o).run P w):=by
 rw[ho]at h;simp only[ZS,ZA]at h;obtain⟨t,ht,h⟩:=h;split at h
 ·rename_i e;rw[ZO]at h;rcases h with ⟨_,h⟩|⟨_,h⟩
  ·split at h
   ·rename_i X;simp only[ZO,Z2,ZA,Zj,Zb,ZU,false_or,Vaa,Vh,Vc]at h;obtain⟨⟨hp,a0⟩,⟨ys,ids⟩,m1,a3,_,a8,⟨rfl,rfl⟩,_⟩:=h;obtain⟨W,hu,r⟩:=Js N ht;have s:=Zjq (N.ty W _ r) w;obtain⟨G,R,O,m⟩:=Zkm u hF n 0 ys ids [] m1 a3 (Zfq.1 (HO a8));have f:¬n* (Ty.sl X).size>2 ^ 24:=by
     intro Q;have:Vyc (2 ^ 24) n=true:=by simpa [Nat.blt_eq,Ty.size] using Q
     grind
    have C:=Zfy hp;have S:(Vg n [Vq Ub 0 0]).map Vja=Vg n 1:=by simp
    obtain⟨Y,h2⟩:=ZeU (place:=λi=>Ua (i* (Ty.sl X).size,(Ty.sl X).size)) (by
     intro i hi;simp only[Vw]at hi;simp [Vyb,Vrb (Nat.le_of_lt hi),Ty.size]) (M.toList.map λp=>(p.1,a.eval p.2)) (Vg n [Vq Ub 0 0]) S (by
     intro p a9;obtain⟨q,hq,rfl⟩:=Vpb.1 a9;have L:=C.2 q.1 (by grind);refine⟨1,by grind,?_⟩;have h3:=O q.1 L;rw[Vp,Zfr C.1 hq]at h3;obtain⟨x,hx⟩:∃x,ys[q.1]? =Ua x:=⟨_,Vt (by rw[<-m.1,R];exact L)⟩;have A:=(m.row hx).one;have h5:G.getD q.1 undef=a.eval q.2:=by grind
     rw[h5]at A;cases hv:a.eval q.2<;>rw[hv]at A<;>simp [Kd]at A<;>rfl)
    have a4:(DN (Vg n [Vq Ub 0 0]) (M.toList.map λp=>(p.1,a.eval p.2))).flatten=G:=by
     have:DN (Vg n [Vq Ub 0 0]) (M.toList.map λp=>(p.1,a.eval p.2))=G.map λv=>[v]:=by
      apply Via;intro j;by_cases hj:j<n
      ·rw[ZfK _ _ (by rw[Vqb,Vw];assumption) j (by grind),ZaN,List.getElem?_map,O j hj,Vp]
       cases hl:M.toList.lookup j with
       |none=>grind
       |some x=>
        simp only[Vi];obtain⟨y,hy⟩:∃y,ys[j]? =Ua y:=⟨_,Vt (by rw[<-m.1,R];exact hj)⟩;have A:=(m.row hy).one;have h5:G.getD j undef=a.eval x:=by grind
        rw[h5]at A;congr 1;cases hv:a.eval x<;>rw[hv]at A<;>simp [Kd]at A<;>rfl
      ·rw[Vub (by rw[ZfL];grind),Vub (by grind)]
     rw[this];generalize G=l
     induction l with
     |nil=>rfl
     |cons x l ih=>grind
    have d:(M.map λ(i,x)=>(i,a.eval x)).toList=M.toList.map λp=>(p.1,a.eval p.2):=by simp
    have h0:=ZdN #[Vq Ub 0 0] n;have a2:(execOp a.eval o).run P w=.ok (.value (.slice (Ua ⟨w.heap.size,0,Ub⟩) n n)) (w.alloc (.cells G.toArray W)):=by
     rw[a4]at Y;by_cases U:n* (Ty.sl X).size=0
     ·have c:(Vpa (n* (Ty.sl X).size)).map ((#[]:Array Value)[· % (#[]:Array Value).size]!)=(Vg n [Vq Ub 0 0]).flatten.toArray:=by
       rw[U];have:n=0:=by simpa [Ty.size] using U
       grind
      simp only[execOp,ho,Vya,underlying,Vb,run_program,Va,hu,Vd,(N.ty _ _ r).run_sizeOf,Zg f,Zn U,c,d,Y,newRow,run_newObj];rfl
     ·have c:(Vpa (n* (Ty.sl X).size)).map ((#[Vq Ub 0 0]:Array Value)[· % (#[Vq Ub 0 0]:Array Value).size]!)=(Vg n [Vq Ub 0 0]).flatten.toArray:=by apply Vlb.1;assumption
      simp only[execOp,ho,Vya,underlying,Vb,run_program,Va,hu,Vd,(N.ty _ _ r).run_sizeOf,Zg f,Zg U,s,Vva,c,d,Y,newRow,run_newObj];rfl
    have b4:ys.length=n:=by rw[<-m.1,R]
    rw[Xq];refine Zdg (u.drops ids) (YT L) (λk L=>D2 L) (by simp) rfl rfl ⟨rfl,Vf _⟩ a2 ?_ (λb Q=>ZeM u Q);refine⟨G,m.mono (λb Q=>D2 (u.ilt b Q)) (by simp) (by grind) (λi x b hx hr=>?_),.inr ⟨w.heap.size,n,G.toArray,W,by simp,λi x hx hr=>?_,by grind,D1 _ _,by grind,by grind,λi hi=>?_⟩⟩
    ·obtain⟨k,_,h3,A⟩:=(m.row hx).own hr;exact D2 (u.sep k b h3 A).2.1
    ·obtain⟨k,_,h3,A⟩:=(m.row hx).own hr;have:=(u.sep k _ h3 A).2.1;omega
    grind
   ·simp [Zb]at h
  simp only[ZO,Z2,ZA,Zj,Zb,ZU,false_or,Vaa,Vh,Vc]at h;obtain⟨⟨⟨hp,G⟩,a0⟩,⟨qs,ids⟩,m1,b0,l,hl,ds,m2,a5,⟨rfl,rfl⟩,_⟩:=h;obtain⟨W,hu,r⟩:=Js N ht;have b2:=u;have a1:=Zly (J:=ZP H ow ids) u hF _ _ _ _ _ b0 (by simp);have a7:=g.le_grow (ZP H ow ids);rw[Xq,Xq];refine Zu.after_le a7 (λ_ h=>h) (Zu.dats u a5 ?_);have u:=u.freezeIds (ids:=ids);have L:∀id,(g.grow (ZP H ow ids)).K id->id<nid\/nid+Wu<=id:=L;generalize g.grow (ZP H ow ids)=g at u L a1⊢;obtain⟨ie,z,a6,b3,hz,b1,_,V⟩:=Zjp (w:=w) (g:=g) N r G;obtain⟨Z,Y,h2⟩:=Zkn (g:=g) a1 hp hl (V n);have D:=(Zej hl).1;have f:¬n*e.size>2 ^ 24:=by
   intro Q;have:Vyc (2 ^ 24) (n*e.size)=true:=by simpa [Nat.blt_eq] using Q
   grind
  refine Zin u (YT L) (cells:=Z.flatten.toArray) (T:=W) (cap:=n) h2 (by simp) (by omega) ?_ (.refl w) ?_
  ·have:=Yt (Rd.all_length h2);rw[Vfc,this,<-h2.length,D];omega
  ·have h0:=ZdN z.cells n;rw[b1]at h0;have d:(M.map λ(i,x)=>(i,a.eval x)).toList=M.toList.map λp=>(p.1,a.eval p.2):=by simp
   have s:(zeroValue W).run P w=.ok z w:=by simp [zeroValue,typeInfo,a6,hz]
   by_cases U:n*e.size=0
   ·have c:(Vpa (n*e.size)).map ((#[]:Array Value)[· % (#[]:Array Value).size]!)=(Vg n z.cells.toList).flatten.toArray:=by grind
    simp only[execOp,ho,Vya,underlying,Vb,run_program,Va,hu,Vd,(N.ty _ _ r).run_sizeOf,Zg f,Zn U,c,d,Y,newRow,run_newObj,D];rfl
   ·have c:(Vpa (n*e.size)).map (z.cells[· % z.cells.size]!)=(Vg n z.cells.toList).flatten.toArray:=by grind
    simp only[execOp,ho,Vya,underlying,Vb,run_program,Va,hu,Vd,(N.ty _ _ r).run_sizeOf,Zg f,Zg U,s,c,d,Y,newRow,run_newObj,D];rfl
 ·simp [Zb]at h
theorem ZnY{T i:TypeId}{e:Ty}{k1 k2:IntKind}{n m:Int}{h:TypeInfo}{z:Value}(s:Z4 P E)(t:P.underlying T=Ua (.slice i))(j:E.ty i=Ua e)(d:P.info? i=Ua h)(C:h.zero=Ua z)(G:z.cells.size=e.size)
 (y:h.bytes<=256) (J:0<=n) (A:n<=m) (r:m<=549755813888):
 (Vsb T (.int k1 n) (.int k2 m)).run P w=.ok (.slice (Ua ⟨w.heap.size,0,Ub⟩) n.toNat m.toNat) (w.alloc (.cells (Vg m.toNat z.cells.toList).flatten.toArray i)):=by
 have u:∀x:Int,Vfb.wrap x=(x+9223372036854775808) % 18446744073709551616 - 9223372036854775808:=λx=>by simp [IntKind.wrap,IntKind.bits,IntKind.signed];omega
 have l:Vfb.wrap n=n:=by grind
 have k:Vfb.wrap m=m:=by grind
 have p:¬(281474976710656<(h.bytes:Int) *m):=by have K:(h.bytes:Int) *m<=256*549755813888:=Int.mul_le_mul (by omega) r (by omega) (by omega);omega
 have D:=ZdN z.cells m.toNat;have f:(zeroValue i).run P w=.ok z w:=by simp [zeroValue,typeInfo,d,C]
 have c:(Ue (m<0) ||decide ((h.bytes:Int) *m>2 ^ 48) ||decide (n<0) ||decide (n>m))=false:=by grind
 by_cases q:m.toNat*e.size=0
 ·have b:(Vpa (m.toNat*e.size)).map ((#[]:Array Value)[· % (#[]:Array Value).size]!)=(Vg m.toNat z.cells.toList).flatten.toArray:=by grind
  simp only[Vsb,Vb,run_underlying t,asInt,asIntOf,typeInfo,run_program,d,l,k,Vd,Va,c,Vda,if_false,(s.ty _ _ j).run_sizeOf,run_askRoom,q,if_true];rw[q]at b;simp only[Vb,Vd,Va,b,newRow,run_newObj];rfl
 ·have b:(Vpa (m.toNat*e.size)).map (z.cells[· % z.cells.size]!)=(Vg m.toNat z.cells.toList).flatten.toArray:=by grind
  simp only[Vsb,Vb,run_underlying t,asInt,asIntOf,typeInfo,run_program,d,l,k,Vd,Va,c,Vda,if_false,(s.ty _ _ j).run_sizeOf,run_askRoom,Zg q,f,b,newRow,run_newObj];rfl
theorem Zqa{T:TypeId}{lo co:Operand}(p:Z4 P E)(hR:RH B H w g ow)(hF:Fr w g F a.tmps)(Q:∀id,g.K id->id<nid\/nid+Wu<=id)(ho:o.op=.makeSlice T lo co)
 (h:(ZS E nid o.op o.type (Zz F)).run H []=Ua ((v,patch),rd)):Zu B (Zs H patch) w g nid v ((execOp a.eval o).run P w):=by
 rw[ho]at h;simp only[ZS,ZA]at h;obtain⟨t,R,h⟩:=h;have s:=hF.eval lo;have r:=hF.eval co;split at h
 ·rename_i e k1 n k2 m hl X
  revert n m
  intro (n:Int) (m:Int) hl X h;rw[ZO]at h;rcases h with ⟨_,h⟩|⟨_,h⟩
  ·split at h
   ·rename_i e';simp only[ZA,Zj,Vc]at h;obtain⟨u,L,⟨rfl,rfl⟩,_⟩:=h;have Z:0<=n/\n<=m/\m<=(ZI:Int):=Xy (HO L);obtain⟨V,D,a0⟩:=Z;obtain⟨C,N,c⟩:=Js p R;obtain⟨ie,z,d,a1,W,U,a5,a4⟩:=(p.ty C _ c).info;have a2:z=.slice Ub 0 0:=by
     have h1:=Zjq (p.ty C _ c) w;have h2:(zeroValue C).run P w=.ok z w:=by simp [zeroValue,typeInfo,d,U]
     grind
    subst a2;rw[hl]at s;rw[X]at r;have f:m<=549755813888:=by assumption
    have l:=ZnY (w:=w) (k1:=k1) (k2:=k2) p N c d U rfl ((p.ty _ _ R).small _ _ N d) V D f;have Y:(execOp a.eval o).run P w=.ok (.value (.slice (Ua ⟨w.heap.size,0,Ub⟩) n.toNat m.toNat)) (w.alloc (.cells (Vg m.toNat [Vq Ub 0 0]).flatten.toArray C)):=by simp only[execOp,ho,VR.int s,VR.int r,Vb,l,Va,Vd];rfl
    have a6:∀q:Nat,(Vg q [Vq Ub 0 0]).flatten=Vg q (Vq Ub 0 0):=by simp
    have A:∀i x,(Vg n.toNat ([]:List (El e')))[i]? =Ua x->x=[]/\(Vg n.toNat (Vq Ub 0 0)).getD i undef=.slice Ub 0 0:=by grind
    refine Zdg (J:=λ_=>False) hR (YT Q) (λk Q=>D2 Q) (by simp) rfl rfl ⟨rfl,Vf _⟩ Y ?_ (by simp);refine⟨Vg n.toNat (.slice Ub 0 0),⟨by simp,⟨λi x S _=>?_,λi j x y b S hy _ _ _ O=>?_,by simp⟩⟩,.inr ⟨w.heap.size,m.toNat,_,C,by simp,λi x S O=>?_,by simp,D1 _ _,by grind,by simp,λi hi=>?_⟩⟩
    ·obtain⟨rfl,h2⟩:=A i x S;exact .inl ⟨rfl,h2⟩
    ·simp only[WS]at O;grind
    ·rw[(A i x S).2]at O;simp [WS]at O
    grind
   ·simp [Zb]at h
  simp only[ZO,ZA,Zj,Zb,ZU,false_or,Vh,Vc]at h;obtain⟨hd,u,L,⟨rfl,rfl⟩,_⟩:=h;have L:0<=n/\n<=m/\m<=ZI:=by unfold ZD at L;grind
  obtain⟨V,D,a0⟩:=L;obtain⟨C,N,c⟩:=Js p R;obtain⟨ie,z,d,a1,U,a3,W,G⟩:=Zjp (w:=w) (g:=g) p c hd;rw[hl]at s;rw[X]at r;have f:m<=549755813888:=by assumption
  have l:=ZnY (w:=w) (k1:=k1) (k2:=k2) p N c d U a3 ((p.ty _ _ R).small _ _ N d) V D f;have M:(Vg n.toNat (zeroEl e)).length=n.toNat:=Vw;refine Zin hR (YT Q) (w1:=w) (cells:=(Vg m.toNat z.cells.toList).flatten.toArray) (T:=C) (cap:=m.toNat) (G _) ?_ (by omega) ?_ (.refl w) ?_
  ·have:m.toNat=n.toNat+(m.toNat - n.toNat):=by omega
   refine⟨(Vg (m.toNat - n.toNat) z.cells.toList).flatten,?_⟩;rw[<-Vca,List.replicate_append_replicate,<-this]
  ·simp_all
  ·rw[M];simp only[execOp,ho,VR.int s,VR.int r,Vb,l,Va,Vd]
 ·simp [Zb]at h
end ops
end Tr
end
section
namespace Tr
open Go
section ops
variable {P:Program}{E:Z9}{B:Z1}{H:AH}{w:World}{g:Gh}{ow:Nat->Nat->Prop}{nid:Nat}{a:Act}{F:Nat->AV}{v:AV}{patch:KF}{rd:List Nat}{o:Oper}
def Zcu(w:World)(g:Gh)(t:Ty)(y:List (El t))(v:Value):Prop:=
 ∃e c d,v=.slice e y.length c/\Fa (Rd w g.I t) y d/\(y≠ []->∃b off,e=Ua ⟨b,off,Ub⟩/\KB w b off d.flatten)
theorem Zed{t:Ty}{x:AV}{val:Value}{y:List (El t)}{ids l l' :List Nat}(S:RH B H w g ow)(K:VR w g x val)(h:(D3 t x).run H l=Ua ((y,ids),l')):Zcu w g t y val:=by
 have Z:(∃M xs u q id,x=.vw id/\H id=Ua (.rows M xs u q))->False:=by rintro ⟨M,xs,u,q,id,rfl,A⟩;simp only[D3]at h;rw[Z3,A]at h;simp [Zb]at h
 have h:∃l,(Kk (.sl t) x).run H l=Ua ((y,ids),l'):=by
  cases x with
  |vw id=>
   simp only[D3]at h;rw[Z3]at h
   grind
  |_=>exact⟨_,h⟩
 obtain⟨l,h⟩:=h
 cases x with
 |d M z=>
  simp only[Kk,ZA,Zj,Vc]at h;obtain⟨T,j,⟨rfl,rfl⟩,_⟩:=h;obtain⟨rfl,rfl⟩:=KK j;obtain⟨W,c,f,s,p,Y,_⟩:=K.sl
  exact⟨W,c,f,s,p,by grind⟩
 |nils=>
  obtain⟨⟨rfl,rfl⟩,_⟩:=h
  exact⟨Ub,0,[],K.nils,trivial,by simp⟩
 |vw id=>
  simp only[Kk]at h;rw[Z3]at h;split at h
  ·rename_i M xs A;simp only[ZA,Zj,Vc]at h;obtain⟨T,j,⟨rfl,rfl⟩,_⟩:=h;obtain⟨C,rfl⟩:=KK j;cases C;obtain⟨_,J⟩:=K.vw;obtain⟨_,_,U⟩:=S.objs id _ A;rcases U with ⟨rfl,_,G⟩|⟨b,cap,cs,e,f,_,_,G,Q,_,_,i,O⟩
   ·exact⟨Ub,0,[],J.trans G,trivial,by simp⟩
   ·exact⟨Ua ⟨b,0,Ub⟩,cap,f,J.trans G,i,λ_=>⟨b,0,rfl,KB.of_vec Q O⟩⟩
  ·grind
  ·rename_i M xs A;simp only[ZA,Zj,Vc]at h;obtain⟨T,j,⟨rfl,rfl⟩,_⟩:=h;obtain⟨C,rfl⟩:=KK j;cases C;obtain⟨W,c,f,s,p,Y,_⟩:=(Zga S A K).sl;exact⟨W,c,f,s,p,by grind⟩
  ·simp [Zb]at h
 |nw id ver kt k=>
  simp only[Kk,Z2,ZA,Zj,Vc]at h;obtain⟨r,m,N,T,j,⟨rfl,rfl⟩,_⟩:=h;obtain⟨C,rfl⟩:=Zbu j;obtain⟨t0,row⟩:=r;subst C;obtain⟨_,_,_,_,R⟩:=Zbd S K N;rcases R with ⟨s,p⟩|⟨b,cap,cs,e,f,p,_,Q,_,_,i,O⟩
  ·simp only at s;subst s;exact⟨Ub,0,[],p,trivial,by simp⟩
  ·exact⟨Ua ⟨b,0,Ub⟩,cap,f,p,i,λ_=>⟨b,0,rfl,KB.of_vec Q O⟩⟩
 |vs id L n=>
  simp only[Kk]at h;rw[Z3]at h;split at h
  ·rename_i M xs A;simp only[ZA,Zj,Vc]at h;obtain⟨T,j,⟨rfl,rfl⟩,_⟩:=h;obtain⟨C,rfl⟩:=KK j;cases C;obtain⟨_,J⟩:=K.vs;obtain⟨_,a0,U⟩:=S.objs id _ A;rcases J with ⟨G,rfl,rfl,J⟩|⟨b,len,cap,m,G,s,p,Y,J⟩
   ·refine⟨Ub,0,[],by grind,by simp;trivial,by simp⟩
   ·rcases U with ⟨_,_,D⟩|⟨b',X,cs,e,f,_,_,D,Q,_,_,i,O⟩
    ·grind
    ·rw[G]at D;obtain⟨rfl,rfl,rfl⟩:=D;refine⟨Ua ⟨b,if m=0 then 0 else L*t.size,Ub⟩,m,(f.drop L).take n,?_,(i.drop L).take n,λV=>⟨b,L*t.size,?_,?_⟩⟩
     ·grind
     ·have:0<((xs.drop L).take n).length:=Vzb.2 V;grind
     ·have:=KB.part (off:=0) (l:=L) (n:=n) (Rd.all_length i) (by rw[<-i.length];omega) (KB.of_vec Q O);grind
  ·simp [Zb]at h
 |agg l0=>cases l0<;>simp [Kk,Yb,Zb]at h
 |_=>simp [Kk,Zb]at h
theorem ZhM{b off n cap sz:Nat}{css:List (List Value)}(h:∀c∈css,c.length=sz)(f:css.length=n)(hL:KB w b off css.flatten){w' :World}(i:JD w w'):
 (Vo sz n (.slice (Ua ⟨b,off,Ub⟩) n cap)).run P w' =.ok css.flatten.toArray w' :=by
 refine run_firstCells_some w' sz n _ n cap _ (by rw[Yt h,f]) ?_;intro j u e;obtain⟨d,rfl⟩:=Vy.1 e;have:=hL j d;rw[Dt,<-this];simp [Vkc,i.heap]
theorem ZiS{s t ty j E1:TypeId}{e:TypeInfo}{z:Value}{argTypes:Array TypeId}(u:argTypes[0]? =Ua s)(x:argTypes[1]? =Ua t)(y:P.underlying s=Ua (.slice j))(i:P.underlying t=Ua (.slice E1))
 (h:P.info? j=Ua e) (D:e.zero=Ua z) (k:e.bytes<=256) {base r:Option Addr}{n cap m c:Nat}{d news:List Value}
 (l:∀w',JD w w' ->(Vo e.size n (.slice base n cap)).run P w' =.ok d.toArray w') (f:∀w',JD w w' ->(Vo e.size m (.slice r m c)).run P w' =.ok news.toArray w') (p:n+m<=549755813888):
 (n+m<=cap/\(Vx argTypes ty #[.slice base n cap,.slice r m c]).run P w=(do (match base with|some a=>storeCells (a.add (n*e.size)) news|none=>pure ());pure (.slice base (n+m) cap):Sem Value).run P w)\/
 (∃b w1,n+m<=b/\JD w w1/\(Vx argTypes ty #[.slice base n cap,.slice r m c]).run P w=.ok (.slice (Ua ⟨w.heap.size,0,Ub⟩) (n+m) b) (w1.alloc (.cells (d.toArray++news.toArray++Vz z.cells (b - (n+m))) j))):=by
 by_cases q:n+m<=cap
 ·refine .inl ⟨q,?_⟩;simp [Vx,u,x,run_underlying y,run_underlying i,Go.sizeOf,typeInfo,h,Vad,q,f w (.refl w)];cases base<;>simp
 ·refine .inr ⟨grownCap w (n+m) cap j,w.drew,grownCap_ge ..,⟨rfl,rfl,rfl,⟨rfl,by simp⟩⟩,?_⟩;have C:¬(9223372036854775807<((n:Int)+(m:Int))):=by omega
  have A:¬(281474976710656<Builtin.nextslicecap (n+m) cap*e.bytes):=by have:=growslice_fits (old:=cap) (by omega) (Nat.le_trans (Nat.mul_le_mul p k) (by decide));omega
  simp [Vx,u,x,run_underlying y,run_underlying i,Go.sizeOf,typeInfo,zeroValue,h,D,Vad,q,Question.forced,f w.drew ⟨rfl,rfl,rfl,⟨rfl,by simp⟩⟩,l w.drew ⟨rfl,rfl,rfl,⟨rfl,by simp⟩⟩,newRow,grownCap];grind
theorem Zj2{t:Ty}{H' :AH}{R:TypeInfo}{z:Value}{T0 T1 Et E1 ty:TypeId}{argTypes:Array TypeId}{sv xv:Value}{xs l:List (El t)}{r:Result Next}(hR:RH B H w g ow)(y:¬g.K nid)
 (h0:argTypes[0]? =Ua T0) (h1:argTypes[1]? =Ua T1) (Z:P.underlying T0=Ua (.slice Et)) (a8:P.underlying T1=Ua (.slice E1))
 (a5:P.info? Et=Ua R) (hz:R.zero=Ua z) (b1:z.cells.size=t.size) (Q:R.size=t.size) (a1:R.bytes<=256) (a7:xs.length+l.length<=549755813888) (hX:Zcu w g t l xv)
 (hr:∀val w',(Vx argTypes ty #[sv,xv]).run P w=.ok val w' ->r=.ok (.value val) w')
 (hS:(H' =H/\xs=[]/\sv=.slice Ub 0 0)\/∃id,H' =Z0 H id Ub/\H id≠Ub/\((xs=[]/\sv=.slice Ub 0 0)\/∃b cap cs e css,ow id b/\sv=.slice (Ua ⟨b,0,Ub⟩) xs.length cap/\w.heap[b]? =Ua (.cells cs e (0,0))/\
   xs.length<=cap/\cap*t.size<=cs.size/\Fa (Rd w g.I t) xs css/\css.flatten<+:cs.toList)):Zu B (Z0 H' nid (Ua (.vec t (xs++l)))) w g nid (.vw nid) r:=by
 obtain⟨xb,c,d,rfl,j,a6⟩:=hX;have s:(xs++l).length=xs.length+l.length:=Vn;have D:RH B H' w g ow:=by
  rcases hS with ⟨rfl,_⟩|⟨id,rfl,_⟩
  ·omega
  ·exact hR.drop id
 have a3:∀w',JD w w' ->(Vo R.size l.length (.slice xb l.length c)).run P w' =.ok d.flatten.toArray w' :=by
  intro w' hw;rw[Q];by_cases hy:l=[]
  ·subst hy;have:d=[]:=by have:=j.length;grind
   subst this
   cases xb with
   |none=>rfl
   |some ad=>exact run_firstCells_some (P:=P) w' _ _ ad _ _ [] (by simp) (by simp)
  ·obtain⟨b,off,rfl,hL⟩:=a6 hy;exact ZhM (Rd.all_length j) j.length.symm hL hw
 have hO:∃base cap f,sv=.slice base xs.length cap/\Fa (Rd w g.I t) xs f/\(∀w',JD w w' ->(Vo R.size xs.length (.slice base xs.length cap)).run P w' =.ok f.flatten.toArray w')/\
  ((base=Ub/\cap=0/\xs=[])\/∃id b cs e,H' =Z0 H id Ub/\H id≠Ub/\ow id b/\base=Ua ⟨b,0,Ub⟩/\w.heap[b]? =Ua (.cells cs e (0,0))/\cap*t.size<=cs.size/\f.flatten<+:cs.toList):=by
  rcases hS with ⟨_,rfl,rfl⟩|⟨id,b2,M,⟨rfl,rfl⟩|⟨b,cap,cs,e,css,ho,rfl,hh,_,T,J,hc⟩⟩
  ·exact⟨Ub,0,[],rfl,trivial,λw' _=>by rfl,by simp⟩
  ·exact⟨Ub,0,[],rfl,trivial,λw' _=>by rfl,by simp⟩
  ·refine⟨_,cap,css,rfl,J,λw' hw=>?_,by grind⟩;rw[Q];exact ZhM (Rd.all_length J) J.length.symm (KB.of_vec hh hc) hw
 obtain⟨base,cap,f,rfl,n,a4,G⟩:=hO;have q:=Yt (Rd.all_length n);have C:=Yt (Rd.all_length j);rw[<-n.length]at q;rw[<-j.length]at C;rcases ZiS h0 h1 Z a8 a5 hz a1 a4 a3 a7 with ⟨O,p⟩|⟨m,w1,b3,a9,p⟩
 ·
  rcases G with ⟨rfl,rfl,rfl⟩|⟨id,b,cs,e,rfl,M,ho,rfl,hh,T,hc⟩
  ·have hy:l=[]:=by grind
   subst hy;have A:=hr _ _ (p.trans (by rfl));refine⟨_,w,g.add nid t Ub (.slice Ub 0 0),Xk ow nid (λ_=>False),.inl A,?_,Gh.le_add y _ _ _,λ_ _=>rfl,?_,?_⟩
   ·exact D.add y (by simp) (Vf _) rfl rfl ⟨rfl,Vf _⟩ (by simp) ⟨by simp [Gh.add],.inl ⟨rfl,by simp [Gh.add],by simp [Gh.add]⟩⟩
   ·refine KN ?_ rfl rfl;exact⟨.inl rfl,by simp [Gh.add],by simp [Gh.add,Vka]⟩
   ·intro id h;rcases h with rfl|h
    ·exact .inr ⟨Vf _,by unfold Wu;omega⟩
    grind
  ·obtain⟨rest,N⟩:=hc;have V:(xs.length+l.length) *t.size<=cap*t.size:=Nat.mul_le_mul_right _ O;rw[Voa]at V;have hs:=hR.sep id b M ho;have X:∀u∈d.flatten,u.oneCell' =true:=by
    intro u Z;obtain⟨c1,a2,Z⟩:=List.mem_flatten.1 Z;obtain⟨i,hi,rfl⟩:=Vcb a2;have b4:i<l.length:=by rw[j.length];omega
    obtain⟨c',h2,h3⟩:=j.get i l[i] (by simp);rw[Vt hi]at h2;cases h2;exact Rd.oneCell t _ _ h3 u Z
   have Y:=run_storeCells_at P b (xs.length*t.size) e d.flatten 0 cs w hh (by omega) X;have W:(cs.toList.take (xs.length*t.size+0)++d.flatten++cs.toList.drop (xs.length*t.size+0+d.flatten.length))=(f++d).flatten++rest.drop d.flatten.length:=by rw[Vza,<-q,<-N,List.take_left,Vca,List.drop_append,Vua (by omega)];simp
   rw[W]at Y;have A:=hr (.slice (Ua ⟨b,0,Ub⟩) (xs.length+l.length) cap) (w.setRow b ((f++d).flatten++rest.drop d.flatten.length).toArray) (p.trans (by simp only[Vb,Dt,Q,Vp,Y,Va,Vd]))
   have L:∀k,Z0 H id Ub k≠Ub->¬ow k b:=by intro k U hb;obtain⟨h3,h4⟩:=YB U;exact h3 (hR.dist k id b h4 M hb ho)
   have a0:=D.free (w' :=w.setRow b ((f++d).flatten++rest.drop d.flatten.length).toArray) L hs.1 hs.2.2 (λk U=>setRow_other w b k _ U) (size_setRow w b _) rfl rfl ⟨rfl,Vf _⟩;have S:Kq g.I w (w.setRow b ((f++d).flatten++rest.drop d.flatten.length).toArray):=λk U=>setRow_other w b k _ (by grind);refine⟨_,_,g.add nid t (Ua b) (.slice (Ua ⟨b,0,Ub⟩) (xs++l).length cap),Xk ow nid (λk=>k=b),.inl A,?_,Gh.le_add y _ _ _,S,?_,?_⟩
   ·refine a0.add y (by simp) (Vf _) rfl rfl ⟨rfl,Vf _⟩ (λk U=>?_) ?_
    ·simp_all
    ·refine⟨by simp [Gh.add],.inr ⟨b,cap,_,e,f++d,by simp [Gh.add],rfl,by simp [Gh.add],R7 hh,by omega,?_,?_,by simp⟩⟩
     ·grind
     ·exact(n.append j).mono λx c hx=>Rd.mono S (λ_ h=>h) t x c hx
   ·refine KN ?_ rfl rfl;exact⟨.inl rfl,by simp [Gh.add,s],by simp [Gh.add,Vka]⟩
   ·intro id h;rcases h with rfl|h
    ·exact .inr ⟨Vf _,by unfold Wu;omega⟩
    grind
 ·have A:=hr _ _ p;refine Zin D y (n.append j) ?_ (by rw[s];omega) ?_ a9 (by rw[s];omega)
  ·simp
  ·have b0:(Vz z.cells (m - (xs.length+l.length))).size=(m - (xs.length+l.length)) *t.size:=by simp [Vz,b1]
   simp only[Array.size_append,Vfc,q,C,b0];have:m*t.size=xs.length*t.size+l.length*t.size+(m - (xs.length+l.length)) *t.size:=by rw[<-Voa,<-Voa];grind
   omega
theorem Zof{id ver tmp:Nat}{kt:Ty}{k:El kt}{val:Value}{r:(t:Ty)×List (El t)}{o' :K5}{l l' l2 b4:List Nat}(S:RH B H w g ow)(hv:VR w g (.nw id ver kt k) val)(f:(Yo id ver kt k).run H l=Ua (r,l'))(d:(Zd5 id nid kt k).run H l2=Ua (o',b4))
 (a3:¬g.K tmp):∃g2 a4,RH B (Z0 (Z0 H id (Ua o')) tmp (Ua (.vec r.1 r.2))) w g2 a4/\g.Le g2/\g2.I=g.I/\(∀i,g2.K i->g.K i\/i=tmp)/\(∀b,a4 tmp b↔WS val=Ua b)/\id≠tmp/\g2.slv tmp=val:=by
 obtain⟨hK,_,_,_⟩:=hv.nw;obtain⟨C,O,b5,G,Q⟩:=Zbd S hv f;have a1:id≠tmp:=by grind
 have R:∀b,ow id b->¬g.I b/\b<w.heap.size/\(B.own0 b\/B.w0.heap.size<=b):=λb z=>S.sep id b C z;have hO:g.ver id<nid/\ORel w (g.bump id nid (g.row id)) (λb=>ow id b/\WS val≠Ua b) id o' :=by
  have s:(g.bump id nid (g.row id)).row id=g.row id:=by simp [Gh.bump]
  simp only[Yo]at f;rw[Z3]at f;simp only[Zd5]at d;rw[Z3]at d;split at f
  ·rename_i t xs u hH;rw[hH]at d;simp only[ZO,ZA,Zj,Zb,ZU,Ka]at f d;obtain⟨hu,i',a8,x,L,rfl,_⟩:=f;obtain⟨b2,i2,a9,rfl,_⟩:=d;obtain⟨rfl,rfl⟩:=KK a8;have:=Zep a9;subst this;obtain⟨_,O,V,n,hO⟩:=S.objs id _ hH;refine⟨by simp_all,O,by simp [Gh.bump],?_,?_⟩
   ·unfold idx at L;split at L
    ·rename_i h0;have e1:((i2.toNat:Nat):Int)=i2:=Int.toNat_of_nonneg h0;rw[s];refine n.take i2.toNat λj x' W hj hr=>hr.mono (λ_ _=>rfl) (by simp) (λb z h=>⟨h,λN=>?_⟩) (by simp);exact n.ds j i2.toNat x' x b W L hj (by simp) (by simp) z (by grind)
    grind
   ·rcases hO with h|⟨b,cap,cs,e,A,y,h3,h4,h5,h6,h7⟩
    ·exact .inl h
    ·refine .inr ⟨b,cap,cs,e,A,⟨y,λz=>?_⟩,h3,h4,h5,h6,by grind⟩;unfold idx at L;split at L
     ·rename_i h0;exact n.tp i2.toNat x b L (by simp) (by grind) A
     grind
  ·rename_i b7 t m u hH;rw[hH]at d;simp only[ZO,ZA,Zb,ZU,Ka,Ve]at f d;obtain⟨⟨hu,b6⟩,k',b0,rfl,_⟩:=f;obtain⟨b2,Y,b1,rfl,_⟩:=d;obtain⟨rfl,rfl⟩:=KK b0;have:=Zep b1;subst this;obtain⟨_,O,V,n,b3,a0,b,es,clock,A,y,h3,h4⟩:=S.objs id _ hH;have a2:∀Z,WS val=Ua Z->∃x,(Y,x)∈m:=λZ M=>by
    by_cases h:Y∈m.map Vla
    ·grind
    ·rw[G,a0 Y h]at M;simp [WS]at M
   refine⟨by simp_all,O,by simp [Gh.bump],?_,b3,by grind,b,es,clock,A,⟨y,λz=>?_⟩,h3,by rw[s];assumption⟩
   ·rw[s];refine n.take Y λj x' W hj hr=>hr.mono (λ_ _=>rfl) (by simp) (λZ M h=>⟨h,λN=>?_⟩) (by simp);obtain⟨x,L⟩:=a2 Z N;rw[G]at N;exact n.ds j Y x' x Z W L hj (by simp) (by simp) M N
   ·obtain⟨x,L⟩:=a2 b z;rw[G]at z;exact n.tp Y x b L (by simp) z A
  ·simp [Zb]at f
 have a6:=S.bump hK hO.1 (by simp) (Vf _) rfl rfl ⟨rfl,Vf _⟩ (by simp) (λb z=>by obtain⟨p,q,r⟩:=R b z.1;exact⟨p,q,r,λk X A y=>X (S.dist k id b A C y z.1)⟩) hO.2
 have D:¬(g.bump id nid (g.row id)).K tmp:=a3;have T:∀b,WS val=Ua b->ow id b/\ ¬g.I b/\b<w.heap.size/\(B.own0 b\/B.w0.heap.size<=b)/\∀k,Z0 H id (Ua o') k≠Ub->¬Xk ow id (λb=>ow id b/\WS val≠Ua b) k b:=λb z=>by
  have U:=Q.own z;obtain⟨p,q,r⟩:=R b U;refine⟨U,p,q,r,λk A y=>?_⟩;by_cases X:k=id
  ·subst X;rw[J4]at y;grind
  ·rw[Ky X]at A;rw[Jd X]at y;exact X (S.dist k id b A C y U)
 have J:∃b,ORel w ((g.bump id nid (g.row id)).add tmp r.1 b val) (λb=>WS val=Ua b) tmp (.vec r.1 r.2):=by
  rcases Q with ⟨A,y⟩|⟨b,cap,cs,e,a5,y,_,hh,h5,h6,a7,hc⟩
  ·exact⟨Ub,by simp [Gh.add],.inl ⟨A,by simp [Gh.add],by simp [Gh.add,y]⟩⟩
  ·exact⟨Ua b,by simp [Gh.add],.inr ⟨b,cap,cs,e,a5,by simp [Gh.add],by rw[y];rfl,by simp [Gh.add,y],hh,h5,h6,a7,hc⟩⟩
 obtain⟨b,J⟩:=J;refine⟨_,_,a6.add D (by simp) (Vf _) rfl rfl ⟨rfl,Vf _⟩ (λc hc=>(T c hc).2) J,(Gh.le_bump hO.1).trans (Gh.le_add D _ _ _),rfl,λi hi=>?_,λc=>?_,a1,by simp [Gh.add]⟩
 ·rcases hi with h|h
  ·omega
  ·exact .inl h
 ·rw[J4]
theorem Zlo{b cap n:Nat}{c:List Value}{cs:Array Value}{e:TypeId}(d:w.heap[b]? =Ua (.cells cs e (0,0)))(m:c.length=n)(l:∀i,i<n->cs[i]? =Ua (c.getD i undef)){w' :World}(k:JD w w'):
 (Vo 1 n (.slice (Ua ⟨b,0,Ub⟩) n cap)).run P w' =.ok c.toArray w' :=by
 refine run_firstCells_some w' 1 n _ n cap _ (by omega) ?_;intro j u f;obtain⟨h,rfl⟩:=Vy.1 f;rw[Dt];simp [Vkc,k.heap,d];grind
theorem Zqq{t:Ty}{ie:TypeInfo}{z:Value}{T0 T1 Et E1 ty:TypeId}{argTypes:Array TypeId}{sv xv:Value}{xs l:List (List (El t))}{f h:List Nat}{r:Result Next}(S:RH B H w g ow)(a0:¬g.K nid)
 (h0:argTypes[0]? =Ua T0) (h1:argTypes[1]? =Ua T1) (hu:P.underlying T0=Ua (.slice Et)) (e2:P.underlying T1=Ua (.slice E1))
 (c1:P.info? Et=Ua ie) (hz:ie.zero=Ua z) (e4:z.cells.size=(Ty.sl t).size) (d7:ie.size=(Ty.sl t).size) (b5:ie.bytes<=256) (c6:xs.length+l.length<=549755813888)
 (hS:Xg w g.I (ZP H ow f) t xs sv) (hX:Xg w g.I (ZP H ow h) t l xv) (e5:∀k,k∈f->k ∉ h)
 (hr:∀val w',(Vx argTypes ty #[sv,xv]).run P w=.ok val w' ->r=.ok (.value val) w'):Zu B (Zs (Zs H ((f++h).map λid=>(id,Ub))) [(nid,Ua (.rows t (xs++l) 0 Ub))]) w g nid (.vw nid) r:=by
 have M:ie.size=1:=d7;obtain⟨j,U,d8⟩:=hS;obtain⟨d,A,d9⟩:=hX;have W:RH B (Zs H ((f++h).map λid=>(id,Ub))) w g ow:=S.drops _;have hJ:∀b,ZP H ow f b->¬ZP H ow h b:=λb ⟨k,a1,V,a3⟩ ⟨k',b1,b2,b3⟩=>by have:=S.dist k k' b V b2 a3 b3;grind
 have D:=U.append A hJ;have D:RL w g.I (ZP H ow (f++h)) t (j++d) (xs++l):=D.mono (λ_ _=>rfl) (by simp) (λb Y=>by
  rcases Y with ⟨k,a1,V⟩|⟨k,a1,V⟩
  ·exact⟨k,by grind,V⟩
  ·exact⟨k,by grind,V⟩) (by simp)
 have T:∀b,ZP H ow (f++h) b->b<w.heap.size:=λb ⟨k,_,V,a3⟩=>(S.sep k b V a3).2.1;have c4:=U.1;have c5:=A.1;have e3:∃xb c,xv=.slice xb l.length c/\∀w',JD w w' ->(Vo ie.size l.length (.slice xb l.length c)).run P w' =.ok d.toArray w' :=by
  rw[M];rcases d9 with ⟨rfl,rfl⟩|⟨b,cap,cs,e,_,_,rfl,hh,_,_,N⟩
  ·have:d=[]:=by grind
   subst this;exact⟨Ub,0,rfl,λw' _=>by rfl⟩
  ·exact⟨_,cap,rfl,λw' hw=>Zlo hh c5 N hw⟩
 obtain⟨xb,c,rfl,b6⟩:=e3;have d0:∃base cap,sv=.slice base xs.length cap/\(∀w',JD w w' ->(Vo ie.size xs.length (.slice base xs.length cap)).run P w' =.ok j.toArray w')/\((base=Ub/\cap=0/\xs=[])\/
  ∃b cs e,ZP H ow f b/\base=Ua ⟨b,0,Ub⟩/\w.heap[b]? =Ua (.cells cs e (0,0))/\cap<=cs.size/\(∀i,i<xs.length->cs[i]? =Ua (j.getD i undef))/\∀i x,xs[i]? =Ua x->WS (j.getD i undef)≠Ua b):=by
  rw[M];rcases d8 with ⟨rfl,rfl⟩|⟨b,cap,cs,e,e7,c7,rfl,hh,_,a6,N⟩
  ·have:j=[]:=by grind
   subst this;exact⟨Ub,0,rfl,λw' _=>by rfl,by simp⟩
  ·exact⟨_,cap,rfl,λw' hw=>Zlo hh c4 N hw,by grind⟩
 obtain⟨base,cap,rfl,b7,Z⟩:=d0;have e6:(xs++l).length=xs.length+l.length:=Vn;rcases ZiS h0 h1 hu e2 c1 hz b5 b7 b6 c6 with ⟨c8,C⟩|⟨n,w1,e9,R,C⟩
 ·rcases Z with ⟨rfl,rfl,rfl⟩|⟨b,cs,e,⟨kb,c2,O,y⟩,rfl,hh,a6,N,c7⟩
  ·have hy:l=[]:=by grind
   subst hy;have L:=hr _ _ (C.trans (by rfl));exact Zdg (J:=λ_=>False) W a0 (by simp) (Vf _) rfl rfl ⟨rfl,Vf _⟩ L ⟨[],RL.nil,by simp⟩ (by simp)
  ·have hs:=S.sep kb b O y;have a8:∀u∈d,u.oneCell' =true:=by
    intro u hu;obtain⟨i,hi,rfl⟩:=Vcb hu;have b9:i<l.length:=by omega
    have:=(A.row (Vt b9)).one.1;grind
   have b0:=run_storeCells_at P b (xs.length*1) e d 0 cs w hh (by omega) a8;have e1:cs.toList.take xs.length=j:=by apply Via;grind
   have a7:(cs.toList.take (xs.length*1+0)++d++cs.toList.drop (xs.length*1+0+d.length))=(j++d)++cs.toList.drop (xs.length+d.length):=by grind
   rw[a7]at b0;have L:=hr (.slice (Ua ⟨b,0,Ub⟩) (xs.length+l.length) cap) (w.setRow b ((j++d)++cs.toList.drop (xs.length+d.length)).toArray) (C.trans (by simp only[Vb,Dt,M,Vp,b0,Va,Vd]))
   have Q:∀k,k≠b->(w.setRow b ((j++d)++cs.toList.drop (xs.length+d.length)).toArray).heap[k]? =w.heap[k]? :=λk hk=>setRow_other w b k _ hk;have b8:=ZeM (ids:=f++h) S (b:=b) ⟨kb,by grind,O,y⟩;have X:=W.free (b:=b) b8.2.2.2 hs.1 hs.2.2 Q (size_setRow w b _) rfl rfl ⟨rfl,Vf _⟩;have b4:Kq g.I w (w.setRow b ((j++d)++cs.toList.drop (xs.length+d.length)).toArray):=λk hk=>by grind
   have a9:∀i x,(xs++l)[i]? =Ua x->WS ((j++d).getD i undef)≠Ua b:=by
    intro i x hx Y;rcases Vnb i xs.length with hl|hl
    ·grind
    ·rw[Vdb hl]at hx;have:(j++d).getD i undef=d.getD (i - xs.length) undef:=by grind
     rw[this]at Y;exact hJ b ⟨kb,c2,O,y⟩ ((A.row hx).own Y)
   have G:=Zdg (J:=ZP H ow (f++h)) (t:=t) (xs:=xs++l) X a0 (by simp) (Vf _) rfl rfl ⟨rfl,Vf _⟩ L ?_ (λb' m=>?_)
   ·obtain⟨val,w',g',a4,d1,d2,d3,d4,d5,d6⟩:=G;exact⟨val,w',g',a4,d1,d2,d3,by grind,d5,d6⟩
   ·refine⟨j++d,D.mono b4 (by simp) (by grind) (by grind),.inr ⟨b,cap,_,e,.inl ⟨kb,by grind,O,y⟩,a9,by simp,R7 hh,by omega,?_,by grind⟩⟩
    all_goals grind
   ·obtain⟨p,q,r,s⟩:=ZeM S m;simp_all
 ·have L:=hr _ _ C;have X:=W.same R;have c9:w1.heap.size=w.heap.size:=by rw[R.heap]
  have G:=Zdg (J:=ZP H ow (f++h)) (t:=t) (xs:=xs++l) X a0 (λk hk=>D2 hk) (by simp) rfl rfl ⟨rfl,Vf _⟩ L ?_ (λb' m=>?_)
  ·obtain⟨val,w',g',a4,d1,d2,d3,d4,d5,d6⟩:=G;exact⟨val,w',g',a4,d1,d2,d3,λk hk=>(d4 k hk).trans (R.agree g.I k hk),d5,d6⟩
  ·have a5:∀b,b<w.heap.size->(w1.alloc (.cells (j.toArray++d.toArray++Vz z.cells (n - (xs.length+l.length))) Et)).heap[b]? =w.heap[b]? :=λb Y=>by rw[D2 (by omega),R.heap]
   refine⟨j++d,D.mono (λb Y=>a5 b (S.ilt b Y)) (by simp) (by grind) (λi x b' hx m=>a5 b' (T b' ((D.row hx).own m))),.inr ⟨w1.heap.size,n,_,Et,by simp,λi x hx m=>?_,by grind,D1 _ _,by omega,?_,λi hi=>?_⟩⟩
   ·have:=T _ ((D.row hx).own m);omega
   ·have f1:(Vz z.cells (n - (xs.length+l.length))).size=(n - (xs.length+l.length)) *1:=by simp [Vz,e4,Ty.size]
    grind
   grind
  ·obtain⟨p,q,r,s⟩:=ZeM S m;grind
theorem ZpT{c:Call}(hT:Z4 P E)(l:RH B H w g ow)(hF:Fr w g F a.tmps)(hk:∀id,g.K id->id<nid\/nid+Wu<=id)(ho:o.op=.call c)(hc:c.callee=.builtin .append)
 (h:(ZS E nid o.op o.type (Zz F)).run H []=Ua ((v,patch),rd)):Zu B (Zs H patch) w g nid v ((execOp a.eval o).run P w):=by
 rw[ho]at h;simp only[ZS,hc]at h;split at h
 ·rename_i s x t a6 b2;rw[ZO]at h;have n:c.args.map a.eval= #[a.eval s,a.eval x]:=by
   have:c.args= #[s,x]:=by grind
   grind
  obtain⟨T0,h0,Z⟩:=Vk.1 b2;rcases h with ⟨_,h⟩|⟨f,h⟩
  ·simp [Zb]at h
  simp only[ZO]at h;have:∃Q t1,c.argTypes[1]? =Ua Q/\E.ty Q=Ua (.sl t1):=by
   cases hh:c.argTypes[1]? with
   |none=>rw[hh]at f;simp [JP]at f
   |some Q=>
    rw[hh]at f;simp only[Za]at f
    cases ht:E.ty Q with
    |none=>rw[ht]at f;simp [JP]at f
    |some t1=>cases t1<;>rw[ht]at f<;>simp [JP]at f;grind
  obtain⟨Q,t1,h1,b1⟩:=this;obtain⟨Et,hu,a2⟩:=Js hT Z;obtain⟨E1,N,_⟩:=Js hT b1;obtain⟨ie,z,p,M,_,hz,a0,_⟩:=(hT.ty Et _ a2).info;have J:=(hT.ty _ _ Z).small _ _ hu p;have O:z.cells.size=t.size:=by obtain⟨m,h4⟩:=Zgh (w:=w) (g:=g) a0;have:=CV.length _ t _ h4 m;omega
  have d:∀val w',(Vx c.argTypes o.type #[a.eval s,a.eval x]).run P w=.ok val w' ->(execOp a.eval o).run P w=.ok (.value val) w' :=by intro val w' d;simp only[execOp,ho,Zb3 hc,builtin,n,Vb,d,Va,Vd]
  rcases h with ⟨_,h⟩|⟨_,h⟩
  ·split at h
   ·rename_i t';simp only[ZjL,Z2,ZA,Zj,Vc]at h;obtain⟨⟨xs,b5⟩,m1,hS,⟨j,C⟩,m2,S,u,U,u2,V,⟨rfl,rfl⟩,_⟩:=h;have i:xs.length+j.length<=549755813888:=Xy (HO U);obtain⟨n1,n2,n3⟩:=Vec.1 (Zfq.1 (HO V));rw[Xq];exact Zqq l (YT hk) h0 h1 hu N p hz O M J i (Zfx l (hF.eval s) hS).1 (Zfx l (hF.eval x) S).1 (by grind) d
   ·simp [Zb]at h
  split at h
  ·rename_i id ver kt k b0;simp only[ZjK,Z2,ZA,Zj,Vc]at h;obtain⟨r,m1,y,xs,b3,⟨j,C⟩,m2,S,u,U,u2,V,o',m3,L,⟨rfl,rfl⟩,_⟩:=h;obtain⟨he,rfl⟩:=Zbu b3;obtain⟨t0,row⟩:=r;simp only at he;subst he;have i:row.length+j.length<=549755813888:=Xy (HO U);have A:¬g.K (nid+1):=λh=>by have:=hk _ h;unfold Wu at this;omega
   have Y:=b0▸hF.eval s;obtain⟨g2,b6,a4,a7,hI,R,a9,a8,_⟩:=Zof l Y y L A;obtain⟨_,_,_,_,X⟩:=Zbd l Y y;have G:=Zed l (hF.eval x) S;have a5:Zcu w g2 t0 j (a.eval x):=by unfold Zcu at G⊢;grind
   have W:¬g2.K nid:=λh=>by
    rcases R _ h with h|h
    ·exact YT hk h
    ·omega
   have T:=Zj2 (ty:=o.type) (xs:=row) a4 W h0 h1 hu N p hz O M J i a5 d (sv:=a.eval s) (.inr ⟨nid+1,rfl,by rw[XL];simp,by
    rcases X with ⟨m,h4⟩|⟨b,cap,cs,e,a1,m,_,h5,h6,h7,h8,h9⟩
    ·grind
    ·exact .inr ⟨b,cap,cs,e,a1,(a9 b).2 (by rw[m];rfl),m,h5,h6,h7,by grind,h9⟩⟩)
   obtain⟨val,w',g',b4,d1,d2,d3,d4,d5,d6⟩:=T;have D:H (nid+1)=none:=by
    cases hh:H (nid+1) with
    |none=>rfl
    |some ob=>exact absurd (l.objs _ _ hh).1 A
   have a3:Z0 (Z0 (Z0 (Z0 H id (Ua o')) (nid+1) (Ua (.vec t0 row))) (nid+1) Ub) nid (Ua (.vec t0 (row++j)))=Zs H [(id,Ua o'),(nid,Ua (.vec t0 (row++j)))]:=by
    simp only[Zs];funext q;by_cases q1:q=nid
    ·subst q1;rw[XL,XL]
    ·rw[Ky q1,Ky q1];by_cases q2:q=nid+1
     ·subst q2;rw[XL,Ky (Ne.symm a8),D]
     ·rw[Ky q2,Ky q2]
   rw[a3]at d2;refine⟨val,w',g',b4,d1,d2,a7.trans d3,by grind,d5,λq hq=>?_⟩;rcases d6 q hq with h|h
   ·rcases R q h with h|h
    ·grind
    ·exact .inr ⟨by omega,by unfold Wu;omega⟩
   omega
  simp only[ZjJ,Z2,ZA,Zj,Vc]at h;obtain⟨⟨xs,ids⟩,m1,hS,⟨j,C⟩,m2,S,u,U,⟨rfl,rfl⟩,_⟩:=h;have i:xs.length+j.length<=549755813888:=by
   unfold ZD at U
   cases hd:Ue (xs.length+j.length<=ZI) with
   |true=>exact Xy hd
   |false=>grind
  have hO:=Zdq l (hF.eval s) hS;have G:=Zed l (hF.eval x) S;have hp:Zs H (ids.map (λid=>(id,Ub))++[(nid,Ua (.vec t (xs++j)))])=Z0 (Zs H (ids.map λid=>(id,Ub))) nid (Ua (.vec t (xs++j))):=by exact Xq _ _ _
  rw[hp];refine Zj2 (ty:=o.type) l (YT hk) h0 h1 hu N p hz O M J i G d (sv:=a.eval s) ?_
  ·rcases hO with ⟨rfl,rfl,m⟩|⟨id,rfl,m,h4⟩
   ·exact .inl ⟨rfl,rfl,m⟩
   ·exact .inr ⟨id,rfl,m,h4⟩
 ·simp [Zb]at h
end ops
end Tr
end
section
namespace Tr
open Go
section ops
variable {P:Program}{E:Z9}{B:Z1}{H:AH}{w:World}{g:Gh}{ow:Nat->Nat->Prop}{F:Nat->AV}{a:Act}{nid:Nat}{o:Oper}{v:AV}{patch:KF}{rd:List Nat}
theorem Zxb{id:Nat}{x:Option K5}(h:H id=x):Z0 H id x=H:=by
 funext k;by_cases e:k=id
 ·subst e;rw[XL,h]
 ·rw[Ky e]
theorem Zli{I:Nat->Prop}:∀{y:List Int}{css:List (List Value)},Fa (Rd w I (.int .u8)) y css->css.flatten=y.map (Value.int .u8)
 |[],[],_=>rfl
 |_::_,_::_,⟨h,q⟩=>by rw[Vsa,Zli q,show _=_ from h];rfl
theorem Zp0{S T:TypeId}{x:Operand}(l:Z4 P E)(z:RH B H w g ow)(hF:Fr w g F a.tmps)(G:o.op=.convert S T x)
 (h:(ZS E nid o.op o.type (Zz F)).run H []=Ua ((v,patch),rd)):Zu B (Zs H patch) w g nid v ((execOp a.eval o).run P w):=by
 rw[G]at h;simp only[ZS,ZA]at h;obtain⟨s,M,t,N,h⟩:=h;have K:=hF.eval x;obtain⟨d,Q⟩:=Zw6 l M;split at h
 ·rename_i k Y n V;simp only[Zj,Vc]at h;obtain⟨⟨rfl,rfl⟩,_⟩:=h;rw[V]at K;refine Zu.pure z (val:=.int k (k.wrap n)) ?_ (J1 _ _);simp only[execOp,G,VR.int K,convert,underlying,Vb,run_program,Va,Q,ZoF l N,Vd,Conv.intToInt]
 ·simp only[ZO,Zb,ZU,Ka,Ki,Zy.run_bind]at h;obtain⟨rfl,h⟩:=h
  cases L:(D3 (.int .u8) (Zz F x)).run H [] with
  |none=>grind
  |some r=>
   obtain⟨⟨y,ids⟩,Z⟩:=r;rw[L]at h;simp only[Za,Zj,Vc]at h;obtain⟨⟨rfl,rfl⟩,_⟩:=h;obtain⟨p,J,u⟩:=Js l M;have j:=ZoF l u;have f:=Zjd l N;obtain⟨O,c,q,U,A,R⟩:=Zed z K L;refine Zu.pure z (val:=.string (strOfNums y)) ?_ (Zd2 (Zel y));have key:(convert S T (.slice O y.length c)).run P w=.ok (.string (strOfNums y)) w:=by
    by_cases m:y=[]
    ·subst m
     cases O with
     |none=>exact run_convert_bytes_nil w S p J j _ _ T f
     |some W=>
      rw[run_convert_bytes_string w S T p _ _ _ J j f];rfl
    ·obtain⟨b,off,rfl,e⟩:=R m;have C:=Zli A;refine run_convert_bytes_arg w S p J j b off _ c y rfl (λi X=>?_) T f;have D:i<q.flatten.length:=by grind
     rw[e i D,List.getElem_of_eq C];grind
   simp only[execOp,G,U,Vb,key,Va,Vd]
 ·simp [Zb]at h
theorem Zwg{len cap m:Nat}{j:Option Operand}{f t:Operand}{l h:Nat}{p:Int}(hF:Fr w g F a.tmps)(Q:m<=cap)
 (r:∀x∈j,(KW (Zz F x)).isSome) (q:(KW (Zz F f)).isSome) (s:KW (Zz F t)=Ua p) (d:0<=p/\m=p.toNat)
 (i:sliceB len m (j.bind λo=>KW (Zz F o)) (KW (Zz F f))=Ua (l,h)):
 (Vta Uc len cap (j.map a.eval) (Ua (a.eval f)) (Ua (a.eval t))).run P w=.ok (l,h,m) w/\l<=h/\h<=m:=by
 have bound:∀(x:Operand) (n:Int) (y:Nat) (code:BoundsCode),KW (Zz F x)=Ua n->0<=n->n<=y->(Vv (a.eval x) y code).run P w=.ok n.toNat w:=by intro x n y code K D G;obtain⟨k,J⟩:=Zj6 hF K;simp only[Vv,J,asIntOf,Vb,Vd,Va,D,G,and_self,if_true]
 obtain⟨n,A⟩:=Vqa.1 q;unfold sliceB at i;rw[A]at i;simp only[Vk]at i;obtain⟨O,z,b⟩:=i;split at z
 ·rename_i u;cases z;have C:=bound t p cap .slice3Acap s d.1 (by omega);have M:=bound f n m .slice3B A u.1 u.2;rw[<-d.2]at C;unfold Vta
  cases j with
  |none=>
   simp only[Vwa,ZL,Vc]at b;obtain⟨rfl,rfl⟩:=b;refine⟨?_,Nat.zero_le _,by omega⟩
   simp_all
  |some x=>
   obtain⟨L,e⟩:=Vqa.1 (r x rfl);simp only[Za,e]at b;split at b
   ·rename_i c;simp only[ZL,Vc]at b;obtain⟨rfl,rfl⟩:=b;have N:=bound x L n.toNat .slice3C e c.1 c.2;refine⟨?_,by omega,by omega⟩;simp_all
   grind
 grind
theorem Zqk{T:TypeId}{x D mx:Operand}{L:Option Operand}(C:Z4 P E)(A:RH B H w g ow)(hF:Fr w g F a.tmps)(G:o.op=.slice T x L (Ua D) (Ua mx))
 (h:(ZS E nid o.op o.type (Zz F)).run H []=Ua ((v,patch),rd)):Zu B (Zs H patch) w g nid v ((execOp a.eval o).run P w):=by
 rw[G]at h;simp only[ZS,ZO,Zb,ZU,false_or,Vh,Ve]at h;obtain⟨⟨i,f⟩,h⟩:=h;have i:=Zam i;have f:(KW (Zz F D)).isSome:=f;have hx:=hF.eval x;split at h
 ·rename_i id hy;rw[Z3]at h;split at h
  ·rename_i t xs Q;simp only[ZO,ZA,Zb,ZU,false_or,Vh,Ki]at h;obtain⟨Z,mi,y,m,X,⟨l,z⟩,J,h⟩:=h;have U:v=.vs id l (z - l)/\patch=[]:=by
    cases L with
    |none=>
     simp only[Zj,Vc]at h;have hl:0=l:=by simp only[sliceB,Vwa,Vk,ZL,Vc]at J;omega
     grind
    |some x=>
     simp only[Zj,Vc]at h;grind
   obtain⟨rfl,rfl⟩:=U;obtain⟨s,Y,u⟩:=ZaD X;have p:m<=xs.length:=by omega
   obtain⟨M,hu,q⟩:=Js C Z;obtain⟨hk,S⟩:=(hy▸hx).vw;obtain⟨_,a1,d⟩:=A.objs id _ Q;have key:∃(j:Option Addr) (cap:Nat),g.slv id=.slice j xs.length cap/\xs.length<=cap/\(∀l n m,l+n<=xs.length->l+n<=m->m<=xs.length->Zcc (g.slv id) t.size l n [.slice (if m=l then j else j.map (·.add (l*t.size))) n (m - l)]):=by
    rcases d with ⟨rfl,_,d⟩|⟨b,cap,cs,e,N,_,_,d,_,c,_⟩
    ·refine⟨Ub,0,d,Vf _,λl n m k r p=>.inl ⟨d,?_,?_,?_⟩⟩
     all_goals grind
    ·refine⟨_,cap,d,c,λl n m k r p=>.inr ⟨b,xs.length,cap,m - l,d,k,by omega,by omega,?_⟩⟩;congr 2;by_cases O:m=l
     ·grind
     ·rw[Zg O,Zg (by omega)];simp only[Vi,ZL];unfold Addr.add;grind
   obtain⟨j,cap,hv,c,K⟩:=key;obtain⟨R,W,V⟩:=Zwg (P:=P) (w:=w) (cap:=cap) hF (by omega) i f y ⟨s,u⟩ J;refine Zu.pure A (val:=.slice (if m=l then j else j.map (·.add (l*t.size))) (z - l) (m - l)) ?_ (KN ?_ rfl rfl)
   ·simp only[execOp,G,S,hv,Vna,Vxa,Vi,underlying,Vb,run_program,Va,hu,Vd,R,(C.ty M t q).run_sizeOf]
   ·simp only[CV];grind
  ·simp [Zb]at h
 ·simp [Zb]at h
end ops
end Tr
end
section
namespace Tr
open Go
section ops
variable {P:Program}{E:Z9}{B:Z1}{H:AH}{w:World}{g:Gh}{ow:Nat->Nat->Prop}{nid:Nat}{a:Act}{F:Nat->AV}{v:AV}{patch:KF}{rd:List Nat}{o:Oper}
theorem ZsU{L:List MapEntry}(b:(L.map (·.born)).Nodup){i:Nat}{e:MapEntry}(f:L[i]? =Ua e):L.filter (λx=>x.born !=e.born)=L.eraseIdx i:=by
 induction L generalizing i with
 |nil=>rfl
 |cons x l h=>
  obtain⟨c,d⟩:=Vqc.1 b
  cases i with
  |zero=>
   simp_all
  |succ i=>
   grind
theorem Zua(es:Array MapEntry)(seen:Array Nat)(n:Nat):HR es (seen.push n)=(HR es seen).filter λx=>x.born !=n:=by unfold HR;rw[List.filter_filter];grind
theorem Zic(es:Array MapEntry)(seen:Array Nat):(leftOf es seen).toList=HR es seen:=by unfold leftOf HR;simp
theorem Zt8(es:Array MapEntry):HR es #[]=es.toList:=by unfold HR;simp
theorem Zt9{es:Array MapEntry}(h:(es.toList.map (·.born)).Nodup)(seen:Array Nat):((HR es seen).map (·.born)).Nodup:=
 h.sublist ((List.filter_sublist).map _)
theorem Zqi{T:TypeId}{x:Operand}(M:Z4 P E)(c:RH B H w g ow)(hF:Fr w g F a.tmps)(u:∀id,g.K id->id<nid\/nid+Wu<=id)(A:o.op=.range T x)
 (h:(ZS E nid o.op o.type (Zz F)).run H []=Ua ((v,patch),rd)):Zu B (Zs H patch) w g nid v ((execOp a.eval o).run P w):=by
 rw[A]at h;simp only[ZS,ZA]at h;obtain⟨m,R,h⟩:=h;obtain⟨K,V,U,hK,hV⟩:=M.mty T m R;split at h
 ·rename_i id W;rw[Z3]at h;split at h
  ·rename_i kt vt m J;simp only[Zj,Vc]at h;obtain⟨⟨rfl,rfl⟩,_⟩:=h;obtain⟨_,b,N,O⟩:=(W▸hF.eval x).mp;obtain⟨_,Z,es,clock,j,p,Q,l,t⟩:=c.objs id _ J;rw[N]at j;cases j;have q:(execOp a.eval o).run P w=.ok (.value (.pointer (Ua ⟨w.heap.size,0,Ub⟩))) (w.alloc (.mapIter (Ua b) clock #[] clock)):=by simp only[execOp,A,Vb,O,run_range_map w T K V b es clock U Q,Va];rfl
   have n:∀k,k<w.heap.size->(w.alloc (.mapIter (Ua b) clock #[] clock)).heap[k]? =w.heap[k]? :=λk u=>by show (w.heap.push _)[k]? =_;grind
   have S:(w.alloc (.mapIter (Ua b) clock #[] clock)).heap.size=w.heap.size+1:=Array.size_push ..;obtain⟨X,p2,Y⟩:=c.sep id b (by grind) p;simp only[Zs];have f:g.Le (g.add nid .ref (Ua w.heap.size) undef):=Gh.le_add (YT u) _ _ _;have d:Kq g.I w (w.alloc (.mapIter (Ua b) clock #[] clock)):=λk y=>n k (c.ilt k y);refine⟨_,_,g.add nid .ref (Ua w.heap.size) undef,Xk ow nid (λk=>k=w.heap.size\/k=b),.inl q,?_,f,d,?_,?_⟩
   ·refine(c.drop id).add (YT u) n (by omega) rfl rfl ⟨rfl,Vf _⟩ (λk z=>?_) ?_
    ·rcases z with rfl|rfl
     ·refine⟨λL=>absurd (c.ilt _ L) (by omega),by omega,.inr c.size,λi r s=>?_⟩;have:=(c.sep i _ (YB r).2 s).2.1;omega
     ·refine⟨X,by omega,Y,λi r s=>?_⟩;obtain⟨D,G⟩:=YB r;exact D (c.dist i id _ G (by grind) s p)
    ·refine⟨w.heap.size,b,es,clock,clock, #[],by simp [Gh.add],by simp [Gh.add],.inl rfl,.inr rfl,D1 _ _,by grind,⟨l.1,Vf _,l.2⟩,?_,by simp⟩;rw[Zt8];exact t.mono λkv e C=>⟨C.1.mono d f,C.2.mono d f⟩
   ·refine KN ?_ rfl rfl;simp only[CV];exact⟨.inl rfl,0,.ref,w.heap.size,by simp [Gh.add,WR],by simp [Gh.add],rfl⟩
   ·intro id h;rcases h with rfl|h
    ·exact .inr ⟨Vf _,by unfold Wu;omega⟩
    grind
  ·simp [Zb]at h
 ·simp [Zb]at h
theorem Zmy{it:Operand}{id:Nat}{n p:Ty}{cur:Option (El n×El p)}(x:RH B H w g ow)(hF:Fr w g F a.tmps)(C:o.op=.next it Ud)(D:Zz F it=.ptr id [])(u:H id=Ua (.rng n p [] cur)):
 (execOp a.eval o).run P w=.ok (.value (.tuple #[.bool Ud])) w/\VR w g (.tup (.cons (.d .bool Ud) .nil)) (.tuple #[.bool Ud]):=by
 obtain⟨_,L,t,b,k,q,y⟩:=(D▸hF.eval it).ptr;obtain⟨_,J,G,es,clock,since,seen,j,c,_,_,z,A,⟨r,s,K⟩,m,_⟩:=x.objs id _ u;rw[j,WR]at k;cases k;rw[q]at c;cases c;have i:HR es seen=[]:=by
  cases i:HR es seen with
  |nil=>rfl
  |cons e l=>rw[i]at m;exact m.elim
 rcases run_next_at (P:=P) w o.type b G since clock seen es clock z A r s with ⟨_,f⟩|⟨e,h,_⟩
 ·refine⟨?_,[.bool Ud],rfl,.bool Ud,[],rfl,⟨?_,?_⟩,rfl⟩
  ·simp only[execOp,C,Vb,y,f,Va];rfl
  ·rfl
  ·exact .inr rfl
 ·rw[Zic,i]at h;grind
theorem Zqe{it:Operand}(b:RH B H w g ow)(hF:Fr w g F a.tmps)(c:o.op=.next it Ud)
 (h:(ZS E nid o.op o.type (Zz F)).run H []=Ua ((v,patch),rd)):Zu B (Zs H patch) w g nid v ((execOp a.eval o).run P w):=by
 rw[c]at h;simp only[ZS]at h;split at h
 ·rename_i id i;rw[Z3]at h;split at h
  ·rename_i j k cur f;simp only[Zj,Vc]at h;obtain⟨⟨rfl,rfl⟩,_⟩:=h;obtain⟨d,e⟩:=Zmy (P:=P) b hF c i f;exact Zu.pure b d e
  ·simp [Zb]at h
 ·simp [Zb]at h
theorem Zp1{it:Operand}(n:RH B H w g ow)(hF:Fr w g F a.tmps)(p:o.op=.entry it)
 (h:(ZS E nid o.op o.type (Zz F)).run H []=Ua ((v,patch),rd)):Zu B (Zs H patch) w g nid v ((execOp a.eval o).run P w):=by
 rw[p]at h;simp only[ZS]at h;split at h
 ·rename_i id A;rw[Z3]at h;split at h
  ·rename_i L N rest kv u;simp only[Zj,Vc]at h;obtain⟨⟨rfl,rfl⟩,_⟩:=h;obtain⟨_,M,t,b,m,q,x⟩:=(A▸hF.eval it).ptr;obtain⟨_,D,C,es,clock,since,seen,k,d,_,_,y,z,⟨G,J,r⟩,K,s⟩:=n.objs id _ u;rw[k,WR]at m;cases m;rw[q]at d;cases d;obtain⟨e,i,c,rfl,j,l⟩:=s kv rfl;have f:=run_entry_at (P:=P) w b C since c es clock e y z i r;refine Zu.pure n (val:=.tuple #[e.key,e.val]) ?_ ⟨[e.key,e.val],rfl,e.key,[e.val],rfl,j,e.val,[],rfl,l,rfl⟩;simp only[execOp,p,Vb,x,f,Va];rfl
  ·simp [Zb]at h
 ·simp [Zb]at h
theorem ZuL{it:Operand}{id:Nat}{A C:Ty}{rest:List (El A×El C)}{cur:Option (El A×El C)}(J:RH B H w g ow)(hF:Fr w g F a.tmps)(ho:o.op=.next it Ud)(hy:Zz F it=.ptr id [])
 (X:H id=Ua (.rng A C rest cur)) (a1:rest≠ []):∃i kv val w',i<rest.length/\rest[i]? =Ua kv/\(execOp a.eval o).run P w=.ok (.value val) w' /\RH B (Z0 H id (Ua (.rng A C (rest.eraseIdx i) (Ua kv)))) w' g ow/\Kq g.I w w' /\
   VR w' g (.tup (.cons (.d .bool Uc) (.cons (.d A kv.1) (.cons (.d C kv.2) .nil)))) val:=by
 obtain⟨_,o',t,b,O,Q,Y⟩:=(hy▸hF.eval it).ptr;obtain⟨hK,b',n,es,clock,since,seen,u,p,j,r,Z,hm,⟨R,S,T⟩,D,_⟩:=J.objs id _ X;rw[u,WR]at O;cases O;rw[Q]at p;cases p;rcases run_next_at (P:=P) w o.type b n since clock seen es clock Z hm R S with ⟨h0,_⟩|⟨e,h,m,N,s⟩
 ·exfalso;have hl:HR es seen=[]:=by rw[<-Zic];grind
  rw[hl]at D
  cases rest with
  |nil=>grind
  |cons x l=>assumption
 ·rw[Zic]at h;obtain⟨i,U⟩:=List.getElem?_of_mem h;have L:i<rest.length:=by rw[D.length];grind
  obtain⟨e2,q,y,z⟩:=D.get i rest[i] (by simp);rw[U]at q;cases q;have G:JD w m:=by rcases N with rfl|rfl<;>exact⟨rfl,rfl,rfl,⟨rfl,by simp⟩⟩
  have K:=J.same G;have V:=J.sep id b (by grind) j;have f:∀k,k≠b->(Go.ChangeMaps.setBlock m b (.mapIter (Ua n) since (seen.push e.born) clock)).heap[k]? =m.heap[k]? :=by intro k hk;show (m.heap.setIfInBounds b _)[k]? =_;grind
  have c:Kq g.I w (Go.ChangeMaps.setBlock m b (.mapIter (Ua n) since (seen.push e.born) clock)):=λk hk=>by rw[f k (by grind),G.heap]
  have a0:b≠n:=by grind
  refine⟨i,rest[i],.tuple #[.bool Uc,e.key,e.val],_,L,by simp,?_,K.write (by grind) j f (by show (m.heap.setIfInBounds b _).size=_;simp) rfl rfl ⟨rfl,Vf _⟩ ?_,c,?_⟩
  ·simp only[execOp,ho,Vb,Y,s,Va];rfl
  ·refine⟨b,n,es,clock,since,seen.push e.born,u,Q,j,r,?_,?_,⟨R,S,T⟩,?_,λkv M=>?_⟩
   ·show (m.heap.setIfInBounds b _)[b]? =_;rw[Vfa,Zn rfl,Zn (by rw[G.heap];omega)]
   ·rw[f n (by omega),G.heap];omega
   ·rw[Zua,ZsU (Zt9 T seen) U];exact(D.mono λkv e W=>⟨W.1.mono c (.refl g),W.2.mono c (.refl g)⟩).eraseIdx i
   ·cases M;exact⟨e,(List.mem_filter.1 h).1,seen,rfl,y.mono c (.refl g),z.mono c (.refl g)⟩
  ·exact⟨[.bool Uc,e.key,e.val],rfl,.bool Uc,_,rfl,⟨by rfl,.inr rfl⟩,e.key,_,rfl,y.mono c (.refl g),e.val,_,rfl,z.mono c (.refl g),rfl⟩
end ops
end Tr
end
