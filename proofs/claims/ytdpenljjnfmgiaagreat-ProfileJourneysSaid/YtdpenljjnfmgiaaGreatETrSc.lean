/- copy, cap and slices with three indexes. Conditions: the table of types is the program's. -/
import Derived.Laws.BytesArg
import Derived.Maps.RangeRun
import Derived.Lib.LaidTab
import Derived.Lib.ItoaMem
import Derived.LaidEql
import Derived.Test.YtdpenljjnfmgiaaGreatETrI
import Derived.Test.YtdpenljjnfmgiaaGreatETrA
open Array renaming length_toList ->Vn,getElem?_toList ->Vv,getElem?_setIfInBounds ->Vja,getElem?_eq_getElem ->Vpa,toList_inj ->Vqb
open Bool renaming and_eq_true ->Vf,not_eq_false' ->Vib,false_eq_true ->Vjb
open Go.Builtin renaming zeroCells ->Vw,firstCells ->Vea,clear_ ->Vha,copy_ ->Vla,append_ ->Vxb,cap_ ->Vbc
open Go.Instr renaming sureAddr ->Vbb,mapEntry ->Vcb,sliceAt ->Veb,sliceBounds ->Vmb,sliceBound ->Vpb,entryStore ->Vtb,slice ->Vcc
open List renaming mem_singleton ->Vg,nodup_append ->Vh,mem_append ->Vi,length_append ->Vj,getElem?_eq_some_iff ->Vk,length_take ->Vm,sublist_append_left ->Vp,mem_of_mem_take ->Vq,nodup_cons ->Vr,getElem?_map ->Vs,mem_cons ->Vt,take_append_drop ->Vu,flatten_append ->Vy,replicate ->Vaa,getElem?_of_mem ->Vba,length_drop ->Vca,drop_drop ->Vga,drop_append_of_le_length ->Via,drop_left ->Vka,getElem?_append_left ->Vma,size_toArray ->Vna,ext_getElem? ->Voa,mem_flatten ->Vra,mem_map ->Vva,sublist_cons_self ->Vwa,take_left' ->Vxa,drop_left' ->Vya,mem_of_getElem? ->Vdb,map_eq_nil_iff ->Vhb,getElem?_drop ->Vkb,prefix_append ->Vlb,getElem?_set ->Vnb,getElem?_inj ->Vob,mem_filter ->Vub,nil_append ->Vvb,append_nil ->Vwb,map_append ->Vyb,length_map ->Vzb,take_left ->Vac
open Nat renaming le_refl ->Vd,eq_of_beq_eq_true ->Vl,min_eq_left ->Vz,add_zero ->Vua,le_of_ble_eq_true ->Vab,beq ->Vgb
open Option renaming map_some ->Vda,bind_eq_some_iff ->Vfa,isSome_iff_exists ->Vqa,bind_none ->Vsa,getD_some ->Vta,map_none ->Vza,getD_none ->Vsb,map ->Vfc
open Prod renaming fst ->Vo
open Prod.mk renaming injEq ->Va,inj ->Vec
open Go.Result renaming andThen_ok ->Vb
open Go.Sem renaming run_bind ->Vc,run_pure ->Ve,run ->Vrb
open Go.Value renaming slice ->Vx,pointer ->Vfb
open Go.World renaming cell? ->Vdc
open Option renaming some ->Ua,none ->Ub
open Bool renaming true ->Uc,false ->Ud
open Decidable renaming decide ->Ue
section
namespace Tr
open Go
section ops
variable {P:Program}{E:Ka}{B:Z1}{H:AH}{w:World}{g:Gh}{ow:Nat->Nat->Prop}{F:Nat->AV}{a:Act}{nid:Nat}{o:Oper}{v:AV}{patch:Kx}{rd:List Nat}
theorem Zn5{id:Nat}{x:Option K1}(h:H id=x):ZY H id x=H:=by
 funext k;by_cases e:k=id
 ·subst e;rw[XC,h]
 ·rw[Kt e]
theorem Zvo{h ty f:TypeId}{i:TypeInfo}{argTypes:Array TypeId}(j:argTypes[0]? =Ua h)(p:P.underlying h=Ua (.slice f))(e:P.info? f=Ua i)
 {base b:Option Addr}{n cap m c:Nat}{news:List Value} (d:(Vea i.size (Nat.min m n) (.slice b m c)).run P w=.ok news.toArray w):
 (Vla argTypes ty #[.slice base n cap,.slice b m c]).run P w=(do (match base with|some a=>storeCells a news|none=>pure ());pure (.int .i64 ((Nat.min m n:Nat):Int)):Sem Value).run P w:=by
 have k:(#[Vx base n cap,Vx b m c]:Array Value)[0]? =Ua (.slice base n cap):=rfl;have l:(#[Vx base n cap,Vx b m c]:Array Value)[1]? =Ua (.slice b m c):=rfl;unfold Vla;simp only[j,k,l,Vc,run_underlying p,Vb,Builtin.lenOf,Ve,Go.sizeOf,typeInfo,run_program,e,d]
 cases base<;>simp [goInt]
theorem Zku{id lo n m cap:Nat}{t:Ty}{xs z:List (El t)}{base:Option Addr}{xv:Value}{T0 ty Et:TypeId}{ie:TypeInfo}{argTypes:Array TypeId}{r:Result Next}(X:RH B H w g ow)(hH:H id=Ua (.vec t xs))
 (h0:argTypes[0]? =Ua T0) (W:P.underlying T0=Ua (.slice Et)) (a1:P.info? Et=Ua ie) (a8:ie.size=t.size) (hX:Zbc w g t z xv) (b8:lo+n<=xs.length)
 (hS:n=0\/ ∃b len,g.slv id=.slice (Ua ⟨b,0,Ub⟩) len m/\base=Ua ⟨b,lo*t.size,Ub⟩)
 (hr:∀val w',(Vla argTypes ty #[.slice base n cap,xv]).run P w=.ok val w' ->r=.ok (.value val) w'):
 Zq B (ZY H id (Ua (.vec t (xs.take lo++z.take (min z.length n)++xs.drop (lo+min z.length n))))) w g nid (.d (.int .i64) ((min z.length n:Nat):Int)) r:=by
 obtain⟨xb,c,h,rfl,p,a2⟩:=hX;have hk:Nat.min z.length n=min z.length n:=rfl;generalize b5:min z.length n=k at*;have O:k<=z.length:=by omega
 have b6:k<=n:=by omega
 have b3:(Vea ie.size k (.slice xb z.length c)).run P w=.ok (h.take k).flatten.toArray w:=by
  rw[a8];by_cases D:k=0
  ·subst D
   cases xb with
   |none=>rfl
   |some ad=>exact run_firstCells_some (P:=P) w _ _ ad _ _ [] (by simp) (by simp)
  ·obtain⟨b,off,rfl,hL⟩:=a2 (by grind);have hp:=Kw.part (l:=0) (n:=k) (Rd.all_length p) (Nat.zero_le _) hL;simp only[Nat.zero_mul,Vua,List.drop_zero]at hp;refine run_firstCells_some (P:=P) w _ _ _ _ _ _ ?_ ?_
   ·rw[JM fun c J=>Rd.all_length p c (Vq J),Vm, <-p.length,Vz O]
   ·intro j u hj;obtain⟨a3,rfl⟩:=Vk.1 hj;have:=hp j a3;rw[GC, <-this]
 have A:=Zvo (ty:=ty) (base:=base) (n:=n) (cap:=cap) h0 W a1 (by rw[hk];omega);rw[hk]at A;have N:H id≠none:=by grind
 by_cases D:k=0
 ·subst D;have e:xs.take lo++z.take 0++xs.drop (lo+0)=xs:=by simp
  rw[e,Zn5 hH];refine Zq.pure X (val:=.int .i64 ((0:Nat):Int)) (hr _ _ (A.trans ?_)) (Jj _ _)
  cases base<;>simp [storeCells]
 ·rcases hS with hS|⟨b,len,U,rfl⟩
  ·omega
  obtain⟨hK,a9,hO⟩:=X.objs id _ hH;rcases hO with ⟨rfl,_⟩|⟨b',b0,cs,e,f,L,G,y,hh,a0,b2,s,rest,a6⟩
  ·grind
  rw[U]at y;simp only[Vx.injEq,ZB,Addr.mk.injEq,and_true]at y;obtain⟨rfl,rfl,rfl⟩:=y;have b7:=JM (Rd.all_length s)
  have a4:((h.take k).flatten).length=k*t.size:=by rw[JM fun c J=>Rd.all_length p c (Vq J),Vm, <-p.length,Vz O]
  have Q:((f.take lo).flatten).length=lo*t.size:=by rw[JM fun c J=>Rd.all_length s c (Vq J),Vm, <-s.length,Vz (by omega)]
  have S:(((f.drop lo).take k).flatten).length=k*t.size:=by rw[JM fun c J=>Rd.all_length s c (by grind),Vm,Vca, <-s.length,Vz (by omega)]
  have Y:f.flatten=(f.take lo).flatten++(((f.drop lo).take k).flatten++(f.drop (lo+k)).flatten):=by rw[<-Vga, <-Vy,Vu, <-Vy,Vu]
  have C:cs.toList=(f.take lo).flatten++(((f.drop lo).take k).flatten++((f.drop (lo+k)).flatten++rest)):=by
   grind
  have a7:cs.size=lo*t.size+(k*t.size+((f.drop (lo+k)).flatten++rest).length):=by rw[<-Vn,C,Vj,Vj,Q,S]
  have T:∀u∈(h.take k).flatten,u.oneCell' =true:=by
   intro u W;obtain⟨c1,Z,W⟩:=Vra.1 W;obtain⟨i,hi,rfl⟩:=List.getElem_of_mem (Vq Z);have b4:i<z.length:=by rw[p.length];omega
   obtain⟨c',h2,h3⟩:=p.get i z[i] (by simp);rw[List.getElem?_eq_getElem hi]at h2;cases h2;exact Rd.oneCell t _ _ h3 u W
  have V:=run_storeCells_at P b (lo*t.size) e (h.take k).flatten 0 cs w hh (by omega) T
  have R:(cs.toList.take (lo*t.size+0)++(h.take k).flatten++cs.toList.drop (lo*t.size+0+(h.take k).flatten.length))=(f.take lo++h.take k++f.drop (lo+k)).flatten++rest:=by rw[Vua,a4,C, <-Q,Vac, <-Vga,Vka, <-S,Vka];simp
  rw[R]at V
  have a5:=hr _ _ (A.trans (by simp only[Vc,V,Vb,Ve];rfl))
  have hs:=X.sep id b N G;have K:Km g.I w (w.setRow b ((f.take lo++h.take k++f.drop (lo+k)).flatten++rest).toArray):=fun q hq=>setRow_other w b q _ (by grind)
  have M:Fa (Rd (w.setRow b ((f.take lo++h.take k++f.drop (lo+k)).flatten++rest).toArray) g.I t) (xs.take lo++z.take k++xs.drop (lo+k)) (f.take lo++h.take k++f.drop (lo+k)):=
   (((s.take lo).append (p.take k)).append (s.drop (lo+k))).mono fun x c hx=>Rd.mono K (by simp) t x c hx
  have b1:(xs.take lo++z.take k++xs.drop (lo+k)).length=xs.length:=by grind
  refine⟨.int .i64 (k:Int),_,g,ow,.inl a5,X.write N G (fun q hq=>setRow_other w b q _ hq) (size_setRow w b _) rfl rfl ⟨rfl,Vd _⟩ ?_,.refl g,K,Jj _ _,by grind⟩;refine⟨a9,.inr ⟨b,m,_,e,_,L,G,by grind,Ra hh,by omega,?_,M,rest,by simp⟩⟩
  grind
theorem Zpu{c:Call}(U:Z3 P E)(x:RH B H w g ow)(hF:Fr w g F a.tmps)(W:o.op=.call c)(V:c.callee=.builtin .copy)
 (h:(ZN E nid o.op o.type (Zx F)).run H []=Ua ((v,patch),rd)):Zq B (Zp H patch) w g nid v ((execOp a.eval o).run P w):=by
 rw[W]at h;simp only[ZN,V]at h;split at h
 ·rename_i d s t J Q
  have f:c.args.map a.eval= #[a.eval d,a.eval s]:=by
   have:c.args= #[d,s]:=by grind
   grind
  obtain⟨T0,T,O⟩:=Vfa.1 Q;obtain⟨Z,Y,D⟩:=W1 U O;obtain⟨ie,z,A,C,_⟩:=(U.ty Z _ D).info
  have i:∀val w',(Vla c.argTypes o.type #[a.eval d,a.eval s]).run P w=.ok val w' ->(execOp a.eval o).run P w=.ok (.value val) w' :=by intro val w' i;simp only[execOp,W,D3 V,builtin,f,Vc,i,Vb,Ve]
  unfold Zjj at h;split at h
  ·rename_i id R;rw[ZX]at h;split at h
   ·rename_i S xs y;simp only[Zy,Z0,Zf,Va]at h;obtain⟨e,q,⟨ys,ids⟩,m1,G,⟨rfl,rfl⟩,_⟩:=h;obtain⟨rfl,rfl⟩:=RE q;have p:=R▸hF.eval d;obtain⟨hK,M⟩:=p.vw;have k:=Zbm x (hF.eval s) G;obtain⟨_,j,hO⟩:=x.objs id _ y
    have K:∃base m,a.eval d=.slice base e.length m/\(e.length=0\/ ∃b len,g.slv id=.slice (Ua ⟨b,0,Ub⟩) len m/\base=Ua ⟨b,0*S.size,Ub⟩):=by
     grind
    obtain⟨base,m,L,l⟩:=K;have:=Zku (nid:=nid) (lo:=0) (n:=e.length) (m:=m) (cap:=m) (ty:=o.type) x y T Y A C k (by omega) l (r:=(execOp a.eval o).run P w) (by grind);simpa [Zp] using this
   ·simp [Zb]at h
  ·rename_i id lo n R;rw[ZX]at h;split at h
   ·rename_i S xs y;simp only[Zy,Z0,Zf,Va]at h;obtain⟨e,q,u,hg,⟨ys,ids⟩,m1,G,⟨rfl,rfl⟩,_⟩:=h;obtain⟨rfl,rfl⟩:=RE q;have N:lo+n<=e.length:=Vab (Yw hg);have p:=R▸hF.eval d;obtain⟨hK,M⟩:=p.vs;have k:=Zbm x (hF.eval s) G;obtain⟨_,j,_⟩:=x.objs id _ y;rw[j]at M
    have K:∃base m cap,a.eval d=.slice base n cap/\(n=0\/ ∃b len,g.slv id=.slice (Ua ⟨b,0,Ub⟩) len m/\base=Ua ⟨b,lo*S.size,Ub⟩):=by
     rcases M with ⟨_,_,rfl,hv⟩|⟨b,len,cap,m,X,h1,h2,h3,hv⟩
     all_goals grind
    obtain⟨base,m,cap,L,l⟩:=K;have:=Zku (nid:=nid) (lo:=lo) (n:=n) (m:=m) (cap:=cap) (ty:=o.type) x y T Y A C k N l (r:=(execOp a.eval o).run P w) (by grind)
    assumption
   ·simp [Zb]at h
  ·simp [Zb]at h
 ·simp [Zb]at h
theorem Zpr{c:Call}(n:Z3 P E)(m:RH B H w g ow)(hF:Fr w g F a.tmps)(l:o.op=.call c)(k:c.callee=.builtin .cap)
 (h:(ZN E nid o.op o.type (Zx F)).run H []=Ua ((v,patch),rd)):Zq B (Zp H patch) w g nid v ((execOp a.eval o).run P w):=by
 rw[l]at h;simp only[ZN,k]at h;split at h
 ·rename_i x T i j
  have b:c.args.map a.eval= #[a.eval x]:=by
   have:c.args= #[x]:=by grind
   grind
  split at h
  ·rename_i s;simp only[ZJ,Zb,ZP,Z6,Zf,Va]at h;obtain⟨e,⟨rfl,rfl⟩,_⟩:=h;have q:=(s▸hF.eval x).nils
   have:∃t,E.ty T=Ua (.sl t):=by
    cases f:E.ty T with
    |none=>rw[f]at e;simp [Jm]at e
    |some t=>cases t<;>rw[f]at e<;>simp [Jm]at e;simp
   obtain⟨t,f⟩:=this;obtain⟨u,r,_⟩:=W1 n f;refine Zq.pure m (val:=.int .i64 0) ?_ (Jj _ _)
   have d:(Vbc c.argTypes o.type #[.slice Ub 0 0]).run P w=.ok (.int .i64 0) w:=by have p:(#[Vx Ub 0 0]:Array Value)[0]? =Ua (.slice Ub 0 0):=rfl;unfold Vbc;simp only[j,p,Vc,run_underlying r,Vb];rfl
   simp only[execOp,l,D3 k,builtin,b,q,Vc,d,Vb,Ve]
  ·simp [Zb]at h
 ·simp [Zb]at h
theorem ZkW{I:Nat->Prop} :∀{y:List Int}{css:List (List Value)},Fa (Rd w I (.int .u8)) y css->css.flatten=y.map (Value.int .u8)
 |[],[],_=>rfl
 |_::_,_::_,⟨h,q⟩=>by rw[List.flatten_cons,ZkW q,show _=_ from h];rfl
theorem Zpt{S T:TypeId}{x:Operand}(l:Z3 P E)(q:RH B H w g ow)(hF:Fr w g F a.tmps)(u:o.op=.convert S T x)
 (h:(ZN E nid o.op o.type (Zx F)).run H []=Ua ((v,patch),rd)):Zq B (Zp H patch) w g nid v ((execOp a.eval o).run P w):=by
 rw[u]at h;simp only[ZN,Zy]at h;obtain⟨s,Q,t,K,h⟩:=h;have p:=hF.eval x;obtain⟨d,O⟩:=Zws l Q;split at h
 ·rename_i k Y n M;simp only[Zf,Va]at h;obtain⟨⟨rfl,rfl⟩,_⟩:=h;rw[M]at p;refine Zq.pure q (val:=.int k (k.wrap n)) ?_ (Jj _ _);simp only[execOp,u,VR.int p,convert,underlying,Vc,run_program,Vb,O,Zn1 l K,Ve,Conv.intToInt]
 ·rename_i y M;simp only[Zf,Va]at h;obtain⟨⟨rfl,rfl⟩,_⟩:=h;rw[M]at p;refine Zq.pure q (val:=.string ⟨y.toArray⟩) ?_ (Zcw _);simp only[execOp,u,VR.str p,convert,underlying,Vc,run_program,Vb,O,ZfQ l K,Ve]
 ·simp only[ZJ,Zb,ZP,Z6,Kj,Zu.run_bind]at h;obtain⟨rfl,h⟩:=h
  cases N:(GE (.int .u8) (Zx F x)).run H [] with
  |none=>grind
  |some r=>
   obtain⟨⟨y,ids⟩,Z⟩:=r;rw[N]at h;simp only[Za,Zf,Va]at h;obtain⟨⟨rfl,rfl⟩,_⟩:=h;obtain⟨z,L,C⟩:=W1 l Q;have j:=Zn1 l C;have f:=ZfQ l K;obtain⟨R,c,A,V,D,U⟩:=Zbm q p N;refine Zq.pure q (val:=.string (strOfNums y)) ?_ (Zcw (Zeh y))
   have key:(convert S T (.slice R y.length c)).run P w=.ok (.string (strOfNums y)) w:=by
    by_cases m:y=[]
    ·subst m
     cases R with
     |none=>exact run_convert_bytes_nil w S z L j _ _ T f
     |some W=>
      rw[run_convert_bytes_string w S T z _ _ _ L j f];rfl
    ·obtain⟨b,off,rfl,e⟩:=U m;have G:=ZkW D;refine run_convert_bytes_arg w S z L j b off _ c y rfl (fun i X=>?_) T f;have J:i<A.flatten.length:=by grind
     rw[e i J,List.getElem_of_eq G]
     grind
   simp only[execOp,u,V,Vc,key,Vb,Ve]
 ·simp [Zb]at h
theorem Zvu{len cap m:Nat}{lo:Option Operand}{f s:Operand}{l h:Nat}{j:Int}(hF:Fr w g F a.tmps)(O:m<=cap)
 (q:∀x∈lo,(KR (Zx F x)).isSome) (p:(KR (Zx F f)).isSome) (r:KR (Zx F s)=Ua j) (d:0<=j/\m=j.toNat)
 (i:sliceB len m (lo.bind fun o=>KR (Zx F o)) (KR (Zx F f))=Ua (l,h)):
 (Vmb Uc len cap (lo.map a.eval) (Ua (a.eval f)) (Ua (a.eval s))).run P w=.ok (l,h,m) w/\l<=h/\h<=m:=by
 have bound:∀(x:Operand) (n:Int) (y:Nat) (code:BoundsCode),KR (Zx F x)=Ua n->0<=n->n<=y->(Vpb (a.eval x) y code).run P w=.ok n.toNat w:=by intro x n y code J C D;obtain⟨k,G⟩:=ZjG hF J;simp only[Vpb,G,asIntOf,Vc,Ve,Vb,C,D,and_self,if_true]
 obtain⟨n,z⟩:=Vqa.1 p;unfold sliceB at i;rw[z]at i;simp only[Vfa]at i;obtain⟨N,u,b⟩:=i;split at u
 ·rename_i t;cases u;have A:=bound s j cap .slice3Acap r d.1 (by omega);have L:=bound f n m .slice3B z t.1 t.2;rw[<-d.2]at A;unfold Vmb
  cases lo with
  |none=>
   simp only[Vsa,ZB,Va]at b;obtain⟨rfl,rfl⟩:=b;refine⟨?_,Nat.zero_le _,by omega⟩
   simp_all
  |some x=>
   obtain⟨K,e⟩:=Vqa.1 (q x rfl);simp only[Za,e]at b;split at b
   ·rename_i c;simp only[ZB,Va]at b;obtain⟨rfl,rfl⟩:=b;have M:=bound x K n.toNat .slice3C e c.1 c.2;refine⟨?_,by omega,by omega⟩
    simp_all
   grind
 grind
theorem ZpO{T:TypeId}{x D mx:Operand}{lo:Option Operand}(C:Z3 P E)(A:RH B H w g ow)(hF:Fr w g F a.tmps)(G:o.op=.slice T x lo (Ua D) (Ua mx))
 (h:(ZN E nid o.op o.type (Zx F)).run H []=Ua ((v,patch),rd)):Zq B (Zp H patch) w g nid v ((execOp a.eval o).run P w):=by
 rw[G]at h;simp only[ZN,ZJ,Zb,ZP,false_or,Vib,Vf]at h;obtain⟨⟨i,f⟩,h⟩:=h;have i:=Zah i;have f:(KR (Zx F D)).isSome:=f;have hx:=hF.eval x;split at h
 ·rename_i id hy;rw[ZX]at h;split at h
  ·rename_i t xs O;simp only[ZJ,Zy,Zb,ZP,false_or,Vib,Kj]at h;obtain⟨Y,mi,y,m,W,⟨l,z⟩,J,h⟩:=h
   have S:v=.vs id l (z - l)/\patch=[]:=by
    cases lo with
    |none=>
     simp only[Zf,Va]at h
     have hl:0=l:=by simp only[sliceB,Vsa,Vfa,ZB,Va]at J;omega
     grind
    |some x=>
     simp only[Zf,Va]at h
     grind
   obtain⟨rfl,rfl⟩:=S;obtain⟨s,X,u⟩:=ZaD W;have p:m<=xs.length:=by omega
   obtain⟨L,hu,q⟩:=W1 C Y;obtain⟨hk,R⟩:=(hy▸hx).vw;obtain⟨_,Z,d⟩:=A.objs id _ O
   have key:∃(j:Option Addr) (cap:Nat),g.slv id=.slice j xs.length cap/\xs.length<=cap/\(∀l n m,l+n<=xs.length->l+n<=m->m<=xs.length->Zcb (g.slv id) t.size l n [.slice (if m=l then j else j.map (·.add (l*t.size))) n (m - l)]):=by
    rcases d with ⟨rfl,_,d⟩|⟨b,cap,cs,e,M,_,_,d,_,c,_⟩
    ·refine⟨Ub,0,d,Vd _,fun l n m k r p=>.inl ⟨d,?_,?_,?_⟩⟩
     all_goals grind
    ·refine⟨_,cap,d,c,fun l n m k r p=>.inr ⟨b,xs.length,cap,m - l,d,k,by omega,by omega,?_⟩⟩;congr 2;by_cases N:m=l
     ·grind
     ·rw[Zg N,Zg (by omega)];simp only[Vda,ZB];unfold Addr.add
      grind
   obtain⟨j,cap,hv,c,K⟩:=key;obtain⟨Q,V,U⟩:=Zvu (P:=P) (w:=w) (cap:=cap) hF (by omega) i f y ⟨s,u⟩ J
   refine Zq.pure A (val:=.slice (if m=l then j else j.map (·.add (l*t.size))) (z - l) (m - l)) ?_ (KK ?_ rfl rfl)
   ·simp only[execOp,G,R,hv,Veb,Vcc,Vda,underlying,Vc,run_program,Vb,hu,Ve,Q,(C.ty L t q).run_sizeOf]
   ·simp only[CV]
    grind
  ·simp [Zb]at h
 ·simp [Zb]at h
end ops
end Tr
end
section
namespace Tr
open Go
section ops
variable {P:Program}{E:Ka}{B:Z1}{H:AH}{w:World}{g:Gh}{ow:Nat->Nat->Prop}{nid:Nat}{a:Act}{F:Nat->AV}{v:AV}{patch:Kx}{rd:List Nat}{o:Oper}
theorem Zsd{L:List MapEntry}(b:(L.map (·.born)).Nodup){i:Nat}{e:MapEntry}(f:L[i]? =Ua e):L.filter (fun x=>x.born !=e.born)=L.eraseIdx i:=by
 induction L generalizing i with
 |nil=>rfl
 |cons x l h=>
  obtain⟨c,d⟩:=Vr.1 b
  cases i with
  |zero=>
   simp_all
  |succ i=>
   grind
theorem Ztr(es:Array MapEntry)(seen:Array Nat)(n:Nat):HL es (seen.push n)=(HL es seen).filter fun x=>x.born !=n:=by
 unfold HL;rw[List.filter_filter]
 grind
theorem ZhY(es:Array MapEntry)(seen:Array Nat):(leftOf es seen).toList=HL es seen:=by unfold leftOf HL;simp
theorem Ztp(es:Array MapEntry):HL es #[]=es.toList:=by unfold HL;simp
theorem Ztq{es:Array MapEntry}(h:(es.toList.map (·.born)).Nodup)(seen:Array Nat):((HL es seen).map (·.born)).Nodup:=
 h.sublist ((List.filter_sublist).map _)
theorem ZpM{T:TypeId}{x:Operand}(M:Z3 P E)(c:RH B H w g ow)(hF:Fr w g F a.tmps)(u:∀id,g.K id->id<nid\/nid+Wr<=id)(A:o.op=.range T x)
 (h:(ZN E nid o.op o.type (Zx F)).run H []=Ua ((v,patch),rd)):Zq B (Zp H patch) w g nid v ((execOp a.eval o).run P w):=by
 rw[A]at h;simp only[ZN,Zy]at h;obtain⟨m,R,h⟩:=h;obtain⟨K,V,U,hK,hV⟩:=M.mty T m R;split at h
 ·rename_i id W;rw[ZX]at h;split at h
  ·rename_i kt vt m J;simp only[Zf,Va]at h;obtain⟨⟨rfl,rfl⟩,_⟩:=h;obtain⟨_,b,N,O⟩:=(W▸hF.eval x).mp;obtain⟨_,Z,es,clock,j,p,Q,l,t⟩:=c.objs id _ J;rw[N]at j;cases j
   have q:(execOp a.eval o).run P w=.ok (.value (.pointer (Ua ⟨w.heap.size,0,Ub⟩))) (w.alloc (.mapIter (Ua b) clock #[] clock)):=by simp only[execOp,A,Vc,O,run_range_map w T K V b es clock U Q,Vb];rfl
   have n:∀k,k<w.heap.size->(w.alloc (.mapIter (Ua b) clock #[] clock)).heap[k]? =w.heap[k]? :=fun k u=>by show (w.heap.push _)[k]? =_;grind
   have S:(w.alloc (.mapIter (Ua b) clock #[] clock)).heap.size=w.heap.size+1:=Array.size_push ..;obtain⟨X,p2,Y⟩:=c.sep id b (by grind) p;simp only[Zp];have f:g.Le (g.add nid .ref (Ua w.heap.size) undef):=Gh.le_add (Yu u) _ _ _;have d:Km g.I w (w.alloc (.mapIter (Ua b) clock #[] clock)):=fun k y=>n k (c.ilt k y);refine⟨_,_,g.add nid .ref (Ua w.heap.size) undef,Xd ow nid (fun k=>k=w.heap.size\/k=b),.inl q,?_,f,d,?_,?_⟩
   ·refine(c.drop id).add (Yu u) n (by omega) rfl rfl ⟨rfl,Vd _⟩ (fun k z=>?_) ?_
    ·rcases z with rfl|rfl
     ·refine⟨fun L=>absurd (c.ilt _ L) (by omega),by omega,.inr c.size,fun i r s=>?_⟩;have:=(c.sep i _ (YF r).2 s).2.1;omega
     ·refine⟨X,by omega,Y,fun i r s=>?_⟩;obtain⟨D,G⟩:=YF r;exact D (c.dist i id _ G (by grind) s p)
    ·refine⟨w.heap.size,b,es,clock,clock, #[],by simp [Gh.add],by simp [Gh.add],.inl rfl,.inr rfl,G7 _ _,by grind,⟨l.1,Vd _,l.2⟩,?_,by simp⟩;rw[Ztp];exact t.mono fun kv e C=>⟨C.1.mono d f,C.2.mono d f⟩
   ·refine KK ?_ rfl rfl;simp only[CV];exact⟨.inl rfl,0,.ref,w.heap.size,by simp [Gh.add,Wg],by simp [Gh.add],rfl⟩
   ·intro id h;rcases h with rfl|h
    ·exact .inr ⟨Vd _,by unfold Wr;omega⟩
    grind
  ·simp [Zb]at h
 ·simp [Zb]at h
theorem Zl7{it:Operand}{id:Nat}{n p:Ty}{cur:Option (El n×El p)}(x:RH B H w g ow)(hF:Fr w g F a.tmps)(C:o.op=.next it Ud)(D:Zx F it=.ptr id [])(u:H id=Ua (.rng n p [] cur)):
 (execOp a.eval o).run P w=.ok (.value (.tuple #[.bool Ud])) w/\VR w g (.tup (.cons (.d .bool Ud) .nil)) (.tuple #[.bool Ud]):=by
 obtain⟨_,L,t,b,k,q,y⟩:=(D▸hF.eval it).ptr;obtain⟨_,J,G,es,clock,since,seen,j,c,_,_,z,A,⟨r,s,K⟩,m,_⟩:=x.objs id _ u;rw[j,Wg]at k;cases k;rw[q]at c;cases c
 have i:HL es seen=[]:=by
  cases i:HL es seen with
  |nil=>rfl
  |cons e l=>rw[i]at m;exact m.elim
 rcases run_next_at (P:=P) w o.type b G since clock seen es clock z A r s with ⟨_,f⟩|⟨e,h,_⟩
 ·refine⟨?_,[.bool Ud],rfl,.bool Ud,[],rfl,⟨?_,?_⟩,rfl⟩
  ·simp only[execOp,C,Vc,y,f,Vb];rfl
  ·rfl
  ·exact .inr rfl
 ·rw[ZhY,i]at h
  grind
theorem ZpI{it:Operand}(b:RH B H w g ow)(hF:Fr w g F a.tmps)(c:o.op=.next it Ud)
 (h:(ZN E nid o.op o.type (Zx F)).run H []=Ua ((v,patch),rd)):Zq B (Zp H patch) w g nid v ((execOp a.eval o).run P w):=by
 rw[c]at h;simp only[ZN]at h;split at h
 ·rename_i id i;rw[ZX]at h;split at h
  ·rename_i j k cur f;simp only[Zf,Va]at h;obtain⟨⟨rfl,rfl⟩,_⟩:=h;obtain⟨d,e⟩:=Zl7 (P:=P) b hF c i f;exact Zq.pure b d e
  ·simp [Zb]at h
 ·simp [Zb]at h
theorem Zpv{it:Operand}(n:RH B H w g ow)(hF:Fr w g F a.tmps)(p:o.op=.entry it)
 (h:(ZN E nid o.op o.type (Zx F)).run H []=Ua ((v,patch),rd)):Zq B (Zp H patch) w g nid v ((execOp a.eval o).run P w):=by
 rw[p]at h;simp only[ZN]at h;split at h
 ·rename_i id A;rw[ZX]at h;split at h
  ·rename_i L N rest kv u;simp only[Zf,Va]at h;obtain⟨⟨rfl,rfl⟩,_⟩:=h;obtain⟨_,M,t,b,m,q,x⟩:=(A▸hF.eval it).ptr;obtain⟨_,D,C,es,clock,since,seen,k,d,_,_,y,z,⟨G,J,r⟩,K,s⟩:=n.objs id _ u;rw[k,Wg]at m;cases m;rw[q]at d;cases d;obtain⟨e,i,c,rfl,j,l⟩:=s kv rfl;have f:=run_entry_at (P:=P) w b C since c es clock e y z i r;refine Zq.pure n (val:=.tuple #[e.key,e.val]) ?_ ⟨[e.key,e.val],rfl,e.key,[e.val],rfl,j,e.val,[],rfl,l,rfl⟩;simp only[execOp,p,Vc,x,f,Vb];rfl
  ·simp [Zb]at h
 ·simp [Zb]at h
theorem Zt3{it:Operand}{id:Nat}{A C:Ty}{rest:List (El A×El C)}{cur:Option (El A×El C)}(J:RH B H w g ow)(hF:Fr w g F a.tmps)(ho:o.op=.next it Ud)(hy:Zx F it=.ptr id [])
 (X:H id=Ua (.rng A C rest cur)) (a1:rest≠ []):∃i kv val w',i<rest.length/\rest[i]? =Ua kv/\(execOp a.eval o).run P w=.ok (.value val) w' /\RH B (ZY H id (Ua (.rng A C (rest.eraseIdx i) (Ua kv)))) w' g ow/\Km g.I w w' /\
   VR w' g (.tup (.cons (.d .bool Uc) (.cons (.d A kv.1) (.cons (.d C kv.2) .nil)))) val:=by
 obtain⟨_,o',t,b,O,Q,Y⟩:=(hy▸hF.eval it).ptr;obtain⟨hK,b',n,es,clock,since,seen,u,p,j,r,Z,hm,⟨R,S,T⟩,D,_⟩:=J.objs id _ X;rw[u,Wg]at O;cases O;rw[Q]at p;cases p;rcases run_next_at (P:=P) w o.type b n since clock seen es clock Z hm R S with ⟨h0,_⟩|⟨e,h,m,N,s⟩
 ·exfalso
  have hl:HL es seen=[]:=by
   rw[<-ZhY]
   grind
  rw[hl]at D
  cases rest with
  |nil=>grind
  |cons x l=>assumption
 ·rw[ZhY]at h;obtain⟨i,U⟩:=Vba h;have L:i<rest.length:=by rw[D.length];grind
  obtain⟨e2,q,y,z⟩:=D.get i rest[i] (by simp);rw[U]at q;cases q
  have G:Jh w m:=by rcases N with rfl|rfl<;>exact⟨rfl,rfl,rfl,⟨rfl,by simp⟩⟩
  have K:=J.same G;have V:=J.sep id b (by grind) j
  have f:∀k,k≠b->(Go.ChangeMaps.setBlock m b (.mapIter (Ua n) since (seen.push e.born) clock)).heap[k]? =m.heap[k]? :=by
   intro k hk;show (m.heap.setIfInBounds b _)[k]? =_
   grind
  have c:Km g.I w (Go.ChangeMaps.setBlock m b (.mapIter (Ua n) since (seen.push e.born) clock)):=fun k hk=>by rw[f k (by grind),G.heap]
  have a0:b≠n:=by
   grind
  refine⟨i,rest[i],.tuple #[.bool Uc,e.key,e.val],_,L,by simp,?_,K.write (by grind) j f (by show (m.heap.setIfInBounds b _).size=_;simp) rfl rfl ⟨rfl,Vd _⟩ ?_,c,?_⟩
  ·simp only[execOp,ho,Vc,Y,s,Vb];rfl
  ·refine⟨b,n,es,clock,since,seen.push e.born,u,Q,j,r,?_,?_,⟨R,S,T⟩,?_,fun kv M=>?_⟩
   ·show (m.heap.setIfInBounds b _)[b]? =_;rw[Vja,Zv rfl,Zv (by rw[G.heap];omega)]
   ·rw[f n (by omega),G.heap];omega
   ·rw[Ztr,Zsd (Ztq T seen) U];exact(D.mono fun kv e W=>⟨W.1.mono c (.refl g),W.2.mono c (.refl g)⟩).eraseIdx i
   ·cases M;exact⟨e,(Vub.1 h).1,seen,rfl,y.mono c (.refl g),z.mono c (.refl g)⟩
  ·exact⟨[.bool Uc,e.key,e.val],rfl,.bool Uc,_,rfl,⟨by rfl,.inr rfl⟩,e.key,_,rfl,y.mono c (.refl g),e.val,_,rfl,z.mono c (.refl g),rfl⟩
end ops
end Tr
end
section
namespace Tr
open Go
def Pat.isAgg:Pat->Bool
 |.pd t=>t.agg
 |.agg _=>Uc
 |_=>Ud
mutual
def PC(w:World)(I:Nat->Prop):(p:Pat)->K2 p->List Nat->List Value->Prop
 |.pd t,x,js,cs=>js=[]/\Rd w I t x cs
 |.own t _,x,js,cs=>(js=[]/\x=[]/\cs=[.slice Ub 0 0])\/
   ∃b cap cells e css,js=[b]/\cs=[.slice (Ua ⟨b,0,Ub⟩) x.length cap]/\w.heap[b]? =Ua (.cells cells e (0,0))/\x.length<=cap/\cap*t.size<=cells.size/\Fa (Rd w I t) x css/\css.flatten<+:cells.toList
 |.var t p,x,js,cs=>p.fits t=Uc/\ ∃b h cells e,js=b::h/\cs=[.pointer (Ua ⟨b,0,Ub⟩)]/\w.heap[b]? =Ua (.cells cells e (0,0))/\cells.size=t.size/\PC w I p x h cells.toList
 |.ro t,x,js,cs=>js=[]/\ ∃b off c,cs=[.pointer (Ua ⟨b,off,Ub⟩)]/\I b/\Kw w b off c/\Rd w I t x c
 |.map d i,x,js,cs=>∃b es clock,js=[b]/\cs=[.map (Ua b)]/\w.heap[b]? =Ua (.map es clock)/\Bn es clock/\Fa (fun kv e=>(Rd w I d kv.1 e.key.cells.toList/\Kf e.key=d.agg)/\(Rd w I i kv.2 e.val.cells.toList/\Kf e.val=i.agg)) x es.toList
 |.rows t _,x,js,cs=>∃v,cs=[v]/\J9 w I (· ∈js) t x v
 |.mrows d t,x,js,cs=>∃v,cs=[v]/\Ha w I (· ∈js) d t x v
 |.it d i,x,js,cs=>∃b j es clock since seen,js=[b,j]/\b≠j/\cs=[.pointer (Ua ⟨b,0,Ub⟩)]/\w.heap[b]? =Ua (.mapIter (Ua j) since seen clock)/\w.heap[j]? =Ua (.map es clock)/\
   ((∀x∈es.toList,x.born<since)/\since<=clock/\(es.toList.map (·.born)).Nodup)/\Fa (fun kv e=>(Rd w I d kv.1 e.key.cells.toList/\Kf e.key=d.agg)/\(Rd w I i kv.2 e.val.cells.toList/\Kf e.val=i.agg)) x (HL es seen)
 |.bld T e _,x,js,cs=>∃b,cs=[.pointer (Ua ⟨b,0,Ub⟩)]/\Zcq w (· ∈js) T e x b
 |.fnd tn tq lt lb,x,js,cs=>∃b,cs=[.pointer (Ua ⟨b,0,Ub⟩)]/\Rn w I (· ∈js) tn tq lt lb x b
 |.owo lb,x,js,cs=>∃v,cs=[v]/\Hc w I (· ∈js) lb x v
 |.agg l,x,js,cs=>JU w I l x js cs
 |.fn f l,x,js,cs=>∃n:List Value,cs=[J4 f n]/\JU w I l x js n
 |.nilr,_,js,cs=>js=[]/\(cs=[.pointer Ub]\/cs=[.nilFunc]\/cs=[.map Ub])
 |.nils,_,js,cs=>js=[]/\cs=[.slice Ub 0 0]
 |.any,_,js,_=>js=[]
def JU(w:World)(I:Nat->Prop):(l:Pats)->Ks l->List Nat->List Value->Prop
 |.nil,_,js,cs=>js=[]/\cs=[]
 |.cons p l,x,js,cs=>∃q r k m,js=q++r/\cs=k++m/\PC w I p x.1 q k/\JU w I l x.2 r m
end
def PV(w:World)(I:Nat->Prop)(p:Pat)(x:K2 p)(js:List Nat)(v:Value):Prop:=PC w I p x js v.cells.toList/\(p=.any\/Kf v=p.isAgg)
def Js(w:World)(I:Nat->Prop):(l:Pats)->Ks l->List Nat->List Value->Prop
 |.nil,_,b,vs=>b=[]/\vs=[]
 |.cons p l,x,b,vs=>∃c d v r,b=c++d/\vs=v::r/\PV w I p x.1 c v/\Js w I l x.2 d r
section
variable {w w' :World}{I I' :Nat->Prop}
mutual
theorem PC.mono(n:Km I w w')(m:∀b,I b->I' b):∀(p:Pat) (x:K2 p) (js:List Nat) (cs:List Value),(∀b∈js,w'.heap[b]? =w.heap[b]?)->PC w I p x js cs->PC w' I' p x js cs
 |.pd t,x,js,cs,_,h=>⟨h.1,Rd.mono n m t x cs h.2⟩
 |.own t k,x,js,cs,d,h=>by
  simp only[PC]at h⊢;rcases h with h|⟨b,cap,cells,e,css,rfl,j,i,r,s,A,S⟩
  ·exact .inl h
  ·exact .inr ⟨b,cap,cells,e,css,rfl,j,(d b (by simp)).trans i,r,s,A.mono fun x c q=>Rd.mono n m t x c q,S⟩
 |.var t p,x,js,cs,d,h=>by
  simp only[PC]at h⊢;obtain⟨U,b,y,cells,e,rfl,j,i,r,s⟩:=h
  exact⟨U,b,y,cells,e,rfl,j,(d b (by simp)).trans i,r,PC.mono n m p x y _ (fun Q C=>d Q (by simp [C])) s⟩
 |.ro t,x,js,cs,_,h=>by
  simp only[PC]at h⊢;obtain⟨d,b,off,c,j,i,r,s⟩:=h
  exact⟨d,b,off,c,j,m _ i,r.mono (n _ i),Rd.mono n m t x _ s⟩
 |.map z G,x,js,cs,d,h=>by
  simp only[PC]at h⊢;obtain⟨b,es,clock,rfl,j,i,D,r⟩:=h
  exact⟨b,es,clock,rfl,j,(d b (by simp)).trans i,D,r.mono fun x e q=>⟨⟨Rd.mono n m z _ _ q.1.1,q.1.2⟩,Rd.mono n m G _ _ q.2.1,q.2.2⟩⟩
 |.rows t k,x,js,cs,d,h=>by
  simp only[PC]at h⊢;obtain⟨v,j,i⟩:=h
  exact⟨v,j,i.mono n m (fun _ h=>h) d⟩
 |.it z G,x,js,cs,d,h=>by
  simp only[PC]at h⊢;obtain⟨b,O,es,clock,since,seen,rfl,R,j,i,r,s,A⟩:=h
  exact⟨b,O,es,clock,since,seen,rfl,R,j,(d b (by simp)).trans i,(d O (by simp)).trans r,s,A.mono fun x e q=>⟨⟨Rd.mono n m z _ _ q.1.1,q.1.2⟩,Rd.mono n m G _ _ q.2.1,q.2.2⟩⟩
 |.mrows z t,x,js,cs,d,h=>by
  simp only[PC]at h⊢;obtain⟨v,j,i⟩:=h
  exact⟨v,j,i.mono n m (fun _ h=>h) d⟩
 |.bld T e k,x,js,cs,d,h=>by
  simp only[PC]at h⊢;obtain⟨b,j,i⟩:=h
  exact⟨b,j,i.mono (fun _ h=>h) d⟩
 |.owo lb,x,js,cs,d,h=>by
  simp only[PC]at h⊢;obtain⟨v,j,i⟩:=h
  exact⟨v,j,i.mono n m (fun _ _ h=>h) fun b _ u=>d b u⟩
 |.fnd tn tq lt lb,x,js,cs,d,h=>by
  simp only[PC]at h⊢;obtain⟨b,j,i⟩:=h
  exact⟨b,j,i.mono n m (fun _ h=>h) d⟩
 |.agg l,x,js,cs,d,h=>by
  simp only[PC]at h⊢
  exact JU.mono n m l x js cs d h
 |.fn f l,x,js,cs,d,h=>by
  simp only[PC]at h⊢;obtain⟨L,j,i⟩:=h
  exact⟨L,j,JU.mono n m l x js L d i⟩
 |.nilr,_,js,cs,_,h=>by simpa only[PC] using h
 |.nils,_,js,cs,_,h=>by simpa only[PC] using h
 |.any,_,js,cs,_,h=>by simpa only[PC] using h
theorem JU.mono(n:Km I w w')(m:∀b,I b->I' b):∀(l:Pats) (x:Ks l) (js:List Nat) (cs:List Value),(∀b∈js,w'.heap[b]? =w.heap[b]?)->JU w I l x js cs->JU w' I' l x js cs
 |.nil,_,js,cs,_,h=>by simpa only[JU] using h
 |.cons p l,x,js,cs,d,h=>by simp only[JU]at h⊢;obtain⟨M,N,J,K,rfl,rfl,j,i⟩:=h;exact⟨M,N,J,K,rfl,rfl,PC.mono n m p x.1 M J (fun b u=>d b (by simp [u])) j,JU.mono n m l x.2 N K (fun b u=>d b (by simp [u])) i⟩
end
theorem PV.mono(e:Km I w w')(c:∀b,I b->I' b){p:Pat}{x:K2 p}{js:List Nat}{v:Value}(d:∀b∈js,w'.heap[b]? =w.heap[b]?)(h:PV w I p x js v):PV w' I' p x js v:=
 ⟨PC.mono e c p x js _ d h.1,h.2⟩
theorem Js.mono(d:Km I w w')(c:∀b,I b->I' b):∀{l:Pats}{x:Ks l}{js:List Nat}{vs:List Value},(∀b∈js,w'.heap[b]? =w.heap[b]?)->Js w I l x js vs->Js w' I' l x js vs
 |.nil,_,_,_,_,h=>h
 |.cons p l,x,js,vs,k,h=>by simp only[Js]at h⊢;obtain⟨i,j,v,r,rfl,rfl,e,f⟩:=h;exact⟨i,j,v,r,rfl,rfl,e.mono d c (by grind),Js.mono d c (by grind) f⟩
end
section
variable {B:Z1}{H:AH}{w:World}{g:Gh}{ow:Nat->Nat->Prop}{F:Nat->AV}{I:Nat->Prop}
theorem Hn(m:RH B H w g ow){i j:List Nat}{b:Nat}(d:ZL H ow i b)(e:ZL H ow j b):∃id,id∈i/\id∈j:=by
 obtain⟨id,n,f,h⟩:=d;obtain⟨c,p,k,l⟩:=e;have:=m.dist id c b f k h l
 grind
theorem Ws{i j:List Nat}(h:∀id∈i,id∈j){b:Nat}(e:ZL H ow i b):ZL H ow j b:=
 let ⟨id,c,d⟩:=e;⟨id,h id c,d⟩
noncomputable def G9(w:World)(J:Nat->Prop):List Nat:=(List.range w.heap.size).filter fun b=> @decide (J b) (Classical.propDecidable _)
theorem Gl{J:Nat->Prop}{b:Nat} :b∈G9 w J↔b<w.heap.size/\J b:=by unfold G9;simp
theorem Zbo{J:Nat->Prop} :(G9 w J).Nodup:=List.nodup_range.filter _
theorem Zb0(e:RH B H w g ow){ids:List Nat}{b:Nat}(h:ZL H ow ids b):b<w.heap.size:=by obtain⟨id,_,c,d⟩:=h;exact(e.sep id b c d).2.1
theorem Zue(s:RH B H w g ow){t:Ty}{v:AV}{cs:List Value}{x:List (El t)}{ids l A:List Nat}(c:CV w g v cs)(h:(Jq t v).run H l=Ua ((x,ids),A)):∃val,cs=[val]/\Wp w g.I (ZL H ow ids) t x val:=by
 have d:∃val,cs=[val]/\VR w g v val:=by
  cases v with
  |vw id=>simp only[CV]at c;exact⟨_,c.2.1,KK (by simp only[CV];exact⟨c.1,trivial,c.2.2⟩) c.2.2 rfl⟩
  |vs id C n=>
   simp only[CV]at c
   have:∃val,cs=[val]/\val.oneCell' =true:=by
    rcases c.2 with ⟨_,_,_,rfl⟩|⟨b,len,cap,m,_,_,_,_,rfl⟩
    ·exact⟨_,rfl,rfl⟩
    ·exact⟨_,rfl,rfl⟩
   obtain⟨val,rfl,p⟩:=this
   exact⟨val,rfl,KK (by simpa only[CV] using c) p rfl⟩
  |nils=>simp only[CV]at c;exact⟨_,c,KK (by simp only[CV]) rfl rfl⟩
  |_=>simp [Jq,Zb]at h
 obtain⟨val,rfl,z⟩:=d;refine⟨val,rfl,?_⟩;rcases Zdp s z h with ⟨rfl,rfl,rfl⟩|⟨id,rfl,k,⟨rfl,rfl⟩|⟨b,cap,cells,e,i,y,rfl,u,q,r,j,f⟩⟩
 ·exact .inl ⟨rfl,rfl⟩
 ·exact .inl ⟨rfl,rfl⟩
 ·exact .inr ⟨b,cap,cells,e,i,rfl,⟨id,by simp,k,y⟩,u,q,r,j,f⟩
theorem Zmn(p:RH B H w g ow){lb:Ty}{v:AV}{cs:List Value}{x:List (El (.pn lb))}{ids l D:List Nat}(d:CV w g v cs)(h:(Dl lb v).run H l=Ua ((x,ids),D)):∃val,cs=[val]/\Hc w g.I (ZL H ow ids) lb x val:=by
 cases v with
 |vw id=>
  simp only[CV]at d;refine⟨_,d.2.1,?_⟩;simp only[Dl]at h;rw[ZX]at h;split at h
  ·rename_i G xs c;simp only[Zy,Zf,Va]at h;obtain⟨J,n,⟨rfl,rfl⟩,_⟩:=h;obtain⟨i,rfl⟩:=KE n;cases i;obtain⟨_,_,f⟩:=p.objs id _ c;rcases f with ⟨rfl,_,k⟩|⟨b,cap,cs,e,q,_,A,k,z,t,u,j,C⟩
   ·exact .inl ⟨rfl,k⟩
   ·obtain⟨m,r,s⟩:=Zhq j;exact .inr ⟨b,0,cap,cs,e,m,k,⟨id,by simp,by rw[c];simp,A⟩,z,t,by simpa [Ty.size] using u,s,by rw[<-r];simpa using C⟩
  ·rename_i G xs c;simp only[Zy,Zf,Va]at h;obtain⟨J,n,⟨rfl,rfl⟩,_⟩:=h;obtain⟨i,rfl⟩:=KE n;cases i;obtain⟨_,_,f⟩:=p.objs id _ c;exact f.mono (fun _ _=>rfl) (fun _ h=>h) (fun b _ y=>⟨id,by simp,by rw[c];simp,y⟩) fun _ _ _=>rfl
  ·simp [Zb]at h
 |nils=>
  simp only[Dl,Zf,Va]at h;obtain⟨⟨rfl,rfl⟩,_⟩:=h;simp only[CV]at d
  exact⟨_,d,.inl ⟨rfl,rfl⟩⟩
 |_=>simp [Dl,Zb]at h
theorem Zug(d:RH B H w g ow){t:Ty}{v:AV}{cs:List Value}{x:List (List (El t))}{ids l f:List Nat}(b:CV w g v cs)(h:(YC t v).run H l=Ua ((x,ids),f)):∃val,cs=[val]/\J9 w g.I (ZL H ow ids) t x val:=by
 have c:∃val,cs=[val]/\VR w g v val:=by
  cases v with
  |vw id=>simp only[CV]at b;exact⟨_,b.2.1,KK (by simp only[CV];exact⟨b.1,trivial,b.2.2⟩) b.2.2 rfl⟩
  |nils=>simp only[CV]at b;exact⟨_,b,KK (by simp only[CV]) rfl rfl⟩
  |_=>simp [YC,Zb]at h
 obtain⟨val,rfl,e⟩:=c;exact⟨val,rfl,(Zfl d e h).1⟩
mutual
theorem Ga(s:RH B H w g ow)(J:∀b,g.I b->I b):∀(p:Pat) (v:AV) (cs:List Value) (x:K2 p) (ids:ZF) (l N:List Nat),(ext p v).run H l=Ua ((x,ids),N)->CV w g v cs->(∀b,ZL H ow ids.br b->I b)->
 ids.tk.Nodup->∃js,PC w I p x js cs/\js.Nodup/\ ∀b∈js,ZL H ow ids.tk b
 |.pd t,v,cs,x,ids,l,N,h,d,C,_=>by
  simp only[ext,Z0,Zf,Va]at h;obtain⟨⟨x1,X⟩,m,r,⟨rfl,rfl⟩,_⟩:=h
  exact⟨[],⟨rfl,RA s J t v cs x1 X _ _ r d C⟩,.nil,by simp⟩
 |.own t k,v,cs,x,ids,l,N,h,d,C,_=>by
  simp only[ext,Z0,Zf,Va]at h;obtain⟨⟨x1,X⟩,m,r,⟨rfl,rfl⟩,_⟩:=h
  have Z:∃val,cs=[val]/\VR w g v val:=by
   cases v with
   |vw id=>simp only[CV]at d;exact⟨_,d.2.1,KK (by simp only[CV];exact⟨d.1,trivial,d.2.2⟩) d.2.2 rfl⟩
   |vs id lo n=>
    simp only[CV]at d
    have:∃val,cs=[val]/\val.oneCell' =true:=by
     rcases d.2 with ⟨_,_,_,rfl⟩|⟨b,len,cap,m,_,_,_,_,rfl⟩
     ·exact⟨_,rfl,rfl⟩
     ·exact⟨_,rfl,rfl⟩
    obtain⟨val,rfl,r⟩:=this
    exact⟨val,rfl,KK (by simpa only[CV] using d) r rfl⟩
   |nils=>simp only[CV]at d;exact⟨_,d,KK (by simp only[CV]) rfl rfl⟩
   |_=>simp [Jq,Zb]at r
  obtain⟨val,rfl,hv⟩:=Z;rcases Zdp s hv r with ⟨rfl,rfl,rfl⟩|⟨id,rfl,a1,⟨rfl,rfl⟩|⟨b,cap,cells,e,css,ho,rfl,V,G,Q,Y,b1⟩⟩
  ·exact⟨[],.inl ⟨rfl,rfl,rfl⟩,.nil,by simp⟩
  ·exact⟨[],.inl ⟨rfl,rfl,rfl⟩,.nil,by simp⟩
  ·exact⟨[b],.inr ⟨b,cap,cells,e,css,rfl,rfl,V,G,Q,Y.mono fun x c hx=>Rd.mono (fun _ _=>rfl) J t x c hx,b1⟩,by simp,fun U D=>by simp only[Vg]at D;subst D;exact⟨id,by simp,a1,ho⟩⟩
 |.var t p,v,cs,x,ids,l,N,h,d,C,S=>by
  simp only[ext]at h;split at h
  ·rename_i id;rw[ZX]at h;split at h
   ·rename_i t' c L;simp only[ZJ,Z0,Zf,Zb,ZP,Z6,Vf,Kj,Va]at h;obtain⟨⟨rfl,hf⟩,⟨x1,X⟩,m,r,⟨rfl,rfl⟩,_⟩:=h;obtain⟨_,a0,a8,b,cells,e,q,O,V,a5,R⟩:=s.objs id _ L;simp only[CV]at d;obtain⟨_,o,t2,U,Q,A,rfl⟩:=d;rw[Wg]at Q;cases Q;rw[q]at A;cases A;simp only[Vr]at S;obtain⟨js,h5,h6,h7⟩:=Ga s J p c cells.toList x1 X _ _ r R (fun b q=>C b q) S.2;refine⟨b::js,⟨hf,b,js,cells,e,rfl,rfl,V,a5,h5⟩,Vr.2 ⟨fun b5=>?_,h6⟩,?_⟩
    ·obtain⟨d3,h8,h9⟩:=Hn s (i:=[id]) ⟨id,by simp,by rw[L];simp,O⟩ (h7 b b5);simp only[Vg]at h8;subst h8;exact S.1 h9
    ·intro U D;rcases Vt.1 D with rfl|D
     ·exact⟨id,by simp,by rw[L];simp,O⟩
     ·exact Ws (fun _ h=>List.mem_cons_of_mem _ h) (h7 U D)
   ·simp [Zb]at h
  ·simp [Zb]at h
 |.ro t,v,cs,x,ids,l,N,h,d,C,_=>by
  simp only[ext]at h;split at h
  ·rename_i id;rw[ZX]at h;split at h
   ·rename_i t0 t' y L;simp only[Zy,Zf,Va]at h;obtain⟨z,W,⟨rfl,rfl⟩,_⟩:=h;obtain⟨rfl,rfl⟩:=KE W;obtain⟨_,a0,a8,b,cells,e,q,O,V,a5,R⟩:=s.objs id _ L;simp only[CV]at d;obtain⟨_,o,t2,U,Q,A,rfl⟩:=d;rw[Wg]at Q;cases Q;rw[q]at A;cases A;have R:=(show Rd w g.I _ _ cells.toList by simpa only[CV] using R);refine⟨[],⟨rfl,b,0,cells.toList,rfl,C b ⟨id,by simp,by rw[L];simp,O⟩,?_,Rd.mono (fun _ _=>rfl) J _ _ _ R⟩,.nil,by simp⟩;have:=Kw.of_vec (css:=[cells.toList]) V (by simp);simpa using this
   ·simp [Zb]at h
  ·rename_i t' y;simp only[Zy,Zf,Va]at h;obtain⟨z,W,⟨rfl,rfl⟩,_⟩:=h;obtain⟨rfl,rfl⟩:=KE W;simp only[CV]at d;obtain⟨b,off,c,r,G,Q,A⟩:=d;exact⟨[],⟨rfl,b,off,c,r,J _ G,Q,Rd.mono (fun _ _=>rfl) J _ _ _ A⟩,.nil,by simp⟩
  ·simp [Zb]at h
 |.map kt vt,v,cs,x,ids,l,N,h,d,C,_=>by
  simp only[ext]at h;split at h
  ·rename_i id;rw[ZX]at h;split at h
   ·rename_i k e m L;simp only[Zy,Zf,Va]at h;obtain⟨z,W,⟨rfl,rfl⟩,_⟩:=h;obtain⟨he,rfl⟩:=KE W;cases he;obtain⟨_,b,es,clock,q,O,V,b7,Y⟩:=s.objs id _ L;simp only[CV]at d;obtain⟨_,U,A,rfl⟩:=d;rw[q]at A;cases A
    refine⟨[b],⟨b,es,clock,rfl,rfl,V,b7,Y.mono fun kv e hx=>?_⟩,by simp,fun U D=>by simp only[Vg]at D;subst D;exact⟨id,by simp,by rw[L];simp,O⟩⟩
    obtain⟨⟨r,G⟩,Q,A⟩:=hx;exact⟨⟨Rd.mono (fun _ _=>rfl) J _ _ _ (by simpa only[CV] using r),by simpa [AV.isAgg] using G⟩,Rd.mono (fun _ _=>rfl) J _ _ _ (by simpa only[CV] using Q),by simpa [AV.isAgg] using A⟩
   ·simp [Zb]at h
  ·simp [Zb]at h
 |.it kt vt,v,cs,x,ids,l,N,h,d,C,_=>by
  simp only[ext]at h;split at h
  ·rename_i id;rw[ZX]at h;split at h
   ·rename_i k e m cur L;simp only[Zy,Zf,Va]at h;obtain⟨z,W,⟨rfl,rfl⟩,_⟩:=h;obtain⟨he,rfl⟩:=KE W;cases he;obtain⟨_,b,mb,es,clock,since,seen,a0,q,O,b0,V,hm,Q,Y,_⟩:=s.objs id _ L;simp only[CV]at d;obtain⟨_,o',t',U,r,A,rfl⟩:=d;rw[a0,Wg]at r;cases r;rw[q]at A;cases A
    have a9:b≠mb:=by intro b6;rw[b6,hm]at V;cases V
    refine⟨[b,mb],⟨b,mb,es,clock,since,seen,rfl,a9,rfl,V,hm,Q,Y.mono fun kv e hx=>?_⟩,by simp [a9],fun U D=>by
     simp only[Vt,List.not_mem_nil,Z6]at D;rcases D with rfl|rfl
     ·exact⟨id,by simp,by rw[L];simp,O⟩
     ·exact⟨id,by simp,by rw[L];simp,b0⟩⟩
    obtain⟨⟨r,G⟩,Q,A⟩:=hx;exact⟨⟨Rd.mono (fun _ _=>rfl) J _ _ _ (by simpa only[CV] using r),by simpa [AV.isAgg] using G⟩,Rd.mono (fun _ _=>rfl) J _ _ _ (by simpa only[CV] using Q),by simpa [AV.isAgg] using A⟩
   ·simp [Zb]at h
  ·simp [Zb]at h
 |.rows t k,v,cs,x,ids,l,N,h,d,C,_=>by
  simp only[ext,Z0,Zf,Va]at h;obtain⟨⟨x1,X⟩,m,r,⟨rfl,rfl⟩,_⟩:=h
  have Z:∃val,cs=[val]/\VR w g v val:=by
   cases v with
   |vw id=>simp only[CV]at d;exact⟨_,d.2.1,KK (by simp only[CV];exact⟨d.1,trivial,d.2.2⟩) d.2.2 rfl⟩
   |nils=>simp only[CV]at d;exact⟨_,d,KK (by simp only[CV]) rfl rfl⟩
   |_=>simp [YC,Zb]at r
  obtain⟨val,rfl,hv⟩:=Z;obtain⟨a4,_⟩:=Zfl s hv r
  exact⟨G9 w (ZL H ow X),⟨val,rfl,a4.mono (fun _ _=>rfl) J (fun b q=>Gl.2 ⟨Zb0 s q,q⟩) fun _ _=>rfl⟩,Zbo,fun b q=>(Gl.1 q).2⟩
 |.mrows kt t,v,cs,x,ids,l,N,h,d,C,_=>by
  simp only[ext]at h;split at h
  ·rename_i id;rw[ZX]at h;split at h
   ·rename_i k t' m u L;simp only[Zy,Zf,Va]at h;obtain⟨z,W,⟨rfl,rfl⟩,_⟩:=h;obtain⟨he,rfl⟩:=KE W;cases he;obtain⟨b,q,hm⟩:=Ha.of_obj (s.objs id _ L).2;simp only[CV]at d;obtain⟨_,U,A,rfl⟩:=d;rw[q]at A;cases A;have K:∀b,ow id b->ZL H ow [id] b:=fun b q=>⟨id,by simp,by rw[L];simp,q⟩;exact⟨G9 w (ZL H ow [id]),⟨_,rfl,hm.mono (fun _ _=>rfl) J (fun b q=>Gl.2 ⟨Zb0 s (K b q),K b q⟩) fun _ _=>rfl⟩,Zbo,fun b q=>(Gl.1 q).2⟩
   ·simp [Zb]at h
  ·simp [Zb]at h
 |.bld T e k,v,cs,x,ids,l,N,h,d,C,_=>by
  simp only[ext]at h;split at h
  ·rename_i id;rw[ZX]at h;split at h
   ·rename_i T' e' bs L;simp only[ZJ,Zf,Zb,ZP,Z6,Vf,Va]at h;obtain⟨⟨r,G⟩,⟨rfl,rfl⟩,_⟩:=h;have r:=Vl r;have G:=Vl G;subst r;subst G;obtain⟨_,b,q,hm⟩:=s.objs id _ L;simp only[CV]at d;obtain⟨_,o',t',U,r,A,rfl⟩:=d;rw[Wg]at r;cases r;rw[q]at A;cases A;have K:∀b,ow id b->ZL H ow [id] b:=fun b q=>⟨id,by simp,by rw[L];simp,q⟩;exact⟨G9 w (ZL H ow [id]),⟨b,rfl,hm.mono (fun b q=>Gl.2 ⟨Zb0 s (K b q),K b q⟩) fun _ _=>rfl⟩,Zbo,fun b q=>(Gl.1 q).2⟩
   ·simp [Zb]at h
  ·simp [Zb]at h
 |.owo lb,v,cs,x,ids,l,N,h,d,C,_=>by
  simp only[ext,Z0,Zf,Va]at h;obtain⟨⟨x1,X⟩,m,r,⟨rfl,rfl⟩,_⟩:=h;obtain⟨val,rfl,hv⟩:=Zmn s d r
  exact⟨G9 w (ZL H ow X),⟨val,rfl,hv.mono (fun _ _=>rfl) J (fun b _ q=>Gl.2 ⟨Zb0 s q,q⟩) fun _ _ _=>rfl⟩,Zbo,fun b q=>(Gl.1 q).2⟩
 |.fnd tn tq lt lb,v,cs,x,ids,l,N,h,d,C,S=>by
  simp only[ext]at h;split at h
  ·rename_i id;rw[ZX]at h;split at h
   ·rename_i d8 d9 d5 d4 bs L;simp only[Zy,Zf]at h;obtain⟨z,W,⟨rfl,rfl⟩,_⟩:=h;obtain⟨he,rfl⟩:=KE W;cases he;obtain⟨_,a0,b,q,hm⟩:=s.objs id _ L;simp only[CV]at d;obtain⟨_,o',t',U,r,A,rfl⟩:=d;rw[Wg]at r;cases r;rw[q]at A;cases A;have K:∀b,ow id b->ZL H ow [id] b:=fun b q=>⟨id,by simp,by rw[L];simp,q⟩;exact⟨G9 w (ZL H ow [id]),⟨b,rfl,hm.mono (fun _ _=>rfl) J (fun b q=>Gl.2 ⟨Zb0 s (K b q),K b q⟩) fun _ _=>rfl⟩,Zbo,fun b q=>(Gl.1 q).2⟩
   ·rename_i t v1 v2 v3 v4 v5 v6 L;simp only[ZJ,Z0,Zy,Zf,Zb,ZP,Z6,Kj,Va]at h;obtain⟨rfl,⟨y1,X⟩,m1,e1,⟨y2,i2⟩,m2,e2,⟨y3,i3⟩,m3,e3,⟨y4,i4⟩,m4,e4,⟨y5,i5⟩,m5,e5,⟨y6,i6⟩,m6,e6,z,W,⟨rfl,rfl⟩,_⟩:=h;obtain⟨ad,c8,b2⟩:=Zwt W;simp only[WF,Va]at b2;obtain⟨rfl,rfl,rfl,rfl,rfl,rfl⟩:=b2;obtain⟨_,a0,a8,b,cells,e,q,O,V,a5,R⟩:=s.objs id _ L;simp only[CV]at d;obtain⟨_,o',t',U,r,A,rfl⟩:=d;rw[Wg]at r;cases r;rw[q]at A;cases A;simp only[CV,Z9]at R;obtain⟨c1,r1,c7,k1,c2,r2,rfl,k2,c3,r3,rfl,k3,c4,r4,rfl,k4,c5,r5,rfl,k5,c6,r6,rfl,k6,rfl⟩:=R;obtain⟨c9,rfl,g4⟩:=Zug s k4 e4;obtain⟨d0,rfl,g5⟩:=Zmn s k5 e5;obtain⟨d1,rfl,g6⟩:=Zue s k6 e6
    simp only at S C;simp only[Vr,Vh,Vi,not_or]at S;obtain⟨⟨n4,n5,n6⟩,d6,⟨_,_,d7⟩,d2⟩:=S;have a1:ZL H ow [id] b:=⟨id,by simp,by rw[L];simp,O⟩;have dj:∀{i j:List Nat}{k:Nat},ZL H ow i k->ZL H ow j k->∃n,n∈i/\n∈j:=fun r G=>Hn s r G;have a2:∀{i:List Nat}{k:Nat},(∀n∈i,n∈id::(i4++(i5++i6)))->ZL H ow i k->k∈G9 w (ZL H ow (id::(i4++(i5++i6)))):=fun hi M=>Gl.2 ⟨Zb0 s M,Ws hi M⟩
    have a3:∀{i:List Nat}{k:Nat},id ∉ i->ZL H ow i k->k≠b:=by intro i k hi M e;subst e;obtain⟨n,r,G⟩:=dj a1 M;simp only[Vg]at r;exact hi (r▸G)
    refine⟨G9 w (ZL H ow (id::(i4++(i5++i6)))),⟨b,rfl,a2 (by simp) a1,ad,ZL H ow i4,ZL H ow i5,ZL H ow i6,c8,fun k M=>⟨a2 (by grind) M,a3 n4 M,fun h5=>?_,fun h6=>?_⟩,fun k M=>⟨a2 (by grind) M,a3 n5 M,fun h6=>?_⟩,fun k M=>⟨a2 (by grind) M,a3 n6 M⟩,
     cells,e,c1,c2,c3,c9,d0,d1,V,by simpa using c7,RA s J tn v1 c1 _ X _ _ e1 k1 fun k M=>C k (Ws (by grind) M),RA s J tq v2 c2 _ i2 _ _ e2 k2 fun k M=>C k (Ws (by grind) M),RA s J lt v3 c3 _ i3 _ _ e3 k3 fun k M=>C k (Ws (by grind) M),
     g4.mono (fun _ _=>rfl) J (fun _ h=>h) fun _ _=>rfl,g5.mono (fun _ _=>rfl) J (fun _ _ h=>h) fun _ _ _=>rfl,g6.mono (fun _ _=>rfl) J (fun _ _ h=>h) fun _ _ _=>rfl⟩,Zbo,fun k M=>(Gl.1 M).2⟩
    ·obtain⟨n,r,G⟩:=dj M h5;grind
    ·obtain⟨n,r,G⟩:=dj M h6;grind
    ·obtain⟨n,r,G⟩:=dj M h6;grind
   ·simp [Zb]at h
  ·simp [Zb]at h
 |.agg pl,v,cs,x,ids,l,N,h,d,C,S=>by
  simp only[ext]at h;split at h
  ·rename_i vs;simp only[CV]at d;obtain⟨js,r,G⟩:=ZeK s J pl vs cs x ids l N h d C S;exact⟨js,r,G⟩
  ·rename_i t y;simp only[ZJ,Zb,ZP,Z6]at h;obtain⟨hf,h⟩:=h;obtain⟨js,r,G⟩:=ZeK s J pl _ cs x ids l N h (ZkQ t y cs hf (by simpa only[CV] using d)) C S;exact⟨js,r,G⟩
  ·simp [Zb]at h
 |.fn f pl,v,cs,x,ids,l,N,h,d,C,S=>by
  simp only[ext]at h;split at h
  ·rename_i f' a6;simp only[ZJ,Zb,ZP,Z6]at h;obtain⟨hf,h⟩:=h;have hf:=Vl hf;subst hf;simp only[CV]at d;obtain⟨cc,rfl,b8⟩:=d;obtain⟨js,r,G⟩:=ZeK s J pl a6 cc x ids l N h b8 C S;exact⟨js,⟨cc,rfl,r⟩,G⟩
  ·simp [Zb]at h
 |.nilr,v,cs,x,ids,l,N,h,d,C,_=>by
  simp only[ext]at h;split at h
  ·simp only[Zf,Va]at h;obtain⟨⟨_,rfl⟩,_⟩:=h;have d:=ZbU d;exact⟨[],⟨rfl,d⟩,.nil,by simp⟩
  ·simp [Zb]at h
 |.nils,v,cs,x,ids,l,N,h,d,C,_=>by
  simp only[ext]at h;split at h
  ·simp only[Zf,Va]at h;obtain⟨⟨_,rfl⟩,_⟩:=h;simp only[CV]at d;exact⟨[],⟨rfl,d⟩,.nil,by simp⟩
  ·simp [Zb]at h
 |.any,v,cs,x,ids,l,N,h,d,C,_=>by simp only[ext,Zf,Va]at h;obtain⟨⟨_,rfl⟩,_⟩:=h;exact⟨[],rfl,.nil,by simp⟩
theorem ZeK(s:RH B H w g ow)(J:∀b,g.I b->I b):∀(pl:Pats) (v:Zo) (cs:List Value) (x:Ks pl) (ids:ZF) (l N:List Nat),(WE pl v).run H l=Ua ((x,ids),N)->Z9 w g v cs->(∀b,ZL H ow ids.br b->I b)->
 ids.tk.Nodup->∃js,JU w I pl x js cs/\js.Nodup/\ ∀b∈js,ZL H ow ids.tk b
 |.nil,.nil,cs,x,ids,l,N,h,d,C,_=>by
  simp only[WE,Zf,Va]at h;obtain⟨⟨_,rfl⟩,_⟩:=h;simp only[Z9]at d
  exact⟨[],⟨rfl,d⟩,.nil,by simp⟩
 |.cons p pl,.cons v vs,cs,x,ids,l,N,h,d,C,S=>by
  simp only[WE,Z0,Zf,Va]at h;obtain⟨⟨x1,X⟩,m1,r,⟨x2,i2⟩,m2,G,⟨rfl,rfl⟩,_⟩:=h;simp only[Z9]at d;obtain⟨c1,c2,rfl,Q,A⟩:=d;have b9:(X.tk++i2.tk).Nodup:=S;obtain⟨n1,n2,n3⟩:=Vh.1 b9;obtain⟨j1,h5,h6,h7⟩:=Ga s J p v c1 x1 X _ _ r Q (fun b q=>C b (Ws (fun _ h=>by simp [ZF.app,h]) q)) n1;obtain⟨j2,h8,h9,a7⟩:=ZeK s J pl vs c2 x2 i2 _ _ G A (fun b q=>C b (Ws (fun _ h=>by simp [ZF.app,h]) q)) n2;refine⟨j1++j2,⟨j1,j2,c1,c2,rfl,rfl,h5,h8⟩,Vh.2 ⟨h6,h9,fun b q U D e=>?_⟩,fun b q=>?_⟩
  ·subst e;obtain⟨id,b3,b4⟩:=Hn s (h7 b q) (a7 b D);exact n3 id b3 id b4 rfl
  ·rcases Vi.1 q with q|q
   ·exact Ws (fun _ h=>by simp [ZF.app,h]) (h7 b q)
   ·exact Ws (fun _ h=>by simp [ZF.app,h]) (a7 b q)
 |.nil,.cons _ _,_,_,_,_,_,h,_,_,_=>by simp [WE,Zb]at h
 |.cons _ _,.nil,_,_,_,_,_,h,_,_,_=>by simp [WE,Zb]at h
end
end
end Tr
end
section
namespace Tr
open Go
def Wd(l:List (Nat×K1)):Kx:=l.map fun o=>(o.1,Ua o.2)
theorem Zdr{k:Nat} :∀{l:Kx}{H:AH},(∀p∈l,p.1≠k)->Zp H l k=H k
 |[],_,_=>rfl
 |p::l,H,h=>by simp only[Zp];rw[Zdr (by grind),Kt (by grind)]
theorem Zwv{H:AH}{i k:Nat}{o u:Option K1}(h:i≠k):ZY (ZY H i o) k u=ZY (ZY H k u) i o:=by
 funext j;by_cases b:j=i
 ·subst b;rw[Kt h,XC,XC]
 ·by_cases c:j=k
  ·subst c;rw[XC,Kt b,XC]
  ·rw[Kt c,Kt b,Kt b,Kt c]
theorem Zfn{k:Nat}{o:Option K1} :∀{l:Kx}{H:AH},(∀p∈l,p.1≠k)->Zp (ZY H k o) l=ZY (Zp H l) k o
 |[],_,_=>rfl
 |p::l,H,h=>by simp only[Zp];rw[<-Zfn (by grind),Zwv (by grind)]
mutual
theorem Yd:∀(p:Pat) (x:K2 p) (n:Nat),n<=(inj p x n).2.2/\ ∀o∈(inj p x n).2.1,n<=o.1/\o.1<(inj p x n).2.2
 |.pd _,_,n=>⟨Vd _,by simp [inj]⟩
 |.own _ _,_,n=>⟨by simp [inj],by simp [inj]⟩
 |.var t p,x,n=>by
  obtain⟨d,c⟩:=Yd p x (n+1);refine⟨by simp only[inj];omega,fun o b=>?_⟩;simp only[inj,Vt]at b⊢;rcases b with rfl|b
  ·exact⟨Vd _,by show n<_;omega⟩
  ·have:=c o b;omega
 |.ro _,_,n=>⟨Vd _,by simp [inj]⟩
 |.map _ _,_,n=>⟨by simp [inj],by simp [inj]⟩
 |.rows _ _,_,n=>⟨by simp [inj],by simp [inj]⟩
 |.mrows _ _,_,n=>⟨by simp [inj],by simp [inj]⟩
 |.it _ _,_,n=>⟨by simp [inj],by simp [inj]⟩
 |.bld _ _ _,_,n=>⟨by simp [inj],by simp [inj]⟩
 |.fnd _ _ _ _,_,n=>⟨by simp [inj],by simp [inj]⟩
 |.owo _,_,n=>⟨by simp [inj],by simp [inj]⟩
 |.agg l,x,n=>by simpa only[inj] using ZaE l x n
 |.fn f l,x,n=>by simpa only[inj] using ZaE l x n
 |.nilr,_,n=>⟨Vd _,by simp [inj]⟩
 |.nils,_,n=>⟨Vd _,by simp [inj]⟩
 |.any,_,n=>⟨Vd _,by simp [inj]⟩
theorem ZaE:∀(l:Pats) (x:Ks l) (n:Nat),n<=(Kc l x n).2.2/\ ∀o∈(Kc l x n).2.1,n<=o.1/\o.1<(Kc l x n).2.2
 |.nil,_,n=>⟨Vd _,by simp [Kc]⟩
 |.cons p l,x,n=>by
  obtain⟨d,c⟩:=Yd p x.1 n;obtain⟨h,e⟩:=ZaE l x.2 (inj p x.1 n).2.2;refine⟨by simp only[Kc];omega,fun o b=>?_⟩;simp only[Kc,Vi]at b⊢;rcases b with b|b
  ·have:=c o b;omega
  ·have:=e o b;omega
end
mutual
theorem ZhF:∀(p:Pat) (t:Ty) (x:K2 p) (n:Nat),p.fits t=Uc->(inj p x n).1.fits t=Uc
 |.pd b,t,x,n,h=>by simpa [inj,AV.fits,Pat.fits] using h
 |.own b k,t,x,n,h=>by cases t<;>simp [Pat.fits]at h;simp [inj,AV.fits]
 |.var _ p,t,x,n,h=>by cases t<;>simp [Pat.fits]at h;simp [inj,AV.fits]
 |.ro _,t,x,n,h=>by cases t<;>simp [Pat.fits]at h;simp [inj,AV.fits]
 |.map _ _,t,x,n,h=>by cases t<;>simp [Pat.fits]at h;simp [inj,AV.fits]
 |.fn _ _,t,x,n,h=>by cases t<;>simp [Pat.fits]at h;simp [inj,AV.fits]
 |.nilr,t,x,n,h=>by cases t<;>simp [Pat.fits]at h;simp [inj,AV.fits]
 |.nils,t,x,n,h=>by cases t<;>simp [Pat.fits]at h;simp [inj,AV.fits]
 |.agg l,t,x,n,h=>by
  have:=Zlm l t x n (by simpa only[Pat.fits] using h)
  simpa only[inj,AV.fits] using this
 |.rows b k,t,x,n,h=>by
  cases t with
  |sl t=>simp [inj,AV.fits]
  |_=>simp [Pat.fits]at h
 |.mrows _ _,t,x,n,h=>by cases t<;>simp [Pat.fits]at h;simp [inj,AV.fits]
 |.it _ _,t,x,n,h=>by cases t<;>simp [Pat.fits]at h;simp [inj,AV.fits]
 |.bld _ _ _,t,x,n,h=>by cases t<;>simp [Pat.fits]at h;simp [inj,AV.fits]
 |.fnd _ _ _ _,t,x,n,h=>by cases t<;>simp [Pat.fits]at h;simp [inj,AV.fits]
 |.owo _,t,x,n,h=>by cases t<;>simp [Pat.fits]at h;simp [inj,AV.fits]
 |.any,t,_,_,h=>by simp [Pat.fits]at h
theorem Zlm:∀(l:Pats) (t:Ty) (x:Ks l) (n:Nat),l.fits t=Uc->(Kc l x n).1.fits t=Uc
 |.nil,t,_,_,h=>by cases t<;>simp [Pats.fits]at h;simp [Kc,Zo.fits]
 |.cons p l,t,x,n,h=>by
  cases t<;>simp only[Pats.fits,Vf,Vjb]at h
  simp only[Kc,Zo.fits,Vf];exact⟨ZhF p _ x.1 n h.1,Zlm l _ x.2 _ h.2⟩
end
structure WW (B:Z1) (H:AH) (w:World) (g:Gh) (ow:Nat->Nat->Prop) (js:List Nat):Prop where
 nodup:js.Nodup
 free:∀b∈js,¬g.I b/\b<w.heap.size/\(B.own0 b\/B.w0.heap.size<=b)/\ ∀id,H id≠Ub->¬ow id b
structure Hy (tk:List Nat) (g g' :Gh):Prop where
 I:g'.I=g.I
 ver:∀id,g.K id->id ∉ tk->g'.ver id=g.ver id
theorem Hy.refl(tk:List Nat)(g:Gh):Hy tk g g:=⟨rfl,by omega⟩
theorem Hy.weak{tk b:List Nat}{g g' :Gh}(h:Hy tk g g')(e:∀id∈tk,id∈b):Hy b g g' :=⟨h.I,fun id c d=>h.ver id c (by grind)⟩
theorem Hy.after{tk:List Nat}{g b c:Gh}(e:Hy tk b c)(d:Hy tk g b)(i:g.Le b):Hy tk g c:=
 ⟨e.I.trans d.I,fun id f h=>(e.ver id (i.K id f) h).trans (d.ver id f h)⟩
theorem Hy.add{g:Gh}{n:Nat}(d:¬g.K n)(t:Ty)(b:Option Nat)(v:Value)(r:(c:Ty)->El c->Value):Hy [] g (g.add n t b v r):=
 ⟨rfl,fun id h _=>Zg (by grind)⟩
def W2(B:Z1)(H:AH)(w:World)(g:Gh)(ow:Nat->Nat->Prop)(js:List Nat)(n e:Nat)(H' :AH)(C:Gh->Prop):Prop:=
 ∃c d,g.Le c/\Hy [] g c/\RH B H' w c d/\C c/\(∀id,c.K id->g.K id\/(n<=id/\id<e))/\(∀id b,H' id≠Ub->d id b->(H id≠Ub/\ow id b)\/b∈js)
section
variable {B:Z1}{H:AH}{w:World}{g:Gh}{ow:Nat->Nat->Prop}
theorem W2.none(c:RH B H w g ow){C:Gh->Prop}(n:Nat)(b:C g):W2 B H w g ow [] n n H C:=
 ⟨g,ow,.refl g,.refl [] g,c,b,by grind,by grind⟩
theorem W2.one(l:RH B H w g ow){js:List Nat}{n:Nat}{o:K1}{t:Ty}{b:Option Nat}{v:Value}{r:(q:Ty)->El q->Value}{C:Gh->Prop}(d:¬g.K n)(m:WW B H w g ow js)
 (p:ORel w (g.add n t b v r) (· ∈js) n o) (j:C (g.add n t b v r)):W2 B H w g ow js n (n+1) (ZY H n (Ua o)) C:=by
 refine⟨g.add n t b v r,Xd ow n (· ∈js),Gh.le_add d t b v r,.add d t b v r,l.add d (by simp) (Vd _) rfl rfl ⟨rfl,Vd _⟩ (fun k e=>m.free k e) p,j,fun id h=>?_,fun id s i f=>?_⟩
 ·rcases h with rfl|h
  all_goals grind
 ·by_cases c:id=n
  ·subst c;rw[JZ]at f;grind
  ·rw[Kt c]at i;rw[W4 c]at f;grind
theorem WW.sub{js ks:List Nat}(h:WW B H w g ow js)(c:ks.Sublist js):WW B H w g ow ks:=⟨h.nodup.sublist c,fun b d=>h.free b (c.subset d)⟩
theorem WW.after{js ks:List Nat}(h:WW B H w g ow (js++ks)){g' :Gh}{c:Nat->Nat->Prop}{H' :AH}(k:g'.I=g.I)(m:∀id b,H' id≠Ub->c id b->(H id≠Ub/\ow id b)\/b∈js):WW B H' w g' c ks:=by
 obtain⟨n,d,p⟩:=Vh.1 h.nodup;refine⟨d,fun b l=>?_⟩;obtain⟨e,f,i,j⟩:=h.free b (by grind)
 grind
mutual
theorem Zc9:∀(p:Pat) {H:AH}{g:Gh}{ow:Nat->Nat->Prop} (_:RH B H w g ow) (x:K2 p) (js:List Nat) (cs:List Value) (n:Nat),PC w g.I p x js cs->WW B H w g ow js->(∀id,n<=id->id<(inj p x n).2.2->¬g.K id)->
 W2 B H w g ow js n (inj p x n).2.2 (Zp H (Wd (inj p x n).2.1)) fun g' =>CV w g' (inj p x n).1 cs
 |.pd t,H,g,ow,c,x,js,cs,n,h,_,_=>by
  obtain⟨rfl,h⟩:=h
  exact W2.none c n (by simpa only[inj,CV] using h)
 |.own t k,H,g,ow,c,x,js,cs,n,h,d,i=>by
  rcases h with ⟨rfl,rfl,rfl⟩|⟨b,cap,cells,e,css,rfl,rfl,m,s,D,h4,L⟩
  ·exact W2.one (t:=t) (b:=Ub) (v:=.slice Ub 0 0) (r:=fun _ _=>.slice Ub 0 0) c (i n (Vd _) (by simp [inj])) d ⟨by simp [Gh.add],.inl ⟨rfl,by simp [Gh.add],by simp [Gh.add]⟩⟩
    (by simp only[inj,CV];exact⟨.inl rfl,by simp [Gh.add],by simp [Gh.add];rfl⟩)
  ·exact W2.one (t:=t) (b:=Ua b) (v:=.slice (Ua ⟨b,0,Option.none⟩) x.length cap) (r:=fun _ _=>.slice Option.none 0 0) c (i n (Vd _) (by simp [inj])) d
    ⟨by simp [Gh.add],.inr ⟨b,cap,cells,e,css,by simp [Gh.add],by simp,by simp [Gh.add],m,s,D,h4,L⟩⟩
    (by simp only[inj,CV];exact⟨.inl rfl,by simp [Gh.add],by simp [Gh.add];rfl⟩)
 |.var t p,H,g,ow,c,x,js,cs,n,h,d,i=>by
  obtain⟨a6,b,a8,cells,e,rfl,rfl,m,s,D⟩:=h;have hn:=(Yd p x (n+1)).1;obtain⟨R,z,M,G,r1,Q,k1,N⟩:=Zc9 p c x a8 cells.toList (n+1) D (d.sub (Vwa _ _)) (fun id h h' =>i id (by omega) (by simpa only[inj] using h'))
  have W:¬R.K n:=fun h=>by
   rcases k1 n h with h|h
   ·exact i n (Vd _) (by simp only[inj];omega) h
   ·omega
  have a5:WW B (Zp H (Wd (inj p x (n+1)).2.1)) w R z [b]:=by
   obtain⟨L,h6⟩:=Vr.1 d.nodup;refine⟨by simp,fun A U=>?_⟩;simp only[Vg]at U;subst U;obtain⟨j,S,u,a0⟩:=d.free A (by simp);refine⟨by rw[G.I];exact j,S,u,fun id a1 a2=>?_⟩;rcases N id A a1 a2 with ⟨J,a3⟩|J
   ·exact a0 id J a3
   ·exact L J
  obtain⟨g2,O,l2,i2,r2,c2,k2,o2⟩:=W2.one (o:=.var t (inj p x (n+1)).1) (t:=t) (b:=Ua b) (v:=.slice Ub 0 0) (r:=fun _ _=>.slice Ub 0 0) (C:=fun g' =>CV w g' (.ptr n []) [.pointer (Ua ⟨b,0,Ub⟩)]) r1 W a5
   ⟨by simp [Gh.add],ZhF p t x (n+1) a6,b,cells,e,by simp [Gh.add],by simp,m,s,Q.mono (fun _ _=>rfl) (Gh.le_add W _ _ _)⟩
   (by simp only[CV];exact⟨.inl rfl,0,t,b,by simp [Gh.add,Wg],by simp [Gh.add],rfl⟩)
  have hH:Zp H (Wd (inj (.var t p) x n).2.1)=ZY (Zp H (Wd (inj p x (n+1)).2.1)) n (Ua (.var t (inj p x (n+1)).1)):=by
   have:Wd (inj (.var t p) x n).2.1=(n,Ua (.var t (inj p x (n+1)).1))::Wd (inj p x (n+1)).2.1:=by simp [inj,Wd]
   rw[this];simp only[Zp];refine Zfn fun q hq=>?_;simp only[Wd,Vva]at hq;obtain⟨o,X,rfl⟩:=hq;have:=((Yd p x (n+1)).2 o X).1;show o.1≠n;omega
  rw[hH];refine⟨g2,O,M.trans l2,i2.after G M,r2,by simpa only[inj] using c2,fun id h=>?_,fun id A L h6=>?_⟩
  ·simp only[inj];rcases k2 id h with h|h
   ·rcases k1 id h with h|h
    ·exact .inl h
    ·exact .inr (by omega)
   ·exact .inr (by omega)
  ·rcases o2 id A L h6 with ⟨j,S⟩|j
   ·rcases N id A j S with u|u
    ·exact .inl u
    ·exact .inr (by simp [u])
   ·simp only[Vg]at j;exact .inr (by simp [j])
 |.ro t,H,g,ow,c,x,js,cs,n,h,_,_=>by
  obtain⟨rfl,h⟩:=h
  exact W2.none c n (by simpa only[inj,CV] using h)
 |.map kt vt,H,g,ow,c,x,js,cs,n,h,d,i=>by
  obtain⟨b,es,clock,rfl,rfl,m,a4,s⟩:=h
  exact W2.one (t:=.unit) (b:=Ua b) (v:=.slice Ub 0 0) (r:=fun _ _=>.slice Ub 0 0) c (i n (Vd _) (by simp [inj])) d
   ⟨b,es,clock,by simp [Gh.add],by simp,m,a4,s.mono fun kv e y=>⟨⟨by simp only[CV];exact y.1.1,.inr (by simpa [AV.isAgg] using y.1.2)⟩,⟨by simp only[CV];exact y.2.1,.inr (by simpa [AV.isAgg] using y.2.2)⟩⟩⟩
   (by simp only[inj,CV];exact⟨.inl rfl,b,by simp [Gh.add],rfl⟩)
 |.it kt vt,H,g,ow,c,x,js,cs,n,h,d,i=>by
  obtain⟨b,mb,es,clock,since,seen,rfl,a9,rfl,m,s,D,h4⟩:=h
  exact W2.one (t:=.ref) (b:=Ua b) (v:=undef) (r:=fun _ _=>.slice Ub 0 0) c (i n (Vd _) (by simp [inj])) d
   ⟨b,mb,es,clock,since,seen,by simp [Gh.add],by simp [Gh.add],by simp,by simp,m,s,D,h4.mono fun kv e y=>⟨⟨by simp only[CV];exact y.1.1,.inr (by simpa [AV.isAgg] using y.1.2)⟩,⟨by simp only[CV];exact y.2.1,.inr (by simpa [AV.isAgg] using y.2.2)⟩⟩,fun kv a7=>by cases a7⟩
   (by simp only[inj,CV];exact⟨.inl rfl,0,.ref,b,by simp [Gh.add,Wg],by simp [Gh.add],rfl⟩)
 |.rows t k,H,g,ow,c,x,js,cs,n,h,d,i=>by
  obtain⟨v,rfl,h⟩:=h;obtain⟨b,r,X⟩:=h.obj n
  have Z:v.oneCell' =true:=by
   obtain⟨hd,_,h⟩:=h
   rcases h with ⟨_,rfl⟩|⟨_,_,_,_,_,_,rfl,_⟩<;>rfl
  exact W2.one (t:=.sl t) (b:=b) (v:=v) (r:=r) c (i n (Vd _) (by simp [inj])) d X (by simp only[inj,CV];exact⟨.inl rfl,by simp [Gh.add],by simp [Gh.add,Z]⟩)
 |.mrows kt t,H,g,ow,c,x,js,cs,n,h,d,i=>by
  obtain⟨v,rfl,h⟩:=h;have hv:∃b,v=.map (Ua b):=by obtain⟨_,b,_,_,h,_⟩:=h;exact⟨b,h⟩
  obtain⟨b,rfl⟩:=hv;obtain⟨r,X⟩:=h.obj n
  exact W2.one (t:=.sl t) (b:=Ua b) (v:=undef) (r:=r) c (i n (Vd _) (by simp [inj])) d X (by simp only[inj,CV];exact⟨.inl rfl,b,by simp [Gh.add],rfl⟩)
 |.bld T e k,H,g,ow,c,x,js,cs,n,h,d,i=>by
  obtain⟨b,rfl,h⟩:=h
  exact W2.one (o:=.bld T e x) (t:=.unit) (b:=Ua b) (v:=.slice Ub 0 0) (r:=fun _ _=>.slice Ub 0 0) c (i n (Vd _) (by simp [inj])) d ⟨b,by simp [Gh.add],h⟩
   (by simp only[inj,CV];exact⟨.inl rfl,0,.unit,b,by simp [Gh.add,Wg],by simp [Gh.add],rfl⟩)
 |.owo lb,H,g,ow,c,x,js,cs,n,h,d,i=>by
  obtain⟨v,rfl,h⟩:=h
  have Y:v.oneCell' =true:=by
   rcases h with ⟨_,rfl⟩|⟨_,_,_,_,_,_,rfl,_⟩<;>rfl
  exact W2.one (o:=.vco lb x) (t:=.pn lb) (b:=Ub) (v:=v) (r:=fun _ _=>.slice Ub 0 0) c (i n (Vd _) (by simp [inj])) d ⟨by simp [Gh.add],by
   have e:(g.add n (.pn lb) Ub v (fun _ _=>.slice Ub 0 0)).slv n=v:=by simp [Gh.add]
   rw[e];exact h⟩
   (by simp only[inj,CV];exact⟨.inl rfl,by simp [Gh.add],by simp [Gh.add,Y]⟩)
 |.fnd tn tq lt lb,H,g,ow,c,x,js,cs,n,h,d,i=>by
  obtain⟨b,rfl,h⟩:=h
  exact W2.one (o:=.fnd tn tq lt lb x) (t:=Jd tn tq lt lb) (b:=Ua b) (v:=.slice Ub 0 0) (r:=fun _ _=>.slice Ub 0 0) c (i n (Vd _) (by simp [inj])) d ⟨.inl (by simp [Gh.add]),b,by simp [Gh.add],h⟩
   (by simp only[inj,CV];exact⟨.inl rfl,0,Jd tn tq lt lb,b,by simp [Gh.add,Wg],by simp [Gh.add],rfl⟩)
 |.agg l,H,g,ow,c,x,js,cs,n,h,d,i=>by
  simp only[PC]at h;simp only[inj,CV]
  exact ZhG l c x js cs n h d (by simpa only[inj] using i)
 |.fn f l,H,g,ow,c,x,js,cs,n,h,d,i=>by
  simp only[PC]at h;obtain⟨cc,rfl,h⟩:=h;simp only[inj,CV];obtain⟨R,z,M,G,r1,Q,k1,N⟩:=ZhG l c x js cc n h d (by simpa only[inj] using i)
  exact⟨R,z,M,G,r1,⟨cc,rfl,Q⟩,k1,N⟩
 |.nilr,H,g,ow,c,x,js,cs,n,h,_,_=>by
  obtain⟨rfl,h⟩:=h
  exact W2.none c n (by simpa only[inj,CV,true_and] using h)
 |.nils,H,g,ow,c,x,js,cs,n,h,_,_=>by
  obtain⟨rfl,h⟩:=h
  exact W2.none c n (by simpa only[inj,CV] using h)
 |.any,H,g,ow,c,x,js,cs,n,h,_,_=>by obtain rfl:=h;exact W2.none c n (by simp only[inj,CV])
theorem ZhG:∀(l:Pats) {H:AH}{g:Gh}{ow:Nat->Nat->Prop} (_:RH B H w g ow) (x:Ks l) (js:List Nat) (cs:List Value) (n:Nat),JU w g.I l x js cs->WW B H w g ow js->(∀id,n<=id->id<(Kc l x n).2.2->¬g.K id)->
 W2 B H w g ow js n (Kc l x n).2.2 (Zp H (Wd (Kc l x n).2.1)) fun g' =>Z9 w g' (Kc l x n).1 cs
 |.nil,H,g,ow,c,x,js,cs,n,h,_,_=>by
  obtain⟨rfl,rfl⟩:=h
  exact W2.none c n (by simp only[Kc,Z9])
 |.cons p l,H,g,ow,c,x,js,cs,n,h,d,i=>by
  obtain⟨j1,j2,Q,c2,rfl,rfl,m,s⟩:=h;have n1:=(Yd p x.1 n).1;have n2:=(ZaE l x.2 (inj p x.1 n).2.2).1;have V:∀id,n<=id->id<(Kc l x.2 (inj p x.1 n).2.2).2.2->¬g.K id:=by simpa only[Kc] using i
  obtain⟨R,z,M,G,r1,d1,k1,N⟩:=Zc9 p c x.1 j1 Q n m (d.sub (Vp _ _)) fun id h h' =>V id h (by omega)
  obtain⟨g2,O,l2,i2,r2,d2,k2,o2⟩:=ZhG l r1 x.2 j2 c2 (inj p x.1 n).2.2 (by rw[G.I];exact s) (d.after G.I N) fun id h h' hK=>by
   rcases k1 id hK with D|D
   ·exact V id (by omega) h' D
   ·omega
  have hH:Zp H (Wd (Kc (.cons p l) x n).2.1)=Zp (Zp H (Wd (inj p x.1 n).2.1)) (Wd (Kc l x.2 (inj p x.1 n).2.2).2.1):=by rw[<-Xj];simp [Kc,Wd]
  rw[hH];simp only[Kc,Z9];refine⟨g2,O,M.trans l2,i2.after G M,r2,⟨Q,c2,rfl,d1.mono (fun _ _=>rfl) l2,d2⟩,fun id h=>?_,fun id A L h6=>?_⟩
  ·rcases k2 id h with h|h
   ·rcases k1 id h with h|h
    ·exact .inl h
    ·exact .inr (by omega)
   ·exact .inr (by omega)
  ·rcases o2 id A L h6 with ⟨j,S⟩|j
   ·rcases N id A j S with u|u
    ·exact .inl u
    ·exact .inr (by simp [u])
   ·exact .inr (by simp [j])
end
end
end Tr
end
section
namespace Tr
open Go
theorem Zll(p:Pat)(x:K2 p)(n:Nat)(b:p≠ .any):(inj p x n).1.isAgg=p.isAgg:=by
 cases p<;>simp [inj,AV.isAgg,Pat.isAgg]at b⊢
section
variable {B:Z1}{H:AH}{w:World}{g:Gh}{ow:Nat->Nat->Prop}{F:Nat->AV}{I:Nat->Prop}
theorem ZeZ:∀(l:Pats) {H:AH}{g:Gh}{ow:Nat->Nat->Prop} (_:RH B H w g ow) (x:Ks l) (js:List Nat) (vs:List Value) (n:Nat),Js w g.I l x js vs->WW B H w g ow js->(∀id,n<=id->id<(Kc l x n).2.2->¬g.K id)->
 W2 B H w g ow js n (Kc l x n).2.2 (Zp H (Wd (Kc l x n).2.1)) fun g' =>WK w g' (Kc l x n).1 vs
 |.nil,H,g,ow,b,x,js,vs,n,h,_,_=>by
  obtain⟨rfl,rfl⟩:=h
  exact W2.none b n rfl
 |.cons p l,H,g,ow,b,x,js,vs,n,h,f,T=>by
  obtain⟨A,C,v,r,rfl,rfl,⟨t,S⟩,O⟩:=h;have W:=(Yd p x.1 n).1;have X:=(ZaE l x.2 (inj p x.1 n).2.2).1;have y:∀id,n<=id->id<(Kc l x.2 (inj p x.1 n).2.2).2.2->¬g.K id:=by assumption
  obtain⟨N,G,j,d,J,m,U,D⟩:=Zc9 p b x.1 A v.cells.toList n t (f.sub (Vp _ _)) (by grind);obtain⟨s,e,k,z,L,q,V,Y⟩:=ZeZ l J x.2 C r (inj p x.1 n).2.2 (by rw[d.I];omega) (f.after d.I D) (by grind)
  have u:Zp H (Wd (Kc (.cons p l) x n).2.1)=Zp (Zp H (Wd (inj p x.1 n).2.1)) (Wd (Kc l x.2 (inj p x.1 n).2.2).2.1):=by rw[<-Xj];simp [Kc,Wd]
  rw[u]
  have c:(inj p x.1 n).1=.junk\/Kf v=(inj p x.1 n).1.isAgg:=by
   by_cases i:p=.any
   ·subst i;exact .inl rfl
   ·rw[Zll p x.1 n i];grind
  refine⟨s,e,j.trans k,z.after d j,L,⟨v,r,rfl,⟨m.mono (fun _ _=>rfl) k,c⟩,q⟩,fun id h=>?_,fun id M Q R=>?_⟩
  ·simp only[Kc]
   grind
  grind
theorem ZkT{p:Pat}{v:AV}{r:K2 p×ZF}{l c:List Nat}(h:(ext p v).run H l=Ua (r,c))(i:p≠ .any):v≠ .junk/\v.isAgg=p.isAgg:=by
 cases p with
 |pd t=>
  simp only[ext,Z0]at h;obtain⟨y,m,b,_⟩:=h
  exact Zgw b
 |own t k=>
  simp only[ext,Z0]at h;obtain⟨y,m,b,_⟩:=h
  cases v<;>simp [Jq,Zb]at b<;>exact⟨by simp,rfl⟩
 |var t p=>cases v<;>simp [ext,Zb]at h<;>exact⟨by simp,rfl⟩
 |ro t=>cases v<;>simp [ext,Zb]at h<;>exact⟨by simp,rfl⟩
 |map k t=>cases v<;>simp [ext,Zb]at h<;>exact⟨by simp,rfl⟩
 |rows t k=>
  simp only[ext,Z0]at h;obtain⟨y,m,b,_⟩:=h
  cases v<;>simp [YC,Zb]at b<;>exact⟨by simp,rfl⟩
 |mrows k t=>cases v<;>simp [ext,Zb]at h<;>exact⟨by simp,rfl⟩
 |it k t=>cases v<;>simp [ext,Zb]at h<;>exact⟨by simp,rfl⟩
 |bld T e k=>cases v<;>simp [ext,Zb]at h<;>exact⟨by simp,rfl⟩
 |fnd tn tq lt lb=>cases v<;>simp [ext,Zb]at h<;>exact⟨by simp,rfl⟩
 |owo lb=>
  simp only[ext,Z0]at h;obtain⟨y,m,b,_⟩:=h
  cases v<;>simp [Dl,Zb]at b<;>exact⟨by simp,rfl⟩
 |agg pl=>
  cases v with
  |agg vs=>exact⟨by simp,rfl⟩
  |d t x=>
   simp only[ext,ZJ,Zb,ZP,Z6]at h
   exact⟨by simp,Zr9 h.1 rfl⟩
  |_=>simp [ext,Zb]at h
 |fn f pl=>cases v<;>simp [ext,Zb]at h<;>exact⟨by simp,rfl⟩
 |nilr=>cases v<;>simp [ext,Zb]at h<;>exact⟨by simp,rfl⟩
 |nils=>cases v<;>simp [ext,Zb]at h<;>exact⟨by simp,rfl⟩
 |any=>grind
theorem ZkS(j:RH B H w g ow)(A:∀b,g.I b->I b):∀(pl:Pats) (v:Zo) (c:List Value) (x:Ks pl) (ids:ZF) (l s:List Nat),(WE pl v).run H l=Ua ((x,ids),s)->WK w g v c->(∀b,ZL H ow ids.br b->I b)->
 ids.tk.Nodup->∃js,Js w I pl x js c/\js.Nodup/\ ∀b∈js,ZL H ow ids.tk b
 |.nil,.nil,c,x,ids,l,s,h,n,i,_=>by
  simp only[WE,Zf,Va]at h;obtain⟨⟨_,rfl⟩,_⟩:=h
  exact⟨[],⟨rfl,n⟩,.nil,by simp⟩
 |.cons p pl,.cons v vs,c,x,ids,l,s,h,n,i,U=>by
  simp only[WE,Z0,Zf,Va]at h;obtain⟨⟨Y,C⟩,m1,t,⟨Z,D⟩,m2,M,⟨rfl,rfl⟩,_⟩:=h;obtain⟨u,r,rfl,y,N⟩:=n;have q:(C.tk++D.tk).Nodup:=U;obtain⟨W,X,n3⟩:=Vh.1 q;obtain⟨G,O,Q,z⟩:=Ga j A p v u.cells.toList Y C _ _ t y.1 (fun b d=>i b (Ws (fun _ h=>by simp [ZF.app,h]) d)) W;obtain⟨J,R,S,f⟩:=ZkS j A pl vs r Z D _ _ M N (fun b d=>i b (Ws (fun _ h=>by simp [ZF.app,h]) d)) X
  have k:p=.any\/Kf u=p.isAgg:=by
   by_cases V:p=.any
   ·grind
   ·obtain⟨T,d⟩:=ZkT t V;rw[<-d];exact .inr (y.2.resolve_left T)
  refine⟨G++J,⟨G,J,u,r,rfl,rfl,⟨O,k⟩,R⟩,Vh.2 ⟨Q,S,fun b d b' m e=>?_⟩,fun b d=>?_⟩
  ·subst e;obtain⟨id,K,L⟩:=Hn j (z b d) (f b m)
   grind
  ·rcases Vi.1 d with d|d
   ·exact Ws (fun _ h=>by simp [ZF.app,h]) (z b d)
   ·exact Ws (fun _ h=>by simp [ZF.app,h]) (f b d)
 |.nil,.cons _ _,_,_,_,_,_,h,_,_,_=>by simp [WE,Zb]at h
 |.cons _ _,.nil,_,_,_,_,_,h,_,_,_=>by simp [WE,Zb]at h
mutual
def PO(w:World)(I:Nat->Prop):(p:Pat)->H3 p->List Nat->List Value->Prop
 |.own t Uc,y,js,cs=>PC w I (.own t Uc) y js cs
 |.own _ Ud,_,js,_=>js=[]
 |.var t p,y,js,cs=>PC w I (.var t p) y js cs
 |.map b i,y,js,cs=>PC w I (.map b i) y js cs
 |.rows t Uc,y,js,cs=>PC w I (.rows t Uc) y js cs
 |.rows _ Ud,_,js,_=>js=[]
 |.mrows b t,y,js,cs=>PC w I (.mrows b t) y js cs
 |.it _ _,_,js,_=>js=[]
 |.bld T e Uc,y,js,cs=>PC w I (.bld T e Uc) y js cs
 |.bld _ _ Ud,_,js,_=>js=[]
 |.fnd tn tq lt lb,y,js,cs=>PC w I (.fnd tn tq lt lb) y js cs
 |.owo _,_,js,_=>js=[]
 |.agg l,y,js,cs=>XE w I l y js cs
 |.fn f l,y,js,cs=>∃c:List Value,cs=[J4 f c]/\XE w I l y js c
 |.pd _,_,js,_=>js=[]
 |.ro _,_,js,_=>js=[]
 |.nilr,_,js,_=>js=[]
 |.nils,_,js,_=>js=[]
 |.any,_,js,_=>js=[]
def XE(w:World)(I:Nat->Prop):(l:Pats)->We l->List Nat->List Value->Prop
 |.nil,_,js,_=>js=[]
 |.cons p l,y,js,cs=>∃d h,js=d++h/\PO w I p y.1 d (cs.take p.sz)/\XE w I l y.2 h (cs.drop p.sz)
end
def Hw(w:World)(I:Nat->Prop):(l:Pats)->We l->List Nat->List Value->Prop
 |.nil,_,b,_=>b=[]
 |.cons p l,y,b,vs=>∃c d v r,b=c++d/\vs=v::r/\PO w I p y.1 c v.cells.toList/\Hw w I l y.2 d r
mutual
theorem DG:∀(p:Pat) (x:K2 p) (js:List Nat) (cs:List Value),p.noAny=Uc->PC w I p x js cs->cs.length=p.sz
 |.pd t,x,js,cs,_,h=>Rd.length t x cs h.2
 |.own t k,x,js,cs,_,h=>by
  rcases h with ⟨_,_,rfl⟩|⟨b,cap,cells,e,css,_,rfl,_⟩<;>rfl
 |.var t p,x,js,cs,_,h=>by obtain⟨_,b,u,cells,e,_,rfl,_⟩:=h;rfl
 |.ro t,x,js,cs,_,h=>by obtain⟨_,b,off,c,rfl,_⟩:=h;rfl
 |.map i y,x,js,cs,_,h=>by obtain⟨b,es,clock,_,rfl,_⟩:=h;rfl
 |.it i y,x,js,cs,_,h=>by obtain⟨b,A,es,clock,since,seen,_,_,rfl,_⟩:=h;rfl
 |.rows t k,x,js,cs,_,h=>by obtain⟨v,rfl,_⟩:=h;rfl
 |.mrows i t,x,js,cs,_,h=>by obtain⟨v,rfl,_⟩:=h;rfl
 |.bld T e k,x,js,cs,_,h=>by obtain⟨b,rfl,_⟩:=h;rfl
 |.fnd _ _ _ _,x,js,cs,_,h=>by obtain⟨b,rfl,_⟩:=h;rfl
 |.owo _,x,js,cs,_,h=>by obtain⟨b,rfl,_⟩:=h;rfl
 |.agg l,x,js,cs,d,h=>by
  simp only[PC]at h
  exact Zi2 l x js cs (by simpa only[Pat.noAny] using d) h
 |.fn f l,x,js,cs,_,h=>by obtain⟨z,rfl,_⟩:=h;rfl
 |.nilr,_,js,cs,_,h=>by
  rcases h.2 with rfl|rfl|rfl<;>rfl
 |.nils,_,js,cs,_,h=>by rw[h.2];rfl
 |.any,_,_,_,d,_=>by simp [Pat.noAny]at d
theorem Zi2:∀(l:Pats) (x:Ks l) (js:List Nat) (cs:List Value),l.noAny=Uc->JU w I l x js cs->cs.length=l.sz
 |.nil,_,_,_,_,h=>by obtain⟨_,rfl⟩:=h;rfl
 |.cons p l,x,js,cs,d,h=>by obtain⟨r,s,j,m,rfl,rfl,n,q⟩:=h;simp only[Pats.noAny,Vf]at d;rw[Vj,DG p x.1 r j d.1 n,Zi2 l x.2 s m d.2 q];rfl
end
mutual
theorem Zi3{w' :World}{I' :Nat->Prop} :∀(p:Pat) (y:H3 p) (cs:List Value) (x:K2 p) (js:List Nat),p.back=Ud->p.noAny=Uc->PC w' I' p x js cs->PO w I p y [] cs
 |.own t Uc,_,_,_,_,h,_,_=>by simp [Pat.back]at h
 |.own t Ud,_,_,_,_,_,_,_=>rfl
 |.var t p,_,_,_,_,h,_,_=>by simp [Pat.back]at h
 |.map k v,_,_,_,_,h,_,_=>by simp [Pat.back]at h
 |.rows t Uc,_,_,_,_,h,_,_=>by simp [Pat.back]at h
 |.rows t Ud,_,_,_,_,_,_,_=>rfl
 |.mrows k t,_,_,_,_,h,_,_=>by simp [Pat.back]at h
 |.it _ _,_,_,_,_,_,_,_=>rfl
 |.bld _ _ Uc,_,_,_,_,h,_,_=>by simp [Pat.back]at h
 |.bld _ _ Ud,_,_,_,_,_,_,_=>rfl
 |.fnd _ _ _ _,_,_,_,_,h,_,_=>by simp [Pat.back]at h
 |.owo _,_,_,_,_,_,_,_=>rfl
 |.agg l,y,cs,x,js,h,b,c=>by
  simp only[PC]at c;simp only[PO]
  exact Zge l y cs x js (by simpa only[Pat.back] using h) (by simpa only[Pat.noAny] using b) c
 |.fn f l,y,cs,x,js,h,b,c=>by
  obtain⟨e,rfl,c⟩:=c
  exact⟨e,rfl,Zge l y e x js (by simpa only[Pat.back] using h) (by simpa only[Pat.noAny] using b) c⟩
 |.pd t,_,_,_,_,_,_,_=>rfl
 |.ro t,_,_,_,_,_,_,_=>rfl
 |.nilr,_,_,_,_,_,_,_=>rfl
 |.nils,_,_,_,_,_,_,_=>rfl
 |.any,_,_,_,_,_,_,_=>rfl
theorem Zge{w' :World}{I' :Nat->Prop} :∀(l:Pats) (y:We l) (cs:List Value) (x:Ks l) (js:List Nat),l.back=Ud->l.noAny=Uc->JU w' I' l x js cs->XE w I l y [] cs
 |.nil,_,_,_,_,_,_,_=>rfl
 |.cons p l,y,cs,x,js,h,b,c=>by
  obtain⟨m,r,d,n,rfl,rfl,i,q⟩:=c;simp only[Pats.back,Bool.or_eq_false_iff]at h;simp only[Pats.noAny,Vf]at b;have j:=DG p x.1 m d b.1 i;refine⟨[],[],rfl,?_,?_⟩
  ·rw[Vxa j];exact Zi3 p y.1 d x.1 m h.1 b.1 i
  ·rw[Vya j];exact Zge l y.2 n x.2 r h.2 b.2 q
end
theorem ZbY{p:Pat}{v:AV}{y:H3 p}{ids:ZF}{l C:List Nat}(h:(Jp p v).run H l=Ua ((y,ids),C))(m:RH B H w g ow)(i:∀b,g.I b->I b){cs:List Value}(n:CV w g v cs)
 (j:∀b,ZL H ow ids.br b->I b) (s:ids.tk.Nodup) (D:(∃t,p=.own t Uc)\/(∃t q,p=.var t q)\/(∃k t,p=.map k t)\/(∃t,p=.rows t Uc)\/(∃k t,p=.mrows k t)\/ ∃T e,p=.bld T e Uc):∃js,PO w I p y js cs/\js.Nodup/\(∀b∈js,ZL H ow ids.tk b)/\cs.length=p.sz:=by
 rcases D with ⟨t,rfl⟩|⟨t,q,rfl⟩|⟨k,t,rfl⟩|⟨t,rfl⟩|⟨k,t,rfl⟩|⟨T,e,rfl⟩
 ·cases v with
  |vw id=>
   have A:(ext (.own t Uc) (.vw id)).run H l=Ua ((y,ids),C):=by
    simp only[Jp]at h;rw[ZX]at h;simp only[ext,Jq,Z0,Zf,Va];split at h
    ·rename_i K xs x;simp only[Zy,Zf,Va]at h;obtain⟨z,G,⟨rfl,rfl⟩,rfl⟩:=h;refine⟨⟨z,[id]⟩,id::l,?_,⟨rfl,rfl⟩,rfl⟩;rw[ZX,x];simp only[Zy,Zf]
     grind
    ·simp [Zb]at h
   obtain⟨js,c,d,f⟩:=Ga m i _ _ cs _ _ _ _ A n j s
   exact⟨js,c,d,f,DG (.own t Uc) y js cs rfl c⟩
  |_=>simp [Jp,Zb]at h
 ·cases v with
  |ptr id path=>
   cases path with
   |nil=>
    obtain⟨js,c,d,f⟩:=Ga m i (.var t q) (.ptr id []) cs y ids _ _ (by assumption) n j s;refine⟨js,c,d,f,?_⟩;obtain⟨_,b,J,cells,e,_,rfl,_⟩:=c
    rfl
   |cons a r=>simp [Jp,Zb]at h
  |_=>simp [Jp,Zb]at h
 ·cases v with
  |mp id=>
   obtain⟨js,c,d,f⟩:=Ga m i (.map k t) (.mp id) cs y ids _ _ (by assumption) n j s
   exact⟨js,c,d,f,DG (.map k t) y js cs rfl c⟩
  |_=>simp [Jp,Zb]at h
 ·cases v with
  |vw id=>
   have A:(ext (.rows t Uc) (.vw id)).run H l=Ua ((y,ids),C):=by
    simp only[Jp]at h;rw[ZX]at h;simp only[ext,YC,Z0,Zf,Va];split at h
    ·rename_i K xs u x;simp only[Zy,Zf,Va]at h;obtain⟨z,G,⟨rfl,rfl⟩,rfl⟩:=h;refine⟨⟨z,[id]⟩,id::l,?_,⟨rfl,rfl⟩,rfl⟩;rw[ZX,x];simp only[Zy,Zf]
     grind
    ·simp [Zb]at h
   obtain⟨js,c,d,f⟩:=Ga m i _ _ cs _ _ _ _ A n j s
   exact⟨js,c,d,f,DG (.rows t Uc) y js cs rfl c⟩
  |_=>simp [Jp,Zb]at h
 ·cases v with
  |mp id=>
   obtain⟨js,c,d,f⟩:=Ga m i (.mrows k t) (.mp id) cs y ids _ _ (by assumption) n j s
   exact⟨js,c,d,f,DG (.mrows k t) y js cs rfl c⟩
  |_=>simp [Jp,Zb]at h
 ·cases v with
  |ptr id path=>
   cases path with
   |nil=>
    obtain⟨js,c,d,f⟩:=Ga m i (.bld T e Uc) (.ptr id []) cs y ids _ _ (by assumption) n j s
    exact⟨js,c,d,f,DG (.bld T e Uc) y js cs rfl c⟩
   |cons a r=>simp [Jp,Zb]at h
  |_=>simp [Jp,Zb]at h
mutual
theorem Zmm(u:RH B H w g ow)(x:∀b,g.I b->I b):∀(p:Pat) (v:AV) (cs:List Value) (y:H3 p) (ids:ZF) (l j:List Nat),(Jp p v).run H l=Ua ((y,ids),j)->CV w g v cs->(∀b,ZL H ow ids.br b->I b)->ids.tk.Nodup->
 ∃js,PO w I p y js cs/\js.Nodup/\(∀b∈js,ZL H ow ids.tk b)/\(ZgJ p v=Uc->cs.length=p.sz)
 |.own t Uc,v,cs,y,ids,l,j,h,c,d,i=>by
  obtain⟨js,m,n,q,s⟩:=ZbY h u x c d i (.inl ⟨t,rfl⟩)
  exact⟨js,m,n,q,fun _=>s⟩
 |.var t p,v,cs,y,ids,l,j,h,c,d,i=>by
  obtain⟨js,m,n,q,s⟩:=ZbY h u x c d i (.inr (.inl ⟨t,p,rfl⟩))
  exact⟨js,m,n,q,fun _=>s⟩
 |.map k t,v,cs,y,ids,l,j,h,c,d,i=>by
  obtain⟨js,m,n,q,s⟩:=ZbY h u x c d i (.inr (.inr (.inl ⟨k,t,rfl⟩)))
  exact⟨js,m,n,q,fun _=>s⟩
 |.rows t Uc,v,cs,y,ids,l,j,h,c,d,i=>by
  obtain⟨js,m,n,q,s⟩:=ZbY h u x c d i (.inr (.inr (.inr (.inl ⟨t,rfl⟩))))
  exact⟨js,m,n,q,fun _=>s⟩
 |.rows t Ud,v,cs,y,ids,l,j,h,c,d,i=>by
  simp only[Jp,Zf,Va]at h
  exact⟨[],rfl,.nil,by simp,fun h=>CV.length v (.sl (.sl t)) cs h c⟩
 |.mrows k t,v,cs,y,ids,l,j,h,c,d,i=>by
  obtain⟨js,m,n,q,s⟩:=ZbY h u x c d i (.inr (.inr (.inr (.inr (.inl ⟨k,t,rfl⟩)))))
  exact⟨js,m,n,q,fun _=>s⟩
 |.it _ _,v,cs,y,ids,l,j,h,c,d,i=>⟨[],rfl,.nil,by simp,fun h=>CV.length v .ref cs h c⟩
 |.bld T e Uc,v,cs,y,ids,l,j,h,c,d,i=>by
  obtain⟨js,m,n,q,s⟩:=ZbY h u x c d i (.inr (.inr (.inr (.inr (.inr ⟨T,e,rfl⟩)))))
  exact⟨js,m,n,q,fun _=>s⟩
 |.bld T e Ud,v,cs,y,ids,l,j,h,c,d,i=>by
  simp only[Jp,Zf,Va]at h
  exact⟨[],rfl,.nil,by simp,fun h=>CV.length v .ref cs h c⟩
 |.fnd tn tq lt lb,v,cs,y,ids,l,j,h,c,d,i=>by
  cases v with
  |ptr id path=>
   cases path with
   |nil=>
    obtain⟨js,m,n,q⟩:=Ga u x (.fnd tn tq lt lb) (.ptr id []) cs y ids _ _ (by simpa only[Jp] using h) c d i
    exact⟨js,m,n,q,fun _=>DG (.fnd tn tq lt lb) y js cs rfl m⟩
   |cons a r=>simp [Jp,Zb]at h
  |_=>simp [Jp,Zb]at h
 |.owo lb,v,cs,y,ids,l,j,h,c,d,i=>⟨[],rfl,.nil,by simp,fun h=>CV.length v (.sl (.pn lb)) cs h c⟩
 |.own t Ud,v,cs,y,ids,l,j,h,c,d,i=>by
  simp only[Jp,Zf,Va]at h
  exact⟨[],rfl,.nil,by simp,fun h=>CV.length v (.sl t) cs h c⟩
 |.pd t,v,cs,y,ids,l,j,h,c,d,i=>⟨[],rfl,.nil,by simp,fun h=>CV.length v t cs h c⟩
 |.ro t,v,cs,y,ids,l,j,h,c,d,i=>⟨[],rfl,.nil,by simp,fun h=>CV.length v .ref cs h c⟩
 |.nilr,v,cs,y,ids,l,j,h,c,d,i=>⟨[],rfl,.nil,by simp,fun h=>CV.length v .ref cs h c⟩
 |.nils,v,cs,y,ids,l,j,h,c,d,i=>⟨[],rfl,.nil,by simp,fun h=>CV.length v (.sl .unit) cs h c⟩
 |.any,v,cs,y,ids,l,j,h,c,d,i=>⟨[],rfl,.nil,by simp,fun h=>by simp [ZgJ]at h⟩
 |.agg pl,v,cs,y,ids,l,j,h,c,d,i=>by
  cases v with
  |agg vs=>
   simp only[Jp]at h;simp only[CV]at c;obtain⟨js,m,n,q,s⟩:=Zia u x pl vs cs y ids l j h c d i
   exact⟨js,m,n,q,fun _=>s⟩
  |_=>simp [Jp,Zb]at h
 |.fn f pl,v,cs,y,ids,l,j,h,c,d,i=>by
  cases v with
  |fn f' vs=>
   simp only[Jp,ZJ,Zb,ZP,Z6]at h;obtain⟨M,h⟩:=h;have M:=Vl M;subst M;simp only[CV]at c;obtain⟨Q,rfl,c⟩:=c;obtain⟨js,m,n,q,_⟩:=Zia u x pl vs Q y ids l j h c d i
   exact⟨js,⟨Q,rfl,m⟩,n,q,fun _=>rfl⟩
  |_=>simp [Jp,Zb]at h
theorem Zia(u:RH B H w g ow)(x:∀b,g.I b->I b):∀(pl:Pats) (v:Zo) (cs:List Value) (y:We pl) (ids:ZF) (l j:List Nat),(ZaS pl v).run H l=Ua ((y,ids),j)->Z9 w g v cs->(∀b,ZL H ow ids.br b->I b)->ids.tk.Nodup->
 ∃js,XE w I pl y js cs/\js.Nodup/\(∀b∈js,ZL H ow ids.tk b)/\cs.length=pl.sz
 |.nil,.nil,cs,y,ids,l,j,h,c,d,_=>by
  simp only[Z9]at c;subst c
  exact⟨[],rfl,.nil,by simp,rfl⟩
 |.cons p pl,.cons v vs,cs,y,ids,l,j,h,c,d,i=>by
  simp only[ZaS,ZJ,Z0,Zf,Zb,ZP,Z6,Va]at h;obtain⟨L,⟨x1,S⟩,m1,m,⟨x2,U⟩,m2,n,⟨rfl,rfl⟩,_⟩:=h;simp only[Z9]at c;obtain⟨X,Y,rfl,q,s⟩:=c;have O:(S.tk++U.tk).Nodup:=i;obtain⟨n1,n2,n3⟩:=Vh.1 O;obtain⟨V,Z,h6,R,h8⟩:=Zmm u x p v X x1 S _ _ m q (fun b z=>d b (Ws (fun _ h=>by simp [ZF.app,h]) z)) n1;obtain⟨W,h9,C,A,D⟩:=Zia u x pl vs Y x2 U _ _ n s (fun b z=>d b (Ws (fun _ h=>by simp [ZF.app,h]) z)) n2;have N:=h8 L;refine⟨V++W,⟨V,W,rfl,by rw[Vxa N];exact Z,by rw[Vya N];exact h9⟩,Vh.2 ⟨h6,C,fun b z b' K e=>?_⟩,fun b z=>?_,by rw[Vj,N,D];rfl⟩
  ·subst e;obtain⟨id,G,J⟩:=Hn u (R b z) (A b K);exact n3 id G id J rfl
  ·rcases Vi.1 z with z|z
   ·exact Ws (fun _ h=>by simp [ZF.app,h]) (R b z)
   ·exact Ws (fun _ h=>by simp [ZF.app,h]) (A b z)
 |.nil,.cons _ _,_,_,_,_,_,h,_,_,_=>by simp [ZaS,Zb]at h
 |.cons _ _,.nil,_,_,_,_,_,h,_,_,_=>by simp [ZaS,Zb]at h
end
theorem Zud:∀(p:Pat) (l:Zo),p.back=Uc->Jp p (.tup l)=.fail
 |.own _ Uc,_,_=>rfl
 |.own _ Ud,_,h=>by simp [Pat.back]at h
 |.var _ _,_,_=>rfl
 |.map _ _,_,_=>rfl
 |.rows _ Uc,_,_=>rfl
 |.rows _ Ud,_,h=>by simp [Pat.back]at h
 |.mrows _ _,_,_=>rfl
 |.it _ _,_,h=>by simp [Pat.back]at h
 |.bld _ _ Uc,_,_=>rfl
 |.bld _ _ Ud,_,h=>by simp [Pat.back]at h
 |.fnd _ _ _ _,_,_=>rfl
 |.owo _,_,h=>by simp [Pat.back]at h
 |.agg _,_,_=>rfl
 |.fn _ _,_,_=>rfl
 |.pd _,_,h=>by simp [Pat.back]at h
 |.ro _,_,h=>by simp [Pat.back]at h
 |.nilr,_,h=>by simp [Pat.back]at h
 |.nils,_,h=>by simp [Pat.back]at h
 |.any,_,h=>by simp [Pat.back]at h
theorem Zfk(t:RH B H w g ow)(J:∀b,g.I b->I b){w0:World}{I0:Nat->Prop} :∀(pl:Pats) (n:Nat) (d:List Value) (x:Ks pl) (O:List Nat) (y:We pl) (ids:ZF) (l Q:List Nat),(ZbZ pl (ZdE F pl n)).run H l=Ua ((y,ids),Q)->
 pl.wf=Uc->Js w0 I0 pl x O d->(∀k v,k+n∈XK pl n->d[k]? =Ua v->VR w g (F (k+n)) v)->(∀b,ZL H ow ids.br b->I b)->ids.tk.Nodup->∃js,Hw w I pl y js d/\js.Nodup/\ ∀b∈js,ZL H ow ids.tk b
 |.nil,n,d,x,O,y,ids,l,Q,h,_,N,_,s,_=>by
  obtain⟨rfl,rfl⟩:=N
  exact⟨[],rfl,.nil,by simp⟩
 |.cons p pl,n,d,x,O,y,ids,l,Q,h,hw,N,V,s,W=>by
  obtain⟨Z,S,v,r,rfl,rfl,h1,T⟩:=N
  have i:pl.wf=Uc/\(p=.any\/p.noAny=Uc):=by
   cases p<;>simp only[Pats.wf,Vf]at hw<;>first|grind|grind
  have j:∀k v,k+(n+1)∈XK pl (n+1)->r[k]? =Ua v->VR w g (F (k+(n+1))) v:=fun k v' hk a4=>by
   have:=V (k+1) v' (by simp only[XK,Vi];grind) (by grind)
   grind
  cases c:p.back with
  |true=>
   simp only[ZdE,ZbZ,c,Ze,Z0,Zf,Va]at h;obtain⟨⟨x1,X⟩,m1,z,⟨R,u⟩,m2,A,⟨rfl,rfl⟩,_⟩:=h;have L:(X.tk++u.tk).Nodup:=W;obtain⟨n1,n2,n3⟩:=Vh.1 L;have m:=V 0 v (by simp [XK,c]) rfl;rw[Nat.zero_add]at m
   have G:CV w g (F n) v.cells.toList:=by refine(m.to1 fun l e=>?_).1;rw[e,Zud p l c]at z;simp [Zb]at z
   obtain⟨Y,h5,h6,U,_⟩:=Zmm t J p (F n) _ x1 X _ _ z G (fun b c=>s b (Ws (fun _ h=>by simp [ZF.app,h]) c)) n1;obtain⟨q,C,D,f⟩:=Zfk t J pl (n+1) r x.2 S R u _ _ A i.1 T j (fun b c=>s b (Ws (fun _ h=>by simp [ZF.app,h]) c)) n2;refine⟨Y++q,⟨Y,q,v,r,rfl,rfl,h5,C⟩,Vh.2 ⟨h6,D,fun b c b' K e=>?_⟩,fun b c=>?_⟩
   ·subst e;obtain⟨id,a0,a3⟩:=Hn t (U b c) (f b K)
    grind
   ·rcases Vi.1 c with c|c
    ·exact Ws (fun _ h=>by simp [ZF.app,h]) (U b c)
    ·exact Ws (fun _ h=>by simp [ZF.app,h]) (f b c)
  |false=>
   simp only[ZdE,ZbZ,c,Zd,Z0,Zf,Va]at h;obtain⟨⟨R,u⟩,m2,A,⟨rfl,rfl⟩,_⟩:=h;obtain⟨q,C,D,f⟩:=Zfk t J pl (n+1) r x.2 S R u _ _ A i.1 T j s W;refine⟨q,⟨[],q,v,r,rfl,rfl,?_,C⟩,D,f⟩;rcases i.2 with rfl|M
   ·rfl
   ·exact Zi3 p _ _ x.1 Z c M h1.1
end
end Tr
end
section
namespace Tr
open Go
theorem RH.revive{B:Z1}{H:AH}{w:World}{g:Gh}{ow:Nat->Nat->Prop}(h:RH B H w g ow){id:Nat}{o:K1}{J:Nat->Prop}(r:g.K id)
 (s:∀b,J b->¬g.I b/\b<w.heap.size/\(B.own0 b\/B.w0.heap.size<=b)/\ ∀j,H j≠Ub->¬ow j b) (t:ORel w g J id o):RH B (ZY H id (Ua o)) w g (Xd ow id J) where
 objs:=fun k q e=>by
  by_cases c:k=id
  ·subst c;rw[XC]at e;cases e;rw[JZ];grind
  ·rw[Kt c]at e;rw[W4 c];exact h.objs k q e
 dist:=fun k p n i f l m=>by
  by_cases c:k=id<;>by_cases d:p=id
  ·omega
  ·subst c;rw[Kt d]at f;rw[JZ]at l;rw[W4 d]at m
   grind
  ·subst d;rw[Kt c]at i;rw[JZ]at m;rw[W4 c]at l
   grind
  ·rw[Kt c]at i;rw[Kt d]at f;rw[W4 c]at l;rw[W4 d]at m;exact h.dist k p n i f l m
 sep:=fun k n i f=>by
  by_cases c:k=id
  ·subst c;rw[JZ]at f
   grind
  ·rw[Kt c]at i;rw[W4 c]at f;exact h.sep k n i f
 ilt:=h.ilt
 inew:=h.inew
 os:=h.os
 tape:=h.tape
 output:=h.output
 size:=h.size
 kept:=h.kept
theorem RH.call{B:Z1}{H:AH}{w w' :World}{g:Gh}{ow:Nat->Nat->Prop}(h:RH B H w g ow){js:List Nat}{J:Nat->Prop}
 (c:∀b,b<w.heap.size->b ∉ js->w'.heap[b]? =w.heap[b]?) (s:w.heap.size<=w'.heap.size) (n:w'.os=w.os) (d:w'.tape=w.tape) (i:YL B.pl w' w)
 (q:∀b∈js,¬g.I b/\(B.own0 b\/B.w0.heap.size<=b)/\ ∀id,H id≠Ub->¬ow id b)
 (p:∀b,J b->b<w'.heap.size/\(B.I0 b\/B.own0 b\/B.w0.heap.size<=b)/\ ∀id,H id≠Ub->¬ow id b):RH B H w' (g.grow J) ow:=by
 have l:Km g.I w w' :=fun b f=>c b (h.ilt b f) (by grind)
 have e:RH B H w' g ow:= {
  objs:=fun k o m=>⟨(h.objs k o m).1,(h.objs k o m).2.mono l (.refl g) (h.objs k o m).1 rfl fun b f=>by
   have r:H k≠none:=by grind
   exact c b (h.sep k b r f).2.1 (by grind)⟩
  dist:=h.dist
  sep:=fun k b e j=>by have:=h.sep k b e j;grind
  ilt:=fun b f=>by have:=h.ilt b f;omega
  inew:=h.inew
  os:=n.trans h.os
  tape:=d.trans h.tape
  output:=i.trans h.output
  size:=by have:=h.size;omega
  kept:=fun b e j=>by rw[c b (by have:=h.size;omega) (by grind)];exact h.kept b e j}
 exact e.grow p
theorem Zuh{H:AH}{t:Ty}{v:AV}{x:List (List (El t))}{ids l e:List Nat}(b:(YC t v).run H l=Ua ((x,ids),e)):∀id∈ids,H id≠none:=by
 unfold YC at b;split at b
 ·rw[ZX]at b;split at b
  ·rename_i d;simp only[Zy,Zf,Va]at b;obtain⟨_,_,⟨_,rfl⟩,_⟩:=b;intro id c;simp only[Vg]at c;subst c;rw[d];simp
  ·simp [Zb]at b
 ·simp only[Zf,Va]at b;obtain⟨⟨_,rfl⟩,_⟩:=b;simp
 ·simp [Zb]at b
theorem Zmo{H:AH}{lb:Ty}{v:AV}{x:List (El (.pn lb))}{ids l e:List Nat}(b:(Dl lb v).run H l=Ua ((x,ids),e)):∀id∈ids,H id≠none:=by
 unfold Dl at b;split at b
 ·rw[ZX]at b;split at b
  ·rename_i d;simp only[Zy,Zf,Va]at b;obtain⟨_,_,⟨_,rfl⟩,_⟩:=b;intro id c;simp only[Vg]at c;subst c;rw[d];simp
  ·rename_i d;simp only[Zy,Zf,Va]at b;obtain⟨_,_,⟨_,rfl⟩,_⟩:=b;intro id c;simp only[Vg]at c;subst c;rw[d];simp
  ·simp [Zb]at b
 ·simp only[Zf,Va]at b;obtain⟨⟨_,rfl⟩,_⟩:=b;simp
 ·simp [Zb]at b
theorem Zuf{H:AH}{t:Ty}{v:AV}{x:List (El t)}{ids l e:List Nat}(b:(Jq t v).run H l=Ua ((x,ids),e)):∀id∈ids,H id≠none:=by
 unfold Jq at b;split at b
 ·rw[ZX]at b;split at b
  ·rename_i d;simp only[Zy,Zf,Va]at b;obtain⟨_,_,⟨_,rfl⟩,_⟩:=b;intro id c;simp only[Vg]at c;subst c;rw[d];simp
  ·simp [Zb]at b
 ·rw[ZX]at b;split at b
  ·rename_i d;simp only[Zy,Zf,Va]at b;obtain⟨_,_,⟨_,rfl⟩,_⟩:=b;intro id c;simp only[Vg]at c;subst c;rw[d];simp
  ·simp [Zb]at b
 ·simp only[Zf,Va]at b;obtain⟨⟨_,rfl⟩,_⟩:=b;simp
 ·simp [Zb]at b
mutual
theorem ZkU{H:AH} :∀(p:Pat) (v:AV) (x:K2 p) (ids:ZF) (l d:List Nat),(ext p v).run H l=Ua ((x,ids),d)->∀id∈ids.tk,H id≠Ub
 |.pd t,v,x,ids,l,d,h=>by
  simp only[ext,Z0,Zf,Va]at h;obtain⟨_,_,_,⟨_,rfl⟩,_⟩:=h
  simp
 |.own t k,v,x,ids,l,d,h=>by
  simp only[ext,Z0,Zf,Va]at h;obtain⟨⟨n,j⟩,m,c,⟨_,rfl⟩,_⟩:=h;unfold Jq at c;split at c
  ·rw[ZX]at c;split at c
   ·rename_i i;simp only[Zy,Zf,Va]at c;obtain⟨_,_,⟨_,rfl⟩,_⟩:=c;intro id b;simp only[Vg]at b;subst b;rw[i];simp
   ·simp [Zb]at c
  ·rw[ZX]at c;split at c
   ·rename_i i;simp only[Zy,Zf,Va]at c;obtain⟨_,_,⟨_,rfl⟩,_⟩:=c;intro id b;simp only[Vg]at b;subst b;rw[i];simp
   ·simp [Zb]at c
  ·simp only[Zf,Va]at c;obtain⟨⟨_,rfl⟩,_⟩:=c;simp
  ·simp [Zb]at c
 |.var t p,v,x,ids,l,d,h=>by
  simp only[ext]at h;split at h
  ·rw[ZX]at h;split at h
   ·rename_i i;simp only[ZJ,Z0,Zf,Zb,ZP,Z6,Va]at h;obtain⟨_,⟨n,j⟩,m,c,⟨_,rfl⟩,_⟩:=h;intro id b;rcases Vt.1 b with rfl|b
    ·rw[i];simp
    ·exact ZkU p _ n j _ _ c id b
   ·simp [Zb]at h
  ·simp [Zb]at h
 |.ro t,v,x,ids,l,d,h=>by
  simp only[ext]at h;split at h
  ·rw[ZX]at h;split at h
   ·simp only[Zy,Zf,Va]at h;obtain⟨_,_,⟨_,rfl⟩,_⟩:=h;simp
   ·simp [Zb]at h
  ·simp only[Zy,Zf,Va]at h;obtain⟨_,_,⟨_,rfl⟩,_⟩:=h;simp [ZF.none]
  ·simp [Zb]at h
 |.map r D,v,x,ids,l,d,h=>by
  simp only[ext]at h;split at h
  ·rw[ZX]at h;split at h
   ·rename_i i;simp only[Zy,Zf,Va]at h;obtain⟨_,_,⟨_,rfl⟩,_⟩:=h;intro id b;simp only[Vg]at b;subst b;rw[i];simp
   ·simp [Zb]at h
  ·simp [Zb]at h
 |.it r D,v,x,ids,l,d,h=>by
  simp only[ext]at h;split at h
  ·rw[ZX]at h;split at h
   ·rename_i i;simp only[Zy,Zf,Va]at h;obtain⟨_,_,⟨_,rfl⟩,_⟩:=h;intro id b;simp only[Vg]at b;subst b;rw[i];simp
   ·simp [Zb]at h
  ·simp [Zb]at h
 |.rows t k,v,x,ids,l,d,h=>by
  simp only[ext,Z0,Zf,Va]at h;obtain⟨⟨n,j⟩,m,c,⟨_,rfl⟩,_⟩:=h;unfold YC at c;split at c
  ·rw[ZX]at c;split at c
   ·rename_i i;simp only[Zy,Zf,Va]at c;obtain⟨_,_,⟨_,rfl⟩,_⟩:=c;intro id b;simp only[Vg]at b;subst b;rw[i];simp
   ·simp [Zb]at c
  ·simp only[Zf,Va]at c;obtain⟨⟨_,rfl⟩,_⟩:=c;simp
  ·simp [Zb]at c
 |.mrows r t,v,x,ids,l,d,h=>by
  simp only[ext]at h;split at h
  ·rw[ZX]at h;split at h
   ·rename_i i;simp only[Zy,Zf,Va]at h;obtain⟨_,_,⟨_,rfl⟩,_⟩:=h;intro id b;simp only[Vg]at b;subst b;rw[i];simp
   ·simp [Zb]at h
  ·simp [Zb]at h
 |.bld T e k,v,x,ids,l,d,h=>by
  simp only[ext]at h;split at h
  ·rw[ZX]at h;split at h
   ·rename_i i;simp only[ZJ,Zf,Zb,ZP,Z6,Vf,Va]at h;obtain⟨_,⟨_,rfl⟩,_⟩:=h;intro id b;simp only[Vg]at b;subst b;rw[i];simp
   ·simp [Zb]at h
  ·simp [Zb]at h
 |.owo lb,v,x,ids,l,d,h=>by
  simp only[ext,Z0,Zf,Va]at h;obtain⟨⟨n,j⟩,m,c,⟨_,rfl⟩,_⟩:=h
  exact Zmo c
 |.fnd tn tq lt lb,v,x,ids,l,d,h=>by
  simp only[ext]at h;split at h
  ·rw[ZX]at h;split at h
   ·rename_i i;simp only[Zy,Zf]at h;obtain⟨_,_,⟨_,rfl⟩,_⟩:=h;intro id b;simp only[Vg]at b;subst b;rw[i];simp
   ·rename_i i;simp only[ZJ,Z0,Zy,Zf,Zb,ZP,Z6,Kj,Va]at h;obtain⟨rfl,⟨X,j⟩,C,J,⟨Y,q⟩,m2,K,⟨Z,N⟩,S,L,⟨y4,O⟩,U,s,⟨y5,Q⟩,V,u,⟨y6,R⟩,W,y,z,M,⟨_,rfl⟩,_⟩:=h;intro id b;simp only[Vt,Vi]at b;rcases b with rfl|b|b|b
    ·rw[i];simp
    ·exact Zuh s id b
    ·exact Zmo u id b
    ·exact Zuf y id b
   ·simp [Zb]at h
  ·simp [Zb]at h
 |.agg pl,v,x,ids,l,d,h=>by
  simp only[ext]at h;split at h
  ·exact RM pl _ x ids l d h
  ·simp only[ZJ,Zb,ZP,Z6]at h;exact RM pl _ x ids l d h.2
  ·simp [Zb]at h
 |.fn f pl,v,x,ids,l,d,h=>by
  simp only[ext]at h;split at h
  ·simp only[ZJ,Zb,ZP,Z6]at h;exact RM pl _ x ids l d h.2
  ·simp [Zb]at h
 |.nilr,v,x,ids,l,d,h=>by
  simp only[ext]at h;split at h
  ·simp only[Zf,Va]at h;obtain⟨⟨_,rfl⟩,_⟩:=h;simp [ZF.none]
  ·simp [Zb]at h
 |.nils,v,x,ids,l,d,h=>by
  simp only[ext]at h;split at h
  ·simp only[Zf,Va]at h;obtain⟨⟨_,rfl⟩,_⟩:=h;simp [ZF.none]
  ·simp [Zb]at h
 |.any,v,x,ids,l,d,h=>by simp only[ext,Zf,Va]at h;obtain⟨⟨_,rfl⟩,_⟩:=h;simp [ZF.none]
theorem RM{H:AH} :∀(pl:Pats) (v:Zo) (x:Ks pl) (ids:ZF) (l d:List Nat),(WE pl v).run H l=Ua ((x,ids),d)->∀id∈ids.tk,H id≠Ub
 |.nil,.nil,x,ids,l,d,h=>by
  simp only[WE,Zf,Va]at h;obtain⟨⟨_,rfl⟩,_⟩:=h
  simp [ZF.none]
 |.cons p pl,.cons v vs,x,ids,l,d,h=>by
  simp only[WE,Z0,Zf,Va]at h;obtain⟨⟨n,j⟩,C,c,⟨G,q⟩,m2,A,⟨_,rfl⟩,_⟩:=h;intro id b;rcases Vi.1 b with b|b
  ·exact ZkU p v n j _ _ c id b
  ·exact RM pl vs G q _ _ A id b
 |.nil,.cons _ _,_,_,_,_,h=>by simp [WE,Zb]at h
 |.cons _ _,.nil,_,_,_,_,h=>by simp [WE,Zb]at h
end
def Zfw:Option K1->Option Nat
 |some (.rows _ _ v _)=>Ua v
 |some (.mrows _ _ _ v _)=>Ua v
 |_=>Ub
def WD(B:Z1)(H:AH)(w:World)(g:Gh)(ow:Nat->Nat->Prop)(js:List Nat)(n e:Nat)(tk:List Nat)(H' :AH):Prop:=
 ∃d c,g.Le d/\Hy tk g d/\RH B H' w d c/\(∀id,d.K id->g.K id\/(n<=id/\id<e))/\(∀id b,H' id≠Ub->c id b->(H id≠Ub/\ow id b)\/b∈js)/\(∀id,H' id≠Ub->H id≠Ub\/id∈tk\/(n<=id/\id<e))
theorem WD.none{B:Z1}{H:AH}{w:World}{g:Gh}{ow:Nat->Nat->Prop}(b:RH B H w g ow)(js:List Nat)(n:Nat)(tk:List Nat):WD B H w g ow js n n tk H:=
 ⟨g,ow,.refl g,.refl tk g,b,by grind,by grind,by grind⟩
theorem RH.revive1{B:Z1}{H:AH}{w:World}{g:Gh}{ow:Nat->Nat->Prop}(h:RH B H w g ow){js:List Nat}{n id:Nat}{o:K1}(f:g.K id)(j:WW B H w g ow js)(l:ORel w g (· ∈js) id o){tk:List Nat}(m:id∈tk):
 WD B H w g ow js n n tk (ZY H id (Ua o)):=by
 refine⟨g,Xd ow id (· ∈js),.refl g,.refl tk g,h.revive f (fun b i=>j.free b i) l,by grind,fun k b d e=>?_,fun k d=>?_⟩
 ·by_cases c:k=id
  ·subst c;rw[JZ]at e;grind
  ·rw[Kt c]at d;rw[W4 c]at e;grind
 ·by_cases c:k=id
  ·grind
  ·rw[Kt c]at d;grind
theorem RH.revive2{B:Z1}{H:AH}{w:World}{g:Gh}{ow:Nat->Nat->Prop}(m:RH B H w g ow){js:List Nat}{n id:Nat}{o:K1}(l:g.K id)(j:g.ver id<n)(e:WW B H w g ow js){r:(q:Ty)->El q->Value}(p:ORel w (g.bump id n r) (· ∈js) id o){tk:List Nat}(s:id∈tk):
 WD B H w g ow js n n tk (ZY H id (Ua o)):=by
 refine⟨g.bump id n r,Xd ow id (· ∈js),Gh.le_bump j,⟨rfl,fun k _ h=>Zg (by grind)⟩,
  m.bump l j (by simp) (Vd _) rfl rfl ⟨rfl,Vd _⟩ (by simp) (fun b d=>⟨(e.free b d).1,(e.free b d).2.1,(e.free b d).2.2.1,fun k _=>(e.free b d).2.2.2 k⟩) p,fun _ h=>.inl h,fun k b f i=>?_,fun k f=>?_⟩
 ·by_cases c:k=id
  ·subst c;rw[JZ]at i;grind
  ·rw[Kt c]at f;rw[W4 c]at i;grind
 ·by_cases c:k=id
  ·grind
  ·rw[Kt c]at f;grind
theorem J9.back{w:World}{g:Gh}{J:Nat->Prop}{t:Ty}{xs:List (List (El t))}{v:Value}(h:J9 w g.I J t xs v){id n:Nat}(C:g.ty id=.sl t)(R:g.slv id=v)
 (d:(v=.slice Ub 0 0/\g.blk id=Ub)\/ ∃b len cap,v=.slice (Ua ⟨b,0,Ub⟩) len cap/\g.blk id=Ua b):∃r,ORel w (g.bump id n r) J id (.rows t xs n Ub):=by
 obtain⟨z,⟨V,m⟩,K⟩:=h;have f:(g.bump id n (RZ z)).row id=RZ z:=by simp [Gh.bump]
 refine⟨RZ z,C,by simp [Gh.bump],?_,?_⟩
 ·rw[f];refine⟨fun i x q Q=>?_,fun i j x y c q S A s u p=>?_,fun i x c q _ p=>?_⟩
  ·rw[ZaX];exact m.rd i x q Q
  ·rw[ZaX]at p⊢;exact m.ds i j x y c q S A s u p
  ·rw[ZaX]at p;show g.blk id≠Ua c
   grind
 ·rw[f];rcases K with ⟨rfl,rfl⟩|⟨b,cap,cs,e,L,T,D,M,N,O,U⟩
  ·rcases d with ⟨_,d⟩|⟨G,len,k,d,l⟩
   ·exact .inl ⟨rfl,d,R⟩
   grind
  ·rcases d with ⟨d,_⟩|⟨G,len,k,d,l⟩
   ·grind
   ·rw[D]at d;cases d;exact .inr ⟨b,cap,cs,e,l,L,by rw[<-D];assumption,M,N,O,by assumption⟩
theorem Ha.back{w:World}{g:Gh}{J:Nat->Prop}{d t:Ty}{m:List (El d×List (El t))}{b:Nat}(h:Ha w g.I J d t m (.map (Ua b))){id n:Nat}(i:g.ty id=.sl t)(x:g.blk id=Ua b):
 ∃r,ORel w (g.bump id n r) J id (.mrows d t m n Ub):=by
 obtain⟨row,y,es,clock,l,p,q,f,z,s,A,u⟩:=h;cases l;have c:(g.bump id n (rowK row)).row id d=row:=by funext k;simp [Gh.bump,Zm9]
 refine⟨rowK row,i,by simp [Gh.bump],?_,s,?_,b,es,clock,x,p,q,f,?_⟩
 ·rw[c];show RF w g.I J t (g.blk id) row _ Ub;grind
 ·grind
 ·rw[c];exact u.mono fun kv e j=>⟨⟨by simp only[CV];exact j.1.1,.inr (by simpa [AV.isAgg] using j.1.2)⟩,j.2⟩
mutual
theorem Zij:∀(p:Pat) (v:AV) (y:H3 p) (n:Nat),n<=(Ki p v y n).2
 |.own t Uc,v,y,n=>by cases v<;>simp [Ki]
 |.own t Ud,v,y,n=>by cases v<;>simp [Ki]
 |.var t p,v,y,n=>by
  cases v with
  |ptr id path=>
   cases path with
   |nil=>have:=(Yd p y n).1;simpa only[Ki] using this
   |cons a l=>simp [Ki]
  |_=>simp [Ki]
 |.map k t,v,y,n=>by cases v<;>simp [Ki]
 |.rows t Uc,v,y,n=>by cases v<;>simp [Ki]
 |.rows t Ud,v,y,n=>by cases v<;>simp [Ki]
 |.mrows k t,v,y,n=>by cases v<;>simp [Ki]
 |.it k t,v,y,n=>by cases v<;>simp [Ki]
 |.owo _,v,y,n=>by cases v<;>simp [Ki]
 |.fnd _ _ _ _,v,y,n=>by
  cases v with
  |ptr id path=>cases path<;>simp [Ki]
  |_=>simp [Ki]
 |.bld _ _ Ud,v,y,n=>by cases v<;>simp [Ki]
 |.bld T e Uc,v,y,n=>by
  cases v with
  |ptr id path=>cases path<;>simp [Ki]
  |_=>simp [Ki]
 |.agg l,v,y,n=>by
  cases v with
  |agg vs=>simpa only[Ki] using Zb5 l vs y n
  |_=>simp [Ki]
 |.fn f l,v,y,n=>by
  cases v with
  |fn b vs=>simpa only[Ki] using Zb5 l vs y n
  |_=>simp [Ki]
 |.pd t,v,y,n=>by cases v<;>simp [Ki]
 |.ro t,v,y,n=>by cases v<;>simp [Ki]
 |.nilr,v,y,n=>by cases v<;>simp [Ki]
 |.nils,v,y,n=>by cases v<;>simp [Ki]
 |.any,v,y,n=>by cases v<;>simp [Ki]
theorem Zb5:∀(l:Pats) (v:Zo) (y:We l) (n:Nat),n<=(JQ l v y n).2
 |.nil,v,y,n=>by cases v<;>simp [JQ]
 |.cons p l,.nil,y,n=>by simp [JQ]
 |.cons p l,.cons v vs,y,n=>by have c:=Zij p v y.1 n;have d:=Zb5 l vs y.2 (Ki p v y.1 n).2;simp only[JQ];omega
end
section
variable {B B0:Z1}{H0:AH}{w0 w:World}{g0:Gh}{ow0:Nat->Nat->Prop}
theorem WW.later{H H' :AH}{g g' :Gh}{ow c:Nat->Nat->Prop}{js ks:List Nat}(h:WW B H w g ow (js++ks))(d:g'.I=g.I)(e:∀id b,H' id≠Ub->c id b->(H id≠Ub/\ow id b)\/b∈js):WW B H' w g' c ks:=h.after d e
mutual
theorem ZmX(L:RH B0 H0 w0 g0 ow0):∀(p:Pat) (v:AV) (cs:List Value) (x:K2 p) (ids:ZF) (l N:List Nat),(ext p v).run H0 l=Ua ((x,ids),N)->CV w0 g0 v cs->p.noAny=Uc->ids.tk.Nodup->
 ∀{H:AH}{g:Gh}{ow:Nat->Nat->Prop} (_:RH B H w g ow) (_:g0.Le g) (y:H3 p) (js:List Nat) (n:Nat),PO w g.I p y js cs->WW B H w g ow js->(∀id∈ids.tk,H id=Ub)->(∀id,n<=id->id<(Ki p v y n).2->¬g.K id)->(∀id∈ids.tk,∀u,Zfw (H0 id)=Ua u->g.ver id<n)->
  WD B H w g ow js n (Ki p v y n).2 ids.tk (Zp H (Ki p v y n).1)
 |.own t Uc,v,cs,x,ids,l,N,h,C,_,_,H,g,ow,s,j,y,js,n,J,D,O,G,A=>by
  cases v with
  |vw id=>
   simp only[ext,Jq,Z0,Zf,Va]at h;obtain⟨⟨x1,i1⟩,m,S,⟨rfl,rfl⟩,_⟩:=h;rw[ZX]at S;split at S
   ·rename_i t' xs X;simp only[Zy,Zf,Va]at S;obtain⟨z,hz,⟨rfl,rfl⟩,_⟩:=S;obtain⟨he,rfl⟩:=KE hz;cases he;obtain⟨d,M,hO⟩:=L.objs id _ X;simp only[CV]at C;obtain⟨_,rfl,_⟩:=C;simp only[Ki,Zp];have a6:=(j.ty _ d).trans M;rcases J with ⟨rfl,rfl,i⟩|⟨b,cap,cells,e,css,rfl,i,h2,h3,Q,W,h6⟩
    ·simp only[Xe,and_true]at i;refine s.revive1 (o:=.vec _ []) (j.K _ d) D ⟨a6,.inl ⟨rfl,?_,(j.slv _ d).trans i⟩⟩ (by simp);rcases hO with ⟨_,R,_⟩|⟨b,cap,cs,e,css,_,_,hs,_⟩
     ·exact(j.blk _ d).trans R
     ·rw[i]at hs;cases hs
    ·simp only[Xe,and_true]at i;rcases hO with ⟨_,_,hs⟩|⟨b',e7,cs',e',e9,R,_,hs,_⟩
     ·rw[i]at hs;cases hs
     ·rw[i]at hs;simp only[Vx.injEq,ZB,Addr.mk.injEq,and_true]at hs;obtain⟨rfl,_,rfl⟩:=hs;exact s.revive1 (o:=.vec _ y) (j.K _ d) D ⟨a6,.inr ⟨b,cap,cells,e,css,(j.blk _ d).trans R,by simp,(j.slv _ d).trans i,h2,h3,Q,W,h6⟩⟩ (by simp)
   ·simp [Zb]at S
  |_=>exact WD.none s js n ids.tk
 |.own t Ud,v,cs,x,ids,l,N,h,C,_,_,H,g,ow,s,j,y,js,n,J,D,O,G,A=>by
  have:Ki (.own t Ud) v y n=([],n):=by cases v<;>rfl
  rw[this];exact WD.none s js n ids.tk
 |.var t p,v,cs,x,ids,l,N,h,C,V,a2,H,g,ow,s,j,y,js,n,J,D,O,G,A=>by
  cases v with
  |ptr id path=>
   cases path with
   |nil=>
    simp only[ext]at h;rw[ZX]at h;split at h
    ·rename_i t' c X;simp only[ZJ,Z0,Zf,Zb,ZP,Z6,Vf,Kj,Va]at h;obtain⟨⟨rfl,d3⟩,⟨x1,i1⟩,m,S,⟨rfl,rfl⟩,_⟩:=h;obtain⟨d,M,f2,b,cells,e,R,d5,hh,f5,f3⟩:=L.objs id _ X;simp only[CV]at C;obtain⟨_,o,t2,b',h3,Q,rfl⟩:=C;rw[Wg]at h3;cases h3;rw[R]at Q;cases Q;obtain⟨_,b2,d9,a0,e2,rfl,i,W,h6,h7⟩:=J;simp only[Xe,Vfb.injEq,ZB,Addr.mk.injEq,and_true]at i;obtain rfl:=i;simp only[Ki];have hn:=(Yd p y n).1;obtain⟨g1,b7,l1,Z,r1,c1,k1,o1⟩:=Zc9 p s y d9 a0.toList n h7 (D.sub (Vwa _ _)) (fun id h h' =>G id h (by simpa only[Ki] using h'));have c8:g1.K id:=l1.K _ (j.K _ d)
     have d2:WW B (Zp H (Wd (inj p y n).2.1)) w g1 b7 [b]:=by
      obtain⟨h8,h9⟩:=Vr.1 D.nodup;refine⟨by simp,fun b' b1=>?_⟩;simp only[Vg]at b1;subst b1;obtain⟨a1,a7,a3,b9⟩:=D.free b' (by simp);refine⟨by rw[Z.I];exact a1,a7,a3,fun id c4 c5=>?_⟩;rcases o1 id b' c4 c5 with ⟨a8,c6⟩|a8
      ·exact b9 id a8 c6
      ·exact h8 a8
     obtain⟨g2,a9,l2,i2,r2,k2,o2,t2⟩:=r1.revive1 (n:=n) (o:=.var t' (inj p y n).1) c8 d2
      ⟨(l1.ty _ (j.K _ d)).trans ((j.ty _ d).trans M),ZhF p t' y n d3,b,a0,e2,(l1.blk _ (j.K _ d)).trans ((j.blk _ d).trans R),by simp,W,h6,c1⟩ (tk:=id::i1.tk) (by simp)
     have c7:Zp H ((id,Ua (.var t' (inj p y n).1))::(inj p y n).2.1.map fun o=>(o.1,Ua o.2))=ZY (Zp H (Wd (inj p y n).2.1)) id (Ua (.var t' (inj p y n).1)):=by simp only[Zp];refine Zfn fun q hq=>?_;simp only[Vva]at hq;obtain⟨o,ho,rfl⟩:=hq;have:=(Yd p y n).2 o ho;intro e;exact G o.1 this.1 (by simpa only[Ki] using this.2) (by rw[show o.1=id from e];exact j.K _ d)
     rw[c7];refine⟨g2,a9,l1.trans l2,i2.after (Z.weak fun _ h=>by simp at h) l1,r2,fun k h=>?_,fun k b' h8 h9=>?_,fun k h8=>?_⟩
     ·rcases k2 k h with h|h
      ·exact k1 k h
      ·omega
     ·rcases o2 k b' h8 h9 with ⟨a1,a7⟩|a1
      ·rcases o1 k b' a1 a7 with a3|a3
       ·exact .inl a3
       ·exact .inr (by simp [a3])
      ·simp only[Vg]at a1;exact .inr (by simp [a1])
     ·rcases t2 k h8 with h9|h9|h9
      ·by_cases b3:H k=Ub
       ·right;right
        have:∃q∈Wd (inj p y n).2.1,q.1=k:=by
         by_cases hq:∃q∈Wd (inj p y n).2.1,q.1=k
         ·exact hq
         ·exfalso;apply h9;rw[Zdr fun q d7 e=>hq ⟨q,d7,e⟩];exact b3
        obtain⟨q,hq,rfl⟩:=this;simp only[Wd,Vva]at hq;obtain⟨o,ho,rfl⟩:=hq;exact(Yd p y n).2 o ho
       ·exact .inl b3
      ·exact .inr (.inl h9)
      ·omega
    ·simp [Zb]at h
   |cons a r=>
    have:Ki (.var t p) (.ptr id (a::r)) y n=([],n):=by rfl
    rw[this];exact WD.none s js n ids.tk
  |_=>exact WD.none s js n ids.tk
 |.map kt vt,v,cs,x,ids,l,N,h,C,_,_,H,g,ow,s,j,y,js,n,J,D,O,G,A=>by
  cases v with
  |mp id=>
   simp only[ext]at h;rw[ZX]at h;split at h
   ·rename_i k e m X;simp only[Zy,Zf,Va]at h;obtain⟨z,hz,⟨rfl,rfl⟩,_⟩:=h;obtain⟨he,rfl⟩:=KE hz;cases he;obtain⟨d,b,es,clock,R,d5,hh,_,f4⟩:=L.objs id _ X;simp only[CV]at C;obtain⟨_,b',Q,rfl⟩:=C;rw[R]at Q;cases Q;obtain⟨b2,b8,a5,rfl,i,W,d0,h6⟩:=J;simp only[Xe,Value.map.injEq,ZB,and_true]at i;obtain rfl:=i;simp only[Ki,Zp];exact s.revive1 (o:=.map _ _ y) (j.K _ d) D ⟨b,b8,a5,(j.blk _ d).trans R,by simp,W,d0,h6.mono fun kv e hx=>⟨⟨by simp only[CV];exact hx.1.1,.inr (by simpa [AV.isAgg] using hx.1.2)⟩,⟨by simp only[CV];exact hx.2.1,.inr (by simpa [AV.isAgg] using hx.2.2)⟩⟩⟩ (by simp)
   ·simp [Zb]at h
  |_=>exact WD.none s js n ids.tk
 |.it kt vt,v,cs,x,ids,l,N,h,C,_,_,H,g,ow,s,j,y,js,n,J,D,O,G,A=>by
  have:Ki (.it kt vt) v y n=([],n):=by cases v<;>rfl
  rw[this];exact WD.none s js n ids.tk
 |.rows t Uc,v,cs,x,ids,l,N,h,C,_,_,H,g,ow,s,j,y,js,n,J,D,O,G,A=>by
  cases v with
  |vw id=>
   simp only[ext,YC,Z0,Zf,Va]at h;obtain⟨⟨x1,i1⟩,m,S,⟨rfl,rfl⟩,_⟩:=h;rw[ZX]at S;split at S
   ·rename_i t' xs u X;simp only[Zy,Zf,Va]at S;obtain⟨z,hz,⟨rfl,rfl⟩,_⟩:=S;obtain⟨he,rfl⟩:=KE hz;cases he;obtain⟨d,M,_,_,hO⟩:=L.objs id _ X;simp only[CV]at C;obtain⟨_,rfl,_⟩:=C;obtain⟨v,i,Y⟩:=J;simp only[Xe,and_true]at i;simp only[Ki,Zp]
    obtain⟨r,hr⟩:=Y.back (n:=n) ((j.ty _ d).trans M) ((j.slv _ d).trans i) (by
     rcases hO with ⟨_,h3,Q⟩|⟨b,cap,cs',e,h3,_,Q,_⟩
     ·exact .inl ⟨i▸Q,(j.blk _ d).trans h3⟩
     ·exact .inr ⟨b,_,cap,i▸Q,(j.blk _ d).trans h3⟩)
    exact s.revive2 (j.K _ d) (A id (by simp) u (by rw[X];rfl)) D hr (by simp)
   ·simp [Zb]at S
  |_=>exact WD.none s js n ids.tk
 |.rows t Ud,v,cs,x,ids,l,N,h,C,_,_,H,g,ow,s,j,y,js,n,J,D,O,G,A=>by
  have:Ki (.rows t Ud) v y n=([],n):=by cases v<;>rfl
  rw[this];exact WD.none s js n ids.tk
 |.mrows kt t,v,cs,x,ids,l,N,h,C,_,_,H,g,ow,s,j,y,js,n,J,D,O,G,A=>by
  cases v with
  |mp id=>
   simp only[ext]at h;rw[ZX]at h;split at h
   ·rename_i k e m u X;simp only[Zy,Zf,Va]at h;obtain⟨z,hz,⟨rfl,rfl⟩,_⟩:=h;obtain⟨he,rfl⟩:=KE hz;cases he;obtain⟨d,M,_,_,_,_,b,es,clock,R,_,_,_⟩:=L.objs id _ X;simp only[CV]at C;obtain⟨_,b',Q,rfl⟩:=C;rw[R]at Q;cases Q;obtain⟨v,i,Y⟩:=J;simp only[Xe,and_true]at i;subst i;simp only[Ki,Zp];obtain⟨r,hr⟩:=Y.back (n:=n) ((j.ty _ d).trans M) ((j.blk _ d).trans R);exact s.revive2 (j.K _ d) (A id (by simp) u (by rw[X];rfl)) D hr (by simp)
   ·simp [Zb]at h
  |_=>exact WD.none s js n ids.tk
 |.fnd tn tq lt lb,v,cs,x,ids,l,N,h,C,_,_,H,g,ow,s,j,y,js,n,J,D,O,G,A=>by
  cases v with
  |ptr id path=>
   cases path with
   |nil=>
    have key:id∈ids.tk/\ ∃b,g0.K id/\g0.blk id=Ua b/\(g0.ty id=Jd tn tq lt lb\/g0.ty id=Yc tn tq lt lb):=by
     simp only[ext]at h;rw[ZX]at h;split at h
     ·rename_i X;simp only[Zy,Zf]at h;obtain⟨z,hz,⟨_,rfl⟩,_⟩:=h;obtain⟨he,rfl⟩:=KE hz;cases he;obtain⟨d,M,b,R,hm⟩:=L.objs id _ X;exact⟨by simp,b,d,R,M⟩
     ·rename_i X;simp only[ZJ,Z0,Zy,Zf,Zb,ZP,Z6,Kj,Va]at h;obtain⟨rfl,⟨y1,i1⟩,m1,e1,⟨y2,i2⟩,m2,e2,⟨y3,i3⟩,m3,e3,⟨y4,i4⟩,m4,e4,⟨y5,i5⟩,m5,e5,⟨y6,i6⟩,m6,e6,z,hz,⟨_,rfl⟩,_⟩:=h;obtain⟨d,M,_,b,cells,e,R,_⟩:=L.objs id _ X;exact⟨by simp,b,d,R,.inl M⟩
     ·simp [Zb]at h
    obtain⟨U,b,d,R,M⟩:=key;simp only[CV]at C;obtain⟨_,o',t',b',S,Q,rfl⟩:=C;rw[Wg]at S;cases S;rw[R]at Q;cases Q;obtain⟨b2,i,Y⟩:=J;simp only[Xe,Vfb.injEq,ZB,Addr.mk.injEq,and_true]at i;obtain rfl:=i;simp only[Ki,Zp]
    exact s.revive1 (o:=.fnd tn tq lt lb y) (j.K _ d) D ⟨M.imp (j.ty _ d).trans (j.ty _ d).trans,b,(j.blk _ d).trans R,Y⟩ U
   |cons a r=>
    have:Ki (.fnd tn tq lt lb) (.ptr id (a::r)) y n=([],n):=by rfl
    rw[this];exact WD.none s js n ids.tk
  |_=>exact WD.none s js n ids.tk
 |.owo lb,v,cs,x,ids,l,N,h,C,_,_,H,g,ow,s,j,y,js,n,J,D,O,G,A=>by
  have:Ki (.owo lb) v y n=([],n):=by cases v<;>rfl
  rw[this];exact WD.none s js n ids.tk
 |.bld T e Ud,v,cs,x,ids,l,N,h,C,_,_,H,g,ow,s,j,y,js,n,J,D,O,G,A=>by
  have:Ki (.bld T e Ud) v y n=([],n):=by cases v<;>rfl
  rw[this];exact WD.none s js n ids.tk
 |.bld T e Uc,v,cs,x,ids,l,N,h,C,_,_,H,g,ow,s,j,y,js,n,J,D,O,G,A=>by
  cases v with
  |ptr id path=>
   cases path with
   |nil=>
    simp only[ext]at h;rw[ZX]at h;split at h
    ·rename_i T' e' bs X;simp only[ZJ,Zf,Zb,ZP,Z6,Vf,Va]at h;obtain⟨_,⟨rfl,rfl⟩,_⟩:=h;obtain⟨d,b,R,hm⟩:=L.objs id _ X;simp only[CV]at C;obtain⟨_,o',t',b',S,Q,rfl⟩:=C;rw[Wg]at S;cases S;rw[R]at Q;cases Q;obtain⟨b2,i,Y⟩:=J;simp only[Xe,Vfb.injEq,ZB,Addr.mk.injEq,and_true]at i;obtain rfl:=i;simp only[Ki,Zp];exact s.revive1 (o:=.bld T e y) (j.K _ d) D ⟨b,(j.blk _ d).trans R,Y⟩ (by simp)
    ·simp [Zb]at h
   |cons a r=>
    have:Ki (.bld T e Uc) (.ptr id (a::r)) y n=([],n):=by rfl
    rw[this];exact WD.none s js n ids.tk
  |_=>exact WD.none s js n ids.tk
 |.agg pl,v,cs,x,ids,l,N,h,C,V,a2,H,g,ow,s,j,y,js,n,J,D,O,G,A=>by
  cases v with
  |agg vs=>
   simp only[ext]at h;simp only[CV]at C;simp only[PO]at J;simp only[Ki]at G⊢
   exact Zik L pl vs cs x ids l N h C (by simpa only[Pat.noAny] using V) a2 s j y js n J D O G A
  |_=>exact WD.none s js n ids.tk
 |.fn f pl,v,cs,x,ids,l,N,h,C,V,a2,H,g,ow,s,j,y,js,n,J,D,O,G,A=>by
  cases v with
  |fn f' vs=>
   simp only[ext,ZJ,Zb,ZP,Z6]at h;obtain⟨d1,h⟩:=h;obtain rfl:=Vl d1;simp only[CV]at C;obtain⟨cc,rfl,C⟩:=C;obtain⟨f1,i,J⟩:=J;simp only[Xe,and_true]at i;obtain rfl:=Zsx i;simp only[Ki]at G⊢
   exact Zik L pl vs cc x ids l N h C (by simpa only[Pat.noAny] using V) a2 s j y js n J D O G A
  |_=>exact WD.none s js n ids.tk
 |.pd t,v,cs,x,ids,l,N,h,C,_,_,H,g,ow,s,j,y,js,n,J,D,O,G,A=>by
  have:Ki (.pd t) v y n=([],n):=by cases v<;>rfl
  rw[this];exact WD.none s js n ids.tk
 |.ro t,v,cs,x,ids,l,N,h,C,_,_,H,g,ow,s,j,y,js,n,J,D,O,G,A=>by
  have:Ki (.ro t) v y n=([],n):=by cases v<;>rfl
  rw[this];exact WD.none s js n ids.tk
 |.nilr,v,cs,x,ids,l,N,h,C,_,_,H,g,ow,s,j,y,js,n,J,D,O,G,A=>by
  have:Ki .nilr v y n=([],n):=by cases v<;>rfl
  rw[this];exact WD.none s js n ids.tk
 |.nils,v,cs,x,ids,l,N,h,C,_,_,H,g,ow,s,j,y,js,n,J,D,O,G,A=>by
  have:Ki .nils v y n=([],n):=by cases v<;>rfl
  rw[this];exact WD.none s js n ids.tk
 |.any,v,cs,x,ids,l,N,h,C,_,_,H,g,ow,s,j,y,js,n,J,D,O,G,A=>by
  have:Ki .any v y n=([],n):=by cases v<;>rfl
  rw[this];exact WD.none s js n ids.tk
theorem Zik(L:RH B0 H0 w0 g0 ow0):∀(pl:Pats) (v:Zo) (cs:List Value) (x:Ks pl) (ids:ZF) (l N:List Nat),(WE pl v).run H0 l=Ua ((x,ids),N)->Z9 w0 g0 v cs->pl.noAny=Uc->ids.tk.Nodup->
 ∀{H:AH}{g:Gh}{ow:Nat->Nat->Prop} (_:RH B H w g ow) (_:g0.Le g) (y:We pl) (js:List Nat) (n:Nat),XE w g.I pl y js cs->WW B H w g ow js->(∀id∈ids.tk,H id=Ub)->(∀id,n<=id->id<(JQ pl v y n).2->¬g.K id)->(∀id∈ids.tk,∀u,Zfw (H0 id)=Ua u->g.ver id<n)->
  WD B H w g ow js n (JQ pl v y n).2 ids.tk (Zp H (JQ pl v y n).1)
 |.nil,v,cs,x,ids,l,N,h,C,_,_,H,g,ow,s,j,y,js,n,J,D,O,G,A=>by
  have:JQ .nil v y n=([],n):=by cases v<;>rfl
  rw[this];exact WD.none s js n ids.tk
 |.cons p pl,.nil,cs,x,ids,l,N,h,C,_,_,H,g,ow,s,j,y,js,n,J,D,O,G,A=>by simp [WE,Zb]at h
 |.cons p pl,.cons v vs,cs,x,ids,l,N,h,C,V,a2,H,g,ow,s,j,y,js,n,J,D,O,G,A=>by
  simp only[WE,Z0,Zf,Va]at h;obtain⟨⟨x1,i1⟩,m1,S,⟨x2,i2⟩,m2,h2,⟨rfl,rfl⟩,_⟩:=h;simp only[Z9]at C;obtain⟨c1,c2,rfl,h3,Q⟩:=C;simp only[Pats.noAny,Vf]at V;have d4:(i1.tk++i2.tk).Nodup:=a2;obtain⟨n1,n2,n3⟩:=Vh.1 d4;obtain⟨j0,d6,_⟩:=Ga L (I:=fun _=>True) (fun _ _=>trivial) p v c1 x1 i1 _ _ S h3 (fun _ _=>trivial) n1;have hl:=DG p x1 j0 c1 V.1 d6;obtain⟨j1,j2,rfl,b5,b6⟩:=J;rw[Vxa hl]at b5;rw[Vya hl]at b6;simp only[JQ]at G⊢;have f6:=Zij p v y.1 n;have f7:=Zb5 pl vs y.2 (Ki p v y.1 n).2;obtain⟨g1,b7,l1,Z,r1,k1,o1,t1⟩:=ZmX L p v c1 x1 i1 _ _ S h3 V.1 n1 s j y.1 j1 n b5 (D.sub (Vp _ _)) (fun id h=>O id (by simp [ZF.app,h])) (fun id h h' =>G id h (by omega)) fun id h=>A id (by simp [ZF.app,h])
  have c9:∀id∈i2.tk,Zp H (Ki p v y.1 n).1 id=none:=fun id U=>by
   by_cases b4:Zp H (Ki p v y.1 n).1 id=Ub
   ·exact b4
   ·exfalso;rcases t1 id b4 with W|W|W
    ·exact W (O id (by simp [ZF.app,U]))
    ·exact n3 id W id U rfl
    ·cases a4:H0 id with
     |none=>exact RM pl vs x2 i2 _ _ h2 id U a4
     |some ob=>exact G id W.1 (by omega) (j.K _ (L.objs id ob a4).1)
  obtain⟨g2,a9,l2,d8,r2,k2,o2,t2⟩:=Zik L pl vs c2 x2 i2 _ _ h2 Q V.2 n2 r1 (j.trans l1) y.2 j2 (Ki p v y.1 n).2 (by rw[Z.I];exact b6) (D.later Z.I o1) c9 (fun id h h' hK=>by
   rcases k1 id hK with h3|h3
   ·exact G id (by omega) h' h3
   ·omega) fun id U u hu=>by
    have b0:g.K id:=by
     cases a4:H0 id with
     |none=>exact absurd a4 (RM pl vs x2 i2 _ _ h2 id U)
     |some ob=>exact j.K _ (L.objs id ob a4).1
    rw[Z.ver id b0 fun W=>n3 id W id U rfl];have:=A id (by simp [ZF.app,U]) u hu;omega
  rw[Xj];refine⟨g2,a9,l1.trans l2,(d8.weak fun k G=>by simp [ZF.app,G]).after (Z.weak fun k G=>by simp [ZF.app,G]) l1,r2,fun id h=>?_,fun id b' W h6=>?_,fun id W=>?_⟩
  ·rcases k2 id h with h|h
   ·rcases k1 id h with h|h
    ·exact .inl h
    ·exact .inr (by omega)
   ·exact .inr (by omega)
  ·rcases o2 id b' W h6 with ⟨h7,h8⟩|h7
   ·rcases o1 id b' h7 h8 with h9|h9
    ·exact .inl h9
    ·exact .inr (by simp [h9])
   ·exact .inr (by simp [h7])
  ·rcases t2 id W with h6|h6|h6
   ·rcases t1 id h6 with h7|h7|h7
    ·exact .inl h7
    ·exact .inr (.inl (by simp [ZF.app,h7]))
    ·exact .inr (.inr (by omega))
   ·exact .inr (.inl (by simp [ZF.app,h6]))
   ·exact .inr (.inr (by omega))
end
end
end Tr
end
section
namespace Tr
open Go
theorem Rd.flat{w w' :World}{I I' :Nat->Prop} :∀(t:Ty) (x:El t) (cs:List Value),t.flat=Uc->Rd w I t x cs->Rd w' I' t x cs
 |.int _,_,_,_,h=>h
 |.bool,_,_,_,h=>h
 |.str,_,_,_,h=>h
 |.sl t,_,_,d,_=>by simp [Ty.flat]at d
 |.unit,_,_,_,h=>h
 |.prod a b,x,cs,d,h=>by
  simp only[Ty.flat,Vf]at d;obtain⟨k,l,f,i,j⟩:=h
  exact⟨k,l,f,Rd.flat a _ _ d.1 i,Rd.flat b _ _ d.2 j⟩
 |.arr n t,x,cs,d,h=>by
  simp only[Ty.flat]at d;obtain⟨f,e,i,j⟩:=h
  exact⟨f,e,i,j.mono fun y c m=>Rd.flat t y c d m⟩
 |.ref,_,_,_,h=>h.elim
 |.pt t,_,_,d,_=>by simp [Ty.flat]at d
 |.lk a b,_,_,d,_=>by simp [Ty.flat]at d
 |.pn t,_,_,d,_=>by simp [Ty.flat]at d
section
variable {w:World}{I I' :Nat->Prop}
theorem Wp.flat{J:Nat->Prop}{t:Ty}{xs:List (El t)}{v:Value}(p:t.flat=Uc)(h:Wp w I J t xs v):Wp w I' J t xs v:=by
 rcases h with h|⟨b,cap,cs,e,d,f,i,j,k,l,m,n⟩
 ·exact .inl h
 ·exact .inr ⟨b,cap,cs,e,d,f,i,j,k,l,m.mono fun x c q=>Rd.flat t x c p q,n⟩
theorem J9.flat{J:Nat->Prop}{t:Ty}{xs:List (List (El t))}{v:Value}(i:t.flat=Uc)(h:J9 w I J t xs v):J9 w I' J t xs v:=by obtain⟨f,⟨d,c⟩,e⟩:=h;exact⟨f,⟨d,fun k x a b=>(c.rd k x a b).flat i,c.ds,c.tp⟩,e⟩
theorem Ha.flat{J:Nat->Prop}{c t:Ty}{m:List (El c×List (El t))}{v:Value}(u:c.flat=Uc)(s:t.flat=Uc)(h:Ha w I J c t m v):Ha w I' J c t m v:=by obtain⟨row,b,es,clock,j,l,n,f,d,p,q,r⟩:=h;exact⟨row,b,es,clock,j,l,n,f,⟨fun k x a b=>(d.rd k x a b).flat s,d.ds,d.tp⟩,p,q,r.mono fun kv e i=>⟨⟨Rd.flat c _ _ u i.1.1,i.1.2⟩,i.2⟩⟩
mutual
theorem PC.flat:∀(p:Pat) (x:K2 p) (js:List Nat) (cs:List Value),p.flat=Uc->PC w I p x js cs->PC w I' p x js cs
 |.pd t,x,js,cs,d,h=>⟨h.1,Rd.flat t x cs d h.2⟩
 |.own t k,x,js,cs,d,h=>by
  simp only[PC]at h⊢;rcases h with h|⟨b,cap,cells,e,css,q,i,j,n,r,s,z⟩
  ·exact .inl h
  ·exact .inr ⟨b,cap,cells,e,css,q,i,j,n,r,s.mono fun x c m=>Rd.flat t x c d m,z⟩
 |.var t p,x,js,cs,d,h=>by
  obtain⟨q,b,u,cells,e,i,j,n,r,s⟩:=h
  exact⟨q,b,u,cells,e,i,j,n,r,PC.flat p x u _ d s⟩
 |.ro t,_,_,_,d,_=>by simp [Pat.flat]at d
 |.map y C,x,js,cs,d,h=>by
  simp only[Pat.flat,Vf]at d;obtain⟨b,es,clock,i,j,n,A,r⟩:=h
  exact⟨b,es,clock,i,j,n,A,r.mono fun x e m=>⟨⟨Rd.flat y _ _ d.1 m.1.1,m.1.2⟩,Rd.flat C _ _ d.2 m.2.1,m.2.2⟩⟩
 |.it y C,x,js,cs,d,h=>by
  simp only[Pat.flat,Vf]at d;obtain⟨b,M,es,clock,since,seen,q,i,j,n,r,s,z⟩:=h
  exact⟨b,M,es,clock,since,seen,q,i,j,n,r,s,z.mono fun x e m=>⟨⟨Rd.flat y _ _ d.1 m.1.1,m.1.2⟩,Rd.flat C _ _ d.2 m.2.1,m.2.2⟩⟩
 |.rows t k,x,js,cs,d,h=>by
  obtain⟨v,i,j⟩:=h
  exact⟨v,i,j.flat d⟩
 |.mrows y t,x,js,cs,d,h=>by
  simp only[Pat.flat,Vf]at d;obtain⟨v,i,j⟩:=h
  exact⟨v,i,j.flat d.1 d.2⟩
 |.bld _ _ _,_,_,_,_,h=>h
 |.fnd _ _ _ _,_,_,_,d,_=>by simp [Pat.flat]at d
 |.owo _,_,_,_,d,_=>by simp [Pat.flat]at d
 |.agg l,x,js,cs,d,h=>by
  simp only[PC]at h⊢
  exact JU.flat l x js cs d h
 |.fn f l,x,js,cs,d,h=>by
  obtain⟨J,i,j⟩:=h
  exact⟨J,i,JU.flat l x js J d j⟩
 |.nilr,_,_,_,_,h=>h
 |.nils,_,_,_,_,h=>h
 |.any,_,_,_,_,h=>h
theorem JU.flat:∀(l:Pats) (x:Ks l) (js:List Nat) (cs:List Value),l.flat=Uc->JU w I l x js cs->JU w I' l x js cs
 |.nil,_,_,_,_,h=>h
 |.cons p l,x,js,cs,d,h=>by simp only[Pats.flat,Vf]at d;obtain⟨K,L,D,G,q,i,j,n⟩:=h;exact⟨K,L,D,G,q,i,PC.flat p x.1 K D d.1 j,JU.flat l x.2 L G d.2 n⟩
end
theorem Js.flat:∀(l:Pats) (x:Ks l) (js:List Nat) (vs:List Value),l.flat=Uc->Js w I l x js vs->Js w I' l x js vs
 |.nil,_,_,_,_,h=>h
 |.cons p l,x,js,vs,b,h=>by simp only[Pats.flat,Vf]at b;obtain⟨d,e,v,r,f,i,c,j⟩:=h;exact⟨d,e,v,r,f,i,⟨PC.flat p x.1 d _ b.1 c.1,c.2⟩,Js.flat l x.2 e r b.2 j⟩
mutual
theorem PO.flat:∀(p:Pat) (y:H3 p) (js:List Nat) (cs:List Value),p.oflat=Uc->PO w I p y js cs->PO w I' p y js cs
 |.own t Uc,y,js,cs,b,h=>PC.flat (.own t Uc) y js cs (by simpa [Pat.oflat,Pat.flat] using b) h
 |.own t Ud,_,_,_,_,h=>h
 |.var t p,y,js,cs,b,h=>PC.flat (.var t p) y js cs (by simpa only[Pat.oflat,Pat.flat] using b) h
 |.map e n,y,js,cs,b,h=>PC.flat (.map e n) y js cs (by simpa only[Pat.oflat,Pat.flat] using b) h
 |.rows t Uc,y,js,cs,b,h=>PC.flat (.rows t Uc) y js cs (by simpa [Pat.oflat,Pat.flat] using b) h
 |.rows t Ud,_,_,_,_,h=>h
 |.mrows e t,y,js,cs,b,h=>PC.flat (.mrows e t) y js cs (by simpa only[Pat.oflat,Pat.flat] using b) h
 |.agg l,y,js,cs,b,h=>by
  simp only[PO]at h⊢
  exact XE.flat l y js cs (by simpa only[Pat.oflat] using b) h
 |.fn f l,y,js,cs,b,h=>by
  obtain⟨i,c,d⟩:=h
  exact⟨i,c,XE.flat l y js i (by simpa only[Pat.oflat] using b) d⟩
 |.fnd _ _ _ _,_,_,_,b,_=>by simp [Pat.oflat]at b
 |.owo _,_,_,_,_,h=>h
 |.bld _ _ Uc,_,_,_,_,h=>h
 |.bld _ _ Ud,_,_,_,_,h=>h
 |.it _ _,_,_,_,_,h=>h
 |.pd _,_,_,_,_,h=>h
 |.ro _,_,_,_,_,h=>h
 |.nilr,_,_,_,_,h=>h
 |.nils,_,_,_,_,h=>h
 |.any,_,_,_,_,h=>h
theorem XE.flat:∀(l:Pats) (y:We l) (js:List Nat) (cs:List Value),l.oflat=Uc->XE w I l y js cs->XE w I' l y js cs
 |.nil,_,_,_,_,h=>h
 |.cons p l,y,js,cs,b,h=>by simp only[Pats.oflat,Vf]at b;obtain⟨j,k,m,c,d⟩:=h;exact⟨j,k,m,PO.flat p y.1 j _ b.1 c,XE.flat l y.2 k _ b.2 d⟩
end
theorem Hw.flat:∀(l:Pats) (y:We l) (js:List Nat) (vs:List Value),l.oflat=Uc->Hw w I l y js vs->Hw w I' l y js vs
 |.nil,_,_,_,_,h=>h
 |.cons p l,y,js,vs,b,h=>by simp only[Pats.oflat,Vf]at b;obtain⟨c,d,v,r,e,f,i,j⟩:=h;exact⟨c,d,v,r,e,f,PO.flat p y.1 c _ b.1 i,Hw.flat l y.2 d r b.2 j⟩
mutual
theorem PO.mono(c:∀b,I b->I' b):∀(p:Pat) (y:H3 p) (js:List Nat) (cs:List Value),PO w I p y js cs->PO w I' p y js cs
 |.own t Uc,y,js,cs,h=>PC.mono (fun _ _=>rfl) c (.own t Uc) y js cs (fun _ _=>rfl) h
 |.own t Ud,_,_,_,h=>h
 |.var t p,y,js,cs,h=>PC.mono (fun _ _=>rfl) c (.var t p) y js cs (fun _ _=>rfl) h
 |.map i q,y,js,cs,h=>PC.mono (fun _ _=>rfl) c (.map i q) y js cs (fun _ _=>rfl) h
 |.rows t Uc,y,js,cs,h=>PC.mono (fun _ _=>rfl) c (.rows t Uc) y js cs (fun _ _=>rfl) h
 |.rows t Ud,_,_,_,h=>h
 |.mrows i t,y,js,cs,h=>PC.mono (fun _ _=>rfl) c (.mrows i t) y js cs (fun _ _=>rfl) h
 |.agg l,y,js,cs,h=>by
  simp only[PO]at h⊢
  exact XE.mono c l y js cs h
 |.fn f l,y,js,cs,h=>by
  obtain⟨j,d,e⟩:=h
  exact⟨j,d,XE.mono c l y js j e⟩
 |.owo _,_,_,_,h=>h
 |.fnd tn tq lt lb,y,js,cs,h=>PC.mono (fun _ _=>rfl) c (.fnd tn tq lt lb) y js cs (fun _ _=>rfl) h
 |.bld _ _ Uc,_,_,_,h=>h
 |.bld _ _ Ud,_,_,_,h=>h
 |.it _ _,_,_,_,h=>h
 |.pd _,_,_,_,h=>h
 |.ro _,_,_,_,h=>h
 |.nilr,_,_,_,h=>h
 |.nils,_,_,_,h=>h
 |.any,_,_,_,h=>h
theorem XE.mono(c:∀b,I b->I' b):∀(l:Pats) (y:We l) (js:List Nat) (cs:List Value),XE w I l y js cs->XE w I' l y js cs
 |.nil,_,_,_,h=>h
 |.cons p l,y,js,cs,h=>by obtain⟨k,m,n,d,e⟩:=h;exact⟨k,m,n,PO.mono c p y.1 k _ d,XE.mono c l y.2 m _ e⟩
end
theorem Hw.mono(c:∀b,I b->I' b):∀(l:Pats) (y:We l) (js:List Nat) (vs:List Value),Hw w I l y js vs->Hw w I' l y js vs
 |.nil,_,_,_,h=>h
 |.cons p l,y,js,vs,h=>by obtain⟨d,e,v,r,f,i,j,k⟩:=h;exact⟨d,e,v,r,f,i,PO.mono c p y.1 d _ j,Hw.mono c l y.2 e r k⟩
end
def Rg:List Value->Value
 |[v]=>v
 |vs=>.tuple vs.toArray
def RV(w:World)(I:Nat->Prop)(l:Pats)(x:Ks l)(js:List Nat)(v:Value):Prop:= ∃vs,Js w I l x js vs/\v=Rg vs
def Dx(S:Spec)(w:World)(I:Nat->Prop)(js:List Nat)(c:List Value)(z:We S.args×Ks S.res)(rv:Value)(w' :World):Prop:=
 ∃I' d e,Hw w' I' S.args z.1 d c/\RV w' I' S.res z.2 e rv/\(d++e).Nodup/\(∀b∈d++e,¬I' b/\b<w'.heap.size/\(b∈js\/w.heap.size<=b))/\(∀b,I b->I' b)/\
  (∀b,I' b->b<w'.heap.size/\(I b\/b∈js\/w.heap.size<=b))/\w'.os=w.os/\w'.tape=w.tape/\YL S.pl w' w/\w.heap.size<=w'.heap.size/\ ∀b,b<w.heap.size->b ∉ js->w'.heap[b]? =w.heap[b]?
def HX (P:Program) (w:World) (J:Nat→Prop):Prop:= ∀b,P.globalNamed "internal/strconv.uint64pow10" =some b→b<w.heap.size∧ ¬J b∧Lib.TabIs P w "internal/strconv.uint64pow10" .u64 Lib.pow10Tab
theorem HX.after{P:Program}{B:Z1}{H:AH}{w:World}{g:Gh}{ow:Nat->Nat->Prop}(h:HX P B.w0 B.own0)(d:RH B H w g ow){js:List Nat}(j:∀b∈js,B.own0 b\/B.w0.heap.size<=b):HX P w (· ∈js):=by
 intro b i;obtain⟨c,e,f⟩:=h b i;refine⟨Nat.lt_of_lt_of_le c d.size,by grind,?_⟩;have:=d.kept b c e;unfold Lib.TabIs World.var? at f⊢
 grind
def DD(kp:List (Nat×Nat×Nat))(d:List Value)(w w' :World):Prop:=
 ∀k∈kp,∀b,d[k.1]? =Ua (.pointer (Ua ⟨b,0,Ub⟩))->∀cs e,w.heap[b]? =Ua (.cells cs e (0,0))->∃c f,w'.heap[b]? =Ua (.cells c f (0,0))/\c[k.2.2]? =cs[k.2.2]?
def Zba(P:Program)(f:FuncId)(S:Spec):Prop:=
 ∀(w:World) (I:Nat->Prop) (c:List Value) (d:List Nat) (x:Ks S.args) (z:S.α),Js w I S.args x d c->d.Nodup->(∀b∈d,¬I b/\b<w.heap.size)->(∀b,I b->b<w.heap.size)->(S.pl=Ud->HX P w (· ∈d))->S.f x=Ua z->
  Calls P f c.toArray w fun e w' =>∃h,e=.returned h/\Dx S w I d c (S.unp z) h w' /\DD S.kp c w w'
structure ZS (P:Program) (f:FuncId) (S:Spec):Prop where
 wf:S.args.wf=Uc
 fn:∃fn,P.funcs[f]? =some fn∧fn.body.isNone=false∧(fn.name== "runtime.NumGoroutine")=false
 run:∀(w:World) (I:Nat->Prop) (vals:List Value) (js:List Nat) (x:Ks S.args) (z:S.α),Js w I S.args x js vals->js.Nodup->(∀b∈js,¬I b/\b<w.heap.size)->(∀b,I b->b<w.heap.size)->(S.pl=Ud->HX P w (· ∈js))->S.f x=Ua z->
  Calls P f vals.toArray w fun e w' =>∃rv,e=.returned rv/\Dx S w I js vals (S.unp z) rv w'
 kept:S.kp=[]\/Zba P f S:=by exact .inl rfl
theorem ZS.keptRun{P:Program}{f:FuncId}{S:Spec}(h:ZS P f S):Zba P f S:=by
 rcases h.kept with c|c
 ·intro w I b r x z d i j l m n;refine(h.run w I b r x z d i j l m n).mono ?_;rintro e w' ⟨s,p,q⟩;exact⟨s,p,q,by rw[c];intro k t;grind⟩
 omega
section
variable {P:Program}{B B0:Z1}{H H0:AH}{w w0:World}{g g0:Gh}{ow ow0:Nat->Nat->Prop}
theorem ZmW(e:RH B0 H0 w0 g0 ow0):∀(pl:Pats) (v:Zo) (b:List Value) (x:Ks pl) (ids:ZF) (l L:List Nat),(WE pl v).run H0 l=Ua ((x,ids),L)->WK w0 g0 v b->pl.wf=Uc->ids.tk.Nodup->
 ∀{H:AH}{g:Gh}{ow:Nat->Nat->Prop} (_:RH B H w g ow) (_:g0.Le g) (y:We pl) (js:List Nat) (n:Nat),Hw w g.I pl y js b->WW B H w g ow js->(∀id∈ids.tk,H id=Ub)->(∀id,n<=id->id<(JQ pl v y n).2->¬g.K id)->(∀id∈ids.tk,∀u,Zfw (H0 id)=Ua u->g.ver id<n)->
  WD B H w g ow js n (JQ pl v y n).2 ids.tk (Zp H (JQ pl v y n).1)
 |.nil,v,b,x,ids,l,L,h,Q,_,_,H,g,ow,z,q,y,js,n,V,G,D,j,f=>by
  have:JQ .nil v y n=([],n):=by rfl
  rw[this];exact WD.none z js n ids.tk
 |.cons p pl,.nil,b,x,ids,l,L,h,Q,_,_,H,g,ow,z,q,y,js,n,V,G,D,j,f=>by simp [WE,Zb]at h
 |.cons p pl,.cons v vs,b,x,ids,l,L,h,Q,Y,T,H,g,ow,z,q,y,js,n,V,G,D,j,f=>by
  simp only[WE,Z0,Zf,Va]at h;obtain⟨⟨x1,J⟩,m1,h1,⟨x2,C⟩,m2,M,⟨rfl,rfl⟩,_⟩:=h;obtain⟨u,r,rfl,h3,h4⟩:=Q
  have A:pl.wf=Uc/\(p=.any\/p.noAny=Uc):=by
   cases p<;>simp only[Pats.wf,Vf]at Y<;>first|grind|grind
  have R:(J.tk++C.tk).Nodup:=T;obtain⟨n1,n2,n3⟩:=Vh.1 R;obtain⟨j1,j2,u',r',rfl,X,W,a1⟩:=V;obtain⟨rfl,rfl⟩:=List.cons.inj X;simp only[JQ]at j⊢;have a2:=Zij p v y.1 n;have a3:=Zb5 pl vs y.2 (Ki p v y.1 n).2
  have key:WD B H w g ow j1 n (Ki p v y.1 n).2 J.tk (Zp H (Ki p v y.1 n).1):=by
   rcases A.2 with rfl|S
   ·have:Ki .any v y.1 n=([],n):=by rfl
    rw[this];exact WD.none z j1 n J.tk
   ·exact ZmX e p v u.cells.toList x1 J _ _ h1 h3.1 S n1 z q y.1 j1 n W (G.sub (Vp _ _)) (fun id h=>D id (by simp [ZF.app,h])) (by grind) fun id h=>f id (by simp [ZF.app,h])
  obtain⟨g1,a4,l1,i,r1,k1,o1,t1⟩:=key
  have O:∀id∈C.tk,Zp H (Ki p v y.1 n).1 id=none:=fun id d=>by
   by_cases U:Zp H (Ki p v y.1 n).1 id=Ub
   ·omega
   ·exfalso;rcases t1 id U with m|m|m
    ·exact m (D id (by simp [ZF.app,d]))
    ·grind
    ·cases c:H0 id with
     |none=>exact RM pl vs x2 C _ _ M id d c
     |some ob=>exact j id m.1 (by omega) (q.K _ (e.objs id ob c).1)
  obtain⟨g2,a0,l2,Z,r2,k2,o2,t2⟩:=ZmW e pl vs r x2 C _ _ M h4 A.1 n2 r1 (q.trans l1) y.2 j2 (Ki p v y.1 n).2 (by rw[i.I];omega) (G.later i.I o1) O (by grind) fun id d u hu=>by
   have t:g.K id:=by
    cases c:H0 id with
    |none=>exact absurd c (RM pl vs x2 C _ _ M id d)
    |some ob=>exact q.K _ (e.objs id ob c).1
   rw[i.ver id t (by grind)];have:=f id (by simp [ZF.app,d]) u hu;omega
  rw[Xj];refine⟨g2,a0,l1.trans l2,(Z.weak fun k j=>by simp [ZF.app,j]).after (i.weak fun k j=>by simp [ZF.app,j]) l1,r2,fun id h=>?_,fun id b' m s=>?_,fun id m=>?_⟩
  ·grind
  ·grind
  ·rcases t2 id m with s|s|s
   ·rcases t1 id s with N|N|N
    ·grind
    ·exact .inr (.inl (by simp [ZF.app,N]))
    omega
   ·exact .inr (.inl (by simp [ZF.app,s]))
   omega
theorem ZF.ok_iff{i:ZF}{fz:List Nat}(h:i.ok fz=Uc):i.tk.Nodup/\(∀n∈i.br,n ∉ i.tk)/\ ∀n∈i.tk,n ∉ fz:=by simp only[ZF.ok,Vf]at h;exact⟨Zff.1 h.1.1,RJ.1 h.1.2,RJ.1 h.2⟩
theorem ZoK{l:Zo}{vs:List Value}(h:WK w g l vs):VR w g (ZnV l) (Rg vs):=by
 cases l with
 |nil=>simp only[WK]at h;subst h;exact⟨[],rfl,rfl⟩
 |cons a l=>
  obtain⟨v,r,rfl,e,c⟩:=h
  cases l with
  |nil=>simp only[WK]at c;subst c;exact .of1 e
  |cons b l=>
   obtain⟨v2,d,rfl,f,i⟩:=c;exact⟨v::v2::d,rfl,v,v2::d,rfl,e,v2,d,rfl,f,i⟩
theorem ZfT(e:RH B H w g ow){n:Nat}{r:Unit} :∀(tk:List Nat) {l i:List Nat},(Zch n tk).run H l=Ua (r,i)->∀id∈tk,∀u,Zfw (H id)=Ua u->g.ver id<n
 |[],l,i,h,id,b=>by grind
 |k::tk,l,i,h,id,b=>by
  simp only[Zch]at h;rw[ZX]at h;intro u d;split at h
  ·rename_i c;simp only[ZJ,Zb,ZP,Z6]at h;rcases Vt.1 b with rfl|b
   ·have f:g.ver id=_:=(e.objs id _ c).2.2.1
    simp_all
   ·exact ZfT e tk h.2 id b u d
  ·rename_i c;simp only[ZJ,Zb,ZP,Z6]at h;rcases Vt.1 b with rfl|b
   ·have f:g.ver id=_:=(e.objs id _ c).2.2.1
    simp_all
   ·exact ZfT e tk h.2 id b u d
  ·rename_i f j;rcases Vt.1 b with rfl|b
   ·exfalso
    cases c:H id with
    |none=>rw[c]at d;cases d
    |some o=>cases o<;>rw[c]at d<;>first|exact f _ _ _ _ c|exact(by grind) |cases d
   ·exact ZfT e tk h id b u d
theorem Zqn{f:FuncId}{S:Spec}(hS:ZS P f S)(hA:B.pl=Ud->HX P B.w0 B.own0)(b2:B.pl=Uc->S.pl=Uc)(d:RH B H w g ow){nid:Nat}(hk:∀id,g.K id->id<nid\/nid+Wr<=id){q:Zo}{n:List Value}(hv:WK w g q n){v:AV}{patch:Kx}{rd:List Nat}
 {l:List Nat} (h:(ZgI S nid q).run H l=Ua ((v,patch),rd)):
 Calls P f n.toArray w fun e w' =>∃rv g' b6,e=.returned rv/\RH B (Zp H patch) w' g' b6/\g.Le g' /\Km g.I w w' /\VR w' g' v rv/\(∀id,g'.K id->g.K id\/(nid<=id/\id<nid+Wr))/\DD S.kp n w w' :=by
 simp only[ZgI,Z0,Zy,Zf,Va]at h;obtain⟨⟨x,ids⟩,m,hx,_,b0,_,_,b5,ds,_,s,z,hz,_,hq,⟨rfl,rfl⟩,_⟩:=h;obtain⟨W,b8,_⟩:=ZF.ok_iff (Yw b0);have V:=Yw hq;simp only[Nat.ble_eq]at V;obtain⟨js,b3,a8,G⟩:=ZkS d (I:=fun b=>g.I b\/ZL H ow ids.br b) (by grind) _ _ _ _ _ _ _ hx hv (by grind) W
 have c6:∀b∈js,¬g.I b/\b<w.heap.size/\(B.own0 b\/B.w0.heap.size<=b):=fun b c=>by obtain⟨id,_,r,p⟩:=G b c;exact d.sep id b r p
 have a7:∀b∈js,¬ZL H ow ids.br b:=fun b c h=>by
  obtain⟨id,r,p⟩:=Hn d h (G b c)
  grind
 refine(hS.keptRun w _ n js x z b3 a8 (by grind) (fun b c=>?_) (fun hf=>(hA (by grind)).after d (by grind)) hz).mono ?_
 ·rcases c with c|⟨id,_,r,p⟩
  ·exact d.ilt b c
  ·exact(d.sep id b r p).2.1
 rintro e w' ⟨rv,rfl,⟨I',jo,jr,a0,⟨Q,a2,rfl⟩,X,a6,a4,a3,b1,M,Z,b4,j⟩,a9⟩;generalize c5:(S.res.flat&&S.args.oflat)=i at V s⊢
 have t:∀id,Zp H ((ids.tk.map fun id=>(id,Ub))++(bif i then [] else ids.br.map fun id=>(id,Ub))) id≠Ub->H id≠Ub/\id ∉ ids.tk/\(i=Ud->id ∉ ids.br):=by
  intro id;rw[Xj]
  cases i with
  |true=>simp only[Ze,Zp];rw[DU];grind
  |false=>
   simp only[Zd];rw[DU];split
   ·simp
   ·rename_i hi;rw[DU];grind
 have R:RH B (Zp H ((ids.tk.map fun id=>(id,Ub))++(bif i then [] else ids.br.map fun id=>(id,Ub)))) w g ow:=by
  rw[Xj]
  cases i with
  |true=>exact d.drops _
  |false=>exact(d.drops _).drops _
 have c1:∀b,(b∈js\/w.heap.size<=b)->∀id,Zp H ((ids.tk.map fun id=>(id,Ub))++(bif i then [] else ids.br.map fun id=>(id,Ub))) id≠Ub->¬ow id b:=by
  intro b c id k Y;obtain⟨r,p,_⟩:=t id k;rcases c with c|c
  ·obtain⟨N,y,D,h5⟩:=G b c;have:=d.dist id N b r D Y h5
   grind
  ·have:=(d.sep id b r Y).2.1;omega
 have b9:∀b,(b∈js\/w.heap.size<=b)->(B.own0 b\/B.w0.heap.size<=b):=by
  intro b c;rcases c with c|c
  ·grind
  ·have:=d.size;omega
 have a5:RH B (Zp H ((ids.tk.map fun id=>(id,Ub))++(bif i then [] else ids.br.map fun id=>(id,Ub)))) w' (g.grow fun b=>i=Ud/\I' b) ow:=
  R.call (js:=js) j b4 b1 M (Z.weak b2) (by grind) (by
   rintro b ⟨hf,c⟩;obtain⟨r,p⟩:=a3 b c;refine⟨r,?_,fun id k Y=>?_⟩
   ·rcases p with (p|⟨id,_,y,D⟩) |p
    ·exact d.inew b p
    ·exact .inr (d.sep id b y D).2.2
    grind
   ·rcases p with (p|⟨N,h5,y,D⟩) |p
    ·exact(R.sep id b k Y).1 p
    ·obtain⟨h6,_,h7⟩:=t id k;have:=d.dist id N b h6 y Y D
     grind
    grind)
 have C:i=Ud->∀b,I' b->(g.grow fun b=>i=Ud/\I' b).I b:=fun hf b c=>.inr ⟨hf,c⟩
 have a1:Hw w' (g.grow fun b=>i=Ud/\I' b).I S.args (S.unp z).1 jo n:=by
  cases i with
  |true=>exact a0.flat _ _ _ _ (by grind)
  |false=>exact a0.mono (C rfl)
 have c4:Js w' (g.grow fun b=>i=Ud/\I' b).I S.res (S.unp z).2 jr Q:=by
  cases i with
  |true=>exact a2.flat _ _ _ _ (by grind)
  |false=>exact Js.mono (fun _ _=>rfl) (C rfl) (by simp) a2
 have U:WW B (Zp H ((ids.tk.map fun id=>(id,Ub))++(bif i then [] else ids.br.map fun id=>(id,Ub)))) w' (g.grow fun b=>i=Ud/\I' b) ow (jo++jr):=
  ⟨X,fun b c=>⟨fun hI=>by
    rcases hI with hI|hI
    all_goals grind,by grind,by grind,by grind⟩⟩
 have m1:=Zb5 S.args q (S.unp z).1 nid;have m2:=(ZaE S.res (S.unp z).2 (JQ S.args q (S.unp z).1 nid).2).1
 have hN:∀id∈ids.tk,Zp H ((ids.tk.map fun id=>(id,Ub))++(bif i then [] else ids.br.map fun id=>(id,Ub))) id=none:=by grind
 obtain⟨g1,c7,l1,i1,r1,k1,o1,_⟩:=ZmW d _ _ _ _ _ _ _ hx hv hS.wf W a5 (g.le_grow _) (S.unp z).1 jo nid a1 (U.sub (Vp _ _)) hN (fun id r p hK=>by
  rcases hk id hK with y|y<;>omega) (fun id k u hu=>ZfT d _ b5 id k u hu)
 obtain⟨g2,b7,l2,i2,r2,c2,k2,_⟩:=ZeZ S.res r1 (S.unp z).2 jr Q (JQ S.args q (S.unp z).1 nid).2 (by rw[i1.I];omega) (U.later i1.I o1) (fun id r p hK=>by
  rcases k1 id hK with y|y
  ·rcases hk id y with D|D<;>omega
  ·omega)
 have A:g.Le g2:=(g.le_grow _).trans (l1.trans l2)
 have T:∃O,RH B (Zp (Zp (Zp (Zp H ((ids.tk.map fun id=>(id,Ub))++(bif i then [] else ids.br.map fun id=>(id,Ub)))) (JQ S.args q (S.unp z).1 nid).1) ((Kc S.res (S.unp z).2 (JQ S.args q (S.unp z).1 nid).2).2.1.map fun o=>(o.1,Ua o.2))) ds) w' g2 O:=by
  cases i with
  |true=>
   simp only[Ze,Zf]at s;obtain⟨rfl,_⟩:=s
   exact⟨b7,r2⟩
  |false=>
   simp only[Zd]at s;have L:∀b,I' b->g2.I b:=fun b c=>l2.I b (l1.I b (by grind));exact ZcS d A (fun b c=>j b (d.ilt b c) (by grind)) ids.br ds _ _ s (fun id k b J c=>⟨L b (a4 b (.inr ⟨id,k,J,c⟩)),j b (d.sep id b J c).2.1 fun hj=>a7 b hj ⟨id,k,J,c⟩⟩) r2
 obtain⟨O,r3⟩:=T;refine⟨Rg Q,g2,O,rfl,?_,A,fun b c=>j b (d.ilt b c) (by grind),ZoK c2,fun id h=>?_,a9⟩
 ·rw[Xj,Xj,Xj];omega
 ·rcases k2 id h with h|h
  ·rcases k1 id h with h|h
   ·exact .inl h
   omega
  omega
theorem ZhV:∀(p:Kx) (H:AH) (id:Nat) (o:Option K1),Dh id p=Ua o->Zp H p id=o
 |[],_,_,_,h=>by simp [Dh]at h
 |a::l,H,id,o,h=>by
  simp only[Dh]at h;simp only[Zp]
  cases c:Dh id l with
  |some j=>
   rw[c]at h;simp only[ZB]at h;subst h
   exact ZhV l _ id _ c
  |none=>
   rw[c]at h;simp only at h
   cases e:Vgb a.1 id with
   |false=>grind
   |true=>
    rw[e]at h;simp only[Ze,ZB]at h;have:=Vl e
    have key:∀(l:Kx) (H:AH),Dh id l=Ub->Zp H l id=H id:=by
     intro l
     induction l with
     |nil=>intro H _;rfl
     |cons b l i=>
      intro H c;simp only[Dh]at c
      cases d:Dh id l with
      |some j=>grind
      |none=>
       rw[d]at c;simp only at c
       cases f:Vgb b.1 id with
       |true=>grind
       |false=>
        simp only[Zp];rw[i _ d,Kt]
        grind
    rw[key l _ c, <-this,XC, <-h]
theorem ZmK:∀(c:Zo) (t:Ty) (k a b:Nat),c.fits t=Uc->c.nth k=Ua (.vw a)->(c.putNth k (.vw b)).fits t=Uc
 |.nil,_,k,_,_,_,h=>by assumption
 |.cons v l,t,0,a,b,d,h=>by
  simp only[Zo.nth,ZB]at h;subst h
  cases t with
  |prod p q=>
   simp only[Zo.fits,Vf,Zo.putNth]at d⊢;refine⟨?_,d.2⟩
   cases p<;>first|rfl|exact d.1
  |_=>assumption
 |.cons v l,t,k+1,a,b,d,h=>by
  simp only[Zo.nth]at h
  cases t with
  |prod p q=>
   simp only[Zo.fits,Vf,Zo.putNth]at d⊢
   exact⟨d.1,ZmK l _ k a b d.2 h⟩
  |_=>assumption
theorem ZmJ:∀(c:Zo) (cs:List Value) (k a b:Nat),Z9 w g c cs->c.nth k=Ua (.vw a)->g.K b->g.slv b=g.slv a->Z9 w g (c.putNth k (.vw b)) cs
 |.nil,_,k,_,_,_,h,_,_=>by assumption
 |.cons v l,cs,0,a,b,m,h,n,p=>by
  simp only[Zo.nth,ZB]at h;subst h;obtain⟨e,d,f,i,j⟩:=m;refine⟨e,d,f,?_,j⟩;simp only[CV]at i⊢
  grind
 |.cons v l,cs,k+1,a,b,m,h,n,p=>by simp only[Zo.nth]at h;obtain⟨e,d,f,i,j⟩:=m;exact⟨e,d,f,i,ZmJ l d k a b j h n p⟩
theorem ZbV:∀(c:Zo) (t:Ty) (cs:List Value) (k a:Nat),c.fits t=Uc->Z9 w g c cs->c.nth k=Ua (.vw a)->g.K a/\cs[RW t k]? =Ua (g.slv a)
 |.nil,_,_,k,_,_,_,h=>by simp [Zo.nth]at h
 |.cons v l,t,cs,0,a,b,f,h=>by
  simp only[Zo.nth,ZB]at h;subst h;obtain⟨i,j,rfl,d,m⟩:=f;simp only[CV]at d;obtain⟨e,rfl,_⟩:=d;refine⟨e,?_⟩
  cases t<;>simp only[RW]<;>rfl
 |.cons v l,t,cs,k+1,a,b,f,h=>by
  simp only[Zo.nth]at h;obtain⟨i,j,rfl,d,m⟩:=f
  cases t with
  |prod p q=>
   simp only[Zo.fits,Vf]at b;have n:=CV.length v p i b.1 d;obtain⟨e,r⟩:=ZbV l q j k a b.2 m h;refine⟨e,?_⟩;simp only[RW]
   grind
  |_=>simp [Zo.fits]at b
theorem Zgl:∀(l:Zo) (vs:List Value) (i:Nat) (v:AV),WK w g l vs->l.nth i=Ua v->∃u,vs[i]? =Ua u/\Ko w g v u
 |.nil,_,i,_,_,h=>by simp [Zo.nth]at h
 |.cons a l,vs,0,v,b,h=>by
  simp only[Zo.nth,ZB]at h;subst h;obtain⟨u,r,rfl,d,_⟩:=b
  grind
 |.cons a l,vs,i+1,v,b,h=>by simp only[Zo.nth]at h;obtain⟨u,r,rfl,_,c⟩:=b;exact Zgl l r i v c h
theorem ZmH{v:Value}{id:Nat}(h:Ko w g (.ptr id []) v):g.K id/\ ∃b,g.blk id=Ua b/\v=.pointer (Ua ⟨b,0,Ub⟩):=by
 obtain⟨d,c⟩:=h;simp only[CV,ZW]at d;obtain⟨i,o,t,b,e,f,j⟩:=d;cases e;refine⟨i,b,f,?_⟩;rcases c with c|c
 ·grind
 ·cases v<;>simp_all [Value.cells,Kf,AV.isAgg]
theorem ZmY(m:RH B H w g ow){d nid e k:Nat}{T t:Ty}{c:Zo}{xs:List (El t)}(hS:H d=Ua (.var T (.agg c)))(Y:c.nth k=Ua (.vw nid))(hN:H nid=Ua (.vec t xs))(u:g.K e)(z:g.slv e=g.slv nid)(U:g.ty e=t)
 (V:(g.blk e=Ub/\g.slv e=.slice Ub 0 0)\/ ∃b len cap,g.blk e=Ua b/\g.slv e=.slice (Ua ⟨b,0,Ub⟩) len cap) (S:nid≠d) (a0:e≠d):
 ∃X,RH B (ZY (ZY (ZY (ZY H nid Ub) d Ub) e (Ua (.vec t xs))) d (Ua (.var T (.agg (c.putNth k (.vw e)))))) w g X:=by
 obtain⟨N,h2,x,b',M,e',O,y,Q,A,n⟩:=m.objs d _ hS;simp only[AV.fits]at x;simp only[CV]at n;obtain⟨_,a6,Z⟩:=m.objs nid _ hN
 have W:ORel w g (ow nid) e (.vec t xs):=by
  refine⟨U,?_⟩
  grind
 have r1:RH B (ZY (ZY H nid Ub) d Ub) w g ow:=(m.drop nid).drop d
 have j:∀id,ZY (ZY H nid Ub) d Ub id≠Ub->id≠d/\id≠nid/\H id≠none:=fun id h=>by
  obtain⟨C,s⟩:=YF h;obtain⟨D,G⟩:=YF s
  grind
 have p:H nid≠none:=by grind
 have q:H d≠none:=by grind
 have r2:=r1.revive u (J:=ow nid) (fun b r=>by obtain⟨C,s,D⟩:=m.sep nid b p r;refine⟨C,s,D,fun i l f=>?_⟩;obtain⟨_,G,L⟩:=j i l;exact G (m.dist i nid b L p f r)) W
 refine⟨_,r2.revive N (J:=ow d) (fun b r=>?_) ⟨h2,?_,b',M,e',O,y,Q,A,?_⟩⟩
 ·obtain⟨C,s,D⟩:=m.sep d b q r;refine⟨C,s,D,fun i l f=>?_⟩;by_cases R:i=e
  ·subst R;rw[JZ]at f;exact S (m.dist nid d b p q f r)
  ·rw[W4 R]at f;rw[Kt R]at l;obtain⟨G,_,L⟩:=j i l;exact G (m.dist i d b L q f r)
 ·simp only[AV.fits];exact ZmK _ _ _ _ _ x Y
 ·simp only[CV];exact ZmJ _ _ _ _ _ n Y u z
theorem Zs7(x:RH B0 H0 w0 g0 ow0){s:Zo}{r:List Value}(hv:WK w0 g0 s r){k:Nat×Nat×Nat}{p q:Kx}{l l' :List Nat}(h:(ZhO s k p).run H0 l=Ua (q,l'))
 (hR:RH B (Zp H0 p) w g ow) (f:g0.Le g) (X:DD [k] r w0 w):∃a3,RH B (Zp H0 q) w g a3:=by
 simp only[ZhO]at h;split at h
 case h_2=>simp [Zb]at h
 rename_i i hs;rw[ZX]at h;split at h
 case h_2=>simp [Zb]at h
 rename_i T c Q;split at h
 case h_2=>simp [Zb]at h
 rename_i d ho;rw[ZX]at h;split at h
 case h_2=>simp [Zb]at h
 rename_i t b0 S;split at h
 case h_2=>simp [Zb]at h
 rename_i T' c' Y;split at h
 case h_2=>simp [Zb]at h
 rename_i nid hn;split at h
 case h_2=>simp [Zb]at h
 rename_i t' xs Z;simp only[ZJ,Zb,ZP,Z6,Zf,Vf,Bool.not_eq_true',Kj]at h;obtain⟨⟨⟨⟨⟨ht,hT⟩,m⟩,J⟩,L⟩,rfl,_⟩:=h;subst ht;subst hT;have m:=Vl m;have J:nid≠i:=by grind
 have L:d≠i:=by grind
 have hS:=ZhV p H0 i _ Y;have hN:=ZhV p H0 nid _ Z;obtain⟨R,h1,D,b,cs,e,hb,_,hh,_,C⟩:=x.objs i _ Q;obtain⟨a4,h2,G,b',N,e',a8,a5,V,a6,n⟩:=hR.objs i _ hS
 have U:b' =b:=by
  have:=f.blk i R
  grind
 subst U;simp only[AV.fits]at D G;simp only[CV]at C n;obtain⟨j,A⟩:=ZbV c _ _ _ _ D C ho;obtain⟨a7,z⟩:=ZbV c' _ _ _ _ G n hn;obtain⟨u,a1,a2⟩:=Zgl _ _ _ _ hv hs;obtain⟨_,b2,y,rfl⟩:=ZmH a2;rw[hb]at y;obtain rfl:=Ky y;obtain⟨O,e2,W,a9⟩:=X k (by simp) _ a1 cs e hh;rw[V]at W
 obtain⟨rfl,_⟩:N=O/\e' =e2:=by
  grind
 rw[Vv]at A z;rw[m]at A z
 have M:g.slv d=g.slv nid:=by
  rw[f.slv d j]
  grind
 obtain⟨_,a0,_⟩:=x.objs d _ S;rw[Xj];simp only[Zp]
 exact ZmY hR hS hn hN (f.K d j) M ((f.ty d j).trans a0) (by
  rw[f.blk d j,f.slv d j]
  grind) J L
theorem Zlx(d:RH B0 H0 w0 g0 ow0){c:Zo}{b:List Value}(t:WK w0 g0 c b)(e:g0.Le g):∀(kp:List (Nat×Nat×Nat)) {p q:Kx}{l j:List Nat}{ow:Nat->Nat->Prop},(Zdc c kp p).run H0 l=Ua (q,j)->
 RH B (Zp H0 p) w g ow->DD kp b w0 w->∃n,RH B (Zp H0 q) w g n
 |[],p,q,l,j,ow,h,r,_=>by
  simp only[Zdc,Zf]at h
  grind
 |k::kp,p,q,l,j,ow,h,r,s=>by simp only[Zdc,Z0]at h;obtain⟨A,m,u,x⟩:=h;obtain⟨z,f⟩:=Zs7 d t u r e (fun i y=>s i (by grind));exact Zlx d t e kp x f fun i y=>s i (by grind)
theorem ZjZ{f:FuncId}{S:Spec}(x:ZS P f S)(u:B.pl=Ud->HX P B.w0 B.own0)(i:B.pl=Uc->S.pl=Uc)(j:RH B H w g ow){nid:Nat}(y:∀id,g.K id->id<nid\/nid+Wr<=id){c:Zo}{b:List Value}(k:WK w g c b){v:AV}{patch:Kx}{rd:List Nat}
 {l:List Nat} (h:(Zei S nid c).run H l=Ua ((v,patch),rd)):
 Calls P f b.toArray w fun e w' =>∃rv g' d,e=.returned rv/\RH B (Zp H patch) w' g' d/\g.Le g' /\Km g.I w w' /\VR w' g' v rv/\ ∀id,g'.K id->g.K id\/(nid<=id/\id<nid+Wr):=by
 simp only[Zei,Z0,Zf,Va]at h;obtain⟨⟨L,p0⟩,m,s,q,J,t,⟨rfl,rfl⟩,_⟩:=h;refine(Zqn x u i j y k s).mono ?_;rintro e w' ⟨rv,g',d,rfl,n,p,A,C,D,r⟩;obtain⟨z,G⟩:=Zlx j k p S.kp t n r
 grind
theorem ZjY{f:FuncId}(i:B.pl=Ud->HX P B.w0 B.own0)(j:RH B H w g ow){nid:Nat}(k:∀id,g.K id->id<nid\/nid+Wr<=id){c:Zo}{b:List Value}(n:WK w g c b){v:AV}{patch:Kx}{rd:List Nat} :∀(d:List Spec) {l:List Nat},
 (∀S∈d,ZS P f S/\(B.pl=Uc->S.pl=Uc))->(Zbq nid c d).run H l=Ua ((v,patch),rd)->
 Calls P f b.toArray w fun e w' =>∃rv g' p,e=.returned rv/\RH B (Zp H patch) w' g' p/\g.Le g' /\Km g.I w w' /\VR w' g' v rv/\ ∀id,g'.K id->g.K id\/(nid<=id/\id<nid+Wr)
 |[],l,_,h=>by simp [Zbq,Zb]at h
 |[S],l,s,h=>ZjZ (by grind) i (by grind) j k n h
 |S::T::d,l,s,h=>by
  simp only[Zbq,Z0]at h;obtain⟨r,m,_,h⟩:=h;simp only[Zu.run]at h;generalize (S.f r.1).isSome=q at h
  cases q with
  |true=>exact ZjZ (by grind) i (by grind) j k n h
  |false=>exact ZjY i j k n (T::d) (by grind) h
end
end Tr
end
section
namespace Tr
open Go
abbrev Yb(tn tq lt lb:Ty):Pat:=.var (Jd tn tq lt lb) (.agg (.cons (.pd tn) (.cons (.pd tq) (.cons (.pd lt) (.cons (.rows (.pn lb) Ud) (.cons (.owo lb) (.cons (.own (.pn lb) Ud) .nil)))))))
def KI{tn tq lt lb:Ty}(y:ZdU tn tq lt lb):K2 (Yb tn tq lt lb):=(y.1,y.2.1,y.2.2.1,y.2.2.2.1,y.2.2.2.2.1,y.2.2.2.2.2,())
theorem Zsz(tn tq lt lb:Ty):(Pat.agg (.cons (.pd tn) (.cons (.pd tq) (.cons (.pd lt) (.cons (.rows (.pn lb) Ud) (.cons (.owo lb) (.cons (.own (.pn lb) Ud) .nil))))))).fits (Jd tn tq lt lb)=true:=by simp [Pat.fits,Pats.fits,Jd]
theorem Zvk{w:World}{I J:Nat->Prop}{t:Ty}{x:List (El t)}{v:Value}(h:Wp w I J t x v):∃js,PC w I (.own t Ud) x js [v]/\js.Nodup/\ ∀k∈js,J k:=by
 rcases h with ⟨rfl,rfl⟩|⟨b,cap,cells,e,c,rfl,d,f,i,j,l,m⟩
 ·exact⟨[],.inl ⟨rfl,rfl,rfl⟩,.nil,by simp⟩
 ·exact⟨[b],.inr ⟨b,cap,cells,e,c,rfl,rfl,f,i,j,l,m⟩,by simp,by simpa using d⟩
theorem Zmp{w:World}{I:Nat->Prop}{t:Ty}{x:List (El t)}{js:List Nat}{cs:List Value}(h:PC w I (.own t Ud) x js cs):∃v,cs=[v]/\Wp w I (· ∈js) t x v:=by
 rcases h with ⟨rfl,rfl,rfl⟩|⟨b,cap,cells,e,c,rfl,rfl,d,f,i,j,k⟩
 ·exact⟨_,rfl,.inl ⟨rfl,rfl⟩⟩
 ·exact⟨_,rfl,.inr ⟨b,cap,cells,e,c,rfl,by simp,d,f,i,j,k⟩⟩
theorem Zvi{w:World}{I J:Nat->Prop}{lb:Ty}{x:List (El (.pn lb))}{v:Value}(h:Hc w I J lb x v):∃js,PC w I (.owo lb) x js [v]/\js.Nodup/\ ∀k∈js,J k:=by
 rcases h with ⟨rfl,rfl⟩|⟨b,off,cap,cells,e,f,rfl,c,d⟩
 ·exact⟨[],⟨_,rfl,.inl ⟨rfl,rfl⟩⟩,.nil,by simp⟩
 ·exact⟨[b],⟨_,rfl,.inr ⟨b,off,cap,cells,e,f,rfl,by simp,d⟩⟩,by simp,by simpa using c⟩
theorem Zmr{w:World}{I:Nat->Prop}{lb:Ty}{x:List (El (.pn lb))}{js:List Nat}{cs:List Value}(h:PC w I (.owo lb) x js cs):∃v,cs=[v]/\Hc w I (· ∈js) lb x v:=h
open Classical in
theorem Zk8{w:World}{I:Nat->Prop}{js:List Nat}{tn tq lt lb:Ty}{x:ZO tn tq lt lb}{b:Nat}(h:Rn w I (· ∈js) tn tq lt lb x b)(M:js.Nodup):
 ∃l i,X2 l x/\i.Nodup/\(∀k∈i,k∈js)/\PC w I (Yb tn tq lt lb) (KI (WF l x)) i [.pointer (Ua ⟨b,0,Ub⟩)]:=by
 obtain⟨K,l,p,Y,Z,N,j,q,s,cells,e,G,J,c3,C,X,D,L,t,y,z,A,U,V,W⟩:=h;obtain⟨u,S,Q,m⟩:=Zvi V;obtain⟨r,T,R,n⟩:=Zvk W
 have f:∀k,k∈js.filter (fun k=>Ue (p k))↔p k:=fun k=>by simp only[Vub,KD];exact⟨fun h=>h.2,fun h=>⟨(j k h).1,h⟩⟩
 refine⟨l,b::(js.filter (fun k=>Ue (p k))++(u++r)),N,?_,?_,Zsz tn tq lt lb,b,_,cells,e,rfl,rfl,L,?_,?_⟩
 ·refine Vr.2 ⟨fun c=>?_,Vh.2 ⟨M.filter _,Vh.2 ⟨Q,R,fun k c O d e=>?_⟩,fun k c O d e=>?_⟩⟩
  ·rcases Vi.1 c with c|c
   ·exact(j b ((f b).1 c)).2.1 rfl
   ·rcases Vi.1 c with c|c
    ·exact(q b (m b c)).2.1 rfl
    ·exact(s b (n b c)).2 rfl
  ·subst e;exact(q k (m k c)).2.2 (n k d)
  ·subst e;rcases Vi.1 d with d|d
   ·exact(j k ((f k).1 c)).2.2.1 (m k d)
   ·exact(j k ((f k).1 c)).2.2.2 (n k d)
 ·intro k c;rcases Vt.1 c with rfl|c
  ·exact K
  ·rcases Vi.1 c with c|c
   ·exact(j k ((f k).1 c)).1
   ·rcases Vi.1 c with c|c
    ·exact(q k (m k c)).1
    ·exact(s k (n k c)).1
 ·have:=congrArg List.length t;simp only[Vn,Vj,List.length_cons,List.length_nil,Rd.length _ _ _ y,Rd.length _ _ _ z,Rd.length _ _ _ A]at this;rw[this];simp [Jd,Ty.size]
 ·rw[t];refine⟨[],_,G,_,rfl,rfl,⟨rfl,y⟩,[],_,J,_,rfl,rfl,⟨rfl,z⟩,[],_,c3,_,rfl,rfl,⟨rfl,A⟩,_,_,[C],_,rfl,rfl,⟨C,rfl,?_⟩,u,r,[X],[D],rfl,rfl,S,r,[],[D],[],by simp,rfl,T,rfl,rfl⟩;exact U.mono (fun _ _=>rfl) (fun _ h=>h) (fun k c=>(f k).2 c) fun _ _=>rfl
theorem ZsA{w:World}{I:Nat->Prop}{js:List Nat}{tn tq lt lb:Ty}{x:ZO tn tq lt lb}{d:El lb->Nat}{cs:List Value}(h:PC w I (Yb tn tq lt lb) (KI (WF d x)) js cs)(m:js.Nodup)(u:X2 d x):
 ∃b,cs=[.pointer (Ua ⟨b,0,Ub⟩)]/\Rn w I (· ∈js) tn tq lt lb x b:=by
 obtain⟨_,b,C,cells,e,rfl,rfl,r,t,s⟩:=h;obtain⟨_,_,n,_,rfl,q,⟨rfl,J⟩,_,_,p,_,rfl,rfl,⟨rfl,K⟩,_,_,c3,_,rfl,rfl,⟨rfl,L⟩,y,_,_,_,rfl,rfl,⟨Q,rfl,M⟩,z,_,_,_,rfl,rfl,D,A,_,_,_,rfl,rfl,G,rfl,rfl⟩:=s;obtain⟨R,rfl,N⟩:=Zmr D;obtain⟨S,rfl,O⟩:=Zmp G;simp only[Vvb,Vwb,Vr,Vh,Vi,not_or]at m;obtain⟨⟨f,i,j⟩,_,⟨_,_,d56⟩,l⟩:=m
 refine⟨b,rfl,by simp,d,(· ∈y),(· ∈z),(· ∈A),u,fun k c=>⟨by simp [c],fun e=>f (e▸c),fun h=>l k c k (.inl h) rfl,fun h=>l k c k (.inr h) rfl⟩,fun k c=>⟨by simp [c],fun e=>i (e▸c),fun h=>d56 k c k h rfl⟩,fun k c=>⟨by simp [c],fun e=>j (e▸c)⟩,
  cells,e,n,p,c3,Q,R,S,r,by simpa using q,J,K,L,M,N,O⟩
end Tr
namespace Tr
open Go
section
variable {tn tq lt lb:Ty}
theorem Zne{w:World}{I J:Nat->Prop}{d:El lb->Nat}{l:List (El lb)}{v:Value}(h:Wp w I J (.pn lb) (l.map (Kq d)) v){y:El lb}(k:y∈l):∃cells e,w.heap[d y]? =Ua (.cells cells e (0,0))/\Rd w I lb y cells.toList:=by
 rcases h with ⟨h,_⟩|⟨b,cap,cells,e,m,_,_,_,_,_,f,_⟩
 ·rw[Vhb]at h;subst h;cases k
 ·obtain⟨i,q⟩:=Vba k;obtain⟨c,_,j⟩:=f.get i (Kq d y) (by rw[Vs,q];rfl);simp only[Kq,Rd,YN]at j;obtain⟨cells,e,_,_,n,p⟩:=j;exact⟨cells,e,n,p⟩
theorem Zvj{w:World}{I J:Nat->Prop}{d:El lb->Nat}{l:List (El lb)}{v:Value}(h:Hc w I J lb (l.map (Kq d)) v){y:El lb}(k:y∈l):∃cells e,w.heap[d y]? =Ua (.cells cells e (0,0))/\Rd w I lb y cells.toList:=by
 rcases h with ⟨h,_⟩|⟨b,off,cap,cells,e,q,_,_,_,_,_,f,_⟩
 ·rw[Vhb]at h;subst h;cases k
 ·obtain⟨i,p⟩:=Vba k;obtain⟨c,_,j⟩:=f.get i (Kq d y) (by rw[Vs,p];rfl);simp only[Kq,Rd,YN]at j;obtain⟨cells,e,_,_,m,n⟩:=j;exact⟨cells,e,m,n⟩
theorem ZsC{w:World}{I:Nat->Prop}{js:List Nat}{x:ZO tn tq lt lb}{d:El lb->Nat}{cs:List Value}(h:PC w I (Yb tn tq lt lb) (KI (WF d x)) js cs):∀y∈JN x,∃cells e,w.heap[d y]? =Ua (.cells cells e (0,0))/\Rd w I lb y cells.toList:=by
 obtain⟨_,b,n,cells,e,rfl,rfl,D,m,k⟩:=h;obtain⟨_,_,u,_,rfl,A,⟨rfl,M⟩,_,_,z,_,rfl,rfl,⟨rfl,N⟩,_,_,c3,_,rfl,rfl,⟨rfl,O⟩,J,_,_,_,rfl,rfl,⟨R,rfl,C,⟨G,f⟩,Q⟩,K,_,_,_,rfl,rfl,p,L,_,_,_,rfl,rfl,q,rfl,rfl⟩:=k;obtain⟨S,rfl,s⟩:=Zmr p;obtain⟨T,rfl,t⟩:=Zmp q;intro y c;simp only[JN,Vi,Vra]at c;rcases c with (⟨r,l,c⟩|c) |c
 ·obtain⟨i,j⟩:=Vba l;have:=f.rd i (r.map (Kq d)) (by show (WF d x).2.2.2.1[i]? =_;simp only[WF];rw[Vs,j];rfl) (by simp);exact Zne this c
 ·exact Zvj s c
 ·exact Zne t c
def Zv2(g:K2 (Yb tn tq lt lb)->El (.pn lb)->Option (K2 (Yb tn tq lt lb)))(pl:Bool):Spec:= {args:=.cons (Yb tn tq lt lb) (.cons (.pd (.pn lb)) .nil),res:=.nil,fns:=[],α:=K2 (Yb tn tq lt lb),f:=fun x=>g x.1 x.2.1,unp:=fun z=>((z,(),()),()),pl:=pl}
def ZnA(h:ZO tn tq lt lb->El (.pt lb)->Option (ZO tn tq lt lb))(pl:Bool):Spec:= {args:=.cons (.fnd tn tq lt lb) (.cons (.pd (.pt lb)) .nil),res:=.nil,fns:=[],α:=ZO tn tq lt lb,f:=fun x=>h x.1 x.2.1,unp:=fun z=>((z,(),()),()),pl:=pl}
theorem ZtC{P:Program}{f:FuncId}{g:K2 (Yb tn tq lt lb)->El (.pn lb)->Option (K2 (Yb tn tq lt lb))}{h:ZO tn tq lt lb->El (.pt lb)->Option (ZO tn tq lt lb)}{pl:Bool}(hg:ZS P f (Zv2 g pl))(h0:∀x,h x Ub=Ub)
 (hh:∀(x:ZO tn tq lt lb) (u:El lb) (z:ZO tn tq lt lb),h x (Ua u)=Ua z->∀(A:El lb->Nat) (b:Nat),X2 A x->(∀y∈JN x,A y=b->y=u)->∃l:El lb->Nat,X2 l z/\g (KI (WF A x)) (Ua (b,u))=Ua (KI (WF l z))):
 ZS P f (ZnA h pl) where
 wf:=rfl
 fn:=hg.fn
 run:=by
  intro w I c2 js x (z:ZO tn tq lt lb) b5 G j hI amb X;obtain⟨x,u,⟨⟩⟩:=x
  change h x u=Ua z at X
  cases u with
  |none=>rw[h0]at X;cases X
  |some u=>
  obtain⟨j1,j2,v,r,rfl,rfl,⟨⟨b,hc,a4⟩,i⟩,j3,j4,V,r2,rfl,rfl,⟨⟨rfl,s⟩,c⟩,rfl,rfl⟩:=b5;simp only[Vwb]at G j amb⊢;obtain⟨A,S,b8,a7,d,M⟩:=Zk8 a4 G;have c1:=s;simp only[Rd,Hx]at s;obtain⟨b2,cells,e,a2,Z,D,N⟩:=s
  obtain⟨l,Q,a5⟩:=hh x u z X A b2 b8 fun y hy e=>by obtain⟨W,e',m,Y⟩:=ZsC M y hy;rw[e,D]at m;injection m with m;injection m with m;subst m;exact Rd.det lb y u _ Y N
  refine(hg.run w I [v,V] S (KI (WF A x),Ua (b2,u),()) (KI (WF l z)) ?_ a7 (fun k p=>j k (d k p)) hI (fun b3=>?_) a5).mono ?_
  ·refine⟨S,[],v,[V],by simp,rfl,⟨by rw[hc];exact M,.inr ?_⟩,[],[],V,[],rfl,rfl,⟨⟨rfl,?_⟩,.inr ?_⟩,rfl,rfl⟩
   ·rcases i with i|i
    ·cases i
    ·exact i
   ·simp only[Rd,YN];exact⟨cells,e,a2,Z,D,N⟩
   ·rcases c with c|c
    ·cases c
    ·exact c
  ·intro b hb;obtain⟨T,U,q3⟩:=amb b3 b hb;exact⟨T,fun p=>U (d b p),q3⟩
  ·rintro e w' ⟨rv,rfl,I',jo,jr,b4,b6,J,a6,a0,C,a8,t,L,b7,q⟩;refine⟨rv,rfl,I',jo,jr,?_,b6,J,fun k p=>?_,a0,fun k p=>?_,a8,t,L,b7,fun k m Y=>q k m fun h=>Y (d k h)⟩
   ·obtain⟨k1,k2,v',r',rfl,R,a9,k3,k4,c4,b9,rfl,n,b0,b1⟩:=b4;simp only[Xe]at R;obtain⟨rfl,rfl⟩:=R;simp only[Xe]at n;obtain⟨rfl,O⟩:=n
    have K:k1.Nodup:=by have:=(Vh.1 J).1;exact(Vh.1 this).1
    obtain⟨b',a1,a3⟩:=ZsA a9 K Q;exact⟨k1,_,v,[V],rfl,rfl,⟨b',a1,a3⟩,k3,k4,V,b9,rfl,by rw[O],b0,b1⟩
   ·obtain⟨T,U,q3⟩:=a6 k p;exact⟨T,U,q3.imp (d k) fun h=>h⟩
   ·obtain⟨T,U⟩:=C k p;exact⟨T,U.imp (fun h=>h) fun h=>h.imp (d k) fun h=>h⟩
end
end Tr
end
section
namespace Tr
open Go
section ops
variable {P:Program}{E:Ka}{B:Z1}{H:AH}{w:World}{g:Gh}{ow:Nat->Nat->Prop}{nid:Nat}{a:Act}{F:Nat->AV}{v:AV}{patch:Kx}{rd:List Nat}{o:Oper}
theorem Zvh{I J:Nat->Prop}{lb:Ty}{xs:List (El (.pn lb))}{c:Value}(h:Hc w I J lb xs c):∃(d:Option Addr) (cap:Nat),c=.slice d xs.length cap/\xs.length<=cap:=by
 rcases h with ⟨rfl,rfl⟩|⟨b,off,cap,cells,e,i,rfl,_,_,f,_⟩
 ·exact⟨Ub,0,rfl,Vd _⟩
 ·exact⟨_,cap,rfl,f⟩
theorem Zfb{w' :World}{J:Nat->Prop}{lb:Ty}{xs:List (El (.pn lb))}{val:Value}{r:Result Next}(i:RH B H w g ow)(j:¬g.K nid)(c:∀k,k<w.heap.size->w'.heap[k]? =w.heap[k]?)(t:w.heap.size<=w'.heap.size)(n:w'.os=w.os)(f:w'.tape=w.tape)(l:YK w' w)
 (L:r=.ok (.value val) w') (x:Hc w' g.I (fun b=>J b\/(w.heap.size<=b/\b<w'.heap.size)) lb xs val) (D:∀b,J b->¬g.I b/\b<w.heap.size/\(B.own0 b\/B.w0.heap.size<=b)/\ ∀id,H id≠Ub->¬ow id b):Zq B (ZY H nid (Ua (.vco lb xs))) w g nid (.vw nid) r:=by
 have d:val.oneCell' =true:=by obtain⟨M,cap,rfl,_⟩:=Zvh x;rfl
 have key:ORel w' (g.add nid (.pn lb) Ub val) (fun b=>J b\/(w.heap.size<=b/\b<w'.heap.size)) nid (.vco lb xs):=by
  refine⟨by simp [Gh.add],?_⟩;have e:(g.add nid (.pn lb) Ub val).slv nid=val:=by simp [Gh.add]
  rw[e];exact x
 refine⟨val,w',g.add nid (.pn lb) Ub val,Xd ow nid (fun b=>J b\/(w.heap.size<=b/\b<w'.heap.size)),.inl L,?_,Gh.le_add j _ _ _,fun b G=>c b (i.ilt b G),?_,?_⟩
 ·refine i.add j c t n f l (fun k m=>?_) key;rcases m with m|⟨N,y⟩
  ·obtain⟨p,q,r,s⟩:=D k m;exact⟨p,by omega,r,s⟩
  ·refine⟨fun C=>absurd (i.ilt _ C) (by omega),y,.inr (by have:=i.size;omega),fun u z A=>?_⟩;have:=(i.sep u _ z A).2.1;omega
 ·refine KK ?_ d rfl;simp only[CV];exact⟨.inl rfl,by simp [Gh.add],by simp [Gh.add,d]⟩
 ·intro id h;rcases h with rfl|h
  ·exact .inr ⟨Vd _,by unfold Wr;omega⟩
  ·exact .inl h
theorem ZwA{T:Nat}{x i:Operand}{id j:Nat}{k:IntKind}{n:Int}{lb:Ty}{xs:List (El (.pn lb))}(h:Z3 P E)(f:RH B H w g ow)(hF:Fr w g F a.tmps)(G:o.op=.indexAddr T x i)(L:Zx F x=.vw id)(A:Zx F i=.d (.int k) n)(u:H id=Ua (.vco lb xs))(J:E.ty T=Ua (.sl (.pn lb)))(C:Zs n xs.length=Ua j):
 Zq B H w g nid (.op id j) ((execOp a.eval o).run P w):=by
 obtain⟨r,p,rfl⟩:=ZaD C;obtain⟨M,s,t⟩:=W1 h J;obtain⟨D,c⟩:=(L▸hF.eval x).vw;obtain⟨_,K,y⟩:=f.objs id _ u;rcases y with ⟨rfl,_⟩|⟨b,off,cap,cs,e,R,m,N,O,Q,l,z,q⟩
 ·simp at p;omega
 refine Zq.pure (val:=.pointer (Ua ⟨b,off+n.toNat* (Ty.pn lb).size,Ub⟩)) f ?_ (KK ?_ rfl rfl)
 ·simp only[execOp,G,c,m,(A▸hF.eval i).int,Vc,ZaY h s t r p,Vb,Ve]
 ·simp only[CV];exact⟨D,b,off,_,_,m,by simp [Ty.size]⟩
theorem ZwB{T:TypeId}{x:Operand}{id i:Nat}{lb:Ty}{xs:List (El (.pn lb))}{y:El (.pn lb)}(S:Z3 P E)(J:RH B H w g ow)(hF:Fr w g F a.tmps)(W:o.op=.load T x)(hx:Zx F x=.op id i)(Q:H id=Ua (.vco lb xs))(Y:E.ty T=Ua (.pn lb))(M:xs[i]? =Ua y):
 Zq B H w g nid (.d (.pn lb) y) ((execOp a.eval o).run P w):=by
 have D:VR w g (.op id i) (a.eval x):=hx▸hF.eval x;obtain⟨f,c⟩:=D;simp only[CV]at f;obtain⟨hk,b,off,len,cap,z,U⟩:=f
 have n:a.eval x=.pointer (Ua ⟨b,off+i,Ub⟩):=KU U (by
  rcases c with c|c
  ·cases c
  ·exact c)
 obtain⟨_,Z,R⟩:=J.objs id _ Q;rcases R with ⟨rfl,_⟩|⟨b',N,G,cs,e,hs,q,hJ,V,hl,K,s,l⟩
 ·simp at M
 ·rw[z]at q;simp only[Vx.injEq,ZB,Addr.mk.injEq,and_true]at q;obtain⟨⟨rfl,rfl⟩,rfl,rfl⟩:=q;obtain⟨u,L,m⟩:=s.get i y M;obtain⟨r,X⟩:=l
  have C:cs.toList[off+i]? =Ua u:=by rw[<-Vkb, <-X,Vma (Vk.1 L).1,L]
  obtain⟨t,A⟩:=Vk.1 C
  have p:cs.toList=cs.toList.take (off+i)++[u]++cs.toList.drop (off+i+1):=by
   conv=>lhs;rw[<-Vu (off+i) cs.toList,List.drop_eq_getElem_cons t,A]
   simp
  have h:=Y6.of_heap V p;have j:(cs.toList.take (off+i)).length=off+i:=by rw[Vm];omega
  rw[j]at h;have O:=Zit (P:=P) (S.ty T _ Y) (cs:=[u]) (b:=b) (o:=off+i) h rfl (fun _=>⟨u,rfl⟩);have k:=Rd.oneCell (.pn lb) y [u] m u (by simp);refine Zq.pure J (val:=u) ?_ (KK (by simp only[CV];exact m) k rfl);simp only[execOp,W,n,Instr.loadAt,Vbb,Vc,Ve,Vb,O,GQ];rfl
theorem ZwC{T:TypeId}{x:Operand}{lo G:Option Operand}{id c f:Nat}{lb:Ty}{xs:List (El (.pn lb))}(V:Z3 P E)(z:RH B H w g ow)(hF:Fr w g F a.tmps)(M:¬g.K nid)(ho:o.op=.slice T x lo G Ub)(hx:Zx F x=.vw id)(S:H id=Ua (.vco lb xs))(ht:E.ty T=Ua (.sl (.pn lb)))(L:XL (Zx F) lo=Uc)(C:XL (Zx F) G=Uc)
 (N:sliceB xs.length xs.length (lo.bind fun o=>KR (Zx F o)) (G.bind fun o=>KR (Zx F o))=Ua (c,f)):Zq B (ZY (ZY H id Ub) nid (Ua (.vco lb ((xs.drop c).take (f - c))))) w g nid (.vw nid) ((execOp a.eval o).run P w):=by
 obtain⟨Y,hu,A⟩:=W1 V ht;obtain⟨hk,he⟩:=(hx▸hF.eval x).vw;obtain⟨_,a2,k⟩:=z.objs id _ S;have t:H id≠none:=by rw[S];simp
 have key:∃(i:Option Addr) (cap:Nat),g.slv id=.slice i xs.length cap/\xs.length<=cap/\(∀m n,m+n<=xs.length->Hc w g.I (ow id) lb ((xs.drop m).take n) (.slice (if cap=m then i else i.map (·.add (m* (Ty.pn lb).size))) n (cap - m))):=by
  rcases k with ⟨rfl,k⟩|⟨b,off,cap,cs,e,N,k,U,X,hl,W,s,y⟩
  ·refine⟨Ub,0,k,Vd _,fun l n u=>.inl ⟨by simp,?_⟩⟩;simp at u;obtain⟨rfl,rfl⟩:l=0/\n=0:=by omega
   rfl
  ·refine⟨_,cap,k,hl,fun m n u=>?_⟩;have d:((xs.drop m).take n).length=n:=by rw[Vm,Vca];omega
   obtain⟨r,hr⟩:=y;have D:=s.length;by_cases Q:cap=m
   ·have hn:n=0:=by omega
    subst hn;rw[Zv Q];refine .inr ⟨b,off,cap - m,cs,e,[],by rw[d],U,X,by rw[d];omega,by omega,by rw[List.take_zero];trivial,List.nil_prefix⟩
   ·rw[Zg Q];refine .inr ⟨b,off+m,cap - m,cs,e,(N.drop m).take n,by rw[d];simp [Vda,GC,Ty.size],U,X,by rw[d];omega,by omega,(s.drop m).take n,?_⟩;rw[<-Vga, <-hr,Via (by omega)];exact(List.take_prefix _ _).trans (Vlb _ _)
 obtain⟨i,cap,Z,h2,h3⟩:=key;obtain⟨j,a1,D⟩:=ZaZ (P:=P) (w:=w) (isS:=true) hF h2 (Zah L) (Zah C) N (Vd _)
 refine Zfb (w' :=w) (J:=ow id) (val:=.slice (if cap=c then i else i.map (·.add (c* (Ty.pn lb).size))) (f - c) (cap - c)) (z.drop id) M (fun _ _=>rfl) (Vd _) rfl rfl ⟨rfl,Vd _⟩ ?_ ?_ fun b j=>?_
 ·simp only[execOp,ho,he,Z,Veb,Vcc,Vza,underlying,Vc,run_program,Vb,hu,Ve,j,(V.ty Y _ A).run_sizeOf]
 ·exact(h3 c (f - c) (by omega)).mono (fun _ _=>rfl) (fun _ h=>h) (fun b _ j=>.inl j) fun _ _ _=>rfl
 ·obtain⟨p,q,r⟩:=z.sep id b t j;exact⟨p,q,r,fun O R h5=>(YF R).1 (z.dist O id b (YF R).2 t h5 j)⟩
theorem ZpT{lb:Ty}{ie:TypeInfo}{z:Value}{T0 T1 Et E1 ty:TypeId}{argTypes:Array TypeId}{sv xv:Value}{id:Nat}{xs l:List (El (.pn lb))}{r:Result Next}(hR:RH B H w g ow)(U:¬g.K nid)
 (h0:argTypes[0]? =Ua T0) (h1:argTypes[1]? =Ua T1) (hu:P.underlying T0=Ua (.slice Et)) (b9:P.underlying T1=Ua (.slice E1))
 (b3:P.info? Et=Ua ie) (hz:ie.zero=Ua z) (c4:z.cells.size=1) (L:ie.size=1) (a9:ie.bytes<=256) (b7:xs.length+l.length<=549755813888)
 (a3:H id≠Ub) (hS:Hc w g.I (ow id) lb xs sv) (hX:Zbc w g (.pn lb) l xv)
 (hr:∀val w',(Vxb argTypes ty #[sv,xv]).run P w=.ok val w' ->r=.ok (.value val) w'):Zq B (ZY (ZY H id Ub) nid (Ua (.vco lb (xs++l)))) w g nid (.vw nid) r:=by
 have R:RH B (ZY H id Ub) w g ow:=hR.drop id;obtain⟨xb,c,a0,rfl,m,b6⟩:=hX;obtain⟨f,b0,A⟩:=Zhq m;have c6:=A.length
 have b1:∀w',Jh w w' ->(Vea ie.size l.length (.slice xb l.length c)).run P w' =.ok f.toArray w' :=by
  intro w' hw;rw[L, <-b0];by_cases hy:l=[]
  ·subst hy;have:a0=[]:=by have:=m.length;grind
   subst this
   cases xb with
   |none=>rfl
   |some ad=>exact run_firstCells_some (P:=P) w' _ _ ad _ _ [] (by simp) (by simp)
  ·obtain⟨b,off,rfl,hL⟩:=b6 hy;exact Zhw (sz:=1) (Rd.all_length m) m.length.symm hL hw
 have b8:∃base cap d,sv=.slice base xs.length cap/\d.length=xs.length/\Fa (fun x v=>Rd w g.I (.pn lb) x [v]) xs d/\(∀w',Jh w w' ->(Vea ie.size xs.length (.slice base xs.length cap)).run P w' =.ok d.toArray w')/\((base=Ub/\cap=0/\xs=[])\/
  ∃b off cs e,ow id b/\base=Ua ⟨b,off,Ub⟩/\w.heap[b]? =Ua (.cells cs e (0,0))/\off+cap<=cs.size/\d<+:cs.toList.drop off):=by
  rw[L];rcases hS with ⟨rfl,rfl⟩|⟨b,off,cap,cs,e,hd,rfl,a6,hh,_,t,q,hp⟩
  ·exact⟨Ub,0,[],rfl,rfl,trivial,fun w' _=>by rfl,.inl ⟨rfl,rfl,rfl⟩⟩
  ·refine⟨_,cap,hd,rfl,q.length.symm,q,fun w' hw=>?_,.inr ⟨b,off,cs,e,a6,rfl,hh,t,hp⟩⟩;refine run_firstCells_some (P:=P) w' 1 _ _ _ cap _ (by rw[q.length];omega) ?_;intro j u hj;obtain⟨r,hr⟩:=hp
   have c1:cs.toList[off+j]? =Ua u:=by rw[<-Vkb, <-hr,Vma (Vk.1 hj).1,hj]
   rw[GC];simp only[Vdc,hw.heap,hh,Option.isSome_none,Vjb,if_false];rw[<-Vv];exact c1
 obtain⟨base,cap,d,rfl,b5,a2,b2,T⟩:=b8;have Q:(xs++l).length=xs.length+l.length:=Vj;have q:=a2.append A;rcases Ziq (ty:=ty) h0 h1 hu b9 b3 hz a9 b2 b1 b7 with ⟨V,p⟩|⟨i,w1,c7,M,p⟩
 ·rcases T with ⟨rfl,rfl,rfl⟩|⟨b,off,cs,e,O,rfl,hh,t,hp⟩
  ·have hy:l=[]:=by
    have:l.length=0:=by simpa using V
    exact List.length_eq_zero_iff.1 this
   subst hy;have D:=hr _ _ (p.trans (by simp only[Vc,Ve,Vb];rfl));exact Zfb (J:=fun _=>False) R U (by simp) (Vd _) rfl rfl ⟨rfl,Vd _⟩ D (.inl ⟨rfl,rfl⟩) (by simp)
  ·have hs:=hR.sep id b a3 O;have a5:∀u∈f,u.oneCell' =true:=A.all_right fun x v h=>Rd.oneCell (.pn lb) x [v] h v (by simp);obtain⟨rest,G⟩:=hp
   have c5:off+(d.length+rest.length)=cs.size:=by have:=congrArg List.length G;simp only[Vj,Vca,Vn]at this;omega
   have X:=run_storeCells_at P b (off+xs.length*1) e f 0 cs w hh (by omega) a5
   have Y:cs.toList.take (off+xs.length)=cs.toList.take off++d:=by rw[List.take_add, <-G, <-b5];simp
   have a4:(cs.toList.take (off+xs.length*1+0)++f++cs.toList.drop (off+xs.length*1+0+f.length))=cs.toList.take off++((d++f)++cs.toList.drop (off+xs.length+f.length)):=by simp only[Nat.mul_one,Vua,Y,List.append_assoc]
   rw[a4]at X;generalize N:cs.toList.take off++((d++f)++cs.toList.drop (off+xs.length+f.length))=l' at X
   have b4:l'.length=cs.size:=by rw[<-N];simp only[Vj,Vm,Vca,Vn];omega
   have D:=hr (.slice (Ua ⟨b,off,Ub⟩) (xs.length+l.length) cap) (w.setRow b l'.toArray) (p.trans (by simp only[Vc,GC,L,X,Vb,Ve]))
   have n:∀k,k≠b->(w.setRow b l'.toArray).heap[k]? =w.heap[k]? :=fun k s=>setRow_other w b k _ s
   have C:∀k,ZY H id Ub k≠Ub->¬ow k b:=by intro k s hb;obtain⟨h3,h4⟩:=YF s;exact h3 (hR.dist k id b h4 a3 hb O)
   have S:=R.free (w' :=w.setRow b l'.toArray) (b:=b) C hs.1 hs.2.2 n (size_setRow w b _) rfl rfl ⟨rfl,Vd _⟩;have a1:Km g.I w (w.setRow b l'.toArray):=fun k s=>n k fun e=>hs.1 (e▸s);have y:=Zfb (w' :=w.setRow b l'.toArray) (J:=fun k=>k=b) (lb:=lb) (xs:=xs++l) S U (by simp) (Vd _) rfl rfl ⟨rfl,Vd _⟩ D ?_ (fun b' a7=>?_)
   ·obtain⟨val,w',g',Z,d1,d2,d3,d4,d5,d6⟩:=y;exact⟨val,w',g',Z,d1,d2,d3,fun k s=>(d4 k s).trans (a1 k s),d5,d6⟩
   ·refine .inr ⟨b,off,cap,_,e,d++f,by rw[Q],.inl rfl,Ra hh,by omega,?_,q.mono fun x v hx=>Rd.mono a1 (fun _ h=>h) (.pn lb) x [v] hx,?_⟩
    ·rw[Vna,b4];exact t
    ·rw[<-N];have:(cs.toList.take off).length=off:=by rw[Vm,Vn];omega
     simp only;rw[Via (by omega),List.drop_eq_nil_of_le (by omega),Vvb];exact Vlb _ _
   ·subst a7;exact⟨hs.1,by rw[size_setRow];exact hs.2.1,hs.2.2,C⟩
 ·have D:=hr _ _ p;have S:=R.same M;have W:w1.heap.size=w.heap.size:=by rw[M.heap]
  have y:=Zfb (w' :=w1.alloc (.cells (d.toArray++f.toArray++Vw z.cells (i - (xs.length+l.length))) Et)) (J:=fun _=>False) (lb:=lb) (xs:=xs++l) S U (fun k s=>DK s) (by simp) rfl rfl ⟨rfl,Vd _⟩ D ?_ (by simp)
  ·obtain⟨val,w',g',Z,d1,d2,d3,d4,d5,d6⟩:=y;exact⟨val,w',g',Z,d1,d2,d3,fun k s=>(d4 k s).trans (M.agree g.I k s),d5,d6⟩
  ·have a8:∀b,b<w.heap.size->(w1.alloc (.cells (d.toArray++f.toArray++Vw z.cells (i - (xs.length+l.length))) Et)).heap[b]? =w.heap[b]? :=fun b hb=>by rw[DK (by omega),M.heap]
   have c2:(Vw z.cells (i - (xs.length+l.length))).size=(i - (xs.length+l.length)) *1:=by simp [Vw,c4]
   refine .inr ⟨w1.heap.size,0,i,_,Et,d++f,by rw[Q,W],.inr ⟨Vd _,by simp⟩,G7 _ _,by omega,?_,q.mono fun x v hx=>Rd.mono (fun b hb=>a8 b (hR.ilt b hb)) (fun _ h=>h) (.pn lb) x [v] hx,by simp⟩;simp only[Array.size_append,Vna,c2];omega
theorem Zwz{c:Call}{s x:Operand}{L:TypeId}{id:Nat}{lb:Ty}{xs J:List (El (.pn lb))}{ids m m' :List Nat}(l:Z3 P E)(q:RH B H w g ow)(hF:Fr w g F a.tmps)(u:¬g.K nid)(ho:o.op=.call c)(Y:c.callee=.builtin .append)(f:c.args.toList=[s,x])(T:c.argTypes[0]? =Ua L)(j:E.ty L=Ua (.sl (.pn lb)))
 (b:Jm ((c.argTypes[1]?).bind E.ty)=Uc) (hx:Zx F s=.vw id) (M:H id=Ua (.vco lb xs)) (X:(GE (.pn lb) (Zx F x)).run H m=Ua ((J,ids),m')) (Z:xs.length+J.length<=ZD):Zq B (ZY (ZY H id Ub) nid (Ua (.vco lb (xs++J)))) w g nid (.vw nid) ((execOp a.eval o).run P w):=by
 have e:c.args.map a.eval= #[a.eval s,a.eval x]:=by
  have:c.args= #[s,x]:=by rw[<-Vqb];exact f
  rw[this];simp
 have:∃h n,c.argTypes[1]? =Ua h/\E.ty h=Ua (.sl n):=by
  cases O:c.argTypes[1]? with
  |none=>rw[O]at b;simp [Jm]at b
  |some h=>
   rw[O]at b;simp only[Za]at b
   cases Q:E.ty h with
   |none=>rw[Q]at b;simp [Jm]at b
   |some n=>cases n<;>rw[Q]at b<;>simp [Jm]at b;grind
 obtain⟨h,n,U,C⟩:=this;obtain⟨S,R,p⟩:=W1 l j;obtain⟨E1,D,_⟩:=W1 l C;obtain⟨ie,z,i,A,_,hz,k,_⟩:=(l.ty S _ p).info;have t:=(l.ty _ _ j).small _ _ R i
 have G:z.cells.size=(Ty.pn lb).size:=by obtain⟨V,W⟩:=Zf1 (w:=w) (g:=g) k;have:=CV.length _ (.pn lb) _ W V;simpa using this
 have d:∀val w',(Vxb c.argTypes o.type #[a.eval s,a.eval x]).run P w=.ok val w' ->(execOp a.eval o).run P w=.ok (.value val) w' :=by intro val w' d;simp only[execOp,ho,D3 Y,builtin,e,Vc,d,Vb,Ve]
 obtain⟨hk,y⟩:=(hx▸hF.eval s).vw;obtain⟨_,_,N⟩:=q.objs id _ M;have r:=Zbm q (hF.eval x) X;rw[<-y]at N;exact ZpT (ty:=o.type) q u T U R D i hz G A t Z (by rw[M];simp) N r d
theorem ZqG{c:Call}{x:Operand}{id lo n:Nat}{T0:TypeId}{t:Ty}{xs:List (El t)}(hT:Z3 P E)(hR:RH B H w g ow)(hF:Fr w g F a.tmps)(ho:o.op=.call c)(D:c.callee=.builtin .clear)(C:c.args.toList=[x])(h0:c.argTypes[0]? =Ua T0)(ht:E.ty T0=Ua (.sl t))(hx:Zx F x=.vs id lo n)(hH:H id=Ua (.vec t xs))(hd:t.data=Uc)(b1:lo+n<=xs.length):
 Zq B (ZY H id (Ua (.vec t (xs.take lo++Vaa n (zeroEl t)++xs.drop (lo+n))))) w g nid (.tup .nil) ((execOp a.eval o).run P w):=by
 obtain⟨Et,Q,a6⟩:=W1 hT ht;obtain⟨ie,z,b0,b6,hz,b7,_,N⟩:=Zf3 (w:=w) (g:=g) hT a6 hd;have R:(zeroValue Et).run P w=.ok z w:=by simp [zeroValue,typeInfo,b0,hz]
 have k:c.args.map a.eval= #[a.eval x]:=by
  have:c.args= #[x]:=by rw[<-Vqb];exact C
  rw[this];simp
 have W:∀w',(Vha c.argTypes o.type #[a.eval x]).run P w=.ok (.tuple #[]) w' ->(execOp a.eval o).run P w=.ok (.value (.tuple #[])) w' :=fun w' hr=>by simp only[execOp,ho,D3 D,builtin,k,Vc,hr,Vb,Ve]
 have hv:∀{w' :World}{g' :Gh},VR w' g' (.tup .nil) (.tuple #[]):=⟨[],rfl,rfl⟩;obtain⟨hk,A⟩:=(hx▸hF.eval x).vs;have Y:H id≠none:=by rw[hH];simp
 by_cases hn:n=0
 ·subst hn;have e:xs.take lo++Vaa 0 (zeroEl t)++xs.drop (lo+0)=xs:=by simp
  rw[e,Zn5 hH];refine Zq.pure hR (W _ ?_) hv;rcases A with ⟨_,_,_,S⟩|⟨b,len,cap,m,h1,h2,S,h4,h5⟩
  ·have V:a.eval x=.slice Ub 0 0:=by simpa using S
   rw[V];simp only[Vha,h0,Zbl,underlying,Vc,run_program,Vb,Q,Ve]
  ·have V:a.eval x=.slice (Ua ⟨b,if m=0 then 0 else lo* (g.ty id).size,Ub⟩) 0 m:=by simpa using h5
   rw[V];simp only[Vha,h0,Zbl,underlying,Vc,run_program,Vb,Q,Ve]
 ·obtain⟨hK,a5,hO⟩:=hR.objs id _ hH;rcases A with ⟨_,_,S,_⟩|⟨b,len,cap,m,s,h2,S,h4,h5⟩
  ·exact absurd S hn
  have b2:m≠0:=by omega
  rw[Zg b2,a5]at h5;have V:a.eval x=.slice (Ua ⟨b,lo*t.size,Ub⟩) n m:=by simpa using h5
  rcases hO with ⟨rfl,_⟩|⟨b',b4,cs,e,d,U,L,i,hh,a8,a9,f,rest,M⟩
  ·simp at b1;omega
  rw[s]at i;simp only[Vx.injEq,ZB,Addr.mk.injEq,and_true]at i;obtain⟨rfl,rfl,rfl⟩:=i
  let j:=Vaa n z.cells.toList
  have G:Fa (Rd w g.I t) (Vaa n (zeroEl t)) j:=N n;have b5:=JM (Rd.all_length f)
  have b3:(Vw z.cells n).toList=j.flatten:=by have:=Zco z.cells n;unfold Vw;exact this
  have K:j.flatten.length=n*t.size:=by rw[JM fun c D=>Rd.all_length G c D];simp [j]
  have J:((d.take lo).flatten).length=lo*t.size:=by rw[JM fun c D=>Rd.all_length f c (Vq D),Vm, <-f.length,Vz (by omega)]
  have a1:(((d.drop lo).take n).flatten).length=n*t.size:=by rw[JM fun c D=>Rd.all_length f c (List.mem_of_mem_drop (Vq D)),Vm,Vca, <-f.length,Vz (by omega)]
  have l:d.flatten=(d.take lo).flatten++(((d.drop lo).take n).flatten++(d.drop (lo+n)).flatten):=by rw[<-Vga, <-Vy,Vu, <-Vy,Vu]
  have r:cs.toList=(d.take lo).flatten++(((d.drop lo).take n).flatten++((d.drop (lo+n)).flatten++rest)):=by rw[<-M,l];simp
  have O:cs.size=lo*t.size+(n*t.size+((d.drop (lo+n)).flatten++rest).length):=by rw[<-Vn,r,Vj,Vj,J,a1]
  have a2:∀u∈j.flatten,u.oneCell' =true:=by intro u Q;obtain⟨c1,a7,Q⟩:=Vra.1 Q;exact G.all_right (p:=fun c=>∀u∈c,u.oneCell' =Uc) (fun y c hy=>Rd.oneCell t _ _ hy) c1 a7 u Q
  have a4:=run_storeCells_at P b (lo*t.size) e j.flatten 0 cs w hh (by rw[K];omega) a2
  have a0:(cs.toList.take (lo*t.size+0)++j.flatten++cs.toList.drop (lo*t.size+0+j.flatten.length))=(d.take lo++j++d.drop (lo+n)).flatten++rest:=by rw[Vua,K,r, <-J,Vac, <-Vga,Vka, <-a1,Vka];simp
  rw[a0]at a4
  have a3:(Vha c.argTypes o.type #[a.eval x]).run P w=.ok (.tuple #[]) (w.setRow b ((d.take lo++j++d.drop (lo+n)).flatten++rest).toArray):=by rw[V];obtain⟨n',rfl⟩:=Nat.exists_eq_succ_of_ne_zero hn;simp only[Vha,h0,Zbl,underlying,Vc,run_program,Vb,Q,Ve,R,b3,a4]
  have hs:=hR.sep id b Y L;have T:Km g.I w (w.setRow b ((d.take lo++j++d.drop (lo+n)).flatten++rest).toArray):=fun q hq=>setRow_other w b q _ fun e=>hs.1 (e▸hq)
  have X:Fa (Rd (w.setRow b ((d.take lo++j++d.drop (lo+n)).flatten++rest).toArray) g.I t) (xs.take lo++Vaa n (zeroEl t)++xs.drop (lo+n)) (d.take lo++j++d.drop (lo+n)):=
   (((f.take lo).append G).append (f.drop (lo+n))).mono fun x c hx=>Rd.mono T (by simp) t x c hx
  have Z:(xs.take lo++Vaa n (zeroEl t)++xs.drop (lo+n)).length=xs.length:=by simp;omega
  refine⟨.tuple #[],_,g,ow,.inl (W _ a3),hR.write Y L (fun q hq=>setRow_other w b q _ hq) (size_setRow w b _) rfl rfl ⟨rfl,Vd _⟩ ?_,.refl g,T,hv,fun id h=>.inl h⟩;refine⟨a5,.inr ⟨b,_,_,e,_,U,L,by rw[Z];exact s,Ra hh,by omega,?_,X,rest,by simp⟩⟩
  have h8:((d.take lo++j++d.drop (lo+n)).flatten++rest).length=cs.size:=by rw[O];simp only[Vy,Vj,J,K];omega
  rw[Vna,h8];exact a9
theorem Zt7{x:AV}{val:Value}{r:Bool}{m u:List Nat}(q:RH B H w g ow)(i:VR w g x val)(h:(Zfe x).run H m=Ua (r,u)):∃a n c,val=.slice a n c/\a.isNone=r:=by
 unfold Zfe at h;split at h
 ·simp only[Zf]at h;obtain⟨rfl,_⟩:=h;exact⟨Ub,0,0,i.nils,rfl⟩
 ·rename_i t xs;simp only[Zy,Zf]at h;obtain⟨_,d,rfl,_⟩:=h;have d:=Yw d;obtain⟨a,cap,f,rfl,_,j,_⟩:=i.sl;obtain⟨b,off,rfl,_⟩:=j (by rintro rfl;simp at d);exact⟨_,_,_,rfl,rfl⟩
 ·rename_i id;rw[ZX]at h;split at h
  ·rename_i t xs l;simp only[Zy,Zf]at h;obtain⟨_,d,rfl,_⟩:=h;have d:=Yw d;obtain⟨_,s⟩:=i.vw;obtain⟨_,_,p⟩:=q.objs id _ l;rcases p with ⟨rfl,_⟩|⟨b,cap,cs,e,f,_,_,k,_⟩
   ·simp at d
   ·exact⟨_,_,_,s.trans k,rfl⟩
  ·simp [Zb]at h
 ·simp [Zb]at h
theorem Zt8{b:BinOp}{T z:TypeId}{x y:Operand}{r:Bool}{m G:List Nat}(A:Z3 P E)(j:RH B H w g ow)(hF:Fr w g F a.tmps)(u:o.op=.binOp b T x y z)(D:Zx F y=.nils)(i:Jm (E.ty T)=Uc)(h:(Zfe (Zx F x)).run H m=Ua (r,G)):
 (b=.eql->Zq B H w g nid (.d .bool r) ((execOp a.eval o).run P w))/\(b=.neq->Zq B H w g nid (.d .bool (!r)) ((execOp a.eval o).run P w)):=by
 have:∃t,E.ty T=Ua (.sl t):=by
  cases e:E.ty T with
  |none=>rw[e]at i;simp [Jm]at i
  |some t=>cases t<;>rw[e]at i<;>simp [Jm]at i;exact⟨_,rfl⟩
 obtain⟨t,e⟩:=this;obtain⟨J,C,_⟩:=W1 A e;obtain⟨f,n,c,k,l⟩:=Zt7 j (hF.eval x) h;have p:=(D▸hF.eval y).nils
 have key:(Op.equal T (.slice f n c) (.slice Ub 0 0)).run P w=.ok r w:=by
  have:∀d,(Op.equalIn (d+1) T (.slice f n c) (.slice Ub 0 0)).run P w=.ok r w:=fun d=>by
   simp only[Op.equalIn,underlying,Vc,run_program,Vb,C,Ve]
   cases f<;>simp at l<;>subst l<;>simp
  exact this 9999
 have s:∀op,(eqGuard op T x y (.slice f n c) (.slice Ub 0 0)).run P w=.ok () w:=fun op=>Zb8 (by simp) rfl
 refine⟨fun q=>?_,fun q=>?_⟩<;>subst q
 ·refine Zq.pure j (val:=.bool r) ?_ (JW _);simp only[execOp,u,k,p,Vc,s,Vb,binOp,key,Ve]
 ·refine Zq.pure j (val:=.bool (!r)) ?_ (JW _);simp only[execOp,u,k,p,Vc,s,Vb,binOp,key,Ve]
theorem ZvN{T:TypeId}{x:Operand}{lo z:Option Operand}{id f i n:Nat}{t:Ty}{xs:List (El t)}(O:Z3 P E)(N:RH B H w g ow)(hF:Fr w g F a.tmps)(ho:o.op=.slice T x lo z Ub)(G:Zx F x=.ptr id [])(M:H id=Ua (.var (.arr n t) (.d (.arr n t) xs)))(ht:E.ty T=Ua (.arr n t))(C:XL (Zx F) lo=Uc)(y:XL (Zx F) z=Uc)
 (hs:sliceB n n (lo.bind fun o=>KR (Zx F o)) (z.bind fun o=>KR (Zx F o))=Ua (f,i)):Zq B (ZY H id Ub) w g nid (.d (.sl t) ((xs.drop f).take (i - f))) ((execOp a.eval o).run P w):=by
 obtain⟨S,hu,s⟩:=ZjE O ht;obtain⟨hk,o',t1,b,J,U,V⟩:=(G▸hF.eval x).ptr;rw[Wg]at J;obtain⟨rfl,rfl⟩:=Vec (Ky J);obtain⟨_,a1,_,b',cs,e,K,W,X,h7,L⟩:=N.objs id _ M;rw[U]at K;cases K;simp only[CV]at L;obtain⟨hl,l,m,p⟩:=L;have A:H id≠none:=by rw[M];simp
 have r:ZL H ow [id] b:=⟨id,by simp,A,W⟩;have u:=N.freezeIds (ids:=[id]);obtain⟨Y,a0,Z⟩:=ZaZ (P:=P) (w:=w) (isS:=Ud) hF (Vd _) (Zah C) (Zah y) hs (Vd _)
 refine Zq.after_le (g.le_grow (ZL H ow [id])) (fun _ h=>h) (Zq.pure (val:=.slice (Ua (if n=f then⟨b,0,Ub⟩ else Addr.add ⟨b,0,Ub⟩ (f*t.size))) (i - f) (n - f)) u ?_ (KK ?_ rfl rfl))
 ·simp only[execOp,ho,V,Veb,Vbb,Vza,underlying,Vc,run_program,Vb,hu,Ve,Y,(O.ty S t s).run_sizeOf]
 ·have k:((xs.drop f).take (i - f)).length=i - f:=by simp;omega
  have q:Fa (Rd w (g.grow (ZL H ow [id])).I t) xs l:=p.mono fun x c G=>Rd.mono (fun _ _=>rfl) (fun _ h=>.inl h) t x c G;simp only[CV,Rd];refine⟨_,n - f,(l.drop f).take (i - f),by rw[k],(q.drop f).take _,fun D=>?_,by rw[k];omega⟩;have R:0<i - f:=by rw[<-k];exact List.length_pos_iff.2 D
  have hL:Kw w b 0 l.flatten:=by
   intro j Q;rw[<-m]at Q;simp only[Vdc,X,Nat.zero_add]
   have:cs[j]? =Ua (l.flatten[j]'(by rw[<-m];exact Q)):=by rw[<-Vv];simp [m]
   simpa using this
  refine⟨b,0+f*t.size,?_,.inr r,Kw.part (Rd.all_length p) (by rw[<-p.length];omega) hL⟩;rw[Zg (by omega)];simp [Addr.add];exact fun h=>h.symm
end ops
end Tr
end
section
namespace Tr
open Go
section ops
variable {P:Program}{E:Ka}{B:Z1}{H:AH}{w:World}{g:Gh}{ow:Nat->Nat->Prop}{nid:Nat}{a:Act}{F:Nat->AV}{v:AV}{patch:Kx}{rd:List Nat}{o:Oper}
theorem Kw.of_cells{b:Nat}{cs:Array Value}{e:TypeId}(c:w.heap[b]? =Ua (.cells cs e (0,0))):Kw w b 0 cs.toList:=by have:=Kw.of_vec (w:=w) (b:=b) (css:=[cs.toList]) c (by simp);simpa using this
theorem Zg6{u v:AV}{val:Value}{l C:List Nat}(i:VR w g v val)(h:(RG v).run H l=Ua (u,C)):C=l/\ ∃t y,u=.dp t y/\VR w g u val/\ ∃b off,val=.pointer (Ua ⟨b,off,Ub⟩):=by
 unfold RG at h;split at h
 ·rename_i t x;simp only[Zy,Zf]at h;obtain⟨y,j,rfl,rfl⟩:=h;subst j;have f:CV w g (.d (.pt t) (Ua y)) val.cells.toList:=i.1;have r:Kf val=false:=i.2.resolve_left (by simp);simp only[CV,Rd]at f;obtain⟨b,c,e,k,m,n,q⟩:=f;obtain rfl:=KU k r;refine⟨rfl,t,y,rfl,KK ?_ rfl rfl,b,0,rfl⟩;simp only[CV];exact⟨b,0,c.toList,rfl,m,.of_cells n,q⟩
 ·rename_i a b x;simp only[Zy,Zf]at h;obtain⟨y,j,rfl,rfl⟩:=h
  cases x with
  |nil=>cases j
  |cons z x=>
   cases j;have f:CV w g (.d (.lk a b) (z::x)) val.cells.toList:=i.1;have r:Kf val=false:=i.2.resolve_left (by simp);simp only[CV,Rd]at f;obtain⟨p,off,A,cl,s,k,m,n,q,D,G⟩:=f;obtain rfl:=KU k r;refine⟨rfl,ZaQ a b,_,rfl,KK ?_ rfl rfl,p,off,rfl⟩;simp only[CV];refine⟨p,off,A++(cl++s),rfl,m,n,?_⟩;simp only[Rd];exact⟨A,cl++s,rfl,q,cl,s,rfl,D,G⟩
 ·rename_i t x;simp only[Zy,Zf]at h;obtain⟨y,j,rfl,rfl⟩:=h;subst j;have f:CV w g (.d (.pn t) (Ua y)) val.cells.toList:=i.1;have r:Kf val=false:=i.2.resolve_left (by simp);simp only[CV,Rd]at f;obtain⟨cells,e,k,m,n,q⟩:=f;obtain rfl:=KU k r;refine⟨rfl,t,_,rfl,KK ?_ rfl rfl,y.1,0,rfl⟩;simp only[CV];exact⟨y.1,0,cells.toList,rfl,m,.of_cells n,q⟩
 ·simp [Zb]at h
theorem ZmF{x:Operand}(h:(Zx F x).isPtD=Uc):∃n,x=.tmp n:=by
 cases x with
 |tmp n=>exact⟨n,rfl⟩
 |const c=>
  exfalso;simp only[Zx]at h;unfold Zee at h
  split at h<;>simp [AV.isPtD]at h
 |global i=>simp [Zx,AV.isPtD]at h
 |func f=>
  simp only[Zx]at h
  cases b:Nat.blt f WL<;>rw[b]at h<;>simp [AV.isPtD]at h
theorem Fr.put1{n:Nat}{u:AV}(hF:Fr w g F a.tmps)(c:VR w g u (a.eval (.tmp n))):Fr w g (fun k=>bif Vgb k n then u else F k) a.tmps:=by
 intro k
 cases b:Vgb k n with
 |true=>
  have:=Vl b;subst this
  show VR w g (bif Vgb k k then u else F k) _
  rw[b];exact c
 |false=>
  show VR w g (bif Vgb k n then u else F k) _
  rw[b];exact hF k
theorem ZuF{x:Operand}(c:RH B H w g ow)(hF:Fr w g F a.tmps)(d:o.op=.nilCheck x){u:AV}{l f:List Nat}(h:(RG (Zx F x)).run H l=Ua (u,f)):Zq B H w g nid (Zx F x) ((execOp a.eval o).run P w):=by obtain⟨_,t,y,_,_,b,off,e⟩:=Zg6 (hF.eval x) h;refine Zq.pure (val:=a.eval x) c ?_ (hF.eval x);simp [execOp,d,e]
theorem ZuD{T:TypeId}{x:Operand}(f:Z3 P E)(e:RH B H w g ow)(hF:Fr w g F a.tmps)(b:o.op=.load T x)(i:(Zx F x).isPtD=Uc)
 (h:((RG (Zx F x)).bind fun v=>ZN E nid (.load T x) o.type fun _=>v).run H []=Ua ((v,patch),rd)):Zq B (Zp H patch) w g nid v ((execOp a.eval o).run P w):=by
 obtain⟨n,rfl⟩:=ZmF i;rw[Z0]at h;obtain⟨u,m,c,d⟩:=h;obtain⟨rfl,t,y,rfl,j,_⟩:=Zg6 (hF.eval _) c;refine ZjA f e (Fr.put1 (n:=n) (u:=.dp t y) hF j) b (rd:=rd) ?_;rw[b];simpa only[ZN,Zx,Nat.beq_refl,Ze] using d
theorem ZuC{T f:Nat}{x:Operand}(i:Z3 P E)(e:RH B H w g ow)(hF:Fr w g F a.tmps)(b:o.op=.fieldAddr T x f)(j:(Zx F x).isPtD=Uc)
 (h:((RG (Zx F x)).bind fun v=>ZN E nid (.fieldAddr T x f) o.type fun _=>v).run H []=Ua ((v,patch),rd)):Zq B (Zp H patch) w g nid v ((execOp a.eval o).run P w):=by
 obtain⟨n,rfl⟩:=ZmF j;rw[Z0]at h;obtain⟨u,m,c,d⟩:=h;obtain⟨rfl,t,y,rfl,k,_⟩:=Zg6 (hF.eval _) c;refine Zjz i e (Fr.put1 (n:=n) (u:=.dp t y) hF k) b (rd:=rd) ?_;rw[b];simpa only[ZN,Zx,Nat.beq_refl,Ze] using d
theorem Zv7{T:TypeId}{x y:Operand}{u:AV}{t:Ty}{id:Nat}{p:List Nat}{t0:Ty}{c c' :AV}{H' :AH}{l X:List Nat}(S:Z3 P E)(z:RH B H w g ow)(U:o.op=.store T x y)(V:E.ty T=Ua t)(W:VR w g (.ptr id p) (a.eval x))(G:Ko w g u (a.eval y))(C:u.fits t=Uc)
 (R:H id=Ua (.var t0 c)) (O:(D9 t0 c p u).run H' l=Ua (c',X)):Zq B (ZY H id (Ua (.var t0 c'))) w g nid .junk ((execOp a.eval o).run P w):=by
 have h:=CV.oneCell _ _ (ZbI C).1 G.1 t C;have f:=CV.length _ t _ C G.1;obtain⟨hk,o',t1,b,J,K,Q⟩:=W.ptr;obtain⟨_,i,D,Y,cs,e,L,s,M,Z,j⟩:=z.objs id _ R;obtain⟨_,o2,pre,N,post,t2,⟨k,d,m,n⟩,q,r⟩:=Znp O D j G.1 (by omega);rw[i,k]at J;obtain⟨rfl,rfl⟩:=Vec (Ky J);rw[K]at L;cases L;subst m;have A:=Zd9 (cs' :=(pre++(a.eval y).cells.toList++post).toArray) z (by grind) s;refine Zq.write z (by grind) s (cs' :=(pre++(a.eval y).cells.toList++post).toArray) ?_ ?_
 ·simp only[execOp,U,Q,Instr.storeAt,Vbb,Vc,Ve,Vb,ZdB (S.ty T t V) M d rfl n f h]
 ·refine⟨i,q,b,_,e,K,s,Ra M,?_,?_⟩
  ·have:cs.size=pre.length+N.length+post.length:=by rw[<-Vn,d];grind
   grind
  ·simpa using CV.mono A (.refl g) _ _ r
theorem ZuG{T:TypeId}{x y:Operand}{t:Ty}{d:El t}{ids:List Nat}{id:Nat}{p:List Nat}{t0:Ty}{c c' :AV}{H' :AH}{l N O Q:List Nat}(J:Z3 P E)(s:RH B H w g ow)(hF:Fr w g F a.tmps)(K:o.op=.store T x y)(L:E.ty T=Ua t)(M:Zx F x=.ptr id p)
 (f:(Kk t (Zx F y)).run H O=Ua ((d,ids),Q)) (A:KO id ids=Ud) (G:H id=Ua (.var t0 c)) (D:(D9 t0 c p (.d t d)).run H' l=Ua (c',N)):
 Zq B (Zp H ((ids.map fun i=>(i,Ub))++[(id,Ua (.var t0 c'))])) w g nid .junk ((execOp a.eval o).run P w):=by
 have e:=g.le_grow (ZL H ow ids);have z:=Zgw f
 have q:∀m,Zx F y≠ .tup m:=by
  intro m n;rw[n]at f
  cases t<;>simp [Kk,Zb]at f
 have C:=(hF.eval y).to1 q;have r:Rd w (g.grow (ZL H ow ids)).I t d (a.eval y).cells.toList:=RA s (fun b j=>e.I b j) _ _ _ _ _ _ _ f C.1 (fun b j=>.inr j)
 have k:Zp H (ids.map fun i=>(i,Ub)) id=Ua (.var t0 c):=by rw[DU,Zg,G];intro n;rw[Jo.2 n]at A;cases A
 rw[Xj];refine Zq.after_le e (fun _ h=>h) (Zv7 (u:=.d t d) J s.freezeIds K L ((M▸hF.eval x).mono (fun _ _=>rfl) e) ⟨by simpa only[CV] using r,.inr ?_⟩ (by simp [AV.fits]) k D);rw[C.2.resolve_left z.1,z.2];rfl
theorem ZvJ{T:TypeId}{t:Ty}(h:Z3 P E)(i:E.ty T=Ua t)(c:Zdb (Ua t)=Uc):∃e,P.underlying T=Ua (.pointer e):=by
 have b:=(h.ty T t i).shape
 cases f:P.underlying T with
 |none=>rw[f]at b;cases t<;>simp [Zdb]at c<;>simp [Kd]at b
 |some d=>rw[f]at b;cases t<;>simp [Zdb]at c<;>cases d<;>simp [Kd]at b<;>exact⟨_,rfl⟩
theorem ZuB{t:Ty}{x:El t}{r:Bool}{val:Value}(n:VR w g (.d t x) val)(h:Zfo (.d t x)=Ua r):Zdb (Ua t)=Uc/\ ∃m:Option Addr,val=.pointer m/\r=m.isNone:=by
 have i:Kf val=Ud\/t.agg=true:=by
  have:=n.2.resolve_left (by simp);rw[this]
  cases p:t.agg with
  |true=>exact .inr rfl
  |false=>exact .inl p
 have f:Rd w g.I t x val.cells.toList:=by have:=n.1;simpa only[CV] using this
 unfold Zfo at h;split at h
 ·rename_i q y j;cases j;refine⟨rfl,?_⟩;have i:=i.resolve_right (by simp [Ty.agg])
  cases y with
  |none=>exact⟨Ub,KU f i,by simpa using h.symm⟩
  |some z=>obtain⟨b,off,c,k,_⟩:=f;exact⟨_,KU k i,by simpa using h.symm⟩
 ·rename_i A C y j;cases j;refine⟨rfl,?_⟩;have i:=i.resolve_right (by simp [Ty.agg])
  cases y with
  |nil=>exact⟨Ub,KU f i,by simpa using h.symm⟩
  |cons z l=>obtain⟨b,off,s,cl,u,k,_⟩:=f;exact⟨_,KU k i,by simpa using h.symm⟩
 ·rename_i q y j;cases j;refine⟨rfl,?_⟩;have i:=i.resolve_right (by simp [Ty.agg])
  cases y with
  |none=>exact⟨Ub,KU f i,by simpa using h.symm⟩
  |some z=>obtain⟨c,e,k,_⟩:=f;exact⟨_,KU k i,by simpa using h.symm⟩
 ·cases h
theorem ZuE{b:BinOp}{T m:TypeId}{x y:Operand}{t:Ty}{d:El t}{r:Bool}(p:Z3 P E)(i:RH B H w g ow)(hF:Fr w g F a.tmps)(l:o.op=.binOp b T x y m)(A:Zx F x=.d t d)(C:Zx F y=.nilr Uc)(s:Zfo (.d t d)=Ua r)(u:E.ty T=Ua t):
 (b=.eql->Zq B H w g nid (.d .bool r) ((execOp a.eval o).run P w))/\(b=.neq->Zq B H w g nid (.d .bool (!r)) ((execOp a.eval o).run P w)):=by
 obtain⟨q,c,f,rfl⟩:=ZuB (A▸hF.eval x) s;obtain⟨e,z⟩:=ZvJ p u q
 have h:a.eval y=.pointer none:=by
  have:=C▸hF.eval y;have n:Kf (a.eval y)=false:=by simpa [AV.isAgg] using this.2
  exact KU (Zl9 this.1) n
 have key:(Op.equal T (.pointer c) (.pointer Ub)).run P w=.ok c.isNone w:=by
  have:∀d,(Op.equalIn (d+1) T (.pointer c) (.pointer Ub)).run P w=.ok c.isNone w:=fun d=>by
   cases c<;>simp only[Op.equalIn,underlying,Vc,run_program,Vb,z,Ve]<;>rfl
  exact this 9999
 have k:∀op,(eqGuard op T x y (.pointer c) (.pointer Ub)).run P w=.ok () w:=fun op=>Zb8 (by simp) rfl
 refine⟨fun j=>?_,fun j=>?_⟩<;>subst j
 ·refine Zq.pure i (val:=.bool c.isNone) ?_ (JW _);simp only[execOp,l,f,h,Vc,k,Vb,binOp,key,Ve]
 ·refine Zq.pure i (val:=.bool (!c.isNone)) ?_ (JW _);simp only[execOp,l,f,h,Vc,k,Vb,binOp,key,Ve]
theorem ZmA{t:Ty}{x:El (.pn t)}{val:Value}(h:VR w g (.d (.pn t) x) val):(x=Ub/\val=.pointer Ub)\/ ∃y cells e,x=Ua y/\val=.pointer (Ua ⟨y.1,0,Ub⟩)/\w.heap[y.1]? =Ua (.cells cells e (0,0)):=by
 have f:Kf val=false:=h.2.resolve_left (by simp);have b:Rd w g.I (.pn t) x val.cells.toList:=by have:=h.1;simpa only[CV] using this
 cases x with
 |none=>exact .inl ⟨rfl,KU b f⟩
 |some y=>obtain⟨c,e,i,_,j,_⟩:=b;exact .inr ⟨y,c,e,rfl,KU i f,j⟩
theorem Zup{b:BinOp}{T J:TypeId}{x y:Operand}{t:Ty}{d j:El (.pn t)}(A:Z3 P E)(z:RH B H w g ow)(hF:Fr w g F a.tmps)(G:o.op=.binOp b T x y J)(O:Zx F x=.d (.pn t) d)(Q:Zx F y=.d (.pn t) j)(N:E.ty T=Ua (.pn t))(n:t.size≠0):
 (b=.eql->Zq B H w g nid (.d .bool (Ue (d.map Vo=j.map Vo))) ((execOp a.eval o).run P w))/\(b=.neq->Zq B H w g nid (.d .bool (!Ue (d.map Vo=j.map Vo))) ((execOp a.eval o).run P w)):=by
 have l:=(A.ty T _ N).shape
 obtain⟨e,i,M⟩:∃e,P.underlying T=Ua (.pointer e)/\E.ty e=Ua t:=by
  cases i:P.underlying T with
  |none=>rw[i]at l;simp [Kd]at l
  |some d=>rw[i]at l;cases d<;>simp [Kd]at l;exact⟨_,rfl,l⟩
 have R:=(A.ty e t M).run_sizeOf w
 have main:∃p q:Option Addr,a.eval x=.pointer p/\a.eval y=.pointer q/\(Op.equal T (.pointer p) (.pointer q)).run P w=.ok (Ue (d.map Vo=j.map Vo)) w:=by
  rcases ZmA (O▸hF.eval x) with ⟨rfl,k⟩|⟨u,S,V,rfl,k,K⟩<;>rcases ZmA (Q▸hF.eval y) with ⟨rfl,f⟩|⟨c,U,W,rfl,f,L⟩
  ·refine⟨_,_,k,f,?_⟩
   have:∀d,(Op.equalIn (d+1) T (.pointer Ub) (.pointer Ub)).run P w=.ok Uc w:=fun d=>by simp only[Op.equalIn,underlying,Vc,run_program,Vb,i,Ve];rfl
   exact this 9999
  ·refine⟨_,_,k,f,?_⟩
   have:∀d,(Op.equalIn (d+1) T (.pointer Ub) (.pointer (Ua ⟨c.1,0,Ub⟩))).run P w=.ok Ud w:=fun d=>by simp only[Op.equalIn,underlying,Vc,run_program,Vb,i,Ve];rfl
   exact this 9999
  ·refine⟨_,_,k,f,?_⟩
   have:∀d,(Op.equalIn (d+1) T (.pointer (Ua ⟨u.1,0,Ub⟩)) (.pointer Ub)).run P w=.ok Ud w:=fun d=>by simp only[Op.equalIn,underlying,Vc,run_program,Vb,i,Ve]
   exact this 9999
  ·refine⟨_,_,k,f,?_⟩
   have m:(sameAddr ⟨u.1,0,Ub⟩ ⟨c.1,0,Ub⟩).run P w=.ok (Ue (u.1=c.1)) w:=by
    by_cases e:u.1=c.1
    ·rw[e,run_sameAddr_same];simp
    ·rw[run_sameAddr_other w (a:=⟨u.1,0,Ub⟩) (b:=⟨c.1,0,Ub⟩) (fun h=>e (Addr.mk.inj h).1) K L];simp [e]
   have:∀d,(Op.equalIn (d+1) T (.pointer (Ua ⟨u.1,0,Ub⟩)) (.pointer (Ua ⟨c.1,0,Ub⟩))).run P w=.ok (Ue (u.1=c.1)) w:=fun d=>by simp only[Op.equalIn,underlying,Vc,run_program,Vb,i,Ve,R];simp only[ne_eq,n,not_false_eq_true,if_true,m]
   rw[show Ue (Vfc Vo (Ua u)=Vfc Vo (Ua c))=Ue (u.1=c.1) from by simp];exact this 9999
 obtain⟨p,q,f,s,key⟩:=main;have D:∀op,(eqGuard op T x y (.pointer p) (.pointer q)).run P w=.ok () w:=fun op=>Zb8 (by simp) rfl;generalize Ue (d.map Vo=j.map Vo)=r at key⊢
 refine⟨fun C=>?_,fun C=>?_⟩<;>subst C
 ·refine Zq.pure z (val:=.bool r) ?_ (JW _);simp only[execOp,G,f,s,Vc,D,Vb,binOp,key,Ve]
 ·refine Zq.pure z (val:=.bool (!r)) ?_ (JW _);simp only[execOp,G,f,s,Vc,D,Vb,binOp,key,Ve]
end ops
end Tr
end
section
namespace Tr
open Go
section ops
variable {P:Program}{E:Ka}{B:Z1}{H:AH}{w:World}{g:Gh}{ow:Nat->Nat->Prop}{nid:Nat}{a:Act}{F:Nat->AV}{v:AV}{patch:Kx}{rd:List Nat}{o:Oper}
theorem Zjw{α β:Type}(eq:α->α->Bool)(k:α):∀l:List (α×β),DM eq k l=(WY eq k l).getD l.length
 |[]=>rfl
 |e::l=>by
  simp only[DM,WY]
  cases eq k e.1 with
  |true=>rfl
  |false=>
   rw[Zd,Zd,Zjw eq k l]
   cases WY eq k l<;>rfl
theorem ZtN{T:TypeId}{m k:Operand}{id u:Nat}{c t:Ty}{y:El c}{es:List (El c×List (El t))}{mt:Ty×Ty}(hT:Z3 P E)(hR:RH B H w g ow)(hF:Fr w g F a.tmps)(ho:o.op=.mapEntry T m k)(c2:E.mty T=Ua mt)(b9:mt.1=c)(c1:mt.2=.sl t)(M:c.keyOk=Uc)
 (d4:Zx F m=.mp id) (b0:Zx F k=.d c y) (hH:H id=Ua (.mrows c t es u Ub)):
 Zq B (Zp H [(id,Ua (.mrows c t (Kn (Zm c) y ((ZT (Zm c) y es).getD []) es) u Ub))]) w g nid (.tup (.cons (.nw id u c y) (.cons (.d (.int .i64) ((DM (Zm c) y es:Nat):Int)) .nil))) ((execOp a.eval o).run P w):=by
 obtain⟨K,V,hu,hK,hV⟩:=hT.mty T mt c2;have hm:=hF.eval m;have b7:=hF.eval k;obtain⟨e3,b,hb,hv⟩:=(d4▸hm).mp;have a5:H id≠none:=by rw[hH];simp
 obtain⟨_,d8,c8,a2,c4,a3,S,l,clock,A,hJ,hh,Z,U⟩:=hR.objs id _ hH;rw[hb]at A;cases A;rw[b0]at b7;have a0:Ko w g (.d c y) (a.eval k):=b7;rw[b9]at hK;rw[c1]at hV;have N:=DY M
 have b5:=Zdz (w:=w) hT Ud _ c K y (a.eval k) 10000 (Nat.lt_succ_self _) hK N (by simp only[Ty.keyOk,Vf]at M;have:=Vab M.2;omega) a0
 have Y:=ZdA hT hK M a0 es l.toList (U.mono (by grind));have a4:(getObj b).run P w=.ok (.map l clock) w:=by simp only[getObj,Vrb,hh]
 have hz:=Zf4 (hT.ty V (.sl t) hV) w;have b8:l.size=es.length:=by have:=U.length;simpa using this.symm
 have fin:∀(G:World) (s:Array MapEntry) (c' :Nat) (R:List (El c×List (El t))),Jh w G->(Vcb T (a.eval m) (a.eval k)).run P w=.ok (.tuple #[g.row id c y,goInt ((DM (Zm c) y es:Nat):Int)]) {G with heap:=G.heap.setIfInBounds b (.map s c')} ->Ix s c' ->
  (g.row id c y).oneCell'=Uc->(∀k x,(k,x)∈R->(k,x)∈es\/x=[]/\g.row id c k=.slice Ub 0 0)->(R.map Vo).Nodup->(∀k,k ∉ R.map Vo->k ∉ es.map Vo)->
  (∀w2,Km g.I w w2->Fa (fun kv (e:MapEntry)=>Ko w2 g (.d c kv.1) e.key/\e.val=g.row id c kv.1) R s.toList)->
  Zq B (Zp H [(id,Ua (.mrows c t R u Ub))]) w g nid (.tup (.cons (.nw id u c y) (.cons (.d (.int .i64) ((DM (Zm c) y es:Nat):Int)) .nil))) ((execOp a.eval o).run P w):=by
  intro G s c' R hs c7 b6 X r c5 b4 a8;have c9:=hR.same hs
  have D:∀k,k≠b->({G with heap:=G.heap.setIfInBounds b (.map s c')} :World).heap[k]? =G.heap[k]? :=by
   grind
  have e1:=hR.sep id b a5 hJ
  have z:Km g.I w {G with heap:=G.heap.setIfInBounds b (.map s c')} :=fun k f=>by rw[D k (by grind),hs.heap]
  have a1:∀k,k≠b->({G with heap:=G.heap.setIfInBounds b (.map s c')} :World).heap[k]? =w.heap[k]? :=fun k f=>by rw[D k f,hs.heap]
  have a7:∀{J:Nat->Prop}{x:List (El t)}{hd:Value},Wp w g.I J t x hd->∀S,Wi hd=Ua S->S≠b:=by
   intro J x hd d7 S A e;subst e;rcases d7 with ⟨_,rfl⟩|⟨b2,cap,cells,e,e2,rfl,_,h3,_⟩
   ·simp [Wi]at A
   ·simp only[Wi,ZB]at A
    grind
  have b3:∀w2:World,Ko w2 g (.nw id u c y) (g.row id c y):=fun w2=>VR.to1 (KK (a:=.nw id u c y) (by simp only[CV];grind) X rfl) (by simp);refine⟨.tuple #[g.row id c y,goInt ((DM (Zm c) y es:Nat):Int)],_,g,ow,.inl ?_,c9.write a5 hJ D (by simp) rfl rfl ⟨rfl,Vd _⟩ ?_,.refl g,z,?_,fun _ h=>.inl h⟩
  ·simp only[execOp,ho,Vc,c7,Vb,Ve]
  ·refine⟨d8,c8,⟨fun k x f _=>?_,fun k k' x x' S f b0 d6 _ _ C=>?_,fun k x S f _ C=>?_⟩,c5,fun k f=>a3 k (b4 k f),b,s,c',hb,hJ,?_,b6,a8 _ z⟩
   ·rcases r k x f with i|⟨rfl,i⟩
    ·have hr:=a2.rd k x i (by simp);exact hr.mono z (by simp) (fun _ _ h=>h) fun S A _=>a1 S (a7 hr S A)
    ·exact .inl ⟨rfl,i⟩
   ·rcases r k x f with i|⟨rfl,i⟩
    ·rcases r k' x' b0 with b1|⟨rfl,b1⟩
     ·exact a2.ds k k' x x' S i b1 d6 (by simp) (by simp) C
     ·rw[b1];simp [Wi]
    ·rw[i]at C;simp [Wi]at C
   ·rcases r k x f with i|⟨rfl,i⟩
    ·exact a2.tp k x S i (by simp) C
    ·rw[i]at C;simp [Wi]at C
   ·show (G.heap.setIfInBounds b _)[b]? =_;rw[Vja,Zv rfl,Zv (by rw[hs.heap];omega)]
  ·exact⟨[g.row id c y,goInt ((DM (Zm c) y es:Nat):Int)],rfl,g.row id c y,_,rfl,b3 _,.int .i64 _,[],rfl,VR.to1 (Jj _ _) (by simp),rfl⟩
 rw[Rx,DL];have O:=Zjw (Zm c) y es
 cases hi:WY (Zm c) y es with
 |none=>
  rw[hi]at Y O;have c6:y ∉ es.map Vo:=Zbi N (by rw[DL,hi];rfl);have Q:g.row id c y=.slice Ub 0 0:=a3 y c6;refine fin w (l.push {key:=a.eval k,val:=.slice Ub 0 0,born:=clock}) (clock+1) _ (.refl w) ?_ (Z.push rfl) (by rw[Q];rfl) (fun k x f=>?_) ?_ (fun k f h=>f ?_) fun w2 z=>?_
  ·simp only[Vcb,underlying,Vc,run_program,Vb,hu,Ve,hv,a4,b5,Y,Vza,hz];simp only[setObj,Vrb,hh,Q,O,Vsb];rw[Z.1,b8];rfl
  ·rcases Vi.1 f with f|f
   ·exact .inl f
   ·simp only[Vsa,Vsb,Vg,Va]at f;obtain⟨rfl,rfl⟩:=f;exact .inr ⟨rfl,Q⟩
  ·rw[Vyb];refine Vh.2 ⟨c4,by simp,fun p hp q hq e=>?_⟩;simp only[List.map_cons,List.map_nil,Vg]at hq;subst hq;exact c6 (e▸hp)
  ·rw[Vyb];exact Vi.2 (.inl h)
  ·rw[Array.toList_push]
   refine(U.mono fun kv e hx=>⟨hx.1.mono z (.refl g),hx.2⟩:Fa _ es l.toList).append ⟨⟨a0.mono z (.refl g),Q.symm⟩,trivial⟩
 |some j=>
  rw[hi]at Y O;obtain⟨e,he,d0⟩:=Rw _ _ _ _ hi;have L:=(JO N).1 d0;obtain⟨me,d5,h1,h2⟩:=U.get j e he;have a6:me.key=a.eval k:=ZhS (t:=c) (x:=y) N (L▸h1) a0;rw[<-L]at h2
  have r:(y,e.2)∈es:=by have:=Vdb he;rw[L];exact this
  have X:=(a2.rd y e.2 r (by simp)).one;obtain⟨G,d9,hs⟩:=Zis (P:=P) (w:=w) (a.eval k);have W:l[j]? =Ua me:=by grind
  have d1:es.set j (y,(Option.bind (Ua j) fun j=>(es[j]?).map Prod.snd).getD [])=es:=by
   simp only[Za,he,Vda,Vta];apply Voa;intro n;rw[Vnb];split
   ·rename_i a9;subst a9;have d3:=(Vk.1 he).1;rw[Zv d3,he,L]
   ·rfl
  simp only;rw[d1];refine fin G (l.modify j fun e=>{e with key:=a.eval k}) clock es hs ?_ (Z.modify fun _=>rfl) X.1 (fun k x f=>.inl f) c4 (fun k f=>f) fun w2 z=>?_
  ·simp only[Vcb,underlying,Vc,run_program,Vb,hu,Ve,hv,a4,b5,Y,Vda,W,a6,Vta,d9,d5,h2];have d2:G.heap[b]? =Ua (.map l clock):=by rw[hs.heap];omega
   simp only[setObj,Vrb,d2,O,Vta,Z.2 j me W];rfl
  ·have:(l.modify j fun e=>{e with key:=a.eval k}).toList=l.toList:=by
    apply Voa;intro n;rw[Vv,Vv,Array.getElem?_modify];split
    ·rename_i a9;subst a9;rw[W];simp [<-a6]
    ·rfl
   rw[this];exact U.mono fun kv e hx=>⟨hx.1.mono z (.refl g),hx.2⟩
theorem Zr3{T:TypeId}{m s x:Operand}{id u i2:Nat}{ik:IntKind}{n:Int}{p t:Ty}{e:El p×List (El t)}{es:List (El p×List (El t))}{hole:Option (El p)}{ys:List (El t)}{ids l l' :List Nat}(hR:RH B H w g ow)(hF:Fr w g F a.tmps)(ho:o.op=.entryStore T m s x)(a2:p.keyOk=Uc)
 (b3:Zx F m=.mp id) (b5:Zx F s=.d (.int ik) n) (b7:Zx F x=.vw i2) (hH:H id=Ua (.mrows p t es u hole)) (b2:u+1<=nid) (he:idx es n=Ua e) (a8:holeK p hole e.1=Uc) (h:(Jq t (.vw i2)).run H l=Ua ((ys,ids),l')):
 Zq B (Zp H (ids.map (fun id=>(id,Ub))++[(id,Ua (.mrows p t (Kn (Zm p) e.1 ys es) nid Ub))])) w g nid .junk ((execOp a.eval o).run P w):=by
 obtain⟨a9,b,hb,hv⟩:=(b3▸hF.eval m).mp;have W:H id≠none:=by rw[hH];simp
 obtain⟨_,b6,a5,b4,J,Q,b',c,clock,S,hJ,hh,D,r⟩:=hR.objs id _ hH;rw[hb]at S;cases S;have f:=DY a2;have L:=Zdq hR (b7▸hF.eval x) h
 have C:hole=Ub\/hole=Ua e.1:=by
  cases hole with
  |none=>simp
  |some j=>exact .inr (by rw[(JO f).1 a8])
 have X:id ∉ ids:=fun hm=>by
  simp only[Jq]at h;rw[ZX]at h;split at h
  ·rename_i z;simp only[Zy,Zf,Va]at h
   grind
  ·simp [Zb]at h
 have hn:0<=n/\es[n.toNat]? =Ua e:=by
  unfold idx at he;split at he
  ·exact⟨by assumption,he⟩
  ·cases he
 obtain⟨j,rfl⟩:∃j:Nat,n=(j:Int):=⟨n.toNat,by omega⟩;have q:es[j]? =Ua e:=by simpa using hn.2
 obtain⟨me,b8,h1,h2⟩:=r.get j e q;have a3:c[j]? =Ua me:=by grind
 have a0:j<es.length:=(Vk.1 q).1
 have Y:WY (Zm p) e.1 es=Ua j:=by
  cases hi:WY (Zm p) e.1 es with
  |none=>exact absurd (Vva.2 ⟨e,Vdb q,rfl⟩) (Zbi f (by rw[DL,hi];rfl))
  |some i=>
   obtain⟨e',U,a7⟩:=Rw _ _ _ _ hi;have b0:=(JO f).1 a7;have G:(es.map Vo)[i]? =Ua e.1:=by rw[Vs,U,b0];rfl
   have z:(es.map Vo)[j]? =Ua e.1:=by rw[Vs,q];rfl
   have:=(Vob (by rw[Vzb];have:=(Vk.1 U).1;omega) J).1 (G.trans z.symm);rw[this]
 have Z:a.eval s=.int ik (j:Int):=(b5▸hF.eval s).int
 have A:c.findIdx? (fun e=>(e.born:Int) == (j:Int))=Ua j:=by
  rw[Array.findIdx?_eq_some_iff_getElem]
  have a1:j<c.size:=by have:=(Array.getElem?_eq_some_iff.1 a3).1;exact this
  refine⟨a1,?_,fun i hi=>?_⟩
  ·rw[D.2 j c[j] (Vpa a1)];simp
  ·rw[D.2 i c[i] (Vpa (by omega))];simp;omega
 have V:(getObj b).run P w=.ok (.map c clock) w:=by simp only[getObj,Vrb,hh]
 have K:∀k,k≠e.1->YE g id p e.1 (a.eval x) p k=g.row id p k:=fun k hk=>Zip f k hk;have M:YE g id p e.1 (a.eval x) p e.1=a.eval x:=Zio f;refine Zl1 (w1:=w) (es' :=c.modify j fun e=>{e with val:=a.eval x}) (c' :=clock) hR f a9 W b6 a5 b2 b4 J Q hb hJ hh C X L (.refl w) ?_ (D.modify fun _=>rfl) fun w2 R=>?_
 ·have a4:(Vtb T (a.eval m) (a.eval s) (a.eval x)).run P w=.ok () {w with heap:=w.heap.setIfInBounds b (.map (c.modify j fun e=>{e with val:=a.eval x}) clock)} :=by simp only[Vtb,hv,Z,Vc,V,Vb,asInt,asIntOf,Ve,A];simp only[setObj,Vrb,hh]
  simp only[execOp,ho,Vc,a4,Vb,Ve]
 ·rw[Rx,Y]
  have:(c.modify j fun e=>{e with val:=a.eval x}).toList=c.toList.set j {me with val:=a.eval x} :=by
   apply Voa
   grind
  rw[this];refine ZbC (by simp [r.length]) fun n kv en N O=>?_;rw[Vnb]at N O;split at N
  ·rename_i y;have b1:j<c.toList.length:=by have:=r.length;omega
   rw[Zv y,Zv b1]at O;have a6:Ua (e.1,ys)=Ua kv:=by simpa [a0] using N
   cases a6;cases O;exact⟨h1.mono R (.refl g),M.symm⟩
  ·rename_i y;rw[Zg y]at O;have:=ZeL r N O;refine⟨this.1.mono R (.refl g),?_⟩;rw[K kv.1 fun e4=>y ?_]
   ·exact this.2
   ·have G:(es.map Vo)[j]? =Ua e.1:=by rw[Vs,q];rfl
    have z:(es.map Vo)[n]? =Ua e.1:=by rw[Vs,N];simp [e4]
    exact(Vob (by rw[Vzb];exact a0) J).1 (G.trans z.symm)
end ops
end Tr
end
