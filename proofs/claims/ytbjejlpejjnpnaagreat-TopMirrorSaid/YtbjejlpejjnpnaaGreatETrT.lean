/- Patterns, read without ids: what a value holds, and which blocks it owns. Conditions: none. -/
import Derived.Lib.LaidTab
import Derived.Lib.ItoaMem
import Derived.LaidEql
import Derived.Test.YtbjejlpejjnpnaaGreatETrJ
open Array renaming getElem?_eq_getElem ->Vp,getElem?_toList ->Vaa,mem_toList_iff ->Vca,getElem?_eq_some_iff ->Vga,length_toList ->Vta,getElem?_push ->Vua,foldl_toList ->Vva,toList_inj ->Vdb
open Bool renaming and_eq_true ->Vb,not_eq_true' ->Vx,false_eq_true ->Vfa
open Go.Builtin renaming clear_ ->Vw,zeroCells ->Vxa
open Go.Instr renaming mapEntry ->Vqa,entryStore ->Vib
open List renaming mem_singleton ->Vd,nodup_append ->Ve,mem_append ->Vk,sublist_append_left ->Vl,mem_cons ->Vm,nodup_cons ->Vn,mem_map ->Vo,length_append ->Vr,replicate ->Vs,map_cons ->Vu,getElem?_eq_some_iff ->Vv,ext_getElem? ->Vy,getElem?_map ->Vz,mem_cons_of_mem ->Vba,map_append ->Vda,flatten_append ->Vea,all_eq_true ->Via,sublist_cons_self ->Vla,take_left' ->Vma,drop_left' ->Vna,take_append_drop ->Voa,mem_of_mem_take ->Vra,mem_of_getElem? ->Vsa,mem_filterMap ->Vwa,size_toArray ->Vya,getElem?_set ->Vza,getElem?_inj ->Vab,nodup_range ->Vcb,length_take ->Veb,length_map ->Vmb,drop_drop ->Vnb,drop_left ->Vob
open Nat renaming le_refl ->Vh,eq_of_beq_eq_true ->Vj,beq ->Vq,mul_le_mul_right ->Vt,succ_mul ->Vka,le_of_ble_eq_true ->Vpa,succ_le_of_lt ->Vbb,lt_succ_self ->Vfb,min_eq_left ->Vjb
open Option renaming getD_some ->Vha,bind_eq_some_iff ->Vja,getD_none ->Vhb,map_some ->Vlb,mem_def ->Vpb,map ->Vsb
open Prod renaming fst ->Vi,snd ->Vkb
open Prod.mk renaming injEq ->Va
open Go.Result renaming andThen_ok ->Vc
open Go.Sem renaming run_bind ->Vf,run_pure ->Vg,run ->Vgb
open Go.Value renaming pointer ->Vqb,slice ->Vrb
section
namespace Tr
open Go
def Zy.isAgg:Zy->Bool
 |.pd t=>t.agg
 |.agg _=>true
 |_=>false
mutual
def PC(w:World)(I:Nat->Prop):(p:Zy)->WO p->List Nat->List Value->Prop
 |.pd t,x,js,cs=>js=[]/\Rd w I t x cs
 |.own t _,x,js,cs=>(js=[]/\x=[]/\cs=[.slice none 0 0])\/
   ∃b cap cells e css,js=[b]/\cs=[.slice (some ⟨b,0,none⟩) x.length cap]/\w.heap[b]? =some (.cells cells e (0,0))/\x.length<=cap/\cap*t.size<=cells.size/\Fa (Rd w I t) x css/\css.flatten<+:cells.toList
 |.var t p,x,js,cs=>p.fits t=true/\ ∃b h cells e,js=b::h/\cs=[.pointer (some ⟨b,0,none⟩)]/\w.heap[b]? =some (.cells cells e (0,0))/\cells.size=t.size/\PC w I p x h cells.toList
 |.ro t,x,js,cs=>js=[]/\ ∃b off c,cs=[.pointer (some ⟨b,off,none⟩)]/\I b/\KH w b off c/\Rd w I t x c
 |.map d i,x,js,cs=>∃b es clock,js=[b]/\cs=[.map (some b)]/\w.heap[b]? =some (.map es clock)/\Bn es clock/\Fa (fun kv e=>(Rd w I d kv.1 e.key.cells.toList/\Ka e.key=d.agg)/\(Rd w I i kv.2 e.val.cells.toList/\Ka e.val=i.agg)) x es.toList
 |.rows t _,x,js,cs=>∃v,cs=[v]/\XE w I (· ∈js) t x v
 |.mrows d t,x,js,cs=>∃v,cs=[v]/\YU w I (· ∈js) d t x v
 |.it d i,x,js,cs=>∃b j es clock since seen,js=[b,j]/\b≠j/\cs=[.pointer (some ⟨b,0,none⟩)]/\w.heap[b]? =some (.mapIter (some j) since seen clock)/\w.heap[j]? =some (.map es clock)/\
   ((∀x∈es.toList,x.born<since)/\since<=clock/\(es.toList.map (·.born)).Nodup)/\Fa (fun kv e=>(Rd w I d kv.1 e.key.cells.toList/\Ka e.key=d.agg)/\(Rd w I i kv.2 e.val.cells.toList/\Ka e.val=i.agg)) x (Hv es seen)
 |.bld T e _,x,js,cs=>∃b,cs=[.pointer (some ⟨b,0,none⟩)]/\Zbw w (· ∈js) T e x b
 |.agg l,x,js,cs=>JP w I l x js cs
 |.fn f l,x,js,cs=>∃n:List Value,cs=[.func (.func f) #[] n.toArray]/\JP w I l x js n
 |.nilr,_,js,cs=>js=[]/\(cs=[.pointer none]\/cs=[.nilFunc]\/cs=[.map none])
 |.nils,_,js,cs=>js=[]/\cs=[.slice none 0 0]
 |.any,_,js,_=>js=[]
def JP(w:World)(I:Nat->Prop):(l:Pats)->KJ l->List Nat->List Value->Prop
 |.nil,_,js,cs=>js=[]/\cs=[]
 |.cons p l,x,js,cs=>∃q r k m,js=q++r/\cs=k++m/\PC w I p x.1 q k/\JP w I l x.2 r m
end
def PV(w:World)(I:Nat->Prop)(p:Zy)(x:WO p)(js:List Nat)(v:Value):Prop:=PC w I p x js v.cells.toList/\(p=.any\/Ka v=p.isAgg)
def Jc(w:World)(I:Nat->Prop):(l:Pats)->KJ l->List Nat->List Value->Prop
 |.nil,_,b,vs=>b=[]/\vs=[]
 |.cons p l,x,b,vs=>∃c d v r,b=c++d/\vs=v::r/\PV w I p x.1 c v/\Jc w I l x.2 d r
section
variable {w w' :World}{I I' :Nat->Prop}
mutual
theorem PC.mono(n:Kj I w w')(m:∀b,I b->I' b):∀(p:Zy) (x:WO p) (js:List Nat) (cs:List Value),(∀b∈js,w'.heap[b]? =w.heap[b]?)->PC w I p x js cs->PC w' I' p x js cs
 |.pd t,x,js,cs,_,h=>⟨h.1,Rd.mono n m t x cs h.2⟩
 |.own t k,x,js,cs,d,h=>by
  simp only[PC]at h⊢;rcases h with h|⟨b,cap,cells,e,css,rfl,j,i,r,s,z,S⟩
  ·exact .inl h
  ·exact .inr ⟨b,cap,cells,e,css,rfl,j,(d b (by simp)).trans i,r,s,z.mono fun x c q=>Rd.mono n m t x c q,S⟩
 |.var t p,x,js,cs,d,h=>by
  simp only[PC]at h⊢;obtain⟨U,b,u,cells,e,rfl,j,i,r,s⟩:=h
  exact⟨U,b,u,cells,e,rfl,j,(d b (by simp)).trans i,r,PC.mono n m p x u _ (fun Q C=>d Q (by simp [C])) s⟩
 |.ro t,x,js,cs,_,h=>by
  simp only[PC]at h⊢;obtain⟨d,b,off,c,j,i,r,s⟩:=h
  exact⟨d,b,off,c,j,m _ i,r.mono (n _ i),Rd.mono n m t x _ s⟩
 |.map y G,x,js,cs,d,h=>by
  simp only[PC]at h⊢;obtain⟨b,es,clock,rfl,j,i,D,r⟩:=h
  exact⟨b,es,clock,rfl,j,(d b (by simp)).trans i,D,r.mono fun x e q=>⟨⟨Rd.mono n m y _ _ q.1.1,q.1.2⟩,Rd.mono n m G _ _ q.2.1,q.2.2⟩⟩
 |.rows t k,x,js,cs,d,h=>by
  simp only[PC]at h⊢;obtain⟨v,j,i⟩:=h
  exact⟨v,j,i.mono n m (fun _ h=>h) d⟩
 |.it y G,x,js,cs,d,h=>by
  simp only[PC]at h⊢;obtain⟨b,O,es,clock,since,seen,rfl,R,j,i,r,s,z⟩:=h
  exact⟨b,O,es,clock,since,seen,rfl,R,j,(d b (by simp)).trans i,(d O (by simp)).trans r,s,z.mono fun x e q=>⟨⟨Rd.mono n m y _ _ q.1.1,q.1.2⟩,Rd.mono n m G _ _ q.2.1,q.2.2⟩⟩
 |.mrows y t,x,js,cs,d,h=>by
  simp only[PC]at h⊢;obtain⟨v,j,i⟩:=h
  exact⟨v,j,i.mono n m (fun _ h=>h) d⟩
 |.bld T e k,x,js,cs,d,h=>by
  simp only[PC]at h⊢;obtain⟨b,j,i⟩:=h
  exact⟨b,j,i.mono (fun _ h=>h) d⟩
 |.agg l,x,js,cs,d,h=>by
  simp only[PC]at h⊢
  exact JP.mono n m l x js cs d h
 |.fn f l,x,js,cs,d,h=>by
  simp only[PC]at h⊢;obtain⟨L,j,i⟩:=h
  exact⟨L,j,JP.mono n m l x js L d i⟩
 |.nilr,_,js,cs,_,h=>by simpa only[PC] using h
 |.nils,_,js,cs,_,h=>by simpa only[PC] using h
 |.any,_,js,cs,_,h=>by simpa only[PC] using h
theorem JP.mono(n:Kj I w w')(m:∀b,I b->I' b):∀(l:Pats) (x:KJ l) (js:List Nat) (cs:List Value),(∀b∈js,w'.heap[b]? =w.heap[b]?)->JP w I l x js cs->JP w' I' l x js cs
 |.nil,_,js,cs,_,h=>by simpa only[JP] using h
 |.cons p l,x,js,cs,d,h=>by simp only[JP]at h⊢;obtain⟨M,N,J,K,rfl,rfl,j,i⟩:=h;exact⟨M,N,J,K,rfl,rfl,PC.mono n m p x.1 M J (fun b A=>d b (by simp [A])) j,JP.mono n m l x.2 N K (fun b A=>d b (by simp [A])) i⟩
end
theorem PV.mono(e:Kj I w w')(c:∀b,I b->I' b){p:Zy}{x:WO p}{js:List Nat}{v:Value}(d:∀b∈js,w'.heap[b]? =w.heap[b]?)(h:PV w I p x js v):PV w' I' p x js v:=
 ⟨PC.mono e c p x js _ d h.1,h.2⟩
theorem Jc.mono(d:Kj I w w')(c:∀b,I b->I' b):∀{l:Pats}{x:KJ l}{js:List Nat}{vs:List Value},(∀b∈js,w'.heap[b]? =w.heap[b]?)->Jc w I l x js vs->Jc w' I' l x js vs
 |.nil,_,_,_,_,h=>h
 |.cons p l,x,js,vs,k,h=>by simp only[Jc]at h⊢;obtain⟨i,j,v,r,rfl,rfl,e,f⟩:=h;exact⟨i,j,v,r,rfl,rfl,e.mono d c (by grind),Jc.mono d c (by grind) f⟩
end
section
variable {B:Kd}{H:AH}{w:World}{g:Gh}{ow:Nat->Nat->Prop}{F:Nat->AV}{I:Nat->Prop}
theorem Ge(m:RH B H w g ow){i j:List Nat}{b:Nat}(d:ZV H ow i b)(e:ZV H ow j b):∃id,id∈i/\id∈j:=by
 obtain⟨id,n,f,h⟩:=d;obtain⟨c,p,k,l⟩:=e;have:=m.dist id c b f k h l
 grind
theorem WT{i j:List Nat}(h:∀id∈i,id∈j){b:Nat}(e:ZV H ow i b):ZV H ow j b:=
 let ⟨id,c,d⟩:=e;⟨id,h id c,d⟩
noncomputable def ZaF(w:World)(J:Nat->Prop):List Nat:=(List.range w.heap.size).filter fun b=> @decide (J b) (Classical.propDecidable _)
theorem Za1{J:Nat->Prop}{b:Nat} :b∈ZaF w J↔b<w.heap.size/\J b:=by unfold ZaF;simp
theorem ZfJ{J:Nat->Prop} :(ZaF w J).Nodup:=Vcb.filter _
theorem Zg2(e:RH B H w g ow){ids:List Nat}{b:Nat}(h:ZV H ow ids b):b<w.heap.size:=by obtain⟨id,_,c,d⟩:=h;exact(e.sep id b c d).2.1
mutual
theorem H7(D:RH B H w g ow)(K:∀b,g.I b->I b):∀(p:Zy) (v:AV) (cs:List Value) (x:WO p) (ids:ZG) (l C:List Nat),(ext p v).run H l=some ((x,ids),C)->CV w g v cs->(∀b,ZV H ow ids.br b->I b)->
 ids.tk.Nodup->∃js,PC w I p x js cs/\js.Nodup/\ ∀b∈js,ZV H ow ids.tk b
 |.pd t,v,cs,x,ids,l,C,h,d,A,_=>by
  simp only[ext,Z4,Zi,Va]at h;obtain⟨⟨x1,X⟩,m,q,⟨rfl,rfl⟩,_⟩:=h
  exact⟨[],⟨rfl,ZbQ D K t v cs x1 X _ _ q d A⟩,.nil,by simp⟩
 |.own t k,v,cs,x,ids,l,C,h,d,A,_=>by
  simp only[ext,Z4,Zi,Va]at h;obtain⟨⟨x1,X⟩,m,q,⟨rfl,rfl⟩,_⟩:=h
  have U:∃val,cs=[val]/\VR w g v val:=by
   cases v with
   |vw id=>simp only[CV]at d;exact⟨_,d.2.1,K8 (by simp only[CV];exact⟨d.1,trivial,d.2.2⟩) d.2.2 rfl⟩
   |vs id lo n=>
    simp only[CV]at d
    have:∃val,cs=[val]/\val.oneCell' =true:=by
     rcases d.2 with ⟨_,_,_,rfl⟩|⟨b,len,cap,m,_,_,_,_,rfl⟩
     ·exact⟨_,rfl,rfl⟩
     ·exact⟨_,rfl,rfl⟩
    obtain⟨val,rfl,q⟩:=this
    exact⟨val,rfl,K8 (by simpa only[CV] using d) q rfl⟩
   |nils=>simp only[CV]at d;exact⟨_,d,K8 (by simp only[CV]) rfl rfl⟩
   |_=>simp [Xb,Zb]at q
  obtain⟨val,rfl,hv⟩:=U;rcases Zep D hv q with ⟨rfl,rfl,rfl⟩|⟨id,rfl,b4,⟨rfl,rfl⟩|⟨b,cap,cells,e,css,ho,rfl,S,G,L,R,a5⟩⟩
  ·exact⟨[],.inl ⟨rfl,rfl,rfl⟩,.nil,by simp⟩
  ·exact⟨[],.inl ⟨rfl,rfl,rfl⟩,.nil,by simp⟩
  ·exact⟨[b],.inr ⟨b,cap,cells,e,css,rfl,rfl,S,G,L,R.mono fun x c hx=>Rd.mono (fun _ _=>rfl) K t x c hx,a5⟩,by simp,fun O r=>by simp only[Vd]at r;subst r;exact⟨id,by simp,b4,ho⟩⟩
 |.var t p,v,cs,x,ids,l,C,h,d,A,V=>by
  simp only[ext]at h;split at h
  ·rename_i id;rw[Z1]at h;split at h
   ·rename_i t' c J;simp only[ZL,Z4,Zi,Zb,ZR,Z3,Vb,Ks,Va]at h;obtain⟨⟨rfl,Y⟩,⟨x1,X⟩,m,q,⟨rfl,rfl⟩,_⟩:=h;obtain⟨_,a0,b3,b,cells,e,j,M,S,a6,Q⟩:=D.objs id _ J;simp only[CV]at d;obtain⟨_,o,t2,O,L,s,rfl⟩:=d;rw[WE]at L;cases L;rw[j]at s;cases s;simp only[Vn]at V;obtain⟨js,h5,h6,h7⟩:=H7 D K p c cells.toList x1 X _ _ q Q (fun b j=>A b j) V.2;refine⟨b::js,⟨Y,b,js,cells,e,rfl,rfl,S,a6,h5⟩,Vn.2 ⟨fun a9=>?_,h6⟩,?_⟩
    ·obtain⟨b6,h8,h9⟩:=Ge D (i:=[id]) ⟨id,by simp,by rw[J];simp,M⟩ (h7 b a9);simp only[Vd]at h8;subst h8;exact V.1 h9
    ·intro O r;rcases Vm.1 r with rfl|r
     ·exact⟨id,by simp,by rw[J];simp,M⟩
     ·exact WT (fun _ h=>Vba _ h) (h7 O r)
   ·simp [Zb]at h
  ·simp [Zb]at h
 |.ro t,v,cs,x,ids,l,C,h,d,A,_=>by
  simp only[ext]at h;split at h
  ·rename_i id;rw[Z1]at h;split at h
   ·rename_i t0 t' y J;simp only[ZC,Zi,Va]at h;obtain⟨z,W,⟨rfl,rfl⟩,_⟩:=h;obtain⟨rfl,rfl⟩:=KR W;obtain⟨_,a0,b3,b,cells,e,j,M,S,a6,Q⟩:=D.objs id _ J;simp only[CV]at d;obtain⟨_,o,t2,O,L,s,rfl⟩:=d;rw[WE]at L;cases L;rw[j]at s;cases s;have Q:=(show Rd w g.I _ _ cells.toList by simpa only[CV] using Q);refine⟨[],⟨rfl,b,0,cells.toList,rfl,A b ⟨id,by simp,by rw[J];simp,M⟩,?_,Rd.mono (fun _ _=>rfl) K _ _ _ Q⟩,.nil,by simp⟩;have:=KH.of_vec (css:=[cells.toList]) S (by simp);simpa using this
   ·simp [Zb]at h
  ·rename_i t' y;simp only[ZC,Zi,Va]at h;obtain⟨z,W,⟨rfl,rfl⟩,_⟩:=h;obtain⟨rfl,rfl⟩:=KR W;simp only[CV]at d;obtain⟨b,off,c,q,G,L,s⟩:=d;exact⟨[],⟨rfl,b,off,c,q,K _ G,L,Rd.mono (fun _ _=>rfl) K _ _ _ s⟩,.nil,by simp⟩
  ·simp [Zb]at h
 |.map kt vt,v,cs,x,ids,l,C,h,d,A,_=>by
  simp only[ext]at h;split at h
  ·rename_i id;rw[Z1]at h;split at h
   ·rename_i k e m J;simp only[ZC,Zi,Va]at h;obtain⟨z,W,⟨rfl,rfl⟩,_⟩:=h;obtain⟨he,rfl⟩:=KR W;cases he;obtain⟨_,b,es,clock,j,M,S,b1,R⟩:=D.objs id _ J;simp only[CV]at d;obtain⟨_,O,s,rfl⟩:=d;rw[j]at s;cases s
    refine⟨[b],⟨b,es,clock,rfl,rfl,S,b1,R.mono fun kv e hx=>?_⟩,by simp,fun O r=>by simp only[Vd]at r;subst r;exact⟨id,by simp,by rw[J];simp,M⟩⟩
    obtain⟨⟨q,G⟩,L,s⟩:=hx;exact⟨⟨Rd.mono (fun _ _=>rfl) K _ _ _ (by simpa only[CV] using q),by simpa [AV.isAgg] using G⟩,Rd.mono (fun _ _=>rfl) K _ _ _ (by simpa only[CV] using L),by simpa [AV.isAgg] using s⟩
   ·simp [Zb]at h
  ·simp [Zb]at h
 |.it kt vt,v,cs,x,ids,l,C,h,d,A,_=>by
  simp only[ext]at h;split at h
  ·rename_i id;rw[Z1]at h;split at h
   ·rename_i k e m cur J;simp only[ZC,Zi,Va]at h;obtain⟨z,W,⟨rfl,rfl⟩,_⟩:=h;obtain⟨he,rfl⟩:=KR W;cases he;obtain⟨_,b,mb,es,clock,since,seen,a0,j,M,a4,S,hm,L,R,_⟩:=D.objs id _ J;simp only[CV]at d;obtain⟨_,o',t',O,q,s,rfl⟩:=d;rw[a0,WE]at q;cases q;rw[j]at s;cases s
    have a3:b≠mb:=by intro b0;rw[b0,hm]at S;cases S
    refine⟨[b,mb],⟨b,mb,es,clock,since,seen,rfl,a3,rfl,S,hm,L,R.mono fun kv e hx=>?_⟩,by simp [a3],fun O r=>by
     simp only[Vm,List.not_mem_nil,Z3]at r;rcases r with rfl|rfl
     ·exact⟨id,by simp,by rw[J];simp,M⟩
     ·exact⟨id,by simp,by rw[J];simp,a4⟩⟩
    obtain⟨⟨q,G⟩,L,s⟩:=hx;exact⟨⟨Rd.mono (fun _ _=>rfl) K _ _ _ (by simpa only[CV] using q),by simpa [AV.isAgg] using G⟩,Rd.mono (fun _ _=>rfl) K _ _ _ (by simpa only[CV] using L),by simpa [AV.isAgg] using s⟩
   ·simp [Zb]at h
  ·simp [Zb]at h
 |.rows t k,v,cs,x,ids,l,C,h,d,A,_=>by
  simp only[ext,Z4,Zi,Va]at h;obtain⟨⟨x1,X⟩,m,q,⟨rfl,rfl⟩,_⟩:=h
  have U:∃val,cs=[val]/\VR w g v val:=by
   cases v with
   |vw id=>simp only[CV]at d;exact⟨_,d.2.1,K8 (by simp only[CV];exact⟨d.1,trivial,d.2.2⟩) d.2.2 rfl⟩
   |nils=>simp only[CV]at d;exact⟨_,d,K8 (by simp only[CV]) rfl rfl⟩
   |_=>simp [Gc,Zb]at q
  obtain⟨val,rfl,hv⟩:=U;obtain⟨Z,_⟩:=Zg1 D hv q
  exact⟨ZaF w (ZV H ow X),⟨val,rfl,Z.mono (fun _ _=>rfl) K (fun b j=>Za1.2 ⟨Zg2 D j,j⟩) fun _ _=>rfl⟩,ZfJ,fun b j=>(Za1.1 j).2⟩
 |.mrows kt t,v,cs,x,ids,l,C,h,d,A,_=>by
  simp only[ext]at h;split at h
  ·rename_i id;rw[Z1]at h;split at h
   ·rename_i k t' m u J;simp only[ZC,Zi,Va]at h;obtain⟨z,W,⟨rfl,rfl⟩,_⟩:=h;obtain⟨he,rfl⟩:=KR W;cases he;obtain⟨b,j,hm⟩:=YU.of_obj (D.objs id _ J).2;simp only[CV]at d;obtain⟨_,O,s,rfl⟩:=d;rw[j]at s;cases s;have N:∀b,ow id b->ZV H ow [id] b:=fun b j=>⟨id,by simp,by rw[J];simp,j⟩;exact⟨ZaF w (ZV H ow [id]),⟨_,rfl,hm.mono (fun _ _=>rfl) K (fun b j=>Za1.2 ⟨Zg2 D (N b j),N b j⟩) fun _ _=>rfl⟩,ZfJ,fun b j=>(Za1.1 j).2⟩
   ·simp [Zb]at h
  ·simp [Zb]at h
 |.bld T e k,v,cs,x,ids,l,C,h,d,A,_=>by
  simp only[ext]at h;split at h
  ·rename_i id;rw[Z1]at h;split at h
   ·rename_i T' e' bs J;simp only[ZL,Zi,Zb,ZR,Z3,Vb,Va]at h;obtain⟨⟨q,G⟩,⟨rfl,rfl⟩,_⟩:=h;have q:=Vj q;have G:=Vj G;subst q;subst G;obtain⟨_,b,j,hm⟩:=D.objs id _ J;simp only[CV]at d;obtain⟨_,o',t',O,q,s,rfl⟩:=d;rw[WE]at q;cases q;rw[j]at s;cases s;have N:∀b,ow id b->ZV H ow [id] b:=fun b j=>⟨id,by simp,by rw[J];simp,j⟩;exact⟨ZaF w (ZV H ow [id]),⟨b,rfl,hm.mono (fun b j=>Za1.2 ⟨Zg2 D (N b j),N b j⟩) fun _ _=>rfl⟩,ZfJ,fun b j=>(Za1.1 j).2⟩
   ·simp [Zb]at h
  ·simp [Zb]at h
 |.agg pl,v,cs,x,ids,l,C,h,d,A,V=>by
  simp only[ext]at h;split at h
  ·rename_i vs;simp only[CV]at d;obtain⟨js,q,G⟩:=ZdJ D K pl vs cs x ids l C h d A V;exact⟨js,q,G⟩
  ·rename_i t y;simp only[ZL,Zb,ZR,Z3]at h;obtain⟨Y,h⟩:=h;obtain⟨js,q,G⟩:=ZdJ D K pl _ cs x ids l C h (ZjC t y cs Y (by simpa only[CV] using d)) A V;exact⟨js,q,G⟩
  ·simp [Zb]at h
 |.fn f pl,v,cs,x,ids,l,C,h,d,A,V=>by
  simp only[ext]at h;split at h
  ·rename_i f' a1;simp only[ZL,Zb,ZR,Z3]at h;obtain⟨Y,h⟩:=h;have Y:=Vj Y;subst Y;simp only[CV]at d;obtain⟨cc,rfl,b2⟩:=d;obtain⟨js,q,G⟩:=ZdJ D K pl a1 cc x ids l C h b2 A V;exact⟨js,⟨cc,rfl,q⟩,G⟩
  ·simp [Zb]at h
 |.nilr,v,cs,x,ids,l,C,h,d,A,_=>by
  simp only[ext]at h;split at h
  ·simp only[Zi,Va]at h;obtain⟨⟨_,rfl⟩,_⟩:=h;have d:=Za3 d;exact⟨[],⟨rfl,d⟩,.nil,by simp⟩
  ·simp [Zb]at h
 |.nils,v,cs,x,ids,l,C,h,d,A,_=>by
  simp only[ext]at h;split at h
  ·simp only[Zi,Va]at h;obtain⟨⟨_,rfl⟩,_⟩:=h;simp only[CV]at d;exact⟨[],⟨rfl,d⟩,.nil,by simp⟩
  ·simp [Zb]at h
 |.any,v,cs,x,ids,l,C,h,d,A,_=>by simp only[ext,Zi,Va]at h;obtain⟨⟨_,rfl⟩,_⟩:=h;exact⟨[],rfl,.nil,by simp⟩
theorem ZdJ(D:RH B H w g ow)(K:∀b,g.I b->I b):∀(pl:Pats) (v:Zq) (cs:List Value) (x:KJ pl) (ids:ZG) (l C:List Nat),(Wx pl v).run H l=some ((x,ids),C)->Z5 w g v cs->(∀b,ZV H ow ids.br b->I b)->
 ids.tk.Nodup->∃js,JP w I pl x js cs/\js.Nodup/\ ∀b∈js,ZV H ow ids.tk b
 |.nil,.nil,cs,x,ids,l,C,h,d,A,_=>by
  simp only[Wx,Zi,Va]at h;obtain⟨⟨_,rfl⟩,_⟩:=h;simp only[Z5]at d
  exact⟨[],⟨rfl,d⟩,.nil,by simp⟩
 |.cons p pl,.cons v vs,cs,x,ids,l,C,h,d,A,V=>by
  simp only[Wx,Z4,Zi,Va]at h;obtain⟨⟨x1,X⟩,m1,q,⟨x2,i2⟩,m2,G,⟨rfl,rfl⟩,_⟩:=h;simp only[Z5]at d;obtain⟨c1,c2,rfl,L,s⟩:=d;have b5:(X.tk++i2.tk).Nodup:=V;obtain⟨n1,n2,n3⟩:=Ve.1 b5;obtain⟨j1,h5,h6,h7⟩:=H7 D K p v c1 x1 X _ _ q L (fun b j=>A b (WT (fun _ h=>by simp [ZG.app,h]) j)) n1;obtain⟨j2,h8,h9,a2⟩:=ZdJ D K pl vs c2 x2 i2 _ _ G s (fun b j=>A b (WT (fun _ h=>by simp [ZG.app,h]) j)) n2;refine⟨j1++j2,⟨j1,j2,c1,c2,rfl,rfl,h5,h8⟩,Ve.2 ⟨h6,h9,fun b j O r e=>?_⟩,fun b j=>?_⟩
  ·subst e;obtain⟨id,a7,a8⟩:=Ge D (h7 b j) (a2 b r);exact n3 id a7 id a8 rfl
  ·rcases Vk.1 j with j|j
   ·exact WT (fun _ h=>by simp [ZG.app,h]) (h7 b j)
   ·exact WT (fun _ h=>by simp [ZG.app,h]) (a2 b j)
 |.nil,.cons _ _,_,_,_,_,_,h,_,_,_=>by simp [Wx,Zb]at h
 |.cons _ _,.nil,_,_,_,_,_,h,_,_,_=>by simp [Wx,Zb]at h
end
end
end Tr
end
section
namespace Tr
open Go
def Wu(l:List (Nat×K0)):KB:=l.map fun o=>(o.1,some o.2)
theorem Zcy{k:Nat} :∀{l:KB}{H:AH},(∀p∈l,p.1≠k)->Zr H l k=H k
 |[],_,_=>rfl
 |p::l,H,h=>by simp only[Zr];rw[Zcy (by grind),Ky (by grind)]
theorem Zuz{H:AH}{i k:Nat}{o u:Option K0}(h:i≠k):Kc (Kc H i o) k u=Kc (Kc H k u) i o:=by
 funext j;by_cases b:j=i
 ·subst b;rw[Ky h,XM,XM]
 ·by_cases c:j=k
  ·subst c;rw[XM,Ky b,XM]
  ·rw[Ky c,Ky b,Ky b,Ky c]
theorem Zer{k:Nat}{o:Option K0} :∀{l:KB}{H:AH},(∀p∈l,p.1≠k)->Zr (Kc H k o) l=Kc (Zr H l) k o
 |[],_,_=>rfl
 |p::l,H,h=>by simp only[Zr];rw[<-Zer (by grind),Zuz (by grind)]
mutual
theorem Yd:∀(p:Zy) (x:WO p) (n:Nat),n<=(inj p x n).2.2/\ ∀o∈(inj p x n).2.1,n<=o.1/\o.1<(inj p x n).2.2
 |.pd _,_,n=>⟨Vh _,by simp [inj]⟩
 |.own _ _,_,n=>⟨by simp [inj],by simp [inj]⟩
 |.var t p,x,n=>by
  obtain⟨d,c⟩:=Yd p x (n+1);refine⟨by simp only[inj];omega,fun o b=>?_⟩;simp only[inj,Vm]at b⊢;rcases b with rfl|b
  ·exact⟨Vh _,by show n<_;omega⟩
  ·have:=c o b;omega
 |.ro _,_,n=>⟨Vh _,by simp [inj]⟩
 |.map _ _,_,n=>⟨by simp [inj],by simp [inj]⟩
 |.rows _ _,_,n=>⟨by simp [inj],by simp [inj]⟩
 |.mrows _ _,_,n=>⟨by simp [inj],by simp [inj]⟩
 |.it _ _,_,n=>⟨by simp [inj],by simp [inj]⟩
 |.bld _ _ _,_,n=>⟨by simp [inj],by simp [inj]⟩
 |.agg l,x,n=>by simpa only[inj] using R0 l x n
 |.fn f l,x,n=>by simpa only[inj] using R0 l x n
 |.nilr,_,n=>⟨Vh _,by simp [inj]⟩
 |.nils,_,n=>⟨Vh _,by simp [inj]⟩
 |.any,_,n=>⟨Vh _,by simp [inj]⟩
theorem R0:∀(l:Pats) (x:KJ l) (n:Nat),n<=(KM l x n).2.2/\ ∀o∈(KM l x n).2.1,n<=o.1/\o.1<(KM l x n).2.2
 |.nil,_,n=>⟨Vh _,by simp [KM]⟩
 |.cons p l,x,n=>by
  obtain⟨d,c⟩:=Yd p x.1 n;obtain⟨h,e⟩:=R0 l x.2 (inj p x.1 n).2.2;refine⟨by simp only[KM];omega,fun o b=>?_⟩;simp only[KM,Vk]at b⊢;rcases b with b|b
  ·have:=c o b;omega
  ·have:=e o b;omega
end
mutual
theorem Zgm:∀(p:Zy) (t:Ty) (x:WO p) (n:Nat),p.fits t=true->(inj p x n).1.fits t=true
 |.pd b,t,x,n,h=>by simpa [inj,AV.fits,Zy.fits] using h
 |.own b k,t,x,n,h=>by cases t<;>simp [Zy.fits]at h;simp [inj,AV.fits]
 |.var _ p,t,x,n,h=>by cases t<;>simp [Zy.fits]at h;simp [inj,AV.fits]
 |.ro _,t,x,n,h=>by cases t<;>simp [Zy.fits]at h;simp [inj,AV.fits]
 |.map _ _,t,x,n,h=>by cases t<;>simp [Zy.fits]at h;simp [inj,AV.fits]
 |.fn _ _,t,x,n,h=>by cases t<;>simp [Zy.fits]at h;simp [inj,AV.fits]
 |.nilr,t,x,n,h=>by cases t<;>simp [Zy.fits]at h;simp [inj,AV.fits]
 |.nils,t,x,n,h=>by cases t<;>simp [Zy.fits]at h;simp [inj,AV.fits]
 |.agg l,t,x,n,h=>by
  have:=Zkc l t x n (by simpa only[Zy.fits] using h)
  simpa only[inj,AV.fits] using this
 |.rows b k,t,x,n,h=>by
  cases t with
  |sl t=>simp [inj,AV.fits]
  |_=>simp [Zy.fits]at h
 |.mrows _ _,t,x,n,h=>by cases t<;>simp [Zy.fits]at h;simp [inj,AV.fits]
 |.it _ _,t,x,n,h=>by cases t<;>simp [Zy.fits]at h;simp [inj,AV.fits]
 |.bld _ _ _,t,x,n,h=>by cases t<;>simp [Zy.fits]at h;simp [inj,AV.fits]
 |.any,t,_,_,h=>by simp [Zy.fits]at h
theorem Zkc:∀(l:Pats) (t:Ty) (x:KJ l) (n:Nat),l.fits t=true->(KM l x n).1.fits t=true
 |.nil,t,_,_,h=>by cases t<;>simp [Pats.fits]at h;simp [KM,Zq.fits]
 |.cons p l,t,x,n,h=>by
  cases t<;>simp only[Pats.fits,Vb,Vfa]at h
  simp only[KM,Zq.fits,Vb];exact⟨Zgm p _ x.1 n h.1,Zkc l _ x.2 _ h.2⟩
end
structure W5 (B:Kd) (H:AH) (w:World) (g:Gh) (ow:Nat->Nat->Prop) (js:List Nat):Prop where
 nodup:js.Nodup
 free:∀b∈js,¬g.I b/\b<w.heap.size/\(B.own0 b\/B.w0.heap.size<=b)/\ ∀id,H id≠none->¬ow id b
structure Hn (tk:List Nat) (g g' :Gh):Prop where
 I:g'.I=g.I
 ver:∀id,g.K id->id ∉ tk->g'.ver id=g.ver id
theorem Hn.refl(tk:List Nat)(g:Gh):Hn tk g g:=⟨rfl,by omega⟩
theorem Hn.weak{tk b:List Nat}{g c:Gh}(h:Hn tk g c)(f:∀id∈tk,id∈b):Hn b g c:=⟨h.I,fun id d e=>h.ver id d (by grind)⟩
theorem Hn.after{tk:List Nat}{g b c:Gh}(e:Hn tk b c)(d:Hn tk g b)(i:g.Le b):Hn tk g c:=
 ⟨e.I.trans d.I,fun id f h=>(e.ver id (i.K id f) h).trans (d.ver id f h)⟩
theorem Hn.add{g:Gh}{n:Nat}(d:¬g.K n)(t:Ty)(b:Option Nat)(v:Value)(r:(c:Ty)->El c->Value):Hn [] g (g.add n t b v r):=
 ⟨rfl,fun id h _=>Zf (by grind)⟩
def W6(B:Kd)(H:AH)(w:World)(g:Gh)(ow:Nat->Nat->Prop)(js:List Nat)(n e:Nat)(H' :AH)(C:Gh->Prop):Prop:=
 ∃c d,g.Le c/\Hn [] g c/\RH B H' w c d/\C c/\(∀id,c.K id->g.K id\/(n<=id/\id<e))/\(∀id b,H' id≠none->d id b->(H id≠none/\ow id b)\/b∈js)
section
variable {B:Kd}{H:AH}{w:World}{g:Gh}{ow:Nat->Nat->Prop}
theorem W6.none(c:RH B H w g ow){C:Gh->Prop}(n:Nat)(b:C g):W6 B H w g ow [] n n H C:=
 ⟨g,ow,.refl g,.refl [] g,c,b,by grind,by grind⟩
theorem W6.one(l:RH B H w g ow){js:List Nat}{n:Nat}{o:K0}{t:Ty}{b:Option Nat}{v:Value}{r:(q:Ty)->El q->Value}{C:Gh->Prop}(d:¬g.K n)(m:W5 B H w g ow js)
 (p:WF w (g.add n t b v r) (· ∈js) n o) (j:C (g.add n t b v r)):W6 B H w g ow js n (n+1) (Kc H n (some o)) C:=by
 refine⟨g.add n t b v r,Xm ow n (· ∈js),Gh.le_add d t b v r,.add d t b v r,l.add d (by simp) (Vh _) rfl rfl ⟨rfl,Vh _⟩ (fun k e=>m.free k e) p,j,fun id h=>?_,fun id s i f=>?_⟩
 ·rcases h with rfl|h
  all_goals grind
 ·by_cases c:id=n
  ·subst c;rw[JS]at f;grind
  ·rw[Ky c]at i;rw[WV c]at f;grind
theorem W5.sub{js ks:List Nat}(h:W5 B H w g ow js)(c:ks.Sublist js):W5 B H w g ow ks:=⟨h.nodup.sublist c,fun b d=>h.free b (c.subset d)⟩
theorem W5.after{js ks:List Nat}(h:W5 B H w g ow (js++ks)){d:Gh}{c:Nat->Nat->Prop}{H' :AH}(l:d.I=g.I)(n:∀id b,H' id≠none->c id b->(H id≠none/\ow id b)\/b∈js):W5 B H' w d c ks:=by
 obtain⟨p,e,q⟩:=Ve.1 h.nodup;refine⟨e,fun b m=>?_⟩;obtain⟨f,i,j,k⟩:=h.free b (by grind)
 grind
mutual
theorem Zci:∀(p:Zy) {H:AH}{g:Gh}{ow:Nat->Nat->Prop} (_:RH B H w g ow) (x:WO p) (js:List Nat) (cs:List Value) (n:Nat),PC w g.I p x js cs->W5 B H w g ow js->(∀id,n<=id->id<(inj p x n).2.2->¬g.K id)->
 W6 B H w g ow js n (inj p x n).2.2 (Zr H (Wu (inj p x n).2.1)) fun R=>CV w R (inj p x n).1 cs
 |.pd t,H,g,ow,c,x,js,cs,n,h,_,_=>by
  obtain⟨rfl,h⟩:=h
  exact W6.none c n (by simpa only[inj,CV] using h)
 |.own t k,H,g,ow,c,x,js,cs,n,h,d,i=>by
  rcases h with ⟨rfl,rfl,rfl⟩|⟨b,cap,cells,e,css,rfl,rfl,m,s,D,h4,L⟩
  ·exact W6.one (t:=t) (b:=none) (v:=.slice none 0 0) (r:=fun _ _=>.slice none 0 0) c (i n (Vh _) (by simp [inj])) d ⟨by simp [Gh.add],.inl ⟨rfl,by simp [Gh.add],by simp [Gh.add]⟩⟩
    (by simp only[inj,CV];exact⟨.inl rfl,by simp [Gh.add],by simp [Gh.add];rfl⟩)
  ·exact W6.one (t:=t) (b:=some b) (v:=.slice (some ⟨b,0,Option.none⟩) x.length cap) (r:=fun _ _=>.slice Option.none 0 0) c (i n (Vh _) (by simp [inj])) d
    ⟨by simp [Gh.add],.inr ⟨b,cap,cells,e,css,by simp [Gh.add],by simp,by simp [Gh.add],m,s,D,h4,L⟩⟩
    (by simp only[inj,CV];exact⟨.inl rfl,by simp [Gh.add],by simp [Gh.add];rfl⟩)
 |.var t p,H,g,ow,c,x,js,cs,n,h,d,i=>by
  obtain⟨a6,b,a8,cells,e,rfl,rfl,m,s,D⟩:=h;have hn:=(Yd p x (n+1)).1;obtain⟨S,z,M,G,r1,Q,k1,N⟩:=Zci p c x a8 cells.toList (n+1) D (d.sub (Vla _ _)) (fun id h h' =>i id (by omega) (by simpa only[inj] using h'))
  have X:¬S.K n:=fun h=>by
   rcases k1 n h with h|h
   ·exact i n (Vh _) (by simp only[inj];omega) h
   ·omega
  have a5:W5 B (Zr H (Wu (inj p x (n+1)).2.1)) w S z [b]:=by
   obtain⟨L,h6⟩:=Vn.1 d.nodup;refine⟨by simp,fun A V=>?_⟩;simp only[Vd]at V;subst V;obtain⟨j,U,u,a0⟩:=d.free A (by simp);refine⟨by rw[G.I];exact j,U,u,fun id a1 a2=>?_⟩;rcases N id A a1 a2 with ⟨J,a3⟩|J
   ·exact a0 id J a3
   ·exact L J
  obtain⟨g2,O,l2,i2,r2,c2,k2,o2⟩:=W6.one (o:=.var t (inj p x (n+1)).1) (t:=t) (b:=some b) (v:=.slice none 0 0) (r:=fun _ _=>.slice none 0 0) (C:=fun R=>CV w R (.ptr n []) [.pointer (some ⟨b,0,none⟩)]) r1 X a5
   ⟨by simp [Gh.add],Zgm p t x (n+1) a6,b,cells,e,by simp [Gh.add],by simp,m,s,Q.mono (fun _ _=>rfl) (Gh.le_add X _ _ _)⟩
   (by simp only[CV];exact⟨.inl rfl,0,t,b,by simp [Gh.add,WE],by simp [Gh.add],rfl⟩)
  have hH:Zr H (Wu (inj (.var t p) x n).2.1)=Kc (Zr H (Wu (inj p x (n+1)).2.1)) n (some (.var t (inj p x (n+1)).1)):=by
   have:Wu (inj (.var t p) x n).2.1=(n,some (.var t (inj p x (n+1)).1))::Wu (inj p x (n+1)).2.1:=by simp [inj,Wu]
   rw[this];simp only[Zr];refine Zer fun q hq=>?_;simp only[Wu,Vo]at hq;obtain⟨o,Y,rfl⟩:=hq;have:=((Yd p x (n+1)).2 o Y).1;show o.1≠n;omega
  rw[hH];refine⟨g2,O,M.trans l2,i2.after G M,r2,by simpa only[inj] using c2,fun id h=>?_,fun id A L h6=>?_⟩
  ·simp only[inj];rcases k2 id h with h|h
   ·rcases k1 id h with h|h
    ·exact .inl h
    ·exact .inr (by omega)
   ·exact .inr (by omega)
  ·rcases o2 id A L h6 with ⟨j,U⟩|j
   ·rcases N id A j U with u|u
    ·exact .inl u
    ·exact .inr (by simp [u])
   ·simp only[Vd]at j;exact .inr (by simp [j])
 |.ro t,H,g,ow,c,x,js,cs,n,h,_,_=>by
  obtain⟨rfl,h⟩:=h
  exact W6.none c n (by simpa only[inj,CV] using h)
 |.map kt vt,H,g,ow,c,x,js,cs,n,h,d,i=>by
  obtain⟨b,es,clock,rfl,rfl,m,a4,s⟩:=h
  exact W6.one (t:=.unit) (b:=some b) (v:=.slice none 0 0) (r:=fun _ _=>.slice none 0 0) c (i n (Vh _) (by simp [inj])) d
   ⟨b,es,clock,by simp [Gh.add],by simp,m,a4,s.mono fun kv e y=>⟨⟨by simp only[CV];exact y.1.1,.inr (by simpa [AV.isAgg] using y.1.2)⟩,⟨by simp only[CV];exact y.2.1,.inr (by simpa [AV.isAgg] using y.2.2)⟩⟩⟩
   (by simp only[inj,CV];exact⟨.inl rfl,b,by simp [Gh.add],rfl⟩)
 |.it kt vt,H,g,ow,c,x,js,cs,n,h,d,i=>by
  obtain⟨b,mb,es,clock,since,seen,rfl,a9,rfl,m,s,D,h4⟩:=h
  exact W6.one (t:=.ref) (b:=some b) (v:=undef) (r:=fun _ _=>.slice none 0 0) c (i n (Vh _) (by simp [inj])) d
   ⟨b,mb,es,clock,since,seen,by simp [Gh.add],by simp [Gh.add],by simp,by simp,m,s,D,h4.mono fun kv e y=>⟨⟨by simp only[CV];exact y.1.1,.inr (by simpa [AV.isAgg] using y.1.2)⟩,⟨by simp only[CV];exact y.2.1,.inr (by simpa [AV.isAgg] using y.2.2)⟩⟩,fun kv a7=>by cases a7⟩
   (by simp only[inj,CV];exact⟨.inl rfl,0,.ref,b,by simp [Gh.add,WE],by simp [Gh.add],rfl⟩)
 |.rows t k,H,g,ow,c,x,js,cs,n,h,d,i=>by
  obtain⟨v,rfl,h⟩:=h;obtain⟨b,r,Y⟩:=h.obj n
  have Z:v.oneCell' =true:=by
   obtain⟨hd,_,h⟩:=h
   rcases h with ⟨_,rfl⟩|⟨_,_,_,_,_,_,rfl,_⟩<;>rfl
  exact W6.one (t:=.sl t) (b:=b) (v:=v) (r:=r) c (i n (Vh _) (by simp [inj])) d Y (by simp only[inj,CV];exact⟨.inl rfl,by simp [Gh.add],by simp [Gh.add,Z]⟩)
 |.mrows kt t,H,g,ow,c,x,js,cs,n,h,d,i=>by
  obtain⟨v,rfl,h⟩:=h;have hv:∃b,v=.map (some b):=by obtain⟨_,b,_,_,h,_⟩:=h;exact⟨b,h⟩
  obtain⟨b,rfl⟩:=hv;obtain⟨r,Y⟩:=h.obj n
  exact W6.one (t:=.sl t) (b:=some b) (v:=undef) (r:=r) c (i n (Vh _) (by simp [inj])) d Y (by simp only[inj,CV];exact⟨.inl rfl,b,by simp [Gh.add],rfl⟩)
 |.bld T e k,H,g,ow,c,x,js,cs,n,h,d,i=>by
  obtain⟨b,rfl,h⟩:=h
  exact W6.one (o:=.bld T e x) (t:=.unit) (b:=some b) (v:=.slice none 0 0) (r:=fun _ _=>.slice none 0 0) c (i n (Vh _) (by simp [inj])) d ⟨b,by simp [Gh.add],h⟩
   (by simp only[inj,CV];exact⟨.inl rfl,0,.unit,b,by simp [Gh.add,WE],by simp [Gh.add],rfl⟩)
 |.agg l,H,g,ow,c,x,js,cs,n,h,d,i=>by
  simp only[PC]at h;simp only[inj,CV]
  exact Zgn l c x js cs n h d (by simpa only[inj] using i)
 |.fn f l,H,g,ow,c,x,js,cs,n,h,d,i=>by
  simp only[PC]at h;obtain⟨cc,rfl,h⟩:=h;simp only[inj,CV];obtain⟨S,z,M,G,r1,Q,k1,N⟩:=Zgn l c x js cc n h d (by simpa only[inj] using i)
  exact⟨S,z,M,G,r1,⟨cc,rfl,Q⟩,k1,N⟩
 |.nilr,H,g,ow,c,x,js,cs,n,h,_,_=>by
  obtain⟨rfl,h⟩:=h
  exact W6.none c n (by simpa only[inj,CV,true_and] using h)
 |.nils,H,g,ow,c,x,js,cs,n,h,_,_=>by
  obtain⟨rfl,h⟩:=h
  exact W6.none c n (by simpa only[inj,CV] using h)
 |.any,H,g,ow,c,x,js,cs,n,h,_,_=>by obtain rfl:=h;exact W6.none c n (by simp only[inj,CV])
theorem Zgn:∀(l:Pats) {H:AH}{g:Gh}{ow:Nat->Nat->Prop} (_:RH B H w g ow) (x:KJ l) (js:List Nat) (cs:List Value) (n:Nat),JP w g.I l x js cs->W5 B H w g ow js->(∀id,n<=id->id<(KM l x n).2.2->¬g.K id)->
 W6 B H w g ow js n (KM l x n).2.2 (Zr H (Wu (KM l x n).2.1)) fun R=>Z5 w R (KM l x n).1 cs
 |.nil,H,g,ow,c,x,js,cs,n,h,_,_=>by
  obtain⟨rfl,rfl⟩:=h
  exact W6.none c n (by simp only[KM,Z5])
 |.cons p l,H,g,ow,c,x,js,cs,n,h,d,i=>by
  obtain⟨j1,j2,Q,c2,rfl,rfl,m,s⟩:=h;have n1:=(Yd p x.1 n).1;have n2:=(R0 l x.2 (inj p x.1 n).2.2).1;have W:∀id,n<=id->id<(KM l x.2 (inj p x.1 n).2.2).2.2->¬g.K id:=by simpa only[KM] using i
  obtain⟨S,z,M,G,r1,d1,k1,N⟩:=Zci p c x.1 j1 Q n m (d.sub (Vl _ _)) fun id h h' =>W id h (by omega)
  obtain⟨g2,O,l2,i2,r2,d2,k2,o2⟩:=Zgn l r1 x.2 j2 c2 (inj p x.1 n).2.2 (by rw[G.I];exact s) (d.after G.I N) fun id h h' hK=>by
   rcases k1 id hK with D|D
   ·exact W id (by omega) h' D
   ·omega
  have hH:Zr H (Wu (KM (.cons p l) x n).2.1)=Zr (Zr H (Wu (inj p x.1 n).2.1)) (Wu (KM l x.2 (inj p x.1 n).2.2).2.1):=by rw[<-Xc];simp [KM,Wu]
  rw[hH];simp only[KM,Z5];refine⟨g2,O,M.trans l2,i2.after G M,r2,⟨Q,c2,rfl,d1.mono (fun _ _=>rfl) l2,d2⟩,fun id h=>?_,fun id A L h6=>?_⟩
  ·rcases k2 id h with h|h
   ·rcases k1 id h with h|h
    ·exact .inl h
    ·exact .inr (by omega)
   ·exact .inr (by omega)
  ·rcases o2 id A L h6 with ⟨j,U⟩|j
   ·rcases N id A j U with u|u
    ·exact .inl u
    ·exact .inr (by simp [u])
   ·exact .inr (by simp [j])
end
end
end Tr
end
section
namespace Tr
open Go
theorem Zka(p:Zy)(x:WO p)(n:Nat)(b:p≠ .any):(inj p x n).1.isAgg=p.isAgg:=by
 cases p<;>simp [inj,AV.isAgg,Zy.isAgg]at b⊢
section
variable {B:Kd}{H:AH}{w:World}{g:Gh}{ow:Nat->Nat->Prop}{F:Nat->AV}{I:Nat->Prop}
theorem Zgl:∀(l:Pats) {H:AH}{g:Gh}{ow:Nat->Nat->Prop} (_:RH B H w g ow) (x:KJ l) (js:List Nat) (vs:List Value) (n:Nat),Jc w g.I l x js vs->W5 B H w g ow js->(∀id,n<=id->id<(KM l x n).2.2->¬g.K id)->
 W6 B H w g ow js n (KM l x n).2.2 (Zr H (Wu (KM l x n).2.1)) fun s=>WM w s (KM l x n).1 vs
 |.nil,H,g,ow,b,x,js,vs,n,h,_,_=>by
  obtain⟨rfl,rfl⟩:=h
  exact W6.none b n rfl
 |.cons p l,H,g,ow,b,x,js,vs,n,h,f,V=>by
  obtain⟨C,D,v,r,rfl,rfl,⟨u,U⟩,Q⟩:=h;have Y:=(Yd p x.1 n).1;have Z:=(R0 l x.2 (inj p x.1 n).2.2).1;have z:∀id,n<=id->id<(KM l x.2 (inj p x.1 n).2.2).2.2->¬g.K id:=by assumption
  obtain⟨O,J,j,d,L,m,W,G⟩:=Zci p b x.1 C v.cells.toList n u (f.sub (Vl _ _)) (by grind);obtain⟨t,e,k,A,M,q,X,o2⟩:=Zgl l L x.2 D r (inj p x.1 n).2.2 (by rw[d.I];omega) (f.after d.I G) (by grind)
  have y:Zr H (Wu (KM (.cons p l) x n).2.1)=Zr (Zr H (Wu (inj p x.1 n).2.1)) (Wu (KM l x.2 (inj p x.1 n).2.2).2.1):=by rw[<-Xc];simp [KM,Wu]
  rw[y]
  have c:(inj p x.1 n).1=.junk\/Ka v=(inj p x.1 n).1.isAgg:=by
   by_cases i:p=.any
   ·subst i;exact .inl rfl
   ·rw[Zka p x.1 n i];grind
  refine⟨t,e,j.trans k,A.after d j,M,⟨v,r,rfl,⟨m.mono (fun _ _=>rfl) k,c⟩,q⟩,fun id h=>?_,fun id N R S=>?_⟩
  ·simp only[KM]
   grind
  grind
theorem ZjG{p:Zy}{v:AV}{r:WO p×ZG}{l c:List Nat}(h:(ext p v).run H l=some (r,c))(i:p≠ .any):v≠ .junk/\v.isAgg=p.isAgg:=by
 cases p with
 |pd t=>
  simp only[ext,Z4]at h;obtain⟨y,m,b,_⟩:=h
  exact ZfB b
 |own t k=>
  simp only[ext,Z4]at h;obtain⟨y,m,b,_⟩:=h
  cases v<;>simp [Xb,Zb]at b<;>exact⟨by simp,rfl⟩
 |var t p=>cases v<;>simp [ext,Zb]at h<;>exact⟨by simp,rfl⟩
 |ro t=>cases v<;>simp [ext,Zb]at h<;>exact⟨by simp,rfl⟩
 |map k t=>cases v<;>simp [ext,Zb]at h<;>exact⟨by simp,rfl⟩
 |rows t k=>
  simp only[ext,Z4]at h;obtain⟨y,m,b,_⟩:=h
  cases v<;>simp [Gc,Zb]at b<;>exact⟨by simp,rfl⟩
 |mrows k t=>cases v<;>simp [ext,Zb]at h<;>exact⟨by simp,rfl⟩
 |it k t=>cases v<;>simp [ext,Zb]at h<;>exact⟨by simp,rfl⟩
 |bld T e k=>cases v<;>simp [ext,Zb]at h<;>exact⟨by simp,rfl⟩
 |agg pl=>
  cases v with
  |agg vs=>exact⟨by simp,rfl⟩
  |d t x=>
   simp only[ext,ZL,Zb,ZR,Z3]at h
   exact⟨by simp,Zqy h.1 rfl⟩
  |_=>simp [ext,Zb]at h
 |fn f pl=>cases v<;>simp [ext,Zb]at h<;>exact⟨by simp,rfl⟩
 |nilr=>cases v<;>simp [ext,Zb]at h<;>exact⟨by simp,rfl⟩
 |nils=>cases v<;>simp [ext,Zb]at h<;>exact⟨by simp,rfl⟩
 |any=>grind
theorem ZjF(j:RH B H w g ow)(A:∀b,g.I b->I b):∀(pl:Pats) (v:Zq) (c:List Value) (x:KJ pl) (ids:ZG) (l s:List Nat),(Wx pl v).run H l=some ((x,ids),s)->WM w g v c->(∀b,ZV H ow ids.br b->I b)->
 ids.tk.Nodup->∃js,Jc w I pl x js c/\js.Nodup/\ ∀b∈js,ZV H ow ids.tk b
 |.nil,.nil,c,x,ids,l,s,h,n,i,_=>by
  simp only[Wx,Zi,Va]at h;obtain⟨⟨_,rfl⟩,_⟩:=h
  exact⟨[],⟨rfl,n⟩,.nil,by simp⟩
 |.cons p pl,.cons v vs,c,x,ids,l,s,h,n,i,V=>by
  simp only[Wx,Z4,Zi,Va]at h;obtain⟨⟨Z,C⟩,m1,t,⟨x2,D⟩,m2,M,⟨rfl,rfl⟩,_⟩:=h;obtain⟨u,r,rfl,y,N⟩:=n;have q:(C.tk++D.tk).Nodup:=V;obtain⟨X,Y,n3⟩:=Ve.1 q;obtain⟨G,O,Q,z⟩:=H7 j A p v u.cells.toList Z C _ _ t y.1 (fun b d=>i b (WT (fun _ h=>by simp [ZG.app,h]) d)) X;obtain⟨J,R,S,f⟩:=ZjF j A pl vs r x2 D _ _ M N (fun b d=>i b (WT (fun _ h=>by simp [ZG.app,h]) d)) Y
  have k:p=.any\/Ka u=p.isAgg:=by
   by_cases W:p=.any
   ·grind
   ·obtain⟨U,d⟩:=ZjG t W;rw[<-d];exact .inr (y.2.resolve_left U)
  refine⟨G++J,⟨G,J,u,r,rfl,rfl,⟨O,k⟩,R⟩,Ve.2 ⟨Q,S,fun b d b' m e=>?_⟩,fun b d=>?_⟩
  ·subst e;obtain⟨id,K,L⟩:=Ge j (z b d) (f b m)
   grind
  ·rcases Vk.1 d with d|d
   ·exact WT (fun _ h=>by simp [ZG.app,h]) (z b d)
   ·exact WT (fun _ h=>by simp [ZG.app,h]) (f b d)
 |.nil,.cons _ _,_,_,_,_,_,h,_,_,_=>by simp [Wx,Zb]at h
 |.cons _ _,.nil,_,_,_,_,_,h,_,_,_=>by simp [Wx,Zb]at h
mutual
def PO(w:World)(I:Nat->Prop):(p:Zy)->HE p->List Nat->List Value->Prop
 |.own t true,y,js,cs=>PC w I (.own t true) y js cs
 |.own _ false,_,js,_=>js=[]
 |.var t p,y,js,cs=>PC w I (.var t p) y js cs
 |.map b i,y,js,cs=>PC w I (.map b i) y js cs
 |.rows t true,y,js,cs=>PC w I (.rows t true) y js cs
 |.rows _ false,_,js,_=>js=[]
 |.mrows b t,y,js,cs=>PC w I (.mrows b t) y js cs
 |.it _ _,_,js,_=>js=[]
 |.bld T e true,y,js,cs=>PC w I (.bld T e true) y js cs
 |.bld _ _ false,_,js,_=>js=[]
 |.agg l,y,js,cs=>XD w I l y js cs
 |.fn f l,y,js,cs=>∃c:List Value,cs=[.func (.func f) #[] c.toArray]/\XD w I l y js c
 |.pd _,_,js,_=>js=[]
 |.ro _,_,js,_=>js=[]
 |.nilr,_,js,_=>js=[]
 |.nils,_,js,_=>js=[]
 |.any,_,js,_=>js=[]
def XD(w:World)(I:Nat->Prop):(l:Pats)->WB l->List Nat->List Value->Prop
 |.nil,_,js,_=>js=[]
 |.cons p l,y,js,cs=>∃d h,js=d++h/\PO w I p y.1 d (cs.take p.sz)/\XD w I l y.2 h (cs.drop p.sz)
end
def Hk(w:World)(I:Nat->Prop):(l:Pats)->WB l->List Nat->List Value->Prop
 |.nil,_,b,_=>b=[]
 |.cons p l,y,b,vs=>∃c d v r,b=c++d/\vs=v::r/\PO w I p y.1 c v.cells.toList/\Hk w I l y.2 d r
mutual
theorem DH:∀(p:Zy) (x:WO p) (js:List Nat) (cs:List Value),p.noAny=true->PC w I p x js cs->cs.length=p.sz
 |.pd t,x,js,cs,_,h=>Rd.length t x cs h.2
 |.own t k,x,js,cs,_,h=>by
  rcases h with ⟨_,_,rfl⟩|⟨b,cap,cells,e,css,_,rfl,_⟩<;>rfl
 |.var t p,x,js,cs,_,h=>by obtain⟨_,b,u,cells,e,_,rfl,_⟩:=h;rfl
 |.ro t,x,js,cs,_,h=>by obtain⟨_,b,off,c,rfl,_⟩:=h;rfl
 |.map i y,x,js,cs,_,h=>by obtain⟨b,es,clock,_,rfl,_⟩:=h;rfl
 |.it i y,x,js,cs,_,h=>by obtain⟨b,A,es,clock,since,seen,_,_,rfl,_⟩:=h;rfl
 |.rows t k,x,js,cs,_,h=>by obtain⟨v,rfl,_⟩:=h;rfl
 |.mrows i t,x,js,cs,_,h=>by obtain⟨v,rfl,_⟩:=h;rfl
 |.bld T e k,x,js,cs,_,h=>by obtain⟨b,rfl,_⟩:=h;rfl
 |.agg l,x,js,cs,d,h=>by
  simp only[PC]at h
  exact Zh6 l x js cs (by simpa only[Zy.noAny] using d) h
 |.fn f l,x,js,cs,_,h=>by obtain⟨z,rfl,_⟩:=h;rfl
 |.nilr,_,js,cs,_,h=>by
  rcases h.2 with rfl|rfl|rfl<;>rfl
 |.nils,_,js,cs,_,h=>by rw[h.2];rfl
 |.any,_,_,_,d,_=>by simp [Zy.noAny]at d
theorem Zh6:∀(l:Pats) (x:KJ l) (js:List Nat) (cs:List Value),l.noAny=true->JP w I l x js cs->cs.length=l.sz
 |.nil,_,_,_,_,h=>by obtain⟨_,rfl⟩:=h;rfl
 |.cons p l,x,js,cs,d,h=>by obtain⟨r,s,j,m,rfl,rfl,n,q⟩:=h;simp only[Pats.noAny,Vb]at d;rw[Vr,DH p x.1 r j d.1 n,Zh6 l x.2 s m d.2 q];rfl
end
mutual
theorem Zh7{w' :World}{I' :Nat->Prop} :∀(p:Zy) (y:HE p) (cs:List Value) (x:WO p) (js:List Nat),p.back=false->p.noAny=true->PC w' I' p x js cs->PO w I p y [] cs
 |.own t true,_,_,_,_,h,_,_=>by simp [Zy.back]at h
 |.own t false,_,_,_,_,_,_,_=>rfl
 |.var t p,_,_,_,_,h,_,_=>by simp [Zy.back]at h
 |.map k v,_,_,_,_,h,_,_=>by simp [Zy.back]at h
 |.rows t true,_,_,_,_,h,_,_=>by simp [Zy.back]at h
 |.rows t false,_,_,_,_,_,_,_=>rfl
 |.mrows k t,_,_,_,_,h,_,_=>by simp [Zy.back]at h
 |.it _ _,_,_,_,_,_,_,_=>rfl
 |.bld _ _ true,_,_,_,_,h,_,_=>by simp [Zy.back]at h
 |.bld _ _ false,_,_,_,_,_,_,_=>rfl
 |.agg l,y,cs,x,js,h,b,c=>by
  simp only[PC]at c;simp only[PO]
  exact Zfd l y cs x js (by simpa only[Zy.back] using h) (by simpa only[Zy.noAny] using b) c
 |.fn f l,y,cs,x,js,h,b,c=>by
  obtain⟨e,rfl,c⟩:=c
  exact⟨e,rfl,Zfd l y e x js (by simpa only[Zy.back] using h) (by simpa only[Zy.noAny] using b) c⟩
 |.pd t,_,_,_,_,_,_,_=>rfl
 |.ro t,_,_,_,_,_,_,_=>rfl
 |.nilr,_,_,_,_,_,_,_=>rfl
 |.nils,_,_,_,_,_,_,_=>rfl
 |.any,_,_,_,_,_,_,_=>rfl
theorem Zfd{w' :World}{I' :Nat->Prop} :∀(l:Pats) (y:WB l) (cs:List Value) (x:KJ l) (js:List Nat),l.back=false->l.noAny=true->JP w' I' l x js cs->XD w I l y [] cs
 |.nil,_,_,_,_,_,_,_=>rfl
 |.cons p l,y,cs,x,js,h,b,c=>by
  obtain⟨m,r,d,n,rfl,rfl,i,q⟩:=c;simp only[Pats.back,Bool.or_eq_false_iff]at h;simp only[Pats.noAny,Vb]at b;have j:=DH p x.1 m d b.1 i;refine⟨[],[],rfl,?_,?_⟩
  ·rw[Vma j];exact Zh7 p y.1 d x.1 m h.1 b.1 i
  ·rw[Vna j];exact Zfd l y.2 n x.2 r h.2 b.2 q
end
theorem Za9{p:Zy}{v:AV}{y:HE p}{ids:ZG}{l C:List Nat}(h:(JI p v).run H l=some ((y,ids),C))(m:RH B H w g ow)(i:∀b,g.I b->I b){cs:List Value}(n:CV w g v cs)
 (j:∀b,ZV H ow ids.br b->I b) (s:ids.tk.Nodup) (D:(∃t,p=.own t true)\/(∃t q,p=.var t q)\/(∃k t,p=.map k t)\/(∃t,p=.rows t true)\/(∃k t,p=.mrows k t)\/ ∃T e,p=.bld T e true):∃js,PO w I p y js cs/\js.Nodup/\(∀b∈js,ZV H ow ids.tk b)/\cs.length=p.sz:=by
 rcases D with ⟨t,rfl⟩|⟨t,q,rfl⟩|⟨k,t,rfl⟩|⟨t,rfl⟩|⟨k,t,rfl⟩|⟨T,e,rfl⟩
 ·cases v with
  |vw id=>
   have A:(ext (.own t true) (.vw id)).run H l=some ((y,ids),C):=by
    simp only[JI]at h;rw[Z1]at h;simp only[ext,Xb,Z4,Zi,Va];split at h
    ·rename_i K xs x;simp only[ZC,Zi,Va]at h;obtain⟨z,G,⟨rfl,rfl⟩,rfl⟩:=h;refine⟨⟨z,[id]⟩,id::l,?_,⟨rfl,rfl⟩,rfl⟩;rw[Z1,x];simp only[ZC,Zi]
     grind
    ·simp [Zb]at h
   obtain⟨js,c,d,f⟩:=H7 m i _ _ cs _ _ _ _ A n j s
   exact⟨js,c,d,f,DH (.own t true) y js cs rfl c⟩
  |_=>simp [JI,Zb]at h
 ·cases v with
  |ptr id path=>
   cases path with
   |nil=>
    obtain⟨js,c,d,f⟩:=H7 m i (.var t q) (.ptr id []) cs y ids _ _ (by assumption) n j s;refine⟨js,c,d,f,?_⟩;obtain⟨_,b,J,cells,e,_,rfl,_⟩:=c
    rfl
   |cons a r=>simp [JI,Zb]at h
  |_=>simp [JI,Zb]at h
 ·cases v with
  |mp id=>
   obtain⟨js,c,d,f⟩:=H7 m i (.map k t) (.mp id) cs y ids _ _ (by assumption) n j s
   exact⟨js,c,d,f,DH (.map k t) y js cs rfl c⟩
  |_=>simp [JI,Zb]at h
 ·cases v with
  |vw id=>
   have A:(ext (.rows t true) (.vw id)).run H l=some ((y,ids),C):=by
    simp only[JI]at h;rw[Z1]at h;simp only[ext,Gc,Z4,Zi,Va];split at h
    ·rename_i K xs u x;simp only[ZC,Zi,Va]at h;obtain⟨z,G,⟨rfl,rfl⟩,rfl⟩:=h;refine⟨⟨z,[id]⟩,id::l,?_,⟨rfl,rfl⟩,rfl⟩;rw[Z1,x];simp only[ZC,Zi]
     grind
    ·simp [Zb]at h
   obtain⟨js,c,d,f⟩:=H7 m i _ _ cs _ _ _ _ A n j s
   exact⟨js,c,d,f,DH (.rows t true) y js cs rfl c⟩
  |_=>simp [JI,Zb]at h
 ·cases v with
  |mp id=>
   obtain⟨js,c,d,f⟩:=H7 m i (.mrows k t) (.mp id) cs y ids _ _ (by assumption) n j s
   exact⟨js,c,d,f,DH (.mrows k t) y js cs rfl c⟩
  |_=>simp [JI,Zb]at h
 ·cases v with
  |ptr id path=>
   cases path with
   |nil=>
    obtain⟨js,c,d,f⟩:=H7 m i (.bld T e true) (.ptr id []) cs y ids _ _ (by assumption) n j s
    exact⟨js,c,d,f,DH (.bld T e true) y js cs rfl c⟩
   |cons a r=>simp [JI,Zb]at h
  |_=>simp [JI,Zb]at h
mutual
theorem Zls(s:RH B H w g ow)(u:∀b,g.I b->I b):∀(p:Zy) (v:AV) (cs:List Value) (y:HE p) (ids:ZG) (l j:List Nat),(JI p v).run H l=some ((y,ids),j)->CV w g v cs->(∀b,ZV H ow ids.br b->I b)->ids.tk.Nodup->
 ∃js,PO w I p y js cs/\js.Nodup/\(∀b∈js,ZV H ow ids.tk b)/\(ZfS p v=true->cs.length=p.sz)
 |.own t true,v,cs,y,ids,l,j,h,c,d,i=>by
  obtain⟨js,m,n,q,r⟩:=Za9 h s u c d i (.inl ⟨t,rfl⟩)
  exact⟨js,m,n,q,fun _=>r⟩
 |.var t p,v,cs,y,ids,l,j,h,c,d,i=>by
  obtain⟨js,m,n,q,r⟩:=Za9 h s u c d i (.inr (.inl ⟨t,p,rfl⟩))
  exact⟨js,m,n,q,fun _=>r⟩
 |.map k t,v,cs,y,ids,l,j,h,c,d,i=>by
  obtain⟨js,m,n,q,r⟩:=Za9 h s u c d i (.inr (.inr (.inl ⟨k,t,rfl⟩)))
  exact⟨js,m,n,q,fun _=>r⟩
 |.rows t true,v,cs,y,ids,l,j,h,c,d,i=>by
  obtain⟨js,m,n,q,r⟩:=Za9 h s u c d i (.inr (.inr (.inr (.inl ⟨t,rfl⟩))))
  exact⟨js,m,n,q,fun _=>r⟩
 |.rows t false,v,cs,y,ids,l,j,h,c,d,i=>by
  simp only[JI,Zi,Va]at h
  exact⟨[],rfl,.nil,by simp,fun h=>CV.length v (.sl (.sl t)) cs h c⟩
 |.mrows k t,v,cs,y,ids,l,j,h,c,d,i=>by
  obtain⟨js,m,n,q,r⟩:=Za9 h s u c d i (.inr (.inr (.inr (.inr (.inl ⟨k,t,rfl⟩)))))
  exact⟨js,m,n,q,fun _=>r⟩
 |.it _ _,v,cs,y,ids,l,j,h,c,d,i=>⟨[],rfl,.nil,by simp,fun h=>CV.length v .ref cs h c⟩
 |.bld T e true,v,cs,y,ids,l,j,h,c,d,i=>by
  obtain⟨js,m,n,q,r⟩:=Za9 h s u c d i (.inr (.inr (.inr (.inr (.inr ⟨T,e,rfl⟩)))))
  exact⟨js,m,n,q,fun _=>r⟩
 |.bld T e false,v,cs,y,ids,l,j,h,c,d,i=>by
  simp only[JI,Zi,Va]at h
  exact⟨[],rfl,.nil,by simp,fun h=>CV.length v .ref cs h c⟩
 |.own t false,v,cs,y,ids,l,j,h,c,d,i=>by
  simp only[JI,Zi,Va]at h
  exact⟨[],rfl,.nil,by simp,fun h=>CV.length v (.sl t) cs h c⟩
 |.pd t,v,cs,y,ids,l,j,h,c,d,i=>⟨[],rfl,.nil,by simp,fun h=>CV.length v t cs h c⟩
 |.ro t,v,cs,y,ids,l,j,h,c,d,i=>⟨[],rfl,.nil,by simp,fun h=>CV.length v .ref cs h c⟩
 |.nilr,v,cs,y,ids,l,j,h,c,d,i=>⟨[],rfl,.nil,by simp,fun h=>CV.length v .ref cs h c⟩
 |.nils,v,cs,y,ids,l,j,h,c,d,i=>⟨[],rfl,.nil,by simp,fun h=>CV.length v (.sl .unit) cs h c⟩
 |.any,v,cs,y,ids,l,j,h,c,d,i=>⟨[],rfl,.nil,by simp,fun h=>by simp [ZfS]at h⟩
 |.agg pl,v,cs,y,ids,l,j,h,c,d,i=>by
  cases v with
  |agg vs=>
   simp only[JI]at h;simp only[CV]at c;obtain⟨js,m,n,q,r⟩:=ZgZ s u pl vs cs y ids l j h c d i
   exact⟨js,m,n,q,fun _=>r⟩
  |_=>simp [JI,Zb]at h
 |.fn f pl,v,cs,y,ids,l,j,h,c,d,i=>by
  cases v with
  |fn f' vs=>
   simp only[JI,ZL,Zb,ZR,Z3]at h;obtain⟨L,h⟩:=h;have L:=Vj L;subst L;simp only[CV]at c;obtain⟨O,rfl,c⟩:=c;obtain⟨js,m,n,q,_⟩:=ZgZ s u pl vs O y ids l j h c d i
   exact⟨js,⟨O,rfl,m⟩,n,q,fun _=>rfl⟩
  |_=>simp [JI,Zb]at h
theorem ZgZ(s:RH B H w g ow)(u:∀b,g.I b->I b):∀(pl:Pats) (v:Zq) (cs:List Value) (y:WB pl) (ids:ZG) (l j:List Nat),(Zae pl v).run H l=some ((y,ids),j)->Z5 w g v cs->(∀b,ZV H ow ids.br b->I b)->ids.tk.Nodup->
 ∃js,XD w I pl y js cs/\js.Nodup/\(∀b∈js,ZV H ow ids.tk b)/\cs.length=pl.sz
 |.nil,.nil,cs,y,ids,l,j,h,c,d,_=>by
  simp only[Z5]at c;subst c
  exact⟨[],rfl,.nil,by simp,rfl⟩
 |.cons p pl,.cons v vs,cs,y,ids,l,j,h,c,d,i=>by
  simp only[Zae,ZL,Z4,Zi,Zb,ZR,Z3,Va]at h;obtain⟨K,⟨x1,R⟩,m1,m,⟨x2,S⟩,m2,n,⟨rfl,rfl⟩,_⟩:=h;simp only[Z5]at c;obtain⟨W,X,rfl,q,r⟩:=c;have N:(R.tk++S.tk).Nodup:=i;obtain⟨n1,n2,n3⟩:=Ve.1 N;obtain⟨U,Y,Z,Q,h8⟩:=Zls s u p v W x1 R _ _ m q (fun b x=>d b (WT (fun _ h=>by simp [ZG.app,h]) x)) n1;obtain⟨V,h9,A,z,C⟩:=ZgZ s u pl vs X x2 S _ _ n r (fun b x=>d b (WT (fun _ h=>by simp [ZG.app,h]) x)) n2;have M:=h8 K;refine⟨U++V,⟨U,V,rfl,by rw[Vma M];exact Y,by rw[Vna M];exact h9⟩,Ve.2 ⟨Z,A,fun b x b' J e=>?_⟩,fun b x=>?_,by rw[Vr,M,C];rfl⟩
  ·subst e;obtain⟨id,D,G⟩:=Ge s (Q b x) (z b J);exact n3 id D id G rfl
  ·rcases Vk.1 x with x|x
   ·exact WT (fun _ h=>by simp [ZG.app,h]) (Q b x)
   ·exact WT (fun _ h=>by simp [ZG.app,h]) (z b x)
 |.nil,.cons _ _,_,_,_,_,_,h,_,_,_=>by simp [Zae,Zb]at h
 |.cons _ _,.nil,_,_,_,_,_,h,_,_,_=>by simp [Zae,Zb]at h
end
theorem Zsn:∀(p:Zy) (l:Zq),p.back=true->JI p (.tup l)=.fail
 |.own _ true,_,_=>rfl
 |.own _ false,_,h=>by simp [Zy.back]at h
 |.var _ _,_,_=>rfl
 |.map _ _,_,_=>rfl
 |.rows _ true,_,_=>rfl
 |.rows _ false,_,h=>by simp [Zy.back]at h
 |.mrows _ _,_,_=>rfl
 |.it _ _,_,h=>by simp [Zy.back]at h
 |.bld _ _ true,_,_=>rfl
 |.bld _ _ false,_,h=>by simp [Zy.back]at h
 |.agg _,_,_=>rfl
 |.fn _ _,_,_=>rfl
 |.pd _,_,h=>by simp [Zy.back]at h
 |.ro _,_,h=>by simp [Zy.back]at h
 |.nilr,_,h=>by simp [Zy.back]at h
 |.nils,_,h=>by simp [Zy.back]at h
 |.any,_,h=>by simp [Zy.back]at h
theorem Zg0(t:RH B H w g ow)(J:∀b,g.I b->I b){w0:World}{I0:Nat->Prop} :∀(pl:Pats) (n:Nat) (d:List Value) (x:KJ pl) (O:List Nat) (y:WB pl) (ids:ZG) (l Q:List Nat),(Zba pl (ZcN F pl n)).run H l=some ((y,ids),Q)->
 pl.wf=true->Jc w0 I0 pl x O d->(∀k v,k+n∈GA pl n->d[k]? =some v->VR w g (F (k+n)) v)->(∀b,ZV H ow ids.br b->I b)->ids.tk.Nodup->∃js,Hk w I pl y js d/\js.Nodup/\ ∀b∈js,ZV H ow ids.tk b
 |.nil,n,d,x,O,y,ids,l,Q,h,_,N,_,s,_=>by
  obtain⟨rfl,rfl⟩:=N
  exact⟨[],rfl,.nil,by simp⟩
 |.cons p pl,n,d,x,O,y,ids,l,Q,h,hw,N,W,s,X=>by
  obtain⟨a1,S,v,r,rfl,rfl,h1,U⟩:=N
  have i:pl.wf=true/\(p=.any\/p.noAny=true):=by
   cases p<;>simp only[Pats.wf,Vb]at hw<;>first|grind|grind
  have j:∀k v,k+(n+1)∈GA pl (n+1)->r[k]? =some v->VR w g (F (k+(n+1))) v:=fun k v' hk a4=>by
   have:=W (k+1) v' (by simp only[GA,Vk];grind) (by grind)
   grind
  cases c:p.back with
  |true=>
   simp only[ZcN,Zba,c,Zc,Z4,Zi,Va]at h;obtain⟨⟨x1,Y⟩,m1,z,⟨R,u⟩,m2,A,⟨rfl,rfl⟩,_⟩:=h;have L:(Y.tk++u.tk).Nodup:=X;obtain⟨n1,n2,n3⟩:=Ve.1 L;have m:=W 0 v (by simp [GA,c]) rfl;rw[Nat.zero_add]at m
   have G:CV w g (F n) v.cells.toList:=by refine(m.to1 fun l e=>?_).1;rw[e,Zsn p l c]at z;simp [Zb]at z
   obtain⟨Z,h5,h6,V,_⟩:=Zls t J p (F n) _ x1 Y _ _ z G (fun b c=>s b (WT (fun _ h=>by simp [ZG.app,h]) c)) n1;obtain⟨q,C,D,f⟩:=Zg0 t J pl (n+1) r x.2 S R u _ _ A i.1 U j (fun b c=>s b (WT (fun _ h=>by simp [ZG.app,h]) c)) n2;refine⟨Z++q,⟨Z,q,v,r,rfl,rfl,h5,C⟩,Ve.2 ⟨h6,D,fun b c b' K e=>?_⟩,fun b c=>?_⟩
   ·subst e;obtain⟨id,a0,a3⟩:=Ge t (V b c) (f b K)
    grind
   ·rcases Vk.1 c with c|c
    ·exact WT (fun _ h=>by simp [ZG.app,h]) (V b c)
    ·exact WT (fun _ h=>by simp [ZG.app,h]) (f b c)
  |false=>
   simp only[ZcN,Zba,c,Ze,Z4,Zi,Va]at h;obtain⟨⟨R,u⟩,m2,A,⟨rfl,rfl⟩,_⟩:=h;obtain⟨q,C,D,f⟩:=Zg0 t J pl (n+1) r x.2 S R u _ _ A i.1 U j s X;refine⟨q,⟨[],q,v,r,rfl,rfl,?_,C⟩,D,f⟩;rcases i.2 with rfl|M
   ·rfl
   ·exact Zh7 p _ _ x.1 a1 c M h1.1
end
end Tr
end
section
namespace Tr
open Go
theorem RH.revive{B:Kd}{H:AH}{w:World}{g:Gh}{ow:Nat->Nat->Prop}(h:RH B H w g ow){id:Nat}{o:K0}{J:Nat->Prop}(r:g.K id)
 (s:∀b,J b->¬g.I b/\b<w.heap.size/\(B.own0 b\/B.w0.heap.size<=b)/\ ∀j,H j≠none->¬ow j b) (t:WF w g J id o):RH B (Kc H id (some o)) w g (Xm ow id J) where
 objs:=fun k q e=>by
  by_cases c:k=id
  ·subst c;rw[XM]at e;cases e;rw[JS];grind
  ·rw[Ky c]at e;rw[WV c];exact h.objs k q e
 dist:=fun k p n i f l m=>by
  by_cases c:k=id<;>by_cases d:p=id
  ·omega
  ·subst c;rw[Ky d]at f;rw[JS]at l;rw[WV d]at m
   grind
  ·subst d;rw[Ky c]at i;rw[JS]at m;rw[WV c]at l
   grind
  ·rw[Ky c]at i;rw[Ky d]at f;rw[WV c]at l;rw[WV d]at m;exact h.dist k p n i f l m
 sep:=fun k n i f=>by
  by_cases c:k=id
  ·subst c;rw[JS]at f
   grind
  ·rw[Ky c]at i;rw[WV c]at f;exact h.sep k n i f
 ilt:=h.ilt
 inew:=h.inew
 os:=h.os
 tape:=h.tape
 output:=h.output
 size:=h.size
 kept:=h.kept
theorem RH.call{B:Kd}{H:AH}{w w' :World}{g:Gh}{ow:Nat->Nat->Prop}(h:RH B H w g ow){js:List Nat}{J:Nat->Prop}
 (c:∀b,b<w.heap.size->b ∉ js->w'.heap[b]? =w.heap[b]?) (s:w.heap.size<=w'.heap.size) (n:w'.os=w.os) (d:w'.tape=w.tape) (i:YX B.pl w' w)
 (q:∀b∈js,¬g.I b/\(B.own0 b\/B.w0.heap.size<=b)/\ ∀id,H id≠none->¬ow id b)
 (p:∀b,J b->b<w'.heap.size/\(B.I0 b\/B.own0 b\/B.w0.heap.size<=b)/\ ∀id,H id≠none->¬ow id b):RH B H w' (g.grow J) ow:=by
 have l:Kj g.I w w' :=fun b f=>c b (h.ilt b f) (by grind)
 have e:RH B H w' g ow:= {
  objs:=fun k o m=>⟨(h.objs k o m).1,(h.objs k o m).2.mono l (.refl g) (h.objs k o m).1 rfl fun b f=>by
   have r:H k≠none:=by grind
   exact c b (h.sep k b r f).2.1 (by grind)⟩
  dist:=h.dist
  sep:=fun k b e j=>by have:=h.sep k b e j;grind
  ilt:=fun b f=>by have:=h.ilt b f;omega
  inew:=h.inew
  os:=n.trans h.os
  tape:=d.trans h.tape
  output:=i.trans h.output
  size:=by have:=h.size;omega
  kept:=fun b e j=>by rw[c b (by have:=h.size;omega) (by grind)];exact h.kept b e j}
 exact e.grow p
mutual
theorem ZjH{H:AH} :∀(p:Zy) (v:AV) (x:WO p) (ids:ZG) (l d:List Nat),(ext p v).run H l=some ((x,ids),d)->∀id∈ids.tk,H id≠none
 |.pd t,v,x,ids,l,d,h=>by
  simp only[ext,Z4,Zi,Va]at h;obtain⟨_,_,_,⟨_,rfl⟩,_⟩:=h
  simp
 |.own t k,v,x,ids,l,d,h=>by
  simp only[ext,Z4,Zi,Va]at h;obtain⟨⟨n,j⟩,m,c,⟨_,rfl⟩,_⟩:=h;unfold Xb at c;split at c
  ·rw[Z1]at c;split at c
   ·rename_i i;simp only[ZC,Zi,Va]at c;obtain⟨_,_,⟨_,rfl⟩,_⟩:=c;intro id b;simp only[Vd]at b;subst b;rw[i];simp
   ·simp [Zb]at c
  ·rw[Z1]at c;split at c
   ·rename_i i;simp only[ZC,Zi,Va]at c;obtain⟨_,_,⟨_,rfl⟩,_⟩:=c;intro id b;simp only[Vd]at b;subst b;rw[i];simp
   ·simp [Zb]at c
  ·simp only[Zi,Va]at c;obtain⟨⟨_,rfl⟩,_⟩:=c;simp
  ·simp [Zb]at c
 |.var t p,v,x,ids,l,d,h=>by
  simp only[ext]at h;split at h
  ·rw[Z1]at h;split at h
   ·rename_i i;simp only[ZL,Z4,Zi,Zb,ZR,Z3,Va]at h;obtain⟨_,⟨n,j⟩,m,c,⟨_,rfl⟩,_⟩:=h;intro id b;rcases Vm.1 b with rfl|b
    ·rw[i];simp
    ·exact ZjH p _ n j _ _ c id b
   ·simp [Zb]at h
  ·simp [Zb]at h
 |.ro t,v,x,ids,l,d,h=>by
  simp only[ext]at h;split at h
  ·rw[Z1]at h;split at h
   ·simp only[ZC,Zi,Va]at h;obtain⟨_,_,⟨_,rfl⟩,_⟩:=h;simp
   ·simp [Zb]at h
  ·simp only[ZC,Zi,Va]at h;obtain⟨_,_,⟨_,rfl⟩,_⟩:=h;simp [ZG.none]
  ·simp [Zb]at h
 |.map q u,v,x,ids,l,d,h=>by
  simp only[ext]at h;split at h
  ·rw[Z1]at h;split at h
   ·rename_i i;simp only[ZC,Zi,Va]at h;obtain⟨_,_,⟨_,rfl⟩,_⟩:=h;intro id b;simp only[Vd]at b;subst b;rw[i];simp
   ·simp [Zb]at h
  ·simp [Zb]at h
 |.it q u,v,x,ids,l,d,h=>by
  simp only[ext]at h;split at h
  ·rw[Z1]at h;split at h
   ·rename_i i;simp only[ZC,Zi,Va]at h;obtain⟨_,_,⟨_,rfl⟩,_⟩:=h;intro id b;simp only[Vd]at b;subst b;rw[i];simp
   ·simp [Zb]at h
  ·simp [Zb]at h
 |.rows t k,v,x,ids,l,d,h=>by
  simp only[ext,Z4,Zi,Va]at h;obtain⟨⟨n,j⟩,m,c,⟨_,rfl⟩,_⟩:=h;unfold Gc at c;split at c
  ·rw[Z1]at c;split at c
   ·rename_i i;simp only[ZC,Zi,Va]at c;obtain⟨_,_,⟨_,rfl⟩,_⟩:=c;intro id b;simp only[Vd]at b;subst b;rw[i];simp
   ·simp [Zb]at c
  ·simp only[Zi,Va]at c;obtain⟨⟨_,rfl⟩,_⟩:=c;simp
  ·simp [Zb]at c
 |.mrows q t,v,x,ids,l,d,h=>by
  simp only[ext]at h;split at h
  ·rw[Z1]at h;split at h
   ·rename_i i;simp only[ZC,Zi,Va]at h;obtain⟨_,_,⟨_,rfl⟩,_⟩:=h;intro id b;simp only[Vd]at b;subst b;rw[i];simp
   ·simp [Zb]at h
  ·simp [Zb]at h
 |.bld T e k,v,x,ids,l,d,h=>by
  simp only[ext]at h;split at h
  ·rw[Z1]at h;split at h
   ·rename_i i;simp only[ZL,Zi,Zb,ZR,Z3,Vb,Va]at h;obtain⟨_,⟨_,rfl⟩,_⟩:=h;intro id b;simp only[Vd]at b;subst b;rw[i];simp
   ·simp [Zb]at h
  ·simp [Zb]at h
 |.agg pl,v,x,ids,l,d,h=>by
  simp only[ext]at h;split at h
  ·exact D7 pl _ x ids l d h
  ·simp only[ZL,Zb,ZR,Z3]at h;exact D7 pl _ x ids l d h.2
  ·simp [Zb]at h
 |.fn f pl,v,x,ids,l,d,h=>by
  simp only[ext]at h;split at h
  ·simp only[ZL,Zb,ZR,Z3]at h;exact D7 pl _ x ids l d h.2
  ·simp [Zb]at h
 |.nilr,v,x,ids,l,d,h=>by
  simp only[ext]at h;split at h
  ·simp only[Zi,Va]at h;obtain⟨⟨_,rfl⟩,_⟩:=h;simp [ZG.none]
  ·simp [Zb]at h
 |.nils,v,x,ids,l,d,h=>by
  simp only[ext]at h;split at h
  ·simp only[Zi,Va]at h;obtain⟨⟨_,rfl⟩,_⟩:=h;simp [ZG.none]
  ·simp [Zb]at h
 |.any,v,x,ids,l,d,h=>by simp only[ext,Zi,Va]at h;obtain⟨⟨_,rfl⟩,_⟩:=h;simp [ZG.none]
theorem D7{H:AH} :∀(pl:Pats) (v:Zq) (x:KJ pl) (ids:ZG) (l d:List Nat),(Wx pl v).run H l=some ((x,ids),d)->∀id∈ids.tk,H id≠none
 |.nil,.nil,x,ids,l,d,h=>by
  simp only[Wx,Zi,Va]at h;obtain⟨⟨_,rfl⟩,_⟩:=h
  simp [ZG.none]
 |.cons p pl,.cons v vs,x,ids,l,d,h=>by
  simp only[Wx,Z4,Zi,Va]at h;obtain⟨⟨n,j⟩,z,c,⟨y,s⟩,m2,r,⟨_,rfl⟩,_⟩:=h;intro id b;rcases Vk.1 b with b|b
  ·exact ZjH p v n j _ _ c id b
  ·exact D7 pl vs y s _ _ r id b
 |.nil,.cons _ _,_,_,_,_,h=>by simp [Wx,Zb]at h
 |.cons _ _,.nil,_,_,_,_,h=>by simp [Wx,Zb]at h
end
def Zez:Option K0->Option Nat
 |some (.rows _ _ v _)=>some v
 |some (.mrows _ _ _ v _)=>some v
 |_=>none
def WG(B:Kd)(H:AH)(w:World)(g:Gh)(ow:Nat->Nat->Prop)(js:List Nat)(n e:Nat)(tk:List Nat)(H' :AH):Prop:=
 ∃d c,g.Le d/\Hn tk g d/\RH B H' w d c/\(∀id,d.K id->g.K id\/(n<=id/\id<e))/\(∀id b,H' id≠none->c id b->(H id≠none/\ow id b)\/b∈js)/\(∀id,H' id≠none->H id≠none\/id∈tk\/(n<=id/\id<e))
theorem WG.none{B:Kd}{H:AH}{w:World}{g:Gh}{ow:Nat->Nat->Prop}(b:RH B H w g ow)(js:List Nat)(n:Nat)(tk:List Nat):WG B H w g ow js n n tk H:=
 ⟨g,ow,.refl g,.refl tk g,b,by grind,by grind,by grind⟩
theorem RH.revive1{B:Kd}{H:AH}{w:World}{g:Gh}{ow:Nat->Nat->Prop}(h:RH B H w g ow){js:List Nat}{n id:Nat}{o:K0}(f:g.K id)(j:W5 B H w g ow js)(l:WF w g (· ∈js) id o){tk:List Nat}(m:id∈tk):
 WG B H w g ow js n n tk (Kc H id (some o)):=by
 refine⟨g,Xm ow id (· ∈js),.refl g,.refl tk g,h.revive f (fun b i=>j.free b i) l,by grind,fun k b d e=>?_,fun k d=>?_⟩
 ·by_cases c:k=id
  ·subst c;rw[JS]at e;grind
  ·rw[Ky c]at d;rw[WV c]at e;grind
 ·by_cases c:k=id
  ·grind
  ·rw[Ky c]at d;grind
theorem RH.revive2{B:Kd}{H:AH}{w:World}{g:Gh}{ow:Nat->Nat->Prop}(m:RH B H w g ow){js:List Nat}{n id:Nat}{o:K0}(l:g.K id)(j:g.ver id<n)(e:W5 B H w g ow js){r:(q:Ty)->El q->Value}(p:WF w (g.bump id n r) (· ∈js) id o){tk:List Nat}(s:id∈tk):
 WG B H w g ow js n n tk (Kc H id (some o)):=by
 refine⟨g.bump id n r,Xm ow id (· ∈js),Gh.le_bump j,⟨rfl,fun k _ h=>Zf (by grind)⟩,
  m.bump l j (by simp) (Vh _) rfl rfl ⟨rfl,Vh _⟩ (by simp) (fun b d=>⟨(e.free b d).1,(e.free b d).2.1,(e.free b d).2.2.1,fun k _=>(e.free b d).2.2.2 k⟩) p,fun _ h=>.inl h,fun k b f i=>?_,fun k f=>?_⟩
 ·by_cases c:k=id
  ·subst c;rw[JS]at i;grind
  ·rw[Ky c]at f;rw[WV c]at i;grind
 ·by_cases c:k=id
  ·grind
  ·rw[Ky c]at f;grind
theorem XE.back{w:World}{g:Gh}{J:Nat->Prop}{t:Ty}{xs:List (List (El t))}{v:Value}(h:XE w g.I J t xs v){id n:Nat}(C:g.ty id=.sl t)(R:g.slv id=v)
 (d:(v=.slice none 0 0/\g.blk id=none)\/ ∃b len cap,v=.slice (some ⟨b,0,none⟩) len cap/\g.blk id=some b):∃r,WF w (g.bump id n r) J id (.rows t xs n none):=by
 obtain⟨z,⟨W,m⟩,K⟩:=h;have f:(g.bump id n (Rq z)).row id=Rq z:=by simp [Gh.bump]
 refine⟨Rq z,C,by simp [Gh.bump],?_,?_⟩
 ·rw[f];refine⟨fun i x q Q=>?_,fun i j x y c q S A s u p=>?_,fun i x c q _ p=>?_⟩
  ·rw[Zah];exact m.rd i x q Q
  ·rw[Zah]at p⊢;exact m.ds i j x y c q S A s u p
  ·rw[Zah]at p;show g.blk id≠some c
   grind
 ·rw[f];rcases K with ⟨rfl,rfl⟩|⟨b,cap,cs,e,L,U,D,M,N,O,V⟩
  ·rcases d with ⟨_,d⟩|⟨G,len,k,d,l⟩
   ·exact .inl ⟨rfl,d,R⟩
   grind
  ·rcases d with ⟨d,_⟩|⟨G,len,k,d,l⟩
   ·grind
   ·rw[D]at d;cases d;exact .inr ⟨b,cap,cs,e,l,L,by rw[<-D];assumption,M,N,O,by assumption⟩
theorem YU.back{w:World}{g:Gh}{J:Nat->Prop}{d t:Ty}{m:List (El d×List (El t))}{b:Nat}(h:YU w g.I J d t m (.map (some b))){id n:Nat}(i:g.ty id=.sl t)(x:g.blk id=some b):
 ∃r,WF w (g.bump id n r) J id (.mrows d t m n none):=by
 obtain⟨row,y,es,clock,l,p,q,f,z,s,A,u⟩:=h;cases l;have c:(g.bump id n (rowK row)).row id d=row:=by funext k;simp [Gh.bump,Zl8]
 refine⟨rowK row,i,by simp [Gh.bump],?_,s,?_,b,es,clock,x,p,q,f,?_⟩
 ·rw[c];show RF w g.I J t (g.blk id) row _ none;grind
 ·grind
 ·rw[c];exact u.mono fun kv e j=>⟨⟨by simp only[CV];exact j.1.1,.inr (by simpa [AV.isAgg] using j.1.2)⟩,j.2⟩
mutual
theorem Zhf:∀(p:Zy) (v:AV) (y:HE p) (n:Nat),n<=(Ko p v y n).2
 |.own t true,v,y,n=>by cases v<;>simp [Ko]
 |.own t false,v,y,n=>by cases v<;>simp [Ko]
 |.var t p,v,y,n=>by
  cases v with
  |ptr id path=>
   cases path with
   |nil=>have:=(Yd p y n).1;simpa only[Ko] using this
   |cons a l=>simp [Ko]
  |_=>simp [Ko]
 |.map k t,v,y,n=>by cases v<;>simp [Ko]
 |.rows t true,v,y,n=>by cases v<;>simp [Ko]
 |.rows t false,v,y,n=>by cases v<;>simp [Ko]
 |.mrows k t,v,y,n=>by cases v<;>simp [Ko]
 |.it k t,v,y,n=>by cases v<;>simp [Ko]
 |.bld _ _ false,v,y,n=>by cases v<;>simp [Ko]
 |.bld T e true,v,y,n=>by
  cases v with
  |ptr id path=>cases path<;>simp [Ko]
  |_=>simp [Ko]
 |.agg l,v,y,n=>by
  cases v with
  |agg vs=>simpa only[Ko] using Zbe l vs y n
  |_=>simp [Ko]
 |.fn f l,v,y,n=>by
  cases v with
  |fn b vs=>simpa only[Ko] using Zbe l vs y n
  |_=>simp [Ko]
 |.pd t,v,y,n=>by cases v<;>simp [Ko]
 |.ro t,v,y,n=>by cases v<;>simp [Ko]
 |.nilr,v,y,n=>by cases v<;>simp [Ko]
 |.nils,v,y,n=>by cases v<;>simp [Ko]
 |.any,v,y,n=>by cases v<;>simp [Ko]
theorem Zbe:∀(l:Pats) (v:Zq) (y:WB l) (n:Nat),n<=(JK l v y n).2
 |.nil,v,y,n=>by cases v<;>simp [JK]
 |.cons p l,.nil,y,n=>by simp [JK]
 |.cons p l,.cons v vs,y,n=>by have c:=Zhf p v y.1 n;have d:=Zbe l vs y.2 (Ko p v y.1 n).2;simp only[JK];omega
end
section
variable {B B0:Kd}{H0:AH}{w0 w:World}{g0:Gh}{ow0:Nat->Nat->Prop}
theorem W5.later{H H' :AH}{g d:Gh}{ow c:Nat->Nat->Prop}{js ks:List Nat}(h:W5 B H w g ow (js++ks))(e:d.I=g.I)(f:∀id b,H' id≠none->c id b->(H id≠none/\ow id b)\/b∈js):W5 B H' w d c ks:=h.after e f
mutual
theorem ZlW(L:RH B0 H0 w0 g0 ow0):∀(p:Zy) (v:AV) (cs:List Value) (x:WO p) (ids:ZG) (l M:List Nat),(ext p v).run H0 l=some ((x,ids),M)->CV w0 g0 v cs->p.noAny=true->ids.tk.Nodup->
 ∀{H:AH}{g:Gh}{ow:Nat->Nat->Prop} (_:RH B H w g ow) (_:g0.Le g) (y:HE p) (js:List Nat) (n:Nat),PO w g.I p y js cs->W5 B H w g ow js->(∀id∈ids.tk,H id=none)->(∀id,n<=id->id<(Ko p v y n).2->¬g.K id)->(∀id∈ids.tk,∀u,Zez (H0 id)=some u->g.ver id<n)->
  WG B H w g ow js n (Ko p v y n).2 ids.tk (Zr H (Ko p v y n).1)
 |.own t true,v,cs,x,ids,l,M,h,C,_,_,H,g,ow,A,s,y,js,n,J,G,N,D,j=>by
  cases v with
  |vw id=>
   simp only[ext,Xb,Z4,Zi,Va]at h;obtain⟨⟨x1,i1⟩,m,R,⟨rfl,rfl⟩,_⟩:=h;rw[Z1]at R;split at R
   ·rename_i t' xs hH;simp only[ZC,Zi,Va]at R;obtain⟨z,hz,⟨rfl,rfl⟩,_⟩:=R;obtain⟨he,rfl⟩:=KR hz;cases he;obtain⟨i,W,hO⟩:=L.objs id _ hH;simp only[CV]at C;obtain⟨_,rfl,_⟩:=C;simp only[Ko,Zr];have a6:=(s.ty _ i).trans W;rcases J with ⟨rfl,rfl,d⟩|⟨b,cap,cells,e,css,rfl,d,h2,Z,O,S,h6⟩
    ·simp only[List.cons.injEq,and_true]at d;refine A.revive1 (o:=.vec _ []) (s.K _ i) G ⟨a6,.inl ⟨rfl,?_,(s.slv _ i).trans d⟩⟩ (by simp);rcases hO with ⟨_,U,_⟩|⟨b,cap,cs,e,css,_,_,hs,_⟩
     ·exact(s.blk _ i).trans U
     ·rw[d]at hs;cases hs
    ·simp only[List.cons.injEq,and_true]at d;rcases hO with ⟨_,_,hs⟩|⟨b',e1,cs',e',e3,U,_,hs,_⟩
     ·rw[d]at hs;cases hs
     ·rw[d]at hs;simp only[Vrb.injEq,Option.some.injEq,Addr.mk.injEq,and_true]at hs;obtain⟨rfl,_,rfl⟩:=hs;exact A.revive1 (o:=.vec _ y) (s.K _ i) G ⟨a6,.inr ⟨b,cap,cells,e,css,(s.blk _ i).trans U,by simp,(s.slv _ i).trans d,h2,Z,O,S,h6⟩⟩ (by simp)
   ·simp [Zb]at R
  |_=>exact WG.none A js n ids.tk
 |.own t false,v,cs,x,ids,l,M,h,C,_,_,H,g,ow,A,s,y,js,n,J,G,N,D,j=>by
  have:Ko (.own t false) v y n=([],n):=by cases v<;>rfl
  rw[this];exact WG.none A js n ids.tk
 |.var t p,v,cs,x,ids,l,M,h,C,Q,a1,H,g,ow,A,s,y,js,n,J,G,N,D,j=>by
  cases v with
  |ptr id path=>
   cases path with
   |nil=>
    simp only[ext]at h;rw[Z1]at h;split at h
    ·rename_i t' c hH;simp only[ZL,Z4,Zi,Zb,ZR,Z3,Vb,Ks,Va]at h;obtain⟨⟨rfl,d3⟩,⟨x1,i1⟩,m,R,⟨rfl,rfl⟩,_⟩:=h;obtain⟨i,W,e4,b,cells,e,U,d5,hh,e7,e5⟩:=L.objs id _ hH;simp only[CV]at C;obtain⟨_,o,t2,b',Z,O,rfl⟩:=C;rw[WE]at Z;cases Z;rw[U]at O;cases O;obtain⟨_,b2,d9,Y,e2,rfl,d,S,h6,h7⟩:=J;simp only[List.cons.injEq,Vqb.injEq,Option.some.injEq,Addr.mk.injEq,and_true]at d;obtain rfl:=d;simp only[Ko];have hn:=(Yd p y n).1;obtain⟨g1,b7,l1,X,r1,c1,k1,o1⟩:=Zci p A y d9 Y.toList n h7 (G.sub (Vla _ _)) (fun id h h' =>D id h (by simpa only[Ko] using h'));have c9:g1.K id:=l1.K _ (s.K _ i)
     have d2:W5 B (Zr H (Wu (inj p y n).2.1)) w g1 b7 [b]:=by
      obtain⟨h8,h9⟩:=Vn.1 G.nodup;refine⟨by simp,fun b' b1=>?_⟩;simp only[Vd]at b1;subst b1;obtain⟨a0,a7,a2,c4⟩:=G.free b' (by simp);refine⟨by rw[X.I];exact a0,a7,a2,fun id c5 c6=>?_⟩;rcases o1 id b' c5 c6 with ⟨a8,c7⟩|a8
      ·exact c4 id a8 c7
      ·exact h8 a8
     obtain⟨g2,a9,l2,i2,r2,k2,o2,t2⟩:=r1.revive1 (n:=n) (o:=.var t' (inj p y n).1) c9 d2
      ⟨(l1.ty _ (s.K _ i)).trans ((s.ty _ i).trans W),Zgm p t' y n d3,b,Y,e2,(l1.blk _ (s.K _ i)).trans ((s.blk _ i).trans U),by simp,S,h6,c1⟩ (tk:=id::i1.tk) (by simp)
     have c8:Zr H ((id,some (.var t' (inj p y n).1))::(inj p y n).2.1.map fun o=>(o.1,some o.2))=Kc (Zr H (Wu (inj p y n).2.1)) id (some (.var t' (inj p y n).1)):=by simp only[Zr];refine Zer fun q hq=>?_;simp only[Vo]at hq;obtain⟨o,ho,rfl⟩:=hq;have:=(Yd p y n).2 o ho;intro e;exact D o.1 this.1 (by simpa only[Ko] using this.2) (by rw[show o.1=id from e];exact s.K _ i)
     rw[c8];refine⟨g2,a9,l1.trans l2,i2.after (X.weak fun _ h=>by simp at h) l1,r2,fun k h=>?_,fun k b' h8 h9=>?_,fun k h8=>?_⟩
     ·rcases k2 k h with h|h
      ·exact k1 k h
      ·omega
     ·rcases o2 k b' h8 h9 with ⟨a0,a7⟩|a0
      ·rcases o1 k b' a0 a7 with a2|a2
       ·exact .inl a2
       ·exact .inr (by simp [a2])
      ·simp only[Vd]at a0;exact .inr (by simp [a0])
     ·rcases t2 k h8 with h9|h9|h9
      ·by_cases b3:H k=none
       ·right;right
        have:∃q∈Wu (inj p y n).2.1,q.1=k:=by
         by_cases hq:∃q∈Wu (inj p y n).2.1,q.1=k
         ·exact hq
         ·exfalso;apply h9;rw[Zcy fun q d7 e=>hq ⟨q,d7,e⟩];exact b3
        obtain⟨q,hq,rfl⟩:=this;simp only[Wu,Vo]at hq;obtain⟨o,ho,rfl⟩:=hq;exact(Yd p y n).2 o ho
       ·exact .inl b3
      ·exact .inr (.inl h9)
      ·omega
    ·simp [Zb]at h
   |cons a r=>
    have:Ko (.var t p) (.ptr id (a::r)) y n=([],n):=by rfl
    rw[this];exact WG.none A js n ids.tk
  |_=>exact WG.none A js n ids.tk
 |.map kt vt,v,cs,x,ids,l,M,h,C,_,_,H,g,ow,A,s,y,js,n,J,G,N,D,j=>by
  cases v with
  |mp id=>
   simp only[ext]at h;rw[Z1]at h;split at h
   ·rename_i k e m hH;simp only[ZC,Zi,Va]at h;obtain⟨z,hz,⟨rfl,rfl⟩,_⟩:=h;obtain⟨he,rfl⟩:=KR hz;cases he;obtain⟨i,b,es,clock,U,d5,hh,_,e6⟩:=L.objs id _ hH;simp only[CV]at C;obtain⟨_,b',O,rfl⟩:=C;rw[U]at O;cases O;obtain⟨b2,b9,a5,rfl,d,S,d1,h6⟩:=J;simp only[List.cons.injEq,Value.map.injEq,Option.some.injEq,and_true]at d;obtain rfl:=d;simp only[Ko,Zr];exact A.revive1 (o:=.map _ _ y) (s.K _ i) G ⟨b,b9,a5,(s.blk _ i).trans U,by simp,S,d1,h6.mono fun kv e hx=>⟨⟨by simp only[CV];exact hx.1.1,.inr (by simpa [AV.isAgg] using hx.1.2)⟩,⟨by simp only[CV];exact hx.2.1,.inr (by simpa [AV.isAgg] using hx.2.2)⟩⟩⟩ (by simp)
   ·simp [Zb]at h
  |_=>exact WG.none A js n ids.tk
 |.it kt vt,v,cs,x,ids,l,M,h,C,_,_,H,g,ow,A,s,y,js,n,J,G,N,D,j=>by
  have:Ko (.it kt vt) v y n=([],n):=by cases v<;>rfl
  rw[this];exact WG.none A js n ids.tk
 |.rows t true,v,cs,x,ids,l,M,h,C,_,_,H,g,ow,A,s,y,js,n,J,G,N,D,j=>by
  cases v with
  |vw id=>
   simp only[ext,Gc,Z4,Zi,Va]at h;obtain⟨⟨x1,i1⟩,m,R,⟨rfl,rfl⟩,_⟩:=h;rw[Z1]at R;split at R
   ·rename_i t' xs u hH;simp only[ZC,Zi,Va]at R;obtain⟨z,hz,⟨rfl,rfl⟩,_⟩:=R;obtain⟨he,rfl⟩:=KR hz;cases he;obtain⟨i,W,_,_,hO⟩:=L.objs id _ hH;simp only[CV]at C;obtain⟨_,rfl,_⟩:=C;obtain⟨v,d,a4⟩:=J;simp only[List.cons.injEq,and_true]at d;simp only[Ko,Zr]
    obtain⟨r,hr⟩:=a4.back (n:=n) ((s.ty _ i).trans W) ((s.slv _ i).trans d) (by
     rcases hO with ⟨_,Z,O⟩|⟨b,cap,cs',e,Z,_,O,_⟩
     ·exact .inl ⟨d▸O,(s.blk _ i).trans Z⟩
     ·exact .inr ⟨b,_,cap,d▸O,(s.blk _ i).trans Z⟩)
    exact A.revive2 (s.K _ i) (j id (by simp) u (by rw[hH];rfl)) G hr (by simp)
   ·simp [Zb]at R
  |_=>exact WG.none A js n ids.tk
 |.rows t false,v,cs,x,ids,l,M,h,C,_,_,H,g,ow,A,s,y,js,n,J,G,N,D,j=>by
  have:Ko (.rows t false) v y n=([],n):=by cases v<;>rfl
  rw[this];exact WG.none A js n ids.tk
 |.mrows kt t,v,cs,x,ids,l,M,h,C,_,_,H,g,ow,A,s,y,js,n,J,G,N,D,j=>by
  cases v with
  |mp id=>
   simp only[ext]at h;rw[Z1]at h;split at h
   ·rename_i k e m u hH;simp only[ZC,Zi,Va]at h;obtain⟨z,hz,⟨rfl,rfl⟩,_⟩:=h;obtain⟨he,rfl⟩:=KR hz;cases he;obtain⟨i,W,_,_,_,_,b,es,clock,U,_,_,_⟩:=L.objs id _ hH;simp only[CV]at C;obtain⟨_,b',O,rfl⟩:=C;rw[U]at O;cases O;obtain⟨v,d,a4⟩:=J;simp only[List.cons.injEq,and_true]at d;subst d;simp only[Ko,Zr];obtain⟨r,hr⟩:=a4.back (n:=n) ((s.ty _ i).trans W) ((s.blk _ i).trans U);exact A.revive2 (s.K _ i) (j id (by simp) u (by rw[hH];rfl)) G hr (by simp)
   ·simp [Zb]at h
  |_=>exact WG.none A js n ids.tk
 |.bld T e false,v,cs,x,ids,l,M,h,C,_,_,H,g,ow,A,s,y,js,n,J,G,N,D,j=>by
  have:Ko (.bld T e false) v y n=([],n):=by cases v<;>rfl
  rw[this];exact WG.none A js n ids.tk
 |.bld T e true,v,cs,x,ids,l,M,h,C,_,_,H,g,ow,A,s,y,js,n,J,G,N,D,j=>by
  cases v with
  |ptr id path=>
   cases path with
   |nil=>
    simp only[ext]at h;rw[Z1]at h;split at h
    ·rename_i T' e' bs hH;simp only[ZL,Zi,Zb,ZR,Z3,Vb,Va]at h;obtain⟨_,⟨rfl,rfl⟩,_⟩:=h;obtain⟨i,b,U,hm⟩:=L.objs id _ hH;simp only[CV]at C;obtain⟨_,o',t',b',R,O,rfl⟩:=C;rw[WE]at R;cases R;rw[U]at O;cases O;obtain⟨b2,d,a4⟩:=J;simp only[List.cons.injEq,Vqb.injEq,Option.some.injEq,Addr.mk.injEq,and_true]at d;obtain rfl:=d;simp only[Ko,Zr];exact A.revive1 (o:=.bld T e y) (s.K _ i) G ⟨b,(s.blk _ i).trans U,a4⟩ (by simp)
    ·simp [Zb]at h
   |cons a r=>
    have:Ko (.bld T e true) (.ptr id (a::r)) y n=([],n):=by rfl
    rw[this];exact WG.none A js n ids.tk
  |_=>exact WG.none A js n ids.tk
 |.agg pl,v,cs,x,ids,l,M,h,C,Q,a1,H,g,ow,A,s,y,js,n,J,G,N,D,j=>by
  cases v with
  |agg vs=>
   simp only[ext]at h;simp only[CV]at C;simp only[PO]at J;simp only[Ko]at D⊢
   exact Zhg L pl vs cs x ids l M h C (by simpa only[Zy.noAny] using Q) a1 A s y js n J G N D j
  |_=>exact WG.none A js n ids.tk
 |.fn f pl,v,cs,x,ids,l,M,h,C,Q,a1,H,g,ow,A,s,y,js,n,J,G,N,D,j=>by
  cases v with
  |fn f' vs=>
   simp only[ext,ZL,Zb,ZR,Z3]at h;obtain⟨_,h⟩:=h;simp only[CV]at C;obtain⟨cc,rfl,C⟩:=C;obtain⟨b8,d,J⟩:=J;simp only[List.cons.injEq,Value.func.injEq,and_true,true_and]at d;obtain⟨_,d⟩:=d;have d:cc=b8:=by simpa using congrArg Array.toList d
   subst d;simp only[Ko]at D⊢
   exact Zhg L pl vs cc x ids l M h C (by simpa only[Zy.noAny] using Q) a1 A s y js n J G N D j
  |_=>exact WG.none A js n ids.tk
 |.pd t,v,cs,x,ids,l,M,h,C,_,_,H,g,ow,A,s,y,js,n,J,G,N,D,j=>by
  have:Ko (.pd t) v y n=([],n):=by cases v<;>rfl
  rw[this];exact WG.none A js n ids.tk
 |.ro t,v,cs,x,ids,l,M,h,C,_,_,H,g,ow,A,s,y,js,n,J,G,N,D,j=>by
  have:Ko (.ro t) v y n=([],n):=by cases v<;>rfl
  rw[this];exact WG.none A js n ids.tk
 |.nilr,v,cs,x,ids,l,M,h,C,_,_,H,g,ow,A,s,y,js,n,J,G,N,D,j=>by
  have:Ko .nilr v y n=([],n):=by cases v<;>rfl
  rw[this];exact WG.none A js n ids.tk
 |.nils,v,cs,x,ids,l,M,h,C,_,_,H,g,ow,A,s,y,js,n,J,G,N,D,j=>by
  have:Ko .nils v y n=([],n):=by cases v<;>rfl
  rw[this];exact WG.none A js n ids.tk
 |.any,v,cs,x,ids,l,M,h,C,_,_,H,g,ow,A,s,y,js,n,J,G,N,D,j=>by
  have:Ko .any v y n=([],n):=by cases v<;>rfl
  rw[this];exact WG.none A js n ids.tk
theorem Zhg(L:RH B0 H0 w0 g0 ow0):∀(pl:Pats) (v:Zq) (cs:List Value) (x:KJ pl) (ids:ZG) (l M:List Nat),(Wx pl v).run H0 l=some ((x,ids),M)->Z5 w0 g0 v cs->pl.noAny=true->ids.tk.Nodup->
 ∀{H:AH}{g:Gh}{ow:Nat->Nat->Prop} (_:RH B H w g ow) (_:g0.Le g) (y:WB pl) (js:List Nat) (n:Nat),XD w g.I pl y js cs->W5 B H w g ow js->(∀id∈ids.tk,H id=none)->(∀id,n<=id->id<(JK pl v y n).2->¬g.K id)->(∀id∈ids.tk,∀u,Zez (H0 id)=some u->g.ver id<n)->
  WG B H w g ow js n (JK pl v y n).2 ids.tk (Zr H (JK pl v y n).1)
 |.nil,v,cs,x,ids,l,M,h,C,_,_,H,g,ow,A,s,y,js,n,J,G,N,D,j=>by
  have:JK .nil v y n=([],n):=by cases v<;>rfl
  rw[this];exact WG.none A js n ids.tk
 |.cons p pl,.nil,cs,x,ids,l,M,h,C,_,_,H,g,ow,A,s,y,js,n,J,G,N,D,j=>by simp [Wx,Zb]at h
 |.cons p pl,.cons v vs,cs,x,ids,l,M,h,C,Q,a1,H,g,ow,A,s,y,js,n,J,G,N,D,j=>by
  simp only[Wx,Z4,Zi,Va]at h;obtain⟨⟨x1,i1⟩,m1,R,⟨x2,i2⟩,m2,h2,⟨rfl,rfl⟩,_⟩:=h;simp only[Z5]at C;obtain⟨c1,c2,rfl,Z,O⟩:=C;simp only[Pats.noAny,Vb]at Q;have d4:(i1.tk++i2.tk).Nodup:=a1;obtain⟨n1,n2,n3⟩:=Ve.1 d4;obtain⟨j0,d6,_⟩:=H7 L (I:=fun _=>True) (fun _ _=>trivial) p v c1 x1 i1 _ _ R Z (fun _ _=>trivial) n1;have hl:=DH p x1 j0 c1 Q.1 d6;obtain⟨j1,j2,rfl,b5,b6⟩:=J;rw[Vma hl]at b5;rw[Vna hl]at b6;simp only[JK]at D⊢;have e8:=Zhf p v y.1 n;have e9:=Zbe pl vs y.2 (Ko p v y.1 n).2;obtain⟨g1,b7,l1,X,r1,k1,o1,t1⟩:=ZlW L p v c1 x1 i1 _ _ R Z Q.1 n1 A s y.1 j1 n b5 (G.sub (Vl _ _)) (fun id h=>N id (by simp [ZG.app,h])) (fun id h h' =>D id h (by omega)) fun id h=>j id (by simp [ZG.app,h])
  have d0:∀id∈i2.tk,Zr H (Ko p v y.1 n).1 id=none:=fun id V=>by
   by_cases b4:Zr H (Ko p v y.1 n).1 id=none
   ·exact b4
   ·exfalso;rcases t1 id b4 with S|S|S
    ·exact S (N id (by simp [ZG.app,V]))
    ·exact n3 id S id V rfl
    ·cases a3:H0 id with
     |none=>exact D7 pl vs x2 i2 _ _ h2 id V a3
     |some ob=>exact D id S.1 (by omega) (s.K _ (L.objs id ob a3).1)
  obtain⟨g2,a9,l2,d8,r2,k2,o2,t2⟩:=Zhg L pl vs c2 x2 i2 _ _ h2 O Q.2 n2 r1 (s.trans l1) y.2 j2 (Ko p v y.1 n).2 (by rw[X.I];exact b6) (G.later X.I o1) d0 (fun id h h' hK=>by
   rcases k1 id hK with Z|Z
   ·exact D id (by omega) h' Z
   ·omega) fun id V u hu=>by
    have b0:g.K id:=by
     cases a3:H0 id with
     |none=>exact absurd a3 (D7 pl vs x2 i2 _ _ h2 id V)
     |some ob=>exact s.K _ (L.objs id ob a3).1
    rw[X.ver id b0 fun S=>n3 id S id V rfl];have:=j id (by simp [ZG.app,V]) u hu;omega
  rw[Xc];refine⟨g2,a9,l1.trans l2,(d8.weak fun k D=>by simp [ZG.app,D]).after (X.weak fun k D=>by simp [ZG.app,D]) l1,r2,fun id h=>?_,fun id b' S h6=>?_,fun id S=>?_⟩
  ·rcases k2 id h with h|h
   ·rcases k1 id h with h|h
    ·exact .inl h
    ·exact .inr (by omega)
   ·exact .inr (by omega)
  ·rcases o2 id b' S h6 with ⟨h7,h8⟩|h7
   ·rcases o1 id b' h7 h8 with h9|h9
    ·exact .inl h9
    ·exact .inr (by simp [h9])
   ·exact .inr (by simp [h7])
  ·rcases t2 id S with h6|h6|h6
   ·rcases t1 id h6 with h7|h7|h7
    ·exact .inl h7
    ·exact .inr (.inl (by simp [ZG.app,h7]))
    ·exact .inr (.inr (by omega))
   ·exact .inr (.inl (by simp [ZG.app,h6]))
   ·exact .inr (.inr (by omega))
end
end
end Tr
end
section
namespace Tr
open Go
theorem Rd.flat{w w' :World}{I I' :Nat->Prop} :∀(t:Ty) (x:El t) (cs:List Value),t.flat=true->Rd w I t x cs->Rd w' I' t x cs
 |.int _,_,_,_,h=>h
 |.bool,_,_,_,h=>h
 |.str,_,_,_,h=>h
 |.sl t,_,_,d,_=>by simp [Ty.flat]at d
 |.unit,_,_,_,h=>h
 |.prod a b,x,cs,d,h=>by
  simp only[Ty.flat,Vb]at d;obtain⟨k,l,f,i,j⟩:=h
  exact⟨k,l,f,Rd.flat a _ _ d.1 i,Rd.flat b _ _ d.2 j⟩
 |.arr n t,x,cs,d,h=>by
  simp only[Ty.flat]at d;obtain⟨f,e,i,j⟩:=h
  exact⟨f,e,i,j.mono fun y c m=>Rd.flat t y c d m⟩
 |.ref,_,_,_,h=>h.elim
 |.pt t,_,_,d,_=>by simp [Ty.flat]at d
 |.lk a b,_,_,d,_=>by simp [Ty.flat]at d
 |.pn t,_,_,d,_=>by simp [Ty.flat]at d
section
variable {w:World}{I I' :Nat->Prop}
theorem WH.flat{J:Nat->Prop}{t:Ty}{xs:List (El t)}{v:Value}(p:t.flat=true)(h:WH w I J t xs v):WH w I' J t xs v:=by
 rcases h with h|⟨b,cap,cs,e,d,f,i,j,k,l,m,n⟩
 ·exact .inl h
 ·exact .inr ⟨b,cap,cs,e,d,f,i,j,k,l,m.mono fun x c q=>Rd.flat t x c p q,n⟩
theorem XE.flat{J:Nat->Prop}{t:Ty}{xs:List (List (El t))}{v:Value}(i:t.flat=true)(h:XE w I J t xs v):XE w I' J t xs v:=by obtain⟨f,⟨d,c⟩,e⟩:=h;exact⟨f,⟨d,fun k x a b=>(c.rd k x a b).flat i,c.ds,c.tp⟩,e⟩
theorem YU.flat{J:Nat->Prop}{c t:Ty}{m:List (El c×List (El t))}{v:Value}(u:c.flat=true)(s:t.flat=true)(h:YU w I J c t m v):YU w I' J c t m v:=by obtain⟨row,b,es,clock,j,l,n,f,d,p,q,r⟩:=h;exact⟨row,b,es,clock,j,l,n,f,⟨fun k x a b=>(d.rd k x a b).flat s,d.ds,d.tp⟩,p,q,r.mono fun kv e i=>⟨⟨Rd.flat c _ _ u i.1.1,i.1.2⟩,i.2⟩⟩
mutual
theorem PC.flat:∀(p:Zy) (x:WO p) (js:List Nat) (cs:List Value),p.flat=true->PC w I p x js cs->PC w I' p x js cs
 |.pd t,x,js,cs,d,h=>⟨h.1,Rd.flat t x cs d h.2⟩
 |.own t k,x,js,cs,d,h=>by
  simp only[PC]at h⊢;rcases h with h|⟨b,cap,cells,e,css,q,i,j,n,r,s,z⟩
  ·exact .inl h
  ·exact .inr ⟨b,cap,cells,e,css,q,i,j,n,r,s.mono fun x c m=>Rd.flat t x c d m,z⟩
 |.var t p,x,js,cs,d,h=>by
  obtain⟨q,b,u,cells,e,i,j,n,r,s⟩:=h
  exact⟨q,b,u,cells,e,i,j,n,r,PC.flat p x u _ d s⟩
 |.ro t,_,_,_,d,_=>by simp [Zy.flat]at d
 |.map y C,x,js,cs,d,h=>by
  simp only[Zy.flat,Vb]at d;obtain⟨b,es,clock,i,j,n,A,r⟩:=h
  exact⟨b,es,clock,i,j,n,A,r.mono fun x e m=>⟨⟨Rd.flat y _ _ d.1 m.1.1,m.1.2⟩,Rd.flat C _ _ d.2 m.2.1,m.2.2⟩⟩
 |.it y C,x,js,cs,d,h=>by
  simp only[Zy.flat,Vb]at d;obtain⟨b,M,es,clock,since,seen,q,i,j,n,r,s,z⟩:=h
  exact⟨b,M,es,clock,since,seen,q,i,j,n,r,s,z.mono fun x e m=>⟨⟨Rd.flat y _ _ d.1 m.1.1,m.1.2⟩,Rd.flat C _ _ d.2 m.2.1,m.2.2⟩⟩
 |.rows t k,x,js,cs,d,h=>by
  obtain⟨v,i,j⟩:=h
  exact⟨v,i,j.flat d⟩
 |.mrows y t,x,js,cs,d,h=>by
  simp only[Zy.flat,Vb]at d;obtain⟨v,i,j⟩:=h
  exact⟨v,i,j.flat d.1 d.2⟩
 |.bld _ _ _,_,_,_,_,h=>h
 |.agg l,x,js,cs,d,h=>by
  simp only[PC]at h⊢
  exact JP.flat l x js cs d h
 |.fn f l,x,js,cs,d,h=>by
  obtain⟨J,i,j⟩:=h
  exact⟨J,i,JP.flat l x js J d j⟩
 |.nilr,_,_,_,_,h=>h
 |.nils,_,_,_,_,h=>h
 |.any,_,_,_,_,h=>h
theorem JP.flat:∀(l:Pats) (x:KJ l) (js:List Nat) (cs:List Value),l.flat=true->JP w I l x js cs->JP w I' l x js cs
 |.nil,_,_,_,_,h=>h
 |.cons p l,x,js,cs,d,h=>by simp only[Pats.flat,Vb]at d;obtain⟨K,L,D,G,q,i,j,n⟩:=h;exact⟨K,L,D,G,q,i,PC.flat p x.1 K D d.1 j,JP.flat l x.2 L G d.2 n⟩
end
theorem Jc.flat:∀(l:Pats) (x:KJ l) (js:List Nat) (vs:List Value),l.flat=true->Jc w I l x js vs->Jc w I' l x js vs
 |.nil,_,_,_,_,h=>h
 |.cons p l,x,js,vs,b,h=>by simp only[Pats.flat,Vb]at b;obtain⟨d,e,v,r,f,i,c,j⟩:=h;exact⟨d,e,v,r,f,i,⟨PC.flat p x.1 d _ b.1 c.1,c.2⟩,Jc.flat l x.2 e r b.2 j⟩
mutual
theorem PO.flat:∀(p:Zy) (y:HE p) (js:List Nat) (cs:List Value),p.oflat=true->PO w I p y js cs->PO w I' p y js cs
 |.own t true,y,js,cs,b,h=>PC.flat (.own t true) y js cs (by simpa [Zy.oflat,Zy.flat] using b) h
 |.own t false,_,_,_,_,h=>h
 |.var t p,y,js,cs,b,h=>PC.flat (.var t p) y js cs (by simpa only[Zy.oflat,Zy.flat] using b) h
 |.map e n,y,js,cs,b,h=>PC.flat (.map e n) y js cs (by simpa only[Zy.oflat,Zy.flat] using b) h
 |.rows t true,y,js,cs,b,h=>PC.flat (.rows t true) y js cs (by simpa [Zy.oflat,Zy.flat] using b) h
 |.rows t false,_,_,_,_,h=>h
 |.mrows e t,y,js,cs,b,h=>PC.flat (.mrows e t) y js cs (by simpa only[Zy.oflat,Zy.flat] using b) h
 |.agg l,y,js,cs,b,h=>by
  simp only[PO]at h⊢
  exact XD.flat l y js cs (by simpa only[Zy.oflat] using b) h
 |.fn f l,y,js,cs,b,h=>by
  obtain⟨i,c,d⟩:=h
  exact⟨i,c,XD.flat l y js i (by simpa only[Zy.oflat] using b) d⟩
 |.bld _ _ true,_,_,_,_,h=>h
 |.bld _ _ false,_,_,_,_,h=>h
 |.it _ _,_,_,_,_,h=>h
 |.pd _,_,_,_,_,h=>h
 |.ro _,_,_,_,_,h=>h
 |.nilr,_,_,_,_,h=>h
 |.nils,_,_,_,_,h=>h
 |.any,_,_,_,_,h=>h
theorem XD.flat:∀(l:Pats) (y:WB l) (js:List Nat) (cs:List Value),l.oflat=true->XD w I l y js cs->XD w I' l y js cs
 |.nil,_,_,_,_,h=>h
 |.cons p l,y,js,cs,b,h=>by simp only[Pats.oflat,Vb]at b;obtain⟨j,k,m,c,d⟩:=h;exact⟨j,k,m,PO.flat p y.1 j _ b.1 c,XD.flat l y.2 k _ b.2 d⟩
end
theorem Hk.flat:∀(l:Pats) (y:WB l) (js:List Nat) (vs:List Value),l.oflat=true->Hk w I l y js vs->Hk w I' l y js vs
 |.nil,_,_,_,_,h=>h
 |.cons p l,y,js,vs,b,h=>by simp only[Pats.oflat,Vb]at b;obtain⟨c,d,v,r,e,f,i,j⟩:=h;exact⟨c,d,v,r,e,f,PO.flat p y.1 c _ b.1 i,Hk.flat l y.2 d r b.2 j⟩
mutual
theorem PO.mono(c:∀b,I b->I' b):∀(p:Zy) (y:HE p) (js:List Nat) (cs:List Value),PO w I p y js cs->PO w I' p y js cs
 |.own t true,y,js,cs,h=>PC.mono (fun _ _=>rfl) c (.own t true) y js cs (fun _ _=>rfl) h
 |.own t false,_,_,_,h=>h
 |.var t p,y,js,cs,h=>PC.mono (fun _ _=>rfl) c (.var t p) y js cs (fun _ _=>rfl) h
 |.map i q,y,js,cs,h=>PC.mono (fun _ _=>rfl) c (.map i q) y js cs (fun _ _=>rfl) h
 |.rows t true,y,js,cs,h=>PC.mono (fun _ _=>rfl) c (.rows t true) y js cs (fun _ _=>rfl) h
 |.rows t false,_,_,_,h=>h
 |.mrows i t,y,js,cs,h=>PC.mono (fun _ _=>rfl) c (.mrows i t) y js cs (fun _ _=>rfl) h
 |.agg l,y,js,cs,h=>by
  simp only[PO]at h⊢
  exact XD.mono c l y js cs h
 |.fn f l,y,js,cs,h=>by
  obtain⟨j,d,e⟩:=h
  exact⟨j,d,XD.mono c l y js j e⟩
 |.bld _ _ true,_,_,_,h=>h
 |.bld _ _ false,_,_,_,h=>h
 |.it _ _,_,_,_,h=>h
 |.pd _,_,_,_,h=>h
 |.ro _,_,_,_,h=>h
 |.nilr,_,_,_,h=>h
 |.nils,_,_,_,h=>h
 |.any,_,_,_,h=>h
theorem XD.mono(c:∀b,I b->I' b):∀(l:Pats) (y:WB l) (js:List Nat) (cs:List Value),XD w I l y js cs->XD w I' l y js cs
 |.nil,_,_,_,h=>h
 |.cons p l,y,js,cs,h=>by obtain⟨k,m,n,d,e⟩:=h;exact⟨k,m,n,PO.mono c p y.1 k _ d,XD.mono c l y.2 m _ e⟩
end
theorem Hk.mono(c:∀b,I b->I' b):∀(l:Pats) (y:WB l) (js:List Nat) (vs:List Value),Hk w I l y js vs->Hk w I' l y js vs
 |.nil,_,_,_,h=>h
 |.cons p l,y,js,vs,h=>by obtain⟨d,e,v,r,f,i,j,k⟩:=h;exact⟨d,e,v,r,f,i,PO.mono c p y.1 d _ j,Hk.mono c l y.2 e r k⟩
end
def Zbp:List Value->Value
 |[v]=>v
 |vs=>.tuple vs.toArray
def RV(w:World)(I:Nat->Prop)(l:Pats)(x:KJ l)(js:List Nat)(v:Value):Prop:= ∃vs,Jc w I l x js vs/\v=Zbp vs
def Rz(S:Spec)(w:World)(I:Nat->Prop)(js:List Nat)(c:List Value)(z:WB S.args×KJ S.res)(rv:Value)(w' :World):Prop:=
 ∃I' d e,Hk w' I' S.args z.1 d c/\RV w' I' S.res z.2 e rv/\(d++e).Nodup/\(∀b∈d++e,¬I' b/\b<w'.heap.size/\(b∈js\/w.heap.size<=b))/\(∀b,I b->I' b)/\
  (∀b,I' b->b<w'.heap.size/\(I b\/b∈js\/w.heap.size<=b))/\w'.os=w.os/\w'.tape=w.tape/\YX S.pl w' w/\w.heap.size<=w'.heap.size/\ ∀b,b<w.heap.size->b ∉ js->w'.heap[b]? =w.heap[b]?
def HX (P:Program) (w:World) (J:Nat→Prop):Prop:= ∀b,P.globalNamed "internal/strconv.uint64pow10" =some b→b<w.heap.size∧ ¬J b∧Lib.TabIs P w "internal/strconv.uint64pow10" .u64 Lib.pow10Tab
theorem HX.after{P:Program}{B:Kd}{H:AH}{w:World}{g:Gh}{ow:Nat->Nat->Prop}(h:HX P B.w0 B.own0)(d:RH B H w g ow){js:List Nat}(j:∀b∈js,B.own0 b\/B.w0.heap.size<=b):HX P w (· ∈js):=by
 intro b i;obtain⟨c,e,f⟩:=h b i;refine⟨Nat.lt_of_lt_of_le c d.size,by grind,?_⟩;have:=d.kept b c e;unfold Lib.TabIs World.var? at f⊢
 grind
def RB(kp:List (Nat×Nat×Nat))(d:List Value)(w w' :World):Prop:=
 ∀k∈kp,∀b,d[k.1]? =some (.pointer (some ⟨b,0,none⟩))->∀cs e,w.heap[b]? =some (.cells cs e (0,0))->∃c f,w'.heap[b]? =some (.cells c f (0,0))/\c[k.2.2]? =cs[k.2.2]?
def Zfa(P:Program)(f:FuncId)(S:Spec):Prop:=
 ∀(w:World) (I:Nat->Prop) (c:List Value) (d:List Nat) (x:KJ S.args) (z:S.α),Jc w I S.args x d c->d.Nodup->(∀b∈d,¬I b/\b<w.heap.size)->(∀b,I b->b<w.heap.size)->(S.pl=false->HX P w (· ∈d))->S.f x=some z->
  Calls P f c.toArray w fun e w' =>∃h,e=.returned h/\Rz S w I d c (S.unp z) h w' /\RB S.kp c w w'
structure ZX (P:Program) (f:FuncId) (S:Spec):Prop where
 wf:S.args.wf=true
 fn:∃fn,P.funcs[f]? =some fn∧fn.body.isNone=false∧(fn.name== "runtime.NumGoroutine")=false
 run:∀(w:World) (I:Nat->Prop) (vals:List Value) (js:List Nat) (x:KJ S.args) (z:S.α),Jc w I S.args x js vals->js.Nodup->(∀b∈js,¬I b/\b<w.heap.size)->(∀b,I b->b<w.heap.size)->(S.pl=false->HX P w (· ∈js))->S.f x=some z->
  Calls P f vals.toArray w fun e w' =>∃rv,e=.returned rv/\Rz S w I js vals (S.unp z) rv w'
 kept:S.kp=[]\/Zfa P f S:=by exact .inl rfl
theorem ZX.keptRun{P:Program}{f:FuncId}{S:Spec}(h:ZX P f S):Zfa P f S:=by
 rcases h.kept with c|c
 ·intro w I b r x z d i j l m n;refine(h.run w I b r x z d i j l m n).mono ?_;rintro e w' ⟨s,p,q⟩;exact⟨s,p,q,by rw[c];intro k t;grind⟩
 omega
section
variable {P:Program}{B B0:Kd}{H H0:AH}{w w0:World}{g g0:Gh}{ow ow0:Nat->Nat->Prop}
theorem ZlV(e:RH B0 H0 w0 g0 ow0):∀(pl:Pats) (v:Zq) (b:List Value) (x:KJ pl) (ids:ZG) (l L:List Nat),(Wx pl v).run H0 l=some ((x,ids),L)->WM w0 g0 v b->pl.wf=true->ids.tk.Nodup->
 ∀{H:AH}{g:Gh}{ow:Nat->Nat->Prop} (_:RH B H w g ow) (_:g0.Le g) (y:WB pl) (js:List Nat) (n:Nat),Hk w g.I pl y js b->W5 B H w g ow js->(∀id∈ids.tk,H id=none)->(∀id,n<=id->id<(JK pl v y n).2->¬g.K id)->(∀id∈ids.tk,∀u,Zez (H0 id)=some u->g.ver id<n)->
  WG B H w g ow js n (JK pl v y n).2 ids.tk (Zr H (JK pl v y n).1)
 |.nil,v,b,x,ids,l,L,h,Q,_,_,H,g,ow,z,q,y,js,n,W,G,D,j,f=>by
  have:JK .nil v y n=([],n):=by rfl
  rw[this];exact WG.none z js n ids.tk
 |.cons p pl,.nil,b,x,ids,l,L,h,Q,_,_,H,g,ow,z,q,y,js,n,W,G,D,j,f=>by simp [Wx,Zb]at h
 |.cons p pl,.cons v vs,b,x,ids,l,L,h,Q,Z,U,H,g,ow,z,q,y,js,n,W,G,D,j,f=>by
  simp only[Wx,Z4,Zi,Va]at h;obtain⟨⟨x1,J⟩,m1,h1,⟨x2,C⟩,m2,M,⟨rfl,rfl⟩,_⟩:=h;obtain⟨u,r,rfl,h3,h4⟩:=Q
  have A:pl.wf=true/\(p=.any\/p.noAny=true):=by
   cases p<;>simp only[Pats.wf,Vb]at Z<;>first|grind|grind
  have R:(J.tk++C.tk).Nodup:=U;obtain⟨n1,n2,n3⟩:=Ve.1 R;obtain⟨j1,j2,u',r',rfl,Y,X,a2⟩:=W;obtain⟨rfl,rfl⟩:=List.cons.inj Y;simp only[JK]at j⊢;have a3:=Zhf p v y.1 n;have a4:=Zbe pl vs y.2 (Ko p v y.1 n).2
  have key:WG B H w g ow j1 n (Ko p v y.1 n).2 J.tk (Zr H (Ko p v y.1 n).1):=by
   rcases A.2 with rfl|S
   ·have:Ko .any v y.1 n=([],n):=by rfl
    rw[this];exact WG.none z j1 n J.tk
   ·exact ZlW e p v u.cells.toList x1 J _ _ h1 h3.1 S n1 z q y.1 j1 n X (G.sub (Vl _ _)) (fun id h=>D id (by simp [ZG.app,h])) (by grind) fun id h=>f id (by simp [ZG.app,h])
  obtain⟨g1,a5,l1,i,r1,k1,o1,t1⟩:=key
  have O:∀id∈C.tk,Zr H (Ko p v y.1 n).1 id=none:=fun id d=>by
   by_cases V:Zr H (Ko p v y.1 n).1 id=none
   ·omega
   ·exfalso;rcases t1 id V with m|m|m
    ·exact m (D id (by simp [ZG.app,d]))
    ·grind
    ·cases c:H0 id with
     |none=>exact D7 pl vs x2 C _ _ M id d c
     |some ob=>exact j id m.1 (by omega) (q.K _ (e.objs id ob c).1)
  obtain⟨g2,a1,l2,a0,r2,k2,o2,t2⟩:=ZlV e pl vs r x2 C _ _ M h4 A.1 n2 r1 (q.trans l1) y.2 j2 (Ko p v y.1 n).2 (by rw[i.I];omega) (G.later i.I o1) O (by grind) fun id d u hu=>by
   have t:g.K id:=by
    cases c:H0 id with
    |none=>exact absurd c (D7 pl vs x2 C _ _ M id d)
    |some ob=>exact q.K _ (e.objs id ob c).1
   rw[i.ver id t (by grind)];have:=f id (by simp [ZG.app,d]) u hu;omega
  rw[Xc];refine⟨g2,a1,l1.trans l2,(a0.weak fun k j=>by simp [ZG.app,j]).after (i.weak fun k j=>by simp [ZG.app,j]) l1,r2,fun id h=>?_,fun id b' m s=>?_,fun id m=>?_⟩
  ·grind
  ·grind
  ·rcases t2 id m with s|s|s
   ·rcases t1 id s with N|N|N
    ·grind
    ·exact .inr (.inl (by simp [ZG.app,N]))
    omega
   ·exact .inr (.inl (by simp [ZG.app,s]))
   omega
theorem ZG.ok_iff{i:ZG}{fz:List Nat}(h:i.ok fz=true):i.tk.Nodup/\(∀n∈i.br,n ∉ i.tk)/\ ∀n∈i.tk,n ∉ fz:=by simp only[ZG.ok,Vb]at h;exact⟨Zeg.1 h.1.1,D6.1 h.1.2,D6.1 h.2⟩
theorem ZnI{l:Zq}{vs:List Value}(h:WM w g l vs):VR w g (ZmT l) (Zbp vs):=by
 cases l with
 |nil=>simp only[WM]at h;subst h;exact⟨[],rfl,rfl⟩
 |cons a l=>
  obtain⟨v,r,rfl,e,c⟩:=h
  cases l with
  |nil=>simp only[WM]at c;subst c;exact .of1 e
  |cons b l=>
   obtain⟨v2,d,rfl,f,i⟩:=c;exact⟨v::v2::d,rfl,v,v2::d,rfl,e,v2,d,rfl,f,i⟩
theorem ZeT(e:RH B H w g ow){n:Nat}{r:Unit} :∀(tk:List Nat) {l i:List Nat},(Zbu n tk).run H l=some (r,i)->∀id∈tk,∀u,Zez (H id)=some u->g.ver id<n
 |[],l,i,h,id,b=>by grind
 |k::tk,l,i,h,id,b=>by
  simp only[Zbu]at h;rw[Z1]at h;intro u d;split at h
  ·rename_i c;simp only[ZL,Zb,ZR,Z3]at h;rcases Vm.1 b with rfl|b
   ·have f:g.ver id=_:=(e.objs id _ c).2.2.1
    simp_all
   ·exact ZeT e tk h.2 id b u d
  ·rename_i c;simp only[ZL,Zb,ZR,Z3]at h;rcases Vm.1 b with rfl|b
   ·have f:g.ver id=_:=(e.objs id _ c).2.2.1
    simp_all
   ·exact ZeT e tk h.2 id b u d
  ·rename_i f j;rcases Vm.1 b with rfl|b
   ·exfalso
    cases c:H id with
    |none=>rw[c]at d;cases d
    |some o=>cases o<;>rw[c]at d<;>first|exact f _ _ _ _ c|exact(by grind) |cases d
   ·exact ZeT e tk h id b u d
theorem Zpo{f:FuncId}{S:Spec}(hS:ZX P f S)(hA:B.pl=false->HX P B.w0 B.own0)(b3:B.pl=true->S.pl=true)(d:RH B H w g ow){nid:Nat}(hk:∀id,g.K id->id<nid\/nid+Ws<=id){q:Zq}{n:List Value}(hv:WM w g q n){v:AV}{patch:KB}{rd:List Nat}
 {l:List Nat} (h:(ZfP S nid q).run H l=some ((v,patch),rd)):
 Calls P f n.toArray w fun e w' =>∃rv g' b7,e=.returned rv/\RH B (Zr H patch) w' g' b7/\g.Le g' /\Kj g.I w w' /\VR w' g' v rv/\(∀id,g'.K id->g.K id\/(nid<=id/\id<nid+Ws))/\RB S.kp n w w' :=by
 simp only[ZfP,Z4,ZC,Zi,Va]at h;obtain⟨⟨x,ids⟩,m,hx,_,b1,_,_,b6,ds,_,s,z,hz,_,hq,⟨rfl,rfl⟩,_⟩:=h;obtain⟨X,b9,_⟩:=ZG.ok_iff (Ht b1);have W:=Ht hq;simp only[Nat.ble_eq]at W;obtain⟨js,b4,a9,G⟩:=ZjF d (I:=fun b=>g.I b\/ZV H ow ids.br b) (by grind) _ _ _ _ _ _ _ hx hv (by grind) X
 have c7:∀b∈js,¬g.I b/\b<w.heap.size/\(B.own0 b\/B.w0.heap.size<=b):=fun b c=>by obtain⟨id,_,r,p⟩:=G b c;exact d.sep id b r p
 have a8:∀b∈js,¬ZV H ow ids.br b:=fun b c h=>by
  obtain⟨id,r,p⟩:=Ge d h (G b c)
  grind
 refine(hS.keptRun w _ n js x z b4 a9 (by grind) (fun b c=>?_) (fun hf=>(hA (by grind)).after d (by grind)) hz).mono ?_
 ·rcases c with c|⟨id,_,r,p⟩
  ·exact d.ilt b c
  ·exact(d.sep id b r p).2.1
 rintro e w' ⟨rv,rfl,⟨I',jo,jr,a1,⟨Q,a3,rfl⟩,Y,a7,a5,a4,b2,M,a0,b5,j⟩,b0⟩;generalize c6:(S.res.flat&&S.args.oflat)=i at W s⊢
 have t:∀id,Zr H ((ids.tk.map fun id=>(id,none))++(bif i then [] else ids.br.map fun id=>(id,none))) id≠none->H id≠none/\id ∉ ids.tk/\(i=false->id ∉ ids.br):=by
  intro id;rw[Xc]
  cases i with
  |true=>simp only[Zc,Zr];rw[Dg];grind
  |false=>
   simp only[Ze];rw[Dg];split
   ·simp
   ·rename_i hi;rw[Dg];grind
 have R:RH B (Zr H ((ids.tk.map fun id=>(id,none))++(bif i then [] else ids.br.map fun id=>(id,none)))) w g ow:=by
  rw[Xc]
  cases i with
  |true=>exact d.drops _
  |false=>exact(d.drops _).drops _
 have c4:∀b,(b∈js\/w.heap.size<=b)->∀id,Zr H ((ids.tk.map fun id=>(id,none))++(bif i then [] else ids.br.map fun id=>(id,none))) id≠none->¬ow id b:=by
  intro b c id k Z;obtain⟨r,p,_⟩:=t id k;rcases c with c|c
  ·obtain⟨N,y,D,h5⟩:=G b c;have:=d.dist id N b r D Z h5
   grind
  ·have:=(d.sep id b r Z).2.1;omega
 have c1:∀b,(b∈js\/w.heap.size<=b)->(B.own0 b\/B.w0.heap.size<=b):=by
  intro b c;rcases c with c|c
  ·grind
  ·have:=d.size;omega
 have a6:RH B (Zr H ((ids.tk.map fun id=>(id,none))++(bif i then [] else ids.br.map fun id=>(id,none)))) w' (g.grow fun b=>i=false/\I' b) ow:=
  R.call (js:=js) j b5 b2 M (a0.weak b3) (by grind) (by
   rintro b ⟨hf,c⟩;obtain⟨r,p⟩:=a4 b c;refine⟨r,?_,fun id k Z=>?_⟩
   ·rcases p with (p|⟨id,_,y,D⟩) |p
    ·exact d.inew b p
    ·exact .inr (d.sep id b y D).2.2
    grind
   ·rcases p with (p|⟨N,h5,y,D⟩) |p
    ·exact(R.sep id b k Z).1 p
    ·obtain⟨h6,_,h7⟩:=t id k;have:=d.dist id N b h6 y Z D
     grind
    grind)
 have C:i=false->∀b,I' b->(g.grow fun b=>i=false/\I' b).I b:=fun hf b c=>.inr ⟨hf,c⟩
 have a2:Hk w' (g.grow fun b=>i=false/\I' b).I S.args (S.unp z).1 jo n:=by
  cases i with
  |true=>exact a1.flat _ _ _ _ (by grind)
  |false=>exact a1.mono (C rfl)
 have c5:Jc w' (g.grow fun b=>i=false/\I' b).I S.res (S.unp z).2 jr Q:=by
  cases i with
  |true=>exact a3.flat _ _ _ _ (by grind)
  |false=>exact Jc.mono (fun _ _=>rfl) (C rfl) (by simp) a3
 have V:W5 B (Zr H ((ids.tk.map fun id=>(id,none))++(bif i then [] else ids.br.map fun id=>(id,none)))) w' (g.grow fun b=>i=false/\I' b) ow (jo++jr):=
  ⟨Y,fun b c=>⟨fun hI=>by
    rcases hI with hI|hI
    all_goals grind,by grind,by grind,by grind⟩⟩
 have m1:=Zbe S.args q (S.unp z).1 nid;have m2:=(R0 S.res (S.unp z).2 (JK S.args q (S.unp z).1 nid).2).1
 have hN:∀id∈ids.tk,Zr H ((ids.tk.map fun id=>(id,none))++(bif i then [] else ids.br.map fun id=>(id,none))) id=none:=by grind
 obtain⟨g1,c8,l1,i1,r1,k1,o1,_⟩:=ZlV d _ _ _ _ _ _ _ hx hv hS.wf X a6 (g.le_grow _) (S.unp z).1 jo nid a2 (V.sub (Vl _ _)) hN (fun id r p hK=>by
  rcases hk id hK with y|y<;>omega) (fun id k u hu=>ZeT d _ b6 id k u hu)
 obtain⟨g2,b8,l2,i2,r2,c2,k2,_⟩:=Zgl S.res r1 (S.unp z).2 jr Q (JK S.args q (S.unp z).1 nid).2 (by rw[i1.I];omega) (V.later i1.I o1) (fun id r p hK=>by
  rcases k1 id hK with y|y
  ·rcases hk id y with D|D<;>omega
  ·omega)
 have A:g.Le g2:=(g.le_grow _).trans (l1.trans l2)
 have U:∃O,RH B (Zr (Zr (Zr (Zr H ((ids.tk.map fun id=>(id,none))++(bif i then [] else ids.br.map fun id=>(id,none)))) (JK S.args q (S.unp z).1 nid).1) ((KM S.res (S.unp z).2 (JK S.args q (S.unp z).1 nid).2).2.1.map fun o=>(o.1,some o.2))) ds) w' g2 O:=by
  cases i with
  |true=>
   simp only[Zc,Zi]at s;obtain⟨rfl,_⟩:=s
   exact⟨b8,r2⟩
  |false=>
   simp only[Ze]at s;have L:∀b,I' b->g2.I b:=fun b c=>l2.I b (l1.I b (by grind));exact ZbY d A (fun b c=>j b (d.ilt b c) (by grind)) ids.br ds _ _ s (fun id k b J c=>⟨L b (a5 b (.inr ⟨id,k,J,c⟩)),j b (d.sep id b J c).2.1 fun hj=>a8 b hj ⟨id,k,J,c⟩⟩) r2
 obtain⟨O,r3⟩:=U;refine⟨Zbp Q,g2,O,rfl,?_,A,fun b c=>j b (d.ilt b c) (by grind),ZnI c2,fun id h=>?_,b0⟩
 ·rw[Xc,Xc,Xc];omega
 ·rcases k2 id h with h|h
  ·rcases k1 id h with h|h
   ·exact .inl h
   omega
  omega
theorem ZgA:∀(p:KB) (H:AH) (id:Nat) (o:Option K0),GF id p=some o->Zr H p id=o
 |[],_,_,_,h=>by simp [GF]at h
 |a::l,H,id,o,h=>by
  simp only[GF]at h;simp only[Zr]
  cases c:GF id l with
  |some j=>
   rw[c]at h;simp only[Option.some.injEq]at h;subst h
   exact ZgA l _ id _ c
  |none=>
   rw[c]at h;simp only at h
   cases e:Vq a.1 id with
   |false=>grind
   |true=>
    rw[e]at h;simp only[Zc,Option.some.injEq]at h;have:=Vj e
    have key:∀(l:KB) (H:AH),GF id l=none->Zr H l id=H id:=by
     intro l
     induction l with
     |nil=>intro H _;rfl
     |cons b l i=>
      intro H c;simp only[GF]at c
      cases d:GF id l with
      |some j=>grind
      |none=>
       rw[d]at c;simp only at c
       cases f:Vq b.1 id with
       |true=>grind
       |false=>
        simp only[Zr];rw[i _ d,Ky]
        grind
    rw[key l _ c, <-this,XM, <-h]
theorem ZlH:∀(c:Zq) (t:Ty) (k a b:Nat),c.fits t=true->c.nth k=some (.vw a)->(c.putNth k (.vw b)).fits t=true
 |.nil,_,k,_,_,_,h=>by assumption
 |.cons v l,t,0,a,b,d,h=>by
  simp only[Zq.nth,Option.some.injEq]at h;subst h
  cases t with
  |prod p q=>
   simp only[Zq.fits,Vb,Zq.putNth]at d⊢;refine⟨?_,d.2⟩
   cases p<;>first|rfl|exact d.1
  |_=>assumption
 |.cons v l,t,k+1,a,b,d,h=>by
  simp only[Zq.nth]at h
  cases t with
  |prod p q=>
   simp only[Zq.fits,Vb,Zq.putNth]at d⊢
   exact⟨d.1,ZlH l _ k a b d.2 h⟩
  |_=>assumption
theorem ZlG:∀(c:Zq) (cs:List Value) (k a b:Nat),Z5 w g c cs->c.nth k=some (.vw a)->g.K b->g.slv b=g.slv a->Z5 w g (c.putNth k (.vw b)) cs
 |.nil,_,k,_,_,_,h,_,_=>by assumption
 |.cons v l,cs,0,a,b,m,h,n,p=>by
  simp only[Zq.nth,Option.some.injEq]at h;subst h;obtain⟨e,d,f,i,j⟩:=m;refine⟨e,d,f,?_,j⟩;simp only[CV]at i⊢
  grind
 |.cons v l,cs,k+1,a,b,m,h,n,p=>by simp only[Zq.nth]at h;obtain⟨e,d,f,i,j⟩:=m;exact⟨e,d,f,i,ZlG l d k a b j h n p⟩
theorem Za4:∀(c:Zq) (t:Ty) (cs:List Value) (k a:Nat),c.fits t=true->Z5 w g c cs->c.nth k=some (.vw a)->g.K a/\cs[Rl t k]? =some (g.slv a)
 |.nil,_,_,k,_,_,_,h=>by simp [Zq.nth]at h
 |.cons v l,t,cs,0,a,b,f,h=>by
  simp only[Zq.nth,Option.some.injEq]at h;subst h;obtain⟨i,j,rfl,d,m⟩:=f;simp only[CV]at d;obtain⟨e,rfl,_⟩:=d;refine⟨e,?_⟩
  cases t<;>simp only[Rl]<;>rfl
 |.cons v l,t,cs,k+1,a,b,f,h=>by
  simp only[Zq.nth]at h;obtain⟨i,j,rfl,d,m⟩:=f
  cases t with
  |prod p q=>
   simp only[Zq.fits,Vb]at b;have n:=CV.length v p i b.1 d;obtain⟨e,r⟩:=Za4 l q j k a b.2 m h;refine⟨e,?_⟩;simp only[Rl]
   grind
  |_=>simp [Zq.fits]at b
theorem Zfj:∀(l:Zq) (vs:List Value) (i:Nat) (v:AV),WM w g l vs->l.nth i=some v->∃u,vs[i]? =some u/\Kk w g v u
 |.nil,_,i,_,_,h=>by simp [Zq.nth]at h
 |.cons a l,vs,0,v,b,h=>by
  simp only[Zq.nth,Option.some.injEq]at h;subst h;obtain⟨u,r,rfl,d,_⟩:=b
  grind
 |.cons a l,vs,i+1,v,b,h=>by simp only[Zq.nth]at h;obtain⟨u,r,rfl,_,c⟩:=b;exact Zfj l r i v c h
theorem ZlE{v:Value}{id:Nat}(h:Kk w g (.ptr id []) v):g.K id/\ ∃b,g.blk id=some b/\v=.pointer (some ⟨b,0,none⟩):=by
 obtain⟨d,c⟩:=h;simp only[CV,Z0]at d;obtain⟨i,o,t,b,e,f,j⟩:=d;cases e;refine⟨i,b,f,?_⟩;rcases c with c|c
 ·grind
 ·cases v<;>simp_all [Value.cells,Ka,AV.isAgg]
theorem ZlY(m:RH B H w g ow){d nid e k:Nat}{T t:Ty}{c:Zq}{xs:List (El t)}(hS:H d=some (.var T (.agg c)))(Y:c.nth k=some (.vw nid))(hN:H nid=some (.vec t xs))(u:g.K e)(z:g.slv e=g.slv nid)(U:g.ty e=t)
 (V:(g.blk e=none/\g.slv e=.slice none 0 0)\/ ∃b len cap,g.blk e=some b/\g.slv e=.slice (some ⟨b,0,none⟩) len cap) (S:nid≠d) (a0:e≠d):
 ∃X,RH B (Kc (Kc (Kc (Kc H nid none) d none) e (some (.vec t xs))) d (some (.var T (.agg (c.putNth k (.vw e)))))) w g X:=by
 obtain⟨N,h2,x,b',M,e',O,y,Q,A,n⟩:=m.objs d _ hS;simp only[AV.fits]at x;simp only[CV]at n;obtain⟨_,a6,Z⟩:=m.objs nid _ hN
 have W:WF w g (ow nid) e (.vec t xs):=by
  refine⟨U,?_⟩
  grind
 have r1:RH B (Kc (Kc H nid none) d none) w g ow:=(m.drop nid).drop d
 have j:∀id,Kc (Kc H nid none) d none id≠none->id≠d/\id≠nid/\H id≠none:=fun id h=>by
  obtain⟨C,s⟩:=DE h;obtain⟨D,G⟩:=DE s
  grind
 have p:H nid≠none:=by grind
 have q:H d≠none:=by grind
 have r2:=r1.revive u (J:=ow nid) (fun b r=>by obtain⟨C,s,D⟩:=m.sep nid b p r;refine⟨C,s,D,fun i l f=>?_⟩;obtain⟨_,G,L⟩:=j i l;exact G (m.dist i nid b L p f r)) W
 refine⟨_,r2.revive N (J:=ow d) (fun b r=>?_) ⟨h2,?_,b',M,e',O,y,Q,A,?_⟩⟩
 ·obtain⟨C,s,D⟩:=m.sep d b q r;refine⟨C,s,D,fun i l f=>?_⟩;by_cases R:i=e
  ·subst R;rw[JS]at f;exact S (m.dist nid d b p q f r)
  ·rw[WV R]at f;rw[Ky R]at l;obtain⟨G,_,L⟩:=j i l;exact G (m.dist i d b L q f r)
 ·simp only[AV.fits];exact ZlH _ _ _ _ _ x Y
 ·simp only[CV];exact ZlG _ _ _ _ _ n Y u z
theorem Zrk(x:RH B0 H0 w0 g0 ow0){s:Zq}{r:List Value}(hv:WM w0 g0 s r){k:Nat×Nat×Nat}{p q:KB}{l l' :List Nat}(h:(Zgw s k p).run H0 l=some (q,l'))
 (hR:RH B (Zr H0 p) w g ow) (f:g0.Le g) (X:RB [k] r w0 w):∃a3,RH B (Zr H0 q) w g a3:=by
 simp only[Zgw]at h;split at h
 case h_2=>simp [Zb]at h
 rename_i i hs;rw[Z1]at h;split at h
 case h_2=>simp [Zb]at h
 rename_i T c Q;split at h
 case h_2=>simp [Zb]at h
 rename_i d ho;rw[Z1]at h;split at h
 case h_2=>simp [Zb]at h
 rename_i t b0 S;split at h
 case h_2=>simp [Zb]at h
 rename_i T' c' Y;split at h
 case h_2=>simp [Zb]at h
 rename_i nid hn;split at h
 case h_2=>simp [Zb]at h
 rename_i t' xs Z;simp only[ZL,Zb,ZR,Z3,Zi,Vb,Vx,Ks]at h;obtain⟨⟨⟨⟨⟨ht,hT⟩,m⟩,J⟩,L⟩,rfl,_⟩:=h;subst ht;subst hT;have m:=Vj m;have J:nid≠i:=by grind
 have L:d≠i:=by grind
 have hS:=ZgA p H0 i _ Y;have hN:=ZgA p H0 nid _ Z;obtain⟨R,h1,D,b,cs,e,hb,_,hh,_,C⟩:=x.objs i _ Q;obtain⟨a4,h2,G,b',N,e',a8,a5,V,a6,n⟩:=hR.objs i _ hS
 have U:b' =b:=by
  have:=f.blk i R
  grind
 subst U;simp only[AV.fits]at D G;simp only[CV]at C n;obtain⟨j,A⟩:=Za4 c _ _ _ _ D C ho;obtain⟨a7,z⟩:=Za4 c' _ _ _ _ G n hn;obtain⟨u,a1,a2⟩:=Zfj _ _ _ _ hv hs;obtain⟨_,b2,y,rfl⟩:=ZlE a2;rw[hb]at y;obtain rfl:=Option.some.inj y;obtain⟨O,e2,W,a9⟩:=X k (by simp) _ a1 cs e hh;rw[V]at W
 obtain⟨rfl,_⟩:N=O/\e' =e2:=by
  grind
 rw[Vaa]at A z;rw[m]at A z
 have M:g.slv d=g.slv nid:=by
  rw[f.slv d j]
  grind
 obtain⟨_,a0,_⟩:=x.objs d _ S;rw[Xc];simp only[Zr]
 exact ZlY hR hS hn hN (f.K d j) M ((f.ty d j).trans a0) (by
  rw[f.blk d j,f.slv d j]
  grind) J L
theorem Zkv(d:RH B0 H0 w0 g0 ow0){c:Zq}{b:List Value}(t:WM w0 g0 c b)(e:g0.Le g):∀(kp:List (Nat×Nat×Nat)) {p q:KB}{l j:List Nat}{ow:Nat->Nat->Prop},(Zck c kp p).run H0 l=some (q,j)->
 RH B (Zr H0 p) w g ow->RB kp b w0 w->∃n,RH B (Zr H0 q) w g n
 |[],p,q,l,j,ow,h,r,_=>by
  simp only[Zck,Zi]at h
  grind
 |k::kp,p,q,l,j,ow,h,r,s=>by simp only[Zck,Z4]at h;obtain⟨A,m,u,x⟩:=h;obtain⟨z,f⟩:=Zrk d t u r e (fun i y=>s i (by grind));exact Zkv d t e kp x f fun i y=>s i (by grind)
theorem Zi6{f:FuncId}{S:Spec}(y:ZX P f S)(x:B.pl=false->HX P B.w0 B.own0)(j:B.pl=true->S.pl=true)(k:RH B H w g ow){nid:Nat}(z:∀id,g.K id->id<nid\/nid+Ws<=id){c:Zq}{b:List Value}(n:WM w g c b){v:AV}{patch:KB}{rd:List Nat}
 {l:List Nat} (h:(Zds S nid c).run H l=some ((v,patch),rd)):
 Calls P f b.toArray w fun e w' =>∃rv d i,e=.returned rv/\RH B (Zr H patch) w' d i/\g.Le d/\Kj g.I w w' /\VR w' d v rv/\ ∀id,d.K id->g.K id\/(nid<=id/\id<nid+Ws):=by
 simp only[Zds,Z4,Zi,Va]at h;obtain⟨⟨M,p0⟩,m,t,q,L,u,⟨rfl,rfl⟩,_⟩:=h;refine(Zpo y x j k z n t).mono ?_;rintro e w' ⟨rv,d,i,rfl,p,r,C,D,G,s⟩;obtain⟨A,J⟩:=Zkv k n r S.kp u p s
 grind
theorem Zi5{f:FuncId}(j:B.pl=false->HX P B.w0 B.own0)(k:RH B H w g ow){nid:Nat}(n:∀id,g.K id->id<nid\/nid+Ws<=id){c:Zq}{b:List Value}(p:WM w g c b){v:AV}{patch:KB}{rd:List Nat} :∀(d:List Spec) {l:List Nat},
 (∀S∈d,ZX P f S/\(B.pl=true->S.pl=true))->(ZaG nid c d).run H l=some ((v,patch),rd)->
 Calls P f b.toArray w fun e w' =>∃rv i q,e=.returned rv/\RH B (Zr H patch) w' i q/\g.Le i/\Kj g.I w w' /\VR w' i v rv/\ ∀id,i.K id->g.K id\/(nid<=id/\id<nid+Ws)
 |[],l,_,h=>by simp [ZaG,Zb]at h
 |[S],l,t,h=>Zi6 (by grind) j (by grind) k n p h
 |S::T::d,l,t,h=>by
  simp only[ZaG,Z4]at h;obtain⟨r,m,_,h⟩:=h;simp only[Zw.run]at h;generalize (S.f r.1).isSome=s at h
  cases s with
  |true=>exact Zi6 (by grind) j (by grind) k n p h
  |false=>exact Zi5 j k n p (T::d) (by grind) h
end
end Tr
end
section
namespace Tr
open Go
section ops
variable {P:Program}{E:Km}{B:Kd}{H:AH}{w:World}{g:Gh}{ow:Nat->Nat->Prop}{nid:Nat}{a:Act}{F:Nat->AV}{v:AV}{patch:KB}{rd:List Nat}{o:Oper}
theorem ZpK{c:Call}{x:Operand}{id lo n:Nat}{T0:TypeId}{t:Ty}{xs:List (El t)}(hT:Z9 P E)(hR:RH B H w g ow)(hF:Fr w g F a.tmps)(ho:o.op=.call c)(D:c.callee=.builtin .clear)(C:c.args.toList=[x])(h0:c.argTypes[0]? =some T0)(ht:E.ty T0=some (.sl t))(hx:ZB F x=.vs id lo n)(hH:H id=some (.vec t xs))(hd:t.data=true)(b2:lo+n<=xs.length):
 Zx B (Kc H id (some (.vec t (xs.take lo++Vs n (zeroEl t)++xs.drop (lo+n))))) w g nid (.tup .nil) ((execOp a.eval o).run P w):=by
 obtain⟨Et,Q,a7⟩:=Jz hT ht;obtain⟨ie,z,b1,b7,hz,b8,_,N⟩:=Ze2 (w:=w) (g:=g) hT a7 hd;have R:(zeroValue Et).run P w=.ok z w:=by simp [zeroValue,typeInfo,b1,hz]
 have k:c.args.map a.eval= #[a.eval x]:=by
  have:c.args= #[x]:=by rw[<-Vdb];exact C
  rw[this];simp
 have X:∀w',(Vw c.argTypes o.type #[a.eval x]).run P w=.ok (.tuple #[]) w' ->(execOp a.eval o).run P w=.ok (.value (.tuple #[])) w' :=fun w' hr=>by simp only[execOp,ho,Ro D,builtin,k,Vf,hr,Vc,Vg]
 have hv:∀{w' :World}{g' :Gh},VR w' g' (.tup .nil) (.tuple #[]):=⟨[],rfl,rfl⟩;obtain⟨hk,A⟩:=(hx▸hF.eval x).vs;have Z:H id≠none:=by rw[hH];simp
 by_cases hn:n=0
 ·subst hn;have e:xs.take lo++Vs 0 (zeroEl t)++xs.drop (lo+0)=xs:=by simp
  rw[e,Zm1 hH];refine Zx.pure hR (X _ ?_) hv;rcases A with ⟨_,_,_,S⟩|⟨b,len,cap,m,h1,h2,S,h4,h5⟩
  ·have W:a.eval x=.slice none 0 0:=by simpa using S
   rw[W];simp only[Vw,h0,ZaB,underlying,Vf,run_program,Vc,Q,Vg]
  ·have W:a.eval x=.slice (some ⟨b,if m=0 then 0 else lo* (g.ty id).size,none⟩) 0 m:=by simpa using h5
   rw[W];simp only[Vw,h0,ZaB,underlying,Vf,run_program,Vc,Q,Vg]
 ·obtain⟨hK,a6,hO⟩:=hR.objs id _ hH;rcases A with ⟨_,_,S,_⟩|⟨b,len,cap,m,s,h2,S,h4,h5⟩
  ·exact absurd S hn
  have b3:m≠0:=by omega
  rw[Zf b3,a6]at h5;have W:a.eval x=.slice (some ⟨b,lo*t.size,none⟩) n m:=by simpa using h5
  rcases hO with ⟨rfl,_⟩|⟨b',b5,cs,e,d,V,L,i,hh,a9,b0,f,rest,M⟩
  ·simp at b2;omega
  rw[s]at i;simp only[Vrb.injEq,Option.some.injEq,Addr.mk.injEq,and_true]at i;obtain⟨rfl,rfl,rfl⟩:=i
  let j:=Vs n z.cells.toList
  have G:Fa (Rd w g.I t) (Vs n (zeroEl t)) j:=N n;have b6:=JV (Rd.all_length f)
  have b4:(Vxa z.cells n).toList=j.flatten:=by have:=Zbv z.cells n;unfold Vxa;exact this
  have K:j.flatten.length=n*t.size:=by rw[JV fun c D=>Rd.all_length G c D];simp [j]
  have J:((d.take lo).flatten).length=lo*t.size:=by rw[JV fun c D=>Rd.all_length f c (Vra D),Veb, <-f.length,Vjb (by omega)]
  have a2:(((d.drop lo).take n).flatten).length=n*t.size:=by rw[JV fun c D=>Rd.all_length f c (List.mem_of_mem_drop (Vra D)),Veb,List.length_drop, <-f.length,Vjb (by omega)]
  have l:d.flatten=(d.take lo).flatten++(((d.drop lo).take n).flatten++(d.drop (lo+n)).flatten):=by rw[<-Vnb, <-Vea,Voa, <-Vea,Voa]
  have r:cs.toList=(d.take lo).flatten++(((d.drop lo).take n).flatten++((d.drop (lo+n)).flatten++rest)):=by rw[<-M,l];simp
  have O:cs.size=lo*t.size+(n*t.size+((d.drop (lo+n)).flatten++rest).length):=by rw[<-Vta,r,Vr,Vr,J,a2]
  have a3:∀u∈j.flatten,u.oneCell' =true:=by intro u Q;obtain⟨c1,a8,Q⟩:=List.mem_flatten.1 Q;exact G.all_right (p:=fun c=>∀u∈c,u.oneCell' =true) (fun y c hy=>Rd.oneCell t _ _ hy) c1 a8 u Q
  have a5:=run_storeCells_at P b (lo*t.size) e j.flatten 0 cs w hh (by rw[K];omega) a3
  have a1:(cs.toList.take (lo*t.size+0)++j.flatten++cs.toList.drop (lo*t.size+0+j.flatten.length))=(d.take lo++j++d.drop (lo+n)).flatten++rest:=by rw[Nat.add_zero,K,r, <-J,List.take_left, <-Vnb,Vob, <-a2,Vob];simp
  rw[a1]at a5
  have a4:(Vw c.argTypes o.type #[a.eval x]).run P w=.ok (.tuple #[]) (w.setRow b ((d.take lo++j++d.drop (lo+n)).flatten++rest).toArray):=by rw[W];obtain⟨n',rfl⟩:=Nat.exists_eq_succ_of_ne_zero hn;simp only[Vw,h0,ZaB,underlying,Vf,run_program,Vc,Q,Vg,R,b4,a5]
  have hs:=hR.sep id b Z L;have U:Kj g.I w (w.setRow b ((d.take lo++j++d.drop (lo+n)).flatten++rest).toArray):=fun q hq=>setRow_other w b q _ fun e=>hs.1 (e▸hq)
  have Y:Fa (Rd (w.setRow b ((d.take lo++j++d.drop (lo+n)).flatten++rest).toArray) g.I t) (xs.take lo++Vs n (zeroEl t)++xs.drop (lo+n)) (d.take lo++j++d.drop (lo+n)):=
   (((f.take lo).append G).append (f.drop (lo+n))).mono fun x c hx=>Rd.mono U (by simp) t x c hx
  have a0:(xs.take lo++Vs n (zeroEl t)++xs.drop (lo+n)).length=xs.length:=by simp;omega
  refine⟨.tuple #[],_,g,ow,.inl (X _ a4),hR.write Z L (fun q hq=>setRow_other w b q _ hq) (size_setRow w b _) rfl rfl ⟨rfl,Vh _⟩ ?_,.refl g,U,hv,fun id h=>.inl h⟩;refine⟨a6,.inr ⟨b,_,_,e,_,V,L,by rw[a0];exact s,Rs hh,by omega,?_,Y,rest,by simp⟩⟩
  have h8:((d.take lo++j++d.drop (lo+n)).flatten++rest).length=cs.size:=by rw[O];simp only[Vea,Vr,J,K];omega
  rw[Vya,h8];exact b0
end ops
end Tr
end
section
namespace Tr
open Go
section ops
variable {P:Program}{E:Km}{B:Kd}{H:AH}{w:World}{g:Gh}{ow:Nat->Nat->Prop}{nid:Nat}{a:Act}{F:Nat->AV}{v:AV}{patch:KB}{rd:List Nat}{o:Oper}
theorem KH.of_cells{b:Nat}{cs:Array Value}{e:TypeId}(c:w.heap[b]? =some (.cells cs e (0,0))):KH w b 0 cs.toList:=by have:=KH.of_vec (w:=w) (b:=b) (css:=[cs.toList]) c (by simp);simpa using this
theorem Zf3{u v:AV}{val:Value}{l C:List Nat}(i:VR w g v val)(h:(D5 v).run H l=some (u,C)):C=l/\ ∃t y,u=.dp t y/\VR w g u val/\ ∃b off,val=.pointer (some ⟨b,off,none⟩):=by
 unfold D5 at h;split at h
 ·rename_i t x;simp only[ZC,Zi]at h;obtain⟨y,j,rfl,rfl⟩:=h;subst j;have f:CV w g (.d (.pt t) (some y)) val.cells.toList:=i.1;have r:Ka val=false:=i.2.resolve_left (by simp);simp only[CV,Rd]at f;obtain⟨b,c,e,k,m,n,q⟩:=f;obtain rfl:=KU k r;refine⟨rfl,t,y,rfl,K8 ?_ rfl rfl,b,0,rfl⟩;simp only[CV];exact⟨b,0,c.toList,rfl,m,.of_cells n,q⟩
 ·rename_i a b x;simp only[ZC,Zi]at h;obtain⟨y,j,rfl,rfl⟩:=h
  cases x with
  |nil=>cases j
  |cons z x=>
   cases j;have f:CV w g (.d (.lk a b) (z::x)) val.cells.toList:=i.1;have r:Ka val=false:=i.2.resolve_left (by simp);simp only[CV,Rd]at f;obtain⟨p,off,A,cl,s,k,m,n,q,D,G⟩:=f;obtain rfl:=KU k r;refine⟨rfl,Zac a b,_,rfl,K8 ?_ rfl rfl,p,off,rfl⟩;simp only[CV];refine⟨p,off,A++(cl++s),rfl,m,n,?_⟩;simp only[Rd];exact⟨A,cl++s,rfl,q,cl,s,rfl,D,G⟩
 ·rename_i t x;simp only[ZC,Zi]at h;obtain⟨y,j,rfl,rfl⟩:=h;subst j;have f:CV w g (.d (.pn t) (some y)) val.cells.toList:=i.1;have r:Ka val=false:=i.2.resolve_left (by simp);simp only[CV,Rd]at f;obtain⟨cells,e,k,m,n,q⟩:=f;obtain rfl:=KU k r;refine⟨rfl,t,_,rfl,K8 ?_ rfl rfl,y.1,0,rfl⟩;simp only[CV];exact⟨y.1,0,cells.toList,rfl,m,.of_cells n,q⟩
 ·simp [Zb]at h
theorem ZlD{x:Operand}(h:(ZB F x).isPtD=true):∃n,x=.tmp n:=by
 cases x with
 |tmp n=>exact⟨n,rfl⟩
 |const c=>
  exfalso;simp only[ZB]at h;unfold Zdn at h
  split at h<;>simp [AV.isPtD]at h
 |global i=>simp [ZB,AV.isPtD]at h
 |func f=>simp [ZB,AV.isPtD]at h
theorem Fr.put1{n:Nat}{u:AV}(hF:Fr w g F a.tmps)(c:VR w g u (a.eval (.tmp n))):Fr w g (fun k=>bif Vq k n then u else F k) a.tmps:=by
 intro k
 cases b:Vq k n with
 |true=>
  have:=Vj b;subst this
  show VR w g (bif Vq k k then u else F k) _
  rw[b];exact c
 |false=>
  show VR w g (bif Vq k n then u else F k) _
  rw[b];exact hF k
theorem ZsI{x:Operand}(c:RH B H w g ow)(hF:Fr w g F a.tmps)(d:o.op=.nilCheck x){u:AV}{l f:List Nat}(h:(D5 (ZB F x)).run H l=some (u,f)):Zx B H w g nid (ZB F x) ((execOp a.eval o).run P w):=by obtain⟨_,t,y,_,_,b,off,e⟩:=Zf3 (hF.eval x) h;refine Zx.pure (val:=a.eval x) c ?_ (hF.eval x);simp [execOp,d,e]
theorem ZsG{T:TypeId}{x:Operand}(f:Z9 P E)(e:RH B H w g ow)(hF:Fr w g F a.tmps)(b:o.op=.load T x)(i:(ZB F x).isPtD=true)
 (h:((D5 (ZB F x)).bind fun v=>ZQ E nid (.load T x) o.type fun _=>v).run H []=some ((v,patch),rd)):Zx B (Zr H patch) w g nid v ((execOp a.eval o).run P w):=by
 obtain⟨n,rfl⟩:=ZlD i;rw[Z4]at h;obtain⟨u,m,c,d⟩:=h;obtain⟨rfl,t,y,rfl,j,_⟩:=Zf3 (hF.eval _) c;refine ZiG f e (Fr.put1 (n:=n) (u:=.dp t y) hF j) b (rd:=rd) ?_;rw[b];simpa only[ZQ,ZB,Nat.beq_refl,Zc] using d
theorem ZsF{T f:Nat}{x:Operand}(i:Z9 P E)(e:RH B H w g ow)(hF:Fr w g F a.tmps)(b:o.op=.fieldAddr T x f)(j:(ZB F x).isPtD=true)
 (h:((D5 (ZB F x)).bind fun v=>ZQ E nid (.fieldAddr T x f) o.type fun _=>v).run H []=some ((v,patch),rd)):Zx B (Zr H patch) w g nid v ((execOp a.eval o).run P w):=by
 obtain⟨n,rfl⟩:=ZlD j;rw[Z4]at h;obtain⟨u,m,c,d⟩:=h;obtain⟨rfl,t,y,rfl,k,_⟩:=Zf3 (hF.eval _) c;refine ZiF i e (Fr.put1 (n:=n) (u:=.dp t y) hF k) b (rd:=rd) ?_;rw[b];simpa only[ZQ,ZB,Nat.beq_refl,Zc] using d
theorem Zug{T:TypeId}{x y:Operand}{u:AV}{t:Ty}{id:Nat}{p:List Nat}{t0:Ty}{c c' :AV}{H' :AH}{l X:List Nat}(S:Z9 P E)(z:RH B H w g ow)(U:o.op=.store T x y)(V:E.ty T=some t)(W:VR w g (.ptr id p) (a.eval x))(G:Kk w g u (a.eval y))(C:u.fits t=true)
 (R:H id=some (.var t0 c)) (O:(Dy t0 c p u).run H' l=some (c',X)):Zx B (Kc H id (some (.var t0 c'))) w g nid .junk ((execOp a.eval o).run P w):=by
 have h:=CV.oneCell _ _ (ZaU C).1 G.1 t C;have f:=CV.length _ t _ C G.1;obtain⟨hk,o',t1,b,J,K,Q⟩:=W.ptr;obtain⟨_,i,D,Y,cs,e,L,s,M,Z,j⟩:=z.objs id _ R;obtain⟨_,o2,pre,N,post,t2,⟨k,d,m,n⟩,q,r⟩:=Zmr O D j G.1 (by omega);rw[i,k]at J;obtain⟨rfl,rfl⟩:=Prod.mk.inj (Option.some.inj J);rw[K]at L;cases L;subst m;have A:=Zdi (cs' :=(pre++(a.eval y).cells.toList++post).toArray) z (by grind) s;refine Zx.write z (by grind) s (cs' :=(pre++(a.eval y).cells.toList++post).toArray) ?_ ?_
 ·simp only[execOp,U,Q,Instr.storeAt,Instr.sureAddr,Vf,Vg,Vc,ZcK (S.ty T t V) M d rfl n f h]
 ·refine⟨i,q,b,_,e,K,s,Rs M,?_,?_⟩
  ·have:cs.size=pre.length+N.length+post.length:=by rw[<-Vta,d];grind
   grind
  ·simpa using CV.mono A (.refl g) _ _ r
theorem ZsJ{T:TypeId}{x y:Operand}{t:Ty}{d:El t}{ids:List Nat}{id:Nat}{p:List Nat}{t0:Ty}{c c' :AV}{H' :AH}{l N O Q:List Nat}(J:Z9 P E)(s:RH B H w g ow)(hF:Fr w g F a.tmps)(K:o.op=.store T x y)(L:E.ty T=some t)(M:ZB F x=.ptr id p)
 (f:(Kl t (ZB F y)).run H O=some ((d,ids),Q)) (A:KX id ids=false) (G:H id=some (.var t0 c)) (D:(Dy t0 c p (.d t d)).run H' l=some (c',N)):
 Zx B (Zr H ((ids.map fun i=>(i,none))++[(id,some (.var t0 c'))])) w g nid .junk ((execOp a.eval o).run P w):=by
 have e:=g.le_grow (ZV H ow ids);have z:=ZfB f
 have q:∀m,ZB F y≠ .tup m:=by
  intro m n;rw[n]at f
  cases t<;>simp [Kl,Zb]at f
 have C:=(hF.eval y).to1 q;have r:Rd w (g.grow (ZV H ow ids)).I t d (a.eval y).cells.toList:=ZbQ s (fun b j=>e.I b j) _ _ _ _ _ _ _ f C.1 (fun b j=>.inr j)
 have k:Zr H (ids.map fun i=>(i,none)) id=some (.var t0 c):=by rw[Dg,Zf,G];intro n;rw[Jj.2 n]at A;cases A
 rw[Xc];refine Zx.after_le e (fun _ h=>h) (Zug (u:=.d t d) J s.freezeIds K L ((M▸hF.eval x).mono (fun _ _=>rfl) e) ⟨by simpa only[CV] using r,.inr ?_⟩ (by simp [AV.fits]) k D);rw[C.2.resolve_left z.1,z.2];rfl
theorem ZtE{T:TypeId}{t:Ty}(h:Z9 P E)(i:E.ty T=some t)(c:Zcj (some t)=true):∃e,P.underlying T=some (.pointer e):=by
 have b:=(h.ty T t i).shape
 cases f:P.underlying T with
 |none=>rw[f]at b;cases t<;>simp [Zcj]at c<;>simp [Kb]at b
 |some d=>rw[f]at b;cases t<;>simp [Zcj]at c<;>cases d<;>simp [Kb]at b<;>exact⟨_,rfl⟩
theorem ZsE{t:Ty}{x:El t}{r:Bool}{val:Value}(n:VR w g (.d t x) val)(h:Zet (.d t x)=some r):Zcj (some t)=true/\ ∃m:Option Addr,val=.pointer m/\r=m.isNone:=by
 have i:Ka val=false\/t.agg=true:=by
  have:=n.2.resolve_left (by simp);rw[this]
  cases p:t.agg with
  |true=>exact .inr rfl
  |false=>exact .inl p
 have f:Rd w g.I t x val.cells.toList:=by have:=n.1;simpa only[CV] using this
 unfold Zet at h;split at h
 ·rename_i q y j;cases j;refine⟨rfl,?_⟩;have i:=i.resolve_right (by simp [Ty.agg])
  cases y with
  |none=>exact⟨none,KU f i,by simpa using h.symm⟩
  |some z=>obtain⟨b,off,c,k,_⟩:=f;exact⟨_,KU k i,by simpa using h.symm⟩
 ·rename_i A C y j;cases j;refine⟨rfl,?_⟩;have i:=i.resolve_right (by simp [Ty.agg])
  cases y with
  |nil=>exact⟨none,KU f i,by simpa using h.symm⟩
  |cons z l=>obtain⟨b,off,s,cl,u,k,_⟩:=f;exact⟨_,KU k i,by simpa using h.symm⟩
 ·rename_i q y j;cases j;refine⟨rfl,?_⟩;have i:=i.resolve_right (by simp [Ty.agg])
  cases y with
  |none=>exact⟨none,KU f i,by simpa using h.symm⟩
  |some z=>obtain⟨c,e,k,_⟩:=f;exact⟨_,KU k i,by simpa using h.symm⟩
 ·cases h
theorem ZsH{b:BinOp}{T m:TypeId}{x y:Operand}{t:Ty}{d:El t}{r:Bool}(p:Z9 P E)(i:RH B H w g ow)(hF:Fr w g F a.tmps)(l:o.op=.binOp b T x y m)(A:ZB F x=.d t d)(C:ZB F y=.nilr true)(s:Zet (.d t d)=some r)(u:E.ty T=some t):
 (b=.eql->Zx B H w g nid (.d .bool r) ((execOp a.eval o).run P w))/\(b=.neq->Zx B H w g nid (.d .bool (!r)) ((execOp a.eval o).run P w)):=by
 obtain⟨q,c,f,rfl⟩:=ZsE (A▸hF.eval x) s;obtain⟨e,z⟩:=ZtE p u q
 have h:a.eval y=.pointer none:=by
  have:=C▸hF.eval y;have n:Ka (a.eval y)=false:=by simpa [AV.isAgg] using this.2
  exact KU (Zk7 this.1) n
 have key:(Op.equal T (.pointer c) (.pointer none)).run P w=.ok c.isNone w:=by
  have:∀d,(Op.equalIn (d+1) T (.pointer c) (.pointer none)).run P w=.ok c.isNone w:=fun d=>by
   cases c<;>simp only[Op.equalIn,underlying,Vf,run_program,Vc,z,Vg]<;>rfl
  exact this 9999
 have k:∀op,(eqGuard op T x y (.pointer c) (.pointer none)).run P w=.ok () w:=fun op=>ZcH (by simp) rfl
 refine⟨fun j=>?_,fun j=>?_⟩<;>subst j
 ·refine Zx.pure i (val:=.bool c.isNone) ?_ (Xj _);simp only[execOp,l,f,h,Vf,k,Vc,binOp,key,Vg]
 ·refine Zx.pure i (val:=.bool (!c.isNone)) ?_ (Xj _);simp only[execOp,l,f,h,Vf,k,Vc,binOp,key,Vg]
theorem ZlA{t:Ty}{x:El (.pn t)}{val:Value}(h:VR w g (.d (.pn t) x) val):(x=none/\val=.pointer none)\/ ∃y cells e,x=some y/\val=.pointer (some ⟨y.1,0,none⟩)/\w.heap[y.1]? =some (.cells cells e (0,0)):=by
 have f:Ka val=false:=h.2.resolve_left (by simp);have b:Rd w g.I (.pn t) x val.cells.toList:=by have:=h.1;simpa only[CV] using this
 cases x with
 |none=>exact .inl ⟨rfl,KU b f⟩
 |some y=>obtain⟨c,e,i,_,j,_⟩:=b;exact .inr ⟨y,c,e,rfl,KU i f,j⟩
theorem Zsv{b:BinOp}{T J:TypeId}{x y:Operand}{t:Ty}{d j:El (.pn t)}(A:Z9 P E)(z:RH B H w g ow)(hF:Fr w g F a.tmps)(G:o.op=.binOp b T x y J)(O:ZB F x=.d (.pn t) d)(Q:ZB F y=.d (.pn t) j)(N:E.ty T=some (.pn t))(n:t.size≠0):
 (b=.eql->Zx B H w g nid (.d .bool (decide (d.map Vi=j.map Vi))) ((execOp a.eval o).run P w))/\(b=.neq->Zx B H w g nid (.d .bool (!decide (d.map Vi=j.map Vi))) ((execOp a.eval o).run P w)):=by
 have l:=(A.ty T _ N).shape
 obtain⟨e,i,M⟩:∃e,P.underlying T=some (.pointer e)/\E.ty e=some t:=by
  cases i:P.underlying T with
  |none=>rw[i]at l;simp [Kb]at l
  |some d=>rw[i]at l;cases d<;>simp [Kb]at l;exact⟨_,rfl,l⟩
 have R:=(A.ty e t M).run_sizeOf w
 have main:∃p q:Option Addr,a.eval x=.pointer p/\a.eval y=.pointer q/\(Op.equal T (.pointer p) (.pointer q)).run P w=.ok (decide (d.map Vi=j.map Vi)) w:=by
  rcases ZlA (O▸hF.eval x) with ⟨rfl,k⟩|⟨u,S,V,rfl,k,K⟩<;>rcases ZlA (Q▸hF.eval y) with ⟨rfl,f⟩|⟨c,U,W,rfl,f,L⟩
  ·refine⟨_,_,k,f,?_⟩
   have:∀d,(Op.equalIn (d+1) T (.pointer none) (.pointer none)).run P w=.ok true w:=fun d=>by simp only[Op.equalIn,underlying,Vf,run_program,Vc,i,Vg];rfl
   exact this 9999
  ·refine⟨_,_,k,f,?_⟩
   have:∀d,(Op.equalIn (d+1) T (.pointer none) (.pointer (some ⟨c.1,0,none⟩))).run P w=.ok false w:=fun d=>by simp only[Op.equalIn,underlying,Vf,run_program,Vc,i,Vg];rfl
   exact this 9999
  ·refine⟨_,_,k,f,?_⟩
   have:∀d,(Op.equalIn (d+1) T (.pointer (some ⟨u.1,0,none⟩)) (.pointer none)).run P w=.ok false w:=fun d=>by simp only[Op.equalIn,underlying,Vf,run_program,Vc,i,Vg]
   exact this 9999
  ·refine⟨_,_,k,f,?_⟩
   have m:(sameAddr ⟨u.1,0,none⟩ ⟨c.1,0,none⟩).run P w=.ok (decide (u.1=c.1)) w:=by
    by_cases e:u.1=c.1
    ·rw[e,run_sameAddr_same];simp
    ·rw[run_sameAddr_other w (a:=⟨u.1,0,none⟩) (b:=⟨c.1,0,none⟩) (fun h=>e (Addr.mk.inj h).1) K L];simp [e]
   have:∀d,(Op.equalIn (d+1) T (.pointer (some ⟨u.1,0,none⟩)) (.pointer (some ⟨c.1,0,none⟩))).run P w=.ok (decide (u.1=c.1)) w:=fun d=>by simp only[Op.equalIn,underlying,Vf,run_program,Vc,i,Vg,R];simp only[ne_eq,n,not_false_eq_true,if_true,m]
   rw[show decide (Vsb Vi (some u)=Vsb Vi (some c))=decide (u.1=c.1) from by simp];exact this 9999
 obtain⟨p,q,f,s,key⟩:=main;have D:∀op,(eqGuard op T x y (.pointer p) (.pointer q)).run P w=.ok () w:=fun op=>ZcH (by simp) rfl;generalize decide (d.map Vi=j.map Vi)=r at key⊢
 refine⟨fun C=>?_,fun C=>?_⟩<;>subst C
 ·refine Zx.pure z (val:=.bool r) ?_ (Xj _);simp only[execOp,G,f,s,Vf,D,Vc,binOp,key,Vg]
 ·refine Zx.pure z (val:=.bool (!r)) ?_ (Xj _);simp only[execOp,G,f,s,Vf,D,Vc,binOp,key,Vg]
end ops
end Tr
end
section
namespace Tr
open Go
section ops
variable {P:Program}{E:Km}{B:Kd}{H:AH}{w:World}{g:Gh}{ow:Nat->Nat->Prop}{nid:Nat}{a:Act}{F:Nat->AV}{v:AV}{patch:KB}{rd:List Nat}{o:Oper}
theorem ZiA{α β:Type}(eq:α->α->Bool)(k:α):∀l:List (α×β),amPos eq k l=(WR eq k l).getD l.length
 |[]=>rfl
 |e::l=>by
  simp only[amPos,WR]
  cases eq k e.1 with
  |true=>rfl
  |false=>
   rw[Ze,Ze,ZiA eq k l]
   cases WR eq k l<;>rfl
theorem ZrQ{T:TypeId}{m k:Operand}{id u:Nat}{c t:Ty}{y:El c}{es:List (El c×List (El t))}{mt:Ty×Ty}(hT:Z9 P E)(hR:RH B H w g ow)(hF:Fr w g F a.tmps)(ho:o.op=.mapEntry T m k)(c2:E.mty T=some mt)(b9:mt.1=c)(c1:mt.2=.sl t)(M:c.keyOk=true)
 (d4:ZB F m=.mp id) (b0:ZB F k=.d c y) (hH:H id=some (.mrows c t es u none)):
 Zx B (Zr H [(id,some (.mrows c t (ZZ (Zj c) y ((ZI (Zj c) y es).getD []) es) u none))]) w g nid (.tup (.cons (.nw id u c y) (.cons (.d (.int .i64) ((amPos (Zj c) y es:Nat):Int)) .nil))) ((execOp a.eval o).run P w):=by
 obtain⟨K,V,hu,hK,hV⟩:=hT.mty T mt c2;have hm:=hF.eval m;have b7:=hF.eval k;obtain⟨e3,b,hb,hv⟩:=(d4▸hm).mp;have a5:H id≠none:=by rw[hH];simp
 obtain⟨_,d8,c8,a2,c4,a3,S,l,clock,A,hJ,hh,Z,U⟩:=hR.objs id _ hH;rw[hb]at A;cases A;rw[b0]at b7;have a0:Kk w g (.d c y) (a.eval k):=b7;rw[b9]at hK;rw[c1]at hV;have N:=Do M
 have b5:=ZcG (w:=w) hT false _ c K y (a.eval k) 10000 (Vfb _) hK N (by simp only[Ty.keyOk,Vb]at M;have:=Vpa M.2;omega) a0
 have Y:=ZcI hT hK M a0 es l.toList (U.mono (by grind));have a4:(getObj b).run P w=.ok (.map l clock) w:=by simp only[getObj,Vgb,hh]
 have hz:=Ze3 (hT.ty V (.sl t) hV) w;have b8:l.size=es.length:=by have:=U.length;simpa using this.symm
 have fin:∀(G:World) (s:Array MapEntry) (c' :Nat) (R:List (El c×List (El t))),Jr w G->(Vqa T (a.eval m) (a.eval k)).run P w=.ok (.tuple #[g.row id c y,goInt ((amPos (Zj c) y es:Nat):Int)]) {G with heap:=G.heap.setIfInBounds b (.map s c')} ->Ix s c' ->
  (g.row id c y).oneCell'=true->(∀k x,(k,x)∈R->(k,x)∈es\/x=[]/\g.row id c k=.slice none 0 0)->(R.map Vi).Nodup->(∀k,k ∉ R.map Vi->k ∉ es.map Vi)->
  (∀w2,Kj g.I w w2->Fa (fun kv (e:MapEntry)=>Kk w2 g (.d c kv.1) e.key/\e.val=g.row id c kv.1) R s.toList)->
  Zx B (Zr H [(id,some (.mrows c t R u none))]) w g nid (.tup (.cons (.nw id u c y) (.cons (.d (.int .i64) ((amPos (Zj c) y es:Nat):Int)) .nil))) ((execOp a.eval o).run P w):=by
  intro G s c' R hs c7 b6 X r c5 b4 a8;have c9:=hR.same hs
  have D:∀k,k≠b->({G with heap:=G.heap.setIfInBounds b (.map s c')} :World).heap[k]? =G.heap[k]? :=by
   grind
  have e1:=hR.sep id b a5 hJ
  have z:Kj g.I w {G with heap:=G.heap.setIfInBounds b (.map s c')} :=fun k f=>by rw[D k (by grind),hs.heap]
  have a1:∀k,k≠b->({G with heap:=G.heap.setIfInBounds b (.map s c')} :World).heap[k]? =w.heap[k]? :=fun k f=>by rw[D k f,hs.heap]
  have a7:∀{J:Nat->Prop}{x:List (El t)}{hd:Value},WH w g.I J t x hd->∀S,Wo hd=some S->S≠b:=by
   intro J x hd d7 S A e;subst e;rcases d7 with ⟨_,rfl⟩|⟨b2,cap,cells,e,e2,rfl,_,h3,_⟩
   ·simp [Wo]at A
   ·simp only[Wo,Option.some.injEq]at A
    grind
  have b3:∀w2:World,Kk w2 g (.nw id u c y) (g.row id c y):=fun w2=>VR.to1 (K8 (a:=.nw id u c y) (by simp only[CV];grind) X rfl) (by simp);refine⟨.tuple #[g.row id c y,goInt ((amPos (Zj c) y es:Nat):Int)],_,g,ow,.inl ?_,c9.write a5 hJ D (by simp) rfl rfl ⟨rfl,Vh _⟩ ?_,.refl g,z,?_,fun _ h=>.inl h⟩
  ·simp only[execOp,ho,Vf,c7,Vc,Vg]
  ·refine⟨d8,c8,⟨fun k x f _=>?_,fun k k' x x' S f b0 d6 _ _ C=>?_,fun k x S f _ C=>?_⟩,c5,fun k f=>a3 k (b4 k f),b,s,c',hb,hJ,?_,b6,a8 _ z⟩
   ·rcases r k x f with i|⟨rfl,i⟩
    ·have hr:=a2.rd k x i (by simp);exact hr.mono z (by simp) (fun _ _ h=>h) fun S A _=>a1 S (a7 hr S A)
    ·exact .inl ⟨rfl,i⟩
   ·rcases r k x f with i|⟨rfl,i⟩
    ·rcases r k' x' b0 with b1|⟨rfl,b1⟩
     ·exact a2.ds k k' x x' S i b1 d6 (by simp) (by simp) C
     ·rw[b1];simp [Wo]
    ·rw[i]at C;simp [Wo]at C
   ·rcases r k x f with i|⟨rfl,i⟩
    ·exact a2.tp k x S i (by simp) C
    ·rw[i]at C;simp [Wo]at C
   ·show (G.heap.setIfInBounds b _)[b]? =_;rw[Array.getElem?_setIfInBounds,Zp rfl,Zp (by rw[hs.heap];omega)]
  ·exact⟨[g.row id c y,goInt ((amPos (Zj c) y es:Nat):Int)],rfl,g.row id c y,_,rfl,b3 _,.int .i64 _,[],rfl,VR.to1 (Je _ _) (by simp),rfl⟩
 rw[DX,G4];have O:=ZiA (Zj c) y es
 cases hi:WR (Zj c) y es with
 |none=>
  rw[hi]at Y O;have c6:y ∉ es.map Vi:=Zay N (by rw[G4,hi];rfl);have Q:g.row id c y=.slice none 0 0:=a3 y c6;refine fin w (l.push {key:=a.eval k,val:=.slice none 0 0,born:=clock}) (clock+1) _ (.refl w) ?_ (Z.push rfl) (by rw[Q];rfl) (fun k x f=>?_) ?_ (fun k f h=>f ?_) fun w2 z=>?_
  ·simp only[Vqa,underlying,Vf,run_program,Vc,hu,Vg,hv,a4,b5,Y,Option.map_none,hz];simp only[setObj,Vgb,hh,Q,O,Vhb];rw[Z.1,b8];rfl
  ·rcases Vk.1 f with f|f
   ·exact .inl f
   ·simp only[Option.bind_none,Vhb,Vd,Va]at f;obtain⟨rfl,rfl⟩:=f;exact .inr ⟨rfl,Q⟩
  ·rw[Vda];refine Ve.2 ⟨c4,by simp,fun p hp q hq e=>?_⟩;simp only[Vu,List.map_nil,Vd]at hq;subst hq;exact c6 (e▸hp)
  ·rw[Vda];exact Vk.2 (.inl h)
  ·rw[Array.toList_push]
   refine(U.mono fun kv e hx=>⟨hx.1.mono z (.refl g),hx.2⟩:Fa _ es l.toList).append ⟨⟨a0.mono z (.refl g),Q.symm⟩,trivial⟩
 |some j=>
  rw[hi]at Y O;obtain⟨e,he,d0⟩:=DW _ _ _ _ hi;have L:=(Jv N).1 d0;obtain⟨me,d5,h1,h2⟩:=U.get j e he;have a6:me.key=a.eval k:=Zgy (t:=c) (x:=y) N (L▸h1) a0;rw[<-L]at h2
  have r:(y,e.2)∈es:=by have:=Vsa he;rw[L];exact this
  have X:=(a2.rd y e.2 r (by simp)).one;obtain⟨G,d9,hs⟩:=Zhu (P:=P) (w:=w) (a.eval k);have W:l[j]? =some me:=by grind
  have d1:es.set j (y,(Option.bind (some j) fun j=>(es[j]?).map Vkb).getD [])=es:=by
   simp only[Za,he,Vlb,Vha];apply Vy;intro n;rw[Vza];split
   ·rename_i a9;subst a9;have d3:=(Vv.1 he).1;rw[Zp d3,he,L]
   ·rfl
  simp only;rw[d1];refine fin G (l.modify j fun e=>{e with key:=a.eval k}) clock es hs ?_ (Z.modify fun _=>rfl) X.1 (fun k x f=>.inl f) c4 (fun k f=>f) fun w2 z=>?_
  ·simp only[Vqa,underlying,Vf,run_program,Vc,hu,Vg,hv,a4,b5,Y,Vlb,W,a6,Vha,d9,d5,h2];have d2:G.heap[b]? =some (.map l clock):=by rw[hs.heap];omega
   simp only[setObj,Vgb,d2,O,Vha,Z.2 j me W];rfl
  ·have:(l.modify j fun e=>{e with key:=a.eval k}).toList=l.toList:=by
    apply Vy;intro n;rw[Vaa,Vaa,Array.getElem?_modify];split
    ·rename_i a9;subst a9;rw[W];simp [<-a6]
    ·rfl
   rw[this];exact U.mono fun kv e hx=>⟨hx.1.mono z (.refl g),hx.2⟩
theorem Zqq{T:TypeId}{m s x:Operand}{id u i2:Nat}{ik:IntKind}{n:Int}{p t:Ty}{e:El p×List (El t)}{es:List (El p×List (El t))}{hole:Option (El p)}{ys:List (El t)}{ids l l' :List Nat}(hR:RH B H w g ow)(hF:Fr w g F a.tmps)(ho:o.op=.entryStore T m s x)(a2:p.keyOk=true)
 (b3:ZB F m=.mp id) (b5:ZB F s=.d (.int ik) n) (b7:ZB F x=.vw i2) (hH:H id=some (.mrows p t es u hole)) (b2:u+1<=nid) (he:idx es n=some e) (a8:holeK p hole e.1=true) (h:(Xb t (.vw i2)).run H l=some ((ys,ids),l')):
 Zx B (Zr H (ids.map (fun id=>(id,none))++[(id,some (.mrows p t (ZZ (Zj p) e.1 ys es) nid none))])) w g nid .junk ((execOp a.eval o).run P w):=by
 obtain⟨a9,b,hb,hv⟩:=(b3▸hF.eval m).mp;have W:H id≠none:=by rw[hH];simp
 obtain⟨_,b6,a5,b4,J,Q,b',c,clock,S,hJ,hh,D,r⟩:=hR.objs id _ hH;rw[hb]at S;cases S;have f:=Do a2;have L:=Zcx hR (b7▸hF.eval x) h
 have C:hole=none\/hole=some e.1:=by
  cases hole with
  |none=>simp
  |some j=>exact .inr (by rw[(Jv f).1 a8])
 have X:id ∉ ids:=fun hm=>by
  simp only[Xb]at h;rw[Z1]at h;split at h
  ·rename_i z;simp only[ZC,Zi,Va]at h
   grind
  ·simp [Zb]at h
 have hn:0<=n/\es[n.toNat]? =some e:=by
  unfold idx at he;split at he
  ·exact⟨by assumption,he⟩
  ·cases he
 obtain⟨j,rfl⟩:∃j:Nat,n=(j:Int):=⟨n.toNat,by omega⟩;have q:es[j]? =some e:=by simpa using hn.2
 obtain⟨me,b8,h1,h2⟩:=r.get j e q;have a3:c[j]? =some me:=by grind
 have a0:j<es.length:=(Vv.1 q).1
 have Y:WR (Zj p) e.1 es=some j:=by
  cases hi:WR (Zj p) e.1 es with
  |none=>exact absurd (Vo.2 ⟨e,Vsa q,rfl⟩) (Zay f (by rw[G4,hi];rfl))
  |some i=>
   obtain⟨e',U,a7⟩:=DW _ _ _ _ hi;have b0:=(Jv f).1 a7;have G:(es.map Vi)[i]? =some e.1:=by rw[Vz,U,b0];rfl
   have z:(es.map Vi)[j]? =some e.1:=by rw[Vz,q];rfl
   have:=(Vab (by rw[Vmb];have:=(Vv.1 U).1;omega) J).1 (G.trans z.symm);rw[this]
 have Z:a.eval s=.int ik (j:Int):=(b5▸hF.eval s).int
 have A:c.findIdx? (fun e=>(e.born:Int) == (j:Int))=some j:=by
  rw[Array.findIdx?_eq_some_iff_getElem]
  have a1:j<c.size:=by have:=(Vga.1 a3).1;exact this
  refine⟨a1,?_,fun i hi=>?_⟩
  ·rw[D.2 j c[j] (Vp a1)];simp
  ·rw[D.2 i c[i] (Vp (by omega))];simp;omega
 have V:(getObj b).run P w=.ok (.map c clock) w:=by simp only[getObj,Vgb,hh]
 have K:∀k,k≠e.1->Yl g id p e.1 (a.eval x) p k=g.row id p k:=fun k hk=>Zhs f k hk;have M:Yl g id p e.1 (a.eval x) p e.1=a.eval x:=Zhr f;refine Zk1 (w1:=w) (es' :=c.modify j fun e=>{e with val:=a.eval x}) (c' :=clock) hR f a9 W b6 a5 b2 b4 J Q hb hJ hh C X L (.refl w) ?_ (D.modify fun _=>rfl) fun w2 R=>?_
 ·have a4:(Vib T (a.eval m) (a.eval s) (a.eval x)).run P w=.ok () {w with heap:=w.heap.setIfInBounds b (.map (c.modify j fun e=>{e with val:=a.eval x}) clock)} :=by simp only[Vib,hv,Z,Vf,V,Vc,asInt,asIntOf,Vg,A];simp only[setObj,Vgb,hh]
  simp only[execOp,ho,Vf,a4,Vc,Vg]
 ·rw[DX,Y]
  have:(c.modify j fun e=>{e with val:=a.eval x}).toList=c.toList.set j {me with val:=a.eval x} :=by
   apply Vy
   grind
  rw[this];refine ZaO (by simp [r.length]) fun n kv en N O=>?_;rw[Vza]at N O;split at N
  ·rename_i y;have b1:j<c.toList.length:=by have:=r.length;omega
   rw[Zp y,Zp b1]at O;have a6:some (e.1,ys)=some kv:=by simpa [a0] using N
   cases a6;cases O;exact⟨h1.mono R (.refl g),M.symm⟩
  ·rename_i y;rw[Zf y]at O;have:=ZdK r N O;refine⟨this.1.mono R (.refl g),?_⟩;rw[K kv.1 fun e4=>y ?_]
   ·exact this.2
   ·have G:(es.map Vi)[j]? =some e.1:=by rw[Vz,q];rfl
    have z:(es.map Vi)[n]? =some e.1:=by rw[Vz,N];simp [e4]
    exact(Vab (by rw[Vmb];exact a0) J).1 (G.trans z.symm)
end ops
end Tr
end
section
namespace Tr
open Go
def Zau(P:Program)(B:Kd)(H' :AH)(w:World)(g:Gh)(nid n:Nat)(v:AV)(o:Oper)(a:Act):Prop:=
 ∀(next:Act->World->Prop) (Q:Exit->Act->World->Prop),
  (∀val w' b c,RH B H' w' b c->g.Le b->Kj g.I w w' ->VR w' b v val->(∀id,b.K id->g.K id\/(nid<=id/\id<nid+n))->next (a.put o.dst val) w')->o.wp P a w next Q
section ops
variable {P:Program}{E:Km}{B:Kd}{H:AH}{w:World}{g:Gh}{ow:Nat->Nat->Prop}{nid:Nat}{a:Act}{F:Nat->AV}{v:AV}{patch:KB}{rd:List Nat}{o:Oper}
theorem Zau.of_did{H' :AH}{n:Nat}(p:Ws<=n)(h:Zx B H' w g nid v ((execOp a.eval o).run P w)):Zau P B H' w g nid n v o a:=by
 intro next Q m
 obtain⟨val,w',e,d,b,f,i,j,k,l⟩:=h;have:=m val w' e d f i j k fun id c=>(l id c).imp (fun h=>h) fun h=>⟨h.1,by omega⟩;unfold Oper.wp;rcases b with b|⟨b,rfl⟩
 ·rw[b];exact this
 ·rw[b];exact this
structure Ze9 (P:Program) (B:Kd) (n:Nat) (f:FuncId) (h:Nat->Zq->Zw (AV×KB)):Prop where
 fn:∃fn,P.funcs[f]? =some fn∧fn.body.isNone=false∧(fn.name== "runtime.NumGoroutine")=false
 run:∀{H:AH}{w:World}{g:Gh}{ow:Nat->Nat->Prop}{nid:Nat}{avs:Zq}{vals:List Value}{v:AV}{patch:KB}{rd:List Nat},RH B H w g ow->(∀id,g.K id->id<nid\/nid+n<=id)->WM w g avs vals->(h nid avs).run H []=some ((v,patch),rd)->
  Calls P f vals.toArray w fun e w' =>∃rv g' ow',e=.returned rv/\RH B (Zr H patch) w' g' ow' /\g.Le g' /\Kj g.I w w' /\VR w' g' v rv/\ ∀id,g'.K id->g.K id\/(nid<=id/\id<nid+n)
theorem ZhC(E:Km):Ws<=E.stp:=by unfold Km.stp Ws;omega
structure YZ (P:Program) (E:Km) (B:Kd):Prop where
 ok:∀f,∀S∈E.specs f,ZX P f S
 amb:B.pl=false->HX P B.w0 B.own0
 pl:B.pl=true->∀f,∀S∈E.specs f,S.pl=true
 inl:∀f h,E.inl f=some h->Ze9 P B E.stp f h
theorem ZaT{fns:List FuncId} :∀{l:List Spec}{S:Spec},S∈D8 fns l->S∈l/\S.fns=fns
 |[],_,h=>by simp [D8]at h
 |T::l,S,h=>by
  simp only[D8]at h
  cases b:T.fns==fns with
  |true=>
   rw[b]at h;simp only[Zc]at h;rcases Vm.1 h with rfl|h
   ·exact⟨by simp,by simpa using b⟩
   ·exact⟨Vba _ (ZaT h).1,(ZaT h).2⟩
  |false=>rw[b]at h;simp only[Ze]at h;exact⟨Vba _ (ZaT h).1,(ZaT h).2⟩
theorem ZiJ:∀(xs:List Operand),Fr w g F a.tmps->Zcv (xs.map (ZB F))=true->WM w g (Zq.ofList (xs.map (ZB F))) (xs.map a.eval)
 |[],_,_=>rfl
 |x::l,c,h=>by
  have b:(∀m,ZB F x≠ .tup m)/\Zcv (l.map (ZB F))=true:=by
   simp only[Vu]at h
   cases d:ZB F x<;>rw[d]at h<;>simp [Zcv]at h<;>exact⟨by simp,by simpa using h⟩
  exact⟨a.eval x,l.map a.eval,rfl,(c.eval x).to1 b.1,ZiJ l c b.2⟩
theorem Zie:∀{l m:Zq}{vs us:List Value},WM w g l vs->WM w g m us->WM w g (l.app m) (vs++us)
 |.nil,_,_,_,h,b=>by simp only[WM]at h;subst h;exact b
 |.cons _ _,_,_,_,h,b=>by obtain⟨v,r,rfl,c,d⟩:=h;exact⟨v,r++_,rfl,c,Zie d b⟩
theorem ZeA{f:FuncId}{S:Spec}(e:ZX P f S)(args:Array Value)(w:World):(callFunc f args).run P w=.ok (.enter f args) w:=by obtain⟨fn,b,c,d⟩:=e.fn;simp only[callFunc,Vf,run_program,Vc,b,d,c,if_false,Vfa,Vg]
theorem ZoN{c:Call}{y:Operand}(p:YZ P E B)(N:RH B H w g ow)(hF:Fr w g F a.tmps)(U:∀id,g.K id->id<nid\/nid+Ws<=id)(A:o.op=.call c)(z:c.callee=.value y)
 (h:(ZQ E nid o.op o.type (ZB F)).run H []=some ((v,patch),rd)):Zau P B (Zr H patch) w g nid E.stp v o a:=by
 rw[A]at h;simp only[ZQ,z]at h;split at h
 ·rename_i f b R;simp only[ZL,Zb,ZR,false_or,Bool.not_eq_false',Vb]at h;obtain⟨⟨j,t⟩,h⟩:=h;have d:=hF.eval y;rw[R]at d;obtain⟨x,d,r⟩:=d.fn;have W:=Zie (ZiJ c.args.toList hF t) (Zja b x j r);have n:∀S∈D8 (Zb6 ((Zq.ofList (c.args.toList.map (ZB F))).app b)) (E.specs f),ZX P f S/\(B.pl=true->S.pl=true):=fun S h=>⟨p.ok f S (ZaT h).1,fun O=>p.pl O f S (ZaT h).1⟩
  obtain⟨S,q⟩:∃S,ZX P f S:=by
   cases k:D8 (Zb6 ((Zq.ofList (c.args.toList.map (ZB F))).app b)) (E.specs f) with
   |nil=>rw[k]at h;simp [ZaG,Zb]at h
   |cons S l=>exact⟨S,(n S (by rw[k];simp)).1⟩
  have i:=Zi5 p.amb N U W _ n h
  intro next Q V
  unfold Oper.wp
  have m:(execOp a.eval o).run P w=.ok (.enter f (c.args.toList.map a.eval++x).toArray) w:=by simp only[execOp,A,resolve,z,Deferred.ofValue,d,Vf,Vg,Vc,invoke];rw[ZeA q];congr 2;rw[<-Vdb];simp
  rw[m,Oper.upon_enter];refine i.mono ?_;rintro e w' ⟨X,C,u,rfl,D,G,J,L,M⟩;exact V X w' C u D G J L fun id s=>(M id s).imp (fun h=>h) fun h=>⟨h.1,by have:=ZhC E;omega⟩
 ·simp [Zb]at h
theorem Zog(p:Z9 P E)(C:YZ P E B)(e:RH B H w g ow)(hF:Fr w g F a.tmps)(u:∀id,g.K id->id<nid\/nid+Ws<=id)
 (h:(ZQ E nid o.op o.type (ZB F)).run H []=some ((v,patch),rd)):Zau P B (Zr H patch) w g nid E.stp v o a:=by
 have j:=ZhC E
 cases d:o.op with
 |move x=>exact .of_did j (ZiH e hF (.inl d) h)
 |assign x=>exact .of_did j (ZiH e hF (.inr d) h)
 |pick c x y=>exact .of_did j (ZoH e hF d h)
 |alloc T=>exact .of_did j (Zoh p e u d h)
 |box T x=>exact .of_did j (Zok e hF u d h)
 |build T G=>exact .of_did j (Zol p e hF d h)
 |buildSlice T n G=>exact .of_did j (Zom p e hF u d h)
 |load T x=>exact .of_did j (ZiG p e hF d h)
 |store T x y=>exact .of_did j (ZoL p e hF d h)
 |nilCheck x=>exact .of_did j (ZoF e hF d h)
 |binOp op T x y J=>exact .of_did j (Zoj p e hF d h)
 |unOp op T x=>exact .of_did j (ZoM e hF d h)
 |convert S T x=>exact .of_did j (Zop p e hF d h)
 |makeFunc fn first z=>
  cases fn with
  |func f=>exact .of_did j (Zoy e hF d h)
  |_=>rw[d]at h;simp [ZQ,Zb]at h
 |makeMap T r=>exact .of_did j (Zoz p e hF u d h)
 |makeSlice T l c=>exact .of_did j (ZoA p e hF u d h)
 |slice T x L A D=>
  cases D with
  |none=>exact .of_did j (ZoJ p e hF d h)
  |some m=>cases A with
   |none=>rw[d]at h;simp [ZQ,Zb]at h
   |some A=>exact .of_did j (ZoK p e hF d h)
 |fieldAddr T x f=>exact .of_did j (ZiF p e hF d h)
 |field T x f=>exact .of_did j (Zot p e hF d h)
 |indexAddr T x i=>exact .of_did j (Zov p e hF d h)
 |index T x i=>exact .of_did j (Zou p e hF d h)
 |lookup T m k ok=>exact .of_did j (Zox p e hF d h)
 |mapUpdate T m k x=>exact .of_did j (ZoB p e hF d h)
 |range T x=>exact .of_did j (ZoI p e hF u d h)
 |next it s=>
  cases s with
  |false=>exact .of_did j (ZoE e hF d h)
  |true=>rw[d]at h;simp [ZQ,Zb]at h
 |entry it=>exact .of_did j (Zor e hF d h)
 |extract t i=>exact .of_did j (Zos e hF d h)
 |call c=>
  cases q:c.callee with
  |value f=>exact ZoN C e hF u d q h
  |invoke r m=>rw[d]at h;simp [ZQ,q,Zb]at h
  |builtin b=>
   cases b with
   |len=>exact .of_did j (Zow p e hF d q h)
   |min=>exact .of_did j (ZoD e hF d q h)
   |max=>exact .of_did j (ZoC e hF d q h)
   |append=>exact .of_did j (Zoi p e hF u d q h)
   |copy=>exact .of_did j (Zoq p e hF d q h)
   |cap=>exact .of_did j (Zon p e hF d q h)
   |_=>rw[d]at h;simp [ZQ,q,Zb]at h
 |_=>rw[d]at h;simp [ZQ,Zb]at h
theorem Zto{α:Type}{H:AH} :∀(a:Zw α) (l:List Nat) {r:α}{c:List Nat},a.run H l=some (r,c)->∃m,a.run H []=some (r,m):=by
 intro a
 induction a with
 |ret a=>intro l r c h;simp only[Zw.run,Option.some.injEq,Va]at h;exact⟨[],by simp [Zw.run,h.1]⟩
 |fail=>intro l r c h;simp [Zw.run]at h
 |getH id k d=>
  intro l r c h;simp only[Zw.run]at h⊢
  have key:∀(a:Zw α) (f e:List Nat) {r:α}{c:List Nat},a.run H f=some (r,c)->∃m,a.run H e=some (r,m):=by
   intro a
   induction a with
   |ret a=>intro f e r c h;simp only[Zw.run,Option.some.injEq,Va]at h;exact⟨e,by simp [Zw.run,h.1]⟩
   |fail=>intro f e r c h;simp [Zw.run]at h
   |getH id k d=>intro f e r c h;simp only[Zw.run]at h⊢;exact d _ _ _ h
   |opt o k d=>intro f e r c h;cases o with
    |none=>simp [Zw.run]at h
    |some b=>simp only[Zw.run,Za]at h⊢;exact d _ _ _ h
   |bool b k d=>intro f e r c h;simp only[Zw.run]at h⊢;exact d _ _ _ h
  exact key _ _ _ h
 |opt o k d=>
  intro l r c h
  cases o with
  |none=>simp [Zw.run]at h
  |some b=>simp only[Zw.run,Za]at h⊢;exact d _ _ h
 |bool b k d=>intro l r c h;simp only[Zw.run]at h⊢;exact d _ _ h
theorem ZoG(C:Z9 P E)(hS:YZ P E B)(z:RH B H w g ow)(hF:Fr w g F a.tmps)(hk:∀id,g.K id->id<nid\/nid+E.stp<=id)
 (h:(W0 E nid o.op o.type (ZB F)).run H []=some ((v,patch),rd)):Zau P B (Zr H patch) w g nid E.stp v o a:=by
 have q:=ZhC E;have a1:∀id,g.K id->id<nid\/nid+Ws<=id:=fun id a0=>(hk id a0).imp (fun h=>h) fun h=>by omega
 have i:∀{l:List Nat},(ZQ E nid o.op o.type (ZB F)).run H l=some ((v,patch),rd)->Zau P B (Zr H patch) w g nid E.stp v o a:=fun h=>by obtain⟨m,J⟩:=Zto _ _ h;exact Zog C hS z hF a1 J
 cases j:o.op with
 |call c=>
  cases N:c.callee with
  |value fo=>
   rw[j]at h i
   simp only[W0,N]at h;exact i h
  |invoke r m=>rw[j]at h i;simp only[W0,N]at h;exact i h
  |builtin b=>
   rw[j]at h i
   cases b with
   |clear=>
    simp only[W0,N]at h;split at h
    ·rename_i x t G a6;obtain⟨T0,h0,a5⟩:=Vja.1 a6;split at h
     ·rename_i id lo n L;rw[Z1]at h;split at h
      ·rename_i t' xs D;simp only[ZL,ZC,Zi,Zb,ZR,Z3,Ks,Va,Vb]at h;obtain⟨⟨rfl,hd⟩,u,hg,⟨rfl,rfl⟩,_⟩:=h;exact .of_did q (ZpK C z hF j N G h0 a5 L D hd (X8 (Ht hg)))
      ·simp [Zb]at h
     ·simp [Zb]at h
    ·simp [Zb]at h
   |_=>simp only[W0,N]at h;exact i h
 |makeFunc fn first a9=>
  rw[j]at h i;simp only[W0,ZL,Zi,Va]at h;rcases h with ⟨_,h⟩|⟨_,⟨rfl,rfl⟩,_⟩
  ·exact i h
  ·have U:∃val,(execOp a.eval o).run P w=.ok (.value val) w:=by simp only[execOp,j];exact⟨_,rfl⟩
   obtain⟨val,U⟩:=U
   exact .of_did q (Zx.pure z U DO)
 |mapEntry T m k=>
  rw[j]at h i;simp only[W0]at h;rw[ZC]at h;obtain⟨mt,O,h⟩:=h;split at h
  ·rename_i id kt x J a2;rw[Z1]at h;split at h
   ·rename_i a8 t es u D;simp only[ZL,ZC,Zi,Zb,ZR,Z3,Vb,Ks,Va]at h;obtain⟨⟨⟨A,M⟩,W⟩,y,V,⟨rfl,rfl⟩,_⟩:=h;obtain⟨rfl,rfl⟩:=KR V;exact .of_did q (ZrQ C z hF j O M W A J a2 D)
   ·simp [Zb]at h
  ·simp [Zb]at h
 |entryStore T m s x=>
  rw[j]at h i;simp only[W0]at h;rw[ZC]at h;obtain⟨mt,O,h⟩:=h;split at h
  ·rename_i id ik n i2 J a4 a7;rw[Z1]at h;split at h
   ·rename_i a8 t es u b0 D;simp only[ZL,ZC,Z4,Zi,Zb,ZR,Z3,Vb,Ks,Va]at h;obtain⟨⟨⟨⟨A,M⟩,W⟩,a3⟩,e,he,_,Z,⟨ys,ids⟩,m2,Q,⟨rfl,rfl⟩,_⟩:=h;exact .of_did q (Zqq z hF j A J a4 a7 D (Vpa a3) he (Ht Z) Q)
   ·simp [Zb]at h
  ·simp [Zb]at h
 |nilCheck x=>
  rw[j]at h i;simp only[W0]at h;rw[ZL]at h;rcases h with ⟨R,h⟩|⟨_,h⟩
  ·rw[Z4]at h;obtain⟨u,m,M,h⟩:=h;simp only[Zi,Va]at h;obtain⟨⟨rfl,rfl⟩,_⟩:=h;exact .of_did q (ZsI z hF j M)
  ·exact i h
 |fieldAddr T x f=>
  rw[j]at h i;simp only[W0]at h;rw[ZL]at h;rcases h with ⟨R,h⟩|⟨_,h⟩
  ·exact .of_did q (ZsF C z hF j R h)
  ·exact i h
 |load T x=>
  rw[j]at h i;simp only[W0]at h;rw[ZL]at h;rcases h with ⟨R,h⟩|⟨_,h⟩
  ·exact .of_did q (ZsG C z hF j R h)
  exact i h
 |store T x y=>
  rw[j]at h i;simp only[W0]at h;rw[ZL]at h;rcases h with ⟨R,h⟩|⟨_,h⟩
  ·rw[ZC]at h;obtain⟨t,ht,h⟩:=h;rw[Z4]at h;obtain⟨⟨d,ids⟩,m,M,h⟩:=h;split at h
   ·rename_i id p L;rw[ZL]at h;rcases h with ⟨_,h⟩|⟨J,h⟩
    ·simp [Zb]at h
    rw[Z1]at h;split at h
    ·rename_i t0 c D;rw[Z4]at h;obtain⟨c',m',W,h⟩:=h;simp only[Zi,Va]at h;obtain⟨⟨rfl,rfl⟩,_⟩:=h;exact .of_did q (ZsJ C z hF j ht L M J D W)
    ·simp [Zb]at h
   ·simp [Zb]at h
  exact i h
 |binOp b T x y T' =>
  rw[j]at h i;simp only[W0]at h;split at h
  ·rename_i t d L V;rw[ZC]at h;obtain⟨r,U,h⟩:=h;rw[ZL]at h;rcases h with ⟨X,h⟩|⟨_,h⟩
   ·have S:=ZsH (nid:=nid) C z hF j L V U (beq_iff_eq.1 X);split at h
    ·simp only[Zi,Va]at h;obtain⟨⟨rfl,rfl⟩,_⟩:=h;exact .of_did q (S.1 rfl)
    ·simp only[Zi,Va]at h;obtain⟨⟨rfl,rfl⟩,_⟩:=h;exact .of_did q (S.2 rfl)
    ·simp [Zb]at h
   ·simp [Zb]at h
  ·rename_i t d t' d' L V;rw[ZL]at h;rcases h with ⟨X,h⟩|⟨_,h⟩
   ·simp only[Vb,Ks]at X;obtain⟨⟨ht,rfl⟩,Y⟩:=X
    have Y:t'.size≠0:=by intro e;rw[e]at Y;simp at Y
    have S:=Zsv (nid:=nid) C z hF j L V ht Y;split at h
    ·simp only[Zi,Va]at h;obtain⟨⟨rfl,rfl⟩,_⟩:=h;exact .of_did q (S.1 rfl)
    ·simp only[Zi,Va]at h;obtain⟨⟨rfl,rfl⟩,_⟩:=h;exact .of_did q (S.2 rfl)
    ·simp [Zb]at h
   ·simp [Zb]at h
  ·exact i h
 |_=>rw[j]at h i;exact i h
end ops
end Tr
end
section
namespace Tr
open Go
section congr
variable {E:Km}{nid:Nat}{T:TypeId}{ev ev' :Operand->AV}
theorem Zdp{o:Option Operand}(h:∀x∈o,ev x=ev' x):GB ev o=GB ev' o:=by
 cases o with
 |none=>rfl
 |some x=>simp [GB,h x (by simp)]
theorem ZfC{o:Option Operand}(h:∀x∈o,ev x=ev' x):(o.bind fun o=>Wj (ev o))=o.bind fun o=>Wj (ev' o):=by
 cases o with
 |none=>rfl
 |some x=>grind
theorem Zof(op:Op)(h:∀x∈op.operands,ev x=ev' x):ZQ E nid op T ev=ZQ E nid op T ev' :=by
 have z:∀e:Array (Nat×Operand),(∀x∈e.toList.map (·.2),ev x=ev' x)->(e.toList.map fun p=>(p.1,ev p.2))=(e.toList.map fun p=>(p.1,ev' p.2)):=fun e O=>
  List.map_congr_left (by grind)
 have lists:∀xs:List Operand,(∀x∈xs,ev x=ev' x)->xs.map ev=xs.map ev' :=by simp
 cases op<;>simp only[Op.operands]at h<;>simp only[ZQ]
 case move x=>grind
 case assign x=>grind
 case pick c x y=>grind
 case box T x=>grind
 case build T e=>grind
 case buildSlice T n e=>grind
 case load T x=>grind
 case store T x y=>simp_all
 case nilCheck x=>grind
 case binOp op T x y M=>grind
 case unOp op T x=>grind
 case convert S T x=>grind
 case makeFunc fn first A=>
  cases fn<;>simp only
  grind
 case makeMap T r=>
  grind
 case makeSlice T l c=>grind
 case slice T x C d L=>
  cases L with
  |some m=>
   cases d with
   |none=>rfl
   |some d=>
    have j:∀y∈C,ev y=ev' y:=by simp_all
    have q:ev d=ev' d:=by grind
    have D:ev m=ev' m:=h m (by simp);have G:GB ev (some d)=GB ev' (some d):=Zdp (by grind);simp only
    rw[h x (by simp),Zdp j,G,ZfC j,q,D]
  |none=>
   simp only;have j:∀y∈C,ev y=ev' y:=by simp_all
   have q:∀y∈d,ev y=ev' y:=by simp_all
   rw[h x (by simp),Zdp j,Zdp q,ZfC j,ZfC q]
 case fieldAddr T x f=>grind
 case field T x f=>grind
 case indexAddr T x i=>grind
 case index T x i=>grind
 case lookup T m k ok=>grind
 case mapUpdate T m k x=>grind
 case range T x=>grind
 case next it s=>cases s<;>simp only;grind
 case entry it=>grind
 case extract t i=>grind
 case call c=>
  have u:∀x∈c.args.toList,ev x=ev' x:=fun x K=>h x (by simp [Call.operands,Vca.1 K])
  cases J:c.callee with
  |value f=>
   have N:ev f=ev' f:=h f (by simp [Call.operands,J])
   grind
  |invoke r m=>rfl
  |builtin b=>
   cases b<;>simp only
   all_goals grind
theorem Zoo(op:Op)(h:∀x∈op.operands,ev x=ev' x):W0 E nid op T ev=W0 E nid op T ev' :=by
 have e:=Zof (E:=E) (nid:=nid) (T:=T) op h;have lists:∀xs:List Operand,(∀x∈xs,ev x=ev' x)->xs.map ev=xs.map ev' :=by simp
 cases op
 all_goals simp only[Op.operands]at h
 all_goals simp only[W0,e]
 case load T x=>rw[h x (by simp)]
 case nilCheck x=>rw[h x (by simp)]
 case mapEntry T m k=>rw[h m (by simp),h k (by simp)]
 case entryStore T m s x=>rw[h m (by simp),h s (by simp),h x (by simp)]
 case fieldAddr T x f=>rw[h x (by simp)]
 case store T x y=>rw[h x (by simp),h y (by simp)]
 case binOp op T x y p=>rw[h x (by simp),h y (by simp)]
 case call c=>
  have d:∀x∈c.args.toList,ev x=ev' x:=fun x n=>h x (by simp [Call.operands,Vca.1 n])
  cases q:c.callee with
  |value f=>rfl
  |invoke r m=>rfl
  |builtin b=>
   cases b<;>simp only
   case clear=>
    rcases j:c.args.toList with _|⟨x,_|⟨y,l⟩⟩
    ·rfl
    ·have i:=d x (by simp [j])
     cases (c.argTypes[0]?).bind E.ty with
     |none=>rfl
     |some t=>cases t<;>first|rfl|(simp only[i])
    ·rfl
   all_goals grind
end congr
theorem ZkT{t:Nat} :∀{l:List Operand},t∈Zal l↔.tmp t∈l
 |[]=>by simp [Zal]
 |x::l=>by cases x<;>simp [Zal,ZkT]
theorem Zn2{F b:Nat->AV}{l:List Operand}(h:∀t∈Zal l,F t=b t):∀x∈l,ZB F x=ZB b x:=by
 intro x c
 cases x with
 |tmp t=>exact h t (ZkT.2 c)
 |_=>rfl
def YO(ops:Array Oper)(o:Oper)(F:Nat->AV):Option Bool:=
 match o.guard with
 |none=>some true
 |some (j,want)=>match (ops[j]?).bind (·.dst) with
  |none=>none
  |some g=>match F g with
   |.d .bool b=>some (b==want)
   |.tup .nil=>some false
   |_=>none
def Xo(E:Km)(ops:Array Oper)(base:Nat)(fz:List Nat)(i:Nat)(o:Oper)(F:Nat->AV)(H:AH):Option ((Nat->AV) ×AH×Option We):=
 match YO ops o F with
 |none=>none
 |some false=>if YL E o.dst=true then some (WU F o.dst Zbq,H,none) else none
 |some true=>if YL E o.dst=true then((W0 E (base+i*E.stp) o.op o.type (ZB F)).run H []).bind fun r=>
   if J7 (r.1.2.map Vi) fz=true then some (WU F o.dst r.1.1,Zr H r.1.2,some ⟨i,r.2,r.1.2.map Vi⟩) else none else none
theorem Zm0{F:Nat->AV}{g:Nat}{v:AV}(h:F g=v):XL F g v=F:=by
 funext k;unfold XL
 cases b:Vq k g with
 |true=>simp_all
 |false=>rfl
section
variable {E:Km}{ops:Array Oper}{base:Nat}{fz:List Nat}
theorem ZoO{ρ:Type}{o:Oper}{i:Nat}{rest:List (Oper×Nat)}{F:Nat->AV}{H:AH}{l:List We}{k:(Nat->AV)->AH->List We->Option ρ}{r:ρ}(h:YD E ops base fz ρ ((o,i)::rest) F H l k=some r):
 ∃d H1 t,Xo E ops base fz i o F H=some (d,H1,t)/\YD E ops base fz ρ rest d H1 (t.toList++l) k=some r:=by
 have go:YO ops o F=some true->(bif YL E o.dst then
  (W0 E (base+i*E.stp) o.op o.type (ZB F)).runK H [] fun r rd=>
    bif J7 (r.2.map Vi) fz then
     YD E ops base fz ρ rest (WU F o.dst r.1) (Zr H r.2) (⟨i,rd,r.2.map Vi⟩::l) k else none else none)=some r->
  ∃d H1 t,Xo E ops base fz i o F H=some (d,H1,t)/\YD E ops base fz ρ rest d H1 (t.toList++l) k=some r:=by
  intro n h
  cases m:YL E o.dst with
  |false=>grind
  |true=>
   rw[m]at h;simp only[Zc,Zw.runK_eq]at h
   cases q:(W0 E (base+i*E.stp) o.op o.type (ZB F)).run H [] with
   |none=>grind
   |some y=>
    rw[q]at h;simp only[Za]at h
    cases p:J7 (y.1.2.map Vi) fz with
    |false=>grind
    |true=>
     rw[p]at h;exact⟨WU F o.dst y.1.1,Zr H y.1.2,some ⟨i,y.2,y.1.2.map Vi⟩,by simp [Xo,n,m,q,p],by grind⟩
 have skip:YO ops o F=some false->(bif YL E o.dst then YD E ops base fz ρ rest (WU F o.dst Zbq) H l k else none)=some r->
  ∃d H1 t,Xo E ops base fz i o F H=some (d,H1,t)/\YD E ops base fz ρ rest d H1 (t.toList++l) k=some r:=by
  intro n h
  cases m:YL E o.dst with
  |false=>grind
  |true=>
   rw[m]at h;exact⟨WU F o.dst Zbq,H,none,by simp [Xo,n,m],by grind⟩
 simp only[YD]at h
 cases f:o.guard with
 |none=>
  rw[f]at h
  exact go (by simp [YO,f]) h
 |some s=>
  obtain⟨j,want⟩:=s;rw[f]at h;simp only at h;split at h
  ·grind
  ·rename_i g c;split at h
   ·rename_i b e
    cases b with
    |true=>
     rw[Zm0 e]at h;simp only[Zc]at h
     cases want with
     |true=>exact go (by simp [YO,f,c,e]) h
     |false=>exact skip (by simp [YO,f,c,e]) h
    |false=>
     rw[Zm0 e]at h;simp only[Ze]at h
     cases want with
     |true=>exact skip (by simp [YO,f,c,e]) h
     |false=>exact go (by simp [YO,f,c,e]) h
   ·rename_i e;exact skip (by simp [YO,f,c,e]) h
   grind
inductive AE (E:Km) (ops:Array Oper) (base:Nat) (fz:List Nat):List (Oper×Nat)->(Nat->AV)->AH->List We->(Nat->AV)->AH->List We->Prop
 |nil {F H tr} :AE E ops base fz [] F H tr F H tr
 |cons {o i rest F H tr F1 H1 t F' H' tr'} (h:Xo E ops base fz i o F H=some (F1,H1,t)) (h' :AE E ops base fz rest F1 H1 (t.toList++tr) F' H' tr'):AE E ops base fz ((o,i)::rest) F H tr F' H' tr'
theorem Zdl{ρ:Type} :∀{l:List (Oper×Nat)}{F:Nat->AV}{H:AH}{c:List We}{k:(Nat->AV)->AH->List We->Option ρ}{r:ρ},YD E ops base fz ρ l F H c k=some r->∃d H' b,AE E ops base fz l F H c d H' b/\k d H' b=some r
 |[],F,H,c,k,r,h=>⟨F,H,c,.nil,by assumption⟩
 |(o,i)::rest,F,H,c,k,r,h=>by obtain⟨n,H1,t,e,f⟩:=ZoO h;obtain⟨d,H',b,j,m⟩:=Zdl f;exact⟨d,H',b,.cons e j,m⟩
inductive YS (E:Km) (ops:Array Oper) (base:Nat) (fz:List Nat) (T:Nat->Option We):List Nat->(Nat->AV)->AH->(Nat->AV)->AH->Prop
 |nil {F H} :YS E ops base fz T [] F H F H
 |cons {o i rest F H F1 H1 F' H'} (ho:ops[i]? =some o) (h:Xo E ops base fz i o F H=some (F1,H1,T i)) (h' :YS E ops base fz T rest F1 H1 F' H'):YS E ops base fz T (i::rest) F H F' H'
theorem ZfD{i:Nat}{o:Oper}{F b:Nat->AV}{H H1:AH}{t:We}(h:Xo E ops base fz i o F H=some (b,H1,some t)):t.i=i:=by
 unfold Xo at h;split at h
 ·grind
 ·grind
 ·split at h
  ·cases c:(W0 E (base+i*E.stp) o.op o.type (ZB F)).run H [] with
   |none=>grind
   |some y=>
    grind
  grind
theorem ZmQ{i:Nat}{t:Option We}{b:List We}(h:∀u∈t,u.i≠i):X0 i (t.toList++b)=X0 i b:=by
 cases t with
 |none=>rfl
 |some u=>
  have:Vq u.i i=false:=by
   cases c:Vq u.i i
   all_goals simp_all
  simp [X0,this]
theorem AE.other:∀{l:List (Oper×Nat)}{F:Nat->AV}{H:AH}{c:List We}{d:Nat->AV}{H' :AH}{b:List We},AE E ops base fz l F H c d H' b->∀i,(∀p∈l,p.2≠i)->X0 i b=X0 i c:=by
 intro l F H c d H' b h
 induction h with
 |nil=>simp
 |cons h j f=>
  intro i k;rw[f i (by grind)];refine ZmQ fun u e=>?_;simp only[Vpb]at e;subst e;rw[ZfD h]
  simp_all
theorem AE.ex:∀{l:List (Oper×Nat)}{F:Nat->AV}{H:AH}{d:List We}{c:Nat->AV}{H' :AH}{b:List We},AE E ops base fz l F H d c H' b->(l.map Vkb).Nodup->(∀p∈l,ops[p.2]? =some p.1)->(∀p∈l,X0 p.2 d=none)->
 YS E ops base fz (fun i=>X0 i b) (l.map Vkb) F H c H' :=by
 intro l F H d c H' b h
 induction h with
 |nil=>intros;exact .nil
 | @cons o i rest F H d q H1 t c H' b h j n=>
   intro e k s;simp only[Vu,Vn]at e
   have m:X0 i b=t:=by
    rw[j.other i (by grind)]
    cases t with
    |none=>simp_all
    |some u=>simp [X0,ZfD h]
   refine .cons (k _ (List.mem_cons_self ..)) (by grind) (n e.2 (by grind) fun p r=>?_);rw[ZmQ fun u f=>?_]
   ·grind
   ·simp only[Vpb]at f;subst f;rw[ZfD h]
    grind
theorem Du{F:Nat->AV}{d:Option Nat}{v:AV}{k:Nat}(h:∀e,d=some e->k≠e):WU F d v k=F k:=by
 cases d with
 |none=>rfl
 |some e=>
  have:Vq k e=false:=by
   cases b:Vq k e
   all_goals simp_all
  simp [WU,XL,this]
theorem ZsK{F:Nat->AV}{d e:Option Nat}{v u:AV}(h:∀x,d=some x->e≠some x):WU (WU F d v) e u=WU (WU F e u) d v:=by
 funext k;by_cases i:∃x,d=some x/\k=x
 ·obtain⟨x,rfl,rfl⟩:=i;have f:∀y,e=some y->k≠y:=by grind
  rw[Du f];simp [WU,XL]
 ·have b:∀x,d=some x->k≠x:=by grind
  rw[Du b];by_cases f:∃y,e=some y/\k=y
  ·obtain⟨y,rfl,rfl⟩:=f;simp [WU,XL]
  ·have c:∀x,e=some x->k≠x:=by grind
   rw[Du c,Du c,Du b]
theorem Zlw:∀{l m:KB}{H:AH},(∀p∈l,∀q∈m,p.1≠q.1)->Zr (Zr H l) m=Zr (Zr H m) l
 |[],m,H,_=>rfl
 |p::l,m,H,h=>by simp only[Zr];rw[Zlw (by grind),Zer (by grind)]
structure Stp (E:Km) (ops:Array Oper) (i:Nat) (o:Oper) (F:Nat->AV) (H:AH) (F1:Nat->AV) (H1:AH) (t:Option We) (v:AV) (pa:KB):Prop where
 dst:YL E o.dst=true
 F:F1=WU F o.dst v
 H:H1=Zr H pa
 wr:∀p∈pa,∃u,t=some u/\p.1∈u.wr
theorem Zdm{i:Nat}{o:Oper}{F s:Nat->AV}{H H1:AH}{t:Option We}(h:Xo E ops base fz i o F H=some (s,H1,t)):
 ∃v pa,Stp E ops i o F H s H1 t v pa/\ ∀b H0,(∀k∈Gn ops o,b k=F k)->(∀u,t=some u->∀id∈u.rd,H0 id=H id)->Xo E ops base fz i o b H0=some (WU b o.dst v,Zr H0 pa,t):=by
 have f:∀b:Nat->AV,(∀k∈Gn ops o,b k=F k)->YO ops o b=YO ops o F:=by
  intro b c;unfold YO
  cases D:o.guard with
  |none=>rfl
  |some L=>
   obtain⟨j,want⟩:=L;simp only
   cases p:(ops[j]?).bind (·.dst) with
   |none=>rfl
   |some g=>simp only;rw[c g (by simp [Gn,D,p])]
 have n:∀b:Nat->AV,(∀k∈Gn ops o,b k=F k)->W0 E (base+i*E.stp) o.op o.type (ZB b)=W0 E (base+i*E.stp) o.op o.type (ZB F):=by intro b c;refine Zoo o.op fun x K=>Zn2 (l:=o.op.operands.toList) (fun t J=>c t (by simp [Gn,J])) x (Vca.2 K)
 unfold Xo at h;split at h
 ·grind
 ·rename_i r;split at h
  ·rename_i d;simp only[Option.some.injEq,Va]at h;obtain⟨rfl,rfl,rfl⟩:=h;exact⟨Zbq,[],⟨d,rfl,rfl,by simp⟩,fun b H0 c _=>by simp [Xo,f b c,r,d,Zr]⟩
  grind
 ·rename_i r;split at h
  ·rename_i d
   cases A:(W0 E (base+i*E.stp) o.op o.type (ZB F)).run H [] with
   |none=>grind
   |some y=>
    obtain⟨⟨v,pa⟩,rd⟩:=y;rw[A]at h;simp only[Za]at h;split at h
    ·rename_i G;simp only[Option.some.injEq,Va]at h;obtain⟨rfl,rfl,rfl⟩:=h;refine⟨v,pa,⟨d,rfl,rfl,by grind⟩,fun b H0 c C=>?_⟩;obtain⟨m,z,e⟩:=Zw.run_local (H' :=H0) _ _ _ _ A;simp only[List.append_nil]at z;have:=e fun id q=>C _ rfl id (by rw[z];exact q);simp [Xo,f b c,r,d,n b c,this,G]
    grind
  grind
def HD(ops:Array Oper)(T:Nat->Option We)(i j:Nat):Prop:=
 ∀a b,ops[i]? =some a->ops[j]? =some b->ZeH ops a b=true/\ ∀u v,T i=some u->T j=some v->J7 u.wr v.rd=true/\J7 u.wr v.wr=true/\J7 v.wr u.rd=true
theorem ZtL{a b:Oper}(h:ZeH ops a b=true):(∀d,a.dst=some d->d ∉ Gn ops b/\b.dst≠some d)/\ ∀d,b.dst=some d->d ∉ Gn ops a:=by
 unfold ZeH at h;simp only[Vb]at h;refine⟨fun d f=>?_,fun d f=>?_⟩
 ·have c:=h.1;rw[f]at c;simp only[Vb,Vx]at c;refine⟨fun i=>?_,fun j=>?_⟩
  ·rw[Jj.2 i]at c;grind
  simp_all
 ·have e:=h.2;rw[f]at e;simp only[Vx]at e;intro i;rw[Jj.2 i]at e;grind
theorem YS.swap{T:Nat->Option We}{i j:Nat}{l:List Nat}{F N:Nat->AV}{H H' :AH}(h:YS E ops base fz T (i::j::l) F H N H')(hi:HD ops T i j):YS E ops base fz T (j::i::l) F H N H' :=by
 cases h with
 | @cons K _ _ _ _ Q H1 _ _ d h1 Z=>
   cases Z with
   | @cons n _ _ _ _ R S _ _ f h2 s=>
     obtain⟨hs,ht⟩:=hi K n d f;obtain⟨a0,a3⟩:=ZtL hs;obtain⟨v1,p1,c,V⟩:=Zdm h1;obtain⟨M,L,r,W⟩:=Zdm h2
     have t:∀k∈Gn ops n,F k=Q k:=fun k hk=>by rw[c.F,Du (by grind)]
     have y:∀u,T j=some u->∀id∈u.rd,H id=H1 id:=fun u hu id b=>by rw[c.H,Zcy fun p m e=>?_];obtain⟨u1,A,D⟩:=c.wr p m;exact D6.1 (by grind) _ D (e▸b)
     have U:=W F H t y;have x:∀k∈Gn ops K,WU F n.dst M k=F k:=fun k hk=>Du (by grind)
     have z:∀u,T i=some u->∀id∈u.rd,Zr H L id=H id:=fun u hu id b=>Zcy fun p m e=>by obtain⟨u2,C,D⟩:=r.wr p m;exact D6.1 (by grind) _ D (e▸b)
     have O:=V (WU F n.dst M) (Zr H L) x z
     have X:WU (WU F n.dst M) K.dst v1=R:=by rw[r.F,c.F,ZsK (by grind)]
     have Y:Zr (Zr H L) p1=S:=by rw[r.H,c.H];refine Zlw fun p m q hq e=>?_;obtain⟨u2,C,J⟩:=r.wr p m;obtain⟨u1,A,G⟩:=c.wr q hq;exact D6.1 (by grind) _ G (e▸J)
     rw[X,Y]at O;exact .cons f U (.cons d O s)
theorem YS.front{T:Nat->Option We}{i:Nat}{l:List Nat}{b:Nat->AV}{H' :AH} :∀{pre:List Nat}{F:Nat->AV}{H:AH},YS E ops base fz T (pre++i::l) F H b H' ->(∀j∈pre,HD ops T j i)->YS E ops base fz T (i::(pre++l)) F H b H'
 |[],_,_,h,_=>h
 |j::pre,F,H,h,f=>by
  cases h with
  |cons e d c=>exact(YS.cons e d (YS.front c (by grind))).swap (by grind)
end
end Tr
end
section
namespace Tr
open Go
theorem Kj.trans{w w1 d:World}{I J:Nat->Prop}(e:Kj I w w1)(f:Kj J w1 d)(h:∀b,I b->J b):Kj I w d:=fun b c=>(f b (h b c)).trans (e b c)
theorem Zg8{a:Act}{d:Option Nat}{v:Value}{t:Nat}(h:∀e,d=some e->t≠e):(a.put d v).tmps.getD t undef=a.tmps.getD t undef:=by
 cases d with
 |none=>rfl
 |some e=>simp [Act.put,Array.getElem?_setIfInBounds_ne (Ne.symm (h e rfl))]
theorem ZsL{a:Act}{d:Nat}{v:Value}(h:d<a.tmps.size):(a.put (some d) v).tmps.getD d undef=v:=by simp [Act.put,h]
theorem Zg9{a:Act}{d:Option Nat}{v:Value} :(a.put d v).tmps.size=a.tmps.size:=by cases d<;>simp [Act.put]
theorem Zg7{a:Act}{d:Option Nat}{v:Value} :(a.put d v).defers=a.defers:=by cases d<;>rfl
theorem Zek{E:Km}{d:Nat}(h:YL E (some d)=true):d<E.nt/\d ∉ E.ks:=by simp only[YL,Vb,Vx]at h;refine⟨by simp_all,fun b=>?_⟩;rw[Jj.2 b]at h;grind
theorem Fr.put{w:World}{g:Gh}{F:Nat->AV}{a:Act}{d:Option Nat}{v:AV}{val:Value}(h:Fr w g F a.tmps)(i:VR w g v val)(c:∀e,d=some e->e<a.tmps.size):Fr w g (WU F d v) (a.put d val).tmps:=by
 intro t;by_cases f:d=some t
 ·subst f;rw[ZsL (c t rfl)];simpa [WU,XL] using i
 ·have b:∀e,d=some e->t≠e:=by grind
  rw[Du b,Zg8 b];exact h t
section
variable {P:Program}{E:Km}{B:Kd}{ops:Array Oper}{base:Nat}{fz:List Nat}
theorem ZhV{w:World}{g:Gh}{F:Nat->AV}{a:Act}{o:Oper}{b:Bool}(hF:Fr w g F a.tmps)(h:YO ops o F=some b):Region.wanted o (yielded ops a.tmps)=b:=by
 unfold YO at h;unfold Region.wanted
 cases m:o.guard with
 |none=>grind
 |some n=>
  obtain⟨j,want⟩:=n;rw[m]at h;simp only at h⊢
  cases c:(ops[j]?).bind (·.dst) with
  |none=>grind
  |some d=>
   rw[c]at h;simp only at h;have e:=hF d;split at h
   ·rename_i x i;rw[i]at e;have e:=e.bool
    have l:a.tmps[d]? =some (.bool x):=by
     cases k:a.tmps[d]? with
     |none=>simp [k,undef]at e
     |some u=>simp_all
    simp only[yielded,c,Za,l]
    simp_all
   ·rename_i i;rw[i]at e;obtain⟨vs,e,f⟩:=e;simp only[WM]at f;subst f
    have l:yielded ops a.tmps j=none:=by
     simp only[yielded,c,Za]
     cases k:a.tmps[d]? with
     |none=>rfl
     |some u=>simp_all
    grind
   grind
theorem Zo0(J:Z9 P E)(G:YZ P E B){i:Nat}{o:Oper}{F q:Nat->AV}{H H1:AH}{t:Option We}{w:World}{g:Gh}{ow:Nat->Nat->Prop}{a:Act}(L:ops[i]? =some o)
 (h:Xo E ops base fz i o F H=some (q,H1,t)) (x:RH B H w g ow) (hF:Fr w g F a.tmps) (c:a.tmps.size=E.nt) (M:∀id,g.K id->id<base+i*E.stp\/base+i*E.stp+E.stp<=id) {K:Act->World->Prop}{Q:Exit->Act->World->Prop}
 (u:∀j w' f d,RH B H1 w' f d->Fr w' f q j.tmps->j.tmps.size=E.nt->j.defers=a.defers->g.Le f->Kj g.I w w' ->(∀id,f.K id->g.K id\/(base+i*E.stp<=id/\id<base+i*E.stp+E.stp))->
   (∀t∈E.ks,j.tmps.getD t undef=a.tmps.getD t undef)->K j w'):wpOp P ops Q i K a w:=by
 unfold wpOp;rw[L];simp only
 have k:∀v,YL E o.dst=true->∀t∈E.ks,(a.put o.dst v).tmps.getD t undef=a.tmps.getD t undef:=fun v b t N=>Zg8 fun e m n=>by rw[m]at b;exact(Zek b).2 (n▸N)
 have l:YL E o.dst=true->∀e,o.dst=some e->e<a.tmps.size:=fun b e m=>by rw[m]at b;rw[c];exact(Zek b).1
 unfold Xo at h;split at h
 ·grind
 ·rename_i p;split at h
  ·rename_i b;simp only[Option.some.injEq,Va]at h;obtain⟨rfl,rfl,rfl⟩:=h;rw[ZhV hF p];simp only[Vfa,if_false];exact u _ w g ow x (hF.put ⟨[],rfl,rfl⟩ (l b)) (Zg9.trans c) Zg7 (.refl g) (fun _ _=>rfl) (by grind) (k _ b)
  grind
 ·rename_i p;split at h
  ·rename_i b
   cases z:(W0 E (base+i*E.stp) o.op o.type (ZB F)).run H [] with
   |none=>grind
   |some y=>
    obtain⟨⟨v,O⟩,rd⟩:=y;rw[z]at h;simp only[Za]at h;split at h
    ·simp only[Option.some.injEq,Va]at h;obtain⟨rfl,rfl,rfl⟩:=h;rw[ZhV hF p];simp only[if_true];refine .inl (ZoG J G x hF M z _ _ fun val w' f d A r s C D=>?_);exact u _ w' f d A ((hF.mono s r).put C (l b)) (Zg9.trans c) Zg7 r s D (k _ b)
    grind
  grind
theorem Zs8{b s i j id:Nat}(c:j≠i)(d:b+j*s<=id)(e:id<b+j*s+s):id<b+i*s\/b+i*s+s<=id:=by
 rcases Nat.lt_or_ge j i with h|h
 ·left;have:=Vt s (show j+1<=i from h);rw[Vka]at this;omega
 ·right;have:=Vt s (show i+1<=j by omega);rw[Vka]at this;omega
theorem Zho{b s n j id:Nat}(h:j<n)(c:id<b+j*s+s):id<b+n*s:=by have:=Vt s (Vbb h);rw[Vka]at this;omega
structure RI (E:Km) (B:Kd) (base:Nat) (U:Nat->Prop) (F:Nat->AV) (H:AH) (w:World) (a:Act) (g:Gh) (ow:Nat->Nat->Prop) (L:Nat->Prop):Prop where
 rh:RH B H w g ow
 fr:Fr w g F a.tmps
 nt:a.tmps.size=E.nt
 df:a.defers=[]
 ids:∀id,g.K id->(id<base\/U id)\/ ∃j,L j/\base+j*E.stp<=id/\id<base+j*E.stp+E.stp
structure Lk (E:Km) (w:World) (g:Gh) (a:Act) (w' :World) (g' :Gh) (a' :Act):Prop where
 le:g.Le g'
 ag:Kj g.I w w'
 ks:∀t∈E.ks,a'.tmps.getD t undef=a.tmps.getD t undef
theorem Lk.refl(w:World)(g:Gh)(a:Act):Lk E w g a w g a:=⟨.refl g,fun _ _=>rfl,by simp⟩
theorem Lk.trans{w w1 i:World}{g d e:Gh}{a b c:Act}(h:Lk E w g a w1 d b)(k:Lk E w1 d b i e c):Lk E w g a i e c:=
 ⟨h.le.trans k.le,h.ag.trans k.ag h.le.I,fun t f=>(k.ks t f).trans (h.ks t f)⟩
structure Lb (E:Km) (b t:Nat) (w:World) (g:Gh) (a:Act) (w' :World) (g' :Gh) (a' :Act):Prop extends Lk E w g a w' g' a' where
 nw:∀id,g'.K id->g.K id\/(b<=id/\id<t)
theorem Lb.refl{b t:Nat}(w:World)(g:Gh)(a:Act):Lb E b t w g a w g a:=⟨.refl w g a,fun _ h=>.inl h⟩
theorem Lb.trans{b t:Nat}{w w1 j:World}{g f i:Gh}{a d e:Act}(h:Lb E b t w g a w1 f d)(k:Lb E b t w1 f d j i e):Lb E b t w g a j i e:=
 ⟨h.toLk.trans k.toLk,fun id c=>(k.nw id c).elim (h.nw id) .inr⟩
theorem RI.step(O:Z9 P E)(N:YZ P E B){i:Nat}{o:Oper}{F y:Nat->AV}{H H1:AH}{t:Option We}{w:World}{g:Gh}{ow:Nat->Nat->Prop}{a:Act}{L U:Nat->Prop}(A:ops[i]? =some o)
 (h:Xo E ops base fz i o F H=some (y,H1,t)) (e:RI E B base U F H w a g ow L) (R:∀id,U id->base+ops.size*E.stp<=id) (hL:¬L i) {K:Act->World->Prop}{Q:Exit->Act->World->Prop}
 (M:∀f w' n d,RI E B base U y H1 w' f n d (fun j=>j=i\/L j)->Lb E base (base+ops.size*E.stp) w g a w' n f->K f w'):wpOp P ops Q i K a w:=by
 have m:i<ops.size:=(Vga.1 A).1;refine Zo0 O N A h e.rh e.fr e.nt (fun id b=>?_) fun f w' n d k l s C D G z J=>M f w' n d ⟨k,l,s,C.trans e.df,fun id b=>?_⟩ ⟨⟨D,G,J⟩,fun id b=>(z id b).imp (fun h=>h) fun h=>⟨by omega,Zho m h.2⟩⟩
 ·rcases e.ids id b with (k|k) |⟨j,k,l,s⟩
  ·omega
  ·have:=R id k;have l:=Vt E.stp (Vbb m);rw[Vka]at l;omega
  ·have x:j≠i:=by grind
   exact Zs8 x l s
 ·rcases z id b with u|⟨u,p⟩
  ·rcases e.ids id u with c|⟨j,c,q,r⟩
   ·exact .inl c
   ·exact .inr ⟨j,.inr c,q,r⟩
  ·exact .inr ⟨i,.inl rfl,u,p⟩
theorem ZhX(y:Z9 P E)(x:YZ P E B){T:Nat->Option We}{Q:Exit->Act->World->Prop}{r:Nat->AV}{H' :AH} :∀{l:List Nat}{F:Nat->AV}{H:AH}{w:World}{g:Gh}{ow:Nat->Nat->Prop}{a:Act}{L U:Nat->Prop},
 YS E ops base fz T l F H r H' ->l.Nodup->(∀i∈l,¬L i)->(∀id,U id->base+ops.size*E.stp<=id)->RI E B base U F H w a g ow L->(∀c w' s p,RI E B base U r H' w' c s p (fun j=>j∈l\/L j)->Lb E base (base+ops.size*E.stp) w g a w' s c->Q .normal c w')->wpOps P ops Q l a w
 |[],F,H,w,g,ow,a,L,U,h,_,_,_,u,e=>by
  cases h with
  |nil=>exact e a w g ow (by simp_all) (.refl w g a)
 |i::l,F,H,w,g,ow,a,L,U,h,J,hL,z,u,e=>by
  cases h with
  |cons M t D=>
   rw[wpOps_cons];obtain⟨K,n⟩:=Vn.1 J;refine u.step y x M t z (hL i (by simp)) fun R W S N d k=>ZhX y x D n (fun j V=>?_) z d fun A O C q b m=>e A O C q ⟨b.rh,b.fr,b.nt,b.df,fun id f=>?_⟩ (k.trans m)
   ·grind
   ·refine(b.ids id f).imp (fun h=>h) fun⟨j,t,G⟩=>⟨j,?_,G⟩
    grind
theorem ZiU:∀(l:List Oper) (acc:Array Nat),let r:=l.foldl (fun acc o=>acc.push (o.after.foldl (fun s e=>if Region.binds .any e then s ||| 2 ^ e.on ||| acc.getD e.on 0 else s) 0)) acc
 r.size=acc.size+l.length/\(∀k,k<acc.size->r.getD k 0=acc.getD k 0)/\
 ∀k o,l[k]? =some o->∀j,(r.getD (acc.size+k) 0).testBit j=true->∃e∈o.after,Region.binds .any e=true/\(e.on=j\/(e.on<acc.size+k/\(r.getD e.on 0).testBit j=true))
 |[],acc=>by simp
 |o::l,acc=>by
  intro r
  have i:=ZiU l (acc.push (o.after.foldl (fun s e=>if Region.binds .any e then s ||| 2 ^ e.on ||| acc.getD e.on 0 else s) 0))
  simp only[Array.size_push]at i;obtain⟨x,m,y⟩:=i;refine⟨by grind,fun k t=>?_,fun k z c j f=>?_⟩
  ·rw[show r.getD k 0=_ from m k (by omega)];simp [Vua,Nat.ne_of_lt t]
  ·cases k with
   |zero=>
    simp only[List.getElem?_cons_zero,Option.some.injEq]at c;subst c;rw[Nat.add_zero,show r.getD acc.size 0=_ from m acc.size (by omega)]at f;have q:∀X:Nat,(acc.push X).getD acc.size 0=X:=by simp
    rw[q]at f
    have key:∀(es:List Edge) (s:Nat),(es.foldl (fun s e=>if Region.binds .any e then s ||| 2 ^ e.on ||| acc.getD e.on 0 else s) s).testBit j=true->s.testBit j=true\/ ∃e∈es,Region.binds .any e=true/\(e.on=j\/(acc.getD e.on 0).testBit j=true):=by
     intro es
     induction es with
     |nil=>simp
     |cons e es i=>
      intro s h;simp only[List.foldl_cons]at h;rcases i _ h with h|⟨u,p,n⟩
      all_goals grind
    rw[<-Vva]at f;rcases key _ _ f with h|⟨e,p,n,d⟩
    ·grind
    ·refine⟨e,by grind,n,?_⟩;rcases d with d|d
     ·omega
     ·right
      have b:e.on<acc.size:=by
       grind
      refine⟨b,?_⟩;rw[show r.getD e.on 0=_ from m e.on (by omega)]
      simpa [Vua,Nat.ne_of_lt b] using d
   |succ k=>
    grind
theorem Zo6{i:Nat}{o:Oper}(b:ops[i]? =some o){j:Nat}(h:((Region.before ops).getD i 0).testBit j=true):∃e∈o.after,Region.binds .any e=true/\(e.on=j\/(e.on<i/\((Region.before ops).getD e.on 0).testBit j=true)):=by have key:=ZiU ops.toList #[];simp only[Vva]at key;have:=key.2.2 i o (by simpa using b) j;simp only[Vya,List.length_nil,Nat.zero_add]at this;exact this h
theorem Zo5{b:Array Bool}(f:∀i o,ops[i]? =some o->b.getD i false=true->∀e∈o.after,Region.binds .any e=true->b.getD e.on false=true)(h:∀i,b.getD i false=true->∃o,ops[i]? =some o){j:Nat} :
 ∀n i,i<n->∀o,ops[i]? =some o->(∀e∈o.after,Region.binds .any e=true->b.getD e.on false=true)->((Region.before ops).getD i 0).testBit j=true->b.getD j false=true:=by
 intro n
 induction n with
 |zero=>omega
 |succ n r=>
  intro i q o k c d;obtain⟨e,l,m,p⟩:=Zo6 k d
  grind
theorem ZuY(hT:Z9 P E)(hS:YZ P E B){T:Nat->Option We}{Q:Exit->Act->World->Prop}{F' :Nat->AV}{H' :AH}(q:Zf6 ops=true)
 (z:∀i j,i<j->j<ops.size->((Region.before ops).getD j 0).testBit i=false->HD ops T i j):∀(n:Nat) {l:List Nat}{b:Array Bool}{F:Nat->AV}{H:AH}{w:World}{g:Gh}{ow:Nat->Nat->Prop}{a:Act}{L U:Nat->Prop},
 YS E ops base fz T l F H F' H' ->l.length=n->l.Pairwise (· < ·)->b.size=ops.size->(∀i,i<ops.size->(i∈l↔b.getD i true=false))->(∀i∈l,i<ops.size)->
 (∀i o,ops[i]? =some o->b.getD i false=true->∀e∈o.after,Region.binds .any e=true->b.getD e.on false=true)->(∀i∈l,¬L i)->(∀id,U id->base+ops.size*E.stp<=id)->RI E B base U F H w a g ow L->
 (∀D w' g' a3,RI E B base U F' H' w' D g' a3 (fun j=>j∈l\/L j)->Lb E base (base+ops.size*E.stp) w g a w' g' D->Q .normal D w')->wpAny P .any ops Q n b a w:=by
 have r:∀i o,ops[i]? =some o->∀e∈o.after,Region.binds .any e=true->e.on<i:=by
  intro i o ho e C x;unfold Zf6 at q;rw[Via]at q
  have:=q (o,i) (by
   grind)
  rw[Array.all_eq_true_iff_forall_mem]at this;have:=this e C
  simp_all
 intro n
 induction n with
 |zero=>
  intro l b F H w g ow a L U h hn Z a0 X W y hL K hI J;obtain rfl:=List.length_eq_zero_iff.1 hn
  cases h with
  |nil=>
   refine⟨?_,J a w g ow (by simp_all) (.refl w g a)⟩;rw[List.eq_nil_iff_forall_not_mem];intro j s;rw[mem_ready]at s
   grind
 |succ n ih=>
  intro l b F H w g ow a L U h hn Z a0 X W y hL K hI J
  have f:∀i,i<ops.size->i ∉ l->b.getD i false=true:=by
   grind
  have V:∀i,b.getD i false=true->∃o,ops[i]? =some o:=by
   intro i N
   have:i<b.size:=by
    grind
   simp_all
  refine⟨fun a6=>?_,fun i N=>?_⟩
  ·exfalso
   cases l with
   |nil=>grind
   |cons i l=>
    have d:i<ops.size:=by simp [*]
    have:i∈Region.ready .any ops b:=by
     rw[mem_ready];refine⟨by grind,_,Vp d,fun e C x=>?_⟩;have a5:=r i _ (Vp d) e C x;refine f e.on (by omega) fun k=>?_;rcases Vm.1 k with t|t
     ·omega
     ·have:=(List.pairwise_cons.1 Z).1 _ t;omega
    grind
  ·rw[mem_ready]at N;obtain⟨h0,o,ho,u⟩:=N;have d:i<ops.size:=by grind
   have k:=(X i d).2 h0;obtain⟨pre,post,rfl⟩:=List.append_of_mem k;have A:∀j∈pre,j<i:=by grind
   have m:=h.front fun j s=>by
    refine z j i (A j s) d ?_
    cases x:((Region.before ops).getD i 0).testBit j with
    |false=>rfl
    |true=>
     have a7:=Zo5 y V (i+1) i (Vfb i) o ho u x
     grind
   cases m with
   |cons Y t h' =>
    have a8:(pre++i::post).Nodup:=Z.imp (by omega);have M:∀j,j∈pre++post->j∈pre++i::post:=by grind
    have a9:i ∉ pre++post:=by
     grind
    refine hI.step hT hS Y t K (hL i (by simp)) fun a1 w1 g1 b1 G R=>ih (l:=pre++post) (L:=fun j=>j=i\/L j) h' (by grind) ?_ (by grind) ?_ (by grind) ?_ ?_ K G ?_
    ·grind
    ·intro j s;by_cases p:j=i
     ·simp [*]
     ·rw[getD_set_ne true (Ne.symm p), <-X j s]
      grind
    ·intro j o' b0 s e C x;by_cases p:j=i
     ·subst p;have e1:o=o' :=by grind
      exact getD_set_true (by grind)
     ·rw[getD_set_ne false (Ne.symm p)]at s;exact getD_set_true (by grind)
    ·grind
    ·intro a2 w2 g2 a4 c S;refine J a2 w2 g2 a4 ⟨c.rh,c.fr,c.nt,c.df,fun id O=>(c.ids id O).imp (fun h=>h) fun⟨j,t,h2⟩=>⟨j,?_,h2⟩⟩ (R.trans S)
     grind
end
end Tr
end
section
namespace Tr
open Go
structure SR (E:Km) (B:Kd) (s:AS) (w:World) (g:Gh) (ow:Nat->Nat->Prop) (a:Act):Prop where
 rh:RH B s.H w g ow
 fr:Fr w g s.F a.tmps
 nt:a.tmps.size=E.nt
 df:a.defers=[]
 ids:∀id,g.K id->id<s.nx
 fz:∀id∈s.fz,XJ s.H id=true
structure Ln (E:Km) (s:AS) (w:World) (g:Gh) (a:Act) (s' :AS) (w' :World) (g' :Gh) (a' :Act):Prop where
 lk:Lk E w g a w' g' a'
 fz:s'.fz=s.fz
 hz:∀id∈s.fz,s'.H id=s.H id
section
variable {P:Program}{E:Km}{B:Kd}{ops:Array Oper}{base:Nat}{fz:List Nat}
theorem Ln.refl(s:AS)(w:World)(g:Gh)(a:Act):Ln E s w g a s w g a:=⟨.refl w g a,rfl,by simp⟩
theorem Ln.trans{s i s2:AS}{w w1 j:World}{g e f:Gh}{a c d:Act}(h:Ln E s w g a i w1 e c)(k:Ln E i w1 e c s2 j f d):Ln E s w g a s2 j f d:=
 ⟨h.lk.trans k.lk,k.fz.trans h.fz,fun id b=>(k.hz id (h.fz▸b)).trans (h.hz id b)⟩
theorem Zei{H H' :AH}{id:Nat}(h:H' id=H id):XJ H' id=XJ H id:=by unfold XJ;rw[h]
theorem ZoZ{i:Nat}{o:Oper}{F c:Nat->AV}{H H1:AH}{t:Option We}(h:Xo E ops base fz i o F H=some (c,H1,t)):∀id∈fz,H1 id=H id:=by
 unfold Xo at h;split at h
 ·grind
 ·grind
 ·split at h
  ·cases f:(W0 E (base+i*E.stp) o.op o.type (ZB F)).run H [] with
   |none=>grind
   |some y=>
    rw[f]at h;simp only[Za]at h;split at h
    ·rename_i d;simp only[Option.some.injEq,Va]at h;obtain⟨_,rfl,_⟩:=h;intro id b;refine Zcy fun p j e=>?_;exact D6.1 d p.1 (by grind) (e▸b)
    grind
  grind
theorem AE.keptH{l:List (Oper×Nat)}{F d:Nat->AV}{H H' :AH}{f c:List We}(h:AE E ops base fz l F H f d H' c):∀id∈fz,H' id=H id:=by
 induction h with
 |nil=>simp
 |cons h i e=>exact fun id b=>(e id b).trans (ZoZ h id b)
theorem AE.slots{l:List (Oper×Nat)}{F c:Nat->AV}{H H' :AH}{i b:List We}(h:AE E ops base fz l F H i c H' b):∀k,(∀p∈l,p.1.dst≠some k)->c k=F k:=by
 induction h with
 |nil=>simp
 |cons h j f=>
  intro k n;obtain⟨v,q,s,_⟩:=Zdm h;rw[f k (by grind),s.F,Du fun e m d=>(by simp_all)]
theorem AE.traces{l:List (Oper×Nat)}{F d:Nat->AV}{H H' :AH}{c b:List We}(h:AE E ops base fz l F H c d H' b):∀u∈c,u∈b:=by
 induction h with
 |nil=>simp
 |cons h e f=>grind
theorem AE.still{l:List (Oper×Nat)}{F d:Nat->AV}{H H' :AH}{f b:List We}(h:AE E ops base fz l F H f d H' b):(∀u∈b,u.wr=[])->H' =H:=by
 induction h with
 |nil=>simp
 | @cons o i rest F H f n H1 t d H' b h j m=>
   intro e;obtain⟨v,c,s,_⟩:=Zdm h
   have:c=[]:=by
    cases c with
    |nil=>rfl
    |cons p c=>
     obtain⟨u,k,q⟩:=s.wr p (by simp);have:=e u (j.traces u (by grind))
     grind
   rw[m e,s.H,this];rfl
theorem Zh1:ops.toList.zipIdx.map Vkb=List.range ops.size:=by
 refine Vy fun i=>?_
 grind
theorem ZlR(Z:P.follows .mixedOrders=true)(N:Z9 P E)(M:YZ P E B){nx:Nat}{fz:List Nat}{F:Nat->AV}{H:AH}{U:Nat->Prop}{w:World}{g:Gh}{ow:Nat->Nat->Prop}{a:Act}(y:RI E B nx U F H w a g ow fun _=>False)(O:∀id,U id->nx+ops.size*E.stp<=id){id:Nat}{draw:Bool}{J:Nat->AV}{H' :AH}{b:List We}
 (h:AE E ops nx fz ops.toList.zipIdx F H [] J H' b) (S:(!draw||ZaM ops b)=true) {Q:Exit->Act->World->Prop}
 (K:∀m w' x k,RI E B nx U J H' w' m x k (fun j=>j<ops.size)->Lb E nx (nx+ops.size*E.stp) w g a w' x m->Q .normal m w'):(Code.region id ops draw).wp P Q a w:=by
 have f:=h.ex (by rw[Zh1];grind) (by grind) (fun _ _=>rfl);rw[Zh1]at f
 cases draw with
 |false=>
  refine wp_region (ZhX N M f Vcb (L:=fun _=>False) (by simp) O y fun m w' x k e q=>K m w' x k ⟨e.rh,e.fr,e.nt,e.df,fun id p=>?_⟩ q)
  exact(e.ids id p).imp (fun h=>h) fun⟨j,X,Y⟩=>by simp_all
 |true=>
  simp only[Bool.not_true,Bool.false_or,ZaM,Vb,Bool.or_eq_true]at S;obtain⟨⟨n,r⟩,d⟩:=S;have W:Jr w {w with drawn:=w.drawn+1} :=⟨rfl,rfl,rfl,⟨rfl,by simp⟩⟩
  have s:∀i j,i<j->j<ops.size->((Region.before ops).getD j 0).testBit i=false->(i,j)∈ZeR ops:=by
   intro i j z V R;simp only[ZeR,List.mem_flatMap,List.mem_range,Vwa]
   grind
  refine wp_region_any Z (ZuY N M n (T:=fun i=>X0 i b) (fun i j z V R=>?_) ops.size f (by simp) (List.pairwise_lt_range) (by simp) (fun i hi=>?_) (by simp) (fun i o ho q=>?_) (L:=fun _=>False) (by simp) O
   ⟨y.rh.same W,y.fr.mono (W.agree _) (.refl g),y.nt,y.df,y.ids⟩ fun m w' x k e q=>K m w' x k ⟨e.rh,e.fr,e.nt,e.df,fun id p=>?_⟩ ⟨⟨q.le,q.ag,q.ks⟩,q.nw⟩)
  ·intro oa ob a2 a3;have c:=s i j z V R;refine⟨?_,fun u v A D=>?_⟩
   ·have:=Via.1 r (i,j) c
    grind
   ·rcases d with d|d
    ·have C:u.wr=[]:=by
      have a0:u∈b:=by
       clear c s f h d D r n
       induction b with
       |nil=>simp [X0]at A
       |cons t l ih=>
        simp only[X0]at A
        grind
      grind
     have G:v.wr=[]:=by
      have a1:v∈b:=by
       clear c s f h d A r n
       induction b with
       |nil=>simp [X0]at D
       |cons t l ih=>
        simp only[X0]at D
        grind
      grind
     rw[C,G];exact⟨rfl,rfl,rfl⟩
    ·have:=Via.1 d (i,j) c;simp only[ZmP]at this
     grind
  ·simp_all
  ·exfalso;have:i<ops.size:=by grind
   simp_all
  ·exact(e.ids id p).imp (fun h=>h) fun⟨j,X,Y⟩=>by simp_all
theorem Zic{w:World}{g:Gh}{t b:Ty}{y:El b}{x:El t}{v:Value}(h:Kw b t y=some x)(c:VR w g (.d b y) v):VR w g (.d t x) v:=by obtain⟨rfl,rfl⟩:=KR h;omega
theorem Fr.upd{w:World}{g:Gh}{F:Nat->AV}{tmps:Array Value}{n:Nat}{v:AV}(h:Fr w g F tmps)(c:VR w g v (tmps.getD n undef)):Fr w g (XL F n v) tmps:=by
 intro t;unfold XL
 cases b:Vq t n with
 |true=>simp_all
 |false=>exact h t
theorem Zj7{w:World}{g:Gh}{F:Nat->AV}{tmps:Array Value}(hF:Fr w g F tmps):∀(l:List (Nat×Ty)) (x:ElT l) (b:Nat->AV),Za8 F l=some x->Fr w g b tmps->Fr w g (inT b l x) tmps
 |[],_,b,_,c=>c
 |[(n,t)],x,b,h,c=>by
  simp only[Za8]at h;have d:=hF n;split at h
  ·rename_i j y e;rw[e]at d;simp only[inT];exact c.upd (Zic h d)
  grind
 |(n,t)::p::l,x,b,h,c=>by
  simp only[Za8]at h;have d:=hF n;split at h
  ·rename_i j y e;rw[e]at d
   cases f:Kw j t y with
   |none=>grind
   |some z=>
    rw[f]at h;simp only[Za]at h
    cases i:Za8 F (p::l) with
    |none=>grind
    |some u=>
     rw[i]at h;simp only[Za,Option.some.injEq]at h;subst h;simp only[inT];exact Zj7 hF (p::l) u _ i (c.upd (Zic f d))
  grind
theorem ZsV(M:P.follows .mixedOrders=true)(L:Z9 P E)(K:YZ P E B){s:AS}{w:World}{g:Gh}{ow:Nat->Nat->Prop}{a:Act}(f:SR E B s w g ow a){id:Nat}{draw:Bool}{outs:Option (List (Nat×Ty))}{ρ:Type}{k:AS->Option ρ}{r:ρ}
 (h:Zhe E ops draw outs ρ s k=some r):(Code.region id ops draw).wp P (fun e A w' =>∃s' m i,e=.normal/\SR E B s' w' m i A/\Ln E s w g a s' w' m A/\k s' =some r) a w:=by
 have y:∀(m:Gh) (id:Nat),(id<s.nx\/ ∃j,j<ops.size/\s.nx+j*E.stp<=id/\id<s.nx+j*E.stp+E.stp)->id<s.nx+ops.size*E.stp:=by
  intro m id h;rcases h with h|⟨j,N,V,O⟩
  ·omega
  ·exact Zho N O
 unfold Zhe at h
 cases outs with
 |none=>
  simp only at h;obtain⟨C,D,n,c,u⟩:=Zdl h
  cases q:(!draw||ZaM ops n) with
  |false=>grind
  |true=>
   rw[q]at u;simp only[Zc]at u;refine ZlR (U:=fun _=>False) M L K ⟨f.rh,f.fr,f.nt,f.df,fun id b=>.inl (.inl (f.ids id b))⟩ (fun _ h=>h.elim) c q fun A w' m i d G=>⟨⟨C,D,s.nx+ops.size*E.stp,s.fz⟩,m,i,rfl,⟨d.rh,d.fr,d.nt,d.df,fun id b=>y m id ((d.ids id b).imp (fun h=>h.resolve_right fun h=>h) fun h=>h),fun id b=>?_⟩,⟨G.toLk,rfl,fun id b=>c.keptH id b⟩,u⟩
   exact(Zei (c.keptH id b)).trans (f.fz id b)
 |some l=>
  simp only at h;rw[Vja]at h;obtain⟨x,z,u⟩:=h;obtain⟨C,D,n,c,z⟩:=Zdl z
  cases q:((!draw||ZaM ops n) &&n.all (fun t=>t.wr.isEmpty)) with
  |false=>grind
  |true=>
   rw[q]at z;simp only[Zc]at z;simp only[Vb]at q;have J:D=s.H:=c.still (by grind);subst J;refine ZlR (U:=fun _=>False) M L K ⟨f.rh,f.fr,f.nt,f.df,fun id b=>.inl (.inl (f.ids id b))⟩ (fun _ h=>h.elim) c q.1 fun A w' m i d G=>⟨⟨inT (Zgv (ZdF ops.toList) s.F) l x,s.H,s.nx+ops.size*E.stp,s.fz⟩,m,i,rfl,⟨d.rh,?_,d.nt,d.df,fun id b=>y m id ((d.ids id b).imp (fun h=>h.resolve_right fun h=>h) fun h=>h),f.fz⟩,⟨G.toLk,rfl,by simp⟩,u⟩;refine Zj7 d.fr l x _ z fun t=>?_;unfold Zgv
   cases Q:KX t (ZdF ops.toList) with
   |true=>exact DO
   |false=>
    simp only[Ze]
    have:C t=s.F t:=c.slots t fun p R S=>by
     have:t∈ZdF ops.toList:=by rw[List.mem_zipIdx_iff_getElem?]at R;exact Vwa.2 (by grind)
     rw[Jj.2 this]at Q;grind
    rw[<-this];exact d.fr t
def PRs(w:World)(I:Nat->Prop)(tmps:Array Value):(l:List (Nat×Zy))->W4 l->List Nat->Prop
 |[],_,b=>b=[]
 |[(n,p)],x,b=>PV w I p x b (tmps.getD n undef)
 |(n,p)::q::l,x,b=>∃c d,b=c++d/\PV w I p x.1 c (tmps.getD n undef)/\PRs w I tmps (q::l) x.2 d
theorem Zga{H:AH}{w:World}{g:Gh}{ow:Nat->Nat->Prop}{I:Nat->Prop}(y:RH B H w g ow)(s:∀b,g.I b->I b){p:Zy}{v:AV}{val:Value}{x:WO p}{ids:ZG}{l j:List Nat}(h:(ext p v).run H l=some ((x,ids),j))(D:VR w g v val)
 (u:∀b,ZV H ow ids.br b->I b) (C:ids.tk.Nodup):∃js,PV w I p x js val/\js.Nodup/\ ∀b∈js,ZV H ow ids.tk b:=by
 by_cases i:p=.any
 ·subst i;simp only[ext,Zi,Va]at h;obtain⟨⟨_,rfl⟩,_⟩:=h;exact⟨[],⟨rfl,.inl rfl⟩,.nil,by simp⟩
 ·obtain⟨A,z⟩:=ZjG h i
  have c:∀m,v≠ .tup m:=by
   rintro m rfl
   cases p with
   |any=>grind
   |pd t=>cases t<;>simp [ext,Kl,Z4,Zb]at h
   |own t k=>simp [ext,Xb,Z4,Zb]at h
   |var t p=>simp [ext,Zb]at h
   |ro t=>simp [ext,Zb]at h
   |map k t=>simp [ext,Zb]at h
   |rows t k=>simp [ext,Gc,Z4,Zb]at h
   |mrows k t=>simp [ext,Zb]at h
   |it k t=>simp [ext,Zb]at h
   |bld T e k=>simp [ext,Zb]at h
   |agg l=>simp [ext,Zb]at h
   |fn f l=>simp [ext,Zb]at h
   |nilr=>simp [ext,Zb]at h
   |nils=>simp [ext,Zb]at h
  have d:=D.to1 c;obtain⟨js,n,q,r⟩:=H7 y s p v val.cells.toList x ids l j h d.1 u C;exact⟨js,⟨n,.inr (by rw[<-z];exact d.2.resolve_left A)⟩,q,r⟩
theorem ZjE{H:AH}{w:World}{g:Gh}{ow:Nat->Nat->Prop}{I:Nat->Prop}{F:Nat->AV}{tmps:Array Value}(i:RH B H w g ow)(m:∀b,g.I b->I b)(hF:Fr w g F tmps):∀(l:List (Nat×Zy)) (x:W4 l) (ids:ZG) (k j:List Nat),
 (RU F l).run H k=some ((x,ids),j)->(∀b,ZV H ow ids.br b->I b)->ids.tk.Nodup->∃js,PRs w I tmps l x js/\js.Nodup/\ ∀b∈js,ZV H ow ids.tk b
 |[],x,ids,k,j,h,f,_=>by
  simp only[RU,Zi,Va]at h;obtain⟨⟨_,rfl⟩,_⟩:=h
  exact⟨[],rfl,.nil,by simp⟩
 |[(n,p)],x,ids,k,j,h,f,s=>by
  simp only[RU]at h
  exact Zga i m h (hF n) f s
 |(n,p)::q::l,x,ids,k,j,h,f,s=>by
  simp only[RU,Z4,Zi,Va]at h;obtain⟨⟨Y,O⟩,V,C,⟨S,y⟩,W,J,⟨rfl,rfl⟩,_⟩:=h;have t:(O.tk++y.tk).Nodup:=s;obtain⟨Q,R,X⟩:=Ve.1 t;obtain⟨z,K,L,u⟩:=Zga i m C (hF n) (fun b c=>f b (WT (fun _ h=>by simp [ZG.app,h]) c)) Q;obtain⟨A,M,N,d⟩:=ZjE i m hF (q::l) S y _ _ J (fun b c=>f b (WT (fun _ h=>by simp [ZG.app,h]) c)) R;refine⟨z++A,⟨z,A,rfl,K,M⟩,Ve.2 ⟨L,N,fun b c U r e=>?_⟩,fun b c=>?_⟩
  ·subst e;obtain⟨id,D,G⟩:=Ge i (u b c) (d b r)
   grind
  ·rcases Vk.1 c with c|c
   ·exact WT (fun _ h=>by simp [ZG.app,h]) (u b c)
   ·exact WT (fun _ h=>by simp [ZG.app,h]) (d b c)
theorem Zch:∀(l:List (Nat×Zy)) (x:W4 l) (n:Nat),n<=(Wz l x n).2.2/\ ∀o∈(Wz l x n).2.1,n<=o.1/\o.1<(Wz l x n).2.2
 |[],_,n=>⟨Vh _,by simp [Wz]⟩
 |[(m,p)],x,n=>Yd p x n
 |(m,p)::q::l,x,n=>by
  obtain⟨c,d⟩:=Yd p x.1 n;obtain⟨e,f⟩:=Zch (q::l) x.2 (inj p x.1 n).2.2;refine⟨by simp only[Wz];omega,fun o b=>?_⟩;simp only[Wz,Vk]at b⊢
  grind
mutual
theorem Zd0:∀(p:Zy) (x:WO p) (n:Nat),((inj p x n).2.1.map Vi).Nodup
 |.pd _,_,n=>by simp [inj]
 |.own _ _,_,n=>by simp [inj]
 |.var t p,x,n=>by
  simp only[inj,Vu,Vn];refine⟨fun h=>?_,Zd0 p x (n+1)⟩;obtain⟨o,b,c⟩:=Vo.1 h
  have:=((Yd p x (n+1)).2 o b).1;omega
 |.ro _,_,n=>by simp [inj]
 |.map _ _,_,n=>by simp [inj]
 |.rows _ _,_,n=>by simp [inj]
 |.mrows _ _,_,n=>by simp [inj]
 |.it _ _,_,n=>by simp [inj]
 |.bld _ _ _,_,n=>by simp [inj]
 |.agg l,x,n=>by simpa only[inj] using Zd1 l x n
 |.fn f l,x,n=>by simpa only[inj] using Zd1 l x n
 |.nilr,_,n=>by simp [inj]
 |.nils,_,n=>by simp [inj]
 |.any,_,n=>by simp [inj]
theorem Zd1:∀(l:Pats) (x:KJ l) (n:Nat),((KM l x n).2.1.map Vi).Nodup
 |.nil,_,n=>by simp [KM]
 |.cons p l,x,n=>by simp only[KM,Vda,Ve];refine⟨Zd0 p x.1 n,Zd1 l x.2 _,fun i d j k e=>?_⟩;obtain⟨o,b,rfl⟩:=Vo.1 d;obtain⟨u,m,rfl⟩:=Vo.1 k;have c:=((Yd p x.1 n).2 o b).2;have q:=((R0 l x.2 _).2 u m).1;omega
end
theorem Zj8:∀(l:List (Nat×Zy)) (x:W4 l) (n:Nat),((Wz l x n).2.1.map Vi).Nodup
 |[],_,n=>by simp [Wz]
 |[(m,p)],x,n=>by simpa only[Wz] using Zd0 p x n
 |(m,p)::q::l,x,n=>by simp only[Wz,Vda,Ve];refine⟨Zd0 p x.1 n,Zj8 (q::l) x.2 _,fun i b j c e=>?_⟩;obtain⟨o,d,rfl⟩:=Vo.1 b;obtain⟨u,f,rfl⟩:=Vo.1 c;have h:=((Yd p x.1 n).2 o d).2;have k:=((Zch (q::l) x.2 _).2 u f).1;omega
theorem ZgI:∀(l:List (Nat×K0)) (H:AH) (id:Nat),(l.map Vi).Nodup->Zr H (Wu l) id=match Xt l id with|some o=>some o|none=>H id
 |[],H,id,_=>rfl
 |p::l,H,id,d=>by
  simp only[Vu,Vn]at d;have i:Wu (p::l)=(p.1,some p.2)::Wu l:=rfl;rw[i];simp only[Zr];rw[ZgI l _ id d.2];simp only[Xt]
  cases c:Vq id p.1 with
  |true=>
   have:=Vj c;subst this
   have f:Xt l p.1=none:=by
    have key:∀l:List (Nat×K0),p.1 ∉ l.map Vi->Xt l p.1=none:=by
     intro l
     induction l with
     |nil=>intro _;rfl
     |cons q l j=>
      intro h;simp only[Vu,Vm,not_or]at h;simp only[Xt]
      have:Vq p.1 q.1=false:=by
       cases c:Vq p.1 q.1
       all_goals simp_all
      grind
    grind
   rw[f];simp [XM]
  |false=>
   have b:id≠p.1:=fun e=>by simp_all
   simp only[Ze]
   cases Xt l id with
   |some o=>rfl
   |none=>exact Ky b
theorem Zkb{w:World}{p:Zy}{H:AH}{g:Gh}{ow:Nat->Nat->Prop}(j:RH B H w g ow){x:WO p}{js:List Nat}{v:Value}{n:Nat}(h:PV w g.I p x js v)(k:W5 B H w g ow js)(l:∀id,n<=id->id<(inj p x n).2.2->¬g.K id):
 W6 B H w g ow js n (inj p x n).2.2 (Zr H (Wu (inj p x n).2.1)) fun e=>Kk w e (inj p x n).1 v:=by
 obtain⟨i,u⟩:=h;obtain⟨f,b,r,m,t,d,q,s⟩:=Zci p j x js v.cells.toList n i k l;refine⟨f,b,r,m,t,⟨d,?_⟩,q,s⟩;by_cases c:p=.any
 ·subst c;exact .inl rfl
 ·rw[Zka p x n c];grind
theorem Zj9{w:World}{tmps:Array Value} :∀(l:List (Nat×Zy)) {H:AH}{g:Gh}{ow:Nat->Nat->Prop} (_:RH B H w g ow) (x:W4 l) (js:List Nat) (n:Nat),PRs w g.I tmps l x js->W5 B H w g ow js->(∀id,n<=id->id<(Wz l x n).2.2->¬g.K id)->
 W6 B H w g ow js n (Wz l x n).2.2 (Zr H (Wu (Wz l x n).2.1)) fun C=>∀q∈(Wz l x n).1,Kk w C q.2 (tmps.getD q.1 undef)
 |[],H,g,ow,b,x,js,n,h,_,_=>by
  obtain rfl:=h
  exact W6.none b n (by simp [Wz])
 |[(m,p)],H,g,ow,b,x,js,n,h,e,L=>by
  obtain⟨t,d,f,c,r,s,z,j⟩:=Zkb b h e (by assumption);refine⟨t,d,f,c,r,fun q M=>?_,z,j⟩;simp only[Wz,Vd]at M
  grind
 |(m,p)::q::l,H,g,ow,b,x,js,n,h,e,L=>by
  obtain⟨V,O,rfl,G,U⟩:=h;have X:=(Yd p x.1 n).1;have Y:=(Zch (q::l) x.2 (inj p x.1 n).2.2).1;have i:∀id,n<=id->id<(Wz (q::l) x.2 (inj p x.1 n).2.2).2.2->¬g.K id:=by assumption
  obtain⟨t,d,f,c,r,s,z,j⟩:=Zkb b G (e.sub (Vl _ _)) fun id h S=>i id h (by omega);obtain⟨D,k,A,N,Q,R,W,Z⟩:=Zj9 (q::l) r x.2 O (inj p x.1 n).2.2 (by rw[c.I];omega) (e.after c.I j) (by grind)
  have J:Zr H (Wu (Wz ((m,p)::q::l) x n).2.1)=Zr (Zr H (Wu (inj p x.1 n).2.1)) (Wu (Wz (q::l) x.2 (inj p x.1 n).2.2).2.1):=by rw[<-Xc];simp [Wz,Wu]
  rw[J];simp only[Wz];refine⟨D,k,f.trans A,N.after c f,Q,fun u y=>?_,by grind,by grind⟩
  ·rcases Vm.1 y with rfl|y
   ·exact s.mono (fun _ _=>rfl) A
   grind
  all_goals grind
end
end Tr
end
