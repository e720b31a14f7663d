/- Patterns, read without ids: what a value holds, and which blocks it owns. Conditions: none. -/
import Derived.Lib.LaidTab
import Derived.Lib.ItoaMem
import Derived.LaidEql
import Derived.Test.YtdpenljjnfmgiaaGreatETrJ
import Derived.Test.YtdpenljjnfmgiaaGreatETrA
open Array renaming length_toList ->Vp,mem_toList_iff ->Vt,toList_inj ->Vca,getElem?_eq_getElem ->Vma,getElem?_toList ->Vua,getElem?_push ->Vab,foldl_toList ->Veb
open Bool renaming and_eq_true ->Vb,not_eq_true' ->Vy,or_eq_false_iff ->Vea,false_eq_true ->Via,not_eq_false' ->Vja
open Go.Builtin renaming zeroCells ->Vq,clear_ ->Vx,firstCells ->Vdb,append_ ->Vob
open Go.Instr renaming sureAddr ->Vva,sliceAt ->Vtb
open List renaming mem_singleton ->Ve,nodup_append ->Vh,mem_append ->Vi,length_append ->Vj,mem_cons ->Vk,nodup_cons ->Vl,sublist_append_left ->Vn,length_take ->Vr,replicate ->Vs,getElem?_eq_some_iff ->Vv,size_toArray ->Vz,take_append_drop ->Vaa,length_drop ->Vba,mem_cons_of_mem ->Vda,getElem?_of_mem ->Vfa,drop_append_of_le_length ->Vga,flatten_append ->Vha,getElem?_map ->Vka,getElem?_append_left ->Vla,length_eq_zero_iff ->Vna,sublist_cons_self ->Vqa,take_left' ->Vra,drop_left' ->Vsa,append_nil ->Vta,drop_drop ->Vwa,mem_of_mem_take ->Vxa,map_eq_nil_iff ->Vya,getElem?_drop ->Vbb,prefix_append ->Vcb,mem_map ->Vfb,mem_flatten ->Vkb,length_nil ->Vlb,nil_append ->Vmb,drop_left ->Vqb,map_cons ->Vub
open Nat renaming le_refl ->Vd,eq_of_beq_eq_true ->Vm,mul_le_mul_right ->Vu,beq ->Vw,succ_mul ->Vpa,blt ->Vza,zero_add ->Vgb,add_zero ->Vhb,succ_le_of_lt ->Vib,min_eq_left ->Vpb
open Option renaming bind_eq_some_iff ->Voa,map_none ->Vnb,mem_def ->Vrb,map ->Vxb
open Prod renaming fst ->Vo
open Prod.mk renaming injEq ->Va,inj ->Vwb
open Go.Result renaming andThen_ok ->Vc
open Go.Sem renaming run_bind ->Vf,run_pure ->Vg
open Go.Value renaming slice ->Vjb,pointer ->Vsb
open Go.World renaming cell? ->Vvb
open Option renaming some ->Ua,none ->Ub
open Bool renaming true ->Uc,false ->Ud
open Decidable renaming decide ->Ue
section
namespace Tr
open Go
def Pat.isAgg:Pat->Bool
 |.pd t=>t.agg
 |.agg _=>Uc
 |_=>Ud
mutual
def PC(w:World)(I:Nat->Prop):(p:Pat)->K6 p->List Nat->List Value->Prop
 |.pd t,x,js,cs=>js=[]/\Rd w I t x cs
 |.own t _,x,js,cs=>(js=[]/\x=[]/\cs=[.slice Ub 0 0])\/
   ∃b cap cells e css,js=[b]/\cs=[.slice (Ua ⟨b,0,Ub⟩) x.length cap]/\w.heap[b]? =Ua (.cells cells e (0,0))/\x.length<=cap/\cap*t.size<=cells.size/\Fa (Rd w I t) x css/\css.flatten<+:cells.toList
 |.var t p,x,js,cs=>p.fits t=Uc/\∃b h cells e,js=b::h/\cs=[.pointer (Ua ⟨b,0,Ub⟩)]/\w.heap[b]? =Ua (.cells cells e (0,0))/\cells.size=t.size/\PC w I p x h cells.toList
 |.ro t,x,js,cs=>js=[]/\∃b off c,cs=[.pointer (Ua ⟨b,off,Ub⟩)]/\I b/\KB w b off c/\Rd w I t x c
 |.map d i,x,js,cs=>∃b es clock,js=[b]/\cs=[.map (Ua b)]/\w.heap[b]? =Ua (.map es clock)/\Bn es clock/\Fa (λkv e=>(Rd w I d kv.1 e.key.cells.toList/\Kd e.key=d.agg)/\(Rd w I i kv.2 e.val.cells.toList/\Kd e.val=i.agg)) x es.toList
 |.rows t _,x,js,cs=>∃v,cs=[v]/\Xg w I (· ∈js) t x v
 |.mrows d t,x,js,cs=>∃v,cs=[v]/\Hb w I (· ∈js) d t x v
 |.it d i,x,js,cs=>∃b j es clock since seen,js=[b,j]/\b≠j/\cs=[.pointer (Ua ⟨b,0,Ub⟩)]/\w.heap[b]? =Ua (.mapIter (Ua j) since seen clock)/\w.heap[j]? =Ua (.map es clock)/\
   ((∀x∈es.toList,x.born<since)/\since<=clock/\(es.toList.map (·.born)).Nodup)/\Fa (λkv e=>(Rd w I d kv.1 e.key.cells.toList/\Kd e.key=d.agg)/\(Rd w I i kv.2 e.val.cells.toList/\Kd e.val=i.agg)) x (HR es seen)
 |.fnd tn tq lt lb,x,js,cs=>∃b,cs=[.pointer (Ua ⟨b,0,Ub⟩)]/\Ru w I (· ∈js) tn tq lt lb x b
 |.owo lb,x,js,cs=>∃v,cs=[v]/\Hd w I (· ∈js) lb x v
 |.agg l,x,js,cs=>JX w I l x js cs
 |.fn f l,x,js,cs=>∃n:List Value,cs=[Xa f n]/\JX w I l x js n
 |.nilr,_,js,cs=>js=[]/\(cs=[.pointer Ub]\/cs=[.nilFunc]\/cs=[.map Ub])
 |.nils,_,js,cs=>js=[]/\cs=[.slice Ub 0 0]
 |.any,_,js,_=>js=[]
def JX(w:World)(I:Nat->Prop):(l:Pats)->Kw l->List Nat->List Value->Prop
 |.nil,_,js,cs=>js=[]/\cs=[]
 |.cons p l,x,js,cs=>∃q r k m,js=q++r/\cs=k++m/\PC w I p x.1 q k/\JX w I l x.2 r m
end
def PV(w:World)(I:Nat->Prop)(p:Pat)(x:K6 p)(js:List Nat)(v:Value):Prop:=PC w I p x js v.cells.toList/\(p=.any\/Kd v=p.isAgg)
def JA(w:World)(I:Nat->Prop):(l:Pats)->Kw l->List Nat->List Value->Prop
 |.nil,_,b,vs=>b=[]/\vs=[]
 |.cons p l,x,b,vs=>∃c d v r,b=c++d/\vs=v::r/\PV w I p x.1 c v/\JA w I l x.2 d r
section
variable {w w' :World}{I I' :Nat->Prop}
mutual
theorem PC.mono(n:Kq I w w')(m:∀b,I b->I' b):∀(p:Pat) (x:K6 p) (js:List Nat) (cs:List Value),(∀b∈js,w'.heap[b]? =w.heap[b]?)->PC w I p x js cs->PC w' I' p x js cs
 |.pd t,x,js,cs,_,h=>⟨h.1,Rd.mono n m t x cs h.2⟩
 |.own t k,x,js,cs,d,h=>by
  simp only[PC]at h⊢;rcases h with h|⟨b,cap,cells,e,css,rfl,j,i,r,s,A,S⟩
  ·exact .inl h
  ·exact .inr ⟨b,cap,cells,e,css,rfl,j,(d b (by simp)).trans i,r,s,A.mono λx c q=>Rd.mono n m t x c q,S⟩
 |.var t p,x,js,cs,d,h=>by
  simp only[PC]at h⊢;obtain⟨U,b,y,cells,e,rfl,j,i,r,s⟩:=h
  exact⟨U,b,y,cells,e,rfl,j,(d b (by simp)).trans i,r,PC.mono n m p x y _ (λQ C=>d Q (by simp [C])) s⟩
 |.ro t,x,js,cs,_,h=>by
  simp only[PC]at h⊢;obtain⟨d,b,off,c,j,i,r,s⟩:=h
  exact⟨d,b,off,c,j,m _ i,r.mono (n _ i),Rd.mono n m t x _ s⟩
 |.map z G,x,js,cs,d,h=>by
  simp only[PC]at h⊢;obtain⟨b,es,clock,rfl,j,i,D,r⟩:=h
  exact⟨b,es,clock,rfl,j,(d b (by simp)).trans i,D,r.mono λx e q=>⟨⟨Rd.mono n m z _ _ q.1.1,q.1.2⟩,Rd.mono n m G _ _ q.2.1,q.2.2⟩⟩
 |.rows t k,x,js,cs,d,h=>by
  simp only[PC]at h⊢;obtain⟨v,j,i⟩:=h
  exact⟨v,j,i.mono n m (λ_ h=>h) d⟩
 |.it z G,x,js,cs,d,h=>by
  simp only[PC]at h⊢;obtain⟨b,O,es,clock,since,seen,rfl,R,j,i,r,s,A⟩:=h
  exact⟨b,O,es,clock,since,seen,rfl,R,j,(d b (by simp)).trans i,(d O (by simp)).trans r,s,A.mono λx e q=>⟨⟨Rd.mono n m z _ _ q.1.1,q.1.2⟩,Rd.mono n m G _ _ q.2.1,q.2.2⟩⟩
 |.mrows z t,x,js,cs,d,h=>by
  simp only[PC]at h⊢;obtain⟨v,j,i⟩:=h
  exact⟨v,j,i.mono n m (λ_ h=>h) d⟩
 |.owo lb,x,js,cs,d,h=>by
  simp only[PC]at h⊢;obtain⟨v,j,i⟩:=h
  exact⟨v,j,i.mono n m (λ_ _ h=>h) λb _ u=>d b u⟩
 |.fnd tn tq lt lb,x,js,cs,d,h=>by
  simp only[PC]at h⊢;obtain⟨b,j,i⟩:=h
  exact⟨b,j,i.mono n m (λ_ h=>h) d⟩
 |.agg l,x,js,cs,d,h=>by
  simp only[PC]at h⊢
  exact JX.mono n m l x js cs d h
 |.fn f l,x,js,cs,d,h=>by
  simp only[PC]at h⊢;obtain⟨L,j,i⟩:=h
  exact⟨L,j,JX.mono n m l x js L d i⟩
 |.nilr,_,js,cs,_,h=>by simpa only[PC] using h
 |.nils,_,js,cs,_,h=>by simpa only[PC] using h
 |.any,_,js,cs,_,h=>by simpa only[PC] using h
theorem JX.mono(n:Kq I w w')(m:∀b,I b->I' b):∀(l:Pats) (x:Kw l) (js:List Nat) (cs:List Value),(∀b∈js,w'.heap[b]? =w.heap[b]?)->JX w I l x js cs->JX w' I' l x js cs
 |.nil,_,js,cs,_,h=>by simpa only[JX] using h
 |.cons p l,x,js,cs,d,h=>by simp only[JX]at h⊢;obtain⟨M,N,J,K,rfl,rfl,j,i⟩:=h;exact⟨M,N,J,K,rfl,rfl,PC.mono n m p x.1 M J (λb u=>d b (by simp [u])) j,JX.mono n m l x.2 N K (λb u=>d b (by simp [u])) i⟩
end
theorem PV.mono(e:Kq I w w')(c:∀b,I b->I' b){p:Pat}{x:K6 p}{js:List Nat}{v:Value}(d:∀b∈js,w'.heap[b]? =w.heap[b]?)(h:PV w I p x js v):PV w' I' p x js v:=
 ⟨PC.mono e c p x js _ d h.1,h.2⟩
theorem JA.mono(d:Kq I w w')(c:∀b,I b->I' b):∀{l:Pats}{x:Kw l}{js:List Nat}{vs:List Value},(∀b∈js,w'.heap[b]? =w.heap[b]?)->JA w I l x js vs->JA w' I' l x js vs
 |.nil,_,_,_,_,h=>h
 |.cons p l,x,js,vs,k,h=>by obtain⟨i,j,v,r,rfl,rfl,e,f⟩:=h;exact⟨i,j,v,r,rfl,rfl,e.mono d c (by grind),JA.mono d c (by grind) f⟩
end
section
variable {B:Z1}{H:AH}{w:World}{g:Gh}{ow:Nat->Nat->Prop}{F:Nat->AV}{I:Nat->Prop}
theorem Ht(m:RH B H w g ow){i j:List Nat}{b:Nat}(d:ZP H ow i b)(e:ZP H ow j b):∃id,id∈i/\id∈j:=by have ⟨id,n,f,h⟩:=d;have ⟨c,p,k,l⟩:=e;have:=m.dist id c b f k h l;grind
theorem Ww{i j:List Nat}(h:∀id∈i,id∈j){b:Nat}(e:ZP H ow i b):ZP H ow j b:=
 let ⟨id,c,d⟩:=e;⟨id,h id c,d⟩
noncomputable def D4(w:World)(J:Nat->Prop):List Nat:=(List.range w.heap.size).filter λb=> @decide (J b) (Classical.propDecidable _)
theorem DK{J:Nat->Prop}{b:Nat}:b∈D4 w J↔b<w.heap.size/\J b:=by unfold D4;simp
theorem ZcH{J:Nat->Prop}:(D4 w J).Nodup:=List.nodup_range.filter _
theorem Zdr(e:RH B H w g ow){ids:List Nat}{b:Nat}(h:ZP H ow ids b):b<w.heap.size:=by have ⟨id,_,c,d⟩:=h;exact(e.sep id b c d).2.1
theorem Zu3(s:RH B H w g ow){t:Ty}{v:AV}{cs:List Value}{x:List (El t)}{ids l A:List Nat}(c:CV w g v cs)(h:(JS t v).run H l=Ua ((x,ids),A)):∃val,cs=[val]/\WG w g.I (ZP H ow ids) t x val:=by
 have d:∃val,cs=[val]/\VR w g v val:=by
  cases v with
  |vw id=>exact⟨_,c.2.1,KN (by simp only[CV];exact⟨c.1,trivial,c.2.2⟩) c.2.2 rfl⟩
  |vs id C n=>
   have:∃val,cs=[val]/\val.oneCell' =true:=by
    rcases c.2 with ⟨_,_,_,rfl⟩|⟨b,len,cap,m,_,_,_,_,rfl⟩
    ·exact⟨_,rfl,rfl⟩
    ·exact⟨_,rfl,rfl⟩
   obtain⟨val,rfl,p⟩:=this
   exact⟨val,rfl,KN (by simpa only[CV] using c) p rfl⟩
  |nils=>exact⟨_,c,KN (by simp [CV]) rfl rfl⟩
  |_=>simp [JS,Zb]at h
 obtain⟨val,rfl,z⟩:=d;refine⟨val,rfl,?_⟩;rcases Zdq s z h with ⟨rfl,rfl,rfl⟩|⟨id,rfl,k,⟨rfl,rfl⟩|⟨b,cap,cells,e,i,y,rfl,u,q,r,j,f⟩⟩
 ·exact .inl ⟨rfl,rfl⟩
 ·exact .inl ⟨rfl,rfl⟩
 ·exact .inr ⟨b,cap,cells,e,i,rfl,⟨id,by simp,k,y⟩,u,q,r,j,f⟩
theorem ZmT(n:RH B H w g ow){lb:Ty}{v:AV}{cs:List Value}{x:List (El (.pn lb))}{ids l D:List Nat}(p:CV w g v cs)(h:(Rh lb v).run H l=Ua ((x,ids),D)):∃val,cs=[val]/\Hd w g.I (ZP H ow ids) lb x val:=by
 cases v with
 |vw id=>
  refine⟨_,p.2.1,?_⟩;simp [Rh]at h;rw[Z3]at h;split at h
  ·rename_i G xs c;simp [ZA,Va]at h;obtain⟨J,m,⟨rfl,rfl⟩,_⟩:=h;obtain⟨f,rfl⟩:=KK m;cases f;have ⟨_,_,d⟩:=n.objs id _ c;rcases d with ⟨rfl,_,j⟩|⟨b,cap,cs,e,q,_,A,j,z,t,u,i,C⟩
   ·exact .inl ⟨rfl,j⟩
   ·obtain⟨k,r,s⟩:=ZhF i;exact .inr ⟨b,0,cap,cs,e,k,j,⟨id,by simp,by rw[c];simp,A⟩,z,t,by simpa [Ty.size] using u,s,by rw[<-r];simpa using C⟩
  ·rename_i G xs c;simp [ZA,Va]at h;obtain⟨J,m,⟨rfl,rfl⟩,_⟩:=h;obtain⟨f,rfl⟩:=KK m;cases f;obtain⟨_,_,d⟩:=n.objs id _ c;exact d.mono (λ_ _=>rfl) (λ_ h=>h) (λb _ y=>⟨id,by simp,by rw[c];simp,y⟩) λ_ _ _=>rfl
  ·simp [Zb]at h
 |nils=>
  obtain⟨⟨rfl,rfl⟩,_⟩:=h
  exact⟨_,p,.inl ⟨rfl,rfl⟩⟩
 |_=>simp [Rh,Zb]at h
theorem Zu5(d:RH B H w g ow){t:Ty}{v:AV}{cs:List Value}{x:List (List (El t))}{ids l f:List Nat}(b:CV w g v cs)(h:(Yz t v).run H l=Ua ((x,ids),f)):∃val,cs=[val]/\Xg w g.I (ZP H ow ids) t x val:=by
 have c:∃val,cs=[val]/\VR w g v val:=by
  cases v with
  |vw id=>exact⟨_,b.2.1,KN (by simp only[CV];exact⟨b.1,trivial,b.2.2⟩) b.2.2 rfl⟩
  |nils=>exact⟨_,b,KN (by simp [CV]) rfl rfl⟩
  |_=>simp [Yz,Zb]at h
 obtain⟨val,rfl,e⟩:=c;exact⟨val,rfl,(Zfx d e h).1⟩
mutual
theorem GW(s:RH B H w g ow)(G:∀b,g.I b->I b):∀(p:Pat) (v:AV) (cs:List Value) (x:K6 p) (ids:ZE) (l K:List Nat),(ext p v).run H l=Ua ((x,ids),K)->CV w g v cs->(∀b,ZP H ow ids.br b->I b)->
 ids.tk.Nodup->∃js,PC w I p x js cs/\js.Nodup/\∀b∈js,ZP H ow ids.tk b
 |.pd t,v,cs,x,ids,l,K,h,d,D,_=>by
  simp only[ext,Z2,Zj,Va]at h;obtain⟨⟨x1,W⟩,m,r,⟨rfl,rfl⟩,_⟩:=h
  exact⟨[],⟨rfl,RK s G t v cs x1 W _ _ r d D⟩,.nil,by simp⟩
 |.own t k,v,cs,x,ids,l,K,h,d,D,_=>by
  simp only[ext,Z2,Zj,Va]at h;obtain⟨⟨x1,W⟩,m,r,⟨rfl,rfl⟩,_⟩:=h;have Z:∃val,cs=[val]/\VR w g v val:=by
   cases v with
   |vw id=>simp only[CV]at d;exact⟨_,d.2.1,KN (by simp only[CV];exact⟨d.1,trivial,d.2.2⟩) d.2.2 rfl⟩
   |vs id lo n=>
    simp only[CV]at d;have:∃val,cs=[val]/\val.oneCell' =true:=by
     rcases d.2 with ⟨_,_,_,rfl⟩|⟨b,len,cap,m,_,_,_,_,rfl⟩
     ·exact⟨_,rfl,rfl⟩
     ·exact⟨_,rfl,rfl⟩
    obtain⟨val,rfl,r⟩:=this
    exact⟨val,rfl,KN (by simpa only[CV] using d) r rfl⟩
   |nils=>simp only[CV]at d;exact⟨_,d,KN (by simp only[CV]) rfl rfl⟩
   |_=>simp [JS,Zb]at r
  obtain⟨val,rfl,hv⟩:=Z;rcases Zdq s hv r with ⟨rfl,rfl,rfl⟩|⟨id,rfl,a1,⟨rfl,rfl⟩|⟨b,cap,cells,e,css,ho,rfl,U,L,O,Y,b1⟩⟩
  ·exact⟨[],.inl ⟨rfl,rfl,rfl⟩,.nil,by simp⟩
  ·exact⟨[],.inl ⟨rfl,rfl,rfl⟩,.nil,by simp⟩
  ·exact⟨[b],.inr ⟨b,cap,cells,e,css,rfl,rfl,U,L,O,Y.mono λx c hx=>Rd.mono (λ_ _=>rfl) G t x c hx,b1⟩,by simp,λX A=>by simp only[Ve]at A;subst A;exact⟨id,by simp,a1,ho⟩⟩
 |.var t p,v,cs,x,ids,l,K,h,d,D,S=>by
  simp only[ext]at h;split at h
  ·rename_i id;rw[Z3]at h;split at h
   ·rename_i t' c M;simp only[ZO,Z2,Zj,Zb,ZU,Ka,Vb,Ki,Va]at h;obtain⟨⟨rfl,hf⟩,⟨x1,W⟩,m,r,⟨rfl,rfl⟩,_⟩:=h;obtain⟨_,a0,a8,b,cells,e,q,N,U,a5,Q⟩:=s.objs id _ M;simp only[CV]at d;obtain⟨_,o,t2,X,O,C,rfl⟩:=d;rw[WR]at O;cases O;rw[q]at C;cases C;simp only[Vl]at S;obtain⟨js,h5,h6,h7⟩:=GW s G p c cells.toList x1 W _ _ r Q (λb q=>D b q) S.2;refine⟨b::js,⟨hf,b,js,cells,e,rfl,rfl,U,a5,h5⟩,Vl.2 ⟨λb5=>?_,h6⟩,?_⟩
    ·obtain⟨d3,h8,h9⟩:=Ht s (i:=[id]) ⟨id,by simp,by rw[M];simp,N⟩ (h7 b b5);simp only[Ve]at h8;subst h8;exact S.1 h9
    ·intro X A;rcases Vk.1 A with rfl|A
     ·exact⟨id,by simp,by rw[M];simp,N⟩
     ·exact Ww (λ_ h=>Vda _ h) (h7 X A)
   ·simp [Zb]at h
  ·simp [Zb]at h
 |.ro t,v,cs,x,ids,l,K,h,d,D,_=>by
  simp only[ext]at h;split at h
  ·rename_i id;rw[Z3]at h;split at h
   ·rename_i t0 t' y M;simp only[ZA,Zj,Va]at h;obtain⟨z,V,⟨rfl,rfl⟩,_⟩:=h;obtain⟨rfl,rfl⟩:=KK V;obtain⟨_,a0,a8,b,cells,e,q,N,U,a5,Q⟩:=s.objs id _ M;simp only[CV]at d;obtain⟨_,o,t2,X,O,C,rfl⟩:=d;rw[WR]at O;cases O;rw[q]at C;cases C;have Q:=(show Rd w g.I _ _ cells.toList by simpa only[CV] using Q);refine⟨[],⟨rfl,b,0,cells.toList,rfl,D b ⟨id,by simp,by rw[M];simp,N⟩,?_,Rd.mono (λ_ _=>rfl) G _ _ _ Q⟩,.nil,by simp⟩;have:=KB.of_vec (css:=[cells.toList]) U (by simp);simpa using this
   ·simp [Zb]at h
  ·rename_i t' y;simp only[ZA,Zj,Va]at h;obtain⟨z,V,⟨rfl,rfl⟩,_⟩:=h;obtain⟨rfl,rfl⟩:=KK V;simp only[CV]at d;obtain⟨b,off,c,r,L,O,C⟩:=d;exact⟨[],⟨rfl,b,off,c,r,G _ L,O,Rd.mono (λ_ _=>rfl) G _ _ _ C⟩,.nil,by simp⟩
  ·simp [Zb]at h
 |.map kt vt,v,cs,x,ids,l,K,h,d,D,_=>by
  simp only[ext]at h;split at h
  ·rename_i id;rw[Z3]at h;split at h
   ·rename_i k e m M;simp only[ZA,Zj,Va]at h;obtain⟨z,V,⟨rfl,rfl⟩,_⟩:=h;obtain⟨he,rfl⟩:=KK V;cases he;obtain⟨_,b,es,clock,q,N,U,b7,Y⟩:=s.objs id _ M;simp only[CV]at d;obtain⟨_,X,C,rfl⟩:=d;rw[q]at C;cases C;refine⟨[b],⟨b,es,clock,rfl,rfl,U,b7,Y.mono λkv e hx=>?_⟩,by simp,λX A=>by simp only[Ve]at A;subst A;exact⟨id,by simp,by rw[M];simp,N⟩⟩
    obtain⟨⟨r,L⟩,O,C⟩:=hx;exact⟨⟨Rd.mono (λ_ _=>rfl) G _ _ _ (by simpa only[CV] using r),by simpa [AV.isAgg] using L⟩,Rd.mono (λ_ _=>rfl) G _ _ _ (by simpa only[CV] using O),by simpa [AV.isAgg] using C⟩
   ·simp [Zb]at h
  ·simp [Zb]at h
 |.it kt vt,v,cs,x,ids,l,K,h,d,D,_=>by
  simp only[ext]at h;split at h
  ·rename_i id;rw[Z3]at h;split at h
   ·rename_i k e m cur M;simp only[ZA,Zj,Va]at h;obtain⟨z,V,⟨rfl,rfl⟩,_⟩:=h;obtain⟨he,rfl⟩:=KK V;cases he;obtain⟨_,b,mb,es,clock,since,seen,a0,q,N,b0,U,hm,O,Y,_⟩:=s.objs id _ M;simp only[CV]at d;obtain⟨_,o',t',X,r,C,rfl⟩:=d;rw[a0,WR]at r;cases r;rw[q]at C;cases C;have a9:b≠mb:=by intro b6;rw[b6,hm]at U;cases U
    refine⟨[b,mb],⟨b,mb,es,clock,since,seen,rfl,a9,rfl,U,hm,O,Y.mono λkv e hx=>?_⟩,by simp [a9],λX A=>by
     simp only[Vk,List.not_mem_nil,Ka]at A;rcases A with rfl|rfl
     ·exact⟨id,by simp,by rw[M];simp,N⟩
     ·exact⟨id,by simp,by rw[M];simp,b0⟩⟩
    obtain⟨⟨r,L⟩,O,C⟩:=hx;exact⟨⟨Rd.mono (λ_ _=>rfl) G _ _ _ (by simpa only[CV] using r),by simpa [AV.isAgg] using L⟩,Rd.mono (λ_ _=>rfl) G _ _ _ (by simpa only[CV] using O),by simpa [AV.isAgg] using C⟩
   ·simp [Zb]at h
  ·simp [Zb]at h
 |.rows t k,v,cs,x,ids,l,K,h,d,D,_=>by
  simp only[ext,Z2,Zj,Va]at h;obtain⟨⟨x1,W⟩,m,r,⟨rfl,rfl⟩,_⟩:=h;have Z:∃val,cs=[val]/\VR w g v val:=by
   cases v with
   |vw id=>simp only[CV]at d;exact⟨_,d.2.1,KN (by simp only[CV];exact⟨d.1,trivial,d.2.2⟩) d.2.2 rfl⟩
   |nils=>simp only[CV]at d;exact⟨_,d,KN (by simp only[CV]) rfl rfl⟩
   |_=>simp [Yz,Zb]at r
  obtain⟨val,rfl,hv⟩:=Z;obtain⟨a4,_⟩:=Zfx s hv r
  exact⟨D4 w (ZP H ow W),⟨val,rfl,a4.mono (λ_ _=>rfl) G (λb q=>DK.2 ⟨Zdr s q,q⟩) λ_ _=>rfl⟩,ZcH,λb q=>(DK.1 q).2⟩
 |.mrows kt t,v,cs,x,ids,l,K,h,d,D,_=>by
  simp only[ext]at h;split at h
  ·rename_i id;rw[Z3]at h;split at h
   ·rename_i k t' m u M;simp only[ZA,Zj,Va]at h;obtain⟨z,V,⟨rfl,rfl⟩,_⟩:=h;obtain⟨he,rfl⟩:=KK V;cases he;obtain⟨b,q,hm⟩:=Hb.of_obj (s.objs id _ M).2;simp only[CV]at d;obtain⟨_,X,C,rfl⟩:=d;rw[q]at C;cases C;have R:∀b,ow id b->ZP H ow [id] b:=λb q=>⟨id,by simp,by rw[M];simp,q⟩;exact⟨D4 w (ZP H ow [id]),⟨_,rfl,hm.mono (λ_ _=>rfl) G (λb q=>DK.2 ⟨Zdr s (R b q),R b q⟩) λ_ _=>rfl⟩,ZcH,λb q=>(DK.1 q).2⟩
   ·simp [Zb]at h
  ·simp [Zb]at h
 |.owo lb,v,cs,x,ids,l,K,h,d,D,_=>by
  simp only[ext,Z2,Zj,Va]at h;obtain⟨⟨x1,W⟩,m,r,⟨rfl,rfl⟩,_⟩:=h;obtain⟨val,rfl,hv⟩:=ZmT s d r
  exact⟨D4 w (ZP H ow W),⟨val,rfl,hv.mono (λ_ _=>rfl) G (λb _ q=>DK.2 ⟨Zdr s q,q⟩) λ_ _ _=>rfl⟩,ZcH,λb q=>(DK.1 q).2⟩
 |.fnd tn tq lt lb,v,cs,x,ids,l,K,h,d,D,S=>by
  simp only[ext]at h;split at h
  ·rename_i id;rw[Z3]at h;split at h
   ·rename_i d8 d9 d5 d4 bs M;simp only[ZA,Zj]at h;obtain⟨z,V,⟨rfl,rfl⟩,_⟩:=h;obtain⟨he,rfl⟩:=KK V;cases he;obtain⟨_,a0,b,q,hm⟩:=s.objs id _ M;simp only[CV]at d;obtain⟨_,o',t',X,r,C,rfl⟩:=d;rw[WR]at r;cases r;rw[q]at C;cases C;have R:∀b,ow id b->ZP H ow [id] b:=λb q=>⟨id,by simp,by rw[M];simp,q⟩;exact⟨D4 w (ZP H ow [id]),⟨b,rfl,hm.mono (λ_ _=>rfl) G (λb q=>DK.2 ⟨Zdr s (R b q),R b q⟩) λ_ _=>rfl⟩,ZcH,λb q=>(DK.1 q).2⟩
   ·rename_i t v1 v2 v3 v4 v5 v6 M;simp only[ZO,Z2,ZA,Zj,Zb,ZU,Ka,Ki,Va]at h;obtain⟨rfl,⟨y1,W⟩,m1,e1,⟨y2,i2⟩,m2,e2,⟨y3,i3⟩,m3,e3,⟨y4,i4⟩,m4,e4,⟨y5,i5⟩,m5,e5,⟨y6,i6⟩,m6,e6,z,V,⟨rfl,rfl⟩,_⟩:=h;obtain⟨ad,c8,b2⟩:=Zw7 V;simp only[WH,Va]at b2;obtain⟨rfl,rfl,rfl,rfl,rfl,rfl⟩:=b2;obtain⟨_,a0,a8,b,cells,e,q,N,U,a5,Q⟩:=s.objs id _ M;simp only[CV]at d;obtain⟨_,o',t',X,r,C,rfl⟩:=d;rw[WR]at r;cases r;rw[q]at C;cases C;simp only[CV,Kg]at Q;obtain⟨c1,r1,c7,k1,c2,r2,rfl,k2,c3,r3,rfl,k3,c4,r4,rfl,k4,c5,r5,rfl,k5,c6,r6,rfl,k6,rfl⟩:=Q;obtain⟨c9,rfl,g4⟩:=Zu5 s k4 e4;obtain⟨d0,rfl,g5⟩:=ZmT s k5 e5;obtain⟨d1,rfl,g6⟩:=Zu3 s k6 e6;simp only at S D;simp only[Vl,Vh,Vi,not_or]at S;obtain⟨⟨n4,n5,n6⟩,d6,⟨_,_,d7⟩,d2⟩:=S;have a1:ZP H ow [id] b:=⟨id,by simp,by rw[M];simp,N⟩;have dj:∀{i j:List Nat}{k:Nat},ZP H ow i k->ZP H ow j k->∃n,n∈i/\n∈j:=λr L=>Ht s r L;have a2:∀{i:List Nat}{k:Nat},(∀n∈i,n∈id::(i4++(i5++i6)))->ZP H ow i k->k∈D4 w (ZP H ow (id::(i4++(i5++i6)))):=λhi J=>DK.2 ⟨Zdr s J,Ww hi J⟩;have a3:∀{i:List Nat}{k:Nat},id ∉ i->ZP H ow i k->k≠b:=by intro i k hi J e;subst e;obtain⟨n,r,L⟩:=dj a1 J;simp only[Ve]at r;exact hi (r▸L)
    refine⟨D4 w (ZP H ow (id::(i4++(i5++i6)))),⟨b,rfl,a2 (by simp) a1,ad,ZP H ow i4,ZP H ow i5,ZP H ow i6,c8,λk J=>⟨a2 (by grind) J,a3 n4 J,λh5=>?_,λh6=>?_⟩,λk J=>⟨a2 (by grind) J,a3 n5 J,λh6=>?_⟩,λk J=>⟨a2 (by grind) J,a3 n6 J⟩,
     cells,e,c1,c2,c3,c9,d0,d1,U,by simpa using c7,RK s G tn v1 c1 _ W _ _ e1 k1 λk J=>D k (Ww (by grind) J),RK s G tq v2 c2 _ i2 _ _ e2 k2 λk J=>D k (Ww (by grind) J),RK s G lt v3 c3 _ i3 _ _ e3 k3 λk J=>D k (Ww (by grind) J),
     g4.mono (λ_ _=>rfl) G (λ_ h=>h) λ_ _=>rfl,g5.mono (λ_ _=>rfl) G (λ_ _ h=>h) λ_ _ _=>rfl,g6.mono (λ_ _=>rfl) G (λ_ _ h=>h) λ_ _ _=>rfl⟩,ZcH,λk J=>(DK.1 J).2⟩
    ·obtain⟨n,r,L⟩:=dj J h5;grind
    ·obtain⟨n,r,L⟩:=dj J h6;grind
    ·obtain⟨n,r,L⟩:=dj J h6;grind
   ·simp [Zb]at h
  ·simp [Zb]at h
 |.agg pl,v,cs,x,ids,l,K,h,d,D,S=>by
  simp only[ext]at h;split at h
  ·rename_i vs;simp only[CV]at d;obtain⟨js,r,L⟩:=ZeR s G pl vs cs x ids l K h d D S;exact⟨js,r,L⟩
  ·rename_i t y;simp only[ZO,Zb,ZU,Ka]at h;obtain⟨hf,h⟩:=h;obtain⟨js,r,L⟩:=ZeR s G pl _ cs x ids l K h (Zlc t y cs hf (by simpa only[CV] using d)) D S;exact⟨js,r,L⟩
  ·simp [Zb]at h
 |.fn f pl,v,cs,x,ids,l,K,h,d,D,S=>by
  simp only[ext]at h;split at h
  ·rename_i f' a6;simp only[ZO,Zb,ZU,Ka]at h;obtain⟨hf,h⟩:=h;have hf:=Vm hf;subst hf;simp only[CV]at d;obtain⟨cc,rfl,b8⟩:=d;obtain⟨js,r,L⟩:=ZeR s G pl a6 cc x ids l K h b8 D S;exact⟨js,⟨cc,rfl,r⟩,L⟩
  ·simp [Zb]at h
 |.nilr,v,cs,x,ids,l,K,h,d,D,_=>by
  simp only[ext]at h;split at h
  ·simp only[Zj,Va]at h;obtain⟨⟨_,rfl⟩,_⟩:=h;have d:=ZbT d;exact⟨[],⟨rfl,d⟩,.nil,by simp⟩
  ·simp [Zb]at h
 |.nils,v,cs,x,ids,l,K,h,d,D,_=>by
  simp only[ext]at h;split at h
  ·simp only[Zj,Va]at h;obtain⟨⟨_,rfl⟩,_⟩:=h;simp only[CV]at d;exact⟨[],⟨rfl,d⟩,.nil,by simp⟩
  ·simp [Zb]at h
 |.any,v,cs,x,ids,l,K,h,d,D,_=>by simp only[ext,Zj,Va]at h;obtain⟨⟨_,rfl⟩,_⟩:=h;exact⟨[],rfl,.nil,by simp⟩
theorem ZeR(s:RH B H w g ow)(G:∀b,g.I b->I b):∀(pl:Pats) (v:Zo) (cs:List Value) (x:Kw pl) (ids:ZE) (l K:List Nat),(WK pl v).run H l=Ua ((x,ids),K)->Kg w g v cs->(∀b,ZP H ow ids.br b->I b)->
 ids.tk.Nodup->∃js,JX w I pl x js cs/\js.Nodup/\∀b∈js,ZP H ow ids.tk b
 |.nil,.nil,cs,x,ids,l,K,h,d,D,_=>by
  simp only[WK,Zj,Va]at h;obtain⟨⟨_,rfl⟩,_⟩:=h;simp only[Kg]at d
  exact⟨[],⟨rfl,d⟩,.nil,by simp⟩
 |.cons p pl,.cons v vs,cs,x,ids,l,K,h,d,D,S=>by
  simp only[WK,Z2,Zj,Va]at h;obtain⟨⟨x1,W⟩,m1,r,⟨x2,i2⟩,m2,L,⟨rfl,rfl⟩,_⟩:=h;simp only[Kg]at d;obtain⟨c1,c2,rfl,O,C⟩:=d;have b9:(W.tk++i2.tk).Nodup:=S;obtain⟨n1,n2,n3⟩:=Vh.1 b9;obtain⟨j1,h5,h6,h7⟩:=GW s G p v c1 x1 W _ _ r O (λb q=>D b (Ww (λ_ h=>by simp [ZE.app,h]) q)) n1;obtain⟨j2,h8,h9,a7⟩:=ZeR s G pl vs c2 x2 i2 _ _ L C (λb q=>D b (Ww (λ_ h=>by simp [ZE.app,h]) q)) n2;refine⟨j1++j2,⟨j1,j2,c1,c2,rfl,rfl,h5,h8⟩,Vh.2 ⟨h6,h9,λb q X A e=>?_⟩,λb q=>?_⟩
  ·subst e;obtain⟨id,b3,b4⟩:=Ht s (h7 b q) (a7 b A);exact n3 id b3 id b4 rfl
  ·rcases Vi.1 q with q|q
   ·exact Ww (λ_ h=>by simp [ZE.app,h]) (h7 b q)
   ·exact Ww (λ_ h=>by simp [ZE.app,h]) (a7 b q)
 |.nil,.cons _ _,_,_,_,_,_,h,_,_,_=>by simp [WK,Zb]at h
 |.cons _ _,.nil,_,_,_,_,_,h,_,_,_=>by simp [WK,Zb]at h
end
end
end Tr
end
section
namespace Tr
open Go
def Wh(l:List (Nat×K5)):KF:=l.map λo=>(o.1,Ua o.2)
theorem Zds{k:Nat}:∀{l:KF}{H:AH},(∀p∈l,p.1≠k)->Zs H l k=H k
 |[],_,_=>rfl
 |p::l,H,h=>by simp [Zs];rw[Zds (by grind),Ky (by grind)]
theorem Zxa{H:AH}{i k:Nat}{o u:Option K5}(h:i≠k):Z0 (Z0 H i o) k u=Z0 (Z0 H k u) i o:=by
 funext j;by_cases b:j=i
 ·subst b;rw[Ky h,XL,XL]
 ·by_cases c:j=k
  ·subst c;rw[XL,Ky b,XL]
  ·rw[Ky c,Ky b,Ky b,Ky c]
theorem Zfz{k:Nat}{o:Option K5}:∀{l:KF}{H:AH},(∀p∈l,p.1≠k)->Zs (Z0 H k o) l=Z0 (Zs H l) k o
 |[],_,_=>rfl
 |p::l,H,h=>by simp [Zs];rw[<-Zfz (by grind),Zxa (by grind)]
mutual
theorem Yf:∀(p:Pat) (x:K6 p) (n:Nat),n<=(inj p x n).2.2/\∀o∈(inj p x n).2.1,n<=o.1/\o.1<(inj p x n).2.2
 |.pd _,_,n=>⟨Vd _,by simp [inj]⟩
 |.own _ _,_,n=>⟨by simp [inj],by simp [inj]⟩
 |.var t p,x,n=>by
  obtain⟨d,c⟩:=Yf p x (n+1);refine⟨by simp only[inj];omega,λo b=>?_⟩;simp only[inj,Vk]at b⊢;rcases b with rfl|b
  ·exact⟨Vd _,by show n<_;omega⟩
  ·have:=c o b;omega
 |.ro _,_,n=>⟨Vd _,by simp [inj]⟩
 |.map _ _,_,n=>⟨by simp [inj],by simp [inj]⟩
 |.rows _ _,_,n=>⟨by simp [inj],by simp [inj]⟩
 |.mrows _ _,_,n=>⟨by simp [inj],by simp [inj]⟩
 |.it _ _,_,n=>⟨by simp [inj],by simp [inj]⟩
 |.fnd _ _ _ _,_,n=>⟨by simp [inj],by simp [inj]⟩
 |.owo _,_,n=>⟨by simp [inj],by simp [inj]⟩
 |.agg l,x,n=>by simpa only[inj] using ZaE l x n
 |.fn f l,x,n=>by simpa only[inj] using ZaE l x n
 |.nilr,_,n=>⟨Vd _,by simp [inj]⟩
 |.nils,_,n=>⟨Vd _,by simp [inj]⟩
 |.any,_,n=>⟨Vd _,by simp [inj]⟩
theorem ZaE:∀(l:Pats) (x:Kw l) (n:Nat),n<=(Kb l x n).2.2/\∀o∈(Kb l x n).2.1,n<=o.1/\o.1<(Kb l x n).2.2
 |.nil,_,n=>⟨Vd _,by simp [Kb]⟩
 |.cons p l,x,n=>by
  obtain⟨d,c⟩:=Yf p x.1 n;obtain⟨h,e⟩:=ZaE l x.2 (inj p x.1 n).2.2;refine⟨by simp only[Kb];omega,λo b=>?_⟩;simp only[Kb,Vi]at b⊢;rcases b with b|b
  ·have:=c o b;omega
  ·have:=e o b;omega
end
mutual
theorem ZhU:∀(p:Pat) (t:Ty) (x:K6 p) (n:Nat),p.fits t=Uc->(inj p x n).1.fits t=Uc
 |.pd b,t,x,n,h=>by simpa [inj,AV.fits,Pat.fits] using h
 |.own b k,t,x,n,h=>by cases t<;>simp [Pat.fits]at h;simp [inj,AV.fits]
 |.var _ p,t,x,n,h=>by cases t<;>simp [Pat.fits]at h;simp [inj,AV.fits]
 |.ro _,t,x,n,h=>by cases t<;>simp [Pat.fits]at h;simp [inj,AV.fits]
 |.map _ _,t,x,n,h=>by cases t<;>simp [Pat.fits]at h;simp [inj,AV.fits]
 |.fn _ _,t,x,n,h=>by cases t<;>simp [Pat.fits]at h;simp [inj,AV.fits]
 |.nilr,t,x,n,h=>by cases t<;>simp [Pat.fits]at h;simp [inj,AV.fits]
 |.nils,t,x,n,h=>by cases t<;>simp [Pat.fits]at h;simp [inj,AV.fits]
 |.agg l,t,x,n,h=>by
  have:=ZlK l t x n (by simpa only[Pat.fits] using h)
  simpa only[inj,AV.fits] using this
 |.rows b k,t,x,n,h=>by
  cases t with
  |sl t=>simp [inj,AV.fits]
  |_=>simp [Pat.fits]at h
 |.mrows _ _,t,x,n,h=>by cases t<;>simp [Pat.fits]at h;simp [inj,AV.fits]
 |.it _ _,t,x,n,h=>by cases t<;>simp [Pat.fits]at h;simp [inj,AV.fits]
 |.fnd _ _ _ _,t,x,n,h=>by cases t<;>simp [Pat.fits]at h;simp [inj,AV.fits]
 |.owo _,t,x,n,h=>by cases t<;>simp [Pat.fits]at h;simp [inj,AV.fits]
 |.any,t,_,_,h=>by simp [Pat.fits]at h
theorem ZlK:∀(l:Pats) (t:Ty) (x:Kw l) (n:Nat),l.fits t=Uc->(Kb l x n).1.fits t=Uc
 |.nil,t,_,_,h=>by cases t<;>simp [Pats.fits]at h;simp [Kb,Zo.fits]
 |.cons p l,t,x,n,h=>by
  cases t<;>simp only[Pats.fits,Vb,Via]at h
  simp only[Kb,Zo.fits,Vb];exact⟨ZhU p _ x.1 n h.1,ZlK l _ x.2 _ h.2⟩
end
structure W5 (B:Z1) (H:AH) (w:World) (g:Gh) (ow:Nat->Nat->Prop) (js:List Nat):Prop where
 nodup:js.Nodup
 free:∀b∈js,¬g.I b/\b<w.heap.size/\(B.own0 b\/B.w0.heap.size<=b)/\∀id,H id≠Ub->¬ow id b
structure HE (tk:List Nat) (g g' :Gh):Prop where
 I:g'.I=g.I
 ver:∀id,g.K id->id ∉ tk->g'.ver id=g.ver id
theorem HE.refl(tk:List Nat)(g:Gh):HE tk g g:=⟨rfl,by omega⟩
theorem HE.weak{tk b:List Nat}{g c:Gh}(h:HE tk g c)(f:∀id∈tk,id∈b):HE b g c:=⟨h.I,λid d e=>h.ver id d (by grind)⟩
theorem HE.after{tk:List Nat}{g b c:Gh}(e:HE tk b c)(d:HE tk g b)(i:g.Le b):HE tk g c:=
 ⟨e.I.trans d.I,λid f h=>(e.ver id (i.K id f) h).trans (d.ver id f h)⟩
theorem HE.add{g:Gh}{n:Nat}(d:¬g.K n)(t:Ty)(b:Option Nat)(v:Value)(r:(c:Ty)->El c->Value):HE [] g (g.add n t b v r):=
 ⟨rfl,λid h _=>Zg (by grind)⟩
def Jg(B:Z1)(H:AH)(w:World)(g:Gh)(ow:Nat->Nat->Prop)(js:List Nat)(n e:Nat)(H' :AH)(C:Gh->Prop):Prop:=
 ∃c d,g.Le c/\HE [] g c/\RH B H' w c d/\C c/\(∀id,c.K id->g.K id\/(n<=id/\id<e))/\(∀id b,H' id≠Ub->d id b->(H id≠Ub/\ow id b)\/b∈js)
section
variable {B:Z1}{H:AH}{w:World}{g:Gh}{ow:Nat->Nat->Prop}
theorem Jg.none(c:RH B H w g ow){C:Gh->Prop}(n:Nat)(b:C g):Jg B H w g ow [] n n H C:=
 ⟨g,ow,.refl g,.refl [] g,c,b,by grind,by grind⟩
theorem Jg.one(l:RH B H w g ow){js:List Nat}{n:Nat}{o:K5}{t:Ty}{b:Option Nat}{v:Value}{r:(q:Ty)->El q->Value}{C:Gh->Prop}(d:¬g.K n)(m:W5 B H w g ow js)
 (p:ORel w (g.add n t b v r) (· ∈js) n o) (j:C (g.add n t b v r)):Jg B H w g ow js n (n+1) (Z0 H n (Ua o)) C:=by
 refine⟨g.add n t b v r,Xk ow n (· ∈js),Gh.le_add d t b v r,.add d t b v r,l.add d (by simp) (Vd _) rfl rfl ⟨rfl,Vd _⟩ (λk e=>m.free k e) p,j,λid h=>?_,λid s i f=>?_⟩
 ·rcases h with rfl|h
  all_goals grind
 ·by_cases c:id=n
  ·subst c;rw[J4]at f;grind
  ·rw[Ky c]at i;rw[Jd c]at f;grind
theorem W5.sub{js ks:List Nat}(h:W5 B H w g ow js)(c:ks.Sublist js):W5 B H w g ow ks:=⟨h.nodup.sublist c,λb d=>h.free b (c.subset d)⟩
theorem W5.after{js ks:List Nat}(h:W5 B H w g ow (js++ks)){d:Gh}{c:Nat->Nat->Prop}{H' :AH}(l:d.I=g.I)(n:∀id b,H' id≠Ub->c id b->(H id≠Ub/\ow id b)\/b∈js):W5 B H' w d c ks:=by have ⟨p,e,q⟩:=Vh.1 h.nodup;refine⟨e,λb m=>?_⟩;have ⟨f,i,j,k⟩:=h.free b (by grind);grind
mutual
theorem Zc8:∀(p:Pat) {H:AH}{g:Gh}{ow:Nat->Nat->Prop} (_:RH B H w g ow) (x:K6 p) (js:List Nat) (cs:List Value) (n:Nat),PC w g.I p x js cs->W5 B H w g ow js->(∀id,n<=id->id<(inj p x n).2.2->¬g.K id)->
 Jg B H w g ow js n (inj p x n).2.2 (Zs H (Wh (inj p x n).2.1)) λR=>CV w R (inj p x n).1 cs
 |.pd t,H,g,ow,c,x,js,cs,n,h,_,_=>by
  obtain⟨rfl,h⟩:=h
  exact Jg.none c n (by simpa only[inj,CV] using h)
 |.own t k,H,g,ow,c,x,js,cs,n,h,d,i=>by
  rcases h with ⟨rfl,rfl,rfl⟩|⟨b,cap,cells,e,css,rfl,rfl,m,s,D,h4,L⟩
  ·exact Jg.one (t:=t) (b:=Ub) (v:=.slice Ub 0 0) (r:=λ_ _=>.slice Ub 0 0) c (i n (Vd _) (by simp [inj])) d ⟨by simp [Gh.add],.inl ⟨rfl,by simp [Gh.add],by simp [Gh.add]⟩⟩
    (by simp only[inj,CV];exact⟨.inl rfl,by simp [Gh.add],by simp [Gh.add];rfl⟩)
  ·exact Jg.one (t:=t) (b:=Ua b) (v:=.slice (Ua ⟨b,0,Option.none⟩) x.length cap) (r:=λ_ _=>.slice Option.none 0 0) c (i n (Vd _) (by simp [inj])) d
    ⟨by simp [Gh.add],.inr ⟨b,cap,cells,e,css,by simp [Gh.add],by simp,by simp [Gh.add],m,s,D,h4,L⟩⟩
    (by simp only[inj,CV];exact⟨.inl rfl,by simp [Gh.add],by simp [Gh.add];rfl⟩)
 |.var t p,H,g,ow,c,x,js,cs,n,h,d,i=>by
  obtain⟨a7,b,a9,cells,e,rfl,rfl,m,s,D⟩:=h;have hn:=(Yf p x (n+1)).1;obtain⟨S,z,M,G,r1,Q,k1,N⟩:=Zc8 p c x a9 cells.toList (n+1) D (d.sub (Vqa _ _)) (λid h h' =>i id (by omega) (by simpa only[inj] using h'));have X:¬S.K n:=λh=>by
   rcases k1 n h with h|h
   ·exact i n (Vd _) (by simp only[inj];omega) h
   ·omega
  have a6:W5 B (Zs H (Wh (inj p x (n+1)).2.1)) w S z [b]:=by
   obtain⟨L,h6⟩:=Vl.1 d.nodup;refine⟨by simp,λA V=>?_⟩;simp only[Ve]at V;subst V;obtain⟨j,U,u,a1⟩:=d.free A (by simp);refine⟨by rw[G.I];exact j,U,u,λid a2 a3=>?_⟩;rcases N id A a2 a3 with ⟨J,a4⟩|J
   ·exact a1 id J a4
   ·exact L J
  obtain⟨g2,O,l2,i2,r2,c2,k2,o2⟩:=Jg.one (o:=.var t (inj p x (n+1)).1) (t:=t) (b:=Ua b) (v:=.slice Ub 0 0) (r:=λ_ _=>.slice Ub 0 0) (C:=λR=>CV w R (.ptr n []) [.pointer (Ua ⟨b,0,Ub⟩)]) r1 X a6
   ⟨by simp [Gh.add],ZhU p t x (n+1) a7,b,cells,e,by simp [Gh.add],by simp,m,s,Q.mono (λ_ _=>rfl) (Gh.le_add X _ _ _)⟩
   (by simp only[CV];exact⟨.inl rfl,0,t,b,by simp [Gh.add,WR],by simp [Gh.add],rfl⟩)
  have hH:Zs H (Wh (inj (.var t p) x n).2.1)=Z0 (Zs H (Wh (inj p x (n+1)).2.1)) n (Ua (.var t (inj p x (n+1)).1)):=by
   have:Wh (inj (.var t p) x n).2.1=(n,Ua (.var t (inj p x (n+1)).1))::Wh (inj p x (n+1)).2.1:=by simp [inj,Wh]
   rw[this];simp only[Zs];refine Zfz λq hq=>?_;simp only[Wh,Vfb]at hq;obtain⟨o,Y,rfl⟩:=hq;have:=((Yf p x (n+1)).2 o Y).1;show o.1≠n;omega
  rw[hH];refine⟨g2,O,M.trans l2,i2.after G M,r2,by simpa only[inj] using c2,λid h=>?_,λid A L h6=>?_⟩
  ·simp only[inj];rcases k2 id h with h|h
   ·rcases k1 id h with h|h
    ·exact .inl h
    ·exact .inr (by omega)
   ·exact .inr (by omega)
  ·rcases o2 id A L h6 with ⟨j,U⟩|j
   ·rcases N id A j U with u|u
    ·exact .inl u
    ·exact .inr (by simp [u])
   ·simp only[Ve]at j;exact .inr (by simp [j])
 |.ro t,H,g,ow,c,x,js,cs,n,h,_,_=>by
  obtain⟨rfl,h⟩:=h
  exact Jg.none c n (by simpa only[inj,CV] using h)
 |.map kt vt,H,g,ow,c,x,js,cs,n,h,d,i=>by
  obtain⟨b,es,clock,rfl,rfl,m,a5,s⟩:=h;exact Jg.one (t:=.unit) (b:=Ua b) (v:=.slice Ub 0 0) (r:=λ_ _=>.slice Ub 0 0) c (i n (Vd _) (by simp [inj])) d
   ⟨b,es,clock,by simp [Gh.add],by simp,m,a5,s.mono λkv e y=>⟨⟨by simp only[CV];exact y.1.1,.inr (by simpa [AV.isAgg] using y.1.2)⟩,⟨by simp only[CV];exact y.2.1,.inr (by simpa [AV.isAgg] using y.2.2)⟩⟩⟩
   (by simp only[inj,CV];exact⟨.inl rfl,b,by simp [Gh.add],rfl⟩)
 |.it kt vt,H,g,ow,c,x,js,cs,n,h,d,i=>by
  obtain⟨b,mb,es,clock,since,seen,rfl,b0,rfl,m,s,D,h4⟩:=h;exact Jg.one (t:=.ref) (b:=Ua b) (v:=undef) (r:=λ_ _=>.slice Ub 0 0) c (i n (Vd _) (by simp [inj])) d
   ⟨b,mb,es,clock,since,seen,by simp [Gh.add],by simp [Gh.add],by simp,by simp,m,s,D,h4.mono λkv e y=>⟨⟨by simp only[CV];exact y.1.1,.inr (by simpa [AV.isAgg] using y.1.2)⟩,⟨by simp only[CV];exact y.2.1,.inr (by simpa [AV.isAgg] using y.2.2)⟩⟩,λkv a8=>by cases a8⟩
   (by simp only[inj,CV];exact⟨.inl rfl,0,.ref,b,by simp [Gh.add,WR],by simp [Gh.add],rfl⟩)
 |.rows t k,H,g,ow,c,x,js,cs,n,h,d,i=>by
  obtain⟨v,rfl,h⟩:=h;obtain⟨b,r,Y⟩:=h.obj n;have a0:v.oneCell' =true:=by
   obtain⟨hd,_,h⟩:=h;rcases h with ⟨_,rfl⟩|⟨_,_,_,_,_,_,rfl,_⟩<;>rfl
  exact Jg.one (t:=.sl t) (b:=b) (v:=v) (r:=r) c (i n (Vd _) (by simp [inj])) d Y (by simp only[inj,CV];exact⟨.inl rfl,by simp [Gh.add],by simp [Gh.add,a0]⟩)
 |.mrows kt t,H,g,ow,c,x,js,cs,n,h,d,i=>by
  obtain⟨v,rfl,h⟩:=h;have hv:∃b,v=.map (Ua b):=by obtain⟨_,b,_,_,h,_⟩:=h;exact⟨b,h⟩
  obtain⟨b,rfl⟩:=hv;obtain⟨r,Y⟩:=h.obj n
  exact Jg.one (t:=.sl t) (b:=Ua b) (v:=undef) (r:=r) c (i n (Vd _) (by simp [inj])) d Y (by simp only[inj,CV];exact⟨.inl rfl,b,by simp [Gh.add],rfl⟩)
 |.owo lb,H,g,ow,c,x,js,cs,n,h,d,i=>by
  obtain⟨v,rfl,h⟩:=h;have Z:v.oneCell' =true:=by
   rcases h with ⟨_,rfl⟩|⟨_,_,_,_,_,_,rfl,_⟩<;>rfl
  exact Jg.one (o:=.vco lb x) (t:=.pn lb) (b:=Ub) (v:=v) (r:=λ_ _=>.slice Ub 0 0) c (i n (Vd _) (by simp [inj])) d ⟨by simp [Gh.add],by
   have e:(g.add n (.pn lb) Ub v (λ_ _=>.slice Ub 0 0)).slv n=v:=by simp [Gh.add]
   rw[e];exact h⟩
   (by simp only[inj,CV];exact⟨.inl rfl,by simp [Gh.add],by simp [Gh.add,Z]⟩)
 |.fnd tn tq lt lb,H,g,ow,c,x,js,cs,n,h,d,i=>by
  obtain⟨b,rfl,h⟩:=h;exact Jg.one (o:=.fnd tn tq lt lb x) (t:=Jk tn tq lt lb) (b:=Ua b) (v:=.slice Ub 0 0) (r:=λ_ _=>.slice Ub 0 0) c (i n (Vd _) (by simp [inj])) d ⟨.inl (by simp [Gh.add]),b,by simp [Gh.add],h⟩
   (by simp only[inj,CV];exact⟨.inl rfl,0,Jk tn tq lt lb,b,by simp [Gh.add,WR],by simp [Gh.add],rfl⟩)
 |.agg l,H,g,ow,c,x,js,cs,n,h,d,i=>by
  simp only[PC]at h;simp only[inj,CV]
  exact ZhV l c x js cs n h d (by simpa only[inj] using i)
 |.fn f l,H,g,ow,c,x,js,cs,n,h,d,i=>by
  simp only[PC]at h;obtain⟨cc,rfl,h⟩:=h;simp only[inj,CV];obtain⟨S,z,M,G,r1,Q,k1,N⟩:=ZhV l c x js cc n h d (by simpa only[inj] using i)
  exact⟨S,z,M,G,r1,⟨cc,rfl,Q⟩,k1,N⟩
 |.nilr,H,g,ow,c,x,js,cs,n,h,_,_=>by
  obtain⟨rfl,h⟩:=h
  exact Jg.none c n (by simpa only[inj,CV,true_and] using h)
 |.nils,H,g,ow,c,x,js,cs,n,h,_,_=>by
  obtain⟨rfl,h⟩:=h
  exact Jg.none c n (by simpa only[inj,CV] using h)
 |.any,H,g,ow,c,x,js,cs,n,h,_,_=>by obtain rfl:=h;exact Jg.none c n (by simp only[inj,CV])
theorem ZhV:∀(l:Pats) {H:AH}{g:Gh}{ow:Nat->Nat->Prop} (_:RH B H w g ow) (x:Kw l) (js:List Nat) (cs:List Value) (n:Nat),JX w g.I l x js cs->W5 B H w g ow js->(∀id,n<=id->id<(Kb l x n).2.2->¬g.K id)->
 Jg B H w g ow js n (Kb l x n).2.2 (Zs H (Wh (Kb l x n).2.1)) λR=>Kg w R (Kb l x n).1 cs
 |.nil,H,g,ow,c,x,js,cs,n,h,_,_=>by
  obtain⟨rfl,rfl⟩:=h
  exact Jg.none c n (by simp only[Kb,Kg])
 |.cons p l,H,g,ow,c,x,js,cs,n,h,d,i=>by
  obtain⟨j1,j2,Q,c2,rfl,rfl,m,s⟩:=h;have n1:=(Yf p x.1 n).1;have n2:=(ZaE l x.2 (inj p x.1 n).2.2).1;have W:∀id,n<=id->id<(Kb l x.2 (inj p x.1 n).2.2).2.2->¬g.K id:=by simpa only[Kb] using i
  obtain⟨S,z,M,G,r1,d1,k1,N⟩:=Zc8 p c x.1 j1 Q n m (d.sub (Vn _ _)) λid h h' =>W id h (by omega);obtain⟨g2,O,l2,i2,r2,d2,k2,o2⟩:=ZhV l r1 x.2 j2 c2 (inj p x.1 n).2.2 (by rw[G.I];exact s) (d.after G.I N) λid h h' hK=>by
   rcases k1 id hK with D|D
   ·exact W id (by omega) h' D
   ·omega
  have hH:Zs H (Wh (Kb (.cons p l) x n).2.1)=Zs (Zs H (Wh (inj p x.1 n).2.1)) (Wh (Kb l x.2 (inj p x.1 n).2.2).2.1):=by rw[<-Xq];simp [Kb,Wh]
  rw[hH];simp only[Kb,Kg];refine⟨g2,O,M.trans l2,i2.after G M,r2,⟨Q,c2,rfl,d1.mono (λ_ _=>rfl) l2,d2⟩,λid h=>?_,λid A L h6=>?_⟩
  ·rcases k2 id h with h|h
   ·rcases k1 id h with h|h
    ·exact .inl h
    ·exact .inr (by omega)
   ·exact .inr (by omega)
  ·rcases o2 id A L h6 with ⟨j,U⟩|j
   ·rcases N id A j U with u|u
    ·exact .inl u
    ·exact .inr (by simp [u])
   ·exact .inr (by simp [j])
end
end
end Tr
end
section
namespace Tr
open Go
theorem ZlJ(p:Pat)(x:K6 p)(n:Nat)(b:p≠ .any):(inj p x n).1.isAgg=p.isAgg:=by
 cases p<;>simp [inj,AV.isAgg,Pat.isAgg]at b⊢
section
variable {B:Z1}{H:AH}{w:World}{g:Gh}{ow:Nat->Nat->Prop}{F:Nat->AV}{I:Nat->Prop}
theorem Ze9:∀(l:Pats) {H:AH}{g:Gh}{ow:Nat->Nat->Prop} (_:RH B H w g ow) (x:Kw l) (js:List Nat) (vs:List Value) (n:Nat),JA w g.I l x js vs->W5 B H w g ow js->(∀id,n<=id->id<(Kb l x n).2.2->¬g.K id)->
 Jg B H w g ow js n (Kb l x n).2.2 (Zs H (Wh (Kb l x n).2.1)) λs=>W8 w s (Kb l x n).1 vs
 |.nil,H,g,ow,b,x,js,vs,n,h,_,_=>by
  obtain⟨rfl,rfl⟩:=h
  exact Jg.none b n rfl
 |.cons p l,H,g,ow,b,x,js,vs,n,h,f,V=>by
  obtain⟨C,D,v,r,rfl,rfl,⟨u,U⟩,Q⟩:=h;have Y:=(Yf p x.1 n).1;have Z:=(ZaE l x.2 (inj p x.1 n).2.2).1;have z:∀id,n<=id->id<(Kb l x.2 (inj p x.1 n).2.2).2.2->¬g.K id:=by assumption
  have ⟨O,J,j,d,L,m,W,G⟩:=Zc8 p b x.1 C v.cells.toList n u (f.sub (Vn _ _)) (by grind);have ⟨t,e,k,A,M,q,X,o2⟩:=Ze9 l L x.2 D r (inj p x.1 n).2.2 (by rw[d.I];omega) (f.after d.I G) (by grind);have y:Zs H (Wh (Kb (.cons p l) x n).2.1)=Zs (Zs H (Wh (inj p x.1 n).2.1)) (Wh (Kb l x.2 (inj p x.1 n).2.2).2.1):=by rw[<-Xq];simp [Kb,Wh]
  rw[y];have c:(inj p x.1 n).1=.junk\/Kd v=(inj p x.1 n).1.isAgg:=by
   by_cases i:p=.any
   ·subst i;exact .inl rfl
   ·rw[ZlJ p x.1 n i];grind
  refine⟨t,e,j.trans k,A.after d j,M,⟨v,r,rfl,⟨m.mono (λ_ _=>rfl) k,c⟩,q⟩,λid h=>?_,λid N R S=>?_⟩
  ·simp [Kb];grind
  grind
theorem Zlf{p:Pat}{v:AV}{r:K6 p×ZE}{l c:List Nat}(h:(ext p v).run H l=Ua (r,c))(e:p≠ .any):v≠ .junk/\v.isAgg=p.isAgg:=by
 cases p with
 |pd t=>
  simp only[ext,Z2]at h;obtain⟨y,m,b,_⟩:=h
  exact ZgN b
 |own t k=>
  simp only[ext,Z2]at h;obtain⟨y,m,b,_⟩:=h
  cases v<;>simp [JS,Zb]at b<;>exact⟨by simp,rfl⟩
 |var t p=>cases v<;>simp [ext,Zb]at h<;>exact⟨by simp,rfl⟩
 |ro t=>cases v<;>simp [ext,Zb]at h<;>exact⟨by simp,rfl⟩
 |map k t=>cases v<;>simp [ext,Zb]at h<;>exact⟨by simp,rfl⟩
 |rows t k=>
  simp only[ext,Z2]at h;obtain⟨y,m,b,_⟩:=h
  cases v<;>simp [Yz,Zb]at b<;>exact⟨by simp,rfl⟩
 |mrows k t=>cases v<;>simp [ext,Zb]at h<;>exact⟨by simp,rfl⟩
 |it k t=>cases v<;>simp [ext,Zb]at h<;>exact⟨by simp,rfl⟩
 |fnd tn tq lt lb=>cases v<;>simp [ext,Zb]at h<;>exact⟨by simp,rfl⟩
 |owo lb=>
  simp only[ext,Z2]at h;obtain⟨y,m,b,_⟩:=h
  cases v<;>simp [Rh,Zb]at b<;>exact⟨by simp,rfl⟩
 |agg pl=>
  cases v with
  |agg vs=>exact⟨by simp,rfl⟩
  |d t x=>
   simp only[ext,ZO,Zb,ZU,Ka]at h
   exact⟨by simp,ZsN h.1 rfl⟩
  |_=>simp [ext,Zb]at h
 |fn f pl=>cases v<;>simp [ext,Zb]at h<;>exact⟨by simp,rfl⟩
 |nilr=>cases v<;>simp [ext,Zb]at h<;>exact⟨by simp,rfl⟩
 |nils=>cases v<;>simp [ext,Zb]at h<;>exact⟨by simp,rfl⟩
 |any=>grind
theorem Zle(j:RH B H w g ow)(A:∀b,g.I b->I b):∀(pl:Pats) (v:Zo) (c:List Value) (x:Kw pl) (ids:ZE) (l s:List Nat),(WK pl v).run H l=Ua ((x,ids),s)->W8 w g v c->(∀b,ZP H ow ids.br b->I b)->
 ids.tk.Nodup->∃js,JA w I pl x js c/\js.Nodup/\∀b∈js,ZP H ow ids.tk b
 |.nil,.nil,c,x,ids,l,s,h,n,i,_=>by
  obtain⟨⟨_,rfl⟩,_⟩:=h
  exact⟨[],⟨rfl,n⟩,.nil,by simp⟩
 |.cons p pl,.cons v vs,c,x,ids,l,s,h,n,i,V=>by
  simp only[WK,Z2,Va]at h;obtain⟨⟨Z,C⟩,m1,t,⟨x2,D⟩,m2,M,⟨rfl,rfl⟩,_⟩:=h;obtain⟨u,r,rfl,y,N⟩:=n;have q:(C.tk++D.tk).Nodup:=V;obtain⟨X,Y,n3⟩:=Vh.1 q;have ⟨G,O,Q,z⟩:=GW j A p v u.cells.toList Z C _ _ t y.1 (λb d=>i b (Ww (λ_ h=>by simp [ZE.app,h]) d)) X;obtain⟨J,R,S,f⟩:=Zle j A pl vs r x2 D _ _ M N (λb d=>i b (Ww (λ_ h=>by simp [ZE.app,h]) d)) Y;have k:p=.any\/Kd u=p.isAgg:=by
   by_cases W:p=.any
   ·grind
   ·have ⟨U,d⟩:=Zlf t W;rw[<-d];exact .inr (y.2.resolve_left U)
  refine⟨G++J,⟨G,J,u,r,rfl,rfl,⟨O,k⟩,R⟩,Vh.2 ⟨Q,S,λb d b' m e=>?_⟩,λb d=>?_⟩
  ·subst e;have ⟨id,K,L⟩:=Ht j (z b d) (f b m);grind
  ·rcases Vi.1 d with d|d
   ·exact Ww (λ_ h=>by simp [ZE.app,h]) (z b d)
   ·exact Ww (λ_ h=>by simp [ZE.app,h]) (f b d)
 |.nil,.cons _ _,_,_,_,_,_,h,_,_,_=>by simp [WK,Zb]at h
 |.cons _ _,.nil,_,_,_,_,_,h,_,_,_=>by simp [WK,Zb]at h
mutual
def PO(w:World)(I:Nat->Prop):(p:Pat)->Gi p->List Nat->List Value->Prop
 |.own t Uc,y,js,cs=>PC w I (.own t Uc) y js cs
 |.own _ Ud,_,js,_=>js=[]
 |.var t p,y,js,cs=>PC w I (.var t p) y js cs
 |.map b h,y,js,cs=>PC w I (.map b h) y js cs
 |.rows t Uc,y,js,cs=>PC w I (.rows t Uc) y js cs
 |.rows _ Ud,_,js,_=>js=[]
 |.mrows b t,y,js,cs=>PC w I (.mrows b t) y js cs
 |.it _ _,_,js,_=>js=[]
 |.fnd tn tq lt lb,y,js,cs=>PC w I (.fnd tn tq lt lb) y js cs
 |.owo _,_,js,_=>js=[]
 |.agg l,y,js,cs=>XN w I l y js cs
 |.fn f l,y,js,cs=>∃c:List Value,cs=[Xa f c]/\XN w I l y js c
 |.pd _,_,js,_=>js=[]
 |.ro _,_,js,_=>js=[]
 |.nilr,_,js,_=>js=[]
 |.nils,_,js,_=>js=[]
 |.any,_,js,_=>js=[]
def XN(w:World)(I:Nat->Prop):(l:Pats)->Wi l->List Nat->List Value->Prop
 |.nil,_,js,_=>js=[]
 |.cons p l,y,js,cs=>∃d e,js=d++e/\PO w I p y.1 d (cs.take p.sz)/\XN w I l y.2 e (cs.drop p.sz)
end
def HC(w:World)(I:Nat->Prop):(l:Pats)->Wi l->List Nat->List Value->Prop
 |.nil,_,b,_=>b=[]
 |.cons p l,y,b,vs=>∃c d v r,b=c++d/\vs=v::r/\PO w I p y.1 c v.cells.toList/\HC w I l y.2 d r
mutual
theorem Rx:∀(p:Pat) (x:K6 p) (js:List Nat) (cs:List Value),p.noAny=Uc->PC w I p x js cs->cs.length=p.sz
 |.pd t,x,js,cs,_,h=>Rd.length t x cs h.2
 |.own t k,x,js,cs,_,h=>by
  rcases h with ⟨_,_,rfl⟩|⟨b,cap,cells,e,css,_,rfl,_⟩<;>rfl
 |.var t p,x,js,cs,_,h=>by obtain⟨_,b,u,cells,e,_,rfl,_⟩:=h;rfl
 |.ro t,x,js,cs,_,h=>by obtain⟨_,b,off,c,rfl,_⟩:=h;rfl
 |.map i y,x,js,cs,_,h=>by obtain⟨b,es,clock,_,rfl,_⟩:=h;rfl
 |.it i y,x,js,cs,_,h=>by obtain⟨b,A,es,clock,since,seen,_,_,rfl,_⟩:=h;rfl
 |.rows t k,x,js,cs,_,h=>by obtain⟨v,rfl,_⟩:=h;rfl
 |.mrows i t,x,js,cs,_,h=>by obtain⟨v,rfl,_⟩:=h;rfl
 |.fnd _ _ _ _,x,js,cs,_,h=>by obtain⟨b,rfl,_⟩:=h;rfl
 |.owo _,x,js,cs,_,h=>by obtain⟨b,rfl,_⟩:=h;rfl
 |.agg l,x,js,cs,d,h=>by
  simp only[PC]at h
  exact Zjw l x js cs (by simpa only[Pat.noAny] using d) h
 |.fn f l,x,js,cs,_,h=>by obtain⟨z,rfl,_⟩:=h;rfl
 |.nilr,_,js,cs,_,h=>by
  rcases h.2 with rfl|rfl|rfl<;>rfl
 |.nils,_,js,cs,_,h=>by rw[h.2];rfl
 |.any,_,_,_,d,_=>by simp [Pat.noAny]at d
theorem Zjw:∀(l:Pats) (x:Kw l) (js:List Nat) (cs:List Value),l.noAny=Uc->JX w I l x js cs->cs.length=l.sz
 |.nil,_,_,_,_,h=>by obtain⟨_,rfl⟩:=h;rfl
 |.cons p l,x,js,cs,d,h=>by obtain⟨r,s,j,m,rfl,rfl,n,q⟩:=h;simp only[Pats.noAny,Vb]at d;rw[Vj,Rx p x.1 r j d.1 n,Zjw l x.2 s m d.2 q];rfl
end
mutual
theorem Zjx{w' :World}{I' :Nat->Prop}:∀(p:Pat) (y:Gi p) (cs:List Value) (x:K6 p) (js:List Nat),p.back=Ud->p.noAny=Uc->PC w' I' p x js cs->PO w I p y [] cs
 |.own t Uc,_,_,_,_,h,_,_=>by simp [Pat.back]at h
 |.own t Ud,_,_,_,_,_,_,_=>rfl
 |.var t p,_,_,_,_,h,_,_=>by simp [Pat.back]at h
 |.map k v,_,_,_,_,h,_,_=>by simp [Pat.back]at h
 |.rows t Uc,_,_,_,_,h,_,_=>by simp [Pat.back]at h
 |.rows t Ud,_,_,_,_,_,_,_=>rfl
 |.mrows k t,_,_,_,_,h,_,_=>by simp [Pat.back]at h
 |.it _ _,_,_,_,_,_,_,_=>rfl
 |.fnd _ _ _ _,_,_,_,_,h,_,_=>by simp [Pat.back]at h
 |.owo _,_,_,_,_,_,_,_=>rfl
 |.agg l,y,cs,x,js,h,b,c=>by
  simp only[PC]at c;simp only[PO]
  exact Zgr l y cs x js (by simpa only[Pat.back] using h) (by simpa only[Pat.noAny] using b) c
 |.fn f l,y,cs,x,js,h,b,c=>by
  obtain⟨e,rfl,c⟩:=c
  exact⟨e,rfl,Zgr l y e x js (by simpa only[Pat.back] using h) (by simpa only[Pat.noAny] using b) c⟩
 |.pd t,_,_,_,_,_,_,_=>rfl
 |.ro t,_,_,_,_,_,_,_=>rfl
 |.nilr,_,_,_,_,_,_,_=>rfl
 |.nils,_,_,_,_,_,_,_=>rfl
 |.any,_,_,_,_,_,_,_=>rfl
theorem Zgr{w' :World}{I' :Nat->Prop}:∀(l:Pats) (y:Wi l) (cs:List Value) (x:Kw l) (js:List Nat),l.back=Ud->l.noAny=Uc->JX w' I' l x js cs->XN w I l y [] cs
 |.nil,_,_,_,_,_,_,_=>rfl
 |.cons p l,y,cs,x,js,h,b,c=>by
  obtain⟨m,r,d,n,rfl,rfl,i,q⟩:=c;simp only[Pats.back,Vea]at h;simp only[Pats.noAny,Vb]at b;have j:=Rx p x.1 m d b.1 i;refine⟨[],[],rfl,?_,?_⟩
  ·rw[Vra j];exact Zjx p y.1 d x.1 m h.1 b.1 i
  ·rw[Vsa j];exact Zgr l y.2 n x.2 r h.2 b.2 q
end
theorem Zdp{p:Pat}{v:AV}{y:Gi p}{ids:ZE}{l C:List Nat}(h:(JR p v).run H l=Ua ((y,ids),C))(m:RH B H w g ow)(i:∀b,g.I b->I b){cs:List Value}(n:CV w g v cs)
 (j:∀b,ZP H ow ids.br b->I b) (s:ids.tk.Nodup) (D:(∃t,p=.own t Uc)\/(∃t q,p=.var t q)\/(∃k t,p=.map k t)\/(∃t,p=.rows t Uc)\/∃k t,p=.mrows k t):∃js,PO w I p y js cs/\js.Nodup/\(∀b∈js,ZP H ow ids.tk b)/\cs.length=p.sz:=by
 rcases D with ⟨t,rfl⟩|⟨t,q,rfl⟩|⟨k,t,rfl⟩|⟨t,rfl⟩|⟨k,t,rfl⟩
 ·cases v with
  |vw id=>
   have A:(ext (.own t Uc) (.vw id)).run H l=Ua ((y,ids),C):=by
    simp only[JR]at h;rw[Z3]at h;simp only[ext,JS,Z2,Zj,Va];split at h
    ·rename_i K xs x;simp only[ZA,Zj,Va]at h;obtain⟨z,G,⟨rfl,rfl⟩,rfl⟩:=h;refine⟨⟨z,[id]⟩,id::l,?_,⟨rfl,rfl⟩,rfl⟩;rw[Z3,x];simp only[ZA,Zj];grind
    ·simp [Zb]at h
   obtain⟨js,c,d,f⟩:=GW m i _ _ cs _ _ _ _ A n j s
   exact⟨js,c,d,f,Rx (.own t Uc) y js cs rfl c⟩
  |_=>simp [JR,Zb]at h
 ·cases v with
  |ptr id path=>
   cases path with
   |nil=>
    obtain⟨js,c,d,f⟩:=GW m i (.var t q) (.ptr id []) cs y ids _ _ (by assumption) n j s;refine⟨js,c,d,f,?_⟩;obtain⟨_,b,J,cells,e,_,rfl,_⟩:=c
    rfl
   |cons a r=>simp [JR,Zb]at h
  |_=>simp [JR,Zb]at h
 ·cases v with
  |mp id=>
   obtain⟨js,c,d,f⟩:=GW m i (.map k t) (.mp id) cs y ids _ _ (by assumption) n j s
   exact⟨js,c,d,f,Rx (.map k t) y js cs rfl c⟩
  |_=>simp [JR,Zb]at h
 ·cases v with
  |vw id=>
   have A:(ext (.rows t Uc) (.vw id)).run H l=Ua ((y,ids),C):=by
    simp only[JR]at h;rw[Z3]at h;simp only[ext,Yz,Z2,Zj,Va];split at h
    ·rename_i K xs u x;simp only[ZA,Zj,Va]at h;obtain⟨z,G,⟨rfl,rfl⟩,rfl⟩:=h;refine⟨⟨z,[id]⟩,id::l,?_,⟨rfl,rfl⟩,rfl⟩;rw[Z3,x];simp only[ZA,Zj];grind
    ·simp [Zb]at h
   obtain⟨js,c,d,f⟩:=GW m i _ _ cs _ _ _ _ A n j s
   exact⟨js,c,d,f,Rx (.rows t Uc) y js cs rfl c⟩
  |_=>simp [JR,Zb]at h
 ·cases v with
  |mp id=>
   obtain⟨js,c,d,f⟩:=GW m i (.mrows k t) (.mp id) cs y ids _ _ (by assumption) n j s
   exact⟨js,c,d,f,Rx (.mrows k t) y js cs rfl c⟩
  |_=>simp [JR,Zb]at h
mutual
theorem ZmS(u:RH B H w g ow)(x:∀b,g.I b->I b):∀(p:Pat) (v:AV) (cs:List Value) (y:Gi p) (ids:ZE) (l j:List Nat),(JR p v).run H l=Ua ((y,ids),j)->CV w g v cs->(∀b,ZP H ow ids.br b->I b)->ids.tk.Nodup->
 ∃js,PO w I p y js cs/\js.Nodup/\(∀b∈js,ZP H ow ids.tk b)/\(ZgY p v=Uc->cs.length=p.sz)
 |.own t Uc,v,cs,y,ids,l,j,h,c,d,i=>by
  obtain⟨js,m,n,q,s⟩:=Zdp h u x c d i (.inl ⟨t,rfl⟩)
  exact⟨js,m,n,q,λ_=>s⟩
 |.var t p,v,cs,y,ids,l,j,h,c,d,i=>by
  obtain⟨js,m,n,q,s⟩:=Zdp h u x c d i (.inr (.inl ⟨t,p,rfl⟩))
  exact⟨js,m,n,q,λ_=>s⟩
 |.map k t,v,cs,y,ids,l,j,h,c,d,i=>by
  obtain⟨js,m,n,q,s⟩:=Zdp h u x c d i (.inr (.inr (.inl ⟨k,t,rfl⟩)))
  exact⟨js,m,n,q,λ_=>s⟩
 |.rows t Uc,v,cs,y,ids,l,j,h,c,d,i=>by
  obtain⟨js,m,n,q,s⟩:=Zdp h u x c d i (.inr (.inr (.inr (.inl ⟨t,rfl⟩))))
  exact⟨js,m,n,q,λ_=>s⟩
 |.rows t Ud,v,cs,y,ids,l,j,h,c,d,i=>by
  simp only[JR,Zj,Va]at h
  exact⟨[],rfl,.nil,by simp,λh=>CV.length v (.sl (.sl t)) cs h c⟩
 |.mrows k t,v,cs,y,ids,l,j,h,c,d,i=>by
  obtain⟨js,m,n,q,s⟩:=Zdp h u x c d i (.inr (.inr (.inr (.inr ⟨k,t,rfl⟩))))
  exact⟨js,m,n,q,λ_=>s⟩
 |.it _ _,v,cs,y,ids,l,j,h,c,d,i=>⟨[],rfl,.nil,by simp,λh=>CV.length v .ref cs h c⟩
 |.fnd tn tq lt lb,v,cs,y,ids,l,j,h,c,d,i=>by
  cases v with
  |ptr id path=>
   cases path with
   |nil=>
    obtain⟨js,m,n,q⟩:=GW u x (.fnd tn tq lt lb) (.ptr id []) cs y ids _ _ (by simpa only[JR] using h) c d i
    exact⟨js,m,n,q,λ_=>Rx (.fnd tn tq lt lb) y js cs rfl m⟩
   |cons a r=>simp [JR,Zb]at h
  |_=>simp [JR,Zb]at h
 |.owo lb,v,cs,y,ids,l,j,h,c,d,i=>⟨[],rfl,.nil,by simp,λh=>CV.length v (.sl (.pn lb)) cs h c⟩
 |.own t Ud,v,cs,y,ids,l,j,h,c,d,i=>by
  simp only[JR,Zj,Va]at h
  exact⟨[],rfl,.nil,by simp,λh=>CV.length v (.sl t) cs h c⟩
 |.pd t,v,cs,y,ids,l,j,h,c,d,i=>⟨[],rfl,.nil,by simp,λh=>CV.length v t cs h c⟩
 |.ro t,v,cs,y,ids,l,j,h,c,d,i=>⟨[],rfl,.nil,by simp,λh=>CV.length v .ref cs h c⟩
 |.nilr,v,cs,y,ids,l,j,h,c,d,i=>⟨[],rfl,.nil,by simp,λh=>CV.length v .ref cs h c⟩
 |.nils,v,cs,y,ids,l,j,h,c,d,i=>⟨[],rfl,.nil,by simp,λh=>CV.length v (.sl .unit) cs h c⟩
 |.any,v,cs,y,ids,l,j,h,c,d,i=>⟨[],rfl,.nil,by simp,λh=>by simp [ZgY]at h⟩
 |.agg pl,v,cs,y,ids,l,j,h,c,d,i=>by
  cases v with
  |agg vs=>
   simp only[JR]at h;simp only[CV]at c;obtain⟨js,m,n,q,s⟩:=Ziz u x pl vs cs y ids l j h c d i
   exact⟨js,m,n,q,λ_=>s⟩
  |_=>simp [JR,Zb]at h
 |.fn f pl,v,cs,y,ids,l,j,h,c,d,i=>by
  cases v with
  |fn f' vs=>
   simp only[JR,ZO,Zb,ZU,Ka]at h;obtain⟨M,h⟩:=h;have M:=Vm M;subst M;simp only[CV]at c;obtain⟨Q,rfl,c⟩:=c;obtain⟨js,m,n,q,_⟩:=Ziz u x pl vs Q y ids l j h c d i
   exact⟨js,⟨Q,rfl,m⟩,n,q,λ_=>rfl⟩
  |_=>simp [JR,Zb]at h
theorem Ziz(u:RH B H w g ow)(x:∀b,g.I b->I b):∀(pl:Pats) (v:Zo) (cs:List Value) (y:Wi pl) (ids:ZE) (l j:List Nat),(ZaR pl v).run H l=Ua ((y,ids),j)->Kg w g v cs->(∀b,ZP H ow ids.br b->I b)->ids.tk.Nodup->
 ∃js,XN w I pl y js cs/\js.Nodup/\(∀b∈js,ZP H ow ids.tk b)/\cs.length=pl.sz
 |.nil,.nil,cs,y,ids,l,j,h,c,d,_=>by
  simp only[Kg]at c;subst c
  exact⟨[],rfl,.nil,by simp,rfl⟩
 |.cons p pl,.cons v vs,cs,y,ids,l,j,h,c,d,i=>by
  simp only[ZaR,ZO,Z2,Zj,Zb,ZU,Ka,Va]at h;obtain⟨L,⟨x1,S⟩,m1,m,⟨x2,U⟩,m2,n,⟨rfl,rfl⟩,_⟩:=h;simp only[Kg]at c;obtain⟨X,Y,rfl,q,s⟩:=c;have O:(S.tk++U.tk).Nodup:=i;obtain⟨n1,n2,n3⟩:=Vh.1 O;obtain⟨V,Z,h6,R,h8⟩:=ZmS u x p v X x1 S _ _ m q (λb z=>d b (Ww (λ_ h=>by simp [ZE.app,h]) z)) n1;obtain⟨W,h9,C,A,D⟩:=Ziz u x pl vs Y x2 U _ _ n s (λb z=>d b (Ww (λ_ h=>by simp [ZE.app,h]) z)) n2;have N:=h8 L;refine⟨V++W,⟨V,W,rfl,by rw[Vra N];exact Z,by rw[Vsa N];exact h9⟩,Vh.2 ⟨h6,C,λb z b' K e=>?_⟩,λb z=>?_,by rw[Vj,N,D];rfl⟩
  ·subst e;obtain⟨id,G,J⟩:=Ht u (R b z) (A b K);exact n3 id G id J rfl
  ·rcases Vi.1 z with z|z
   ·exact Ww (λ_ h=>by simp [ZE.app,h]) (R b z)
   ·exact Ww (λ_ h=>by simp [ZE.app,h]) (A b z)
 |.nil,.cons _ _,_,_,_,_,_,h,_,_,_=>by simp [ZaR,Zb]at h
 |.cons _ _,.nil,_,_,_,_,_,h,_,_,_=>by simp [ZaR,Zb]at h
end
theorem Zu2:∀(p:Pat) (l:Zo),p.back=Uc->JR p (.tup l)=.fail
 |.own _ Uc,_,_=>rfl
 |.own _ Ud,_,h=>by simp [Pat.back]at h
 |.var _ _,_,_=>rfl
 |.map _ _,_,_=>rfl
 |.rows _ Uc,_,_=>rfl
 |.rows _ Ud,_,h=>by simp [Pat.back]at h
 |.mrows _ _,_,_=>rfl
 |.it _ _,_,h=>by simp [Pat.back]at h
 |.fnd _ _ _ _,_,_=>rfl
 |.owo _,_,h=>by simp [Pat.back]at h
 |.agg _,_,_=>rfl
 |.fn _ _,_,_=>rfl
 |.pd _,_,h=>by simp [Pat.back]at h
 |.ro _,_,h=>by simp [Pat.back]at h
 |.nilr,_,h=>by simp [Pat.back]at h
 |.nils,_,h=>by simp [Pat.back]at h
 |.any,_,h=>by simp [Pat.back]at h
theorem Zfv(t:RH B H w g ow)(J:∀b,g.I b->I b){w0:World}{I0:Nat->Prop}:∀(pl:Pats) (n:Nat) (d:List Value) (x:Kw pl) (O:List Nat) (y:Wi pl) (ids:ZE) (l Q:List Nat),(ZbY pl (ZdD F pl n)).run H l=Ua ((y,ids),Q)->
 pl.wf=Uc->JA w0 I0 pl x O d->(∀k v,k+n∈XR pl n->d[k]? =Ua v->VR w g (F (k+n)) v)->(∀b,ZP H ow ids.br b->I b)->ids.tk.Nodup->∃js,HC w I pl y js d/\js.Nodup/\∀b∈js,ZP H ow ids.tk b
 |.nil,n,d,x,O,y,ids,l,Q,h,_,N,_,s,_=>by
  obtain⟨rfl,rfl⟩:=N
  exact⟨[],rfl,.nil,by simp⟩
 |.cons p pl,n,d,x,O,y,ids,l,Q,h,hw,N,W,s,X=>by
  obtain⟨a1,S,v,r,rfl,rfl,h1,U⟩:=N;have i:pl.wf=Uc/\(p=.any\/p.noAny=Uc):=by
   cases p<;>simp only[Pats.wf,Vb]at hw<;>first|grind|grind
  have j:∀k v,k+(n+1)∈XR pl (n+1)->r[k]? =Ua v->VR w g (F (k+(n+1))) v:=λk v' hk a4=>by have:=W (k+1) v' (by simp only[XR];grind) (by grind);grind
  cases c:p.back with
  |true=>
   simp only[ZdD,ZbY,c,Zd,Z2,Va]at h;obtain⟨⟨x1,Y⟩,m1,z,⟨R,u⟩,m2,A,⟨rfl,rfl⟩,_⟩:=h;have L:(Y.tk++u.tk).Nodup:=X;obtain⟨n1,n2,n3⟩:=Vh.1 L;have m:=W 0 v (by simp [XR,c]) rfl;rw[Vgb]at m;have G:CV w g (F n) v.cells.toList:=by refine(m.to1 λl e=>?_).1;rw[e,Zu2 p l c]at z;simp [Zb]at z
   obtain⟨Z,h5,h6,V,_⟩:=ZmS t J p (F n) _ x1 Y _ _ z G (λb c=>s b (Ww (λ_ h=>by simp [ZE.app,h]) c)) n1;obtain⟨q,C,D,f⟩:=Zfv t J pl (n+1) r x.2 S R u _ _ A i.1 U j (λb c=>s b (Ww (λ_ h=>by simp [ZE.app,h]) c)) n2;refine⟨Z++q,⟨Z,q,v,r,rfl,rfl,h5,C⟩,Vh.2 ⟨h6,D,λb c b' K e=>?_⟩,λb c=>?_⟩
   ·subst e;obtain⟨id,a0,a3⟩:=Ht t (V b c) (f b K);grind
   ·rcases Vi.1 c with c|c
    ·exact Ww (λ_ h=>by simp [ZE.app,h]) (V b c)
    ·exact Ww (λ_ h=>by simp [ZE.app,h]) (f b c)
  |false=>
   simp only[ZdD,ZbY,c,Ze,Z2,Zj,Va]at h;obtain⟨⟨R,u⟩,m2,A,⟨rfl,rfl⟩,_⟩:=h;obtain⟨q,C,D,f⟩:=Zfv t J pl (n+1) r x.2 S R u _ _ A i.1 U j s X;refine⟨q,⟨[],q,v,r,rfl,rfl,?_,C⟩,D,f⟩;rcases i.2 with rfl|M
   ·rfl
   ·exact Zjx p _ _ x.1 a1 c M h1.1
end
end Tr
end
section
namespace Tr
open Go
theorem RH.revive{B:Z1}{H:AH}{w:World}{g:Gh}{ow:Nat->Nat->Prop}(h:RH B H w g ow){id:Nat}{o:K5}{J:Nat->Prop}(r:g.K id)
 (s:∀b,J b->¬g.I b/\b<w.heap.size/\(B.own0 b\/B.w0.heap.size<=b)/\∀j,H j≠Ub->¬ow j b) (t:ORel w g J id o):RH B (Z0 H id (Ua o)) w g (Xk ow id J) where
 objs:=λk q e=>by
  by_cases c:k=id
  ·subst c;rw[XL]at e;cases e;rw[J4];grind
  ·rw[Ky c]at e;rw[Jd c];exact h.objs k q e
 dist:=λk p n i f l m=>by
  by_cases c:k=id<;>by_cases d:p=id
  ·omega
  ·subst c;rw[Ky d]at f;rw[J4]at l;rw[Jd d]at m;grind
  ·subst d;rw[Ky c]at i;rw[J4]at m;rw[Jd c]at l;grind
  ·rw[Ky c]at i;rw[Ky d]at f;rw[Jd c]at l;rw[Jd d]at m;exact h.dist k p n i f l m
 sep:=λk n i f=>by
  by_cases c:k=id
  ·subst c;rw[J4]at f;grind
  ·rw[Ky c]at i;rw[Jd c]at f;exact h.sep k n i f
 ilt:=h.ilt
 inew:=h.inew
 os:=h.os
 tape:=h.tape
 output:=h.output
 size:=h.size
 kept:=h.kept
theorem RH.call{B:Z1}{H:AH}{w w' :World}{g:Gh}{ow:Nat->Nat->Prop}(h:RH B H w g ow){js:List Nat}{J:Nat->Prop}
 (c:∀b,b<w.heap.size->b ∉ js->w'.heap[b]? =w.heap[b]?) (s:w.heap.size<=w'.heap.size) (n:w'.os=w.os) (d:w'.tape=w.tape) (i:YI B.pl w' w)
 (q:∀b∈js,¬g.I b/\(B.own0 b\/B.w0.heap.size<=b)/\∀id,H id≠Ub->¬ow id b)
 (p:∀b,J b->b<w'.heap.size/\(B.I0 b\/B.own0 b\/B.w0.heap.size<=b)/\∀id,H id≠Ub->¬ow id b):RH B H w' (g.grow J) ow:=by
 have l:Kq g.I w w' :=λb f=>c b (h.ilt b f) (by grind);have e:RH B H w' g ow:={
  objs:=λk o m=>⟨(h.objs k o m).1,(h.objs k o m).2.mono l (.refl g) (h.objs k o m).1 rfl λb f=>by
   have r:H k≠none:=by grind
   exact c b (h.sep k b r f).2.1 (by grind)⟩
  dist:=h.dist
  sep:=λk b e j=>by have:=h.sep k b e j;grind
  ilt:=λb f=>by have:=h.ilt b f;omega
  inew:=h.inew
  os:=n.trans h.os
  tape:=d.trans h.tape
  output:=i.trans h.output
  size:=by have:=h.size;omega
  kept:=λb e j=>by rw[c b (by have:=h.size;omega) (by grind)];exact h.kept b e j}
 exact e.grow p
theorem Zu6{H:AH}{t:Ty}{v:AV}{x:List (List (El t))}{ids l e:List Nat}(b:(Yz t v).run H l=Ua ((x,ids),e)):∀id∈ids,H id≠none:=by
 unfold Yz at b;split at b
 ·rw[Z3]at b;split at b
  ·rename_i d;simp [ZA,Va]at b;obtain⟨_,_,⟨_,rfl⟩,_⟩:=b;intro id c;simp [Ve]at c;subst c;rw[d];simp
  ·simp [Zb]at b
 ·obtain⟨⟨_,rfl⟩,_⟩:=b;simp
 ·simp [Zb]at b
theorem ZmU{H:AH}{lb:Ty}{v:AV}{x:List (El (.pn lb))}{ids l e:List Nat}(b:(Rh lb v).run H l=Ua ((x,ids),e)):∀id∈ids,H id≠none:=by
 unfold Rh at b;split at b
 ·rw[Z3]at b;split at b
  ·rename_i d;simp only[ZA,Zj,Va]at b;obtain⟨_,_,⟨_,rfl⟩,_⟩:=b;intro id c;simp only[Ve]at c;subst c;rw[d];simp
  ·rename_i d;simp only[ZA,Zj]at b;obtain⟨_,_,⟨_,rfl⟩,_⟩:=b;intro id c;simp only[Ve]at c;subst c;rw[d];simp
  ·simp [Zb]at b
 ·obtain⟨⟨_,rfl⟩,_⟩:=b;simp
 ·simp [Zb]at b
theorem Zu4{H:AH}{t:Ty}{v:AV}{x:List (El t)}{ids l e:List Nat}(b:(JS t v).run H l=Ua ((x,ids),e)):∀id∈ids,H id≠none:=by
 unfold JS at b;split at b
 ·rw[Z3]at b;split at b
  ·rename_i d;simp [ZA,Va]at b;obtain⟨_,_,⟨_,rfl⟩,_⟩:=b;intro id c;simp [Ve]at c;subst c;rw[d];simp
  ·simp [Zb]at b
 ·rw[Z3]at b;split at b
  ·rename_i d;simp [ZA,Zj]at b;obtain⟨_,_,⟨_,rfl⟩,_⟩:=b;intro id c;simp [Ve]at c;subst c;rw[d];simp
  ·simp [Zb]at b
 ·obtain⟨⟨_,rfl⟩,_⟩:=b;simp
 ·simp [Zb]at b
mutual
theorem Zlg{H:AH}:∀(p:Pat) (v:AV) (x:K6 p) (ids:ZE) (l d:List Nat),(ext p v).run H l=Ua ((x,ids),d)->∀id∈ids.tk,H id≠Ub
 |.pd t,v,x,ids,l,d,h=>by
  simp only[ext,Z2,Zj,Va]at h;obtain⟨_,_,_,⟨_,rfl⟩,_⟩:=h
  simp
 |.own t k,v,x,ids,l,d,h=>by
  simp only[ext,Z2,Zj,Va]at h;obtain⟨⟨j,i⟩,m,c,⟨_,rfl⟩,_⟩:=h;unfold JS at c;split at c
  ·rw[Z3]at c;split at c
   ·rename_i e;simp only[ZA,Zj,Va]at c;obtain⟨_,_,⟨_,rfl⟩,_⟩:=c;intro id b;simp only[Ve]at b;subst b;rw[e];simp
   ·simp [Zb]at c
  ·rw[Z3]at c;split at c
   ·rename_i e;simp only[ZA,Zj,Va]at c;obtain⟨_,_,⟨_,rfl⟩,_⟩:=c;intro id b;simp only[Ve]at b;subst b;rw[e];simp
   ·simp [Zb]at c
  ·simp only[Zj,Va]at c;obtain⟨⟨_,rfl⟩,_⟩:=c;simp
  ·simp [Zb]at c
 |.var t p,v,x,ids,l,d,h=>by
  simp only[ext]at h;split at h
  ·rw[Z3]at h;split at h
   ·rename_i e;simp only[ZO,Z2,Zj,Zb,ZU,Ka,Va]at h;obtain⟨_,⟨j,i⟩,m,c,⟨_,rfl⟩,_⟩:=h;intro id b;rcases Vk.1 b with rfl|b
    ·rw[e];simp
    ·exact Zlg p _ j i _ _ c id b
   ·simp [Zb]at h
  ·simp [Zb]at h
 |.ro t,v,x,ids,l,d,h=>by
  simp only[ext]at h;split at h
  ·rw[Z3]at h;split at h
   ·simp only[ZA,Zj,Va]at h;obtain⟨_,_,⟨_,rfl⟩,_⟩:=h;simp
   ·simp [Zb]at h
  ·simp only[ZA,Zj,Va]at h;obtain⟨_,_,⟨_,rfl⟩,_⟩:=h;simp [ZE.none]
  ·simp [Zb]at h
 |.map q C,v,x,ids,l,d,h=>by
  simp only[ext]at h;split at h
  ·rw[Z3]at h;split at h
   ·rename_i e;simp only[ZA,Zj,Va]at h;obtain⟨_,_,⟨_,rfl⟩,_⟩:=h;intro id b;simp only[Ve]at b;subst b;rw[e];simp
   ·simp [Zb]at h
  ·simp [Zb]at h
 |.it q C,v,x,ids,l,d,h=>by
  simp only[ext]at h;split at h
  ·rw[Z3]at h;split at h
   ·rename_i e;simp only[ZA,Zj,Va]at h;obtain⟨_,_,⟨_,rfl⟩,_⟩:=h;intro id b;simp only[Ve]at b;subst b;rw[e];simp
   ·simp [Zb]at h
  ·simp [Zb]at h
 |.rows t k,v,x,ids,l,d,h=>by
  simp only[ext,Z2,Zj,Va]at h;obtain⟨⟨j,i⟩,m,c,⟨_,rfl⟩,_⟩:=h;unfold Yz at c;split at c
  ·rw[Z3]at c;split at c
   ·rename_i e;simp only[ZA,Zj,Va]at c;obtain⟨_,_,⟨_,rfl⟩,_⟩:=c;intro id b;simp only[Ve]at b;subst b;rw[e];simp
   ·simp [Zb]at c
  ·simp only[Zj,Va]at c;obtain⟨⟨_,rfl⟩,_⟩:=c;simp
  ·simp [Zb]at c
 |.mrows q t,v,x,ids,l,d,h=>by
  simp only[ext]at h;split at h
  ·rw[Z3]at h;split at h
   ·rename_i e;simp only[ZA,Zj,Va]at h;obtain⟨_,_,⟨_,rfl⟩,_⟩:=h;intro id b;simp only[Ve]at b;subst b;rw[e];simp
   ·simp [Zb]at h
  ·simp [Zb]at h
 |.owo lb,v,x,ids,l,d,h=>by
  simp only[ext,Z2,Zj,Va]at h;obtain⟨⟨j,i⟩,m,c,⟨_,rfl⟩,_⟩:=h
  exact ZmU c
 |.fnd tn tq lt lb,v,x,ids,l,d,h=>by
  simp only[ext]at h;split at h
  ·rw[Z3]at h;split at h
   ·rename_i e;simp only[ZA,Zj]at h;obtain⟨_,_,⟨_,rfl⟩,_⟩:=h;intro id b;simp only[Ve]at b;subst b;rw[e];simp
   ·rename_i e;simp only[ZO,Z2,ZA,Zj,Zb,ZU,Ka,Ki,Va]at h;obtain⟨rfl,⟨W,i⟩,A,G,⟨X,n⟩,m2,J,⟨Y,M⟩,R,K,⟨Z,N⟩,S,r,⟨y5,O⟩,U,s,⟨y6,Q⟩,V,u,z,L,⟨_,rfl⟩,_⟩:=h;intro id b;simp only[Vk,Vi]at b;rcases b with rfl|b|b|b
    ·rw[e];simp
    ·exact Zu6 r id b
    ·exact ZmU s id b
    ·exact Zu4 u id b
   ·simp [Zb]at h
  ·simp [Zb]at h
 |.agg pl,v,x,ids,l,d,h=>by
  simp only[ext]at h;split at h
  ·exact RR pl _ x ids l d h
  ·simp only[ZO,Zb,ZU,Ka]at h;exact RR pl _ x ids l d h.2
  ·simp [Zb]at h
 |.fn f pl,v,x,ids,l,d,h=>by
  simp only[ext]at h;split at h
  ·simp only[ZO,Zb,ZU,Ka]at h;exact RR pl _ x ids l d h.2
  ·simp [Zb]at h
 |.nilr,v,x,ids,l,d,h=>by
  simp only[ext]at h;split at h
  ·simp only[Zj,Va]at h;obtain⟨⟨_,rfl⟩,_⟩:=h;simp [ZE.none]
  ·simp [Zb]at h
 |.nils,v,x,ids,l,d,h=>by
  simp only[ext]at h;split at h
  ·simp only[Zj,Va]at h;obtain⟨⟨_,rfl⟩,_⟩:=h;simp [ZE.none]
  ·simp [Zb]at h
 |.any,v,x,ids,l,d,h=>by simp only[ext,Zj,Va]at h;obtain⟨⟨_,rfl⟩,_⟩:=h;simp [ZE.none]
theorem RR{H:AH}:∀(pl:Pats) (v:Zo) (x:Kw pl) (ids:ZE) (l d:List Nat),(WK pl v).run H l=Ua ((x,ids),d)->∀id∈ids.tk,H id≠Ub
 |.nil,.nil,x,ids,l,d,h=>by
  simp only[WK,Zj,Va]at h;obtain⟨⟨_,rfl⟩,_⟩:=h
  simp [ZE.none]
 |.cons p pl,.cons v vs,x,ids,l,d,h=>by
  simp only[WK,Z2,Zj,Va]at h;obtain⟨⟨j,i⟩,A,c,⟨D,n⟩,m2,y,⟨_,rfl⟩,_⟩:=h;intro id b;rcases Vi.1 b with b|b
  ·exact Zlg p v j i _ _ c id b
  ·exact RR pl vs D n _ _ y id b
 |.nil,.cons _ _,_,_,_,_,h=>by simp [WK,Zb]at h
 |.cons _ _,.nil,_,_,_,_,h=>by simp [WK,Zb]at h
end
def ZfD:Option K5->Option Nat
 |some (.rows _ _ v _)=>Ua v
 |some (.mrows _ _ _ v _)=>Ua v
 |_=>Ub
def WU(B:Z1)(H:AH)(w:World)(g:Gh)(ow:Nat->Nat->Prop)(js:List Nat)(n e:Nat)(tk:List Nat)(H' :AH):Prop:=
 ∃d c,g.Le d/\HE tk g d/\RH B H' w d c/\(∀id,d.K id->g.K id\/(n<=id/\id<e))/\(∀id b,H' id≠Ub->c id b->(H id≠Ub/\ow id b)\/b∈js)/\(∀id,H' id≠Ub->H id≠Ub\/id∈tk\/(n<=id/\id<e))
theorem WU.none{B:Z1}{H:AH}{w:World}{g:Gh}{ow:Nat->Nat->Prop}(b:RH B H w g ow)(js:List Nat)(n:Nat)(tk:List Nat):WU B H w g ow js n n tk H:=
 ⟨g,ow,.refl g,.refl tk g,b,by grind,by grind,by grind⟩
theorem RH.revive1{B:Z1}{H:AH}{w:World}{g:Gh}{ow:Nat->Nat->Prop}(h:RH B H w g ow){js:List Nat}{n id:Nat}{o:K5}(f:g.K id)(j:W5 B H w g ow js)(l:ORel w g (· ∈js) id o){tk:List Nat}(m:id∈tk):
 WU B H w g ow js n n tk (Z0 H id (Ua o)):=by
 refine⟨g,Xk ow id (· ∈js),.refl g,.refl tk g,h.revive f (λb i=>j.free b i) l,by grind,λk b d e=>?_,λk d=>?_⟩
 ·by_cases c:k=id
  ·subst c;rw[J4]at e;grind
  ·rw[Ky c]at d;rw[Jd c]at e;grind
 ·by_cases c:k=id
  ·grind
  ·rw[Ky c]at d;grind
theorem RH.revive2{B:Z1}{H:AH}{w:World}{g:Gh}{ow:Nat->Nat->Prop}(m:RH B H w g ow){js:List Nat}{n id:Nat}{o:K5}(l:g.K id)(j:g.ver id<n)(e:W5 B H w g ow js){r:(q:Ty)->El q->Value}(p:ORel w (g.bump id n r) (· ∈js) id o){tk:List Nat}(s:id∈tk):
 WU B H w g ow js n n tk (Z0 H id (Ua o)):=by
 refine⟨g.bump id n r,Xk ow id (· ∈js),Gh.le_bump j,⟨rfl,λk _ h=>Zg (by grind)⟩,
  m.bump l j (by simp) (Vd _) rfl rfl ⟨rfl,Vd _⟩ (by simp) (λb d=>⟨(e.free b d).1,(e.free b d).2.1,(e.free b d).2.2.1,λk _=>(e.free b d).2.2.2 k⟩) p,λ_ h=>.inl h,λk b f i=>?_,λk f=>?_⟩
 ·by_cases c:k=id
  ·subst c;rw[J4]at i;grind
  ·rw[Ky c]at f;rw[Jd c]at i;grind
 ·by_cases c:k=id
  ·grind
  ·rw[Ky c]at f;grind
theorem Xg.back{w:World}{g:Gh}{J:Nat->Prop}{t:Ty}{xs:List (List (El t))}{v:Value}(h:Xg w g.I J t xs v){id n:Nat}(C:g.ty id=.sl t)(R:g.slv id=v)
 (d:(v=.slice Ub 0 0/\g.blk id=Ub)\/∃b len cap,v=.slice (Ua ⟨b,0,Ub⟩) len cap/\g.blk id=Ua b):∃r,ORel w (g.bump id n r) J id (.rows t xs n Ub):=by
 have ⟨z,⟨W,m⟩,K⟩:=h;have f:(g.bump id n (R5 z)).row id=R5 z:=by simp [Gh.bump]
 refine⟨R5 z,C,by simp [Gh.bump],?_,?_⟩
 ·rw[f];refine⟨λi x p Q=>?_,λi j x y c p S A q s u=>?_,λi x c p _ u=>?_⟩
  ·exact m.rd i x p Q
  ·exact m.ds i j x y c p S A q s u
  ·rw[ZiP]at u;show g.blk id≠Ua c;grind
 ·rw[f];rcases K with ⟨rfl,rfl⟩|⟨b,cap,cs,e,L,U,D,M,N,O,V⟩
  ·rcases d with ⟨_,d⟩|⟨G,len,k,d,l⟩
   ·exact .inl ⟨rfl,d,R⟩
   grind
  ·rcases d with ⟨d,_⟩|⟨G,len,k,d,l⟩
   ·grind
   ·rw[D]at d;cases d;exact .inr ⟨b,cap,cs,e,l,L,by rw[<-D];assumption,M,N,O,by assumption⟩
theorem Hb.back{w:World}{g:Gh}{J:Nat->Prop}{d t:Ty}{m:List (El d×List (El t))}{b:Nat}(h:Hb w g.I J d t m (.map (Ua b))){id n:Nat}(i:g.ty id=.sl t)(x:g.blk id=Ua b):
 ∃r,ORel w (g.bump id n r) J id (.mrows d t m n Ub):=by
 have ⟨row,y,es,clock,l,p,q,f,z,s,A,u⟩:=h;cases l;have c:(g.bump id n (rowK row)).row id d=row:=by funext k;simp [Gh.bump,ZnH]
 refine⟨rowK row,i,by simp [Gh.bump],?_,s,?_,b,es,clock,x,p,q,f,?_⟩
 ·rw[c];show RF w g.I J t (g.blk id) row _ Ub;grind
 ·grind
 ·rw[c];exact u.mono λkv e j=>⟨⟨by exact j.1.1,.inr (by simpa [AV.isAgg] using j.1.2)⟩,j.2⟩
mutual
theorem ZiJ:∀(p:Pat) (v:AV) (y:Gi p) (n:Nat),n<=(Kn p v y n).2
 |.own t Uc,v,y,n=>by cases v<;>simp [Kn]
 |.own t Ud,v,y,n=>by cases v<;>simp [Kn]
 |.var t p,v,y,n=>by
  cases v with
  |ptr id path=>
   cases path with
   |nil=>have:=(Yf p y n).1;simpa only[Kn] using this
   |cons a l=>simp [Kn]
  |_=>simp [Kn]
 |.map k t,v,y,n=>by cases v<;>simp [Kn]
 |.rows t Uc,v,y,n=>by cases v<;>simp [Kn]
 |.rows t Ud,v,y,n=>by cases v<;>simp [Kn]
 |.mrows k t,v,y,n=>by cases v<;>simp [Kn]
 |.it k t,v,y,n=>by cases v<;>simp [Kn]
 |.owo _,v,y,n=>by cases v<;>simp [Kn]
 |.fnd _ _ _ _,v,y,n=>by
  cases v with
  |ptr id path=>cases path<;>simp [Kn]
  |_=>simp [Kn]
 |.agg l,v,y,n=>by
  cases v with
  |agg vs=>simpa only[Kn] using Zb2 l vs y n
  |_=>simp [Kn]
 |.fn f l,v,y,n=>by
  cases v with
  |fn b vs=>simpa only[Kn] using Zb2 l vs y n
  |_=>simp [Kn]
 |.pd t,v,y,n=>by cases v<;>simp [Kn]
 |.ro t,v,y,n=>by cases v<;>simp [Kn]
 |.nilr,v,y,n=>by cases v<;>simp [Kn]
 |.nils,v,y,n=>by cases v<;>simp [Kn]
 |.any,v,y,n=>by cases v<;>simp [Kn]
theorem Zb2:∀(l:Pats) (v:Zo) (y:Wi l) (n:Nat),n<=(JU l v y n).2
 |.nil,v,y,n=>by cases v<;>simp [JU]
 |.cons p l,.nil,y,n=>by simp [JU]
 |.cons p l,.cons v vs,y,n=>by have c:=ZiJ p v y.1 n;have d:=Zb2 l vs y.2 (Kn p v y.1 n).2;simp only[JU];omega
end
section
variable {B B0:Z1}{H0:AH}{w0 w:World}{g0:Gh}{ow0:Nat->Nat->Prop}
theorem W5.later{H H' :AH}{g d:Gh}{ow c:Nat->Nat->Prop}{js ks:List Nat}(h:W5 B H w g ow (js++ks))(e:d.I=g.I)(f:∀id b,H' id≠Ub->c id b->(H id≠Ub/\ow id b)\/b∈js):W5 B H' w d c ks:=h.after e f
mutual
theorem Zny(J:RH B0 H0 w0 g0 ow0):∀(p:Pat) (v:AV) (cs:List Value) (x:K6 p) (ids:ZE) (l N:List Nat),(ext p v).run H0 l=Ua ((x,ids),N)->CV w0 g0 v cs->p.noAny=Uc->ids.tk.Nodup->
 ∀{H:AH}{g:Gh}{ow:Nat->Nat->Prop} (_:RH B H w g ow) (_:g0.Le g) (y:Gi p) (js:List Nat) (n:Nat),PO w g.I p y js cs->W5 B H w g ow js->(∀id∈ids.tk,H id=Ub)->(∀id,n<=id->id<(Kn p v y n).2->¬g.K id)->(∀id∈ids.tk,∀u,ZfD (H0 id)=Ua u->g.ver id<n)->
  WU B H w g ow js n (Kn p v y n).2 ids.tk (Zs H (Kn p v y n).1)
 |.own t Uc,v,cs,x,ids,l,N,h,C,_,_,H,g,ow,A,j,y,js,n,L,G,O,D,s=>by
  cases v with
  |vw id=>
   simp only[ext,JS,Z2,Zj,Va]at h;obtain⟨⟨x1,i1⟩,m,V,⟨rfl,rfl⟩,_⟩:=h;rw[Z3]at V;split at V
   ·rename_i t' xs X;simp only[ZA,Zj,Va]at V;obtain⟨z,hz,⟨rfl,rfl⟩,_⟩:=V;obtain⟨he,rfl⟩:=KK hz;cases he;obtain⟨d,M,hO⟩:=J.objs id _ X;simp only[CV]at C;obtain⟨_,rfl,_⟩:=C;simp only[Kn,Zs];have a6:=(j.ty _ d).trans M;rcases L with ⟨rfl,rfl,i⟩|⟨b,cap,cells,e,css,rfl,i,h2,h3,Q,W,h6⟩
    ·simp only[Xx,and_true]at i;refine A.revive1 (o:=.vec _ []) (j.K _ d) G ⟨a6,.inl ⟨rfl,?_,(j.slv _ d).trans i⟩⟩ (by simp);rcases hO with ⟨_,R,_⟩|⟨b,cap,cs,e,css,_,_,hs,_⟩
     ·exact(j.blk _ d).trans R
     ·rw[i]at hs;cases hs
    ·simp only[Xx,and_true]at i;rcases hO with ⟨_,_,hs⟩|⟨b',e7,cs',e',e9,R,_,hs,_⟩
     ·rw[i]at hs;cases hs
     ·rw[i]at hs;simp only[Vjb.injEq,ZL,Addr.mk.injEq,and_true]at hs;obtain⟨rfl,_,rfl⟩:=hs;exact A.revive1 (o:=.vec _ y) (j.K _ d) G ⟨a6,.inr ⟨b,cap,cells,e,css,(j.blk _ d).trans R,by simp,(j.slv _ d).trans i,h2,h3,Q,W,h6⟩⟩ (by simp)
   ·simp [Zb]at V
  |_=>exact WU.none A js n ids.tk
 |.own t Ud,v,cs,x,ids,l,N,h,C,_,_,H,g,ow,A,j,y,js,n,L,G,O,D,s=>by
  have:Kn (.own t Ud) v y n=([],n):=by cases v<;>rfl
  rw[this];exact WU.none A js n ids.tk
 |.var t p,v,cs,x,ids,l,N,h,C,U,a1,H,g,ow,A,j,y,js,n,L,G,O,D,s=>by
  cases v with
  |ptr id path=>
   cases path with
   |nil=>
    simp only[ext]at h;rw[Z3]at h;split at h
    ·rename_i t' c X;simp only[ZO,Z2,Zj,Zb,ZU,Ka,Vb,Ki,Va]at h;obtain⟨⟨rfl,d3⟩,⟨x1,i1⟩,m,V,⟨rfl,rfl⟩,_⟩:=h;obtain⟨d,M,f2,b,cells,e,R,d5,hh,f5,f3⟩:=J.objs id _ X;simp only[CV]at C;obtain⟨_,o,t2,b',h3,Q,rfl⟩:=C;rw[WR]at h3;cases h3;rw[R]at Q;cases Q;obtain⟨_,b2,d9,Z,e2,rfl,i,W,h6,h7⟩:=L;simp only[Xx,Vsb.injEq,ZL,Addr.mk.injEq,and_true]at i;obtain rfl:=i;simp only[Kn];have hn:=(Yf p y n).1;obtain⟨g1,b7,l1,Y,r1,c1,k1,o1⟩:=Zc8 p A y d9 Z.toList n h7 (G.sub (Vqa _ _)) (λid h h' =>D id h (by simpa only[Kn] using h'));have c8:g1.K id:=l1.K _ (j.K _ d);have d2:W5 B (Zs H (Wh (inj p y n).2.1)) w g1 b7 [b]:=by
      obtain⟨h8,h9⟩:=Vl.1 G.nodup;refine⟨by simp,λb' b1=>?_⟩;simp only[Ve]at b1;subst b1;obtain⟨a0,a7,a2,b9⟩:=G.free b' (by simp);refine⟨by rw[Y.I];exact a0,a7,a2,λid c4 c5=>?_⟩;rcases o1 id b' c4 c5 with ⟨a8,c6⟩|a8
      ·exact b9 id a8 c6
      ·exact h8 a8
     obtain⟨g2,a9,l2,i2,r2,k2,o2,t2⟩:=r1.revive1 (n:=n) (o:=.var t' (inj p y n).1) c8 d2
      ⟨(l1.ty _ (j.K _ d)).trans ((j.ty _ d).trans M),ZhU p t' y n d3,b,Z,e2,(l1.blk _ (j.K _ d)).trans ((j.blk _ d).trans R),by simp,W,h6,c1⟩ (tk:=id::i1.tk) (by simp)
     have c7:Zs H ((id,Ua (.var t' (inj p y n).1))::(inj p y n).2.1.map λo=>(o.1,Ua o.2))=Z0 (Zs H (Wh (inj p y n).2.1)) id (Ua (.var t' (inj p y n).1)):=by simp only[Zs];refine Zfz λq hq=>?_;simp only[Vfb]at hq;obtain⟨o,ho,rfl⟩:=hq;have:=(Yf p y n).2 o ho;intro e;exact D o.1 this.1 (by simpa only[Kn] using this.2) (by rw[show o.1=id from e];exact j.K _ d)
     rw[c7];refine⟨g2,a9,l1.trans l2,i2.after (Y.weak λ_ h=>by simp at h) l1,r2,λk h=>?_,λk b' h8 h9=>?_,λk h8=>?_⟩
     ·rcases k2 k h with h|h
      ·exact k1 k h
      ·omega
     ·rcases o2 k b' h8 h9 with ⟨a0,a7⟩|a0
      ·rcases o1 k b' a0 a7 with a2|a2
       ·exact .inl a2
       ·exact .inr (by simp [a2])
      ·simp only[Ve]at a0;exact .inr (by simp [a0])
     ·rcases t2 k h8 with h9|h9|h9
      ·by_cases b3:H k=Ub
       ·right;right;have:∃q∈Wh (inj p y n).2.1,q.1=k:=by
         by_cases hq:∃q∈Wh (inj p y n).2.1,q.1=k
         ·exact hq
         ·exfalso;apply h9;rw[Zds λq d7 e=>hq ⟨q,d7,e⟩];exact b3
        obtain⟨q,hq,rfl⟩:=this;simp only[Wh,Vfb]at hq;obtain⟨o,ho,rfl⟩:=hq;exact(Yf p y n).2 o ho
       ·exact .inl b3
      ·exact .inr (.inl h9)
      ·omega
    ·simp [Zb]at h
   |cons a r=>
    have:Kn (.var t p) (.ptr id (a::r)) y n=([],n):=by rfl
    rw[this];exact WU.none A js n ids.tk
  |_=>exact WU.none A js n ids.tk
 |.map kt vt,v,cs,x,ids,l,N,h,C,_,_,H,g,ow,A,j,y,js,n,L,G,O,D,s=>by
  cases v with
  |mp id=>
   simp only[ext]at h;rw[Z3]at h;split at h
   ·rename_i k e m X;simp only[ZA,Zj,Va]at h;obtain⟨z,hz,⟨rfl,rfl⟩,_⟩:=h;obtain⟨he,rfl⟩:=KK hz;cases he;obtain⟨d,b,es,clock,R,d5,hh,_,f4⟩:=J.objs id _ X;simp only[CV]at C;obtain⟨_,b',Q,rfl⟩:=C;rw[R]at Q;cases Q;obtain⟨b2,b8,a5,rfl,i,W,d0,h6⟩:=L;simp only[Xx,Value.map.injEq,ZL,and_true]at i;obtain rfl:=i;simp only[Kn,Zs];exact A.revive1 (o:=.map _ _ y) (j.K _ d) G ⟨b,b8,a5,(j.blk _ d).trans R,by simp,W,d0,h6.mono λkv e hx=>⟨⟨by simp only[CV];exact hx.1.1,.inr (by simpa [AV.isAgg] using hx.1.2)⟩,⟨by simp only[CV];exact hx.2.1,.inr (by simpa [AV.isAgg] using hx.2.2)⟩⟩⟩ (by simp)
   ·simp [Zb]at h
  |_=>exact WU.none A js n ids.tk
 |.it kt vt,v,cs,x,ids,l,N,h,C,_,_,H,g,ow,A,j,y,js,n,L,G,O,D,s=>by
  have:Kn (.it kt vt) v y n=([],n):=by cases v<;>rfl
  rw[this];exact WU.none A js n ids.tk
 |.rows t Uc,v,cs,x,ids,l,N,h,C,_,_,H,g,ow,A,j,y,js,n,L,G,O,D,s=>by
  cases v with
  |vw id=>
   simp only[ext,Yz,Z2,Zj,Va]at h;obtain⟨⟨x1,i1⟩,m,V,⟨rfl,rfl⟩,_⟩:=h;rw[Z3]at V;split at V
   ·rename_i t' xs u X;simp only[ZA,Zj,Va]at V;obtain⟨z,hz,⟨rfl,rfl⟩,_⟩:=V;obtain⟨he,rfl⟩:=KK hz;cases he;obtain⟨d,M,_,_,hO⟩:=J.objs id _ X;simp only[CV]at C;obtain⟨_,rfl,_⟩:=C;obtain⟨v,i,a4⟩:=L;simp only[Xx,and_true]at i;simp only[Kn,Zs];obtain⟨r,hr⟩:=a4.back (n:=n) ((j.ty _ d).trans M) ((j.slv _ d).trans i) (by
     rcases hO with ⟨_,h3,Q⟩|⟨b,cap,cs',e,h3,_,Q,_⟩
     ·exact .inl ⟨i▸Q,(j.blk _ d).trans h3⟩
     ·exact .inr ⟨b,_,cap,i▸Q,(j.blk _ d).trans h3⟩)
    exact A.revive2 (j.K _ d) (s id (by simp) u (by rw[X];rfl)) G hr (by simp)
   ·simp [Zb]at V
  |_=>exact WU.none A js n ids.tk
 |.rows t Ud,v,cs,x,ids,l,N,h,C,_,_,H,g,ow,A,j,y,js,n,L,G,O,D,s=>by
  have:Kn (.rows t Ud) v y n=([],n):=by cases v<;>rfl
  rw[this];exact WU.none A js n ids.tk
 |.mrows kt t,v,cs,x,ids,l,N,h,C,_,_,H,g,ow,A,j,y,js,n,L,G,O,D,s=>by
  cases v with
  |mp id=>
   simp only[ext]at h;rw[Z3]at h;split at h
   ·rename_i k e m u X;simp only[ZA,Zj,Va]at h;obtain⟨z,hz,⟨rfl,rfl⟩,_⟩:=h;obtain⟨he,rfl⟩:=KK hz;cases he;obtain⟨d,M,_,_,_,_,b,es,clock,R,_,_,_⟩:=J.objs id _ X;simp only[CV]at C;obtain⟨_,b',Q,rfl⟩:=C;rw[R]at Q;cases Q;obtain⟨v,i,a4⟩:=L;simp only[Xx,and_true]at i;subst i;simp only[Kn,Zs];obtain⟨r,hr⟩:=a4.back (n:=n) ((j.ty _ d).trans M) ((j.blk _ d).trans R);exact A.revive2 (j.K _ d) (s id (by simp) u (by rw[X];rfl)) G hr (by simp)
   ·simp [Zb]at h
  |_=>exact WU.none A js n ids.tk
 |.fnd tn tq lt lb,v,cs,x,ids,l,N,h,C,_,_,H,g,ow,A,j,y,js,n,L,G,O,D,s=>by
  cases v with
  |ptr id path=>
   cases path with
   |nil=>
    have key:id∈ids.tk/\∃b,g0.K id/\g0.blk id=Ua b/\(g0.ty id=Jk tn tq lt lb\/g0.ty id=Ye tn tq lt lb):=by
     simp only[ext]at h;rw[Z3]at h;split at h
     ·rename_i X;simp only[ZA,Zj]at h;obtain⟨z,hz,⟨_,rfl⟩,_⟩:=h;obtain⟨he,rfl⟩:=KK hz;cases he;obtain⟨d,M,b,R,hm⟩:=J.objs id _ X;exact⟨by simp,b,d,R,M⟩
     ·rename_i X;simp only[ZO,Z2,ZA,Zj,Zb,ZU,Ka,Ki,Va]at h;obtain⟨rfl,⟨y1,i1⟩,m1,e1,⟨y2,i2⟩,m2,e2,⟨y3,i3⟩,m3,e3,⟨y4,i4⟩,m4,e4,⟨y5,i5⟩,m5,e5,⟨y6,i6⟩,m6,e6,z,hz,⟨_,rfl⟩,_⟩:=h;obtain⟨d,M,_,b,cells,e,R,_⟩:=J.objs id _ X;exact⟨by simp,b,d,R,.inl M⟩
     ·simp [Zb]at h
    obtain⟨S,b,d,R,M⟩:=key;simp only[CV]at C;obtain⟨_,o',t',b',V,Q,rfl⟩:=C;rw[WR]at V;cases V;rw[R]at Q;cases Q;obtain⟨b2,i,a4⟩:=L;simp only[Xx,Vsb.injEq,ZL,Addr.mk.injEq,and_true]at i;obtain rfl:=i;simp only[Kn,Zs]
    exact A.revive1 (o:=.fnd tn tq lt lb y) (j.K _ d) G ⟨M.imp (j.ty _ d).trans (j.ty _ d).trans,b,(j.blk _ d).trans R,a4⟩ S
   |cons a r=>
    have:Kn (.fnd tn tq lt lb) (.ptr id (a::r)) y n=([],n):=by rfl
    rw[this];exact WU.none A js n ids.tk
  |_=>exact WU.none A js n ids.tk
 |.owo lb,v,cs,x,ids,l,N,h,C,_,_,H,g,ow,A,j,y,js,n,L,G,O,D,s=>by
  have:Kn (.owo lb) v y n=([],n):=by cases v<;>rfl
  rw[this];exact WU.none A js n ids.tk
 |.agg pl,v,cs,x,ids,l,N,h,C,U,a1,H,g,ow,A,j,y,js,n,L,G,O,D,s=>by
  cases v with
  |agg vs=>
   simp only[ext]at h;simp only[CV]at C;simp only[PO]at L;simp only[Kn]at D⊢
   exact ZiK J pl vs cs x ids l N h C (by simpa only[Pat.noAny] using U) a1 A j y js n L G O D s
  |_=>exact WU.none A js n ids.tk
 |.fn f pl,v,cs,x,ids,l,N,h,C,U,a1,H,g,ow,A,j,y,js,n,L,G,O,D,s=>by
  cases v with
  |fn f' vs=>
   simp only[ext,ZO,Zb,ZU,Ka]at h;obtain⟨d1,h⟩:=h;obtain rfl:=Vm d1;simp only[CV]at C;obtain⟨cc,rfl,C⟩:=C;obtain⟨f1,i,L⟩:=L;simp only[Xx,and_true]at i;obtain rfl:=Ztf i;simp only[Kn]at D⊢
   exact ZiK J pl vs cc x ids l N h C (by simpa only[Pat.noAny] using U) a1 A j y js n L G O D s
  |_=>exact WU.none A js n ids.tk
 |.pd t,v,cs,x,ids,l,N,h,C,_,_,H,g,ow,A,j,y,js,n,L,G,O,D,s=>by
  have:Kn (.pd t) v y n=([],n):=by cases v<;>rfl
  rw[this];exact WU.none A js n ids.tk
 |.ro t,v,cs,x,ids,l,N,h,C,_,_,H,g,ow,A,j,y,js,n,L,G,O,D,s=>by
  have:Kn (.ro t) v y n=([],n):=by cases v<;>rfl
  rw[this];exact WU.none A js n ids.tk
 |.nilr,v,cs,x,ids,l,N,h,C,_,_,H,g,ow,A,j,y,js,n,L,G,O,D,s=>by
  have:Kn .nilr v y n=([],n):=by cases v<;>rfl
  rw[this];exact WU.none A js n ids.tk
 |.nils,v,cs,x,ids,l,N,h,C,_,_,H,g,ow,A,j,y,js,n,L,G,O,D,s=>by
  have:Kn .nils v y n=([],n):=by cases v<;>rfl
  rw[this];exact WU.none A js n ids.tk
 |.any,v,cs,x,ids,l,N,h,C,_,_,H,g,ow,A,j,y,js,n,L,G,O,D,s=>by
  have:Kn .any v y n=([],n):=by cases v<;>rfl
  rw[this];exact WU.none A js n ids.tk
theorem ZiK(J:RH B0 H0 w0 g0 ow0):∀(pl:Pats) (v:Zo) (cs:List Value) (x:Kw pl) (ids:ZE) (l N:List Nat),(WK pl v).run H0 l=Ua ((x,ids),N)->Kg w0 g0 v cs->pl.noAny=Uc->ids.tk.Nodup->
 ∀{H:AH}{g:Gh}{ow:Nat->Nat->Prop} (_:RH B H w g ow) (_:g0.Le g) (y:Wi pl) (js:List Nat) (n:Nat),XN w g.I pl y js cs->W5 B H w g ow js->(∀id∈ids.tk,H id=Ub)->(∀id,n<=id->id<(JU pl v y n).2->¬g.K id)->(∀id∈ids.tk,∀u,ZfD (H0 id)=Ua u->g.ver id<n)->
  WU B H w g ow js n (JU pl v y n).2 ids.tk (Zs H (JU pl v y n).1)
 |.nil,v,cs,x,ids,l,N,h,C,_,_,H,g,ow,A,j,y,js,n,L,G,O,D,s=>by
  have:JU .nil v y n=([],n):=by cases v<;>rfl
  rw[this];exact WU.none A js n ids.tk
 |.cons p pl,.nil,cs,x,ids,l,N,h,C,_,_,H,g,ow,A,j,y,js,n,L,G,O,D,s=>by simp [WK,Zb]at h
 |.cons p pl,.cons v vs,cs,x,ids,l,N,h,C,U,a1,H,g,ow,A,j,y,js,n,L,G,O,D,s=>by
  simp only[WK,Z2,Zj,Va]at h;obtain⟨⟨x1,i1⟩,m1,V,⟨x2,i2⟩,m2,h2,⟨rfl,rfl⟩,_⟩:=h;simp only[Kg]at C;obtain⟨c1,c2,rfl,h3,Q⟩:=C;simp only[Pats.noAny,Vb]at U;have d4:(i1.tk++i2.tk).Nodup:=a1;obtain⟨n1,n2,n3⟩:=Vh.1 d4;obtain⟨j0,d6,_⟩:=GW J (I:=λ_=>True) (λ_ _=>trivial) p v c1 x1 i1 _ _ V h3 (λ_ _=>trivial) n1;have hl:=Rx p x1 j0 c1 U.1 d6;obtain⟨j1,j2,rfl,b5,b6⟩:=L;rw[Vra hl]at b5;rw[Vsa hl]at b6;simp only[JU]at D⊢;have f6:=ZiJ p v y.1 n;have f7:=Zb2 pl vs y.2 (Kn p v y.1 n).2;obtain⟨g1,b7,l1,Y,r1,k1,o1,t1⟩:=Zny J p v c1 x1 i1 _ _ V h3 U.1 n1 A j y.1 j1 n b5 (G.sub (Vn _ _)) (λid h=>O id (by simp [ZE.app,h])) (λid h h' =>D id h (by omega)) λid h=>s id (by simp [ZE.app,h]);have c9:∀id∈i2.tk,Zs H (Kn p v y.1 n).1 id=none:=λid S=>by
   by_cases b4:Zs H (Kn p v y.1 n).1 id=Ub
   ·exact b4
   ·exfalso;rcases t1 id b4 with W|W|W
    ·exact W (O id (by simp [ZE.app,S]))
    ·exact n3 id W id S rfl
    ·cases a3:H0 id with
     |none=>exact RR pl vs x2 i2 _ _ h2 id S a3
     |some ob=>exact D id W.1 (by omega) (j.K _ (J.objs id ob a3).1)
  obtain⟨g2,a9,l2,d8,r2,k2,o2,t2⟩:=ZiK J pl vs c2 x2 i2 _ _ h2 Q U.2 n2 r1 (j.trans l1) y.2 j2 (Kn p v y.1 n).2 (by rw[Y.I];exact b6) (G.later Y.I o1) c9 (λid h h' hK=>by
   rcases k1 id hK with h3|h3
   ·exact D id (by omega) h' h3
   ·omega) λid S u hu=>by
    have b0:g.K id:=by
     cases a3:H0 id with
     |none=>exact absurd a3 (RR pl vs x2 i2 _ _ h2 id S)
     |some ob=>exact j.K _ (J.objs id ob a3).1
    rw[Y.ver id b0 λW=>n3 id W id S rfl];have:=s id (by simp [ZE.app,S]) u hu;omega
  rw[Xq];refine⟨g2,a9,l1.trans l2,(d8.weak λk D=>by simp [ZE.app,D]).after (Y.weak λk D=>by simp [ZE.app,D]) l1,r2,λid h=>?_,λid b' W h6=>?_,λid W=>?_⟩
  ·rcases k2 id h with h|h
   ·rcases k1 id h with h|h
    ·exact .inl h
    ·exact .inr (by omega)
   ·exact .inr (by omega)
  ·rcases o2 id b' W h6 with ⟨h7,h8⟩|h7
   ·rcases o1 id b' h7 h8 with h9|h9
    ·exact .inl h9
    ·exact .inr (by simp [h9])
   ·exact .inr (by simp [h7])
  ·rcases t2 id W with h6|h6|h6
   ·rcases t1 id h6 with h7|h7|h7
    ·exact .inl h7
    ·exact .inr (.inl (by simp [ZE.app,h7]))
    ·exact .inr (.inr (by omega))
   ·exact .inr (.inl (by simp [ZE.app,h6]))
   ·exact .inr (.inr (by omega))
end
end
end Tr
end
section
namespace Tr
open Go
theorem Rd.flat{w w' :World}{I I' :Nat->Prop}:∀(t:Ty) (x:El t) (cs:List Value),t.flat=Uc->Rd w I t x cs->Rd w' I' t x cs
 |.int _,_,_,_,h=>h
 |.bool,_,_,_,h=>h
 |.str,_,_,_,h=>h
 |.sl t,_,_,d,_=>by simp [Ty.flat]at d
 |.unit,_,_,_,h=>h
 |.prod a b,x,cs,d,h=>by
  simp [Ty.flat,Vb]at d;have ⟨k,l,f,i,j⟩:=h
  exact⟨k,l,f,Rd.flat a _ _ d.1 i,Rd.flat b _ _ d.2 j⟩
 |.arr n t,x,cs,d,h=>by
  have ⟨f,e,i,j⟩:=h
  exact⟨f,e,i,j.mono λy c m=>Rd.flat t y c d m⟩
 |.ref,_,_,_,h=>h.elim
 |.pt t,_,_,d,_=>by simp [Ty.flat]at d
 |.lk a b,_,_,d,_=>by simp [Ty.flat]at d
 |.pn t,_,_,d,_=>by simp [Ty.flat]at d
section
variable {w:World}{I I' :Nat->Prop}
theorem WG.flat{J:Nat->Prop}{t:Ty}{xs:List (El t)}{v:Value}(p:t.flat=Uc)(h:WG w I J t xs v):WG w I' J t xs v:=by
 rcases h with h|⟨b,cap,cs,e,d,f,i,j,k,l,m,n⟩
 ·exact .inl h
 ·exact .inr ⟨b,cap,cs,e,d,f,i,j,k,l,m.mono λx c q=>Rd.flat t x c p q,n⟩
theorem Xg.flat{J:Nat->Prop}{t:Ty}{xs:List (List (El t))}{v:Value}(i:t.flat=Uc)(h:Xg w I J t xs v):Xg w I' J t xs v:=by have ⟨f,⟨d,c⟩,e⟩:=h;exact⟨f,⟨d,λk x a b=>(c.rd k x a b).flat i,c.ds,c.tp⟩,e⟩
theorem Hb.flat{J:Nat->Prop}{c t:Ty}{m:List (El c×List (El t))}{v:Value}(u:c.flat=Uc)(s:t.flat=Uc)(h:Hb w I J c t m v):Hb w I' J c t m v:=by have ⟨row,b,es,clock,j,l,n,f,d,p,q,r⟩:=h;exact⟨row,b,es,clock,j,l,n,f,⟨λk x a b=>(d.rd k x a b).flat s,d.ds,d.tp⟩,p,q,r.mono λkv e i=>⟨⟨Rd.flat c _ _ u i.1.1,i.1.2⟩,i.2⟩⟩
mutual
theorem PC.flat:∀(p:Pat) (x:K6 p) (js:List Nat) (cs:List Value),p.flat=Uc->PC w I p x js cs->PC w I' p x js cs
 |.pd t,x,js,cs,d,h=>⟨h.1,Rd.flat t x cs d h.2⟩
 |.own t k,x,js,cs,d,h=>by
  simp only[PC]at h⊢;rcases h with h|⟨b,cap,cells,e,css,q,i,j,n,r,s,z⟩
  ·exact .inl h
  ·exact .inr ⟨b,cap,cells,e,css,q,i,j,n,r,s.mono λx c m=>Rd.flat t x c d m,z⟩
 |.var t p,x,js,cs,d,h=>by
  obtain⟨q,b,u,cells,e,i,j,n,r,s⟩:=h
  exact⟨q,b,u,cells,e,i,j,n,r,PC.flat p x u _ d s⟩
 |.ro t,_,_,_,d,_=>by simp [Pat.flat]at d
 |.map y C,x,js,cs,d,h=>by
  simp only[Pat.flat,Vb]at d;obtain⟨b,es,clock,i,j,n,A,r⟩:=h
  exact⟨b,es,clock,i,j,n,A,r.mono λx e m=>⟨⟨Rd.flat y _ _ d.1 m.1.1,m.1.2⟩,Rd.flat C _ _ d.2 m.2.1,m.2.2⟩⟩
 |.it y C,x,js,cs,d,h=>by
  simp only[Pat.flat,Vb]at d;obtain⟨b,M,es,clock,since,seen,q,i,j,n,r,s,z⟩:=h
  exact⟨b,M,es,clock,since,seen,q,i,j,n,r,s,z.mono λx e m=>⟨⟨Rd.flat y _ _ d.1 m.1.1,m.1.2⟩,Rd.flat C _ _ d.2 m.2.1,m.2.2⟩⟩
 |.rows t k,x,js,cs,d,h=>by
  obtain⟨v,i,j⟩:=h
  exact⟨v,i,j.flat d⟩
 |.mrows y t,x,js,cs,d,h=>by
  simp only[Pat.flat,Vb]at d;obtain⟨v,i,j⟩:=h
  exact⟨v,i,j.flat d.1 d.2⟩
 |.fnd _ _ _ _,_,_,_,d,_=>by simp [Pat.flat]at d
 |.owo _,_,_,_,d,_=>by simp [Pat.flat]at d
 |.agg l,x,js,cs,d,h=>by
  simp only[PC]at h⊢
  exact JX.flat l x js cs d h
 |.fn f l,x,js,cs,d,h=>by
  obtain⟨J,i,j⟩:=h
  exact⟨J,i,JX.flat l x js J d j⟩
 |.nilr,_,_,_,_,h=>h
 |.nils,_,_,_,_,h=>h
 |.any,_,_,_,_,h=>h
theorem JX.flat:∀(l:Pats) (x:Kw l) (js:List Nat) (cs:List Value),l.flat=Uc->JX w I l x js cs->JX w I' l x js cs
 |.nil,_,_,_,_,h=>h
 |.cons p l,x,js,cs,d,h=>by simp only[Pats.flat,Vb]at d;obtain⟨K,L,D,G,q,i,j,n⟩:=h;exact⟨K,L,D,G,q,i,PC.flat p x.1 K D d.1 j,JX.flat l x.2 L G d.2 n⟩
end
theorem JA.flat:∀(l:Pats) (x:Kw l) (js:List Nat) (vs:List Value),l.flat=Uc->JA w I l x js vs->JA w I' l x js vs
 |.nil,_,_,_,_,h=>h
 |.cons p l,x,js,vs,b,h=>by simp [Pats.flat,Vb]at b;have ⟨d,e,v,r,f,i,c,j⟩:=h;exact⟨d,e,v,r,f,i,⟨PC.flat p x.1 d _ b.1 c.1,c.2⟩,JA.flat l x.2 e r b.2 j⟩
mutual
theorem PO.flat:∀(p:Pat) (y:Gi p) (js:List Nat) (cs:List Value),p.oflat=Uc->PO w I p y js cs->PO w I' p y js cs
 |.own t Uc,y,js,cs,b,h=>PC.flat (.own t Uc) y js cs (by simpa [Pat.oflat,Pat.flat] using b) h
 |.own t Ud,_,_,_,_,h=>h
 |.var t p,y,js,cs,b,h=>PC.flat (.var t p) y js cs (by simpa only[Pat.oflat,Pat.flat] using b) h
 |.map e n,y,js,cs,b,h=>PC.flat (.map e n) y js cs (by simpa only[Pat.oflat,Pat.flat] using b) h
 |.rows t Uc,y,js,cs,b,h=>PC.flat (.rows t Uc) y js cs (by simpa [Pat.oflat,Pat.flat] using b) h
 |.rows t Ud,_,_,_,_,h=>h
 |.mrows e t,y,js,cs,b,h=>PC.flat (.mrows e t) y js cs (by simpa only[Pat.oflat,Pat.flat] using b) h
 |.agg l,y,js,cs,b,h=>by
  simp only[PO]at h⊢
  exact XN.flat l y js cs (by simpa only[Pat.oflat] using b) h
 |.fn f l,y,js,cs,b,h=>by
  obtain⟨i,c,d⟩:=h
  exact⟨i,c,XN.flat l y js i (by simpa only[Pat.oflat] using b) d⟩
 |.fnd _ _ _ _,_,_,_,b,_=>by simp [Pat.oflat]at b
 |.owo _,_,_,_,_,h=>h
 |.it _ _,_,_,_,_,h=>h
 |.pd _,_,_,_,_,h=>h
 |.ro _,_,_,_,_,h=>h
 |.nilr,_,_,_,_,h=>h
 |.nils,_,_,_,_,h=>h
 |.any,_,_,_,_,h=>h
theorem XN.flat:∀(l:Pats) (y:Wi l) (js:List Nat) (cs:List Value),l.oflat=Uc->XN w I l y js cs->XN w I' l y js cs
 |.nil,_,_,_,_,h=>h
 |.cons p l,y,js,cs,b,h=>by simp only[Pats.oflat,Vb]at b;obtain⟨j,k,m,c,d⟩:=h;exact⟨j,k,m,PO.flat p y.1 j _ b.1 c,XN.flat l y.2 k _ b.2 d⟩
end
theorem HC.flat:∀(l:Pats) (y:Wi l) (js:List Nat) (vs:List Value),l.oflat=Uc->HC w I l y js vs->HC w I' l y js vs
 |.nil,_,_,_,_,h=>h
 |.cons p l,y,js,vs,b,h=>by simp [Pats.oflat,Vb]at b;have ⟨c,d,v,r,e,f,i,j⟩:=h;exact⟨c,d,v,r,e,f,PO.flat p y.1 c _ b.1 i,HC.flat l y.2 d r b.2 j⟩
mutual
theorem PO.mono(c:∀b,I b->I' b):∀(p:Pat) (y:Gi p) (js:List Nat) (cs:List Value),PO w I p y js cs->PO w I' p y js cs
 |.own t Uc,y,js,cs,h=>PC.mono (λ_ _=>rfl) c (.own t Uc) y js cs (λ_ _=>rfl) h
 |.own t Ud,_,_,_,h=>h
 |.var t p,y,js,cs,h=>PC.mono (λ_ _=>rfl) c (.var t p) y js cs (λ_ _=>rfl) h
 |.map i q,y,js,cs,h=>PC.mono (λ_ _=>rfl) c (.map i q) y js cs (λ_ _=>rfl) h
 |.rows t Uc,y,js,cs,h=>PC.mono (λ_ _=>rfl) c (.rows t Uc) y js cs (λ_ _=>rfl) h
 |.rows t Ud,_,_,_,h=>h
 |.mrows i t,y,js,cs,h=>PC.mono (λ_ _=>rfl) c (.mrows i t) y js cs (λ_ _=>rfl) h
 |.agg l,y,js,cs,h=>by
  simp only[PO]at h⊢
  exact XN.mono c l y js cs h
 |.fn f l,y,js,cs,h=>by
  obtain⟨j,d,e⟩:=h
  exact⟨j,d,XN.mono c l y js j e⟩
 |.owo _,_,_,_,h=>h
 |.fnd tn tq lt lb,y,js,cs,h=>PC.mono (λ_ _=>rfl) c (.fnd tn tq lt lb) y js cs (λ_ _=>rfl) h
 |.it _ _,_,_,_,h=>h
 |.pd _,_,_,_,h=>h
 |.ro _,_,_,_,h=>h
 |.nilr,_,_,_,h=>h
 |.nils,_,_,_,h=>h
 |.any,_,_,_,h=>h
theorem XN.mono(c:∀b,I b->I' b):∀(l:Pats) (y:Wi l) (js:List Nat) (cs:List Value),XN w I l y js cs->XN w I' l y js cs
 |.nil,_,_,_,h=>h
 |.cons p l,y,js,cs,h=>by obtain⟨k,m,n,d,e⟩:=h;exact⟨k,m,n,PO.mono c p y.1 k _ d,XN.mono c l y.2 m _ e⟩
end
theorem HC.mono(c:∀b,I b->I' b):∀(l:Pats) (y:Wi l) (js:List Nat) (vs:List Value),HC w I l y js vs->HC w I' l y js vs
 |.nil,_,_,_,h=>h
 |.cons p l,y,js,vs,h=>by have ⟨d,e,v,r,f,i,j,k⟩:=h;exact⟨d,e,v,r,f,i,PO.mono c p y.1 d _ j,HC.mono c l y.2 e r k⟩
end
def Rp:List Value->Value
 |[v]=>v
 |vs=>.tuple vs.toArray
def RV(w:World)(I:Nat->Prop)(l:Pats)(x:Kw l)(js:List Nat)(v:Value):Prop:= ∃vs,JA w I l x js vs/\v=Rp vs
def DT(S:Spec)(w:World)(I:Nat->Prop)(js:List Nat)(c:List Value)(z:Wi S.args×Kw S.res)(rv:Value)(w' :World):Prop:=
 ∃I' d e,HC w' I' S.args z.1 d c/\RV w' I' S.res z.2 e rv/\(d++e).Nodup/\(∀b∈d++e,¬I' b/\b<w'.heap.size/\(b∈js\/w.heap.size<=b))/\(∀b,I b->I' b)/\
  (∀b,I' b->b<w'.heap.size/\(I b\/b∈js\/w.heap.size<=b))/\w'.os=w.os/\w'.tape=w.tape/\YI S.pl w' w/\w.heap.size<=w'.heap.size/\∀b,b<w.heap.size->b ∉ js->w'.heap[b]? =w.heap[b]?
def Ga (P:Program) (w:World) (J:Nat→Prop):Prop:= ∀b,P.globalNamed "internal/strconv.uint64pow10" =some b→b<w.heap.size∧ ¬J b∧Lib.TabIs P w "internal/strconv.uint64pow10" .u64 Lib.pow10Tab
theorem Ga.after{P:Program}{B:Z1}{H:AH}{w:World}{g:Gh}{ow:Nat->Nat->Prop}(h:Ga P B.w0 B.own0)(d:RH B H w g ow){js:List Nat}(j:∀b∈js,B.own0 b\/B.w0.heap.size<=b):Ga P w (· ∈js):=by intro b i;have ⟨c,e,f⟩:=h b i;refine⟨Nat.lt_of_lt_of_le c d.size,by grind,?_⟩;have:=d.kept b c e;unfold Lib.TabIs World.var? at f⊢;grind
def DY(kp:List (Nat×Nat×Nat))(d:List Value)(w w' :World):Prop:=
 ∀k∈kp,∀b,d[k.1]? =Ua (.pointer (Ua ⟨b,0,Ub⟩))->∀cs e,w.heap[b]? =Ua (.cells cs e (0,0))->∃c f,w'.heap[b]? =Ua (.cells c f (0,0))/\c[k.2.2]? =cs[k.2.2]?
def Zba(P:Program)(f:FuncId)(S:Spec):Prop:=
 ∀(w:World) (I:Nat->Prop) (c:List Value) (d:List Nat) (x:Kw S.args) (z:S.α),JA w I S.args x d c->d.Nodup->(∀b∈d,¬I b/\b<w.heap.size)->(∀b,I b->b<w.heap.size)->(S.pl=Ud->Ga P w (· ∈d))->S.f x=Ua z->
  Calls P f c.toArray w λe w' =>∃h,e=.returned h/\DT S w I d c (S.unp z) h w' /\DY S.kp c w w'
structure ZT (P:Program) (f:FuncId) (S:Spec):Prop where
 wf:S.args.wf=Uc
 fn:∃fn,P.funcs[f]? =some fn∧fn.body.isNone=false∧(fn.name== "runtime.NumGoroutine")=false
 run:∀(w:World) (I:Nat->Prop) (vals:List Value) (js:List Nat) (x:Kw S.args) (z:S.α),JA w I S.args x js vals->js.Nodup->(∀b∈js,¬I b/\b<w.heap.size)->(∀b,I b->b<w.heap.size)->(S.pl=Ud->Ga P w (· ∈js))->S.f x=Ua z->
  Calls P f vals.toArray w λe w' =>∃rv,e=.returned rv/\DT S w I js vals (S.unp z) rv w'
 kept:S.kp=[]\/Zba P f S:=by exact .inl rfl
theorem ZT.keptRun{P:Program}{f:FuncId}{S:Spec}(h:ZT P f S):Zba P f S:=by
 rcases h.kept with c|c
 ·intro w I b r x z d i j l m n;refine(h.run w I b r x z d i j l m n).mono ?_;rintro e w' ⟨s,p,q⟩;exact⟨s,p,q,by intro k t;grind⟩
 omega
section
variable {P:Program}{B B0:Z1}{H H0:AH}{w w0:World}{g g0:Gh}{ow ow0:Nat->Nat->Prop}
theorem Znx(e:RH B0 H0 w0 g0 ow0):∀(pl:Pats) (v:Zo) (b:List Value) (x:Kw pl) (ids:ZE) (l L:List Nat),(WK pl v).run H0 l=Ua ((x,ids),L)->W8 w0 g0 v b->pl.wf=Uc->ids.tk.Nodup->
 ∀{H:AH}{g:Gh}{ow:Nat->Nat->Prop} (_:RH B H w g ow) (_:g0.Le g) (y:Wi pl) (js:List Nat) (n:Nat),HC w g.I pl y js b->W5 B H w g ow js->(∀id∈ids.tk,H id=Ub)->(∀id,n<=id->id<(JU pl v y n).2->¬g.K id)->(∀id∈ids.tk,∀u,ZfD (H0 id)=Ua u->g.ver id<n)->
  WU B H w g ow js n (JU pl v y n).2 ids.tk (Zs H (JU pl v y n).1)
 |.nil,v,b,x,ids,l,L,h,Q,_,_,H,g,ow,z,q,y,js,n,W,G,D,j,f=>by
  have:JU .nil v y n=([],n):=by rfl
  exact WU.none z js n ids.tk
 |.cons p pl,.nil,b,x,ids,l,L,h,Q,_,_,H,g,ow,z,q,y,js,n,W,G,D,j,f=>by simp [WK,Zb]at h
 |.cons p pl,.cons v vs,b,x,ids,l,L,h,Q,Z,U,H,g,ow,z,q,y,js,n,W,G,D,j,f=>by
  simp only[WK,Z2,Va]at h;obtain⟨⟨x1,J⟩,m1,h1,⟨x2,C⟩,m2,M,⟨rfl,rfl⟩,_⟩:=h;obtain⟨u,r,rfl,h3,h4⟩:=Q;have A:pl.wf=Uc/\(p=.any\/p.noAny=Uc):=by
   cases p<;>simp only[Pats.wf]at Z<;>first|grind|grind
  have R:(J.tk++C.tk).Nodup:=U;obtain⟨n1,n2,n3⟩:=Vh.1 R;obtain⟨j1,j2,u',r',rfl,Y,X,a2⟩:=W;obtain⟨rfl,rfl⟩:=List.cons.inj Y;simp only[JU]at j⊢;have a3:=ZiJ p v y.1 n;have a4:=Zb2 pl vs y.2 (Kn p v y.1 n).2;have key:WU B H w g ow j1 n (Kn p v y.1 n).2 J.tk (Zs H (Kn p v y.1 n).1):=by
   rcases A.2 with rfl|S
   ·have:Kn .any v y.1 n=([],n):=by rfl
    exact WU.none z j1 n J.tk
   ·exact Zny e p v u.cells.toList x1 J _ _ h1 h3.1 S n1 z q y.1 j1 n X (G.sub (Vn _ _)) (λid h=>D id (by simp [ZE.app,h])) (by grind) λid h=>f id (by simp [ZE.app,h])
  obtain⟨g1,a5,l1,i,r1,k1,o1,t1⟩:=key;have O:∀id∈C.tk,Zs H (Kn p v y.1 n).1 id=none:=λid d=>by
   by_cases V:Zs H (Kn p v y.1 n).1 id=Ub
   ·omega
   ·exfalso;rcases t1 id V with m|m|m
    ·exact m (D id (by simp [ZE.app,d]))
    ·grind
    ·cases c:H0 id with
     |none=>exact RR pl vs x2 C _ _ M id d c
     |some ob=>exact j id m.1 (by omega) (q.K _ (e.objs id ob c).1)
  obtain⟨g2,a1,l2,a0,r2,k2,o2,t2⟩:=Znx e pl vs r x2 C _ _ M h4 A.1 n2 r1 (q.trans l1) y.2 j2 (Kn p v y.1 n).2 (by rw[i.I];omega) (G.later i.I o1) O (by grind) λid d u hu=>by
   have t:g.K id:=by
    cases c:H0 id with
    |none=>exact absurd c (RR pl vs x2 C _ _ M id d)
    |some ob=>exact q.K _ (e.objs id ob c).1
   rw[i.ver id t (by grind)];have:=f id (by simp [ZE.app,d]) u hu;omega
  rw[Xq];refine⟨g2,a1,l1.trans l2,(a0.weak λk j=>by simp [ZE.app,j]).after (i.weak λk j=>by simp [ZE.app,j]) l1,r2,λid h=>?_,λid b' m s=>?_,λid m=>?_⟩
  ·grind
  ·grind
  ·rcases t2 id m with s|s|s
   ·rcases t1 id s with N|N|N
    ·grind
    ·exact .inr (.inl (by simp [ZE.app,N]))
    omega
   ·exact .inr (.inl (by simp [ZE.app,s]))
   omega
theorem ZE.ok_iff{i:ZE}{fz:List Nat}(h:i.ok fz=Uc):i.tk.Nodup/\(∀n∈i.br,n ∉ i.tk)/\∀n∈i.tk,n ∉ fz:=by simp [ZE.ok,Vb]at h;exact⟨Zfq.1 h.1.1,RQ.1 h.1.2,RQ.1 h.2⟩
theorem Zpg{l:Zo}{vs:List Value}(h:W8 w g l vs):VR w g (Zoz l) (Rp vs):=by
 cases l with
 |nil=>subst h;exact⟨[],rfl,rfl⟩
 |cons a l=>
  obtain⟨v,r,rfl,d,e⟩:=h
  cases l with
  |nil=>subst e;exact .of1 d
  |cons b l=>
   obtain⟨v2,c,rfl,f,i⟩:=e;exact⟨v::v2::c,rfl,v,v2::c,rfl,d,v2,c,rfl,f,i⟩
theorem Zf9(e:RH B H w g ow){n:Nat}{r:Unit}:∀(tk:List Nat) {l i:List Nat},(Zci n tk).run H l=Ua (r,i)->∀id∈tk,∀u,ZfD (H id)=Ua u->g.ver id<n
 |[],l,i,h,id,b=>by grind
 |k::tk,l,i,h,id,b=>by
  simp [Zci]at h;rw[Z3]at h;intro u d;split at h
  ·rename_i c;simp [ZO,Zb,ZU,Ka]at h;rcases Vk.1 b with rfl|b
   ·have f:g.ver id=_:=(e.objs id _ c).2.2.1;simp_all
   ·exact Zf9 e tk h.2 id b u d
  ·rename_i c;simp [ZO,Zb,ZU,Ka]at h;rcases Vk.1 b with rfl|b
   ·have f:g.ver id=_:=(e.objs id _ c).2.2.1;simp_all
   ·exact Zf9 e tk h.2 id b u d
  ·rename_i f j;rcases Vk.1 b with rfl|b
   ·exfalso
    cases c:H id with
    |none=>rw[c]at d;cases d
    |some o=>cases o<;>rw[c]at d<;>first|exact f _ _ _ _ c|exact(by grind) |cases d
   ·exact Zf9 e tk h id b u d
theorem ZqT{f:FuncId}{S:Spec}(hS:ZT P f S)(hA:B.pl=Ud->Ga P B.w0 B.own0)(b3:B.pl=Uc->S.pl=Uc)(d:RH B H w g ow){nid:Nat}(hk:∀id,g.K id->id<nid\/nid+Wu<=id){q:Zo}{n:List Value}(hv:W8 w g q n){v:AV}{patch:KF}{rd:List Nat}
 {l:List Nat} (h:(ZgX S nid q).run H l=Ua ((v,patch),rd)):
 Calls P f n.toArray w λe w' =>∃rv g' b7,e=.returned rv/\RH B (Zs H patch) w' g' b7/\g.Le g' /\Kq g.I w w' /\VR w' g' v rv/\(∀id,g'.K id->g.K id\/(nid<=id/\id<nid+Wu))/\DY S.kp n w w' :=by
 simp only[ZgX,Z2,ZA,Zj,Va]at h;obtain⟨⟨x,ids⟩,m,hx,_,b1,_,_,b6,ds,_,D,z,hz,_,hq,⟨rfl,rfl⟩,_⟩:=h;obtain⟨X,b9,_⟩:=ZE.ok_iff (HO b1);have W:=HO hq;simp only[Nat.ble_eq]at W;obtain⟨js,b4,a9,G⟩:=Zle d (I:=λb=>g.I b\/ZP H ow ids.br b) (by grind) _ _ _ _ _ _ _ hx hv (by grind) X;have c7:∀b∈js,¬g.I b/\b<w.heap.size/\(B.own0 b\/B.w0.heap.size<=b):=λb c=>by obtain⟨id,_,r,p⟩:=G b c;exact d.sep id b r p
 have a8:∀b∈js,¬ZP H ow ids.br b:=λb c h=>by obtain⟨id,r,p⟩:=Ht d h (G b c);grind
 refine(hS.keptRun w _ n js x z b4 a9 (by grind) (λb c=>?_) (λhf=>(hA (by grind)).after d (by grind)) hz).mono ?_
 ·rcases c with c|⟨id,_,r,p⟩
  ·exact d.ilt b c
  ·exact(d.sep id b r p).2.1
 rintro e w' ⟨rv,rfl,⟨I',jo,jr,a1,⟨Q,a3,rfl⟩,Y,a7,a5,a4,b2,M,a0,b5,j⟩,b0⟩;generalize c6:(S.res.flat&&S.args.oflat)=i at W D⊢;have s:∀id,Zs H ((ids.tk.map λid=>(id,Ub))++(bif i then [] else ids.br.map λid=>(id,Ub))) id≠Ub->H id≠Ub/\id ∉ ids.tk/\(i=Ud->id ∉ ids.br):=by
  intro id;rw[Xq]
  cases i with
  |true=>simp only[Zd,Zs];rw[Rb];grind
  |false=>
   simp only[Ze];rw[Rb];split
   ·simp
   ·rename_i hi;rw[Rb];grind
 have R:RH B (Zs H ((ids.tk.map λid=>(id,Ub))++(bif i then [] else ids.br.map λid=>(id,Ub)))) w g ow:=by
  rw[Xq]
  cases i with
  |true=>exact d.drops _
  |false=>exact(d.drops _).drops _
 have c4:∀b,(b∈js\/w.heap.size<=b)->∀id,Zs H ((ids.tk.map λid=>(id,Ub))++(bif i then [] else ids.br.map λid=>(id,Ub))) id≠Ub->¬ow id b:=by
  intro b c id k Z;obtain⟨r,p,_⟩:=s id k;rcases c with c|c
  ·obtain⟨N,t,C,h5⟩:=G b c;have:=d.dist id N b r C Z h5;grind
  ·have:=(d.sep id b r Z).2.1;omega
 have c1:∀b,(b∈js\/w.heap.size<=b)->(B.own0 b\/B.w0.heap.size<=b):=by
  intro b c;rcases c with c|c
  ·grind
  ·have:=d.size;omega
 have a6:RH B (Zs H ((ids.tk.map λid=>(id,Ub))++(bif i then [] else ids.br.map λid=>(id,Ub)))) w' (g.grow λb=>i=Ud/\I' b) ow:=
  R.call (js:=js) j b5 b2 M (a0.weak b3) (by grind) (by
   rintro b ⟨hf,c⟩;obtain⟨r,p⟩:=a4 b c;refine⟨r,?_,λid k Z=>?_⟩
   ·rcases p with (p|⟨id,_,t,C⟩) |p
    ·exact d.inew b p
    ·exact .inr (d.sep id b t C).2.2
    grind
   ·rcases p with (p|⟨N,h5,t,C⟩) |p
    ·exact(R.sep id b k Z).1 p
    ·obtain⟨h6,_,h7⟩:=s id k;have:=d.dist id N b h6 t Z C;grind
    grind)
 have A:i=Ud->∀b,I' b->(g.grow λb=>i=Ud/\I' b).I b:=λhf b c=>.inr ⟨hf,c⟩;have a2:HC w' (g.grow λb=>i=Ud/\I' b).I S.args (S.unp z).1 jo n:=by
  cases i with
  |true=>exact a1.flat _ _ _ _ (by grind)
  |false=>exact a1.mono (A rfl)
 have c5:JA w' (g.grow λb=>i=Ud/\I' b).I S.res (S.unp z).2 jr Q:=by
  cases i with
  |true=>exact a3.flat _ _ _ _ (by grind)
  |false=>exact JA.mono (λ_ _=>rfl) (A rfl) (by simp) a3
 have V:W5 B (Zs H ((ids.tk.map λid=>(id,Ub))++(bif i then [] else ids.br.map λid=>(id,Ub)))) w' (g.grow λb=>i=Ud/\I' b) ow (jo++jr):=
  ⟨Y,λb c=>⟨λhI=>by
    rcases hI with hI|hI
    all_goals grind,by grind,by grind,by grind⟩⟩
 have m1:=Zb2 S.args q (S.unp z).1 nid;have m2:=(ZaE S.res (S.unp z).2 (JU S.args q (S.unp z).1 nid).2).1;have hN:∀id∈ids.tk,Zs H ((ids.tk.map λid=>(id,Ub))++(bif i then [] else ids.br.map λid=>(id,Ub))) id=none:=by grind
 obtain⟨g1,c8,l1,i1,r1,k1,o1,_⟩:=Znx d _ _ _ _ _ _ _ hx hv hS.wf X a6 (g.le_grow _) (S.unp z).1 jo nid a2 (V.sub (Vn _ _)) hN (λid r p hK=>by
  rcases hk id hK with t|t<;>omega) (λid k u hu=>Zf9 d _ b6 id k u hu)
 obtain⟨g2,b8,l2,i2,r2,c2,k2,_⟩:=Ze9 S.res r1 (S.unp z).2 jr Q (JU S.args q (S.unp z).1 nid).2 (by rw[i1.I];omega) (V.later i1.I o1) (λid r p hK=>by
  rcases k1 id hK with t|t
  ·rcases hk id t with C|C<;>omega
  ·omega)
 have y:g.Le g2:=(g.le_grow _).trans (l1.trans l2);have U:∃O,RH B (Zs (Zs (Zs (Zs H ((ids.tk.map λid=>(id,Ub))++(bif i then [] else ids.br.map λid=>(id,Ub)))) (JU S.args q (S.unp z).1 nid).1) ((Kb S.res (S.unp z).2 (JU S.args q (S.unp z).1 nid).2).2.1.map λo=>(o.1,Ua o.2))) ds) w' g2 O:=by
  cases i with
  |true=>
   obtain⟨rfl,_⟩:=D
   exact⟨b8,r2⟩
  |false=>
   have L:∀b,I' b->g2.I b:=λb c=>l2.I b (l1.I b (by grind));exact ZcR d y (λb c=>j b (d.ilt b c) (by grind)) ids.br ds _ _ D (λid k b J c=>⟨L b (a5 b (.inr ⟨id,k,J,c⟩)),j b (d.sep id b J c).2.1 λhj=>a8 b hj ⟨id,k,J,c⟩⟩) r2
 obtain⟨O,r3⟩:=U;refine⟨Rp Q,g2,O,rfl,?_,y,λb c=>j b (d.ilt b c) (by grind),Zpg c2,λid h=>?_,b0⟩
 ·rw[Xq,Xq,Xq];omega
 ·rcases k2 id h with h|h
  ·rcases k1 id h with h|h
   ·exact .inl h
   omega
  omega
theorem Zh9:∀(p:KF) (H:AH) (id:Nat) (o:Option K5),DF id p=Ua o->Zs H p id=o
 |[],_,_,_,h=>by simp [DF]at h
 |a::l,H,id,o,h=>by
  simp only[DF]at h;simp [Zs]
  cases c:DF id l with
  |some j=>
   rw[c]at h;simp only[ZL]at h;subst h
   exact Zh9 l _ id _ c
  |none=>
   rw[c]at h
   cases e:Vw a.1 id with
   |false=>grind
   |true=>
    rw[e]at h;simp only[Zd,ZL]at h;have:=Vm e;have key:∀(l:KF) (H:AH),DF id l=Ub->Zs H l id=H id:=by
     intro l
     induction l with
     |nil=>intro H _;rfl
     |cons b l i=>
      intro H c;simp only[DF]at c
      cases d:DF id l with
      |some j=>grind
      |none=>
       cases f:Vw b.1 id with
       |true=>grind
       |false=>
        simp only[Zs];rw[i _ d,Ky];grind
    rw[key l _ c,<-this,XL,<-h]
theorem Zni:∀(c:Zo) (t:Ty) (k a b:Nat),c.fits t=Uc->c.nth k=Ua (.vw a)->(c.putNth k (.vw b)).fits t=Uc
 |.nil,_,k,_,_,_,h=>by assumption
 |.cons v l,t,0,a,b,d,h=>by
  simp [Zo.nth,ZL]at h;subst h
  cases t with
  |prod p q=>
   simp [Zo.fits,Vb,Zo.putNth]at d⊢;refine⟨?_,d.2⟩
   cases p<;>first|rfl|exact d.1
  |_=>assumption
 |.cons v l,t,k+1,a,b,d,h=>by
  cases t with
  |prod p q=>
   simp [Zo.fits,Vb,Zo.putNth]at d⊢
   exact⟨d.1,Zni l _ k a b d.2 h⟩
  |_=>assumption
theorem Znh:∀(c:Zo) (cs:List Value) (k a b:Nat),Kg w g c cs->c.nth k=Ua (.vw a)->g.K b->g.slv b=g.slv a->Kg w g (c.putNth k (.vw b)) cs
 |.nil,_,k,_,_,_,h,_,_=>by assumption
 |.cons v l,cs,0,a,b,m,h,n,p=>by
  simp [Zo.nth,ZL]at h;subst h;have ⟨e,d,f,i,j⟩:=m;refine⟨e,d,f,?_,j⟩;simp [CV]at i⊢
  grind
 |.cons v l,cs,k+1,a,b,m,h,n,p=>by have ⟨e,d,f,i,j⟩:=m;exact⟨e,d,f,i,Znh l d k a b j h n p⟩
theorem ZbU:∀(c:Zo) (t:Ty) (cs:List Value) (k a:Nat),c.fits t=Uc->Kg w g c cs->c.nth k=Ua (.vw a)->g.K a/\cs[R0 t k]? =Ua (g.slv a)
 |.nil,_,_,k,_,_,_,h=>by simp [Zo.nth]at h
 |.cons v l,t,cs,0,a,b,f,h=>by
  simp [Zo.nth,ZL]at h;subst h;obtain⟨i,j,rfl,d,m⟩:=f;obtain⟨e,rfl,_⟩:=d;refine⟨e,?_⟩
  cases t<;>simp [R0]<;>rfl
 |.cons v l,t,cs,k+1,a,b,f,h=>by
  obtain⟨i,j,rfl,d,m⟩:=f
  cases t with
  |prod p q=>
   simp [Zo.fits,Vb]at b;have n:=CV.length v p i b.1 d;obtain⟨e,r⟩:=ZbU l q j k a b.2 m h;refine⟨e,?_⟩;simp [R0]
   grind
  |_=>simp [Zo.fits]at b
theorem Zgz:∀(l:Zo) (vs:List Value) (i:Nat) (v:AV),W8 w g l vs->l.nth i=Ua v->∃u,vs[i]? =Ua u/\Ku w g v u
 |.nil,_,i,_,_,h=>by simp [Zo.nth]at h
 |.cons a l,vs,0,v,b,h=>by
  simp [Zo.nth]at h;obtain⟨u,r,rfl,d,_⟩:=b
  grind
 |.cons a l,vs,i+1,v,b,h=>by obtain⟨u,r,rfl,_,c⟩:=b;exact Zgz l r i v c h
theorem Znf{v:Value}{id:Nat}(h:Ku w g (.ptr id []) v):g.K id/\∃b,g.blk id=Ua b/\v=.pointer (Ua ⟨b,0,Ub⟩):=by
 have ⟨d,c⟩:=h;simp only[CV,ZX]at d;have ⟨i,o,t,b,e,f,j⟩:=d;cases e;refine⟨i,b,f,?_⟩;rcases c with c|c
 ·grind
 ·cases v<;>simp_all [Value.cells,Kd,AV.isAgg]
theorem Znz(m:RH B H w g ow){d nid e k:Nat}{T t:Ty}{c:Zo}{xs:List (El t)}(hS:H d=Ua (.var T (.agg c)))(X:c.nth k=Ua (.vw nid))(hN:H nid=Ua (.vec t xs))(s:g.K e)(y:g.slv e=g.slv nid)(S:g.ty e=t)
 (U:(g.blk e=Ub/\g.slv e=.slice Ub 0 0)\/∃b len cap,g.blk e=Ua b/\g.slv e=.slice (Ua ⟨b,0,Ub⟩) len cap) (R:nid≠d) (a0:e≠d):
 ∃W,RH B (Z0 (Z0 (Z0 (Z0 H nid Ub) d Ub) e (Ua (.vec t xs))) d (Ua (.var T (.agg (c.putNth k (.vw e)))))) w g W:=by
 obtain⟨L,h2,N,Z,J,e',M,x,O,z,u⟩:=m.objs d _ hS;have ⟨_,a6,Y⟩:=m.objs nid _ hN;have V:ORel w g (ow nid) e (.vec t xs):=by refine⟨S,?_⟩;grind
 have r1:RH B (Z0 (Z0 H nid Ub) d Ub) w g ow:=(m.drop nid).drop d;have j:∀id,Z0 (Z0 H nid Ub) d Ub id≠Ub->id≠d/\id≠nid/\H id≠none:=λid h=>by have ⟨A,r⟩:=YB h;have ⟨C,D⟩:=YB r;grind
 have n:H nid≠none:=by grind
 have p:H d≠none:=by grind
 have r2:=r1.revive s (λb q=>by obtain⟨A,r,C⟩:=m.sep nid b n q;refine⟨A,r,C,λi l f=>?_⟩;have ⟨_,D,G⟩:=j i l;exact D (m.dist i nid b G n f q)) V
 refine⟨_,r2.revive L (λb q=>?_) ⟨h2,?_,Z,J,e',M,x,O,z,?_⟩⟩
 ·obtain⟨A,r,C⟩:=m.sep d b p q;refine⟨A,r,C,λi l f=>?_⟩;by_cases Q:i=e
  ·subst Q;rw[J4]at f;exact R (m.dist nid d b n p f q)
  ·rw[Jd Q]at f;rw[Ky Q]at l;have ⟨D,_,G⟩:=j i l;exact D (m.dist i d b G p f q)
 ·exact Zni _ _ _ _ _ N X
 ·exact Znh _ _ _ _ _ u X s y
theorem ZtQ(s:RH B0 H0 w0 g0 ow0){r:Zo}{n:List Value}(hv:W8 w0 g0 r n){k:Nat×Nat×Nat}{p q:KF}{l l' :List Nat}(h:(Zh3 r k p).run H0 l=Ua (q,l'))
 (Y:RH B (Zs H0 p) w g ow) (f:g0.Le g) (O:DY [k] n w0 w):∃W,RH B (Zs H0 q) w g W:=by
 simp only[Zh3]at h;split at h
 case h_2=>simp [Zb]at h
 rename_i i hs;rw[Z3]at h;split at h
 case h_2=>simp [Zb]at h
 rename_i T c D;split at h
 case h_2=>simp [Zb]at h
 rename_i d ho;rw[Z3]at h;split at h
 case h_2=>simp [Zb]at h
 rename_i t b3 J;split at h
 case h_2=>simp [Zb]at h
 rename_i T' c' Q;split at h
 case h_2=>simp [Zb]at h
 rename_i nid hn;split at h
 case h_2=>simp [Zb]at h
 rename_i t' xs R;simp only[ZO,Zb,ZU,Ka,Zj,Vb,Vy,Ki]at h;obtain⟨⟨⟨⟨⟨ht,hT⟩,m⟩,z⟩,A⟩,rfl,_⟩:=h;subst ht;have m:=Vm m;have z:nid≠i:=by grind
 have A:d≠i:=by grind
 have Z:=Zh9 p H0 i _ Q;have hN:=Zh9 p H0 nid _ R;obtain⟨G,h1,M,b,cs,e,hb,_,hh,_,L⟩:=s.objs i _ D;obtain⟨X,h2,N,b',a2,e',a5,a0,b0,a1,y⟩:=Y.objs i _ Z;have a6:b' =b:=by have:=f.blk i G;grind
 obtain⟨j,a9⟩:=ZbU c _ _ _ _ M L ho;obtain⟨a4,a8⟩:=ZbU c' _ _ _ _ N y hn;obtain⟨u,U,V⟩:=Zgz _ _ _ _ hv hs;obtain⟨_,b2,x,rfl⟩:=Znf V;rw[hb]at x;obtain rfl:=KO x;obtain⟨a3,e2,b1,a7⟩:=O k (by simp) _ U cs e hh;have C:g.slv d=g.slv nid:=by rw[f.slv d j];grind
 obtain⟨_,S,_⟩:=s.objs d _ J;rw[Xq];exact Znz Y Z hn hN (f.K d j) C ((f.ty d j).trans S) (by rw[f.blk d j,f.slv d j];grind) z A
theorem ZlV(d:RH B0 H0 w0 g0 ow0){c:Zo}{b:List Value}(t:W8 w0 g0 c b)(e:g0.Le g):∀(kp:List (Nat×Nat×Nat)) {p q:KF}{l j:List Nat}{ow:Nat->Nat->Prop},(Zdb c kp p).run H0 l=Ua (q,j)->
 RH B (Zs H0 p) w g ow->DY kp b w0 w->∃n,RH B (Zs H0 q) w g n
 |[],p,q,l,j,ow,h,r,_=>by
  simp [Zdb,Zj]at h
  grind
 |k::kp,p,q,l,j,ow,h,r,s=>by simp [Zdb,Z2]at h;have ⟨A,m,u,x⟩:=h;have ⟨z,f⟩:=ZtQ d t u r e (λi y=>s i (by grind));exact ZlV d t e kp x f λi y=>s i (by grind)
theorem Zkp{f:FuncId}{S:Spec}(y:ZT P f S)(x:B.pl=Ud->Ga P B.w0 B.own0)(j:B.pl=Uc->S.pl=Uc)(k:RH B H w g ow){nid:Nat}(z:∀id,g.K id->id<nid\/nid+Wu<=id){c:Zo}{b:List Value}(n:W8 w g c b){v:AV}{patch:KF}{rd:List Nat}
 {l:List Nat} (h:(Zem S nid c).run H l=Ua ((v,patch),rd)):
 Calls P f b.toArray w λe w' =>∃rv d i,e=.returned rv/\RH B (Zs H patch) w' d i/\g.Le d/\Kq g.I w w' /\VR w' d v rv/\∀id,d.K id->g.K id\/(nid<=id/\id<nid+Wu):=by
 simp only[Zem,Z2,Va]at h;obtain⟨⟨M,p0⟩,m,t,q,L,u,⟨rfl,rfl⟩,_⟩:=h;refine(ZqT y x j k z n t).mono ?_;rintro e w' ⟨rv,d,i,rfl,p,r,C,D,G,s⟩;have ⟨A,J⟩:=ZlV k n r S.kp u p s;grind
theorem Zko{f:FuncId}(j:B.pl=Ud->Ga P B.w0 B.own0)(k:RH B H w g ow){nid:Nat}(n:∀id,g.K id->id<nid\/nid+Wu<=id){c:Zo}{b:List Value}(p:W8 w g c b){v:AV}{patch:KF}{rd:List Nat}:∀(d:List Spec) {l:List Nat},
 (∀S∈d,ZT P f S/\(B.pl=Uc->S.pl=Uc))->(Zbp nid c d).run H l=Ua ((v,patch),rd)->
 Calls P f b.toArray w λe w' =>∃rv i q,e=.returned rv/\RH B (Zs H patch) w' i q/\g.Le i/\Kq g.I w w' /\VR w' i v rv/\∀id,i.K id->g.K id\/(nid<=id/\id<nid+Wu)
 |[],l,_,h=>by simp [Zbp,Zb]at h
 |[S],l,t,h=>Zkp (by grind) j (by grind) k n p h
 |S::T::d,l,t,h=>by
  simp only[Zbp,Z2]at h;have ⟨r,m,_,h⟩:=h;generalize (S.f r.1).isSome=s at h
  cases s with
  |true=>exact Zkp (by grind) j (by grind) k n p h
  |false=>exact Zko j k n p (T::d) (by grind) h
end
end Tr
end
section
namespace Tr
open Go
abbrev Yd(tn tq lt lb:Ty):Pat:=.var (Jk tn tq lt lb) (.agg (.cons (.pd tn) (.cons (.pd tq) (.cons (.pd lt) (.cons (.rows (.pn lb) Ud) (.cons (.owo lb) (.cons (.own (.pn lb) Ud) .nil)))))))
def Kj{tn tq lt lb:Ty}(y:ZdU tn tq lt lb):K6 (Yd tn tq lt lb):=(y.1,y.2.1,y.2.2.1,y.2.2.2.1,y.2.2.2.2.1,y.2.2.2.2.2,())
theorem Zth(tn tq lt lb:Ty):(Pat.agg (.cons (.pd tn) (.cons (.pd tq) (.cons (.pd lt) (.cons (.rows (.pn lb) Ud) (.cons (.owo lb) (.cons (.own (.pn lb) Ud) .nil))))))).fits (Jk tn tq lt lb)=true:=by simp [Pat.fits,Pats.fits,Jk]
theorem Zv9{w:World}{I J:Nat->Prop}{t:Ty}{x:List (El t)}{v:Value}(h:WG w I J t x v):∃js,PC w I (.own t Ud) x js [v]/\js.Nodup/\∀k∈js,J k:=by
 rcases h with ⟨rfl,rfl⟩|⟨b,cap,cells,e,c,rfl,d,f,i,j,l,m⟩
 ·exact⟨[],.inl ⟨rfl,rfl,rfl⟩,.nil,by simp⟩
 ·exact⟨[b],.inr ⟨b,cap,cells,e,c,rfl,rfl,f,i,j,l,m⟩,by simp,by simpa using d⟩
theorem ZmV{w:World}{I:Nat->Prop}{t:Ty}{x:List (El t)}{js:List Nat}{cs:List Value}(h:PC w I (.own t Ud) x js cs):∃v,cs=[v]/\WG w I (· ∈js) t x v:=by
 rcases h with ⟨rfl,rfl,rfl⟩|⟨b,cap,cells,e,c,rfl,rfl,d,f,i,j,k⟩
 ·exact⟨_,rfl,.inl ⟨rfl,rfl⟩⟩
 ·exact⟨_,rfl,.inr ⟨b,cap,cells,e,c,rfl,by simp,d,f,i,j,k⟩⟩
theorem Zv7{w:World}{I J:Nat->Prop}{lb:Ty}{x:List (El (.pn lb))}{v:Value}(h:Hd w I J lb x v):∃js,PC w I (.owo lb) x js [v]/\js.Nodup/\∀k∈js,J k:=by
 rcases h with ⟨rfl,rfl⟩|⟨b,off,cap,cells,e,f,rfl,c,d⟩
 ·exact⟨[],⟨_,rfl,.inl ⟨rfl,rfl⟩⟩,.nil,by simp⟩
 ·exact⟨[b],⟨_,rfl,.inr ⟨b,off,cap,cells,e,f,rfl,by simp,d⟩⟩,by simp,by simpa using c⟩
theorem ZmX{w:World}{I:Nat->Prop}{lb:Ty}{x:List (El (.pn lb))}{js:List Nat}{cs:List Value}(h:PC w I (.owo lb) x js cs):∃v,cs=[v]/\Hd w I (· ∈js) lb x v:=h
open Classical in
theorem Zlv{w:World}{I:Nat->Prop}{js:List Nat}{tn tq lt lb:Ty}{x:ZQ tn tq lt lb}{b:Nat}(h:Ru w I (· ∈js) tn tq lt lb x b)(M:js.Nodup):
 ∃l i,X6 l x/\i.Nodup/\(∀k∈i,k∈js)/\PC w I (Yd tn tq lt lb) (Kj (WH l x)) i [.pointer (Ua ⟨b,0,Ub⟩)]:=by
 obtain⟨K,l,p,Z,J6,N,j,q,s,cells,e,G,J,c3,C,Y,D,L,t,y,z,A,V,W,X⟩:=h;obtain⟨u,S,Q,m⟩:=Zv7 W;obtain⟨r,U,R,n⟩:=Zv9 X;have f:∀k,k∈js.filter (λk=>Ue (p k))↔p k:=λk=>by simp only[List.mem_filter,Kx];exact⟨λh=>h.2,λh=>⟨(j k h).1,h⟩⟩
 refine⟨l,b::(js.filter (λk=>Ue (p k))++(u++r)),N,?_,?_,Zth tn tq lt lb,b,_,cells,e,rfl,rfl,L,?_,?_⟩
 ·refine Vl.2 ⟨λc=>?_,Vh.2 ⟨M.filter _,Vh.2 ⟨Q,R,λk c O d e=>?_⟩,λk c O d e=>?_⟩⟩
  ·rcases Vi.1 c with c|c
   ·exact(j b ((f b).1 c)).2.1 rfl
   ·rcases Vi.1 c with c|c
    ·exact(q b (m b c)).2.1 rfl
    ·exact(s b (n b c)).2 rfl
  ·subst e;exact(q k (m k c)).2.2 (n k d)
  ·subst e;rcases Vi.1 d with d|d
   ·exact(j k ((f k).1 c)).2.2.1 (m k d)
   ·exact(j k ((f k).1 c)).2.2.2 (n k d)
 ·intro k c;rcases Vk.1 c with rfl|c
  ·exact K
  ·rcases Vi.1 c with c|c
   ·exact(j k ((f k).1 c)).1
   ·rcases Vi.1 c with c|c
    ·exact(q k (m k c)).1
    ·exact(s k (n k c)).1
 ·have:=congrArg List.length t;simp only[Vp,Vj,List.length_cons,Vlb,Rd.length _ _ _ y,Rd.length _ _ _ z,Rd.length _ _ _ A]at this;rw[this];simp [Jk,Ty.size]
 ·rw[t];refine⟨[],_,G,_,rfl,rfl,⟨rfl,y⟩,[],_,J,_,rfl,rfl,⟨rfl,z⟩,[],_,c3,_,rfl,rfl,⟨rfl,A⟩,_,_,[C],_,rfl,rfl,⟨C,rfl,?_⟩,u,r,[Y],[D],rfl,rfl,S,r,[],[D],[],by simp,rfl,U,rfl,rfl⟩;exact V.mono (λ_ _=>rfl) (λ_ h=>h) (λk c=>(f k).2 c) λ_ _=>rfl
theorem Zti{w:World}{I:Nat->Prop}{js:List Nat}{tn tq lt lb:Ty}{x:ZQ tn tq lt lb}{d:El lb->Nat}{cs:List Value}(h:PC w I (Yd tn tq lt lb) (Kj (WH d x)) js cs)(m:js.Nodup)(u:X6 d x):
 ∃b,cs=[.pointer (Ua ⟨b,0,Ub⟩)]/\Ru w I (· ∈js) tn tq lt lb x b:=by
 obtain⟨_,b,C,cells,e,rfl,rfl,r,t,s⟩:=h;obtain⟨_,_,n,_,rfl,q,⟨rfl,J⟩,_,_,p,_,rfl,rfl,⟨rfl,K⟩,_,_,c3,_,rfl,rfl,⟨rfl,L⟩,y,_,_,_,rfl,rfl,⟨Q,rfl,M⟩,z,_,_,_,rfl,rfl,D,A,_,_,_,rfl,rfl,G,rfl,rfl⟩:=s;obtain⟨R,rfl,N⟩:=ZmX D;obtain⟨S,rfl,O⟩:=ZmV G;simp only[Vmb,Vta,Vl,Vh,Vi,not_or]at m;obtain⟨⟨f,i,j⟩,_,⟨_,_,d56⟩,l⟩:=m;refine⟨b,rfl,by simp,d,(· ∈y),(· ∈z),(· ∈A),u,λk c=>⟨by simp [c],λe=>f (e▸c),λh=>l k c k (.inl h) rfl,λh=>l k c k (.inr h) rfl⟩,λk c=>⟨by simp [c],λe=>i (e▸c),λh=>d56 k c k h rfl⟩,λk c=>⟨by simp [c],λe=>j (e▸c)⟩,
  cells,e,n,p,c3,Q,R,S,r,by simpa using q,J,K,L,M,N,O⟩
end Tr
namespace Tr
open Go
section
variable {tn tq lt lb:Ty}
theorem ZnQ{w:World}{I J:Nat->Prop}{d:El lb->Nat}{l:List (El lb)}{v:Value}(h:WG w I J (.pn lb) (l.map (Kp d)) v){y:El lb}(k:y∈l):∃cells e,w.heap[d y]? =Ua (.cells cells e (0,0))/\Rd w I lb y cells.toList:=by
 rcases h with ⟨h,_⟩|⟨b,cap,cells,e,m,_,_,_,_,_,f,_⟩
 ·rw[Vya]at h;subst h;cases k
 ·obtain⟨i,q⟩:=Vfa k;obtain⟨c,_,j⟩:=f.get i (Kp d y) (by rw[Vka,q];rfl);simp only[Kp,Rd,YK]at j;obtain⟨cells,e,_,_,n,p⟩:=j;exact⟨cells,e,n,p⟩
theorem Zv8{w:World}{I J:Nat->Prop}{d:El lb->Nat}{l:List (El lb)}{v:Value}(h:Hd w I J lb (l.map (Kp d)) v){y:El lb}(k:y∈l):∃cells e,w.heap[d y]? =Ua (.cells cells e (0,0))/\Rd w I lb y cells.toList:=by
 rcases h with ⟨h,_⟩|⟨b,off,cap,cells,e,q,_,_,_,_,_,f,_⟩
 ·rw[Vya]at h;subst h;cases k
 ·obtain⟨i,p⟩:=Vfa k;obtain⟨c,_,j⟩:=f.get i (Kp d y) (by rw[Vka,p];rfl);simp only[Kp,Rd,YK]at j;obtain⟨cells,e,_,_,m,n⟩:=j;exact⟨cells,e,m,n⟩
theorem Ztk{w:World}{I:Nat->Prop}{js:List Nat}{x:ZQ tn tq lt lb}{d:El lb->Nat}{cs:List Value}(h:PC w I (Yd tn tq lt lb) (Kj (WH d x)) js cs):∀y∈JO x,∃cells e,w.heap[d y]? =Ua (.cells cells e (0,0))/\Rd w I lb y cells.toList:=by
 obtain⟨_,b,n,cells,e,rfl,rfl,D,m,k⟩:=h;obtain⟨_,_,u,_,rfl,A,⟨rfl,M⟩,_,_,z,_,rfl,rfl,⟨rfl,N⟩,_,_,c3,_,rfl,rfl,⟨rfl,O⟩,J,_,_,_,rfl,rfl,⟨R,rfl,C,⟨G,f⟩,Q⟩,K,_,_,_,rfl,rfl,p,L,_,_,_,rfl,rfl,q,rfl,rfl⟩:=k;obtain⟨S,rfl,s⟩:=ZmX p;obtain⟨U,rfl,t⟩:=ZmV q;intro y c;simp only[JO,Vi,Vkb]at c;rcases c with (⟨r,l,c⟩|c) |c
 ·obtain⟨i,j⟩:=Vfa l;have:=f.rd i (r.map (Kp d)) (by show (WH d x).2.2.2.1[i]? =_;simp only[WH];rw[Vka,j];rfl) (by simp);exact ZnQ this c
 ·exact Zv8 s c
 ·exact ZnQ t c
def ZwK(g:K6 (Yd tn tq lt lb)->El (.pn lb)->Option (K6 (Yd tn tq lt lb)))(pl:Bool):Spec:={args:=.cons (Yd tn tq lt lb) (.cons (.pd (.pn lb)) .nil),res:=.nil,fns:=[],α:=K6 (Yd tn tq lt lb),f:=λx=>g x.1 x.2.1,unp:=λz=>((z,(),()),()),pl:=pl}
def Zod(h:ZQ tn tq lt lb->El (.pt lb)->Option (ZQ tn tq lt lb))(pl:Bool):Spec:={args:=.cons (.fnd tn tq lt lb) (.cons (.pd (.pt lb)) .nil),res:=.nil,fns:=[],α:=ZQ tn tq lt lb,f:=λx=>h x.1 x.2.1,unp:=λz=>((z,(),()),()),pl:=pl}
theorem Zuj{P:Program}{f:FuncId}{g:K6 (Yd tn tq lt lb)->El (.pn lb)->Option (K6 (Yd tn tq lt lb))}{h:ZQ tn tq lt lb->El (.pt lb)->Option (ZQ tn tq lt lb)}{pl:Bool}(hg:ZT P f (ZwK g pl))(h0:∀x,h x Ub=Ub)
 (hh:∀(x:ZQ tn tq lt lb) (u:El lb) (z:ZQ tn tq lt lb),h x (Ua u)=Ua z->∀(A:El lb->Nat) (b:Nat),X6 A x->(∀y∈JO x,A y=b->y=u)->∃l:El lb->Nat,X6 l z/\g (Kj (WH A x)) (Ua (b,u))=Ua (Kj (WH l z))):
 ZT P f (Zod h pl) where
 wf:=rfl
 fn:=hg.fn
 run:=by
  intro w I c4 js x (z:ZQ tn tq lt lb) b6 G j hI amb Y;obtain⟨x,u,⟨⟩⟩:=x;change h x u=Ua z at Y
  cases u with
  |none=>rw[h0]at Y;cases Y
  |some u=>
  obtain⟨j1,j2,v,r,rfl,rfl,⟨⟨b,hc,a5⟩,i⟩,j3,j4,W,r2,rfl,rfl,⟨⟨rfl,s⟩,c⟩,rfl,rfl⟩:=b6;simp only[Vta]at G j amb⊢;obtain⟨A,S,b9,a8,d,M⟩:=Zlv a5 G;have c2:=s;simp only[Rd,HD]at s;obtain⟨b2,cells,e,a3,a0,D,N⟩:=s;obtain⟨l,Q,a6⟩:=hh x u z Y A b2 b9 λy hy e=>by obtain⟨X,e',m,Z⟩:=Ztk M y hy;rw[e,D]at m;injection m with m;injection m with m;subst m;exact Rd.det lb y u _ Z N
  refine(hg.run w I [v,W] S (Kj (WH A x),Ua (b2,u),()) (Kj (WH l z)) ?_ a8 (λk p=>j k (d k p)) hI (λb4=>?_) a6).mono ?_
  ·refine⟨S,[],v,[W],by simp,rfl,⟨by rw[hc];exact M,.inr ?_⟩,[],[],W,[],rfl,rfl,⟨⟨rfl,?_⟩,.inr ?_⟩,rfl,rfl⟩
   ·rcases i with i|i
    ·cases i
    ·exact i
   ·simp only[Rd,YK];exact⟨cells,e,a3,a0,D,N⟩
   ·rcases c with c|c
    ·cases c
    ·exact c
  ·intro b hb;obtain⟨U,V,q3⟩:=amb b4 b hb;exact⟨U,λp=>V (d b p),q3⟩
  ·rintro e w' ⟨rv,rfl,I',jo,jr,b5,b7,J,a7,a1,C,a9,t,L,b8,q⟩;refine⟨rv,rfl,I',jo,jr,?_,b7,J,λk p=>?_,a1,λk p=>?_,a9,t,L,b8,λk m Z=>q k m λh=>Z (d k h)⟩
   ·obtain⟨k1,k2,v',r',rfl,R,b0,k3,k4,c5,c1,rfl,n,b1,b3⟩:=b5;simp only[Xx]at R;obtain⟨rfl,rfl⟩:=R;simp only[Xx]at n;obtain⟨rfl,O⟩:=n;have K:k1.Nodup:=by have:=(Vh.1 J).1;exact(Vh.1 this).1
    obtain⟨b',a2,a4⟩:=Zti b0 K Q;exact⟨k1,_,v,[W],rfl,rfl,⟨b',a2,a4⟩,k3,k4,W,c1,rfl,by rw[O],b1,b3⟩
   ·obtain⟨U,V,q3⟩:=a7 k p;exact⟨U,V,q3.imp (d k) λh=>h⟩
   ·obtain⟨U,V⟩:=C k p;exact⟨U,V.imp (λh=>h) λh=>h.imp (d k) λh=>h⟩
end
end Tr
end
section
namespace Tr
open Go
section ops
variable {P:Program}{E:Z9}{B:Z1}{H:AH}{w:World}{g:Gh}{ow:Nat->Nat->Prop}{nid:Nat}{a:Act}{F:Nat->AV}{v:AV}{patch:KF}{rd:List Nat}{o:Oper}
theorem Zv6{I J:Nat->Prop}{lb:Ty}{xs:List (El (.pn lb))}{c:Value}(h:Hd w I J lb xs c):∃(d:Option Addr) (cap:Nat),c=.slice d xs.length cap/\xs.length<=cap:=by
 rcases h with ⟨rfl,rfl⟩|⟨b,off,cap,cells,e,i,rfl,_,_,f,_⟩
 ·exact⟨Ub,0,rfl,Vd _⟩
 ·exact⟨_,cap,rfl,f⟩
theorem Zfl{w' :World}{J:Nat->Prop}{lb:Ty}{xs:List (El (.pn lb))}{val:Value}{r:Result Next}(i:RH B H w g ow)(j:¬g.K nid)(c:∀k,k<w.heap.size->w'.heap[k]? =w.heap[k]?)(t:w.heap.size<=w'.heap.size)(n:w'.os=w.os)(f:w'.tape=w.tape)(l:YF w' w)
 (L:r=.ok (.value val) w') (x:Hd w' g.I (λb=>J b\/(w.heap.size<=b/\b<w'.heap.size)) lb xs val) (D:∀b,J b->¬g.I b/\b<w.heap.size/\(B.own0 b\/B.w0.heap.size<=b)/\∀id,H id≠Ub->¬ow id b):Zu B (Z0 H nid (Ua (.vco lb xs))) w g nid (.vw nid) r:=by
 have d:val.oneCell' =true:=by obtain⟨M,cap,rfl,_⟩:=Zv6 x;rfl
 have key:ORel w' (g.add nid (.pn lb) Ub val) (λb=>J b\/(w.heap.size<=b/\b<w'.heap.size)) nid (.vco lb xs):=by
  refine⟨by simp [Gh.add],?_⟩;have e:(g.add nid (.pn lb) Ub val).slv nid=val:=by simp [Gh.add]
  rw[e];exact x
 refine⟨val,w',g.add nid (.pn lb) Ub val,Xk ow nid (λb=>J b\/(w.heap.size<=b/\b<w'.heap.size)),.inl L,?_,Gh.le_add j _ _ _,λb G=>c b (i.ilt b G),?_,?_⟩
 ·refine i.add j c t n f l (λk m=>?_) key;rcases m with m|⟨N,y⟩
  ·obtain⟨p,q,r,s⟩:=D k m;exact⟨p,by omega,r,s⟩
  ·refine⟨λC=>absurd (i.ilt _ C) (by omega),y,.inr (by have:=i.size;omega),λu z A=>?_⟩;have:=(i.sep u _ z A).2.1;omega
 ·refine KN ?_ d rfl;simp only[CV];exact⟨.inl rfl,by simp [Gh.add],by simp [Gh.add,d]⟩
 ·intro id h;rcases h with rfl|h
  ·exact .inr ⟨Vd _,by unfold Wu;omega⟩
  ·exact .inl h
theorem Zxg{T:Nat}{x i:Operand}{id j:Nat}{k:IntKind}{n:Int}{lb:Ty}{xs:List (El (.pn lb))}(h:Z4 P E)(f:RH B H w g ow)(hF:Fr w g F a.tmps)(G:o.op=.indexAddr T x i)(L:Zz F x=.vw id)(A:Zz F i=.d (.int k) n)(u:H id=Ua (.vco lb xs))(J:E.ty T=Ua (.sl (.pn lb)))(C:Zv n xs.length=Ua j):
 Zu B H w g nid (.op id j) ((execOp a.eval o).run P w):=by
 obtain⟨r,p,rfl⟩:=ZaD C;obtain⟨M,s,t⟩:=Js h J;obtain⟨D,c⟩:=(L▸hF.eval x).vw;obtain⟨_,K,y⟩:=f.objs id _ u;rcases y with ⟨rfl,_⟩|⟨b,off,cap,cs,e,R,m,N,O,Q,l,z,q⟩
 ·simp at p;omega
 refine Zu.pure (val:=.pointer (Ua ⟨b,off+n.toNat* (Ty.pn lb).size,Ub⟩)) f ?_ (KN ?_ rfl rfl)
 ·simp only[execOp,G,c,m,(A▸hF.eval i).int,Vf,ZaZ h s t r p,Vc,Vg]
 ·simp only[CV];exact⟨D,b,off,_,_,m,by simp [Ty.size]⟩
theorem Zxh{T:TypeId}{x:Operand}{id i:Nat}{lb:Ty}{xs:List (El (.pn lb))}{y:El (.pn lb)}(S:Z4 P E)(J:RH B H w g ow)(hF:Fr w g F a.tmps)(W:o.op=.load T x)(hx:Zz F x=.op id i)(Q:H id=Ua (.vco lb xs))(Y:E.ty T=Ua (.pn lb))(M:xs[i]? =Ua y):
 Zu B H w g nid (.d (.pn lb) y) ((execOp a.eval o).run P w):=by
 have D:VR w g (.op id i) (a.eval x):=hx▸hF.eval x;obtain⟨f,c⟩:=D;simp only[CV]at f;obtain⟨hk,b,off,len,cap,z,U⟩:=f;have n:a.eval x=.pointer (Ua ⟨b,off+i,Ub⟩):=KY U (by
  rcases c with c|c
  ·cases c
  ·exact c)
 obtain⟨_,Z,R⟩:=J.objs id _ Q;rcases R with ⟨rfl,_⟩|⟨b',N,G,cs,e,hs,q,hJ,V,hl,K,s,l⟩
 ·simp at M
 ·rw[z]at q;simp only[Vjb.injEq,ZL,Addr.mk.injEq,and_true]at q;obtain⟨⟨rfl,rfl⟩,rfl,rfl⟩:=q;obtain⟨u,L,m⟩:=s.get i y M;obtain⟨r,X⟩:=l;have C:cs.toList[off+i]? =Ua u:=by rw[<-Vbb,<-X,Vla (Vv.1 L).1,L]
  obtain⟨t,A⟩:=Vv.1 C;have p:cs.toList=cs.toList.take (off+i)++[u]++cs.toList.drop (off+i+1):=by
   conv=>lhs;rw[<-Vaa (off+i) cs.toList,List.drop_eq_getElem_cons t,A]
   simp
  have h:=Y7.of_heap V p;have j:(cs.toList.take (off+i)).length=off+i:=by rw[Vr];omega
  rw[j]at h;have O:=ZiU (P:=P) (S.ty T _ Y) (cs:=[u]) (b:=b) (o:=off+i) h rfl (λ_=>⟨u,rfl⟩);have k:=Rd.oneCell (.pn lb) y [u] m u (by simp);refine Zu.pure J (val:=u) ?_ (KN (by simp only[CV];exact m) k rfl);simp only[execOp,W,n,Instr.loadAt,Vva,Vf,Vg,Vc,O,G5];rfl
theorem Zxi{T:TypeId}{x:Operand}{Q G:Option Operand}{id c f:Nat}{lb:Ty}{xs:List (El (.pn lb))}(W:Z4 P E)(z:RH B H w g ow)(hF:Fr w g F a.tmps)(M:¬g.K nid)(ho:o.op=.slice T x Q G Ub)(hx:Zz F x=.vw id)(U:H id=Ua (.vco lb xs))(ht:E.ty T=Ua (.sl (.pn lb)))(L:XS (Zz F) Q=Uc)(C:XS (Zz F) G=Uc)
 (N:sliceB xs.length xs.length (Q.bind λo=>KW (Zz F o)) (G.bind λo=>KW (Zz F o))=Ua (c,f)):Zu B (Z0 (Z0 H id Ub) nid (Ua (.vco lb ((xs.drop c).take (f - c))))) w g nid (.vw nid) ((execOp a.eval o).run P w):=by
 obtain⟨Z,hu,A⟩:=Js W ht;obtain⟨hk,he⟩:=(hx▸hF.eval x).vw;obtain⟨_,a2,k⟩:=z.objs id _ U;have t:H id≠none:=by rw[U];simp
 have key:∃(i:Option Addr) (cap:Nat),g.slv id=.slice i xs.length cap/\xs.length<=cap/\(∀m n,m+n<=xs.length->Hd w g.I (ow id) lb ((xs.drop m).take n) (.slice (if cap=m then i else i.map (·.add (m* (Ty.pn lb).size))) n (cap - m))):=by
  rcases k with ⟨rfl,k⟩|⟨b,off,cap,cs,e,N,k,V,Y,hl,X,s,y⟩
  ·refine⟨Ub,0,k,Vd _,λl n u=>.inl ⟨by simp,?_⟩⟩;simp at u;obtain⟨rfl,rfl⟩:l=0/\n=0:=by omega
   rfl
  ·refine⟨_,cap,k,hl,λm n u=>?_⟩;have d:((xs.drop m).take n).length=n:=by rw[Vr,Vba];omega
   obtain⟨r,hr⟩:=y;have D:=s.length;by_cases R:cap=m
   ·have hn:n=0:=by omega
    subst hn;rw[Zn R];refine .inr ⟨b,off,cap - m,cs,e,[],by rw[d],V,Y,by rw[d];omega,by omega,by rw[List.take_zero];trivial,List.nil_prefix⟩
   ·rw[Zg R];refine .inr ⟨b,off+m,cap - m,cs,e,(N.drop m).take n,by rw[d];simp [Option.map_some,Dt,Ty.size],V,Y,by rw[d];omega,by omega,(s.drop m).take n,?_⟩;rw[<-Vwa,<-hr,Vga (by omega)];exact(List.take_prefix _ _).trans (Vcb _ _)
 obtain⟨i,cap,h1,h2,h3⟩:=key;obtain⟨j,a1,D⟩:=Za0 (P:=P) (w:=w) (isS:=true) hF h2 (Zam L) (Zam C) N (Vd _);refine Zfl (w' :=w) (J:=ow id) (val:=.slice (if cap=c then i else i.map (·.add (c* (Ty.pn lb).size))) (f - c) (cap - c)) (z.drop id) M (λ_ _=>rfl) (Vd _) rfl rfl ⟨rfl,Vd _⟩ ?_ ?_ λb j=>?_
 ·simp only[execOp,ho,he,h1,Vtb,Instr.slice,Vnb,underlying,Vf,run_program,Vc,hu,Vg,j,(W.ty Z _ A).run_sizeOf]
 ·exact(h3 c (f - c) (by omega)).mono (λ_ _=>rfl) (λ_ h=>h) (λb _ j=>.inl j) λ_ _ _=>rfl
 ·obtain⟨p,q,r⟩:=z.sep id b t j;exact⟨p,q,r,λO S h5=>(YB S).1 (z.dist O id b (YB S).2 t h5 j)⟩
theorem Zqp{lb:Ty}{ie:TypeInfo}{z:Value}{T0 T1 Et E1 ty:TypeId}{argTypes:Array TypeId}{sv xv:Value}{id:Nat}{xs l:List (El (.pn lb))}{r:Result Next}(hR:RH B H w g ow)(V:¬g.K nid)
 (h0:argTypes[0]? =Ua T0) (h1:argTypes[1]? =Ua T1) (hu:P.underlying T0=Ua (.slice Et)) (c1:P.underlying T1=Ua (.slice E1))
 (b4:P.info? Et=Ua ie) (hz:ie.zero=Ua z) (c5:z.cells.size=1) (L:ie.size=1) (b0:ie.bytes<=256) (b8:xs.length+l.length<=549755813888)
 (a4:H id≠Ub) (hS:Hd w g.I (ow id) lb xs sv) (hX:Zcu w g (.pn lb) l xv)
 (hr:∀val w',(Vob argTypes ty #[sv,xv]).run P w=.ok val w' ->r=.ok (.value val) w'):Zu B (Z0 (Z0 H id Ub) nid (Ua (.vco lb (xs++l)))) w g nid (.vw nid) r:=by
 have R:RH B (Z0 H id Ub) w g ow:=hR.drop id;obtain⟨xb,c,a1,rfl,m,b7⟩:=hX;obtain⟨f,b1,A⟩:=ZhF m;have c7:=A.length;have b2:∀w',JD w w' ->(Vdb ie.size l.length (.slice xb l.length c)).run P w' =.ok f.toArray w' :=by
  intro w' hw;rw[L,<-b1];by_cases hy:l=[]
  ·subst hy;have:a1=[]:=by have:=m.length;grind
   subst this
   cases xb with
   |none=>rfl
   |some ad=>exact run_firstCells_some (P:=P) w' _ _ ad _ _ [] (by simp) (by simp)
  ·obtain⟨b,off,rfl,hL⟩:=b7 hy;exact ZhM (sz:=1) (Rd.all_length m) m.length.symm hL hw
 have b9:∃base cap d,sv=.slice base xs.length cap/\d.length=xs.length/\Fa (λx v=>Rd w g.I (.pn lb) x [v]) xs d/\(∀w',JD w w' ->(Vdb ie.size xs.length (.slice base xs.length cap)).run P w' =.ok d.toArray w')/\((base=Ub/\cap=0/\xs=[])\/
  ∃b off cs e,ow id b/\base=Ua ⟨b,off,Ub⟩/\w.heap[b]? =Ua (.cells cs e (0,0))/\off+cap<=cs.size/\d<+:cs.toList.drop off):=by
  rw[L];rcases hS with ⟨rfl,rfl⟩|⟨b,off,cap,cs,e,hd,rfl,a7,hh,_,t,q,hp⟩
  ·exact⟨Ub,0,[],rfl,rfl,trivial,λw' _=>by rfl,.inl ⟨rfl,rfl,rfl⟩⟩
  ·refine⟨_,cap,hd,rfl,q.length.symm,q,λw' hw=>?_,.inr ⟨b,off,cs,e,a7,rfl,hh,t,hp⟩⟩;refine run_firstCells_some (P:=P) w' 1 _ _ _ cap _ (by rw[q.length];omega) ?_;intro j u hj;obtain⟨r,hr⟩:=hp;have c2:cs.toList[off+j]? =Ua u:=by rw[<-Vbb,<-hr,Vla (Vv.1 hj).1,hj]
   rw[Dt];simp only[Vvb,hw.heap,hh,Option.isSome_none,Via,if_false];rw[<-Vua];exact c2
 obtain⟨base,cap,d,rfl,b6,a3,b3,U⟩:=b9;have Q:(xs++l).length=xs.length+l.length:=Vj;have q:=a3.append A;rcases ZiS (ty:=ty) h0 h1 hu c1 b4 hz b0 b3 b2 b8 with ⟨W,p⟩|⟨i,w1,c8,M,p⟩
 ·rcases U with ⟨rfl,rfl,rfl⟩|⟨b,off,cs,e,O,rfl,hh,t,hp⟩
  ·have hy:l=[]:=by
    have:l.length=0:=by simpa using W
    exact Vna.1 this
   subst hy;have D:=hr _ _ (p.trans (by simp only[Vf,Vg,Vc];rfl));exact Zfl (J:=λ_=>False) R V (by simp) (Vd _) rfl rfl ⟨rfl,Vd _⟩ D (.inl ⟨rfl,rfl⟩) (by simp)
  ·have hs:=hR.sep id b a4 O;have a6:∀u∈f,u.oneCell' =true:=A.all_right λx v h=>Rd.oneCell (.pn lb) x [v] h v (by simp);obtain⟨rest,G⟩:=hp;have c6:off+(d.length+rest.length)=cs.size:=by have:=congrArg List.length G;simp only[Vj,Vba,Vp]at this;omega
   have Y:=run_storeCells_at P b (off+xs.length*1) e f 0 cs w hh (by omega) a6;have Z:cs.toList.take (off+xs.length)=cs.toList.take off++d:=by rw[List.take_add,<-G,<-b6];simp
   have a5:(cs.toList.take (off+xs.length*1+0)++f++cs.toList.drop (off+xs.length*1+0+f.length))=cs.toList.take off++((d++f)++cs.toList.drop (off+xs.length+f.length)):=by simp only[Nat.mul_one,Vhb,Z,List.append_assoc]
   rw[a5]at Y;generalize N:cs.toList.take off++((d++f)++cs.toList.drop (off+xs.length+f.length))=l' at Y;have b5:l'.length=cs.size:=by rw[<-N];simp only[Vj,Vr,Vba,Vp];omega
   have D:=hr (.slice (Ua ⟨b,off,Ub⟩) (xs.length+l.length) cap) (w.setRow b l'.toArray) (p.trans (by simp only[Vf,Dt,L,Y,Vc,Vg]))
   have n:∀k,k≠b->(w.setRow b l'.toArray).heap[k]? =w.heap[k]? :=λk s=>setRow_other w b k _ s;have C:∀k,Z0 H id Ub k≠Ub->¬ow k b:=by intro k s hb;obtain⟨h3,h4⟩:=YB s;exact h3 (hR.dist k id b h4 a4 hb O)
   have S:=R.free (w' :=w.setRow b l'.toArray) (b:=b) C hs.1 hs.2.2 n (size_setRow w b _) rfl rfl ⟨rfl,Vd _⟩;have a2:Kq g.I w (w.setRow b l'.toArray):=λk s=>n k λe=>hs.1 (e▸s);have y:=Zfl (w' :=w.setRow b l'.toArray) (J:=λk=>k=b) (lb:=lb) (xs:=xs++l) S V (by simp) (Vd _) rfl rfl ⟨rfl,Vd _⟩ D ?_ (λb' a8=>?_)
   ·obtain⟨val,w',g',a0,d1,d2,d3,d4,d5,d6⟩:=y;exact⟨val,w',g',a0,d1,d2,d3,λk s=>(d4 k s).trans (a2 k s),d5,d6⟩
   ·refine .inr ⟨b,off,cap,_,e,d++f,by rw[Q],.inl rfl,R7 hh,by omega,?_,q.mono λx v hx=>Rd.mono a2 (λ_ h=>h) (.pn lb) x [v] hx,?_⟩
    ·rw[Vz,b5];exact t
    ·rw[<-N];have:(cs.toList.take off).length=off:=by rw[Vr,Vp];omega
     simp only;rw[Vga (by omega),List.drop_eq_nil_of_le (by omega),Vmb];exact Vcb _ _
   ·subst a8;exact⟨hs.1,by rw[size_setRow];exact hs.2.1,hs.2.2,C⟩
 ·have D:=hr _ _ p;have S:=R.same M;have X:w1.heap.size=w.heap.size:=by rw[M.heap]
  have y:=Zfl (w' :=w1.alloc (.cells (d.toArray++f.toArray++Vq z.cells (i - (xs.length+l.length))) Et)) (J:=λ_=>False) (lb:=lb) (xs:=xs++l) S V (λk s=>D2 s) (by simp) rfl rfl ⟨rfl,Vd _⟩ D ?_ (by simp)
  ·obtain⟨val,w',g',a0,d1,d2,d3,d4,d5,d6⟩:=y;exact⟨val,w',g',a0,d1,d2,d3,λk s=>(d4 k s).trans (M.agree g.I k s),d5,d6⟩
  ·have a9:∀b,b<w.heap.size->(w1.alloc (.cells (d.toArray++f.toArray++Vq z.cells (i - (xs.length+l.length))) Et)).heap[b]? =w.heap[b]? :=λb hb=>by rw[D2 (by omega),M.heap]
   have c4:(Vq z.cells (i - (xs.length+l.length))).size=(i - (xs.length+l.length)) *1:=by simp [Vq,c5]
   refine .inr ⟨w1.heap.size,0,i,_,Et,d++f,by rw[Q,X],.inr ⟨Vd _,by simp⟩,D1 _ _,by omega,?_,q.mono λx v hx=>Rd.mono (λb hb=>a9 b (hR.ilt b hb)) (λ_ h=>h) (.pn lb) x [v] hx,by simp⟩;simp only[Array.size_append,Vz,c4];omega
theorem Zxf{c:Call}{s x:Operand}{L:TypeId}{id:Nat}{lb:Ty}{xs J:List (El (.pn lb))}{ids m m' :List Nat}(l:Z4 P E)(q:RH B H w g ow)(hF:Fr w g F a.tmps)(u:¬g.K nid)(ho:o.op=.call c)(Z:c.callee=.builtin .append)(f:c.args.toList=[s,x])(U:c.argTypes[0]? =Ua L)(j:E.ty L=Ua (.sl (.pn lb)))
 (b:JP ((c.argTypes[1]?).bind E.ty)=Uc) (hx:Zz F s=.vw id) (M:H id=Ua (.vco lb xs)) (Y:(D3 (.pn lb) (Zz F x)).run H m=Ua ((J,ids),m')) (hg:xs.length+J.length<=ZI):Zu B (Z0 (Z0 H id Ub) nid (Ua (.vco lb (xs++J)))) w g nid (.vw nid) ((execOp a.eval o).run P w):=by
 have e:c.args.map a.eval= #[a.eval s,a.eval x]:=by
  have:c.args= #[s,x]:=by rw[<-Vca];exact f
  rw[this];simp
 have:∃h n,c.argTypes[1]? =Ua h/\E.ty h=Ua (.sl n):=by
  cases O:c.argTypes[1]? with
  |none=>rw[O]at b;simp [JP]at b
  |some h=>
   rw[O]at b;simp only[Za]at b
   cases Q:E.ty h with
   |none=>rw[Q]at b;simp [JP]at b
   |some n=>cases n<;>rw[Q]at b<;>simp [JP]at b;grind
 obtain⟨h,n,V,C⟩:=this;obtain⟨S,R,p⟩:=Js l j;obtain⟨E1,D,_⟩:=Js l C;obtain⟨ie,z,i,A,_,hz,k,_⟩:=(l.ty S _ p).info;have t:=(l.ty _ _ j).small _ _ R i;have G:z.cells.size=(Ty.pn lb).size:=by obtain⟨W,X⟩:=Zgh (w:=w) (g:=g) k;have:=CV.length _ (.pn lb) _ X W;simpa using this
 have d:∀val w',(Vob c.argTypes o.type #[a.eval s,a.eval x]).run P w=.ok val w' ->(execOp a.eval o).run P w=.ok (.value val) w' :=by intro val w' d;simp only[execOp,ho,Zb3 Z,builtin,e,Vf,d,Vc,Vg]
 obtain⟨hk,y⟩:=(hx▸hF.eval s).vw;obtain⟨_,_,N⟩:=q.objs id _ M;have r:=Zed q (hF.eval x) Y;rw[<-y]at N;exact Zqp (ty:=o.type) q u U V R D i hz G A t hg (by rw[M];simp) N r d
theorem Zrf{c:Call}{x:Operand}{id f n:Nat}{T0:TypeId}{t:Ty}{xs:List (El t)}(hT:Z4 P E)(hR:RH B H w g ow)(hF:Fr w g F a.tmps)(ho:o.op=.call c)(G:c.callee=.builtin .clear)(D:c.args.toList=[x])(h0:c.argTypes[0]? =Ua T0)(ht:E.ty T0=Ua (.sl t))(hx:Zz F x=.vs id f n)(hH:H id=Ua (.vec t xs))(hd:t.data=Uc)(b3:f+n<=xs.length):
 Zu B (Z0 H id (Ua (.vec t (xs.take f++Vs n (zeroEl t)++xs.drop (f+n))))) w g nid (.tup .nil) ((execOp a.eval o).run P w):=by
 obtain⟨Et,R,a8⟩:=Js hT ht;obtain⟨ie,z,b2,b8,hz,b9,_,O⟩:=Zjp (w:=w) (g:=g) hT a8 hd;have S:(zeroValue Et).run P w=.ok z w:=by simp [zeroValue,typeInfo,b2,hz]
 have l:c.args.map a.eval= #[a.eval x]:=by
  have:c.args= #[x]:=by rw[<-Vca];exact D
  rw[this];simp
 have Y:∀w',(Vx c.argTypes o.type #[a.eval x]).run P w=.ok (.tuple #[]) w' ->(execOp a.eval o).run P w=.ok (.value (.tuple #[])) w' :=λw' hr=>by simp only[execOp,ho,Zb3 G,builtin,l,Vf,hr,Vc,Vg]
 have hv:∀{w' :World}{g' :Gh},VR w' g' (.tup .nil) (.tuple #[]):=⟨[],rfl,rfl⟩;obtain⟨hk,C⟩:=(hx▸hF.eval x).vs;have a0:H id≠none:=by rw[hH];simp
 by_cases hn:n=0
 ·subst hn;have e:xs.take f++Vs 0 (zeroEl t)++xs.drop (f+0)=xs:=by simp
  rw[e,Zxb hH];refine Zu.pure hR (Y _ ?_) hv;rcases C with ⟨_,_,_,U⟩|⟨b,len,cap,m,h1,h2,U,h4,h5⟩
  ·have X:a.eval x=.slice Ub 0 0:=by simpa using U
   rw[X];simp only[Vx,h0,Zbl,underlying,Vf,run_program,Vc,R,Vg]
  ·have X:a.eval x=.slice (Ua ⟨b,if m=0 then 0 else f* (g.ty id).size,Ub⟩) 0 m:=by simpa using h5
   rw[X];simp only[Vx,h0,Zbl,underlying,Vf,run_program,Vc,R,Vg]
 ·obtain⟨hK,a7,hO⟩:=hR.objs id _ hH;rcases C with ⟨_,_,U,_⟩|⟨b,len,cap,m,A,h2,U,h4,h5⟩
  ·exact absurd U hn
  have b4:m≠0:=by omega
  rw[Zg b4,a7]at h5;have X:a.eval x=.slice (Ua ⟨b,f*t.size,Ub⟩) n m:=by simpa using h5
  rcases hO with ⟨rfl,_⟩|⟨b',b6,cs,e,d,W,M,j,hh,b0,b1,i,rest,N⟩
  ·simp at b3;omega
  rw[A]at j;simp only[Vjb.injEq,ZL,Addr.mk.injEq,and_true]at j;obtain⟨rfl,rfl,rfl⟩:=j
  let k:=Vs n z.cells.toList
  have J:Fa (Rd w g.I t) (Vs n (zeroEl t)) k:=O n;have b7:=Yt (Rd.all_length i);have b5:(Vq z.cells n).toList=k.flatten:=by have:=ZdN z.cells n;unfold Vq;exact this
  have L:k.flatten.length=n*t.size:=by rw[Yt λc G=>Rd.all_length J c G];simp [k]
  have K:((d.take f).flatten).length=f*t.size:=by rw[Yt λc G=>Rd.all_length i c (Vxa G),Vr,<-i.length,Vpb (by omega)]
  have a3:(((d.drop f).take n).flatten).length=n*t.size:=by rw[Yt λc G=>Rd.all_length i c (List.mem_of_mem_drop (Vxa G)),Vr,Vba,<-i.length,Vpb (by omega)]
  have r:d.flatten=(d.take f).flatten++(((d.drop f).take n).flatten++(d.drop (f+n)).flatten):=by rw[<-Vwa,<-Vha,Vaa,<-Vha,Vaa]
  have s:cs.toList=(d.take f).flatten++(((d.drop f).take n).flatten++((d.drop (f+n)).flatten++rest)):=by rw[<-N,r];simp
  have Q:cs.size=f*t.size+(n*t.size+((d.drop (f+n)).flatten++rest).length):=by rw[<-Vp,s,Vj,Vj,K,a3]
  have a4:∀u∈k.flatten,u.oneCell' =true:=by intro u R;obtain⟨c1,a9,R⟩:=Vkb.1 R;exact J.all_right (p:=λc=>∀u∈c,u.oneCell' =Uc) (λy c hy=>Rd.oneCell t _ _ hy) c1 a9 u R
  have a6:=run_storeCells_at P b (f*t.size) e k.flatten 0 cs w hh (by rw[L];omega) a4;have a2:(cs.toList.take (f*t.size+0)++k.flatten++cs.toList.drop (f*t.size+0+k.flatten.length))=(d.take f++k++d.drop (f+n)).flatten++rest:=by rw[Vhb,L,s,<-K,List.take_left,<-Vwa,Vqb,<-a3,Vqb];simp
  rw[a2]at a6;have a5:(Vx c.argTypes o.type #[a.eval x]).run P w=.ok (.tuple #[]) (w.setRow b ((d.take f++k++d.drop (f+n)).flatten++rest).toArray):=by rw[X];obtain⟨n',rfl⟩:=Nat.exists_eq_succ_of_ne_zero hn;simp only[Vx,h0,Zbl,underlying,Vf,run_program,Vc,R,Vg,S,b5,a6]
  have hs:=hR.sep id b a0 M;have V:Kq g.I w (w.setRow b ((d.take f++k++d.drop (f+n)).flatten++rest).toArray):=λq hq=>setRow_other w b q _ λe=>hs.1 (e▸hq);have Z:Fa (Rd (w.setRow b ((d.take f++k++d.drop (f+n)).flatten++rest).toArray) g.I t) (xs.take f++Vs n (zeroEl t)++xs.drop (f+n)) (d.take f++k++d.drop (f+n)):=
   (((i.take f).append J).append (i.drop (f+n))).mono λx c hx=>Rd.mono V (by simp) t x c hx
  have a1:(xs.take f++Vs n (zeroEl t)++xs.drop (f+n)).length=xs.length:=by simp;omega
  refine⟨.tuple #[],_,g,ow,.inl (Y _ a5),hR.write a0 M (λq hq=>setRow_other w b q _ hq) (size_setRow w b _) rfl rfl ⟨rfl,Vd _⟩ ?_,.refl g,V,hv,λid h=>.inl h⟩;refine⟨a7,.inr ⟨b,_,_,e,_,W,M,by rw[a1];exact A,R7 hh,by omega,?_,Z,rest,by simp⟩⟩;have h8:((d.take f++k++d.drop (f+n)).flatten++rest).length=cs.size:=by rw[Q];simp only[Vha,Vj,K,L];omega
  rw[Vz,h8];exact b1
theorem ZuO{x:AV}{val:Value}{r:Bool}{m u:List Nat}(q:RH B H w g ow)(i:VR w g x val)(h:(Zfn x).run H m=Ua (r,u)):∃a n c,val=.slice a n c/\a.isNone=r:=by
 unfold Zfn at h;split at h
 ·simp only[Zj]at h;obtain⟨rfl,_⟩:=h;exact⟨Ub,0,0,i.nils,rfl⟩
 ·rename_i t xs;simp only[ZA,Zj]at h;obtain⟨_,d,rfl,_⟩:=h;have d:=HO d;obtain⟨a,cap,f,rfl,_,j,_⟩:=i.sl;obtain⟨b,off,rfl,_⟩:=j (by rintro rfl;simp at d);exact⟨_,_,_,rfl,rfl⟩
 ·rename_i id;rw[Z3]at h;split at h
  ·rename_i t xs l;simp only[ZA,Zj]at h;obtain⟨_,d,rfl,_⟩:=h;have d:=HO d;obtain⟨_,s⟩:=i.vw;obtain⟨_,_,p⟩:=q.objs id _ l;rcases p with ⟨rfl,_⟩|⟨b,cap,cs,e,f,_,_,k,_⟩
   ·simp at d
   ·exact⟨_,_,_,s.trans k,rfl⟩
  ·simp [Zb]at h
 ·simp [Zb]at h
theorem ZuP{b:BinOp}{T z:TypeId}{x y:Operand}{r:Bool}{m G:List Nat}(A:Z4 P E)(j:RH B H w g ow)(hF:Fr w g F a.tmps)(u:o.op=.binOp b T x y z)(D:Zz F y=.nils)(i:JP (E.ty T)=Uc)(h:(Zfn (Zz F x)).run H m=Ua (r,G)):
 (b=.eql->Zu B H w g nid (.d .bool r) ((execOp a.eval o).run P w))/\(b=.neq->Zu B H w g nid (.d .bool (!r)) ((execOp a.eval o).run P w)):=by
 have:∃t,E.ty T=Ua (.sl t):=by
  cases e:E.ty T with
  |none=>rw[e]at i;simp [JP]at i
  |some t=>cases t<;>rw[e]at i<;>simp [JP]at i;exact⟨_,rfl⟩
 obtain⟨t,e⟩:=this;obtain⟨J,C,_⟩:=Js A e;obtain⟨f,n,c,k,l⟩:=ZuO j (hF.eval x) h;have p:=(D▸hF.eval y).nils;have key:(Op.equal T (.slice f n c) (.slice Ub 0 0)).run P w=.ok r w:=by
  have:∀d,(Op.equalIn (d+1) T (.slice f n c) (.slice Ub 0 0)).run P w=.ok r w:=λd=>by
   simp only[Op.equalIn,underlying,Vf,run_program,Vc,C,Vg];cases f<;>simp at l<;>subst l<;>simp
  exact this 9999
 have s:∀op,(eqGuard op T x y (.slice f n c) (.slice Ub 0 0)).run P w=.ok () w:=λop=>Zb9 (by simp) rfl;refine⟨λq=>?_,λq=>?_⟩<;>subst q
 ·refine Zu.pure j (val:=.bool r) ?_ (JZ _);simp only[execOp,u,k,p,Vf,s,Vc,binOp,key,Vg]
 ·refine Zu.pure j (val:=.bool (!r)) ?_ (JZ _);simp only[execOp,u,k,p,Vf,s,Vc,binOp,key,Vg]
theorem Zwy{T:TypeId}{x:Operand}{J z:Option Operand}{id f i n:Nat}{t:Ty}{xs:List (El t)}(Q:Z4 P E)(O:RH B H w g ow)(hF:Fr w g F a.tmps)(ho:o.op=.slice T x J z Ub)(G:Zz F x=.ptr id [])(N:H id=Ua (.var (.arr n t) (.d (.arr n t) xs)))(ht:E.ty T=Ua (.arr n t))(C:XS (Zz F) J=Uc)(y:XS (Zz F) z=Uc)
 (hs:sliceB n n (J.bind λo=>KW (Zz F o)) (z.bind λo=>KW (Zz F o))=Ua (f,i)):Zu B (Z0 H id Ub) w g nid (.d (.sl t) ((xs.drop f).take (i - f))) ((execOp a.eval o).run P w):=by
 obtain⟨U,hu,s⟩:=Zj4 Q ht;obtain⟨hk,o',t1,b,K,V,W⟩:=(G▸hF.eval x).ptr;rw[WR]at K;obtain⟨rfl,rfl⟩:=Vwb (KO K);obtain⟨_,a2,_,b',cs,e,L,X,Y,h7,M⟩:=O.objs id _ N;rw[V]at L;cases L;simp only[CV]at M;obtain⟨hl,l,m,p⟩:=M;have A:H id≠none:=by rw[N];simp
 have r:ZP H ow [id] b:=⟨id,by simp,A,X⟩;have u:=O.freezeIds (ids:=[id]);obtain⟨Z,a1,a0⟩:=Za0 (P:=P) (w:=w) (isS:=Ud) hF (Vd _) (Zam C) (Zam y) hs (Vd _);refine Zu.after_le (g.le_grow (ZP H ow [id])) (λ_ h=>h) (Zu.pure (val:=.slice (Ua (if n=f then⟨b,0,Ub⟩ else Addr.add ⟨b,0,Ub⟩ (f*t.size))) (i - f) (n - f)) u ?_ (KN ?_ rfl rfl))
 ·simp only[execOp,ho,W,Vtb,Vva,Vnb,underlying,Vf,run_program,Vc,hu,Vg,Z,(Q.ty U t s).run_sizeOf]
 ·have k:((xs.drop f).take (i - f)).length=i - f:=by simp;omega
  have q:Fa (Rd w (g.grow (ZP H ow [id])).I t) xs l:=p.mono λx c G=>Rd.mono (λ_ _=>rfl) (λ_ h=>.inl h) t x c G;simp only[CV,Rd];refine⟨_,n - f,(l.drop f).take (i - f),by rw[k],(q.drop f).take _,λD=>?_,by rw[k];omega⟩;have S:0<i - f:=by rw[<-k];exact List.length_pos_iff.2 D
  have hL:KB w b 0 l.flatten:=by
   intro j R;rw[<-m]at R;simp only[Vvb,Y,Vgb];have:cs[j]? =Ua (l.flatten[j]'(by rw[<-m];exact R)):=by rw[<-Vua];simp [m]
   simpa using this
  refine⟨b,0+f*t.size,?_,.inr r,KB.part (Rd.all_length p) (by rw[<-p.length];omega) hL⟩;rw[Zg (by omega)];simp [Addr.add];exact λh=>h.symm
end ops
end Tr
end
section
namespace Tr
open Go
section ops
variable {P:Program}{E:Z9}{B:Z1}{H:AH}{w:World}{g:Gh}{ow:Nat->Nat->Prop}{nid:Nat}{a:Act}{F:Nat->AV}{v:AV}{patch:KF}{rd:List Nat}{o:Oper}
theorem KB.of_cells{b:Nat}{cs:Array Value}{e:TypeId}(c:w.heap[b]? =Ua (.cells cs e (0,0))):KB w b 0 cs.toList:=by have:=KB.of_vec (w:=w) (b:=b) (css:=[cs.toList]) c (by simp);simpa using this
theorem Zhm{u v:AV}{val:Value}{l C:List Nat}(i:VR w g v val)(h:(RP v).run H l=Ua (u,C)):C=l/\∃t y,u=.dp t y/\VR w g u val/\∃b off,val=.pointer (Ua ⟨b,off,Ub⟩):=by
 unfold RP at h;split at h
 ·rename_i t x;simp only[ZA,Zj]at h;obtain⟨y,j,rfl,rfl⟩:=h;subst j;have f:CV w g (.d (.pt t) (Ua y)) val.cells.toList:=i.1;have r:Kd val=false:=i.2.resolve_left (by simp);simp only[CV,Rd]at f;obtain⟨b,c,e,k,m,n,q⟩:=f;obtain rfl:=KY k r;refine⟨rfl,t,y,rfl,KN ?_ rfl rfl,b,0,rfl⟩;simp only[CV];exact⟨b,0,c.toList,rfl,m,.of_cells n,q⟩
 ·rename_i a b x;simp only[ZA,Zj]at h;obtain⟨y,j,rfl,rfl⟩:=h
  cases x with
  |nil=>cases j
  |cons z x=>
   cases j;have f:CV w g (.d (.lk a b) (z::x)) val.cells.toList:=i.1;have r:Kd val=false:=i.2.resolve_left (by simp);simp only[CV,Rd]at f;obtain⟨p,off,A,cl,s,k,m,n,q,D,G⟩:=f;obtain rfl:=KY k r;refine⟨rfl,ZaP a b,_,rfl,KN ?_ rfl rfl,p,off,rfl⟩;simp only[CV];refine⟨p,off,A++(cl++s),rfl,m,n,?_⟩;simp only[Rd];exact⟨A,cl++s,rfl,q,cl,s,rfl,D,G⟩
 ·rename_i t x;simp only[ZA,Zj]at h;obtain⟨y,j,rfl,rfl⟩:=h;subst j;have f:CV w g (.d (.pn t) (Ua y)) val.cells.toList:=i.1;have r:Kd val=false:=i.2.resolve_left (by simp);simp only[CV,Rd]at f;obtain⟨cells,e,k,m,n,q⟩:=f;obtain rfl:=KY k r;refine⟨rfl,t,_,rfl,KN ?_ rfl rfl,y.1,0,rfl⟩;simp only[CV];exact⟨y.1,0,cells.toList,rfl,m,.of_cells n,q⟩
 ·simp [Zb]at h
theorem Znd{x:Operand}(h:(Zz F x).isPtD=Uc):∃n,x=.tmp n:=by
 cases x with
 |tmp n=>exact⟨n,rfl⟩
 |const c=>
  exfalso;simp only[Zz]at h;unfold Zeg at h
  split at h<;>simp [AV.isPtD]at h
 |global i=>simp [Zz,AV.isPtD]at h
 |func f=>
  simp only[Zz]at h;cases b:Vza f WQ<;>rw[b]at h<;>simp [AV.isPtD]at h
theorem Fr.put1{n:Nat}{u:AV}(hF:Fr w g F a.tmps)(c:VR w g u (a.eval (.tmp n))):Fr w g (λk=>bif Vw k n then u else F k) a.tmps:=by
 intro k
 cases b:Vw k n with
 |true=>
  have:=Vm b;subst this;show VR w g (bif Vw k k then u else F k) _
  rw[b];exact c
 |false=>
  show VR w g (bif Vw k n then u else F k) _;rw[b];exact hF k
theorem Zvv{x:Operand}(c:RH B H w g ow)(hF:Fr w g F a.tmps)(d:o.op=.nilCheck x){u:AV}{l f:List Nat}(h:(RP (Zz F x)).run H l=Ua (u,f)):Zu B H w g nid (Zz F x) ((execOp a.eval o).run P w):=by obtain⟨_,t,y,_,_,b,off,e⟩:=Zhm (hF.eval x) h;refine Zu.pure (val:=a.eval x) c ?_ (hF.eval x);simp [execOp,d,e]
theorem Zvt{T:TypeId}{x:Operand}(f:Z4 P E)(e:RH B H w g ow)(hF:Fr w g F a.tmps)(b:o.op=.load T x)(i:(Zz F x).isPtD=Uc)
 (h:((RP (Zz F x)).bind λv=>ZS E nid (.load T x) o.type λ_=>v).run H []=Ua ((v,patch),rd)):Zu B (Zs H patch) w g nid v ((execOp a.eval o).run P w):=by
 obtain⟨n,rfl⟩:=Znd i;rw[Z2]at h;obtain⟨u,m,c,d⟩:=h;obtain⟨rfl,t,y,rfl,j,_⟩:=Zhm (hF.eval _) c;refine Zj0 f e (Fr.put1 (n:=n) (u:=.dp t y) hF j) b (rd:=rd) ?_;rw[b];simpa only[ZS,Zz,Nat.beq_refl,Zd] using d
theorem Zvs{T f:Nat}{x:Operand}(i:Z4 P E)(e:RH B H w g ow)(hF:Fr w g F a.tmps)(b:o.op=.fieldAddr T x f)(j:(Zz F x).isPtD=Uc)
 (h:((RP (Zz F x)).bind λv=>ZS E nid (.fieldAddr T x f) o.type λ_=>v).run H []=Ua ((v,patch),rd)):Zu B (Zs H patch) w g nid v ((execOp a.eval o).run P w):=by
 obtain⟨n,rfl⟩:=Znd j;rw[Z2]at h;obtain⟨u,m,c,d⟩:=h;obtain⟨rfl,t,y,rfl,k,_⟩:=Zhm (hF.eval _) c;refine ZjZ i e (Fr.put1 (n:=n) (u:=.dp t y) hF k) b (rd:=rd) ?_;rw[b];simpa only[ZS,Zz,Nat.beq_refl,Zd] using d
theorem ZwP{T:TypeId}{x y:Operand}{u:AV}{t:Ty}{id:Nat}{p:List Nat}{t0:Ty}{c J:AV}{H' :AH}{l Y:List Nat}(U:Z4 P E)(z:RH B H w g ow)(V:o.op=.store T x y)(W:E.ty T=Ua t)(X:VR w g (.ptr id p) (a.eval x))(G:Ku w g u (a.eval y))(C:u.fits t=Uc)
 (S:H id=Ua (.var t0 c)) (Q:(Rm t0 c p u).run H' l=Ua (J,Y)):Zu B (Z0 H id (Ua (.var t0 J))) w g nid .junk ((execOp a.eval o).run P w):=by
 have h:=CV.oneCell _ _ (ZbJ C).1 G.1 t C;have f:=CV.length _ t _ C G.1;obtain⟨hk,o',t1,b,K,L,R⟩:=X.ptr;obtain⟨_,i,D,Z,cs,e,M,s,N,h9,j⟩:=z.objs id _ S;obtain⟨_,o2,pre,O,post,t2,⟨k,d,m,n⟩,q,r⟩:=Zn3 Q D j G.1 (by omega);rw[i,k]at K;obtain⟨rfl,rfl⟩:=Vwb (KO K);rw[L]at M;cases M;subst m;have A:=Zd8 (cs' :=(pre++(a.eval y).cells.toList++post).toArray) z (by grind) s;refine Zu.write z (by grind) s (cs' :=(pre++(a.eval y).cells.toList++post).toArray) ?_ ?_
 ·simp only[execOp,V,R,Instr.storeAt,Vva,Vf,Vg,Vc,ZdA (U.ty T t W) N d rfl n f h]
 ·refine⟨i,q,b,_,e,L,s,R7 N,?_,?_⟩
  ·have:cs.size=pre.length+O.length+post.length:=by rw[<-Vp,d];grind
   grind
  ·simpa using CV.mono A (.refl g) _ _ r
theorem Zvw{T:TypeId}{x y:Operand}{t:Ty}{d:El t}{ids:List Nat}{id:Nat}{p:List Nat}{t0:Ty}{c s:AV}{H' :AH}{l O Q R:List Nat}(K:Z4 P E)(z:RH B H w g ow)(hF:Fr w g F a.tmps)(L:o.op=.store T x y)(M:E.ty T=Ua t)(N:Zz F x=.ptr id p)
 (f:(Kk t (Zz F y)).run H Q=Ua ((d,ids),R)) (C:KT id ids=Ud) (J:H id=Ua (.var t0 c)) (G:(Rm t0 c p (.d t d)).run H' l=Ua (s,O)):
 Zu B (Zs H ((ids.map λi=>(i,Ub))++[(id,Ua (.var t0 s))])) w g nid .junk ((execOp a.eval o).run P w):=by
 have e:=g.le_grow (ZP H ow ids);have A:=ZgN f;have q:∀m,Zz F y≠ .tup m:=by
  intro m n;rw[n]at f;cases t<;>simp [Kk,Zb]at f
 have D:=(hF.eval y).to1 q;have r:Rd w (g.grow (ZP H ow ids)).I t d (a.eval y).cells.toList:=RK z (λb j=>e.I b j) _ _ _ _ _ _ _ f D.1 (λb j=>.inr j);have k:Zs H (ids.map λi=>(i,Ub)) id=Ua (.var t0 c):=by rw[Rb,Zg,J];intro n;rw[JQ.2 n]at C;cases C
 rw[Xq];refine Zu.after_le e (λ_ h=>h) (ZwP (u:=.d t d) K z.freezeIds L M ((N▸hF.eval x).mono (λ_ _=>rfl) e) ⟨by simpa only[CV] using r,.inr ?_⟩ (by simp [AV.fits]) k G);rw[D.2.resolve_left A.1,A.2];rfl
theorem Zwu{T:TypeId}{t:Ty}(h:Z4 P E)(i:E.ty T=Ua t)(c:Zda (Ua t)=Uc):∃e,P.underlying T=Ua (.pointer e):=by
 have b:=(h.ty T t i).shape
 cases f:P.underlying T with
 |none=>rw[f]at b;cases t<;>simp [Zda]at c<;>simp [Ke]at b
 |some d=>rw[f]at b;cases t<;>simp [Zda]at c<;>cases d<;>simp [Ke]at b<;>exact⟨_,rfl⟩
theorem Zvr{t:Ty}{x:El t}{r:Bool}{val:Value}(n:VR w g (.d t x) val)(h:ZfA (.d t x)=Ua r):Zda (Ua t)=Uc/\∃m:Option Addr,val=.pointer m/\r=m.isNone:=by
 have i:Kd val=Ud\/t.agg=true:=by
  have:=n.2.resolve_left (by simp);rw[this]
  cases p:t.agg with
  |true=>exact .inr rfl
  |false=>exact .inl p
 have f:Rd w g.I t x val.cells.toList:=by have:=n.1;simpa only[CV] using this
 unfold ZfA at h;split at h
 ·rename_i q y j;cases j;refine⟨rfl,?_⟩;have i:=i.resolve_right (by simp [Ty.agg])
  cases y with
  |none=>exact⟨Ub,KY f i,by simpa using h.symm⟩
  |some z=>obtain⟨b,off,c,k,_⟩:=f;exact⟨_,KY k i,by simpa using h.symm⟩
 ·rename_i A C y j;cases j;refine⟨rfl,?_⟩;have i:=i.resolve_right (by simp [Ty.agg])
  cases y with
  |nil=>exact⟨Ub,KY f i,by simpa using h.symm⟩
  |cons z l=>obtain⟨b,off,s,cl,u,k,_⟩:=f;exact⟨_,KY k i,by simpa using h.symm⟩
 ·rename_i q y j;cases j;refine⟨rfl,?_⟩;have i:=i.resolve_right (by simp [Ty.agg])
  cases y with
  |none=>exact⟨Ub,KY f i,by simpa using h.symm⟩
  |some z=>obtain⟨c,e,k,_⟩:=f;exact⟨_,KY k i,by simpa using h.symm⟩
 ·cases h
theorem Zvu{b:BinOp}{T m:TypeId}{x y:Operand}{t:Ty}{d:El t}{r:Bool}(p:Z4 P E)(i:RH B H w g ow)(hF:Fr w g F a.tmps)(l:o.op=.binOp b T x y m)(A:Zz F x=.d t d)(C:Zz F y=.nilr Uc)(s:ZfA (.d t d)=Ua r)(u:E.ty T=Ua t):
 (b=.eql->Zu B H w g nid (.d .bool r) ((execOp a.eval o).run P w))/\(b=.neq->Zu B H w g nid (.d .bool (!r)) ((execOp a.eval o).run P w)):=by
 obtain⟨q,c,f,rfl⟩:=Zvr (A▸hF.eval x) s;obtain⟨e,z⟩:=Zwu p u q;have h:a.eval y=.pointer none:=by
  have:=C▸hF.eval y;have n:Kd (a.eval y)=false:=by simpa [AV.isAgg] using this.2
  exact KY (ZmB this.1) n
 have key:(Op.equal T (.pointer c) (.pointer Ub)).run P w=.ok c.isNone w:=by
  have:∀d,(Op.equalIn (d+1) T (.pointer c) (.pointer Ub)).run P w=.ok c.isNone w:=λd=>by
   cases c<;>simp only[Op.equalIn,underlying,Vf,run_program,Vc,z,Vg]<;>rfl
  exact this 9999
 have k:∀op,(eqGuard op T x y (.pointer c) (.pointer Ub)).run P w=.ok () w:=λop=>Zb9 (by simp) rfl;refine⟨λj=>?_,λj=>?_⟩<;>subst j
 ·refine Zu.pure i (val:=.bool c.isNone) ?_ (JZ _);simp only[execOp,l,f,h,Vf,k,Vc,binOp,key,Vg]
 ·refine Zu.pure i (val:=.bool (!c.isNone)) ?_ (JZ _);simp only[execOp,l,f,h,Vf,k,Vc,binOp,key,Vg]
theorem Zm8{t:Ty}{x:El (.pn t)}{val:Value}(h:VR w g (.d (.pn t) x) val):(x=Ub/\val=.pointer Ub)\/∃y cells e,x=Ua y/\val=.pointer (Ua ⟨y.1,0,Ub⟩)/\w.heap[y.1]? =Ua (.cells cells e (0,0)):=by
 have f:Kd val=false:=h.2.resolve_left (by simp);have b:Rd w g.I (.pn t) x val.cells.toList:=by have:=h.1;simpa only[CV] using this
 cases x with
 |none=>exact .inl ⟨rfl,KY b f⟩
 |some y=>obtain⟨c,e,i,_,j,_⟩:=b;exact .inr ⟨y,c,e,rfl,KY i f,j⟩
theorem Zvf{b:BinOp}{T J:TypeId}{x y:Operand}{t:Ty}{d j:El (.pn t)}(A:Z4 P E)(z:RH B H w g ow)(hF:Fr w g F a.tmps)(G:o.op=.binOp b T x y J)(O:Zz F x=.d (.pn t) d)(Q:Zz F y=.d (.pn t) j)(N:E.ty T=Ua (.pn t))(n:t.size≠0):
 (b=.eql->Zu B H w g nid (.d .bool (Ue (d.map Vo=j.map Vo))) ((execOp a.eval o).run P w))/\(b=.neq->Zu B H w g nid (.d .bool (!Ue (d.map Vo=j.map Vo))) ((execOp a.eval o).run P w)):=by
 have l:=(A.ty T _ N).shape;obtain⟨e,i,M⟩:∃e,P.underlying T=Ua (.pointer e)/\E.ty e=Ua t:=by
  cases i:P.underlying T with
  |none=>rw[i]at l;simp [Ke]at l
  |some d=>rw[i]at l;cases d<;>simp [Ke]at l;exact⟨_,rfl,l⟩
 have R:=(A.ty e t M).run_sizeOf w;have main:∃p q:Option Addr,a.eval x=.pointer p/\a.eval y=.pointer q/\(Op.equal T (.pointer p) (.pointer q)).run P w=.ok (Ue (d.map Vo=j.map Vo)) w:=by
  rcases Zm8 (O▸hF.eval x) with ⟨rfl,k⟩|⟨u,S,V,rfl,k,K⟩<;>rcases Zm8 (Q▸hF.eval y) with ⟨rfl,f⟩|⟨c,U,W,rfl,f,L⟩
  ·refine⟨_,_,k,f,?_⟩;have:∀d,(Op.equalIn (d+1) T (.pointer Ub) (.pointer Ub)).run P w=.ok Uc w:=λd=>by simp only[Op.equalIn,underlying,Vf,run_program,Vc,i,Vg];rfl
   exact this 9999
  ·refine⟨_,_,k,f,?_⟩;have:∀d,(Op.equalIn (d+1) T (.pointer Ub) (.pointer (Ua ⟨c.1,0,Ub⟩))).run P w=.ok Ud w:=λd=>by simp only[Op.equalIn,underlying,Vf,run_program,Vc,i,Vg];rfl
   exact this 9999
  ·refine⟨_,_,k,f,?_⟩;have:∀d,(Op.equalIn (d+1) T (.pointer (Ua ⟨u.1,0,Ub⟩)) (.pointer Ub)).run P w=.ok Ud w:=λd=>by simp only[Op.equalIn,underlying,Vf,run_program,Vc,i,Vg]
   exact this 9999
  ·refine⟨_,_,k,f,?_⟩;have m:(sameAddr ⟨u.1,0,Ub⟩ ⟨c.1,0,Ub⟩).run P w=.ok (Ue (u.1=c.1)) w:=by
    by_cases e:u.1=c.1
    ·rw[e,run_sameAddr_same];simp
    ·rw[run_sameAddr_other w (a:=⟨u.1,0,Ub⟩) (b:=⟨c.1,0,Ub⟩) (λh=>e (Addr.mk.inj h).1) K L];simp [e]
   have:∀d,(Op.equalIn (d+1) T (.pointer (Ua ⟨u.1,0,Ub⟩)) (.pointer (Ua ⟨c.1,0,Ub⟩))).run P w=.ok (Ue (u.1=c.1)) w:=λd=>by simp only[Op.equalIn,underlying,Vf,run_program,Vc,i,Vg,R];simp only[ne_eq,n,not_false_eq_true,if_true,m]
   rw[show Ue (Vxb Vo (Ua u)=Vxb Vo (Ua c))=Ue (u.1=c.1) from by simp];exact this 9999
 obtain⟨p,q,f,s,key⟩:=main;have D:∀op,(eqGuard op T x y (.pointer p) (.pointer q)).run P w=.ok () w:=λop=>Zb9 (by simp) rfl;generalize Ue (d.map Vo=j.map Vo)=r at key⊢;refine⟨λC=>?_,λC=>?_⟩<;>subst C
 ·refine Zu.pure z (val:=.bool r) ?_ (JZ _);simp only[execOp,G,f,s,Vf,D,Vc,binOp,key,Vg]
 ·refine Zu.pure z (val:=.bool (!r)) ?_ (JZ _);simp only[execOp,G,f,s,Vf,D,Vc,binOp,key,Vg]
end ops
end Tr
end
section
namespace Tr
open Go
def Zaf(P:Program)(B:Z1)(H' :AH)(w:World)(g:Gh)(nid n:Nat)(v:AV)(o:Oper)(a:Act):Prop:=
 ∀(next:Act->World->Prop) (Q:Exit->Act->World->Prop),
  (∀val w' b c,RH B H' w' b c->g.Le b->Kq g.I w w' ->VR w' b v val->(∀id,b.K id->g.K id\/(nid<=id/\id<nid+n))->next (a.put o.dst val) w')->o.wp P a w next Q
section ops
variable {P:Program}{E:Z9}{B:Z1}{H:AH}{w:World}{g:Gh}{ow:Nat->Nat->Prop}{nid:Nat}{a:Act}{F:Nat->AV}{v:AV}{patch:KF}{rd:List Nat}{o:Oper}
theorem Zaf.of_did{H' :AH}{n:Nat}(p:Wu<=n)(h:Zu B H' w g nid v ((execOp a.eval o).run P w)):Zaf P B H' w g nid n v o a:=by
 intro next Q m
 obtain⟨val,w',e,d,b,f,i,j,k,l⟩:=h;have:=m val w' e d f i j k λid c=>(l id c).imp (λh=>h) λh=>⟨h.1,by omega⟩;unfold Oper.wp;rcases b with b|⟨b,rfl⟩
 ·rw[b];exact this
 ·rw[b];exact this
structure ZdW (P:Program) (B:Z1) (n:Nat) (f:FuncId) (h:Nat->Zo->Zy (AV×KF)):Prop where
 fn:∃fn,P.funcs[f]? =some fn∧fn.body.isNone=false∧(fn.name== "runtime.NumGoroutine")=false
 run:∀{H:AH}{w:World}{g:Gh}{ow:Nat->Nat->Prop}{nid:Nat}{avs:Zo}{vals:List Value}{v:AV}{patch:KF}{rd:List Nat},RH B H w g ow->(∀id,g.K id->id<nid\/nid+n<=id)->W8 w g avs vals->(h nid avs).run H []=Ua ((v,patch),rd)->
  Calls P f vals.toArray w λe w' =>∃rv g' ow',e=.returned rv/\RH B (Zs H patch) w' g' ow' /\g.Le g' /\Kq g.I w w' /\VR w' g' v rv/\∀id,g'.K id->g.K id\/(nid<=id/\id<nid+n)
theorem Zi2(E:Z9):Wu<=E.stp:=by unfold Z9.stp Wu;omega
structure JI (P:Program) (E:Z9) (B:Z1):Prop where
 ok:∀f,∀S∈E.specs f,ZT P f S
 amb:B.pl=Ud->Ga P B.w0 B.own0
 pl:B.pl=Uc->∀f,∀S∈E.specs f,S.pl=Uc
 inl:∀f h,E.inl f=Ua h->ZdW P B E.stp f h
theorem ZbI{fns:List FuncId}:∀{l:List Spec}{S:Spec},S∈RS fns l->S∈l/\S.fns=fns
 |[],_,h=>by simp [RS]at h
 |T::l,S,h=>by
  simp only[RS]at h
  cases b:T.fns==fns with
  |true=>
   rw[b]at h;simp only[Zd]at h;rcases Vk.1 h with rfl|h
   ·exact⟨by simp,by simpa using b⟩
   ·exact⟨Vda _ (ZbI h).1,(ZbI h).2⟩
  |false=>rw[b]at h;simp only[Ze]at h;exact⟨Vda _ (ZbI h).1,(ZbI h).2⟩
theorem Zj3:∀(xs:List Operand),Fr w g F a.tmps->Zdi (xs.map (Zz F))=Uc->W8 w g (Zo.ofList (xs.map (Zz F))) (xs.map a.eval)
 |[],_,_=>rfl
 |x::l,c,h=>by
  have b:(∀m,Zz F x≠ .tup m)/\Zdi (l.map (Zz F))=true:=by
   simp only[Vub]at h;cases d:Zz F x<;>rw[d]at h<;>simp [Zdi]at h<;>exact⟨by simp,by simpa using h⟩
  exact⟨a.eval x,l.map a.eval,rfl,(c.eval x).to1 b.1,Zj3 l c b.2⟩
theorem Zgy:∀{l m:Zo}{vs us:List Value},W8 w g l vs->W8 w g m us->W8 w g (l.app m) (vs++us)
 |.nil,_,_,_,h,b=>by simp only[W8]at h;subst h;exact b
 |.cons _ _,_,_,_,h,b=>by obtain⟨v,r,rfl,c,d⟩:=h;exact⟨v,r++_,rfl,c,Zgy d b⟩
theorem ZiT{f:FuncId}{S:Spec}(e:ZT P f S)(args:Array Value)(w:World):(callFunc f args).run P w=.ok (.enter f args) w:=by obtain⟨fn,b,c,d⟩:=e.fn;simp only[callFunc,Vf,run_program,Vc,b,d,c,if_false,Via,Vg]
theorem Ztc{f:FuncId}(h:Vza f WQ=Uc):Gu f=f:=by unfold Gu;rw[h,Zd]
theorem Ztb{f:FuncId}(h:Vza f WQ=Ud):Gu f=f - WQ:=by unfold Gu;rw[h,Ze]
theorem Zqn{c:Call}{O:Operand}(A:JI P E B)(Z:RH B H w g ow)(hF:Fr w g F a.tmps)(hk:∀id,g.K id->id<nid\/nid+Wu<=id)(M:o.op=.call c)(C:c.callee=.value O)
 (h:(ZS E nid o.op o.type (Zz F)).run H []=Ua ((v,patch),rd)):Zaf P B (Zs H patch) w g nid E.stp v o a:=by
 rw[M]at h;simp only[ZS,C]at h;split at h
 ·rename_i f k hf;simp only[ZO,Zb,ZU,false_or,Vja,Vb]at h;obtain⟨⟨t,L⟩,h⟩:=h;have b:=hF.eval O;rw[hf]at b;obtain⟨z,b,D⟩:=b.fn;have s:=Zkt k z t D;have r:=Zj3 c.args.toList hF L;obtain⟨j,n⟩:∃j,j=bif Vza f WQ then(Zo.ofList (c.args.toList.map (Zz F))).app k else k.app (Zo.ofList (c.args.toList.map (Zz F))):=⟨_,rfl⟩;obtain⟨i,d⟩:∃i,i=bif Vza f WQ then c.args.toList.map a.eval++z else z++c.args.toList.map a.eval:=⟨_,rfl⟩;simp only[<-n]at h;have hv:W8 w g j i:=by
   rw[n,d]
   cases Vza f WQ with
   |true=>exact Zgy r s
   |false=>exact Zgy s r
  have y:∀S∈RS (Zc2 j) (E.specs (Gu f)),ZT P (Gu f) S/\(B.pl=Uc->S.pl=Uc):=λS h=>⟨A.ok _ S (ZbI h).1,λp=>A.pl p _ S (ZbI h).1⟩;obtain⟨S,m⟩:∃S,ZT P (Gu f) S:=by
   cases u:RS (Zc2 j) (E.specs (Gu f)) with
   |nil=>rw[u]at h;simp [Zbp,Zb]at h
   |cons S l=>exact⟨S,(y S (by rw[u];simp)).1⟩
  have q:=Zko A.amb Z hk hv _ y h;intro next Q hn
  unfold Oper.wp;have x:(execOp a.eval o).run P w=.ok (.enter (Gu f) i.toArray) w:=by
   rcases ZbL f z with ⟨p,G⟩|⟨p,G⟩
   ·rw[G]at b;rw[d,p];simp only[execOp,M,resolve,C,Deferred.ofValue,b,Vf,Vg,Vc,invoke];have:Gu f=f:=Ztc p;rw[this]at m⊢;rw[ZiT m];congr 2;rw[<-Vca];simp
   ·rw[G]at b;rw[d,p];simp only[execOp,M,resolve,C,Deferred.ofValue,b,Vf,Vg,Vc,invoke];have:Gu f=f - WQ:=Ztb p;rw[this]at m⊢;rw[ZiT m];congr 2;rw[<-Vca];simp
  rw[x,Oper.upon_enter];refine q.mono ?_;rintro e w' ⟨rv,R,N,rfl,U,V,W,X,Y⟩;exact hn rv w' R N U V W X λid J=>(Y id J).imp (λh=>h) λh=>⟨h.1,by have:=Zi2 E;omega⟩
 ·simp [Zb]at h
theorem ZpR(p:Z4 P E)(C:JI P E B)(e:RH B H w g ow)(hF:Fr w g F a.tmps)(q:∀id,g.K id->id<nid\/nid+Wu<=id)
 (h:(ZS E nid o.op o.type (Zz F)).run H []=Ua ((v,patch),rd)):Zaf P B (Zs H patch) w g nid E.stp v o a:=by
 have j:=Zi2 E
 cases d:o.op with
 |move x=>exact .of_did j (Zj1 e hF (.inl d) h)
 |assign x=>exact .of_did j (Zj1 e hF (.inr d) h)
 |pick c x y=>exact .of_did j (Zqh e hF d h)
 |alloc T=>exact .of_did j (ZpS p e q d h)
 |box T x=>exact .of_did j (ZpW e hF q d h)
 |build T G=>exact .of_did j (ZpX p e hF d h)
 |buildSlice T n G=>exact .of_did j (ZpY p e hF q d h)
 |load T x=>exact .of_did j (Zj0 p e hF d h)
 |store T x y=>exact .of_did j (Zql p e hF d h)
 |nilCheck x=>exact .of_did j (Zqf e hF d h)
 |binOp op T x y J=>exact .of_did j (ZpU p e hF d h)
 |unOp op T x=>exact .of_did j (Zqm e hF d h)
 |convert S T x=>exact .of_did j (Zp0 p e hF d h)
 |makeFunc fn first z=>
  cases fn with
  |func f=>exact .of_did j (Zp8 e hF d h)
  |_=>rw[d]at h;simp [ZS,Zb]at h
 |makeMap T r=>exact .of_did j (Zp9 p e hF q d h)
 |makeSlice T l c=>exact .of_did j (Zqa p e hF q d h)
 |slice T x L A D=>
  cases D with
  |none=>exact .of_did j (Zqj p e hF d h)
  |some m=>cases A with
   |none=>rw[d]at h;simp [ZS,Zb]at h
   |some A=>exact .of_did j (Zqk p e hF d h)
 |fieldAddr T x f=>exact .of_did j (ZjZ p e hF d h)
 |field T x f=>exact .of_did j (Zp3 p e hF d h)
 |indexAddr T x i=>exact .of_did j (Zp5 p e hF d h)
 |index T x i=>exact .of_did j (Zp4 p e hF d h)
 |lookup T m k ok=>exact .of_did j (Zp7 p e hF d h)
 |mapUpdate T m k x=>exact .of_did j (Zqb p e hF d h)
 |range T x=>exact .of_did j (Zqi p e hF q d h)
 |next it s=>
  cases s with
  |false=>exact .of_did j (Zqe e hF d h)
  |true=>rw[d]at h;simp [ZS,Zb]at h
 |entry it=>exact .of_did j (Zp1 e hF d h)
 |extract t i=>exact .of_did j (Zp2 e hF d h)
 |call c=>
  cases u:c.callee with
  |value f=>exact Zqn C e hF q d u h
  |invoke r m=>rw[d]at h;simp [ZS,u,Zb]at h
  |builtin b=>
   cases b with
   |len=>exact .of_did j (Zp6 p e hF d u h)
   |min=>exact .of_did j (Zqd e hF d u h)
   |max=>exact .of_did j (Zqc e hF d u h)
   |append=>exact .of_did j (ZpT p e hF q d u h)
   |_=>rw[d]at h;simp [ZS,u,Zb]at h
 |_=>rw[d]at h;simp [ZS,Zb]at h
theorem Zwf{α:Type}{H:AH}:∀(a:Zy α) (l:List Nat) {r:α}{c:List Nat},a.run H l=Ua (r,c)->∃m,a.run H []=Ua (r,m):=by
 intro a
 induction a with
 |ret a=>intro l r c h;simp only[Zy.run,ZL,Va]at h;exact⟨[],by simp [Zy.run,h.1]⟩
 |fail=>intro l r c h;simp [Zy.run]at h
 |getH id k d=>
  intro l r c h;simp only[Zy.run]at h⊢;have key:∀(a:Zy α) (f e:List Nat) {r:α}{c:List Nat},a.run H f=Ua (r,c)->∃m,a.run H e=Ua (r,m):=by
   intro a
   induction a with
   |ret a=>intro f e r c h;simp only[Zy.run,ZL,Va]at h;exact⟨e,by simp [Zy.run,h.1]⟩
   |fail=>intro f e r c h;simp [Zy.run]at h
   |getH id k d=>intro f e r c h;simp only[Zy.run]at h⊢;exact d _ _ _ h
   |opt o k d=>intro f e r c h;cases o with
    |none=>simp [Zy.run]at h
    |some b=>simp only[Zy.run,Za]at h⊢;exact d _ _ _ h
   |bool b k d=>intro f e r c h;simp only[Zy.run]at h⊢;exact d _ _ _ h
  exact key _ _ _ h
 |opt o k d=>
  intro l r c h
  cases o with
  |none=>simp [Zy.run]at h
  |some b=>simp only[Zy.run,Za]at h⊢;exact d _ _ h
 |bool b k d=>intro l r c h;simp only[Zy.run]at h⊢;exact d _ _ h
theorem Zqg(L:Z4 P E)(hS:JI P E B)(D:RH B H w g ow)(hF:Fr w g F a.tmps)(hk:∀id,g.K id->id<nid\/nid+E.stp<=id)
 (h:(Je E nid o.op o.type (Zz F)).run H []=Ua ((v,patch),rd)):Zaf P B (Zs H patch) w g nid E.stp v o a:=by
 have A:=Zi2 E;have R:∀id,g.K id->id<nid\/nid+Wu<=id:=λid a4=>(hk id a4).imp (λh=>h) λh=>by omega
 have q:∀{l:List Nat},(ZS E nid o.op o.type (Zz F)).run H l=Ua ((v,patch),rd)->Zaf P B (Zs H patch) w g nid E.stp v o a:=λh=>by obtain⟨m,hm⟩:=Zwf _ _ h;exact ZpR L hS D hF R hm
 cases z:o.op with
 |call c=>
  cases N:c.callee with
  |value fo=>
   rw[z]at h q
   simp only[Je,N]at h;exact q h
  |invoke r m=>rw[z]at h q;simp only[Je,N]at h;exact q h
  |builtin b=>
   rw[z]at h q
   cases b with
   |clear=>
    simp only[Je,N]at h;split at h
    ·rename_i x t G V;obtain⟨T0,h0,U⟩:=Voa.1 V;split at h
     ·rename_i id lo n C;rw[Z3]at h;split at h
      ·rename_i t' xs J;simp only[ZO,ZA,Zj,Zb,ZU,Ka,Ki,Va,Vb]at h;obtain⟨⟨rfl,hd⟩,u,hg,⟨rfl,rfl⟩,_⟩:=h;exact .of_did A (Zrf L D hF z N G h0 U C J hd (Xy (HO hg)))
      ·simp [Zb]at h
     ·simp [Zb]at h
    ·simp [Zb]at h
   |append=>
    simp only[Je,N]at h;split at h
    ·rename_i s x lb G V;obtain⟨T0,h0,U⟩:=Voa.1 V;split at h
     ·rename_i id C;rw[Z3]at h;split at h
      ·rename_i a8 xs J;simp only[ZO,ZA,Z2,Zj,Zb,false_or,ZU,Vy,Va]at h;obtain⟨a6,a9,Q,⟨ys,ids⟩,m,a0,_,hg,⟨rfl,rfl⟩,_⟩:=h;obtain⟨he,rfl⟩:=KK Q;cases he;exact .of_did A (Zxf L D hF (YT R) z N G h0 U (by simpa using a6) C J a0 (Xy (HO hg)))
      ·exact q h
     ·exact q h
    ·exact q h
   |_=>simp only[Je,N]at h;exact q h
 |indexAddr T x i=>
  rw[z]at h q;simp only[Je]at h;split at h
  ·rename_i id k n C hi;rw[Z3]at h;split at h
   ·rename_i lb xs J;simp only[ZO,ZA,Zj,Zb,ZU,Ka,Ki,Va]at h;obtain⟨M,j,hj,⟨rfl,rfl⟩,_⟩:=h;exact .of_did A (Zxg L D hF z C hi J M hj)
   ·exact q h
  ·exact q h
 |slice T x lo hi mx=>
  rw[z]at h q;simp only[Je]at h;split at h
  ·rename_i id C;rw[Z3]at h;split at h
   ·rename_i lb xs J;simp only[ZO,ZA,Zj,Zb,ZU,false_or,Vea,Vja,Vb,Ki,Va]at h;obtain⟨⟨M,a1,a2⟩,r,S,⟨rfl,rfl⟩,_⟩:=h;exact .of_did A (Zxi L D hF (YT R) z C J M a1 a2 S)
   ·exact q h
  ·rename_i id C;rw[Z3]at h;split at h
   ·rename_i t0 n t xs J;simp only[ZO,ZA,Zj,Zb,ZU,false_or,Ki,Va,Vea,Vja,Vb]at h;obtain⟨⟨⟨⟨a5,a3⟩,M⟩,rfl⟩,⟨l1,X⟩,hs,⟨rfl,rfl⟩,_⟩:=h;exact .of_did A (Zwy L D hF z C J M a5 a3 hs)
   ·exact q h
  ·exact q h
 |makeFunc fn first a7=>
  rw[z]at h q;simp only[Je,ZO]at h;rcases h with ⟨_,h⟩|⟨_,h⟩
  ·exact q h
  have junk:v=.junk->patch=[]->Zaf P B (Zs H patch) w g nid E.stp v o a:=by
   rintro rfl rfl;have S:∃val,(execOp a.eval o).run P w=.ok (.value val) w:=by simp only[execOp,z];exact⟨_,rfl⟩
   obtain⟨val,S⟩:=S;exact .of_did A (Zu.pure D S HH)
  split at h
  ·rename_i f;simp only[ZO,Zj,Va,Vb]at h;rcases h with ⟨⟨N,h2⟩,⟨rfl,rfl⟩,_⟩|⟨_,⟨rfl,rfl⟩,_⟩
   ·exact .of_did A (ZpV D hF z N h2)
   ·exact junk rfl rfl
  ·simp only[Zj,Va]at h;obtain⟨⟨rfl,rfl⟩,_⟩:=h
   exact junk rfl rfl
 |nilCheck x=>
  rw[z]at h q;simp only[Je]at h;rw[ZO]at h;rcases h with ⟨Z,h⟩|⟨_,h⟩
  ·rw[Z2]at h;obtain⟨u,m,X,h⟩:=h;simp only[Zj,Va]at h;obtain⟨⟨rfl,rfl⟩,_⟩:=h;exact .of_did A (Zvv D hF z X)
  ·exact q h
 |fieldAddr T x f=>
  rw[z]at h q;simp only[Je]at h;rw[ZO]at h;rcases h with ⟨Z,h⟩|⟨_,h⟩
  ·exact .of_did A (Zvs L D hF z Z h)
  ·exact q h
 |load T x=>
  rw[z]at h q;simp only[Je]at h;rw[ZO]at h;rcases h with ⟨Z,h⟩|⟨_,h⟩
  ·exact .of_did A (Zvt L D hF z Z h)
  split at h
  ·rename_i id j C;rw[Z3]at h;split at h
   ·rename_i lb xs J;simp only[ZO,ZA,Zj,Zb,ZU,Ka,Ki,Va]at h;obtain⟨M,y,W,⟨rfl,rfl⟩,_⟩:=h;exact .of_did A (Zxh L D hF z C J M W)
   ·simp [Zb]at h
  ·exact q h
 |store T x y=>
  rw[z]at h q;simp only[Je]at h;rw[ZO]at h;rcases h with ⟨Z,h⟩|⟨_,h⟩
  ·rw[ZA]at h;obtain⟨t,M,h⟩:=h;rw[Z2]at h;obtain⟨⟨d,ids⟩,m,X,h⟩:=h;split at h
   ·rename_i id p C;rw[ZO]at h;rcases h with ⟨_,h⟩|⟨hm,h⟩
    ·simp [Zb]at h
    rw[Z3]at h;split at h
    ·rename_i t0 c J;rw[Z2]at h;obtain⟨c',m',h2,h⟩:=h;simp only[Zj,Va]at h;obtain⟨⟨rfl,rfl⟩,_⟩:=h;exact .of_did A (Zvw L D hF z M C X hm J h2)
    ·simp [Zb]at h
   ·simp [Zb]at h
  exact q h
 |binOp b T x y T' =>
  rw[z]at h q;simp only[Je]at h;split at h
  ·rename_i t d C W;rw[ZA]at h;obtain⟨r,S,h⟩:=h;rw[ZO]at h;rcases h with ⟨Y,h⟩|⟨_,h⟩
   ·have O:=Zvu (nid:=nid) L D hF z C W S (beq_iff_eq.1 Y);split at h
    ·simp only[Zj,Va]at h;obtain⟨⟨rfl,rfl⟩,_⟩:=h;exact .of_did A (O.1 rfl)
    ·simp only[Zj,Va]at h;obtain⟨⟨rfl,rfl⟩,_⟩:=h;exact .of_did A (O.2 rfl)
    ·simp [Zb]at h
   ·simp [Zb]at h
  ·rename_i t d t' d' C W;rw[ZO]at h;rcases h with ⟨Y,h⟩|⟨_,h⟩
   ·simp only[Vb,Ki]at Y;obtain⟨⟨M,rfl⟩,hz⟩:=Y;have hz:t'.size≠0:=by intro e;rw[e]at hz;simp at hz
    have O:=Zvf (nid:=nid) L D hF z C W M hz;split at h
    ·simp only[Zj,Va]at h;obtain⟨⟨rfl,rfl⟩,_⟩:=h;exact .of_did A (O.1 rfl)
    ·simp only[Zj,Va]at h;obtain⟨⟨rfl,rfl⟩,_⟩:=h;exact .of_did A (O.2 rfl)
    ·simp [Zb]at h
   ·simp [Zb]at h
  ·have W:Zz F y=.nils:=by assumption
   rw[ZO]at h;rcases h with ⟨Y,h⟩|⟨_,h⟩
   ·rw[Z2]at h;obtain⟨r,m,X,h⟩:=h;have O:=ZuP (nid:=nid) L D hF z W Y X;split at h
    ·simp only[Zj,Va]at h;obtain⟨⟨rfl,rfl⟩,_⟩:=h;exact .of_did A (O.1 rfl)
    ·simp only[Zj,Va]at h;obtain⟨⟨rfl,rfl⟩,_⟩:=h;exact .of_did A (O.2 rfl)
    ·simp [Zb]at h
   ·exact q h
  ·exact q h
 |_=>rw[z]at h q;exact q h
end ops
end Tr
end
section
namespace Tr
open Go
section congr
variable {E:Z9}{nid:Nat}{T:TypeId}{ev ev' :Operand->AV}
theorem Zbo{o:Option Operand}(h:∀x∈o,ev x=ev' x):XS ev o=XS ev' o:=by
 cases o with
 |none=>rfl
 |some x=>simp [XS,h x (by simp)]
theorem ZcE{o:Option Operand}(h:∀x∈o,ev x=ev' x):(o.bind λo=>KW (ev o))=o.bind λo=>KW (ev' o):=by
 cases o with
 |none=>rfl
 |some x=>grind
theorem ZpQ(op:Op)(h:∀x∈op.operands,ev x=ev' x):ZS E nid op T ev=ZS E nid op T ev' :=by
 have z:∀e:Array (Nat×Operand),(∀x∈e.toList.map (·.2),ev x=ev' x)->(e.toList.map λp=>(p.1,ev p.2))=(e.toList.map λp=>(p.1,ev' p.2)):=λe O=>
  List.map_congr_left (by grind)
 have lists:∀xs:List Operand,(∀x∈xs,ev x=ev' x)->xs.map ev=xs.map ev' :=by simp
 cases op<;>simp only[Op.operands]at h<;>simp only[ZS]
 case move x=>grind
 case assign x=>grind
 case pick c x y=>grind
 case box T x=>grind
 case build T e=>grind
 case buildSlice T n e=>grind
 case load T x=>grind
 case store T x y=>simp_all
 case nilCheck x=>grind
 case binOp op T x y M=>grind
 case unOp op T x=>grind
 case convert S T x=>grind
 case makeFunc fn first A=>
  cases fn<;>simp only
  grind
 case makeMap T r=>
  grind
 case makeSlice T l c=>grind
 case slice T x C d L=>
  cases L with
  |some m=>
   cases d with
   |none=>rfl
   |some d=>
    have j:∀y∈C,ev y=ev' y:=by simp_all
    have q:ev d=ev' d:=by grind
    have D:ev m=ev' m:=h m (by simp);have G:XS ev (Ua d)=XS ev' (Ua d):=Zbo (by grind);simp only
    rw[h x (by simp),Zbo j,G,ZcE j,q,D]
  |none=>
   simp only;have j:∀y∈C,ev y=ev' y:=by simp_all
   have q:∀y∈d,ev y=ev' y:=by simp_all
   rw[h x (by simp),Zbo j,Zbo q,ZcE j,ZcE q]
 case fieldAddr T x f=>grind
 case field T x f=>grind
 case indexAddr T x i=>grind
 case index T x i=>grind
 case lookup T m k ok=>grind
 case mapUpdate T m k x=>grind
 case range T x=>grind
 case next it s=>cases s<;>simp only;grind
 case entry it=>grind
 case extract t i=>grind
 case call c=>
  have u:∀x∈c.args.toList,ev x=ev' x:=λx K=>h x (by simp [Call.operands,Vt.1 K])
  cases J:c.callee with
  |value f=>
   have N:ev f=ev' f:=h f (by simp [Call.operands,J])
   grind
  |invoke r m=>rfl
  |builtin b=>
   cases b<;>simp only
   all_goals grind
theorem ZpZ(op:Op)(h:∀x∈op.operands,ev x=ev' x):Je E nid op T ev=Je E nid op T ev' :=by
 have q:=ZpQ (E:=E) (nid:=nid) (T:=T) op h;have lists:∀xs:List Operand,(∀x∈xs,ev x=ev' x)->xs.map ev=xs.map ev' :=by simp
 cases op
 all_goals simp only[Op.operands]at h
 all_goals simp only[Je,q]
 case load T x=>rw[h x (by simp)]
 case nilCheck x=>rw[h x (by simp)]
 case indexAddr T x i=>rw[h x (by simp),h i (by simp)]
 case slice T x A s G=>
  have e:∀y∈A,ev y=ev' y:=by simp_all
  have j:∀y∈s,ev y=ev' y:=by simp_all
  rw[h x (by simp),Zbo e,Zbo j,ZcE e,ZcE j]
 case fieldAddr T x f=>rw[h x (by simp)]
 case store T x y=>rw[h x (by simp),h y (by simp)]
 case binOp op T x y C=>rw[h x (by simp),h y (by simp)]
 case makeFunc fn first p=>rw[lists first.toList λx n=>h x (by simp [Vt.1 n])]
 case call c=>
  have d:∀x∈c.args.toList,ev x=ev' x:=λx n=>h x (by simp [Call.operands,Vt.1 n])
  cases D:c.callee with
  |value f=>rfl
  |invoke r m=>rfl
  |builtin b=>
   cases b<;>simp only
   case clear=>
    rcases k:c.args.toList with _|⟨x,_|⟨y,l⟩⟩
    ·rfl
    ·have e:=d x (by simp [k])
     cases (c.argTypes[0]?).bind E.ty with
     |none=>rfl
     |some t=>cases t<;>first|rfl|(simp only[e])
    ·rfl
   case append=>
    rcases k:c.args.toList with _|⟨x,_|⟨y,_|⟨z,l⟩⟩⟩
    ·rfl
    ·rfl
    ·have e:=d x (by simp [k]);have j:=d y (by simp [k])
     cases (c.argTypes[0]?).bind E.ty with
     |none=>rfl
     |some t=>cases t<;>first|rfl|(rename_i u;cases u<;>first|rfl|(simp only[e,j]))
    ·rfl
   all_goals grind
end congr
theorem Zmp{t:Nat}:∀{l:List Operand},t∈Za2 l↔.tmp t∈l
 |[]=>by simp [Za2]
 |x::l=>by cases x<;>simp [Za2,Zmp]
theorem ZpA{F b:Nat->AV}{l:List Operand}(h:∀t∈Za2 l,F t=b t):∀x∈l,Zz F x=Zz b x:=by
 intro x c
 cases x with
 |tmp t=>exact h t (Zmp.2 c)
 |_=>rfl
def Y2(ops:Array Oper)(o:Oper)(F:Nat->AV):Option Bool:=
 match o.guard with
 |none=>Ua Uc
 |some (j,want)=>match (ops[j]?).bind (·.dst) with
  |none=>Ub
  |some g=>match F g with
   |.d .bool b=>Ua (b==want)
   |.tup .nil=>Ua Ud
   |_=>Ub
noncomputable def XA(E:Z9)(ops:Array Oper)(base:Nat)(fz:List Nat)(i:Nat)(o:Oper)(F:Nat->AV)(H:AH):Option ((Nat->AV)×AH×Option Wo):=
 match Y2 ops o F with
 |none=>Ub
 |some false=>if YW E o.dst=Uc then Ua (Jb F o.dst Zcg,H,Ub) else Ub
 |some true=>if YW E o.dst=Uc then((Je E (base+i*E.stp) o.op o.type (Zz F)).run H []).bind λr=>
   if J7 (r.1.2.map Vo) fz=Uc then Ua (Jb F o.dst r.1.1,Zs H r.1.2,Ua ⟨i,r.2,r.1.2.map Vo⟩) else Ub else Ub
theorem ZoG{F:Nat->AV}{g:Nat}{v:AV}(h:F g=v):XK F g v=F:=by
 funext k;unfold XK
 cases b:Vw k g with
 |true=>simp_all
 |false=>rfl
section
variable {E:Z9}{ops:Array Oper}{base:Nat}{fz:List Nat}
theorem Zqo{ρ:Type}{o:Oper}{i:Nat}{rest:List (Oper×Nat)}{F:Nat->AV}{H:AH}{l:List Wo}{k:(Nat->AV)->AH->List Wo->Option ρ}{r:ρ}(h:YP E ops base fz ρ ((o,i)::rest) F H l k=Ua r):
 ∃d H1 t,XA E ops base fz i o F H=Ua (d,H1,t)/\YP E ops base fz ρ rest d H1 (t.toList++l) k=Ua r:=by
 have go:Y2 ops o F=Ua Uc->(bif YW E o.dst then
  (Je E (base+i*E.stp) o.op o.type (Zz F)).runK H [] λr rd=>
    bif J7 (r.2.map Vo) fz then
     YP E ops base fz ρ rest (Jb F o.dst r.1) (Zs H r.2) (⟨i,rd,r.2.map Vo⟩::l) k else Ub else Ub)=Ua r->
  ∃d H1 t,XA E ops base fz i o F H=Ua (d,H1,t)/\YP E ops base fz ρ rest d H1 (t.toList++l) k=Ua r:=by
  intro n h
  cases m:YW E o.dst with
  |false=>grind
  |true=>
   rw[m]at h;simp only[Zd,Zy.runK_eq]at h
   cases q:(Je E (base+i*E.stp) o.op o.type (Zz F)).run H [] with
   |none=>grind
   |some y=>
    rw[q]at h;simp only[Za]at h
    cases p:J7 (y.1.2.map Vo) fz with
    |false=>grind
    |true=>
     rw[p]at h;exact⟨Jb F o.dst y.1.1,Zs H y.1.2,Ua ⟨i,y.2,y.1.2.map Vo⟩,by simp [XA,n,m,q,p],by grind⟩
 have skip:Y2 ops o F=Ua Ud->(bif YW E o.dst then YP E ops base fz ρ rest (Jb F o.dst Zcg) H l k else Ub)=Ua r->
  ∃d H1 t,XA E ops base fz i o F H=Ua (d,H1,t)/\YP E ops base fz ρ rest d H1 (t.toList++l) k=Ua r:=by
  intro n h
  cases m:YW E o.dst with
  |false=>grind
  |true=>
   rw[m]at h;exact⟨Jb F o.dst Zcg,H,Ub,by simp [XA,n,m],by grind⟩
 simp only[YP]at h
 cases f:o.guard with
 |none=>
  rw[f]at h
  exact go (by simp [Y2,f]) h
 |some s=>
  obtain⟨j,want⟩:=s;rw[f]at h;simp only at h;split at h
  ·grind
  ·rename_i g c;split at h
   ·rename_i b e
    cases b with
    |true=>
     rw[ZoG e]at h;simp only[Zd]at h
     cases want with
     |true=>exact go (by simp [Y2,f,c,e]) h
     |false=>exact skip (by simp [Y2,f,c,e]) h
    |false=>
     rw[ZoG e]at h;simp only[Ze]at h
     cases want with
     |true=>exact skip (by simp [Y2,f,c,e]) h
     |false=>exact go (by simp [Y2,f,c,e]) h
   ·rename_i e;exact skip (by simp [Y2,f,c,e]) h
   grind
inductive AE (E:Z9) (ops:Array Oper) (base:Nat) (fz:List Nat):List (Oper×Nat)->(Nat->AV)->AH->List Wo->(Nat->AV)->AH->List Wo->Prop
 |nil {F H tr}:AE E ops base fz [] F H tr F H tr
 |cons {o i rest F H tr F1 H1 t F' H' tr'} (h:XA E ops base fz i o F H=Ua (F1,H1,t)) (h' :AE E ops base fz rest F1 H1 (t.toList++tr) F' H' tr'):AE E ops base fz ((o,i)::rest) F H tr F' H' tr'
theorem Zec{ρ:Type}:∀{l:List (Oper×Nat)}{F:Nat->AV}{H:AH}{c:List Wo}{k:(Nat->AV)->AH->List Wo->Option ρ}{r:ρ},YP E ops base fz ρ l F H c k=Ua r->∃d H' b,AE E ops base fz l F H c d H' b/\k d H' b=Ua r
 |[],F,H,c,k,r,h=>⟨F,H,c,.nil,by assumption⟩
 |(o,i)::rest,F,H,c,k,r,h=>by obtain⟨n,H1,t,e,f⟩:=Zqo h;obtain⟨d,H',b,j,m⟩:=Zec f;exact⟨d,H',b,.cons e j,m⟩
inductive Y8 (E:Z9) (ops:Array Oper) (base:Nat) (fz:List Nat) (T:Nat->Option Wo):List Nat->(Nat->AV)->AH->(Nat->AV)->AH->Prop
 |nil {F H}:Y8 E ops base fz T [] F H F H
 |cons {o i rest F H F1 H1 F' H'} (ho:ops[i]? =Ua o) (h:XA E ops base fz i o F H=Ua (F1,H1,T i)) (h' :Y8 E ops base fz T rest F1 H1 F' H'):Y8 E ops base fz T (i::rest) F H F' H'
theorem ZgO{i:Nat}{o:Oper}{F b:Nat->AV}{H H1:AH}{t:Wo}(h:XA E ops base fz i o F H=Ua (b,H1,Ua t)):t.i=i:=by
 unfold XA at h;split at h
 ·grind
 ·grind
 ·split at h
  ·cases c:(Je E (base+i*E.stp) o.op o.type (Zz F)).run H [] with
   |none=>grind
   |some y=>
    grind
  grind
theorem Zow{i:Nat}{t:Option Wo}{b:List Wo}(h:∀u∈t,u.i≠i):YA i (t.toList++b)=YA i b:=by
 cases t with
 |none=>rfl
 |some u=>
  have:Vw u.i i=false:=by
   cases c:Vw u.i i
   all_goals simp_all
  simp [YA,this]
theorem AE.other:∀{l:List (Oper×Nat)}{F:Nat->AV}{H:AH}{c:List Wo}{d:Nat->AV}{H' :AH}{b:List Wo},AE E ops base fz l F H c d H' b->∀i,(∀p∈l,p.2≠i)->YA i b=YA i c:=by
 intro l F H c d H' b h
 induction h with
 |nil=>simp
 |cons h j f=>
  intro i k;rw[f i (by grind)];refine Zow λu e=>?_;simp only[Vrb]at e;subst e;rw[ZgO h];simp_all
theorem AE.ex:∀{l:List (Oper×Nat)}{F:Nat->AV}{H:AH}{d:List Wo}{c:Nat->AV}{H' :AH}{b:List Wo},AE E ops base fz l F H d c H' b->(l.map Prod.snd).Nodup->(∀p∈l,ops[p.2]? =Ua p.1)->(∀p∈l,YA p.2 d=Ub)->
 Y8 E ops base fz (λi=>YA i b) (l.map Prod.snd) F H c H' :=by
 intro l F H d c H' b h
 induction h with
 |nil=>intros;exact .nil
 | @cons o i rest F H d q H1 t c H' b h j n=>
   intro e k s;simp only[Vub,Vl]at e;have m:YA i b=t:=by
    rw[j.other i (by grind)]
    cases t with
    |none=>simp_all
    |some u=>simp [YA,ZgO h]
   refine .cons (k _ (List.mem_cons_self ..)) (by grind) (n e.2 (by grind) λp r=>?_);rw[Zow λu f=>?_]
   ·grind
   ·simp only[Vrb]at f;subst f;rw[ZgO h];grind
theorem Ri{F:Nat->AV}{d:Option Nat}{v:AV}{k:Nat}(h:∀e,d=Ua e->k≠e):Jb F d v k=F k:=by
 cases d with
 |none=>rfl
 |some e=>
  have:Vw k e=false:=by
   cases b:Vw k e
   all_goals simp_all
  simp [Jb,XK,this]
theorem Zvx{F:Nat->AV}{d e:Option Nat}{v u:AV}(h:∀x,d=Ua x->e≠Ua x):Jb (Jb F d v) e u=Jb (Jb F e u) d v:=by
 funext k;by_cases i:∃x,d=Ua x/\k=x
 ·obtain⟨x,rfl,rfl⟩:=i;have f:∀y,e=Ua y->k≠y:=by grind
  rw[Ri f];simp [Jb,XK]
 ·have b:∀x,d=Ua x->k≠x:=by grind
  rw[Ri b];by_cases f:∃y,e=Ua y/\k=y
  ·obtain⟨y,rfl,rfl⟩:=f;simp [Jb,XK]
  ·have c:∀x,e=Ua x->k≠x:=by grind
   rw[Ri c,Ri c,Ri b]
theorem Zm1:∀{l m:KF}{H:AH},(∀p∈l,∀q∈m,p.1≠q.1)->Zs (Zs H l) m=Zs (Zs H m) l
 |[],m,H,_=>rfl
 |p::l,m,H,h=>by simp only[Zs];rw[Zm1 (by grind),Zfz (by grind)]
structure Stp (E:Z9) (ops:Array Oper) (i:Nat) (o:Oper) (F:Nat->AV) (H:AH) (F1:Nat->AV) (H1:AH) (t:Option Wo) (v:AV) (pa:KF):Prop where
 dst:YW E o.dst=Uc
 F:F1=Jb F o.dst v
 H:H1=Zs H pa
 wr:∀p∈pa,∃u,t=Ua u/\p.1∈u.wr
theorem Zef{i:Nat}{o:Oper}{F s:Nat->AV}{H H1:AH}{t:Option Wo}(h:XA E ops base fz i o F H=Ua (s,H1,t)):
 ∃v pa,Stp E ops i o F H s H1 t v pa/\∀b H0,(∀k∈Di ops o,b k=F k)->(∀u,t=Ua u->∀id∈u.rd,H0 id=H id)->XA E ops base fz i o b H0=Ua (Jb b o.dst v,Zs H0 pa,t):=by
 have f:∀b:Nat->AV,(∀k∈Di ops o,b k=F k)->Y2 ops o b=Y2 ops o F:=by
  intro b c;unfold Y2
  cases D:o.guard with
  |none=>rfl
  |some L=>
   obtain⟨j,want⟩:=L;simp only
   cases p:(ops[j]?).bind (·.dst) with
   |none=>rfl
   |some g=>simp only;rw[c g (by simp [Di,D,p])]
 have n:∀b:Nat->AV,(∀k∈Di ops o,b k=F k)->Je E (base+i*E.stp) o.op o.type (Zz b)=Je E (base+i*E.stp) o.op o.type (Zz F):=by intro b c;refine ZpZ o.op λx K=>ZpA (l:=o.op.operands.toList) (λt J=>c t (by simp [Di,J])) x (Vt.2 K)
 unfold XA at h;split at h
 ·grind
 ·rename_i r;split at h
  ·rename_i d;simp only[ZL,Va]at h;obtain⟨rfl,rfl,rfl⟩:=h;exact⟨Zcg,[],⟨d,rfl,rfl,by simp⟩,λb H0 c _=>by simp [XA,f b c,r,d,Zs]⟩
  grind
 ·rename_i r;split at h
  ·rename_i d
   cases A:(Je E (base+i*E.stp) o.op o.type (Zz F)).run H [] with
   |none=>grind
   |some y=>
    obtain⟨⟨v,pa⟩,rd⟩:=y;rw[A]at h;simp only[Za]at h;split at h
    ·rename_i G;simp only[ZL,Va]at h;obtain⟨rfl,rfl,rfl⟩:=h;refine⟨v,pa,⟨d,rfl,rfl,by grind⟩,λb H0 c C=>?_⟩;obtain⟨m,z,e⟩:=Zy.run_local (H' :=H0) _ _ _ _ A;simp only[Vta]at z;have:=e λid q=>C _ rfl id (by rw[z];exact q);simp [XA,f b c,r,d,n b c,this,G]
    grind
  grind
def Zgo(ops:Array Oper)(T:Nat->Option Wo)(i j:Nat):Prop:=
 ∀a b,ops[i]? =Ua a->ops[j]? =Ua b->ZfO ops a b=Uc/\∀u v,T i=Ua u->T j=Ua v->J7 u.wr v.rd=Uc/\J7 u.wr v.wr=Uc/\J7 v.wr u.rd=Uc
theorem Zwz{a b:Oper}(h:ZfO ops a b=Uc):(∀d,a.dst=Ua d->d ∉ Di ops b/\b.dst≠Ua d)/\∀d,b.dst=Ua d->d ∉ Di ops a:=by
 unfold ZfO at h;simp only[Vb]at h;refine⟨λd f=>?_,λd f=>?_⟩
 ·have c:=h.1;rw[f]at c;simp only[Vb,Vy]at c;refine⟨λi=>?_,λj=>?_⟩
  ·rw[JQ.2 i]at c;grind
  simp_all
 ·have e:=h.2;rw[f]at e;simp only[Vy]at e;intro i;rw[JQ.2 i]at e;grind
theorem Y8.swap{T:Nat->Option Wo}{i j:Nat}{l:List Nat}{F N:Nat->AV}{H H' :AH}(h:Y8 E ops base fz T (i::j::l) F H N H')(hi:Zgo ops T i j):Y8 E ops base fz T (j::i::l) F H N H' :=by
 cases h with
 | @cons K _ _ _ _ Q H1 _ _ d h1 Z=>
   cases Z with
   | @cons n _ _ _ _ R S _ _ f h2 s=>
     obtain⟨hs,ht⟩:=hi K n d f;obtain⟨a0,a3⟩:=Zwz hs;obtain⟨v1,p1,c,V⟩:=Zef h1;obtain⟨M,L,r,W⟩:=Zef h2;have t:∀k∈Di ops n,F k=Q k:=λk hk=>by rw[c.F,Ri (by grind)]
     have y:∀u,T j=Ua u->∀id∈u.rd,H id=H1 id:=λu hu id b=>by rw[c.H,Zds λp m e=>?_];obtain⟨u1,A,D⟩:=c.wr p m;exact RQ.1 (by grind) _ D (e▸b)
     have U:=W F H t y;have x:∀k∈Di ops K,Jb F n.dst M k=F k:=λk hk=>Ri (by grind);have z:∀u,T i=Ua u->∀id∈u.rd,Zs H L id=H id:=λu hu id b=>Zds λp m e=>by obtain⟨u2,C,D⟩:=r.wr p m;exact RQ.1 (by grind) _ D (e▸b)
     have O:=V (Jb F n.dst M) (Zs H L) x z;have X:Jb (Jb F n.dst M) K.dst v1=R:=by rw[r.F,c.F,Zvx (by grind)]
     have Y:Zs (Zs H L) p1=S:=by rw[r.H,c.H];refine Zm1 λp m q hq e=>?_;obtain⟨u2,C,J⟩:=r.wr p m;obtain⟨u1,A,G⟩:=c.wr q hq;exact RQ.1 (by grind) _ G (e▸J)
     rw[X,Y]at O;exact .cons f U (.cons d O s)
theorem Y8.front{T:Nat->Option Wo}{i:Nat}{l:List Nat}{b:Nat->AV}{H' :AH}:∀{pre:List Nat}{F:Nat->AV}{H:AH},Y8 E ops base fz T (pre++i::l) F H b H' ->(∀j∈pre,Zgo ops T j i)->Y8 E ops base fz T (i::(pre++l)) F H b H'
 |[],_,_,h,_=>h
 |j::pre,F,H,h,f=>by
  cases h with
  |cons e d c=>exact(Y8.cons e d (Y8.front c (by grind))).swap (by grind)
end
end Tr
end
section
namespace Tr
open Go
theorem Kq.trans{w w1 d:World}{I J:Nat->Prop}(e:Kq I w w1)(f:Kq J w1 d)(h:∀b,I b->J b):Kq I w d:=λb c=>(f b (h b c)).trans (e b c)
theorem ZiE{a:Act}{d:Option Nat}{v:Value}{t:Nat}(h:∀e,d=Ua e->t≠e):(a.put d v).tmps.getD t undef=a.tmps.getD t undef:=by
 cases d with
 |none=>rfl
 |some e=>simp [Act.put,Array.getElem?_setIfInBounds_ne (Ne.symm (h e rfl))]
theorem Zvy{a:Act}{d:Nat}{v:Value}(h:d<a.tmps.size):(a.put (Ua d) v).tmps.getD d undef=v:=by simp [Act.put,h]
theorem ZiF{a:Act}{d:Option Nat}{v:Value}:(a.put d v).tmps.size=a.tmps.size:=by cases d<;>simp [Act.put]
theorem ZiD{a:Act}{d:Option Nat}{v:Value}:(a.put d v).defers=a.defers:=by cases d<;>rfl
theorem Zfs{E:Z9}{d:Nat}(h:YW E (Ua d)=Uc):d<E.nt/\d ∉ E.ks:=by simp [YW,Vb]at h;refine⟨by simp_all,λb=>?_⟩;rw[JQ.2 b]at h;grind
theorem Fr.put{w:World}{g:Gh}{F:Nat->AV}{a:Act}{d:Option Nat}{v:AV}{val:Value}(h:Fr w g F a.tmps)(i:VR w g v val)(c:∀e,d=Ua e->e<a.tmps.size):Fr w g (Jb F d v) (a.put d val).tmps:=by
 intro t;by_cases f:d=Ua t
 ·subst f;rw[Zvy (c t rfl)];simpa [Jb,XK] using i
 ·have b:∀e,d=Ua e->t≠e:=by grind
  rw[Ri b,ZiE b];exact h t
section
variable {P:Program}{E:Z9}{B:Z1}{ops:Array Oper}{base:Nat}{fz:List Nat}
theorem Zjj{w:World}{g:Gh}{F:Nat->AV}{a:Act}{o:Oper}{b:Bool}(hF:Fr w g F a.tmps)(h:Y2 ops o F=Ua b):Region.wanted o (yielded ops a.tmps)=b:=by
 unfold Y2 at h;unfold Region.wanted
 cases l:o.guard with
 |none=>grind
 |some n=>
  obtain⟨j,want⟩:=n;rw[l]at h;simp at h⊢
  cases c:(ops[j]?).bind (·.dst) with
  |none=>grind
  |some d=>
   rw[c]at h;simp at h;have e:=hF d;split at h
   ·rename_i x f;rw[f]at e;have e:=e.bool;have k:a.tmps[d]? =Ua (.bool x):=by
     cases i:a.tmps[d]? with
     |none=>simp [i,undef]at e
     |some u=>simp_all
    simp [yielded,c,k];simp_all
   ·rename_i f;rw[f]at e;obtain⟨vs,e,m⟩:=e;have k:yielded ops a.tmps j=none:=by
     simp [yielded,c,Za]
     cases i:a.tmps[d]? with
     |none=>rfl
     |some u=>simp_all
    grind
   grind
theorem ZqA(J:Z4 P E)(G:JI P E B){i:Nat}{o:Oper}{F q:Nat->AV}{H H1:AH}{t:Option Wo}{w:World}{g:Gh}{ow:Nat->Nat->Prop}{a:Act}(L:ops[i]? =Ua o)
 (h:XA E ops base fz i o F H=Ua (q,H1,t)) (x:RH B H w g ow) (hF:Fr w g F a.tmps) (c:a.tmps.size=E.nt) (M:∀id,g.K id->id<base+i*E.stp\/base+i*E.stp+E.stp<=id) {K:Act->World->Prop}{Q:Exit->Act->World->Prop}
 (u:∀j w' f d,RH B H1 w' f d->Fr w' f q j.tmps->j.tmps.size=E.nt->j.defers=a.defers->g.Le f->Kq g.I w w' ->(∀id,f.K id->g.K id\/(base+i*E.stp<=id/\id<base+i*E.stp+E.stp))->
   (∀t∈E.ks,j.tmps.getD t undef=a.tmps.getD t undef)->K j w'):wpOp P ops Q i K a w:=by
 unfold wpOp;rw[L];simp;have k:∀v,YW E o.dst=Uc->∀t∈E.ks,(a.put o.dst v).tmps.getD t undef=a.tmps.getD t undef:=λv b t N=>ZiE λe m n=>by rw[m]at b;exact(Zfs b).2 (n▸N)
 have l:YW E o.dst=Uc->∀e,o.dst=Ua e->e<a.tmps.size:=λb e m=>by rw[m]at b;rw[c];exact(Zfs b).1
 unfold XA at h;split at h
 ·grind
 ·rename_i p;split at h
  ·rename_i b;obtain⟨rfl,rfl,rfl⟩:=h;rw[Zjj hF p];exact u _ w g ow x (hF.put ⟨[],rfl,rfl⟩ (l b)) (ZiF.trans c) ZiD (.refl g) (λ_ _=>rfl) (by grind) (k _ b)
  grind
 ·rename_i p;split at h
  ·rename_i b
   cases z:(Je E (base+i*E.stp) o.op o.type (Zz F)).run H [] with
   |none=>grind
   |some y=>
    rw[z]at h;simp only[Za]at h;split at h
    ·obtain⟨rfl,rfl,rfl⟩:=h;rw[Zjj hF p];refine .inl (Zqg J G x hF M z _ _ λval w' f d A r s C D=>?_);exact u _ w' f d A ((hF.mono s r).put C (l b)) (ZiF.trans c) ZiD r s D (k _ b)
    grind
  grind
theorem Zv2{b s i j id:Nat}(c:j≠i)(d:b+j*s<=id)(e:id<b+j*s+s):id<b+i*s\/b+i*s+s<=id:=by
 rcases Nat.lt_or_ge j i with h|h
 ·left;have:=Vu s (h);rw[Vpa]at this;omega
 ·right;have:=Vu s (show i+1<=j by omega);rw[Vpa]at this;omega
theorem ZiO{b s n j id:Nat}(h:j<n)(c:id<b+j*s+s):id<b+n*s:=by have:=Vu s (Vib h);rw[Vpa]at this;omega
structure RI (E:Z9) (B:Z1) (base:Nat) (U:Nat->Prop) (F:Nat->AV) (H:AH) (w:World) (a:Act) (g:Gh) (ow:Nat->Nat->Prop) (L:Nat->Prop):Prop where
 rh:RH B H w g ow
 fr:Fr w g F a.tmps
 nt:a.tmps.size=E.nt
 df:a.defers=[]
 ids:∀id,g.K id->(id<base\/U id)\/∃j,L j/\base+j*E.stp<=id/\id<base+j*E.stp+E.stp
structure Lk (E:Z9) (w:World) (g:Gh) (a:Act) (w' :World) (g' :Gh) (a' :Act):Prop where
 le:g.Le g'
 ag:Kq g.I w w'
 ks:∀t∈E.ks,a'.tmps.getD t undef=a.tmps.getD t undef
theorem Lk.refl(w:World)(g:Gh)(a:Act):Lk E w g a w g a:=⟨.refl g,λ_ _=>rfl,by simp⟩
theorem Lk.trans{w w1 i:World}{g d e:Gh}{a b c:Act}(h:Lk E w g a w1 d b)(k:Lk E w1 d b i e c):Lk E w g a i e c:=
 ⟨h.le.trans k.le,h.ag.trans k.ag h.le.I,λt f=>(k.ks t f).trans (h.ks t f)⟩
structure Lb (E:Z9) (b t:Nat) (w:World) (g:Gh) (a:Act) (w' :World) (g' :Gh) (a' :Act):Prop extends Lk E w g a w' g' a' where
 nw:∀id,g'.K id->g.K id\/(b<=id/\id<t)
theorem Lb.refl{b t:Nat}(w:World)(g:Gh)(a:Act):Lb E b t w g a w g a:=⟨.refl w g a,λ_ h=>.inl h⟩
theorem Lb.trans{b t:Nat}{w w1 j:World}{g f i:Gh}{a d e:Act}(h:Lb E b t w g a w1 f d)(k:Lb E b t w1 f d j i e):Lb E b t w g a j i e:=
 ⟨h.toLk.trans k.toLk,λid c=>(k.nw id c).elim (h.nw id) .inr⟩
theorem RI.step(O:Z4 P E)(N:JI P E B){i:Nat}{o:Oper}{F y:Nat->AV}{H H1:AH}{t:Option Wo}{w:World}{g:Gh}{ow:Nat->Nat->Prop}{a:Act}{L U:Nat->Prop}(A:ops[i]? =Ua o)
 (h:XA E ops base fz i o F H=Ua (y,H1,t)) (e:RI E B base U F H w a g ow L) (R:∀id,U id->base+ops.size*E.stp<=id) (hL:¬L i) {K:Act->World->Prop}{Q:Exit->Act->World->Prop}
 (M:∀f w' n d,RI E B base U y H1 w' f n d (λj=>j=i\/L j)->Lb E base (base+ops.size*E.stp) w g a w' n f->K f w'):wpOp P ops Q i K a w:=by
 have m:i<ops.size:=(Array.getElem?_eq_some_iff.1 A).1;refine ZqA O N A h e.rh e.fr e.nt (λid b=>?_) λf w' n d k l s C D G z J=>M f w' n d ⟨k,l,s,C.trans e.df,λid b=>?_⟩ ⟨⟨D,G,J⟩,λid b=>(z id b).imp (λh=>h) λh=>⟨by omega,ZiO m h.2⟩⟩
 ·rcases e.ids id b with (k|k) |⟨j,k,l,s⟩
  ·omega
  ·have:=R id k;have l:=Vu E.stp (Vib m);rw[Vpa]at l;omega
  ·have x:j≠i:=by grind
   exact Zv2 x l s
 ·rcases z id b with u|⟨u,p⟩
  ·rcases e.ids id u with c|⟨j,c,q,r⟩
   ·exact .inl c
   ·exact .inr ⟨j,.inr c,q,r⟩
  ·exact .inr ⟨i,.inl rfl,u,p⟩
theorem Zjm(y:Z4 P E)(x:JI P E B){T:Nat->Option Wo}{Q:Exit->Act->World->Prop}{r:Nat->AV}{H' :AH}:∀{l:List Nat}{F:Nat->AV}{H:AH}{w:World}{g:Gh}{ow:Nat->Nat->Prop}{a:Act}{L U:Nat->Prop},
 Y8 E ops base fz T l F H r H' ->l.Nodup->(∀i∈l,¬L i)->(∀id,U id->base+ops.size*E.stp<=id)->RI E B base U F H w a g ow L->(∀c w' s p,RI E B base U r H' w' c s p (λj=>j∈l\/L j)->Lb E base (base+ops.size*E.stp) w g a w' s c->Q .normal c w')->wpOps P ops Q l a w
 |[],F,H,w,g,ow,a,L,U,h,_,_,_,u,e=>by
  cases h with
  |nil=>exact e a w g ow (by simp_all) (.refl w g a)
 |i::l,F,H,w,g,ow,a,L,U,h,J,hL,z,u,e=>by
  cases h with
  |cons M t D=>
   have ⟨K,n⟩:=Vl.1 J;refine u.step y x M t z (hL i (by simp)) λR W S N d k=>Zjm y x D n (λj V=>?_) z d λA O C q b m=>e A O C q ⟨b.rh,b.fr,b.nt,b.df,λid f=>?_⟩ (k.trans m)
   ·grind
   ·refine(b.ids id f).imp (λh=>h) λ⟨j,t,G⟩=>⟨j,?_,G⟩;grind
theorem Zkd:∀(l:List Oper) (acc:Array Nat),let r:=l.foldl (λacc o=>acc.push (o.after.foldl (λs e=>if Region.binds .any e then s ||| 2 ^ e.on ||| acc.getD e.on 0 else s) 0)) acc
 r.size=acc.size+l.length/\(∀k,k<acc.size->r.getD k 0=acc.getD k 0)/\
 ∀k o,l[k]? =Ua o->∀j,(r.getD (acc.size+k) 0).testBit j=Uc->∃e∈o.after,Region.binds .any e=Uc/\(e.on=j\/(e.on<acc.size+k/\(r.getD e.on 0).testBit j=Uc))
 |[],acc=>by simp
 |o::l,acc=>by
  intro r;have f:=Zkd l (acc.push (o.after.foldl (λs e=>if Region.binds .any e then s ||| 2 ^ e.on ||| acc.getD e.on 0 else s) 0));simp only[Array.size_push]at f;have ⟨x,i,y⟩:=f;refine⟨by grind,λk t=>?_,λk z m j d=>?_⟩
  ·rw[show r.getD k 0=_ from i k (by omega)];simp [Vab,Nat.ne_of_lt t]
  ·cases k with
   |zero=>
    simp [List.getElem?_cons_zero]at m;rw[Vhb,show r.getD acc.size 0=_ from i acc.size (by omega)]at d;have q:∀X:Nat,(acc.push X).getD acc.size 0=X:=by simp
    rw[q]at d;have key:∀(es:List Edge) (s:Nat),(es.foldl (λs e=>if Region.binds .any e then s ||| 2 ^ e.on ||| acc.getD e.on 0 else s) s).testBit j=Uc->s.testBit j=Uc\/∃e∈es,Region.binds .any e=Uc/\(e.on=j\/(acc.getD e.on 0).testBit j=Uc):=by
     intro es
     induction es with
     |nil=>simp
     |cons e es f=>
      intro s h;rcases f _ h with h|⟨u,p,n⟩
      all_goals grind
    rw[<-Veb]at d;rcases key _ _ d with h|⟨e,p,n,c⟩
    ·grind
    ·refine⟨e,by grind,n,?_⟩;rcases c with c|c
     ·omega
     ·right;have b:e.on<acc.size:=by grind
      refine⟨b,?_⟩;rw[show r.getD e.on 0=_ from i e.on (by omega)]
      simpa [Vab,Nat.ne_of_lt b] using c
   |succ k=>
    grind
theorem ZqH{i:Nat}{o:Oper}(b:ops[i]? =Ua o){j:Nat}(h:((Region.before ops).getD i 0).testBit j=Uc):∃e∈o.after,Region.binds .any e=Uc/\(e.on=j\/(e.on<i/\((Region.before ops).getD e.on 0).testBit j=Uc)):=by have key:=Zkd ops.toList #[];simp only[Veb]at key;have:=key.2.2 i o (by simpa using b) j;simp only[Vz,Vlb,Vgb]at this;exact this h
theorem ZqG{b:Array Bool}(f:∀i o,ops[i]? =Ua o->b.getD i Ud=Uc->∀e∈o.after,Region.binds .any e=Uc->b.getD e.on Ud=Uc)(h:∀i,b.getD i Ud=Uc->∃o,ops[i]? =Ua o){j:Nat}:
 ∀n i,i<n->∀o,ops[i]? =Ua o->(∀e∈o.after,Region.binds .any e=Uc->b.getD e.on Ud=Uc)->((Region.before ops).getD i 0).testBit j=Uc->b.getD j Ud=true:=by
 intro n
 induction n with
 |zero=>omega
 |succ n r=>
  intro i q o k c d;have ⟨e,l,m,p⟩:=ZqH k d;grind
theorem ZxC(hT:Z4 P E)(hS:JI P E B){T:Nat->Option Wo}{Q:Exit->Act->World->Prop}{F' :Nat->AV}{H' :AH}(q:Zhy ops=Uc)
 (z:∀i j,i<j->j<ops.size->((Region.before ops).getD j 0).testBit i=Ud->Zgo ops T i j):∀(n:Nat) {l:List Nat}{b:Array Bool}{F:Nat->AV}{H:AH}{w:World}{g:Gh}{ow:Nat->Nat->Prop}{a:Act}{L U:Nat->Prop},
 Y8 E ops base fz T l F H F' H' ->l.length=n->l.Pairwise (· < ·)->b.size=ops.size->(∀i,i<ops.size->(i∈l↔b.getD i Uc=Ud))->(∀i∈l,i<ops.size)->
 (∀i o,ops[i]? =Ua o->b.getD i Ud=Uc->∀e∈o.after,Region.binds .any e=Uc->b.getD e.on Ud=Uc)->(∀i∈l,¬L i)->(∀id,U id->base+ops.size*E.stp<=id)->RI E B base U F H w a g ow L->
 (∀D w' g' a3,RI E B base U F' H' w' D g' a3 (λj=>j∈l\/L j)->Lb E base (base+ops.size*E.stp) w g a w' g' D->Q .normal D w')->wpAny P .any ops Q n b a w:=by
 have r:∀i o,ops[i]? =Ua o->∀e∈o.after,Region.binds .any e=Uc->e.on<i:=by
  intro i o ho e C x;unfold Zhy at q;rw[List.all_eq_true]at q;have:=q (o,i) (by grind)
  rw[Array.all_eq_true_iff_forall_mem]at this;have:=this e C;simp_all
 intro n
 induction n with
 |zero=>
  intro l b F H w g ow a L U h hn Z a0 X W y hL K hI J;obtain rfl:=Vna.1 hn
  cases h with
  |nil=>
   refine⟨?_,J a w g ow (by simp_all) (.refl w g a)⟩;rw[List.eq_nil_iff_forall_not_mem];intro j s;rw[mem_ready]at s
   grind
 |succ n ih=>
  intro l b F H w g ow a L U h hn Z a0 X W y hL K hI J;have f:∀i,i<ops.size->i ∉ l->b.getD i Ud=true:=by grind
  have V:∀i,b.getD i Ud=Uc->∃o,ops[i]? =Ua o:=by
   intro i N;have:i<b.size:=by grind
   simp_all
  refine⟨λa6=>?_,λi N=>?_⟩
  ·exfalso
   cases l with
   |nil=>grind
   |cons i l=>
    have d:i<ops.size:=by simp [*]
    have:i∈Region.ready .any ops b:=by
     rw[mem_ready];refine⟨by grind,_,Vma d,λe C x=>?_⟩;have a5:=r i _ (Vma d) e C x;refine f e.on (by omega) λk=>?_;rcases Vk.1 k with t|t
     ·omega
     ·have:=(List.pairwise_cons.1 Z).1 _ t;omega
    grind
  ·rw[mem_ready]at N;obtain⟨h0,o,ho,u⟩:=N;have d:i<ops.size:=by grind
   have k:=(X i d).2 h0;obtain⟨pre,post,rfl⟩:=List.append_of_mem k;have A:∀j∈pre,j<i:=by grind
   have m:=h.front λj s=>by
    refine z j i (A j s) d ?_
    cases x:((Region.before ops).getD i 0).testBit j with
    |false=>rfl
    |true=>
     have a7:=ZqG y V (i+1) i (Nat.lt_succ_self i) o ho u x;grind
   cases m with
   |cons Y t h' =>
    have a8:(pre++i::post).Nodup:=Z.imp (by omega);have M:∀j,j∈pre++post->j∈pre++i::post:=by grind
    have a9:i ∉ pre++post:=by grind
    refine hI.step hT hS Y t K (hL i (by simp)) λa1 w1 g1 b1 G R=>ih h' (by grind) ?_ (by grind) ?_ (by grind) ?_ ?_ K G ?_
    ·grind
    ·intro j s;by_cases p:j=i
     ·simp [*]
     ·rw[getD_set_ne Uc (Ne.symm p),<-X j s];grind
    ·intro j o' b0 s e C x;by_cases p:j=i
     ·subst p;exact getD_set_true (by grind)
     ·rw[getD_set_ne Ud (Ne.symm p)]at s;exact getD_set_true (by grind)
    ·grind
    ·intro a2 w2 g2 a4 c S;refine J a2 w2 g2 a4 ⟨c.rh,c.fr,c.nt,c.df,λid O=>(c.ids id O).imp (λh=>h) λ⟨j,t,h2⟩=>⟨j,?_,h2⟩⟩ (R.trans S);grind
end
end Tr
end
