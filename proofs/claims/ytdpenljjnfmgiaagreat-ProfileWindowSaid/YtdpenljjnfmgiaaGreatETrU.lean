/- Injection: what a pattern reads becomes values and new objects of the abstract machine. Conditions: none. -/
import Derived.Lib.LaidTab
import Derived.Lib.ItoaMem
import Derived.LaidEql
import Derived.Test.YtdpenljjnfmgiaaGreatETrJ
open Array renaming length_toList ->Vp,mem_toList_iff ->Vu,getElem?_eq_getElem ->Vla,getElem?_toList ->Vta,getElem?_push ->Vab,foldl_toList ->Vgb,toList_inj ->Vlb
open Bool renaming and_eq_true ->Vc,or_eq_false_iff ->Vca,false_eq_true ->Vga,not_eq_true' ->Vka,not_eq_false' ->Vfb
open Go.Builtin renaming zeroCells ->Vs,clear_ ->Vz,firstCells ->Veb,append_ ->Vqb
open Go.Instr renaming sureAddr ->Vua,sliceAt ->Vwb
open List renaming nodup_append ->Ve,mem_singleton ->Vf,mem_append ->Vh,sublist_append_left ->Vl,length_append ->Vm,mem_cons ->Vn,length_take ->Vq,mem_map ->Vr,replicate ->Vt,getElem?_eq_some_iff ->Vw,nodup_cons ->Vx,size_toArray ->Vaa,take_append_drop ->Vba,getElem?_of_mem ->Vda,drop_append_of_le_length ->Vea,flatten_append ->Vfa,getElem?_map ->Vha,getElem?_append_left ->Via,map_cons ->Vja,length_drop ->Vma,all_eq_true ->Vna,length_eq_zero_iff ->Voa,sublist_cons_self ->Vqa,take_left' ->Vra,drop_left' ->Vsa,drop_drop ->Vva,mem_of_mem_take ->Vwa,mem_cons_of_mem ->Vxa,map_eq_nil_iff ->Vya,range ->Vbb,getElem?_drop ->Vcb,prefix_append ->Vdb,mem_filterMap ->Vhb,mem_flatten ->Vkb,nodup_range ->Vmb,mem_filter ->Vnb,length_nil ->Vob,append_nil ->Vpb,map_append ->Vsb,drop_left ->Vtb,mem_range ->Vub
open Nat renaming le_refl ->Vb,eq_of_beq_eq_true ->Vk,beq ->Vo,mul_le_mul_right ->Vv,succ_mul ->Vpa,blt ->Vza,add_zero ->Vib,succ_le_of_lt ->Vjb,min_eq_left ->Vrb
open Option renaming bind_eq_some_iff ->Vy,map ->Vac
open Prod renaming fst ->Vj,snd ->Vxb
open Prod.mk renaming injEq ->Va,inj ->Vzb
open Go.Result renaming andThen_ok ->Vd
open Go.Sem renaming run_bind ->Vg,run_pure ->Vi
open Go.Value renaming pointer ->Vvb
open Go.World renaming cell? ->Vyb
open Option renaming some ->Ua,none ->Ub
open Bool renaming true ->Uc,false ->Ud
open Decidable renaming decide ->Ue
section
namespace Tr
open Go
def Wl(l:V (Nat×Yh)):Wm:=l.map λo=>(o.1,Ua o.2)
theorem Zev{k}:∀{l}{H},(∀p∈l,p.1≠k)->Zu H l k=H k|[],_,_=>rfl|p::l,H,h=>by simp[Zu];rw[Zev (by grind),KB (by grind)]
theorem ZzG{H i k o u}(h:i≠k):ZX (ZX H i o) k u=ZX (ZX H k u) i o:=by
 funext j;by_cases b:j=i;.subst b;rw[KB h,XY,XY]
 by_cases c:j=k;.subst c;rw[XY,KB b,XY]
 rw[KB c,KB b,KB b,KB c]
theorem ZgI{k o}:∀{l}{H},(∀p∈l,p.1≠k)->Zu (ZX H k o) l=ZX (Zu H l) k o|[],_,_=>rfl|p::l,H,h=>by simp[Zu];rw[<-ZgI (by grind),ZzG (by grind)]
mutual
theorem Yz:∀(p:Pat) (x:WH p) (n:Nat),n<=(inj p x n).2.2/\∀o∈(inj p x n).2.1,n<=o.1/\o.1<(inj p x n).2.2
 |.pd _,_,n=>⟨Vb _,by simp[inj]⟩|.own _ _,_,n=>⟨by simp[inj],by simp[inj]⟩|.var t p,x,n=>by
  obtain⟨d,c⟩:=Yz p x (n+1);refine⟨by simp only[inj];omega,λo b=>?_⟩;simp only[inj,Vn]at b⊢;obtain rfl|b:=b;.exact⟨Vb _,by show n<_;omega⟩
  have:=c o b;omega|.ro _,_,_|.nilr,_,_|.nils,_,_|.any,_,_=>⟨Vb _,by simp[inj]⟩|.map _ _,_,_|.rows _ _,_,_|.mrows _ _,_,_|.it _ _,_,_|.fnd _ _ _ _,_,_|.owo _,_,_=>⟨by simp[inj],by simp[inj]⟩|.agg l,x,n|.fn _ l,x,n=>by simpa only[inj] using ZbH l x n
theorem ZbH:∀(l:Pats) (x:KX l) (n:Nat),n<=(Z5 l x n).2.2/\∀o∈(Z5 l x n).2.1,n<=o.1/\o.1<(Z5 l x n).2.2
 |.nil,_,n=>⟨Vb _,by simp[Z5]⟩|.cons p l,x,n=>by
  obtain⟨d,c⟩:=Yz p x.1 n;obtain⟨h,e⟩:=ZbH l x.2 (inj p x.1 n).2.2;refine⟨by simp only[Z5];omega,λo b=>?_⟩;simp only[Z5,Vh]at b⊢;obtain b|b:=b;.have:=c o b;omega
  have:=e o b;omega
end
mutual
theorem Zjm:∀(p:Pat) (t:Ty) (x:WH p) (n:Nat),p.fits t=Uc->(inj p x n).1.fits t=Uc
 |.pd b,t,x,n,h=>by simpa[inj,AV.fits,Pat.fits] using h|.own _ _,t,_,_,h|.var _ _,t,_,_,h|.ro _,t,_,_,h|.map _ _,t,_,_,h|.fn _ _,t,_,_,h|.nilr,t,_,_,h|.nils,t,_,_,h=>by cases t<;>simp[Pat.fits]at h;simp[inj,AV.fits]|.agg l,t,x,n,h=>by
  have:=Zny l t x n (by simpa only[Pat.fits] using h)
  simpa only[inj,AV.fits] using this|.rows b k,t,x,n,h=>by
  cases t with|sl t=>simp[inj,AV.fits]|_=>simp[Pat.fits]at h
 |.mrows _ _,t,_,_,h|.it _ _,t,_,_,h|.fnd _ _ _ _,t,_,_,h|.owo _,t,_,_,h=>by cases t<;>simp[Pat.fits]at h;simp[inj,AV.fits]|.any,t,_,_,h=>by simp[Pat.fits]at h
theorem Zny:∀(l:Pats) (t:Ty) (x:KX l) (n:Nat),l.fits t=Uc->(Z5 l x n).1.fits t=Uc
 |.nil,t,_,_,h=>by cases t<;>simp[Pats.fits]at h;simp[Z5,ZF.fits]|.cons p l,t,x,n,h=>by
  cases t<;>simp only[Pats.fits,Vc,Vga]at h;simp only[Z5,ZF.fits,Vc];exact⟨Zjm p _ x.1 n h.1,Zny l _ x.2 _ h.2⟩
end
structure W3 (B:KR) (H:AH) (w:X) (g:Gh) (ow:Nat->Nat->Prop) (js:V Nat):Prop where
 nodup:js.Nodup
 free:∀b∈js,¬g.I b/\b<w.heap.size/\(B.own0 b\/B.w0.heap.size<=b)/\∀id,H id≠Ub->¬ow id b
structure Gc (tk:V Nat) (g g' :Gh):Prop where
 I:g'.I=g.I
 ver:∀id,g.K id->id ∉ tk->g'.ver id=g.ver id
theorem Gc.refl tk g:Gc tk g g:=⟨rfl,by omega⟩
theorem Gc.weak{tk b g c}(h:Gc tk g c)(f:∀id∈tk,id∈b):Gc b g c:=⟨h.I,λid d e=>h.ver id d (by grind)⟩
theorem Gc.after{tk g b c}(e:Gc tk b c)(d:Gc tk g b)(i:g.Le b):Gc tk g c:=
 ⟨e.I.trans d.I,λid f h=>(e.ver id (i.K id f) h).trans (d.ver id f h)⟩
theorem Gc.add{g n}(c:¬g.K n) t b v r:Gc [] g (g.add n t b v r):=
 ⟨rfl,λid h _=>Zg (by grind)⟩
def Jl(B:KR)(H:AH)(w:X)(g:Gh)(ow:Nat->Nat->Prop)(js:V Nat)(n f:Nat)(e:AH)(C:Gh->Prop):Prop:=
 ∃c d,g.Le c/\Gc [] g c/\RH B e w c d/\C c/\(∀id,c.K id->g.K id\/(n<=id/\id<f))/\(∀id b,e id≠Ub->d id b->(H id≠Ub/\ow id b)\/b∈js)
section
variable {B:KR}{H:AH}{w:X}{g:Gh}{ow:Nat->Nat->Prop}
theorem Jl.none(c:RH B H w g ow){C} n(b:C g):Jl B H w g ow [] n n H C:=
 ⟨g,ow,.refl g,.refl [] g,c,b,by grind,by grind⟩
theorem Jl.one(l:RH B H w g ow){js n o t b v r C}(d:¬g.K n)(m:W3 B H w g ow js)
 (p:ORel w (g.add n t b v r) (· ∈js) n o) (j:C (g.add n t b v r)):Jl B H w g ow js n (n+1) (ZX H n (Ua o)) C:=by
 refine⟨g.add n t b v r,Xv ow n (· ∈js),Gh.le_add d t b v r,.add d t b v r,l.add d (by simp) (Vb _) rfl rfl ⟨rfl,Vb _⟩ (λk e=>m.free k e) p,j,λid h=>?_,λid q i f=>?_⟩
 .obtain rfl|h:=h;all_goals grind
 by_cases c:id=n;.subst c;rw[Xd]at f;grind
 rw[KB c]at i;rw[Je c]at f;grind
theorem W3.sub{js ks}(h:W3 B H w g ow js)(c:ks.Sublist js):W3 B H w g ow ks:=⟨h.nodup.sublist c,λb d=>h.free b (c.subset d)⟩
theorem W3.after{js ks}(h:W3 B H w g ow (js++ks)){e c d}(m:e.I=g.I)(p:∀id b,d id≠Ub->c id b->(H id≠Ub/\ow id b)\/b∈js):W3 B d w e c ks:=by have⟨q,f,r⟩:=Ve.1 h.nodup;refine⟨f,λb n=>?_⟩;have⟨i,j,k,l⟩:=h.free b (by grind);grind
mutual
theorem Zd8:∀(p:Pat) {H:AH}{g:Gh}{ow:Nat->Nat->Prop} (_:RH B H w g ow) (x:WH p) (js:V Nat) (cs:V Y) (n:Nat),PC w g.I p x js cs->W3 B H w g ow js->(∀id,n<=id->id<(inj p x n).2.2->¬g.K id)->
 Jl B H w g ow js n (inj p x n).2.2 (Zu H (Wl (inj p x n).2.1)) λS=>CV w S (inj p x n).1 cs
 |.pd t,H,g,ow,c,x,js,cs,n,h,_,_=>by
  obtain⟨rfl,h⟩:=h
  exact Jl.none c n (by simpa only[inj,CV] using h)|.own t k,H,g,ow,c,x,js,cs,n,h,d,i=>by
  obtain⟨rfl,rfl,rfl⟩|⟨b,cap,cells,e,css,rfl,rfl,m,s,D,h4,M⟩:=h
  .exact Jl.one (t:=t) (b:=Ub) (v:=.slice Ub 0 0) (r:=λ_ _=>.slice Ub 0 0) c (i n (Vb _) (by simp[inj])) d ⟨by simp[Gh.add],.inl ⟨rfl,by simp[Gh.add],by simp[Gh.add]⟩⟩
    (by simp only[inj,CV];exact⟨.inl rfl,by simp[Gh.add],by simp[Gh.add];rfl⟩)
  exact Jl.one (t:=t) (b:=Ua b) (v:=.slice (Ua ⟨b,0,Option.none⟩) x.length cap) (r:=λ_ _=>.slice Option.none 0 0) c (i n (Vb _) (by simp[inj])) d
   ⟨by simp[Gh.add],.inr ⟨b,cap,cells,e,css,by simp[Gh.add],by simp,by simp[Gh.add],m,s,D,h4,M⟩⟩
   (by simp only[inj,CV];exact⟨.inl rfl,by simp[Gh.add],by simp[Gh.add];rfl⟩)|.var t p,H,g,ow,c,x,js,cs,n,h,d,i=>by
  obtain⟨b1,b,b3,cells,e,rfl,rfl,m,s,D⟩:=h;have hn:=(Yz p x (n+1)).1;obtain⟨U,z,N,J,r1,R,k1,O⟩:=Zd8 p c x b3 cells.toList (n+1) D (d.sub (Vqa _ _)) (λid h h' =>i id (by omega) (by simpa only[inj] using h'));have a2:¬U.K n:=λh=>by
   obtain h|h:=k1 n h;.exact i n (Vb _) (by simp only[inj];omega) h
   omega
  have b0:W3 B (Zu H (Wl (inj p x (n+1)).2.1)) w U z [b]:=by
   obtain⟨M,h6⟩:=Vx.1 d.nodup;refine⟨by simp,λA a0=>?_⟩;simp only[Vf]at a0;subst a0;obtain⟨j,W,u,a5⟩:=d.free A (by simp);refine⟨by rw[J.I];exact j,W,u,λid a6 a7=>?_⟩;obtain⟨L,a8⟩|L:=O id A a6 a7;.exact a5 id L a8
   exact M L
  obtain⟨g2,Q,l2,i2,r2,c2,k2,o2⟩:=Jl.one (o:=.var t (inj p x (n+1)).1) (t:=t) (b:=Ua b) (v:=.slice Ub 0 0) (r:=λ_ _=>.slice Ub 0 0) (C:=λS=>CV w S (.ptr n []) [.pointer (Ua ⟨b,0,Ub⟩)]) r1 a2 b0
   ⟨by simp[Gh.add],Zjm p t x (n+1) b1,b,cells,e,by simp[Gh.add],by simp,m,s,R.mono (λ_ _=>rfl) (Gh.le_add a2 _ _ _)⟩
   (by simp only[CV];exact⟨.inl rfl,0,t,b,by simp[Gh.add,WW],by simp[Gh.add],rfl⟩)
  have hH:Zu H (Wl (inj (.var t p) x n).2.1)=ZX (Zu H (Wl (inj p x (n+1)).2.1)) n (Ua (.var t (inj p x (n+1)).1)):=by
   have:Wl (inj (.var t p) x n).2.1=(n,Ua (.var t (inj p x (n+1)).1))::Wl (inj p x (n+1)).2.1:=by simp[inj,Wl]
   rw[this];simp only[Zu];refine ZgI λq hq=>?_;simp only[Wl,Vr]at hq;obtain⟨o,ho,rfl⟩:=hq;have:=((Yz p x (n+1)).2 o ho).1;show o.1≠n;omega
  rw[hH];refine⟨g2,Q,N.trans l2,i2.after J N,r2,by simpa only[inj] using c2,λid h=>?_,λid A M h6=>?_⟩
  .simp only[inj];obtain h|h:=k2 id h
   .obtain h|h:=k1 id h
    .exact .inl h
    exact .inr (by omega)
   exact .inr (by omega)
  obtain⟨j,W⟩|j:=o2 id A M h6
  .obtain u|u:=O id A j W
   .exact .inl u
   exact .inr (by simp[u])
  simp only[Vf]at j;exact .inr (by simp[j])|.ro t,H,g,ow,c,x,js,cs,n,h,_,_=>by
  obtain⟨rfl,h⟩:=h
  exact Jl.none c n (by simpa only[inj,CV] using h)|.map kt vt,H,g,ow,c,x,js,cs,n,h,d,i=>by
  obtain⟨b,es,clock,rfl,rfl,m,a9,s⟩:=h;exact Jl.one (t:=.unit) (b:=Ua b) (v:=.slice Ub 0 0) (r:=λ_ _=>.slice Ub 0 0) c (i n (Vb _) (by simp[inj])) d
   ⟨b,es,clock,by simp[Gh.add],by simp,m,a9,s.mono λkv e y=>⟨⟨by simp only[CV];exact y.1.1,.inr (by simpa[AV.isAgg] using y.1.2)⟩,⟨by simp only[CV];exact y.2.1,.inr (by simpa[AV.isAgg] using y.2.2)⟩⟩⟩
   (by simp only[inj,CV];exact⟨.inl rfl,b,by simp[Gh.add],rfl⟩)|.it kt vt,H,g,ow,c,x,js,cs,n,h,d,i=>by
  obtain⟨b,mb,es,clock,since,seen,rfl,b4,rfl,m,s,D,h4⟩:=h;exact Jl.one (t:=.ref) (b:=Ua b) (v:=undef) (r:=λ_ _=>.slice Ub 0 0) c (i n (Vb _) (by simp[inj])) d
   ⟨b,mb,es,clock,since,seen,by simp[Gh.add],by simp[Gh.add],by simp,by simp,m,s,D,h4.mono λkv e y=>⟨⟨by simp only[CV];exact y.1.1,.inr (by simpa[AV.isAgg] using y.1.2)⟩,⟨by simp only[CV];exact y.2.1,.inr (by simpa[AV.isAgg] using y.2.2)⟩⟩,λkv b2=>by cases b2⟩
   (by simp only[inj,CV];exact⟨.inl rfl,0,.ref,b,by simp[Gh.add,WW],by simp[Gh.add],rfl⟩)|.rows t k,H,g,ow,c,x,js,cs,n,h,d,i=>by
  obtain⟨v,rfl,h⟩:=h;obtain⟨b,r,ho⟩:=h.obj n;have a4:v.oneCell' =true:=by
   obtain⟨hd,_,h⟩:=h;obtain⟨_,rfl⟩|⟨_,_,_,_,_,_,rfl,_⟩:=h<;>rfl
  exact Jl.one (t:=.sl t) (b:=b) (v:=v) (r:=r) c (i n (Vb _) (by simp[inj])) d ho (by simp only[inj,CV];exact⟨.inl rfl,by simp[Gh.add],by simp[Gh.add,a4]⟩)|.mrows kt t,H,g,ow,c,x,js,cs,n,h,d,i=>by
  obtain⟨v,rfl,h⟩:=h;have hv:∃b,v=.map (Ua b):=by obtain⟨_,b,_,_,h,_⟩:=h;exact⟨b,h⟩
  obtain⟨b,rfl⟩:=hv;obtain⟨r,ho⟩:=h.obj n
  exact Jl.one (t:=.sl t) (b:=Ua b) (v:=undef) (r:=r) c (i n (Vb _) (by simp[inj])) d ho (by simp only[inj,CV];exact⟨.inl rfl,b,by simp[Gh.add],rfl⟩)|.owo lb,H,g,ow,c,x,js,cs,n,h,d,i=>by
  obtain⟨v,rfl,h⟩:=h;have a3:v.oneCell' =true:=by
   obtain⟨_,rfl⟩|⟨_,_,_,_,_,_,rfl,_⟩:=h<;>rfl
  exact Jl.one (o:=.vco lb x) (t:=.pn lb) (b:=Ub) (v:=v) (r:=λ_ _=>.slice Ub 0 0) c (i n (Vb _) (by simp[inj])) d ⟨by simp[Gh.add],by
   have e:(g.add n (.pn lb) Ub v λ_ _=>.slice Ub 0 0).slv n=v:=by simp[Gh.add]
   rw[e];exact h⟩
   (by simp only[inj,CV];exact⟨.inl rfl,by simp[Gh.add],by simp[Gh.add,a3]⟩)|.fnd tn tq lt lb,H,g,ow,c,x,js,cs,n,h,d,i=>by
  obtain⟨b,rfl,h⟩:=h;exact Jl.one (o:=.fnd tn tq lt lb x) (t:=Jn tn tq lt lb) (b:=Ua b) (v:=.slice Ub 0 0) (r:=λ_ _=>.slice Ub 0 0) c (i n (Vb _) (by simp[inj])) d ⟨.inl (by simp[Gh.add]),b,by simp[Gh.add],h⟩
   (by simp only[inj,CV];exact⟨.inl rfl,0,Jn tn tq lt lb,b,by simp[Gh.add,WW],by simp[Gh.add],rfl⟩)|.agg l,H,g,ow,c,x,js,cs,n,h,d,i=>by
  simp only[PC]at h;simp only[inj,CV]
  exact Zjn l c x js cs n h d (by simpa only[inj] using i)|.fn f l,H,g,ow,c,x,js,cs,n,h,d,i=>by
  simp only[PC]at h;obtain⟨cc,rfl,h⟩:=h;simp only[inj,CV];obtain⟨U,z,N,J,r1,R,k1,O⟩:=Zjn l c x js cc n h d (by simpa only[inj] using i)
  exact⟨U,z,N,J,r1,⟨cc,rfl,R⟩,k1,O⟩|.nilr,H,g,ow,c,x,js,cs,n,h,_,_=>by
  obtain⟨rfl,h⟩:=h
  exact Jl.none c n (by simpa only[inj,CV,true_and] using h)|.nils,H,g,ow,c,x,js,cs,n,h,_,_=>by
  obtain⟨rfl,h⟩:=h
  exact Jl.none c n (by simpa only[inj,CV] using h)|.any,H,g,ow,c,x,js,cs,n,h,_,_=>by obtain rfl:=h;exact Jl.none c n (by simp only[inj,CV])
theorem Zjn:∀(l:Pats) {H:AH}{g:Gh}{ow:Nat->Nat->Prop} (_:RH B H w g ow) (x:KX l) (js:V Nat) (cs:V Y) (n:Nat),J8 w g.I l x js cs->W3 B H w g ow js->(∀id,n<=id->id<(Z5 l x n).2.2->¬g.K id)->
 Jl B H w g ow js n (Z5 l x n).2.2 (Zu H (Wl (Z5 l x n).2.1)) λS=>Kk w S (Z5 l x n).1 cs
 |.nil,H,g,ow,c,x,js,cs,n,h,_,_=>by
  obtain⟨rfl,rfl⟩:=h
  exact Jl.none c n (by simp only[Z5,Kk])|.cons p l,H,g,ow,c,x,js,cs,n,h,d,i=>by
  obtain⟨j1,j2,R,c2,rfl,rfl,m,s⟩:=h;have n1:=(Yz p x.1 n).1;have n2:=(ZbH l x.2 (inj p x.1 n).2.2).1;have a1:∀id,n<=id->id<(Z5 l x.2 (inj p x.1 n).2.2).2.2->¬g.K id:=by simpa only[Z5] using i
  obtain⟨U,z,N,J,r1,d1,k1,O⟩:=Zd8 p c x.1 j1 R n m (d.sub (Vl _ _)) λid h h' =>a1 id h (by omega);obtain⟨g2,Q,l2,i2,r2,d2,k2,o2⟩:=Zjn l r1 x.2 j2 c2 (inj p x.1 n).2.2 (by rw[J.I];exact s) (d.after J.I O) λid h h' hK=>by
   obtain D|D:=k1 id hK;.exact a1 id (by omega) h' D
   omega
  have hH:Zu H (Wl (Z5 (.cons p l) x n).2.1)=Zu (Zu H (Wl (inj p x.1 n).2.1)) (Wl (Z5 l x.2 (inj p x.1 n).2.2).2.1):=by rw[<-XB];simp[Z5,Wl]
  rw[hH];simp only[Z5,Kk];refine⟨g2,Q,N.trans l2,i2.after J N,r2,⟨R,c2,rfl,d1.mono (λ_ _=>rfl) l2,d2⟩,λid h=>?_,λid A M h6=>?_⟩
  .obtain h|h:=k2 id h
   .obtain h|h:=k1 id h
    .exact .inl h
    exact .inr (by omega)
   exact .inr (by omega)
  obtain⟨j,W⟩|j:=o2 id A M h6
  .obtain u|u:=O id A j W
   .exact .inl u
   exact .inr (by simp[u])
  exact .inr (by simp[j])
end
end
theorem Znx p x n(b:p≠ .any):(inj p x n).1.isAgg=p.isAgg:=by
 cases p<;>simp[inj,AV.isAgg,Pat.isAgg]at b⊢
section
variable {B:KR}{H:AH}{w:X}{g:Gh}{ow:Nat->Nat->Prop}{F:Nat->AV}{I:Nat->Prop}
theorem Zgf:∀l {H}{g}{ow} (_:RH B H w g ow) x js vs n,J9 w g.I l x js vs->W3 B H w g ow js->(∀id,n<=id->id<(Z5 l x n).2.2->¬g.K id)->
 Jl B H w g ow js n (Z5 l x n).2.2 (Zu H (Wl (Z5 l x n).2.1)) λs=>Jd w s (Z5 l x n).1 vs
 |.nil,H,g,ow,b,x,js,vs,n,h,_,_=>by
  obtain⟨rfl,rfl⟩:=h
  exact Jl.none b n rfl|.cons p l,H,g,ow,b,x,js,vs,n,h,f,hk=>by
  obtain⟨C,D,v,r,rfl,rfl,⟨u,W⟩,R⟩:=h;have n1:=(Yz p x.1 n).1;have n2:=(ZbH l x.2 (inj p x.1 n).2.2).1;have z:∀id,n<=id->id<(Z5 l x.2 (inj p x.1 n).2.2).2.2->¬g.K id:=by assumption
  have⟨Q,L,j,d,M,m,k1,J⟩:=Zd8 p b x.1 C v.cells.toList n u (f.sub (Vl _ _)) (by grind);have⟨t,e,k,A,N,q,k2,o2⟩:=Zgf l M x.2 D r (inj p x.1 n).2.2 (by rw[d.I];omega) (f.after d.I J) (by grind);have y:Zu H (Wl (Z5 (.cons p l) x n).2.1)=Zu (Zu H (Wl (inj p x.1 n).2.1)) (Wl (Z5 l x.2 (inj p x.1 n).2.2).2.1):=by rw[<-XB];simp[Z5,Wl]
  rw[y];have c:(inj p x.1 n).1=.junk\/Kb v=(inj p x.1 n).1.isAgg:=by
   by_cases i:p=.any;.subst i;exact .inl rfl
   rw[Znx p x.1 n i];grind
  refine⟨t,e,j.trans k,A.after d j,N,⟨v,r,rfl,⟨m.mono (λ_ _=>rfl) k,c⟩,q⟩,λid h=>?_,λid O S U=>?_⟩;.simp[Z5];grind
  grind
theorem Zm0{p v r l c}(h:(ext p v).run H l=Ua (r,c))(e:p≠ .any):v≠ .junk/\v.isAgg=p.isAgg:=by
 cases p with
 |pd t=>
  simp only[ext,ZY]at h;have⟨y,m,b,_⟩:=h
  exact Zh9 b|own t k=>
  simp only[ext,ZY]at h;have⟨y,m,b,_⟩:=h
  cases v<;>simp[J1,Zb]at b<;>exact⟨by simp,rfl⟩|var _ _|ro _|map _ _=>cases v<;>simp[ext,Zb]at h<;>exact⟨by simp,rfl⟩|rows t k=>
  simp only[ext,ZY]at h;have⟨y,m,b,_⟩:=h
  cases v<;>simp[YW,Zb]at b<;>exact⟨by simp,rfl⟩|mrows _ _|it _ _|fnd _ _ _ _=>cases v<;>simp[ext,Zb]at h<;>exact⟨by simp,rfl⟩|owo lb=>
  simp only[ext,ZY]at h;have⟨y,m,b,_⟩:=h
  cases v<;>simp[R5,Zb]at b<;>exact⟨by simp,rfl⟩|agg pl=>
  cases v with
  |agg vs=>exact⟨by simp,rfl⟩|d t x=>
   simp[ext,ZN,Zb,ZW,Z7]at h
   exact⟨by simp,ZuY h.1 rfl⟩|_=>simp[ext,Zb]at h
 |fn _ _|nilr|nils=>cases v<;>simp[ext,Zb]at h<;>exact⟨by simp,rfl⟩|any=>grind
theorem ZmZ(j:RH B H w g ow)(A:∀b,g.I b->I b):∀pl v c x ids l s,(WP pl v).run H l=Ua ((x,ids),s)->Jd w g v c->(∀b,ZO H ow ids.br b->I b)->
 ids.tk.Nodup->∃js,J9 w I pl x js c/\js.Nodup/\∀b∈js,ZO H ow ids.tk b
 |.nil,.nil,c,x,ids,l,s,h,n,i,_=>by
  obtain⟨⟨_,rfl⟩,_⟩:=h
  exact⟨[],⟨rfl,n⟩,.nil,by simp⟩|.cons p pl,.cons v vs,c,x,ids,l,s,h,n,i,hn=>by
  simp only[WP,ZY]at h;obtain⟨⟨x1,C⟩,m1,t,⟨x2,D⟩,m2,N,⟨rfl,rfl⟩,_⟩:=h;obtain⟨u,r,rfl,y,O⟩:=n;have q:(C.tk++D.tk).Nodup:=hn;have⟨n1,n2,n3⟩:=Ve.1 q;have⟨J,Q,R,z⟩:=DB j A p v u.cells.toList x1 C _ _ t y.1 (λb d=>i b (Wx (λ_ h=>by simp[ZI.app,h]) d)) n1;have⟨K,S,U,f⟩:=ZmZ j A pl vs r x2 D _ _ N O (λb d=>i b (Wx (λ_ h=>by simp[ZI.app,h]) d)) n2;have k:p=.any\/Kb u=p.isAgg:=by
   by_cases hp:p=.any;.grind
   have⟨W,d⟩:=Zm0 t hp;rw[<-d];exact .inr (y.2.resolve_left W)
  refine⟨J++K,⟨J,K,u,r,rfl,rfl,⟨Q,k⟩,S⟩,Ve.2 ⟨R,U,λb d b' m e=>?_⟩,λb d=>?_⟩;.subst e;have⟨id,L,M⟩:=HT j (z b d) (f b m);grind
  obtain d|d:=Vh.1 d;.exact Wx (λ_ h=>by simp[ZI.app,h]) (z b d)
  exact Wx (λ_ h=>by simp[ZI.app,h]) (f b d)|.nil,.cons _ _,_,_,_,_,_,h,_,_,_|.cons _ _,.nil,_,_,_,_,_,h,_,_,_=>by simp[WP,Zb]at h
mutual
def PO(w:X)(I:Nat->Prop):(p:Pat)->Do p->V Nat->V Y->Prop|.own t Uc,y,js,cs=>PC w I (.own t Uc) y js cs|.own _ Ud,_,js,_=>js=[]|.var t p,y,js,cs=>PC w I (.var t p) y js cs|.map b h,y,js,cs=>PC w I (.map b h) y js cs|.rows t Uc,y,js,cs=>PC w I (.rows t Uc) y js cs|.rows _ Ud,_,js,_|.it _ _,_,js,_|.owo _,_,js,_|.pd _,_,js,_|.ro _,_,js,_|.nilr,_,js,_|.nils,_,js,_|.any,_,js,_=>js=[]|.mrows b t,y,js,cs=>PC w I (.mrows b t) y js cs|.fnd tn tq lt lb,y,js,cs=>PC w I (.fnd tn tq lt lb) y js cs|.agg l,y,js,cs=>X1 w I l y js cs|.fn f l,y,js,cs=>∃c:V Y,cs=[Xi f c]/\X1 w I l y js c
def X1(w:X)(I:Nat->Prop):(l:Pats)->WS l->V Nat->V Y->Prop|.nil,_,js,_=>js=[]|.cons p l,y,js,cs=>∃d e,js=d++e/\PO w I p y.1 d (cs.take p.sz)/\X1 w I l y.2 e (cs.drop p.sz)
end
def H9(w:X)(I:Nat->Prop):(l:Pats)->WS l->V Nat->V Y->Prop|.nil,_,b,_=>b=[]|.cons p l,y,b,vs=>∃c d v r,b=c++d/\vs=v::r/\PO w I p y.1 c v.cells.toList/\H9 w I l y.2 d r
mutual
theorem Zas:∀(p:Pat) (x:WH p) (js:V Nat) (cs:V Y),p.noAny=Uc->PC w I p x js cs->cs.length=p.sz
 |.pd t,x,js,cs,_,h=>Rd.length t x cs h.2|.own t k,x,js,cs,_,h=>by
  obtain⟨_,_,rfl⟩|⟨b,cap,cells,e,css,_,rfl,_⟩:=h<;>rfl|.var t p,x,js,cs,_,h=>by obtain⟨_,b,u,cells,e,_,rfl,_⟩:=h;rfl|.ro t,x,js,cs,_,h=>by obtain⟨_,b,off,c,rfl,_⟩:=h;rfl|.map i y,x,js,cs,_,h=>by obtain⟨b,es,clock,_,rfl,_⟩:=h;rfl|.it i y,x,js,cs,_,h=>by obtain⟨b,A,es,clock,since,seen,_,_,rfl,_⟩:=h;rfl|.rows _ _,_,_,_,_,h|.mrows _ _,_,_,_,_,h=>by obtain⟨v,rfl,_⟩:=h;rfl|.fnd _ _ _ _,_,_,_,_,h|.owo _,_,_,_,_,h=>by obtain⟨b,rfl,_⟩:=h;rfl|.agg l,x,js,cs,d,h=>by
  simp only[PC]at h
  exact Zk4 l x js cs (by simpa only[Pat.noAny] using d) h|.fn f l,x,js,cs,_,h=>by obtain⟨z,rfl,_⟩:=h;rfl|.nilr,_,js,cs,_,h=>by
  obtain rfl|rfl|rfl:=h.2<;>rfl|.nils,_,js,cs,_,h=>by rw[h.2];rfl|.any,_,_,_,d,_=>by simp[Pat.noAny]at d
theorem Zk4:∀(l:Pats) (x:KX l) (js:V Nat) (cs:V Y),l.noAny=Uc->J8 w I l x js cs->cs.length=l.sz|.nil,_,_,_,_,h=>by obtain⟨_,rfl⟩:=h;rfl|.cons p l,x,js,cs,d,h=>by obtain⟨r,s,j,m,rfl,rfl,n,q⟩:=h;simp only[Pats.noAny,Vc]at d;rw[Vm,Zas p x.1 r j d.1 n,Zk4 l x.2 s m d.2 q];rfl
end
mutual
theorem Zk5{w' :X}{I' :Nat->Prop}:∀(p:Pat) (y:Do p) (cs:V Y) (x:WH p) (js:V Nat),p.back=Ud->p.noAny=Uc->PC w' I' p x js cs->PO w I p y [] cs
 |.own t Uc,_,_,_,_,h,_,_=>by simp[Pat.back]at h|.own t Ud,_,_,_,_,_,_,_=>rfl|.var _ _,_,_,_,_,h,_,_|.map _ _,_,_,_,_,h,_,_|.rows _ Uc,_,_,_,_,h,_,_|.mrows _ _,_,_,_,_,h,_,_|.fnd _ _ _ _,_,_,_,_,h,_,_=>by simp[Pat.back]at h|.rows _ Ud,_,_,_,_,_,_,_|.it _ _,_,_,_,_,_,_,_|.owo _,_,_,_,_,_,_,_=>rfl|.agg l,y,cs,x,js,h,b,c=>by
  simp only[PC]at c;simp only[PO]
  exact ZhM l y cs x js (by simpa only[Pat.back] using h) (by simpa only[Pat.noAny] using b) c|.fn f l,y,cs,x,js,h,b,c=>by
  obtain⟨e,rfl,c⟩:=c
  exact⟨e,rfl,ZhM l y e x js (by simpa only[Pat.back] using h) (by simpa only[Pat.noAny] using b) c⟩|.pd _,_,_,_,_,_,_,_|.ro _,_,_,_,_,_,_,_|.nilr,_,_,_,_,_,_,_|.nils,_,_,_,_,_,_,_|.any,_,_,_,_,_,_,_=>rfl
theorem ZhM{w' :X}{I' :Nat->Prop}:∀(l:Pats) (y:WS l) (cs:V Y) (x:KX l) (js:V Nat),l.back=Ud->l.noAny=Uc->J8 w' I' l x js cs->X1 w I l y [] cs
 |.nil,_,_,_,_,_,_,_=>rfl|.cons p l,y,cs,x,js,h,b,c=>by
  obtain⟨m,r,d,n,rfl,rfl,i,q⟩:=c;simp only[Pats.back,Vca]at h;simp only[Pats.noAny,Vc]at b;have j:=Zas p x.1 m d b.1 i;refine⟨[],[],rfl,?_,?_⟩;.rw[Vra j];exact Zk5 p y.1 d x.1 m h.1 b.1 i
  rw[Vsa j];exact ZhM l y.2 n x.2 r h.2 b.2 q
end
theorem Zes{p v y ids l C}(h:(JZ p v).run H l=Ua ((y,ids),C))(m:RH B H w g ow)(i:∀b,g.I b->I b){cs}(n:CV w g v cs)
 (j:∀b,ZO H ow ids.br b->I b) (s:ids.tk.Nodup) (D:(∃t,p=.own t Uc)\/(∃t q,p=.var t q)\/(∃k t,p=.map k t)\/(∃t,p=.rows t Uc)\/∃k t,p=.mrows k t):∃js,PO w I p y js cs/\js.Nodup/\(∀b∈js,ZO H ow ids.tk b)/\cs.length=p.sz:=by
 obtain⟨t,rfl⟩|⟨t,q,rfl⟩|⟨k,t,rfl⟩|⟨t,rfl⟩|⟨k,t,rfl⟩:=D
 .cases v with
  |vw id=>
   have A:(ext (.own t Uc) (.vw id)).run H l=Ua ((y,ids),C):=by
    simp[JZ]at h;rw[ZZ]at h;simp only[ext,J1,ZY,Zr,Va];split at h;.rename_i L xs x;simp[ZD,Zr,Va]at h;obtain⟨z,J,⟨rfl,rfl⟩,rfl⟩:=h;refine⟨⟨z,[id]⟩,id::l,?_,⟨rfl,rfl⟩,rfl⟩;rw[ZZ,x];simp[ZD,Zr];grind
    simp[Zb]at h
   have⟨js,c,d,f⟩:=DB m i _ _ cs _ _ _ _ A n j s
   exact⟨js,c,d,f,Zas (.own t Uc) y js cs rfl c⟩|_=>simp[JZ,Zb]at h
 .cases v with
  |ptr id path=>
   cases path with
   |nil=>
    have⟨js,c,d,f⟩:=DB m i (.var t q) (.ptr id []) cs y ids _ _ (by assumption) n j s;refine⟨js,c,d,f,?_⟩;obtain⟨_,b,K,cells,e,_,rfl,_⟩:=c
    rfl|cons a r=>simp[JZ,Zb]at h
  |_=>simp[JZ,Zb]at h
 .cases v with
  |mp id=>
   have⟨js,c,d,f⟩:=DB m i (.map k t) (.mp id) cs y ids _ _ (by assumption) n j s
   exact⟨js,c,d,f,Zas (.map k t) y js cs rfl c⟩|_=>simp[JZ,Zb]at h
 .cases v with
  |vw id=>
   have A:(ext (.rows t Uc) (.vw id)).run H l=Ua ((y,ids),C):=by
    simp[JZ]at h;rw[ZZ]at h;simp only[ext,YW,ZY,Zr,Va];split at h;.rename_i L xs u x;simp[ZD,Zr,Va]at h;obtain⟨z,J,⟨rfl,rfl⟩,rfl⟩:=h;refine⟨⟨z,[id]⟩,id::l,?_,⟨rfl,rfl⟩,rfl⟩;rw[ZZ,x];simp[ZD,Zr];grind
    simp[Zb]at h
   have⟨js,c,d,f⟩:=DB m i _ _ cs _ _ _ _ A n j s
   exact⟨js,c,d,f,Zas (.rows t Uc) y js cs rfl c⟩|_=>simp[JZ,Zb]at h
 cases v with
 |mp id=>
  have⟨js,c,d,f⟩:=DB m i (.mrows k t) (.mp id) cs y ids _ _ (by assumption) n j s
  exact⟨js,c,d,f,Zas (.mrows k t) y js cs rfl c⟩|_=>simp[JZ,Zb]at h
mutual
theorem ZoL(u:RH B H w g ow)(x:∀b,g.I b->I b):∀(p:Pat) (v:AV) (cs:V Y) (y:Do p) (ids:ZI) (l j:V Nat),(JZ p v).run H l=Ua ((y,ids),j)->CV w g v cs->(∀b,ZO H ow ids.br b->I b)->ids.tk.Nodup->
 ∃js,PO w I p y js cs/\js.Nodup/\(∀b∈js,ZO H ow ids.tk b)/\(Zil p v=Uc->cs.length=p.sz)
 |.own t Uc,v,cs,y,ids,l,j,h,c,d,i=>by
  obtain⟨js,m,n,q,s⟩:=Zes h u x c d i (.inl ⟨t,rfl⟩)
  exact⟨js,m,n,q,λ_=>s⟩|.var t p,v,cs,y,ids,l,j,h,c,d,i=>by
  obtain⟨js,m,n,q,s⟩:=Zes h u x c d i (.inr (.inl ⟨t,p,rfl⟩))
  exact⟨js,m,n,q,λ_=>s⟩|.map k t,v,cs,y,ids,l,j,h,c,d,i=>by
  obtain⟨js,m,n,q,s⟩:=Zes h u x c d i (.inr (.inr (.inl ⟨k,t,rfl⟩)))
  exact⟨js,m,n,q,λ_=>s⟩|.rows t Uc,v,cs,y,ids,l,j,h,c,d,i=>by
  obtain⟨js,m,n,q,s⟩:=Zes h u x c d i (.inr (.inr (.inr (.inl ⟨t,rfl⟩))))
  exact⟨js,m,n,q,λ_=>s⟩|.rows t Ud,v,cs,y,ids,l,j,h,c,d,i=>by
  simp only[JZ,Zr,Va]at h
  exact⟨[],rfl,.nil,by simp,λh=>CV.length v (.sl (.sl t)) cs h c⟩|.mrows k t,v,cs,y,ids,l,j,h,c,d,i=>by
  obtain⟨js,m,n,q,s⟩:=Zes h u x c d i (.inr (.inr (.inr (.inr ⟨k,t,rfl⟩))))
  exact⟨js,m,n,q,λ_=>s⟩|.it _ _,v,cs,y,ids,l,j,h,c,d,i=>⟨[],rfl,.nil,by simp,λh=>CV.length v .ref cs h c⟩|.fnd tn tq lt lb,v,cs,y,ids,l,j,h,c,d,i=>by
  cases v with
  |ptr id path=>
   cases path with
   |nil=>
    obtain⟨js,m,n,q⟩:=DB u x (.fnd tn tq lt lb) (.ptr id []) cs y ids _ _ (by simpa only[JZ] using h) c d i
    exact⟨js,m,n,q,λ_=>Zas (.fnd tn tq lt lb) y js cs rfl m⟩|cons a r=>simp[JZ,Zb]at h
  |_=>simp[JZ,Zb]at h
 |.owo lb,v,cs,y,ids,l,j,h,c,d,i=>⟨[],rfl,.nil,by simp,λh=>CV.length v (.sl (.pn lb)) cs h c⟩|.own t Ud,v,cs,y,ids,l,j,h,c,d,i=>by
  simp only[JZ,Zr,Va]at h
  exact⟨[],rfl,.nil,by simp,λh=>CV.length v (.sl t) cs h c⟩|.pd t,v,cs,y,ids,l,j,h,c,d,i=>⟨[],rfl,.nil,by simp,λh=>CV.length v t cs h c⟩|.ro _,v,cs,_,ids,_,_,h,c,_,_|.nilr,v,cs,_,ids,_,_,h,c,_,_=>⟨[],rfl,.nil,by simp,λh=>CV.length v .ref cs h c⟩|.nils,v,cs,y,ids,l,j,h,c,d,i=>⟨[],rfl,.nil,by simp,λh=>CV.length v (.sl .unit) cs h c⟩|.any,v,cs,y,ids,l,j,h,c,d,i=>⟨[],rfl,.nil,by simp,λh=>by simp[Zil]at h⟩|.agg pl,v,cs,y,ids,l,j,h,c,d,i=>by
  cases v with
  |agg vs=>
   simp only[JZ]at h;simp only[CV]at c;obtain⟨js,m,n,q,s⟩:=Zj1 u x pl vs cs y ids l j h c d i
   exact⟨js,m,n,q,λ_=>s⟩|_=>simp[JZ,Zb]at h
 |.fn f pl,v,cs,y,ids,l,j,h,c,d,i=>by
  cases v with
  |fn f' vs=>
   simp only[JZ,ZN,Zb,ZW,Z7]at h;obtain⟨N,h⟩:=h;have N:=Vk N;subst N;simp only[CV]at c;obtain⟨R,rfl,c⟩:=c;obtain⟨js,m,n,q,_⟩:=Zj1 u x pl vs R y ids l j h c d i
   exact⟨js,⟨R,rfl,m⟩,n,q,λ_=>rfl⟩|_=>simp[JZ,Zb]at h
theorem Zj1(u:RH B H w g ow)(x:∀b,g.I b->I b):∀(pl:Pats) (v:ZF) (cs:V Y) (y:WS pl) (ids:ZI) (l j:V Nat),(ZbS pl v).run H l=Ua ((y,ids),j)->Kk w g v cs->(∀b,ZO H ow ids.br b->I b)->ids.tk.Nodup->
 ∃js,X1 w I pl y js cs/\js.Nodup/\(∀b∈js,ZO H ow ids.tk b)/\cs.length=pl.sz
 |.nil,.nil,cs,y,ids,l,j,h,c,d,_=>by
  simp only[Kk]at c;subst c
  exact⟨[],rfl,.nil,by simp,rfl⟩|.cons p pl,.cons v vs,cs,y,ids,l,j,h,c,d,i=>by
  simp only[ZbS,ZN,ZY,Zr,Zb,ZW,Z7,Va]at h;obtain⟨M,⟨x1,U⟩,m1,m,⟨x2,W⟩,m2,n,⟨rfl,rfl⟩,_⟩:=h;simp only[Kk]at c;obtain⟨c1,c2,rfl,q,s⟩:=c;have Q:(U.tk++W.tk).Nodup:=i;obtain⟨n1,n2,n3⟩:=Ve.1 Q;obtain⟨j1,h5,h6,S,h8⟩:=ZoL u x p v c1 x1 U _ _ m q (λb z=>d b (Wx (λ_ h=>by simp[ZI.app,h]) z)) n1;obtain⟨j2,h9,C,A,D⟩:=Zj1 u x pl vs c2 x2 W _ _ n s (λb z=>d b (Wx (λ_ h=>by simp[ZI.app,h]) z)) n2;have O:=h8 M;refine⟨j1++j2,⟨j1,j2,rfl,by rw[Vra O];exact h5,by rw[Vsa O];exact h9⟩,Ve.2 ⟨h6,C,λb z b' L e=>?_⟩,λb z=>?_,by rw[Vm,O,D];rfl⟩;.subst e;obtain⟨id,J,K⟩:=HT u (S b z) (A b L);exact n3 id J id K rfl
  obtain z|z:=Vh.1 z;.exact Wx (λ_ h=>by simp[ZI.app,h]) (S b z)
  exact Wx (λ_ h=>by simp[ZI.app,h]) (A b z)|.nil,.cons _ _,_,_,_,_,_,h,_,_,_|.cons _ _,.nil,_,_,_,_,_,h,_,_,_=>by simp[ZbS,Zb]at h
end
theorem Zxj:∀p l,p.back=Uc->JZ p (.tup l)=.fail|.own _ Uc,_,_=>rfl|.own _ Ud,_,h=>by simp[Pat.back]at h|.var _ _,_,_|.map _ _,_,_|.rows _ Uc,_,_|.mrows _ _,_,_|.fnd _ _ _ _,_,_|.agg _,_,_|.fn _ _,_,_=>rfl|.rows _ Ud,_,h|.it _ _,_,h|.owo _,_,h|.pd _,_,h|.ro _,_,h|.nilr,_,h|.nils,_,h|.any,_,h=>by simp[Pat.back]at h
theorem ZgE(t:RH B H w g ow)(K:∀b,g.I b->I b){w0 I0}:∀pl n d x Q y ids l R,(ZcZ pl (ZeE F pl n)).run H l=Ua ((y,ids),R)->
 pl.wf=Uc->J9 w0 I0 pl x Q d->(∀k v,k+n∈X4 pl n->d[k]? =Ua v->VR w g (F (k+n)) v)->(∀b,ZO H ow ids.br b->I b)->ids.tk.Nodup->∃js,H9 w I pl y js d/\js.Nodup/\∀b∈js,ZO H ow ids.tk b
 |.nil,n,d,x,Q,y,ids,l,R,h,_,O,_,s,_=>by
  obtain⟨rfl,rfl⟩:=O
  exact⟨[],rfl,.nil,by simp⟩|.cons p pl,n,d,x,Q,y,ids,l,R,h,hw,O,hF,s,hn=>by
  obtain⟨a1,U,v,r,rfl,rfl,h1,W⟩:=O;have i:pl.wf=Uc/\(p=.any\/p.noAny=Uc):=by
   cases p<;>simp[Pats.wf,Vc]at hw<;>first|grind|grind
  have j:∀k v,k+(n+1)∈X4 pl (n+1)->r[k]? =Ua v->VR w g (F (k+(n+1))) v:=λk v' hk a4=>by have:=hF (k+1) v' (by simp[X4];grind) (by grind);grind
  cases c:p.back with
  |true=>
   simp only[ZeE,ZcZ,c,Zf,ZY]at h;obtain⟨⟨x1,i1⟩,m1,z,⟨S,u⟩,m2,A,⟨rfl,rfl⟩,_⟩:=h;have M:(i1.tk++u.tk).Nodup:=hn;have⟨n1,n2,n3⟩:=Ve.1 M;have m:=hF 0 v (by simp[X4,c]) rfl;rw[Nat.zero_add]at m;have J:CV w g (F n) v.cells.toList:=by refine(m.to1 λl e=>?_).1;rw[e,Zxj p l c]at z;simp[Zb]at z
   have⟨j1,h5,h6,h7,_⟩:=ZoL t K p (F n) _ x1 i1 _ _ z J (λb c=>s b (Wx (λ_ h=>by simp[ZI.app,h]) c)) n1;have⟨q,C,D,f⟩:=ZgE t K pl (n+1) r x.2 U S u _ _ A i.1 W j (λb c=>s b (Wx (λ_ h=>by simp[ZI.app,h]) c)) n2;refine⟨j1++q,⟨j1,q,v,r,rfl,rfl,h5,C⟩,Ve.2 ⟨h6,D,λb c b' L e=>?_⟩,λb c=>?_⟩;.subst e;have⟨id,a0,a3⟩:=HT t (h7 b c) (f b L);grind
   obtain c|c:=Vh.1 c;.exact Wx (λ_ h=>by simp[ZI.app,h]) (h7 b c)
   exact Wx (λ_ h=>by simp[ZI.app,h]) (f b c)|false=>
   simp only[ZeE,ZcZ,c,Ze,ZY,Zr]at h;obtain⟨⟨S,u⟩,m2,A,⟨rfl,rfl⟩,_⟩:=h;have⟨q,C,D,f⟩:=ZgE t K pl (n+1) r x.2 U S u _ _ A i.1 W j s hn;refine⟨q,⟨[],q,v,r,rfl,rfl,?_,C⟩,D,f⟩;obtain rfl|N:=i.2;.rfl
   exact Zk5 p _ _ x.1 a1 c N h1.1
end
theorem RH.revive{B H w g ow}(h:RH B H w g ow){id o J}(r:g.K id)
 (s:∀b,J b->¬g.I b/\b<w.heap.size/\(B.own0 b\/B.w0.heap.size<=b)/\∀j,H j≠Ub->¬ow j b) (t:ORel w g J id o):RH B (ZX H id (Ua o)) w g (Xv ow id J) where
 objs:=λk q e=>by
  by_cases c:k=id;.subst c;rw[XY]at e;cases e;rw[Xd];grind
  rw[KB c]at e;rw[Je c];exact h.objs k q e
 dist:=λk p n i f l m=>by
  by_cases c:k=id<;>by_cases d:p=id;.omega
  .subst c;rw[KB d]at f;rw[Xd]at l;rw[Je d]at m;grind
  .subst d;rw[KB c]at i;rw[Xd]at m;rw[Je c]at l;grind
  rw[KB c]at i;rw[KB d]at f;rw[Je c]at l;rw[Je d]at m;exact h.dist k p n i f l m
 sep:=λk n i f=>by
  by_cases c:k=id;.subst c;rw[Xd]at f;grind
  rw[KB c]at i;rw[Je c]at f;exact h.sep k n i f
 ilt:=h.ilt
 inew:=h.inew
 os:=h.os
 tape:=h.tape
 output:=h.output
 size:=h.size
 kept:=h.kept
theorem RH.call{B H w w' g ow}(h:RH B H w g ow){js:V Nat}{J}
 (c:∀b,b<w.heap.size->b ∉ js->w'.heap[b]? =w.heap[b]?) (r:w.heap.size<=w'.heap.size) (n:w'.os=w.os) (d:w'.tape=w.tape) (i:Y5 B.pl w' w)
 (p:∀b∈js,¬g.I b/\(B.own0 b\/B.w0.heap.size<=b)/\∀id,H id≠Ub->¬ow id b)
 (hJ:∀b,J b->b<w'.heap.size/\(B.I0 b\/B.own0 b\/B.w0.heap.size<=b)/\∀id,H id≠Ub->¬ow id b):RH B H w' (g.grow J) ow:=by
 have l:Kt g.I w w' :=λb f=>c b (h.ilt b f) (by grind);have e:RH B H w' g ow:={
  objs:=λk o m=>⟨(h.objs k o m).1,(h.objs k o m).2.mono l (.refl g) (h.objs k o m).1 rfl λb f=>by
   have q:H k≠none:=by grind
   exact c b (h.sep k b q f).2.1 (by grind)⟩
  dist:=h.dist
  sep:=λk b e j=>by have:=h.sep k b e j;grind
  ilt:=λb f=>by have:=h.ilt b f;omega
  inew:=h.inew
  os:=n.trans h.os
  tape:=d.trans h.tape
  output:=i.trans h.output
  size:=by have:=h.size;omega
  kept:=λb e j=>by rw[c b (by have:=h.size;omega) (by grind)];exact h.kept b e j}
 exact e.grow hJ
theorem Zxn{H t v x ids l e}(b:(YW t v).run H l=Ua ((x,ids),e)):∀id∈ids,H id≠none:=by
 unfold YW at b;split at b
 .rw[ZZ]at b;split at b
  .rename_i d;simp[ZD]at b;obtain⟨_,_,⟨_,rfl⟩,_⟩:=b;intro id c;simp[Vf]at c;subst c;rw[d];simp
  simp[Zb]at b
 .obtain⟨⟨_,rfl⟩,_⟩:=b;simp
 simp[Zb]at b
theorem ZoN{H lb v x ids l e}(b:(R5 lb v).run H l=Ua ((x,ids),e)):∀id∈ids,H id≠none:=by
 unfold R5 at b;split at b
 .rw[ZZ]at b;split at b
  .rename_i d;simp[ZD,Zr]at b;obtain⟨_,_,⟨_,rfl⟩,_⟩:=b;intro id c;simp[Vf]at c;subst c;rw[d];simp
  .rename_i d;simp[ZD]at b;obtain⟨_,_,⟨_,rfl⟩,_⟩:=b;intro id c;simp[Vf]at c;subst c;rw[d];simp
  simp[Zb]at b
 .obtain⟨⟨_,rfl⟩,_⟩:=b;simp
 simp[Zb]at b
theorem Zxl{H t v x ids l e}(b:(J1 t v).run H l=Ua ((x,ids),e)):∀id∈ids,H id≠none:=by
 unfold J1 at b;split at b
 .rw[ZZ]at b;split at b
  .rename_i d;simp[ZD]at b;obtain⟨_,_,⟨_,rfl⟩,_⟩:=b;intro id c;simp[Vf]at c;subst c;rw[d];simp
  simp[Zb]at b
 .rw[ZZ]at b;split at b
  .rename_i d;simp[ZD]at b;obtain⟨_,_,⟨_,rfl⟩,_⟩:=b;intro id c;simp[Vf]at c;subst c;rw[d];simp
  simp[Zb]at b
 .obtain⟨⟨_,rfl⟩,_⟩:=b;simp
 simp[Zb]at b
mutual
theorem Zm1{H:AH}:∀(p:Pat) (v:AV) (x:WH p) (ids:ZI) (l d:V Nat),(ext p v).run H l=Ua ((x,ids),d)->∀id∈ids.tk,H id≠Ub
 |.pd t,v,x,ids,l,d,h=>by
  simp only[ext,ZY,Zr,Va]at h;obtain⟨_,_,_,⟨_,rfl⟩,_⟩:=h
  simp|.own t k,v,x,ids,l,d,h=>by
  simp only[ext,ZY,Zr,Va]at h;obtain⟨⟨j,i⟩,m,c,⟨_,rfl⟩,_⟩:=h;unfold J1 at c;split at c
  .rw[ZZ]at c;split at c
   .rename_i e;simp only[ZD,Zr,Va]at c;obtain⟨_,_,⟨_,rfl⟩,_⟩:=c;intro id b;simp only[Vf]at b;subst b;rw[e];simp
   simp[Zb]at c
  .rw[ZZ]at c;split at c
   .rename_i e;simp only[ZD,Zr,Va]at c;obtain⟨_,_,⟨_,rfl⟩,_⟩:=c;intro id b;simp only[Vf]at b;subst b;rw[e];simp
   simp[Zb]at c
  .simp only[Zr,Va]at c;obtain⟨⟨_,rfl⟩,_⟩:=c;simp
  simp[Zb]at c|.var t p,v,x,ids,l,d,h=>by
  simp only[ext]at h;split at h
  .rw[ZZ]at h;split at h
   .rename_i e;simp only[ZN,ZY,Zr,Zb,ZW,Z7,Va]at h;obtain⟨_,⟨j,i⟩,m,c,⟨_,rfl⟩,_⟩:=h;intro id b;obtain rfl|b:=Vn.1 b
    .rw[e];simp
    exact Zm1 p _ j i _ _ c id b
   simp[Zb]at h
  simp[Zb]at h|.ro t,v,x,ids,l,d,h=>by
  simp only[ext]at h;split at h
  .rw[ZZ]at h;split at h
   .simp only[ZD,Zr,Va]at h;obtain⟨_,_,⟨_,rfl⟩,_⟩:=h;simp
   simp[Zb]at h
  .simp only[ZD,Zr,Va]at h;obtain⟨_,_,⟨_,rfl⟩,_⟩:=h;simp[ZI.none]
  simp[Zb]at h|.map q C,v,x,ids,l,d,h=>by
  simp only[ext]at h;split at h
  .rw[ZZ]at h;split at h
   .rename_i e;simp only[ZD,Zr,Va]at h;obtain⟨_,_,⟨_,rfl⟩,_⟩:=h;intro id b;simp only[Vf]at b;subst b;rw[e];simp
   simp[Zb]at h
  simp[Zb]at h|.it q C,v,x,ids,l,d,h=>by
  simp only[ext]at h;split at h
  .rw[ZZ]at h;split at h
   .rename_i e;simp only[ZD,Zr,Va]at h;obtain⟨_,_,⟨_,rfl⟩,_⟩:=h;intro id b;simp only[Vf]at b;subst b;rw[e];simp
   simp[Zb]at h
  simp[Zb]at h|.rows t k,v,x,ids,l,d,h=>by
  simp only[ext,ZY,Zr,Va]at h;obtain⟨⟨j,i⟩,m,c,⟨_,rfl⟩,_⟩:=h;unfold YW at c;split at c
  .rw[ZZ]at c;split at c
   .rename_i e;simp only[ZD,Zr,Va]at c;obtain⟨_,_,⟨_,rfl⟩,_⟩:=c;intro id b;simp only[Vf]at b;subst b;rw[e];simp
   simp[Zb]at c
  .simp only[Zr,Va]at c;obtain⟨⟨_,rfl⟩,_⟩:=c;simp
  simp[Zb]at c|.mrows q t,v,x,ids,l,d,h=>by
  simp only[ext]at h;split at h
  .rw[ZZ]at h;split at h
   .rename_i e;simp only[ZD,Zr,Va]at h;obtain⟨_,_,⟨_,rfl⟩,_⟩:=h;intro id b;simp only[Vf]at b;subst b;rw[e];simp
   simp[Zb]at h
  simp[Zb]at h|.owo lb,v,x,ids,l,d,h=>by
  simp only[ext,ZY,Zr,Va]at h;obtain⟨⟨j,i⟩,m,c,⟨_,rfl⟩,_⟩:=h
  exact ZoN c|.fnd tn tq lt lb,v,x,ids,l,d,h=>by
  simp only[ext]at h;split at h
  .rw[ZZ]at h;split at h
   .rename_i e;simp only[ZD,Zr]at h;obtain⟨_,_,⟨_,rfl⟩,_⟩:=h;intro id b;simp only[Vf]at b;subst b;rw[e];simp
   .rename_i e;simp only[ZN,ZY,ZD,Zr,Zb,ZW,Z7,Kp,Va]at h;obtain⟨rfl,⟨y1,i⟩,A,J,⟨y2,n⟩,m2,K,⟨y3,N⟩,S,L,⟨y4,O⟩,U,r,⟨y5,Q⟩,W,s,⟨y6,R⟩,m6,u,z,M,⟨_,rfl⟩,_⟩:=h;intro id b;simp only[Vn,Vh]at b;obtain rfl|b|b|b:=b
    .rw[e];simp
    .exact Zxn r id b
    .exact ZoN s id b
    exact Zxl u id b
   simp[Zb]at h
  simp[Zb]at h|.agg pl,v,x,ids,l,d,h=>by
  simp only[ext]at h;split at h;.exact ZaN pl _ x ids l d h
  .simp only[ZN,Zb,ZW,Z7]at h;exact ZaN pl _ x ids l d h.2
  simp[Zb]at h|.fn f pl,v,x,ids,l,d,h=>by
  simp only[ext]at h;split at h;.simp only[ZN,Zb,ZW,Z7]at h;exact ZaN pl _ x ids l d h.2
  simp[Zb]at h|.nilr,v,x,ids,l,d,h=>by
  simp only[ext]at h;split at h;.simp only[Zr,Va]at h;obtain⟨⟨_,rfl⟩,_⟩:=h;simp[ZI.none]
  simp[Zb]at h|.nils,v,x,ids,l,d,h=>by
  simp only[ext]at h;split at h;.simp only[Zr,Va]at h;obtain⟨⟨_,rfl⟩,_⟩:=h;simp[ZI.none]
  simp[Zb]at h|.any,v,x,ids,l,d,h=>by simp only[ext,Zr,Va]at h;obtain⟨⟨_,rfl⟩,_⟩:=h;simp[ZI.none]
theorem ZaN{H:AH}:∀(pl:Pats) (v:ZF) (x:KX pl) (ids:ZI) (l d:V Nat),(WP pl v).run H l=Ua ((x,ids),d)->∀id∈ids.tk,H id≠Ub
 |.nil,.nil,x,ids,l,d,h=>by
  simp only[WP,Zr,Va]at h;obtain⟨⟨_,rfl⟩,_⟩:=h
  simp[ZI.none]|.cons p pl,.cons v vs,x,ids,l,d,h=>by
  simp only[WP,ZY,Zr,Va]at h;obtain⟨⟨j,i⟩,A,c,⟨D,n⟩,m2,y,⟨_,rfl⟩,_⟩:=h;intro id b;obtain b|b:=Vh.1 b;.exact Zm1 p v j i _ _ c id b
  exact ZaN pl vs D n _ _ y id b|.nil,.cons _ _,_,_,_,_,h|.cons _ _,.nil,_,_,_,_,h=>by simp[WP,Zb]at h
end
def ZgT:Option Yh->Option Nat|some (.rows _ _ v _)|some (.mrows _ _ _ v _)=>Ua v|_=>Ub
def WT(B:KR)(H:AH)(w:X)(g:Gh)(ow:Nat->Nat->Prop)(js:V Nat)(n f:Nat)(tk:V Nat)(e:AH):Prop:=
 ∃d c,g.Le d/\Gc tk g d/\RH B e w d c/\(∀id,d.K id->g.K id\/(n<=id/\id<f))/\(∀id b,e id≠Ub->c id b->(H id≠Ub/\ow id b)\/b∈js)/\(∀id,e id≠Ub->H id≠Ub\/id∈tk\/(n<=id/\id<f))
theorem WT.none{B H w g ow}(b:RH B H w g ow) js n tk:WT B H w g ow js n n tk H:=
 ⟨g,ow,.refl g,.refl tk g,b,by grind,by grind,by grind⟩
theorem RH.revive1{B H w g ow}(h:RH B H w g ow){js n id o}(f:g.K id)(j:W3 B H w g ow js)(l:ORel w g (· ∈js) id o){tk}(m:id∈tk):
 WT B H w g ow js n n tk (ZX H id (Ua o)):=by
 refine⟨g,Xv ow id (· ∈js),.refl g,.refl tk g,h.revive f (λb i=>j.free b i) l,by grind,λk b d e=>?_,λk d=>?_⟩
 .by_cases c:k=id
  .subst c;rw[Xd]at e;grind
  rw[KB c]at d;rw[Je c]at e;grind
 by_cases c:k=id;.grind
 rw[KB c]at d;grind
theorem RH.revive2{B H w g ow}(m:RH B H w g ow){js n id o}(l:g.K id)(j:g.ver id<n)(e:W3 B H w g ow js){r}(p:ORel w (g.bump id n r) (· ∈js) id o){tk}(q:id∈tk):
 WT B H w g ow js n n tk (ZX H id (Ua o)):=by
 refine⟨g.bump id n r,Xv ow id (· ∈js),Gh.le_bump j,⟨rfl,λk _ h=>Zg (by grind)⟩,
  m.bump l j (by simp) (Vb _) rfl rfl ⟨rfl,Vb _⟩ (by simp) (λb d=>⟨(e.free b d).1,(e.free b d).2.1,(e.free b d).2.2.1,λk _=>(e.free b d).2.2.2 k⟩) p,λ_ h=>.inl h,λk b f i=>?_,λk f=>?_⟩
 .by_cases c:k=id
  .subst c;rw[Xd]at i;grind
  rw[KB c]at f;rw[Je c]at i;grind
 by_cases c:k=id;.grind
 rw[KB c]at f;grind
theorem Xs.back{w}{g:Gh}{J t xs v}(h:Xs w g.I J t xs v){id n}(C:g.ty id=.sl t)(S:g.slv id=v)
 (d:(v=.slice Ub 0 0/\g.blk id=Ub)\/∃b len cap,v=.slice (Ua ⟨b,0,Ub⟩) len cap/\g.blk id=Ua b):∃r,ORel w (g.bump id n r) J id (.rows t xs n Ub):=by
 have⟨z,⟨hl,m⟩,L⟩:=h;have f:(g.bump id n (Za6 z)).row id=Za6 z:=by simp[Gh.bump]
 refine⟨Za6 z,C,by simp[Gh.bump],?_,?_⟩
 .rw[f];refine⟨λi x p R=>?_,λi j x y c p U A q s u=>?_,λi x c p _ u=>?_⟩
  .exact m.rd i x p R
  .exact m.ds i j x y c p U A q s u
  rw[Zkh]at u;show g.blk id≠Ua c;grind
 rw[f];obtain⟨rfl,rfl⟩|⟨b,cap,cs,e,M,W,D,N,O,Q,h9⟩:=L
 .obtain⟨_,d⟩|⟨K,len,k,d,l⟩:=d
  .exact .inl ⟨rfl,d,S⟩
  grind
 obtain⟨d,_⟩|⟨K,len,k,d,l⟩:=d;.grind
 rw[D]at d;cases d;exact .inr ⟨b,cap,cs,e,l,M,by rw[<-D];assumption,N,O,Q,by assumption⟩
theorem HC.back{w}{g:Gh}{J j t m b}(h:HC w g.I J j t m (.map (Ua b))){id n}(f:g.ty id=.sl t)(x:g.blk id=Ua b):
 ∃r,ORel w (g.bump id n r) J id (.mrows j t m n Ub):=by
 have⟨row,y,es,clock,l,p,q,d,z,s,A,u⟩:=h;cases l;have c:(g.bump id n (rowK row)).row id j=row:=by funext k;simp[Gh.bump,ZpK]
 refine⟨rowK row,f,by simp[Gh.bump],?_,s,?_,b,es,clock,x,p,q,d,?_⟩;.rw[c];show RF w g.I J t (g.blk id) row _ Ub;grind
 .grind
 rw[c];exact u.mono λkv e i=>⟨⟨by exact i.1.1,.inr (by simpa[AV.isAgg] using i.1.2)⟩,i.2⟩
mutual
theorem Zkb:∀(p:Pat) (v:AV) (y:Do p) (n:Nat),n<=(Ks p v y n).2
 |.own _ Uc,v,_,_|.own _ Ud,v,_,_=>by cases v<;>simp[Ks]|.var t p,v,y,n=>by
  cases v with
  |ptr id path=>
   cases path with|nil=>have:=(Yz p y n).1;simpa only[Ks] using this|cons a l=>simp[Ks]
  |_=>simp[Ks]
 |.map _ _,v,_,_|.rows _ Uc,v,_,_|.rows _ Ud,v,_,_|.mrows _ _,v,_,_|.it _ _,v,_,_|.owo _,v,_,_=>by cases v<;>simp[Ks]|.fnd _ _ _ _,v,y,n=>by
  cases v with|ptr id path=>cases path<;>simp[Ks]|_=>simp[Ks]
 |.agg l,v,y,n=>by
  cases v with|agg vs=>simpa only[Ks] using Zc3 l vs y n|_=>simp[Ks]
 |.fn f l,v,y,n=>by
  cases v with|fn b vs=>simpa only[Ks] using Zc3 l vs y n|_=>simp[Ks]
 |.pd _,v,_,_|.ro _,v,_,_|.nilr,v,_,_|.nils,v,_,_|.any,v,_,_=>by cases v<;>simp[Ks]
theorem Zc3:∀(l:Pats) (v:ZF) (y:WS l) (n:Nat),n<=(Xk l v y n).2|.nil,v,y,n=>by cases v<;>simp[Xk]|.cons p l,.nil,y,n=>by simp[Xk]|.cons p l,.cons v vs,y,n=>by have c:=Zkb p v y.1 n;have d:=Zc3 l vs y.2 (Ks p v y.1 n).2;simp only[Xk];omega
end
section
variable {B B0:KR}{H0:AH}{w0 w:X}{g0:Gh}{ow0:Nat->Nat->Prop}
theorem W3.later{H d g e ow c js ks}(h:W3 B H w g ow (js++ks))(f:e.I=g.I)(i:∀id b,d id≠Ub->c id b->(H id≠Ub/\ow id b)\/b∈js):W3 B d w e c ks:=h.after f i
mutual
theorem Zpu(L:RH B0 H0 w0 g0 ow0):∀(p:Pat) (v:AV) (cs:V Y) (x:WH p) (ids:ZI) (l O:V Nat),(ext p v).run H0 l=Ua ((x,ids),O)->CV w0 g0 v cs->p.noAny=Uc->ids.tk.Nodup->
 ∀{H:AH}{g:Gh}{ow:Nat->Nat->Prop} (_:RH B H w g ow) (_:g0.Le g) (y:Do p) (js:V Nat) (n:Nat),PO w g.I p y js cs->W3 B H w g ow js->(∀id∈ids.tk,H id=Ub)->(∀id,n<=id->id<(Ks p v y n).2->¬g.K id)->(∀id∈ids.tk,∀u,ZgT (H0 id)=Ua u->g.ver id<n)->
  WT B H w g ow js n (Ks p v y n).2 ids.tk (Zu H (Ks p v y n).1)
 |.own t Uc,v,cs,x,ids,l,O,h,C,_,_,H,g,ow,A,j,y,js,n,M,J,Q,D,s=>by
  cases v with
  |vw id=>
   simp only[ext,J1,ZY,Zr,Va]at h;obtain⟨⟨x1,i1⟩,m,h1,⟨rfl,rfl⟩,_⟩:=h;rw[ZZ]at h1;split at h1
   .rename_i t' xs hH;simp only[ZD,Zr,Va]at h1;obtain⟨z,hz,⟨rfl,rfl⟩,_⟩:=h1;obtain⟨he,rfl⟩:=KS hz;cases he;obtain⟨d,N,hO⟩:=L.objs id _ hH;simp only[CV]at C;obtain⟨_,rfl,_⟩:=C;simp only[Ks,Zu];have a8:=(j.ty _ d).trans N;obtain⟨rfl,rfl,i⟩|⟨b,cap,cells,e,css,rfl,i,h2,h3,R,h5,h6⟩:=M
    .simp only[Hf,and_true]at i;refine A.revive1 (o:=.vec _ []) (j.K _ d) J ⟨a8,.inl ⟨rfl,?_,(j.slv _ d).trans i⟩⟩ (by simp);obtain⟨_,S,_⟩|⟨b,cap,cs,e,css,_,_,hs,_⟩:=hO
     .exact(j.blk _ d).trans S
     rw[i]at hs;cases hs
    simp only[Hf,and_true]at i;obtain⟨_,_,hs⟩|⟨b',f1,cs',e',f2,S,_,hs,_⟩:=hO;.rw[i]at hs;cases hs
    rw[i]at hs;simp only[Value.slice.injEq,Z4,Addr.mk.injEq,and_true]at hs;obtain⟨rfl,_,rfl⟩:=hs;exact A.revive1 (o:=.vec _ y) (j.K _ d) J ⟨a8,.inr ⟨b,cap,cells,e,css,(j.blk _ d).trans S,by simp,(j.slv _ d).trans i,h2,h3,R,h5,h6⟩⟩ (by simp)
   simp[Zb]at h1|_=>exact WT.none A js n ids.tk
 |.own t Ud,v,cs,x,ids,l,O,h,C,_,_,H,g,ow,A,j,y,js,n,M,J,Q,D,s=>by
  have:Ks (.own t Ud) v y n=([],n):=by cases v<;>rfl
  rw[this];exact WT.none A js n ids.tk|.var t p,v,cs,x,ids,l,O,h,C,W,a3,H,g,ow,A,j,y,js,n,M,J,Q,D,s=>by
  cases v with
  |ptr id path=>
   cases path with
   |nil=>
    simp only[ext]at h;rw[ZZ]at h;split at h
    .rename_i t' c hH;simp only[ZN,ZY,Zr,Zb,ZW,Z7,Vc,Kp,Va]at h;obtain⟨⟨rfl,d5⟩,⟨x1,i1⟩,m,h1,⟨rfl,rfl⟩,_⟩:=h;obtain⟨d,N,f4,b,cells,e,S,d7,hh,f7,f5⟩:=L.objs id _ hH;simp only[CV]at C;obtain⟨_,o,t2,b',h3,R,rfl⟩:=C;rw[WW]at h3;cases h3;rw[S]at R;cases R;obtain⟨_,b2,e9,a1,e2,rfl,i,h5,h6,h7⟩:=M;simp only[Hf,Vvb.injEq,Z4,Addr.mk.injEq,and_true]at i;obtain rfl:=i;simp only[Ks];have hn:=(Yz p y n).1;obtain⟨g1,b9,l1,a0,r1,c1,k1,o1⟩:=Zd8 p A y e9 a1.toList n h7 (J.sub (Vqa _ _)) (λid h h' =>D id h (by simpa only[Ks] using h'));have d0:g1.K id:=l1.K _ (j.K _ d);have d4:W3 B (Zu H (Wl (inj p y n).2.1)) w g1 b9 [b]:=by
      obtain⟨h8,h9⟩:=Vx.1 J.nodup;refine⟨by simp,λb' b4=>?_⟩;simp only[Vf]at b4;subst b4;obtain⟨a2,a9,a4,c5⟩:=J.free b' (by simp);refine⟨by rw[a0.I];exact a2,a9,a4,λid c6 c7=>?_⟩;obtain⟨b0,c8⟩|b0:=o1 id b' c6 c7;.exact c5 id b0 c8
      exact h8 b0
     obtain⟨g2,b1,l2,i2,r2,k2,o2,t2⟩:=r1.revive1 (n:=n) (o:=.var t' (inj p y n).1) d0 d4
      ⟨(l1.ty _ (j.K _ d)).trans ((j.ty _ d).trans N),Zjm p t' y n d5,b,a1,e2,(l1.blk _ (j.K _ d)).trans ((j.blk _ d).trans S),by simp,h5,h6,c1⟩ (tk:=id::i1.tk) (by simp)
     have c9:Zu H ((id,Ua (.var t' (inj p y n).1))::(inj p y n).2.1.map λo=>(o.1,Ua o.2))=ZX (Zu H (Wl (inj p y n).2.1)) id (Ua (.var t' (inj p y n).1)):=by simp only[Zu];refine ZgI λq hq=>?_;simp only[Vr]at hq;obtain⟨o,ho,rfl⟩:=hq;have:=(Yz p y n).2 o ho;intro e;exact D o.1 this.1 (by simpa only[Ks] using this.2) (by rw[show o.1=id from e];exact j.K _ d)
     rw[c9];refine⟨g2,b1,l1.trans l2,i2.after (a0.weak λ_ h=>by simp at h) l1,r2,λk h=>?_,λk b' h8 h9=>?_,λk h8=>?_⟩
     .obtain h|h:=k2 k h
      .exact k1 k h
      omega
     .obtain⟨a2,a9⟩|a2:=o2 k b' h8 h9
      .obtain a4|a4:=o1 k b' a2 a9
       .exact .inl a4
       exact .inr (by simp[a4])
      simp only[Vf]at a2;exact .inr (by simp[a2])
     obtain h9|h9|h9:=t2 k h8
     .by_cases b5:H k=Ub
      .right;right;have:∃q∈Wl (inj p y n).2.1,q.1=k:=by
        by_cases hq:∃q∈Wl (inj p y n).2.1,q.1=k;.exact hq
        exfalso;apply h9;rw[Zev λq d9 e=>hq ⟨q,d9,e⟩];exact b5
       obtain⟨q,hq,rfl⟩:=this;simp only[Wl,Vr]at hq;obtain⟨o,ho,rfl⟩:=hq;exact(Yz p y n).2 o ho
      exact .inl b5
     .exact .inr (.inl h9)
     omega
    simp[Zb]at h|cons a r=>
    have:Ks (.var t p) (.ptr id (a::r)) y n=([],n):=by rfl
    rw[this];exact WT.none A js n ids.tk
  |_=>exact WT.none A js n ids.tk
 |.map kt vt,v,cs,x,ids,l,O,h,C,_,_,H,g,ow,A,j,y,js,n,M,J,Q,D,s=>by
  cases v with
  |mp id=>
   simp only[ext]at h;rw[ZZ]at h;split at h;.rename_i k e m hH;simp only[ZD,Zr,Va]at h;obtain⟨z,hz,⟨rfl,rfl⟩,_⟩:=h;obtain⟨he,rfl⟩:=KS hz;cases he;obtain⟨d,b,es,clock,S,d7,hh,_,f6⟩:=L.objs id _ hH;simp only[CV]at C;obtain⟨_,b',R,rfl⟩:=C;rw[S]at R;cases R;obtain⟨b2,c4,a7,rfl,i,h5,d2,h6⟩:=M;simp only[Hf,Value.map.injEq,Z4,and_true]at i;obtain rfl:=i;simp only[Ks,Zu];exact A.revive1 (o:=.map _ _ y) (j.K _ d) J ⟨b,c4,a7,(j.blk _ d).trans S,by simp,h5,d2,h6.mono λkv e hx=>⟨⟨by simp only[CV];exact hx.1.1,.inr (by simpa[AV.isAgg] using hx.1.2)⟩,⟨by simp only[CV];exact hx.2.1,.inr (by simpa[AV.isAgg] using hx.2.2)⟩⟩⟩ (by simp)
   simp[Zb]at h|_=>exact WT.none A js n ids.tk
 |.it kt vt,v,cs,x,ids,l,O,h,C,_,_,H,g,ow,A,j,y,js,n,M,J,Q,D,s=>by
  have:Ks (.it kt vt) v y n=([],n):=by cases v<;>rfl
  rw[this];exact WT.none A js n ids.tk|.rows t Uc,v,cs,x,ids,l,O,h,C,_,_,H,g,ow,A,j,y,js,n,M,J,Q,D,s=>by
  cases v with
  |vw id=>
   simp only[ext,YW,ZY,Zr,Va]at h;obtain⟨⟨x1,i1⟩,m,h1,⟨rfl,rfl⟩,_⟩:=h;rw[ZZ]at h1;split at h1
   .rename_i t' xs u hH;simp only[ZD,Zr,Va]at h1;obtain⟨z,hz,⟨rfl,rfl⟩,_⟩:=h1;obtain⟨he,rfl⟩:=KS hz;cases he;obtain⟨d,N,_,_,hO⟩:=L.objs id _ hH;simp only[CV]at C;obtain⟨_,rfl,_⟩:=C;obtain⟨v,i,a6⟩:=M;simp only[Hf,and_true]at i;simp only[Ks,Zu];obtain⟨r,hr⟩:=a6.back (n:=n) ((j.ty _ d).trans N) ((j.slv _ d).trans i) (by
     obtain⟨_,h3,R⟩|⟨b,cap,cs',e,h3,_,R,_⟩:=hO;.exact .inl ⟨i▸R,(j.blk _ d).trans h3⟩
     exact .inr ⟨b,_,cap,i▸R,(j.blk _ d).trans h3⟩)
    exact A.revive2 (j.K _ d) (s id (by simp) u (by rw[hH];rfl)) J hr (by simp)
   simp[Zb]at h1|_=>exact WT.none A js n ids.tk
 |.rows t Ud,v,cs,x,ids,l,O,h,C,_,_,H,g,ow,A,j,y,js,n,M,J,Q,D,s=>by
  have:Ks (.rows t Ud) v y n=([],n):=by cases v<;>rfl
  rw[this];exact WT.none A js n ids.tk|.mrows kt t,v,cs,x,ids,l,O,h,C,_,_,H,g,ow,A,j,y,js,n,M,J,Q,D,s=>by
  cases v with
  |mp id=>
   simp only[ext]at h;rw[ZZ]at h;split at h;.rename_i k e m u hH;simp only[ZD,Zr,Va]at h;obtain⟨z,hz,⟨rfl,rfl⟩,_⟩:=h;obtain⟨he,rfl⟩:=KS hz;cases he;obtain⟨d,N,_,_,_,_,b,es,clock,S,_,_,_⟩:=L.objs id _ hH;simp only[CV]at C;obtain⟨_,b',R,rfl⟩:=C;rw[S]at R;cases R;obtain⟨v,i,a6⟩:=M;simp only[Hf,and_true]at i;subst i;simp only[Ks,Zu];obtain⟨r,hr⟩:=a6.back (n:=n) ((j.ty _ d).trans N) ((j.blk _ d).trans S);exact A.revive2 (j.K _ d) (s id (by simp) u (by rw[hH];rfl)) J hr (by simp)
   simp[Zb]at h|_=>exact WT.none A js n ids.tk
 |.fnd tn tq lt lb,v,cs,x,ids,l,O,h,C,_,_,H,g,ow,A,j,y,js,n,M,J,Q,D,s=>by
  cases v with
  |ptr id path=>
   cases path with
   |nil=>
    have key:id∈ids.tk/\∃b,g0.K id/\g0.blk id=Ua b/\(g0.ty id=Jn tn tq lt lb\/g0.ty id=Yx tn tq lt lb):=by
     simp only[ext]at h;rw[ZZ]at h;split at h;.rename_i hH;simp only[ZD,Zr]at h;obtain⟨z,hz,⟨_,rfl⟩,_⟩:=h;obtain⟨he,rfl⟩:=KS hz;cases he;obtain⟨d,N,b,S,hm⟩:=L.objs id _ hH;exact⟨by simp,b,d,S,N⟩
     .rename_i hH;simp only[ZN,ZY,ZD,Zr,Zb,ZW,Z7,Kp,Va]at h;obtain⟨rfl,⟨y1,i1⟩,m1,e1,⟨y2,i2⟩,m2,e2,⟨y3,i3⟩,m3,e3,⟨y4,i4⟩,m4,e4,⟨y5,i5⟩,m5,e5,⟨y6,i6⟩,m6,e6,z,hz,⟨_,rfl⟩,_⟩:=h;obtain⟨d,N,_,b,cells,e,S,_⟩:=L.objs id _ hH;exact⟨by simp,b,d,S,.inl N⟩
     simp[Zb]at h
    obtain⟨U,b,d,S,N⟩:=key;simp only[CV]at C;obtain⟨_,o',t',b',h1,R,rfl⟩:=C;rw[WW]at h1;cases h1;rw[S]at R;cases R;obtain⟨b2,i,a6⟩:=M;simp only[Hf,Vvb.injEq,Z4,Addr.mk.injEq,and_true]at i;obtain rfl:=i;simp only[Ks,Zu]
    exact A.revive1 (o:=.fnd tn tq lt lb y) (j.K _ d) J ⟨N.imp (j.ty _ d).trans (j.ty _ d).trans,b,(j.blk _ d).trans S,a6⟩ U|cons a r=>
    have:Ks (.fnd tn tq lt lb) (.ptr id (a::r)) y n=([],n):=by rfl
    rw[this];exact WT.none A js n ids.tk
  |_=>exact WT.none A js n ids.tk
 |.owo lb,v,cs,x,ids,l,O,h,C,_,_,H,g,ow,A,j,y,js,n,M,J,Q,D,s=>by
  have:Ks (.owo lb) v y n=([],n):=by cases v<;>rfl
  rw[this];exact WT.none A js n ids.tk|.agg pl,v,cs,x,ids,l,O,h,C,W,a3,H,g,ow,A,j,y,js,n,M,J,Q,D,s=>by
  cases v with
  |agg vs=>
   simp only[ext]at h;simp only[CV]at C;simp only[PO]at M;simp only[Ks]at D⊢
   exact Zkc L pl vs cs x ids l O h C (by simpa only[Pat.noAny] using W) a3 A j y js n M J Q D s|_=>exact WT.none A js n ids.tk
 |.fn f pl,v,cs,x,ids,l,O,h,C,W,a3,H,g,ow,A,j,y,js,n,M,J,Q,D,s=>by
  cases v with
  |fn f' vs=>
   simp only[ext,ZN,Zb,ZW,Z7]at h;obtain⟨d3,h⟩:=h;obtain rfl:=Vk d3;simp only[CV]at C;obtain⟨cc,rfl,C⟩:=C;obtain⟨f3,i,M⟩:=M;simp only[Hf,and_true]at i;obtain rfl:=Zvu i;simp only[Ks]at D⊢
   exact Zkc L pl vs cc x ids l O h C (by simpa only[Pat.noAny] using W) a3 A j y js n M J Q D s|_=>exact WT.none A js n ids.tk
 |.pd t,v,cs,x,ids,l,O,h,C,_,_,H,g,ow,A,j,y,js,n,M,J,Q,D,s=>by
  have:Ks (.pd t) v y n=([],n):=by cases v<;>rfl
  rw[this];exact WT.none A js n ids.tk|.ro t,v,cs,x,ids,l,O,h,C,_,_,H,g,ow,A,j,y,js,n,M,J,Q,D,s=>by
  have:Ks (.ro t) v y n=([],n):=by cases v<;>rfl
  rw[this];exact WT.none A js n ids.tk|.nilr,v,cs,x,ids,l,O,h,C,_,_,H,g,ow,A,j,y,js,n,M,J,Q,D,s=>by
  have:Ks .nilr v y n=([],n):=by cases v<;>rfl
  rw[this];exact WT.none A js n ids.tk|.nils,v,cs,x,ids,l,O,h,C,_,_,H,g,ow,A,j,y,js,n,M,J,Q,D,s=>by
  have:Ks .nils v y n=([],n):=by cases v<;>rfl
  rw[this];exact WT.none A js n ids.tk|.any,v,cs,x,ids,l,O,h,C,_,_,H,g,ow,A,j,y,js,n,M,J,Q,D,s=>by
  have:Ks .any v y n=([],n):=by cases v<;>rfl
  rw[this];exact WT.none A js n ids.tk
theorem Zkc(L:RH B0 H0 w0 g0 ow0):∀(pl:Pats) (v:ZF) (cs:V Y) (x:KX pl) (ids:ZI) (l O:V Nat),(WP pl v).run H0 l=Ua ((x,ids),O)->Kk w0 g0 v cs->pl.noAny=Uc->ids.tk.Nodup->
 ∀{H:AH}{g:Gh}{ow:Nat->Nat->Prop} (_:RH B H w g ow) (_:g0.Le g) (y:WS pl) (js:V Nat) (n:Nat),X1 w g.I pl y js cs->W3 B H w g ow js->(∀id∈ids.tk,H id=Ub)->(∀id,n<=id->id<(Xk pl v y n).2->¬g.K id)->(∀id∈ids.tk,∀u,ZgT (H0 id)=Ua u->g.ver id<n)->
  WT B H w g ow js n (Xk pl v y n).2 ids.tk (Zu H (Xk pl v y n).1)
 |.nil,v,cs,x,ids,l,O,h,C,_,_,H,g,ow,A,j,y,js,n,M,J,Q,D,s=>by
  have:Xk .nil v y n=([],n):=by cases v<;>rfl
  rw[this];exact WT.none A js n ids.tk|.cons p pl,.nil,cs,x,ids,l,O,h,C,_,_,H,g,ow,A,j,y,js,n,M,J,Q,D,s=>by simp[WP,Zb]at h|.cons p pl,.cons v vs,cs,x,ids,l,O,h,C,W,a3,H,g,ow,A,j,y,js,n,M,J,Q,D,s=>by
  simp only[WP,ZY,Zr,Va]at h;obtain⟨⟨x1,i1⟩,m1,h1,⟨x2,i2⟩,m2,h2,⟨rfl,rfl⟩,_⟩:=h;simp only[Kk]at C;obtain⟨c1,c2,rfl,h3,R⟩:=C;simp only[Pats.noAny,Vc]at W;have d6:(i1.tk++i2.tk).Nodup:=a3;obtain⟨n1,n2,n3⟩:=Ve.1 d6;obtain⟨j0,d8,_⟩:=DB L (I:=λ_=>True) (λ_ _=>trivial) p v c1 x1 i1 _ _ h1 h3 (λ_ _=>trivial) n1;have hl:=Zas p x1 j0 c1 W.1 d8;obtain⟨j1,j2,rfl,b7,b8⟩:=M;rw[Vra hl]at b7;rw[Vsa hl]at b8;simp only[Xk]at D⊢;have f8:=Zkb p v y.1 n;have f9:=Zc3 pl vs y.2 (Ks p v y.1 n).2;obtain⟨g1,b9,l1,a0,r1,k1,o1,t1⟩:=Zpu L p v c1 x1 i1 _ _ h1 h3 W.1 n1 A j y.1 j1 n b7 (J.sub (Vl _ _)) (λid h=>Q id (by simp[ZI.app,h])) (λid h h' =>D id h (by omega)) λid h=>s id (by simp[ZI.app,h]);have d1:∀id∈i2.tk,Zu H (Ks p v y.1 n).1 id=none:=λid U=>by
   by_cases b6:Zu H (Ks p v y.1 n).1 id=Ub;.exact b6
   exfalso;obtain h5|h5|h5:=t1 id b6;.exact h5 (Q id (by simp[ZI.app,U]))
   .exact n3 id h5 id U rfl
   cases a5:H0 id with|none=>exact ZaN pl vs x2 i2 _ _ h2 id U a5|some ob=>exact D id h5.1 (by omega) (j.K _ (L.objs id ob a5).1)
  obtain⟨g2,b1,l2,e7,r2,k2,o2,t2⟩:=Zkc L pl vs c2 x2 i2 _ _ h2 R W.2 n2 r1 (j.trans l1) y.2 j2 (Ks p v y.1 n).2 (by rw[a0.I];exact b8) (J.later a0.I o1) d1 (λid h h' hK=>by
   obtain h3|h3:=k1 id hK;.exact D id (by omega) h' h3
   omega) λid U u hu=>by
   have b3:g.K id:=by
    cases a5:H0 id with|none=>exact absurd a5 (ZaN pl vs x2 i2 _ _ h2 id U)|some ob=>exact j.K _ (L.objs id ob a5).1
   rw[a0.ver id b3 λh5=>n3 id h5 id U rfl];have:=s id (by simp[ZI.app,U]) u hu;omega
  rw[XB];refine⟨g2,b1,l1.trans l2,(e7.weak λk D=>by simp[ZI.app,D]).after (a0.weak λk D=>by simp[ZI.app,D]) l1,r2,λid h=>?_,λid b' h5 h6=>?_,λid h5=>?_⟩
  .obtain h|h:=k2 id h
   .obtain h|h:=k1 id h
    .exact .inl h
    exact .inr (by omega)
   exact .inr (by omega)
  .obtain⟨h7,h8⟩|h7:=o2 id b' h5 h6
   .obtain h9|h9:=o1 id b' h7 h8
    .exact .inl h9
    exact .inr (by simp[h9])
   exact .inr (by simp[h7])
  obtain h6|h6|h6:=t2 id h5
  .obtain h7|h7|h7:=t1 id h6
   .exact .inl h7
   .exact .inr (.inl (by simp[ZI.app,h7]))
   exact .inr (.inr (by omega))
  .exact .inr (.inl (by simp[ZI.app,h6]))
  exact .inr (.inr (by omega))
end
end
theorem Rd.flat{w w' I I'}:∀t x cs,t.flat=Uc->Rd w I t x cs->Rd w' I' t x cs
 |.int _,_,_,_,h|.bool,_,_,_,h|.str,_,_,_,h|.unit,_,_,_,h=>h|.sl t,_,_,d,_=>by simp[Ty.flat]at d|.prod a b,x,cs,d,h=>by
  simp[Ty.flat]at d;have⟨k,l,f,i,j⟩:=h
  exact⟨k,l,f,Rd.flat a _ _ d.1 i,Rd.flat b _ _ d.2 j⟩|.arr n t,x,cs,d,h=>by
  have⟨f,e,i,j⟩:=h
  exact⟨f,e,i,j.mono λy c m=>Rd.flat t y c d m⟩|.ref,_,_,_,h=>h.elim|.pt _,_,_,d,_|.lk _ _,_,_,d,_|.pn _,_,_,d,_=>by simp[Ty.flat]at d
section
variable {w:X}{I I' :Nat->Prop}
theorem WF.flat{J t xs v}(p:t.flat=Uc)(h:WF w I J t xs v):WF w I' J t xs v:=by
 obtain h|⟨b,cap,cs,e,d,f,i,j,k,l,m,n⟩:=h;.exact .inl h
 exact .inr ⟨b,cap,cs,e,d,f,i,j,k,l,m.mono λx c q=>Rd.flat t x c p q,n⟩
theorem Xs.flat{J t xs v}(i:t.flat=Uc)(h:Xs w I J t xs v):Xs w I' J t xs v:=by have⟨f,⟨d,c⟩,e⟩:=h;exact⟨f,⟨d,λk x a b=>(c.rd k x a b).flat i,c.ds,c.tp⟩,e⟩
theorem HC.flat{J c t m v}(u:c.flat=Uc)(s:t.flat=Uc)(h:HC w I J c t m v):HC w I' J c t m v:=by have⟨row,b,es,clock,j,l,n,f,d,p,q,r⟩:=h;exact⟨row,b,es,clock,j,l,n,f,⟨λk x a b=>(d.rd k x a b).flat s,d.ds,d.tp⟩,p,q,r.mono λkv e i=>⟨⟨Rd.flat c _ _ u i.1.1,i.1.2⟩,i.2⟩⟩
mutual
theorem PC.flat:∀(p:Pat) (x:WH p) (js:V Nat) (cs:V Y),p.flat=Uc->PC w I p x js cs->PC w I' p x js cs
 |.pd t,x,js,cs,d,h=>⟨h.1,Rd.flat t x cs d h.2⟩|.own t k,x,js,cs,d,h=>by
  simp only[PC]at h⊢;obtain h|⟨b,cap,cells,e,css,q,i,j,n,r,s,z⟩:=h;.exact .inl h
  exact .inr ⟨b,cap,cells,e,css,q,i,j,n,r,s.mono λx c m=>Rd.flat t x c d m,z⟩|.var t p,x,js,cs,d,h=>by
  obtain⟨q,b,u,cells,e,i,j,n,r,s⟩:=h
  exact⟨q,b,u,cells,e,i,j,n,r,PC.flat p x u _ d s⟩|.ro t,_,_,_,d,_=>by simp[Pat.flat]at d|.map y C,x,js,cs,d,h=>by
  simp only[Pat.flat,Vc]at d;obtain⟨b,es,clock,i,j,n,A,r⟩:=h
  exact⟨b,es,clock,i,j,n,A,r.mono λx e m=>⟨⟨Rd.flat y _ _ d.1 m.1.1,m.1.2⟩,Rd.flat C _ _ d.2 m.2.1,m.2.2⟩⟩|.it y C,x,js,cs,d,h=>by
  simp only[Pat.flat,Vc]at d;obtain⟨b,N,es,clock,since,seen,q,i,j,n,r,s,z⟩:=h
  exact⟨b,N,es,clock,since,seen,q,i,j,n,r,s,z.mono λx e m=>⟨⟨Rd.flat y _ _ d.1 m.1.1,m.1.2⟩,Rd.flat C _ _ d.2 m.2.1,m.2.2⟩⟩|.rows t k,x,js,cs,d,h=>by
  obtain⟨v,i,j⟩:=h
  exact⟨v,i,j.flat d⟩|.mrows y t,x,js,cs,d,h=>by
  simp only[Pat.flat,Vc]at d;obtain⟨v,i,j⟩:=h
  exact⟨v,i,j.flat d.1 d.2⟩|.fnd _ _ _ _,_,_,_,d,_|.owo _,_,_,_,d,_=>by simp[Pat.flat]at d|.agg l,x,js,cs,d,h=>by
  simp only[PC]at h⊢
  exact J8.flat l x js cs d h|.fn f l,x,js,cs,d,h=>by
  obtain⟨K,i,j⟩:=h
  exact⟨K,i,J8.flat l x js K d j⟩|.nilr,_,_,_,_,h|.nils,_,_,_,_,h|.any,_,_,_,_,h=>h
theorem J8.flat:∀(l:Pats) (x:KX l) (js:V Nat) (cs:V Y),l.flat=Uc->J8 w I l x js cs->J8 w I' l x js cs|.nil,_,_,_,_,h=>h|.cons p l,x,js,cs,d,h=>by simp only[Pats.flat,Vc]at d;obtain⟨L,M,D,J,q,i,j,n⟩:=h;exact⟨L,M,D,J,q,i,PC.flat p x.1 L D d.1 j,J8.flat l x.2 M J d.2 n⟩
end
theorem J9.flat:∀l x js vs,l.flat=Uc->J9 w I l x js vs->J9 w I' l x js vs|.nil,_,_,_,_,h=>h|.cons p l,x,js,vs,b,h=>by simp[Pats.flat]at b;have⟨d,e,v,r,f,i,c,j⟩:=h;exact⟨d,e,v,r,f,i,⟨PC.flat p x.1 d _ b.1 c.1,c.2⟩,J9.flat l x.2 e r b.2 j⟩
mutual
theorem PO.flat:∀(p:Pat) (y:Do p) (js:V Nat) (cs:V Y),p.oflat=Uc->PO w I p y js cs->PO w I' p y js cs
 |.own t Uc,y,js,cs,b,h=>PC.flat (.own t Uc) y js cs (by simpa[Pat.oflat,Pat.flat] using b) h|.own t Ud,_,_,_,_,h=>h|.var t p,y,js,cs,b,h=>PC.flat (.var t p) y js cs (by simpa only[Pat.oflat,Pat.flat] using b) h|.map e n,y,js,cs,b,h=>PC.flat (.map e n) y js cs (by simpa only[Pat.oflat,Pat.flat] using b) h|.rows t Uc,y,js,cs,b,h=>PC.flat (.rows t Uc) y js cs (by simpa[Pat.oflat,Pat.flat] using b) h|.rows t Ud,_,_,_,_,h=>h|.mrows e t,y,js,cs,b,h=>PC.flat (.mrows e t) y js cs (by simpa only[Pat.oflat,Pat.flat] using b) h|.agg l,y,js,cs,b,h=>by
  simp only[PO]at h⊢
  exact X1.flat l y js cs (by simpa only[Pat.oflat] using b) h|.fn f l,y,js,cs,b,h=>by
  obtain⟨i,c,d⟩:=h
  exact⟨i,c,X1.flat l y js i (by simpa only[Pat.oflat] using b) d⟩|.fnd _ _ _ _,_,_,_,b,_=>by simp[Pat.oflat]at b|.owo _,_,_,_,_,h|.it _ _,_,_,_,_,h|.pd _,_,_,_,_,h|.ro _,_,_,_,_,h|.nilr,_,_,_,_,h|.nils,_,_,_,_,h|.any,_,_,_,_,h=>h
theorem X1.flat:∀(l:Pats) (y:WS l) (js:V Nat) (cs:V Y),l.oflat=Uc->X1 w I l y js cs->X1 w I' l y js cs|.nil,_,_,_,_,h=>h|.cons p l,y,js,cs,b,h=>by simp only[Pats.oflat,Vc]at b;obtain⟨j,k,m,c,d⟩:=h;exact⟨j,k,m,PO.flat p y.1 j _ b.1 c,X1.flat l y.2 k _ b.2 d⟩
end
theorem H9.flat:∀l y js vs,l.oflat=Uc->H9 w I l y js vs->H9 w I' l y js vs|.nil,_,_,_,_,h=>h|.cons p l,y,js,vs,b,h=>by simp[Pats.oflat]at b;have⟨c,d,v,r,e,f,i,j⟩:=h;exact⟨c,d,v,r,e,f,PO.flat p y.1 c _ b.1 i,H9.flat l y.2 d r b.2 j⟩
mutual
theorem PO.mono(c:∀b,I b->I' b):∀(p:Pat) (y:Do p) (js:V Nat) (cs:V Y),PO w I p y js cs->PO w I' p y js cs
 |.own t Uc,y,js,cs,h=>PC.mono (λ_ _=>rfl) c (.own t Uc) y js cs (λ_ _=>rfl) h|.own t Ud,_,_,_,h=>h|.var t p,y,js,cs,h=>PC.mono (λ_ _=>rfl) c (.var t p) y js cs (λ_ _=>rfl) h|.map i q,y,js,cs,h=>PC.mono (λ_ _=>rfl) c (.map i q) y js cs (λ_ _=>rfl) h|.rows t Uc,y,js,cs,h=>PC.mono (λ_ _=>rfl) c (.rows t Uc) y js cs (λ_ _=>rfl) h|.rows t Ud,_,_,_,h=>h|.mrows i t,y,js,cs,h=>PC.mono (λ_ _=>rfl) c (.mrows i t) y js cs (λ_ _=>rfl) h|.agg l,y,js,cs,h=>by
  simp only[PO]at h⊢
  exact X1.mono c l y js cs h|.fn f l,y,js,cs,h=>by
  obtain⟨j,d,e⟩:=h
  exact⟨j,d,X1.mono c l y js j e⟩|.owo _,_,_,_,h|.it _ _,_,_,_,h|.pd _,_,_,_,h|.ro _,_,_,_,h|.nilr,_,_,_,h|.nils,_,_,_,h|.any,_,_,_,h=>h|.fnd tn tq lt lb,y,js,cs,h=>PC.mono (λ_ _=>rfl) c (.fnd tn tq lt lb) y js cs (λ_ _=>rfl) h
theorem X1.mono(c:∀b,I b->I' b):∀(l:Pats) (y:WS l) (js:V Nat) (cs:V Y),X1 w I l y js cs->X1 w I' l y js cs|.nil,_,_,_,h=>h|.cons p l,y,js,cs,h=>by obtain⟨k,m,n,d,e⟩:=h;exact⟨k,m,n,PO.mono c p y.1 k _ d,X1.mono c l y.2 m _ e⟩
end
theorem H9.mono(c:∀b,I b->I' b):∀l y js vs,H9 w I l y js vs->H9 w I' l y js vs|.nil,_,_,_,h=>h|.cons p l,y,js,vs,h=>by have⟨d,e,v,r,f,i,j,k⟩:=h;exact⟨d,e,v,r,f,i,PO.mono c p y.1 d _ j,H9.mono c l y.2 e r k⟩
end
def Zaj:V Y->Y|[v]=>v|vs=>.tuple vs.toArray
def RV(w:X)(I:Nat->Prop) l(x:KX l)(js:V Nat)(v:Y):Prop:= ∃vs,J9 w I l x js vs/\v=Zaj vs
def Rv(S:Spec)(w:X)(I:Nat->Prop)(js:V Nat)(c:V Y)(z:WS S.args×KX S.res)(rv:Y)(w' :X):Prop:=
 ∃I' d e,H9 w' I' S.args z.1 d c/\RV w' I' S.res z.2 e rv/\(d++e).Nodup/\(∀b∈d++e,¬I' b/\b<w'.heap.size/\(b∈js\/w.heap.size<=b))/\(∀b,I b->I' b)/\
  (∀b,I' b->b<w'.heap.size/\(I b\/b∈js\/w.heap.size<=b))/\w'.os=w.os/\w'.tape=w.tape/\Y5 S.pl w' w/\w.heap.size<=w'.heap.size/\∀b,b<w.heap.size->b ∉ js->w'.heap[b]? =w.heap[b]?
def GK (P:Program) (w:World) (J:Nat→Prop):Prop:= ∀b,P.globalNamed "internal/strconv.uint64pow10" =some b→b<w.heap.size∧ ¬J b∧Lib.TabIs P w "internal/strconv.uint64pow10" .u64 Lib.pow10Tab
theorem GK.after{P B H w g ow}(h:GK P B.w0 B.own0)(d:RH B H w g ow){js:V Nat}(j:∀b∈js,B.own0 b\/B.w0.heap.size<=b):GK P w (· ∈js):=by intro b i;have⟨c,e,f⟩:=h b i;refine⟨Nat.lt_of_lt_of_le c d.size,by grind,?_⟩;have:=d.kept b c e;unfold Lib.TabIs World.var? at f⊢;grind
def RB(kp:V (Nat×Nat×Nat))(d:V Y)(w w' :X):Prop:=
 ∀k∈kp,∀b,d[k.1]? =Ua (.pointer (Ua ⟨b,0,Ub⟩))->∀cs e,w.heap[b]? =Ua (.cells cs e (0,0))->∃c f,w'.heap[b]? =Ua (.cells c f (0,0))/\c[k.2.2]? =cs[k.2.2]?
def Zb9(P:Program)(f:FuncId)(S:Spec):Prop:=
 ∀w I c d x z,J9 w I S.args x d c->d.Nodup->(∀b∈d,¬I b/\b<w.heap.size)->(∀b,I b->b<w.heap.size)->(S.pl=Ud->GK P w (· ∈d))->S.f x=Ua z->
  Calls P f c.toArray w λe i=>∃h,e=.returned h/\Rv S w I d c (S.unp z) h i/\RB S.kp c w i
structure ZR (P:Program) (f:FuncId) (S:Spec):Prop where
 wf:S.args.wf=Uc
 fn:∃fn,P.funcs[f]? =some fn∧fn.body.isNone=false∧(fn.name== "runtime.NumGoroutine")=false
 run:∀(w:X) (I:Nat->Prop) (vals:V Y) (js:V Nat) (x:KX S.args) (z:S.α),J9 w I S.args x js vals->js.Nodup->(∀b∈js,¬I b/\b<w.heap.size)->(∀b,I b->b<w.heap.size)->(S.pl=Ud->GK P w (· ∈js))->S.f x=Ua z->
  Calls P f vals.toArray w λe w' =>∃rv,e=.returned rv/\Rv S w I js vals (S.unp z) rv w'
 kept:S.kp=[]\/Zb9 P f S:=by exact .inl rfl
theorem ZR.keptRun{P f S}(h:ZR P f S):Zb9 P f S:=by
 obtain c|c:=h.kept;.intro w I b r x z d i j l m n;refine(h.run w I b r x z d i j l m n).mono ?_;rintro e u ⟨s,p,q⟩;exact⟨s,p,q,by intro k t;grind⟩
 omega
section
variable {P:Program}{B B0:KR}{H H0:AH}{w w0:X}{g g0:Gh}{ow ow0:Nat->Nat->Prop}
theorem Zpt(e:RH B0 H0 w0 g0 ow0):∀pl v b x ids l M,(WP pl v).run H0 l=Ua ((x,ids),M)->Jd w0 g0 v b->pl.wf=Uc->ids.tk.Nodup->
 ∀{H}{g}{ow} (_:RH B H w g ow) (_:g0.Le g) y js n,H9 w g.I pl y js b->W3 B H w g ow js->(∀id∈ids.tk,H id=Ub)->(∀id,n<=id->id<(Xk pl v y n).2->¬g.K id)->(∀id∈ids.tk,∀u,ZgT (H0 id)=Ua u->g.ver id<n)->
  WT B H w g ow js n (Xk pl v y n).2 ids.tk (Zu H (Xk pl v y n).1)
 |.nil,v,b,x,ids,l,M,h,R,_,_,H,g,ow,z,q,y,js,n,hp,J,D,j,f=>by exact WT.none z js n ids.tk|.cons p pl,.nil,b,x,ids,l,M,h,R,_,_,H,g,ow,z,q,y,js,n,hp,J,D,j,f=>by simp[WP,Zb]at h|.cons p pl,.cons v vs,b,x,ids,l,M,h,R,a3,W,H,g,ow,z,q,y,js,n,hp,J,D,j,f=>by
  simp only[WP,ZY,Va]at h;obtain⟨⟨x1,L⟩,m1,h1,⟨x2,C⟩,m2,N,⟨rfl,rfl⟩,_⟩:=h;obtain⟨u,r,rfl,h3,h4⟩:=R;have A:pl.wf=Uc/\(p=.any\/p.noAny=Uc):=by
   cases p<;>simp[Pats.wf]at a3<;>first|grind|grind
  have S:(L.tk++C.tk).Nodup:=W;have⟨n1,n2,n3⟩:=Ve.1 S;obtain⟨j1,j2,u',r',rfl,a2,a1,a6⟩:=hp;obtain⟨rfl,rfl⟩:=List.cons.inj a2;simp[Xk]at j⊢;have a7:=Zkb p v y.1 n;have a8:=Zc3 pl vs y.2 (Ks p v y.1 n).2;have key:WT B H w g ow j1 n (Ks p v y.1 n).2 L.tk (Zu H (Ks p v y.1 n).1):=by
   obtain rfl|U:=A.2;.exact WT.none z j1 n L.tk
   exact Zpu e p v u.cells.toList x1 L _ _ h1 h3.1 U n1 z q y.1 j1 n a1 (J.sub (Vl _ _)) (λid h=>D id (by simp[ZI.app,h])) (by grind) λid h=>f id (by simp[ZI.app,h])
  have⟨g1,a9,l1,i,r1,k1,o1,t1⟩:=key;have Q:∀id∈C.tk,Zu H (Ks p v y.1 n).1 id=none:=λid d=>by
   by_cases a0:Zu H (Ks p v y.1 n).1 id=Ub;.omega
   exfalso;obtain m|m|m:=t1 id a0;.exact m (D id (by simp[ZI.app,d]))
   .grind
   cases c:H0 id with|none=>exact ZaN pl vs x2 C _ _ N id d c|some ob=>exact j id m.1 (by omega) (q.K _ (e.objs id ob c).1)
  have⟨g2,a5,l2,a4,r2,k2,o2,t2⟩:=Zpt e pl vs r x2 C _ _ N h4 A.1 n2 r1 (q.trans l1) y.2 j2 (Ks p v y.1 n).2 (by rw[i.I];omega) (J.later i.I o1) Q (by grind) λid d u hu=>by
   have t:g.K id:=by
    cases c:H0 id with|none=>exact absurd c (ZaN pl vs x2 C _ _ N id d)|some ob=>exact q.K _ (e.objs id ob c).1
   rw[i.ver id t (by grind)];have:=f id (by simp[ZI.app,d]) u hu;omega
  rw[XB];refine⟨g2,a5,l1.trans l2,(a4.weak λk j=>by simp[ZI.app,j]).after (i.weak λk j=>by simp[ZI.app,j]) l1,r2,λid h=>?_,λid b' m s=>?_,λid m=>?_⟩;.grind
  .grind
  obtain s|s|s:=t2 id m
  .obtain O|O|O:=t1 id s
   .grind
   .exact .inr (.inl (by simp[ZI.app,O]))
   omega
  .exact .inr (.inl (by simp[ZI.app,s]))
  omega
theorem ZI.ok_iff{i:ZI}{fz}(h:i.ok fz=Uc):i.tk.Nodup/\(∀n∈i.br,n ∉ i.tk)/\∀n∈i.tk,n ∉ fz:=by simp[ZI.ok]at h;exact⟨ZgA.1 h.1.1,ZaM.1 h.1.2,ZaM.1 h.2⟩
theorem Zrt{l vs}(h:Jd w g l vs):VR w g (ZqC l) (Zaj vs):=by
 cases l with
 |nil=>subst h;exact⟨[],rfl,rfl⟩|cons a l=>
  obtain⟨v,r,rfl,d,e⟩:=h
  cases l with
  |nil=>subst e;exact .of1 d|cons b l=>
   obtain⟨v2,c,rfl,f,i⟩:=e;exact⟨v::v2::c,rfl,v,v2::c,rfl,d,v2,c,rfl,f,i⟩
theorem Zhn(e:RH B H w g ow){n r}:∀tk {l i},(Zdi n tk).run H l=Ua (r,i)->∀id∈tk,∀u,ZgT (H id)=Ua u->g.ver id<n
 |[],l,i,h,id,b=>by grind|k::tk,l,i,h,id,b=>by
  simp[Zdi]at h;rw[ZZ]at h;intro u d;split at h
  .rename_i c;simp[ZN,Zb,Z7]at h;obtain rfl|b:=Vn.1 b
   .have f:g.ver id=_:=(e.objs id _ c).2.2.1;simp_all
   exact Zhn e tk h.2 id b u d
  .rename_i c;simp[ZN,Zb,ZW]at h;obtain rfl|b:=Vn.1 b
   .have f:g.ver id=_:=(e.objs id _ c).2.2.1;simp_all
   exact Zhn e tk h.2 id b u d
  rename_i f j;obtain rfl|b:=Vn.1 b
  .exfalso
   cases c:H id with|none=>rw[c]at d;cases d|some o=>cases o<;>rw[c]at d<;>first|exact f _ _ _ _ c|exact(by grind) |cases d
  exact Zhn e tk h id b u d
theorem Zs4{f S}(hS:ZR P f S)(hA:B.pl=Ud->GK P B.w0 B.own0)(b7:B.pl=Uc->S.pl=Uc)(d:RH B H w g ow){nid}(hk:∀id,g.K id->id<nid\/nid+Wv<=id){q n}(hv:Jd w g q n){v patch rd}
 {l} (h:(Zik S nid q).run H l=Ua ((v,patch),rd)):
 Calls P f n.toArray w λe w' =>∃rv g' c4,e=.returned rv/\RH B (Zu H patch) w' g' c4/\g.Le g' /\Kt g.I w w' /\VR w' g' v rv/\(∀id,g'.K id->g.K id\/(nid<=id/\id<nid+Wv))/\RB S.kp n w w' :=by
 simp only[Zik,ZY,ZD,Zr,Va]at h;obtain⟨⟨x,ids⟩,m,hx,_,b5,_,_,c1,ds,_,D,z,hz,_,hq,⟨rfl,rfl⟩,_⟩:=h;have⟨a2,c6,_⟩:=ZI.ok_iff (Gu b5);have a1:=Gu hq;simp[Nat.ble_eq]at a1;have⟨js,b8,b3,J⟩:=ZmZ d (I:=λb=>g.I b\/ZO H ow ids.br b) (by grind) _ _ _ _ _ _ _ hx hv (by grind) a2;have d1:∀b∈js,¬g.I b/\b<w.heap.size/\(B.own0 b\/B.w0.heap.size<=b):=λb c=>by have⟨id,_,r,p⟩:=J b c;exact d.sep id b r p
 have b2:∀b∈js,¬ZO H ow ids.br b:=λb c h=>by have⟨id,r,p⟩:=HT d h (J b c);grind
 refine(hS.keptRun w _ n js x z b8 b3 (by grind) (λb c=>?_) (λhf=>(hA (by grind)).after d (by grind)) hz).mono ?_
 .obtain c|⟨id,_,r,p⟩:=c
  .exact d.ilt b c
  exact(d.sep id b r p).2.1
 rintro e w' ⟨rv,rfl,⟨I',jo,jr,a5,⟨R,a7,rfl⟩,a3,b1,a9,a8,b6,N,a4,b9,j⟩,b4⟩;generalize d0:(S.res.flat&&S.args.oflat)=i at a1 D⊢;have s:∀id,Zu H ((ids.tk.map λid=>(id,Ub))++(bif i then [] else ids.br.map λid=>(id,Ub))) id≠Ub->H id≠Ub/\id ∉ ids.tk/\(i=Ud->id ∉ ids.br):=by
  intro id;rw[XB]
  cases i with
  |true=>simp[Zf,Zu];rw[RY];grind|false=>
   simp[Ze];rw[RY];split;.simp
   rename_i hi;rw[RY];grind
 have U:RH B (Zu H ((ids.tk.map λid=>(id,Ub))++(bif i then [] else ids.br.map λid=>(id,Ub)))) w g ow:=by
  rw[XB]
  cases i with|true=>exact d.drops _|false=>exact(d.drops _).drops _
 have c8:∀b,(b∈js\/w.heap.size<=b)->∀id,Zu H ((ids.tk.map λid=>(id,Ub))++(bif i then [] else ids.br.map λid=>(id,Ub))) id≠Ub->¬ow id b:=by
  intro b c id k ho;have⟨r,p,_⟩:=s id k;obtain c|c:=c;.have⟨O,t,C,h5⟩:=J b c;have:=d.dist id O b r C ho h5;grind
  have:=(d.sep id b r ho).2.1;omega
 have c7:∀b,(b∈js\/w.heap.size<=b)->(B.own0 b\/B.w0.heap.size<=b):=by
  intro b c;obtain c|c:=c;.grind
  have:=d.size;omega
 have b0:RH B (Zu H ((ids.tk.map λid=>(id,Ub))++(bif i then [] else ids.br.map λid=>(id,Ub)))) w' (g.grow λb=>i=Ud/\I' b) ow:=
  U.call (js:=js) j b9 b6 N (a4.weak b7) (by grind) (by
   rintro b ⟨hf,c⟩;have⟨r,p⟩:=a8 b c;refine⟨r,?_,λid k ho=>?_⟩
   .rcases p with (p|⟨id,_,t,C⟩) |p
    .exact d.inew b p
    .exact .inr (d.sep id b t C).2.2
    grind
   rcases p with (p|⟨O,h5,t,C⟩) |p;.exact(U.sep id b k ho).1 p
   .have⟨h6,_,h7⟩:=s id k;have:=d.dist id O b h6 t ho C;grind
   grind)
 have A:i=Ud->∀b,I' b->(g.grow λb=>i=Ud/\I' b).I b:=λhf b c=>.inr ⟨hf,c⟩;have a6:H9 w' (g.grow λb=>i=Ud/\I' b).I S.args (S.unp z).1 jo n:=by
  cases i with|true=>exact a5.flat _ _ _ _ (by grind)|false=>exact a5.mono (A rfl)
 have c9:J9 w' (g.grow λb=>i=Ud/\I' b).I S.res (S.unp z).2 jr R:=by
  cases i with|true=>exact a7.flat _ _ _ _ (by grind)|false=>exact J9.mono (λ_ _=>rfl) (A rfl) (by simp) a7
 have a0:W3 B (Zu H ((ids.tk.map λid=>(id,Ub))++(bif i then [] else ids.br.map λid=>(id,Ub)))) w' (g.grow λb=>i=Ud/\I' b) ow (jo++jr):=
  ⟨a3,λb c=>⟨λhI=>by
    obtain hI|hI:=hI;all_goals grind,by grind,by grind,by grind⟩⟩
 have m1:=Zc3 S.args q (S.unp z).1 nid;have m2:=(ZbH S.res (S.unp z).2 (Xk S.args q (S.unp z).1 nid).2).1;have hN:∀id∈ids.tk,Zu H ((ids.tk.map λid=>(id,Ub))++(bif i then [] else ids.br.map λid=>(id,Ub))) id=none:=by grind
 have⟨g1,d2,l1,i1,r1,k1,o1,_⟩:=Zpt d _ _ _ _ _ _ _ hx hv hS.wf a2 b0 (g.le_grow _) (S.unp z).1 jo nid a6 (a0.sub (Vl _ _)) hN (λid r p hK=>by
  obtain t|t:=hk id hK<;>omega) (λid k u hu=>Zhn d _ c1 id k u hu)
 have⟨g2,c5,l2,i2,r2,c2,k2,_⟩:=Zgf S.res r1 (S.unp z).2 jr R (Xk S.args q (S.unp z).1 nid).2 (by rw[i1.I];omega) (a0.later i1.I o1) (λid r p hK=>by
  obtain t|t:=k1 id hK;.obtain C|C:=hk id t<;>omega
  omega)
 have y:g.Le g2:=(g.le_grow _).trans (l1.trans l2);have W:∃Q,RH B (Zu (Zu (Zu (Zu H ((ids.tk.map λid=>(id,Ub))++(bif i then [] else ids.br.map λid=>(id,Ub)))) (Xk S.args q (S.unp z).1 nid).1) ((Z5 S.res (S.unp z).2 (Xk S.args q (S.unp z).1 nid).2).2.1.map λo=>(o.1,Ua o.2))) ds) w' g2 Q:=by
  cases i with
  |true=>
   obtain⟨rfl,_⟩:=D
   exact⟨c5,r2⟩|false=>
   have M:∀b,I' b->g2.I b:=λb c=>l2.I b (l1.I b (by grind));exact ZdO d y (λb c=>j b (d.ilt b c) (by grind)) ids.br ds _ _ D (λid k b L c=>⟨M b (a9 b (.inr ⟨id,k,L,c⟩)),j b (d.sep id b L c).2.1 λhj=>b2 b hj ⟨id,k,L,c⟩⟩) r2
 have⟨Q,r3⟩:=W;refine⟨Zaj R,g2,Q,rfl,?_,y,λb c=>j b (d.ilt b c) (by grind),Zrt c2,λid h=>?_,b4⟩;.rw[XB,XB,XB];omega
 obtain h|h:=k2 id h
 .obtain h|h:=k1 id h
  .exact .inl h
  omega
 omega
theorem ZjB:∀p H id o,Rh id p=Ua o->Zu H p id=o
 |[],_,_,_,h=>by simp[Rh]at h|a::l,H,id,o,h=>by
  simp[Rh]at h;simp[Zu]
  cases c:Rh id l with
  |some j=>
   rw[c]at h;simp[Z4]at h;subst h
   exact ZjB l _ id _ c|none=>
   rw[c]at h
   cases e:Vo a.1 id with
   |false=>grind|true=>
    rw[e]at h;simp[Zf]at h;have:=Vk e;have key:∀l H,Rh id l=Ub->Zu H l id=H id:=by
     intro l
     induction l with
     |nil=>intro H _;rfl|cons b l i=>
      intro H c;simp[Rh]at c
      cases d:Rh id l with
      |some j=>grind|none=>
       cases f:Vo b.1 id with
       |true=>grind|false=>
        simp[Zu];rw[i _ d,KB];grind
    rw[key l _ c,<-this,XY,<-h]
theorem Zpb:∀(c:ZF) t k a b,c.fits t=Uc->c.nth k=Ua (.vw a)->(c.putNth k (.vw b)).fits t=Uc
 |.nil,_,k,_,_,_,h=>by assumption|.cons v l,t,0,a,b,d,h=>by
  simp[ZF.nth]at h;subst h
  cases t with
  |prod p q=>
   simp[ZF.fits,ZF.putNth]at d⊢;refine⟨?_,d.2⟩
   cases p<;>first|rfl|exact d.1
  |_=>assumption
 |.cons v l,t,k+1,a,b,d,h=>by
  cases t with
  |prod p q=>
   simp[ZF.fits,ZF.putNth]at d⊢
   exact⟨d.1,Zpb l _ k a b d.2 h⟩|_=>assumption
theorem Zpa:∀c cs k a b,Kk w g c cs->c.nth k=Ua (.vw a)->g.K b->g.slv b=g.slv a->Kk w g (c.putNth k (.vw b)) cs
 |.nil,_,k,_,_,_,h,_,_=>by assumption|.cons v l,cs,0,a,b,m,h,n,p=>by
  simp[ZF.nth]at h;subst h;have⟨e,d,f,i,j⟩:=m;refine⟨e,d,f,?_,j⟩;simp[CV]at i⊢
  grind|.cons v l,cs,k+1,a,b,m,h,n,p=>by have⟨e,d,f,i,j⟩:=m;exact⟨e,d,f,i,Zpa l d k a b j h n p⟩
theorem ZcV:∀c t cs k a,c.fits t=Uc->Kk w g c cs->c.nth k=Ua (.vw a)->g.K a/\cs[Za1 t k]? =Ua (g.slv a)
 |.nil,_,_,k,_,_,_,h=>by simp[ZF.nth]at h|.cons v l,t,cs,0,a,b,f,h=>by
  simp[ZF.nth]at h;subst h;obtain⟨i,j,rfl,d,m⟩:=f;obtain⟨e,rfl,_⟩:=d;refine⟨e,?_⟩
  cases t<;>simp[Za1]<;>rfl|.cons v l,t,cs,k+1,a,b,f,h=>by
  obtain⟨i,j,rfl,d,m⟩:=f
  cases t with
  |prod p q=>
   simp[ZF.fits]at b;have n:=CV.length v p i b.1 d;have⟨e,r⟩:=ZcV l q j k a b.2 m h;refine⟨e,?_⟩;simp[Za1]
   grind|_=>simp[ZF.fits]at b
theorem ZhU:∀l vs i v,Jd w g l vs->l.nth i=Ua v->∃u,vs[i]? =Ua u/\Kw w g v u
 |.nil,_,i,_,_,h=>by simp[ZF.nth]at h|.cons a l,vs,0,v,b,h=>by
  simp[ZF.nth]at h;obtain⟨u,r,rfl,d,_⟩:=b
  grind|.cons a l,vs,i+1,v,b,h=>by obtain⟨u,r,rfl,_,c⟩:=b;exact ZhU l r i v c h
theorem Zo8{v id}(h:Kw w g (.ptr id []) v):g.K id/\∃b,g.blk id=Ua b/\v=.pointer (Ua ⟨b,0,Ub⟩):=by
 have⟨d,c⟩:=h;simp only[CV,ZV]at d;have⟨i,o,t,b,e,f,j⟩:=d;cases e;refine⟨i,b,f,?_⟩;obtain c|c:=c;.grind
 cases v<;>simp_all[Value.cells,Kb,AV.isAgg]
theorem Zpv(m:RH B H w g ow){d nid e k T t c xs}(hS:H d=Ua (.var T (.agg c)))(hn:c.nth k=Ua (.vw nid))(hN:H nid=Ua (.vec t xs))(s:g.K e)(y:g.slv e=g.slv nid)(U:g.ty e=t)
 (W:(g.blk e=Ub/\g.slv e=.slice Ub 0 0)\/∃b len cap,g.blk e=Ua b/\g.slv e=.slice (Ua ⟨b,0,Ub⟩) len cap) (S:nid≠d) (a8:e≠d):
 ∃a6,RH B (ZX (ZX (ZX (ZX H nid Ub) d Ub) e (Ua (.vec t xs))) d (Ua (.var T (.agg (c.putNth k (.vw e)))))) w g a6:=by
 have⟨M,h2,O,b',L,e',N,x,Q,z,u⟩:=m.objs d _ hS;have⟨_,a9,a7⟩:=m.objs nid _ hN;have a0:ORel w g (ow nid) e (.vec t xs):=by refine⟨U,?_⟩;grind
 have r1:RH B (ZX (ZX H nid Ub) d Ub) w g ow:=(m.drop nid).drop d;have j:∀id,ZX (ZX H nid Ub) d Ub id≠Ub->id≠d/\id≠nid/\H id≠none:=λid h=>by have⟨A,r⟩:=YZ h;have⟨C,D⟩:=YZ r;grind
 have n:H nid≠none:=by grind
 have p:H d≠none:=by grind
 have r2:=r1.revive s (λb q=>by have⟨A,r,C⟩:=m.sep nid b n q;refine⟨A,r,C,λi l f=>?_⟩;have⟨_,D,J⟩:=j i l;exact D (m.dist i nid b J n f q)) a0;refine⟨_,r2.revive M (λb q=>?_) ⟨h2,?_,b',L,e',N,x,Q,z,?_⟩⟩
 .have⟨A,r,C⟩:=m.sep d b p q;refine⟨A,r,C,λi l f=>?_⟩;by_cases R:i=e
  .subst R;rw[Xd]at f;exact S (m.dist nid d b n p f q)
  rw[Je R]at f;rw[KB R]at l;have⟨D,_,J⟩:=j i l;exact D (m.dist i d b J p f q)
 .exact Zpb _ _ _ _ _ O hn
 exact Zpa _ _ _ _ _ u hn s y
theorem Zv0(s:RH B0 H0 w0 g0 ow0){r n}(hv:Jd w0 g0 r n){k p q l l'}(h:(Zjv r k p).run H0 l=Ua (q,l'))
 (hR:RH B (Zu H0 p) w g ow) (f:g0.Le g) (Q:RB [k] n w0 w):∃a1,RH B (Zu H0 q) w g a1:=by
 simp[Zjv]at h;split at h;case h_2=>simp[Zb]at h
 rename_i i hs;rw[ZZ]at h;split at h;case h_2=>simp[Zb]at h
 rename_i T c D;split at h;case h_2=>simp[Zb]at h
 rename_i d ho;rw[ZZ]at h;split at h;case h_2=>simp[Zb]at h
 rename_i t b6 L;split at h;case h_2=>simp[Zb]at h
 rename_i T' c' R;split at h;case h_2=>simp[Zb]at h
 rename_i nid hn;split at h;case h_2=>simp[Zb]at h
 rename_i t' xs S;simp only[ZN,Zb,ZW,Z7,Vc,Kp]at h;obtain⟨⟨⟨⟨⟨ht,hT⟩,m⟩,z⟩,A⟩,rfl,_⟩:=h;subst ht;have m:=Vk m;have z:nid≠i:=by grind
 have A:d≠i:=by grind
 have hS:=ZjB p H0 i _ R;have hN:=ZjB p H0 nid _ S;have⟨J,h1,N,b,cs,e,hb,_,hh,_,M⟩:=s.objs i _ D;have⟨a2,h2,O,b',a5,e',a8,a3,b4,a4,y⟩:=hR.objs i _ hS;have a9:b' =b:=by have:=f.blk i J;grind
 have⟨j,b3⟩:=ZcV c _ _ _ _ N M ho;have⟨a7,b1⟩:=ZcV c' _ _ _ _ O y hn;have⟨u,W,a0⟩:=ZhU _ _ _ _ hv hs;obtain⟨_,b2,x,rfl⟩:=Zo8 a0;rw[hb]at x;obtain rfl:=Kx x;have⟨a6,e2,b5,b0⟩:=Q k (by simp) _ W cs e hh;have C:g.slv d=g.slv nid:=by rw[f.slv d j];grind
 have⟨_,U,_⟩:=s.objs d _ L;rw[XB];exact Zpv hR hS hn hN (f.K d j) C ((f.ty d j).trans U) (by rw[f.blk d j,f.slv d j];grind) z A
theorem ZnJ(d:RH B0 H0 w0 g0 ow0){c b}(t:Jd w0 g0 c b)(e:g0.Le g):∀kp {p q}{l j}{ow},(Zeb c kp p).run H0 l=Ua (q,j)->
 RH B (Zu H0 p) w g ow->RB kp b w0 w->∃n,RH B (Zu H0 q) w g n
 |[],p,q,l,j,ow,h,r,_=>by
  simp[Zeb,Zr]at h
  grind|k::kp,p,q,l,j,ow,h,r,s=>by simp[Zeb,ZY]at h;have⟨A,m,u,x⟩:=h;have⟨z,f⟩:=Zv0 d t u r e (λi y=>s i (by grind));exact ZnJ d t e kp x f λi y=>s i (by grind)
theorem ZlX{f S}(y:ZR P f S)(x:B.pl=Ud->GK P B.w0 B.own0)(j:B.pl=Uc->S.pl=Uc)(k:RH B H w g ow){nid}(z:∀id,g.K id->id<nid\/nid+Wv<=id){c b}(n:Jd w g c b){v patch rd}
 {l} (h:(Zfr S nid c).run H l=Ua ((v,patch),rd)):
 Calls P f b.toArray w λe w' =>∃rv d i,e=.returned rv/\RH B (Zu H patch) w' d i/\g.Le d/\Kt g.I w w' /\VR w' d v rv/\∀id,d.K id->g.K id\/(nid<=id/\id<nid+Wv):=by
 simp only[Zfr,ZY]at h;obtain⟨⟨N,p0⟩,m,t,q,M,u,⟨rfl,rfl⟩,_⟩:=h;refine(Zs4 y x j k z n t).mono ?_;rintro e w' ⟨rv,d,i,rfl,p,r,C,D,J,s⟩;have⟨A,L⟩:=ZnJ k n r S.kp u p s;grind
theorem ZlW{f}(j:B.pl=Ud->GK P B.w0 B.own0)(k:RH B H w g ow){nid}(n:∀id,g.K id->id<nid\/nid+Wv<=id){c b}(p:Jd w g c b){v patch rd}:∀d {l},
 (∀S∈d,ZR P f S/\(B.pl=Uc->S.pl=Uc))->(Zcq nid c d).run H l=Ua ((v,patch),rd)->
 Calls P f b.toArray w λe w' =>∃rv i q,e=.returned rv/\RH B (Zu H patch) w' i q/\g.Le i/\Kt g.I w w' /\VR w' i v rv/\∀id,i.K id->g.K id\/(nid<=id/\id<nid+Wv)
 |[],l,_,h=>by simp[Zcq,Zb]at h|[S],l,t,h=>ZlX (by grind) j (by grind) k n p h|S::T::d,l,t,h=>by
  simp only[Zcq,ZY]at h;have⟨r,m,_,h⟩:=h;generalize (S.f r.1).isSome=s at h
  cases s with|true=>exact ZlX (by grind) j (by grind) k n p h|false=>exact ZlW j k n p (T::d) (by grind) h
end
abbrev Hn(tn tq lt lb:Ty):Pat:=.var (Jn tn tq lt lb) (.agg (.cons (.pd tn) (.cons (.pd tq) (.cons (.pd lt) (.cons (.rows (.pn lb) Ud) (.cons (.owo lb) (.cons (.own (.pn lb) Ud) .nil)))))))
def Kn{tn tq lt lb}(y:ZhI tn tq lt lb):WH (Hn tn tq lt lb):=(y.1,y.2.1,y.2.2.1,y.2.2.2.1,y.2.2.2.2.1,y.2.2.2.2.2,())
theorem Zvw tn tq lt lb:(Pat.agg (.cons (.pd tn) (.cons (.pd tq) (.cons (.pd lt) (.cons (.rows (.pn lb) Ud) (.cons (.owo lb) (.cons (.own (.pn lb) Ud) .nil))))))).fits (Jn tn tq lt lb)=true:=by simp[Pat.fits,Pats.fits,Jn]
theorem Zys{w I J t x v}(h:WF w I J t x v):∃js,PC w I (.own t Ud) x js [v]/\js.Nodup/\∀k∈js,J k:=by
 obtain⟨rfl,rfl⟩|⟨b,cap,cells,e,c,rfl,d,f,i,j,l,m⟩:=h;.exact⟨[],.inl ⟨rfl,rfl,rfl⟩,.nil,by simp⟩
 exact⟨[b],.inr ⟨b,cap,cells,e,c,rfl,rfl,f,i,j,l,m⟩,by simp,by simpa using d⟩
theorem ZoO{w I t}{x:V (El t)}{js cs}(h:PC w I (.own t Ud) x js cs):∃v,cs=[v]/\WF w I (· ∈js) t x v:=by
 obtain⟨rfl,rfl,rfl⟩|⟨b,cap,cells,e,c,rfl,rfl,d,f,i,j,k⟩:=h;.exact⟨_,rfl,.inl ⟨rfl,rfl⟩⟩
 exact⟨_,rfl,.inr ⟨b,cap,cells,e,c,rfl,by simp,d,f,i,j,k⟩⟩
theorem Zyq{w I J lb x v}(h:HE w I J lb x v):∃js,PC w I (.owo lb) x js [v]/\js.Nodup/\∀k∈js,J k:=by
 obtain⟨rfl,rfl⟩|⟨b,off,cap,cells,e,f,rfl,c,d⟩:=h;.exact⟨[],⟨_,rfl,.inl ⟨rfl,rfl⟩⟩,.nil,by simp⟩
 exact⟨[b],⟨_,rfl,.inr ⟨b,off,cap,cells,e,f,rfl,by simp,d⟩⟩,by simp,by simpa using c⟩
theorem ZoQ{w I lb}{x:V (El (.pn lb))}{js cs}(h:PC w I (.owo lb) x js cs):∃v,cs=[v]/\HE w I (· ∈js) lb x v:=h
open Classical in
theorem Zng{w:X}{I:Nat->Prop}{js:V Nat}{tn tq lt lb:Ty}{x:ZS tn tq lt lb}{b:Nat}(h:Zap w I (· ∈js) tn tq lt lb x b)(N:js.Nodup):
 ∃l i,Yl l x/\i.Nodup/\(∀k∈i,k∈js)/\PC w I (Hn tn tq lt lb) (Kn (WG l x)) i [.pointer (Ua ⟨b,0,Ub⟩)]:=by
 obtain⟨L,l,p,J5,J6,O,j,q,s,cells,e,J,K,c3,C,v5,D,M,t,y,z,A,r4,r5,r6⟩:=h;obtain⟨u,U,R,m⟩:=Zyq r5;obtain⟨r,W,S,n⟩:=Zys r6;have f:∀k,k∈js.filter (λk=>Ue (p k))↔p k:=λk=>by simp only[Vnb,KJ];exact⟨λh=>h.2,λh=>⟨(j k h).1,h⟩⟩
 refine⟨l,b::(js.filter (λk=>Ue (p k))++(u++r)),O,?_,?_,Zvw tn tq lt lb,b,_,cells,e,rfl,rfl,M,?_,?_⟩
 .refine Vx.2 ⟨λc=>?_,Ve.2 ⟨N.filter _,Ve.2 ⟨R,S,λk c Q d e=>?_⟩,λk c Q d e=>?_⟩⟩
  .obtain c|c:=Vh.1 c
   .exact(j b ((f b).1 c)).2.1 rfl
   obtain c|c:=Vh.1 c;.exact(q b (m b c)).2.1 rfl
   exact(s b (n b c)).2 rfl
  .subst e;exact(q k (m k c)).2.2 (n k d)
  subst e;obtain d|d:=Vh.1 d;.exact(j k ((f k).1 c)).2.2.1 (m k d)
  exact(j k ((f k).1 c)).2.2.2 (n k d)
 .intro k c;obtain rfl|c:=Vn.1 c
  .exact L
  obtain c|c:=Vh.1 c;.exact(j k ((f k).1 c)).1
  obtain c|c:=Vh.1 c;.exact(q k (m k c)).1
  exact(s k (n k c)).1
 .have:=congrArg List.length t;simp only[Vp,Vm,List.length_cons,Vob,Rd.length _ _ _ y,Rd.length _ _ _ z,Rd.length _ _ _ A]at this;rw[this];simp[Jn,Ty.size]
 rw[t];refine⟨[],_,J,_,rfl,rfl,⟨rfl,y⟩,[],_,K,_,rfl,rfl,⟨rfl,z⟩,[],_,c3,_,rfl,rfl,⟨rfl,A⟩,_,_,[C],_,rfl,rfl,⟨C,rfl,?_⟩,u,r,[v5],[D],rfl,rfl,U,r,[],[D],[],by simp,rfl,W,rfl,rfl⟩;exact r4.mono (λ_ _=>rfl) (λ_ h=>h) (λk c=>(f k).2 c) λ_ _=>rfl
theorem Zvx{w I js tn tq lt lb x d cs}(h:PC w I (Hn tn tq lt lb) (Kn (WG d x)) js cs)(m:js.Nodup)(u:Yl d x):
 ∃b,cs=[.pointer (Ua ⟨b,0,Ub⟩)]/\Zap w I (· ∈js) tn tq lt lb x b:=by
 obtain⟨_,b,C,cells,e,rfl,rfl,r,t,s⟩:=h;obtain⟨_,_,n,_,rfl,q,⟨rfl,K⟩,_,_,p,_,rfl,rfl,⟨rfl,L⟩,_,_,c3,_,rfl,rfl,⟨rfl,M⟩,y,_,_,_,rfl,rfl,⟨R,rfl,N⟩,z,_,_,_,rfl,rfl,D,A,_,_,_,rfl,rfl,J,rfl,rfl⟩:=s;obtain⟨S,rfl,O⟩:=ZoQ D;obtain⟨U,rfl,Q⟩:=ZoO J;simp[Ve,Vh]at m;have⟨⟨f,i,j⟩,_,⟨_,_,d56⟩,l⟩:=m;refine⟨b,rfl,by simp,d,(· ∈y),(· ∈z),(· ∈A),u,λk c=>⟨by simp[c],λe=>f (e▸c),λh=>l k c k (.inl h) rfl,λh=>l k c k (.inr h) rfl⟩,λk c=>⟨by simp[c],λe=>i (e▸c),λh=>d56 k c k h rfl⟩,λk c=>⟨by simp[c],λe=>j (e▸c)⟩,
  cells,e,n,p,c3,R,S,U,r,by simpa using q,K,L,M,N,O,Q⟩
end Tr
namespace Tr
open Go
section
variable {tn tq lt lb:Ty}
theorem ZpU{w I J d}{l:V (El lb)}{v}(h:WF w I J (.pn lb) (l.map (KA d)) v){y}(j:y∈l):∃cells e,w.heap[d y]? =Ua (.cells cells e (0,0))/\Rd w I lb y cells.toList:=by
 obtain⟨h,_⟩|⟨b,cap,cells,e,k,_,_,_,_,_,f,_⟩:=h;.rw[Vya]at h;subst h;cases j
 have⟨i,q⟩:=Vda j;have⟨c,_,p⟩:=f.get i (KA d y) (by rw[Vha,q];rfl);have⟨cells,e,_,_,m,n⟩:=p;exact⟨cells,e,m,n⟩
theorem Zyr{w I J d}{l:V (El lb)}{v}(h:HE w I J lb (l.map (KA d)) v){y}(j:y∈l):∃cells e,w.heap[d y]? =Ua (.cells cells e (0,0))/\Rd w I lb y cells.toList:=by
 obtain⟨h,_⟩|⟨b,off,cap,cells,e,q,_,_,_,_,_,f,_⟩:=h;.rw[Vya]at h;subst h;cases j
 have⟨i,p⟩:=Vda j;have⟨c,_,n⟩:=f.get i (KA d y) (by rw[Vha,p];rfl);have⟨cells,e,_,_,k,m⟩:=n;exact⟨cells,e,k,m⟩
theorem Zvz{w I js x d cs}(h:PC w I (Hn tn tq lt lb) (Kn (WG d x)) js cs):∀y∈JS x,∃cells e,w.heap[d y]? =Ua (.cells cells e (0,0))/\Rd w I lb y cells.toList:=by
 obtain⟨_,b,n,cells,e,rfl,rfl,D,m,k⟩:=h;obtain⟨_,_,u,_,rfl,A,⟨rfl,N⟩,_,_,z,_,rfl,rfl,⟨rfl,O⟩,_,_,c3,_,rfl,rfl,⟨rfl,Q⟩,K,_,_,_,rfl,rfl,⟨S,rfl,C,⟨J,f⟩,R⟩,L,_,_,_,rfl,rfl,p,M,_,_,_,rfl,rfl,q,rfl,rfl⟩:=k;obtain⟨U,rfl,s⟩:=ZoQ p;obtain⟨W,rfl,t⟩:=ZoO q;intro y c;simp only[JS,Vh,Vkb]at c;rcases c with (⟨r,l,c⟩|c) |c;.have⟨i,j⟩:=Vda l;have:=f.rd i (r.map (KA d)) (by show (WG d x).2.2.2.1[i]? =_;simp only[WG];rw[Vha,j];rfl) (by simp);exact ZpU this c
 .exact Zyr s c
 exact ZpU t c
def Zy9(g:WH (Hn tn tq lt lb)->El (.pn lb)->Option (WH (Hn tn tq lt lb)))(pl:Bool):Spec:={args:=.cons (Hn tn tq lt lb) (.cons (.pd (.pn lb)) .nil),res:=.nil,fns:=[],α:=WH (Hn tn tq lt lb),f:=λx=>g x.1 x.2.1,unp:=λz=>((z,(),()),()),pl:=pl}
def Zqh(h:ZS tn tq lt lb->El (.pt lb)->Option (ZS tn tq lt lb))(pl:Bool):Spec:={args:=.cons (.fnd tn tq lt lb) (.cons (.pd (.pt lb)) .nil),res:=.nil,fns:=[],α:=ZS tn tq lt lb,f:=λx=>h x.1 x.2.1,unp:=λz=>((z,(),()),()),pl:=pl}
theorem Zwv{P f g h pl}(hg:ZR P f (Zy9 g pl))(h0:∀x,h x Ub=Ub)
 (hh:∀x u (z:ZS tn tq lt lb),h x (Ua u)=Ua z->∀t b,Yl t x->(∀y∈JS x,t y=b->y=u)->∃l,Yl l z/\g (Kn (WG t x)) (Ua (b,u))=Ua (Kn (WG l z))):
 ZR P f (Zqh h pl) where
 wf:=rfl
 fn:=hg.fn
 run:=by
  intro w I c6 js x z b7 D j hI amb hz;have⟨x,u,⟨⟩⟩:=x;change h x u=Ua z at hz
  cases u with
  |none=>rw[h0]at hz;cases hz|some u=>
  obtain⟨j1,j2,v,r,rfl,rfl,⟨⟨b,hc,a6⟩,i⟩,j3,j4,W,r2,rfl,rfl,⟨⟨rfl,b8⟩,c⟩,rfl,rfl⟩:=b7;simp[Vpb]at D j amb⊢;have⟨t,R,c2,a9,d,M⟩:=Zng a6 D;have⟨b2,cells,e,a4,a1,C,N⟩:=b8;have⟨l,Q,a7⟩:=hh x u z hz t b2 c2 λy hy e=>by have⟨a0,e',m,h2⟩:=Zvz M y hy;rw[e,C]at m;injection m with m;injection m with m;subst m;exact Rd.det lb y u _ h2 N
  refine(hg.run w I [v,W] R (Kn (WG t x),Ua (b2,u),()) (Kn (WG l z)) ?_ a9 (λk p=>j k (d k p)) hI (λb5=>?_) a7).mono ?_
  .refine⟨R,[],v,[W],by simp,rfl,⟨by rw[hc];exact M,.inr ?_⟩,[],[],W,[],rfl,rfl,⟨⟨rfl,?_⟩,.inr ?_⟩,rfl,rfl⟩
   .obtain i|i:=i
    .cases i
    exact i
   .exact⟨cells,e,a4,a1,C,N⟩
   obtain c|c:=c;.cases c
   exact c
  .intro b hb;have⟨S,U,q3⟩:=amb b5 b hb;exact⟨S,λp=>U (d b p),q3⟩
  rintro e w' ⟨rv,rfl,I',jo,jr,b6,b9,J,a8,a2,A,b0,s,L,c1,q⟩;refine⟨rv,rfl,I',jo,jr,?_,b9,J,λk p=>?_,a2,λk p=>?_,b0,s,L,c1,λk m h2=>q k m λh=>h2 (d k h)⟩
  .obtain⟨k1,k2,v',r',rfl,c4,b1,k3,k4,c7,c5,rfl,n,b3,b4⟩:=b6;obtain⟨rfl,rfl⟩:=c4;simp[Hf]at n;obtain⟨rfl,O⟩:=n;have K:k1.Nodup:=by have:=(Ve.1 J).1;exact(Ve.1 this).1
   have⟨b',a3,a5⟩:=Zvx b1 K Q;exact⟨k1,_,v,[W],rfl,rfl,⟨b',a3,a5⟩,k3,k4,W,c5,rfl,by rw[O],b3,b4⟩
  .have⟨S,U,q3⟩:=a8 k p;exact⟨S,U,q3.imp (d k) λh=>h⟩
  have⟨S,U⟩:=A k p;exact⟨S,U.imp (λh=>h) λh=>h.imp (d k) λh=>h⟩
end
end Tr
end
section
namespace Tr
open Go
section ops
variable {P:Program}{E:Kh}{B:KR}{H:AH}{w:X}{g:Gh}{ow:Nat->Nat->Prop}{nid:Nat}{a:Act}{F:Nat->AV}{v:AV}{patch:Wm}{rd:V Nat}{o:Oper}
theorem Zyp{I J lb xs c}(h:HE w I J lb xs c):∃d cap,c=.slice d xs.length cap/\xs.length<=cap:=by
 obtain⟨rfl,rfl⟩|⟨b,off,cap,cells,e,i,rfl,_,_,f,_⟩:=h;.exact⟨Ub,0,rfl,Vb _⟩
 exact⟨_,cap,rfl,f⟩
theorem Zgv{w'}{J:Nat->Prop}{lb xs val r}(i:RH B H w g ow)(j:¬g.K nid)(c:∀k,k<w.heap.size->w'.heap[k]? =w.heap[k]?)(t:w.heap.size<=w'.heap.size)(n:w'.os=w.os)(f:w'.tape=w.tape)(l:Y2 w' w)
 (L:r=.ok (.value val) w') (x:HE w' g.I (λb=>J b\/(w.heap.size<=b/\b<w'.heap.size)) lb xs val) (hJ:∀b,J b->¬g.I b/\b<w.heap.size/\(B.own0 b\/B.w0.heap.size<=b)/\∀id,H id≠Ub->¬ow id b):Zv B (ZX H nid (Ua (.vco lb xs))) w g nid (.vw nid) r:=by
 have d:val.oneCell' =true:=by obtain⟨M,cap,rfl,_⟩:=Zyp x;rfl
 have key:ORel w' (g.add nid (.pn lb) Ub val) (λb=>J b\/(w.heap.size<=b/\b<w'.heap.size)) nid (.vco lb xs):=by
  refine⟨by simp[Gh.add],?_⟩;have e:(g.add nid (.pn lb) Ub val).slv nid=val:=by simp[Gh.add]
  rw[e];exact x
 refine⟨val,w',g.add nid (.pn lb) Ub val,Xv ow nid λb=>J b\/(w.heap.size<=b/\b<w'.heap.size),.inl L,?_,Gh.le_add j _ _ _,λb D=>c b (i.ilt b D),?_,?_⟩
 .refine i.add j c t n f l (λk m=>?_) key;obtain m|⟨N,y⟩:=m
  .have⟨p,q,r,s⟩:=hJ k m;exact⟨p,by omega,r,s⟩
  refine⟨λC=>absurd (i.ilt _ C) (by omega),y,.inr (by have:=i.size;omega),λu z A=>?_⟩;have:=(i.sep u _ z A).2.1;omega
 .refine KT ?_ d rfl;exact⟨.inl rfl,by simp[Gh.add],by simp[Gh.add,d]⟩
 intro id h;obtain rfl|h:=h;.exact .inr ⟨Vb _,by unfold Wv;omega⟩
 exact .inl h
theorem ZzM{T:Nat}{x i id j k}{n:Int}{lb xs}(h:Z0 P E)(f:RH B H w g ow)(hF:Fr w g F a.tmps)(J:o.op=.indexAddr T x i)(M:Zz F x=.vw id)(A:Zz F i=.d (.int k) n)(u:H id=Ua (.vco lb xs))(K:E.ty T=Ua (.sl (.pn lb)))(C:Zo n xs.length=Ua j):
 Zv B H w g nid (.op id j) ((execOp a.eval o).run P w):=by
 obtain⟨r,p,rfl⟩:=ZbG C;have⟨N,s,t⟩:=Ju h K;have⟨D,c⟩:=(M▸hF.eval x).vw;have⟨_,L,y⟩:=f.objs id _ u;obtain⟨rfl,_⟩|⟨b,off,cap,cs,e,R,m,hJ,O,Q,l,z,q⟩:=y;.simp at p;omega
 refine Zv.pure (val:=.pointer (Ua ⟨b,off+n.toNat* (Ty.pn lb).size,Ub⟩)) f ?_ (KT ?_ rfl rfl);.simp[execOp,J,c,m,(A▸hF.eval i).int,ZbX h s t r p,Vd]
 exact⟨D,b,off,_,_,m,by simp[Ty.size]⟩
theorem ZzN{T x id i lb xs y}(U:Z0 P E)(J:RH B H w g ow)(hF:Fr w g F a.tmps)(ho:o.op=.load T x)(hx:Zz F x=.op id i)(R:H id=Ua (.vco lb xs))(ht:E.ty T=Ua (.pn lb))(N:xs[i]? =Ua y):
 Zv B H w g nid (.d (.pn lb) y) ((execOp a.eval o).run P w):=by
 have C:VR w g (.op id i) (a.eval x):=hx▸hF.eval x;have⟨n,c⟩:=C;have⟨hk,b,off,len,cap,t,W⟩:=n;have m:a.eval x=.pointer (Ua ⟨b,off+i,Ub⟩):=K3 W (by
  obtain c|c:=c;.cases c
  exact c)
 have⟨_,a0,S⟩:=J.objs id _ R;obtain⟨rfl,_⟩|⟨b',O,D,cs,e,hs,L,hJ,hh,hl,K,q,k⟩:=S;.simp at N
 rw[t]at L;obtain⟨⟨rfl,rfl⟩,rfl,rfl⟩:=L;have⟨u,M,l⟩:=q.get i y N;have⟨r,hr⟩:=k;have A:cs.toList[off+i]? =Ua u:=by rw[<-Vcb,<-hr,Via (Vw.1 M).1,M]
 have⟨s,z⟩:=Vw.1 A;have p:cs.toList=cs.toList.take (off+i)++[u]++cs.toList.drop (off+i+1):=by
  conv=>lhs;rw[<-Vba (off+i) cs.toList,List.drop_eq_getElem_cons s,z]
  simp
 have f:=HA.of_heap hh p;have h:(cs.toList.take (off+i)).length=off+i:=by rw[Vq];omega
 rw[h]at f;have Q:=Zkl (U.ty T _ ht) f rfl λ_=>⟨u,rfl⟩;have j:=Rd.oneCell (.pn lb) y [u] l u (by simp);refine Zv.pure J ?_ (KT (by exact l) j rfl);simp only[execOp,ho,m,Instr.loadAt,Vua,Vg,Vi,Vd,Q];rfl
theorem ZzO{T x R L id c d lb xs}(hT:Z0 P E)(z:RH B H w g ow)(hF:Fr w g F a.tmps)(N:¬g.K nid)(ho:o.op=.slice T x R L Ub)(hx:Zz F x=.vw id)(W:H id=Ua (.vco lb xs))(ht:E.ty T=Ua (.sl (.pn lb)))(M:X5 (Zz F) R=Uc)(C:X5 (Zz F) L=Uc)
 (O:sliceB xs.length xs.length (R.bind λo=>K1 (Zz F o)) (L.bind λo=>K1 (Zz F o))=Ua (c,d)):Zv B (ZX (ZX H id Ub) nid (Ua (.vco lb ((xs.drop c).take (d - c))))) w g nid (.vw nid) ((execOp a.eval o).run P w):=by
 have⟨Et,hu,A⟩:=Ju hT ht;have⟨hk,he⟩:=(hx▸hF.eval x).vw;have⟨_,a3,k⟩:=z.objs id _ W;have t:H id≠none:=by rw[W];simp
 have key:∃i cap,g.slv id=.slice i xs.length cap/\xs.length<=cap/\(∀m n,m+n<=xs.length->HE w g.I (ow id) lb ((xs.drop m).take n) (.slice (if cap=m then i else i.map (·.add (m* (Ty.pn lb).size))) n (cap - m))):=by
  obtain⟨rfl,k⟩|⟨b,off,cap,cs,e,O,k,hJ,hh,hl,a1,s,y⟩:=k
  .refine⟨Ub,0,k,Vb _,λl n u=>.inl ⟨by simp,?_⟩⟩;simp at u;obtain⟨rfl,rfl⟩:l=0/\n=0:=by omega
   rfl
  refine⟨_,cap,k,hl,λm n u=>?_⟩;have f:((xs.drop m).take n).length=n:=by rw[Vq,Vma];omega
  have⟨r,hr⟩:=y;have D:=s.length;by_cases S:cap=m
  .have hn:n=0:=by omega
   subst hn;rw[Zn S];refine .inr ⟨b,off,cap - m,cs,e,[],by rw[f],hJ,hh,by omega,by omega,by trivial,List.nil_prefix⟩
  rw[Zg S];refine .inr ⟨b,off+m,cap - m,cs,e,(O.drop m).take n,by rw[f];simp[D8,Ty.size],hJ,hh,by omega,by omega,(s.drop m).take n,?_⟩;rw[<-Vva,<-hr,Vea (by omega)];exact(List.take_prefix _ _).trans (Vdb _ _)
 have⟨i,cap,h1,h2,h3⟩:=key;have⟨j,a2,D⟩:=ZbY (P:=P) (isS:=true) hF h2 (Zbs M) (Zbs C) O (Vb _);refine Zgv (J:=ow id) (val:=.slice (if cap=c then i else i.map (·.add (c* (Ty.pn lb).size))) (d - c) (cap - c)) (z.drop id) N (λ_ _=>rfl) (Vb _) rfl rfl ⟨rfl,Vb _⟩ ?_ ?_ λb j=>?_;.simp[execOp,ho,he,h1,Vwb,Instr.slice,underlying,Vg,run_program,Vd,hu,Vi,j,(hT.ty Et _ A).run_sizeOf]
 .exact(h3 c (d - c) (by omega)).mono (λ_ _=>rfl) (λ_ h=>h) (λb _ j=>.inl j) λ_ _ _=>rfl
 have⟨p,q,r⟩:=z.sep id b t j;exact⟨p,q,r,λQ U h5=>(YZ U).1 (z.dist Q id b (YZ U).2 t h5 j)⟩
theorem ZsA{lb ie z T0 T1 Et E1 ty argTypes sv xv id xs i r}(hR:RH B H w g ow)(W:¬g.K nid)
 (h0:argTypes[0]? =Ua T0) (h1:argTypes[1]? =Ua T1) (hu:P.underlying T0=Ua (.slice Et)) (c7:P.underlying T1=Ua (.slice E1))
 (b9:P.info? Et=Ua ie) (hz:ie.zero=Ua z) (d0:z.cells.size=1) (L:ie.size=1) (b5:ie.bytes<=256) (c5:xs.length+i.length<=549755813888)
 (a9:H id≠Ub) (hS:HE w g.I (ow id) lb xs sv) (hX:Zds w g (.pn lb) i xv)
 (hr:∀val w',(Vqb argTypes ty #[sv,xv]).run P w=.ok val w' ->r=.ok (.value val) w'):Zv B (ZX (ZX H id Ub) nid (Ua (.vco lb (xs++i)))) w g nid (.vw nid) r:=by
 have R:RH B (ZX H id Ub) w g ow:=hR.drop id;obtain⟨xb,c,a6,rfl,m,c4⟩:=hX;have⟨d,b6,A⟩:=Zi0 m;have d7:=A.length;have b7:∀w',JG w w' ->(Veb ie.size i.length (.slice xb i.length c)).run P w' =.ok d.toArray w' :=by
  intro w' hw;rw[L,<-b6];by_cases hy:i=[]
  .subst hy;have:a6=[]:=by have:=m.length;grind
   subst this
   cases xb with|none=>rfl|some ad=>exact run_firstCells_some (P:=P) w' _ _ ad _ _ [] (by simp) (by simp)
  obtain⟨b,off,rfl,hL⟩:=c4 hy;exact Zi7 (sz:=1) (Rd.all_length m) m.length.symm hL hw
 have c6:∃base cap f,sv=.slice base xs.length cap/\f.length=xs.length/\Fa (λx v=>Rd w g.I (.pn lb) x [v]) xs f/\(∀w',JG w w' ->(Veb ie.size xs.length (.slice base xs.length cap)).run P w' =.ok f.toArray w')/\((base=Ub/\cap=0/\xs=[])\/
  ∃b off cs e,ow id b/\base=Ua ⟨b,off,Ub⟩/\w.heap[b]? =Ua (.cells cs e (0,0))/\off+cap<=cs.size/\f<+:cs.toList.drop off):=by
  rw[L];obtain⟨rfl,rfl⟩|⟨b,off,cap,cs,e,hd,rfl,b2,hh,_,t,q,hp⟩:=hS;.exact⟨Ub,0,[],rfl,rfl,trivial,λw' _=>by rfl,.inl ⟨rfl,rfl,rfl⟩⟩
  refine⟨_,cap,hd,rfl,q.length.symm,q,λw' hw=>?_,.inr ⟨b,off,cs,e,b2,rfl,hh,t,hp⟩⟩;refine run_firstCells_some (P:=P) w' 1 _ _ _ cap _ (by rw[q.length];omega) ?_;intro j u hj;have⟨r,hr⟩:=hp;have c8:cs.toList[off+j]? =Ua u:=by rw[<-Vcb,<-hr,Via (Vw.1 hj).1,hj]
  rw[D8];simp[Vyb,hw.heap,hh,Option.isSome_none,Vga,if_false];rw[<-Vta];exact c8
 obtain⟨base,cap,f,rfl,c2,a8,b8,U⟩:=c6;have Q:(xs++i).length=xs.length+i.length:=Vm;have q:=a8.append A;obtain⟨a1,p⟩|⟨l,w1,d8,M,p⟩:=Zkj (ty:=ty) h0 h1 hu c7 b9 hz b5 b8 b7 c5
 .obtain⟨rfl,rfl,rfl⟩|⟨b,off,cs,e,O,rfl,hh,t,hp⟩:=U
  .have hy:i=[]:=by
    have:i.length=0:=by simpa using a1
    exact Voa.1 this
   subst hy;have D:=hr _ _ (p.trans (by rfl));exact Zgv (J:=λ_=>False) R W (by simp) (Vb _) rfl rfl ⟨rfl,Vb _⟩ D (.inl ⟨rfl,rfl⟩) (by simp)
  have hs:=hR.sep id b a9 O;have b1:∀u∈d,u.oneCell' =true:=A.all_right λx v h=>Rd.oneCell (.pn lb) x [v] h v (by simp);have⟨rest,a0⟩:=hp;have a3:=run_storeCells_at P b (off+xs.length*1) e d 0 cs w hh (by omega) b1;have a4:cs.toList.take (off+xs.length)=cs.toList.take off++f:=by rw[List.take_add,<-a0,<-c2];simp
  have b0:(cs.toList.take (off+xs.length*1+0)++d++cs.toList.drop (off+xs.length*1+0+d.length))=cs.toList.take off++((f++d)++cs.toList.drop (off+xs.length+d.length)):=by simp[Nat.mul_one,Vib,a4,List.append_assoc]
  rw[b0]at a3;generalize N:cs.toList.take off++((f++d)++cs.toList.drop (off+xs.length+d.length))=l' at a3;have c1:l'.length=cs.size:=by rw[<-N];simp[Vm,Vq,Vma,Vp];omega
  have D:=hr (.slice (Ua ⟨b,off,Ub⟩) (xs.length+i.length) cap) (w.setRow b l'.toArray) (p.trans (by simp only[Vg,D8,L,a3,Vd,Vi]));have n:∀k,k≠b->(w.setRow b l'.toArray).heap[k]? =w.heap[k]? :=λk s=>setRow_other w b k _ s;have C:∀k,ZX H id Ub k≠Ub->¬ow k b:=by intro k s hb;have⟨h3,h4⟩:=YZ s;exact h3 (hR.dist k id b h4 a9 hb O)
  have S:=R.free (b:=b) C hs.1 hs.2.2 n (size_setRow w b _) rfl rfl ⟨rfl,Vb _⟩;have a7:Kt g.I w (w.setRow b l'.toArray):=λk s=>n k λe=>hs.1 (e▸s);have y:=Zgv (J:=λk=>k=b) (lb:=lb) (xs:=xs++i) S W (by simp) (Vb _) rfl rfl ⟨rfl,Vb _⟩ D ?_ (λb' b3=>?_);.have⟨val,w',g',a5,d1,d2,d3,d4,d5,d6⟩:=y;exact⟨val,w',g',a5,d1,d2,d3,λk s=>(d4 k s).trans (a7 k s),d5,d6⟩
  .refine .inr ⟨b,off,cap,_,e,f++d,by rw[Q],.inl rfl,Za8 hh,by omega,?_,q.mono λx v hx=>Rd.mono a7 (λ_ h=>h) (.pn lb) x [v] hx,?_⟩
   .rw[Vaa,c1];exact t
   rw[<-N];have:(cs.toList.take off).length=off:=by rw[Vq,Vp];omega
   simp only;rw[Vea (by omega),List.drop_eq_nil_of_le (by omega),List.nil_append];exact Vdb _ _
  subst b3;exact⟨hs.1,by rw[size_setRow];exact hs.2.1,hs.2.2,C⟩
 have D:=hr _ _ p;have S:=R.same M;have a2:w1.heap.size=w.heap.size:=by rw[M.heap]
 have y:=Zgv (J:=λ_=>False) (lb:=lb) (xs:=xs++i) S W (λk s=>RP s) (by simp) rfl rfl ⟨rfl,Vb _⟩ D ?_ (by simp);.have⟨val,w',g',a5,d1,d2,d3,d4,d5,d6⟩:=y;exact⟨val,w',g',a5,d1,d2,d3,λk s=>(d4 k s).trans (M.agree g.I k s),d5,d6⟩
 have b4:∀b,b<w.heap.size->(w1.alloc (.cells (f.toArray++d.toArray++Vs z.cells (l - (xs.length+i.length))) Et)).heap[b]? =w.heap[b]? :=λb hb=>by rw[RP (by omega),M.heap]
 have c9:(Vs z.cells (l - (xs.length+i.length))).size=(l - (xs.length+i.length)) *1:=by simp[Vs,d0]
 refine .inr ⟨w1.heap.size,0,l,_,Et,f++d,by rw[Q,a2],.inr ⟨Vb _,by simp⟩,RO _ _,by omega,?_,q.mono λx v hx=>Rd.mono (λb hb=>b4 b (hR.ilt b hb)) (λ_ h=>h) (.pn lb) x [v] hx,by simp⟩;simp[Array.size_append,Vaa,c9];omega
theorem ZzL{c s x N id lb xs M ids m m'}(l:Z0 P E)(q:RH B H w g ow)(hF:Fr w g F a.tmps)(u:¬g.K nid)(ho:o.op=.call c)(hc:c.callee=.builtin .append)(f:c.args.toList=[s,x])(h0:c.argTypes[0]? =Ua N)(j:E.ty N=Ua (.sl (.pn lb)))
 (b:JV ((c.argTypes[1]?).bind E.ty)=Uc) (hx:Zz F s=.vw id) (O:H id=Ua (.vco lb xs)) (hX:(RQ (.pn lb) (Zz F x)).run H m=Ua ((M,ids),m')) (hg:xs.length+M.length<=Zt):Zv B (ZX (ZX H id Ub) nid (Ua (.vco lb (xs++M)))) w g nid (.vw nid) ((execOp a.eval o).run P w):=by
 have e:c.args.map a.eval= #[a.eval s,a.eval x]:=by
  have:c.args= #[s,x]:=by rw[<-Vlb];exact f
  rw[this];simp
 have:∃h n,c.argTypes[1]? =Ua h/\E.ty h=Ua (.sl n):=by
  cases R:c.argTypes[1]? with
  |none=>rw[R]at b;simp[JV]at b|some h=>
   rw[R]at b;simp[Za]at b
   cases S:E.ty h with|none=>rw[S]at b;simp[JV]at b|some n=>cases n<;>rw[S]at b<;>simp[JV]at b;grind
 have⟨h,n,h1,C⟩:=this;have⟨W,U,p⟩:=Ju l j;have⟨E1,D,_⟩:=Ju l C;have⟨ie,z,i,A,_,hz,k,_⟩:=(l.ty W _ p).info;have t:=(l.ty _ _ j).small _ _ U i;have J:z.cells.size=(Ty.pn lb).size:=by have⟨h3,h4⟩:=ZhA (w:=w) (g:=g) k;have:=CV.length _ (.pn lb) _ h4 h3;simpa using this
 have d:∀val L,(Vqb c.argTypes o.type #[a.eval s,a.eval x]).run P w=.ok val L->(execOp a.eval o).run P w=.ok (.value val) L:=by intro val L d;simp[execOp,ho,Zc5 hc,builtin,e,d,Vd]
 have⟨hk,y⟩:=(hx▸hF.eval s).vw;have⟨_,_,Q⟩:=q.objs id _ O;have r:=Zfh q (hF.eval x) hX;rw[<-y]at Q;exact ZsA q u h0 h1 U D i hz J A t hg (by rw[O];simp) Q r d
theorem Ztr{c x id f n T0 t xs}(hT:Z0 P E)(hR:RH B H w g ow)(hF:Fr w g F a.tmps)(ho:o.op=.call c)(D:c.callee=.builtin .clear)(C:c.args.toList=[x])(h0:c.argTypes[0]? =Ua T0)(ht:E.ty T0=Ua (.sl t))(hx:Zz F x=.vs id f n)(hH:H id=Ua (.vec t xs))(hd:t.data=Uc)(b6:f+n<=xs.length):
 Zv B (ZX H id (Ua (.vec t (xs.take f++Vt n (zeroEl t)++xs.drop (f+n))))) w g nid (.tup .nil) ((execOp a.eval o).run P w):=by
 have⟨Et,R,b1⟩:=Ju hT ht;have⟨ie,z,b5,c2,hz,c4,_,O⟩:=ZkW (w:=w) (g:=g) hT b1 hd;have S:(zeroValue Et).run P w=.ok z w:=by simp[zeroValue,typeInfo,b5,hz]
 have l:c.args.map a.eval= #[a.eval x]:=by
  have:c.args= #[x]:=by rw[<-Vlb];exact C
  rw[this];simp
 have a1:∀w',(Vz c.argTypes o.type #[a.eval x]).run P w=.ok (.tuple #[]) w' ->(execOp a.eval o).run P w=.ok (.value (.tuple #[])) w' :=λw' hr=>by simp[execOp,ho,Zc5 D,builtin,l,Vg,hr,Vd,Vi]
 have hv:∀{w'}{g'},VR w' g' (.tup .nil) (.tuple #[]):=⟨[],rfl,rfl⟩;have⟨hk,A⟩:=(hx▸hF.eval x).vs;have a3:H id≠none:=by rw[hH];simp
 by_cases hn:n=0
 .subst hn;have e:xs.take f++Vt 0 (zeroEl t)++xs.drop (f+0)=xs:=by simp
  rw[e,ZzH hH];refine Zv.pure hR (a1 _ ?_) hv;obtain⟨_,_,_,U⟩|⟨b,len,cap,m,h1,h2,U,h4,h5⟩:=A
  .have he:a.eval x=.slice Ub 0 0:=by simpa using U
   rw[he];simp[Vz,h0,Zcn,underlying,Vg,run_program,Vd,R,Vi]
  have he:a.eval x=.slice (Ua ⟨b,if m=0 then 0 else f* (g.ty id).size,Ub⟩) 0 m:=by simpa using h5
  rw[he];simp[Vz,h0,Zcn,underlying,Vg,run_program,Vd,R,Vi]
 have⟨hK,b0,hO⟩:=hR.objs id _ hH;obtain⟨_,_,U,_⟩|⟨b,len,cap,m,s,h2,U,h4,h5⟩:=A;.exact absurd U hn
 have b7:m≠0:=by omega
 rw[Zg b7,b0]at h5;have he:a.eval x=.slice (Ua ⟨b,f*t.size,Ub⟩) n m:=by simpa using h5
 obtain⟨rfl,_⟩|⟨b',b9,cs,e,d,a0,M,k,hh,b3,b4,j,rest,N⟩:=hO;.simp at b6;omega
 rw[s]at k;obtain⟨rfl,rfl,rfl⟩:=k
 let i:=Vt n z.cells.toList
 have J:Fa (Rd w g.I t) (Vt n (zeroEl t)) i:=O n;have b8:(Vs z.cells n).toList=i.flatten:=by have:=ZeS z.cells n;unfold Vs;exact this
 have L:i.flatten.length=n*t.size:=by rw[Hm λc D=>Rd.all_length J c D];simp[i]
 have K:((d.take f).flatten).length=f*t.size:=by rw[Hm λc D=>Rd.all_length j c (Vwa D),Vq,<-j.length,Vrb (by omega)]
 have a6:(((d.drop f).take n).flatten).length=n*t.size:=by rw[Hm λc D=>Rd.all_length j c (List.mem_of_mem_drop (Vwa D)),Vq,Vma,<-j.length,Vrb (by omega)]
 have p:d.flatten=(d.take f).flatten++(((d.drop f).take n).flatten++(d.drop (f+n)).flatten):=by rw[<-Vva,<-Vfa,Vba,<-Vfa,Vba]
 have r:cs.toList=(d.take f).flatten++(((d.drop f).take n).flatten++((d.drop (f+n)).flatten++rest)):=by rw[<-N,p];simp
 have Q:cs.size=f*t.size+(n*t.size+((d.drop (f+n)).flatten++rest).length):=by rw[<-Vp,r,Vm,Vm,K,a6]
 have a7:∀u∈i.flatten,u.oneCell' =true:=by intro u R;have⟨c1,b2,R⟩:=Vkb.1 R;exact J.all_right (λy c hy=>Rd.oneCell t _ _ hy) c1 b2 u R
 have a9:=run_storeCells_at P b (f*t.size) e i.flatten 0 cs w hh (by rw[L];omega) a7;have a5:(cs.toList.take (f*t.size+0)++i.flatten++cs.toList.drop (f*t.size+0+i.flatten.length))=(d.take f++i++d.drop (f+n)).flatten++rest:=by rw[Vib,L,r,<-K,List.take_left,<-Vva,Vtb,<-a6,Vtb];simp
 rw[a5]at a9;have a8:(Vz c.argTypes o.type #[a.eval x]).run P w=.ok (.tuple #[]) (w.setRow b ((d.take f++i++d.drop (f+n)).flatten++rest).toArray):=by rw[he];obtain⟨n',rfl⟩:=Nat.exists_eq_succ_of_ne_zero hn;simp[Vz,h0,Zcn,underlying,Vg,run_program,Vd,R,Vi,S,b8,a9]
 have hs:=hR.sep id b a3 M;have W:Kt g.I w (w.setRow b ((d.take f++i++d.drop (f+n)).flatten++rest).toArray):=λq hq=>setRow_other w b q _ λe=>hs.1 (e▸hq);have a2:Fa (Rd (w.setRow b ((d.take f++i++d.drop (f+n)).flatten++rest).toArray) g.I t) (xs.take f++Vt n (zeroEl t)++xs.drop (f+n)) (d.take f++i++d.drop (f+n)):=
  (((j.take f).append J).append (j.drop (f+n))).mono λx c hx=>Rd.mono W (by simp) t x c hx
 have a4:(xs.take f++Vt n (zeroEl t)++xs.drop (f+n)).length=xs.length:=by simp;omega
 refine⟨.tuple #[],_,g,ow,.inl (a1 _ a8),hR.write a3 M (λq hq=>setRow_other w b q _ hq) (size_setRow w b _) rfl rfl ⟨rfl,Vb _⟩ ?_,.refl g,W,hv,λid h=>.inl h⟩;refine⟨b0,.inr ⟨b,_,_,e,_,a0,M,by rw[a4];exact s,Za8 hh,by omega,?_,a2,rest,by simp⟩⟩;have h8:((d.take f++i++d.drop (f+n)).flatten++rest).length=cs.size:=by rw[Q];simp only[Vfa,Vm,K,L];omega
 rw[Vaa,h8];exact b4
theorem Zw4{x val r m u}(q:RH B H w g ow)(i:VR w g x val)(h:(Zgx x).run H m=Ua (r,u)):∃a n c,val=.slice a n c/\a.isNone=r:=by
 unfold Zgx at h;split at h;.obtain⟨rfl,_⟩:=h;exact⟨Ub,0,0,i.nils,rfl⟩
 .rename_i t xs;simp only[ZD]at h;obtain⟨_,d,rfl,_⟩:=h;have d:=Gu d;obtain⟨a,cap,f,rfl,_,j,_⟩:=i.sl;obtain⟨b,off,rfl,_⟩:=j (by rintro rfl;simp at d);exact⟨_,_,_,rfl,rfl⟩
 .rename_i id;rw[ZZ]at h;split at h
  .rename_i t xs l;simp only[ZD]at h;obtain⟨_,d,rfl,_⟩:=h;have d:=Gu d;have⟨_,s⟩:=i.vw;have⟨_,_,p⟩:=q.objs id _ l;obtain⟨rfl,_⟩|⟨b,cap,cs,e,f,_,_,k,_⟩:=p
   .simp at d
   exact⟨_,_,_,s.trans k,rfl⟩
  simp[Zb]at h
 simp[Zb]at h
theorem Zw5{b T z x y r m J}(A:Z0 P E)(j:RH B H w g ow)(hF:Fr w g F a.tmps)(u:o.op=.binOp b T x y z)(D:Zz F y=.nils)(i:JV (E.ty T)=Uc)(h:(Zgx (Zz F x)).run H m=Ua (r,J)):
 (b=.eql->Zv B H w g nid (.d .bool r) ((execOp a.eval o).run P w))/\(b=.neq->Zv B H w g nid (.d .bool (!r)) ((execOp a.eval o).run P w)):=by
 have:∃t,E.ty T=Ua (.sl t):=by
  cases e:E.ty T with|none=>rw[e]at i;simp[JV]at i|some t=>cases t<;>rw[e]at i<;>simp[JV]at i;exact⟨_,rfl⟩
 have⟨t,e⟩:=this;have⟨K,C,_⟩:=Ju A e;have⟨f,n,c,k,l⟩:=Zw4 j (hF.eval x) h;have p:=(D▸hF.eval y).nils;have key:(Op.equal T (.slice f n c) (.slice Ub 0 0)).run P w=.ok r w:=by
  have:∀d,(Op.equalIn (d+1) T (.slice f n c) (.slice Ub 0 0)).run P w=.ok r w:=λd=>by
   simp[Op.equalIn,underlying,C];cases f<;>simp at l<;>subst l<;>simp
  exact this 9999
 have s:∀op,(eqGuard op T x y (.slice f n c) (.slice Ub 0 0)).run P w=.ok () w:=λop=>Zdb (by simp) rfl;refine⟨λq=>?_,λq=>?_⟩<;>subst q;.refine Zv.pure j ?_ (Xa _);simp[execOp,u,k,p,Vg,s,Vd,binOp,key]
 refine Zv.pure j ?_ (Xa _);simp[execOp,u,k,p,Vg,s,Vd,binOp,key]
theorem ZyU{T x K z id f i n t}{xs:V (El t)}(Q:Z0 P E)(O:RH B H w g ow)(hF:Fr w g F a.tmps)(ho:o.op=.slice T x K z Ub)(J:Zz F x=.ptr id [])(N:H id=Ua (.var (.arr n t) (.d (.arr n t) xs)))(ht:E.ty T=Ua (.arr n t))(C:X5 (Zz F) K=Uc)(y:X5 (Zz F) z=Uc)
 (hs:sliceB n n (K.bind λo=>K1 (Zz F o)) (z.bind λo=>K1 (Zz F o))=Ua (f,i)):Zv B (ZX H id Ub) w g nid (.d (.sl t) ((xs.drop f).take (i - f))) ((execOp a.eval o).run P w):=by
 have⟨U,hu,s⟩:=ZlC Q ht;have⟨hk,o',t1,b,L,W,h3⟩:=(J▸hF.eval x).ptr;rw[WW]at L;obtain⟨rfl,rfl⟩:=Vzb (Kx L);have⟨_,a2,_,b',cs,e,M,h5,h6,h7,h8⟩:=O.objs id _ N;rw[W]at M;cases M;have⟨hl,k,m,p⟩:=h8;have A:H id≠none:=by rw[N];simp
 have r:ZO H ow [id] b:=⟨id,by simp,A,h5⟩;have u:=O.freezeIds (ids:=[id]);have⟨hb,a1,a0⟩:=ZbY (P:=P) (isS:=Ud) hF (Vb _) (Zbs C) (Zbs y) hs (Vb _);refine Zv.after_le (g.le_grow (ZO H ow [id])) (λ_ h=>h) (Zv.pure (val:=.slice (Ua (if n=f then⟨b,0,Ub⟩ else Addr.add ⟨b,0,Ub⟩ (f*t.size))) (i - f) (n - f)) u ?_ (KT ?_ rfl rfl));.simp[execOp,ho,h3,Vwb,Vua,underlying,hu,hb,(Q.ty U t s).run_sizeOf]
 have l:((xs.drop f).take (i - f)).length=i - f:=by simp;omega
 have q:Fa (Rd w (g.grow (ZO H ow [id])).I t) xs k:=p.mono λx c J=>Rd.mono (λ_ _=>rfl) (λ_ h=>.inl h) t x c J;refine⟨_,n - f,(k.drop f).take (i - f),by rw[l],(q.drop f).take _,λD=>?_,by omega⟩;have S:0<i - f:=by rw[<-l];exact List.length_pos_iff.2 D
 have hL:KH w b 0 k.flatten:=by
  intro j R;rw[<-m]at R;simp[Vyb,h6];have:cs[j]? =Ua (k.flatten[j]'(by rw[<-m];exact R)):=by rw[<-Vta];simp[m]
  simpa using this
 refine⟨b,0+f*t.size,?_,.inr r,KH.part (Rd.all_length p) (by rw[<-p.length];omega) hL⟩;rw[Zg (by omega)];simp[Addr.add];exact λh=>h.symm
end ops
section ops
variable {P:Program}{E:Kh}{B:KR}{H:AH}{w:X}{g:Gh}{ow:Nat->Nat->Prop}{nid:Nat}{a:Act}{F:Nat->AV}{v:AV}{patch:Wm}{rd:V Nat}{o:Oper}
theorem KH.of_cells{b cs e}(c:w.heap[b]? =Ua (.cells cs e (0,0))):KH w b 0 cs.toList:=by have:=KH.of_vec (css:=[cs.toList]) c (by simp);simpa using this
theorem ZiL{u v val l C}(i:VR w g v val)(h:(ZaL v).run H l=Ua (u,C)):C=l/\∃t y,u=.dp t y/\VR w g u val/\∃b off,val=.pointer (Ua ⟨b,off,Ub⟩):=by
 unfold ZaL at h;split at h;.rename_i t x;simp[ZD]at h;obtain⟨y,j,rfl,rfl⟩:=h;subst j;have f:CV w g (.d (.pt t) (Ua y)) val.cells.toList:=i.1;have r:Kb val=false:=i.2.resolve_left (by simp);have⟨b,c,e,k,m,n,q⟩:=f;obtain rfl:=K3 k r;refine⟨rfl,t,y,rfl,KT ?_ rfl rfl,b,0,rfl⟩;exact⟨b,0,c.toList,rfl,m,.of_cells n,q⟩
 .rename_i a b x;simp only[ZD]at h;obtain⟨y,j,rfl,rfl⟩:=h
  cases x with
  |nil=>cases j|cons z x=>
   cases j;have f:CV w g (.d (.lk a b) (z::x)) val.cells.toList:=i.1;have r:Kb val=false:=i.2.resolve_left (by simp);have⟨p,off,A,cl,s,k,m,n,q,D,J⟩:=f;obtain rfl:=K3 k r;refine⟨rfl,ZcU a b,_,rfl,KT ?_ rfl rfl,p,off,rfl⟩;refine⟨p,off,A++(cl++s),rfl,m,n,?_⟩;exact⟨A,cl++s,rfl,q,cl,s,rfl,D,J⟩
 .rename_i t x;simp only[ZD]at h;obtain⟨y,j,rfl,rfl⟩:=h;subst j;have f:CV w g (.d (.pn t) (Ua y)) val.cells.toList:=i.1;have r:Kb val=false:=i.2.resolve_left (by simp);have⟨cells,e,k,m,n,q⟩:=f;obtain rfl:=K3 k r;refine⟨rfl,t,_,rfl,KT ?_ rfl rfl,y.1,0,rfl⟩;exact⟨y.1,0,cells.toList,rfl,m,.of_cells n,q⟩
 simp[Zb]at h
theorem Zo6{x}(h:(Zz F x).isPtD=Uc):∃n,x=.tmp n:=by
 cases x with
 |tmp n=>exact⟨n,rfl⟩|const c=>
  exfalso;simp[Zz]at h;unfold Zfk at h
  split at h<;>simp[AV.isPtD]at h|global i=>simp[Zz,AV.isPtD]at h|func f=>
  simp[Zz]at h;cases b:Vza f WO<;>rw[b]at h<;>simp[AV.isPtD]at h
theorem Fr.put1{n:Nat}{u}(hF:Fr w g F a.tmps)(c:VR w g u (a.eval (.tmp n))):Fr w g (λk=>bif Vo k n then u else F k) a.tmps:=by
 intro k
 cases b:Vo k n with
 |true=>
  have:=Vk b;subst this;show VR w g (bif Vo k k then u else F k) _
  rw[b];exact c|false=>
  show VR w g (bif Vo k n then u else F k) _;rw[b];exact hF k
theorem ZxP{x}(c:RH B H w g ow)(hF:Fr w g F a.tmps)(d:o.op=.nilCheck x){u l f}(h:(ZaL (Zz F x)).run H l=Ua (u,f)):Zv B H w g nid (Zz F x) ((execOp a.eval o).run P w):=by have⟨_,t,y,_,_,b,off,e⟩:=ZiL (hF.eval x) h;refine Zv.pure c ?_ (hF.eval x);simp[execOp,d,e]
theorem ZxN{T x}(f:Z0 P E)(e:RH B H w g ow)(hF:Fr w g F a.tmps)(b:o.op=.load T x)(i:(Zz F x).isPtD=Uc)
 (h:((ZaL (Zz F x)).bind λv=>ZP E nid (.load T x) o.type λ_=>v).run H []=Ua ((v,patch),rd)):Zv B (Zu H patch) w g nid v ((execOp a.eval o).run P w):=by
 obtain⟨n,rfl⟩:=Zo6 i;rw[ZY]at h;have⟨u,m,c,d⟩:=h;obtain⟨rfl,t,y,rfl,j,_⟩:=ZiL (hF.eval _) c;refine Zly f e (Fr.put1 hF j) b (rd:=rd) ?_;rw[b];simpa only[ZP,Zz,Nat.beq_refl,Zf] using d
theorem ZxM{T f:Nat}{x}(i:Z0 P E)(e:RH B H w g ow)(hF:Fr w g F a.tmps)(b:o.op=.fieldAddr T x f)(j:(Zz F x).isPtD=Uc)
 (h:((ZaL (Zz F x)).bind λv=>ZP E nid (.fieldAddr T x f) o.type λ_=>v).run H []=Ua ((v,patch),rd)):Zv B (Zu H patch) w g nid v ((execOp a.eval o).run P w):=by
 obtain⟨n,rfl⟩:=Zo6 j;rw[ZY]at h;have⟨u,m,c,d⟩:=h;obtain⟨rfl,t,y,rfl,k,_⟩:=ZiL (hF.eval _) c;refine Zlx i e (Fr.put1 hF k) b (rd:=rd) ?_;rw[b];simpa only[ZP,Zz,Nat.beq_refl,Zf] using d
theorem Zzi{T x y u t id p K c L R l l'}(hT:Z0 P E)(z:RH B H w g ow)(ho:o.op=.store T x y)(ht:E.ty T=Ua t)(hx:VR w g (.ptr id p) (a.eval x))(J:Kw w g u (a.eval y))(C:u.fits t=Uc)
 (hH:H id=Ua (.var K c)) (U:(Zae K c p u).run R l=Ua (L,l')):Zv B (ZX H id (Ua (.var K L))) w g nid .junk ((execOp a.eval o).run P w):=by
 have h:=CV.oneCell _ _ (ZcH C).1 J.1 t C;have f:=CV.length _ t _ C J.1;have⟨hk,o',t1,b,M,N,W⟩:=hx.ptr;have⟨_,i,D,b',cs,e,O,s,Q,h9,j⟩:=z.objs id _ hH;have⟨_,o2,pre,S,post,t2,⟨k,d,m,n⟩,q,r⟩:=Zp6 U D j J.1 (by omega);rw[i,k]at M;obtain⟨rfl,rfl⟩:=Vzb (Kx M);rw[N]at O;cases O;subst m;have A:=Zfc (cs' :=(pre++(a.eval y).cells.toList++post).toArray) z (by grind) s;refine Zv.write z (by grind) s (cs' :=(pre++(a.eval y).cells.toList++post).toArray) ?_ ?_;.simp[execOp,ho,W,Instr.storeAt,Vua,ZeC (hT.ty T t ht) Q d rfl n f h]
 refine⟨i,q,b,_,e,N,s,Za8 Q,?_,?_⟩
 .have:cs.size=pre.length+S.length+post.length:=by rw[<-Vp,d];grind
  grind
 simpa using CV.mono A (.refl g) _ _ r
theorem ZxQ{T x y t d ids id p j c u J l R S U}(M:Z0 P E)(z:RH B H w g ow)(hF:Fr w g F a.tmps)(N:o.op=.store T x y)(O:E.ty T=Ua t)(Q:Zz F x=.ptr id p)
 (f:(Km t (Zz F y)).run H S=Ua ((d,ids),U)) (C:KW id ids=Ud) (L:H id=Ua (.var j c)) (K:(Zae j c p (.d t d)).run J l=Ua (u,R)):
 Zv B (Zu H ((ids.map λi=>(i,Ub))++[(id,Ua (.var j u))])) w g nid .junk ((execOp a.eval o).run P w):=by
 have e:=g.le_grow (ZO H ow ids);have A:=Zh9 f;have r:∀m,Zz F y≠ .tup m:=by
  intro m q;rw[q]at f;cases t<;>simp[Km,Zb]at f
 have D:=(hF.eval y).to1 r;have s:Rd w (g.grow (ZO H ow ids)).I t d (a.eval y).cells.toList:=ZaE z (λb k=>e.I b k) _ _ _ _ _ _ _ f D.1 λb k=>.inr k;have n:Zu H (ids.map λi=>(i,Ub)) id=Ua (.var j c):=by rw[RY,Zg,L];intro q;rw[JX.2 q]at C;cases C
 rw[XB];refine Zv.after_le e (λ_ h=>h) (Zzi M z.freezeIds N O ((Q▸hF.eval x).mono (λ_ _=>rfl) e) ⟨by simpa only[CV] using s,.inr ?_⟩ (by simp[AV.fits]) n K);rw[D.2.resolve_left A.1,A.2];rfl
theorem ZyQ{T t}(h:Z0 P E)(i:E.ty T=Ua t)(c:Zea (Ua t)=Uc):∃e,P.underlying T=Ua (.pointer e):=by
 have b:=(h.ty T t i).shape
 cases f:P.underlying T with|none=>rw[f]at b;cases t<;>simp[Zea]at c<;>simp[Ka]at b|some d=>rw[f]at b;cases t<;>simp[Zea]at c<;>cases d<;>simp[Ka]at b<;>exact⟨_,rfl⟩
theorem ZxL{t x r val}(n:VR w g (.d t x) val)(h:ZgL (.d t x)=Ua r):Zea (Ua t)=Uc/\∃m,val=.pointer m/\r=m.isNone:=by
 have i:Kb val=Ud\/t.agg=true:=by
  have:=n.2.resolve_left (by simp);rw[this]
  cases p:t.agg with|true=>exact .inr rfl|false=>exact .inl p
 have f:Rd w g.I t x val.cells.toList:=by have:=n.1;simpa only[CV] using this
 unfold ZgL at h;split at h
 .rename_i q y j;cases j;refine⟨rfl,?_⟩;have i:=i.resolve_right (by simp[Ty.agg])
  cases y with|none=>exact⟨Ub,K3 f i,by simpa using h.symm⟩|some z=>have⟨b,off,c,k,_⟩:=f;exact⟨_,K3 k i,by simpa using h.symm⟩
 .rename_i A C y j;cases j;refine⟨rfl,?_⟩;have i:=i.resolve_right (by simp[Ty.agg])
  cases y with|nil=>exact⟨Ub,K3 f i,by simpa using h.symm⟩|cons z l=>have⟨b,off,s,cl,u,k,_⟩:=f;exact⟨_,K3 k i,by simpa using h.symm⟩
 .rename_i q y j;cases j;refine⟨rfl,?_⟩;have i:=i.resolve_right (by simp[Ty.agg])
  cases y with|none=>exact⟨Ub,K3 f i,by simpa using h.symm⟩|some z=>have⟨c,e,k,_⟩:=f;exact⟨_,K3 k i,by simpa using h.symm⟩
 cases h
theorem ZxO{b T m x y t d r}(p:Z0 P E)(i:RH B H w g ow)(hF:Fr w g F a.tmps)(l:o.op=.binOp b T x y m)(A:Zz F x=.d t d)(C:Zz F y=.nilr Uc)(s:ZgL (.d t d)=Ua r)(u:E.ty T=Ua t):
 (b=.eql->Zv B H w g nid (.d .bool r) ((execOp a.eval o).run P w))/\(b=.neq->Zv B H w g nid (.d .bool (!r)) ((execOp a.eval o).run P w)):=by
 obtain⟨q,c,f,rfl⟩:=ZxL (A▸hF.eval x) s;have⟨e,z⟩:=ZyQ p u q;have h:a.eval y=.pointer none:=by
  have:=C▸hF.eval y;have n:Kb (a.eval y)=false:=by simpa[AV.isAgg] using this.2
  exact K3 (Zou this.1) n
 have key:(Op.equal T (.pointer c) (.pointer Ub)).run P w=.ok c.isNone w:=by
  have:∀d,(Op.equalIn (d+1) T (.pointer c) (.pointer Ub)).run P w=.ok c.isNone w:=λd=>by
   cases c<;>simp[Op.equalIn,underlying,z]<;>rfl
  exact this 9999
 have k:∀op,(eqGuard op T x y (.pointer c) (.pointer Ub)).run P w=.ok () w:=λop=>Zdb (by simp) rfl;refine⟨λj=>?_,λj=>?_⟩<;>subst j;.refine Zv.pure i ?_ (Xa _);simp[execOp,l,f,h,Vg,k,Vd,binOp,key]
 refine Zv.pure i ?_ (Xa _);simp[execOp,l,f,h,Vg,k,Vd,binOp,key]
theorem Zo0{t x val}(h:VR w g (.d (.pn t) x) val):(x=Ub/\val=.pointer Ub)\/∃y cells e,x=Ua y/\val=.pointer (Ua ⟨y.1,0,Ub⟩)/\w.heap[y.1]? =Ua (.cells cells e (0,0)):=by
 have f:Kb val=false:=h.2.resolve_left (by simp);have b:Rd w g.I (.pn t) x val.cells.toList:=by have:=h.1;simpa only[CV] using this
 cases x with|none=>exact .inl ⟨rfl,K3 b f⟩|some y=>have⟨c,e,i,_,j,_⟩:=b;exact .inr ⟨y,c,e,rfl,K3 i f,j⟩
theorem Zxw{b T K x y t d j}(A:Z0 P E)(z:RH B H w g ow)(hF:Fr w g F a.tmps)(J:o.op=.binOp b T x y K)(Q:Zz F x=.d (.pn t) d)(R:Zz F y=.d (.pn t) j)(O:E.ty T=Ua (.pn t))(n:t.size≠0):
 (b=.eql->Zv B H w g nid (.d .bool (Ue (d.map Vj=j.map Vj))) ((execOp a.eval o).run P w))/\(b=.neq->Zv B H w g nid (.d .bool (!Ue (d.map Vj=j.map Vj))) ((execOp a.eval o).run P w)):=by
 have l:=(A.ty T _ O).shape;have⟨e,i,N⟩:∃e,P.underlying T=Ua (.pointer e)/\E.ty e=Ua t:=by
  cases i:P.underlying T with|none=>rw[i]at l;simp[Ka]at l|some d=>rw[i]at l;cases d<;>simp[Ka]at l;exact⟨_,rfl,l⟩
 have S:=(A.ty e t N).run_sizeOf w;have main:∃p q,a.eval x=.pointer p/\a.eval y=.pointer q/\(Op.equal T (.pointer p) (.pointer q)).run P w=.ok (Ue (d.map Vj=j.map Vj)) w:=by
  obtain⟨rfl,k⟩|⟨u,U,e1,rfl,k,L⟩:=Zo0 (Q▸hF.eval x)<;>obtain⟨rfl,c⟩|⟨f,W,e2,rfl,c,M⟩:=Zo0 (R▸hF.eval y)
  .refine⟨_,_,k,c,?_⟩;have:∀d,(Op.equalIn (d+1) T (.pointer Ub) (.pointer Ub)).run P w=.ok Uc w:=λd=>by simp only[Op.equalIn,underlying,Vg,run_program,Vd,i,Vi];rfl
   exact this 9999
  .refine⟨_,_,k,c,?_⟩;have:∀d,(Op.equalIn (d+1) T (.pointer Ub) (.pointer (Ua ⟨f.1,0,Ub⟩))).run P w=.ok Ud w:=λd=>by simp only[Op.equalIn,underlying,Vg,run_program,Vd,i,Vi];rfl
   exact this 9999
  .refine⟨_,_,k,c,?_⟩;have:∀d,(Op.equalIn (d+1) T (.pointer (Ua ⟨u.1,0,Ub⟩)) (.pointer Ub)).run P w=.ok Ud w:=λd=>by simp only[Op.equalIn,underlying,Vg,run_program,Vd,i,Vi]
   exact this 9999
  refine⟨_,_,k,c,?_⟩;have m:(sameAddr ⟨u.1,0,Ub⟩ ⟨f.1,0,Ub⟩).run P w=.ok (Ue (u.1=f.1)) w:=by
   by_cases e:u.1=f.1;.rw[e,run_sameAddr_same];simp
   rw[run_sameAddr_other w (a:=⟨u.1,0,Ub⟩) (λh=>e (Addr.mk.inj h).1) L M];simp[e]
  have:∀d,(Op.equalIn (d+1) T (.pointer (Ua ⟨u.1,0,Ub⟩)) (.pointer (Ua ⟨f.1,0,Ub⟩))).run P w=.ok (Ue (u.1=f.1)) w:=λd=>by simp only[Op.equalIn,underlying,Vg,run_program,Vd,i,Vi,S];simp only[ne_eq,n,not_false_eq_true,if_true,m]
  rw[show Ue (Vac Vj (Ua u)=Vac Vj (Ua f))=Ue (u.1=f.1) from by simp];exact this 9999
 have⟨p,q,c,s,key⟩:=main;have D:∀op,(eqGuard op T x y (.pointer p) (.pointer q)).run P w=.ok () w:=λop=>Zdb (by simp) rfl;generalize Ue (d.map Vj=j.map Vj)=r at key⊢;refine⟨λC=>?_,λC=>?_⟩<;>subst C;.refine Zv.pure z (val:=.bool r) ?_ (Xa _);simp only[execOp,J,c,s,Vg,D,Vd,binOp,key,Vi]
 refine Zv.pure z (val:=.bool (!r)) ?_ (Xa _);simp only[execOp,J,c,s,Vg,D,Vd,binOp,key,Vi]
end ops
def Zbk(P:Program)(B:KR)(e:AH)(w:X)(g:Gh)(nid n:Nat)(v:AV)(o:Oper)(a:Act):Prop:=
 ∀next Q,
  (∀val c b d,RH B e c b d->g.Le b->Kt g.I w c->VR c b v val->(∀id,b.K id->g.K id\/(nid<=id/\id<nid+n))->next (a.put o.dst val) c)->o.wp P a w next Q
section ops
variable {P:Program}{E:Kh}{B:KR}{H:AH}{w:X}{g:Gh}{ow:Nat->Nat->Prop}{nid:Nat}{a:Act}{F:Nat->AV}{v:AV}{patch:Wm}{rd:V Nat}{o:Oper}
theorem Zbk.of_did{e n}(q:Wv<=n)(h:Zv B e w g nid v ((execOp a.eval o).run P w)):Zbk P B e w g nid n v o a:=by
 intro next Q p
 have⟨val,r,f,d,b,i,j,k,l,m⟩:=h;have:=p val r f d i j k l λid c=>(m id c).imp (λh=>h) λh=>⟨h.1,by omega⟩;unfold Oper.wp;obtain b|⟨b,rfl⟩:=b;.rw[b];exact this
 rw[b];exact this
structure Ze1 (P:Program) (B:KR) (n:Nat) (f:FuncId) (h:Nat->ZF->ZE (AV×Wm)):Prop where
 fn:∃fn,P.funcs[f]? =some fn∧fn.body.isNone=false∧(fn.name== "runtime.NumGoroutine")=false
 run:∀{H:AH}{w:X}{g:Gh}{ow:Nat->Nat->Prop}{nid:Nat}{avs:ZF}{vals:V Y}{v:AV}{patch:Wm}{rd:V Nat},RH B H w g ow->(∀id,g.K id->id<nid\/nid+n<=id)->Jd w g avs vals->(h nid avs).run H []=Ua ((v,patch),rd)->
  Calls P f vals.toArray w λe w' =>∃rv g' ow',e=.returned rv/\RH B (Zu H patch) w' g' ow' /\g.Le g' /\Kt g.I w w' /\VR w' g' v rv/\∀id,g'.K id->g.K id\/(nid<=id/\id<nid+n)
theorem Zku(E:Kh):Wv<=E.stp:=by unfold Kh.stp Wv;omega
structure JO (P:Program) (E:Kh) (B:KR):Prop where
 ok:∀f,∀S∈E.specs f,ZR P f S
 amb:B.pl=Ud->GK P B.w0 B.own0
 pl:B.pl=Uc->∀f,∀S∈E.specs f,S.pl=Uc
 inl:∀f h,E.inl f=Ua h->Ze1 P B E.stp f h
theorem ZcG{fns}:∀{l}{S},S∈ZaO fns l->S∈l/\S.fns=fns
 |[],_,h=>by simp[ZaO]at h|T::l,S,h=>by
  simp[ZaO]at h
  cases b:T.fns==fns with
  |true=>
   rw[b]at h;obtain rfl|h:=Vn.1 h;.exact⟨by simp,by simpa using b⟩
   exact⟨Vxa _ (ZcG h).1,(ZcG h).2⟩|false=>rw[b]at h;simp[Ze]at h;exact⟨Vxa _ (ZcG h).1,(ZcG h).2⟩
theorem ZlB:∀(xs:V G),Fr w g F a.tmps->Zek (xs.map (Zz F))=Uc->Jd w g (ZF.ofList (xs.map (Zz F))) (xs.map a.eval)
 |[],_,_=>rfl|x::l,c,h=>by
  have b:(∀m,Zz F x≠ .tup m)/\Zek (l.map (Zz F))=true:=by
   simp[Vja]at h;cases d:Zz F x<;>rw[d]at h<;>simp[Zek]at h<;>exact⟨by simp,by simpa using h⟩
  exact⟨a.eval x,l.map a.eval,rfl,(c.eval x).to1 b.1,ZlB l c b.2⟩
theorem ZhT:∀{l m}{vs us},Jd w g l vs->Jd w g m us->Jd w g (l.app m) (vs++us)|.nil,_,_,_,h,b=>by simp[Jd]at h;subst h;exact b|.cons _ _,_,_,_,h,b=>by obtain⟨v,r,rfl,c,d⟩:=h;exact⟨v,r++_,rfl,c,ZhT d b⟩
theorem Zkk{f S}(e:ZR P f S) args w:(callFunc f args).run P w=.ok (.enter f args) w:=by have⟨fn,b,c,d⟩:=e.fn;simp only[callFunc,Vg,run_program,Vd,b,d,c,if_false,Vga,Vi]
theorem Zvr{f:FuncId}(h:Vza f WO=Uc):GV f=f:=by unfold GV;rw[h,Zf]
theorem Zvq{f:FuncId}(h:Vza f WO=Ud):GV f=f - WO:=by unfold GV;rw[h,Ze]
theorem Zsy{c R}(A:JO P E B)(hR:RH B H w g ow)(hF:Fr w g F a.tmps)(hk:∀id,g.K id->id<nid\/nid+Wv<=id)(N:o.op=.call c)(C:c.callee=.value R)
 (h:(ZP E nid o.op o.type (Zz F)).run H []=Ua ((v,patch),rd)):Zbk P B (Zu H patch) w g nid E.stp v o a:=by
 rw[N]at h;simp[ZP,C]at h;split at h
 .rename_i f k hf;simp[ZN,Zb,Vc]at h;have⟨⟨t,M⟩,h⟩:=h;have b:=hF.eval R;rw[hf]at b;have⟨z,b,D⟩:=b.fn;have s:=Zl1 k z t D;have r:=ZlB c.args.toList hF M;have⟨j,n⟩:∃j,j=bif Vza f WO then(ZF.ofList (c.args.toList.map (Zz F))).app k else k.app (ZF.ofList (c.args.toList.map (Zz F))):=⟨_,rfl⟩;have⟨i,d⟩:∃i,i=bif Vza f WO then c.args.toList.map a.eval++z else z++c.args.toList.map a.eval:=⟨_,rfl⟩;simp[<-n]at h;have hv:Jd w g j i:=by
   rw[n,d]
   cases Vza f WO with|true=>exact ZhT r s|false=>exact ZhT s r
  have y:∀S∈ZaO (ZdZ j) (E.specs (GV f)),ZR P (GV f) S/\(B.pl=Uc->S.pl=Uc):=λS h=>⟨A.ok _ S (ZcG h).1,λp=>A.pl p _ S (ZcG h).1⟩;have⟨S,m⟩:∃S,ZR P (GV f) S:=by
   cases u:ZaO (ZdZ j) (E.specs (GV f)) with|nil=>rw[u]at h;simp[Zcq,Zb]at h|cons S l=>exact⟨S,(y S (by rw[u];simp)).1⟩
  have q:=ZlW A.amb hR hk hv _ y h;intro next Q hn
  unfold Oper.wp;have x:(execOp a.eval o).run P w=.ok (.enter (GV f) i.toArray) w:=by
   obtain⟨p,J⟩|⟨p,J⟩:=ZcJ f z;.rw[J]at b;rw[d,p];simp[execOp,N,resolve,C,Deferred.ofValue,b,invoke];have:GV f=f:=Zvr p;rw[this]at m⊢;rw[Zkk m];congr 2;simp
   rw[J]at b;rw[d,p];simp[execOp,N,resolve,C,Deferred.ofValue,b,invoke];have:GV f=f - WO:=Zvq p;rw[this]at m⊢;rw[Zkk m];congr 2;simp
  rw[x,Oper.upon_enter];refine q.mono ?_;rintro e w' ⟨rv,U,O,rfl,W,h2,h3,h4,h5⟩;exact hn rv w' U O W h2 h3 h4 λid L=>(h5 id L).imp (λh=>h) λh=>⟨h.1,by have:=Zku E;omega⟩
 simp[Zb]at h
theorem Zr2(p:Z0 P E)(C:JO P E B)(e:RH B H w g ow)(hF:Fr w g F a.tmps)(q:∀id,g.K id->id<nid\/nid+Wv<=id)
 (h:(ZP E nid o.op o.type (Zz F)).run H []=Ua ((v,patch),rd)):Zbk P B (Zu H patch) w g nid E.stp v o a:=by
 have j:=Zku E
 cases d:o.op with
 |move x=>exact .of_did j (Zlz e hF (.inl d) h)|assign x=>exact .of_did j (Zlz e hF (.inr d) h)|pick c x y=>exact .of_did j (Zss e hF d h)|alloc T=>exact .of_did j (Zr3 p e q d h)|box T x=>exact .of_did j (Zr7 e hF q d h)|build T J=>exact .of_did j (Zr8 p e hF d h)|buildSlice T n J=>exact .of_did j (Zr9 p e hF q d h)|load T x=>exact .of_did j (Zly p e hF d h)|store T x y=>exact .of_did j (Zsw p e hF d h)|nilCheck x=>exact .of_did j (Zsq e hF d h)|binOp op T x y L=>exact .of_did j (Zr5 p e hF d h)|unOp op T x=>exact .of_did j (Zsx e hF d h)|convert S T x=>exact .of_did j (Zsb p e hF d h)|makeFunc fn first z=>
  cases fn with|func f=>exact .of_did j (Zsj e hF d h)|_=>rw[d]at h;simp[ZP,Zb]at h
 |makeMap T r=>exact .of_did j (Zsk p e hF q d h)|makeSlice T l c=>exact .of_did j (Zsl p e hF q d h)|slice T x M A D=>
  cases D with
  |none=>exact .of_did j (Zsu p e hF d h)|some m=>cases A with|none=>rw[d]at h;simp[ZP,Zb]at h|some A=>exact .of_did j (Zsv p e hF d h)
 |fieldAddr T x f=>exact .of_did j (Zlx p e hF d h)|field T x f=>exact .of_did j (Zse p e hF d h)|indexAddr T x i=>exact .of_did j (Zsg p e hF d h)|index T x i=>exact .of_did j (Zsf p e hF d h)|lookup T m k ok=>exact .of_did j (Zsi p e hF d h)|mapUpdate T m k x=>exact .of_did j (Zsm p e hF d h)|range T x=>exact .of_did j (Zst p e hF q d h)|next it s=>
  cases s with|false=>exact .of_did j (Zsp e hF d h)|true=>rw[d]at h;simp[ZP,Zb]at h
 |entry it=>exact .of_did j (Zsc e hF d h)|extract t i=>exact .of_did j (Zsd e hF d h)|call c=>
  cases u:c.callee with
  |value f=>exact Zsy C e hF q d u h|invoke r m=>rw[d]at h;simp[ZP,u,Zb]at h|builtin b=>
   cases b with|len=>exact .of_did j (Zsh p e hF d u h)|min=>exact .of_did j (Zso e hF d u h)|max=>exact .of_did j (Zsn e hF d u h)|append=>exact .of_did j (Zr4 p e hF q d u h)|_=>rw[d]at h;simp[ZP,u,Zb]at h
 |_=>rw[d]at h;simp[ZP,Zb]at h
theorem Zyz{α}{H}:∀(a:ZE α) l {r}{c},a.run H l=Ua (r,c)->∃m,a.run H []=Ua (r,m):=by
 intro a
 induction a with
 |ret a=>intro l r c h;simp[ZE.run,Va]at h;exact⟨[],by simp[ZE.run,h.1]⟩|fail=>intro l r c h;simp[ZE.run]at h|getH id k d=>
  intro l r c h;simp[ZE.run]at h⊢;have key:∀(a:ZE α) f e {r}{c},a.run H f=Ua (r,c)->∃m,a.run H e=Ua (r,m):=by
   intro a
   induction a with
   |ret a=>intro f e r c h;simp[ZE.run,Va]at h;exact⟨e,by simp[ZE.run,h.1]⟩|fail=>intro f e r c h;simp[ZE.run]at h|getH id k d=>intro f e r c h;simp[ZE.run]at h⊢;exact d _ _ _ h|opt o k d=>intro f e r c h;cases o with|none=>simp[ZE.run]at h|some b=>simp[ZE.run]at h⊢;exact d _ _ _ h
   |bool b k d=>intro f e r c h;simp[ZE.run]at h⊢;exact d _ _ _ h
  exact key _ _ _ h
 |opt o k d=>
  intro l r c h
  cases o with|none=>simp[ZE.run]at h|some b=>simp[ZE.run]at h⊢;exact d _ _ h
 |bool b k d=>intro l r c h;simp[ZE.run]at h⊢;exact d _ _ h
theorem Zsr(M:Z0 P E)(hS:JO P E B)(D:RH B H w g ow)(hF:Fr w g F a.tmps)(hk:∀id,g.K id->id<nid\/nid+E.stp<=id)
 (h:(Jf E nid o.op o.type (Zz F)).run H []=Ua ((v,patch),rd)):Zbk P B (Zu H patch) w g nid E.stp v o a:=by
 have A:=Zku E;have S:∀id,g.K id->id<nid\/nid+Wv<=id:=λid a5=>(hk id a5).imp (λh=>h) λh=>by omega
 have q:∀{l},(ZP E nid o.op o.type (Zz F)).run H l=Ua ((v,patch),rd)->Zbk P B (Zu H patch) w g nid E.stp v o a:=λh=>by have⟨m,hm⟩:=Zyz _ _ h;exact Zr2 M hS D hF S hm
 cases z:o.op with
 |call c=>
  cases O:c.callee with
  |value fo=>
   rw[z]at h q
   simp[Jf,O]at h;exact q h|invoke r m=>rw[z]at h q;simp[Jf,O]at h;exact q h|builtin b=>
   rw[z]at h q
   cases b with
   |clear=>
    simp only[Jf,O]at h;split at h
    .rename_i x t J a0;have⟨T0,h0,W⟩:=Vy.1 a0;split at h
     .rename_i id lo n C;rw[ZZ]at h;split at h
      .rename_i t' xs L;simp only[ZN,ZD,Zr,Zb,ZW,Z7,Kp,Va,Vc]at h;obtain⟨⟨rfl,hd⟩,u,hg,⟨rfl,rfl⟩,_⟩:=h;exact .of_did A (Ztr M D hF z O J h0 W C L hd (Xw (Gu hg)))
      simp[Zb]at h
     simp[Zb]at h
    simp[Zb]at h|append=>
    simp only[Jf,O]at h;split at h
    .rename_i s x lb J a0;have⟨T0,h0,W⟩:=Vy.1 a0;split at h
     .rename_i id C;rw[ZZ]at h;split at h
      .rename_i a9 xs L;simp only[ZN,ZD,ZY,Zr,Zb,false_or,ZW,Vka,Va]at h;obtain⟨a7,b0,R,⟨ys,ids⟩,m,a1,_,hg,⟨rfl,rfl⟩,_⟩:=h;obtain⟨he,rfl⟩:=KS R;cases he;exact .of_did A (ZzL M D hF (Ho S) z O J h0 W (by simpa using a7) C L a1 (Xw (Gu hg)))
      exact q h
     exact q h
    exact q h|_=>simp only[Jf,O]at h;exact q h
 |indexAddr T x i=>
  rw[z]at h q;simp only[Jf]at h;split at h
  .rename_i id k n C hi;rw[ZZ]at h;split at h
   .rename_i lb xs L;simp only[ZN,ZD,Zr,Zb,ZW,Z7,Kp,Va]at h;obtain⟨N,j,hj,⟨rfl,rfl⟩,_⟩:=h;exact .of_did A (ZzM M D hF z C hi L N hj)
   exact q h
  exact q h|slice T x lo hi mx=>
  rw[z]at h q;simp only[Jf]at h;split at h
  .rename_i id C;rw[ZZ]at h;split at h
   .rename_i lb xs L;simp only[ZN,ZD,Zr,Zb,ZW,false_or,Vca,Vfb,Vc,Kp,Va]at h;obtain⟨⟨N,a2,a3⟩,r,U,⟨rfl,rfl⟩,_⟩:=h;exact .of_did A (ZzO M D hF (Ho S) z C L N a2 a3 U)
   exact q h
  .rename_i id C;rw[ZZ]at h;split at h
   .rename_i t0 n t xs L;simp only[ZN,ZD,Zr,Zb,ZW,false_or,Kp,Va,Vca,Vfb,Vc]at h;obtain⟨⟨⟨⟨a6,a4⟩,N⟩,rfl⟩,⟨l1,h1⟩,hs,⟨rfl,rfl⟩,_⟩:=h;exact .of_did A (ZyU M D hF z C L N a6 a4 hs)
   exact q h
  exact q h|makeFunc fn first a8=>
  rw[z]at h q;simp only[Jf,ZN]at h;obtain⟨_,h⟩|⟨_,h⟩:=h;.exact q h
  have junk:v=.junk->patch=[]->Zbk P B (Zu H patch) w g nid E.stp v o a:=by
   rintro rfl rfl;have U:∃val,(execOp a.eval o).run P w=.ok (.value val) w:=by simp only[execOp,z];exact⟨_,rfl⟩
   have⟨val,U⟩:=U;exact .of_did A (Zv.pure D U Gi)
  split at h
  .rename_i f;simp only[ZN,Zr,Va,Vc]at h;obtain⟨⟨O,h2⟩,⟨rfl,rfl⟩,_⟩|⟨_,⟨rfl,rfl⟩,_⟩:=h
   .exact .of_did A (Zr6 D hF z O h2)
   exact junk rfl rfl
  simp only[Zr,Va]at h;obtain⟨⟨rfl,rfl⟩,_⟩:=h
  exact junk rfl rfl
 |nilCheck x=>
  rw[z]at h q;simp only[Jf]at h;rw[ZN]at h;obtain⟨hp,h⟩|⟨_,h⟩:=h;.rw[ZY]at h;have⟨u,m,h1,h⟩:=h;simp only[Zr,Va]at h;obtain⟨⟨rfl,rfl⟩,_⟩:=h;exact .of_did A (ZxP D hF z h1)
  exact q h|fieldAddr T x f=>
  rw[z]at h q;simp only[Jf]at h;rw[ZN]at h;obtain⟨hp,h⟩|⟨_,h⟩:=h;.exact .of_did A (ZxM M D hF z hp h)
  exact q h|load T x=>
  rw[z]at h q;simp only[Jf]at h;rw[ZN]at h;obtain⟨hp,h⟩|⟨_,h⟩:=h;.exact .of_did A (ZxN M D hF z hp h)
  split at h
  .rename_i id j C;rw[ZZ]at h;split at h
   .rename_i lb xs L;simp only[ZN,ZD,Zr,Zb,ZW,Z7,Kp,Va]at h;obtain⟨N,y,hy,⟨rfl,rfl⟩,_⟩:=h;exact .of_did A (ZzN M D hF z C L N hy)
   simp[Zb]at h
  exact q h|store T x y=>
  rw[z]at h q;simp only[Jf]at h;rw[ZN]at h;obtain⟨hp,h⟩|⟨_,h⟩:=h
  .rw[ZD]at h;have⟨t,N,h⟩:=h;rw[ZY]at h;have⟨⟨d,ids⟩,m,h1,h⟩:=h;split at h
   .rename_i id p C;rw[ZN]at h;obtain⟨_,h⟩|⟨hm,h⟩:=h
    .simp[Zb]at h
    rw[ZZ]at h;split at h;.rename_i t0 c L;rw[ZY]at h;have⟨c',m',h2,h⟩:=h;simp only[Zr,Va]at h;obtain⟨⟨rfl,rfl⟩,_⟩:=h;exact .of_did A (ZxQ M D hF z N C h1 hm L h2)
    simp[Zb]at h
   simp[Zb]at h
  exact q h|binOp b T x y T' =>
  rw[z]at h q;simp only[Jf]at h;split at h
  .rename_i t d C hy;rw[ZD]at h;have⟨r,U,h⟩:=h;rw[ZN]at h;obtain⟨hb,h⟩|⟨_,h⟩:=h
   .have Q:=ZxO (nid:=nid) M D hF z C hy U (beq_iff_eq.1 hb);split at h
    .simp only[Zr,Va]at h;obtain⟨⟨rfl,rfl⟩,_⟩:=h;exact .of_did A (Q.1 rfl)
    .simp only[Zr,Va]at h;obtain⟨⟨rfl,rfl⟩,_⟩:=h;exact .of_did A (Q.2 rfl)
    simp[Zb]at h
   simp[Zb]at h
  .rename_i t d t' d' C hy;rw[ZN]at h;obtain⟨hb,h⟩|⟨_,h⟩:=h
   .simp only[Vc,Kp]at hb;obtain⟨⟨N,rfl⟩,hz⟩:=hb;have hz:t'.size≠0:=by intro e;rw[e]at hz;simp at hz
    have Q:=Zxw (nid:=nid) M D hF z C hy N hz;split at h;.simp only[Zr,Va]at h;obtain⟨⟨rfl,rfl⟩,_⟩:=h;exact .of_did A (Q.1 rfl)
    .simp only[Zr,Va]at h;obtain⟨⟨rfl,rfl⟩,_⟩:=h;exact .of_did A (Q.2 rfl)
    simp[Zb]at h
   simp[Zb]at h
  .have hy:Zz F y=.nils:=by assumption
   rw[ZN]at h;obtain⟨hb,h⟩|⟨_,h⟩:=h
   .rw[ZY]at h;have⟨r,m,h1,h⟩:=h;have Q:=Zw5 (nid:=nid) M D hF z hy hb h1;split at h
    .simp only[Zr,Va]at h;obtain⟨⟨rfl,rfl⟩,_⟩:=h;exact .of_did A (Q.1 rfl)
    .simp only[Zr,Va]at h;obtain⟨⟨rfl,rfl⟩,_⟩:=h;exact .of_did A (Q.2 rfl)
    simp[Zb]at h
   exact q h
  exact q h|_=>rw[z]at h q;exact q h
end ops
section congr
variable {E:Kh}{nid:Nat}{T:Z}{ev ev' :G->AV}
theorem Zcp{o}(h:∀x∈o,ev x=ev' x):X5 ev o=X5 ev' o:=by
 cases o with|none=>rfl|some x=>simp[X5,h x (by simp)]
theorem ZdC{o:Option G}(h:∀x∈o,ev x=ev' x):(o.bind λo=>K1 (ev o))=o.bind λo=>K1 (ev' o):=by
 cases o with|none=>rfl|some x=>grind
theorem Zr1 op(h:∀x∈op.operands,ev x=ev' x):ZP E nid op T ev=ZP E nid op T ev' :=by
 have z:∀e:Array (Nat×G),(∀x∈e.toList.map (·.2),ev x=ev' x)->(e.toList.map λp=>(p.1,ev p.2))=(e.toList.map λp=>(p.1,ev' p.2)):=λe Q=>
  List.map_congr_left (by grind)
 have lists:∀xs:V G,(∀x∈xs,ev x=ev' x)->xs.map ev=xs.map ev' :=by simp
 cases op<;>simp only[Op.operands]at h<;>simp only[ZP];case move x=>grind
 case assign x=>grind
 case pick c x y=>grind
 case box T x=>grind
 case build T e=>grind
 case buildSlice T n e=>grind
 case load T x=>grind
 case store T x y=>simp_all
 case nilCheck x=>grind
 case binOp op T x y N=>grind
 case unOp op T x=>grind
 case convert S T x=>grind
 case makeFunc fn first A=>
  cases fn<;>simp;grind
 case makeMap T r=>
  grind
 case makeSlice T l c=>grind
 case slice T x C d M=>
  cases M with
  |some m=>
   cases d with
   |none=>rfl|some d=>
    have j:∀y∈C,ev y=ev' y:=by simp_all
    have q:ev d=ev' d:=by grind
    have D:ev m=ev' m:=h m (by simp);have J:X5 ev (Ua d)=X5 ev' (Ua d):=Zcp (by grind);simp
    rw[h x (by simp),Zcp j,J,ZdC j,q,D]
  |none=>
   simp only;have j:∀y∈C,ev y=ev' y:=by simp_all
   have q:∀y∈d,ev y=ev' y:=by simp_all
   rw[h x (by simp),Zcp j,Zcp q,ZdC j,ZdC q]
 case fieldAddr T x f=>grind
 case field T x f=>grind
 case indexAddr T x i=>grind
 case index T x i=>grind
 case lookup T m k ok=>grind
 case mapUpdate T m k x=>grind
 case range T x=>grind
 case next it s=>cases s<;>simp;grind
 case entry it=>grind
 case extract t i=>grind
 case call c=>
  have u:∀x∈c.args.toList,ev x=ev' x:=λx L=>h x (by simp[Call.operands,Vu.1 L])
  cases K:c.callee with
  |value f=>
   have O:ev f=ev' f:=h f (by simp[Call.operands,K])
   grind|invoke r m=>rfl|builtin b=>
   cases b<;>simp only;all_goals grind
theorem Zsa op(h:∀x∈op.operands,ev x=ev' x):Jf E nid op T ev=Jf E nid op T ev' :=by
 have q:=Zr1 (E:=E) (nid:=nid) (T:=T) op h;have lists:∀xs:V G,(∀x∈xs,ev x=ev' x)->xs.map ev=xs.map ev' :=by simp
 cases op;all_goals simp only[Op.operands]at h
 all_goals simp[Jf,q]
 case load T x=>rw[h x (by simp)]
 case nilCheck x=>rw[h x (by simp)]
 case indexAddr T x i=>rw[h x (by simp),h i (by simp)]
 case slice T x A s J=>
  have e:∀y∈A,ev y=ev' y:=by simp_all
  have j:∀y∈s,ev y=ev' y:=by simp_all
  rw[h x (by simp),Zcp e,Zcp j,ZdC e,ZdC j]
 case fieldAddr T x f=>rw[h x (by simp)]
 case store T x y=>rw[h x (by simp),h y (by simp)]
 case binOp op T x y C=>rw[h x (by simp),h y (by simp)]
 case makeFunc fn first p=>rw[lists first.toList λx n=>h x (by simp[Vu.1 n])]
 case call c=>
  have d:∀x∈c.args.toList,ev x=ev' x:=λx n=>h x (by simp[Call.operands,Vu.1 n])
  cases D:c.callee with
  |value _|invoke _ _=>rfl|builtin b=>
   cases b<;>simp;case clear=>
    rcases k:c.args.toList with _|⟨x,_|⟨y,l⟩⟩;.rfl
    .have e:=d x (by simp[k])
     cases (c.argTypes[0]?).bind E.ty with|none=>rfl|some t=>cases t<;>first|rfl|(simp[e])
    rfl
   case append=>
    rcases k:c.args.toList with _|⟨x,_|⟨y,_|⟨z,l⟩⟩⟩;.rfl
    .rfl
    .have e:=d x (by simp[k]);have j:=d y (by simp[k])
     cases (c.argTypes[0]?).bind E.ty with|none=>rfl|some t=>cases t<;>first|rfl|(rename_i u;cases u<;>first|rfl|(simp[e,j]))
    rfl
   all_goals grind
end congr
theorem Zoh{t}:∀{l},t∈Zb1 l↔.tmp t∈l|[]=>by simp[Zb1]|x::l=>by cases x<;>simp[Zb1,Zoh]
theorem ZrJ{F b l}(h:∀t∈Zb1 l,F t=b t):∀x∈l,Zz F x=Zz b x:=by
 intro x c
 cases x with|tmp t=>exact h t (Zoh.2 c)|_=>rfl
def Hy(ops:Array Oper)(o:Oper)(F:Nat->AV):Option Bool:=
 match o.guard with
 |none=>Ua Uc|some (j,want)=>match (ops[j]?).bind (·.dst) with
  |none=>Ub|some g=>match F g with|.d .bool b=>Ua (b==want)|.tup .nil=>Ua Ud|_=>Ub
noncomputable def XJ(E:Kh)(ops:Array Oper)(base:Nat)(fz:V Nat)(i:Nat)(o:Oper)(F:Nat->AV)(H:AH):Option ((Nat->AV)×AH×Option Gf):=
 match Hy ops o F with
 |none=>Ub|some false=>if Hs E o.dst=Uc then Ua (W9 F o.dst Zdh,H,Ub) else Ub|some true=>if Hs E o.dst=Uc then((Jf E (base+i*E.stp) o.op o.type (Zz F)).run H []).bind λr=>
   if Xe (r.1.2.map Vj) fz=Uc then Ua (W9 F o.dst r.1.1,Zu H r.1.2,Ua ⟨i,r.2,r.1.2.map Vj⟩) else Ub else Ub
theorem ZqJ{F g v}(h:F g=v):XX F g v=F:=by
 funext k;unfold XX
 cases b:Vo k g with|true=>simp_all|false=>rfl
section
variable {E:Kh}{ops:Array Oper}{base:Nat}{fz:V Nat}
theorem Zsz{ρ}{o i rest F H l k r}(h:Hg E ops base fz ρ ((o,i)::rest) F H l k=Ua r):
 ∃d H1 t,XJ E ops base fz i o F H=Ua (d,H1,t)/\Hg E ops base fz ρ rest d H1 (t.toList++l) k=Ua r:=by
 have go:Hy ops o F=Ua Uc->(bif Hs E o.dst then
  (Jf E (base+i*E.stp) o.op o.type (Zz F)).runK H [] λr rd=>
    bif Xe (r.2.map Vj) fz then
     Hg E ops base fz ρ rest (W9 F o.dst r.1) (Zu H r.2) (⟨i,rd,r.2.map Vj⟩::l) k else Ub else Ub)=Ua r->
  ∃d H1 t,XJ E ops base fz i o F H=Ua (d,H1,t)/\Hg E ops base fz ρ rest d H1 (t.toList++l) k=Ua r:=by
  intro n h
  cases m:Hs E o.dst with
  |false=>grind|true=>
   simp[ZE.runK_eq]at h
   cases p:(Jf E (base+i*E.stp) o.op o.type (Zz F)).run H [] with
   |none=>grind|some y=>
    rw[p]at h;simp[Za]at h
    cases q:Xe (y.1.2.map Vj) fz with
    |false=>grind|true=>
     exact⟨W9 F o.dst y.1.1,Zu H y.1.2,Ua ⟨i,y.2,y.1.2.map Vj⟩,by simp[XJ,n,m,p,q],by grind⟩
 have skip:Hy ops o F=Ua Ud->(bif Hs E o.dst then Hg E ops base fz ρ rest (W9 F o.dst Zdh) H l k else Ub)=Ua r->
  ∃d H1 t,XJ E ops base fz i o F H=Ua (d,H1,t)/\Hg E ops base fz ρ rest d H1 (t.toList++l) k=Ua r:=by
  intro n h
  cases m:Hs E o.dst with
  |false=>grind|true=>
   exact⟨W9 F o.dst Zdh,H,Ub,by simp[XJ,n,m],by grind⟩
 simp[Hg]at h
 cases f:o.guard with
 |none=>
  rw[f]at h
  exact go (by simp[Hy,f]) h|some s=>
  have⟨j,want⟩:=s;rw[f]at h;simp at h;split at h;.grind
  rename_i g c;split at h
  .rename_i b e
   cases b with
   |true=>
    rw[ZqJ e]at h
    cases want with|true=>exact go (by simp[Hy,f,c,e]) h|false=>exact skip (by simp[Hy,f,c,e]) h
   |false=>
    rw[ZqJ e]at h
    cases want with|true=>exact skip (by simp[Hy,f,c,e]) h|false=>exact go (by simp[Hy,f,c,e]) h
  .rename_i e;exact skip (by simp[Hy,f,c,e]) h
  grind
inductive AE (E:Kh) (ops:Array Oper) (base:Nat) (fz:V Nat):V (Oper×Nat)->(Nat->AV)->AH->V Gf->(Nat->AV)->AH->V Gf->Prop
 |nil {F H tr}:AE E ops base fz [] F H tr F H tr
 |cons {o i rest F H tr F1 H1 t F' H' tr'} (h:XJ E ops base fz i o F H=Ua (F1,H1,t)) (h' :AE E ops base fz rest F1 H1 (t.toList++tr) F' H' tr'):AE E ops base fz ((o,i)::rest) F H tr F' H' tr'
theorem Zfg{ρ}:∀{l}{F}{H}{c}{k}{r},Hg E ops base fz ρ l F H c k=Ua r->∃d e b,AE E ops base fz l F H c d e b/\k d e b=Ua r|[],F,H,c,k,r,h=>⟨F,H,c,.nil,by assumption⟩|(o,i)::rest,F,H,c,k,r,h=>by have⟨p,H1,t,f,j⟩:=Zsz h;have⟨d,e,b,m,n⟩:=Zfg j;exact⟨d,e,b,.cons f m,n⟩
inductive HB (E:Kh) (ops:Array Oper) (base:Nat) (fz:V Nat) (T:Nat->Option Gf):V Nat->(Nat->AV)->AH->(Nat->AV)->AH->Prop
 |nil {F H}:HB E ops base fz T [] F H F H
 |cons {o i rest F H F1 H1 F' H'} (ho:ops[i]? =Ua o) (h:XJ E ops base fz i o F H=Ua (F1,H1,T i)) (h' :HB E ops base fz T rest F1 H1 F' H'):HB E ops base fz T (i::rest) F H F' H'
theorem Zia{i o F b H H1 t}(h:XJ E ops base fz i o F H=Ua (b,H1,Ua t)):t.i=i:=by
 unfold XJ at h;split at h;.grind
 .grind
 split at h
 .cases c:(Jf E (base+i*E.stp) o.op o.type (Zz F)).run H [] with
  |none=>grind|some y=>
   grind
 grind
theorem Zqz{i}{t:Option Gf}{b}(h:∀u∈t,u.i≠i):YY i (t.toList++b)=YY i b:=by
 cases t with
 |none=>rfl|some u=>
  have:Vo u.i i=false:=by
   cases c:Vo u.i i;all_goals simp_all
  simp[YY,this]
theorem AE.other:∀{l}{F}{H}{c}{d}{e}{b},AE E ops base fz l F H c d e b->∀i,(∀p∈l,p.2≠i)->YY i b=YY i c:=by
 intro l F H c d e b h
 induction h with
 |nil=>simp|cons h k j=>
  intro i m;rw[j i (by grind)];refine Zqz λu f=>?_;subst f;rw[Zia h];simp_all
theorem AE.ex:∀{l}{F}{H}{e}{c}{d}{b},AE E ops base fz l F H e c d b->(l.map Vxb).Nodup->(∀p∈l,ops[p.2]? =Ua p.1)->(∀p∈l,YY p.2 e=Ub)->
 HB E ops base fz (λi=>YY i b) (l.map Vxb) F H c d:=by
 intro l F H e c d b h
 induction h with
 |nil=>intros;exact .nil| @cons o i rest F H e r H1 t c d b h j q=>
   intro f k x;simp[Vja]at f;have m:YY i b=t:=by
    rw[j.other i (by grind)]
    cases t with|none=>simp_all|some u=>simp[YY,Zia h]
   refine .cons (k _ (List.mem_cons_self ..)) (by grind) (q f.2 (by grind) λp s=>?_);rw[Zqz λu n=>?_];.grind
   subst n;rw[Zia h];grind
theorem R6{F d v k}(h:∀e,d=Ua e->k≠e):W9 F d v k=F k:=by
 cases d with
 |none=>rfl|some e=>
  have:Vo k e=false:=by
   cases b:Vo k e;all_goals simp_all
  simp[W9,XX,this]
theorem ZxR{F d e v u}(h:∀x,d=Ua x->e≠Ua x):W9 (W9 F d v) e u=W9 (W9 F e u) d v:=by
 funext k;by_cases i:∃x,d=Ua x/\k=x
 .obtain⟨x,rfl,rfl⟩:=i;have f:∀y,e=Ua y->k≠y:=by grind
  rw[R6 f];simp[W9,XX]
 have b:∀x,d=Ua x->k≠x:=by grind
 rw[R6 b];by_cases f:∃y,e=Ua y/\k=y;.obtain⟨y,rfl,rfl⟩:=f;simp[W9,XX]
 have c:∀x,e=Ua x->k≠x:=by grind
 rw[R6 c,R6 c,R6 b]
theorem ZoU:∀{l m}{H},(∀p∈l,∀q∈m,p.1≠q.1)->Zu (Zu H l) m=Zu (Zu H m) l|[],m,H,_=>rfl|p::l,m,H,h=>by simp[Zu];rw[ZoU (by grind),ZgI (by grind)]
structure Stp (E:Kh) (ops:Array Oper) (i:Nat) (o:Oper) (F:Nat->AV) (H:AH) (F1:Nat->AV) (H1:AH) (t:Option Gf) (v:AV) (pa:Wm):Prop where
 dst:Hs E o.dst=Uc
 F:F1=W9 F o.dst v
 H:H1=Zu H pa
 wr:∀p∈pa,∃u,t=Ua u/\p.1∈u.wr
theorem Zfj{i o F s H H1 t}(h:XJ E ops base fz i o F H=Ua (s,H1,t)):
 ∃v l,Stp E ops i o F H s H1 t v l/\∀b H0,(∀k∈DX ops o,b k=F k)->(∀u,t=Ua u->∀id∈u.rd,H0 id=H id)->XJ E ops base fz i o b H0=Ua (W9 b o.dst v,Zu H0 l,t):=by
 have f:∀b,(∀k∈DX ops o,b k=F k)->Hy ops o b=Hy ops o F:=by
  intro b c;unfold Hy
  cases D:o.guard with
  |none=>rfl|some M=>
   have⟨j,want⟩:=M;simp
   cases p:(ops[j]?).bind (·.dst) with|none=>rfl|some g=>simp;rw[c g (by simp[DX,D,p])]
 have n:∀b,(∀k∈DX ops o,b k=F k)->Jf E (base+i*E.stp) o.op o.type (Zz b)=Jf E (base+i*E.stp) o.op o.type (Zz F):=by intro b c;refine Zsa o.op λx L=>ZrJ (λt K=>c t (by simp[DX,K])) x (Vu.2 L)
 unfold XJ at h;split at h;.grind
 .rename_i r;split at h
  .rename_i d;obtain⟨rfl,rfl,rfl⟩:=h;exact⟨Zdh,[],⟨d,rfl,rfl,by simp⟩,λb H0 c _=>by simp[XJ,f b c,r,d,Zu]⟩
  grind
 rename_i r;split at h
 .rename_i d
  cases A:(Jf E (base+i*E.stp) o.op o.type (Zz F)).run H [] with
  |none=>grind|some y=>
   have⟨⟨v,l⟩,rd⟩:=y;rw[A]at h;simp only[Za]at h;split at h;.rename_i J;obtain⟨rfl,rfl,rfl⟩:=h;refine⟨v,l,⟨d,rfl,rfl,by grind⟩,λb H0 c C=>?_⟩;obtain⟨m,z,e⟩:=ZE.run_local _ _ _ _ A;simp[Vpb]at z;have:=e λid q=>C _ rfl id (by rw[z];exact q);simp[XJ,f b c,r,d,n b c,this,J]
   grind
 grind
def ZhJ(ops:Array Oper)(T:Nat->Option Gf)(i j:Nat):Prop:=
 ∀a b,ops[i]? =Ua a->ops[j]? =Ua b->Zg3 ops a b=Uc/\∀u v,T i=Ua u->T j=Ua v->Xe u.wr v.rd=Uc/\Xe u.wr v.wr=Uc/\Xe v.wr u.rd=Uc
theorem ZyV{a b}(h:Zg3 ops a b=Uc):(∀d,a.dst=Ua d->d ∉ DX ops b/\b.dst≠Ua d)/\∀d,b.dst=Ua d->d ∉ DX ops a:=by
 unfold Zg3 at h;simp[Vc]at h;refine⟨λd f=>?_,λd f=>?_⟩
 .have c:=h.1;rw[f]at c;simp[Vka]at c;refine⟨λi=>?_,λj=>?_⟩
  .rw[JX.2 i]at c;grind
  simp_all
 have e:=h.2;rw[f]at e;simp[Vka]at e;intro i;rw[JX.2 i]at e;grind
theorem HB.swap{T i j l F O H Q}(h:HB E ops base fz T (i::j::l) F H O Q)(hi:ZhJ ops T i j):HB E ops base fz T (j::i::l) F H O Q:=by
 cases h with
 | @cons L _ _ _ _ S H1 _ _ d h1 h' =>
   cases h' with
   | @cons n _ _ _ _ U W _ _ f h2 s=>
     have⟨hs,ht⟩:=hi L n d f;have⟨a0,a3⟩:=ZyV hs;have⟨v1,p1,c,c1⟩:=Zfj h1;have⟨N,M,r,c2⟩:=Zfj h2;have t:∀k∈DX ops n,F k=S k:=λk hk=>by rw[c.F,R6 (by grind)]
     have y:∀u,T j=Ua u->∀id∈u.rd,H id=H1 id:=λu hu id b=>by rw[c.H,Zev λp m e=>?_];have⟨u1,A,D⟩:=c.wr p m;exact ZaM.1 (by grind) _ D (e▸b)
     have a1:=c2 F H t y;have x:∀k∈DX ops L,W9 F n.dst N k=F k:=λk hk=>R6 (by grind);have z:∀u,T i=Ua u->∀id∈u.rd,Zu H M id=H id:=λu hu id b=>Zev λp m e=>by have⟨u2,C,D⟩:=r.wr p m;exact ZaM.1 (by grind) _ D (e▸b)
     have R:=c1 (W9 F n.dst N) (Zu H M) x z;have eF:W9 (W9 F n.dst N) L.dst v1=U:=by rw[r.F,c.F,ZxR (by grind)]
     have eH:Zu (Zu H M) p1=W:=by rw[r.H,c.H];refine ZoU λp m q hq e=>?_;have⟨u2,C,K⟩:=r.wr p m;have⟨u1,A,J⟩:=c.wr q hq;exact ZaM.1 (by grind) _ J (e▸K)
     rw[eF,eH]at R;exact .cons f a1 (.cons d R s)
theorem HB.front{T i l b c}:∀{pre}{F}{H},HB E ops base fz T (pre++i::l) F H b c->(∀j∈pre,ZhJ ops T j i)->HB E ops base fz T (i::(pre++l)) F H b c
 |[],_,_,h,_=>h|j::pre,F,H,h,k=>by
  cases h with|cons f e d=>exact(HB.cons f e (HB.front d (by grind))).swap (by grind)
end
theorem Kt.trans{w w1 d I J}(e:Kt I w w1)(f:Kt J w1 d)(h:∀b,I b->J b):Kt I w d:=λb c=>(f b (h b c)).trans (e b c)
theorem Zj5{a:Act}{d v}{t:Nat}(h:∀e,d=Ua e->t≠e):(a.put d v).tmps.getD t undef=a.tmps.getD t undef:=by
 cases d with|none=>rfl|some e=>simp[Act.put,Array.getElem?_setIfInBounds_ne (Ne.symm (h e rfl))]
theorem ZxS{a:Act}{d v}(h:d<a.tmps.size):(a.put (Ua d) v).tmps.getD d undef=v:=by simp[Act.put,h]
theorem Zj6{a:Act}{d:Option Nat}{v}:(a.put d v).tmps.size=a.tmps.size:=by cases d<;>simp[Act.put]
theorem Zj4{a:Act}{d:Option Nat}{v}:(a.put d v).defers=a.defers:=by cases d<;>rfl
theorem ZgC{E d}(h:Hs E (Ua d)=Uc):d<E.nt/\d ∉ E.ks:=by simp[Hs]at h;refine⟨by simp_all,λb=>?_⟩;rw[JX.2 b]at h;grind
theorem Fr.put{w g F}{a:Act}{d v val}(h:Fr w g F a.tmps)(i:VR w g v val)(c:∀e,d=Ua e->e<a.tmps.size):Fr w g (W9 F d v) (a.put d val).tmps:=by
 intro t;by_cases f:d=Ua t;.subst f;rw[ZxS (c t rfl)];simpa[W9,XX] using i
 have b:∀e,d=Ua e->t≠e:=by grind
 rw[R6 b,Zj5 b];exact h t
section
variable {P:Program}{E:Kh}{B:KR}{ops:Array Oper}{base:Nat}{fz:V Nat}
theorem ZkQ{w g F}{a:Act}{o b}(hF:Fr w g F a.tmps)(h:Hy ops o F=Ua b):Region.wanted o (yielded ops a.tmps)=b:=by
 unfold Hy at h;unfold Region.wanted
 cases l:o.guard with
 |none=>grind|some n=>
  have⟨j,want⟩:=n;rw[l]at h;simp at h⊢
  cases e:(ops[j]?).bind (·.dst) with
  |none=>grind|some d=>
   rw[e]at h;simp at h;have c:=hF d;split at h
   .rename_i x f;rw[f]at c;have c:=c.bool;have k:a.tmps[d]? =Ua (.bool x):=by
     cases i:a.tmps[d]? with|none=>simp[i,undef]at c|some u=>simp_all
    simp[yielded,k];simp_all
   .rename_i f;rw[f]at c;have⟨vs,c,m⟩:=c;have k:yielded ops a.tmps j=none:=by
     simp[yielded,e]
     cases i:a.tmps[d]? with|none=>rfl|some u=>simp_all
    grind
   grind
theorem ZsL(L:Z0 P E)(J:JO P E B){i o F q H H1 t w g ow a}(M:ops[i]? =Ua o)
 (h:XJ E ops base fz i o F H=Ua (q,H1,t)) (x:RH B H w g ow) (hF:Fr w g F a.tmps) (c:a.tmps.size=E.nt) (N:∀id,g.K id->id<base+i*E.stp\/base+i*E.stp+E.stp<=id) {K}{Q}
 (u:∀j w' f d,RH B H1 w' f d->Fr w' f q j.tmps->j.tmps.size=E.nt->j.defers=a.defers->g.Le f->Kt g.I w w' ->(∀id,f.K id->g.K id\/(base+i*E.stp<=id/\id<base+i*E.stp+E.stp))->
   (∀t∈E.ks,j.tmps.getD t undef=a.tmps.getD t undef)->K j w'):wpOp P ops Q i K a w:=by
 unfold wpOp;rw[M];simp;have k:∀v,Hs E o.dst=Uc->∀t∈E.ks,(a.put o.dst v).tmps.getD t undef=a.tmps.getD t undef:=λv b t O=>Zj5 λe m n=>by rw[m]at b;exact(ZgC b).2 (n▸O)
 have l:Hs E o.dst=Uc->∀e,o.dst=Ua e->e<a.tmps.size:=λb e m=>by rw[m]at b;rw[c];exact(ZgC b).1
 unfold XJ at h;split at h;.grind
 .rename_i p;split at h
  .rename_i b;obtain⟨rfl,rfl,rfl⟩:=h;rw[ZkQ hF p];exact u _ w g ow x (hF.put ⟨[],rfl,rfl⟩ (l b)) (Zj6.trans c) Zj4 (.refl g) (λ_ _=>rfl) (by grind) (k _ b)
  grind
 rename_i p;split at h
 .rename_i b
  cases z:(Jf E (base+i*E.stp) o.op o.type (Zz F)).run H [] with
  |none=>grind|some y=>
   rw[z]at h;simp only[Za]at h;split at h;.obtain⟨rfl,rfl,rfl⟩:=h;rw[ZkQ hF p];refine .inl (Zsr L J x hF N z _ _ λval w' f d A r s C D=>?_);exact u _ w' f d A ((hF.mono s r).put C (l b)) (Zj6.trans c) Zj4 r s D (k _ b)
   grind
 grind
theorem Zym{b s i j id:Nat}(c:j≠i)(d:b+j*s<=id)(e:id<b+j*s+s):id<b+i*s\/b+i*s+s<=id:=by
 obtain h|h:=Nat.lt_or_ge j i;.left;have:=Vv s (h);rw[Vpa]at this;omega
 right;have:=Vv s (show i+1<=j by omega);rw[Vpa]at this;omega
theorem Zkg{b s n j id:Nat}(h:j<n)(c:id<b+j*s+s):id<b+n*s:=by have:=Vv s (Vjb h);rw[Vpa]at this;omega
structure RI (E:Kh) (B:KR) (base:Nat) (U:Nat->Prop) (F:Nat->AV) (H:AH) (w:X) (a:Act) (g:Gh) (ow:Nat->Nat->Prop) (L:Nat->Prop):Prop where
 rh:RH B H w g ow
 fr:Fr w g F a.tmps
 nt:a.tmps.size=E.nt
 df:a.defers=[]
 ids:∀id,g.K id->(id<base\/U id)\/∃j,L j/\base+j*E.stp<=id/\id<base+j*E.stp+E.stp
structure Lk (E:Kh) (w:X) (g:Gh) (a:Act) (w' :X) (g' :Gh) (a' :Act):Prop where
 le:g.Le g'
 ag:Kt g.I w w'
 ks:∀t∈E.ks,a'.tmps.getD t undef=a.tmps.getD t undef
theorem Lk.refl w g a:Lk E w g a w g a:=⟨.refl g,λ_ _=>rfl,by simp⟩
theorem Lk.trans{w w1 i g d e a b c}(h:Lk E w g a w1 d b)(k:Lk E w1 d b i e c):Lk E w g a i e c:=
 ⟨h.le.trans k.le,h.ag.trans k.ag h.le.I,λt f=>(k.ks t f).trans (h.ks t f)⟩
structure Lb (E:Kh) (b t:Nat) (w:X) (g:Gh) (a:Act) (w' :X) (g' :Gh) (a' :Act):Prop extends Lk E w g a w' g' a' where
 nw:∀id,g'.K id->g.K id\/(b<=id/\id<t)
theorem Lb.refl{b t} w g a:Lb E b t w g a w g a:=⟨.refl w g a,λ_ h=>.inl h⟩
theorem Lb.trans{b t w w1 j g f i a d e}(h:Lb E b t w g a w1 f d)(k:Lb E b t w1 f d j i e):Lb E b t w g a j i e:=
 ⟨h.toLk.trans k.toLk,λid c=>(k.nw id c).elim (h.nw id) .inr⟩
theorem RI.step(R:Z0 P E)(O:JO P E B){i o F y H H1 t w g ow a L U}(A:ops[i]? =Ua o)
 (h:XJ E ops base fz i o F H=Ua (y,H1,t)) (e:RI E B base U F H w a g ow L) (S:∀id,U id->base+ops.size*E.stp<=id) (hL:¬L i) {K}{Q}
 (N:∀f w' n d,RI E B base U y H1 w' f n d (λj=>j=i\/L j)->Lb E base (base+ops.size*E.stp) w g a w' n f->K f w'):wpOp P ops Q i K a w:=by
 have m:i<ops.size:=(Array.getElem?_eq_some_iff.1 A).1;refine ZsL R O A h e.rh e.fr e.nt (λid b=>?_) λf w' n d k l s C D J z M=>N f w' n d ⟨k,l,s,C.trans e.df,λid b=>?_⟩ ⟨⟨D,J,M⟩,λid b=>(z id b).imp (λh=>h) λh=>⟨by omega,Zkg m h.2⟩⟩
 .rcases e.ids id b with (k|k) |⟨j,k,l,s⟩
  .omega
  .have:=S id k;have l:=Vv E.stp (Vjb m);rw[Vpa]at l;omega
  have x:j≠i:=by grind
  exact Zym x l s
 obtain u|⟨u,p⟩:=z id b
 .obtain c|⟨j,c,q,r⟩:=e.ids id u
  .exact .inl c
  exact .inr ⟨j,.inr c,q,r⟩
 exact .inr ⟨i,.inl rfl,u,p⟩
theorem ZkT(z:Z0 P E)(y:JO P E B){T Q r s}:∀{l}{F}{H}{w}{g}{ow}{a}{L U},
 HB E ops base fz T l F H r s->l.Nodup->(∀i∈l,¬L i)->(∀id,U id->base+ops.size*E.stp<=id)->RI E B base U F H w a g ow L->(∀c w' t p,RI E B base U r s w' c t p (λj=>j∈l\/L j)->Lb E base (base+ops.size*E.stp) w g a w' t c->Q .normal c w')->wpOps P ops Q l a w
 |[],F,H,w,g,ow,a,L,U,h,_,_,_,x,e=>by
  cases h with|nil=>exact e a w g ow (by simp_all) (.refl w g a)
 |i::l,F,H,w,g,ow,a,L,U,h,M,hL,A,x,e=>by
  cases h with
  |cons O u J=>
   have⟨N,n⟩:=Vx.1 M;refine x.step z y O u A (hL i (by simp)) λW w1 g1 R d k=>ZkT z y J n (λj hj=>?_) A d λC S D q b m=>e C S D q ⟨b.rh,b.fr,b.nt,b.df,λid f=>?_⟩ (k.trans m);.grind
   refine(b.ids id f).imp (λh=>h) λ⟨j,u,K⟩=>⟨j,?_,K⟩;grind
theorem ZlL:∀(l:V Oper) (acc:Array Nat),let r:=l.foldl (λacc o=>acc.push (o.after.foldl (λs e=>if Region.binds .any e then s ||| 2 ^ e.on ||| acc.getD e.on 0 else s) 0)) acc
 r.size=acc.size+l.length/\(∀k,k<acc.size->r.getD k 0=acc.getD k 0)/\
 ∀k o,l[k]? =Ua o->∀j,(r.getD (acc.size+k) 0).testBit j=Uc->∃e∈o.after,Region.binds .any e=Uc/\(e.on=j\/(e.on<acc.size+k/\(r.getD e.on 0).testBit j=Uc))
 |[],acc=>by simp|o::l,acc=>by
  intro r;have f:=ZlL l (acc.push (o.after.foldl (λs e=>if Region.binds .any e then s ||| 2 ^ e.on ||| acc.getD e.on 0 else s) 0));simp only[Array.size_push]at f;have⟨x,i,y⟩:=f;refine⟨by grind,λk t=>?_,λk z m j d=>?_⟩;.rw[show r.getD k 0=_ from i k (by omega)];simp[Vab,Nat.ne_of_lt t]
  cases k with
  |zero=>
   simp[List.getElem?_cons_zero]at m;rw[Vib,show r.getD acc.size 0=_ from i acc.size (by omega)]at d;have q:∀X,(acc.push X).getD acc.size 0=X:=by simp
   rw[q]at d;have key:∀(es:V Edge) s,(es.foldl (λs e=>if Region.binds .any e then s ||| 2 ^ e.on ||| acc.getD e.on 0 else s) s).testBit j=Uc->s.testBit j=Uc\/∃e∈es,Region.binds .any e=Uc/\(e.on=j\/(acc.getD e.on 0).testBit j=Uc):=by
    intro es
    induction es with
    |nil=>simp|cons e es f=>
     intro s h;obtain h|⟨u,p,n⟩:=f _ h;all_goals grind
   rw[<-Vgb]at d;obtain h|⟨e,p,n,c⟩:=key _ _ d;.grind
   refine⟨e,by grind,n,?_⟩;obtain c|c:=c;.omega
   right;have b:e.on<acc.size:=by grind
   refine⟨b,?_⟩;rw[show r.getD e.on 0=_ from i e.on (by omega)]
   simpa[Vab,Nat.ne_of_lt b] using c
  |succ k=>
   grind
theorem ZsR{i o}(b:ops[i]? =Ua o){j}(h:((Region.before ops).getD i 0).testBit j=Uc):∃e∈o.after,Region.binds .any e=Uc/\(e.on=j\/(e.on<i/\((Region.before ops).getD e.on 0).testBit j=Uc)):=by have key:=ZlL ops.toList #[];simp only[Vgb]at key;have:=key.2.2 i o (by simpa using b) j;simp only[Vaa,Vob,Nat.zero_add]at this;exact this h
theorem ZsQ{b:Array Bool}(f:∀i o,ops[i]? =Ua o->b.getD i Ud=Uc->∀e∈o.after,Region.binds .any e=Uc->b.getD e.on Ud=Uc)(h:∀i,b.getD i Ud=Uc->∃o,ops[i]? =Ua o){j}:
 ∀n i,i<n->∀o,ops[i]? =Ua o->(∀e∈o.after,Region.binds .any e=Uc->b.getD e.on Ud=Uc)->((Region.before ops).getD i 0).testBit j=Uc->b.getD j Ud=true:=by
 intro n
 induction n with
 |zero=>omega|succ n r=>
  intro i q o k c d;have⟨e,l,m,p⟩:=ZsR k d;grind
theorem ZAb(hT:Z0 P E)(hS:JO P E B){T Q F' H'}(q:ZiS ops=Uc)
 (z:∀i j,i<j->j<ops.size->((Region.before ops).getD j 0).testBit i=Ud->ZhJ ops T i j):∀n {l}{b}{F}{H}{w}{g}{ow}{a}{L U},
 HB E ops base fz T l F H F' H' ->l.length=n->l.Pairwise (· < ·)->b.size=ops.size->(∀i,i<ops.size->(i∈l↔b.getD i Uc=Ud))->(∀i∈l,i<ops.size)->
 (∀i o,ops[i]? =Ua o->b.getD i Ud=Uc->∀e∈o.after,Region.binds .any e=Uc->b.getD e.on Ud=Uc)->(∀i∈l,¬L i)->(∀id,U id->base+ops.size*E.stp<=id)->RI E B base U F H w a g ow L->
 (∀D w' g' a6,RI E B base U F' H' w' D g' a6 (λj=>j∈l\/L j)->Lb E base (base+ops.size*E.stp) w g a w' g' D->Q .normal D w')->wpAny P .any ops Q n b a w:=by
 have r:∀i o,ops[i]? =Ua o->∀e∈o.after,Region.binds .any e=Uc->e.on<i:=by
  intro i o ho e C x;unfold ZiS at q;rw[Vna]at q;have:=q (o,i) (by grind);rw[Array.all_eq_true_iff_forall_mem]at this;have:=this e C;simp_all
 intro n
 induction n with
 |zero=>
  intro l b F H w g ow a L U h hn hs a5 hm a3 y hL M hI K;obtain rfl:=Voa.1 hn
  cases h with
  |nil=>
   refine⟨?_,K a w g ow (by simp_all) (.refl w g a)⟩;rw[List.eq_nil_iff_forall_not_mem];intro j s;rw[mem_ready]at s
   grind
 |succ n ih=>
  intro l b F H w g ow a L U h hn hs a5 hm a3 y hL M hI K;have f:∀i,i<ops.size->i ∉ l->b.getD i Ud=true:=by grind
  have a0:∀i,b.getD i Ud=Uc->∃o,ops[i]? =Ua o:=by
   intro i O;have:i<b.size:=by grind
   simp_all
  refine⟨λa9=>?_,λi O=>?_⟩
  .exfalso
   cases l with
   |nil=>grind|cons i l=>
    have d:i<ops.size:=by simp[*]
    have:i∈Region.ready .any ops b:=by
     rw[mem_ready];refine⟨by grind,_,Vla d,λe C x=>?_⟩;have a8:=r i _ (Vla d) e C x;refine f e.on (by omega) λk=>?_;obtain t|t:=Vn.1 k;.omega
     have:=(List.pairwise_cons.1 hs).1 _ t;omega
    grind
  rw[mem_ready]at O;have⟨h0,o,ho,u⟩:=O;have d:i<ops.size:=by grind
  have k:=(hm i d).2 h0;obtain⟨pre,post,rfl⟩:=List.append_of_mem k;have A:∀j∈pre,j<i:=by grind
  have m:=h.front λj s=>by
   refine z j i (A j s) d ?_
   cases x:((Region.before ops).getD i 0).testBit j with
   |false=>rfl|true=>
    have b0:=ZsQ y a0 (i+1) i (Nat.lt_succ_self i) o ho u x;grind
  cases m with
  |cons a4 t h' =>
   have b1:(pre++i::post).Nodup:=hs.imp (by omega);have N:∀j,j∈pre++post->j∈pre++i::post:=by grind
   have b2:i ∉ pre++post:=by grind
   refine hI.step hT hS a4 t M (hL i (by simp)) λa1 w1 g1 b4 J S=>ih h' (by grind) ?_ (by grind) ?_ (by grind) ?_ ?_ M J ?_;.grind
   .intro j s;by_cases p:j=i
    .simp[*]
    rw[getD_set_ne Uc (Ne.symm p),<-hm j s];grind
   .intro j o' b3 s e C x;by_cases p:j=i
    .subst p;exact getD_set_true (by grind)
    rw[getD_set_ne Ud (Ne.symm p)]at s;exact getD_set_true (by grind)
   .grind
   intro a2 w2 g2 a7 c W;refine K a2 w2 g2 a7 ⟨c.rh,c.fr,c.nt,c.df,λid R=>(c.ids id R).imp (λh=>h) λ⟨j,t,h2⟩=>⟨j,?_,h2⟩⟩ (S.trans W);grind
end
structure SR (E:Kh) (B:KR) (s:AS) (w:X) (g:Gh) (ow:Nat->Nat->Prop) (a:Act):Prop where
 rh:RH B s.H w g ow
 fr:Fr w g s.F a.tmps
 nt:a.tmps.size=E.nt
 df:a.defers=[]
 ids:∀id,g.K id->id<s.nx
 fz:∀id∈s.fz,XR s.H id=Uc
structure Ln (E:Kh) (s:AS) (w:X) (g:Gh) (a:Act) (s' :AS) (w' :X) (g' :Gh) (a' :Act):Prop where
 lk:Lk E w g a w' g' a'
 fz:s'.fz=s.fz
 hz:∀id∈s.fz,s'.H id=s.H id
section
variable {P:Program}{E:Kh}{B:KR}{ops:Array Oper}{base:Nat}{fz:V Nat}
theorem Ln.refl s w g a:Ln E s w g a s w g a:=⟨.refl w g a,rfl,by simp⟩
theorem Ln.trans{s i j w w1 l g e f a c d}(h:Ln E s w g a i w1 e c)(k:Ln E i w1 e c j l f d):Ln E s w g a j l f d:=
 ⟨h.lk.trans k.lk,k.fz.trans h.fz,λid b=>(k.hz id (h.fz▸b)).trans (h.hz id b)⟩
theorem Zem{H b id}(h:b id=H id):XR b id=XR H id:=by unfold XR;rw[h]
theorem ZsK{i o F c H H1 t}(h:XJ E ops base fz i o F H=Ua (c,H1,t)):∀id∈fz,H1 id=H id:=by
 unfold XJ at h;split at h;.grind
 .grind
 split at h
 .cases f:(Jf E (base+i*E.stp) o.op o.type (Zz F)).run H [] with
  |none=>grind|some y=>
   rw[f]at h;simp only[Za]at h;split at h;.rename_i d;obtain⟨_,rfl,_⟩:=h;intro id b;refine Zev λp j e=>?_;exact ZaM.1 d p.1 (by grind) (e▸b)
   grind
 grind
theorem AE.keptH{l F e H d i c}(h:AE E ops base fz l F H i e d c):∀id∈fz,d id=H id:=by
 induction h with|nil=>simp|cons h j f=>exact λid b=>(f id b).trans (ZsK h id b)
theorem AE.slots{l F c H d j b}(h:AE E ops base fz l F H j c d b):∀k,(∀p∈l,p.1.dst≠Ua k)->c k=F k:=by
 induction h with
 |nil=>simp|cons h m i=>
  intro k q;have⟨v,r,s,_⟩:=Zfj h;rw[i k (by grind),s.F,R6 λe n f=>(by simp_all)]
theorem AE.traces{l F d H e c b}(h:AE E ops base fz l F H c d e b):∀u∈c,u∈b:=by
 induction h with|nil=>simp|cons h f i=>grind
theorem AE.still{l F e H c j b}(h:AE E ops base fz l F H j e c b):(∀u∈b,u.wr=[])->c=H:=by
 induction h with
 |nil=>simp| @cons o i rest F H j q H1 t e c b h k n=>
   intro f;have⟨v,d,s,_⟩:=Zfj h;have:d=[]:=by
    cases d with
    |nil=>rfl|cons p d=>
     have⟨u,m,r⟩:=s.wr p (by simp);have:=f u (k.traces u (by grind));grind
   rw[n f,s.H,this];rfl
theorem ZkY:ops.toList.zipIdx.map Vxb=Vbb ops.size:=by refine List.ext_getElem? λi=>?_;grind
theorem Zpp(hm:P.follows .mixedOrders=Uc)(O:Z0 P E)(N:JO P E B){nx fz F H U w g ow a}(y:RI E B nx U F H w a g ow λ_=>False)(R:∀id,U id->nx+ops.size*E.stp<=id){id draw K L d}
 (h:AE E ops nx fz ops.toList.zipIdx F H [] K L d) (W:(!draw||Zcy ops d)=Uc) {Q}
 (M:∀m w' x k,RI E B nx U K L w' m x k (λj=>j<ops.size)->Lb E nx (nx+ops.size*E.stp) w g a w' x m->Q .normal m w'):(Code.region id ops draw).wp P Q a w:=by
 have f:=h.ex (by rw[ZkY];grind) (by grind) λ_ _=>rfl;rw[ZkY]at f
 cases draw with
 |false=>
  refine wp_region (ZkT O N f Vmb (by simp) R y λm w' x k e q=>M m w' x k ⟨e.rh,e.fr,e.nt,e.df,λid p=>?_⟩ q)
  exact(e.ids id p).imp (λh=>h) λ⟨j,h1,h2⟩=>by simp_all|true=>
  simp only[Bool.not_true,Bool.false_or,Zcy,Vc,Bool.or_eq_true]at W;obtain⟨⟨n,r⟩,c⟩:=W;have hw:JG w {w with drawn:=w.drawn+1}:=⟨rfl,rfl,rfl,⟨rfl,by simp⟩⟩;have s:∀i j,i<j->j<ops.size->((Region.before ops).getD j 0).testBit i=Ud->(i,j)∈Zhi ops:=by intro i j z hj S;simp only[Zhi,List.mem_flatMap,Vub,Vhb];grind
  refine wp_region_any hm (ZAb O N n (λi j z hj S=>?_) ops.size f (by simp) (List.pairwise_lt_range) (by simp) (λi hi=>?_) (by simp) (λi o ho q=>?_) (by simp) R
   ⟨y.rh.same hw,y.fr.mono (hw.agree _) (.refl g),y.nt,y.df,y.ids⟩ λm w' x k e q=>M m w' x k ⟨e.rh,e.fr,e.nt,e.df,λid p=>?_⟩ ⟨⟨q.le,q.ag,q.ks⟩,q.nw⟩)
  .intro oa ob a2 a3;have b:=s i j z hj S;refine⟨?_,λu v A D=>?_⟩
   .have:=Vna.1 r (i,j) b;grind
   obtain c|c:=c
   .have C:u.wr=[]:=by
     have a0:u∈d:=by
      clear b s f h c D r n
      induction d with
      |nil=>simp[YY]at A|cons t l ih=>
       simp[YY]at A;grind
     grind
    have J:v.wr=[]:=by
     have a1:v∈d:=by
      clear b s f h c A r n
      induction d with
      |nil=>simp[YY]at D|cons t l ih=>
       simp[YY]at D;grind
     grind
    rw[C,J];exact⟨rfl,rfl,rfl⟩
   have:=Vna.1 c (i,j) b;simp[Zqy]at this;grind
  .simp_all
  .exfalso;have:i<ops.size:=by grind
   simp_all
  exact(e.ids id p).imp (λh=>h) λ⟨j,h1,h2⟩=>by simp_all
theorem Zlb{w g t b y x v}(h:KC b t y=Ua x)(c:VR w g (.d b y) v):VR w g (.d t x) v:=by obtain⟨rfl,rfl⟩:=KS h;omega
theorem Fr.upd{w g F tmps n v}(h:Fr w g F tmps)(c:VR w g v (tmps.getD n undef)):Fr w g (XX F n v) tmps:=by
 intro t;unfold XX
 cases b:Vo t n with|true=>simp_all|false=>exact h t
theorem Znt{w g F tmps}(hF:Fr w g F tmps):∀l x b,ZcY F l=Ua x->Fr w g b tmps->Fr w g (inT b l x) tmps
 |[],_,b,_,c=>c|[(n,t)],x,b,h,c=>by
  simp[ZcY]at h;have d:=hF n;split at h;.rename_i j y e;rw[e]at d;exact c.upd (Zlb h d)
  grind|(n,t)::p::l,x,b,h,c=>by
  simp[ZcY]at h;have d:=hF n;split at h
  .rename_i j y e;rw[e]at d
   cases f:KC j t y with
   |none=>grind|some z=>
    rw[f]at h
    cases i:ZcY F (p::l) with
    |none=>grind|some u=>
     rw[i]at h;simp[Za]at h;subst h;exact Znt hF (p::l) u _ i (c.upd (Zlb f d))
  grind
theorem Zx6(N:P.follows .mixedOrders=Uc)(M:Z0 P E)(L:JO P E B){s w g ow a}(f:SR E B s w g ow a){id draw outs}{ρ}{k r}
 (h:Zka E ops draw outs ρ s k=Ua r):(Code.region id ops draw).wp P (λe y w' =>∃s' m i,e=.normal/\SR E B s' w' m i y/\Ln E s w g a s' w' m y/\k s' =Ua r) a w:=by
 have u:∀(m:Gh) id,(id<s.nx\/∃j,j<ops.size/\s.nx+j*E.stp<=id/\id<s.nx+j*E.stp+E.stp)->id<s.nx+ops.size*E.stp:=by
  intro m id h;obtain h|⟨j,O,U,Q⟩:=h;.omega
  exact Zkg O Q
 unfold Zka at h
 cases outs with
 |none=>
  have⟨C,D,n,c,z⟩:=Zfg h
  cases q:(!draw||Zcy ops n) with
  |false=>grind|true=>
   rw[q]at z;refine Zpp N M L ⟨f.rh,f.fr,f.nt,f.df,λid b=>.inl (.inl (f.ids id b))⟩ (λ_ h=>h.elim) c q λy w' m i d J=>⟨⟨C,D,s.nx+ops.size*E.stp,s.fz⟩,m,i,rfl,⟨d.rh,d.fr,d.nt,d.df,λid b=>u m id ((d.ids id b).imp (λh=>h.resolve_right λh=>h) λh=>h),λid b=>?_⟩,⟨J.toLk,rfl,λid b=>c.keptH id b⟩,z⟩
   exact(Zem (c.keptH id b)).trans (f.fz id b)
 |some l=>
  rw[Vy]at h;have⟨x,A,z⟩:=h;have⟨C,D,n,c,A⟩:=Zfg A
  cases q:((!draw||Zcy ops n)&&n.all λt=>t.wr.isEmpty) with
  |false=>grind|true=>
   rw[q]at A;simp only[Vc]at q;have K:D=s.H:=c.still (by grind);subst K;refine Zpp N M L ⟨f.rh,f.fr,f.nt,f.df,λid b=>.inl (.inl (f.ids id b))⟩ (λ_ h=>h.elim) c q.1 λy w' m i d J=>⟨⟨inT (Zju (ZfQ ops.toList) s.F) l x,s.H,s.nx+ops.size*E.stp,s.fz⟩,m,i,rfl,⟨d.rh,?_,d.nt,d.df,λid b=>u m id ((d.ids id b).imp (λh=>h.resolve_right λh=>h) λh=>h),f.fz⟩,⟨J.toLk,rfl,by simp⟩,z⟩;refine Znt d.fr l x _ A λt=>?_;unfold Zju
   cases R:KW t (ZfQ ops.toList) with
   |true=>exact Gi|false=>
    have:C t=s.F t:=c.slots t λp W S=>by
     have:t∈ZfQ ops.toList:=by exact Vhb.2 (by grind)
     rw[JX.2 this]at R;grind
    rw[<-this];exact d.fr t
def PRs(w:X)(I:Nat->Prop)(tmps:Array Y):(l:V (Nat×Pat))->Yi l->V Nat->Prop|[],_,b=>b=[]|[(n,p)],x,b=>PV w I p x b (tmps.getD n undef)|(n,p)::q::l,x,b=>∃c d,b=c++d/\PV w I p x.1 c (tmps.getD n undef)/\PRs w I tmps (q::l) x.2 d
theorem ZiY{H w g ow I}(u:RH B H w g ow)(r:∀b,g.I b->I b){p v val x ids l i}(h:(ext p v).run H l=Ua ((x,ids),i))(C:VR w g v val)
 (s:∀b,ZO H ow ids.br b->I b) (A:ids.tk.Nodup):∃js,PV w I p x js val/\js.Nodup/\∀b∈js,ZO H ow ids.tk b:=by
 by_cases e:p=.any;.subst e;obtain⟨⟨_,rfl⟩,_⟩:=h;exact⟨[],⟨rfl,.inl rfl⟩,.nil,by simp⟩
 have⟨z,y⟩:=Zm0 h e;have c:∀m,v≠ .tup m:=by
  rintro m rfl
  cases p with|any=>grind|pd t=>cases t<;>simp[ext,Km,ZY,Zb]at h|own t k=>simp[ext,J1,ZY,Zb]at h|var _ _|ro _|map _ _=>simp[ext,Zb]at h|rows t k=>simp[ext,YW,ZY,Zb]at h|mrows _ _|it _ _|fnd _ _ _ _=>simp[ext,Zb]at h|owo lb=>simp[ext,R5,ZY,Zb]at h|agg _|fn _ _|nilr|nils=>simp[ext,Zb]at h
 have d:=C.to1 c;have⟨js,j,n,q⟩:=DB u r p v val.cells.toList x ids l i h d.1 s A;exact⟨js,⟨j,.inr (by rw[<-y];exact d.2.resolve_left z)⟩,n,q⟩
theorem ZmY{H w g ow I F tmps}(i:RH B H w g ow)(m:∀b,g.I b->I b)(hF:Fr w g F tmps):∀l x ids k j,
 (ZdU F l).run H k=Ua ((x,ids),j)->(∀b,ZO H ow ids.br b->I b)->ids.tk.Nodup->∃js,PRs w I tmps l x js/\js.Nodup/\∀b∈js,ZO H ow ids.tk b
 |[],x,ids,k,j,h,f,_=>by
  obtain⟨⟨_,rfl⟩,_⟩:=h
  exact⟨[],rfl,.nil,by simp⟩|[(n,p)],x,ids,k,j,h,f,s=>by exact ZiY i m h (hF n) f s|(n,p)::q::l,x,ids,k,j,h,f,s=>by
  simp only[ZdU,ZY]at h;obtain⟨⟨x1,Q⟩,m1,C,⟨U,y⟩,m2,K,⟨rfl,rfl⟩,_⟩:=h;have t:(Q.tk++y.tk).Nodup:=s;have⟨R,S,n3⟩:=Ve.1 t;have⟨z,L,M,u⟩:=ZiY i m C (hF n) (λb c=>f b (Wx (λ_ h=>by simp[ZI.app,h]) c)) R;have⟨A,N,O,d⟩:=ZmY i m hF (q::l) U y _ _ K (λb c=>f b (Wx (λ_ h=>by simp[ZI.app,h]) c)) S;refine⟨z++A,⟨z,A,rfl,L,N⟩,Ve.2 ⟨M,O,λb c W r e=>?_⟩,λb c=>?_⟩;.subst e;have⟨id,D,J⟩:=HT i (u b c) (d b r);grind
  obtain c|c:=Vh.1 c;.exact Wx (λ_ h=>by simp[ZI.app,h]) (u b c)
  exact Wx (λ_ h=>by simp[ZI.app,h]) (d b c)
theorem Zd6:∀l x n,n<=(WL l x n).2.2/\∀o∈(WL l x n).2.1,n<=o.1/\o.1<(WL l x n).2.2|[],_,n=>⟨Vb _,by simp[WL]⟩|[(m,p)],x,n=>Yz p x n|(m,p)::q::l,x,n=>by have⟨c,d⟩:=Yz p x.1 n;have⟨e,f⟩:=Zd6 (q::l) x.2 (inj p x.1 n).2.2;refine⟨by simp[WL];omega,λo b=>?_⟩;simp[WL]at b⊢;grind
mutual
theorem Zd7:∀(p:Pat) (x:WH p) (n:Nat),((inj p x n).2.1.map Vj).Nodup
 |.pd _,_,_|.own _ _,_,_=>by simp[inj]|.var t p,x,n=>by
  simp only[inj,Vja,Vx];refine⟨λh=>?_,Zd7 p x (n+1)⟩;obtain⟨o,b,c⟩:=Vr.1 h
  have:=((Yz p x (n+1)).2 o b).1;omega|.ro _,_,_|.map _ _,_,_|.rows _ _,_,_|.mrows _ _,_,_|.it _ _,_,_|.fnd _ _ _ _,_,_|.owo _,_,_|.nilr,_,_|.nils,_,_|.any,_,_=>by simp[inj]|.agg l,x,n|.fn _ l,x,n=>by simpa only[inj] using Zd9 l x n
theorem Zd9:∀(l:Pats) (x:KX l) (n:Nat),((Z5 l x n).2.1.map Vj).Nodup|.nil,_,n=>by simp[Z5]|.cons p l,x,n=>by simp only[Z5,Vsb,Ve];refine⟨Zd7 p x.1 n,Zd9 l x.2 _,λi d j k e=>?_⟩;obtain⟨o,b,rfl⟩:=Vr.1 d;obtain⟨u,m,rfl⟩:=Vr.1 k;have c:=((Yz p x.1 n).2 o b).2;have q:=((ZbH l x.2 _).2 u m).1;omega
end
theorem Znv:∀l x n,((WL l x n).2.1.map Vj).Nodup|[],_,n=>by simp[WL]|[(m,p)],x,n=>by simpa only[WL] using Zd7 p x n|(m,p)::q::l,x,n=>by simp only[WL,Vsb,Ve];refine⟨Zd7 p x.1 n,Znv (q::l) x.2 _,λi b j c e=>?_⟩;obtain⟨o,d,rfl⟩:=Vr.1 b;obtain⟨u,f,rfl⟩:=Vr.1 c;have h:=((Yz p x.1 n).2 o d).2;have k:=((Zd6 (q::l) x.2 _).2 u f).1;omega
theorem Zee:∀l H id,(l.map Vj).Nodup->Zu H (Wl l) id=match WM l id with|some o=>Ua o|none=>H id
 |[],H,id,_=>rfl|p::l,H,id,d=>by
  simp[Vja]at d;have i:Wl (p::l)=(p.1,Ua p.2)::Wl l:=rfl;rw[i];simp[Zu];rw[Zee l _ id d.2];simp[WM]
  cases c:Vo id p.1 with
  |true=>
   have:=Vk c;subst this;have f:WM l p.1=none:=by
    have key:∀l,p.1 ∉ l.map Vj->WM l p.1=none:=by
     intro l
     induction l with
     |nil=>intro _;rfl|cons q l j=>
      intro h;simp[WM];have:Vo p.1 q.1=false:=by
       cases c:Vo p.1 q.1;all_goals simp_all
      grind
    grind
   rw[f];simp[XY]
  |false=>
   have b:id≠p.1:=λe=>by simp_all
   cases WM l id with|some o=>rfl|none=>exact KB b
theorem Zgg{w p H g ow}(j:RH B H w g ow){x js v n}(h:PV w g.I p x js v)(k:W3 B H w g ow js)(l:∀id,n<=id->id<(inj p x n).2.2->¬g.K id):
 Jl B H w g ow js n (inj p x n).2.2 (Zu H (Wl (inj p x n).2.1)) λe=>Kw w e (inj p x n).1 v:=by
 have⟨i,u⟩:=h;have⟨f,b,r,m,t,d,q,s⟩:=Zd8 p j x js v.cells.toList n i k l;refine⟨f,b,r,m,t,⟨d,?_⟩,q,s⟩;by_cases c:p=.any;.subst c;exact .inl rfl
 rw[Znx p x n c];grind
theorem Znw{w tmps}:∀l {H}{g}{ow} (_:RH B H w g ow) x js n,PRs w g.I tmps l x js->W3 B H w g ow js->(∀id,n<=id->id<(WL l x n).2.2->¬g.K id)->
 Jl B H w g ow js n (WL l x n).2.2 (Zu H (Wl (WL l x n).2.1)) λC=>∀q∈(WL l x n).1,Kw w C q.2 (tmps.getD q.1 undef)
 |[],H,g,ow,b,x,js,n,h,_,_=>by
  obtain rfl:=h
  exact Jl.none b n (by simp[WL])|[(m,p)],H,g,ow,b,x,js,n,h,e,M=>by
  obtain⟨t,d,f,c,r,s,z,j⟩:=Zgg b h e (by assumption);refine⟨t,d,f,c,r,λq N=>?_,z,j⟩;simp[WL]at N
  grind|(m,p)::q::l,H,g,ow,b,x,js,n,h,e,M=>by
  obtain⟨j1,Q,rfl,J,W⟩:=h;have n1:=(Yz p x.1 n).1;have n2:=(Zd6 (q::l) x.2 (inj p x.1 n).2.2).1;have i:∀id,n<=id->id<(WL (q::l) x.2 (inj p x.1 n).2.2).2.2->¬g.K id:=by assumption
  have⟨t,d,f,c,r,s,z,j⟩:=Zgg b J (e.sub (Vl _ _)) λid h U=>i id h (by omega);obtain⟨D,k,A,O,R,S,k2,o2⟩:=Znw (q::l) r x.2 Q (inj p x.1 n).2.2 (by rw[c.I];omega) (e.after c.I j) (by grind);have L:Zu H (Wl (WL ((m,p)::q::l) x n).2.1)=Zu (Zu H (Wl (inj p x.1 n).2.1)) (Wl (WL (q::l) x.2 (inj p x.1 n).2.2).2.1):=by rw[<-XB];simp[WL,Wl]
  rw[L];simp only[WL];refine⟨D,k,f.trans A,O.after c f,R,λu y=>?_,by grind,by grind⟩
  .obtain rfl|y:=Vn.1 y
   .exact s.mono (λ_ _=>rfl) A
   grind
  all_goals grind
end
end Tr
end
section
namespace Tr
open Go
open Classical in
theorem Zvy{E:Kh}{B:KR}{s:AS}{w:X}{g:Gh}{ow:Nat->Nat->Prop}{a:Act}{tn tq lt lb:Ty}{x:ZS tn tq lt lb}{k id:Nat}(f:SR E B s w g ow a)(M:s.F k=.ptr id [])(hx:s.H id=Ua (.fnd tn tq lt lb x)):
 ∃i u m,Yl i x/\SR E B ⟨λt=>bif Vo t k then(inj (Hn tn tq lt lb) (Kn (WG i x)) s.nx).1 else s.F t,Zu (ZX s.H id Ub) (Wl (inj (Hn tn tq lt lb) (Kn (WG i x)) s.nx).2.1),(inj (Hn tn tq lt lb) (Kn (WG i x)) s.nx).2.2,[]⟩ w u m a/\Lk E w g a w u a:=by
 obtain⟨hK,_,b,y,hf⟩:=f.rh.objs id _ hx;have l:s.H id≠none:=by rw[hx];simp
 have A:((Vbb w.heap.size).filter λb=>Ue (ow id b)).Nodup:=Vmb.filter _;have e:∀k,k∈(Vbb w.heap.size).filter (λb=>Ue (ow id b))↔ow id k:=λk=>by simp only[Vnb,Vub,KJ];exact⟨λh=>h.2,λh=>⟨(f.rh.sep id k l h).2.1,h⟩⟩
 generalize (Vbb w.heap.size).filter (λb=>Ue (ow id b))=js at e A;have L:Zap w g.I (· ∈js) tn tq lt lb x b:=hf.mono (λ_ _=>rfl) (λ_ h=>h) (λb h=>(e b).2 h) λ_ _=>rfl;obtain⟨i,J,R,N,D,O⟩:=Zng L A;have j:W3 B (ZX s.H id Ub) w g ow J:=⟨N,λb y=>by have C:=(e b).1 (D b y);obtain⟨p,q,r⟩:=f.rh.sep id b l C;exact⟨p,q,r,λc K S=>(YZ K).1 (f.rh.dist c id b (YZ K).2 l S C)⟩⟩;have W:=f.fr k;rw[M]at W;obtain⟨⟨_,o,t,b',U,z,hc⟩,d⟩:=W;simp only[ZV,Z4,Va]at U;obtain⟨rfl,rfl⟩:=U;rw[y]at z;cases z;have Q:PV w g.I (Hn tn tq lt lb) (Kn (WG i x)) J (a.tmps.getD k undef):=by
  refine⟨?_,.inr ?_⟩;.rw[hc];exact O
  obtain d|d:=d;.cases d
  exact d
 obtain⟨u,m,l1,i1,r1,d1,k1,o1⟩:=Zgg (n:=s.nx) (f.rh.drop id) Q j (λc K S M=>absurd (f.ids c M) (by omega));refine⟨i,u,m,R,⟨r1,λt=>?_,f.nt,f.df,λc h=>?_,by simp⟩,l1,λ_ _=>rfl,by simp⟩
 .show VR w u (bif Vo t k then _ else s.F t) _
  cases y:Vo t k with|true=>have:=Vk y;subst this;simp only[Zf];exact d1|false=>simp only[Ze];exact(f.fr t).mono (λ_ _=>rfl) l1
 have hm:=(Yz (Hn tn tq lt lb) (Kn (WG i x)) s.nx).1;show c<(inj (Hn tn tq lt lb) (Kn (WG i x)) s.nx).2.2;obtain h|h:=k1 c h;.have:=f.ids c h;omega
 exact h.2
end Tr
end
