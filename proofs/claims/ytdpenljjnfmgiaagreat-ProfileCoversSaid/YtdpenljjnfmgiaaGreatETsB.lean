/- States of the abstract machine at regions, loops and joins. Conditions: the table of types is the program's, the specs are true. -/
import Derived.Scope
import Derived.KernelRfl
import Derived.Test.YtdpenljjnfmgiaaGreatETrT
open Array renaming getElem?_toList ->Vj,getD_eq_getD_getElem? ->Vk,replicate ->Vx
open Bool renaming and_eq_true ->Vb,not_true ->Vha,false_or ->Via
open Go.Code renaming region ->Vba
open List renaming mem_append_left ->Vd,mem_append_right ->Ve,nodup_append ->Vf,mem_append ->Vh,mem_cons ->Vi,nodup_range ->Vm,all_eq_true ->Vn,mem_map ->Vq,mem_singleton ->Vr,range ->Vt,mem_filterMap ->Vaa,nodup_cons ->Vca,map_append ->Vda,mem_range ->Vea,mapM_cons ->Vfa,replicate ->Vga,map_cons ->Vja
open Nat renaming eq_of_beq_eq_true ->Vc,beq ->Vg,lt_succ_self ->Vp,le_of_ble_eq_true ->Vy,ble ->Vka
open Option renaming bind_eq_some_iff ->Va
open Prod renaming snd ->Vw,fst ->Vz
open Prod.mk renaming injEq ->Vo
open Go.Result renaming andThen_ok ->Vl
open Go.Sem renaming run_bind ->Vu,run_pure ->Vv
open Sum.inl renaming injEq ->Vla
open Sum.inr renaming injEq ->Vs
open Go.Value renaming pointer ->Vma
open Option renaming some ->Ua,none ->Ub
open Bool renaming true ->Uc,false ->Ud
open Decidable renaming decide ->Ue
section
namespace Tr
open Go
structure SR (E:Z9) (B:Z1) (s:AS) (w:World) (g:Gh) (ow:Nat->Nat->Prop) (a:Act):Prop where
 rh:RH B s.H w g ow
 fr:Fr w g s.F a.tmps
 nt:a.tmps.size=E.nt
 df:a.defers=[]
 ids:∀id,g.K id->id<s.nx
 fz:∀id∈s.fz,XG s.H id=Uc
structure Ln (E:Z9) (s:AS) (w:World) (g:Gh) (a:Act) (s' :AS) (w' :World) (g' :Gh) (a' :Act):Prop where
 lk:Lk E w g a w' g' a'
 fz:s'.fz=s.fz
 hz:∀id∈s.fz,s'.H id=s.H id
section
variable {P:Program}{E:Z9}{B:Z1}{ops:Array Oper}{base:Nat}{fz:List Nat}
theorem Ln.refl(s:AS)(w:World)(g:Gh)(a:Act):Ln E s w g a s w g a:=⟨.refl w g a,rfl,by simp⟩
theorem Ln.trans{s i j:AS}{w w1 l:World}{g e f:Gh}{a c d:Act}(h:Ln E s w g a i w1 e c)(k:Ln E i w1 e c j l f d):Ln E s w g a j l f d:=
 ⟨h.lk.trans k.lk,k.fz.trans h.fz,λid b=>(k.hz id (h.fz▸b)).trans (h.hz id b)⟩
theorem Zdk{H H' :AH}{id:Nat}(h:H' id=H id):XG H' id=XG H id:=by unfold XG;rw[h]
theorem Zqz{i:Nat}{o:Oper}{F b:Nat->AV}{H H1:AH}{t:Option Wo}(h:XA E ops base fz i o F H=Ua (b,H1,t)):∀id∈fz,H1 id=H id:=by
 unfold XA at h;split at h
 ·grind
 ·grind
 ·split at h
  ·cases d:(Je E (base+i*E.stp) o.op o.type (Zz F)).run H [] with
   |none=>grind
   |some y=>
    rw[d]at h;simp only[Za]at h;split at h
    ·rename_i c;obtain⟨_,rfl,_⟩:=h;intro id a;refine Zds λp f e=>?_;exact RQ.1 c p.1 (by grind) (e▸a)
    grind
  grind
theorem AE.keptH{l:List (Oper×Nat)}{F c:Nat->AV}{H H' :AH}{e b:List Wo}(h:AE E ops base fz l F H e c H' b):∀id∈fz,H' id=H id:=by
 induction h with
 |nil=>simp
 |cons h f d=>exact λid a=>(d id a).trans (Zqz h id a)
theorem AE.slots{l:List (Oper×Nat)}{F b:Nat->AV}{H H' :AH}{f a:List Wo}(h:AE E ops base fz l F H f b H' a):∀k,(∀p∈l,p.1.dst≠Ua k)->b k=F k:=by
 induction h with
 |nil=>simp
 |cons h i d=>
  intro k m;have ⟨v,n,s,_⟩:=Zef h;rw[d k (by grind),s.F,Ri λe j c=>(by simp_all)]
theorem AE.traces{l:List (Oper×Nat)}{F c:Nat->AV}{H H' :AH}{b a:List Wo}(h:AE E ops base fz l F H b c H' a):∀u∈b,u∈a:=by
 induction h with
 |nil=>simp
 |cons h d e=>grind
theorem AE.still{l:List (Oper×Nat)}{F c:Nat->AV}{H H' :AH}{e a:List Wo}(h:AE E ops base fz l F H e c H' a):(∀u∈a,u.wr=[])->H' =H:=by
 induction h with
 |nil=>simp
 | @cons o i rest F H e m H1 t c H' a h f k=>
   intro d;have ⟨v,b,s,_⟩:=Zef h;have:b=[]:=by
    cases b with
    |nil=>rfl
    |cons p b=>
     have ⟨u,j,n⟩:=s.wr p (by simp);have:=d u (f.traces u (by grind));grind
   rw[k d,s.H,this];rfl
theorem Zjr:ops.toList.zipIdx.map Vw=Vt ops.size:=by refine List.ext_getElem? λi=>?_;grind
theorem Znt(X:P.follows .mixedOrders=Uc)(M:Z4 P E)(L:JI P E B){nx:Nat}{fz:List Nat}{F:Nat->AV}{H:AH}{U:Nat->Prop}{w:World}{g:Gh}{ow:Nat->Nat->Prop}{a:Act}(y:RI E B nx U F H w a g ow λ_=>False)(N:∀id,U id->nx+ops.size*E.stp<=id){id:Nat}{draw:Bool}{J:Nat->AV}{H' :AH}{d:List Wo}
 (h:AE E ops nx fz ops.toList.zipIdx F H [] J H' d) (R:(!draw||ZbA ops d)=Uc) {Q:Exit->Act->World->Prop}
 (K:∀m w' x k,RI E B nx U J H' w' m x k (λj=>j<ops.size)->Lb E nx (nx+ops.size*E.stp) w g a w' x m->Q .normal m w'):(Vba id ops draw).wp P Q a w:=by
 have f:=h.ex (by rw[Zjr];grind) (by grind) (λ_ _=>rfl);rw[Zjr]at f
 cases draw with
 |false=>
  refine wp_region (Zjm M L f Vm (by simp) N y λm w' x k e q=>K m w' x k ⟨e.rh,e.fr,e.nt,e.df,λid p=>?_⟩ q)
  exact(e.ids id p).imp (λh=>h) λ⟨j,V,W⟩=>by simp_all
 |true=>
  simp only[Vha,Via,ZbA,Vb,Bool.or_eq_true]at R;obtain⟨⟨n,r⟩,c⟩:=R;have T:JD w {w with drawn:=w.drawn+1}:=⟨rfl,rfl,rfl,⟨rfl,by simp⟩⟩;have s:∀i j,i<j->j<ops.size->((Region.before ops).getD j 0).testBit i=Ud->(i,j)∈Zf5 ops:=by intro i j z S O;simp only[Zf5,List.mem_flatMap,Vea,Vaa];grind
  refine wp_region_any X (ZxC M L n (λi j z S O=>?_) ops.size f (by simp) (List.pairwise_lt_range) (by simp) (λi hi=>?_) (by simp) (λi o ho q=>?_) (by simp) N
   ⟨y.rh.same T,y.fr.mono (T.agree _) (.refl g),y.nt,y.df,y.ids⟩ λm w' x k e q=>K m w' x k ⟨e.rh,e.fr,e.nt,e.df,λid p=>?_⟩ ⟨⟨q.le,q.ag,q.ks⟩,q.nw⟩)
  ·intro oa ob a0 a1;have b:=s i j z S O;refine⟨?_,λu v A D=>?_⟩
   ·have:=Vn.1 r (i,j) b;grind
   ·rcases c with c|c
    ·have C:u.wr=[]:=by
      have Y:u∈d:=by
       clear b s f h c D r n
       induction d with
       |nil=>simp [YA]at A
       |cons t l ih=>
        simp only[YA]at A;grind
      grind
     have G:v.wr=[]:=by
      have Z:v∈d:=by
       clear b s f h c A r n
       induction d with
       |nil=>simp [YA]at D
       |cons t l ih=>
        simp only[YA]at D;grind
      grind
     rw[C,G];exact⟨rfl,rfl,rfl⟩
    ·have:=Vn.1 c (i,j) b;simp only[Zov]at this;grind
  ·simp_all
  ·exfalso;have:i<ops.size:=by grind
   simp_all
  ·exact(e.ids id p).imp (λh=>h) λ⟨j,V,W⟩=>by simp_all
theorem ZjD{w:World}{g:Gh}{t a:Ty}{y:El a}{x:El t}{v:Value}(h:Kz a t y=Ua x)(b:VR w g (.d a y) v):VR w g (.d t x) v:=by obtain⟨rfl,rfl⟩:=KK h;omega
theorem Fr.upd{w:World}{g:Gh}{F:Nat->AV}{tmps:Array Value}{n:Nat}{v:AV}(h:Fr w g F tmps)(b:VR w g v (tmps.getD n undef)):Fr w g (XK F n v) tmps:=by
 intro t;unfold XK
 cases a:Vg t n with
 |true=>simp_all
 |false=>exact h t
theorem ZlF{w:World}{g:Gh}{F:Nat->AV}{tmps:Array Value}(hF:Fr w g F tmps):∀(l:List (Nat×Ty)) (x:ElT l) (a:Nat->AV),ZbX F l=Ua x->Fr w g a tmps->Fr w g (inT a l x) tmps
 |[],_,a,_,b=>b
 |[(n,t)],x,a,h,b=>by
  simp [ZbX]at h;have c:=hF n;split at h
  ·rename_i i y d;rw[d]at c;exact b.upd (ZjD h c)
  grind
 |(n,t)::p::l,x,a,h,b=>by
  simp [ZbX]at h;have c:=hF n;split at h
  ·rename_i i y d;rw[d]at c
   cases e:Kz i t y with
   |none=>grind
   |some z=>
    rw[e]at h
    cases f:ZbX F (p::l) with
    |none=>grind
    |some u=>
     rw[f]at h;simp [Za,ZL]at h;subst h;exact ZlF hF (p::l) u _ f (b.upd (ZjD e c))
  grind
theorem ZvM(L:P.follows .mixedOrders=Uc)(K:Z4 P E)(J:JI P E B){s:AS}{w:World}{g:Gh}{ow:Nat->Nat->Prop}{a:Act}(f:SR E B s w g ow a){id:Nat}{draw:Bool}{outs:Option (List (Nat×Ty))}{ρ:Type}{k:AS->Option ρ}{r:ρ}
 (h:ZiI E ops draw outs ρ s k=Ua r):(Vba id ops draw).wp P (λe v w' =>∃s' m i,e=.normal/\SR E B s' w' m i v/\Ln E s w g a s' w' m v/\k s' =Ua r) a w:=by
 have q:∀(m:Gh) (id:Nat),(id<s.nx\/∃j,j<ops.size/\s.nx+j*E.stp<=id/\id<s.nx+j*E.stp+E.stp)->id<s.nx+ops.size*E.stp:=by
  intro m id h;rcases h with h|⟨j,M,R,N⟩
  ·omega
  ·exact ZiO M N
 unfold ZiI at h
 cases outs with
 |none=>
  obtain⟨A,C,n,c,y⟩:=Zec h
  cases o:(!draw||ZbA ops n) with
  |false=>grind
  |true=>
   rw[o]at y;refine Znt L K J ⟨f.rh,f.fr,f.nt,f.df,λid b=>.inl (.inl (f.ids id b))⟩ (λ_ h=>h.elim) c o λv w' m i d D=>⟨⟨A,C,s.nx+ops.size*E.stp,s.fz⟩,m,i,rfl,⟨d.rh,d.fr,d.nt,d.df,λid b=>q m id ((d.ids id b).imp (λh=>h.resolve_right λh=>h) λh=>h),λid b=>?_⟩,⟨D.toLk,rfl,λid b=>c.keptH id b⟩,y⟩
   exact(Zdk (c.keptH id b)).trans (f.fz id b)
 |some l=>
  rw[Va]at h;obtain⟨x,z,y⟩:=h;obtain⟨A,C,n,c,z⟩:=Zec z
  cases o:((!draw||ZbA ops n)&&n.all (λt=>t.wr.isEmpty)) with
  |false=>grind
  |true=>
   rw[o]at z;simp only[Vb]at o;have G:C=s.H:=c.still (by grind);subst G;refine Znt L K J ⟨f.rh,f.fr,f.nt,f.df,λid b=>.inl (.inl (f.ids id b))⟩ (λ_ h=>h.elim) c o.1 λv w' m i d D=>⟨⟨inT (Zh2 (ZeN ops.toList) s.F) l x,s.H,s.nx+ops.size*E.stp,s.fz⟩,m,i,rfl,⟨d.rh,?_,d.nt,d.df,λid b=>q m id ((d.ids id b).imp (λh=>h.resolve_right λh=>h) λh=>h),f.fz⟩,⟨D.toLk,rfl,by simp⟩,y⟩;refine ZlF d.fr l x _ z λt=>?_;unfold Zh2
   cases O:KT t (ZeN ops.toList) with
   |true=>exact HH
   |false=>
    have:A t=s.F t:=c.slots t λp S Q=>by
     have:t∈ZeN ops.toList:=by exact Vaa.2 (by grind)
     rw[JQ.2 this]at O;grind
    rw[<-this];exact d.fr t
def PRs(w:World)(I:Nat->Prop)(tmps:Array Value):(l:List (Nat×Pat))->Jn l->List Nat->Prop
 |[],_,a=>a=[]
 |[(n,p)],x,a=>PV w I p x a (tmps.getD n undef)
 |(n,p)::q::l,x,a=>∃b c,a=b++c/\PV w I p x.1 b (tmps.getD n undef)/\PRs w I tmps (q::l) x.2 c
theorem ZhD{H:AH}{w:World}{g:Gh}{ow:Nat->Nat->Prop}{I:Nat->Prop}(r:RH B H w g ow)(o:∀b,g.I b->I b){p:Pat}{v:AV}{val:Value}{x:K6 p}{ids:ZE}{l e:List Nat}(h:(ext p v).run H l=Ua ((x,ids),e))(A:VR w g v val)
 (q:∀b,ZP H ow ids.br b->I b) (z:ids.tk.Nodup):∃js,PV w I p x js val/\js.Nodup/\∀b∈js,ZP H ow ids.tk b:=by
 by_cases d:p=.any
 ·subst d;obtain⟨⟨_,rfl⟩,_⟩:=h;exact⟨[],⟨rfl,.inl rfl⟩,.nil,by simp⟩
 ·obtain⟨y,s⟩:=Zlf h d;have a:∀m,v≠ .tup m:=by
   rintro m rfl
   cases p with
   |any=>grind
   |pd t=>cases t<;>simp [ext,Kk,Z2,Zb]at h
   |own t k=>simp [ext,JS,Z2,Zb]at h
   |var t p=>simp [ext,Zb]at h
   |ro t=>simp [ext,Zb]at h
   |map k t=>simp [ext,Zb]at h
   |rows t k=>simp [ext,Yz,Z2,Zb]at h
   |mrows k t=>simp [ext,Zb]at h
   |it k t=>simp [ext,Zb]at h
   |fnd _ _ _ _=>simp [ext,Zb]at h
   |owo C=>simp [ext,Rh,Z2,Zb]at h
   |agg l=>simp [ext,Zb]at h
   |fn f l=>simp [ext,Zb]at h
   |nilr=>simp [ext,Zb]at h
   |nils=>simp [ext,Zb]at h
  have c:=A.to1 a;obtain⟨js,i,j,n⟩:=GW r o p v val.cells.toList x ids l e h c.1 q z;exact⟨js,⟨i,.inr (by rw[<-s];exact c.2.resolve_left y)⟩,j,n⟩
theorem Zld{H:AH}{w:World}{g:Gh}{ow:Nat->Nat->Prop}{I:Nat->Prop}{F:Nat->AV}{tmps:Array Value}(f:RH B H w g ow)(j:∀b,g.I b->I b)(hF:Fr w g F tmps):∀(l:List (Nat×Pat)) (x:Jn l) (ids:ZE) (k i:List Nat),
 (ZcW F l).run H k=Ua ((x,ids),i)->(∀b,ZP H ow ids.br b->I b)->ids.tk.Nodup->∃js,PRs w I tmps l x js/\js.Nodup/\∀b∈js,ZP H ow ids.tk b
 |[],x,ids,k,i,h,d,_=>by
  obtain⟨⟨_,rfl⟩,_⟩:=h
  exact⟨[],rfl,.nil,by simp⟩
 |[(n,p)],x,ids,k,i,h,d,o=>by exact ZhD f j h (hF n) d o
 |(n,p)::q::l,x,ids,k,i,h,d,o=>by
  simp only[ZcW,Z2,Vo]at h;obtain⟨⟨V,M⟩,S,z,⟨Q,t⟩,T,D,⟨rfl,rfl⟩,_⟩:=h;have r:(M.tk++t.tk).Nodup:=o;have ⟨N,O,U⟩:=Vf.1 r;have ⟨v,G,J,s⟩:=ZhD f j z (hF n) (λb a=>d b (Ww (λ_ h=>by simp [ZE.app,h]) a)) N;have ⟨y,K,L,c⟩:=Zld f j hF (q::l) Q t _ _ D (λb a=>d b (Ww (λ_ h=>by simp [ZE.app,h]) a)) O;refine⟨v++y,⟨v,y,rfl,G,K⟩,Vf.2 ⟨J,L,λb a R m e=>?_⟩,λb a=>?_⟩
  ·subst e;have ⟨id,A,C⟩:=Ht f (s b a) (c b m);grind
  ·rcases Vh.1 a with a|a
   ·exact Ww (λ_ h=>by simp [ZE.app,h]) (s b a)
   ·exact Ww (λ_ h=>by simp [ZE.app,h]) (c b a)
theorem Zc6:∀(l:List (Nat×Pat)) (x:Jn l) (n:Nat),n<=(WL l x n).2.2/\∀o∈(WL l x n).2.1,n<=o.1/\o.1<(WL l x n).2.2
 |[],_,n=>⟨Nat.le_refl _,by simp [WL]⟩
 |[(m,p)],x,n=>Yf p x n
 |(m,p)::q::l,x,n=>by have ⟨b,c⟩:=Yf p x.1 n;have ⟨d,e⟩:=Zc6 (q::l) x.2 (inj p x.1 n).2.2;refine⟨by simp [WL];omega,λo a=>?_⟩;simp [WL]at a⊢;grind
mutual
theorem Zc7:∀(p:Pat) (x:K6 p) (n:Nat),((inj p x n).2.1.map Vz).Nodup
 |.pd _,_,n=>by simp [inj]
 |.own _ _,_,n=>by simp [inj]
 |.var t p,x,n=>by
  simp only[inj,Vja,Vca];refine⟨λh=>?_,Zc7 p x (n+1)⟩;obtain⟨o,a,b⟩:=Vq.1 h
  have:=((Yf p x (n+1)).2 o a).1;omega
 |.ro _,_,n=>by simp [inj]
 |.map _ _,_,n=>by simp [inj]
 |.rows _ _,_,n=>by simp [inj]
 |.mrows _ _,_,n=>by simp [inj]
 |.it _ _,_,n=>by simp [inj]
 |.fnd _ _ _ _,_,n=>by simp [inj]
 |.owo _,_,n=>by simp [inj]
 |.agg l,x,n=>by simpa only[inj] using Zc9 l x n
 |.fn f l,x,n=>by simpa only[inj] using Zc9 l x n
 |.nilr,_,n=>by simp [inj]
 |.nils,_,n=>by simp [inj]
 |.any,_,n=>by simp [inj]
theorem Zc9:∀(l:Pats) (x:Kw l) (n:Nat),((Kb l x n).2.1.map Vz).Nodup
 |.nil,_,n=>by simp [Kb]
 |.cons p l,x,n=>by simp only[Kb,Vda,Vf];refine⟨Zc7 p x.1 n,Zc9 l x.2 _,λi c j d e=>?_⟩;obtain⟨o,a,rfl⟩:=Vq.1 c;obtain⟨u,k,rfl⟩:=Vq.1 d;have b:=((Yf p x.1 n).2 o a).2;have m:=((ZaE l x.2 _).2 u k).1;omega
end
theorem ZlH:∀(l:List (Nat×Pat)) (x:Jn l) (n:Nat),((WL l x n).2.1.map Vz).Nodup
 |[],_,n=>by simp [WL]
 |[(m,p)],x,n=>by simpa only[WL] using Zc7 p x n
 |(m,p)::q::l,x,n=>by simp only[WL,Vda,Vf];refine⟨Zc7 p x.1 n,ZlH (q::l) x.2 _,λi a j b e=>?_⟩;obtain⟨o,c,rfl⟩:=Vq.1 a;obtain⟨u,d,rfl⟩:=Vq.1 b;have f:=((Yf p x.1 n).2 o c).2;have h:=((Zc6 (q::l) x.2 _).2 u d).1;omega
theorem Zdd:∀(l:List (Nat×K5)) (H:AH) (id:Nat),(l.map Vz).Nodup->Zs H (Wh l) id=match WM l id with|some o=>Ua o|none=>H id
 |[],H,id,_=>rfl
 |p::l,H,id,c=>by
  simp [Vja,Vca]at c;have f:Wh (p::l)=(p.1,Ua p.2)::Wh l:=rfl;rw[f];simp [Zs];rw[Zdd l _ id c.2];simp [WM]
  cases b:Vg id p.1 with
  |true=>
   have:=Vc b;subst this;have d:WM l p.1=none:=by
    have key:∀l:List (Nat×K5),p.1 ∉ l.map Vz->WM l p.1=none:=by
     intro l
     induction l with
     |nil=>intro _;rfl
     |cons q l i=>
      intro h;simp only[WM];have:Vg p.1 q.1=false:=by
       cases b:Vg p.1 q.1
       all_goals simp_all
      grind
    grind
   rw[d];simp [XL]
  |false=>
   have a:id≠p.1:=λe=>by simp_all
   cases WM l id with
   |some o=>rfl
   |none=>exact Ky a
theorem Zfa{w:World}{p:Pat}{H:AH}{g:Gh}{ow:Nat->Nat->Prop}(i:RH B H w g ow){x:K6 p}{js:List Nat}{v:Value}{n:Nat}(h:PV w g.I p x js v)(j:W5 B H w g ow js)(k:∀id,n<=id->id<(inj p x n).2.2->¬g.K id):
 Jg B H w g ow js n (inj p x n).2.2 (Zs H (Wh (inj p x n).2.1)) λd=>Ku w d (inj p x n).1 v:=by
 have ⟨f,s⟩:=h;have ⟨e,a,o,l,r,c,m,q⟩:=Zc8 p i x js v.cells.toList n f j k;refine⟨e,a,o,l,r,⟨c,?_⟩,m,q⟩;by_cases b:p=.any
 ·subst b;exact .inl rfl
 ·rw[ZlJ p x n b];grind
theorem ZlI{w:World}{tmps:Array Value}:∀(l:List (Nat×Pat)) {H:AH}{g:Gh}{ow:Nat->Nat->Prop} (_:RH B H w g ow) (x:Jn l) (js:List Nat) (n:Nat),PRs w g.I tmps l x js->W5 B H w g ow js->(∀id,n<=id->id<(WL l x n).2.2->¬g.K id)->
 Jg B H w g ow js n (WL l x n).2.2 (Zs H (Wh (WL l x n).2.1)) λy=>∀q∈(WL l x n).1,Ku w y q.2 (tmps.getD q.1 undef)
 |[],H,g,ow,a,x,js,n,h,_,_=>by
  obtain rfl:=h
  exact Jg.none a n (by simp [WL])
 |[(m,p)],H,g,ow,a,x,js,n,h,d,D=>by
  obtain⟨r,c,e,b,k,o,t,i⟩:=Zfa a h d (by assumption);refine⟨r,c,e,b,k,λq F=>?_,t,i⟩;simp [WL]at F
  grind
 |(m,p)::q::l,H,g,ow,a,x,js,n,h,d,D=>by
  obtain⟨Q,J,rfl,A,O⟩:=h;have S:=(Yf p x.1 n).1;have T:=(Zc6 (q::l) x.2 (inj p x.1 n).2.2).1;have f:∀id,n<=id->id<(WL (q::l) x.2 (inj p x.1 n).2.2).2.2->¬g.K id:=by assumption
  have ⟨r,c,e,b,k,o,t,i⟩:=Zfa a A (d.sub (List.sublist_append_left _ _)) λid h N=>f id h (by omega);obtain⟨z,j,v,G,L,M,R,U⟩:=ZlI (q::l) k x.2 J (inj p x.1 n).2.2 (by rw[b.I];omega) (d.after b.I i) (by grind);have C:Zs H (Wh (WL ((m,p)::q::l) x n).2.1)=Zs (Zs H (Wh (inj p x.1 n).2.1)) (Wh (WL (q::l) x.2 (inj p x.1 n).2.2).2.1):=by rw[<-Xq];simp [WL,Wh]
  rw[C];simp only[WL];refine⟨z,j,e.trans v,G.after b e,L,λu s=>?_,by grind,by grind⟩
  ·rcases Vi.1 s with rfl|s
   ·exact o.mono (λ_ _=>rfl) v
   grind
  all_goals grind
end
end Tr
end
section
namespace Tr
open Go
open Classical in
theorem Ztj{E:Z9}{B:Z1}{s:AS}{w:World}{g:Gh}{ow:Nat->Nat->Prop}{a:Act}{tn tq lt lb:Ty}{x:ZQ tn tq lt lb}{k id:Nat}(f:SR E B s w g ow a)(L:s.F k=.ptr id [])(U:s.H id=Ua (.fnd tn tq lt lb x)):
 ∃i v m,X6 i x/\SR E B ⟨λt=>bif Vg t k then(inj (Yd tn tq lt lb) (Kj (WH i x)) s.nx).1 else s.F t,Zs (Z0 s.H id Ub) (Wh (inj (Yd tn tq lt lb) (Kj (WH i x)) s.nx).2.1),(inj (Yd tn tq lt lb) (Kj (WH i x)) s.nx).2.2,[]⟩ w v m a/\Lk E w g a w v a:=by
 obtain⟨hK,_,b,y,Y⟩:=f.rh.objs id _ U;have l:s.H id≠none:=by rw[U];simp
 have A:((Vt w.heap.size).filter (λb=>Ue (ow id b))).Nodup:=Vm.filter _;have e:∀k,k∈(Vt w.heap.size).filter (λb=>Ue (ow id b))↔ow id k:=λk=>by simp only[List.mem_filter,Vea,Kx];exact⟨λh=>h.2,λh=>⟨(f.rh.sep id k l h).2.1,h⟩⟩
 generalize (Vt w.heap.size).filter (λb=>Ue (ow id b))=Z at e A;have K:Ru w g.I (· ∈Z) tn tq lt lb x b:=Y.mono (λ_ _=>rfl) (λ_ h=>h) (λb h=>(e b).2 h) (λ_ _=>rfl);obtain⟨i,G,Q,M,D,N⟩:=Zlv K A;have j:W5 B (Z0 s.H id Ub) w g ow G:=⟨M,λb y=>by have C:=(e b).1 (D b y);obtain⟨p,q,r⟩:=f.rh.sep id b l C;exact⟨p,q,r,λc J R=>(YB J).1 (f.rh.dist c id b (YB J).2 l R C)⟩⟩
 have T:=f.fr k;rw[L]at T;obtain⟨⟨_,o,t,b',S,z,X⟩,d⟩:=T;simp only[ZX,ZL,Vo]at S;obtain⟨rfl,rfl⟩:=S;rw[y]at z;cases z;have O:PV w g.I (Yd tn tq lt lb) (Kj (WH i x)) G (a.tmps.getD k undef):=by
  refine⟨?_,.inr ?_⟩
  ·rw[X];exact N
  ·rcases d with d|d
   ·cases d
   ·exact d
 obtain⟨v,m,V,i1,r1,W,k1,o1⟩:=Zfa (n:=s.nx) (f.rh.drop id) O j (λc J R L=>absurd (f.ids c L) (by omega));refine⟨i,v,m,Q,⟨r1,λt=>?_,f.nt,f.df,λc h=>?_,by simp⟩,V,λ_ _=>rfl,by simp⟩
 ·show VR w v (bif Vg t k then _ else s.F t) _
  cases y:Vg t k with
  |true=>have:=Vc y;subst this;simp only[Zd];exact W
  |false=>simp only[Ze];exact(f.fr t).mono (λ_ _=>rfl) V
 ·have hm:=(Yf (Yd tn tq lt lb) (Kj (WH i x)) s.nx).1;show c<(inj (Yd tn tq lt lb) (Kj (WH i x)) s.nx).2.2;rcases k1 c h with h|h
  ·have:=f.ids c h;omega
  ·exact h.2
end Tr
end
section
namespace Tr
open Go
theorem ZtT{s:AS}{l m:List Nat}(h:∀n∈l,n∈m):∀id∈G0 s l,id∈G0 s m:=by
 have key:∀(m:List Nat) n,n∈m->∀id∈(match s.F n with|.fn _ b=>AV.boxes b|v=>Ra s.H 8 v),id∈G0 s m:=by
  intro m
  induction m with
  |nil=>simp
  |cons k m c=>
   intro n d id a;simp [G0];grind
 induction l with
 |nil=>intro id a;simp [G0]at a
 |cons n l c=>
  intro id a;simp [G0,Vh]at a;rcases a with a|a
  ·exact key m n (by grind) id a
  grind
theorem Zkk{H:AH}:∀{l:Zo},Zei H l=Uc->∀id∈AV.boxes l,XG H id=Uc
 |.nil,_,id,b=>by simp [AV.boxes]at b
 |.cons v l,h,id,b=>by
  simp [Zei,Vb]at h;simp [AV.boxes,Vh]at b;rcases b with b|b
  ·cases v with
   |ptr k p=>
    cases p with
    |nil=>
     simp [AV.box?]at b
     grind
    |cons a p=>grind
   |_=>simp [AV.box?]at b
  ·exact Zkk h.2 id b
theorem ZlY{s:AS}:∀{l:List Nat},Gy s l=Uc->∀id∈G0 s l,XG s.H id=Uc
 |[],_,id,a=>by simp [G0]at a
 |n::l,h,id,a=>by
  simp only[Gy,Vb]at h;simp only[G0,Vh]at a;rcases a with a|a
  ·have c:=h.1
   cases d:s.F n with
   |fn f b=>rw[d]at c a;exact Zkk c id a
   |ptr i p=>
    grind
   |vw i=>simp only[Ra,Vr]at a;grind
   |nw i v e k=>simp only[Ra,Vr]at a;grind
   |mp i=>simp only[Ra,Vr]at a;grind
   |agg l=>grind
   |_=>rw[d]at a;simp [Ra]at a
  ·exact ZlY h.2 id a
theorem Zfd{s:AS}{e:WZ}(h:Gy s e.kept=Uc)(b:∀id∈s.fz,XG s.H id=Uc):∀id∈Z6 s e,XG s.H id=true:=by
 intro id a;rcases Vh.1 a with a|a
 ·exact ZlY h id a
 grind
mutual
theorem Zjs{w0 w:World}{g0 g e:Gh}(q:∀b,g.I b->e.I b)(m:∀id,g0.K id->e.K id)(o:e.ty=g.ty)(r:e.blk=g.blk)(s:e.slv=g.slv)(z:e.ver=g.ver)(y:e.row=g.row):∀(v:AV) (j cs:List Value),CV w0 g0 v j->CV w g v cs->CV w e v cs
 |.d t x,_,cs,_,h=>Rd.mono (λ_ _=>rfl) q t x cs h
 |.junk,_,_,_,_=>by simp [CV]
 |.tup _,_,_,_,h=>by simp [CV]at h
 |.agg l,j,cs,a,h=>by simp only[CV]at a h⊢;exact Zgk q m o r s z y l j cs a h
 |.dp t x,_,cs,_,h=>by
  simp only[CV]at h⊢;obtain⟨b,off,c,F,A,C,G⟩:=h
  exact⟨b,off,c,F,q _ A,C,Rd.mono (λ_ _=>rfl) q t x c G⟩
 |.ptr id p,_,cs,a,h=>by
  simp only[CV]at a h⊢
  rw[o,r];exact⟨m _ a.1,h.2⟩
 |.vw id,_,cs,a,h=>by
  simp only[CV]at a h⊢
  rw[s];exact⟨m _ a.1,h.2⟩
 |.vs id T n,_,cs,a,h=>by
  simp only[CV]at a h⊢
  rw[s,o];exact⟨m _ a.1,h.2⟩
 |.vp id i p,_,cs,a,h=>by
  simp only[CV]at a h⊢
  rw[o,r];exact⟨m _ a.1,h.2⟩
 |.op id i,_,cs,a,h=>by
  simp only[CV]at a h⊢
  rw[s];exact⟨m _ a.1,h.2⟩
 |.mp id,_,cs,a,h=>by
  simp only[CV]at a h⊢
  rw[r];exact⟨m _ a.1,h.2⟩
 |.fn f l,j,cs,a,h=>by
  simp only[CV]at a h⊢;obtain⟨D,_,A⟩:=a;obtain⟨M,F,C⟩:=h
  exact⟨M,F,Zgk q m o r s z y l D M A C⟩
 |.nilr _,_,_,_,h=>by simpa only[CV] using h
 |.nils,_,_,_,h=>by simpa only[CV] using h
 |.jk _,_,_,_,h=>by simpa only[CV] using h
 |.nw id ver S k,_,cs,a,h=>by
  simp only[CV]at a h⊢
  rw[z,y];exact⟨m _ a.1,h.2⟩
 |.np id ver S k i p,_,cs,a,h=>by simp only[CV]at a h⊢;rw[z,y,o];exact⟨m _ a.1,h.2⟩
theorem Zgk{w0 w:World}{g0 g e:Gh}(q:∀b,g.I b->e.I b)(m:∀id,g0.K id->e.K id)(o:e.ty=g.ty)(r:e.blk=g.blk)(s:e.slv=g.slv)(z:e.ver=g.ver)(y:e.row=g.row):∀(l:Zo) (j cs:List Value),Kg w0 g0 l j->Kg w g l cs->Kg w e l cs
 |.nil,_,_,_,h=>by simpa only[Kg] using h
 |.cons v l,j,cs,a,h=>by simp only[Kg]at a h⊢;obtain⟨N,O,_,A,C⟩:=a;obtain⟨J,L,G,Q,R⟩:=h;exact⟨J,L,G,Zjs q m o r s z y v N J A Q,Zgk q m o r s z y l O L C R⟩
end
theorem Zo8{w:World}{g i:Gh}{J:Nat->Prop}{id:Nat}{o:K5}{H:AH}(hH:H id=Ua o)(hd:XG H id=Uc)(j:∀b,g.I b->i.I b){w0:World}{g0:Gh}{J0:Nat->Prop}(hK:∀id,g0.K id->i.K id)(X:i.ty=g.ty)(O:i.blk=g.blk)(W:i.slv=g.slv)(Y:i.ver=g.ver)(U:i.row=g.row)(n:ORel w0 g0 J0 id o)
 (h:ORel w g J id o):ORel w i J id o:=by
 have z:i.ty id=g.ty id:=by grind
 have y:i.blk id=g.blk id:=by grind
 have V:i.slv id=g.slv id:=by grind
 have Z:i.ver id=g.ver id:=by grind
 have T:i.row id=g.row id:=by grind
 unfold XG at hd
 cases o with
 |var t c=>
  have ⟨_,_,_,a0,_,_,_,_,_,s⟩:=n;obtain⟨n,hf,b,cs,e,l,d,p,q,r⟩:=h
  exact⟨z.trans n,hf,b,cs,e,y.trans l,d,p,q,Zjs j hK X O W Y U c _ _ s r⟩
 |vec t xs=>
  have ⟨n,h⟩:=h;refine⟨z.trans n,?_⟩;rcases h with ⟨l,d,p⟩|⟨b,cap,cs,e,M,l,d,p,q,r,s,F,G⟩
  ·grind
  ·exact .inr ⟨b,cap,cs,e,M,y.trans l,d,V.trans p,q,r,s,F.mono λx c f=>Rd.mono (λ_ _=>rfl) j t x c f,G⟩
 |map kt vt m=>
  obtain⟨b,es,clock,l,d,p,Q,q⟩:=h
  exact⟨b,es,clock,y.trans l,d,p,Q,q.mono λkv e f=>⟨⟨by have:=f.1.1;exact Rd.mono (λ_ _=>rfl) j _ _ _ this,f.1.2⟩,⟨by have:=f.2.1;exact Rd.mono (λ_ _=>rfl) j _ _ _ this,f.2.2⟩⟩⟩
 |rows t xs v L=>
  obtain⟨n,l,d,p⟩:=h;refine⟨z.trans n,Z.trans l,?_,?_⟩
  ·rw[y,T];exact⟨λk x a b=>(d.rd k x a b).mono (λ_ _=>rfl) j (by simp) (by simp),d.ds,d.tp⟩
  grind
 |mrows kt t m v L=>
  have ⟨n,l,d,p,q,b,es,clock,r,s,F,R,G⟩:=h;refine⟨z.trans n,Z.trans l,?_,p,?_,b,es,clock,y.trans r,s,F,R,?_⟩
  ·rw[y,T];exact⟨λk x a b=>(d.rd k x a b).mono (λ_ _=>rfl) j (by simp) (by simp),d.ds,d.tp⟩
  ·grind
  ·rw[T];exact G.mono λkv e f=>⟨⟨by have:=f.1.1;exact Rd.mono (λ_ _=>rfl) j _ _ _ this,f.1.2⟩,f.2⟩
 |rng kt vt rest cur=>
  have ⟨b,mb,es,clock,since,seen,n,l,d,p,q,r,s,F,G⟩:=h;refine⟨b,mb,es,clock,since,seen,z.trans n,y.trans l,d,p,q,r,s,F.mono λkv e f=>⟨⟨by have:=f.1.1;exact Rd.mono (λ_ _=>rfl) j _ _ _ this,f.1.2⟩,⟨by have:=f.2.1;exact Rd.mono (λ_ _=>rfl) j _ _ _ this,f.2.2⟩⟩,λkv S=>?_⟩;have ⟨e,h9,A,N,C,D⟩:=G kv S
  exact⟨e,h9,A,N,⟨by have:=C.1;exact Rd.mono (λ_ _=>rfl) j _ _ _ this,C.2⟩,⟨by have:=D.1;exact Rd.mono (λ_ _=>rfl) j _ _ _ this,D.2⟩⟩
 |dat t xs=>exact⟨z.trans h.1,by rw[V];exact Rd.mono (λ_ _=>rfl) j _ _ _ h.2⟩
 |vco lb xs=>exact⟨z.trans h.1,by rw[V];exact h.2.mono (λ_ _=>rfl) j (λ_ _ h=>h) λ_ _ _=>rfl⟩
 |fnd tn tq lt lb x=>grind
theorem Zmg{w:World}{g:Gh}{tmps:Array Value}:∀(l:List (Nat×AV)),(∀q∈l,Ku w g q.2 (tmps.getD q.1 undef))->∀k,Ku w g (RY l k) (tmps.getD k undef)
 |[],_,k=>⟨by simp [CV,RY],.inl rfl⟩
 |q::l,h,k=>by
  simp only[RY]
  cases a:Vg k q.1 with
  |true=>simp_all
  |false=>exact Zmg l (by grind) k
section
variable {P:Program}{E E' :Z9}{B:Z1}
theorem Zku{w w1:World}{g r:Gh}{F i:Nat->AV}{tmps:Array Value}(hF:Fr w g F tmps)(d:∀k,(∀m,i k≠ .tup m)->Ku w1 r (i k) (tmps.getD k undef)):∀(c:Zo) (l:List Nat) (j:List Value),D6 F c l=Uc->Kg w g c j->
 (∀n∈l,∀m,i n≠ .tup m)->Kg w1 r (Zo.ofList (l.map i)) j
 |.nil,[],j,_,y,_=>by assumption
 |.nil,n::l,_,h,_,_=>by simp [D6]at h
 |.cons v vs,[],_,h,_,_=>by simp [D6]at h
 |.cons v vs,n::l,j,h,y,O=>by
  simp [D6,Vb]at h;obtain⟨C,q,rfl,D,G⟩:=y;refine⟨C,q,rfl,?_,Zku hF d vs l q h.2 G (by grind)⟩;have f:=h.1
  cases v with
  |ptr id p=>
   cases p with
   |nil=>
    simp [AV.box?]at f
    cases e:F n with
    |ptr Q A=>
     cases A with
     |nil=>
      rw[e]at f;have:=Vc f;subst this;have z:=hF n;rw[e]at z;obtain⟨_,o,t,b,J,K,L⟩:=z.ptr;have ⟨_,S,T,R,s,x,M⟩:=D;rw[J]at s;cases s;rw[K]at x;cases x;have N:=(d n (by grind)).1;rw[L]at N;rw[M]
      assumption
     |cons a A=>grind
    |_=>grind
   |cons a p=>simp [AV.box?]at f
  |_=>simp [AV.box?]at f
theorem ZjO{w w1:World}{g s:Gh}{F o:Nat->AV}{tmps:Array Value}(hF:Fr w g F tmps)(e:Fr w1 s o tmps)(q:∀k m,o k=.tup m->∀id,F k≠ .ptr id []):∀(l:List (Nat×FuncId×List Nat)),Zc3 F l=Uc->Fr w1 s (ZgF o l) tmps
 |[],_=>e
 |(n,f,l)::m,h=>by
  simp [Zc3,Vb]at h;refine(ZjO hF e q m h.2).upd ?_;have d:=h.1;have j:=hF n;split at d
  ·rename_i A b c;simp only[Vb]at d;have:=Vc d.1;subst this;rw[c]at j;obtain⟨r,x,y⟩:=j.fn;rw[x];refine⟨?_,.inr (Zlt _ _)⟩;simp [CV,Zte];have i:∀(b:Zo) (l:List Nat),D6 F b l=Uc->∀n∈l,∃id,F n=.ptr id []:=by
    intro b l
    induction l generalizing b with
    |nil=>simp
    |cons k l C=>
     intro h n t
     cases b with
     |nil=>simp [D6]at h
     |cons v vs=>
      simp [D6,Vb]at h;rcases Vi.1 t with rfl|t
      ·have d:=h.1
       cases c:F n with
       |ptr id p=>
        cases p with
        |nil=>simp
        |cons a p=>rw[c]at d;cases j:v.box? <;>simp [AV.box?]at d
       |_=>rw[c]at d;cases j:v.box? <;>simp [AV.box?]at d
      grind
   exact⟨r,by rfl,Zku hF (λk z=>(e k).to1 z) b l r d.2 y (by grind)⟩
  grind
theorem ZpD{w:World}{g:Gh}{x y:AV}{u v:Value}(a:VR w g x u)(c:VR w g y v)(h:ZgK x y=Uc):u=v:=by
 unfold ZgK at h;split at h
 ·have:=Vc h;subst this;rw[a.vw.2,c.vw.2]
 ·have:=Vc h;obtain⟨_,b,e,rfl⟩:=a.mp;obtain⟨_,d,f,rfl⟩:=c.mp;grind
 ·have:=Vc h;obtain⟨_,o,t,b,e,f,rfl⟩:=a.ptr;obtain⟨_,k,l,d,i,j,rfl⟩:=c.ptr;grind
 ·rw[a.nils,c.nils]
 grind
theorem ZjN{w w1:World}{g c:Gh}{F b:Nat->AV}{tmps:Array Value}(hF:Fr w g F tmps)(a:Fr w1 c b tmps):∀(l:List (Nat×Nat)),ZcB F l=Uc->Fr w1 c (ZgE b l) tmps
 |[],_=>a
 |p::l,h=>by simp [ZcB,Vb]at h;refine(ZjN hF a l h.2).upd ?_;rw[ZpD (hF p.1) (hF p.2) h.1];exact a p.2
theorem ZvN{s s' :AS}{w w' :World}{g A:Gh}{ow z:Nat->Nat->Prop}{a a' :Act}(O:SR E B s w g ow a)(c:SR E' B s' w' A z a')(a8:E'.nt=E.nt){e:WZ}{fz0 fzN:List Nat}{x:Jn e.roots}
 (J:Lk E' w g a w' A a') (a6:∀n∈e.kept,n∈E'.ks) (hH:∀id∈Z6 s e,s'.H id=s.H id) (hD:∀id∈Z6 s e,XG s.H id=Uc) (b7:∀id∈Z6 s e,id∈fz0) (a2:∀id∈fzN,id∈Z6 s e)
 (h:Ziy fz0 e s' =Ua x):∃D Q,SR E B (ZbM s fzN e x) w' D Q a' /\g.Le D/\Kq g.I w w' /\(∀id∈Z6 s e,(ZbM s fzN e x).H id=s.H id)/\∀id,g.K id->D.slv id=A.slv id:=by
 unfold Ziy at h;rw[Zy.runK_eq]at h
 cases hx:(ZcW s'.F e.roots).run s'.H [] with
 |none=>grind
 |some y=>
  obtain⟨⟨j,ids⟩,rd⟩:=y;rw[hx]at h;simp only[Za]at h
  cases hc:(ids.ok fz0&&J7 ids.br fz0&&Zc3 s'.F e.fns&&ZcB s'.F e.als) with
  |false=>grind
  |true=>
   rw[hc]at h;simp only[Zd,ZL]at h;subst h;simp only[Vb]at hc;obtain⟨⟨⟨a9,a1⟩,U⟩,T⟩:=hc;obtain⟨a7,b2,b4⟩:=ZE.ok_iff a9;have b1:=RQ.1 a1;obtain⟨js,b0,a4,V⟩:=Zld c.rh (I:=λb=>A.I b\/ZP s'.H z ids.br b) (by grind) c.fr e.roots j ids [] rd hx (by grind) a7
   let g1:Gh:={I:=λb=>A.I b\/ZP s'.H z ids.br b,K:=g.K,ty:=A.ty,blk:=A.blk,slv:=A.slv,ver:=A.ver,row:=A.row}
   let H1:AH:=λid=>bif KT id (Z6 s e) then s.H id else Ub
   have L:∀id,H1 id≠Ub->id∈Z6 s e/\s'.H id≠Ub/\H1 id=s.H id/\s'.H id=s.H id:=by
    intro id d;have e1:H1 id=bif KT id (Z6 s e) then s.H id else none:=rfl
    cases X:KT id (Z6 s e) with
    |false=>grind
    |true=>
     have f:=JQ.1 X;grind
   have a3:g.Le g1:=⟨λb i=>.inl (J.le.I b i),λ_ h=>h,λid d=>J.le.ty id d,λid d=>J.le.blk id d,λid d=>J.le.slv id d,λid d=>J.le.ver id d,λid d=>J.le.row id d⟩;have a0:RH B H1 w' g1 z:={
    objs:=λid o ho=>by obtain⟨f,v,p,r⟩:=L id (by grind);have C:s.H id=Ua o:=p.symm.trans ho;have Y:s'.H id=Ua o:=r.trans C;exact⟨(O.rh.objs id o C).1,Zo8 (g0:=g) C (hD id f) (λb i=>.inl i) (by grind) rfl rfl rfl rfl rfl (O.rh.objs id o C).2 (c.rh.objs id o Y).2⟩
    dist:=λid t b p r R h4=>c.rh.dist id t b (by grind) (by grind) R h4
    sep:=λid b p r=>by
     obtain⟨f,v,_⟩:=L id p;obtain⟨R,h4,h5⟩:=c.rh.sep id b v r;refine⟨λM=>?_,h4,h5⟩;rcases M with M|⟨t,h6,h7,h8⟩
     ·grind
     ·have:=c.rh.dist id t b v h7 r h8;grind
    ilt:=λb i=>by
     rcases i with i|⟨id,_,p,r⟩
     ·exact c.rh.ilt b i
     ·exact(c.rh.sep id b p r).2.1
    inew:=λb i=>by
     rcases i with i|⟨id,_,p,r⟩
     ·exact c.rh.inew b i
     ·exact .inr (c.rh.sep id b p r).2.2
    os:=c.rh.os
    tape:=c.rh.tape
    output:=c.rh.output
    size:=c.rh.size
    kept:=c.rh.kept}
   have N:W5 B H1 w' g1 z js:=⟨a4,λb i=>by
    obtain⟨id,p,r,R⟩:=V b i;obtain⟨h4,h5,h6⟩:=c.rh.sep id b r R;refine⟨λM=>?_,h5,h6,λt h7 h8=>?_⟩
    ·rcases M with M|M
     ·grind
     ·obtain⟨k,h9,b5⟩:=Ht c.rh M (V b i);grind
    ·obtain⟨f,v,_⟩:=L t h7;have:=c.rh.dist t id b v r h8 R;grind⟩
   obtain⟨D,Q,l2,i2,r2,c2,k2,_⟩:=ZlI e.roots a0 j js s.nx b0 N λid p r hK=>by have:=O.ids id hK;omega
   have b6:(ZbM s fzN e j).H=Zs H1 (Wh (WL e.roots j s.nx).2.1):=by
    funext id;rw[Zdd _ _ _ (ZlH _ _ _)];show (bif KT id (Z6 s e) then s.H id else WM (WL e.roots j s.nx).2.1 id)=_
    cases X:KT id (Z6 s e) with
    |true=>
     have b8:id<s.nx:=by
      have hd:=hD id (JQ.1 X)
      cases ho:s.H id with
      |none=>unfold XG at hd;grind
      |some o=>exact O.ids id (O.rh.objs id o ho).1
     have hl:WM (WL e.roots j s.nx).2.1 id=none:=by
      have b3:=(Zc6 e.roots j s.nx).2;have key:∀l:List (Nat×K5),(∀o∈l,s.nx<=o.1)->WM l id=none:=by
       intro l
       induction l with
       |nil=>intro _;rfl
       |cons q l ih=>
        intro h;simp only[WM];have:Vg id q.1=false:=by
         cases i:Vg id q.1
         ·rfl
         ·have:=Vc i;grind
        grind
      grind
     grind
    |false=>
     grind
   have W:g.Le D:=a3.trans l2;have G:Kq g.I w w' :=J.ag;have S:Fr w' D (λk=>bif KT k e.kept then s.F k else RY (WL e.roots j s.nx).1 k) a'.tmps:=by
    intro k;show VR w' D (bif KT k e.kept then s.F k else RY (WL e.roots j s.nx).1 k) _
    cases X:KT k e.kept with
    |true=>
     simp only[Zd];rw[J.ks k (a6 k (JQ.1 X))]
     exact(O.fr k).mono G W
    |false=>
     simp only[Ze];exact .of1 (Zmg _ c2 k)
   refine⟨D,Q,⟨by grind,?_,by rw[c.nt,a8],c.df,λid d=>?_,λid d=>?_⟩,W,G,λid d=>?_,λid d=>l2.slv id d⟩
   ·refine ZjN c.fr (ZjO c.fr S (λk m a5 id d=>?_) e.fns U) e.als T;have hv:=S k;rw[show (λk=>bif KT k e.kept then s.F k else RY (WL e.roots j s.nx).1 k) k=.tup m from a5]at hv;have Z:=c.fr k;rw[d]at Z;obtain⟨vs,p,_⟩:=hv;obtain⟨_,_,_,_,_,_,r⟩:=Z.ptr;grind
   ·show id<(WL e.roots j s.nx).2.2;have:=(Zc6 e.roots j s.nx).1;rcases k2 id d with p|p
    ·have:=O.ids id p;omega
    omega
   ·have f:=a2 id d;have e1:(ZbM s fzN e j).H id=s.H id:=by show (bif KT id (Z6 s e) then s.H id else WM (WL e.roots j s.nx).2.1 id)=_;rw[JQ.2 f];rfl
    exact(Zdk e1).trans (hD id f)
   ·show (bif KT id (Z6 s e) then s.H id else WM (WL e.roots j s.nx).2.1 id)=_;rw[JQ.2 d];rfl
theorem Zh7{s:AS}{w:World}{g:Gh}{ow:Nat->Nat->Prop}{tmps:Array Value}(n:RH B s.H w g ow)(hF:Fr w g s.F tmps){k:Nat×Nat×Nat}{x:Nat}(h:HQ s k=Ua x):
 g.K x/\∃b cs e,tmps.getD k.1 undef=.pointer (Ua ⟨b,0,Ub⟩)/\w.heap[b]? =Ua (.cells cs e (0,0))/\cs[k.2.2]? =Ua (g.slv x):=by
 unfold HQ at h;split at h
 case h_2=>grind
 rename_i id d;split at h
 case h_2=>grind
 rename_i T c m;split at h
 case h_2=>grind
 rename_i y r
 cases f:Vg (R0 T k.2.1) k.2.2 with
 |false=>grind
 |true=>
  rw[f]at h;simp [Zd]at h;have i:=Vc f;obtain⟨_,_,q,b,cs,e,p,_,G,_,a⟩:=n.objs id _ m;obtain⟨z,A⟩:=ZbU c _ _ _ _ q a r;have j:=hF k.1;rw[d]at j;have ⟨_,o,t,v,l,C,D⟩:=j.ptr;simp [ZX,ZL]at l;grind
theorem ZtV{s' m:AS}{w' :World}{a c:Gh}{j l:Nat->Nat->Prop}{n:Z1}{tmps:Array Value}(h:RH n s'.H w' a j)(d:Fr w' a s'.F tmps)(i:RH B m.H w' c l)(f:Fr w' c m.F tmps){k:Nat×Nat×Nat}{x y:Nat}(p:HQ s' k=Ua x)(q:HQ m k=Ua y):
 c.slv y=a.slv x:=by
 have ⟨_,b,cs,e,t,v,z⟩:=Zh7 h d p;have ⟨_,r,o,s,A,C,D⟩:=Zh7 i f q;grind
theorem ZvO{b:AS}{fz:List Nat}{k:Nat×Nat×Nat}{s:AS}{i:Nat}(a:i∈fz):(R2 b fz k s).H i=s.H i:=by
 unfold R2;split
 case h_2=>rfl
 rename_i x y id C D p;split
 case h_2=>rfl
 rename_i T c t xs v z A o n;generalize d:(v==t&& !Vg y id&& !Vg x id&& !KT x fz&& !KT y fz&& !KT id fz)=h
 cases h with
 |false=>rfl
 |true=>
  simp [Vb]at d;have ⟨⟨⟨_,j⟩,l⟩,m⟩:=d;have q:i≠x:=λe=>by rw[<-e,JQ.2 a]at j;grind
  have r:i≠y:=λe=>by rw[<-e,JQ.2 a]at l;grind
  have f:i≠id:=λe=>by rw[<-e,JQ.2 a]at m;grind
  show Z0 (Z0 (Z0 (Z0 s.H y Ub) id Ub) x _) id _ i=s.H i;rw[Ky f,Ky q,Ky f,Ky r]
theorem Znv{b:AS}{fz:List Nat}{i:Nat}(a:i∈fz):∀(l:List (Nat×Nat×Nat)) (s:AS),(R3 b fz l s).H i=s.H i
 |[],_=>rfl
 |_::l,_=>(Znv a l _).trans (ZvO a)
theorem Ze6{b:AS}{fz:List Nat}{e:WZ}{x:Jn e.roots}{id:Nat}(a:id∈Z6 b e):(Xn b fz e x).H id=b.H id:=by refine(Znv a e.kf _).trans ?_;show (bif KT id (Z6 b e) then b.H id else _)=_;rw[JQ.2 a];rfl
theorem ZvP{s s' a:AS}{w w' :World}{g n h:Gh}{ow L m:Nat->Nat->Prop}{R Q:Z1}{j tmps:Array Value}(M:RH R s.H w g ow)(hF:Fr w g s.F j)(v:RH Q s'.H w' n L)(o:Fr w' n s'.F tmps)(d:g.Le h)(A:∀id,g.K id->h.slv id=n.slv id)
 {k:Nat×Nat×Nat} (hk:(match HQ s k,HQ s' k with|some x,Ua y=>Vg x y|_,_=>Ud)=Uc) {fz:List Nat} (i:RH B a.H w' h m) (p:Fr w' h a.F tmps):
 (∃f,RH B (R2 s fz k a).H w' h f)/\(R2 s fz k a).F=a.F/\(R2 s fz k a).fz=a.fz/\(R2 s fz k a).nx=a.nx:=by
 have same:(∃f,RH B a.H w' h f)/\a.F=a.F/\a.fz=a.fz/\a.nx=a.nx:=⟨⟨m,i⟩,rfl,rfl,rfl⟩;unfold R2;split
 case h_2=>omega
 rename_i x y id X O V;split
 case h_2=>omega
 rename_i T c t xs t0 a0 U r q;generalize N:(t0==t&& !Vg y id&& !Vg x id&& !KT x fz&& !KT y fz&& !KT id fz)=S
 cases S with
 |false=>grind
 |true=>
  simp [Vb,Ki]at N;obtain⟨⟨⟨⟨⟨rfl,h1⟩,h2⟩,h3⟩,h4⟩,h5⟩:=N;have Y:y≠id:=by grind
  have Z:x≠id:=λe=>by simp_all
  have W:c.nth k.2.1=Ua (.vw y):=by have J:=O;unfold HQ at J;grind
  have G:HQ s' k=Ua x:=by
   cases hz:HQ s' k with
   |none=>grind
   |some z=>simp_all
  have b:=(Zh7 M hF X).1;have l:h.slv x=h.slv y:=by rw[ZtV v o i p G O,A x b]
  have ⟨_,C,D⟩:=M.objs x _ q;have ⟨f,h6⟩:=Znz i U W r (d.K x b) l ((d.ty x b).trans C) (by rw[d.blk x b,d.slv x b];grind) Y Z
  grind
theorem Znw{s s' :AS}{w w' :World}{g n d:Gh}{ow p:Nat->Nat->Prop}{t r:Z1}{c tmps:Array Value}(q:RH t s.H w g ow)(hF:Fr w g s.F c)(f:RH r s'.H w' n p)(e:Fr w' n s'.F tmps)(i:g.Le d)(j:∀id,g.K id->d.slv id=n.slv id){fz:List Nat}:
 ∀(l:List (Nat×Nat×Nat)) {s2:AS}{a:Nat->Nat->Prop},Zdc s s' l=Uc->RH B s2.H w' d a->Fr w' d s2.F tmps->
 (∃m,RH B (R3 s fz l s2).H w' d m)/\(R3 s fz l s2).F=s2.F/\(R3 s fz l s2).fz=s2.fz/\(R3 s fz l s2).nx=s2.nx
 |[],s2,a,_,b,_=>⟨⟨a,b⟩,rfl,rfl,rfl⟩
 |k::l,s2,a,h,b,o=>by simp [Zdc,Vb]at h;obtain⟨⟨m,v⟩,x,y,z⟩:=ZvP q hF f e i j h.1 b o;obtain⟨A,C,D,G⟩:=Znw q hF f e i j l h.2 v (by grind);exact⟨A,C.trans x,D.trans y,G.trans z⟩
theorem ZjP{b:AS}{w:World}{g:Gh}{tmps:Array Value}:∀(l:List Nat) {F:Nat->AV},(∀n∈l,VR w g (b.F n) (tmps.getD n undef))->Fr w g F tmps->Fr w g (ZgG b l F) tmps
 |[],_,_,h=>h
 |n::l,F,a,h=>ZjP l (by grind) (h.upd (by grind))
theorem Zb1{s s' :AS}{w w' :World}{g z:Gh}{ow v:Nat->Nat->Prop}{a m:Act}(l:SR E B s w g ow a)(d:SR E' B s' w' z v m)(t:E'.nt=E.nt){e:WZ}{fz0 fzN:List Nat}{x:Jn e.roots}
 (D:Lk E' w g a w' z m) (q:∀n∈e.kept,n∈E'.ks) (r:∀n∈e.kv,n∈E'.ks) (J:∀id∈Z6 s e,s'.H id=s.H id) (C:∀id∈Z6 s e,XG s.H id=Uc) (p:∀id∈Z6 s e,id∈fz0) (f:∀id∈fzN,id∈Z6 s e)
 (h:XY s fz0 e s' =Ua x):∃k j,SR E B (Xn s fzN e x) w' k j m/\g.Le k/\Kq g.I w w' /\∀id∈Z6 s e,(Xn s fzN e x).H id=s.H id:=by
 unfold XY at h
 cases i:Zdc s s' e.kf with
 |false=>grind
 |true=>
  rw[i]at h;have ⟨k,j,b,o,A,O,G⟩:=ZvN l d t D q J C p f h;obtain⟨⟨y,L⟩,M,Q,N⟩:=Znw l.rh l.fr d.rh d.fr o G e.kf i b.rh b.fr;refine⟨k,y,⟨L,?_,b.nt,b.df,λid c=>?_,λid c=>?_⟩,o,A,λid c=>Ze6 c⟩
  ·refine ZjP e.kv (λn K=>?_) (by rw[M];exact b.fr);rw[D.ks n (r n K)];exact(l.fr n).mono A o
  ·show id<(R3 s (Z6 s e) e.kf (ZbM s fzN e x)).nx;rw[N];exact b.ids id c
  ·have F:=f id c;exact(Zdk (Ze6 F)).trans (C id F)
def ZbC:Ex->Exit
 |.normal=>.normal
 |.exit id=>.exit id
 |.ret=>.ret
 |.jump l=>.goto l
theorem Ex.beq_eq{x y:Ex}(h:x.beq y=Uc):x=y:=by
 cases x<;>cases y<;>simp [Ex.beq]at h
 all_goals grind
theorem ZoH{ρ:Type}{b s' :AS}{fz:List Nat}{k:Ex->AS->Option ρ}{r:ρ}{x:Ex}:∀(J:Gf) (o:YH J),Yy b fz J x s' =Ua o->Rr b J o k=Ua r->∃f∈J,x=f.1/\∃y,XY b fz f.2 s' =Ua y/\k x (Xn b b.fz f.2 y)=Ua r
 |[],o,h,_=>by grind
 |[f],o,h,c=>by
  simp only[Yy]at h
  cases a:x.beq f.1 with
  |false=>grind
  |true=>
   have:=Ex.beq_eq a;simp only[Rr]at c
   grind
 |f::e::l,o,h,c=>by
  simp only[Yy]at h
  cases a:x.beq f.1 with
  |true=>
   rw[a]at h;simp only[Zd,Va,ZL]at h;obtain⟨y,d,rfl⟩:=h;have:=Ex.beq_eq a;simp only[Rr]at c
   grind
  |false=>
   rw[a]at h;simp only[Ze,Va,ZL]at h;obtain⟨y,d,rfl⟩:=h;obtain⟨i,j,m⟩:=ZoH (e::l) y d c;grind
theorem Zh5{e:WZ}:∀{J:Gf},Gx e J=Uc->∀f∈J,∀n∈f.2.kept,n∈e.kept
 |[],_,f,a=>by grind
 |q::l,h,f,a=>by
  simp [Gx,Vb]at h;rcases Vi.1 a with rfl|a
  ·exact λn b=>JQ.1 (by grind)
  ·exact Zh5 h.2 f a
theorem ZlX{e:WZ}:∀{J:Gf},Gx e J=Uc->∀f∈J,∀n∈f.2.kv,n∈e.kv
 |[],_,f,a=>by grind
 |q::l,h,f,a=>by
  simp [Gx,Vb]at h;rcases Vi.1 a with rfl|a
  ·exact λn b=>JQ.1 (by grind)
  ·exact ZlX h.2 f a
def Wz(E:Z9)(B:Z1)(s:AS)(w:World)(g:Gh)(a:Act){ρ:Type}(k:Ex->AS->Option ρ)(r:ρ):Exit->Act->World->Prop:=λe d h=>
 ∃x c f b,ZbC x=e/\SR E B c h f b d/\Ln E s w g a c h f d/\k x c=Ua r
theorem Wz.out{s z:AS}{w w1:World}{g A:Gh}{ow q:Nat->Nat->Prop}{a e:Act}{en:WZ}{J:Gf}{ρ:Type}{k:Ex->AS->Option ρ}{r:ρ}(D:SR E B s w g ow a)(d:Gy s en.kept=Uc)(i:Gx en J=Uc)
 (C:Lk (Wv E en) w g a w1 A e) (p:SR (Wv E en) B z w1 A q e) (T:∀id∈Z6 s en,z.H id=s.H id) {x:Ex}{o:YH J} (O:Yy s (Z6 s en) J x z=Ua o) (R:Rr s J o k=Ua r):Wz E B s w g a k r (ZbC x) e w1:=by
 have ⟨f,j,U,y,S,N⟩:=ZoH J o O R;have c:∀id∈Z6 s f.2,id∈Z6 s en:=λid b=>by
  rcases Vh.1 b with h|h
  ·exact Vd _ (ZtT (Zh5 i f j) id h)
  ·exact Ve _ h
 have l:∀n∈f.2.kept,n∈(Wv E en).ks:=λn m=>Vd _ (Zh5 i f j n m);have ⟨F,v,G,K,L,M⟩:=Zb1 D p rfl C l (λn m=>Ve _ (Vd _ (ZlX i f j n m))) (by grind) (λid b=>Zfd d D.fz id (c id b)) c (λid b=>Ve _ b) S;exact⟨x,_,F,v,rfl,G,⟨⟨K,L,λt Q=>C.ks t (Ve _ (Ve _ Q))⟩,rfl,λid b=>M id (Ve _ b)⟩,N⟩
theorem SR.kept{s:AS}{w:World}{g:Gh}{ow:Nat->Nat->Prop}{a:Act}(b:SR E B s w g ow a){e:WZ}(d:Gy s e.kept=Uc):SR (Wv E e) B {s with fz:=Z6 s e} w g ow a:=
 ⟨b.rh,b.fr,b.nt,b.df,b.ids,λid c=>Zfd d b.fz id c⟩
theorem Z4.kept(h:Z4 P E)(e:WZ):Z4 P (Wv E e):=⟨h.ty,h.mty,h.pk,h.pz,h.bd⟩
theorem JI.kept(h:JI P E B)(e:WZ):JI P (Wv E e) B:=⟨h.ok,h.amb,h.pl,h.inl⟩
theorem Zcn{c:Code}{Q:Exit->Act->World->Prop}(Inv:Nat->Act->World->Prop){n:Nat}{a:Act}{w:World}(j:Inv n a w)
 (round:∀n a w,Inv n a w->c.wp P (Exit.then (λd w' =>∃m,m<n/\Inv m d w') Q) a w):(Code.loop c).wp P Q a w:=by
 classical
 have b:∀a w,(∃n,Inv n a w)->∃n,Inv n a w/\∀m,Inv m a w->n<=m:=by
  intro a w ⟨n,p⟩
  induction n using Nat.strongRecOn with
  |_ n q=>
   grind
 refine wp_loop (λa w=>∃n,Inv n a w) (λa w=>if h:∃n,Inv n a w then(b a w h).choose else 0) ⟨n,j⟩ λa w k=>?_;have f:=(b a w k).choose_spec;refine wp_mono (round _ a w f.1) λe d w' l=>?_
 cases e with
 |normal=>
  have ⟨m,o,i⟩:=l;refine⟨⟨m,i⟩,?_⟩;simp [dif_pos (show∃n,Inv n d w' from ⟨m,i⟩)]
  grind
 |_=>assumption
theorem ZiW{σ τ:Type}{step:σ->Option (σ ⊕ τ)}{s:σ}{r:τ}(h:run step s=Ua r):∃n,Jq step n s=Ua r:=by
 unfold run at h;split at h
 ·grind
 split at h
 all_goals grind
theorem Zv1{it id:Nat}{s:AS}{a b:Ty}{rest:List (El a×El b)}{cur:Option (El a×El b)}(c:s.F it=.ptr id [])(d:s.H id=Ua (.rng a b rest cur)):Rj it s=bif rest.isEmpty then 1 else rest.length:=by unfold Rj;grind
theorem ZnF(it:Nat)(s:AS):0<Rj it s:=by unfold Rj;grind
theorem ZuH(hT:Z4 P E)(hS:JI P E B){ops:Array Oper}{s:AS}{w:World}{g:Gh}{ow:Nat->Nat->Prop}{a:Act}(m:SR E B s w g ow a){id it:Nat}{ρ:Type}{k:AS->Option ρ}
 (h:∀i,i<Rj it s->∃r,ZaO E ops it i ρ s k=Ua r):
 (Vba id ops Ud).wp P (λe T w' =>∃i s' R G r,i<Rj it s/\e=.normal/\SR E B s' w' R G T/\Ln E s w g a s' w' R T/\ZaO E ops it i ρ s k=Ua r/\k s' =Ua r) a w:=by
 obtain⟨r0,f⟩:=h 0 (ZnF it s);have a4:=f;unfold ZaO at f;split at f
 ·grind
 ·rename_i o i0 l hz;have O:ops[0]? =Ua o/\i0=0:=by
   have:ops.toList.zipIdx[0]? =Ua (o,i0):=by grind
   grind
  obtain⟨a2,rfl⟩:=O;split at f
  ·rename_i D d N a1 z
   cases Z:(Vg D it&&YW E (Ua d)) with
   |false=>grind
   |true=>
    rw[Z]at f;simp only[Vb]at Z;obtain⟨C,K⟩:=Z;have C:=Vc C;subst C;split at f
    ·rename_i rid W;split at f
     ·rename_i kt vt rest cur X;have step:∃i v val w' H1,i<Rj D s/\(execOp a.eval o).run P w=.ok (.value val) w' /\RH B H1 w' g ow/\Kq g.I w w' /\VR w' g v val/\(∀id∈s.fz,H1 id=s.H id)/\
       ZaO E ops D i ρ s k=YP E ops s.nx s.fz ρ l (Jb s.F (Ua d) v) H1 [] λF H _=>k ⟨F,H,s.nx+ops.size*E.stp,s.fz⟩:=by
       have hm:KT rid s.fz=false:=by grind
       cases rest with
       |nil=>
        obtain⟨y,U⟩:=Zmy (P:=P) m.rh m.fr N W X;refine⟨0,_,_,w,s.H,ZnF _ _,y,m.rh,λ_ _=>rfl,U,by simp,?_⟩
        grind
       |cons e0 r0=>
        obtain⟨i,kv,val,w',y,U,V,h4,h5,h6⟩:=ZuL m.rh m.fr N W X (by simp);refine⟨i,_,val,w',_,by rw[Zv1 W X];grind,V,h4,h5,h6,?_,?_⟩
        ·intro id c;refine Ky λe=>?_;subst e;rw[JQ.2 c]at hm;grind
        ·unfold ZaO;grind
      obtain⟨i,v,val,w',H1,hi,Q,Y,J,hv,M,hK⟩:=step;obtain⟨r,hr⟩:=h i hi;rw[hK]at hr;obtain⟨F',H',a6,A,hk⟩:=Zec hr;have x:(l.map Vw).Nodup/\(∀p∈l,ops[p.2]? =Ua p.1)/\Vt ops.size=0::l.map Vw:=by
       have y:ops.toList.zipIdx.map Vw=0::l.map Vw:=by grind
       rw[Zjr]at y;refine⟨?_,λp hp=>?_,y⟩
       ·have:=Vm (n:=ops.size);grind
       grind
      have a0:=A.ex x.1 x.2.1 (λ_ _=>rfl);have a5:0 ∉ l.map Vw:=by have:=Vm (n:=ops.size);grind
      refine wp_region ?_;rw[x.2.2,wpOps_cons];unfold wpOp;rw[a2];simp only;rw[Zjj (ops:=ops) (b:=true) m.fr (by simp [Y2,a1])];simp only[if_true];refine .inl ?_;unfold Oper.wp;rw[Q];have L:∀e,o.dst=Ua e->e<a.tmps.size:=λe S=>by rw[z]at S;cases S;rw[m.nt];exact(Zfs K).1
      have hI:RI E B s.nx (λ_=>False) (Jb s.F (Ua d) v) H1 w' (a.put o.dst val) g ow (λj=>j=0):=⟨Y,by have:=(m.fr.mono J (.refl g)).put (d:=o.dst) hv L;grind,ZiF.trans m.nt,ZiD.trans m.df,λid c=>.inl (.inl (m.ids id c))⟩
      refine Zjm hT hS a0 x.1 (by grind) (by simp) hI λT w2 R G q hl=>?_;refine⟨i,⟨F',H',s.nx+ops.size*E.stp,s.fz⟩,R,G,r,hi,rfl,⟨q.rh,q.fr,q.nt,q.df,λid c=>?_,λid c=>?_⟩,⟨⟨hl.le,J.trans hl.ag λ_ h=>h,λt ht=>?_⟩,rfl,λid c=>?_⟩,hK.trans hr,hk⟩
      ·rcases q.ids id c with (y|y) |⟨j,y,U,V⟩
       ·grind
       ·grind
       ·have hj:j<ops.size:=by grind
        exact ZiO hj V
      ·exact(Zdk ((A.keptH id c).trans (M id c))).trans (m.fz id c)
      ·rw[hl.ks t ht,z];refine ZiE λe S a3=>?_;cases S;exact(Zfs K).2 (a3▸ht)
      ·exact(A.keptH id c).trans (M id c)
     grind
    grind
  grind
theorem Zk1{σ τ ρ:Type}{cnt:σ->Nat}{step:σ->Nat->Option (σ ⊕ τ)}{k:τ->Option ρ}{s:σ}{z:ρ}(h:drun cnt step k s=Ua z):∃n,HA cnt step k z n s:=by
 have a:∀(n:Nat) (s:σ) (z:ρ),ZcS cnt step k n s=Ua z->HA cnt step k z n s:=by
  intro n
  induction n with
  |zero=>intro s z h;simp [ZcS]at h
  |succ n e=>
   intro s z h i d;simp [ZcS]at h
   cases b:Vka (cnt s) 1 with
   |false=>grind
   |true=>
    have c:=Vy b;grind
 unfold drun at h;split at h
 ·grind
 split at h
 all_goals grind
theorem Zsf{n:Nat}{E:Z9}{ρ:Type}{s:AS}{go:AS->Option ρ}{r:ρ}(h:Zhn n s go=Ua r){w:World}{g:Gh}{ow:Nat->Nat->Prop}{a:Act}(d:SR E B s w g ow a):
 ∃z A x,go z=Ua r/\SR E B z w A x a/\Ln E s w g a z w A a:=by
 unfold Zhn at h;split at h
 ·rename_i id ver U k Q
  cases t:KT id s.fz with
  |true=>rw[t]at h;cases h
  |false=>
  rw[t]at h;simp only[Ze,Zy.runK_eq]at h;rw[Va]at h;obtain⟨⟨F,V⟩,J,h⟩:=h;rw[Va]at h;obtain⟨⟨o,W⟩,L,h⟩:=h;have v:=d.fr n;rw[Q]at v;have m:¬g.K s.nx:=λO=>Nat.lt_irrefl _ (d.ids _ O);obtain⟨G,y,C,l,T,N,S,R,q⟩:=Zof d.rh v J L m;have j:∀i∈s.fz,i≠id/\i≠s.nx:=λi c=>by
   refine⟨λe=>?_,λe=>?_⟩
   ·subst e;rw[JQ.2 c]at t;cases t
   ·subst e;have:=d.fz _ c;unfold XG at this
    cases D:s.H s.nx with
    |none=>rw[D]at this;cases this
    |some o=>exact m (d.rh.objs _ _ D).1
  have b:∀i∈s.fz,Z0 (Z0 s.H id (Ua o)) s.nx (Ua (.vec F.1 F.2)) i=s.H i:=λi c=>by rw[Ky (j i c).2,Ky (j i c).1]
  refine⟨_,G,y,h,⟨C,?_,d.nt,d.df,λi c=>?_,λi c=>?_⟩,⟨⟨l,λ_ _=>rfl,λ_ _=>rfl⟩,rfl,b⟩⟩
  ·have M:=d.fr.mono (λ_ _=>rfl) l;refine M.upd ?_;have f:(a.tmps.getD n undef).oneCell'=true:=v.nw.2.2.1;refine KN ?_ f rfl;have p:=(C.objs s.nx _ XL).1;exact⟨p,by rw[q],by rw[q];exact f⟩
  ·rcases N i c with h|h
   ·exact Nat.lt_succ_of_lt (d.ids i h)
   ·subst h;exact Vp _
  ·rw[Zdk (b i c)];exact d.fz i c
 ·cases h
theorem Zsg{hint:K7}{E:Z9}{ρ:Type}{s:AS}{go:AS->Option ρ}{r:ρ}(h:Zho hint s go=Ua r){w:World}{g:Gh}{ow:Nat->Nat->Prop}{a:Act}(e:SR E B s w g ow a):
 ∃c d b,go c=Ua r/\SR E B c w d b a/\Ln E s w g a c w d a:=by
 unfold Zho at h;split at h
 ·exact⟨s,g,ow,h,e,.refl s w g a⟩
 ·exact Zsf h e
theorem WD(R:P.follows .mixedOrders=Uc):∀(c:Code) (h:K7) (E:Z9) (ρ:Type) (s:AS) (k:Ex->AS->Option ρ) (r:ρ),Z4 P E->JI P E B->Ko c h E ρ s k=Ua r->
 ∀{w:World}{g:Gh}{ow:Nat->Nat->Prop}{a:Act},SR E B s w g ow a->c.wp P (Wz E B s w g a k r) a w
 |.skip,_,E,ρ,s,k,r,_,_,h,w,g,ow,a,b=>by
  simp only[Ko]at h
  exact wp_skip ⟨.normal,s,g,ow,rfl,b,.refl s w g a,h⟩
 |.region id ops draw,d,E,ρ,s,k,r,K,G,h,w,g,ow,a,b=>by
  simp only[Ko]at h;refine wp_mono (ZvM R K G b h) ?_;rintro e O Q ⟨s',D,f,rfl,v,p,j⟩
  exact⟨.normal,s',D,f,rfl,v,p,j⟩
 |.seq x y,d,E,ρ,s,k,r,K,G,h,w,g,ow,a,b=>by
  simp only[Ko]at h;obtain⟨s0,g0,c6,h,b,b6⟩:=Zsg h b;refine wp_seq (wp_mono (WD R x d.l E ρ s0 _ r K G h b) ?_);rintro e O Q ⟨ex,s',D,f,rfl,v,p,j⟩;have p:=b6.trans p
  cases ex with
  |normal=>
   refine wp_mono (WD R y d.r E ρ s' k r K G j v) ?_;rintro e a2 w2 ⟨b4,s2,g2,M,rfl,U,h5,h6⟩
   exact⟨b4,s2,g2,M,rfl,U,p.trans h5,h6⟩
  |exit id=>exact⟨.exit id,s',D,f,rfl,v,p,j⟩
  |ret=>exact⟨.ret,s',D,f,rfl,v,p,j⟩
  |jump l=>exact⟨.jump l,s',D,f,rfl,v,p,j⟩
 |.cond c x y,d,E,ρ,s,k,r,K,G,h,w,g,ow,a,b=>by
  simp only[Ko]at h;split at h
  ·rename_i t ht;have hv:=b.fr.eval c;rw[ht]at hv;refine wp_cond hv.bool ?_
   cases hj:d.join with
   |none=>
    rw[hj]at h
    cases t with
    |true=>exact WD R x d.l E ρ s k r K G h b
    |false=>exact WD R y d.r E ρ s k r K G h b
   |some eJ=>
    obtain⟨e,J⟩:=eJ;rw[hj]at h;simp only at h
    cases N:(Gy s e.kept&&Gx e J) with
    |false=>grind
    |true=>
     rw[N]at h;simp only[Zd]at h;simp only[Vb]at N;rw[Va]at h;obtain⟨o,Y,hu⟩:=h;have fin:∀(z:Code) (T:K7),Ko z T (Wv E e) (YH J) {s with fz:=Z6 s e} (Yy s (Z6 s e) J)=Ua o->(∀{w:World}{g:Gh}{ow:Nat->Nat->Prop}{a:Act},SR (Wv E e) B {s with fz:=Z6 s e} w g ow a->z.wp P (Wz (Wv E e) B {s with fz:=Z6 s e} w g a (Yy s (Z6 s e) J) o) a w)->z.wp P (Wz E B s w g a k r) a w:=by intro z T _ ih;refine wp_mono (ih (b.kept N.1)) ?_;rintro e' O Q ⟨ex,s',D,f,rfl,v,p,j⟩;exact Wz.out b N.1 N.2 p.lk v p.hz j hu
     cases t with
     |true=>exact fin x d.l Y (WD R x d.l (Wv E e) _ _ _ o (K.kept e) (G.kept e) Y)
     |false=>exact fin y d.r Y (WD R y d.r (Wv E e) _ _ _ o (K.kept e) (G.kept e) Y)
  grind
 |.block id c,d,E,ρ,s,k,r,K,G,h,w,g,ow,a,b=>by
  simp only[Ko]at h;refine wp_block (wp_mono (WD R c d E ρ s _ r K G h b) ?_);rintro e O Q ⟨ex,s',D,f,rfl,v,p,j⟩
  cases ex with
  |normal=>exact⟨.normal,s',D,f,rfl,v,p,j⟩
  |exit i=>
   simp only at j;simp only[ZbC,Exit.inBlock]
   cases W:Vg i id with
   |true=>
    rw[W]at j;rw[Zn (Vc W)]
    exact⟨.normal,s',D,f,rfl,v,p,j⟩
   |false=>
    rw[W]at j;rw[Zg λe=>by simp_all]
    exact⟨.exit i,s',D,f,rfl,v,p,j⟩
  |ret=>exact⟨.ret,s',D,f,rfl,v,p,j⟩
  |jump l=>exact⟨.jump l,s',D,f,rfl,v,p,j⟩
 |.loop c,d,E,ρ,s,k,r,K,G,h,w,g,ow,a,b=>by
  cases d with
  |all n=>
   simp only[Ko]at h;refine Zcn (λm O Q=>∃s' D f,Zf6 (λs k=>Ko c (.all n) E ρ s k) k m s' =Ua r/\SR E B s' Q D f O/\Ln E s w g a s' Q D O) (n:=n) ⟨s,g,ow,h,b,.refl s w g a⟩ ?_;rintro m O Q ⟨s',D,f,A,S,a4⟩
   cases m with
   |zero=>simp [Zf6]at A
   |succ m=>
    refine wp_mono (WD R c (.all n) E ρ s' _ r K G A S) ?_;rintro e a2 w2 ⟨ex,s2,g2,M,rfl,v,p,j⟩
    cases ex with
    |normal=>exact⟨m,Vp m,s2,g2,M,j,v,a4.trans p⟩
    |exit i=>exact⟨.exit i,s2,g2,M,rfl,v,a4.trans p,j⟩
    |ret=>exact⟨.ret,s2,g2,M,rfl,v,a4.trans p,j⟩
    |jump l=>exact⟨.jump l,s2,g2,M,rfl,v,a4.trans p,j⟩
  |lp en J W=>
   simp only[Ko]at h
   cases N:(Gy s en.kept&&Gx en J&&GD en.slots) with
   |false=>grind
   |true=>
    rw[N]at h;simp only[Zd,Va]at h;simp only[Vb]at N;obtain⟨x,hx,o,Z,hu⟩:=h;obtain⟨n,L⟩:=ZiW Z;have C:∀id∈Z6 s en,id∈Z6 s en:=λ_ h=>h;have V:=Zfd N.1.1 b.fz;have start:=Zb1 (E:=Wv E en) (E' :=Wv E en) (s' :=s) (fz0:=Z6 s en) (fzN:=Z6 s en) ⟨b.rh,b.fr,b.nt,b.df,b.ids,b.fz⟩ ⟨b.rh,b.fr,b.nt,b.df,b.ids,b.fz⟩ rfl (.refl w g a) (λn L=>Vd _ L) (λn L=>Ve _ (Vd _ L)) (by simp) V C C hx;obtain⟨g1,a8,s1,a7,_,b9⟩:=start
    refine Zcn (λn O Q=>∃y D f,Jq (λy=>Ko c W (Wv E en) (Jn en.roots ⊕ YH J) (Xn s (Z6 s en) en y) λe s' =>match e with
     |.normal=>(XY s (Z6 s en) en s').bind λz=>Ua (.inl z)
     |e=>(Yy s (Z6 s en) J e s').bind λz=>Ua (.inr z)) n y=Ua o/\SR (Wv E en) B (Xn s (Z6 s en) en y) Q D f O/\Lk (Wv E en) w g a Q D O) (n:=n) ⟨x,g1,a8,L,s1,⟨a7,by omega,by simp⟩⟩ ?_
    rintro n O Q ⟨y,D,f,A,S,a1⟩;have a0:∀id∈Z6 s en,(Xn s (Z6 s en) en y).H id=s.H id:=λid F=>Ze6 F
    cases n with
    |zero=>simp [Jq]at A
    |succ n=>
     simp only[Jq]at A;split at A
     ·rename_i y' a6;refine wp_mono (WD R c W (Wv E en) _ _ _ _ (K.kept en) (G.kept en) a6 S) ?_;rintro e a2 w2 ⟨ex,s2,g2,M,rfl,v,p,j⟩
      cases ex with
      |normal=>
       simp only[Va,ZL,Vla]at j;obtain⟨z,T,rfl⟩:=j;have X:=a1.trans p.lk;obtain⟨g3,b1,s3,c4,b2,_⟩:=Zb1 (E:=Wv E en) (E' :=Wv E en) (s:=s) (fz0:=Z6 s en) (fzN:=Z6 s en) ⟨b.rh,b.fr,b.nt,b.df,b.ids,b.fz⟩ v rfl X (λn L=>Vd _ L) (λn L=>Ve _ (Vd _ L)) (λid F=>(p.hz id F).trans (a0 id F)) V C C T
       exact⟨n,Vp n,z,g3,b1,A,s3,⟨c4,b2,X.ks⟩⟩
      |exit i=>simp only[Va,ZL,reduceCtorEq,ZU,exists_false]at j
      |ret=>simp only[Va,ZL,reduceCtorEq,ZU,exists_false]at j
      |jump i=>simp only[Va,ZL,reduceCtorEq,ZU,exists_false]at j
     ·rename_i o' a6;simp only[ZL]at A;subst A;refine wp_mono (WD R c W (Wv E en) _ _ _ _ (K.kept en) (G.kept en) a6 S) ?_;rintro e a2 w2 ⟨ex,s2,g2,M,rfl,v,p,j⟩;have fin:∀x:Ex,x≠ .normal->Yy s (Z6 s en) J x s2=Ua o' ->Wz E B s w g a k r (ZbC x) a2 w2:=λx _ Y=>
       Wz.out b N.1.1 N.1.2 (a1.trans p.lk) v (λid F=>(p.hz id F).trans (a0 id F)) Y hu
      cases ex with
      |normal=>simp only[Va,ZL,reduceCtorEq,ZU,exists_false]at j
      |exit i=>
       simp only[Va,ZL,Vs]at j;obtain⟨z,T,rfl⟩:=j
       exact fin (.exit i) (by simp) T
      |ret=>
       simp only[Va,ZL,Vs]at j;obtain⟨z,T,rfl⟩:=j
       exact fin .ret (by simp) T
      |jump i=>
       simp only[Va,ZL,Vs]at j;obtain⟨z,T,rfl⟩:=j;exact fin (.jump i) (by simp) T
     grind
  |lpd it en J W=>
   cases c with
   |seq c1 c2=>
    cases c1 with
    |region id ops draw=>
     cases draw with
     |true=>simp [Ko]at h
     |false=>
      simp only[Ko]at h
      cases N:(Gy s en.kept&&Gx en J&&GD en.slots) with
      |false=>grind
      |true=>
       rw[N]at h;simp only[Zd,Va]at h;simp only[Vb]at N;obtain⟨x,hx,Z⟩:=h;obtain⟨n,L⟩:=Zk1 Z;have C:∀id∈Z6 s en,id∈Z6 s en:=λ_ h=>h;have V:=Zfd N.1.1 b.fz;have start:=Zb1 (E:=Wv E en) (E' :=Wv E en) (s' :=s) (fz0:=Z6 s en) (fzN:=Z6 s en) ⟨b.rh,b.fr,b.nt,b.df,b.ids,b.fz⟩ ⟨b.rh,b.fr,b.nt,b.df,b.ids,b.fz⟩ rfl (.refl w g a) (λn L=>Vd _ L) (λn L=>Ve _ (Vd _ L)) (by simp) V C C hx;obtain⟨g1,a8,s1,a7,_,b9⟩:=start
       refine Zcn (λn O Q=>∃y D f,HA (λy=>Rj it (Xn s (Z6 s en) en y)) (λy i=>ZaO (Wv E en) ops it i (Jn en.roots ⊕ YH J) (Xn s (Z6 s en) en y) λs1=>Ko c2 W (Wv E en) (Jn en.roots ⊕ YH J) s1 λe s' =>match e with
        |.normal=>(XY s (Z6 s en) en s').bind λz=>Ua (.inl z)
        |e=>(Yy s (Z6 s en) J e s').bind λz=>Ua (.inr z)) (λo=>Rr s J o k) r n y/\SR (Wv E en) B (Xn s (Z6 s en) en y) Q D f O/\Lk (Wv E en) w g a Q D O) (n:=n) ⟨x,g1,a8,L,s1,⟨a7,by omega,by simp⟩⟩ ?_
       rintro n O Q ⟨y,D,f,A,S,a1⟩;have a0:∀id∈Z6 s en,(Xn s (Z6 s en) en y).H id=s.H id:=λid F=>Ze6 F
       cases n with
       |zero=>exact A.elim
       |succ n=>
        simp only[HA]at A
        have b7:=ZuH (id:=id) (it:=it) (ops:=ops) (k:=λs1=>Ko c2 W (Wv E en) (Jn en.roots ⊕ YH J) s1 λe s' =>match e with
         |.normal=>(XY s (Z6 s en) en s').bind λz=>Ua (.inl z)
         |e=>(Yy s (Z6 s en) J e s').bind λz=>Ua (.inr z)) (K.kept en) (G.kept en) S (by grind)
        refine wp_seq (wp_mono b7 ?_);rintro e a2 w2 ⟨i,s2,g2,M,q,hi,rfl,b8,X,hq,b5⟩;simp only[Exit.then];refine wp_mono (WD R c2 W (Wv E en) _ _ _ _ (K.kept en) (G.kept en) b5 b8) ?_;rintro e a3 w3 ⟨ex,s3,g3,b1,rfl,v,p,j⟩;have a5:=a1.trans (X.lk.trans p.lk);have b0:∀id∈Z6 s en,s3.H id=s.H id:=λid F=>((X.trans p).hz id F).trans (a0 id F);have fin:∀x:Ex,x≠ .normal->(Yy s (Z6 s en) J x s3).bind (λz=>Ua (.inr z))=Ua q->Wz E B s w g a k r (ZbC x) a3 w3:=λx _ Y=>by
         rw[Va]at Y;obtain⟨z,Y,a9⟩:=Y;simp only[ZL]at a9;subst a9;rcases A i hi with ⟨y',U,_⟩|⟨t,U,h5⟩
         ·grind
         ·rw[hq]at U;simp only[ZL,Vs]at U;subst U;exact Wz.out b N.1.1 N.1.2 a5 v b0 Y h5
        cases ex with
        |normal=>
         simp only[Va,ZL]at j;obtain⟨z,T,rfl⟩:=j;obtain⟨g4,c5,s4,le4,b3,_⟩:=Zb1 (E:=Wv E en) (E' :=Wv E en) (s:=s) (fz0:=Z6 s en) (fzN:=Z6 s en) ⟨b.rh,b.fr,b.nt,b.df,b.ids,b.fz⟩ v rfl a5 (λn L=>Vd _ L) (λn L=>Ve _ (Vd _ L)) b0 V C C T;rcases A i hi with ⟨y',U,h5⟩|⟨t,U,_⟩
         ·rw[hq]at U;simp only[ZL,Vla]at U;subst U;exact⟨n,Vp n,z,g4,c5,h5,s4,⟨le4,b3,a5.ks⟩⟩
         grind
        |exit i=>exact fin (.exit i) (by simp) j
        |ret=>exact fin .ret (by simp) j
        |jump i=>exact fin (.jump i) (by simp) j
    |_=>simp [Ko]at h
   |_=>simp [Ko]at h
  |_=>simp [Ko]at h
 |.exit id,_,E,ρ,s,k,r,_,_,h,w,g,ow,a,b=>by
  simp only[Ko]at h
  exact wp_exit ⟨.exit id,s,g,ow,rfl,b,.refl s w g a,h⟩
 |.ret,_,E,ρ,s,k,r,_,_,h,w,g,ow,a,b=>by
  simp only[Ko]at h
  exact wp_ret ⟨.ret,s,g,ow,rfl,b,.refl s w g a,h⟩
 |.label _,_,E,ρ,s,k,r,_,_,h,w,g,ow,a,b=>by
  simp only[Ko]at h
  exact wp_label ⟨.normal,s,g,ow,rfl,b,.refl s w g a,h⟩
 |.goto l,_,E,ρ,s,k,r,_,_,h,w,g,ow,a,b=>by
  simp only[Ko]at h
  exact wp_goto ⟨.jump l,s,g,ow,rfl,b,.refl s w g a,h⟩
 |.refuse _,_,_,_,_,_,_,_,_,h,_,_,_,_,_=>by simp [Ko]at h
 |.scope c,d,E,ρ,s,k,r,K,G,h,w,g,ow,a,b=>by
  simp only[Ko]at h;refine wp_scope_straight (wp_mono (WD R c d E ρ s _ r K G h b) ?_);rintro e O Q ⟨ex,s',D,f,rfl,v,p,j⟩
  cases ex with
  |jump l=>grind
  |normal=>exact⟨.normal,s',D,f,rfl,v,p,j⟩
  |exit i=>exact⟨.exit i,s',D,f,rfl,v,p,j⟩
  |ret=>exact⟨.ret,s',D,f,rfl,v,p,j⟩
 |.rangeFunc ..,_,_,_,_,_,_,_,_,h,_,_,_,_,_=>by simp [Ko]at h
end
end Tr
end
section
namespace Tr
open Go
def VLs(w:World)(g:Gh):Zo->List Value->Prop
 |.nil,vs=>vs=[]
 |.cons a l,vs=>∃v r,vs=v::r/\VR w g a v/\VLs w g l r
section
variable {P:Program}{E:Z9}{B:Z1}{H:AH}{w:World}{g:Gh}{ow:Nat->Nat->Prop}{I:Nat->Prop}
theorem ZhC(i:RH B H w g ow)(q:∀b,g.I b->I b):∀(pl:Pats) (v:Zo) (a:List Value) (x:Kw pl) (ids:ZE) (l n:List Nat),(WK pl v).run H l=Ua ((x,ids),n)->VLs w g v a->(∀b,ZP H ow ids.br b->I b)->
 ids.tk.Nodup->∃js,JA w I pl x js a/\js.Nodup/\∀b∈js,ZP H ow ids.tk b
 |.nil,.nil,a,x,ids,l,n,h,k,f,_=>by
  simp only[WK,Zj,Vo]at h;obtain⟨⟨_,rfl⟩,_⟩:=h
  exact⟨[],⟨rfl,k⟩,.nil,by simp⟩
 |.cons p pl,.cons v vs,a,x,ids,l,n,h,k,f,N=>by
  simp only[WK,Z2,Zj,Vo]at h;obtain⟨⟨X,O⟩,U,z,⟨S,s⟩,V,D,⟨rfl,rfl⟩,_⟩:=h;obtain⟨u,r,rfl,F,G⟩:=k;have m:(O.tk++s.tk).Nodup:=N;obtain⟨Q,R,W⟩:=Vf.1 m;obtain⟨t,J,K,o⟩:=ZhD i q z F (λb c=>f b (Ww (λ_ h=>by simp [ZE.app,h]) c)) Q;obtain⟨y,L,M,d⟩:=ZhC i q pl vs r S s _ _ D G (λb c=>f b (Ww (λ_ h=>by simp [ZE.app,h]) c)) R;refine⟨t++y,⟨t,y,u,r,rfl,rfl,J,L⟩,Vf.2 ⟨K,M,λb c T j e=>?_⟩,λb c=>?_⟩
  ·subst e;obtain⟨id,A,C⟩:=Ht i (o b c) (d b j);grind
  ·rcases Vh.1 c with c|c
   ·exact Ww (λ_ h=>by simp [ZE.app,h]) (o b c)
   ·exact Ww (λ_ h=>by simp [ZE.app,h]) (d b c)
 |.nil,.cons _ _,_,_,_,_,_,h,_,_,_=>by simp [WK,Zb]at h
 |.cons _ _,.nil,_,_,_,_,_,h,_,_,_=>by simp [WK,Zb]at h
def Zdv(tmps:Array Value):ResultVar->Sem Value
 |.tmp t=>pure (tmps.getD t undef)
 |.cell c t=>do loadVar t (<-asAddr (tmps.getD c undef))
theorem Zdu(K:Z4 P E){s:AS}{a:Act}(J:RH B s.H w g ow)(hF:Fr w g s.F a.tmps):∀(l:List ResultVar) (vs:Zo) (k n:List Nat),(ZaU E s l).run s.H k=Ua (vs,n)->
 ∃d,(l.mapM (Zdv a.tmps)).run P w=.ok d w/\VLs w g vs d
 |[],vs,k,n,h=>by
  simp only[ZaU,Zj]at h;obtain⟨rfl,_⟩:=h
  exact⟨[],rfl,rfl⟩
 |.tmp t::l,vs,k,n,h=>by
  simp only[ZaU,Z2,Zj]at h;obtain⟨ws,m,o,rfl,_⟩:=h;obtain⟨d,j,G⟩:=Zdu K J hF l ws k m o;refine⟨a.tmps.getD t undef::d,?_,_,_,rfl,hF t,G⟩;rw[Vfa]
  simp only[Zdv,Vu,Vv,Vl,j]
 |.cell c T::l,vs,k,n,h=>by
  simp only[ZaU,ZA]at h;obtain⟨t,ht,h⟩:=h;split at h
  ·rename_i id p hc;rw[Z3]at h;split at h
   ·rename_i t0 ct Z;simp only[Z2,ZO,Zj,Zb,ZU,Ka,Vb]at h;obtain⟨v,m,o,⟨j,D⟩,ws,m2,G,rfl,_⟩:=h;obtain⟨d,V,W⟩:=Zdu K J hF l ws m m2 G;have Q:=hF c;rw[hc]at Q;obtain⟨hk,o',t1,b,N,X,Y⟩:=Q.ptr;obtain⟨_,L,hf,b',cs,e,O,R,q,S,r⟩:=J.objs id _ Z;obtain⟨_,t2,M,⟨o2,pre,post,x,y,z⟩,U,i⟩:=Ze3 o hf r;rw[L,x]at N;obtain⟨rfl,rfl⟩:=Prod.mk.inj (KO N);rw[X]at O;cases O;obtain⟨A,C⟩:=Zcv i j (ZeW j D);have f:Y7 w b o2 M:=by rw[<-z];exact Y7.of_heap q y
    refine⟨_::d,?_,_,_,rfl,.of1 A,W⟩;rw[Vfa];simp only[Zdv,Vu,Vv,Vl,Y,asAddr,ZiU (K.ty T t ht) f (CV.length v t M j i) C,V]
   ·simp [Zb]at h
  ·simp [Zb]at h
theorem ZiV{fn:Func}{tmps:Array Value}{a:List Value}(h:(fn.results.toList.mapM (Zdv tmps)).run P w=.ok a w):
 (results fn tmps).run P w=.ok (Rp a) w:=by
 have b:results fn tmps=(do let vs<-fn.results.mapM (Zdv tmps);pure (if h:vs.size=1 then vs[0] else .tuple vs)):=by rfl
 rw[b,Array.mapM_eq_mapM_toList];simp only[Vu,map_eq_pure_bind,Vv,h,Vl];congr 1
 cases a with
 |nil=>rfl
 |cons v l=>cases l with
  |nil=>rfl
  |cons u l=>rfl
theorem ZfZ{b:List Value}:∀{l:Zo},W8 w g l b->∀(n:Nat) t,VR w g (l.toF t) ((b++Vga n undef).getD t undef)
 |.nil,h,n,t=>by
  simp only[W8]at h;subst h;have:([]++Vga n undef).getD t undef=undef:=by grind
  rw[this]
  exact⟨[],rfl,rfl⟩
 |.cons a l,h,n,t=>by
  obtain⟨v,r,rfl,c,d⟩:=h
  cases t with
  |zero=>exact .of1 c
  |succ t=>simpa [Zo.toF] using ZfZ d n t
theorem Zgt:∀{pl:Pats}{x:Kw pl}{js:List Nat}{a:List Value},JA w I pl x js a->a.length=pl.len
 |.nil,_,_,_,h=>by obtain⟨_,rfl⟩:=h;rfl
 |.cons _ _,_,_,_,h=>by obtain⟨_,_,v,r,_,rfl,_,b⟩:=h;simp [Pats.len,Zgt b]
theorem Zh6{B0:Z1}{W:AH}{s:AS}{ks:List Nat}{w0 w:World}{g0 g:Gh}{V ow:Nat->Nat->Prop}{B:Z1}(o:RH B0 W w0 g0 V)(hR:RH B s.H w g ow){X:Zo}{d:List Value}(hv:W8 w0 g0 X d)(z:g0.Le g)(hF:∀n∈ks,∀v,d[n]? =Ua v->VR w g (s.F n) v):∀(kp:List (Nat×Nat×Nat)),G1 ks X W s kp=Uc->DY kp d w0 w
 |[],_=>λk hk=>by grind
 |k::kp,h=>by
  simp only[G1,Vb]at h;obtain⟨m,h2⟩:=h;intro i Q;rcases Vi.1 Q with rfl|Q
  ·intro b p cs e N;split at m
   case h_2=>grind
   rename_i id U hs R;split at m
   case h_2=>grind
   rename_i T c T' c' J hH;split at m
   case h_2=>grind
   rename_i a a' ho hn;simp only[Vb,Ki]at m;obtain⟨⟨⟨h3,rfl⟩,G⟩,h5⟩:=m;obtain rfl:=Vc h3;have G:=Vc G;obtain⟨a1,_,x,b1,a0,e1,L,_,f,_,j⟩:=o.objs id _ J;obtain⟨_,_,y,b2,D,e2,M,_,O,_,l⟩:=hR.objs U _ hH;obtain⟨u,A,S⟩:=Zgz _ _ _ _ hv hs;obtain⟨_,b3,q,rfl⟩:=Znf S;rw[A]at p;have p:=KO p;simp only[Vma.injEq,ZL,Addr.mk.injEq,and_true]at p;subst p;rw[L]at q;obtain rfl:=KO q;have C:=hF _ (JQ.1 h5) _ A;rw[R]at C;obtain⟨_,o2,t2,b4,h6,Y,Z⟩:=C.ptr;simp only[Vma.injEq,ZL,Addr.mk.injEq]at Z;rw[M]at Y;obtain rfl:=KO Y;obtain rfl:=Z.1;rw[N]at f;have f:=KO f;cases f;simp only[AV.fits]at x y;simp only[CV]at j l;obtain⟨K,t⟩:=ZbU c _ _ _ _ x j ho;obtain⟨_,r⟩:=ZbU c' _ _ _ _ y l hn;rw[Vj,G]at t r;exact⟨D,e2,O,by rw[t,r,z.slv _ K]⟩
  ·exact Zh6 o hR hv z hF kp h2 i Q
theorem ZsK(hm:P.follows .mixedOrders=Uc)(N:Z4 P E)(hS:∀f,∀S∈E.specs f,ZT P f S)(hI:∀B:Z1,(B.pl=Ud->Ga P B.w0 B.own0)->(B.pl=Uc->∀f,∀T∈E.specs f,T.pl=Uc)->∀f h,E.inl f=Ua h->ZdW P B E.stp f h){f:FuncId}{fn:Func}{body:Code}(hf:P.funcs[f]? =Ua fn)(j:fn.body=Ua body)(c4:E.nt=fn.ntmps)
 {S:Spec} (b5:S.args.wf=Uc) (V:Vka S.args.len E.nt=Uc) {hint:K7}{pack:Wi S.args×Kw S.res->S.α} (b1:∀y,S.unp (pack y)=y) (Z:S.pl=Uc->∀f,∀T∈E.specs f,T.pl=Uc)
 (o:∀x z,S.f x=Ua z->XV E body fn.results hint S.args S.res pack x S.kp=Ua z):Zba P f S:=by
 intro w I a js x z M a6 b9 a3 amb hz;have c7:=Zgt M;have c2:=Vy V;refine calls_of_wp hf j ?_;have o:=o x z hz;unfold XV at o
 let B:Z1:={w0:=w,own0:=(· ∈js),I0:=I,pl:=S.pl}
 let g0:Gh:={I:=I,K:=λ_=>False,ty:=λ_=>.unit,blk:=λ_=>Ub,slv:=λ_=>undef,ver:=λ_=>0,row:=λ_ _ _=>undef}
 have a4:RH B (λ_=>Ub) w g0 (λ_ _=>False):={
  objs:=by simp
  dist:=by simp
  sep:=by simp
  ilt:=a3
  inew:=by grind
  os:=rfl
  tape:=rfl
  output:=.rfl
  size:=Nat.le_refl _
  kept:=(by grind)}
 have G:W5 B (λ_=>Ub) w g0 (λ_ _=>False) js:=⟨a6,by grind⟩;obtain⟨g1,b6,l1,i1,r1,c1,k1,_⟩:=Ze9 S.args a4 x js a 0 M G (by grind);have b8:WM (Kb S.args x 0).2.1=Zs (λ_=>Ub) (Wh (Kb S.args x 0).2.1):=by funext id;rw[Zdd _ _ _ (Zc9 _ _ _)];grind
 have hs:SR {E with ks:=XR S.args 0} B ⟨(Kb S.args x 0).1.toF,WM (Kb S.args x 0).2.1,(Kb S.args x 0).2.2,[]⟩ w g1 b6 {tmps:=a.toArray++Vx (fn.ntmps - a.toArray.size) undef,defers:=[] }:={
  rh:=by grind
  fr:=λt=>by have:=ZfZ c1 (fn.ntmps - a.length) t;simpa [Vk,List.getD_eq_getElem?_getD,<-Vj] using this
  nt:=by grind
  df:=rfl
  ids:=by grind
  fz:=(by simp)}
 refine wp_mono (WD hm body hint {E with ks:=XR S.args 0} S.α _ _ z ⟨N.ty,N.mty,N.pk,N.pz,N.bd⟩ ⟨hS,amb,Z,hI B amb Z⟩ o hs) ?_;rintro e a' w' ⟨ex,C,g',l,rfl,c,p,J⟩;rw[Va]at J;obtain⟨y,hy,a2⟩:=J
 cases U:G1 (XR S.args 0) (Kb S.args x 0).1 (WM (Kb S.args x 0).2.1) C S.kp with
 |false=>grind
 |true=>
 rw[U]at a2;simp only[Zd,ZL]at a2;have a7:DY S.kp a w w' :=Zh6 hs.rh c.rh c1 p.lk.le (λk J v hv=>by
  have D:=c.fr k;rw[p.lk.ks k J]at D;have r:(a.toArray++Vx (fn.ntmps - a.toArray.size) undef).getD k undef=v:=by obtain⟨a8,_⟩:=List.getElem?_eq_some_iff.1 hv;simp only[Vk,<-Vj];grind
  grind) S.kp U
 have key:∀(d:Ys E fn.results S.args S.res [] .normal C=Ua y),a'.defers=[]/\∃v,(results fn a'.tmps).run P w' =.ok v w' /\∃rv,Ending.returned v=.returned rv/\DT S w I js a (S.unp z) rv w' /\DY S.kp a w w' :=by
  intro d;refine⟨c.df,?_⟩;simp only[Ys,Zy.runK_eq]at d;rw[Va]at d;obtain⟨⟨⟨yv,ids⟩,rd⟩,A,d⟩:=d;simp only[Z2,Zj,Vo]at A;obtain⟨vs,m1,a1,⟨xr,m⟩,m2,R,⟨yo,io⟩,m3,Y,⟨rfl,rfl⟩,_⟩:=A;simp only at d
  cases hc:((ZE.app io m).ok [] &&J7 (ZE.app io m).br []) with
  |false=>grind
  |true=>
   rw[hc]at d;simp only[Zd,ZL]at d;subst d;simp only[Vb]at hc;obtain⟨a9,b7,_⟩:=ZE.ok_iff hc.1;have W:(io.tk++m.tk).Nodup:=a9;obtain⟨n1,n2,n3⟩:=Vf.1 W;obtain⟨q,b2,b3⟩:=Zdu N c.rh c.fr fn.results.toList vs [] m1 a1;have O:∀b,g'.I b->g'.I b\/ZP C.H l (ZE.app io m).br b:=by grind
   have Q:∀(i:ZE),(∀n∈i.br,n∈(ZE.app io m).br)->∀b,ZP C.H l i.br b->g'.I b\/ZP C.H l (ZE.app io m).br b:=λi hi b j=>.inr (Ww hi j);obtain⟨jr,c6,b4,a0⟩:=ZhC c.rh O S.res vs q xr m m1 m2 R b3 (Q m λn L=>by simp [ZE.app,L]) n2;obtain⟨jo,c5,b0,X⟩:=Zfv (F:=C.F) c.rh O (w0:=w) (I0:=I) S.args 0 a x js yo io m2 m3 Y b5 M (λk v J hv=>by
    rw[Nat.add_zero]at J⊢;have D:=c.fr k;rw[p.lk.ks k J]at D;have a8:k<a.length:=by grind
    have r:(a.toArray++Vx (fn.ntmps - a.toArray.size) undef).getD k undef=v:=by simp only[Vk,<-Vj];grind
    grind) (Q io λn L=>by simp [ZE.app,L]) n1
   refine⟨Rp q,ZiV b2,Rp q,rfl,⟨(λb=>g'.I b\/ZP C.H l (ZE.app io m).br b),jo,jr,?_,⟨q,?_,rfl⟩,?_,?_,?_,?_,c.rh.os,c.rh.tape,c.rh.output,c.rh.size,λb D r=>c.rh.kept b D r⟩,a7⟩
   ·grind
   ·grind
   ·refine Vf.2 ⟨b0,b4,λb j b' a5 e=>?_⟩;subst e;obtain⟨id,D,r⟩:=Ht c.rh (X b j) (a0 b a5);grind
   ·intro b j;have s:ZP C.H l (ZE.app io m).tk b:=by
     rcases Vh.1 j with h|h
     ·exact Ww (λn L=>by simp [ZE.app,L]) (X b h)
     ·exact Ww (λn L=>by simp [ZE.app,L]) (a0 b h)
    obtain⟨id,D,r,h3⟩:=id s;obtain⟨h4,h5,h6⟩:=c.rh.sep id b r h3;refine⟨λh=>?_,h5,h6⟩;rcases h with h|h
    ·grind
    ·obtain⟨k,h7,h8⟩:=Ht c.rh h s;grind
   ·intro b j;refine .inl (p.lk.le.I b ?_);rw[i1.I];omega
   ·intro b j;rcases j with j|⟨id,_,r,h3⟩
    ·refine⟨c.rh.ilt b j,?_⟩;rcases c.rh.inew b j with h|h|h
     all_goals grind
    ·obtain⟨_,h5,h6⟩:=c.rh.sep id b r h3;grind
 cases ex with
 |normal=>exact key hy
 |exit id=>simp [Ys]at hy
 |jump id=>simp [Ys]at hy
 |ret=>exact key (by assumption)
theorem ZsJ (C:P.follows .mixedOrders=true) (v:Z4 P E) (t:∀f,∀S∈E.specs f,ZT P f S) (s:∀B:Z1,(B.pl=false→Ga P B.w0 B.own0)→(B.pl=true→∀f,∀T∈E.specs f,T.pl=true)→∀f h,E.inl f=some h→ZdW P B E.stp f h) {f:FuncId} {fn:Func} {body:Code} (l:P.funcs[f]? =some fn) (A:fn.body=some body) (j:E.nt=fn.ntmps) (a:(fn.name== "runtime.NumGoroutine")=false)
 {S:Spec} (d:S.args.wf=Uc) (c:Vka S.args.len E.nt=Uc) {hint:K7}{pack:Wi S.args×Kw S.res->S.α} (b:∀y,S.unp (pack y)=y) (k:S.pl=Uc->∀f,∀T∈E.specs f,T.pl=Uc)
 (i:∀x z,S.f x=Ua z->XV E body fn.results hint S.args S.res pack x S.kp=Ua z):ZT P f S:=
 have key:=ZsK C v t s l A j d c b k i
 {wf:=d
  fn:=⟨fn,l,by grind,a⟩
  run:=λw I e D x z m n o p q r=>(key w I e D x z m n o p q r).mono (by grind)
  kept:=.inr key}
end
end Tr
end
section
namespace Tr
universe u
open Go
def H6(P:Program)(a:List (Nat×Ty))(ms:List (Nat×Ty×Ty))(pks:List (Nat×Nat))(bds:List (Nat×Nat):=[]):Bool:=
 (bds.all λp=>match P.info? p.1 with
   |some i=>(match i.zero with
    |some z=>(match z.cells.toList with
     |[.pointer Ub,.slice Ub 0 0]=>Uc
     |_=>Ud)
    |none=>Ud)
   |none=>Ud)&&
 (a.all λp=>Zja P (λn=>a.lookup n) p.1 p.2)&&
 (ms.all λp=>match P.underlying p.1 with
   |some (.map K V)=>a.lookup K==Ua p.2.1&&a.lookup V==Ua p.2.2
   |_=>Ud)&&
 (pks.all λp=>match P.underlying p.1 with
   |some (.pointer _)=>Vg p.2 1
   |some (.func ..)=>Vg p.2 2
   |some (.map _ _)=>Vg p.2 3
   |_=>Ud)
theorem RZ{α:Type u}{k:Nat}{x:α}:∀{l:List (Nat×α)},l.lookup k=Ua x->(k,x)∈l
 |[],h=>by simp at h
 |(i,y)::l,h=>by
  rw[List.lookup_cons]at h
  cases a:k==i with
  |true=>rw[a]at h;simp only[ZL]at h;have:=beq_iff_eq.1 a;subst this;subst h;simp
  |false=>rw[a]at h;exact List.mem_cons_of_mem _ (RZ h)
theorem typesOk_of{P:Program}{c:List (Nat×Ty)}{ms:List (Nat×Ty×Ty)}{pks bds:List (Nat×Nat)}(h:H6 P c ms pks bds=Uc){E:Z9}(j:E.ty=λn=>c.lookup n)(l:E.mty=λn=>ms.lookup n)(o:E.pk=λn=>(pks.lookup n).getD 0)(p:E.bd=λn=>bds.lookup n)(q:∀T,E.pz T=Uc->∃e,P.underlying T=Ua (.pointer e)/\∀w:World,∃n,(Go.sizeOf e).run P w=.ok n w/\n≠0):Z4 P E:=by
 simp only[H6,Vb,Vn]at h;obtain⟨⟨⟨d,D⟩,A⟩,C⟩:=h;refine⟨λT t a=>?_,λT m a=>?_,λT=>?_,q,λT e a=>?_⟩
 rotate_left 3
 ·rw[p]at a;have:=d (T,e) (RZ a);simp only at this;split at this
  ·rename_i i s;split at this
   ·rename_i z F;split at this
    ·rename_i r;refine⟨z,λw=>?_,?_⟩
     ·simp only[zeroValue,typeInfo,Vu,run_program,Vl,s,Vv,F]
     ·rw[<-Array.toList_inj];exact r
    ·cases this
   ·cases this
  ·cases this
 ·rw[j]at a⊢;exact Zw4 (D (T,t) (RZ a))
 ·rw[l]at a;rw[j];have:=A (T,m) (RZ a);simp only at this;split at this
  ·rename_i K V b;simp only[Vb,Ki]at this;exact⟨K,V,b,this.1,this.2⟩
  ·cases this
 ·have f:E.pk T=(pks.lookup T).getD 0:=by rw[o]
  rw[f]
  cases v:pks.lookup T with
  |none=>exact⟨λh=>(by simp at h),λh=>(by simp at h),λh=>(by simp at h)⟩
  |some k=>
   have:=C (T,k) (RZ v);simp only at this;simp only[Option.getD_some];split at this
   ·rename_i e b;have:=Vc this;subst this;exact⟨λ_=>⟨e,b⟩,λh=>(by simp at h),λh=>(by simp at h)⟩
   ·rename_i x y z b;have:=Vc this;subst this;exact⟨λh=>(by simp at h),λ_=>⟨x,y,z,b⟩,λh=>(by simp at h)⟩
   ·rename_i x y b;have:=Vc this;subst this;exact⟨λh=>(by simp at h),λh=>(by simp at h),λ_=>⟨x,y,b⟩⟩
   ·cases this
def Zac(P:Program)(f:FuncId):List Spec->Prop
 |[]=>True
 |S::l=>ZT P f S/\Zac P f l
def Zab(P:Program):List (Nat×List Spec)->Prop
 |[]=>True
 |p::m=>Zac P p.1 p.2/\Zab P m
theorem Zac.mem{P:Program}{f:FuncId}:∀{l:List Spec},Zac P f l->∀S∈l,ZT P f S
 |[],_,S,h=>by simp at h
 |T::l,h,S,a=>by
  rcases Vi.1 a with rfl|a
  ·exact h.1
  ·exact Zac.mem h.2 S a
theorem Zab.mem{P:Program}:∀{m:List (Nat×List Spec)},Zab P m->∀p∈m,Zac P p.1 p.2
 |[],_,p,h=>by simp at h
 |q::m,h,p,a=>by
  rcases Vi.1 a with rfl|a
  ·exact h.1
  ·exact Zab.mem h.2 p a
theorem ZiY{P:Program}{m:List (Nat×List Spec)}(h:Zab P m){E:Z9}(c:E.specs=λn=>(m.lookup n).getD []):∀f,∀S∈E.specs f,ZT P f S:=by
 refine λf S a=>?_;have e:E.specs f=(m.lookup f).getD []:=by rw[c]
 rw[e]at a
 cases b:m.lookup f with
 |none=>rw[b]at a;simp at a
 |some l=>rw[b]at a;exact(h.mem (f,l) (RZ b)).mem S a
theorem Ja{P:Program}{a:List (Nat×Ty)}{ms:List (Nat×Ty×Ty)}{pks bds:List (Nat×Nat)}{rws zxs:List Nat}{m:List (Nat×List Spec)}{nt:Nat}{f:FuncId}{fn:Func}{S:Spec}{hint:K7}{pack:Wi S.args×Kw S.res->S.α}
 (v:P.follows .mixedOrders=Uc) (A:H6 P a ms pks bds=Uc) (r:Zab P m)
 (k:∀x z,S.f x=Ua z->XV (mkE a ms pks rws zxs m nt bds) (K2 fn) fn.results hint S.args S.res pack x S.kp=Ua z)
 (t:P.funcs[f]? =some fn:=by kernel_rfl) (s:fn.body=some (K2 fn):=by kernel_rfl) (o:nt=fn.ntmps:=by kernel_rfl) (b:(fn.name== "runtime.NumGoroutine")=false:=by kernel_rfl)
 (q:S.args.wf=true:=by kernel_rfl) (j:Vka S.args.len nt=true:=by kernel_rfl) (c:∀y,S.unp (pack y)=y:=by intro y;rfl) (d:(!S.pl||m.all λp=>p.2.all (·.pl))=true:=by kernel_rfl):ZT P f S:=
 ZsJ (E:=mkE a ms pks rws zxs m nt bds) v (typesOk_of A rfl rfl rfl rfl λ_ h=>absurd (show Ud=Uc from h) (by decide)) (ZiY r rfl) (λ_ _ _ _ h e=>absurd (show Ub=Ua h from e) (by simp)) t s o b q j c (λh g T i=>by
  rw[h]at d;simp only[Vha,Via,Vn]at d;have e:(mkE a ms pks rws zxs m nt bds).specs g=(m.lookup g).getD []:=rfl;rw[e]at i
  cases n:m.lookup g with
  |none=>rw[n]at i;simp at i
  |some l=>rw[n]at i;exact d (g,l) (RZ n) T i) k
end Tr
end
