/- Arguments and results of calls as values, what a call hands back, and states before and behind a call. Conditions: none. -/
import Derived.Test.YtdpenljjnfmgiaaGreatTrU
open Bool renaming and_eq_true ->Vd
open List renaming nodup_append ->Vb,mem_append ->Vc,length_append ->Ve,take_left' ->Vf,drop_left' ->Vg
open Prod.mk renaming injEq ->Va
namespace Tr
open Go
theorem Znc(p:Pat)(x:ElP p)(n:Nat)(hp:p≠ .any): (inj p x n).1.isAgg=p.isAgg:=by
 cases p<;>simp [inj,AV.isAgg,Pat.isAgg]at hp ⊢
section
variable {B:Zbr}{H:AH}{w:World}{g:Gh}{ow:Nat->Nat->Prop}{F:Nat->AV}{I:Nat->Prop}
theorem ZhT: ∀ (l:Za5) {H:AH}{g:Gh}{ow:Nat->Nat->Prop} (_:RH B H w g ow) (x:ZcJ l) (js:List Nat) (vs:List Value) (n:Nat),PVs w g.I l x js vs->ZfC B H w g ow js->(∀id,n<=id->id< (Zcz l x n).2.2-> ¬g.K id)->
  ZfG B H w g ow js n (Zcz l x n).2.2 (Zad H (Zbu (Zcz l x n).2.1)) fun g' =>VRs w g' (Zcz l x n).1 vs
 | .nil,H,g,ow,hR,x,js,vs,n,h,_,_=>by
  obtain⟨rfl,rfl⟩:=h
  exact ZfG.none hR n rfl
 | .cons p l,H,g,ow,hR,x,js,vs,n,h,hf,hk=>by
  obtain⟨j1,j2,v,r,rfl,rfl,⟨h1,ha⟩,h2⟩:=h;have n1:=(Zbx p x.1 n).1;have n2:=(Zdm l x.2 (inj p x.1 n).2.2).1;have hk' : ∀id,n<=id->id< (Zcz l x.2 (inj p x.1 n).2.2).2.2-> ¬g.K id:=by assumption
  obtain⟨g1,ow1,l1,i1,r1,d1,k1,o1⟩:=Zi0 p hR x.1 j1 v.cells.toList n h1 (hf.sub (List.sublist_append_left _ _)) (by grind);obtain⟨g2,ow2,l2,i2,r2,d2,k2,o2⟩:=ZhT l r1 x.2 j2 r (inj p x.1 n).2.2 (by rw[i1.I];omega) (hf.after i1.I o1) (by grind)
  have hH:Zad H (Zbu (Zcz (.cons p l) x n).2.1)=Zad (Zad H (Zbu (inj p x.1 n).2.1)) (Zbu (Zcz l x.2 (inj p x.1 n).2.2).2.1):=by rw[<-Zau];simp [Zcz,Zbu]
  rw[hH]
  have hva: (inj p x.1 n).1= .junk\/Zav v=(inj p x.1 n).1.isAgg:=by
   by_cases hp:p= .any
   ·subst hp;exact .inl rfl
   ·rw[Znc p x.1 n hp];grind
  refine⟨g2,ow2,l1.trans l2,i2.after i1 l1,r2,⟨v,r,rfl,⟨d1.mono (fun _ _=>rfl) l2,hva⟩,d2⟩,fun id h=> ?_,fun id b' h5 h6=> ?_⟩
  ·simp only[Zcz]
   grind
  grind
theorem Zmz{p:Pat}{v:AV}{r:ElP p×Ids}{l l' :List Nat}(h: (ext p v).run H l=some (r,l'))(hp:p≠ .any):v≠ .junk/\v.isAgg=p.isAgg:=by
 cases p with
 |pd t=>
  simp only[ext,Zaj]at h;obtain⟨y,m,h1,_⟩:=h
  exact Zg0 h1
 |own t k=>
  simp only[ext,Zaj]at h;obtain⟨y,m,h1,_⟩:=h
  cases v<;>simp [Zbq,Zaa]at h1<;>exact⟨by simp,rfl⟩
 |var t p=>cases v<;>simp [ext,Zaa]at h<;>exact⟨by simp,rfl⟩
 |ro t=>cases v<;>simp [ext,Zaa]at h<;>exact⟨by simp,rfl⟩
 |map k t=>cases v<;>simp [ext,Zaa]at h<;>exact⟨by simp,rfl⟩
 |rows t k=>
  simp only[ext,Zaj]at h;obtain⟨y,m,h1,_⟩:=h
  cases v<;>simp [Zck,Zaa]at h1<;>exact⟨by simp,rfl⟩
 |mrows k t=>cases v<;>simp [ext,Zaa]at h<;>exact⟨by simp,rfl⟩
 |it k t=>cases v<;>simp [ext,Zaa]at h<;>exact⟨by simp,rfl⟩
 |bld T e k=>cases v<;>simp [ext,Zaa]at h<;>exact⟨by simp,rfl⟩
 |agg pl=>
  cases v with
  |agg vs=>exact⟨by simp,rfl⟩
  |d t x=>
   simp only[ext,Zae,Zaa,and_false,or_false]at h
   exact⟨by simp,ZjW h.1 rfl⟩
  |_=>simp [ext,Zaa]at h
 |fn f pl=>cases v<;>simp [ext,Zaa]at h<;>exact⟨by simp,rfl⟩
 |nilr=>cases v<;>simp [ext,Zaa]at h<;>exact⟨by simp,rfl⟩
 |nils=>cases v<;>simp [ext,Zaa]at h<;>exact⟨by simp,rfl⟩
 |any=>grind
theorem ZkD(hR:RH B H w g ow)(hI: ∀b,g.I b->I b): ∀ (pl:Za5) (v:AVs) (vals:List Value) (x:ZcJ pl) (ids:Ids) (l l' :List Nat),(Zef pl v).run H l=some ((x,ids),l')->VRs w g v vals->(∀b,ZaC H ow ids.br b->I b)->
  ids.tk.Nodup-> ∃js,PVs w I pl x js vals/\js.Nodup/\ ∀b∈js,ZaC H ow ids.tk b
 | .nil, .nil,vals,x,ids,l,l',h,hc,hO,_=>by
  simp only[Zef,Zab,Va]at h;obtain⟨⟨_,rfl⟩,_⟩:=h
  exact⟨[],⟨rfl,hc⟩, .nil,by simp⟩
 | .cons p pl, .cons v vs,vals,x,ids,l,l',h,hc,hO,hn=>by
  simp only[Zef,Zaj,Zab,Va]at h;obtain⟨⟨x1,i1⟩,m1,h1,⟨x2,i2⟩,m2,h2,⟨rfl,rfl⟩,_⟩:=h;obtain⟨u,r,rfl,h3,h4⟩:=hc;have hn' : (i1.tk++i2.tk).Nodup:=hn;obtain⟨n1,n2,n3⟩:=Vb.1 hn';obtain⟨j1,h5,h6,h7⟩:=ZdL hR hI p v u.cells.toList x1 i1 _ _ h1 h3.1 (fun b hb=>hO b (ZaG (fun _ h=>by simp [Ids.app,h]) hb)) n1;obtain⟨j2,h8,h9,h10⟩:=ZkD hR hI pl vs r x2 i2 _ _ h2 h4 (fun b hb=>hO b (ZaG (fun _ h=>by simp [Ids.app,h]) hb)) n2
  have hag:p= .any\/Zav u=p.isAgg:=by
   by_cases hp:p= .any
   ·grind
   ·obtain⟨ha,hb⟩:=Zmz h1 hp;rw[<-hb];exact .inr (h3.2.resolve_left ha)
  refine⟨j1++j2,⟨j1,j2,u,r,rfl,rfl,⟨h5,hag⟩,h8⟩,Vb.2 ⟨h6,h9,fun b hb b' hb' e=> ?_⟩,fun b hb=> ?_⟩
  ·subst e;obtain⟨id,h11,h12⟩:=Zcn hR (h7 b hb) (h10 b hb')
   grind
  ·rcases Vc.1 hb with hb|hb
   ·exact ZaG (fun _ h=>by simp [Ids.app,h]) (h7 b hb)
   ·exact ZaG (fun _ h=>by simp [Ids.app,h]) (h10 b hb)
 | .nil, .cons _ _,_,_,_,_,_,h,_,_,_=>by simp [Zef,Zaa]at h
 | .cons _ _, .nil,_,_,_,_,_,h,_,_,_=>by simp [Zef,Zaa]at h
mutual
def PO(w:World)(I:Nat->Prop): (p:Pat)->ZlS p->List Nat->List Value->Prop
 | .own t true,y,js,cs=>PC w I (.own t true) y js cs
 | .own _ false,_,js,_=>js=[]
 | .var t p,y,js,cs=>PC w I (.var t p) y js cs
 | .map kt vt,y,js,cs=>PC w I (.map kt vt) y js cs
 | .rows t true,y,js,cs=>PC w I (.rows t true) y js cs
 | .rows _ false,_,js,_=>js=[]
 | .mrows kt t,y,js,cs=>PC w I (.mrows kt t) y js cs
 | .it _ _,_,js,_=>js=[]
 | .bld T e true,y,js,cs=>PC w I (.bld T e true) y js cs
 | .bld _ _ false,_,js,_=>js=[]
 | .agg l,y,js,cs=>POs w I l y js cs
 | .fn f l,y,js,cs=> ∃cc:List Value,cs=[.func (.func f) #[] cc.toArray]/\POs w I l y js cc
 | .pd _,_,js,_=>js=[]
 | .ro _,_,js,_=>js=[]
 | .nilr,_,js,_=>js=[]
 | .nils,_,js,_=>js=[]
 | .any,_,js,_=>js=[]
def POs(w:World)(I:Nat->Prop): (l:Za5)->ZbQ l->List Nat->List Value->Prop
 | .nil,_,js,_=>js=[]
 | .cons p l,y,js,cs=> ∃j1 j2,js=j1++j2/\PO w I p y.1 j1 (cs.take p.sz)/\POs w I l y.2 j2 (cs.drop p.sz)
end
def ZlD(w:World)(I:Nat->Prop): (l:Za5)->ZbQ l->List Nat->List Value->Prop
 | .nil,_,js,_=>js=[]
 | .cons p l,y,js,vs=> ∃j1 j2 v r,js=j1++j2/\vs=v::r/\PO w I p y.1 j1 v.cells.toList/\ZlD w I l y.2 j2 r
mutual
theorem Zfy: ∀ (p:Pat) (x:ElP p) (js:List Nat) (cs:List Value),p.noAny=true->PC w I p x js cs->cs.length=p.sz
 | .pd t,x,js,cs,_,h=>Rd.length t x cs h.2
 | .own t k,x,js,cs,_,h=>by
  rcases h with ⟨_,_,rfl⟩ | ⟨b,cap,cells,e,css,_,rfl,_⟩<;>rfl
 | .var t p,x,js,cs,_,h=>by obtain⟨_,b,js',cells,e,_,rfl,_⟩:=h;rfl
 | .ro t,x,js,cs,_,h=>by obtain⟨_,b,off,c,rfl,_⟩:=h;rfl
 | .map kt vt,x,js,cs,_,h=>by obtain⟨b,es,clock,_,rfl,_⟩:=h;rfl
 | .it kt vt,x,js,cs,_,h=>by obtain⟨b,mb,es,clock,since,seen,_,_,rfl,_⟩:=h;rfl
 | .rows t k,x,js,cs,_,h=>by obtain⟨v,rfl,_⟩:=h;rfl
 | .mrows kt t,x,js,cs,_,h=>by obtain⟨v,rfl,_⟩:=h;rfl
 | .bld T e k,x,js,cs,_,h=>by obtain⟨b,rfl,_⟩:=h;rfl
 | .agg l,x,js,cs,hn,h=>by
  simp only[PC]at h
  exact Zmo l x js cs (by simpa only[Pat.noAny] using hn) h
 | .fn f l,x,js,cs,_,h=>by obtain⟨cc,rfl,_⟩:=h;rfl
 | .nilr,_,js,cs,_,h=>by
  rcases h.2 with rfl|rfl|rfl<;>rfl
 | .nils,_,js,cs,_,h=>by rw[h.2];rfl
 | .any,_,_,_,hn,_=>by simp [Pat.noAny]at hn
theorem Zmo: ∀ (l:Za5) (x:ZcJ l) (js:List Nat) (cs:List Value),l.noAny=true->PCs w I l x js cs->cs.length=l.sz
 | .nil,_,_,_,_,h=>by obtain⟨_,rfl⟩:=h;rfl
 | .cons p l,x,js,cs,hn,h=>by obtain⟨j1,j2,c1,c2,rfl,rfl,h1,h2⟩:=h;simp only[Za5.noAny,Vd]at hn;rw[Ve,Zfy p x.1 j1 c1 hn.1 h1,Zmo l x.2 j2 c2 hn.2 h2];rfl
end
mutual
theorem Zo4{w' :World}{I' :Nat->Prop} : ∀ (p:Pat) (y:ZlS p) (cs:List Value) (x:ElP p) (js:List Nat),p.back=false->p.noAny=true->PC w' I' p x js cs->PO w I p y [] cs
 | .own t true,_,_,_,_,h,_,_=>by simp [Pat.back]at h
 | .own t false,_,_,_,_,_,_,_=>rfl
 | .var t p,_,_,_,_,h,_,_=>by simp [Pat.back]at h
 | .map k v,_,_,_,_,h,_,_=>by simp [Pat.back]at h
 | .rows t true,_,_,_,_,h,_,_=>by simp [Pat.back]at h
 | .rows t false,_,_,_,_,_,_,_=>rfl
 | .mrows k t,_,_,_,_,h,_,_=>by simp [Pat.back]at h
 | .it _ _,_,_,_,_,_,_,_=>rfl
 | .bld _ _ true,_,_,_,_,h,_,_=>by simp [Pat.back]at h
 | .bld _ _ false,_,_,_,_,_,_,_=>rfl
 | .agg l,y,cs,x,js,h,hn,hp=>by
  simp only[PC]at hp;simp only[PO]
  exact Zjl l y cs x js (by simpa only[Pat.back] using h) (by simpa only[Pat.noAny] using hn) hp
 | .fn f l,y,cs,x,js,h,hn,hp=>by
  obtain⟨cc,rfl,hp⟩:=hp
  exact⟨cc,rfl,Zjl l y cc x js (by simpa only[Pat.back] using h) (by simpa only[Pat.noAny] using hn) hp⟩
 | .pd t,_,_,_,_,_,_,_=>rfl
 | .ro t,_,_,_,_,_,_,_=>rfl
 | .nilr,_,_,_,_,_,_,_=>rfl
 | .nils,_,_,_,_,_,_,_=>rfl
 | .any,_,_,_,_,_,_,_=>rfl
theorem Zjl{w' :World}{I' :Nat->Prop} : ∀ (l:Za5) (y:ZbQ l) (cs:List Value) (x:ZcJ l) (js:List Nat),l.back=false->l.noAny=true->PCs w' I' l x js cs->POs w I l y [] cs
 | .nil,_,_,_,_,_,_,_=>rfl
 | .cons p l,y,cs,x,js,h,hn,hp=>by
  obtain⟨j1,j2,c1,c2,rfl,rfl,h1,h2⟩:=hp;simp only[Za5.back,Bool.or_eq_false_iff]at h;simp only[Za5.noAny,Vd]at hn;have hl:=Zfy p x.1 j1 c1 hn.1 h1;refine⟨[],[],rfl, ?_, ?_⟩
  ·rw[Vf hl];exact Zo4 p y.1 c1 x.1 j1 h.1 hn.1 h1
  ·rw[Vg hl];exact Zjl l y.2 c2 x.2 j2 h.2 hn.2 h2
end
theorem Zc9{p:Pat}{v:AV}{y:ZlS p}{ids:Ids}{l l' :List Nat}(h: (ZcF p v).run H l=some ((y,ids),l'))(hR:RH B H w g ow)(hI: ∀b,g.I b->I b){cs:List Value}(hc:CV w g v cs)
  (hO: ∀b,ZaC H ow ids.br b->I b) (hn:ids.tk.Nodup) (hp: (∃t,p= .own t true)\/(∃t q,p= .var t q)\/(∃k t,p= .map k t)\/(∃t,p= .rows t true)\/(∃k t,p= .mrows k t)\/ ∃T e,p= .bld T e true): ∃js,PO w I p y js cs/\js.Nodup/\(∀b∈js,ZaC H ow ids.tk b)/\cs.length=p.sz:=by
 rcases hp with ⟨t,rfl⟩ | ⟨t,q,rfl⟩ | ⟨k,t,rfl⟩ | ⟨t,rfl⟩ | ⟨k,t,rfl⟩ | ⟨T,e,rfl⟩
 ·cases v with
  |vw id=>
   have he: (ext (.own t true) (.vw id)).run H l=some ((y,ids),l'):=by
    simp only[ZcF]at h;rw[Zag]at h;simp only[ext,Zbq,Zaj,Zab,Va];split at h
    ·rename_i t' xs hH;simp only[Zac,Zab,Va]at h;obtain⟨z,hz,⟨rfl,rfl⟩,rfl⟩:=h;refine⟨⟨z,[id]⟩,id::l, ?_,⟨rfl,rfl⟩,rfl⟩;rw[Zag,hH];simp only[Zac,Zab]
     grind
    ·simp [Zaa]at h
   obtain⟨js,h1,h2,h3⟩:=ZdL hR hI _ _ cs _ _ _ _ he hc hO hn
   exact⟨js,h1,h2,h3,Zfy (.own t true) y js cs rfl h1⟩
  |_=>simp [ZcF,Zaa]at h
 ·cases v with
  |ptr id path=>
   cases path with
   |nil=>
    obtain⟨js,h1,h2,h3⟩:=ZdL hR hI (.var t q) (.ptr id []) cs y ids _ _ (by assumption) hc hO hn;refine⟨js,h1,h2,h3, ?_⟩;obtain⟨_,b,js',cells,e,_,rfl,_⟩:=h1
    rfl
   |cons a r=>simp [ZcF,Zaa]at h
  |_=>simp [ZcF,Zaa]at h
 ·cases v with
  |mp id=>
   obtain⟨js,h1,h2,h3⟩:=ZdL hR hI (.map k t) (.mp id) cs y ids _ _ (by assumption) hc hO hn
   exact⟨js,h1,h2,h3,Zfy (.map k t) y js cs rfl h1⟩
  |_=>simp [ZcF,Zaa]at h
 ·cases v with
  |vw id=>
   have he: (ext (.rows t true) (.vw id)).run H l=some ((y,ids),l'):=by
    simp only[ZcF]at h;rw[Zag]at h;simp only[ext,Zck,Zaj,Zab,Va];split at h
    ·rename_i t' xs u hH;simp only[Zac,Zab,Va]at h;obtain⟨z,hz,⟨rfl,rfl⟩,rfl⟩:=h;refine⟨⟨z,[id]⟩,id::l, ?_,⟨rfl,rfl⟩,rfl⟩;rw[Zag,hH];simp only[Zac,Zab]
     grind
    ·simp [Zaa]at h
   obtain⟨js,h1,h2,h3⟩:=ZdL hR hI _ _ cs _ _ _ _ he hc hO hn
   exact⟨js,h1,h2,h3,Zfy (.rows t true) y js cs rfl h1⟩
  |_=>simp [ZcF,Zaa]at h
 ·cases v with
  |mp id=>
   obtain⟨js,h1,h2,h3⟩:=ZdL hR hI (.mrows k t) (.mp id) cs y ids _ _ (by assumption) hc hO hn
   exact⟨js,h1,h2,h3,Zfy (.mrows k t) y js cs rfl h1⟩
  |_=>simp [ZcF,Zaa]at h
 ·cases v with
  |ptr id path=>
   cases path with
   |nil=>
    obtain⟨js,h1,h2,h3⟩:=ZdL hR hI (.bld T e true) (.ptr id []) cs y ids _ _ (by assumption) hc hO hn
    exact⟨js,h1,h2,h3,Zfy (.bld T e true) y js cs rfl h1⟩
   |cons a r=>simp [ZcF,Zaa]at h
  |_=>simp [ZcF,Zaa]at h
mutual
theorem Zk3(hR:RH B H w g ow)(hI: ∀b,g.I b->I b): ∀ (p:Pat) (v:AV) (cs:List Value) (y:ZlS p) (ids:Ids) (l l' :List Nat),(ZcF p v).run H l=some ((y,ids),l')->CV w g v cs->(∀b,ZaC H ow ids.br b->I b)->ids.tk.Nodup->
  ∃js,PO w I p y js cs/\js.Nodup/\(∀b∈js,ZaC H ow ids.tk b)/\(ZmG p v=true->cs.length=p.sz)
 | .own t true,v,cs,y,ids,l,l',h,hc,hO,hn=>by
  obtain⟨js,h1,h2,h3,h4⟩:=Zc9 h hR hI hc hO hn (.inl ⟨t,rfl⟩)
  exact⟨js,h1,h2,h3,fun _=>h4⟩
 | .var t p,v,cs,y,ids,l,l',h,hc,hO,hn=>by
  obtain⟨js,h1,h2,h3,h4⟩:=Zc9 h hR hI hc hO hn (.inr (.inl ⟨t,p,rfl⟩))
  exact⟨js,h1,h2,h3,fun _=>h4⟩
 | .map k t,v,cs,y,ids,l,l',h,hc,hO,hn=>by
  obtain⟨js,h1,h2,h3,h4⟩:=Zc9 h hR hI hc hO hn (.inr (.inr (.inl ⟨k,t,rfl⟩)))
  exact⟨js,h1,h2,h3,fun _=>h4⟩
 | .rows t true,v,cs,y,ids,l,l',h,hc,hO,hn=>by
  obtain⟨js,h1,h2,h3,h4⟩:=Zc9 h hR hI hc hO hn (.inr (.inr (.inr (.inl ⟨t,rfl⟩))))
  exact⟨js,h1,h2,h3,fun _=>h4⟩
 | .rows t false,v,cs,y,ids,l,l',h,hc,hO,hn=>by
  simp only[ZcF,Zab,Va]at h
  exact⟨[],rfl, .nil,by simp,fun h=>CV.length v (.sl (.sl t)) cs h hc⟩
 | .mrows k t,v,cs,y,ids,l,l',h,hc,hO,hn=>by
  obtain⟨js,h1,h2,h3,h4⟩:=Zc9 h hR hI hc hO hn (.inr (.inr (.inr (.inr (.inl ⟨k,t,rfl⟩)))))
  exact⟨js,h1,h2,h3,fun _=>h4⟩
 | .it _ _,v,cs,y,ids,l,l',h,hc,hO,hn=>⟨[],rfl, .nil,by simp,fun h=>CV.length v .ref cs h hc⟩
 | .bld T e true,v,cs,y,ids,l,l',h,hc,hO,hn=>by
  obtain⟨js,h1,h2,h3,h4⟩:=Zc9 h hR hI hc hO hn (.inr (.inr (.inr (.inr (.inr ⟨T,e,rfl⟩)))))
  exact⟨js,h1,h2,h3,fun _=>h4⟩
 | .bld T e false,v,cs,y,ids,l,l',h,hc,hO,hn=>by
  simp only[ZcF,Zab,Va]at h
  exact⟨[],rfl, .nil,by simp,fun h=>CV.length v .ref cs h hc⟩
 | .own t false,v,cs,y,ids,l,l',h,hc,hO,hn=>by
  simp only[ZcF,Zab,Va]at h
  exact⟨[],rfl, .nil,by simp,fun h=>CV.length v (.sl t) cs h hc⟩
 | .pd t,v,cs,y,ids,l,l',h,hc,hO,hn=>⟨[],rfl, .nil,by simp,fun h=>CV.length v t cs h hc⟩
 | .ro t,v,cs,y,ids,l,l',h,hc,hO,hn=>⟨[],rfl, .nil,by simp,fun h=>CV.length v .ref cs h hc⟩
 | .nilr,v,cs,y,ids,l,l',h,hc,hO,hn=>⟨[],rfl, .nil,by simp,fun h=>CV.length v .ref cs h hc⟩
 | .nils,v,cs,y,ids,l,l',h,hc,hO,hn=>⟨[],rfl, .nil,by simp,fun h=>CV.length v (.sl .unit) cs h hc⟩
 | .any,v,cs,y,ids,l,l',h,hc,hO,hn=>⟨[],rfl, .nil,by simp,fun h=>by simp [ZmG]at h⟩
 | .agg pl,v,cs,y,ids,l,l',h,hc,hO,hn=>by
  cases v with
  |agg vs=>
   simp only[ZcF]at h;simp only[CV]at hc;obtain⟨js,h1,h2,h3,h4⟩:=ZgD hR hI pl vs cs y ids l l' h hc hO hn
   exact⟨js,h1,h2,h3,fun _=>h4⟩
  |_=>simp [ZcF,Zaa]at h
 | .fn f pl,v,cs,y,ids,l,l',h,hc,hO,hn=>by
  cases v with
  |fn f' vs=>
   simp only[ZcF,Zae,Zaa,and_false,or_false]at h;obtain⟨hf,h⟩:=h;have hf:=Nat.eq_of_beq_eq_true hf;subst hf;simp only[CV]at hc;obtain⟨cc,rfl,hc⟩:=hc;obtain⟨js,h1,h2,h3,_⟩:=ZgD hR hI pl vs cc y ids l l' h hc hO hn
   exact⟨js,⟨cc,rfl,h1⟩,h2,h3,fun _=>rfl⟩
  |_=>simp [ZcF,Zaa]at h
theorem ZgD(hR:RH B H w g ow)(hI: ∀b,g.I b->I b): ∀ (pl:Za5) (v:AVs) (cs:List Value) (y:ZbQ pl) (ids:Ids) (l l' :List Nat),(ZfW pl v).run H l=some ((y,ids),l')->CVs w g v cs->(∀b,ZaC H ow ids.br b->I b)->ids.tk.Nodup->
  ∃js,POs w I pl y js cs/\js.Nodup/\(∀b∈js,ZaC H ow ids.tk b)/\cs.length=pl.sz
 | .nil, .nil,cs,y,ids,l,l',h,hc,hO,_=>by
  simp only[CVs]at hc;subst hc
  exact⟨[],rfl, .nil,by simp,rfl⟩
 | .cons p pl, .cons v vs,cs,y,ids,l,l',h,hc,hO,hn=>by
  simp only[ZfW,Zae,Zaj,Zab,Zaa,and_false,or_false,Va]at h;obtain⟨hco,⟨x1,i1⟩,m1,h1,⟨x2,i2⟩,m2,h2,⟨rfl,rfl⟩,_⟩:=h;simp only[CVs]at hc;obtain⟨c1,c2,rfl,h3,h4⟩:=hc;have hn' : (i1.tk++i2.tk).Nodup:=hn;obtain⟨n1,n2,n3⟩:=Vb.1 hn';obtain⟨j1,h5,h6,h7,h8⟩:=Zk3 hR hI p v c1 x1 i1 _ _ h1 h3 (fun b hb=>hO b (ZaG (fun _ h=>by simp [Ids.app,h]) hb)) n1;obtain⟨j2,h9,h10,h11,h12⟩:=ZgD hR hI pl vs c2 x2 i2 _ _ h2 h4 (fun b hb=>hO b (ZaG (fun _ h=>by simp [Ids.app,h]) hb)) n2;have hl:=h8 hco;refine⟨j1++j2,⟨j1,j2,rfl,by rw[Vf hl];exact h5,by rw[Vg hl];exact h9⟩,Vb.2 ⟨h6,h10,fun b hb b' hb' e=> ?_⟩,fun b hb=> ?_,by rw[Ve,hl,h12];rfl⟩
  ·subst e;obtain⟨id,h13,h14⟩:=Zcn hR (h7 b hb) (h11 b hb');exact n3 id h13 id h14 rfl
  ·rcases Vc.1 hb with hb|hb
   ·exact ZaG (fun _ h=>by simp [Ids.app,h]) (h7 b hb)
   ·exact ZaG (fun _ h=>by simp [Ids.app,h]) (h11 b hb)
 | .nil, .cons _ _,_,_,_,_,_,h,_,_,_=>by simp [ZfW,Zaa]at h
 | .cons _ _, .nil,_,_,_,_,_,h,_,_,_=>by simp [ZfW,Zaa]at h
end
theorem ZmN: ∀ (p:Pat) (l:AVs),p.back=true->ZcF p (.tup l)= .fail
 | .own _ true,_,_=>rfl
 | .own _ false,_,h=>by simp [Pat.back]at h
 | .var _ _,_,_=>rfl
 | .map _ _,_,_=>rfl
 | .rows _ true,_,_=>rfl
 | .rows _ false,_,h=>by simp [Pat.back]at h
 | .mrows _ _,_,_=>rfl
 | .it _ _,_,h=>by simp [Pat.back]at h
 | .bld _ _ true,_,_=>rfl
 | .bld _ _ false,_,h=>by simp [Pat.back]at h
 | .agg _,_,_=>rfl
 | .fn _ _,_,_=>rfl
 | .pd _,_,h=>by simp [Pat.back]at h
 | .ro _,_,h=>by simp [Pat.back]at h
 | .nilr,_,h=>by simp [Pat.back]at h
 | .nils,_,h=>by simp [Pat.back]at h
 | .any,_,h=>by simp [Pat.back]at h
theorem Zf9(hR:RH B H w g ow)(hI: ∀b,g.I b->I b){w0:World}{I0:Nat->Prop} : ∀ (pl:Za5) (n:Nat) (vals:List Value) (x:ZcJ pl) (j0:List Nat) (y:ZbQ pl) (ids:Ids) (l l' :List Nat),(Zhe pl (Zgf F pl n)).run H l=some ((y,ids),l')->
  pl.wf=true->PVs w0 I0 pl x j0 vals->(∀k v,k+n∈ZbB pl n->vals[k]? =some v->VR w g (F (k+n)) v)->(∀b,ZaC H ow ids.br b->I b)->ids.tk.Nodup-> ∃js,ZlD w I pl y js vals/\js.Nodup/\ ∀b∈js,ZaC H ow ids.tk b
 | .nil,n,vals,x,j0,y,ids,l,l',h,_,hv,_,hO,_=>by
  obtain⟨rfl,rfl⟩:=hv
  exact⟨[],rfl, .nil,by simp⟩
 | .cons p pl,n,vals,x,j0,y,ids,l,l',h,hw,hv,hF,hO,hn=>by
  obtain⟨a1,a2,v,r,rfl,rfl,h1,h2⟩:=hv
  have hwl:pl.wf=true/\(p= .any\/p.noAny=true):=by
   cases p<;>simp only[Za5.wf,Vd]at hw<;>first|grind|grind
  have hF2: ∀k v,k+(n+1)∈ZbB pl (n+1)->r[k]? =some v->VR w g (F (k+(n+1))) v:=fun k v' hk hv' =>by
   have:=hF (k+1) v' (by simp only[ZbB,Vc];grind) (by grind)
   grind
  cases hb:p.back with
  |true=>
   simp only[Zgf,Zhe,hb,cond_true,Zaj,Zab,Va]at h;obtain⟨⟨x1,i1⟩,m1,g1,⟨x2,i2⟩,m2,g2,⟨rfl,rfl⟩,_⟩:=h;have hn' : (i1.tk++i2.tk).Nodup:=hn;obtain⟨n1,n2,n3⟩:=Vb.1 hn';have hVR:=hF 0 v (by simp [ZbB,hb]) rfl;rw[Nat.zero_add]at hVR
   have hCV:CV w g (F n) v.cells.toList:=by refine(hVR.to1 fun l e=> ?_).1;rw[e,ZmN p l hb]at g1;simp [Zaa]at g1
   obtain⟨j1,h5,h6,h7,_⟩:=Zk3 hR hI p (F n) _ x1 i1 _ _ g1 hCV (fun b hb=>hO b (ZaG (fun _ h=>by simp [Ids.app,h]) hb)) n1;obtain⟨j2,h8,h9,h10⟩:=Zf9 hR hI pl (n+1) r x.2 a2 x2 i2 _ _ g2 hwl.1 h2 hF2 (fun b hb=>hO b (ZaG (fun _ h=>by simp [Ids.app,h]) hb)) n2;refine⟨j1++j2,⟨j1,j2,v,r,rfl,rfl,h5,h8⟩,Vb.2 ⟨h6,h9,fun b hb b' hb' e=> ?_⟩,fun b hb=> ?_⟩
   ·subst e;obtain⟨id,h13,h14⟩:=Zcn hR (h7 b hb) (h10 b hb')
    grind
   ·rcases Vc.1 hb with hb|hb
    ·exact ZaG (fun _ h=>by simp [Ids.app,h]) (h7 b hb)
    ·exact ZaG (fun _ h=>by simp [Ids.app,h]) (h10 b hb)
  |false=>
   simp only[Zgf,Zhe,hb,cond_false,Zaj,Zab,Va]at h;obtain⟨⟨x2,i2⟩,m2,g2,⟨rfl,rfl⟩,_⟩:=h;obtain⟨j2,h8,h9,h10⟩:=Zf9 hR hI pl (n+1) r x.2 a2 x2 i2 _ _ g2 hwl.1 h2 hF2 hO hn;refine⟨j2,⟨[],j2,v,r,rfl,rfl, ?_,h8⟩,h9,h10⟩;rcases hwl.2 with rfl|hna
   ·rfl
   ·exact Zo4 p _ _ x.1 a1 hb hna h1.1
end
end Tr
