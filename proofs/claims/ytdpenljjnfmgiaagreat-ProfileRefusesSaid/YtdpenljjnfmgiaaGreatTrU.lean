/- Injection: what a pattern reads becomes values and new objects of the abstract machine. Conditions: none. -/
import Derived.Test.YtdpenljjnfmgiaaGreatTrT
open Bool renaming and_eq_true ->Vc
open List renaming mem_singleton ->Vb
open Nat renaming le_refl ->Va
namespace Tr
open Go
def Zbu(l:List (Nat×Zc0)):ZaY:=l.map fun o=>(o.1,some o.2)
theorem ZdQ{k:Nat} : ∀ {l:ZaY}{H:AH},(∀p∈l,p.1≠k)->Zad H l k=H k
 | [],_,_=>rfl
 |p::l,H,h=>by simp only[Zad];rw[ZdQ (by grind),Zat (by grind)]
theorem ZmV{H:AH}{i k:Nat}{o u:Option Zc0}(h:i≠k):Zbl (Zbl H i o) k u=Zbl (Zbl H k u) i o:=by
 funext j;by_cases hi:j=i
 ·subst hi;rw[Zat h,ZaT,ZaT]
 ·by_cases hk:j=k
  ·subst hk;rw[ZaT,Zat hi,ZaT]
  ·rw[Zat hk,Zat hi,Zat hi,Zat hk]
theorem ZdZ{k:Nat}{o:Option Zc0} : ∀ {l:ZaY}{H:AH},(∀p∈l,p.1≠k)->Zad (Zbl H k o) l=Zbl (Zad H l) k o
 | [],_,_=>rfl
 |p::l,H,h=>by simp only[Zad];rw[<-ZdZ (by grind),ZmV (by grind)]
mutual
theorem Zbx: ∀ (p:Pat) (x:ElP p) (n:Nat),n<=(inj p x n).2.2/\ ∀o∈(inj p x n).2.1,n<=o.1/\o.1< (inj p x n).2.2
 | .pd _,_,n=>⟨Va _,by simp [inj]⟩
 | .own _ _,_,n=>⟨by simp [inj],by simp [inj]⟩
 | .var t p,x,n=>by
  obtain⟨h1,h2⟩:=Zbx p x (n+1);refine⟨by simp only[inj];omega,fun o ho=> ?_⟩;simp only[inj,List.mem_cons]at ho ⊢;rcases ho with rfl|ho
  ·exact⟨Va _,by show n<_;omega⟩
  ·have:=h2 o ho;omega
 | .ro _,_,n=>⟨Va _,by simp [inj]⟩
 | .map _ _,_,n=>⟨by simp [inj],by simp [inj]⟩
 | .rows _ _,_,n=>⟨by simp [inj],by simp [inj]⟩
 | .mrows _ _,_,n=>⟨by simp [inj],by simp [inj]⟩
 | .it _ _,_,n=>⟨by simp [inj],by simp [inj]⟩
 | .bld _ _ _,_,n=>⟨by simp [inj],by simp [inj]⟩
 | .agg l,x,n=>by simpa only[inj] using Zdm l x n
 | .fn f l,x,n=>by simpa only[inj] using Zdm l x n
 | .nilr,_,n=>⟨Va _,by simp [inj]⟩
 | .nils,_,n=>⟨Va _,by simp [inj]⟩
 | .any,_,n=>⟨Va _,by simp [inj]⟩
theorem Zdm: ∀ (l:Za5) (x:ZcJ l) (n:Nat),n<=(Zcz l x n).2.2/\ ∀o∈(Zcz l x n).2.1,n<=o.1/\o.1< (Zcz l x n).2.2
 | .nil,_,n=>⟨Va _,by simp [Zcz]⟩
 | .cons p l,x,n=>by
  obtain⟨h1,h2⟩:=Zbx p x.1 n;obtain⟨h3,h4⟩:=Zdm l x.2 (inj p x.1 n).2.2;refine⟨by simp only[Zcz];omega,fun o ho=> ?_⟩;simp only[Zcz,List.mem_append]at ho ⊢;rcases ho with ho|ho
  ·have:=h2 o ho;omega
  ·have:=h4 o ho;omega
end
mutual
theorem Zic: ∀ (p:Pat) (t:Ty) (x:ElP p) (n:Nat),p.fits t=true->(inj p x n).1.fits t=true
 | .pd t',t,x,n,h=>by simpa [inj,AV.fits,Pat.fits] using h
 | .own t' k, .sl t,x,n,_=>by simp [inj,AV.fits]
 | .var _ p, .ref,x,n,_=>by simp [inj,AV.fits]
 | .ro _, .ref,x,n,_=>by simp [inj,AV.fits]
 | .map _ _, .ref,x,n,_=>by simp [inj,AV.fits]
 | .fn _ _, .ref,x,n,_=>by simp [inj,AV.fits]
 | .nilr, .ref,x,n,_=>by simp [inj,AV.fits]
 | .nils, .sl _,x,n,_=>by simp [inj,AV.fits]
 | .agg l,t,x,n,h=>by
  have:=Zja l t x n (by simpa only[Pat.fits] using h)
  simpa only[inj,AV.fits] using this
 | .rows t' k, .sl (.sl t),x,n,_=>by simp [inj,AV.fits]
 | .mrows _ _, .ref,x,n,_=>by simp [inj,AV.fits]
 | .it _ _, .ref,x,n,_=>by simp [inj,AV.fits]
 | .bld _ _ _, .ref,x,n,_=>by simp [inj,AV.fits]
 | .rows _ _, .int _,_,_,h=>by simp [Pat.fits]at h
 | .rows _ _, .bool,_,_,h=>by simp [Pat.fits]at h
 | .rows _ _, .str,_,_,h=>by simp [Pat.fits]at h
 | .rows _ _, .unit,_,_,h=>by simp [Pat.fits]at h
 | .rows _ _, .prod _ _,_,_,h=>by simp [Pat.fits]at h
 | .rows _ _, .arr _ _,_,_,h=>by simp [Pat.fits]at h
 | .rows _ _, .ref,_,_,h=>by simp [Pat.fits]at h
 | .rows _ _, .sl (.int _),_,_,h=>by simp [Pat.fits]at h
 | .rows _ _, .sl .bool,_,_,h=>by simp [Pat.fits]at h
 | .rows _ _, .sl .str,_,_,h=>by simp [Pat.fits]at h
 | .rows _ _, .sl .unit,_,_,h=>by simp [Pat.fits]at h
 | .rows _ _, .sl (.prod _ _),_,_,h=>by simp [Pat.fits]at h
 | .rows _ _, .sl (.arr _ _),_,_,h=>by simp [Pat.fits]at h
 | .rows _ _, .sl .ref,_,_,h=>by simp [Pat.fits]at h
 | .mrows _ _, .int _,_,_,h=>by simp [Pat.fits]at h
 | .mrows _ _, .bool,_,_,h=>by simp [Pat.fits]at h
 | .mrows _ _, .str,_,_,h=>by simp [Pat.fits]at h
 | .mrows _ _, .unit,_,_,h=>by simp [Pat.fits]at h
 | .mrows _ _, .prod _ _,_,_,h=>by simp [Pat.fits]at h
 | .mrows _ _, .arr _ _,_,_,h=>by simp [Pat.fits]at h
 | .mrows _ _, .sl _,_,_,h=>by simp [Pat.fits]at h
 | .it _ _, .int _,_,_,h=>by simp [Pat.fits]at h
 | .it _ _, .bool,_,_,h=>by simp [Pat.fits]at h
 | .it _ _, .str,_,_,h=>by simp [Pat.fits]at h
 | .it _ _, .unit,_,_,h=>by simp [Pat.fits]at h
 | .it _ _, .prod _ _,_,_,h=>by simp [Pat.fits]at h
 | .it _ _, .arr _ _,_,_,h=>by simp [Pat.fits]at h
 | .it _ _, .sl _,_,_,h=>by simp [Pat.fits]at h
 | .bld _ _ _, .int _,_,_,h=>by simp [Pat.fits]at h
 | .bld _ _ _, .bool,_,_,h=>by simp [Pat.fits]at h
 | .bld _ _ _, .str,_,_,h=>by simp [Pat.fits]at h
 | .bld _ _ _, .unit,_,_,h=>by simp [Pat.fits]at h
 | .bld _ _ _, .prod _ _,_,_,h=>by simp [Pat.fits]at h
 | .bld _ _ _, .arr _ _,_,_,h=>by simp [Pat.fits]at h
 | .bld _ _ _, .sl _,_,_,h=>by simp [Pat.fits]at h
 | .any,t,_,_,h=>by simp [Pat.fits]at h
 | .own _ _, .int _,_,_,h=>by simp [Pat.fits]at h
 | .own _ _, .bool,_,_,h=>by simp [Pat.fits]at h
 | .own _ _, .str,_,_,h=>by simp [Pat.fits]at h
 | .own _ _, .unit,_,_,h=>by simp [Pat.fits]at h
 | .own _ _, .prod _ _,_,_,h=>by simp [Pat.fits]at h
 | .own _ _, .arr _ _,_,_,h=>by simp [Pat.fits]at h
 | .own _ _, .ref,_,_,h=>by simp [Pat.fits]at h
 | .var _ _, .int _,_,_,h=>by simp [Pat.fits]at h
 | .var _ _, .bool,_,_,h=>by simp [Pat.fits]at h
 | .var _ _, .str,_,_,h=>by simp [Pat.fits]at h
 | .var _ _, .sl _,_,_,h=>by simp [Pat.fits]at h
 | .var _ _, .unit,_,_,h=>by simp [Pat.fits]at h
 | .var _ _, .prod _ _,_,_,h=>by simp [Pat.fits]at h
 | .var _ _, .arr _ _,_,_,h=>by simp [Pat.fits]at h
 | .ro _, .int _,_,_,h=>by simp [Pat.fits]at h
 | .ro _, .bool,_,_,h=>by simp [Pat.fits]at h
 | .ro _, .str,_,_,h=>by simp [Pat.fits]at h
 | .ro _, .sl _,_,_,h=>by simp [Pat.fits]at h
 | .ro _, .unit,_,_,h=>by simp [Pat.fits]at h
 | .ro _, .prod _ _,_,_,h=>by simp [Pat.fits]at h
 | .ro _, .arr _ _,_,_,h=>by simp [Pat.fits]at h
 | .map _ _, .int _,_,_,h=>by simp [Pat.fits]at h
 | .map _ _, .bool,_,_,h=>by simp [Pat.fits]at h
 | .map _ _, .str,_,_,h=>by simp [Pat.fits]at h
 | .map _ _, .sl _,_,_,h=>by simp [Pat.fits]at h
 | .map _ _, .unit,_,_,h=>by simp [Pat.fits]at h
 | .map _ _, .prod _ _,_,_,h=>by simp [Pat.fits]at h
 | .map _ _, .arr _ _,_,_,h=>by simp [Pat.fits]at h
 | .fn _ _, .int _,_,_,h=>by simp [Pat.fits]at h
 | .fn _ _, .bool,_,_,h=>by simp [Pat.fits]at h
 | .fn _ _, .str,_,_,h=>by simp [Pat.fits]at h
 | .fn _ _, .sl _,_,_,h=>by simp [Pat.fits]at h
 | .fn _ _, .unit,_,_,h=>by simp [Pat.fits]at h
 | .fn _ _, .prod _ _,_,_,h=>by simp [Pat.fits]at h
 | .fn _ _, .arr _ _,_,_,h=>by simp [Pat.fits]at h
 | .nilr, .int _,_,_,h=>by simp [Pat.fits]at h
 | .nilr, .bool,_,_,h=>by simp [Pat.fits]at h
 | .nilr, .str,_,_,h=>by simp [Pat.fits]at h
 | .nilr, .sl _,_,_,h=>by simp [Pat.fits]at h
 | .nilr, .unit,_,_,h=>by simp [Pat.fits]at h
 | .nilr, .prod _ _,_,_,h=>by simp [Pat.fits]at h
 | .nilr, .arr _ _,_,_,h=>by simp [Pat.fits]at h
 | .nils, .int _,_,_,h=>by simp [Pat.fits]at h
 | .nils, .bool,_,_,h=>by simp [Pat.fits]at h
 | .nils, .str,_,_,h=>by simp [Pat.fits]at h
 | .nils, .ref,_,_,h=>by simp [Pat.fits]at h
 | .nils, .unit,_,_,h=>by simp [Pat.fits]at h
 | .nils, .prod _ _,_,_,h=>by simp [Pat.fits]at h
 | .nils, .arr _ _,_,_,h=>by simp [Pat.fits]at h
theorem Zja: ∀ (l:Za5) (t:Ty) (x:ZcJ l) (n:Nat),l.fits t=true->(Zcz l x n).1.fits t=true
 | .nil, .unit,_,_,_=>by simp [Zcz,AVs.fits]
 | .cons p l, .prod a b,x,n,h=>by
  simp only[Za5.fits,Vc]at h;simp only[Zcz,AVs.fits,Vc]
  exact⟨Zic p a x.1 n h.1,Zja l b x.2 _ h.2⟩
 | .nil, .int _,_,_,h=>by simp [Za5.fits]at h
 | .nil, .bool,_,_,h=>by simp [Za5.fits]at h
 | .nil, .str,_,_,h=>by simp [Za5.fits]at h
 | .nil, .sl _,_,_,h=>by simp [Za5.fits]at h
 | .nil, .prod _ _,_,_,h=>by simp [Za5.fits]at h
 | .nil, .arr _ _,_,_,h=>by simp [Za5.fits]at h
 | .nil, .ref,_,_,h=>by simp [Za5.fits]at h
 | .cons _ _, .int _,_,_,h=>by simp [Za5.fits]at h
 | .cons _ _, .bool,_,_,h=>by simp [Za5.fits]at h
 | .cons _ _, .str,_,_,h=>by simp [Za5.fits]at h
 | .cons _ _, .sl _,_,_,h=>by simp [Za5.fits]at h
 | .cons _ _, .unit,_,_,h=>by simp [Za5.fits]at h
 | .cons _ _, .arr _ _,_,_,h=>by simp [Za5.fits]at h
 | .cons _ _, .ref,_,_,h=>by simp [Za5.fits]at h
end
structure ZfC (B:Zbr) (H:AH) (w:World) (g:Gh) (ow:Nat->Nat->Prop) (js:List Nat):Prop where
 nodup:js.Nodup
 free: ∀b∈js, ¬g.I b/\b<w.heap.size/\(B.own0 b\/B.w0.heap.size<=b)/\ ∀id,H id≠none-> ¬ow id b
structure Zfc (tk:List Nat) (g g' :Gh):Prop where
 I:g'.I=g.I
 ver: ∀id,g.K id->id ∉ tk->g'.ver id=g.ver id
theorem Zfc.refl(tk:List Nat)(g:Gh):Zfc tk g g:=⟨rfl,by omega⟩
theorem Zfc.weak{tk tk' :List Nat}{g g' :Gh}(h:Zfc tk g g')(ht: ∀id∈tk,id∈tk'):Zfc tk' g g' :=⟨h.I,fun id h1 h2=>h.ver id h1 (by grind)⟩
theorem Zfc.after{tk:List Nat}{g g1 g2:Gh}(h2:Zfc tk g1 g2)(h1:Zfc tk g g1)(l1:g.Le g1):Zfc tk g g2:=
 ⟨h2.I.trans h1.I,fun id h3 h4=>(h2.ver id (l1.K id h3) h4).trans (h1.ver id h3 h4)⟩
theorem Zfc.add{g:Gh}{n:Nat}(hk: ¬g.K n)(t:Ty)(b:Option Nat)(v:Value)(r: (kt:Ty)->El kt->Value):Zfc [] g (g.add n t b v r):=
 ⟨rfl,fun id h _=>if_neg (by grind)⟩
def ZfG(B:Zbr)(H:AH)(w:World)(g:Gh)(ow:Nat->Nat->Prop)(js:List Nat)(n n' :Nat)(H' :AH)(C:Gh->Prop):Prop:=
 ∃g' ow',g.Le g' /\Zfc [] g g' /\RH B H' w g' ow' /\C g' /\(∀id,g'.K id->g.K id\/(n<=id/\id<n'))/\(∀id b,H' id≠none->ow' id b->(H id≠none/\ow id b)\/b∈js)
section
variable {B:Zbr}{H:AH}{w:World}{g:Gh}{ow:Nat->Nat->Prop}
theorem ZfG.none(hR:RH B H w g ow){C:Gh->Prop}(n:Nat)(hC:C g):ZfG B H w g ow [] n n H C:=
 ⟨g,ow, .refl g, .refl [] g,hR,hC,by grind,by grind⟩
theorem ZfG.one(hR:RH B H w g ow){js:List Nat}{n:Nat}{o:Zc0}{t:Ty}{b:Option Nat}{v:Value}{r: (kt:Ty)->El kt->Value}{C:Gh->Prop}(hk: ¬g.K n)(hf:ZfC B H w g ow js)
  (ho:ZeB w (g.add n t b v r) (· ∈js) n o) (hC:C (g.add n t b v r)):ZfG B H w g ow js n (n+1) (Zbl H n (some o)) C:=by
 refine⟨g.add n t b v r,Zc4 ow n (· ∈js),Gh.le_add hk t b v r, .add hk t b v r,hR.add hk (by simp) (Va _) rfl rfl ⟨rfl,Va _⟩ (fun k hkj=>hf.free k hkj) ho,hC,fun id h=> ?_,fun id b' h1 h2=> ?_⟩
 ·rcases h with rfl|h
  all_goals grind
 ·by_cases hi:id=n
  ·subst hi;rw[ZaD]at h2;grind
  ·rw[Zat hi]at h1;rw[ZaI hi]at h2;grind
theorem ZfC.sub{js ks:List Nat}(h:ZfC B H w g ow js)(hs:ks.Sublist js):ZfC B H w g ow ks:=⟨h.nodup.sublist hs,fun b hb=>h.free b (hs.subset hb)⟩
theorem ZfC.after{js ks:List Nat}(h:ZfC B H w g ow (js++ks)){g' :Gh}{ow' :Nat->Nat->Prop}{H' :AH}(hI:g'.I=g.I)(ho: ∀id b,H' id≠none->ow' id b->(H id≠none/\ow id b)\/b∈js):ZfC B H' w g' ow' ks:=by
 obtain⟨n1,n2,n3⟩:=List.nodup_append.1 h.nodup;refine⟨n2,fun b hb=> ?_⟩;obtain⟨h1,h2,h3,h4⟩:=h.free b (by grind)
 grind
mutual
theorem Zi0: ∀ (p:Pat) {H:AH}{g:Gh}{ow:Nat->Nat->Prop} (_:RH B H w g ow) (x:ElP p) (js:List Nat) (cs:List Value) (n:Nat),PC w g.I p x js cs->ZfC B H w g ow js->(∀id,n<=id->id< (inj p x n).2.2-> ¬g.K id)->
  ZfG B H w g ow js n (inj p x n).2.2 (Zad H (Zbu (inj p x n).2.1)) fun g' =>CV w g' (inj p x n).1 cs
 | .pd t,H,g,ow,hR,x,js,cs,n,h,_,_=>by
  obtain⟨rfl,h⟩:=h
  exact ZfG.none hR n (by simpa only[inj,CV] using h)
 | .own t k,H,g,ow,hR,x,js,cs,n,h,hf,hk=>by
  rcases h with ⟨rfl,rfl,rfl⟩ | ⟨b,cap,cells,e,css,rfl,rfl,h1,h2,h3,h4,h5⟩
  ·exact ZfG.one (t:=t) (b:=none) (v:= .slice none 0 0) (r:=fun _ _=> .slice none 0 0) hR (hk n (Va _) (by simp [inj])) hf ⟨by simp [Gh.add], .inl ⟨rfl,by simp [Gh.add],by simp [Gh.add]⟩⟩
    (by simp only[inj,CV];exact⟨.inl rfl,by simp [Gh.add],by simp [Gh.add];rfl⟩)
  ·exact ZfG.one (t:=t) (b:=some b) (v:= .slice (some ⟨b,0,Option.none⟩) x.length cap) (r:=fun _ _=> .slice Option.none 0 0) hR (hk n (Va _) (by simp [inj])) hf
    ⟨by simp [Gh.add], .inr ⟨b,cap,cells,e,css,by simp [Gh.add],by simp,by simp [Gh.add],h1,h2,h3,h4,h5⟩⟩
    (by simp only[inj,CV];exact⟨.inl rfl,by simp [Gh.add],by simp [Gh.add];rfl⟩)
 | .var t p,H,g,ow,hR,x,js,cs,n,h,hf,hk=>by
  obtain⟨hft,b,js',cells,e,rfl,rfl,h1,h2,h3⟩:=h;have hn:=(Zbx p x (n+1)).1;obtain⟨g1,ow1,l1,i1,r1,c1,k1,o1⟩:=Zi0 p hR x js' cells.toList (n+1) h3 (hf.sub (List.sublist_cons_self _ _)) (fun id h h' =>hk id (by omega) (by simpa only[inj] using h'))
  have hk1: ¬g1.K n:=fun h=>by
   rcases k1 n h with h|h
   ·exact hk n (Va _) (by simp only[inj];omega) h
   ·omega
  have hfr:ZfC B (Zad H (Zbu (inj p x (n+1)).2.1)) w g1 ow1 [b]:=by
   obtain⟨h5,h6⟩:=List.nodup_cons.1 hf.nodup;refine⟨by simp,fun b' hb' => ?_⟩;simp only[Vb]at hb';subst hb';obtain⟨h7,h8,h9,h10⟩:=hf.free b' (by simp);refine⟨by rw[i1.I];exact h7,h8,h9,fun id h11 h12=> ?_⟩;rcases o1 id b' h11 h12 with ⟨h13,h14⟩ |h13
   ·exact h10 id h13 h14
   ·exact h5 h13
  obtain⟨g2,ow2,l2,i2,r2,c2,k2,o2⟩:=ZfG.one (o:= .var t (inj p x (n+1)).1) (t:=t) (b:=some b) (v:= .slice none 0 0) (r:=fun _ _=> .slice none 0 0) (C:=fun g' =>CV w g' (.ptr n []) [.pointer (some ⟨b,0,none⟩)]) r1 hk1 hfr
   ⟨by simp [Gh.add],Zic p t x (n+1) hft,b,cells,e,by simp [Gh.add],by simp,h1,h2,c1.mono (fun _ _=>rfl) (Gh.le_add hk1 _ _ _)⟩
   (by simp only[CV];exact⟨.inl rfl,0,t,b,by simp [Gh.add,Zaz],by simp [Gh.add],rfl⟩)
  have hH:Zad H (Zbu (inj (.var t p) x n).2.1)=Zbl (Zad H (Zbu (inj p x (n+1)).2.1)) n (some (.var t (inj p x (n+1)).1)):=by
   have:Zbu (inj (.var t p) x n).2.1=(n,some (.var t (inj p x (n+1)).1))::Zbu (inj p x (n+1)).2.1:=by simp [inj,Zbu]
   rw[this];simp only[Zad];refine ZdZ fun q hq=> ?_;simp only[Zbu,List.mem_map]at hq;obtain⟨o,ho,rfl⟩:=hq;have:=((Zbx p x (n+1)).2 o ho).1;show o.1≠n;omega
  rw[hH];refine⟨g2,ow2,l1.trans l2,i2.after i1 l1,r2,by simpa only[inj] using c2,fun id h=> ?_,fun id b' h5 h6=> ?_⟩
  ·simp only[inj];rcases k2 id h with h|h
   ·rcases k1 id h with h|h
    ·exact .inl h
    ·exact .inr (by omega)
   ·exact .inr (by omega)
  ·rcases o2 id b' h5 h6 with ⟨h7,h8⟩ |h7
   ·rcases o1 id b' h7 h8 with h9|h9
    ·exact .inl h9
    ·exact .inr (by simp [h9])
   ·simp only[Vb]at h7;exact .inr (by simp [h7])
 | .ro t,H,g,ow,hR,x,js,cs,n,h,_,_=>by
  obtain⟨rfl,h⟩:=h
  exact ZfG.none hR n (by simpa only[inj,CV] using h)
 | .map kt vt,H,g,ow,hR,x,js,cs,n,h,hf,hk=>by
  obtain⟨b,es,clock,rfl,rfl,h1,hbn,h2⟩:=h
  exact ZfG.one (t:= .unit) (b:=some b) (v:= .slice none 0 0) (r:=fun _ _=> .slice none 0 0) hR (hk n (Va _) (by simp [inj])) hf
   ⟨b,es,clock,by simp [Gh.add],by simp,h1,hbn,h2.mono fun kv e hx=>⟨⟨by simp only[CV];exact hx.1.1, .inr (by simpa [AV.isAgg] using hx.1.2)⟩,⟨by simp only[CV];exact hx.2.1, .inr (by simpa [AV.isAgg] using hx.2.2)⟩⟩⟩
   (by simp only[inj,CV];exact⟨.inl rfl,b,by simp [Gh.add],rfl⟩)
 | .it kt vt,H,g,ow,hR,x,js,cs,n,h,hf,hk=>by
  obtain⟨b,mb,es,clock,since,seen,rfl,hne,rfl,h1,h2,h3,h4⟩:=h
  exact ZfG.one (t:= .ref) (b:=some b) (v:=undef) (r:=fun _ _=> .slice none 0 0) hR (hk n (Va _) (by simp [inj])) hf
   ⟨b,mb,es,clock,since,seen,by simp [Gh.add],by simp [Gh.add],by simp,by simp,h1,h2,h3,h4.mono fun kv e hx=>⟨⟨by simp only[CV];exact hx.1.1, .inr (by simpa [AV.isAgg] using hx.1.2)⟩,⟨by simp only[CV];exact hx.2.1, .inr (by simpa [AV.isAgg] using hx.2.2)⟩⟩,fun kv hkv=>by cases hkv⟩
   (by simp only[inj,CV];exact⟨.inl rfl,0, .ref,b,by simp [Gh.add,Zaz],by simp [Gh.add],rfl⟩)
 | .rows t k,H,g,ow,hR,x,js,cs,n,h,hf,hk=>by
  obtain⟨v,rfl,h⟩:=h;obtain⟨b,r,ho⟩:=h.obj n
  have hval:v.oneCell' =true:=by
   obtain⟨hd,_,h⟩:=h
   rcases h with ⟨_,rfl⟩ | ⟨_,_,_,_,_,_,rfl,_⟩<;>rfl
  exact ZfG.one (t:= .sl t) (b:=b) (v:=v) (r:=r) hR (hk n (Va _) (by simp [inj])) hf ho (by simp only[inj,CV];exact⟨.inl rfl,by simp [Gh.add],by simp [Gh.add,hval]⟩)
 | .mrows kt t,H,g,ow,hR,x,js,cs,n,h,hf,hk=>by
  obtain⟨v,rfl,h⟩:=h;have hv: ∃b,v= .map (some b):=by obtain⟨_,b,_,_,h,_⟩:=h;exact⟨b,h⟩
  obtain⟨b,rfl⟩:=hv;obtain⟨r,ho⟩:=h.obj n
  exact ZfG.one (t:= .sl t) (b:=some b) (v:=undef) (r:=r) hR (hk n (Va _) (by simp [inj])) hf ho (by simp only[inj,CV];exact⟨.inl rfl,b,by simp [Gh.add],rfl⟩)
 | .bld T e k,H,g,ow,hR,x,js,cs,n,h,hf,hk=>by
  obtain⟨b,rfl,h⟩:=h
  exact ZfG.one (o:= .bld T e x) (t:= .unit) (b:=some b) (v:= .slice none 0 0) (r:=fun _ _=> .slice none 0 0) hR (hk n (Va _) (by simp [inj])) hf ⟨b,by simp [Gh.add],h⟩
   (by simp only[inj,CV];exact⟨.inl rfl,0, .unit,b,by simp [Gh.add,Zaz],by simp [Gh.add],rfl⟩)
 | .agg l,H,g,ow,hR,x,js,cs,n,h,hf,hk=>by
  simp only[PC]at h;simp only[inj,CV]
  exact Zjk l hR x js cs n h hf (by simpa only[inj] using hk)
 | .fn f l,H,g,ow,hR,x,js,cs,n,h,hf,hk=>by
  simp only[PC]at h;obtain⟨cc,rfl,h⟩:=h;simp only[inj,CV];obtain⟨g1,ow1,l1,i1,r1,c1,k1,o1⟩:=Zjk l hR x js cc n h hf (by simpa only[inj] using hk)
  exact⟨g1,ow1,l1,i1,r1,⟨cc,rfl,c1⟩,k1,o1⟩
 | .nilr,H,g,ow,hR,x,js,cs,n,h,_,_=>by
  obtain⟨rfl,h⟩:=h
  exact ZfG.none hR n (by simpa only[inj,CV] using h)
 | .nils,H,g,ow,hR,x,js,cs,n,h,_,_=>by
  obtain⟨rfl,h⟩:=h
  exact ZfG.none hR n (by simpa only[inj,CV] using h)
 | .any,H,g,ow,hR,x,js,cs,n,h,_,_=>by obtain rfl:=h;exact ZfG.none hR n (by simp only[inj,CV])
theorem Zjk: ∀ (l:Za5) {H:AH}{g:Gh}{ow:Nat->Nat->Prop} (_:RH B H w g ow) (x:ZcJ l) (js:List Nat) (cs:List Value) (n:Nat),PCs w g.I l x js cs->ZfC B H w g ow js->(∀id,n<=id->id< (Zcz l x n).2.2-> ¬g.K id)->
  ZfG B H w g ow js n (Zcz l x n).2.2 (Zad H (Zbu (Zcz l x n).2.1)) fun g' =>CVs w g' (Zcz l x n).1 cs
 | .nil,H,g,ow,hR,x,js,cs,n,h,_,_=>by
  obtain⟨rfl,rfl⟩:=h
  exact ZfG.none hR n (by simp only[Zcz,CVs])
 | .cons p l,H,g,ow,hR,x,js,cs,n,h,hf,hk=>by
  obtain⟨j1,j2,c1,c2,rfl,rfl,h1,h2⟩:=h;have n1:=(Zbx p x.1 n).1;have n2:=(Zdm l x.2 (inj p x.1 n).2.2).1;have hk' : ∀id,n<=id->id< (Zcz l x.2 (inj p x.1 n).2.2).2.2-> ¬g.K id:=by simpa only[Zcz] using hk
  obtain⟨g1,ow1,l1,i1,r1,d1,k1,o1⟩:=Zi0 p hR x.1 j1 c1 n h1 (hf.sub (List.sublist_append_left _ _)) fun id h h' =>hk' id h (by omega)
  obtain⟨g2,ow2,l2,i2,r2,d2,k2,o2⟩:=Zjk l r1 x.2 j2 c2 (inj p x.1 n).2.2 (by rw[i1.I];exact h2) (hf.after i1.I o1) fun id h h' hK=>by
   rcases k1 id hK with h3|h3
   ·exact hk' id (by omega) h' h3
   ·omega
  have hH:Zad H (Zbu (Zcz (.cons p l) x n).2.1)=Zad (Zad H (Zbu (inj p x.1 n).2.1)) (Zbu (Zcz l x.2 (inj p x.1 n).2.2).2.1):=by rw[<-Zau];simp [Zcz,Zbu]
  rw[hH];simp only[Zcz,CVs];refine⟨g2,ow2,l1.trans l2,i2.after i1 l1,r2,⟨c1,c2,rfl,d1.mono (fun _ _=>rfl) l2,d2⟩,fun id h=> ?_,fun id b' h5 h6=> ?_⟩
  ·rcases k2 id h with h|h
   ·rcases k1 id h with h|h
    ·exact .inl h
    ·exact .inr (by omega)
   ·exact .inr (by omega)
  ·rcases o2 id b' h5 h6 with ⟨h7,h8⟩ |h7
   ·rcases o1 id b' h7 h8 with h9|h9
    ·exact .inl h9
    ·exact .inr (by simp [h9])
   ·exact .inr (by simp [h7])
end
end
end Tr
