/- Paths into data and objects: what extraction and setting at a path mean for the cells. Conditions: none. -/
import Derived.Test.YtdpenljjnfmgiaaGreatTrE
open Bool renaming and_eq_true ->Vf,false_eq_true ->Vg
open List renaming length_append ->Vc,mem_append ->Vh
open Option renaming bind_some ->Vb
open Prod.mk renaming inj ->Vd,injEq ->Ve
open Go.Value renaming oneCell' ->Va
namespace Tr
open Go
def mkV(agg:Bool)(cs:List Value):Value:=if agg then .agg cs.toArray else cs.headD undef
theorem Rd.oneCell{w:World}{I:Nat->Prop} : ∀ (t:Ty) (x:El t) (cs:List Value),Rd w I t x cs-> ∀v∈cs,v.oneCell' =true
 | .int _,_,_,h=>by rw[h];simp [Va]
 | .bool,_,_,h=>by rw[h];simp [Va]
 | .str,_,_,h=>by rw[h];simp [Va]
 | .sl t,x,cs,h=>by
  obtain⟨a,cap,css,h1,_⟩:=h
  rw[h1];simp [Va]
 | .unit,_,_,h=>by rw[h];simp
 | .prod a b,x,cs,h=>by
  obtain⟨c1,c2,h1,h2,h3⟩:=h;rw[h1];intro v hv;rcases Vh.1 hv with hv|hv
  ·exact Rd.oneCell a _ _ h2 v hv
  ·exact Rd.oneCell b _ _ h3 v hv
 | .arr n t,x,cs,h=>by
  obtain⟨h1,css,h2,h3⟩:=h;rw[h2];intro v hv;obtain⟨c,hc,hv⟩:=List.mem_flatten.1 hv
  exact h3.all_right (p:=fun c=> ∀v∈c,v.oneCell' =true) (fun y c hy=>Rd.oneCell t y c hy) c hc v hv
 | .ref,_,_,h=>h.elim
mutual
theorem CV.oneCell{w:World}{g:Gh} : ∀ (a:AV) (cs:List Value),a≠ .junk->CV w g a cs->(∀t,a.fits t=true-> ∀v∈cs,v.oneCell' =true)
 | .d t x,cs,_,h,_,_=>Rd.oneCell t x cs (by simpa only[CV] using h)
 | .junk,_,h,_,_,_=>absurd rfl h
 | .tup _,_,_,h,_,_=>by simp [CV]at h
 | .agg l,cs,_,h,t,hf=>CVs.oneCell l cs (by simpa only[CV] using h) t (by simpa only[AV.fits] using hf)
 | .dp t x,cs,_,h,_,_=>by simp only[CV]at h;obtain⟨b,off,c,h1,_⟩:=h;rw[h1];simp [Va]
 | .ptr id p,cs,_,h,_,_=>by simp only[CV]at h;obtain⟨_,o,t,b,_,_,h3⟩:=h;rw[h3];simp [Va]
 | .vw id,cs,_,h,t,hf=>by simp only[CV]at h;rw[h.2.1];intro v hv;simp at hv;rw[hv];exact h.2.2
 | .vs id lo n,cs,_,h,_,_=>by
  simp only[CV]at h
  rcases h.2 with ⟨_,_,_,h⟩ | ⟨b,len,cap,m,_,_,_,_,h⟩<;>rw[h]<;>simp [Va]
 | .vp id i p,cs,_,h,_,_=>by simp only[CV]at h;obtain⟨_,o,t,b,_,_,h3⟩:=h;rw[h3];simp [Va]
 | .mp id,cs,_,h,_,_=>by simp only[CV]at h;obtain⟨_,b,_,h3⟩:=h;rw[h3];simp [Va]
 | .fn f l,cs,_,h,_,_=>by simp only[CV]at h;obtain⟨cc,h1,_⟩:=h;rw[h1];simp [Va]
 | .nilr,cs,_,h,_,_=>by
  simp only[CV]at h;rcases h with h|h|h<;>rw[h]<;>simp [Va]
 | .nils,cs,_,h,_,_=>by simp only[CV]at h;rw[h];simp [Va]
 | .jk n,cs,_,h,_,_=>by simp only[CV]at h;exact h.2
 | .nw id ver kt k,cs,_,h,_,_=>by simp only[CV]at h;obtain⟨_,_,v,h1,h2,_⟩:=h;rw[h1];intro u hu;simp at hu;rw[hu];exact h2
 | .np id ver kt k i p,cs,_,h,_,_=>by simp only[CV]at h;obtain⟨_,_,a,h1,_⟩:=h;rw[h1];simp [Va]
theorem CVs.oneCell{w:World}{g:Gh} : ∀ (l:AVs) (cs:List Value),CVs w g l cs->(∀t,l.fits t=true-> ∀v∈cs,v.oneCell' =true)
 | .nil,cs,h,_,_=>by simp only[CVs]at h;rw[h];simp
 | .cons a l,cs,h,t,hf=>by
  simp only[CVs]at h;obtain⟨c1,c2,h1,h2,h3⟩:=h
  cases t<;>simp only[AVs.fits,Vf,Vg]at hf
  rw[h1];intro v hv;rcases Vh.1 hv with hv|hv
  ·refine CV.oneCell a c1 ?_ h2 _ hf.1 v hv;rintro rfl;simp [AV.fits]at hf
  ·exact CVs.oneCell l c2 h3 _ hf.2 v hv
end
mutual
theorem CV.length{w:World}{g:Gh} : ∀ (a:AV) (t:Ty) (cs:List Value),a.fits t=true->CV w g a cs->cs.length=t.size
 | .d t' x,t,cs,hf,h=>by
  simp only[AV.fits,beq_iff_eq]at hf;subst hf
  exact Rd.length _ _ _ (by simpa only[CV] using h)
 | .junk,_,_,hf,_=>by simp [AV.fits]at hf
 | .tup _,_,_,hf,_=>by simp [AV.fits]at hf
 | .agg l,t,cs,hf,h=>CVs.length l t cs (by simpa only[AV.fits] using hf) (by simpa only[CV] using h)
 | .jk n,t,cs,hf,h=>by
  simp only[AV.fits,beq_iff_eq]at hf
  simp only[CV]at h;rw[h.1,hf]
 | .dp _ _,t,cs,hf,h=>by
  cases t<;>simp [AV.fits]at hf
  simp only[CV]at h;obtain⟨_,_,_,h1,_⟩:=h;rw[h1];rfl
 | .ptr _ _,t,cs,hf,h=>by
  cases t<;>simp [AV.fits]at hf
  simp only[CV]at h;obtain⟨_,_,_,_,_,_,h1⟩:=h;rw[h1];rfl
 | .vp _ _ _,t,cs,hf,h=>by
  cases t<;>simp [AV.fits]at hf
  simp only[CV]at h;obtain⟨_,_,_,_,_,_,h1⟩:=h;rw[h1];rfl
 | .mp _,t,cs,hf,h=>by
  cases t<;>simp [AV.fits]at hf
  simp only[CV]at h;obtain⟨_,_,_,h1⟩:=h;rw[h1];rfl
 | .fn _ _,t,cs,hf,h=>by
  cases t<;>simp [AV.fits]at hf
  simp only[CV]at h;obtain⟨_,h1,_⟩:=h;rw[h1];rfl
 | .nilr,t,cs,hf,h=>by
  cases t<;>simp [AV.fits]at hf
  simp only[CV]at h;rcases h with h|h|h<;>rw[h]<;>rfl
 | .vw _,t,cs,hf,h=>by
  cases t<;>simp [AV.fits]at hf
  simp only[CV]at h;rw[h.2.1];rfl
 | .vs _ _ _,t,cs,hf,h=>by
  cases t<;>simp [AV.fits]at hf
  simp only[CV]at h;rcases h.2 with ⟨_,_,_,h1⟩ | ⟨_,_,_,_,_,_,_,_,h1⟩<;>rw[h1]<;>rfl
 | .nils,t,cs,hf,h=>by
  cases t<;>simp [AV.fits]at hf
  simp only[CV]at h;rw[h];rfl
 | .nw _ _ _ _,t,cs,hf,h=>by
  cases t<;>simp [AV.fits]at hf
  simp only[CV]at h;obtain⟨_,_,v,h1,_⟩:=h;rw[h1];rfl
 | .np _ _ _ _ _ _,t,cs,hf,h=>by
  cases t<;>simp [AV.fits]at hf
  simp only[CV]at h;obtain⟨_,_,a,h1,_⟩:=h;rw[h1];rfl
theorem CVs.length{w:World}{g:Gh} : ∀ (l:AVs) (t:Ty) (cs:List Value),l.fits t=true->CVs w g l cs->cs.length=t.size
 | .nil,t,cs,hf,h=>by
  cases t<;>simp [AVs.fits]at hf
  simp only[CVs]at h;rw[h];rfl
 | .cons a l,t,cs,hf,h=>by
  cases t<;>simp only[AVs.fits,Vf,Vg]at hf
  simp only[CVs]at h;obtain⟨c1,c2,h1,h2,h3⟩:=h;rw[h1,Vc,CV.length a _ c1 hf.1 h2,CVs.length l _ c2 hf.2 h3];rfl
end
theorem Zan{t t' :Ty}{x:El t}{y:El t'}(h:ZaE t t' x=some y): ∃e:t=t',y=e▸x:=by
 unfold ZaE at h
 grind
theorem Zdh{t:Ty}{x y:El t}(h:ZaE t t x=some y):y=x:=by obtain⟨e,h⟩:=Zan h;omega
theorem Za7{css:List (List Value)}{i:Nat}{c:List Value}(h:css[i]? =some c)(n:Nat)(hn: ∀c∈css,c.length=n):
  css.flatten=(css.take i).flatten++c++(css.drop (i+1)).flatten/\(css.take i).flatten.length=i*n/\
  ∀c',(css.set i c').flatten=(css.take i).flatten++c' ++(css.drop (i+1)).flatten:=by
 obtain⟨hi,rfl⟩:=List.getElem?_eq_some_iff.1 h;refine⟨?_, ?_,fun c' => ?_⟩
 ·rw[<-List.flatten_append_singleton_flatten hi]
 ·rw[Zap fun c hc=>hn c (List.mem_of_mem_take hc),List.length_take,Nat.min_eq_left (Nat.le_of_lt hi)]
 ·rw[List.set_eq_take_append_cons_drop,if_pos hi];simp
where
 List.flatten_append_singleton_flatten {css:List (List Value)}{i:Nat} (hi:i<css.length):css.flatten=(css.take i).flatten++css[i]++(css.drop (i+1)).flatten:=by
  have h1:css=css.take i++css.drop i:=by simp
  have h2:css.drop i=css[i]::css.drop (i+1):=List.drop_eq_getElem_cons hi
  grind
def At(t:Ty)(p:List Nat)(t' :Ty)(cs c1:List Value):Prop:= ∃o pre post,Zbh t p=some (o,t')/\cs=pre++c1++post/\pre.length=o
theorem ZeT{w:World}{I:Nat->Prop}{H:AH} : ∀ (p:List Nat) (t:Ty) (x:El t) (l l' :List Nat) (r:DV) (cs:List Value),(Zeh t x p).run H l=some (r,l')->Rd w I t x cs->
  l' =l/\ ∃c1,At t p r.1 cs c1/\Rd w I r.1 r.2 c1:=by
 intro p t
 induction t generalizing p with
 |prod a b iha ihb=>
  intro x l l' r cs h hr;obtain⟨c1,c2,h1,h2,h3⟩:=hr
  match p with
  | []=>
   simp only[Zeh,Acc.run,Option.some.injEq,Ve]at h;obtain⟨rfl,rfl⟩:=h
   exact⟨rfl,cs,⟨0,[],[],rfl,by simp,rfl⟩,c1,c2,h1,h2,h3⟩
  |0::p=>
   simp only[Zeh]at h;obtain⟨e,d,⟨o,pre,post,h4,h5,h6⟩,h7⟩:=iha p x.1 l l' r c1 h h2
   exact⟨e,d,⟨o,pre,post++c2,by assumption,by grind,h6⟩,h7⟩
  | (n+1)::p=>
   simp only[Zeh]at h;obtain⟨e,d,⟨o,pre,post,h4,h5,h6⟩,h7⟩:=ihb (n::p) x.2 l l' r c2 h h3;refine⟨e,d,⟨o+a.size,c1++pre,post,by simp [Zbh,h4],by grind, ?_⟩,h7⟩
   rw[Vc,Rd.length a _ _ h2,h6];omega
 |arr n t ih=>
  intro x l l' r cs h hr;obtain⟨h1,css,h2,h3⟩:=hr
  match p with
  | []=>
   simp only[Zeh,Acc.run,Option.some.injEq,Ve]at h;obtain⟨rfl,rfl⟩:=h
   exact⟨rfl,cs,⟨0,[],[],rfl,by simp,rfl⟩,h1,css,h2,h3⟩
  |i::p=>
   simp only[Zeh,Acc.run]at h
   cases hx: (x:List (El t))[i]? with
   |none=>grind
   |some y=>
    rw[hx]at h;simp only[Vb]at h;obtain⟨c,hc,hy⟩:=h3.get i y hx;obtain⟨e,d,⟨o,pre,post,h4,h5,h6⟩,h7⟩:=ih p y l l' r c h hy;obtain⟨s1,s2,_⟩:=Za7 hc t.size (Rd.all_length h3)
    have hi:i<n:=by
     grind
    refine⟨e,d,⟨o+i*t.size,(css.take i).flatten++pre,post++(css.drop (i+1)).flatten,by simp [Zbh,hi,h4],by grind, ?_⟩,h7⟩
    grind
 |_=>
  intro x l l' r cs h hr
  match p with
  | []=>
   simp only[Zeh,Acc.run,Option.some.injEq,Ve]at h;obtain⟨rfl,rfl⟩:=h
   exact⟨rfl,cs,⟨0,[],[],rfl,by simp,rfl⟩,hr⟩
  |_::_=>simp [Zeh,Acc.run]at h
theorem ZeL{w:World}{I:Nat->Prop}{H:AH} : ∀ (p:List Nat) (t:Ty) (x:El t) (l l' :List Nat) (y:DV) (z:El t) (cs d:List Value),(Zc3 t x p y).run H l=some (z,l')->Rd w I t x cs->Rd w I y.1 y.2 d->
  l' =l/\ ∃o pre c1 post,Zbh t p=some (o,y.1)/\cs=pre++c1++post/\pre.length=o/\c1.length=d.length/\Rd w I t z (pre++d++post):=by
 intro p t
 induction t generalizing p with
 |prod a b iha ihb=>
  intro x l l' y z cs d h hr hd;obtain⟨c1,c2,h1,h2,h3⟩:=hr
  match p with
  | []=>
   simp only[Zc3,Acc.run]at h
   cases hc:ZaE y.1 (.prod a b) y.2 with
   |none=>grind
   |some z' =>
    rw[hc]at h;simp only[Vb,Option.some.injEq,Ve]at h;obtain⟨rfl,rfl⟩:=h;obtain⟨t1,y1⟩:=y;obtain⟨e,hz⟩:=Zan hc;simp only at e;subst e;have hz:=hz;subst hz;refine⟨rfl,0,[],cs,[],rfl,by simp,rfl, ?_,by grind⟩
    rw[Rd.length _ _ _ hd,h1,Vc,Rd.length a _ _ h2,Rd.length b _ _ h3];rfl
  |0::p=>
   simp only[Zc3,Acc.run_bind]at h
   cases hs: (Zc3 a x.1 p y).run H l with
   |none=>grind
   |some q=>
    rw[hs]at h;simp only[Vb,Acc.run,Option.some.injEq,Ve]at h;obtain⟨rfl,rfl⟩:=h;obtain⟨e,o,pre,k,post,h4,h5,h6,h7,h8⟩:=iha p x.1 l q.2 y q.1 c1 d hs h2 hd
    exact⟨e,o,pre,k,post++c2,by assumption,by grind,h6,h7,pre++d++post,c2,by simp,h8,h3⟩
  | (n+1)::p=>
   simp only[Zc3,Acc.run_bind]at h
   cases hs: (Zc3 b x.2 (n::p) y).run H l with
   |none=>grind
   |some q=>
    rw[hs]at h;simp only[Vb,Acc.run,Option.some.injEq,Ve]at h;obtain⟨rfl,rfl⟩:=h;obtain⟨e,o,pre,k,post,h4,h5,h6,h7,h8⟩:=ihb (n::p) x.2 l q.2 y q.1 c2 d hs h3 hd;refine⟨e,o+a.size,c1++pre,k,post,by simp [Zbh,h4],by grind, ?_,h7,c1,pre++d++post,by simp,h2,h8⟩
    rw[Vc,Rd.length a _ _ h2,h6];omega
 |arr n t ih=>
  intro x l l' y z cs d h hr hd;obtain⟨h1,css,h2,h3⟩:=hr
  match p with
  | []=>
   simp only[Zc3,Acc.run]at h
   cases hc:ZaE y.1 (.arr n t) y.2 with
   |none=>grind
   |some z' =>
    rw[hc]at h;simp only[Vb,Option.some.injEq,Ve]at h;obtain⟨rfl,rfl⟩:=h;obtain⟨t1,y1⟩:=y;obtain⟨e,hz⟩:=Zan hc;simp only at e;subst e;have hz:=hz;subst hz;refine⟨rfl,0,[],cs,[],rfl,by simp,rfl, ?_,by grind⟩
    rw[Rd.length _ _ _ hd,h2,Zap (Rd.all_length h3), <-h3.length,h1];rfl
  |i::p=>
   simp only[Zc3,Acc.run]at h
   cases hx: (x:List (El t))[i]? with
   |none=>grind
   |some y0=>
    rw[hx]at h;simp only[Vb,Acc.run_bind]at h
    cases hs: (Zc3 t y0 p y).run H l with
    |none=>grind
    |some q=>
     rw[hs]at h;simp only[Vb,Acc.run,Option.some.injEq,Ve]at h;obtain⟨rfl,rfl⟩:=h;obtain⟨c,hc,hy⟩:=h3.get i y0 hx;obtain⟨e,o,pre,k,post,h4,h5,h6,h7,h8⟩:=ih p y0 l q.2 y q.1 c d hs hy hd;obtain⟨s1,s2,s3⟩:=Za7 hc t.size (Rd.all_length h3)
     have hi:i<n:=by
      grind
     refine⟨e,o+i*t.size,(css.take i).flatten++pre,k,post++(css.drop (i+1)).flatten,by simp [Zbh,hi,h4],by grind, ?_,h7, ?_,css.set i (pre++d++post), ?_,h3.set i h8⟩
     all_goals grind
 |_=>
  intro x l l' y z cs d h hr hd
  match p with
  | []=>
   simp only[Zc3,Acc.run]at h
   cases hc:ZaE y.1 _ y.2 with
   |none=>rw[hc]at h;grind
   |some z' =>
    rw[hc]at h;simp only[Vb]at h;obtain⟨rfl,rfl⟩:=Vd (Option.some.inj h);obtain⟨t1,y1⟩:=y;obtain⟨e,hz⟩:=Zan hc;simp only at e;subst e;have hz:=hz;subst hz;refine⟨rfl,0,[],cs,[],rfl,by simp,rfl, ?_,by grind⟩
    rw[Rd.length _ _ _ hd,Rd.length _ _ _ hr]
  |_::_=>simp [Zc3,Acc.run]at h
theorem Zlq{w:World}{g:Gh}{H:AH} : ∀ (l:AVs) (t:Ty) (n:Nat) (p:List Nat) (k k' :List Nat) (v:AV) (cs:List Value),
  (∀ (a:AV) (t:Ty) (p k k' :List Nat) (v:AV) (cs:List Value),sizeOf a<sizeOf l->(ZgG a p).run H k=some (v,k')->a.fits t=true->CV w g a cs->k' =k/\ ∃t' c1,At t p t' cs c1/\v.fits t' =true/\CV w g v c1)->
  (Zhj l n p).run H k=some (v,k')->l.fits t=true->CVs w g l cs->k' =k/\ ∃t' c1,At t (n::p) t' cs c1/\v.fits t' =true/\CV w g v c1:=by
 intro l
 induction l using AVs.rec (motive_1:=fun _=>True) with
 |nil=>intro t n p k k' v cs _ h;simp [Zhj,Acc.run]at h
 |cons a l _ ih=>
  intro t n p k k' v cs hrec h hf hc
  cases t<;>simp only[AVs.fits,Vf,Vg]at hf
  rename_i ta tb;simp only[CVs]at hc;obtain⟨c1,c2,h1,h2,h3⟩:=hc
  cases n with
  |zero=>
   simp only[Zhj]at h;obtain⟨e,t',d,⟨o,pre,post,h4,h5,h6⟩,h7,h8⟩:=hrec a ta p k k' v c1 (by grind) h hf.1 h2
   exact⟨e,t',d,⟨o,pre,post++c2,by assumption,by grind,h6⟩,h7,h8⟩
  |succ n=>
   simp only[Zhj]at h;obtain⟨e,t',d,⟨o,pre,post,h4,h5,h6⟩,h7,h8⟩:=ih tb n p k k' v c2 (by grind) h hf.2 h3;refine⟨e,t',d,⟨o+ta.size,c1++pre,post,by simp [Zbh,h4],by grind, ?_⟩,h7,h8⟩
   rw[Vc,CV.length a _ _ hf.1 h2,h6];omega
 |_=>trivial
theorem Zlu{w:World}{g:Gh}{H:AH}(N:Nat): ∀ (a:AV) (_:sizeOf a<N) (t:Ty) (p k k' :List Nat) (v:AV) (cs:List Value),(ZgG a p).run H k=some (v,k')->a.fits t=true->CV w g a cs->
  k' =k/\ ∃t' c1,At t p t' cs c1/\v.fits t' =true/\CV w g v c1:=by
 induction N with
 |zero=>omega
 |succ N ihN=>
 intro a ha t p k k' v cs h hf hc
 match p with
 | []=>
  have:ZgG a []= .ret a:=by cases a<;>rfl
  rw[this]at h;obtain⟨rfl,rfl⟩:=Vd (Option.some.inj h)
  exact⟨rfl,t,cs,⟨0,[],[],by cases t<;>rfl,by simp,rfl⟩,hf,hc⟩
 |n::p=>
  cases a with
  |d t0 x=>
   simp only[AV.fits,beq_iff_eq]at hf;subst hf;simp only[ZgG,Acc.run_bind]at h
   cases hs: (Zeh t0 x (n::p)).run H k with
   |none=>grind
   |some q=>
    rw[hs]at h;simp only[Vb,Acc.run]at h;obtain⟨rfl,rfl⟩:=Vd (Option.some.inj h);obtain⟨e,c1,h1,h2⟩:=ZeT (n::p) t0 x k q.2 q.1 cs hs (by assumption)
    exact⟨e,q.1.1,c1,h1,by simp [AV.fits],by assumption⟩
  |agg l=>
   simp only[ZgG]at h
   exact Zlq l t n p k k' v cs (by grind) h (by assumption) (by assumption)
  |_=>simp [ZgG,Acc.run]at h
theorem Zf2{w:World}{g:Gh}{H:AH}{a:AV}{t:Ty}{p k k' :List Nat}{v:AV}{cs:List Value}(h: (ZgG a p).run H k=some (v,k'))(hf:a.fits t=true)(hc:CV w g a cs):
  k' =k/\ ∃t' c1,At t p t' cs c1/\v.fits t' =true/\CV w g v c1:=Zlu (sizeOf a+1) a (by omega) t p k k' v cs h hf hc
theorem Zgs{w:World}{g:Gh} : ∀ (t:Ty) (x:El t) (cs:List Value),(Zby t x).fits t=true->Rd w g.I t x cs->CVs w g (Zby t x) cs:=by
 intro t
 induction t with
 |prod a b _ ihb=>
  intro x cs hf h;obtain⟨c1,c2,h1,h2,h3⟩:=h;simp only[Zby,AVs.fits,Vf]at hf;simp only[Zby,CVs]
  exact⟨c1,c2,h1,by assumption,by grind⟩
 |unit=>intro x cs _ h;assumption
 |_=>intro x cs hf;simp [Zby,AVs.fits]at hf
structure Put (t:Ty) (p:List Nat) (cs d:List Value) (o:Nat) (pre c1 post:List Value) (t1:Ty):Prop where
 off:Zbh t p=some (o,t1)
 cs:cs=pre++c1++post
 len:pre.length=o
 eq:c1.length=d.length
theorem Zhk{w:World}{g:Gh}{H:AH} : ∀ (l:AVs) (t:Ty) (n:Nat) (p k k' :List Nat) (v:AV) (m:AVs) (cs d:List Value),
  (ZcM t l n p v).run H k=some (m,k')->l.fits t=true->CVs w g l cs->CV w g v d->k' =k/\ ∃o pre c1 post t1,Put t (n::p) cs d o pre c1 post t1/\m.fits t=true/\CVs w g m (pre++d++post):=by
 intro l
 induction l using AVs.rec (motive_1:=fun _=>True) with
 |nil=>intro t n p k k' v m cs d h;cases t<;>simp [ZcM,Acc.run]at h
 |cons a l _ ih=>
  intro t n p k k' v m cs d h hf hc hd
  cases t<;>simp only[AVs.fits,Vf,Vg]at hf
  rename_i ta tb;simp only[CVs]at hc;obtain⟨c1,c2,h1,h2,h3⟩:=hc
  cases n with
  |zero=>
   match p with
   | []=>
    simp only[ZcM]at h
    cases hv:v.fits ta with
    |false=>rw[hv]at h;simp [Acc.run]at h
    |true=>
     rw[hv]at h;obtain⟨rfl,rfl⟩:=Vd (Option.some.inj (by assumption))
     refine⟨rfl,0,[],c1,c2,ta,⟨by cases ta<;>rfl,by grind,rfl, ?_⟩,by simp [AVs.fits,hv,hf.2],d,c2,by simp,hd,h3⟩
     rw[CV.length a ta c1 hf.1 h2,CV.length v ta d hv hd]
   |q::p=>
    cases a with
    |d t0 x=>
     have ht:t0=ta:=by simpa [AV.fits] using hf.1
     subst ht
     cases v with
     |d t1 y=>
      simp only[ZcM,Acc.run_bind]at h
      cases hs: (Zc3 t0 x (q::p) ⟨t1,y⟩).run H k with
      |none=>grind
      |some r=>
       rw[hs]at h;obtain⟨rfl,rfl⟩:=Vd (Option.some.inj (by assumption));obtain⟨e,o,pre,kk,post,h4,h5,h6,h7,h8⟩:=ZeL (q::p) t0 x k r.2 ⟨t1,y⟩ r.1 c1 d hs (by assumption) (by assumption)
       exact⟨e,o,pre,kk,post++c2,t1,⟨by assumption,by grind,h6,h7⟩,by simp [AVs.fits,AV.fits,hf.2],pre++d++post,c2,by simp,by assumption,h3⟩
     |_=>simp [ZcM,Acc.run]at h
    |_=>simp [ZcM,Acc.run]at h
  |succ n=>
   simp only[ZcM,Acc.run_bind]at h
   cases hs: (ZcM tb l n p v).run H k with
   |none=>grind
   |some r=>
    rw[hs]at h;obtain⟨rfl,rfl⟩:=Vd (Option.some.inj (by assumption));obtain⟨e,o,pre,kk,post,t1,⟨h4,h5,h6,h7⟩,h8,h9⟩:=ih tb n p k r.2 v r.1 c2 d hs hf.2 h3 hd;refine⟨e,o+ta.size,c1++pre,kk,post,t1,⟨by simp [Zbh,h4],by grind, ?_,h7⟩,by simp [AVs.fits,hf.1,h8],c1,pre++d++post,by simp,h2,h9⟩
    rw[Vc,CV.length a _ _ hf.1 h2,h6];omega
 |_=>trivial
theorem Zaz(t:Ty):Zbh t []=some (0,t):=by cases t<;>rfl
theorem ZnC{w:World}{g:Gh}{H:AH}{t:Ty}{c:AV}{p k k' :List Nat}{v c' :AV}{cs d:List Value}(h: (Zlc t c p v).run H k=some (c',k'))(hf:c.fits t=true)(hc:CV w g c cs)(hd:CV w g v d)
  (hlen:cs.length=t.size):k' =k/\ ∃o pre c1 post t1,Put t p cs d o pre c1 post t1/\c'.fits t=true/\CV w g c' (pre++d++post):=by
 match p with
 | []=>
  simp only[Zlc]at h
  cases hv:v.fits t with
  |false=>rw[hv]at h;simp [Acc.run]at h
  |true=>
   rw[hv]at h;obtain⟨rfl,rfl⟩:=Vd (Option.some.inj (by assumption));refine⟨rfl,0,[],cs,[],t,⟨Zaz t,by simp,rfl, ?_⟩,hv,by grind⟩
   rw[hlen,CV.length v t d hv hd]
 |n::q=>
  cases c with
  |agg l=>
   simp only[Zlc,Acc.run_bind]at h
   cases hs: (ZcM t l n q v).run H k with
   |none=>grind
   |some r=>
    rw[hs]at h;obtain⟨rfl,rfl⟩:=Vd (Option.some.inj (by assumption));obtain⟨e,o,pre,kk,post,t1,h4,h8,h9⟩:=Zhk l t n q k r.2 v r.1 cs d hs (by assumption) (by assumption) hd
    exact⟨e,o,pre,kk,post,t1,h4,by assumption,by assumption⟩
  |d t0 x=>
   have ht:t0=t:=by simpa [AV.fits] using hf
   subst ht;have hx:Rd w g.I t0 x cs:=by assumption
   have other: (bif (Zby t0 x).fits t0 then(ZcM t0 (Zby t0 x) n q v).bind fun l=> .ret (.agg l) else Acc.fail:Acc AV).run H k=some (c',k')->
     k' =k/\ ∃o pre c1 post t1,Put t0 (n::q) cs d o pre c1 post t1/\c'.fits t0=true/\CV w g c' (pre++d++post):=by
    intro h
    cases he: (Zby t0 x).fits t0 with
    |false=>rw[he]at h;simp [Acc.run]at h
    |true=>
     rw[he]at h;simp only[cond_true,Acc.run_bind]at h
     cases hs: (ZcM t0 (Zby t0 x) n q v).run H k with
     |none=>grind
     |some r=>
      rw[hs]at h;obtain⟨rfl,rfl⟩:=Vd (Option.some.inj (by assumption));obtain⟨e,o,pre,kk,post,t1,h4,h8,h9⟩:=Zhk _ t0 n q k r.2 v r.1 cs d hs he (Zgs t0 x cs he hx) hd;exact⟨e,o,pre,kk,post,t1,h4,by assumption,by assumption⟩
   cases v with
   |d t1 y=>
    simp only[Zlc,Acc.run_bind]at h
    cases hs: (Zc3 t0 x (n::q) ⟨t1,y⟩).run H k with
    |none=>grind
    |some r=>
     rw[hs]at h;obtain⟨rfl,rfl⟩:=Vd (Option.some.inj (by assumption));obtain⟨e,o,pre,kk,post,h4,h5,h6,h7,h8⟩:=ZeL (n::q) t0 x k r.2 ⟨t1,y⟩ r.1 cs d hs hx (by assumption)
     exact⟨e,o,pre,kk,post,t1,⟨h4,h5,h6,h7⟩,by assumption,by assumption⟩
   |_=>exact other h
  |_=>simp [Zlc,Acc.run]at h
end Tr
