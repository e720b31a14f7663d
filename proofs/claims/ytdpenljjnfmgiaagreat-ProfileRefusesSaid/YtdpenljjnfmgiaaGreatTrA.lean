/- The data of the abstract machine: type codes, their Lean types, what it means that cells of memory read as a datum; abstract values, and what it means that a value of the model is one. Conditions: none (definitions and monotonicity). -/
import Derived.Orders
import Derived.Laws.Cells
import Derived.Laws.CopyRow
import Derived.Laws.Tables
import Derived.Laws.Rows
import Derived.Laws.World
open Nat renaming le_trans ->Va
namespace Tr
open Go
inductive Ty where
 |int (k:IntKind)
 |bool
 |str
 |sl (t:Ty)
 |unit
 |prod (a b:Ty)
 |arr (n:Nat) (t:Ty)
 |ref
 deriving DecidableEq
@[reducible] def El:Ty->Type
 | .int _=>Int
 | .bool=>Bool
 | .str=>List UInt8
 | .sl t=>List (El t)
 | .unit=>Unit
 | .prod a b=>El a×El b
 | .arr _ t=>List (El t)
 | .ref=>Unit
def Ty.size:Ty->Nat
 | .unit=>0
 | .prod a b=>a.size+b.size
 | .arr n t=>n*t.size
 |_=>1
def Ty.agg:Ty->Bool
 | .unit=>true
 | .prod _ _=>true
 | .arr _ _=>true
 |_=>false
def ZcC(w:World)(b off:Nat)(l:List Value):Prop:= ∀j,(h:j<l.length)->w.cell? ⟨b,off+j,none⟩=some l[j]
def Fa{α β:Type}(r:α->β->Prop):List α->List β->Prop
 | [],[]=>True
 |a::l,b::m=>r a b/\Fa r l m
 |_,_=>False
def Rd(w:World)(I:Nat->Prop): (t:Ty)->El t->List Value->Prop
 | .int k,x,cs=>cs=[.int k x]
 | .bool,x,cs=>cs=[.bool x]
 | .str,x,cs=>cs=[.string ⟨x.toArray⟩]
 | .sl t,x,cs=> ∃a cap css,cs=[.slice a x.length cap]/\Fa (Rd w I t) x css/\(x≠ []-> ∃b off,a=some ⟨b,off,none⟩/\I b/\ZcC w b off css.flatten)/\x.length<=cap
 | .unit,_,cs=>cs=[]
 | .prod a b,x,cs=> ∃c1 c2,cs=c1++c2/\Rd w I a x.1 c1/\Rd w I b x.2 c2
 | .arr n t,x,cs=>x.length=n/\ ∃css,cs=css.flatten/\Fa (Rd w I t) x css
 | .ref,_,_=>False
theorem Fa.mono{α β:Type}{r s:α->β->Prop}(h: ∀a b,r a b->s a b): ∀ {l:List α}{m:List β},Fa r l m->Fa s l m
 | [],[],_=>trivial
 |_::_,_::_,⟨p,q⟩=>⟨h _ _ p,Fa.mono h q⟩
theorem Fa.length{α β:Type}{r:α->β->Prop} : ∀ {l:List α}{m:List β},Fa r l m->l.length=m.length
 | [],[],_=>rfl
 |_::_,_::_,⟨_,q⟩=>by simp [Fa.length q]
theorem Fa.get{α β:Type}{r:α->β->Prop} : ∀ {l:List α}{m:List β} (_:Fa r l m) (i:Nat) (a:α),l[i]? =some a-> ∃b,m[i]? =some b/\r a b
 | [],[],_,i,a,h=>by grind
 |x::l,y::m,⟨p,q⟩,i,a,h=>by
  cases i with
  |zero=>grind
  |succ i=>simp at h;obtain⟨b,h1,h2⟩:=Fa.get q i a h;grind
theorem Fa.append{α β:Type}{r:α->β->Prop} : ∀ {l l' :List α}{m m' :List β},Fa r l m->Fa r l' m' ->Fa r (l++l') (m++m')
 | [],_,[],_,_,h=>h
 |_::_,_,_::_,_,⟨p,q⟩,h=>⟨p,Fa.append q h⟩
theorem Fa.take{α β:Type}{r:α->β->Prop} : ∀ {l:List α}{m:List β} (n:Nat),Fa r l m->Fa r (l.take n) (m.take n)
 | [],[],n,_=>by grind
 |_::_,_::_,0,_=>by simp [Fa]
 |_::_,_::_,n+1,⟨p,q⟩=>by simp only[List.take_succ_cons];exact⟨p,Fa.take n q⟩
theorem Fa.drop{α β:Type}{r:α->β->Prop} : ∀ {l:List α}{m:List β} (n:Nat),Fa r l m->Fa r (l.drop n) (m.drop n)
 | [],[],n,_=>by grind
 |_::_,_::_,0,h=>h
 |_::_,_::_,n+1,⟨_,q⟩=>by simp only[List.drop_succ_cons];exact Fa.drop n q
theorem Fa.set{α β:Type}{r:α->β->Prop} : ∀ {l:List α}{m:List β} (n:Nat) {a:α}{b:β},Fa r l m->r a b->Fa r (l.set n a) (m.set n b)
 | [],[],_,_,_,_,_=>by grind
 |_::_,_::_,0,_,_,⟨_,q⟩,h=>⟨h,q⟩
 |_::_,_::_,n+1,_,_,⟨p,q⟩,h=>⟨p,Fa.set n q h⟩
theorem Fa.eraseIdx{α β:Type}{r:α->β->Prop} : ∀ {l:List α}{m:List β} (n:Nat),Fa r l m->Fa r (l.eraseIdx n) (m.eraseIdx n)
 | [],[],_,_=>trivial
 |_::_,_::_,0,⟨_,q⟩=>q
 |_::_,_::_,n+1,⟨p,q⟩=>⟨p,Fa.eraseIdx n q⟩
def ZaV(I:Nat->Prop)(w w' :World):Prop:= ∀b,I b->w'.heap[b]? =w.heap[b]?
theorem Zil{w w' :World}{a:Addr}(h:w'.heap[a.block]? =w.heap[a.block]?):w'.cell? a=w.cell? a:=by simp [World.cell?,h]
theorem ZcC.mono{w w' :World}{b off:Nat}{l:List Value}(h:w'.heap[b]? =w.heap[b]?)(hl:ZcC w b off l):ZcC w' b off l:=by intro j hj;rw[Zil (by simpa using h)];exact hl j hj
theorem Rd.mono{w w' :World}{I I' :Nat->Prop}(hw:ZaV I w w')(hI: ∀b,I b->I' b): ∀ (t:Ty) (x:El t) (cs:List Value),Rd w I t x cs->Rd w' I' t x cs
 | .int _,_,_,h=>h
 | .bool,_,_,h=>h
 | .str,_,_,h=>h
 | .sl t,x,cs,h=>by
  obtain⟨a,cap,css,h1,h2,h3,h7⟩:=h;refine⟨a,cap,css,h1,h2.mono fun y c hy=>Rd.mono hw hI t y c hy,fun hne=> ?_,h7⟩;obtain⟨b,off,h4,h5,h6⟩:=h3 hne
  exact⟨b,off,h4,hI _ h5,h6.mono (hw _ h5)⟩
 | .unit,_,_,h=>h
 | .prod a b,x,cs,h=>by
  obtain⟨c1,c2,h1,h2,h3⟩:=h
  exact⟨c1,c2,h1,Rd.mono hw hI a _ _ h2,Rd.mono hw hI b _ _ h3⟩
 | .arr n t,x,cs,h=>by
  obtain⟨h1,css,h2,h3⟩:=h
  exact⟨h1,css,h2,h3.mono fun y c hy=>Rd.mono hw hI t y c hy⟩
 | .ref,_,_,h=>h.elim
theorem Zap{css:List (List Value)}{n:Nat}(h: ∀c∈css,c.length=n):css.flatten.length=css.length*n:=by
 induction css with
 |nil=>simp
 |cons c l ih=>
  grind
theorem Fa.all_right{α β:Type}{r:α->β->Prop}{p:β->Prop}(hp: ∀a b,r a b->p b): ∀ {l:List α}{m:List β},Fa r l m-> ∀b∈m,p b
 | [],[],_=>by simp
 |_::_,y::m,⟨h,q⟩=>by
  intro b hb;simp at hb;rcases hb with rfl|hb
  ·grind
  ·exact Fa.all_right hp q b hb
theorem Rd.length{w:World}{I:Nat->Prop} : ∀ (t:Ty) (x:El t) (cs:List Value),Rd w I t x cs->cs.length=t.size
 | .int _,_,_,h=>by rw[h];rfl
 | .bool,_,_,h=>by rw[h];rfl
 | .str,_,_,h=>by rw[h];rfl
 | .sl t,x,cs,h=>by
  obtain⟨a,cap,css,h1,_⟩:=h
  rw[h1];rfl
 | .unit,_,_,h=>by rw[h];rfl
 | .prod a b,x,cs,h=>by
  obtain⟨c1,c2,h1,h2,h3⟩:=h
  rw[h1,List.length_append,Rd.length a _ _ h2,Rd.length b _ _ h3];rfl
 | .arr n t,x,cs,h=>by
  obtain⟨h1,css,h2,h3⟩:=h
  rw[h2,Zap (h3.all_right fun y c hy=>Rd.length t y c hy), <-h3.length,h1];rfl
 | .ref,_,_,h=>h.elim
theorem Rd.all_length{w:World}{I:Nat->Prop}{t:Ty}{x:List (El t)}{css:List (List Value)}(h:Fa (Rd w I t) x css): ∀c∈css,c.length=t.size:=
 h.all_right fun y c hy=>Rd.length t y c hy
mutual
inductive AV where
 |d (t:Ty) (x:El t)
 |junk
 |tup (l:AVs)
 |agg (l:AVs)
 |dp (t:Ty) (x:El t)
 |ptr (id:Nat) (path:List Nat)
 |vw (id:Nat)
 |vs (id lo n:Nat)
 |vp (id i:Nat) (path:List Nat)
 |mp (id:Nat)
 |fn (f:FuncId) (caps:AVs)
 |nilr
 |nils
 |jk (n:Nat)
 |nw (id ver:Nat) (kt:Ty) (k:El kt)
 |np (id ver:Nat) (kt:Ty) (k:El kt) (i:Nat) (path:List Nat)
inductive AVs where
 |nil
 |cons (v:AV) (l:AVs)
end
def Zbh:Ty->List Nat->Option (Nat×Ty)
 |t,[]=>some (0,t)
 | .prod a b,i::p=>match i with
  |0=>Zbh a p
  |n+1=>(Zbh b (n::p)).map fun r=>(r.1+a.size,r.2)
 | .arr n t,i::p=>if i<n then(Zbh t p).map fun r=>(r.1+i*t.size,r.2) else none
 |_,_::_=>none
def Zo9:Ty->List Nat->Option Ty
 |t,[]=>some t
 | .prod a b,i::p=>match i with
  |0=>Zo9 a p
  |n+1=>Zo9 b (n::p)
 | .arr _ t,_::p=>Zo9 t p
 |_,_::_=>none
structure Gh where
 I:Nat->Prop
 K:Nat->Prop
 ty:Nat->Ty
 blk:Nat->Option Nat
 slv:Nat->Value
 ver:Nat->Nat
 row:Nat->(kt:Ty)->El kt->Value
structure Gh.Le (g g' :Gh):Prop where
 I: ∀b,g.I b->g'.I b
 K: ∀id,g.K id->g'.K id
 ty: ∀id,g.K id->g'.ty id=g.ty id
 blk: ∀id,g.K id->g'.blk id=g.blk id
 slv: ∀id,g.K id->g'.slv id=g.slv id
 ver: ∀id,g.K id->g.ver id<=g'.ver id
 row: ∀id,g.K id->g'.ver id=g.ver id->g'.row id=g.row id
theorem Gh.Le.refl(g:Gh):g.Le g:=⟨fun _ h=>h,fun _ h=>h,by simp,by simp,by simp,by omega,by simp⟩
theorem Gh.Le.trans{a b c:Gh}(h:a.Le b)(k:b.Le c):a.Le c:=
 ⟨fun i p=>k.I _ (h.I i p),fun i p=>k.K _ (h.K i p),fun i p=>(k.ty _ (h.K i p)).trans (h.ty i p),fun i p=>(k.blk _ (h.K i p)).trans (h.blk i p),fun i p=>(k.slv _ (h.K i p)).trans (h.slv i p),fun i p=>Va (h.ver i p) (k.ver _ (h.K i p)),fun i p e=>by have h1:=h.ver i p;have h2:=k.ver _ (h.K i p);exact(k.row _ (h.K i p) (by omega)).trans (h.row i p (by omega))⟩
def ety:Ty->Ty
 | .sl t=>t
 |t=>t
def Zds(v:Value)(size lo n:Nat)(cs:List Value):Prop:=
 (v= .slice none 0 0/\lo=0/\n=0/\cs=[.slice none 0 0])\/
 ∃b len cap m,v= .slice (some ⟨b,0,none⟩) len cap/\lo+n<=len/\n<=m/\lo+m<=cap/\cs=[.slice (some ⟨b,if m=0 then 0 else lo*size,none⟩) n m]
mutual
def CV(w:World)(g:Gh):AV->List Value->Prop
 | .d t x,cs=>Rd w g.I t x cs
 | .junk,_=>True
 | .tup _,_=>False
 | .agg l,cs=>CVs w g l cs
 | .dp t x,cs=> ∃b off c,cs=[.pointer (some ⟨b,off,none⟩)]/\g.I b/\ZcC w b off c/\Rd w g.I t x c
 | .ptr id p,cs=>g.K id/\ ∃o t b,Zbh (g.ty id) p=some (o,t)/\g.blk id=some b/\cs=[.pointer (some ⟨b,o,none⟩)]
 | .vw id,cs=>g.K id/\cs=[g.slv id]/\(g.slv id).oneCell'=true
 | .vs id lo n,cs=>g.K id/\Zds (g.slv id) (g.ty id).size lo n cs
 | .vp id i p,cs=>g.K id/\ ∃o t b,Zbh (g.ty id) p=some (o,t)/\g.blk id=some b/\cs=[.pointer (some ⟨b,i* (g.ty id).size+o,none⟩)]
 | .mp id,cs=>g.K id/\ ∃b,g.blk id=some b/\cs=[.map (some b)]
 | .fn f l,cs=> ∃cc:List Value,cs=[.func (.func f) #[] cc.toArray]/\CVs w g l cc
 | .nilr,cs=>cs=[.pointer none]\/cs=[.nilFunc]\/cs=[.map none]
 | .nils,cs=>cs=[.slice none 0 0]
 | .jk n,cs=>cs.length=n/\ ∀v∈cs,v.oneCell' =true
 | .nw id ver kt k,cs=>g.K id/\ver<=g.ver id/\ ∃v,cs=[v]/\v.oneCell' =true/\(g.ver id=ver->v=g.row id kt k)
 | .np id ver kt k i p,cs=>g.K id/\ver<=g.ver id/\ ∃a,cs=[.pointer (some a)]/\(g.ver id=ver-> ∃b len cap o t,g.row id kt k= .slice (some ⟨b,0,none⟩) len cap/\Zbh (ety (g.ty id)) p=some (o,t)/\a=⟨b,i* (ety (g.ty id)).size+o,none⟩)
def CVs(w:World)(g:Gh):AVs->List Value->Prop
 | .nil,cs=>cs=[]
 | .cons v l,cs=> ∃c1 c2,cs=c1++c2/\CV w g v c1/\CVs w g l c2
end
mutual
theorem CV.mono{w w' :World}{g g' :Gh}(hw:ZaV g.I w w')(hg:g.Le g'): ∀ (v:AV) (cs:List Value),CV w g v cs->CV w' g' v cs
 | .d t x,cs,h=>Rd.mono hw hg.I t x cs h
 | .junk,_,_=>by simp [CV]
 | .tup _,_,h=>by simp [CV]at h
 | .agg l,cs,h=>by simp only[CV]at h ⊢;exact CVs.mono hw hg l cs h
 | .dp t x,cs,h=>by
  simp only[CV]at h ⊢;obtain⟨b,off,c,h1,h2,h3,h4⟩:=h
  exact⟨b,off,c,h1,hg.I _ h2,h3.mono (hw _ h2),Rd.mono hw hg.I t x c h4⟩
 | .ptr id p,cs,h=>by
  simp only[CV]at h ⊢;obtain⟨hk,o,t,b,h1,h2,h3⟩:=h
  exact⟨hg.K _ hk,o,t,b,by rw[hg.ty _ hk];exact h1,by rw[hg.blk _ hk];exact h2,h3⟩
 | .vw id,cs,h=>by
  simp only[CV]at h ⊢
  exact⟨hg.K _ h.1,by rw[hg.slv _ h.1];exact h.2⟩
 | .vs id lo n,cs,h=>by
  simp only[CV]at h ⊢
  exact⟨hg.K _ h.1,by rw[hg.slv _ h.1,hg.ty _ h.1];exact h.2⟩
 | .vp id i p,cs,h=>by
  simp only[CV]at h ⊢;obtain⟨hk,o,t,b,h1,h2,h3⟩:=h
  exact⟨hg.K _ hk,o,t,b,by rw[hg.ty _ hk];exact h1,by rw[hg.blk _ hk];exact h2,by rw[hg.ty _ hk];exact h3⟩
 | .mp id,cs,h=>by
  simp only[CV]at h ⊢;obtain⟨hk,b,h1,h2⟩:=h
  exact⟨hg.K _ hk,b,by rw[hg.blk _ hk];exact h1,h2⟩
 | .fn f l,cs,h=>by
  simp only[CV]at h ⊢;obtain⟨cc,h1,h2⟩:=h
  exact⟨cc,h1,CVs.mono hw hg l cc h2⟩
 | .nilr,_,h=>by simpa only[CV] using h
 | .nils,_,h=>by simpa only[CV] using h
 | .jk _,_,h=>by simpa only[CV] using h
 | .nw id ver kt k,cs,h=>by
  simp only[CV]at h ⊢;obtain⟨hk,hv,v,h1,h2,h3⟩:=h;have hle:=hg.ver _ hk
  exact⟨hg.K _ hk,Va hv hle,v,h1,h2,fun e=>by rw[hg.row _ hk (by omega)];exact h3 (by omega)⟩
 | .np id ver kt k i p,cs,h=>by simp only[CV]at h ⊢;obtain⟨hk,hv,a,h1,h3⟩:=h;have hle:=hg.ver _ hk;exact⟨hg.K _ hk,Va hv hle,a,h1,fun e=>by rw[hg.row _ hk (by omega),hg.ty _ hk];exact h3 (by omega)⟩
theorem CVs.mono{w w' :World}{g g' :Gh}(hw:ZaV g.I w w')(hg:g.Le g'): ∀ (l:AVs) (cs:List Value),CVs w g l cs->CVs w' g' l cs
 | .nil,_,h=>by simpa only[CVs] using h
 | .cons v l,cs,h=>by simp only[CVs]at h ⊢;obtain⟨c1,c2,h1,h2,h3⟩:=h;exact⟨c1,c2,h1,CV.mono hw hg v c1 h2,CVs.mono hw hg l c2 h3⟩
end
def AV.isAgg:AV->Bool
 | .d t _=>t.agg
 | .agg _=>true
 |_=>false
def Zav:Value->Bool
 | .agg _=>true
 |_=>false
def VR1(w:World)(g:Gh)(a:AV)(v:Value):Prop:=CV w g a v.cells.toList/\(a= .junk\/Zav v=a.isAgg)
def VRs(w:World)(g:Gh):AVs->List Value->Prop
 | .nil,vs=>vs=[]
 | .cons a l,vs=> ∃v r,vs=v::r/\VR1 w g a v/\VRs w g l r
def VR(w:World)(g:Gh):AV->Value->Prop
 | .tup l,v=> ∃vs:List Value,v= .tuple vs.toArray/\VRs w g l vs
 |a,v=>VR1 w g a v
theorem VR1.mono{w w' :World}{g g' :Gh}(hw:ZaV g.I w w')(hg:g.Le g'){a:AV}{v:Value}(h:VR1 w g a v):VR1 w' g' a v:=⟨CV.mono hw hg _ _ h.1,h.2⟩
theorem VRs.mono{w w' :World}{g g' :Gh}(hw:ZaV g.I w w')(hg:g.Le g'): ∀ {l:AVs}{vs:List Value},VRs w g l vs->VRs w' g' l vs
 | .nil,_,h=>h
 | .cons _ _,_,h=>by obtain⟨v,r,h1,h2,h3⟩:=h;exact⟨v,r,h1,h2.mono hw hg,h3.mono hw hg⟩
theorem VR.mono{w w' :World}{g g' :Gh}(hw:ZaV g.I w w')(hg:g.Le g'){a:AV}{v:Value}(h:VR w g a v):VR w' g' a v:=by
 cases a with
 |tup l=>obtain⟨vs,h1,h2⟩:=h;exact⟨vs,h1,h2.mono hw hg⟩
 |_=>exact VR1.mono hw hg h
theorem Zdj{w:World}{g:Gh}{v:Value} :VR w g .junk v:=⟨by simp [CV], .inl rfl⟩
end Tr
